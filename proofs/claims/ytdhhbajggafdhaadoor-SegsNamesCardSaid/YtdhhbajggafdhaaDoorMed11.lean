import Derived.Test.YtdhhbajggafdhaaDoorMed10
/- New; List; Room, Power, SetRoom, Arm. -/
namespace Go.Proofs.YtdhhbajggafdhaaDoor
open Go Go.Sl Go.Med Go.MapKept Go.RowKit
section
variable {w0 w : World} {F : List HProp} {m fb nb b r : Nat} {M : Med} {bs : List Nat} {wv v bv : Value} {s : ByteArray} {l : Names} {fs : List Fil} {K : Nat}
set_option maxHeartbeats 1000000 in
theorem new_no (room : Int) (hr : room < 0 ∨ 16777216 < room) (w : World) :
    Calls Tryd.prog 17 #[.int .i64 room] w (Rtn fun v w' => v = .tuple #[.pointer none, errno 2] ∧ w = w') := by
  go_enter Tryd.func17, Tryd.ntmps17
  rcases hr with h1 | h1
  · go_wp2
    go_ret2
    exact ⟨_, rfl, rfl, rfl⟩
  · have h2 : decide (room < 0) = false := by rw [decide_eq_false_iff_not]; omega
    go_wp2
    go_ret2
    exact ⟨_, rfl, rfl, rfl⟩
set_option maxHeartbeats 1000000 in
theorem new_yes (room : Nat) (hr : room ≤ 16777216) (h : Sat w0 w F) :
    Calls Tryd.prog 17 #[.int .i64 room] w (Rtn fun v w' => ∃ m, v = .tuple #[ptr m, errno 0] ∧ Sat w0 w' (MedRep m (Med.new room) :: F)) := by
  have h2 : decide ((room : Int) < 0) = false := by rw [decide_eq_false_iff_not]; omega
  have h3 : decide (16777216 < (room : Int)) = false := by rw [decide_eq_false_iff_not]; omega
  have hmm := @run_makeMap Tryd.prog
  have hA := ((h.omap_new .string).omap_new .string)
  have hB := hA.alloc (.cells #[.int .i64 room, .map (some w.heap.size), .map (some (w.heap.size + 1)), .slice none 0 0, .bool false, .int .i64 0, .bool false] 94)
  go_enter Tryd.func17, Tryd.ntmps17
  go_wp2
  go_ret2
  refine ⟨_, rfl, _, rfl, ?_⟩
  refine MedRep.shut (bs := []) (fb := w.heap.size) (nb := w.heap.size + 1) (wv := .slice none 0 0) rfl ?_
  have h5 : Sat w0 _ (osl 115 3 (.slice none 0 0) [] :: Sl.emp :: _ :: _ :: _ :: F) := Sat.osl_nil.2 (Sat.emp.2 hB)
  simp only [World.size_alloc] at h5
  exact h5.sel 5 [2, 3, 1, 4, 0] rfl rfl
set_option maxHeartbeats 1000000 in
theorem list_c (hM : M.Ok K) (h : Sat w0 w (MedRep m M :: F)) :
    Calls Tryd.prog 24 #[ptr m] w (Rtn fun v w' => Sat w0 w' (osl 9 1 v (strs M.list) :: MedRep m M :: F) ∧ ∃ a n c, v = .slice a n c) := by
  obtain ⟨bs, fb, nb, wv, hl, hR⟩ := MedRep.open h
  have hd := dead_c hR
  have c2 := hR.cellAt 2 _ rfl
  cases ho : M.off
  · rw [ho] at hd
    have hnm := names_c (hR.sel 5 [1, 0, 2, 3, 4] rfl rfl) hM.nowOk.srt (by have := hM.nowOk.len; omega)
    have Hfin : Hid (M.list = M.now.map (·.1)) := by show _ = _; simp [Med.list, ho]
    clear ho
    go_enter Tryd.func24, Tryd.ntmps24
    go_wp2_with (first | (go_at_call 55; refine hd.mono ?_; rintro e w1 ⟨v, rfl, rfl, rfl⟩) | (go_at_call 56; go_must (refine hnm.mono ?_); rintro e w1 ⟨v, rfl, hS, a1, n1, k1, rfl⟩))
    go_ret
    refine ⟨_, rfl, ?_, _, _, _, rfl⟩
    rw [Hfin.out]
    exact (MedRep.shut hl (hS.sel 6 [2, 1, 3, 4, 5, 0] rfl rfl)).pick1
  · rw [ho] at hd
    have Hfin : Hid (M.list = []) := by show _ = _; simp [Med.list, ho]
    clear ho
    go_enter Tryd.func24, Tryd.ntmps24
    go_wp2_with (go_at_call 55; refine hd.mono ?_; rintro e w1 ⟨v, rfl, rfl, rfl⟩)
    go_ret
    refine ⟨.slice none 0 0, rfl, ?_, _, _, _, rfl⟩
    rw [Hfin.out]
    exact Sat.osl_nil.2 h
set_option maxHeartbeats 1000000 in
theorem room_c (h : Sat w0 w (MedRep m M :: F)) :
    Calls Tryd.prog 28 #[ptr m] w (Rtn fun v w' => v = .int .i64 M.room ∧ w = w') := by
  obtain ⟨bs, fb, nb, wv, hl, hR⟩ := MedRep.open h
  have c0 := hR.cellAt 0 _ rfl
  go_enter Tryd.func28, Tryd.ntmps28
  go_wp2
  go_ret
  exact ⟨_, rfl, rfl, rfl⟩
set_option maxHeartbeats 1000000 in
theorem used_rep (hM : M.Ok K) (h : Sat w0 w (MedRep m M :: F)) :
    Calls Tryd.prog 22 #[ptr m] w (Rtn fun v w' => v = .int .i64 M.usedTold ∧ Sat w0 w' (MedRep m M :: F)) := by
  obtain ⟨bs, fb, nb, wv, hl, hR⟩ := MedRep.open h
  refine (used_c hR hl hM.nowOk.ids (by have := hM.used_le; omega)).mono ?_
  rintro e w1 ⟨v, rfl, rfl, hS⟩
  exact ⟨_, rfl, rfl, MedRep.shut hl hS⟩
set_option maxHeartbeats 1000000 in
theorem setRoom_c (h : Sat w0 w (MedRep m M :: F)) (n : Int) :
    Calls Tryd.prog 21 #[ptr m, .int .i64 n] w (Rtn fun v w' => v = errno (M.setRoom n).2 ∧ Sat w0 w' (MedRep m (M.setRoom n).1 :: F)) := by
  obtain ⟨bs, fb, nb, wv, hl, hR⟩ := MedRep.open h
  have hd := dead_c hR
  have f0 := hR.freeAt 0
  have c0 := hR.cellAt 0 _ rfl
  cases ho : M.off
  · rw [ho] at hd
    by_cases h1 : n < 0
    · have Hfin : Hid (M.setRoom n = (M, 2)) := by show _ = _; simp [Med.setRoom, ho, h1]
      clear ho
      go_enter Tryd.func21, Tryd.ntmps21
      go_wp2_with (go_at_call 55; refine hd.mono ?_; rintro e w1 ⟨v, rfl, rfl, rfl⟩)
      go_ret
      exact ⟨errno 2, rfl, by rw [Hfin.out], by rw [Hfin.out]; exact h⟩
    have h1' : decide (n < 0) = false := by rw [decide_eq_false_iff_not]; omega
    by_cases h2 : 16777216 < n
    · have Hfin : Hid (M.setRoom n = (M, 2)) := by show _ = _; simp [Med.setRoom, ho, h1, h2]
      clear ho
      go_enter Tryd.func21, Tryd.ntmps21
      go_wp2_with (go_at_call 55; refine hd.mono ?_; rintro e w1 ⟨v, rfl, rfl, rfl⟩)
      go_ret
      exact ⟨errno 2, rfl, by rw [Hfin.out], by rw [Hfin.out]; exact h⟩
    have h2' : decide (16777216 < n) = false := by rw [decide_eq_false_iff_not]; omega
    obtain ⟨n, rfl⟩ := Int.eq_ofNat_of_zero_le (show 0 ≤ n by omega)
    have Hfin : Hid (M.setRoom n = ({ M with room := n }, 0)) := by show _ = _; simp [Med.setRoom, ho, h1, h2]
    clear ho
    go_enter Tryd.func21, Tryd.ntmps21
    go_wp2_with (go_at_call 55; refine hd.mono ?_; rintro e w1 ⟨v, rfl, rfl, rfl⟩)
    go_ret
    refine ⟨errno 0, rfl, by rw [Hfin.out], ?_⟩
    rw [Hfin.out]
    refine MedRep.shut (bs := bs) (fb := fb) (nb := nb) (wv := wv) hl ?_
    exact hR.set 0 (.int .i64 n)
  · rw [ho] at hd
    have Hfin : Hid (M.setRoom n = (M, 12)) := by show _ = _; simp [Med.setRoom, ho]
    clear ho
    go_enter Tryd.func21, Tryd.ntmps21
    go_wp2_with (go_at_call 55; refine hd.mono ?_; rintro e w1 ⟨v, rfl, rfl, rfl⟩)
    go_ret
    exact ⟨errno 12, rfl, by rw [Hfin.out], by rw [Hfin.out]; exact h⟩
set_option maxHeartbeats 1000000 in
theorem arm_c (h : Sat w0 w (MedRep m M :: F)) (n : Int) :
    Calls Tryd.prog 40 #[ptr m, .int .i64 n] w (Rtn fun v w' => v = errno (M.arm n).2 ∧ Sat w0 w' (MedRep m (M.arm n).1 :: F)) := by
  obtain ⟨bs, fb, nb, wv, hl, hR⟩ := MedRep.open h
  have hd := dead_c hR
  have f4 := hR.freeAt 4
  have c4 := hR.cellAt 4 _ rfl
  have f5 := hR.freeAt 5
  have c5 := hR.cellAt 5 _ rfl
  cases ho : M.off
  · rw [ho] at hd
    by_cases h1 : n < 0
    · have Hfin : Hid (M.arm n = (M, 2)) := by show _ = _; simp [Med.arm, ho, h1]
      clear ho
      go_enter Tryd.func40, Tryd.ntmps40
      go_wp2_with (go_at_call 55; refine hd.mono ?_; rintro e w1 ⟨v, rfl, rfl, rfl⟩)
      go_ret
      exact ⟨errno 2, rfl, by rw [Hfin.out], by rw [Hfin.out]; exact h⟩
    have h1' : decide (n < 0) = false := by rw [decide_eq_false_iff_not]; omega
    obtain ⟨n, rfl⟩ := Int.eq_ofNat_of_zero_le (show 0 ≤ n by omega)
    have Hfin : Hid (M.arm n = ({ M with armed := true, left := n }, 0)) := by show _ = _; simp [Med.arm, ho, h1]
    clear ho
    go_enter Tryd.func40, Tryd.ntmps40
    go_wp2_with (go_at_call 55; refine hd.mono ?_; rintro e w1 ⟨v, rfl, rfl, rfl⟩)
    go_ret
    refine ⟨errno 0, rfl, by rw [Hfin.out], ?_⟩
    rw [Hfin.out]
    refine MedRep.shut (bs := bs) (fb := fb) (nb := nb) (wv := wv) hl ?_
    exact (hR.set 4 (.bool true)).set 5 (.int .i64 n)
  · rw [ho] at hd
    have Hfin : Hid (M.arm n = (M, 12)) := by show _ = _; simp [Med.arm, ho]
    clear ho
    go_enter Tryd.func40, Tryd.ntmps40
    go_wp2_with (go_at_call 55; refine hd.mono ?_; rintro e w1 ⟨v, rfl, rfl, rfl⟩)
    go_ret
    exact ⟨errno 12, rfl, by rw [Hfin.out], by rw [Hfin.out]; exact h⟩
end
end Go.Proofs.YtdhhbajggafdhaaDoor
