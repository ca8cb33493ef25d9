import Derived.Test.YtdhhbajggafdhaaDoorMed9
/- What a medium tells. -/
namespace Go.Proofs.YtdhhbajggafdhaaDoor
open Go Go.Sl Go.Med Go.MapKept Go.RowKit
section
variable {w0 w : World} {F : List HProp} {m fb nb b r : Nat} {M : Med} {bs : List Nat} {wv v bv : Value} {s : ByteArray} {l : Names} {fs : List Fil} {K : Nat}
set_option maxHeartbeats 1000000 in
theorem size_c (hM : M.Ok K) (h : Sat w0 w (MedRep m M :: F)) (s : ByteArray) :
    Calls Tryd.prog 48 #[ptr m, .string s] w (Rtn fun v w' => v = .tuple #[.int .i64 (M.size s).1, errno (M.size s).2] ∧ w = w') := by
  obtain ⟨bs, fb, nb, wv, hl, hR⟩ := MedRep.open h
  cases ho : M.off
  · cases hn : nget M.now s with
    | none =>
      have hf := find_none (s := s) hR ho hn
      have Hfin : Hid (M.size s = (0, 9)) := by show _ = _; simp [Med.size, ho, hn]
      clear ho hn
      go_enter Tryd.func48, Tryd.ntmps48
      go_wp2_with (go_at_call 69; refine hf.mono ?_; rintro e w1 ⟨v, rfl, rfl, rfl⟩)
      go_ret2
      exact ⟨_, rfl, by rw [Hfin.out]; rfl, rfl⟩
    | some i =>
      have hf := find_some (s := s) hR ho hn
      have hid : i < M.files.length := hM.nowOk.ids (s, i) (nget_mem hn)
      obtain ⟨fa, fn, fc, na, nc, wv', f0, f1, f2, _, _, _, hna⟩ := file_cells (hR.sel 3 [2] rfl rfl) hl hid
      have Hfin : Hid (M.size s = (((M.file i).now.length : Int), 0)) := by show _ = _; simp [Med.size, ho, hn]
      clear ho hn hna
      change w.cell? ⟨bs.getD i 0, 1, none⟩ = some (.slice na (M.file i).now.length nc) at f1
      generalize bs.getD i 0 = q at *
      go_enter Tryd.func48, Tryd.ntmps48
      go_wp2_with (go_at_call 69; refine hf.mono ?_; rintro e w1 ⟨v, rfl, rfl, rfl⟩)
      go_ret2
      refine ⟨.tuple #[.int .i64 (M.file i).now.length, errno 0], rfl, ?_, rfl⟩
      rw [Hfin.out]
  · have hf := find_off (s := s) hR ho
    have Hfin : Hid (M.size s = (0, 12)) := by show _ = _; simp [Med.size, ho]
    clear ho
    go_enter Tryd.func48, Tryd.ntmps48
    go_wp2_with (go_at_call 69; refine hf.mono ?_; rintro e w1 ⟨v, rfl, rfl, rfl⟩)
    go_ret2
    exact ⟨_, rfl, by rw [Hfin.out]; rfl, rfl⟩
set_option maxHeartbeats 1000000 in
theorem all_c (hM : M.Ok K) (h : Sat w0 w (MedRep m M :: F)) (s : ByteArray) :
    Calls Tryd.prog 58 #[ptr m, .string s] w (Rtn fun v w' => ∃ bv, v = .tuple #[bv, errno (M.all s).2] ∧ Sat w0 w' (bsl bv (M.all s).1 :: MedRep m M :: F)) := by
  obtain ⟨bs, fb, nb, wv, hl, hR⟩ := MedRep.open h
  cases ho : M.off
  · cases hn : nget M.now s with
    | none =>
      have hf := find_none (s := s) hR ho hn
      have Hfin : Hid (M.all s = ([], 9)) := by show _ = _; simp [Med.all, ho, hn]
      clear ho hn
      go_enter Tryd.func58, Tryd.ntmps58
      go_wp2_with (go_at_call 69; refine hf.mono ?_; rintro e w1 ⟨v, rfl, rfl, rfl⟩)
      go_ret2
      exact ⟨_, rfl, .slice none 0 0, by rw [Hfin.out]; rfl, by rw [Hfin.out]; exact Sat.osl_nil.2 h⟩
    | some i =>
      have hf := find_some (s := s) hR ho hn
      have hid : i < M.files.length := hM.nowOk.ids (s, i) (nget_mem hn)
      obtain ⟨fa, fn, fc, na, nc, wv', f0, f1, f2, hrd, hcap, hnc, hna⟩ := file_cells (hR.sel 3 [2] rfl rfl) hl hid
      have hcl := clone_c h hrd (by have := (hM.file i).now_len; unfold Med.file at this; omega)
      have Hfin : Hid (M.all s = ((M.file i).now, 0)) := by show _ = _; simp [Med.all, ho, hn]
      clear ho hn hrd hcap hnc hna
      change w.cell? ⟨bs.getD i 0, 1, none⟩ = some (.slice na (M.file i).now.length nc) at f1
      change Calls _ _ #[.slice na (M.file i).now.length nc] _ _ at hcl
      generalize bs.getD i 0 = q at *
      go_enter Tryd.func58, Tryd.ntmps58
      go_wp2_with (first
        | (go_at_call 69; refine hf.mono ?_; rintro e w1 ⟨v, rfl, rfl, rfl⟩)
        | (go_at_call 71; refine hcl.mono ?_; rintro e w1 ⟨v, rfl, hS, _⟩))
      go_ret2
      exact ⟨_, rfl, v, by rw [Hfin.out]; rfl, by rw [Hfin.out]; exact hS⟩
  · have hf := find_off (s := s) hR ho
    have Hfin : Hid (M.all s = ([], 12)) := by show _ = _; simp [Med.all, ho]
    clear ho
    go_enter Tryd.func58, Tryd.ntmps58
    go_wp2_with (go_at_call 69; refine hf.mono ?_; rintro e w1 ⟨v, rfl, rfl, rfl⟩)
    go_ret2
    exact ⟨_, rfl, .slice none 0 0, by rw [Hfin.out]; rfl, by rw [Hfin.out]; exact Sat.osl_nil.2 h⟩
theorem rdsl_slice {a : Option Addr} {n c lo k : Nat} {xs : List Value} (h : rdsl 1 (.slice a n c) xs w) (hk : lo + k ≤ n) (x : Option Addr) (hx : x = if c = lo then a else a.map (·.add lo)) (hc : n ≤ c) (c' : Nat) : rdsl 1 (.slice x k c') ((xs.drop lo).take k) w := by
  obtain ⟨a', n', c'', he, hl, hcell⟩ := h
  cases he
  rw [Nat.mul_one] at hl
  refine ⟨x, k, c', rfl, by simp; omega, fun i y hi => ?_⟩
  rw [List.getElem?_take] at hi
  split at hi
  · rename_i hik
    rw [List.getElem?_drop] at hi
    obtain ⟨b, hb, hy⟩ := hcell _ y hi
    subst hb
    have : ¬ c = lo := by omega
    rw [if_neg this] at hx
    refine ⟨b.add lo, by simpa using hx, ?_⟩
    have : (b.add lo).add i = b.add (lo + i) := by
      unfold Addr.add
      by_cases h1 : lo = 0
      · subst h1; simp
      · by_cases h2 : i = 0
        · subst h2; simp
        · simp [h1, h2]; omega
    rw [this]; exact hy
  · cases hi
set_option maxHeartbeats 2000000 in
theorem read_c (hM : M.Ok K) (h : Sat w0 w (MedRep m M :: F)) (s : ByteArray) (at_ n : Int) (ha : -9223372036854775808 ≤ at_ ∧ at_ ≤ 9223372036854775807) (hn : -9223372036854775808 ≤ n ∧ n ≤ 9223372036854775807) :
    Calls Tryd.prog 60 #[ptr m, .string s, .int .i64 at_, .int .i64 n] w (Rtn fun v w' => ∃ bv, v = .tuple #[bv, errno (M.read s at_ n).2] ∧ Sat w0 w' (bsl bv (M.read s at_ n).1 :: MedRep m M :: F)) := by
  obtain ⟨bs, fb, nb, wv, hl, hR⟩ := MedRep.open h
  obtain ⟨ha1, ha2⟩ := ha
  obtain ⟨hn1, hn2⟩ := hn
  cases ho : M.off
  · cases hg : nget M.now s with
    | none =>
      have hf := find_none (s := s) hR ho hg
      have Hfin : Hid (M.read s at_ n = ([], 9)) := by show _ = _; simp [Med.read, ho, hg]
      clear ho hg
      go_enter Tryd.func60, Tryd.ntmps60
      go_wp2_with (go_at_call 69; refine hf.mono ?_; rintro e w1 ⟨v, rfl, rfl, rfl⟩)
      go_ret2
      exact ⟨_, rfl, .slice none 0 0, by rw [Hfin.out]; rfl, by rw [Hfin.out]; exact Sat.osl_nil.2 h⟩
    | some i =>
      have hf := find_some (s := s) hR ho hg
      have hid : i < M.files.length := hM.nowOk.ids (s, i) (nget_mem hg)
      obtain ⟨fa, fn, fc, na, nc, wv', f0, f1, f2, hrd, hcap, hnc, hna⟩ := file_cells (hR.sel 3 [2] rfl rfl) hl hid
      have hnl := (hM.file i).now_len
      change w.cell? ⟨bs.getD i 0, 1, none⟩ = some (.slice na (M.file i).now.length nc) at f1
      change rdsl 1 (.slice na (M.file i).now.length nc) (bys (M.file i).now) w at hrd
      change (M.file i).now.length ≤ nc at hcap
      generalize hL : (M.file i).now = L at *
      have HL := Lib.hid hL; clear hL
      generalize bs.getD i 0 = q at *
      have Hg := Lib.hid hg; have Ho := Lib.hid ho; clear hg ho
      have hread : ∀ x : Bs × Int, x = (if at_ < 0 ∨ n < 0 then ([], 2) else if (L.length : Int) < at_ ∨ (L.length : Int) - at_ < n then ([], 3) else ((L.drop at_.toNat).take n.toNat, 0)) → M.read s at_ n = x := by
        rintro x rfl
        simp only [Med.read, Ho.out, Hg.out, HL.out, Bool.false_eq_true, if_false]
      have Hread := Lib.hid hread; clear hread
      by_cases h1 : at_ < 0
      · go_enter Tryd.func60, Tryd.ntmps60
        go_wp2_with (go_at_call 69; refine hf.mono ?_; rintro e w1 ⟨v, rfl, rfl, rfl⟩)
        go_ret2
        have := Hread.out _ (if_pos (.inl h1)).symm
        exact ⟨_, rfl, .slice none 0 0, by rw [this]; rfl, by rw [this]; exact Sat.osl_nil.2 h⟩
      have h1' : decide (at_ < 0) = false := by simpa using h1
      by_cases h2 : n < 0
      · go_enter Tryd.func60, Tryd.ntmps60
        go_wp2_with (go_at_call 69; refine hf.mono ?_; rintro e w1 ⟨v, rfl, rfl, rfl⟩)
        go_ret2
        have := Hread.out _ (if_pos (.inr h2)).symm
        exact ⟨_, rfl, .slice none 0 0, by rw [this]; rfl, by rw [this]; exact Sat.osl_nil.2 h⟩
      have h2' : decide (n < 0) = false := by simpa using h2
      obtain ⟨a, rfl⟩ := Int.eq_ofNat_of_zero_le (show 0 ≤ at_ by omega)
      obtain ⟨k, rfl⟩ := Int.eq_ofNat_of_zero_le (show 0 ≤ n by omega)
      have h12 : ¬ ((a : Int) < 0 ∨ (k : Int) < 0) := by omega
      by_cases h3 : (L.length : Int) < a
      · go_enter Tryd.func60, Tryd.ntmps60
        go_wp2_with (go_at_call 69; refine hf.mono ?_; rintro e w1 ⟨v, rfl, rfl, rfl⟩)
        go_ret2
        have := Hread.out _ ((if_neg h12).trans (if_pos (.inl h3))).symm
        exact ⟨_, rfl, .slice none 0 0, by rw [this]; rfl, by rw [this]; exact Sat.osl_nil.2 h⟩
      have h3' : decide ((L.length : Int) < a) = false := by simpa using h3
      by_cases h4 : (L.length : Int) - a < k
      · go_enter Tryd.func60, Tryd.ntmps60
        go_wp2_with (go_at_call 69; refine hf.mono ?_; rintro e w1 ⟨v, rfl, rfl, rfl⟩)
        go_ret2
        have := Hread.out _ ((if_neg h12).trans (if_pos (.inr h4))).symm
        exact ⟨_, rfl, .slice none 0 0, by rw [this]; rfl, by rw [this]; exact Sat.osl_nil.2 h⟩
      have h4' : decide ((L.length : Int) - a < k) = false := by simpa using h4
      have h34 : ¬ ((L.length : Int) < a ∨ (L.length : Int) - a < k) := by omega
      have hfin := Hread.out _ ((if_neg h12).trans (if_neg h34)).symm
      have Hfin := Lib.hid hfin; clear hfin
      have hcl : ∀ x, x = (if nc = a then na else na.map (·.add a)) → Calls Tryd.prog 71 #[.slice x k (nc - a)] w (Rtn fun v' w' => Sat w0 w' (bsl v' ((L.drop a).take k) :: MedRep m M :: F) ∧ ∃ a n c, v' = .slice a n c) := by
        intro x hx
        refine clone_c h ?_ (by simp; omega)
        have := rdsl_slice (lo := a) (k := k) hrd (by omega) x hx hcap (nc - a)
        simpa [bys, List.map_take, List.map_drop] using this
      have Hcl := Lib.hid hcl
      clear hcl hrd
      have e5 : (a : Int) + k ≤ nc := by omega
      rcases hna with ⟨rfl, rfl⟩ | ⟨g, rfl⟩
      · obtain rfl : a = 0 := by omega
        obtain rfl : k = 0 := by omega
        have hcl := Hcl.out none (by simp)
        simp only [Nat.sub_self] at hcl
        clear Hread Hcl
        go_enter Tryd.func60, Tryd.ntmps60
        go_wp2_with (first | (go_at_call 69; refine hf.mono ?_; rintro e w1 ⟨v, rfl, rfl, rfl⟩) | (go_at_call 71; go_must (refine hcl.mono ?_); rintro e w1 ⟨v, rfl, hS, _⟩))
        go_ret2
        exact ⟨_, rfl, v, by rw [Hfin.out]; rfl, by rw [Hfin.out]; exact hS⟩
      · clear Hread
        by_cases hca : nc = a
        · subst hca
          obtain rfl : k = 0 := by omega
          have hcl := Hcl.out (some ⟨g, 0, none⟩) (by simp)
          simp only [Nat.sub_self] at hcl
          clear Hcl
          go_enter Tryd.func60, Tryd.ntmps60
          go_wp2_with (first | (go_at_call 69; refine hf.mono ?_; rintro e w1 ⟨v, rfl, rfl, rfl⟩) | (go_at_call 71; go_must (refine hcl.mono ?_); rintro e w1 ⟨v, rfl, hS, _⟩))
          go_ret2
          exact ⟨_, rfl, v, by rw [Hfin.out]; rfl, by rw [Hfin.out]; exact hS⟩
        · have hcl := Hcl.out (some ⟨g, a, none⟩) (by rw [if_neg hca]; simp [add_zero_lit])
          clear Hcl
          go_enter Tryd.func60, Tryd.ntmps60
          go_wp2_with (first | (go_at_call 69; refine hf.mono ?_; rintro e w1 ⟨v, rfl, rfl, rfl⟩) | (go_at_call 71; go_must (refine hcl.mono ?_); rintro e w1 ⟨v, rfl, hS, _⟩))
          go_ret2
          exact ⟨_, rfl, v, by rw [Hfin.out]; rfl, by rw [Hfin.out]; exact hS⟩
  · have hf := find_off (s := s) hR ho
    have Hfin : Hid (M.read s at_ n = ([], 12)) := by show _ = _; simp [Med.read, ho]
    clear ho
    go_enter Tryd.func60, Tryd.ntmps60
    go_wp2_with (go_at_call 69; refine hf.mono ?_; rintro e w1 ⟨v, rfl, rfl, rfl⟩)
    go_ret2
    exact ⟨_, rfl, .slice none 0 0, by rw [Hfin.out]; rfl, by rw [Hfin.out]; exact Sat.osl_nil.2 h⟩
end
end Go.Proofs.YtdhhbajggafdhaaDoor
