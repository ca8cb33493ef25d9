import Derived.Test.YtdhhbajggafdhaaMed17
/- Rename, Remove, Truncate. -/
namespace Go.Proofs.Ytdhhbajggafdhaa
open Go Go.Sl Go.Med Go.MapKept Go.RowKit
section
variable {w0 w : World} {F : List HProp} {m fb nb b r : Nat} {M : Med} {bs : List Nat} {wv v bv : Value} {s : ByteArray} {l : Names} {fs : List Fil} {K : Nat}
theorem link_rep (hM : M.Ok K) (hK : K ≤ 1099511627776) (hl : bs.length = M.files.length) (x : Lnk) (h : Sat w0 w (MedRaw m M bs fb nb wv ++ F)) :
    Calls Try.prog 41 #[ptr m, .agg #[.string x.fr, .string x.to, lnkPtr bs x]] w (Rtn fun _ w' => Sat w0 w' (MedRep m (M.link x) :: F)) := by
  refine (link_c x (h.sel 5 [0, 1, 4, 2, 3] rfl rfl) (Nat.le_trans hM.budget hK)).mono ?_
  rintro e w1 ⟨v, rfl, wv', hS⟩
  refine ⟨v, rfl, MedRep.shut (bs := bs) (fb := fb) (nb := nb) (wv := wv') (by simpa [Med.link] using hl) ?_⟩
  exact hS.sel 5 [0, 1, 3, 4, 2] rfl rfl
set_option maxHeartbeats 2000000 in
theorem rename_c (hM : M.Ok K) (hK : K ≤ 1099511627776) (h : Sat w0 w (MedRep m M :: F)) (s t : ByteArray) (ht : t.size ≤ 9223372036854775807) :
    Calls Try.prog 53 #[ptr m, .string s, .string t] w (Rtn fun v w' => v = errno (M.rename s t).2 ∧ Sat w0 w' (MedRep m (M.rename s t).1 :: F)) := by
  obtain ⟨bs, fb, nb, wv, hl, hR⟩ := MedRep.open h
  have hg := good_c t w ht
  cases ho : M.off
  · cases hn : nget M.now s with
    | none =>
      have hf := find_none (s := s) hR ho hn
      have Hfin : Hid (M.rename s t = (M, 9)) := by show _ = _; simp [Med.rename, ho, hn]
      clear ho hn
      go_enter Try.func53, Try.ntmps53
      go_wp2_with (first | (go_at_call 42; refine hf.mono ?_; rintro e w1 ⟨v, rfl, rfl, rfl⟩))
      go_ret
      exact ⟨errno 9, rfl, by rw [Hfin.out], by rw [Hfin.out]; exact h⟩
    | some i =>
      have hf := find_some (s := s) hR ho hn
      cases hgs : good t
      · rw [hgs] at hg
        have Hfin : Hid (M.rename s t = (M, 7)) := by show _ = _; simp [Med.rename, ho, hn, hgs]
        clear ho hn hgs
        go_enter Try.func53, Try.ntmps53
        go_wp2_with (first | (go_at_call 42; refine hf.mono ?_; rintro e w1 ⟨v, rfl, rfl, rfl⟩) | (go_at_call 39; refine hg.mono ?_; rintro e w1 ⟨v, rfl, rfl, rfl⟩))
        go_ret
        exact ⟨errno 7, rfl, by rw [Hfin.out], by rw [Hfin.out]; exact h⟩
      rw [hgs] at hg
      have hst := step_c hR hM.left
      cases hstep : M.step.2
      · rw [hstep] at hst
        have Hfin : Hid (M.rename s t = (M.step.1, 12)) := by show _ = _; simp [Med.rename, ho, hn, hgs, hstep]
        clear ho hn hstep hgs
        go_enter Try.func53, Try.ntmps53
        go_wp2_with (first | (go_at_call 42; refine hf.mono ?_; rintro e w1 ⟨v, rfl, rfl, rfl⟩) | (go_at_call 39; refine hg.mono ?_; rintro e w1 ⟨v, rfl, rfl, rfl⟩) | (go_at_call 40; refine hst.mono ?_; rintro e w1 ⟨v, rfl, rfl, hS1⟩))
        go_ret
        refine ⟨errno 12, rfl, by rw [Hfin.out], ?_⟩
        rw [Hfin.out]
        exact MedRep.shut (bs := bs) (fb := fb) (nb := nb) (wv := wv) (by rw [M.step_same.2.2.2.1]; exact hl) (raw_step hS1)
      · rw [hstep] at hst
        have Hfin : Hid (M.rename s t = (M.step.1.link ⟨s, t, i⟩, 0)) := by show _ = _; simp [Med.rename, ho, hn, hgs, hstep]
        have hne := good_ne hgs
        have hl' : bs.length = M.step.1.files.length := by rw [M.step_same.2.2.2.1]; exact hl
        have hlp : lnkPtr bs ⟨s, t, i⟩ = ptr (bs.getD i 0) := by unfold lnkPtr; rw [if_neg hne]
        have Hl' := Lib.hid hl'; have Hlp := Lib.hid hlp
        clear ho hn hstep hgs hne hl' hlp
        generalize hq : bs.getD i 0 = q at hf
        have Hq := Lib.hid hq; clear hq
        go_enter Try.func53, Try.ntmps53
        go_wp2_with (first | (go_at_call 42; refine hf.mono ?_; rintro e w1 ⟨v, rfl, rfl, rfl⟩) | (go_at_call 39; refine hg.mono ?_; rintro e w1 ⟨v, rfl, rfl, rfl⟩) | (go_at_call 40; fail))
        refine hst.mono ?_
        rintro e w1 ⟨v, rfl, rfl, hS1⟩
        have hlk := link_rep hM.step hK Hl'.out ⟨s, t, i⟩ (raw_step hS1)
        rw [Hlp.out, Hq.out] at hlk
        go_wp2_with (go_at_call 41; go_must (refine hlk.mono ?_); rintro e w2 ⟨v2, rfl, hS2⟩)
        go_ret
        refine ⟨errno 0, rfl, by rw [Hfin.out], ?_⟩
        rw [Hfin.out]
        exact hS2
  · have hf := find_off (s := s) hR ho
    have Hfin : Hid (M.rename s t = (M, 12)) := by show _ = _; simp [Med.rename, ho]
    clear ho
    go_enter Try.func53, Try.ntmps53
    go_wp2_with (first | (go_at_call 42; refine hf.mono ?_; rintro e w1 ⟨v, rfl, rfl, rfl⟩))
    go_ret
    exact ⟨errno 12, rfl, by rw [Hfin.out], by rw [Hfin.out]; exact h⟩
set_option maxHeartbeats 2000000 in
theorem remove_c (hM : M.Ok K) (hK : K ≤ 1099511627776) (h : Sat w0 w (MedRep m M :: F)) (s : ByteArray) :
    Calls Try.prog 54 #[ptr m, .string s] w (Rtn fun v w' => v = errno (M.remove s).2 ∧ Sat w0 w' (MedRep m (M.remove s).1 :: F)) := by
  obtain ⟨bs, fb, nb, wv, hl, hR⟩ := MedRep.open h
  cases ho : M.off
  · cases hn : nget M.now s with
    | none =>
      have hf := find_none (s := s) hR ho hn
      have Hfin : Hid (M.remove s = (M, 9)) := by show _ = _; simp [Med.remove, ho, hn]
      clear ho hn
      go_enter Try.func54, Try.ntmps54
      go_wp2_with (first | (go_at_call 42; refine hf.mono ?_; rintro e w1 ⟨v, rfl, rfl, rfl⟩))
      go_ret
      exact ⟨errno 9, rfl, by rw [Hfin.out], by rw [Hfin.out]; exact h⟩
    | some i =>
      have hf := find_some (s := s) hR ho hn
      have hst := step_c hR hM.left
      cases hstep : M.step.2
      · rw [hstep] at hst
        have Hfin : Hid (M.remove s = (M.step.1, 12)) := by show _ = _; simp [Med.remove, ho, hn, hstep]
        clear ho hn hstep
        go_enter Try.func54, Try.ntmps54
        go_wp2_with (first | (go_at_call 42; refine hf.mono ?_; rintro e w1 ⟨v, rfl, rfl, rfl⟩) | (go_at_call 40; refine hst.mono ?_; rintro e w1 ⟨v, rfl, rfl, hS1⟩))
        go_ret
        refine ⟨errno 12, rfl, by rw [Hfin.out], ?_⟩
        rw [Hfin.out]
        exact MedRep.shut (bs := bs) (fb := fb) (nb := nb) (wv := wv) (by rw [M.step_same.2.2.2.1]; exact hl) (raw_step hS1)
      · rw [hstep] at hst
        have Hfin : Hid (M.remove s = (M.step.1.link ⟨s, ByteArray.empty, 0⟩, 0)) := by show _ = _; simp [Med.remove, ho, hn, hstep]
        have hl' : bs.length = M.step.1.files.length := by rw [M.step_same.2.2.2.1]; exact hl
        have hlp : lnkPtr bs ⟨s, ByteArray.empty, 0⟩ = .pointer none := by unfold lnkPtr; rw [if_pos rfl]
        have Hl' := Lib.hid hl'; have Hlp := Lib.hid hlp
        clear ho hn hstep hl' hlp
        generalize hq : bs.getD i 0 = q at hf
        have Hq := Lib.hid hq; clear hq
        go_enter Try.func54, Try.ntmps54
        go_wp2_with (first | (go_at_call 42; refine hf.mono ?_; rintro e w1 ⟨v, rfl, rfl, rfl⟩) | (go_at_call 40; fail))
        refine hst.mono ?_
        rintro e w1 ⟨v, rfl, rfl, hS1⟩
        have hlk := link_rep hM.step hK Hl'.out ⟨s, ByteArray.empty, 0⟩ (raw_step hS1)
        rw [Hlp.out] at hlk
        go_wp2_with (go_at_call 41; go_must (refine hlk.mono ?_); rintro e w2 ⟨v2, rfl, hS2⟩)
        go_ret
        refine ⟨errno 0, rfl, by rw [Hfin.out], ?_⟩
        rw [Hfin.out]
        exact hS2
  · have hf := find_off (s := s) hR ho
    have Hfin : Hid (M.remove s = (M, 12)) := by show _ = _; simp [Med.remove, ho]
    clear ho
    go_enter Try.func54, Try.ntmps54
    go_wp2_with (first | (go_at_call 42; refine hf.mono ?_; rintro e w1 ⟨v, rfl, rfl, rfl⟩))
    go_ret
    exact ⟨errno 12, rfl, by rw [Hfin.out], by rw [Hfin.out]; exact h⟩
set_option maxHeartbeats 2000000 in
theorem truncate_c (hM : M.Ok K) (hK : K ≤ 1099511627776) (h : Sat w0 w (MedRep m M :: F)) (s : ByteArray) (n : Int) :
    Calls Try.prog 52 #[ptr m, .string s, .int .i64 n] w (Rtn fun v w' => v = errno (M.truncate s n).2 ∧ Sat w0 w' (MedRep m (M.truncate s n).1 :: F)) := by
  obtain ⟨bs, fb, nb, wv, hl, hR⟩ := MedRep.open h
  cases ho : M.off
  · cases hn : nget M.now s with
    | none =>
      have hf := find_none (s := s) hR ho hn
      have Hfin : Hid (M.truncate s n = (M, 9)) := by show _ = _; simp [Med.truncate, ho, hn]
      clear ho hn
      go_enter Try.func52, Try.ntmps52
      go_wp2_with (first | (go_at_call 42; refine hf.mono ?_; rintro e w1 ⟨v, rfl, rfl, rfl⟩))
      go_ret
      exact ⟨errno 9, rfl, by rw [Hfin.out], by rw [Hfin.out]; exact h⟩
    | some i =>
      have hf := find_some (s := s) hR ho hn
      have hid : i < M.files.length := hM.nowOk.ids (s, i) (nget_mem hn)
      obtain ⟨fa, fn, fc, na, nc, wv0, f0, f1, f2, hrd, hcap, hnc, hna⟩ := file_cells (hR.sel 3 [2] rfl rfl) hl hid
      change w.cell? ⟨bs.getD i 0, 1, none⟩ = some (.slice na (M.file i).now.length nc) at f1
      have hokf := hM.file i
      have hnl := hokf.now_len
      clear hrd hcap hnc hna f0 f2
      by_cases h1 : n < 0
      · have Hfin : Hid (M.truncate s n = (M, 2)) := by show _ = _; simp [Med.truncate, ho, hn, h1]
        clear ho hn
        generalize bs.getD i 0 = q at *
        go_enter Try.func52, Try.ntmps52
        go_wp2_with (go_at_call 42; refine hf.mono ?_; rintro e w1 ⟨v, rfl, rfl, rfl⟩)
        go_ret
        exact ⟨errno 2, rfl, by rw [Hfin.out], by rw [Hfin.out]; exact h⟩
      have h1' : decide (n < 0) = false := by rw [decide_eq_false_iff_not]; exact h1
      by_cases h2 : ((M.file i).now.length : Int) < n
      · have Hfin : Hid (M.truncate s n = (M, 2)) := by show _ = _; simp [Med.truncate, ho, hn, h1, h2]
        clear ho hn
        generalize bs.getD i 0 = q at *
        go_enter Try.func52, Try.ntmps52
        go_wp2_with (go_at_call 42; refine hf.mono ?_; rintro e w1 ⟨v, rfl, rfl, rfl⟩)
        go_ret
        exact ⟨errno 2, rfl, by rw [Hfin.out], by rw [Hfin.out]; exact h⟩
      have h2' : decide (((M.file i).now.length : Int) < n) = false := by rw [decide_eq_false_iff_not]; exact h2
      have hst := step_c hR hM.left
      cases hstep : M.step.2
      · rw [hstep] at hst
        have Hfin : Hid (M.truncate s n = (M.step.1, 12)) := by show _ = _; simp [Med.truncate, ho, hn, h1, h2, hstep]
        clear ho hn hstep
        generalize bs.getD i 0 = q at f1 hf
        go_enter Try.func52, Try.ntmps52
        go_wp2_with (first | (go_at_call 42; refine hf.mono ?_; rintro e w1 ⟨v, rfl, rfl, rfl⟩) | (go_at_call 40; refine hst.mono ?_; rintro e w1 ⟨v, rfl, rfl, hS1⟩))
        go_ret
        refine ⟨errno 12, rfl, by rw [Hfin.out], ?_⟩
        rw [Hfin.out]
        exact MedRep.shut (bs := bs) (fb := fb) (nb := nb) (wv := wv) (by rw [M.step_same.2.2.2.1]; exact hl) (raw_step hS1)
      · rw [hstep] at hst
        have Hfin : Hid (M.truncate s n = (M.step.1.setFile i ((M.file i).do ⟨true, n.toNat, []⟩), 0)) := by show _ = _; simp [Med.truncate, ho, hn, h1, h2, hstep]
        have hl' : bs.length = M.step.1.files.length := by rw [M.step_same.2.2.2.1]; exact hl
        have hid' : i < M.step.1.files.length := by rw [M.step_same.2.2.2.1]; exact hid
        have hfe : M.step.1.file i = M.file i := by unfold Med.file; rw [M.step_same.2.2.2.1]
        have hnn : ((n.toNat : Nat) : Int) = n := Int.toNat_of_nonneg (by omega)
        have Hl' := Lib.hid hl'; have Hfe := Lib.hid hfe; have Hok := Lib.hid hokf; have Hnn := Lib.hid hnn
        have hle : n.toNat ≤ (M.file i).now.length := by omega
        clear ho hn hstep hl' hfe hokf hnn
        generalize hq : bs.getD i 0 = q at *
        have Hq := Lib.hid hq; clear hq
        go_enter Try.func52, Try.ntmps52
        go_wp2_with (first | (go_at_call 42; refine hf.mono ?_; rintro e w1 ⟨v, rfl, rfl, rfl⟩) | (go_at_call 40; fail))
        refine hst.mono ?_
        rintro e w1 ⟨v, rfl, rfl, hS1⟩
        obtain ⟨G, k1, k2⟩ := raw_file Hl'.out hid' (raw_step hS1)
        rw [Hfe.out, Hq.out] at k1
        rw [Hq.out] at k2
        obtain ⟨fv, nv, wv', ws, hws, h3⟩ := FilRep.open k1
        have h4 : Sat w0 w1 (FilRaw q (M.file i) fv nv wv' ws ++ bsl (.slice none 0 0) [] :: _) := (Sat.osl_nil (T := 5) (sz := 1).2 h3).sel 6 [1, 2, 3, 4, 5, 0] rfl rfl
        have hdo := do_c (bv := .slice none 0 0) ⟨true, n.toNat, []⟩ h4 hws ⟨(fun _ => hle), fun h => by cases h⟩ (Nat.le_trans Hok.out.budget hK)
        unfold chgV at hdo
        simp only at hdo
        rw [Hnn.out] at hdo
        clear h3 h4 hws hst k1
        go_wp2_with (go_at_call 43; go_must (refine hdo.mono ?_); rintro e w4 ⟨v4, rfl, hS4⟩)
        go_ret
        refine ⟨errno 0, rfl, by rw [Hfin.out], ?_⟩
        rw [Hfin.out]
        exact k2 _ _ hS4
  · have hf := find_off (s := s) hR ho
    have Hfin : Hid (M.truncate s n = (M, 12)) := by show _ = _; simp [Med.truncate, ho]
    clear ho
    go_enter Try.func52, Try.ntmps52
    go_wp2_with (first | (go_at_call 42; refine hf.mono ?_; rintro e w1 ⟨v, rfl, rfl, rfl⟩))
    go_ret
    exact ⟨errno 12, rfl, by rw [Hfin.out], by rw [Hfin.out]; exact h⟩
end
end Go.Proofs.Ytdhhbajggafdhaa
