import Derived.Test.YtdhhbajggafdhaaDoorMed17
/- Remove. -/
namespace Go.Proofs.YtdhhbajggafdhaaDoor
open Go Go.Sl Go.Med Go.MapKept Go.RowKit
section
variable {w0 w : World} {F : List HProp} {m fb nb b r : Nat} {M : Med} {bs : List Nat} {wv v bv : Value} {s : ByteArray} {l : Names} {fs : List Fil} {K : Nat}
theorem link_rep (hM : M.Ok K) (hK : K ≤ 1099511627776) (hl : bs.length = M.files.length) (x : Lnk) (h : Sat w0 w (MedRaw m M bs fb nb wv ++ F)) :
    Calls Tryd.prog 83 #[ptr m, .agg #[.string x.fr, .string x.to, lnkPtr bs x]] w (Rtn fun _ w' => Sat w0 w' (MedRep m (M.link x) :: F)) := by
  refine (link_c x (h.sel 5 [0, 1, 4, 2, 3] rfl rfl) (Nat.le_trans hM.budget hK)).mono ?_
  rintro e w1 ⟨v, rfl, wv', hS⟩
  refine ⟨v, rfl, MedRep.shut (bs := bs) (fb := fb) (nb := nb) (wv := wv') (by simpa [Med.link] using hl) ?_⟩
  exact hS.sel 5 [0, 1, 3, 4, 2] rfl rfl
set_option maxHeartbeats 2000000 in
theorem remove_c (hM : M.Ok K) (hK : K ≤ 1099511627776) (h : Sat w0 w (MedRep m M :: F)) (s : ByteArray) :
    Calls Tryd.prog 63 #[ptr m, .string s] w (Rtn fun v w' => v = errno (M.remove s).2 ∧ Sat w0 w' (MedRep m (M.remove s).1 :: F)) := by
  obtain ⟨bs, fb, nb, wv, hl, hR⟩ := MedRep.open h
  cases ho : M.off
  · cases hn : nget M.now s with
    | none =>
      have hf := find_none (s := s) hR ho hn
      have Hfin : Hid (M.remove s = (M, 9)) := by show _ = _; simp [Med.remove, ho, hn]
      clear ho hn
      go_enter Tryd.func63, Tryd.ntmps63
      go_wp2_with (first | (go_at_call 69; refine hf.mono ?_; rintro e w1 ⟨v, rfl, rfl, rfl⟩))
      go_ret
      exact ⟨errno 9, rfl, by rw [Hfin.out], by rw [Hfin.out]; exact h⟩
    | some i =>
      have hf := find_some (s := s) hR ho hn
      have hst := step_c hR hM.left
      cases hstep : M.step.2
      · rw [hstep] at hst
        have Hfin : Hid (M.remove s = (M.step.1, 12)) := by show _ = _; simp [Med.remove, ho, hn, hstep]
        clear ho hn hstep
        go_enter Tryd.func63, Tryd.ntmps63
        go_wp2_with (first | (go_at_call 69; refine hf.mono ?_; rintro e w1 ⟨v, rfl, rfl, rfl⟩) | (go_at_call 70; refine hst.mono ?_; rintro e w1 ⟨v, rfl, rfl, hS1⟩))
        go_ret
        refine ⟨errno 12, rfl, by rw [Hfin.out], ?_⟩
        rw [Hfin.out]
        exact MedRep.shut (bs := bs) (fb := fb) (nb := nb) (wv := wv) (by rw [M.step_same.2.2.2.1]; exact hl) (raw_step hS1)
      · rw [hstep] at hst
        have Hfin : Hid (M.remove s = (M.step.1.link ⟨s, ByteArray.empty, 0⟩, 0)) := by show _ = _; simp [Med.remove, ho, hn, hstep]
        have hl' : bs.length = M.step.1.files.length := by rw [M.step_same.2.2.2.1]; exact hl
        have hlp : lnkPtr bs ⟨s, ByteArray.empty, 0⟩ = .pointer none := by unfold lnkPtr; rw [if_pos rfl]
        have Hl' := Lib.hid hl'; have Hlp := Lib.hid hlp
        clear ho hn hstep hl' hlp
        generalize hq : bs.getD i 0 = q at hf
        have Hq := Lib.hid hq; clear hq
        go_enter Tryd.func63, Tryd.ntmps63
        go_wp2_with (first | (go_at_call 69; refine hf.mono ?_; rintro e w1 ⟨v, rfl, rfl, rfl⟩) | (go_at_call 70; fail))
        refine hst.mono ?_
        rintro e w1 ⟨v, rfl, rfl, hS1⟩
        have hlk := link_rep hM.step hK Hl'.out ⟨s, ByteArray.empty, 0⟩ (raw_step hS1)
        rw [Hlp.out] at hlk
        go_wp2_with (go_at_call 83; go_must (refine hlk.mono ?_); rintro e w2 ⟨v2, rfl, hS2⟩)
        go_ret
        refine ⟨errno 0, rfl, by rw [Hfin.out], ?_⟩
        rw [Hfin.out]
        exact hS2
  · have hf := find_off (s := s) hR ho
    have Hfin : Hid (M.remove s = (M, 12)) := by show _ = _; simp [Med.remove, ho]
    clear ho
    go_enter Tryd.func63, Tryd.ntmps63
    go_wp2_with (first | (go_at_call 69; refine hf.mono ?_; rintro e w1 ⟨v, rfl, rfl, rfl⟩))
    go_ret
    exact ⟨errno 12, rfl, by rw [Hfin.out], by rw [Hfin.out]; exact h⟩
end
end Go.Proofs.YtdhhbajggafdhaaDoor
