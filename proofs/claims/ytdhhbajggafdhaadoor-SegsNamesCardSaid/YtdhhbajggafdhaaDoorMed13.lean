import Derived.Test.YtdhhbajggafdhaaDoorMed12
/- Append, Sync, SyncDir. -/
namespace Go.Proofs.YtdhhbajggafdhaaDoor
open Go Go.Sl Go.Med Go.MapKept Go.RowKit
section
variable {w0 w : World} {F : List HProp} {m fb nb b r : Nat} {M : Med} {bs : List Nat} {wv v bv : Value} {s : ByteArray} {l : Names} {fs : List Fil} {K : Nat}
/-- A file taken out, and put back otherwise. -/
theorem raw_file (hl : bs.length = M.files.length) {i : Nat} (hi : i < M.files.length) (h : Sat w0 w (MedRaw m M bs fb nb wv ++ F)) :
    ∃ G : HProp, Sat w0 w (FilRep (bs.getD i 0) (M.file i) :: medPt m M fb nb wv :: omap .string nb (mapL bs M.now) :: omap .string fb (mapL bs M.fast) :: osl 115 3 wv (M.waits.flatMap (lnkCells bs)) :: G :: F) ∧
      ∀ (w' : World) (f' : Fil), Sat w0 w' (FilRep (bs.getD i 0) f' :: medPt m M fb nb wv :: omap .string nb (mapL bs M.now) :: omap .string fb (mapL bs M.fast) :: osl 115 3 wv (M.waits.flatMap (lnkCells bs)) :: G :: F) → Sat w0 w' (MedRep m (M.setFile i f') :: F) := by
  obtain ⟨G, h1, h2⟩ := files_take bs M.files i hl hi
  refine ⟨G, ?_, fun w' f' h' => ?_⟩
  · have h3 := h.sel 5 [2, 0, 1, 3, 4] rfl rfl
    have h4 : Sat w0 w (filesRep bs M.files :: medPt m M fb nb wv :: omap .string nb (mapL bs M.now) :: omap .string fb (mapL bs M.fast) :: osl 115 3 wv (M.waits.flatMap (lnkCells bs)) :: F) := h3
    rw [h1] at h4
    exact (Sat.star.1 h4).sel 6 [0, 2, 3, 4, 5, 1] rfl rfl
  · refine MedRep.shut (bs := bs) (fb := fb) (nb := nb) (wv := wv) (by simp [Med.setFile, hl]) ?_
    have h4 : Sat w0 w' (FilRep (bs.getD i 0) f' :: G :: medPt m M fb nb wv :: omap .string nb (mapL bs M.now) :: omap .string fb (mapL bs M.fast) :: osl 115 3 wv (M.waits.flatMap (lnkCells bs)) :: F) := h'.sel 6 [0, 5, 1, 2, 3, 4] rfl rfl
    have h5 := Sat.star.2 h4
    rw [← h2] at h5
    exact h5.sel 5 [1, 2, 0, 3, 4] rfl rfl
set_option maxHeartbeats 2000000 in
theorem sync_c (hM : M.Ok K) (h : Sat w0 w (MedRep m M :: F)) (s : ByteArray) :
    Calls Tryd.prog 49 #[ptr m, .string s] w (Rtn fun v w' => v = errno (M.sync s).2 ∧ Sat w0 w' (MedRep m (M.sync s).1 :: F)) := by
  obtain ⟨bs, fb, nb, wv, hl, hR⟩ := MedRep.open h
  cases ho : M.off
  · cases hn : nget M.now s with
    | none =>
      have hf := find_none (s := s) hR ho hn
      have Hfin : Hid (M.sync s = (M, 9)) := by show _ = _; simp [Med.sync, ho, hn]
      clear ho hn
      go_enter Tryd.func49, Tryd.ntmps49
      go_wp2_with (go_at_call 69; refine hf.mono ?_; rintro e w1 ⟨v, rfl, rfl, rfl⟩)
      go_ret
      exact ⟨errno 9, rfl, by rw [Hfin.out], by rw [Hfin.out]; exact h⟩
    | some i =>
      have hf := find_some (s := s) hR ho hn
      have hid : i < M.files.length := hM.nowOk.ids (s, i) (nget_mem hn)
      have hst := step_c hR hM.left
      cases hstep : M.step.2
      · rw [hstep] at hst
        have Hfin : Hid (M.sync s = (M.step.1, 12)) := by show _ = _; simp [Med.sync, ho, hn, hstep]
        clear ho hn hstep
        go_enter Tryd.func49, Tryd.ntmps49
        go_wp2_with (first | (go_at_call 69; refine hf.mono ?_; rintro e w1 ⟨v, rfl, rfl, rfl⟩) | (go_at_call 70; refine hst.mono ?_; rintro e w1 ⟨v, rfl, rfl, hS1⟩))
        go_ret
        refine ⟨errno 12, rfl, by rw [Hfin.out], ?_⟩
        rw [Hfin.out]
        exact MedRep.shut (bs := bs) (fb := fb) (nb := nb) (wv := wv) (by rw [M.step_same.2.2.2.1]; exact hl) (raw_step hS1)
      · rw [hstep] at hst
        have Hfin : Hid (M.sync s = (M.step.1.setFile i (M.file i).sync, 0)) := by show _ = _; simp [Med.sync, ho, hn, hstep]
        clear ho hn hstep
        have hl' : bs.length = M.step.1.files.length := by rw [M.step_same.2.2.2.1]; exact hl
        have hid' : i < M.step.1.files.length := by rw [M.step_same.2.2.2.1]; exact hid
        have hfe : M.step.1.file i = M.file i := by unfold Med.file; rw [M.step_same.2.2.2.1]
        have hnl := (hM.file i).now_len
        have Hl' := Lib.hid hl'; have Hfe := Lib.hid hfe
        clear hl' hfe
        generalize hq : bs.getD i 0 = q at hf
        have Hq := Lib.hid hq; clear hq
        go_enter Tryd.func49, Tryd.ntmps49
        go_wp2_with (first | (go_at_call 69; refine hf.mono ?_; rintro e w1 ⟨v, rfl, rfl, rfl⟩) | (go_at_call 70; fail))
        refine hst.mono ?_
        rintro e w1 ⟨v, rfl, rfl, hS1⟩
        obtain ⟨G, h1, h2⟩ := raw_file Hl'.out hid' (raw_step hS1)
        rw [Hfe.out, Hq.out] at h1
        rw [Hq.out] at h2
        obtain ⟨fv, nv, wv', ws, hws, h3⟩ := FilRep.open h1
        have H2 := Lib.hid h2; clear h2 hS1 h1 hws
        have h4 : Sat w0 w1 (filPt q fv nv wv' :: bsl nv (M.file i).now :: _) := h3.sel 3 [0, 2] rfl rfl
        have c1 := h4.cellAt 1 _ rfl
        obtain ⟨na, nn, nc, rfl⟩ := bsl_shape h4.pick1
        have hcl := clone_c h4 h4.pick1.rd (by omega)
        go_wp2_with (go_at_call 71; go_must (refine hcl.mono ?_); rintro e w2 ⟨v2, rfl, hS2, a2, n2, k2, rfl⟩; have g0 := hS2.pick1.freeAt 0; have g2 := hS2.pick1.freeAt 2; have d0 := hS2.pick1.cellAt 0 _ rfl; have d2 := hS2.pick1.cellAt 2 _ rfl)
        go_ret
        refine ⟨errno 0, rfl, by rw [Hfin.out], ?_⟩
        rw [Hfin.out]
        refine H2.out _ _ ?_
        have h5 := (hS2.pick1.set 0 (.slice a2 n2 k2)).set 2 (.slice none 0 0)
        refine FilRep.shut (fv := .slice a2 n2 k2) (nv := .slice na nn nc) (wv := .slice none 0 0) (ws := []) rfl ?_
        have h6 : Sat w0 _ (osl 132 3 (.slice none 0 0) [] :: chgs [] :: _ :: _ :: _ :: osl _ _ _ _ :: chgs _ :: _) := Sat.osl_nil.2 (Sat.emp.2 h5)
        exact h6.sel 7 [2, 3, 4, 0, 1] rfl rfl
  · have hf := find_off (s := s) hR ho
    have Hfin : Hid (M.sync s = (M, 12)) := by show _ = _; simp [Med.sync, ho]
    clear ho
    go_enter Tryd.func49, Tryd.ntmps49
    go_wp2_with (go_at_call 69; refine hf.mono ?_; rintro e w1 ⟨v, rfl, rfl, rfl⟩)
    go_ret
    exact ⟨errno 12, rfl, by rw [Hfin.out], by rw [Hfin.out]; exact h⟩
end
end Go.Proofs.YtdhhbajggafdhaaDoor
