import Derived.Test.YtmjldaedhmipkaaJ2
set_option linter.unusedVariables false
/- Append, Sync, SyncDir. -/
namespace Go.Proofs.Ytmjldaedhmipkaa
open Go Go.Sl Go.Med Go.MapKept Go.RowKit
section
variable {w0 w : World} {F : List HProp} {m fb nb b r : Nat} {M : Med} {bs : List Nat} {wv v bv : Value} {s : ByteArray} {l : Names} {fs : List Fil} {K : Nat}
/-- A file taken out, and put back otherwise. -/
theorem raw_file (hl : bs.length = M.files.length) {i : Nat} (hi : i < M.files.length) (h : Sat w0 w (MedRaw m M bs fb nb wv ++ F)) :
    ∃ G : HProp, Sat w0 w (FilRep (bs.getD i 0) (M.file i) :: medPt m M fb nb wv :: omap .string nb (mapL bs M.now) :: omap .string fb (mapL bs M.fast) :: osl 95 3 wv (M.waits.flatMap (lnkCells bs)) :: G :: F) ∧
      ∀ (w' : World) (f' : Fil), Sat w0 w' (FilRep (bs.getD i 0) f' :: medPt m M fb nb wv :: omap .string nb (mapL bs M.now) :: omap .string fb (mapL bs M.fast) :: osl 95 3 wv (M.waits.flatMap (lnkCells bs)) :: G :: F) → Sat w0 w' (MedRep m (M.setFile i f') :: F) := by
  obtain ⟨G, h1, h2⟩ := files_take bs M.files i hl hi
  refine ⟨G, ?_, fun w' f' h' => ?_⟩
  · have h3 := h.sel 5 [2, 0, 1, 3, 4] rfl rfl
    have h4 : Sat w0 w (filesRep bs M.files :: medPt m M fb nb wv :: omap .string nb (mapL bs M.now) :: omap .string fb (mapL bs M.fast) :: osl 95 3 wv (M.waits.flatMap (lnkCells bs)) :: F) := h3
    rw [h1] at h4
    exact (Sat.star.1 h4).sel 6 [0, 2, 3, 4, 5, 1] rfl rfl
  · refine MedRep.shut (bs := bs) (fb := fb) (nb := nb) (wv := wv) (by simp [Med.setFile, hl]) ?_
    have h4 : Sat w0 w' (FilRep (bs.getD i 0) f' :: G :: medPt m M fb nb wv :: omap .string nb (mapL bs M.now) :: omap .string fb (mapL bs M.fast) :: osl 95 3 wv (M.waits.flatMap (lnkCells bs)) :: F) := h'.sel 6 [0, 5, 1, 2, 3, 4] rfl rfl
    have h5 := Sat.star.2 h4
    rw [← h2] at h5
    exact h5.sel 5 [1, 2, 0, 3, 4] rfl rfl
set_option maxHeartbeats 2000000 in
theorem sync_c (hM : M.Ok K) (h : Sat w0 w (MedRep m M :: F)) (s : ByteArray) :
    Calls Try.prog 23 #[ptr m, .string s] w (Rtn fun v w' => v = errno (M.sync s).2 ∧ Sat w0 w' (MedRep m (M.sync s).1 :: F)) := by
  obtain ⟨bs, fb, nb, wv, hl, hR⟩ := MedRep.open h
  cases ho : M.off
  · cases hn : nget M.now s with
    | none =>
      have hf := find_none (s := s) hR ho hn
      have Hfin : Hid (M.sync s = (M, 9)) := by show _ = _; simp [Med.sync, ho, hn]
      clear ho hn
      go_enter Try.func23, Try.ntmps23
      go_wp2_with (go_at_call 47; refine hf.mono ?_; rintro e w1 ⟨v, rfl, rfl, rfl⟩)
      go_ret
      exact ⟨errno 9, rfl, by rw [Hfin.out], by rw [Hfin.out]; exact h⟩
    | some i =>
      have hf := find_some (s := s) hR ho hn
      have hid : i < M.files.length := hM.nowOk.ids (s, i) (nget_mem hn)
      have hst := step_c hR hM.left
      cases hstep : M.step.2
      · rw [hstep] at hst
        have Hfin : Hid (M.sync s = (M.step.1, 12)) := by show _ = _; simp [Med.sync, ho, hn, hstep]
        clear ho hn hstep
        go_enter Try.func23, Try.ntmps23
        go_wp2_with (first | (go_at_call 47; refine hf.mono ?_; rintro e w1 ⟨v, rfl, rfl, rfl⟩) | (go_at_call 51; refine hst.mono ?_; rintro e w1 ⟨v, rfl, rfl, hS1⟩))
        go_ret
        refine ⟨errno 12, rfl, by rw [Hfin.out], ?_⟩
        rw [Hfin.out]
        exact MedRep.shut (bs := bs) (fb := fb) (nb := nb) (wv := wv) (by rw [M.step_same.2.2.2.1]; exact hl) (raw_step hS1)
      · rw [hstep] at hst
        have Hfin : Hid (M.sync s = (M.step.1.setFile i (M.file i).sync, 0)) := by show _ = _; simp [Med.sync, ho, hn, hstep]
        clear ho hn hstep
        have hl' : bs.length = M.step.1.files.length := by rw [M.step_same.2.2.2.1]; exact hl
        have hid' : i < M.step.1.files.length := by rw [M.step_same.2.2.2.1]; exact hid
        have hfe : M.step.1.file i = M.file i := by unfold Med.file; rw [M.step_same.2.2.2.1]
        have hnl := (hM.file i).now_len
        have Hl' := Lib.hid hl'; have Hfe := Lib.hid hfe
        clear hl' hfe
        generalize hq : bs.getD i 0 = q at hf
        have Hq := Lib.hid hq; clear hq
        go_enter Try.func23, Try.ntmps23
        go_wp2_with (first | (go_at_call 47; refine hf.mono ?_; rintro e w1 ⟨v, rfl, rfl, rfl⟩) | (go_at_call 51; fail))
        refine hst.mono ?_
        rintro e w1 ⟨v, rfl, rfl, hS1⟩
        obtain ⟨G, h1, h2⟩ := raw_file Hl'.out hid' (raw_step hS1)
        rw [Hfe.out, Hq.out] at h1
        rw [Hq.out] at h2
        obtain ⟨fv, nv, wv', ws, hws, h3⟩ := FilRep.open h1
        have H2 := Lib.hid h2; clear h2 hS1 h1 hws
        have h4 : Sat w0 w1 (filPt q fv nv wv' :: bsl nv (M.file i).now :: _) := h3.sel 3 [0, 2] rfl rfl
        have c1 := h4.cellAt 1 _ rfl
        obtain ⟨na, nn, nc, rfl⟩ := bsl_shape h4.pick1
        have hcl := clone_c h4 h4.pick1.rd (by omega)
        go_wp2_with (go_at_call 54; go_must (refine hcl.mono ?_); rintro e w2 ⟨v2, rfl, hS2, a2, n2, k2, rfl⟩; have g0 := hS2.pick1.freeAt 0; have g2 := hS2.pick1.freeAt 2; have d0 := hS2.pick1.cellAt 0 _ rfl; have d2 := hS2.pick1.cellAt 2 _ rfl)
        go_ret
        refine ⟨errno 0, rfl, by rw [Hfin.out], ?_⟩
        rw [Hfin.out]
        refine H2.out _ _ ?_
        have h5 := (hS2.pick1.set 0 (.slice a2 n2 k2)).set 2 (.slice none 0 0)
        refine FilRep.shut (fv := .slice a2 n2 k2) (nv := .slice na nn nc) (wv := .slice none 0 0) (ws := []) rfl ?_
        have h6 : Sat w0 _ (osl 98 3 (.slice none 0 0) [] :: chgs [] :: _ :: _ :: _ :: osl _ _ _ _ :: chgs _ :: _) := Sat.osl_nil.2 (Sat.emp.2 h5)
        exact h6.sel 7 [2, 3, 4, 0, 1] rfl rfl
  · have hf := find_off (s := s) hR ho
    have Hfin : Hid (M.sync s = (M, 12)) := by show _ = _; simp [Med.sync, ho]
    clear ho
    go_enter Try.func23, Try.ntmps23
    go_wp2_with (go_at_call 47; refine hf.mono ?_; rintro e w1 ⟨v, rfl, rfl, rfl⟩)
    go_ret
    exact ⟨errno 12, rfl, by rw [Hfin.out], by rw [Hfin.out]; exact h⟩
end
end Go.Proofs.Ytmjldaedhmipkaa
/- Append, SyncDir. -/
namespace Go.Proofs.Ytmjldaedhmipkaa
open Go Go.Sl Go.Med Go.MapKept Go.RowKit
section
variable {w0 w : World} {F : List HProp} {m fb nb b r : Nat} {M : Med} {bs : List Nat} {wv v bv : Value} {s : ByteArray} {l : Names} {fs : List Fil} {K : Nat}
theorem ro_len {lb : Bs} (hr : Ro w0 F (rdsl 1 bv (bys lb))) {A : HProp} (h : Sat w0 w (A :: F)) : ∃ a n c, bv = .slice a n c ∧ n = lb.length := by
  obtain ⟨a, n, c, rfl, hl, _⟩ := hr w h.drop
  rw [bys_len, Nat.mul_one] at hl
  exact ⟨a, n, c, rfl, hl.symm⟩
set_option maxHeartbeats 4000000 in
theorem append_c (hM : M.Ok K) (hK : K ≤ 1099511627776) (h : Sat w0 w (MedRep m M :: F)) (s : ByteArray) (lb : Bs) (hr : Ro w0 F (rdsl 1 bv (bys lb))) :
    Calls Try.prog 19 #[ptr m, .string s, bv] w (Rtn fun v w' => v = errno (M.append s lb).2 ∧ Sat w0 w' (MedRep m (M.append s lb).1 :: F)) := by
  obtain ⟨bs, fb, nb, wv, hl, hR⟩ := MedRep.open h
  cases ho : M.off
  · cases hn : nget M.now s with
    | none =>
      obtain ⟨ba, bn, bc, rfl, hbn⟩ := ro_len hr h
      clear hbn
      have hf := find_none (s := s) hR ho hn
      have Hfin : Hid (M.append s lb = (M, 9)) := by show _ = _; simp [Med.append, ho, hn]
      clear ho hn hr
      go_enter Try.func19, Try.ntmps19
      go_wp2_with (go_at_call 47; refine hf.mono ?_; rintro e w1 ⟨v, rfl, rfl, rfl⟩)
      go_ret
      exact ⟨errno 9, rfl, by rw [Hfin.out], by rw [Hfin.out]; exact h⟩
    | some i =>
      have hf := find_some (s := s) hR ho hn
      have hid : i < M.files.length := hM.nowOk.ids (s, i) (nget_mem hn)
      obtain ⟨ba, bn, bc, rfl, hbn⟩ := ro_len hr h
      have hu := used_c (w := w.drew) (m := m) (M := M) (fb := fb) (nb := nb) (wv := wv) (bs := bs) hR.drew hl hM.nowOk.ids (by have := hM.used_le; omega)
      have hut : M.usedTold = M.used := by simp [Med.usedTold, ho]
      rw [hut] at hu
      have hu2 := hM.used_le
      have hr2 := hM.room
      have c0 := hR.cellAt 0 _ rfl
      have Hr := Lib.hid hr; clear hr
      clear hut
      by_cases hfull : (M.room : Int) - M.used < lb.length
      · have Hfin : Hid (M.append s lb = (M, 11)) := by show _ = _; simp [Med.append, ho, hn, hfull]
        clear ho hn
        subst hbn
        have hwr : IntKind.i64.wrap ((M.room : Int) - (M.used : Int)) = (M.room : Int) - (M.used : Int) := IntWalk.i64_in _ (by omega)
        go_enter Try.func19, Try.ntmps19
        go_wp2_with (go_at_call 47; refine hf.mono ?_; rintro e w1 ⟨v, rfl, rfl, rfl⟩)
        refine wpL_begin [8, 9] (fun w' => w'.cell? ⟨m, 0, none⟩ = some (.int .i64 M.room)) (by kernel_rfl) ?_
        have hG := c0
        refine wpL_pure (i := 0) (v := ?_) rfl (by kernel_rfl) (fun _ _ _ h => h) (Or.inl ⟨by rfl, ?_⟩) ?_; rotate_left; focus ((intro wq; go_simp); first | done | (with_reducible rfl))
        refine wpL_pure (i := 1) (v := ?_) rfl (by kernel_rfl) (fun _ _ _ h => h) (Or.inl ⟨by rfl, ?_⟩) ?_; rotate_left; focus ((intro wq; go_simp); first | done | (with_reducible rfl))
        refine wpL_pure (i := 2) (v := ?_) rfl (by kernel_rfl) (fun _ _ _ h => h) (Or.inl ⟨by rfl, ?_⟩) ?_; rotate_left; focus ((intro wq; go_simp); first | done | (with_reducible rfl))
        refine wpL_pure (i := 3) (v := ?_) rfl (by kernel_rfl) (fun _ _ _ h => h) (Or.inl ⟨by rfl, ?_⟩) ?_; rotate_left; focus ((intro wq; go_simp); first | done | (with_reducible rfl))
        refine wpL_pure (i := 4) (v := ?_) rfl (by kernel_rfl) (fun _ _ _ h => h) (Or.inl ⟨by rfl, ?_⟩) ?_; rotate_left; focus ((intro wq; go_simp); first | done | (with_reducible rfl))
        refine wpL_take (i := 5) (v := ?_) rfl (by kernel_rfl) (fun _ _ _ h => h) (Or.inl ⟨by rfl, ?_⟩) (by assumption) ?_; rotate_left; focus ((intro wq hq; go_split_ands; go_simp); first | done | (with_reducible rfl))
        refine wpL_pure (i := 6) (v := ?_) rfl (by kernel_rfl) (fun _ _ _ h => h) (Or.inl ⟨by rfl, ?_⟩) ?_; rotate_left; focus ((intro wq; go_simp); first | done | (with_reducible rfl))
        refine wpL_eff (i := 7) rfl (by kernel_rfl) (fun K hK => ?_)
        go_simp
        refine hu.mono ?_
        rintro e w1 ⟨v, rfl, rfl, hSu⟩
        refine hK _ _ (.inr (.inl (hSu.cellAt 0 _ rfl))) ?_
        clear hK K hG
        refine wpL_pure (i := 8) (v := ?_) rfl (by kernel_rfl) (fun _ _ _ h => h) (Or.inl ⟨by rfl, ?_⟩) ?_; rotate_left; focus ((intro wq; go_simp); first | done | (with_reducible rfl))
        refine wpL_pure (i := 9) (v := ?_) rfl (by kernel_rfl) (fun _ _ _ h => h) (Or.inl ⟨by rfl, ?_⟩) ?_; rotate_left; focus ((intro wq; go_simp); first | done | (with_reducible rfl))
        refine wpL_done (by kernel_rfl) ?_
        clear hwr
        go_wp2
        go_ret
        exact ⟨errno 11, rfl, by rw [Hfin.out], by rw [Hfin.out]; exact MedRep.shut hl hSu⟩
      have hfull' : decide ((M.room : Int) - M.used < lb.length) = false := by rw [decide_eq_false_iff_not]; exact hfull
      cases hstep : M.step.2
      · have Hfin : Hid (M.append s lb = (M.step.1, 12)) := by show _ = _; simp [Med.append, ho, hn, hfull, hstep]
        have Hs := Lib.hid hstep
        clear ho hn hstep hfull
        subst hbn
        have hwr : IntKind.i64.wrap ((M.room : Int) - (M.used : Int)) = (M.room : Int) - (M.used : Int) := IntWalk.i64_in _ (by omega)
        go_enter Try.func19, Try.ntmps19
        go_wp2_with (go_at_call 47; refine hf.mono ?_; rintro e w1 ⟨v, rfl, rfl, rfl⟩)
        refine wpL_begin [8, 9] (fun w' => w'.cell? ⟨m, 0, none⟩ = some (.int .i64 M.room)) (by kernel_rfl) ?_
        have hG := c0
        refine wpL_pure (i := 0) (v := ?_) rfl (by kernel_rfl) (fun _ _ _ h => h) (Or.inl ⟨by rfl, ?_⟩) ?_; rotate_left; focus ((intro wq; go_simp); first | done | (with_reducible rfl))
        refine wpL_pure (i := 1) (v := ?_) rfl (by kernel_rfl) (fun _ _ _ h => h) (Or.inl ⟨by rfl, ?_⟩) ?_; rotate_left; focus ((intro wq; go_simp); first | done | (with_reducible rfl))
        refine wpL_pure (i := 2) (v := ?_) rfl (by kernel_rfl) (fun _ _ _ h => h) (Or.inl ⟨by rfl, ?_⟩) ?_; rotate_left; focus ((intro wq; go_simp); first | done | (with_reducible rfl))
        refine wpL_pure (i := 3) (v := ?_) rfl (by kernel_rfl) (fun _ _ _ h => h) (Or.inl ⟨by rfl, ?_⟩) ?_; rotate_left; focus ((intro wq; go_simp); first | done | (with_reducible rfl))
        refine wpL_pure (i := 4) (v := ?_) rfl (by kernel_rfl) (fun _ _ _ h => h) (Or.inl ⟨by rfl, ?_⟩) ?_; rotate_left; focus ((intro wq; go_simp); first | done | (with_reducible rfl))
        refine wpL_take (i := 5) (v := ?_) rfl (by kernel_rfl) (fun _ _ _ h => h) (Or.inl ⟨by rfl, ?_⟩) (by assumption) ?_; rotate_left; focus ((intro wq hq; go_split_ands; go_simp); first | done | (with_reducible rfl))
        refine wpL_pure (i := 6) (v := ?_) rfl (by kernel_rfl) (fun _ _ _ h => h) (Or.inl ⟨by rfl, ?_⟩) ?_; rotate_left; focus ((intro wq; go_simp); first | done | (with_reducible rfl))
        refine wpL_eff (i := 7) rfl (by kernel_rfl) (fun K hK => ?_)
        go_simp
        refine hu.mono ?_
        rintro e w1 ⟨v, rfl, rfl, hSu⟩
        refine hK _ _ (.inr (.inl (hSu.cellAt 0 _ rfl))) ?_
        clear hK K hG
        refine wpL_pure (i := 8) (v := ?_) rfl (by kernel_rfl) (fun _ _ _ h => h) (Or.inl ⟨by rfl, ?_⟩) ?_; rotate_left; focus ((intro wq; go_simp); first | done | (with_reducible rfl))
        refine wpL_pure (i := 9) (v := ?_) rfl (by kernel_rfl) (fun _ _ _ h => h) (Or.inl ⟨by rfl, ?_⟩) ?_; rotate_left; focus ((intro wq; go_simp); first | done | (with_reducible rfl))
        refine wpL_done (by kernel_rfl) ?_
        clear hwr
        have hst := step_c hSu hM.left
        rw [Hs.out] at hst
        go_wp2_with (go_at_call 51; refine hst.mono ?_; rintro e w2 ⟨v, rfl, rfl, hS1⟩)
        go_ret
        refine ⟨errno 12, rfl, by rw [Hfin.out], ?_⟩
        rw [Hfin.out]
        exact MedRep.shut (bs := bs) (fb := fb) (nb := nb) (wv := wv) (by rw [M.step_same.2.2.2.1]; exact hl) (raw_step hS1)
      · have Hfin : Hid (M.append s lb = (M.step.1.setFile i ((M.file i).do ⟨false, 0, lb⟩), 0)) := by show _ = _; simp [Med.append, ho, hn, hfull, hstep]
        have Hs := Lib.hid hstep
        have hfe : M.step.1.file i = M.file i := by unfold Med.file; rw [M.step_same.2.2.2.1]
        have hokf := hM.file i
        have hbig : lb.length ≤ 16777216 := by omega
        clear ho hn hstep hfull
        subst hbn
        generalize hq : bs.getD i 0 = q at hf
        have Hq := Lib.hid hq; clear hq
        have Hfe := Lib.hid hfe; clear hfe
        have Hok := Lib.hid hokf; clear hokf
        have hwr : IntKind.i64.wrap ((M.room : Int) - (M.used : Int)) = (M.room : Int) - (M.used : Int) := IntWalk.i64_in _ (by omega)
        go_enter Try.func19, Try.ntmps19
        go_wp2_with (go_at_call 47; refine hf.mono ?_; rintro e w1 ⟨v, rfl, rfl, rfl⟩)
        refine wpL_begin [8, 9] (fun w' => w'.cell? ⟨m, 0, none⟩ = some (.int .i64 M.room)) (by kernel_rfl) ?_
        have hG := c0
        refine wpL_pure (i := 0) (v := ?_) rfl (by kernel_rfl) (fun _ _ _ h => h) (Or.inl ⟨by rfl, ?_⟩) ?_; rotate_left; focus ((intro wq; go_simp); first | done | (with_reducible rfl))
        refine wpL_pure (i := 1) (v := ?_) rfl (by kernel_rfl) (fun _ _ _ h => h) (Or.inl ⟨by rfl, ?_⟩) ?_; rotate_left; focus ((intro wq; go_simp); first | done | (with_reducible rfl))
        refine wpL_pure (i := 2) (v := ?_) rfl (by kernel_rfl) (fun _ _ _ h => h) (Or.inl ⟨by rfl, ?_⟩) ?_; rotate_left; focus ((intro wq; go_simp); first | done | (with_reducible rfl))
        refine wpL_pure (i := 3) (v := ?_) rfl (by kernel_rfl) (fun _ _ _ h => h) (Or.inl ⟨by rfl, ?_⟩) ?_; rotate_left; focus ((intro wq; go_simp); first | done | (with_reducible rfl))
        refine wpL_pure (i := 4) (v := ?_) rfl (by kernel_rfl) (fun _ _ _ h => h) (Or.inl ⟨by rfl, ?_⟩) ?_; rotate_left; focus ((intro wq; go_simp); first | done | (with_reducible rfl))
        refine wpL_take (i := 5) (v := ?_) rfl (by kernel_rfl) (fun _ _ _ h => h) (Or.inl ⟨by rfl, ?_⟩) (by assumption) ?_; rotate_left; focus ((intro wq hq; go_split_ands; go_simp); first | done | (with_reducible rfl))
        refine wpL_pure (i := 6) (v := ?_) rfl (by kernel_rfl) (fun _ _ _ h => h) (Or.inl ⟨by rfl, ?_⟩) ?_; rotate_left; focus ((intro wq; go_simp); first | done | (with_reducible rfl))
        refine wpL_eff (i := 7) rfl (by kernel_rfl) (fun K hK => ?_)
        go_simp
        refine hu.mono ?_
        rintro e w1 ⟨v, rfl, rfl, hSu⟩
        refine hK _ _ (.inr (.inl (hSu.cellAt 0 _ rfl))) ?_
        clear hK K hG
        refine wpL_pure (i := 8) (v := ?_) rfl (by kernel_rfl) (fun _ _ _ h => h) (Or.inl ⟨by rfl, ?_⟩) ?_; rotate_left; focus ((intro wq; go_simp); first | done | (with_reducible rfl))
        refine wpL_pure (i := 9) (v := ?_) rfl (by kernel_rfl) (fun _ _ _ h => h) (Or.inl ⟨by rfl, ?_⟩) ?_; rotate_left; focus ((intro wq; go_simp); first | done | (with_reducible rfl))
        refine wpL_done (by kernel_rfl) ?_
        clear hwr
        have hst := step_c hSu hM.left
        rw [Hs.out] at hst
        go_wp2_with (go_at_call 51; fail)
        refine hst.mono ?_
        rintro e w2 ⟨v, rfl, rfl, hS1⟩
        have hl' : bs.length = M.step.1.files.length := by rw [M.step_same.2.2.2.1]; exact hl
        have hid' : i < M.step.1.files.length := by rw [M.step_same.2.2.2.1]; exact hid
        obtain ⟨G, h1, h2⟩ := raw_file hl' hid' (raw_step hS1)
        rw [Hfe.out, Hq.out] at h1
        rw [Hq.out] at h2
        have hrd := Hr.out w2 (h1.sel 6 [] rfl rfl)
        have hcl := clone_c h1 hrd (by omega)
        go_wp2_with (go_at_call 54; fail)
        refine hcl.mono ?_
        rintro e w3 ⟨v2, rfl, hS2, a2, n2, k2, rfl⟩
        obtain ⟨fv, nv, wv', ws, hws, h3⟩ := FilRep.open hS2.pick1
        have hdo := do_c (bv := .slice a2 n2 k2) ⟨false, 0, lb⟩ (h3.sel 6 [0, 1, 2, 3, 4, 5] rfl rfl) hws ⟨(fun h => by cases h), fun _ => by have := Hok.out.now_len; simp only; omega⟩ (Nat.le_trans Hok.out.budget hK)
        clear h3 hws hst hcl hrd h1 hu
        go_wp2_with (go_at_call 53; go_must (refine hdo.mono ?_); rintro e w4 ⟨v4, rfl, hS4⟩)
        go_ret
        refine ⟨errno 0, rfl, by rw [Hfin.out], ?_⟩
        rw [Hfin.out]
        exact h2 _ _ hS4
  · obtain ⟨ba, bn, bc, rfl, hbn⟩ := ro_len hr h
    clear hbn
    have hf := find_off (s := s) hR ho
    have Hfin : Hid (M.append s lb = (M, 12)) := by show _ = _; simp [Med.append, ho]
    clear ho hr
    go_enter Try.func19, Try.ntmps19
    go_wp2_with (go_at_call 47; refine hf.mono ?_; rintro e w1 ⟨v, rfl, rfl, rfl⟩)
    go_ret
    exact ⟨errno 12, rfl, by rw [Hfin.out], by rw [Hfin.out]; exact h⟩
set_option maxHeartbeats 2000000 in
theorem syncDir_c (hM : M.Ok K) (h : Sat w0 w (MedRep m M :: F)) :
    Calls Try.prog 24 #[ptr m] w (Rtn fun v w' => v = errno M.syncDir.2 ∧ Sat w0 w' (MedRep m M.syncDir.1 :: F)) := by
  obtain ⟨bs, fb, nb, wv, hl, hR⟩ := MedRep.open h
  have hd := dead_c hR
  cases ho : M.off
  · rw [ho] at hd
    have hst := step_c hR hM.left
    cases hstep : M.step.2
    · rw [hstep] at hst
      have Hfin : Hid (M.syncDir = (M.step.1, 12)) := by show _ = _; simp [Med.syncDir, ho, hstep]
      clear ho hstep
      go_enter Try.func24, Try.ntmps24
      go_wp2_with (first | (go_at_call 49; refine hd.mono ?_; rintro e w1 ⟨v, rfl, rfl, rfl⟩) | (go_at_call 51; refine hst.mono ?_; rintro e w1 ⟨v, rfl, rfl, hS1⟩))
      go_ret
      refine ⟨errno 12, rfl, by rw [Hfin.out], ?_⟩
      rw [Hfin.out]
      exact MedRep.shut (bs := bs) (fb := fb) (nb := nb) (wv := wv) (by rw [M.step_same.2.2.2.1]; exact hl) (raw_step hS1)
    · rw [hstep] at hst
      have Hfin : Hid (M.syncDir = ({ M.step.1 with fast := M.now, waits := [] }, 0)) := by show _ = _; simp [Med.syncDir, ho, hstep]
      clear ho hstep
      go_enter Try.func24, Try.ntmps24
      go_wp2_with (first | (go_at_call 49; refine hd.mono ?_; rintro e w1 ⟨v, rfl, rfl, rfl⟩) | (go_at_call 51; fail))
      refine hst.mono ?_
      rintro e w1 ⟨v, rfl, rfl, hS1⟩
      have c2 := hS1.cellAt 2 _ rfl
      have hcp := copied_c hS1.pick1
      go_wp2_with (go_at_call 55; go_must (refine hcp.mono ?_); rintro e w2 ⟨v, rfl, b', rfl, hS2⟩; have d1 := hS2.pick2.cellAt 1 _ rfl; have d3 := hS2.pick2.cellAt 3 _ rfl; have g1 := hS2.pick2.freeAt 1; have g3 := hS2.pick2.freeAt 3)
      go_ret
      refine ⟨errno 0, rfl, by rw [Hfin.out], ?_⟩
      rw [Hfin.out]
      have h5 := (hS2.pick2.set 1 (.map (some b'))).set 3 (.slice none 0 0)
      obtain ⟨e1, e2, e3, e4, e5⟩ := M.step_same
      refine MedRep.shut (bs := bs) (fb := b') (nb := nb) (wv := .slice none 0 0) (by simp only [e4]; exact hl) ?_
      have h6 : Sat w0 _ (osl 95 3 (.slice none 0 0) [] :: _ :: _ :: _ :: _ :: _ :: osl _ _ _ _ :: F) := Sat.osl_nil.2 h5
      unfold MedRaw
      simp only [e3, e4]
      exact h6.sel 7 [1, 3, 4, 2, 0] rfl rfl
  · rw [ho] at hd
    have Hfin : Hid (M.syncDir = (M, 12)) := by show _ = _; simp [Med.syncDir, ho]
    clear ho
    go_enter Try.func24, Try.ntmps24
    go_wp2_with (go_at_call 49; refine hd.mono ?_; rintro e w1 ⟨v, rfl, rfl, rfl⟩)
    go_ret
    exact ⟨errno 12, rfl, by rw [Hfin.out], by rw [Hfin.out]; exact h⟩
end
end Go.Proofs.Ytmjldaedhmipkaa
/- A crash, of a file. -/
namespace Go.Proofs.Ytmjldaedhmipkaa
open Go Go.Sl Go.Med Go.MapKept Go.RowKit
section
variable {w0 w : World} {F : List HProp} {m fb nb b r : Nat} {M : Med} {bs : List Nat} {wv v bv : Value} {s : ByteArray} {l : Names} {fs : List Fil} {K : Nat} {f : Fil}
theorem chgs_take : ∀ (ws : List (Chg × Value)) (i : Nat) (p : Chg × Value), ws[i]? = some p → ∃ G : HProp, chgs ws = star (bsl p.2 p.1.b) G
  | [], _, _, h => by cases h
  | q :: ws, 0, p, h => by
    simp at h; subst h
    exact ⟨chgs ws, rfl⟩
  | q :: ws, i + 1, p, h => by
    obtain ⟨G, hG⟩ := chgs_take ws i p (by simpa using h)
    refine ⟨star (bsl q.2 q.1.b) G, ?_⟩
    show star (bsl q.2 q.1.b) (chgs ws) = _
    rw [hG, star_left_comm]
theorem chg_cells (ws : List (Chg × Value)) (i : Nat) (p : Chg × Value) (h : ws[i]? = some p) :
    (ws.flatMap chgCells)[i * 3]? = some (.bool p.1.cut) ∧ (ws.flatMap chgCells)[i * 3 + 1]? = some (.int .i64 p.1.n) ∧ (ws.flatMap chgCells)[i * 3 + 2]? = some p.2 := by
  induction ws generalizing i with
  | nil => cases h
  | cons q ws ih =>
    cases i with
    | zero => simp at h; subst h; exact ⟨rfl, rfl, rfl⟩
    | succ i =>
      obtain ⟨h1, h2, h3⟩ := ih i (by simpa using h)
      have e : ∀ j, (List.flatMap chgCells (q :: ws))[(i + 1) * 3 + j]? = (List.flatMap chgCells ws)[i * 3 + j]? := by
        intro j
        rw [List.flatMap_cons, List.getElem?_append_right (by simp [chgCells]; omega)]
        congr 1
        simp [chgCells]; omega
      exact ⟨(e 0).trans h1, (e 1).trans h2, (e 2).trans h3⟩
/-- The cells of a change that waits. -/
theorem waits_cells {ws : List (Chg × Value)} {g n cap : Nat} (h : Sat w0 w (osl 98 3 (.slice (some ⟨g, 0, none⟩) n cap) (ws.flatMap chgCells) :: F)) {i : Nat} {p : Chg × Value} (hi : ws[i]? = some p) :
    w.cell? ⟨g, i * 3, none⟩ = some (.bool p.1.cut) ∧ w.cell? ⟨g, i * 3 + 1, none⟩ = some (.int .i64 p.1.n) ∧ w.cell? ⟨g, i * 3 + 2, none⟩ = some p.2 := by
  obtain ⟨h1, h2, h3⟩ := chg_cells ws i p hi
  rcases h.osl_cases with ⟨he, _⟩ | ⟨b, n', cap', cs, he, hl, hn, hc, hcm, htk, hp⟩
  · cases he
  · cases he
    exact ⟨hp.cellAt _ _ (take_get htk h1), hp.cellAt _ _ (take_get htk h2), hp.cellAt _ _ (take_get htk h3)⟩
theorem rdsl_take {ba : Option Addr} {n c : Nat} {cb : Bs} (h : rdsl 1 (.slice ba n c) (bys cb) w) {T : Nat} (hT : T ≤ n) (c' : Nat) : rdsl 1 (.slice ba T c') (bys (cb.take T)) w := by
  obtain ⟨a, n', c'', he, hl, hc⟩ := h
  cases he
  rw [bys_len, Nat.mul_one] at hl
  refine ⟨ba, T, c', rfl, by rw [bys_len, List.length_take]; omega, fun i x hi => ?_⟩
  rw [bys_take, List.getElem?_take] at hi
  split at hi
  · exact hc i x hi
  · cases hi
set_option maxHeartbeats 4000000 in
theorem crashF_c (hf : f.Ok K) (hK : K ≤ 1099511627776) (h : Sat w0 w (FilRep b f :: F)) (whole torn : Int) (hw : -9223372036854775808 ≤ whole ∧ whole ≤ 9223372036854775807) (ht : -9223372036854775808 ≤ torn ∧ torn ≤ 9223372036854775807) :
    Calls Try.prog 59 #[ptr b, .int .i64 whole, .int .i64 torn] w (Rtn fun _ w' => Sat w0 w' (FilRep b (f.crash whole torn) :: F)) := by
  obtain ⟨fv, nv, wv, ws, hws, hR⟩ := FilRep.open h
  obtain ⟨fa, fn, fc, rfl⟩ := bsl_shape (hR.sel 2 [1] rfl rfl)
  obtain ⟨na, nn, nc, rfl⟩ := bsl_shape (hR.sel 3 [2] rfl rfl)
  have hO := hR.sel 4 [3] rfl rfl
  obtain ⟨wa, wn, wc, rfl, hwn, _⟩ := id hO.rd
  have c0 := hR.cellAt 0 _ rfl
  have c1 := hR.cellAt 1 _ rfl
  have c2 := hR.cellAt 2 _ rfl
  have hwl : ws.length = f.waits.length := by rw [← hws]; simp
  have hlen : (ws.flatMap chgCells).length = f.waits.length * 3 := by
    rw [List.length_flatMap, ← hwl]; simp [chgCells, List.map_const']
  have hwn' : wn = f.waits.length := by omega
  have hcapO : wn ≤ wc ∧ wc ≤ 9223372036854775807 := by
    rcases hO.osl_cases with ⟨he, _⟩ | ⟨b, n', cap', cs, he, _, hn, _, hcm, _, _⟩
    · cases he; omega
    · cases he; exact ⟨hn, hcm⟩
  obtain ⟨hc1, hc2⟩ := hcapO
  obtain ⟨N, hNd⟩ : ∃ N, N = clampN whole wn := ⟨_, rfl⟩
  have hNle : N ≤ wn := by rw [hNd]; exact clampN_le _ _
  have hN : min (max whole 0) (wn : Int) = (N : Int) := by rw [hNd]; unfold clampN; omega
  have hbud := hf.budget
  have hNc : (N : Int) ≤ (wc : Int) := by omega
  have hN0 : (0 : Int) ≤ (N : Int) := by omega
  subst hwn'
  have Hwl := Lib.hid hwl; have Hws := Lib.hid hws; have HNd := Lib.hid hNd; have Hf := Lib.hid hf; have HO := Lib.hid hO
  clear hwl hws hNd hf hlen hwn hO
  go_enter Try.func59, Try.ntmps59
  go_wp2
  go_loopg [6, 29] N (fun g bq iq wr => ∃ (k : Nat) (xa : Option Addr) (xn xc : Nat), g = N - k ∧ k ≤ N ∧ iq = .int .i64 k ∧ bq = .slice xa xn xc ∧
    Sat w0 wr (bsl (.slice xa xn xc) (f.at k) :: filPt b (.slice fa fn fc) (.slice na nn nc) (.slice wa f.waits.length wc) :: osl 98 3 (.slice wa f.waits.length wc) (ws.flatMap chgCells) :: chgs ws :: F))
  case atStart => exact ⟨0, fa, fn, fc, rfl, Nat.zero_le _, rfl, rfl, hR.sel 5 [1, 0, 3, 4] rfl rfl⟩
  case round =>
    obtain ⟨k, xa, xn, xc, rfl, hkN, rfl, rfl, hS⟩ := hrel
    by_cases hk : k < N
    · obtain ⟨p, hp⟩ : ∃ p, ws[k]? = some p := ⟨ws[k]'(by have := Hwl.out; omega), List.getElem?_eq_getElem _⟩
      have hpw : f.waits[k]? = some p.1 := by rw [← Hws.out, List.getElem?_map, hp]; rfl
      obtain ⟨G, hG⟩ := chgs_take ws k p hp
      have hS' := hS
      rw [hG] at hS'
      have hS2 : Sat w0 wr (bsl p.2 p.1.b :: G :: bsl (.slice xa xn xc) (f.at k) :: filPt b (.slice fa fn fc) (.slice na nn nc) (.slice wa f.waits.length wc) :: osl 98 3 (.slice wa f.waits.length wc) (ws.flatMap chgCells) :: F) := Sat.star.1 hS'.pick3
      obtain ⟨ba, bn, bc, hpb⟩ := bsl_shape hS2
      have hok : chgOk p.1 (f.at k) := by
        refine ⟨fun hc => Hf.out.cuts k p.1 hpw hc, fun hc => ?_⟩
        have h1 := Hf.out.size (k + 1) (by omega)
        rw [f.at_succ k p.1 hpw] at h1
        simp only [Chg.on, hc] at h1
        simp at h1; omega
      have hsucc : f.at (k + 1) = p.1.on (f.at k) := f.at_succ k p.1 hpw
      have hshape : ∃ g, wa = some ⟨g, 0, none⟩ := by
        rcases (Sat.osl_cases HO.out) with ⟨he, hx, _⟩ | ⟨g, n', cap', cs, he, _⟩
        · have := (Value.slice.inj he).2.1; omega
        · exact ⟨g, (Value.slice.inj he).1⟩
      obtain ⟨g, rfl⟩ := hshape
      obtain ⟨w0', w1', w2'⟩ := waits_cells (hS2.sel 5 [4] rfl rfl) hp
      obtain ⟨⟨cut, cn, cb⟩, pv⟩ := p
      simp only at hpb hS2 hok hsucc w0' w1' w2' hG
      subst hpb
      have hb : Sat w0 (wr.alloc (.cells #[.bool cut, .int .i64 cn, .slice ba bn bc] 98)) _ := hS2.alloc _
      have e0 := hb.cellAt 0 _ rfl
      have e1 := hb.cellAt 1 _ rfl
      have e2 := hb.cellAt 2 _ rfl
      have hon := chgon_c (bv := .slice ba bn bc) ⟨cut, cn, cb⟩ (hb.sel 4 [3, 1, 2] rfl rfl) (fun w hw => Sat.rd hw) ⟨_, _, _, rfl⟩ hok
      have Hsucc := Lib.hid hsucc; have HG := Lib.hid hG
      clear hsucc hG hok hpw hp hS'
      unfold chgV at hon
      have hkc : (k : Int) < (N : Int) := by omega
      go_wp2_with (go_at_call 69; go_must (refine hon.mono ?_); rintro e w2 ⟨v2, rfl, hS3, a3, n3, k3, rfl⟩)
      go_roundg (N - (k + 1))
      case measure => omega
      case rel =>
        refine ⟨k + 1, a3, n3, k3, rfl, by omega, by go_num, rfl, ?_⟩
        rw [Hsucc.out]
        have h9 : Sat w0 _ (bsl _ cb :: G :: bsl _ _ :: filPt b _ _ _ :: osl _ _ _ _ :: F) := hS3.sel 3 [1, 2, 0] rfl rfl
        have h10 := Sat.star.2 h9
        rw [← HG.out] at h10
        exact h10.sel 4 [1, 2, 3, 0] rfl rfl
    · obtain rfl : k = N := by omega
      have hatl := Hf.out.size k hNle
      have hleft : f.left whole torn = match f.waits[k]? with | some c => if c.cut then f.at k else f.at k ++ c.b.take (clampN torn c.b.length) | none => f.at k := by
        unfold Fil.left; rw [← HNd.out]; rfl
      have Hl0 := Lib.hid hleft; clear hleft
      by_cases hlt : k < f.waits.length
      · obtain ⟨p, hp⟩ : ∃ p, ws[k]? = some p := ⟨ws[k]'(by have := Hwl.out; omega), List.getElem?_eq_getElem _⟩
        have hpw : f.waits[k]? = some p.1 := by rw [← Hws.out, List.getElem?_map, hp]; rfl
        obtain ⟨G, hG⟩ := chgs_take ws k p hp
        have hS' := hS
        rw [hG] at hS'
        have hS2 : Sat w0 wr (bsl p.2 p.1.b :: G :: bsl (.slice xa xn xc) (f.at k) :: filPt b (.slice fa fn fc) (.slice na nn nc) (.slice wa f.waits.length wc) :: osl 98 3 (.slice wa f.waits.length wc) (ws.flatMap chgCells) :: F) := Sat.star.1 hS'.pick3
        obtain ⟨ba, bn, bc, hpb⟩ := bsl_shape hS2
        have hshape : ∃ g, wa = some ⟨g, 0, none⟩ := by
          rcases (Sat.osl_cases HO.out) with ⟨he, hx, _⟩ | ⟨g, n', cap', cs, he, _⟩
          · have := (Value.slice.inj he).2.1; omega
          · exact ⟨g, (Value.slice.inj he).1⟩
        obtain ⟨g, rfl⟩ := hshape
        obtain ⟨w0', w1', w2'⟩ := waits_cells (hS2.sel 5 [4] rfl rfl) hp
        have d2 := hS2.pick3.cellAt 2 _ rfl
        have hnext := Hf.out.size (k + 1) (by omega)
        rw [f.at_succ k p.1 hpw] at hnext
        obtain ⟨⟨cut, cn, cb⟩, pv⟩ := p
        simp only at hpb hS2 w0' w1' w2' hG hpw hnext
        subst hpb
        have hkc : (k : Int) < (f.waits.length : Int) := by omega
        have Hhn := Lib.hid hnext; clear hnext
        clear hG hS' hp
        cases cut
        · have hbcap : bn ≤ bc ∧ bc ≤ 9223372036854775807 ∧ bn = cb.length := by
            rcases hS2.osl_cases with ⟨he, hx, _⟩ | ⟨b, n', cap', cs, he, hl, hn, _, hcm, _, _⟩
            · cases he; have : (bys cb).length = 0 := by rw [hx]; rfl
              rw [bys_len] at this; omega
            · cases he; rw [bys_len] at hl; exact ⟨hn, hcm, by omega⟩
          obtain ⟨hb1, hb2, rfl⟩ := hbcap
          obtain ⟨T, hTd⟩ : ∃ T, T = clampN torn cb.length := ⟨_, rfl⟩
          have hTle : T ≤ cb.length := by rw [hTd]; exact clampN_le _ _
          have hT : min (max torn 0) (cb.length : Int) = (T : Int) := by rw [hTd]; unfold clampN; omega
          have hTc : (T : Int) ≤ (bc : Int) := by omega
          have hT0 : (0 : Int) ≤ (T : Int) := by omega
          have hleft : f.left whole torn = f.at k ++ cb.take T := by rw [Hl0.out, hpw, hTd]; rfl
          have Hleft := Lib.hid hleft
          clear hleft hTd hpw
          have hnext := Hhn.out
          simp only [Chg.on, Bool.false_eq_true, if_false, List.length_append] at hnext
          obtain ⟨i, hi, hz0, hz1, hz2⟩ := info8p
          have hb : Sat w0 (wr.alloc (.cells #[.bool false, .int .i64 cn, .slice ba cb.length bc] 98)) _ := hS2.alloc _
          have e2 := hb.cellAt 2 _ rfl
          have hcl := clone_c hb.drew (hb.drew.pick3.rd) (by omega)
          have h63 : (bys (f.at k)).length + (bys (cb.take T)).length ≤ maxLen := by rw [bys_len, bys_len, List.length_take]; unfold maxLen; omega
          have hby : ((bys (f.at k)).length + (bys (cb.take T)).length) * i.bytes ≤ 140737488355328 := by rw [bys_len, bys_len, List.length_take, hz2]; omega
          go_wp2
          refine wpL_begin [11, 12] (fun w' => w'.cell? ⟨wr.heap.size, 2, none⟩ = some (.slice ba cb.length bc)) (by kernel_rfl) ?_
          have hG := e2
          refine wpL_pure (i := 0) (v := ?_) rfl (by kernel_rfl) (fun _ _ _ h => h) (Or.inl ⟨by rfl, ?_⟩) ?_; rotate_left; focus ((intro wq; go_simp); first | done | (with_reducible rfl))
          refine wpL_pure (i := 2) (v := ?_) rfl (by kernel_rfl) (fun _ _ _ h => h) (Or.inl ⟨by rfl, ?_⟩) ?_; rotate_left; focus ((intro wq; go_simp); first | done | (with_reducible rfl))
          refine wpL_take (i := 3) (v := ?_) rfl (by kernel_rfl) (fun _ _ _ h => h) (Or.inl ⟨by rfl, ?_⟩) (by assumption) ?_; rotate_left; focus ((intro wq hq; go_split_ands; go_simp); first | done | (with_reducible rfl))
          refine wpL_pure (i := 4) (v := ?_) rfl (by kernel_rfl) (fun _ _ _ h => h) (Or.inl ⟨by rfl, ?_⟩) ?_; rotate_left; focus ((intro wq; go_simp); first | done | (with_reducible rfl))
          refine wpL_pure (i := 5) (v := ?_) rfl (by kernel_rfl) (fun _ _ _ h => h) (Or.inl ⟨by rfl, ?_⟩) ?_; rotate_left; focus ((intro wq; go_simp); first | done | (with_reducible rfl))
          refine wpL_pure (i := 6) (v := ?_) rfl (by kernel_rfl) (fun _ _ _ h => h) (Or.inl ⟨by rfl, ?_⟩) ?_; rotate_left; focus ((intro wq; go_simp); first | done | (with_reducible rfl))
          refine wpL_take (i := 7) (v := ?_) rfl (by kernel_rfl) (fun _ _ _ h => h) (Or.inl ⟨by rfl, ?_⟩) (by assumption) ?_; rotate_left; focus ((intro wq hq; go_split_ands; go_simp); first | done | (with_reducible rfl))
          refine wpL_pure (i := 8) (v := ?_) rfl (by kernel_rfl) (fun _ _ _ h => h) (Or.inl ⟨by rfl, ?_⟩) ?_; rotate_left; focus ((intro wq; go_simp); first | done | (with_reducible rfl))
          refine wpL_pure (i := 9) (v := ?_) rfl (by kernel_rfl) (fun _ _ _ h => h) (Or.inl ⟨by rfl, ?_⟩) ?_; rotate_left; focus ((intro wq; go_simp); first | done | (with_reducible rfl))
          refine wpL_pure (i := 10) (v := ?_) rfl (by kernel_rfl) (fun _ _ _ h => h) (Or.inl ⟨by rfl, ?_⟩) ?_; rotate_left; focus ((intro wq; go_simp); first | done | (with_reducible rfl))
          refine wpL_eff (i := 1) rfl (by kernel_rfl) (fun K hK => ?_)
          go_simp
          refine hcl.mono ?_
          rintro e w2 ⟨v1, rfl, hS3, a1, n1, k1, rfl⟩
          refine hK _ _ (.inr (.inl (hS3.pick1.cellAt 2 _ rfl))) ?_
          clear hK
          refine wpL_eff (i := 11) rfl (by kernel_rfl) (fun K hK => ?_)
          have hrd := rdsl_take (hS3.pick2.rd) hTle bc
          refine step_append (w0 := w0) (by rfl) _ _ _ (by rfl) _ i _ Try.underlying31 hi hz0 hz1 (by rfl) (by omega) (by rfl) (by rfl) (bys_one _) hS3 hrd h63 hby ?_
          intro v2 w3 hS4 _
          refine hK _ _ (.inl rfl) ?_
          clear hK
          refine wpL_pure (i := 12) (v := ?_) rfl (by kernel_rfl) (fun _ _ _ h => h) (Or.inl ⟨by rfl, ?_⟩) ?_; rotate_left; focus ((intro wq; go_simp); first | done | (with_reducible rfl))
          refine wpL_done (by kernel_rfl) ?_
          obtain ⟨xa2, xn2, xc2, rfl, _⟩ := id hS4.rd
          have hX : Sat w0 w3 (bsl (.slice xa2 xn2 xc2) (f.at k ++ cb.take T) :: filPt b (.slice fa fn fc) (.slice na nn nc) (.slice (some ⟨g, 0, none⟩) f.waits.length wc) :: F) := by
            unfold bsl; rw [bys_append]; exact hS4.sel 7 [0, 5] rfl rfl
          have hXl : (f.at k ++ cb.take T).length ≤ 16777216 := by simp; omega
          have hcl := clone_c hX hX.rd (by omega)
          go_wp2_with (go_at_call 54; go_must (refine hcl.mono ?_); rintro e w9 ⟨v9, rfl, hS9, a9, n9, k9, rfl⟩; have g0 := hS9.pick2.freeAt 0; have g1 := hS9.pick2.freeAt 1; have g2 := hS9.pick2.freeAt 2; have d0 := hS9.pick2.cellAt 0 _ rfl; have d1 := hS9.pick2.cellAt 1 _ rfl; have d2 := hS9.pick2.cellAt 2 _ rfl)
          go_end0
          refine ⟨_, rfl, ?_⟩
          have h5 := ((hS9.pick2.set 0 (.slice xa2 xn2 xc2)).set 1 (.slice a9 n9 k9)).set 2 (.slice none 0 0)
          unfold Fil.crash
          rw [Hleft.out]
          refine FilRep.shut (fv := .slice xa2 xn2 xc2) (nv := .slice a9 n9 k9) (wv := .slice none 0 0) (ws := []) rfl ?_
          have h6 : Sat w0 _ (osl 98 3 (.slice none 0 0) [] :: chgs [] :: _ :: bsl _ _ :: bsl _ _ :: F) := Sat.osl_nil.2 (Sat.emp.2 (h5.sel 3 [0, 1, 2] rfl rfl))
          exact h6.sel 5 [2, 4, 3, 0, 1] rfl rfl

        · have hleft : f.left whole torn = f.at k := by rw [Hl0.out, hpw]; rfl
          have Hleft := Lib.hid hleft
          clear hleft hpw
          have hX : Sat w0 wr (bsl (.slice xa xn xc) (f.at k) :: filPt b (.slice fa fn fc) (.slice na nn nc) (.slice (some ⟨g, 0, none⟩) f.waits.length wc) :: F) := hS.sel 4 [0, 1] rfl rfl
          have hXl := hatl
          have hcl := clone_c hX hX.rd (by omega)
          go_wp2_with (go_at_call 54; go_must (refine hcl.mono ?_); rintro e w9 ⟨v9, rfl, hS9, a9, n9, k9, rfl⟩; have g0 := hS9.pick2.freeAt 0; have g1 := hS9.pick2.freeAt 1; have g2 := hS9.pick2.freeAt 2; have d0 := hS9.pick2.cellAt 0 _ rfl; have d1 := hS9.pick2.cellAt 1 _ rfl; have d2 := hS9.pick2.cellAt 2 _ rfl)
          go_end0
          refine ⟨_, rfl, ?_⟩
          have h5 := ((hS9.pick2.set 0 (.slice xa xn xc)).set 1 (.slice a9 n9 k9)).set 2 (.slice none 0 0)
          unfold Fil.crash
          rw [Hleft.out]
          refine FilRep.shut (fv := .slice xa xn xc) (nv := .slice a9 n9 k9) (wv := .slice none 0 0) (ws := []) rfl ?_
          have h6 : Sat w0 _ (osl 98 3 (.slice none 0 0) [] :: chgs [] :: _ :: bsl _ _ :: bsl _ _ :: F) := Sat.osl_nil.2 (Sat.emp.2 (h5.sel 3 [0, 1, 2] rfl rfl))
          exact h6.sel 5 [2, 4, 3, 0, 1] rfl rfl

      · have hke : k = f.waits.length := by omega
        have hleft : f.left whole torn = f.at k := by rw [Hl0.out, List.getElem?_eq_none (by omega)]
        have Hleft := Lib.hid hleft
        clear hleft hke
        have hkc : ¬ (k : Int) < (f.waits.length : Int) := by omega
        have hkd : decide ((k : Int) < (f.waits.length : Int)) = false := by rw [decide_eq_false_iff_not]; exact hkc
        have d2 := hS.pick1.cellAt 2 _ rfl
        have hX : Sat w0 wr (bsl (.slice xa xn xc) (f.at k) :: filPt b (.slice fa fn fc) (.slice na nn nc) (.slice wa f.waits.length wc) :: F) := hS.sel 4 [0, 1] rfl rfl
        have hXl := hatl
        have hcl := clone_c hX hX.rd (by omega)
        go_wp2_with (go_at_call 54; go_must (refine hcl.mono ?_); rintro e w9 ⟨v9, rfl, hS9, a9, n9, k9, rfl⟩; have g0 := hS9.pick2.freeAt 0; have g1 := hS9.pick2.freeAt 1; have g2 := hS9.pick2.freeAt 2; have d0 := hS9.pick2.cellAt 0 _ rfl; have d1 := hS9.pick2.cellAt 1 _ rfl; have d2 := hS9.pick2.cellAt 2 _ rfl)
        go_end0
        refine ⟨_, rfl, ?_⟩
        have h5 := ((hS9.pick2.set 0 (.slice xa xn xc)).set 1 (.slice a9 n9 k9)).set 2 (.slice none 0 0)
        unfold Fil.crash
        rw [Hleft.out]
        refine FilRep.shut (fv := .slice xa xn xc) (nv := .slice a9 n9 k9) (wv := .slice none 0 0) (ws := []) rfl ?_
        have h6 : Sat w0 _ (osl 98 3 (.slice none 0 0) [] :: chgs [] :: _ :: bsl _ _ :: bsl _ _ :: F) := Sat.osl_nil.2 (Sat.emp.2 (h5.sel 3 [0, 1, 2] rfl rfl))
        exact h6.sel 5 [2, 4, 3, 0, 1] rfl rfl

end
end Go.Proofs.Ytmjldaedhmipkaa
/- A crash, of a medium. -/
namespace Go.Proofs.Ytmjldaedhmipkaa
open Go Go.Sl Go.Med Go.MapKept Go.RowKit
section
variable {w0 w : World} {F : List HProp} {m fb nb b r : Nat} {M : Med} {bs : List Nat} {wv v bv lv : Value} {s : ByteArray} {fs : List Fil} {K : Nat} {f : Fil}
def ints (l : List Int) : List Value := l.map (.int .i64)
def inI (x : Int) : Prop := -9223372036854775808 ≤ x ∧ x ≤ 9223372036854775807
/-- A slice without its first. -/
def nxs : Value → Value
  | .slice a (n + 1) c => .slice (if c = 1 then a else a.map (·.add 1)) n (c - 1)
  | v => v
def nxv (v : Value) : Nat → Value
  | 0 => v
  | j + 1 => nxs (nxv v j)
def capOk (v : Value) : Prop := ∃ a n c, v = .slice a n c ∧ n ≤ c ∧ c ≤ 9223372036854775807
theorem capOk.nxs {v : Value} (h : capOk v) : capOk (nxs v) := by
  obtain ⟨a, n, c, rfl, h1, h2⟩ := h
  cases n with
  | zero => exact ⟨a, 0, c, rfl, h1, h2⟩
  | succ n => exact ⟨_, n, c - 1, rfl, by omega, by omega⟩
theorem capOk.nxv {v : Value} (h : capOk v) : ∀ j, capOk (nxv v j)
  | 0 => h
  | j + 1 => (h.nxv j).nxs
theorem rdsl_nxs {v : Value} {xs : List Value} (h : rdsl 1 v xs w) (hc : capOk v) : rdsl 1 (nxs v) (xs.drop 1) w := by
  obtain ⟨a, n, c, rfl, h1, h2⟩ := hc
  cases n with
  | zero =>
    obtain ⟨a', n', c', he, hl, hx⟩ := h
    cases he
    have : xs = [] := List.eq_nil_of_length_eq_zero (by omega)
    subst this
    exact ⟨a, 0, c, rfl, rfl, by simp⟩
  | succ n =>
    have hlen : xs.length = n + 1 := by obtain ⟨a', n', c', he, hl, hx⟩ := h; cases he; omega
    have := rdsl_slice h (lo := 1) (k := n) (by omega) (if c = 1 then a else a.map (·.add 1)) rfl h1 (c - 1)
    rw [List.take_of_length_le (by simp; omega)] at this
    exact this
theorem rdsl_nxv {v : Value} {l : List Int} (h : rdsl 1 v (ints l) w) (hc : capOk v) : ∀ j, rdsl 1 (nxv v j) (ints (l.drop j)) w
  | 0 => h
  | j + 1 => by
    have := rdsl_nxs (rdsl_nxv h hc j) (hc.nxv j)
    unfold ints at this
    rw [← List.map_drop, List.drop_drop] at this
    exact this
theorem num_drop (l : List Int) (j : Nat) : num (l.drop j) 0 = num l j := by
  unfold num
  rw [List.getD_eq_getElem?_getD, List.getElem?_drop, List.getD_eq_getElem?_getD]; rfl
theorem num_in {l : List Int} (h : ∀ x ∈ l, inI x) (j : Nat) : inI (num l j) := by
  unfold num
  rw [List.getD_eq_getElem?_getD]
  cases hj : l[j]? with
  | none => exact ⟨by simp, by simp⟩
  | some x => exact h x (List.mem_of_getElem? hj)
set_option maxHeartbeats 2000000 in
/-- The next number. -/
theorem next_c (l : List Int) (h : Sat w0 w (pt b (.cells #[bv] 34 (0,0)) :: F)) (hr : rdsl 1 bv (ints l) w) (hc : capOk bv) :
    Calls Try.prog 56 #[ptr b] w (Rtn fun v w' => v = .int .i64 (num l 0) ∧ Sat w0 w' (pt b (.cells #[nxs bv] 34 (0,0)) :: F)) := by
  obtain ⟨a, n, c, rfl, h1, h2⟩ := hc
  have c0 := h.cellAt 0 _ rfl
  have f0 := h.freeAt 0
  obtain ⟨a', n', c', he, hlen, hcell⟩ := hr
  cases he
  have hlen' : n = l.length := by unfold ints at hlen; simpa using hlen.symm
  cases l with
  | nil =>
    simp at hlen'; subst hlen'
    clear hcell hlen
    go_enter Try.func56, Try.ntmps56
    go_wp2
    go_ret
    exact ⟨.int .i64 0, rfl, rfl, h⟩
  | cons x l =>
    obtain rfl : n = l.length + 1 := by simpa using hlen'
    obtain ⟨p, rfl, hx⟩ := hcell 0 (.int .i64 x) rfl
    rw [show p.add 0 = p from by unfold Addr.add; simp] at hx
    clear hcell hlen hlen'
    have hS0 := h
    clear h
    have hz : ((l.length : Int) + 1 == 0) = false := by rw [beq_eq_false_iff_ne]; omega
    go_enter Try.func56, Try.ntmps56
    go_wp2_with fail
    · go_ret
      have e : nxs (.slice (some p) (l.length + 1) 1) = .slice (some p) l.length 0 := by simp [nxs]
      exact ⟨.int .i64 x, rfl, rfl, by subst_vars; rw [e]; exact hS0.set 0 _⟩
    · go_ret
      have hc1 : ¬ c = 1 := by assumption
      have e : nxs (.slice (some p) (l.length + 1) c) = .slice (some ⟨p.block, p.off + 1, none⟩) l.length (c - 1) := by simp [nxs, hc1, Addr.add]
      exact ⟨.int .i64 x, rfl, rfl, by rw [e]; exact hS0.set 0 _⟩
end
end Go.Proofs.Ytmjldaedhmipkaa
/- A crash, of a medium. -/
namespace Go.Proofs.Ytmjldaedhmipkaa
open Go Go.Sl Go.Med Go.MapKept Go.RowKit
section
variable {w0 w : World} {F : List HProp} {m fb nb b r : Nat} {M : Med} {bs : List Nat} {wv v bv lv : Value} {s : ByteArray} {fs : List Fil} {f : Fil}
theorem lnk_cells (bs : List Nat) (ws : List Lnk) (i : Nat) (p : Lnk) (h : ws[i]? = some p) :
    (ws.flatMap (lnkCells bs))[i * 3]? = some (.string p.fr) ∧ (ws.flatMap (lnkCells bs))[i * 3 + 1]? = some (.string p.to) ∧ (ws.flatMap (lnkCells bs))[i * 3 + 2]? = some (lnkPtr bs p) := by
  induction ws generalizing i with
  | nil => cases h
  | cons q ws ih =>
    cases i with
    | zero => simp at h; subst h; exact ⟨rfl, rfl, rfl⟩
    | succ i =>
      obtain ⟨h1, h2, h3⟩ := ih i (by simpa using h)
      have e : ∀ j, (List.flatMap (lnkCells bs) (q :: ws))[(i + 1) * 3 + j]? = (List.flatMap (lnkCells bs) ws)[i * 3 + j]? := by
        intro j
        rw [List.flatMap_cons, List.getElem?_append_right (by simp [lnkCells]; omega)]
        congr 1
        simp [lnkCells]; omega
      exact ⟨(e 0).trans h1, (e 1).trans h2, (e 2).trans h3⟩
theorem lwaits_cells {ws : List Lnk} {g n cap : Nat} (h : Sat w0 w (osl 95 3 (.slice (some ⟨g, 0, none⟩) n cap) (ws.flatMap (lnkCells bs)) :: F)) {i : Nat} {p : Lnk} (hi : ws[i]? = some p) :
    w.cell? ⟨g, i * 3, none⟩ = some (.string p.fr) ∧ w.cell? ⟨g, i * 3 + 1, none⟩ = some (.string p.to) ∧ w.cell? ⟨g, i * 3 + 2, none⟩ = some (lnkPtr bs p) := by
  obtain ⟨h1, h2, h3⟩ := lnk_cells bs ws i p hi
  rcases h.osl_cases with ⟨he, _⟩ | ⟨b, n', cap', cs, he, hl, hn, hc, hcm, htk, hp⟩
  · cases he
  · cases he
    exact ⟨hp.cellAt _ _ (take_get htk h1), hp.cellAt _ _ (take_get htk h2), hp.cellAt _ _ (take_get htk h3)⟩
theorem crashFiles_snoc (l : List Int) : ∀ (ns : Names) (p : ByteArray × Nat) (j : Nat) (fs : List Fil),
    crashFiles l (ns ++ [p]) j fs = (crashFiles l ns j fs).set p.2 (((crashFiles l ns j fs).getD p.2 Fil.new).crash (num l (j + 2 * ns.length)) (num l (j + 2 * ns.length + 1)))
  | [], p, j, fs => rfl
  | q :: ns, p, j, fs => by
    show crashFiles l (ns ++ [p]) (j + 2) _ = _
    rw [crashFiles_snoc l ns p (j + 2) _]
    have e : j + 2 + 2 * ns.length = j + 2 * (q :: ns).length := by simp; omega
    rw [e]; rfl
theorem lastNames_succ (M : Med) (k : Nat) (x : Lnk) (h : M.waits[k]? = some x) : M.lastNames (k + 1) = x.on (M.lastNames k) := by
  unfold Med.lastNames
  rw [List.take_add_one, h, List.foldl_append]; rfl
set_option maxHeartbeats 8000000 in
theorem crash_c {KK : Nat} (hM : M.Ok KK) (hKK : KK ≤ 1099511627776) (h : Sat w0 w (MedRep m M :: F)) (l : List Int) (hr : Ro w0 F (rdsl 1 lv (ints l))) (hcap : capOk lv) (hi : ∀ x ∈ l, inI x) :
    Calls Try.prog 26 #[ptr m, lv] w (Rtn fun _ w' => Sat w0 w' (MedRep m (M.crash l) :: F)) := by
  obtain ⟨bs, fb, nb, wv, hl, hR⟩ := MedRep.open h
  have hO := hR.sel 5 [4] rfl rfl
  obtain ⟨wa, wn, wc, rfl, hwn, _⟩ := id hO.rd
  have hlen : (M.waits.flatMap (lnkCells bs)).length = M.waits.length * 3 := by
    rw [List.length_flatMap]; simp [lnkCells, List.map_const']
  have hwn' : wn = M.waits.length := by omega
  have hcapO : wn ≤ wc ∧ wc ≤ 9223372036854775807 := by
    rcases hO.osl_cases with ⟨he, _⟩ | ⟨b, n', cap', cs, he, _, hn, _, hcm, _, _⟩
    · cases he; omega
    · cases he; exact ⟨hn, hcm⟩
  obtain ⟨hc1, hc2⟩ := hcapO
  obtain ⟨N, hNd⟩ : ∃ N, N = clampN (num l 0) wn := ⟨_, rfl⟩
  have hNle : N ≤ wn := by rw [hNd]; exact clampN_le _ _
  have hN : min (max (num l 0) 0) (wn : Int) = (N : Int) := by rw [hNd]; unfold clampN; omega
  have hbud := hM.budget
  have hNc : (N : Int) ≤ (wc : Int) := by omega
  have hN0 : (0 : Int) ≤ (N : Int) := by omega
  subst hwn'
  obtain ⟨la, ln, lc, rfl, hlc1, hlc2⟩ := id hcap
  have hb : Sat w0 (w.alloc (.cells #[.slice la ln lc] 34)) _ := hR.alloc _
  have c1 := hb.pick1.cellAt 1 _ rfl
  have c2 := hb.pick1.cellAt 2 _ rfl
  have c3 := hb.pick1.cellAt 3 _ rfl
  have hcp := copied_c (hb.sel 6 [4, 0, 1, 2, 3, 5] rfl rfl)
  have HNd := Lib.hid hNd; have HM := Lib.hid hM; have Hr := Lib.hid hr; have Hi := Lib.hid hi; have Hcap := Lib.hid hcap
  clear hlen hwn hNd hM hr hi hcap hO
  go_enter Try.func26, Try.ntmps26
  go_wp2_with (go_at_call 55; refine hcp.mono ?_; rintro e w1 ⟨v, rfl, b', rfl, hS1⟩)
  clear hcp c1 c2 c3 hb
  generalize w.heap.size = cb at *
  have hS : Sat w0 w1 (pt cb (.cells #[.slice la ln lc] 34 (0,0)) :: omap .string b' (mapL bs M.fast) :: omap .string fb (mapL bs M.fast) :: medPt m M fb nb (.slice wa M.waits.length wc) :: omap .string nb (mapL bs M.now) :: filesRep bs M.files :: osl 95 3 (.slice wa M.waits.length wc) (M.waits.flatMap (lnkCells bs)) :: F) := hS1.sel 7 [2, 0, 1, 3, 4, 5, 6] rfl rfl
  clear hS1
  have d3 := hS.pick3.cellAt 3 _ rfl
  have hnx := next_c (F := omap .string b' (mapL bs M.fast) :: omap .string fb (mapL bs M.fast) :: medPt m M fb nb (.slice wa M.waits.length wc) :: omap .string nb (mapL bs M.now) :: filesRep bs M.files :: osl 95 3 (.slice wa M.waits.length wc) (M.waits.flatMap (lnkCells bs)) :: F) l hS.drew (Hr.out _ hS.drew.drop.drop.drop.drop.drop.drop.drop) Hcap.out
  refine wpL_begin [13, 14] (fun w' => w'.cell? ⟨m, 3, none⟩ = some (.slice wa M.waits.length wc)) (by kernel_rfl) ?_
  have hG := d3
  refine wpL_pure (i := 0) (v := ?_) rfl (by kernel_rfl) (fun _ _ _ h => h) (Or.inl ⟨by rfl, ?_⟩) ?_; rotate_left; focus ((intro wq; go_simp); first | done | (with_reducible rfl))
  refine wpL_pure (i := 1) (v := ?_) rfl (by kernel_rfl) (fun _ _ _ h => h) (Or.inl ⟨by rfl, ?_⟩) ?_; rotate_left; focus ((intro wq; go_simp); first | done | (with_reducible rfl))
  refine wpL_pure (i := 2) (v := ?_) rfl (by kernel_rfl) (fun _ _ _ h => h) (Or.inl ⟨by rfl, ?_⟩) ?_; rotate_left; focus ((intro wq; go_simp); first | done | (with_reducible rfl))
  refine wpL_take (i := 3) (v := ?_) rfl (by kernel_rfl) (fun _ _ _ h => h) (Or.inl ⟨by rfl, ?_⟩) (by assumption) ?_; rotate_left; focus ((intro wq hq; go_split_ands; go_simp); first | done | (with_reducible rfl))
  refine wpL_pure (i := 4) (v := ?_) rfl (by kernel_rfl) (fun _ _ _ h => h) (Or.inl ⟨by rfl, ?_⟩) ?_; rotate_left; focus ((intro wq; go_simp); first | done | (with_reducible rfl))
  refine wpL_pure (i := 7) (v := ?_) rfl (by kernel_rfl) (fun _ _ _ h => h) (Or.inl ⟨by rfl, ?_⟩) ?_; rotate_left; focus ((intro wq; go_simp); first | done | (with_reducible rfl))
  refine wpL_pure (i := 8) (v := ?_) rfl (by kernel_rfl) (fun _ _ _ h => h) (Or.inl ⟨by rfl, ?_⟩) ?_; rotate_left; focus ((intro wq; go_simp); first | done | (with_reducible rfl))
  refine wpL_pure (i := 9) (v := ?_) rfl (by kernel_rfl) (fun _ _ _ h => h) (Or.inl ⟨by rfl, ?_⟩) ?_; rotate_left; focus ((intro wq; go_simp); first | done | (with_reducible rfl))
  refine wpL_take (i := 10) (v := ?_) rfl (by kernel_rfl) (fun _ _ _ h => h) (Or.inl ⟨by rfl, ?_⟩) (by assumption) ?_; rotate_left; focus ((intro wq hq; go_split_ands; go_simp); first | done | (with_reducible rfl))
  refine wpL_pure (i := 11) (v := ?_) rfl (by kernel_rfl) (fun _ _ _ h => h) (Or.inl ⟨by rfl, ?_⟩) ?_; rotate_left; focus ((intro wq; go_simp); first | done | (with_reducible rfl))
  refine wpL_pure (i := 15) (v := ?_) rfl (by kernel_rfl) (fun _ _ _ h => h) (Or.inl ⟨by rfl, ?_⟩) ?_; rotate_left; focus ((intro wq; go_simp); first | done | (with_reducible rfl))
  refine wpL_eff (i := 5) rfl (by kernel_rfl) (fun K hK => ?_)
  go_simp
  refine hnx.mono ?_
  clear hnx
  rintro e w2 ⟨v, rfl, rfl, hS2⟩
  refine hK _ _ (.inr (.inl (hS2.pick3.cellAt 3 _ rfl))) ?_
  clear hK
  refine wpL_pure (i := 6) (v := ?_) rfl (by kernel_rfl) (fun _ _ _ h => h) (Or.inl ⟨by rfl, ?_⟩) ?_; rotate_left; focus ((intro wq; go_simp); first | done | (with_reducible rfl))
  refine wpL_pure (i := 12) (v := ?_) rfl (by kernel_rfl) (fun _ _ _ h => h) (Or.inl ⟨by rfl, ?_⟩) ?_; rotate_left; focus ((intro wq; go_simp); first | done | (with_reducible rfl))
  refine wpL_pure (i := 13) (v := ?_) rfl (by kernel_rfl) (fun _ _ _ h => h) (Or.inl ⟨by rfl, ?_⟩) ?_; rotate_left; focus ((intro wq; go_simp); first | done | (with_reducible rfl))
  refine wpL_pure (i := 14) (v := ?_) rfl (by kernel_rfl) (fun _ _ _ h => h) (Or.inl ⟨by rfl, ?_⟩) ?_; rotate_left; focus ((intro wq; go_simp); first | done | (with_reducible rfl))
  refine wpL_done (by kernel_rfl) ?_
  clear hG d3 hS
  go_wp2
  simp only [List.getElem_toArray, List.getElem_cons_succ, List.getElem_cons_zero]
  go_frame
  go_loopg [41] N (fun g iq wr => ∃ k : Nat, g = N - k ∧ k ≤ N ∧ iq = .int .i64 k ∧
    Sat w0 wr (omap .string b' (mapL bs (M.lastNames k)) :: pt cb (.cells #[nxs (.slice la ln lc)] 34 (0,0)) :: omap .string fb (mapL bs M.fast) :: medPt m M fb nb (.slice wa M.waits.length wc) :: omap .string nb (mapL bs M.now) :: filesRep bs M.files :: osl 95 3 (.slice wa M.waits.length wc) (M.waits.flatMap (lnkCells bs)) :: F))
  case atStart => exact ⟨0, rfl, Nat.zero_le _, rfl, hS2.sel 2 [1, 0] rfl rfl⟩
  case round =>
    obtain ⟨k, rfl, hkN, rfl, hS⟩ := hrel
    by_cases hk : k < N
    · obtain ⟨p, hp⟩ : ∃ p, M.waits[k]? = some p := ⟨M.waits[k]'(by omega), List.getElem?_eq_getElem _⟩
      have hsucc := lastNames_succ M k p hp
      have hO := hS.sel 7 [6] rfl rfl
      have hshape : ∃ g, wa = some ⟨g, 0, none⟩ := by
        rcases (Sat.osl_cases hO) with ⟨he, hx, _⟩ | ⟨g, n', cap', cs, he, _⟩
        · have := (Value.slice.inj he).2.1; omega
        · exact ⟨g, (Value.slice.inj he).1⟩
      obtain ⟨g, rfl⟩ := hshape
      obtain ⟨w0', w1', w2'⟩ := lwaits_cells hO hp
      have hb : Sat w0 (wr.alloc (.cells #[.string p.fr, .string p.to, lnkPtr bs p] 95)) _ := hS.alloc _
      have e0 := hb.cellAt 0 _ rfl
      have e1 := hb.cellAt 1 _ rfl
      have e2 := hb.cellAt 2 _ rfl
      have hon := on_c p hb.drop
      obtain ⟨fr, to, pf⟩ := p
      obtain ⟨q, hpv⟩ : ∃ q, lnkPtr bs ⟨fr, to, pf⟩ = .pointer q := by unfold lnkPtr; split <;> exact ⟨_, rfl⟩
      rw [hpv] at w2' hon e2
      have Hsucc := Lib.hid hsucc
      clear hsucc hp hpv hO
      have hkc : (k : Int) < (N : Int) := by omega
      simp only at w0' w1' e0 e1 hon
      go_wp2_with (go_at_call 57; go_must (refine hon.mono ?_); rintro e w2 ⟨v2, rfl, hS3⟩)
      go_roundg (N - (k + 1))
      case measure => omega
      case rel =>
        refine ⟨k + 1, rfl, by omega, by go_num, ?_⟩
        rw [Hsucc.out]
        exact hS3
    · obtain rfl : k = N := by omega
      have hns := HM.out.names k (by omega)
      have hcr : M.crash l = { M with fast := M.lastNames k, now := M.lastNames k, waits := [], files := crashFiles l (M.lastNames k) 1 M.files, off := false, armed := false, left := 0 } := by
        unfold Med.crash; rw [← HNd.out]
      have Hcr := Lib.hid hcr; clear hcr HNd
      have hkc : ¬ (k : Int) < (k : Int) := by omega
      have hlen5 := hns.len
      generalize hL : M.lastNames k = ns at *
      clear hL
      have hS' : Sat w0 wr (omap .string b' (mapL bs ns) :: pt cb (.cells #[nxs (.slice la ln lc)] 34 (0,0)) :: medPt m M fb nb (.slice wa M.waits.length wc) :: filesRep bs M.files :: F) := hS.sel 7 [0, 1, 3, 5] rfl rfl
      clear hS
      have hnm := names_c hS' hns.srt (by omega)
      have Hns := Lib.hid hns; clear hns
      go_wp2_with (go_at_call 58; refine hnm.mono ?_; rintro e w3 ⟨v, rfl, hS3, a3, n3, c3, rfl⟩)
      clear hnm hS'
      have hn3 : n3 = ns.length := by
        obtain ⟨a, n, c, he, hln, _⟩ := hS3.rd
        cases he
        unfold strs at hln; simp at hln; omega
      subst hn3
      have hc3 : ns.length ≤ c3 ∧ c3 ≤ 9223372036854775807 := by
        rcases hS3.osl_cases with ⟨he, _⟩ | ⟨b, n', cap', cs, he, _, hn, _, hcm, _, _⟩
        · have h1 := (Value.slice.inj he).2; omega
        · have h1 := (Value.slice.inj he).2; obtain ⟨h1, rfl⟩ := h1; subst h1; exact ⟨hn, hcm⟩
      obtain ⟨hc31, hc32⟩ := hc3
      try go_frame
      go_loopg [52] ns.length (fun g iq wr => ∃ i : Nat, g = ns.length - i ∧ i ≤ ns.length ∧ iq = .int .i64 i ∧
        Sat w0 wr (pt cb (.cells #[nxv (.slice la ln lc) (1 + 2 * i)] 34 (0,0)) :: omap .string b' (mapL bs ns) :: osl 9 1 (.slice a3 ns.length c3) (strs (ns.map (·.1))) :: medPt m M fb nb (.slice wa M.waits.length wc) :: filesRep bs (crashFiles l (ns.take i) 1 M.files) :: F))
      case atStart => exact ⟨0, rfl, Nat.zero_le _, rfl, hS3.sel 4 [2, 1, 0, 3] rfl rfl⟩
      case round =>
        obtain ⟨i, rfl, hiN, rfl, hS⟩ := hrel
        by_cases hilt : i < ns.length
        · obtain ⟨p, hp⟩ : ∃ p, ns[i]? = some p := ⟨ns[i]'(by omega), List.getElem?_eq_getElem _⟩
          have hpm : p ∈ ns := List.mem_of_getElem? hp
          have hpid := Hns.out.ids p hpm
          have htk : ns.take (i + 1) = ns.take i ++ [p] := by rw [List.take_add_one, hp]; rfl
          have hcf : crashFiles l (ns.take (i + 1)) 1 M.files = (crashFiles l (ns.take i) 1 M.files).set p.2 (((crashFiles l (ns.take i) 1 M.files).getD p.2 Fil.new).crash (num l (1 + 2 * i)) (num l (1 + 2 * i + 1))) := by
            rw [htk, crashFiles_snoc, List.length_take, Nat.min_eq_left (by omega)]
          have hst : (strs (ns.map (·.1)))[i]? = some (.string p.1) := by unfold strs; simp [hp]
          have hshape : ∃ g, a3 = some ⟨g, 0, none⟩ ∧ wr.cell? ⟨g, i, none⟩ = some (.string p.1) := by
            rcases Sat.osl_cases hS.pick2 with ⟨he, hx, _⟩ | ⟨g, n', cap', cs, he, hx1, hx2, hx3, hx4, hx5, hx6⟩
            · have := (Value.slice.inj he).2.1; omega
            · refine ⟨g, (Value.slice.inj he).1, hx6.cellAt _ _ (take_get hx5 hst)⟩
          obtain ⟨g, rfl, hcell⟩ := hshape
          have hR0 := Hr.out _ hS.drop.drop.drop.drop.drop
          have hnx := next_c (l.drop (1 + 2 * i)) hS (rdsl_nxv hR0 Hcap.out _) (Hcap.out.nxv _)
          rw [num_drop] at hnx
          have hlenf : bs.length = (crashFiles l (ns.take i) 1 M.files).length := by rw [crashFiles_len]; exact hl
          have hokf := crashFiles_ok l _ (ns.take i) 1 M.files HM.out.files
          have hff : Fil.Ok KK ((crashFiles l (ns.take i) 1 M.files).getD p.2 Fil.new) := by
            rw [List.getD_eq_getElem?_getD, List.getElem?_eq_getElem (by rw [crashFiles_len]; exact hpid)]
            exact hokf _ (List.getElem_mem _)
          obtain ⟨G, hG1, hG2⟩ := files_take bs (crashFiles l (ns.take i) 1 M.files) p.2 hlenf (by rw [crashFiles_len]; exact hpid)
          have hfp : fptr bs ns p.1 = ptr (bs.getD p.2 0) := by
            unfold fptr; rw [nget_of_mem Hns.out.srt.keys (show (p.1, p.2) ∈ ns from hpm)]
          have hin1 := num_in Hi.out (1 + 2 * i)
          have hin2 := num_in Hi.out (1 + 2 * i + 1)
          obtain ⟨nm, id⟩ := p
          simp only at hcell hfp hG1 hG2 hff hcf
          generalize bs.getD id 0 = q at *
          have Hcf := Lib.hid hcf; have HG2 := Lib.hid hG2; have Hff := Lib.hid hff; have Hhp := Lib.hid hp; have HG1 := Lib.hid hG1; have Hin1 := Lib.hid hin1; have Hin2 := Lib.hid hin2; have Hfp := Lib.hid hfp; have HS := Lib.hid hS
          clear hcf hG2 hff hp hpm hpid htk hst hokf hlenf hG1 hin1 hin2 hfp hS hR0
          have hic : (i : Int) < (ns.length : Int) := by omega
          go_wp2_with (go_at_call 56; refine hnx.mono ?_; rintro e w4 ⟨v, rfl, rfl, hS4⟩)
          clear hnx
          have hS5 : Sat w0 w4 (pt cb (.cells #[nxv (.slice la ln lc) (1 + 2 * i + 1)] 34 (0,0)) :: omap .string b' (mapL bs ns) :: osl 9 1 (.slice (some ⟨g, 0, none⟩) ns.length c3) (strs (ns.map (·.1))) :: medPt m M fb nb (.slice wa M.waits.length wc) :: filesRep bs (crashFiles l (ns.take i) 1 M.files) :: F) := hS4
          clear hS4
          have hlk := look_names (s := nm) hS5.pick1.drew
          rw [Hfp.out] at hlk
          have hnx2 := next_c (l.drop (1 + 2 * i + 1)) hS5.drew (rdsl_nxv (Hr.out _ hS5.drew.drop.drop.drop.drop.drop) Hcap.out _) (Hcap.out.nxv _)
          rw [num_drop] at hnx2
          refine wpL_begin [6] (fun w' => (Instr.lookup 55 (.map (some b')) (.string nm) false).run Try.prog w' = .ok (ptr q) w') (by kernel_rfl) ?_
          have hG := hlk
          refine wpL_pure (i := 0) (v := ?_) rfl (by kernel_rfl) (fun _ _ _ h => h) (Or.inl ⟨by rfl, ?_⟩) ?_; rotate_left; focus ((intro wq; go_simp); first | done | (with_reducible rfl))
          refine wpL_pure (i := 1) (v := ?_) rfl (by kernel_rfl) (fun _ _ _ h => h) (Or.inl ⟨by rfl, ?_⟩) ?_; rotate_left; focus ((intro wq; go_simp); first | done | (with_reducible rfl))
          refine wpL_take (i := 2) (v := ?_) rfl (by kernel_rfl) (fun _ _ _ h => h) (Or.inl ⟨by rfl, ?_⟩) (by assumption) ?_; rotate_left; focus ((intro wq hq; go_split_ands; go_simp); first | done | (with_reducible rfl))
          refine wpL_pure (i := 3) (v := ?_) rfl (by kernel_rfl) (fun _ _ _ h => h) (Or.inl ⟨by rfl, ?_⟩) ?_; rotate_left; focus ((intro wq; go_simp); first | done | (with_reducible rfl))
          refine wpL_pure (i := 4) (v := ?_) rfl (by kernel_rfl) (fun _ _ _ h => h) (Or.inl ⟨by rfl, ?_⟩) ?_; rotate_left; focus ((intro wq; go_simp); first | done | (with_reducible rfl))
          clear hlk hG
          refine wpL_eff (i := 5) rfl (by kernel_rfl) (fun K hK => ?_)
          go_simp
          refine hnx2.mono ?_
          clear hnx2
          rintro e w5 ⟨v, rfl, rfl, hS6⟩
          have hlk2 := look_names (s := nm) hS6.pick1
          rw [Hfp.out] at hlk2
          refine hK _ _ (.inr (.inl hlk2)) ?_
          clear hK hlk2
          have hS7 := hS6.sel 5 [4, 0, 1, 2, 3] rfl rfl
          have hS8 : Sat w0 w5 (filesRep bs (crashFiles l (ns.take i) 1 M.files) :: _) := hS7
          rw [HG1.out] at hS8
          have hcr := crashF_c Hff.out hKK (Sat.star.1 hS8) (num l (1 + 2 * i)) (num l (1 + 2 * i + 1)) Hin1.out Hin2.out
          clear hS8 hS7 hS6
          refine wpL_eff (i := 6) rfl (by kernel_rfl) (fun K hK => ?_)
          go_simp
          refine hcr.mono ?_
          clear hcr
          rintro e w6 ⟨v, rfl, hS9⟩
          refine hK _ _ (.inl rfl) ?_
          clear hK
          refine wpL_done (by kernel_rfl) ?_
          go_wp2
          go_roundg (ns.length - (i + 1))
          case measure => omega
          case rel =>
            refine ⟨i + 1, rfl, by omega, by go_num, ?_⟩
            rw [Hcf.out]
            have h9 := Sat.star.2 hS9
            rw [← HG2.out] at h9
            exact h9.sel 5 [1, 2, 3, 4, 0] rfl rfl
        · obtain rfl : i = ns.length := by omega
          have hic : ¬ (ns.length : Int) < (ns.length : Int) := by omega
          rw [List.take_length] at hS
          have hcp2 := copied_c (hS.sel 5 [1, 0, 2, 3, 4] rfl rfl)
          go_wp2_with (go_at_call 55; refine hcp2.mono ?_; rintro e w4 ⟨v, rfl, b2, rfl, hS4⟩; have hS5 := hS4.pick4; have g1 := hS5.freeAt 1; have g2 := hS5.freeAt 2; have g3 := hS5.freeAt 3; have g4 := hS5.freeAt 4; have g5 := hS5.freeAt 5; have g6 := hS5.freeAt 6; have d1 := hS5.cellAt 1 _ rfl; have d2 := hS5.cellAt 2 _ rfl; have d3 := hS5.cellAt 3 _ rfl; have d4 := hS5.cellAt 4 _ rfl; have d5 := hS5.cellAt 5 _ rfl; have d6 := hS5.cellAt 6 _ rfl)
          go_end0
          refine ⟨_, rfl, ?_⟩
          rw [Hcr.out]
          refine MedRep.shut (bs := bs) (fb := b2) (nb := b') (wv := .slice none 0 0) (by simp [crashFiles_len]; exact hl) ?_
          have h5 := ((((((Sat.set hS5 2 (.map (some b'))).set 1 (.map (some b2))).set 3 (.slice none 0 0)).set 6 (.bool false)).set 4 (.bool false)).set 5 (.int .i64 0))
          have h6 := Sat.osl_nil (T := 95) (sz := 3).2 h5
          exact h6.sel 7 [1, 3, 6, 2, 0] rfl rfl
end
end Go.Proofs.Ytmjldaedhmipkaa
/- The law's own small functions: Cut, Numbers, Same, begins, lives. -/
namespace Go.Proofs.Ytmjldaedhmipkaa
open Go Go.Sl Go.Med Go.MapKept Go.RowKit
section
variable {w0 w : World} {F : List HProp} {m fb nb b r : Nat} {M : Med} {bs : List Nat} {wv v bv lv av : Value} {s : ByteArray} {fs : List Fil} {K : Nat} {f : Fil}
theorem rdsl_cell {a : Option Addr} {n c : Nat} {xs : List Value} (h : rdsl 1 (.slice a n c) xs w) {i : Nat} {x : Value} (hi : xs[i]? = some x) :
    ∃ bk off, a = some ⟨bk, off, none⟩ ∧ w.cell? ⟨bk, off + i, none⟩ = some x := by
  obtain ⟨a', n', c', he, hl, hx⟩ := h
  cases he
  obtain ⟨b, rfl, hc⟩ := hx i x hi
  have hlt : i < xs.length := (List.getElem?_eq_some_iff.1 hi).1
  obtain ⟨y, hy⟩ : ∃ y, xs[0]? = some y := ⟨xs[0]'(by omega), List.getElem?_eq_getElem _⟩
  obtain ⟨b', hb', hc0⟩ := hx 0 y hy
  cases hb'
  obtain ⟨bk, off, spot⟩ := b
  have hs : spot = none := by simpa [Addr.add] using World.cell?_spot hc0
  subst hs
  refine ⟨bk, off, rfl, ?_⟩
  unfold Addr.add at hc
  split at hc
  · rename_i h0; subst h0; exact hc
  · exact hc
theorem cut_c (a : Option Addr) (n c k : Nat) (h1 : n ≤ c) (h2 : c ≤ 9223372036854775807) (w : World) :
    Calls Try.prog 16 #[.slice a n c, .int .i64 k] w (Rtn fun v w' => v = .slice a (min n k) c ∧ w = w') := by
  by_cases hk : k < n
  · have hk1 : (k : Int) < (n : Int) := by omega
    have hk2 : (k : Int) ≤ (c : Int) := by omega
    have e := Lib.hid (show min n k = k by omega)
    go_enter Try.func16, Try.ntmps16
    go_wp2
    go_ret
    exact ⟨.slice a k c, rfl, by rw [e.out], rfl⟩
  · have hk1 : ¬ (k : Int) < (n : Int) := by omega
    have e := Lib.hid (show min n k = n by omega)
    go_enter Try.func16, Try.ntmps16
    go_wp2
    go_ret
    exact ⟨.slice a n c, rfl, by rw [e.out], rfl⟩
theorem numbers_c (a : Option Addr) (n c k : Nat) (h1 : n ≤ c) (h2 : c ≤ 9223372036854775807) (w : World) :
    Calls Try.prog 17 #[.slice a n c, .int .i64 k] w (Rtn fun v w' => v = .slice a (min n k) c ∧ w = w') := by
  by_cases hk : k < n
  · have hk1 : (k : Int) < (n : Int) := by omega
    have hk2 : (k : Int) ≤ (c : Int) := by omega
    have e := Lib.hid (show min n k = k by omega)
    go_enter Try.func17, Try.ntmps17
    go_wp2
    go_ret
    exact ⟨.slice a k c, rfl, by rw [e.out], rfl⟩
  · have hk1 : ¬ (k : Int) < (n : Int) := by omega
    have e := Lib.hid (show min n k = n by omega)
    go_enter Try.func17, Try.ntmps17
    go_wp2
    go_ret
    exact ⟨.slice a n c, rfl, by rw [e.out], rfl⟩
theorem rdsl_min {a : Option Addr} {n c : Nat} {xs : List Value} (h : rdsl 1 (.slice a n c) xs w) (k : Nat) : rdsl 1 (.slice a (min n k) c) (xs.take k) w := by
  obtain ⟨a', n', c', he, hl, hx⟩ := h
  cases he
  refine ⟨a, min n k, c, rfl, by rw [List.length_take]; omega, fun i x hi => ?_⟩
  rw [List.getElem?_take] at hi
  split at hi
  · exact hx i x hi
  · cases hi
set_option maxHeartbeats 2000000 in
/-- Two slices of the same bytes. -/
theorem same_c (la : Bs) (ha : Ro w0 F (rdsl 1 av (bys la))) (hb : Ro w0 F (rdsl 1 bv (bys la))) (h : Sat w0 w F) (hlen : la.length ≤ 9223372036854775807) :
    Calls Try.prog 9 #[av, bv] w (Rtn fun v w' => v = .bool true ∧ Sat w0 w' F) := by
  obtain ⟨aa, an, ac, rfl, hal, _⟩ := id (ha w h)
  obtain ⟨ba, bn, bc, rfl, hbl, _⟩ := id (hb w h)
  rw [bys_len, Nat.mul_one] at hal hbl
  subst hal
  obtain rfl := hbl.symm
  have Ha := Lib.hid ha; have Hb := Lib.hid hb
  clear ha hb
  go_enter Try.func9, Try.ntmps9
  go_wp2
  go_loopg [5] la.length (fun g iq wr => ∃ i : Nat, g = la.length - i ∧ i ≤ la.length ∧ iq = .int .i64 i ∧ Sat w0 wr F)
  case atStart => exact ⟨0, rfl, Nat.zero_le _, rfl, h⟩
  case round =>
    obtain ⟨i, rfl, hiN, rfl, hS⟩ := hrel
    by_cases hi : i < la.length
    · have hx : (bys la)[i]? = some (.int .u8 (la[i]'hi).toNat) := by unfold bys; simp [hi]
      obtain ⟨bk, off, rfl, c1⟩ := rdsl_cell (Ha.out _ hS) hx
      obtain ⟨bk2, off2, rfl, c2⟩ := rdsl_cell (Hb.out _ hS) hx
      generalize ((la[i]'hi).toNat : Int) = X at c1 c2
      clear hx
      have hic : (i : Int) < (la.length : Int) := by omega
      have hS1 := hS.drew
      go_wp2
      refine wpL_begin [8] (fun w' => w'.cell? ⟨bk, off + i, none⟩ = some (.int .u8 X) ∧ w'.cell? ⟨bk2, off2 + i, none⟩ = some (.int .u8 X)) (by kernel_rfl) ?_
      have hG : _ ∧ _ := And.intro c1 c2
      refine wpL_pure (i := 0) (v := ?_) rfl (by kernel_rfl) (fun _ _ _ h => h) (Or.inl ⟨by rfl, ?_⟩) ?_; rotate_left; focus ((intro wq; go_simp); first | done | (with_reducible rfl))
      refine wpL_pure (i := 1) (v := ?_) rfl (by kernel_rfl) (fun _ _ _ h => h) (Or.inl ⟨by rfl, ?_⟩) ?_; rotate_left; focus ((intro wq; go_simp); first | done | (with_reducible rfl))
      refine wpL_pure (i := 2) (v := ?_) rfl (by kernel_rfl) (fun _ _ _ h => h) (Or.inl ⟨by rfl, ?_⟩) ?_; rotate_left; focus ((intro wq; go_simp); first | done | (with_reducible rfl))
      refine wpL_take (i := 3) (v := ?_) rfl (by kernel_rfl) (fun _ _ _ h => h) (Or.inl ⟨by rfl, ?_⟩) (by assumption) ?_; rotate_left; focus ((intro wq hq; go_split_ands; go_simp); first | done | (with_reducible rfl))
      refine wpL_pure (i := 4) (v := ?_) rfl (by kernel_rfl) (fun _ _ _ h => h) (Or.inl ⟨by rfl, ?_⟩) ?_; rotate_left; focus ((intro wq; go_simp); first | done | (with_reducible rfl))
      refine wpL_pure (i := 5) (v := ?_) rfl (by kernel_rfl) (fun _ _ _ h => h) (Or.inl ⟨by rfl, ?_⟩) ?_; rotate_left; focus ((intro wq; go_simp); first | done | (with_reducible rfl))
      refine wpL_pure (i := 6) (v := ?_) rfl (by kernel_rfl) (fun _ _ _ h => h) (Or.inl ⟨by rfl, ?_⟩) ?_; rotate_left; focus ((intro wq; go_simp); first | done | (with_reducible rfl))
      refine wpL_take (i := 7) (v := ?_) rfl (by kernel_rfl) (fun _ _ _ h => h) (Or.inl ⟨by rfl, ?_⟩) (by assumption) ?_; rotate_left; focus ((intro wq hq; go_split_ands; go_simp); first | done | (with_reducible rfl))
      refine wpL_pure (i := 8) (v := ?_) rfl (by kernel_rfl) (fun _ _ _ h => h) (Or.inl ⟨by rfl, ?_⟩) ?_; rotate_left; focus ((intro wq; go_simp); first | done | (with_reducible rfl))
      refine wpL_done (by kernel_rfl) ?_
      clear hG
      simp only [List.getElem_toArray, List.getElem_cons_succ, List.getElem_cons_zero]
      go_frame
      go_wp2
      go_roundg (la.length - (i + 1))
      case measure => omega
      case rel => exact ⟨i + 1, rfl, by omega, by go_num, hS1⟩
    · obtain rfl : i = la.length := by omega
      have hic : ¬ (la.length : Int) < (la.length : Int) := by omega
      go_wp2
      go_ret
      exact ⟨.bool true, rfl, rfl, hS⟩
end
end Go.Proofs.Ytmjldaedhmipkaa
/- Within, Short, Copy. -/
namespace Go.Proofs.Ytmjldaedhmipkaa
open Go Go.Sl Go.Med Go.MapKept Go.RowKit
section
variable {w0 w : World} {F : List HProp} {m fb nb b r : Nat} {M : Med} {bs : List Nat} {wv v bv : Value} {s : ByteArray} {fs : List Fil} {K : Nat}
def within (x lo hi : Int) : Int := if x < lo then lo else if hi < x then hi else x
theorem within_c (x lo hi : Int) (w : World) : Calls Try.prog 72 #[.int .i64 x, .int .i64 lo, .int .i64 hi] w (Rtn fun v w' => v = .int .i64 (within x lo hi) ∧ w = w') := by
  by_cases h1 : x < lo
  · have e := Lib.hid (show within x lo hi = lo by simp [within, h1])
    go_enter Try.func72, Try.ntmps72
    go_wp2
    go_ret
    exact ⟨.int .i64 lo, rfl, by rw [e.out], rfl⟩
  · by_cases h2 : hi < x
    · have e := Lib.hid (show within x lo hi = hi by simp [within, h1, h2])
      go_enter Try.func72, Try.ntmps72
      go_wp2
      go_ret
      exact ⟨.int .i64 hi, rfl, by rw [e.out], rfl⟩
    · have e := Lib.hid (show within x lo hi = x by simp [within, h1, h2])
      go_enter Try.func72, Try.ntmps72
      go_wp2
      go_ret
      exact ⟨.int .i64 x, rfl, by rw [e.out], rfl⟩
/-- A text of at most n bytes. -/
theorem short_c (s : ByteArray) (n : Nat) (w : World) : Calls Try.prog 14 #[.string s, .int .i64 n] w (Rtn fun v w' => v = .string (if n < s.size then s.extract 0 n else s) ∧ w = w') := by
  by_cases h1 : n < s.size
  · have e := Lib.hid (show (if n < s.size then s.extract 0 n else s) = s.extract 0 n by rw [if_pos h1])
    have k1 : (n : Int) < (s.size : Int) := by omega
    have k2 : (n : Int) ≤ (s.size : Int) := by omega
    go_enter Try.func14, Try.ntmps14
    go_wp2
    go_ret
    exact ⟨.string (s.extract 0 n), rfl, by first | rfl | rw [e.out], rfl⟩
  · have e := Lib.hid (show (if n < s.size then s.extract 0 n else s) = s by rw [if_neg h1])
    have k1 : ¬ (n : Int) < (s.size : Int) := by omega
    go_enter Try.func14, Try.ntmps14
    go_wp2
    go_ret
    exact ⟨.string s, rfl, by first | rfl | rw [e.out], rfl⟩
set_option maxHeartbeats 1000000 in
/-- Bytes, copied. -/
theorem copy_c (h : Sat w0 w F) (l : Bs) (hr : rdsl 1 bv (bys l) w) (hl : l.length ≤ 1099511627776) :
    Calls Try.prog 15 #[bv] w (Rtn fun v w' => Sat w0 w' (bsl v l :: F) ∧ ∃ a n c, v = .slice a n c) := by
  obtain ⟨i, hi, hz0, hz1, hz2⟩ := info8p
  obtain ⟨a, n, c, rfl, hn, _⟩ := id hr
  rw [bys_len, Nat.mul_one] at hn
  have h0 : Sat w0 w (osl 5 1 (.slice none 0 0) [] :: F) := Sat.osl_nil.2 h
  have h63 : ([] : List Value).length + (bys l).length ≤ maxLen := by rw [bys_len]; unfold maxLen; simp; omega
  have hby : (([] : List Value).length + (bys l).length) * i.bytes ≤ 140737488355328 := by rw [bys_len, hz2]; simp; omega
  have Hn := Lib.hid hn; clear hn
  go_enter Try.func15, Try.ntmps15
  go_wp2_with (at_builtin; go_must (refine wpList_append (w0 := w0) (by rfl) _ _ _ (by rfl) _ i _ Try.underlying31 hi hz0 hz1 (by rfl) (by omega) (by rfl) (by rfl) (bys_one _) h0 hr h63 hby ?_); intro v2 w2 hS2 hne)
  obtain ⟨a2, n2, c2, rfl, _⟩ := id hS2.rd
  go_wp2
  go_ret
  exact ⟨_, rfl, hS2, _, _, _, rfl⟩
end
end Go.Proofs.Ytmjldaedhmipkaa
/- Remove. -/
namespace Go.Proofs.Ytmjldaedhmipkaa
open Go Go.Sl Go.Med Go.MapKept Go.RowKit
section
variable {w0 w : World} {F : List HProp} {m fb nb b r : Nat} {M : Med} {bs : List Nat} {wv v bv : Value} {s : ByteArray} {l : Names} {fs : List Fil} {K : Nat}
theorem link_rep (hM : M.Ok K) (hK : K ≤ 1099511627776) (hl : bs.length = M.files.length) (x : Lnk) (h : Sat w0 w (MedRaw m M bs fb nb wv ++ F)) :
    Calls Try.prog 52 #[ptr m, .agg #[.string x.fr, .string x.to, lnkPtr bs x]] w (Rtn fun _ w' => Sat w0 w' (MedRep m (M.link x) :: F)) := by
  refine (link_c x (h.sel 5 [0, 1, 4, 2, 3] rfl rfl) (Nat.le_trans hM.budget hK)).mono ?_
  rintro e w1 ⟨v, rfl, wv', hS⟩
  refine ⟨v, rfl, MedRep.shut (bs := bs) (fb := fb) (nb := nb) (wv := wv') (by simpa [Med.link] using hl) ?_⟩
  exact hS.sel 5 [0, 1, 3, 4, 2] rfl rfl
set_option maxHeartbeats 2000000 in
theorem remove_c (hM : M.Ok K) (hK : K ≤ 1099511627776) (h : Sat w0 w (MedRep m M :: F)) (s : ByteArray) :
    Calls Try.prog 22 #[ptr m, .string s] w (Rtn fun v w' => v = errno (M.remove s).2 ∧ Sat w0 w' (MedRep m (M.remove s).1 :: F)) := by
  obtain ⟨bs, fb, nb, wv, hl, hR⟩ := MedRep.open h
  cases ho : M.off
  · cases hn : nget M.now s with
    | none =>
      have hf := find_none (s := s) hR ho hn
      have Hfin : Hid (M.remove s = (M, 9)) := by show _ = _; simp [Med.remove, ho, hn]
      clear ho hn
      go_enter Try.func22, Try.ntmps22
      go_wp2_with (first | (go_at_call 47; refine hf.mono ?_; rintro e w1 ⟨v, rfl, rfl, rfl⟩))
      go_ret
      exact ⟨errno 9, rfl, by rw [Hfin.out], by rw [Hfin.out]; exact h⟩
    | some i =>
      have hf := find_some (s := s) hR ho hn
      have hst := step_c hR hM.left
      cases hstep : M.step.2
      · rw [hstep] at hst
        have Hfin : Hid (M.remove s = (M.step.1, 12)) := by show _ = _; simp [Med.remove, ho, hn, hstep]
        clear ho hn hstep
        go_enter Try.func22, Try.ntmps22
        go_wp2_with (first | (go_at_call 47; refine hf.mono ?_; rintro e w1 ⟨v, rfl, rfl, rfl⟩) | (go_at_call 51; refine hst.mono ?_; rintro e w1 ⟨v, rfl, rfl, hS1⟩))
        go_ret
        refine ⟨errno 12, rfl, by rw [Hfin.out], ?_⟩
        rw [Hfin.out]
        exact MedRep.shut (bs := bs) (fb := fb) (nb := nb) (wv := wv) (by rw [M.step_same.2.2.2.1]; exact hl) (raw_step hS1)
      · rw [hstep] at hst
        have Hfin : Hid (M.remove s = (M.step.1.link ⟨s, ByteArray.empty, 0⟩, 0)) := by show _ = _; simp [Med.remove, ho, hn, hstep]
        have hl' : bs.length = M.step.1.files.length := by rw [M.step_same.2.2.2.1]; exact hl
        have hlp : lnkPtr bs ⟨s, ByteArray.empty, 0⟩ = .pointer none := by unfold lnkPtr; rw [if_pos rfl]
        have Hl' := Lib.hid hl'; have Hlp := Lib.hid hlp
        clear ho hn hstep hl' hlp
        generalize hq : bs.getD i 0 = q at hf
        have Hq := Lib.hid hq; clear hq
        go_enter Try.func22, Try.ntmps22
        go_wp2_with (first | (go_at_call 47; refine hf.mono ?_; rintro e w1 ⟨v, rfl, rfl, rfl⟩) | (go_at_call 51; fail))
        refine hst.mono ?_
        rintro e w1 ⟨v, rfl, rfl, hS1⟩
        have hlk := link_rep hM.step hK Hl'.out ⟨s, ByteArray.empty, 0⟩ (raw_step hS1)
        rw [Hlp.out] at hlk
        go_wp2_with (go_at_call 52; go_must (refine hlk.mono ?_); rintro e w2 ⟨v2, rfl, hS2⟩)
        go_ret
        refine ⟨errno 0, rfl, by rw [Hfin.out], ?_⟩
        rw [Hfin.out]
        exact hS2
  · have hf := find_off (s := s) hR ho
    have Hfin : Hid (M.remove s = (M, 12)) := by show _ = _; simp [Med.remove, ho]
    clear ho
    go_enter Try.func22, Try.ntmps22
    go_wp2_with (first | (go_at_call 47; refine hf.mono ?_; rintro e w1 ⟨v, rfl, rfl, rfl⟩))
    go_ret
    exact ⟨errno 12, rfl, by rw [Hfin.out], by rw [Hfin.out]; exact h⟩
end
end Go.Proofs.Ytmjldaedhmipkaa
