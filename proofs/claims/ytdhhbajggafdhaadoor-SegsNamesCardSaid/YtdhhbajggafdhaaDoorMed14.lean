import Derived.Test.YtdhhbajggafdhaaDoorMed13
/- Append, SyncDir. -/
namespace Go.Proofs.YtdhhbajggafdhaaDoor
open Go Go.Sl Go.Med Go.MapKept Go.RowKit
section
variable {w0 w : World} {F : List HProp} {m fb nb b r : Nat} {M : Med} {bs : List Nat} {wv v bv : Value} {s : ByteArray} {l : Names} {fs : List Fil} {K : Nat}
theorem ro_len {lb : Bs} (hr : Ro w0 F (rdsl 1 bv (bys lb))) {A : HProp} (h : Sat w0 w (A :: F)) : ∃ a n c, bv = .slice a n c ∧ n = lb.length := by
  obtain ⟨a, n, c, rfl, hl, _⟩ := hr w h.drop
  rw [bys_len, Nat.mul_one] at hl
  exact ⟨a, n, c, rfl, hl.symm⟩
set_option maxHeartbeats 4000000 in
theorem append_c (hM : M.Ok K) (hK : K ≤ 1099511627776) (h : Sat w0 w (MedRep m M :: F)) (s : ByteArray) (lb : Bs) (hr : Ro w0 F (rdsl 1 bv (bys lb))) :
    Calls Tryd.prog 74 #[ptr m, .string s, bv] w (Rtn fun v w' => v = errno (M.append s lb).2 ∧ Sat w0 w' (MedRep m (M.append s lb).1 :: F)) := by
  obtain ⟨bs, fb, nb, wv, hl, hR⟩ := MedRep.open h
  cases ho : M.off
  · cases hn : nget M.now s with
    | none =>
      obtain ⟨ba, bn, bc, rfl, hbn⟩ := ro_len hr h
      clear hbn
      have hf := find_none (s := s) hR ho hn
      have Hfin : Hid (M.append s lb = (M, 9)) := by show _ = _; simp [Med.append, ho, hn]
      clear ho hn hr
      go_enter Tryd.func74, Tryd.ntmps74
      go_wp2_with (go_at_call 69; refine hf.mono ?_; rintro e w1 ⟨v, rfl, rfl, rfl⟩)
      go_ret
      exact ⟨errno 9, rfl, by rw [Hfin.out], by rw [Hfin.out]; exact h⟩
    | some i =>
      have hf := find_some (s := s) hR ho hn
      have hid : i < M.files.length := hM.nowOk.ids (s, i) (nget_mem hn)
      obtain ⟨ba, bn, bc, rfl, hbn⟩ := ro_len hr h
      have hu := used_c (w := w.drew) (m := m) (M := M) (fb := fb) (nb := nb) (wv := wv) (bs := bs) hR.drew hl hM.nowOk.ids (by have := hM.used_le; omega)
      have hut : M.usedTold = M.used := by simp [Med.usedTold, ho]
      rw [hut] at hu
      have hu2 := hM.used_le
      have hr2 := hM.room
      have c0 := hR.cellAt 0 _ rfl
      have Hr := Lib.hid hr; clear hr
      clear hut
      by_cases hfull : (M.room : Int) - M.used < lb.length
      · have Hfin : Hid (M.append s lb = (M, 11)) := by show _ = _; simp [Med.append, ho, hn, hfull]
        clear ho hn
        subst hbn
        have hwr : IntKind.i64.wrap ((M.room : Int) - (M.used : Int)) = (M.room : Int) - (M.used : Int) := IntWalk.i64_in _ (by omega)
        go_enter Tryd.func74, Tryd.ntmps74
        go_wp2_with (go_at_call 69; refine hf.mono ?_; rintro e w1 ⟨v, rfl, rfl, rfl⟩)
        refine wpL_begin [8, 9] (fun w' => w'.cell? ⟨m, 0, none⟩ = some (.int .i64 M.room)) (by kernel_rfl) ?_
        have hG := c0
        refine wpL_pure (i := 0) (v := ?_) rfl (by kernel_rfl) (fun _ _ _ h => h) (Or.inl ⟨by rfl, ?_⟩) ?_; rotate_left; focus ((intro wq; go_simp); first | done | (with_reducible rfl))
        refine wpL_pure (i := 1) (v := ?_) rfl (by kernel_rfl) (fun _ _ _ h => h) (Or.inl ⟨by rfl, ?_⟩) ?_; rotate_left; focus ((intro wq; go_simp); first | done | (with_reducible rfl))
        refine wpL_pure (i := 2) (v := ?_) rfl (by kernel_rfl) (fun _ _ _ h => h) (Or.inl ⟨by rfl, ?_⟩) ?_; rotate_left; focus ((intro wq; go_simp); first | done | (with_reducible rfl))
        refine wpL_pure (i := 3) (v := ?_) rfl (by kernel_rfl) (fun _ _ _ h => h) (Or.inl ⟨by rfl, ?_⟩) ?_; rotate_left; focus ((intro wq; go_simp); first | done | (with_reducible rfl))
        refine wpL_pure (i := 4) (v := ?_) rfl (by kernel_rfl) (fun _ _ _ h => h) (Or.inl ⟨by rfl, ?_⟩) ?_; rotate_left; focus ((intro wq; go_simp); first | done | (with_reducible rfl))
        refine wpL_take (i := 5) (v := ?_) rfl (by kernel_rfl) (fun _ _ _ h => h) (Or.inl ⟨by rfl, ?_⟩) (by assumption) ?_; rotate_left; focus ((intro wq hq; go_split_ands; go_simp); first | done | (with_reducible rfl))
        refine wpL_pure (i := 6) (v := ?_) rfl (by kernel_rfl) (fun _ _ _ h => h) (Or.inl ⟨by rfl, ?_⟩) ?_; rotate_left; focus ((intro wq; go_simp); first | done | (with_reducible rfl))
        refine wpL_eff (i := 7) rfl (by kernel_rfl) (fun K hK => ?_)
        go_simp
        refine hu.mono ?_
        rintro e w1 ⟨v, rfl, rfl, hSu⟩
        refine hK _ _ (.inr (.inl (hSu.cellAt 0 _ rfl))) ?_
        clear hK K hG
        refine wpL_pure (i := 8) (v := ?_) rfl (by kernel_rfl) (fun _ _ _ h => h) (Or.inl ⟨by rfl, ?_⟩) ?_; rotate_left; focus ((intro wq; go_simp); first | done | (with_reducible rfl))
        refine wpL_pure (i := 9) (v := ?_) rfl (by kernel_rfl) (fun _ _ _ h => h) (Or.inl ⟨by rfl, ?_⟩) ?_; rotate_left; focus ((intro wq; go_simp); first | done | (with_reducible rfl))
        refine wpL_done (by kernel_rfl) ?_
        clear hwr
        go_wp2
        go_ret
        exact ⟨errno 11, rfl, by rw [Hfin.out], by rw [Hfin.out]; exact MedRep.shut hl hSu⟩
      have hfull' : decide ((M.room : Int) - M.used < lb.length) = false := by rw [decide_eq_false_iff_not]; exact hfull
      cases hstep : M.step.2
      · have Hfin : Hid (M.append s lb = (M.step.1, 12)) := by show _ = _; simp [Med.append, ho, hn, hfull, hstep]
        have Hs := Lib.hid hstep
        clear ho hn hstep hfull
        subst hbn
        have hwr : IntKind.i64.wrap ((M.room : Int) - (M.used : Int)) = (M.room : Int) - (M.used : Int) := IntWalk.i64_in _ (by omega)
        go_enter Tryd.func74, Tryd.ntmps74
        go_wp2_with (go_at_call 69; refine hf.mono ?_; rintro e w1 ⟨v, rfl, rfl, rfl⟩)
        refine wpL_begin [8, 9] (fun w' => w'.cell? ⟨m, 0, none⟩ = some (.int .i64 M.room)) (by kernel_rfl) ?_
        have hG := c0
        refine wpL_pure (i := 0) (v := ?_) rfl (by kernel_rfl) (fun _ _ _ h => h) (Or.inl ⟨by rfl, ?_⟩) ?_; rotate_left; focus ((intro wq; go_simp); first | done | (with_reducible rfl))
        refine wpL_pure (i := 1) (v := ?_) rfl (by kernel_rfl) (fun _ _ _ h => h) (Or.inl ⟨by rfl, ?_⟩) ?_; rotate_left; focus ((intro wq; go_simp); first | done | (with_reducible rfl))
        refine wpL_pure (i := 2) (v := ?_) rfl (by kernel_rfl) (fun _ _ _ h => h) (Or.inl ⟨by rfl, ?_⟩) ?_; rotate_left; focus ((intro wq; go_simp); first | done | (with_reducible rfl))
        refine wpL_pure (i := 3) (v := ?_) rfl (by kernel_rfl) (fun _ _ _ h => h) (Or.inl ⟨by rfl, ?_⟩) ?_; rotate_left; focus ((intro wq; go_simp); first | done | (with_reducible rfl))
        refine wpL_pure (i := 4) (v := ?_) rfl (by kernel_rfl) (fun _ _ _ h => h) (Or.inl ⟨by rfl, ?_⟩) ?_; rotate_left; focus ((intro wq; go_simp); first | done | (with_reducible rfl))
        refine wpL_take (i := 5) (v := ?_) rfl (by kernel_rfl) (fun _ _ _ h => h) (Or.inl ⟨by rfl, ?_⟩) (by assumption) ?_; rotate_left; focus ((intro wq hq; go_split_ands; go_simp); first | done | (with_reducible rfl))
        refine wpL_pure (i := 6) (v := ?_) rfl (by kernel_rfl) (fun _ _ _ h => h) (Or.inl ⟨by rfl, ?_⟩) ?_; rotate_left; focus ((intro wq; go_simp); first | done | (with_reducible rfl))
        refine wpL_eff (i := 7) rfl (by kernel_rfl) (fun K hK => ?_)
        go_simp
        refine hu.mono ?_
        rintro e w1 ⟨v, rfl, rfl, hSu⟩
        refine hK _ _ (.inr (.inl (hSu.cellAt 0 _ rfl))) ?_
        clear hK K hG
        refine wpL_pure (i := 8) (v := ?_) rfl (by kernel_rfl) (fun _ _ _ h => h) (Or.inl ⟨by rfl, ?_⟩) ?_; rotate_left; focus ((intro wq; go_simp); first | done | (with_reducible rfl))
        refine wpL_pure (i := 9) (v := ?_) rfl (by kernel_rfl) (fun _ _ _ h => h) (Or.inl ⟨by rfl, ?_⟩) ?_; rotate_left; focus ((intro wq; go_simp); first | done | (with_reducible rfl))
        refine wpL_done (by kernel_rfl) ?_
        clear hwr
        have hst := step_c hSu hM.left
        rw [Hs.out] at hst
        go_wp2_with (go_at_call 70; refine hst.mono ?_; rintro e w2 ⟨v, rfl, rfl, hS1⟩)
        go_ret
        refine ⟨errno 12, rfl, by rw [Hfin.out], ?_⟩
        rw [Hfin.out]
        exact MedRep.shut (bs := bs) (fb := fb) (nb := nb) (wv := wv) (by rw [M.step_same.2.2.2.1]; exact hl) (raw_step hS1)
      · have Hfin : Hid (M.append s lb = (M.step.1.setFile i ((M.file i).do ⟨false, 0, lb⟩), 0)) := by show _ = _; simp [Med.append, ho, hn, hfull, hstep]
        have Hs := Lib.hid hstep
        have hfe : M.step.1.file i = M.file i := by unfold Med.file; rw [M.step_same.2.2.2.1]
        have hokf := hM.file i
        have hbig : lb.length ≤ 16777216 := by omega
        clear ho hn hstep hfull
        subst hbn
        generalize hq : bs.getD i 0 = q at hf
        have Hq := Lib.hid hq; clear hq
        have Hfe := Lib.hid hfe; clear hfe
        have Hok := Lib.hid hokf; clear hokf
        have hwr : IntKind.i64.wrap ((M.room : Int) - (M.used : Int)) = (M.room : Int) - (M.used : Int) := IntWalk.i64_in _ (by omega)
        go_enter Tryd.func74, Tryd.ntmps74
        go_wp2_with (go_at_call 69; refine hf.mono ?_; rintro e w1 ⟨v, rfl, rfl, rfl⟩)
        refine wpL_begin [8, 9] (fun w' => w'.cell? ⟨m, 0, none⟩ = some (.int .i64 M.room)) (by kernel_rfl) ?_
        have hG := c0
        refine wpL_pure (i := 0) (v := ?_) rfl (by kernel_rfl) (fun _ _ _ h => h) (Or.inl ⟨by rfl, ?_⟩) ?_; rotate_left; focus ((intro wq; go_simp); first | done | (with_reducible rfl))
        refine wpL_pure (i := 1) (v := ?_) rfl (by kernel_rfl) (fun _ _ _ h => h) (Or.inl ⟨by rfl, ?_⟩) ?_; rotate_left; focus ((intro wq; go_simp); first | done | (with_reducible rfl))
        refine wpL_pure (i := 2) (v := ?_) rfl (by kernel_rfl) (fun _ _ _ h => h) (Or.inl ⟨by rfl, ?_⟩) ?_; rotate_left; focus ((intro wq; go_simp); first | done | (with_reducible rfl))
        refine wpL_pure (i := 3) (v := ?_) rfl (by kernel_rfl) (fun _ _ _ h => h) (Or.inl ⟨by rfl, ?_⟩) ?_; rotate_left; focus ((intro wq; go_simp); first | done | (with_reducible rfl))
        refine wpL_pure (i := 4) (v := ?_) rfl (by kernel_rfl) (fun _ _ _ h => h) (Or.inl ⟨by rfl, ?_⟩) ?_; rotate_left; focus ((intro wq; go_simp); first | done | (with_reducible rfl))
        refine wpL_take (i := 5) (v := ?_) rfl (by kernel_rfl) (fun _ _ _ h => h) (Or.inl ⟨by rfl, ?_⟩) (by assumption) ?_; rotate_left; focus ((intro wq hq; go_split_ands; go_simp); first | done | (with_reducible rfl))
        refine wpL_pure (i := 6) (v := ?_) rfl (by kernel_rfl) (fun _ _ _ h => h) (Or.inl ⟨by rfl, ?_⟩) ?_; rotate_left; focus ((intro wq; go_simp); first | done | (with_reducible rfl))
        refine wpL_eff (i := 7) rfl (by kernel_rfl) (fun K hK => ?_)
        go_simp
        refine hu.mono ?_
        rintro e w1 ⟨v, rfl, rfl, hSu⟩
        refine hK _ _ (.inr (.inl (hSu.cellAt 0 _ rfl))) ?_
        clear hK K hG
        refine wpL_pure (i := 8) (v := ?_) rfl (by kernel_rfl) (fun _ _ _ h => h) (Or.inl ⟨by rfl, ?_⟩) ?_; rotate_left; focus ((intro wq; go_simp); first | done | (with_reducible rfl))
        refine wpL_pure (i := 9) (v := ?_) rfl (by kernel_rfl) (fun _ _ _ h => h) (Or.inl ⟨by rfl, ?_⟩) ?_; rotate_left; focus ((intro wq; go_simp); first | done | (with_reducible rfl))
        refine wpL_done (by kernel_rfl) ?_
        clear hwr
        have hst := step_c hSu hM.left
        rw [Hs.out] at hst
        go_wp2_with (go_at_call 70; fail)
        refine hst.mono ?_
        rintro e w2 ⟨v, rfl, rfl, hS1⟩
        have hl' : bs.length = M.step.1.files.length := by rw [M.step_same.2.2.2.1]; exact hl
        have hid' : i < M.step.1.files.length := by rw [M.step_same.2.2.2.1]; exact hid
        obtain ⟨G, h1, h2⟩ := raw_file hl' hid' (raw_step hS1)
        rw [Hfe.out, Hq.out] at h1
        rw [Hq.out] at h2
        have hrd := Hr.out w2 (h1.sel 6 [] rfl rfl)
        have hcl := clone_c h1 hrd (by omega)
        go_wp2_with (go_at_call 71; fail)
        refine hcl.mono ?_
        rintro e w3 ⟨v2, rfl, hS2, a2, n2, k2, rfl⟩
        obtain ⟨fv, nv, wv', ws, hws, h3⟩ := FilRep.open hS2.pick1
        have hdo := do_c (bv := .slice a2 n2 k2) ⟨false, 0, lb⟩ (h3.sel 6 [0, 1, 2, 3, 4, 5] rfl rfl) hws ⟨(fun h => by cases h), fun _ => by have := Hok.out.now_len; simp only; omega⟩ (Nat.le_trans Hok.out.budget hK)
        clear h3 hws hst hcl hrd h1 hu
        go_wp2_with (go_at_call 86; go_must (refine hdo.mono ?_); rintro e w4 ⟨v4, rfl, hS4⟩)
        go_ret
        refine ⟨errno 0, rfl, by rw [Hfin.out], ?_⟩
        rw [Hfin.out]
        exact h2 _ _ hS4
  · obtain ⟨ba, bn, bc, rfl, hbn⟩ := ro_len hr h
    clear hbn
    have hf := find_off (s := s) hR ho
    have Hfin : Hid (M.append s lb = (M, 12)) := by show _ = _; simp [Med.append, ho]
    clear ho hr
    go_enter Tryd.func74, Tryd.ntmps74
    go_wp2_with (go_at_call 69; refine hf.mono ?_; rintro e w1 ⟨v, rfl, rfl, rfl⟩)
    go_ret
    exact ⟨errno 12, rfl, by rw [Hfin.out], by rw [Hfin.out]; exact h⟩
set_option maxHeartbeats 2000000 in
theorem syncDir_c (hM : M.Ok K) (h : Sat w0 w (MedRep m M :: F)) :
    Calls Tryd.prog 50 #[ptr m] w (Rtn fun v w' => v = errno M.syncDir.2 ∧ Sat w0 w' (MedRep m M.syncDir.1 :: F)) := by
  obtain ⟨bs, fb, nb, wv, hl, hR⟩ := MedRep.open h
  have hd := dead_c hR
  cases ho : M.off
  · rw [ho] at hd
    have hst := step_c hR hM.left
    cases hstep : M.step.2
    · rw [hstep] at hst
      have Hfin : Hid (M.syncDir = (M.step.1, 12)) := by show _ = _; simp [Med.syncDir, ho, hstep]
      clear ho hstep
      go_enter Tryd.func50, Tryd.ntmps50
      go_wp2_with (first | (go_at_call 55; refine hd.mono ?_; rintro e w1 ⟨v, rfl, rfl, rfl⟩) | (go_at_call 70; refine hst.mono ?_; rintro e w1 ⟨v, rfl, rfl, hS1⟩))
      go_ret
      refine ⟨errno 12, rfl, by rw [Hfin.out], ?_⟩
      rw [Hfin.out]
      exact MedRep.shut (bs := bs) (fb := fb) (nb := nb) (wv := wv) (by rw [M.step_same.2.2.2.1]; exact hl) (raw_step hS1)
    · rw [hstep] at hst
      have Hfin : Hid (M.syncDir = ({ M.step.1 with fast := M.now, waits := [] }, 0)) := by show _ = _; simp [Med.syncDir, ho, hstep]
      clear ho hstep
      go_enter Tryd.func50, Tryd.ntmps50
      go_wp2_with (first | (go_at_call 55; refine hd.mono ?_; rintro e w1 ⟨v, rfl, rfl, rfl⟩) | (go_at_call 70; fail))
      refine hst.mono ?_
      rintro e w1 ⟨v, rfl, rfl, hS1⟩
      have c2 := hS1.cellAt 2 _ rfl
      have hcp := copied_c hS1.pick1
      go_wp2_with (go_at_call 66; go_must (refine hcp.mono ?_); rintro e w2 ⟨v, rfl, b', rfl, hS2⟩; have d1 := hS2.pick2.cellAt 1 _ rfl; have d3 := hS2.pick2.cellAt 3 _ rfl; have g1 := hS2.pick2.freeAt 1; have g3 := hS2.pick2.freeAt 3)
      go_ret
      refine ⟨errno 0, rfl, by rw [Hfin.out], ?_⟩
      rw [Hfin.out]
      have h5 := (hS2.pick2.set 1 (.map (some b'))).set 3 (.slice none 0 0)
      obtain ⟨e1, e2, e3, e4, e5⟩ := M.step_same
      refine MedRep.shut (bs := bs) (fb := b') (nb := nb) (wv := .slice none 0 0) (by simp only [e4]; exact hl) ?_
      have h6 : Sat w0 _ (osl 115 3 (.slice none 0 0) [] :: _ :: _ :: _ :: _ :: _ :: osl _ _ _ _ :: F) := Sat.osl_nil.2 h5
      unfold MedRaw
      simp only [e3, e4]
      exact h6.sel 7 [1, 3, 4, 2, 0] rfl rfl
  · rw [ho] at hd
    have Hfin : Hid (M.syncDir = (M, 12)) := by show _ = _; simp [Med.syncDir, ho]
    clear ho
    go_enter Tryd.func50, Tryd.ntmps50
    go_wp2_with (go_at_call 55; refine hd.mono ?_; rintro e w1 ⟨v, rfl, rfl, rfl⟩)
    go_ret
    exact ⟨errno 12, rfl, by rw [Hfin.out], by rw [Hfin.out]; exact h⟩
end
end Go.Proofs.YtdhhbajggafdhaaDoor
