import Derived.Test.YtdhhbajggafdhaaDoorMed11
/- Create. -/
namespace Go.Proofs.YtdhhbajggafdhaaDoor
open Go Go.Sl Go.Med Go.MapKept Go.RowKit
section
variable {w0 w : World} {F : List HProp} {m fb nb b r : Nat} {M : Med} {bs : List Nat} {wv v bv : Value} {s : ByteArray} {l : Names} {fs : List Fil} {K : Nat}
theorem getD_ext (bs : List Nat) (b i : Nat) (h : i < bs.length) : (bs ++ [b]).getD i 0 = bs.getD i 0 := by
  simp [List.getD_eq_getElem?_getD, List.getElem?_append_left h]
theorem mapL_ext (h : ∀ p ∈ l, p.2 < bs.length) (b : Nat) : mapL (bs ++ [b]) l = mapL bs l := by
  unfold mapL
  apply List.map_congr_left
  intro p hp
  rw [getD_ext bs b p.2 (h p hp)]
theorem lnks_ext {ws : List Lnk} (h : ∀ x ∈ ws, x.to ≠ ByteArray.empty → x.f < bs.length) (b : Nat) : ws.flatMap (lnkCells (bs ++ [b])) = ws.flatMap (lnkCells bs) := by
  induction ws with
  | nil => rfl
  | cons x ws ih =>
    rw [List.flatMap_cons, List.flatMap_cons, ih fun y hy => h y (.tail _ hy)]
    congr 1
    unfold lnkCells
    by_cases ht : x.to = ByteArray.empty
    · simp [ht]
    · simp only [if_neg ht]
      rw [getD_ext bs b x.f (h x (.head _) ht)]
/-- 'len(m.now)'. -/
theorem len_names (h : Sat w0 w (omap .string b (mapL bs l) :: F)) (ty : TypeId) : (Builtin.len_ #[91] ty #[.map (some b)]).run Tryd.prog w = .ok (.int .i64 l.length) w := by
  have := run_maplen (P := Tryd.prog) Tryd.underlying91 ty h
  simpa [mapL] using this
theorem raw_step (h : Sat w0 w (medPt m M.step.1 fb nb wv :: [omap .string nb (mapL bs M.now), filesRep bs M.files, omap .string fb (mapL bs M.fast), osl 115 3 wv (M.waits.flatMap (lnkCells bs))] ++ F)) : Sat w0 w (MedRaw m M.step.1 bs fb nb wv ++ F) := by
  obtain ⟨e1, e2, e3, e4, e5⟩ := M.step_same
  unfold MedRaw
  rw [e2, e3, e4, e5]
  exact h
theorem FilRep_new (h : Sat w0 w (filPt b (.slice none 0 0) (.slice none 0 0) (.slice none 0 0) :: F)) : Sat w0 w (FilRep b Fil.new :: F) := by
  refine FilRep.shut (fv := .slice none 0 0) (nv := .slice none 0 0) (wv := .slice none 0 0) (ws := []) rfl ?_
  have h1 : Sat w0 w (bsl (.slice none 0 0) [] :: bsl (.slice none 0 0) [] :: osl 132 3 (.slice none 0 0) [] :: chgs [] :: _) := Sat.osl_nil.2 (Sat.osl_nil.2 (Sat.osl_nil.2 (Sat.emp.2 h)))
  exact h1.sel 5 [4, 0, 1, 2, 3] rfl rfl
theorem create_link (hM : M.Ok K) (hK : K ≤ 1099511627776) (hl : bs.length = M.files.length) (hs : s ≠ ByteArray.empty) (h : Sat w0 w (MedRaw m M bs fb nb wv ++ F)) :
    Calls Tryd.prog 83 #[ptr m, .agg #[.string { data := #[] }, .string s, ptr w.heap.size]] (w.alloc (.cells #[.slice none 0 0, .slice none 0 0, .slice none 0 0] 105))
      (Rtn fun _ w' => Sat w0 w' (MedRep m (({ M with files := M.files ++ [Fil.new] } : Med).link ⟨ByteArray.empty, s, M.files.length⟩) :: F)) := by
  have h1 := h.alloc (.cells #[.slice none 0 0, .slice none 0 0, .slice none 0 0] 105)
  have h2 := FilRep_new h1
  generalize w.heap.size = q at *
  have e1 : mapL (bs ++ [q]) M.now = mapL bs M.now := mapL_ext (fun p hp => by rw [hl]; exact hM.nowOk.ids p hp) q
  have e2 : mapL (bs ++ [q]) M.fast = mapL bs M.fast := mapL_ext (fun p hp => by rw [hl]; exact hM.fastOk.ids p hp) q
  have e3 : M.waits.flatMap (lnkCells (bs ++ [q])) = M.waits.flatMap (lnkCells bs) := lnks_ext (fun x hx ht => by rw [hl]; exact hM.links x hx ht) q
  have e4 : filesRep (bs ++ [q]) (M.files ++ [Fil.new]) = star (FilRep q Fil.new) (filesRep bs M.files) := files_snoc _ _ _ _ hl
  have h3 : Sat w0 _ (FilRep q Fil.new :: filesRep bs M.files :: medPt m M fb nb wv :: omap .string nb (mapL bs M.now) :: osl 115 3 wv (M.waits.flatMap (lnkCells bs)) :: omap .string fb (mapL bs M.fast) :: F) := h2.sel 6 [0, 3, 1, 2, 5, 4] rfl rfl
  have h4 := Sat.star.2 h3
  rw [← e4, ← e1, ← e2, ← e3] at h4
  have h5 := h4.sel 5 [1, 2, 3, 0, 4] rfl rfl
  have hlk := link_c (M := { M with files := M.files ++ [Fil.new] }) (bs := bs ++ [q]) ⟨ByteArray.empty, s, M.files.length⟩ h5 (Nat.le_trans hM.budget hK)
  have e5 : lnkPtr (bs ++ [q]) ⟨ByteArray.empty, s, M.files.length⟩ = ptr q := by
    unfold lnkPtr
    rw [if_neg hs]
    simp [List.getD_eq_getElem?_getD, ← hl]
  rw [e5] at hlk
  refine hlk.mono ?_
  rintro e w1 ⟨v, rfl, wv', hS⟩
  refine ⟨v, rfl, MedRep.shut (bs := bs ++ [q]) (fb := fb) (nb := nb) (wv := wv') (by simp [Med.link, hl]) ?_⟩
  exact hS.sel 5 [0, 1, 3, 4, 2] rfl rfl
set_option maxHeartbeats 2000000 in
theorem create_c (hM : M.Ok K) (hK : K ≤ 1099511627776) (h : Sat w0 w (MedRep m M :: F)) (s : ByteArray) (hs : s.size ≤ 9223372036854775807) :
    Calls Tryd.prog 76 #[ptr m, .string s] w (Rtn fun v w' => v = errno (M.create s).2 ∧ Sat w0 w' (MedRep m (M.create s).1 :: F)) := by
  obtain ⟨bs, fb, nb, wv, hl, hR⟩ := MedRep.open h
  have hd := dead_c hR
  have hg := good_c s w hs
  have c2 := hR.cellAt 2 _ rfl
  cases ho : M.off
  · rw [ho] at hd
    cases hgs : good s
    · rw [hgs] at hg
      have Hfin : Hid (M.create s = (M, 7)) := by show _ = _; simp [Med.create, ho, hgs]
      clear ho hgs
      go_enter Tryd.func76, Tryd.ntmps76
      go_wp2_with (first | (go_at_call 55; refine hd.mono ?_; rintro e w1 ⟨v, rfl, rfl, rfl⟩) | (go_at_call 87; refine hg.mono ?_; rintro e w1 ⟨v, rfl, rfl, rfl⟩))
      go_ret
      exact ⟨errno 7, rfl, by rw [Hfin.out], by rw [Hfin.out]; exact h⟩
    rw [hgs] at hg
    have hlk := look_names (s := s) (hR.pick1)
    cases hn : nget M.now s with
    | some i =>
      have Hfin : Hid (M.create s = (M, 10)) := by show _ = _; simp [Med.create, ho, hgs, hn]
      rw [fptr, hn] at hlk
      clear ho hgs hn
      simp only at hlk
      generalize bs.getD i 0 = q at hlk
      go_enter Tryd.func76, Tryd.ntmps76
      go_wp2_with (first | (go_at_call 55; refine hd.mono ?_; rintro e w1 ⟨v, rfl, rfl, rfl⟩) | (go_at_call 87; refine hg.mono ?_; rintro e w1 ⟨v, rfl, rfl, rfl⟩))
      go_ret
      exact ⟨errno 10, rfl, by rw [Hfin.out], by rw [Hfin.out]; exact h⟩
    | none =>
      rw [fptr, hn] at hlk
      simp only at hlk
      have hlen := fun ty => len_names (hR.pick1) ty
      by_cases h500 : 500 ≤ (M.now.length : Int)
      · have Hfin : Hid (M.create s = (M, 16)) := by
          show _ = _
          have : 500 ≤ M.now.length := by omega
          simp [Med.create, ho, hgs, hn, this]
        clear ho hgs hn
        go_enter Tryd.func76, Tryd.ntmps76
        go_wp2_with (first | (go_at_call 55; refine hd.mono ?_; rintro e w1 ⟨v, rfl, rfl, rfl⟩) | (go_at_call 87; refine hg.mono ?_; rintro e w1 ⟨v, rfl, rfl, rfl⟩))
        go_ret
        exact ⟨errno 16, rfl, by rw [Hfin.out], by rw [Hfin.out]; exact h⟩
      have h500' : ¬ 500 ≤ M.now.length := by omega
      have hb5 : decide ((500 : Int) ≤ (M.now.length : Int)) = false := by rw [decide_eq_false_iff_not]; exact h500
      have hst := step_c hR hM.left
      cases hstep : M.step.2
      · rw [hstep] at hst
        have Hfin : Hid (M.create s = (M.step.1, 12)) := by show _ = _; simp [Med.create, ho, hgs, hn, h500', hstep]
        clear ho hgs hn hstep h500 h500'
        go_enter Tryd.func76, Tryd.ntmps76
        go_wp2_with (first | (go_at_call 55; refine hd.mono ?_; rintro e w1 ⟨v, rfl, rfl, rfl⟩) | (go_at_call 87; refine hg.mono ?_; rintro e w1 ⟨v, rfl, rfl, rfl⟩) | (go_at_call 70; refine hst.mono ?_; rintro e w1 ⟨v, rfl, rfl, hS1⟩))
        go_ret
        refine ⟨errno 12, rfl, by rw [Hfin.out], ?_⟩
        rw [Hfin.out]
        exact MedRep.shut (bs := bs) (fb := fb) (nb := nb) (wv := wv) (by rw [M.step_same.2.2.2.1]; exact hl) (raw_step hS1)
      · rw [hstep] at hst
        have Hfin : Hid (M.create s = (({ M.step.1 with files := M.files ++ [Fil.new] } : Med).link ⟨ByteArray.empty, s, M.files.length⟩, 0)) := by show _ = _; simp [Med.create, ho, hgs, hn, h500', hstep]
        have hne := good_ne hgs
        clear ho hgs hn hstep h500 h500'
        have hl' : bs.length = M.step.1.files.length := by rw [M.step_same.2.2.2.1]; exact hl
        have Hl' := Lib.hid hl'; clear hl'
        go_enter Tryd.func76, Tryd.ntmps76
        go_wp2_with (first | (go_at_call 55; refine hd.mono ?_; rintro e w1 ⟨v, rfl, rfl, rfl⟩) | (go_at_call 87; refine hg.mono ?_; rintro e w1 ⟨v, rfl, rfl, rfl⟩) | (go_at_call 70; refine hst.mono ?_; rintro e w1 ⟨v, rfl, rfl, hS1⟩) | (go_at_call 83; go_must (refine (create_link hM.step hK Hl'.out hne (raw_step hS1)).mono ?_); rintro e w2 ⟨v2, rfl, hS2⟩))
        go_ret
        refine ⟨errno 0, rfl, by rw [Hfin.out], ?_⟩
        rw [Hfin.out]
        have e4 := M.step_same.2.2.2.1
        rw [e4] at hS2
        exact hS2
  · rw [ho] at hd
    have Hfin : Hid (M.create s = (M, 12)) := by show _ = _; simp [Med.create, ho]
    clear ho
    go_enter Tryd.func76, Tryd.ntmps76
    go_wp2_with (go_at_call 55; refine hd.mono ?_; rintro e w1 ⟨v, rfl, rfl, rfl⟩)
    go_ret
    exact ⟨errno 12, rfl, by rw [Hfin.out], by rw [Hfin.out]; exact h⟩
end
end Go.Proofs.YtdhhbajggafdhaaDoor
