import Derived.Test.YtlinnpehkfbnkaaGreatDoorJ5
import Derived.Laws.Slices
set_option linter.unusedVariables false
namespace Go.Proofs.YtlinnpehkfbnkaaGreatDoor
open Go Go.Sl Go.Med Go.MapKept Go.RowKit
section
variable {w0 w : World} {F R : List HProp} {p B B' : Nat} {m : Frm.Bs → Option Rep.Abt}
theorem TabMA.mono (hB : B ≤ B') (h : Sat w0 w (TabMA p m B :: R)) : Sat w0 w (TabMA p m B' :: R) := by
  obtain ⟨t, sv, ⟨ok, is, hb⟩, hS⟩ := TabMA.open h
  exact TabMA.shut ok is (Nat.le_trans hb hB) hS
variable {da : Option Addr} {dn dc : Nat}
theorem fnd_cell (f : Frm.Fnd) (dv : Value) (hk : f.e.key.length = 32) : (fndA f dv)[34]? = some (.int .i64 f.at_) ∧ (fndA f dv)[35]? = some (.int .i64 f.size) ∧ ∀ j v, (bys f.e.key)[j]? = some v → (fndA f dv)[1 + j]? = some v := by
  have hl : (entL f.e dv).length = 34 := entL_len _ _ hk
  refine ⟨?_, ?_, fun j v hj => ?_⟩
  · show (entL f.e dv ++ _).toArray[34]? = _
    rw [List.getElem?_toArray, List.getElem?_append_right (by omega), hl]; rfl
  · show (entL f.e dv ++ _).toArray[35]? = _
    rw [List.getElem?_toArray, List.getElem?_append_right (by omega), hl]; rfl
  · have hj1 := (List.getElem?_eq_some_iff.1 hj).1
    have hj2 := hj1
    rw [bys_len, hk] at hj2
    show (entL f.e dv ++ _).toArray[1 + j]? = _
    rw [List.getElem?_toArray, List.getElem?_append_left (by omega), Nat.add_comm]
    show (bys f.e.key ++ [dv])[j]? = _
    rw [List.getElem?_append_left hj1]; exact hj
set_option maxRecDepth 20000 in
set_option maxHeartbeats 8000000 in
theorem take_c (s : Int) (f : Frm.Fnd) (hk : f.e.key.length = 32) (hB : B ≤ 13000000) (h : Sat w0 w (TabMA p m B :: F)) :
    Calls Tryz.prog 58 #[.agg #[ptr p], .int .i64 s, .agg (fndA f (.slice da dn dc))] w (Rtn fun _ w' => Sat w0 w' (TabMA p (Rep.takeOne m (s, f)) (B + 1) :: F)) := by
  have Hk := Lib.hid hk; have HB := Lib.hid hB
  have e0 : (fndA f (.slice da dn dc))[0]? = some (.int .i64 f.e.tag) := rfl
  obtain ⟨e34, e35, ekey⟩ := fnd_cell f (.slice da dn dc) hk
  clear hk hB
  go_enter Tryz.func58, Tryz.ntmps58
  go_wp2_with (with_reducible apply at_box)
  refine ⟨?_⟩
  refine wl_box h evD evD ?_
  intro b3 w3 h3
  go_wp2_with (with_reducible apply at_box)
  refine ⟨?_⟩
  refine wl_box h3 evD evD ?_
  intro b5 w5 h5
  clear h h3
  have h6 : Sat w0 w5 (pt b5 (.cells (fndA f (.slice da dn dc)) 118 (0,0)) :: pt b3 (.cells #[ptr p] 111 (0,0)) :: TabMA p m B :: F) := h5
  clear h5
  have f0 : w5.cell? ⟨b5, 0, none⟩ = some (.int .i64 f.e.tag) := h6.cellP pick0 0 e0
  by_cases h2 : f.e.tag = 2
  · have hb : (f.e.tag == 2) = true := beq_iff_eq.2 h2
    have Hone := Lib.hid (show Rep.takeOne m (s, f) = m from if_pos h2)
    have h7 := Lib.hid (TabMA.mono (Nat.le_succ B) (h6.sb : Sat w0 w5 (TabMA p m B :: F)))
    clear h2 h6
    go_wp2_with fail
    (try simp only [Exit.inBlock, Exit.then]); refine bodyPost_ret (results_none rfl _ _ _) rfl ?_
    exact ⟨_, rfl, by rw [Hone.out]; exact h7.out⟩
  have hb : (f.e.tag == 2) = false := by rw [beq_eq_false_iff_ne]; exact h2
  have Hone := Lib.hid (show Rep.takeOne m (s, f) = Tab.put m f.e.key ⟨f.e.tag, ⟨s, f.at_, f.size⟩, Rep.first1 m (s, f)⟩ from if_neg h2)
  clear h2
  have hkr : w5.rangeAt b5 1 (bys f.e.key) := fun j v hj => h6.cellP pick0 (1 + j) (ekey j v hj)
  go_wp2_with (first
    | ((with_reducible apply at_load); refine ⟨?_⟩; refine wl_load1 h6 (by rfl) pkD (Nat.le_of_ble_eq_true (by rfl)) evD (by kernel_rfl) ?_)
    | ((with_reducible apply at_load); refine ⟨?_⟩; refine wl_loadW (b := b5) (o := 1) (bys f.e.key) (by rfl) hkr Tryz.underlying24 rfl (by rw [bys_len, Hk.out]; kernel_rfl) ?_))
  refine (getA_c (by have := HB.out; omega) Hk.out (h6.sb : Sat w0 w5 (TabMA p m B :: pt b5 (.cells (fndA f (.slice da dn dc)) 118 (0,0)) :: pt b3 (.cells #[ptr p] 111 (0,0)) :: F))).mono ?_
  rintro ee w7 ⟨v, rfl, hv, h7⟩
  clear h6 hkr f0
  cases hm : m f.e.key with
  | some a =>
    rw [hm, Option.getD_some, Option.isSome_some] at hv
    subst hv
    have hf0 : Rep.first0 m (s, f) = a.first := by unfold Rep.first0; show (match m f.e.key with | some a => a.first | none => -1) = a.first; rw [hm]
    obtain ⟨at0, ⟨ap1, ap2, ap3⟩, af⟩ := a
    have h7' := h7
    clear h7 hm
    have h7 := h7'
    clear h7'
    go_wp2_with (with_reducible apply at_alloc)
    refine ⟨?_⟩
    refine wl_alloc zValA h7 rfl ?_
    intro b6 w8 h8
    go_wp2_with (first | ((with_reducible apply at_store); refine ⟨?_⟩; refine wl_storeA (aenc ⟨at0, ⟨ap1, ap2, ap3⟩, af⟩).toArray h8 (by rfl) (by rfl) (by rfl) upd0 (by kernel_rfl) (by rfl) ?_; intro w9 h9) | (with_reducible apply at_load))
    refine ⟨?_⟩
    have f1 : w9.cell? ⟨b5, 0, none⟩ = some (.int .i64 f.e.tag) := h9.cellP (pick_there (pick_there pick0)) 0 e0
    have f2 : w9.cell? ⟨b6, 4, none⟩ = some (.int .i64 af) := h9.cellP pick0 4 rfl
    clear h7 h8
    by_cases hz : f.e.tag = 0
    · have hb0 : (f.e.tag == 0) = true := beq_iff_eq.2 hz
      by_cases hf : af < 0
      · have hE := Lib.hid (show Rep.first1 m (s, f) = s by unfold Rep.first1; rw [hf0]; exact if_pos ⟨hz, hf⟩)
        clear hz hf0
        go_wp2_with ((with_reducible apply at_store); refine ⟨?_⟩; refine wl_store (cs' := #[.int .i64 at0, .int .i64 ap1, .int .i64 ap2, .int .i64 ap3, .int .i64 s]) h9 (by rfl) evD (by rfl) upd0 (by show 4 + 1 ≤ 5; decide) (by kernel_rfl) (by rfl) ?_; intro wA hA)
        clear h9 f1 f2
        have hS9 : Sat w0 wA.drew (pt b6 (.cells #[.int .i64 at0, .int .i64 ap1, .int .i64 ap2, .int .i64 ap3, .int .i64 s] 109 (0,0)) :: TabMA p m B :: pt b5 (.cells (fndA f (.slice da dn dc)) 118 (0,0)) :: pt b3 (.cells #[ptr p] 111 (0,0)) :: F) := (hA).drew
        clear hA
        have hG := And.intro (hS9.cellP (pick_there (pick_there pick0)) 0 e0) (And.intro (hS9.cellP (pick_there (pick_there pick0)) 34 e34) (hS9.cellP (pick_there (pick_there pick0)) 35 e35))
        refine wpL_begin [11, 12] (fun w' => w'.cell? ⟨b5, 0, none⟩ = some (.int .i64 f.e.tag) ∧ w'.cell? ⟨b5, 34, none⟩ = some (.int .i64 f.at_) ∧ w'.cell? ⟨b5, 35, none⟩ = some (.int .i64 f.size)) (by kernel_rfl) ?_
        refine rp 0 (hy := (yl_field evD rnD)) (h := ?_)
        refine rp 1 (hy := (yl_field evD rnD)) (h := ?_)
        refine rt 2 (h := ?_)
        refine rp 3 (hy := (yl_move evD)) (h := ?_)
        refine rp 4 (hy := (yl_field evD rnD)) (h := ?_)
        refine rt 5 (h := ?_)
        refine rp 6 (hy := (yl_field evD rnD)) (h := ?_)
        refine rt 7 (h := ?_)
        refine rp 8 (hy := (by (refine Or.inl ⟨by rfl, ?_⟩; ((intro wq; go_simp); first | done | (with_reducible rfl))))) (h := ?_)
        refine rp 9 (hy := (yl_field evD rnD)) (h := ?_)
        refine rg_eff 10 evD (by kernel_rfl) (fun K hK => ?_)
        refine eff_store (cs' := #[.int .i64 f.e.tag, .int .i64 ap1, .int .i64 ap2, .int .i64 ap3, .int .i64 s]) hS9 evD evD (by rfl) upd0 (by show 0 + 1 ≤ 5; decide) (by kernel_rfl) (by rfl) ?_
        intro w10 hS10
        have hG2 := And.intro (hS10.cellP (pick_there (pick_there pick0)) 0 e0) (And.intro (hS10.cellP (pick_there (pick_there pick0)) 34 e34) (hS10.cellP (pick_there (pick_there pick0)) 35 e35))
        refine hK _ _ (.inr (.inl hG2)) ?_
        clear hK hS9 hG hG2
        refine rp 11 (hy := (yl_field evD rnD)) (h := ?_)
        refine rg_eff 12 evD (by kernel_rfl) (fun K hK => ?_)
        refine eff_store (cs' := #[.int .i64 f.e.tag, .int .i64 s, .int .i64 f.at_, .int .i64 f.size, .int .i64 s]) hS10 evD evD (by rfl) upd0 (by show 1 + 3 ≤ 5; decide) (by kernel_rfl) (by rfl) ?_
        intro w12 hS12
        refine hK _ _ (.inl rfl) ?_
        clear hK hS10
        refine wpL_done (by kernel_rfl) ?_
        have hS13 : Sat w0 w12 (pt b6 (.cells (aenc ⟨f.e.tag, ⟨s, f.at_, f.size⟩, Rep.first1 m (s, f)⟩).toArray 109 (0,0)) :: TabMA p m B :: pt b5 (.cells (fndA f (.slice da dn dc)) 118 (0,0)) :: pt b3 (.cells #[ptr p] 111 (0,0)) :: F) := by
          have := hS12
          rw [hE.out]
          exact this
        clear hS12
        have hkr : w12.rangeAt b5 1 (bys f.e.key) := fun j v hj => hS13.cellP (pick_there (pick_there pick0)) (1 + j) (ekey j v hj)
        go_wp2_with (first
          | ((with_reducible apply at_load); refine ⟨?_⟩; refine wl_loadW (b := b5) (o := 1) (bys f.e.key) (by rfl) hkr Tryz.underlying24 rfl (by rw [bys_len, Hk.out]; kernel_rfl) ?_)
          | ((with_reducible apply at_load); refine ⟨?_⟩; refine wl_loadA hS13 (by rfl) (pick0 (A := pt b6 (.cells (aenc ⟨f.e.tag, ⟨s, f.at_, f.size⟩, Rep.first1 m (s, f)⟩).toArray 109 (0,0)))) Tryz.underlying109 rfl (by kernel_rfl) ?_)
          | ((with_reducible apply at_load); refine ⟨?_⟩; refine wl_load1 hS13 (by rfl) pkD (Nat.le_of_ble_eq_true (by rfl)) evD (by kernel_rfl) ?_))
        refine (putA_c (p := p) (by have := HB.out; omega) Hk.out ⟨f.e.tag, ⟨s, f.at_, f.size⟩, Rep.first1 m (s, f)⟩ (hS13.sb : Sat w0 w12 (TabMA p m B :: F))).mono ?_
        rintro ee w14 ⟨v, rfl, hS14⟩
        go_wp2_with fail
        go_end0
        exact ⟨_, rfl, by rw [Hone.out]; exact hS14⟩
      · have hE := Lib.hid (show Rep.first1 m (s, f) = af by unfold Rep.first1; rw [hf0]; exact if_neg (fun h => hf h.2))
        clear hz hf0
        go_wp2_with fail
        clear f1 f2
        have hS9 : Sat w0 w9.drew (pt b6 (.cells #[.int .i64 at0, .int .i64 ap1, .int .i64 ap2, .int .i64 ap3, .int .i64 af] 109 (0,0)) :: TabMA p m B :: pt b5 (.cells (fndA f (.slice da dn dc)) 118 (0,0)) :: pt b3 (.cells #[ptr p] 111 (0,0)) :: F) := (h9).drew
        clear h9
        have hG := And.intro (hS9.cellP (pick_there (pick_there pick0)) 0 e0) (And.intro (hS9.cellP (pick_there (pick_there pick0)) 34 e34) (hS9.cellP (pick_there (pick_there pick0)) 35 e35))
        refine wpL_begin [11, 12] (fun w' => w'.cell? ⟨b5, 0, none⟩ = some (.int .i64 f.e.tag) ∧ w'.cell? ⟨b5, 34, none⟩ = some (.int .i64 f.at_) ∧ w'.cell? ⟨b5, 35, none⟩ = some (.int .i64 f.size)) (by kernel_rfl) ?_
        refine rp 0 (hy := (yl_field evD rnD)) (h := ?_)
        refine rp 1 (hy := (yl_field evD rnD)) (h := ?_)
        refine rt 2 (h := ?_)
        refine rp 3 (hy := (yl_move evD)) (h := ?_)
        refine rp 4 (hy := (yl_field evD rnD)) (h := ?_)
        refine rt 5 (h := ?_)
        refine rp 6 (hy := (yl_field evD rnD)) (h := ?_)
        refine rt 7 (h := ?_)
        refine rp 8 (hy := (by (refine Or.inl ⟨by rfl, ?_⟩; ((intro wq; go_simp); first | done | (with_reducible rfl))))) (h := ?_)
        refine rp 9 (hy := (yl_field evD rnD)) (h := ?_)
        refine rg_eff 10 evD (by kernel_rfl) (fun K hK => ?_)
        refine eff_store (cs' := #[.int .i64 f.e.tag, .int .i64 ap1, .int .i64 ap2, .int .i64 ap3, .int .i64 af]) hS9 evD evD (by rfl) upd0 (by show 0 + 1 ≤ 5; decide) (by kernel_rfl) (by rfl) ?_
        intro w10 hS10
        have hG2 := And.intro (hS10.cellP (pick_there (pick_there pick0)) 0 e0) (And.intro (hS10.cellP (pick_there (pick_there pick0)) 34 e34) (hS10.cellP (pick_there (pick_there pick0)) 35 e35))
        refine hK _ _ (.inr (.inl hG2)) ?_
        clear hK hS9 hG hG2
        refine rp 11 (hy := (yl_field evD rnD)) (h := ?_)
        refine rg_eff 12 evD (by kernel_rfl) (fun K hK => ?_)
        refine eff_store (cs' := #[.int .i64 f.e.tag, .int .i64 s, .int .i64 f.at_, .int .i64 f.size, .int .i64 af]) hS10 evD evD (by rfl) upd0 (by show 1 + 3 ≤ 5; decide) (by kernel_rfl) (by rfl) ?_
        intro w12 hS12
        refine hK _ _ (.inl rfl) ?_
        clear hK hS10
        refine wpL_done (by kernel_rfl) ?_
        have hS13 : Sat w0 w12 (pt b6 (.cells (aenc ⟨f.e.tag, ⟨s, f.at_, f.size⟩, Rep.first1 m (s, f)⟩).toArray 109 (0,0)) :: TabMA p m B :: pt b5 (.cells (fndA f (.slice da dn dc)) 118 (0,0)) :: pt b3 (.cells #[ptr p] 111 (0,0)) :: F) := by
          have := hS12
          rw [hE.out]
          exact this
        clear hS12
        have hkr : w12.rangeAt b5 1 (bys f.e.key) := fun j v hj => hS13.cellP (pick_there (pick_there pick0)) (1 + j) (ekey j v hj)
        go_wp2_with (first
          | ((with_reducible apply at_load); refine ⟨?_⟩; refine wl_loadW (b := b5) (o := 1) (bys f.e.key) (by rfl) hkr Tryz.underlying24 rfl (by rw [bys_len, Hk.out]; kernel_rfl) ?_)
          | ((with_reducible apply at_load); refine ⟨?_⟩; refine wl_loadA hS13 (by rfl) (pick0 (A := pt b6 (.cells (aenc ⟨f.e.tag, ⟨s, f.at_, f.size⟩, Rep.first1 m (s, f)⟩).toArray 109 (0,0)))) Tryz.underlying109 rfl (by kernel_rfl) ?_)
          | ((with_reducible apply at_load); refine ⟨?_⟩; refine wl_load1 hS13 (by rfl) pkD (Nat.le_of_ble_eq_true (by rfl)) evD (by kernel_rfl) ?_))
        refine (putA_c (p := p) (by have := HB.out; omega) Hk.out ⟨f.e.tag, ⟨s, f.at_, f.size⟩, Rep.first1 m (s, f)⟩ (hS13.sb : Sat w0 w12 (TabMA p m B :: F))).mono ?_
        rintro ee w14 ⟨v, rfl, hS14⟩
        go_wp2_with fail
        go_end0
        exact ⟨_, rfl, by rw [Hone.out]; exact hS14⟩
    · have hb0 : (f.e.tag == 0) = false := by rw [beq_eq_false_iff_ne]; exact hz
      have hE := Lib.hid (show Rep.first1 m (s, f) = af by unfold Rep.first1; rw [hf0]; exact if_neg (fun h => hz h.1))
      clear hz hf0
      go_wp2_with fail
      clear f1 f2
      have hS9 : Sat w0 w9.drew (pt b6 (.cells #[.int .i64 at0, .int .i64 ap1, .int .i64 ap2, .int .i64 ap3, .int .i64 af] 109 (0,0)) :: TabMA p m B :: pt b5 (.cells (fndA f (.slice da dn dc)) 118 (0,0)) :: pt b3 (.cells #[ptr p] 111 (0,0)) :: F) := (h9).drew
      clear h9
      have hG := And.intro (hS9.cellP (pick_there (pick_there pick0)) 0 e0) (And.intro (hS9.cellP (pick_there (pick_there pick0)) 34 e34) (hS9.cellP (pick_there (pick_there pick0)) 35 e35))
      refine wpL_begin [11, 12] (fun w' => w'.cell? ⟨b5, 0, none⟩ = some (.int .i64 f.e.tag) ∧ w'.cell? ⟨b5, 34, none⟩ = some (.int .i64 f.at_) ∧ w'.cell? ⟨b5, 35, none⟩ = some (.int .i64 f.size)) (by kernel_rfl) ?_
      refine rp 0 (hy := (yl_field evD rnD)) (h := ?_)
      refine rp 1 (hy := (yl_field evD rnD)) (h := ?_)
      refine rt 2 (h := ?_)
      refine rp 3 (hy := (yl_move evD)) (h := ?_)
      refine rp 4 (hy := (yl_field evD rnD)) (h := ?_)
      refine rt 5 (h := ?_)
      refine rp 6 (hy := (yl_field evD rnD)) (h := ?_)
      refine rt 7 (h := ?_)
      refine rp 8 (hy := (by (refine Or.inl ⟨by rfl, ?_⟩; ((intro wq; go_simp); first | done | (with_reducible rfl))))) (h := ?_)
      refine rp 9 (hy := (yl_field evD rnD)) (h := ?_)
      refine rg_eff 10 evD (by kernel_rfl) (fun K hK => ?_)
      refine eff_store (cs' := #[.int .i64 f.e.tag, .int .i64 ap1, .int .i64 ap2, .int .i64 ap3, .int .i64 af]) hS9 evD evD (by rfl) upd0 (by show 0 + 1 ≤ 5; decide) (by kernel_rfl) (by rfl) ?_
      intro w10 hS10
      have hG2 := And.intro (hS10.cellP (pick_there (pick_there pick0)) 0 e0) (And.intro (hS10.cellP (pick_there (pick_there pick0)) 34 e34) (hS10.cellP (pick_there (pick_there pick0)) 35 e35))
      refine hK _ _ (.inr (.inl hG2)) ?_
      clear hK hS9 hG hG2
      refine rp 11 (hy := (yl_field evD rnD)) (h := ?_)
      refine rg_eff 12 evD (by kernel_rfl) (fun K hK => ?_)
      refine eff_store (cs' := #[.int .i64 f.e.tag, .int .i64 s, .int .i64 f.at_, .int .i64 f.size, .int .i64 af]) hS10 evD evD (by rfl) upd0 (by show 1 + 3 ≤ 5; decide) (by kernel_rfl) (by rfl) ?_
      intro w12 hS12
      refine hK _ _ (.inl rfl) ?_
      clear hK hS10
      refine wpL_done (by kernel_rfl) ?_
      have hS13 : Sat w0 w12 (pt b6 (.cells (aenc ⟨f.e.tag, ⟨s, f.at_, f.size⟩, Rep.first1 m (s, f)⟩).toArray 109 (0,0)) :: TabMA p m B :: pt b5 (.cells (fndA f (.slice da dn dc)) 118 (0,0)) :: pt b3 (.cells #[ptr p] 111 (0,0)) :: F) := by
        have := hS12
        rw [hE.out]
        exact this
      clear hS12
      have hkr : w12.rangeAt b5 1 (bys f.e.key) := fun j v hj => hS13.cellP (pick_there (pick_there pick0)) (1 + j) (ekey j v hj)
      go_wp2_with (first
        | ((with_reducible apply at_load); refine ⟨?_⟩; refine wl_loadW (b := b5) (o := 1) (bys f.e.key) (by rfl) hkr Tryz.underlying24 rfl (by rw [bys_len, Hk.out]; kernel_rfl) ?_)
        | ((with_reducible apply at_load); refine ⟨?_⟩; refine wl_loadA hS13 (by rfl) (pick0 (A := pt b6 (.cells (aenc ⟨f.e.tag, ⟨s, f.at_, f.size⟩, Rep.first1 m (s, f)⟩).toArray 109 (0,0)))) Tryz.underlying109 rfl (by kernel_rfl) ?_)
        | ((with_reducible apply at_load); refine ⟨?_⟩; refine wl_load1 hS13 (by rfl) pkD (Nat.le_of_ble_eq_true (by rfl)) evD (by kernel_rfl) ?_))
      refine (putA_c (p := p) (by have := HB.out; omega) Hk.out ⟨f.e.tag, ⟨s, f.at_, f.size⟩, Rep.first1 m (s, f)⟩ (hS13.sb : Sat w0 w12 (TabMA p m B :: F))).mono ?_
      rintro ee w14 ⟨v, rfl, hS14⟩
      go_wp2_with fail
      go_end0
      exact ⟨_, rfl, by rw [Hone.out]; exact hS14⟩
  | none =>
    rw [hm, Option.getD_none, Option.isSome_none] at hv
    subst hv
    have hf0 : Rep.first0 m (s, f) = -1 := by unfold Rep.first0; show (match m f.e.key with | some a => a.first | none => -1) = -1; rw [hm]
    clear hm
    go_wp2_with (with_reducible apply at_alloc)
    refine ⟨?_⟩
    refine wl_alloc zValA h7 rfl ?_
    intro b6 w8 h8
    go_wp2_with (first | ((with_reducible apply at_store); refine ⟨?_⟩; refine wl_storeA (aenc ⟨0, Seg.Plc.zero, 0⟩).toArray h8 (by rfl) (by rfl) (by rfl) upd0 (by kernel_rfl) (by rfl) ?_; intro w9 h9) | ((with_reducible apply at_store); refine ⟨?_⟩; refine wl_store (cs' := #[.int .i64 0, .int .i64 0, .int .i64 0, .int .i64 0, .int .i64 (-1)]) h9 (by rfl) evD (by rfl) upd0 (by show 4 + 1 ≤ 5; decide) (by kernel_rfl) (by rfl) ?_; intro wB hB) | (with_reducible apply at_load))
    refine ⟨?_⟩
    have f1 : wB.cell? ⟨b5, 0, none⟩ = some (.int .i64 f.e.tag) := hB.cellP (pick_there (pick_there pick0)) 0 e0
    have f2 : wB.cell? ⟨b6, 4, none⟩ = some (.int .i64 (-1)) := hB.cellP pick0 4 rfl
    clear h7 h8 h9
    by_cases hz : f.e.tag = 0
    · have hb0 : (f.e.tag == 0) = true := beq_iff_eq.2 hz
      have hE := Lib.hid (show Rep.first1 m (s, f) = s by unfold Rep.first1; rw [hf0]; exact if_pos ⟨hz, by decide⟩)
      clear hz hf0
      go_wp2_with ((with_reducible apply at_store); refine ⟨?_⟩; refine wl_store (cs' := #[.int .i64 0, .int .i64 0, .int .i64 0, .int .i64 0, .int .i64 s]) hB (by rfl) evD (by rfl) upd0 (by show 4 + 1 ≤ 5; decide) (by kernel_rfl) (by rfl) ?_; intro wA hA)
      clear hB f1 f2
      have hS9 : Sat w0 wA.drew (pt b6 (.cells #[.int .i64 0, .int .i64 0, .int .i64 0, .int .i64 0, .int .i64 s] 109 (0,0)) :: TabMA p m B :: pt b5 (.cells (fndA f (.slice da dn dc)) 118 (0,0)) :: pt b3 (.cells #[ptr p] 111 (0,0)) :: F) := (hA).drew
      clear hA
      have hG := And.intro (hS9.cellP (pick_there (pick_there pick0)) 0 e0) (And.intro (hS9.cellP (pick_there (pick_there pick0)) 34 e34) (hS9.cellP (pick_there (pick_there pick0)) 35 e35))
      refine wpL_begin [11, 12] (fun w' => w'.cell? ⟨b5, 0, none⟩ = some (.int .i64 f.e.tag) ∧ w'.cell? ⟨b5, 34, none⟩ = some (.int .i64 f.at_) ∧ w'.cell? ⟨b5, 35, none⟩ = some (.int .i64 f.size)) (by kernel_rfl) ?_
      refine rp 0 (hy := (yl_field evD rnD)) (h := ?_)
      refine rp 1 (hy := (yl_field evD rnD)) (h := ?_)
      refine rt 2 (h := ?_)
      refine rp 3 (hy := (yl_move evD)) (h := ?_)
      refine rp 4 (hy := (yl_field evD rnD)) (h := ?_)
      refine rt 5 (h := ?_)
      refine rp 6 (hy := (yl_field evD rnD)) (h := ?_)
      refine rt 7 (h := ?_)
      refine rp 8 (hy := (by (refine Or.inl ⟨by rfl, ?_⟩; ((intro wq; go_simp); first | done | (with_reducible rfl))))) (h := ?_)
      refine rp 9 (hy := (yl_field evD rnD)) (h := ?_)
      refine rg_eff 10 evD (by kernel_rfl) (fun K hK => ?_)
      refine eff_store (cs' := #[.int .i64 f.e.tag, .int .i64 0, .int .i64 0, .int .i64 0, .int .i64 s]) hS9 evD evD (by rfl) upd0 (by show 0 + 1 ≤ 5; decide) (by kernel_rfl) (by rfl) ?_
      intro w10 hS10
      have hG2 := And.intro (hS10.cellP (pick_there (pick_there pick0)) 0 e0) (And.intro (hS10.cellP (pick_there (pick_there pick0)) 34 e34) (hS10.cellP (pick_there (pick_there pick0)) 35 e35))
      refine hK _ _ (.inr (.inl hG2)) ?_
      clear hK hS9 hG hG2
      refine rp 11 (hy := (yl_field evD rnD)) (h := ?_)
      refine rg_eff 12 evD (by kernel_rfl) (fun K hK => ?_)
      refine eff_store (cs' := #[.int .i64 f.e.tag, .int .i64 s, .int .i64 f.at_, .int .i64 f.size, .int .i64 s]) hS10 evD evD (by rfl) upd0 (by show 1 + 3 ≤ 5; decide) (by kernel_rfl) (by rfl) ?_
      intro w12 hS12
      refine hK _ _ (.inl rfl) ?_
      clear hK hS10
      refine wpL_done (by kernel_rfl) ?_
      have hS13 : Sat w0 w12 (pt b6 (.cells (aenc ⟨f.e.tag, ⟨s, f.at_, f.size⟩, Rep.first1 m (s, f)⟩).toArray 109 (0,0)) :: TabMA p m B :: pt b5 (.cells (fndA f (.slice da dn dc)) 118 (0,0)) :: pt b3 (.cells #[ptr p] 111 (0,0)) :: F) := by
        have := hS12
        rw [hE.out]
        exact this
      clear hS12
      have hkr : w12.rangeAt b5 1 (bys f.e.key) := fun j v hj => hS13.cellP (pick_there (pick_there pick0)) (1 + j) (ekey j v hj)
      go_wp2_with (first
        | ((with_reducible apply at_load); refine ⟨?_⟩; refine wl_loadW (b := b5) (o := 1) (bys f.e.key) (by rfl) hkr Tryz.underlying24 rfl (by rw [bys_len, Hk.out]; kernel_rfl) ?_)
        | ((with_reducible apply at_load); refine ⟨?_⟩; refine wl_loadA hS13 (by rfl) (pick0 (A := pt b6 (.cells (aenc ⟨f.e.tag, ⟨s, f.at_, f.size⟩, Rep.first1 m (s, f)⟩).toArray 109 (0,0)))) Tryz.underlying109 rfl (by kernel_rfl) ?_)
        | ((with_reducible apply at_load); refine ⟨?_⟩; refine wl_load1 hS13 (by rfl) pkD (Nat.le_of_ble_eq_true (by rfl)) evD (by kernel_rfl) ?_))
      refine (putA_c (p := p) (by have := HB.out; omega) Hk.out ⟨f.e.tag, ⟨s, f.at_, f.size⟩, Rep.first1 m (s, f)⟩ (hS13.sb : Sat w0 w12 (TabMA p m B :: F))).mono ?_
      rintro ee w14 ⟨v, rfl, hS14⟩
      go_wp2_with fail
      go_end0
      exact ⟨_, rfl, by rw [Hone.out]; exact hS14⟩
    · have hb0 : (f.e.tag == 0) = false := by rw [beq_eq_false_iff_ne]; exact hz
      have hE := Lib.hid (show Rep.first1 m (s, f) = -1 by unfold Rep.first1; rw [hf0]; exact if_neg (fun h => hz h.1))
      clear hz hf0
      go_wp2_with fail
      clear f1 f2
      have hS9 : Sat w0 wB.drew (pt b6 (.cells #[.int .i64 0, .int .i64 0, .int .i64 0, .int .i64 0, .int .i64 (-1)] 109 (0,0)) :: TabMA p m B :: pt b5 (.cells (fndA f (.slice da dn dc)) 118 (0,0)) :: pt b3 (.cells #[ptr p] 111 (0,0)) :: F) := (hB).drew
      clear hB
      have hG := And.intro (hS9.cellP (pick_there (pick_there pick0)) 0 e0) (And.intro (hS9.cellP (pick_there (pick_there pick0)) 34 e34) (hS9.cellP (pick_there (pick_there pick0)) 35 e35))
      refine wpL_begin [11, 12] (fun w' => w'.cell? ⟨b5, 0, none⟩ = some (.int .i64 f.e.tag) ∧ w'.cell? ⟨b5, 34, none⟩ = some (.int .i64 f.at_) ∧ w'.cell? ⟨b5, 35, none⟩ = some (.int .i64 f.size)) (by kernel_rfl) ?_
      refine rp 0 (hy := (yl_field evD rnD)) (h := ?_)
      refine rp 1 (hy := (yl_field evD rnD)) (h := ?_)
      refine rt 2 (h := ?_)
      refine rp 3 (hy := (yl_move evD)) (h := ?_)
      refine rp 4 (hy := (yl_field evD rnD)) (h := ?_)
      refine rt 5 (h := ?_)
      refine rp 6 (hy := (yl_field evD rnD)) (h := ?_)
      refine rt 7 (h := ?_)
      refine rp 8 (hy := (by (refine Or.inl ⟨by rfl, ?_⟩; ((intro wq; go_simp); first | done | (with_reducible rfl))))) (h := ?_)
      refine rp 9 (hy := (yl_field evD rnD)) (h := ?_)
      refine rg_eff 10 evD (by kernel_rfl) (fun K hK => ?_)
      refine eff_store (cs' := #[.int .i64 f.e.tag, .int .i64 0, .int .i64 0, .int .i64 0, .int .i64 (-1)]) hS9 evD evD (by rfl) upd0 (by show 0 + 1 ≤ 5; decide) (by kernel_rfl) (by rfl) ?_
      intro w10 hS10
      have hG2 := And.intro (hS10.cellP (pick_there (pick_there pick0)) 0 e0) (And.intro (hS10.cellP (pick_there (pick_there pick0)) 34 e34) (hS10.cellP (pick_there (pick_there pick0)) 35 e35))
      refine hK _ _ (.inr (.inl hG2)) ?_
      clear hK hS9 hG hG2
      refine rp 11 (hy := (yl_field evD rnD)) (h := ?_)
      refine rg_eff 12 evD (by kernel_rfl) (fun K hK => ?_)
      refine eff_store (cs' := #[.int .i64 f.e.tag, .int .i64 s, .int .i64 f.at_, .int .i64 f.size, .int .i64 (-1)]) hS10 evD evD (by rfl) upd0 (by show 1 + 3 ≤ 5; decide) (by kernel_rfl) (by rfl) ?_
      intro w12 hS12
      refine hK _ _ (.inl rfl) ?_
      clear hK hS10
      refine wpL_done (by kernel_rfl) ?_
      have hS13 : Sat w0 w12 (pt b6 (.cells (aenc ⟨f.e.tag, ⟨s, f.at_, f.size⟩, Rep.first1 m (s, f)⟩).toArray 109 (0,0)) :: TabMA p m B :: pt b5 (.cells (fndA f (.slice da dn dc)) 118 (0,0)) :: pt b3 (.cells #[ptr p] 111 (0,0)) :: F) := by
        have := hS12
        rw [hE.out]
        exact this
      clear hS12
      have hkr : w12.rangeAt b5 1 (bys f.e.key) := fun j v hj => hS13.cellP (pick_there (pick_there pick0)) (1 + j) (ekey j v hj)
      go_wp2_with (first
        | ((with_reducible apply at_load); refine ⟨?_⟩; refine wl_loadW (b := b5) (o := 1) (bys f.e.key) (by rfl) hkr Tryz.underlying24 rfl (by rw [bys_len, Hk.out]; kernel_rfl) ?_)
        | ((with_reducible apply at_load); refine ⟨?_⟩; refine wl_loadA hS13 (by rfl) (pick0 (A := pt b6 (.cells (aenc ⟨f.e.tag, ⟨s, f.at_, f.size⟩, Rep.first1 m (s, f)⟩).toArray 109 (0,0)))) Tryz.underlying109 rfl (by kernel_rfl) ?_)
        | ((with_reducible apply at_load); refine ⟨?_⟩; refine wl_load1 hS13 (by rfl) pkD (Nat.le_of_ble_eq_true (by rfl)) evD (by kernel_rfl) ?_))
      refine (putA_c (p := p) (by have := HB.out; omega) Hk.out ⟨f.e.tag, ⟨s, f.at_, f.size⟩, Rep.first1 m (s, f)⟩ (hS13.sb : Sat w0 w12 (TabMA p m B :: F))).mono ?_
      rintro ee w14 ⟨v, rfl, hS14⟩
      go_wp2_with fail
      go_end0
      exact ⟨_, rfl, by rw [Hone.out]; exact hS14⟩
end
section
variable {P : Program} {w0 w : World} {F R L : List HProp} {b : Nat} {ops : Array Oper} {rest : List Oper} {a : Act} {Q : Exit → Act → World → Prop}
variable {dst : Option Tmp} {t ty T e : TypeId} {pos : String} {after : Array Edge} {x y : Operand} {cs : Array Value} {v : Value} {o n c k cap sz by' : Nat} {ad : Addr} {ys : List Value}
theorem eff_app_in (sz by' : Nat) {K : Act → World → Prop} {E : Prop} (hb : appB P ty e sz by' = true) (hv : a.eval x = .slice (some ⟨b, 0, none⟩) k cap) (hy : a.eval y = .slice (some ad) n c)
    (h : Sat w0 w (pt b (.cells cs T (0,0)) :: F)) (hl : ys.length = n * sz) (hnews : ∀ j u, ys[j]? = some u → w.cell? (ad.add j) = some u) (h1 : ∀ u ∈ ys, u.oneCell' = true) (hroom : k + n ≤ cap) (hc : cap * sz ≤ cs.size)
    (hK : ∀ w', Sat w0 w' (pt b (.cells (putsAt cs (k * sz) ys) T (0,0)) :: F) → K (a.put dst (.slice (some ⟨b, 0, none⟩) (k + n) cap)) w') :
    if Region.wanted ⟨dst, .call { callee := .builtin .append, args := #[x, y], argTypes := #[ty, ty] }, t, pos, after, none⟩ (yielded ops a.tmps) = true then
      Oper.wp P ⟨dst, .call { callee := .builtin .append, args := #[x, y], argTypes := #[ty, ty] }, t, pos, after, none⟩ a w K Q else E := by
  rw [if_pos (want_none _ rfl)]
  obtain ⟨hu, i, z, hi, hz, e1, e2, e3, e4⟩ := appB_spec hb
  subst e1
  have hle : (k + n) * i.size ≤ cs.size := Nat.le_trans (Nat.mul_le_mul_right _ hroom) hc
  rw [Nat.add_mul] at hle
  have hr := run_append_room_cells (P := P) (w := w) ty t e i hu hi b 0 k cap ad n c ys hl hnews h1 hroom (fun j hj => by
      rw [Nat.zero_add, h.cellAt (k * i.size + j) _ (Array.getElem?_eq_getElem (show k * i.size + j < cs.size by omega))]; rfl) (fun j hj => h.freeAt _)
  rw [Nat.zero_add] at hr
  unfold Oper.wp execOp
  simp only [resolve, invoke, builtin, Sem.run_bind, Sem.run_pure, Result.andThen_ok, List.map_toArray, List.map_cons, List.map_nil, hv, hy, hr]
  exact hK _ (Sat.sets ys (k * i.size) h)
theorem yl_slice_lo {vx vy : Value} (hx : a.eval x = vx) (hy : a.eval y = vy) (hr : ∀ w, (Instr.sliceAt ty vx (some vy) none none).run P w = .ok v w) : Yields P ops ⟨dst, .slice ty x (some y) none none, t, pos, after, none⟩ v a :=
  .inl ⟨want_none _ rfl, fun w => by simp only [execOp, hx, hy, Option.map_some, Option.map_none, Sem.run_bind, hr, Result.andThen_ok, Sem.run_pure]⟩
theorem run_clear1 (sz : Nat) {z : Value} (hu : P.underlying ty = some (.slice e)) (hz : zeroB P e = some z) (hzs : z.cells.size = sz) (h1 : z.cells.toList.all (·.oneCell') = true) {o : Nat} (hfit : o + sz ≤ cs.size)
    (h : Sat w0 w (pt b (.cells cs T (0,0)) :: F)) :
    ∃ w', (Builtin.clear_ #[ty] t #[.slice (some ⟨b, o, none⟩) 1 c]).run P w = .ok (.tuple #[]) w' ∧ Sat w0 w' (pt b (.cells (putsAt cs o z.cells.toList) T (0,0)) :: F) := by
  refine ⟨w.setCells b o z.cells.toList, ?_, Sat.sets _ _ h⟩
  have hzc : (Builtin.zeroCells z.cells 1).toList = z.cells.toList := by
    unfold Builtin.zeroCells
    simp only [Array.toList_map, Array.toList_range, Nat.one_mul]
    apply List.ext_getElem (by simp)
    intro i q1 q2
    have hi : i < z.cells.size := by simpa using q2
    simp [Nat.mod_eq_of_lt hi, hi]
  have hst := run_storeCells_cells (P := P) b o z.cells.toList 0 w (fun j hj => by
      rw [Nat.add_zero, h.cellAt (o + j) _ (Array.getElem?_eq_getElem (show o + j < cs.size by simp at hj; omega))]; rfl) (fun j hj => h.freeAt _) (fun u hu => (List.all_eq_true.1 h1) u hu)
  simp only [Nat.add_zero] at hst
  simp [Builtin.clear_, run_underlying hu, run_zeroB hz w, hzc, hst]
theorem wl_clear1 (sz : Nat) {z : Value} (hu : P.underlying ty = some (.slice e)) (hz : zeroB P e = some z) (hzs : z.cells.size = sz) (h1 : z.cells.toList.all (·.oneCell') = true) (hx : a.eval x = .slice (some ⟨b, o, none⟩) 1 c) (hfit : o + sz ≤ cs.size)
    (h : Sat w0 w (pt b (.cells cs T (0,0)) :: F)) (hK : ∀ w', Sat w0 w' (pt b (.cells (putsAt cs o z.cells.toList) T (0,0)) :: F) → wpList P ops Q rest (a.put dst (.tuple #[])) w') :
    wpList P ops Q (⟨dst, .call { callee := .builtin .clear, args := #[x], argTypes := #[ty] }, t, pos, after, none⟩ :: rest) a w := by
  refine wpList_plain rfl fun _ hK' => ?_
  obtain ⟨w', hr, hS⟩ := run_clear1 (P := P) (t := t) (c := c) sz hu hz hzs h1 hfit h
  unfold Oper.wp execOp
  simp only [resolve, invoke, builtin, Sem.run_bind, Sem.run_pure, Result.andThen_ok, List.map_toArray, List.map_cons, List.map_nil, hx, hr]
  exact hK' _ _ (hK w' hS)
theorem at_clear (h : Stop (wpList P ops Q (⟨dst, .call { callee := .builtin .clear, args := #[x], argTypes := #[ty] }, t, pos, after, none⟩ :: rest) a w)) : wpList P ops Q (⟨dst, .call { callee := .builtin .clear, args := #[x], argTypes := #[ty] }, t, pos, after, none⟩ :: rest) a w := h.out
end
section
variable {w0 w : World} {F R : List HProp} {v bv dv x lv : Value} {q p m K : Nat}
theorem del_cells {l : List (Int × Int)} {i cap : Nat} {cs : Array Value} (hi : i < l.length) (hn : l.length ≤ cap) (hc : cap * 2 ≤ cs.size) (htk : cs.toList.take (l.length * 2) = segw l) (z : List Value) (hz : z.length = 2) :
    (putsAt (putsAt cs (i * 2) (segw (l.drop (i + 1)))) ((l.length - 1) * 2) z).toList.take ((l.length - 1) * 2) = segw (l.eraseIdx i) := by
  have hys : (segw (l.drop (i + 1))).length = (l.length - (i + 1)) * 2 := by rw [segw_len, List.length_drop, Nat.mul_comm]
  have hcl : cs.toList.length = cs.size := by simp
  rw [putsAt_list _ _ _ (by rw [putsAt_size]; omega), List.append_assoc, List.take_append, List.take_take, Nat.min_self]
  have hp2 : (putsAt cs (i * 2) (segw (l.drop (i + 1)))).toList.length = cs.size := (Array.length_toList).trans (putsAt_size _ _ _)
  have h1 : ((putsAt cs (i * 2) (segw (l.drop (i + 1)))).toList.take ((l.length - 1) * 2)).length = (l.length - 1) * 2 := by
    rw [List.length_take, hp2]; omega
  rw [h1, Nat.sub_self, List.take_zero, List.append_nil, putsAt_list _ _ _ (by omega), List.append_assoc]
  rw [List.take_append, List.length_take, hcl, Nat.min_eq_left (by omega), List.take_of_length_le (l := cs.toList.take (i * 2)) (by rw [List.length_take]; omega)]
  rw [List.take_append, hys, List.take_of_length_le (l := segw (l.drop (i + 1))) (by omega), show (l.length - 1) * 2 - i * 2 - (l.length - (i + 1)) * 2 = 0 by omega, List.take_zero, List.append_nil]
  have h2 : cs.toList.take (i * 2) = segw (l.take i) := by
    have := congrArg (List.take (i * 2)) htk
    rw [List.take_take, Nat.min_eq_left (by omega)] at this
    rw [this]
    conv => lhs; rw [← List.take_append_drop i l, segw_app]
    rw [List.take_append_of_le_length (by rw [segw_len, List.length_take]; omega), List.take_of_length_le (by rw [segw_len, List.length_take]; omega)]
  rw [h2, ← segw_app, List.eraseIdx_eq_take_drop_succ]
theorem segw_drop (l : List (Int × Int)) (i : Nat) : segw (l.drop i) = (segw l).drop (i * 2) := by
  rcases Nat.lt_or_ge i l.length with h | h
  · have h1 : segw l = segw (l.take i) ++ segw (l.drop i) := by rw [← segw_app, List.take_append_drop]
    have h2 : (segw (l.take i)).length = i * 2 := by rw [segw_len, List.length_take]; omega
    rw [h1, ← h2, List.drop_left]
  · rw [List.drop_of_length_le h, List.drop_of_length_le (by rw [segw_len]; omega)]; rfl
theorem segw_one (l : List (Int × Int)) : ∀ u ∈ segw l, u.oneCell' = true := by
  intro u hu
  unfold segw at hu
  rw [List.mem_flatMap] at hu
  obtain ⟨s, _, hs⟩ := hu
  simp only [List.mem_cons, List.not_mem_nil, or_false] at hs
  rcases hs with rfl | rfl <;> rfl
set_option maxRecDepth 20000 in
set_option maxHeartbeats 8000000 in
theorem sdelete_c (l : List (Int × Int)) (i : Nat) (hi : i < l.length) (hln : l.length ≤ 1048576) (h : Sat w0 w (osl 135 2 lv (segw l) :: F)) :
    Calls Tryz.prog 74 #[lv, .int .i64 i, .int .i64 ((i : Int) + 1)] w (Rtn fun v w' => ∃ a n c, v = .slice a n c ∧ Sat w0 w' (osl 135 2 v (segw (l.eraseIdx i)) :: F)) := by
  rcases h.osl_cases with ⟨rfl, hx, hF⟩ | ⟨b, n', cap, cs, rfl, hll, hn', hc, hcm, htk, hp⟩
  · exfalso
    have := congrArg List.length hx
    rw [segw_len] at this; simp at this; omega
  rw [segw_len] at hll
  obtain rfl : n' = l.length := by omega
  have hcm' : cap ≤ 9223372036854775807 := hcm
  have Hdel := Lib.hid (del_cells hi hn' hc htk [.int .i64 0, .int .i64 0] rfl)
  have h0 : (0 : Int) ≤ (i : Int) := by omega
  have h1 : (i : Int) ≤ (i : Int) + 1 := by omega
  have h2 : (i : Int) + 1 ≤ (l.length : Int) := by omega
  have h3 : (l.length : Int) ≤ (cap : Int) := by omega
  have hne : ((i : Int) == (i : Int) + 1) = false := by rw [beq_eq_false_iff_ne]; omega
  have Hp := Lib.hid hp; have Hcm := Lib.hid hcm; have Hc := Lib.hid hc; have Hn := Lib.hid hn'; have Htk := Lib.hid htk; have Hi := Lib.hid hi; have Hln := Lib.hid hln
  clear hn' hc hcm htk hi h hll hln
  go_enter Tryz.func74, Tryz.ntmps74
  go_wp2_with fail
  obtain ⟨ad, had, hsl⟩ : ∃ ad : Addr, (i + 1 < l.length → ad = ⟨b, (i + 1) * 2, none⟩) ∧ ∀ w, (Instr.sliceAt 131 (.slice (some ⟨b, 0, none⟩) l.length cap) (some (.int .i64 ((i : Int) + 1))) none none).run Tryz.prog w = .ok (.slice (some ad) (l.length - (i + 1)) (cap - (i + 1))) w := by
    by_cases hce : cap = i + 1
    · refine ⟨⟨b, 0, none⟩, fun hh => by have := Hn.out; omega, fun w => ?_⟩
      have h4 : (0 : Int) ≤ (i : Int) + 1 := by omega
      have h5 : ((i : Int) + 1).toNat = i + 1 := by omega
      go_simp
    · refine ⟨⟨b, (i + 1) * 2, none⟩, fun _ => rfl, fun w => ?_⟩
      have h4 : (0 : Int) ≤ (i : Int) + 1 := by omega
      have h5 : ((i : Int) + 1).toNat = i + 1 := by omega
      go_simp
  have hic : i ≤ cap := by omega
  refine wpL_begin [] (fun _ => True) (by kernel_rfl) ?_
  refine rp 0 (hy := (yl_move evD)) (h := ?_)
  refine rp 1 (hy := (yl_move evD)) (h := ?_)
  refine rp 2 (hy := (by (refine Or.inl ⟨by rfl, ?_⟩; ((intro wq; go_simp); first | done | (with_reducible rfl))))) (h := ?_)
  refine rp 3 (hy := (yl_move evD)) (h := ?_)
  refine rp 4 (hy := (yl_move evD)) (h := ?_)
  refine rp 5 (hy := (yl_slice_lo evD evD hsl)) (h := ?_)
  refine rg_eff 6 evD (by kernel_rfl) (fun K hK => ?_)
  refine eff_app_in (e := 135) (w0 := w0) (b := b) (cs := cs) (k := i) (ys := segw (l.drop (i + 1))) 2 16 (by kernel_rfl) (by rfl) (by rfl) Hp.out.drew (by rw [segw_len, List.length_drop, Nat.mul_comm]) ?_ (segw_one _) (by have := Hn.out; have := Hi.out; omega) Hc.out ?_
  · intro j u hj
    have hjl := (List.getElem?_eq_some_iff.1 hj).1
    rw [segw_len, List.length_drop] at hjl
    rw [had (by omega), Addr.add_mid]
    rw [segw_drop, List.getElem?_drop] at hj
    exact Hp.out.drew.cellAt _ _ (take_get Htk.out hj)
  intro w2 hS2
  refine hK _ _ (.inr (.inl trivial)) ?_
  clear hK K
  rw [show i + (l.length - (i + 1)) = l.length - 1 by have := Hi.out; omega]
  have hj0 : (0 : Int) ≤ ((l.length - 1 : Nat) : Int) := by omega
  have hj1 : ((l.length - 1 : Nat) : Int) ≤ (l.length : Int) := by omega
  have hj2 : ¬ cap = l.length - 1 := by have := Hn.out; have := Hi.out; omega
  have hj3 : l.length - (l.length - 1) = 1 := by have := Hi.out; omega
  have hfit := Lib.hid (show (l.length - 1) * 2 + 2 ≤ (putsAt cs (i * 2) (segw (l.drop (i + 1)))).size by rw [putsAt_size]; have := Hc.out; have := Hn.out; have := Hi.out; omega)
  have Hk := Lib.hid (show (segw (l.eraseIdx i)).length = (l.length - 1) * 2 by rw [segw_len, List.length_eraseIdx_of_lt Hi.out, Nat.mul_comm])
  generalize (l.length - 1) = N at *
  refine rp 7 (hy := (yl_assign evD)) (h := ?_)
  refine wpL_done (by kernel_rfl) ?_
  clear hp hsl had
  go_wp2_with ((with_reducible apply at_clear); refine ⟨?_⟩; refine wl_clear1 (o := N * 2) 2 Tryz.underlying131 zSeg (by rfl) (by rfl) (by rfl) hfit.out hS2 ?_; intro w3 hS3)
  go_ret
  refine ⟨_, rfl, _, _, _, rfl, ?_⟩
  exact Sat.osl_of_pt hS3 Hk.out (by have := Hn.out; omega) (by rw [putsAt_size, putsAt_size]; exact Hc.out) Hcm.out Hdel.out
end
section
variable {w0 w : World} {F R : List HProp} {v bv dv x lv : Value} {q p m K : Nat} {L : Seg.Log} {M : Med} {s : Int × Int}
set_option maxRecDepth 20000 in
set_option maxHeartbeats 16000000 in
theorem lremove_c (hL : L.Ok) (hM : M.Ok K) (hKK : K ≤ 1099511627776) (n : Int) (h : Sat w0 w (LogRep p m L :: MedRep m M :: F)) :
    Calls Tryz.prog 14 #[ptr p, .int .i64 n] w (Rtn fun v w' => v = errno (L.remove M n).2 ∧ Sat w0 w' (LogRep p m (L.remove M n).1.1 :: MedRep m (L.remove M n).1.2 :: F)) := by
  obtain ⟨lv, hR⟩ := LogRep.open2 h
  have hok := ok_c hR
  have hf := lfind_c hL n h
  clear hR lv
  rcases find_neg (L := L) n with ⟨ha, hb⟩ | ⟨i, ha, hb⟩
  · have Hfin := Lib.hid (show L.remove M n = ((L, M), 9) by unfold Seg.Log.remove; rw [ha])
    rw [hb] at hf
    clear ha hb hL h
    go_enter Tryz.func14, Tryz.ntmps14
    go_wp2_with fail
    refine hok.mono ?_
    rintro e w2 ⟨v, rfl, rfl, rfl⟩
    clear hok
    go_wp2_with fail
    refine hf.mono ?_
    rintro e w2 ⟨v, rfl, rfl, hS2⟩
    clear hf
    go_wp2
    go_ret
    rw [Hfin.out]
    exact ⟨_, rfl, rfl, hS2⟩
  · rw [hb] at hf
    have hlt := (Seg.Log.at_lt ha).1
    have Hg := Lib.hid (show L.remove M n = if (M.remove (Seg.name n)).2 = 0 then ((L.without i, (M.remove (Seg.name n)).1), 0) else ((L, (M.remove (Seg.name n)).1), (M.remove (Seg.name n)).2) by unfold Seg.Log.remove; rw [ha])
    have hi0 : (0 : Int) ≤ (i : Int) := by omega
    have hd : decide ((i : Int) < 0) = false := decide_eq_false (by omega)
    have Hlt := Lib.hid hlt; have Hln := Lib.hid hL.len; have Hfr := Lib.hid hL.fresh
    clear ha hb hL h hlt
    go_enter Tryz.func14, Tryz.ntmps14
    go_wp2_with fail
    refine hok.mono ?_
    rintro e w2 ⟨v, rfl, rfl, rfl⟩
    clear hok
    go_wp2_with fail
    refine hf.mono ?_
    rintro e w2 ⟨v, rfl, rfl, hS2⟩
    clear hf
    obtain ⟨lv, hR⟩ := LogRep.open2 hS2
    clear hS2
    go_wp2_with fail
    refine wpL_begin [6, 7] (fun w' => w'.cell? ⟨p, 0, none⟩ = some (ptr m)) (by kernel_rfl) ?_
    have hG : w2.drew.cell? ⟨p, 0, none⟩ = some (ptr m) := hR.drew.cellP pkD 0 rfl
    refine rp 0 (hy := (yl_move evD)) (h := ?_)
    refine rp 1 (hy := (yl_nil evD)) (h := ?_)
    refine rp 2 (hy := (yl_field evD rnD)) (h := ?_)
    refine rt 3 (h := ?_)
    refine rp 4 (hy := (yl_move evD)) (h := ?_)
    clear hG
    refine rg_eff 5 evD (by kernel_rfl) (fun K hK => ?_)
    (refine eff_call1 (by kernel_rfl) evD ?_)
    refine (sname_c n hR.drew).mono ?_
    rintro e w3 ⟨v, rfl, rfl, hS3⟩
    refine hK _ _ (.inr (.inl (hS3.cellP pkD 0 rfl))) ?_
    clear hK hR
    refine rg_eff 6 evD (by kernel_rfl) (fun K hK => ?_)
    (refine eff_call2 (by kernel_rfl) evD evD ?_)
    refine (remove_c hM hKK (Sat.pk (by assumption)) _).mono ?_
    rintro e w4 ⟨v, rfl, rfl, hS4⟩
    refine hK _ _ (.inl rfl) ?_
    clear hK hS3
    refine rp 7 (hy := (yl_assign evD)) (h := ?_)
    refine wpL_done (by kernel_rfl) ?_
    clear hM
    generalize M.remove (Seg.name n) = B at *
    obtain ⟨M2, e2⟩ := B
    by_cases he : e2 = 0
    rotate_left
    · have heb : (e2 == 0) = false := beq_false_of_ne he
      have hfin := Lib.hid (Hg.out.trans (if_neg he))
      clear he
      go_wp2_with fail
      go_ret
      rw [hfin.out]
      exact ⟨_, rfl, rfl, LogRep.shut2 (lv := lv) (Sat.sb hS4)⟩
    subst he
    have hfin := Lib.hid (Hg.out.trans (if_pos rfl))
    clear Hg
    obtain ⟨la, lc, rfl⟩ : ∃ la lc, lv = .slice la L.l.length lc := by
      obtain ⟨a, n', c, rfl, hn, _⟩ := Sat.rd (hS4.pk (A := osl 135 2 lv (segw L.l)))
      rw [segw_len] at hn
      exact ⟨a, c, by rw [show n' = L.l.length by omega]⟩
    have hw1 : IntKind.i64.wrap ((L.l.length : Int) - 1) = (L.l.length : Int) - 1 := by rw [IntKind.wrap_i64]; have := Hln.out; omega
    have hw2 : IntKind.i64.wrap ((L.l.length : Int) - L.fresh) = (L.l.length : Int) - L.fresh := by rw [IntKind.wrap_i64]; have := Hln.out; have := Hfr.out; omega
    have hw3 : IntKind.i64.wrap (L.fresh - 1) = L.fresh - 1 := by rw [IntKind.wrap_i64]; have := Hln.out; have := Hfr.out; omega
    have hw4 : IntKind.i64.wrap ((i : Int) + 1) = (i : Int) + 1 := by rw [IntKind.wrap_i64]; have := Hln.out; have := Hlt.out; omega
    have Hon := Lib.hid (show (L.without i).on = if ((i : Int) == (L.l.length : Int) - 1) = true then false else L.on by
      unfold Seg.Log.without
      simp only [beq_iff_eq]
      have := Hlt.out
      by_cases hh : i + 1 = L.l.length
      · rw [if_pos hh, if_pos (by omega)]
      · rw [if_neg hh, if_neg (by omega)])
    have Hfs := Lib.hid (show (L.without i).fresh = if decide ((L.l.length : Int) - L.fresh ≤ (i : Int)) = true then L.fresh - 1 else L.fresh by
      unfold Seg.Log.without
      simp only [decide_eq_true_eq])
    have Hll := Lib.hid (show (L.without i).l = L.l.eraseIdx i ∧ (L.without i).limit = L.limit from ⟨rfl, rfl⟩)
    generalize L.without i = LW at *
    obtain ⟨Wlim, Wl, Won, Wfr⟩ := LW
    obtain ⟨rfl, rfl⟩ := Hll.out
    obtain rfl := Hon.out
    obtain rfl := Hfs.out
    clear Hon Hfs Hll
    cases hb1 : ((i : Int) == (L.l.length : Int) - 1) <;> cases hb2 : (decide ((L.l.length : Int) - L.fresh ≤ (i : Int)))
    all_goals
      go_wp2_with (first | ((with_reducible apply at_load); refine ⟨?_⟩; refine wl_load1 (by assumption) (by rfl) pkD (Nat.le_of_ble_eq_true (by rfl)) evD (by kernel_rfl) ?_) | ((with_reducible apply at_store); refine ⟨?_⟩; refine wl_store (by assumption) (by rfl) evD (by first | (simp only [putsAt, Value.cells]; (try go_frame); first | done | rfl) | rfl) upD (Nat.le_of_ble_eq_true (by rfl)) (by kernel_rfl) (by rfl) ?_; intro wS hS))
      try have hS4 := hS
      have hG : (World.drew _).cell? ⟨p, 2, none⟩ = some (.slice la L.l.length lc) ∧ (World.drew _).cell? ⟨p, 4, none⟩ = some (.int .i64 L.fresh) := ⟨hS4.drew.cellP pkD 2 rfl, hS4.drew.cellP pkD 4 rfl⟩
      refine wpL_begin [10, 11] (fun w' => w'.cell? ⟨p, 2, none⟩ = some (.slice la L.l.length lc) ∧ w'.cell? ⟨p, 4, none⟩ = some (.int .i64 L.fresh)) (by kernel_rfl) ?_
      refine rp 0 (hy := (yl_move evD)) (h := ?_)
      refine rp 1 (hy := (yl_move evD)) (h := ?_)
      refine rp 2 (hy := (yl_nil evD)) (h := ?_)
      refine rp 3 (hy := (yl_field evD rnD)) (h := ?_)
      refine rt 4 (h := ?_)
      refine rp 5 (hy := (yl_len evD rnD)) (h := ?_)
      refine rp 6 (hy := (yl_move evD)) (h := ?_)
      refine rp 7 (hy := (yl_nil evD)) (h := ?_)
      refine rp 8 (hy := (yl_field evD rnD)) (h := ?_)
      refine rt 9 (h := ?_)
      refine rp 10 (hy := (yl_bin evD evD rnD)) (h := ?_)
      refine rp 11 (hy := (yl_bin evD evD rnD)) (h := ?_)
      refine wpL_done (by kernel_rfl) ?_
      clear hG
      have hS5 := hS4.drew
      clear hS4
      go_wp2_with (first | ((with_reducible apply at_load); refine ⟨?_⟩; refine wl_load1 (by assumption) (by rfl) pkD (Nat.le_of_ble_eq_true (by rfl)) evD (by kernel_rfl) ?_) | ((with_reducible apply at_store); refine ⟨?_⟩; refine wl_store (by assumption) (by rfl) evD (by first | (simp only [putsAt, Value.cells]; (try go_frame); first | done | rfl) | rfl) upD (Nat.le_of_ble_eq_true (by rfl)) (by kernel_rfl) (by rfl) ?_; intro wS hS))
      refine (sdelete_c (lv := .slice la L.l.length lc) L.l i Hlt.out Hln.out (Sat.pk (by assumption))).mono ?_
      rintro e w6 ⟨v, rfl, da, dn, dc, rfl, hS6⟩
      go_wp2_with ((with_reducible apply at_store); refine ⟨?_⟩; refine wl_store (by assumption) (by rfl) evD (by first | (simp only [putsAt, Value.cells]; (try go_frame); first | done | rfl) | rfl) upD (Nat.le_of_ble_eq_true (by rfl)) (by kernel_rfl) (by rfl) ?_; intro wS hS)
      go_ret
      rw [hfin.out, hb1, hb2]
      simp only [if_true, if_false, Bool.false_eq_true]
      exact ⟨_, rfl, rfl, LogRep.shut2 (lv := .slice da dn dc) (Sat.sb hS)⟩
theorem remove_med {L : Seg.Log} {M : Med} (h : M.Ok K) (n : Int) : (L.remove M n).1.2.Ok (K + 1) := by
  unfold Seg.Log.remove
  split; · exact h.mono (Nat.le_succ K)
  split <;> exact h.remove _
end
end Go.Proofs.YtlinnpehkfbnkaaGreatDoor
namespace Go.Seg
open Go.Med
def Log.read (L : Log) (M : Med) (q : Plc) : Frm.Ent × Int :=
  match L.at q.seg with
  | none => (Frm.zeroE, 9)
  | some _ =>
    if (M.read (name q.seg) q.at_ q.size).2 ≠ 0 then (Frm.zeroE, (M.read (name q.seg) q.at_ q.size).2)
    else if (Frm.read (M.read (name q.seg) q.at_ q.size).1).2.2 ≠ 0 then (Frm.zeroE, (Frm.read (M.read (name q.seg) q.at_ q.size).1).2.2)
    else if (Frm.read (M.read (name q.seg) q.at_ q.size).1).2.1 ≠ (M.read (name q.seg) q.at_ q.size).1.length then (Frm.zeroE, 4)
    else ((Frm.read (M.read (name q.seg) q.at_ q.size).1).1, 0)
end Go.Seg
namespace Go.Proofs.YtlinnpehkfbnkaaGreatDoor
open Go Go.Sl Go.Med Go.MapKept Go.RowKit
section
variable {w0 w : World} {F R : List HProp} {v bv dv x lv : Value} {q p m K : Nat} {L : Seg.Log} {M : Med} {s : Int × Int}
end
end Go.Proofs.YtlinnpehkfbnkaaGreatDoor
namespace Go.Seg
open Go.Med
structure Alike (M M' : Med) : Prop where
  now : M'.now = M.now
  room : M'.room = M.room
  off : M'.off = M.off
  bytes : ∀ p ∈ M.now, (M'.file p.2).now = (M.file p.2).now
structure Calm (K room : Nat) (M : Med) : Prop where
  ok : M.Ok K
  quiet : Quiet M
  dst : Dst M
  used : M.used ≤ M.room
  room : M.room = room
section
variable {K r : Nat} {M : Med} {L : Log}
theorem Calm.new (K r : Nat) (h : r ≤ 16777216) : Calm K r (new r) := ⟨Med.Ok.new K r h, Quiet.new r, List.nodup_nil, Nat.zero_le _, rfl⟩
def Has (L : Log) (M : Med) : Prop := ∀ s ∈ L.l, ∃ i, nget M.now (name s.1) = some i
structure Keeps (K r : Nat) (L : Log) (M : Med) : Prop where
  log : L.Ok
  calm : Calm K r M
  has : Has L M
end
end Go.Seg
namespace Go.Proofs.YtlinnpehkfbnkaaGreatDoor
open Go Go.Sl Go.Med Go.MapKept Go.RowKit
section
variable {w0 w : World} {F : List HProp} {v bv dv x lv : Value} {q p m K : Nat} {L : Seg.Log} {M M1 M2 : Med} {nm : ByteArray}
def magic : Bs := [72, 79, 65, 82, 68, 83, 69, 71]
end
section
variable {w0 w : World} {F : List HProp} {v bv dv x lv : Value} {q p m K : Nat} {lim fr : Int} {M M1 M2 : Med} {nm : ByteArray} {b : Bs}
end
def comE : Frm.Ent := ⟨2, Frm.zero32, []⟩
def comB : Bs := (Frm.encode comE).1
def liveM : Med := Med.new 1000
theorem live_alive : Seg.alive liveM = 0 := by kernel_rfl
theorem live_fresh : Seg.fresh liveM 200 = ⟨200, [], false, 0⟩ := by kernel_rfl
section
variable {w0 w : World} {F : List HProp}
end
end Go.Proofs.YtlinnpehkfbnkaaGreatDoor
namespace Go.Seg
end Go.Seg
namespace Go.Proofs.YtlinnpehkfbnkaaGreatDoor
open Go Go.Sl Go.Med Go.MapKept Go.RowKit
section
variable {w0 w : World} {F : List HProp}
end
end Go.Proofs.YtlinnpehkfbnkaaGreatDoor
namespace Go.Frm
def encs (l : List Ent) : Bs := l.flatMap fun x => (encode x).1
def GoodE (x : Ent) : Prop := (encode x).2 = 0 ∧ x.key.length = 32
def fnds : List Ent → Nat → List Fnd
  | [], _ => []
  | x :: l, at_ => ⟨x, at_, (encode x).1.length⟩ :: fnds l (at_ + (encode x).1.length)
end Go.Frm
namespace Go.Seg
open Go.Med
open Go.Frm (encs GoodE)
section
variable {K r : Nat} {M : Med} {L : Log}
structure Holds (n : Nat) (L : Log) (M : Med) (C : List (List Frm.Ent)) : Prop where
  keeps : Keeps (n * 5) 1048576 L M
  len : L.l.length = C.length
  at_ : ∀ (k : Nat) (es : List Frm.Ent), C[k]? = some es → L.l[k]? = some ((k : Int), 8 + ((encs es).length : Int))
  file : ∀ (k : Nat) (es : List Frm.Ent), C[k]? = some es → M.all (name k) = (mag ++ encs es, 0)
  good : ∀ es ∈ C, (∀ x ∈ es, GoodE x) ∧ es ≠ []
  fit : ∀ es ∈ C, 8 + ((encs es).length : Int) ≤ L.limit ∨ es.length = 1
  count : C.length ≤ n
  used : M.used ≤ n * 400
  names : M.now.length ≤ n
  only : ∀ (s : ByteArray) (i : Nat), nget M.now s = some i → ∃ k : Nat, k < C.length ∧ s = name k
def put (C : List (List Frm.Ent)) (on : Bool) (x : Frm.Ent) : List (List Frm.Ent) := if on then C.dropLast ++ [C.getLastD [] ++ [x]] else C ++ [[x]]
variable {n : Nat} {C : List (List Frm.Ent)}
end
end Go.Seg
namespace Go.Seg
structure Cal where
  kind : Int
  e : Frm.Ent
  n : Int
  p : Plc
  l : List Int
def Cal.cut (c : Cal) : Cal := ⟨c.kind, Frm.cutE 300 c.e, c.n, c.p, c.l.take 60⟩
def fewC (l : List Cal) (n : Nat) : List Cal := (l.take n).map Cal.cut
end Go.Seg
namespace Go.Proofs.YtlinnpehkfbnkaaGreatDoor
open Go Go.Sl Go.Med Go.MapKept Go.RowKit
structure SD where
  c : Seg.Cal
  dv : Value
  lv : Value
def sdL (d : SD) : List Value := .int .i64 d.c.kind :: (entL d.c.e d.dv ++ [.int .i64 d.c.n, .int .i64 d.c.p.seg, .int .i64 d.c.p.at_, .int .i64 d.c.p.size, d.lv])
def sdA (d : SD) : Array Value := (sdL d).toArray
def sdsL (ds : List SD) : List Value := ds.flatMap sdL
structure SDRo (w0 : World) (F : List HProp) (d : SD) : Prop where
  key : d.c.e.key.length = 32
  rd : Ro w0 F (rdsl 1 d.dv (bys d.c.e.data))
  cap : capOk d.dv
  rl : Ro w0 F (rdsl 1 d.lv (ints d.c.l))
  capl : capOk d.lv
def zeroD : SD := ⟨⟨0, Frm.zeroE, 0, Seg.Plc.zero, []⟩, .slice none 0 0, .slice none 0 0⟩
def dataD (ds : List SD) : HProp := stars (ds.map fun d => bsl d.dv d.c.e.data)
section
variable {w0 w : World} {F R : List HProp} {v bv dv x lv : Value}
end
section
variable {w0 w : World} {F R : List HProp} {v bv dv x lv : Value}
end
end Go.Proofs.YtlinnpehkfbnkaaGreatDoor
namespace Go.Seg
open Go.Med
theorem bytes_len {K : Nat} {L : Log} {M : Med} (h : M.Ok K) (n : Int) : (L.bytes M n).1.length ≤ 16777216 := by
  unfold Log.bytes
  split
  · simp
  · unfold Med.all
    split
    · simp
    split
    · simp
    · exact (h.file _).now_len
end Go.Seg
namespace Go.Seg
open Go.Med
open Go.Frm (encs GoodE)
section
variable {n : Nat} {M : Med} {L : Log} {C : List (List Frm.Ent)}
def comLast (C : List (List Frm.Ent)) : Prop := ∀ es ∈ C, ∀ (k : Nat) (x : Frm.Ent), es[k]? = some x → x.tag = 2 → k + 1 = es.length
def noCom (es : List Frm.Ent) : Prop := ∀ x ∈ es, x.tag ≠ 2
structure Tail (on : Bool) (C : List (List Frm.Ent)) : Prop where
  last : comLast C
  tail : on = true → noCom (C.getLastD [])
def committedB (l : List Cal) : Bool := l.all fun c => c.kind == 1 || !(c.e.tag == 2)
end
end Go.Seg
namespace Go.Proofs.YtlinnpehkfbnkaaGreatDoor
open Go Go.Sl Go.Med Go.MapKept Go.RowKit
section
variable {w0 w : World} {F R : List HProp} {v bv dv x lv : Value}
end
end Go.Proofs.YtlinnpehkfbnkaaGreatDoor
namespace Go.Seg
open Go.Med
end Go.Seg
namespace Go.Proofs.YtlinnpehkfbnkaaGreatDoor
open Go Go.Sl Go.Med Go.MapKept Go.RowKit
section
variable {w0 w : World} {F R : List HProp} {v bv dv x lv : Value}
end
section
variable {w0 w : World} {F R : List HProp} {v bv dv x lv : Value}
theorem fndsL_at {fs : List (Frm.Fnd × Value)} (hk : ∀ p ∈ fs, p.1.e.key.length = 32) {i : Nat} {p : Frm.Fnd × Value} (hi : fs[i]? = some p) {j : Nat} {y : Value} (hj : (fndL p.1 p.2)[j]? = some y) : (fndsL fs)[i * 36 + j]? = some y := by
  induction fs generalizing i with
  | nil => simp at hi
  | cons x fs ih =>
    have hx := fndL_len x.1 x.2 (hk x (.head _))
    unfold fndsL at *
    rw [List.flatMap_cons]
    cases i with
    | zero =>
      obtain rfl : x = p := by simpa using hi
      rw [List.getElem?_append_left (by have := (List.getElem?_eq_some_iff.1 hj).1; omega), Nat.zero_mul, Nat.zero_add]
      exact hj
    | succ i =>
      rw [List.getElem?_append_right (by rw [hx]; omega), hx, show (i + 1) * 36 + j - 36 = i * 36 + j by omega]
      exact ih (fun d hd => hk d (.tail _ hd)) (by simpa using hi)
theorem fndL_ent (f : Frm.Fnd) (dv : Value) {j : Nat} {y : Value} (h : (entL f.e dv)[j]? = some y) : (fndL f dv)[j]? = some y := by
  unfold fndL
  rw [List.getElem?_append_left (List.getElem?_eq_some_iff.1 h).1]
  exact h
theorem fnds_at {fs : List (Frm.Fnd × Value)} {v : Value} {i : Nat} {p : Frm.Fnd × Value} (hk : ∀ p ∈ fs, p.1.e.key.length = 32) (hi : fs[i]? = some p) (h : Sat w0 w (osl 118 36 v (fndsL fs) :: R)) :
    ∃ bk off c, v = .slice (some ⟨bk, off, none⟩) fs.length c ∧ ∀ j y, (entL p.1.e p.2)[j]? = some y → w.cell? ⟨bk, off + i * 36 + j, none⟩ = some y := by
  have hr := Sat.rd h
  obtain ⟨a, n, c, rfl, hl, hx⟩ := id hr
  rw [fndsL_len hk] at hl
  obtain rfl : n = fs.length := by omega
  have hx0 : (fndsL fs)[i * 36 + 0]? = some (.int .i64 p.1.e.tag) := fndsL_at hk hi (fndL_ent _ _ rfl)
  obtain ⟨bk, off, rfl, hcell⟩ := rdsl_cells hr hx0
  refine ⟨bk, off, c, rfl, fun j y hj => ?_⟩
  have := hcell _ _ (fndsL_at hk hi (fndL_ent _ _ hj))
  rw [← Nat.add_assoc] at this
  exact this
theorem fnds_sl {fs : List (Frm.Fnd × Value)} {v : Value} (hk : ∀ p ∈ fs, p.1.e.key.length = 32) (h : Sat w0 w (osl 118 36 v (fndsL fs) :: R)) : ∃ a c, v = .slice a fs.length c := by
  obtain ⟨a, n, c, rfl, hl, hx⟩ := Sat.rd h
  rw [fndsL_len hk] at hl
  obtain rfl : n = fs.length := by omega
  exact ⟨a, c, rfl⟩
theorem dataF_at : ∀ (fs : List (Frm.Fnd × Value)) (i : Nat) (p : Frm.Fnd × Value), fs[i]? = some p → ∃ G, dataF fs = star (bsl p.2 p.1.e.data) G
  | [], _, _, h => by cases h
  | x :: fs, 0, p, h => by
    obtain rfl : x = p := by simpa using h
    exact ⟨_, rfl⟩
  | x :: fs, i + 1, p, h => by
    obtain ⟨G, hG⟩ := dataF_at fs i p (by simpa using h)
    refine ⟨star (bsl x.2 x.1.e.data) G, ?_⟩
    show star (bsl x.2 x.1.e.data) (dataF fs) = _
    rw [hG, star_left_comm]
theorem dataF_ro {fs : List (Frm.Fnd × Value)} {i : Nat} {p : Frm.Fnd × Value} (h : fs[i]? = some p) : Ro w0 (dataF fs :: R) (rdsl 1 p.2 (bys p.1.e.data)) := fun w hw => by
  obtain ⟨G, hG⟩ := dataF_at fs i p h
  rw [hG] at hw
  exact Sat.rd (Sat.star.1 hw)
theorem bsl_capL {l : Bs} (h : Sat w0 w (bsl v l :: R)) : capOk v ∧ ∃ a c, v = .slice a l.length c := by
  refine ⟨bsl_cap h, ?_⟩
  obtain ⟨a, n, c, rfl, _, _, rfl⟩ := bsl_cap' h
  exact ⟨a, c, rfl⟩
end
section
variable {w0 w : World} {F R : List HProp} {v bv dv x lv : Value}
def offs (C : List (List Frm.Ent)) (s : Nat) : Nat := ((C.take s).flatten).length
structure EntRd (w0 : World) (F : List HProp) (p : Frm.Ent × Value) : Prop where
  key : p.1.key.length = 32
  rd : Ro w0 F (rdsl 1 p.2 (bys p.1.data))
  sl : ∃ a n c, p.2 = .slice a n c
end
end Go.Proofs.YtlinnpehkfbnkaaGreatDoor
namespace Go.Frm
theorem scanL_count : ∀ (k : Nat) (b : Bs) (at_ : Nat), (scanL k b at_).1.length ≤ k
  | 0, _, _ => Nat.le_refl 0
  | k + 1, b, at_ => by
    unfold scanL
    split
    · exact Nat.zero_le _
    split
    · exact Nat.zero_le _
    · simp only [List.length_cons]
      have := scanL_count k
      exact Nat.succ_le_succ (this _ _)
theorem scan_count (b : Bs) : (scan b).1.length ≤ b.length := by
  unfold scan
  split
  · exact scanL_count _ _ _
  · exact Nat.zero_le _
end Go.Frm
namespace Go.Proofs.YtlinnpehkfbnkaaGreatDoor
open Go Go.Sl Go.Med Go.MapKept Go.RowKit
abbrev lbt (L : Seg.Log) (M : Med) : Rep.Told := fun n => L.bytes M n
section
variable {w0 w : World} {F : List HProp} {p m K : Nat} {L : Seg.Log} {M : Med} {sv : Value}
set_option maxRecDepth 20000 in
set_option maxHeartbeats 8000000 in
theorem split_c (hL : L.Ok) (hM : M.Ok K) (hH : Ro w0 F Half) (h : Sat w0 w (osl 3 1 sv (ints L.segs) :: LogRep p m L :: MedRep m M :: F)) :
    Calls Tryz.prog 52 #[ptr p, sv] w (Rtn fun v w' => v = .tuple #[.int .i64 (Rep.split (lbt L M) L.segs L.segs.length).1, errno (Rep.split (lbt L M) L.segs L.segs.length).2] ∧
      Sat w0 w' (osl 3 1 sv (ints L.segs) :: LogRep p m L :: MedRep m M :: F)) := by
  have HL := Lib.hid hL; have HM := Lib.hid hM; have HH := Lib.hid hH
  have Hlen := Lib.hid (show L.segs.length ≤ 1073741824 from by unfold Seg.Log.segs; rw [List.length_map]; have := hL.len; omega)
  obtain ⟨sa, sc, rfl⟩ : ∃ a c, sv = .slice a L.segs.length c := by
    obtain ⟨a, n, c, rfl, hl, _⟩ := Sat.rd h
    refine ⟨a, c, ?_⟩
    rw [show (ints L.segs).length = L.segs.length from List.length_map .., Nat.mul_one] at hl
    rw [hl]
  have w1 : IntKind.i64.wrap ((L.segs.length : Int) - 1) = (L.segs.length : Int) - 1 := IntWalk.i64_in _ (by have := Hlen.out; omega)
  clear hL hM hH
  go_enter Tryz.func52, Tryz.ntmps52
  go_wp2_with fail
  go_loopg [6] L.segs.length (fun g iq wr => ∃ k : Nat, g = 0 + k ∧ k ≤ L.segs.length ∧ iq = .int .i64 ((k : Int) - 1) ∧ Rep.split (lbt L M) L.segs L.segs.length = Rep.split (lbt L M) L.segs k ∧
    Sat w0 wr (osl 3 1 (.slice sa L.segs.length sc) (ints L.segs) :: LogRep p m L :: MedRep m M :: F))
  case atStart => exact ⟨L.segs.length, (Nat.zero_add _).symm, Nat.le_refl _, rfl, rfl, h⟩
  case round =>
    obtain ⟨k, rfl, hk, rfl, he, hS⟩ := hrel
    clear h
    cases k with
    | zero =>
      have c1 : ¬ (((0 : Nat) : Int) - 1) ≥ 0 := by decide
      have He := Lib.hid he
      clear he
      go_wp2_with fail
      go_ret2
      rw [He.out]
      exact ⟨_, rfl, rfl, hS⟩
    | succ k =>
      have e1 : ((k + 1 : Nat) : Int) - 1 = (k : Int) := by omega
      rw [e1]
      have c1 : (k : Int) ≥ 0 := by omega
      have c2 : (k : Int) < (L.segs.length : Int) := by omega
      have w2 : IntKind.i64.wrap ((k : Int) - 1) = (k : Int) - 1 := IntWalk.i64_in _ (by have := Hlen.out; omega)
      have w3 : IntKind.i64.wrap ((k : Int) + 1) = ((k + 1 : Nat) : Int) := by rw [IntWalk.i64_in _ (by have := Hlen.out; omega)]; omega
      obtain ⟨s, hs⟩ : ∃ s, L.segs[k]? = some s := ⟨_, List.getElem?_eq_getElem (by omega)⟩
      have hgd : L.segs.getD k 0 = s := by rw [List.getD, hs]; rfl
      have Hu := Lib.hid (show Rep.split (lbt L M) L.segs (k + 1) = if (L.bytes M s).2 ≠ 0 then (0, (L.bytes M s).2) else if (Frm.scan (L.bytes M s).1).2.2 = 0 ∧ Rep.endedF (Frm.scan (L.bytes M s).1).1 = true then (k + 1, 0) else Rep.split (lbt L M) L.segs k by
        rw [Rep.split, hgd])
      obtain ⟨bk, off, cc, hsv, hcell⟩ := osl_row (f := fun i : Int => [Value.int .i64 i]) (k := 1) (l := L.segs) (fun u _ => rfl) (by have := Sat.rd hS; rw [show ints L.segs = L.segs.flatMap fun i => [Value.int .i64 i] from by unfold ints; exact List.map_eq_flatMap] at this; exact this) hs (by decide)
      cases hsv
      have f0 := hcell 0 _ rfl
      rw [Nat.mul_one, Nat.add_zero] at f0
      have He := Lib.hid he
      have hb := lbytes_c HL.out HM.out s (hS.sb : Sat w0 wr (LogRep p m L :: MedRep m M :: osl 3 1 (.slice (some ⟨bk, off, none⟩) L.segs.length sc) (ints L.segs) :: F))
      have hk' := Lib.hid hk
      clear hcell hs hgd he hS hk
      go_wp2_with fail
      refine hb.mono ?_
      rintro ee w3 ⟨v, rfl, bv, rfl, hS3⟩
      clear hb
      obtain ⟨hcap, ca, cc, rfl⟩ := bsl_capL hS3
      by_cases h0 : (L.bytes M s).2 = 0
      rotate_left
      · have hb : ((L.bytes M s).2 != 0) = true := by rw [bne_iff_ne]; exact h0
        have Hf := Lib.hid (show Rep.split (lbt L M) L.segs (k + 1) = (0, (L.bytes M s).2) by rw [Hu.out, if_pos h0])
        clear h0
        go_wp2_with fail
        go_ret2
        rw [He.out, Hf.out]
        exact ⟨_, rfl, rfl, hS3.sb⟩
      have hb : ((L.bytes M s).2 != 0) = false := by rw [h0]; rfl
      have H0 := Lib.hid h0
      rw [h0]
      clear h0
      have hbl := Seg.bytes_len (L := L) HM.out s
      have hsc := fscan_c (w0 := w0) (w := w3) (L.bytes M s).1 (Ro.bsl _ _) hcap (Ro.os HH.out) (Nat.le_trans hbl (by decide)) hS3
      have Hbl := Lib.hid hbl
      clear hcap hbl
      go_wp2_with fail
      refine hsc.mono ?_
      rintro ee w4 ⟨v, rfl, fs, fv, hfs, hfk, rfl, hS4⟩
      clear hsc hS3
      obtain ⟨fa, fc, rfl⟩ := fnds_sl hfk hS4
      have hS5 : Sat w0 w4 (osl 3 1 (.slice (some ⟨bk, off, none⟩) L.segs.length sc) (ints L.segs) :: LogRep p m L :: MedRep m M :: F) := hS4.sb
      by_cases h1 : (Frm.scan (L.bytes M s).1).2.2 = 0
      rotate_left
      · have hb1 : ((Frm.scan (L.bytes M s).1).2.2 == 0) = false := by rw [beq_eq_false_iff_ne]; exact h1
        have Hf := Lib.hid (show Rep.split (lbt L M) L.segs (k + 1) = Rep.split (lbt L M) L.segs k by rw [Hu.out, if_neg (fun h => h H0.out), if_neg (fun h => h1 h.1)])
        clear h1 hS4 hfs hfk
        go_wp2_with fail
        go_roundg (0 + k)
        case measure => omega
        case rel => exact ⟨k, rfl, Nat.le_of_succ_le hk'.out, by first | rfl | go_num, He.out.trans Hf.out, hS5⟩
      have hb1 : ((Frm.scan (L.bytes M s).1).2.2 == 0) = true := beq_iff_eq.2 h1
      have hen := ended_c (w := w4) fs hfk (by
        have := Frm.scan_count (L.bytes M s).1
        rw [← hfs, List.length_map] at this
        have := Hbl.out; omega) (Sat.rd hS4)
      rw [hfs] at hen
      clear hS4 hfs hfk
      by_cases h2 : Rep.endedF (Frm.scan (L.bytes M s).1).1 = true
      · have Hf := Lib.hid (show Rep.split (lbt L M) L.segs (k + 1) = (k + 1, 0) by rw [Hu.out, if_neg (fun h => h H0.out), if_pos ⟨h1, h2⟩])
        rw [h2] at hen
        clear h1 h2
        go_wp2_with fail
        refine hen.mono ?_
        rintro ee w5 ⟨v, rfl, rfl, rfl⟩
        clear hen
        go_wp2_with fail
        go_ret2
        rw [He.out, Hf.out]
        exact ⟨_, rfl, rfl, hS5⟩
      · have Hf := Lib.hid (show Rep.split (lbt L M) L.segs (k + 1) = Rep.split (lbt L M) L.segs k by rw [Hu.out, if_neg (fun h => h H0.out), if_neg (fun h => h2 h.2)])
        rw [Bool.not_eq_true] at h2
        rw [h2] at hen
        clear h1 h2
        go_wp2_with fail
        refine hen.mono ?_
        rintro ee w5 ⟨v, rfl, rfl, rfl⟩
        clear hen
        go_wp2_with fail
        go_roundg (0 + k)
        case measure => omega
        case rel => exact ⟨k, rfl, Nat.le_of_succ_le hk'.out, by first | rfl | go_num, He.out.trans Hf.out, hS5⟩
end
section
variable {P : Program} {w0 w : World} {t ty : TypeId}
theorem res_cell {L R : List HProp} {b : Nat} {T : TypeId} {cs : Array Value} {fn : Func} {p : Tmp} {tmps : Array Value} {d : TypeDesc} (hf : fn.results = #[.cell p ty]) (hs : Sat w0 w L) (hp : tmps.getD p undef = .pointer (some ⟨b, 0, none⟩)) (k : Pick (pt b (.cells cs T (0,0))) L R)
    (hu : P.underlying ty = some d) (hd : d.isRow = true) (hi : (P.info? ty).map (·.size) = some cs.size) : (results fn tmps).run P w = .ok (.agg cs) w := by
  have hl := run_loadVar_row (P := P) w b T ty cs (0, 0) d (hs.pick k).at hu (by cases d <;> simp_all [TypeDesc.isRow]) hi
  have e : (results fn tmps).run P w = ((asAddr (tmps.getD p undef)).run P w).andThen fun a w₁ => (loadVar ty a).run P w₁ := by
    simp only [results, hf]
    simp [Sem.run_bind, Result.andThen]
  rw [e, hp]
  simp [asAddr, hl, Result.andThen]
end
end Go.Proofs.YtlinnpehkfbnkaaGreatDoor
namespace Go.Rep
def lastOf (bt : Told) (ns : List Int) : Int × Int :=
  if (split bt ns ns.length).2 ≠ 0 then (0, (split bt ns ns.length).2) else if (split bt ns ns.length).1 = 0 then (-1, 0) else (ns.getD ((split bt ns ns.length).1 - 1) 0, 0)
end Go.Rep
namespace Go.Proofs.YtlinnpehkfbnkaaGreatDoor
open Go Go.Sl Go.Med Go.MapKept Go.RowKit
section
variable {w0 w : World} {F : List HProp} {p m K : Nat} {L : Seg.Log} {M : Med} {sv : Value}
theorem ints_cell {sv : Value} {l : List Int} {i : Nat} {s : Int} (h : rdsl 1 sv (ints l) w) (hs : l[i]? = some s) : ∃ bk off c, sv = .slice (some ⟨bk, off, none⟩) l.length c ∧ w.cell? ⟨bk, off + i, none⟩ = some (.int .i64 s) := by
  obtain ⟨bk, off, cc, hsv, hcell⟩ := osl_row (f := fun i : Int => [Value.int .i64 i]) (k := 1) (l := l) (fun u _ => rfl) (by rw [show ints l = l.flatMap fun i => [Value.int .i64 i] from by unfold ints; exact List.map_eq_flatMap] at h; exact h) hs (by decide)
  have f0 := hcell 0 _ rfl
  rw [Nat.mul_one, Nat.add_zero] at f0
  exact ⟨bk, off, cc, hsv, f0⟩
theorem ints_sl {sv : Value} {l : List Int} (h : rdsl 1 sv (ints l) w) : ∃ a c, sv = .slice a l.length c := by
  obtain ⟨a, n, c, rfl, hl, _⟩ := h
  refine ⟨a, c, ?_⟩
  rw [show (ints l).length = l.length from List.length_map .., Nat.mul_one] at hl
  rw [hl]
set_option maxRecDepth 20000 in
set_option maxHeartbeats 8000000 in
theorem last_c (hL : L.Ok) (hM : M.Ok K) (hH : Ro w0 F Half) (h : Sat w0 w (LogRep p m L :: MedRep m M :: F)) :
    Calls Tryz.prog 158 #[ptr p] w (Rtn fun v w' => v = .tuple #[.int .i64 (Rep.lastOf (lbt L M) L.segs).1, errno (Rep.lastOf (lbt L M) L.segs).2] ∧ Sat w0 w' (LogRep p m L :: MedRep m M :: F)) := by
  have Hlen := Lib.hid (show L.segs.length ≤ 1073741824 from by unfold Seg.Log.segs; rw [List.length_map]; have := hL.len; omega)
  have hse := lsegs_c hL h
  have HL := Lib.hid hL; have HM := Lib.hid hM; have HH := Lib.hid hH
  clear hL hM hH h
  go_enter Tryz.func158, Tryz.ntmps158
  go_wp2_with fail
  refine hse.mono ?_
  rintro ee w1 ⟨v, rfl, hS⟩
  clear hse
  have hsp := split_c HL.out HM.out HH.out hS
  go_wp2_with fail
  refine hsp.mono ?_
  rintro ee w2 ⟨v', rfl, rfl, hS2⟩
  clear hsp hS
  have Hle := Lib.hid (Rep.split_le (lbt L M) L.segs L.segs.length)
  have HS := Lib.hid (hS2.sb : Sat w0 w2 (LogRep p m L :: MedRep m M :: F))
  have hrd := Sat.rd hS2
  clear hS2
  by_cases h0 : (Rep.split (lbt L M) L.segs L.segs.length).2 = 0
  · have hb : ((Rep.split (lbt L M) L.segs L.segs.length).2 != 0) = false := by rw [h0]; rfl
    by_cases h1 : (Rep.split (lbt L M) L.segs L.segs.length).1 = 0
    · have Hf := Lib.hid (show Rep.lastOf (lbt L M) L.segs = (-1, 0) by unfold Rep.lastOf; rw [if_neg (fun h => h h0), if_pos h1])
      have hb1 : (((Rep.split (lbt L M) L.segs L.segs.length).1 : Int) == 0) = true := by rw [h1]; rfl
      clear hrd h0 h1
      go_wp2_with fail
      go_ret2
      rw [Hf.out]
      exact ⟨_, rfl, rfl, HS.out⟩
    · have Hf := Lib.hid (show Rep.lastOf (lbt L M) L.segs = (L.segs.getD ((Rep.split (lbt L M) L.segs L.segs.length).1 - 1) 0, 0) by unfold Rep.lastOf; rw [if_neg (fun h => h h0), if_neg h1])
      have hle := Hle.out
      generalize (Rep.split (lbt L M) L.segs L.segs.length).1 = n at *
      have hb1 : ((n : Int) == 0) = false := by rw [beq_eq_false_iff_ne]; omega
      have w1 : IntKind.i64.wrap ((n : Int) - 1) = ((n - 1 : Nat) : Int) := by rw [IntWalk.i64_in _ (by have := Hlen.out; omega)]; omega
      have hlt : n - 1 < L.segs.length := by omega
      have hs : L.segs[n - 1]? = some (L.segs.getD (n - 1) 0) := by rw [List.getD, List.getElem?_eq_getElem hlt]; rfl
      generalize L.segs.getD (n - 1) 0 = s at *
      generalize n - 1 = j at *
      obtain ⟨bk, off, c, rfl, f0⟩ := ints_cell hrd hs
      have c1 : (0 : Int) ≤ (j : Int) := by omega
      have c2 : (j : Int) < (L.segs.length : Int) := by omega
      clear hrd h0 h1 hs hlt hle
      go_wp2_with fail
      go_ret2
      rw [Hf.out]
      exact ⟨_, rfl, rfl, HS.out⟩
  · have hb : ((Rep.split (lbt L M) L.segs L.segs.length).2 != 0) = true := by rw [bne_iff_ne]; exact h0
    have Hf := Lib.hid (show Rep.lastOf (lbt L M) L.segs = (0, (Rep.split (lbt L M) L.segs L.segs.length).2) by unfold Rep.lastOf; rw [if_pos h0])
    clear hrd h0
    go_wp2_with fail
    go_ret2
    rw [Hf.out]
    exact ⟨_, rfl, rfl, HS.out⟩
end
section
variable {P : Program} {w0 w : World} {ops : Array Oper} {rest : List Oper} {a : Act} {Q : Exit → Act → World → Prop} {dst : Option Tmp} {t ty : TypeId} {pos : String} {after : Array Edge} {x y : Operand} {v v1 v2 : Value} {i1 i2 : Nat}
theorem wl_build2 (h1 : a.eval x = v1) (h2 : a.eval y = v2) (hr : ∀ w, (Instr.build ty #[(i1, v1), (i2, v2)]).run P w = .ok v w) (h : wpList P ops Q rest (a.put dst v) w) :
    wpList P ops Q (⟨dst, .build ty #[(i1, x), (i2, y)], t, pos, after, none⟩ :: rest) a w :=
  wpList_plain rfl fun _ hK => by
    unfold Oper.wp execOp
    simp only [List.map_toArray, List.map_cons, List.map_nil, h1, h2, Sem.run_bind, hr, Result.andThen_ok, Sem.run_pure]
    exact hK _ _ h
theorem wl_build0 (hr : ∀ w, (Instr.build ty #[]).run P w = .ok v w) (h : wpList P ops Q rest (a.put dst v) w) : wpList P ops Q (⟨dst, .build ty #[], t, pos, after, none⟩ :: rest) a w :=
  wpList_plain rfl fun _ hK => by
    unfold Oper.wp execOp
    simp only [List.map_toArray, List.map_nil, Sem.run_bind, hr, Result.andThen_ok, Sem.run_pure]
    exact hK _ _ h
theorem res_tct {L R : List HProp} {b : Nat} {T : TypeId} {cs : Array Value} {fn : Func} {t p u : Tmp} {tmps : Array Value} {d : TypeDesc} (hf : fn.results = #[.tmp t, .cell p ty, .tmp u]) (hs : Sat w0 w L) (hp : tmps.getD p undef = .pointer (some ⟨b, 0, none⟩)) (k : Pick (pt b (.cells cs T (0,0))) L R)
    (hu : P.underlying ty = some d) (hd : d.isRow = true) (hi : (P.info? ty).map (·.size) = some cs.size) : (results fn tmps).run P w = .ok (.tuple #[tmps.getD t undef, .agg cs, tmps.getD u undef]) w := by
  have hl := run_loadVar_row (P := P) w b T ty cs (0, 0) d (hs.pick k).at hu (by cases d <;> simp_all [TypeDesc.isRow]) hi
  have e : (results fn tmps).run P w = ((asAddr (tmps.getD p undef)).run P w).andThen fun a w₁ => ((loadVar ty a).run P w₁).andThen fun v w₂ => .ok (.tuple #[tmps.getD t undef, v, tmps.getD u undef]) w₂ := by
    simp only [results, hf]
    simp [Sem.run_bind, Result.andThen]
  rw [e, hp]
  simp [asAddr, hl, Result.andThen]
theorem at_build2 (h : Stop (wpList P ops Q (⟨dst, .build ty #[(i1, x), (i2, y)], t, pos, after, none⟩ :: rest) a w)) : wpList P ops Q (⟨dst, .build ty #[(i1, x), (i2, y)], t, pos, after, none⟩ :: rest) a w := h.out
theorem at_build0 (h : Stop (wpList P ops Q (⟨dst, .build ty #[], t, pos, after, none⟩ :: rest) a w)) : wpList P ops Q (⟨dst, .build ty #[], t, pos, after, none⟩ :: rest) a w := h.out
end
section
variable {w0 w : World} {F : List HProp}
theorem plFlt : placesB Tryz.prog 37 = some [(0, 1), (1, 1), (2, 1), (3, 32), (35, 1)] := by kernel_rfl
theorem run_flt2 (x y : Int) (w : World) : (Instr.build 37 #[(0, .int .i64 x), (1, .int .i64 y)]).run Tryz.prog w = .ok (.agg (fltA ⟨x, y, 0⟩)) w := by
  have h := run_build (P := Tryz.prog) [(0, .int .i64 x), (1, .int .i64 y)] plFlt zFlt (by
    intro p hp
    have hzz : (Value.agg (fltA Rep.Flt.zero)).cells.size = 36 := by rfl
    rw [hzz]
    rcases List.mem_cons.1 hp with rfl | hp
    · exact ⟨0, rfl, by show 0 + 1 ≤ 36; omega⟩
    · rw [List.mem_singleton.1 hp]
      exact ⟨1, rfl, by show 1 + 1 ≤ 36; omega⟩) w
  exact h
theorem run_flt3 (x y z : Int) (w : World) : (Instr.build 37 #[(0, .int .i64 x), (1, .int .i64 y), (2, .int .i64 z)]).run Tryz.prog w = .ok (.agg (fltA ⟨x, y, z⟩)) w := by
  have h := run_build (P := Tryz.prog) [(0, .int .i64 x), (1, .int .i64 y), (2, .int .i64 z)] plFlt zFlt (by
    intro p hp
    have hzz : (Value.agg (fltA Rep.Flt.zero)).cells.size = 36 := by rfl
    rw [hzz]
    rcases List.mem_cons.1 hp with rfl | hp
    · exact ⟨0, rfl, by show 0 + 1 ≤ 36; omega⟩
    rcases List.mem_cons.1 hp with rfl | hp
    · exact ⟨1, rfl, by show 1 + 1 ≤ 36; omega⟩
    · rw [List.mem_singleton.1 hp]
      exact ⟨2, rfl, by show 2 + 1 ≤ 36; omega⟩) w
  exact h
theorem run_flt0 (w : World) : (Instr.build 37 #[]).run Tryz.prog w = .ok (.agg (fltA Rep.Flt.zero)) w := run_build (P := Tryz.prog) [] plFlt zFlt (by simp) w
set_option maxRecDepth 20000 in
set_option maxHeartbeats 4000000 in
theorem fault_c (s : Int) (at_ : Nat) (h : Sat w0 w F) : Calls Tryz.prog 57 #[.int .i64 s, .int .i64 at_] w (Rtn fun v w' => v = .agg (fltA (Rep.fault s at_)) ∧ Sat w0 w' F) := by
  have hone : ∀ f, (fltA f).size = 36 := fun f => rfl
  by_cases h0 : at_ = 0
  · have hb : ((at_ : Int) == 0) = true := by rw [h0]; rfl
    have e := Lib.hid (show Rep.fault s at_ = ⟨1, s, 0⟩ from if_pos h0)
    clear h0
    go_enter Tryz.func57, Tryz.ntmps57
    go_wp2_with (with_reducible apply at_alloc)
    refine ⟨?_⟩
    refine wl_alloc zFlt h rfl ?_
    intro b4 w4 h4
    go_wp2_with (first
      | ((with_reducible apply at_build2); refine ⟨?_⟩; refine wl_build2 (by rfl) (by rfl) (fun w => run_flt2 1 s w) ?_)
      | ((with_reducible apply at_store); refine ⟨?_⟩; refine wl_storeA (fltA ⟨1, s, 0⟩) h4 (by rfl) (by rfl) (by rfl) upd0 (by kernel_rfl) (by rfl) ?_; intro w9 h9))
    refine ⟨rfl, _, res_cell rfl h9 (by rfl) pkD Tryz.underlying37 rfl (by kernel_rfl), ?_⟩
    exact ⟨_, rfl, by rw [e.out], h9.drop⟩
  · have hb : ((at_ : Int) == 0) = false := by rw [beq_eq_false_iff_ne]; omega
    have e := Lib.hid (show Rep.fault s at_ = ⟨2, s, at_⟩ from if_neg h0)
    clear h0
    go_enter Tryz.func57, Tryz.ntmps57
    go_wp2_with (with_reducible apply at_alloc)
    refine ⟨?_⟩
    refine wl_alloc zFlt h rfl ?_
    intro b4 w4 h4
    go_wp2_with (first
      | ((with_reducible apply at_build3); refine ⟨?_⟩; refine wl_build3 (by rfl) (by rfl) (by rfl) (fun w => run_flt3 2 s at_ w) ?_)
      | ((with_reducible apply at_store); refine ⟨?_⟩; refine wl_storeA (fltA ⟨2, s, at_⟩) h4 (by rfl) (by rfl) (by rfl) upd0 (by kernel_rfl) (by rfl) ?_; intro w9 h9))
    refine ⟨rfl, _, res_cell rfl h9 (by rfl) pkD Tryz.underlying37 rfl (by kernel_rfl), ?_⟩
    exact ⟨_, rfl, by rw [e.out], h9.drop⟩
end
def NR (w0 : World) (F : List HProp) (rv : Value) : Prop := rv = .pointer none ∨ ∃ b, rv = ptr b ∧ ∀ w, Sat w0 w F → w.cell? ⟨b, 2, none⟩ = some (.pointer none)
section
variable {w0 w : World} {F : List HProp} {rv bv : Value} {k : Frm.Bs} {A : HProp}
theorem NR.one (hn : NR w0 F rv) : NR w0 (A :: F) rv := hn.imp id fun ⟨b, e, hc⟩ => ⟨b, e, fun w hw => hc w hw.drop⟩
theorem NR.more (hn : NR w0 F rv) (h : Sat w0 w (A :: F)) : rv = .pointer none ∨ ∃ b, rv = ptr b ∧ w.cell? ⟨b, 2, none⟩ = some (.pointer none) := hn.imp id fun ⟨b, e, hc⟩ => ⟨b, e, hc w h.drop⟩
theorem NR.now (hn : NR w0 F rv) (h : Sat w0 w F) : rv = .pointer none ∨ ∃ b, rv = ptr b ∧ w.cell? ⟨b, 2, none⟩ = some (.pointer none) := hn.imp id fun ⟨b, e, hc⟩ => ⟨b, e, hc w h⟩
set_option maxHeartbeats 2000000 in
theorem rok_c (hn : rv = .pointer none ∨ ∃ b, rv = ptr b ∧ w.cell? ⟨b, 2, none⟩ = some (.pointer none)) : Calls Tryz.prog 98 #[rv] w (Rtn fun v w' => v = .bool false ∧ w = w') := by
  rcases hn with rfl | ⟨b, rfl, e2⟩
  · go_enter Tryz.func98, Tryz.ntmps98
    go_wp2
    go_ret
    exact ⟨_, rfl, rfl, rfl⟩
  · go_enter Tryz.func98, Tryz.ntmps98
    go_wp2
    go_ret
    exact ⟨_, rfl, rfl, rfl⟩
set_option maxHeartbeats 2000000 in
theorem nget_c (hn : NR w0 F rv) (h : Sat w0 w F) : Calls Tryz.prog 30 #[rv, .agg (bys k).toArray] w (Rtn fun v w' => v = .tuple #[.slice none 0 0, errno 1] ∧ Sat w0 w' F) := by
  go_enter Tryz.func30, Tryz.ntmps30
  go_wp2_with ((with_reducible apply at_box); refine ⟨?_⟩; refine wl_box (by assumption) evD evD ?_; intro bB wB hB)
  refine (rok_c (hn.more hB)).mono ?_
  rintro e w2 ⟨v, rfl, rfl, rfl⟩
  go_wp2
  go_ret2
  exact ⟨_, rfl, rfl, hB.drop⟩
set_option maxHeartbeats 2000000 in
theorem nput_c (hn : NR w0 F rv) (h : Sat w0 w F) : Calls Tryz.prog 34 #[rv, .agg (bys k).toArray, bv] w (Rtn fun v w' => v = errno 1 ∧ Sat w0 w' F) := by
  go_enter Tryz.func34, Tryz.ntmps34
  go_wp2_with ((with_reducible apply at_box); refine ⟨?_⟩; refine wl_box (by assumption) evD evD ?_; intro bB wB hB)
  refine (rok_c (hn.more hB)).mono ?_
  rintro e w2 ⟨v, rfl, rfl, rfl⟩
  go_wp2
  go_ret
  exact ⟨_, rfl, rfl, hB.drop⟩
set_option maxHeartbeats 2000000 in
theorem ndel_c (hn : NR w0 F rv) (h : Sat w0 w F) : Calls Tryz.prog 35 #[rv, .agg (bys k).toArray] w (Rtn fun v w' => v = errno 1 ∧ Sat w0 w' F) := by
  go_enter Tryz.func35, Tryz.ntmps35
  go_wp2_with ((with_reducible apply at_box); refine ⟨?_⟩; refine wl_box (by assumption) evD evD ?_; intro bB wB hB)
  refine (rok_c (hn.more hB)).mono ?_
  rintro e w2 ⟨v, rfl, rfl, rfl⟩
  go_wp2
  go_ret
  exact ⟨_, rfl, rfl, hB.drop⟩
set_option maxHeartbeats 2000000 in
theorem ncom_c (hn : NR w0 F rv) (h : Sat w0 w F) : Calls Tryz.prog 36 #[rv] w (Rtn fun v w' => v = errno 1 ∧ w = w') := by
  go_enter Tryz.func36, Tryz.ntmps36
  go_wp2_with fail
  refine (rok_c (hn.now h)).mono ?_
  rintro e w2 ⟨v, rfl, rfl, rfl⟩
  go_wp2
  go_ret
  exact ⟨_, rfl, rfl, rfl⟩
set_option maxHeartbeats 2000000 in
theorem nroll_c (hn : NR w0 F rv) (h : Sat w0 w F) : Calls Tryz.prog 37 #[rv] w (Rtn fun v w' => v = errno 1 ∧ w = w') := by
  go_enter Tryz.func37, Tryz.ntmps37
  go_wp2_with fail
  refine (rok_c (hn.now h)).mono ?_
  rintro e w2 ⟨v, rfl, rfl, rfl⟩
  go_wp2
  go_ret
  exact ⟨_, rfl, rfl, rfl⟩
set_option maxHeartbeats 2000000 in
theorem nrel_c (hn : NR w0 F rv) (h : Sat w0 w F) : Calls Tryz.prog 38 #[rv] w (Rtn fun v w' => v = errno 1 ∧ w = w') := by
  go_enter Tryz.func38, Tryz.ntmps38
  go_wp2_with fail
  refine (rok_c (hn.now h)).mono ?_
  rintro e w2 ⟨v, rfl, rfl, rfl⟩
  go_wp2
  go_ret
  exact ⟨_, rfl, rfl, rfl⟩
set_option maxHeartbeats 2000000 in
theorem ndirty_c (hn : NR w0 F rv) (h : Sat w0 w F) : Calls Tryz.prog 33 #[rv] w (Rtn fun v w' => v = .bool false ∧ w = w') := by
  go_enter Tryz.func33, Tryz.ntmps33
  go_wp2_with fail
  refine (rok_c (hn.now h)).mono ?_
  rintro e w2 ⟨v, rfl, rfl, rfl⟩
  go_wp2
  go_ret
  exact ⟨_, rfl, rfl, rfl⟩
set_option maxHeartbeats 2000000 in
theorem nkeys_c (hn : NR w0 F rv) (h : Sat w0 w F) : Calls Tryz.prog 39 #[rv] w (Rtn fun v w' => v = .slice none 0 0 ∧ w = w') := by
  go_enter Tryz.func39, Tryz.ntmps39
  go_wp2_with fail
  refine (rok_c (hn.now h)).mono ?_
  rintro e w2 ⟨v, rfl, rfl, rfl⟩
  go_wp2
  go_ret
  exact ⟨_, rfl, rfl, rfl⟩
set_option maxHeartbeats 2000000 in
theorem nlen_c (hn : NR w0 F rv) (h : Sat w0 w F) : Calls Tryz.prog 40 #[rv] w (Rtn fun v w' => v = .int .i64 0 ∧ w = w') := by
  go_enter Tryz.func40, Tryz.ntmps40
  go_wp2_with fail
  refine (rok_c (hn.now h)).mono ?_
  rintro e w2 ⟨v, rfl, rfl, rfl⟩
  go_wp2
  go_ret
  exact ⟨_, rfl, rfl, rfl⟩
set_option maxHeartbeats 2000000 in
theorem nstate_c (hn : NR w0 F rv) (h : Sat w0 w F) : Calls Tryz.prog 41 #[rv] w (Rtn fun v w' => v = .pointer none ∧ w = w') := by
  go_enter Tryz.func41, Tryz.ntmps41
  go_wp2_with fail
  refine (rok_c (hn.now h)).mono ?_
  rintro e w2 ⟨v, rfl, rfl, rfl⟩
  go_wp2
  go_ret
  exact ⟨_, rfl, rfl, rfl⟩
set_option maxHeartbeats 2000000 in
theorem nlog_c (hn : NR w0 F rv) (h : Sat w0 w F) : Calls Tryz.prog 42 #[rv] w (Rtn fun v w' => v = .pointer none ∧ w = w') := by
  go_enter Tryz.func42, Tryz.ntmps42
  go_wp2_with fail
  refine (rok_c (hn.now h)).mono ?_
  rintro e w2 ⟨v, rfl, rfl, rfl⟩
  go_wp2
  go_ret
  exact ⟨_, rfl, rfl, rfl⟩
set_option maxHeartbeats 2000000 in
theorem nmed_c (hn : NR w0 F rv) (h : Sat w0 w F) : Calls Tryz.prog 43 #[rv] w (Rtn fun v w' => v = .pointer none ∧ w = w') := by
  go_enter Tryz.func43, Tryz.ntmps43
  go_wp2_with fail
  refine (rok_c (hn.now h)).mono ?_
  rintro e w2 ⟨v, rfl, rfl, rfl⟩
  go_wp2
  go_ret
  exact ⟨_, rfl, rfl, rfl⟩
theorem plPl : placesB Tryz.prog 54 = some [(0, 1), (1, 1), (2, 1)] := by kernel_rfl
theorem run_pl0 (w : World) : (Instr.build 54 #[]).run Tryz.prog w = .ok (.agg (penc Seg.Plc.zero).toArray) w := run_build (P := Tryz.prog) [] plPl zValL (by simp) w
set_option maxHeartbeats 4000000 in
theorem nplace_c (hn : NR w0 F rv) (h : Sat w0 w F) : Calls Tryz.prog 31 #[rv, .agg (bys k).toArray] w (Rtn fun v w' => v = .tuple #[.agg (penc Seg.Plc.zero).toArray, .bool false] ∧ Sat w0 w' F) := by
  go_enter Tryz.func31, Tryz.ntmps31
  go_wp2_with (first | ((with_reducible apply at_box); refine ⟨?_⟩; refine wl_box (by assumption) evD evD ?_; intro bB wB hB) | (with_reducible apply at_alloc))
  refine ⟨?_⟩
  refine wl_alloc zValL hB rfl ?_
  intro b4 w4 h4
  go_wp2_with fail
  refine (rok_c (hn.one.more h4)).mono ?_
  rintro e w5 ⟨v, rfl, rfl, rfl⟩
  go_wp2_with (first
    | ((with_reducible apply ug_at_build); refine ⟨?_⟩; refine wl_bld (by rfl) run_pl0 ?_)
    | ((with_reducible apply at_store); refine ⟨?_⟩; refine wl_storeA (penc Seg.Plc.zero).toArray h4 (by rfl) (by rfl) (by rfl) upd0 (by kernel_rfl) (by rfl) ?_; intro w6 h6))
  refine ⟨rfl, _, res_cell_tmp rfl h6 (by rfl) pkD Tryz.underlying54 rfl (by kernel_rfl), _, rfl, rfl, h6.drop.drop⟩
set_option maxHeartbeats 4000000 in
theorem nhas_c (hk : k.length = 32) (hn : NR w0 F rv) (h : Sat w0 w F) : Calls Tryz.prog 32 #[rv, .agg (bys k).toArray] w (Rtn fun v w' => v = .bool false ∧ Sat w0 w' F) := by
  have Hk := Lib.hid hk
  clear hk
  go_enter Tryz.func32, Tryz.ntmps32
  go_wp2_with (first | ((with_reducible apply at_box); refine ⟨?_⟩; refine wl_box (by assumption) evD evD ?_; intro bB wB hB) | ((with_reducible apply at_load); refine ⟨?_⟩; refine wl_loadA hB (by rfl) pkD Tryz.underlying24 rfl (by rw [List.size_toArray, bys_len, Hk.out]; kernel_rfl) ?_))
  refine (nplace_c hn.one hB).mono ?_
  rintro e w5 ⟨v, rfl, rfl, h5⟩
  go_wp2_with (with_reducible apply at_alloc)
  refine ⟨?_⟩
  refine wl_alloc zValL h5 rfl ?_
  intro b6 w6 h6
  go_wp2_with ((with_reducible apply at_store); refine ⟨?_⟩; refine wl_storeA (penc Seg.Plc.zero).toArray h6 (by rfl) (by rfl) (by rfl) upd0 (by kernel_rfl) (by rfl) ?_; intro w7 h7)
  go_ret
  exact ⟨_, rfl, rfl, h7.drop.drop⟩
end
end Go.Proofs.YtlinnpehkfbnkaaGreatDoor
namespace Go.Rep
open Go.Frm (Bs)
def runAt (bt : Told) (ns : List Int) (n : Nat) : (Flt × Int) ⊕ Nat := match bad bt (ns.take n) with
  | some x => .inl x
  | none => .inr n
def run (bt : Told) (ns : List Int) : (Flt × Int) ⊕ Nat :=
  if (split bt ns ns.length).2 ≠ 0 then .inl (Flt.zero, (split bt ns ns.length).2) else runAt bt ns (split bt ns ns.length).1
theorem runAt_bad {bt : Told} {ns : List Int} {n : Nat} {x : Flt × Int} (h : bad bt (ns.take n) = some x) : runAt bt ns n = .inl x := by unfold runAt; rw [h]
theorem runAt_none {bt : Told} {ns : List Int} {n : Nat} (h : bad bt (ns.take n) = none) : runAt bt ns n = .inr n := by unfold runAt; rw [h]
def lastOfL (l : List Int) : Int := match l.getLast? with
  | some s => s
  | none => -1
theorem newest_mem : ∀ {l : List Row} {k : Bs} {r : Row}, newest l k = some r → r ∈ l
  | [], _, _, h => by cases h
  | x :: l, k, r, h => by
    unfold newest at h
    split at h
    · rename_i y hy
      cases h
      exact .tail _ (newest_mem hy)
    · split at h
      · cases h; exact .head _
      · cases h
theorem ledger_place {l : List Row} {k : Bs} {a : Abt} (h : ledger l k = some a) : ∃ r ∈ l, a.place = rplc r := by
  unfold ledger at h
  cases hn : newest l k with
  | none => rw [hn] at h; cases h
  | some r => rw [hn] at h; cases h; exact ⟨r, newest_mem hn, rfl⟩
theorem rowsOf_take (bt : Told) (ns : List Int) (n : Nat) : ∀ r ∈ rowsOf bt (ns.take n), r ∈ rowsOf bt ns := fun r hr => by
  unfold rowsOf at hr ⊢
  obtain ⟨s, hs, h⟩ := List.mem_flatMap.1 hr
  exact List.mem_flatMap.2 ⟨s, List.mem_of_mem_take hs, h⟩
theorem rowsOf_le (bt : Told) (ns : List Int) (n : Nat) : (rowsOf bt (ns.take n)).length ≤ (rowsOf bt ns).length := by
  have e : rowsOf bt ns = rowsOf bt (ns.take n) ++ rowsOf bt (ns.drop n) := by
    unfold rowsOf; rw [← List.flatMap_append, List.take_append_drop]
  rw [e, List.length_append]; omega
theorem lastOfL_snoc (l : List Int) (s : Int) : lastOfL (l ++ [s]) = s := by unfold lastOfL; rw [List.getLast?_append]; rfl
end Go.Rep
namespace Go.Proofs.YtlinnpehkfbnkaaGreatDoor
open Go Go.Sl Go.Med Go.MapKept Go.RowKit
section
variable {P : Program} {w0 w : World} {L R : List HProp} {b : Nat} {ops : Array Oper} {a : Act} {Q : Exit → Act → World → Prop} {K : Act → World → Prop} {E : Prop} {dst : Option Tmp} {t ty : TypeId} {pos : String} {after : Array Edge} {y : Operand} {v : Value} {cs : Array Value}
theorem eff_box (hs : Sat w0 w L) (hy : a.eval y = v) (hcs : v.cells = cs)
    (hK : ∀ b w', Sat w0 w' (pt b (.cells cs ty (0,0)) :: L) → K (a.put dst (.pointer (some ⟨b, 0, none⟩))) w') :
    if Region.wanted ⟨dst, .box ty y, t, pos, after, none⟩ (yielded ops a.tmps) = true then Oper.wp P ⟨dst, .box ty y, t, pos, after, none⟩ a w K Q else E := by
  subst hcs
  refine eff_of rfl ?_
  have hS := hs.alloc (.cells v.cells ty)
  unfold Oper.wp execOp
  have hrun : (Instr.box ty v).run P w = .ok (.pointer (some ⟨w.heap.size, 0, none⟩)) (w.alloc (.cells v.cells ty)) := by
    simp [Instr.box, newVar, newRow, go_sem]
  simp only [hy, Sem.run_bind, Sem.run_pure, hrun, Result.andThen_ok]
  exact hK _ _ hS
end
section
variable {w0 w : World} {F R : List HProp} {sv : Value}
theorem tail_c {l : List Int} {n : Nat} (hn : n ≤ l.length) (h : Sat w0 w (osl 3 1 sv (ints l) :: R)) :
    ∃ tv, (∀ w, (Instr.sliceAt 42 sv (some (.int .i64 n)) none none).run Tryz.prog w = .ok tv w) ∧ (∃ a' c', tv = .slice a' (l.length - n) c') ∧ ∀ W, rdsl 1 sv (ints l) W → rdsl 1 tv (ints (l.drop n)) W := by
  rcases h.osl_cases with ⟨rfl, he, h'⟩ | ⟨g, k, cap, cs, rfl, hl, hk, hc, hcm, htk, hp⟩
  · obtain rfl : l = [] := by simpa [ints] using he
    obtain rfl : n = 0 := by simpa using hn
    refine ⟨.slice none 0 0, fun w => by go_simp, ⟨none, 0, rfl⟩, fun W hW => by simpa using hW⟩
  · obtain rfl : k = l.length := by simpa [ints] using hl.symm
    by_cases hce : cap = n
    · have hd : l.drop n = [] := List.drop_eq_nil_of_le (by omega)
      have e0 : l.length - n = 0 := by omega
      rw [hd, e0]
      have h1 : n ≤ cap := by omega
      have h2 : l.length = n := by omega
      refine ⟨.slice (some ⟨g, 0, none⟩) 0 0, fun w => ?_, ⟨_, _, rfl⟩, fun W hW => ⟨_, _, _, rfl, rfl, fun j x hj => by cases hj⟩⟩
      have h4 : (0 : Int) ≤ (n : Int) := by omega
      have h5 : (n : Int).toNat = n := by omega
      subst hce
      go_simp
    · refine ⟨.slice (some ⟨g, n, none⟩) (l.length - n) (cap - n), fun w => ?_, ⟨_, _, rfl⟩, fun W hW => ?_⟩
      · have h4 : (0 : Int) ≤ (n : Int) := by omega
        have h5 : (n : Int).toNat = n := by omega
        have h6 : n ≤ cap := by omega
        go_simp
      · obtain ⟨a, n', c, he, hl', hx⟩ := hW
        cases he
        refine ⟨_, _, _, rfl, by unfold ints; rw [List.length_map, List.length_drop, Nat.mul_one], fun j x hj => ⟨_, rfl, ?_⟩⟩
        have hj2 : (ints l)[n + j]? = some x := by
          unfold ints at hj ⊢
          rw [List.map_drop, List.getElem?_drop] at hj
          exact hj
        obtain ⟨ad, e, hc'⟩ := hx (n + j) x hj2
        cases e
        rw [adr_add, Nat.zero_add] at hc'
        rw [adr_add]
        exact hc'
theorem head_c {l : List Int} {n : Nat} (hn : n ≤ l.length) (h : Sat w0 w (osl 3 1 sv (ints l) :: R)) :
    ∃ a' c', (∀ w, (Instr.sliceAt 42 sv none (some (.int .i64 n)) none).run Tryz.prog w = .ok (.slice a' n c') w) ∧ ∀ W, rdsl 1 sv (ints l) W → rdsl 1 (.slice a' n c') (ints (l.take n)) W := by
  rcases h.osl_cases with ⟨rfl, he, h'⟩ | ⟨g, k, cap, cs, rfl, hl, hk, hc, hcm, htk, hp⟩
  · obtain rfl : l = [] := by simpa [ints] using he
    obtain rfl : n = 0 := by simpa using hn
    refine ⟨none, 0, fun w => by go_simp, fun W hW => by simpa using hW⟩
  · obtain rfl : k = l.length := by simpa [ints] using hl.symm
    refine ⟨some ⟨g, 0, none⟩, cap, fun w => ?_, fun W hW => ?_⟩
    · have h4 : (0 : Int) ≤ (n : Int) := by omega
      have h5 : (n : Int).toNat = n := by omega
      have h6 : n ≤ cap := by omega
      go_simp
    · obtain ⟨a, n', c, he, hl', hx⟩ := hW
      cases he
      refine ⟨_, _, _, rfl, by unfold ints; rw [List.length_map, List.length_take, Nat.mul_one]; omega, fun j x hj => ?_⟩
      refine hx j x ?_
      unfold ints at hj ⊢
      rw [List.map_take, List.getElem?_take] at hj
      split at hj
      · exact hj
      · cases hj
theorem TabMA.lists {p B : Nat} {m : Frm.Bs → Option Rep.Abt} (h : Sat w0 w (TabMA p m B :: R)) : ∃ kv, Tab.Lists m kv ∧ (∀ q ∈ kv, q.1.length = 32) ∧ kv.length ≤ B := by
  obtain ⟨t, sv', ⟨ok, is, hb⟩, hS⟩ := TabMA.open h
  have hp := List.mergeSort_perm (t.slots.filter fun x => decide (x.st = 1)) (fun a b : Tab.Slot Rep.Abt => decide (¬ b.key < a.key))
  have hw := List.pairwise_mergeSort (le := fun a b : Tab.Slot Rep.Abt => decide (¬ b.key < a.key)) (fun a b c h1 h2 => by
      rw [decide_eq_true_eq] at h1 h2 ⊢
      intro h3
      rcases Tab.bs_tri a.key b.key with q | q | q
      · exact h2 (List.lt_trans h3 q)
      · exact h2 (q ▸ h3)
      · exact h1 q) (fun a b => by
      rw [Bool.or_eq_true, decide_eq_true_eq, decide_eq_true_eq]
      by_cases q : b.key < a.key
      · exact .inr fun q2 => List.lt_irrefl _ (List.lt_trans q q2)
      · exact .inl q) (t.slots.filter fun x => decide (x.st = 1))
  obtain ⟨h1, h2⟩ := Tab.lists_of ok.good is hp (hw.imp fun {a b} q => by rwa [decide_eq_true_eq] at q)
  refine ⟨_, h1, fun q hq => ?_, ?_⟩
  · obtain ⟨x, hx, rfl⟩ := List.mem_map.1 hq
    exact (h2 x hx).2
  · rw [List.length_map, hp.length_eq, ← List.countP_eq_length_filter]
    have e : t.slots.countP (fun x => decide (x.st = 1)) = Tab.fulls t.slots := by
      unfold Tab.fulls
      refine List.countP_congr fun x _ => ?_
      simp
    have := ok.n; omega
end
section
variable {P : Program} {w0 w : World} {L R : List HProp} {ops : Array Oper} {rest : List Oper} {a : Act} {Q : Exit → Act → World → Prop} {dst : Option Tmp} {t ty e : TypeId} {pos : String} {after : Array Edge} {x y s : Operand} {sz by' : Nat} {v v1 : Value}
theorem run_slice0 (hb : appB P t e sz by' = true) (w : World) : (Instr.buildSlice t 0 #[]).run P w = .ok (.slice (some ⟨w.heap.size, 0, none⟩) 0 0) (w.alloc (.cells #[] e)) := by
  obtain ⟨hu, i, z, hi, hz, e1, e2, e3, e4⟩ := appB_spec hb
  have hsz' : (sizeOf e).run P w = .ok i.size w := by simp [sizeOf, typeInfo, hi]
  have hf : Instr.fill (fun i' => some (i' * i.size, i.size)) ((Array.range 0).map ((#[] : Array Value)[· % (#[] : Array Value).size]!)) [] = some #[] := by unfold Instr.fill; simp
  unfold Instr.buildSlice
  simp only [Sem.run_bind, run_underlying hu, Result.andThen_ok, hsz', Nat.zero_mul, if_neg (show ¬ (0 > 2 ^ 24) by omega), if_pos (show (0 : Nat) = 0 from rfl), Sem.run_pure, hf]
  simp [newRow, go_sem]
theorem at_slice0 (h : Stop (wpList P ops Q (⟨dst, .buildSlice ty 0 #[], t, pos, after, none⟩ :: rest) a w)) : wpList P ops Q (⟨dst, .buildSlice ty 0 #[], t, pos, after, none⟩ :: rest) a w := h.out
theorem wl_slice0 (hb : appB P ty e sz by' = true) (hs : Sat w0 w L)
    (hK : ∀ b w', Sat w0 w' (osl e sz (.slice (some ⟨b, 0, none⟩) 0 0) [] :: L) → wpList P ops Q rest (a.put dst (.slice (some ⟨b, 0, none⟩) 0 0)) w') : wpList P ops Q (⟨dst, .buildSlice ty 0 #[], t, pos, after, none⟩ :: rest) a w := by
  refine wpList_plain rfl fun _ hK' => ?_
  have hS := hs.alloc (.cells #[] e)
  unfold Oper.wp execOp
  simp only [List.map_toArray, List.map_nil, Sem.run_bind, Sem.run_pure, run_slice0 hb w, Result.andThen_ok]
  exact hK' _ _ (hK _ _ (Sat.osl_of_pt hS (by simp) (Nat.le_refl _) (by simp) (by decide) (by simp)))
theorem wl_appD (e : TypeId) (sz by' : Nat) {xs ys : List Value} (hb : appB P ty e sz by' = true) (hs : Sat w0 w L) (hv : a.eval s = v) (hy : a.eval y = v1) (p : Pick (osl e sz v xs) L R) (hrd : rdsl sz v1 ys w) (h1 : ∀ u ∈ ys, u.oneCell' = true)
    (h63 : xs.length + ys.length ≤ 2147483648) (hby : by' ≤ 65000)
    (hK : ∀ v' w', Sat w0 w' (osl e sz v' (xs ++ ys) :: R) → wpList P ops Q rest (a.put dst v') w') :
    wpList P ops Q (⟨dst, .call { callee := .builtin .append, args := #[s, y], argTypes := #[ty, ty] }, t, pos, after, none⟩ :: rest) a w := by
  obtain ⟨hu, i, z, hi, hz, e1, e2, e3, e4⟩ := appB_spec hb
  subst e2
  refine wpList_append (w0 := w0) rfl s y ty rfl e i z hu hi hz e1 e3 e4 hv hy h1 (hs.pick p) hrd (by unfold maxLen; omega) ?_ fun v' w' hS _ => hK v' w' hS
  calc (xs.length + ys.length) * i.bytes ≤ 2147483648 * 65000 := Nat.mul_le_mul h63 hby
    _ ≤ 140737488355328 := by decide
end
section
variable {w0 w : World} {F : List HProp} {p b n c B : Nat} {m : Frm.Bs → Option Seg.Plc} {xs : List Value}
set_option maxRecDepth 20000 in
set_option maxHeartbeats 4000000 in
theorem cloneL_c (h1 : ∀ u ∈ xs, u.oneCell' = true) (hl : xs.length ≤ 2147483648) (h : Sat w0 w (osl 230 36 (.slice (some ⟨b, 0, none⟩) n c) xs :: F)) :
    Calls Tryz.prog 157 #[.slice (some ⟨b, 0, none⟩) n c] w (Rtn fun v w' => Sat w0 w' (osl 230 36 v xs :: osl 230 36 (.slice (some ⟨b, 0, none⟩) n c) xs :: F)) := by
  have H1 := Lib.hid h1; have Hl := Lib.hid hl
  have he : ∀ w, (binOp .eql 179 (.slice (some ⟨b, 0, none⟩) n c) (.slice none 0 0)).run Tryz.prog w = .ok (.bool false) w := fun w => by first | kernel_rfl | rfl
  clear h1 hl
  go_enter Tryz.func157, Tryz.ntmps157
  go_wp2_with (first
    | ((with_reducible apply at_slice0); refine ⟨?_⟩; refine wl_slice0 (e := 230) (sz := 36) (by' := 64) (by kernel_rfl) h ?_; intro bN wN hN)
    | (with_reducible apply at_append))
  refine ⟨?_⟩
  refine wl_appD 230 36 64 (by kernel_rfl) hN (by rfl) (by rfl) pick0 (Sat.rd hN.drop) H1.out (by have := Hl.out; simp only [List.length_nil]; omega) (by decide) ?_
  intro v' w' hS
  rw [List.nil_append] at hS
  go_wp2_with fail
  go_ret
  exact ⟨_, rfl, hS⟩
theorem slots_one (s : List (Tab.Slot Seg.Plc)) : ∀ u ∈ s.flatMap (slotL penc), u.oneCell' = true := fun u hu => by
  obtain ⟨x, _, hx⟩ := List.mem_flatMap.1 hu
  have := (List.all_eq_true.1 (slotL_ones penc x (penc_ones _))) u hx
  exact this
set_option maxRecDepth 20000 in
set_option maxHeartbeats 8000000 in
theorem copyL_c (hB : B ≤ 14000000) (h : Sat w0 w (TabML p m B :: F)) :
    Calls Tryz.prog 103 #[ptr p] w (Rtn fun v w' => ∃ q, v = ptr q ∧ Sat w0 w' (TabML q m B :: TabML p m B :: F)) := by
  obtain ⟨t, sv, ⟨ok, is, hb⟩, hR⟩ := TabML.open h
  have hsz : t.slots.length ≤ 56000008 := by have := ok.size; omega
  have Hlen := Lib.hid (show ∀ x ∈ t.slots, (slotL penc x).length = 36 from fun x hx => slotL_len penc x (ok.good.key x hx) 3 (penc_len _))
  have Hp0 := Lib.hid ok.good.pos_len
  have Hxl := Lib.hid (show (t.slots.flatMap (slotL penc)).length = t.slots.length * 36 from (rows_len Hlen.out).trans (Nat.mul_comm _ _))
  obtain ⟨la, lc, rfl⟩ := osl_rows Hlen.out (Sat.rd (hR.pick pick1)) (by decide)
  obtain ⟨bs, rfl⟩ : ∃ bs, la = some ⟨bs, 0, none⟩ := by
    rcases Sat.osl_cases (hR.pick pick1) with ⟨_, he, _⟩ | ⟨b, n, cap, cs, he, _⟩
    · have := congrArg List.length he
      have := Hxl.out
      have := Hp0.out
      simp only [List.length_nil] at *; omega
    · cases he; exact ⟨b, rfl⟩
  have hok := okL_c Hp0.out hR
  have Hok := Lib.hid ok; have His := Lib.hid is; have Hb := Lib.hid hb; have Hsz := Lib.hid hsz
  clear h ok is hb hsz hB
  go_enter Tryz.func103, Tryz.ntmps103
  go_wp2_with fail
  refine hok.mono ?_
  rintro ee w1 ⟨v, rfl, rfl, rfl⟩
  clear hok
  go_wp2_with fail
  have hR1 := hR.drew
  clear hR
  refine wpL_begin [13, 14, 15] (fun w' => w'.cell? ⟨p, 0, none⟩ = some (.slice (some ⟨bs, 0, none⟩) t.slots.length lc) ∧ w'.cell? ⟨p, 1, none⟩ = some (.int .i64 t.n) ∧ w'.cell? ⟨p, 2, none⟩ = some (.int .i64 t.gone)) (by kernel_rfl) ?_
  have hG : World.cell? _ ⟨p, 0, none⟩ = some (.slice (some ⟨bs, 0, none⟩) t.slots.length lc) ∧ World.cell? _ ⟨p, 1, none⟩ = some (.int .i64 t.n) ∧ World.cell? _ ⟨p, 2, none⟩ = some (.int .i64 t.gone) := ⟨hR1.cellAt 0 _ rfl, hR1.cellAt 1 _ rfl, hR1.cellAt 2 _ rfl⟩
  refine rp 0 (hy := (yl_move evD)) (h := ?_)
  refine rp 1 (hy := (yl_nil evD)) (h := ?_)
  refine rp 2 (hy := (yl_field evD rnD)) (h := ?_)
  refine rt 3 (h := ?_)
  refine rp 5 (hy := (yl_move evD)) (h := ?_)
  refine rp 6 (hy := (yl_nil evD)) (h := ?_)
  refine rp 7 (hy := (yl_field evD rnD)) (h := ?_)
  refine rt 8 (h := ?_)
  refine rp 9 (hy := (yl_move evD)) (h := ?_)
  refine rp 10 (hy := (yl_nil evD)) (h := ?_)
  refine rp 11 (hy := (yl_field evD rnD)) (h := ?_)
  refine rt 12 (h := ?_)
  clear hG
  refine rg_eff 4 evD (by kernel_rfl) (fun K hK => ?_)
  (refine eff_call1 (by kernel_rfl) evD ?_)
  refine (cloneL_c (slots_one _) (by rw [Hxl.out]; have := Hsz.out; omega) (hR1.sb : Sat w0 _ (osl 230 36 (.slice (some ⟨bs, 0, none⟩) t.slots.length lc) (t.slots.flatMap (slotL penc)) :: tbPt p 181 (.slice (some ⟨bs, 0, none⟩) t.slots.length lc) t.n t.gone :: F))).mono ?_
  rintro ee w2 ⟨v, rfl, h2⟩
  refine hK _ _ (.inr (.inl ⟨h2.cellP pick2 0 rfl, h2.cellP pick2 1 rfl, h2.cellP pick2 2 rfl⟩)) ?_
  clear hK hR1
  obtain ⟨a2, c2, rfl⟩ := osl_rows Hlen.out (Sat.rd h2) (by decide)
  refine rp 13 (hy := (by (refine Or.inl ⟨by rfl, ?_⟩; ((intro wq; go_simp); first | done | (with_reducible rfl))))) (h := ?_)
  refine rg_eff 14 evD (by kernel_rfl) (fun K hK => ?_)
  refine eff_box (cs := #[.slice a2 t.slots.length c2, .int .i64 t.n, .int .i64 t.gone]) h2 evD evD ?_
  intro q w3 h3
  refine hK _ _ (.inl rfl) ?_
  clear hK h2
  refine rp 15 (hy := (yl_assign evD)) (h := ?_)
  refine wpL_done (by kernel_rfl) ?_
  try simp only [List.getElem_toArray, List.getElem_cons_succ, List.getElem_cons_zero]
  try go_frame
  go_wp2_with fail
  go_ret
  have h4 := TabML.shut Hok.out His.out Hb.out (h3.sb : Sat w0 w3 (tbPt p 181 (.slice (some ⟨bs, 0, none⟩) t.slots.length lc) t.n t.gone :: osl 230 36 (.slice (some ⟨bs, 0, none⟩) t.slots.length lc) (t.slots.flatMap (slotL penc)) :: tbPt q 181 (.slice a2 t.slots.length c2) t.n t.gone :: osl 230 36 (.slice a2 t.slots.length c2) (t.slots.flatMap (slotL penc)) :: F))
  exact ⟨_, rfl, q, rfl, TabML.shut Hok.out His.out Hb.out (h4.sb)⟩
set_option maxHeartbeats 2000000 in
theorem lenL_c (h : Sat w0 w (TabML p m B :: F)) :
    Calls Tryz.prog 104 #[ptr p] w (Rtn fun v w' => ∃ t : Tab.Tb Seg.Plc, (t.Ok ∧ t.Is m) ∧ v = .int .i64 t.n ∧ w = w') := by
  obtain ⟨t, sv, ⟨ok, is, hb⟩, hR⟩ := TabML.open h
  have Hlen := Lib.hid (show ∀ x ∈ t.slots, (slotL penc x).length = 36 from fun x hx => slotL_len penc x (ok.good.key x hx) 3 (penc_len _))
  obtain ⟨la, lc, rfl⟩ := osl_rows Hlen.out (Sat.rd (hR.pick pick1)) (by decide)
  have hok := okL_c ok.good.pos_len hR
  have e1 : w.cell? ⟨p, 1, none⟩ = some (.int .i64 t.n) := hR.cellAt 1 _ rfl
  have H := Lib.hid (And.intro ok is)
  clear h ok is hb hR
  go_enter Tryz.func104, Tryz.ntmps104
  go_wp2_with fail
  refine hok.mono ?_
  rintro ee w1 ⟨v, rfl, rfl, rfl⟩
  clear hok
  go_wp2_with fail
  go_ret
  exact ⟨_, rfl, t, H.out, rfl, rfl⟩
end
def RunOut (w0 : World) (F : List HProp) (bt : Rep.Told) (ns : List Int) (p m : Nat) (L : Seg.Log) (M : Med) (v : Value) (w' : World) : Prop :=
  match Rep.run bt ns with
  | .inl (fl, e) => v = .tuple #[.pointer none, .agg (fltA fl), errno e] ∧ Sat w0 w' (LogRep p m L :: MedRep m M :: F)
  | .inr n => ∃ (ps pi : Nat) (uv tv av : Value) (kv : List (Frm.Bs × Rep.Abt)), v = .tuple #[ptr ps, .agg (fltA Rep.Flt.zero), errno 0] ∧
      (Tab.Lists (Rep.ledger (Rep.rowsOf bt (ns.take n))) kv ∧ (∀ q ∈ kv, q.1.length = 32) ∧ kv.length ≤ (Rep.rowsOf bt (ns.take n)).length) ∧
      ((∃ a' c', tv = .slice a' (ns.length - n) c') ∧ ∀ W, rdsl 1 av (ints ns) W → rdsl 1 tv (ints (ns.drop n)) W) ∧
      Sat w0 w' (stPt ps (Rep.lastOfL (ns.take n)) pi uv tv :: TabML pi (Tab.mapOf (Rep.puts kv)) kv.length :: osl 121 3 uv (((Rep.usesOf bt (ns.take n)).map (Rep.upd kv)).flatMap uenc) :: osl 3 1 av (ints ns) :: LogRep p m L :: MedRep m M :: F)
section
variable {w0 w : World} {F : List HProp} {p m K : Nat} {L : Seg.Log} {M : Med}
theorem zLed : zeroB Tryz.prog 111 = some (.agg #[.pointer none]) := by kernel_rfl
set_option maxRecDepth 20000 in
set_option maxHeartbeats 16000000 in
theorem run_c (hL : L.Ok) (hM : M.Ok K) (hH : Ro w0 F Half) (hrows : (Rep.rowsOf (lbt L M) L.segs).length ≤ 12000000) (hsz : ∀ r ∈ Rep.rowsOf (lbt L M) L.segs, (r.2.size : Int) ≤ 4294967296) (h : Sat w0 w (LogRep p m L :: MedRep m M :: F)) :
    Calls Tryz.prog 11 #[ptr p] w (Rtn fun v w' => RunOut w0 F (lbt L M) L.segs p m L M v w') := by
  have Hlen := Lib.hid (show L.segs.length ≤ 1048576 from by unfold Seg.Log.segs; rw [List.length_map]; have := hL.len; omega)
  have hse := lsegs_c hL h
  have Hnn := Lib.hid (show ∀ s ∈ L.segs, 0 ≤ s from fun s hs => by
    unfold Seg.Log.segs at hs
    obtain ⟨x, hx, rfl⟩ := List.mem_map.1 hs
    exact (hL.nums x hx).1)
  have HL := Lib.hid hL; have HM := Lib.hid hM; have HH := Lib.hid hH; have Hrows := Lib.hid hrows; have Hsz := Lib.hid hsz
  clear hL hM hH hrows hsz
  go_enter Tryz.func11, Tryz.ntmps11
  go_wp2_with (with_reducible apply at_alloc)
  refine ⟨?_⟩
  refine wl_alloc zFlt h rfl ?_
  intro b3 w3 h3
  clear hse h
  go_wp2_with fail
  refine (lsegs_c HL.out (h3.pick pick1)).mono ?_
  rintro ee w4 ⟨sv, rfl, h4⟩
  have hsp := split_c HL.out HM.out (Ro.os HH.out) (h4.sb : Sat w0 w4 (osl 3 1 sv (ints L.segs) :: LogRep p m L :: MedRep m M :: pt b3 (.cells (fltA Rep.Flt.zero) 37 (0,0)) :: F))
  clear h3 h4
  go_wp2_with fail
  refine hsp.mono ?_
  rintro ee w5 ⟨v, rfl, rfl, h5⟩
  clear hsp
  by_cases h0 : (Rep.split (lbt L M) L.segs L.segs.length).2 = 0
  rotate_left
  · have hb : ((Rep.split (lbt L M) L.segs L.segs.length).2 != 0) = true := by rw [bne_iff_ne]; exact h0
    have Hf := Lib.hid (show Rep.run (lbt L M) L.segs = .inl (Rep.Flt.zero, (Rep.split (lbt L M) L.segs L.segs.length).2) by unfold Rep.run; rw [if_pos h0])
    have h6 : Sat w0 w5 (pt b3 (.cells (fltA Rep.Flt.zero) 37 (0,0)) :: LogRep p m L :: MedRep m M :: F) := h5.sb
    clear h0 h5
    go_wp2_with (first
      | ((with_reducible apply at_build0); refine ⟨?_⟩; refine wl_build0 (fun w => run_flt0 w) ?_)
      | ((with_reducible apply at_store); refine ⟨?_⟩; refine wl_storeA (fltA Rep.Flt.zero) h6 (by rfl) (by rfl) (by rfl) upd0 (by kernel_rfl) (by rfl) ?_; intro w9 h9))
    refine ⟨rfl, _, res_tct rfl h9 (by rfl) pkD Tryz.underlying37 rfl (by kernel_rfl), _, rfl, ?_⟩
    unfold RunOut
    rw [Hf.out]
    exact ⟨rfl, h9.drop⟩
  have hb : ((Rep.split (lbt L M) L.segs L.segs.length).2 != 0) = false := by rw [h0]; rfl
  have Hle := Lib.hid (Rep.split_le (lbt L M) L.segs L.segs.length)
  have Hf := Lib.hid (show Rep.run (lbt L M) L.segs = Rep.runAt (lbt L M) L.segs (Rep.split (lbt L M) L.segs L.segs.length).1 by unfold Rep.run; rw [if_neg (fun h => h h0)])
  rw [h0]
  generalize (Rep.split (lbt L M) L.segs L.segs.length).1 = n at *
  clear h0
  obtain ⟨tv, htl, ⟨ta, tc, rfl⟩, htr⟩ := tail_c Hle.out h5
  have Htr := Lib.hid htr
  clear htr
  go_wp2_with fail
  have hG : True := trivial
  have h6 := h5.drew
  clear h5
  refine wpL_begin [] (fun w' => True) (by kernel_rfl) ?_
  refine rp 1 (hy := (yl_move evD)) (h := ?_)
  refine rp 2 (hy := (yl_move evD)) (h := ?_)
  refine rp 3 (hy := (yl_slice_lo evD evD htl)) (h := ?_)
  refine rg_eff 0 evD (by kernel_rfl) (fun K hK => ?_)
  refine eff_call [] (by kernel_rfl) (by simp) ?_
  refine (newL_c h6).mono ?_
  rintro ee w7 ⟨v, rfl, pi, rfl, h7⟩
  refine hK _ _ (.inr (.inl trivial)) ?_
  clear hK h6
  refine rp 4 (hy := (by (refine Or.inl ⟨by rfl, ?_⟩; ((intro wq; go_simp); first | done | (with_reducible rfl))))) (h := ?_)
  refine rg_eff 5 evD (by kernel_rfl) (fun K hK => ?_)
  refine eff_box (cs := #[.int .i64 (-1), ptr pi, .slice none 0 0, .slice ta (L.segs.length - n) tc]) h7 evD evD ?_
  intro ps w8 h8
  refine hK _ _ (.inr (.inl trivial)) ?_
  clear hK h7
  refine rp 6 (hy := (yl_assign evD)) (h := ?_)
  refine wpL_done (by kernel_rfl) ?_
  clear hG
  go_wp2_with fail
  refine (newA_c h8).mono ?_
  rintro ee w9 ⟨v, rfl, pg, rfl, h9⟩
  clear h8
  go_wp2_with (with_reducible apply at_alloc)
  refine ⟨?_⟩
  refine wl_alloc zLed h9 rfl ?_
  intro b9 w10 h10
  clear h9
  obtain ⟨ha, hc, hhl, hhr⟩ := head_c Hle.out (h10.sb : Sat w0 w10 (osl 3 1 sv (ints L.segs) :: F))
  go_wp2_with ((with_reducible apply at_store); refine ⟨?_⟩; refine wl_store (cs' := #[ptr pg]) h10 (by rfl) evD (by rfl) upd0 (Nat.le_of_ble_eq_true (by rfl)) (by kernel_rfl) (by rfl) ?_; intro w11 h11)
  have h12 : Sat w0 w11 (stPt ps (Rep.lastOfL (L.segs.take 0)) pi (.slice none 0 0) (.slice ta (L.segs.length - n) tc) :: osl 121 3 (.slice none 0 0) ((Rep.usesOf (lbt L M) (L.segs.take 0)).flatMap uenc) :: TabML pi (fun _ => none) 0 :: pt b9 (.cells #[ptr pg] 111 (0,0)) ::
    TabMA pg (Rep.ledger (Rep.rowsOf (lbt L M) (L.segs.take 0))) (Rep.rowsOf (lbt L M) (L.segs.take 0)).length :: pt b3 (.cells (fltA Rep.Flt.zero) 37 (0,0)) :: osl 3 1 sv (ints L.segs) :: LogRep p m L :: MedRep m M :: F) := (Sat.osl_nil.2 h11).sb
  clear h10 h11 htl
  go_loopg [45] n (fun g iq wr => ∃ (i : Nat) (uv : Value), g = n - i ∧ i ≤ n ∧ iq = .int .i64 i ∧ Rep.bad (lbt L M) (L.segs.take i) = none ∧ Sat w0 wr (stPt ps (Rep.lastOfL (L.segs.take i)) pi uv (.slice ta (L.segs.length - n) tc) :: osl 121 3 uv ((Rep.usesOf (lbt L M) (L.segs.take i)).flatMap uenc) :: TabML pi (fun _ => none) 0 :: pt b9 (.cells #[ptr pg] 111 (0,0)) ::
    TabMA pg (Rep.ledger (Rep.rowsOf (lbt L M) (L.segs.take i))) (Rep.rowsOf (lbt L M) (L.segs.take i)).length :: pt b3 (.cells (fltA Rep.Flt.zero) 37 (0,0)) :: osl 3 1 sv (ints L.segs) :: LogRep p m L :: MedRep m M :: F))
  case atStart => exact ⟨0, .slice none 0 0, rfl, Nat.zero_le _, rfl, rfl, h12⟩
  case round =>
    obtain ⟨i, uv, rfl, hi, rfl, hbad, hS⟩ := hrel
    clear h12
    have Hbad := Lib.hid hbad
    clear hbad
    by_cases hlt : i < n
    rotate_left
    · obtain rfl : i = n := by omega
      have c1 : ¬ (i : Int) < (i : Int) := by omega
      obtain ⟨kv, k1, k2, k3⟩ := TabMA.lists (hS.pk (A := TabMA pg (Rep.ledger (Rep.rowsOf (lbt L M) (L.segs.take i))) (Rep.rowsOf (lbt L M) (L.segs.take i)).length))
      have k4 := Nat.le_trans (Rep.rowsOf_le (lbt L M) L.segs i) Hrows.out
      have hks : ∀ q ∈ kv, q.1.length = 32 ∧ 0 ≤ q.2.place.size ∧ q.2.place.size ≤ 4294967296 := fun q hq => by
        obtain ⟨r, hr, e⟩ := Rep.ledger_place ((k1.mem q.1 q.2).1 hq)
        rw [e]
        exact ⟨k2 q hq, Int.natCast_nonneg _, Hsz.out r (Rep.rowsOf_take _ _ _ r hr)⟩
      have hfl := fill_c (us := Rep.usesOf (lbt L M) (L.segs.take i)) k1 (by omega) (by omega) hks (by unfold Rep.usesOf; rw [List.length_map, List.length_take]; have := Hlen.out; omega)
        (hS.sb : Sat w0 wr (stPt ps (Rep.lastOfL (L.segs.take i)) pi uv (.slice ta (L.segs.length - i) tc) :: TabML pi (fun _ => none) 0 :: TabMA pg (Rep.ledger (Rep.rowsOf (lbt L M) (L.segs.take i))) (Rep.rowsOf (lbt L M) (L.segs.take i)).length ::
          osl 121 3 uv ((Rep.usesOf (lbt L M) (L.segs.take i)).flatMap uenc) :: pt b3 (.cells (fltA Rep.Flt.zero) 37 (0,0)) :: osl 3 1 sv (ints L.segs) :: LogRep p m L :: MedRep m M :: F))
      have K := Lib.hid (And.intro k1 (And.intro k2 k3))
      have Hg := Lib.hid (Hf.out.trans (Rep.runAt_none Hbad.out))
      have Htv := Lib.hid Htr.out
      clear k1 k2 k3 k4 hks hlt hi
      go_wp2_with ((with_reducible apply at_load); refine ⟨?_⟩; refine wl_loadA (cs := #[ptr pg]) hS (by rfl) (pick_there (pick_there (pick_there pick0))) Tryz.underlying111 rfl (by kernel_rfl) ?_)
      refine hfl.mono ?_
      rintro ee w14 ⟨v, rfl, h14⟩
      clear hfl hS
      go_wp2_with (first
        | ((with_reducible apply at_build0); refine ⟨?_⟩; refine wl_build0 (fun w => run_flt0 w) ?_)
        | ((with_reducible apply at_store); refine ⟨?_⟩; refine wl_storeA (fltA Rep.Flt.zero) h14 (by rfl) (by rfl) (by rfl) (upd_there (upd_there (upd_there (upd_there upd0)))) (by kernel_rfl) (by rfl) ?_; intro w15 h15))
      refine ⟨rfl, _, res_tct rfl h15 (by rfl) (pick_there (pick_there (pick_there (pick_there pick0)))) Tryz.underlying37 rfl (by kernel_rfl), _, rfl, ?_⟩
      unfold RunOut
      rw [Hg.out]
      exact ⟨ps, pi, uv, .slice ta (L.segs.length - i) tc, sv, kv, rfl, K.out, ⟨⟨ta, tc, rfl⟩, Htv.out⟩, h15.sb⟩
    have c1 : (i : Int) < (n : Int) := by omega
    have hwi : IntKind.i64.wrap ((i : Int) + 1) = (i : Int) + 1 := IntWalk.i64_in _ (by have := Hle.out; have := Hlen.out; omega)
    have hni : (L.segs.take n).length = n := by rw [List.length_take]; have := Hle.out; omega
    obtain ⟨s, hs⟩ : ∃ s, (L.segs.take n)[i]? = some s := ⟨_, List.getElem?_eq_getElem (by omega)⟩
    have hs2 : L.segs[i]? = some s := by rw [List.getElem?_take] at hs; rw [if_pos hlt] at hs; exact hs
    have Htk := Lib.hid (show L.segs.take (i + 1) = L.segs.take i ++ [s] by rw [List.take_add_one, hs2, Option.toList_some])
    have Hspl := Lib.hid (show ∃ post, L.segs.take n = L.segs.take i ++ s :: post by
      obtain ⟨h1, e⟩ := List.getElem?_eq_some_iff.1 hs
      refine ⟨(L.segs.take n).drop (i + 1), ?_⟩
      have e2 : L.segs.take i = (L.segs.take n).take i := by rw [List.take_take, Nat.min_eq_left (Nat.le_of_lt hlt)]
      rw [e2, ← e, ← List.drop_eq_getElem_cons h1, List.take_append_drop])
    have Hs0 := Lib.hid (Hnn.out s (List.mem_of_getElem? hs2))
    obtain ⟨bk, off, c', hsv, f0⟩ := ints_cell (hhr _ (Sat.rd (hS.pk (A := osl 3 1 sv (ints L.segs))))) hs
    rw [hni] at hsv
    cases hsv
    have hb := lbytes_c HL.out HM.out s (hS.sb : Sat w0 wr (LogRep p m L :: MedRep m M :: stPt ps (Rep.lastOfL (L.segs.take i)) pi uv (.slice ta (L.segs.length - n) tc) :: osl 121 3 uv ((Rep.usesOf (lbt L M) (L.segs.take i)).flatMap uenc) :: TabML pi (fun _ => none) 0 :: pt b9 (.cells #[ptr pg] 111 (0,0)) ::
      TabMA pg (Rep.ledger (Rep.rowsOf (lbt L M) (L.segs.take i))) (Rep.rowsOf (lbt L M) (L.segs.take i)).length :: pt b3 (.cells (fltA Rep.Flt.zero) 37 (0,0)) :: osl 3 1 sv (ints L.segs) :: F))
    have Hlt := Lib.hid hlt
    clear hS hs hs2 hni hlt hi
    go_wp2_with fail
    refine hb.mono ?_
    rintro ee w20 ⟨v, rfl, bv, rfl, h20⟩
    clear hb f0
    obtain ⟨hcap, ca, cc, rfl⟩ := bsl_capL h20
    by_cases h0 : (L.bytes M s).2 = 0
    rotate_left
    · have hb1 : ((L.bytes M s).2 != 0) = true := by rw [bne_iff_ne]; exact h0
      have Hg := Lib.hid (show Rep.run (lbt L M) L.segs = .inl (Rep.Flt.zero, (L.bytes M s).2) by
        rw [Hf.out]
        obtain ⟨post, e⟩ := Hspl.out
        exact Rep.runAt_bad (by rw [e]; exact Rep.bad_power Hbad.out h0))
      have h21 : Sat w0 w20 (pt b3 (.cells (fltA Rep.Flt.zero) 37 (0,0)) :: LogRep p m L :: MedRep m M :: F) := h20.sb
      clear h20 h0 hcap
      go_wp2_with (first
        | ((with_reducible apply at_build0); refine ⟨?_⟩; refine wl_build0 (fun w => run_flt0 w) ?_)
        | ((with_reducible apply at_store); refine ⟨?_⟩; refine wl_storeA (fltA Rep.Flt.zero) h21 (by rfl) (by rfl) (by rfl) upd0 (by kernel_rfl) (by rfl) ?_; intro w22 h22))
      refine ⟨rfl, _, res_tct rfl h22 (by rfl) pkD Tryz.underlying37 rfl (by kernel_rfl), _, rfl, ?_⟩
      unfold RunOut
      rw [Hg.out]
      exact ⟨rfl, h22.drop⟩
    have hb1 : ((L.bytes M s).2 != 0) = false := by rw [h0]; rfl
    have H0 := Lib.hid h0
    rw [h0]
    clear h0
    have hbl := Seg.bytes_len (L := L) HM.out s
    have hsc := fscan_c (w0 := w0) (w := w20) (L.bytes M s).1 (Ro.bsl _ _) hcap (Ro.os HH.out) (Nat.le_trans hbl (by decide)) h20
    clear hcap
    go_wp2_with fail
    refine hsc.mono ?_
    rintro ee w21 ⟨v, rfl, fs, fv, hfs, hfk, rfl, h21⟩
    clear hsc h20
    obtain ⟨fa, fc, rfl⟩ := fnds_sl hfk h21
    by_cases h1 : (Frm.scan (L.bytes M s).1).2.2 = 0
    rotate_left
    · have hb2 : ((Frm.scan (L.bytes M s).1).2.2 != 0) = true := by rw [bne_iff_ne]; exact h1
      have Hg := Lib.hid (show Rep.run (lbt L M) L.segs = .inl (Rep.fault s (Frm.scan (L.bytes M s).1).2.1, 13) by
        rw [Hf.out]
        obtain ⟨post, e⟩ := Hspl.out
        exact Rep.runAt_bad (by rw [e]; exact Rep.bad_scan Hbad.out H0.out h1))
      have h22 : Sat w0 w21 (pt b3 (.cells (fltA Rep.Flt.zero) 37 (0,0)) :: LogRep p m L :: MedRep m M :: F) := h21.sb
      clear h21 h1 hfs hfk
      go_wp2_with fail
      refine (fault_c s (Frm.scan (L.bytes M s).1).2.1 h22).mono ?_
      rintro ee w23 ⟨v, rfl, rfl, h23⟩
      clear h22
      go_wp2_with ((with_reducible apply at_store); refine ⟨?_⟩; refine wl_storeA (fltA (Rep.fault s (Frm.scan (L.bytes M s).1).2.1)) h23 (by rfl) (by rfl) (by rfl) upd0 (by kernel_rfl) (by rfl) ?_; intro w24 h24)
      refine ⟨rfl, _, res_tct rfl h24 (by rfl) pkD Tryz.underlying37 rfl (by kernel_rfl), _, rfl, ?_⟩
      unfold RunOut
      rw [Hg.out]
      exact ⟨rfl, h24.drop⟩
    have hb2 : ((Frm.scan (L.bytes M s).1).2.2 != 0) = false := by rw [h1]; rfl
    have H1 := Lib.hid h1
    rw [h1]
    clear h1
    have h22 : Sat w0 w21 (TabMA pg (Rep.ledger (Rep.rowsOf (lbt L M) (L.segs.take i) ++ (fs.take 0).map fun q => (s, q.1))) ((Rep.rowsOf (lbt L M) (L.segs.take i)).length + 0) :: stPt ps (Rep.lastOfL (L.segs.take i)) pi uv (.slice ta (L.segs.length - n) tc) :: osl 121 3 uv ((Rep.usesOf (lbt L M) (L.segs.take i)).flatMap uenc) :: TabML pi (fun _ => none) 0 :: pt b9 (.cells #[ptr pg] 111 (0,0)) ::
      pt b3 (.cells (fltA Rep.Flt.zero) 37 (0,0)) :: osl 3 1 sv (ints L.segs) :: LogRep p m L :: MedRep m M :: osl 118 36 (.slice fa fs.length fc) (fndsL fs) :: dataF fs :: F) := by
      have q : Sat w0 w21 (TabMA pg (Rep.ledger (Rep.rowsOf (lbt L M) (L.segs.take i))) (Rep.rowsOf (lbt L M) (L.segs.take i)).length :: stPt ps (Rep.lastOfL (L.segs.take i)) pi uv (.slice ta (L.segs.length - n) tc) :: osl 121 3 uv ((Rep.usesOf (lbt L M) (L.segs.take i)).flatMap uenc) :: TabML pi (fun _ => none) 0 :: pt b9 (.cells #[ptr pg] 111 (0,0)) ::
      pt b3 (.cells (fltA Rep.Flt.zero) 37 (0,0)) :: osl 3 1 sv (ints L.segs) :: LogRep p m L :: MedRep m M :: osl 118 36 (.slice fa fs.length fc) (fndsL fs) :: dataF fs :: F) := h21.sb
      rw [List.take_zero, List.map_nil, List.append_nil, Nat.add_zero]
      exact q
    have Hcnt := Lib.hid (show (Rep.rowsOf (lbt L M) (L.segs.take i)).length + fs.length ≤ 12000000 by
      have q1 := Rep.rowsOf_le (lbt L M) L.segs (i + 1)
      rw [Htk.out, Rep.rowsOf_snoc, List.length_append, List.length_map, show (Frm.scan (lbt L M s).1).1 = fs.map (·.1) from hfs.symm, List.length_map] at q1
      exact Nat.le_trans q1 Hrows.out)
    have hfl : fs.length ≤ 16777216 := by
      have := Frm.scan_count (L.bytes M s).1
      rw [← hfs, List.length_map] at this; omega
    have Hfl := Lib.hid hfl; have Hfs := Lib.hid hfs; have Hfk := Lib.hid hfk
    clear h21 hbl hfs hfk
    go_wp2_with fail
    go_loopg [72] fs.length (fun g jq wr => ∃ j : Nat, g = fs.length - j ∧ j ≤ fs.length ∧ jq = .int .i64 j ∧ Sat w0 wr (TabMA pg (Rep.ledger (Rep.rowsOf (lbt L M) (L.segs.take i) ++ (fs.take j).map fun q => (s, q.1))) ((Rep.rowsOf (lbt L M) (L.segs.take i)).length + j) :: stPt ps (Rep.lastOfL (L.segs.take i)) pi uv (.slice ta (L.segs.length - n) tc) :: osl 121 3 uv ((Rep.usesOf (lbt L M) (L.segs.take i)).flatMap uenc) :: TabML pi (fun _ => none) 0 :: pt b9 (.cells #[ptr pg] 111 (0,0)) ::
      pt b3 (.cells (fltA Rep.Flt.zero) 37 (0,0)) :: osl 3 1 sv (ints L.segs) :: LogRep p m L :: MedRep m M :: osl 118 36 (.slice fa fs.length fc) (fndsL fs) :: dataF fs :: F))
    case atStart => exact ⟨0, rfl, Nat.zero_le _, rfl, h22⟩
    case round =>
      obtain ⟨j, rfl, hj, rfl, hS⟩ := hrel
      clear h22
      by_cases hjl : j < fs.length
      rotate_left
      · obtain rfl : j = fs.length := by omega
        have d1 : ¬ (fs.length : Int) < (fs.length : Int) := by omega
        rw [List.take_length] at hS
        clear hjl hj
        have hul : ((Rep.usesOf (lbt L M) (L.segs.take i)).flatMap uenc).length ≤ 2147483648 := by
          rw [rows_len (k := 3) fun u _ => rfl]
          unfold Rep.usesOf
          rw [List.length_map, List.length_take]
          have := Hlen.out; omega
        go_wp2_with (first
          | ((with_reducible apply at_store); refine ⟨?_⟩; refine wl_store (cs' := #[.int .i64 s, ptr pi, uv, .slice ta (L.segs.length - n) tc]) hS (by rfl) evD (by rfl) (upd_there upd0) (Nat.le_of_ble_eq_true (by rfl)) (by kernel_rfl) (by rfl) ?_; intro w40 h40)
          | ((with_reducible apply at_load); refine ⟨?_⟩; refine wl_load1 h40 (by rfl) (pick_there pick0) (Nat.le_of_ble_eq_true (by rfl)) evD (by kernel_rfl) ?_)
          | (with_reducible apply at_build1))
        refine ⟨?_⟩
        refine wl_build1 (e := 121) (sz := 3) (by' := 24) (by kernel_rfl) h40 (by rfl) (cs := #[.int .i64 s, .int .i64 ((L.bytes M s).1.length : Nat), .int .i64 0]) rfl rfl (by decide) ?_
        intro b41 w41 h41
        go_wp2_with (with_reducible apply at_append)
        refine ⟨?_⟩
        refine wl_app 121 3 24 (by kernel_rfl) h41 (by rfl) (by rfl) (pick_there (pick_there (pick_there pick0))) pick0 rfl (Nat.le_refl 1) (by rfl) hul (by show 3 ≤ 65536; decide) (by decide) rfl ?_
        intro bA nA cA w42 h42
        go_wp2_with ((with_reducible apply at_store); refine ⟨?_⟩; refine wl_store (cs' := #[.int .i64 s, ptr pi, .slice (some ⟨bA, 0, none⟩) nA cA, .slice ta (L.segs.length - n) tc]) h42 (by rfl) evD (by rfl) (upd_there (upd_there upd0)) (Nat.le_of_ble_eq_true (by rfl)) (by kernel_rfl) (by rfl) ?_; intro w43 h43)
        have h44 : Sat w0 w43 (stPt ps (Rep.lastOfL (L.segs.take (i + 1))) pi (.slice (some ⟨bA, 0, none⟩) nA cA) (.slice ta (L.segs.length - n) tc) :: osl 121 3 (.slice (some ⟨bA, 0, none⟩) nA cA) ((Rep.usesOf (lbt L M) (L.segs.take (i + 1))).flatMap uenc) :: TabML pi (fun _ => none) 0 :: pt b9 (.cells #[ptr pg] 111 (0,0)) ::
          TabMA pg (Rep.ledger (Rep.rowsOf (lbt L M) (L.segs.take (i + 1)))) (Rep.rowsOf (lbt L M) (L.segs.take (i + 1))).length :: pt b3 (.cells (fltA Rep.Flt.zero) 37 (0,0)) :: osl 3 1 sv (ints L.segs) :: LogRep p m L :: MedRep m M :: F) := by
          rw [Htk.out, Rep.lastOfL_snoc, Rep.usesOf_snoc, Rep.rowsOf_snoc, List.length_append, List.length_map, show (Frm.scan (lbt L M s).1).1 = fs.map (·.1) from Hfs.out.symm, List.length_map, List.map_map, List.flatMap_append]
          exact h43.sb
        clear h40 h41 h42 h43 hS
        go_roundg (n - (i + 1))
        case measure => have := Hlt.out; omega
        case rel => exact ⟨i + 1, .slice (some ⟨bA, 0, none⟩) nA cA, rfl, Hlt.out, by first | rfl | go_num, by rw [Htk.out]; exact Rep.bad_none Hbad.out H0.out H1.out, h44⟩
      have d1 : (j : Int) < (fs.length : Int) := by omega
      have hwj : IntKind.i64.wrap ((j : Int) + 1) = (j : Int) + 1 := IntWalk.i64_in _ (by omega)
      obtain ⟨⟨f, dv⟩, hq⟩ : ∃ q, fs[j]? = some q := ⟨_, List.getElem?_eq_getElem hjl⟩
      have hkf : f.e.key.length = 32 := Hfk.out _ (List.mem_of_getElem? hq)
      obtain ⟨da, dn, dc, rfl, _, _⟩ := dataF_ro hq wr (hS.pk (A := dataF fs))
      obtain ⟨bk2, off2, c2, e2, hcell⟩ := osl_row (f := fun q : Frm.Fnd × Value => fndL q.1 q.2) (k := 36) (fun q hq => fndL_len q.1 q.2 (Hfk.out q hq)) (Sat.rd (hS.pk (A := osl 118 36 (.slice fa fs.length fc) (fndsL fs)))) hq (by decide)
      cases e2
      have hl36 : (fndL f (.slice da dn dc)).length = 36 := fndL_len _ _ hkf
      have Htj := Lib.hid (show (fs.take (j + 1)).map (fun q => (s, q.1)) = (fs.take j).map (fun q => (s, q.1)) ++ [(s, f)] by rw [List.take_add_one, hq, Option.toList_some, List.map_append]; rfl)
      have Hjl := Lib.hid hjl; have Hkf := Lib.hid hkf
      clear hq hkf hj
      go_wp2_with (first
        | ((with_reducible apply at_load); refine ⟨?_⟩; refine wl_loadW (b := bk2) (o := off2 + j * 36) (fndL f (.slice da dn dc)) (by rfl) hcell Tryz.underlying118 rfl (by rw [hl36]; kernel_rfl) ?_)
        | (with_reducible apply at_alloc))
      refine ⟨?_⟩
      refine wl_alloc zFnd hS rfl ?_
      intro b17 w30 h30
      go_wp2_with (first
        | ((with_reducible apply at_store); refine ⟨?_⟩; refine wl_storeA (fndA f (.slice da dn dc)) h30 (by rfl) (by rfl) (by rw [fndA_size _ _ Hkf.out]; rfl) upd0 (by rw [fndA_size _ _ Hkf.out]; kernel_rfl) (fndA_ones _ _ _ _) ?_; intro w31 h31)
        | ((with_reducible apply at_load); refine ⟨?_⟩; refine wl_loadA (cs := fndA f (.slice da dn dc)) h31 (by rfl) pick0 Tryz.underlying118 rfl (by rw [fndA_size _ _ Hkf.out]; kernel_rfl) ?_)
        | ((with_reducible apply at_load); refine ⟨?_⟩; refine wl_loadA (cs := #[ptr pg]) h31 (by rfl) (pick_there (pick_there (pick_there (pick_there (pick_there pick0))))) Tryz.underlying111 rfl (by kernel_rfl) ?_))
      have hrl := Rep.rowsOf_le (lbt L M) L.segs i
      refine (take_c (p := pg) s f Hkf.out (by have := Hrows.out; have := Hfl.out; have := Hjl.out; have := Hcnt.out; omega) (h31.pick pick1)).mono ?_
      rintro ee w32 ⟨v, rfl, h32⟩
      clear h30 h31 hS hcell
      have hnn : ∀ x ∈ Rep.rowsOf (lbt L M) (L.segs.take i) ++ (fs.take j).map (fun q => (s, q.1)), 0 ≤ x.1 := fun x hx => by
        rcases List.mem_append.1 hx with hx | hx
        · unfold Rep.rowsOf at hx
          obtain ⟨u, hu, hx⟩ := List.mem_flatMap.1 hx
          obtain ⟨g, _, rfl⟩ := List.mem_map.1 hx
          exact Hnn.out u (List.mem_of_mem_take hu)
        · obtain ⟨g, _, rfl⟩ := List.mem_map.1 hx
          exact Hs0.out
      rw [← Rep.ledger_snoc _ _ hnn, List.append_assoc, ← Htj.out] at h32
      clear hnn
      go_wp2_with fail
      go_roundg (fs.length - (j + 1))
      case measure => have := Hjl.out; omega
      case rel => exact ⟨j + 1, rfl, Hjl.out, by first | rfl | go_num, h32.sb⟩
end
end Go.Proofs.YtlinnpehkfbnkaaGreatDoor
namespace Go.Frm
end Go.Frm
namespace Go.Rep
open Go.Frm (Bs Fnd)
open Go.Seg (Plc)
open Go.Tab
def uAt (l : List Row) (us : List Use) (i : Nat) : List Use := us.map fun u => ⟨u.seg, u.size, u.live + live l u.seg i⟩
end Go.Rep
namespace Go.Seg
open Go.Med
def Log.rbegin1 (L : Log) (D : Med) (b : Bs) : (Log × Med) × Plc × Int :=
  if 1048576 ≤ L.next then ((L, D), Plc.zero, 16)
  else if (D.create (name L.next)).2 ≠ 0 then ((L, (D.create (name L.next)).1), Plc.zero, (D.create (name L.next)).2)
  else if ((D.create (name L.next)).1.append (name L.next) (mag ++ b)).2 = 0 then
    (({ L with l := L.l ++ [(L.next, 8 + (b.length : Int))], on := true, fresh := L.fresh + 1 }, ((D.create (name L.next)).1.append (name L.next) (mag ++ b)).1), ⟨L.next, 8, b.length⟩, 0)
  else if ((D.create (name L.next)).1.append (name L.next) (mag ++ b)).2 = 11 then
    ((L, (((D.create (name L.next)).1.append (name L.next) (mag ++ b)).1.rmove (name L.next) ByteArray.empty true).1), Plc.zero,
      if (((D.create (name L.next)).1.append (name L.next) (mag ++ b)).1.rmove (name L.next) ByteArray.empty true).2 = 12 then 12 else 11)
  else ((L, ((D.create (name L.next)).1.append (name L.next) (mag ++ b)).1), Plc.zero, ((D.create (name L.next)).1.append (name L.next) (mag ++ b)).2)
def Log.rbegin (L : Log) (D : Med) (b : Bs) : (Log × Med) × Plc × Int :=
  if (L.shut D).2 = 0 then (L.shut D).1.1.rbegin1 (L.shut D).1.2 b else ((L.shut D).1, Plc.zero, (L.shut D).2)
def Log.rappend (L : Log) (D : Med) (x : Frm.Ent) : (Log × Med) × Plc × Int :=
  if (Frm.encode x).2 ≠ 0 then ((L, D), Plc.zero, (Frm.encode x).2)
  else if L.fits (Frm.encode x).1.length = true then L.grow D (Frm.encode x).1 else L.rbegin D (Frm.encode x).1
def Log.rcommit (L : Log) (M : Med) : (Log × Med) × Int × Int :=
  if (L.rappend M comEnt).2.2 ≠ 0 then ((L.rappend M comEnt).1, 0, (L.rappend M comEnt).2.2)
  else if ((L.rappend M comEnt).1.2.sync (name (L.rappend M comEnt).2.1.seg)).2 ≠ 0 then (((L.rappend M comEnt).1.1, ((L.rappend M comEnt).1.2.sync (name (L.rappend M comEnt).2.1.seg)).1), 0, ((L.rappend M comEnt).1.2.sync (name (L.rappend M comEnt).2.1.seg)).2)
  else if (((L.rappend M comEnt).1.2.sync (name (L.rappend M comEnt).2.1.seg)).1.syncDir).2 ≠ 0 then (((L.rappend M comEnt).1.1, (((L.rappend M comEnt).1.2.sync (name (L.rappend M comEnt).2.1.seg)).1.syncDir).1), 0, (((L.rappend M comEnt).1.2.sync (name (L.rappend M comEnt).2.1.seg)).1.syncDir).2)
  else (({ (L.rappend M comEnt).1.1 with on := false, fresh := 0 }, (((L.rappend M comEnt).1.2.sync (name (L.rappend M comEnt).2.1.seg)).1.syncDir).1), (L.rappend M comEnt).2.1.seg, 0)
def Log.rremove (L : Log) (D : Med) (n : Int) : (Log × Med) × Int :=
  match L.at n with
  | none => ((L, D), 9)
  | some i => if (D.rmove (name n) ByteArray.empty true).2 = 0 then ((L.without i, (D.rmove (name n) ByteArray.empty true).1), 0) else ((L, (D.rmove (name n) ByteArray.empty true).1), (D.rmove (name n) ByteArray.empty true).2)
def Agree {α : Type} (r q : (Log × Med) × α) : Prop := r.1.1 = q.1.1 ∧ r.2 = q.2 ∧ ∃ φ V, Side φ V r.1.2 q.1.2
section
variable {φ : Nat → Nat} {V : Nat → Prop} {M D : Med} {K : Nat} {L : Log}
end
end Go.Seg
namespace Go.Seg
open Go.Med
structure Fit (K : Nat) (D : Med) : Prop where
  ok : D.Ok K
  small : D.Small
  files : D.files.length ≤ 500 + K
section
variable {φ : Nat → Nat} {V : Nat → Prop} {M D : Med} {K : Nat} {L : Log}
theorem Fit.new (K r : Nat) (h : r ≤ 16777216) : Fit K (new r) := ⟨Med.Ok.new K r h, (fun f hf => by cases hf), Nat.zero_le _⟩
def Log.rback : Nat → Log → Med → (Log × Med) × Int
  | 0, L, M => (({ L with on := false }, M), 0)
  | k + 1, L, M =>
    match L.l.getLast? with
    | none => (({ L with on := false }, M), 0)
    | some s => if (L.rremove M s.1).2 = 0 then Log.rback k (L.rremove M s.1).1.1 (L.rremove M s.1).1.2 else L.rremove M s.1
def Log.rrollback (L : Log) (M : Med) : (Log × Med) × Int := L.rback L.fresh.toNat M
end
end Go.Seg
namespace Go.Frm
def bst (x : Nat) : Nat := (x / 2) ^^^ (if x % 2 = 1 then 3988292384 else 0)
def bitIn (x c k : Nat) : Nat := if x % 2 ≠ c / 2 ^ k % 2 then (x / 2) ^^^ 3988292384 else x / 2
def bitsIn (x c : Nat) : Nat → Nat
  | 0 => x
  | k + 1 => bitIn (bitsIn x c k) c k
end Go.Frm
namespace Go.Proofs.YtlinnpehkfbnkaaGreatDoor
open Go Go.Sl Go.Med Go.MapKept Go.RowKit
section
variable {w0 w : World} {F : List HProp} {v bv : Value}
end
end Go.Proofs.YtlinnpehkfbnkaaGreatDoor
namespace Go.Frm
end Go.Frm
namespace Go.Proofs.YtlinnpehkfbnkaaGreatDoor
open Go Go.Sl Go.Med Go.MapKept Go.RowKit
section
variable {w0 w : World} {F : List HProp} {v bv : Value}
end
section
variable {w0 w : World} {F R : List HProp} {d : Nat} {D : Med} {fsv fv nv wv v lv : Value} {xs : List RF} {g : Bag} {K : Nat}
end
section
variable {w0 w : World} {F R : List HProp} {d : Nat} {D : Med} {fsv fv nv wv v lv : Value} {xs : List RF} {g : Bag} {K : Nat}
section
variable {ops : Array Oper} {rest : List Oper} {a : Act} {Q : Exit → Act → World → Prop} {dst : Option Tmp} {t : Nat} {pos : String} {after : Array Edge} {s y : Operand} {x : Value} {l k : Bs} {K : Act → World → Prop} {E : Prop}
end
end
section
variable {P : Program} {w0 w : World} {L L' : List HProp} {b o : Nat} {ops : Array Oper} {rest : List Oper} {a : Act} {Q : Exit → Act → World → Prop} {dst : Option Tmp} {t ty T sz n c : Nat} {pos : String} {after : Array Edge} {x y : Operand} {v : Value} {xs : List Value} {K : Act → World → Prop} {E : Prop}
end
section
variable {w0 w : World} {F R : List HProp} {d i : Nat} {D : Med} {fsv fv nv wv v lv bv : Value} {xs : List RF} {x : RF} {g : Bag} {K : Nat}
theorem DskIn.step (h : DskIn D fv nv xs g) : DskIn D.step.1 fv nv xs g := ⟨by rw [step_files]; exact h.files, h.ok, by rw [step_fast]; exact h.fast, by rw [step_now]; exact h.now⟩
end
section
variable {P : Program} {w0 w : World} {F R : List HProp} {ops : Array Oper} {rest : List Oper} {a : Act} {Q : Exit → Act → World → Prop} {dst : Option Tmp} {t ty T b o : Nat} {pos : String} {after : Array Edge} {x : Operand} {cs : Array Value} {g : Nat × Bool}
end
section
variable {w0 w : World} {F R : List HProp} {bE : Nat} {e : Frm.Ent} {dv : Value}
end
section
variable {w0 w : World} {F R : List HProp} {bE : Nat} {e : Frm.Ent} {dv : Value}
end
section
variable {w0 w : World} {F R : List HProp} {bE : Nat} {e : Frm.Ent} {dv : Value}
end
section
variable {w0 w : World} {F R : List HProp} {bE : Nat} {e : Frm.Ent} {dv : Value}
end
section
variable {w0 w : World} {F R : List HProp} {d : Nat} {D : Med} {fsv fv nv wv v lv bv : Value} {xs : List RF} {g : Bag} {K : Nat}
end
section
variable {w0 w : World} {F R : List HProp} {d : Nat} {D : Med} {fsv fv nv wv v lv bv : Value} {xs : List RF} {g : Bag} {K : Nat}
end
section
variable {P : Program} {w0 w : World} {L L' : List HProp} {b o : Nat} {ops : Array Oper} {a : Act} {Q : Exit → Act → World → Prop} {dst : Option Tmp} {t ty T : TypeId} {pos : String} {after : Array Edge} {x y : Operand} {cs : Array Value} {v : Value} {K : Act → World → Prop} {E : Prop}
theorem eff_alloc (hz : zeroB P ty = some v) (hs : Sat w0 w L) (hcs : v.cells = cs)
    (hK : ∀ b w', Sat w0 w' (pt b (.cells cs ty (0,0)) :: L) → K (a.put dst (.pointer (some ⟨b, 0, none⟩))) w') :
    if Region.wanted ⟨dst, .alloc ty, t, pos, after, none⟩ (yielded ops a.tmps) = true then Oper.wp P ⟨dst, .alloc ty, t, pos, after, none⟩ a w K Q else E := by
  subst hcs
  refine eff_of rfl ?_
  have hS := hs.alloc (.cells v.cells ty)
  unfold Oper.wp execOp
  have hrun : (Instr.alloc ty true (.tuple #[])).run P w = .ok (.pointer (some ⟨w.heap.size, 0, none⟩)) (w.alloc (.cells v.cells ty)) := by
    simp [Instr.alloc, run_zeroB hz w, newVar, newRow, go_sem, Result.andThen]
  simp only [Sem.run_bind, Sem.run_pure, hrun, Result.andThen_ok]
  exact hK _ _ hS
end
section
variable {w0 w : World} {F R : List HProp} {d i : Nat} {D : Med} {fsv fv nv wv v lv bv : Value} {xs : List RF} {x : RF} {g : Bag} {K : Nat}
section
variable {P : Program} {b o : Nat} {ops : Array Oper} {rest : List Oper} {a : Act} {Q : Exit → Act → World → Prop} {dst : Option Tmp} {t ty : Nat} {pos : String} {after : Array Edge} {y : Operand}
end
end
section
variable {w0 w : World} {F R : List HProp} {v bv dv x lv : Value}
def keyTo (kk : Bs) (i : Nat) : Bs := kk.take i ++ Frm.zero32.drop i
end
section
variable {w0 w : World} {F R : List HProp} {v bv dv x lv : Value}
end
section
variable {w0 w : World} {F R : List HProp} {v bv dv x lv : Value}
end
section
variable {w0 w : World} {F R : List HProp} {v bv dv x lv : Value}
end
section
variable {w0 w : World} {F R : List HProp} {v bv dv x lv : Value}
end
section
variable {w0 w : World} {F R : List HProp} {v bv dv x lv : Value}
end
end Go.Proofs.YtlinnpehkfbnkaaGreatDoor
namespace Go.Seg
end Go.Seg
namespace Go.Proofs.YtlinnpehkfbnkaaGreatDoor
open Go Go.Sl Go.Med Go.MapKept Go.RowKit
section
variable {w0 w : World} {F R : List HProp} {p d : Nat} {L : Seg.Log} {lv v : Value} {D : Med} {K : Nat}
end
section
variable {P : Program} {w0 w : World} {F R : List HProp} {e : TypeId} {ops : Array Oper} {a : Act} {Q : Exit → Act → World → Prop} {dst : Option Tmp} {ty : TypeId} {t : Nat} {pos : String} {after : Array Edge} {s y : Operand} {v x : Value} {xs ys : List Value} {K : Act → World → Prop} {E : Prop}
end
section
variable {w0 w : World} {F R : List HProp} {p d : Nat} {L : Seg.Log} {lv v : Value} {D : Med} {K : Nat}
end
end Go.Proofs.YtlinnpehkfbnkaaGreatDoor
namespace Go.Seg
open Go.Med
end Go.Seg
namespace Go.Seg
end Go.Seg
namespace Go.Proofs.YtlinnpehkfbnkaaGreatDoor
open Go Go.Sl Go.Med Go.MapKept Go.RowKit
section
variable {w0 w : World} {F R : List HProp} {p d q : Nat} {L : Seg.Log} {lv v bv : Value} {D : Med} {K : Nat}
end
end Go.Proofs.YtlinnpehkfbnkaaGreatDoor
namespace Go.Seg
open Go.Med
end Go.Seg
namespace Go.Proofs.YtlinnpehkfbnkaaGreatDoor
open Go Go.Sl Go.Med Go.MapKept Go.RowKit
section
variable {w0 w : World} {F R : List HProp} {p d q : Nat} {L : Seg.Log} {lv v bv : Value} {D : Med} {K : Nat} {s : Int × Int}
end
section
variable {w0 w : World} {F R : List HProp} {p d q : Nat} {L : Seg.Log} {lv v bv : Value} {M : Med} {K : Nat}
end
end Go.Proofs.YtlinnpehkfbnkaaGreatDoor
namespace Go.Seg
open Go.Med
end Go.Seg
namespace Go.Proofs.YtlinnpehkfbnkaaGreatDoor
open Go Go.Sl Go.Med Go.MapKept Go.RowKit
section
variable {w0 w : World} {F R : List HProp} {p d q : Nat} {L : Seg.Log} {lv v bv : Value} {M : Med} {K : Nat} {s : Int × Int}
end
end Go.Proofs.YtlinnpehkfbnkaaGreatDoor
namespace Go.Seg
open Go.Med
section
variable {K K' : Nat} {M M' : Med} {L : Log} {s t : ByteArray} {i : Nat} {sure opn : List (Plc × Frm.Ent)}
theorem app_lt : ∀ (x y u v : Bs), x.length = y.length → x < y → x ++ u < y ++ v
  | [], [], _, _, _, h => absurd h (List.not_lt_nil [])
  | [], _ :: _, _, _, h, _ => by simp at h
  | _ :: _, [], _, _, h, _ => by simp at h
  | a :: x, b :: y, u, v, hl, h => by
    rw [List.cons_append, List.cons_append, List.cons_lt_cons_iff]
    rcases List.cons_lt_cons_iff.1 h with h1 | ⟨e, h1⟩
    · exact .inl h1
    · exact .inr ⟨e, app_lt x y u v (by simpa using hl) h1⟩
theorem app_lt_r : ∀ (x u v : Bs), u < v → x ++ u < x ++ v
  | [], _, _, h => h
  | a :: x, u, v, h => by
    rw [List.cons_append, List.cons_append, List.cons_lt_cons_iff]
    exact .inr ⟨rfl, app_lt_r x u v h⟩
theorem digs_lt : ∀ (k a b : Nat), a < b → b < 10 ^ k → digs a k < digs b k
  | 0, a, b, h, hb => by simp at hb; omega
  | k + 1, a, b, h, hb => by
    show digs (a / 10) k ++ [UInt8.ofNat (48 + a % 10)] < digs (b / 10) k ++ [UInt8.ofNat (48 + b % 10)]
    have hb' : b / 10 < 10 ^ k := by rw [Nat.div_lt_iff_lt_mul (by omega)]; rw [Nat.pow_succ] at hb; exact hb
    rcases Nat.lt_or_ge (a / 10) (b / 10) with q | q
    · exact app_lt _ _ _ _ (by rw [digs_len, digs_len]) (digs_lt k _ _ q hb')
    · have e : a / 10 = b / 10 := by omega
      rw [e]
      refine app_lt_r _ _ _ ?_
      rw [List.cons_lt_cons_iff]
      left
      rw [UInt8.lt_iff_toNat_lt, UInt8.toNat_ofNat', UInt8.toNat_ofNat']
      omega
theorem name_lt {a b : Int} (h1 : 0 ≤ a) (h2 : a < b) (h3 : b < 1048576) : lt (name a) (name b) = true := by
  unfold name
  rw [if_neg (by omega), if_neg (by omega)]
  unfold lt
  rw [decide_eq_true_eq]
  show lead ++ digs a.toNat 8 < lead ++ digs b.toNat 8
  exact app_lt_r _ _ _ (digs_lt 8 _ _ (by omega) (by omega))
theorem number_is {s : ByteArray} (h : (number s).2 = true) : 0 ≤ (number s).1 ∧ (number s).1 < 1048576 ∧ name (number s).1 = s := by
  unfold number at h ⊢
  dsimp only at h ⊢
  split at h
  · rename_i hc
    rw [if_pos hc]
    obtain ⟨c1, c2, c3, c4⟩ := hc
    refine ⟨by simp only; omega, by simp only; omega, ?_⟩
    simp only
    unfold name
    rw [if_neg (by omega)]
    have hl : (s.data.toList.drop 4).length = 8 := by
      have : s.data.toList.length = 12 := by first | exact c1 | (rw [Array.length_toList]; exact c1)
      rw [List.length_drop, this]
    have hd := digs_val (s.data.toList.drop 4) c3
    rw [hl] at hd
    have e : lead ++ digs (Int.toNat ((val (s.data.toList.drop 4) : Nat) : Int)) 8 = s.data.toList := by
      rw [Int.toNat_natCast, hd, ← c2, List.take_append_drop]
    rw [e]
  · cases h
theorem found_mem {l : List ByteArray} {x : Int × Int} (h : x ∈ found M l) : ∃ t ∈ l, (number t).2 = true ∧ x = ((number t).1, (M.size t).1) := by
  unfold found at h
  obtain ⟨t, ht, he⟩ := List.mem_filterMap.1 h
  split at he
  · rename_i hn; exact ⟨t, ht, hn, (Option.some.inj he).symm⟩
  · cases he
theorem found_rise : ∀ (l : List ByteArray), l.Pairwise (fun a b => lt a b = true) → ((found M l).map (·.1)).Pairwise (· < ·)
  | [], _ => List.Pairwise.nil
  | t :: l, h => by
    obtain ⟨h1, h2⟩ := List.pairwise_cons.1 h
    have ih := found_rise l h2
    by_cases hn : (number t).2 = true
    · have e : found M (t :: l) = ((number t).1, (M.size t).1) :: found M l := by unfold found; rw [List.filterMap_cons]; simp [hn]
      rw [e, List.map_cons, List.pairwise_cons]
      refine ⟨fun x hx => ?_, ih⟩
      obtain ⟨y, hy, rfl⟩ := List.mem_map.1 hx
      obtain ⟨u, hu, hun, rfl⟩ := found_mem hy
      have hlt := h1 u hu
      obtain ⟨a1, a2, a3⟩ := number_is hn
      obtain ⟨b1, b2, b3⟩ := number_is hun
      rcases Int.lt_or_le (number t).1 (number u).1 with q | q
      · exact q
      · exfalso
        rcases Int.lt_or_eq_of_le q with q | q
        · have h3 := name_lt b1 q a2
          rw [a3, b3] at h3
          have := lt_trans hlt h3
          rw [lt_irrefl] at this; cases this
        · rw [← a3, ← q, b3, lt_irrefl] at hlt; cases hlt
    · have e : found M (t :: l) = found M l := by unfold found; rw [List.filterMap_cons]; simp [hn]
      rw [e]; exact ih
theorem fresh_ok (ok : M.Ok K) (limit : Int) (h1 : 128 ≤ limit) (h2 : limit ≤ 1048576) : (fresh M limit).Ok := by
  refine ⟨⟨h1, h2⟩, ?_, fun x hx => ?_, fun x hx => ?_, ⟨Int.le_refl _, by simp [fresh]⟩, fun hh => by cases hh⟩
  · refine found_rise M.list ?_
    unfold Med.list
    split
    · exact List.Pairwise.nil
    · rw [List.pairwise_map]; exact ok.nowOk.srt
  · obtain ⟨t, _, hn, rfl⟩ := found_mem hx
    have := number_is hn
    exact ⟨this.1, this.2.1⟩
  · obtain ⟨t, _, hn, rfl⟩ := found_mem hx
    unfold Med.size
    split
    · simp
    split
    · simp
    · have := (ok.file ‹Nat›).now_len
      simp only
      omega
end
end Go.Seg
namespace Go.Seg
open Go.Med
section
variable {φ : Nat → Nat} {V : Nat → Prop} {M D : Med} {K : Nat} {L : Log}
end
structure Two (i : Nat) (L : Log) (M D : Med) : Prop where
  log : L.Ok
  ok : M.Ok (i * 2000)
  fit : Fit (i * 2000) D
  side : ∃ φ V, Side φ V M D
  fresh : L.fresh ≤ i
structure Step {α : Type} (i : Nat) (a b : (Log × Med) × α) : Prop where
  log : b.1.1 = a.1.1
  res : b.2 = a.2
  two : Two i a.1.1 a.1.2 b.1.2
section
variable {i : Nat} {M D : Med} {L : Log}
theorem Two.first (r : Nat) (hr : r ≤ 16777216) (limit : Int) (h1 : 128 ≤ limit) (h2 : limit ≤ 1048576) : Two 0 (Seg.fresh (new r) limit) (new r) (new r) :=
  ⟨fresh_ok (Med.Ok.new 0 r hr) limit h1 h2, Med.Ok.new _ r hr, Fit.new _ r hr, ⟨_, _, Side.new r⟩, Int.le_refl _⟩
end
end Go.Seg
namespace Go.Seg
open Go.Med
open Go.Frm (encs GoodE)
section
variable {K : Nat} {M M' : Med} {L : Log} {s t : ByteArray} {i : Nat}
def Grow (M : Med) : Prop := ∀ j, ∀ c ∈ (M.file j).waits, c.cut = false
def Dur (s : ByteArray) (i : Nat) (M : Med) : Prop := nget M.fast s = some i ∧ ∀ w ∈ M.waits, w.fr ≠ s ∧ w.to ≠ s
structure Ext (s : ByteArray) (i : Nat) (M M' : Med) : Prop where
  now : nget M'.now s = some i
  dur : Dur s i M → Dur s i M'
  fast : ∀ j, (M.file j).fast <+: (M'.file j).fast
  bytes : ∀ j, (M.file j).now <+: (M'.file j).now
end
end Go.Seg
namespace Go.Seg
open Go.Med
open Go.Frm (encs GoodE)
section
variable {K : Nat} {M M' : Med} {L : Log} {s t : ByteArray} {i : Nat}
def nf (L : Log) : List Int := (L.l.map (·.1)).take (L.l.length - L.fresh.toNat)
def Slice (p : Plc) (x : Frm.Ent) (b : Bs) : Prop := ∃ a : Nat, p.at_ = a ∧ p.size = ((Frm.encode x).1.length : Int) ∧ (Frm.encode x).1 <+: b.drop a
structure Sure (L : Log) (M : Med) (p : Plc) (x : Frm.Ent) : Prop where
  good : GoodE x
  mem : p.seg ∈ nf L
  file : ∃ i, nget M.now (name p.seg) = some i ∧ Dur (name p.seg) i M ∧ Slice p x (M.file i).fast
structure Pend (L : Log) (M : Med) (p : Plc) (x : Frm.Ent) : Prop where
  good : GoodE x
  mem : p.seg ∈ L.l.map (·.1)
  file : ∃ i, nget M.now (name p.seg) = some i ∧ Slice p x (M.file i).now ∧ (Slice p x (M.file i).fast ∨ L.on = true ∧ ∃ s, L.l.getLast? = some s ∧ s.1 = p.seg)
structure St (K : Nat) (L : Log) (M : Med) (sure opn : List (Plc × Frm.Ent)) : Prop where
  log : L.Ok
  ok : M.Ok K
  grow : Grow M
  has : Has L M
  tail : L.on = true → ∃ s i, L.l.getLast? = some s ∧ nget M.now (name s.1) = some i ∧ s.2 = ((M.file i).now.length : Int)
  sure : ∀ q ∈ sure, Sure L M q.1 q.2
  opn : M.off = false → ∀ q ∈ opn, Pend L M q.1 q.2
variable {sure opn : List (Plc × Frm.Ent)}
end
end Go.Seg
namespace Go.Seg
open Go.Med
open Go.Frm (encs GoodE)
section
variable {K K' : Nat} {M M' : Med} {L : Log} {s t : ByteArray} {i : Nat} {sure opn : List (Plc × Frm.Ent)}
end
end Go.Seg
namespace Go.Med
def FCap (c : Nat) (f : Fil) : Prop := ∀ k, k ≤ f.waits.length → (f.at k).length ≤ c
section
variable {c c' K : Nat} {f : Fil} {M : Med}
theorem FCap.new (c : Nat) : FCap c Fil.new := fun k _ => by simp [Fil.new, Fil.at]
def Med.Cap (c : Nat) (M : Med) : Prop := ∀ f ∈ M.files, FCap c f
theorem Med.Cap.new (c room : Nat) : (Med.new room).Cap c := fun f hf => by cases hf
end
end Go.Med
namespace Go.Seg
open Go.Med
section
variable {c c' K n : Nat} {L : Log} {M : Med}
end
end Go.Seg
namespace Go.Seg
open Go.Med
end Go.Seg
namespace Go.Proofs.YtlinnpehkfbnkaaGreatDoor
open Go Go.Sl Go.Med Go.MapKept Go.RowKit
section
variable {w0 w : World} {F R : List HProp} {p d q : Nat} {L : Seg.Log} {lv v bv : Value} {M : Med} {K : Nat} {s : Int × Int}
end
end Go.Proofs.YtlinnpehkfbnkaaGreatDoor
namespace Go.Seg
open Go.Med
def Log.drop (t : List Int) : Nat → Log → Med → (Log × Med) × Int
  | 0, L, M => if t = [] then ((L, M), 0) else ((L, M.syncDir.1), M.syncDir.2)
  | k + 1, L, M => if (L.remove M (t.getD k 0)).2 = 0 then Log.drop t k (L.remove M (t.getD k 0)).1.1 (L.remove M (t.getD k 0)).1.2 else L.remove M (t.getD k 0)
def Log.rdrop (t : List Int) : Nat → Log → Med → (Log × Med) × Int
  | 0, L, M => if t = [] then ((L, M), 0) else ((L, M.syncDir.1), M.syncDir.2)
  | k + 1, L, M => if (L.rremove M (t.getD k 0)).2 = 0 then Log.rdrop t k (L.rremove M (t.getD k 0)).1.1 (L.rremove M (t.getD k 0)).1.2 else L.rremove M (t.getD k 0)
section
variable {t : List Int} {L : Log} {M D : Med} {K i : Nat}
theorem drop_nil (h : t = []) : Log.drop t 0 L M = ((L, M), 0) := by unfold Log.drop; rw [if_pos h]
theorem drop_end (h : t ≠ []) : Log.drop t 0 L M = ((L, M.syncDir.1), M.syncDir.2) := by unfold Log.drop; rw [if_neg h]
theorem drop_go {k : Nat} (h : (L.remove M (t.getD k 0)).2 = 0) : Log.drop t (k + 1) L M = Log.drop t k (L.remove M (t.getD k 0)).1.1 (L.remove M (t.getD k 0)).1.2 := by
  conv => lhs; unfold Log.drop
  rw [if_pos h]
theorem drop_no {k : Nat} (h : (L.remove M (t.getD k 0)).2 ≠ 0) : Log.drop t (k + 1) L M = L.remove M (t.getD k 0) := by
  conv => lhs; unfold Log.drop
  rw [if_neg h]
theorem remove_med (h : M.Ok K) (n : Int) : (L.remove M n).1.2.Ok (K + 1) := by
  unfold Log.remove
  cases L.at n with
  | none => exact h.mono (Nat.le_succ K)
  | some i => simp only; split <;> exact h.remove _
end
end Go.Seg
