import Derived.Test.YtmjldaedhmipkaaGreatDoorJ8
set_option linter.unusedVariables false
/- hoardref14's Log.begin. -/
namespace Go.Seg
open Go.Med
theorem rbegin_off {L : Log} {D : Med} {b : Bs} (h : L.on = false) : L.rbegin D b = L.rbegin1 D b := by
  have e : L.shut D = ((L, D), 0) := by
    unfold Log.shut
    cases L.l.getLast? with
    | none => rfl
    | some s => simp only [h]; rfl
  unfold Log.rbegin
  rw [e]; rfl
theorem rbegin_on {L : Log} {D : Med} {b : Bs} {s : Int × Int} (h : L.on = true) (hl : L.l.getLast? = some s) : L.rbegin D b = if (D.sync (name s.1)).2 = 0 then ({ L with on := false } : Log).rbegin1 (D.sync (name s.1)).1 b else ((L, (D.sync (name s.1)).1), Plc.zero, (D.sync (name s.1)).2) := by
  unfold Log.rbegin Log.shut
  rw [hl]
  simp only [h, if_true]
  by_cases he : (D.sync (name s.1)).2 = 0
  · rw [if_pos he, if_pos he]; rfl
  · rw [if_neg he, if_neg he, if_neg he]
end Go.Seg
namespace Go.Seg
theorem name_small (n : Int) : (name n).size ≤ 9223372036854775806 := by
  unfold name
  split
  · decide
  · show (lead ++ digs n.toNat 8).toArray.size ≤ _
    rw [List.size_toArray, List.length_append, digs_len]; decide
end Go.Seg
namespace Go.Proofs.YtmjldaedhmipkaaGreatDoor
open Go Go.Sl Go.Med Go.MapKept Go.RowKit
set_option linter.unusedVariables false
section
variable {w0 w : World} {F R : List HProp} {p d q : Nat} {L : Seg.Log} {lv v bv : Value} {D : Med} {K : Nat}
set_option maxRecDepth 20000 in
set_option maxHeartbeats 16000000 in
theorem rlbegin_c (hL : L.Ok) (hD : Seg.Fit K D) (hKK : K ≤ 1048000) (b : Bs) (hbl : b.length ≤ 65536) (hr : Ro w0 F (rdsl 1 bv (bys b)))
    (h : Sat w0 w (RLogRep p d L :: DskRep d D :: F)) :
    Calls Tryz.prog 75 #[ptr p, bv] w (Rtn fun v w' => v = .tuple #[plcA (L.rbegin D b).2.1, errno (L.rbegin D b).2.2] ∧
      Sat w0 w' (RLogRep p d (L.rbegin D b).1.1 :: DskRep d (L.rbegin D b).1.2 :: F)) := by
  obtain ⟨ba, bn, bc, rfl, hbn⟩ := ro_len hr (A := emp) (Sat.emp.2 (h.sel 2 [] rfl rfl))
  subst hbn
  have Hr := Lib.hid hr; have Hbl := Lib.hid hbl; have HKK := Lib.hid hKK
  clear hr hbl
  obtain ⟨lv, hR⟩ := RLogRep.open h
  obtain ⟨la, lc, rfl⟩ := sgs_sl (Sat.rd (hR.pick pick1))
  obtain ⟨lim, l, on, fr⟩ := L
  dsimp only at hR
  cases on
  case' false =>
    have Hg := Lib.hid (Seg.rbegin_off (L := ⟨lim, l, false, fr⟩) (D := D) (b := b) rfl)
    have HL := Lib.hid hL
    have HD := Lib.hid (hD.mono (Nat.le_succ K))
    clear hL hD h hKK
    generalize Seg.Log.rbegin ⟨lim, l, false, fr⟩ D b = RES at *
    go_enter Tryz.func75, Tryz.ntmps75
    go_wp2_with (first | (refine wl_alloc zPlace (by assumption) rfl ?_; intro q w1 hS1) | ((with_reducible apply at_load); refine ⟨?_⟩; refine wl_load1 (by assumption) (by rfl) (by first | ((repeat (first | with_reducible apply pick0 | with_reducible apply pick_there)); done) | ((repeat (first | apply pick0 | apply pick_there)); done) | fail) (Nat.le_of_ble_eq_true (by rfl)) (by conv => lhs; whnf) (by kernel_rfl) ?_) | ((with_reducible apply at_store); refine ⟨?_⟩; refine wl_store (by assumption) (by rfl) (by conv => lhs; whnf) (by first | (simp only [putsAt, Value.cells]; (try go_frame); first | done | rfl) | rfl) (by first | ((repeat (first | with_reducible apply upd0 | with_reducible apply upd_there)); done) | ((repeat (first | apply upd0 | apply upd_there)); done) | fail) (Nat.le_of_ble_eq_true (by rfl)) (by kernel_rfl) (by rfl) ?_; intro wS hS))
    have hT : Sat w0 _ (RLogRep p d ⟨lim, l, false, fr⟩ :: pt q (.cells #[.int .i64 0, .int .i64 0, .int .i64 0] 39 (0,0)) :: DskRep d D :: F) := RLogRep.shut (lv := .slice la l.length lc) (Sat.sb hS)
    clear hS hS1 hR
  case' true =>
    obtain ⟨k, hk⟩ : ∃ k, l.length = k + 1 := ⟨l.length - 1, by
      have h1 : l ≠ [] := hL.on rfl
      have : l.length ≠ 0 := fun e => h1 (List.length_eq_zero_iff.1 e)
      omega⟩
    obtain ⟨s, hs⟩ : ∃ s, l[k]? = some s := ⟨_, List.getElem?_eq_getElem (by omega)⟩
    have hlast : l.getLast? = some s := by rw [List.getLast?_eq_getElem?, hk]; exact hs
    have Hg := Lib.hid (Seg.rbegin_on (L := ⟨lim, l, true, fr⟩) (D := D) (b := b) rfl hlast)
    have HL := Lib.hid (show (⟨lim, l, false, fr⟩ : Seg.Log).Ok from hL.shutOff)
    have HD0 := Lib.hid hD
    have hk2 : k ≤ 1048576 := by have := hL.len; dsimp only at this; omega
    have HD := Lib.hid (hD.sync (Seg.name s.1))
    obtain ⟨bk, off, rfl, c0, _⟩ := sgs_cells (Sat.rd (hR.pick pick1)) hs
    have Hc0 := Lib.hid (fun (w' : World) (F' : List HProp) (h' : Sat w0 w' (osl 84 2 (.slice (some ⟨bk, off, none⟩) l.length lc) (segw l) :: F')) => (sgs_cells h'.rd hs))
    have hw1 : IntKind.i64.wrap (((k + 1 : Nat) : Int) - 1) = (k : Int) := by rw [show ((k + 1 : Nat) : Int) - 1 = (k : Int) by omega]; exact IntWalk.i64_in _ (by omega)
    have hw1' : IntKind.i64.wrap (k : Int) = (k : Int) := IntWalk.i64_in _ (by omega)
    have d2 : (k : Int) < ((k + 1 : Nat) : Int) := by omega
    have d3 : (0 : Int) ≤ (k : Int) := by omega
    have d4 : (k : Int) < (k : Int) + 1 := by omega
    rw [hk] at hR Hc0
    clear hL hD h hKK hlast c0 hk2
    generalize Seg.Log.rbegin ⟨lim, l, true, fr⟩ D b = RES at *
    go_enter Tryz.func75, Tryz.ntmps75
    go_wp2_with (first | (refine wl_alloc zPlace (by assumption) rfl ?_; intro q w1 hS1) | ((with_reducible apply at_load); refine ⟨?_⟩; refine wl_load1 (by assumption) (by rfl) (by first | ((repeat (first | with_reducible apply pick0 | with_reducible apply pick_there)); done) | ((repeat (first | apply pick0 | apply pick_there)); done) | fail) (Nat.le_of_ble_eq_true (by rfl)) (by conv => lhs; whnf) (by kernel_rfl) ?_) | ((with_reducible apply at_store); refine ⟨?_⟩; refine wl_store (by assumption) (by rfl) (by conv => lhs; whnf) (by first | (simp only [putsAt, Value.cells]; (try go_frame); first | done | rfl) | rfl) (by first | ((repeat (first | with_reducible apply upd0 | with_reducible apply upd_there)); done) | ((repeat (first | apply upd0 | apply upd_there)); done) | fail) (Nat.le_of_ble_eq_true (by rfl)) (by kernel_rfl) (by rfl) ?_; intro wS hS))
    have hSd := hS1.drew
    obtain ⟨bk2, off2, hbe, c0, _⟩ := Hc0.out _ _ (hSd.pk)
    cases hbe
    refine wpL_begin [18, 19] (fun w' => w'.cell? ⟨p, 0, none⟩ = some (ptr d) ∧ w'.cell? ⟨p, 2, none⟩ = some (.slice (some ⟨bk, off, none⟩) (k + 1) lc) ∧ w'.cell? ⟨bk, off + k * 2, none⟩ = some (.int .i64 s.1)) (by kernel_rfl) ?_
    have hG : w1.drew.cell? ⟨p, 0, none⟩ = some (ptr d) ∧ w1.drew.cell? ⟨p, 2, none⟩ = some (.slice (some ⟨bk, off, none⟩) (k + 1) lc) ∧ w1.drew.cell? ⟨bk, off + k * 2, none⟩ = some (.int .i64 s.1) := ⟨hSd.cellP (by first | ((repeat (first | with_reducible apply pick0 | with_reducible apply pick_there)); done) | ((repeat (first | apply pick0 | apply pick_there)); done) | fail) 0 rfl, hSd.cellP (by first | ((repeat (first | with_reducible apply pick0 | with_reducible apply pick_there)); done) | ((repeat (first | apply pick0 | apply pick_there)); done) | fail) 2 rfl, c0⟩
    refine rp 0 (hy := (yl_move (by conv => lhs; whnf))) (h := ?_)
    refine rp 1 (hy := (yl_nil (by conv => lhs; whnf))) (h := ?_)
    refine rp 2 (hy := (yl_field (by conv => lhs; whnf) (by ((intro wq; go_simp); first | done | (with_reducible rfl))))) (h := ?_)
    refine rt 3 (h := ?_)
    refine rp 4 (hy := (yl_move (by conv => lhs; whnf))) (h := ?_)
    refine rp 5 (hy := (yl_nil (by conv => lhs; whnf))) (h := ?_)
    refine rp 6 (hy := (yl_field (by conv => lhs; whnf) (by ((intro wq; go_simp); first | done | (with_reducible rfl))))) (h := ?_)
    refine rt 7 (h := ?_)
    refine rp 8 (hy := (yl_move (by conv => lhs; whnf))) (h := ?_)
    refine rp 9 (hy := (yl_nil (by conv => lhs; whnf))) (h := ?_)
    refine rp 10 (hy := (yl_field (by conv => lhs; whnf) (by ((intro wq; go_simp); first | done | (with_reducible rfl))))) (h := ?_)
    refine rt 11 (h := ?_)
    refine rp 12 (hy := (yl_len (by conv => lhs; whnf) (by ((intro wq; go_simp); first | done | (with_reducible rfl))))) (h := ?_)
    refine rp 13 (hy := (yl_bin (by conv => lhs; whnf) (by conv => lhs; whnf) (by ((intro wq; go_simp); first | done | (with_reducible rfl))))) (h := ?_)
    refine rp 14 (hy := (yl_index (by conv => lhs; whnf) (by conv => lhs; whnf) (by ((intro wq; go_simp); first | done | (with_reducible rfl))))) (h := ?_)
    refine rp 15 (hy := (yl_field (by conv => lhs; whnf) (by ((intro wq; go_simp); first | done | (with_reducible rfl))))) (h := ?_)
    refine rt 16 (h := ?_)
    clear hG c0
    refine rg_eff 17 (by conv => lhs; whnf) (by kernel_rfl) (fun K hK => ?_)
    (refine eff_call1 (by kernel_rfl) (by conv => lhs; whnf) ?_)
    refine (rname_c _ _).mono ?_
    rintro e w3 ⟨v, rfl, rfl, rfl⟩
    refine hK _ _ (.inr (.inr rfl)) ?_
    clear hK
    generalize Seg.name s.1 = nm at *
    refine rg_eff 18 (by conv => lhs; whnf) (by kernel_rfl) (fun K hK => ?_)
    (refine eff_call3 (by kernel_rfl) (by conv => lhs; whnf) (by conv => lhs; whnf) (by conv => lhs; whnf) ?_)
    refine (rsync_c nm (by have := HD0.out.now; omega) HD0.out.ok.left (fun i hi => HD0.out.len hi) (Sat.pk (by assumption))).mono ?_
    rintro e w4 ⟨v, rfl, rfl, hS4⟩
    refine hK _ _ (.inl rfl) ?_
    clear hK hSd hS1 HD0
    refine rp 19 (hy := (yl_assign (by conv => lhs; whnf))) (h := ?_)
    refine wpL_done (by kernel_rfl) ?_
    generalize D.sync nm = S at *
    clear hR D
    obtain ⟨D, e1⟩ := S
    by_cases he : e1 = 0
    rotate_left
    · have heb : (e1 == 0) = false := beq_false_of_ne he
      have hfin := Lib.hid (Hg.out.trans (if_neg he))
      clear he
      go_wp2_with ((with_reducible apply at_store); refine ⟨?_⟩; refine wl_store (by assumption) (by rfl) (by conv => lhs; whnf) (by first | (simp only [putsAt, Value.cells]; (try go_frame); first | done | rfl) | rfl) (by first | ((repeat (first | with_reducible apply upd0 | with_reducible apply upd_there)); done) | ((repeat (first | apply upd0 | apply upd_there)); done) | fail) (Nat.le_of_ble_eq_true (by rfl)) (by kernel_rfl) (by rfl) ?_; intro wS hS)
      refine ⟨rfl, _, res_cell_tmp rfl (by assumption) (by rfl) (by first | ((repeat (first | with_reducible apply pick0 | with_reducible apply pick_there)); done) | ((repeat (first | apply pick0 | apply pick_there)); done) | fail) Tryz.underlying39 rfl (by kernel_rfl), _, rfl, ?_, ?_⟩
      · rw [hfin.out]; rfl
      · rw [hfin.out]; exact RLogRep.shut (lv := .slice (some ⟨bk, off, none⟩) (k + 1) lc) (Sat.sb hS)
    subst he
    replace Hg := Lib.hid (Hg.out.trans (if_pos rfl))
    go_wp2_with (first | ((with_reducible apply at_load); refine ⟨?_⟩; refine wl_load1 (by assumption) (by rfl) (by first | ((repeat (first | with_reducible apply pick0 | with_reducible apply pick_there)); done) | ((repeat (first | apply pick0 | apply pick_there)); done) | fail) (Nat.le_of_ble_eq_true (by rfl)) (by conv => lhs; whnf) (by kernel_rfl) ?_) | ((with_reducible apply at_store); refine ⟨?_⟩; refine wl_store (by assumption) (by rfl) (by conv => lhs; whnf) (by first | (simp only [putsAt, Value.cells]; (try go_frame); first | done | rfl) | rfl) (by first | ((repeat (first | with_reducible apply upd0 | with_reducible apply upd_there)); done) | ((repeat (first | apply upd0 | apply upd_there)); done) | fail) (Nat.le_of_ble_eq_true (by rfl)) (by kernel_rfl) (by rfl) ?_; intro wS hS))
    have hT : Sat w0 _ (RLogRep p d ⟨lim, l, false, fr⟩ :: pt q (.cells #[.int .i64 0, .int .i64 0, .int .i64 0] 39 (0,0)) :: DskRep d D :: F) := RLogRep.shut (lv := .slice (some ⟨bk, off, none⟩) (k + 1) lc) (Sat.sb hS)
    clear hS hS4 hw1 hw1' d2 d3 d4 Hc0
  all_goals
    generalize (⟨lim, l, false, fr⟩ : Seg.Log) = L1 at HL Hg hT
    refine (r14next_c HL.out hT).mono ?_
    rintro e w5 ⟨v, rfl, rfl, hS5⟩
    clear hT
    have hs1 := Lib.hid HL.out.next
    have hfr := Lib.hid HL.out.fresh
    have hln := Lib.hid HL.out.len
    unfold Seg.Log.rbegin1 at Hg
    have Hnm := Lib.hid (Seg.name_small L1.next)
    by_cases hn : 1048576 ≤ L1.next
    · have hfin := Lib.hid (Hg.out.trans (if_pos hn))
      have hnb : (L1.next == 1048576) = true := by rw [beq_iff_eq]; have := hs1.out; omega
      generalize L1.next = n at *
      go_wp2_with ((with_reducible apply at_store); refine ⟨?_⟩; refine wl_store (by assumption) (by rfl) (by conv => lhs; whnf) (by first | (simp only [putsAt, Value.cells]; (try go_frame); first | done | rfl) | rfl) (by first | ((repeat (first | with_reducible apply upd0 | with_reducible apply upd_there)); done) | ((repeat (first | apply upd0 | apply upd_there)); done) | fail) (Nat.le_of_ble_eq_true (by rfl)) (by kernel_rfl) (by rfl) ?_; intro wS hS)
      refine ⟨rfl, _, res_cell_tmp rfl (by assumption) (by rfl) (by first | ((repeat (first | with_reducible apply pick0 | with_reducible apply pick_there)); done) | ((repeat (first | apply pick0 | apply pick_there)); done) | fail) Tryz.underlying39 rfl (by kernel_rfl), _, rfl, ?_, ?_⟩
      · rw [hfin.out]; rfl
      · rw [hfin.out]; exact Sat.sb hS
    have H2 := Lib.hid (Hg.out.trans (if_neg hn))
    clear Hg
    have hnb : (L1.next == 1048576) = false := by rw [beq_eq_false_iff_ne]; omega
    clear hn
    generalize hnn : L1.next = n at *
    have Hnn := Lib.hid hnn
    clear hnn
    obtain ⟨lv, hR⟩ := RLogRep.open (Sat.pk (by assumption))
    go_wp2_with fail
    have hRd := hR.drew
    refine wpL_begin [6, 7] (fun w' => w'.cell? ⟨p, 0, none⟩ = some (ptr d)) (by kernel_rfl) ?_
    have hG : (World.drew _).cell? ⟨p, 0, none⟩ = some (ptr d) := hRd.cellP (by first | ((repeat (first | with_reducible apply pick0 | with_reducible apply pick_there)); done) | ((repeat (first | apply pick0 | apply pick_there)); done) | fail) 0 rfl
    refine rp 0 (hy := (yl_move (by conv => lhs; whnf))) (h := ?_)
    refine rp 1 (hy := (yl_nil (by conv => lhs; whnf))) (h := ?_)
    refine rp 2 (hy := (yl_field (by conv => lhs; whnf) (by ((intro wq; go_simp); first | done | (with_reducible rfl))))) (h := ?_)
    refine rt 3 (h := ?_)
    refine rp 4 (hy := (yl_move (by conv => lhs; whnf))) (h := ?_)
    clear hG
    refine rg_eff 5 (by conv => lhs; whnf) (by kernel_rfl) (fun K hK => ?_)
    (refine eff_call1 (by kernel_rfl) (by conv => lhs; whnf) ?_)
    refine (rname_c n _).mono ?_
    rintro e w6 ⟨v, rfl, rfl, rfl⟩
    refine hK _ _ (.inr (.inr rfl)) ?_
    clear hK
    refine rg_eff 6 (by conv => lhs; whnf) (by kernel_rfl) (fun K hK => ?_)
    (refine eff_call2 (by kernel_rfl) (by conv => lhs; whnf) (by conv => lhs; whnf) ?_)
    refine (rcreate_c (Seg.name n) Hnm.out (by have := HD.out.now; omega) (by have := HD.out.ok.budget; have := HKK.out; omega) (by have := HD.out.files; have := HKK.out; omega) HD.out.ok.left (Sat.pk (by assumption))).mono ?_
    rintro e w7 ⟨v, rfl, rfl, hS7⟩
    refine hK _ _ (.inl rfl) ?_
    clear hK hRd hR hS5
    refine rp 7 (hy := (yl_assign (by conv => lhs; whnf))) (h := ?_)
    refine wpL_done (by kernel_rfl) ?_
    have HD2 := Lib.hid (HD.out.create (Seg.name n))
    generalize D.create (Seg.name n) = C at *
    clear HD
    clear D
    obtain ⟨D, e2⟩ := C
    by_cases he : e2 = 0
    rotate_left
    · have heb : (e2 == 0) = false := beq_false_of_ne he
      have hfin := Lib.hid (H2.out.trans (if_pos he))
      clear he
      go_wp2_with ((with_reducible apply at_store); refine ⟨?_⟩; refine wl_store (by assumption) (by rfl) (by conv => lhs; whnf) (by first | (simp only [putsAt, Value.cells]; (try go_frame); first | done | rfl) | rfl) (by first | ((repeat (first | with_reducible apply upd0 | with_reducible apply upd_there)); done) | ((repeat (first | apply upd0 | apply upd_there)); done) | fail) (Nat.le_of_ble_eq_true (by rfl)) (by kernel_rfl) (by rfl) ?_; intro wS hS)
      refine ⟨rfl, _, res_cell_tmp rfl (by assumption) (by rfl) (by first | ((repeat (first | with_reducible apply pick0 | with_reducible apply pick_there)); done) | ((repeat (first | apply pick0 | apply pick_there)); done) | fail) Tryz.underlying39 rfl (by kernel_rfl), _, rfl, ?_, ?_⟩
      · rw [hfin.out]; rfl
      · rw [hfin.out]; exact RLogRep.shut (lv := lv) (Sat.sb hS)
    subst he
    have H3 := Lib.hid (H2.out.trans (if_neg (fun h => h rfl)))
    clear H2
    go_wp2_with fail
    have hS8 := hS7.drew
    refine wpL_begin [10, 11] (fun w' => w'.cell? ⟨p, 0, none⟩ = some (ptr d)) (by kernel_rfl) ?_
    have hG : (World.drew _).cell? ⟨p, 0, none⟩ = some (ptr d) := hS8.cellP (by first | ((repeat (first | with_reducible apply pick0 | with_reducible apply pick_there)); done) | ((repeat (first | apply pick0 | apply pick_there)); done) | fail) 0 rfl
    refine rp 0 (hy := (yl_move (by conv => lhs; whnf))) (h := ?_)
    refine rp 1 (hy := (yl_nil (by conv => lhs; whnf))) (h := ?_)
    refine rp 2 (hy := (yl_field (by conv => lhs; whnf) (by ((intro wq; go_simp); first | done | (with_reducible rfl))))) (h := ?_)
    refine rt 3 (h := ?_)
    refine rp 4 (hy := (yl_move (by conv => lhs; whnf))) (h := ?_)
    refine rp 7 (hy := (yl_move (by conv => lhs; whnf))) (h := ?_)
    clear hG
    refine rg_eff 5 (by conv => lhs; whnf) (by kernel_rfl) (fun K hK => ?_)
    (refine eff_call1 (by kernel_rfl) (by conv => lhs; whnf) ?_)
    refine (rname_c n _).mono ?_
    rintro e w9 ⟨v, rfl, rfl, rfl⟩
    refine hK _ _ (.inr (.inr rfl)) ?_
    clear hK
    refine rg_eff 6 (by conv => lhs; whnf) (by kernel_rfl) (fun K hK => ?_)
    refine eff_call [] (by kernel_rfl) (by rfl) ?_
    refine (rmagic_c hS8).mono ?_
    rintro e w10 ⟨v, rfl, bm, rfl, hS10⟩
    refine hK _ _ (.inr (.inl (hS10.cellP (by first | ((repeat (first | with_reducible apply pick0 | with_reducible apply pick_there)); done) | ((repeat (first | apply pick0 | apply pick_there)); done) | fail) 0 rfl))) ?_
    clear hK
    refine rg_eff 8 (by conv => lhs; whnf) (by kernel_rfl) (fun K hK => ?_)
    refine eff_appB hS10 (by conv => lhs; whnf) (by conv => lhs; whnf) (Hr.out _ (hS10.sb)) (by have := Hbl.out; simp only [List.length_cons, List.length_nil]; omega) ?_
    intro b4 n4 c4 w11 hS11
    refine hK _ _ (.inr (.inl (hS11.cellP (by first | ((repeat (first | with_reducible apply pick0 | with_reducible apply pick_there)); done) | ((repeat (first | apply pick0 | apply pick_there)); done) | fail) 0 rfl))) ?_
    clear hK
    have Hmb := Lib.hid (show ([72, 79, 65, 82, 68, 83, 69, 71] ++ b : Bs) = Seg.mag ++ b from rfl)
    have Hml := Lib.hid (show (Seg.mag ++ b).length = b.length + 8 by rw [List.length_append, Nat.add_comm]; rfl)
    rw [Hmb.out] at hS11
    clear Hmb
    generalize Seg.mag ++ b = mb at *
    refine rp 9 (hy := (by (refine Or.inl ⟨by rfl, ?_⟩; ((intro wq; go_simp); first | done | (with_reducible rfl))))) (h := ?_)
    refine rg_eff 10 (by conv => lhs; whnf) (by kernel_rfl) (fun K hK => ?_)
    (refine eff_call3 (by kernel_rfl) (by conv => lhs; whnf) (by conv => lhs; whnf) (by conv => lhs; whnf) ?_)
    have hSp := hS11.pk (A := DskRep d D)
    refine (rappend_c (Seg.name n) mb (by first | assumption | exact Ro.op (Ro.bsl _ _) | exact Ro.os (by assumption)) (by have := Hml.out; have := Hbl.out; omega) HD2.out.ok (by have := HKK.out; omega) (Nat.le_trans HD2.out.ok.used_le (by decide)) hSp).mono ?_
    rintro e w12 ⟨v, rfl, rfl, hS12⟩
    refine hK _ _ (.inl rfl) ?_
    clear hK hSp hS11 hS10 hS8 hS7
    refine rp 11 (hy := (yl_assign (by conv => lhs; whnf))) (h := ?_)
    refine wpL_done (by kernel_rfl) ?_
    have HD3 := Lib.hid (HD2.out.append (Seg.name n) mb)
    generalize D.append (Seg.name n) mb = C at *
    clear HD2
    clear D
    obtain ⟨D, e3⟩ := C
    by_cases h11 : e3 = 11
    · subst h11
      have H4 := Lib.hid ((H3.out.trans (if_neg (show ¬ (11 : Int) = 0 by decide))).trans (if_pos rfl))
      clear H3
      go_wp2_with fail
      have hS13 := hS12.drew
      refine wpL_begin [9, 10, 11] (fun w' => w'.cell? ⟨p, 0, none⟩ = some (ptr d)) (by kernel_rfl) ?_
      have hG : (World.drew _).cell? ⟨p, 0, none⟩ = some (ptr d) := hS13.cellP (by first | ((repeat (first | with_reducible apply pick0 | with_reducible apply pick_there)); done) | ((repeat (first | apply pick0 | apply pick_there)); done) | fail) 0 rfl
      refine rp 0 (hy := (yl_move (by conv => lhs; whnf))) (h := ?_)
      refine rp 1 (hy := (yl_bin (by conv => lhs; whnf) (by conv => lhs; whnf) (by ((intro wq; go_simp); first | done | (with_reducible rfl))))) (h := ?_)
      refine rp 2 (hy := (yl_move (by conv => lhs; whnf))) (h := ?_)
      refine rp 3 (hy := (yg_move (by rfl) (by conv => lhs; whnf))) (h := ?_)
      refine rp 4 (hy := (yg_nil (by rfl) (by conv => lhs; whnf))) (h := ?_)
      refine rp 5 (hy := (yg_field (by rfl) (by conv => lhs; whnf) (by ((intro wq; go_simp); first | done | (with_reducible rfl))))) (h := ?_)
      refine rg_take 6 (by conv => lhs; whnf) (by kernel_rfl) (by intro _ _ _ h; exact h) (tg_load (by rfl) (by conv => lhs; whnf) (by kernel_rfl) (by intro wq hq; first | exact hq | exact hq.1 | exact hq.2 | exact hq.2.1 | exact hq.2.2 | exact hq.2.2.1 | exact hq.2.2.2 | exact hq.2.2.2.1 | exact hq.2.2.2.2)) (by assumption) (by go_frame; first | done | rfl) ?_
      refine rp 7 (hy := (yg_move (by rfl) (by conv => lhs; whnf))) (h := ?_)
      clear hG
      refine rg_eff 8 (by conv => lhs; whnf) (by kernel_rfl) (fun K hK => ?_)
      refine eg_call [.int .i64 n] (by rfl) (by kernel_rfl) (by rfl) ?_
      refine (rname_c n _).mono ?_
      rintro e w14 ⟨v, rfl, rfl, rfl⟩
      refine hK _ _ (.inr (.inr rfl)) ?_
      clear hK
      refine rg_eff 9 (by conv => lhs; whnf) (by kernel_rfl) (fun K hK => ?_)
      refine eg_call [ptr d, .string (Seg.name n), .string ByteArray.empty, .bool true] (by rfl) (by kernel_rfl) (by rfl) ?_
      refine (rmove_c (Seg.name n) ByteArray.empty true (by decide) (by have := HD3.out.now; omega) (by have := HD3.out.ok.budget; have := HKK.out; omega) HD3.out.ok.left (Sat.pk (by assumption))).mono ?_
      rintro e w15 ⟨v, rfl, rfl, hS15⟩
      refine hK _ _ (.inl rfl) ?_
      clear hK hS13 hS12
      generalize D.rmove (Seg.name n) ByteArray.empty true = C at *
      clear HD3
      clear D
      obtain ⟨D, e4⟩ := C
      by_cases h12 : e4 = 12
      · subst h12
        refine rp 10 (hy := (yg_bin (by rfl) (by conv => lhs; whnf) (by conv => lhs; whnf) (by ((intro wq; go_simp); first | done | (with_reducible rfl))))) (h := ?_)
        refine rp 11 (hy := (yg_pick (by rfl) (by conv => lhs; whnf) (by conv => lhs; whnf))) (h := ?_)
        refine wpL_done (by kernel_rfl) ?_
        try simp only [List.getElem_toArray, List.getElem_cons_succ, List.getElem_cons_zero]
        try go_frame
        go_wp2_with ((with_reducible apply at_store); refine ⟨?_⟩; refine wl_store (by assumption) (by rfl) (by conv => lhs; whnf) (by first | (simp only [putsAt, Value.cells]; (try go_frame); first | done | rfl) | rfl) (by first | ((repeat (first | with_reducible apply upd0 | with_reducible apply upd_there)); done) | ((repeat (first | apply upd0 | apply upd_there)); done) | fail) (Nat.le_of_ble_eq_true (by rfl)) (by kernel_rfl) (by rfl) ?_; intro wS hS)
        refine ⟨rfl, _, res_cell_tmp rfl (by assumption) (by rfl) (by first | ((repeat (first | with_reducible apply pick0 | with_reducible apply pick_there)); done) | ((repeat (first | apply pick0 | apply pick_there)); done) | fail) Tryz.underlying39 rfl (by kernel_rfl), _, rfl, ?_, ?_⟩
        · rw [H4.out]; rfl
        · rw [H4.out]; exact RLogRep.shut (lv := lv) (Sat.sb hS)
      · have h12b : (e4 == 12) = false := beq_false_of_ne h12
        have H5 := Lib.hid (H4.out.trans (by rw [if_neg h12]))
        clear h12
        refine rp 10 (hy := (yg_bin (by rfl) (by conv => lhs; whnf) (by conv => lhs; whnf) (by ((intro wq; go_simp); first | done | (with_reducible rfl))))) (h := ?_)
        refine rp 11 (hy := (yg_pick (by rfl) (by conv => lhs; whnf) (by conv => lhs; whnf))) (h := ?_)
        refine wpL_done (by kernel_rfl) ?_
        try simp only [List.getElem_toArray, List.getElem_cons_succ, List.getElem_cons_zero]
        try go_frame
        go_wp2_with ((with_reducible apply at_store); refine ⟨?_⟩; refine wl_store (by assumption) (by rfl) (by conv => lhs; whnf) (by first | (simp only [putsAt, Value.cells]; (try go_frame); first | done | rfl) | rfl) (by first | ((repeat (first | with_reducible apply upd0 | with_reducible apply upd_there)); done) | ((repeat (first | apply upd0 | apply upd_there)); done) | fail) (Nat.le_of_ble_eq_true (by rfl)) (by kernel_rfl) (by rfl) ?_; intro wS hS)
        refine ⟨rfl, _, res_cell_tmp rfl (by assumption) (by rfl) (by first | ((repeat (first | with_reducible apply pick0 | with_reducible apply pick_there)); done) | ((repeat (first | apply pick0 | apply pick_there)); done) | fail) Tryz.underlying39 rfl (by kernel_rfl), _, rfl, ?_, ?_⟩
        · rw [H5.out]; rfl
        · rw [H5.out]; exact RLogRep.shut (lv := lv) (Sat.sb hS)
    have h11b : (e3 == 11) = false := beq_false_of_ne h11
    go_wp2_with fail
    have hG : True := trivial
    refine wpL_begin [9, 10, 11] (fun w' => True) (by kernel_rfl) ?_
    refine rp 0 (hy := (yl_move (by conv => lhs; whnf))) (h := ?_)
    refine rp 1 (hy := (yl_bin (by conv => lhs; whnf) (by conv => lhs; whnf) (by ((intro wq; go_simp); first | done | (with_reducible rfl))))) (h := ?_)
    refine rp 2 (hy := (yl_move (by conv => lhs; whnf))) (h := ?_)
    refine rg_skip 3 (by conv => lhs; whnf) (by kernel_rfl) (by intro _ _ _ h; exact h) (by rfl) (by go_frame; first | done | rfl) ?_
    refine rg_skip 4 (by conv => lhs; whnf) (by kernel_rfl) (by intro _ _ _ h; exact h) (by rfl) (by go_frame; first | done | rfl) ?_
    refine rg_skip 5 (by conv => lhs; whnf) (by kernel_rfl) (by intro _ _ _ h; exact h) (by rfl) (by go_frame; first | done | rfl) ?_
    refine rg_skip 6 (by conv => lhs; whnf) (by kernel_rfl) (by intro _ _ _ h; exact h) (by rfl) (by go_frame; first | done | rfl) ?_
    refine rg_skip 7 (by conv => lhs; whnf) (by kernel_rfl) (by intro _ _ _ h; exact h) (by rfl) (by go_frame; first | done | rfl) ?_
    refine rg_skip 8 (by conv => lhs; whnf) (by kernel_rfl) (by intro _ _ _ h; exact h) (by rfl) (by go_frame; first | done | rfl) ?_
    refine rg_skip 9 (by conv => lhs; whnf) (by kernel_rfl) (by intro _ _ _ h; exact h) (by rfl) (by go_frame; first | done | rfl) ?_
    refine rg_skip 10 (by conv => lhs; whnf) (by kernel_rfl) (by intro _ _ _ h; exact h) (by rfl) (by go_frame; first | done | rfl) ?_
    refine rp 11 (hy := (yg_pick (by rfl) (by conv => lhs; whnf) (by conv => lhs; whnf))) (h := ?_)
    refine wpL_done (by kernel_rfl) ?_
    clear hG
    try simp only [List.getElem_toArray, List.getElem_cons_succ, List.getElem_cons_zero]
    try go_frame
    have hS13 := hS12.drew
    clear hS12
    by_cases he : e3 = 0
    rotate_left
    · have heb : (e3 == 0) = false := beq_false_of_ne he
      have hfin := Lib.hid ((H3.out.trans (if_neg he)).trans (if_neg h11))
      clear he h11
      go_wp2_with ((with_reducible apply at_store); refine ⟨?_⟩; refine wl_store (by assumption) (by rfl) (by conv => lhs; whnf) (by first | (simp only [putsAt, Value.cells]; (try go_frame); first | done | rfl) | rfl) (by first | ((repeat (first | with_reducible apply upd0 | with_reducible apply upd_there)); done) | ((repeat (first | apply upd0 | apply upd_there)); done) | fail) (Nat.le_of_ble_eq_true (by rfl)) (by kernel_rfl) (by rfl) ?_; intro wS hS)
      refine ⟨rfl, _, res_cell_tmp rfl (by assumption) (by rfl) (by first | ((repeat (first | with_reducible apply pick0 | with_reducible apply pick_there)); done) | ((repeat (first | apply pick0 | apply pick_there)); done) | fail) Tryz.underlying39 rfl (by kernel_rfl), _, rfl, ?_, ?_⟩
      · rw [hfin.out]; rfl
      · rw [hfin.out]; exact RLogRep.shut (lv := lv) (Sat.sb hS)
    subst he
    have hfin := Lib.hid (H3.out.trans (if_pos rfl))
    clear H3 h11 h11b
    have hwl : IntKind.i64.wrap (8 + (b.length : Int)) = 8 + (b.length : Int) := by rw [IntKind.wrap_i64]; have := Hbl.out; omega
    have hwf : IntKind.i64.wrap (L1.fresh + 1) = L1.fresh + 1 := by rw [IntKind.wrap_i64]; have := hfr.out; have := hln.out; omega
    have hsl : (segw L1.l).length ≤ 2147483648 := by rw [segw_len]; have := hln.out; omega
    obtain ⟨la, lc, rfl⟩ := sgs_sl (Sat.rd (hS13.pk (A := osl 84 2 lv (segw L1.l))))
    go_wp2_with (first
      | ((with_reducible apply at_build1); refine ⟨?_⟩; refine wl_build1 (e := 84) (sz := 2) (by' := 16) (by kernel_rfl) hS13 (by rfl) (cs := #[.int .i64 n, .int .i64 (8 + (b.length : Int))]) rfl rfl (Nat.le_of_ble_eq_true (by rfl)) ?_; intro bN wN hN)
      | ((with_reducible apply at_append); refine ⟨?_⟩; refine wl_app 84 2 16 (by kernel_rfl) hN (by rfl) (by rfl) (by first | ((repeat (first | with_reducible apply pick0 | with_reducible apply pick_there)); done) | ((repeat (first | apply pick0 | apply pick_there)); done) | fail) (by first | ((repeat (first | with_reducible apply pick0 | with_reducible apply pick_there)); done) | ((repeat (first | apply pick0 | apply pick_there)); done) | fail) (by rfl) (Nat.le_refl 1) (by rfl) hsl (by show 2 ≤ 65536; decide) (by decide) rfl ?_; intro bA nA cA wA hA; rw [segw_snoc] at hA; clear hS13 hN)
      | ((with_reducible apply at_load); refine ⟨?_⟩; refine wl_load1 (by assumption) (by rfl) (by first | ((repeat (first | with_reducible apply pick0 | with_reducible apply pick_there)); done) | ((repeat (first | apply pick0 | apply pick_there)); done) | fail) (Nat.le_of_ble_eq_true (by rfl)) (by conv => lhs; whnf) (by kernel_rfl) ?_) | ((with_reducible apply at_store); refine ⟨?_⟩; refine wl_store (by assumption) (by rfl) (by conv => lhs; whnf) (by first | (simp only [putsAt, Value.cells]; (try go_frame); first | done | rfl) | rfl) (by first | ((repeat (first | with_reducible apply upd0 | with_reducible apply upd_there)); done) | ((repeat (first | apply upd0 | apply upd_there)); done) | fail) (Nat.le_of_ble_eq_true (by rfl)) (by kernel_rfl) (by rfl) ?_; intro wS hS))
    refine ⟨rfl, _, res_cell_tmp rfl (by assumption) (by rfl) (by first | ((repeat (first | with_reducible apply pick0 | with_reducible apply pick_there)); done) | ((repeat (first | apply pick0 | apply pick_there)); done) | fail) Tryz.underlying39 rfl (by kernel_rfl), _, rfl, ?_, ?_⟩
    · rw [hfin.out]; rfl
    · rw [hfin.out]
      exact RLogRep.shut (lv := .slice (some ⟨bA, 0, none⟩) nA cA) (Sat.sb hS)
end
end Go.Proofs.YtmjldaedhmipkaaGreatDoor
/- hoardref14's Log.Append. -/
namespace Go.Seg
open Go.Med
theorem rappend_bad {L : Log} {M : Med} {x : Frm.Ent} (h : (Frm.encode x).2 ≠ 0) : L.rappend M x = ((L, M), Plc.zero, (Frm.encode x).2) := by
  unfold Log.rappend; rw [if_pos h]
theorem rappend_grow {L : Log} {M : Med} {x : Frm.Ent} (h : (Frm.encode x).2 = 0) (hf : L.fits (Frm.encode x).1.length = true) : L.rappend M x = L.grow M (Frm.encode x).1 := by
  unfold Log.rappend; rw [if_neg (fun hh => hh h), if_pos hf]
theorem rappend_begin {L : Log} {M : Med} {x : Frm.Ent} (h : (Frm.encode x).2 = 0) (hf : L.fits (Frm.encode x).1.length = false) : L.rappend M x = L.rbegin M (Frm.encode x).1 := by
  unfold Log.rappend; rw [if_neg (fun hh => hh h), if_neg (by rw [hf]; decide)]
end Go.Seg
namespace Go.Proofs.YtmjldaedhmipkaaGreatDoor
open Go Go.Sl Go.Med Go.MapKept Go.RowKit
set_option linter.unusedVariables false
section
variable {w0 w : World} {F R : List HProp} {p d q : Nat} {L : Seg.Log} {lv v bv : Value} {D : Med} {K : Nat} {s : Int × Int}
theorem rseg_block (hl : L.l.getLast? = some s) (h : Sat w0 w (rlogPt p d L lv :: osl 84 2 lv (segw L.l) :: F)) :
    ∃ bk n cap cs, lv = .slice (some ⟨bk, 0, none⟩) (n + 1) cap ∧ SegBlk L.l n cap cs ∧ cs[n * 2]? = some (.int .i64 s.1) ∧ cs[n * 2 + 1]? = some (.int .i64 s.2) ∧
      Sat w0 w (rlogPt p d L (.slice (some ⟨bk, 0, none⟩) (n + 1) cap) :: pt bk (.cells cs 84 (0,0)) :: F) := by
  rw [List.getLast?_eq_getElem?] at hl
  have hlt := (List.getElem?_eq_some_iff.1 hl).1
  obtain ⟨n, hn⟩ : ∃ n, L.l.length = n + 1 := ⟨L.l.length - 1, by omega⟩
  rw [hn, Nat.add_sub_cancel] at hl
  obtain ⟨h1, h2⟩ := segw_at _ _ _ hl
  rcases (h.pick pick1).osl_cases with ⟨rfl, hx, _⟩ | ⟨b, n', cap, cs, rfl, hll, hn', hc, hcm, htk, hp⟩
  · rw [hx] at h1; simp at h1
  · rw [segw_len, hn] at hll
    obtain rfl : n' = n + 1 := by omega
    refine ⟨b, n, cap, cs, rfl, ⟨hn, hn', hc, hcm, htk⟩, ?_, ?_, hp.pick pick1⟩
    · rw [Nat.mul_comm]; exact take_get htk h1
    · rw [Nat.mul_comm]; exact take_get htk h2
theorem rseg_keep {bk n cap : Nat} {cs : Array Value} (hb : SegBlk L.l n cap cs) (h : Sat w0 w (pt bk (.cells cs 84 (0,0)) :: R)) :
    Sat w0 w (osl 84 2 (.slice (some ⟨bk, 0, none⟩) (n + 1) cap) (segw L.l) :: R) :=
  Sat.osl_of_pt h (by rw [segw_len, hb.len]; omega) hb.le hb.size hb.max hb.take
theorem rseg_close {bk n cap : Nat} {cs : Array Value} (hl : L.l.getLast? = some s) (hb : SegBlk L.l n cap cs) (z : Int)
    (h : Sat w0 w (pt bk (.cells (putsAt cs (n * 2 + 1) [.int .i64 z]) 84 (0,0)) :: R)) :
    Sat w0 w (osl 84 2 (.slice (some ⟨bk, 0, none⟩) (n + 1) cap) (segw (L.l.dropLast ++ [(s.1, z)])) :: R) := by
  have e := Seg.last_split hl
  have hlen := Seg.last_len hl
  have hn := hb.len
  refine Sat.osl_of_pt h ?_ hb.le ?_ hb.max ?_
  · rw [segw_len, List.length_append, List.length_singleton]; omega
  · rw [putsAt_size]; exact hb.size
  · simp only [putsAt, Array.toList_setIfInBounds]
    rw [set_take _ _ _ _ (by omega), hb.take, e, List.dropLast_append_cons, show n = L.l.dropLast.length by omega]
    simp only [List.dropLast_singleton, List.append_nil]
    exact segw_set _ _ _
set_option maxRecDepth 20000 in
set_option maxHeartbeats 8000000 in
theorem rlappend_c (e : Frm.Ent) (hk : e.key.length = 32) (da : Option Addr) (dc : Nat) (hd : Ro w0 F (rdsl 1 (.slice da e.data.length dc) (bys e.data)))
    (hL : L.Ok) (hD : Seg.Fit K D) (hKK : K ≤ 1048000) (h : Sat w0 w (RLogRep p d L :: DskRep d D :: F)) :
    Calls Tryz.prog 18 #[ptr p, .agg (entA e (.slice da e.data.length dc))] w (Rtn fun v w' => v = .tuple #[plcA (L.rappend D e).2.1, errno (L.rappend D e).2.2] ∧
      Sat w0 w' (RLogRep p d (L.rappend D e).1.1 :: DskRep d (L.rappend D e).1.2 :: F)) := by
  obtain ⟨lv, hR⟩ := RLogRep.open h
  clear h
  have hsz := entA_size e (.slice da e.data.length dc) hk
  have Hsz := Lib.hid hsz
  have Hd := Lib.hid hd; have Hk := Lib.hid hk
  have HL := Lib.hid hL; have HD := Lib.hid hD; have HKK := Lib.hid hKK
  have Hln := Lib.hid hL.len
  have Hel := Lib.hid (show (Frm.encode e).1.length ≤ 16425 from Seg.encode_len e hk)
  have A0 := Lib.hid (Seg.rappend_bad (L := L) (M := D) (x := e))
  have A1 := Lib.hid (Seg.rappend_grow (L := L) (M := D) (x := e))
  have A2 := Lib.hid (Seg.rappend_begin (L := L) (M := D) (x := e))
  clear hsz hd hk hL hD hKK
  go_enter Tryz.func18, Tryz.ntmps18
  go_wp2_with (first
    | ((with_reducible apply at_box); refine ⟨?_⟩; refine wl_box (by assumption) (by rfl) (cs := entA e (.slice da e.data.length dc)) rfl ?_; intro q3 w1 hS1)
    | (refine wl_alloc zPlace (by assumption) rfl ?_; intro q w2 hS2)
    | ((with_reducible apply at_load); refine ⟨?_⟩; refine wl_loadA (by assumption) (by rfl) (by first | ((repeat (first | with_reducible apply pick0 | with_reducible apply pick_there)); done) | ((repeat (first | apply pick0 | apply pick_there)); done) | fail) Tryz.underlying44 (by rfl) (by rw [Hsz.out]; kernel_rfl) ?_))
  clear hS1 hR
  refine (rencode_c e Hk.out da dc (by first | assumption | exact Ro.op (Ro.bsl _ _) | exact Ro.os (by assumption)) hS2).mono ?_
  rintro ee w3 ⟨v, rfl, bv, rfl, ⟨ba, bn, bc, rfl⟩, hS3⟩
  clear hS2
  generalize hE : Frm.encode e = E at *
  have HE := Lib.hid hE
  clear hE
  obtain ⟨b, e1⟩ := E
  have Hel2 : Hid (b.length ≤ 16425) := Hel
  by_cases he : e1 = 0
  rotate_left
  · have heb : (e1 == 0) = false := beq_false_of_ne he
    have hfin := Lib.hid (A0.out he)
    clear he
    go_wp2_with ((with_reducible apply at_store); refine ⟨?_⟩; refine wl_store (by assumption) (by rfl) (by conv => lhs; whnf) (by first | (simp only [putsAt, Value.cells]; (try go_frame); first | done | rfl) | rfl) (by first | ((repeat (first | with_reducible apply upd0 | with_reducible apply upd_there)); done) | ((repeat (first | apply upd0 | apply upd_there)); done) | fail) (Nat.le_of_ble_eq_true (by rfl)) (by kernel_rfl) (by rfl) ?_; intro wS hS)
    refine ⟨rfl, _, res_cell_tmp rfl (by assumption) (by rfl) (by first | ((repeat (first | with_reducible apply pick0 | with_reducible apply pick_there)); done) | ((repeat (first | apply pick0 | apply pick_there)); done) | fail) Tryz.underlying39 rfl (by kernel_rfl), _, rfl, ?_, ?_⟩
    · rw [hfin.out]; rfl
    · rw [hfin.out]; exact RLogRep.shut (lv := lv) (Sat.sb hS)
  subst he
  have hbn : bn = b.length := by
    obtain ⟨a', n', c', he, hl, _⟩ := Sat.rd hS3
    cases he
    rw [bys_len, Nat.mul_one] at hl
    exact hl.symm
  subst hbn
  clear A0
  obtain ⟨la, lc, rfl⟩ := sgs_sl (Sat.rd (hS3.pk (A := osl 84 2 lv (segw L.l))))
  cases hon : L.on
  · have hf := Seg.Log.fits_off b.length hon
    have hfin := Lib.hid (A2.out rfl hf)
    have hwL : IntKind.i64.wrap ((L.l.length : Int) - 1) = (L.l.length : Int) - 1 := IntWalk.i64_in _ (by have := Hln.out; omega)
    have c3 : w3.cell? ⟨p, 3, none⟩ = some (.bool false) := hS3.cellP (by first | ((repeat (first | with_reducible apply pick0 | with_reducible apply pick_there)); done) | ((repeat (first | apply pick0 | apply pick_there)); done) | fail) 3 (by rw [← hon]; rfl)
    clear hf A1 A2 hon
    go_wp2_with ((with_reducible apply at_load); refine ⟨?_⟩; refine wl_load1 (by assumption) (by rfl) (by first | ((repeat (first | with_reducible apply pick0 | with_reducible apply pick_there)); done) | ((repeat (first | apply pick0 | apply pick_there)); done) | fail) (Nat.le_of_ble_eq_true (by rfl)) (by conv => lhs; whnf) (by kernel_rfl) ?_)
    have hS4 := hS3.drew
    have c3' : w3.drew.cell? ⟨p, 3, none⟩ = some (.bool false) := c3
    go_region
    clear c3 c3'
    have hS5 : Sat w0 _ (RLogRep p d L :: DskRep d D :: _) := RLogRep.shut (lv := .slice la L.l.length lc) (hS4.sb)
    go_wp2_with fail
    refine (rlbegin_c HL.out HD.out HKK.out b (by have := Hel2.out; omega) (by first | assumption | exact Ro.op (Ro.bsl _ _) | exact Ro.os (by assumption)) hS5).mono ?_
    rintro ee w5 ⟨v, rfl, rfl, hS6⟩
    clear hS4 hS5 hS3
    go_wp2_with ((with_reducible apply at_store); refine ⟨?_⟩; refine wl_store (by assumption) (by rfl) (by conv => lhs; whnf) (by first | (simp only [putsAt, Value.cells]; (try go_frame); first | done | rfl) | rfl) (by first | ((repeat (first | with_reducible apply upd0 | with_reducible apply upd_there)); done) | ((repeat (first | apply upd0 | apply upd_there)); done) | fail) (Nat.le_of_ble_eq_true (by rfl)) (by kernel_rfl) (by rfl) ?_; intro wS hS)
    refine ⟨rfl, _, res_cell_tmp rfl (by assumption) (by rfl) (by first | ((repeat (first | with_reducible apply pick0 | with_reducible apply pick_there)); done) | ((repeat (first | apply pick0 | apply pick_there)); done) | fail) Tryz.underlying39 rfl (by kernel_rfl), _, rfl, ?_, ?_⟩
    · rw [hfin.out]; rfl
    · rw [hfin.out]; exact Sat.sb hS
  · obtain ⟨s, hl⟩ := HL.out.last hon
    obtain ⟨bk, n, cap, cs, hle, hb, c0, c1, hB⟩ := rseg_block hl (hS3.sb)
    have hn := hb.len
    rw [hn] at hS3 hle
    cases hle
    have HB5 := Lib.hid (fun (w' : World) (F' : List HProp) (h' : Sat w0 w' (rlogPt p d L (.slice (some ⟨bk, 0, none⟩) (n + 1) lc) :: osl 84 2 (.slice (some ⟨bk, 0, none⟩) (n + 1) lc) (segw L.l) :: F')) => rseg_block hl h')
    have hf := Seg.Log.fits_on b.length hon hl
    have hs := HL.out.sizes s (List.mem_of_getLast? hl)
    have hlim := HL.out.limit
    have hln := Hln.out
    have hn0 : (n : Int) < (n : Int) + 1 := by omega
    have hn1 : (0 : Int) ≤ (n : Int) := by omega
    have hwn : IntKind.i64.wrap (n : Int) = (n : Int) := by rw [IntKind.wrap_i64]; omega
    have hwz : IntKind.i64.wrap (s.2 + (b.length : Int)) = s.2 + (b.length : Int) := by rw [IntKind.wrap_i64]; have := Hel2.out; omega
    have hwd : IntKind.i64.wrap (L.limit - s.2) = L.limit - s.2 := by rw [IntKind.wrap_i64]; omega
    have g1 : w3.drew.cell? ⟨p, 1, none⟩ = some (.int .i64 L.limit) := hB.drew.cellP (by first | ((repeat (first | with_reducible apply pick0 | with_reducible apply pick_there)); done) | ((repeat (first | apply pick0 | apply pick_there)); done) | fail) 1 rfl
    have g2 : w3.drew.cell? ⟨p, 2, none⟩ = some (.slice (some ⟨bk, 0, none⟩) (n + 1) lc) := hB.drew.cellP (by first | ((repeat (first | with_reducible apply pick0 | with_reducible apply pick_there)); done) | ((repeat (first | apply pick0 | apply pick_there)); done) | fail) 2 rfl
    have g3 : w3.drew.cell? ⟨p, 3, none⟩ = some (.bool true) := hB.drew.cellP (by first | ((repeat (first | with_reducible apply pick0 | with_reducible apply pick_there)); done) | ((repeat (first | apply pick0 | apply pick_there)); done) | fail) 3 (by rw [← hon]; rfl)
    have g4 : w3.drew.cell? ⟨bk, n * 2 + 1, none⟩ = some (.int .i64 s.2) := hB.drew.cellP (by first | ((repeat (first | with_reducible apply pick0 | with_reducible apply pick_there)); done) | ((repeat (first | apply pick0 | apply pick_there)); done) | fail) _ c1
    have g5 : w3.cell? ⟨p, 2, none⟩ = some (.slice (some ⟨bk, 0, none⟩) (n + 1) lc) := hB.cellP (by first | ((repeat (first | with_reducible apply pick0 | with_reducible apply pick_there)); done) | ((repeat (first | apply pick0 | apply pick_there)); done) | fail) 2 rfl
    have Hl := Lib.hid hl; have Hb := Lib.hid hb; have Hs := Lib.hid hs; have Hc0 := Lib.hid c0; have Hc1 := Lib.hid c1
    clear hs hlim hn hln hl hb c0 c1 hon
    by_cases hfit : s.2 + (b.length : Int) ≤ L.limit
    rotate_left
    · have hfd : decide (s.2 + (b.length : Int) ≤ L.limit) = false := decide_eq_false hfit
      have hfin := Lib.hid (A2.out rfl (hf.trans hfd))
      have hfd2 : decide ((b.length : Int) ≤ L.limit - s.2) = false := decide_eq_false (by omega)
      clear hf hfd A1 A2 hB hwz hfit
      go_wp2_with fail
      have hS4 := hS3.drew
      go_region
      clear g1 g2 g3 g4 g5
      have hS5 : Sat w0 _ (RLogRep p d L :: DskRep d D :: _) := RLogRep.shut (lv := .slice (some ⟨bk, 0, none⟩) (n + 1) lc) (hS4.sb)
      go_wp2_with fail
      refine (rlbegin_c HL.out HD.out HKK.out b (by have := Hel2.out; omega) (by first | assumption | exact Ro.op (Ro.bsl _ _) | exact Ro.os (by assumption)) hS5).mono ?_
      rintro ee w5 ⟨v, rfl, rfl, hS6⟩
      clear hS4 hS5 hS3
      go_wp2_with ((with_reducible apply at_store); refine ⟨?_⟩; refine wl_store (by assumption) (by rfl) (by conv => lhs; whnf) (by first | (simp only [putsAt, Value.cells]; (try go_frame); first | done | rfl) | rfl) (by first | ((repeat (first | with_reducible apply upd0 | with_reducible apply upd_there)); done) | ((repeat (first | apply upd0 | apply upd_there)); done) | fail) (Nat.le_of_ble_eq_true (by rfl)) (by kernel_rfl) (by rfl) ?_; intro wS hS)
      refine ⟨rfl, _, res_cell_tmp rfl (by assumption) (by rfl) (by first | ((repeat (first | with_reducible apply pick0 | with_reducible apply pick_there)); done) | ((repeat (first | apply pick0 | apply pick_there)); done) | fail) Tryz.underlying39 rfl (by kernel_rfl), _, rfl, ?_, ?_⟩
      · rw [hfin.out]; rfl
      · rw [hfin.out]; exact Sat.sb hS
    · have hfd : decide (s.2 + (b.length : Int) ≤ L.limit) = true := decide_eq_true hfit
      have hfd2 : decide ((b.length : Int) ≤ L.limit - s.2) = true := decide_eq_true (by omega)
      have hfd3 : (b.length : Int) ≤ L.limit - s.2 := by omega
      have Hfin := Lib.hid (A1.out rfl (hf.trans hfd))
      have Hg := Lib.hid (show L.grow D b = if (D.append (Seg.name s.1) b).2 = 0 then (({ L with l := L.l.dropLast ++ [(s.1, s.2 + (b.length : Int))] }, (D.append (Seg.name s.1) b).1), ⟨s.1, s.2, b.length⟩, 0)
        else ((L, (D.append (Seg.name s.1) b).1), Seg.Plc.zero, (D.append (Seg.name s.1) b).2) by unfold Seg.Log.grow; rw [Hl.out])
      have Hwz := Lib.hid hwz
      clear hf hfd A1 A2 hB hwz hfit
      go_wp2_with fail
      have hS4 := hS3.drew
      go_region
      clear g1 g2 g3 g4 g5 hS3
      go_wp2_with fail
      obtain ⟨bk2, n2, cap2, cs, hle, hb, Hc0, Hc1, hS5⟩ := HB5.out _ _ (hS4.sb)
      cases hle
      clear hS4
      replace Hc0 := Lib.hid Hc0; replace Hc1 := Lib.hid Hc1; have Hb := Lib.hid hb
      have hS6 := hS5.drew
      refine wpL_begin [15, 16] (fun w' => w'.cell? ⟨p, 0, none⟩ = some (ptr d) ∧ w'.cell? ⟨p, 2, none⟩ = some (.slice (some ⟨bk, 0, none⟩) (n + 1) lc) ∧ w'.cell? ⟨bk, n * 2, none⟩ = some (.int .i64 s.1)) (by kernel_rfl) ?_
      have hG : World.cell? (World.drew _) ⟨p, 0, none⟩ = some (ptr d) ∧ World.cell? (World.drew _) ⟨p, 2, none⟩ = some (.slice (some ⟨bk, 0, none⟩) (n + 1) lc) ∧ World.cell? (World.drew _) ⟨bk, n * 2, none⟩ = some (.int .i64 s.1) := ⟨hS6.cellP (by first | ((repeat (first | with_reducible apply pick0 | with_reducible apply pick_there)); done) | ((repeat (first | apply pick0 | apply pick_there)); done) | fail) 0 rfl, hS6.cellP (by first | ((repeat (first | with_reducible apply pick0 | with_reducible apply pick_there)); done) | ((repeat (first | apply pick0 | apply pick_there)); done) | fail) 2 rfl, hS6.cellP (by first | ((repeat (first | with_reducible apply pick0 | with_reducible apply pick_there)); done) | ((repeat (first | apply pick0 | apply pick_there)); done) | fail) _ Hc0.out⟩
      refine rp 0 (hy := (yl_move (by conv => lhs; whnf))) (h := ?_)
      refine rp 1 (hy := (yl_nil (by conv => lhs; whnf))) (h := ?_)
      refine rp 2 (hy := (yl_field (by conv => lhs; whnf) (by ((intro wq; go_simp); first | done | (with_reducible rfl))))) (h := ?_)
      refine rt 3 (h := ?_)
      refine rp 4 (hy := (yl_move (by conv => lhs; whnf))) (h := ?_)
      refine rp 5 (hy := (yl_nil (by conv => lhs; whnf))) (h := ?_)
      refine rp 6 (hy := (yl_field (by conv => lhs; whnf) (by ((intro wq; go_simp); first | done | (with_reducible rfl))))) (h := ?_)
      refine rt 7 (h := ?_)
      refine rp 8 (hy := (yl_move (by conv => lhs; whnf))) (h := ?_)
      refine rp 9 (hy := (yl_index (by conv => lhs; whnf) (by conv => lhs; whnf) (by ((intro wq; go_simp); first | done | (with_reducible rfl))))) (h := ?_)
      refine rp 10 (hy := (yl_field (by conv => lhs; whnf) (by ((intro wq; go_simp); first | done | (with_reducible rfl))))) (h := ?_)
      refine rt 11 (h := ?_)
      refine rp 13 (hy := (yl_move (by conv => lhs; whnf))) (h := ?_)
      refine rp 14 (hy := (by (refine Or.inl ⟨by rfl, ?_⟩; ((intro wq; go_simp); first | done | (with_reducible rfl))))) (h := ?_)
      clear hG
      refine rg_eff 12 (by conv => lhs; whnf) (by kernel_rfl) (fun K hK => ?_)
      (refine eff_call1 (by kernel_rfl) (by conv => lhs; whnf) ?_)
      refine (rname_c s.1 _).mono ?_
      rintro e w7 ⟨v, rfl, rfl, rfl⟩
      refine hK _ _ (.inr (.inr rfl)) ?_
      clear hK
      refine rg_eff 15 (by conv => lhs; whnf) (by kernel_rfl) (fun K hK => ?_)
      (refine eff_call3 (by kernel_rfl) (by conv => lhs; whnf) (by conv => lhs; whnf) (by conv => lhs; whnf) ?_)
      have hSp := hS6.pk (A := DskRep d D)
      refine (rappend_c (Seg.name s.1) b (by first | assumption | exact Ro.op (Ro.bsl _ _) | exact Ro.os (by assumption)) (by have := Hel2.out; omega) HD.out.ok (by have := HKK.out; omega) (Nat.le_trans HD.out.ok.used_le (by decide)) hSp).mono ?_
      rintro e w8 ⟨v, rfl, rfl, hS8⟩
      refine hK _ _ (.inl rfl) ?_
      clear hK hSp hS6 hS5
      refine rp 16 (hy := (yl_assign (by conv => lhs; whnf))) (h := ?_)
      refine wpL_done (by kernel_rfl) ?_
      clear HD HL
      generalize D.append (Seg.name s.1) b = C at *
      obtain ⟨D2, e3⟩ := C
      by_cases he : e3 = 0
      rotate_left
      · have heb : (e3 == 0) = false := beq_false_of_ne he
        have hfin := Lib.hid (Hfin.out.trans (Hg.out.trans (if_neg he)))
        clear he
        go_wp2_with ((with_reducible apply at_store); refine ⟨?_⟩; refine wl_store (by assumption) (by rfl) (by conv => lhs; whnf) (by first | (simp only [putsAt, Value.cells]; (try go_frame); first | done | rfl) | rfl) (by first | ((repeat (first | with_reducible apply upd0 | with_reducible apply upd_there)); done) | ((repeat (first | apply upd0 | apply upd_there)); done) | fail) (Nat.le_of_ble_eq_true (by rfl)) (by kernel_rfl) (by rfl) ?_; intro wS hS)
        refine ⟨rfl, _, res_cell_tmp rfl (by assumption) (by rfl) (by first | ((repeat (first | with_reducible apply pick0 | with_reducible apply pick_there)); done) | ((repeat (first | apply pick0 | apply pick_there)); done) | fail) Tryz.underlying39 rfl (by kernel_rfl), _, rfl, ?_, ?_⟩
        · rw [hfin.out]; rfl
        · rw [hfin.out]
          have h6 := rseg_keep Hb.out (Sat.pk hS)
          exact RLogRep.shut (lv := .slice (some ⟨bk, 0, none⟩) (n + 1) lc) (Sat.sb h6)
      subst he
      have hfin := Lib.hid (Hfin.out.trans (Hg.out.trans (if_pos rfl)))
      clear Hfin Hg
      have e1 : w8.cell? ⟨bk, n * 2 + 1, none⟩ = some (.int .i64 s.2) := hS8.cellP (by first | ((repeat (first | with_reducible apply pick0 | with_reducible apply pick_there)); done) | ((repeat (first | apply pick0 | apply pick_there)); done) | fail) _ Hc1.out
      have e2 : w8.cell? ⟨p, 2, none⟩ = some (.slice (some ⟨bk, 0, none⟩) (n + 1) lc) := hS8.cellP (by first | ((repeat (first | with_reducible apply pick0 | with_reducible apply pick_there)); done) | ((repeat (first | apply pick0 | apply pick_there)); done) | fail) 2 rfl
      have hfit := Hb.out.size; have hle := Hb.out.le
      have hst := Lib.hid (show n * 2 + 1 + (Value.int .i64 (s.2 + (b.length : Int))).cells.size ≤ cs.size by show n * 2 + 1 + 1 ≤ cs.size; omega)
      have hwz := Hwz.out
      clear hfit hle hb
      go_wp2_with (refine wpList_stop (by rfl) ?_)
      refine ⟨?_⟩
      refine wl_store (b := bk) (o := n * 2 + 1) (v := .int .i64 (s.2 + (b.length : Int))) (by assumption) (by rfl) (by rfl) rfl (by first | ((repeat (first | with_reducible apply upd0 | with_reducible apply upd_there)); done) | ((repeat (first | apply upd0 | apply upd_there)); done) | fail) hst.out (by kernel_rfl) (by rfl) ?_
      intro w9 hS9
      have e0 : w9.cell? ⟨bk, n * 2, none⟩ = some (.int .i64 s.1) := hS9.cellP (by first | ((repeat (first | with_reducible apply pick0 | with_reducible apply pick_there)); done) | ((repeat (first | apply pick0 | apply pick_there)); done) | fail) _ (by
        show (cs.setIfInBounds (n * 2 + 1) _)[n * 2]? = _
        rw [Array.getElem?_setIfInBounds_ne (by omega)]; exact Hc0.out)
      have e3 : w9.cell? ⟨p, 2, none⟩ = some (.slice (some ⟨bk, 0, none⟩) (n + 1) lc) := hS9.cellP (by first | ((repeat (first | with_reducible apply pick0 | with_reducible apply pick_there)); done) | ((repeat (first | apply pick0 | apply pick_there)); done) | fail) 2 rfl
      clear e1 e2 hst hwz
      go_wp2_with ((with_reducible apply at_store); refine ⟨?_⟩; refine wl_store (by assumption) (by rfl) (by conv => lhs; whnf) (by first | (simp only [putsAt, Value.cells]; (try go_frame); first | done | rfl) | rfl) (by first | ((repeat (first | with_reducible apply upd0 | with_reducible apply upd_there)); done) | ((repeat (first | apply upd0 | apply upd_there)); done) | fail) (Nat.le_of_ble_eq_true (by rfl)) (by kernel_rfl) (by rfl) ?_; intro wS hS)
      refine ⟨rfl, _, res_cell_tmp rfl (by assumption) (by rfl) (by first | ((repeat (first | with_reducible apply pick0 | with_reducible apply pick_there)); done) | ((repeat (first | apply pick0 | apply pick_there)); done) | fail) Tryz.underlying39 rfl (by kernel_rfl), _, rfl, ?_, ?_⟩
      · rw [hfin.out]; rfl
      · rw [hfin.out]
        have h6 := rseg_close Hl.out Hb.out _ (Sat.pk hS)
        exact RLogRep.shut (lv := .slice (some ⟨bk, 0, none⟩) (n + 1) lc) (Sat.sb h6)
end
end Go.Proofs.YtmjldaedhmipkaaGreatDoor
/- hoardref14's Log.Commit. -/
namespace Go.Proofs.YtmjldaedhmipkaaGreatDoor
open Go Go.Sl Go.Med Go.MapKept Go.RowKit
set_option linter.unusedVariables false
section
variable {w0 w : World} {F R : List HProp} {p d q : Nat} {L : Seg.Log} {lv v bv : Value} {M : Med} {K : Nat}
set_option maxRecDepth 20000 in
set_option maxHeartbeats 8000000 in
theorem rlcommit_c (hL : L.Ok) (hM : Seg.Fit K M) (hKK : K ≤ 1048000) (h : Sat w0 w (RLogRep p d L :: DskRep d M :: F)) :
    Calls Tryz.prog 20 #[ptr p] w (Rtn fun v w' => v = .tuple #[.int .i64 (L.rcommit M).2.1, errno (L.rcommit M).2.2] ∧
      Sat w0 w' (RLogRep p d (L.rcommit M).1.1 :: DskRep d (L.rcommit M).1.2 :: F)) := by
  have hap := rlappend_c Seg.comEnt rfl none 0 (fun w _ => rdsl_nil 1 0 w) hL hM hKK h
  have Hg := Lib.hid (Seg.rcommit_eq L M)
  have HM := Lib.hid (hM.lappend (L := L) Seg.comEnt)
  have HKK := Lib.hid hKK
  clear hL hM h hKK
  generalize L.rappend M Seg.comEnt = A at *
  obtain ⟨⟨L1, M1⟩, pl, e1⟩ := A
  go_enter Tryz.func20, Tryz.ntmps20
  go_wp2_with fail
  refine hap.mono ?_
  rintro e w1 ⟨v, rfl, rfl, hS1⟩
  clear hap
  by_cases he : e1 = 0
  rotate_left
  · have heb : (e1 == 0) = false := beq_false_of_ne he
    have hfin := Lib.hid (Hg.out.trans (if_pos he))
    clear he
    go_wp2_with (first | (refine wl_alloc zPlace (by assumption) rfl ?_; intro q w2 hS2) | ((with_reducible apply at_store); refine ⟨?_⟩; refine wl_store (by assumption) (by rfl) (by conv => lhs; whnf) (by first | (simp only [putsAt, Value.cells]; (try go_frame); first | done | rfl) | rfl) (by first | ((repeat (first | with_reducible apply upd0 | with_reducible apply upd_there)); done) | ((repeat (first | apply upd0 | apply upd_there)); done) | fail) (Nat.le_of_ble_eq_true (by rfl)) (by kernel_rfl) (by rfl) ?_; intro wS hS))
    go_ret2
    refine ⟨.tuple #[.int .i64 0, errno e1], rfl, ?_, ?_⟩
    · rw [hfin.out]
    · rw [hfin.out]; exact Sat.sb hS
  subst he
  have H1 := Lib.hid (Hg.out.trans (if_neg (fun h => h rfl)))
  clear Hg
  go_wp2_with (first | (refine wl_alloc zPlace (by assumption) rfl ?_; intro q w2 hS2) | ((with_reducible apply at_store); refine ⟨?_⟩; refine wl_store (by assumption) (by rfl) (by conv => lhs; whnf) (by first | (simp only [putsAt, Value.cells]; (try go_frame); first | done | rfl) | rfl) (by first | ((repeat (first | with_reducible apply upd0 | with_reducible apply upd_there)); done) | ((repeat (first | apply upd0 | apply upd_there)); done) | fail) (Nat.le_of_ble_eq_true (by rfl)) (by kernel_rfl) (by rfl) ?_; intro wS hS))
  have hS1 := hS
  clear hS hS2
  obtain ⟨lv, hR⟩ := RLogRep.open (Sat.pk (by assumption))
  clear hS1
  go_wp2_with fail
  refine wpL_begin [7, 8] (fun w' => w'.cell? ⟨p, 0, none⟩ = some (ptr d) ∧ w'.cell? ⟨q, 0, none⟩ = some (.int .i64 pl.seg)) (by kernel_rfl) ?_
  have hG : (World.drew _).cell? ⟨p, 0, none⟩ = some (ptr d) ∧ (World.drew _).cell? ⟨q, 0, none⟩ = some (.int .i64 pl.seg) := ⟨hR.drew.cellP (by first | ((repeat (first | with_reducible apply pick0 | with_reducible apply pick_there)); done) | ((repeat (first | apply pick0 | apply pick_there)); done) | fail) 0 rfl, hR.drew.cellP (by first | ((repeat (first | with_reducible apply pick0 | with_reducible apply pick_there)); done) | ((repeat (first | apply pick0 | apply pick_there)); done) | fail) 0 rfl⟩
  refine rp 0 (hy := (yl_move (by conv => lhs; whnf))) (h := ?_)
  refine rp 1 (hy := (yl_nil (by conv => lhs; whnf))) (h := ?_)
  refine rp 2 (hy := (yl_field (by conv => lhs; whnf) (by ((intro wq; go_simp); first | done | (with_reducible rfl))))) (h := ?_)
  refine rt 3 (h := ?_)
  refine rp 4 (hy := (yl_field (by conv => lhs; whnf) (by ((intro wq; go_simp); first | done | (with_reducible rfl))))) (h := ?_)
  refine rt 5 (h := ?_)
  clear hG
  refine rg_eff 6 (by conv => lhs; whnf) (by kernel_rfl) (fun K hK => ?_)
  (refine eff_call1 (by kernel_rfl) (by conv => lhs; whnf) ?_)
  refine (rname_c pl.seg _).mono ?_
  rintro e w3 ⟨v, rfl, rfl, rfl⟩
  refine hK _ _ (.inr (.inr rfl)) ?_
  have hS3 := hR.drew
  clear hK
  refine rg_eff 7 (by conv => lhs; whnf) (by kernel_rfl) (fun K hK => ?_)
  (refine eff_call3 (by kernel_rfl) (by conv => lhs; whnf) (by conv => lhs; whnf) (by conv => lhs; whnf) ?_)
  refine (rsync_c (Seg.name pl.seg) (by have := HM.out.now; omega) HM.out.ok.left (fun i hi => HM.out.len hi) (Sat.pk (by assumption))).mono ?_
  rintro e w4 ⟨v, rfl, rfl, hS4⟩
  refine hK _ _ (.inl rfl) ?_
  clear hK hS3 hR
  refine rp 8 (hy := (yl_assign (by conv => lhs; whnf))) (h := ?_)
  refine wpL_done (by kernel_rfl) ?_
  have HM2 := Lib.hid (HM.out.sync (Seg.name pl.seg))
  generalize M1.sync (Seg.name pl.seg) = B at *
  obtain ⟨M2, e2⟩ := B
  by_cases he : e2 = 0
  rotate_left
  · have heb : (e2 == 0) = false := beq_false_of_ne he
    have hfin := Lib.hid (H1.out.trans (if_pos he))
    clear he
    go_wp2_with fail
    go_ret2
    refine ⟨.tuple #[.int .i64 0, errno e2], rfl, ?_, ?_⟩
    · rw [hfin.out]
    · rw [hfin.out]; exact RLogRep.shut (lv := lv) (Sat.sb hS4)
  subst he
  have H2 := Lib.hid (H1.out.trans (if_neg (fun h => h rfl)))
  clear H1
  have e0 : w4.cell? ⟨p, 0, none⟩ = some (ptr d) := hS4.cellP (by first | ((repeat (first | with_reducible apply pick0 | with_reducible apply pick_there)); done) | ((repeat (first | apply pick0 | apply pick_there)); done) | fail) 0 rfl
  go_wp2_with fail
  refine (rsyncd_c ByteArray.empty (by have := HM2.out.now; omega) HM2.out.ok.left (Sat.pk (by assumption))).mono ?_
  rintro e w5 ⟨v, rfl, rfl, hS5⟩
  clear hS4 e0
  generalize M2.syncDir = C at *
  obtain ⟨M3, e3⟩ := C
  by_cases he : e3 = 0
  rotate_left
  · have heb : (e3 == 0) = false := beq_false_of_ne he
    have hfin := Lib.hid (H2.out.trans (if_pos he))
    clear he
    go_wp2_with fail
    go_ret2
    refine ⟨.tuple #[.int .i64 0, errno e3], rfl, ?_, ?_⟩
    · rw [hfin.out]
    · rw [hfin.out]; exact RLogRep.shut (lv := lv) (Sat.sb hS5)
  subst he
  have hfin := Lib.hid (H2.out.trans (if_neg (fun h => h rfl)))
  clear H2
  go_wp2_with (first | ((with_reducible apply at_load); refine ⟨?_⟩; refine wl_load1 (by assumption) (by rfl) (by first | ((repeat (first | with_reducible apply pick0 | with_reducible apply pick_there)); done) | ((repeat (first | apply pick0 | apply pick_there)); done) | fail) (Nat.le_of_ble_eq_true (by rfl)) (by conv => lhs; whnf) (by kernel_rfl) ?_) | ((with_reducible apply at_store); refine ⟨?_⟩; refine wl_store (by assumption) (by rfl) (by conv => lhs; whnf) (by first | (simp only [putsAt, Value.cells]; (try go_frame); first | done | rfl) | rfl) (by first | ((repeat (first | with_reducible apply upd0 | with_reducible apply upd_there)); done) | ((repeat (first | apply upd0 | apply upd_there)); done) | fail) (Nat.le_of_ble_eq_true (by rfl)) (by kernel_rfl) (by rfl) ?_; intro wS hS))
  go_ret2
  refine ⟨.tuple #[.int .i64 pl.seg, errno 0], rfl, ?_, ?_⟩
  · rw [hfin.out]
  · rw [hfin.out]; exact RLogRep.shut (lv := lv) (Sat.sb hS)
end
end Go.Proofs.YtmjldaedhmipkaaGreatDoor
/- hoardref14's Log.Rollback. -/
namespace Go.Seg
open Go.Med
theorem rremove_ok {L : Log} {D : Med} (h : L.Ok) (n : Int) : (L.rremove D n).1.1.Ok := by
  unfold Log.rremove
  cases hi : L.at n with
  | none => exact h
  | some i =>
    simp only
    split
    · exact h.without i (Log.at_lt hi).1
    · exact h
end Go.Seg
namespace Go.Proofs.YtmjldaedhmipkaaGreatDoor
open Go Go.Sl Go.Med Go.MapKept Go.RowKit
set_option linter.unusedVariables false
section
variable {w0 w : World} {F R : List HProp} {p d q : Nat} {L : Seg.Log} {lv v bv : Value} {M : Med} {K : Nat} {s : Int × Int}
theorem rback_last {L : Seg.Log} {M : Med} (hl : L.l.getLast? = some s) (hf : 0 < L.fresh) : L.rrollback M = if (L.rremove M s.1).2 = 0 then Seg.Log.rback (L.fresh.toNat - 1) (L.rremove M s.1).1.1 (L.rremove M s.1).1.2 else L.rremove M s.1 := by
  unfold Seg.Log.rrollback
  obtain ⟨k, hk⟩ : ∃ k, L.fresh.toNat = k + 1 := ⟨L.fresh.toNat - 1, by omega⟩
  rw [hk]
  show (match L.l.getLast? with | none => _ | some s => _) = _
  rw [hl]; rfl
/-- A fresh one gone: one fewer is fresh. -/
theorem rremove_fresh {L : Seg.Log} {M : Med} (hL : L.Ok) (hl : L.l.getLast? = some s) (hf : 0 < L.fresh) (h : (L.rremove M s.1).2 = 0) : (L.rremove M s.1).1.1.fresh = L.fresh - 1 := by
  have ha := hL.at_last hl
  unfold Seg.Log.rremove at *
  rw [ha] at h ⊢
  simp only at h ⊢
  split
  · unfold Seg.Log.without
    have := hL.fresh
    simp only
    rw [if_pos (by omega)]
  · rename_i hh; rw [if_neg hh] at h; exact absurd h hh
set_option maxRecDepth 20000 in
set_option maxHeartbeats 16000000 in
theorem rlrollback_c (hL : L.Ok) (hM : Seg.Fit K M) (hKK : K + L.fresh.toNat ≤ 1048000) (h : Sat w0 w (RLogRep p d L :: DskRep d M :: F)) :
    Calls Tryz.prog 22 #[ptr p] w (Rtn fun v w' => v = errno (L.rrollback M).2 ∧ Sat w0 w' (RLogRep p d (L.rrollback M).1.1 :: DskRep d (L.rrollback M).1.2 :: F)) := by
  have Hres := Lib.hid (rfl : L.rrollback M = L.rrollback M)
  generalize hres : L.rrollback M = RES at Hres ⊢
  have Hq := Lib.hid (show L.rrollback M = RES from hres)
  have hfl : L.fresh.toNat ≤ 1048576 := by have := hL.fresh; have := hL.len; omega
  have hinit : Hid (∃ (L' : Seg.Log) (M' : Med) (K' : Nat), L'.Ok ∧ Seg.Fit K' M' ∧ K' + L'.fresh.toNat ≤ 1048000 ∧ L'.rrollback M' = RES ∧ L'.fresh.toNat = L.fresh.toNat ∧ Sat w0 w (RLogRep p d L' :: DskRep d M' :: F)) := Lib.hid ⟨L, M, K, hL, hM, by omega, hres, rfl, h⟩
  clear hres Hres hL hM h Hq hfl
  go_enter Tryz.func22, Tryz.ntmps22
  go_wp2_with fail
  go_loopg [] L.fresh.toNat (fun g wr => ∃ (L' : Seg.Log) (M' : Med) (K' : Nat), L'.Ok ∧ Seg.Fit K' M' ∧ K' + L'.fresh.toNat ≤ 1048000 ∧ L'.rrollback M' = RES ∧ L'.fresh.toNat = g ∧ Sat w0 wr (RLogRep p d L' :: DskRep d M' :: F))
  case atStart => exact hinit.out
  case round =>
    obtain ⟨L1, M1, K1, hL, hM, hKK1, hres, rfl, hS⟩ := hrel
    clear hinit
    by_cases hf : 0 < L1.fresh
    · have hne : L1.l ≠ [] := by intro e; have := hL.fresh; rw [e] at this; simp at this; omega
      obtain ⟨s, hl⟩ : ∃ s, L1.l.getLast? = some s := ⟨_, List.getLast?_eq_some_getLast hne⟩
      have hbl := rback_last (M := M1) hl hf
      rw [hres] at hbl
      have Hbl := Lib.hid hbl
      have Hrf := Lib.hid (rremove_fresh (M := M1) hL hl hf)
      have HL2 := Lib.hid (Seg.rremove_ok (D := M1) hL s.1)
      have HM2 := Lib.hid (hM.lremove (L := L1) s.1)
      have hrm := rlremove_c hL hM (by omega) s.1 hS.drew
      obtain ⟨lv, hR⟩ := RLogRep.open hS
      have hlen := hL.len
      obtain ⟨bk, n, cap, cs, rfl, hb, c0, c1, hB⟩ := rseg_block hl hR
      have hn := hb.len
      have hn0 : (n : Int) < (n : Int) + 1 := by omega
      have hwn : IntKind.i64.wrap (n : Int) = (n : Int) := by rw [IntKind.wrap_i64]; omega
      have e4 : wr.cell? ⟨p, 4, none⟩ = some (.int .i64 L1.fresh) := hB.cellP (by first | ((repeat (first | with_reducible apply pick0 | with_reducible apply pick_there)); done) | ((repeat (first | apply pick0 | apply pick_there)); done) | fail) 4 rfl
      have hG : wr.drew.cell? ⟨p, 2, none⟩ = some (.slice (some ⟨bk, 0, none⟩) (n + 1) cap) ∧ wr.drew.cell? ⟨bk, n * 2, none⟩ = some (.int .i64 s.1) := ⟨hB.drew.cellP (by first | ((repeat (first | with_reducible apply pick0 | with_reducible apply pick_there)); done) | ((repeat (first | apply pick0 | apply pick_there)); done) | fail) 2 rfl, hB.drew.cellP (by first | ((repeat (first | with_reducible apply pick0 | with_reducible apply pick_there)); done) | ((repeat (first | apply pick0 | apply pick_there)); done) | fail) _ c0⟩
      have Hf := Lib.hid (show 0 < L1.fresh ∧ K1 + L1.fresh.toNat ≤ 1048000 from ⟨hf, hKK1⟩)
      clear hbl hne hl hb c0 c1 hB hR hlen hn hres hL hM hKK1
      go_wp2_with fail
      refine wpL_begin [14, 15] (fun w' => w'.cell? ⟨p, 2, none⟩ = some (.slice (some ⟨bk, 0, none⟩) (n + 1) cap) ∧ w'.cell? ⟨bk, n * 2, none⟩ = some (.int .i64 s.1)) (by kernel_rfl) ?_
      refine rp 0 (hy := (yl_move (by conv => lhs; whnf))) (h := ?_)
      refine rp 1 (hy := (yl_move (by conv => lhs; whnf))) (h := ?_)
      refine rp 2 (hy := (yl_nil (by conv => lhs; whnf))) (h := ?_)
      refine rp 3 (hy := (yl_field (by conv => lhs; whnf) (by ((intro wq; go_simp); first | done | (with_reducible rfl))))) (h := ?_)
      refine rt 4 (h := ?_)
      refine rp 5 (hy := (yl_move (by conv => lhs; whnf))) (h := ?_)
      refine rp 6 (hy := (yl_nil (by conv => lhs; whnf))) (h := ?_)
      refine rp 7 (hy := (yl_field (by conv => lhs; whnf) (by ((intro wq; go_simp); first | done | (with_reducible rfl))))) (h := ?_)
      refine rt 8 (h := ?_)
      refine rp 9 (hy := (yl_len (by conv => lhs; whnf) (by ((intro wq; go_simp); first | done | (with_reducible rfl))))) (h := ?_)
      refine rp 10 (hy := (yl_bin (by conv => lhs; whnf) (by conv => lhs; whnf) (by ((intro wq; go_simp); first | done | (with_reducible rfl))))) (h := ?_)
      refine rp 11 (hy := (yl_index (by conv => lhs; whnf) (by conv => lhs; whnf) (by ((intro wq; go_simp); first | done | (with_reducible rfl))))) (h := ?_)
      refine rp 12 (hy := (yl_field (by conv => lhs; whnf) (by ((intro wq; go_simp); first | done | (with_reducible rfl))))) (h := ?_)
      refine rt 13 (h := ?_)
      clear hG e4
      refine rg_eff 14 (by conv => lhs; whnf) (by kernel_rfl) (fun K hK => ?_)
      (refine eff_call2 (by kernel_rfl) (by conv => lhs; whnf) (by conv => lhs; whnf) ?_)
      refine hrm.mono ?_
      rintro e w3 ⟨v, rfl, rfl, hS3⟩
      refine hK _ _ (.inl rfl) ?_
      clear hK hS hrm
      refine rp 15 (hy := (yl_assign (by conv => lhs; whnf))) (h := ?_)
      refine wpL_done (by kernel_rfl) ?_
      generalize L1.rremove M1 s.1 = A at *
      obtain ⟨⟨L2, M2⟩, e2⟩ := A
      by_cases he : e2 = 0
      · subst he
        have H1 := Lib.hid (Hbl.out.trans (if_pos rfl))
        have H2 := Lib.hid (show L2.fresh = L1.fresh - 1 from Hrf.out rfl)
        go_wp2_with fail
        go_roundg L2.fresh.toNat
        case measure => have := H2.out; have := Hf.out; omega
        case rel =>
          refine ⟨L2, M2, K1 + 1, HL2.out, HM2.out, ?_, ?_, rfl, hS3⟩
          · have := H2.out; have := Hf.out; omega
          · rw [H1.out]
            unfold Seg.Log.rrollback
            congr 1
            have := H2.out; have := Hf.out; omega
      · have heb : (e2 == 0) = false := beq_false_of_ne he
        have H1 := Lib.hid (Hbl.out.trans (if_neg he))
        clear he
        go_wp2_with fail
        go_ret
        rw [H1.out]
        exact ⟨_, rfl, rfl, hS3⟩
    · have hz : L1.fresh.toNat = 0 := by omega
      have H1 := Lib.hid (show RES = (({ L1 with on := false }, M1), 0) by
        rw [← hres]; unfold Seg.Log.rrollback; rw [hz]; rfl)
      obtain ⟨lv, hR⟩ := RLogRep.open hS
      have hle : L1.fresh ≤ 0 := by omega
      clear hres hL hM hKK1 hz hS
      go_wp2_with (first | ((with_reducible apply at_load); refine ⟨?_⟩; refine wl_load1 (by assumption) (by rfl) (by first | ((repeat (first | with_reducible apply pick0 | with_reducible apply pick_there)); done) | ((repeat (first | apply pick0 | apply pick_there)); done) | fail) (Nat.le_of_ble_eq_true (by rfl)) (by conv => lhs; whnf) (by kernel_rfl) ?_) | ((with_reducible apply at_store); refine ⟨?_⟩; refine wl_store (by assumption) (by rfl) (by conv => lhs; whnf) (by first | (simp only [putsAt, Value.cells]; (try go_frame); first | done | rfl) | rfl) (by first | ((repeat (first | with_reducible apply upd0 | with_reducible apply upd_there)); done) | ((repeat (first | apply upd0 | apply upd_there)); done) | fail) (Nat.le_of_ble_eq_true (by rfl)) (by kernel_rfl) (by rfl) ?_; intro wS hS))
      go_ret
      rw [H1.out]
      exact ⟨_, rfl, rfl, RLogRep.shut (lv := lv) (Sat.sb hS)⟩
end
end Go.Proofs.YtmjldaedhmipkaaGreatDoor
/- hoardref14's Log.Read. -/
namespace Go.Seg
open Go.Med
theorem read_size {M : Med} (s : ByteArray) (a n : Int) (h : (M.read s a n).2 = 0) : (((M.read s a n).1.length : Nat) : Int) = n := by
  revert h
  unfold Med.read
  dsimp only
  split; · simp
  split; · simp
  split; · simp
  split; · simp
  intro _
  simp only [List.length_take, List.length_drop]
  omega
theorem fread_le (l : Bs) (h : (Frm.read l).2.2 = 0) : (Frm.read l).2.1 ≤ l.length := by
  revert h
  unfold Frm.read
  dsimp only
  split; · simp
  split; · simp
  split; · simp
  split; · simp
  split
  · intro _; simp only; omega
  · intro _; simp only; omega
end Go.Seg
namespace Go.Proofs.YtmjldaedhmipkaaGreatDoor
open Go Go.Sl Go.Med Go.MapKept Go.RowKit
set_option linter.unusedVariables false
section
variable {w0 w : World} {F R : List HProp} {p d q : Nat} {L : Seg.Log} {lv v bv : Value} {M : Med} {K : Nat} {s : Int × Int}
set_option maxRecDepth 20000 in
set_option maxHeartbeats 16000000 in
theorem rlread_c (hL : L.Ok) (hM : Seg.Fit K M) (pl : Seg.Plc) (h1 : -9223372036854775808 ≤ pl.at_ ∧ pl.at_ ≤ 9223372036854775807) (h2 : -9223372036854775808 ≤ pl.size ∧ pl.size ≤ 9223372036854775807) (h : Sat w0 w (RLogRep p d L :: DskRep d M :: F)) :
    Calls Tryz.prog 32 #[ptr p, plcA pl] w (Rtn fun v w' => ∃ da dc, v = .tuple #[.agg (entA (L.read M pl).1 (.slice da (L.read M pl).1.data.length dc)), errno (L.read M pl).2] ∧
      Sat w0 w' (bsl (.slice da (L.read M pl).1.data.length dc) (L.read M pl).1.data :: RLogRep p d L :: DskRep d M :: F)) := by
  rcases find_neg (L := L) pl.seg with ⟨ha, hb⟩ | ⟨i, ha, hb⟩
  · have Hf := Lib.hid (show L.read M pl = (Frm.zeroE, 9) by unfold Seg.Log.read; rw [ha])
    have Hb := Lib.hid hb
    clear ha hb
    go_enter Tryz.func32, Tryz.ntmps32
    go_wp2_with (first | ((with_reducible apply at_box); refine ⟨?_⟩; refine wl_box (by assumption) (by conv => lhs; whnf) (by conv => lhs; whnf) ?_; intro bB wB hB) | ((with_reducible apply at_allocE); refine ⟨?_⟩; refine wl_allocE (by assumption) ?_; intro bE wE hE) | ((with_reducible apply at_load); refine ⟨?_⟩; refine wl_load1 (by assumption) (by rfl) (by first | ((repeat (first | with_reducible apply pick0 | with_reducible apply pick_there)); done) | ((repeat (first | apply pick0 | apply pick_there)); done) | fail) (Nat.le_of_ble_eq_true (by rfl)) (by conv => lhs; whnf) (by kernel_rfl) ?_))
    have hf := r14at_c hL pl.seg (hE.pk (A := RLogRep p d L))
    rw [Hb.out] at hf
    refine hf.mono ?_
    rintro e w3 ⟨v, rfl, rfl, rfl⟩
    clear hf
    have hS3 := hE
    clear hE
    go_wp2_with (first | ((with_reducible apply at_buildZ); refine ⟨?_⟩; refine wl_buildZ ?_) | ((with_reducible apply at_storeE); refine ⟨?_⟩; first | (refine wl_storeE (by assumption) (by rfl) (by rfl) (by first | rfl | assumption | exact Hid.out (by assumption)) (by first | ((repeat (first | with_reducible apply upd0 | with_reducible apply upd_there)); done) | ((repeat (first | apply upd0 | apply upd_there)); done) | fail) (by first | assumption | exact entA_size _ _ rfl | exact entA_size _ _ (by assumption) | exact entA_size _ _ (Hid.out (by assumption))) ?_; intro wS hS) | (refine wl_storeE (e := Frm.zeroE) (da := none) (dn := 0) (dc := 0) (by assumption) (by rfl) (by rfl) rfl (by first | ((repeat (first | with_reducible apply upd0 | with_reducible apply upd_there)); done) | ((repeat (first | apply upd0 | apply upd_there)); done) | fail) (by first | assumption | exact entA_size _ _ rfl | exact entA_size _ _ (by assumption) | exact entA_size _ _ (Hid.out (by assumption))) ?_; intro wS hS)))
    rw [Hf.out]
    exact ⟨rfl, _, res_entE rfl (by assumption) (by rfl) (by first | ((repeat (first | with_reducible apply pick0 | with_reducible apply pick_there)); done) | ((repeat (first | apply pick0 | apply pick_there)); done) | fail) rfl, _, rfl, none, 0, rfl, Sat.osl_nil.2 (Sat.sb hS)⟩
  · have Hread := Lib.hid (show L.read M pl = if (M.read (Seg.name pl.seg) pl.at_ pl.size).2 ≠ 0 then (Frm.zeroE, (M.read (Seg.name pl.seg) pl.at_ pl.size).2)
      else if (Frm.read (M.read (Seg.name pl.seg) pl.at_ pl.size).1).2.2 ≠ 0 then (Frm.zeroE, (Frm.read (M.read (Seg.name pl.seg) pl.at_ pl.size).1).2.2)
      else if (Frm.read (M.read (Seg.name pl.seg) pl.at_ pl.size).1).2.1 ≠ (M.read (Seg.name pl.seg) pl.at_ pl.size).1.length then (Frm.zeroE, 4)
      else ((Frm.read (M.read (Seg.name pl.seg) pl.at_ pl.size).1).1, 0) by unfold Seg.Log.read; rw [ha])
    have Hb := Lib.hid hb
    have Hrl := Lib.hid (Seg.read_len hM.ok (Seg.name pl.seg) pl.at_ pl.size)
    have hi0 : (0 : Int) ≤ (i : Int) := by omega
    have hd : decide ((i : Int) < 0) = false := decide_eq_false (by omega)
    clear ha hb
    go_enter Tryz.func32, Tryz.ntmps32
    go_wp2_with (first | ((with_reducible apply at_box); refine ⟨?_⟩; refine wl_box (by assumption) (by conv => lhs; whnf) (by conv => lhs; whnf) ?_; intro bB wB hB) | ((with_reducible apply at_allocE); refine ⟨?_⟩; refine wl_allocE (by assumption) ?_; intro bE wE hE) | ((with_reducible apply at_load); refine ⟨?_⟩; refine wl_load1 (by assumption) (by rfl) (by first | ((repeat (first | with_reducible apply pick0 | with_reducible apply pick_there)); done) | ((repeat (first | apply pick0 | apply pick_there)); done) | fail) (Nat.le_of_ble_eq_true (by rfl)) (by conv => lhs; whnf) (by kernel_rfl) ?_))
    have hf := r14at_c hL pl.seg (hE.pk (A := RLogRep p d L))
    rw [Hb.out] at hf
    refine hf.mono ?_
    rintro e w3 ⟨v, rfl, rfl, rfl⟩
    clear hf
    have hS3 := hE
    clear hE
    obtain ⟨lv, hR⟩ := RLogRep.open (hS3.pk (A := RLogRep p d L))
    clear hS3
    go_wp2_with fail
    refine wpL_begin [11, 12, 13, 14, 15, 16] (fun w' => w'.cell? ⟨p, 0, none⟩ = some (ptr d) ∧ w'.cell? ⟨bB, 0, none⟩ = some (.int .i64 pl.seg) ∧ w'.cell? ⟨bB, 1, none⟩ = some (.int .i64 pl.at_) ∧ w'.cell? ⟨bB, 2, none⟩ = some (.int .i64 pl.size)) (by kernel_rfl) ?_
    have hG : World.cell? (World.drew _) ⟨p, 0, none⟩ = some (ptr d) ∧ World.cell? (World.drew _) ⟨bB, 0, none⟩ = some (.int .i64 pl.seg) ∧ World.cell? (World.drew _) ⟨bB, 1, none⟩ = some (.int .i64 pl.at_) ∧ World.cell? (World.drew _) ⟨bB, 2, none⟩ = some (.int .i64 pl.size) := ⟨hR.drew.cellP (by first | ((repeat (first | with_reducible apply pick0 | with_reducible apply pick_there)); done) | ((repeat (first | apply pick0 | apply pick_there)); done) | fail) 0 rfl, hR.drew.cellP (by first | ((repeat (first | with_reducible apply pick0 | with_reducible apply pick_there)); done) | ((repeat (first | apply pick0 | apply pick_there)); done) | fail) 0 rfl, hR.drew.cellP (by first | ((repeat (first | with_reducible apply pick0 | with_reducible apply pick_there)); done) | ((repeat (first | apply pick0 | apply pick_there)); done) | fail) 1 rfl, hR.drew.cellP (by first | ((repeat (first | with_reducible apply pick0 | with_reducible apply pick_there)); done) | ((repeat (first | apply pick0 | apply pick_there)); done) | fail) 2 rfl⟩
    refine rp 0 (hy := (yl_move (by conv => lhs; whnf))) (h := ?_)
    refine rp 1 (hy := (yl_nil (by conv => lhs; whnf))) (h := ?_)
    refine rp 2 (hy := (yl_field (by conv => lhs; whnf) (by ((intro wq; go_simp); first | done | (with_reducible rfl))))) (h := ?_)
    refine rt 3 (h := ?_)
    refine rp 4 (hy := (yl_field (by conv => lhs; whnf) (by ((intro wq; go_simp); first | done | (with_reducible rfl))))) (h := ?_)
    refine rt 5 (h := ?_)
    refine rp 7 (hy := (yl_field (by conv => lhs; whnf) (by ((intro wq; go_simp); first | done | (with_reducible rfl))))) (h := ?_)
    refine rt 8 (h := ?_)
    refine rp 9 (hy := (yl_field (by conv => lhs; whnf) (by ((intro wq; go_simp); first | done | (with_reducible rfl))))) (h := ?_)
    refine rt 10 (h := ?_)
    clear hG
    refine rg_eff 6 (by conv => lhs; whnf) (by kernel_rfl) (fun K hK => ?_)
    (refine eff_call1 (by kernel_rfl) (by conv => lhs; whnf) ?_)
    refine (rname_c pl.seg _).mono ?_
    rintro e w4 ⟨v, rfl, rfl, rfl⟩
    refine hK _ _ (.inr (.inr rfl)) ?_
    have hS4 := hR.drew
    clear hK hR
    refine rg_eff 11 (by conv => lhs; whnf) (by kernel_rfl) (fun K hK => ?_)
    (refine eff_call4 (by kernel_rfl) (by conv => lhs; whnf) (by conv => lhs; whnf) (by conv => lhs; whnf) (by conv => lhs; whnf) ?_)
    refine (rread_c (Seg.name pl.seg) pl.at_ pl.size h1 h2 (by have := hM.now; omega) (fun i hi => hM.len hi) (Sat.pk (by assumption))).mono ?_
    rintro e w5 ⟨v, rfl, bv, rfl, hS5⟩
    refine hK _ _ (.inl rfl) ?_
    clear hK hS4 h1 h2
    refine rp 12 (hy := (yl_move (by conv => lhs; whnf))) (h := ?_)
    refine rp 13 (hy := (yl_extract (by conv => lhs; whnf) (by ((intro wq; go_simp); first | done | (with_reducible rfl))))) (h := ?_)
    refine rp 14 (hy := (yl_extract (by conv => lhs; whnf) (by ((intro wq; go_simp); first | done | (with_reducible rfl))))) (h := ?_)
    refine rp 15 (hy := (yl_assign (by conv => lhs; whnf))) (h := ?_)
    refine rp 16 (hy := (yl_assign (by conv => lhs; whnf))) (h := ?_)
    refine wpL_done (by kernel_rfl) ?_
    have Hsz := Lib.hid (Seg.read_size (M := M) (Seg.name pl.seg) pl.at_ pl.size)
    generalize M.read (Seg.name pl.seg) pl.at_ pl.size = RR at *
    obtain ⟨bs, e1⟩ := RR
    by_cases he : e1 = 0
    rotate_left
    · have heb : (e1 == 0) = false := beq_false_of_ne he
      have Hf := Lib.hid (Hread.out.trans (if_pos he))
      clear he
      go_wp2_with (first | ((with_reducible apply at_buildZ); refine ⟨?_⟩; refine wl_buildZ ?_) | ((with_reducible apply at_storeE); refine ⟨?_⟩; first | (refine wl_storeE (by assumption) (by rfl) (by rfl) (by first | rfl | assumption | exact Hid.out (by assumption)) (by first | ((repeat (first | with_reducible apply upd0 | with_reducible apply upd_there)); done) | ((repeat (first | apply upd0 | apply upd_there)); done) | fail) (by first | assumption | exact entA_size _ _ rfl | exact entA_size _ _ (by assumption) | exact entA_size _ _ (Hid.out (by assumption))) ?_; intro wS hS) | (refine wl_storeE (e := Frm.zeroE) (da := none) (dn := 0) (dc := 0) (by assumption) (by rfl) (by rfl) rfl (by first | ((repeat (first | with_reducible apply upd0 | with_reducible apply upd_there)); done) | ((repeat (first | apply upd0 | apply upd_there)); done) | fail) (by first | assumption | exact entA_size _ _ rfl | exact entA_size _ _ (by assumption) | exact entA_size _ _ (Hid.out (by assumption))) ?_; intro wS hS)))
      rw [Hf.out]
      exact ⟨rfl, _, res_entE rfl (by assumption) (by rfl) (by first | ((repeat (first | with_reducible apply pick0 | with_reducible apply pick_there)); done) | ((repeat (first | apply pick0 | apply pick_there)); done) | fail) rfl, _, rfl, none, 0, rfl, Sat.osl_nil.2 (Sat.pick (RLogRep.shut (lv := lv) (Sat.sb hS)) pick0)⟩
    subst he
    have Hread2 := Lib.hid (Hread.out.trans (if_neg (fun h => h rfl)))
    clear Hread
    obtain ⟨ba, bn, bc, hbv, hbn, hbc, hbl⟩ := bsl_cap' hS5
    subst hbv
    subst hbl
    have hfr := rread7_c bs (bv := .slice ba bs.length bc) (Ro.op (Ro.bsl _ _)) ⟨_, _, _, rfl, hbn, hbc⟩ (by have := Hrl.out; simp only at this; omega) hS5
    have hkey := Seg.read_key bs
    have Hle := Lib.hid (Seg.fread_le bs)
    generalize Frm.read bs = FR at *
    obtain ⟨fe, fn, e2⟩ := FR
    simp only at hfr hkey
    go_wp2_with fail
    refine hfr.mono ?_
    rintro e w6 ⟨v, rfl, da, dc, rfl, hS6⟩
    clear hfr hS5
    by_cases he2 : e2 = 0
    rotate_left
    · have heb : (e2 == 0) = false := beq_false_of_ne he2
      have Hf := Lib.hid (Hread2.out.trans (if_pos he2))
      clear he2
      go_wp2_with (first | ((with_reducible apply at_allocE); refine ⟨?_⟩; refine wl_allocE (by assumption) ?_; intro bE wE hE) | ((with_reducible apply at_buildZ); refine ⟨?_⟩; refine wl_buildZ ?_) | ((with_reducible apply at_storeE); refine ⟨?_⟩; first | (refine wl_storeE (by assumption) (by rfl) (by rfl) (by first | rfl | assumption | exact Hid.out (by assumption)) (by first | ((repeat (first | with_reducible apply upd0 | with_reducible apply upd_there)); done) | ((repeat (first | apply upd0 | apply upd_there)); done) | fail) (by first | assumption | exact entA_size _ _ rfl | exact entA_size _ _ (by assumption) | exact entA_size _ _ (Hid.out (by assumption))) ?_; intro wS hS) | (refine wl_storeE (e := Frm.zeroE) (da := none) (dn := 0) (dc := 0) (by assumption) (by rfl) (by rfl) rfl (by first | ((repeat (first | with_reducible apply upd0 | with_reducible apply upd_there)); done) | ((repeat (first | apply upd0 | apply upd_there)); done) | fail) (by first | assumption | exact entA_size _ _ rfl | exact entA_size _ _ (by assumption) | exact entA_size _ _ (Hid.out (by assumption))) ?_; intro wS hS)))
      rw [Hf.out]
      exact ⟨rfl, _, res_entE rfl (by assumption) (by rfl) (by first | ((repeat (first | with_reducible apply pick0 | with_reducible apply pick_there)); done) | ((repeat (first | apply pick0 | apply pick_there)); done) | fail) rfl, _, rfl, none, 0, rfl, Sat.osl_nil.2 (Sat.pick (RLogRep.shut (lv := lv) (Sat.sb hS)) pick0)⟩
    subst he2
    have Hread3 := Lib.hid (Hread2.out.trans (if_neg (fun h => h rfl)))
    clear Hread2
    by_cases hn : fn = bs.length
    rotate_left
    · have hnb : decide ((fn : Int) < pl.size) = true := decide_eq_true (by have := Hsz.out (by trivial); have := Hle.out (by trivial); omega)
      have Hf := Lib.hid (Hread3.out.trans (if_pos hn))
      clear hn
      go_wp2_with (first | ((with_reducible apply at_allocE); refine ⟨?_⟩; refine wl_allocE (by assumption) ?_; intro bE wE hE) | ((with_reducible apply at_buildZ); refine ⟨?_⟩; refine wl_buildZ ?_) | ((with_reducible apply at_storeE); refine ⟨?_⟩; first | (refine wl_storeE (by assumption) (by rfl) (by rfl) (by first | rfl | assumption | exact Hid.out (by assumption)) (by first | ((repeat (first | with_reducible apply upd0 | with_reducible apply upd_there)); done) | ((repeat (first | apply upd0 | apply upd_there)); done) | fail) (by first | assumption | exact entA_size _ _ rfl | exact entA_size _ _ (by assumption) | exact entA_size _ _ (Hid.out (by assumption))) ?_; intro wS hS) | (refine wl_storeE (e := Frm.zeroE) (da := none) (dn := 0) (dc := 0) (by assumption) (by rfl) (by rfl) rfl (by first | ((repeat (first | with_reducible apply upd0 | with_reducible apply upd_there)); done) | ((repeat (first | apply upd0 | apply upd_there)); done) | fail) (by first | assumption | exact entA_size _ _ rfl | exact entA_size _ _ (by assumption) | exact entA_size _ _ (Hid.out (by assumption))) ?_; intro wS hS)) | ((with_reducible apply at_load); refine ⟨?_⟩; refine wl_load1 (by assumption) (by rfl) (by first | ((repeat (first | with_reducible apply pick0 | with_reducible apply pick_there)); done) | ((repeat (first | apply pick0 | apply pick_there)); done) | fail) (Nat.le_of_ble_eq_true (by rfl)) (by conv => lhs; whnf) (by kernel_rfl) ?_))
      rw [Hf.out]
      exact ⟨rfl, _, res_entE rfl (by assumption) (by rfl) (by first | ((repeat (first | with_reducible apply pick0 | with_reducible apply pick_there)); done) | ((repeat (first | apply pick0 | apply pick_there)); done) | fail) rfl, _, rfl, none, 0, rfl, Sat.osl_nil.2 (Sat.pick (RLogRep.shut (lv := lv) (Sat.sb hS)) pick0)⟩
    have Hf := Lib.hid (Hread3.out.trans (if_neg (fun h => h hn)))
    have hnb : decide ((fn : Int) < pl.size) = false := decide_eq_false (by have := Hsz.out (by trivial); omega)
    clear hn Hread3
    go_wp2_with (first | ((with_reducible apply at_allocE); refine ⟨?_⟩; refine wl_allocE (by assumption) ?_; intro bE wE hE) | ((with_reducible apply at_loadE); refine ⟨?_⟩; refine wl_loadE (by assumption) (by rfl) (by first | ((repeat (first | with_reducible apply pick0 | with_reducible apply pick_there)); done) | ((repeat (first | apply pick0 | apply pick_there)); done) | fail) (by first | rfl | assumption | exact Hid.out (by assumption)) ?_) | ((with_reducible apply at_storeE); refine ⟨?_⟩; first | (refine wl_storeE (by assumption) (by rfl) (by rfl) (by first | rfl | assumption | exact Hid.out (by assumption)) (by first | ((repeat (first | with_reducible apply upd0 | with_reducible apply upd_there)); done) | ((repeat (first | apply upd0 | apply upd_there)); done) | fail) (by first | assumption | exact entA_size _ _ rfl | exact entA_size _ _ (by assumption) | exact entA_size _ _ (Hid.out (by assumption))) ?_; intro wS hS) | (refine wl_storeE (e := Frm.zeroE) (da := none) (dn := 0) (dc := 0) (by assumption) (by rfl) (by rfl) rfl (by first | ((repeat (first | with_reducible apply upd0 | with_reducible apply upd_there)); done) | ((repeat (first | apply upd0 | apply upd_there)); done) | fail) (by first | assumption | exact entA_size _ _ rfl | exact entA_size _ _ (by assumption) | exact entA_size _ _ (Hid.out (by assumption))) ?_; intro wS hS)) | ((with_reducible apply at_load); refine ⟨?_⟩; refine wl_load1 (by assumption) (by rfl) (by first | ((repeat (first | with_reducible apply pick0 | with_reducible apply pick_there)); done) | ((repeat (first | apply pick0 | apply pick_there)); done) | fail) (Nat.le_of_ble_eq_true (by rfl)) (by conv => lhs; whnf) (by kernel_rfl) ?_))
    rw [Hf.out]
    exact ⟨rfl, _, res_entE rfl (by assumption) (by rfl) (by first | ((repeat (first | with_reducible apply pick0 | with_reducible apply pick_there)); done) | ((repeat (first | apply pick0 | apply pick_there)); done) | fail) hkey, _, rfl, da, dc, rfl, Sat.sub (RLogRep.shut (lv := lv) (Sat.sb hS)) (by repeat (first | (with_reducible apply sub_refl) | ((with_reducible apply sub_take); (· first | ((repeat (first | with_reducible apply pick0 | with_reducible apply pick_there)); done) | ((repeat (first | apply pick0 | apply pick_there)); done) | fail)) | (with_reducible apply sub_drop)))⟩
end
end Go.Proofs.YtmjldaedhmipkaaGreatDoor
/- Plain: a log opened: its numbers rise. No walk here. -/
namespace Go.Seg
open Go.Med
set_option linter.unusedVariables false
section
variable {K K' : Nat} {M M' : Med} {L : Log} {s t : ByteArray} {i : Nat} {sure opn : List (Plc × Frm.Ent)}
/-! ### the names rise as their numbers do -/
theorem app_lt : ∀ (x y u v : Bs), x.length = y.length → x < y → x ++ u < y ++ v
  | [], [], _, _, _, h => absurd h (List.not_lt_nil [])
  | [], _ :: _, _, _, h, _ => by simp at h
  | _ :: _, [], _, _, h, _ => by simp at h
  | a :: x, b :: y, u, v, hl, h => by
    rw [List.cons_append, List.cons_append, List.cons_lt_cons_iff]
    rcases List.cons_lt_cons_iff.1 h with h1 | ⟨e, h1⟩
    · exact .inl h1
    · exact .inr ⟨e, app_lt x y u v (by simpa using hl) h1⟩
theorem app_lt_r : ∀ (x u v : Bs), u < v → x ++ u < x ++ v
  | [], _, _, h => h
  | a :: x, u, v, h => by
    rw [List.cons_append, List.cons_append, List.cons_lt_cons_iff]
    exact .inr ⟨rfl, app_lt_r x u v h⟩
theorem digs_lt : ∀ (k a b : Nat), a < b → b < 10 ^ k → digs a k < digs b k
  | 0, a, b, h, hb => by simp at hb; omega
  | k + 1, a, b, h, hb => by
    show digs (a / 10) k ++ [UInt8.ofNat (48 + a % 10)] < digs (b / 10) k ++ [UInt8.ofNat (48 + b % 10)]
    have hb' : b / 10 < 10 ^ k := by rw [Nat.div_lt_iff_lt_mul (by omega)]; rw [Nat.pow_succ] at hb; exact hb
    rcases Nat.lt_or_ge (a / 10) (b / 10) with q | q
    · exact app_lt _ _ _ _ (by rw [digs_len, digs_len]) (digs_lt k _ _ q hb')
    · have e : a / 10 = b / 10 := by omega
      rw [e]
      refine app_lt_r _ _ _ ?_
      rw [List.cons_lt_cons_iff]
      left
      rw [UInt8.lt_iff_toNat_lt, UInt8.toNat_ofNat', UInt8.toNat_ofNat']
      omega
theorem name_lt {a b : Int} (h1 : 0 ≤ a) (h2 : a < b) (h3 : b < 1048576) : lt (name a) (name b) = true := by
  unfold name
  rw [if_neg (by omega), if_neg (by omega)]
  unfold lt
  rw [decide_eq_true_eq]
  show lead ++ digs a.toNat 8 < lead ++ digs b.toNat 8
  exact app_lt_r _ _ _ (digs_lt 8 _ _ (by omega) (by omega))
theorem number_is {s : ByteArray} (h : (number s).2 = true) : 0 ≤ (number s).1 ∧ (number s).1 < 1048576 ∧ name (number s).1 = s := by
  unfold number at h ⊢
  dsimp only at h ⊢
  split at h
  · rename_i hc
    rw [if_pos hc]
    obtain ⟨c1, c2, c3, c4⟩ := hc
    refine ⟨by simp only; omega, by simp only; omega, ?_⟩
    simp only
    unfold name
    rw [if_neg (by omega)]
    have hl : (s.data.toList.drop 4).length = 8 := by
      have : s.data.toList.length = 12 := by first | exact c1 | (rw [Array.length_toList]; exact c1)
      rw [List.length_drop, this]
    have hd := digs_val (s.data.toList.drop 4) c3
    rw [hl] at hd
    have e : lead ++ digs (Int.toNat ((val (s.data.toList.drop 4) : Nat) : Int)) 8 = s.data.toList := by
      rw [Int.toNat_natCast, hd, ← c2, List.take_append_drop]
    rw [e]
  · cases h
theorem found_mem {l : List ByteArray} {x : Int × Int} (h : x ∈ found M l) : ∃ t ∈ l, (number t).2 = true ∧ x = ((number t).1, (M.size t).1) := by
  unfold found at h
  obtain ⟨t, ht, he⟩ := List.mem_filterMap.1 h
  split at he
  · rename_i hn; exact ⟨t, ht, hn, (Option.some.inj he).symm⟩
  · cases he
theorem list_now (h : t ∈ M.list) : ∃ i, nget M.now t = some i := by
  unfold Med.list at h
  split at h
  · cases h
  · obtain ⟨p, hp, rfl⟩ := List.mem_map.1 h
    cases hg : nget M.now p.1 with
    | none => exact absurd rfl (nget_none hg p hp)
    | some i => exact ⟨i, rfl⟩
theorem found_rise : ∀ (l : List ByteArray), l.Pairwise (fun a b => lt a b = true) → ((found M l).map (·.1)).Pairwise (· < ·)
  | [], _ => List.Pairwise.nil
  | t :: l, h => by
    obtain ⟨h1, h2⟩ := List.pairwise_cons.1 h
    have ih := found_rise l h2
    by_cases hn : (number t).2 = true
    · have e : found M (t :: l) = ((number t).1, (M.size t).1) :: found M l := by unfold found; rw [List.filterMap_cons]; simp [hn]
      rw [e, List.map_cons, List.pairwise_cons]
      refine ⟨fun x hx => ?_, ih⟩
      obtain ⟨y, hy, rfl⟩ := List.mem_map.1 hx
      obtain ⟨u, hu, hun, rfl⟩ := found_mem hy
      have hlt := h1 u hu
      obtain ⟨a1, a2, a3⟩ := number_is hn
      obtain ⟨b1, b2, b3⟩ := number_is hun
      rcases Int.lt_or_le (number t).1 (number u).1 with q | q
      · exact q
      · exfalso
        rcases Int.lt_or_eq_of_le q with q | q
        · have h3 := name_lt b1 q a2
          rw [a3, b3] at h3
          have := lt_trans hlt h3
          rw [lt_irrefl] at this; cases this
        · rw [← a3, ← q, b3, lt_irrefl] at hlt; cases hlt
    · have e : found M (t :: l) = found M l := by unfold found; rw [List.filterMap_cons]; simp [hn]
      rw [e]; exact ih
theorem fresh_ok (ok : M.Ok K) (limit : Int) (h1 : 128 ≤ limit) (h2 : limit ≤ 1048576) : (fresh M limit).Ok := by
  refine ⟨⟨h1, h2⟩, ?_, fun x hx => ?_, fun x hx => ?_, ⟨Int.le_refl _, by simp [fresh]⟩, fun hh => by cases hh⟩
  · refine found_rise M.list ?_
    unfold Med.list
    split
    · exact List.Pairwise.nil
    · rw [List.pairwise_map]; exact ok.nowOk.srt
  · obtain ⟨t, _, hn, rfl⟩ := found_mem hx
    have := number_is hn
    exact ⟨this.1, this.2.1⟩
  · obtain ⟨t, _, hn, rfl⟩ := found_mem hx
    unfold Med.size
    split
    · simp
    split
    · simp
    · have := (ok.file ‹Nat›).now_len
      simp only
      omega
end
end Go.Seg
/- Both logs through the calls of SegsPlays; plain. -/
namespace Go.Seg
open Go.Med
set_option linter.unusedVariables false
theorem all_size (M : Med) (s : ByteArray) : (((M.all s).1.length : Nat) : Int) = (M.size s).1 := by
  unfold Med.all Med.size
  split; · rfl
  split
  · rfl
  · rfl
section
variable {φ : Nat → Nat} {V : Nat → Prop} {M D : Med} {K : Nat} {L : Log}
theorem side_fresh (h : Side φ V M D) (ok : M.Ok K) (limit : Int) : fresh D limit = fresh M limit := by
  have e : found D D.list = found M M.list := by
    rw [h.list]
    unfold found
    congr 1
    funext s
    rw [← all_size, ← all_size, h.all ok]
  unfold fresh
  rw [e]
theorem back_med : ∀ (k : Nat) {K : Nat} {L : Log} {M : Med}, M.Ok K → (L.back k M).1.2.Ok (K + k)
  | 0, K, L, M, h => h
  | k + 1, K, L, M, h => by
    have h1 : ∀ n, (L.remove M n).1.2.Ok (K + 1) := fun n => by
      unfold Log.remove
      cases L.at n with
      | none => exact h.mono (Nat.le_succ K)
      | some i => simp only; split <;> exact h.remove _
    unfold Log.back
    split; · exact h.mono (by omega)
    split
    · exact (back_med k (h1 _)).mono (by omega)
    · exact (h1 _).mono (by omega)
theorem alive_yes (ok : M.Ok K) (hoff : M.off = false) : alive M = 0 := by
  unfold alive Med.size
  rw [hoff]
  simp only [Bool.false_eq_true, if_false]
  cases hg : nget M.now ByteArray.empty with
  | none => rfl
  | some i => exact absurd rfl (ok.nowOk.ne _ (nget_mem hg))
end
/-- The state of the law: one log on both sides, two media that are alike. -/
structure Two (i : Nat) (L : Log) (M D : Med) : Prop where
  log : L.Ok
  ok : M.Ok (i * 2000)
  fit : Fit (i * 2000) D
  side : ∃ φ V, Side φ V M D
  fresh : L.fresh ≤ i
/-- What both calls answer, and what is there behind. -/
structure Step {α : Type} (i : Nat) (a b : (Log × Med) × α) : Prop where
  log : b.1.1 = a.1.1
  res : b.2 = a.2
  two : Two i a.1.1 a.1.2 b.1.2
section
variable {i : Nat} {M D : Med} {L : Log}
theorem Step.of {α : Type} {a b : (Log × Med) × α} (h : Agree a b) (hl : a.1.1.Ok) (ok : a.1.2.Ok (i * 2000)) (fit : Fit (i * 2000) b.1.2) (hf : a.1.1.fresh ≤ i) : Step i a b :=
  ⟨h.1.symm, h.2.1.symm, hl, ok, fit, h.2.2, hf⟩
theorem Two.first (r : Nat) (hr : r ≤ 16777216) (limit : Int) (h1 : 128 ≤ limit) (h2 : limit ≤ 1048576) : Two 0 (Seg.fresh (new r) limit) (new r) (new r) :=
  ⟨fresh_ok (Med.Ok.new 0 r hr) limit h1 h2, Med.Ok.new _ r hr, Fit.new _ r hr, ⟨_, _, Side.new r⟩, Int.le_refl _⟩
theorem Two.mono {j : Nat} (h : Two i L M D) (hj : i ≤ j) : Two j L M D :=
  ⟨h.log, h.ok.mono (by omega), h.fit.mono (by omega), h.side, by have := h.fresh; omega⟩
theorem Two.append (h : Two i L M D) (x : Frm.Ent) (hk : x.key.length = 32) : Step (i + 1) (L.append M x) (L.rappend D x) := by
  obtain ⟨φ, V, s⟩ := h.side
  exact .of (side_lappend s h.ok x) (h.log.append M x hk) ((Log.append_med h.ok x).mono (by omega)) ((h.fit.lappend x).mono (by omega)) (by have := Log.append_fresh L M x; have := h.fresh; omega)
theorem Two.commit (h : Two i L M D) : Step (i + 1) (L.commit M) (L.rcommit D) := by
  obtain ⟨φ, V, s⟩ := h.side
  exact .of (side_lcommit s h.ok) (h.log.commit M) ((Log.commit_med h.ok).mono (by omega)) ((h.fit.lcommit).mono (by omega)) (by have := Log.commit_fresh L M h.log.fresh.1; have := h.fresh; omega)
theorem Two.remove (h : Two i L M D) (n : Int) : Step (i + 1) (L.remove M n) (L.rremove D n) := by
  obtain ⟨φ, V, s⟩ := h.side
  have h1 : (L.remove M n).1.2.Ok (i * 2000 + 1) := by
    have h := h.ok
    unfold Log.remove
    cases L.at n with
    | none => exact h.mono (Nat.le_succ _)
    | some i => simp only; split <;> exact h.remove _
  exact .of (side_lremove s h.ok n) (h.log.remove M n) (h1.mono (by omega)) ((h.fit.lremove n).mono (by omega)) (by have := Log.remove_fresh_le L M n; have := h.fresh; omega)
theorem Two.rollback (h : Two i L M D) (hi : i ≤ 1000) : Step (i + 1) (L.rollback M) (L.rrollback D) := by
  obtain ⟨φ, V, s⟩ := h.side
  have hf := h.fresh
  exact .of (side_lrollback s h.ok) (Log.Ok.back _ M h.log) ((back_med _ h.ok).mono (by omega)) ((Fit.back _ h.fit).mono (by omega)) (by have := Log.back_fresh L.fresh.toNat L M; unfold Log.rollback; omega)
theorem Two.sync (h : Two i L M D) : D.syncDir.2 = M.syncDir.2 ∧ Two (i + 1) L M.syncDir.1 D.syncDir.1 := by
  obtain ⟨φ, V, s⟩ := h.side
  obtain ⟨h1, h2⟩ := s.syncDir h.ok
  exact ⟨h1.symm, h.log, h.ok.syncDir.mono (by omega), h.fit.syncDir.mono (by omega), h2, by have := h.fresh; omega⟩
theorem Two.arm (h : Two i L M D) (n : Int) (hn : n ≤ 9223372036854775807) : (D.arm n).2 = (M.arm n).2 ∧ Two (i + 1) L (M.arm n).1 (D.arm n).1 := by
  obtain ⟨φ, V, s⟩ := h.side
  obtain ⟨h1, h2⟩ := s.arm n
  exact ⟨h1.symm, h.log, (h.ok.arm n hn).mono (by omega), (h.fit.arm n hn).mono (by omega), h2, by have := h.fresh; omega⟩
theorem Two.crash (h : Two i L M D) (l : List Int) (limit : Int) (h1 : 128 ≤ limit) (h2 : limit ≤ 1048576) :
    Two (i + 1) (Seg.fresh (M.crash l) limit) (M.crash l) (D.rcrash l) ∧ Seg.fresh (D.rcrash l) limit = Seg.fresh (M.crash l) limit ∧ alive (M.crash l) = 0 ∧ (D.rcrash l).off = false := by
  obtain ⟨φ, V, s⟩ := h.side
  obtain ⟨φ', V', s'⟩ := s.crash l
  have ok' := h.ok.crash l
  refine ⟨⟨fresh_ok ok' limit h1 h2, ok'.mono (by omega), (h.fit.crash l).mono (by omega), ⟨_, _, s'⟩, by unfold Seg.fresh; simp only; omega⟩, side_fresh s' ok' limit, alive_yes ok' rfl, rfl⟩
theorem Two.skip (h : Two i L M D) : Two (i + 1) L M D := h.mono (Nat.le_succ i)
theorem Two.read (h : Two i L M D) (q : Plc) : L.read D q = L.read M q := by
  obtain ⟨φ, V, s⟩ := h.side
  exact (side_lread s h.ok q).symm
end
end Go.Seg
/- hoardref14.Open; segs.Open with a bad limit. -/
namespace Go.Proofs.YtmjldaedhmipkaaGreatDoor
open Go Go.Sl Go.Med Go.MapKept Go.RowKit
set_option linter.unusedVariables false
section
variable {w0 w : World} {F R : List HProp} {p d m : Nat} {v lv : Value} {D M : Med} {K : Nat}
theorem lst_sl {l : List ByteArray} (h : rdsl 1 v (strs l) w) : ∃ a c, v = .slice a l.length c := by
  obtain ⟨a, n, c, rfl, hl, hx⟩ := h
  unfold strs at hl
  rw [List.length_map, Nat.mul_one] at hl
  exact ⟨a, c, by rw [hl]⟩
theorem lst_cell {l : List ByteArray} {i : Nat} {s : ByteArray} {a : Option Addr} {n c : Nat} (h : rdsl 1 (.slice a n c) (strs l) w) (hi : l[i]? = some s) : ∃ bk off, a = some ⟨bk, off, none⟩ ∧ w.cell? ⟨bk, off + i, none⟩ = some (.string s) := by
  have hx : (strs l)[i]? = some (.string s) := by unfold strs; rw [List.getElem?_map, hi]; rfl
  obtain ⟨bk, off, rfl, hc⟩ := rdsl_cells h hx
  exact ⟨bk, off, rfl, hc _ _ hx⟩
theorem med_list_len (ok : M.Ok K) : M.list.length ≤ 500 := by
  unfold Med.list
  split
  · exact Nat.zero_le _
  · rw [List.length_map]; exact ok.nowOk.len
set_option maxHeartbeats 1000000 in
theorem openbad_c (hM : M.Ok K) (limit : Int) (h : Sat w0 w (MedRep m M :: F)) (ha : Seg.alive M = 0) (h1 : limit < 128 ∨ 1048576 < limit) :
    Calls Tryz.prog 15 #[ptr m, .int .i64 limit] w (Rtn fun v w' => v = .tuple #[.pointer none, errno 2] ∧ w = w') := by
  have hal := alive_c hM h
  rw [ha] at hal
  clear h ha
  by_cases hb : limit < 128
  · go_enter Tryz.func15, Tryz.ntmps15
    go_wp2_with fail
    refine hal.mono ?_
    rintro e w1 ⟨v, rfl, rfl, rfl⟩
    clear hal
    go_wp2
    go_ret2
    exact ⟨_, rfl, rfl, rfl⟩
  · have hd1 : decide (limit < 128) = false := decide_eq_false hb
    have hd2 : 1048576 < limit := by omega
    clear h1
    go_enter Tryz.func15, Tryz.ntmps15
    go_wp2_with fail
    refine hal.mono ?_
    rintro e w1 ⟨v, rfl, rfl, rfl⟩
    clear hal
    go_wp2
    go_ret2
    exact ⟨_, rfl, rfl, rfl⟩
set_option maxHeartbeats 1000000 in
theorem ropenbad_c (limit : Int) (h : Sat w0 w (DskRep d D :: F)) (ho : D.off = false) (h1 : limit < 128 ∨ 1048576 < limit) :
    Calls Tryz.prog 16 #[ptr d, .int .i64 limit] w (Rtn fun v w' => v = .tuple #[.pointer none, errno 2] ∧ w = w') := by
  obtain ⟨fsv, fv, nv, wv, xs, g, hin, hR⟩ := DskRep.open h
  have e7 : w.cell? ⟨d, 7, none⟩ = some (.bool D.off) := hR.cellP pick0 7 rfl
  rw [ho] at e7
  clear h hin hR ho
  by_cases hb : limit < 128
  · clear h1
    go_enter Tryz.func16, Tryz.ntmps16
    go_wp2
    go_ret2
    exact ⟨_, rfl, rfl, rfl⟩
  · have hd1 : decide (limit < 128) = false := decide_eq_false hb
    have hd2 : 1048576 < limit := by omega
    clear h1
    go_enter Tryz.func16, Tryz.ntmps16
    go_wp2
    go_ret2
    exact ⟨_, rfl, rfl, rfl⟩
set_option maxRecDepth 20000 in
set_option maxHeartbeats 8000000 in
theorem ropen_c (hD : Seg.Fit K D) (limit : Int) (ho : D.off = false) (h1 : 128 ≤ limit) (h2 : limit ≤ 1048576) (h : Sat w0 w (DskRep d D :: F)) :
    Calls Tryz.prog 16 #[ptr d, .int .i64 limit] w (Rtn fun v w' => ∃ q, v = .tuple #[ptr q, errno 0] ∧ Sat w0 w' (RLogRep q d (Seg.fresh D limit) :: DskRep d D :: F)) := by
  obtain ⟨fsv, fv, nv, wv, xs, g, hin, hR⟩ := DskRep.open h
  have e7 : w.cell? ⟨d, 7, none⟩ = some (.bool D.off) := hR.cellP pick0 7 rfl
  rw [ho] at e7
  have hd1 : decide (limit < 128) = false := decide_eq_false (by omega)
  have hd2 : decide (1048576 < limit) = false := decide_eq_false (by omega)
  have HD := Lib.hid hD
  have Hl := Lib.hid (show D.now.length ≤ 1048576 from Nat.le_trans hD.ok.nowOk.len (by decide))
  have Hll := Lib.hid (med_list_len hD.ok)
  clear hin hR ho h1 h2 hD
  go_enter Tryz.func16, Tryz.ntmps16
  go_wp2_with ((with_reducible apply at_box); refine ⟨?_⟩; refine wl_box (by assumption) (by conv => lhs; whnf) (by conv => lhs; whnf) ?_; intro bB wB hB)
  have hB1 := hB.pk (A := DskRep d D)
  refine (rlist_c Hl.out hB1).mono ?_
  rintro ee w1 ⟨v, rfl, ov, rfl, hS1⟩
  clear hB1 hB h e7
  have Hfr := Lib.hid (show Seg.fresh D limit = ⟨limit, Seg.found D D.list, false, 0⟩ from rfl)
  generalize D.list = l at *
  obtain ⟨na, nc, rfl⟩ := lst_sl (Sat.rd hS1)
  go_wp2_with fail
  go_loopg [8] l.length (fun g iq wr => ∃ (i : Nat) (lv : Value), g = l.length - i ∧ i ≤ l.length ∧ iq = .int .i64 i ∧
    Sat w0 wr (osl 84 2 lv (segw (Seg.found D (l.take i))) :: osl 9 1 (.slice na l.length nc) (strs l) :: rlogPt bB d ⟨limit, Seg.found D (l.take i), false, 0⟩ lv :: DskRep d D :: F))
  case atStart => exact ⟨0, .slice none 0 0, rfl, Nat.zero_le _, rfl, Sat.osl_nil.2 (hS1.sb)⟩
  case round =>
    obtain ⟨i, lv, rfl, hi, rfl, hS⟩ := hrel
    clear hS1
    by_cases hlt : i < l.length
    · have c1 : (i : Int) < (l.length : Int) := by omega
      obtain ⟨s, hs⟩ : ∃ s, l[i]? = some s := ⟨_, List.getElem?_eq_getElem hlt⟩
      obtain ⟨bk, off, rfl, e0⟩ := lst_cell (Sat.rd (hS.pick pick1)) hs
      have hll := Hll.out
      have hwi : IntKind.i64.wrap ((i : Int) + 1) = (i : Int) + 1 := IntWalk.i64_in _ (by omega)
      have Hfs := Lib.hid (show Seg.found D (l.take (i + 1)) = Seg.found D (l.take i) ++ (if (Seg.number s).2 = true then [((Seg.number s).1, (D.size s).1)] else []) by
        rw [List.take_add_one, hs]; exact Seg.found_snoc D _ s)
      have Hfl := Lib.hid (Seg.found_len D (l.take i))
      have Hlt := Lib.hid hlt; have Hs := Lib.hid hs
      have Hall := Lib.hid (Seg.all_size D s)
      clear hlt hs hll
      go_wp2_with fail
      refine (rnumber_c s _).mono ?_
      rintro ee w3 ⟨v, rfl, ⟨a, rfl, ha⟩, rfl⟩
      cases hb : (Seg.number s).2
      · have Hb := Lib.hid hb
        clear ha hb e0
        go_wp2_with fail
        go_roundg (l.length - (i + 1))
        case measure => have := Hlt.out; omega
        case rel =>
          refine ⟨i + 1, lv, rfl, Nat.succ_le_of_lt Hlt.out, by first | rfl | go_num, ?_⟩
          rw [Hfs.out, Hb.out, if_neg (by decide), List.append_nil]
          exact hS
      · have Hb := Lib.hid hb
        obtain rfl := ha hb
        clear ha hb
        have hra := rall_c s Hl.out (fun i hi => HD.out.len hi) (hS.pk (A := DskRep d D))
        generalize (Seg.number s).1 = nu at *
        generalize D.all s = A at *
        obtain ⟨b, e⟩ := A
        go_wp2_with fail
        refine hra.mono ?_
        rintro ee w4 ⟨v, rfl, bv, rfl, hS4⟩
        clear hra hS e0
        obtain ⟨ba, bc, rfl, _⟩ := bsl_sl hS4
        obtain ⟨la, lc, rfl⟩ := sgs_sl (Sat.rd (hS4.pk (A := osl 84 2 lv (segw (Seg.found D (l.take i))))))
        have hsl : (segw (Seg.found D (l.take i))).length ≤ 2147483648 := by rw [segw_len]; have := Hfl.out; rw [List.length_take] at this; have := Hll.out; omega
        have Hsz := Lib.hid (show (D.size s).1 = (b.length : Int) from Hall.out.symm)
        clear Hall
        go_wp2_with (first
          | ((with_reducible apply at_build1); refine ⟨?_⟩; refine wl_build1 (e := 84) (sz := 2) (by' := 16) (by kernel_rfl) hS4 (by rfl) (cs := #[.int .i64 nu, .int .i64 (b.length : Int)]) rfl rfl (Nat.le_of_ble_eq_true (by rfl)) ?_; intro bN wN hN)
          | ((with_reducible apply at_append); refine ⟨?_⟩; refine wl_app 84 2 16 (by kernel_rfl) hN (by rfl) (by rfl) (by first | ((repeat (first | with_reducible apply pick0 | with_reducible apply pick_there)); done) | ((repeat (first | apply pick0 | apply pick_there)); done) | fail) (by first | ((repeat (first | with_reducible apply pick0 | with_reducible apply pick_there)); done) | ((repeat (first | apply pick0 | apply pick_there)); done) | fail) (by rfl) (Nat.le_refl 1) (by rfl) hsl (by show 2 ≤ 65536; decide) (by decide) rfl ?_; intro bA nA cA wA hA; rw [segw_snoc] at hA; clear hS4 hN)
          | ((with_reducible apply at_load); refine ⟨?_⟩; refine wl_load1 (by assumption) (by rfl) (by first | ((repeat (first | with_reducible apply pick0 | with_reducible apply pick_there)); done) | ((repeat (first | apply pick0 | apply pick_there)); done) | fail) (Nat.le_of_ble_eq_true (by rfl)) (by conv => lhs; whnf) (by kernel_rfl) ?_) | ((with_reducible apply at_store); refine ⟨?_⟩; refine wl_store (by assumption) (by rfl) (by conv => lhs; whnf) (by first | (simp only [putsAt, Value.cells]; (try go_frame); first | done | rfl) | rfl) (by first | ((repeat (first | with_reducible apply upd0 | with_reducible apply upd_there)); done) | ((repeat (first | apply upd0 | apply upd_there)); done) | fail) (Nat.le_of_ble_eq_true (by rfl)) (by kernel_rfl) (by rfl) ?_; intro wS hS))
        go_roundg (l.length - (i + 1))
        case measure => have := Hlt.out; omega
        case rel =>
          refine ⟨i + 1, .slice (some ⟨bA, 0, none⟩) nA cA, rfl, Nat.succ_le_of_lt Hlt.out, by first | rfl | go_num, ?_⟩
          rw [Hfs.out, Hb.out, if_pos rfl, Hsz.out]
          exact Sat.sb hS
    · obtain rfl : i = l.length := by omega
      have c1 : ¬ (l.length : Int) < (l.length : Int) := by omega
      rw [List.take_length] at hS
      clear hlt
      go_wp2_with fail
      go_ret2
      refine ⟨_, rfl, bB, rfl, ?_⟩
      rw [Hfr.out]
      exact RLogRep.shut (lv := lv) (hS.sb)
end
end Go.Proofs.YtmjldaedhmipkaaGreatDoor
/- hoardref07.Few. -/
namespace Go.Frm
/-- An entry with at most so many bytes. -/
def cutE (long : Nat) (x : Ent) : Ent := ⟨x.tag, x.key, x.data.take long⟩
def few (l : List Ent) (n long : Nat) : List Ent := (l.take n).map (cutE long)
end Go.Frm
namespace Go.Proofs.YtmjldaedhmipkaaGreatDoor
open Go Go.Sl Go.Med Go.MapKept Go.RowKit
set_option linter.unusedVariables false
section
variable {w0 w : World} {F R : List HProp} {v bv dv x lv : Value}
theorem rdsl_cut {k : Nat} {l : Bs} {a : Option Addr} {n c : Nat} (h : rdsl 1 (.slice a n c) (bys l) w) : rdsl 1 (.slice a (min n k) c) (bys (l.take k)) w := by
  obtain ⟨a', n', c', he, hl, hx⟩ := h
  cases he
  rw [bys_len, Nat.mul_one] at hl
  refine ⟨a, _, c, rfl, by rw [bys_len, List.length_take]; omega, fun j y hj => ?_⟩
  have hj' : (bys l)[j]? = some y := by
    unfold bys at hj ⊢
    rw [List.map_take, List.getElem?_take] at hj
    split at hj
    · exact hj
    · cases hj
  exact hx j y hj'
theorem dataS_snoc (es : List (Frm.Ent × Value)) (x : Frm.Ent) (dv : Value) : dataS (es ++ [(x, dv)]) = star (bsl dv x.data) (dataS es) := by
  unfold dataS
  rw [List.map_append, stars_append, star_comm]
  show star (stars [bsl dv x.data]) _ = _
  rw [stars_one]
theorem entA_one (e : Frm.Ent) (a : Option Addr) (n c : Nat) : (entA e (.slice a n c)).toList.all (·.oneCell') = true := by
  unfold entA entL
  rw [List.toList_toArray, List.all_cons, List.all_append]
  have : (bys e.key).all (·.oneCell') = true := List.all_eq_true.2 (bys_one _)
  rw [this]; rfl
/-- An entry that may be read. -/
structure EntRo (w0 : World) (F : List HProp) (p : Frm.Ent × Value) : Prop where
  key : p.1.key.length = 32
  rd : Ro w0 F (rdsl 1 p.2 (bys p.1.data))
  cap : capOk p.2
theorem few_keys {es fs : List (Frm.Ent × Value)} {i long : Nat} (h : fs.map (·.1) = ((es.map (·.1)).take i).map (Frm.cutE long)) (hk : ∀ p ∈ es, p.1.key.length = 32) : ∀ p ∈ fs, p.1.key.length = 32 := by
  intro p hp
  have h1 : p.1 ∈ fs.map (·.1) := List.mem_map.2 ⟨p, hp, rfl⟩
  rw [h, List.mem_map] at h1
  obtain ⟨x, hx, he⟩ := h1
  obtain ⟨q, hq, rfl⟩ := List.mem_map.1 (List.mem_of_mem_take hx)
  rw [← he]
  exact hk q hq
set_option maxRecDepth 20000 in
set_option maxHeartbeats 8000000 in
theorem few_c (es : List (Frm.Ent × Value)) (n long : Nat) (hlong : long ≤ 1099511627776) (hn : n ≤ 1048576) (hr : Ro w0 F (rdsl 34 lv (entsL es))) (he : ∀ p ∈ es, EntRo w0 F p) (h : Sat w0 w F) :
    Calls Tryz.prog 62 #[lv, .int .i64 n, .int .i64 long] w (Rtn fun v w' => ∃ fs : List (Frm.Ent × Value), fs.map (·.1) = Frm.few (es.map (·.1)) n long ∧ Sat w0 w' (osl 44 34 v (entsL fs) :: dataS fs :: F)) := by
  obtain ⟨la, ln, lc, rfl, hl, _⟩ := hr w h
  rw [entsL_len (fun p hp => (he p hp).key)] at hl
  obtain rfl : ln = es.length := by omega
  have Hr := Lib.hid hr; have He := Lib.hid he; have Hlong := Lib.hid hlong; have Hn := Lib.hid hn
  clear hr he hl hn
  go_enter Tryz.func62, Tryz.ntmps62
  go_wp2_with fail
  go_loopg [8, 7] es.length (fun g iq ov wr => ∃ (i : Nat) (fs : List (Frm.Ent × Value)), g = es.length - i ∧ i ≤ es.length ∧ i ≤ n ∧ iq = .int .i64 i ∧ fs.map (·.1) = ((es.map (·.1)).take i).map (Frm.cutE long) ∧
    Sat w0 wr (osl 44 34 ov (entsL fs) :: dataS fs :: F))
  case atStart => exact ⟨0, [], rfl, Nat.zero_le _, Nat.zero_le _, rfl, rfl, Sat.osl_nil.2 (Sat.emp.2 h)⟩
  case round =>
    obtain ⟨i, fs, rfl, hi, hin, rfl, hfs, hS⟩ := hrel
    have Hfs := Lib.hid hfs; have Hi := Lib.hid hi; have Hin := Lib.hid hin
    clear h hfs hi hin
    by_cases hlt : i < es.length ∧ i < n
    · obtain ⟨hl1, hl2⟩ := hlt
      have c1 : (i : Int) < (es.length : Int) := by omega
      have c2 : (i : Int) < (n : Int) := by omega
      have hwi : IntKind.i64.wrap ((i : Int) + 1) = (i : Int) + 1 := IntWalk.i64_in _ (by have := Hn.out; omega)
      have Hl1 := Lib.hid hl1; have Hl2 := Lib.hid hl2
      have Hfk := Lib.hid (few_keys Hfs.out (fun p hp => (He.out p hp).key))
      clear hl1 hl2
      obtain ⟨x, hx⟩ : ∃ x, es[i]? = some x := ⟨_, List.getElem?_eq_getElem Hl1.out⟩
      have hxe := He.out x (List.mem_of_getElem? hx)
      have hk : ∀ p ∈ es, p.1.key.length = 32 := fun p hp => (He.out p hp).key
      have hcut := Lib.hid (show fs.map (·.1) ++ [Frm.cutE long x.1] = ((es.map (·.1)).take (i + 1)).map (Frm.cutE long) by
        rw [Hfs.out, List.take_add_one, List.map_append, List.getElem?_map, hx]; rfl)
      have hrF : Ro w0 (osl 44 34 u7 (entsL fs) :: dataS fs :: F) (rdsl 34 (.slice la es.length lc) (entsL es)) := Ro.os Hr.out
      obtain ⟨bk, off, rfl, _⟩ := rdsl_cells (hrF _ hS) (entsL_at hk hx (entL_at0 _ _))
      have HG := Lib.hid (show ∀ w' L, Ro w0 L (rdsl 34 (.slice (some ⟨bk, off, none⟩) es.length lc) (entsL es)) → Sat w0 w' L → w'.cell? ⟨bk, off + i * 34, none⟩ = some (.int .i64 x.1.tag) ∧ w'.rangeAt bk (off + i * 34 + 1) (bys x.1.key) ∧ w'.cell? ⟨bk, off + i * 34 + 33, none⟩ = some x.2 by
        intro w' L hL hw
        obtain ⟨bk', off', hbo, hcell⟩ := rdsl_cells (hL w' hw) (entsL_at hk hx (entL_at0 _ _))
        cases hbo
        refine ⟨hcell _ _ (entsL_at hk hx (entL_at0 _ _)), fun j y hj => ?_, ?_⟩
        · have := hcell _ _ (entsL_at hk hx (entL_key _ x.2 hj))
          rw [show off + (i * 34 + (1 + j)) = off + i * 34 + 1 + j by omega] at this
          exact this
        · have := hcell _ _ (entsL_at hk hx (entL_at33 _ _ hxe.key))
          rw [show off + (i * 34 + 33) = off + i * 34 + 33 by omega] at this
          exact this)
      obtain ⟨⟨tag, key, data⟩, dv⟩ := x
      obtain ⟨da, dn, dc, rfl, hdn, hdc⟩ := hxe.cap
      have hdl : dn = data.length := by
        obtain ⟨a', n', c', he, hl, _⟩ := hxe.rd _ (hS.sb)
        cases he
        rw [bys_len, Nat.mul_one] at hl; exact hl.symm
      have Hrd := Lib.hid hxe.rd; have Hkey := Lib.hid (show key.length = 32 from hxe.key)
      have hks : (bys key).length = 32 := by rw [bys_len]; exact Hkey.out
      have Hks := Lib.hid hks
      have hcap : capOk (.slice da dn dc) := hxe.cap
      clear hx hxe hk hrF hks hcap
      go_wp2_with fail
      refine wpL_begin [19, 20, 21, 22] (fun w' => w'.cell? ⟨bk, off + i * 34, none⟩ = some (.int .i64 tag) ∧ w'.rangeAt bk (off + i * 34 + 1) (bys key) ∧ w'.cell? ⟨bk, off + i * 34 + 33, none⟩ = some (.slice da dn dc)) (by kernel_rfl) ?_
      have hG := HG.out _ _ (Ro.os Hr.out) hS.drew
      refine rp 0 (hy := (yl_move (by conv => lhs; whnf))) (h := ?_)
      refine rp 1 (hy := (yl_move (by conv => lhs; whnf))) (h := ?_)
      refine rp 2 (hy := (yl_move (by conv => lhs; whnf))) (h := ?_)
      refine rp 3 (hy := (yl_index (by conv => lhs; whnf) (by conv => lhs; whnf) (by ((intro wq; go_simp); first | done | (with_reducible rfl))))) (h := ?_)
      refine rp 4 (hy := (yl_field (by conv => lhs; whnf) (by ((intro wq; go_simp); first | done | (with_reducible rfl))))) (h := ?_)
      refine rt 5 (h := ?_)
      refine rp 6 (hy := (yl_move (by conv => lhs; whnf))) (h := ?_)
      refine rp 7 (hy := (yl_move (by conv => lhs; whnf))) (h := ?_)
      refine rp 8 (hy := (yl_index (by conv => lhs; whnf) (by conv => lhs; whnf) (by ((intro wq; go_simp); first | done | (with_reducible rfl))))) (h := ?_)
      refine rp 9 (hy := (yl_field (by conv => lhs; whnf) (by ((intro wq; go_simp); first | done | (with_reducible rfl))))) (h := ?_)
      refine rg_take 10 (by conv => lhs; whnf) (by kernel_rfl) (by intro _ _ _ h; exact h) (tk_loadN (b := bk) (o := off + i * 34 + 1) (bys key) (by rfl) Tryz.underlying41 rfl (by rw [Hks.out]; kernel_rfl) (fun w hw => hw.2.1)) (by assumption) (by go_frame; first | done | rfl) ?_
      refine rp 11 (hy := (yl_move (by conv => lhs; whnf))) (h := ?_)
      refine rp 12 (hy := (yl_move (by conv => lhs; whnf))) (h := ?_)
      refine rp 13 (hy := (yl_index (by conv => lhs; whnf) (by conv => lhs; whnf) (by ((intro wq; go_simp); first | done | (with_reducible rfl))))) (h := ?_)
      refine rp 14 (hy := (yl_field (by conv => lhs; whnf) (by ((intro wq; go_simp); first | done | (with_reducible rfl))))) (h := ?_)
      refine rt 15 (h := ?_)
      refine rp 16 (hy := (yl_move (by conv => lhs; whnf))) (h := ?_)
      clear hG
      refine rg_eff 17 (by conv => lhs; whnf) (by kernel_rfl) (fun K hK => ?_)
      (refine eff_call2 (by kernel_rfl) (by conv => lhs; whnf) (by conv => lhs; whnf) ?_)
      refine (cut_c da dn dc long hdn hdc _).mono ?_
      rintro e w3 ⟨v, rfl, rfl, rfl⟩
      refine hK _ _ (.inr (.inr rfl)) ?_
      clear hK K
      refine rg_eff 18 (by conv => lhs; whnf) (by kernel_rfl) (fun K hK => ?_)
      (refine eff_call1 (by kernel_rfl) (by conv => lhs; whnf) ?_)
      refine (copy_c hS.drew (data.take long) (rdsl_cut ((Ro.os Hrd.out) _ hS.drew)) (by rw [List.length_take]; have := Hlong.out; omega)).mono ?_
      rintro e w4 ⟨v, rfl, hS4, ca, cn, cc, rfl⟩
      refine hK _ _ (.inr (.inl (HG.out _ _ (Ro.os Hr.out) hS4))) ?_
      clear hK K
      refine rp 19 (hy := (yl_build3 (by conv => lhs; whnf) (by conv => lhs; whnf) (by conv => lhs; whnf) (fun w => run_buildEnt ⟨tag, key, data.take long⟩ Hkey.out ca cn cc w))) (h := ?_)
      refine rg_eff 20 (by conv => lhs; whnf) (by kernel_rfl) (fun K hK => ?_)
      refine eff_build1 (e := 44) (sz := 34) (by' := 64) (by kernel_rfl) hS4 (by conv => lhs; whnf) (cs := entA ⟨tag, key, data.take long⟩ (.slice ca cn cc)) rfl (entA_size _ _ Hkey.out) (Nat.le_of_ble_eq_true (by rfl)) ?_
      intro bN w5 hN
      refine hK _ _ (.inl rfl) ?_
      clear hK K hS4
      have hlen : (entsL fs).length ≤ 2147483648 := by
        rw [entsL_len Hfk.out]
        have := congrArg List.length Hfs.out
        simp only [List.length_map, List.length_take] at this
        have := Hn.out; have := Hin.out; omega
      refine rg_eff 21 (by conv => lhs; whnf) (by kernel_rfl) (fun K hK => ?_)
      refine eff_app 44 34 64 (by kernel_rfl) hN (by rfl) (by rfl) (by first | ((repeat (first | with_reducible apply pick0 | with_reducible apply pick_there)); done) | ((repeat (first | apply pick0 | apply pick_there)); done) | fail) (by first | ((repeat (first | with_reducible apply pick0 | with_reducible apply pick_there)); done) | ((repeat (first | apply pick0 | apply pick_there)); done) | fail) ((entA_size _ _ Hkey.out).trans (by decide)) (Nat.le_refl 1) (entA_one _ _ _ _) hlen (by rw [entA_size _ _ Hkey.out]; decide) (by decide) rfl ?_
      intro bA nA cA w6 hA
      refine hK _ _ (.inl rfl) ?_
      clear hK K hN hlen
      refine rp 22 (hy := (yl_assign (by conv => lhs; whnf))) (h := ?_)
      refine wpL_done (by kernel_rfl) ?_
      go_wp2_with fail
      go_roundg (es.length - (i + 1))
      case measure => have := Hl1.out; omega
      case rel =>
        refine ⟨i + 1, fs ++ [(⟨tag, key, data.take long⟩, .slice ca cn cc)], rfl, Nat.succ_le_of_lt Hl1.out, Nat.succ_le_of_lt Hl2.out, by first | rfl | go_num, ?_, ?_⟩
        · rw [← hcut.out, List.map_append]; rfl
        · rw [entsL_app, dataS_snoc]
          have h9 : Sat w0 w6 (osl 44 34 (.slice (some ⟨bA, 0, none⟩) nA cA) (entsL fs ++ entsL [(⟨tag, key, data.take long⟩, .slice ca cn cc)]) :: bsl (.slice ca cn cc) (data.take long) :: dataS fs :: F) := by
            have e : entsL [((⟨tag, key, data.take long⟩ : Frm.Ent), Value.slice ca cn cc)] = (entA ⟨tag, key, data.take long⟩ (.slice ca cn cc)).toList := by
              unfold entsL entA; simp
            rw [e]
            exact Sat.sb hA
          have h10 : Sat w0 w6 (bsl (.slice ca cn cc) (data.take long) :: dataS fs :: osl 44 34 (.slice (some ⟨bA, 0, none⟩) nA cA) (entsL fs ++ entsL [(⟨tag, key, data.take long⟩, .slice ca cn cc)]) :: F) := h9.sb
          exact (Sat.star.2 h10).pick1
    · have hfin : fs.map (·.1) = Frm.few (es.map (·.1)) n long := by
        rw [Hfs.out]
        unfold Frm.few
        congr 1
        have := Hi.out; have := Hin.out
        by_cases hh : i = n
        · rw [hh]
        · rw [List.take_of_length_le (by rw [List.length_map]; omega), List.take_of_length_le (by rw [List.length_map]; omega)]
      by_cases hl1 : i < es.length
      · have c1 : (i : Int) < (es.length : Int) := by omega
        have c2 : ¬ (i : Int) < (n : Int) := by omega
        have Hfin := Lib.hid hfin
        clear hfin hlt hl1
        go_wp2
        go_ret
        exact ⟨_, rfl, fs, Hfin.out, hS⟩
      · have c1 : ¬ (i : Int) < (es.length : Int) := by omega
        have Hfin := Lib.hid hfin
        clear hfin hlt hl1
        go_wp2
        go_ret
        exact ⟨_, rfl, fs, Hfin.out, hS⟩
end
end Go.Proofs.YtmjldaedhmipkaaGreatDoor
/- One entry in a slice; what Few makes of one. -/
namespace Go.Proofs.YtmjldaedhmipkaaGreatDoor
open Go Go.Sl Go.Med Go.MapKept Go.RowKit
set_option linter.unusedVariables false
section
variable {w0 w : World} {L L' R F : List HProp} {b : Nat} {ops : Array Oper} {rest : List Oper} {a : Act} {Q : Exit → Act → World → Prop}
variable {dst : Option Tmp} {t T : TypeId} {pos : String} {after : Array Edge} {x y : Operand} {cs : Array Value} {v : Value} {e : Frm.Ent} {da : Option Addr} {dn dc : Nat}
/-- '[]Entry{x}'. -/
theorem wl_buildE (hs : Sat w0 w L) (hy : a.eval x = .agg (entA e (.slice da dn dc))) (hk : e.key.length = 32)
    (hK : ∀ b w', Sat w0 w' (pt b (.cells (entA e (.slice da dn dc)) 44 (0,0)) :: L) → wpList Tryz.prog ops Q rest (a.put dst (.slice (some ⟨b, 0, none⟩) 1 1)) w') :
    wpList Tryz.prog ops Q (⟨dst, .buildSlice 125 1 #[(0, x)], t, pos, after, none⟩ :: rest) a w :=
  wl_build1 (e := 44) (sz := 34) (by' := 64) (by kernel_rfl) hs hy rfl (entA_size _ _ hk) (by decide) hK
theorem at_buildE (h : Stop (wpList Tryz.prog ops Q (⟨dst, .buildSlice 125 1 #[(0, x)], t, pos, after, none⟩ :: rest) a w)) : wpList Tryz.prog ops Q (⟨dst, .buildSlice 125 1 #[(0, x)], t, pos, after, none⟩ :: rest) a w := h.out
/-- An entry out of a slice's memory. -/
theorem wl_loadEs {o : Nat} (hs : Sat w0 w L) (hx : a.eval x = .pointer (some ⟨b, o, none⟩)) (p : Pick (pt b (.cells cs T (0,0))) L R) (hk : e.key.length = 32) (hv : ∀ j v, (entL e (.slice da dn dc))[j]? = some v → cs[o + j]? = some v)
    (h : wpList Tryz.prog ops Q rest (a.put dst (.agg (entA e (.slice da dn dc)))) w) : wpList Tryz.prog ops Q (⟨dst, .load 44 x, t, pos, after, none⟩ :: rest) a w :=
  wl_loadN (entL e (.slice da dn dc)) hs hx p hv Tryz.underlying44 rfl (by rw [entL_len e _ hk]; exact infoEntSize) h
theorem entsL_one (e : Frm.Ent) (dv : Value) : entsL [(e, dv)] = (entA e dv).toList := by unfold entsL entA; simp
/-- A slice of one entry reads as such. -/
theorem ro_one (h : e.key.length = 32) : Ro w0 (pt b (.cells (entA e (.slice da dn dc)) T (0,0)) :: F) (rdsl 34 (.slice (some ⟨b, 0, none⟩) 1 1) (entsL [(e, .slice da dn dc)])) := fun w hw => by
  rw [entsL_one]
  exact ⟨_, 1, 1, rfl, by rw [Array.length_toList, entA_size _ _ h], fun j y hj => ⟨_, rfl, by rw [add_zero_lit]; exact hw.cellAt j y (by simpa using hj)⟩⟩
/-- The entry that Few makes of one. -/
theorem few_one {fs : List (Frm.Ent × Value)} {n long : Nat} (h : fs.map (·.1) = Frm.few [e] (n + 1) long) : ∃ dv, fs = [(Frm.cutE long e, dv)] := by
  have h1 : fs.map (·.1) = [Frm.cutE long e] := by rw [h]; simp [Frm.few]
  cases fs with
  | nil => cases h1
  | cons f fs =>
    cases fs with
    | nil =>
      obtain ⟨x, dv⟩ := f
      simp only [List.map_cons, List.map_nil, List.cons.injEq, and_true] at h1
      exact ⟨dv, by rw [h1]⟩
    | cons g fs => simp at h1
/-- Its memory, opened. -/
theorem few_open {dv v : Value} (hk : e.key.length = 32) (h : Sat w0 w (osl 44 34 v (entsL [(e, dv)]) :: dataS [(e, dv)] :: F)) :
    ∃ b c cs da dc, v = .slice (some ⟨b, 0, none⟩) 1 c ∧ dv = .slice da e.data.length dc ∧ (∀ j y, (entL e dv)[j]? = some y → cs[0 + j]? = some y) ∧ Sat w0 w (pt b (.cells cs 44 (0,0)) :: bsl dv e.data :: F) := by
  have e1 : dataS [(e, dv)] = bsl dv e.data := by unfold dataS; exact stars_one _
  rw [e1] at h
  obtain ⟨da, dn, dc, rfl, hdn, _⟩ := Sat.rd h.pick1
  rw [bys_len, Nat.mul_one] at hdn
  subst hdn
  rcases h.osl_cases with ⟨rfl, hx, hF⟩ | ⟨b, n', cap, cs, rfl, hll, hn', hc, hcm, htk, hp⟩
  · rw [entsL_one] at hx
    have := congrArg List.length hx
    rw [Array.length_toList, entA_size _ _ hk] at this
    cases this
  · rw [entsL_one, Array.length_toList, entA_size _ _ hk] at hll
    obtain rfl : n' = 1 := by omega
    refine ⟨b, cap, cs, da, dc, rfl, rfl, fun j y hj => ?_, hp⟩
    rw [Nat.zero_add]
    refine take_get htk ?_
    rw [entsL_one]
    unfold entA
    exact hj
end
end Go.Proofs.YtmjldaedhmipkaaGreatDoor
/- The Segs laws' own small functions: SameInts, SameEntry. -/
namespace Go.Proofs.YtmjldaedhmipkaaGreatDoor
open Go Go.Sl Go.Med Go.MapKept Go.RowKit
set_option linter.unusedVariables false
section
variable {w0 w : World} {F : List HProp} {av bv v : Value}
set_option maxHeartbeats 4000000 in
/-- Two slices of the same numbers. -/
theorem sameInts_c (la : List Int) (ha : Ro w0 F (rdsl 1 av (ints la))) (hb : Ro w0 F (rdsl 1 bv (ints la))) (h : Sat w0 w F) (hlen : la.length ≤ 9223372036854775807) :
    Calls Tryz.prog 45 #[av, bv] w (Rtn fun v w' => v = .bool true ∧ Sat w0 w' F) := by
  obtain ⟨aa, an, ac, rfl, hal, _⟩ := id (ha w h)
  obtain ⟨ba, bn, bc, rfl, hbl, _⟩ := id (hb w h)
  rw [show (ints la).length = la.length from List.length_map .., Nat.mul_one] at hal hbl
  subst hal
  obtain rfl := hbl.symm
  have Ha := Lib.hid ha; have Hb := Lib.hid hb
  clear ha hb
  go_enter Tryz.func45, Tryz.ntmps45
  go_wp2
  go_loopg [5] la.length (fun g iq wr => ∃ i : Nat, g = la.length - i ∧ i ≤ la.length ∧ iq = .int .i64 i ∧ Sat w0 wr F)
  case atStart => exact ⟨0, rfl, Nat.zero_le _, rfl, h⟩
  case round =>
    obtain ⟨i, rfl, hiN, rfl, hS⟩ := hrel
    by_cases hi : i < la.length
    · have hx : (ints la)[i]? = some (.int .i64 (la[i]'hi)) := by unfold ints; simp [hi]
      obtain ⟨bk, off, rfl, c1⟩ := rdsl_cell (Ha.out _ hS) hx
      obtain ⟨bk2, off2, rfl, c2⟩ := rdsl_cell (Hb.out _ hS) hx
      generalize (la[i]'hi) = X at c1 c2
      clear hx
      have hic : (i : Int) < (la.length : Int) := by omega
      have hS1 := hS.drew
      go_wp2
      refine wpL_begin [8] (fun w' => w'.cell? ⟨bk, off + i, none⟩ = some (.int .i64 X) ∧ w'.cell? ⟨bk2, off2 + i, none⟩ = some (.int .i64 X)) (by kernel_rfl) ?_
      have hG : _ ∧ _ := And.intro c1 c2
      refine rp 0 (hy := (by first | ((with_reducible apply gd_move); refine ⟨?_⟩; exact yl_move (by conv => lhs; whnf)) | ((with_reducible apply gd_assign); refine ⟨?_⟩; exact yl_assign (by conv => lhs; whnf)) | ((with_reducible apply gd_nil); refine ⟨?_⟩; exact yl_nil (by conv => lhs; whnf)) | ((with_reducible apply gd_field); refine ⟨?_⟩; exact yl_field (by conv => lhs; whnf) (by ((intro wq; go_simp); first | done | (with_reducible rfl)))) | ((with_reducible apply gd_len); refine ⟨?_⟩; exact yl_len (by conv => lhs; whnf) (by ((intro wq; go_simp); first | done | (with_reducible rfl)))) | ((with_reducible apply gd_bin); refine ⟨?_⟩; exact yl_bin (by conv => lhs; whnf) (by conv => lhs; whnf) (by ((intro wq; go_simp); first | done | (with_reducible rfl)))) | ((with_reducible apply gd_index); refine ⟨?_⟩; exact yl_index (by conv => lhs; whnf) (by conv => lhs; whnf) (by ((intro wq; go_simp); first | done | (with_reducible rfl)))) | ((with_reducible apply gd_extract); refine ⟨?_⟩; exact yl_extract (by conv => lhs; whnf) (by ((intro wq; go_simp); first | done | (with_reducible rfl)))) | ((with_reducible apply gd_un); refine ⟨?_⟩; exact yl_un (by conv => lhs; whnf) (by ((intro wq; go_simp); first | done | (with_reducible rfl)))) | ((with_reducible apply gd_conv); refine ⟨?_⟩; exact yl_conv (by conv => lhs; whnf) (by ((intro wq; go_simp); first | done | (with_reducible rfl)))) | (refine Or.inl ⟨by rfl, ?_⟩; ((intro wq; go_simp); first | done | (with_reducible rfl))))) (h := ?_)
      refine rp 1 (hy := (by first | ((with_reducible apply gd_move); refine ⟨?_⟩; exact yl_move (by conv => lhs; whnf)) | ((with_reducible apply gd_assign); refine ⟨?_⟩; exact yl_assign (by conv => lhs; whnf)) | ((with_reducible apply gd_nil); refine ⟨?_⟩; exact yl_nil (by conv => lhs; whnf)) | ((with_reducible apply gd_field); refine ⟨?_⟩; exact yl_field (by conv => lhs; whnf) (by ((intro wq; go_simp); first | done | (with_reducible rfl)))) | ((with_reducible apply gd_len); refine ⟨?_⟩; exact yl_len (by conv => lhs; whnf) (by ((intro wq; go_simp); first | done | (with_reducible rfl)))) | ((with_reducible apply gd_bin); refine ⟨?_⟩; exact yl_bin (by conv => lhs; whnf) (by conv => lhs; whnf) (by ((intro wq; go_simp); first | done | (with_reducible rfl)))) | ((with_reducible apply gd_index); refine ⟨?_⟩; exact yl_index (by conv => lhs; whnf) (by conv => lhs; whnf) (by ((intro wq; go_simp); first | done | (with_reducible rfl)))) | ((with_reducible apply gd_extract); refine ⟨?_⟩; exact yl_extract (by conv => lhs; whnf) (by ((intro wq; go_simp); first | done | (with_reducible rfl)))) | ((with_reducible apply gd_un); refine ⟨?_⟩; exact yl_un (by conv => lhs; whnf) (by ((intro wq; go_simp); first | done | (with_reducible rfl)))) | ((with_reducible apply gd_conv); refine ⟨?_⟩; exact yl_conv (by conv => lhs; whnf) (by ((intro wq; go_simp); first | done | (with_reducible rfl)))) | (refine Or.inl ⟨by rfl, ?_⟩; ((intro wq; go_simp); first | done | (with_reducible rfl))))) (h := ?_)
      refine rp 2 (hy := (by first | ((with_reducible apply gd_move); refine ⟨?_⟩; exact yl_move (by conv => lhs; whnf)) | ((with_reducible apply gd_assign); refine ⟨?_⟩; exact yl_assign (by conv => lhs; whnf)) | ((with_reducible apply gd_nil); refine ⟨?_⟩; exact yl_nil (by conv => lhs; whnf)) | ((with_reducible apply gd_field); refine ⟨?_⟩; exact yl_field (by conv => lhs; whnf) (by ((intro wq; go_simp); first | done | (with_reducible rfl)))) | ((with_reducible apply gd_len); refine ⟨?_⟩; exact yl_len (by conv => lhs; whnf) (by ((intro wq; go_simp); first | done | (with_reducible rfl)))) | ((with_reducible apply gd_bin); refine ⟨?_⟩; exact yl_bin (by conv => lhs; whnf) (by conv => lhs; whnf) (by ((intro wq; go_simp); first | done | (with_reducible rfl)))) | ((with_reducible apply gd_index); refine ⟨?_⟩; exact yl_index (by conv => lhs; whnf) (by conv => lhs; whnf) (by ((intro wq; go_simp); first | done | (with_reducible rfl)))) | ((with_reducible apply gd_extract); refine ⟨?_⟩; exact yl_extract (by conv => lhs; whnf) (by ((intro wq; go_simp); first | done | (with_reducible rfl)))) | ((with_reducible apply gd_un); refine ⟨?_⟩; exact yl_un (by conv => lhs; whnf) (by ((intro wq; go_simp); first | done | (with_reducible rfl)))) | ((with_reducible apply gd_conv); refine ⟨?_⟩; exact yl_conv (by conv => lhs; whnf) (by ((intro wq; go_simp); first | done | (with_reducible rfl)))) | (refine Or.inl ⟨by rfl, ?_⟩; ((intro wq; go_simp); first | done | (with_reducible rfl))))) (h := ?_)
      refine rt 3 (h := ?_)
      refine rp 4 (hy := (by first | ((with_reducible apply gd_move); refine ⟨?_⟩; exact yl_move (by conv => lhs; whnf)) | ((with_reducible apply gd_assign); refine ⟨?_⟩; exact yl_assign (by conv => lhs; whnf)) | ((with_reducible apply gd_nil); refine ⟨?_⟩; exact yl_nil (by conv => lhs; whnf)) | ((with_reducible apply gd_field); refine ⟨?_⟩; exact yl_field (by conv => lhs; whnf) (by ((intro wq; go_simp); first | done | (with_reducible rfl)))) | ((with_reducible apply gd_len); refine ⟨?_⟩; exact yl_len (by conv => lhs; whnf) (by ((intro wq; go_simp); first | done | (with_reducible rfl)))) | ((with_reducible apply gd_bin); refine ⟨?_⟩; exact yl_bin (by conv => lhs; whnf) (by conv => lhs; whnf) (by ((intro wq; go_simp); first | done | (with_reducible rfl)))) | ((with_reducible apply gd_index); refine ⟨?_⟩; exact yl_index (by conv => lhs; whnf) (by conv => lhs; whnf) (by ((intro wq; go_simp); first | done | (with_reducible rfl)))) | ((with_reducible apply gd_extract); refine ⟨?_⟩; exact yl_extract (by conv => lhs; whnf) (by ((intro wq; go_simp); first | done | (with_reducible rfl)))) | ((with_reducible apply gd_un); refine ⟨?_⟩; exact yl_un (by conv => lhs; whnf) (by ((intro wq; go_simp); first | done | (with_reducible rfl)))) | ((with_reducible apply gd_conv); refine ⟨?_⟩; exact yl_conv (by conv => lhs; whnf) (by ((intro wq; go_simp); first | done | (with_reducible rfl)))) | (refine Or.inl ⟨by rfl, ?_⟩; ((intro wq; go_simp); first | done | (with_reducible rfl))))) (h := ?_)
      refine rp 5 (hy := (by first | ((with_reducible apply gd_move); refine ⟨?_⟩; exact yl_move (by conv => lhs; whnf)) | ((with_reducible apply gd_assign); refine ⟨?_⟩; exact yl_assign (by conv => lhs; whnf)) | ((with_reducible apply gd_nil); refine ⟨?_⟩; exact yl_nil (by conv => lhs; whnf)) | ((with_reducible apply gd_field); refine ⟨?_⟩; exact yl_field (by conv => lhs; whnf) (by ((intro wq; go_simp); first | done | (with_reducible rfl)))) | ((with_reducible apply gd_len); refine ⟨?_⟩; exact yl_len (by conv => lhs; whnf) (by ((intro wq; go_simp); first | done | (with_reducible rfl)))) | ((with_reducible apply gd_bin); refine ⟨?_⟩; exact yl_bin (by conv => lhs; whnf) (by conv => lhs; whnf) (by ((intro wq; go_simp); first | done | (with_reducible rfl)))) | ((with_reducible apply gd_index); refine ⟨?_⟩; exact yl_index (by conv => lhs; whnf) (by conv => lhs; whnf) (by ((intro wq; go_simp); first | done | (with_reducible rfl)))) | ((with_reducible apply gd_extract); refine ⟨?_⟩; exact yl_extract (by conv => lhs; whnf) (by ((intro wq; go_simp); first | done | (with_reducible rfl)))) | ((with_reducible apply gd_un); refine ⟨?_⟩; exact yl_un (by conv => lhs; whnf) (by ((intro wq; go_simp); first | done | (with_reducible rfl)))) | ((with_reducible apply gd_conv); refine ⟨?_⟩; exact yl_conv (by conv => lhs; whnf) (by ((intro wq; go_simp); first | done | (with_reducible rfl)))) | (refine Or.inl ⟨by rfl, ?_⟩; ((intro wq; go_simp); first | done | (with_reducible rfl))))) (h := ?_)
      refine rp 6 (hy := (by first | ((with_reducible apply gd_move); refine ⟨?_⟩; exact yl_move (by conv => lhs; whnf)) | ((with_reducible apply gd_assign); refine ⟨?_⟩; exact yl_assign (by conv => lhs; whnf)) | ((with_reducible apply gd_nil); refine ⟨?_⟩; exact yl_nil (by conv => lhs; whnf)) | ((with_reducible apply gd_field); refine ⟨?_⟩; exact yl_field (by conv => lhs; whnf) (by ((intro wq; go_simp); first | done | (with_reducible rfl)))) | ((with_reducible apply gd_len); refine ⟨?_⟩; exact yl_len (by conv => lhs; whnf) (by ((intro wq; go_simp); first | done | (with_reducible rfl)))) | ((with_reducible apply gd_bin); refine ⟨?_⟩; exact yl_bin (by conv => lhs; whnf) (by conv => lhs; whnf) (by ((intro wq; go_simp); first | done | (with_reducible rfl)))) | ((with_reducible apply gd_index); refine ⟨?_⟩; exact yl_index (by conv => lhs; whnf) (by conv => lhs; whnf) (by ((intro wq; go_simp); first | done | (with_reducible rfl)))) | ((with_reducible apply gd_extract); refine ⟨?_⟩; exact yl_extract (by conv => lhs; whnf) (by ((intro wq; go_simp); first | done | (with_reducible rfl)))) | ((with_reducible apply gd_un); refine ⟨?_⟩; exact yl_un (by conv => lhs; whnf) (by ((intro wq; go_simp); first | done | (with_reducible rfl)))) | ((with_reducible apply gd_conv); refine ⟨?_⟩; exact yl_conv (by conv => lhs; whnf) (by ((intro wq; go_simp); first | done | (with_reducible rfl)))) | (refine Or.inl ⟨by rfl, ?_⟩; ((intro wq; go_simp); first | done | (with_reducible rfl))))) (h := ?_)
      refine rt 7 (h := ?_)
      refine rp 8 (hy := (by first | ((with_reducible apply gd_move); refine ⟨?_⟩; exact yl_move (by conv => lhs; whnf)) | ((with_reducible apply gd_assign); refine ⟨?_⟩; exact yl_assign (by conv => lhs; whnf)) | ((with_reducible apply gd_nil); refine ⟨?_⟩; exact yl_nil (by conv => lhs; whnf)) | ((with_reducible apply gd_field); refine ⟨?_⟩; exact yl_field (by conv => lhs; whnf) (by ((intro wq; go_simp); first | done | (with_reducible rfl)))) | ((with_reducible apply gd_len); refine ⟨?_⟩; exact yl_len (by conv => lhs; whnf) (by ((intro wq; go_simp); first | done | (with_reducible rfl)))) | ((with_reducible apply gd_bin); refine ⟨?_⟩; exact yl_bin (by conv => lhs; whnf) (by conv => lhs; whnf) (by ((intro wq; go_simp); first | done | (with_reducible rfl)))) | ((with_reducible apply gd_index); refine ⟨?_⟩; exact yl_index (by conv => lhs; whnf) (by conv => lhs; whnf) (by ((intro wq; go_simp); first | done | (with_reducible rfl)))) | ((with_reducible apply gd_extract); refine ⟨?_⟩; exact yl_extract (by conv => lhs; whnf) (by ((intro wq; go_simp); first | done | (with_reducible rfl)))) | ((with_reducible apply gd_un); refine ⟨?_⟩; exact yl_un (by conv => lhs; whnf) (by ((intro wq; go_simp); first | done | (with_reducible rfl)))) | ((with_reducible apply gd_conv); refine ⟨?_⟩; exact yl_conv (by conv => lhs; whnf) (by ((intro wq; go_simp); first | done | (with_reducible rfl)))) | (refine Or.inl ⟨by rfl, ?_⟩; ((intro wq; go_simp); first | done | (with_reducible rfl))))) (h := ?_)
      refine wpL_done (by kernel_rfl) ?_
      clear hG
      try go_frame
      go_wp2
      go_roundg (la.length - (i + 1))
      case measure => omega
      case rel => exact ⟨i + 1, rfl, by omega, by go_num, hS1⟩
    · obtain rfl : i = la.length := by omega
      have hic : ¬ (la.length : Int) < (la.length : Int) := by omega
      go_wp2
      go_ret
      exact ⟨.bool true, rfl, rfl, hS⟩
section
variable {L R : List HProp} {b o : Nat} {ops : Array Oper} {rest : List Oper} {a : Act} {Q : Exit → Act → World → Prop} {dst : Option Tmp} {t ty T : TypeId} {pos : String} {after : Array Edge} {P : Program} {x : Operand} {cs : Array Value} {g : Nat × Bool}
theorem at_loadG (h : Stop (wpList P ops Q (⟨dst, .load ty x, t, pos, after, some g⟩ :: rest) a w)) : wpList P ops Q (⟨dst, .load ty x, t, pos, after, some g⟩ :: rest) a w := h.out
theorem wl_loadG1 (hw : Region.wanted ⟨dst, .load ty x, t, pos, after, some g⟩ (yielded ops a.tmps) = true) (hs : Sat w0 w L) (hx : a.eval x = .pointer (some ⟨b, o, none⟩)) (p : Pick (pt b (.cells cs T (0,0))) L R) (hlt : o + 1 ≤ cs.size) (hv : cs.getD o undef = v) (h1 : oneB P ty = true)
    (h : wpList P ops Q rest (a.put dst v) w) : wpList P ops Q (⟨dst, .load ty x, t, pos, after, some g⟩ :: rest) a w :=
  wpList_step fun _ hK => by
    rw [if_pos hw]
    unfold Oper.wp execOp
    simp only [hx, Instr.loadAt, Instr.sureAddr, Sem.run_bind, Sem.run_pure, Result.andThen_ok, run_load1 h1 (hs.cellP p o (getD_get hlt hv))]
    exact hK _ _ h
theorem wl_loadGm (hw : Region.wanted ⟨dst, .load ty x, t, pos, after, some g⟩ (yielded ops a.tmps) = true) (hx : a.eval x = .pointer (some ⟨b, o, none⟩)) (cl : List Value) (d : TypeDesc) (hc : w.rangeAt b o cl)
    (hu : P.underlying ty = some d) (hd : d.isRow = true) (hi : (P.info? ty).map (·.size) = some cl.length)
    (h : wpList P ops Q rest (a.put dst (.agg cl.toArray)) w) : wpList P ops Q (⟨dst, .load ty x, t, pos, after, some g⟩ :: rest) a w :=
  wpList_step fun _ hK => by
    rw [if_pos hw]
    exact wp_load_mid ty x rfl b o hx cl d hc hu hd hi (hK _ _ h)
end
theorem entA_g0 (x : Frm.Ent) (dv : Value) : (entA x dv).getD 0 undef = .int .i64 x.tag := rfl
theorem entA_g33 (x : Frm.Ent) (dv : Value) (hk : x.key.length = 32) : (entA x dv).getD 33 undef = dv := by
  rw [Array.getD_eq_getD_getElem?, entA_33 x dv hk]; rfl
theorem ent_range {L R : List HProp} {b : Nat} {e : Frm.Ent} {dv : Value} {T : TypeId} (h : Sat w0 w L) (p : Pick (pt b (.cells (entA e dv) T (0,0))) L R) (hk : e.key.length = 32) : w.rangeAt b 1 (bys e.key) := by
  intro j y hj
  have := entA_key e dv hk j y (by simpa using hj)
  exact h.cellP p (1 + j) this
set_option maxRecDepth 20000 in
set_option maxHeartbeats 4000000 in
/-- The same entry twice. -/
theorem sameEntry_c (e : Frm.Ent) (hk : e.key.length = 32) (da db : Option Addr) (na nb ca cb : Nat) (ha : Ro w0 F (rdsl 1 (.slice da na ca) (bys e.data))) (hb : Ro w0 F (rdsl 1 (.slice db nb cb) (bys e.data))) (h : Sat w0 w F) (hlen : e.data.length ≤ 9223372036854775807) :
    Calls Tryz.prog 33 #[.agg (entA e (.slice da na ca)), .agg (entA e (.slice db nb cb))] w (Rtn fun v w' => v = .bool true ∧ Sat w0 w' F) := by
  have Ha := Lib.hid ha; have Hb := Lib.hid hb
  clear ha hb
  have hq : ∀ w, (Op.equalIn 10000 41 (.agg (bys e.key).toArray) (.agg (bys e.key).toArray)).run Tryz.prog w = .ok true w := fun w => by rw [eqIn_key _ _ hk hk]; simp
  go_enter Tryz.func33, Tryz.ntmps33
  go_wp2_with (first
    | ((with_reducible apply at_boxE); refine ⟨?_⟩; refine wl_boxE (by assumption) (by rfl) ?_; intro bX wX hX)
    | ((with_reducible apply at_load); refine ⟨?_⟩; refine wl_load1 (by assumption) (by rfl) (by first | ((repeat (first | with_reducible apply pick0 | with_reducible apply pick_there)); done) | ((repeat (first | apply pick0 | apply pick_there)); done) | fail) (by rw [entA_size _ _ hk]; decide) (entA_g33 _ _ hk) (by kernel_rfl) ?_)
    | ((with_reducible apply at_load); refine ⟨?_⟩; refine wl_load1 (by assumption) (by rfl) (by first | ((repeat (first | with_reducible apply pick0 | with_reducible apply pick_there)); done) | ((repeat (first | apply pick0 | apply pick_there)); done) | fail) (by rw [entA_size _ _ hk]; decide) (entA_g0 _ _) (by kernel_rfl) ?_)
    | ((with_reducible apply at_loadG); refine ⟨?_⟩; refine wl_loadGm (o := 1) (by rfl) (by rfl) (bys e.key) _ (ent_range (by assumption) (by first | ((repeat (first | with_reducible apply pick0 | with_reducible apply pick_there)); done) | ((repeat (first | apply pick0 | apply pick_there)); done) | fail) hk) Tryz.underlying41 rfl (by rw [bys_len, hk]; kernel_rfl) ?_)
    | ((with_reducible apply at_loadG); refine ⟨?_⟩; refine wl_loadG1 (by rfl) (by assumption) (by rfl) (by first | ((repeat (first | with_reducible apply pick0 | with_reducible apply pick_there)); done) | ((repeat (first | apply pick0 | apply pick_there)); done) | fail) (by rw [entA_size _ _ hk]; decide) (entA_g33 _ _ hk) (by kernel_rfl) ?_))
  refine (same_c e.data Ha.out Hb.out (Sat.sb (by assumption)) hlen).mono ?_
  rintro ee w2 ⟨v, rfl, rfl, hS2⟩
  go_wp2
  go_ret
  exact ⟨_, rfl, rfl, Sat.sb hS2⟩
end
end Go.Proofs.YtmjldaedhmipkaaGreatDoor
