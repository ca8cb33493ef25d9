import Derived.Test.YtmjldaedhmipkaaGreatDoorJ6
set_option linter.unusedVariables false
/- hoardref07.Read: an entry that cannot be. -/
namespace Go.Proofs.YtmjldaedhmipkaaGreatDoor
open Go Go.Sl Go.Med Go.MapKept Go.RowKit
set_option linter.unusedVariables false
section
variable {w0 w : World} {F R : List HProp} {v bv dv x lv : Value}
set_option maxRecDepth 20000 in
set_option maxHeartbeats 8000000 in
theorem rread_short {l : Bs} (h9 : l.length < 9) (hr : Ro w0 F (rdsl 1 bv (bys l))) (hcap : capOk bv) (hl : l.length ≤ 1099511627776) (h : Sat w0 w F) :
    Calls Tryz.prog 100 #[bv] w (Rtn fun v w' => ∃ da dc, v = .tuple #[.agg (entA (Frm.read l).1 (.slice da (Frm.read l).1.data.length dc)), .int .i64 (Frm.read l).2.1, errno (Frm.read l).2.2] ∧ Sat w0 w' (bsl (.slice da (Frm.read l).1.data.length dc) (Frm.read l).1.data :: F)) := by
  obtain ⟨ba, bn, bc, rfl, hbn, hbc⟩ := hcap
  have hln : bn = l.length := by
    obtain ⟨_, _, _, he, hl', _⟩ := hr w h
    cases he
    rw [bys_len, Nat.mul_one] at hl'; exact hl'.symm
  subst hln
  have Hf := Lib.hid (show Frm.read l = (Frm.zeroE, 0, 3) by unfold Frm.read; rw [if_pos h9])
  have c1 : (l.length : Int) < 9 := by omega
  clear hr h9 hl
  go_enter Tryz.func100, Tryz.ntmps100
  go_wp2_with (first | ((with_reducible apply at_allocE); refine ⟨?_⟩; refine wl_allocE (by assumption) ?_; intro bE wE hE) | ((with_reducible apply at_buildZ); refine ⟨?_⟩; refine wl_buildZ ?_) | ((with_reducible apply at_storeE); refine ⟨?_⟩; first | (refine wl_storeE (by assumption) (by rfl) (by rfl) (by first | rfl | assumption | exact Hid.out (by assumption)) (by first | ((repeat (first | with_reducible apply upd0 | with_reducible apply upd_there)); done) | ((repeat (first | apply upd0 | apply upd_there)); done) | fail) (by first | assumption | exact entA_size _ _ rfl | exact entA_size _ _ (by assumption) | exact entA_size _ _ (Hid.out (by assumption))) ?_; intro wS hS) | (refine wl_storeE (e := Frm.zeroE) (da := none) (dn := 0) (dc := 0) (by assumption) (by rfl) (by rfl) rfl (by first | ((repeat (first | with_reducible apply upd0 | with_reducible apply upd_there)); done) | ((repeat (first | apply upd0 | apply upd_there)); done) | fail) (by first | assumption | exact entA_size _ _ rfl | exact entA_size _ _ (by assumption) | exact entA_size _ _ (Hid.out (by assumption))) ?_; intro wS hS)))
  rw [Hf.out]
  refine ⟨rfl, _, res_entE3 rfl (by assumption) (by rfl) (by first | ((repeat (first | with_reducible apply pick0 | with_reducible apply pick_there)); done) | ((repeat (first | apply pick0 | apply pick_there)); done) | fail) rfl, _, rfl, none, 0, rfl, Sat.osl_nil.2 (Sat.sb hS)⟩
set_option maxRecDepth 20000 in
set_option maxHeartbeats 8000000 in
theorem rread_tag (l : Bs) (hr : Ro w0 F (rdsl 1 bv (bys l))) (hcap : capOk bv) (hl : l.length ≤ 1099511627776) (h9 : ¬ l.length < 9) (ht : (l.getD 8 0).toNat > 2) (h : Sat w0 w F) :
    Calls Tryz.prog 100 #[bv] w (Rtn fun v w' => ∃ da dc, v = .tuple #[.agg (entA (Frm.read l).1 (.slice da (Frm.read l).1.data.length dc)), .int .i64 (Frm.read l).2.1, errno (Frm.read l).2.2] ∧ Sat w0 w' (bsl (.slice da (Frm.read l).1.data.length dc) (Frm.read l).1.data :: F)) := by
  obtain ⟨ba, bn, bc, rfl, hbn, hbc⟩ := hcap
  have hln : bn = l.length := by
    obtain ⟨_, _, _, he, hl', _⟩ := hr w h
    cases he
    rw [bys_len, Nat.mul_one] at hl'; exact hl'.symm
  subst hln
  obtain ⟨bk, off, rfl, hcell⟩ : ∃ bk off, ba = some ⟨bk, off, none⟩ ∧ True := by
    have hx : (bys l)[0]? = some (.int .u8 (l[0]'(by omega)).toNat) := by
      unfold bys; rw [List.getElem?_map, List.getElem?_eq_getElem (by omega)]; rfl
    obtain ⟨bk, off, hb, _⟩ := rdsl_cells (hr w h) hx
    exact ⟨bk, off, hb, trivial⟩
  clear hcell
  have hrd := hr w h
  have Hsub := Lib.hid (show ∀ (i j : Nat), i ≤ j → j ≤ l.length → ∀ w, Sat w0 w F → rdsl 1 (.slice (some ⟨bk, off + i, none⟩) (j - i) (bc - i)) (bys ((l.take j).drop i)) w from fun i j h1 h2 w hw => rdsl_sub (hr w hw) i j (bc - i) h1 h2)
  have Hnum := Lib.hid (show ∀ w, Sat w0 w F → Calls Tryz.prog 145 #[.slice (some ⟨bk, off + 4, none⟩) 4 (bc - 4)] w (Rtn fun v w' => v = .tuple #[.int .u64 (Frm.num ((l.drop 4).take 4) : Nat), .bool true] ∧ w = w') from fun w hw => rget_c ((l.drop 4).take 4) (by rw [List.length_take, List.length_drop]; omega) (by rw [List.length_take]; omega) (by
    have := Hsub.out 4 8 (by omega) (by omega) w hw
    rw [List.drop_take] at this
    exact this))
  have Hnum0 := Lib.hid (show ∀ w, Sat w0 w F → Calls Tryz.prog 145 #[.slice (some ⟨bk, off, none⟩) 4 bc] w (Rtn fun v w' => v = .tuple #[.int .u64 (Frm.num (l.take 4) : Nat), .bool true] ∧ w = w') from fun w hw => rget_c (l.take 4) (by rw [List.length_take]; omega) (by rw [List.length_take]; omega) (bsl_of_rd (hr w hw) (by omega)))
  have Hread := Lib.hid (show Frm.read l = if Frm.fits (l.getD 8 0) (Frm.num ((l.drop 4).take 4)) = false then (Frm.zeroE, 0, 4)
    else if l.length < Frm.num ((l.drop 4).take 4) then (Frm.zeroE, 0, 3)
    else if Frm.crc ((l.take (Frm.num ((l.drop 4).take 4))).drop 4) ≠ Frm.num (l.take 4) then (Frm.zeroE, 0, 13)
    else if 41 ≤ Frm.num ((l.drop 4).take 4) then (⟨(l.getD 8 0).toNat, (l.drop 9).take 32, (l.take (Frm.num ((l.drop 4).take 4))).drop 41⟩, Frm.num ((l.drop 4).take 4), 0)
    else (⟨(l.getD 8 0).toNat, Frm.zero32, []⟩, Frm.num ((l.drop 4).take 4), 0) by unfold Frm.read; rw [if_neg h9])
  have hN : Frm.num ((l.drop 4).take 4) < 4294967296 := by
    have := Frm.num_lt ((l.drop 4).take 4)
    rw [List.length_take, List.length_drop] at this
    have h4 : min 4 (l.length - 4) = 4 := by omega
    rw [h4] at this
    omega
  generalize hNN : Frm.num ((l.drop 4).take 4) = N at *
  have hc8 : ∀ w, Sat w0 w F → w.cell? ⟨bk, off + 8, none⟩ = some (.int .u8 (l.getD 8 0).toNat) := fun w hw => by
    have hx : (bys l)[8]? = some (.int .u8 (l.getD 8 0).toNat) := by
      unfold bys; rw [List.getElem?_map, List.getD_eq_getElem?_getD, List.getElem?_eq_getElem (by omega)]; rfl
    obtain ⟨bk', off', hb, hc⟩ := rdsl_cells (hr w hw) hx
    cases hb
    exact hc _ _ hx
  have Hc8 := Lib.hid hc8; have Hr := Lib.hid hr; have Hl := Lib.hid hl
  have c1 : ¬ (l.length : Int) < 9 := by omega
  have c2 : ¬ bc = 4 := by omega
  have c4 : (l.length : Int) ≤ (bc : Int) := by omega
  have c4b : (8 : Int) ≤ (bc : Int) := by omega
  have c5 : (8 : Int) < (l.length : Int) := by omega
  have Hbn := Lib.hid (show l.length ≤ bc ∧ bc ≤ 9223372036854775807 ∧ 9 ≤ l.length ∧ N < 4294967296 from ⟨hbn, hbc, by omega, hN⟩)
  have hcv : IntKind.i64.wrap (N : Int) = (N : Int) := by rw [IntKind.wrap_i64]; omega
  have hcv2 : wrap64 (N : Int) = (N : Int) := by rw [← IntWalk.i64_left]; exact hcv
  clear hrd hNN hc8 hr hl h9 hbn hbc hN
  generalize l.getD 8 0 = tg at *
  have hft : Frm.fits tg N = false := by
    unfold Frm.fits
    rw [if_neg (fun e => by rw [e] at ht; simp at ht), if_neg (fun e => by rw [e] at ht; simp at ht), if_neg (fun e => by rw [e] at ht; simp at ht)]
  have Hf := Lib.hid (Hread.out.trans (if_pos hft))
  clear hft Hread
  have d1 : (2 : Int) < (tg.toNat : Int) := by omega
  clear ht
  have htg := tg.toNat_lt
  have hct : IntKind.i64.wrap (tg.toNat : Int) = (tg.toNat : Int) := by rw [IntKind.wrap_i64]; omega
  have hct2 : wrap64 (tg.toNat : Int) = (tg.toNat : Int) := by rw [← IntWalk.i64_left]; exact hct
  generalize tg.toNat = tn at *
  go_enter Tryz.func100, Tryz.ntmps100
  go_wp2_with ((with_reducible apply at_allocE); refine ⟨?_⟩; refine wl_allocE (by assumption) ?_; intro bR wR hE)
  refine (Hnum.out _ hE.drop).mono ?_
  rintro ee w2 ⟨v, rfl, rfl, rfl⟩
  have e8 := Hc8.out _ hE.drop
  go_wp2_with (first | ((with_reducible apply at_buildZ); refine ⟨?_⟩; refine wl_buildZ ?_) | ((with_reducible apply at_storeE); refine ⟨?_⟩; first | (refine wl_storeE (by assumption) (by rfl) (by rfl) (by first | rfl | assumption | exact Hid.out (by assumption)) (by first | ((repeat (first | with_reducible apply upd0 | with_reducible apply upd_there)); done) | ((repeat (first | apply upd0 | apply upd_there)); done) | fail) (by first | assumption | exact entA_size _ _ rfl | exact entA_size _ _ (by assumption) | exact entA_size _ _ (Hid.out (by assumption))) ?_; intro wS hS) | (refine wl_storeE (e := Frm.zeroE) (da := none) (dn := 0) (dc := 0) (by assumption) (by rfl) (by rfl) rfl (by first | ((repeat (first | with_reducible apply upd0 | with_reducible apply upd_there)); done) | ((repeat (first | apply upd0 | apply upd_there)); done) | fail) (by first | assumption | exact entA_size _ _ rfl | exact entA_size _ _ (by assumption) | exact entA_size _ _ (Hid.out (by assumption))) ?_; intro wS hS)))
  rw [Hf.out]
  refine ⟨rfl, _, res_entE3 rfl (by assumption) (by rfl) (by first | ((repeat (first | with_reducible apply pick0 | with_reducible apply pick_there)); done) | ((repeat (first | apply pick0 | apply pick_there)); done) | fail) rfl, _, rfl, none, 0, rfl, Sat.osl_nil.2 (Sat.sb hS)⟩
set_option maxRecDepth 20000 in
set_option maxHeartbeats 8000000 in
theorem rread_two (l : Bs) (hr : Ro w0 F (rdsl 1 bv (bys l))) (hcap : capOk bv) (hl : l.length ≤ 1099511627776) (h9 : ¬ l.length < 9) (ht : (l.getD 8 0).toNat = 2) (hn : Frm.num ((l.drop 4).take 4) ≠ 9) (h : Sat w0 w F) :
    Calls Tryz.prog 100 #[bv] w (Rtn fun v w' => ∃ da dc, v = .tuple #[.agg (entA (Frm.read l).1 (.slice da (Frm.read l).1.data.length dc)), .int .i64 (Frm.read l).2.1, errno (Frm.read l).2.2] ∧ Sat w0 w' (bsl (.slice da (Frm.read l).1.data.length dc) (Frm.read l).1.data :: F)) := by
  obtain ⟨ba, bn, bc, rfl, hbn, hbc⟩ := hcap
  have hln : bn = l.length := by
    obtain ⟨_, _, _, he, hl', _⟩ := hr w h
    cases he
    rw [bys_len, Nat.mul_one] at hl'; exact hl'.symm
  subst hln
  obtain ⟨bk, off, rfl, hcell⟩ : ∃ bk off, ba = some ⟨bk, off, none⟩ ∧ True := by
    have hx : (bys l)[0]? = some (.int .u8 (l[0]'(by omega)).toNat) := by
      unfold bys; rw [List.getElem?_map, List.getElem?_eq_getElem (by omega)]; rfl
    obtain ⟨bk, off, hb, _⟩ := rdsl_cells (hr w h) hx
    exact ⟨bk, off, hb, trivial⟩
  clear hcell
  have hrd := hr w h
  have Hsub := Lib.hid (show ∀ (i j : Nat), i ≤ j → j ≤ l.length → ∀ w, Sat w0 w F → rdsl 1 (.slice (some ⟨bk, off + i, none⟩) (j - i) (bc - i)) (bys ((l.take j).drop i)) w from fun i j h1 h2 w hw => rdsl_sub (hr w hw) i j (bc - i) h1 h2)
  have Hnum := Lib.hid (show ∀ w, Sat w0 w F → Calls Tryz.prog 145 #[.slice (some ⟨bk, off + 4, none⟩) 4 (bc - 4)] w (Rtn fun v w' => v = .tuple #[.int .u64 (Frm.num ((l.drop 4).take 4) : Nat), .bool true] ∧ w = w') from fun w hw => rget_c ((l.drop 4).take 4) (by rw [List.length_take, List.length_drop]; omega) (by rw [List.length_take]; omega) (by
    have := Hsub.out 4 8 (by omega) (by omega) w hw
    rw [List.drop_take] at this
    exact this))
  have Hnum0 := Lib.hid (show ∀ w, Sat w0 w F → Calls Tryz.prog 145 #[.slice (some ⟨bk, off, none⟩) 4 bc] w (Rtn fun v w' => v = .tuple #[.int .u64 (Frm.num (l.take 4) : Nat), .bool true] ∧ w = w') from fun w hw => rget_c (l.take 4) (by rw [List.length_take]; omega) (by rw [List.length_take]; omega) (bsl_of_rd (hr w hw) (by omega)))
  have Hread := Lib.hid (show Frm.read l = if Frm.fits (l.getD 8 0) (Frm.num ((l.drop 4).take 4)) = false then (Frm.zeroE, 0, 4)
    else if l.length < Frm.num ((l.drop 4).take 4) then (Frm.zeroE, 0, 3)
    else if Frm.crc ((l.take (Frm.num ((l.drop 4).take 4))).drop 4) ≠ Frm.num (l.take 4) then (Frm.zeroE, 0, 13)
    else if 41 ≤ Frm.num ((l.drop 4).take 4) then (⟨(l.getD 8 0).toNat, (l.drop 9).take 32, (l.take (Frm.num ((l.drop 4).take 4))).drop 41⟩, Frm.num ((l.drop 4).take 4), 0)
    else (⟨(l.getD 8 0).toNat, Frm.zero32, []⟩, Frm.num ((l.drop 4).take 4), 0) by unfold Frm.read; rw [if_neg h9])
  have hN : Frm.num ((l.drop 4).take 4) < 4294967296 := by
    have := Frm.num_lt ((l.drop 4).take 4)
    rw [List.length_take, List.length_drop] at this
    have h4 : min 4 (l.length - 4) = 4 := by omega
    rw [h4] at this
    omega
  generalize hNN : Frm.num ((l.drop 4).take 4) = N at *
  have hc8 : ∀ w, Sat w0 w F → w.cell? ⟨bk, off + 8, none⟩ = some (.int .u8 (l.getD 8 0).toNat) := fun w hw => by
    have hx : (bys l)[8]? = some (.int .u8 (l.getD 8 0).toNat) := by
      unfold bys; rw [List.getElem?_map, List.getD_eq_getElem?_getD, List.getElem?_eq_getElem (by omega)]; rfl
    obtain ⟨bk', off', hb, hc⟩ := rdsl_cells (hr w hw) hx
    cases hb
    exact hc _ _ hx
  have Hc8 := Lib.hid hc8; have Hr := Lib.hid hr; have Hl := Lib.hid hl
  have c1 : ¬ (l.length : Int) < 9 := by omega
  have c2 : ¬ bc = 4 := by omega
  have c4 : (l.length : Int) ≤ (bc : Int) := by omega
  have c4b : (8 : Int) ≤ (bc : Int) := by omega
  have c5 : (8 : Int) < (l.length : Int) := by omega
  have Hbn := Lib.hid (show l.length ≤ bc ∧ bc ≤ 9223372036854775807 ∧ 9 ≤ l.length ∧ N < 4294967296 from ⟨hbn, hbc, by omega, hN⟩)
  have hcv : IntKind.i64.wrap (N : Int) = (N : Int) := by rw [IntKind.wrap_i64]; omega
  have hcv2 : wrap64 (N : Int) = (N : Int) := by rw [← IntWalk.i64_left]; exact hcv
  clear hrd hNN hc8 hr hl h9 hbn hbc hN
  generalize l.getD 8 0 = tg at *
  have hft : Frm.fits tg N = false := by
    have htu : tg = 2 := by apply UInt8.toNat_inj.1; rw [ht]; rfl
    subst htu
    unfold Frm.fits
    rw [if_neg (by decide), if_neg (by decide), if_pos rfl]; simp [hn]
  have Hf := Lib.hid (Hread.out.trans (if_pos hft))
  clear hft Hread
  have d1 : ((N : Int) == 9) = false := by rw [beq_eq_false_iff_ne]; omega
  have d2 : (N == 9) = false := by rw [beq_eq_false_iff_ne]; exact hn
  have d3 : ¬ N = 9 := hn
  clear hn
  have htg := tg.toNat_lt
  have hct : IntKind.i64.wrap (tg.toNat : Int) = (tg.toNat : Int) := by rw [IntKind.wrap_i64]; omega
  have hct2 : wrap64 (tg.toNat : Int) = (tg.toNat : Int) := by rw [← IntWalk.i64_left]; exact hct
  have htn := ht
  clear ht
  generalize tg.toNat = tn at *
  subst htn
  go_enter Tryz.func100, Tryz.ntmps100
  go_wp2_with ((with_reducible apply at_allocE); refine ⟨?_⟩; refine wl_allocE (by assumption) ?_; intro bR wR hE)
  refine (Hnum.out _ hE.drop).mono ?_
  rintro ee w2 ⟨v, rfl, rfl, rfl⟩
  have e8 := Hc8.out _ hE.drop
  go_wp2_with (first | ((with_reducible apply at_buildZ); refine ⟨?_⟩; refine wl_buildZ ?_) | ((with_reducible apply at_storeE); refine ⟨?_⟩; first | (refine wl_storeE (by assumption) (by rfl) (by rfl) (by first | rfl | assumption | exact Hid.out (by assumption)) (by first | ((repeat (first | with_reducible apply upd0 | with_reducible apply upd_there)); done) | ((repeat (first | apply upd0 | apply upd_there)); done) | fail) (by first | assumption | exact entA_size _ _ rfl | exact entA_size _ _ (by assumption) | exact entA_size _ _ (Hid.out (by assumption))) ?_; intro wS hS) | (refine wl_storeE (e := Frm.zeroE) (da := none) (dn := 0) (dc := 0) (by assumption) (by rfl) (by rfl) rfl (by first | ((repeat (first | with_reducible apply upd0 | with_reducible apply upd_there)); done) | ((repeat (first | apply upd0 | apply upd_there)); done) | fail) (by first | assumption | exact entA_size _ _ rfl | exact entA_size _ _ (by assumption) | exact entA_size _ _ (Hid.out (by assumption))) ?_; intro wS hS)))
  rw [Hf.out]
  refine ⟨rfl, _, res_entE3 rfl (by assumption) (by rfl) (by first | ((repeat (first | with_reducible apply pick0 | with_reducible apply pick_there)); done) | ((repeat (first | apply pick0 | apply pick_there)); done) | fail) rfl, _, rfl, none, 0, rfl, Sat.osl_nil.2 (Sat.sb hS)⟩
set_option maxRecDepth 20000 in
set_option maxHeartbeats 8000000 in
theorem rread_one (l : Bs) (hr : Ro w0 F (rdsl 1 bv (bys l))) (hcap : capOk bv) (hl : l.length ≤ 1099511627776) (h9 : ¬ l.length < 9) (ht : (l.getD 8 0).toNat = 1) (hn : Frm.num ((l.drop 4).take 4) ≠ 41) (h : Sat w0 w F) :
    Calls Tryz.prog 100 #[bv] w (Rtn fun v w' => ∃ da dc, v = .tuple #[.agg (entA (Frm.read l).1 (.slice da (Frm.read l).1.data.length dc)), .int .i64 (Frm.read l).2.1, errno (Frm.read l).2.2] ∧ Sat w0 w' (bsl (.slice da (Frm.read l).1.data.length dc) (Frm.read l).1.data :: F)) := by
  obtain ⟨ba, bn, bc, rfl, hbn, hbc⟩ := hcap
  have hln : bn = l.length := by
    obtain ⟨_, _, _, he, hl', _⟩ := hr w h
    cases he
    rw [bys_len, Nat.mul_one] at hl'; exact hl'.symm
  subst hln
  obtain ⟨bk, off, rfl, hcell⟩ : ∃ bk off, ba = some ⟨bk, off, none⟩ ∧ True := by
    have hx : (bys l)[0]? = some (.int .u8 (l[0]'(by omega)).toNat) := by
      unfold bys; rw [List.getElem?_map, List.getElem?_eq_getElem (by omega)]; rfl
    obtain ⟨bk, off, hb, _⟩ := rdsl_cells (hr w h) hx
    exact ⟨bk, off, hb, trivial⟩
  clear hcell
  have hrd := hr w h
  have Hsub := Lib.hid (show ∀ (i j : Nat), i ≤ j → j ≤ l.length → ∀ w, Sat w0 w F → rdsl 1 (.slice (some ⟨bk, off + i, none⟩) (j - i) (bc - i)) (bys ((l.take j).drop i)) w from fun i j h1 h2 w hw => rdsl_sub (hr w hw) i j (bc - i) h1 h2)
  have Hnum := Lib.hid (show ∀ w, Sat w0 w F → Calls Tryz.prog 145 #[.slice (some ⟨bk, off + 4, none⟩) 4 (bc - 4)] w (Rtn fun v w' => v = .tuple #[.int .u64 (Frm.num ((l.drop 4).take 4) : Nat), .bool true] ∧ w = w') from fun w hw => rget_c ((l.drop 4).take 4) (by rw [List.length_take, List.length_drop]; omega) (by rw [List.length_take]; omega) (by
    have := Hsub.out 4 8 (by omega) (by omega) w hw
    rw [List.drop_take] at this
    exact this))
  have Hnum0 := Lib.hid (show ∀ w, Sat w0 w F → Calls Tryz.prog 145 #[.slice (some ⟨bk, off, none⟩) 4 bc] w (Rtn fun v w' => v = .tuple #[.int .u64 (Frm.num (l.take 4) : Nat), .bool true] ∧ w = w') from fun w hw => rget_c (l.take 4) (by rw [List.length_take]; omega) (by rw [List.length_take]; omega) (bsl_of_rd (hr w hw) (by omega)))
  have Hread := Lib.hid (show Frm.read l = if Frm.fits (l.getD 8 0) (Frm.num ((l.drop 4).take 4)) = false then (Frm.zeroE, 0, 4)
    else if l.length < Frm.num ((l.drop 4).take 4) then (Frm.zeroE, 0, 3)
    else if Frm.crc ((l.take (Frm.num ((l.drop 4).take 4))).drop 4) ≠ Frm.num (l.take 4) then (Frm.zeroE, 0, 13)
    else if 41 ≤ Frm.num ((l.drop 4).take 4) then (⟨(l.getD 8 0).toNat, (l.drop 9).take 32, (l.take (Frm.num ((l.drop 4).take 4))).drop 41⟩, Frm.num ((l.drop 4).take 4), 0)
    else (⟨(l.getD 8 0).toNat, Frm.zero32, []⟩, Frm.num ((l.drop 4).take 4), 0) by unfold Frm.read; rw [if_neg h9])
  have hN : Frm.num ((l.drop 4).take 4) < 4294967296 := by
    have := Frm.num_lt ((l.drop 4).take 4)
    rw [List.length_take, List.length_drop] at this
    have h4 : min 4 (l.length - 4) = 4 := by omega
    rw [h4] at this
    omega
  generalize hNN : Frm.num ((l.drop 4).take 4) = N at *
  have hc8 : ∀ w, Sat w0 w F → w.cell? ⟨bk, off + 8, none⟩ = some (.int .u8 (l.getD 8 0).toNat) := fun w hw => by
    have hx : (bys l)[8]? = some (.int .u8 (l.getD 8 0).toNat) := by
      unfold bys; rw [List.getElem?_map, List.getD_eq_getElem?_getD, List.getElem?_eq_getElem (by omega)]; rfl
    obtain ⟨bk', off', hb, hc⟩ := rdsl_cells (hr w hw) hx
    cases hb
    exact hc _ _ hx
  have Hc8 := Lib.hid hc8; have Hr := Lib.hid hr; have Hl := Lib.hid hl
  have c1 : ¬ (l.length : Int) < 9 := by omega
  have c2 : ¬ bc = 4 := by omega
  have c4 : (l.length : Int) ≤ (bc : Int) := by omega
  have c4b : (8 : Int) ≤ (bc : Int) := by omega
  have c5 : (8 : Int) < (l.length : Int) := by omega
  have Hbn := Lib.hid (show l.length ≤ bc ∧ bc ≤ 9223372036854775807 ∧ 9 ≤ l.length ∧ N < 4294967296 from ⟨hbn, hbc, by omega, hN⟩)
  have hcv : IntKind.i64.wrap (N : Int) = (N : Int) := by rw [IntKind.wrap_i64]; omega
  have hcv2 : wrap64 (N : Int) = (N : Int) := by rw [← IntWalk.i64_left]; exact hcv
  clear hrd hNN hc8 hr hl h9 hbn hbc hN
  generalize l.getD 8 0 = tg at *
  have hft : Frm.fits tg N = false := by
    have htu : tg = 1 := by apply UInt8.toNat_inj.1; rw [ht]; rfl
    subst htu
    unfold Frm.fits
    rw [if_neg (by decide), if_pos rfl]; simp [hn]
  have Hf := Lib.hid (Hread.out.trans (if_pos hft))
  clear hft Hread
  have d1 : ((N : Int) == 41) = false := by rw [beq_eq_false_iff_ne]; omega
  have d2 : (N == 41) = false := by rw [beq_eq_false_iff_ne]; exact hn
  have d3 : ¬ N = 41 := hn
  clear hn
  have htg := tg.toNat_lt
  have hct : IntKind.i64.wrap (tg.toNat : Int) = (tg.toNat : Int) := by rw [IntKind.wrap_i64]; omega
  have hct2 : wrap64 (tg.toNat : Int) = (tg.toNat : Int) := by rw [← IntWalk.i64_left]; exact hct
  have htn := ht
  clear ht
  generalize tg.toNat = tn at *
  subst htn
  go_enter Tryz.func100, Tryz.ntmps100
  go_wp2_with ((with_reducible apply at_allocE); refine ⟨?_⟩; refine wl_allocE (by assumption) ?_; intro bR wR hE)
  refine (Hnum.out _ hE.drop).mono ?_
  rintro ee w2 ⟨v, rfl, rfl, rfl⟩
  have e8 := Hc8.out _ hE.drop
  go_wp2_with (first | ((with_reducible apply at_buildZ); refine ⟨?_⟩; refine wl_buildZ ?_) | ((with_reducible apply at_storeE); refine ⟨?_⟩; first | (refine wl_storeE (by assumption) (by rfl) (by rfl) (by first | rfl | assumption | exact Hid.out (by assumption)) (by first | ((repeat (first | with_reducible apply upd0 | with_reducible apply upd_there)); done) | ((repeat (first | apply upd0 | apply upd_there)); done) | fail) (by first | assumption | exact entA_size _ _ rfl | exact entA_size _ _ (by assumption) | exact entA_size _ _ (Hid.out (by assumption))) ?_; intro wS hS) | (refine wl_storeE (e := Frm.zeroE) (da := none) (dn := 0) (dc := 0) (by assumption) (by rfl) (by rfl) rfl (by first | ((repeat (first | with_reducible apply upd0 | with_reducible apply upd_there)); done) | ((repeat (first | apply upd0 | apply upd_there)); done) | fail) (by first | assumption | exact entA_size _ _ rfl | exact entA_size _ _ (by assumption) | exact entA_size _ _ (Hid.out (by assumption))) ?_; intro wS hS)))
  rw [Hf.out]
  refine ⟨rfl, _, res_entE3 rfl (by assumption) (by rfl) (by first | ((repeat (first | with_reducible apply pick0 | with_reducible apply pick_there)); done) | ((repeat (first | apply pick0 | apply pick_there)); done) | fail) rfl, _, rfl, none, 0, rfl, Sat.osl_nil.2 (Sat.sb hS)⟩
set_option maxRecDepth 20000 in
set_option maxHeartbeats 8000000 in
theorem rread_few (l : Bs) (hr : Ro w0 F (rdsl 1 bv (bys l))) (hcap : capOk bv) (hl : l.length ≤ 1099511627776) (h9 : ¬ l.length < 9) (ht : (l.getD 8 0).toNat = 0) (hn : Frm.num ((l.drop 4).take 4) < 41) (h : Sat w0 w F) :
    Calls Tryz.prog 100 #[bv] w (Rtn fun v w' => ∃ da dc, v = .tuple #[.agg (entA (Frm.read l).1 (.slice da (Frm.read l).1.data.length dc)), .int .i64 (Frm.read l).2.1, errno (Frm.read l).2.2] ∧ Sat w0 w' (bsl (.slice da (Frm.read l).1.data.length dc) (Frm.read l).1.data :: F)) := by
  obtain ⟨ba, bn, bc, rfl, hbn, hbc⟩ := hcap
  have hln : bn = l.length := by
    obtain ⟨_, _, _, he, hl', _⟩ := hr w h
    cases he
    rw [bys_len, Nat.mul_one] at hl'; exact hl'.symm
  subst hln
  obtain ⟨bk, off, rfl, hcell⟩ : ∃ bk off, ba = some ⟨bk, off, none⟩ ∧ True := by
    have hx : (bys l)[0]? = some (.int .u8 (l[0]'(by omega)).toNat) := by
      unfold bys; rw [List.getElem?_map, List.getElem?_eq_getElem (by omega)]; rfl
    obtain ⟨bk, off, hb, _⟩ := rdsl_cells (hr w h) hx
    exact ⟨bk, off, hb, trivial⟩
  clear hcell
  have hrd := hr w h
  have Hsub := Lib.hid (show ∀ (i j : Nat), i ≤ j → j ≤ l.length → ∀ w, Sat w0 w F → rdsl 1 (.slice (some ⟨bk, off + i, none⟩) (j - i) (bc - i)) (bys ((l.take j).drop i)) w from fun i j h1 h2 w hw => rdsl_sub (hr w hw) i j (bc - i) h1 h2)
  have Hnum := Lib.hid (show ∀ w, Sat w0 w F → Calls Tryz.prog 145 #[.slice (some ⟨bk, off + 4, none⟩) 4 (bc - 4)] w (Rtn fun v w' => v = .tuple #[.int .u64 (Frm.num ((l.drop 4).take 4) : Nat), .bool true] ∧ w = w') from fun w hw => rget_c ((l.drop 4).take 4) (by rw [List.length_take, List.length_drop]; omega) (by rw [List.length_take]; omega) (by
    have := Hsub.out 4 8 (by omega) (by omega) w hw
    rw [List.drop_take] at this
    exact this))
  have Hnum0 := Lib.hid (show ∀ w, Sat w0 w F → Calls Tryz.prog 145 #[.slice (some ⟨bk, off, none⟩) 4 bc] w (Rtn fun v w' => v = .tuple #[.int .u64 (Frm.num (l.take 4) : Nat), .bool true] ∧ w = w') from fun w hw => rget_c (l.take 4) (by rw [List.length_take]; omega) (by rw [List.length_take]; omega) (bsl_of_rd (hr w hw) (by omega)))
  have Hread := Lib.hid (show Frm.read l = if Frm.fits (l.getD 8 0) (Frm.num ((l.drop 4).take 4)) = false then (Frm.zeroE, 0, 4)
    else if l.length < Frm.num ((l.drop 4).take 4) then (Frm.zeroE, 0, 3)
    else if Frm.crc ((l.take (Frm.num ((l.drop 4).take 4))).drop 4) ≠ Frm.num (l.take 4) then (Frm.zeroE, 0, 13)
    else if 41 ≤ Frm.num ((l.drop 4).take 4) then (⟨(l.getD 8 0).toNat, (l.drop 9).take 32, (l.take (Frm.num ((l.drop 4).take 4))).drop 41⟩, Frm.num ((l.drop 4).take 4), 0)
    else (⟨(l.getD 8 0).toNat, Frm.zero32, []⟩, Frm.num ((l.drop 4).take 4), 0) by unfold Frm.read; rw [if_neg h9])
  have hN : Frm.num ((l.drop 4).take 4) < 4294967296 := by
    have := Frm.num_lt ((l.drop 4).take 4)
    rw [List.length_take, List.length_drop] at this
    have h4 : min 4 (l.length - 4) = 4 := by omega
    rw [h4] at this
    omega
  generalize hNN : Frm.num ((l.drop 4).take 4) = N at *
  have hc8 : ∀ w, Sat w0 w F → w.cell? ⟨bk, off + 8, none⟩ = some (.int .u8 (l.getD 8 0).toNat) := fun w hw => by
    have hx : (bys l)[8]? = some (.int .u8 (l.getD 8 0).toNat) := by
      unfold bys; rw [List.getElem?_map, List.getD_eq_getElem?_getD, List.getElem?_eq_getElem (by omega)]; rfl
    obtain ⟨bk', off', hb, hc⟩ := rdsl_cells (hr w hw) hx
    cases hb
    exact hc _ _ hx
  have Hc8 := Lib.hid hc8; have Hr := Lib.hid hr; have Hl := Lib.hid hl
  have c1 : ¬ (l.length : Int) < 9 := by omega
  have c2 : ¬ bc = 4 := by omega
  have c4 : (l.length : Int) ≤ (bc : Int) := by omega
  have c4b : (8 : Int) ≤ (bc : Int) := by omega
  have c5 : (8 : Int) < (l.length : Int) := by omega
  have Hbn := Lib.hid (show l.length ≤ bc ∧ bc ≤ 9223372036854775807 ∧ 9 ≤ l.length ∧ N < 4294967296 from ⟨hbn, hbc, by omega, hN⟩)
  have hcv : IntKind.i64.wrap (N : Int) = (N : Int) := by rw [IntKind.wrap_i64]; omega
  have hcv2 : wrap64 (N : Int) = (N : Int) := by rw [← IntWalk.i64_left]; exact hcv
  clear hrd hNN hc8 hr hl h9 hbn hbc hN
  generalize l.getD 8 0 = tg at *
  have hft : Frm.fits tg N = false := by
    have htu : tg = 0 := by apply UInt8.toNat_inj.1; rw [ht]; rfl
    subst htu
    unfold Frm.fits
    rw [if_pos rfl, decide_eq_false_iff_not]; omega
  have Hf := Lib.hid (Hread.out.trans (if_pos hft))
  clear hft Hread
  have d1 : decide ((N : Int) < 41) = true := decide_eq_true (by omega)
  have d2 : (N : Int) < 41 := by omega
  have htg := tg.toNat_lt
  have hct : IntKind.i64.wrap (tg.toNat : Int) = (tg.toNat : Int) := by rw [IntKind.wrap_i64]; omega
  have hct2 : wrap64 (tg.toNat : Int) = (tg.toNat : Int) := by rw [← IntWalk.i64_left]; exact hct
  have htn := ht
  clear ht
  generalize tg.toNat = tn at *
  subst htn
  go_enter Tryz.func100, Tryz.ntmps100
  go_wp2_with ((with_reducible apply at_allocE); refine ⟨?_⟩; refine wl_allocE (by assumption) ?_; intro bR wR hE)
  refine (Hnum.out _ hE.drop).mono ?_
  rintro ee w2 ⟨v, rfl, rfl, rfl⟩
  have e8 := Hc8.out _ hE.drop
  go_wp2_with (first | ((with_reducible apply at_buildZ); refine ⟨?_⟩; refine wl_buildZ ?_) | ((with_reducible apply at_storeE); refine ⟨?_⟩; first | (refine wl_storeE (by assumption) (by rfl) (by rfl) (by first | rfl | assumption | exact Hid.out (by assumption)) (by first | ((repeat (first | with_reducible apply upd0 | with_reducible apply upd_there)); done) | ((repeat (first | apply upd0 | apply upd_there)); done) | fail) (by first | assumption | exact entA_size _ _ rfl | exact entA_size _ _ (by assumption) | exact entA_size _ _ (Hid.out (by assumption))) ?_; intro wS hS) | (refine wl_storeE (e := Frm.zeroE) (da := none) (dn := 0) (dc := 0) (by assumption) (by rfl) (by rfl) rfl (by first | ((repeat (first | with_reducible apply upd0 | with_reducible apply upd_there)); done) | ((repeat (first | apply upd0 | apply upd_there)); done) | fail) (by first | assumption | exact entA_size _ _ rfl | exact entA_size _ _ (by assumption) | exact entA_size _ _ (Hid.out (by assumption))) ?_; intro wS hS)))
  rw [Hf.out]
  refine ⟨rfl, _, res_entE3 rfl (by assumption) (by rfl) (by first | ((repeat (first | with_reducible apply pick0 | with_reducible apply pick_there)); done) | ((repeat (first | apply pick0 | apply pick_there)); done) | fail) rfl, _, rfl, none, 0, rfl, Sat.osl_nil.2 (Sat.sb hS)⟩
set_option maxRecDepth 20000 in
set_option maxHeartbeats 8000000 in
theorem rread_many (l : Bs) (hr : Ro w0 F (rdsl 1 bv (bys l))) (hcap : capOk bv) (hl : l.length ≤ 1099511627776) (h9 : ¬ l.length < 9) (ht : (l.getD 8 0).toNat = 0) (hn : 16425 < Frm.num ((l.drop 4).take 4)) (h : Sat w0 w F) :
    Calls Tryz.prog 100 #[bv] w (Rtn fun v w' => ∃ da dc, v = .tuple #[.agg (entA (Frm.read l).1 (.slice da (Frm.read l).1.data.length dc)), .int .i64 (Frm.read l).2.1, errno (Frm.read l).2.2] ∧ Sat w0 w' (bsl (.slice da (Frm.read l).1.data.length dc) (Frm.read l).1.data :: F)) := by
  obtain ⟨ba, bn, bc, rfl, hbn, hbc⟩ := hcap
  have hln : bn = l.length := by
    obtain ⟨_, _, _, he, hl', _⟩ := hr w h
    cases he
    rw [bys_len, Nat.mul_one] at hl'; exact hl'.symm
  subst hln
  obtain ⟨bk, off, rfl, hcell⟩ : ∃ bk off, ba = some ⟨bk, off, none⟩ ∧ True := by
    have hx : (bys l)[0]? = some (.int .u8 (l[0]'(by omega)).toNat) := by
      unfold bys; rw [List.getElem?_map, List.getElem?_eq_getElem (by omega)]; rfl
    obtain ⟨bk, off, hb, _⟩ := rdsl_cells (hr w h) hx
    exact ⟨bk, off, hb, trivial⟩
  clear hcell
  have hrd := hr w h
  have Hsub := Lib.hid (show ∀ (i j : Nat), i ≤ j → j ≤ l.length → ∀ w, Sat w0 w F → rdsl 1 (.slice (some ⟨bk, off + i, none⟩) (j - i) (bc - i)) (bys ((l.take j).drop i)) w from fun i j h1 h2 w hw => rdsl_sub (hr w hw) i j (bc - i) h1 h2)
  have Hnum := Lib.hid (show ∀ w, Sat w0 w F → Calls Tryz.prog 145 #[.slice (some ⟨bk, off + 4, none⟩) 4 (bc - 4)] w (Rtn fun v w' => v = .tuple #[.int .u64 (Frm.num ((l.drop 4).take 4) : Nat), .bool true] ∧ w = w') from fun w hw => rget_c ((l.drop 4).take 4) (by rw [List.length_take, List.length_drop]; omega) (by rw [List.length_take]; omega) (by
    have := Hsub.out 4 8 (by omega) (by omega) w hw
    rw [List.drop_take] at this
    exact this))
  have Hnum0 := Lib.hid (show ∀ w, Sat w0 w F → Calls Tryz.prog 145 #[.slice (some ⟨bk, off, none⟩) 4 bc] w (Rtn fun v w' => v = .tuple #[.int .u64 (Frm.num (l.take 4) : Nat), .bool true] ∧ w = w') from fun w hw => rget_c (l.take 4) (by rw [List.length_take]; omega) (by rw [List.length_take]; omega) (bsl_of_rd (hr w hw) (by omega)))
  have Hread := Lib.hid (show Frm.read l = if Frm.fits (l.getD 8 0) (Frm.num ((l.drop 4).take 4)) = false then (Frm.zeroE, 0, 4)
    else if l.length < Frm.num ((l.drop 4).take 4) then (Frm.zeroE, 0, 3)
    else if Frm.crc ((l.take (Frm.num ((l.drop 4).take 4))).drop 4) ≠ Frm.num (l.take 4) then (Frm.zeroE, 0, 13)
    else if 41 ≤ Frm.num ((l.drop 4).take 4) then (⟨(l.getD 8 0).toNat, (l.drop 9).take 32, (l.take (Frm.num ((l.drop 4).take 4))).drop 41⟩, Frm.num ((l.drop 4).take 4), 0)
    else (⟨(l.getD 8 0).toNat, Frm.zero32, []⟩, Frm.num ((l.drop 4).take 4), 0) by unfold Frm.read; rw [if_neg h9])
  have hN : Frm.num ((l.drop 4).take 4) < 4294967296 := by
    have := Frm.num_lt ((l.drop 4).take 4)
    rw [List.length_take, List.length_drop] at this
    have h4 : min 4 (l.length - 4) = 4 := by omega
    rw [h4] at this
    omega
  generalize hNN : Frm.num ((l.drop 4).take 4) = N at *
  have hc8 : ∀ w, Sat w0 w F → w.cell? ⟨bk, off + 8, none⟩ = some (.int .u8 (l.getD 8 0).toNat) := fun w hw => by
    have hx : (bys l)[8]? = some (.int .u8 (l.getD 8 0).toNat) := by
      unfold bys; rw [List.getElem?_map, List.getD_eq_getElem?_getD, List.getElem?_eq_getElem (by omega)]; rfl
    obtain ⟨bk', off', hb, hc⟩ := rdsl_cells (hr w hw) hx
    cases hb
    exact hc _ _ hx
  have Hc8 := Lib.hid hc8; have Hr := Lib.hid hr; have Hl := Lib.hid hl
  have c1 : ¬ (l.length : Int) < 9 := by omega
  have c2 : ¬ bc = 4 := by omega
  have c4 : (l.length : Int) ≤ (bc : Int) := by omega
  have c4b : (8 : Int) ≤ (bc : Int) := by omega
  have c5 : (8 : Int) < (l.length : Int) := by omega
  have Hbn := Lib.hid (show l.length ≤ bc ∧ bc ≤ 9223372036854775807 ∧ 9 ≤ l.length ∧ N < 4294967296 from ⟨hbn, hbc, by omega, hN⟩)
  have hcv : IntKind.i64.wrap (N : Int) = (N : Int) := by rw [IntKind.wrap_i64]; omega
  have hcv2 : wrap64 (N : Int) = (N : Int) := by rw [← IntWalk.i64_left]; exact hcv
  clear hrd hNN hc8 hr hl h9 hbn hbc hN
  generalize l.getD 8 0 = tg at *
  have hft : Frm.fits tg N = false := by
    have htu : tg = 0 := by apply UInt8.toNat_inj.1; rw [ht]; rfl
    subst htu
    unfold Frm.fits
    rw [if_pos rfl, decide_eq_false_iff_not]; omega
  have Hf := Lib.hid (Hread.out.trans (if_pos hft))
  clear hft Hread
  have d1 : decide ((N : Int) < 41) = false := decide_eq_false (by omega)
  have d2 : decide (16425 < (N : Int)) = true := decide_eq_true (by omega)
  have d3 : 16425 < (N : Int) := by omega
  have htg := tg.toNat_lt
  have hct : IntKind.i64.wrap (tg.toNat : Int) = (tg.toNat : Int) := by rw [IntKind.wrap_i64]; omega
  have hct2 : wrap64 (tg.toNat : Int) = (tg.toNat : Int) := by rw [← IntWalk.i64_left]; exact hct
  have htn := ht
  clear ht
  generalize tg.toNat = tn at *
  subst htn
  go_enter Tryz.func100, Tryz.ntmps100
  go_wp2_with ((with_reducible apply at_allocE); refine ⟨?_⟩; refine wl_allocE (by assumption) ?_; intro bR wR hE)
  refine (Hnum.out _ hE.drop).mono ?_
  rintro ee w2 ⟨v, rfl, rfl, rfl⟩
  have e8 := Hc8.out _ hE.drop
  go_wp2_with (first | ((with_reducible apply at_buildZ); refine ⟨?_⟩; refine wl_buildZ ?_) | ((with_reducible apply at_storeE); refine ⟨?_⟩; first | (refine wl_storeE (by assumption) (by rfl) (by rfl) (by first | rfl | assumption | exact Hid.out (by assumption)) (by first | ((repeat (first | with_reducible apply upd0 | with_reducible apply upd_there)); done) | ((repeat (first | apply upd0 | apply upd_there)); done) | fail) (by first | assumption | exact entA_size _ _ rfl | exact entA_size _ _ (by assumption) | exact entA_size _ _ (Hid.out (by assumption))) ?_; intro wS hS) | (refine wl_storeE (e := Frm.zeroE) (da := none) (dn := 0) (dc := 0) (by assumption) (by rfl) (by rfl) rfl (by first | ((repeat (first | with_reducible apply upd0 | with_reducible apply upd_there)); done) | ((repeat (first | apply upd0 | apply upd_there)); done) | fail) (by first | assumption | exact entA_size _ _ rfl | exact entA_size _ _ (by assumption) | exact entA_size _ _ (Hid.out (by assumption))) ?_; intro wS hS)))
  rw [Hf.out]
  refine ⟨rfl, _, res_entE3 rfl (by assumption) (by rfl) (by first | ((repeat (first | with_reducible apply pick0 | with_reducible apply pick_there)); done) | ((repeat (first | apply pick0 | apply pick_there)); done) | fail) rfl, _, rfl, none, 0, rfl, Sat.osl_nil.2 (Sat.sb hS)⟩
end
end Go.Proofs.YtmjldaedhmipkaaGreatDoor
/- hoardref07.Read: a put. -/
namespace Go.Proofs.YtmjldaedhmipkaaGreatDoor
open Go Go.Sl Go.Med Go.MapKept Go.RowKit
set_option linter.unusedVariables false
section
variable {w0 w : World} {F R : List HProp} {v bv dv x lv : Value}
set_option maxRecDepth 20000 in
set_option maxHeartbeats 8000000 in
theorem rread0_c (l : Bs) (hr : Ro w0 F (rdsl 1 bv (bys l))) (hcap : capOk bv) (hl : l.length ≤ 1099511627776) (h9 : ¬ l.length < 9) (ht : (l.getD 8 0).toNat = 0) (hn : 41 ≤ Frm.num ((l.drop 4).take 4) ∧ Frm.num ((l.drop 4).take 4) ≤ 16425) (h : Sat w0 w F) :
    Calls Tryz.prog 100 #[bv] w (Rtn fun v w' => ∃ da dc, v = .tuple #[.agg (entA (Frm.read l).1 (.slice da (Frm.read l).1.data.length dc)), .int .i64 (Frm.read l).2.1, errno (Frm.read l).2.2] ∧ Sat w0 w' (bsl (.slice da (Frm.read l).1.data.length dc) (Frm.read l).1.data :: F)) := by
  obtain ⟨ba, bn, bc, rfl, hbn, hbc⟩ := hcap
  have hln : bn = l.length := by
    obtain ⟨_, _, _, he, hl', _⟩ := hr w h
    cases he
    rw [bys_len, Nat.mul_one] at hl'; exact hl'.symm
  subst hln
  obtain ⟨bk, off, rfl, hcell⟩ : ∃ bk off, ba = some ⟨bk, off, none⟩ ∧ True := by
    have hx : (bys l)[0]? = some (.int .u8 (l[0]'(by omega)).toNat) := by
      unfold bys; rw [List.getElem?_map, List.getElem?_eq_getElem (by omega)]; rfl
    obtain ⟨bk, off, hb, _⟩ := rdsl_cells (hr w h) hx
    exact ⟨bk, off, hb, trivial⟩
  clear hcell
  have hrd := hr w h
  have Hsub := Lib.hid (show ∀ (i j : Nat), i ≤ j → j ≤ l.length → ∀ w, Sat w0 w F → rdsl 1 (.slice (some ⟨bk, off + i, none⟩) (j - i) (bc - i)) (bys ((l.take j).drop i)) w from fun i j h1 h2 w hw => rdsl_sub (hr w hw) i j (bc - i) h1 h2)
  have Hnum := Lib.hid (show ∀ w, Sat w0 w F → Calls Tryz.prog 145 #[.slice (some ⟨bk, off + 4, none⟩) 4 (bc - 4)] w (Rtn fun v w' => v = .tuple #[.int .u64 (Frm.num ((l.drop 4).take 4) : Nat), .bool true] ∧ w = w') from fun w hw => rget_c ((l.drop 4).take 4) (by rw [List.length_take, List.length_drop]; omega) (by rw [List.length_take]; omega) (by
    have := Hsub.out 4 8 (by omega) (by omega) w hw
    rw [List.drop_take] at this
    exact this))
  have Hnum0 := Lib.hid (show ∀ w, Sat w0 w F → Calls Tryz.prog 145 #[.slice (some ⟨bk, off, none⟩) 4 bc] w (Rtn fun v w' => v = .tuple #[.int .u64 (Frm.num (l.take 4) : Nat), .bool true] ∧ w = w') from fun w hw => rget_c (l.take 4) (by rw [List.length_take]; omega) (by rw [List.length_take]; omega) (bsl_of_rd (hr w hw) (by omega)))
  have Hread := Lib.hid (show Frm.read l = if Frm.fits (l.getD 8 0) (Frm.num ((l.drop 4).take 4)) = false then (Frm.zeroE, 0, 4)
    else if l.length < Frm.num ((l.drop 4).take 4) then (Frm.zeroE, 0, 3)
    else if Frm.crc ((l.take (Frm.num ((l.drop 4).take 4))).drop 4) ≠ Frm.num (l.take 4) then (Frm.zeroE, 0, 13)
    else if 41 ≤ Frm.num ((l.drop 4).take 4) then (⟨(l.getD 8 0).toNat, (l.drop 9).take 32, (l.take (Frm.num ((l.drop 4).take 4))).drop 41⟩, Frm.num ((l.drop 4).take 4), 0)
    else (⟨(l.getD 8 0).toNat, Frm.zero32, []⟩, Frm.num ((l.drop 4).take 4), 0) by unfold Frm.read; rw [if_neg h9])
  have hN : Frm.num ((l.drop 4).take 4) < 4294967296 := by
    have := Frm.num_lt ((l.drop 4).take 4)
    rw [List.length_take, List.length_drop] at this
    have h4 : min 4 (l.length - 4) = 4 := by omega
    rw [h4] at this
    omega
  generalize hNN : Frm.num ((l.drop 4).take 4) = N at *
  have hc8 : ∀ w, Sat w0 w F → w.cell? ⟨bk, off + 8, none⟩ = some (.int .u8 (l.getD 8 0).toNat) := fun w hw => by
    have hx : (bys l)[8]? = some (.int .u8 (l.getD 8 0).toNat) := by
      unfold bys; rw [List.getElem?_map, List.getD_eq_getElem?_getD, List.getElem?_eq_getElem (by omega)]; rfl
    obtain ⟨bk', off', hb, hc⟩ := rdsl_cells (hr w hw) hx
    cases hb
    exact hc _ _ hx
  have Hc8 := Lib.hid hc8; have Hr := Lib.hid hr; have Hl := Lib.hid hl
  have c1 : ¬ (l.length : Int) < 9 := by omega
  have c2 : ¬ bc = 4 := by omega
  have c4 : (l.length : Int) ≤ (bc : Int) := by omega
  have c4b : (8 : Int) ≤ (bc : Int) := by omega
  have c5 : (8 : Int) < (l.length : Int) := by omega
  have Hbn := Lib.hid (show l.length ≤ bc ∧ bc ≤ 9223372036854775807 ∧ 9 ≤ l.length ∧ N < 4294967296 from ⟨hbn, hbc, by omega, hN⟩)
  have hcv : IntKind.i64.wrap (N : Int) = (N : Int) := by rw [IntKind.wrap_i64]; omega
  have hcv2 : wrap64 (N : Int) = (N : Int) := by rw [← IntWalk.i64_left]; exact hcv
  clear hrd hNN hc8 hr hl h9 hbn hbc hN
  generalize l.getD 8 0 = tg at *
  have hft : Frm.fits tg N = true := by
    have htu : tg = 0 := by apply UInt8.toNat_inj.1; rw [ht]; rfl
    subst htu
    unfold Frm.fits
    rw [if_pos rfl]; simp; omega
  have hN9 : 9 ≤ N := by omega
  have d1 : decide ((N : Int) < 41) = false := decide_eq_false (by omega)
  have d1b : ¬ N < 41 := by omega
  have d2 : decide (16425 < (N : Int)) = false := decide_eq_false (by omega)
  have d2b : ¬ 16425 < N := by omega
  have h41 : 41 ≤ N := hn.1
  have hN16 : N ≤ 16425 := hn.2
  clear hn
  have Hf := Lib.hid (Hread.out.trans (if_neg (by rw [hft]; decide)))
  clear hft Hread
  have htg := tg.toNat_lt
  have hct : IntKind.i64.wrap (tg.toNat : Int) = (tg.toNat : Int) := by rw [IntKind.wrap_i64]; omega
  have hct2 : wrap64 (tg.toNat : Int) = (tg.toNat : Int) := by rw [← IntWalk.i64_left]; exact hct
  have htn := ht
  clear ht
  generalize tg.toNat = tn at *
  subst htn
  go_enter Tryz.func100, Tryz.ntmps100
  go_wp2_with ((with_reducible apply at_allocE); refine ⟨?_⟩; refine wl_allocE (by assumption) ?_; intro bR wR hE)
  refine (Hnum.out _ hE.drop).mono ?_
  rintro ee w2 ⟨v, rfl, rfl, rfl⟩
  have e8 := Hc8.out _ hE.drop
  by_cases hlN : l.length < N
  · have Hf2 := Lib.hid (Hf.out.trans (if_pos hlN))
    have c6 : (l.length : Int) < (N : Int) := by omega
    have c6b : l.length < N := hlN
    clear hlN
    go_wp2_with (first | ((with_reducible apply at_buildZ); refine ⟨?_⟩; refine wl_buildZ ?_) | ((with_reducible apply at_storeE); refine ⟨?_⟩; first | (refine wl_storeE (by assumption) (by rfl) (by rfl) (by first | rfl | assumption | exact Hid.out (by assumption)) (by first | ((repeat (first | with_reducible apply upd0 | with_reducible apply upd_there)); done) | ((repeat (first | apply upd0 | apply upd_there)); done) | fail) (by first | assumption | exact entA_size _ _ rfl | exact entA_size _ _ (by assumption) | exact entA_size _ _ (Hid.out (by assumption))) ?_; intro wS hS) | (refine wl_storeE (e := Frm.zeroE) (da := none) (dn := 0) (dc := 0) (by assumption) (by rfl) (by rfl) rfl (by first | ((repeat (first | with_reducible apply upd0 | with_reducible apply upd_there)); done) | ((repeat (first | apply upd0 | apply upd_there)); done) | fail) (by first | assumption | exact entA_size _ _ rfl | exact entA_size _ _ (by assumption) | exact entA_size _ _ (Hid.out (by assumption))) ?_; intro wS hS)))
    rw [Hf2.out]
    refine ⟨rfl, _, res_entE3 rfl (by assumption) (by rfl) (by first | ((repeat (first | with_reducible apply pick0 | with_reducible apply pick_there)); done) | ((repeat (first | apply pick0 | apply pick_there)); done) | fail) rfl, _, rfl, none, 0, rfl, Sat.osl_nil.2 (Sat.sb hS)⟩
  have Hf2 := Lib.hid (Hf.out.trans (if_neg hlN))
  have c6 : ¬ (l.length : Int) < (N : Int) := by omega
  have c6b : ¬ l.length < N := hlN
  have c8 : (N : Int) ≤ (bc : Int) := by omega
  have c8b : (4 : Int) ≤ (bc : Int) := by omega
  have HlN := Lib.hid (show N ≤ l.length ∧ 9 ≤ N by omega)
  have c7 : (4 : Int) ≤ (N : Int) := by omega
  clear hlN Hf
  go_wp2_with fail
  refine (Hnum0.out _ hE.drop).mono ?_
  rintro ee w2 ⟨v, rfl, rfl, rfl⟩
  have hA32 := Frm.crc_lt ((l.take N).drop 4)
  have hsum := rsum_c ((l.take N).drop 4) (Hsub.out 4 N (by have := HlN.out; omega) HlN.out.1 _ hE.drop) (by rw [List.length_drop, List.length_take]; have := Hl.out; omega)
  go_wp2_with fail
  refine hsum.mono ?_
  clear hsum
  rintro ee w2 ⟨v, rfl, rfl, rfl⟩
  generalize Frm.crc ((l.take N).drop 4) = A at *
  generalize Frm.num (l.take 4) = B at *
  have hAc : (A : Int) % 18446744073709551616 = (A : Int) := by omega
  have hAd : IntKind.u64.wrap (A : Int) = (A : Int) := hAc
  clear hA32
  by_cases hAB : A = B
  rotate_left
  · have Hf3 := Lib.hid (Hf2.out.trans (if_pos hAB))
    have c9 : ((A : Int) == (B : Int)) = false := by rw [beq_eq_false_iff_ne]; omega
    have c9b : ¬ A = B := hAB
    clear hAB
    go_wp2_with (first | ((with_reducible apply at_buildZ); refine ⟨?_⟩; refine wl_buildZ ?_) | ((with_reducible apply at_storeE); refine ⟨?_⟩; first | (refine wl_storeE (by assumption) (by rfl) (by rfl) (by first | rfl | assumption | exact Hid.out (by assumption)) (by first | ((repeat (first | with_reducible apply upd0 | with_reducible apply upd_there)); done) | ((repeat (first | apply upd0 | apply upd_there)); done) | fail) (by first | assumption | exact entA_size _ _ rfl | exact entA_size _ _ (by assumption) | exact entA_size _ _ (Hid.out (by assumption))) ?_; intro wS hS) | (refine wl_storeE (e := Frm.zeroE) (da := none) (dn := 0) (dc := 0) (by assumption) (by rfl) (by rfl) rfl (by first | ((repeat (first | with_reducible apply upd0 | with_reducible apply upd_there)); done) | ((repeat (first | apply upd0 | apply upd_there)); done) | fail) (by first | assumption | exact entA_size _ _ rfl | exact entA_size _ _ (by assumption) | exact entA_size _ _ (Hid.out (by assumption))) ?_; intro wS hS)))
    rw [Hf3.out]
    refine ⟨rfl, _, res_entE3 rfl (by assumption) (by rfl) (by first | ((repeat (first | with_reducible apply pick0 | with_reducible apply pick_there)); done) | ((repeat (first | apply pick0 | apply pick_there)); done) | fail) rfl, _, rfl, none, 0, rfl, Sat.osl_nil.2 (Sat.sb hS)⟩
  subst hAB
  have Hf3 := Lib.hid (Hf2.out.trans (if_neg (fun h => h rfl)))
  clear Hf2
  have Hf4 := Lib.hid (Hf3.out.trans (if_pos h41))
  have c9 : (41 : Int) ≤ (N : Int) := by omega
  have c11 : (41 : Int) ≤ (bc : Int) := by omega
  obtain ⟨ad, had, hsl⟩ : ∃ ad : Addr, (41 < N → ad = ⟨bk, off + 41, none⟩) ∧ ∀ w, (Instr.sliceAt 42 (.slice (some ⟨bk, off, none⟩) l.length bc) (some (.int .i64 41)) (some (.int .i64 N)) none).run Tryz.prog w = .ok (.slice (some ad) (N - 41) (bc - 41)) w := by
    by_cases hce : bc = 41
    · refine ⟨⟨bk, off, none⟩, fun hh => by have := HlN.out; have := Hbn.out; omega, fun w => ?_⟩
      have c12 : (N : Int) ≤ 41 := by omega
      have c13 : ¬ (41 : Int) < (N : Int) := by omega
      go_simp
    · refine ⟨⟨bk, off + 41, none⟩, fun _ => rfl, fun w => ?_⟩
      go_simp
  have Had := Lib.hid had
  have Hdat := Lib.hid (show ∀ w, Sat w0 w F → rdsl 1 (.slice (some ad) (N - 41) (bc - 41)) (bys ((l.take N).drop 41)) w from fun w hw => by
    by_cases h2 : 41 < N
    · rw [Had.out h2]; exact Hsub.out 41 N (by omega) HlN.out.1 w hw
    · have : (l.take N).drop 41 = [] := List.drop_of_length_le (by rw [List.length_take]; omega)
      rw [this, show N - 41 = 0 by omega]
      exact ⟨_, 0, _, rfl, rfl, by simp [bys]⟩)
  clear h41 had d1 d1b d2 d2b
  have Hkl := Lib.hid (show ((l.drop 9).take 32).length = 32 by rw [List.length_take, List.length_drop]; have := HlN.out; omega)
  have Hcell := Lib.hid (show ∀ (i : Nat) (c : UInt8), ((l.drop 9).take 32)[i]? = some c → ∀ w, Sat w0 w F → w.cell? ⟨bk, off + (9 + i), none⟩ = some (.int .u8 c.toNat) from fun i c hc w hw => by
    have hi : i < 32 := by have := (List.getElem?_eq_some_iff.1 hc).1; rw [Hkl.out] at this; exact this
    rw [List.getElem?_take_of_lt hi, List.getElem?_drop] at hc
    have hx : (bys l)[9 + i]? = some (.int .u8 c.toNat) := by unfold bys; rw [List.getElem?_map, hc]; rfl
    obtain ⟨b', o', hb, hcc⟩ := rdsl_cells (Hr.out w hw) hx
    cases hb
    exact hcc _ _ hx)
  go_wp2_with (first | ((with_reducible apply at_buildTag); refine ⟨?_⟩; refine wl_buildTag (by rfl) ?_) | ((with_reducible apply at_allocE); refine ⟨?_⟩; refine wl_allocE (by assumption) ?_; intro bE wE hE) | ((with_reducible apply at_storeE); refine ⟨?_⟩; first | (refine wl_storeE (by assumption) (by rfl) (by rfl) (by first | rfl | assumption | exact Hid.out (by assumption)) (by first | ((repeat (first | with_reducible apply upd0 | with_reducible apply upd_there)); done) | ((repeat (first | apply upd0 | apply upd_there)); done) | fail) (by first | assumption | exact entA_size _ _ rfl | exact entA_size _ _ (by assumption) | exact entA_size _ _ (Hid.out (by assumption))) ?_; intro wS hS) | (refine wl_storeE (e := Frm.zeroE) (da := none) (dn := 0) (dc := 0) (by assumption) (by rfl) (by rfl) rfl (by first | ((repeat (first | with_reducible apply upd0 | with_reducible apply upd_there)); done) | ((repeat (first | apply upd0 | apply upd_there)); done) | fail) (by first | assumption | exact entA_size _ _ rfl | exact entA_size _ _ (by assumption) | exact entA_size _ _ (Hid.out (by assumption))) ?_; intro wS hS)) | ((with_reducible apply at_loadE); refine ⟨?_⟩; refine wl_loadE (by assumption) (by rfl) (by first | ((repeat (first | with_reducible apply pick0 | with_reducible apply pick_there)); done) | ((repeat (first | apply pick0 | apply pick_there)); done) | fail) (by first | rfl | assumption | exact Hid.out (by assumption)) ?_))
  have hS0 := hS
  clear hS hE e8
  obtain ⟨kk, hkk⟩ : ∃ kk, kk = (l.drop 9).take 32 := ⟨_, rfl⟩
  rw [← hkk] at Hf4 Hkl Hcell
  clear hkk
  go_loopg [12] 32 (fun g iq wr => ∃ i : Nat, g = 32 - i ∧ i ≤ 32 ∧ iq = .int .i64 i ∧ Sat w0 wr (pt bE (.cells (entA ⟨0, keyTo kk i, []⟩ (.slice none 0 0)) 44 (0,0)) :: pt bR (.cells (entA Frm.zeroE (.slice none 0 0)) 44 (0,0)) :: F))
  case atStart => exact ⟨0, rfl, by decide, rfl, hS0⟩
  case round =>
    obtain ⟨i, rfl, hi, rfl, hS1⟩ := hrel
    clear hS0
    by_cases hlt : i < 32
    · have e1 : (i : Int) < 32 := by omega
      have hwi : IntKind.i64.wrap ((i : Int) + 1) = (i : Int) + 1 := IntWalk.i64_in _ (by omega)
      have hw9 : IntKind.i64.wrap (9 + (i : Int)) = ((9 + i : Nat) : Int) := by rw [show (9 : Int) + (i : Int) = ((9 + i : Nat) : Int) by omega]; exact IntWalk.i64_in _ (by omega)
      have hln : ((9 + i : Nat) : Int) < (l.length : Int) := by have := HlN.out; omega
      obtain ⟨cc, hcc⟩ : ∃ cc, kk[i]? = some cc := ⟨_, List.getElem?_eq_getElem (by rw [Hkl.out]; exact hlt)⟩
      have ec := Hcell.out i cc hcc _ hS1.drop.drop
      have hset := ent_setkey ⟨0, keyTo kk i, []⟩ (.slice none 0 0) i cc (by show i < (keyTo kk i).length; rw [keyTo_len Hkl.out hi]; exact hlt)
      simp only [keyTo_succ Hkl.out hlt hcc] at hset
      have Hset := Lib.hid hset; have Hlt := Lib.hid hlt
      have hfit : 1 + i + 1 ≤ (entA ⟨0, keyTo kk i, []⟩ (.slice none 0 0)).size := by rw [entA_size _ _ (keyTo_len Hkl.out hi)]; omega
      have Hfit := Lib.hid hfit
      clear hset hcc hlt hfit
      generalize h9i : 9 + i = q at *
      go_wp2_with ((with_reducible apply at_store); refine ⟨?_⟩; refine wl_store (b := bE) (o := 1 + i) (v := .int .u8 cc.toNat) hS1 (by rfl) (by conv => lhs; whnf) Hset.out upd0 Hfit.out (by kernel_rfl) (by rfl) ?_; intro wT hT)
      go_roundg (32 - (i + 1))
      case measure => have := Hlt.out; omega
      case rel => exact ⟨i + 1, rfl, Nat.succ_le_of_lt Hlt.out, by first | rfl | go_num, hT⟩
    · obtain rfl : i = 32 := by omega
      have e1 : ¬ ((32 : Nat) : Int) < 32 := by decide
      rw [keyTo_end Hkl.out] at hS1
      clear hlt hi
      have hkl := Hkl.out
      go_wp2_with ((with_reducible apply at_slice2); refine ⟨?_⟩; refine wl_slice2 (by rfl) (by rfl) (by rfl) hsl ?_)
      refine (copy_c hS1 _ (Hdat.out _ hS1.drop.drop) (by rw [List.length_drop, List.length_take]; have := Hl.out; omega)).mono ?_
      rintro ee w3 ⟨v, rfl, hS3, ca, cn, cc, rfl⟩
      have hcn : cn = ((l.take N).drop 41).length := by
        obtain ⟨_, _, _, he, hl', _⟩ := Sat.rd hS3
        cases he
        rw [bys_len, Nat.mul_one] at hl'; exact hl'.symm
      subst hcn
      generalize (l.take N).drop 41 = data at *
      clear hS1
      go_wp2_with (first
        | ((with_reducible apply at_store); refine ⟨?_⟩; refine wl_storeD (e := ⟨0, kk, []⟩) (data := data) hS3 (by rfl) (by rfl) hkl (by first | ((repeat (first | with_reducible apply upd0 | with_reducible apply upd_there)); done) | ((repeat (first | apply upd0 | apply upd_there)); done) | fail) ?_; intro wD hD)
        | ((with_reducible apply at_loadE); refine ⟨?_⟩; refine wl_loadE (by assumption) (by rfl) (by first | ((repeat (first | with_reducible apply pick0 | with_reducible apply pick_there)); done) | ((repeat (first | apply pick0 | apply pick_there)); done) | fail) (by first | rfl | assumption | exact Hid.out (by assumption)) ?_) | ((with_reducible apply at_storeE); refine ⟨?_⟩; first | (refine wl_storeE (by assumption) (by rfl) (by rfl) (by first | rfl | assumption | exact Hid.out (by assumption)) (by first | ((repeat (first | with_reducible apply upd0 | with_reducible apply upd_there)); done) | ((repeat (first | apply upd0 | apply upd_there)); done) | fail) (by first | assumption | exact entA_size _ _ rfl | exact entA_size _ _ (by assumption) | exact entA_size _ _ (Hid.out (by assumption))) ?_; intro wS hS) | (refine wl_storeE (e := Frm.zeroE) (da := none) (dn := 0) (dc := 0) (by assumption) (by rfl) (by rfl) rfl (by first | ((repeat (first | with_reducible apply upd0 | with_reducible apply upd_there)); done) | ((repeat (first | apply upd0 | apply upd_there)); done) | fail) (by first | assumption | exact entA_size _ _ rfl | exact entA_size _ _ (by assumption) | exact entA_size _ _ (Hid.out (by assumption))) ?_; intro wS hS)))
      rw [Hf4.out]
      simp only
      refine ⟨rfl, _, res_entE3 rfl (by assumption) (by rfl) (by first | ((repeat (first | with_reducible apply pick0 | with_reducible apply pick_there)); done) | ((repeat (first | apply pick0 | apply pick_there)); done) | fail) hkl, _, rfl, ca, cc, rfl, Sat.sb hS⟩
end
end Go.Proofs.YtmjldaedhmipkaaGreatDoor
/- hoardref07.Read: a commit. -/
namespace Go.Proofs.YtmjldaedhmipkaaGreatDoor
open Go Go.Sl Go.Med Go.MapKept Go.RowKit
set_option linter.unusedVariables false
section
variable {w0 w : World} {F R : List HProp} {v bv dv x lv : Value}
set_option maxRecDepth 20000 in
set_option maxHeartbeats 8000000 in
theorem rread2_c (l : Bs) (hr : Ro w0 F (rdsl 1 bv (bys l))) (hcap : capOk bv) (hl : l.length ≤ 1099511627776) (h9 : ¬ l.length < 9) (ht : (l.getD 8 0).toNat = 2) (hn : Frm.num ((l.drop 4).take 4) = 9) (h : Sat w0 w F) :
    Calls Tryz.prog 100 #[bv] w (Rtn fun v w' => ∃ da dc, v = .tuple #[.agg (entA (Frm.read l).1 (.slice da (Frm.read l).1.data.length dc)), .int .i64 (Frm.read l).2.1, errno (Frm.read l).2.2] ∧ Sat w0 w' (bsl (.slice da (Frm.read l).1.data.length dc) (Frm.read l).1.data :: F)) := by
  obtain ⟨ba, bn, bc, rfl, hbn, hbc⟩ := hcap
  have hln : bn = l.length := by
    obtain ⟨_, _, _, he, hl', _⟩ := hr w h
    cases he
    rw [bys_len, Nat.mul_one] at hl'; exact hl'.symm
  subst hln
  obtain ⟨bk, off, rfl, hcell⟩ : ∃ bk off, ba = some ⟨bk, off, none⟩ ∧ True := by
    have hx : (bys l)[0]? = some (.int .u8 (l[0]'(by omega)).toNat) := by
      unfold bys; rw [List.getElem?_map, List.getElem?_eq_getElem (by omega)]; rfl
    obtain ⟨bk, off, hb, _⟩ := rdsl_cells (hr w h) hx
    exact ⟨bk, off, hb, trivial⟩
  clear hcell
  have hrd := hr w h
  have Hsub := Lib.hid (show ∀ (i j : Nat), i ≤ j → j ≤ l.length → ∀ w, Sat w0 w F → rdsl 1 (.slice (some ⟨bk, off + i, none⟩) (j - i) (bc - i)) (bys ((l.take j).drop i)) w from fun i j h1 h2 w hw => rdsl_sub (hr w hw) i j (bc - i) h1 h2)
  have Hnum := Lib.hid (show ∀ w, Sat w0 w F → Calls Tryz.prog 145 #[.slice (some ⟨bk, off + 4, none⟩) 4 (bc - 4)] w (Rtn fun v w' => v = .tuple #[.int .u64 (Frm.num ((l.drop 4).take 4) : Nat), .bool true] ∧ w = w') from fun w hw => rget_c ((l.drop 4).take 4) (by rw [List.length_take, List.length_drop]; omega) (by rw [List.length_take]; omega) (by
    have := Hsub.out 4 8 (by omega) (by omega) w hw
    rw [List.drop_take] at this
    exact this))
  have Hnum0 := Lib.hid (show ∀ w, Sat w0 w F → Calls Tryz.prog 145 #[.slice (some ⟨bk, off, none⟩) 4 bc] w (Rtn fun v w' => v = .tuple #[.int .u64 (Frm.num (l.take 4) : Nat), .bool true] ∧ w = w') from fun w hw => rget_c (l.take 4) (by rw [List.length_take]; omega) (by rw [List.length_take]; omega) (bsl_of_rd (hr w hw) (by omega)))
  have Hread := Lib.hid (show Frm.read l = if Frm.fits (l.getD 8 0) (Frm.num ((l.drop 4).take 4)) = false then (Frm.zeroE, 0, 4)
    else if l.length < Frm.num ((l.drop 4).take 4) then (Frm.zeroE, 0, 3)
    else if Frm.crc ((l.take (Frm.num ((l.drop 4).take 4))).drop 4) ≠ Frm.num (l.take 4) then (Frm.zeroE, 0, 13)
    else if 41 ≤ Frm.num ((l.drop 4).take 4) then (⟨(l.getD 8 0).toNat, (l.drop 9).take 32, (l.take (Frm.num ((l.drop 4).take 4))).drop 41⟩, Frm.num ((l.drop 4).take 4), 0)
    else (⟨(l.getD 8 0).toNat, Frm.zero32, []⟩, Frm.num ((l.drop 4).take 4), 0) by unfold Frm.read; rw [if_neg h9])
  have hN : Frm.num ((l.drop 4).take 4) < 4294967296 := by
    have := Frm.num_lt ((l.drop 4).take 4)
    rw [List.length_take, List.length_drop] at this
    have h4 : min 4 (l.length - 4) = 4 := by omega
    rw [h4] at this
    omega
  generalize hNN : Frm.num ((l.drop 4).take 4) = N at *
  have hc8 : ∀ w, Sat w0 w F → w.cell? ⟨bk, off + 8, none⟩ = some (.int .u8 (l.getD 8 0).toNat) := fun w hw => by
    have hx : (bys l)[8]? = some (.int .u8 (l.getD 8 0).toNat) := by
      unfold bys; rw [List.getElem?_map, List.getD_eq_getElem?_getD, List.getElem?_eq_getElem (by omega)]; rfl
    obtain ⟨bk', off', hb, hc⟩ := rdsl_cells (hr w hw) hx
    cases hb
    exact hc _ _ hx
  have Hc8 := Lib.hid hc8; have Hr := Lib.hid hr; have Hl := Lib.hid hl
  have c1 : ¬ (l.length : Int) < 9 := by omega
  have c2 : ¬ bc = 4 := by omega
  have c4 : (l.length : Int) ≤ (bc : Int) := by omega
  have c4b : (8 : Int) ≤ (bc : Int) := by omega
  have c5 : (8 : Int) < (l.length : Int) := by omega
  have Hbn := Lib.hid (show l.length ≤ bc ∧ bc ≤ 9223372036854775807 ∧ 9 ≤ l.length ∧ N < 4294967296 from ⟨hbn, hbc, by omega, hN⟩)
  have hcv : IntKind.i64.wrap (N : Int) = (N : Int) := by rw [IntKind.wrap_i64]; omega
  have hcv2 : wrap64 (N : Int) = (N : Int) := by rw [← IntWalk.i64_left]; exact hcv
  clear hrd hNN hc8 hr hl h9 hbn hbc hN
  generalize l.getD 8 0 = tg at *
  have hft : Frm.fits tg N = true := by
    have htu : tg = 2 := by apply UInt8.toNat_inj.1; rw [ht]; rfl
    subst htu
    unfold Frm.fits
    rw [if_neg (by decide), if_neg (by decide), if_pos rfl]; simp [hn]
  have hN9 : 9 ≤ N := by omega
  have h41 : ¬ 41 ≤ N := by omega
  subst hn
  have Hf := Lib.hid (Hread.out.trans (if_neg (by rw [hft]; decide)))
  clear hft Hread
  have htg := tg.toNat_lt
  have hct : IntKind.i64.wrap (tg.toNat : Int) = (tg.toNat : Int) := by rw [IntKind.wrap_i64]; omega
  have hct2 : wrap64 (tg.toNat : Int) = (tg.toNat : Int) := by rw [← IntWalk.i64_left]; exact hct
  have htn := ht
  clear ht
  generalize tg.toNat = tn at *
  subst htn
  go_enter Tryz.func100, Tryz.ntmps100
  go_wp2_with ((with_reducible apply at_allocE); refine ⟨?_⟩; refine wl_allocE (by assumption) ?_; intro bR wR hE)
  refine (Hnum.out _ hE.drop).mono ?_
  rintro ee w2 ⟨v, rfl, rfl, rfl⟩
  have e8 := Hc8.out _ hE.drop
  by_cases hlN : l.length < 9
  · have Hf2 := Lib.hid (Hf.out.trans (if_pos hlN))
    have c6 : (l.length : Int) < (9 : Int) := by omega
    have c6b : l.length < 9 := hlN
    clear hlN
    go_wp2_with (first | ((with_reducible apply at_buildZ); refine ⟨?_⟩; refine wl_buildZ ?_) | ((with_reducible apply at_storeE); refine ⟨?_⟩; first | (refine wl_storeE (by assumption) (by rfl) (by rfl) (by first | rfl | assumption | exact Hid.out (by assumption)) (by first | ((repeat (first | with_reducible apply upd0 | with_reducible apply upd_there)); done) | ((repeat (first | apply upd0 | apply upd_there)); done) | fail) (by first | assumption | exact entA_size _ _ rfl | exact entA_size _ _ (by assumption) | exact entA_size _ _ (Hid.out (by assumption))) ?_; intro wS hS) | (refine wl_storeE (e := Frm.zeroE) (da := none) (dn := 0) (dc := 0) (by assumption) (by rfl) (by rfl) rfl (by first | ((repeat (first | with_reducible apply upd0 | with_reducible apply upd_there)); done) | ((repeat (first | apply upd0 | apply upd_there)); done) | fail) (by first | assumption | exact entA_size _ _ rfl | exact entA_size _ _ (by assumption) | exact entA_size _ _ (Hid.out (by assumption))) ?_; intro wS hS)))
    rw [Hf2.out]
    refine ⟨rfl, _, res_entE3 rfl (by assumption) (by rfl) (by first | ((repeat (first | with_reducible apply pick0 | with_reducible apply pick_there)); done) | ((repeat (first | apply pick0 | apply pick_there)); done) | fail) rfl, _, rfl, none, 0, rfl, Sat.osl_nil.2 (Sat.sb hS)⟩
  have Hf2 := Lib.hid (Hf.out.trans (if_neg hlN))
  have c6 : ¬ (l.length : Int) < (9 : Int) := by omega
  have c6b : ¬ l.length < 9 := hlN
  have c8 : (9 : Int) ≤ (bc : Int) := by omega
  have c8b : (4 : Int) ≤ (bc : Int) := by omega
  have HlN := Lib.hid (show 9 ≤ l.length ∧ 9 ≤ 9 by omega)
  have c7 : (4 : Int) ≤ (9 : Int) := by omega
  clear hlN Hf
  go_wp2_with fail
  refine (Hnum0.out _ hE.drop).mono ?_
  rintro ee w2 ⟨v, rfl, rfl, rfl⟩
  have hA32 := Frm.crc_lt ((l.take 9).drop 4)
  have hsum := rsum_c ((l.take 9).drop 4) (Hsub.out 4 9 (by have := HlN.out; omega) HlN.out.1 _ hE.drop) (by rw [List.length_drop, List.length_take]; have := Hl.out; omega)
  go_wp2_with fail
  refine hsum.mono ?_
  clear hsum
  rintro ee w2 ⟨v, rfl, rfl, rfl⟩
  generalize Frm.crc ((l.take 9).drop 4) = A at *
  generalize Frm.num (l.take 4) = B at *
  have hAc : (A : Int) % 18446744073709551616 = (A : Int) := by omega
  have hAd : IntKind.u64.wrap (A : Int) = (A : Int) := hAc
  clear hA32
  by_cases hAB : A = B
  rotate_left
  · have Hf3 := Lib.hid (Hf2.out.trans (if_pos hAB))
    have c9 : ((A : Int) == (B : Int)) = false := by rw [beq_eq_false_iff_ne]; omega
    have c9b : ¬ A = B := hAB
    clear hAB
    go_wp2_with (first | ((with_reducible apply at_buildZ); refine ⟨?_⟩; refine wl_buildZ ?_) | ((with_reducible apply at_storeE); refine ⟨?_⟩; first | (refine wl_storeE (by assumption) (by rfl) (by rfl) (by first | rfl | assumption | exact Hid.out (by assumption)) (by first | ((repeat (first | with_reducible apply upd0 | with_reducible apply upd_there)); done) | ((repeat (first | apply upd0 | apply upd_there)); done) | fail) (by first | assumption | exact entA_size _ _ rfl | exact entA_size _ _ (by assumption) | exact entA_size _ _ (Hid.out (by assumption))) ?_; intro wS hS) | (refine wl_storeE (e := Frm.zeroE) (da := none) (dn := 0) (dc := 0) (by assumption) (by rfl) (by rfl) rfl (by first | ((repeat (first | with_reducible apply upd0 | with_reducible apply upd_there)); done) | ((repeat (first | apply upd0 | apply upd_there)); done) | fail) (by first | assumption | exact entA_size _ _ rfl | exact entA_size _ _ (by assumption) | exact entA_size _ _ (Hid.out (by assumption))) ?_; intro wS hS)))
    rw [Hf3.out]
    refine ⟨rfl, _, res_entE3 rfl (by assumption) (by rfl) (by first | ((repeat (first | with_reducible apply pick0 | with_reducible apply pick_there)); done) | ((repeat (first | apply pick0 | apply pick_there)); done) | fail) rfl, _, rfl, none, 0, rfl, Sat.osl_nil.2 (Sat.sb hS)⟩
  subst hAB
  have Hf3 := Lib.hid (Hf2.out.trans (if_neg (fun h => h rfl)))
  clear Hf2
  have Hf4 := Lib.hid (Hf3.out.trans (if_neg h41))
  clear h41
  go_wp2_with (first | ((with_reducible apply at_buildTag); refine ⟨?_⟩; refine wl_buildTag (by rfl) ?_) | ((with_reducible apply at_allocE); refine ⟨?_⟩; refine wl_allocE (by assumption) ?_; intro bE wE hE) | ((with_reducible apply at_storeE); refine ⟨?_⟩; first | (refine wl_storeE (by assumption) (by rfl) (by rfl) (by first | rfl | assumption | exact Hid.out (by assumption)) (by first | ((repeat (first | with_reducible apply upd0 | with_reducible apply upd_there)); done) | ((repeat (first | apply upd0 | apply upd_there)); done) | fail) (by first | assumption | exact entA_size _ _ rfl | exact entA_size _ _ (by assumption) | exact entA_size _ _ (Hid.out (by assumption))) ?_; intro wS hS) | (refine wl_storeE (e := Frm.zeroE) (da := none) (dn := 0) (dc := 0) (by assumption) (by rfl) (by rfl) rfl (by first | ((repeat (first | with_reducible apply upd0 | with_reducible apply upd_there)); done) | ((repeat (first | apply upd0 | apply upd_there)); done) | fail) (by first | assumption | exact entA_size _ _ rfl | exact entA_size _ _ (by assumption) | exact entA_size _ _ (Hid.out (by assumption))) ?_; intro wS hS)) | ((with_reducible apply at_loadE); refine ⟨?_⟩; refine wl_loadE (by assumption) (by rfl) (by first | ((repeat (first | with_reducible apply pick0 | with_reducible apply pick_there)); done) | ((repeat (first | apply pick0 | apply pick_there)); done) | fail) (by first | rfl | assumption | exact Hid.out (by assumption)) ?_))
  have hS0 := hS
  clear hS hE e8
  go_loopg [12] 0 (fun g iq wr => iq = .int .i64 0 ∧ Sat w0 wr (pt bE (.cells (entA ⟨2, Frm.zero32, []⟩ (.slice none 0 0)) 44 (0,0)) :: pt bR (.cells (entA Frm.zeroE (.slice none 0 0)) 44 (0,0)) :: F))
  case atStart => exact ⟨rfl, hS0⟩
  case round =>
    obtain ⟨rfl, hS1⟩ := hrel
    clear hS0
    go_wp2_with (first | ((with_reducible apply at_loadE); refine ⟨?_⟩; refine wl_loadE (by assumption) (by rfl) (by first | ((repeat (first | with_reducible apply pick0 | with_reducible apply pick_there)); done) | ((repeat (first | apply pick0 | apply pick_there)); done) | fail) (by first | rfl | assumption | exact Hid.out (by assumption)) ?_) | ((with_reducible apply at_storeE); refine ⟨?_⟩; first | (refine wl_storeE (by assumption) (by rfl) (by rfl) (by first | rfl | assumption | exact Hid.out (by assumption)) (by first | ((repeat (first | with_reducible apply upd0 | with_reducible apply upd_there)); done) | ((repeat (first | apply upd0 | apply upd_there)); done) | fail) (by first | assumption | exact entA_size _ _ rfl | exact entA_size _ _ (by assumption) | exact entA_size _ _ (Hid.out (by assumption))) ?_; intro wS hS) | (refine wl_storeE (e := Frm.zeroE) (da := none) (dn := 0) (dc := 0) (by assumption) (by rfl) (by rfl) rfl (by first | ((repeat (first | with_reducible apply upd0 | with_reducible apply upd_there)); done) | ((repeat (first | apply upd0 | apply upd_there)); done) | fail) (by first | assumption | exact entA_size _ _ rfl | exact entA_size _ _ (by assumption) | exact entA_size _ _ (Hid.out (by assumption))) ?_; intro wS hS)))
    rw [Hf4.out]
    simp only [List.length_nil]
    refine ⟨rfl, _, res_entE3 rfl (by assumption) (by rfl) (by first | ((repeat (first | with_reducible apply pick0 | with_reducible apply pick_there)); done) | ((repeat (first | apply pick0 | apply pick_there)); done) | fail) rfl, _, rfl, none, 0, rfl, Sat.osl_nil.2 (Sat.sb hS)⟩
end
end Go.Proofs.YtmjldaedhmipkaaGreatDoor
/- hoardref07.Read: a deletion. -/
namespace Go.Proofs.YtmjldaedhmipkaaGreatDoor
open Go Go.Sl Go.Med Go.MapKept Go.RowKit
set_option linter.unusedVariables false
section
variable {w0 w : World} {F R : List HProp} {v bv dv x lv : Value}
set_option maxRecDepth 20000 in
set_option maxHeartbeats 8000000 in
theorem rread1_c (l : Bs) (hr : Ro w0 F (rdsl 1 bv (bys l))) (hcap : capOk bv) (hl : l.length ≤ 1099511627776) (h9 : ¬ l.length < 9) (ht : (l.getD 8 0).toNat = 1) (hn : Frm.num ((l.drop 4).take 4) = 41) (h : Sat w0 w F) :
    Calls Tryz.prog 100 #[bv] w (Rtn fun v w' => ∃ da dc, v = .tuple #[.agg (entA (Frm.read l).1 (.slice da (Frm.read l).1.data.length dc)), .int .i64 (Frm.read l).2.1, errno (Frm.read l).2.2] ∧ Sat w0 w' (bsl (.slice da (Frm.read l).1.data.length dc) (Frm.read l).1.data :: F)) := by
  obtain ⟨ba, bn, bc, rfl, hbn, hbc⟩ := hcap
  have hln : bn = l.length := by
    obtain ⟨_, _, _, he, hl', _⟩ := hr w h
    cases he
    rw [bys_len, Nat.mul_one] at hl'; exact hl'.symm
  subst hln
  obtain ⟨bk, off, rfl, hcell⟩ : ∃ bk off, ba = some ⟨bk, off, none⟩ ∧ True := by
    have hx : (bys l)[0]? = some (.int .u8 (l[0]'(by omega)).toNat) := by
      unfold bys; rw [List.getElem?_map, List.getElem?_eq_getElem (by omega)]; rfl
    obtain ⟨bk, off, hb, _⟩ := rdsl_cells (hr w h) hx
    exact ⟨bk, off, hb, trivial⟩
  clear hcell
  have hrd := hr w h
  have Hsub := Lib.hid (show ∀ (i j : Nat), i ≤ j → j ≤ l.length → ∀ w, Sat w0 w F → rdsl 1 (.slice (some ⟨bk, off + i, none⟩) (j - i) (bc - i)) (bys ((l.take j).drop i)) w from fun i j h1 h2 w hw => rdsl_sub (hr w hw) i j (bc - i) h1 h2)
  have Hnum := Lib.hid (show ∀ w, Sat w0 w F → Calls Tryz.prog 145 #[.slice (some ⟨bk, off + 4, none⟩) 4 (bc - 4)] w (Rtn fun v w' => v = .tuple #[.int .u64 (Frm.num ((l.drop 4).take 4) : Nat), .bool true] ∧ w = w') from fun w hw => rget_c ((l.drop 4).take 4) (by rw [List.length_take, List.length_drop]; omega) (by rw [List.length_take]; omega) (by
    have := Hsub.out 4 8 (by omega) (by omega) w hw
    rw [List.drop_take] at this
    exact this))
  have Hnum0 := Lib.hid (show ∀ w, Sat w0 w F → Calls Tryz.prog 145 #[.slice (some ⟨bk, off, none⟩) 4 bc] w (Rtn fun v w' => v = .tuple #[.int .u64 (Frm.num (l.take 4) : Nat), .bool true] ∧ w = w') from fun w hw => rget_c (l.take 4) (by rw [List.length_take]; omega) (by rw [List.length_take]; omega) (bsl_of_rd (hr w hw) (by omega)))
  have Hread := Lib.hid (show Frm.read l = if Frm.fits (l.getD 8 0) (Frm.num ((l.drop 4).take 4)) = false then (Frm.zeroE, 0, 4)
    else if l.length < Frm.num ((l.drop 4).take 4) then (Frm.zeroE, 0, 3)
    else if Frm.crc ((l.take (Frm.num ((l.drop 4).take 4))).drop 4) ≠ Frm.num (l.take 4) then (Frm.zeroE, 0, 13)
    else if 41 ≤ Frm.num ((l.drop 4).take 4) then (⟨(l.getD 8 0).toNat, (l.drop 9).take 32, (l.take (Frm.num ((l.drop 4).take 4))).drop 41⟩, Frm.num ((l.drop 4).take 4), 0)
    else (⟨(l.getD 8 0).toNat, Frm.zero32, []⟩, Frm.num ((l.drop 4).take 4), 0) by unfold Frm.read; rw [if_neg h9])
  have hN : Frm.num ((l.drop 4).take 4) < 4294967296 := by
    have := Frm.num_lt ((l.drop 4).take 4)
    rw [List.length_take, List.length_drop] at this
    have h4 : min 4 (l.length - 4) = 4 := by omega
    rw [h4] at this
    omega
  generalize hNN : Frm.num ((l.drop 4).take 4) = N at *
  have hc8 : ∀ w, Sat w0 w F → w.cell? ⟨bk, off + 8, none⟩ = some (.int .u8 (l.getD 8 0).toNat) := fun w hw => by
    have hx : (bys l)[8]? = some (.int .u8 (l.getD 8 0).toNat) := by
      unfold bys; rw [List.getElem?_map, List.getD_eq_getElem?_getD, List.getElem?_eq_getElem (by omega)]; rfl
    obtain ⟨bk', off', hb, hc⟩ := rdsl_cells (hr w hw) hx
    cases hb
    exact hc _ _ hx
  have Hc8 := Lib.hid hc8; have Hr := Lib.hid hr; have Hl := Lib.hid hl
  have c1 : ¬ (l.length : Int) < 9 := by omega
  have c2 : ¬ bc = 4 := by omega
  have c4 : (l.length : Int) ≤ (bc : Int) := by omega
  have c4b : (8 : Int) ≤ (bc : Int) := by omega
  have c5 : (8 : Int) < (l.length : Int) := by omega
  have Hbn := Lib.hid (show l.length ≤ bc ∧ bc ≤ 9223372036854775807 ∧ 9 ≤ l.length ∧ N < 4294967296 from ⟨hbn, hbc, by omega, hN⟩)
  have hcv : IntKind.i64.wrap (N : Int) = (N : Int) := by rw [IntKind.wrap_i64]; omega
  have hcv2 : wrap64 (N : Int) = (N : Int) := by rw [← IntWalk.i64_left]; exact hcv
  clear hrd hNN hc8 hr hl h9 hbn hbc hN
  generalize l.getD 8 0 = tg at *
  have hft : Frm.fits tg N = true := by
    have htu : tg = 1 := by apply UInt8.toNat_inj.1; rw [ht]; rfl
    subst htu
    unfold Frm.fits
    rw [if_neg (by decide), if_pos rfl]; simp [hn]
  have hN9 : 9 ≤ N := by omega
  have h41 : 41 ≤ N := by omega
  subst hn
  have Hf := Lib.hid (Hread.out.trans (if_neg (by rw [hft]; decide)))
  clear hft Hread
  have htg := tg.toNat_lt
  have hct : IntKind.i64.wrap (tg.toNat : Int) = (tg.toNat : Int) := by rw [IntKind.wrap_i64]; omega
  have hct2 : wrap64 (tg.toNat : Int) = (tg.toNat : Int) := by rw [← IntWalk.i64_left]; exact hct
  have htn := ht
  clear ht
  generalize tg.toNat = tn at *
  subst htn
  go_enter Tryz.func100, Tryz.ntmps100
  go_wp2_with ((with_reducible apply at_allocE); refine ⟨?_⟩; refine wl_allocE (by assumption) ?_; intro bR wR hE)
  refine (Hnum.out _ hE.drop).mono ?_
  rintro ee w2 ⟨v, rfl, rfl, rfl⟩
  have e8 := Hc8.out _ hE.drop
  by_cases hlN : l.length < 41
  · have Hf2 := Lib.hid (Hf.out.trans (if_pos hlN))
    have c6 : (l.length : Int) < (41 : Int) := by omega
    have c6b : l.length < 41 := hlN
    clear hlN
    go_wp2_with (first | ((with_reducible apply at_buildZ); refine ⟨?_⟩; refine wl_buildZ ?_) | ((with_reducible apply at_storeE); refine ⟨?_⟩; first | (refine wl_storeE (by assumption) (by rfl) (by rfl) (by first | rfl | assumption | exact Hid.out (by assumption)) (by first | ((repeat (first | with_reducible apply upd0 | with_reducible apply upd_there)); done) | ((repeat (first | apply upd0 | apply upd_there)); done) | fail) (by first | assumption | exact entA_size _ _ rfl | exact entA_size _ _ (by assumption) | exact entA_size _ _ (Hid.out (by assumption))) ?_; intro wS hS) | (refine wl_storeE (e := Frm.zeroE) (da := none) (dn := 0) (dc := 0) (by assumption) (by rfl) (by rfl) rfl (by first | ((repeat (first | with_reducible apply upd0 | with_reducible apply upd_there)); done) | ((repeat (first | apply upd0 | apply upd_there)); done) | fail) (by first | assumption | exact entA_size _ _ rfl | exact entA_size _ _ (by assumption) | exact entA_size _ _ (Hid.out (by assumption))) ?_; intro wS hS)))
    rw [Hf2.out]
    refine ⟨rfl, _, res_entE3 rfl (by assumption) (by rfl) (by first | ((repeat (first | with_reducible apply pick0 | with_reducible apply pick_there)); done) | ((repeat (first | apply pick0 | apply pick_there)); done) | fail) rfl, _, rfl, none, 0, rfl, Sat.osl_nil.2 (Sat.sb hS)⟩
  have Hf2 := Lib.hid (Hf.out.trans (if_neg hlN))
  have c6 : ¬ (l.length : Int) < (41 : Int) := by omega
  have c6b : ¬ l.length < 41 := hlN
  have c8 : (41 : Int) ≤ (bc : Int) := by omega
  have c8b : (4 : Int) ≤ (bc : Int) := by omega
  have HlN := Lib.hid (show 41 ≤ l.length ∧ 9 ≤ 41 by omega)
  have c7 : (4 : Int) ≤ (41 : Int) := by omega
  clear hlN Hf
  go_wp2_with fail
  refine (Hnum0.out _ hE.drop).mono ?_
  rintro ee w2 ⟨v, rfl, rfl, rfl⟩
  have hA32 := Frm.crc_lt ((l.take 41).drop 4)
  have hsum := rsum_c ((l.take 41).drop 4) (Hsub.out 4 41 (by have := HlN.out; omega) HlN.out.1 _ hE.drop) (by rw [List.length_drop, List.length_take]; have := Hl.out; omega)
  go_wp2_with fail
  refine hsum.mono ?_
  clear hsum
  rintro ee w2 ⟨v, rfl, rfl, rfl⟩
  generalize Frm.crc ((l.take 41).drop 4) = A at *
  generalize Frm.num (l.take 4) = B at *
  have hAc : (A : Int) % 18446744073709551616 = (A : Int) := by omega
  have hAd : IntKind.u64.wrap (A : Int) = (A : Int) := hAc
  clear hA32
  by_cases hAB : A = B
  rotate_left
  · have Hf3 := Lib.hid (Hf2.out.trans (if_pos hAB))
    have c9 : ((A : Int) == (B : Int)) = false := by rw [beq_eq_false_iff_ne]; omega
    have c9b : ¬ A = B := hAB
    clear hAB
    go_wp2_with (first | ((with_reducible apply at_buildZ); refine ⟨?_⟩; refine wl_buildZ ?_) | ((with_reducible apply at_storeE); refine ⟨?_⟩; first | (refine wl_storeE (by assumption) (by rfl) (by rfl) (by first | rfl | assumption | exact Hid.out (by assumption)) (by first | ((repeat (first | with_reducible apply upd0 | with_reducible apply upd_there)); done) | ((repeat (first | apply upd0 | apply upd_there)); done) | fail) (by first | assumption | exact entA_size _ _ rfl | exact entA_size _ _ (by assumption) | exact entA_size _ _ (Hid.out (by assumption))) ?_; intro wS hS) | (refine wl_storeE (e := Frm.zeroE) (da := none) (dn := 0) (dc := 0) (by assumption) (by rfl) (by rfl) rfl (by first | ((repeat (first | with_reducible apply upd0 | with_reducible apply upd_there)); done) | ((repeat (first | apply upd0 | apply upd_there)); done) | fail) (by first | assumption | exact entA_size _ _ rfl | exact entA_size _ _ (by assumption) | exact entA_size _ _ (Hid.out (by assumption))) ?_; intro wS hS)))
    rw [Hf3.out]
    refine ⟨rfl, _, res_entE3 rfl (by assumption) (by rfl) (by first | ((repeat (first | with_reducible apply pick0 | with_reducible apply pick_there)); done) | ((repeat (first | apply pick0 | apply pick_there)); done) | fail) rfl, _, rfl, none, 0, rfl, Sat.osl_nil.2 (Sat.sb hS)⟩
  subst hAB
  have Hf3 := Lib.hid (Hf2.out.trans (if_neg (fun h => h rfl)))
  clear Hf2
  have Hf4 := Lib.hid (Hf3.out.trans (if_pos h41))
  clear h41
  have Hkl := Lib.hid (show ((l.drop 9).take 32).length = 32 by rw [List.length_take, List.length_drop]; have := HlN.out; omega)
  have Hcell := Lib.hid (show ∀ (i : Nat) (c : UInt8), ((l.drop 9).take 32)[i]? = some c → ∀ w, Sat w0 w F → w.cell? ⟨bk, off + (9 + i), none⟩ = some (.int .u8 c.toNat) from fun i c hc w hw => by
    have hi : i < 32 := by have := (List.getElem?_eq_some_iff.1 hc).1; rw [Hkl.out] at this; exact this
    rw [List.getElem?_take_of_lt hi, List.getElem?_drop] at hc
    have hx : (bys l)[9 + i]? = some (.int .u8 c.toNat) := by unfold bys; rw [List.getElem?_map, hc]; rfl
    obtain ⟨b', o', hb, hcc⟩ := rdsl_cells (Hr.out w hw) hx
    cases hb
    exact hcc _ _ hx)
  go_wp2_with (first | ((with_reducible apply at_buildTag); refine ⟨?_⟩; refine wl_buildTag (by rfl) ?_) | ((with_reducible apply at_allocE); refine ⟨?_⟩; refine wl_allocE (by assumption) ?_; intro bE wE hE) | ((with_reducible apply at_storeE); refine ⟨?_⟩; first | (refine wl_storeE (by assumption) (by rfl) (by rfl) (by first | rfl | assumption | exact Hid.out (by assumption)) (by first | ((repeat (first | with_reducible apply upd0 | with_reducible apply upd_there)); done) | ((repeat (first | apply upd0 | apply upd_there)); done) | fail) (by first | assumption | exact entA_size _ _ rfl | exact entA_size _ _ (by assumption) | exact entA_size _ _ (Hid.out (by assumption))) ?_; intro wS hS) | (refine wl_storeE (e := Frm.zeroE) (da := none) (dn := 0) (dc := 0) (by assumption) (by rfl) (by rfl) rfl (by first | ((repeat (first | with_reducible apply upd0 | with_reducible apply upd_there)); done) | ((repeat (first | apply upd0 | apply upd_there)); done) | fail) (by first | assumption | exact entA_size _ _ rfl | exact entA_size _ _ (by assumption) | exact entA_size _ _ (Hid.out (by assumption))) ?_; intro wS hS)) | ((with_reducible apply at_loadE); refine ⟨?_⟩; refine wl_loadE (by assumption) (by rfl) (by first | ((repeat (first | with_reducible apply pick0 | with_reducible apply pick_there)); done) | ((repeat (first | apply pick0 | apply pick_there)); done) | fail) (by first | rfl | assumption | exact Hid.out (by assumption)) ?_))
  have hS0 := hS
  clear hS hE e8
  obtain ⟨kk, hkk⟩ : ∃ kk, kk = (l.drop 9).take 32 := ⟨_, rfl⟩
  rw [← hkk] at Hf4 Hkl Hcell
  clear hkk
  go_loopg [12] 32 (fun g iq wr => ∃ i : Nat, g = 32 - i ∧ i ≤ 32 ∧ iq = .int .i64 i ∧ Sat w0 wr (pt bE (.cells (entA ⟨1, keyTo kk i, []⟩ (.slice none 0 0)) 44 (0,0)) :: pt bR (.cells (entA Frm.zeroE (.slice none 0 0)) 44 (0,0)) :: F))
  case atStart => exact ⟨0, rfl, by decide, rfl, hS0⟩
  case round =>
    obtain ⟨i, rfl, hi, rfl, hS1⟩ := hrel
    clear hS0
    by_cases hlt : i < 32
    · have e1 : (i : Int) < 32 := by omega
      have hwi : IntKind.i64.wrap ((i : Int) + 1) = (i : Int) + 1 := IntWalk.i64_in _ (by omega)
      have hw9 : IntKind.i64.wrap (9 + (i : Int)) = ((9 + i : Nat) : Int) := by rw [show (9 : Int) + (i : Int) = ((9 + i : Nat) : Int) by omega]; exact IntWalk.i64_in _ (by omega)
      have hln : ((9 + i : Nat) : Int) < (l.length : Int) := by have := HlN.out; omega
      obtain ⟨cc, hcc⟩ : ∃ cc, kk[i]? = some cc := ⟨_, List.getElem?_eq_getElem (by rw [Hkl.out]; exact hlt)⟩
      have ec := Hcell.out i cc hcc _ hS1.drop.drop
      have hset := ent_setkey ⟨1, keyTo kk i, []⟩ (.slice none 0 0) i cc (by show i < (keyTo kk i).length; rw [keyTo_len Hkl.out hi]; exact hlt)
      simp only [keyTo_succ Hkl.out hlt hcc] at hset
      have Hset := Lib.hid hset; have Hlt := Lib.hid hlt
      have hfit : 1 + i + 1 ≤ (entA ⟨1, keyTo kk i, []⟩ (.slice none 0 0)).size := by rw [entA_size _ _ (keyTo_len Hkl.out hi)]; omega
      have Hfit := Lib.hid hfit
      clear hset hcc hlt hfit
      generalize h9i : 9 + i = q at *
      go_wp2_with ((with_reducible apply at_store); refine ⟨?_⟩; refine wl_store (b := bE) (o := 1 + i) (v := .int .u8 cc.toNat) hS1 (by rfl) (by conv => lhs; whnf) Hset.out upd0 Hfit.out (by kernel_rfl) (by rfl) ?_; intro wT hT)
      go_roundg (32 - (i + 1))
      case measure => have := Hlt.out; omega
      case rel => exact ⟨i + 1, rfl, Nat.succ_le_of_lt Hlt.out, by first | rfl | go_num, hT⟩
    · obtain rfl : i = 32 := by omega
      have e1 : ¬ ((32 : Nat) : Int) < 32 := by decide
      rw [keyTo_end Hkl.out] at hS1
      clear hlt hi
      have hd0 : (l.take 41).drop 41 = [] := List.drop_of_length_le (by rw [List.length_take]; omega)
      rw [hd0] at Hf4
      have hkl := Hkl.out
      go_wp2_with (first | ((with_reducible apply at_loadE); refine ⟨?_⟩; refine wl_loadE hS1 (by rfl) pick0 hkl ?_) | ((with_reducible apply at_storeE); refine ⟨?_⟩; refine wl_storeE hS1 (by rfl) (by rfl) hkl (upd_there upd0) (entA_size _ _ rfl) ?_; intro wS hS))
      rw [Hf4.out]
      refine ⟨rfl, _, res_entE3 rfl (by assumption) (by rfl) pick1 hkl, _, rfl, none, 0, rfl, Sat.osl_nil.2 hS.drop.drop⟩
end
end Go.Proofs.YtmjldaedhmipkaaGreatDoor
/- hoardref07.Read, of any bytes. -/
namespace Go.Proofs.YtmjldaedhmipkaaGreatDoor
open Go Go.Sl Go.Med Go.MapKept Go.RowKit
set_option linter.unusedVariables false
section
variable {w0 w : World} {F R : List HProp} {v bv dv x lv : Value}
theorem rread7_c (l : Bs) (hr : Ro w0 F (rdsl 1 bv (bys l))) (hcap : capOk bv) (hl : l.length ≤ 1099511627776) (h : Sat w0 w F) :
    Calls Tryz.prog 100 #[bv] w (Rtn fun v w' => ∃ da dc, v = .tuple #[.agg (entA (Frm.read l).1 (.slice da (Frm.read l).1.data.length dc)), .int .i64 (Frm.read l).2.1, errno (Frm.read l).2.2] ∧ Sat w0 w' (bsl (.slice da (Frm.read l).1.data.length dc) (Frm.read l).1.data :: F)) := by
  by_cases h9 : l.length < 9
  · exact rread_short h9 hr hcap hl h
  by_cases t0 : (l.getD 8 0).toNat = 0
  · by_cases n1 : Frm.num ((l.drop 4).take 4) < 41
    · exact rread_few l hr hcap hl h9 t0 n1 h
    · by_cases n2 : 16425 < Frm.num ((l.drop 4).take 4)
      · exact rread_many l hr hcap hl h9 t0 n2 h
      · exact rread0_c l hr hcap hl h9 t0 ⟨by omega, by omega⟩ h
  by_cases t1 : (l.getD 8 0).toNat = 1
  · by_cases n1 : Frm.num ((l.drop 4).take 4) = 41
    · exact rread1_c l hr hcap hl h9 t1 n1 h
    · exact rread_one l hr hcap hl h9 t1 n1 h
  by_cases t2 : (l.getD 8 0).toNat = 2
  · by_cases n1 : Frm.num ((l.drop 4).take 4) = 9
    · exact rread2_c l hr hcap hl h9 t2 n1 h
    · exact rread_two l hr hcap hl h9 t2 n1 h
  exact rread_tag l hr hcap hl h9 (by omega) h
end
end Go.Proofs.YtmjldaedhmipkaaGreatDoor
/- Next of any log. -/
namespace Go.Seg
/-- The next segment's number. -/
def Log.next (L : Log) : Int := match L.l.getLast? with
  | none => 0
  | some s => s.1 + 1
end Go.Seg
namespace Go.Proofs.YtmjldaedhmipkaaGreatDoor
open Go Go.Sl Go.Med Go.MapKept Go.RowKit
set_option linter.unusedVariables false
section
variable {w0 w : World} {F : List HProp} {v bv dv x lv : Value} {q p m K : Nat} {L : Seg.Log} {M : Med}
theorem segw_at (l : List (Int × Int)) (i : Nat) (s : Int × Int) (h : l[i]? = some s) : (segw l)[2 * i]? = some (.int .i64 s.1) ∧ (segw l)[2 * i + 1]? = some (.int .i64 s.2) := by
  induction l generalizing i with
  | nil => simp at h
  | cons a l ih =>
    cases i with
    | zero =>
      obtain rfl : a = s := by simpa using h
      exact ⟨rfl, rfl⟩
    | succ i =>
      have e1 : segw (a :: l) = .int .i64 a.1 :: .int .i64 a.2 :: segw l := rfl
      have h' : l[i]? = some s := by simpa using h
      rw [e1, show 2 * (i + 1) = 2 * i + 1 + 1 by omega]
      exact ih i h'
/-- The cells of the last segment. -/
theorem last_cells {s : Int × Int} (hl : L.l.getLast? = some s) (h : Sat w0 w (logPt p m L lv :: osl 145 2 lv (segw L.l) :: F)) :
    ∃ bk n c, lv = .slice (some ⟨bk, 0, none⟩) (n + 1) c ∧ L.l.length = n + 1 ∧ w.cell? ⟨bk, 2 * n, none⟩ = some (.int .i64 s.1) ∧ w.cell? ⟨bk, 2 * n + 1, none⟩ = some (.int .i64 s.2) := by
  rw [List.getLast?_eq_getElem?] at hl
  have hlt := (List.getElem?_eq_some_iff.1 hl).1
  obtain ⟨n, hn⟩ : ∃ n, L.l.length = n + 1 := ⟨L.l.length - 1, by omega⟩
  rw [hn, Nat.add_sub_cancel] at hl
  obtain ⟨h1, h2⟩ := segw_at _ _ _ hl
  have hS : Sat w0 w (osl 145 2 lv (segw L.l) :: logPt p m L lv :: F) := h.pick1
  rcases hS.osl_cases with ⟨rfl, hx, _⟩ | ⟨b, n', cap, cs, rfl, hll, hn', hc, hcm, htk, hp⟩
  · rw [hx] at h1; simp at h1
  · rw [segw_len, hn] at hll
    obtain rfl : n' = n + 1 := by omega
    exact ⟨b, n, cap, rfl, hn, hp.cellAt _ _ (take_get htk h1), hp.cellAt _ _ (take_get htk h2)⟩
set_option maxHeartbeats 1000000 in
theorem snext_c (hlen : L.l.length ≤ 1048576) (hb : ∀ s ∈ L.l, 0 ≤ s.1 ∧ s.1 < 1048576) (h : Sat w0 w (logPt p m L lv :: osl 145 2 lv (segw L.l) :: F)) :
    Calls Tryz.prog 102 #[ptr p] w (Rtn fun v w' => v = .int .i64 L.next ∧ Sat w0 w' (logPt p m L lv :: osl 145 2 lv (segw L.l) :: F)) := by
  cases hl : L.l.getLast? with
  | none =>
    have hnil := List.getLast?_eq_none_iff.1 hl
    refine (next0_c hnil h).mono ?_
    rintro e w1 ⟨v, rfl, rfl, rfl⟩
    exact ⟨_, rfl, by unfold Seg.Log.next; rw [hl], h⟩
  | some s =>
    have Hfin := Lib.hid (show L.next = s.1 + 1 by unfold Seg.Log.next; rw [hl])
    have hs := hb s (List.mem_of_getLast? hl)
    obtain ⟨bk, n, c, rfl, hn, c1, c2'⟩ := last_cells hl h
    have hok := ok_c h
    have c2 := h.cellAt 2 _ rfl
    have hS := h.drew
    have c1' : w.drew.cell? ⟨bk, n * 2, none⟩ = some (.int .i64 s.1) := by rw [Nat.mul_comm]; exact c1
    have hwn : IntKind.i64.wrap (n : Int) = (n : Int) := by rw [IntKind.wrap_i64]; omega
    have hn0 : (n : Int) < (n : Int) + 1 := by omega
    have cd : w.drew.cell? ⟨p, 2, none⟩ = some (.slice (some ⟨bk, 0, none⟩) (n + 1) c) := c2
    have hw1 : IntKind.i64.wrap (s.1 + 1) = s.1 + 1 := by rw [IntKind.wrap_i64]; omega
    have Hs := Lib.hid hs; have Hn := Lib.hid hn
    clear hs hn hb hlen hl c2'
    go_enter Tryz.func102, Tryz.ntmps102
    go_wp2_with (go_at_call 68; refine hok.mono ?_; rintro e w1 ⟨v, rfl, rfl, rfl⟩)
    go_region
    go_wp2
    go_ret
    exact ⟨_, rfl, by rw [Hfin.out]; rfl, hS⟩
end
end Go.Proofs.YtmjldaedhmipkaaGreatDoor
/- The plain model of a log's calls, and what holds of every log. No walk here. -/
namespace Go.Seg
open Go.Med
set_option linter.unusedVariables false
structure Plc where
  seg : Int
  at_ : Int
  size : Int
def Plc.zero : Plc := ⟨0, 0, 0⟩
def mag : Bs := [72, 79, 65, 82, 68, 83, 69, 71]
def Log.grow (L : Log) (M : Med) (b : Bs) : (Log × Med) × Plc × Int :=
  match L.l.getLast? with
  | none => ((L, M), Plc.zero, 0)
  | some s =>
    if (M.append (name s.1) b).2 = 0 then (({ L with l := L.l.dropLast ++ [(s.1, s.2 + (b.length : Int))] }, (M.append (name s.1) b).1), ⟨s.1, s.2, b.length⟩, 0)
    else ((L, (M.append (name s.1) b).1), Plc.zero, (M.append (name s.1) b).2)
def Log.shut (L : Log) (M : Med) : (Log × Med) × Int :=
  match L.l.getLast? with
  | none => ((L, M), 0)
  | some s =>
    if L.on = true then
      if (M.sync (name s.1)).2 = 0 then (({ L with on := false }, (M.sync (name s.1)).1), 0)
      else ((L, (M.sync (name s.1)).1), (M.sync (name s.1)).2)
    else ((L, M), 0)
/-- begin, when nothing is open. -/
def Log.begin1 (L : Log) (M : Med) (b : Bs) : (Log × Med) × Plc × Int :=
  if 1048576 ≤ L.next then ((L, M), Plc.zero, 16)
  else if (M.create (name L.next)).2 ≠ 0 then ((L, (M.create (name L.next)).1), Plc.zero, (M.create (name L.next)).2)
  else if ((M.create (name L.next)).1.append (name L.next) (mag ++ b)).2 = 0 then
    (({ L with l := L.l ++ [(L.next, 8 + (b.length : Int))], on := true, fresh := L.fresh + 1 }, ((M.create (name L.next)).1.append (name L.next) (mag ++ b)).1), ⟨L.next, 8, b.length⟩, 0)
  else if ((M.create (name L.next)).1.append (name L.next) (mag ++ b)).2 = 11 then
    ((L, (((M.create (name L.next)).1.append (name L.next) (mag ++ b)).1.remove (name L.next)).1), Plc.zero,
      if (((M.create (name L.next)).1.append (name L.next) (mag ++ b)).1.remove (name L.next)).2 = 0 then 11 else (((M.create (name L.next)).1.append (name L.next) (mag ++ b)).1.remove (name L.next)).2)
  else ((L, ((M.create (name L.next)).1.append (name L.next) (mag ++ b)).1), Plc.zero, ((M.create (name L.next)).1.append (name L.next) (mag ++ b)).2)
def Log.begin (L : Log) (M : Med) (b : Bs) : (Log × Med) × Plc × Int :=
  if (L.shut M).2 = 0 then (L.shut M).1.1.begin1 (L.shut M).1.2 b else ((L.shut M).1, Plc.zero, (L.shut M).2)
/-- Is there room in the open segment? -/
def Log.fits (L : Log) (n : Nat) : Bool := L.on && decide ((L.l.getLast?.map (·.2)).getD 0 + n ≤ L.limit)
def Log.append (L : Log) (M : Med) (x : Frm.Ent) : (Log × Med) × Plc × Int :=
  if (Frm.encode x).2 ≠ 0 then ((L, M), Plc.zero, (Frm.encode x).2)
  else if L.fits (Frm.encode x).1.length = true then L.grow M (Frm.encode x).1 else L.begin M (Frm.encode x).1
def comEnt : Frm.Ent := ⟨2, Frm.zero32, []⟩
def Log.commit (L : Log) (M : Med) : (Log × Med) × Int × Int :=
  if (L.append M comEnt).2.2 ≠ 0 then ((L.append M comEnt).1, 0, (L.append M comEnt).2.2)
  else if ((L.append M comEnt).1.2.sync (name (L.append M comEnt).2.1.seg)).2 ≠ 0 then (((L.append M comEnt).1.1, ((L.append M comEnt).1.2.sync (name (L.append M comEnt).2.1.seg)).1), 0, ((L.append M comEnt).1.2.sync (name (L.append M comEnt).2.1.seg)).2)
  else if (((L.append M comEnt).1.2.sync (name (L.append M comEnt).2.1.seg)).1.syncDir).2 ≠ 0 then (((L.append M comEnt).1.1, (((L.append M comEnt).1.2.sync (name (L.append M comEnt).2.1.seg)).1.syncDir).1), 0, (((L.append M comEnt).1.2.sync (name (L.append M comEnt).2.1.seg)).1.syncDir).2)
  else (({ (L.append M comEnt).1.1 with on := false, fresh := 0 }, (((L.append M comEnt).1.2.sync (name (L.append M comEnt).2.1.seg)).1.syncDir).1), (L.append M comEnt).2.1.seg, 0)
/-- Where a segment stands. -/
def Log.at (L : Log) (n : Int) : Option Nat := L.l.findIdx? (fun s => s.1 == n)
def Log.find (L : Log) (n : Int) : Int := match L.at n with
  | some i => i
  | none => -1
/-- A log without its i-th segment. -/
def Log.without (L : Log) (i : Nat) : Log :=
  ⟨L.limit, L.l.eraseIdx i, if i + 1 = L.l.length then false else L.on, if (L.l.length : Int) - L.fresh ≤ i then L.fresh - 1 else L.fresh⟩
def Log.remove (L : Log) (M : Med) (n : Int) : (Log × Med) × Int :=
  match L.at n with
  | none => ((L, M), 9)
  | some i => if (M.remove (name n)).2 = 0 then ((L.without i, (M.remove (name n)).1), 0) else ((L, (M.remove (name n)).1), (M.remove (name n)).2)
def Log.size (L : Log) (n : Int) : Int := match L.at n with
  | none => 0
  | some i => (L.l.getD i (0, 0)).2
def Log.bytes (L : Log) (M : Med) (n : Int) : Bs × Int := match L.at n with
  | none => ([], 9)
  | some _ => M.all (name n)
/-- What holds of every log. -/
structure Log.Ok (L : Log) : Prop where
  limit : 128 ≤ L.limit ∧ L.limit ≤ 1048576
  rise : (L.l.map (·.1)).Pairwise (· < ·)
  nums : ∀ s ∈ L.l, 0 ≤ s.1 ∧ s.1 < 1048576
  sizes : ∀ s ∈ L.l, 0 ≤ s.2 ∧ s.2 ≤ 33554432
  fresh : 0 ≤ L.fresh ∧ L.fresh ≤ L.l.length
  on : L.on = true → L.l ≠ []
theorem rise_len : ∀ (l : List Int) (a : Int), l.Pairwise (· < ·) → (∀ x ∈ l, a ≤ x) → (∀ x ∈ l, x < 1048576) → a ≤ 1048576 → (l.length : Int) ≤ 1048576 - a
  | [], a, _, _, _, h => by simp; omega
  | x :: l, a, hp, h1, h2, h3 => by
    obtain ⟨hx, hp'⟩ := List.pairwise_cons.1 hp
    have e1 := h1 x (.head _)
    have e2 := h2 x (.head _)
    have := rise_len l (x + 1) hp' (fun y hy => by have := hx y hy; omega) (fun y hy => h2 y (.tail _ hy)) (by omega)
    rw [List.length_cons]; omega
theorem Log.Ok.len {L : Log} (h : L.Ok) : L.l.length ≤ 1048576 := by
  have := rise_len (L.l.map (·.1)) 0 h.rise (by intro x hx; obtain ⟨s, hs, rfl⟩ := List.mem_map.1 hx; exact (h.nums s hs).1) (by intro x hx; obtain ⟨s, hs, rfl⟩ := List.mem_map.1 hx; exact (h.nums s hs).2) (by omega)
  rw [List.length_map] at this
  omega
theorem Log.Ok.shut {L : Log} (h : L.Ok) (M : Med) : (L.shut M).1.1.Ok := by
  unfold Log.shut
  split; · exact h
  split
  · split
    · exact ⟨h.limit, h.rise, h.nums, h.sizes, h.fresh, fun hh => by cases hh⟩
    · exact h
  · exact h
theorem last_split {L : Log} {s : Int × Int} (h : L.l.getLast? = some s) : L.l = L.l.dropLast ++ [s] := by
  have hne : L.l ≠ [] := by intro e; rw [e] at h; cases h
  have h2 := List.dropLast_concat_getLast hne
  rw [List.getLast?_eq_some_getLast hne] at h
  cases h
  exact h2.symm
theorem last_len {L : Log} {s : Int × Int} (h : L.l.getLast? = some s) : L.l.length = L.l.dropLast.length + 1 := by
  have := congrArg List.length (last_split h)
  rw [List.length_append, List.length_singleton] at this
  exact this
theorem Log.Ok.next {L : Log} (h : L.Ok) : 0 ≤ L.next ∧ L.next ≤ 1048576 ∧ ∀ s ∈ L.l, s.1 < L.next := by
  unfold Log.next
  cases hl : L.l.getLast? with
  | none =>
    have := List.getLast?_eq_none_iff.1 hl
    simp [this]
  | some s =>
    have hs := h.nums s (List.mem_of_getLast? hl)
    refine ⟨by simp only; omega, by simp only; omega, ?_⟩
    have e := last_split hl
    have hr := h.rise
    rw [e, List.map_append, List.pairwise_append] at hr
    intro t ht
    rw [e] at ht
    rcases List.mem_append.1 ht with ht | ht
    · have := hr.2.2 t.1 (List.mem_map.2 ⟨t, ht, rfl⟩) s.1 (by simp)
      simp only; omega
    · rw [List.mem_singleton.1 ht]; simp only; omega
theorem Log.Ok.snoc {L : Log} (h : L.Ok) (hn : L.next < 1048576) (z : Nat) (hz : z ≤ 16777216) : ({ L with l := L.l ++ [(L.next, 8 + (z : Int))], on := true, fresh := L.fresh + 1 } : Log).Ok := by
  obtain ⟨n1, n2, n3⟩ := h.next
  have hf := h.fresh
  refine ⟨h.limit, ?_, ?_, ?_, ⟨by simp only; omega, by simp only [List.length_append, List.length_singleton]; omega⟩, fun _ => by simp⟩
  · simp only
    rw [List.map_append, List.pairwise_append]
    refine ⟨h.rise, by simp, ?_⟩
    intro a ha b hb
    obtain ⟨s, hs, rfl⟩ := List.mem_map.1 ha
    simp only [List.map_cons, List.map_nil, List.mem_singleton] at hb
    subst hb
    exact n3 s hs
  · intro s hs
    rcases List.mem_append.1 hs with hs | hs
    · exact h.nums s hs
    · rw [List.mem_singleton.1 hs]; exact ⟨n1, hn⟩
  · intro s hs
    rcases List.mem_append.1 hs with hs | hs
    · exact h.sizes s hs
    · rw [List.mem_singleton.1 hs]; exact ⟨by simp only; omega, by simp only; omega⟩
theorem Log.Ok.begin1 {L : Log} (h : L.Ok) (M : Med) (b : Bs) (hb : b.length ≤ 16777216) : (L.begin1 M b).1.1.Ok := by
  unfold Log.begin1
  split; · exact h
  rename_i hn
  split; · exact h
  split; · exact h.snoc (by omega) _ hb
  split; · exact h
  exact h
theorem Log.Ok.begin {L : Log} (h : L.Ok) (M : Med) (b : Bs) (hb : b.length ≤ 16777216) : (L.begin M b).1.1.Ok := by
  unfold Log.begin
  split
  · exact (h.shut M).begin1 _ _ hb
  · exact h.shut M
theorem Log.Ok.grow {L : Log} (h : L.Ok) (M : Med) (b : Bs) (hf : L.fits b.length = true) : (L.grow M b).1.1.Ok := by
  unfold Log.grow
  split; · exact h
  rename_i s hl
  split
  · have e := last_split hl
    have hr := h.rise
    have hlen : L.l.length = L.l.dropLast.length + 1 := last_len hl
    unfold Log.fits at hf
    rw [Bool.and_eq_true, decide_eq_true_eq, hl] at hf
    have hlim := h.limit
    refine ⟨h.limit, ?_, ?_, ?_, ?_, fun _ => by simp⟩
    · rw [e] at hr; simpa using hr
    · intro t ht
      rcases List.mem_append.1 ht with ht | ht
      · exact h.nums t (by rw [e]; exact List.mem_append_left _ ht)
      · rw [List.mem_singleton.1 ht]
        exact h.nums s (List.mem_of_getLast? hl)
    · intro t ht
      rcases List.mem_append.1 ht with ht | ht
      · exact h.sizes t (by rw [e]; exact List.mem_append_left _ ht)
      · rw [List.mem_singleton.1 ht]
        have := h.sizes s (List.mem_of_getLast? hl)
        have h2 : s.2 + (b.length : Int) ≤ L.limit := hf.2
        simp only; omega
    · have := h.fresh
      simp only [List.length_append, List.length_singleton]
      omega
  · exact h
theorem encode_len (x : Frm.Ent) (hk : x.key.length = 32) : (Frm.encode x).1.length ≤ 16425 := by
  unfold Frm.encode
  split; · simp
  rename_i hc
  have hd : x.data.length ≤ 16384 := by
    unfold Frm.check at hc
    repeat' split at hc
    all_goals first | omega | simp at hc
  unfold Frm.body
  simp only [List.length_append, Frm.le_len, List.length_singleton]
  split
  · simp; omega
  · omega
theorem Log.Ok.append {L : Log} (h : L.Ok) (M : Med) (x : Frm.Ent) (hk : x.key.length = 32) : (L.append M x).1.1.Ok := by
  have hl := encode_len x hk
  unfold Log.append
  split; · exact h
  split
  · rename_i hf; exact h.grow M _ hf
  · exact h.begin M _ (by omega)
theorem Log.Ok.commit {L : Log} (h : L.Ok) (M : Med) : (L.commit M).1.1.Ok := by
  have h1 := h.append M comEnt rfl
  unfold Log.commit
  split; · exact h1
  split; · exact h1
  split; · exact h1
  exact ⟨h1.limit, h1.rise, h1.nums, h1.sizes, ⟨Int.le_refl _, by simp⟩, fun hh => by cases hh⟩
theorem Log.Ok.without {L : Log} (h : L.Ok) (i : Nat) (hi : i < L.l.length) : (L.without i).Ok := by
  have hsub : (L.l.eraseIdx i).Sublist L.l := List.eraseIdx_sublist _ _
  have hlen : (L.l.eraseIdx i).length = L.l.length - 1 := List.length_eraseIdx_of_lt hi
  have hf := h.fresh
  refine ⟨h.limit, h.rise.sublist (hsub.map _), fun s hs => h.nums s (hsub.mem hs), fun s hs => h.sizes s (hsub.mem hs), ?_, ?_⟩
  · unfold Log.without
    simp only [hlen]
    split <;> omega
  · unfold Log.without
    simp only
    split
    · intro hh; cases hh
    · intro _ e
      have := congrArg List.length e
      rw [hlen] at this
      simp at this
      omega
theorem Log.at_lt {L : Log} {n : Int} {i : Nat} (h : L.at n = some i) : i < L.l.length ∧ ∃ s, L.l[i]? = some s ∧ s.1 = n := by
  unfold Log.at at h
  rw [List.findIdx?_eq_some_iff_getElem] at h
  obtain ⟨h1, h2, _⟩ := h
  exact ⟨h1, _, List.getElem?_eq_getElem h1, by simpa using h2⟩
theorem Log.Ok.remove {L : Log} (h : L.Ok) (M : Med) (n : Int) : (L.remove M n).1.1.Ok := by
  unfold Log.remove
  split; · exact h
  rename_i i hi
  split
  · exact h.without i (Log.at_lt hi).1
  · exact h
/-- The numbers rise, so the last one is found at the end. -/
theorem Log.Ok.at_last {L : Log} (h : L.Ok) {s : Int × Int} (hl : L.l.getLast? = some s) : L.at s.1 = some (L.l.length - 1) := by
  have e := last_split hl
  have hlen : L.l.length = L.l.dropLast.length + 1 := last_len hl
  have hr := h.rise
  rw [e, List.map_append, List.pairwise_append] at hr
  unfold Log.at
  rw [List.findIdx?_eq_some_iff_getElem]
  refine ⟨by omega, ?_, ?_⟩
  · have : L.l[L.l.length - 1]? = some s := by rw [← List.getLast?_eq_getElem?]; exact hl
    obtain ⟨h1, h2⟩ := List.getElem?_eq_some_iff.1 this
    rw [h2]; simp
  · intro j hj
    have hj' : j < L.l.dropLast.length := by omega
    have hx : L.l[j]'(by omega) = L.l.dropLast[j] := by rw [List.getElem_dropLast]
    have h3 : (L.l.dropLast[j]).1 < s.1 := hr.2.2 (L.l.dropLast[j]).1 (List.mem_map.2 ⟨_, List.getElem_mem hj', rfl⟩) s.1 (by simp)
    rw [hx]
    rw [Bool.not_eq_true, beq_eq_false_iff_ne]
    omega
/-- Rollback: k rounds at most. -/
def Log.back : Nat → Log → Med → (Log × Med) × Int
  | 0, L, M => (({ L with on := false }, M), 0)
  | k + 1, L, M =>
    match L.l.getLast? with
    | none => (({ L with on := false }, M), 0)
    | some s => if (L.remove M s.1).2 = 0 then Log.back k (L.remove M s.1).1.1 (L.remove M s.1).1.2 else L.remove M s.1
def Log.rollback (L : Log) (M : Med) : (Log × Med) × Int := L.back L.fresh.toNat M
theorem Log.Ok.shutOff {L : Log} (h : L.Ok) : ({ L with on := false } : Log).Ok := ⟨h.limit, h.rise, h.nums, h.sizes, h.fresh, fun hh => by cases hh⟩
theorem Log.Ok.back : ∀ (k : Nat) {L : Log} (M : Med), L.Ok → (L.back k M).1.1.Ok
  | 0, L, M, h => h.shutOff
  | k + 1, L, M, h => by
    unfold Log.back
    split; · exact h.shutOff
    split
    · exact Log.Ok.back k _ (h.remove M _)
    · exact h.remove M _
end Go.Seg
/- The last segment's cells; grow, shut. -/
namespace Go.Proofs.YtmjldaedhmipkaaGreatDoor
open Go Go.Sl Go.Med Go.MapKept Go.RowKit
set_option linter.unusedVariables false
def plcL (q : Seg.Plc) : List Value := [.int .i64 q.seg, .int .i64 q.at_, .int .i64 q.size]
abbrev plcA (q : Seg.Plc) : Value := .agg #[.int .i64 q.seg, .int .i64 q.at_, .int .i64 q.size]
theorem zPlace : zeroB Tryz.prog 39 = some (.agg #[.int .i64 0, .int .i64 0, .int .i64 0]) := by kernel_rfl
/-- A block that holds segments. -/
structure SegBlk (l : List (Int × Int)) (n cap : Nat) (cs : Array Value) : Prop where
  len : l.length = n + 1
  le : n + 1 ≤ cap
  size : cap * 2 ≤ cs.size
  max : cap ≤ maxLen
  take : cs.toList.take ((n + 1) * 2) = segw l
theorem segw_set (l : List (Int × Int)) (s : Int × Int) (z : Int) : (segw (l ++ [s])).set (l.length * 2 + 1) (.int .i64 z) = segw (l ++ [(s.1, z)]) := by
  rw [segw_app, segw_app]
  rw [List.set_append_right _ _ (by rw [segw_len]; omega), segw_len, show l.length * 2 + 1 - 2 * l.length = 1 by omega]
  rfl
theorem set_take {α : Type} (l : List α) (k i : Nat) (x : α) (h : i < k) : (l.set i x).take k = (l.take k).set i x := by
  rw [List.take_set]
section
variable {w0 w : World} {F R : List HProp} {v bv dv x lv : Value} {q p m K : Nat} {L : Seg.Log} {M : Med} {s : Int × Int}
theorem seg_block (hl : L.l.getLast? = some s) (h : Sat w0 w (LogRaw p m L lv ++ F)) :
    ∃ bk n cap cs, lv = .slice (some ⟨bk, 0, none⟩) (n + 1) cap ∧ SegBlk L.l n cap cs ∧ cs[n * 2]? = some (.int .i64 s.1) ∧ cs[n * 2 + 1]? = some (.int .i64 s.2) ∧
      Sat w0 w (logPt p m L (.slice (some ⟨bk, 0, none⟩) (n + 1) cap) :: pt bk (.cells cs 145 (0,0)) :: F) := by
  rw [List.getLast?_eq_getElem?] at hl
  have hlt := (List.getElem?_eq_some_iff.1 hl).1
  obtain ⟨n, hn⟩ : ∃ n, L.l.length = n + 1 := ⟨L.l.length - 1, by omega⟩
  rw [hn, Nat.add_sub_cancel] at hl
  obtain ⟨h1, h2⟩ := segw_at _ _ _ hl
  have hS : Sat w0 w (osl 145 2 lv (segw L.l) :: logPt p m L lv :: F) := h.pick1
  rcases hS.osl_cases with ⟨rfl, hx, _⟩ | ⟨b, n', cap, cs, rfl, hll, hn', hc, hcm, htk, hp⟩
  · rw [hx] at h1; simp at h1
  · rw [segw_len, hn] at hll
    obtain rfl : n' = n + 1 := by omega
    refine ⟨b, n, cap, cs, rfl, ⟨hn, hn', hc, hcm, htk⟩, ?_, ?_, hp.pick1⟩
    · rw [Nat.mul_comm]; exact take_get htk h1
    · rw [Nat.mul_comm]; exact take_get htk h2
theorem seg_keep {bk n cap : Nat} {cs : Array Value} (hb : SegBlk L.l n cap cs) (h : Sat w0 w (pt bk (.cells cs 145 (0,0)) :: R)) :
    Sat w0 w (osl 145 2 (.slice (some ⟨bk, 0, none⟩) (n + 1) cap) (segw L.l) :: R) :=
  Sat.osl_of_pt h (by rw [segw_len, hb.len]; omega) hb.le hb.size hb.max hb.take
theorem seg_close {bk n cap : Nat} {cs : Array Value} (hl : L.l.getLast? = some s) (hb : SegBlk L.l n cap cs) (z : Int)
    (h : Sat w0 w (pt bk (.cells (putsAt cs (n * 2 + 1) [.int .i64 z]) 145 (0,0)) :: R)) :
    Sat w0 w (osl 145 2 (.slice (some ⟨bk, 0, none⟩) (n + 1) cap) (segw (L.l.dropLast ++ [(s.1, z)])) :: R) := by
  have e := Seg.last_split hl
  have hlen := Seg.last_len hl
  have hn := hb.len
  refine Sat.osl_of_pt h ?_ hb.le ?_ hb.max ?_
  · rw [segw_len, List.length_append, List.length_singleton]; omega
  · rw [putsAt_size]; exact hb.size
  · simp only [putsAt, Array.toList_setIfInBounds]
    rw [set_take _ _ _ _ (by omega), hb.take, e, List.dropLast_append_cons, show n = L.l.dropLast.length by omega]
    simp only [List.dropLast_singleton, List.append_nil]
    exact segw_set _ _ _
set_option maxRecDepth 20000 in
set_option maxHeartbeats 4000000 in
theorem grow_c (hl : L.l.getLast? = some s) (hs : 0 ≤ s.2 ∧ s.2 ≤ 33554432) (hM : M.Ok K) (hKK : K ≤ 1099511627776) (hlen : L.l.length ≤ 1048576) (b : Bs) (hbl : b.length ≤ 1073741824) (hr : Ro w0 F (rdsl 1 bv (bys b)))
    (h : Sat w0 w (LogRep p m L :: MedRep m M :: F)) :
    Calls Tryz.prog 70 #[ptr p, bv] w (Rtn fun v w' => v = .tuple #[plcA (L.grow M b).2.1, errno (L.grow M b).2.2] ∧
      Sat w0 w' (LogRep p m (L.grow M b).1.1 :: MedRep m (L.grow M b).1.2 :: F)) := by
  obtain ⟨lv, hR⟩ := LogRep.open h
  clear h
  obtain ⟨bk, n, cap, cs, rfl, hb, c0, c1, hS⟩ := seg_block hl hR
  clear hR
  obtain ⟨ba, bn, bc, rfl, hbn⟩ := ro_len hr (A := emp) (Sat.emp.2 (hS.sel 3 [] rfl rfl))
  subst hbn
  have Hg := Lib.hid (show L.grow M b = if (M.append (Seg.name s.1) b).2 = 0 then (({ L with l := L.l.dropLast ++ [(s.1, s.2 + (b.length : Int))] }, (M.append (Seg.name s.1) b).1), ⟨s.1, s.2, b.length⟩, 0)
    else ((L, (M.append (Seg.name s.1) b).1), Seg.Plc.zero, (M.append (Seg.name s.1) b).2) by unfold Seg.Log.grow; rw [hl])
  have hn := hb.len
  have Hb := Lib.hid hb; have Hr := Lib.hid hr; have Hl := Lib.hid hl; have Hs := Lib.hid hs; have Hc0 := Lib.hid c0; have Hc1 := Lib.hid c1; have Hbl := Lib.hid hbl
  have hn0 : (n : Int) < (n : Int) + 1 := by omega
  have hwn : IntKind.i64.wrap (n : Int) = (n : Int) := by rw [IntKind.wrap_i64]; omega
  have hwz : IntKind.i64.wrap (s.2 + (b.length : Int)) = s.2 + (b.length : Int) := by rw [IntKind.wrap_i64]; omega
  have Hwz := Lib.hid hwz
  clear hn hb hr hl hs c0 c1 hbl hlen hwz
  go_enter Tryz.func70, Tryz.ntmps70
  go_wp2_with (refine wl_alloc zPlace (by assumption) rfl ?_; intro q w1 hS1)
  refine wpL_begin [10, 11] (fun w' => w'.cell? ⟨p, 2, none⟩ = some (.slice (some ⟨bk, 0, none⟩) (n + 1) cap)) (by kernel_rfl) ?_
  have hG : w1.drew.cell? ⟨p, 2, none⟩ = some (.slice (some ⟨bk, 0, none⟩) (n + 1) cap) := hS1.drew.cellP (by first | ((repeat (first | with_reducible apply pick0 | with_reducible apply pick_there)); done) | ((repeat (first | apply pick0 | apply pick_there)); done) | fail) 2 rfl
  refine rp 0 (hy := (yl_move (by conv => lhs; whnf))) (h := ?_)
  refine rp 1 (hy := (yl_nil (by conv => lhs; whnf))) (h := ?_)
  refine rp 2 (hy := (yl_field (by conv => lhs; whnf) (by ((intro wq; go_simp); first | done | (with_reducible rfl))))) (h := ?_)
  refine rt 3 (h := ?_)
  refine rp 4 (hy := (yl_move (by conv => lhs; whnf))) (h := ?_)
  refine rp 5 (hy := (yl_nil (by conv => lhs; whnf))) (h := ?_)
  refine rp 6 (hy := (yl_field (by conv => lhs; whnf) (by ((intro wq; go_simp); first | done | (with_reducible rfl))))) (h := ?_)
  refine rt 7 (h := ?_)
  refine rp 8 (hy := (yl_len (by conv => lhs; whnf) (by ((intro wq; go_simp); first | done | (with_reducible rfl))))) (h := ?_)
  refine rp 9 (hy := (yl_bin (by conv => lhs; whnf) (by conv => lhs; whnf) (by ((intro wq; go_simp); first | done | (with_reducible rfl))))) (h := ?_)
  refine rp 10 (hy := (yl_index (by conv => lhs; whnf) (by conv => lhs; whnf) (by ((intro wq; go_simp); first | done | (with_reducible rfl))))) (h := ?_)
  refine rp 11 (hy := (yl_assign (by conv => lhs; whnf))) (h := ?_)
  refine wpL_done (by kernel_rfl) ?_
  clear hG
  have hS2 := hS1.drew
  generalize w1.drew = w2 at *
  clear hS1 hS
  go_wp2_with fail
  refine wpL_begin [10, 11] (fun w' => w'.cell? ⟨p, 0, none⟩ = some (ptr m) ∧ w'.cell? ⟨bk, n * 2, none⟩ = some (.int .i64 s.1)) (by kernel_rfl) ?_
  have hG : w2.drew.cell? ⟨p, 0, none⟩ = some (ptr m) ∧ w2.drew.cell? ⟨bk, n * 2, none⟩ = some (.int .i64 s.1) := ⟨hS2.drew.cellP (by first | ((repeat (first | with_reducible apply pick0 | with_reducible apply pick_there)); done) | ((repeat (first | apply pick0 | apply pick_there)); done) | fail) 0 rfl, hS2.drew.cellP (by first | ((repeat (first | with_reducible apply pick0 | with_reducible apply pick_there)); done) | ((repeat (first | apply pick0 | apply pick_there)); done) | fail) _ Hc0.out⟩
  refine rp 0 (hy := (yl_move (by conv => lhs; whnf))) (h := ?_)
  refine rp 1 (hy := (yl_nil (by conv => lhs; whnf))) (h := ?_)
  refine rp 2 (hy := (yl_field (by conv => lhs; whnf) (by ((intro wq; go_simp); first | done | (with_reducible rfl))))) (h := ?_)
  refine rt 3 (h := ?_)
  refine rp 4 (hy := (yl_move (by conv => lhs; whnf))) (h := ?_)
  refine rp 5 (hy := (yl_nil (by conv => lhs; whnf))) (h := ?_)
  refine rp 6 (hy := (yl_field (by conv => lhs; whnf) (by ((intro wq; go_simp); first | done | (with_reducible rfl))))) (h := ?_)
  refine rt 7 (h := ?_)
  refine rp 9 (hy := (yl_move (by conv => lhs; whnf))) (h := ?_)
  refine rg_eff 8 (by conv => lhs; whnf) (by kernel_rfl) (fun K hK => ?_)
  clear hG
  (refine eff_call1 (by kernel_rfl) (by conv => lhs; whnf) ?_)
  refine (sname_c s.1 hS2.drew).mono ?_
  rintro e w3 ⟨v, rfl, rfl, hS3⟩
  refine hK _ _ (.inr (.inl ⟨hS3.cellP (by first | ((repeat (first | with_reducible apply pick0 | with_reducible apply pick_there)); done) | ((repeat (first | apply pick0 | apply pick_there)); done) | fail) 0 rfl, hS3.cellP (by first | ((repeat (first | with_reducible apply pick0 | with_reducible apply pick_there)); done) | ((repeat (first | apply pick0 | apply pick_there)); done) | fail) _ Hc0.out⟩)) ?_
  clear hK K
  refine rg_eff 10 (by conv => lhs; whnf) (by kernel_rfl) (fun K hK => ?_)
  (refine eff_call3 (by kernel_rfl) (by conv => lhs; whnf) (by conv => lhs; whnf) (by conv => lhs; whnf) ?_)
  refine (append_c hM hKK (Sat.pk (by assumption)) _ b (by first | assumption | exact Ro.op (Ro.bsl _ _) | exact Ro.os (by assumption))).mono ?_
  rintro e w4 ⟨v, rfl, rfl, hS4⟩
  refine hK _ _ (.inl rfl) ?_
  clear hK K
  refine rp 11 (hy := (yl_assign (by conv => lhs; whnf))) (h := ?_)
  refine wpL_done (by kernel_rfl) ?_
  clear hS3 hS2 Hr
  generalize M.append (Seg.name s.1) b = r at *
  obtain ⟨M2, ee⟩ := r
  by_cases he : ee = 0
  · subst he
    have hfin := Lib.hid (Hg.out.trans (if_pos rfl))
    have e1 : w4.cell? ⟨bk, n * 2 + 1, none⟩ = some (.int .i64 s.2) := hS4.cellP (by first | ((repeat (first | with_reducible apply pick0 | with_reducible apply pick_there)); done) | ((repeat (first | apply pick0 | apply pick_there)); done) | fail) _ Hc1.out
    have hfit := Hb.out.size; have hle := Hb.out.le
    have hst := Lib.hid (show n * 2 + 1 + (Value.int .i64 (s.2 + (b.length : Int))).cells.size ≤ cs.size by show n * 2 + 1 + 1 ≤ cs.size; omega)
    have hwz := Hwz.out
    clear hfit hle
    go_wp2_with (refine wpList_stop (by rfl) ?_)
    refine ⟨?_⟩
    refine wl_store (b := bk) (o := n * 2 + 1) (v := .int .i64 (s.2 + (b.length : Int))) (by assumption) (by rfl) (by rfl) rfl (by first | ((repeat (first | with_reducible apply upd0 | with_reducible apply upd_there)); done) | ((repeat (first | apply upd0 | apply upd_there)); done) | fail) hst.out (by kernel_rfl) (by rfl) ?_
    intro w5 hS5
    have e0 : w5.cell? ⟨bk, n * 2, none⟩ = some (.int .i64 s.1) := hS5.cellP (by first | ((repeat (first | with_reducible apply pick0 | with_reducible apply pick_there)); done) | ((repeat (first | apply pick0 | apply pick_there)); done) | fail) _ (by
      show (cs.setIfInBounds (n * 2 + 1) _)[n * 2]? = _
      rw [Array.getElem?_setIfInBounds_ne (by omega)]; exact Hc0.out)
    clear e1 hst hwz
    go_wp2_with ((with_reducible apply at_store); refine ⟨?_⟩; refine wl_store (by assumption) (by rfl) (by conv => lhs; whnf) (by first | (simp only [putsAt, Value.cells]; (try go_frame); first | done | rfl) | rfl) (by first | ((repeat (first | with_reducible apply upd0 | with_reducible apply upd_there)); done) | ((repeat (first | apply upd0 | apply upd_there)); done) | fail) (Nat.le_of_ble_eq_true (by rfl)) (by kernel_rfl) (by rfl) ?_; intro wS hS)
    refine ⟨rfl, _, res_cell_tmp rfl (by assumption) (by rfl) (by first | ((repeat (first | with_reducible apply pick0 | with_reducible apply pick_there)); done) | ((repeat (first | apply pick0 | apply pick_there)); done) | fail) Tryz.underlying39 rfl (by kernel_rfl), _, rfl, ?_, ?_⟩
    · rw [hfin.out]; rfl
    · rw [hfin.out]
      have h6 := seg_close Hl.out Hb.out _ (Sat.pk hS)
      exact LogRep.shut2 (lv := .slice (some ⟨bk, 0, none⟩) (n + 1) cap) (Sat.sb h6)
  · have heb : (ee == 0) = false := beq_false_of_ne he
    have hfin := Lib.hid (Hg.out.trans (if_neg he))
    clear he
    go_wp2_with ((with_reducible apply at_store); refine ⟨?_⟩; refine wl_store (by assumption) (by rfl) (by conv => lhs; whnf) (by first | (simp only [putsAt, Value.cells]; (try go_frame); first | done | rfl) | rfl) (by first | ((repeat (first | with_reducible apply upd0 | with_reducible apply upd_there)); done) | ((repeat (first | apply upd0 | apply upd_there)); done) | fail) (Nat.le_of_ble_eq_true (by rfl)) (by kernel_rfl) (by rfl) ?_; intro wS hS)
    refine ⟨rfl, _, res_cell_tmp rfl (by assumption) (by rfl) (by first | ((repeat (first | with_reducible apply pick0 | with_reducible apply pick_there)); done) | ((repeat (first | apply pick0 | apply pick_there)); done) | fail) Tryz.underlying39 rfl (by kernel_rfl), _, rfl, ?_, ?_⟩
    · rw [hfin.out]; rfl
    · rw [hfin.out]
      have h6 := seg_keep Hb.out (Sat.pk hS)
      exact LogRep.shut2 (lv := .slice (some ⟨bk, 0, none⟩) (n + 1) cap) (Sat.sb h6)
end
end Go.Proofs.YtmjldaedhmipkaaGreatDoor
/- shut, begin of any log. -/
namespace Go.Seg
open Go.Med
theorem Log.shut_off {L : Log} (M : Med) (h : L.on = false) : L.shut M = ((L, M), 0) := by
  unfold Log.shut
  split
  · rfl
  · rw [if_neg (by rw [h]; decide)]
theorem Log.Ok.last {L : Log} (h : L.Ok) (hon : L.on = true) : ∃ s, L.l.getLast? = some s := by
  cases hl : L.l.getLast? with
  | none => exact absurd (List.getLast?_eq_none_iff.1 hl) (h.on hon)
  | some s => exact ⟨s, rfl⟩
theorem Log.shut_on {L : Log} (M : Med) {s : Int × Int} (hl : L.l.getLast? = some s) (h : L.on = true) :
    L.shut M = if (M.sync (name s.1)).2 = 0 then (({ L with on := false }, (M.sync (name s.1)).1), 0) else ((L, (M.sync (name s.1)).1), (M.sync (name s.1)).2) := by
  unfold Log.shut
  rw [hl]
  simp only [h, if_true]
end Go.Seg
namespace Go.Proofs.YtmjldaedhmipkaaGreatDoor
open Go Go.Sl Go.Med Go.MapKept Go.RowKit
set_option linter.unusedVariables false
section
variable {w0 w : World} {F R : List HProp} {v bv dv x lv : Value} {q p m K : Nat} {L : Seg.Log} {M : Med} {s : Int × Int}
set_option maxRecDepth 20000 in
set_option maxHeartbeats 4000000 in
theorem shut_c (hL : L.Ok) (hM : M.Ok K) (h : Sat w0 w (LogRep p m L :: MedRep m M :: F)) :
    Calls Tryz.prog 128 #[ptr p] w (Rtn fun v w' => v = errno (L.shut M).2 ∧ Sat w0 w' (LogRep p m (L.shut M).1.1 :: MedRep m (L.shut M).1.2 :: F)) := by
  cases hon : L.on
  · obtain ⟨lv, hR⟩ := LogRep.open h
    refine (shut0_c hon hR).mono ?_
    rintro e w1 ⟨v, rfl, rfl, rfl⟩
    rw [Seg.Log.shut_off M hon]
    exact ⟨_, rfl, rfl, h⟩
  · obtain ⟨s, hl⟩ := hL.last hon
    obtain ⟨lv, hR⟩ := LogRep.open h
    clear h
    have hlen := hL.len
    obtain ⟨bk, n, cap, cs, rfl, hb, c0, c1, hS⟩ := seg_block hl hR
    clear hR c1
    have hn := hb.len
    have Hg := Lib.hid (Seg.Log.shut_on M hl hon)
    have Hb := Lib.hid hb; have Hl := Lib.hid hl; have Hc0 := Lib.hid c0
    have hn0 : (n : Int) < (n : Int) + 1 := by omega
    have hwn : IntKind.i64.wrap (n : Int) = (n : Int) := by rw [IntKind.wrap_i64]; omega
    have e3 : w.cell? ⟨p, 3, none⟩ = some (.bool true) := hS.cellP (by first | ((repeat (first | with_reducible apply pick0 | with_reducible apply pick_there)); done) | ((repeat (first | apply pick0 | apply pick_there)); done) | fail) 3 (by rw [← hon]; rfl)
    clear hn hb hl c0 hlen hon
    go_enter Tryz.func128, Tryz.ntmps128
    go_wp2_with fail
    refine wpL_begin [18, 19] (fun w' => w'.cell? ⟨p, 0, none⟩ = some (ptr m) ∧ w'.cell? ⟨p, 2, none⟩ = some (.slice (some ⟨bk, 0, none⟩) (n + 1) cap) ∧ w'.cell? ⟨bk, n * 2, none⟩ = some (.int .i64 s.1)) (by kernel_rfl) ?_
    have hG : w.drew.cell? ⟨p, 0, none⟩ = some (ptr m) ∧ w.drew.cell? ⟨p, 2, none⟩ = some (.slice (some ⟨bk, 0, none⟩) (n + 1) cap) ∧ w.drew.cell? ⟨bk, n * 2, none⟩ = some (.int .i64 s.1) := ⟨hS.drew.cellP (by first | ((repeat (first | with_reducible apply pick0 | with_reducible apply pick_there)); done) | ((repeat (first | apply pick0 | apply pick_there)); done) | fail) 0 rfl, hS.drew.cellP (by first | ((repeat (first | with_reducible apply pick0 | with_reducible apply pick_there)); done) | ((repeat (first | apply pick0 | apply pick_there)); done) | fail) 2 rfl, hS.drew.cellP (by first | ((repeat (first | with_reducible apply pick0 | with_reducible apply pick_there)); done) | ((repeat (first | apply pick0 | apply pick_there)); done) | fail) _ Hc0.out⟩
    refine rp 0 (hy := (yl_move (by conv => lhs; whnf))) (h := ?_)
    refine rp 1 (hy := (yl_nil (by conv => lhs; whnf))) (h := ?_)
    refine rp 2 (hy := (yl_field (by conv => lhs; whnf) (by ((intro wq; go_simp); first | done | (with_reducible rfl))))) (h := ?_)
    refine rt 3 (h := ?_)
    refine rp 4 (hy := (yl_move (by conv => lhs; whnf))) (h := ?_)
    refine rp 5 (hy := (yl_nil (by conv => lhs; whnf))) (h := ?_)
    refine rp 6 (hy := (yl_field (by conv => lhs; whnf) (by ((intro wq; go_simp); first | done | (with_reducible rfl))))) (h := ?_)
    refine rt 7 (h := ?_)
    refine rp 8 (hy := (yl_move (by conv => lhs; whnf))) (h := ?_)
    refine rp 9 (hy := (yl_nil (by conv => lhs; whnf))) (h := ?_)
    refine rp 10 (hy := (yl_field (by conv => lhs; whnf) (by ((intro wq; go_simp); first | done | (with_reducible rfl))))) (h := ?_)
    refine rt 11 (h := ?_)
    refine rp 12 (hy := (yl_len (by conv => lhs; whnf) (by ((intro wq; go_simp); first | done | (with_reducible rfl))))) (h := ?_)
    refine rp 13 (hy := (yl_bin (by conv => lhs; whnf) (by conv => lhs; whnf) (by ((intro wq; go_simp); first | done | (with_reducible rfl))))) (h := ?_)
    refine rp 14 (hy := (yl_index (by conv => lhs; whnf) (by conv => lhs; whnf) (by ((intro wq; go_simp); first | done | (with_reducible rfl))))) (h := ?_)
    refine rp 15 (hy := (yl_field (by conv => lhs; whnf) (by ((intro wq; go_simp); first | done | (with_reducible rfl))))) (h := ?_)
    refine rt 16 (h := ?_)
    clear hG e3
    refine rg_eff 17 (by conv => lhs; whnf) (by kernel_rfl) (fun K hK => ?_)
    (refine eff_call1 (by kernel_rfl) (by conv => lhs; whnf) ?_)
    refine (sname_c s.1 hS.drew).mono ?_
    rintro e w3 ⟨v, rfl, rfl, hS3⟩
    refine hK _ _ (.inr (.inl ⟨hS3.cellP (by first | ((repeat (first | with_reducible apply pick0 | with_reducible apply pick_there)); done) | ((repeat (first | apply pick0 | apply pick_there)); done) | fail) 0 rfl, hS3.cellP (by first | ((repeat (first | with_reducible apply pick0 | with_reducible apply pick_there)); done) | ((repeat (first | apply pick0 | apply pick_there)); done) | fail) 2 rfl, hS3.cellP (by first | ((repeat (first | with_reducible apply pick0 | with_reducible apply pick_there)); done) | ((repeat (first | apply pick0 | apply pick_there)); done) | fail) _ Hc0.out⟩)) ?_
    clear hK K
    refine rg_eff 18 (by conv => lhs; whnf) (by kernel_rfl) (fun K hK => ?_)
    (refine eff_call2 (by kernel_rfl) (by conv => lhs; whnf) (by conv => lhs; whnf) ?_)
    refine (sync_c hM (Sat.pk (by assumption)) _).mono ?_
    rintro e w4 ⟨v, rfl, rfl, hS4⟩
    refine hK _ _ (.inl rfl) ?_
    clear hK K
    refine rp 19 (hy := (yl_assign (by conv => lhs; whnf))) (h := ?_)
    refine wpL_done (by kernel_rfl) ?_
    clear hS3 hS
    generalize M.sync (Seg.name s.1) = r at *
    obtain ⟨M2, ee⟩ := r
    by_cases he : ee = 0
    · subst he
      have hfin := Lib.hid (Hg.out.trans (if_pos rfl))
      go_wp2_with ((with_reducible apply at_store); refine ⟨?_⟩; refine wl_store (by assumption) (by rfl) (by conv => lhs; whnf) (by first | (simp only [putsAt, Value.cells]; (try go_frame); first | done | rfl) | rfl) (by first | ((repeat (first | with_reducible apply upd0 | with_reducible apply upd_there)); done) | ((repeat (first | apply upd0 | apply upd_there)); done) | fail) (Nat.le_of_ble_eq_true (by rfl)) (by kernel_rfl) (by rfl) ?_; intro wS hS)
      go_ret
      refine ⟨errno 0, rfl, by rw [hfin.out], ?_⟩
      rw [hfin.out]
      have h6 := seg_keep Hb.out (Sat.pk hS)
      exact LogRep.shut2 (lv := .slice (some ⟨bk, 0, none⟩) (n + 1) cap) (Sat.sb h6)
    · have heb : (ee == 0) = false := beq_false_of_ne he
      have hfin := Lib.hid (Hg.out.trans (if_neg he))
      clear he
      go_wp2_with ((with_reducible apply at_store); refine ⟨?_⟩; refine wl_store (by assumption) (by rfl) (by conv => lhs; whnf) (by first | (simp only [putsAt, Value.cells]; (try go_frame); first | done | rfl) | rfl) (by first | ((repeat (first | with_reducible apply upd0 | with_reducible apply upd_there)); done) | ((repeat (first | apply upd0 | apply upd_there)); done) | fail) (Nat.le_of_ble_eq_true (by rfl)) (by kernel_rfl) (by rfl) ?_; intro wS hS)
      go_ret
      refine ⟨errno ee, rfl, by rw [hfin.out], ?_⟩
      rw [hfin.out]
      have h6 := seg_keep Hb.out (Sat.pk hS4)
      exact LogRep.shut2 (lv := .slice (some ⟨bk, 0, none⟩) (n + 1) cap) (Sat.sb h6)
end
end Go.Proofs.YtmjldaedhmipkaaGreatDoor
/- begin of any log. -/
namespace Go.Seg
open Go.Med
theorem Log.shut_med {L : Log} {M : Med} {K : Nat} (h : M.Ok K) : (L.shut M).1.2.Ok (K + 1) := by
  unfold Log.shut
  split; · exact h.mono (Nat.le_succ K)
  split
  · split <;> exact h.sync _
  · exact h.mono (Nat.le_succ K)
theorem Log.begin_eq (L : Log) (M : Med) (b : Bs) : L.begin M b = if (L.shut M).2 = 0 then (L.shut M).1.1.begin1 (L.shut M).1.2 b else ((L.shut M).1, Plc.zero, (L.shut M).2) := rfl
theorem name_size (n : Int) : (name n).size ≤ 9223372036854775807 := by
  unfold name
  split
  · decide
  · show (lead ++ digs n.toNat 8).toArray.size ≤ _
    rw [List.size_toArray, List.length_append, digs_len]; decide
end Go.Seg
namespace Go.Proofs.YtmjldaedhmipkaaGreatDoor
open Go Go.Sl Go.Med Go.MapKept Go.RowKit
set_option linter.unusedVariables false
section
variable {w0 w : World} {F R : List HProp} {v bv dv x lv : Value} {q p m K : Nat} {L : Seg.Log} {M : Med} {s : Int × Int}
theorem lnext_c (hL : L.Ok) (h : Sat w0 w (LogRep p m L :: F)) :
    Calls Tryz.prog 102 #[ptr p] w (Rtn fun v w' => v = .int .i64 L.next ∧ Sat w0 w' (LogRep p m L :: F)) := by
  obtain ⟨lv, hR⟩ := LogRep.open h
  refine (snext_c hL.len hL.nums hR).mono ?_
  rintro e w1 ⟨v, rfl, rfl, hS⟩
  exact ⟨_, rfl, rfl, LogRep.shut2 hS⟩
/-- Behind the last segment another one. -/
theorem segw_snoc (l : List (Int × Int)) (n z : Int) : segw l ++ [.int .i64 n, .int .i64 z] = segw (l ++ [(n, z)]) := by rw [segw_app]; rfl
set_option maxRecDepth 20000 in
set_option maxHeartbeats 8000000 in
theorem begin_c (hL : L.Ok) (hM : M.Ok K) (hKK : K + 4 ≤ 1099511627776) (b : Bs) (hb0 : b ≠ []) (hbl : b.length ≤ 16777216) (hr : Ro w0 F (rdsl 1 bv (bys b)))
    (h : Sat w0 w (LogRep p m L :: MedRep m M :: F)) :
    Calls Tryz.prog 71 #[ptr p, bv] w (Rtn fun v w' => v = .tuple #[plcA (L.begin M b).2.1, errno (L.begin M b).2.2] ∧
      Sat w0 w' (LogRep p m (L.begin M b).1.1 :: MedRep m (L.begin M b).1.2 :: F)) := by
  obtain ⟨ba, bn, bc, rfl, hbn⟩ := ro_len hr (A := emp) (Sat.emp.2 (h.sel 2 [] rfl rfl))
  subst hbn
  obtain ⟨i, hi, hz0, hz1, hz2⟩ := info8p
  have Hg := Lib.hid (Seg.Log.begin_eq L M b)
  have HM := Lib.hid (Seg.Log.shut_med (L := L) hM)
  have HL := Lib.hid (hL.shut M)
  have Hr := Lib.hid hr; have Hb0 := Lib.hid hb0; have Hbl := Lib.hid hbl
  clear hr hb0 hbl
  go_enter Tryz.func71, Tryz.ntmps71
  go_wp2_with (refine wl_alloc zPlace (by assumption) rfl ?_; intro q w1 hS1)
  refine (shut_c hL hM (Sat.sb (by assumption))).mono ?_
  rintro e w2 ⟨v, rfl, rfl, hS2⟩
  clear hS1 h hL hM
  generalize L.shut M = S at *
  obtain ⟨⟨L1, M1⟩, e1⟩ := S
  by_cases he : e1 = 0
  rotate_left
  · have heb : (e1 == 0) = false := beq_false_of_ne he
    have hfin := Lib.hid (Hg.out.trans (if_neg he))
    clear he
    go_wp2_with ((with_reducible apply at_store); refine ⟨?_⟩; refine wl_store (by assumption) (by rfl) (by conv => lhs; whnf) (by first | (simp only [putsAt, Value.cells]; (try go_frame); first | done | rfl) | rfl) (by first | ((repeat (first | with_reducible apply upd0 | with_reducible apply upd_there)); done) | ((repeat (first | apply upd0 | apply upd_there)); done) | fail) (Nat.le_of_ble_eq_true (by rfl)) (by kernel_rfl) (by rfl) ?_; intro wS hS)
    refine ⟨rfl, _, res_cell_tmp rfl (by assumption) (by rfl) (by first | ((repeat (first | with_reducible apply pick0 | with_reducible apply pick_there)); done) | ((repeat (first | apply pick0 | apply pick_there)); done) | fail) Tryz.underlying39 rfl (by kernel_rfl), _, rfl, ?_, ?_⟩
    · rw [hfin.out]; rfl
    · rw [hfin.out]; exact Sat.sb hS
  subst he
  have H1 := Lib.hid (Hg.out.trans (if_pos rfl))
  clear Hg
  go_wp2_with fail
  refine (lnext_c HL.out (Sat.pk (by assumption))).mono ?_
  rintro e w3 ⟨v, rfl, rfl, hS3⟩
  clear hS2
  have hs1 := Lib.hid HL.out.next
  have hfr := Lib.hid HL.out.fresh
  have hln := Lib.hid HL.out.len
  unfold Seg.Log.begin1 at H1
  have Hnm := Lib.hid (Seg.name_size L1.next)
  by_cases hn : 1048576 ≤ L1.next
  · have hfin := Lib.hid (H1.out.trans (if_pos hn))
    generalize L1.next = n at *
    go_wp2_with ((with_reducible apply at_store); refine ⟨?_⟩; refine wl_store (by assumption) (by rfl) (by conv => lhs; whnf) (by first | (simp only [putsAt, Value.cells]; (try go_frame); first | done | rfl) | rfl) (by first | ((repeat (first | with_reducible apply upd0 | with_reducible apply upd_there)); done) | ((repeat (first | apply upd0 | apply upd_there)); done) | fail) (Nat.le_of_ble_eq_true (by rfl)) (by kernel_rfl) (by rfl) ?_; intro wS hS)
    refine ⟨rfl, _, res_cell_tmp rfl (by assumption) (by rfl) (by first | ((repeat (first | with_reducible apply pick0 | with_reducible apply pick_there)); done) | ((repeat (first | apply pick0 | apply pick_there)); done) | fail) Tryz.underlying39 rfl (by kernel_rfl), _, rfl, ?_, ?_⟩
    · rw [hfin.out]; rfl
    · rw [hfin.out]; exact Sat.sb hS
  have H2 := Lib.hid (H1.out.trans (if_neg hn))
  clear H1
  have Hn := Lib.hid hn
  have hnd : ¬ 1048576 ≤ L1.next := hn
  clear hn
  have hnm := sname_c L1.next hS3
  generalize hnn : L1.next = n at *
  have Hnn := Lib.hid hnn
  clear hnn
  go_wp2_with fail
  refine hnm.mono ?_
  rintro e w4 ⟨v, rfl, rfl, hS4⟩
  clear hnm hS3 hnd
  generalize Seg.name n = nm at *
  obtain ⟨lv, hR⟩ := LogRep.open2 (Sat.pk (by assumption))
  have e0 : w4.cell? ⟨p, 0, none⟩ = some (ptr m) := hR.cellP (by first | ((repeat (first | with_reducible apply pick0 | with_reducible apply pick_there)); done) | ((repeat (first | apply pick0 | apply pick_there)); done) | fail) 0 rfl
  go_wp2_with fail
  refine (create_c HM.out (by omega) (Sat.pk (by assumption)) nm Hnm.out).mono ?_
  rintro e w5 ⟨v, rfl, rfl, hS5⟩
  have HM2 := Lib.hid (HM.out.create nm)
  clear hS4 hR e0
  generalize M1.create nm = C at *
  obtain ⟨M2, e2⟩ := C
  by_cases he : e2 = 0
  rotate_left
  · have heb : (e2 == 0) = false := beq_false_of_ne he
    have hfin := Lib.hid (H2.out.trans (if_pos he))
    clear he
    go_wp2_with ((with_reducible apply at_store); refine ⟨?_⟩; refine wl_store (by assumption) (by rfl) (by conv => lhs; whnf) (by first | (simp only [putsAt, Value.cells]; (try go_frame); first | done | rfl) | rfl) (by first | ((repeat (first | with_reducible apply upd0 | with_reducible apply upd_there)); done) | ((repeat (first | apply upd0 | apply upd_there)); done) | fail) (Nat.le_of_ble_eq_true (by rfl)) (by kernel_rfl) (by rfl) ?_; intro wS hS)
    refine ⟨rfl, _, res_cell_tmp rfl (by assumption) (by rfl) (by first | ((repeat (first | with_reducible apply pick0 | with_reducible apply pick_there)); done) | ((repeat (first | apply pick0 | apply pick_there)); done) | fail) Tryz.underlying39 rfl (by kernel_rfl), _, rfl, ?_, ?_⟩
    · rw [hfin.out]; rfl
    · rw [hfin.out]; exact LogRep.shut2 (lv := lv) (Sat.sb hS)
  subst he
  have H3 := Lib.hid (H2.out.trans (if_neg (fun h => h rfl)))
  clear H2
  go_wp2_with fail
  refine wpL_begin [9, 10] (fun w' => w'.cell? ⟨p, 0, none⟩ = some (ptr m)) (by kernel_rfl) ?_
  have hG : w5.drew.cell? ⟨p, 0, none⟩ = some (ptr m) := hS5.drew.cellP (by first | ((repeat (first | with_reducible apply pick0 | with_reducible apply pick_there)); done) | ((repeat (first | apply pick0 | apply pick_there)); done) | fail) 0 rfl
  refine rp 0 (hy := (yl_move (by conv => lhs; whnf))) (h := ?_)
  refine rp 1 (hy := (yl_nil (by conv => lhs; whnf))) (h := ?_)
  refine rp 2 (hy := (yl_field (by conv => lhs; whnf) (by ((intro wq; go_simp); first | done | (with_reducible rfl))))) (h := ?_)
  refine rt 3 (h := ?_)
  refine rp 4 (hy := (yl_move (by conv => lhs; whnf))) (h := ?_)
  refine rp 7 (hy := (yl_move (by conv => lhs; whnf))) (h := ?_)
  refine rg_eff 5 (by conv => lhs; whnf) (by kernel_rfl) (fun K hK => ?_)
  go_simp
  have hB1 := hS5.drew.alloc (.cells #[.int .u8 72, .int .u8 79, .int .u8 65, .int .u8 82, .int .u8 68, .int .u8 83, .int .u8 69, .int .u8 71] 5)
  refine hK _ _ (.inr (.inl (hB1.cellP (by first | ((repeat (first | with_reducible apply pick0 | with_reducible apply pick_there)); done) | ((repeat (first | apply pick0 | apply pick_there)); done) | fail) 0 rfl))) ?_
  clear hK K hG hB1
  refine rg_eff 6 (by conv => lhs; whnf) (by kernel_rfl) (fun K hK => ?_)
  have hcv : (convert 42 42 (.slice (some ⟨w5.heap.size, 0, none⟩) 8 8)).run Tryz.prog ((w5.alloc (.cells #[.int .u8 72, .int .u8 79, .int .u8 65, .int .u8 82, .int .u8 68, .int .u8 83, .int .u8 69, .int .u8 71] 5)).drew) = .ok (.slice (some ⟨w5.heap.size, 0, none⟩) 8 8) ((w5.alloc (.cells #[.int .u8 72, .int .u8 79, .int .u8 65, .int .u8 82, .int .u8 68, .int .u8 83, .int .u8 69, .int .u8 71] 5 (8, 9))).drew) :=
    Lib.run_convert_bytes_const (P := Tryz.prog) w5.drew 42 5 #[.int .u8 72, .int .u8 79, .int .u8 65, .int .u8 82, .int .u8 68, .int .u8 83, .int .u8 69, .int .u8 71] 8 8 Tryz.underlying42 Tryz.underlying5
  have hB := (hS5.alloc (.cells #[.int .u8 72, .int .u8 79, .int .u8 65, .int .u8 82, .int .u8 68, .int .u8 83, .int .u8 69, .int .u8 71] 5 (8, 9))).drew
  go_simp
  refine hK _ _ (.inr (.inl (hB.cellP (by first | ((repeat (first | with_reducible apply pick0 | with_reducible apply pick_there)); done) | ((repeat (first | apply pick0 | apply pick_there)); done) | fail) 0 rfl))) ?_
  clear hK K
  have hrd := Hr.out _ (hB.sb)
  have hold : rdsl 1 (.slice (some ⟨w5.heap.size, 0, none⟩) 8 8) (bys Seg.mag) ((w5.alloc (.cells #[.int .u8 72, .int .u8 79, .int .u8 65, .int .u8 82, .int .u8 68, .int .u8 83, .int .u8 69, .int .u8 71] 5 (8, 9))).drew) := by
    refine ⟨_, 8, 8, rfl, rfl, fun j x hj => ⟨_, rfl, ?_⟩⟩
    rw [add_zero_lit]
    have hjl : j < Seg.mag.length := by
      have := (List.getElem?_eq_some_iff.1 hj).1
      rw [bys_len] at this; exact this
    have hx := (mrow_set (l := Seg.mag) hB hjl 0).1
    unfold bys at hj
    rw [List.getElem?_map, List.getElem?_eq_getElem hjl] at hj
    cases hj
    exact hx
  have hy0 : bys b ≠ [] := by
    intro h
    apply Hb0.out
    unfold bys at h
    exact List.map_eq_nil_iff.1 h
  have h63 : (bys Seg.mag).length + (bys b).length ≤ maxLen := by rw [bys_len, bys_len]; have := Hbl.out; unfold maxLen Seg.mag; simp; omega
  have hby : ((bys Seg.mag).length + (bys b).length) * i.bytes ≤ 140737488355328 := by rw [bys_len, bys_len, hz2]; have := Hbl.out; unfold Seg.mag; simp; omega
  refine rg_eff 8 (by conv => lhs; whnf) (by kernel_rfl) (fun K hK => ?_)
  refine step_append_fresh (w0 := w0) (xs := bys Seg.mag) (b := w5.heap.size) (n := 8) (cap := 8) (by rfl) _ _ _ (by rfl) _ i _ Tryz.underlying42 hi hz0 hz1 (by rfl) rfl (Nat.le_refl _) hold hB.drop (by rfl) (by rfl) hrd hy0 h63 hby ?_
  intro b4 n4 k4 w6 hS6
  clear hcv hrd hold hy0 h63 hby hB
  have hS6 : Sat w0 w6 (bsl (.slice (some ⟨b4, 0, none⟩) n4 k4) (Seg.mag ++ b) :: MedRep m M2 :: pt q (.cells #[.int .i64 0, .int .i64 0, .int .i64 0] 39) :: logPt p m L1 lv :: osl 145 2 lv (segw L1.l) :: F) := by
    have e : bys Seg.mag ++ bys b = bys (Seg.mag ++ b) := by unfold bys; rw [List.map_append]
    rw [e] at hS6
    exact Sat.sb hS6
  refine hK _ _ (.inr (.inl (hS6.cellP (by first | ((repeat (first | with_reducible apply pick0 | with_reducible apply pick_there)); done) | ((repeat (first | apply pick0 | apply pick_there)); done) | fail) 0 rfl))) ?_
  clear hK K hS5
  refine rg_eff 9 (by conv => lhs; whnf) (by kernel_rfl) (fun K hK => ?_)
  (refine eff_call3 (by kernel_rfl) (by conv => lhs; whnf) (by conv => lhs; whnf) (by conv => lhs; whnf) ?_)
  refine (append_c HM2.out (by omega) (Sat.pk (by assumption)) nm (Seg.mag ++ b) (by first | assumption | exact Ro.op (Ro.bsl _ _) | exact Ro.os (by assumption))).mono ?_
  rintro e w7 ⟨v, rfl, rfl, hS7⟩
  refine hK _ _ (.inl rfl) ?_
  clear hK K
  refine rp 10 (hy := (yl_assign (by conv => lhs; whnf))) (h := ?_)
  refine wpL_done (by kernel_rfl) ?_
  clear hS6
  have HM3 := Lib.hid (HM2.out.append nm (Seg.mag ++ b))
  generalize M2.append nm (Seg.mag ++ b) = D at *
  obtain ⟨M3, e3⟩ := D
  by_cases he : e3 = 0
  · subst he
    have hfin := Lib.hid (H3.out.trans (if_pos rfl))
    have c2 : w7.cell? ⟨p, 2, none⟩ = some lv := hS7.cellP (by first | ((repeat (first | with_reducible apply pick0 | with_reducible apply pick_there)); done) | ((repeat (first | apply pick0 | apply pick_there)); done) | fail) 2 rfl
    have hwl : IntKind.i64.wrap (8 + (b.length : Int)) = 8 + (b.length : Int) := by rw [IntKind.wrap_i64]; have := Hbl.out; omega
    obtain ⟨ii, hii, hy0, hy1, hy2⟩ := info_parts infoSeg
    have h7 := hS7.alloc (.cells #[.int .i64 n, .int .i64 (8 + (b.length : Int))] 145)
    have hoc : ∀ u ∈ (#[.int .i64 n, .int .i64 (8 + (b.length : Int))] : Array Value).toList, u.oneCell' = true := by
      intro u hu
      simp only [List.mem_cons, List.not_mem_nil, or_false] at hu
      rcases hu with rfl | rfl <;> rfl
    have h63 : (segw L1.l).length + 2 ≤ maxLen := by rw [segw_len]; have := hln.out; unfold maxLen; omega
    have hby : ((segw L1.l).length + 2) * ii.bytes ≤ 140737488355328 := by rw [segw_len, hy2]; have := hln.out; omega
    have h8 : Sat w0 _ (osl 145 2 lv (segw L1.l) :: logPt p m L1 lv :: pt q (.cells #[.int .i64 0, .int .i64 0, .int .i64 0] 39) :: MedRep m M3 :: F) := h7.sb
    have hwf : IntKind.i64.wrap (L1.fresh + 1) = L1.fresh + 1 := by rw [IntKind.wrap_i64]; have := hfr.out; have := hln.out; omega
    go_wp2_with (first
      | (at_builtin; refine wpList_append (w0 := w0) (by rfl) _ _ _ (by rfl) _ ii _ Tryz.underlying138 hii hy0 hy1 (by rfl) (by omega) (by rfl) (by rfl) hoc h8 (rdsl_new _ _ _ 2 1 1 (by rfl)) h63 hby ?_; intro v2 w8 hS8 hne; obtain ⟨ab, an, ac, rfl⟩ := hne (by simp); clear h8 h7 hS7 c2 hoc h63 hby hne)
      | ((with_reducible apply at_load); refine ⟨?_⟩; refine wl_load1 (by assumption) (by rfl) (by first | ((repeat (first | with_reducible apply pick0 | with_reducible apply pick_there)); done) | ((repeat (first | apply pick0 | apply pick_there)); done) | fail) (Nat.le_of_ble_eq_true (by rfl)) (by conv => lhs; whnf) (by kernel_rfl) ?_) | ((with_reducible apply at_store); refine ⟨?_⟩; refine wl_store (by assumption) (by rfl) (by conv => lhs; whnf) (by first | (simp only [putsAt, Value.cells]; (try go_frame); first | done | rfl) | rfl) (by first | ((repeat (first | with_reducible apply upd0 | with_reducible apply upd_there)); done) | ((repeat (first | apply upd0 | apply upd_there)); done) | fail) (Nat.le_of_ble_eq_true (by rfl)) (by kernel_rfl) (by rfl) ?_; intro wS hS))
    refine ⟨rfl, _, res_cell_tmp rfl (by assumption) (by rfl) (by first | ((repeat (first | with_reducible apply pick0 | with_reducible apply pick_there)); done) | ((repeat (first | apply pick0 | apply pick_there)); done) | fail) Tryz.underlying39 rfl (by kernel_rfl), _, rfl, ?_, ?_⟩
    · rw [hfin.out]; rfl
    · rw [hfin.out]
      have e : segw L1.l ++ [.int .i64 n, .int .i64 (8 + (b.length : Int))] = segw (L1.l ++ [(n, 8 + (b.length : Int))]) := segw_snoc _ _ _
      rw [e] at hS
      exact LogRep.shut2 (lv := .slice (some ⟨ab, 0, none⟩) an ac) (Sat.sb hS)
  have H4 := Lib.hid (H3.out.trans (if_neg he))
  have heb : (e3 == 0) = false := beq_false_of_ne he
  clear he H3
  by_cases he : e3 = 11
  · subst he
    have H5 := Lib.hid (H4.out.trans (if_pos rfl))
    have e0 : w7.cell? ⟨p, 0, none⟩ = some (ptr m) := hS7.cellP (by first | ((repeat (first | with_reducible apply pick0 | with_reducible apply pick_there)); done) | ((repeat (first | apply pick0 | apply pick_there)); done) | fail) 0 rfl
    go_wp2_with fail
    refine (remove_c HM3.out (by omega) (Sat.pk (by assumption)) nm).mono ?_
    rintro e w8 ⟨v, rfl, rfl, hS8⟩
    clear hS7 e0
    generalize M3.remove nm = E at *
    obtain ⟨M4, e4⟩ := E
    by_cases he : e4 = 0
    · subst he
      go_wp2_with ((with_reducible apply at_store); refine ⟨?_⟩; refine wl_store (by assumption) (by rfl) (by conv => lhs; whnf) (by first | (simp only [putsAt, Value.cells]; (try go_frame); first | done | rfl) | rfl) (by first | ((repeat (first | with_reducible apply upd0 | with_reducible apply upd_there)); done) | ((repeat (first | apply upd0 | apply upd_there)); done) | fail) (Nat.le_of_ble_eq_true (by rfl)) (by kernel_rfl) (by rfl) ?_; intro wS hS)
      refine ⟨rfl, _, res_cell_tmp rfl (by assumption) (by rfl) (by first | ((repeat (first | with_reducible apply pick0 | with_reducible apply pick_there)); done) | ((repeat (first | apply pick0 | apply pick_there)); done) | fail) Tryz.underlying39 rfl (by kernel_rfl), _, rfl, ?_, ?_⟩
      · rw [H5.out]; rfl
      · rw [H5.out]; exact LogRep.shut2 (lv := lv) (Sat.sb hS)
    · have heb : (e4 == 0) = false := beq_false_of_ne he
      have H6 := Lib.hid (H5.out.trans (by rw [if_neg he]))
      clear he
      go_wp2_with ((with_reducible apply at_store); refine ⟨?_⟩; refine wl_store (by assumption) (by rfl) (by conv => lhs; whnf) (by first | (simp only [putsAt, Value.cells]; (try go_frame); first | done | rfl) | rfl) (by first | ((repeat (first | with_reducible apply upd0 | with_reducible apply upd_there)); done) | ((repeat (first | apply upd0 | apply upd_there)); done) | fail) (Nat.le_of_ble_eq_true (by rfl)) (by kernel_rfl) (by rfl) ?_; intro wS hS)
      refine ⟨rfl, _, res_cell_tmp rfl (by assumption) (by rfl) (by first | ((repeat (first | with_reducible apply pick0 | with_reducible apply pick_there)); done) | ((repeat (first | apply pick0 | apply pick_there)); done) | fail) Tryz.underlying39 rfl (by kernel_rfl), _, rfl, ?_, ?_⟩
      · rw [H6.out]; rfl
      · rw [H6.out]; exact LogRep.shut2 (lv := lv) (Sat.sb hS)
  · have hfin := Lib.hid (H4.out.trans (if_neg he))
    have heb2 : (e3 == 11) = false := beq_false_of_ne he
    clear he H4
    go_wp2_with ((with_reducible apply at_store); refine ⟨?_⟩; refine wl_store (by assumption) (by rfl) (by conv => lhs; whnf) (by first | (simp only [putsAt, Value.cells]; (try go_frame); first | done | rfl) | rfl) (by first | ((repeat (first | with_reducible apply upd0 | with_reducible apply upd_there)); done) | ((repeat (first | apply upd0 | apply upd_there)); done) | fail) (Nat.le_of_ble_eq_true (by rfl)) (by kernel_rfl) (by rfl) ?_; intro wS hS)
    refine ⟨rfl, _, res_cell_tmp rfl (by assumption) (by rfl) (by first | ((repeat (first | with_reducible apply pick0 | with_reducible apply pick_there)); done) | ((repeat (first | apply pick0 | apply pick_there)); done) | fail) Tryz.underlying39 rfl (by kernel_rfl), _, rfl, ?_, ?_⟩
    · rw [hfin.out]; rfl
    · rw [hfin.out]; exact LogRep.shut2 (lv := lv) (Sat.sb hS)
end
end Go.Proofs.YtmjldaedhmipkaaGreatDoor
