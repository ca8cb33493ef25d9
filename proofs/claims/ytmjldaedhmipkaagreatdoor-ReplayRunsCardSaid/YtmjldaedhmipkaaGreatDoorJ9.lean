import Derived.Test.YtmjldaedhmipkaaGreatDoorJ8
set_option linter.unusedVariables false
namespace Go.Proofs.YtmjldaedhmipkaaGreatDoor
open Go Go.Sl Go.Med Go.MapKept Go.RowKit
section
variable {w0 w : World} {F R : List HProp} {v bv dv x lv : Value}
set_option maxRecDepth 20000 in
set_option maxHeartbeats 8000000 in
theorem rread0_c (l : Bs) (hr : Ro w0 F (rdsl 1 bv (bys l))) (hcap : capOk bv) (hl : l.length ≤ 1099511627776) (h9 : ¬ l.length < 9) (ht : (l.getD 8 0).toNat = 0) (hn : 41 ≤ Frm.num ((l.drop 4).take 4) ∧ Frm.num ((l.drop 4).take 4) ≤ 16425) (h : Sat w0 w F) :
    Calls Tryz.prog 100 #[bv] w (Rtn fun v w' => ∃ da dc, v = .tuple #[.agg (entA (Frm.read l).1 (.slice da (Frm.read l).1.data.length dc)), .int .i64 (Frm.read l).2.1, errno (Frm.read l).2.2] ∧ Sat w0 w' (bsl (.slice da (Frm.read l).1.data.length dc) (Frm.read l).1.data :: F)) := by
  obtain ⟨ba, bn, bc, rfl, hbn, hbc⟩ := hcap
  have hln : bn = l.length := by
    obtain ⟨_, _, _, he, hl', _⟩ := hr w h
    cases he
    rw [bys_len, Nat.mul_one] at hl'; exact hl'.symm
  subst hln
  obtain ⟨bk, off, rfl, hcell⟩ : ∃ bk off, ba = some ⟨bk, off, none⟩ ∧ True := by
    have hx : (bys l)[0]? = some (.int .u8 (l[0]'(by omega)).toNat) := by
      unfold bys; rw [List.getElem?_map, List.getElem?_eq_getElem (by omega)]; rfl
    obtain ⟨bk, off, hb, _⟩ := rdsl_cells (hr w h) hx
    exact ⟨bk, off, hb, trivial⟩
  clear hcell
  have hrd := hr w h
  have Hsub := Lib.hid (show ∀ (i j : Nat), i ≤ j → j ≤ l.length → ∀ w, Sat w0 w F → rdsl 1 (.slice (some ⟨bk, off + i, none⟩) (j - i) (bc - i)) (bys ((l.take j).drop i)) w from fun i j h1 h2 w hw => rdsl_sub (hr w hw) i j (bc - i) h1 h2)
  have Hnum := Lib.hid (show ∀ w, Sat w0 w F → Calls Tryz.prog 145 #[.slice (some ⟨bk, off + 4, none⟩) 4 (bc - 4)] w (Rtn fun v w' => v = .tuple #[.int .u64 (Frm.num ((l.drop 4).take 4) : Nat), .bool true] ∧ w = w') from fun w hw => rget_c ((l.drop 4).take 4) (by rw [List.length_take, List.length_drop]; omega) (by rw [List.length_take]; omega) (by
    have := Hsub.out 4 8 (by omega) (by omega) w hw
    rw [List.drop_take] at this
    exact this))
  have Hnum0 := Lib.hid (show ∀ w, Sat w0 w F → Calls Tryz.prog 145 #[.slice (some ⟨bk, off, none⟩) 4 bc] w (Rtn fun v w' => v = .tuple #[.int .u64 (Frm.num (l.take 4) : Nat), .bool true] ∧ w = w') from fun w hw => rget_c (l.take 4) (by rw [List.length_take]; omega) (by rw [List.length_take]; omega) (bsl_of_rd (hr w hw) (by omega)))
  have Hread := Lib.hid (show Frm.read l = if Frm.fits (l.getD 8 0) (Frm.num ((l.drop 4).take 4)) = false then (Frm.zeroE, 0, 4)
    else if l.length < Frm.num ((l.drop 4).take 4) then (Frm.zeroE, 0, 3)
    else if Frm.crc ((l.take (Frm.num ((l.drop 4).take 4))).drop 4) ≠ Frm.num (l.take 4) then (Frm.zeroE, 0, 13)
    else if 41 ≤ Frm.num ((l.drop 4).take 4) then (⟨(l.getD 8 0).toNat, (l.drop 9).take 32, (l.take (Frm.num ((l.drop 4).take 4))).drop 41⟩, Frm.num ((l.drop 4).take 4), 0)
    else (⟨(l.getD 8 0).toNat, Frm.zero32, []⟩, Frm.num ((l.drop 4).take 4), 0) by unfold Frm.read; rw [if_neg h9])
  have hN : Frm.num ((l.drop 4).take 4) < 4294967296 := by
    have := Frm.num_lt ((l.drop 4).take 4)
    rw [List.length_take, List.length_drop] at this
    have h4 : min 4 (l.length - 4) = 4 := by omega
    rw [h4] at this
    omega
  generalize hNN : Frm.num ((l.drop 4).take 4) = N at *
  have hc8 : ∀ w, Sat w0 w F → w.cell? ⟨bk, off + 8, none⟩ = some (.int .u8 (l.getD 8 0).toNat) := fun w hw => by
    have hx : (bys l)[8]? = some (.int .u8 (l.getD 8 0).toNat) := by
      unfold bys; rw [List.getElem?_map, List.getD_eq_getElem?_getD, List.getElem?_eq_getElem (by omega)]; rfl
    obtain ⟨bk', off', hb, hc⟩ := rdsl_cells (hr w hw) hx
    cases hb
    exact hc _ _ hx
  have Hc8 := Lib.hid hc8; have Hr := Lib.hid hr; have Hl := Lib.hid hl
  have c1 : ¬ (l.length : Int) < 9 := by omega
  have c2 : ¬ bc = 4 := by omega
  have c4 : (l.length : Int) ≤ (bc : Int) := by omega
  have c4b : (8 : Int) ≤ (bc : Int) := by omega
  have c5 : (8 : Int) < (l.length : Int) := by omega
  have Hbn := Lib.hid (show l.length ≤ bc ∧ bc ≤ 9223372036854775807 ∧ 9 ≤ l.length ∧ N < 4294967296 from ⟨hbn, hbc, by omega, hN⟩)
  have hcv : IntKind.i64.wrap (N : Int) = (N : Int) := by rw [IntKind.wrap_i64]; omega
  have hcv2 : wrap64 (N : Int) = (N : Int) := by rw [← IntWalk.i64_left]; exact hcv
  clear hrd hNN hc8 hr hl h9 hbn hbc hN
  generalize l.getD 8 0 = tg at *
  have hft : Frm.fits tg N = true := by
    have htu : tg = 0 := by apply UInt8.toNat_inj.1; rw [ht]; rfl
    subst htu
    unfold Frm.fits
    rw [if_pos rfl]; simp; omega
  have hN9 : 9 ≤ N := by omega
  have d1 : decide ((N : Int) < 41) = false := decide_eq_false (by omega)
  have d1b : ¬ N < 41 := by omega
  have d2 : decide (16425 < (N : Int)) = false := decide_eq_false (by omega)
  have d2b : ¬ 16425 < N := by omega
  have h41 : 41 ≤ N := hn.1
  have hN16 : N ≤ 16425 := hn.2
  clear hn
  have Hf := Lib.hid (Hread.out.trans (if_neg (by rw [hft]; decide)))
  clear hft Hread
  have htg := tg.toNat_lt
  have hct : IntKind.i64.wrap (tg.toNat : Int) = (tg.toNat : Int) := by rw [IntKind.wrap_i64]; omega
  have hct2 : wrap64 (tg.toNat : Int) = (tg.toNat : Int) := by rw [← IntWalk.i64_left]; exact hct
  have htn := ht
  clear ht
  generalize tg.toNat = tn at *
  subst htn
  go_enter Tryz.func100, Tryz.ntmps100
  go_wp2_with ((with_reducible apply at_allocE); refine ⟨?_⟩; refine wl_allocE (by assumption) ?_; intro bR wR hE)
  refine (Hnum.out _ hE.drop).mono ?_
  rintro ee w2 ⟨v, rfl, rfl, rfl⟩
  have e8 := Hc8.out _ hE.drop
  by_cases hlN : l.length < N
  · have Hf2 := Lib.hid (Hf.out.trans (if_pos hlN))
    have c6 : (l.length : Int) < (N : Int) := by omega
    have c6b : l.length < N := hlN
    clear hlN
    go_wp2_with (first | ((with_reducible apply at_buildZ); refine ⟨?_⟩; refine wl_buildZ ?_) | ((with_reducible apply at_storeE); refine ⟨?_⟩; first | (refine wl_storeE (by assumption) (by rfl) (by rfl) (by first | rfl | assumption | exact Hid.out (by assumption)) upD (by first | assumption | exact entA_size _ _ rfl | exact entA_size _ _ (by assumption) | exact entA_size _ _ (Hid.out (by assumption))) ?_; intro wS hS) | (refine wl_storeE (e := Frm.zeroE) (da := none) (dn := 0) (dc := 0) (by assumption) (by rfl) (by rfl) rfl upD (by first | assumption | exact entA_size _ _ rfl | exact entA_size _ _ (by assumption) | exact entA_size _ _ (Hid.out (by assumption))) ?_; intro wS hS)))
    rw [Hf2.out]
    refine ⟨rfl, _, res_entE3 rfl (by assumption) (by rfl) pkD rfl, _, rfl, none, 0, rfl, Sat.osl_nil.2 (Sat.sb hS)⟩
  have Hf2 := Lib.hid (Hf.out.trans (if_neg hlN))
  have c6 : ¬ (l.length : Int) < (N : Int) := by omega
  have c6b : ¬ l.length < N := hlN
  have c8 : (N : Int) ≤ (bc : Int) := by omega
  have c8b : (4 : Int) ≤ (bc : Int) := by omega
  have HlN := Lib.hid (show N ≤ l.length ∧ 9 ≤ N by omega)
  have c7 : (4 : Int) ≤ (N : Int) := by omega
  clear hlN Hf
  go_wp2_with fail
  refine (Hnum0.out _ hE.drop).mono ?_
  rintro ee w2 ⟨v, rfl, rfl, rfl⟩
  have hA32 := Frm.crc_lt ((l.take N).drop 4)
  have hsum := rsum_c ((l.take N).drop 4) (Hsub.out 4 N (by have := HlN.out; omega) HlN.out.1 _ hE.drop) (by rw [List.length_drop, List.length_take]; have := Hl.out; omega)
  go_wp2_with fail
  refine hsum.mono ?_
  clear hsum
  rintro ee w2 ⟨v, rfl, rfl, rfl⟩
  generalize Frm.crc ((l.take N).drop 4) = A at *
  generalize Frm.num (l.take 4) = B at *
  have hAc : (A : Int) % 18446744073709551616 = (A : Int) := by omega
  have hAd : IntKind.u64.wrap (A : Int) = (A : Int) := hAc
  clear hA32
  by_cases hAB : A = B
  rotate_left
  · have Hf3 := Lib.hid (Hf2.out.trans (if_pos hAB))
    have c9 : ((A : Int) == (B : Int)) = false := by rw [beq_eq_false_iff_ne]; omega
    have c9b : ¬ A = B := hAB
    clear hAB
    go_wp2_with (first | ((with_reducible apply at_buildZ); refine ⟨?_⟩; refine wl_buildZ ?_) | ((with_reducible apply at_storeE); refine ⟨?_⟩; first | (refine wl_storeE (by assumption) (by rfl) (by rfl) (by first | rfl | assumption | exact Hid.out (by assumption)) upD (by first | assumption | exact entA_size _ _ rfl | exact entA_size _ _ (by assumption) | exact entA_size _ _ (Hid.out (by assumption))) ?_; intro wS hS) | (refine wl_storeE (e := Frm.zeroE) (da := none) (dn := 0) (dc := 0) (by assumption) (by rfl) (by rfl) rfl upD (by first | assumption | exact entA_size _ _ rfl | exact entA_size _ _ (by assumption) | exact entA_size _ _ (Hid.out (by assumption))) ?_; intro wS hS)))
    rw [Hf3.out]
    refine ⟨rfl, _, res_entE3 rfl (by assumption) (by rfl) pkD rfl, _, rfl, none, 0, rfl, Sat.osl_nil.2 (Sat.sb hS)⟩
  subst hAB
  have Hf3 := Lib.hid (Hf2.out.trans (if_neg (fun h => h rfl)))
  clear Hf2
  have Hf4 := Lib.hid (Hf3.out.trans (if_pos h41))
  have c9 : (41 : Int) ≤ (N : Int) := by omega
  have c11 : (41 : Int) ≤ (bc : Int) := by omega
  obtain ⟨ad, had, hsl⟩ : ∃ ad : Addr, (41 < N → ad = ⟨bk, off + 41, none⟩) ∧ ∀ w, (Instr.sliceAt 42 (.slice (some ⟨bk, off, none⟩) l.length bc) (some (.int .i64 41)) (some (.int .i64 N)) none).run Tryz.prog w = .ok (.slice (some ad) (N - 41) (bc - 41)) w := by
    by_cases hce : bc = 41
    · refine ⟨⟨bk, off, none⟩, fun hh => by have := HlN.out; have := Hbn.out; omega, fun w => ?_⟩
      have c12 : (N : Int) ≤ 41 := by omega
      have c13 : ¬ (41 : Int) < (N : Int) := by omega
      go_simp
    · refine ⟨⟨bk, off + 41, none⟩, fun _ => rfl, fun w => ?_⟩
      go_simp
  have Had := Lib.hid had
  have Hdat := Lib.hid (show ∀ w, Sat w0 w F → rdsl 1 (.slice (some ad) (N - 41) (bc - 41)) (bys ((l.take N).drop 41)) w from fun w hw => by
    by_cases h2 : 41 < N
    · rw [Had.out h2]; exact Hsub.out 41 N (by omega) HlN.out.1 w hw
    · have : (l.take N).drop 41 = [] := List.drop_of_length_le (by rw [List.length_take]; omega)
      rw [this, show N - 41 = 0 by omega]
      exact ⟨_, 0, _, rfl, rfl, by simp [bys]⟩)
  clear h41 had d1 d1b d2 d2b
  have Hkl := Lib.hid (show ((l.drop 9).take 32).length = 32 by rw [List.length_take, List.length_drop]; have := HlN.out; omega)
  have Hcell := Lib.hid (show ∀ (i : Nat) (c : UInt8), ((l.drop 9).take 32)[i]? = some c → ∀ w, Sat w0 w F → w.cell? ⟨bk, off + (9 + i), none⟩ = some (.int .u8 c.toNat) from fun i c hc w hw => by
    have hi : i < 32 := by have := (List.getElem?_eq_some_iff.1 hc).1; rw [Hkl.out] at this; exact this
    rw [List.getElem?_take_of_lt hi, List.getElem?_drop] at hc
    have hx : (bys l)[9 + i]? = some (.int .u8 c.toNat) := by unfold bys; rw [List.getElem?_map, hc]; rfl
    obtain ⟨b', o', hb, hcc⟩ := rdsl_cells (Hr.out w hw) hx
    cases hb
    exact hcc _ _ hx)
  go_wp2_with (first | ((with_reducible apply at_buildTag); refine ⟨?_⟩; refine wl_buildTag (by rfl) ?_) | ((with_reducible apply at_allocE); refine ⟨?_⟩; refine wl_allocE (by assumption) ?_; intro bE wE hE) | ((with_reducible apply at_storeE); refine ⟨?_⟩; first | (refine wl_storeE (by assumption) (by rfl) (by rfl) (by first | rfl | assumption | exact Hid.out (by assumption)) upD (by first | assumption | exact entA_size _ _ rfl | exact entA_size _ _ (by assumption) | exact entA_size _ _ (Hid.out (by assumption))) ?_; intro wS hS) | (refine wl_storeE (e := Frm.zeroE) (da := none) (dn := 0) (dc := 0) (by assumption) (by rfl) (by rfl) rfl upD (by first | assumption | exact entA_size _ _ rfl | exact entA_size _ _ (by assumption) | exact entA_size _ _ (Hid.out (by assumption))) ?_; intro wS hS)) | ((with_reducible apply at_loadE); refine ⟨?_⟩; refine wl_loadE (by assumption) (by rfl) pkD (by first | rfl | assumption | exact Hid.out (by assumption)) ?_))
  have hS0 := hS
  clear hS hE e8
  obtain ⟨kk, hkk⟩ : ∃ kk, kk = (l.drop 9).take 32 := ⟨_, rfl⟩
  rw [← hkk] at Hf4 Hkl Hcell
  clear hkk
  go_loopg [12] 32 (fun g iq wr => ∃ i : Nat, g = 32 - i ∧ i ≤ 32 ∧ iq = .int .i64 i ∧ Sat w0 wr (pt bE (.cells (entA ⟨0, keyTo kk i, []⟩ (.slice none 0 0)) 44 (0,0)) :: pt bR (.cells (entA Frm.zeroE (.slice none 0 0)) 44 (0,0)) :: F))
  case atStart => exact ⟨0, rfl, by decide, rfl, hS0⟩
  case round =>
    obtain ⟨i, rfl, hi, rfl, hS1⟩ := hrel
    clear hS0
    by_cases hlt : i < 32
    · have e1 : (i : Int) < 32 := by omega
      have hwi : IntKind.i64.wrap ((i : Int) + 1) = (i : Int) + 1 := IntWalk.i64_in _ (by omega)
      have hw9 : IntKind.i64.wrap (9 + (i : Int)) = ((9 + i : Nat) : Int) := by rw [show (9 : Int) + (i : Int) = ((9 + i : Nat) : Int) by omega]; exact IntWalk.i64_in _ (by omega)
      have hln : ((9 + i : Nat) : Int) < (l.length : Int) := by have := HlN.out; omega
      obtain ⟨cc, hcc⟩ : ∃ cc, kk[i]? = some cc := ⟨_, List.getElem?_eq_getElem (by rw [Hkl.out]; exact hlt)⟩
      have ec := Hcell.out i cc hcc _ hS1.drop.drop
      have hset := ent_setkey ⟨0, keyTo kk i, []⟩ (.slice none 0 0) i cc (by show i < (keyTo kk i).length; rw [keyTo_len Hkl.out hi]; exact hlt)
      simp only [keyTo_succ Hkl.out hlt hcc] at hset
      have Hset := Lib.hid hset; have Hlt := Lib.hid hlt
      have hfit : 1 + i + 1 ≤ (entA ⟨0, keyTo kk i, []⟩ (.slice none 0 0)).size := by rw [entA_size _ _ (keyTo_len Hkl.out hi)]; omega
      have Hfit := Lib.hid hfit
      clear hset hcc hlt hfit
      generalize h9i : 9 + i = q at *
      go_wp2_with ((with_reducible apply at_store); refine ⟨?_⟩; refine wl_store (b := bE) (o := 1 + i) (v := .int .u8 cc.toNat) hS1 (by rfl) evD Hset.out upd0 Hfit.out (by kernel_rfl) (by rfl) ?_; intro wT hT)
      go_roundg (32 - (i + 1))
      case measure => have := Hlt.out; omega
      case rel => exact ⟨i + 1, rfl, Nat.succ_le_of_lt Hlt.out, by first | rfl | go_num, hT⟩
    · obtain rfl : i = 32 := by omega
      have e1 : ¬ ((32 : Nat) : Int) < 32 := by decide
      rw [keyTo_end Hkl.out] at hS1
      clear hlt hi
      have hkl := Hkl.out
      go_wp2_with ((with_reducible apply at_slice2); refine ⟨?_⟩; refine wl_slice2 (by rfl) (by rfl) (by rfl) hsl ?_)
      refine (copy_c hS1 _ (Hdat.out _ hS1.drop.drop) (by rw [List.length_drop, List.length_take]; have := Hl.out; omega)).mono ?_
      rintro ee w3 ⟨v, rfl, hS3, ca, cn, cc, rfl⟩
      have hcn : cn = ((l.take N).drop 41).length := by
        obtain ⟨_, _, _, he, hl', _⟩ := Sat.rd hS3
        cases he
        rw [bys_len, Nat.mul_one] at hl'; exact hl'.symm
      subst hcn
      generalize (l.take N).drop 41 = data at *
      clear hS1
      go_wp2_with (first
        | ((with_reducible apply at_store); refine ⟨?_⟩; refine wl_storeD (e := ⟨0, kk, []⟩) (data := data) hS3 (by rfl) (by rfl) hkl upD ?_; intro wD hD)
        | ((with_reducible apply at_loadE); refine ⟨?_⟩; refine wl_loadE (by assumption) (by rfl) pkD (by first | rfl | assumption | exact Hid.out (by assumption)) ?_) | ((with_reducible apply at_storeE); refine ⟨?_⟩; first | (refine wl_storeE (by assumption) (by rfl) (by rfl) (by first | rfl | assumption | exact Hid.out (by assumption)) upD (by first | assumption | exact entA_size _ _ rfl | exact entA_size _ _ (by assumption) | exact entA_size _ _ (Hid.out (by assumption))) ?_; intro wS hS) | (refine wl_storeE (e := Frm.zeroE) (da := none) (dn := 0) (dc := 0) (by assumption) (by rfl) (by rfl) rfl upD (by first | assumption | exact entA_size _ _ rfl | exact entA_size _ _ (by assumption) | exact entA_size _ _ (Hid.out (by assumption))) ?_; intro wS hS)))
      rw [Hf4.out]
      simp only
      refine ⟨rfl, _, res_entE3 rfl (by assumption) (by rfl) pkD hkl, _, rfl, ca, cc, rfl, Sat.sb hS⟩
end
section
variable {w0 w : World} {F R : List HProp} {v bv dv x lv : Value}
set_option maxRecDepth 20000 in
set_option maxHeartbeats 8000000 in
theorem rread2_c (l : Bs) (hr : Ro w0 F (rdsl 1 bv (bys l))) (hcap : capOk bv) (hl : l.length ≤ 1099511627776) (h9 : ¬ l.length < 9) (ht : (l.getD 8 0).toNat = 2) (hn : Frm.num ((l.drop 4).take 4) = 9) (h : Sat w0 w F) :
    Calls Tryz.prog 100 #[bv] w (Rtn fun v w' => ∃ da dc, v = .tuple #[.agg (entA (Frm.read l).1 (.slice da (Frm.read l).1.data.length dc)), .int .i64 (Frm.read l).2.1, errno (Frm.read l).2.2] ∧ Sat w0 w' (bsl (.slice da (Frm.read l).1.data.length dc) (Frm.read l).1.data :: F)) := by
  obtain ⟨ba, bn, bc, rfl, hbn, hbc⟩ := hcap
  have hln : bn = l.length := by
    obtain ⟨_, _, _, he, hl', _⟩ := hr w h
    cases he
    rw [bys_len, Nat.mul_one] at hl'; exact hl'.symm
  subst hln
  obtain ⟨bk, off, rfl, hcell⟩ : ∃ bk off, ba = some ⟨bk, off, none⟩ ∧ True := by
    have hx : (bys l)[0]? = some (.int .u8 (l[0]'(by omega)).toNat) := by
      unfold bys; rw [List.getElem?_map, List.getElem?_eq_getElem (by omega)]; rfl
    obtain ⟨bk, off, hb, _⟩ := rdsl_cells (hr w h) hx
    exact ⟨bk, off, hb, trivial⟩
  clear hcell
  have hrd := hr w h
  have Hsub := Lib.hid (show ∀ (i j : Nat), i ≤ j → j ≤ l.length → ∀ w, Sat w0 w F → rdsl 1 (.slice (some ⟨bk, off + i, none⟩) (j - i) (bc - i)) (bys ((l.take j).drop i)) w from fun i j h1 h2 w hw => rdsl_sub (hr w hw) i j (bc - i) h1 h2)
  have Hnum := Lib.hid (show ∀ w, Sat w0 w F → Calls Tryz.prog 145 #[.slice (some ⟨bk, off + 4, none⟩) 4 (bc - 4)] w (Rtn fun v w' => v = .tuple #[.int .u64 (Frm.num ((l.drop 4).take 4) : Nat), .bool true] ∧ w = w') from fun w hw => rget_c ((l.drop 4).take 4) (by rw [List.length_take, List.length_drop]; omega) (by rw [List.length_take]; omega) (by
    have := Hsub.out 4 8 (by omega) (by omega) w hw
    rw [List.drop_take] at this
    exact this))
  have Hnum0 := Lib.hid (show ∀ w, Sat w0 w F → Calls Tryz.prog 145 #[.slice (some ⟨bk, off, none⟩) 4 bc] w (Rtn fun v w' => v = .tuple #[.int .u64 (Frm.num (l.take 4) : Nat), .bool true] ∧ w = w') from fun w hw => rget_c (l.take 4) (by rw [List.length_take]; omega) (by rw [List.length_take]; omega) (bsl_of_rd (hr w hw) (by omega)))
  have Hread := Lib.hid (show Frm.read l = if Frm.fits (l.getD 8 0) (Frm.num ((l.drop 4).take 4)) = false then (Frm.zeroE, 0, 4)
    else if l.length < Frm.num ((l.drop 4).take 4) then (Frm.zeroE, 0, 3)
    else if Frm.crc ((l.take (Frm.num ((l.drop 4).take 4))).drop 4) ≠ Frm.num (l.take 4) then (Frm.zeroE, 0, 13)
    else if 41 ≤ Frm.num ((l.drop 4).take 4) then (⟨(l.getD 8 0).toNat, (l.drop 9).take 32, (l.take (Frm.num ((l.drop 4).take 4))).drop 41⟩, Frm.num ((l.drop 4).take 4), 0)
    else (⟨(l.getD 8 0).toNat, Frm.zero32, []⟩, Frm.num ((l.drop 4).take 4), 0) by unfold Frm.read; rw [if_neg h9])
  have hN : Frm.num ((l.drop 4).take 4) < 4294967296 := by
    have := Frm.num_lt ((l.drop 4).take 4)
    rw [List.length_take, List.length_drop] at this
    have h4 : min 4 (l.length - 4) = 4 := by omega
    rw [h4] at this
    omega
  generalize hNN : Frm.num ((l.drop 4).take 4) = N at *
  have hc8 : ∀ w, Sat w0 w F → w.cell? ⟨bk, off + 8, none⟩ = some (.int .u8 (l.getD 8 0).toNat) := fun w hw => by
    have hx : (bys l)[8]? = some (.int .u8 (l.getD 8 0).toNat) := by
      unfold bys; rw [List.getElem?_map, List.getD_eq_getElem?_getD, List.getElem?_eq_getElem (by omega)]; rfl
    obtain ⟨bk', off', hb, hc⟩ := rdsl_cells (hr w hw) hx
    cases hb
    exact hc _ _ hx
  have Hc8 := Lib.hid hc8; have Hr := Lib.hid hr; have Hl := Lib.hid hl
  have c1 : ¬ (l.length : Int) < 9 := by omega
  have c2 : ¬ bc = 4 := by omega
  have c4 : (l.length : Int) ≤ (bc : Int) := by omega
  have c4b : (8 : Int) ≤ (bc : Int) := by omega
  have c5 : (8 : Int) < (l.length : Int) := by omega
  have Hbn := Lib.hid (show l.length ≤ bc ∧ bc ≤ 9223372036854775807 ∧ 9 ≤ l.length ∧ N < 4294967296 from ⟨hbn, hbc, by omega, hN⟩)
  have hcv : IntKind.i64.wrap (N : Int) = (N : Int) := by rw [IntKind.wrap_i64]; omega
  have hcv2 : wrap64 (N : Int) = (N : Int) := by rw [← IntWalk.i64_left]; exact hcv
  clear hrd hNN hc8 hr hl h9 hbn hbc hN
  generalize l.getD 8 0 = tg at *
  have hft : Frm.fits tg N = true := by
    have htu : tg = 2 := by apply UInt8.toNat_inj.1; rw [ht]; rfl
    subst htu
    unfold Frm.fits
    rw [if_neg (by decide), if_neg (by decide), if_pos rfl]; simp [hn]
  have hN9 : 9 ≤ N := by omega
  have h41 : ¬ 41 ≤ N := by omega
  subst hn
  have Hf := Lib.hid (Hread.out.trans (if_neg (by rw [hft]; decide)))
  clear hft Hread
  have htg := tg.toNat_lt
  have hct : IntKind.i64.wrap (tg.toNat : Int) = (tg.toNat : Int) := by rw [IntKind.wrap_i64]; omega
  have hct2 : wrap64 (tg.toNat : Int) = (tg.toNat : Int) := by rw [← IntWalk.i64_left]; exact hct
  have htn := ht
  clear ht
  generalize tg.toNat = tn at *
  subst htn
  go_enter Tryz.func100, Tryz.ntmps100
  go_wp2_with ((with_reducible apply at_allocE); refine ⟨?_⟩; refine wl_allocE (by assumption) ?_; intro bR wR hE)
  refine (Hnum.out _ hE.drop).mono ?_
  rintro ee w2 ⟨v, rfl, rfl, rfl⟩
  have e8 := Hc8.out _ hE.drop
  by_cases hlN : l.length < 9
  · have Hf2 := Lib.hid (Hf.out.trans (if_pos hlN))
    have c6 : (l.length : Int) < (9 : Int) := by omega
    have c6b : l.length < 9 := hlN
    clear hlN
    go_wp2_with (first | ((with_reducible apply at_buildZ); refine ⟨?_⟩; refine wl_buildZ ?_) | ((with_reducible apply at_storeE); refine ⟨?_⟩; first | (refine wl_storeE (by assumption) (by rfl) (by rfl) (by first | rfl | assumption | exact Hid.out (by assumption)) upD (by first | assumption | exact entA_size _ _ rfl | exact entA_size _ _ (by assumption) | exact entA_size _ _ (Hid.out (by assumption))) ?_; intro wS hS) | (refine wl_storeE (e := Frm.zeroE) (da := none) (dn := 0) (dc := 0) (by assumption) (by rfl) (by rfl) rfl upD (by first | assumption | exact entA_size _ _ rfl | exact entA_size _ _ (by assumption) | exact entA_size _ _ (Hid.out (by assumption))) ?_; intro wS hS)))
    rw [Hf2.out]
    refine ⟨rfl, _, res_entE3 rfl (by assumption) (by rfl) pkD rfl, _, rfl, none, 0, rfl, Sat.osl_nil.2 (Sat.sb hS)⟩
  have Hf2 := Lib.hid (Hf.out.trans (if_neg hlN))
  have c6 : ¬ (l.length : Int) < (9 : Int) := by omega
  have c6b : ¬ l.length < 9 := hlN
  have c8 : (9 : Int) ≤ (bc : Int) := by omega
  have c8b : (4 : Int) ≤ (bc : Int) := by omega
  have HlN := Lib.hid (show 9 ≤ l.length ∧ 9 ≤ 9 by omega)
  have c7 : (4 : Int) ≤ (9 : Int) := by omega
  clear hlN Hf
  go_wp2_with fail
  refine (Hnum0.out _ hE.drop).mono ?_
  rintro ee w2 ⟨v, rfl, rfl, rfl⟩
  have hA32 := Frm.crc_lt ((l.take 9).drop 4)
  have hsum := rsum_c ((l.take 9).drop 4) (Hsub.out 4 9 (by have := HlN.out; omega) HlN.out.1 _ hE.drop) (by rw [List.length_drop, List.length_take]; have := Hl.out; omega)
  go_wp2_with fail
  refine hsum.mono ?_
  clear hsum
  rintro ee w2 ⟨v, rfl, rfl, rfl⟩
  generalize Frm.crc ((l.take 9).drop 4) = A at *
  generalize Frm.num (l.take 4) = B at *
  have hAc : (A : Int) % 18446744073709551616 = (A : Int) := by omega
  have hAd : IntKind.u64.wrap (A : Int) = (A : Int) := hAc
  clear hA32
  by_cases hAB : A = B
  rotate_left
  · have Hf3 := Lib.hid (Hf2.out.trans (if_pos hAB))
    have c9 : ((A : Int) == (B : Int)) = false := by rw [beq_eq_false_iff_ne]; omega
    have c9b : ¬ A = B := hAB
    clear hAB
    go_wp2_with (first | ((with_reducible apply at_buildZ); refine ⟨?_⟩; refine wl_buildZ ?_) | ((with_reducible apply at_storeE); refine ⟨?_⟩; first | (refine wl_storeE (by assumption) (by rfl) (by rfl) (by first | rfl | assumption | exact Hid.out (by assumption)) upD (by first | assumption | exact entA_size _ _ rfl | exact entA_size _ _ (by assumption) | exact entA_size _ _ (Hid.out (by assumption))) ?_; intro wS hS) | (refine wl_storeE (e := Frm.zeroE) (da := none) (dn := 0) (dc := 0) (by assumption) (by rfl) (by rfl) rfl upD (by first | assumption | exact entA_size _ _ rfl | exact entA_size _ _ (by assumption) | exact entA_size _ _ (Hid.out (by assumption))) ?_; intro wS hS)))
    rw [Hf3.out]
    refine ⟨rfl, _, res_entE3 rfl (by assumption) (by rfl) pkD rfl, _, rfl, none, 0, rfl, Sat.osl_nil.2 (Sat.sb hS)⟩
  subst hAB
  have Hf3 := Lib.hid (Hf2.out.trans (if_neg (fun h => h rfl)))
  clear Hf2
  have Hf4 := Lib.hid (Hf3.out.trans (if_neg h41))
  clear h41
  go_wp2_with (first | ((with_reducible apply at_buildTag); refine ⟨?_⟩; refine wl_buildTag (by rfl) ?_) | ((with_reducible apply at_allocE); refine ⟨?_⟩; refine wl_allocE (by assumption) ?_; intro bE wE hE) | ((with_reducible apply at_storeE); refine ⟨?_⟩; first | (refine wl_storeE (by assumption) (by rfl) (by rfl) (by first | rfl | assumption | exact Hid.out (by assumption)) upD (by first | assumption | exact entA_size _ _ rfl | exact entA_size _ _ (by assumption) | exact entA_size _ _ (Hid.out (by assumption))) ?_; intro wS hS) | (refine wl_storeE (e := Frm.zeroE) (da := none) (dn := 0) (dc := 0) (by assumption) (by rfl) (by rfl) rfl upD (by first | assumption | exact entA_size _ _ rfl | exact entA_size _ _ (by assumption) | exact entA_size _ _ (Hid.out (by assumption))) ?_; intro wS hS)) | ((with_reducible apply at_loadE); refine ⟨?_⟩; refine wl_loadE (by assumption) (by rfl) pkD (by first | rfl | assumption | exact Hid.out (by assumption)) ?_))
  have hS0 := hS
  clear hS hE e8
  go_loopg [12] 0 (fun g iq wr => iq = .int .i64 0 ∧ Sat w0 wr (pt bE (.cells (entA ⟨2, Frm.zero32, []⟩ (.slice none 0 0)) 44 (0,0)) :: pt bR (.cells (entA Frm.zeroE (.slice none 0 0)) 44 (0,0)) :: F))
  case atStart => exact ⟨rfl, hS0⟩
  case round =>
    obtain ⟨rfl, hS1⟩ := hrel
    clear hS0
    go_wp2_with (first | ((with_reducible apply at_loadE); refine ⟨?_⟩; refine wl_loadE (by assumption) (by rfl) pkD (by first | rfl | assumption | exact Hid.out (by assumption)) ?_) | ((with_reducible apply at_storeE); refine ⟨?_⟩; first | (refine wl_storeE (by assumption) (by rfl) (by rfl) (by first | rfl | assumption | exact Hid.out (by assumption)) upD (by first | assumption | exact entA_size _ _ rfl | exact entA_size _ _ (by assumption) | exact entA_size _ _ (Hid.out (by assumption))) ?_; intro wS hS) | (refine wl_storeE (e := Frm.zeroE) (da := none) (dn := 0) (dc := 0) (by assumption) (by rfl) (by rfl) rfl upD (by first | assumption | exact entA_size _ _ rfl | exact entA_size _ _ (by assumption) | exact entA_size _ _ (Hid.out (by assumption))) ?_; intro wS hS)))
    rw [Hf4.out]
    simp only [List.length_nil]
    refine ⟨rfl, _, res_entE3 rfl (by assumption) (by rfl) pkD rfl, _, rfl, none, 0, rfl, Sat.osl_nil.2 (Sat.sb hS)⟩
end
section
variable {w0 w : World} {F R : List HProp} {v bv dv x lv : Value}
set_option maxRecDepth 20000 in
set_option maxHeartbeats 8000000 in
theorem rread1_c (l : Bs) (hr : Ro w0 F (rdsl 1 bv (bys l))) (hcap : capOk bv) (hl : l.length ≤ 1099511627776) (h9 : ¬ l.length < 9) (ht : (l.getD 8 0).toNat = 1) (hn : Frm.num ((l.drop 4).take 4) = 41) (h : Sat w0 w F) :
    Calls Tryz.prog 100 #[bv] w (Rtn fun v w' => ∃ da dc, v = .tuple #[.agg (entA (Frm.read l).1 (.slice da (Frm.read l).1.data.length dc)), .int .i64 (Frm.read l).2.1, errno (Frm.read l).2.2] ∧ Sat w0 w' (bsl (.slice da (Frm.read l).1.data.length dc) (Frm.read l).1.data :: F)) := by
  obtain ⟨ba, bn, bc, rfl, hbn, hbc⟩ := hcap
  have hln : bn = l.length := by
    obtain ⟨_, _, _, he, hl', _⟩ := hr w h
    cases he
    rw [bys_len, Nat.mul_one] at hl'; exact hl'.symm
  subst hln
  obtain ⟨bk, off, rfl, hcell⟩ : ∃ bk off, ba = some ⟨bk, off, none⟩ ∧ True := by
    have hx : (bys l)[0]? = some (.int .u8 (l[0]'(by omega)).toNat) := by
      unfold bys; rw [List.getElem?_map, List.getElem?_eq_getElem (by omega)]; rfl
    obtain ⟨bk, off, hb, _⟩ := rdsl_cells (hr w h) hx
    exact ⟨bk, off, hb, trivial⟩
  clear hcell
  have hrd := hr w h
  have Hsub := Lib.hid (show ∀ (i j : Nat), i ≤ j → j ≤ l.length → ∀ w, Sat w0 w F → rdsl 1 (.slice (some ⟨bk, off + i, none⟩) (j - i) (bc - i)) (bys ((l.take j).drop i)) w from fun i j h1 h2 w hw => rdsl_sub (hr w hw) i j (bc - i) h1 h2)
  have Hnum := Lib.hid (show ∀ w, Sat w0 w F → Calls Tryz.prog 145 #[.slice (some ⟨bk, off + 4, none⟩) 4 (bc - 4)] w (Rtn fun v w' => v = .tuple #[.int .u64 (Frm.num ((l.drop 4).take 4) : Nat), .bool true] ∧ w = w') from fun w hw => rget_c ((l.drop 4).take 4) (by rw [List.length_take, List.length_drop]; omega) (by rw [List.length_take]; omega) (by
    have := Hsub.out 4 8 (by omega) (by omega) w hw
    rw [List.drop_take] at this
    exact this))
  have Hnum0 := Lib.hid (show ∀ w, Sat w0 w F → Calls Tryz.prog 145 #[.slice (some ⟨bk, off, none⟩) 4 bc] w (Rtn fun v w' => v = .tuple #[.int .u64 (Frm.num (l.take 4) : Nat), .bool true] ∧ w = w') from fun w hw => rget_c (l.take 4) (by rw [List.length_take]; omega) (by rw [List.length_take]; omega) (bsl_of_rd (hr w hw) (by omega)))
  have Hread := Lib.hid (show Frm.read l = if Frm.fits (l.getD 8 0) (Frm.num ((l.drop 4).take 4)) = false then (Frm.zeroE, 0, 4)
    else if l.length < Frm.num ((l.drop 4).take 4) then (Frm.zeroE, 0, 3)
    else if Frm.crc ((l.take (Frm.num ((l.drop 4).take 4))).drop 4) ≠ Frm.num (l.take 4) then (Frm.zeroE, 0, 13)
    else if 41 ≤ Frm.num ((l.drop 4).take 4) then (⟨(l.getD 8 0).toNat, (l.drop 9).take 32, (l.take (Frm.num ((l.drop 4).take 4))).drop 41⟩, Frm.num ((l.drop 4).take 4), 0)
    else (⟨(l.getD 8 0).toNat, Frm.zero32, []⟩, Frm.num ((l.drop 4).take 4), 0) by unfold Frm.read; rw [if_neg h9])
  have hN : Frm.num ((l.drop 4).take 4) < 4294967296 := by
    have := Frm.num_lt ((l.drop 4).take 4)
    rw [List.length_take, List.length_drop] at this
    have h4 : min 4 (l.length - 4) = 4 := by omega
    rw [h4] at this
    omega
  generalize hNN : Frm.num ((l.drop 4).take 4) = N at *
  have hc8 : ∀ w, Sat w0 w F → w.cell? ⟨bk, off + 8, none⟩ = some (.int .u8 (l.getD 8 0).toNat) := fun w hw => by
    have hx : (bys l)[8]? = some (.int .u8 (l.getD 8 0).toNat) := by
      unfold bys; rw [List.getElem?_map, List.getD_eq_getElem?_getD, List.getElem?_eq_getElem (by omega)]; rfl
    obtain ⟨bk', off', hb, hc⟩ := rdsl_cells (hr w hw) hx
    cases hb
    exact hc _ _ hx
  have Hc8 := Lib.hid hc8; have Hr := Lib.hid hr; have Hl := Lib.hid hl
  have c1 : ¬ (l.length : Int) < 9 := by omega
  have c2 : ¬ bc = 4 := by omega
  have c4 : (l.length : Int) ≤ (bc : Int) := by omega
  have c4b : (8 : Int) ≤ (bc : Int) := by omega
  have c5 : (8 : Int) < (l.length : Int) := by omega
  have Hbn := Lib.hid (show l.length ≤ bc ∧ bc ≤ 9223372036854775807 ∧ 9 ≤ l.length ∧ N < 4294967296 from ⟨hbn, hbc, by omega, hN⟩)
  have hcv : IntKind.i64.wrap (N : Int) = (N : Int) := by rw [IntKind.wrap_i64]; omega
  have hcv2 : wrap64 (N : Int) = (N : Int) := by rw [← IntWalk.i64_left]; exact hcv
  clear hrd hNN hc8 hr hl h9 hbn hbc hN
  generalize l.getD 8 0 = tg at *
  have hft : Frm.fits tg N = true := by
    have htu : tg = 1 := by apply UInt8.toNat_inj.1; rw [ht]; rfl
    subst htu
    unfold Frm.fits
    rw [if_neg (by decide), if_pos rfl]; simp [hn]
  have hN9 : 9 ≤ N := by omega
  have h41 : 41 ≤ N := by omega
  subst hn
  have Hf := Lib.hid (Hread.out.trans (if_neg (by rw [hft]; decide)))
  clear hft Hread
  have htg := tg.toNat_lt
  have hct : IntKind.i64.wrap (tg.toNat : Int) = (tg.toNat : Int) := by rw [IntKind.wrap_i64]; omega
  have hct2 : wrap64 (tg.toNat : Int) = (tg.toNat : Int) := by rw [← IntWalk.i64_left]; exact hct
  have htn := ht
  clear ht
  generalize tg.toNat = tn at *
  subst htn
  go_enter Tryz.func100, Tryz.ntmps100
  go_wp2_with ((with_reducible apply at_allocE); refine ⟨?_⟩; refine wl_allocE (by assumption) ?_; intro bR wR hE)
  refine (Hnum.out _ hE.drop).mono ?_
  rintro ee w2 ⟨v, rfl, rfl, rfl⟩
  have e8 := Hc8.out _ hE.drop
  by_cases hlN : l.length < 41
  · have Hf2 := Lib.hid (Hf.out.trans (if_pos hlN))
    have c6 : (l.length : Int) < (41 : Int) := by omega
    have c6b : l.length < 41 := hlN
    clear hlN
    go_wp2_with (first | ((with_reducible apply at_buildZ); refine ⟨?_⟩; refine wl_buildZ ?_) | ((with_reducible apply at_storeE); refine ⟨?_⟩; first | (refine wl_storeE (by assumption) (by rfl) (by rfl) (by first | rfl | assumption | exact Hid.out (by assumption)) upD (by first | assumption | exact entA_size _ _ rfl | exact entA_size _ _ (by assumption) | exact entA_size _ _ (Hid.out (by assumption))) ?_; intro wS hS) | (refine wl_storeE (e := Frm.zeroE) (da := none) (dn := 0) (dc := 0) (by assumption) (by rfl) (by rfl) rfl upD (by first | assumption | exact entA_size _ _ rfl | exact entA_size _ _ (by assumption) | exact entA_size _ _ (Hid.out (by assumption))) ?_; intro wS hS)))
    rw [Hf2.out]
    refine ⟨rfl, _, res_entE3 rfl (by assumption) (by rfl) pkD rfl, _, rfl, none, 0, rfl, Sat.osl_nil.2 (Sat.sb hS)⟩
  have Hf2 := Lib.hid (Hf.out.trans (if_neg hlN))
  have c6 : ¬ (l.length : Int) < (41 : Int) := by omega
  have c6b : ¬ l.length < 41 := hlN
  have c8 : (41 : Int) ≤ (bc : Int) := by omega
  have c8b : (4 : Int) ≤ (bc : Int) := by omega
  have HlN := Lib.hid (show 41 ≤ l.length ∧ 9 ≤ 41 by omega)
  have c7 : (4 : Int) ≤ (41 : Int) := by omega
  clear hlN Hf
  go_wp2_with fail
  refine (Hnum0.out _ hE.drop).mono ?_
  rintro ee w2 ⟨v, rfl, rfl, rfl⟩
  have hA32 := Frm.crc_lt ((l.take 41).drop 4)
  have hsum := rsum_c ((l.take 41).drop 4) (Hsub.out 4 41 (by have := HlN.out; omega) HlN.out.1 _ hE.drop) (by rw [List.length_drop, List.length_take]; have := Hl.out; omega)
  go_wp2_with fail
  refine hsum.mono ?_
  clear hsum
  rintro ee w2 ⟨v, rfl, rfl, rfl⟩
  generalize Frm.crc ((l.take 41).drop 4) = A at *
  generalize Frm.num (l.take 4) = B at *
  have hAc : (A : Int) % 18446744073709551616 = (A : Int) := by omega
  have hAd : IntKind.u64.wrap (A : Int) = (A : Int) := hAc
  clear hA32
  by_cases hAB : A = B
  rotate_left
  · have Hf3 := Lib.hid (Hf2.out.trans (if_pos hAB))
    have c9 : ((A : Int) == (B : Int)) = false := by rw [beq_eq_false_iff_ne]; omega
    have c9b : ¬ A = B := hAB
    clear hAB
    go_wp2_with (first | ((with_reducible apply at_buildZ); refine ⟨?_⟩; refine wl_buildZ ?_) | ((with_reducible apply at_storeE); refine ⟨?_⟩; first | (refine wl_storeE (by assumption) (by rfl) (by rfl) (by first | rfl | assumption | exact Hid.out (by assumption)) upD (by first | assumption | exact entA_size _ _ rfl | exact entA_size _ _ (by assumption) | exact entA_size _ _ (Hid.out (by assumption))) ?_; intro wS hS) | (refine wl_storeE (e := Frm.zeroE) (da := none) (dn := 0) (dc := 0) (by assumption) (by rfl) (by rfl) rfl upD (by first | assumption | exact entA_size _ _ rfl | exact entA_size _ _ (by assumption) | exact entA_size _ _ (Hid.out (by assumption))) ?_; intro wS hS)))
    rw [Hf3.out]
    refine ⟨rfl, _, res_entE3 rfl (by assumption) (by rfl) pkD rfl, _, rfl, none, 0, rfl, Sat.osl_nil.2 (Sat.sb hS)⟩
  subst hAB
  have Hf3 := Lib.hid (Hf2.out.trans (if_neg (fun h => h rfl)))
  clear Hf2
  have Hf4 := Lib.hid (Hf3.out.trans (if_pos h41))
  clear h41
  have Hkl := Lib.hid (show ((l.drop 9).take 32).length = 32 by rw [List.length_take, List.length_drop]; have := HlN.out; omega)
  have Hcell := Lib.hid (show ∀ (i : Nat) (c : UInt8), ((l.drop 9).take 32)[i]? = some c → ∀ w, Sat w0 w F → w.cell? ⟨bk, off + (9 + i), none⟩ = some (.int .u8 c.toNat) from fun i c hc w hw => by
    have hi : i < 32 := by have := (List.getElem?_eq_some_iff.1 hc).1; rw [Hkl.out] at this; exact this
    rw [List.getElem?_take_of_lt hi, List.getElem?_drop] at hc
    have hx : (bys l)[9 + i]? = some (.int .u8 c.toNat) := by unfold bys; rw [List.getElem?_map, hc]; rfl
    obtain ⟨b', o', hb, hcc⟩ := rdsl_cells (Hr.out w hw) hx
    cases hb
    exact hcc _ _ hx)
  go_wp2_with (first | ((with_reducible apply at_buildTag); refine ⟨?_⟩; refine wl_buildTag (by rfl) ?_) | ((with_reducible apply at_allocE); refine ⟨?_⟩; refine wl_allocE (by assumption) ?_; intro bE wE hE) | ((with_reducible apply at_storeE); refine ⟨?_⟩; first | (refine wl_storeE (by assumption) (by rfl) (by rfl) (by first | rfl | assumption | exact Hid.out (by assumption)) upD (by first | assumption | exact entA_size _ _ rfl | exact entA_size _ _ (by assumption) | exact entA_size _ _ (Hid.out (by assumption))) ?_; intro wS hS) | (refine wl_storeE (e := Frm.zeroE) (da := none) (dn := 0) (dc := 0) (by assumption) (by rfl) (by rfl) rfl upD (by first | assumption | exact entA_size _ _ rfl | exact entA_size _ _ (by assumption) | exact entA_size _ _ (Hid.out (by assumption))) ?_; intro wS hS)) | ((with_reducible apply at_loadE); refine ⟨?_⟩; refine wl_loadE (by assumption) (by rfl) pkD (by first | rfl | assumption | exact Hid.out (by assumption)) ?_))
  have hS0 := hS
  clear hS hE e8
  obtain ⟨kk, hkk⟩ : ∃ kk, kk = (l.drop 9).take 32 := ⟨_, rfl⟩
  rw [← hkk] at Hf4 Hkl Hcell
  clear hkk
  go_loopg [12] 32 (fun g iq wr => ∃ i : Nat, g = 32 - i ∧ i ≤ 32 ∧ iq = .int .i64 i ∧ Sat w0 wr (pt bE (.cells (entA ⟨1, keyTo kk i, []⟩ (.slice none 0 0)) 44 (0,0)) :: pt bR (.cells (entA Frm.zeroE (.slice none 0 0)) 44 (0,0)) :: F))
  case atStart => exact ⟨0, rfl, by decide, rfl, hS0⟩
  case round =>
    obtain ⟨i, rfl, hi, rfl, hS1⟩ := hrel
    clear hS0
    by_cases hlt : i < 32
    · have e1 : (i : Int) < 32 := by omega
      have hwi : IntKind.i64.wrap ((i : Int) + 1) = (i : Int) + 1 := IntWalk.i64_in _ (by omega)
      have hw9 : IntKind.i64.wrap (9 + (i : Int)) = ((9 + i : Nat) : Int) := by rw [show (9 : Int) + (i : Int) = ((9 + i : Nat) : Int) by omega]; exact IntWalk.i64_in _ (by omega)
      have hln : ((9 + i : Nat) : Int) < (l.length : Int) := by have := HlN.out; omega
      obtain ⟨cc, hcc⟩ : ∃ cc, kk[i]? = some cc := ⟨_, List.getElem?_eq_getElem (by rw [Hkl.out]; exact hlt)⟩
      have ec := Hcell.out i cc hcc _ hS1.drop.drop
      have hset := ent_setkey ⟨1, keyTo kk i, []⟩ (.slice none 0 0) i cc (by show i < (keyTo kk i).length; rw [keyTo_len Hkl.out hi]; exact hlt)
      simp only [keyTo_succ Hkl.out hlt hcc] at hset
      have Hset := Lib.hid hset; have Hlt := Lib.hid hlt
      have hfit : 1 + i + 1 ≤ (entA ⟨1, keyTo kk i, []⟩ (.slice none 0 0)).size := by rw [entA_size _ _ (keyTo_len Hkl.out hi)]; omega
      have Hfit := Lib.hid hfit
      clear hset hcc hlt hfit
      generalize h9i : 9 + i = q at *
      go_wp2_with ((with_reducible apply at_store); refine ⟨?_⟩; refine wl_store (b := bE) (o := 1 + i) (v := .int .u8 cc.toNat) hS1 (by rfl) evD Hset.out upd0 Hfit.out (by kernel_rfl) (by rfl) ?_; intro wT hT)
      go_roundg (32 - (i + 1))
      case measure => have := Hlt.out; omega
      case rel => exact ⟨i + 1, rfl, Nat.succ_le_of_lt Hlt.out, by first | rfl | go_num, hT⟩
    · obtain rfl : i = 32 := by omega
      have e1 : ¬ ((32 : Nat) : Int) < 32 := by decide
      rw [keyTo_end Hkl.out] at hS1
      clear hlt hi
      have hd0 : (l.take 41).drop 41 = [] := List.drop_of_length_le (by rw [List.length_take]; omega)
      rw [hd0] at Hf4
      have hkl := Hkl.out
      go_wp2_with (first | ((with_reducible apply at_loadE); refine ⟨?_⟩; refine wl_loadE hS1 (by rfl) pick0 hkl ?_) | ((with_reducible apply at_storeE); refine ⟨?_⟩; refine wl_storeE hS1 (by rfl) (by rfl) hkl (upd_there upd0) (entA_size _ _ rfl) ?_; intro wS hS))
      rw [Hf4.out]
      refine ⟨rfl, _, res_entE3 rfl (by assumption) (by rfl) pick1 hkl, _, rfl, none, 0, rfl, Sat.osl_nil.2 hS.drop.drop⟩
end
section
variable {w0 w : World} {F R : List HProp} {v bv dv x lv : Value}
theorem rread7_c (l : Bs) (hr : Ro w0 F (rdsl 1 bv (bys l))) (hcap : capOk bv) (hl : l.length ≤ 1099511627776) (h : Sat w0 w F) :
    Calls Tryz.prog 100 #[bv] w (Rtn fun v w' => ∃ da dc, v = .tuple #[.agg (entA (Frm.read l).1 (.slice da (Frm.read l).1.data.length dc)), .int .i64 (Frm.read l).2.1, errno (Frm.read l).2.2] ∧ Sat w0 w' (bsl (.slice da (Frm.read l).1.data.length dc) (Frm.read l).1.data :: F)) := by
  by_cases h9 : l.length < 9
  · exact rread_short h9 hr hcap hl h
  by_cases t0 : (l.getD 8 0).toNat = 0
  · by_cases n1 : Frm.num ((l.drop 4).take 4) < 41
    · exact rread_few l hr hcap hl h9 t0 n1 h
    · by_cases n2 : 16425 < Frm.num ((l.drop 4).take 4)
      · exact rread_many l hr hcap hl h9 t0 n2 h
      · exact rread0_c l hr hcap hl h9 t0 ⟨by omega, by omega⟩ h
  by_cases t1 : (l.getD 8 0).toNat = 1
  · by_cases n1 : Frm.num ((l.drop 4).take 4) = 41
    · exact rread1_c l hr hcap hl h9 t1 n1 h
    · exact rread_one l hr hcap hl h9 t1 n1 h
  by_cases t2 : (l.getD 8 0).toNat = 2
  · by_cases n1 : Frm.num ((l.drop 4).take 4) = 9
    · exact rread2_c l hr hcap hl h9 t2 n1 h
    · exact rread_two l hr hcap hl h9 t2 n1 h
  exact rread_tag l hr hcap hl h9 (by omega) h
end
end Go.Proofs.YtmjldaedhmipkaaGreatDoor
namespace Go.Seg
end Go.Seg
namespace Go.Proofs.YtmjldaedhmipkaaGreatDoor
open Go Go.Sl Go.Med Go.MapKept Go.RowKit
abbrev rlogPt (p d : Nat) (L : Seg.Log) (lv : Value) : HProp := pt p (.cells #[ptr d, .int .i64 L.limit, lv, .bool L.on, .int .i64 L.fresh] 87 (0,0))
def RLogRaw (p d : Nat) (L : Seg.Log) (lv : Value) : List HProp := [rlogPt p d L lv, osl 84 2 lv (segw L.l)]
def RLogRep (p d : Nat) (L : Seg.Log) : HProp := fun h => ∃ lv, stars (RLogRaw p d L lv) h
section
variable {w0 w : World} {F R : List HProp} {p d : Nat} {L : Seg.Log} {lv v : Value} {D : Med} {K : Nat}
theorem RLogRep.open (h : Sat w0 w (RLogRep p d L :: F)) : ∃ lv, Sat w0 w (rlogPt p d L lv :: osl 84 2 lv (segw L.l) :: F) := by
  obtain ⟨ha, x, hx, q, r, dd, rfl, ⟨lv, hp⟩, hq⟩ := h
  refine ⟨lv, ha, _, hx, ?_⟩
  show stars (RLogRaw p d L lv ++ F) _
  rw [stars_append]
  exact ⟨q, r, dd, rfl, hp, hq⟩
theorem RLogRep.shut (h : Sat w0 w (rlogPt p d L lv :: osl 84 2 lv (segw L.l) :: F)) : Sat w0 w (RLogRep p d L :: F) :=
  Sat.join (M := RLogRaw p d L lv) h fun _ hx => ⟨lv, hx⟩
theorem sgs_sl {l : List (Int × Int)} (h : rdsl 2 v (segw l) w) : ∃ a c, v = .slice a l.length c := by
  obtain ⟨a, n, c, rfl, hl, hx⟩ := h
  rw [segw_len] at hl
  obtain rfl : n = l.length := by omega
  exact ⟨a, c, rfl⟩
theorem segw_at' : ∀ {l : List (Int × Int)} {i : Nat} {s : Int × Int}, l[i]? = some s → (segw l)[i * 2]? = some (.int .i64 s.1) ∧ (segw l)[i * 2 + 1]? = some (.int .i64 s.2)
  | [], _, _, h => by simp at h
  | a :: l, 0, s, h => by
    obtain rfl : a = s := by simpa using h
    exact ⟨rfl, rfl⟩
  | a :: l, i + 1, s, h => by
    have e1 : segw (a :: l) = .int .i64 a.1 :: .int .i64 a.2 :: segw l := rfl
    have h' : l[i]? = some s := by simpa using h
    rw [e1, show (i + 1) * 2 = i * 2 + 1 + 1 by omega]
    exact segw_at' h'
theorem sgs_cells {l : List (Int × Int)} {i : Nat} {s : Int × Int} {a : Option Addr} {n c : Nat} (h : rdsl 2 (.slice a n c) (segw l) w) (hi : l[i]? = some s) :
    ∃ bk off, a = some ⟨bk, off, none⟩ ∧ w.cell? ⟨bk, off + i * 2, none⟩ = some (.int .i64 s.1) ∧ w.cell? ⟨bk, off + i * 2 + 1, none⟩ = some (.int .i64 s.2) := by
  obtain ⟨h0, h1⟩ := segw_at' hi
  obtain ⟨bk, off, rfl, hc⟩ := rdsl_cells h h0
  exact ⟨bk, off, rfl, hc _ _ h0, by rw [Nat.add_assoc]; exact hc _ _ h1⟩
end
section
variable {P : Program} {w0 w : World} {F R : List HProp} {e : TypeId} {ops : Array Oper} {a : Act} {Q : Exit → Act → World → Prop} {dst : Option Tmp} {ty : TypeId} {t : Nat} {pos : String} {after : Array Edge} {s y : Operand} {v x : Value} {xs ys : List Value} {K : Act → World → Prop} {E : Prop}
end
section
variable {w0 w : World} {F R : List HProp} {p d : Nat} {L : Seg.Log} {lv v : Value} {D : Med} {K : Nat}
end
end Go.Proofs.YtmjldaedhmipkaaGreatDoor
namespace Go.Seg
open Go.Med
end Go.Seg
namespace Go.Seg
end Go.Seg
namespace Go.Proofs.YtmjldaedhmipkaaGreatDoor
open Go Go.Sl Go.Med Go.MapKept Go.RowKit
section
variable {w0 w : World} {F R : List HProp} {p d q : Nat} {L : Seg.Log} {lv v bv : Value} {D : Med} {K : Nat}
end
end Go.Proofs.YtmjldaedhmipkaaGreatDoor
namespace Go.Seg
open Go.Med
end Go.Seg
namespace Go.Proofs.YtmjldaedhmipkaaGreatDoor
open Go Go.Sl Go.Med Go.MapKept Go.RowKit
section
variable {w0 w : World} {F R : List HProp} {p d q : Nat} {L : Seg.Log} {lv v bv : Value} {D : Med} {K : Nat} {s : Int × Int}
end
section
variable {w0 w : World} {F R : List HProp} {p d q : Nat} {L : Seg.Log} {lv v bv : Value} {M : Med} {K : Nat}
end
end Go.Proofs.YtmjldaedhmipkaaGreatDoor
namespace Go.Seg
open Go.Med
end Go.Seg
namespace Go.Proofs.YtmjldaedhmipkaaGreatDoor
open Go Go.Sl Go.Med Go.MapKept Go.RowKit
section
variable {w0 w : World} {F R : List HProp} {p d q : Nat} {L : Seg.Log} {lv v bv : Value} {M : Med} {K : Nat} {s : Int × Int}
end
end Go.Proofs.YtmjldaedhmipkaaGreatDoor
namespace Go.Seg
open Go.Med
section
variable {K K' : Nat} {M M' : Med} {L : Log} {s t : ByteArray} {i : Nat} {sure opn : List (Plc × Frm.Ent)}
theorem app_lt : ∀ (x y u v : Bs), x.length = y.length → x < y → x ++ u < y ++ v
  | [], [], _, _, _, h => absurd h (List.not_lt_nil [])
  | [], _ :: _, _, _, h, _ => by simp at h
  | _ :: _, [], _, _, h, _ => by simp at h
  | a :: x, b :: y, u, v, hl, h => by
    rw [List.cons_append, List.cons_append, List.cons_lt_cons_iff]
    rcases List.cons_lt_cons_iff.1 h with h1 | ⟨e, h1⟩
    · exact .inl h1
    · exact .inr ⟨e, app_lt x y u v (by simpa using hl) h1⟩
theorem app_lt_r : ∀ (x u v : Bs), u < v → x ++ u < x ++ v
  | [], _, _, h => h
  | a :: x, u, v, h => by
    rw [List.cons_append, List.cons_append, List.cons_lt_cons_iff]
    exact .inr ⟨rfl, app_lt_r x u v h⟩
theorem digs_lt : ∀ (k a b : Nat), a < b → b < 10 ^ k → digs a k < digs b k
  | 0, a, b, h, hb => by simp at hb; omega
  | k + 1, a, b, h, hb => by
    show digs (a / 10) k ++ [UInt8.ofNat (48 + a % 10)] < digs (b / 10) k ++ [UInt8.ofNat (48 + b % 10)]
    have hb' : b / 10 < 10 ^ k := by rw [Nat.div_lt_iff_lt_mul (by omega)]; rw [Nat.pow_succ] at hb; exact hb
    rcases Nat.lt_or_ge (a / 10) (b / 10) with q | q
    · exact app_lt _ _ _ _ (by rw [digs_len, digs_len]) (digs_lt k _ _ q hb')
    · have e : a / 10 = b / 10 := by omega
      rw [e]
      refine app_lt_r _ _ _ ?_
      rw [List.cons_lt_cons_iff]
      left
      rw [UInt8.lt_iff_toNat_lt, UInt8.toNat_ofNat', UInt8.toNat_ofNat']
      omega
theorem name_lt {a b : Int} (h1 : 0 ≤ a) (h2 : a < b) (h3 : b < 1048576) : lt (name a) (name b) = true := by
  unfold name
  rw [if_neg (by omega), if_neg (by omega)]
  unfold lt
  rw [decide_eq_true_eq]
  show lead ++ digs a.toNat 8 < lead ++ digs b.toNat 8
  exact app_lt_r _ _ _ (digs_lt 8 _ _ (by omega) (by omega))
theorem number_is {s : ByteArray} (h : (number s).2 = true) : 0 ≤ (number s).1 ∧ (number s).1 < 1048576 ∧ name (number s).1 = s := by
  unfold number at h ⊢
  dsimp only at h ⊢
  split at h
  · rename_i hc
    rw [if_pos hc]
    obtain ⟨c1, c2, c3, c4⟩ := hc
    refine ⟨by simp only; omega, by simp only; omega, ?_⟩
    simp only
    unfold name
    rw [if_neg (by omega)]
    have hl : (s.data.toList.drop 4).length = 8 := by
      have : s.data.toList.length = 12 := by first | exact c1 | (rw [Array.length_toList]; exact c1)
      rw [List.length_drop, this]
    have hd := digs_val (s.data.toList.drop 4) c3
    rw [hl] at hd
    have e : lead ++ digs (Int.toNat ((val (s.data.toList.drop 4) : Nat) : Int)) 8 = s.data.toList := by
      rw [Int.toNat_natCast, hd, ← c2, List.take_append_drop]
    rw [e]
  · cases h
theorem found_mem {l : List ByteArray} {x : Int × Int} (h : x ∈ found M l) : ∃ t ∈ l, (number t).2 = true ∧ x = ((number t).1, (M.size t).1) := by
  unfold found at h
  obtain ⟨t, ht, he⟩ := List.mem_filterMap.1 h
  split at he
  · rename_i hn; exact ⟨t, ht, hn, (Option.some.inj he).symm⟩
  · cases he
theorem list_now (h : t ∈ M.list) : ∃ i, nget M.now t = some i := by
  unfold Med.list at h
  split at h
  · cases h
  · obtain ⟨p, hp, rfl⟩ := List.mem_map.1 h
    cases hg : nget M.now p.1 with
    | none => exact absurd rfl (nget_none hg p hp)
    | some i => exact ⟨i, rfl⟩
theorem found_rise : ∀ (l : List ByteArray), l.Pairwise (fun a b => lt a b = true) → ((found M l).map (·.1)).Pairwise (· < ·)
  | [], _ => List.Pairwise.nil
  | t :: l, h => by
    obtain ⟨h1, h2⟩ := List.pairwise_cons.1 h
    have ih := found_rise l h2
    by_cases hn : (number t).2 = true
    · have e : found M (t :: l) = ((number t).1, (M.size t).1) :: found M l := by unfold found; rw [List.filterMap_cons]; simp [hn]
      rw [e, List.map_cons, List.pairwise_cons]
      refine ⟨fun x hx => ?_, ih⟩
      obtain ⟨y, hy, rfl⟩ := List.mem_map.1 hx
      obtain ⟨u, hu, hun, rfl⟩ := found_mem hy
      have hlt := h1 u hu
      obtain ⟨a1, a2, a3⟩ := number_is hn
      obtain ⟨b1, b2, b3⟩ := number_is hun
      rcases Int.lt_or_le (number t).1 (number u).1 with q | q
      · exact q
      · exfalso
        rcases Int.lt_or_eq_of_le q with q | q
        · have h3 := name_lt b1 q a2
          rw [a3, b3] at h3
          have := lt_trans hlt h3
          rw [lt_irrefl] at this; cases this
        · rw [← a3, ← q, b3, lt_irrefl] at hlt; cases hlt
    · have e : found M (t :: l) = found M l := by unfold found; rw [List.filterMap_cons]; simp [hn]
      rw [e]; exact ih
theorem fresh_ok (ok : M.Ok K) (limit : Int) (h1 : 128 ≤ limit) (h2 : limit ≤ 1048576) : (fresh M limit).Ok := by
  refine ⟨⟨h1, h2⟩, ?_, fun x hx => ?_, fun x hx => ?_, ⟨Int.le_refl _, by simp [fresh]⟩, fun hh => by cases hh⟩
  · refine found_rise M.list ?_
    unfold Med.list
    split
    · exact List.Pairwise.nil
    · rw [List.pairwise_map]; exact ok.nowOk.srt
  · obtain ⟨t, _, hn, rfl⟩ := found_mem hx
    have := number_is hn
    exact ⟨this.1, this.2.1⟩
  · obtain ⟨t, _, hn, rfl⟩ := found_mem hx
    unfold Med.size
    split
    · simp
    split
    · simp
    · have := (ok.file ‹Nat›).now_len
      simp only
      omega
end
end Go.Seg
namespace Go.Seg
open Go.Med
theorem all_size (M : Med) (s : ByteArray) : (((M.all s).1.length : Nat) : Int) = (M.size s).1 := by
  unfold Med.all Med.size
  split; · rfl
  split
  · rfl
  · rfl
section
variable {φ : Nat → Nat} {V : Nat → Prop} {M D : Med} {K : Nat} {L : Log}
theorem side_fresh (h : Side φ V M D) (ok : M.Ok K) (limit : Int) : fresh D limit = fresh M limit := by
  have e : found D D.list = found M M.list := by
    rw [h.list]
    unfold found
    congr 1
    funext s
    rw [← all_size, ← all_size, h.all ok]
  unfold fresh
  rw [e]
theorem alive_yes (ok : M.Ok K) (hoff : M.off = false) : alive M = 0 := by
  unfold alive Med.size
  rw [hoff]
  simp only [Bool.false_eq_true, if_false]
  cases hg : nget M.now ByteArray.empty with
  | none => rfl
  | some i => exact absurd rfl (ok.nowOk.ne _ (nget_mem hg))
end
structure Two (i : Nat) (L : Log) (M D : Med) : Prop where
  log : L.Ok
  ok : M.Ok (i * 2000)
  fit : Fit (i * 2000) D
  side : ∃ φ V, Side φ V M D
  fresh : L.fresh ≤ i
structure Step {α : Type} (i : Nat) (a b : (Log × Med) × α) : Prop where
  log : b.1.1 = a.1.1
  res : b.2 = a.2
  two : Two i a.1.1 a.1.2 b.1.2
section
variable {i : Nat} {M D : Med} {L : Log}
end
end Go.Seg
namespace Go.Seg
open Go.Med
open Go.Frm (encs GoodE)
section
variable {K : Nat} {M M' : Med} {L : Log} {s t : ByteArray} {i : Nat}
def Grow (M : Med) : Prop := ∀ j, ∀ c ∈ (M.file j).waits, c.cut = false
def Dur (s : ByteArray) (i : Nat) (M : Med) : Prop := nget M.fast s = some i ∧ ∀ w ∈ M.waits, w.fr ≠ s ∧ w.to ≠ s
structure Ext (s : ByteArray) (i : Nat) (M M' : Med) : Prop where
  now : nget M'.now s = some i
  dur : Dur s i M → Dur s i M'
  fast : ∀ j, (M.file j).fast <+: (M'.file j).fast
  bytes : ∀ j, (M.file j).now <+: (M'.file j).now
end
end Go.Seg
namespace Go.Seg
open Go.Med
open Go.Frm (encs GoodE)
section
variable {K : Nat} {M M' : Med} {L : Log} {s t : ByteArray} {i : Nat}
def nf (L : Log) : List Int := (L.l.map (·.1)).take (L.l.length - L.fresh.toNat)
def Slice (p : Plc) (x : Frm.Ent) (b : Bs) : Prop := ∃ a : Nat, p.at_ = a ∧ p.size = ((Frm.encode x).1.length : Int) ∧ (Frm.encode x).1 <+: b.drop a
structure Sure (L : Log) (M : Med) (p : Plc) (x : Frm.Ent) : Prop where
  good : GoodE x
  mem : p.seg ∈ nf L
  file : ∃ i, nget M.now (name p.seg) = some i ∧ Dur (name p.seg) i M ∧ Slice p x (M.file i).fast
structure Pend (L : Log) (M : Med) (p : Plc) (x : Frm.Ent) : Prop where
  good : GoodE x
  mem : p.seg ∈ L.l.map (·.1)
  file : ∃ i, nget M.now (name p.seg) = some i ∧ Slice p x (M.file i).now ∧ (Slice p x (M.file i).fast ∨ L.on = true ∧ ∃ s, L.l.getLast? = some s ∧ s.1 = p.seg)
structure St (K : Nat) (L : Log) (M : Med) (sure opn : List (Plc × Frm.Ent)) : Prop where
  log : L.Ok
  ok : M.Ok K
  grow : Grow M
  has : Has L M
  tail : L.on = true → ∃ s i, L.l.getLast? = some s ∧ nget M.now (name s.1) = some i ∧ s.2 = ((M.file i).now.length : Int)
  sure : ∀ q ∈ sure, Sure L M q.1 q.2
  opn : M.off = false → ∀ q ∈ opn, Pend L M q.1 q.2
variable {sure opn : List (Plc × Frm.Ent)}
end
end Go.Seg
namespace Go.Seg
open Go.Med
open Go.Frm (encs GoodE)
section
variable {K K' : Nat} {M M' : Med} {L : Log} {s t : ByteArray} {i : Nat} {sure opn : List (Plc × Frm.Ent)}
end
end Go.Seg
namespace Go.Med
def FCap (c : Nat) (f : Fil) : Prop := ∀ k, k ≤ f.waits.length → (f.at k).length ≤ c
section
variable {c c' K : Nat} {f : Fil} {M : Med}
theorem FCap.mono (h : FCap c f) (hc : c ≤ c') : FCap c' f := fun k hk => Nat.le_trans (h k hk) hc
theorem FCap.new (c : Nat) : FCap c Fil.new := fun k _ => by simp [Fil.new, Fil.at]
theorem FCap.now (h : FCap c f) (ok : f.Ok K) : f.now.length ≤ c := by rw [ok.now]; exact h _ (Nat.le_refl _)
theorem FCap.put (h : FCap c f) (ok : f.Ok K) (b : Bs) : FCap (c + b.length) (f.do ⟨false, 0, b⟩) := fun k hk => by
  have hw : (f.do ⟨false, 0, b⟩).waits.length = f.waits.length + 1 := by simp [Fil.do]
  rw [hw] at hk
  rcases Nat.lt_or_ge k (f.waits.length + 1) with hlt | hge
  · rw [f.at_do _ k (by omega)]; have := h k (by omega); omega
  · obtain rfl : k = f.waits.length + 1 := by omega
    rw [f.at_do_last _ ok.now]
    unfold Chg.on
    simp only [Bool.false_eq_true, if_false, List.length_append]
    have := h.now ok; omega
def Med.Cap (c : Nat) (M : Med) : Prop := ∀ f ∈ M.files, FCap c f
theorem Med.Cap.mono (h : M.Cap c) (hc : c ≤ c') : M.Cap c' := fun f hf => (h f hf).mono hc
theorem Med.Cap.like {M' : Med} (h : M.Cap c) (e : M'.files = M.files) : M'.Cap c := fun f hf => h f (e ▸ hf)
theorem Med.Cap.file (h : M.Cap c) (i : Nat) : FCap c (M.file i) := by
  unfold Med.file
  rcases Nat.lt_or_ge i M.files.length with hi | hi
  · rw [List.getD_eq_getElem?_getD, List.getElem?_eq_getElem hi]; exact h _ (List.getElem_mem hi)
  · rw [List.getD_eq_getElem?_getD, List.getElem?_eq_none hi]; exact FCap.new c
theorem Med.Cap.new (c room : Nat) : (Med.new room).Cap c := fun f hf => by cases hf
theorem Med.Cap.step (h : M.Cap c) : M.step.1.Cap c := h.like M.step_same.2.2.2.1
theorem Med.Cap.set (h : M.Cap c) (i : Nat) (hf : FCap c f) : (M.setFile i f).Cap c := fun g hg => by
  rcases List.mem_or_eq_of_mem_set hg with hg | rfl
  · exact h g hg
  · exact hf
theorem Med.Cap.create (h : M.Cap c) (s : ByteArray) : (M.create s).1.Cap c := by
  unfold Med.create
  split; · exact h
  split; · exact h
  split; · exact h
  split; · exact h
  split; · exact h.step
  intro f hf
  rcases List.mem_append.1 hf with hf | hf
  · exact h f hf
  · rw [List.mem_singleton.1 hf]; exact FCap.new c
theorem Med.Cap.append (h : M.Cap c) (ok : M.Ok K) (s : ByteArray) (b : Bs) : (M.append s b).1.Cap (c + b.length) := by
  have h' : M.Cap (c + b.length) := h.mono (Nat.le_add_right _ _)
  unfold Med.append
  split; · exact h'
  split; · exact h'
  split; · exact h'
  split; · exact h'.step
  exact h'.step.set _ ((h.file _).put (ok.file _) b)
theorem Med.Cap.all (h : M.Cap c) (ok : M.Ok K) (s : ByteArray) : (M.all s).1.length ≤ c := by
  unfold Med.all
  split; · exact Nat.zero_le _
  split; · exact Nat.zero_le _
  exact (h.file _).now (ok.file _)
end
end Go.Med
namespace Go.Seg
open Go.Med
section
variable {c c' K n : Nat} {L : Log} {M : Med}
theorem rows_cap (h : M.Cap c) (ok : M.Ok K) (hn : L.l.length ≤ n) : (Rep.rowsOf (fun s => L.bytes M s) L.segs).length ≤ n * c := by
  have hb : ∀ s, (L.bytes M s).1.length ≤ c := fun s => by
    unfold Log.bytes
    split
    · exact Nat.zero_le _
    · exact h.all ok _
  refine Nat.le_trans (Rep.rowsOf_count L.segs fun s _ => hb s) (Nat.mul_le_mul_right c ?_)
  unfold Log.segs
  rw [List.length_map]; exact hn
end
end Go.Seg
namespace Go.Seg
open Go.Med
end Go.Seg
namespace Go.Proofs.YtmjldaedhmipkaaGreatDoor
open Go Go.Sl Go.Med Go.MapKept Go.RowKit
section
variable {w0 w : World} {F R : List HProp} {p d q : Nat} {L : Seg.Log} {lv v bv : Value} {M : Med} {K : Nat} {s : Int × Int}
end
end Go.Proofs.YtmjldaedhmipkaaGreatDoor
namespace Go.Seg
open Go.Med
def Log.drop (t : List Int) : Nat → Log → Med → (Log × Med) × Int
  | 0, L, M => if t = [] then ((L, M), 0) else ((L, M.syncDir.1), M.syncDir.2)
  | k + 1, L, M => if (L.remove M (t.getD k 0)).2 = 0 then Log.drop t k (L.remove M (t.getD k 0)).1.1 (L.remove M (t.getD k 0)).1.2 else L.remove M (t.getD k 0)
def Log.rdrop (t : List Int) : Nat → Log → Med → (Log × Med) × Int
  | 0, L, M => if t = [] then ((L, M), 0) else ((L, M.syncDir.1), M.syncDir.2)
  | k + 1, L, M => if (L.rremove M (t.getD k 0)).2 = 0 then Log.rdrop t k (L.rremove M (t.getD k 0)).1.1 (L.rremove M (t.getD k 0)).1.2 else L.rremove M (t.getD k 0)
section
variable {t : List Int} {L : Log} {M D : Med} {K i : Nat}
end
end Go.Seg
namespace Go.Seg
open Go.Med
structure TwoM (i : Nat) (M D : Med) : Prop where
  ok : M.Ok (i * 2000)
  fit : Fit (i * 2000) D
  side : ∃ φ V, Side φ V M D
  quiet : Quiet M
  cap : M.Cap (i * 2000)
  now : M.now.length ≤ i
section
variable {i j K : Nat} {M D : Med}
theorem TwoM.first (r : Nat) (hr : r ≤ 16777216) : TwoM 0 (Med.new r) (Med.new r) :=
  ⟨Med.Ok.new _ r hr, Fit.new _ r hr, ⟨_, _, Side.new r⟩, Quiet.new r, Med.Cap.new _ r, Nat.le_refl 0⟩
theorem TwoM.mono (h : TwoM i M D) (hj : i ≤ j) : TwoM j M D :=
  ⟨h.ok.mono (by omega), h.fit.mono (by omega), h.side, h.quiet, h.cap.mono (by omega), by have := h.now; omega⟩
theorem create_now (M : Med) (s : ByteArray) : (M.create s).1.now.length ≤ M.now.length + 1 := by
  have e3 := M.step_same.2.2.1
  unfold Med.create
  split; · simp only; omega
  split; · simp only; omega
  split; · simp only; omega
  split; · simp only; omega
  split; · simp only; rw [e3]; omega
  show (Lnk.on _ M.step.1.now).length ≤ _
  rw [e3]
  unfold Lnk.on
  simp only [if_true]
  split
  · omega
  · rw [nput_len]
    have := ndel_len M.now s
    omega
theorem append_now (M : Med) (s : ByteArray) (b : Bs) : (M.append s b).1.now = M.now := by
  have e3 := M.step_same.2.2.1
  unfold Med.append
  split; · rfl
  split; · rfl
  split; · rfl
  split; · exact e3
  exact e3
theorem TwoM.create (h : TwoM i M D) (s : ByteArray) : (D.create s).2 = (M.create s).2 ∧ TwoM (i + 1) (M.create s).1 (D.create s).1 := by
  obtain ⟨φ, V, sd⟩ := h.side
  obtain ⟨h1, h2⟩ := sd.create h.ok s
  exact ⟨h1.symm, (h.ok.create s).mono (by omega), (h.fit.create s).mono (by omega), h2, h.quiet.create s, (h.cap.create s).mono (by omega), by have := create_now M s; have := h.now; omega⟩
theorem TwoM.append (h : TwoM i M D) (s : ByteArray) (b : Bs) (hb : b.length ≤ 2000) : (D.append s b).2 = (M.append s b).2 ∧ TwoM (i + 1) (M.append s b).1 (D.append s b).1 := by
  obtain ⟨φ, V, sd⟩ := h.side
  obtain ⟨h1, h2⟩ := sd.append h.ok s b
  exact ⟨h1.symm, (h.ok.append s b).mono (by omega), (h.fit.append s b).mono (by omega), h2, h.quiet.append s b, (h.cap.append h.ok s b).mono (by omega), by rw [append_now]; have := h.now; omega⟩
theorem fresh_now (M : Med) (limit : Int) : (Seg.fresh M limit).l.length ≤ M.now.length := by
  refine Nat.le_trans (found_len M M.list) ?_
  unfold Med.list
  split
  · exact Nat.zero_le _
  · rw [List.length_map]; exact Nat.le_refl _
theorem TwoM.open (h : TwoM i M D) (limit : Int) (h1 : 128 ≤ limit) (h2 : limit ≤ 1048576) :
    Two i (Seg.fresh M limit) M D ∧ Seg.fresh D limit = Seg.fresh M limit ∧ alive M = 0 ∧ D.off = false ∧ (Seg.fresh M limit).l.length ≤ i := by
  obtain ⟨φ, V, sd⟩ := h.side
  refine ⟨⟨fresh_ok h.ok limit h1 h2, h.ok, h.fit, h.side, ?_⟩, side_fresh sd h.ok limit, alive_yes h.ok h.quiet.off, by rw [sd.off]; exact h.quiet.off, Nat.le_trans (fresh_now M limit) h.now⟩
  show (0 : Int) ≤ i
  omega
end
section
variable {i n c K : Nat} {L : Log} {M D : Med}
theorem segs_rise (h : L.Ok) : L.segs.Pairwise (· < ·) := h.rise
theorem segs_pos (h : L.Ok) : ∀ s ∈ L.segs, 0 ≤ s := fun s hs => by
  unfold Log.segs at hs
  obtain ⟨x, hx, rfl⟩ := List.mem_map.1 hs
  exact (h.nums x hx).1
theorem bytes_all (h : L.Ok) (M : Med) {s : Int} (hs : s ∈ L.segs) : L.bytes M s = M.all (name s) := by
  unfold Log.segs at hs
  obtain ⟨x, hx, rfl⟩ := List.mem_map.1 hs
  obtain ⟨k, hk⟩ := List.getElem?_of_mem hx
  unfold Log.bytes
  cases hat : L.at x.1 with
  | none =>
    exfalso
    unfold Log.at at hat
    rw [List.findIdx?_eq_none_iff] at hat
    have := hat _ hx
    simp at this
  | some i => rfl
theorem rows_ok (h : L.Ok) (M : Med) (n : Nat) : Rep.Rows (Rep.rowsOf (fun s => L.bytes M s) (L.segs.take n)) :=
  Rep.rowsOf_rows ((segs_rise h).sublist (List.take_sublist _ _)) fun s hs => segs_pos h s (List.mem_of_mem_take hs)
theorem rows_size (h : M.Cap c) (ok : M.Ok K) (ns : List Int) : ∀ r ∈ Rep.rowsOf (fun s => L.bytes M s) ns, r.2.size ≤ c := fun r hr => by
  refine Rep.rowsOf_size (fun s _ => ?_) hr
  unfold Log.bytes
  split
  · exact Nat.zero_le _
  · exact h.all ok _
end
end Go.Seg
namespace Go.Proofs.YtmjldaedhmipkaaGreatDoor
open Go Go.Sl Go.Med Go.MapKept Go.RowKit
section
variable {P : Program} {ops : Array Oper} {a : Act} {dst : Option Tmp} {t ty : TypeId} {pos : String} {after : Array Edge} {x y : Operand} {v v1 v2 : Value} {i1 i2 : Nat}
theorem yl_build2 (hx : a.eval x = v1) (hy : a.eval y = v2) (hr : ∀ w, (Instr.build ty #[(i1, v1), (i2, v2)]).run P w = .ok v w) : Yields P ops ⟨dst, .build ty #[(i1, x), (i2, y)], t, pos, after, none⟩ v a :=
  .inl ⟨want_none _ rfl, fun w => by simp only [execOp, List.map_toArray, List.map_cons, List.map_nil, hx, hy, Sem.run_bind, hr, Result.andThen_ok, Sem.run_pure]⟩
end
section
variable {w0 w : World} {F : List HProp} {p B : Nat} {m : Frm.Bs → Option (Seg.Plc)}
set_option maxRecDepth 20000 in
set_option maxHeartbeats 8000000 in
theorem rows_c (hB : B ≤ 13000000) (h : Sat w0 w (TabML p m B :: F)) :
    Calls Tryz.prog 56 #[ptr p] w (Rtn fun v w' => ∃ kv : List (Frm.Bs × Seg.Plc), (Tab.Lists m kv ∧ (∀ q ∈ kv, q.1.length = 32) ∧ kv.length ≤ B) ∧ Sat w0 w' (osl 117 35 v (kv.flatMap kvL) :: TabML p m B :: F)) := by
  have hr := keysL_c hB h
  clear h
  go_enter Tryz.func56, Tryz.ntmps56
  go_wp2_with fail
  refine hr.mono ?_
  rintro ee w1 ⟨sv, rfl, kv, hk, hS1⟩
  clear hr
  have Hk := Lib.hid hk
  have Hlen := Lib.hid (show ∀ q ∈ kv, (bys q.1).length = 32 from fun q hq => by rw [bys_len]; exact hk.2.1 q hq)
  obtain ⟨la, lc, rfl⟩ := osl_rows Hlen.out (Sat.rd hS1) (by decide)
  have hsb : kv.length ≤ 13000000 := Nat.le_trans hk.2.2 hB
  have hB2 : B ≤ 268435000 := by omega
  have HB := Lib.hid hB2
  have hS2 : Sat w0 w1 (osl 117 35 (.slice none 0 0) ((kv.take 0).flatMap kvL) :: osl 41 32 (.slice la kv.length lc) (kv.flatMap fun q => bys q.1) :: TabML p m B :: F) := Sat.osl_nil.2 hS1
  clear hk hB hS1 hB2
  go_wp2_with fail
  go_loopg [3, 5] kv.length (fun g oq iq wr => ∃ (i : Nat), g = kv.length - i ∧ i ≤ kv.length ∧ iq = .int .i64 i ∧
    Sat w0 wr (osl 117 35 oq ((kv.take i).flatMap kvL) :: osl 41 32 (.slice la kv.length lc) (kv.flatMap fun q => bys q.1) :: TabML p m B :: F))
  case atStart => exact ⟨0, rfl, Nat.zero_le _, rfl, hS2⟩
  case round =>
    obtain ⟨i, rfl, hi, rfl, hS⟩ := hrel
    clear hS2
    by_cases hlt : i < kv.length
    rotate_left
    · obtain rfl : i = kv.length := by omega
      have c1 : ¬ (kv.length : Int) < (kv.length : Int) := by omega
      rw [List.take_length] at hS
      clear hlt hi
      go_wp2_with fail
      go_ret
      exact ⟨_, rfl, kv, ⟨Hk.out.1, by intros; exact Hk.out.2.1 (_, _) (by assumption), Hk.out.2.2⟩, hS.sb⟩
    have c1 : (i : Int) < (kv.length : Int) := by omega
    have hwi : IntKind.i64.wrap ((i : Int) + 1) = (i : Int) + 1 := IntWalk.i64_in _ (by omega)
    obtain ⟨⟨k, pl⟩, hx⟩ : ∃ q, kv[i]? = some q := ⟨_, List.getElem?_eq_getElem hlt⟩
    have Hx := Lib.hid hx
    have hxm := List.mem_of_getElem? hx
    have Hxk := Lib.hid (Hk.out.2.1 _ hxm)
    have hmk : m k = some pl := (Hk.out.1.mem k pl).1 hxm
    obtain ⟨bk, off, c', hsv, hcell⟩ := osl_row (f := fun q : Frm.Bs × Seg.Plc => bys q.1) (k := 32) Hlen.out (Sat.rd (hS.pick pick1)) hx (by decide)
    cases hsv
    have Htk := Lib.hid (show (kv.take (i + 1)).flatMap kvL = (kv.take i).flatMap kvL ++ kvL (k, pl) by rw [List.take_add_one, hx, Option.toList_some, List.flatMap_append]; simp)
    have Hlt := Lib.hid hlt
    have hg := getL_c HB.out Hxk.out (hS.sb : Sat w0 wr (TabML p m B :: osl 117 35 u3 ((kv.take i).flatMap kvL) :: osl 41 32 (.slice (some ⟨bk, off, none⟩) kv.length lc) (kv.flatMap fun q => bys q.1) :: F))
    rw [hmk, Option.getD_some, Option.isSome_some] at hg
    clear hx hxm hlt hi hmk hS
    go_wp2_with ((with_reducible apply at_load); refine ⟨?_⟩; refine wl_loadW (b := bk) (o := off + i * 32) (bys k) (by rfl) hcell Tryz.underlying41 rfl (by rw [bys_len, Hxk.out]; kernel_rfl) ?_)
    refine hg.mono ?_
    rintro ee w5 ⟨v, rfl, rfl, hS5⟩
    clear hg hcell
    go_wp2_with (with_reducible apply at_alloc)
    refine ⟨?_⟩
    refine wl_alloc zPlc39 hS5 rfl ?_
    intro b6 w6 h6
    go_wp2_with ((with_reducible apply at_store); refine ⟨?_⟩; refine wl_storeA (penc pl).toArray h6 (by rfl) (by rfl) (by rfl) upd0 (by kernel_rfl) (by rfl) ?_; intro w7 h7)
    have h8 := h7.drew
    obtain ⟨bk2, off2, c2, e2, hcell⟩ := osl_row (f := fun q : Frm.Bs × Seg.Plc => bys q.1) (k := 32) Hlen.out (Sat.rd (h8.pick (pick_there (pick_there (pick_there pick0))))) Hx.out (by decide)
    cases e2
    have hG : (w7.drew).rangeAt bk (off + i * 32) (bys k) ∧ (w7.drew).rangeAt b6 0 (penc pl) := ⟨hcell, pt_rangeL (h8.pick pick0)⟩
    clear h7 h6 hS5 hcell
    have hle : ((kv.take i).flatMap kvL).length ≤ 2147483648 := by
      rw [rows_len (k := 35) fun q hq => kvL_len q (Hk.out.2.1 q (List.mem_of_mem_take hq)), List.length_take]; omega
    refine wpL_begin [6, 7, 8, 9] (fun w' => w'.rangeAt bk (off + i * 32) (bys k) ∧ w'.rangeAt b6 0 (penc pl)) (by kernel_rfl) ?_
    refine rp 0 (hy := (yl_move evD)) (h := ?_)
    refine rp 1 (hy := (yl_move evD)) (h := ?_)
    refine rp 2 (hy := (yl_move evD)) (h := ?_)
    refine rp 3 (hy := (yl_index evD evD rnD)) (h := ?_)
    refine rg_take 4 evD (by kernel_rfl) (by intro _ _ _ h; exact h) (tk_loadN (b := bk) (o := off + i * 32) (bys k) (by rfl) Tryz.underlying41 rfl (by rw [bys_len, Hxk.out]; kernel_rfl) (fun w hw => hw.1)) (by assumption) (by go_frame; first | done | rfl) ?_
    refine rg_take 5 evD (by kernel_rfl) (by intro _ _ _ h; exact h) (tk_loadN (b := b6) (o := 0) (penc pl) (by rfl) Tryz.underlying39 rfl (by kernel_rfl) (fun w hw => hw.2)) (by assumption) (by go_frame; first | done | rfl) ?_
    clear hG
    refine rp 6 (hy := (yl_build2 evD evD (fun w => run_kv k Hxk.out pl w))) (h := ?_)
    refine rg_eff 7 evD (by kernel_rfl) (fun K hK => ?_)
    refine eff_build1 (e := 117) (sz := 35) (by' := 56) (by kernel_rfl) h8 evD (cs := (kvL (k, pl)).toArray) rfl (by rw [List.size_toArray, kvL_len _ Hxk.out]) (by decide) ?_
    intro bN wN hN
    refine hK _ _ (.inl rfl) ?_
    clear hK h8
    refine rg_eff 8 evD (by kernel_rfl) (fun K hK => ?_)
    refine eff_app 117 35 56 (by kernel_rfl) hN evD evD (pick_there (pick_there (pick_there pick0))) pick0 (by rw [List.size_toArray, kvL_len _ Hxk.out]) (Nat.le_refl 1) (by rw [List.toList_toArray]; exact kvL_ones _) hle (by rw [List.size_toArray, kvL_len _ Hxk.out]; decide) (by decide) (by rw [List.toList_toArray]) ?_
    intro bA nA cA wA hA
    refine hK _ _ (.inl rfl) ?_
    clear hK hN
    refine rp 9 (hy := (yl_assign evD)) (h := ?_)
    refine wpL_done (by kernel_rfl) ?_
    rw [← Htk.out] at hA
    go_wp2_with fail
    go_roundg (kv.length - (i + 1))
    case measure => have := Hlt.out; omega
    case rel => exact ⟨i + 1, rfl, Hlt.out, by first | rfl | go_num, hA.sb⟩
end
abbrev rstPt (ps : Nat) (last : Int) (iv uv tv : Value) : HProp := pt ps (.cells #[.int .i64 last, iv, uv, tv] 207 (0,0))
section
variable {w0 w : World} {F : List HProp} {rv iv uv tv : Value}
set_option maxRecDepth 20000 in
set_option maxHeartbeats 16000000 in
theorem rfill_c (ps : Nat) (last : Int) (rs : List (Rep.Row × Value)) (us : List Rep.Use) (hk : ∀ q ∈ rs, q.1.2.e.key.length = 32) (hsl : ∀ q ∈ rs, ∃ a n c, q.2 = .slice a n c) (hlen : rs.length ≤ 12000000) (hul : us.length ≤ 1048576)
    (hsz : ∀ q ∈ rs, (q.1.2.size : Int) ≤ 4294967296) (hu0 : ∀ u ∈ us, u.live = 0) (hr : Ro w0 F (rdsl 37 rv (rs.flatMap rwL)))
    (h : Sat w0 w (rstPt ps last (.slice none 0 0) uv tv :: osl 115 3 uv (us.flatMap uenc) :: F)) :
    Calls Tryz.prog 118 #[ptr ps, rv] w (Rtn fun _ w' => ∃ iv, Sat w0 w' (rstPt ps last iv uv tv :: osl 117 35 iv ((Rep.idx (rs.map (·.1)) rs.length).flatMap kvL) :: osl 115 3 uv ((Rep.uAt (rs.map (·.1)) us rs.length).flatMap uenc) :: F)) := by
  obtain ⟨sa, sc, rfl⟩ := osl_rows (f := rwL) (fun p hp => rwL_len p (hk p hp)) (hr w h.drop.drop) (by decide)
  obtain ⟨ua, uc, rfl⟩ := osl_rows (l := us) (f := uenc) (k := 3) (fun u _ => rfl) (Sat.rd (h.pick pick1)) (by decide)
  have Hk := Lib.hid hk; have Hsl := Lib.hid hsl; have Hlen := Lib.hid hlen; have Hul := Lib.hid hul; have Hr := Lib.hid hr
  have Hll := Lib.hid (show (rs.map (·.1)).length = rs.length from List.length_map ..)
  have Hsz := Lib.hid (show ∀ r ∈ rs.map (·.1), (r.2.size : Int) ≤ 4294967296 from fun r hr => by obtain ⟨q, hq, rfl⟩ := List.mem_map.1 hr; exact hsz q hq)
  have Hu0 := Lib.hid hu0
  have Hik := Lib.hid (fun n => show ∀ q ∈ Rep.idx (rs.map (·.1)) n, q.1.length = 32 from Rep.idx_key (fun r hr => by obtain ⟨q, hq, rfl⟩ := List.mem_map.1 hr; exact hk q hq))
  have h1 : Sat w0 w (rstPt ps last (.slice none 0 0) (.slice ua us.length uc) tv :: osl 117 35 (.slice none 0 0) ((Rep.idx (rs.map (·.1)) 0).flatMap kvL) :: osl 115 3 (.slice ua us.length uc) ((Rep.uAt (rs.map (·.1)) us 0).flatMap uenc) :: F) := by
    rw [Rep.uAt_zero]
    exact (Sat.osl_nil.2 h).sb
  clear hk hsl hlen hul hr h hsz hu0
  go_enter Tryz.func118, Tryz.ntmps118
  go_wp2_with fail
  go_loopg [4] rs.length (fun g iq wr => ∃ (i : Nat) (iv : Value), g = rs.length - i ∧ i ≤ rs.length ∧ iq = .int .i64 i ∧
    Sat w0 wr (rstPt ps last iv (.slice ua us.length uc) tv :: osl 117 35 iv ((Rep.idx (rs.map (·.1)) i).flatMap kvL) :: osl 115 3 (.slice ua us.length uc) ((Rep.uAt (rs.map (·.1)) us i).flatMap uenc) :: F))
  case atStart => exact ⟨0, .slice none 0 0, rfl, Nat.zero_le _, rfl, h1⟩
  case round =>
    obtain ⟨i, iv, rfl, hi, rfl, hS⟩ := hrel
    clear h1
    by_cases hlt : i < rs.length
    rotate_left
    · obtain rfl : i = rs.length := by omega
      have c1 : ¬ (rs.length : Int) < (rs.length : Int) := by omega
      clear hlt hi
      go_wp2_with fail
      (try simp only [Exit.inBlock, Exit.then]); refine bodyPost_ret (results_none rfl _ _ _) rfl ?_
      exact ⟨_, rfl, iv, hS⟩
    have c1 : (i : Int) < (rs.length : Int) := by omega
    have hwi : IntKind.i64.wrap ((i : Int) + 1) = (i : Int) + 1 := IntWalk.i64_in _ (by have := Hlen.out; omega)
    obtain ⟨q, hq⟩ : ∃ q, rs[i]? = some q := ⟨_, List.getElem?_eq_getElem hlt⟩
    obtain ⟨bk, off, c', e0, hc⟩ := row_at Hk.out (Hr.out _ hS.drop.drop.drop) hq
    cases e0
    have hqm := List.mem_of_getElem? hq
    have Hqk := Lib.hid (Hk.out q hqm)
    have Hql := Lib.hid (rwL_len q Hqk.out)
    have Hqo := Lib.hid (show (rwL q).all (·.oneCell') = true by obtain ⟨a, n, c, e⟩ := Hsl.out q hqm; exact rwL_ones q e)
    have hq1 : (rs.map (·.1))[i]? = some q.1 := by rw [List.getElem?_map, hq]; rfl
    have Hq1 := Lib.hid hq1
    have Hlt := Lib.hid hlt
    have Hqz := Lib.hid (Hsz.out q.1 (List.mem_of_getElem? hq1))
    clear hq hqm hq1 hi hlt
    go_wp2_with (first
      | ((with_reducible apply at_load); refine ⟨?_⟩; refine wl_loadW (b := bk) (o := off + i * 37) (rwL q) (by rfl) hc Tryz.underlying212 rfl (by rw [Hql.out]; exact infoRow) ?_)
      | (with_reducible apply at_alloc))
    refine ⟨?_⟩
    refine wl_alloc zRow hS rfl ?_
    intro b5 w5 h5
    go_wp2_with ((with_reducible apply at_store); refine ⟨?_⟩; refine wl_storeA (rwL q).toArray h5 (by rfl) (by rfl) (by rw [List.size_toArray, Hql.out]; rfl) upd0 (by rw [List.size_toArray, Hql.out]; exact infoRow) (by rw [List.toList_toArray]; exact Hqo.out) ?_; intro w6 h6)
    clear hS h5 hc
    have hcn := rcounts_c rs Hk.out Hsl.out i Hlt.out (Nat.le_trans Hlen.out (by decide)) (Ro.os Hr.out) h6
    refine hcn.mono ?_
    rintro ee w7 ⟨v, rfl, rfl, h7⟩
    clear hcn h6
    cases hcnt : Rep.cnt (rs.map (·.1)) i with
    | false =>
      have He1 := Lib.hid (Rep.idx_skip Hq1.out hcnt)
      have He2 := Lib.hid (Rep.uAt_skip (us := us) Hq1.out hcnt)
      clear hcnt
      go_wp2_with fail
      go_roundg (rs.length - (i + 1))
      case measure => have := Hlt.out; omega
      case rel => exact ⟨i + 1, iv, rfl, Hlt.out, by first | rfl | go_num, by rw [He1.out, He2.out]; exact h7.sb⟩
    | true =>
    have Hcnt := Lib.hid hcnt
    clear hcnt
    have fin : ∀ (w8 : World) (iv2 : Value), Sat w0 w8 (pt b5 (.cells (rwL q).toArray 212 (0,0)) :: rstPt ps last iv2 (.slice ua us.length uc) tv :: osl 117 35 iv2 ((Rep.idx (rs.map (·.1)) (i + 1)).flatMap kvL) :: osl 115 3 (.slice ua us.length uc) ((Rep.uMix (rs.map (·.1)) us i us.length).flatMap uenc) :: F) →
        Sat w0 w8 (rstPt ps last iv2 (.slice ua us.length uc) tv :: osl 117 35 iv2 ((Rep.idx (rs.map (·.1)) (i + 1)).flatMap kvL) :: osl 115 3 (.slice ua us.length uc) ((Rep.uAt (rs.map (·.1)) us (i + 1)).flatMap uenc) :: F) := fun w8 iv2 hw => by
      rw [Rep.uMix_all] at hw; exact hw.drop
    have Hfin := Lib.hid fin
    clear fin
    have e1 : w7.cell? ⟨b5, 1, none⟩ = some (.int .i64 q.1.2.e.tag) := h7.cellP pick0 1 (by rw [List.getElem?_toArray]; exact rwL_tag q)
    obtain ⟨r1, r2⟩ := rwL_at q Hqk.out
    have R1 := Lib.hid r1; have R2 := Lib.hid r2
    clear r1 r2
    by_cases h0 : q.1.2.e.tag = 0
    · have hb0 : (q.1.2.e.tag == 0) = true := beq_iff_eq.2 h0
      have Hidx := Lib.hid (Rep.idx_put Hq1.out Hcnt.out h0)
      clear h0
      go_wp2_with fail
      have h8 := h7.drew
      clear h7 e1
      have hki : ∀ q ∈ Rep.idx (rs.map (·.1)) i, q.1.length = 32 := Hik.out i
      refine wpL_begin [19, 20, 21, 22] (fun w' => w'.cell? ⟨ps, 1, none⟩ = some iv ∧ w'.rangeAt b5 2 (bys q.1.2.e.key) ∧ w'.cell? ⟨b5, 0, none⟩ = some (.int .i64 q.1.1) ∧ w'.cell? ⟨b5, 35, none⟩ = some (.int .i64 q.1.2.at_) ∧ w'.cell? ⟨b5, 36, none⟩ = some (.int .i64 q.1.2.size)) (by kernel_rfl) ?_
      have hG : World.cell? _ ⟨ps, 1, none⟩ = some iv ∧ World.rangeAt _ b5 2 (bys q.1.2.e.key) ∧ World.cell? _ ⟨b5, 0, none⟩ = some (.int .i64 q.1.1) ∧ World.cell? _ ⟨b5, 35, none⟩ = some (.int .i64 q.1.2.at_) ∧ World.cell? _ ⟨b5, 36, none⟩ = some (.int .i64 q.1.2.size) :=
        ⟨h8.cellP pick1 1 rfl, fun j v hj => h8.cellP pick0 (2 + j) (by rw [List.getElem?_toArray]; exact rwL_key q Hqk.out j v hj), h8.cellP pick0 0 (by rw [List.getElem?_toArray]; rfl), h8.cellP pick0 35 (by rw [List.getElem?_toArray]; exact R1.out), h8.cellP pick0 36 (by rw [List.getElem?_toArray]; exact R2.out)⟩
      refine rp 0 (hy := (yl_move evD)) (h := ?_)
      refine rp 1 (hy := (yl_move evD)) (h := ?_)
      refine rp 2 (hy := (yl_nil evD)) (h := ?_)
      refine rp 3 (hy := (yl_field evD rnD)) (h := ?_)
      refine rt 4 (h := ?_)
      refine rp 5 (hy := (yl_field evD rnD)) (h := ?_)
      refine rp 6 (hy := (yl_field evD rnD)) (h := ?_)
      refine rp 7 (hy := (yl_field evD rnD)) (h := ?_)
      refine rg_take 8 evD (by kernel_rfl) (by intro _ _ _ h; exact h) (tk_loadN (b := b5) (o := 2) (bys q.1.2.e.key) (by rfl) Tryz.underlying41 rfl (by rw [bys_len, Hqk.out]; exact infoID) (fun w hw => hw.2.1)) (by assumption) (by go_frame; first | done | rfl) ?_
      refine rp 9 (hy := (yl_field evD rnD)) (h := ?_)
      refine rt 10 (h := ?_)
      refine rp 11 (hy := (yl_field evD rnD)) (h := ?_)
      refine rp 12 (hy := (yl_field evD rnD)) (h := ?_)
      refine rt 13 (h := ?_)
      refine rp 14 (hy := (yl_field evD rnD)) (h := ?_)
      refine rp 15 (hy := (yl_field evD rnD)) (h := ?_)
      refine rt 16 (h := ?_)
      clear hG
      refine rp 17 (hy := (by (refine Or.inl ⟨by rfl, ?_⟩; ((intro wq; go_simp); first | done | (with_reducible rfl))))) (h := ?_)
      refine rp 18 (hy := (yl_build2 (v2 := .agg #[.int .i64 q.1.1, .int .i64 q.1.2.at_, .int .i64 q.1.2.size]) evD evD (fun w => run_kv q.1.2.e.key Hqk.out (Rep.rplc q.1) w))) (h := ?_)
      refine rg_eff 19 evD (by kernel_rfl) (fun K hK => ?_)
      refine eff_call2 (by kernel_rfl) evD evD ?_
      refine (rinsert_c (Rep.idx (rs.map (·.1)) i) hki (q.1.2.e.key, Rep.rplc q.1) Hqk.out (by have := Rep.idx_len (rs.map (·.1)) i; have := Hlt.out; have := Hlen.out; omega) (fun w hw => Sat.rd (hw.pick (pick_there (pick_there pick0)))) h8).mono ?_
      rintro ee w9 ⟨v, rfl, ov, rfl, h9⟩
      refine hK _ _ (.inl rfl) ?_
      clear hK h8
      obtain ⟨oa, on, oc, rfl, _⟩ := id (Sat.rd h9)
      refine rp 20 (hy := (yl_nil evD)) (h := ?_)
      refine rp 21 (hy := (yl_field evD rnD)) (h := ?_)
      refine rg_eff 22 evD (by kernel_rfl) (fun K hK => ?_)
      refine eff_store (cs' := #[.int .i64 last, .slice oa on oc, .slice ua us.length uc, tv]) h9 evD evD (by rfl) (upd_there (upd_there upd0)) (by show 1 + 1 ≤ 4; decide) (by kernel_rfl) (by rfl) ?_
      intro w10 h10
      refine hK _ _ (.inl rfl) ?_
      clear hK h9
      refine wpL_done (by kernel_rfl) ?_
      try simp only [List.getElem_toArray, List.getElem_cons_succ, List.getElem_cons_zero]
      try go_frame
      have h11 : Sat w0 w10 (pt b5 (.cells (rwL q).toArray 212 (0,0)) :: rstPt ps last (.slice oa on oc) (.slice ua us.length uc) tv :: osl 117 35 (.slice oa on oc) ((Rep.idx (rs.map (·.1)) (i + 1)).flatMap kvL) :: osl 115 3 (.slice ua us.length uc) ((Rep.uMix (rs.map (·.1)) us i 0).flatMap uenc) :: F) := by
        rw [Rep.uMix_zero, Hidx.out]
        exact h10.sb
      clear h10 hki
      go_wp2_with fail
      go_loopg [6] us.length (fun g kq wr => ∃ k : Nat, g = us.length - k ∧ k ≤ us.length ∧ kq = .int .i64 k ∧
        Sat w0 wr (pt b5 (.cells (rwL q).toArray 212 (0,0)) :: rstPt ps last (.slice oa on oc) (.slice ua us.length uc) tv :: osl 117 35 (.slice oa on oc) ((Rep.idx (rs.map (·.1)) (i + 1)).flatMap kvL) :: osl 115 3 (.slice ua us.length uc) ((Rep.uMix (rs.map (·.1)) us i k).flatMap uenc) :: F))
      case atStart => exact ⟨0, rfl, Nat.zero_le _, rfl, h11⟩
      case round =>
        obtain ⟨k, rfl, hki, rfl, hS⟩ := hrel
        clear h11
        have e2 : World.cell? _ ⟨ps, 2, none⟩ = some (.slice ua us.length uc) := hS.cellP pick1 2 rfl
        by_cases hkl : k < us.length
        rotate_left
        · obtain rfl : k = us.length := by omega
          have c2 : ¬ (us.length : Int) < (us.length : Int) := by omega
          have hSf := Hfin.out _ _ hS
          clear hkl hki hS
          go_wp2_with fail
          go_roundg (rs.length - (i + 1))
          case measure => have := Hlt.out; omega
          case rel => exact ⟨i + 1, .slice oa on oc, rfl, Hlt.out, by first | rfl | go_num, hSf⟩
        have c2 : (k : Int) < (us.length : Int) := by omega
        have hwk : IntKind.i64.wrap ((k : Int) + 1) = (k : Int) + 1 := IntWalk.i64_in _ (by have := Hul.out; omega)
        obtain ⟨u, hu⟩ : ∃ u, us[k]? = some u := ⟨_, List.getElem?_eq_getElem hkl⟩
        have hx := Rep.uMix_get (l := rs.map (·.1)) (i := i) hu
        have hrl : ((Rep.uMix (rs.map (·.1)) us i k).flatMap uenc).length = 3 * us.length := by rw [rows_len (k := 3) (f := uenc) fun u _ => rfl, Rep.uMix_len]
        obtain ⟨bu, ou, cu, hsv, _⟩ := osl_row (f := uenc) (k := 3) (fun u _ => rfl) (Sat.rd (hS.pick (pick_there (pick_there (pick_there pick0))))) hx (by decide)
        rw [Rep.uMix_len] at hsv
        cases hsv
        rcases Sat.osl_cases (hS.pick (pick_there (pick_there (pick_there pick0)))) with ⟨e, _⟩ | ⟨g', n', cap', cs', e, _⟩
        · cases e
        obtain rfl : ou = 0 := by injection e with e1; injection e1 with e2; injection e2
        clear e
        obtain ⟨bu', rfl⟩ : ∃ g, g = bu := ⟨_, rfl⟩
        have HC := Lib.hid (fun (w' : World) (R' : List HProp) (hw : Sat w0 w' (osl 115 3 (.slice (some ⟨bu', 0, none⟩) us.length uc) ((Rep.uMix (rs.map (·.1)) us i k).flatMap uenc) :: R')) => show w'.cell? ⟨bu', k * 3, none⟩ = some (.int .i64 u.seg) ∧ w'.cell? ⟨bu', k * 3 + 2, none⟩ = some (.int .i64 (u.live + Rep.live (rs.map (·.1)) u.seg i)) from by
          obtain ⟨b', o', c', hsv, hcell⟩ := osl_row (f := uenc) (k := 3) (fun u _ => rfl) (Sat.rd hw) hx (by decide)
          rw [Rep.uMix_len] at hsv
          cases hsv
          have h0 := hcell 0 _ rfl
          have h2 := hcell 2 _ rfl
          rw [Nat.zero_add] at h0 h2
          exact ⟨h0, h2⟩)
        have hlv0 := Hu0.out u (List.mem_of_getElem? hu)
        have hlb := Rep.live_le (b := 4294967296) (by decide) Hsz.out u.seg i
        have hqz := Hqz.out; have hlen := Hlen.out; have hlt := Hlt.out
        have hw1 : IntKind.i64.wrap (u.live + Rep.live (rs.map (·.1)) u.seg i + (q.1.2.size : Int)) = u.live + Rep.live (rs.map (·.1)) u.seg i + (q.1.2.size : Int) := IntWalk.i64_in _ (by omega)
        have Hkl := Lib.hid hkl; have Hu := Lib.hid hu
        have Hrl := Lib.hid hrl
        have Hrow := Lib.hid (rows_part (f := uenc) (k := 3) (o := 2) (x' := ⟨u.seg, u.size, u.live + Rep.live (rs.map (·.1)) u.seg i + (q.1.2.size : Int)⟩) (vs := [.int .i64 (u.live + Rep.live (rs.map (·.1)) u.seg i + (q.1.2.size : Int))]) (fun u _ => rfl) hx (by rfl) (by show 2 + 1 ≤ 3; decide))
        clear hx hrl hki hkl hu hlv0 hlb hqz hlen hlt
        go_wp2_with fail
        have hS1 := hS.drew
        clear hS e2
        have hcu := HC.out _ _ (hS1.pick (pick_there (pick_there (pick_there pick0))))
        by_cases hsg : u.seg = q.1.1
        · have hbs : (u.seg == q.1.1) = true := beq_iff_eq.2 hsg
          have Hnext := Lib.hid (Rep.uMix_add Hu.out Hq1.out Hcnt.out hsg.symm)
          refine wpL_begin [10] (fun w' => w'.cell? ⟨ps, 2, none⟩ = some (.slice (some ⟨bu', 0, none⟩) us.length uc) ∧ w'.cell? ⟨bu', k * 3, none⟩ = some (.int .i64 u.seg) ∧ w'.cell? ⟨b5, 0, none⟩ = some (.int .i64 q.1.1)) (by kernel_rfl) ?_
          have hG : World.cell? _ ⟨ps, 2, none⟩ = some (.slice (some ⟨bu', 0, none⟩) us.length uc) ∧ World.cell? _ ⟨bu', k * 3, none⟩ = some (.int .i64 u.seg) ∧ World.cell? _ ⟨b5, 0, none⟩ = some (.int .i64 q.1.1) :=
            ⟨hS1.cellP pick1 2 rfl, hcu.1, hS1.cellP pick0 0 (by rw [List.getElem?_toArray]; rfl)⟩
          clear hsg hcu
          refine rp 0 (hy := (yl_move evD)) (h := ?_)
          refine rp 1 (hy := (yl_nil evD)) (h := ?_)
          refine rp 2 (hy := (yl_field evD rnD)) (h := ?_)
          refine rt 3 (h := ?_)
          refine rp 4 (hy := (yl_move evD)) (h := ?_)
          refine rp 5 (hy := (yl_index evD evD rnD)) (h := ?_)
          refine rp 6 (hy := (yl_field evD rnD)) (h := ?_)
          refine rt 7 (h := ?_)
          refine rp 8 (hy := (yl_field evD rnD)) (h := ?_)
          refine rt 9 (h := ?_)
          clear hG
          refine rp 10 (hy := (yl_bin evD evD rnD)) (h := ?_)
          refine wpL_done (by kernel_rfl) ?_
          try simp only [List.getElem_toArray, List.getElem_cons_succ, List.getElem_cons_zero]
          try go_frame
          clear hbs
          go_wp2_with fail
          have hS2 := hS1.drew
          clear hS1
          have hcu := HC.out _ _ (hS2.pick (pick_there (pick_there (pick_there pick0))))
          refine wpL_begin [17, 18, 19] (fun w' => w'.cell? ⟨ps, 2, none⟩ = some (.slice (some ⟨bu', 0, none⟩) us.length uc) ∧ w'.cell? ⟨bu', k * 3 + 2, none⟩ = some (.int .i64 (u.live + Rep.live (rs.map (·.1)) u.seg i)) ∧ w'.cell? ⟨b5, 36, none⟩ = some (.int .i64 q.1.2.size)) (by kernel_rfl) ?_
          have hG : World.cell? _ ⟨ps, 2, none⟩ = some (.slice (some ⟨bu', 0, none⟩) us.length uc) ∧ World.cell? _ ⟨bu', k * 3 + 2, none⟩ = some (.int .i64 (u.live + Rep.live (rs.map (·.1)) u.seg i)) ∧ World.cell? _ ⟨b5, 36, none⟩ = some (.int .i64 q.1.2.size) :=
            ⟨hS2.cellP pick1 2 rfl, hcu.2, hS2.cellP pick0 36 (by rw [List.getElem?_toArray]; exact R2.out)⟩
          clear hcu
          refine rp 0 (hy := (yl_move evD)) (h := ?_)
          refine rp 1 (hy := (yl_nil evD)) (h := ?_)
          refine rp 2 (hy := (yl_field evD rnD)) (h := ?_)
          refine rt 3 (h := ?_)
          refine rp 4 (hy := (yl_move evD)) (h := ?_)
          refine rp 5 (hy := (yl_move evD)) (h := ?_)
          refine rp 6 (hy := (yl_nil evD)) (h := ?_)
          refine rp 7 (hy := (yl_field evD rnD)) (h := ?_)
          refine rt 8 (h := ?_)
          refine rp 9 (hy := (yl_move evD)) (h := ?_)
          refine rp 10 (hy := (yl_index evD evD rnD)) (h := ?_)
          refine rp 11 (hy := (yl_field evD rnD)) (h := ?_)
          refine rt 12 (h := ?_)
          refine rp 13 (hy := (yl_field evD rnD)) (h := ?_)
          refine rp 14 (hy := (yl_field evD rnD)) (h := ?_)
          refine rt 15 (h := ?_)
          clear hG
          refine rp 16 (hy := (yl_bin evD evD rnD)) (h := ?_)
          refine rp 17 (hy := (yl_index evD evD rnD)) (h := ?_)
          refine rp 18 (hy := (yl_field evD rnD)) (h := ?_)
          refine rg_eff 19 evD (by kernel_rfl) (fun K' hK' => ?_)
          refine eff_storeSN (vs := [.int .i64 (u.live + Rep.live (rs.map (·.1)) u.seg i + (q.1.2.size : Int))]) (k * 3 + 2) hS2 evD evD rfl (upd_there (upd_there (upd_there upd0))) (by rw [Hrl.out]; have := Hkl.out; show k * 3 + 2 + 1 ≤ _; omega) (by kernel_rfl) (by rfl) ?_
          intro w12 hS12
          refine hK' _ _ (.inl rfl) ?_
          clear hK' hS2
          refine wpL_done (by kernel_rfl) ?_
          rw [← Hrow.out, ← Hnext.out] at hS12
          go_wp2_with fail
          go_roundg (us.length - (k + 1))
          case measure => have := Hkl.out; omega
          case rel => exact ⟨k + 1, rfl, Hkl.out, by first | rfl | go_num, hS12⟩
        · have hbs : (u.seg == q.1.1) = false := by rw [beq_eq_false_iff_ne]; exact hsg
          have Hnext := Lib.hid (Rep.uMix_same Hu.out Hq1.out (fun e => hsg e.symm))
          refine wpL_begin [10] (fun w' => w'.cell? ⟨ps, 2, none⟩ = some (.slice (some ⟨bu', 0, none⟩) us.length uc) ∧ w'.cell? ⟨bu', k * 3, none⟩ = some (.int .i64 u.seg) ∧ w'.cell? ⟨b5, 0, none⟩ = some (.int .i64 q.1.1)) (by kernel_rfl) ?_
          have hG : World.cell? _ ⟨ps, 2, none⟩ = some (.slice (some ⟨bu', 0, none⟩) us.length uc) ∧ World.cell? _ ⟨bu', k * 3, none⟩ = some (.int .i64 u.seg) ∧ World.cell? _ ⟨b5, 0, none⟩ = some (.int .i64 q.1.1) :=
            ⟨hS1.cellP pick1 2 rfl, hcu.1, hS1.cellP pick0 0 (by rw [List.getElem?_toArray]; rfl)⟩
          clear hsg hcu
          refine rp 0 (hy := (yl_move evD)) (h := ?_)
          refine rp 1 (hy := (yl_nil evD)) (h := ?_)
          refine rp 2 (hy := (yl_field evD rnD)) (h := ?_)
          refine rt 3 (h := ?_)
          refine rp 4 (hy := (yl_move evD)) (h := ?_)
          refine rp 5 (hy := (yl_index evD evD rnD)) (h := ?_)
          refine rp 6 (hy := (yl_field evD rnD)) (h := ?_)
          refine rt 7 (h := ?_)
          refine rp 8 (hy := (yl_field evD rnD)) (h := ?_)
          refine rt 9 (h := ?_)
          clear hG
          refine rp 10 (hy := (yl_bin evD evD rnD)) (h := ?_)
          refine wpL_done (by kernel_rfl) ?_
          try simp only [List.getElem_toArray, List.getElem_cons_succ, List.getElem_cons_zero]
          try go_frame
          clear hbs
          go_wp2_with fail
          go_roundg (us.length - (k + 1))
          case measure => have := Hkl.out; omega
          case rel => exact ⟨k + 1, rfl, Hkl.out, by first | rfl | go_num, by rw [Hnext.out]; exact hS1⟩
    · have hb0 : (q.1.2.e.tag == 0) = false := by rw [beq_eq_false_iff_ne]; exact h0
      have Hidx := Lib.hid (Rep.idx_del Hq1.out h0)
      clear h0
      obtain ⟨oa, on, oc, rfl, _⟩ := id (Sat.rd (h7.pick (pick_there (pick_there pick0))))
      have h11 : Sat w0 w7 (pt b5 (.cells (rwL q).toArray 212 (0,0)) :: rstPt ps last (.slice oa on oc) (.slice ua us.length uc) tv :: osl 117 35 (.slice oa on oc) ((Rep.idx (rs.map (·.1)) (i + 1)).flatMap kvL) :: osl 115 3 (.slice ua us.length uc) ((Rep.uMix (rs.map (·.1)) us i 0).flatMap uenc) :: F) := by
        rw [Rep.uMix_zero, Hidx.out]
        exact h7
      clear h7
      go_wp2_with fail
      clear e1
      go_loopg [6] us.length (fun g kq wr => ∃ k : Nat, g = us.length - k ∧ k ≤ us.length ∧ kq = .int .i64 k ∧
        Sat w0 wr (pt b5 (.cells (rwL q).toArray 212 (0,0)) :: rstPt ps last (.slice oa on oc) (.slice ua us.length uc) tv :: osl 117 35 (.slice oa on oc) ((Rep.idx (rs.map (·.1)) (i + 1)).flatMap kvL) :: osl 115 3 (.slice ua us.length uc) ((Rep.uMix (rs.map (·.1)) us i k).flatMap uenc) :: F))
      case atStart => exact ⟨0, rfl, Nat.zero_le _, rfl, h11⟩
      case round =>
        obtain ⟨k, rfl, hki, rfl, hS⟩ := hrel
        clear h11
        have e2 : World.cell? _ ⟨ps, 2, none⟩ = some (.slice ua us.length uc) := hS.cellP pick1 2 rfl
        by_cases hkl : k < us.length
        rotate_left
        · obtain rfl : k = us.length := by omega
          have c2 : ¬ (us.length : Int) < (us.length : Int) := by omega
          have hSf := Hfin.out _ _ hS
          clear hkl hki hS
          go_wp2_with fail
          go_roundg (rs.length - (i + 1))
          case measure => have := Hlt.out; omega
          case rel => exact ⟨i + 1, .slice oa on oc, rfl, Hlt.out, by first | rfl | go_num, hSf⟩
        have c2 : (k : Int) < (us.length : Int) := by omega
        have hwk : IntKind.i64.wrap ((k : Int) + 1) = (k : Int) + 1 := IntWalk.i64_in _ (by have := Hul.out; omega)
        obtain ⟨u, hu⟩ : ∃ u, us[k]? = some u := ⟨_, List.getElem?_eq_getElem hkl⟩
        have hx := Rep.uMix_get (l := rs.map (·.1)) (i := i) hu
        have hrl : ((Rep.uMix (rs.map (·.1)) us i k).flatMap uenc).length = 3 * us.length := by rw [rows_len (k := 3) (f := uenc) fun u _ => rfl, Rep.uMix_len]
        obtain ⟨bu, ou, cu, hsv, _⟩ := osl_row (f := uenc) (k := 3) (fun u _ => rfl) (Sat.rd (hS.pick (pick_there (pick_there (pick_there pick0))))) hx (by decide)
        rw [Rep.uMix_len] at hsv
        cases hsv
        rcases Sat.osl_cases (hS.pick (pick_there (pick_there (pick_there pick0)))) with ⟨e, _⟩ | ⟨g', n', cap', cs', e, _⟩
        · cases e
        obtain rfl : ou = 0 := by injection e with e1; injection e1 with e2; injection e2
        clear e
        obtain ⟨bu', rfl⟩ : ∃ g, g = bu := ⟨_, rfl⟩
        have HC := Lib.hid (fun (w' : World) (R' : List HProp) (hw : Sat w0 w' (osl 115 3 (.slice (some ⟨bu', 0, none⟩) us.length uc) ((Rep.uMix (rs.map (·.1)) us i k).flatMap uenc) :: R')) => show w'.cell? ⟨bu', k * 3, none⟩ = some (.int .i64 u.seg) ∧ w'.cell? ⟨bu', k * 3 + 2, none⟩ = some (.int .i64 (u.live + Rep.live (rs.map (·.1)) u.seg i)) from by
          obtain ⟨b', o', c', hsv, hcell⟩ := osl_row (f := uenc) (k := 3) (fun u _ => rfl) (Sat.rd hw) hx (by decide)
          rw [Rep.uMix_len] at hsv
          cases hsv
          have h0 := hcell 0 _ rfl
          have h2 := hcell 2 _ rfl
          rw [Nat.zero_add] at h0 h2
          exact ⟨h0, h2⟩)
        have hlv0 := Hu0.out u (List.mem_of_getElem? hu)
        have hlb := Rep.live_le (b := 4294967296) (by decide) Hsz.out u.seg i
        have hqz := Hqz.out; have hlen := Hlen.out; have hlt := Hlt.out
        have hw1 : IntKind.i64.wrap (u.live + Rep.live (rs.map (·.1)) u.seg i + (q.1.2.size : Int)) = u.live + Rep.live (rs.map (·.1)) u.seg i + (q.1.2.size : Int) := IntWalk.i64_in _ (by omega)
        have Hkl := Lib.hid hkl; have Hu := Lib.hid hu
        have Hrl := Lib.hid hrl
        have Hrow := Lib.hid (rows_part (f := uenc) (k := 3) (o := 2) (x' := ⟨u.seg, u.size, u.live + Rep.live (rs.map (·.1)) u.seg i + (q.1.2.size : Int)⟩) (vs := [.int .i64 (u.live + Rep.live (rs.map (·.1)) u.seg i + (q.1.2.size : Int))]) (fun u _ => rfl) hx (by rfl) (by show 2 + 1 ≤ 3; decide))
        clear hx hrl hki hkl hu hlv0 hlb hqz hlen hlt
        go_wp2_with fail
        have hS1 := hS.drew
        clear hS e2
        have hcu := HC.out _ _ (hS1.pick (pick_there (pick_there (pick_there pick0))))
        by_cases hsg : u.seg = q.1.1
        · have hbs : (u.seg == q.1.1) = true := beq_iff_eq.2 hsg
          have Hnext := Lib.hid (Rep.uMix_add Hu.out Hq1.out Hcnt.out hsg.symm)
          refine wpL_begin [10] (fun w' => w'.cell? ⟨ps, 2, none⟩ = some (.slice (some ⟨bu', 0, none⟩) us.length uc) ∧ w'.cell? ⟨bu', k * 3, none⟩ = some (.int .i64 u.seg) ∧ w'.cell? ⟨b5, 0, none⟩ = some (.int .i64 q.1.1)) (by kernel_rfl) ?_
          have hG : World.cell? _ ⟨ps, 2, none⟩ = some (.slice (some ⟨bu', 0, none⟩) us.length uc) ∧ World.cell? _ ⟨bu', k * 3, none⟩ = some (.int .i64 u.seg) ∧ World.cell? _ ⟨b5, 0, none⟩ = some (.int .i64 q.1.1) :=
            ⟨hS1.cellP pick1 2 rfl, hcu.1, hS1.cellP pick0 0 (by rw [List.getElem?_toArray]; rfl)⟩
          clear hsg hcu
          refine rp 0 (hy := (yl_move evD)) (h := ?_)
          refine rp 1 (hy := (yl_nil evD)) (h := ?_)
          refine rp 2 (hy := (yl_field evD rnD)) (h := ?_)
          refine rt 3 (h := ?_)
          refine rp 4 (hy := (yl_move evD)) (h := ?_)
          refine rp 5 (hy := (yl_index evD evD rnD)) (h := ?_)
          refine rp 6 (hy := (yl_field evD rnD)) (h := ?_)
          refine rt 7 (h := ?_)
          refine rp 8 (hy := (yl_field evD rnD)) (h := ?_)
          refine rt 9 (h := ?_)
          clear hG
          refine rp 10 (hy := (yl_bin evD evD rnD)) (h := ?_)
          refine wpL_done (by kernel_rfl) ?_
          try simp only [List.getElem_toArray, List.getElem_cons_succ, List.getElem_cons_zero]
          try go_frame
          clear hbs
          go_wp2_with fail
          have hS2 := hS1.drew
          clear hS1
          have hcu := HC.out _ _ (hS2.pick (pick_there (pick_there (pick_there pick0))))
          refine wpL_begin [17, 18, 19] (fun w' => w'.cell? ⟨ps, 2, none⟩ = some (.slice (some ⟨bu', 0, none⟩) us.length uc) ∧ w'.cell? ⟨bu', k * 3 + 2, none⟩ = some (.int .i64 (u.live + Rep.live (rs.map (·.1)) u.seg i)) ∧ w'.cell? ⟨b5, 36, none⟩ = some (.int .i64 q.1.2.size)) (by kernel_rfl) ?_
          have hG : World.cell? _ ⟨ps, 2, none⟩ = some (.slice (some ⟨bu', 0, none⟩) us.length uc) ∧ World.cell? _ ⟨bu', k * 3 + 2, none⟩ = some (.int .i64 (u.live + Rep.live (rs.map (·.1)) u.seg i)) ∧ World.cell? _ ⟨b5, 36, none⟩ = some (.int .i64 q.1.2.size) :=
            ⟨hS2.cellP pick1 2 rfl, hcu.2, hS2.cellP pick0 36 (by rw [List.getElem?_toArray]; exact R2.out)⟩
          clear hcu
          refine rp 0 (hy := (yl_move evD)) (h := ?_)
          refine rp 1 (hy := (yl_nil evD)) (h := ?_)
          refine rp 2 (hy := (yl_field evD rnD)) (h := ?_)
          refine rt 3 (h := ?_)
          refine rp 4 (hy := (yl_move evD)) (h := ?_)
          refine rp 5 (hy := (yl_move evD)) (h := ?_)
          refine rp 6 (hy := (yl_nil evD)) (h := ?_)
          refine rp 7 (hy := (yl_field evD rnD)) (h := ?_)
          refine rt 8 (h := ?_)
          refine rp 9 (hy := (yl_move evD)) (h := ?_)
          refine rp 10 (hy := (yl_index evD evD rnD)) (h := ?_)
          refine rp 11 (hy := (yl_field evD rnD)) (h := ?_)
          refine rt 12 (h := ?_)
          refine rp 13 (hy := (yl_field evD rnD)) (h := ?_)
          refine rp 14 (hy := (yl_field evD rnD)) (h := ?_)
          refine rt 15 (h := ?_)
          clear hG
          refine rp 16 (hy := (yl_bin evD evD rnD)) (h := ?_)
          refine rp 17 (hy := (yl_index evD evD rnD)) (h := ?_)
          refine rp 18 (hy := (yl_field evD rnD)) (h := ?_)
          refine rg_eff 19 evD (by kernel_rfl) (fun K' hK' => ?_)
          refine eff_storeSN (vs := [.int .i64 (u.live + Rep.live (rs.map (·.1)) u.seg i + (q.1.2.size : Int))]) (k * 3 + 2) hS2 evD evD rfl (upd_there (upd_there (upd_there upd0))) (by rw [Hrl.out]; have := Hkl.out; show k * 3 + 2 + 1 ≤ _; omega) (by kernel_rfl) (by rfl) ?_
          intro w12 hS12
          refine hK' _ _ (.inl rfl) ?_
          clear hK' hS2
          refine wpL_done (by kernel_rfl) ?_
          rw [← Hrow.out, ← Hnext.out] at hS12
          go_wp2_with fail
          go_roundg (us.length - (k + 1))
          case measure => have := Hkl.out; omega
          case rel => exact ⟨k + 1, rfl, Hkl.out, by first | rfl | go_num, hS12⟩
        · have hbs : (u.seg == q.1.1) = false := by rw [beq_eq_false_iff_ne]; exact hsg
          have Hnext := Lib.hid (Rep.uMix_same Hu.out Hq1.out (fun e => hsg e.symm))
          refine wpL_begin [10] (fun w' => w'.cell? ⟨ps, 2, none⟩ = some (.slice (some ⟨bu', 0, none⟩) us.length uc) ∧ w'.cell? ⟨bu', k * 3, none⟩ = some (.int .i64 u.seg) ∧ w'.cell? ⟨b5, 0, none⟩ = some (.int .i64 q.1.1)) (by kernel_rfl) ?_
          have hG : World.cell? _ ⟨ps, 2, none⟩ = some (.slice (some ⟨bu', 0, none⟩) us.length uc) ∧ World.cell? _ ⟨bu', k * 3, none⟩ = some (.int .i64 u.seg) ∧ World.cell? _ ⟨b5, 0, none⟩ = some (.int .i64 q.1.1) :=
            ⟨hS1.cellP pick1 2 rfl, hcu.1, hS1.cellP pick0 0 (by rw [List.getElem?_toArray]; rfl)⟩
          clear hsg hcu
          refine rp 0 (hy := (yl_move evD)) (h := ?_)
          refine rp 1 (hy := (yl_nil evD)) (h := ?_)
          refine rp 2 (hy := (yl_field evD rnD)) (h := ?_)
          refine rt 3 (h := ?_)
          refine rp 4 (hy := (yl_move evD)) (h := ?_)
          refine rp 5 (hy := (yl_index evD evD rnD)) (h := ?_)
          refine rp 6 (hy := (yl_field evD rnD)) (h := ?_)
          refine rt 7 (h := ?_)
          refine rp 8 (hy := (yl_field evD rnD)) (h := ?_)
          refine rt 9 (h := ?_)
          clear hG
          refine rp 10 (hy := (yl_bin evD evD rnD)) (h := ?_)
          refine wpL_done (by kernel_rfl) ?_
          try simp only [List.getElem_toArray, List.getElem_cons_succ, List.getElem_cons_zero]
          try go_frame
          clear hbs
          go_wp2_with fail
          go_roundg (us.length - (k + 1))
          case measure => have := Hkl.out; omega
          case rel => exact ⟨k + 1, rfl, Hkl.out, by first | rfl | go_num, by rw [Hnext.out]; exact hS1⟩
end
section
variable {P : Program} {ops : Array Oper} {a : Act} {dst : Option Tmp} {t ty : TypeId} {pos : String} {after : Array Edge} {x y : Operand} {v vx vy : Value} {g : Option (Nat × Bool)}
theorem yg_slice_hi (hw : Region.wanted ⟨dst, .slice ty x none (some y) none, t, pos, after, g⟩ (yielded ops a.tmps) = true) (hx : a.eval x = vx) (hy : a.eval y = vy) (hr : ∀ w, (Instr.sliceAt ty vx none (some vy) none).run P w = .ok v w) : Yields P ops ⟨dst, .slice ty x none (some y) none, t, pos, after, g⟩ v a :=
  .inl ⟨hw, fun w => by simp only [execOp, hx, hy, Option.map_some, Option.map_none, Sem.run_bind, hr, Result.andThen_ok, Sem.run_pure]⟩
end
section
variable {w0 w : World} {F R : List HProp} {v bv dv x lv : Value}
theorem rdslB_take {l : Bs} {bk off n c : Nat} {w : World} (h : rdsl 1 (.slice (some ⟨bk, off, none⟩) n c) (bys l) w) (k : Nat) (hk : k ≤ l.length) : rdsl 1 (.slice (some ⟨bk, off, none⟩) k c) (bys (l.take k)) w := by
  obtain ⟨a', n', c', he, hl, hx⟩ := h
  cases he
  refine ⟨_, _, _, rfl, by rw [bys_len, List.length_take]; omega, fun j y hj => hx j y ?_⟩
  unfold bys at hj ⊢
  rw [List.map_take, List.getElem?_take] at hj
  split at hj
  · exact hj
  · cases hj
set_option maxRecDepth 20000 in
set_option maxHeartbeats 16000000 in
theorem rscan_c (l : Bs) (hr : Ro w0 F (rdsl 1 bv (bys l))) (hcap : capOk bv) (hl : l.length ≤ 268435456) (h : Sat w0 w F) :
    Calls Tryz.prog 117 #[bv] w (Rtn fun v w' => ∃ (fs : List (Frm.Fnd × Value)) (ov : Value), fs.map (·.1) = (Frm.scan l).1 ∧ (∀ p ∈ fs, p.1.e.key.length = 32) ∧ v = .tuple #[ov, .int .i64 (Frm.scan l).2.1, errno (Frm.scan l).2.2] ∧
      Sat w0 w' (osl 203 36 ov (fndsL fs) :: dataF fs :: F)) := by
  obtain ⟨ba, bn, bc, rfl, hbn, hbc⟩ := hcap
  have hln : bn = l.length := by
    obtain ⟨_, _, _, he, hl', _⟩ := hr w h
    cases he
    rw [bys_len, Nat.mul_one] at hl'; exact hl'.symm
  subst hln
  have Hr := Lib.hid hr; have Hl := Lib.hid hl; have Hbn := Lib.hid (show l.length ≤ bc ∧ bc ≤ 9223372036854775807 from ⟨hbn, hbc⟩)
  have hF := Lib.hid h
  clear hr hl hbn hbc
  by_cases h8 : l.length < 8
  · have Hf := Lib.hid (show Frm.scan l = ([], 0, 4) by
      unfold Frm.scan
      rw [if_neg]
      intro e
      have := congrArg List.length e
      rw [List.length_take] at this
      have h9 : Frm.magicB.length = 8 := rfl
      omega)
    have c1 : decide ((l.length : Int) < 8) = true := decide_eq_true (by omega)
    clear h8
    go_enter Tryz.func117, Tryz.ntmps117
    go_wp2_with fail
    have hS1 := h.drew
    clear h
    refine wpL_begin [] (fun w' => True) (by kernel_rfl) ?_
    have hG : True := trivial
    refine rp 0 (hy := (yl_move evD)) (h := ?_)
    refine rp 1 (hy := (yl_len evD rnD)) (h := ?_)
    refine rp 2 (hy := (yl_bin evD evD rnD)) (h := ?_)
    refine rp 3 (hy := (yl_move evD)) (h := ?_)
    refine rg_skip 4 evD (by kernel_rfl) (by intro _ _ _ h; exact h) (by rfl) (by go_frame; first | done | rfl) ?_
    refine rg_skip 5 evD (by kernel_rfl) (by intro _ _ _ h; exact h) (by rfl) (by go_frame; first | done | rfl) ?_
    refine rg_skip 6 evD (by kernel_rfl) (by intro _ _ _ h; exact h) (by rfl) (by go_frame; first | done | rfl) ?_
    refine rg_skip 7 evD (by kernel_rfl) (by intro _ _ _ h; exact h) (by rfl) (by go_frame; first | done | rfl) ?_
    refine rg_skip 8 evD (by kernel_rfl) (by intro _ _ _ h; exact h) (by rfl) (by go_frame; first | done | rfl) ?_
    refine rp 9 (hy := (yg_pick (by rfl) evD evD)) (h := ?_)
    refine wpL_done (by kernel_rfl) ?_
    clear hG
    try simp only [List.getElem_toArray, List.getElem_cons_succ, List.getElem_cons_zero]
    try go_frame
    go_wp2_with fail
    go_ret3
    refine ⟨_, rfl, [], _, by rw [Hf.out]; rfl, by simp, ?_, Sat.osl_nil.2 (Sat.emp.2 hS1)⟩
    rw [Hf.out]; rfl
  have hb8 : ¬ (l.length : Int) < 8 := by omega
  have hb8d : decide ((l.length : Int) < 8) = false := decide_eq_false hb8
  obtain ⟨bk, off, rfl⟩ : ∃ bk off, ba = some ⟨bk, off, none⟩ := by
    obtain ⟨b', o', hb, _⟩ := rdsl_cells (i := 0) (x := .int .u8 (l[0]'(by omega)).toNat) (Hr.out _ hF.out) (by unfold bys; rw [List.getElem?_map, List.getElem?_eq_getElem (by omega)]; rfl)
    exact ⟨_, _, hb⟩
  have H8 := Lib.hid (show 8 ≤ l.length by omega)
  have hbc8 : (8 : Int) ≤ (bc : Int) := by have := Hbn.out; omega
  have hsl : ∀ w, (Instr.sliceAt 42 (.slice (some ⟨bk, off, none⟩) l.length bc) none (some (.int .i64 8)) none).run Tryz.prog w = .ok (.slice (some ⟨bk, off, none⟩) 8 bc) w := fun w => by
    have h8 : (8 : Nat) ≤ bc := by omega
    go_simp
  clear h8
  by_cases hm : l.take 8 = Frm.magicB
  rotate_left
  · have Hf := Lib.hid (show Frm.scan l = ([], 0, 4) by unfold Frm.scan; rw [if_neg hm])
    have Hne := Lib.hid (show decide (l.take 8 = ([72, 79, 65, 82, 68, 83, 69, 71] : Bs)) = false from decide_eq_false hm)
    clear hm
    go_enter Tryz.func117, Tryz.ntmps117
    go_wp2_with fail
    have hS1 := h.drew
    clear h
    refine wpL_begin [] (fun w' => True) (by kernel_rfl) ?_
    have hG : True := trivial
    refine rp 0 (hy := (yl_move evD)) (h := ?_)
    refine rp 1 (hy := (yl_len evD rnD)) (h := ?_)
    refine rp 2 (hy := (yl_bin evD evD rnD)) (h := ?_)
    refine rp 3 (hy := (yl_move evD)) (h := ?_)
    refine rp 4 (hy := (yg_move (by rfl) evD)) (h := ?_)
    refine rp 5 (hy := (yg_slice_hi (by rfl) evD evD hsl)) (h := ?_)
    refine rg_eff 6 evD (by kernel_rfl) (fun K hK => ?_)
    refine eg_call [] (by rfl) (by kernel_rfl) (by rfl) ?_
    refine (rmagic_c hS1).mono ?_
    rintro ee w2 ⟨v, rfl, mb, rfl, hS2⟩
    refine hK _ _ (.inr (.inl trivial)) ?_
    clear hK
    refine rg_eff 7 evD (by kernel_rfl) (fun K hK => ?_)
    refine eg_call [.slice (some ⟨bk, off, none⟩) 8 bc, .slice (some ⟨mb, 0, none⟩) 8 8] (by rfl) (by kernel_rfl) (by rfl) ?_
    refine (rsame_c (l.take 8) [72, 79, 65, 82, 68, 83, 69, 71] (fun w hw => rdslB_take (Hr.out w (hw.sb)) 8 H8.out) (fun w hw => Sat.rd hw) hS2 (by rw [List.length_take]; have := Hl.out; omega)).mono ?_
    rintro ee w3 ⟨v, rfl, rfl, hS3⟩
    refine hK _ _ (.inr (.inl trivial)) ?_
    clear hK
    rw [Hne.out]
    refine rp 8 (hy := (yg_un (by rfl) evD rnD)) (h := ?_)
    refine rp 9 (hy := (yg_pick (by rfl) evD evD)) (h := ?_)
    refine wpL_done (by kernel_rfl) ?_
    clear hG
    try simp only [List.getElem_toArray, List.getElem_cons_succ, List.getElem_cons_zero]
    try go_frame
    go_wp2_with fail
    go_ret3
    refine ⟨_, rfl, [], _, by rw [Hf.out]; rfl, by simp, ?_, Sat.osl_nil.2 (Sat.emp.2 (hS3.sb))⟩
    rw [Hf.out]; rfl
  have Hf := Lib.hid (show Frm.scan l = Frm.scanL l.length (l.drop 8) 8 by unfold Frm.scan; rw [if_pos hm])
  have Hne := Lib.hid (show decide (l.take 8 = ([72, 79, 65, 82, 68, 83, 69, 71] : Bs)) = true from decide_eq_true hm)
  clear hm
  go_enter Tryz.func117, Tryz.ntmps117
  go_wp2_with fail
  have hS1 := h.drew
  clear h
  refine wpL_begin [] (fun w' => True) (by kernel_rfl) ?_
  have hG : True := trivial
  refine rp 0 (hy := (yl_move evD)) (h := ?_)
  refine rp 1 (hy := (yl_len evD rnD)) (h := ?_)
  refine rp 2 (hy := (yl_bin evD evD rnD)) (h := ?_)
  refine rp 3 (hy := (yl_move evD)) (h := ?_)
  refine rp 4 (hy := (yg_move (by rfl) evD)) (h := ?_)
  refine rp 5 (hy := (yg_slice_hi (by rfl) evD evD hsl)) (h := ?_)
  refine rg_eff 6 evD (by kernel_rfl) (fun K hK => ?_)
  refine eg_call [] (by rfl) (by kernel_rfl) (by rfl) ?_
  refine (rmagic_c hS1).mono ?_
  rintro ee w2 ⟨v, rfl, mb, rfl, hS2⟩
  refine hK _ _ (.inr (.inl trivial)) ?_
  clear hK
  refine rg_eff 7 evD (by kernel_rfl) (fun K hK => ?_)
  refine eg_call [.slice (some ⟨bk, off, none⟩) 8 bc, .slice (some ⟨mb, 0, none⟩) 8 8] (by rfl) (by kernel_rfl) (by rfl) ?_
  refine (rsame_c (l.take 8) [72, 79, 65, 82, 68, 83, 69, 71] (fun w hw => rdslB_take (Hr.out w (hw.sb)) 8 H8.out) (fun w hw => Sat.rd hw) hS2 (by rw [List.length_take]; have := Hl.out; omega)).mono ?_
  rintro ee w3 ⟨v, rfl, rfl, hS3⟩
  refine hK _ _ (.inr (.inl trivial)) ?_
  clear hK
  rw [Hne.out]
  refine rp 8 (hy := (yg_un (by rfl) evD rnD)) (h := ?_)
  refine rp 9 (hy := (yg_pick (by rfl) evD evD)) (h := ?_)
  refine wpL_done (by kernel_rfl) ?_
  clear hG
  try simp only [List.getElem_toArray, List.getElem_cons_succ, List.getElem_cons_zero]
  try go_frame
  have hS4 : Sat w0 w3 F := hS3.sb
  clear hS1 hS2 hS3 hsl hb8 hb8d
  go_wp2_with fail
  go_loopg [5, 6] (l.length - 8) (fun g ov aq wr => ∃ (at_ : Nat) (fs : List (Frm.Fnd × Value)), g = l.length - at_ ∧ 8 ≤ at_ ∧ at_ ≤ l.length ∧ 9 * fs.length ≤ at_ ∧ aq = .int .i64 at_ ∧ (∀ p ∈ fs, p.1.e.key.length = 32) ∧
    (∃ k, l.length - at_ ≤ k ∧ Frm.scan l = (fs.map (·.1) ++ (Frm.scanL k (l.drop at_) at_).1, (Frm.scanL k (l.drop at_) at_).2)) ∧
    Sat w0 wr (osl 203 36 ov (fndsL fs) :: dataF fs :: F))
  case atStart =>
    exact ⟨8, [], rfl, Nat.le_refl _, H8.out, Nat.zero_le _, rfl, by simp, ⟨l.length, by omega, by rw [Hf.out]; rfl⟩, Sat.osl_nil.2 (Sat.emp.2 hS4)⟩
  case round =>
    obtain ⟨at_, fs, rfl, h8, hat, hfl, rfl, hfk, ⟨k, hk, hsc⟩, hS⟩ := hrel
    have Hk := Lib.hid hk; have Hsc := Lib.hid hsc; have Hfk := Lib.hid hfk; have Hat := Lib.hid (show at_ ≤ l.length ∧ 8 ≤ at_ ∧ 9 * fs.length ≤ at_ from ⟨hat, h8, hfl⟩)
    clear hk hsc hfk h8 hfl hS4
    by_cases hlt : at_ < l.length
    · have c1 : (at_ : Int) < (l.length : Int) := by omega
      have c2 : (at_ : Int) ≤ (bc : Int) := by have := Hbn.out; omega
      have c3 : (l.length : Int) ≤ (bc : Int) := by have := Hbn.out; omega
      have c4 : (at_ : Int) ≤ (l.length : Int) := by omega
      have c5 : (0 : Int) ≤ (at_ : Int) := by omega
      have c6 : ¬ bc = at_ := by have := Hbn.out; omega
      have hsl : ∀ w, (Instr.sliceAt 42 (.slice (some ⟨bk, off, none⟩) l.length bc) (some (.int .i64 at_)) none none).run Tryz.prog w = .ok (.slice (some ⟨bk, off + at_, none⟩) (l.length - at_) (bc - at_)) w := by
        intro w
        go_simp
      have hrd := Lib.hid (fun w hw => rdsl_sub (Hr.out w hw) at_ l.length (bc - at_) hat (Nat.le_refl _))
      rw [List.take_length] at hrd
      have Hlt := Lib.hid hlt
      clear hlt hat
      go_wp2_with ((with_reducible apply at_slice1); refine ⟨?_⟩; refine wl_slice1 (by rfl) (by rfl) hsl ?_)
      refine (rread7_c (l.drop at_) (Ro.os hrd.out) ⟨_, _, _, rfl, by have := Hbn.out; omega, by have := Hbn.out; omega⟩ (by rw [List.length_drop]; have := Hl.out; omega) hS).mono ?_
      rintro ee w2 ⟨v, rfl, da, dc, rfl, hS2⟩
      have Hrk := Lib.hid (Frm.read_key (l.drop at_))
      obtain ⟨k, rfl⟩ : ∃ k', k = k' + 1 := ⟨k - 1, by have := Hk.out; have := Hlt.out; omega⟩
      have Hne := Lib.hid (show l.drop at_ ≠ [] by
        intro h0
        have := congrArg List.length h0
        rw [List.length_drop] at this
        have := Hlt.out
        simp only [List.length_nil] at *
        omega)
      by_cases hz : (Frm.read (l.drop at_)).2.2 = 0
      · have Hok := Lib.hid (Frm.read_ok hz)
        have Hsc2 := Lib.hid (show Frm.scan l = (fs.map (·.1) ++ (⟨(Frm.read (l.drop at_)).1, at_, (Frm.read (l.drop at_)).2.1⟩ :: (Frm.scanL k ((l.drop at_).drop (Frm.read (l.drop at_)).2.1) (at_ + (Frm.read (l.drop at_)).2.1)).1), (Frm.scanL k ((l.drop at_).drop (Frm.read (l.drop at_)).2.1) (at_ + (Frm.read (l.drop at_)).2.1)).2) by
          rw [Hsc.out]
          simp only [Frm.scanL]
          rw [if_neg Hne.out, if_neg (fun h => h hz)])
        have hN := Hok.out.2.1
        rw [List.length_drop] at hN
        rw [List.drop_drop] at Hsc2
        generalize Frm.read (l.drop at_) = r at *
        obtain ⟨e, n, er⟩ := r
        obtain rfl : er = 0 := hz
        have Hn := Lib.hid (show 9 ≤ n ∧ n ≤ l.length - at_ from ⟨Hok.out.1, hN⟩)
        have Hkey := Lib.hid (show e.key.length = 32 from Hrk.out)
        clear hN Hsc Hrk Hok
        try clear hz
        simp only at Hsc2 hS2
        have hw : IntKind.i64.wrap ((at_ : Int) + (n : Int)) = ((at_ + n : Nat) : Int) := by
          rw [IntWalk.i64_in _ (by have := Hn.out; have := Hl.out; omega)]; omega
        have hlen : (fndsL fs).length ≤ 2147483648 := by
          rw [fndsL_len Hfk.out]
          have := Hat.out; have := Hl.out; omega
        go_wp2_with (first
          | ((with_reducible apply at_allocE); refine ⟨?_⟩; refine wl_allocE (by assumption) ?_; intro bE wE hE) | ((with_reducible apply at_storeE); refine ⟨?_⟩; first | (refine wl_storeE (by assumption) (by rfl) (by rfl) (by first | rfl | assumption | exact Hid.out (by assumption)) upD (by first | assumption | exact entA_size _ _ rfl | exact entA_size _ _ (by assumption) | exact entA_size _ _ (Hid.out (by assumption))) ?_; intro wS hS) | (refine wl_storeE (e := Frm.zeroE) (da := none) (dn := 0) (dc := 0) (by assumption) (by rfl) (by rfl) rfl upD (by first | assumption | exact entA_size _ _ rfl | exact entA_size _ _ (by assumption) | exact entA_size _ _ (Hid.out (by assumption))) ?_; intro wS hS)) | ((with_reducible apply at_loadE); refine ⟨?_⟩; refine wl_loadE (by assumption) (by rfl) pkD (by first | rfl | assumption | exact Hid.out (by assumption)) ?_)
          | ((with_reducible apply at_build3); refine ⟨?_⟩; refine wl_build3 (by rfl) (by rfl) (by rfl) (fun w => run_buildFnd e Hkey.out da _ dc at_ n w) ?_)
          | ((with_reducible apply at_build1); refine ⟨?_⟩; refine wl_build1 (e := 203) (sz := 36) (by' := 80) (by kernel_rfl) (by assumption) evD (cs := fndA ⟨e, at_, n⟩ (.slice da e.data.length dc)) rfl (fndA_size _ _ Hkey.out) (Nat.le_of_ble_eq_true (by rfl)) ?_; intro bN wN hN)
          | ((with_reducible apply at_append); refine ⟨?_⟩; refine wl_app 203 36 80 (by kernel_rfl) (by assumption) (by rfl) (by rfl) pkD pkD ((fndA_size _ _ Hkey.out).trans (by decide)) (Nat.le_refl 1) (fndA_ones _ _ _ _) hlen (by rw [fndA_size _ _ Hkey.out]; decide) (by decide) rfl ?_; intro bA nA cA wA hA))
        go_roundg (l.length - (at_ + n))
        case measure => have := Hn.out; omega
        case rel =>
          refine ⟨at_ + n, fs ++ [(⟨e, at_, n⟩, .slice da e.data.length dc)], rfl, by have := Hat.out; omega, by have := Hn.out; have := Hat.out; omega, by rw [List.length_append, List.length_singleton]; have := Hat.out; have := Hn.out; omega, by first | rfl | go_num, ?_, ⟨k, by have := Hn.out; have := Hk.out; omega, ?_⟩, ?_⟩
          · intro p hp
            rw [List.mem_append] at hp
            rcases hp with hp | hp
            · exact Hfk.out p hp
            · rw [List.mem_singleton] at hp; subst hp; exact Hkey.out
          · rw [Hsc2.out, List.map_append, List.append_assoc]; rfl
          · rw [fndsL_app, dataF_snoc]
            have e9 : fndsL [((⟨e, at_, n⟩ : Frm.Fnd), Value.slice da e.data.length dc)] = (fndA ⟨e, at_, n⟩ (.slice da e.data.length dc)).toList := by
              unfold fndsL fndA; simp
            rw [e9]
            have h10 : Sat w0 wA (bsl (.slice da e.data.length dc) e.data :: dataF fs :: osl 203 36 (.slice (some ⟨bA, 0, none⟩) nA cA) (fndsL fs ++ (fndA ⟨e, at_, n⟩ (.slice da e.data.length dc)).toList) :: F) := hA.sb
            exact (Sat.star.2 h10).pick1
      · have hfin := Lib.hid (show Frm.scan l = (fs.map (·.1), at_, (Frm.read (l.drop at_)).2.2) by
          rw [Hsc.out]
          simp only [Frm.scanL]
          rw [if_neg Hne.out, if_pos hz, List.append_nil])
        have c9 : ((Frm.read (l.drop at_)).2.2 == 0) = false := by rw [beq_eq_false_iff_ne]; exact hz
        clear hz Hsc
        go_wp2_with (first | ((with_reducible apply at_allocE); refine ⟨?_⟩; refine wl_allocE (by assumption) ?_; intro bE wE hE) | ((with_reducible apply at_storeE); refine ⟨?_⟩; first | (refine wl_storeE (by assumption) (by rfl) (by rfl) (by first | rfl | assumption | exact Hid.out (by assumption)) upD (by first | assumption | exact entA_size _ _ rfl | exact entA_size _ _ (by assumption) | exact entA_size _ _ (Hid.out (by assumption))) ?_; intro wS hS) | (refine wl_storeE (e := Frm.zeroE) (da := none) (dn := 0) (dc := 0) (by assumption) (by rfl) (by rfl) rfl upD (by first | assumption | exact entA_size _ _ rfl | exact entA_size _ _ (by assumption) | exact entA_size _ _ (Hid.out (by assumption))) ?_; intro wS hS)) | ((with_reducible apply at_loadE); refine ⟨?_⟩; refine wl_loadE (by assumption) (by rfl) pkD (by first | rfl | assumption | exact Hid.out (by assumption)) ?_))
        go_ret3
        refine ⟨_, rfl, fs, u5, by rw [hfin.out], Hfk.out, ?_, Sat.sb (by assumption)⟩
        rw [hfin.out]; rfl
    · have c1 : ¬ (at_ : Int) < (l.length : Int) := by omega
      have hfin := Lib.hid (show Frm.scan l = (fs.map (·.1), at_, 0) by
        rw [Hsc.out, List.drop_of_length_le (by omega)]
        cases k <;> simp [Frm.scanL])
      clear hlt hat
      go_wp2
      go_ret3
      refine ⟨_, rfl, fs, by rw [hfin.out], fun a b hm => Hfk.out _ hm, u5, ?_, hS⟩
      rw [hfin.out]; rfl
end
section
variable {w0 w : World} {F : List HProp} {q d K : Nat} {L : Seg.Log} {D : Med} {bt : Rep.Told}
set_option maxRecDepth 20000 in
set_option maxHeartbeats 16000000 in
theorem rlast_c (hL : L.Ok) (hD : Seg.Fit K D) (hb : ∀ s ∈ L.segs, D.all (Seg.name s) = bt s) (h : Sat w0 w (RLogRep q d L :: DskRep d D :: F)) :
    Calls Tryz.prog 40 #[ptr q] w (Rtn fun v w' => v = .tuple #[.int .i64 (Rep.split bt L.segs L.segs.length).1, errno (Rep.split bt L.segs L.segs.length).2] ∧ Sat w0 w' (RLogRep q d L :: DskRep d D :: F)) := by
  have Hsl := Lib.hid (show L.segs.length = L.l.length from List.length_map ..)
  have Hlen := Lib.hid (show L.l.length ≤ 1048576 from by have := hL.len; omega)
  obtain ⟨lv, hR⟩ := RLogRep.open h
  obtain ⟨la, lc, rfl⟩ := sgs_sl (Sat.rd (hR.pick pick1))
  have e2 : w.cell? ⟨q, 2, none⟩ = some (.slice la L.l.length lc) := hR.cellP pick0 2 rfl
  have HD := Lib.hid hD; have Hb := Lib.hid hb
  have Hnow := Lib.hid (show D.now.length ≤ 1048576 from Nat.le_trans hD.now (by decide))
  clear h hL hD hb
  go_enter Tryz.func40, Tryz.ntmps40
  go_wp2_with fail
  clear e2
  go_loopg [4] L.l.length (fun g iq wr => ∃ k : Nat, g = 0 + k ∧ k ≤ L.l.length ∧ iq = .int .i64 k ∧ Rep.split bt L.segs L.segs.length = Rep.split bt L.segs k ∧
    Sat w0 wr (rlogPt q d L (.slice la L.l.length lc) :: osl 84 2 (.slice la L.l.length lc) (segw L.l) :: DskRep d D :: F))
  case atStart => exact ⟨L.l.length, (Nat.zero_add _).symm, Nat.le_refl _, rfl, by rw [Hsl.out], hR⟩
  case round =>
    obtain ⟨k, rfl, hk, rfl, he, hS⟩ := hrel
    clear hR
    cases k with
    | zero =>
      have c1 : decide (((0 : Nat) : Int) > 0) = false := by decide
      have He := Lib.hid he
      clear he hk
      go_wp2_with fail
      go_ret2
      rw [He.out]
      exact ⟨_, rfl, rfl, RLogRep.shut hS⟩
    | succ k =>
      obtain ⟨Z, hz⟩ : ∃ Z : Int, Z = ((k + 1 : Nat) : Int) := ⟨_, rfl⟩
      rw [← hz]
      have HZ := Lib.hid hz
      have c1 : decide (Z > 0) = true := decide_eq_true (by omega)
      have c2 : (k : Int) < (L.l.length : Int) := by omega
      have w2 : IntKind.i64.wrap (Z - 1) = (k : Int) := by rw [IntWalk.i64_in _ (by have := Hlen.out; omega)]; omega
      clear hz
      obtain ⟨s, hs⟩ : ∃ s, L.l[k]? = some s := ⟨_, List.getElem?_eq_getElem (by omega)⟩
      have hss : L.segs[k]? = some s.1 := by unfold Seg.Log.segs; rw [List.getElem?_map, hs]; rfl
      have hgd : L.segs.getD k 0 = s.1 := by rw [List.getD, hss]; rfl
      have hbs := Hb.out s.1 (List.mem_of_getElem? hss)
      have Hu := Lib.hid (show Rep.split bt L.segs (k + 1) = if (D.all (Seg.name s.1)).2 ≠ 0 then (0, (D.all (Seg.name s.1)).2) else if (Frm.scan (D.all (Seg.name s.1)).1).2.2 = 0 ∧ Rep.endedF (Frm.scan (D.all (Seg.name s.1)).1).1 = true then (k + 1, 0) else Rep.split bt L.segs k by
        rw [Rep.split, hgd, hbs])
      have He := Lib.hid he; have Hk := Lib.hid hk
      obtain ⟨bk, off, rfl, c0, _⟩ := sgs_cells (Sat.rd (hS.pick pick1)) hs
      have HC := Lib.hid (fun (w' : World) (F' : List HProp) (h' : Sat w0 w' (osl 84 2 (.slice (some ⟨bk, off, none⟩) L.l.length lc) (segw L.l) :: F')) => show w'.cell? ⟨bk, off + k * 2, none⟩ = some (.int .i64 s.1) from by
        obtain ⟨_, _, he, c0, _⟩ := sgs_cells h'.rd hs
        cases he
        exact c0)
      have hra := fun w' (hw : Sat w0 w' (rlogPt q d L (.slice (some ⟨bk, off, none⟩) L.l.length lc) :: osl 84 2 (.slice (some ⟨bk, off, none⟩) L.l.length lc) (segw L.l) :: DskRep d D :: F)) => rall_c (Seg.name s.1) Hnow.out (fun i hi => HD.out.len hi) (hw.pick (pick_there (pick_there pick0)))
      have Hra := Lib.hid hra
      have Hbl := Lib.hid (all_len HD.out.ok (Seg.name s.1))
      clear he hk hs hss hgd hbs c0 hra
      obtain ⟨sn, sz⟩ := s
      dsimp only at Hu HC Hra Hbl
      generalize D.all (Seg.name sn) = A at *
      obtain ⟨b, e⟩ := A
      dsimp only at Hu HC Hra Hbl
      have hS1 := hS.drew
      clear hS
      go_wp2_with fail
      refine wpL_begin [14, 15, 16, 17, 18, 19] (fun w' => w'.cell? ⟨q, 0, none⟩ = some (ptr d) ∧ w'.cell? ⟨q, 2, none⟩ = some (.slice (some ⟨bk, off, none⟩) L.l.length lc) ∧ w'.cell? ⟨bk, off + k * 2, none⟩ = some (.int .i64 sn)) (by kernel_rfl) ?_
      have hG : World.cell? _ ⟨q, 0, none⟩ = some (ptr d) ∧ World.cell? _ ⟨q, 2, none⟩ = some (.slice (some ⟨bk, off, none⟩) L.l.length lc) ∧ World.cell? _ ⟨bk, off + k * 2, none⟩ = some (.int .i64 sn) := ⟨hS1.cellP pick0 0 rfl, hS1.cellP pick0 2 rfl, HC.out _ _ (hS1.pick pick1)⟩
      refine rp 0 (hy := (yl_move evD)) (h := ?_)
      refine rp 1 (hy := (yl_nil evD)) (h := ?_)
      refine rp 2 (hy := (yl_field evD rnD)) (h := ?_)
      refine rt 3 (h := ?_)
      refine rp 4 (hy := (yl_move evD)) (h := ?_)
      refine rp 5 (hy := (yl_nil evD)) (h := ?_)
      refine rp 6 (hy := (yl_field evD rnD)) (h := ?_)
      refine rt 7 (h := ?_)
      refine rp 8 (hy := (yl_move evD)) (h := ?_)
      refine rp 9 (hy := (yl_bin evD evD rnD)) (h := ?_)
      refine rp 10 (hy := (yl_index evD evD rnD)) (h := ?_)
      refine rp 11 (hy := (yl_field evD rnD)) (h := ?_)
      refine rt 12 (h := ?_)
      clear hG
      refine rg_eff 13 evD (by kernel_rfl) (fun K hK => ?_)
      (refine eff_call1 (by kernel_rfl) evD ?_)
      refine (rname_c sn _).mono ?_
      rintro ee w3 ⟨v, rfl, rfl, rfl⟩
      refine hK _ _ (.inr (.inr rfl)) ?_
      clear hK
      refine rg_eff 14 evD (by kernel_rfl) (fun K hK => ?_)
      (refine eff_call2 (by kernel_rfl) evD evD ?_)
      refine (Hra.out _ hS1).mono ?_
      rintro ee w4 ⟨v, rfl, bv, rfl, hS4⟩
      refine hK _ _ (.inl rfl) ?_
      clear hK hS1
      obtain ⟨hcap, ba, bc, rfl⟩ := bsl_capL hS4
      refine rp 15 (hy := (yl_move evD)) (h := ?_)
      refine rp 16 (hy := (yl_extract evD rnD)) (h := ?_)
      refine rp 17 (hy := (yl_extract evD rnD)) (h := ?_)
      refine rp 18 (hy := (yl_assign evD)) (h := ?_)
      refine rp 19 (hy := (yl_assign evD)) (h := ?_)
      refine wpL_done (by kernel_rfl) ?_
      try simp only [List.getElem_toArray, List.getElem_cons_succ, List.getElem_cons_zero]
      try go_frame
      by_cases h0 : e = 0
      rotate_left
      · have hbe : (e != 0) = true := by rw [bne_iff_ne]; exact h0
        have hbe2 : (e == 0) = false := by rw [beq_eq_false_iff_ne]; exact h0
        have Hf := Lib.hid (show Rep.split bt L.segs (k + 1) = (0, e) by rw [Hu.out, if_pos h0])
        clear h0
        go_wp2_with fail
        go_ret2
        rw [He.out, Hf.out]
        have hS9 : Sat w0 _ (rlogPt q d L (.slice (some ⟨bk, off, none⟩) L.l.length lc) :: osl 84 2 (.slice (some ⟨bk, off, none⟩) L.l.length lc) (segw L.l) :: DskRep d D :: F) := hS4.sb
        exact ⟨_, rfl, rfl, RLogRep.shut hS9⟩
      subst h0
      have hsc := rscan_c b (Ro.bsl _ _) hcap (Nat.le_trans Hbl.out (by decide)) hS4
      go_wp2_with fail
      refine hsc.mono ?_
      rintro ee w5 ⟨v, rfl, fs, fv, hfs, hfk, rfl, hS5⟩
      clear hsc hS4 hcap
      obtain ⟨fa, fc, rfl⟩ := fnds_sl hfk hS5
      have hS6 : Sat w0 w5 (rlogPt q d L (.slice (some ⟨bk, off, none⟩) L.l.length lc) :: osl 84 2 (.slice (some ⟨bk, off, none⟩) L.l.length lc) (segw L.l) :: DskRep d D :: F) := hS5.sb
      by_cases h1 : (Frm.scan b).2.2 = 0
      rotate_left
      · have hb1 : ((Frm.scan b).2.2 == 0) = false := by rw [beq_eq_false_iff_ne]; exact h1
        have Hf := Lib.hid (show Rep.split bt L.segs (k + 1) = Rep.split bt L.segs k by rw [Hu.out, if_neg (by simp), if_neg (fun h => h1 h.1)])
        clear h1 hS5 hfs hfk
        go_wp2_with fail
        go_roundg (0 + k)
        case measure => omega
        case rel => exact ⟨k, rfl, Nat.le_of_succ_le Hk.out, by first | rfl | go_num, He.out.trans Hf.out, hS6⟩
      have hb1 : ((Frm.scan b).2.2 == 0) = true := beq_iff_eq.2 h1
      have hfl : fs.length ≤ 16777216 := by
        have := Frm.scan_count b
        rw [← hfs, List.length_map] at this
        have := Hbl.out; omega
      cases hg : fs.getLast? with
      | none =>
        obtain rfl : fs = [] := List.getLast?_eq_none_iff.1 hg
        have Hf := Lib.hid (show Rep.split bt L.segs (k + 1) = Rep.split bt L.segs k by
          rw [Hu.out, if_neg (by simp), if_neg (fun h => by
            have h2 := h.2
            rw [← hfs] at h2
            exact Bool.false_ne_true h2)])
        have c5 : decide ((([] : List (Frm.Fnd × Value)).length : Int) > 0) = false := by decide
        clear h1 hS5 hfs hfk hg
        go_wp2_with fail
        go_roundg (0 + k)
        case measure => omega
        case rel => exact ⟨k, rfl, Nat.le_of_succ_le Hk.out, by first | rfl | go_num, He.out.trans Hf.out, hS6⟩
      | some p =>
        have hlen : 0 < fs.length := List.length_pos_iff.2 (by intro e; rw [e] at hg; cases hg)
        have hi : fs[fs.length - 1]? = some p := by rw [← List.getLast?_eq_getElem?]; exact hg
        obtain ⟨fb, fo, fc', e9, hc⟩ := tag_cell hfk (Sat.rd hS5) hi
        cases e9
        have hend : Rep.endedF (Frm.scan b).1 = (p.1.e.tag == 2) := by
          rw [← hfs]; unfold Rep.endedF; rw [List.getLast?_map, hg]; rfl
        have c3 : decide ((fs.length : Int) > 0) = true := decide_eq_true (by omega)
        have w1 : IntKind.i64.wrap ((fs.length : Int) - 1) = ((fs.length - 1 : Nat) : Int) := by rw [IntWalk.i64_in _ (by omega)]; omega
        have c4 : (0 : Int) ≤ ((fs.length - 1 : Nat) : Int) := by omega
        have c5 : ((fs.length - 1 : Nat) : Int) < (fs.length : Int) := by omega
        clear hS5 hfk hg hlen hi hfs hfl
        generalize fs.length - 1 = j at *
        by_cases h2 : p.1.e.tag = 2
        · have hb2 : (p.1.e.tag == 2) = true := beq_iff_eq.2 h2
          have Hf := Lib.hid (show Rep.split bt L.segs (k + 1) = (k + 1, 0) by rw [Hu.out, if_neg (by simp), if_pos ⟨h1, by rw [hend, hb2]⟩])
          clear h1 h2 hend
          generalize p.1.e.tag = t at *
          go_wp2_with fail
          go_ret2
          rw [He.out, Hf.out]
          obtain rfl := HZ.out
          exact ⟨_, rfl, rfl, RLogRep.shut hS6⟩
        · have hb2 : (p.1.e.tag == 2) = false := by rw [beq_eq_false_iff_ne]; exact h2
          have Hf := Lib.hid (show Rep.split bt L.segs (k + 1) = Rep.split bt L.segs k by rw [Hu.out, if_neg (by simp), if_neg (fun h => by have h3 := h.2; rw [hend, hb2] at h3; cases h3)])
          clear h1 h2 hend
          generalize p.1.e.tag = t at *
          go_wp2_with fail
          go_roundg (0 + k)
          case measure => omega
          case rel => exact ⟨k, rfl, Nat.le_of_succ_le Hk.out, by first | rfl | go_num, He.out.trans Hf.out, hS6⟩
end
end Go.Proofs.YtmjldaedhmipkaaGreatDoor
