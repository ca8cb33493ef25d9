import Derived.Test.YtmjldaedhmipkaaGreatDoorJ3
import Derived.Laws.IdiomStrings
import Derived.Lib.BufferRead
set_option linter.unusedVariables false
namespace Go.Proofs.YtmjldaedhmipkaaGreatDoor
open Go Go.Sl Go.Med Go.MapKept Go.RowKit
section
variable {w0 w : World} {F R : List HProp} {v bv dv x lv : Value}
set_option maxRecDepth 20000 in
set_option maxHeartbeats 8000000 in
theorem fread_c (l : Bs) (hr : Ro w0 F (rdsl 1 bv (bys l))) (hcap : capOk bv) (hH : Ro w0 F Half) (hl : l.length ≤ 1099511627776) (h : Sat w0 w F) :
    Calls Tryz.prog 98 #[bv] w (Rtn fun v w' => ∃ da dc, v = .tuple #[.agg (entA (Frm.read l).1 (.slice da (Frm.read l).1.data.length dc)), .int .i64 (Frm.read l).2.1, errno (Frm.read l).2.2] ∧ Sat w0 w' (bsl (.slice da (Frm.read l).1.data.length dc) (Frm.read l).1.data :: F)) := by
  obtain ⟨ba, bn, bc, rfl, hbn, hbc⟩ := hcap
  have hln : bn = l.length := by
    obtain ⟨_, _, _, he, hl', _⟩ := hr w h
    cases he
    rw [bys_len, Nat.mul_one] at hl'; exact hl'.symm
  subst hln
  by_cases h9 : l.length < 9
  · have Hf := Lib.hid (show Frm.read l = (Frm.zeroE, 0, 3) by unfold Frm.read; rw [if_pos h9])
    have c1 : (l.length : Int) < 9 := by omega
    clear hr hH h9 hl
    go_enter Tryz.func98, Tryz.ntmps98
    go_wp2_with (first | ((with_reducible apply at_allocE); refine ⟨?_⟩; refine wl_allocE (by assumption) ?_; intro bE wE hE) | ((with_reducible apply at_buildZ); refine ⟨?_⟩; refine wl_buildZ ?_) | ((with_reducible apply at_storeE); refine ⟨?_⟩; first | (refine wl_storeE (by assumption) (by rfl) (by rfl) (by first | rfl | assumption | exact Hid.out (by assumption)) upD (by first | assumption | exact entA_size _ _ rfl | exact entA_size _ _ (by assumption) | exact entA_size _ _ (Hid.out (by assumption))) ?_; intro wS hS) | (refine wl_storeE (e := Frm.zeroE) (da := none) (dn := 0) (dc := 0) (by assumption) (by rfl) (by rfl) rfl upD (by first | assumption | exact entA_size _ _ rfl | exact entA_size _ _ (by assumption) | exact entA_size _ _ (Hid.out (by assumption))) ?_; intro wS hS)))
    rw [Hf.out]
    refine ⟨rfl, _, res_entE3 rfl (by assumption) (by rfl) pkD rfl, _, rfl, none, 0, rfl, Sat.osl_nil.2 (Sat.sb hS)⟩
  obtain ⟨bk, off, rfl, hcell⟩ : ∃ bk off, ba = some ⟨bk, off, none⟩ ∧ True := by
    have hx : (bys l)[0]? = some (.int .u8 (l[0]'(by omega)).toNat) := by
      unfold bys; rw [List.getElem?_map, List.getElem?_eq_getElem (by omega)]; rfl
    obtain ⟨bk, off, hb, _⟩ := rdsl_cells (hr w h) hx
    exact ⟨bk, off, hb, trivial⟩
  clear hcell
  have hrd := hr w h
  have Hsub := Lib.hid (show ∀ (i j : Nat), i ≤ j → j ≤ l.length → ∀ w, Sat w0 w F → rdsl 1 (.slice (some ⟨bk, off + i, none⟩) (j - i) (bc - i)) (bys ((l.take j).drop i)) w from fun i j h1 h2 w hw => rdsl_sub (hr w hw) i j (bc - i) h1 h2)
  have Hnum := Lib.hid (show ∀ w, Sat w0 w F → Calls Tryz.prog 143 #[.slice (some ⟨bk, off + 4, none⟩) (l.length - 4) (bc - 4)] w (Rtn fun v w' => v = .int .u32 (Frm.num ((l.drop 4).take 4) : Nat) ∧ w = w') from fun w hw => number_c (l.drop 4) (by rw [List.length_drop]; omega) _ (l.length - 4) (bc - 4) (by omega) (by omega) (by
    have := Hsub.out 4 l.length (by omega) (Nat.le_refl _) w hw
    rw [List.take_length] at this
    exact this))
  have Hnum0 := Lib.hid (show ∀ w, Sat w0 w F → Calls Tryz.prog 143 #[.slice (some ⟨bk, off, none⟩) l.length bc] w (Rtn fun v w' => v = .int .u32 (Frm.num (l.take 4) : Nat) ∧ w = w') from fun w hw => number_c l (by omega) _ l.length bc hbn hbc (hr w hw))
  have Hread := Lib.hid (show Frm.read l = if Frm.fits (l.getD 8 0) (Frm.num ((l.drop 4).take 4)) = false then (Frm.zeroE, 0, 4)
    else if l.length < Frm.num ((l.drop 4).take 4) then (Frm.zeroE, 0, 3)
    else if Frm.crc ((l.take (Frm.num ((l.drop 4).take 4))).drop 4) ≠ Frm.num (l.take 4) then (Frm.zeroE, 0, 13)
    else if 41 ≤ Frm.num ((l.drop 4).take 4) then (⟨(l.getD 8 0).toNat, (l.drop 9).take 32, (l.take (Frm.num ((l.drop 4).take 4))).drop 41⟩, Frm.num ((l.drop 4).take 4), 0)
    else (⟨(l.getD 8 0).toNat, Frm.zero32, []⟩, Frm.num ((l.drop 4).take 4), 0) by unfold Frm.read; rw [if_neg h9])
  have hN : Frm.num ((l.drop 4).take 4) < 4294967296 := by
    have := Frm.num_lt ((l.drop 4).take 4)
    rw [List.length_take, List.length_drop] at this
    have h4 : min 4 (l.length - 4) = 4 := by omega
    rw [h4] at this
    omega
  generalize hNN : Frm.num ((l.drop 4).take 4) = N at *
  have hfits := fun w => fits_c (l.getD 8 0) N hN w
  have hfg : Frm.fits (l.getD 8 0) N = true → 9 ≤ N := by
    unfold Frm.fits
    intro hh
    split at hh
    · have := of_decide_eq_true hh; omega
    · split at hh
      · have := of_decide_eq_true hh; omega
      · split at hh
        · have := of_decide_eq_true hh; omega
        · cases hh
  have hc8 : ∀ w, Sat w0 w F → w.cell? ⟨bk, off + 8, none⟩ = some (.int .u8 (l.getD 8 0).toNat) := fun w hw => by
    have hx : (bys l)[8]? = some (.int .u8 (l.getD 8 0).toNat) := by
      unfold bys; rw [List.getElem?_map, List.getD_eq_getElem?_getD, List.getElem?_eq_getElem (by omega)]; rfl
    obtain ⟨bk', off', hb, hc⟩ := rdsl_cells (hr w hw) hx
    cases hb
    exact hc _ _ hx
  have Hc8 := Lib.hid hc8; have Hr := Lib.hid hr; have HH := Lib.hid hH; have Hl := Lib.hid hl; have Hfg := Lib.hid hfg; have Hfits := Lib.hid hfits
  have c1 : ¬ (l.length : Int) < 9 := by omega
  have c2 : ¬ bc = 4 := by omega
  have c3 : (4 : Int) ≤ (l.length : Int) := by omega
  have c4 : (l.length : Int) ≤ (bc : Int) := by omega
  have c5 : (8 : Int) < (l.length : Int) := by omega
  have Hbn := Lib.hid (show l.length ≤ bc ∧ bc ≤ 9223372036854775807 ∧ 9 ≤ l.length ∧ N < 4294967296 from ⟨hbn, hbc, by omega, hN⟩)
  have hcv : IntKind.i64.wrap (N : Int) = (N : Int) := by rw [IntKind.wrap_i64]; omega
  clear hrd hNN hc8 hr hH hl h9 hbn hbc hfg hfits hN
  generalize l.getD 8 0 = tg at *
  have htg := tg.toNat_lt
  have hct : IntKind.i64.wrap (tg.toNat : Int) = (tg.toNat : Int) := by rw [IntKind.wrap_i64]; omega
  have htb : (tg.toNat : Int) < 256 := by omega
  go_enter Tryz.func98, Tryz.ntmps98
  go_wp2_with ((with_reducible apply at_allocE); refine ⟨?_⟩; refine wl_allocE (by assumption) ?_; intro bE wE hE)
  refine (Hnum.out _ hE.drop).mono ?_
  rintro ee w2 ⟨v, rfl, rfl, rfl⟩
  have e8 := Hc8.out _ hE.drop
  go_wp2_with fail
  refine (Hfits.out _).mono ?_
  rintro ee w2 ⟨v, rfl, rfl, rfl⟩
  cases hft : Frm.fits tg N
  · have Hf := Lib.hid (Hread.out.trans (if_pos hft))
    clear hft
    go_wp2_with (first | ((with_reducible apply at_buildZ); refine ⟨?_⟩; refine wl_buildZ ?_) | ((with_reducible apply at_storeE); refine ⟨?_⟩; first | (refine wl_storeE (by assumption) (by rfl) (by rfl) (by first | rfl | assumption | exact Hid.out (by assumption)) upD (by first | assumption | exact entA_size _ _ rfl | exact entA_size _ _ (by assumption) | exact entA_size _ _ (Hid.out (by assumption))) ?_; intro wS hS) | (refine wl_storeE (e := Frm.zeroE) (da := none) (dn := 0) (dc := 0) (by assumption) (by rfl) (by rfl) rfl upD (by first | assumption | exact entA_size _ _ rfl | exact entA_size _ _ (by assumption) | exact entA_size _ _ (Hid.out (by assumption))) ?_; intro wS hS)))
    rw [Hf.out]
    refine ⟨rfl, _, res_entE3 rfl (by assumption) (by rfl) pkD rfl, _, rfl, none, 0, rfl, Sat.osl_nil.2 (Sat.sb hS)⟩
  have Hf := Lib.hid (Hread.out.trans (if_neg (by rw [hft]; decide)))
  have hN9 := Hfg.out hft
  clear hft
  by_cases hlN : l.length < N
  · have Hf2 := Lib.hid (Hf.out.trans (if_pos hlN))
    have c6 : (l.length : Int) < (N : Int) := by omega
    clear hlN hN9
    go_wp2_with (first | ((with_reducible apply at_buildZ); refine ⟨?_⟩; refine wl_buildZ ?_) | ((with_reducible apply at_storeE); refine ⟨?_⟩; first | (refine wl_storeE (by assumption) (by rfl) (by rfl) (by first | rfl | assumption | exact Hid.out (by assumption)) upD (by first | assumption | exact entA_size _ _ rfl | exact entA_size _ _ (by assumption) | exact entA_size _ _ (Hid.out (by assumption))) ?_; intro wS hS) | (refine wl_storeE (e := Frm.zeroE) (da := none) (dn := 0) (dc := 0) (by assumption) (by rfl) (by rfl) rfl upD (by first | assumption | exact entA_size _ _ rfl | exact entA_size _ _ (by assumption) | exact entA_size _ _ (Hid.out (by assumption))) ?_; intro wS hS)))
    rw [Hf2.out]
    refine ⟨rfl, _, res_entE3 rfl (by assumption) (by rfl) pkD rfl, _, rfl, none, 0, rfl, Sat.osl_nil.2 (Sat.sb hS)⟩
  have Hf2 := Lib.hid (Hf.out.trans (if_neg hlN))
  clear Hf Hread
  have c6 : ¬ (l.length : Int) < (N : Int) := by omega
  have c7 : (4 : Int) ≤ (N : Int) := by omega
  have c8 : (N : Int) ≤ (bc : Int) := by omega
  have HlN := Lib.hid (show N ≤ l.length ∧ 9 ≤ N by omega)
  clear hlN hN9
  go_wp2_with fail
  refine (crc_c ((l.take N).drop 4) (Ro.os HH.out) (fun w hw => Hsub.out 4 N (by have := HlN.out; omega) HlN.out.1 w (hw.sb)) hE (by rw [List.length_drop, List.length_take]; have := Hl.out; omega)).mono ?_
  rintro ee w2 ⟨v, rfl, rfl, rfl⟩
  go_wp2_with fail
  refine (Hnum0.out _ hE.drop).mono ?_
  rintro ee w2 ⟨v, rfl, rfl, rfl⟩
  generalize Frm.crc ((l.take N).drop 4) = A at *
  generalize Frm.num (l.take 4) = B at *
  by_cases hAB : A = B
  rotate_left
  · have Hf3 := Lib.hid (Hf2.out.trans (if_pos hAB))
    have c9 : ((A : Int) == (B : Int)) = false := by rw [beq_eq_false_iff_ne]; omega
    clear hAB
    go_wp2_with (first | ((with_reducible apply at_buildZ); refine ⟨?_⟩; refine wl_buildZ ?_) | ((with_reducible apply at_storeE); refine ⟨?_⟩; first | (refine wl_storeE (by assumption) (by rfl) (by rfl) (by first | rfl | assumption | exact Hid.out (by assumption)) upD (by first | assumption | exact entA_size _ _ rfl | exact entA_size _ _ (by assumption) | exact entA_size _ _ (Hid.out (by assumption))) ?_; intro wS hS) | (refine wl_storeE (e := Frm.zeroE) (da := none) (dn := 0) (dc := 0) (by assumption) (by rfl) (by rfl) rfl upD (by first | assumption | exact entA_size _ _ rfl | exact entA_size _ _ (by assumption) | exact entA_size _ _ (Hid.out (by assumption))) ?_; intro wS hS)))
    rw [Hf3.out]
    refine ⟨rfl, _, res_entE3 rfl (by assumption) (by rfl) pkD rfl, _, rfl, none, 0, rfl, Sat.osl_nil.2 (Sat.sb hS)⟩
  subst hAB
  have Hf3 := Lib.hid (Hf2.out.trans (if_neg (fun h => h rfl)))
  clear Hf2
  by_cases h41 : 41 ≤ N
  rotate_left
  · have Hf4 := Lib.hid (Hf3.out.trans (if_neg h41))
    have c9 : ¬ (41 : Int) ≤ (N : Int) := by omega
    clear h41
    go_wp2_with (first | ((with_reducible apply at_buildTag); refine ⟨?_⟩; refine wl_buildTag (by rfl) ?_) | ((with_reducible apply at_allocE); refine ⟨?_⟩; refine wl_allocE (by assumption) ?_; intro bE wE hE) | ((with_reducible apply at_storeE); refine ⟨?_⟩; first | (refine wl_storeE (by assumption) (by rfl) (by rfl) (by first | rfl | assumption | exact Hid.out (by assumption)) upD (by first | assumption | exact entA_size _ _ rfl | exact entA_size _ _ (by assumption) | exact entA_size _ _ (Hid.out (by assumption))) ?_; intro wS hS) | (refine wl_storeE (e := Frm.zeroE) (da := none) (dn := 0) (dc := 0) (by assumption) (by rfl) (by rfl) rfl upD (by first | assumption | exact entA_size _ _ rfl | exact entA_size _ _ (by assumption) | exact entA_size _ _ (Hid.out (by assumption))) ?_; intro wS hS)) | ((with_reducible apply at_loadE); refine ⟨?_⟩; refine wl_loadE (by assumption) (by rfl) pkD (by first | rfl | assumption | exact Hid.out (by assumption)) ?_))
    rw [Hf4.out]
    simp only [List.length_nil]
    refine ⟨rfl, _, res_entE3 rfl (by assumption) (by rfl) pkD rfl, _, rfl, none, 0, rfl, Sat.osl_nil.2 (Sat.sb hS)⟩
  have Hf4 := Lib.hid (Hf3.out.trans (if_pos h41))
  have Hkl := Lib.hid (show ((l.drop 9).take 32).length = 32 by rw [List.length_take, List.length_drop]; have := HlN.out; omega)
  have Hkb := Lib.hid (show (bys ((l.drop 9).take 32)).length = 32 by rw [bys_len]; exact Hkl.out)
  have Hrange := Lib.hid (show ∀ w, Sat w0 w F → w.rangeAt bk (off + 9) (bys ((l.drop 9).take 32)) from fun w hw => by
    intro j y hj
    have hsb := Hsub.out 9 41 (by decide) (by have := HlN.out; omega) w hw
    have e : (l.take 41).drop 9 = (l.drop 9).take 32 := by rw [List.drop_take]
    rw [e] at hsb
    obtain ⟨b', o', hb, hc⟩ := rdsl_cells hsb hj
    cases hb
    exact hc _ _ hj)
  have c9 : (41 : Int) ≤ (N : Int) := by omega
  have c10 : ¬ bc = 9 := by have := HlN.out; have := Hbn.out; omega
  have c11 : (41 : Int) ≤ (bc : Int) := by omega
  obtain ⟨ad, had, hsl⟩ : ∃ ad : Addr, (41 < N → ad = ⟨bk, off + 41, none⟩) ∧ ∀ w, (Instr.sliceAt 42 (.slice (some ⟨bk, off, none⟩) l.length bc) (some (.int .i64 41)) (some (.int .i64 N)) none).run Tryz.prog w = .ok (.slice (some ad) (N - 41) (bc - 41)) w := by
    by_cases hce : bc = 41
    · refine ⟨⟨bk, off, none⟩, fun hh => by have := HlN.out; have := Hbn.out; omega, fun w => ?_⟩
      have c12 : (N : Int) ≤ 41 := by omega
      have c13 : ¬ (41 : Int) < (N : Int) := by omega
      go_simp
    · refine ⟨⟨bk, off + 41, none⟩, fun _ => rfl, fun w => ?_⟩
      go_simp
  have Had := Lib.hid had
  have Hdat := Lib.hid (show ∀ w, Sat w0 w F → rdsl 1 (.slice (some ad) (N - 41) (bc - 41)) (bys ((l.take N).drop 41)) w from fun w hw => by
    by_cases h2 : 41 < N
    · rw [Had.out h2]; exact Hsub.out 41 N (by omega) HlN.out.1 w hw
    · have : (l.take N).drop 41 = [] := List.drop_of_length_le (by rw [List.length_take]; omega)
      rw [this, show N - 41 = 0 by omega]
      exact ⟨_, 0, _, rfl, rfl, by simp [bys]⟩)
  clear h41 had
  have hat := fun w => run_arrKey ⟨bk, off + 9, none⟩ (bc - 9) w
  go_wp2_with (first
    | ((with_reducible apply at_buildTag); refine ⟨?_⟩; refine wl_buildTag (by rfl) ?_) | ((with_reducible apply at_allocE); refine ⟨?_⟩; refine wl_allocE (by assumption) ?_; intro bE wE hE) | ((with_reducible apply at_storeE); refine ⟨?_⟩; first | (refine wl_storeE (by assumption) (by rfl) (by rfl) (by first | rfl | assumption | exact Hid.out (by assumption)) upD (by first | assumption | exact entA_size _ _ rfl | exact entA_size _ _ (by assumption) | exact entA_size _ _ (Hid.out (by assumption))) ?_; intro wS hS) | (refine wl_storeE (e := Frm.zeroE) (da := none) (dn := 0) (dc := 0) (by assumption) (by rfl) (by rfl) rfl upD (by first | assumption | exact entA_size _ _ rfl | exact entA_size _ _ (by assumption) | exact entA_size _ _ (Hid.out (by assumption))) ?_; intro wS hS))
    | ((with_reducible apply at_load); refine ⟨?_⟩; refine wpList_load_mid (by rfl) 41 _ (by rfl) bk (off + 9) (by rfl) (bys ((l.drop 9).take 32)) _ (Hrange.out _ (Sat.sb (by assumption))) Tryz.underlying41 rfl (by rw [Hkb.out]; kernel_rfl) ?_)
    | ((with_reducible apply at_store); refine ⟨?_⟩; refine wl_storeK (key := (l.drop 9).take 32) (by assumption) (by rfl) (by rfl) rfl Hkl.out upD ?_; intro wK hK)
    | ((with_reducible apply at_slice2); refine ⟨?_⟩; refine wl_slice2 (by rfl) (by rfl) (by rfl) hsl ?_))
  refine (clone_c hK (Hdat.out _ (hK.sb)) (by rw [List.length_drop, List.length_take]; have := Hl.out; omega)).mono ?_
  rintro ee w3 ⟨v, rfl, hS3, ca, cn, cc, rfl⟩
  have hcn : cn = ((l.take N).drop 41).length := by
    obtain ⟨_, _, _, he, hl', _⟩ := Sat.rd hS3
    cases he
    rw [bys_len, Nat.mul_one] at hl'; exact hl'.symm
  subst hcn
  have Hkl2 := Hkl.out
  generalize (l.drop 9).take 32 = key at *
  generalize (l.take N).drop 41 = data at *
  go_wp2_with (first
    | ((with_reducible apply at_store); refine ⟨?_⟩; refine wl_storeD (e := ⟨(tg.toNat : Int), key, []⟩) (data := data) (by assumption) (by rfl) (by rfl) Hkl2 upD ?_; intro wD hD)
    | ((with_reducible apply at_loadE); refine ⟨?_⟩; refine wl_loadE (by assumption) (by rfl) pkD (by first | rfl | assumption | exact Hid.out (by assumption)) ?_) | ((with_reducible apply at_storeE); refine ⟨?_⟩; first | (refine wl_storeE (by assumption) (by rfl) (by rfl) (by first | rfl | assumption | exact Hid.out (by assumption)) upD (by first | assumption | exact entA_size _ _ rfl | exact entA_size _ _ (by assumption) | exact entA_size _ _ (Hid.out (by assumption))) ?_; intro wS hS) | (refine wl_storeE (e := Frm.zeroE) (da := none) (dn := 0) (dc := 0) (by assumption) (by rfl) (by rfl) rfl upD (by first | assumption | exact entA_size _ _ rfl | exact entA_size _ _ (by assumption) | exact entA_size _ _ (Hid.out (by assumption))) ?_; intro wS hS)))
  rw [Hf4.out]
  simp only
  refine ⟨rfl, _, res_entE3 rfl (by assumption) (by rfl) pkD Hkl2, _, rfl, ca, cc, rfl, Sat.sb hS⟩
end
end Go.Proofs.YtmjldaedhmipkaaGreatDoor
namespace Go.Frm
structure Fnd where
  e : Ent
  at_ : Nat
  size : Nat
def scanL : Nat → Bs → Nat → List Fnd × Nat × Int
  | 0, _, at_ => ([], at_, 0)
  | k + 1, b, at_ =>
    if b = [] then ([], at_, 0)
    else if (read b).2.2 ≠ 0 then ([], at_, (read b).2.2)
    else (⟨(read b).1, at_, (read b).2.1⟩ :: (scanL k (b.drop (read b).2.1) (at_ + (read b).2.1)).1, (scanL k (b.drop (read b).2.1) (at_ + (read b).2.1)).2)
def magicB : Bs := [72, 79, 65, 82, 68, 83, 69, 71]
def scan (b : Bs) : List Fnd × Nat × Int := if b.take 8 = magicB then scanL b.length (b.drop 8) 8 else ([], 0, 4)
end Go.Frm
namespace Go.Proofs.YtmjldaedhmipkaaGreatDoor
open Go Go.Sl Go.Med Go.MapKept Go.RowKit
section
variable {w0 w : World} {F R : List HProp} {v bv dv x lv av : Value}
theorem rdsl_text {l : Bs} (h : rdsl 1 v (bys l) w) : (convert 42 9 v).run Tryz.prog w = .ok (.string ⟨l.toArray⟩) w := by
  obtain ⟨a, n, c, rfl, hl, hx⟩ := h
  rw [bys_len, Nat.mul_one] at hl
  subst hl
  cases a with
  | none =>
    obtain rfl : l = [] := by
      cases l with
      | nil => rfl
      | cons d l => obtain ⟨b, hb, _⟩ := hx 0 _ rfl; cases hb
    exact Lib.run_convert_nil_bytes (P := Tryz.prog) w _ _ 5 c Tryz.underlying42 Tryz.underlying5 Tryz.underlying9
  | some ad =>
    refine run_convert_bytes_back (P := Tryz.prog) w _ _ 5 ad c l Tryz.underlying42 Tryz.underlying5 Tryz.underlying9 (fun j hj => ?_)
    have hy : (bys l)[j]? = some (.int .u8 (l[j]'hj).toNat) := by unfold bys; rw [List.getElem?_map, List.getElem?_eq_getElem hj]; rfl
    obtain ⟨b, hb, hc⟩ := hx _ _ hy
    cases hb
    simpa using hc
set_option maxHeartbeats 2000000 in
theorem bequal_c (la lb : Bs) (ha : rdsl 1 av (bys la) w) (hb : rdsl 1 bv (bys lb) w) :
    Calls Tryz.prog 168 #[av, bv] w (Rtn fun v w' => v = .bool (decide (la = lb)) ∧ w = w') := by
  have h1 := rdsl_text ha
  have h2 := rdsl_text hb
  have He := Lib.hid (show ((la.toArray.toList : List UInt8) == lb.toArray.toList) = decide (la = lb) by
    rw [Bool.eq_iff_iff, beq_iff_eq, decide_eq_true_eq])
  clear ha hb
  go_enter Tryz.func168, Tryz.ntmps168
  go_wp2
  go_ret
  rw [← He.out]
  exact ⟨_, rfl, rfl, rfl⟩
set_option maxHeartbeats 2000000 in
theorem hasPrefix_c (l lp : Bs) (a : Option Addr) (n c : Nat) (hn : n ≤ c) (hc : c ≤ 9223372036854775807) (ha : rdsl 1 (.slice a n c) (bys l) w) (pa : Option Addr) (pn pc : Nat) (hp : rdsl 1 (.slice pa pn pc) (bys lp) w) :
    Calls Tryz.prog 151 #[.slice a n c, .slice pa pn pc] w (Rtn fun v w' => v = .bool (decide (l.take lp.length = lp)) ∧ w = w') := by
  have hln : n = l.length := by
    obtain ⟨_, _, _, he, hl', _⟩ := ha
    cases he
    rw [bys_len, Nat.mul_one] at hl'; exact hl'.symm
  have hpn : pn = lp.length := by
    obtain ⟨_, _, _, he, hl', _⟩ := hp
    cases he
    rw [bys_len, Nat.mul_one] at hl'; exact hl'.symm
  subst hln hpn
  by_cases hle : lp.length ≤ l.length
  · have h4 := rdsl_cut4 (k := lp.length) ha
    rw [show min l.length lp.length = lp.length by omega] at h4
    have hq := bequal_c _ _ h4 hp
    have c1 : (lp.length : Int) ≤ (l.length : Int) := by omega
    have c2 : (lp.length : Int) ≤ (c : Int) := by omega
    have c3 : lp.length ≤ l.length := hle
    clear h4 ha hp
    go_enter Tryz.func151, Tryz.ntmps151
    go_wp2_with (go_at_call 168; refine hq.mono ?_; rintro e w1 ⟨v, rfl, rfl, rfl⟩)
    go_ret
    exact ⟨_, rfl, rfl, rfl⟩
  · have c1 : ¬ lp.length ≤ l.length := hle
    have c2 : decide ((lp.length : Int) ≤ (l.length : Int)) = false := decide_eq_false (by omega)
    have He := Lib.hid (show decide (l.take lp.length = lp) = false by
      apply decide_eq_false
      intro hh
      have := congrArg List.length hh
      rw [List.length_take] at this
      omega)
    clear ha hp
    go_enter Tryz.func151, Tryz.ntmps151
    go_wp2
    go_ret
    rw [He.out]
    exact ⟨_, rfl, rfl, rfl⟩
end
end Go.Proofs.YtmjldaedhmipkaaGreatDoor
namespace Go.Frm
theorem read_ok {b : Bs} (h : (read b).2.2 = 0) : 9 ≤ (read b).2.1 ∧ (read b).2.1 ≤ b.length ∧ (read b).1.key.length = 32 := by
  unfold read at *
  dsimp only at *
  split at h
  · simp at h
  rename_i h9
  rw [if_neg h9]
  split at h
  · simp at h
  rename_i hf
  rw [if_neg hf]
  split at h
  · simp at h
  rename_i hl
  rw [if_neg hl]
  split at h
  · simp at h
  rename_i hc
  rw [if_neg hc]
  have hfit : fits (b.getD 8 0) (num ((b.drop 4).take 4)) = true := by
    cases hh : fits (b.getD 8 0) (num ((b.drop 4).take 4)) with
    | true => rfl
    | false => exact absurd hh hf
  have h9' : 9 ≤ num ((b.drop 4).take 4) := by
    unfold fits at hfit
    split at hfit
    · have := of_decide_eq_true hfit; omega
    · split at hfit
      · have := of_decide_eq_true hfit; omega
      · split at hfit
        · have := of_decide_eq_true hfit; omega
        · cases hfit
  split
  · rename_i h41
    refine ⟨h9', Nat.not_lt.1 hl, ?_⟩
    simp only [List.length_take, List.length_drop]
    omega
  · exact ⟨h9', Nat.not_lt.1 hl, rfl⟩
theorem read_key (b : Bs) : (read b).1.key.length = 32 := by
  unfold read
  dsimp only
  split
  · rfl
  split
  · rfl
  split
  · rfl
  split
  · rfl
  rename_i h9 hf hl hc
  split
  · rename_i h41
    simp only [List.length_take, List.length_drop]
    omega
  · rfl
end Go.Frm
namespace Go.Proofs.YtmjldaedhmipkaaGreatDoor
open Go Go.Sl Go.Med Go.MapKept Go.RowKit
def fndL (f : Frm.Fnd) (dv : Value) : List Value := entL f.e dv ++ [.int .i64 f.at_, .int .i64 f.size]
def fndA (f : Frm.Fnd) (dv : Value) : Array Value := (fndL f dv).toArray
def fndsL (fs : List (Frm.Fnd × Value)) : List Value := fs.flatMap fun p => fndL p.1 p.2
def dataF (fs : List (Frm.Fnd × Value)) : HProp := stars (fs.map fun p => bsl p.2 p.1.e.data)
theorem fndL_len (f : Frm.Fnd) (dv : Value) (hk : f.e.key.length = 32) : (fndL f dv).length = 36 := by unfold fndL; rw [List.length_append, entL_len _ _ hk]; rfl
theorem fndA_size (f : Frm.Fnd) (dv : Value) (hk : f.e.key.length = 32) : (fndA f dv).size = 36 := by unfold fndA; rw [List.size_toArray, fndL_len _ _ hk]
theorem fndsL_len {fs : List (Frm.Fnd × Value)} (hk : ∀ p ∈ fs, p.1.e.key.length = 32) : (fndsL fs).length = 36 * fs.length := by
  unfold fndsL
  induction fs with
  | nil => rfl
  | cons p fs ih =>
    rw [List.flatMap_cons, List.length_append, ih (fun q hq => hk q (.tail _ hq)), fndL_len _ _ (hk p (.head _)), List.length_cons]; omega
theorem fndsL_app (es fs : List (Frm.Fnd × Value)) : fndsL (es ++ fs) = fndsL es ++ fndsL fs := by unfold fndsL; rw [List.flatMap_append]
theorem dataF_snoc (es : List (Frm.Fnd × Value)) (x : Frm.Fnd) (dv : Value) : dataF (es ++ [(x, dv)]) = star (bsl dv x.e.data) (dataF es) := by
  unfold dataF
  rw [List.map_append, stars_append, star_comm]
  show star (stars [bsl dv x.e.data]) _ = _
  rw [stars_one]
theorem plFnd : placesB Tryz.prog 203 = some [(0, 34), (34, 1), (35, 1)] := by kernel_rfl
def zeroF : Frm.Fnd := ⟨Frm.zeroE, 0, 0⟩
theorem zFnd : zeroB Tryz.prog 203 = some (.agg (fndA zeroF (.slice none 0 0))) := by kernel_rfl
theorem puts3f (cs : Array Value) (hs : cs.size = 36) (el : List Value) (u v : Value) (hk : el.length = 34) : (putsAt (putsAt (putsAt cs 0 el) 34 [u]) 35 [v]).toList = el ++ [u, v] := by
  have hcl : cs.toList.length = 36 := by simpa using hs
  have e1 : (putsAt cs 0 el).toList = el ++ cs.toList.drop 34 := by
    rw [putsAt_list _ _ _ (by omega), List.take_zero, List.nil_append, Nat.zero_add, hk]
  have e2 : (putsAt (putsAt cs 0 el) 34 [u]).toList = el ++ [u] ++ cs.toList.drop 35 := by
    rw [putsAt_list _ _ _ (by rw [putsAt_size]; simp; omega), e1, List.take_append_of_le_length (by omega), List.take_of_length_le (by omega), List.length_singleton, List.drop_append, hk, List.drop_of_length_le (l := el) (by omega), List.nil_append, List.drop_drop]
  have h3 : (el ++ [u]).length = 35 := by simp [hk]
  rw [putsAt_list _ _ _ (by rw [putsAt_size, putsAt_size]; simp; omega), e2, List.take_append_of_le_length (by omega), List.take_of_length_le (by omega), List.length_singleton, List.drop_of_length_le (by rw [List.length_append, h3, List.length_drop]; omega)]
  simp
set_option maxRecDepth 20000 in
theorem run_buildFnd (e : Frm.Ent) (hk : e.key.length = 32) (da : Option Addr) (dn dc : Nat) (at_ n : Nat) (w : World) :
    (Instr.build 203 #[(0, .agg (entA e (.slice da dn dc))), (1, .int .i64 at_), (2, .int .i64 n)]).run Tryz.prog w = .ok (.agg (fndA ⟨e, at_, n⟩ (.slice da dn dc))) w := by
  have hz : (fndA zeroF (.slice none 0 0)).size = 36 := fndA_size _ _ rfl
  have he : (entA e (.slice da dn dc)).size = 34 := entA_size _ _ hk
  have h := run_build (P := Tryz.prog) [(0, .agg (entA e (.slice da dn dc))), (1, .int .i64 at_), (2, .int .i64 n)] plFnd zFnd (by
    intro p hp
    simp only [List.mem_cons, List.not_mem_nil, or_false] at hp
    have hzz : (Value.agg (fndA zeroF (.slice none 0 0))).cells.size = 36 := hz
    rw [hzz]
    rcases hp with rfl | rfl | rfl
    · refine ⟨0, ?_, ?_⟩
      · show some (0, 34) = some (0, (entA e (.slice da dn dc)).size); rw [he]
      · show 0 + (entA e (.slice da dn dc)).size ≤ 36; omega
    · exact ⟨34, rfl, by show 34 + 1 ≤ 36; omega⟩
    · exact ⟨35, rfl, by show 35 + 1 ≤ 36; omega⟩) w
  refine h.trans ?_
  congr 2
  apply putsAt_eq
  exact puts3f _ hz _ _ _ (show (entA e (.slice da dn dc)).toList.length = 34 by rw [Array.length_toList, he])
section
variable {w0 w : World} {L L' R : List HProp} {b : Nat} {ops : Array Oper} {rest : List Oper} {a : Act} {Q : Exit → Act → World → Prop}
variable {dst : Option Tmp} {t T ty : TypeId} {pos : String} {after : Array Edge} {x y z : Operand} {cs : Array Value} {v v1 v2 v3 : Value} {i1 i2 i3 : Nat} {P : Program}
theorem wl_build3 (h1 : a.eval x = v1) (h2 : a.eval y = v2) (h3 : a.eval z = v3) (hr : ∀ w, (Instr.build ty #[(i1, v1), (i2, v2), (i3, v3)]).run P w = .ok v w) (h : wpList P ops Q rest (a.put dst v) w) :
    wpList P ops Q (⟨dst, .build ty #[(i1, x), (i2, y), (i3, z)], t, pos, after, none⟩ :: rest) a w :=
  wpList_plain rfl fun _ hK => by
    unfold Oper.wp execOp
    simp only [List.map_toArray, List.map_cons, List.map_nil, h1, h2, h3, Sem.run_bind, hr, Result.andThen_ok, Sem.run_pure]
    exact hK _ _ h
theorem at_build3 (h : Stop (wpList P ops Q (⟨dst, .build ty #[(i1, x), (i2, y), (i3, z)], t, pos, after, none⟩ :: rest) a w)) : wpList P ops Q (⟨dst, .build ty #[(i1, x), (i2, y), (i3, z)], t, pos, after, none⟩ :: rest) a w := h.out
theorem fndA_ones (f : Frm.Fnd) (a : Option Addr) (n c : Nat) : (fndA f (.slice a n c)).toList.all (·.oneCell') = true := by
  unfold fndA fndL
  rw [List.toList_toArray, List.all_append]
  have h1 : (entL f.e (.slice a n c)).all (·.oneCell') = true := by
    have := entA_one f.e a n c
    unfold entA at this
    rwa [List.toList_toArray] at this
  rw [h1]; rfl
end
end Go.Proofs.YtmjldaedhmipkaaGreatDoor
namespace Go.Seg
def Log.next (L : Log) : Int := match L.l.getLast? with
  | none => 0
  | some s => s.1 + 1
end Go.Seg
namespace Go.Proofs.YtmjldaedhmipkaaGreatDoor
open Go Go.Sl Go.Med Go.MapKept Go.RowKit
section
variable {w0 w : World} {F : List HProp} {v bv dv x lv : Value} {q p m K : Nat} {L : Seg.Log} {M : Med}
theorem segw_at (l : List (Int × Int)) (i : Nat) (s : Int × Int) (h : l[i]? = some s) : (segw l)[2 * i]? = some (.int .i64 s.1) ∧ (segw l)[2 * i + 1]? = some (.int .i64 s.2) := by
  induction l generalizing i with
  | nil => simp at h
  | cons a l ih =>
    cases i with
    | zero =>
      obtain rfl : a = s := by simpa using h
      exact ⟨rfl, rfl⟩
    | succ i =>
      have e1 : segw (a :: l) = .int .i64 a.1 :: .int .i64 a.2 :: segw l := rfl
      have h' : l[i]? = some s := by simpa using h
      rw [e1, show 2 * (i + 1) = 2 * i + 1 + 1 by omega]
      exact ih i h'
theorem last_cells {s : Int × Int} (hl : L.l.getLast? = some s) (h : Sat w0 w (logPt p m L lv :: osl 145 2 lv (segw L.l) :: F)) :
    ∃ bk n c, lv = .slice (some ⟨bk, 0, none⟩) (n + 1) c ∧ L.l.length = n + 1 ∧ w.cell? ⟨bk, 2 * n, none⟩ = some (.int .i64 s.1) ∧ w.cell? ⟨bk, 2 * n + 1, none⟩ = some (.int .i64 s.2) := by
  rw [List.getLast?_eq_getElem?] at hl
  have hlt := (List.getElem?_eq_some_iff.1 hl).1
  obtain ⟨n, hn⟩ : ∃ n, L.l.length = n + 1 := ⟨L.l.length - 1, by omega⟩
  rw [hn, Nat.add_sub_cancel] at hl
  obtain ⟨h1, h2⟩ := segw_at _ _ _ hl
  have hS : Sat w0 w (osl 145 2 lv (segw L.l) :: logPt p m L lv :: F) := h.pick1
  rcases hS.osl_cases with ⟨rfl, hx, _⟩ | ⟨b, n', cap, cs, rfl, hll, hn', hc, hcm, htk, hp⟩
  · rw [hx] at h1; simp at h1
  · rw [segw_len, hn] at hll
    obtain rfl : n' = n + 1 := by omega
    exact ⟨b, n, cap, rfl, hn, hp.cellAt _ _ (take_get htk h1), hp.cellAt _ _ (take_get htk h2)⟩
set_option maxHeartbeats 1000000 in
theorem snext_c (hlen : L.l.length ≤ 1048576) (hb : ∀ s ∈ L.l, 0 ≤ s.1 ∧ s.1 < 1048576) (h : Sat w0 w (logPt p m L lv :: osl 145 2 lv (segw L.l) :: F)) :
    Calls Tryz.prog 102 #[ptr p] w (Rtn fun v w' => v = .int .i64 L.next ∧ Sat w0 w' (logPt p m L lv :: osl 145 2 lv (segw L.l) :: F)) := by
  cases hl : L.l.getLast? with
  | none =>
    have hnil := List.getLast?_eq_none_iff.1 hl
    refine (next0_c hnil h).mono ?_
    rintro e w1 ⟨v, rfl, rfl, rfl⟩
    exact ⟨_, rfl, by unfold Seg.Log.next; rw [hl], h⟩
  | some s =>
    have Hfin := Lib.hid (show L.next = s.1 + 1 by unfold Seg.Log.next; rw [hl])
    have hs := hb s (List.mem_of_getLast? hl)
    obtain ⟨bk, n, c, rfl, hn, c1, c2'⟩ := last_cells hl h
    have hok := ok_c h
    have c2 := h.cellAt 2 _ rfl
    have hS := h.drew
    have c1' : w.drew.cell? ⟨bk, n * 2, none⟩ = some (.int .i64 s.1) := by rw [Nat.mul_comm]; exact c1
    have hwn : IntKind.i64.wrap (n : Int) = (n : Int) := by rw [IntKind.wrap_i64]; omega
    have hn0 : (n : Int) < (n : Int) + 1 := by omega
    have cd : w.drew.cell? ⟨p, 2, none⟩ = some (.slice (some ⟨bk, 0, none⟩) (n + 1) c) := c2
    have hw1 : IntKind.i64.wrap (s.1 + 1) = s.1 + 1 := by rw [IntKind.wrap_i64]; omega
    have Hs := Lib.hid hs; have Hn := Lib.hid hn
    clear hs hn hb hlen hl c2'
    go_enter Tryz.func102, Tryz.ntmps102
    go_wp2_with (go_at_call 68; refine hok.mono ?_; rintro e w1 ⟨v, rfl, rfl, rfl⟩)
    go_region
    go_wp2
    go_ret
    exact ⟨_, rfl, by rw [Hfin.out]; rfl, hS⟩
end
end Go.Proofs.YtmjldaedhmipkaaGreatDoor
namespace Go.Seg
open Go.Med
structure Plc where
  seg : Int
  at_ : Int
  size : Int
def Plc.zero : Plc := ⟨0, 0, 0⟩
def mag : Bs := [72, 79, 65, 82, 68, 83, 69, 71]
def Log.grow (L : Log) (M : Med) (b : Bs) : (Log × Med) × Plc × Int :=
  match L.l.getLast? with
  | none => ((L, M), Plc.zero, 0)
  | some s =>
    if (M.append (name s.1) b).2 = 0 then (({ L with l := L.l.dropLast ++ [(s.1, s.2 + (b.length : Int))] }, (M.append (name s.1) b).1), ⟨s.1, s.2, b.length⟩, 0)
    else ((L, (M.append (name s.1) b).1), Plc.zero, (M.append (name s.1) b).2)
def Log.shut (L : Log) (M : Med) : (Log × Med) × Int :=
  match L.l.getLast? with
  | none => ((L, M), 0)
  | some s =>
    if L.on = true then
      if (M.sync (name s.1)).2 = 0 then (({ L with on := false }, (M.sync (name s.1)).1), 0)
      else ((L, (M.sync (name s.1)).1), (M.sync (name s.1)).2)
    else ((L, M), 0)
def Log.begin1 (L : Log) (M : Med) (b : Bs) : (Log × Med) × Plc × Int :=
  if 1048576 ≤ L.next then ((L, M), Plc.zero, 16)
  else if (M.create (name L.next)).2 ≠ 0 then ((L, (M.create (name L.next)).1), Plc.zero, (M.create (name L.next)).2)
  else if ((M.create (name L.next)).1.append (name L.next) (mag ++ b)).2 = 0 then
    (({ L with l := L.l ++ [(L.next, 8 + (b.length : Int))], on := true, fresh := L.fresh + 1 }, ((M.create (name L.next)).1.append (name L.next) (mag ++ b)).1), ⟨L.next, 8, b.length⟩, 0)
  else if ((M.create (name L.next)).1.append (name L.next) (mag ++ b)).2 = 11 then
    ((L, (((M.create (name L.next)).1.append (name L.next) (mag ++ b)).1.remove (name L.next)).1), Plc.zero,
      if (((M.create (name L.next)).1.append (name L.next) (mag ++ b)).1.remove (name L.next)).2 = 0 then 11 else (((M.create (name L.next)).1.append (name L.next) (mag ++ b)).1.remove (name L.next)).2)
  else ((L, ((M.create (name L.next)).1.append (name L.next) (mag ++ b)).1), Plc.zero, ((M.create (name L.next)).1.append (name L.next) (mag ++ b)).2)
def Log.begin (L : Log) (M : Med) (b : Bs) : (Log × Med) × Plc × Int :=
  if (L.shut M).2 = 0 then (L.shut M).1.1.begin1 (L.shut M).1.2 b else ((L.shut M).1, Plc.zero, (L.shut M).2)
def Log.fits (L : Log) (n : Nat) : Bool := L.on && decide ((L.l.getLast?.map (·.2)).getD 0 + n ≤ L.limit)
def Log.append (L : Log) (M : Med) (x : Frm.Ent) : (Log × Med) × Plc × Int :=
  if (Frm.encode x).2 ≠ 0 then ((L, M), Plc.zero, (Frm.encode x).2)
  else if L.fits (Frm.encode x).1.length = true then L.grow M (Frm.encode x).1 else L.begin M (Frm.encode x).1
def comEnt : Frm.Ent := ⟨2, Frm.zero32, []⟩
def Log.commit (L : Log) (M : Med) : (Log × Med) × Int × Int :=
  if (L.append M comEnt).2.2 ≠ 0 then ((L.append M comEnt).1, 0, (L.append M comEnt).2.2)
  else if ((L.append M comEnt).1.2.sync (name (L.append M comEnt).2.1.seg)).2 ≠ 0 then (((L.append M comEnt).1.1, ((L.append M comEnt).1.2.sync (name (L.append M comEnt).2.1.seg)).1), 0, ((L.append M comEnt).1.2.sync (name (L.append M comEnt).2.1.seg)).2)
  else if (((L.append M comEnt).1.2.sync (name (L.append M comEnt).2.1.seg)).1.syncDir).2 ≠ 0 then (((L.append M comEnt).1.1, (((L.append M comEnt).1.2.sync (name (L.append M comEnt).2.1.seg)).1.syncDir).1), 0, (((L.append M comEnt).1.2.sync (name (L.append M comEnt).2.1.seg)).1.syncDir).2)
  else (({ (L.append M comEnt).1.1 with on := false, fresh := 0 }, (((L.append M comEnt).1.2.sync (name (L.append M comEnt).2.1.seg)).1.syncDir).1), (L.append M comEnt).2.1.seg, 0)
def Log.at (L : Log) (n : Int) : Option Nat := L.l.findIdx? (fun s => s.1 == n)
def Log.find (L : Log) (n : Int) : Int := match L.at n with
  | some i => i
  | none => -1
def Log.without (L : Log) (i : Nat) : Log :=
  ⟨L.limit, L.l.eraseIdx i, if i + 1 = L.l.length then false else L.on, if (L.l.length : Int) - L.fresh ≤ i then L.fresh - 1 else L.fresh⟩
def Log.remove (L : Log) (M : Med) (n : Int) : (Log × Med) × Int :=
  match L.at n with
  | none => ((L, M), 9)
  | some i => if (M.remove (name n)).2 = 0 then ((L.without i, (M.remove (name n)).1), 0) else ((L, (M.remove (name n)).1), (M.remove (name n)).2)
def Log.size (L : Log) (n : Int) : Int := match L.at n with
  | none => 0
  | some i => (L.l.getD i (0, 0)).2
def Log.bytes (L : Log) (M : Med) (n : Int) : Bs × Int := match L.at n with
  | none => ([], 9)
  | some _ => M.all (name n)
structure Log.Ok (L : Log) : Prop where
  limit : 128 ≤ L.limit ∧ L.limit ≤ 1048576
  rise : (L.l.map (·.1)).Pairwise (· < ·)
  nums : ∀ s ∈ L.l, 0 ≤ s.1 ∧ s.1 < 1048576
  sizes : ∀ s ∈ L.l, 0 ≤ s.2 ∧ s.2 ≤ 33554432
  fresh : 0 ≤ L.fresh ∧ L.fresh ≤ L.l.length
  on : L.on = true → L.l ≠ []
theorem rise_len : ∀ (l : List Int) (a : Int), l.Pairwise (· < ·) → (∀ x ∈ l, a ≤ x) → (∀ x ∈ l, x < 1048576) → a ≤ 1048576 → (l.length : Int) ≤ 1048576 - a
  | [], a, _, _, _, h => by simp; omega
  | x :: l, a, hp, h1, h2, h3 => by
    obtain ⟨hx, hp'⟩ := List.pairwise_cons.1 hp
    have e1 := h1 x (.head _)
    have e2 := h2 x (.head _)
    have := rise_len l (x + 1) hp' (fun y hy => by have := hx y hy; omega) (fun y hy => h2 y (.tail _ hy)) (by omega)
    rw [List.length_cons]; omega
theorem Log.Ok.len {L : Log} (h : L.Ok) : L.l.length ≤ 1048576 := by
  have := rise_len (L.l.map (·.1)) 0 h.rise (by intro x hx; obtain ⟨s, hs, rfl⟩ := List.mem_map.1 hx; exact (h.nums s hs).1) (by intro x hx; obtain ⟨s, hs, rfl⟩ := List.mem_map.1 hx; exact (h.nums s hs).2) (by omega)
  rw [List.length_map] at this
  omega
theorem Log.Ok.shut {L : Log} (h : L.Ok) (M : Med) : (L.shut M).1.1.Ok := by
  unfold Log.shut
  split; · exact h
  split
  · split
    · exact ⟨h.limit, h.rise, h.nums, h.sizes, h.fresh, fun hh => by cases hh⟩
    · exact h
  · exact h
theorem last_split {L : Log} {s : Int × Int} (h : L.l.getLast? = some s) : L.l = L.l.dropLast ++ [s] := by
  have hne : L.l ≠ [] := by intro e; rw [e] at h; cases h
  have h2 := List.dropLast_concat_getLast hne
  rw [List.getLast?_eq_some_getLast hne] at h
  cases h
  exact h2.symm
theorem last_len {L : Log} {s : Int × Int} (h : L.l.getLast? = some s) : L.l.length = L.l.dropLast.length + 1 := by
  have := congrArg List.length (last_split h)
  rw [List.length_append, List.length_singleton] at this
  exact this
theorem Log.Ok.next {L : Log} (h : L.Ok) : 0 ≤ L.next ∧ L.next ≤ 1048576 ∧ ∀ s ∈ L.l, s.1 < L.next := by
  unfold Log.next
  cases hl : L.l.getLast? with
  | none =>
    have := List.getLast?_eq_none_iff.1 hl
    simp [this]
  | some s =>
    have hs := h.nums s (List.mem_of_getLast? hl)
    refine ⟨by simp only; omega, by simp only; omega, ?_⟩
    have e := last_split hl
    have hr := h.rise
    rw [e, List.map_append, List.pairwise_append] at hr
    intro t ht
    rw [e] at ht
    rcases List.mem_append.1 ht with ht | ht
    · have := hr.2.2 t.1 (List.mem_map.2 ⟨t, ht, rfl⟩) s.1 (by simp)
      simp only; omega
    · rw [List.mem_singleton.1 ht]; simp only; omega
theorem Log.Ok.snoc {L : Log} (h : L.Ok) (hn : L.next < 1048576) (z : Nat) (hz : z ≤ 16777216) : ({ L with l := L.l ++ [(L.next, 8 + (z : Int))], on := true, fresh := L.fresh + 1 } : Log).Ok := by
  obtain ⟨n1, n2, n3⟩ := h.next
  have hf := h.fresh
  refine ⟨h.limit, ?_, ?_, ?_, ⟨by simp only; omega, by simp only [List.length_append, List.length_singleton]; omega⟩, fun _ => by simp⟩
  · simp only
    rw [List.map_append, List.pairwise_append]
    refine ⟨h.rise, by simp, ?_⟩
    intro a ha b hb
    obtain ⟨s, hs, rfl⟩ := List.mem_map.1 ha
    simp only [List.map_cons, List.map_nil, List.mem_singleton] at hb
    subst hb
    exact n3 s hs
  · intro s hs
    rcases List.mem_append.1 hs with hs | hs
    · exact h.nums s hs
    · rw [List.mem_singleton.1 hs]; exact ⟨n1, hn⟩
  · intro s hs
    rcases List.mem_append.1 hs with hs | hs
    · exact h.sizes s hs
    · rw [List.mem_singleton.1 hs]; exact ⟨by simp only; omega, by simp only; omega⟩
theorem Log.Ok.begin1 {L : Log} (h : L.Ok) (M : Med) (b : Bs) (hb : b.length ≤ 16777216) : (L.begin1 M b).1.1.Ok := by
  unfold Log.begin1
  split; · exact h
  rename_i hn
  split; · exact h
  split; · exact h.snoc (by omega) _ hb
  split; · exact h
  exact h
theorem Log.Ok.begin {L : Log} (h : L.Ok) (M : Med) (b : Bs) (hb : b.length ≤ 16777216) : (L.begin M b).1.1.Ok := by
  unfold Log.begin
  split
  · exact (h.shut M).begin1 _ _ hb
  · exact h.shut M
theorem Log.Ok.grow {L : Log} (h : L.Ok) (M : Med) (b : Bs) (hf : L.fits b.length = true) : (L.grow M b).1.1.Ok := by
  unfold Log.grow
  split; · exact h
  rename_i s hl
  split
  · have e := last_split hl
    have hr := h.rise
    have hlen : L.l.length = L.l.dropLast.length + 1 := last_len hl
    unfold Log.fits at hf
    rw [Bool.and_eq_true, decide_eq_true_eq, hl] at hf
    have hlim := h.limit
    refine ⟨h.limit, ?_, ?_, ?_, ?_, fun _ => by simp⟩
    · rw [e] at hr; simpa using hr
    · intro t ht
      rcases List.mem_append.1 ht with ht | ht
      · exact h.nums t (by rw [e]; exact List.mem_append_left _ ht)
      · rw [List.mem_singleton.1 ht]
        exact h.nums s (List.mem_of_getLast? hl)
    · intro t ht
      rcases List.mem_append.1 ht with ht | ht
      · exact h.sizes t (by rw [e]; exact List.mem_append_left _ ht)
      · rw [List.mem_singleton.1 ht]
        have := h.sizes s (List.mem_of_getLast? hl)
        have h2 : s.2 + (b.length : Int) ≤ L.limit := hf.2
        simp only; omega
    · have := h.fresh
      simp only [List.length_append, List.length_singleton]
      omega
  · exact h
theorem encode_len (x : Frm.Ent) (hk : x.key.length = 32) : (Frm.encode x).1.length ≤ 16425 := by
  unfold Frm.encode
  split; · simp
  rename_i hc
  have hd : x.data.length ≤ 16384 := by
    unfold Frm.check at hc
    repeat' split at hc
    all_goals first | omega | simp at hc
  unfold Frm.body
  simp only [List.length_append, Frm.le_len, List.length_singleton]
  split
  · simp; omega
  · omega
theorem Log.Ok.append {L : Log} (h : L.Ok) (M : Med) (x : Frm.Ent) (hk : x.key.length = 32) : (L.append M x).1.1.Ok := by
  have hl := encode_len x hk
  unfold Log.append
  split; · exact h
  split
  · rename_i hf; exact h.grow M _ hf
  · exact h.begin M _ (by omega)
theorem Log.Ok.commit {L : Log} (h : L.Ok) (M : Med) : (L.commit M).1.1.Ok := by
  have h1 := h.append M comEnt rfl
  unfold Log.commit
  split; · exact h1
  split; · exact h1
  split; · exact h1
  exact ⟨h1.limit, h1.rise, h1.nums, h1.sizes, ⟨Int.le_refl _, by simp⟩, fun hh => by cases hh⟩
theorem Log.Ok.without {L : Log} (h : L.Ok) (i : Nat) (hi : i < L.l.length) : (L.without i).Ok := by
  have hsub : (L.l.eraseIdx i).Sublist L.l := List.eraseIdx_sublist _ _
  have hlen : (L.l.eraseIdx i).length = L.l.length - 1 := List.length_eraseIdx_of_lt hi
  have hf := h.fresh
  refine ⟨h.limit, h.rise.sublist (hsub.map _), fun s hs => h.nums s (hsub.mem hs), fun s hs => h.sizes s (hsub.mem hs), ?_, ?_⟩
  · unfold Log.without
    simp only [hlen]
    split <;> omega
  · unfold Log.without
    simp only
    split
    · intro hh; cases hh
    · intro _ e
      have := congrArg List.length e
      rw [hlen] at this
      simp at this
      omega
theorem Log.at_lt {L : Log} {n : Int} {i : Nat} (h : L.at n = some i) : i < L.l.length ∧ ∃ s, L.l[i]? = some s ∧ s.1 = n := by
  unfold Log.at at h
  rw [List.findIdx?_eq_some_iff_getElem] at h
  obtain ⟨h1, h2, _⟩ := h
  exact ⟨h1, _, List.getElem?_eq_getElem h1, by simpa using h2⟩
theorem Log.Ok.remove {L : Log} (h : L.Ok) (M : Med) (n : Int) : (L.remove M n).1.1.Ok := by
  unfold Log.remove
  split; · exact h
  rename_i i hi
  split
  · exact h.without i (Log.at_lt hi).1
  · exact h
theorem Log.Ok.at_last {L : Log} (h : L.Ok) {s : Int × Int} (hl : L.l.getLast? = some s) : L.at s.1 = some (L.l.length - 1) := by
  have e := last_split hl
  have hlen : L.l.length = L.l.dropLast.length + 1 := last_len hl
  have hr := h.rise
  rw [e, List.map_append, List.pairwise_append] at hr
  unfold Log.at
  rw [List.findIdx?_eq_some_iff_getElem]
  refine ⟨by omega, ?_, ?_⟩
  · have : L.l[L.l.length - 1]? = some s := by rw [← List.getLast?_eq_getElem?]; exact hl
    obtain ⟨h1, h2⟩ := List.getElem?_eq_some_iff.1 this
    rw [h2]; simp
  · intro j hj
    have hj' : j < L.l.dropLast.length := by omega
    have hx : L.l[j]'(by omega) = L.l.dropLast[j] := by rw [List.getElem_dropLast]
    have h3 : (L.l.dropLast[j]).1 < s.1 := hr.2.2 (L.l.dropLast[j]).1 (List.mem_map.2 ⟨_, List.getElem_mem hj', rfl⟩) s.1 (by simp)
    rw [hx]
    rw [Bool.not_eq_true, beq_eq_false_iff_ne]
    omega
def Log.back : Nat → Log → Med → (Log × Med) × Int
  | 0, L, M => (({ L with on := false }, M), 0)
  | k + 1, L, M =>
    match L.l.getLast? with
    | none => (({ L with on := false }, M), 0)
    | some s => if (L.remove M s.1).2 = 0 then Log.back k (L.remove M s.1).1.1 (L.remove M s.1).1.2 else L.remove M s.1
def Log.rollback (L : Log) (M : Med) : (Log × Med) × Int := L.back L.fresh.toNat M
end Go.Seg
namespace Go.Rep
open Go.Frm (Bs Fnd)
open Go.Seg (Plc)
open Go.Tab (put)
abbrev Row := Int × Fnd
def rkey (r : Row) : Bs := r.2.e.key
def rtag (r : Row) : Int := r.2.e.tag
def rplc (r : Row) : Plc := ⟨r.1, r.2.at_, r.2.size⟩
structure Abt where
  tag : Int
  place : Plc
  first : Int
def newest : List Row → Bs → Option Row
  | [], _ => none
  | r :: l, k => match newest l k with
    | some x => some x
    | none => if rtag r ≠ 2 ∧ rkey r = k then some r else none
def firstPut : List Row → Bs → Option Row
  | [], _ => none
  | r :: l, k => if rtag r = 0 ∧ rkey r = k then some r else firstPut l k
def first (l : List Row) (k : Bs) : Int := match firstPut l k with
  | some r => r.1
  | none => -1
def ledger (l : List Row) (k : Bs) : Option Abt := (newest l k).map fun r => ⟨rtag r, rplc r, first l k⟩
def first0 (m : Bs → Option Abt) (r : Row) : Int := match m (rkey r) with
  | some a => a.first
  | none => -1
def first1 (m : Bs → Option Abt) (r : Row) : Int := if rtag r = 0 ∧ first0 m r < 0 then r.1 else first0 m r
def takeOne (m : Bs → Option Abt) (r : Row) : Bs → Option Abt :=
  if rtag r = 2 then m else put m (rkey r) ⟨rtag r, rplc r, first1 m r⟩
theorem newest_snoc (l : List Row) (r : Row) (k : Bs) : newest (l ++ [r]) k = if rtag r ≠ 2 ∧ rkey r = k then some r else newest l k := by
  induction l with
  | nil => simp only [List.nil_append, newest]
  | cons x l ih =>
    simp only [List.cons_append, newest, ih]
    split
    · rename_i h; split at h
      · rename_i h2; rw [if_pos h2]; cases h; rfl
      · rename_i h2; rw [if_neg h2, h]
    · rename_i h; split at h
      · cases h
      · rename_i h2; rw [if_neg h2, h]
theorem firstPut_snoc (l : List Row) (r : Row) (k : Bs) : firstPut (l ++ [r]) k = match firstPut l k with
    | some x => some x
    | none => if rtag r = 0 ∧ rkey r = k then some r else none := by
  induction l with
  | nil => simp only [List.nil_append, firstPut]
  | cons x l ih =>
    simp only [List.cons_append, firstPut, ih]
    split
    · rename_i h; simp only
    · rfl
theorem newest_none {l : List Row} {k : Bs} (h : newest l k = none) : firstPut l k = none := by
  induction l with
  | nil => rfl
  | cons x l ih =>
    simp only [newest] at h
    split at h
    · cases h
    · rename_i h1
      split at h
      · cases h
      · rename_i h2
        simp only [firstPut]
        rw [if_neg fun h3 => h2 ⟨by rw [h3.1]; decide, h3.2⟩]
        exact ih h1
theorem firstPut_mem {l : List Row} {k : Bs} {r : Row} (h : firstPut l k = some r) : r ∈ l ∧ rtag r = 0 ∧ rkey r = k := by
  induction l with
  | nil => cases h
  | cons x l ih =>
    simp only [firstPut] at h
    split at h
    · cases h; exact ⟨.head _, by assumption⟩
    · exact ⟨.tail _ (ih h).1, (ih h).2⟩
theorem ledger_snoc (l : List Row) (r : Row) (h0 : ∀ x ∈ l, 0 ≤ x.1) : ledger (l ++ [r]) = takeOne (ledger l) r := by
  funext k
  unfold takeOne
  by_cases h2 : rtag r = 2
  · rw [if_pos h2]
    unfold ledger first
    rw [newest_snoc, if_neg (fun h => h.1 h2), firstPut_snoc]
    cases firstPut l k with
    | some x => rfl
    | none => simp only; rw [if_neg (fun h => by rw [h2] at h; exact absurd h.1 (by decide))]
  · rw [if_neg h2]
    unfold put
    by_cases hk : k = rkey r
    · subst hk
      rw [if_pos rfl]
      have e1 : ∀ k, ledger l k = (newest l k).map fun r => ⟨rtag r, rplc r, first l k⟩ := fun _ => rfl
      have e2 : ledger (l ++ [r]) (rkey r) = some ⟨rtag r, rplc r, first (l ++ [r]) (rkey r)⟩ := by
        unfold ledger
        rw [newest_snoc, if_pos ⟨h2, rfl⟩, Option.map_some]
      rw [e2]
      congr 2
      unfold first1 first0
      rw [e1]
      unfold first
      rw [firstPut_snoc]
      cases hn : newest l (rkey r) with
      | none =>
        rw [newest_none hn]
        simp only [Option.map_none]
        by_cases ht : rtag r = 0
        · rw [if_pos ⟨ht, trivial⟩, if_pos ⟨ht, by decide⟩]
        · rw [if_neg (fun h => ht h.1), if_neg (fun h => ht h.1)]
      | some x =>
        simp only [Option.map_some]
        cases hf : firstPut l (rkey r) with
        | some y =>
          simp only
          rw [if_neg (fun h => by have := h0 y (firstPut_mem hf).1; omega)]
        | none =>
          simp only
          by_cases ht : rtag r = 0
          · rw [if_pos ⟨ht, trivial⟩, if_pos ⟨ht, by decide⟩]
          · rw [if_neg (fun h => ht h.1), if_neg (fun h => ht h.1)]
    · rw [if_neg hk]
      unfold ledger first
      rw [newest_snoc, if_neg (fun h => hk h.2.symm), firstPut_snoc]
      cases firstPut l k with
      | some x => rfl
      | none => simp only; rw [if_neg (fun h => hk h.2.symm)]
def counts (a : Abt) : Bool := decide (a.tag = 0) || (decide (0 ≤ a.first) && decide (a.first < a.place.seg))
def isNew (l : List Row) (i : Nat) : Bool := match l[i]? with
  | none => false
  | some r => decide (rtag r < 2) && (l.drop (i + 1)).all fun x => !(decide (rtag x < 2) && decide (rkey x = rkey r))
def cnt (l : List Row) (i : Nat) : Bool := match l[i]? with
  | none => false
  | some r => !decide (rtag r = 2) && isNew l i && (decide (rtag r = 0) || (l.take i).any fun x => decide (rtag x = 0) && decide (rkey x = rkey r) && decide (x.1 < r.1))
structure Rows (l : List Row) : Prop where
  tag : ∀ r ∈ l, rtag r = 0 ∨ rtag r = 1 ∨ rtag r = 2
  seg : ∀ r ∈ l, 0 ≤ r.1
  rise : l.Pairwise fun a b => a.1 ≤ b.1
end Go.Rep
namespace Go.Tab
open Go.Frm (Bs)
theorem bs_tri (a b : Bs) : a < b ∨ a = b ∨ b < a := by
  by_cases h1 : a < b
  · exact .inl h1
  · rcases List.le_iff_lt_or_eq.1 (List.not_lt.1 h1) with h2 | h2
    · exact .inr (.inr h2)
    · exact .inr (.inl h2.symm)
structure Lists {V : Type} (m : Bs → Option V) (l : List (Bs × V)) : Prop where
  rise : l.Pairwise fun a b => a.1 < b.1
  mem : ∀ k v, (k, v) ∈ l ↔ m k = some v
theorem rise_ext {V : Type} : ∀ {l l' : List (Bs × V)}, l.Pairwise (fun a b => a.1 < b.1) → l'.Pairwise (fun a b => a.1 < b.1) → (∀ p, p ∈ l ↔ p ∈ l') → l = l'
  | [], [], _, _, _ => rfl
  | [], b :: l', _, _, h => by have := (h b).2 (.head _); cases this
  | a :: l, [], _, _, h => by have := (h a).1 (.head _); cases this
  | a :: l, b :: l', h1, h2, h => by
    obtain ⟨a1, a2⟩ := List.pairwise_cons.1 h1
    obtain ⟨b1, b2⟩ := List.pairwise_cons.1 h2
    have hab : a = b := by
      rcases List.mem_cons.1 ((h a).1 (.head _)) with e | h3
      · exact e
      · rcases List.mem_cons.1 ((h b).2 (.head _)) with e | h4
        · exact e.symm
        · exact absurd (List.lt_trans (b1 a h3) (a1 b h4)) (List.lt_irrefl _)
    subst hab
    congr 1
    refine rise_ext a2 b2 fun p => ?_
    have := h p
    rw [List.mem_cons, List.mem_cons] at this
    constructor
    · intro hp
      rcases this.1 (.inr hp) with e | h3
      · subst e; exact absurd (a1 p hp) (List.lt_irrefl _)
      · exact h3
    · intro hp
      rcases this.2 (.inr hp) with e | h3
      · subst e; exact absurd (b1 p hp) (List.lt_irrefl _)
      · exact h3
theorem Lists.unique {V : Type} {m : Bs → Option V} {l l' : List (Bs × V)} (h : Lists m l) (h' : Lists m l') : l = l' :=
  rise_ext h.rise h'.rise fun p => by rw [h.mem p.1 p.2, h'.mem p.1 p.2]
def ins {V : Type} : List (Bs × V) → Bs × V → List (Bs × V)
  | [], x => [x]
  | y :: l, x => if x.1 < y.1 then x :: y :: l else y :: ins l x
end Go.Tab
namespace Go.Rep
open Go.Frm (Bs Fnd)
open Go.Seg (Plc)
open Go.Tab
def idx (l : List Row) : Nat → List (Bs × Plc)
  | 0 => []
  | i + 1 => match l[i]? with
    | none => idx l i
    | some r => if cnt l i = true ∧ rtag r = 0 then ins (idx l i) (rkey r, rplc r) else idx l i
def live (l : List Row) (s : Int) : Nat → Int
  | 0 => 0
  | i + 1 => match l[i]? with
    | none => live l s i
    | some r => if cnt l i = true ∧ r.1 = s then live l s i + r.2.size else live l s i
def liveL (s : Int) : List (Bs × Abt) → Int
  | [] => 0
  | p :: l => (if counts p.2 = true ∧ p.2.place.seg = s then p.2.place.size else 0) + liveL s l
def puts (kv : List (Bs × Abt)) : List (Bs × Plc) := (kv.filter fun p => decide (p.2.tag = 0)).map fun p => (p.1, p.2.place)
def newKeys (l : List Row) : Nat → List Bs
  | 0 => []
  | i + 1 => match l[i]? with
    | none => newKeys l i
    | some r => if isNew l i = true then rkey r :: newKeys l i else newKeys l i
def adds (l : List Row) (s : Int) (k : Bs) : Int := match ledger l k with
  | some a => if counts a = true ∧ a.place.seg = s then a.place.size else 0
  | none => 0
end Go.Rep
namespace Go.Proofs.YtmjldaedhmipkaaGreatDoor
open Go Go.Sl Go.Med Go.MapKept Go.RowKit
section
variable {P : Program} {w0 w : World} {L L' R : List HProp} {b : Nat} {ops : Array Oper} {rest : List Oper} {a : Act} {Q : Exit → Act → World → Prop}
variable {dst : Option Tmp} {t ty T : TypeId} {pos : String} {after : Array Edge} {x y z : Operand} {cs : Array Value} {v : Value} {o : Nat}
variable {vx vy : Value} {ad : Addr} {fl : Nat} {bo : BinOp} {uo : UnOp} {tz : TypeId} {G : World → Prop}
theorem yg_move {g : Option (Nat × Bool)} (hw : Region.wanted ⟨dst, .move x, t, pos, after, g⟩ (yielded ops a.tmps) = true) (hx : a.eval x = v) : Yields P ops ⟨dst, .move x, t, pos, after, g⟩ v a :=
  .inl ⟨hw, fun w => by simp only [execOp, hx]; rfl⟩
theorem yg_nil {g : Option (Nat × Bool)} (hw : Region.wanted ⟨dst, .nilCheck x, t, pos, after, g⟩ (yielded ops a.tmps) = true) (hx : a.eval x = .pointer (some ad)) : Yields P ops ⟨dst, .nilCheck x, t, pos, after, g⟩ (.pointer (some ad)) a :=
  .inl ⟨hw, fun w => by simp only [execOp, hx]; rfl⟩
theorem yg_field {g : Option (Nat × Bool)} (hw : Region.wanted ⟨dst, .fieldAddr ty x fl, t, pos, after, g⟩ (yielded ops a.tmps) = true) (hx : a.eval x = vx) (hr : ∀ w, (Instr.fieldAt ty vx fl).run P w = .ok v w) : Yields P ops ⟨dst, .fieldAddr ty x fl, t, pos, after, g⟩ v a :=
  .inl ⟨hw, fun w => by simp only [execOp, hx, Sem.run_bind, hr, Result.andThen_ok, Sem.run_pure]⟩
theorem yg_bin {g : Option (Nat × Bool)} (hw : Region.wanted ⟨dst, .binOp bo ty x y tz, t, pos, after, g⟩ (yielded ops a.tmps) = true) (hx : a.eval x = vx) (hy : a.eval y = vy) (hr : ∀ w, ((do eqGuard bo ty x y vx vy; binOp bo ty vx vy) : Sem Value).run P w = .ok v w) : Yields P ops ⟨dst, .binOp bo ty x y tz, t, pos, after, g⟩ v a :=
  .inl ⟨hw, fun w => by simp only [execOp, hx, hy, Sem.run_bind (x := (do eqGuard bo ty x y vx vy; binOp bo ty vx vy)), hr, Result.andThen_ok, Sem.run_pure]⟩
theorem yg_len {g : Option (Nat × Bool)} (hw : Region.wanted ⟨dst, .call { callee := .builtin .len, args := #[x], argTypes := #[ty] }, t, pos, after, g⟩ (yielded ops a.tmps) = true) (hx : a.eval x = vx) (hr : ∀ w, (Builtin.len_ #[ty] t #[vx]).run P w = .ok v w) : Yields P ops ⟨dst, .call { callee := .builtin .len, args := #[x], argTypes := #[ty] }, t, pos, after, g⟩ v a :=
  .inl ⟨hw, fun w => by
    rw [execOp_builtin_len, hx]
    simp only [Sem.run_bind, hr, Result.andThen_ok, Sem.run_pure]⟩
theorem tg_load {g : Option (Nat × Bool)} (hw : Region.wanted ⟨dst, .load ty x, t, pos, after, g⟩ (yielded ops a.tmps) = true) (hx : a.eval x = .pointer (some ad)) (h1 : oneB P ty = true) (hG : ∀ w, G w → w.cell? ad = some v) : YieldsIf P ops G ⟨dst, .load ty x, t, pos, after, g⟩ v a :=
  .inl ⟨hw, fun w hw => by
    obtain ⟨b, o, el⟩ := ad
    have hc := hG w hw
    simp only [execOp, hx, Instr.loadAt, Instr.sureAddr, Sem.run_bind, Sem.run_pure, Result.andThen_ok, run_load1A h1 hc]⟩
theorem yg_pick {g : Option (Nat × Bool)} {c : Bool} (hw : Region.wanted ⟨dst, .pick x y z, t, pos, after, g⟩ (yielded ops a.tmps) = true) (hx : a.eval x = .bool c) (hv : (if c then a.eval y else a.eval z) = v) : Yields P ops ⟨dst, .pick x y z, t, pos, after, g⟩ v a :=
  .inl ⟨hw, fun w => by
    subst hv
    simp only [execOp, hx]
    cases c <;> rfl⟩
theorem eg_call {g : Option (Nat × Bool)} {f : FuncId} {xs : Array Operand} {ts : Array TypeId} {K : Act → World → Prop} {E : Prop} (vs : List Value) (hw : Region.wanted ⟨dst, .call { callee := .value (.func f), args := xs, argTypes := ts }, t, pos, after, g⟩ (yielded ops a.tmps) = true) (hf : goB P f = true) (hv : xs.toList.map a.eval = vs)
    (h : Calls P f vs.toArray w (Upon K Q a dst)) : if Region.wanted ⟨dst, .call { callee := .value (.func f), args := xs, argTypes := ts }, t, pos, after, g⟩ (yielded ops a.tmps) = true then
      Oper.wp P ⟨dst, .call { callee := .value (.func f), args := xs, argTypes := ts }, t, pos, after, g⟩ a w K Q else E := by
  rw [if_pos hw]
  have h0 := eff_call (P := P) (ops := ops) (a := a) (w := w) (Q := Q) (dst := dst) (t := t) (pos := pos) (after := after) (K := K) (E := False) (xs := xs) (ts := ts) vs hf hv h
  rw [if_pos (want_none _ rfl)] at h0
  exact h0
end
end Go.Proofs.YtmjldaedhmipkaaGreatDoor
namespace Go.Med
def Med.which (D : Med) (s : ByteArray) : Int := match nget D.now s with
  | none => -1
  | some i => (i : Int)
end Go.Med
namespace Go.Proofs.YtmjldaedhmipkaaGreatDoor
open Go Go.Sl Go.Med Go.MapKept Go.RowKit
def nmL (p : ByteArray × Nat) : List Value := [.string p.1, .int .i64 p.2]
def nmsL (l : Names) : List Value := l.flatMap nmL
abbrev Bag := List (Value × Names)
def bagR (g : Bag) : HProp := stars (g.map fun p => osl 175 2 p.1 (nmsL p.2))
structure RF where
  f : Fil
  fv : Value
  nv : Value
  wv : Value
  ws : List (Chg × Value)
def rfL (x : RF) : List Value := [x.fv, x.nv, x.wv]
def rfsL (xs : List RF) : List Value := xs.flatMap rfL
def rfR (x : RF) : HProp := stars [bsl x.fv x.f.fast, bsl x.nv x.f.now, osl 155 3 x.wv (x.ws.flatMap chgCells), chgs x.ws]
def rlkL (x : Lnk) : List Value := [.string x.fr, .string x.to, .int .i64 x.f]
abbrev dskPt (d : Nat) (D : Med) (fsv fv nv wv : Value) : HProp :=
  pt d (.cells #[.int .i64 D.room, fsv, fv, nv, wv, .bool D.armed, .int .i64 D.left, .bool D.off] 136 (0,0))
def DskRaw (d : Nat) (D : Med) (fsv fv nv wv : Value) (xs : List RF) (g : Bag) : List HProp :=
  [dskPt d D fsv fv nv wv, osl 164 3 fsv (rfsL xs), stars (xs.map rfR), bagR g, osl 243 3 wv (D.waits.flatMap rlkL)]
structure DskIn (D : Med) (fv nv : Value) (xs : List RF) (g : Bag) : Prop where
  files : xs.map (·.f) = D.files
  ok : ∀ x ∈ xs, x.ws.map (·.1) = x.f.waits
  fast : (fv, D.fast) ∈ g
  now : (nv, D.now) ∈ g
def DskRep (d : Nat) (D : Med) : HProp := fun h => ∃ fsv fv nv wv xs g, DskIn D fv nv xs g ∧ stars (DskRaw d D fsv fv nv wv xs g) h
section
variable {w0 w : World} {b o : Nat} {ops : Array Oper} {rest : List Oper} {a : Act} {Q : Exit → Act → World → Prop} {dst : Option Tmp} {t ty : TypeId} {pos : String} {after : Array Edge} {x : Operand} {P : Program}
theorem wl_loadN' (ks : List Value) (hx : a.eval x = .pointer (some ⟨b, o, none⟩)) (hc : ∀ j v, ks[j]? = some v → w.cell? ⟨b, o + j, none⟩ = some v)
    {d : TypeDesc} (hu : P.underlying ty = some d) (hd : d.isRow = true) (hi : (P.info? ty).map (·.size) = some ks.length)
    (h : wpList P ops Q rest (a.put dst (.agg ks.toArray)) w) : wpList P ops Q (⟨dst, .load ty x, t, pos, after, none⟩ :: rest) a w :=
  wpList_load_mid rfl ty x rfl b o hx ks d hc hu hd hi h
end
section
variable {w0 w : World} {F R : List HProp} {d : Nat} {D : Med} {fsv fv nv wv v : Value} {xs : List RF} {g : Bag} {K : Nat}
theorem DskRep.open (h : Sat w0 w (DskRep d D :: F)) : ∃ fsv fv nv wv xs g, DskIn D fv nv xs g ∧ Sat w0 w (dskPt d D fsv fv nv wv :: osl 164 3 fsv (rfsL xs) :: stars (xs.map rfR) :: bagR g :: osl 243 3 wv (D.waits.flatMap rlkL) :: F) := by
  obtain ⟨ha, x, hx, p, q, dd, rfl, ⟨fsv, fv, nv, wv, xs, g, hin, hp⟩, hq⟩ := h
  refine ⟨fsv, fv, nv, wv, xs, g, hin, ha, _, hx, ?_⟩
  show stars (DskRaw d D fsv fv nv wv xs g ++ F) _
  rw [stars_append]
  exact ⟨p, q, dd, rfl, hp, hq⟩
theorem DskRep.shut (hin : DskIn D fv nv xs g) (h : Sat w0 w (dskPt d D fsv fv nv wv :: osl 164 3 fsv (rfsL xs) :: stars (xs.map rfR) :: bagR g :: osl 243 3 wv (D.waits.flatMap rlkL) :: F)) : Sat w0 w (DskRep d D :: F) :=
  Sat.join (M := DskRaw d D fsv fv nv wv xs g) h fun _ hx => ⟨fsv, fv, nv, wv, xs, g, hin, hx⟩
theorem DskIn.file (h : DskIn D fv nv xs g) {i : Nat} (hi : i < D.files.length) : ∃ x, xs[i]? = some x ∧ x.f = D.file i := by
  have hl : xs.length = D.files.length := by rw [← h.files, List.length_map]
  refine ⟨xs[i]'(by omega), List.getElem?_eq_getElem _, ?_⟩
  unfold Med.file
  rw [List.getD_eq_getElem?_getD, ← h.files, List.getElem?_map, List.getElem?_eq_getElem (by omega)]
  rfl
end
section
variable {w0 w : World} {F R : List HProp} {d : Nat} {D : Med} {fsv fv nv wv v lv : Value} {xs : List RF} {g : Bag} {K : Nat}
end
section
variable {w0 w : World} {F R : List HProp} {d : Nat} {D : Med} {fsv fv nv wv v lv : Value} {xs : List RF} {g : Bag} {K : Nat}
end
section
variable {w0 w : World} {F R : List HProp} {d : Nat} {D : Med} {fsv fv nv wv v lv : Value} {xs : List RF} {g : Bag} {K : Nat}
end
section
variable {P : Program} {w0 w : World} {L L' : List HProp} {b o : Nat} {ops : Array Oper} {a : Act} {Q : Exit → Act → World → Prop} {dst : Option Tmp} {t ty T : TypeId} {pos : String} {after : Array Edge} {x y : Operand} {cs : Array Value} {v : Value} {K : Act → World → Prop} {E : Prop}
theorem eff_store (hs : Sat w0 w L) (hx : a.eval x = .pointer (some ⟨b, o, none⟩)) (hy : a.eval y = v) {cs' : Array Value} (hcs : putsAt cs o v.cells.toList = cs') (u : Upd (pt b (.cells cs T (0,0))) (pt b (.cells cs' T (0,0))) L L') (hfit : o + v.cells.size ≤ cs.size)
    (hi : (P.info? ty).map (·.size) = some v.cells.size) (h1 : v.cells.toList.all (·.oneCell') = true)
    (hK : ∀ w', Sat w0 w' L' → K (a.put dst undef) w') :
    if Region.wanted ⟨dst, .store ty x y, t, pos, after, none⟩ (yielded ops a.tmps) = true then Oper.wp P ⟨dst, .store ty x y, t, pos, after, none⟩ a w K Q else E := by
  subst hcs
  obtain ⟨R', h2, h3⟩ := u
  refine eff_of rfl ?_
  have h := hs.perm h2
  have hth : w.there b o v.cells.size := by
    intro j hj
    refine ⟨?_, h.freeAt _⟩
    rw [h.cellAt (o + j) _ (Array.getElem?_eq_getElem (show o + j < cs.size by omega))]
    rfl
  have hst := run_storeCells_cells (P := P) b o v.cells.toList 0 w (fun j hj => by simpa using (hth j (by simpa using hj)).1) (fun j hj => by simpa using (hth j (by simpa using hj)).2)
    (fun u hu => (List.all_eq_true.1 h1) u hu)
  have hrun : (storeVar ty ⟨b, o, none⟩ v).run P w = .ok () (w.setCells b o v.cells.toList) := by
    cases hq : P.info? ty with
    | none => simp [hq] at hi
    | some i =>
      have hs : v.cells.size = i.size := by simp [hq] at hi; omega
      simp only [Nat.add_zero] at hst
      simp [storeVar, sizeOf, typeInfo, hq, hs, hst]
  unfold Oper.wp execOp
  simp only [hx, hy, Instr.storeAt, Instr.sureAddr, Sem.run_bind, Sem.run_pure, Result.andThen_ok, hrun]
  exact hK _ ((Sat.sets _ _ h).perm h3.symm)
end
section
variable {w0 w : World} {F R : List HProp} {d : Nat} {D : Med} {fsv fv nv wv v lv : Value} {xs : List RF} {g : Bag} {K : Nat}
end
section
variable {w0 w : World} {F R : List HProp} {d : Nat} {D : Med} {fsv fv nv wv v lv : Value} {xs : List RF} {g : Bag} {K : Nat}
end
def usedOf (D : Med) (l : Names) : Nat := (l.map fun p => (D.file p.2).now.length).sum
section
variable {w0 w : World} {F R : List HProp} {d : Nat} {D : Med} {fsv fv nv wv v lv : Value} {xs : List RF} {g : Bag} {K : Nat}
end
def nilV : Value := .slice none 0 0
def RF.zero : RF := ⟨Fil.new, .slice none 0 0, .slice none 0 0, .slice none 0 0, []⟩
theorem step_files (D : Med) : D.step.1.files = D.files := by unfold Med.step; split; (split <;> rfl); rfl
theorem step_now (D : Med) : D.step.1.now = D.now := by unfold Med.step; split; (split <;> rfl); rfl
theorem step_fast (D : Med) : D.step.1.fast = D.fast := by unfold Med.step; split; (split <;> rfl); rfl
section
variable {w0 w : World} {F R : List HProp} {d : Nat} {D : Med} {fsv fv nv wv v lv : Value} {xs : List RF} {g : Bag} {K : Nat}
end
end Go.Proofs.YtmjldaedhmipkaaGreatDoor
namespace Go.Med
theorem xorAt_len (l : Bs) (i : Nat) (y : UInt8) : (xorAt l i y).length = l.length := by unfold xorAt; simp
def Alike (c d : Chg) : Prop := d.cut = c.cut ∧ d.n = c.n ∧ d.b.length = c.b.length
theorem on_len {c d : Chg} (h : Alike c d) {l l' : Bs} (hl : l'.length = l.length) : (d.on l').length = (c.on l).length := by
  obtain ⟨h1, h2, h3⟩ := h
  unfold Chg.on
  rw [h1]
  split
  · simp [h2, hl]
  · simp [h3, hl]
theorem at_len {f g : Fil} (h0 : g.fast.length = f.fast.length) (hw : g.waits.length = f.waits.length)
    (hc : ∀ (k : Nat) (c d : Chg), f.waits[k]? = some c → g.waits[k]? = some d → Alike c d) : ∀ k, k ≤ f.waits.length → (g.at k).length = (f.at k).length := by
  intro k
  induction k with
  | zero => intro _; exact h0
  | succ k ih =>
    intro hk
    have h1 : f.waits[k]? = some (f.waits[k]'(by omega)) := List.getElem?_eq_getElem _
    have h2 : g.waits[k]? = some (g.waits[k]'(by omega)) := List.getElem?_eq_getElem _
    rw [f.at_succ k _ h1, g.at_succ k _ h2]
    exact on_len (hc k _ _ h1 h2) (ih (by omega))
theorem xorAt_left {l : Bs} {i : Nat} (y : UInt8) (b : Bs) (h : i < l.length) : xorAt (l ++ b) i y = xorAt l i y ++ b := by
  unfold xorAt
  rw [List.set_append_left _ _ h, List.getD_eq_getElem?_getD, List.getElem?_append_left h, List.getD_eq_getElem?_getD]
theorem xorAt_right {l : Bs} {i : Nat} (y : UInt8) (b : Bs) (h : l.length ≤ i) : xorAt (l ++ b) i y = l ++ xorAt b (i - l.length) y := by
  unfold xorAt
  rw [List.set_append_right _ _ h, List.getD_eq_getElem?_getD, List.getElem?_append_right h, List.getD_eq_getElem?_getD]
theorem xorAt_take (l : Bs) (i n : Nat) (y : UInt8) : (xorAt l i y).take n = xorAt (l.take n) i y := by
  unfold xorAt
  rw [List.take_set]
  by_cases h : i < n
  · rw [List.getD_eq_getElem?_getD, List.getD_eq_getElem?_getD, List.getElem?_take_of_lt h]
  · rw [List.set_eq_of_length_le (by simp; omega), List.set_eq_of_length_le (by simp; omega)]
theorem on_xor (c : Chg) (l : Bs) (i : Nat) (y : UInt8) (h : c.cut = true ∨ i < l.length) : c.on (xorAt l i y) = xorAt (c.on l) i y := by
  unfold Chg.on
  cases hc : c.cut
  · simp only [Bool.false_eq_true, if_false]
    rcases h with h | h
    · rw [hc] at h; cases h
    · exact (xorAt_left y c.b h).symm
  · simp only [if_true]; exact xorAt_take l i c.n y
def Past (f : Fil) (i k n : Nat) : Prop := ∀ (j : Nat) (c : Chg), k ≤ j → j < n → f.waits[j]? = some c → c.cut = true ∨ i < (f.at j).length
theorem at_xor {f g : Fil} {i k : Nat} {y : UInt8} (h0 : g.at k = xorAt (f.at k) i y) (hw : ∀ j, k ≤ j → g.waits[j]? = f.waits[j]?) (hp : Past f i k f.waits.length) :
    ∀ j, k ≤ j → j ≤ f.waits.length → g.at j = xorAt (f.at j) i y := by
  intro j hj
  induction hj with
  | refl => intro _; exact h0
  | @step j hk ih =>
    intro hl
    have h1 : f.waits[j]? = some (f.waits[j]'(by omega)) := List.getElem?_eq_getElem _
    have h2 : g.waits[j]? = some (f.waits[j]'(by omega)) := by rw [hw j hk]; exact h1
    rw [f.at_succ j _ h1, g.at_succ j _ h2, ih (by omega)]
    exact on_xor _ _ _ _ (hp j _ hk (by omega) h1)
theorem rotWaits_spec (f : Fil) (i : Nat) (y : UInt8) : ∀ n, n ≤ f.waits.length →
    (rotWaits f i y n = none ∧ Past f i 0 n) ∨
    ∃ (k : Nat) (c : Chg), k < n ∧ f.waits[k]? = some c ∧ c.cut = false ∧ (f.at k).length ≤ i ∧ rotWaits f i y n = some (f.waits.set k { c with b := xorAt c.b (i - (f.at k).length) y }) ∧ Past f i (k + 1) n
  | 0, _ => .inl ⟨rfl, fun j c _ h => by omega⟩
  | n + 1, hn => by
    have h1 : f.waits[n]? = some (f.waits[n]'(by omega)) := List.getElem?_eq_getElem _
    generalize f.waits[n]'(by omega) = c at h1
    have step : (c.cut = true ∨ i < (f.at n).length) → rotWaits f i y (n + 1) = rotWaits f i y n := by
      intro h
      show (match f.waits[n]? with | none => _ | some c => _) = _
      rw [h1]
      simp only
      rcases h with h | h
      · rw [if_pos h]
      · split
        · rfl
        · rw [if_neg (by omega)]
    have past : ∀ k, (c.cut = true ∨ i < (f.at n).length) → Past f i k n → Past f i k (n + 1) := by
      intro k h hp j d hk hj hd
      rcases Nat.lt_or_ge j n with hlt | hge
      · exact hp j d hk hlt hd
      · obtain rfl : j = n := by omega
        rw [h1] at hd; cases hd; exact h
    by_cases h : c.cut = true ∨ i < (f.at n).length
    · rcases rotWaits_spec f i y n (by omega) with ⟨h2, h3⟩ | ⟨k, d, h2, h3, h4, h5, h6, h7⟩
      · exact .inl ⟨(step h).trans h2, past 0 h h3⟩
      · exact .inr ⟨k, d, by omega, h3, h4, h5, (step h).trans h6, past _ h h7⟩
    · have hc : c.cut = false := by cases hcc : c.cut; rfl; exact absurd (.inl hcc) h
      have hl : (f.at n).length ≤ i := Nat.le_of_not_lt fun h' => h (.inr h')
      refine .inr ⟨n, c, by omega, h1, hc, hl, ?_, fun j d hk hj => by omega⟩
      show (match f.waits[n]? with | none => _ | some c => _) = _
      rw [h1]
      simp only [hc, Bool.false_eq_true, if_false]
      rw [if_pos hl]
theorem rot_ok_of {f g : Fil} {K : Nat} (h : f.Ok K) (h0 : g.fast.length = f.fast.length) (hw : g.waits.length = f.waits.length)
    (hc : ∀ (k : Nat) (c d : Chg), f.waits[k]? = some c → g.waits[k]? = some d → Alike c d) (hn : g.now = g.at f.waits.length) : g.Ok K := by
  have hl := at_len h0 hw hc
  refine ⟨by rw [hw]; exact hn, ?_, ?_, by rw [hw]; exact h.budget⟩
  · intro k d hk hd
    have hlt : k < g.waits.length := (List.getElem?_eq_some_iff.1 hk).1
    obtain ⟨c, hcc⟩ : ∃ c, f.waits[k]? = some c := ⟨f.waits[k]'(by omega), List.getElem?_eq_getElem _⟩
    obtain ⟨a1, a2, a3⟩ := hc k c d hcc hk
    rw [hl k (by omega), a2]
    exact h.cuts k c hcc (by rw [← a1]; exact hd)
  · intro k hk
    rw [hl k (by omega)]
    exact h.size k (by omega)
theorem Fil.Ok.rot {f : Fil} {K : Nat} (h : f.Ok K) (i : Nat) (y : UInt8) : (f.rot i y).Ok K ∧ (f.rot i y).now = xorAt f.now i y := by
  rcases rotWaits_spec f i y f.waits.length (Nat.le_refl _) with ⟨h1, h2⟩ | ⟨k, c, hk, hc, hcut, hlen, h1, h2⟩
  · have e : f.rot i y = { f with now := xorAt f.now i y, fast := xorAt f.fast i y } := by unfold Fil.rot; rw [h1]
    rw [e]
    refine ⟨rot_ok_of h (xorAt_len _ _ _) rfl (fun k c d h3 h4 => ?_) ?_, rfl⟩
    · rw [h3] at h4; cases h4; exact ⟨rfl, rfl, rfl⟩
    · have := at_xor (f := f) (g := { f with now := xorAt f.now i y, fast := xorAt f.fast i y }) (i := i) (k := 0) (y := y) rfl (fun j _ => rfl) h2 f.waits.length (Nat.zero_le _) (Nat.le_refl _)
      rw [this, ← h.now]
  · have e : f.rot i y = { f with now := xorAt f.now i y, waits := f.waits.set k { c with b := xorAt c.b (i - (f.at k).length) y } } := by unfold Fil.rot; rw [h1]
    rw [e]
    have hset : (f.waits.set k { c with b := xorAt c.b (i - (f.at k).length) y })[k]? = some { c with b := xorAt c.b (i - (f.at k).length) y } := by rw [List.getElem?_set_self hk]
    refine ⟨rot_ok_of h rfl (by simp) (fun j c' d h3 h4 => ?_) ?_, rfl⟩
    · simp only at h4
      by_cases hj : k = j
      · subst hj
        rw [hset] at h4
        rw [hc] at h3
        cases h3; cases h4
        exact ⟨rfl, rfl, xorAt_len _ _ _⟩
      · rw [List.getElem?_set_ne hj, h3] at h4
        cases h4; exact ⟨rfl, rfl, rfl⟩
    · generalize hg : ({ f with now := xorAt f.now i y, waits := f.waits.set k { c with b := xorAt c.b (i - (f.at k).length) y } } : Fil) = g
      have hgw : g.waits = f.waits.set k { c with b := xorAt c.b (i - (f.at k).length) y } := by rw [← hg]
      have hgf : g.fast = f.fast := by rw [← hg]
      have hgn : g.now = xorAt f.now i y := by rw [← hg]
      have hk0 : g.at k = f.at k := by unfold Fil.at; rw [hgw, hgf, List.take_set_of_le (Nat.le_refl _)]
      have hk1 : g.at (k + 1) = xorAt (f.at (k + 1)) i y := by
        rw [g.at_succ k _ (by rw [hgw]; exact hset), hk0, f.at_succ k c hc]
        unfold Chg.on
        simp only [hcut, Bool.false_eq_true, if_false]
        rw [xorAt_right y c.b hlen]
      have := at_xor hk1 (fun j hj => by rw [hgw, List.getElem?_set_ne (by omega)]) h2 f.waits.length hk (Nat.le_refl _)
      rw [this, hgn, ← h.now]
end Go.Med
namespace Go.Med
structure Cal where
  kind : Int
  name : ByteArray
  to : ByteArray
  n : Int
  m : Int
  b : Bs
  l : List Int
def lowByte (m : Int) : UInt8 := UInt8.ofNat (m % 256).toNat
def Med.does (M : Med) (x : Cal) : Med × (Bs × Int × Bool) :=
  if x.kind = 0 then ((M.create x.name).1, [], (M.create x.name).2, false)
  else if x.kind = 1 then ((M.append x.name x.b).1, [], (M.append x.name x.b).2, false)
  else if x.kind = 2 then ((M.truncate x.name x.n).1, [], (M.truncate x.name x.n).2, false)
  else if x.kind = 3 then ((M.rename x.name x.to).1, [], (M.rename x.name x.to).2, false)
  else if x.kind = 4 then ((M.remove x.name).1, [], (M.remove x.name).2, false)
  else if x.kind = 5 then ((M.sync x.name).1, [], (M.sync x.name).2, false)
  else if x.kind = 6 then (M.syncDir.1, [], M.syncDir.2, false)
  else if x.kind = 7 then ((M.arm x.n).1, [], (M.arm x.n).2, false)
  else if x.kind = 8 then (M.crash x.l, [], 0, false)
  else if x.kind = 9 then ((M.setRoom x.n).1, [], (M.setRoom x.n).2, false)
  else if x.kind = 10 then ((M.rot x.name x.n (lowByte x.m)).1, [], 0, (M.rot x.name x.n (lowByte x.m)).2)
  else (M, (M.read x.name x.n x.m).1, (M.read x.name x.n x.m).2, false)
theorem Med.does_ind {P : Med × Bs × Int × Bool → Prop} {M : Med} {x : Cal}
    (h0 : x.kind = 0 → P ((M.create x.name).1, [], (M.create x.name).2, false))
    (h1 : x.kind = 1 → P ((M.append x.name x.b).1, [], (M.append x.name x.b).2, false))
    (h2 : x.kind = 2 → P ((M.truncate x.name x.n).1, [], (M.truncate x.name x.n).2, false))
    (h3 : x.kind = 3 → P ((M.rename x.name x.to).1, [], (M.rename x.name x.to).2, false))
    (h4 : x.kind = 4 → P ((M.remove x.name).1, [], (M.remove x.name).2, false))
    (h5 : x.kind = 5 → P ((M.sync x.name).1, [], (M.sync x.name).2, false))
    (h6 : x.kind = 6 → P (M.syncDir.1, [], M.syncDir.2, false))
    (h7 : x.kind = 7 → P ((M.arm x.n).1, [], (M.arm x.n).2, false))
    (h8 : x.kind = 8 → P (M.crash x.l, [], 0, false))
    (h9 : x.kind = 9 → P ((M.setRoom x.n).1, [], (M.setRoom x.n).2, false))
    (h10 : x.kind = 10 → P ((M.rot x.name x.n (lowByte x.m)).1, [], 0, (M.rot x.name x.n (lowByte x.m)).2))
    (hz : x.kind ≠ 0 ∧ x.kind ≠ 1 ∧ x.kind ≠ 2 ∧ x.kind ≠ 3 ∧ x.kind ≠ 4 ∧ x.kind ≠ 5 ∧ x.kind ≠ 6 ∧ x.kind ≠ 7 ∧ x.kind ≠ 8 ∧ x.kind ≠ 9 ∧ x.kind ≠ 10 → P (M, (M.read x.name x.n x.m).1, (M.read x.name x.n x.m).2, false)) : P (M.does x) := by
  unfold Med.does
  by_cases c0 : x.kind = 0; · rw [if_pos c0]; exact h0 c0
  rw [if_neg c0]
  by_cases c1 : x.kind = 1; · rw [if_pos c1]; exact h1 c1
  rw [if_neg c1]
  by_cases c2 : x.kind = 2; · rw [if_pos c2]; exact h2 c2
  rw [if_neg c2]
  by_cases c3 : x.kind = 3; · rw [if_pos c3]; exact h3 c3
  rw [if_neg c3]
  by_cases c4 : x.kind = 4; · rw [if_pos c4]; exact h4 c4
  rw [if_neg c4]
  by_cases c5 : x.kind = 5; · rw [if_pos c5]; exact h5 c5
  rw [if_neg c5]
  by_cases c6 : x.kind = 6; · rw [if_pos c6]; exact h6 c6
  rw [if_neg c6]
  by_cases c7 : x.kind = 7; · rw [if_pos c7]; exact h7 c7
  rw [if_neg c7]
  by_cases c8 : x.kind = 8; · rw [if_pos c8]; exact h8 c8
  rw [if_neg c8]
  by_cases c9 : x.kind = 9; · rw [if_pos c9]; exact h9 c9
  rw [if_neg c9]
  by_cases c10 : x.kind = 10; · rw [if_pos c10]; exact h10 c10
  rw [if_neg c10]
  exact hz ⟨c0, c1, c2, c3, c4, c5, c6, c7, c8, c9, c10⟩
structure Quiet (M : Med) : Prop where
  armed : M.armed = false
  off : M.off = false
  left : M.left = 0
theorem Quiet.new (r : Nat) : Quiet (new r) := ⟨rfl, rfl, rfl⟩
theorem Quiet.step {M : Med} (h : Quiet M) : M.step = (M, true) := by simp [Med.step, h.armed]
theorem Quiet.link {M : Med} (h : Quiet M) (x : Lnk) : Quiet (M.link x) := ⟨h.armed, h.off, h.left⟩
theorem Quiet.setFile {M : Med} (h : Quiet M) (i : Nat) (f : Fil) : Quiet (M.setFile i f) := ⟨h.armed, h.off, h.left⟩
theorem Quiet.create {M : Med} (h : Quiet M) (s : ByteArray) : Quiet (M.create s).1 := by
  unfold Med.create
  rw [h.step]
  split; · exact h
  split; · exact h
  split; · exact h
  split; · exact h
  split; · exact h
  exact ⟨h.armed, h.off, h.left⟩
theorem Quiet.append {M : Med} (h : Quiet M) (s : ByteArray) (b : Bs) : Quiet (M.append s b).1 := by
  unfold Med.append
  rw [h.step]
  split; · exact h
  split; · exact h
  split; · exact h
  split; · exact h
  exact h.setFile _ _
theorem Quiet.remove {M : Med} (h : Quiet M) (s : ByteArray) : Quiet (M.remove s).1 := by
  unfold Med.remove
  rw [h.step]
  split; · exact h
  split; · exact h
  split; · exact h
  exact h.link _
theorem Quiet.sync {M : Med} (h : Quiet M) (s : ByteArray) : Quiet (M.sync s).1 := by
  unfold Med.sync
  rw [h.step]
  split; · exact h
  split; · exact h
  split; · exact h
  exact h.setFile _ _
theorem Quiet.syncDir {M : Med} (h : Quiet M) : Quiet M.syncDir.1 := by
  unfold Med.syncDir
  rw [h.step]
  split; · exact h
  split; · exact h
  exact ⟨h.armed, h.off, h.left⟩
def Med.plays : Med → List Cal → Med
  | M, [] => M
  | M, x :: l => Med.plays (if x.kind = 7 then M else (M.does x).1) l
def FFlat (f : Fil) : Prop := f.now = f.fast ∧ f.waits = []
theorem FFlat.crash {f : Fil} (h : FFlat f) (a b : Int) : f.crash a b = f := by
  obtain ⟨fast, now, waits⟩ := f
  obtain ⟨h1, h2⟩ := h
  simp only at h1 h2
  subst h1; subst h2
  simp [Fil.crash, Fil.left, Fil.at]
theorem crashFiles_flat (l : List Int) : ∀ (ns : Names) (j : Nat) (fs : List Fil), (∀ p ∈ ns, p.2 < fs.length ∧ FFlat (fs.getD p.2 Fil.new)) → crashFiles l ns j fs = fs
  | [], _, _, _ => rfl
  | p :: ns, j, fs, h => by
    obtain ⟨h1, h2⟩ := h p (.head _)
    have e : fs.set p.2 ((fs.getD p.2 Fil.new).crash (num l j) (num l (j + 1))) = fs := by
      rw [h2.crash]
      rw [List.getD_eq_getElem?_getD, List.getElem?_eq_getElem h1]
      exact List.set_getElem_self h1
    unfold crashFiles
    rw [e]
    exact crashFiles_flat l ns _ fs fun q hq => h q (.tail _ hq)
structure Flat (M : Med) : Prop where
  quiet : Quiet M
  fast : M.fast = M.now
  waits : M.waits = []
  files : ∀ p ∈ M.now, FFlat (M.file p.2)
theorem Flat.crash {M : Med} {K : Nat} (h : Flat M) (ok : M.Ok K) (l : List Int) : M.crash l = M := by
  obtain ⟨⟨q1, q2, q3⟩, h2, h3, h4⟩ := h
  have hid := ok.nowOk.ids
  obtain ⟨room, fast, now, files, waits, armed, left, off⟩ := M
  simp only at q1 q2 q3 h2 h3
  subst q1; subst q2; subst q3; subst h2; subst h3
  have e := crashFiles_flat l fast 1 files (fun p hp => ⟨hid p hp, h4 p hp⟩)
  simp only [Med.crash, Med.lastNames, List.take_nil, List.foldl_nil, e]
def Med.syncs : Med → List ByteArray → Med
  | M, [] => M
  | M, s :: l => Med.syncs (M.sync s).1 l
theorem Quiet.sync_eq {M : Med} (h : Quiet M) {s : ByteArray} {i : Nat} (hs : nget M.now s = some i) : M.sync s = (M.setFile i (M.file i).sync, 0) := by
  unfold Med.sync
  rw [h.step, h.off, hs]
  rfl
structure Synced (M M' : Med) : Prop where
  room : M'.room = M.room
  fast : M'.fast = M.fast
  now : M'.now = M.now
  waits : M'.waits = M.waits
  quiet : Quiet M'
  bytes : ∀ i, (M'.file i).now = (M.file i).now
  len : M'.files.length = M.files.length
theorem file_set {M : Med} {i : Nat} {f : Fil} (hi : i < M.files.length) (j : Nat) : (M.setFile i f).file j = if j = i then f else M.file j := by
  unfold Med.setFile Med.file
  simp only [List.getD_eq_getElem?_getD]
  split
  · rename_i h; subst h; rw [List.getElem?_set_self hi]; rfl
  · rename_i h; rw [List.getElem?_set_ne (Ne.symm h)]
theorem Quiet.syncDir_eq {M : Med} (h : Quiet M) : M.syncDir = ({ M with fast := M.now, waits := [] }, 0) := by
  unfold Med.syncDir
  rw [h.step, if_neg (by rw [h.off]; exact Bool.false_ne_true)]
  simp
def Moms (M : Med) (l : List (List ByteArray)) : Prop := ∀ k, k ≤ M.waits.length → (M.lastNames k).map (·.1) ∈ l
def Ext (M M' : Med) : Prop := M'.fast = M.fast ∧ (M'.waits = M.waits ∨ ∃ y, M'.waits = M.waits ++ [y])
structure Armed (n : Nat) (M : Med) : Prop where
  armed : M.armed = true
  off : M.off = false
  left : M.left = n
def Dst (M : Med) : Prop := (M.now.map (·.2)).Nodup
theorem used_split {M : Med} (hs : Srt M.now) (hd : Dst M) {s : ByteArray} {i : Nat} (h : nget M.now s = some i) :
    (∀ p ∈ ndel M.now s, p.2 ≠ i) ∧ ∀ g : Nat → Nat, (M.now.map fun p => g p.2).sum = g i + ((ndel M.now s).map fun p => g p.2).sum := by
  have hp := ndel_perm hs.keys (nget_mem h)
  constructor
  · have hd' : (M.now.map fun p : ByteArray × Nat => p.2).Nodup := hd
    have := (hp.map (fun p : ByteArray × Nat => p.2)).nodup_iff.1 hd'
    simp only [List.map_cons, List.nodup_cons] at this
    intro p hp e
    exact this.1 (List.mem_map.2 ⟨p, hp, e⟩)
  · intro g
    have := (hp.map fun p => g p.2).sum_nat
    simpa using this
theorem sum_congr {l : Names} {g h : Nat → Nat} (e : ∀ p ∈ l, g p.2 = h p.2) : (l.map fun p => g p.2).sum = (l.map fun p => h p.2).sum := by
  rw [List.map_congr_left e]
theorem used_set {M : Med} {K : Nat} (ok : M.Ok K) (hd : Dst M) {s : ByteArray} {i : Nat} (h : nget M.now s = some i) (f : Fil) :
    (M.setFile i f).used + (M.file i).now.length = M.used + f.now.length := by
  obtain ⟨h1, h2⟩ := used_split ok.nowOk.srt hd h
  have hi : i < M.files.length := ok.nowOk.ids _ (nget_mem h)
  have e1 := h2 fun j => (M.file j).now.length
  have e2 := h2 fun j => ((M.setFile i f).file j).now.length
  have e3 : ((ndel M.now s).map fun p => ((M.setFile i f).file p.2).now.length).sum = ((ndel M.now s).map fun p => (M.file p.2).now.length).sum :=
    sum_congr (g := fun j => ((M.setFile i f).file j).now.length) (h := fun j => (M.file j).now.length) fun p hp => by rw [file_set hi, if_neg (h1 p hp)]
  have e4 : (M.setFile i f).file i = f := by rw [file_set hi, if_pos rfl]
  simp only [e4, e3] at e2
  show (M.now.map fun p => ((M.setFile i f).file p.2).now.length).sum + _ = (M.now.map fun p => (M.file p.2).now.length).sum + _
  rw [e1, e2]
  omega
theorem sum_del_le (l : Names) (s : ByteArray) (g : Nat → Nat) : ((ndel l s).map fun p => g p.2).sum ≤ (l.map fun p => g p.2).sum := by
  induction l with
  | nil => exact Nat.le_refl _
  | cons p l ih =>
    unfold ndel at ih ⊢
    rw [List.filter_cons]
    split
    · simp only [List.map_cons, List.sum_cons]; omega
    · simp only [List.map_cons, List.sum_cons]; omega
theorem sum_put (l : Names) (s : ByteArray) (i : Nat) (g : Nat → Nat) : ((nput l s i).map fun p => g p.2).sum = g i + ((ndel l s).map fun p => g p.2).sum := by
  have := ((nput_perm l s i).map fun p => g p.2).sum_nat
  simpa using this
theorem nodup_put {l : Names} {s : ByteArray} {i : Nat} (h : (l.map (·.2)).Nodup) (hi : ∀ p ∈ l, p.2 ≠ i) : ((nput l s i).map (·.2)).Nodup := by
  refine ((nput_perm l s i).map (·.2)).nodup_iff.2 ?_
  simp only [List.map_cons, List.nodup_cons]
  refine ⟨fun hm => ?_, h.sublist (List.filter_sublist.map _)⟩
  obtain ⟨p, hp, e⟩ := List.mem_map.1 hm
  exact hi p (List.mem_filter.1 hp).1 e
structure Fits (M M' : Med) : Prop where
  room : M'.room = M.room
  dst : Dst M'
  used : M'.used ≤ M'.room
theorem step_alike (M : Med) : M.step.1.room = M.room ∧ M.step.1.now = M.now ∧ M.step.1.files = M.files := ⟨M.step_same.1, M.step_same.2.2.1, M.step_same.2.2.2.1⟩
theorem Fits.self {M : Med} (hd : Dst M) (hu : M.used ≤ M.room) : Fits M M := ⟨rfl, hd, hu⟩
theorem used_of {M M' : Med} (h1 : M'.now = M.now) (h2 : M'.files = M.files) : M'.used = M.used := by unfold Med.used Med.file; rw [h1, h2]
theorem Fits.alike {M M' : Med} (hd : Dst M) (hu : M.used ≤ M.room) (hr : M'.room = M.room) (h1 : M'.now = M.now) (h2 : M'.files = M.files) : Fits M M' :=
  ⟨hr, by unfold Dst; rw [h1]; exact hd, by rw [used_of h1 h2, hr]; exact hu⟩
theorem Fits.set {M M' : Med} {K : Nat} (ok : M.Ok K) (hd : Dst M) (hu : M.used ≤ M.room) (hr : M'.room = M.room) (h1 : M'.now = M.now) (h2 : M'.files = M.files) {s : ByteArray} {i : Nat} (h : nget M.now s = some i) (f : Fil)
    (hf : M.used + f.now.length ≤ M.room + (M.file i).now.length) : Fits M (M'.setFile i f) := by
  have e : (M'.setFile i f).used = (M.setFile i f).used := used_of (by exact h1) (by show M'.files.set i f = M.files.set i f; rw [h2])
  have := used_set ok hd h f
  refine ⟨hr, by show (M'.now.map (·.2)).Nodup; rw [h1]; exact hd, ?_⟩
  rw [e]
  show _ ≤ M'.room
  rw [hr]
  omega
theorem Fits.does {M : Med} {K : Nat} (ok : M.Ok K) (hd : Dst M) (hu : M.used ≤ M.room) (x : Cal) (h8 : x.kind ≠ 8) (h9 : x.kind ≠ 9) :
    Fits M (M.does x).1 ∧ ((M.does x).2.2.1 = 11 → x.kind = 1 ∧ M.room < M.usedTold + x.b.length) := by
  have r := Fits.self hd hu
  obtain ⟨s1, s2, s3⟩ := step_alike M
  have rs : Fits M M.step.1 := Fits.alike hd hu s1 s2 s3
  refine Med.does_ind (P := fun q => Fits M q.1 ∧ (q.2.2.1 = 11 → x.kind = 1 ∧ M.room < M.usedTold + x.b.length)) ?_ ?_ ?_ ?_ ?_ ?_ ?_ ?_ ?_ ?_ ?_ ?_
  · intro _
    show Fits M (M.create x.name).1 ∧ ((M.create x.name).2 = 11 → _)
    unfold Med.create
    split; · exact ⟨r, by simp⟩
    split; · exact ⟨r, by simp⟩
    rename_i hg
    split; · exact ⟨r, by simp⟩
    rename_i hn
    split; · exact ⟨r, by simp⟩
    split; · exact ⟨rs, by simp⟩
    refine ⟨?_, by simp⟩
    have hnn : nget M.now x.name = none := by simpa using hn
    have hlt := ok.nowOk.ids
    have hne : x.name ≠ ByteArray.empty := good_ne (by simpa using hg)
    have enow : (({ M.step.1 with files := M.files ++ [Fil.new] } : Med).link ⟨ByteArray.empty, x.name, M.files.length⟩).now = nput M.now x.name M.files.length := by
      show Lnk.on _ M.step.1.now = _
      rw [s2]
      unfold Lnk.on
      simp only [if_true, if_neg hne]
    have hdel := ndel_none hnn
    refine ⟨s1, ?_, ?_⟩
    · unfold Dst
      rw [enow]
      exact nodup_put hd fun p hp e => by have := hlt p hp; omega
    · have : (({ M.step.1 with files := M.files ++ [Fil.new] } : Med).link ⟨ByteArray.empty, x.name, M.files.length⟩).used = M.used := by
        show ((Med.now _).map fun p => (Med.file _ p.2).now.length).sum = _
        rw [enow, sum_put _ _ _ (fun j => (Med.file _ j).now.length), hdel]
        have e0 : ((({ M.step.1 with files := M.files ++ [Fil.new] } : Med).link ⟨ByteArray.empty, x.name, M.files.length⟩).file M.files.length).now.length = 0 := by
          simp [Med.file, Med.link, Fil.new]
        rw [e0, Nat.zero_add]
        refine sum_congr (g := fun j => (Med.file _ j).now.length) (h := fun j => (M.file j).now.length) fun p hp => ?_
        have := hlt p hp
        simp only [Med.file, Med.link, List.getD_eq_getElem?_getD]
        rw [List.getElem?_append_left this]
      rw [this]
      show _ ≤ M.step.1.room
      rw [s1]; exact hu
  · intro hk1
    show Fits M (M.append x.name x.b).1 ∧ ((M.append x.name x.b).2 = 11 → _)
    unfold Med.append
    split; · exact ⟨r, by simp⟩
    rename_i hoff
    split; · exact ⟨r, by simp⟩
    rename_i i hi
    split
    · rename_i hfull
      refine ⟨r, fun _ => ⟨hk1, ?_⟩⟩
      have : M.usedTold = M.used := by unfold Med.usedTold; rw [if_neg hoff]
      rw [this]; omega
    rename_i hfull
    split; · exact ⟨rs, by simp⟩
    refine ⟨Fits.set ok hd hu s1 s2 s3 hi _ ?_, by simp⟩
    simp only [Fil.do, Chg.on, Bool.false_eq_true, if_false, List.length_append]
    omega
  · intro _
    show Fits M (M.truncate x.name x.n).1 ∧ ((M.truncate x.name x.n).2 = 11 → _)
    unfold Med.truncate
    split; · exact ⟨r, by simp⟩
    split; · exact ⟨r, by simp⟩
    rename_i i hi
    split; · exact ⟨r, by simp⟩
    split; · exact ⟨rs, by simp⟩
    refine ⟨Fits.set ok hd hu s1 s2 s3 hi _ ?_, by simp⟩
    simp only [Fil.do, Chg.on, if_true, List.length_take]
    omega
  · intro _
    show Fits M (M.rename x.name x.to).1 ∧ ((M.rename x.name x.to).2 = 11 → _)
    unfold Med.rename
    split; · exact ⟨r, by simp⟩
    split; · exact ⟨r, by simp⟩
    rename_i i hi
    split; · exact ⟨r, by simp⟩
    rename_i hg
    split; · exact ⟨rs, by simp⟩
    refine ⟨?_, by simp⟩
    have hne : x.to ≠ ByteArray.empty := good_ne (by simpa using hg)
    have hs : x.name ≠ ByteArray.empty := ok.nowOk.ne _ (nget_mem hi)
    obtain ⟨h1, h2⟩ := used_split ok.nowOk.srt hd hi
    have enow : (M.step.1.link ⟨x.name, x.to, i⟩).now = nput (ndel M.now x.name) x.to i := by
      show Lnk.on _ M.step.1.now = _
      rw [s2]
      unfold Lnk.on
      simp only [if_neg hs, if_neg hne]
    refine ⟨s1, ?_, ?_⟩
    · unfold Dst
      rw [enow]
      exact nodup_put (hd.sublist (List.filter_sublist.map _)) h1
    · have e1 := h2 fun j => (M.file j).now.length
      have e2 := sum_del_le (ndel M.now x.name) x.to fun j => (M.file j).now.length
      have : (M.step.1.link ⟨x.name, x.to, i⟩).used = ((nput (ndel M.now x.name) x.to i).map fun p => (M.file p.2).now.length).sum := by
        show ((Med.now _).map fun p => (Med.file _ p.2).now.length).sum = _
        rw [enow]
        unfold Med.file Med.link
        simp only [s3]
      rw [this, sum_put _ _ _ (fun j => (M.file j).now.length)]
      show _ ≤ M.step.1.room
      rw [s1]
      unfold Med.used at hu
      omega
  · intro _
    show Fits M (M.remove x.name).1 ∧ ((M.remove x.name).2 = 11 → _)
    unfold Med.remove
    split; · exact ⟨r, by simp⟩
    split; · exact ⟨r, by simp⟩
    rename_i i hi
    split; · exact ⟨rs, by simp⟩
    refine ⟨?_, by simp⟩
    have hs : x.name ≠ ByteArray.empty := ok.nowOk.ne _ (nget_mem hi)
    have enow : (M.step.1.link ⟨x.name, ByteArray.empty, 0⟩).now = ndel M.now x.name := by
      show Lnk.on ⟨x.name, ByteArray.empty, 0⟩ M.step.1.now = _
      rw [s2]
      unfold Lnk.on
      simp only [if_neg hs, if_true]
    refine ⟨s1, ?_, ?_⟩
    · unfold Dst
      rw [enow]
      exact hd.sublist (List.filter_sublist.map _)
    · have e2 := sum_del_le M.now x.name fun j => (M.file j).now.length
      have : (M.step.1.link ⟨x.name, ByteArray.empty, 0⟩).used = ((ndel M.now x.name).map fun p => (M.file p.2).now.length).sum := by
        show ((Med.now _).map fun p => (Med.file _ p.2).now.length).sum = _
        rw [enow]
        unfold Med.file Med.link
        simp only [s3]
      rw [this]
      show _ ≤ M.step.1.room
      rw [s1]
      unfold Med.used at hu
      omega
  · intro _
    show Fits M (M.sync x.name).1 ∧ ((M.sync x.name).2 = 11 → _)
    unfold Med.sync
    split; · exact ⟨r, by simp⟩
    split; · exact ⟨r, by simp⟩
    rename_i i hi
    split; · exact ⟨rs, by simp⟩
    refine ⟨Fits.set ok hd hu s1 s2 s3 hi _ ?_, by simp⟩
    simp only [Fil.sync]
    omega
  · intro _
    show Fits M M.syncDir.1 ∧ (M.syncDir.2 = 11 → _)
    unfold Med.syncDir
    split; · exact ⟨r, by simp⟩
    split; · exact ⟨rs, by simp⟩
    exact ⟨Fits.alike hd hu s1 s2 s3, by simp⟩
  · intro _
    show Fits M (M.arm x.n).1 ∧ ((M.arm x.n).2 = 11 → _)
    unfold Med.arm
    split; · exact ⟨r, by simp⟩
    split; · exact ⟨r, by simp⟩
    exact ⟨Fits.alike hd hu rfl rfl rfl, by simp⟩
  · exact fun h => absurd h h8
  · exact fun h => absurd h h9
  · intro _
    refine ⟨?_, fun h => by simp at h⟩
    show Fits M (M.rot x.name x.n (lowByte x.m)).1
    unfold Med.rot
    split; · exact r
    rename_i i hi
    split; · exact r
    refine Fits.set ok hd hu rfl rfl rfl hi _ ?_
    rw [((ok.file i).rot _ _).2, xorAt_len]
    omega
  · intro _
    refine ⟨r, fun h => ?_⟩
    exfalso
    have h' : (M.read x.name x.n x.m).2 = 11 := h
    unfold Med.read at h'
    revert h'
    split
    · simp
    split
    · simp
    simp only
    split
    · simp
    split
    · simp
    · simp
end Go.Med
namespace Go.Med
def Med.rmove (m : Med) (s t : ByteArray) (gone : Bool) : Med × Int :=
  if m.off then (m, 12)
  else match nget m.now s with
  | none => (m, 9)
  | some i =>
    if gone = false ∧ good t = false then (m, 7)
    else if m.step.2 = false then (m.step.1, 12)
    else (m.step.1.link ⟨s, if gone then ByteArray.empty else t, i⟩, 0)
def Med.rfile (D : Med) (l : List Int) (i : Nat) (p : ByteArray × Nat) : Fil := (D.file p.2).crash (num l (2 * i + 1)) (num l (2 * i + 2))
def Med.rcrash (D : Med) (l : List Int) : Med :=
  let ns := D.lastNames (clampN (num l 0) D.waits.length)
  { D with fast := ns.mapIdx fun i p => (p.1, i), now := ns.mapIdx fun i p => (p.1, i), waits := [], files := ns.mapIdx (D.rfile l), off := false, armed := false, left := 0 }
def Med.told (D : Med) (x : Cal) : Med × (Bs × Int × Bool) :=
  if x.kind = 0 then ((D.create x.name).1, [], (D.create x.name).2, false)
  else if x.kind = 1 then ((D.append x.name x.b).1, [], (D.append x.name x.b).2, false)
  else if x.kind = 2 then ((D.truncate x.name x.n).1, [], (D.truncate x.name x.n).2, false)
  else if x.kind = 3 then ((D.rmove x.name x.to false).1, [], (D.rmove x.name x.to false).2, false)
  else if x.kind = 4 then ((D.rmove x.name ByteArray.empty true).1, [], (D.rmove x.name ByteArray.empty true).2, false)
  else if x.kind = 5 then ((D.sync x.name).1, [], (D.sync x.name).2, false)
  else if x.kind = 6 then (D.syncDir.1, [], D.syncDir.2, false)
  else if x.kind = 7 then ((D.arm x.n).1, [], (D.arm x.n).2, false)
  else if x.kind = 8 then (D.rcrash x.l, [], 0, false)
  else if x.kind = 9 then ((D.setRoom x.n).1, [], (D.setRoom x.n).2, false)
  else if x.kind = 10 then ((D.rot x.name x.n (lowByte x.m)).1, [], 0, (D.rot x.name x.n (lowByte x.m)).2)
  else (D, (D.read x.name x.n x.m).1, (D.read x.name x.n x.m).2, false)
def ren (φ : Nat → Nat) (l : Names) : Names := l.map fun p => (p.1, φ p.2)
structure Side (φ : Nat → Nat) (L : Nat → Prop) (M D : Med) : Prop where
  room : D.room = M.room
  armed : D.armed = M.armed
  left : D.left = M.left
  off : D.off = M.off
  wl : D.waits.length = M.waits.length
  now : D.now = ren φ M.now
  names : ∀ k, k ≤ M.waits.length → D.lastNames k = ren φ (M.lastNames k)
  live : ∀ k, k ≤ M.waits.length → ∀ p ∈ M.lastNames k, L p.2
  once : ∀ k, k ≤ M.waits.length → ((M.lastNames k).map (·.2)).Nodup
  inj : ∀ i j, L i → L j → φ i = φ j → i = j
  file : ∀ i, L i → D.file (φ i) = M.file i
  lt : ∀ i, L i → φ i < D.files.length
  ml : ∀ i, L i → i < M.files.length
theorem Side.new (r : Nat) : Side id (fun _ => False) (new r) (new r) :=
  ⟨rfl, rfl, rfl, rfl, rfl, rfl, (fun k hk => by simp [Med.new] at hk; subst hk; rfl), (fun k hk p hp => by simp [Med.new] at hk; subst hk; simp [Med.new, Med.lastNames] at hp), (fun k hk => by simp [Med.new] at hk; subst hk; exact List.nodup_nil), fun _ _ h => h.elim, fun _ h => h.elim, fun _ h => h.elim, fun _ h => h.elim⟩
section
variable {φ : Nat → Nat} {L : Nat → Prop} {M D : Med} {K : Nat}
end
end Go.Med
namespace Go.Med
section
variable {φ : Nat → Nat} {L : Nat → Prop} {M D : Med} {K : Nat}
def Both (r q : Med × Int) : Prop := r.2 = q.2 ∧ ∃ φ L, Side φ L r.1 q.1
end
def Fil.Small (f : Fil) : Prop := ∀ c ∈ f.waits, c.b.length ≤ 16777216
def Med.Small (m : Med) : Prop := ∀ f ∈ m.files, f.Small
theorem Fil.Small.do {f : Fil} (h : f.Small) {c : Chg} (hc : c.b.length ≤ 16777216) : (f.do c).Small := by
  intro d hd
  rcases List.mem_append.1 hd with hd | hd
  · exact h d hd
  · rw [List.mem_singleton.1 hd]; exact hc
end Go.Med
namespace Go.Proofs.YtmjldaedhmipkaaGreatDoor
open Go Go.Sl Go.Med Go.MapKept Go.RowKit
section
variable {w0 w : World} {F R : List HProp} {d : Nat} {D : Med} {fsv fv nv wv v lv : Value} {xs : List RF} {g : Bag} {K : Nat}
end
section
variable {w0 w : World} {F R : List HProp} {d : Nat} {D : Med} {fsv fv nv wv v lv : Value} {xs : List RF} {g : Bag} {K : Nat}
end
section
variable {w0 w : World} {F R : List HProp} {d : Nat} {D : Med} {fsv fv nv wv v lv : Value} {xs : List RF} {g : Bag} {K : Nat}
end
section
variable {P : Program} {w0 w : World} {L L' : List HProp} {b o : Nat} {ops : Array Oper} {rest : List Oper} {a : Act} {Q : Exit → Act → World → Prop} {dst : Option Tmp} {t ty T sz n c : Nat} {pos : String} {after : Array Edge} {x y : Operand} {v : Value} {xs : List Value}
end
section
variable {w0 w : World} {F R : List HProp} {d i : Nat} {D : Med} {fsv fv nv wv v lv bv : Value} {xs : List RF} {x : RF} {g : Bag} {K : Nat}
end
def putL (xs : List Value) (i : Nat) (vs : List Value) : List Value := xs.take i ++ (vs ++ xs.drop (i + vs.length))
theorem putL_app (A B vs : List Value) (i : Nat) : putL (A ++ B) (A.length + i) vs = A ++ putL B i vs := by
  unfold putL
  rw [List.take_length_add_append, Nat.add_assoc, List.drop_length_add_append, List.append_assoc]
theorem putL_len {xs vs : List Value} {i : Nat} (h : i + vs.length ≤ xs.length) : (putL xs i vs).length = xs.length := by
  unfold putL
  simp only [List.length_append, List.length_take, List.length_drop]; omega
section
variable {P : Program} {w0 w : World} {L L' : List HProp} {b o : Nat} {ops : Array Oper} {rest : List Oper} {a : Act} {Q : Exit → Act → World → Prop} {dst : Option Tmp} {t ty T sz n c : Nat} {pos : String} {after : Array Edge} {x y : Operand} {v : Value} {xs vs : List Value} {K : Act → World → Prop} {E : Prop}
theorem putsAt_take {cs : Array Value} {i m : Nat} (hx : cs.toList.take m = xs) (hm : m ≤ cs.size) (hi : i + vs.length ≤ m) : (putsAt cs i vs).toList.take m = putL xs i vs := by
  subst hx
  rw [putsAt_list _ _ _ (by omega)]
  have hl : (cs.toList.take i ++ vs).length = i + vs.length := by rw [List.length_append, List.length_take, Array.length_toList]; omega
  unfold putL
  rw [List.take_append, hl, List.take_of_length_le (by omega), List.take_take, Nat.min_eq_left (by omega), List.drop_take, List.append_assoc]
theorem wl_storeSN (i : Nat) (hs : Sat w0 w L) (hx : a.eval x = .pointer (some ⟨b, i, none⟩)) (hy : a.eval y = v) (hv : v.cells.toList = vs) (u : Upd (osl T sz (.slice (some ⟨b, 0, none⟩) n c) xs) (osl T sz (.slice (some ⟨b, 0, none⟩) n c) (putL xs i vs)) L L')
    (hi : i + vs.length ≤ xs.length) (hty : (P.info? ty).map (·.size) = some vs.length) (h1 : vs.all (·.oneCell') = true)
    (hK : ∀ w', Sat w0 w' L' → wpList P ops Q rest (a.put dst undef) w') : wpList P ops Q (⟨dst, .store ty x y, t, pos, after, none⟩ :: rest) a w := by
  have hvs : v.cells.size = vs.length := by rw [← hv, Array.length_toList]
  obtain ⟨R', h2, h3⟩ := u
  have h := hs.perm h2
  rcases Sat.osl_cases h with ⟨he, _⟩ | ⟨g', n', cap', cs, he, k1, k2, k3, k4, k5, k6⟩
  · cases he
  · cases he
    have hlen : xs.length ≤ cs.size := by rw [← k5, List.length_take, Array.length_toList]; omega
    have hm : n * sz ≤ cs.size := Nat.le_trans (Nat.mul_le_mul_right _ k2) k3
    refine wpList_store_sat rfl ty x y rfl i v hx hy (by rw [hvs]; omega) (by rw [hvs]; exact hty) (by rw [← Array.all_toList, hv]; exact h1) k6 fun w' hS => hK w' (Sat.perm ?_ h3.symm)
    refine Sat.osl_of_pt hS (by rw [putL_len hi]; exact k1) k2 (by rw [putsAt_size]; exact k3) k4 ?_
    rw [hv]
    exact putsAt_take k5 hm (by rw [← k1]; exact hi)
theorem eff_storeSN (i : Nat) (hs : Sat w0 w L) (hx : a.eval x = .pointer (some ⟨b, i, none⟩)) (hy : a.eval y = v) (hv : v.cells.toList = vs) (u : Upd (osl T sz (.slice (some ⟨b, 0, none⟩) n c) xs) (osl T sz (.slice (some ⟨b, 0, none⟩) n c) (putL xs i vs)) L L')
    (hi : i + vs.length ≤ xs.length) (hty : (P.info? ty).map (·.size) = some vs.length) (h1 : vs.all (·.oneCell') = true)
    (hK : ∀ w', Sat w0 w' L' → K (a.put dst undef) w') :
    if Region.wanted ⟨dst, .store ty x y, t, pos, after, none⟩ (yielded ops a.tmps) = true then Oper.wp P ⟨dst, .store ty x y, t, pos, after, none⟩ a w K Q else E := by
  have hvs : v.cells.size = vs.length := by rw [← hv, Array.length_toList]
  obtain ⟨R', h2, h3⟩ := u
  have h := hs.perm h2
  rcases Sat.osl_cases h with ⟨he, _⟩ | ⟨g', n', cap', cs, he, k1, k2, k3, k4, k5, k6⟩
  · cases he
  · cases he
    have hlen : xs.length ≤ cs.size := by rw [← k5, List.length_take, Array.length_toList]; omega
    have hm : n * sz ≤ cs.size := Nat.le_trans (Nat.mul_le_mul_right _ k2) k3
    refine eff_store k6 hx hy (cs' := putsAt cs i vs) (by rw [hv]) upd0 (by rw [hvs]; omega) (by rw [hvs]; exact hty) (by rw [hv]; exact h1) fun w' hS => hK w' (Sat.perm ?_ h3.symm)
    refine Sat.osl_of_pt hS (by rw [putL_len hi]; exact k1) k2 (by rw [putsAt_size]; exact k3) k4 ?_
    exact putsAt_take k5 hm (by rw [← k1]; exact hi)
end
section
variable {α : Type} {f : α → List Value} {k : Nat}
theorem rows_len : ∀ {l : List α}, (∀ x ∈ l, (f x).length = k) → (l.flatMap f).length = k * l.length
  | [], _ => rfl
  | x :: l, h => by rw [List.flatMap_cons, List.length_append, h x (.head _), rows_len fun y hy => h y (.tail _ hy), List.length_cons, Nat.mul_succ]; omega
theorem rows_at : ∀ {l : List α} {i : Nat} {x : α} {j : Nat} {v : Value}, (∀ x ∈ l, (f x).length = k) → l[i]? = some x → (f x)[j]? = some v → (l.flatMap f)[i * k + j]? = some v
  | [], _, _, _, _, _, h, _ => by cases h
  | y :: l, 0, x, j, v, hk, h, hj => by
    obtain rfl : y = x := by simpa using h
    rw [List.flatMap_cons, Nat.zero_mul, Nat.zero_add, List.getElem?_append_left (List.getElem?_eq_some_iff.1 hj).1]; exact hj
  | y :: l, i + 1, x, j, v, hk, h, hj => by
    have h0 := hk y (.head _)
    rw [List.flatMap_cons, Nat.succ_mul, List.getElem?_append_right (by omega), h0, show i * k + k + j - k = i * k + j by omega]
    exact rows_at (fun z hz => hk z (.tail _ hz)) (by simpa using h) hj
theorem rows_set : ∀ {l : List α} {i : Nat} {x : α}, (∀ x ∈ l, (f x).length = k) → (f x).length = k → i < l.length → (l.set i x).flatMap f = putL (l.flatMap f) (i * k) (f x)
  | [], _, _, _, _, h => by simp at h
  | y :: l, 0, x, hk, hx, h => by
    have h0 := hk y (.head _)
    rw [List.set_cons_zero, List.flatMap_cons, List.flatMap_cons]
    unfold putL
    rw [Nat.zero_mul, List.take_zero, List.nil_append, Nat.zero_add, hx, ← h0, List.drop_left]
  | y :: l, i + 1, x, hk, hx, h => by
    have h0 := hk y (.head _)
    rw [List.set_cons_succ, List.flatMap_cons, List.flatMap_cons, rows_set (fun z hz => hk z (.tail _ hz)) hx (by simpa using h), Nat.succ_mul, Nat.add_comm (i * k) k, ← h0, putL_app]
theorem rows_rep (n : Nat) (x : α) : (List.replicate n x).flatMap f = (List.replicate n (f x)).flatten := by
  induction n with
  | zero => rfl
  | succ n ih => rw [List.replicate_succ, List.flatMap_cons, ih, List.replicate_succ, List.flatten_cons]
end
section
variable {w0 w : World} {F R : List HProp} {α : Type} {f : α → List Value} {k : Nat} {T : TypeId} {v : Value}
theorem osl_row {l : List α} {i : Nat} {x : α} (hk : ∀ x ∈ l, (f x).length = k) (h : rdsl k v (l.flatMap f) w) (hi : l[i]? = some x) (h0 : 0 < k) :
    ∃ bk off c, v = .slice (some ⟨bk, off, none⟩) l.length c ∧ ∀ j y, (f x)[j]? = some y → w.cell? ⟨bk, off + i * k + j, none⟩ = some y := by
  obtain ⟨a, n, c, rfl, hl, hx⟩ := id h
  rw [rows_len hk] at hl
  have hfx := hk x (List.mem_of_getElem? hi)
  obtain rfl : n = l.length := by
    rw [Nat.mul_comm] at hl
    exact (Nat.eq_of_mul_eq_mul_right h0 hl).symm
  obtain ⟨y0, hy0⟩ : ∃ y, (f x)[0]? = some y := ⟨_, List.getElem?_eq_getElem (by omega)⟩
  have h1 := rows_at hk hi hy0
  obtain ⟨bk, off, rfl, hc⟩ := rdsl_cells h h1
  exact ⟨bk, off, c, rfl, fun j y hj => by rw [Nat.add_assoc]; exact hc _ _ (rows_at hk hi hj)⟩
theorem osl_rows {l : List α} (hk : ∀ x ∈ l, (f x).length = k) (h : rdsl k v (l.flatMap f) w) (h0 : 0 < k) : ∃ a c, v = .slice a l.length c := by
  obtain ⟨a, n, c, rfl, hl, hx⟩ := id h
  rw [rows_len hk, Nat.mul_comm] at hl
  exact ⟨a, c, by rw [Nat.eq_of_mul_eq_mul_right h0 hl]⟩
end
theorem and_mask (x j : Nat) (hx : x < 9223372036854775808) (hj : j < 63) : bits .and .i64 (x : Int) ((2 ^ j - 1 : Nat) : Int) = ((x % 2 ^ j : Nat) : Int) := by
  have h2 : 2 ^ j ≤ 2 ^ 62 := Nat.pow_le_pow_right (by decide) (by omega)
  have h3 : (2 : Nat) ^ 62 = 4611686018427387904 := by decide
  have h4 : 0 < 2 ^ j := Nat.two_pow_pos j
  have hm : (BitVec.ofInt 64 ((2 ^ j - 1 : Nat) : Int)).toNat = 2 ^ j - 1 := by
    rw [BitVec.toNat_ofInt]
    have : ((2 ^ 64 : Nat) : Int) = 18446744073709551616 := by decide
    rw [this]
    omega
  have hn : (BitVec.ofInt 64 (x : Int)).toNat = x := by
    rw [BitVec.toNat_ofInt]
    have : ((2 ^ 64 : Nat) : Int) = 18446744073709551616 := by decide
    rw [this]
    omega
  show IntKind.i64.wrap ((BitVec.ofInt 64 (x : Int) &&& BitVec.ofInt 64 ((2 ^ j - 1 : Nat) : Int)).toNat : Nat) = _
  rw [BitVec.toNat_and, hm, hn, Nat.and_two_pow_sub_one_eq_mod, IntKind.wrap_i64]
  have := Nat.mod_lt x h4
  omega
theorem or_num32 (l : Bs) (c : UInt8) (k : Nat) (hl : l.length = k) (hk : k < 4) : bits .or .u32 ((Frm.num l : Nat) : Int) ((c.toNat : Int) * ((256 ^ k : Nat) : Int)) = ((Frm.num (l ++ [c]) : Nat) : Int) := by
  subst hl
  have h1 := Frm.num_lt l
  have h2 := c.toNat_lt
  have h3 : 256 ^ l.length ≤ 256 ^ 3 := Nat.pow_le_pow_right (by decide) (by omega)
  have h4 : c.toNat * 256 ^ l.length ≤ 255 * 256 ^ 3 := Nat.mul_le_mul (by omega) h3
  have h5 : (256 : Nat) ^ 3 = 16777216 := by decide
  have e : (c.toNat : Int) * ((256 ^ l.length : Nat) : Int) = ((c.toNat * 256 ^ l.length : Nat) : Int) := by rw [Int.natCast_mul]
  rw [e, u32_or_nat _ _ (by omega) (by omega), Frm.num_snoc]
  congr 1
  have hp : (256 : Nat) ^ l.length = 2 ^ (8 * l.length) := by rw [Nat.pow_mul]
  rw [hp] at h1 ⊢
  have := Nat.two_pow_add_eq_or_of_lt h1 c.toNat
  rw [Nat.or_comm, Nat.mul_comm c.toNat, ← this, Nat.add_comm]
section
variable {w0 w : World} {F R : List HProp}
set_option maxRecDepth 20000 in
set_option maxHeartbeats 4000000 in
theorem home_c (k : Bs) (hk : k.length = 32) (j : Nat) (hj : j < 40) (h : Sat w0 w F) :
    Calls Tryz.prog 160 #[.agg (bys k).toArray, .int .i64 (2 ^ j : Nat)] w (Rtn fun v w' => v = .int .i64 (Tab.home k (2 ^ j) : Nat) ∧ Sat w0 w' F) := by
  obtain ⟨c0, c1, c2, c3, t, rfl⟩ : ∃ c0 c1 c2 c3 t, k = c0 :: c1 :: c2 :: c3 :: t := by
    match k, hk with
    | c0 :: c1 :: c2 :: c3 :: t, _ => exact ⟨c0, c1, c2, c3, t, rfl⟩
  have Hh := Lib.hid (show Tab.home (c0 :: c1 :: c2 :: c3 :: t) (2 ^ j) = Frm.num [c0, c1, c2, c3] % 2 ^ j from rfl)
  have hB := h.alloc (.cells (bys (c0 :: c1 :: c2 :: c3 :: t)).toArray 41)
  have e0 : (w.alloc (.cells (bys (c0 :: c1 :: c2 :: c3 :: t)).toArray 41)).cell? ⟨w.heap.size, 0, none⟩ = some (.int .u8 c0.toNat) := hB.cellAt 0 _ rfl
  have e1 : (w.alloc (.cells (bys (c0 :: c1 :: c2 :: c3 :: t)).toArray 41)).cell? ⟨w.heap.size, 1, none⟩ = some (.int .u8 c1.toNat) := hB.cellAt 1 _ rfl
  have e2 : (w.alloc (.cells (bys (c0 :: c1 :: c2 :: c3 :: t)).toArray 41)).cell? ⟨w.heap.size, 2, none⟩ = some (.int .u8 c2.toNat) := hB.cellAt 2 _ rfl
  have e3 : (w.alloc (.cells (bys (c0 :: c1 :: c2 :: c3 :: t)).toArray 41)).cell? ⟨w.heap.size, 3, none⟩ = some (.int .u8 c3.toNat) := hB.cellAt 3 _ rfl
  have b0 := c0.toNat_lt; have b1 := c1.toNat_lt; have b2 := c2.toNat_lt; have b3 := c3.toNat_lt
  have q1 : bits .or .u32 (c0.toNat : Int) ((c1.toNat : Int) * 256) = ((Frm.num [c0, c1] : Nat) : Int) := by
    have := or_num32 [c0] c1 1 rfl (by decide)
    simpa [Frm.num] using this
  have q2 : bits .or .u32 ((Frm.num [c0, c1] : Nat) : Int) ((c2.toNat : Int) * 65536) = ((Frm.num [c0, c1, c2] : Nat) : Int) := or_num32 [c0, c1] c2 2 rfl (by decide)
  have q3 : bits .or .u32 ((Frm.num [c0, c1, c2] : Nat) : Int) ((c3.toNat : Int) * 16777216) = ((Frm.num [c0, c1, c2, c3] : Nat) : Int) := or_num32 [c0, c1, c2] c3 3 rfl (by decide)
  have hn := Frm.num_lt [c0, c1, c2, c3]
  rw [show [c0, c1, c2, c3].length = 4 from rfl, show (256 : Nat) ^ 4 = 4294967296 by decide] at hn
  have hp : (2 : Nat) ^ j ≤ 2 ^ 40 := Nat.pow_le_pow_right (by decide) (by omega)
  have hp1 : (2 : Nat) ^ 40 = 1099511627776 := by decide
  have hp0 : 0 < 2 ^ j := Nat.two_pow_pos j
  have q4 := and_mask (Frm.num [c0, c1, c2, c3]) j (by omega) (by omega)
  generalize Frm.num [c0, c1, c2, c3] = N at *
  generalize hC : 2 ^ j = C at *
  have hw1 : IntKind.i64.wrap ((C : Int) - 1) = ((C - 1 : Nat) : Int) := by rw [IntKind.wrap_i64]; omega
  have hw2 : IntKind.i64.wrap (N : Int) = (N : Int) := IntWalk.i64_in _ (by omega)
  have hm2 : N % C < C := Nat.mod_lt _ hp0
  clear h hk hC hp hp1
  go_enter Tryz.func160, Tryz.ntmps160
  go_wp2_with fail
  go_ret
  refine ⟨_, rfl, ?_, hB.drop⟩
  rw [Hh.out, Int.natCast_emod]; rfl
end
section
variable {w0 w : World} {L L' R F : List HProp} {b o : Nat} {ops : Array Oper} {rest : List Oper} {a : Act} {Q : Exit → Act → World → Prop}
variable {dst : Option Tmp} {t T ty : TypeId} {pos : String} {after : Array Edge} {x y : Operand} {cs : Array Value} {v : Value} {P : Program}
theorem wl_loadW (ks : List Value) (hx : a.eval x = .pointer (some ⟨b, o, none⟩)) (hc : ∀ j v, ks[j]? = some v → w.cell? ⟨b, o + j, none⟩ = some v)
    {d : TypeDesc} (hu : P.underlying ty = some d) (hd : d.isRow = true) (hi : (P.info? ty).map (·.size) = some ks.length)
    (h : wpList P ops Q rest (a.put dst (.agg ks.toArray)) w) : wpList P ops Q (⟨dst, .load ty x, t, pos, after, none⟩ :: rest) a w :=
  wpList_load_mid rfl ty x rfl b o hx ks d hc hu hd hi h
theorem wl_storeA (ks : Array Value) (hs : Sat w0 w L) (hx : a.eval x = .pointer (some ⟨b, 0, none⟩)) (hy : a.eval y = .agg ks) (hsz : ks.size = cs.size) (u : Upd (pt b (.cells cs T (0,0))) (pt b (.cells ks T (0,0))) L L')
    (hi : (P.info? ty).map (·.size) = some ks.size) (h1 : ks.toList.all (·.oneCell') = true)
    (hK : ∀ w', Sat w0 w' L' → wpList P ops Q rest (a.put dst undef) w') : wpList P ops Q (⟨dst, .store ty x y, t, pos, after, none⟩ :: rest) a w :=
  wl_store hs hx hy (putsAt_eq (by
    show (putsAt cs 0 ks.toList).toList = _
    rw [putsAt_list _ _ _ (by rw [Array.length_toList]; omega), List.take_zero, List.nil_append, Nat.zero_add, List.drop_of_length_le (by rw [Array.length_toList, Array.length_toList]; omega), List.append_nil])) u (by show 0 + ks.size ≤ cs.size; omega) hi h1 hK
end
section
variable {w0 w : World} {L L' R F : List HProp} {b : Nat} {ops : Array Oper} {rest : List Oper} {a : Act} {Q : Exit → Act → World → Prop}
variable {dst : Option Tmp} {t T : TypeId} {pos : String} {after : Array Edge} {x y : Operand} {cs : Array Value} {v : Value} {e : Frm.Ent} {da : Option Addr} {dn dc : Nat}
end
def plcL (q : Seg.Plc) : List Value := [.int .i64 q.seg, .int .i64 q.at_, .int .i64 q.size]
abbrev plcA (q : Seg.Plc) : Value := .agg #[.int .i64 q.seg, .int .i64 q.at_, .int .i64 q.size]
theorem zPlace : zeroB Tryz.prog 39 = some (.agg #[.int .i64 0, .int .i64 0, .int .i64 0]) := by kernel_rfl
structure SegBlk (l : List (Int × Int)) (n cap : Nat) (cs : Array Value) : Prop where
  len : l.length = n + 1
  le : n + 1 ≤ cap
  size : cap * 2 ≤ cs.size
  max : cap ≤ maxLen
  take : cs.toList.take ((n + 1) * 2) = segw l
theorem segw_set (l : List (Int × Int)) (s : Int × Int) (z : Int) : (segw (l ++ [s])).set (l.length * 2 + 1) (.int .i64 z) = segw (l ++ [(s.1, z)]) := by
  rw [segw_app, segw_app]
  rw [List.set_append_right _ _ (by rw [segw_len]; omega), segw_len, show l.length * 2 + 1 - 2 * l.length = 1 by omega]
  rfl
theorem set_take {α : Type} (l : List α) (k i : Nat) (x : α) (h : i < k) : (l.set i x).take k = (l.take k).set i x := by
  rw [List.take_set]
section
variable {w0 w : World} {F R : List HProp} {v bv dv x lv : Value} {q p m K : Nat} {L : Seg.Log} {M : Med} {s : Int × Int}
theorem seg_block (hl : L.l.getLast? = some s) (h : Sat w0 w (LogRaw p m L lv ++ F)) :
    ∃ bk n cap cs, lv = .slice (some ⟨bk, 0, none⟩) (n + 1) cap ∧ SegBlk L.l n cap cs ∧ cs[n * 2]? = some (.int .i64 s.1) ∧ cs[n * 2 + 1]? = some (.int .i64 s.2) ∧
      Sat w0 w (logPt p m L (.slice (some ⟨bk, 0, none⟩) (n + 1) cap) :: pt bk (.cells cs 145 (0,0)) :: F) := by
  rw [List.getLast?_eq_getElem?] at hl
  have hlt := (List.getElem?_eq_some_iff.1 hl).1
  obtain ⟨n, hn⟩ : ∃ n, L.l.length = n + 1 := ⟨L.l.length - 1, by omega⟩
  rw [hn, Nat.add_sub_cancel] at hl
  obtain ⟨h1, h2⟩ := segw_at _ _ _ hl
  have hS : Sat w0 w (osl 145 2 lv (segw L.l) :: logPt p m L lv :: F) := h.pick1
  rcases hS.osl_cases with ⟨rfl, hx, _⟩ | ⟨b, n', cap, cs, rfl, hll, hn', hc, hcm, htk, hp⟩
  · rw [hx] at h1; simp at h1
  · rw [segw_len, hn] at hll
    obtain rfl : n' = n + 1 := by omega
    refine ⟨b, n, cap, cs, rfl, ⟨hn, hn', hc, hcm, htk⟩, ?_, ?_, hp.pick1⟩
    · rw [Nat.mul_comm]; exact take_get htk h1
    · rw [Nat.mul_comm]; exact take_get htk h2
theorem seg_keep {bk n cap : Nat} {cs : Array Value} (hb : SegBlk L.l n cap cs) (h : Sat w0 w (pt bk (.cells cs 145 (0,0)) :: R)) :
    Sat w0 w (osl 145 2 (.slice (some ⟨bk, 0, none⟩) (n + 1) cap) (segw L.l) :: R) :=
  Sat.osl_of_pt h (by rw [segw_len, hb.len]; omega) hb.le hb.size hb.max hb.take
theorem seg_close {bk n cap : Nat} {cs : Array Value} (hl : L.l.getLast? = some s) (hb : SegBlk L.l n cap cs) (z : Int)
    (h : Sat w0 w (pt bk (.cells (putsAt cs (n * 2 + 1) [.int .i64 z]) 145 (0,0)) :: R)) :
    Sat w0 w (osl 145 2 (.slice (some ⟨bk, 0, none⟩) (n + 1) cap) (segw (L.l.dropLast ++ [(s.1, z)])) :: R) := by
  have e := Seg.last_split hl
  have hlen := Seg.last_len hl
  have hn := hb.len
  refine Sat.osl_of_pt h ?_ hb.le ?_ hb.max ?_
  · rw [segw_len, List.length_append, List.length_singleton]; omega
  · rw [putsAt_size]; exact hb.size
  · simp only [putsAt, Array.toList_setIfInBounds]
    rw [set_take _ _ _ _ (by omega), hb.take, e, List.dropLast_append_cons, show n = L.l.dropLast.length by omega]
    simp only [List.dropLast_singleton, List.append_nil]
    exact segw_set _ _ _
set_option maxRecDepth 20000 in
set_option maxHeartbeats 4000000 in
theorem grow_c (hl : L.l.getLast? = some s) (hs : 0 ≤ s.2 ∧ s.2 ≤ 33554432) (hM : M.Ok K) (hKK : K ≤ 1099511627776) (hlen : L.l.length ≤ 1048576) (b : Bs) (hbl : b.length ≤ 1073741824) (hr : Ro w0 F (rdsl 1 bv (bys b)))
    (h : Sat w0 w (LogRep p m L :: MedRep m M :: F)) :
    Calls Tryz.prog 70 #[ptr p, bv] w (Rtn fun v w' => v = .tuple #[plcA (L.grow M b).2.1, errno (L.grow M b).2.2] ∧
      Sat w0 w' (LogRep p m (L.grow M b).1.1 :: MedRep m (L.grow M b).1.2 :: F)) := by
  obtain ⟨lv, hR⟩ := LogRep.open h
  clear h
  obtain ⟨bk, n, cap, cs, rfl, hb, c0, c1, hS⟩ := seg_block hl hR
  clear hR
  obtain ⟨ba, bn, bc, rfl, hbn⟩ := ro_len hr (A := emp) (Sat.emp.2 (hS.sel 3 [] rfl rfl))
  subst hbn
  have Hg := Lib.hid (show L.grow M b = if (M.append (Seg.name s.1) b).2 = 0 then (({ L with l := L.l.dropLast ++ [(s.1, s.2 + (b.length : Int))] }, (M.append (Seg.name s.1) b).1), ⟨s.1, s.2, b.length⟩, 0)
    else ((L, (M.append (Seg.name s.1) b).1), Seg.Plc.zero, (M.append (Seg.name s.1) b).2) by unfold Seg.Log.grow; rw [hl])
  have hn := hb.len
  have Hb := Lib.hid hb; have Hr := Lib.hid hr; have Hl := Lib.hid hl; have Hs := Lib.hid hs; have Hc0 := Lib.hid c0; have Hc1 := Lib.hid c1; have Hbl := Lib.hid hbl
  have hn0 : (n : Int) < (n : Int) + 1 := by omega
  have hwn : IntKind.i64.wrap (n : Int) = (n : Int) := by rw [IntKind.wrap_i64]; omega
  have hwz : IntKind.i64.wrap (s.2 + (b.length : Int)) = s.2 + (b.length : Int) := by rw [IntKind.wrap_i64]; omega
  have Hwz := Lib.hid hwz
  clear hn hb hr hl hs c0 c1 hbl hlen hwz
  go_enter Tryz.func70, Tryz.ntmps70
  go_wp2_with (refine wl_alloc zPlace (by assumption) rfl ?_; intro q w1 hS1)
  refine wpL_begin [10, 11] (fun w' => w'.cell? ⟨p, 2, none⟩ = some (.slice (some ⟨bk, 0, none⟩) (n + 1) cap)) (by kernel_rfl) ?_
  have hG : w1.drew.cell? ⟨p, 2, none⟩ = some (.slice (some ⟨bk, 0, none⟩) (n + 1) cap) := hS1.drew.cellP pkD 2 rfl
  refine rp 0 (hy := (yl_move evD)) (h := ?_)
  refine rp 1 (hy := (yl_nil evD)) (h := ?_)
  refine rp 2 (hy := (yl_field evD rnD)) (h := ?_)
  refine rt 3 (h := ?_)
  refine rp 4 (hy := (yl_move evD)) (h := ?_)
  refine rp 5 (hy := (yl_nil evD)) (h := ?_)
  refine rp 6 (hy := (yl_field evD rnD)) (h := ?_)
  refine rt 7 (h := ?_)
  refine rp 8 (hy := (yl_len evD rnD)) (h := ?_)
  refine rp 9 (hy := (yl_bin evD evD rnD)) (h := ?_)
  refine rp 10 (hy := (yl_index evD evD rnD)) (h := ?_)
  refine rp 11 (hy := (yl_assign evD)) (h := ?_)
  refine wpL_done (by kernel_rfl) ?_
  clear hG
  have hS2 := hS1.drew
  generalize w1.drew = w2 at *
  clear hS1 hS
  go_wp2_with fail
  refine wpL_begin [10, 11] (fun w' => w'.cell? ⟨p, 0, none⟩ = some (ptr m) ∧ w'.cell? ⟨bk, n * 2, none⟩ = some (.int .i64 s.1)) (by kernel_rfl) ?_
  have hG : w2.drew.cell? ⟨p, 0, none⟩ = some (ptr m) ∧ w2.drew.cell? ⟨bk, n * 2, none⟩ = some (.int .i64 s.1) := ⟨hS2.drew.cellP pkD 0 rfl, hS2.drew.cellP pkD _ Hc0.out⟩
  refine rp 0 (hy := (yl_move evD)) (h := ?_)
  refine rp 1 (hy := (yl_nil evD)) (h := ?_)
  refine rp 2 (hy := (yl_field evD rnD)) (h := ?_)
  refine rt 3 (h := ?_)
  refine rp 4 (hy := (yl_move evD)) (h := ?_)
  refine rp 5 (hy := (yl_nil evD)) (h := ?_)
  refine rp 6 (hy := (yl_field evD rnD)) (h := ?_)
  refine rt 7 (h := ?_)
  refine rp 9 (hy := (yl_move evD)) (h := ?_)
  refine rg_eff 8 evD (by kernel_rfl) (fun K hK => ?_)
  clear hG
  (refine eff_call1 (by kernel_rfl) evD ?_)
  refine (sname_c s.1 hS2.drew).mono ?_
  rintro e w3 ⟨v, rfl, rfl, hS3⟩
  refine hK _ _ (.inr (.inl ⟨hS3.cellP pkD 0 rfl, hS3.cellP pkD _ Hc0.out⟩)) ?_
  clear hK K
  refine rg_eff 10 evD (by kernel_rfl) (fun K hK => ?_)
  (refine eff_call3 (by kernel_rfl) evD evD evD ?_)
  refine (append_c hM hKK (Sat.pk (by assumption)) _ b (by first | assumption | exact Ro.op (Ro.bsl _ _) | exact Ro.os (by assumption))).mono ?_
  rintro e w4 ⟨v, rfl, rfl, hS4⟩
  refine hK _ _ (.inl rfl) ?_
  clear hK K
  refine rp 11 (hy := (yl_assign evD)) (h := ?_)
  refine wpL_done (by kernel_rfl) ?_
  clear hS3 hS2 Hr
  generalize M.append (Seg.name s.1) b = r at *
  obtain ⟨M2, ee⟩ := r
  by_cases he : ee = 0
  · subst he
    have hfin := Lib.hid (Hg.out.trans (if_pos rfl))
    have e1 : w4.cell? ⟨bk, n * 2 + 1, none⟩ = some (.int .i64 s.2) := hS4.cellP pkD _ Hc1.out
    have hfit := Hb.out.size; have hle := Hb.out.le
    have hst := Lib.hid (show n * 2 + 1 + (Value.int .i64 (s.2 + (b.length : Int))).cells.size ≤ cs.size by show n * 2 + 1 + 1 ≤ cs.size; omega)
    have hwz := Hwz.out
    clear hfit hle
    go_wp2_with (refine wpList_stop (by rfl) ?_)
    refine ⟨?_⟩
    refine wl_store (b := bk) (o := n * 2 + 1) (v := .int .i64 (s.2 + (b.length : Int))) (by assumption) (by rfl) (by rfl) rfl upD hst.out (by kernel_rfl) (by rfl) ?_
    intro w5 hS5
    have e0 : w5.cell? ⟨bk, n * 2, none⟩ = some (.int .i64 s.1) := hS5.cellP pkD _ (by
      show (cs.setIfInBounds (n * 2 + 1) _)[n * 2]? = _
      rw [Array.getElem?_setIfInBounds_ne (by omega)]; exact Hc0.out)
    clear e1 hst hwz
    go_wp2_with ((with_reducible apply at_store); refine ⟨?_⟩; refine wl_store (by assumption) (by rfl) evD (by first | (simp only [putsAt, Value.cells]; (try go_frame); first | done | rfl) | rfl) upD (Nat.le_of_ble_eq_true (by rfl)) (by kernel_rfl) (by rfl) ?_; intro wS hS)
    refine ⟨rfl, _, res_cell_tmp rfl (by assumption) (by rfl) pkD Tryz.underlying39 rfl (by kernel_rfl), _, rfl, ?_, ?_⟩
    · rw [hfin.out]; rfl
    · rw [hfin.out]
      have h6 := seg_close Hl.out Hb.out _ (Sat.pk hS)
      exact LogRep.shut2 (lv := .slice (some ⟨bk, 0, none⟩) (n + 1) cap) (Sat.sb h6)
  · have heb : (ee == 0) = false := beq_false_of_ne he
    have hfin := Lib.hid (Hg.out.trans (if_neg he))
    clear he
    go_wp2_with ((with_reducible apply at_store); refine ⟨?_⟩; refine wl_store (by assumption) (by rfl) evD (by first | (simp only [putsAt, Value.cells]; (try go_frame); first | done | rfl) | rfl) upD (Nat.le_of_ble_eq_true (by rfl)) (by kernel_rfl) (by rfl) ?_; intro wS hS)
    refine ⟨rfl, _, res_cell_tmp rfl (by assumption) (by rfl) pkD Tryz.underlying39 rfl (by kernel_rfl), _, rfl, ?_, ?_⟩
    · rw [hfin.out]; rfl
    · rw [hfin.out]
      have h6 := seg_keep Hb.out (Sat.pk hS)
      exact LogRep.shut2 (lv := .slice (some ⟨bk, 0, none⟩) (n + 1) cap) (Sat.sb h6)
end
end Go.Proofs.YtmjldaedhmipkaaGreatDoor
namespace Go.Seg
open Go.Med
theorem Log.shut_off {L : Log} (M : Med) (h : L.on = false) : L.shut M = ((L, M), 0) := by
  unfold Log.shut
  split
  · rfl
  · rw [if_neg (by rw [h]; decide)]
theorem Log.Ok.last {L : Log} (h : L.Ok) (hon : L.on = true) : ∃ s, L.l.getLast? = some s := by
  cases hl : L.l.getLast? with
  | none => exact absurd (List.getLast?_eq_none_iff.1 hl) (h.on hon)
  | some s => exact ⟨s, rfl⟩
theorem Log.shut_on {L : Log} (M : Med) {s : Int × Int} (hl : L.l.getLast? = some s) (h : L.on = true) :
    L.shut M = if (M.sync (name s.1)).2 = 0 then (({ L with on := false }, (M.sync (name s.1)).1), 0) else ((L, (M.sync (name s.1)).1), (M.sync (name s.1)).2) := by
  unfold Log.shut
  rw [hl]
  simp only [h, if_true]
end Go.Seg
namespace Go.Proofs.YtmjldaedhmipkaaGreatDoor
open Go Go.Sl Go.Med Go.MapKept Go.RowKit
section
variable {w0 w : World} {F R : List HProp} {v bv dv x lv : Value} {q p m K : Nat} {L : Seg.Log} {M : Med} {s : Int × Int}
set_option maxRecDepth 20000 in
set_option maxHeartbeats 4000000 in
theorem shut_c (hL : L.Ok) (hM : M.Ok K) (h : Sat w0 w (LogRep p m L :: MedRep m M :: F)) :
    Calls Tryz.prog 128 #[ptr p] w (Rtn fun v w' => v = errno (L.shut M).2 ∧ Sat w0 w' (LogRep p m (L.shut M).1.1 :: MedRep m (L.shut M).1.2 :: F)) := by
  cases hon : L.on
  · obtain ⟨lv, hR⟩ := LogRep.open h
    refine (shut0_c hon hR).mono ?_
    rintro e w1 ⟨v, rfl, rfl, rfl⟩
    rw [Seg.Log.shut_off M hon]
    exact ⟨_, rfl, rfl, h⟩
  · obtain ⟨s, hl⟩ := hL.last hon
    obtain ⟨lv, hR⟩ := LogRep.open h
    clear h
    have hlen := hL.len
    obtain ⟨bk, n, cap, cs, rfl, hb, c0, c1, hS⟩ := seg_block hl hR
    clear hR c1
    have hn := hb.len
    have Hg := Lib.hid (Seg.Log.shut_on M hl hon)
    have Hb := Lib.hid hb; have Hl := Lib.hid hl; have Hc0 := Lib.hid c0
    have hn0 : (n : Int) < (n : Int) + 1 := by omega
    have hwn : IntKind.i64.wrap (n : Int) = (n : Int) := by rw [IntKind.wrap_i64]; omega
    have e3 : w.cell? ⟨p, 3, none⟩ = some (.bool true) := hS.cellP pkD 3 (by rw [← hon]; rfl)
    clear hn hb hl c0 hlen hon
    go_enter Tryz.func128, Tryz.ntmps128
    go_wp2_with fail
    refine wpL_begin [18, 19] (fun w' => w'.cell? ⟨p, 0, none⟩ = some (ptr m) ∧ w'.cell? ⟨p, 2, none⟩ = some (.slice (some ⟨bk, 0, none⟩) (n + 1) cap) ∧ w'.cell? ⟨bk, n * 2, none⟩ = some (.int .i64 s.1)) (by kernel_rfl) ?_
    have hG : w.drew.cell? ⟨p, 0, none⟩ = some (ptr m) ∧ w.drew.cell? ⟨p, 2, none⟩ = some (.slice (some ⟨bk, 0, none⟩) (n + 1) cap) ∧ w.drew.cell? ⟨bk, n * 2, none⟩ = some (.int .i64 s.1) := ⟨hS.drew.cellP pkD 0 rfl, hS.drew.cellP pkD 2 rfl, hS.drew.cellP pkD _ Hc0.out⟩
    refine rp 0 (hy := (yl_move evD)) (h := ?_)
    refine rp 1 (hy := (yl_nil evD)) (h := ?_)
    refine rp 2 (hy := (yl_field evD rnD)) (h := ?_)
    refine rt 3 (h := ?_)
    refine rp 4 (hy := (yl_move evD)) (h := ?_)
    refine rp 5 (hy := (yl_nil evD)) (h := ?_)
    refine rp 6 (hy := (yl_field evD rnD)) (h := ?_)
    refine rt 7 (h := ?_)
    refine rp 8 (hy := (yl_move evD)) (h := ?_)
    refine rp 9 (hy := (yl_nil evD)) (h := ?_)
    refine rp 10 (hy := (yl_field evD rnD)) (h := ?_)
    refine rt 11 (h := ?_)
    refine rp 12 (hy := (yl_len evD rnD)) (h := ?_)
    refine rp 13 (hy := (yl_bin evD evD rnD)) (h := ?_)
    refine rp 14 (hy := (yl_index evD evD rnD)) (h := ?_)
    refine rp 15 (hy := (yl_field evD rnD)) (h := ?_)
    refine rt 16 (h := ?_)
    clear hG e3
    refine rg_eff 17 evD (by kernel_rfl) (fun K hK => ?_)
    (refine eff_call1 (by kernel_rfl) evD ?_)
    refine (sname_c s.1 hS.drew).mono ?_
    rintro e w3 ⟨v, rfl, rfl, hS3⟩
    refine hK _ _ (.inr (.inl ⟨hS3.cellP pkD 0 rfl, hS3.cellP pkD 2 rfl, hS3.cellP pkD _ Hc0.out⟩)) ?_
    clear hK K
    refine rg_eff 18 evD (by kernel_rfl) (fun K hK => ?_)
    (refine eff_call2 (by kernel_rfl) evD evD ?_)
    refine (sync_c hM (Sat.pk (by assumption)) _).mono ?_
    rintro e w4 ⟨v, rfl, rfl, hS4⟩
    refine hK _ _ (.inl rfl) ?_
    clear hK K
    refine rp 19 (hy := (yl_assign evD)) (h := ?_)
    refine wpL_done (by kernel_rfl) ?_
    clear hS3 hS
    generalize M.sync (Seg.name s.1) = r at *
    obtain ⟨M2, ee⟩ := r
    by_cases he : ee = 0
    · subst he
      have hfin := Lib.hid (Hg.out.trans (if_pos rfl))
      go_wp2_with ((with_reducible apply at_store); refine ⟨?_⟩; refine wl_store (by assumption) (by rfl) evD (by first | (simp only [putsAt, Value.cells]; (try go_frame); first | done | rfl) | rfl) upD (Nat.le_of_ble_eq_true (by rfl)) (by kernel_rfl) (by rfl) ?_; intro wS hS)
      go_ret
      refine ⟨errno 0, rfl, by rw [hfin.out], ?_⟩
      rw [hfin.out]
      have h6 := seg_keep Hb.out (Sat.pk hS)
      exact LogRep.shut2 (lv := .slice (some ⟨bk, 0, none⟩) (n + 1) cap) (Sat.sb h6)
    · have heb : (ee == 0) = false := beq_false_of_ne he
      have hfin := Lib.hid (Hg.out.trans (if_neg he))
      clear he
      go_wp2_with ((with_reducible apply at_store); refine ⟨?_⟩; refine wl_store (by assumption) (by rfl) evD (by first | (simp only [putsAt, Value.cells]; (try go_frame); first | done | rfl) | rfl) upD (Nat.le_of_ble_eq_true (by rfl)) (by kernel_rfl) (by rfl) ?_; intro wS hS)
      go_ret
      refine ⟨errno ee, rfl, by rw [hfin.out], ?_⟩
      rw [hfin.out]
      have h6 := seg_keep Hb.out (Sat.pk hS4)
      exact LogRep.shut2 (lv := .slice (some ⟨bk, 0, none⟩) (n + 1) cap) (Sat.sb h6)
end
end Go.Proofs.YtmjldaedhmipkaaGreatDoor
namespace Go.Seg
open Go.Med
theorem Log.shut_med {L : Log} {M : Med} {K : Nat} (h : M.Ok K) : (L.shut M).1.2.Ok (K + 1) := by
  unfold Log.shut
  split; · exact h.mono (Nat.le_succ K)
  split
  · split <;> exact h.sync _
  · exact h.mono (Nat.le_succ K)
theorem Log.begin_eq (L : Log) (M : Med) (b : Bs) : L.begin M b = if (L.shut M).2 = 0 then (L.shut M).1.1.begin1 (L.shut M).1.2 b else ((L.shut M).1, Plc.zero, (L.shut M).2) := rfl
theorem name_size (n : Int) : (name n).size ≤ 9223372036854775807 := by
  unfold name
  split
  · decide
  · show (lead ++ digs n.toNat 8).toArray.size ≤ _
    rw [List.size_toArray, List.length_append, digs_len]; decide
end Go.Seg
namespace Go.Proofs.YtmjldaedhmipkaaGreatDoor
open Go Go.Sl Go.Med Go.MapKept Go.RowKit
section
variable {w0 w : World} {F R : List HProp} {v bv dv x lv : Value} {q p m K : Nat} {L : Seg.Log} {M : Med} {s : Int × Int}
theorem lnext_c (hL : L.Ok) (h : Sat w0 w (LogRep p m L :: F)) :
    Calls Tryz.prog 102 #[ptr p] w (Rtn fun v w' => v = .int .i64 L.next ∧ Sat w0 w' (LogRep p m L :: F)) := by
  obtain ⟨lv, hR⟩ := LogRep.open h
  refine (snext_c hL.len hL.nums hR).mono ?_
  rintro e w1 ⟨v, rfl, rfl, hS⟩
  exact ⟨_, rfl, rfl, LogRep.shut2 hS⟩
theorem segw_snoc (l : List (Int × Int)) (n z : Int) : segw l ++ [.int .i64 n, .int .i64 z] = segw (l ++ [(n, z)]) := by rw [segw_app]; rfl
set_option maxRecDepth 20000 in
set_option maxHeartbeats 8000000 in
theorem begin_c (hL : L.Ok) (hM : M.Ok K) (hKK : K + 4 ≤ 1099511627776) (b : Bs) (hb0 : b ≠ []) (hbl : b.length ≤ 16777216) (hr : Ro w0 F (rdsl 1 bv (bys b)))
    (h : Sat w0 w (LogRep p m L :: MedRep m M :: F)) :
    Calls Tryz.prog 71 #[ptr p, bv] w (Rtn fun v w' => v = .tuple #[plcA (L.begin M b).2.1, errno (L.begin M b).2.2] ∧
      Sat w0 w' (LogRep p m (L.begin M b).1.1 :: MedRep m (L.begin M b).1.2 :: F)) := by
  obtain ⟨ba, bn, bc, rfl, hbn⟩ := ro_len hr (A := emp) (Sat.emp.2 (h.sel 2 [] rfl rfl))
  subst hbn
  obtain ⟨i, hi, hz0, hz1, hz2⟩ := info8p
  have Hg := Lib.hid (Seg.Log.begin_eq L M b)
  have HM := Lib.hid (Seg.Log.shut_med (L := L) hM)
  have HL := Lib.hid (hL.shut M)
  have Hr := Lib.hid hr; have Hb0 := Lib.hid hb0; have Hbl := Lib.hid hbl
  clear hr hb0 hbl
  go_enter Tryz.func71, Tryz.ntmps71
  go_wp2_with (refine wl_alloc zPlace (by assumption) rfl ?_; intro q w1 hS1)
  refine (shut_c hL hM (Sat.sb (by assumption))).mono ?_
  rintro e w2 ⟨v, rfl, rfl, hS2⟩
  clear hS1 h hL hM
  generalize L.shut M = S at *
  obtain ⟨⟨L1, M1⟩, e1⟩ := S
  by_cases he : e1 = 0
  rotate_left
  · have heb : (e1 == 0) = false := beq_false_of_ne he
    have hfin := Lib.hid (Hg.out.trans (if_neg he))
    clear he
    go_wp2_with ((with_reducible apply at_store); refine ⟨?_⟩; refine wl_store (by assumption) (by rfl) evD (by first | (simp only [putsAt, Value.cells]; (try go_frame); first | done | rfl) | rfl) upD (Nat.le_of_ble_eq_true (by rfl)) (by kernel_rfl) (by rfl) ?_; intro wS hS)
    refine ⟨rfl, _, res_cell_tmp rfl (by assumption) (by rfl) pkD Tryz.underlying39 rfl (by kernel_rfl), _, rfl, ?_, ?_⟩
    · rw [hfin.out]; rfl
    · rw [hfin.out]; exact Sat.sb hS
  subst he
  have H1 := Lib.hid (Hg.out.trans (if_pos rfl))
  clear Hg
  go_wp2_with fail
  refine (lnext_c HL.out (Sat.pk (by assumption))).mono ?_
  rintro e w3 ⟨v, rfl, rfl, hS3⟩
  clear hS2
  have hs1 := Lib.hid HL.out.next
  have hfr := Lib.hid HL.out.fresh
  have hln := Lib.hid HL.out.len
  unfold Seg.Log.begin1 at H1
  have Hnm := Lib.hid (Seg.name_size L1.next)
  by_cases hn : 1048576 ≤ L1.next
  · have hfin := Lib.hid (H1.out.trans (if_pos hn))
    generalize L1.next = n at *
    go_wp2_with ((with_reducible apply at_store); refine ⟨?_⟩; refine wl_store (by assumption) (by rfl) evD (by first | (simp only [putsAt, Value.cells]; (try go_frame); first | done | rfl) | rfl) upD (Nat.le_of_ble_eq_true (by rfl)) (by kernel_rfl) (by rfl) ?_; intro wS hS)
    refine ⟨rfl, _, res_cell_tmp rfl (by assumption) (by rfl) pkD Tryz.underlying39 rfl (by kernel_rfl), _, rfl, ?_, ?_⟩
    · rw [hfin.out]; rfl
    · rw [hfin.out]; exact Sat.sb hS
  have H2 := Lib.hid (H1.out.trans (if_neg hn))
  clear H1
  have Hn := Lib.hid hn
  have hnd : ¬ 1048576 ≤ L1.next := hn
  clear hn
  have hnm := sname_c L1.next hS3
  generalize hnn : L1.next = n at *
  have Hnn := Lib.hid hnn
  clear hnn
  go_wp2_with fail
  refine hnm.mono ?_
  rintro e w4 ⟨v, rfl, rfl, hS4⟩
  clear hnm hS3 hnd
  generalize Seg.name n = nm at *
  obtain ⟨lv, hR⟩ := LogRep.open2 (Sat.pk (by assumption))
  have e0 : w4.cell? ⟨p, 0, none⟩ = some (ptr m) := hR.cellP pkD 0 rfl
  go_wp2_with fail
  refine (create_c HM.out (by omega) (Sat.pk (by assumption)) nm Hnm.out).mono ?_
  rintro e w5 ⟨v, rfl, rfl, hS5⟩
  have HM2 := Lib.hid (HM.out.create nm)
  clear hS4 hR e0
  generalize M1.create nm = C at *
  obtain ⟨M2, e2⟩ := C
  by_cases he : e2 = 0
  rotate_left
  · have heb : (e2 == 0) = false := beq_false_of_ne he
    have hfin := Lib.hid (H2.out.trans (if_pos he))
    clear he
    go_wp2_with ((with_reducible apply at_store); refine ⟨?_⟩; refine wl_store (by assumption) (by rfl) evD (by first | (simp only [putsAt, Value.cells]; (try go_frame); first | done | rfl) | rfl) upD (Nat.le_of_ble_eq_true (by rfl)) (by kernel_rfl) (by rfl) ?_; intro wS hS)
    refine ⟨rfl, _, res_cell_tmp rfl (by assumption) (by rfl) pkD Tryz.underlying39 rfl (by kernel_rfl), _, rfl, ?_, ?_⟩
    · rw [hfin.out]; rfl
    · rw [hfin.out]; exact LogRep.shut2 (lv := lv) (Sat.sb hS)
  subst he
  have H3 := Lib.hid (H2.out.trans (if_neg (fun h => h rfl)))
  clear H2
  go_wp2_with fail
  refine wpL_begin [9, 10] (fun w' => w'.cell? ⟨p, 0, none⟩ = some (ptr m)) (by kernel_rfl) ?_
  have hG : w5.drew.cell? ⟨p, 0, none⟩ = some (ptr m) := hS5.drew.cellP pkD 0 rfl
  refine rp 0 (hy := (yl_move evD)) (h := ?_)
  refine rp 1 (hy := (yl_nil evD)) (h := ?_)
  refine rp 2 (hy := (yl_field evD rnD)) (h := ?_)
  refine rt 3 (h := ?_)
  refine rp 4 (hy := (yl_move evD)) (h := ?_)
  refine rp 7 (hy := (yl_move evD)) (h := ?_)
  refine rg_eff 5 evD (by kernel_rfl) (fun K hK => ?_)
  go_simp
  have hB1 := hS5.drew.alloc (.cells #[.int .u8 72, .int .u8 79, .int .u8 65, .int .u8 82, .int .u8 68, .int .u8 83, .int .u8 69, .int .u8 71] 5)
  refine hK _ _ (.inr (.inl (hB1.cellP pkD 0 rfl))) ?_
  clear hK K hG hB1
  refine rg_eff 6 evD (by kernel_rfl) (fun K hK => ?_)
  have hcv : (convert 42 42 (.slice (some ⟨w5.heap.size, 0, none⟩) 8 8)).run Tryz.prog ((w5.alloc (.cells #[.int .u8 72, .int .u8 79, .int .u8 65, .int .u8 82, .int .u8 68, .int .u8 83, .int .u8 69, .int .u8 71] 5)).drew) = .ok (.slice (some ⟨w5.heap.size, 0, none⟩) 8 8) ((w5.alloc (.cells #[.int .u8 72, .int .u8 79, .int .u8 65, .int .u8 82, .int .u8 68, .int .u8 83, .int .u8 69, .int .u8 71] 5 (8, 9))).drew) :=
    Lib.run_convert_bytes_const (P := Tryz.prog) w5.drew 42 5 #[.int .u8 72, .int .u8 79, .int .u8 65, .int .u8 82, .int .u8 68, .int .u8 83, .int .u8 69, .int .u8 71] 8 8 Tryz.underlying42 Tryz.underlying5
  have hB := (hS5.alloc (.cells #[.int .u8 72, .int .u8 79, .int .u8 65, .int .u8 82, .int .u8 68, .int .u8 83, .int .u8 69, .int .u8 71] 5 (8, 9))).drew
  go_simp
  refine hK _ _ (.inr (.inl (hB.cellP pkD 0 rfl))) ?_
  clear hK K
  have hrd := Hr.out _ (hB.sb)
  have hold : rdsl 1 (.slice (some ⟨w5.heap.size, 0, none⟩) 8 8) (bys Seg.mag) ((w5.alloc (.cells #[.int .u8 72, .int .u8 79, .int .u8 65, .int .u8 82, .int .u8 68, .int .u8 83, .int .u8 69, .int .u8 71] 5 (8, 9))).drew) := by
    refine ⟨_, 8, 8, rfl, rfl, fun j x hj => ⟨_, rfl, ?_⟩⟩
    rw [add_zero_lit]
    have hjl : j < Seg.mag.length := by
      have := (List.getElem?_eq_some_iff.1 hj).1
      rw [bys_len] at this; exact this
    have hx := (mrow_set (l := Seg.mag) hB hjl 0).1
    unfold bys at hj
    rw [List.getElem?_map, List.getElem?_eq_getElem hjl] at hj
    cases hj
    exact hx
  have hy0 : bys b ≠ [] := by
    intro h
    apply Hb0.out
    unfold bys at h
    exact List.map_eq_nil_iff.1 h
  have h63 : (bys Seg.mag).length + (bys b).length ≤ maxLen := by rw [bys_len, bys_len]; have := Hbl.out; unfold maxLen Seg.mag; simp; omega
  have hby : ((bys Seg.mag).length + (bys b).length) * i.bytes ≤ 140737488355328 := by rw [bys_len, bys_len, hz2]; have := Hbl.out; unfold Seg.mag; simp; omega
  refine rg_eff 8 evD (by kernel_rfl) (fun K hK => ?_)
  refine step_append_fresh (w0 := w0) (xs := bys Seg.mag) (b := w5.heap.size) (n := 8) (cap := 8) (by rfl) _ _ _ (by rfl) _ i _ Tryz.underlying42 hi hz0 hz1 (by rfl) rfl (Nat.le_refl _) hold hB.drop (by rfl) (by rfl) hrd hy0 h63 hby ?_
  intro b4 n4 k4 w6 hS6
  clear hcv hrd hold hy0 h63 hby hB
  have hS6 : Sat w0 w6 (bsl (.slice (some ⟨b4, 0, none⟩) n4 k4) (Seg.mag ++ b) :: MedRep m M2 :: pt q (.cells #[.int .i64 0, .int .i64 0, .int .i64 0] 39) :: logPt p m L1 lv :: osl 145 2 lv (segw L1.l) :: F) := by
    have e : bys Seg.mag ++ bys b = bys (Seg.mag ++ b) := by unfold bys; rw [List.map_append]
    rw [e] at hS6
    exact Sat.sb hS6
  refine hK _ _ (.inr (.inl (hS6.cellP pkD 0 rfl))) ?_
  clear hK K hS5
  refine rg_eff 9 evD (by kernel_rfl) (fun K hK => ?_)
  (refine eff_call3 (by kernel_rfl) evD evD evD ?_)
  refine (append_c HM2.out (by omega) (Sat.pk (by assumption)) nm (Seg.mag ++ b) (by first | assumption | exact Ro.op (Ro.bsl _ _) | exact Ro.os (by assumption))).mono ?_
  rintro e w7 ⟨v, rfl, rfl, hS7⟩
  refine hK _ _ (.inl rfl) ?_
  clear hK K
  refine rp 10 (hy := (yl_assign evD)) (h := ?_)
  refine wpL_done (by kernel_rfl) ?_
  clear hS6
  have HM3 := Lib.hid (HM2.out.append nm (Seg.mag ++ b))
  generalize M2.append nm (Seg.mag ++ b) = D at *
  obtain ⟨M3, e3⟩ := D
  by_cases he : e3 = 0
  · subst he
    have hfin := Lib.hid (H3.out.trans (if_pos rfl))
    have c2 : w7.cell? ⟨p, 2, none⟩ = some lv := hS7.cellP pkD 2 rfl
    have hwl : IntKind.i64.wrap (8 + (b.length : Int)) = 8 + (b.length : Int) := by rw [IntKind.wrap_i64]; have := Hbl.out; omega
    obtain ⟨ii, hii, hy0, hy1, hy2⟩ := info_parts infoSeg
    have h7 := hS7.alloc (.cells #[.int .i64 n, .int .i64 (8 + (b.length : Int))] 145)
    have hoc : ∀ u ∈ (#[.int .i64 n, .int .i64 (8 + (b.length : Int))] : Array Value).toList, u.oneCell' = true := by
      intro u hu
      simp only [List.mem_cons, List.not_mem_nil, or_false] at hu
      rcases hu with rfl | rfl <;> rfl
    have h63 : (segw L1.l).length + 2 ≤ maxLen := by rw [segw_len]; have := hln.out; unfold maxLen; omega
    have hby : ((segw L1.l).length + 2) * ii.bytes ≤ 140737488355328 := by rw [segw_len, hy2]; have := hln.out; omega
    have h8 : Sat w0 _ (osl 145 2 lv (segw L1.l) :: logPt p m L1 lv :: pt q (.cells #[.int .i64 0, .int .i64 0, .int .i64 0] 39) :: MedRep m M3 :: F) := h7.sb
    have hwf : IntKind.i64.wrap (L1.fresh + 1) = L1.fresh + 1 := by rw [IntKind.wrap_i64]; have := hfr.out; have := hln.out; omega
    go_wp2_with (first
      | (at_builtin; refine wpList_append (w0 := w0) (by rfl) _ _ _ (by rfl) _ ii _ Tryz.underlying138 hii hy0 hy1 (by rfl) (by omega) (by rfl) (by rfl) hoc h8 (rdsl_new _ _ _ 2 1 1 (by rfl)) h63 hby ?_; intro v2 w8 hS8 hne; obtain ⟨ab, an, ac, rfl⟩ := hne (by simp); clear h8 h7 hS7 c2 hoc h63 hby hne)
      | ((with_reducible apply at_load); refine ⟨?_⟩; refine wl_load1 (by assumption) (by rfl) pkD (Nat.le_of_ble_eq_true (by rfl)) evD (by kernel_rfl) ?_) | ((with_reducible apply at_store); refine ⟨?_⟩; refine wl_store (by assumption) (by rfl) evD (by first | (simp only [putsAt, Value.cells]; (try go_frame); first | done | rfl) | rfl) upD (Nat.le_of_ble_eq_true (by rfl)) (by kernel_rfl) (by rfl) ?_; intro wS hS))
    refine ⟨rfl, _, res_cell_tmp rfl (by assumption) (by rfl) pkD Tryz.underlying39 rfl (by kernel_rfl), _, rfl, ?_, ?_⟩
    · rw [hfin.out]; rfl
    · rw [hfin.out]
      have e : segw L1.l ++ [.int .i64 n, .int .i64 (8 + (b.length : Int))] = segw (L1.l ++ [(n, 8 + (b.length : Int))]) := segw_snoc _ _ _
      rw [e] at hS
      exact LogRep.shut2 (lv := .slice (some ⟨ab, 0, none⟩) an ac) (Sat.sb hS)
  have H4 := Lib.hid (H3.out.trans (if_neg he))
  have heb : (e3 == 0) = false := beq_false_of_ne he
  clear he H3
  by_cases he : e3 = 11
  · subst he
    have H5 := Lib.hid (H4.out.trans (if_pos rfl))
    have e0 : w7.cell? ⟨p, 0, none⟩ = some (ptr m) := hS7.cellP pkD 0 rfl
    go_wp2_with fail
    refine (remove_c HM3.out (by omega) (Sat.pk (by assumption)) nm).mono ?_
    rintro e w8 ⟨v, rfl, rfl, hS8⟩
    clear hS7 e0
    generalize M3.remove nm = E at *
    obtain ⟨M4, e4⟩ := E
    by_cases he : e4 = 0
    · subst he
      go_wp2_with ((with_reducible apply at_store); refine ⟨?_⟩; refine wl_store (by assumption) (by rfl) evD (by first | (simp only [putsAt, Value.cells]; (try go_frame); first | done | rfl) | rfl) upD (Nat.le_of_ble_eq_true (by rfl)) (by kernel_rfl) (by rfl) ?_; intro wS hS)
      refine ⟨rfl, _, res_cell_tmp rfl (by assumption) (by rfl) pkD Tryz.underlying39 rfl (by kernel_rfl), _, rfl, ?_, ?_⟩
      · rw [H5.out]; rfl
      · rw [H5.out]; exact LogRep.shut2 (lv := lv) (Sat.sb hS)
    · have heb : (e4 == 0) = false := beq_false_of_ne he
      have H6 := Lib.hid (H5.out.trans (by rw [if_neg he]))
      clear he
      go_wp2_with ((with_reducible apply at_store); refine ⟨?_⟩; refine wl_store (by assumption) (by rfl) evD (by first | (simp only [putsAt, Value.cells]; (try go_frame); first | done | rfl) | rfl) upD (Nat.le_of_ble_eq_true (by rfl)) (by kernel_rfl) (by rfl) ?_; intro wS hS)
      refine ⟨rfl, _, res_cell_tmp rfl (by assumption) (by rfl) pkD Tryz.underlying39 rfl (by kernel_rfl), _, rfl, ?_, ?_⟩
      · rw [H6.out]; rfl
      · rw [H6.out]; exact LogRep.shut2 (lv := lv) (Sat.sb hS)
  · have hfin := Lib.hid (H4.out.trans (if_neg he))
    have heb2 : (e3 == 11) = false := beq_false_of_ne he
    clear he H4
    go_wp2_with ((with_reducible apply at_store); refine ⟨?_⟩; refine wl_store (by assumption) (by rfl) evD (by first | (simp only [putsAt, Value.cells]; (try go_frame); first | done | rfl) | rfl) upD (Nat.le_of_ble_eq_true (by rfl)) (by kernel_rfl) (by rfl) ?_; intro wS hS)
    refine ⟨rfl, _, res_cell_tmp rfl (by assumption) (by rfl) pkD Tryz.underlying39 rfl (by kernel_rfl), _, rfl, ?_, ?_⟩
    · rw [hfin.out]; rfl
    · rw [hfin.out]; exact LogRep.shut2 (lv := lv) (Sat.sb hS)
end
end Go.Proofs.YtmjldaedhmipkaaGreatDoor
