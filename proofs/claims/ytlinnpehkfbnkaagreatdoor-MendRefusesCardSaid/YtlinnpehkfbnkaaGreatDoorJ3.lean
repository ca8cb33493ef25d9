import Derived.Test.YtlinnpehkfbnkaaGreatDoorJ2
import Derived.Laws.IdiomStrings
import Derived.Lib.BufferRead
set_option linter.unusedVariables false
namespace Go.Proofs.YtlinnpehkfbnkaaGreatDoor
open Go Go.Sl Go.Med Go.MapKept Go.RowKit
section
variable {w0 w : World} {F R : List HProp} {v bv dv x lv : Value}
set_option maxRecDepth 20000 in
set_option maxHeartbeats 8000000 in
theorem fread_c (l : Bs) (hr : Ro w0 F (rdsl 1 bv (bys l))) (hcap : capOk bv) (hH : Ro w0 F Half) (hl : l.length ≤ 1099511627776) (h : Sat w0 w F) :
    Calls Tryz.prog 116 #[bv] w (Rtn fun v w' => ∃ da dc, v = .tuple #[.agg (entA (Frm.read l).1 (.slice da (Frm.read l).1.data.length dc)), .int .i64 (Frm.read l).2.1, errno (Frm.read l).2.2] ∧ Sat w0 w' (bsl (.slice da (Frm.read l).1.data.length dc) (Frm.read l).1.data :: F)) := by
  obtain ⟨ba, bn, bc, rfl, hbn, hbc⟩ := hcap
  have hln : bn = l.length := by
    obtain ⟨_, _, _, he, hl', _⟩ := hr w h
    cases he
    rw [bys_len, Nat.mul_one] at hl'; exact hl'.symm
  subst hln
  by_cases h9 : l.length < 9
  · have Hf := Lib.hid (show Frm.read l = (Frm.zeroE, 0, 3) by unfold Frm.read; rw [if_pos h9])
    have c1 : (l.length : Int) < 9 := by omega
    clear hr hH h9 hl
    go_enter Tryz.func116, Tryz.ntmps116
    go_wp2_with (first | ((with_reducible apply at_allocE); refine ⟨?_⟩; refine wl_allocE (by assumption) ?_; intro bE wE hE) | ((with_reducible apply at_buildZ); refine ⟨?_⟩; refine wl_buildZ ?_) | ((with_reducible apply at_storeE); refine ⟨?_⟩; first | (refine wl_storeE (by assumption) (by rfl) (by rfl) (by first | rfl | assumption | exact Hid.out (by assumption)) upD (by first | assumption | exact entA_size _ _ rfl | exact entA_size _ _ (by assumption) | exact entA_size _ _ (Hid.out (by assumption))) ?_; intro wS hS) | (refine wl_storeE (e := Frm.zeroE) (da := none) (dn := 0) (dc := 0) (by assumption) (by rfl) (by rfl) rfl upD (by first | assumption | exact entA_size _ _ rfl | exact entA_size _ _ (by assumption) | exact entA_size _ _ (Hid.out (by assumption))) ?_; intro wS hS)))
    rw [Hf.out]
    refine ⟨rfl, _, res_entE3 rfl (by assumption) (by rfl) pkD rfl, _, rfl, none, 0, rfl, Sat.osl_nil.2 (Sat.sb hS)⟩
  obtain ⟨bk, off, rfl, hcell⟩ : ∃ bk off, ba = some ⟨bk, off, none⟩ ∧ True := by
    have hx : (bys l)[0]? = some (.int .u8 (l[0]'(by omega)).toNat) := by
      unfold bys; rw [List.getElem?_map, List.getElem?_eq_getElem (by omega)]; rfl
    obtain ⟨bk, off, hb, _⟩ := rdsl_cells (hr w h) hx
    exact ⟨bk, off, hb, trivial⟩
  clear hcell
  have hrd := hr w h
  have Hsub := Lib.hid (show ∀ (i j : Nat), i ≤ j → j ≤ l.length → ∀ w, Sat w0 w F → rdsl 1 (.slice (some ⟨bk, off + i, none⟩) (j - i) (bc - i)) (bys ((l.take j).drop i)) w from fun i j h1 h2 w hw => rdsl_sub (hr w hw) i j (bc - i) h1 h2)
  have Hnum := Lib.hid (show ∀ w, Sat w0 w F → Calls Tryz.prog 171 #[.slice (some ⟨bk, off + 4, none⟩) (l.length - 4) (bc - 4)] w (Rtn fun v w' => v = .int .u32 (Frm.num ((l.drop 4).take 4) : Nat) ∧ w = w') from fun w hw => number_c (l.drop 4) (by rw [List.length_drop]; omega) _ (l.length - 4) (bc - 4) (by omega) (by omega) (by
    have := Hsub.out 4 l.length (by omega) (Nat.le_refl _) w hw
    rw [List.take_length] at this
    exact this))
  have Hnum0 := Lib.hid (show ∀ w, Sat w0 w F → Calls Tryz.prog 171 #[.slice (some ⟨bk, off, none⟩) l.length bc] w (Rtn fun v w' => v = .int .u32 (Frm.num (l.take 4) : Nat) ∧ w = w') from fun w hw => number_c l (by omega) _ l.length bc hbn hbc (hr w hw))
  have Hread := Lib.hid (show Frm.read l = if Frm.fits (l.getD 8 0) (Frm.num ((l.drop 4).take 4)) = false then (Frm.zeroE, 0, 4)
    else if l.length < Frm.num ((l.drop 4).take 4) then (Frm.zeroE, 0, 3)
    else if Frm.crc ((l.take (Frm.num ((l.drop 4).take 4))).drop 4) ≠ Frm.num (l.take 4) then (Frm.zeroE, 0, 13)
    else if 41 ≤ Frm.num ((l.drop 4).take 4) then (⟨(l.getD 8 0).toNat, (l.drop 9).take 32, (l.take (Frm.num ((l.drop 4).take 4))).drop 41⟩, Frm.num ((l.drop 4).take 4), 0)
    else (⟨(l.getD 8 0).toNat, Frm.zero32, []⟩, Frm.num ((l.drop 4).take 4), 0) by unfold Frm.read; rw [if_neg h9])
  have hN : Frm.num ((l.drop 4).take 4) < 4294967296 := by
    have := Frm.num_lt ((l.drop 4).take 4)
    rw [List.length_take, List.length_drop] at this
    have h4 : min 4 (l.length - 4) = 4 := by omega
    rw [h4] at this
    omega
  generalize hNN : Frm.num ((l.drop 4).take 4) = N at *
  have hfits := fun w => fits_c (l.getD 8 0) N hN w
  have hfg : Frm.fits (l.getD 8 0) N = true → 9 ≤ N := by
    unfold Frm.fits
    intro hh
    split at hh
    · have := of_decide_eq_true hh; omega
    · split at hh
      · have := of_decide_eq_true hh; omega
      · split at hh
        · have := of_decide_eq_true hh; omega
        · cases hh
  have hc8 : ∀ w, Sat w0 w F → w.cell? ⟨bk, off + 8, none⟩ = some (.int .u8 (l.getD 8 0).toNat) := fun w hw => by
    have hx : (bys l)[8]? = some (.int .u8 (l.getD 8 0).toNat) := by
      unfold bys; rw [List.getElem?_map, List.getD_eq_getElem?_getD, List.getElem?_eq_getElem (by omega)]; rfl
    obtain ⟨bk', off', hb, hc⟩ := rdsl_cells (hr w hw) hx
    cases hb
    exact hc _ _ hx
  have Hc8 := Lib.hid hc8; have Hr := Lib.hid hr; have HH := Lib.hid hH; have Hl := Lib.hid hl; have Hfg := Lib.hid hfg; have Hfits := Lib.hid hfits
  have c1 : ¬ (l.length : Int) < 9 := by omega
  have c2 : ¬ bc = 4 := by omega
  have c3 : (4 : Int) ≤ (l.length : Int) := by omega
  have c4 : (l.length : Int) ≤ (bc : Int) := by omega
  have c5 : (8 : Int) < (l.length : Int) := by omega
  have Hbn := Lib.hid (show l.length ≤ bc ∧ bc ≤ 9223372036854775807 ∧ 9 ≤ l.length ∧ N < 4294967296 from ⟨hbn, hbc, by omega, hN⟩)
  have hcv : IntKind.i64.wrap (N : Int) = (N : Int) := by rw [IntKind.wrap_i64]; omega
  clear hrd hNN hc8 hr hH hl h9 hbn hbc hfg hfits hN
  generalize l.getD 8 0 = tg at *
  have htg := tg.toNat_lt
  have hct : IntKind.i64.wrap (tg.toNat : Int) = (tg.toNat : Int) := by rw [IntKind.wrap_i64]; omega
  have htb : (tg.toNat : Int) < 256 := by omega
  go_enter Tryz.func116, Tryz.ntmps116
  go_wp2_with ((with_reducible apply at_allocE); refine ⟨?_⟩; refine wl_allocE (by assumption) ?_; intro bE wE hE)
  refine (Hnum.out _ hE.drop).mono ?_
  rintro ee w2 ⟨v, rfl, rfl, rfl⟩
  have e8 := Hc8.out _ hE.drop
  go_wp2_with fail
  refine (Hfits.out _).mono ?_
  rintro ee w2 ⟨v, rfl, rfl, rfl⟩
  cases hft : Frm.fits tg N
  · have Hf := Lib.hid (Hread.out.trans (if_pos hft))
    clear hft
    go_wp2_with (first | ((with_reducible apply at_buildZ); refine ⟨?_⟩; refine wl_buildZ ?_) | ((with_reducible apply at_storeE); refine ⟨?_⟩; first | (refine wl_storeE (by assumption) (by rfl) (by rfl) (by first | rfl | assumption | exact Hid.out (by assumption)) upD (by first | assumption | exact entA_size _ _ rfl | exact entA_size _ _ (by assumption) | exact entA_size _ _ (Hid.out (by assumption))) ?_; intro wS hS) | (refine wl_storeE (e := Frm.zeroE) (da := none) (dn := 0) (dc := 0) (by assumption) (by rfl) (by rfl) rfl upD (by first | assumption | exact entA_size _ _ rfl | exact entA_size _ _ (by assumption) | exact entA_size _ _ (Hid.out (by assumption))) ?_; intro wS hS)))
    rw [Hf.out]
    refine ⟨rfl, _, res_entE3 rfl (by assumption) (by rfl) pkD rfl, _, rfl, none, 0, rfl, Sat.osl_nil.2 (Sat.sb hS)⟩
  have Hf := Lib.hid (Hread.out.trans (if_neg (by rw [hft]; decide)))
  have hN9 := Hfg.out hft
  clear hft
  by_cases hlN : l.length < N
  · have Hf2 := Lib.hid (Hf.out.trans (if_pos hlN))
    have c6 : (l.length : Int) < (N : Int) := by omega
    clear hlN hN9
    go_wp2_with (first | ((with_reducible apply at_buildZ); refine ⟨?_⟩; refine wl_buildZ ?_) | ((with_reducible apply at_storeE); refine ⟨?_⟩; first | (refine wl_storeE (by assumption) (by rfl) (by rfl) (by first | rfl | assumption | exact Hid.out (by assumption)) upD (by first | assumption | exact entA_size _ _ rfl | exact entA_size _ _ (by assumption) | exact entA_size _ _ (Hid.out (by assumption))) ?_; intro wS hS) | (refine wl_storeE (e := Frm.zeroE) (da := none) (dn := 0) (dc := 0) (by assumption) (by rfl) (by rfl) rfl upD (by first | assumption | exact entA_size _ _ rfl | exact entA_size _ _ (by assumption) | exact entA_size _ _ (Hid.out (by assumption))) ?_; intro wS hS)))
    rw [Hf2.out]
    refine ⟨rfl, _, res_entE3 rfl (by assumption) (by rfl) pkD rfl, _, rfl, none, 0, rfl, Sat.osl_nil.2 (Sat.sb hS)⟩
  have Hf2 := Lib.hid (Hf.out.trans (if_neg hlN))
  clear Hf Hread
  have c6 : ¬ (l.length : Int) < (N : Int) := by omega
  have c7 : (4 : Int) ≤ (N : Int) := by omega
  have c8 : (N : Int) ≤ (bc : Int) := by omega
  have HlN := Lib.hid (show N ≤ l.length ∧ 9 ≤ N by omega)
  clear hlN hN9
  go_wp2_with fail
  refine (crc_c ((l.take N).drop 4) (Ro.os HH.out) (fun w hw => Hsub.out 4 N (by have := HlN.out; omega) HlN.out.1 w (hw.sb)) hE (by rw [List.length_drop, List.length_take]; have := Hl.out; omega)).mono ?_
  rintro ee w2 ⟨v, rfl, rfl, rfl⟩
  go_wp2_with fail
  refine (Hnum0.out _ hE.drop).mono ?_
  rintro ee w2 ⟨v, rfl, rfl, rfl⟩
  generalize Frm.crc ((l.take N).drop 4) = A at *
  generalize Frm.num (l.take 4) = B at *
  by_cases hAB : A = B
  rotate_left
  · have Hf3 := Lib.hid (Hf2.out.trans (if_pos hAB))
    have c9 : ((A : Int) == (B : Int)) = false := by rw [beq_eq_false_iff_ne]; omega
    clear hAB
    go_wp2_with (first | ((with_reducible apply at_buildZ); refine ⟨?_⟩; refine wl_buildZ ?_) | ((with_reducible apply at_storeE); refine ⟨?_⟩; first | (refine wl_storeE (by assumption) (by rfl) (by rfl) (by first | rfl | assumption | exact Hid.out (by assumption)) upD (by first | assumption | exact entA_size _ _ rfl | exact entA_size _ _ (by assumption) | exact entA_size _ _ (Hid.out (by assumption))) ?_; intro wS hS) | (refine wl_storeE (e := Frm.zeroE) (da := none) (dn := 0) (dc := 0) (by assumption) (by rfl) (by rfl) rfl upD (by first | assumption | exact entA_size _ _ rfl | exact entA_size _ _ (by assumption) | exact entA_size _ _ (Hid.out (by assumption))) ?_; intro wS hS)))
    rw [Hf3.out]
    refine ⟨rfl, _, res_entE3 rfl (by assumption) (by rfl) pkD rfl, _, rfl, none, 0, rfl, Sat.osl_nil.2 (Sat.sb hS)⟩
  subst hAB
  have Hf3 := Lib.hid (Hf2.out.trans (if_neg (fun h => h rfl)))
  clear Hf2
  by_cases h41 : 41 ≤ N
  rotate_left
  · have Hf4 := Lib.hid (Hf3.out.trans (if_neg h41))
    have c9 : ¬ (41 : Int) ≤ (N : Int) := by omega
    clear h41
    go_wp2_with (first | ((with_reducible apply at_buildTag); refine ⟨?_⟩; refine wl_buildTag (by rfl) ?_) | ((with_reducible apply at_allocE); refine ⟨?_⟩; refine wl_allocE (by assumption) ?_; intro bE wE hE) | ((with_reducible apply at_storeE); refine ⟨?_⟩; first | (refine wl_storeE (by assumption) (by rfl) (by rfl) (by first | rfl | assumption | exact Hid.out (by assumption)) upD (by first | assumption | exact entA_size _ _ rfl | exact entA_size _ _ (by assumption) | exact entA_size _ _ (Hid.out (by assumption))) ?_; intro wS hS) | (refine wl_storeE (e := Frm.zeroE) (da := none) (dn := 0) (dc := 0) (by assumption) (by rfl) (by rfl) rfl upD (by first | assumption | exact entA_size _ _ rfl | exact entA_size _ _ (by assumption) | exact entA_size _ _ (Hid.out (by assumption))) ?_; intro wS hS)) | ((with_reducible apply at_loadE); refine ⟨?_⟩; refine wl_loadE (by assumption) (by rfl) pkD (by first | rfl | assumption | exact Hid.out (by assumption)) ?_))
    rw [Hf4.out]
    simp only [List.length_nil]
    refine ⟨rfl, _, res_entE3 rfl (by assumption) (by rfl) pkD rfl, _, rfl, none, 0, rfl, Sat.osl_nil.2 (Sat.sb hS)⟩
  have Hf4 := Lib.hid (Hf3.out.trans (if_pos h41))
  have Hkl := Lib.hid (show ((l.drop 9).take 32).length = 32 by rw [List.length_take, List.length_drop]; have := HlN.out; omega)
  have Hkb := Lib.hid (show (bys ((l.drop 9).take 32)).length = 32 by rw [bys_len]; exact Hkl.out)
  have Hrange := Lib.hid (show ∀ w, Sat w0 w F → w.rangeAt bk (off + 9) (bys ((l.drop 9).take 32)) from fun w hw => by
    intro j y hj
    have hsb := Hsub.out 9 41 (by decide) (by have := HlN.out; omega) w hw
    have e : (l.take 41).drop 9 = (l.drop 9).take 32 := by rw [List.drop_take]
    rw [e] at hsb
    obtain ⟨b', o', hb, hc⟩ := rdsl_cells hsb hj
    cases hb
    exact hc _ _ hj)
  have c9 : (41 : Int) ≤ (N : Int) := by omega
  have c10 : ¬ bc = 9 := by have := HlN.out; have := Hbn.out; omega
  have c11 : (41 : Int) ≤ (bc : Int) := by omega
  obtain ⟨ad, had, hsl⟩ : ∃ ad : Addr, (41 < N → ad = ⟨bk, off + 41, none⟩) ∧ ∀ w, (Instr.sliceAt 25 (.slice (some ⟨bk, off, none⟩) l.length bc) (some (.int .i64 41)) (some (.int .i64 N)) none).run Tryz.prog w = .ok (.slice (some ad) (N - 41) (bc - 41)) w := by
    by_cases hce : bc = 41
    · refine ⟨⟨bk, off, none⟩, fun hh => by have := HlN.out; have := Hbn.out; omega, fun w => ?_⟩
      have c12 : (N : Int) ≤ 41 := by omega
      have c13 : ¬ (41 : Int) < (N : Int) := by omega
      go_simp
    · refine ⟨⟨bk, off + 41, none⟩, fun _ => rfl, fun w => ?_⟩
      go_simp
  have Had := Lib.hid had
  have Hdat := Lib.hid (show ∀ w, Sat w0 w F → rdsl 1 (.slice (some ad) (N - 41) (bc - 41)) (bys ((l.take N).drop 41)) w from fun w hw => by
    by_cases h2 : 41 < N
    · rw [Had.out h2]; exact Hsub.out 41 N (by omega) HlN.out.1 w hw
    · have : (l.take N).drop 41 = [] := List.drop_of_length_le (by rw [List.length_take]; omega)
      rw [this, show N - 41 = 0 by omega]
      exact ⟨_, 0, _, rfl, rfl, by simp [bys]⟩)
  clear h41 had
  have hat := fun w => run_arrKey ⟨bk, off + 9, none⟩ (bc - 9) w
  go_wp2_with (first
    | ((with_reducible apply at_buildTag); refine ⟨?_⟩; refine wl_buildTag (by rfl) ?_) | ((with_reducible apply at_allocE); refine ⟨?_⟩; refine wl_allocE (by assumption) ?_; intro bE wE hE) | ((with_reducible apply at_storeE); refine ⟨?_⟩; first | (refine wl_storeE (by assumption) (by rfl) (by rfl) (by first | rfl | assumption | exact Hid.out (by assumption)) upD (by first | assumption | exact entA_size _ _ rfl | exact entA_size _ _ (by assumption) | exact entA_size _ _ (Hid.out (by assumption))) ?_; intro wS hS) | (refine wl_storeE (e := Frm.zeroE) (da := none) (dn := 0) (dc := 0) (by assumption) (by rfl) (by rfl) rfl upD (by first | assumption | exact entA_size _ _ rfl | exact entA_size _ _ (by assumption) | exact entA_size _ _ (Hid.out (by assumption))) ?_; intro wS hS))
    | ((with_reducible apply at_load); refine ⟨?_⟩; refine wpList_load_mid (by rfl) 24 _ (by rfl) bk (off + 9) (by rfl) (bys ((l.drop 9).take 32)) _ (Hrange.out _ (Sat.sb (by assumption))) Tryz.underlying24 rfl (by rw [Hkb.out]; kernel_rfl) ?_)
    | ((with_reducible apply at_store); refine ⟨?_⟩; refine wl_storeK (key := (l.drop 9).take 32) (by assumption) (by rfl) (by rfl) rfl Hkl.out upD ?_; intro wK hK)
    | ((with_reducible apply at_slice2); refine ⟨?_⟩; refine wl_slice2 (by rfl) (by rfl) (by rfl) hsl ?_))
  refine (clone_c hK (Hdat.out _ (hK.sb)) (by rw [List.length_drop, List.length_take]; have := Hl.out; omega)).mono ?_
  rintro ee w3 ⟨v, rfl, hS3, ca, cn, cc, rfl⟩
  have hcn : cn = ((l.take N).drop 41).length := by
    obtain ⟨_, _, _, he, hl', _⟩ := Sat.rd hS3
    cases he
    rw [bys_len, Nat.mul_one] at hl'; exact hl'.symm
  subst hcn
  have Hkl2 := Hkl.out
  generalize (l.drop 9).take 32 = key at *
  generalize (l.take N).drop 41 = data at *
  go_wp2_with (first
    | ((with_reducible apply at_store); refine ⟨?_⟩; refine wl_storeD (e := ⟨(tg.toNat : Int), key, []⟩) (data := data) (by assumption) (by rfl) (by rfl) Hkl2 upD ?_; intro wD hD)
    | ((with_reducible apply at_loadE); refine ⟨?_⟩; refine wl_loadE (by assumption) (by rfl) pkD (by first | rfl | assumption | exact Hid.out (by assumption)) ?_) | ((with_reducible apply at_storeE); refine ⟨?_⟩; first | (refine wl_storeE (by assumption) (by rfl) (by rfl) (by first | rfl | assumption | exact Hid.out (by assumption)) upD (by first | assumption | exact entA_size _ _ rfl | exact entA_size _ _ (by assumption) | exact entA_size _ _ (Hid.out (by assumption))) ?_; intro wS hS) | (refine wl_storeE (e := Frm.zeroE) (da := none) (dn := 0) (dc := 0) (by assumption) (by rfl) (by rfl) rfl upD (by first | assumption | exact entA_size _ _ rfl | exact entA_size _ _ (by assumption) | exact entA_size _ _ (Hid.out (by assumption))) ?_; intro wS hS)))
  rw [Hf4.out]
  simp only
  refine ⟨rfl, _, res_entE3 rfl (by assumption) (by rfl) pkD Hkl2, _, rfl, ca, cc, rfl, Sat.sb hS⟩
end
end Go.Proofs.YtlinnpehkfbnkaaGreatDoor
namespace Go.Frm
structure Fnd where
  e : Ent
  at_ : Nat
  size : Nat
def scanL : Nat → Bs → Nat → List Fnd × Nat × Int
  | 0, _, at_ => ([], at_, 0)
  | k + 1, b, at_ =>
    if b = [] then ([], at_, 0)
    else if (read b).2.2 ≠ 0 then ([], at_, (read b).2.2)
    else (⟨(read b).1, at_, (read b).2.1⟩ :: (scanL k (b.drop (read b).2.1) (at_ + (read b).2.1)).1, (scanL k (b.drop (read b).2.1) (at_ + (read b).2.1)).2)
def magicB : Bs := [72, 79, 65, 82, 68, 83, 69, 71]
def scan (b : Bs) : List Fnd × Nat × Int := if b.take 8 = magicB then scanL b.length (b.drop 8) 8 else ([], 0, 4)
end Go.Frm
namespace Go.Proofs.YtlinnpehkfbnkaaGreatDoor
open Go Go.Sl Go.Med Go.MapKept Go.RowKit
section
variable {w0 w : World} {F R : List HProp} {v bv dv x lv av : Value}
theorem rdsl_text {l : Bs} (h : rdsl 1 v (bys l) w) : (convert 25 9 v).run Tryz.prog w = .ok (.string ⟨l.toArray⟩) w := by
  obtain ⟨a, n, c, rfl, hl, hx⟩ := h
  rw [bys_len, Nat.mul_one] at hl
  subst hl
  cases a with
  | none =>
    obtain rfl : l = [] := by
      cases l with
      | nil => rfl
      | cons d l => obtain ⟨b, hb, _⟩ := hx 0 _ rfl; cases hb
    exact Lib.run_convert_nil_bytes (P := Tryz.prog) w _ _ 5 c Tryz.underlying25 Tryz.underlying5 Tryz.underlying9
  | some ad =>
    refine run_convert_bytes_back (P := Tryz.prog) w _ _ 5 ad c l Tryz.underlying25 Tryz.underlying5 Tryz.underlying9 (fun j hj => ?_)
    have hy : (bys l)[j]? = some (.int .u8 (l[j]'hj).toNat) := by unfold bys; rw [List.getElem?_map, List.getElem?_eq_getElem hj]; rfl
    obtain ⟨b, hb, hc⟩ := hx _ _ hy
    cases hb
    simpa using hc
set_option maxHeartbeats 2000000 in
theorem bequal_c (la lb : Bs) (ha : rdsl 1 av (bys la) w) (hb : rdsl 1 bv (bys lb) w) :
    Calls Tryz.prog 170 #[av, bv] w (Rtn fun v w' => v = .bool (decide (la = lb)) ∧ w = w') := by
  have h1 := rdsl_text ha
  have h2 := rdsl_text hb
  have He := Lib.hid (show ((la.toArray.toList : List UInt8) == lb.toArray.toList) = decide (la = lb) by
    rw [Bool.eq_iff_iff, beq_iff_eq, decide_eq_true_eq])
  clear ha hb
  go_enter Tryz.func170, Tryz.ntmps170
  go_wp2
  go_ret
  rw [← He.out]
  exact ⟨_, rfl, rfl, rfl⟩
set_option maxHeartbeats 2000000 in
theorem hasPrefix_c (l lp : Bs) (a : Option Addr) (n c : Nat) (hn : n ≤ c) (hc : c ≤ 9223372036854775807) (ha : rdsl 1 (.slice a n c) (bys l) w) (pa : Option Addr) (pn pc : Nat) (hp : rdsl 1 (.slice pa pn pc) (bys lp) w) :
    Calls Tryz.prog 115 #[.slice a n c, .slice pa pn pc] w (Rtn fun v w' => v = .bool (decide (l.take lp.length = lp)) ∧ w = w') := by
  have hln : n = l.length := by
    obtain ⟨_, _, _, he, hl', _⟩ := ha
    cases he
    rw [bys_len, Nat.mul_one] at hl'; exact hl'.symm
  have hpn : pn = lp.length := by
    obtain ⟨_, _, _, he, hl', _⟩ := hp
    cases he
    rw [bys_len, Nat.mul_one] at hl'; exact hl'.symm
  subst hln hpn
  by_cases hle : lp.length ≤ l.length
  · have h4 := rdsl_cut4 (k := lp.length) ha
    rw [show min l.length lp.length = lp.length by omega] at h4
    have hq := bequal_c _ _ h4 hp
    have c1 : (lp.length : Int) ≤ (l.length : Int) := by omega
    have c2 : (lp.length : Int) ≤ (c : Int) := by omega
    have c3 : lp.length ≤ l.length := hle
    clear h4 ha hp
    go_enter Tryz.func115, Tryz.ntmps115
    go_wp2_with (go_at_call 170; refine hq.mono ?_; rintro e w1 ⟨v, rfl, rfl, rfl⟩)
    go_ret
    exact ⟨_, rfl, rfl, rfl⟩
  · have c1 : ¬ lp.length ≤ l.length := hle
    have c2 : decide ((lp.length : Int) ≤ (l.length : Int)) = false := decide_eq_false (by omega)
    have He := Lib.hid (show decide (l.take lp.length = lp) = false by
      apply decide_eq_false
      intro hh
      have := congrArg List.length hh
      rw [List.length_take] at this
      omega)
    clear ha hp
    go_enter Tryz.func115, Tryz.ntmps115
    go_wp2
    go_ret
    rw [He.out]
    exact ⟨_, rfl, rfl, rfl⟩
end
end Go.Proofs.YtlinnpehkfbnkaaGreatDoor
namespace Go.Frm
def cutE (long : Nat) (x : Ent) : Ent := ⟨x.tag, x.key, x.data.take long⟩
def few (l : List Ent) (n long : Nat) : List Ent := (l.take n).map (cutE long)
end Go.Frm
namespace Go.Proofs.YtlinnpehkfbnkaaGreatDoor
open Go Go.Sl Go.Med Go.MapKept Go.RowKit
section
variable {w0 w : World} {F R : List HProp} {v bv dv x lv : Value}
theorem entA_one (e : Frm.Ent) (a : Option Addr) (n c : Nat) : (entA e (.slice a n c)).toList.all (·.oneCell') = true := by
  unfold entA entL
  rw [List.toList_toArray, List.all_cons, List.all_append]
  have : (bys e.key).all (·.oneCell') = true := List.all_eq_true.2 (bys_one _)
  rw [this]; rfl
structure EntRo (w0 : World) (F : List HProp) (p : Frm.Ent × Value) : Prop where
  key : p.1.key.length = 32
  rd : Ro w0 F (rdsl 1 p.2 (bys p.1.data))
  cap : capOk p.2
end
end Go.Proofs.YtlinnpehkfbnkaaGreatDoor
namespace Go.Frm
theorem read_ok {b : Bs} (h : (read b).2.2 = 0) : 9 ≤ (read b).2.1 ∧ (read b).2.1 ≤ b.length ∧ (read b).1.key.length = 32 := by
  unfold read at *
  dsimp only at *
  split at h
  · simp at h
  rename_i h9
  rw [if_neg h9]
  split at h
  · simp at h
  rename_i hf
  rw [if_neg hf]
  split at h
  · simp at h
  rename_i hl
  rw [if_neg hl]
  split at h
  · simp at h
  rename_i hc
  rw [if_neg hc]
  have hfit : fits (b.getD 8 0) (num ((b.drop 4).take 4)) = true := by
    cases hh : fits (b.getD 8 0) (num ((b.drop 4).take 4)) with
    | true => rfl
    | false => exact absurd hh hf
  have h9' : 9 ≤ num ((b.drop 4).take 4) := by
    unfold fits at hfit
    split at hfit
    · have := of_decide_eq_true hfit; omega
    · split at hfit
      · have := of_decide_eq_true hfit; omega
      · split at hfit
        · have := of_decide_eq_true hfit; omega
        · cases hfit
  split
  · rename_i h41
    refine ⟨h9', Nat.not_lt.1 hl, ?_⟩
    simp only [List.length_take, List.length_drop]
    omega
  · exact ⟨h9', Nat.not_lt.1 hl, rfl⟩
theorem read_key (b : Bs) : (read b).1.key.length = 32 := by
  unfold read
  dsimp only
  split
  · rfl
  split
  · rfl
  split
  · rfl
  split
  · rfl
  rename_i h9 hf hl hc
  split
  · rename_i h41
    simp only [List.length_take, List.length_drop]
    omega
  · rfl
end Go.Frm
namespace Go.Proofs.YtlinnpehkfbnkaaGreatDoor
open Go Go.Sl Go.Med Go.MapKept Go.RowKit
def fndL (f : Frm.Fnd) (dv : Value) : List Value := entL f.e dv ++ [.int .i64 f.at_, .int .i64 f.size]
def fndA (f : Frm.Fnd) (dv : Value) : Array Value := (fndL f dv).toArray
def fndsL (fs : List (Frm.Fnd × Value)) : List Value := fs.flatMap fun p => fndL p.1 p.2
def dataF (fs : List (Frm.Fnd × Value)) : HProp := stars (fs.map fun p => bsl p.2 p.1.e.data)
theorem fndL_len (f : Frm.Fnd) (dv : Value) (hk : f.e.key.length = 32) : (fndL f dv).length = 36 := by unfold fndL; rw [List.length_append, entL_len _ _ hk]; rfl
theorem fndA_size (f : Frm.Fnd) (dv : Value) (hk : f.e.key.length = 32) : (fndA f dv).size = 36 := by unfold fndA; rw [List.size_toArray, fndL_len _ _ hk]
theorem fndsL_len {fs : List (Frm.Fnd × Value)} (hk : ∀ p ∈ fs, p.1.e.key.length = 32) : (fndsL fs).length = 36 * fs.length := by
  unfold fndsL
  induction fs with
  | nil => rfl
  | cons p fs ih =>
    rw [List.flatMap_cons, List.length_append, ih (fun q hq => hk q (.tail _ hq)), fndL_len _ _ (hk p (.head _)), List.length_cons]; omega
theorem fndsL_app (es fs : List (Frm.Fnd × Value)) : fndsL (es ++ fs) = fndsL es ++ fndsL fs := by unfold fndsL; rw [List.flatMap_append]
theorem dataF_snoc (es : List (Frm.Fnd × Value)) (x : Frm.Fnd) (dv : Value) : dataF (es ++ [(x, dv)]) = star (bsl dv x.e.data) (dataF es) := by
  unfold dataF
  rw [List.map_append, stars_append, star_comm]
  show star (stars [bsl dv x.e.data]) _ = _
  rw [stars_one]
theorem plFnd : placesB Tryz.prog 118 = some [(0, 34), (34, 1), (35, 1)] := by kernel_rfl
def zeroF : Frm.Fnd := ⟨Frm.zeroE, 0, 0⟩
theorem zFnd : zeroB Tryz.prog 118 = some (.agg (fndA zeroF (.slice none 0 0))) := by kernel_rfl
theorem puts3f (cs : Array Value) (hs : cs.size = 36) (el : List Value) (u v : Value) (hk : el.length = 34) : (putsAt (putsAt (putsAt cs 0 el) 34 [u]) 35 [v]).toList = el ++ [u, v] := by
  have hcl : cs.toList.length = 36 := by simpa using hs
  have e1 : (putsAt cs 0 el).toList = el ++ cs.toList.drop 34 := by
    rw [putsAt_list _ _ _ (by omega), List.take_zero, List.nil_append, Nat.zero_add, hk]
  have e2 : (putsAt (putsAt cs 0 el) 34 [u]).toList = el ++ [u] ++ cs.toList.drop 35 := by
    rw [putsAt_list _ _ _ (by rw [putsAt_size]; simp; omega), e1, List.take_append_of_le_length (by omega), List.take_of_length_le (by omega), List.length_singleton, List.drop_append, hk, List.drop_of_length_le (l := el) (by omega), List.nil_append, List.drop_drop]
  have h3 : (el ++ [u]).length = 35 := by simp [hk]
  rw [putsAt_list _ _ _ (by rw [putsAt_size, putsAt_size]; simp; omega), e2, List.take_append_of_le_length (by omega), List.take_of_length_le (by omega), List.length_singleton, List.drop_of_length_le (by rw [List.length_append, h3, List.length_drop]; omega)]
  simp
set_option maxRecDepth 20000 in
theorem run_buildFnd (e : Frm.Ent) (hk : e.key.length = 32) (da : Option Addr) (dn dc : Nat) (at_ n : Nat) (w : World) :
    (Instr.build 118 #[(0, .agg (entA e (.slice da dn dc))), (1, .int .i64 at_), (2, .int .i64 n)]).run Tryz.prog w = .ok (.agg (fndA ⟨e, at_, n⟩ (.slice da dn dc))) w := by
  have hz : (fndA zeroF (.slice none 0 0)).size = 36 := fndA_size _ _ rfl
  have he : (entA e (.slice da dn dc)).size = 34 := entA_size _ _ hk
  have h := run_build (P := Tryz.prog) [(0, .agg (entA e (.slice da dn dc))), (1, .int .i64 at_), (2, .int .i64 n)] plFnd zFnd (by
    intro p hp
    simp only [List.mem_cons, List.not_mem_nil, or_false] at hp
    have hzz : (Value.agg (fndA zeroF (.slice none 0 0))).cells.size = 36 := hz
    rw [hzz]
    rcases hp with rfl | rfl | rfl
    · refine ⟨0, ?_, ?_⟩
      · show some (0, 34) = some (0, (entA e (.slice da dn dc)).size); rw [he]
      · show 0 + (entA e (.slice da dn dc)).size ≤ 36; omega
    · exact ⟨34, rfl, by show 34 + 1 ≤ 36; omega⟩
    · exact ⟨35, rfl, by show 35 + 1 ≤ 36; omega⟩) w
  refine h.trans ?_
  congr 2
  apply putsAt_eq
  exact puts3f _ hz _ _ _ (show (entA e (.slice da dn dc)).toList.length = 34 by rw [Array.length_toList, he])
section
variable {w0 w : World} {L L' R : List HProp} {b : Nat} {ops : Array Oper} {rest : List Oper} {a : Act} {Q : Exit → Act → World → Prop}
variable {dst : Option Tmp} {t T ty : TypeId} {pos : String} {after : Array Edge} {x y z : Operand} {cs : Array Value} {v v1 v2 v3 : Value} {i1 i2 i3 : Nat} {P : Program}
theorem wl_build3 (h1 : a.eval x = v1) (h2 : a.eval y = v2) (h3 : a.eval z = v3) (hr : ∀ w, (Instr.build ty #[(i1, v1), (i2, v2), (i3, v3)]).run P w = .ok v w) (h : wpList P ops Q rest (a.put dst v) w) :
    wpList P ops Q (⟨dst, .build ty #[(i1, x), (i2, y), (i3, z)], t, pos, after, none⟩ :: rest) a w :=
  wpList_plain rfl fun _ hK => by
    unfold Oper.wp execOp
    simp only [List.map_toArray, List.map_cons, List.map_nil, h1, h2, h3, Sem.run_bind, hr, Result.andThen_ok, Sem.run_pure]
    exact hK _ _ h
theorem at_build3 (h : Stop (wpList P ops Q (⟨dst, .build ty #[(i1, x), (i2, y), (i3, z)], t, pos, after, none⟩ :: rest) a w)) : wpList P ops Q (⟨dst, .build ty #[(i1, x), (i2, y), (i3, z)], t, pos, after, none⟩ :: rest) a w := h.out
theorem fndA_ones (f : Frm.Fnd) (a : Option Addr) (n c : Nat) : (fndA f (.slice a n c)).toList.all (·.oneCell') = true := by
  unfold fndA fndL
  rw [List.toList_toArray, List.all_append]
  have h1 : (entL f.e (.slice a n c)).all (·.oneCell') = true := by
    have := entA_one f.e a n c
    unfold entA at this
    rwa [List.toList_toArray] at this
  rw [h1]; rfl
end
end Go.Proofs.YtlinnpehkfbnkaaGreatDoor
namespace Go.Seg
def Log.next (L : Log) : Int := match L.l.getLast? with
  | none => 0
  | some s => s.1 + 1
end Go.Seg
namespace Go.Proofs.YtlinnpehkfbnkaaGreatDoor
open Go Go.Sl Go.Med Go.MapKept Go.RowKit
section
variable {w0 w : World} {F : List HProp} {v bv dv x lv : Value} {q p m K : Nat} {L : Seg.Log} {M : Med}
theorem segw_at (l : List (Int × Int)) (i : Nat) (s : Int × Int) (h : l[i]? = some s) : (segw l)[2 * i]? = some (.int .i64 s.1) ∧ (segw l)[2 * i + 1]? = some (.int .i64 s.2) := by
  induction l generalizing i with
  | nil => simp at h
  | cons a l ih =>
    cases i with
    | zero =>
      obtain rfl : a = s := by simpa using h
      exact ⟨rfl, rfl⟩
    | succ i =>
      have e1 : segw (a :: l) = .int .i64 a.1 :: .int .i64 a.2 :: segw l := rfl
      have h' : l[i]? = some s := by simpa using h
      rw [e1, show 2 * (i + 1) = 2 * i + 1 + 1 by omega]
      exact ih i h'
end
end Go.Proofs.YtlinnpehkfbnkaaGreatDoor
namespace Go.Seg
open Go.Med
structure Plc where
  seg : Int
  at_ : Int
  size : Int
def Plc.zero : Plc := ⟨0, 0, 0⟩
def mag : Bs := [72, 79, 65, 82, 68, 83, 69, 71]
def Log.grow (L : Log) (M : Med) (b : Bs) : (Log × Med) × Plc × Int :=
  match L.l.getLast? with
  | none => ((L, M), Plc.zero, 0)
  | some s =>
    if (M.append (name s.1) b).2 = 0 then (({ L with l := L.l.dropLast ++ [(s.1, s.2 + (b.length : Int))] }, (M.append (name s.1) b).1), ⟨s.1, s.2, b.length⟩, 0)
    else ((L, (M.append (name s.1) b).1), Plc.zero, (M.append (name s.1) b).2)
def Log.shut (L : Log) (M : Med) : (Log × Med) × Int :=
  match L.l.getLast? with
  | none => ((L, M), 0)
  | some s =>
    if L.on = true then
      if (M.sync (name s.1)).2 = 0 then (({ L with on := false }, (M.sync (name s.1)).1), 0)
      else ((L, (M.sync (name s.1)).1), (M.sync (name s.1)).2)
    else ((L, M), 0)
def Log.begin1 (L : Log) (M : Med) (b : Bs) : (Log × Med) × Plc × Int :=
  if 1048576 ≤ L.next then ((L, M), Plc.zero, 16)
  else if (M.create (name L.next)).2 ≠ 0 then ((L, (M.create (name L.next)).1), Plc.zero, (M.create (name L.next)).2)
  else if ((M.create (name L.next)).1.append (name L.next) (mag ++ b)).2 = 0 then
    (({ L with l := L.l ++ [(L.next, 8 + (b.length : Int))], on := true, fresh := L.fresh + 1 }, ((M.create (name L.next)).1.append (name L.next) (mag ++ b)).1), ⟨L.next, 8, b.length⟩, 0)
  else if ((M.create (name L.next)).1.append (name L.next) (mag ++ b)).2 = 11 then
    ((L, (((M.create (name L.next)).1.append (name L.next) (mag ++ b)).1.remove (name L.next)).1), Plc.zero,
      if (((M.create (name L.next)).1.append (name L.next) (mag ++ b)).1.remove (name L.next)).2 = 0 then 11 else (((M.create (name L.next)).1.append (name L.next) (mag ++ b)).1.remove (name L.next)).2)
  else ((L, ((M.create (name L.next)).1.append (name L.next) (mag ++ b)).1), Plc.zero, ((M.create (name L.next)).1.append (name L.next) (mag ++ b)).2)
def Log.begin (L : Log) (M : Med) (b : Bs) : (Log × Med) × Plc × Int :=
  if (L.shut M).2 = 0 then (L.shut M).1.1.begin1 (L.shut M).1.2 b else ((L.shut M).1, Plc.zero, (L.shut M).2)
def Log.fits (L : Log) (n : Nat) : Bool := L.on && decide ((L.l.getLast?.map (·.2)).getD 0 + n ≤ L.limit)
def Log.append (L : Log) (M : Med) (x : Frm.Ent) : (Log × Med) × Plc × Int :=
  if (Frm.encode x).2 ≠ 0 then ((L, M), Plc.zero, (Frm.encode x).2)
  else if L.fits (Frm.encode x).1.length = true then L.grow M (Frm.encode x).1 else L.begin M (Frm.encode x).1
def comEnt : Frm.Ent := ⟨2, Frm.zero32, []⟩
def Log.commit (L : Log) (M : Med) : (Log × Med) × Int × Int :=
  if (L.append M comEnt).2.2 ≠ 0 then ((L.append M comEnt).1, 0, (L.append M comEnt).2.2)
  else if ((L.append M comEnt).1.2.sync (name (L.append M comEnt).2.1.seg)).2 ≠ 0 then (((L.append M comEnt).1.1, ((L.append M comEnt).1.2.sync (name (L.append M comEnt).2.1.seg)).1), 0, ((L.append M comEnt).1.2.sync (name (L.append M comEnt).2.1.seg)).2)
  else if (((L.append M comEnt).1.2.sync (name (L.append M comEnt).2.1.seg)).1.syncDir).2 ≠ 0 then (((L.append M comEnt).1.1, (((L.append M comEnt).1.2.sync (name (L.append M comEnt).2.1.seg)).1.syncDir).1), 0, (((L.append M comEnt).1.2.sync (name (L.append M comEnt).2.1.seg)).1.syncDir).2)
  else (({ (L.append M comEnt).1.1 with on := false, fresh := 0 }, (((L.append M comEnt).1.2.sync (name (L.append M comEnt).2.1.seg)).1.syncDir).1), (L.append M comEnt).2.1.seg, 0)
def Log.at (L : Log) (n : Int) : Option Nat := L.l.findIdx? (fun s => s.1 == n)
def Log.find (L : Log) (n : Int) : Int := match L.at n with
  | some i => i
  | none => -1
def Log.without (L : Log) (i : Nat) : Log :=
  ⟨L.limit, L.l.eraseIdx i, if i + 1 = L.l.length then false else L.on, if (L.l.length : Int) - L.fresh ≤ i then L.fresh - 1 else L.fresh⟩
def Log.remove (L : Log) (M : Med) (n : Int) : (Log × Med) × Int :=
  match L.at n with
  | none => ((L, M), 9)
  | some i => if (M.remove (name n)).2 = 0 then ((L.without i, (M.remove (name n)).1), 0) else ((L, (M.remove (name n)).1), (M.remove (name n)).2)
def Log.size (L : Log) (n : Int) : Int := match L.at n with
  | none => 0
  | some i => (L.l.getD i (0, 0)).2
def Log.bytes (L : Log) (M : Med) (n : Int) : Bs × Int := match L.at n with
  | none => ([], 9)
  | some _ => M.all (name n)
structure Log.Ok (L : Log) : Prop where
  limit : 128 ≤ L.limit ∧ L.limit ≤ 1048576
  rise : (L.l.map (·.1)).Pairwise (· < ·)
  nums : ∀ s ∈ L.l, 0 ≤ s.1 ∧ s.1 < 1048576
  sizes : ∀ s ∈ L.l, 0 ≤ s.2 ∧ s.2 ≤ 33554432
  fresh : 0 ≤ L.fresh ∧ L.fresh ≤ L.l.length
  on : L.on = true → L.l ≠ []
theorem rise_len : ∀ (l : List Int) (a : Int), l.Pairwise (· < ·) → (∀ x ∈ l, a ≤ x) → (∀ x ∈ l, x < 1048576) → a ≤ 1048576 → (l.length : Int) ≤ 1048576 - a
  | [], a, _, _, _, h => by simp; omega
  | x :: l, a, hp, h1, h2, h3 => by
    obtain ⟨hx, hp'⟩ := List.pairwise_cons.1 hp
    have e1 := h1 x (.head _)
    have e2 := h2 x (.head _)
    have := rise_len l (x + 1) hp' (fun y hy => by have := hx y hy; omega) (fun y hy => h2 y (.tail _ hy)) (by omega)
    rw [List.length_cons]; omega
theorem Log.Ok.len {L : Log} (h : L.Ok) : L.l.length ≤ 1048576 := by
  have := rise_len (L.l.map (·.1)) 0 h.rise (by intro x hx; obtain ⟨s, hs, rfl⟩ := List.mem_map.1 hx; exact (h.nums s hs).1) (by intro x hx; obtain ⟨s, hs, rfl⟩ := List.mem_map.1 hx; exact (h.nums s hs).2) (by omega)
  rw [List.length_map] at this
  omega
theorem Log.Ok.shut {L : Log} (h : L.Ok) (M : Med) : (L.shut M).1.1.Ok := by
  unfold Log.shut
  split; · exact h
  split
  · split
    · exact ⟨h.limit, h.rise, h.nums, h.sizes, h.fresh, fun hh => by cases hh⟩
    · exact h
  · exact h
theorem last_split {L : Log} {s : Int × Int} (h : L.l.getLast? = some s) : L.l = L.l.dropLast ++ [s] := by
  have hne : L.l ≠ [] := by intro e; rw [e] at h; cases h
  have h2 := List.dropLast_concat_getLast hne
  rw [List.getLast?_eq_some_getLast hne] at h
  cases h
  exact h2.symm
theorem last_len {L : Log} {s : Int × Int} (h : L.l.getLast? = some s) : L.l.length = L.l.dropLast.length + 1 := by
  have := congrArg List.length (last_split h)
  rw [List.length_append, List.length_singleton] at this
  exact this
theorem Log.Ok.next {L : Log} (h : L.Ok) : 0 ≤ L.next ∧ L.next ≤ 1048576 ∧ ∀ s ∈ L.l, s.1 < L.next := by
  unfold Log.next
  cases hl : L.l.getLast? with
  | none =>
    have := List.getLast?_eq_none_iff.1 hl
    simp [this]
  | some s =>
    have hs := h.nums s (List.mem_of_getLast? hl)
    refine ⟨by simp only; omega, by simp only; omega, ?_⟩
    have e := last_split hl
    have hr := h.rise
    rw [e, List.map_append, List.pairwise_append] at hr
    intro t ht
    rw [e] at ht
    rcases List.mem_append.1 ht with ht | ht
    · have := hr.2.2 t.1 (List.mem_map.2 ⟨t, ht, rfl⟩) s.1 (by simp)
      simp only; omega
    · rw [List.mem_singleton.1 ht]; simp only; omega
theorem Log.Ok.snoc {L : Log} (h : L.Ok) (hn : L.next < 1048576) (z : Nat) (hz : z ≤ 16777216) : ({ L with l := L.l ++ [(L.next, 8 + (z : Int))], on := true, fresh := L.fresh + 1 } : Log).Ok := by
  obtain ⟨n1, n2, n3⟩ := h.next
  have hf := h.fresh
  refine ⟨h.limit, ?_, ?_, ?_, ⟨by simp only; omega, by simp only [List.length_append, List.length_singleton]; omega⟩, fun _ => by simp⟩
  · simp only
    rw [List.map_append, List.pairwise_append]
    refine ⟨h.rise, by simp, ?_⟩
    intro a ha b hb
    obtain ⟨s, hs, rfl⟩ := List.mem_map.1 ha
    simp only [List.map_cons, List.map_nil, List.mem_singleton] at hb
    subst hb
    exact n3 s hs
  · intro s hs
    rcases List.mem_append.1 hs with hs | hs
    · exact h.nums s hs
    · rw [List.mem_singleton.1 hs]; exact ⟨n1, hn⟩
  · intro s hs
    rcases List.mem_append.1 hs with hs | hs
    · exact h.sizes s hs
    · rw [List.mem_singleton.1 hs]; exact ⟨by simp only; omega, by simp only; omega⟩
theorem Log.Ok.begin1 {L : Log} (h : L.Ok) (M : Med) (b : Bs) (hb : b.length ≤ 16777216) : (L.begin1 M b).1.1.Ok := by
  unfold Log.begin1
  split; · exact h
  rename_i hn
  split; · exact h
  split; · exact h.snoc (by omega) _ hb
  split; · exact h
  exact h
theorem Log.Ok.begin {L : Log} (h : L.Ok) (M : Med) (b : Bs) (hb : b.length ≤ 16777216) : (L.begin M b).1.1.Ok := by
  unfold Log.begin
  split
  · exact (h.shut M).begin1 _ _ hb
  · exact h.shut M
theorem Log.Ok.grow {L : Log} (h : L.Ok) (M : Med) (b : Bs) (hf : L.fits b.length = true) : (L.grow M b).1.1.Ok := by
  unfold Log.grow
  split; · exact h
  rename_i s hl
  split
  · have e := last_split hl
    have hr := h.rise
    have hlen : L.l.length = L.l.dropLast.length + 1 := last_len hl
    unfold Log.fits at hf
    rw [Bool.and_eq_true, decide_eq_true_eq, hl] at hf
    have hlim := h.limit
    refine ⟨h.limit, ?_, ?_, ?_, ?_, fun _ => by simp⟩
    · rw [e] at hr; simpa using hr
    · intro t ht
      rcases List.mem_append.1 ht with ht | ht
      · exact h.nums t (by rw [e]; exact List.mem_append_left _ ht)
      · rw [List.mem_singleton.1 ht]
        exact h.nums s (List.mem_of_getLast? hl)
    · intro t ht
      rcases List.mem_append.1 ht with ht | ht
      · exact h.sizes t (by rw [e]; exact List.mem_append_left _ ht)
      · rw [List.mem_singleton.1 ht]
        have := h.sizes s (List.mem_of_getLast? hl)
        have h2 : s.2 + (b.length : Int) ≤ L.limit := hf.2
        simp only; omega
    · have := h.fresh
      simp only [List.length_append, List.length_singleton]
      omega
  · exact h
theorem encode_len (x : Frm.Ent) (hk : x.key.length = 32) : (Frm.encode x).1.length ≤ 16425 := by
  unfold Frm.encode
  split; · simp
  rename_i hc
  have hd : x.data.length ≤ 16384 := by
    unfold Frm.check at hc
    repeat' split at hc
    all_goals first | omega | simp at hc
  unfold Frm.body
  simp only [List.length_append, Frm.le_len, List.length_singleton]
  split
  · simp; omega
  · omega
theorem Log.Ok.append {L : Log} (h : L.Ok) (M : Med) (x : Frm.Ent) (hk : x.key.length = 32) : (L.append M x).1.1.Ok := by
  have hl := encode_len x hk
  unfold Log.append
  split; · exact h
  split
  · rename_i hf; exact h.grow M _ hf
  · exact h.begin M _ (by omega)
theorem Log.Ok.without {L : Log} (h : L.Ok) (i : Nat) (hi : i < L.l.length) : (L.without i).Ok := by
  have hsub : (L.l.eraseIdx i).Sublist L.l := List.eraseIdx_sublist _ _
  have hlen : (L.l.eraseIdx i).length = L.l.length - 1 := List.length_eraseIdx_of_lt hi
  have hf := h.fresh
  refine ⟨h.limit, h.rise.sublist (hsub.map _), fun s hs => h.nums s (hsub.mem hs), fun s hs => h.sizes s (hsub.mem hs), ?_, ?_⟩
  · unfold Log.without
    simp only [hlen]
    split <;> omega
  · unfold Log.without
    simp only
    split
    · intro hh; cases hh
    · intro _ e
      have := congrArg List.length e
      rw [hlen] at this
      simp at this
      omega
theorem Log.at_lt {L : Log} {n : Int} {i : Nat} (h : L.at n = some i) : i < L.l.length ∧ ∃ s, L.l[i]? = some s ∧ s.1 = n := by
  unfold Log.at at h
  rw [List.findIdx?_eq_some_iff_getElem] at h
  obtain ⟨h1, h2, _⟩ := h
  exact ⟨h1, _, List.getElem?_eq_getElem h1, by simpa using h2⟩
theorem Log.Ok.remove {L : Log} (h : L.Ok) (M : Med) (n : Int) : (L.remove M n).1.1.Ok := by
  unfold Log.remove
  split; · exact h
  rename_i i hi
  split
  · exact h.without i (Log.at_lt hi).1
  · exact h
theorem Log.Ok.at_last {L : Log} (h : L.Ok) {s : Int × Int} (hl : L.l.getLast? = some s) : L.at s.1 = some (L.l.length - 1) := by
  have e := last_split hl
  have hlen : L.l.length = L.l.dropLast.length + 1 := last_len hl
  have hr := h.rise
  rw [e, List.map_append, List.pairwise_append] at hr
  unfold Log.at
  rw [List.findIdx?_eq_some_iff_getElem]
  refine ⟨by omega, ?_, ?_⟩
  · have : L.l[L.l.length - 1]? = some s := by rw [← List.getLast?_eq_getElem?]; exact hl
    obtain ⟨h1, h2⟩ := List.getElem?_eq_some_iff.1 this
    rw [h2]; simp
  · intro j hj
    have hj' : j < L.l.dropLast.length := by omega
    have hx : L.l[j]'(by omega) = L.l.dropLast[j] := by rw [List.getElem_dropLast]
    have h3 : (L.l.dropLast[j]).1 < s.1 := hr.2.2 (L.l.dropLast[j]).1 (List.mem_map.2 ⟨_, List.getElem_mem hj', rfl⟩) s.1 (by simp)
    rw [hx]
    rw [Bool.not_eq_true, beq_eq_false_iff_ne]
    omega
def Log.back : Nat → Log → Med → (Log × Med) × Int
  | 0, L, M => (({ L with on := false }, M), 0)
  | k + 1, L, M =>
    match L.l.getLast? with
    | none => (({ L with on := false }, M), 0)
    | some s => if (L.remove M s.1).2 = 0 then Log.back k (L.remove M s.1).1.1 (L.remove M s.1).1.2 else L.remove M s.1
def Log.rollback (L : Log) (M : Med) : (Log × Med) × Int := L.back L.fresh.toNat M
theorem Log.Ok.shutOff {L : Log} (h : L.Ok) : ({ L with on := false } : Log).Ok := ⟨h.limit, h.rise, h.nums, h.sizes, h.fresh, fun hh => by cases hh⟩
theorem Log.Ok.back : ∀ (k : Nat) {L : Log} (M : Med), L.Ok → (L.back k M).1.1.Ok
  | 0, L, M, h => h.shutOff
  | k + 1, L, M, h => by
    unfold Log.back
    split; · exact h.shutOff
    split
    · exact Log.Ok.back k _ (h.remove M _)
    · exact h.remove M _
end Go.Seg
namespace Go.Rep
open Go.Frm (Bs Fnd)
open Go.Seg (Plc)
open Go.Tab (put)
abbrev Row := Int × Fnd
def rkey (r : Row) : Bs := r.2.e.key
def rtag (r : Row) : Int := r.2.e.tag
def rplc (r : Row) : Plc := ⟨r.1, r.2.at_, r.2.size⟩
structure Abt where
  tag : Int
  place : Plc
  first : Int
def newest : List Row → Bs → Option Row
  | [], _ => none
  | r :: l, k => match newest l k with
    | some x => some x
    | none => if rtag r ≠ 2 ∧ rkey r = k then some r else none
def firstPut : List Row → Bs → Option Row
  | [], _ => none
  | r :: l, k => if rtag r = 0 ∧ rkey r = k then some r else firstPut l k
def first (l : List Row) (k : Bs) : Int := match firstPut l k with
  | some r => r.1
  | none => -1
def ledger (l : List Row) (k : Bs) : Option Abt := (newest l k).map fun r => ⟨rtag r, rplc r, first l k⟩
def first0 (m : Bs → Option Abt) (r : Row) : Int := match m (rkey r) with
  | some a => a.first
  | none => -1
def first1 (m : Bs → Option Abt) (r : Row) : Int := if rtag r = 0 ∧ first0 m r < 0 then r.1 else first0 m r
def takeOne (m : Bs → Option Abt) (r : Row) : Bs → Option Abt :=
  if rtag r = 2 then m else put m (rkey r) ⟨rtag r, rplc r, first1 m r⟩
theorem newest_snoc (l : List Row) (r : Row) (k : Bs) : newest (l ++ [r]) k = if rtag r ≠ 2 ∧ rkey r = k then some r else newest l k := by
  induction l with
  | nil => simp only [List.nil_append, newest]
  | cons x l ih =>
    simp only [List.cons_append, newest, ih]
    split
    · rename_i h; split at h
      · rename_i h2; rw [if_pos h2]; cases h; rfl
      · rename_i h2; rw [if_neg h2, h]
    · rename_i h; split at h
      · cases h
      · rename_i h2; rw [if_neg h2, h]
theorem firstPut_snoc (l : List Row) (r : Row) (k : Bs) : firstPut (l ++ [r]) k = match firstPut l k with
    | some x => some x
    | none => if rtag r = 0 ∧ rkey r = k then some r else none := by
  induction l with
  | nil => simp only [List.nil_append, firstPut]
  | cons x l ih =>
    simp only [List.cons_append, firstPut, ih]
    split
    · rename_i h; simp only
    · rfl
theorem newest_none {l : List Row} {k : Bs} (h : newest l k = none) : firstPut l k = none := by
  induction l with
  | nil => rfl
  | cons x l ih =>
    simp only [newest] at h
    split at h
    · cases h
    · rename_i h1
      split at h
      · cases h
      · rename_i h2
        simp only [firstPut]
        rw [if_neg fun h3 => h2 ⟨by rw [h3.1]; decide, h3.2⟩]
        exact ih h1
theorem firstPut_mem {l : List Row} {k : Bs} {r : Row} (h : firstPut l k = some r) : r ∈ l ∧ rtag r = 0 ∧ rkey r = k := by
  induction l with
  | nil => cases h
  | cons x l ih =>
    simp only [firstPut] at h
    split at h
    · cases h; exact ⟨.head _, by assumption⟩
    · exact ⟨.tail _ (ih h).1, (ih h).2⟩
theorem ledger_snoc (l : List Row) (r : Row) (h0 : ∀ x ∈ l, 0 ≤ x.1) : ledger (l ++ [r]) = takeOne (ledger l) r := by
  funext k
  unfold takeOne
  by_cases h2 : rtag r = 2
  · rw [if_pos h2]
    unfold ledger first
    rw [newest_snoc, if_neg (fun h => h.1 h2), firstPut_snoc]
    cases firstPut l k with
    | some x => rfl
    | none => simp only; rw [if_neg (fun h => by rw [h2] at h; exact absurd h.1 (by decide))]
  · rw [if_neg h2]
    unfold put
    by_cases hk : k = rkey r
    · subst hk
      rw [if_pos rfl]
      have e1 : ∀ k, ledger l k = (newest l k).map fun r => ⟨rtag r, rplc r, first l k⟩ := fun _ => rfl
      have e2 : ledger (l ++ [r]) (rkey r) = some ⟨rtag r, rplc r, first (l ++ [r]) (rkey r)⟩ := by
        unfold ledger
        rw [newest_snoc, if_pos ⟨h2, rfl⟩, Option.map_some]
      rw [e2]
      congr 2
      unfold first1 first0
      rw [e1]
      unfold first
      rw [firstPut_snoc]
      cases hn : newest l (rkey r) with
      | none =>
        rw [newest_none hn]
        simp only [Option.map_none]
        by_cases ht : rtag r = 0
        · rw [if_pos ⟨ht, trivial⟩, if_pos ⟨ht, by decide⟩]
        · rw [if_neg (fun h => ht h.1), if_neg (fun h => ht h.1)]
      | some x =>
        simp only [Option.map_some]
        cases hf : firstPut l (rkey r) with
        | some y =>
          simp only
          rw [if_neg (fun h => by have := h0 y (firstPut_mem hf).1; omega)]
        | none =>
          simp only
          by_cases ht : rtag r = 0
          · rw [if_pos ⟨ht, trivial⟩, if_pos ⟨ht, by decide⟩]
          · rw [if_neg (fun h => ht h.1), if_neg (fun h => ht h.1)]
    · rw [if_neg hk]
      unfold ledger first
      rw [newest_snoc, if_neg (fun h => hk h.2.symm), firstPut_snoc]
      cases firstPut l k with
      | some x => rfl
      | none => simp only; rw [if_neg (fun h => hk h.2.symm)]
def counts (a : Abt) : Bool := decide (a.tag = 0) || (decide (0 ≤ a.first) && decide (a.first < a.place.seg))
def isNew (l : List Row) (i : Nat) : Bool := match l[i]? with
  | none => false
  | some r => decide (rtag r < 2) && (l.drop (i + 1)).all fun x => !(decide (rtag x < 2) && decide (rkey x = rkey r))
def cnt (l : List Row) (i : Nat) : Bool := match l[i]? with
  | none => false
  | some r => !decide (rtag r = 2) && isNew l i && (decide (rtag r = 0) || (l.take i).any fun x => decide (rtag x = 0) && decide (rkey x = rkey r) && decide (x.1 < r.1))
structure Rows (l : List Row) : Prop where
  tag : ∀ r ∈ l, rtag r = 0 ∨ rtag r = 1 ∨ rtag r = 2
  seg : ∀ r ∈ l, 0 ≤ r.1
  rise : l.Pairwise fun a b => a.1 ≤ b.1
end Go.Rep
namespace Go.Tab
open Go.Frm (Bs)
theorem bs_tri (a b : Bs) : a < b ∨ a = b ∨ b < a := by
  by_cases h1 : a < b
  · exact .inl h1
  · rcases List.le_iff_lt_or_eq.1 (List.not_lt.1 h1) with h2 | h2
    · exact .inr (.inr h2)
    · exact .inr (.inl h2.symm)
structure Lists {V : Type} (m : Bs → Option V) (l : List (Bs × V)) : Prop where
  rise : l.Pairwise fun a b => a.1 < b.1
  mem : ∀ k v, (k, v) ∈ l ↔ m k = some v
theorem rise_ext {V : Type} : ∀ {l l' : List (Bs × V)}, l.Pairwise (fun a b => a.1 < b.1) → l'.Pairwise (fun a b => a.1 < b.1) → (∀ p, p ∈ l ↔ p ∈ l') → l = l'
  | [], [], _, _, _ => rfl
  | [], b :: l', _, _, h => by have := (h b).2 (.head _); cases this
  | a :: l, [], _, _, h => by have := (h a).1 (.head _); cases this
  | a :: l, b :: l', h1, h2, h => by
    obtain ⟨a1, a2⟩ := List.pairwise_cons.1 h1
    obtain ⟨b1, b2⟩ := List.pairwise_cons.1 h2
    have hab : a = b := by
      rcases List.mem_cons.1 ((h a).1 (.head _)) with e | h3
      · exact e
      · rcases List.mem_cons.1 ((h b).2 (.head _)) with e | h4
        · exact e.symm
        · exact absurd (List.lt_trans (b1 a h3) (a1 b h4)) (List.lt_irrefl _)
    subst hab
    congr 1
    refine rise_ext a2 b2 fun p => ?_
    have := h p
    rw [List.mem_cons, List.mem_cons] at this
    constructor
    · intro hp
      rcases this.1 (.inr hp) with e | h3
      · subst e; exact absurd (a1 p hp) (List.lt_irrefl _)
      · exact h3
    · intro hp
      rcases this.2 (.inr hp) with e | h3
      · subst e; exact absurd (b1 p hp) (List.lt_irrefl _)
      · exact h3
theorem Lists.unique {V : Type} {m : Bs → Option V} {l l' : List (Bs × V)} (h : Lists m l) (h' : Lists m l') : l = l' :=
  rise_ext h.rise h'.rise fun p => by rw [h.mem p.1 p.2, h'.mem p.1 p.2]
theorem Lists.keys {V : Type} {m : Bs → Option V} {l : List (Bs × V)} (h : Lists m l) : (l.map (·.1)).Nodup := by
  rw [List.nodup_iff_pairwise_ne, List.pairwise_map]
  exact h.rise.imp fun {a b} hab e => by rw [e] at hab; exact List.lt_irrefl _ hab
def ins {V : Type} : List (Bs × V) → Bs × V → List (Bs × V)
  | [], x => [x]
  | y :: l, x => if x.1 < y.1 then x :: y :: l else y :: ins l x
end Go.Tab
namespace Go.Rep
open Go.Frm (Bs Fnd)
open Go.Seg (Plc)
open Go.Tab
def idx (l : List Row) : Nat → List (Bs × Plc)
  | 0 => []
  | i + 1 => match l[i]? with
    | none => idx l i
    | some r => if cnt l i = true ∧ rtag r = 0 then ins (idx l i) (rkey r, rplc r) else idx l i
def live (l : List Row) (s : Int) : Nat → Int
  | 0 => 0
  | i + 1 => match l[i]? with
    | none => live l s i
    | some r => if cnt l i = true ∧ r.1 = s then live l s i + r.2.size else live l s i
def liveL (s : Int) : List (Bs × Abt) → Int
  | [] => 0
  | p :: l => (if counts p.2 = true ∧ p.2.place.seg = s then p.2.place.size else 0) + liveL s l
def puts (kv : List (Bs × Abt)) : List (Bs × Plc) := (kv.filter fun p => decide (p.2.tag = 0)).map fun p => (p.1, p.2.place)
def newKeys (l : List Row) : Nat → List Bs
  | 0 => []
  | i + 1 => match l[i]? with
    | none => newKeys l i
    | some r => if isNew l i = true then rkey r :: newKeys l i else newKeys l i
def adds (l : List Row) (s : Int) (k : Bs) : Int := match ledger l k with
  | some a => if counts a = true ∧ a.place.seg = s then a.place.size else 0
  | none => 0
end Go.Rep
namespace Go.Proofs.YtlinnpehkfbnkaaGreatDoor
open Go Go.Sl Go.Med Go.MapKept Go.RowKit
section
variable {P : Program} {w0 w : World} {L L' R : List HProp} {b : Nat} {ops : Array Oper} {rest : List Oper} {a : Act} {Q : Exit → Act → World → Prop}
variable {dst : Option Tmp} {t ty T : TypeId} {pos : String} {after : Array Edge} {x y z : Operand} {cs : Array Value} {v : Value} {o : Nat}
variable {vx vy : Value} {ad : Addr} {fl : Nat} {bo : BinOp} {uo : UnOp} {tz : TypeId} {G : World → Prop}
end
end Go.Proofs.YtlinnpehkfbnkaaGreatDoor
namespace Go.Med
def Med.which (D : Med) (s : ByteArray) : Int := match nget D.now s with
  | none => -1
  | some i => (i : Int)
end Go.Med
namespace Go.Proofs.YtlinnpehkfbnkaaGreatDoor
open Go Go.Sl Go.Med Go.MapKept Go.RowKit
def nmL (p : ByteArray × Nat) : List Value := [.string p.1, .int .i64 p.2]
def nmsL (l : Names) : List Value := l.flatMap nmL
abbrev Bag := List (Value × Names)
structure RF where
  f : Fil
  fv : Value
  nv : Value
  wv : Value
  ws : List (Chg × Value)
def rfL (x : RF) : List Value := [x.fv, x.nv, x.wv]
def rfsL (xs : List RF) : List Value := xs.flatMap rfL
def rlkL (x : Lnk) : List Value := [.string x.fr, .string x.to, .int .i64 x.f]
structure DskIn (D : Med) (fv nv : Value) (xs : List RF) (g : Bag) : Prop where
  files : xs.map (·.f) = D.files
  ok : ∀ x ∈ xs, x.ws.map (·.1) = x.f.waits
  fast : (fv, D.fast) ∈ g
  now : (nv, D.now) ∈ g
section
variable {w0 w : World} {b o : Nat} {ops : Array Oper} {rest : List Oper} {a : Act} {Q : Exit → Act → World → Prop} {dst : Option Tmp} {t ty : TypeId} {pos : String} {after : Array Edge} {x : Operand} {P : Program}
end
section
variable {w0 w : World} {F R : List HProp} {d : Nat} {D : Med} {fsv fv nv wv v : Value} {xs : List RF} {g : Bag} {K : Nat}
theorem DskIn.file (h : DskIn D fv nv xs g) {i : Nat} (hi : i < D.files.length) : ∃ x, xs[i]? = some x ∧ x.f = D.file i := by
  have hl : xs.length = D.files.length := by rw [← h.files, List.length_map]
  refine ⟨xs[i]'(by omega), List.getElem?_eq_getElem _, ?_⟩
  unfold Med.file
  rw [List.getD_eq_getElem?_getD, ← h.files, List.getElem?_map, List.getElem?_eq_getElem (by omega)]
  rfl
end
section
variable {w0 w : World} {F R : List HProp} {d : Nat} {D : Med} {fsv fv nv wv v lv : Value} {xs : List RF} {g : Bag} {K : Nat}
end
section
variable {w0 w : World} {F R : List HProp} {d : Nat} {D : Med} {fsv fv nv wv v lv : Value} {xs : List RF} {g : Bag} {K : Nat}
end
section
variable {w0 w : World} {F R : List HProp} {d : Nat} {D : Med} {fsv fv nv wv v lv : Value} {xs : List RF} {g : Bag} {K : Nat}
end
section
variable {P : Program} {w0 w : World} {L L' : List HProp} {b o : Nat} {ops : Array Oper} {a : Act} {Q : Exit → Act → World → Prop} {dst : Option Tmp} {t ty T : TypeId} {pos : String} {after : Array Edge} {x y : Operand} {cs : Array Value} {v : Value} {K : Act → World → Prop} {E : Prop}
theorem eff_store (hs : Sat w0 w L) (hx : a.eval x = .pointer (some ⟨b, o, none⟩)) (hy : a.eval y = v) {cs' : Array Value} (hcs : putsAt cs o v.cells.toList = cs') (u : Upd (pt b (.cells cs T (0,0))) (pt b (.cells cs' T (0,0))) L L') (hfit : o + v.cells.size ≤ cs.size)
    (hi : (P.info? ty).map (·.size) = some v.cells.size) (h1 : v.cells.toList.all (·.oneCell') = true)
    (hK : ∀ w', Sat w0 w' L' → K (a.put dst undef) w') :
    if Region.wanted ⟨dst, .store ty x y, t, pos, after, none⟩ (yielded ops a.tmps) = true then Oper.wp P ⟨dst, .store ty x y, t, pos, after, none⟩ a w K Q else E := by
  subst hcs
  obtain ⟨R', h2, h3⟩ := u
  refine eff_of rfl ?_
  have h := hs.perm h2
  have hth : w.there b o v.cells.size := by
    intro j hj
    refine ⟨?_, h.freeAt _⟩
    rw [h.cellAt (o + j) _ (Array.getElem?_eq_getElem (show o + j < cs.size by omega))]
    rfl
  have hst := run_storeCells_cells (P := P) b o v.cells.toList 0 w (fun j hj => by simpa using (hth j (by simpa using hj)).1) (fun j hj => by simpa using (hth j (by simpa using hj)).2)
    (fun u hu => (List.all_eq_true.1 h1) u hu)
  have hrun : (storeVar ty ⟨b, o, none⟩ v).run P w = .ok () (w.setCells b o v.cells.toList) := by
    cases hq : P.info? ty with
    | none => simp [hq] at hi
    | some i =>
      have hs : v.cells.size = i.size := by simp [hq] at hi; omega
      simp only [Nat.add_zero] at hst
      simp [storeVar, sizeOf, typeInfo, hq, hs, hst]
  unfold Oper.wp execOp
  simp only [hx, hy, Instr.storeAt, Instr.sureAddr, Sem.run_bind, Sem.run_pure, Result.andThen_ok, hrun]
  exact hK _ ((Sat.sets _ _ h).perm h3.symm)
end
section
variable {w0 w : World} {F R : List HProp} {d : Nat} {D : Med} {fsv fv nv wv v lv : Value} {xs : List RF} {g : Bag} {K : Nat}
end
section
variable {w0 w : World} {F R : List HProp} {d : Nat} {D : Med} {fsv fv nv wv v lv : Value} {xs : List RF} {g : Bag} {K : Nat}
end
def usedOf (D : Med) (l : Names) : Nat := (l.map fun p => (D.file p.2).now.length).sum
section
variable {w0 w : World} {F R : List HProp} {d : Nat} {D : Med} {fsv fv nv wv v lv : Value} {xs : List RF} {g : Bag} {K : Nat}
end
def nilV : Value := .slice none 0 0
def RF.zero : RF := ⟨Fil.new, .slice none 0 0, .slice none 0 0, .slice none 0 0, []⟩
theorem step_files (D : Med) : D.step.1.files = D.files := by unfold Med.step; split; (split <;> rfl); rfl
theorem step_now (D : Med) : D.step.1.now = D.now := by unfold Med.step; split; (split <;> rfl); rfl
theorem step_fast (D : Med) : D.step.1.fast = D.fast := by unfold Med.step; split; (split <;> rfl); rfl
section
variable {w0 w : World} {F R : List HProp} {d : Nat} {D : Med} {fsv fv nv wv v lv : Value} {xs : List RF} {g : Bag} {K : Nat}
end
end Go.Proofs.YtlinnpehkfbnkaaGreatDoor
namespace Go.Med
theorem xorAt_len (l : Bs) (i : Nat) (y : UInt8) : (xorAt l i y).length = l.length := by unfold xorAt; simp
def Alike (c d : Chg) : Prop := d.cut = c.cut ∧ d.n = c.n ∧ d.b.length = c.b.length
theorem on_len {c d : Chg} (h : Alike c d) {l l' : Bs} (hl : l'.length = l.length) : (d.on l').length = (c.on l).length := by
  obtain ⟨h1, h2, h3⟩ := h
  unfold Chg.on
  rw [h1]
  split
  · simp [h2, hl]
  · simp [h3, hl]
theorem at_len {f g : Fil} (h0 : g.fast.length = f.fast.length) (hw : g.waits.length = f.waits.length)
    (hc : ∀ (k : Nat) (c d : Chg), f.waits[k]? = some c → g.waits[k]? = some d → Alike c d) : ∀ k, k ≤ f.waits.length → (g.at k).length = (f.at k).length := by
  intro k
  induction k with
  | zero => intro _; exact h0
  | succ k ih =>
    intro hk
    have h1 : f.waits[k]? = some (f.waits[k]'(by omega)) := List.getElem?_eq_getElem _
    have h2 : g.waits[k]? = some (g.waits[k]'(by omega)) := List.getElem?_eq_getElem _
    rw [f.at_succ k _ h1, g.at_succ k _ h2]
    exact on_len (hc k _ _ h1 h2) (ih (by omega))
theorem xorAt_left {l : Bs} {i : Nat} (y : UInt8) (b : Bs) (h : i < l.length) : xorAt (l ++ b) i y = xorAt l i y ++ b := by
  unfold xorAt
  rw [List.set_append_left _ _ h, List.getD_eq_getElem?_getD, List.getElem?_append_left h, List.getD_eq_getElem?_getD]
theorem xorAt_right {l : Bs} {i : Nat} (y : UInt8) (b : Bs) (h : l.length ≤ i) : xorAt (l ++ b) i y = l ++ xorAt b (i - l.length) y := by
  unfold xorAt
  rw [List.set_append_right _ _ h, List.getD_eq_getElem?_getD, List.getElem?_append_right h, List.getD_eq_getElem?_getD]
theorem xorAt_take (l : Bs) (i n : Nat) (y : UInt8) : (xorAt l i y).take n = xorAt (l.take n) i y := by
  unfold xorAt
  rw [List.take_set]
  by_cases h : i < n
  · rw [List.getD_eq_getElem?_getD, List.getD_eq_getElem?_getD, List.getElem?_take_of_lt h]
  · rw [List.set_eq_of_length_le (by simp; omega), List.set_eq_of_length_le (by simp; omega)]
theorem on_xor (c : Chg) (l : Bs) (i : Nat) (y : UInt8) (h : c.cut = true ∨ i < l.length) : c.on (xorAt l i y) = xorAt (c.on l) i y := by
  unfold Chg.on
  cases hc : c.cut
  · simp only [Bool.false_eq_true, if_false]
    rcases h with h | h
    · rw [hc] at h; cases h
    · exact (xorAt_left y c.b h).symm
  · simp only [if_true]; exact xorAt_take l i c.n y
def Past (f : Fil) (i k n : Nat) : Prop := ∀ (j : Nat) (c : Chg), k ≤ j → j < n → f.waits[j]? = some c → c.cut = true ∨ i < (f.at j).length
theorem at_xor {f g : Fil} {i k : Nat} {y : UInt8} (h0 : g.at k = xorAt (f.at k) i y) (hw : ∀ j, k ≤ j → g.waits[j]? = f.waits[j]?) (hp : Past f i k f.waits.length) :
    ∀ j, k ≤ j → j ≤ f.waits.length → g.at j = xorAt (f.at j) i y := by
  intro j hj
  induction hj with
  | refl => intro _; exact h0
  | @step j hk ih =>
    intro hl
    have h1 : f.waits[j]? = some (f.waits[j]'(by omega)) := List.getElem?_eq_getElem _
    have h2 : g.waits[j]? = some (f.waits[j]'(by omega)) := by rw [hw j hk]; exact h1
    rw [f.at_succ j _ h1, g.at_succ j _ h2, ih (by omega)]
    exact on_xor _ _ _ _ (hp j _ hk (by omega) h1)
theorem rotWaits_spec (f : Fil) (i : Nat) (y : UInt8) : ∀ n, n ≤ f.waits.length →
    (rotWaits f i y n = none ∧ Past f i 0 n) ∨
    ∃ (k : Nat) (c : Chg), k < n ∧ f.waits[k]? = some c ∧ c.cut = false ∧ (f.at k).length ≤ i ∧ rotWaits f i y n = some (f.waits.set k { c with b := xorAt c.b (i - (f.at k).length) y }) ∧ Past f i (k + 1) n
  | 0, _ => .inl ⟨rfl, fun j c _ h => by omega⟩
  | n + 1, hn => by
    have h1 : f.waits[n]? = some (f.waits[n]'(by omega)) := List.getElem?_eq_getElem _
    generalize f.waits[n]'(by omega) = c at h1
    have step : (c.cut = true ∨ i < (f.at n).length) → rotWaits f i y (n + 1) = rotWaits f i y n := by
      intro h
      show (match f.waits[n]? with | none => _ | some c => _) = _
      rw [h1]
      simp only
      rcases h with h | h
      · rw [if_pos h]
      · split
        · rfl
        · rw [if_neg (by omega)]
    have past : ∀ k, (c.cut = true ∨ i < (f.at n).length) → Past f i k n → Past f i k (n + 1) := by
      intro k h hp j d hk hj hd
      rcases Nat.lt_or_ge j n with hlt | hge
      · exact hp j d hk hlt hd
      · obtain rfl : j = n := by omega
        rw [h1] at hd; cases hd; exact h
    by_cases h : c.cut = true ∨ i < (f.at n).length
    · rcases rotWaits_spec f i y n (by omega) with ⟨h2, h3⟩ | ⟨k, d, h2, h3, h4, h5, h6, h7⟩
      · exact .inl ⟨(step h).trans h2, past 0 h h3⟩
      · exact .inr ⟨k, d, by omega, h3, h4, h5, (step h).trans h6, past _ h h7⟩
    · have hc : c.cut = false := by cases hcc : c.cut; rfl; exact absurd (.inl hcc) h
      have hl : (f.at n).length ≤ i := Nat.le_of_not_lt fun h' => h (.inr h')
      refine .inr ⟨n, c, by omega, h1, hc, hl, ?_, fun j d hk hj => by omega⟩
      show (match f.waits[n]? with | none => _ | some c => _) = _
      rw [h1]
      simp only [hc, Bool.false_eq_true, if_false]
      rw [if_pos hl]
theorem rot_ok_of {f g : Fil} {K : Nat} (h : f.Ok K) (h0 : g.fast.length = f.fast.length) (hw : g.waits.length = f.waits.length)
    (hc : ∀ (k : Nat) (c d : Chg), f.waits[k]? = some c → g.waits[k]? = some d → Alike c d) (hn : g.now = g.at f.waits.length) : g.Ok K := by
  have hl := at_len h0 hw hc
  refine ⟨by rw [hw]; exact hn, ?_, ?_, by rw [hw]; exact h.budget⟩
  · intro k d hk hd
    have hlt : k < g.waits.length := (List.getElem?_eq_some_iff.1 hk).1
    obtain ⟨c, hcc⟩ : ∃ c, f.waits[k]? = some c := ⟨f.waits[k]'(by omega), List.getElem?_eq_getElem _⟩
    obtain ⟨a1, a2, a3⟩ := hc k c d hcc hk
    rw [hl k (by omega), a2]
    exact h.cuts k c hcc (by rw [← a1]; exact hd)
  · intro k hk
    rw [hl k (by omega)]
    exact h.size k (by omega)
theorem Fil.Ok.rot {f : Fil} {K : Nat} (h : f.Ok K) (i : Nat) (y : UInt8) : (f.rot i y).Ok K ∧ (f.rot i y).now = xorAt f.now i y := by
  rcases rotWaits_spec f i y f.waits.length (Nat.le_refl _) with ⟨h1, h2⟩ | ⟨k, c, hk, hc, hcut, hlen, h1, h2⟩
  · have e : f.rot i y = { f with now := xorAt f.now i y, fast := xorAt f.fast i y } := by unfold Fil.rot; rw [h1]
    rw [e]
    refine ⟨rot_ok_of h (xorAt_len _ _ _) rfl (fun k c d h3 h4 => ?_) ?_, rfl⟩
    · rw [h3] at h4; cases h4; exact ⟨rfl, rfl, rfl⟩
    · have := at_xor (f := f) (g := { f with now := xorAt f.now i y, fast := xorAt f.fast i y }) (i := i) (k := 0) (y := y) rfl (fun j _ => rfl) h2 f.waits.length (Nat.zero_le _) (Nat.le_refl _)
      rw [this, ← h.now]
  · have e : f.rot i y = { f with now := xorAt f.now i y, waits := f.waits.set k { c with b := xorAt c.b (i - (f.at k).length) y } } := by unfold Fil.rot; rw [h1]
    rw [e]
    have hset : (f.waits.set k { c with b := xorAt c.b (i - (f.at k).length) y })[k]? = some { c with b := xorAt c.b (i - (f.at k).length) y } := by rw [List.getElem?_set_self hk]
    refine ⟨rot_ok_of h rfl (by simp) (fun j c' d h3 h4 => ?_) ?_, rfl⟩
    · simp only at h4
      by_cases hj : k = j
      · subst hj
        rw [hset] at h4
        rw [hc] at h3
        cases h3; cases h4
        exact ⟨rfl, rfl, xorAt_len _ _ _⟩
      · rw [List.getElem?_set_ne hj, h3] at h4
        cases h4; exact ⟨rfl, rfl, rfl⟩
    · generalize hg : ({ f with now := xorAt f.now i y, waits := f.waits.set k { c with b := xorAt c.b (i - (f.at k).length) y } } : Fil) = g
      have hgw : g.waits = f.waits.set k { c with b := xorAt c.b (i - (f.at k).length) y } := by rw [← hg]
      have hgf : g.fast = f.fast := by rw [← hg]
      have hgn : g.now = xorAt f.now i y := by rw [← hg]
      have hk0 : g.at k = f.at k := by unfold Fil.at; rw [hgw, hgf, List.take_set_of_le (Nat.le_refl _)]
      have hk1 : g.at (k + 1) = xorAt (f.at (k + 1)) i y := by
        rw [g.at_succ k _ (by rw [hgw]; exact hset), hk0, f.at_succ k c hc]
        unfold Chg.on
        simp only [hcut, Bool.false_eq_true, if_false]
        rw [xorAt_right y c.b hlen]
      have := at_xor hk1 (fun j hj => by rw [hgw, List.getElem?_set_ne (by omega)]) h2 f.waits.length hk (Nat.le_refl _)
      rw [this, hgn, ← h.now]
theorem Med.Ok.rot {M : Med} {K : Nat} (h : M.Ok K) (s : ByteArray) (i : Int) (y : UInt8) : (M.rot s i y).1.Ok (K + 1) := by
  unfold Med.rot
  split
  · exact h.mono (Nat.le_succ _)
  · split
    · exact h.mono (Nat.le_succ _)
    · exact h.setFile _ _ (((h.file _).rot _ _).1.mono (Nat.le_succ _))
end Go.Med
namespace Go.Med
structure Cal where
  kind : Int
  name : ByteArray
  to : ByteArray
  n : Int
  m : Int
  b : Bs
  l : List Int
def lowByte (m : Int) : UInt8 := UInt8.ofNat (m % 256).toNat
def Med.does (M : Med) (x : Cal) : Med × (Bs × Int × Bool) :=
  if x.kind = 0 then ((M.create x.name).1, [], (M.create x.name).2, false)
  else if x.kind = 1 then ((M.append x.name x.b).1, [], (M.append x.name x.b).2, false)
  else if x.kind = 2 then ((M.truncate x.name x.n).1, [], (M.truncate x.name x.n).2, false)
  else if x.kind = 3 then ((M.rename x.name x.to).1, [], (M.rename x.name x.to).2, false)
  else if x.kind = 4 then ((M.remove x.name).1, [], (M.remove x.name).2, false)
  else if x.kind = 5 then ((M.sync x.name).1, [], (M.sync x.name).2, false)
  else if x.kind = 6 then (M.syncDir.1, [], M.syncDir.2, false)
  else if x.kind = 7 then ((M.arm x.n).1, [], (M.arm x.n).2, false)
  else if x.kind = 8 then (M.crash x.l, [], 0, false)
  else if x.kind = 9 then ((M.setRoom x.n).1, [], (M.setRoom x.n).2, false)
  else if x.kind = 10 then ((M.rot x.name x.n (lowByte x.m)).1, [], 0, (M.rot x.name x.n (lowByte x.m)).2)
  else (M, (M.read x.name x.n x.m).1, (M.read x.name x.n x.m).2, false)
theorem Med.does_ind {P : Med × Bs × Int × Bool → Prop} {M : Med} {x : Cal}
    (h0 : x.kind = 0 → P ((M.create x.name).1, [], (M.create x.name).2, false))
    (h1 : x.kind = 1 → P ((M.append x.name x.b).1, [], (M.append x.name x.b).2, false))
    (h2 : x.kind = 2 → P ((M.truncate x.name x.n).1, [], (M.truncate x.name x.n).2, false))
    (h3 : x.kind = 3 → P ((M.rename x.name x.to).1, [], (M.rename x.name x.to).2, false))
    (h4 : x.kind = 4 → P ((M.remove x.name).1, [], (M.remove x.name).2, false))
    (h5 : x.kind = 5 → P ((M.sync x.name).1, [], (M.sync x.name).2, false))
    (h6 : x.kind = 6 → P (M.syncDir.1, [], M.syncDir.2, false))
    (h7 : x.kind = 7 → P ((M.arm x.n).1, [], (M.arm x.n).2, false))
    (h8 : x.kind = 8 → P (M.crash x.l, [], 0, false))
    (h9 : x.kind = 9 → P ((M.setRoom x.n).1, [], (M.setRoom x.n).2, false))
    (h10 : x.kind = 10 → P ((M.rot x.name x.n (lowByte x.m)).1, [], 0, (M.rot x.name x.n (lowByte x.m)).2))
    (hz : x.kind ≠ 0 ∧ x.kind ≠ 1 ∧ x.kind ≠ 2 ∧ x.kind ≠ 3 ∧ x.kind ≠ 4 ∧ x.kind ≠ 5 ∧ x.kind ≠ 6 ∧ x.kind ≠ 7 ∧ x.kind ≠ 8 ∧ x.kind ≠ 9 ∧ x.kind ≠ 10 → P (M, (M.read x.name x.n x.m).1, (M.read x.name x.n x.m).2, false)) : P (M.does x) := by
  unfold Med.does
  by_cases c0 : x.kind = 0; · rw [if_pos c0]; exact h0 c0
  rw [if_neg c0]
  by_cases c1 : x.kind = 1; · rw [if_pos c1]; exact h1 c1
  rw [if_neg c1]
  by_cases c2 : x.kind = 2; · rw [if_pos c2]; exact h2 c2
  rw [if_neg c2]
  by_cases c3 : x.kind = 3; · rw [if_pos c3]; exact h3 c3
  rw [if_neg c3]
  by_cases c4 : x.kind = 4; · rw [if_pos c4]; exact h4 c4
  rw [if_neg c4]
  by_cases c5 : x.kind = 5; · rw [if_pos c5]; exact h5 c5
  rw [if_neg c5]
  by_cases c6 : x.kind = 6; · rw [if_pos c6]; exact h6 c6
  rw [if_neg c6]
  by_cases c7 : x.kind = 7; · rw [if_pos c7]; exact h7 c7
  rw [if_neg c7]
  by_cases c8 : x.kind = 8; · rw [if_pos c8]; exact h8 c8
  rw [if_neg c8]
  by_cases c9 : x.kind = 9; · rw [if_pos c9]; exact h9 c9
  rw [if_neg c9]
  by_cases c10 : x.kind = 10; · rw [if_pos c10]; exact h10 c10
  rw [if_neg c10]
  exact hz ⟨c0, c1, c2, c3, c4, c5, c6, c7, c8, c9, c10⟩
theorem Med.Ok.does {K : Nat} {M : Med} (h : M.Ok K) (x : Cal) (hn : x.n ≤ 9223372036854775807) : (M.does x).1.Ok (K + 1) := by
  have h' := h.mono (Nat.le_succ K)
  refine Med.does_ind (P := fun r => r.1.Ok (K + 1)) ?_ ?_ ?_ ?_ ?_ ?_ ?_ ?_ ?_ ?_ ?_ ?_
  · exact fun _ => h.create _
  · exact fun _ => h.append _ _
  · exact fun _ => h.truncate _ _
  · exact fun _ => h.rename _ _
  · exact fun _ => h.remove _
  · exact fun _ => h.sync _
  · exact fun _ => h.syncDir.mono (Nat.le_succ K)
  · exact fun _ => (h.arm _ hn).mono (Nat.le_succ K)
  · exact fun _ => (h.crash _).mono (Nat.le_succ K)
  · exact fun _ => (h.setRoom _).mono (Nat.le_succ K)
  · exact fun _ => h.rot _ _ _
  · exact fun _ => h'
structure Quiet (M : Med) : Prop where
  armed : M.armed = false
  off : M.off = false
  left : M.left = 0
theorem Quiet.new (r : Nat) : Quiet (new r) := ⟨rfl, rfl, rfl⟩
theorem Quiet.step {M : Med} (h : Quiet M) : M.step = (M, true) := by simp [Med.step, h.armed]
theorem Quiet.link {M : Med} (h : Quiet M) (x : Lnk) : Quiet (M.link x) := ⟨h.armed, h.off, h.left⟩
theorem Quiet.setFile {M : Med} (h : Quiet M) (i : Nat) (f : Fil) : Quiet (M.setFile i f) := ⟨h.armed, h.off, h.left⟩
theorem Quiet.crash (M : Med) (l : List Int) : Quiet (M.crash l) := ⟨rfl, rfl, rfl⟩
theorem Quiet.create {M : Med} (h : Quiet M) (s : ByteArray) : Quiet (M.create s).1 := by
  unfold Med.create
  rw [h.step]
  split; · exact h
  split; · exact h
  split; · exact h
  split; · exact h
  split; · exact h
  exact ⟨h.armed, h.off, h.left⟩
theorem Quiet.append {M : Med} (h : Quiet M) (s : ByteArray) (b : Bs) : Quiet (M.append s b).1 := by
  unfold Med.append
  rw [h.step]
  split; · exact h
  split; · exact h
  split; · exact h
  split; · exact h
  exact h.setFile _ _
theorem Quiet.truncate {M : Med} (h : Quiet M) (s : ByteArray) (n : Int) : Quiet (M.truncate s n).1 := by
  unfold Med.truncate
  rw [h.step]
  split; · exact h
  split; · exact h
  split; · exact h
  split; · exact h
  exact h.setFile _ _
theorem Quiet.rename {M : Med} (h : Quiet M) (s t : ByteArray) : Quiet (M.rename s t).1 := by
  unfold Med.rename
  rw [h.step]
  split; · exact h
  split; · exact h
  split; · exact h
  split; · exact h
  exact h.link _
theorem Quiet.remove {M : Med} (h : Quiet M) (s : ByteArray) : Quiet (M.remove s).1 := by
  unfold Med.remove
  rw [h.step]
  split; · exact h
  split; · exact h
  split; · exact h
  exact h.link _
theorem Quiet.sync {M : Med} (h : Quiet M) (s : ByteArray) : Quiet (M.sync s).1 := by
  unfold Med.sync
  rw [h.step]
  split; · exact h
  split; · exact h
  split; · exact h
  exact h.setFile _ _
theorem Quiet.syncDir {M : Med} (h : Quiet M) : Quiet M.syncDir.1 := by
  unfold Med.syncDir
  rw [h.step]
  split; · exact h
  split; · exact h
  exact ⟨h.armed, h.off, h.left⟩
theorem Quiet.setRoom {M : Med} (h : Quiet M) (n : Int) : Quiet (M.setRoom n).1 := by
  unfold Med.setRoom
  split; · exact h
  split; · exact h
  exact ⟨h.armed, h.off, h.left⟩
theorem Quiet.rot {M : Med} (h : Quiet M) (s : ByteArray) (i : Int) (y : UInt8) : Quiet (M.rot s i y).1 := by
  unfold Med.rot
  split; · exact h
  split; · exact h
  exact h.setFile _ _
theorem Quiet.does {M : Med} (h : Quiet M) (x : Cal) (hk : x.kind ≠ 7) : Quiet (M.does x).1 := by
  refine Med.does_ind (P := fun r => Quiet r.1) ?_ ?_ ?_ ?_ ?_ ?_ ?_ ?_ ?_ ?_ ?_ ?_
  · exact fun _ => h.create _
  · exact fun _ => h.append _ _
  · exact fun _ => h.truncate _ _
  · exact fun _ => h.rename _ _
  · exact fun _ => h.remove _
  · exact fun _ => h.sync _
  · exact fun _ => h.syncDir
  · exact fun h7 => absurd h7 hk
  · exact fun _ => .crash _ _
  · exact fun _ => h.setRoom _
  · exact fun _ => h.rot _ _ _
  · exact fun _ => h
def Med.plays : Med → List Cal → Med
  | M, [] => M
  | M, x :: l => Med.plays (if x.kind = 7 then M else (M.does x).1) l
def FFlat (f : Fil) : Prop := f.now = f.fast ∧ f.waits = []
theorem FFlat.crash {f : Fil} (h : FFlat f) (a b : Int) : f.crash a b = f := by
  obtain ⟨fast, now, waits⟩ := f
  obtain ⟨h1, h2⟩ := h
  simp only at h1 h2
  subst h1; subst h2
  simp [Fil.crash, Fil.left, Fil.at]
theorem crashFiles_flat (l : List Int) : ∀ (ns : Names) (j : Nat) (fs : List Fil), (∀ p ∈ ns, p.2 < fs.length ∧ FFlat (fs.getD p.2 Fil.new)) → crashFiles l ns j fs = fs
  | [], _, _, _ => rfl
  | p :: ns, j, fs, h => by
    obtain ⟨h1, h2⟩ := h p (.head _)
    have e : fs.set p.2 ((fs.getD p.2 Fil.new).crash (num l j) (num l (j + 1))) = fs := by
      rw [h2.crash]
      rw [List.getD_eq_getElem?_getD, List.getElem?_eq_getElem h1]
      exact List.set_getElem_self h1
    unfold crashFiles
    rw [e]
    exact crashFiles_flat l ns _ fs fun q hq => h q (.tail _ hq)
structure Flat (M : Med) : Prop where
  quiet : Quiet M
  fast : M.fast = M.now
  waits : M.waits = []
  files : ∀ p ∈ M.now, FFlat (M.file p.2)
theorem Flat.crash {M : Med} {K : Nat} (h : Flat M) (ok : M.Ok K) (l : List Int) : M.crash l = M := by
  obtain ⟨⟨q1, q2, q3⟩, h2, h3, h4⟩ := h
  have hid := ok.nowOk.ids
  obtain ⟨room, fast, now, files, waits, armed, left, off⟩ := M
  simp only at q1 q2 q3 h2 h3
  subst q1; subst q2; subst q3; subst h2; subst h3
  have e := crashFiles_flat l fast 1 files (fun p hp => ⟨hid p hp, h4 p hp⟩)
  simp only [Med.crash, Med.lastNames, List.take_nil, List.foldl_nil, e]
def Med.syncs : Med → List ByteArray → Med
  | M, [] => M
  | M, s :: l => Med.syncs (M.sync s).1 l
theorem Quiet.sync_eq {M : Med} (h : Quiet M) {s : ByteArray} {i : Nat} (hs : nget M.now s = some i) : M.sync s = (M.setFile i (M.file i).sync, 0) := by
  unfold Med.sync
  rw [h.step, h.off, hs]
  rfl
structure Synced (M M' : Med) : Prop where
  room : M'.room = M.room
  fast : M'.fast = M.fast
  now : M'.now = M.now
  waits : M'.waits = M.waits
  quiet : Quiet M'
  bytes : ∀ i, (M'.file i).now = (M.file i).now
  len : M'.files.length = M.files.length
theorem file_set {M : Med} {i : Nat} {f : Fil} (hi : i < M.files.length) (j : Nat) : (M.setFile i f).file j = if j = i then f else M.file j := by
  unfold Med.setFile Med.file
  simp only [List.getD_eq_getElem?_getD]
  split
  · rename_i h; subst h; rw [List.getElem?_set_self hi]; rfl
  · rename_i h; rw [List.getElem?_set_ne (Ne.symm h)]
theorem Synced.start {M : Med} (h : Quiet M) : Synced M M := ⟨rfl, rfl, rfl, rfl, h, fun _ => rfl, rfl⟩
theorem Synced.next {M M' : Med} (h : Synced M M') {s : ByteArray} {i : Nat} (hs : nget M.now s = some i) (hi : i < M.files.length) (done : List Nat) (hd : ∀ j ∈ done, FFlat (M'.file j)) :
    (M'.sync s).2 = 0 ∧ Synced M (M'.sync s).1 ∧ ∀ j ∈ done ++ [i], FFlat ((M'.sync s).1.file j) := by
  have e := h.quiet.sync_eq (s := s) (i := i) (by rw [h.now]; exact hs)
  have hi' : i < M'.files.length := by rw [h.len]; exact hi
  rw [e]
  refine ⟨rfl, ⟨h.room, h.fast, h.now, h.waits, h.quiet.setFile _ _, fun j => ?_, by simp [Med.setFile, h.len]⟩, fun j hj => ?_⟩
  · simp only
    rw [file_set hi']
    split
    · rename_i hh; subst hh; exact h.bytes j
    · exact h.bytes j
  · simp only
    rw [file_set hi']
    split
    · exact ⟨rfl, rfl⟩
    · rename_i hne
      rcases List.mem_append.1 hj with hj | hj
      · exact hd j hj
      · exact absurd (List.mem_singleton.1 hj) hne
theorem Synced.all {M M' : Med} (hq : Quiet M) (h : Synced M M') (s : ByteArray) : M'.all s = M.all s := by
  unfold Med.all
  rw [h.now, h.quiet.off, hq.off]
  cases hn : nget M.now s with
  | none => rfl
  | some i => simp only [Bool.false_eq_true, if_false, h.bytes]
theorem Quiet.syncDir_eq {M : Med} (h : Quiet M) : M.syncDir = ({ M with fast := M.now, waits := [] }, 0) := by
  unfold Med.syncDir
  rw [h.step, if_neg (by rw [h.off]; exact Bool.false_ne_true)]
  simp
theorem Quiet.list {M : Med} (h : Quiet M) : M.list = M.now.map (·.1) := by unfold Med.list; rw [h.off]; rfl
theorem Synced.flat {M M' : Med} (hq : Quiet M) (h : Synced M M') (hf : ∀ j ∈ M.now.map (·.2), FFlat (M'.file j)) :
    M'.syncDir.2 = 0 ∧ Flat M'.syncDir.1 ∧ M'.syncDir.1.list = M.list ∧ ∀ s, M'.syncDir.1.all s = M.all s := by
  rw [h.quiet.syncDir_eq]
  refine ⟨rfl, ⟨⟨h.quiet.armed, h.quiet.off, h.quiet.left⟩, rfl, rfl, fun p hp => ?_⟩, ?_, fun s => ?_⟩
  · have hp' : p ∈ M.now := by simp only at hp; rw [h.now] at hp; exact hp
    exact hf _ (List.mem_map.2 ⟨p, hp', rfl⟩)
  · rw [hq.list, ← h.now]
    simp only [Med.list, h.quiet.off]
    rfl
  · rw [← h.all hq]
    rfl

def Moms (M : Med) (l : List (List ByteArray)) : Prop := ∀ k, k ≤ M.waits.length → (M.lastNames k).map (·.1) ∈ l
theorem Moms.start {M : Med} {K : Nat} (ok : M.Ok K) (hw : M.waits = []) (hq : Quiet M) : Moms M [M.list] := by
  intro k hk
  rw [hw] at hk
  have hn := ok.now
  rw [hw] at hn
  obtain rfl : k = 0 := by simpa using hk
  rw [hq.list, hn]
  exact .head _
def Ext (M M' : Med) : Prop := M'.fast = M.fast ∧ (M'.waits = M.waits ∨ ∃ y, M'.waits = M.waits ++ [y])
theorem Ext.same {M M' : Med} (h1 : M'.fast = M.fast) (h2 : M'.waits = M.waits) : Ext M M' := ⟨h1, .inl h2⟩
theorem Moms.next {M M' : Med} {K : Nat} {l : List (List ByteArray)} (h : Moms M l) (e : Ext M M') (ok : M'.Ok K) (hq : Quiet M') : Moms M' (l ++ [M'.list]) := by
  intro k hk
  obtain ⟨e1, e2⟩ := e
  have old : k ≤ M.waits.length → (M'.lastNames k).map (·.1) ∈ l ++ [M'.list] := fun hk' => by
    have : M'.lastNames k = M.lastNames k := by
      unfold Med.lastNames
      rw [e1]
      rcases e2 with e2 | ⟨y, e2⟩
      · rw [e2]
      · rw [e2, List.take_append_of_le_length hk']
    rw [this]
    exact List.mem_append_left _ (h k hk')
  rcases Nat.lt_or_ge M.waits.length k with hgt | hle
  · rcases e2 with e2 | ⟨y, e2⟩
    · rw [e2] at hk; exact old hk
    · have : k = M'.waits.length := by rw [e2] at hk ⊢; simp at hk ⊢; omega
      rw [this, ← ok.now, hq.list]
      exact List.mem_append_right _ (.head _)
  · exact old hle
theorem Ext.does {M : Med} (h : Quiet M) (x : Cal) (h0 : 0 ≤ x.kind) (h5 : x.kind ≤ 5) : Ext M (M.does x).1 := by
  have r : Ext M M := .same rfl rfl
  refine Med.does_ind (P := fun q => Ext M q.1) ?_ ?_ ?_ ?_ ?_ ?_ ?_ ?_ ?_ ?_ ?_ ?_
  · intro _
    show Ext M (M.create x.name).1
    unfold Med.create
    rw [h.step]
    split; · exact r
    split; · exact r
    split; · exact r
    split; · exact r
    exact ⟨rfl, .inr ⟨_, rfl⟩⟩
  · intro _
    show Ext M (M.append x.name x.b).1
    unfold Med.append
    rw [h.step]
    split; · exact r
    split; · exact r
    split; · exact r
    exact .same rfl rfl
  · intro _
    show Ext M (M.truncate x.name x.n).1
    unfold Med.truncate
    rw [h.step]
    split; · exact r
    split; · exact r
    split; · exact r
    exact .same rfl rfl
  · intro _
    show Ext M (M.rename x.name x.to).1
    unfold Med.rename
    rw [h.step]
    split; · exact r
    split; · exact r
    split; · exact r
    exact ⟨rfl, .inr ⟨_, rfl⟩⟩
  · intro _
    show Ext M (M.remove x.name).1
    unfold Med.remove
    rw [h.step]
    split; · exact r
    split; · exact r
    exact ⟨rfl, .inr ⟨_, rfl⟩⟩
  · intro _
    show Ext M (M.sync x.name).1
    unfold Med.sync
    rw [h.step]
    split; · exact r
    split; · exact r
    exact .same rfl rfl
  all_goals (intro hk; exfalso; omega)
theorem Moms.does {M : Med} {K : Nat} {l : List (List ByteArray)} (h : Moms M l) (ok : M.Ok K) (hq : Quiet M) (x : Cal) (hn : x.n ≤ 9223372036854775807) (h0 : 0 ≤ x.kind) (h6 : x.kind ≤ 6) :
    Moms (M.does x).1 ((if x.kind = 6 then [] else l) ++ [(M.does x).1.list]) := by
  have ok' := ok.does x hn
  have hq' := hq.does x (by omega)
  split
  · rename_i h
    have e : (M.does x).1 = M.syncDir.1 := by unfold Med.does; simp [h]
    refine Moms.start ok' ?_ hq'
    rw [e, hq.syncDir_eq]
  · exact h.next (Ext.does hq x h0 (by omega)) ok' hq'
theorem Moms.crash {M : Med} {l : List (List ByteArray)} (h : Moms M l) (n : List Int) : (M.crash n).list ∈ l := h _ (clampN_le _ _)

structure Armed (n : Nat) (M : Med) : Prop where
  armed : M.armed = true
  off : M.off = false
  left : M.left = n
theorem Armed.syncDir {M : Med} {n : Nat} (h : Armed (n + 1) M) : M.syncDir.2 = 0 ∧ Armed n M.syncDir.1 ∧ M.syncDir.1.now = M.now := by
  unfold Med.syncDir Med.step
  simp [h.armed, h.off, h.left]
  exact ⟨rfl, rfl, rfl⟩
theorem Armed.last {M : Med} (h : Armed 0 M) : M.syncDir.2 = 12 ∧ M.syncDir.1.off = true ∧ M.syncDir.1.now = M.now := by
  unfold Med.syncDir Med.step
  simp [h.armed, h.off, h.left]
def Dst (M : Med) : Prop := (M.now.map (·.2)).Nodup
theorem used_split {M : Med} (hs : Srt M.now) (hd : Dst M) {s : ByteArray} {i : Nat} (h : nget M.now s = some i) :
    (∀ p ∈ ndel M.now s, p.2 ≠ i) ∧ ∀ g : Nat → Nat, (M.now.map fun p => g p.2).sum = g i + ((ndel M.now s).map fun p => g p.2).sum := by
  have hp := ndel_perm hs.keys (nget_mem h)
  constructor
  · have hd' : (M.now.map fun p : ByteArray × Nat => p.2).Nodup := hd
    have := (hp.map (fun p : ByteArray × Nat => p.2)).nodup_iff.1 hd'
    simp only [List.map_cons, List.nodup_cons] at this
    intro p hp e
    exact this.1 (List.mem_map.2 ⟨p, hp, e⟩)
  · intro g
    have := (hp.map fun p => g p.2).sum_nat
    simpa using this
theorem sum_congr {l : Names} {g h : Nat → Nat} (e : ∀ p ∈ l, g p.2 = h p.2) : (l.map fun p => g p.2).sum = (l.map fun p => h p.2).sum := by
  rw [List.map_congr_left e]
theorem used_set {M : Med} {K : Nat} (ok : M.Ok K) (hd : Dst M) {s : ByteArray} {i : Nat} (h : nget M.now s = some i) (f : Fil) :
    (M.setFile i f).used + (M.file i).now.length = M.used + f.now.length := by
  obtain ⟨h1, h2⟩ := used_split ok.nowOk.srt hd h
  have hi : i < M.files.length := ok.nowOk.ids _ (nget_mem h)
  have e1 := h2 fun j => (M.file j).now.length
  have e2 := h2 fun j => ((M.setFile i f).file j).now.length
  have e3 : ((ndel M.now s).map fun p => ((M.setFile i f).file p.2).now.length).sum = ((ndel M.now s).map fun p => (M.file p.2).now.length).sum :=
    sum_congr (g := fun j => ((M.setFile i f).file j).now.length) (h := fun j => (M.file j).now.length) fun p hp => by rw [file_set hi, if_neg (h1 p hp)]
  have e4 : (M.setFile i f).file i = f := by rw [file_set hi, if_pos rfl]
  simp only [e4, e3] at e2
  show (M.now.map fun p => ((M.setFile i f).file p.2).now.length).sum + _ = (M.now.map fun p => (M.file p.2).now.length).sum + _
  rw [e1, e2]
  omega
theorem sum_del_le (l : Names) (s : ByteArray) (g : Nat → Nat) : ((ndel l s).map fun p => g p.2).sum ≤ (l.map fun p => g p.2).sum := by
  induction l with
  | nil => exact Nat.le_refl _
  | cons p l ih =>
    unfold ndel at ih ⊢
    rw [List.filter_cons]
    split
    · simp only [List.map_cons, List.sum_cons]; omega
    · simp only [List.map_cons, List.sum_cons]; omega
theorem sum_put (l : Names) (s : ByteArray) (i : Nat) (g : Nat → Nat) : ((nput l s i).map fun p => g p.2).sum = g i + ((ndel l s).map fun p => g p.2).sum := by
  have := ((nput_perm l s i).map fun p => g p.2).sum_nat
  simpa using this
theorem nodup_put {l : Names} {s : ByteArray} {i : Nat} (h : (l.map (·.2)).Nodup) (hi : ∀ p ∈ l, p.2 ≠ i) : ((nput l s i).map (·.2)).Nodup := by
  refine ((nput_perm l s i).map (·.2)).nodup_iff.2 ?_
  simp only [List.map_cons, List.nodup_cons]
  refine ⟨fun hm => ?_, h.sublist (List.filter_sublist.map _)⟩
  obtain ⟨p, hp, e⟩ := List.mem_map.1 hm
  exact hi p (List.mem_filter.1 hp).1 e
structure Fits (M M' : Med) : Prop where
  room : M'.room = M.room
  dst : Dst M'
  used : M'.used ≤ M'.room
theorem step_alike (M : Med) : M.step.1.room = M.room ∧ M.step.1.now = M.now ∧ M.step.1.files = M.files := ⟨M.step_same.1, M.step_same.2.2.1, M.step_same.2.2.2.1⟩
theorem Fits.self {M : Med} (hd : Dst M) (hu : M.used ≤ M.room) : Fits M M := ⟨rfl, hd, hu⟩
theorem used_of {M M' : Med} (h1 : M'.now = M.now) (h2 : M'.files = M.files) : M'.used = M.used := by unfold Med.used Med.file; rw [h1, h2]
theorem Fits.alike {M M' : Med} (hd : Dst M) (hu : M.used ≤ M.room) (hr : M'.room = M.room) (h1 : M'.now = M.now) (h2 : M'.files = M.files) : Fits M M' :=
  ⟨hr, by unfold Dst; rw [h1]; exact hd, by rw [used_of h1 h2, hr]; exact hu⟩
theorem Fits.set {M M' : Med} {K : Nat} (ok : M.Ok K) (hd : Dst M) (hu : M.used ≤ M.room) (hr : M'.room = M.room) (h1 : M'.now = M.now) (h2 : M'.files = M.files) {s : ByteArray} {i : Nat} (h : nget M.now s = some i) (f : Fil)
    (hf : M.used + f.now.length ≤ M.room + (M.file i).now.length) : Fits M (M'.setFile i f) := by
  have e : (M'.setFile i f).used = (M.setFile i f).used := used_of (by exact h1) (by show M'.files.set i f = M.files.set i f; rw [h2])
  have := used_set ok hd h f
  refine ⟨hr, by show (M'.now.map (·.2)).Nodup; rw [h1]; exact hd, ?_⟩
  rw [e]
  show _ ≤ M'.room
  rw [hr]
  omega
theorem Fits.does {M : Med} {K : Nat} (ok : M.Ok K) (hd : Dst M) (hu : M.used ≤ M.room) (x : Cal) (h8 : x.kind ≠ 8) (h9 : x.kind ≠ 9) :
    Fits M (M.does x).1 ∧ ((M.does x).2.2.1 = 11 → x.kind = 1 ∧ M.room < M.usedTold + x.b.length) := by
  have r := Fits.self hd hu
  obtain ⟨s1, s2, s3⟩ := step_alike M
  have rs : Fits M M.step.1 := Fits.alike hd hu s1 s2 s3
  refine Med.does_ind (P := fun q => Fits M q.1 ∧ (q.2.2.1 = 11 → x.kind = 1 ∧ M.room < M.usedTold + x.b.length)) ?_ ?_ ?_ ?_ ?_ ?_ ?_ ?_ ?_ ?_ ?_ ?_
  · intro _
    show Fits M (M.create x.name).1 ∧ ((M.create x.name).2 = 11 → _)
    unfold Med.create
    split; · exact ⟨r, by simp⟩
    split; · exact ⟨r, by simp⟩
    rename_i hg
    split; · exact ⟨r, by simp⟩
    rename_i hn
    split; · exact ⟨r, by simp⟩
    split; · exact ⟨rs, by simp⟩
    refine ⟨?_, by simp⟩
    have hnn : nget M.now x.name = none := by simpa using hn
    have hlt := ok.nowOk.ids
    have hne : x.name ≠ ByteArray.empty := good_ne (by simpa using hg)
    have enow : (({ M.step.1 with files := M.files ++ [Fil.new] } : Med).link ⟨ByteArray.empty, x.name, M.files.length⟩).now = nput M.now x.name M.files.length := by
      show Lnk.on _ M.step.1.now = _
      rw [s2]
      unfold Lnk.on
      simp only [if_true, if_neg hne]
    have hdel := ndel_none hnn
    refine ⟨s1, ?_, ?_⟩
    · unfold Dst
      rw [enow]
      exact nodup_put hd fun p hp e => by have := hlt p hp; omega
    · have : (({ M.step.1 with files := M.files ++ [Fil.new] } : Med).link ⟨ByteArray.empty, x.name, M.files.length⟩).used = M.used := by
        show ((Med.now _).map fun p => (Med.file _ p.2).now.length).sum = _
        rw [enow, sum_put _ _ _ (fun j => (Med.file _ j).now.length), hdel]
        have e0 : ((({ M.step.1 with files := M.files ++ [Fil.new] } : Med).link ⟨ByteArray.empty, x.name, M.files.length⟩).file M.files.length).now.length = 0 := by
          simp [Med.file, Med.link, Fil.new]
        rw [e0, Nat.zero_add]
        refine sum_congr (g := fun j => (Med.file _ j).now.length) (h := fun j => (M.file j).now.length) fun p hp => ?_
        have := hlt p hp
        simp only [Med.file, Med.link, List.getD_eq_getElem?_getD]
        rw [List.getElem?_append_left this]
      rw [this]
      show _ ≤ M.step.1.room
      rw [s1]; exact hu
  · intro hk1
    show Fits M (M.append x.name x.b).1 ∧ ((M.append x.name x.b).2 = 11 → _)
    unfold Med.append
    split; · exact ⟨r, by simp⟩
    rename_i hoff
    split; · exact ⟨r, by simp⟩
    rename_i i hi
    split
    · rename_i hfull
      refine ⟨r, fun _ => ⟨hk1, ?_⟩⟩
      have : M.usedTold = M.used := by unfold Med.usedTold; rw [if_neg hoff]
      rw [this]; omega
    rename_i hfull
    split; · exact ⟨rs, by simp⟩
    refine ⟨Fits.set ok hd hu s1 s2 s3 hi _ ?_, by simp⟩
    simp only [Fil.do, Chg.on, Bool.false_eq_true, if_false, List.length_append]
    omega
  · intro _
    show Fits M (M.truncate x.name x.n).1 ∧ ((M.truncate x.name x.n).2 = 11 → _)
    unfold Med.truncate
    split; · exact ⟨r, by simp⟩
    split; · exact ⟨r, by simp⟩
    rename_i i hi
    split; · exact ⟨r, by simp⟩
    split; · exact ⟨rs, by simp⟩
    refine ⟨Fits.set ok hd hu s1 s2 s3 hi _ ?_, by simp⟩
    simp only [Fil.do, Chg.on, if_true, List.length_take]
    omega
  · intro _
    show Fits M (M.rename x.name x.to).1 ∧ ((M.rename x.name x.to).2 = 11 → _)
    unfold Med.rename
    split; · exact ⟨r, by simp⟩
    split; · exact ⟨r, by simp⟩
    rename_i i hi
    split; · exact ⟨r, by simp⟩
    rename_i hg
    split; · exact ⟨rs, by simp⟩
    refine ⟨?_, by simp⟩
    have hne : x.to ≠ ByteArray.empty := good_ne (by simpa using hg)
    have hs : x.name ≠ ByteArray.empty := ok.nowOk.ne _ (nget_mem hi)
    obtain ⟨h1, h2⟩ := used_split ok.nowOk.srt hd hi
    have enow : (M.step.1.link ⟨x.name, x.to, i⟩).now = nput (ndel M.now x.name) x.to i := by
      show Lnk.on _ M.step.1.now = _
      rw [s2]
      unfold Lnk.on
      simp only [if_neg hs, if_neg hne]
    refine ⟨s1, ?_, ?_⟩
    · unfold Dst
      rw [enow]
      exact nodup_put (hd.sublist (List.filter_sublist.map _)) h1
    · have e1 := h2 fun j => (M.file j).now.length
      have e2 := sum_del_le (ndel M.now x.name) x.to fun j => (M.file j).now.length
      have : (M.step.1.link ⟨x.name, x.to, i⟩).used = ((nput (ndel M.now x.name) x.to i).map fun p => (M.file p.2).now.length).sum := by
        show ((Med.now _).map fun p => (Med.file _ p.2).now.length).sum = _
        rw [enow]
        unfold Med.file Med.link
        simp only [s3]
      rw [this, sum_put _ _ _ (fun j => (M.file j).now.length)]
      show _ ≤ M.step.1.room
      rw [s1]
      unfold Med.used at hu
      omega
  · intro _
    show Fits M (M.remove x.name).1 ∧ ((M.remove x.name).2 = 11 → _)
    unfold Med.remove
    split; · exact ⟨r, by simp⟩
    split; · exact ⟨r, by simp⟩
    rename_i i hi
    split; · exact ⟨rs, by simp⟩
    refine ⟨?_, by simp⟩
    have hs : x.name ≠ ByteArray.empty := ok.nowOk.ne _ (nget_mem hi)
    have enow : (M.step.1.link ⟨x.name, ByteArray.empty, 0⟩).now = ndel M.now x.name := by
      show Lnk.on ⟨x.name, ByteArray.empty, 0⟩ M.step.1.now = _
      rw [s2]
      unfold Lnk.on
      simp only [if_neg hs, if_true]
    refine ⟨s1, ?_, ?_⟩
    · unfold Dst
      rw [enow]
      exact hd.sublist (List.filter_sublist.map _)
    · have e2 := sum_del_le M.now x.name fun j => (M.file j).now.length
      have : (M.step.1.link ⟨x.name, ByteArray.empty, 0⟩).used = ((ndel M.now x.name).map fun p => (M.file p.2).now.length).sum := by
        show ((Med.now _).map fun p => (Med.file _ p.2).now.length).sum = _
        rw [enow]
        unfold Med.file Med.link
        simp only [s3]
      rw [this]
      show _ ≤ M.step.1.room
      rw [s1]
      unfold Med.used at hu
      omega
  · intro _
    show Fits M (M.sync x.name).1 ∧ ((M.sync x.name).2 = 11 → _)
    unfold Med.sync
    split; · exact ⟨r, by simp⟩
    split; · exact ⟨r, by simp⟩
    rename_i i hi
    split; · exact ⟨rs, by simp⟩
    refine ⟨Fits.set ok hd hu s1 s2 s3 hi _ ?_, by simp⟩
    simp only [Fil.sync]
    omega
  · intro _
    show Fits M M.syncDir.1 ∧ (M.syncDir.2 = 11 → _)
    unfold Med.syncDir
    split; · exact ⟨r, by simp⟩
    split; · exact ⟨rs, by simp⟩
    exact ⟨Fits.alike hd hu s1 s2 s3, by simp⟩
  · intro _
    show Fits M (M.arm x.n).1 ∧ ((M.arm x.n).2 = 11 → _)
    unfold Med.arm
    split; · exact ⟨r, by simp⟩
    split; · exact ⟨r, by simp⟩
    exact ⟨Fits.alike hd hu rfl rfl rfl, by simp⟩
  · exact fun h => absurd h h8
  · exact fun h => absurd h h9
  · intro _
    refine ⟨?_, fun h => by simp at h⟩
    show Fits M (M.rot x.name x.n (lowByte x.m)).1
    unfold Med.rot
    split; · exact r
    rename_i i hi
    split; · exact r
    refine Fits.set ok hd hu rfl rfl rfl hi _ ?_
    rw [((ok.file i).rot _ _).2, xorAt_len]
    omega
  · intro _
    refine ⟨r, fun h => ?_⟩
    exfalso
    have h' : (M.read x.name x.n x.m).2 = 11 := h
    unfold Med.read at h'
    revert h'
    split
    · simp
    split
    · simp
    simp only
    split
    · simp
    split
    · simp
    · simp
end Go.Med
namespace Go.Med
def Med.rmove (m : Med) (s t : ByteArray) (gone : Bool) : Med × Int :=
  if m.off then (m, 12)
  else match nget m.now s with
  | none => (m, 9)
  | some i =>
    if gone = false ∧ good t = false then (m, 7)
    else if m.step.2 = false then (m.step.1, 12)
    else (m.step.1.link ⟨s, if gone then ByteArray.empty else t, i⟩, 0)
def Med.rfile (D : Med) (l : List Int) (i : Nat) (p : ByteArray × Nat) : Fil := (D.file p.2).crash (num l (2 * i + 1)) (num l (2 * i + 2))
def Med.rcrash (D : Med) (l : List Int) : Med :=
  let ns := D.lastNames (clampN (num l 0) D.waits.length)
  { D with fast := ns.mapIdx fun i p => (p.1, i), now := ns.mapIdx fun i p => (p.1, i), waits := [], files := ns.mapIdx (D.rfile l), off := false, armed := false, left := 0 }
def Med.told (D : Med) (x : Cal) : Med × (Bs × Int × Bool) :=
  if x.kind = 0 then ((D.create x.name).1, [], (D.create x.name).2, false)
  else if x.kind = 1 then ((D.append x.name x.b).1, [], (D.append x.name x.b).2, false)
  else if x.kind = 2 then ((D.truncate x.name x.n).1, [], (D.truncate x.name x.n).2, false)
  else if x.kind = 3 then ((D.rmove x.name x.to false).1, [], (D.rmove x.name x.to false).2, false)
  else if x.kind = 4 then ((D.rmove x.name ByteArray.empty true).1, [], (D.rmove x.name ByteArray.empty true).2, false)
  else if x.kind = 5 then ((D.sync x.name).1, [], (D.sync x.name).2, false)
  else if x.kind = 6 then (D.syncDir.1, [], D.syncDir.2, false)
  else if x.kind = 7 then ((D.arm x.n).1, [], (D.arm x.n).2, false)
  else if x.kind = 8 then (D.rcrash x.l, [], 0, false)
  else if x.kind = 9 then ((D.setRoom x.n).1, [], (D.setRoom x.n).2, false)
  else if x.kind = 10 then ((D.rot x.name x.n (lowByte x.m)).1, [], 0, (D.rot x.name x.n (lowByte x.m)).2)
  else (D, (D.read x.name x.n x.m).1, (D.read x.name x.n x.m).2, false)
def ren (φ : Nat → Nat) (l : Names) : Names := l.map fun p => (p.1, φ p.2)
theorem ren_len (φ : Nat → Nat) (l : Names) : (ren φ l).length = l.length := by unfold ren; rw [List.length_map]
theorem ren_keys (φ : Nat → Nat) (l : Names) : (ren φ l).map (·.1) = l.map (·.1) := by unfold ren; rw [List.map_map]; rfl
theorem ren_get (φ : Nat → Nat) (l : Names) (s : ByteArray) : nget (ren φ l) s = (nget l s).map φ := by
  unfold nget ren
  rw [List.find?_map, Option.map_map, Option.map_map]
  rfl
theorem ren_del (φ : Nat → Nat) (l : Names) (s : ByteArray) : ndel (ren φ l) s = ren φ (ndel l s) := by
  unfold ndel ren
  rw [List.filter_map]
  rfl
theorem ren_ins (φ : Nat → Nat) (s : ByteArray) (i : Nat) : ∀ l : Names, nins (ren φ l) s (φ i) = ren φ (nins l s i)
  | [] => rfl
  | p :: l => by
    show nins ((p.1, φ p.2) :: ren φ l) s (φ i) = ren φ (nins (p :: l) s i)
    unfold nins
    dsimp only
    split
    · rfl
    · rw [ren_ins φ s i l]; rfl
theorem ren_put (φ : Nat → Nat) (l : Names) (s : ByteArray) (i : Nat) : nput (ren φ l) s (φ i) = ren φ (nput l s i) := by
  unfold nput
  rw [ren_del, ren_ins]
theorem ren_on {φ : Nat → Nat} {x y : Lnk} (h1 : y.fr = x.fr) (h2 : y.to = x.to) (h3 : x.to ≠ ByteArray.empty → y.f = φ x.f) (l : Names) : y.on (ren φ l) = ren φ (x.on l) := by
  unfold Lnk.on
  rw [h1, h2]
  have e : (if x.fr = ByteArray.empty then ren φ l else ndel (ren φ l) x.fr) = ren φ (if x.fr = ByteArray.empty then l else ndel l x.fr) := by
    split
    · rfl
    · exact ren_del _ _ _
  dsimp only
  rw [e]
  split
  · rfl
  · rename_i ht
    rw [h3 ht, ren_put]
theorem ren_congr {φ ψ : Nat → Nat} {l : Names} (h : ∀ p ∈ l, φ p.2 = ψ p.2) : ren φ l = ren ψ l := by
  unfold ren
  exact List.map_congr_left fun p hp => by rw [h p hp]
structure Side (φ : Nat → Nat) (L : Nat → Prop) (M D : Med) : Prop where
  room : D.room = M.room
  armed : D.armed = M.armed
  left : D.left = M.left
  off : D.off = M.off
  wl : D.waits.length = M.waits.length
  now : D.now = ren φ M.now
  names : ∀ k, k ≤ M.waits.length → D.lastNames k = ren φ (M.lastNames k)
  live : ∀ k, k ≤ M.waits.length → ∀ p ∈ M.lastNames k, L p.2
  once : ∀ k, k ≤ M.waits.length → ((M.lastNames k).map (·.2)).Nodup
  inj : ∀ i j, L i → L j → φ i = φ j → i = j
  file : ∀ i, L i → D.file (φ i) = M.file i
  lt : ∀ i, L i → φ i < D.files.length
  ml : ∀ i, L i → i < M.files.length
theorem Side.new (r : Nat) : Side id (fun _ => False) (new r) (new r) :=
  ⟨rfl, rfl, rfl, rfl, rfl, rfl, (fun k hk => by simp [Med.new] at hk; subst hk; rfl), (fun k hk p hp => by simp [Med.new] at hk; subst hk; simp [Med.new, Med.lastNames] at hp), (fun k hk => by simp [Med.new] at hk; subst hk; exact List.nodup_nil), fun _ _ h => h.elim, fun _ h => h.elim, fun _ h => h.elim, fun _ h => h.elim⟩
theorem step_bits {M D : Med} (h1 : D.armed = M.armed) (h2 : D.left = M.left) (h3 : D.off = M.off) : D.step.1.armed = M.step.1.armed ∧ D.step.1.left = M.step.1.left ∧ D.step.1.off = M.step.1.off := by
  obtain ⟨room, fast, now, files, waits, armed, left, off⟩ := M
  obtain ⟨room', fast', now', files', waits', armed', left', off'⟩ := D
  simp only at h1 h2 h3
  subst h1; subst h2; subst h3
  unfold Med.step
  dsimp only
  cases armed'
  · exact ⟨rfl, rfl, rfl⟩
  · simp only [if_true]
    by_cases hz : left' = 0
    · simp only [hz, if_true]; exact ⟨trivial, trivial, trivial⟩
    · simp only [hz, if_false]; exact ⟨trivial, trivial, trivial⟩
section
variable {φ : Nat → Nat} {L : Nat → Prop} {M D : Med} {K : Nat}
theorem Side.step2 (h : Side φ L M D) : D.step.2 = M.step.2 := by
  unfold Med.step
  rw [h.armed, h.left]
  split
  · split <;> rfl
  · rfl
theorem Side.step (h : Side φ L M D) : Side φ L M.step.1 D.step.1 := by
  have hM := M.step_same; have hD := D.step_same
  obtain ⟨a1, a2, a3, a4, a5⟩ := hM
  obtain ⟨b1, b2, b3, b4, b5⟩ := hD
  have f1 : ∀ k, M.step.1.lastNames k = M.lastNames k := fun k => by unfold Med.lastNames; rw [a5, a2]
  have f2 : ∀ k, D.step.1.lastNames k = D.lastNames k := fun k => by unfold Med.lastNames; rw [b5, b2]
  have g1 : ∀ k, M.step.1.file k = M.file k := fun k => by unfold Med.file; rw [a4]
  have g2 : ∀ k, D.step.1.file k = D.file k := fun k => by unfold Med.file; rw [b4]
  have hal := step_bits h.armed h.left h.off
  exact ⟨by rw [a1, b1]; exact h.room, hal.1, hal.2.1, hal.2.2, by rw [a5, b5]; exact h.wl, by rw [a3, b3]; exact h.now, fun k hk => by rw [f1, f2]; rw [a5] at hk; exact h.names k hk, fun k hk => by rw [f1]; rw [a5] at hk; exact h.live k hk, fun k hk => by rw [f1]; rw [a5] at hk; exact h.once k hk, h.inj, fun i hi => by rw [g1, g2]; exact h.file i hi, fun i hi => by rw [b4]; exact h.lt i hi, fun i hi => by rw [a4]; exact h.ml i hi⟩
theorem Side.setFile (h : Side φ L M D) {i : Nat} (hi : L i) (f : Fil) : Side φ L (M.setFile i f) (D.setFile (φ i) f) := by
  have hD : (D.setFile (φ i) f).files.length = D.files.length := by simp [Med.setFile]
  have hM : (M.setFile i f).files.length = M.files.length := by simp [Med.setFile]
  refine ⟨h.room, h.armed, h.left, h.off, h.wl, h.now, h.names, h.live, h.once, h.inj, fun j hj => ?_, fun j hj => by rw [hD]; exact h.lt j hj, fun j hj => by rw [hM]; exact h.ml j hj⟩
  rw [file_set (h.lt i hi), file_set (h.ml i hi)]
  by_cases e : j = i
  · subst e; rw [if_pos rfl, if_pos rfl]
  · rw [if_neg e, if_neg fun e2 => e (h.inj j i hj hi e2)]
    exact h.file j hj
theorem Side.link (h : Side φ L M D) (ok : M.now = M.lastNames M.waits.length) {x y : Lnk} (h1 : y.fr = x.fr) (h2 : y.to = x.to) (h3 : x.to ≠ ByteArray.empty → y.f = φ x.f) (hl : ∀ p ∈ x.on M.now, L p.2) (hn : ((x.on M.now).map (·.2)).Nodup) :
    Side φ L (M.link x) (D.link y) := by
  have hM : (M.link x).waits.length = M.waits.length + 1 := by simp [Med.link]
  have hD : (D.link y).waits.length = D.waits.length + 1 := by simp [Med.link]
  have okD : D.now = D.lastNames D.waits.length := by rw [h.now, h.wl, h.names _ (Nat.le_refl _), ok]
  have hon : y.on D.now = ren φ (x.on M.now) := by rw [h.now]; exact ren_on h1 h2 h3 _
  have key : ∀ k, k ≤ (M.link x).waits.length → (k ≤ M.waits.length ∧ (M.link x).lastNames k = M.lastNames k ∧ (D.link y).lastNames k = D.lastNames k) ∨ ((M.link x).lastNames k = x.on M.now ∧ (D.link y).lastNames k = y.on D.now) := by
    intro k hk
    rw [hM] at hk
    rcases Nat.lt_or_ge k (M.waits.length + 1) with hlt | hge
    · exact .inl ⟨by omega, M.lastNames_link x k (by omega), D.lastNames_link y k (by rw [h.wl]; omega)⟩
    · obtain rfl : k = M.waits.length + 1 := by omega
      refine .inr ⟨M.lastNames_last x ok, ?_⟩
      rw [← h.wl]; exact D.lastNames_last y okD
  refine ⟨h.room, h.armed, h.left, h.off, by rw [hM, hD, h.wl], hon, fun k hk => ?_, fun k hk => ?_, fun k hk => ?_, h.inj, h.file, h.lt, h.ml⟩
  · rcases key k hk with ⟨a, b, c⟩ | ⟨a, b⟩
    · rw [b, c]; exact h.names k a
    · rw [a, b]; exact hon
  · rcases key k hk with ⟨a, b, c⟩ | ⟨a, b⟩
    · rw [b]; exact h.live k a
    · rw [a]; exact hl
  · rcases key k hk with ⟨a, b, c⟩ | ⟨a, b⟩
    · rw [b]; exact h.once k a
    · rw [a]; exact hn
theorem Side.newFile (h : Side φ L M D) (ok : M.now = M.lastNames M.waits.length) : Side (fun i => if i = M.files.length then D.files.length else φ i) (fun i => L i ∨ i = M.files.length) { M with files := M.files ++ [Fil.new] } { D with files := D.files ++ [Fil.new] } := by
  have hne : ∀ i, L i → i ≠ M.files.length := fun i hi => Nat.ne_of_lt (h.ml i hi)
  have hr : ∀ l : Names, (∀ p ∈ l, L p.2) → ren (fun i => if i = M.files.length then D.files.length else φ i) l = ren φ l := fun l hl => ren_congr fun p hp => if_neg (hne _ (hl p hp))
  have hlM : ∀ k, ({ M with files := M.files ++ [Fil.new] } : Med).lastNames k = M.lastNames k := fun _ => rfl
  have hlD : ∀ k, ({ D with files := D.files ++ [Fil.new] } : Med).lastNames k = D.lastNames k := fun _ => rfl
  have fM : ∀ i, i ≠ M.files.length → ({ M with files := M.files ++ [Fil.new] } : Med).file i = M.file i := by
    intro i hi
    unfold Med.file
    dsimp only
    rw [List.getD_eq_getElem?_getD, List.getD_eq_getElem?_getD]
    rcases Nat.lt_or_ge i M.files.length with a | a
    · rw [List.getElem?_append_left a]
    · rw [List.getElem?_eq_none (by simp; omega), List.getElem?_eq_none a]
  have fD : ∀ i, i < D.files.length → ({ D with files := D.files ++ [Fil.new] } : Med).file i = D.file i := by
    intro i hi
    unfold Med.file
    dsimp only
    rw [List.getD_eq_getElem?_getD, List.getD_eq_getElem?_getD, List.getElem?_append_left hi]
  refine ⟨h.room, h.armed, h.left, h.off, h.wl, ?_, fun k hk => ?_, fun k hk p hp => .inl (h.live k hk p hp), h.once, ?_, ?_, ?_, ?_⟩
  · show D.now = ren _ M.now
    rw [hr _ (by rw [ok]; exact h.live _ (Nat.le_refl _))]; exact h.now
  · rw [hlD, hlM, hr _ (h.live k hk)]; exact h.names k hk
  · intro i j hi hj e
    rcases hi with hi | rfl
    · rw [if_neg (hne i hi)] at e
      rcases hj with hj | rfl
      · rw [if_neg (hne j hj)] at e; exact h.inj i j hi hj e
      · rw [if_pos rfl] at e; have := h.lt i hi; omega
    · rw [if_pos rfl] at e
      rcases hj with hj | rfl
      · rw [if_neg (hne j hj)] at e; have := h.lt j hj; omega
      · rfl
  · intro i hi
    rcases hi with hi | rfl
    · rw [if_neg (hne i hi), fM i (hne i hi), fD _ (h.lt i hi)]; exact h.file i hi
    · rw [if_pos rfl]
      unfold Med.file
      simp
  · intro i hi
    dsimp only
    rcases hi with hi | rfl
    · rw [if_neg (hne i hi)]; have := h.lt i hi; simp; omega
    · rw [if_pos rfl]; simp
  · intro i hi
    rcases hi with hi | rfl
    · have := h.ml i hi; simp; omega
    · simp
end
end Go.Med
namespace Go.Med
theorem idx_at : ∀ {l : List Nat} {k x : Nat}, l.Nodup → l[k]? = some x → l.idxOf x = k
  | [], k, x, _, h => by simp at h
  | a :: l, 0, x, _, h => by
    obtain rfl : a = x := by simpa using h
    exact List.idxOf_cons_self
  | a :: l, k + 1, x, hn, h => by
    have h' : l[k]? = some x := by simpa using h
    obtain ⟨h1, h2⟩ := List.nodup_cons.1 hn
    have hne : a ≠ x := fun e => h1 (by rw [e]; exact List.mem_of_getElem? h')
    rw [List.idxOf_cons, show (a == x) = false by simpa using hne, idx_at h2 h']; rfl
theorem crash_get (l : List Int) : ∀ (ns : Names) (j : Nat) (fs : List Fil), (ns.map (·.2)).Nodup → (∀ p ∈ ns, p.2 < fs.length) →
    (∀ (k : Nat) p, ns[k]? = some p → (crashFiles l ns j fs).getD p.2 Fil.new = (fs.getD p.2 Fil.new).crash (num l (j + 2 * k)) (num l (j + 2 * k + 1))) ∧ ∀ i, i ∉ ns.map (·.2) → (crashFiles l ns j fs).getD i Fil.new = fs.getD i Fil.new
  | [], _, _, _, _ => ⟨fun k p h => by simp at h, fun _ _ => rfl⟩
  | q :: ns, j, fs, hn, hl => by
    obtain ⟨h1, h2⟩ := List.nodup_cons.1 hn
    have hq := hl q (.head _)
    obtain ⟨a, b⟩ := crash_get l ns (j + 2) (fs.set q.2 ((fs.getD q.2 Fil.new).crash (num l j) (num l (j + 1)))) h2 (fun p hp => by rw [List.length_set]; exact hl p (.tail _ hp))
    have hset : ∀ i, i ≠ q.2 → (fs.set q.2 ((fs.getD q.2 Fil.new).crash (num l j) (num l (j + 1)))).getD i Fil.new = fs.getD i Fil.new := by
      intro i hi
      simp only [List.getD_eq_getElem?_getD]
      rw [List.getElem?_set_ne (Ne.symm hi)]
    refine ⟨fun k p hk => ?_, fun i hi => ?_⟩
    · cases k with
      | zero =>
        obtain rfl : q = p := by simpa using hk
        show (crashFiles l ns (j + 2) _).getD q.2 Fil.new = _
        rw [b _ h1]
        show List.getD _ _ _ = (fs.getD q.2 Fil.new).crash (num l (j + 0)) (num l (j + 0 + 1))
        rw [List.getD_eq_getElem?_getD, List.getElem?_set_self hq]
        rfl
      | succ k =>
        have hk' : ns[k]? = some p := by simpa using hk
        show (crashFiles l ns (j + 2) _).getD p.2 Fil.new = _
        rw [a k p hk', hset p.2 fun e => h1 (List.mem_map.2 ⟨p, List.mem_of_getElem? hk', e⟩)]
        rw [show j + 2 + 2 * k = j + 2 * (k + 1) by omega]
    · simp only [List.map_cons, List.mem_cons, not_or] at hi
      show (crashFiles l ns (j + 2) _).getD i Fil.new = _
      rw [b i hi.2, hset i hi.1]
theorem ren_idx (φ : Nat → Nat) {ns : Names} (hn : (ns.map (·.2)).Nodup) : ((ren φ ns).mapIdx fun i p => (p.1, i)) = ren (fun i => (ns.map (·.2)).idxOf i) ns := by
  apply List.ext_getElem?
  intro k
  rw [List.getElem?_mapIdx]
  unfold ren
  rw [List.getElem?_map, List.getElem?_map]
  cases hk : ns[k]? with
  | none => rfl
  | some p =>
    simp only [Option.map_some]
    rw [idx_at hn (by rw [List.getElem?_map, hk]; rfl)]
section
variable {φ : Nat → Nat} {L : Nat → Prop} {M D : Med} {K : Nat}
theorem Side.crash (h : Side φ L M D) (l : List Int) : ∃ φ' L', Side φ' L' (M.crash l) (D.rcrash l) := by
  have hk := clampN_le (num l 0) M.waits.length
  unfold Med.crash Med.rcrash
  rw [h.wl]
  generalize clampN (num l 0) M.waits.length = k at *
  rw [h.names k hk]
  have hn := h.once k hk
  have hl := h.live k hk
  generalize M.lastNames k = ns at *
  dsimp only
  obtain ⟨c1, _⟩ := crash_get l ns 1 M.files hn fun p hp => h.ml _ (hl p hp)
  refine ⟨fun i => (ns.map (·.2)).idxOf i, fun i => i ∈ ns.map (·.2), h.room, rfl, rfl, rfl, rfl, ren_idx φ hn, fun j hj => ?_, fun j hj p hp => ?_, fun j hj => ?_, fun i j hi hj e => ?_, fun i hi => ?_, fun i hi => ?_, fun i hi => ?_⟩
  · have hj0 : j = 0 := by simpa using hj
    subst hj0
    exact ren_idx φ hn
  · have hj0 : j = 0 := by simpa using hj
    subst hj0
    exact List.mem_map.2 ⟨p, hp, rfl⟩
  · have hj0 : j = 0 := by simpa using hj
    subst hj0
    exact hn
  · obtain ⟨a, ha⟩ := List.getElem?_of_mem hi
    obtain ⟨b, hb⟩ := List.getElem?_of_mem hj
    rw [idx_at hn ha, idx_at hn hb] at e
    subst e
    rw [ha] at hb
    exact Option.some.inj hb
  · obtain ⟨a, ha⟩ := List.getElem?_of_mem hi
    rw [idx_at hn ha]
    rw [List.getElem?_map] at ha
    obtain ⟨p, hp, rfl⟩ := Option.map_eq_some_iff.1 ha
    unfold Med.file
    dsimp only
    rw [c1 a p hp, List.getD_eq_getElem?_getD, List.getElem?_mapIdx]
    unfold ren
    rw [List.getElem?_map, hp]
    have := h.file _ (hl p (List.mem_of_getElem? hp))
    show (D.file (φ p.2)).crash (num l (2 * a + 1)) (num l (2 * a + 2)) = (M.file p.2).crash _ _
    rw [this, show 1 + 2 * a = 2 * a + 1 by omega]
  · obtain ⟨a, ha⟩ := List.getElem?_of_mem hi
    dsimp only
    rw [idx_at hn ha, List.length_mapIdx, ren_len]
    rw [List.getElem?_map] at ha
    obtain ⟨p, hp, _⟩ := Option.map_eq_some_iff.1 ha
    exact (List.getElem?_eq_some_iff.1 hp).1
  · obtain ⟨p, hp, rfl⟩ := List.mem_map.1 hi
    dsimp only
    rw [crashFiles_len]
    exact h.ml _ (hl p hp)
theorem Side.get (h : Side φ L M D) (s : ByteArray) : nget D.now s = (nget M.now s).map φ := by rw [h.now, ren_get]
theorem Side.nowLive (h : Side φ L M D) (ok : M.Ok K) : ∀ p ∈ M.now, L p.2 := by rw [ok.now]; exact h.live _ (Nat.le_refl _)
theorem Side.getLive (h : Side φ L M D) (ok : M.Ok K) {s : ByteArray} {i : Nat} (hi : nget M.now s = some i) : L i := h.nowLive ok _ (nget_mem hi)
theorem Side.nowOnce (h : Side φ L M D) (ok : M.Ok K) : (M.now.map (·.2)).Nodup := by rw [ok.now]; exact h.once _ (Nat.le_refl _)
theorem Side.used (h : Side φ L M D) (ok : M.Ok K) : D.used = M.used := by
  unfold Med.used
  rw [h.now]
  unfold ren
  rw [List.map_map]
  congr 1
  refine List.map_congr_left fun p hp => ?_
  show (D.file (φ p.2)).now.length = _
  rw [h.file _ (h.nowLive ok p hp)]
def Both (r q : Med × Int) : Prop := r.2 = q.2 ∧ ∃ φ L, Side φ L r.1 q.1
theorem Both.same (h : Side φ L M D) (e : Int) : Both (M, e) (D, e) := ⟨rfl, φ, L, h⟩
theorem Side.create (h : Side φ L M D) (ok : M.Ok K) (s : ByteArray) : Both (M.create s) (D.create s) := by
  unfold Med.create
  rw [h.off, h.get, Option.isSome_map, h.step2, h.now, ren_len]
  split; · exact .same h _
  split; · exact .same h _
  rename_i hg
  split; · exact .same h _
  rename_i hn
  split; · exact .same h _
  split; · exact .same h.step _
  have hg' : good s = true := by simpa using hg
  have hn' : nget M.now s = none := by simpa using hn
  have hst := h.step
  have okst := ok.step
  obtain ⟨e1, e2, e3, e4, e5⟩ := M.step_same
  obtain ⟨_, _, _, d4, _⟩ := D.step_same
  have h1 := hst.newFile okst.now
  rw [e4, d4] at h1
  refine ⟨rfl, _, _, h1.link (x := ⟨ByteArray.empty, s, M.files.length⟩) (y := ⟨ByteArray.empty, s, D.files.length⟩) okst.now rfl rfl (fun _ => (if_pos rfl).symm) ?_ ?_⟩
  · intro p hp
    have hp' : p ∈ nput M.step.1.now s M.files.length := by
      have : (Lnk.mk ByteArray.empty s M.files.length).on M.step.1.now = nput M.step.1.now s M.files.length := by
        unfold Lnk.on
        simp only [if_true, if_neg (good_ne hg')]
      rw [← this]; exact hp
    rcases List.mem_cons.1 ((nput_perm _ _ _).mem_iff.1 hp') with rfl | hp
    · exact .inr rfl
    · exact .inl (hst.nowLive okst p (List.mem_filter.1 hp).1)
  · show (((Lnk.mk ByteArray.empty s M.files.length).on M.step.1.now).map (·.2)).Nodup
    unfold Lnk.on
    simp only [if_true, if_neg (good_ne hg')]
    refine nodup_put (hst.nowOnce okst) fun p hp e => ?_
    have := hst.ml _ (hst.nowLive okst p hp)
    rw [e4, e] at this
    exact Nat.lt_irrefl _ this
theorem Side.append (h : Side φ L M D) (ok : M.Ok K) (s : ByteArray) (b : Bs) : Both (M.append s b) (D.append s b) := by
  unfold Med.append
  rw [h.off, h.get, h.step2, h.room, h.used ok]
  split; · exact .same h _
  cases hi : nget M.now s with
  | none => exact .same h _
  | some i =>
    simp only [Option.map_some]
    split; · exact .same h _
    split; · exact .same h.step _
    have hL := h.getLive ok hi
    rw [h.file i hL]
    exact .same (h.step.setFile hL _) _
theorem Side.truncate (h : Side φ L M D) (ok : M.Ok K) (s : ByteArray) (n : Int) : Both (M.truncate s n) (D.truncate s n) := by
  unfold Med.truncate
  rw [h.off, h.get, h.step2]
  split; · exact .same h _
  cases hi : nget M.now s with
  | none => exact .same h _
  | some i =>
    have hL := h.getLive ok hi
    simp only [Option.map_some]
    rw [h.file i hL]
    split; · exact .same h _
    split; · exact .same h.step _
    exact .same (h.step.setFile hL _) _
theorem Side.sync (h : Side φ L M D) (ok : M.Ok K) (s : ByteArray) : Both (M.sync s) (D.sync s) := by
  unfold Med.sync
  rw [h.off, h.get, h.step2]
  split; · exact .same h _
  cases hi : nget M.now s with
  | none => exact .same h _
  | some i =>
    have hL := h.getLive ok hi
    simp only [Option.map_some]
    rw [h.file i hL]
    split; · exact .same h.step _
    exact .same (h.step.setFile hL _) _
theorem Side.syncDir (h : Side φ L M D) (ok : M.Ok K) : Both M.syncDir D.syncDir := by
  unfold Med.syncDir
  rw [h.off, h.step2]
  split; · exact .same h _
  split; · exact .same h.step _
  have hs := h.step
  refine ⟨rfl, φ, L, hs.room, hs.armed, hs.left, hs.off, rfl, hs.now, fun k hk => ?_, fun k hk => ?_, fun k hk => ?_, hs.inj, hs.file, hs.lt, hs.ml⟩
  · obtain rfl : k = 0 := by simpa using hk
    exact h.now
  · obtain rfl : k = 0 := by simpa using hk
    exact h.nowLive ok
  · obtain rfl : k = 0 := by simpa using hk
    exact h.nowOnce ok
theorem Side.arm (h : Side φ L M D) (n : Int) : Both (M.arm n) (D.arm n) := by
  unfold Med.arm
  rw [h.off]
  split; · exact .same h _
  split; · exact .same h _
  exact ⟨rfl, φ, L, h.room, rfl, rfl, rfl, h.wl, h.now, h.names, h.live, h.once, h.inj, h.file, h.lt, h.ml⟩
theorem Side.setRoom (h : Side φ L M D) (n : Int) : Both (M.setRoom n) (D.setRoom n) := by
  unfold Med.setRoom
  rw [h.off]
  split; · exact .same h _
  split; · exact .same h _
  exact ⟨rfl, φ, L, rfl, h.armed, h.left, rfl, h.wl, h.now, h.names, h.live, h.once, h.inj, h.file, h.lt, h.ml⟩
theorem Side.rot (h : Side φ L M D) (ok : M.Ok K) (s : ByteArray) (i : Int) (y : UInt8) : (M.rot s i y).2 = (D.rot s i y).2 ∧ ∃ φ L, Side φ L (M.rot s i y).1 (D.rot s i y).1 := by
  unfold Med.rot
  rw [h.get]
  cases hi : nget M.now s with
  | none => exact ⟨rfl, φ, L, h⟩
  | some k =>
    have hL := h.getLive ok hi
    simp only [Option.map_some]
    rw [h.file k hL]
    split
    · exact ⟨rfl, φ, L, h⟩
    · exact ⟨rfl, φ, L, h.setFile hL _⟩
theorem Side.read (h : Side φ L M D) (ok : M.Ok K) (s : ByteArray) (a n : Int) : M.read s a n = D.read s a n := by
  unfold Med.read
  rw [h.off, h.get]
  split; · rfl
  cases hi : nget M.now s with
  | none => rfl
  | some i =>
    simp only [Option.map_some]
    rw [h.file i (h.getLive ok hi)]
theorem Side.all (h : Side φ L M D) (ok : M.Ok K) (s : ByteArray) : D.all s = M.all s := by
  unfold Med.all
  rw [h.off, h.get]
  split; · rfl
  cases hi : nget M.now s with
  | none => rfl
  | some i =>
    simp only [Option.map_some]
    rw [h.file i (h.getLive ok hi)]
theorem Side.list (h : Side φ L M D) : D.list = M.list := by
  unfold Med.list
  rw [h.off, h.now, ren_keys]
theorem Side.rename (h : Side φ L M D) (ok : M.Ok K) (s t : ByteArray) : Both (M.rename s t) (D.rmove s t false) := by
  unfold Med.rename Med.rmove
  rw [h.off, h.get, h.step2]
  split; · exact .same h _
  cases hi : nget M.now s with
  | none => exact .same h _
  | some i =>
    simp only [Option.map_some, true_and, Bool.false_eq_true, if_false]
    split; · exact .same h _
    rename_i hg
    split; · exact .same h.step _
    have hg' : good t = true := by simpa using hg
    have hst := h.step
    have okst := ok.step
    obtain ⟨e1, e2, e3, e4, e5⟩ := M.step_same
    have hi' : nget M.step.1.now s = some i := by rw [e3]; exact hi
    have hL := hst.getLive okst hi'
    have hs : s ≠ ByteArray.empty := ok.nowOk.ne _ (nget_mem hi)
    have hon : (Lnk.mk s t i).on M.step.1.now = nput (ndel M.step.1.now s) t i := by
      unfold Lnk.on
      simp only [if_neg hs, if_neg (good_ne hg')]
    obtain ⟨u1, _⟩ := used_split okst.nowOk.srt (hst.nowOnce okst) hi'
    refine ⟨rfl, φ, L, hst.link okst.now rfl rfl (fun _ => rfl) ?_ ?_⟩
    · rw [hon]
      intro p hp
      rcases List.mem_cons.1 ((nput_perm _ _ _).mem_iff.1 hp) with rfl | hp
      · exact hL
      · exact hst.nowLive okst p (List.mem_filter.1 (List.mem_filter.1 hp).1).1
    · rw [hon]
      exact nodup_put ((hst.nowOnce okst).sublist (List.filter_sublist.map _)) u1
theorem Side.remove (h : Side φ L M D) (ok : M.Ok K) (s t : ByteArray) : Both (M.remove s) (D.rmove s t true) := by
  unfold Med.remove Med.rmove
  rw [h.off, h.get, h.step2]
  split; · exact .same h _
  cases hi : nget M.now s with
  | none => exact .same h _
  | some i =>
    simp only [Option.map_some, Bool.true_eq_false, false_and, if_false, if_true]
    split; · exact .same h.step _
    have hst := h.step
    have okst := ok.step
    have hs : s ≠ ByteArray.empty := ok.nowOk.ne _ (nget_mem hi)
    have hon : (Lnk.mk s ByteArray.empty 0).on M.step.1.now = ndel M.step.1.now s := by
      unfold Lnk.on
      simp only [if_neg hs, if_true]
    refine ⟨rfl, φ, L, hst.link okst.now rfl rfl (fun hh => absurd rfl hh) ?_ ?_⟩
    · rw [hon]
      exact fun p hp => hst.nowLive okst p (List.mem_filter.1 hp).1
    · rw [hon]
      exact (hst.nowOnce okst).sublist (List.filter_sublist.map _)
theorem Side.does (h : Side φ L M D) (ok : M.Ok K) (x : Cal) : (M.does x).2 = (D.told x).2 ∧ ∃ φ L, Side φ L (M.does x).1 (D.told x).1 := by
  have lift : ∀ {r q : Med × Int}, Both r q → ((r.1, (([], r.2, false) : Bs × Int × Bool)) : Med × (Bs × Int × Bool)).2 = ((q.1, (([], q.2, false) : Bs × Int × Bool)) : Med × (Bs × Int × Bool)).2 ∧ ∃ φ L, Side φ L r.1 q.1 :=
    fun hb => ⟨by rw [hb.1], hb.2⟩
  unfold Med.does Med.told
  by_cases c0 : x.kind = 0; · rw [if_pos c0, if_pos c0]; exact lift (h.create ok _)
  rw [if_neg c0, if_neg c0]
  by_cases c1 : x.kind = 1; · rw [if_pos c1, if_pos c1]; exact lift (h.append ok _ _)
  rw [if_neg c1, if_neg c1]
  by_cases c2 : x.kind = 2; · rw [if_pos c2, if_pos c2]; exact lift (h.truncate ok _ _)
  rw [if_neg c2, if_neg c2]
  by_cases c3 : x.kind = 3; · rw [if_pos c3, if_pos c3]; exact lift (h.rename ok _ _)
  rw [if_neg c3, if_neg c3]
  by_cases c4 : x.kind = 4; · rw [if_pos c4, if_pos c4]; exact lift (h.remove ok _ _)
  rw [if_neg c4, if_neg c4]
  by_cases c5 : x.kind = 5; · rw [if_pos c5, if_pos c5]; exact lift (h.sync ok _)
  rw [if_neg c5, if_neg c5]
  by_cases c6 : x.kind = 6; · rw [if_pos c6, if_pos c6]; exact lift (h.syncDir ok)
  rw [if_neg c6, if_neg c6]
  by_cases c7 : x.kind = 7; · rw [if_pos c7, if_pos c7]; exact lift (h.arm _)
  rw [if_neg c7, if_neg c7]
  by_cases c8 : x.kind = 8; · rw [if_pos c8, if_pos c8]; exact ⟨rfl, h.crash _⟩
  rw [if_neg c8, if_neg c8]
  by_cases c9 : x.kind = 9; · rw [if_pos c9, if_pos c9]; exact lift (h.setRoom _)
  rw [if_neg c9, if_neg c9]
  by_cases c10 : x.kind = 10
  · rw [if_pos c10, if_pos c10]
    obtain ⟨a, b⟩ := h.rot ok x.name x.n (lowByte x.m)
    exact ⟨by rw [a], b⟩
  rw [if_neg c10, if_neg c10]
  exact ⟨by rw [h.read ok], φ, L, h⟩
end
theorem Med.Ok.rmove {K : Nat} {m : Med} (h : m.Ok K) (s t : ByteArray) (gone : Bool) : (m.rmove s t gone).1.Ok (K + 1) := by
  cases gone with
  | false =>
    have e : m.rmove s t false = m.rename s t := by
      unfold Med.rmove Med.rename
      cases m.off
      · cases nget m.now s
        · rfl
        · simp
      · rfl
    rw [e]; exact h.rename s t
  | true =>
    unfold Med.rmove
    have h' := h.mono (Nat.le_succ K)
    split; · exact h'
    split; · exact h'
    rename_i i hi
    simp only [Bool.true_eq_false, false_and, if_false, if_true]
    split; · exact h'.step
    obtain ⟨e1, e2, e3, e4, e5⟩ := m.step_same
    refine h.step.link _ (fun hh => absurd rfl hh) ?_
    rw [e3, e4]
    unfold Lnk.on
    have hs : s ≠ ByteArray.empty := h.nowOk.ne _ (nget_mem hi)
    simp only [if_neg hs, if_true]
    exact h.nowOk.del s
theorem Med.Ok.rcrash {K : Nat} {m : Med} (h : m.Ok K) (l : List Int) : (m.rcrash l).Ok K := by
  unfold Med.rcrash
  have hk := clampN_le (num l 0) m.waits.length
  generalize clampN (num l 0) m.waits.length = k at *
  have hn := h.names k hk
  generalize m.lastNames k = ns at *
  have hlast : NOk ns.length (ns.mapIdx fun i p => (p.1, i)) := by
    have hkeys : (ns.mapIdx fun i p => (p.1, i)).map (·.1) = ns.map (·.1) := by
      apply List.ext_getElem?
      intro j
      rw [List.getElem?_map, List.getElem?_mapIdx, List.getElem?_map]
      cases ns[j]? <;> rfl
    have hmem : ∀ p ∈ (ns.mapIdx fun i p => (p.1, i)), p.2 < ns.length ∧ ∃ q ∈ ns, q.1 = p.1 := by
      intro p hp
      obtain ⟨i, hi, rfl⟩ := List.mem_mapIdx.1 hp
      exact ⟨hi, _, List.getElem_mem hi, rfl⟩
    refine ⟨?_, by rw [List.length_mapIdx]; exact hn.len, fun p hp => (hmem p hp).1, fun p hp => ?_⟩
    · have h1 : (ns.map (·.1)).Pairwise fun a b => lt a b = true := by rw [List.pairwise_map]; exact hn.srt
      rw [← hkeys, List.pairwise_map] at h1
      exact h1
    · obtain ⟨_, q, hq, e⟩ := hmem p hp
      rw [← e]; exact hn.ne q hq
  dsimp only
  refine ⟨h.room, Nat.zero_le _, (fun x hx => by cases hx), fun j hj => ?_, rfl, fun f hf => ?_, Nat.zero_le _⟩
  · have hj0 : j = 0 := by simpa using hj
    subst hj0
    show NOk (ns.mapIdx _).length (ns.mapIdx fun i p => (p.1, i))
    rw [List.length_mapIdx]; exact hlast
  · obtain ⟨i, hi, rfl⟩ := List.mem_mapIdx.1 hf
    exact (h.file _).crash _ _
theorem Med.told_ind {P : Med × Bs × Int × Bool → Prop} {M : Med} {x : Cal}
    (h0 : x.kind = 0 → P ((M.create x.name).1, [], (M.create x.name).2, false))
    (h1 : x.kind = 1 → P ((M.append x.name x.b).1, [], (M.append x.name x.b).2, false))
    (h2 : x.kind = 2 → P ((M.truncate x.name x.n).1, [], (M.truncate x.name x.n).2, false))
    (h3 : x.kind = 3 → P ((M.rmove x.name x.to false).1, [], (M.rmove x.name x.to false).2, false))
    (h4 : x.kind = 4 → P ((M.rmove x.name ByteArray.empty true).1, [], (M.rmove x.name ByteArray.empty true).2, false))
    (h5 : x.kind = 5 → P ((M.sync x.name).1, [], (M.sync x.name).2, false))
    (h6 : x.kind = 6 → P (M.syncDir.1, [], M.syncDir.2, false))
    (h7 : x.kind = 7 → P ((M.arm x.n).1, [], (M.arm x.n).2, false))
    (h8 : x.kind = 8 → P (M.rcrash x.l, [], 0, false))
    (h9 : x.kind = 9 → P ((M.setRoom x.n).1, [], (M.setRoom x.n).2, false))
    (h10 : x.kind = 10 → P ((M.rot x.name x.n (lowByte x.m)).1, [], 0, (M.rot x.name x.n (lowByte x.m)).2))
    (hz : x.kind ≠ 0 ∧ x.kind ≠ 1 ∧ x.kind ≠ 2 ∧ x.kind ≠ 3 ∧ x.kind ≠ 4 ∧ x.kind ≠ 5 ∧ x.kind ≠ 6 ∧ x.kind ≠ 7 ∧ x.kind ≠ 8 ∧ x.kind ≠ 9 ∧ x.kind ≠ 10 → P (M, (M.read x.name x.n x.m).1, (M.read x.name x.n x.m).2, false)) : P (M.told x) := by
  unfold Med.told
  by_cases c0 : x.kind = 0; · rw [if_pos c0]; exact h0 c0
  rw [if_neg c0]
  by_cases c1 : x.kind = 1; · rw [if_pos c1]; exact h1 c1
  rw [if_neg c1]
  by_cases c2 : x.kind = 2; · rw [if_pos c2]; exact h2 c2
  rw [if_neg c2]
  by_cases c3 : x.kind = 3; · rw [if_pos c3]; exact h3 c3
  rw [if_neg c3]
  by_cases c4 : x.kind = 4; · rw [if_pos c4]; exact h4 c4
  rw [if_neg c4]
  by_cases c5 : x.kind = 5; · rw [if_pos c5]; exact h5 c5
  rw [if_neg c5]
  by_cases c6 : x.kind = 6; · rw [if_pos c6]; exact h6 c6
  rw [if_neg c6]
  by_cases c7 : x.kind = 7; · rw [if_pos c7]; exact h7 c7
  rw [if_neg c7]
  by_cases c8 : x.kind = 8; · rw [if_pos c8]; exact h8 c8
  rw [if_neg c8]
  by_cases c9 : x.kind = 9; · rw [if_pos c9]; exact h9 c9
  rw [if_neg c9]
  by_cases c10 : x.kind = 10; · rw [if_pos c10]; exact h10 c10
  rw [if_neg c10]
  exact hz ⟨c0, c1, c2, c3, c4, c5, c6, c7, c8, c9, c10⟩
theorem Med.Ok.told {K : Nat} {M : Med} (h : M.Ok K) (x : Cal) (hn : x.n ≤ 9223372036854775807) : (M.told x).1.Ok (K + 1) := by
  have h' := h.mono (Nat.le_succ K)
  refine Med.told_ind (P := fun r => r.1.Ok (K + 1)) ?_ ?_ ?_ ?_ ?_ ?_ ?_ ?_ ?_ ?_ ?_ ?_
  · exact fun _ => h.create _
  · exact fun _ => h.append _ _
  · exact fun _ => h.truncate _ _
  · exact fun _ => h.rmove _ _ _
  · exact fun _ => h.rmove _ _ _
  · exact fun _ => h.sync _
  · exact fun _ => h.syncDir.mono (Nat.le_succ K)
  · exact fun _ => (h.arm _ hn).mono (Nat.le_succ K)
  · exact fun _ => (h.rcrash _).mono (Nat.le_succ K)
  · exact fun _ => (h.setRoom _).mono (Nat.le_succ K)
  · exact fun _ => h.rot _ _ _
  · exact fun _ => h'
def Fil.Small (f : Fil) : Prop := ∀ c ∈ f.waits, c.b.length ≤ 16777216
def Med.Small (m : Med) : Prop := ∀ f ∈ m.files, f.Small
theorem Med.Small.file {m : Med} (h : m.Small) (i : Nat) : (m.file i).Small := by
  unfold Med.file
  rcases Nat.lt_or_ge i m.files.length with hi | hi
  · rw [List.getD_eq_getElem?_getD, List.getElem?_eq_getElem hi]; exact h _ (List.getElem_mem hi)
  · rw [List.getD_eq_getElem?_getD, List.getElem?_eq_none hi]; intro c hc; cases hc
theorem Med.Small.step {m : Med} (h : m.Small) : m.step.1.Small := by
  intro f hf
  rw [m.step_same.2.2.2.1] at hf
  exact h f hf
theorem Med.Small.setFile {m : Med} (h : m.Small) (i : Nat) {f : Fil} (hf : f.Small) : (m.setFile i f).Small := by
  intro g hg
  rcases List.mem_or_eq_of_mem_set hg with hg | rfl
  · exact h g hg
  · exact hf
theorem Fil.Small.do {f : Fil} (h : f.Small) {c : Chg} (hc : c.b.length ≤ 16777216) : (f.do c).Small := by
  intro d hd
  rcases List.mem_append.1 hd with hd | hd
  · exact h d hd
  · rw [List.mem_singleton.1 hd]; exact hc
theorem Fil.Small.rot {f : Fil} (h : f.Small) (i : Nat) (y : UInt8) : (f.rot i y).Small := by
  unfold Fil.rot
  rcases rotWaits_spec f i y f.waits.length (Nat.le_refl _) with ⟨h1, h2⟩ | ⟨j, c, hj, hc, hcut, hl, h1, h2⟩
  · rw [h1]; exact h
  · rw [h1]
    intro d hd
    rcases List.mem_or_eq_of_mem_set hd with hd | rfl
    · exact h d hd
    · rw [xorAt_len]; exact h c (List.mem_of_getElem? hc)
theorem Med.Small.told {K : Nat} {M : Med} (h : M.Small) (ok : M.Ok K) (x : Cal) : (M.told x).1.Small := by
  have hst := h.step
  have hmv : ∀ s t g, (M.rmove s t g).1.Small := by
    intro s t g
    unfold Med.rmove
    split; · exact h
    split; · exact h
    split; · exact h
    split; · exact hst
    exact hst
  refine Med.told_ind (P := fun r => r.1.Small) ?_ ?_ ?_ ?_ ?_ ?_ ?_ ?_ ?_ ?_ ?_ ?_
  · intro _
    show (M.create x.name).1.Small
    unfold Med.create
    split; · exact h
    split; · exact h
    split; · exact h
    split; · exact h
    split; · exact hst
    intro f hf
    rcases List.mem_append.1 (show f ∈ M.files ++ [Fil.new] from hf) with hf | hf
    · exact h f hf
    · rw [List.mem_singleton.1 hf]; intro c hc; cases hc
  · intro _
    show (M.append x.name x.b).1.Small
    unfold Med.append
    split; · exact h
    split; · exact h
    split; · exact h
    rename_i hf
    split; · exact hst
    refine hst.setFile _ ((h.file _).do ?_)
    have := ok.room
    simp only
    omega
  · intro _
    show (M.truncate x.name x.n).1.Small
    unfold Med.truncate
    split; · exact h
    split; · exact h
    split; · exact h
    split; · exact hst
    exact hst.setFile _ ((h.file _).do (by simp))
  · exact fun _ => hmv _ _ _
  · exact fun _ => hmv _ _ _
  · intro _
    show (M.sync x.name).1.Small
    unfold Med.sync
    split; · exact h
    split; · exact h
    split; · exact hst
    exact hst.setFile _ (fun c hc => by cases hc)
  · intro _
    show M.syncDir.1.Small
    unfold Med.syncDir
    split; · exact h
    split; · exact hst
    exact hst
  · intro _
    show (M.arm x.n).1.Small
    unfold Med.arm
    split; · exact h
    split; · exact h
    exact h
  · intro _
    show (M.rcrash x.l).Small
    intro f hf
    obtain ⟨i, hi, rfl⟩ := List.mem_mapIdx.1 (show f ∈ _ from hf)
    intro c hc; cases hc
  · intro _
    show (M.setRoom x.n).1.Small
    unfold Med.setRoom
    split; · exact h
    split; · exact h
    exact h
  · intro _
    show (M.rot x.name x.n (lowByte x.m)).1.Small
    unfold Med.rot
    split; · exact h
    split; · exact h
    exact h.setFile _ ((h.file _).rot _ _)
  · exact fun _ => h
theorem step_fl (m : Med) : m.step.1.files.length = m.files.length := by rw [m.step_same.2.2.2.1]
theorem told_files {K J : Nat} {M : Med} (h : M.Ok K) (hf : M.files.length ≤ 500 + J) (x : Cal) : (M.told x).1.files.length ≤ 500 + (J + 1) := by
  have hs := step_fl M
  have h' : M.files.length ≤ 500 + (J + 1) := by omega
  have h'' : M.step.1.files.length ≤ 500 + (J + 1) := by omega
  have hset : ∀ i f, (M.step.1.setFile i f).files.length ≤ 500 + (J + 1) := fun i f => by unfold Med.setFile; simp; omega
  have hmv : ∀ s t g, (M.rmove s t g).1.files.length ≤ 500 + (J + 1) := by
    intro s t g
    unfold Med.rmove
    split; · exact h'
    split; · exact h'
    split; · exact h'
    split; · exact h''
    exact h''
  refine Med.told_ind (P := fun r => r.1.files.length ≤ 500 + (J + 1)) ?_ ?_ ?_ ?_ ?_ ?_ ?_ ?_ ?_ ?_ ?_ ?_
  · intro _
    show (M.create x.name).1.files.length ≤ _
    unfold Med.create
    split; · exact h'
    split; · exact h'
    split; · exact h'
    split; · exact h'
    split; · exact h''
    simp only [Med.link, List.length_append, List.length_singleton]; omega
  · intro _
    show (M.append x.name x.b).1.files.length ≤ _
    unfold Med.append
    split; · exact h'
    split; · exact h'
    split; · exact h'
    split; · exact h''
    exact hset _ _
  · intro _
    show (M.truncate x.name x.n).1.files.length ≤ _
    unfold Med.truncate
    split; · exact h'
    split; · exact h'
    split; · exact h'
    split; · exact h''
    exact hset _ _
  · exact fun _ => hmv _ _ _
  · exact fun _ => hmv _ _ _
  · intro _
    show (M.sync x.name).1.files.length ≤ _
    unfold Med.sync
    split; · exact h'
    split; · exact h'
    split; · exact h''
    exact hset _ _
  · intro _
    show M.syncDir.1.files.length ≤ _
    unfold Med.syncDir
    split; · exact h'
    split; · exact h''
    exact h''
  · intro _
    show (M.arm x.n).1.files.length ≤ _
    unfold Med.arm
    split; · exact h'
    split; · exact h'
    exact h'
  · intro _
    show (M.rcrash x.l).files.length ≤ _
    unfold Med.rcrash
    simp only [List.length_mapIdx]
    have := (h.names _ (clampN_le (num x.l 0) M.waits.length)).len
    omega
  · intro _
    show (M.setRoom x.n).1.files.length ≤ _
    unfold Med.setRoom
    split; · exact h'
    split; · exact h'
    exact h'
  · intro _
    show (M.rot x.name x.n (lowByte x.m)).1.files.length ≤ _
    unfold Med.rot
    split; · exact h'
    split; · exact h'
    simp only [Med.setFile, List.length_set]; exact h'
  · exact fun _ => h'
end Go.Med
namespace Go.Proofs.YtlinnpehkfbnkaaGreatDoor
open Go Go.Sl Go.Med Go.MapKept Go.RowKit
section
variable {w0 w : World} {F R : List HProp} {d : Nat} {D : Med} {fsv fv nv wv v lv : Value} {xs : List RF} {g : Bag} {K : Nat}
end
section
variable {w0 w : World} {F R : List HProp} {d : Nat} {D : Med} {fsv fv nv wv v lv : Value} {xs : List RF} {g : Bag} {K : Nat}
end
section
variable {w0 w : World} {F R : List HProp} {d : Nat} {D : Med} {fsv fv nv wv v lv : Value} {xs : List RF} {g : Bag} {K : Nat}
end
section
variable {P : Program} {w0 w : World} {L L' : List HProp} {b o : Nat} {ops : Array Oper} {rest : List Oper} {a : Act} {Q : Exit → Act → World → Prop} {dst : Option Tmp} {t ty T sz n c : Nat} {pos : String} {after : Array Edge} {x y : Operand} {v : Value} {xs : List Value}
end
section
variable {w0 w : World} {F R : List HProp} {d i : Nat} {D : Med} {fsv fv nv wv v lv bv : Value} {xs : List RF} {x : RF} {g : Bag} {K : Nat}
end
def putL (xs : List Value) (i : Nat) (vs : List Value) : List Value := xs.take i ++ (vs ++ xs.drop (i + vs.length))
theorem putL_app (A B vs : List Value) (i : Nat) : putL (A ++ B) (A.length + i) vs = A ++ putL B i vs := by
  unfold putL
  rw [List.take_length_add_append, Nat.add_assoc, List.drop_length_add_append, List.append_assoc]
theorem putL_len {xs vs : List Value} {i : Nat} (h : i + vs.length ≤ xs.length) : (putL xs i vs).length = xs.length := by
  unfold putL
  simp only [List.length_append, List.length_take, List.length_drop]; omega
section
variable {P : Program} {w0 w : World} {L L' : List HProp} {b o : Nat} {ops : Array Oper} {rest : List Oper} {a : Act} {Q : Exit → Act → World → Prop} {dst : Option Tmp} {t ty T sz n c : Nat} {pos : String} {after : Array Edge} {x y : Operand} {v : Value} {xs vs : List Value} {K : Act → World → Prop} {E : Prop}
theorem putsAt_take {cs : Array Value} {i m : Nat} (hx : cs.toList.take m = xs) (hm : m ≤ cs.size) (hi : i + vs.length ≤ m) : (putsAt cs i vs).toList.take m = putL xs i vs := by
  subst hx
  rw [putsAt_list _ _ _ (by omega)]
  have hl : (cs.toList.take i ++ vs).length = i + vs.length := by rw [List.length_append, List.length_take, Array.length_toList]; omega
  unfold putL
  rw [List.take_append, hl, List.take_of_length_le (by omega), List.take_take, Nat.min_eq_left (by omega), List.drop_take, List.append_assoc]
theorem wl_storeSN (i : Nat) (hs : Sat w0 w L) (hx : a.eval x = .pointer (some ⟨b, i, none⟩)) (hy : a.eval y = v) (hv : v.cells.toList = vs) (u : Upd (osl T sz (.slice (some ⟨b, 0, none⟩) n c) xs) (osl T sz (.slice (some ⟨b, 0, none⟩) n c) (putL xs i vs)) L L')
    (hi : i + vs.length ≤ xs.length) (hty : (P.info? ty).map (·.size) = some vs.length) (h1 : vs.all (·.oneCell') = true)
    (hK : ∀ w', Sat w0 w' L' → wpList P ops Q rest (a.put dst undef) w') : wpList P ops Q (⟨dst, .store ty x y, t, pos, after, none⟩ :: rest) a w := by
  have hvs : v.cells.size = vs.length := by rw [← hv, Array.length_toList]
  obtain ⟨R', h2, h3⟩ := u
  have h := hs.perm h2
  rcases Sat.osl_cases h with ⟨he, _⟩ | ⟨g', n', cap', cs, he, k1, k2, k3, k4, k5, k6⟩
  · cases he
  · cases he
    have hlen : xs.length ≤ cs.size := by rw [← k5, List.length_take, Array.length_toList]; omega
    have hm : n * sz ≤ cs.size := Nat.le_trans (Nat.mul_le_mul_right _ k2) k3
    refine wpList_store_sat rfl ty x y rfl i v hx hy (by rw [hvs]; omega) (by rw [hvs]; exact hty) (by rw [← Array.all_toList, hv]; exact h1) k6 fun w' hS => hK w' (Sat.perm ?_ h3.symm)
    refine Sat.osl_of_pt hS (by rw [putL_len hi]; exact k1) k2 (by rw [putsAt_size]; exact k3) k4 ?_
    rw [hv]
    exact putsAt_take k5 hm (by rw [← k1]; exact hi)
theorem eff_storeSN (i : Nat) (hs : Sat w0 w L) (hx : a.eval x = .pointer (some ⟨b, i, none⟩)) (hy : a.eval y = v) (hv : v.cells.toList = vs) (u : Upd (osl T sz (.slice (some ⟨b, 0, none⟩) n c) xs) (osl T sz (.slice (some ⟨b, 0, none⟩) n c) (putL xs i vs)) L L')
    (hi : i + vs.length ≤ xs.length) (hty : (P.info? ty).map (·.size) = some vs.length) (h1 : vs.all (·.oneCell') = true)
    (hK : ∀ w', Sat w0 w' L' → K (a.put dst undef) w') :
    if Region.wanted ⟨dst, .store ty x y, t, pos, after, none⟩ (yielded ops a.tmps) = true then Oper.wp P ⟨dst, .store ty x y, t, pos, after, none⟩ a w K Q else E := by
  have hvs : v.cells.size = vs.length := by rw [← hv, Array.length_toList]
  obtain ⟨R', h2, h3⟩ := u
  have h := hs.perm h2
  rcases Sat.osl_cases h with ⟨he, _⟩ | ⟨g', n', cap', cs, he, k1, k2, k3, k4, k5, k6⟩
  · cases he
  · cases he
    have hlen : xs.length ≤ cs.size := by rw [← k5, List.length_take, Array.length_toList]; omega
    have hm : n * sz ≤ cs.size := Nat.le_trans (Nat.mul_le_mul_right _ k2) k3
    refine eff_store k6 hx hy (cs' := putsAt cs i vs) (by rw [hv]) upd0 (by rw [hvs]; omega) (by rw [hvs]; exact hty) (by rw [hv]; exact h1) fun w' hS => hK w' (Sat.perm ?_ h3.symm)
    refine Sat.osl_of_pt hS (by rw [putL_len hi]; exact k1) k2 (by rw [putsAt_size]; exact k3) k4 ?_
    exact putsAt_take k5 hm (by rw [← k1]; exact hi)
end
section
variable {α : Type} {f : α → List Value} {k : Nat}
theorem rows_len : ∀ {l : List α}, (∀ x ∈ l, (f x).length = k) → (l.flatMap f).length = k * l.length
  | [], _ => rfl
  | x :: l, h => by rw [List.flatMap_cons, List.length_append, h x (.head _), rows_len fun y hy => h y (.tail _ hy), List.length_cons, Nat.mul_succ]; omega
theorem rows_at : ∀ {l : List α} {i : Nat} {x : α} {j : Nat} {v : Value}, (∀ x ∈ l, (f x).length = k) → l[i]? = some x → (f x)[j]? = some v → (l.flatMap f)[i * k + j]? = some v
  | [], _, _, _, _, _, h, _ => by cases h
  | y :: l, 0, x, j, v, hk, h, hj => by
    obtain rfl : y = x := by simpa using h
    rw [List.flatMap_cons, Nat.zero_mul, Nat.zero_add, List.getElem?_append_left (List.getElem?_eq_some_iff.1 hj).1]; exact hj
  | y :: l, i + 1, x, j, v, hk, h, hj => by
    have h0 := hk y (.head _)
    rw [List.flatMap_cons, Nat.succ_mul, List.getElem?_append_right (by omega), h0, show i * k + k + j - k = i * k + j by omega]
    exact rows_at (fun z hz => hk z (.tail _ hz)) (by simpa using h) hj
theorem rows_set : ∀ {l : List α} {i : Nat} {x : α}, (∀ x ∈ l, (f x).length = k) → (f x).length = k → i < l.length → (l.set i x).flatMap f = putL (l.flatMap f) (i * k) (f x)
  | [], _, _, _, _, h => by simp at h
  | y :: l, 0, x, hk, hx, h => by
    have h0 := hk y (.head _)
    rw [List.set_cons_zero, List.flatMap_cons, List.flatMap_cons]
    unfold putL
    rw [Nat.zero_mul, List.take_zero, List.nil_append, Nat.zero_add, hx, ← h0, List.drop_left]
  | y :: l, i + 1, x, hk, hx, h => by
    have h0 := hk y (.head _)
    rw [List.set_cons_succ, List.flatMap_cons, List.flatMap_cons, rows_set (fun z hz => hk z (.tail _ hz)) hx (by simpa using h), Nat.succ_mul, Nat.add_comm (i * k) k, ← h0, putL_app]
theorem rows_rep (n : Nat) (x : α) : (List.replicate n x).flatMap f = (List.replicate n (f x)).flatten := by
  induction n with
  | zero => rfl
  | succ n ih => rw [List.replicate_succ, List.flatMap_cons, ih, List.replicate_succ, List.flatten_cons]
end
section
variable {w0 w : World} {F R : List HProp} {α : Type} {f : α → List Value} {k : Nat} {T : TypeId} {v : Value}
theorem osl_row {l : List α} {i : Nat} {x : α} (hk : ∀ x ∈ l, (f x).length = k) (h : rdsl k v (l.flatMap f) w) (hi : l[i]? = some x) (h0 : 0 < k) :
    ∃ bk off c, v = .slice (some ⟨bk, off, none⟩) l.length c ∧ ∀ j y, (f x)[j]? = some y → w.cell? ⟨bk, off + i * k + j, none⟩ = some y := by
  obtain ⟨a, n, c, rfl, hl, hx⟩ := id h
  rw [rows_len hk] at hl
  have hfx := hk x (List.mem_of_getElem? hi)
  obtain rfl : n = l.length := by
    rw [Nat.mul_comm] at hl
    exact (Nat.eq_of_mul_eq_mul_right h0 hl).symm
  obtain ⟨y0, hy0⟩ : ∃ y, (f x)[0]? = some y := ⟨_, List.getElem?_eq_getElem (by omega)⟩
  have h1 := rows_at hk hi hy0
  obtain ⟨bk, off, rfl, hc⟩ := rdsl_cells h h1
  exact ⟨bk, off, c, rfl, fun j y hj => by rw [Nat.add_assoc]; exact hc _ _ (rows_at hk hi hj)⟩
theorem osl_rows {l : List α} (hk : ∀ x ∈ l, (f x).length = k) (h : rdsl k v (l.flatMap f) w) (h0 : 0 < k) : ∃ a c, v = .slice a l.length c := by
  obtain ⟨a, n, c, rfl, hl, hx⟩ := id h
  rw [rows_len hk, Nat.mul_comm] at hl
  exact ⟨a, c, by rw [Nat.eq_of_mul_eq_mul_right h0 hl]⟩
end
theorem and_mask (x j : Nat) (hx : x < 9223372036854775808) (hj : j < 63) : bits .and .i64 (x : Int) ((2 ^ j - 1 : Nat) : Int) = ((x % 2 ^ j : Nat) : Int) := by
  have h2 : 2 ^ j ≤ 2 ^ 62 := Nat.pow_le_pow_right (by decide) (by omega)
  have h3 : (2 : Nat) ^ 62 = 4611686018427387904 := by decide
  have h4 : 0 < 2 ^ j := Nat.two_pow_pos j
  have hm : (BitVec.ofInt 64 ((2 ^ j - 1 : Nat) : Int)).toNat = 2 ^ j - 1 := by
    rw [BitVec.toNat_ofInt]
    have : ((2 ^ 64 : Nat) : Int) = 18446744073709551616 := by decide
    rw [this]
    omega
  have hn : (BitVec.ofInt 64 (x : Int)).toNat = x := by
    rw [BitVec.toNat_ofInt]
    have : ((2 ^ 64 : Nat) : Int) = 18446744073709551616 := by decide
    rw [this]
    omega
  show IntKind.i64.wrap ((BitVec.ofInt 64 (x : Int) &&& BitVec.ofInt 64 ((2 ^ j - 1 : Nat) : Int)).toNat : Nat) = _
  rw [BitVec.toNat_and, hm, hn, Nat.and_two_pow_sub_one_eq_mod, IntKind.wrap_i64]
  have := Nat.mod_lt x h4
  omega
theorem or_num32 (l : Bs) (c : UInt8) (k : Nat) (hl : l.length = k) (hk : k < 4) : bits .or .u32 ((Frm.num l : Nat) : Int) ((c.toNat : Int) * ((256 ^ k : Nat) : Int)) = ((Frm.num (l ++ [c]) : Nat) : Int) := by
  subst hl
  have h1 := Frm.num_lt l
  have h2 := c.toNat_lt
  have h3 : 256 ^ l.length ≤ 256 ^ 3 := Nat.pow_le_pow_right (by decide) (by omega)
  have h4 : c.toNat * 256 ^ l.length ≤ 255 * 256 ^ 3 := Nat.mul_le_mul (by omega) h3
  have h5 : (256 : Nat) ^ 3 = 16777216 := by decide
  have e : (c.toNat : Int) * ((256 ^ l.length : Nat) : Int) = ((c.toNat * 256 ^ l.length : Nat) : Int) := by rw [Int.natCast_mul]
  rw [e, u32_or_nat _ _ (by omega) (by omega), Frm.num_snoc]
  congr 1
  have hp : (256 : Nat) ^ l.length = 2 ^ (8 * l.length) := by rw [Nat.pow_mul]
  rw [hp] at h1 ⊢
  have := Nat.two_pow_add_eq_or_of_lt h1 c.toNat
  rw [Nat.or_comm, Nat.mul_comm c.toNat, ← this, Nat.add_comm]
section
variable {w0 w : World} {F R : List HProp}
set_option maxRecDepth 20000 in
set_option maxHeartbeats 4000000 in
theorem home_c (k : Bs) (hk : k.length = 32) (j : Nat) (hj : j < 40) (h : Sat w0 w F) :
    Calls Tryz.prog 190 #[.agg (bys k).toArray, .int .i64 (2 ^ j : Nat)] w (Rtn fun v w' => v = .int .i64 (Tab.home k (2 ^ j) : Nat) ∧ Sat w0 w' F) := by
  obtain ⟨c0, c1, c2, c3, t, rfl⟩ : ∃ c0 c1 c2 c3 t, k = c0 :: c1 :: c2 :: c3 :: t := by
    match k, hk with
    | c0 :: c1 :: c2 :: c3 :: t, _ => exact ⟨c0, c1, c2, c3, t, rfl⟩
  have Hh := Lib.hid (show Tab.home (c0 :: c1 :: c2 :: c3 :: t) (2 ^ j) = Frm.num [c0, c1, c2, c3] % 2 ^ j from rfl)
  have hB := h.alloc (.cells (bys (c0 :: c1 :: c2 :: c3 :: t)).toArray 24)
  have e0 : (w.alloc (.cells (bys (c0 :: c1 :: c2 :: c3 :: t)).toArray 24)).cell? ⟨w.heap.size, 0, none⟩ = some (.int .u8 c0.toNat) := hB.cellAt 0 _ rfl
  have e1 : (w.alloc (.cells (bys (c0 :: c1 :: c2 :: c3 :: t)).toArray 24)).cell? ⟨w.heap.size, 1, none⟩ = some (.int .u8 c1.toNat) := hB.cellAt 1 _ rfl
  have e2 : (w.alloc (.cells (bys (c0 :: c1 :: c2 :: c3 :: t)).toArray 24)).cell? ⟨w.heap.size, 2, none⟩ = some (.int .u8 c2.toNat) := hB.cellAt 2 _ rfl
  have e3 : (w.alloc (.cells (bys (c0 :: c1 :: c2 :: c3 :: t)).toArray 24)).cell? ⟨w.heap.size, 3, none⟩ = some (.int .u8 c3.toNat) := hB.cellAt 3 _ rfl
  have b0 := c0.toNat_lt; have b1 := c1.toNat_lt; have b2 := c2.toNat_lt; have b3 := c3.toNat_lt
  have q1 : bits .or .u32 (c0.toNat : Int) ((c1.toNat : Int) * 256) = ((Frm.num [c0, c1] : Nat) : Int) := by
    have := or_num32 [c0] c1 1 rfl (by decide)
    simpa [Frm.num] using this
  have q2 : bits .or .u32 ((Frm.num [c0, c1] : Nat) : Int) ((c2.toNat : Int) * 65536) = ((Frm.num [c0, c1, c2] : Nat) : Int) := or_num32 [c0, c1] c2 2 rfl (by decide)
  have q3 : bits .or .u32 ((Frm.num [c0, c1, c2] : Nat) : Int) ((c3.toNat : Int) * 16777216) = ((Frm.num [c0, c1, c2, c3] : Nat) : Int) := or_num32 [c0, c1, c2] c3 3 rfl (by decide)
  have hn := Frm.num_lt [c0, c1, c2, c3]
  rw [show [c0, c1, c2, c3].length = 4 from rfl, show (256 : Nat) ^ 4 = 4294967296 by decide] at hn
  have hp : (2 : Nat) ^ j ≤ 2 ^ 40 := Nat.pow_le_pow_right (by decide) (by omega)
  have hp1 : (2 : Nat) ^ 40 = 1099511627776 := by decide
  have hp0 : 0 < 2 ^ j := Nat.two_pow_pos j
  have q4 := and_mask (Frm.num [c0, c1, c2, c3]) j (by omega) (by omega)
  generalize Frm.num [c0, c1, c2, c3] = N at *
  generalize hC : 2 ^ j = C at *
  have hw1 : IntKind.i64.wrap ((C : Int) - 1) = ((C - 1 : Nat) : Int) := by rw [IntKind.wrap_i64]; omega
  have hw2 : IntKind.i64.wrap (N : Int) = (N : Int) := IntWalk.i64_in _ (by omega)
  have hm2 : N % C < C := Nat.mod_lt _ hp0
  clear h hk hC hp hp1
  go_enter Tryz.func190, Tryz.ntmps190
  go_wp2_with fail
  go_ret
  refine ⟨_, rfl, ?_, hB.drop⟩
  rw [Hh.out, Int.natCast_emod]; rfl
end
section
variable {w0 w : World} {L L' R F : List HProp} {b o : Nat} {ops : Array Oper} {rest : List Oper} {a : Act} {Q : Exit → Act → World → Prop}
variable {dst : Option Tmp} {t T ty : TypeId} {pos : String} {after : Array Edge} {x y : Operand} {cs : Array Value} {v : Value} {P : Program}
theorem wl_loadW (ks : List Value) (hx : a.eval x = .pointer (some ⟨b, o, none⟩)) (hc : ∀ j v, ks[j]? = some v → w.cell? ⟨b, o + j, none⟩ = some v)
    {d : TypeDesc} (hu : P.underlying ty = some d) (hd : d.isRow = true) (hi : (P.info? ty).map (·.size) = some ks.length)
    (h : wpList P ops Q rest (a.put dst (.agg ks.toArray)) w) : wpList P ops Q (⟨dst, .load ty x, t, pos, after, none⟩ :: rest) a w :=
  wpList_load_mid rfl ty x rfl b o hx ks d hc hu hd hi h
theorem wl_storeA (ks : Array Value) (hs : Sat w0 w L) (hx : a.eval x = .pointer (some ⟨b, 0, none⟩)) (hy : a.eval y = .agg ks) (hsz : ks.size = cs.size) (u : Upd (pt b (.cells cs T (0,0))) (pt b (.cells ks T (0,0))) L L')
    (hi : (P.info? ty).map (·.size) = some ks.size) (h1 : ks.toList.all (·.oneCell') = true)
    (hK : ∀ w', Sat w0 w' L' → wpList P ops Q rest (a.put dst undef) w') : wpList P ops Q (⟨dst, .store ty x y, t, pos, after, none⟩ :: rest) a w :=
  wl_store hs hx hy (putsAt_eq (by
    show (putsAt cs 0 ks.toList).toList = _
    rw [putsAt_list _ _ _ (by rw [Array.length_toList]; omega), List.take_zero, List.nil_append, Nat.zero_add, List.drop_of_length_le (by rw [Array.length_toList, Array.length_toList]; omega), List.append_nil])) u (by show 0 + ks.size ≤ cs.size; omega) hi h1 hK
end
section
variable {w0 w : World} {L L' R F : List HProp} {b : Nat} {ops : Array Oper} {rest : List Oper} {a : Act} {Q : Exit → Act → World → Prop}
variable {dst : Option Tmp} {t T : TypeId} {pos : String} {after : Array Edge} {x y : Operand} {cs : Array Value} {v : Value} {e : Frm.Ent} {da : Option Addr} {dn dc : Nat}
end
end Go.Proofs.YtlinnpehkfbnkaaGreatDoor
