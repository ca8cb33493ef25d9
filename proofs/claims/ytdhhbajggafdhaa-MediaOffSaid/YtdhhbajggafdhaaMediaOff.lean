/-
  'MediaOffSaid': whatever the input, the law MediaOff returns true and the input reads as it did. No condition.
-/
import Derived.Test.YtdhhbajggafdhaaMed36
import Derived.Test.YtdhhbajggafdhaaRowD
import Derived.Test.YtdhhbajggafdhaaRows
namespace Go.Proofs.Ytdhhbajggafdhaa.offR
open Go.ChangeShapes Go.WideShapes Go.ChangeAt Go.RowKit
open Go.ChangeMaps (open_string shut_string)
open Go Go.Sl Go.Med
set_option linter.unusedVariables false
theorem walk {W : World} {v0 v1 : Value} (l0 : List D) (r0 : rdsl 7 v0 (l0.flatMap dCells) W) (c0 : capOk v0) (i0 : ∀ d ∈ l0, d.At W) (l1 : List D) (r1 : rdsl 7 v1 (l1.flatMap dCells) W) (c1 : capOk v1) (i1 : ∀ d ∈ l1, d.At W) (z2 : Int) (w2 : inI z2) :
    Calls Try.prog 7 #[v0, v1, .int .i64 z2] W fun e w' => e = .returned (.bool true) ∧ Below W.heap.size W w' := by
  refine (off_law_c (F := [Sl.old W]) ⟨rd_old r0, fun d hd => ⟨(i0 d hd).In, i0 d hd⟩⟩ ⟨rd_old r1, fun d hd => ⟨(i1 d hd).In, i1 d hd⟩⟩ z2 (Sat.start W)).mono ?_
  rintro e w' ⟨v, rfl, rfl, hS⟩
  exact ⟨rfl, hS.below⟩
set_option maxRecDepth 100000 in
theorem lifted (os : Os) (started : os.Started) (H : Type) (enc : TypeId × Value → H) :
    ReturnsInHanded {} Try.checked os 7 .any (Rows.mediaOffSpec.pre6 enc Try.prog Try.f7 Rows.mediaOffRow.domain false) (Rows.mediaOffSpec.post enc Try.prog Try.f7 false true false false) := by
  refine returnsInHanded_of_change (C := Try.checked) own started (by kernel_rfl) Try.func7
    (ChangeSpec.witness6 (enc := enc) (C := Try.checked) false ⟨#[], #[.slice none 0 0, .slice none 0 0, .int .i64 0], []⟩ 8 (by kernel_rfl) (by kernel_rfl) (by kernel_rfl) (by kernel_rfl)) ?_
  intro W base args ds gs before hval0 hW hcnd _
  have hval : ∀ (j : Nat) t v, Try.f7.params[j]? = some t → args[j]? = some v → Value.okWide Try.prog W .any base t v := hval0
  have hW' := hW
  obtain ⟨p, q, hA0, hV, rfl, hfz, hnd⟩ := hW
  have hA : DataW.TrodAll enc Try.prog W 0 (fun _ => true) true Try.f7.params.toList args.toList ds p := hA0
  rw [Try.params7] at hA hval
  obtain ⟨v0, vs0, d0, ds0, p0, q0, hargs, rfl, rfl, h0, r0⟩ := trodAll_cons hA
  obtain ⟨v1, vs1, d1, ds1, p1, q1, rfl, rfl, rfl, h1, r1⟩ := trodAll_cons r0
  obtain ⟨v2, vs2, d2, ds2, p2, q2, rfl, rfl, rfl, h2, r2⟩ := trodAll_cons r1
  obtain ⟨rfl, rfl, rfl⟩ := trodAll_nil r2
  obtain rfl : args = #[v0, v1, v2] := by cases args; simp_all
  obtain ⟨rfl, rfl⟩ := trodVars_none hV
  obtain ⟨a0, len0, cap0, rfl⟩ := okWide_slice Try.underlying40 (hval 0 40 v0 rfl rfl)
  obtain ⟨a1, len1, cap1, rfl⟩ := okWide_slice Try.underlying40 (hval 1 40 v1 rfl rfl)
  obtain ⟨z2, rfl⟩ := okWide_int Try.underlying3 (hval 2 3 v2 rfl rfl)
  have k0 := h0
  have k1 := h1
  have k2 := h2
  have lt0 : ∀ x ∈ p0, x.block < W.heap.size := by obtain ⟨m, hm⟩ := k0; exact DataW.trod_lt m _ _ _ hm
  have lt1 : ∀ x ∈ p1, x.block < W.heap.size := by obtain ⟨m, hm⟩ := k1; exact DataW.trod_lt m _ _ _ hm
  have lt2 : ∀ x ∈ p2, x.block < W.heap.size := by obtain ⟨m, hm⟩ := k2; exact DataW.trod_lt m _ _ _ hm
  obtain ⟨l0, r0, c0, i0⟩ : ∃ ds : List D, rdsl 7 (.slice a0 len0 cap0) (ds.flatMap dCells) W ∧ capOk (.slice a0 len0 cap0) ∧ ∀ d ∈ ds, d.At W := by
    obtain ⟨fuel, hf⟩ := h0
    exact in_dos hf
  obtain ⟨l1, r1, c1, i1⟩ : ∃ ds : List D, rdsl 7 (.slice a1 len1 cap1) (ds.flatMap dCells) W ∧ capOk (.slice a1 len1 cap1) ∧ ∀ d ∈ ds, d.At W := by
    obtain ⟨fuel, hf⟩ := h1
    exact in_dos hf
  have w2 : inI z2 := by
    obtain ⟨fuel, hf⟩ := h2
    obtain ⟨n, hn, _, hw⟩ := DataW.trod_int Try.underlying3 hf
    obtain rfl : z2 = n := by simpa [Value.cells] using hn
    exact bounds_i64 hw
  clear hA0 hval0
  refine (walk l0 r0 c0 i0 l1 r1 c1 i1 z2 w2).mono fun e W' ⟨he, bel⟩ => ?_
  subst he
  exact ⟨_, rfl, _, _, _, [], _, [], hW', trodAll_mk1 (shut_bool Try.underlying4 _), (trodAll_cons_mk (Below.trod laidOut (by kernel_rfl) (of_decide_eq_true (by kernel_rfl)) k0 bel lt0) (trodAll_cons_mk (Below.trod laidOut (by kernel_rfl) (of_decide_eq_true (by kernel_rfl)) k1 bel lt1) (trodAll_cons_mk (Below.trod laidOut (by kernel_rfl) (of_decide_eq_true (by kernel_rfl)) k2 bel lt2) trodAll_mk0))), rfl, bel.frame _, fun h => by cases h⟩
theorem over : Rows.mediaOffRow.holds Try.pinned (OpenSpec.ofChange Rows.mediaOffSpec) :=
  OpenClaim.holds_of_wide 7 Try.f7 rfl rfl rfl rfl rfl rfl rfl ⟨rfl, rfl, rfl, rfl, rfl⟩ rfl rfl rfl rfl rfl (by kernel_rfl) Try.func7 (by kernel_rfl)
    (of_decide_eq_true (by kernel_rfl)) (by unfold Func.isWrapper; first | (rw [if_pos (by decide +kernel)]; kernel_rfl) | (rw [if_neg (by decide +kernel)]; exact ⟨rfl, rfl⟩))
    (fun os started H enc _ => lifted os started H enc)
/-- The statement. -/
theorem proved : Rows.MediaOffSaid := over
#print axioms proved
end Go.Proofs.Ytdhhbajggafdhaa.offR
