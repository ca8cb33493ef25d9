/-
  'MediaNobodySaid': whatever the input, the law MediaNobody returns true and the input reads as it did. No condition.
-/
import Derived.Test.YtdhhbajggafdhaaMed39
import Derived.Test.YtdhhbajggafdhaaRowD
import Derived.Test.YtdhhbajggafdhaaRows
namespace Go.Proofs.Ytdhhbajggafdhaa.nobodyR
open Go.ChangeShapes Go.WideShapes Go.ChangeAt Go.RowKit
open Go.ChangeMaps (open_string shut_string)
open Go Go.Sl Go.Med
set_option linter.unusedVariables false
theorem walk {W : World} (d : D) (cs : Array Value) (e : dCells d = (Value.agg cs).cells.toList) (i : d.At W) :
    Calls Try.prog 8 #[.agg cs] W fun e w' => e = .returned (.bool true) ∧ Below W.heap.size W w' := by
  have hcs : cs = (dCells d).toArray := by rw [e]; simp [Value.cells]
  subst hcs
  refine (nobody_law_c (F := [Sl.old W]) d i.In i (Sat.start W)).mono ?_
  rintro e w' ⟨v, rfl, rfl, hS⟩
  exact ⟨rfl, hS.below⟩
set_option maxRecDepth 100000 in
theorem lifted (os : Os) (started : os.Started) (H : Type) (enc : TypeId × Value → H) :
    ReturnsInHanded {} Try.checked os 8 .any (Rows.mediaNobodySpec.pre6 enc Try.prog Try.f8 Rows.mediaNobodyRow.domain false) (Rows.mediaNobodySpec.post enc Try.prog Try.f8 false true false false) := by
  refine returnsInHanded_of_change (C := Try.checked) own started (by kernel_rfl) Try.func8
    (ChangeSpec.witness6 (enc := enc) (C := Try.checked) false ⟨#[], #[.agg #[.int .i64 0, .string ByteArray.empty, .string ByteArray.empty, .int .i64 0, .int .i64 0, .slice none 0 0, .slice none 0 0]], []⟩ 8 (by kernel_rfl) (by kernel_rfl) (by kernel_rfl) (by kernel_rfl)) ?_
  intro W base args ds gs before hval0 hW hcnd _
  have hval : ∀ (j : Nat) t v, Try.f8.params[j]? = some t → args[j]? = some v → Value.okWide Try.prog W .any base t v := hval0
  have hW' := hW
  obtain ⟨p, q, hA0, hV, rfl, hfz, hnd⟩ := hW
  have hA : DataW.TrodAll enc Try.prog W 0 (fun _ => true) true Try.f8.params.toList args.toList ds p := hA0
  rw [Try.params8] at hA hval
  obtain ⟨v0, vs0, d0, ds0, p0, q0, hargs, rfl, rfl, h0, r0⟩ := trodAll_cons hA
  obtain ⟨rfl, rfl, rfl⟩ := trodAll_nil r0
  obtain rfl : args = #[v0] := by cases args; simp_all
  obtain ⟨rfl, rfl⟩ := trodVars_none hV
  obtain ⟨cs0, rfl, hcs0⟩ := okWide_struct Try.underlying44 (hval 0 44 v0 rfl rfl)
  have k0 := h0
  have lt0 : ∀ x ∈ p0, x.block < W.heap.size := by obtain ⟨m, hm⟩ := k0; exact DataW.trod_lt m _ _ _ hm
  obtain ⟨d0, e0, i0⟩ : ∃ d : D, dCells d = (Value.agg cs0).cells.toList ∧ d.At W := by
    obtain ⟨fuel, hf⟩ := h0
    exact open_do hf
  clear hA0 hval0
  refine (walk d0 cs0 e0 i0).mono fun e W' ⟨he, bel⟩ => ?_
  subst he
  exact ⟨_, rfl, _, _, _, [], _, [], hW', trodAll_mk1 (shut_bool Try.underlying4 _), (trodAll_cons_mk (Below.trod laidOut (by kernel_rfl) (of_decide_eq_true (by kernel_rfl)) k0 bel lt0) trodAll_mk0), rfl, bel.frame _, fun h => by cases h⟩
theorem over : Rows.mediaNobodyRow.holds Try.pinned (OpenSpec.ofChange Rows.mediaNobodySpec) :=
  OpenClaim.holds_of_wide 8 Try.f8 rfl rfl rfl rfl rfl rfl rfl ⟨rfl, rfl, rfl, rfl, rfl⟩ rfl rfl rfl rfl rfl (by kernel_rfl) Try.func8 (by kernel_rfl)
    (of_decide_eq_true (by kernel_rfl)) (by unfold Func.isWrapper; first | (rw [if_pos (by decide +kernel)]; kernel_rfl) | (rw [if_neg (by decide +kernel)]; exact ⟨rfl, rfl⟩))
    (fun os started H enc _ => lifted os started H enc)
/-- The statement. -/
theorem proved : Rows.MediaNobodySaid := over
#print axioms proved
end Go.Proofs.Ytdhhbajggafdhaa.nobodyR
