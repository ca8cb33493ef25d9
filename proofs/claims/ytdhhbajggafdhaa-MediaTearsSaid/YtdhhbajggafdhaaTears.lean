/-
  'MediaTearsSaid': whatever the input, the law MediaTears returns true and the input reads as it did. No condition.
-/
import Derived.Test.YtdhhbajggafdhaaMed21
import Derived.Test.YtdhhbajggafdhaaRows
import Derived.WalkKit
import Derived.ProofKit
import Derived.OpenShut
import Derived.ShutString
import Derived.ChangeOld
import Derived.Below
import Derived.Deep.Matrix
namespace Go.Proofs.Ytdhhbajggafdhaa.tears
open Go.ChangeShapes Go.WideShapes Go.ChangeAt Go.RowKit
open Go.ChangeMaps (open_string shut_string)
open Go Go.Sl Go.Med
set_option linter.unusedVariables false
theorem own : ownKnob Try.prog.godebug = none := by kernel_rfl
theorem laidOut : laidOutB Try.prog = true := by kernel_rfl
theorem cell_old {W w : World} {a : Addr} {v : Value} (h : Sat W w [Sl.old W]) (hc : W.cell? a = some v) : w.cell? a = some v := by
  have hlt : a.block < W.heap.size := by
    rcases Nat.lt_or_ge a.block W.heap.size with h1 | h1
    · exact h1
    · unfold World.cell? at hc
      rw [Array.getElem?_eq_none h1] at hc
      simp at hc
  unfold World.cell? at hc ⊢
  rw [h.old hlt]; exact hc
theorem rd_old {W : World} {v : Value} {xs : List Value} (h : rdsl 1 v xs W) : Ro W [Sl.old W] (rdsl 1 v xs) := by
  intro w hw
  obtain ⟨a, n, c, he, hl, hx⟩ := h
  refine ⟨a, n, c, he, hl, fun i x hi => ?_⟩
  obtain ⟨b, hb, hc⟩ := hx i x hi
  exact ⟨b, hb, cell_old hw hc⟩
/-- What the walk is told of a slice of integers that came in. -/
theorem row_rd {W : World} {x : Addr} {n c : Nat} {zs : List Int} {k : IntKind} (hc : ∀ i, i < zs.length → W.cell? (x.add i) = some (.int k (zs.getD i 0))) (hn : n ≤ zs.length) :
    rdsl 1 (.slice (some x) n c) ((zs.take n).map (.int k)) W := by
  refine ⟨some x, n, c, rfl, by simp; omega, fun i y hi => ⟨x, rfl, ?_⟩⟩
  rw [List.getElem?_map, List.getElem?_take] at hi
  split at hi
  · rename_i hin
    have := hc i (by omega)
    rw [List.getD_eq_getElem?_getD, List.getElem?_eq_getElem (by omega)] at this
    rw [List.getElem?_eq_getElem (by omega)] at hi
    simp at hi this
    rw [this, hi]
  · simp at hi
def toBs (zs : List Int) : Bs := zs.map fun z => UInt8.ofNat z.toNat
theorem bys_toBs {zs : List Int} (h : ∀ z ∈ zs, (Lit.int .u8 z).wf = true) : bys (toBs zs) = zs.map (.int .u8) := by
  unfold bys toBs
  rw [List.map_map]
  apply List.map_congr_left
  intro z hz
  have hb := bounds_u8 (h z hz)
  simp only [Function.comp, Value.int.injEq, true_and]
  rw [UInt8.toNat_ofNat']
  omega
theorem nil_rd {W : World} : rdsl 1 (.slice none 0 0) [] W := ⟨none, 0, 0, rfl, rfl, fun i x hi => by cases hi⟩
/-- A slice of bytes that came in. -/
theorem in_bytes {W : World} {a : Option Addr} {n c : Nat}
    (h : (a = none ∧ n = 0 ∧ c = 0) ∨ ∃ (x : Addr) (zs : List Int), a = some x ∧ n ≤ c ∧ c ≤ maxLen ∧ zs.length = c ∧ (∀ i, i < zs.length → W.cell? (x.add i) = some (.int .u8 (zs.getD i 0))) ∧ ∀ z ∈ zs, (Lit.int .u8 z).wf = true) :
    ∃ l : Bs, rdsl 1 (.slice a n c) (bys l) W ∧ capOk (.slice a n c) := by
  rcases h with ⟨rfl, rfl, rfl⟩ | ⟨x, zs, rfl, h1, h2, h3, h4, h5⟩
  · exact ⟨[], nil_rd, _, _, _, rfl, Nat.le_refl _, by omega⟩
  · refine ⟨toBs (zs.take n), ?_, _, _, _, rfl, h1, by unfold maxLen at h2; omega⟩
    rw [bys_toBs (fun z hz => h5 z (List.mem_of_mem_take hz))]
    exact row_rd h4 (by omega)
/-- A slice of numbers that came in. -/
theorem in_ints {W : World} {a : Option Addr} {n c : Nat}
    (h : (a = none ∧ n = 0 ∧ c = 0) ∨ ∃ (x : Addr) (zs : List Int), a = some x ∧ n ≤ c ∧ c ≤ maxLen ∧ zs.length = c ∧ (∀ i, i < zs.length → W.cell? (x.add i) = some (.int .i64 (zs.getD i 0))) ∧ ∀ z ∈ zs, (Lit.int .i64 z).wf = true) :
    ∃ l : List Int, rdsl 1 (.slice a n c) (ints l) W ∧ capOk (.slice a n c) ∧ ∀ x ∈ l, inI x := by
  rcases h with ⟨rfl, rfl, rfl⟩ | ⟨x, zs, rfl, h1, h2, h3, h4, h5⟩
  · exact ⟨[], nil_rd, ⟨_, _, _, rfl, Nat.le_refl _, by omega⟩, by simp⟩
  · exact ⟨zs.take n, row_rd h4 (by omega), ⟨_, _, _, rfl, h1, by unfold maxLen at h2; omega⟩, fun x hx => bounds_i64 (h5 x (List.mem_of_mem_take hx))⟩
theorem walk {W : World} {v0 v1 v2 : Value} (lf : Bs) (h0 : rdsl 1 v0 (bys lf) W) (c0 : capOk v0) (rows : List (Value × Bs)) (h1 : rdsl 1 v1 (rows.map (·.1)) W) (c1 : capOk v1)
    (h2 : ∀ p ∈ rows, capOk p.1 ∧ rdsl 1 p.1 (bys p.2) W) (l : List Int) (h3 : rdsl 1 v2 (ints l) W) (c3 : capOk v2) (hi : ∀ x ∈ l, inI x) :
    Calls Try.prog 3 #[v0, v1, v2] W fun e w' => e = .returned (.bool true) ∧ Below W.heap.size W w' := by
  refine (tears_c (F := [Sl.old W]) (Sat.start W) lf (rd_old h0) c0 rows (rd_old h1) c1 (fun p hp => ⟨(h2 p hp).1, rd_old (h2 p hp).2⟩) l (rd_old h3) c3 hi).mono ?_
  rintro e w' ⟨v, rfl, rfl, hS⟩
  exact ⟨rfl, hS.below⟩
set_option maxRecDepth 100000 in
theorem lifted (os : Os) (started : os.Started) (H : Type) (enc : TypeId × Value → H) :
    ReturnsInHanded {} Try.checked os 3 .any (Rows.mediaTearsSpec.pre6 enc Try.prog Try.f3 Rows.mediaTearsRow.domain false) (Rows.mediaTearsSpec.post enc Try.prog Try.f3 false true false false) := by
  refine returnsInHanded_of_change (C := Try.checked) own started (by kernel_rfl) Try.func3
    (ChangeSpec.witness6 (enc := enc) (C := Try.checked) false ⟨#[], #[.slice none 0 0, .slice none 0 0, .slice none 0 0], []⟩ 8 (by kernel_rfl) (by kernel_rfl) (by kernel_rfl) (by kernel_rfl)) ?_
  intro W base args ds gs before hval0 hW hcnd _
  have hval : ∀ (j : Nat) t v, Try.f3.params[j]? = some t → args[j]? = some v → Value.okWide Try.prog W .any base t v := hval0
  have hW' := hW
  obtain ⟨p, q, hA0, hV, rfl, hfz, hnd⟩ := hW
  have hA : DataW.TrodAll enc Try.prog W 0 (fun _ => true) true Try.f3.params.toList args.toList ds p := hA0
  rw [Try.params3] at hA hval
  obtain ⟨v0, vs0, d0, ds0, p0, q0, hargs, rfl, rfl, h0, r0⟩ := trodAll_cons hA
  obtain ⟨v1, vs1, d1, ds1, p1, q1, rfl, rfl, rfl, h1, r1⟩ := trodAll_cons r0
  obtain ⟨v2, vs2, d2, ds2, p2, q2, rfl, rfl, rfl, h2, r2⟩ := trodAll_cons r1
  obtain ⟨rfl, rfl, rfl⟩ := trodAll_nil r2
  obtain rfl : args = #[v0, v1, v2] := by cases args; simp_all
  obtain ⟨rfl, rfl⟩ := trodVars_none hV
  obtain ⟨a0, len0, cap0, rfl⟩ := okWide_slice Try.underlying22 (hval 0 22 v0 rfl rfl)
  obtain ⟨a1, len1, cap1, rfl⟩ := okWide_slice Try.underlying23 (hval 1 23 v1 rfl rfl)
  obtain ⟨a2, len2, cap2, rfl⟩ := okWide_slice Try.underlying24 (hval 2 24 v2 rfl rfl)
  have k0 := h0
  have k1 := h1
  have k2 := h2
  have lt0 : ∀ x ∈ p0, x.block < W.heap.size := by obtain ⟨m, hm⟩ := k0; exact DataW.trod_lt m _ _ _ hm
  have lt1 : ∀ x ∈ p1, x.block < W.heap.size := by obtain ⟨m, hm⟩ := k1; exact DataW.trod_lt m _ _ _ hm
  have lt2 : ∀ x ∈ p2, x.block < W.heap.size := by obtain ⟨m, hm⟩ := k2; exact DataW.trod_lt m _ _ _ hm
  obtain ⟨lf, g0, e0⟩ : ∃ l : Bs, rdsl 1 (.slice a0 len0 cap0) (bys l) W ∧ capOk (.slice a0 len0 cap0) := by
    obtain ⟨fuel, hf⟩ := h0
    refine in_bytes ?_
    rcases open_ints Try.underlying22 Try.underlying5 (by kernel_rfl) hf with ⟨hcs, _⟩ | ⟨x, l, c, zs, hcs, _, hl, hm, hz, _, hcell, hwz⟩
    · simp [Value.cells] at hcs
      exact .inl hcs
    · simp [Value.cells] at hcs
      obtain ⟨rfl, rfl, rfl⟩ := hcs
      exact .inr ⟨x, zs, rfl, hl, hm, by simpa using hz, hcell, hwz⟩
  obtain ⟨li, g2, e2, f2⟩ : ∃ l : List Int, rdsl 1 (.slice a2 len2 cap2) (ints l) W ∧ capOk (.slice a2 len2 cap2) ∧ ∀ x ∈ l, inI x := by
    obtain ⟨fuel, hf⟩ := h2
    refine in_ints ?_
    rcases open_ints Try.underlying24 Try.underlying3 (by kernel_rfl) hf with ⟨hcs, _⟩ | ⟨x, l, c, zs, hcs, _, hl, hm, hz, _, hcell, hwz⟩
    · simp [Value.cells] at hcs
      exact .inl hcs
    · simp [Value.cells] at hcs
      obtain ⟨rfl, rfl, rfl⟩ := hcs
      exact .inr ⟨x, zs, rfl, hl, hm, by simpa using hz, hcell, hwz⟩
  obtain ⟨rows, g1, e1, f1⟩ : ∃ rows : List (Value × Bs), rdsl 1 (.slice a1 len1 cap1) (rows.map (·.1)) W ∧ capOk (.slice a1 len1 cap1) ∧ ∀ p ∈ rows, capOk p.1 ∧ rdsl 1 p.1 (bys p.2) W := by
    obtain ⟨fuel, hf⟩ := h1
    rcases Go.Deep.open_int_rows Try.underlying23 Try.underlying22 Try.underlying5 (by kernel_rfl) (by kernel_rfl) hf with ⟨hcs, _⟩ | ⟨x, l, c, A, L, C, Z, hcs, _, hl, hm, _, hrow⟩
    · simp [Value.cells] at hcs
      obtain ⟨rfl, rfl, rfl⟩ := hcs
      exact ⟨[], nil_rd, ⟨_, _, _, rfl, Nat.le_refl _, by omega⟩, by simp⟩
    · simp [Value.cells] at hcs
      obtain ⟨rfl, rfl, rfl⟩ := hcs
      have each : ∀ r, r < cap1 → ∃ b : Bs, rdsl 1 (.slice (A r) (L r) (C r)) (bys b) W ∧ capOk (.slice (A r) (L r) (C r)) := by
        intro r hr
        obtain ⟨_, h3, h4, h5, h6, h7, h8⟩ := hrow r hr
        refine in_bytes ?_
        cases hA1 : A r with
        | none => have := h7 hA1; exact .inl ⟨rfl, by omega, this⟩
        | some y => exact .inr ⟨y, Z r, rfl, h3, h4, h5, fun i hi => (h8 y hA1).2 i (by omega), h6⟩
      obtain ⟨B, hB⟩ : ∃ B : Nat → Bs, ∀ r, r < cap1 → rdsl 1 (.slice (A r) (L r) (C r)) (bys (B r)) W ∧ capOk (.slice (A r) (L r) (C r)) :=
        ⟨fun r => if hr : r < cap1 then Classical.choose (each r hr) else [], fun r hr => by
          simp only [hr, dif_pos]
          exact Classical.choose_spec (each r hr)⟩
      refine ⟨(List.range len1).map fun r => (.slice (A r) (L r) (C r), B r), ?_, ⟨_, _, _, rfl, hl, by unfold maxLen at hm; omega⟩, ?_⟩
      · refine ⟨_, _, _, rfl, by simp, fun i y hi => ⟨x, rfl, ?_⟩⟩
        rw [List.map_map, List.getElem?_map] at hi
        by_cases hil : i < len1
        · rw [List.getElem?_range hil] at hi
          simp at hi
          rw [← hi]
          exact (hrow i (by omega)).1
        · rw [List.getElem?_eq_none (by simpa using hil)] at hi
          cases hi
      · intro p hp
        obtain ⟨r, hr, rfl⟩ := List.mem_map.1 hp
        have hr' : r < cap1 := by have := List.mem_range.1 hr; omega
        exact ⟨(hB r hr').2, (hB r hr').1⟩
  clear hA0 hval0
  refine (walk lf g0 e0 rows g1 e1 f1 li g2 e2 f2).mono fun e W' ⟨he, bel⟩ => ?_
  subst he
  exact ⟨_, rfl, _, _, _, [], _, [], hW', trodAll_mk1 (shut_bool Try.underlying4 _), (trodAll_cons_mk (Below.trod laidOut (by kernel_rfl) (of_decide_eq_true (by kernel_rfl)) k0 bel lt0) (trodAll_cons_mk (Below.trod laidOut (by kernel_rfl) (of_decide_eq_true (by kernel_rfl)) k1 bel lt1) (trodAll_cons_mk (Below.trod laidOut (by kernel_rfl) (of_decide_eq_true (by kernel_rfl)) k2 bel lt2) trodAll_mk0))), rfl, bel.frame _, fun h => by cases h⟩
theorem over : Rows.mediaTearsRow.holds Try.pinned (OpenSpec.ofChange Rows.mediaTearsSpec) :=
  OpenClaim.holds_of_wide 3 Try.f3 rfl rfl rfl rfl rfl rfl rfl ⟨rfl, rfl, rfl, rfl, rfl⟩ rfl rfl rfl rfl rfl (by kernel_rfl) Try.func3 (by kernel_rfl)
    (of_decide_eq_true (by kernel_rfl)) (by unfold Func.isWrapper; first | (rw [if_pos (by decide +kernel)]; kernel_rfl) | (rw [if_neg (by decide +kernel)]; exact ⟨rfl, rfl⟩))
    (fun os started H enc _ => lifted os started H enc)
/-- The statement. -/
theorem proved : Rows.MediaTearsSaid := over
#print axioms proved
end Go.Proofs.Ytdhhbajggafdhaa.tears
