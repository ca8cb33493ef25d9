import Derived.Test.YtdhhbajggafdhaaMed28
/- A []Do that came in. -/
namespace Go.Proofs.Ytdhhbajggafdhaa
open Go Go.Sl Go.Med Go.ChangeShapes Go.WideShapes Go.RowKit
section
variable {H : Type} {enc : TypeId × Value → H} {W : World} {base : Nat} {spare : Nat → Bool} {held : Bool}
set_option maxRecDepth 100000 in
theorem open_do {fuel : Nat} {cs : List Value} {x : DataW H × List MemPlace} (h : DataW.trod enc Try.prog W base spare held fuel 44 cs = some x) : ∃ d : D, dCells d = cs ∧ d.At W := by
  obtain ⟨hl, hf⟩ := open_fields Try.underlying44 h
  have e7 : Try.prog.cellsOf 44 = 7 := by kernel_rfl
  have e1 : Try.prog.cellsOf 3 = 1 := by kernel_rfl
  have e2 : Try.prog.cellsOf 9 = 1 := by kernel_rfl
  have e3 : Try.prog.cellsOf 22 = 1 := by kernel_rfl
  have e4 : Try.prog.cellsOf 24 = 1 := by kernel_rfl
  have e5 : Try.prog.cellsOf 5 = 1 := by kernel_rfl
  rw [e7] at hl
  match cs, hl with
  | [v0, v1, v2, v3, v4, v5, v6], _ =>
    obtain ⟨n0, y0, h0⟩ := hf 0 _ rfl
    obtain ⟨n1, y1, h1⟩ := hf 1 _ rfl
    obtain ⟨n2, y2, h2⟩ := hf 2 _ rfl
    obtain ⟨n3, y3, h3⟩ := hf 3 _ rfl
    obtain ⟨n4, y4, h4⟩ := hf 4 _ rfl
    obtain ⟨n5, y5, h5⟩ := hf 5 _ rfl
    obtain ⟨n6, y6, h6⟩ := hf 6 _ rfl
    simp only [List.getElem_toArray, List.getElem_cons_zero, List.getElem_cons_succ, e1, e2, e3, e4, List.drop_zero, List.drop_succ_cons, List.take_succ_cons, List.take_zero] at h0 h1 h2 h3 h4 h5 h6
    obtain ⟨z0, q0, _, w0⟩ := DataW.trod_int Try.underlying3 h0
    obtain ⟨z1, q1, _, w1⟩ := DataW.trod_string Try.underlying9 h1
    obtain ⟨z2, q2, _, w2⟩ := DataW.trod_string Try.underlying9 h2
    obtain ⟨z3, q3, _, w3⟩ := DataW.trod_int Try.underlying3 h3
    obtain ⟨z4, q4, _, w4⟩ := DataW.trod_int Try.underlying3 h4
    obtain ⟨l5, r5, c5⟩ := in_bys Try.underlying22 Try.underlying5 e5 h5
    obtain ⟨l6, r6, c6, i6⟩ := in_nums Try.underlying24 Try.underlying3 e1 h6
    simp only [List.cons.injEq, and_true] at q0 q1 q2 q3 q4
    subst q0; subst q1; subst q2; subst q3; subst q4
    exact ⟨⟨z0, z1, z2, z3, z4, v5, l5, v6, l6⟩, rfl, bounds_i64 w0, w1, w2, bounds_i64 w3, bounds_i64 w4, r5, c5, r6, c6, i6⟩
theorem in_dos {fuel : Nat} {v : Value} {x : DataW H × List MemPlace} (h : DataW.trod enc Try.prog W base spare held fuel 40 [v] = some x) :
    ∃ ds : List D, rdsl 7 v (ds.flatMap dCells) W ∧ capOk v ∧ ∀ d ∈ ds, d.At W := by
  obtain ⟨elems, h1, h2, h3⟩ := open_sl Try.underlying40 (k := 7) (by kernel_rfl) (by omega) h
  obtain ⟨ds, h4, h5⟩ := map_of (f := dCells) (p := fun d => d.At W) elems fun cs hcs => by
    obtain ⟨_, n, y, h6⟩ := h3 cs hcs
    exact open_do h6
  refine ⟨ds, ?_, h2, h5⟩
  rw [List.flatMap_def, h4]
  exact h1
theorem D.At.In {d : D} (h : d.At W) : d.In W [Sl.old W] := ⟨rd_old h.b, h.bc, rd_old h.l, h.lc⟩
end
end Go.Proofs.Ytdhhbajggafdhaa
