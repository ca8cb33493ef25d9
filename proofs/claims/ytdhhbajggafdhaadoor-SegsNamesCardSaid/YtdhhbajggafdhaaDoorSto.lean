import Derived.Test.YtdhhbajggafdhaaDoorSg5
import Derived.Deep.MidRow
/- A store, told at the separation logic: the world behind it is any that holds the block so. -/
namespace Go.Proofs.YtdhhbajggafdhaaDoor
open Go Go.Sl Go.Med Go.MapKept Go.RowKit
set_option linter.unusedVariables false
section
variable {P : Program} {w0 w : World} {R : List HProp} {b : Nat}
/-- Cells, put one behind the other. -/
def putsAt (cs : Array Value) : Nat → List Value → Array Value
  | _, [] => cs
  | o, v :: r => putsAt (cs.setIfInBounds o v) (o + 1) r
theorem putsAt_size : ∀ (vs : List Value) (cs : Array Value) (o : Nat), (putsAt cs o vs).size = cs.size
  | [], _, _ => rfl
  | v :: r, cs, o => by rw [putsAt, putsAt_size r, Array.size_setIfInBounds]
theorem Sat.sets : ∀ (vs : List Value) {cs : Array Value} {T : TypeId} {w : World} (o : Nat), Sat w0 w (pt b (.cells cs T (0,0)) :: R) → Sat w0 (w.setCells b o vs) (pt b (.cells (putsAt cs o vs) T (0,0)) :: R)
  | [], _, _, _, _, h => h
  | v :: r, _, _, _, o, h => Sat.sets r (o + 1) (h.set o v)
theorem wpList_store_sat {ops : Array Oper} {rest : List Oper} {op : Oper} {a : Act} {Q : Exit → Act → World → Prop} {cs : Array Value} {T : TypeId} (hgd : op.guard = none) (ty : TypeId) (x y : Operand) (ho : op.op = .store ty x y)
    (o : Nat) (v : Value) (hx : a.eval x = .pointer (some ⟨b, o, none⟩)) (hy : a.eval y = v) (hfit : o + v.cells.size ≤ cs.size)
    (hi : (P.info? ty).map (·.size) = some v.cells.size) (h1 : v.cells.all (·.oneCell') = true) (h : Sat w0 w (pt b (.cells cs T (0,0)) :: R))
    (hK : ∀ w', Sat w0 w' (pt b (.cells (putsAt cs o v.cells.toList) T (0,0)) :: R) → wpList P ops Q rest (a.put op.dst undef) w') : wpList P ops Q (op :: rest) a w := by
  have hth : w.there b o v.cells.size := by
    intro j hj
    refine ⟨?_, h.freeAt _⟩
    rw [h.cellAt (o + j) _ (Array.getElem?_eq_getElem (show o + j < cs.size by omega))]
    rfl
  refine wpList_plain hgd fun _ hK' => ?_
  have hst := run_storeCells_cells (P := P) b o v.cells.toList 0 w (fun j hj => by simpa using (hth j (by simpa using hj)).1) (fun j hj => by simpa using (hth j (by simpa using hj)).2)
    (fun u hu => (Array.all_eq_true_iff_forall_mem.1 h1) u (by simpa using hu))
  have hrun : (storeVar ty ⟨b, o, none⟩ v).run P w = .ok () (w.setCells b o v.cells.toList) := by
    cases hq : P.info? ty with
    | none => simp [hq] at hi
    | some i =>
      have hs : v.cells.size = i.size := by simp [hq] at hi; omega
      simp only [Nat.add_zero] at hst
      simp [storeVar, sizeOf, typeInfo, hq, hs, hst]
  unfold Oper.wp execOp
  simp only [ho, hx, hy, Instr.storeAt, Instr.sureAddr, Sem.run_bind, Sem.run_pure, Result.andThen_ok, hrun]
  exact hK' _ _ (hK _ (Sat.sets _ _ h))
/-- To halt a walk at a store: 'go_wp2_with (refine wpList_stop (by rfl) ?_)', then 'refine ⟨?_⟩'. -/
structure Stop (p : Prop) : Prop where
  out : p
theorem wpList_stop {ops : Array Oper} {rest : List Oper} {op : Oper} {a : Act} {Q : Exit → Act → World → Prop} {ty : TypeId} {x y : Operand} (ho : op.op = .store ty x y)
    (h : Stop (wpList P ops Q (op :: rest) a w)) : wpList P ops Q (op :: rest) a w := h.out
end
end Go.Proofs.YtdhhbajggafdhaaDoor
