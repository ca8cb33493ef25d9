import Derived.Test.YtdhhbajggafdhaaDoorFr2
import Derived.Test.YtdhhbajggafdhaaDoorRowS
import Derived.ChangeKeysEq
import Derived.Laws.Rows
/- Entries in memory; keys; check. -/
namespace Go.Proofs.YtdhhbajggafdhaaDoor
open Go Go.Sl Go.Med Go.MapKept Go.RowKit
section
variable {w0 w : World} {F : List HProp} {v bv dv : Value} {q : Nat}
section
variable {P : Program}
theorem run_part_int {e : TypeId} {k : IntKind} (he : P.underlying e = some (.int k)) (xs : Array Value) (i : Nat) (v : Value) (hv : xs[i]? = some v) (w : World) : (part e xs i).run P w = .ok v w := by
  unfold part isAgg
  simp [Sem.run_bind, run_underlying he, hv]
theorem run_eqItems_int (d : Nat) {e : TypeId} {k : IntKind} (he : P.underlying e = some (.int k)) (ks ls : List Int) : ∀ (is : List Nat), (∀ i ∈ is, i < ks.length ∧ i < ls.length) → ∀ w,
    (Op.eqItems (d + 1) e 1 (ks.map (.int k)).toArray (ls.map (.int k)).toArray is).run P w = .ok (is.all fun i => ks.getD i 0 == ls.getD i 0) w
  | [], _, w => by simp [Op.eqItems]
  | i :: is, h, w => by
    obtain ⟨h1, h2⟩ := h i (.head _)
    have a1 : ((ks.map (Value.int k)).toArray)[i * 1]? = some (.int k (ks.getD i 0)) := by
      rw [Nat.mul_one, List.getElem?_toArray, List.getElem?_map, List.getElem?_eq_getElem h1, List.getD_eq_getElem?_getD, List.getElem?_eq_getElem h1]; rfl
    have a2 : ((ls.map (Value.int k)).toArray)[i * 1]? = some (.int k (ls.getD i 0)) := by
      rw [Nat.mul_one, List.getElem?_toArray, List.getElem?_map, List.getElem?_eq_getElem h2, List.getD_eq_getElem?_getD, List.getElem?_eq_getElem h2]; rfl
    unfold Op.eqItems
    simp only [Sem.run_bind, run_part_int he _ _ _ a1, run_part_int he _ _ _ a2, Result.andThen_ok, run_equalIn_int w d e k k _ _ he]
    have ih := run_eqItems_int d he ks ls is (fun j hj => h j (.tail _ hj)) w
    cases hb : (ks.getD i 0 == ls.getD i 0)
    · simp only [List.all_cons, hb, Bool.not_false, if_true, Sem.run_pure, Bool.false_and]
    · simp only [List.all_cons, hb, Bool.not_true, Bool.false_eq_true, if_false, ih, Bool.true_and]
theorem all_eq (ks ls : List Int) (h : ks.length = ls.length) : ((List.range ks.length).all fun i => ks.getD i 0 == ls.getD i 0) = decide (ks = ls) := by
  rw [Bool.eq_iff_iff, List.all_eq_true, decide_eq_true_eq]
  constructor
  · intro hh
    apply List.ext_getElem h
    intro i h1 h2
    have := hh i (List.mem_range.2 h1)
    rw [beq_iff_eq, List.getD_eq_getElem?_getD, List.getD_eq_getElem?_getD, List.getElem?_eq_getElem h1, List.getElem?_eq_getElem h2] at this
    exact this
  · rintro rfl i _
    simp
theorem run_neq_ints {t e : TypeId} {n : Nat} {k : IntKind} {i : TypeInfo} (hu : P.underlying t = some (.array n e)) (he : P.underlying e = some (.int k)) (hi : P.info? e = some i) (hc : P.cellsOf e = 1) (ks ls : List Int) (h1 : ks.length = n) (h2 : ls.length = n) (w : World) :
    (binOp .neq t (.agg (ks.map (.int k)).toArray) (.agg (ls.map (.int k)).toArray)).run P w = .ok (.bool (!decide (ks = ls))) w := by
  have h := run_equalIn_array (P := P) w 9999 (ks.map (.int k)).toArray (ls.map (.int k)).toArray hu hi
  rw [hc, run_eqItems_int 9998 he ks ls (List.range n) (fun i hi => by have := List.mem_range.1 hi; omega)] at h
  rw [run_neq_struct, h, ← h1, all_eq ks ls (by omega)]
  rfl
theorem run_eql_ints {t e : TypeId} {n : Nat} {k : IntKind} {i : TypeInfo} (hu : P.underlying t = some (.array n e)) (he : P.underlying e = some (.int k)) (hi : P.info? e = some i) (hc : P.cellsOf e = 1) (ks ls : List Int) (h1 : ks.length = n) (h2 : ls.length = n) (w : World) :
    (binOp .eql t (.agg (ks.map (.int k)).toArray) (.agg (ls.map (.int k)).toArray)).run P w = .ok (.bool (decide (ks = ls))) w := by
  have h := run_equalIn_array (P := P) w 9999 (ks.map (.int k)).toArray (ls.map (.int k)).toArray hu hi
  rw [hc, run_eqItems_int 9998 he ks ls (List.range n) (fun i hi => by have := List.mem_range.1 hi; omega)] at h
  rw [run_eql_struct, h, ← h1, all_eq ks ls (by omega)]
  rfl
theorem run_eqIn_ints {t e : TypeId} {n : Nat} {k : IntKind} {i : TypeInfo} (hu : P.underlying t = some (.array n e)) (he : P.underlying e = some (.int k)) (hi : P.info? e = some i) (hc : P.cellsOf e = 1) (ks ls : List Int) (h1 : ks.length = n) (h2 : ls.length = n) (w : World) :
    (Op.equalIn 10000 t (.agg (ks.map (.int k)).toArray) (.agg (ls.map (.int k)).toArray)).run P w = .ok (decide (ks = ls)) w := by
  have h := run_equalIn_array (P := P) w 9999 (ks.map (.int k)).toArray (ls.map (.int k)).toArray hu hi
  rw [hc, run_eqItems_int 9998 he ks ls (List.range n) (fun i hi => by have := List.mem_range.1 hi; omega)] at h
  rw [h, ← h1, all_eq ks ls (by omega)]
/-- A row of cells out of a block. -/
theorem run_loadVar_sub (w : World) (g off : Nat) (t ty : TypeId) (cs ks : Array Value) (fr : Nat × Nat) (d : TypeDesc) (hg : w.heap[g]? = some (.cells cs t fr)) (hk : ∀ j v, ks[j]? = some v → cs[off + j]? = some v)
    (hu : P.underlying ty = some d) (hd : (match d with | .struct _ | .array _ _ => true | _ => false) = true) (hi : (P.info? ty).map (·.size) = some ks.size) :
    (loadVar ty ⟨g, off, none⟩).run P w = .ok (.agg ks) w := by
  have hl : (loadCells ⟨g, off, none⟩ ks.toList.length).run P w = .ok ks.toList.toArray w :=
    run_loadCells_list (P := P) w ⟨g, off, none⟩ ks.toList (fun j v hv => by
      have hadd : (⟨g, off, none⟩ : Addr).add j = ⟨g, off + j, none⟩ := by unfold Addr.add; split <;> simp_all
      rw [hadd, cell_of_row w g _ cs t fr hg]
      exact hk j v (by simpa using hv))
  cases hq : P.info? ty with
  | none => simp [hq] at hi
  | some i =>
    have hs : i.size = ks.size := by simpa [hq] using hi
    have hagg : (isAgg ty).run P w = .ok true w := by
      unfold isAgg
      rw [Sem.run_bind, run_underlying hu w]
      cases d <;> simp_all
    simp only [Array.length_toList, Array.toArray_toList] at hl
    simp [loadVar, Sem.run_bind, hagg, sizeOf, typeInfo, hq, hs, hl]
theorem wpList_load_sub {ops : Array Oper} {rest : List Oper} {o : Oper} {a : Act} {w : World} {Q : Exit → Act → World → Prop} (hgd : o.guard = none) (ty : TypeId) (x : Operand) (ho : o.op = .load ty x)
    (g off : Nat) (hx : a.eval x = .pointer (some ⟨g, off, none⟩)) (t : TypeId) (cs ks : Array Value) (fr : Nat × Nat) (d : TypeDesc) (hg : w.heap[g]? = some (.cells cs t fr)) (hk : ∀ j v, ks[j]? = some v → cs[off + j]? = some v)
    (hu : P.underlying ty = some d) (hd : (match d with | .struct _ | .array _ _ => true | _ => false) = true) (hi : (P.info? ty).map (·.size) = some ks.size)
    (h : wpList P ops Q rest (a.put o.dst (.agg ks)) w) : wpList P ops Q (o :: rest) a w :=
  wpList_plain hgd fun _ hK => by
    unfold Oper.wp execOp
    simp only [ho, hx, Instr.loadAt, Instr.sureAddr, Sem.run_bind, Sem.run_pure, Result.andThen_ok, run_loadVar_sub w g off t ty cs ks fr d hg hk hu hd hi]
    exact hK _ _ h
end
/-- The cells of an entry. -/
def entL (x : Frm.Ent) (dv : Value) : List Value := .int .i64 x.tag :: (bys x.key ++ [dv])
def entA (x : Frm.Ent) (dv : Value) : Array Value := (entL x dv).toArray
theorem entA_size (x : Frm.Ent) (dv : Value) (hk : x.key.length = 32) : (entA x dv).size = 34 := by unfold entA entL; simp [bys, hk]
theorem entA_0 (x : Frm.Ent) (dv : Value) : (entA x dv)[0]? = some (.int .i64 x.tag) := rfl
theorem entA_33 (x : Frm.Ent) (dv : Value) (hk : x.key.length = 32) : (entA x dv)[33]? = some dv := by
  unfold entA entL
  rw [List.getElem?_toArray, List.getElem?_cons_succ, List.getElem?_append_right (by rw [bys_len]; omega), bys_len, hk]; rfl
theorem entA_key (x : Frm.Ent) (dv : Value) (hk : x.key.length = 32) : ∀ j v, (bys x.key).toArray[j]? = some v → (entA x dv)[1 + j]? = some v := by
  intro j v h
  rw [List.getElem?_toArray] at h
  have hj : j < (bys x.key).length := (List.getElem?_eq_some_iff.1 h).1
  unfold entA entL
  rw [List.getElem?_toArray, Nat.add_comm, List.getElem?_cons_succ, List.getElem?_append_left hj]; exact h
theorem bys_ints (k : Bs) : bys k = (k.map fun b => (b.toNat : Int)).map (.int .u8) := by unfold bys; rw [List.map_map]; rfl
theorem ints_inj {k l : Bs} (h : (k.map fun b => (b.toNat : Int)) = l.map fun b => (b.toNat : Int)) : k = l := by
  induction k generalizing l with
  | nil => cases l with
    | nil => rfl
    | cons => simp at h
  | cons a k ih => cases l with
    | nil => simp at h
    | cons b l =>
      simp only [List.map_cons, List.cons.injEq] at h
      rw [ih h.2]
      congr 1
      exact UInt8.toNat_inj.1 (by omega)
set_option maxRecDepth 20000 in
theorem neq_key (k l : Bs) (hk : k.length = 32) (hl : l.length = 32) (w : World) : (binOp .neq 30 (.agg (bys k).toArray) (.agg (bys l).toArray)).run Tryd.prog w = .ok (.bool (!decide (k = l))) w := by
  obtain ⟨i, hi, _⟩ := info8p
  have := run_neq_ints (P := Tryd.prog) Tryd.underlying30 Tryd.underlying5 hi (by kernel_rfl) (k.map fun b => (b.toNat : Int)) (l.map fun b => (b.toNat : Int)) (by simpa using hk) (by simpa using hl) w
  rw [bys_ints, bys_ints, this]
  congr 3
  rw [Bool.eq_iff_iff, decide_eq_true_eq, decide_eq_true_eq]
  exact ⟨fun h => ints_inj h, fun h => by rw [h]⟩
set_option maxRecDepth 20000 in
theorem eqIn_key (k l : Bs) (hk : k.length = 32) (hl : l.length = 32) (w : World) : (Op.equalIn 10000 30 (.agg (bys k).toArray) (.agg (bys l).toArray)).run Tryd.prog w = .ok (decide (k = l)) w := by
  obtain ⟨i, hi, _⟩ := info8p
  have := run_eqIn_ints (P := Tryd.prog) Tryd.underlying30 Tryd.underlying5 hi (by kernel_rfl) (k.map fun b => (b.toNat : Int)) (l.map fun b => (b.toNat : Int)) (by simpa using hk) (by simpa using hl) w
  rw [bys_ints, bys_ints, this]
  congr 2
  rw [eq_iff_iff]
  exact ⟨fun h => ints_inj h, fun h => by rw [h]⟩
set_option maxRecDepth 20000 in
theorem zero_lit : (bys Frm.zero32).toArray = #[.int .u8 0, .int .u8 0, .int .u8 0, .int .u8 0, .int .u8 0, .int .u8 0, .int .u8 0, .int .u8 0, .int .u8 0, .int .u8 0, .int .u8 0, .int .u8 0, .int .u8 0, .int .u8 0, .int .u8 0, .int .u8 0, .int .u8 0, .int .u8 0, .int .u8 0, .int .u8 0, .int .u8 0, .int .u8 0, .int .u8 0, .int .u8 0, .int .u8 0, .int .u8 0, .int .u8 0, .int .u8 0, .int .u8 0, .int .u8 0, .int .u8 0, .int .u8 0] := rfl
set_option maxRecDepth 20000 in
theorem eqIn_zero (k : Bs) (hk : k.length = 32) (w : World) : (Op.equalIn 10000 30 (.agg (bys k).toArray) (.agg #[.int .u8 0, .int .u8 0, .int .u8 0, .int .u8 0, .int .u8 0, .int .u8 0, .int .u8 0, .int .u8 0, .int .u8 0, .int .u8 0, .int .u8 0, .int .u8 0, .int .u8 0, .int .u8 0, .int .u8 0, .int .u8 0, .int .u8 0, .int .u8 0, .int .u8 0, .int .u8 0, .int .u8 0, .int .u8 0, .int .u8 0, .int .u8 0, .int .u8 0, .int .u8 0, .int .u8 0, .int .u8 0, .int .u8 0, .int .u8 0, .int .u8 0, .int .u8 0])).run Tryd.prog w = .ok (decide (k = Frm.zero32)) w := by
  rw [← zero_lit]
  exact eqIn_key k _ hk rfl w
end
end Go.Proofs.YtdhhbajggafdhaaDoor
