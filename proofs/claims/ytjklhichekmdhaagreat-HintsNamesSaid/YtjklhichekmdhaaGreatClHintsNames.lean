/-
  'HintsNamesSaid': whatever the input, the law HintsNames returns true and the input reads as it did. No condition.
-/
import Derived.Test.YtjklhichekmdhaaGreatJ4
import Derived.Laws.ResultCell
import Derived.Test.YtjklhichekmdhaaGreatRows
/- Frames found by looking: pick, upd, sub; loads, stores and new blocks told at the separation logic. -/
namespace Go.Sl
open Go
/-- A stands in L; the others are R. -/
def Pick (A : HProp) (L R : List HProp) : Prop := L.Perm (A :: R)
/-- L' is L, with B in A's place. -/
def Upd (A B : HProp) (L L' : List HProp) : Prop := ∃ R, L.Perm (A :: R) ∧ L'.Perm (B :: R)
/-- All of M stands in L. -/
def Sub (L M : List HProp) : Prop := ∃ X, L.Perm (M ++ X)
section
variable {A B A1 A2 A3 A4 A5 A6 A7 A8 A9 A10 A11 A12 : HProp} {L M R L' : List HProp} {w0 w : World}
theorem pick_there (h : Pick A L R) : Pick A (B :: L) (B :: R) := (h.cons B).trans (List.Perm.swap _ _ _)
theorem pick0 : Pick A (A :: R) R := List.Perm.refl _
theorem pick1 : Pick A (A1 :: A :: R) (A1 :: R) := pick_there pick0
theorem pick2 : Pick A (A1 :: A2 :: A :: R) (A1 :: A2 :: R) := pick_there pick1
theorem pick3 : Pick A (A1 :: A2 :: A3 :: A :: R) (A1 :: A2 :: A3 :: R) := pick_there pick2
theorem pick4 : Pick A (A1 :: A2 :: A3 :: A4 :: A :: R) (A1 :: A2 :: A3 :: A4 :: R) := pick_there pick3
theorem pick5 : Pick A (A1 :: A2 :: A3 :: A4 :: A5 :: A :: R) (A1 :: A2 :: A3 :: A4 :: A5 :: R) := pick_there pick4
theorem pick6 : Pick A (A1 :: A2 :: A3 :: A4 :: A5 :: A6 :: A :: R) (A1 :: A2 :: A3 :: A4 :: A5 :: A6 :: R) := pick_there pick5
theorem pick7 : Pick A (A1 :: A2 :: A3 :: A4 :: A5 :: A6 :: A7 :: A :: R) (A1 :: A2 :: A3 :: A4 :: A5 :: A6 :: A7 :: R) := pick_there pick6
theorem pick8 : Pick A (A1 :: A2 :: A3 :: A4 :: A5 :: A6 :: A7 :: A8 :: A :: R) (A1 :: A2 :: A3 :: A4 :: A5 :: A6 :: A7 :: A8 :: R) := pick_there pick7
theorem pick9 : Pick A (A1 :: A2 :: A3 :: A4 :: A5 :: A6 :: A7 :: A8 :: A9 :: A :: R) (A1 :: A2 :: A3 :: A4 :: A5 :: A6 :: A7 :: A8 :: A9 :: R) := pick_there pick8
theorem pick10 : Pick A (A1 :: A2 :: A3 :: A4 :: A5 :: A6 :: A7 :: A8 :: A9 :: A10 :: A :: R) (A1 :: A2 :: A3 :: A4 :: A5 :: A6 :: A7 :: A8 :: A9 :: A10 :: R) := pick_there pick9
theorem pick11 : Pick A (A1 :: A2 :: A3 :: A4 :: A5 :: A6 :: A7 :: A8 :: A9 :: A10 :: A11 :: A :: R) (A1 :: A2 :: A3 :: A4 :: A5 :: A6 :: A7 :: A8 :: A9 :: A10 :: A11 :: R) := pick_there pick10
theorem upd_there (h : Upd A B L L') : Upd A B (A1 :: L) (A1 :: L') := by
  obtain ⟨R, h1, h2⟩ := h
  exact ⟨A1 :: R, (h1.cons A1).trans (List.Perm.swap _ _ _), (h2.cons A1).trans (List.Perm.swap _ _ _)⟩
theorem upd0 : Upd A B (A :: R) (B :: R) := ⟨R, List.Perm.refl _, List.Perm.refl _⟩
theorem upd1 : Upd A B (A1 :: A :: R) (A1 :: B :: R) := upd_there upd0
theorem upd2 : Upd A B (A1 :: A2 :: A :: R) (A1 :: A2 :: B :: R) := upd_there upd1
theorem upd3 : Upd A B (A1 :: A2 :: A3 :: A :: R) (A1 :: A2 :: A3 :: B :: R) := upd_there upd2
theorem upd4 : Upd A B (A1 :: A2 :: A3 :: A4 :: A :: R) (A1 :: A2 :: A3 :: A4 :: B :: R) := upd_there upd3
theorem upd5 : Upd A B (A1 :: A2 :: A3 :: A4 :: A5 :: A :: R) (A1 :: A2 :: A3 :: A4 :: A5 :: B :: R) := upd_there upd4
theorem upd6 : Upd A B (A1 :: A2 :: A3 :: A4 :: A5 :: A6 :: A :: R) (A1 :: A2 :: A3 :: A4 :: A5 :: A6 :: B :: R) := upd_there upd5
theorem upd7 : Upd A B (A1 :: A2 :: A3 :: A4 :: A5 :: A6 :: A7 :: A :: R) (A1 :: A2 :: A3 :: A4 :: A5 :: A6 :: A7 :: B :: R) := upd_there upd6
theorem upd8 : Upd A B (A1 :: A2 :: A3 :: A4 :: A5 :: A6 :: A7 :: A8 :: A :: R) (A1 :: A2 :: A3 :: A4 :: A5 :: A6 :: A7 :: A8 :: B :: R) := upd_there upd7
theorem upd9 : Upd A B (A1 :: A2 :: A3 :: A4 :: A5 :: A6 :: A7 :: A8 :: A9 :: A :: R) (A1 :: A2 :: A3 :: A4 :: A5 :: A6 :: A7 :: A8 :: A9 :: B :: R) := upd_there upd8
theorem sub_refl : Sub L L := ⟨[], by simp⟩
theorem sub_nil : Sub L [] := ⟨L, by simp⟩
theorem sub_drop1 : Sub (A :: L) L := ⟨[A], by simpa using (List.perm_append_comm (l₁ := [A]) (l₂ := L))⟩
theorem sub_drop (h : Sub L M) : Sub (A :: L) M := by
  obtain ⟨X, h⟩ := h
  exact ⟨A :: X, (h.cons A).trans List.perm_middle.symm⟩
theorem sub_take (p : Pick A L R) (h : Sub R M) : Sub L (A :: M) := by
  obtain ⟨X, h⟩ := h
  exact ⟨X, p.trans (h.cons A)⟩
theorem Sat.pick (h : Sat w0 w L) (p : Pick A L R) : Sat w0 w (A :: R) := h.perm p
theorem Sat.sub (h : Sat w0 w L) (p : Sub L M) : Sat w0 w M := by
  obtain ⟨X, h2⟩ := p
  exact (h.perm h2).dropR
theorem Ro.of_pick {A : HProp} {p : World → Prop} (h : Ro w0 (A :: R) p) (k : Pick A L R) : Ro w0 L p := fun w hw => h w (hw.pick k)
theorem Ro.of_sub {p : World → Prop} (h : Ro w0 M p) (k : Sub L M) : Ro w0 L p := fun w hw => h w (hw.sub k)
/-- The cells of a block that is held. -/
theorem Sat.cellP {b : Nat} {cs : Array Value} {T : TypeId} (h : Sat w0 w L) (p : Pick (pt b (.cells cs T (0,0))) L R) (i : Nat) {v : Value} (hv : cs[i]? = some v) : w.cell? ⟨b, i, none⟩ = some v := (h.pick p).cellAt i v hv
end
end Go.Sl
namespace Go.Proofs.YtjklhichekmdhaaGreat
open Go Go.Sl Go.Med Go.MapKept Go.RowKit
set_option linter.unusedVariables false
section
variable {P : Program} {w0 w : World} {L L' R : List HProp} {b : Nat} {ops : Array Oper} {rest : List Oper} {a : Act} {Q : Exit → Act → World → Prop}
variable {dst : Option Tmp} {t ty T : TypeId} {pos : String} {after : Array Edge} {x y : Operand} {cs : Array Value} {v : Value} {o : Nat}
/-- A type of one cell. -/
def oneB (P : Program) (ty : TypeId) : Bool := match P.underlying ty with
  | some d => !d.isRow
  | none => false
theorem run_load1 (h1 : oneB P ty = true) (hc : w.cell? ⟨b, o, none⟩ = some v) : (loadVar ty ⟨b, o, none⟩).run P w = .ok v w := by
  unfold oneB at h1
  cases hu : P.underlying ty with
  | none => rw [hu] at h1; cases h1
  | some d =>
    rw [hu] at h1
    have hagg : (isAgg ty).run P w = .ok false w := by
      unfold isAgg
      rw [Sem.run_bind, run_underlying hu w]
      cases d <;> simp_all [TypeDesc.isRow]
    simp [loadVar, Sem.run_bind, hagg]
    rw [hc]
theorem run_load1A {ad : Addr} (h1 : oneB P ty = true) (hc : w.cell? ad = some v) : (loadVar ty ad).run P w = .ok v w := by
  unfold oneB at h1
  cases hu : P.underlying ty with
  | none => rw [hu] at h1; cases h1
  | some d =>
    rw [hu] at h1
    have hagg : (isAgg ty).run P w = .ok false w := by
      unfold isAgg
      rw [Sem.run_bind, run_underlying hu w]
      cases d <;> simp_all [TypeDesc.isRow]
    simp [loadVar, Sem.run_bind, hagg]
    rw [hc]
theorem execOp_builtin_len (a : Act) (after : Array Edge) (g : Option (Nat × Bool)) : execOp a.eval ⟨dst, .call { callee := .builtin .len, args := #[x], argTypes := #[ty] }, t, pos, after, g⟩ = (do pure (.value (← Builtin.len_ #[ty] t #[a.eval x]))) := by
  rw [BigFrame.execOp_builtin, BigFrame.builtin_len]; simp
theorem getD_get {i : Nat} (hlt : i + 1 ≤ cs.size) (hv : cs.getD i undef = v) : cs[i]? = some v := by
  rw [← hv, Array.getD_eq_getD_getElem?, Array.getElem?_eq_getElem (show i < cs.size by omega)]; rfl
/-- A cell is read. -/
theorem wl_load1 (hs : Sat w0 w L) (hx : a.eval x = .pointer (some ⟨b, o, none⟩)) (p : Pick (pt b (.cells cs T (0,0))) L R) (hlt : o + 1 ≤ cs.size) (hv : cs.getD o undef = v) (h1 : oneB P ty = true)
    (h : wpList P ops Q rest (a.put dst v) w) : wpList P ops Q (⟨dst, .load ty x, t, pos, after, none⟩ :: rest) a w :=
  wpList_plain rfl fun _ hK => by
    unfold Oper.wp execOp
    simp only [hx, Instr.loadAt, Instr.sureAddr, Sem.run_bind, Sem.run_pure, Result.andThen_ok, run_load1 h1 (hs.cellP p o (getD_get hlt hv))]
    exact hK _ _ h
/-- A struct, or an array, is read. -/
theorem wl_loadN (ks : List Value) (hs : Sat w0 w L) (hx : a.eval x = .pointer (some ⟨b, o, none⟩)) (p : Pick (pt b (.cells cs T (0,0))) L R) (hv : ∀ j v, ks[j]? = some v → cs[o + j]? = some v)
    {d : TypeDesc} (hu : P.underlying ty = some d) (hd : d.isRow = true) (hi : (P.info? ty).map (·.size) = some ks.length)
    (h : wpList P ops Q rest (a.put dst (.agg ks.toArray)) w) : wpList P ops Q (⟨dst, .load ty x, t, pos, after, none⟩ :: rest) a w :=
  wpList_load_mid rfl ty x rfl b o hx ks d (fun j v hj => hs.cellP p (o + j) (hv j v hj)) hu hd hi h
/-- A whole block is read. -/
theorem wl_loadA (hs : Sat w0 w L) (hx : a.eval x = .pointer (some ⟨b, 0, none⟩)) (p : Pick (pt b (.cells cs T (0,0))) L R) {d : TypeDesc} (hu : P.underlying ty = some d) (hd : d.isRow = true) (hi : (P.info? ty).map (·.size) = some cs.size)
    (h : wpList P ops Q rest (a.put dst (.agg cs)) w) : wpList P ops Q (⟨dst, .load ty x, t, pos, after, none⟩ :: rest) a w := by
  refine wpList_load_row rfl ty x rfl b hx T cs (0, 0) d (hs.pick p).at hu ?_ hi h
  cases d <;> simp_all [TypeDesc.isRow]
/-- A value is stored. -/
theorem wl_store (hs : Sat w0 w L) (hx : a.eval x = .pointer (some ⟨b, o, none⟩)) (hy : a.eval y = v) {cs' : Array Value} (hcs : putsAt cs o v.cells.toList = cs') (u : Upd (pt b (.cells cs T (0,0))) (pt b (.cells cs' T (0,0))) L L') (hfit : o + v.cells.size ≤ cs.size)
    (hi : (P.info? ty).map (·.size) = some v.cells.size) (h1 : v.cells.toList.all (·.oneCell') = true)
    (hK : ∀ w', Sat w0 w' L' → wpList P ops Q rest (a.put dst undef) w') : wpList P ops Q (⟨dst, .store ty x y, t, pos, after, none⟩ :: rest) a w := by
  subst hcs
  obtain ⟨R', h2, h3⟩ := u
  exact wpList_store_sat rfl ty x y rfl o v hx hy hfit hi (by rw [← Array.all_toList]; exact h1) (hs.perm h2) fun w' hS => hK w' (hS.perm h3.symm)
/-- A value is put into a block of its own. -/
theorem wl_box (hs : Sat w0 w L) (hy : a.eval y = v) (hcs : v.cells = cs)
    (hK : ∀ b w', Sat w0 w' (pt b (.cells cs ty (0,0)) :: L) → wpList P ops Q rest (a.put dst (.pointer (some ⟨b, 0, none⟩))) w') : wpList P ops Q (⟨dst, .box ty y, t, pos, after, none⟩ :: rest) a w := by
  subst hcs
  refine wpList_plain rfl fun _ hK' => ?_
  have hS := hs.alloc (.cells v.cells ty)
  unfold Oper.wp execOp
  have hrun : (Instr.box ty v).run P w = .ok (.pointer (some ⟨w.heap.size, 0, none⟩)) (w.alloc (.cells v.cells ty)) := by
    simp [Instr.box, newVar, newRow, go_sem]
  simp only [hy, Sem.run_bind, Sem.run_pure, hrun, Result.andThen_ok]
  exact hK' _ _ (hK _ _ hS)
/-- The table's zero of a type. -/
def zeroB (P : Program) (ty : TypeId) : Option Value := (P.info? ty).bind (·.zero)
theorem run_zeroB (hz : zeroB P ty = some v) (w : World) : (zeroValue ty).run P w = .ok v w := by
  unfold zeroB at hz
  cases hq : P.info? ty with
  | none => simp [hq] at hz
  | some i =>
    rw [hq] at hz
    have hz' : i.zero = some v := hz
    simp [zeroValue, typeInfo, hq, hz']
/-- A new variable. -/
theorem wl_alloc (hz : zeroB P ty = some v) (hs : Sat w0 w L) (hcs : v.cells = cs)
    (hK : ∀ b w', Sat w0 w' (pt b (.cells cs ty (0,0)) :: L) → wpList P ops Q rest (a.put dst (.pointer (some ⟨b, 0, none⟩))) w') : wpList P ops Q (⟨dst, .alloc ty, t, pos, after, none⟩ :: rest) a w := by
  subst hcs
  refine wpList_plain rfl fun _ hK' => ?_
  have hS := hs.alloc (.cells v.cells ty)
  unfold Oper.wp execOp
  have hrun : (Instr.alloc ty true (.tuple #[])).run P w = .ok (.pointer (some ⟨w.heap.size, 0, none⟩)) (w.alloc (.cells v.cells ty)) := by
    simp [Instr.alloc, run_zeroB hz w, newVar, newRow, go_sem, Result.andThen]
  simp only [Sem.run_bind, Sem.run_pure, hrun, Result.andThen_ok]
  exact hK' _ _ (hK _ _ hS)
/-- The results: a struct that lies in a cell, and a value. -/
theorem res_cell_tmp {fn : Func} {p u : Tmp} {tmps : Array Value} {d : TypeDesc} (hf : fn.results = #[.cell p ty, .tmp u]) (hs : Sat w0 w L) (hp : tmps.getD p undef = .pointer (some ⟨b, 0, none⟩)) (k : Pick (pt b (.cells cs T (0,0))) L R)
    (hu : P.underlying ty = some d) (hd : d.isRow = true) (hi : (P.info? ty).map (·.size) = some cs.size) :
    (results fn tmps).run P w = .ok (.tuple #[.agg cs, tmps.getD u undef]) w := by
  rw [results_cell_tmp hf tmps P w, hp]
  have hl := run_loadVar_row (P := P) w b T ty cs (0, 0) d (hs.pick k).at hu (by cases d <;> simp_all [TypeDesc.isRow]) hi
  simp [asAddr, hl, Result.andThen]
theorem LogRep.shut2 {p m : Nat} {L : Seg.Log} {lv : Value} {F : List HProp} (h : Sat w0 w (logPt p m L lv :: osl 53 2 lv (segw L.l) :: F)) : Sat w0 w (LogRep p m L :: F) := LogRep.shut h
theorem LogRep.open2 {p m : Nat} {L : Seg.Log} {F : List HProp} (h : Sat w0 w (LogRep p m L :: F)) : ∃ lv, Sat w0 w (logPt p m L lv :: osl 53 2 lv (segw L.l) :: F) := LogRep.open h
theorem putsAt_list : ∀ (ys : List Value) (cs : Array Value) (o : Nat), o + ys.length ≤ cs.size → (putsAt cs o ys).toList = cs.toList.take o ++ ys ++ cs.toList.drop (o + ys.length)
  | [], cs, o, h => by simp [putsAt]
  | y :: ys, cs, o, h => by
    simp only [List.length_cons] at h
    rw [putsAt, putsAt_list ys _ (o + 1) (by rw [Array.size_setIfInBounds]; omega), Array.toList_setIfInBounds]
    have hlt : o < cs.toList.length := by simp; omega
    rw [List.set_eq_take_append_cons_drop, if_pos hlt]
    have h1 : (cs.toList.take o).length = o := by rw [List.length_take]; omega
    rw [List.take_append, h1, List.take_of_length_le (by omega), show o + 1 - o = 1 by omega, List.take_succ_cons, List.take_zero]
    rw [List.drop_append, h1, List.drop_of_length_le (l := cs.toList.take o) (by omega), List.nil_append, show o + 1 + ys.length - o = ys.length + 1 by omega, List.drop_succ_cons, List.drop_drop]
    simp only [List.length_cons, List.append_assoc, List.cons_append, List.nil_append]
    rw [show o + 1 + ys.length = o + (ys.length + 1) by omega]
/-! ### stops: where a law is to be tried, seen by the operation's form alone -/
theorem at_load (h : Stop (wpList P ops Q (⟨dst, .load ty x, t, pos, after, none⟩ :: rest) a w)) : wpList P ops Q (⟨dst, .load ty x, t, pos, after, none⟩ :: rest) a w := h.out
theorem at_store (h : Stop (wpList P ops Q (⟨dst, .store ty x y, t, pos, after, none⟩ :: rest) a w)) : wpList P ops Q (⟨dst, .store ty x y, t, pos, after, none⟩ :: rest) a w := h.out
theorem at_box (h : Stop (wpList P ops Q (⟨dst, .box ty y, t, pos, after, none⟩ :: rest) a w)) : wpList P ops Q (⟨dst, .box ty y, t, pos, after, none⟩ :: rest) a w := h.out
theorem at_alloc (h : Stop (wpList P ops Q (⟨dst, .alloc ty, t, pos, after, none⟩ :: rest) a w)) : wpList P ops Q (⟨dst, .alloc ty, t, pos, after, none⟩ :: rest) a w := h.out
theorem at_build1 {ix : Nat} {k : Nat} (h : Stop (wpList P ops Q (⟨dst, .buildSlice ty k #[(ix, x)], t, pos, after, none⟩ :: rest) a w)) : wpList P ops Q (⟨dst, .buildSlice ty k #[(ix, x)], t, pos, after, none⟩ :: rest) a w := h.out
theorem at_append {s z : Operand} {ta tb : TypeId} (h : Stop (wpList P ops Q (⟨dst, .call { callee := .builtin .append, args := #[s, z], argTypes := #[ta, tb] }, t, pos, after, none⟩ :: rest) a w)) : wpList P ops Q (⟨dst, .call { callee := .builtin .append, args := #[s, z], argTypes := #[ta, tb] }, t, pos, after, none⟩ :: rest) a w := h.out
/-! ### what an operation yields, by its form -/
section
variable {vx vy : Value} {ad : Addr} {fl : Nat} {bo : BinOp} {uo : UnOp} {tz : TypeId} {G : World → Prop}
theorem want_none (o : Oper) (h : o.guard = none) : Region.wanted o (yielded ops a.tmps) = true := by simp [Region.wanted, h]
theorem yl_move (hx : a.eval x = v) : Yields P ops ⟨dst, .move x, t, pos, after, none⟩ v a :=
  .inl ⟨want_none _ rfl, fun w => by simp only [execOp, hx]; rfl⟩
theorem yl_assign (hx : a.eval x = v) : Yields P ops ⟨dst, .assign x, t, pos, after, none⟩ v a :=
  .inl ⟨want_none _ rfl, fun w => by simp only [execOp, hx]; rfl⟩
theorem yl_nil (hx : a.eval x = .pointer (some ad)) : Yields P ops ⟨dst, .nilCheck x, t, pos, after, none⟩ (.pointer (some ad)) a :=
  .inl ⟨want_none _ rfl, fun w => by simp only [execOp, hx]; rfl⟩
theorem yl_field (hx : a.eval x = vx) (hr : ∀ w, (Instr.fieldAt ty vx fl).run P w = .ok v w) : Yields P ops ⟨dst, .fieldAddr ty x fl, t, pos, after, none⟩ v a :=
  .inl ⟨want_none _ rfl, fun w => by simp only [execOp, hx, Sem.run_bind, hr, Result.andThen_ok, Sem.run_pure]⟩
theorem yl_index (hx : a.eval x = vx) (hy : a.eval y = vy) (hr : ∀ w, (Instr.indexAt ty vx vy).run P w = .ok v w) : Yields P ops ⟨dst, .indexAddr ty x y, t, pos, after, none⟩ v a :=
  .inl ⟨want_none _ rfl, fun w => by simp only [execOp, hx, hy, Sem.run_bind, hr, Result.andThen_ok, Sem.run_pure]⟩
theorem yl_bin (hx : a.eval x = vx) (hy : a.eval y = vy) (hr : ∀ w, ((do eqGuard bo ty x y vx vy; binOp bo ty vx vy) : Sem Value).run P w = .ok v w) : Yields P ops ⟨dst, .binOp bo ty x y tz, t, pos, after, none⟩ v a :=
  .inl ⟨want_none _ rfl, fun w => by simp only [execOp, hx, hy, Sem.run_bind (x := (do eqGuard bo ty x y vx vy; binOp bo ty vx vy)), hr, Result.andThen_ok, Sem.run_pure]⟩
theorem yl_un (hx : a.eval x = vx) (hr : ∀ w, (Op.unary uo vx).run P w = .ok v w) : Yields P ops ⟨dst, .unOp uo ty x, t, pos, after, none⟩ v a :=
  .inl ⟨want_none _ rfl, fun w => by simp only [execOp, hx, Sem.run_bind, hr, Result.andThen_ok, Sem.run_pure]⟩
theorem yl_conv (hx : a.eval x = vx) (hr : ∀ w, (convert ty tz vx).run P w = .ok v w) : Yields P ops ⟨dst, .convert ty tz x, t, pos, after, none⟩ v a :=
  .inl ⟨want_none _ rfl, fun w => by simp only [execOp, hx, Sem.run_bind, hr, Result.andThen_ok, Sem.run_pure]⟩
theorem yl_extract (hx : a.eval x = vx) (hr : ∀ w, (Instr.extract vx fl).run P w = .ok v w) : Yields P ops ⟨dst, .extract x fl, t, pos, after, none⟩ v a :=
  .inl ⟨want_none _ rfl, fun w => by simp only [execOp, hx, Sem.run_bind, hr, Result.andThen_ok, Sem.run_pure]⟩
theorem yl_len (hx : a.eval x = vx) (hr : ∀ w, (Builtin.len_ #[ty] t #[vx]).run P w = .ok v w) : Yields P ops ⟨dst, .call { callee := .builtin .len, args := #[x], argTypes := #[ty] }, t, pos, after, none⟩ v a :=
  .inl ⟨want_none _ rfl, fun w => by
    rw [execOp_builtin_len, hx]
    simp only [Sem.run_bind, hr, Result.andThen_ok, Sem.run_pure]⟩
/-- A cell that G knows is read. -/
theorem tk_load (hx : a.eval x = .pointer (some ad)) (h1 : oneB P ty = true) (hG : ∀ w, G w → w.cell? ad = some v) : YieldsIf P ops G ⟨dst, .load ty x, t, pos, after, none⟩ v a :=
  .inl ⟨want_none _ rfl, fun w hw => by
    obtain ⟨b, o, el⟩ := ad
    have hc := hG w hw
    simp only [execOp, hx, Instr.loadAt, Instr.sureAddr, Sem.run_bind, Sem.run_pure, Result.andThen_ok, run_load1A h1 hc]⟩
/-- A function with a body. -/
def goB (P : Program) (f : FuncId) : Bool := match P.funcs[f]? with
  | some fn => !(fn.name == "runtime.NumGoroutine") && fn.body.isSome
  | none => false
theorem run_goB {f : FuncId} (h : goB P f = true) (args : Array Value) (w : World) : (callFunc f args).run P w = .ok (.enter f args) w := by
  unfold goB at h
  cases hf : P.funcs[f]? with
  | none => rw [hf] at h; cases h
  | some fn =>
    rw [hf] at h
    simp only [Bool.and_eq_true, Bool.not_eq_true'] at h
    obtain ⟨h1, h2⟩ := h
    obtain ⟨c, hc⟩ := Option.isSome_iff_exists.1 h2
    have h1' : fn.name ≠ "runtime.NumGoroutine" := by simpa using h1
    simp [callFunc, hf, h1', hc]
/-- What follows upon a call. -/
def Upon (K : Act → World → Prop) (Q : Exit → Act → World → Prop) (a : Act) (dst : Option Tmp) (e : Ending) (w : World) : Prop :=
  match e with
  | .returned v => K (a.put dst v) w
  | .panicked chain => Q (.panic chain) a w
  | .outgrown => LetsOut Q
theorem eff_call {f : FuncId} {xs : Array Operand} {ts : Array TypeId} {K : Act → World → Prop} {E : Prop} (vs : List Value) (hf : goB P f = true) (hv : xs.toList.map a.eval = vs)
    (h : Calls P f vs.toArray w (Upon K Q a dst)) : if Region.wanted ⟨dst, .call { callee := .value (.func f), args := xs, argTypes := ts }, t, pos, after, none⟩ (yielded ops a.tmps) = true then
      Oper.wp P ⟨dst, .call { callee := .value (.func f), args := xs, argTypes := ts }, t, pos, after, none⟩ a w K Q else E := by
  rw [if_pos (want_none _ rfl)]
  unfold Oper.wp
  have e1 : (#[] ++ xs.map a.eval ++ #[] : Array Value) = vs.toArray := by
    rw [← hv]; cases xs; simp
  rw [execOp_call_go, e1, run_goB hf, Oper.upon_enter]
  exact h.mono fun e w' he => by cases e <;> exact he
theorem eff_call1 {f : FuncId} {x1 : Operand} {v1 : Value} {ts : Array TypeId} {K : Act → World → Prop} {E : Prop} (hf : goB P f = true) (h1 : a.eval x1 = v1)
    (h : Calls P f #[v1] w (Upon K Q a dst)) : if Region.wanted ⟨dst, .call { callee := .value (.func f), args := #[x1], argTypes := ts }, t, pos, after, none⟩ (yielded ops a.tmps) = true then
      Oper.wp P ⟨dst, .call { callee := .value (.func f), args := #[x1], argTypes := ts }, t, pos, after, none⟩ a w K Q else E :=
  eff_call [v1] hf (by simp [h1]) h
theorem eff_call2 {f : FuncId} {x1 x2 : Operand} {v1 v2 : Value} {ts : Array TypeId} {K : Act → World → Prop} {E : Prop} (hf : goB P f = true) (h1 : a.eval x1 = v1) (h2 : a.eval x2 = v2)
    (h : Calls P f #[v1, v2] w (Upon K Q a dst)) : if Region.wanted ⟨dst, .call { callee := .value (.func f), args := #[x1, x2], argTypes := ts }, t, pos, after, none⟩ (yielded ops a.tmps) = true then
      Oper.wp P ⟨dst, .call { callee := .value (.func f), args := #[x1, x2], argTypes := ts }, t, pos, after, none⟩ a w K Q else E :=
  eff_call [v1, v2] hf (by simp [h1, h2]) h
theorem eff_call3 {f : FuncId} {x1 x2 x3 : Operand} {v1 v2 v3 : Value} {ts : Array TypeId} {K : Act → World → Prop} {E : Prop} (hf : goB P f = true) (h1 : a.eval x1 = v1) (h2 : a.eval x2 = v2) (h3 : a.eval x3 = v3)
    (h : Calls P f #[v1, v2, v3] w (Upon K Q a dst)) : if Region.wanted ⟨dst, .call { callee := .value (.func f), args := #[x1, x2, x3], argTypes := ts }, t, pos, after, none⟩ (yielded ops a.tmps) = true then
      Oper.wp P ⟨dst, .call { callee := .value (.func f), args := #[x1, x2, x3], argTypes := ts }, t, pos, after, none⟩ a w K Q else E :=
  eff_call [v1, v2, v3] hf (by simp [h1, h2, h3]) h
theorem eff_call4 {f : FuncId} {x1 x2 x3 x4 : Operand} {v1 v2 v3 v4 : Value} {ts : Array TypeId} {K : Act → World → Prop} {E : Prop} (hf : goB P f = true) (h1 : a.eval x1 = v1) (h2 : a.eval x2 = v2) (h3 : a.eval x3 = v3) (h4 : a.eval x4 = v4)
    (h : Calls P f #[v1, v2, v3, v4] w (Upon K Q a dst)) : if Region.wanted ⟨dst, .call { callee := .value (.func f), args := #[x1, x2, x3, x4], argTypes := ts }, t, pos, after, none⟩ (yielded ops a.tmps) = true then
      Oper.wp P ⟨dst, .call { callee := .value (.func f), args := #[x1, x2, x3, x4], argTypes := ts }, t, pos, after, none⟩ a w K Q else E :=
  eff_call [v1, v2, v3, v4] hf (by simp [h1, h2, h3, h4]) h
theorem gd_move (h : Stop (Yields P ops ⟨dst, .move x, t, pos, after, none⟩ v a)) : Yields P ops ⟨dst, .move x, t, pos, after, none⟩ v a := h.out
theorem gd_assign (h : Stop (Yields P ops ⟨dst, .assign x, t, pos, after, none⟩ v a)) : Yields P ops ⟨dst, .assign x, t, pos, after, none⟩ v a := h.out
theorem gd_nil (h : Stop (Yields P ops ⟨dst, .nilCheck x, t, pos, after, none⟩ v a)) : Yields P ops ⟨dst, .nilCheck x, t, pos, after, none⟩ v a := h.out
theorem gd_field (h : Stop (Yields P ops ⟨dst, .fieldAddr ty x fl, t, pos, after, none⟩ v a)) : Yields P ops ⟨dst, .fieldAddr ty x fl, t, pos, after, none⟩ v a := h.out
theorem gd_index (h : Stop (Yields P ops ⟨dst, .indexAddr ty x y, t, pos, after, none⟩ v a)) : Yields P ops ⟨dst, .indexAddr ty x y, t, pos, after, none⟩ v a := h.out
theorem gd_bin (h : Stop (Yields P ops ⟨dst, .binOp bo ty x y tz, t, pos, after, none⟩ v a)) : Yields P ops ⟨dst, .binOp bo ty x y tz, t, pos, after, none⟩ v a := h.out
theorem gd_un (h : Stop (Yields P ops ⟨dst, .unOp uo ty x, t, pos, after, none⟩ v a)) : Yields P ops ⟨dst, .unOp uo ty x, t, pos, after, none⟩ v a := h.out
theorem gd_conv (h : Stop (Yields P ops ⟨dst, .convert ty tz x, t, pos, after, none⟩ v a)) : Yields P ops ⟨dst, .convert ty tz x, t, pos, after, none⟩ v a := h.out
theorem gd_extract (h : Stop (Yields P ops ⟨dst, .extract x fl, t, pos, after, none⟩ v a)) : Yields P ops ⟨dst, .extract x fl, t, pos, after, none⟩ v a := h.out
theorem gd_len (h : Stop (Yields P ops ⟨dst, .call { callee := .builtin .len, args := #[x], argTypes := #[ty] }, t, pos, after, none⟩ v a)) : Yields P ops ⟨dst, .call { callee := .builtin .len, args := #[x], argTypes := #[ty] }, t, pos, after, none⟩ v a := h.out
theorem gd_call1 {f : FuncId} {x1 : Operand} {ts : Array TypeId} {K : Act → World → Prop} {E : Prop} (h : Stop (if Region.wanted ⟨dst, .call { callee := .value (.func f), args := #[x1], argTypes := ts }, t, pos, after, none⟩ (yielded ops a.tmps) = true then Oper.wp P ⟨dst, .call { callee := .value (.func f), args := #[x1], argTypes := ts }, t, pos, after, none⟩ a w K Q else E)) : if Region.wanted ⟨dst, .call { callee := .value (.func f), args := #[x1], argTypes := ts }, t, pos, after, none⟩ (yielded ops a.tmps) = true then Oper.wp P ⟨dst, .call { callee := .value (.func f), args := #[x1], argTypes := ts }, t, pos, after, none⟩ a w K Q else E := h.out
theorem gd_call2 {f : FuncId} {x1 x2 : Operand} {ts : Array TypeId} {K : Act → World → Prop} {E : Prop} (h : Stop (if Region.wanted ⟨dst, .call { callee := .value (.func f), args := #[x1, x2], argTypes := ts }, t, pos, after, none⟩ (yielded ops a.tmps) = true then Oper.wp P ⟨dst, .call { callee := .value (.func f), args := #[x1, x2], argTypes := ts }, t, pos, after, none⟩ a w K Q else E)) : if Region.wanted ⟨dst, .call { callee := .value (.func f), args := #[x1, x2], argTypes := ts }, t, pos, after, none⟩ (yielded ops a.tmps) = true then Oper.wp P ⟨dst, .call { callee := .value (.func f), args := #[x1, x2], argTypes := ts }, t, pos, after, none⟩ a w K Q else E := h.out
theorem gd_call3 {f : FuncId} {x1 x2 x3 : Operand} {ts : Array TypeId} {K : Act → World → Prop} {E : Prop} (h : Stop (if Region.wanted ⟨dst, .call { callee := .value (.func f), args := #[x1, x2, x3], argTypes := ts }, t, pos, after, none⟩ (yielded ops a.tmps) = true then Oper.wp P ⟨dst, .call { callee := .value (.func f), args := #[x1, x2, x3], argTypes := ts }, t, pos, after, none⟩ a w K Q else E)) : if Region.wanted ⟨dst, .call { callee := .value (.func f), args := #[x1, x2, x3], argTypes := ts }, t, pos, after, none⟩ (yielded ops a.tmps) = true then Oper.wp P ⟨dst, .call { callee := .value (.func f), args := #[x1, x2, x3], argTypes := ts }, t, pos, after, none⟩ a w K Q else E := h.out
theorem gd_call4 {f : FuncId} {x1 x2 x3 x4 : Operand} {ts : Array TypeId} {K : Act → World → Prop} {E : Prop} (h : Stop (if Region.wanted ⟨dst, .call { callee := .value (.func f), args := #[x1, x2, x3, x4], argTypes := ts }, t, pos, after, none⟩ (yielded ops a.tmps) = true then Oper.wp P ⟨dst, .call { callee := .value (.func f), args := #[x1, x2, x3, x4], argTypes := ts }, t, pos, after, none⟩ a w K Q else E)) : if Region.wanted ⟨dst, .call { callee := .value (.func f), args := #[x1, x2, x3, x4], argTypes := ts }, t, pos, after, none⟩ (yielded ops a.tmps) = true then Oper.wp P ⟨dst, .call { callee := .value (.func f), args := #[x1, x2, x3, x4], argTypes := ts }, t, pos, after, none⟩ a w K Q else E := h.out
/-! ### the steps of a region that draws -/
variable {late : List Nat} {i n : Nat} {oi : Oper} {l : Array Bool}
theorem rg_pure (i : Nat) (hi : ops.toList[i]? = some oi) (hc : (Region.noSelect ops && Region.free .any ops l i && (Region.ready .any ops l).contains i && shutB ops l) = true)
    (hQ : ∀ c a w, Q (.panic c) (a.put oi.dst v) w → Q (.panic c) a w) (hy : Yields P ops oi v a) {a' : Act} (ha : a.put oi.dst v = a')
    (h : wpL P ops Q late G n (l.setIfInBounds i true) a' w) : wpL P ops Q late G (n + 1) l a w :=
  wpL_pure (by rw [← Array.getElem?_toList]; exact hi) hc hQ hy (by rw [ha]; exact h)
theorem rg_take (i : Nat) (hi : ops.toList[i]? = some oi) (hc : (Region.noSelect ops && Region.free .any ops l i && (Region.ready .any ops l).contains i && lateOk ops late i && shutB ops l) = true)
    (hQ : ∀ c a w, Q (.panic c) (a.put oi.dst v) w → Q (.panic c) a w) (hy : YieldsIf P ops G oi v a) (hG : G w) {a' : Act} (ha : a.put oi.dst v = a')
    (h : wpL P ops Q late G n (l.setIfInBounds i true) a' w) : wpL P ops Q late G (n + 1) l a w :=
  wpL_take (by rw [← Array.getElem?_toList]; exact hi) hc hQ hy hG (by rw [ha]; exact h)
theorem rg_eff (i : Nat) (hi : ops.toList[i]? = some oi) (hr : Region.ready .any ops l = [i])
    (h : ∀ K : Act → World → Prop, (∀ a' w', keeps late G i w w' → wpL P ops Q late G n (l.setIfInBounds i true) a' w' → K a' w') →
      if Region.wanted oi (yielded ops a.tmps) = true then Oper.wp P oi a w K Q else K (a.put oi.dst undef) w) : wpL P ops Q late G (n + 1) l a w :=
  wpL_eff (by rw [← Array.getElem?_toList]; exact hi) hr h
end
/-! ### a slice of one element; append -/
section
variable {e : TypeId} {sz by' n c : Nat} {xs ys : List Value} {s : Operand}
/-- The table's word on a slice type t of e: sz cells and by' bytes an element. -/
def appB (P : Program) (t e : TypeId) (sz by' : Nat) : Bool :=
  (match P.underlying t with | some (.slice e') => e' == e | _ => false) &&
  (match P.info? e with
    | some i => i.size == sz && i.bytes == by' && (match i.zero with | some z => z.cells.size == sz | none => false) && decide (0 < sz)
    | none => false)
theorem appB_spec (h : appB P t e sz by' = true) : P.underlying t = some (.slice e) ∧ ∃ i z, P.info? e = some i ∧ i.zero = some z ∧ i.size = sz ∧ i.bytes = by' ∧ z.cells.size = sz ∧ 0 < sz := by
  unfold appB at h
  rw [Bool.and_eq_true] at h
  obtain ⟨h1, h2⟩ := h
  constructor
  · split at h1
    · rename_i e' he; rw [he]; congr 2; simpa using h1
    · cases h1
  · split at h2
    · rename_i i hi
      simp only [Bool.and_eq_true, beq_iff_eq, decide_eq_true_eq] at h2
      obtain ⟨⟨⟨a1, a2⟩, a3⟩, a4⟩ := h2
      split at a3
      · rename_i z hz
        exact ⟨i, z, hi, hz, a1, a2, by simpa using a3, a4⟩
      · cases a3
    · cases h2
theorem fill_all (cs zs : Array Value) (h : zs.size = cs.size) : cs.zipIdx.foldl (fun acc (x : Value × Nat) => acc.setIfInBounds (0 + x.2) x.1) zs = cs := by
  have key : ∀ (k : Nat) (l : List Value) (acc : Array Value), acc.size = k + l.length → (∀ j, j < k → acc[j]? = cs[j]?) → (∀ j, l[j]? = cs[k + j]?) → k + l.length = cs.size →
      (l.zipIdx k).foldl (fun acc (x : Value × Nat) => acc.setIfInBounds (0 + x.2) x.1) acc = cs := by
    intro k l
    induction l generalizing k with
    | nil =>
      intro acc h1 h2 _ h4
      simp only [List.zipIdx_nil, List.foldl_nil]
      simp only [List.length_nil, Nat.add_zero] at h1 h4
      apply Array.ext_getElem?
      intro j
      by_cases hj : j < k
      · exact h2 j hj
      · rw [Array.getElem?_eq_none (by omega), Array.getElem?_eq_none (by omega)]
    | cons v l ih =>
      intro acc h1 h2 h3 h4
      simp only [List.zipIdx_cons, List.foldl_cons]
      simp only [List.length_cons] at h1 h4
      rw [Nat.zero_add k]
      refine ih (k + 1) (acc.setIfInBounds k v) (by rw [Array.size_setIfInBounds]; omega) ?_ ?_ (by omega)
      · intro j hj
        by_cases hjk : j = k
        · subst hjk
          have := h3 0
          simp only [List.getElem?_cons_zero, Nat.add_zero] at this
          rw [← this, Array.getElem?_setIfInBounds_self_of_lt (by omega)]
        · rw [Array.getElem?_setIfInBounds_ne (by omega)]
          exact h2 j (by omega)
      · intro j
        have := h3 (j + 1)
        rw [List.getElem?_cons_succ] at this
        rw [this]
        congr 1
        omega
  have := key 0 cs.toList zs (by simpa using h) (fun j hj => absurd hj (Nat.not_lt_zero j)) (fun j => by simp) (by simp)
  conv => rhs; rw [← this]
  rw [← Array.foldl_toList, Array.toList_zipIdx]
theorem run_build1 (hb : appB P t e sz by' = true) (hsz : v.cells.size = sz) (hle : sz ≤ 16777216) (w : World) :
    (Instr.buildSlice t 1 #[(0, v)]).run P w = .ok (.slice (some ⟨w.heap.size, 0, none⟩) 1 1) (w.alloc (.cells v.cells e)) := by
  obtain ⟨hu, i, z, hi, hz, h1, h2, h3, h4⟩ := appB_spec hb
  subst h1
  have hzv : (zeroValue e).run P w = .ok z w := by simp [zeroValue, typeInfo, hi, hz]
  have hsz' : (sizeOf e).run P w = .ok i.size w := by simp [sizeOf, typeInfo, hi]
  have hnz : ¬ (1 * i.size = 0) := by omega
  have hle' : ¬ (1 * i.size > 2 ^ 24) := by omega
  unfold Instr.buildSlice
  simp only [Sem.run_bind, run_underlying hu, Result.andThen_ok, hsz', if_neg hle', if_neg hnz, hzv, Sem.run_pure]
  have hf : Instr.fill (fun i' => some (i' * i.size, i.size)) ((Array.range (1 * i.size)).map (z.cells[· % z.cells.size]!)) [(0, v)] = some v.cells := by
    have hs1 : ((Array.range (1 * i.size)).map (z.cells[· % z.cells.size]!)).size = v.cells.size := by simp [hsz]
    unfold Instr.fill
    simp only [Nat.zero_mul]
    have hc : ¬ ((v.cells.size ≠ i.size || 0 + v.cells.size > ((Array.range (1 * i.size)).map (z.cells[· % z.cells.size]!)).size) = true) := by
      rw [hs1]; simp [hsz]
    simp only [if_neg hc]
    unfold Instr.fill
    congr 1
    exact fill_all _ _ hs1
  simp only [hf]
  simp [newRow, go_sem]
/-- '[]T{x}'. -/
theorem wl_build1 (hb : appB P ty e sz by' = true) (hs : Sat w0 w L) (hy : a.eval x = v) (hcs : v.cells = cs) (hsz : cs.size = sz) (hle : sz ≤ 16777216)
    (hK : ∀ b w', Sat w0 w' (pt b (.cells cs e (0,0)) :: L) → wpList P ops Q rest (a.put dst (.slice (some ⟨b, 0, none⟩) 1 1)) w') : wpList P ops Q (⟨dst, .buildSlice ty 1 #[(0, x)], t, pos, after, none⟩ :: rest) a w := by
  subst hcs
  refine wpList_plain rfl fun _ hK' => ?_
  have hS := hs.alloc (.cells v.cells e)
  unfold Oper.wp execOp
  simp only [hy, List.map_toArray, List.map_cons, List.map_nil, Sem.run_bind, Sem.run_pure, run_build1 hb hsz hle w, Result.andThen_ok]
  exact hK' _ _ (hK _ _ hS)
/-- 'append(s, y...)', both in memory that is held. -/
theorem wl_append (e : TypeId) (sz by' : Nat) (hb : appB P ty e sz by' = true) (hs : Sat w0 w L) (hv : a.eval s = v) (hy : a.eval y = .slice (some ⟨b, 0, none⟩) n c) {R2 : List HProp} (p : Pick (osl e sz v xs) L R) (p2 : Pick (pt b (.cells cs T (0,0))) R R2)
    (hn : cs.size = n * sz) (h0 : 0 < n) (h1 : cs.toList.all (·.oneCell') = true) (h63 : xs.length + cs.size ≤ maxLen) (hby : (xs.length + cs.size) * by' ≤ 140737488355328)
    (hK : ∀ b' n' c' w', Sat w0 w' (osl e sz (.slice (some ⟨b', 0, none⟩) n' c') (xs ++ cs.toList) :: R2) → wpList P ops Q rest (a.put dst (.slice (some ⟨b', 0, none⟩) n' c')) w') :
    wpList P ops Q (⟨dst, .call { callee := .builtin .append, args := #[s, y], argTypes := #[ty, ty] }, t, pos, after, none⟩ :: rest) a w := by
  obtain ⟨hu, i, z, hi, hz, e1, e2, e3, e4⟩ := appB_spec hb
  subst e2
  have hne : xs ++ cs.toList ≠ [] := by
    intro h
    have := congrArg List.length h
    simp only [List.length_append, Array.length_toList, List.length_nil] at this
    have : 0 < n * sz := Nat.mul_pos h0 e4
    omega
  have hrd : rdsl sz (.slice (some ⟨b, 0, none⟩) n c) cs.toList w := ⟨_, n, c, rfl, by simpa using hn, fun j x hj => ⟨_, rfl, by
    rw [add_zero_lit]
    exact ((hs.pick p).pick (pick_there p2)).cellAt j x (by simpa using hj)⟩⟩
  refine wpList_append (w0 := w0) rfl s y ty rfl e i z hu hi hz e1 e3 e4 hv hy (fun u hu => (List.all_eq_true.1 h1) u hu) (hs.pick p) hrd (by simpa using h63) (by simpa using hby) ?_
  intro v' w' hS hv'
  obtain ⟨b', n', c', rfl⟩ := hv' hne
  exact hK b' n' c' w' (hS.pick (pick_there p2)).drop
/-- The same, its bounds made plain. -/
theorem wl_app (e : TypeId) (sz by' : Nat) (hb : appB P ty e sz by' = true) (hs : Sat w0 w L) (hv : a.eval s = v) (hy : a.eval y = .slice (some ⟨b, 0, none⟩) n c) {R2 : List HProp} (p : Pick (osl e sz v xs) L R) (p2 : Pick (pt b (.cells cs T (0,0))) R R2)
    (hn : cs.size = n * sz) (h0 : 1 ≤ n) (h1 : cs.toList.all (·.oneCell') = true) (h63 : xs.length ≤ 2147483648) (h64 : cs.size ≤ 65536) (hby : by' ≤ 65000) (hys : cs.toList = ys)
    (hK : ∀ b' n' c' w', Sat w0 w' (osl e sz (.slice (some ⟨b', 0, none⟩) n' c') (xs ++ ys) :: R2) → wpList P ops Q rest (a.put dst (.slice (some ⟨b', 0, none⟩) n' c')) w') :
    wpList P ops Q (⟨dst, .call { callee := .builtin .append, args := #[s, y], argTypes := #[ty, ty] }, t, pos, after, none⟩ :: rest) a w := by
  subst hys
  refine wl_append e sz by' hb hs hv hy p p2 hn h0 h1 (by unfold maxLen; omega) ?_ hK
  calc (xs.length + cs.size) * by' ≤ (2147483648 + 65536) * 65000 := Nat.mul_le_mul (by omega) hby
    _ ≤ 140737488355328 := by decide
end
end
end Go.Proofs.YtjklhichekmdhaaGreat
/- Names of hints; hoardlaw16.lives, HintsNames. -/
namespace Go.Hin
open Go.Med
/-- A lead, and eight digits. -/
def name (lead : ByteArray) (n : Int) : ByteArray := if Seg.name n = ByteArray.empty then ByteArray.empty else lead ++ (Seg.name n).extract 4 12
def idx : ByteArray := ⟨#[105, 100, 120, 46]⟩
def use : ByteArray := ⟨#[117, 115, 101, 46]⟩
theorem seg_name (n : Int) : Seg.name n = ByteArray.empty ∨ (Seg.name n).size = 12 ∧ (Seg.name n).data.toList.take 4 = Seg.lead := by
  unfold Seg.name
  split
  · exact .inl rfl
  · right
    refine ⟨?_, rfl⟩
    show (Seg.lead ++ Seg.digs n.toNat 8).toArray.size = 12
    rw [List.size_toArray, List.length_append, Seg.digs_len]; rfl
end Go.Hin
namespace Go.Proofs.YtjklhichekmdhaaGreat
open Go Go.Sl Go.Med Go.MapKept Go.RowKit
set_option linter.unusedVariables false
section
variable {w0 w : World} {F : List HProp} {v bv dv x : Value} {q m : Nat}
set_option maxHeartbeats 1000000 in
theorem hasPfx_c (s : ByteArray) (h1 : s.size = 12) (h2 : s.data.toList.take 4 = Seg.lead) (w : World) :
    Calls Tryz.prog 48 #[.string s, .string ⟨#[115, 101, 103, 46]⟩] w (Rtn fun v w' => v = .bool true ∧ w = w') := by
  have h2d : ((s.extract 0 4).toList == [115, 101, 103, 46]) = true := by rw [ba_take s, h2]; rfl
  have hle : (4 : Int) ≤ (s.size : Int) := by omega
  clear h2
  go_enter Tryz.func48, Tryz.ntmps48
  go_wp2
  go_ret
  exact ⟨_, rfl, rfl, rfl⟩
set_option maxHeartbeats 1000000 in
theorem trimL_c (s : ByteArray) (h1 : s.size = 12) (h2 : s.data.toList.take 4 = Seg.lead) (w : World) :
    Calls Tryz.prog 30 #[.string s, .string ⟨#[115, 101, 103, 46]⟩] w (Rtn fun v w' => v = .string (s.extract 4 12) ∧ w = w') := by
  have hp := hasPfx_c s h1 h2 w
  go_enter Tryz.func30, Tryz.ntmps30
  go_wp2_with fail
  refine hp.mono ?_
  rintro e w1 ⟨v, rfl, rfl, rfl⟩
  clear hp
  go_wp2
  go_ret
  exact ⟨_, rfl, rfl, rfl⟩
set_option maxHeartbeats 1000000 in
theorem trim_c (s : ByteArray) (h1 : s.size = 12) (h2 : s.data.toList.take 4 = Seg.lead) (w : World) :
    Calls Tryz.prog 15 #[.string s, .string ⟨#[115, 101, 103, 46]⟩] w (Rtn fun v w' => v = .string (s.extract 4 12) ∧ w = w') := by
  have hp := trimL_c s h1 h2 w
  go_enter Tryz.func15, Tryz.ntmps15
  go_wp2_with fail
  refine hp.mono ?_
  rintro e w1 ⟨v, rfl, rfl, rfl⟩
  clear hp
  go_wp2
  go_ret
  exact ⟨_, rfl, rfl, rfl⟩
set_option maxHeartbeats 1000000 in
theorem hname_c (lead : ByteArray) (hl : lead.size = 4) (n : Int) (h : Sat w0 w F) :
    Calls Tryz.prog 8 #[.string lead, .int .i64 n] w (Rtn fun v w' => v = .string (Hin.name lead n) ∧ Sat w0 w' F) := by
  have hn := sname_c n h
  have Hf := Lib.hid (show Hin.name lead n = if Seg.name n = ByteArray.empty then ByteArray.empty else lead ++ (Seg.name n).extract 4 12 from rfl)
  have Hc := Lib.hid (Hin.seg_name n)
  generalize Seg.name n = s at *
  go_enter Tryz.func8, Tryz.ntmps8
  go_wp2_with fail
  refine hn.mono ?_
  rintro e w1 ⟨v, rfl, rfl, hS⟩
  clear hn
  rcases Hc.out with rfl | ⟨h1, h2⟩
  · clear hl h
    go_wp2
    go_ret
    exact ⟨_, rfl, by rw [Hf.out]; rfl, hS⟩
  · have hne : s ≠ ByteArray.empty := fun e => by rw [e] at h1; cases h1
    have hne2 : (s.toList == []) = false := by
      rw [beq_eq_false_iff_ne, ByteArray.toList_eq]
      intro e
      have := congrArg List.length e
      rw [Array.length_toList] at this
      have h1' : s.data.size = 12 := h1
      rw [h1'] at this; cases this
    have hsz : ¬ 9223372036854775807 < lead.size + (s.extract 4 12).size := by rw [hl, ByteArray.size_extract]; omega
    have Hne := Lib.hid hne
    have ht := trim_c s h1 h2
    clear hne h1 h2 hl h
    go_wp2_with fail
    refine (ht _).mono ?_
    rintro e w2 ⟨v, rfl, rfl, rfl⟩
    clear ht
    go_wp2
    go_ret
    exact ⟨_, rfl, by rw [Hf.out, if_neg Hne.out]; rfl, hS⟩
set_option maxHeartbeats 1000000 in
theorem rhname_c (lead : ByteArray) (hl : lead.size = 4) (n : Int) (w : World) :
    Calls Tryz.prog 5 #[.string lead, .int .i64 n] w (Rtn fun v w' => v = .string (Hin.name lead n) ∧ w = w') := by
  have hn := rname_c n w
  have Hf := Lib.hid (show Hin.name lead n = if Seg.name n = ByteArray.empty then ByteArray.empty else lead ++ (Seg.name n).extract 4 12 from rfl)
  have Hc := Lib.hid (Hin.seg_name n)
  generalize Seg.name n = s at *
  go_enter Tryz.func5, Tryz.ntmps5
  go_wp2_with fail
  refine hn.mono ?_
  rintro e w1 ⟨v, rfl, rfl, rfl⟩
  clear hn
  rcases Hc.out with rfl | ⟨h1, h2⟩
  · clear hl
    go_wp2
    go_ret
    exact ⟨_, rfl, by rw [Hf.out]; rfl, rfl⟩
  · have hne : s ≠ ByteArray.empty := fun e => by rw [e] at h1; cases h1
    have hne2 : (s.toList == []) = false := by
      rw [beq_eq_false_iff_ne, ByteArray.toList_eq]
      intro e
      have := congrArg List.length e
      rw [Array.length_toList] at this
      have h1' : s.data.size = 12 := h1
      rw [h1'] at this; cases this
    have hsz : ¬ 9223372036854775807 < lead.size + (s.extract 4 12).size := by rw [hl, ByteArray.size_extract]; omega
    have Hne := Lib.hid hne
    clear hne h2 hl
    go_wp2
    go_ret
    exact ⟨_, rfl, by rw [Hf.out, if_neg Hne.out]; rfl, rfl⟩
set_option maxHeartbeats 1000000 in
theorem iname_c (n : Int) (h : Sat w0 w F) : Calls Tryz.prog 4 #[.int .i64 n] w (Rtn fun v w' => v = .string (Hin.name Hin.idx n) ∧ Sat w0 w' F) := by
  have hn := hname_c Hin.idx rfl n h
  go_enter Tryz.func4, Tryz.ntmps4
  go_wp2_with fail
  refine hn.mono ?_
  rintro e w1 ⟨v, rfl, rfl, hS⟩
  clear hn
  go_wp2
  go_ret
  exact ⟨_, rfl, rfl, hS⟩
set_option maxHeartbeats 1000000 in
theorem uname_c (n : Int) (h : Sat w0 w F) : Calls Tryz.prog 6 #[.int .i64 n] w (Rtn fun v w' => v = .string (Hin.name Hin.use n) ∧ Sat w0 w' F) := by
  have hn := hname_c Hin.use rfl n h
  go_enter Tryz.func6, Tryz.ntmps6
  go_wp2_with fail
  refine hn.mono ?_
  rintro e w1 ⟨v, rfl, rfl, hS⟩
  clear hn
  go_wp2
  go_ret
  exact ⟨_, rfl, rfl, hS⟩
def hM : Med := Med.new 100
theorem hM_ok : hM.Ok 20 := Med.Ok.new 20 100 (by decide)
theorem hM_size (s : ByteArray) : hM.size s = (0, 9) := rfl
theorem hM_list : hM.list = [] := rfl
set_option maxHeartbeats 1000000 in
theorem there_c (s : ByteArray) (h : Sat w0 w (MedRep m hM :: F)) : Calls Tryz.prog 20 #[ptr m, .string s] w (Rtn fun v w' => v = .bool false ∧ w = w') := by
  have hs := size_c hM_ok h s
  rw [hM_size] at hs
  go_enter Tryz.func20, Tryz.ntmps20
  go_wp2_with fail
  refine hs.mono ?_
  rintro e w1 ⟨v, rfl, rfl, rfl⟩
  clear hs
  go_wp2
  go_ret
  exact ⟨_, rfl, rfl, rfl⟩
set_option maxHeartbeats 2000000 in
theorem load0_c (p : Nat) (n : Int) (h : Sat w0 w (MedRep m hM :: F)) : Calls Tryz.prog 12 #[ptr p, ptr m, .int .i64 n] w (Rtn fun v w' => v = .tuple #[.pointer none, errno 9] ∧ Sat w0 w' (MedRep m hM :: F)) := by
  have hs := size_c hM_ok h ByteArray.empty
  rw [hM_size] at hs
  have hi := iname_c n h
  go_enter Tryz.func12, Tryz.ntmps12
  go_wp2_with fail
  refine hs.mono ?_
  rintro e w1 ⟨v, rfl, rfl, rfl⟩
  clear hs
  go_wp2_with fail
  refine hi.mono ?_
  rintro e w2 ⟨v, rfl, rfl, hS⟩
  clear hi
  have ht := there_c (Hin.name Hin.idx n) hS
  go_wp2_with fail
  refine ht.mono ?_
  rintro e w3 ⟨v, rfl, rfl, rfl⟩
  clear ht
  go_wp2
  go_ret2
  exact ⟨_, rfl, rfl, hS⟩
set_option maxHeartbeats 2000000 in
theorem newest0_c (h : Sat w0 w (MedRep m hM :: F)) : Calls Tryz.prog 13 #[ptr m] w (Rtn fun v w' => v = .int .i64 (-1) ∧ Sat w0 w' (MedRep m hM :: F)) := by
  have hls := list_c hM_ok h
  go_enter Tryz.func13, Tryz.ntmps13
  go_wp2_with fail
  refine hls.mono ?_
  rintro e w1 ⟨v, rfl, hS, a, n, c, rfl⟩
  clear hls
  have hn : n = 0 := by
    obtain ⟨_, _, _, he, hl, _⟩ := Sat.rd hS
    cases he
    rw [hM_list] at hl
    simpa [strs] using hl.symm
  subst hn
  go_wp2_with fail
  go_loopg [3, 11] 0 (fun g lv iq wr => lv = .int .i64 (-1) ∧ iq = .int .i64 0 ∧ wr = w1)
  case atStart => exact ⟨rfl, rfl, rfl⟩
  case round =>
    obtain ⟨rfl, rfl, rfl⟩ := hrel
    go_wp2
    go_ret
    exact ⟨_, rfl, rfl, hS.drop⟩
theorem idx7 : Hin.name Hin.idx 7 = ⟨#[105, 100, 120, 46, 48, 48, 48, 48, 48, 48, 48, 55]⟩ := by decide +kernel
theorem hM_alive : Seg.alive hM = 0 := by decide +kernel
set_option maxHeartbeats 2000000 in
theorem hlives_c (h : Sat w0 w F) : Calls Tryz.prog 7 #[] w (Rtn fun v w' => v = .bool true ∧ Sat w0 w' F) := by
  have hnew : Calls Tryz.prog 10 #[.int .i64 100] w (Rtn fun v w' => ∃ m, v = .tuple #[ptr m, errno 0] ∧ Sat w0 w' (MedRep m (Med.new 100) :: F)) := new_yes 100 (by decide) h
  go_enter Tryz.func7, Tryz.ntmps7
  go_wp2_with fail
  refine hnew.mono ?_
  rintro e w1 ⟨v, rfl, m, rfl, hS⟩
  clear hnew h
  have hop := open_c (K := 20) hM_ok 128 hS hM_alive (by decide) (by decide)
  go_wp2_with fail
  refine hop.mono ?_
  rintro e w2 ⟨v, rfl, p, rfl, hS2⟩
  clear hop
  have hld := load0_c p 0 (hS2.pick1)
  go_wp2_with fail
  refine hld.mono ?_
  rintro e w3 ⟨v, rfl, rfl, hS3⟩
  clear hld
  have hi := iname_c 7 hS3
  rw [idx7] at hi
  go_wp2_with fail
  refine hi.mono ?_
  rintro e w4 ⟨v, rfl, rfl, hS4⟩
  clear hi
  have hne := newest0_c hS4
  go_wp2_with fail
  refine hne.mono ?_
  rintro e w5 ⟨v, rfl, rfl, hS5⟩
  clear hne
  go_wp2
  go_ret
  exact ⟨_, rfl, rfl, hS5.drop.drop⟩
set_option maxHeartbeats 2000000 in
theorem hints_names_c (n : Int) (h : Sat w0 w F) : Calls Tryz.prog 3 #[.int .i64 n] w (Rtn fun v w' => v = .bool true ∧ Sat w0 w' F) := by
  have h1 := iname_c n h
  go_enter Tryz.func3, Tryz.ntmps3
  go_wp2_with fail
  refine h1.mono ?_
  rintro e w1 ⟨v, rfl, rfl, hS⟩
  clear h1 h
  have h2 := rhname_c Hin.idx rfl n w1
  go_wp2_with fail
  refine h2.mono ?_
  rintro e w2 ⟨v, rfl, rfl, rfl⟩
  clear h2
  have h3 := uname_c n hS
  go_wp2_with fail
  refine h3.mono ?_
  rintro e w3 ⟨v, rfl, rfl, hS3⟩
  clear h3
  have h4 := rhname_c Hin.use rfl n w3
  go_wp2_with fail
  refine h4.mono ?_
  rintro e w4 ⟨v, rfl, rfl, rfl⟩
  clear h4
  have h5 := hlives_c hS3
  go_wp2_with fail
  refine h5.mono ?_
  rintro e w5 ⟨v, rfl, rfl, hS5⟩
  clear h5
  go_wp2
  go_ret
  exact ⟨_, rfl, rfl, hS5⟩
end
end Go.Proofs.YtjklhichekmdhaaGreat
/-
  'HintsNamesSaid': whatever the input, the law HintsNames returns true and the input reads as it did. No condition.
-/
namespace Go.Proofs.YtjklhichekmdhaaGreat.namesR
open Go.ChangeShapes Go.WideShapes Go.ChangeAt Go.RowKit
open Go.ChangeMaps (open_string shut_string)
open Go Go.Sl Go.Med
set_option linter.unusedVariables false
theorem walk {W : World} (z0 : Int) (w0 : inI z0) :
    Calls Tryz.prog 3 #[.int .i64 z0] W fun e w' => e = .returned (.bool true) ∧ Below W.heap.size W w' := by
  refine (hints_names_c (F := [Sl.old W]) z0 (Sat.start W)).mono ?_
  rintro e w' ⟨v, rfl, rfl, hS⟩
  exact ⟨rfl, hS.below⟩
set_option maxRecDepth 100000 in
theorem lifted (os : Os) (started : os.Started) (H : Type) (enc : TypeId × Value → H) :
    ReturnsInHanded {} Tryz.checked os 3 .any (Rows.hintsNamesSpec.pre6 enc Tryz.prog Tryz.f3 Rows.hintsNamesRow.domain false) (Rows.hintsNamesSpec.post enc Tryz.prog Tryz.f3 false true false false) := by
  refine returnsInHanded_of_change (C := Tryz.checked) own started (by kernel_rfl) Tryz.func3
    (ChangeSpec.witness6 (enc := enc) (C := Tryz.checked) false ⟨#[], #[.int .i64 0], []⟩ 8 (by kernel_rfl) (by kernel_rfl) (by kernel_rfl) (by kernel_rfl)) ?_
  intro W base args ds gs before hval0 hW hcnd _
  have hval : ∀ (j : Nat) t v, Tryz.f3.params[j]? = some t → args[j]? = some v → Value.okWide Tryz.prog W .any base t v := hval0
  have hW' := hW
  obtain ⟨p, q, hA0, hV, rfl, hfz, hnd⟩ := hW
  have hA : DataW.TrodAll enc Tryz.prog W 0 (fun _ => true) true Tryz.f3.params.toList args.toList ds p := hA0
  rw [Tryz.params3] at hA hval
  obtain ⟨v0, vs0, d0, ds0, p0, q0, hargs, rfl, rfl, h0, r0⟩ := trodAll_cons hA
  obtain ⟨rfl, rfl, rfl⟩ := trodAll_nil r0
  obtain rfl : args = #[v0] := by cases args; simp_all
  obtain ⟨rfl, rfl⟩ := trodVars_none hV
  obtain ⟨z0, rfl⟩ := okWide_int Tryz.underlying3 (hval 0 3 v0 rfl rfl)
  have k0 := h0
  have lt0 : ∀ x ∈ p0, x.block < W.heap.size := by obtain ⟨m, hm⟩ := k0; exact DataW.trod_lt m _ _ _ hm
  have w0 : inI z0 := by
    obtain ⟨fuel, hf⟩ := h0
    obtain ⟨n, hn, _, hw⟩ := DataW.trod_int Tryz.underlying3 hf
    obtain rfl : z0 = n := by simpa [Value.cells] using hn
    exact bounds_i64 hw
  clear hA0 hval0
  refine (walk z0 w0).mono fun e W' ⟨he, bel⟩ => ?_
  subst he
  exact ⟨_, rfl, _, _, _, [], _, [], hW', trodAll_mk1 (shut_bool Tryz.underlying4 _), (trodAll_cons_mk (Below.trod laidOut (by kernel_rfl) (of_decide_eq_true (by kernel_rfl)) k0 bel lt0) trodAll_mk0), rfl, bel.frame _, fun h => by cases h⟩
theorem over : Rows.hintsNamesRow.holds Tryz.pinned (OpenSpec.ofChange Rows.hintsNamesSpec) :=
  OpenClaim.holds_of_wide 3 Tryz.f3 rfl rfl rfl rfl rfl rfl rfl ⟨rfl, rfl, rfl, rfl, rfl⟩ rfl rfl rfl rfl rfl (by kernel_rfl) Tryz.func3 (by kernel_rfl)
    (of_decide_eq_true (by kernel_rfl)) (by unfold Func.isWrapper; first | (rw [if_pos (by decide +kernel)]; kernel_rfl) | (rw [if_neg (by decide +kernel)]; exact ⟨rfl, rfl⟩))
    (fun os started H enc _ => lifted os started H enc)
/-- The statement. -/
theorem proved : Rows.HintsNamesSaid := over
#print axioms proved
end Go.Proofs.YtjklhichekmdhaaGreat.namesR
