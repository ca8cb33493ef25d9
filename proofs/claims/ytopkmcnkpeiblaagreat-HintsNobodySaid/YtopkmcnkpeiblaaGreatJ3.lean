import Derived.Test.YtopkmcnkpeiblaaGreatJ2
import Derived.Laws.ResultCell
set_option linter.unusedVariables false
/- Frames found by looking: pick, upd, sub; loads, stores and new blocks told at the separation logic. -/
namespace Go.Sl
open Go
/-- A stands in L; the others are R. -/
def Pick (A : HProp) (L R : List HProp) : Prop := L.Perm (A :: R)
/-- L' is L, with B in A's place. -/
def Upd (A B : HProp) (L L' : List HProp) : Prop := ∃ R, L.Perm (A :: R) ∧ L'.Perm (B :: R)
/-- All of M stands in L. -/
def Sub (L M : List HProp) : Prop := ∃ X, L.Perm (M ++ X)
section
variable {A B A1 A2 A3 A4 A5 A6 A7 A8 A9 A10 A11 A12 : HProp} {L M R L' : List HProp} {w0 w : World}
theorem pick_there (h : Pick A L R) : Pick A (B :: L) (B :: R) := (h.cons B).trans (List.Perm.swap _ _ _)
theorem pick0 : Pick A (A :: R) R := List.Perm.refl _
theorem pick1 : Pick A (A1 :: A :: R) (A1 :: R) := pick_there pick0
theorem pick2 : Pick A (A1 :: A2 :: A :: R) (A1 :: A2 :: R) := pick_there pick1
theorem pick3 : Pick A (A1 :: A2 :: A3 :: A :: R) (A1 :: A2 :: A3 :: R) := pick_there pick2
theorem pick4 : Pick A (A1 :: A2 :: A3 :: A4 :: A :: R) (A1 :: A2 :: A3 :: A4 :: R) := pick_there pick3
theorem pick5 : Pick A (A1 :: A2 :: A3 :: A4 :: A5 :: A :: R) (A1 :: A2 :: A3 :: A4 :: A5 :: R) := pick_there pick4
theorem pick6 : Pick A (A1 :: A2 :: A3 :: A4 :: A5 :: A6 :: A :: R) (A1 :: A2 :: A3 :: A4 :: A5 :: A6 :: R) := pick_there pick5
theorem pick7 : Pick A (A1 :: A2 :: A3 :: A4 :: A5 :: A6 :: A7 :: A :: R) (A1 :: A2 :: A3 :: A4 :: A5 :: A6 :: A7 :: R) := pick_there pick6
theorem pick8 : Pick A (A1 :: A2 :: A3 :: A4 :: A5 :: A6 :: A7 :: A8 :: A :: R) (A1 :: A2 :: A3 :: A4 :: A5 :: A6 :: A7 :: A8 :: R) := pick_there pick7
theorem pick9 : Pick A (A1 :: A2 :: A3 :: A4 :: A5 :: A6 :: A7 :: A8 :: A9 :: A :: R) (A1 :: A2 :: A3 :: A4 :: A5 :: A6 :: A7 :: A8 :: A9 :: R) := pick_there pick8
theorem pick10 : Pick A (A1 :: A2 :: A3 :: A4 :: A5 :: A6 :: A7 :: A8 :: A9 :: A10 :: A :: R) (A1 :: A2 :: A3 :: A4 :: A5 :: A6 :: A7 :: A8 :: A9 :: A10 :: R) := pick_there pick9
theorem pick11 : Pick A (A1 :: A2 :: A3 :: A4 :: A5 :: A6 :: A7 :: A8 :: A9 :: A10 :: A11 :: A :: R) (A1 :: A2 :: A3 :: A4 :: A5 :: A6 :: A7 :: A8 :: A9 :: A10 :: A11 :: R) := pick_there pick10
theorem upd_there (h : Upd A B L L') : Upd A B (A1 :: L) (A1 :: L') := by
  obtain ⟨R, h1, h2⟩ := h
  exact ⟨A1 :: R, (h1.cons A1).trans (List.Perm.swap _ _ _), (h2.cons A1).trans (List.Perm.swap _ _ _)⟩
theorem upd0 : Upd A B (A :: R) (B :: R) := ⟨R, List.Perm.refl _, List.Perm.refl _⟩
theorem upd1 : Upd A B (A1 :: A :: R) (A1 :: B :: R) := upd_there upd0
theorem upd2 : Upd A B (A1 :: A2 :: A :: R) (A1 :: A2 :: B :: R) := upd_there upd1
theorem upd3 : Upd A B (A1 :: A2 :: A3 :: A :: R) (A1 :: A2 :: A3 :: B :: R) := upd_there upd2
theorem upd4 : Upd A B (A1 :: A2 :: A3 :: A4 :: A :: R) (A1 :: A2 :: A3 :: A4 :: B :: R) := upd_there upd3
theorem upd5 : Upd A B (A1 :: A2 :: A3 :: A4 :: A5 :: A :: R) (A1 :: A2 :: A3 :: A4 :: A5 :: B :: R) := upd_there upd4
theorem upd6 : Upd A B (A1 :: A2 :: A3 :: A4 :: A5 :: A6 :: A :: R) (A1 :: A2 :: A3 :: A4 :: A5 :: A6 :: B :: R) := upd_there upd5
theorem upd7 : Upd A B (A1 :: A2 :: A3 :: A4 :: A5 :: A6 :: A7 :: A :: R) (A1 :: A2 :: A3 :: A4 :: A5 :: A6 :: A7 :: B :: R) := upd_there upd6
theorem upd8 : Upd A B (A1 :: A2 :: A3 :: A4 :: A5 :: A6 :: A7 :: A8 :: A :: R) (A1 :: A2 :: A3 :: A4 :: A5 :: A6 :: A7 :: A8 :: B :: R) := upd_there upd7
theorem upd9 : Upd A B (A1 :: A2 :: A3 :: A4 :: A5 :: A6 :: A7 :: A8 :: A9 :: A :: R) (A1 :: A2 :: A3 :: A4 :: A5 :: A6 :: A7 :: A8 :: A9 :: B :: R) := upd_there upd8
theorem sub_refl : Sub L L := ⟨[], by simp⟩
theorem sub_nil : Sub L [] := ⟨L, by simp⟩
theorem sub_drop1 : Sub (A :: L) L := ⟨[A], by simpa using (List.perm_append_comm (l₁ := [A]) (l₂ := L))⟩
theorem sub_drop (h : Sub L M) : Sub (A :: L) M := by
  obtain ⟨X, h⟩ := h
  exact ⟨A :: X, (h.cons A).trans List.perm_middle.symm⟩
theorem sub_take (p : Pick A L R) (h : Sub R M) : Sub L (A :: M) := by
  obtain ⟨X, h⟩ := h
  exact ⟨X, p.trans (h.cons A)⟩
theorem Sat.pick (h : Sat w0 w L) (p : Pick A L R) : Sat w0 w (A :: R) := h.perm p
theorem Sat.sub (h : Sat w0 w L) (p : Sub L M) : Sat w0 w M := by
  obtain ⟨X, h2⟩ := p
  exact (h.perm h2).dropR
theorem Ro.of_pick {A : HProp} {p : World → Prop} (h : Ro w0 (A :: R) p) (k : Pick A L R) : Ro w0 L p := fun w hw => h w (hw.pick k)
theorem Ro.of_sub {p : World → Prop} (h : Ro w0 M p) (k : Sub L M) : Ro w0 L p := fun w hw => h w (hw.sub k)
/-- The cells of a block that is held. -/
theorem Sat.cellP {b : Nat} {cs : Array Value} {T : TypeId} (h : Sat w0 w L) (p : Pick (pt b (.cells cs T (0,0))) L R) (i : Nat) {v : Value} (hv : cs[i]? = some v) : w.cell? ⟨b, i, none⟩ = some v := (h.pick p).cellAt i v hv
end
end Go.Sl
namespace Go.Proofs.YtopkmcnkpeiblaaGreat
open Go Go.Sl Go.Med Go.MapKept Go.RowKit
set_option linter.unusedVariables false
section
variable {P : Program} {w0 w : World} {L L' R : List HProp} {b : Nat} {ops : Array Oper} {rest : List Oper} {a : Act} {Q : Exit → Act → World → Prop}
variable {dst : Option Tmp} {t ty T : TypeId} {pos : String} {after : Array Edge} {x y : Operand} {cs : Array Value} {v : Value} {o : Nat}
/-- A type of one cell. -/
def oneB (P : Program) (ty : TypeId) : Bool := match P.underlying ty with
  | some d => !d.isRow
  | none => false
theorem run_load1 (h1 : oneB P ty = true) (hc : w.cell? ⟨b, o, none⟩ = some v) : (loadVar ty ⟨b, o, none⟩).run P w = .ok v w := by
  unfold oneB at h1
  cases hu : P.underlying ty with
  | none => rw [hu] at h1; cases h1
  | some d =>
    rw [hu] at h1
    have hagg : (isAgg ty).run P w = .ok false w := by
      unfold isAgg
      rw [Sem.run_bind, run_underlying hu w]
      cases d <;> simp_all [TypeDesc.isRow]
    simp [loadVar, Sem.run_bind, hagg]
    rw [hc]
theorem run_load1A {ad : Addr} (h1 : oneB P ty = true) (hc : w.cell? ad = some v) : (loadVar ty ad).run P w = .ok v w := by
  unfold oneB at h1
  cases hu : P.underlying ty with
  | none => rw [hu] at h1; cases h1
  | some d =>
    rw [hu] at h1
    have hagg : (isAgg ty).run P w = .ok false w := by
      unfold isAgg
      rw [Sem.run_bind, run_underlying hu w]
      cases d <;> simp_all [TypeDesc.isRow]
    simp [loadVar, Sem.run_bind, hagg]
    rw [hc]
theorem execOp_builtin_len (a : Act) (after : Array Edge) (g : Option (Nat × Bool)) : execOp a.eval ⟨dst, .call { callee := .builtin .len, args := #[x], argTypes := #[ty] }, t, pos, after, g⟩ = (do pure (.value (← Builtin.len_ #[ty] t #[a.eval x]))) := by
  rw [BigFrame.execOp_builtin, BigFrame.builtin_len]; simp
theorem getD_get {i : Nat} (hlt : i + 1 ≤ cs.size) (hv : cs.getD i undef = v) : cs[i]? = some v := by
  rw [← hv, Array.getD_eq_getD_getElem?, Array.getElem?_eq_getElem (show i < cs.size by omega)]; rfl
/-- A cell is read. -/
theorem wl_load1 (hs : Sat w0 w L) (hx : a.eval x = .pointer (some ⟨b, o, none⟩)) (p : Pick (pt b (.cells cs T (0,0))) L R) (hlt : o + 1 ≤ cs.size) (hv : cs.getD o undef = v) (h1 : oneB P ty = true)
    (h : wpList P ops Q rest (a.put dst v) w) : wpList P ops Q (⟨dst, .load ty x, t, pos, after, none⟩ :: rest) a w :=
  wpList_plain rfl fun _ hK => by
    unfold Oper.wp execOp
    simp only [hx, Instr.loadAt, Instr.sureAddr, Sem.run_bind, Sem.run_pure, Result.andThen_ok, run_load1 h1 (hs.cellP p o (getD_get hlt hv))]
    exact hK _ _ h
/-- A struct, or an array, is read. -/
theorem wl_loadN (ks : List Value) (hs : Sat w0 w L) (hx : a.eval x = .pointer (some ⟨b, o, none⟩)) (p : Pick (pt b (.cells cs T (0,0))) L R) (hv : ∀ j v, ks[j]? = some v → cs[o + j]? = some v)
    {d : TypeDesc} (hu : P.underlying ty = some d) (hd : d.isRow = true) (hi : (P.info? ty).map (·.size) = some ks.length)
    (h : wpList P ops Q rest (a.put dst (.agg ks.toArray)) w) : wpList P ops Q (⟨dst, .load ty x, t, pos, after, none⟩ :: rest) a w :=
  wpList_load_mid rfl ty x rfl b o hx ks d (fun j v hj => hs.cellP p (o + j) (hv j v hj)) hu hd hi h
/-- A whole block is read. -/
theorem wl_loadA (hs : Sat w0 w L) (hx : a.eval x = .pointer (some ⟨b, 0, none⟩)) (p : Pick (pt b (.cells cs T (0,0))) L R) {d : TypeDesc} (hu : P.underlying ty = some d) (hd : d.isRow = true) (hi : (P.info? ty).map (·.size) = some cs.size)
    (h : wpList P ops Q rest (a.put dst (.agg cs)) w) : wpList P ops Q (⟨dst, .load ty x, t, pos, after, none⟩ :: rest) a w := by
  refine wpList_load_row rfl ty x rfl b hx T cs (0, 0) d (hs.pick p).at hu ?_ hi h
  cases d <;> simp_all [TypeDesc.isRow]
/-- A value is stored. -/
theorem wl_store (hs : Sat w0 w L) (hx : a.eval x = .pointer (some ⟨b, o, none⟩)) (hy : a.eval y = v) {cs' : Array Value} (hcs : putsAt cs o v.cells.toList = cs') (u : Upd (pt b (.cells cs T (0,0))) (pt b (.cells cs' T (0,0))) L L') (hfit : o + v.cells.size ≤ cs.size)
    (hi : (P.info? ty).map (·.size) = some v.cells.size) (h1 : v.cells.toList.all (·.oneCell') = true)
    (hK : ∀ w', Sat w0 w' L' → wpList P ops Q rest (a.put dst undef) w') : wpList P ops Q (⟨dst, .store ty x y, t, pos, after, none⟩ :: rest) a w := by
  subst hcs
  obtain ⟨R', h2, h3⟩ := u
  exact wpList_store_sat rfl ty x y rfl o v hx hy hfit hi (by rw [← Array.all_toList]; exact h1) (hs.perm h2) fun w' hS => hK w' (hS.perm h3.symm)
/-- A value is put into a block of its own. -/
theorem wl_box (hs : Sat w0 w L) (hy : a.eval y = v) (hcs : v.cells = cs)
    (hK : ∀ b w', Sat w0 w' (pt b (.cells cs ty (0,0)) :: L) → wpList P ops Q rest (a.put dst (.pointer (some ⟨b, 0, none⟩))) w') : wpList P ops Q (⟨dst, .box ty y, t, pos, after, none⟩ :: rest) a w := by
  subst hcs
  refine wpList_plain rfl fun _ hK' => ?_
  have hS := hs.alloc (.cells v.cells ty)
  unfold Oper.wp execOp
  have hrun : (Instr.box ty v).run P w = .ok (.pointer (some ⟨w.heap.size, 0, none⟩)) (w.alloc (.cells v.cells ty)) := by
    simp [Instr.box, newVar, newRow, go_sem]
  simp only [hy, Sem.run_bind, Sem.run_pure, hrun, Result.andThen_ok]
  exact hK' _ _ (hK _ _ hS)
/-- The table's zero of a type. -/
def zeroB (P : Program) (ty : TypeId) : Option Value := (P.info? ty).bind (·.zero)
theorem run_zeroB (hz : zeroB P ty = some v) (w : World) : (zeroValue ty).run P w = .ok v w := by
  unfold zeroB at hz
  cases hq : P.info? ty with
  | none => simp [hq] at hz
  | some i =>
    rw [hq] at hz
    have hz' : i.zero = some v := hz
    simp [zeroValue, typeInfo, hq, hz']
/-- A new variable. -/
theorem wl_alloc (hz : zeroB P ty = some v) (hs : Sat w0 w L) (hcs : v.cells = cs)
    (hK : ∀ b w', Sat w0 w' (pt b (.cells cs ty (0,0)) :: L) → wpList P ops Q rest (a.put dst (.pointer (some ⟨b, 0, none⟩))) w') : wpList P ops Q (⟨dst, .alloc ty, t, pos, after, none⟩ :: rest) a w := by
  subst hcs
  refine wpList_plain rfl fun _ hK' => ?_
  have hS := hs.alloc (.cells v.cells ty)
  unfold Oper.wp execOp
  have hrun : (Instr.alloc ty true (.tuple #[])).run P w = .ok (.pointer (some ⟨w.heap.size, 0, none⟩)) (w.alloc (.cells v.cells ty)) := by
    simp [Instr.alloc, run_zeroB hz w, newVar, newRow, go_sem, Result.andThen]
  simp only [Sem.run_bind, Sem.run_pure, hrun, Result.andThen_ok]
  exact hK' _ _ (hK _ _ hS)
/-- The results: a struct that lies in a cell, and a value. -/
theorem res_cell_tmp {fn : Func} {p u : Tmp} {tmps : Array Value} {d : TypeDesc} (hf : fn.results = #[.cell p ty, .tmp u]) (hs : Sat w0 w L) (hp : tmps.getD p undef = .pointer (some ⟨b, 0, none⟩)) (k : Pick (pt b (.cells cs T (0,0))) L R)
    (hu : P.underlying ty = some d) (hd : d.isRow = true) (hi : (P.info? ty).map (·.size) = some cs.size) :
    (results fn tmps).run P w = .ok (.tuple #[.agg cs, tmps.getD u undef]) w := by
  rw [results_cell_tmp hf tmps P w, hp]
  have hl := run_loadVar_row (P := P) w b T ty cs (0, 0) d (hs.pick k).at hu (by cases d <;> simp_all [TypeDesc.isRow]) hi
  simp [asAddr, hl, Result.andThen]
theorem LogRep.shut2 {p m : Nat} {L : Seg.Log} {lv : Value} {F : List HProp} (h : Sat w0 w (logPt p m L lv :: osl 116 2 lv (segw L.l) :: F)) : Sat w0 w (LogRep p m L :: F) := LogRep.shut h
theorem LogRep.open2 {p m : Nat} {L : Seg.Log} {F : List HProp} (h : Sat w0 w (LogRep p m L :: F)) : ∃ lv, Sat w0 w (logPt p m L lv :: osl 116 2 lv (segw L.l) :: F) := LogRep.open h
theorem putsAt_list : ∀ (ys : List Value) (cs : Array Value) (o : Nat), o + ys.length ≤ cs.size → (putsAt cs o ys).toList = cs.toList.take o ++ ys ++ cs.toList.drop (o + ys.length)
  | [], cs, o, h => by simp [putsAt]
  | y :: ys, cs, o, h => by
    simp only [List.length_cons] at h
    rw [putsAt, putsAt_list ys _ (o + 1) (by rw [Array.size_setIfInBounds]; omega), Array.toList_setIfInBounds]
    have hlt : o < cs.toList.length := by simp; omega
    rw [List.set_eq_take_append_cons_drop, if_pos hlt]
    have h1 : (cs.toList.take o).length = o := by rw [List.length_take]; omega
    rw [List.take_append, h1, List.take_of_length_le (by omega), show o + 1 - o = 1 by omega, List.take_succ_cons, List.take_zero]
    rw [List.drop_append, h1, List.drop_of_length_le (l := cs.toList.take o) (by omega), List.nil_append, show o + 1 + ys.length - o = ys.length + 1 by omega, List.drop_succ_cons, List.drop_drop]
    simp only [List.length_cons, List.append_assoc, List.cons_append, List.nil_append]
    rw [show o + 1 + ys.length = o + (ys.length + 1) by omega]
/-! ### stops: where a law is to be tried, seen by the operation's form alone -/
theorem at_load (h : Stop (wpList P ops Q (⟨dst, .load ty x, t, pos, after, none⟩ :: rest) a w)) : wpList P ops Q (⟨dst, .load ty x, t, pos, after, none⟩ :: rest) a w := h.out
theorem at_store (h : Stop (wpList P ops Q (⟨dst, .store ty x y, t, pos, after, none⟩ :: rest) a w)) : wpList P ops Q (⟨dst, .store ty x y, t, pos, after, none⟩ :: rest) a w := h.out
theorem at_box (h : Stop (wpList P ops Q (⟨dst, .box ty y, t, pos, after, none⟩ :: rest) a w)) : wpList P ops Q (⟨dst, .box ty y, t, pos, after, none⟩ :: rest) a w := h.out
theorem at_alloc (h : Stop (wpList P ops Q (⟨dst, .alloc ty, t, pos, after, none⟩ :: rest) a w)) : wpList P ops Q (⟨dst, .alloc ty, t, pos, after, none⟩ :: rest) a w := h.out
theorem at_build1 {ix : Nat} {k : Nat} (h : Stop (wpList P ops Q (⟨dst, .buildSlice ty k #[(ix, x)], t, pos, after, none⟩ :: rest) a w)) : wpList P ops Q (⟨dst, .buildSlice ty k #[(ix, x)], t, pos, after, none⟩ :: rest) a w := h.out
theorem at_append {s z : Operand} {ta tb : TypeId} (h : Stop (wpList P ops Q (⟨dst, .call { callee := .builtin .append, args := #[s, z], argTypes := #[ta, tb] }, t, pos, after, none⟩ :: rest) a w)) : wpList P ops Q (⟨dst, .call { callee := .builtin .append, args := #[s, z], argTypes := #[ta, tb] }, t, pos, after, none⟩ :: rest) a w := h.out
/-! ### what an operation yields, by its form -/
section
variable {vx vy : Value} {ad : Addr} {fl : Nat} {bo : BinOp} {uo : UnOp} {tz : TypeId} {G : World → Prop}
theorem want_none (o : Oper) (h : o.guard = none) : Region.wanted o (yielded ops a.tmps) = true := by simp [Region.wanted, h]
theorem yl_move (hx : a.eval x = v) : Yields P ops ⟨dst, .move x, t, pos, after, none⟩ v a :=
  .inl ⟨want_none _ rfl, fun w => by simp only [execOp, hx]; rfl⟩
theorem yl_assign (hx : a.eval x = v) : Yields P ops ⟨dst, .assign x, t, pos, after, none⟩ v a :=
  .inl ⟨want_none _ rfl, fun w => by simp only [execOp, hx]; rfl⟩
theorem yl_nil (hx : a.eval x = .pointer (some ad)) : Yields P ops ⟨dst, .nilCheck x, t, pos, after, none⟩ (.pointer (some ad)) a :=
  .inl ⟨want_none _ rfl, fun w => by simp only [execOp, hx]; rfl⟩
theorem yl_field (hx : a.eval x = vx) (hr : ∀ w, (Instr.fieldAt ty vx fl).run P w = .ok v w) : Yields P ops ⟨dst, .fieldAddr ty x fl, t, pos, after, none⟩ v a :=
  .inl ⟨want_none _ rfl, fun w => by simp only [execOp, hx, Sem.run_bind, hr, Result.andThen_ok, Sem.run_pure]⟩
theorem yl_index (hx : a.eval x = vx) (hy : a.eval y = vy) (hr : ∀ w, (Instr.indexAt ty vx vy).run P w = .ok v w) : Yields P ops ⟨dst, .indexAddr ty x y, t, pos, after, none⟩ v a :=
  .inl ⟨want_none _ rfl, fun w => by simp only [execOp, hx, hy, Sem.run_bind, hr, Result.andThen_ok, Sem.run_pure]⟩
theorem yl_bin (hx : a.eval x = vx) (hy : a.eval y = vy) (hr : ∀ w, ((do eqGuard bo ty x y vx vy; binOp bo ty vx vy) : Sem Value).run P w = .ok v w) : Yields P ops ⟨dst, .binOp bo ty x y tz, t, pos, after, none⟩ v a :=
  .inl ⟨want_none _ rfl, fun w => by simp only [execOp, hx, hy, Sem.run_bind (x := (do eqGuard bo ty x y vx vy; binOp bo ty vx vy)), hr, Result.andThen_ok, Sem.run_pure]⟩
theorem yl_un (hx : a.eval x = vx) (hr : ∀ w, (Op.unary uo vx).run P w = .ok v w) : Yields P ops ⟨dst, .unOp uo ty x, t, pos, after, none⟩ v a :=
  .inl ⟨want_none _ rfl, fun w => by simp only [execOp, hx, Sem.run_bind, hr, Result.andThen_ok, Sem.run_pure]⟩
theorem yl_conv (hx : a.eval x = vx) (hr : ∀ w, (convert ty tz vx).run P w = .ok v w) : Yields P ops ⟨dst, .convert ty tz x, t, pos, after, none⟩ v a :=
  .inl ⟨want_none _ rfl, fun w => by simp only [execOp, hx, Sem.run_bind, hr, Result.andThen_ok, Sem.run_pure]⟩
theorem yl_extract (hx : a.eval x = vx) (hr : ∀ w, (Instr.extract vx fl).run P w = .ok v w) : Yields P ops ⟨dst, .extract x fl, t, pos, after, none⟩ v a :=
  .inl ⟨want_none _ rfl, fun w => by simp only [execOp, hx, Sem.run_bind, hr, Result.andThen_ok, Sem.run_pure]⟩
theorem yl_len (hx : a.eval x = vx) (hr : ∀ w, (Builtin.len_ #[ty] t #[vx]).run P w = .ok v w) : Yields P ops ⟨dst, .call { callee := .builtin .len, args := #[x], argTypes := #[ty] }, t, pos, after, none⟩ v a :=
  .inl ⟨want_none _ rfl, fun w => by
    rw [execOp_builtin_len, hx]
    simp only [Sem.run_bind, hr, Result.andThen_ok, Sem.run_pure]⟩
/-- A cell that G knows is read. -/
theorem tk_load (hx : a.eval x = .pointer (some ad)) (h1 : oneB P ty = true) (hG : ∀ w, G w → w.cell? ad = some v) : YieldsIf P ops G ⟨dst, .load ty x, t, pos, after, none⟩ v a :=
  .inl ⟨want_none _ rfl, fun w hw => by
    obtain ⟨b, o, el⟩ := ad
    have hc := hG w hw
    simp only [execOp, hx, Instr.loadAt, Instr.sureAddr, Sem.run_bind, Sem.run_pure, Result.andThen_ok, run_load1A h1 hc]⟩
/-- A function with a body. -/
def goB (P : Program) (f : FuncId) : Bool := match P.funcs[f]? with
  | some fn => !(fn.name == "runtime.NumGoroutine") && fn.body.isSome
  | none => false
theorem run_goB {f : FuncId} (h : goB P f = true) (args : Array Value) (w : World) : (callFunc f args).run P w = .ok (.enter f args) w := by
  unfold goB at h
  cases hf : P.funcs[f]? with
  | none => rw [hf] at h; cases h
  | some fn =>
    rw [hf] at h
    simp only [Bool.and_eq_true, Bool.not_eq_true'] at h
    obtain ⟨h1, h2⟩ := h
    obtain ⟨c, hc⟩ := Option.isSome_iff_exists.1 h2
    have h1' : fn.name ≠ "runtime.NumGoroutine" := by simpa using h1
    simp [callFunc, hf, h1', hc]
/-- What follows upon a call. -/
def Upon (K : Act → World → Prop) (Q : Exit → Act → World → Prop) (a : Act) (dst : Option Tmp) (e : Ending) (w : World) : Prop :=
  match e with
  | .returned v => K (a.put dst v) w
  | .panicked chain => Q (.panic chain) a w
  | .outgrown => LetsOut Q
theorem eff_call {f : FuncId} {xs : Array Operand} {ts : Array TypeId} {K : Act → World → Prop} {E : Prop} (vs : List Value) (hf : goB P f = true) (hv : xs.toList.map a.eval = vs)
    (h : Calls P f vs.toArray w (Upon K Q a dst)) : if Region.wanted ⟨dst, .call { callee := .value (.func f), args := xs, argTypes := ts }, t, pos, after, none⟩ (yielded ops a.tmps) = true then
      Oper.wp P ⟨dst, .call { callee := .value (.func f), args := xs, argTypes := ts }, t, pos, after, none⟩ a w K Q else E := by
  rw [if_pos (want_none _ rfl)]
  unfold Oper.wp
  have e1 : (#[] ++ xs.map a.eval ++ #[] : Array Value) = vs.toArray := by
    rw [← hv]; cases xs; simp
  rw [execOp_call_go, e1, run_goB hf, Oper.upon_enter]
  exact h.mono fun e w' he => by cases e <;> exact he
theorem eff_call1 {f : FuncId} {x1 : Operand} {v1 : Value} {ts : Array TypeId} {K : Act → World → Prop} {E : Prop} (hf : goB P f = true) (h1 : a.eval x1 = v1)
    (h : Calls P f #[v1] w (Upon K Q a dst)) : if Region.wanted ⟨dst, .call { callee := .value (.func f), args := #[x1], argTypes := ts }, t, pos, after, none⟩ (yielded ops a.tmps) = true then
      Oper.wp P ⟨dst, .call { callee := .value (.func f), args := #[x1], argTypes := ts }, t, pos, after, none⟩ a w K Q else E :=
  eff_call [v1] hf (by simp [h1]) h
theorem eff_call2 {f : FuncId} {x1 x2 : Operand} {v1 v2 : Value} {ts : Array TypeId} {K : Act → World → Prop} {E : Prop} (hf : goB P f = true) (h1 : a.eval x1 = v1) (h2 : a.eval x2 = v2)
    (h : Calls P f #[v1, v2] w (Upon K Q a dst)) : if Region.wanted ⟨dst, .call { callee := .value (.func f), args := #[x1, x2], argTypes := ts }, t, pos, after, none⟩ (yielded ops a.tmps) = true then
      Oper.wp P ⟨dst, .call { callee := .value (.func f), args := #[x1, x2], argTypes := ts }, t, pos, after, none⟩ a w K Q else E :=
  eff_call [v1, v2] hf (by simp [h1, h2]) h
theorem eff_call3 {f : FuncId} {x1 x2 x3 : Operand} {v1 v2 v3 : Value} {ts : Array TypeId} {K : Act → World → Prop} {E : Prop} (hf : goB P f = true) (h1 : a.eval x1 = v1) (h2 : a.eval x2 = v2) (h3 : a.eval x3 = v3)
    (h : Calls P f #[v1, v2, v3] w (Upon K Q a dst)) : if Region.wanted ⟨dst, .call { callee := .value (.func f), args := #[x1, x2, x3], argTypes := ts }, t, pos, after, none⟩ (yielded ops a.tmps) = true then
      Oper.wp P ⟨dst, .call { callee := .value (.func f), args := #[x1, x2, x3], argTypes := ts }, t, pos, after, none⟩ a w K Q else E :=
  eff_call [v1, v2, v3] hf (by simp [h1, h2, h3]) h
theorem eff_call4 {f : FuncId} {x1 x2 x3 x4 : Operand} {v1 v2 v3 v4 : Value} {ts : Array TypeId} {K : Act → World → Prop} {E : Prop} (hf : goB P f = true) (h1 : a.eval x1 = v1) (h2 : a.eval x2 = v2) (h3 : a.eval x3 = v3) (h4 : a.eval x4 = v4)
    (h : Calls P f #[v1, v2, v3, v4] w (Upon K Q a dst)) : if Region.wanted ⟨dst, .call { callee := .value (.func f), args := #[x1, x2, x3, x4], argTypes := ts }, t, pos, after, none⟩ (yielded ops a.tmps) = true then
      Oper.wp P ⟨dst, .call { callee := .value (.func f), args := #[x1, x2, x3, x4], argTypes := ts }, t, pos, after, none⟩ a w K Q else E :=
  eff_call [v1, v2, v3, v4] hf (by simp [h1, h2, h3, h4]) h
theorem gd_move (h : Stop (Yields P ops ⟨dst, .move x, t, pos, after, none⟩ v a)) : Yields P ops ⟨dst, .move x, t, pos, after, none⟩ v a := h.out
theorem gd_assign (h : Stop (Yields P ops ⟨dst, .assign x, t, pos, after, none⟩ v a)) : Yields P ops ⟨dst, .assign x, t, pos, after, none⟩ v a := h.out
theorem gd_nil (h : Stop (Yields P ops ⟨dst, .nilCheck x, t, pos, after, none⟩ v a)) : Yields P ops ⟨dst, .nilCheck x, t, pos, after, none⟩ v a := h.out
theorem gd_field (h : Stop (Yields P ops ⟨dst, .fieldAddr ty x fl, t, pos, after, none⟩ v a)) : Yields P ops ⟨dst, .fieldAddr ty x fl, t, pos, after, none⟩ v a := h.out
theorem gd_index (h : Stop (Yields P ops ⟨dst, .indexAddr ty x y, t, pos, after, none⟩ v a)) : Yields P ops ⟨dst, .indexAddr ty x y, t, pos, after, none⟩ v a := h.out
theorem gd_bin (h : Stop (Yields P ops ⟨dst, .binOp bo ty x y tz, t, pos, after, none⟩ v a)) : Yields P ops ⟨dst, .binOp bo ty x y tz, t, pos, after, none⟩ v a := h.out
theorem gd_un (h : Stop (Yields P ops ⟨dst, .unOp uo ty x, t, pos, after, none⟩ v a)) : Yields P ops ⟨dst, .unOp uo ty x, t, pos, after, none⟩ v a := h.out
theorem gd_conv (h : Stop (Yields P ops ⟨dst, .convert ty tz x, t, pos, after, none⟩ v a)) : Yields P ops ⟨dst, .convert ty tz x, t, pos, after, none⟩ v a := h.out
theorem gd_extract (h : Stop (Yields P ops ⟨dst, .extract x fl, t, pos, after, none⟩ v a)) : Yields P ops ⟨dst, .extract x fl, t, pos, after, none⟩ v a := h.out
theorem gd_len (h : Stop (Yields P ops ⟨dst, .call { callee := .builtin .len, args := #[x], argTypes := #[ty] }, t, pos, after, none⟩ v a)) : Yields P ops ⟨dst, .call { callee := .builtin .len, args := #[x], argTypes := #[ty] }, t, pos, after, none⟩ v a := h.out
theorem gd_call1 {f : FuncId} {x1 : Operand} {ts : Array TypeId} {K : Act → World → Prop} {E : Prop} (h : Stop (if Region.wanted ⟨dst, .call { callee := .value (.func f), args := #[x1], argTypes := ts }, t, pos, after, none⟩ (yielded ops a.tmps) = true then Oper.wp P ⟨dst, .call { callee := .value (.func f), args := #[x1], argTypes := ts }, t, pos, after, none⟩ a w K Q else E)) : if Region.wanted ⟨dst, .call { callee := .value (.func f), args := #[x1], argTypes := ts }, t, pos, after, none⟩ (yielded ops a.tmps) = true then Oper.wp P ⟨dst, .call { callee := .value (.func f), args := #[x1], argTypes := ts }, t, pos, after, none⟩ a w K Q else E := h.out
theorem gd_call2 {f : FuncId} {x1 x2 : Operand} {ts : Array TypeId} {K : Act → World → Prop} {E : Prop} (h : Stop (if Region.wanted ⟨dst, .call { callee := .value (.func f), args := #[x1, x2], argTypes := ts }, t, pos, after, none⟩ (yielded ops a.tmps) = true then Oper.wp P ⟨dst, .call { callee := .value (.func f), args := #[x1, x2], argTypes := ts }, t, pos, after, none⟩ a w K Q else E)) : if Region.wanted ⟨dst, .call { callee := .value (.func f), args := #[x1, x2], argTypes := ts }, t, pos, after, none⟩ (yielded ops a.tmps) = true then Oper.wp P ⟨dst, .call { callee := .value (.func f), args := #[x1, x2], argTypes := ts }, t, pos, after, none⟩ a w K Q else E := h.out
theorem gd_call3 {f : FuncId} {x1 x2 x3 : Operand} {ts : Array TypeId} {K : Act → World → Prop} {E : Prop} (h : Stop (if Region.wanted ⟨dst, .call { callee := .value (.func f), args := #[x1, x2, x3], argTypes := ts }, t, pos, after, none⟩ (yielded ops a.tmps) = true then Oper.wp P ⟨dst, .call { callee := .value (.func f), args := #[x1, x2, x3], argTypes := ts }, t, pos, after, none⟩ a w K Q else E)) : if Region.wanted ⟨dst, .call { callee := .value (.func f), args := #[x1, x2, x3], argTypes := ts }, t, pos, after, none⟩ (yielded ops a.tmps) = true then Oper.wp P ⟨dst, .call { callee := .value (.func f), args := #[x1, x2, x3], argTypes := ts }, t, pos, after, none⟩ a w K Q else E := h.out
theorem gd_call4 {f : FuncId} {x1 x2 x3 x4 : Operand} {ts : Array TypeId} {K : Act → World → Prop} {E : Prop} (h : Stop (if Region.wanted ⟨dst, .call { callee := .value (.func f), args := #[x1, x2, x3, x4], argTypes := ts }, t, pos, after, none⟩ (yielded ops a.tmps) = true then Oper.wp P ⟨dst, .call { callee := .value (.func f), args := #[x1, x2, x3, x4], argTypes := ts }, t, pos, after, none⟩ a w K Q else E)) : if Region.wanted ⟨dst, .call { callee := .value (.func f), args := #[x1, x2, x3, x4], argTypes := ts }, t, pos, after, none⟩ (yielded ops a.tmps) = true then Oper.wp P ⟨dst, .call { callee := .value (.func f), args := #[x1, x2, x3, x4], argTypes := ts }, t, pos, after, none⟩ a w K Q else E := h.out
/-! ### the steps of a region that draws -/
variable {late : List Nat} {i n : Nat} {oi : Oper} {l : Array Bool}
theorem rg_pure (i : Nat) (hi : ops.toList[i]? = some oi) (hc : (Region.noSelect ops && Region.free .any ops l i && (Region.ready .any ops l).contains i && shutB ops l) = true)
    (hQ : ∀ c a w, Q (.panic c) (a.put oi.dst v) w → Q (.panic c) a w) (hy : Yields P ops oi v a) {a' : Act} (ha : a.put oi.dst v = a')
    (h : wpL P ops Q late G n (l.setIfInBounds i true) a' w) : wpL P ops Q late G (n + 1) l a w :=
  wpL_pure (by rw [← Array.getElem?_toList]; exact hi) hc hQ hy (by rw [ha]; exact h)
theorem rg_take (i : Nat) (hi : ops.toList[i]? = some oi) (hc : (Region.noSelect ops && Region.free .any ops l i && (Region.ready .any ops l).contains i && lateOk ops late i && shutB ops l) = true)
    (hQ : ∀ c a w, Q (.panic c) (a.put oi.dst v) w → Q (.panic c) a w) (hy : YieldsIf P ops G oi v a) (hG : G w) {a' : Act} (ha : a.put oi.dst v = a')
    (h : wpL P ops Q late G n (l.setIfInBounds i true) a' w) : wpL P ops Q late G (n + 1) l a w :=
  wpL_take (by rw [← Array.getElem?_toList]; exact hi) hc hQ hy hG (by rw [ha]; exact h)
theorem rg_eff (i : Nat) (hi : ops.toList[i]? = some oi) (hr : Region.ready .any ops l = [i])
    (h : ∀ K : Act → World → Prop, (∀ a' w', keeps late G i w w' → wpL P ops Q late G n (l.setIfInBounds i true) a' w' → K a' w') →
      if Region.wanted oi (yielded ops a.tmps) = true then Oper.wp P oi a w K Q else K (a.put oi.dst undef) w) : wpL P ops Q late G (n + 1) l a w :=
  wpL_eff (by rw [← Array.getElem?_toList]; exact hi) hr h
end
/-! ### a slice of one element; append -/
section
variable {e : TypeId} {sz by' n c : Nat} {xs ys : List Value} {s : Operand}
/-- The table's word on a slice type t of e: sz cells and by' bytes an element. -/
def appB (P : Program) (t e : TypeId) (sz by' : Nat) : Bool :=
  (match P.underlying t with | some (.slice e') => e' == e | _ => false) &&
  (match P.info? e with
    | some i => i.size == sz && i.bytes == by' && (match i.zero with | some z => z.cells.size == sz | none => false) && decide (0 < sz)
    | none => false)
theorem appB_spec (h : appB P t e sz by' = true) : P.underlying t = some (.slice e) ∧ ∃ i z, P.info? e = some i ∧ i.zero = some z ∧ i.size = sz ∧ i.bytes = by' ∧ z.cells.size = sz ∧ 0 < sz := by
  unfold appB at h
  rw [Bool.and_eq_true] at h
  obtain ⟨h1, h2⟩ := h
  constructor
  · split at h1
    · rename_i e' he; rw [he]; congr 2; simpa using h1
    · cases h1
  · split at h2
    · rename_i i hi
      simp only [Bool.and_eq_true, beq_iff_eq, decide_eq_true_eq] at h2
      obtain ⟨⟨⟨a1, a2⟩, a3⟩, a4⟩ := h2
      split at a3
      · rename_i z hz
        exact ⟨i, z, hi, hz, a1, a2, by simpa using a3, a4⟩
      · cases a3
    · cases h2
theorem fill_all (cs zs : Array Value) (h : zs.size = cs.size) : cs.zipIdx.foldl (fun acc (x : Value × Nat) => acc.setIfInBounds (0 + x.2) x.1) zs = cs := by
  have key : ∀ (k : Nat) (l : List Value) (acc : Array Value), acc.size = k + l.length → (∀ j, j < k → acc[j]? = cs[j]?) → (∀ j, l[j]? = cs[k + j]?) → k + l.length = cs.size →
      (l.zipIdx k).foldl (fun acc (x : Value × Nat) => acc.setIfInBounds (0 + x.2) x.1) acc = cs := by
    intro k l
    induction l generalizing k with
    | nil =>
      intro acc h1 h2 _ h4
      simp only [List.zipIdx_nil, List.foldl_nil]
      simp only [List.length_nil, Nat.add_zero] at h1 h4
      apply Array.ext_getElem?
      intro j
      by_cases hj : j < k
      · exact h2 j hj
      · rw [Array.getElem?_eq_none (by omega), Array.getElem?_eq_none (by omega)]
    | cons v l ih =>
      intro acc h1 h2 h3 h4
      simp only [List.zipIdx_cons, List.foldl_cons]
      simp only [List.length_cons] at h1 h4
      rw [Nat.zero_add k]
      refine ih (k + 1) (acc.setIfInBounds k v) (by rw [Array.size_setIfInBounds]; omega) ?_ ?_ (by omega)
      · intro j hj
        by_cases hjk : j = k
        · subst hjk
          have := h3 0
          simp only [List.getElem?_cons_zero, Nat.add_zero] at this
          rw [← this, Array.getElem?_setIfInBounds_self_of_lt (by omega)]
        · rw [Array.getElem?_setIfInBounds_ne (by omega)]
          exact h2 j (by omega)
      · intro j
        have := h3 (j + 1)
        rw [List.getElem?_cons_succ] at this
        rw [this]
        congr 1
        omega
  have := key 0 cs.toList zs (by simpa using h) (fun j hj => absurd hj (Nat.not_lt_zero j)) (fun j => by simp) (by simp)
  conv => rhs; rw [← this]
  rw [← Array.foldl_toList, Array.toList_zipIdx]
theorem run_build1 (hb : appB P t e sz by' = true) (hsz : v.cells.size = sz) (hle : sz ≤ 16777216) (w : World) :
    (Instr.buildSlice t 1 #[(0, v)]).run P w = .ok (.slice (some ⟨w.heap.size, 0, none⟩) 1 1) (w.alloc (.cells v.cells e)) := by
  obtain ⟨hu, i, z, hi, hz, h1, h2, h3, h4⟩ := appB_spec hb
  subst h1
  have hzv : (zeroValue e).run P w = .ok z w := by simp [zeroValue, typeInfo, hi, hz]
  have hsz' : (sizeOf e).run P w = .ok i.size w := by simp [sizeOf, typeInfo, hi]
  have hnz : ¬ (1 * i.size = 0) := by omega
  have hle' : ¬ (1 * i.size > 2 ^ 24) := by omega
  unfold Instr.buildSlice
  simp only [Sem.run_bind, run_underlying hu, Result.andThen_ok, hsz', if_neg hle', if_neg hnz, hzv, Sem.run_pure]
  have hf : Instr.fill (fun i' => some (i' * i.size, i.size)) ((Array.range (1 * i.size)).map (z.cells[· % z.cells.size]!)) [(0, v)] = some v.cells := by
    have hs1 : ((Array.range (1 * i.size)).map (z.cells[· % z.cells.size]!)).size = v.cells.size := by simp [hsz]
    unfold Instr.fill
    simp only [Nat.zero_mul]
    have hc : ¬ ((v.cells.size ≠ i.size || 0 + v.cells.size > ((Array.range (1 * i.size)).map (z.cells[· % z.cells.size]!)).size) = true) := by
      rw [hs1]; simp [hsz]
    simp only [if_neg hc]
    unfold Instr.fill
    congr 1
    exact fill_all _ _ hs1
  simp only [hf]
  simp [newRow, go_sem]
/-- '[]T{x}'. -/
theorem wl_build1 (hb : appB P ty e sz by' = true) (hs : Sat w0 w L) (hy : a.eval x = v) (hcs : v.cells = cs) (hsz : cs.size = sz) (hle : sz ≤ 16777216)
    (hK : ∀ b w', Sat w0 w' (pt b (.cells cs e (0,0)) :: L) → wpList P ops Q rest (a.put dst (.slice (some ⟨b, 0, none⟩) 1 1)) w') : wpList P ops Q (⟨dst, .buildSlice ty 1 #[(0, x)], t, pos, after, none⟩ :: rest) a w := by
  subst hcs
  refine wpList_plain rfl fun _ hK' => ?_
  have hS := hs.alloc (.cells v.cells e)
  unfold Oper.wp execOp
  simp only [hy, List.map_toArray, List.map_cons, List.map_nil, Sem.run_bind, Sem.run_pure, run_build1 hb hsz hle w, Result.andThen_ok]
  exact hK' _ _ (hK _ _ hS)
/-- 'append(s, y...)', both in memory that is held. -/
theorem wl_append (e : TypeId) (sz by' : Nat) (hb : appB P ty e sz by' = true) (hs : Sat w0 w L) (hv : a.eval s = v) (hy : a.eval y = .slice (some ⟨b, 0, none⟩) n c) {R2 : List HProp} (p : Pick (osl e sz v xs) L R) (p2 : Pick (pt b (.cells cs T (0,0))) R R2)
    (hn : cs.size = n * sz) (h0 : 0 < n) (h1 : cs.toList.all (·.oneCell') = true) (h63 : xs.length + cs.size ≤ maxLen) (hby : (xs.length + cs.size) * by' ≤ 140737488355328)
    (hK : ∀ b' n' c' w', Sat w0 w' (osl e sz (.slice (some ⟨b', 0, none⟩) n' c') (xs ++ cs.toList) :: R2) → wpList P ops Q rest (a.put dst (.slice (some ⟨b', 0, none⟩) n' c')) w') :
    wpList P ops Q (⟨dst, .call { callee := .builtin .append, args := #[s, y], argTypes := #[ty, ty] }, t, pos, after, none⟩ :: rest) a w := by
  obtain ⟨hu, i, z, hi, hz, e1, e2, e3, e4⟩ := appB_spec hb
  subst e2
  have hne : xs ++ cs.toList ≠ [] := by
    intro h
    have := congrArg List.length h
    simp only [List.length_append, Array.length_toList, List.length_nil] at this
    have : 0 < n * sz := Nat.mul_pos h0 e4
    omega
  have hrd : rdsl sz (.slice (some ⟨b, 0, none⟩) n c) cs.toList w := ⟨_, n, c, rfl, by simpa using hn, fun j x hj => ⟨_, rfl, by
    rw [add_zero_lit]
    exact ((hs.pick p).pick (pick_there p2)).cellAt j x (by simpa using hj)⟩⟩
  refine wpList_append (w0 := w0) rfl s y ty rfl e i z hu hi hz e1 e3 e4 hv hy (fun u hu => (List.all_eq_true.1 h1) u hu) (hs.pick p) hrd (by simpa using h63) (by simpa using hby) ?_
  intro v' w' hS hv'
  obtain ⟨b', n', c', rfl⟩ := hv' hne
  exact hK b' n' c' w' (hS.pick (pick_there p2)).drop
/-- The same, its bounds made plain. -/
theorem wl_app (e : TypeId) (sz by' : Nat) (hb : appB P ty e sz by' = true) (hs : Sat w0 w L) (hv : a.eval s = v) (hy : a.eval y = .slice (some ⟨b, 0, none⟩) n c) {R2 : List HProp} (p : Pick (osl e sz v xs) L R) (p2 : Pick (pt b (.cells cs T (0,0))) R R2)
    (hn : cs.size = n * sz) (h0 : 1 ≤ n) (h1 : cs.toList.all (·.oneCell') = true) (h63 : xs.length ≤ 2147483648) (h64 : cs.size ≤ 65536) (hby : by' ≤ 65000) (hys : cs.toList = ys)
    (hK : ∀ b' n' c' w', Sat w0 w' (osl e sz (.slice (some ⟨b', 0, none⟩) n' c') (xs ++ ys) :: R2) → wpList P ops Q rest (a.put dst (.slice (some ⟨b', 0, none⟩) n' c')) w') :
    wpList P ops Q (⟨dst, .call { callee := .builtin .append, args := #[s, y], argTypes := #[ty, ty] }, t, pos, after, none⟩ :: rest) a w := by
  subst hys
  refine wl_append e sz by' hb hs hv hy p p2 hn h0 h1 (by unfold maxLen; omega) ?_ hK
  calc (xs.length + cs.size) * by' ≤ (2147483648 + 65536) * 65000 := Nat.mul_le_mul (by omega) hby
    _ ≤ 140737488355328 := by decide
end
end
end Go.Proofs.YtopkmcnkpeiblaaGreat
namespace Go.Sl
open Go
section
variable {w0 w : World} {A : HProp} {L M R : List HProp}
theorem Sat.pk (h : Sat w0 w L) (p : Pick A L R := by first | ((repeat (first | with_reducible apply pick0 | with_reducible apply pick_there)); done) | ((repeat (first | apply pick0 | apply pick_there)); done) | fail) : Sat w0 w (A :: R) := h.pick p
theorem Sat.sb (h : Sat w0 w L) (p : Sub L M := by repeat (first | (with_reducible apply sub_refl) | ((with_reducible apply sub_take); (· first | ((repeat (first | with_reducible apply pick0 | with_reducible apply pick_there)); done) | ((repeat (first | apply pick0 | apply pick_there)); done) | fail)) | (with_reducible apply sub_drop))) : Sat w0 w M := h.sub p
theorem Ro.op {p : World → Prop} (h : Ro w0 (A :: R) p) (k : Pick A L R := by first | ((repeat (first | with_reducible apply pick0 | with_reducible apply pick_there)); done) | ((repeat (first | apply pick0 | apply pick_there)); done) | fail) : Ro w0 L p := h.of_pick k
theorem Ro.os {p : World → Prop} (h : Ro w0 M p) (k : Sub L M := by repeat (first | (with_reducible apply sub_refl) | ((with_reducible apply sub_take); (· first | ((repeat (first | with_reducible apply pick0 | with_reducible apply pick_there)); done) | ((repeat (first | apply pick0 | apply pick_there)); done) | fail)) | (with_reducible apply sub_drop))) : Ro w0 L p := h.of_sub k
end
end Go.Sl
namespace Go.Proofs.YtopkmcnkpeiblaaGreat
open Go Go.Sl Go.Med Go.MapKept Go.RowKit
section
variable {P : Program} {ops : Array Oper} {late : List Nat} {G : World → Prop} {n : Nat} {l : Array Bool} {a : Act} {w : World} {oi : Oper} {v : Value} {Q : Exit → Act → World → Prop}
theorem rp (i : Nat) (hi : ops.toList[i]? = some oi := by conv => lhs; whnf) (hc : (Region.noSelect ops && Region.free .any ops l i && (Region.ready .any ops l).contains i && shutB ops l) = true := by kernel_rfl)
    (hQ : ∀ c a w, Q (.panic c) (a.put oi.dst v) w → Q (.panic c) a w := by intro _ _ _ h; exact h) (hy : Yields P ops oi v a) {a' : Act} (ha : a.put oi.dst v = a' := by go_frame; first | done | rfl)
    (h : wpL P ops Q late G n (l.setIfInBounds i true) a' w) : wpL P ops Q late G (n + 1) l a w := rg_pure i hi hc hQ hy ha h
theorem rt (i : Nat) (hi : ops.toList[i]? = some oi := by conv => lhs; whnf) (hc : (Region.noSelect ops && Region.free .any ops l i && (Region.ready .any ops l).contains i && lateOk ops late i && shutB ops l) = true := by kernel_rfl)
    (hQ : ∀ c a w, Q (.panic c) (a.put oi.dst v) w → Q (.panic c) a w := by intro _ _ _ h; exact h) (hy : YieldsIf P ops G oi v a := by first | exact tk_load (by conv => lhs; whnf) (by kernel_rfl) (by intro wq hq; first | exact hq | exact hq.1 | exact hq.2 | exact hq.2.1 | exact hq.2.2 | exact hq.2.2.1 | exact hq.2.2.2 | exact hq.2.2.2.1 | exact hq.2.2.2.2) | (refine Or.inl ⟨by rfl, ?_⟩; (intro wq hq; go_split_ands; go_simp); first | done | (with_reducible rfl))) (hG : G w := by assumption) {a' : Act} (ha : a.put oi.dst v = a' := by go_frame; first | done | rfl)
    (h : wpL P ops Q late G n (l.setIfInBounds i true) a' w) : wpL P ops Q late G (n + 1) l a w := rg_take i hi hc hQ hy hG ha h
end
end Go.Proofs.YtopkmcnkpeiblaaGreat
/- Names of hints; hoardlaw16.lives, HintsNames. -/
namespace Go.Hin
open Go.Med
/-- A lead, and eight digits. -/
def name (lead : ByteArray) (n : Int) : ByteArray := if Seg.name n = ByteArray.empty then ByteArray.empty else lead ++ (Seg.name n).extract 4 12
def idx : ByteArray := ⟨#[105, 100, 120, 46]⟩
def use : ByteArray := ⟨#[117, 115, 101, 46]⟩
theorem seg_name (n : Int) : Seg.name n = ByteArray.empty ∨ (Seg.name n).size = 12 ∧ (Seg.name n).data.toList.take 4 = Seg.lead := by
  unfold Seg.name
  split
  · exact .inl rfl
  · right
    refine ⟨?_, rfl⟩
    show (Seg.lead ++ Seg.digs n.toNat 8).toArray.size = 12
    rw [List.size_toArray, List.length_append, Seg.digs_len]; rfl
end Go.Hin
namespace Go.Proofs.YtopkmcnkpeiblaaGreat
open Go Go.Sl Go.Med Go.MapKept Go.RowKit
set_option linter.unusedVariables false
section
variable {w0 w : World} {F : List HProp} {v bv dv x : Value} {q m : Nat}
set_option maxHeartbeats 1000000 in
theorem hasPfx_c (s : ByteArray) (h1 : s.size = 12) (h2 : s.data.toList.take 4 = Seg.lead) (w : World) :
    Calls Tryz.prog 102 #[.string s, .string ⟨#[115, 101, 103, 46]⟩] w (Rtn fun v w' => v = .bool true ∧ w = w') := by
  have h2d : ((s.extract 0 4).toList == [115, 101, 103, 46]) = true := by rw [ba_take s, h2]; rfl
  have hle : (4 : Int) ≤ (s.size : Int) := by omega
  clear h2
  go_enter Tryz.func102, Tryz.ntmps102
  go_wp2
  go_ret
  exact ⟨_, rfl, rfl, rfl⟩
set_option maxHeartbeats 1000000 in
theorem trimL_c (s : ByteArray) (h1 : s.size = 12) (h2 : s.data.toList.take 4 = Seg.lead) (w : World) :
    Calls Tryz.prog 86 #[.string s, .string ⟨#[115, 101, 103, 46]⟩] w (Rtn fun v w' => v = .string (s.extract 4 12) ∧ w = w') := by
  have hp := hasPfx_c s h1 h2 w
  go_enter Tryz.func86, Tryz.ntmps86
  go_wp2_with fail
  refine hp.mono ?_
  rintro e w1 ⟨v, rfl, rfl, rfl⟩
  clear hp
  go_wp2
  go_ret
  exact ⟨_, rfl, rfl, rfl⟩
set_option maxHeartbeats 1000000 in
theorem trim_c (s : ByteArray) (h1 : s.size = 12) (h2 : s.data.toList.take 4 = Seg.lead) (w : World) :
    Calls Tryz.prog 67 #[.string s, .string ⟨#[115, 101, 103, 46]⟩] w (Rtn fun v w' => v = .string (s.extract 4 12) ∧ w = w') := by
  have hp := trimL_c s h1 h2 w
  go_enter Tryz.func67, Tryz.ntmps67
  go_wp2_with fail
  refine hp.mono ?_
  rintro e w1 ⟨v, rfl, rfl, rfl⟩
  clear hp
  go_wp2
  go_ret
  exact ⟨_, rfl, rfl, rfl⟩
set_option maxHeartbeats 1000000 in
theorem hname_c (lead : ByteArray) (hl : lead.size = 4) (n : Int) (h : Sat w0 w F) :
    Calls Tryz.prog 34 #[.string lead, .int .i64 n] w (Rtn fun v w' => v = .string (Hin.name lead n) ∧ Sat w0 w' F) := by
  have hn := sname_c n h
  have Hf := Lib.hid (show Hin.name lead n = if Seg.name n = ByteArray.empty then ByteArray.empty else lead ++ (Seg.name n).extract 4 12 from rfl)
  have Hc := Lib.hid (Hin.seg_name n)
  generalize Seg.name n = s at *
  go_enter Tryz.func34, Tryz.ntmps34
  go_wp2_with fail
  refine hn.mono ?_
  rintro e w1 ⟨v, rfl, rfl, hS⟩
  clear hn
  rcases Hc.out with rfl | ⟨h1, h2⟩
  · clear hl h
    go_wp2
    go_ret
    exact ⟨_, rfl, by rw [Hf.out]; rfl, hS⟩
  · have hne : s ≠ ByteArray.empty := fun e => by rw [e] at h1; cases h1
    have hne2 : (s.toList == []) = false := by
      rw [beq_eq_false_iff_ne, ByteArray.toList_eq]
      intro e
      have := congrArg List.length e
      rw [Array.length_toList] at this
      have h1' : s.data.size = 12 := h1
      rw [h1'] at this; cases this
    have hsz : ¬ 9223372036854775807 < lead.size + (s.extract 4 12).size := by rw [hl, ByteArray.size_extract]; omega
    have Hne := Lib.hid hne
    have ht := trim_c s h1 h2
    clear hne h1 h2 hl h
    go_wp2_with fail
    refine (ht _).mono ?_
    rintro e w2 ⟨v, rfl, rfl, rfl⟩
    clear ht
    go_wp2
    go_ret
    exact ⟨_, rfl, by rw [Hf.out, if_neg Hne.out]; rfl, hS⟩
set_option maxHeartbeats 1000000 in
theorem iname_c (n : Int) (h : Sat w0 w F) : Calls Tryz.prog 13 #[.int .i64 n] w (Rtn fun v w' => v = .string (Hin.name Hin.idx n) ∧ Sat w0 w' F) := by
  have hn := hname_c Hin.idx rfl n h
  go_enter Tryz.func13, Tryz.ntmps13
  go_wp2_with fail
  refine hn.mono ?_
  rintro e w1 ⟨v, rfl, rfl, hS⟩
  clear hn
  go_wp2
  go_ret
  exact ⟨_, rfl, rfl, hS⟩
set_option maxHeartbeats 1000000 in
theorem uname_c (n : Int) (h : Sat w0 w F) : Calls Tryz.prog 14 #[.int .i64 n] w (Rtn fun v w' => v = .string (Hin.name Hin.use n) ∧ Sat w0 w' F) := by
  have hn := hname_c Hin.use rfl n h
  go_enter Tryz.func14, Tryz.ntmps14
  go_wp2_with fail
  refine hn.mono ?_
  rintro e w1 ⟨v, rfl, rfl, hS⟩
  clear hn
  go_wp2
  go_ret
  exact ⟨_, rfl, rfl, hS⟩
def hM : Med := Med.new 100
theorem hM_ok : hM.Ok 20 := Med.Ok.new 20 100 (by decide)
theorem hM_size (s : ByteArray) : hM.size s = (0, 9) := rfl
theorem hM_list : hM.list = [] := rfl
set_option maxHeartbeats 1000000 in
theorem there_c (s : ByteArray) (h : Sat w0 w (MedRep m hM :: F)) : Calls Tryz.prog 12 #[ptr m, .string s] w (Rtn fun v w' => v = .bool false ∧ w = w') := by
  have hs := size_c hM_ok h s
  rw [hM_size] at hs
  go_enter Tryz.func12, Tryz.ntmps12
  go_wp2_with fail
  refine hs.mono ?_
  rintro e w1 ⟨v, rfl, rfl, rfl⟩
  clear hs
  go_wp2
  go_ret
  exact ⟨_, rfl, rfl, rfl⟩
set_option maxHeartbeats 2000000 in
theorem load0_c (p : Nat) (n : Int) (h : Sat w0 w (MedRep m hM :: F)) : Calls Tryz.prog 5 #[ptr p, ptr m, .int .i64 n] w (Rtn fun v w' => v = .tuple #[.pointer none, errno 9] ∧ Sat w0 w' (MedRep m hM :: F)) := by
  have hs := size_c hM_ok h ByteArray.empty
  rw [hM_size] at hs
  have hi := iname_c n h
  go_enter Tryz.func5, Tryz.ntmps5
  go_wp2_with fail
  refine hs.mono ?_
  rintro e w1 ⟨v, rfl, rfl, rfl⟩
  clear hs
  go_wp2_with fail
  refine hi.mono ?_
  rintro e w2 ⟨v, rfl, rfl, hS⟩
  clear hi
  have ht := there_c (Hin.name Hin.idx n) hS
  go_wp2_with fail
  refine ht.mono ?_
  rintro e w3 ⟨v, rfl, rfl, rfl⟩
  clear ht
  go_wp2
  go_ret2
  exact ⟨_, rfl, rfl, hS⟩
set_option maxHeartbeats 2000000 in
theorem newest0_c (h : Sat w0 w (MedRep m hM :: F)) : Calls Tryz.prog 8 #[ptr m] w (Rtn fun v w' => v = .int .i64 (-1) ∧ Sat w0 w' (MedRep m hM :: F)) := by
  have hls := list_c hM_ok h
  go_enter Tryz.func8, Tryz.ntmps8
  go_wp2_with fail
  refine hls.mono ?_
  rintro e w1 ⟨v, rfl, hS, a, n, c, rfl⟩
  clear hls
  have hn : n = 0 := by
    obtain ⟨_, _, _, he, hl, _⟩ := Sat.rd hS
    cases he
    rw [hM_list] at hl
    simpa [strs] using hl.symm
  subst hn
  go_wp2_with fail
  go_loopg [3, 11] 0 (fun g lv iq wr => lv = .int .i64 (-1) ∧ iq = .int .i64 0 ∧ wr = w1)
  case atStart => exact ⟨rfl, rfl, rfl⟩
  case round =>
    obtain ⟨rfl, rfl, rfl⟩ := hrel
    go_wp2
    go_ret
    exact ⟨_, rfl, rfl, hS.drop⟩
theorem idx7 : Hin.name Hin.idx 7 = ⟨#[105, 100, 120, 46, 48, 48, 48, 48, 48, 48, 48, 55]⟩ := by decide +kernel
theorem hM_alive : Seg.alive hM = 0 := by decide +kernel
set_option maxHeartbeats 2000000 in
theorem hlives_c (h : Sat w0 w F) : Calls Tryz.prog 10 #[] w (Rtn fun v w' => v = .bool true ∧ Sat w0 w' F) := by
  have hnew : Calls Tryz.prog 4 #[.int .i64 100] w (Rtn fun v w' => ∃ m, v = .tuple #[ptr m, errno 0] ∧ Sat w0 w' (MedRep m (Med.new 100) :: F)) := new_yes 100 (by decide) h
  go_enter Tryz.func10, Tryz.ntmps10
  go_wp2_with fail
  refine hnew.mono ?_
  rintro e w1 ⟨v, rfl, m, rfl, hS⟩
  clear hnew h
  have hop := open_c (K := 20) hM_ok 128 hS hM_alive (by decide) (by decide)
  go_wp2_with fail
  refine hop.mono ?_
  rintro e w2 ⟨v, rfl, p, rfl, hS2⟩
  clear hop
  have hld := load0_c p 0 (hS2.pick1)
  go_wp2_with fail
  refine hld.mono ?_
  rintro e w3 ⟨v, rfl, rfl, hS3⟩
  clear hld
  have hi := iname_c 7 hS3
  rw [idx7] at hi
  go_wp2_with fail
  refine hi.mono ?_
  rintro e w4 ⟨v, rfl, rfl, hS4⟩
  clear hi
  have hne := newest0_c hS4
  go_wp2_with fail
  refine hne.mono ?_
  rintro e w5 ⟨v, rfl, rfl, hS5⟩
  clear hne
  go_wp2
  go_ret
  exact ⟨_, rfl, rfl, hS5.drop.drop⟩
end
end Go.Proofs.YtopkmcnkpeiblaaGreat
/- Structs built of parts, whatever the parts; effects in a region that draws; entries. -/
namespace Go.Proofs.YtopkmcnkpeiblaaGreat
open Go Go.Sl Go.Med Go.MapKept Go.RowKit
set_option linter.unusedVariables false
section
variable {P : Program} {w0 w : World} {L L' R F : List HProp} {b : Nat} {ops : Array Oper} {rest : List Oper} {a : Act} {Q : Exit → Act → World → Prop}
variable {dst : Option Tmp} {t ty T e : TypeId} {pos : String} {after : Array Edge} {x y s : Operand} {cs : Array Value} {v : Value} {o n c sz by' : Nat} {xs ys : List Value} {K : Act → World → Prop} {E : Prop}
theorem eff_of {op : Oper} (hg : op.guard = none) (h : Oper.wp P op a w K Q) : if Region.wanted op (yielded ops a.tmps) = true then Oper.wp P op a w K Q else E := by
  rw [if_pos (want_none _ hg)]; exact h
theorem eff_build1 (hb : appB P ty e sz by' = true) (hs : Sat w0 w L) (hy : a.eval x = v) (hcs : v.cells = cs) (hsz : cs.size = sz) (hle : sz ≤ 16777216)
    (hK : ∀ b w', Sat w0 w' (pt b (.cells cs e (0,0)) :: L) → K (a.put dst (.slice (some ⟨b, 0, none⟩) 1 1)) w') :
    if Region.wanted ⟨dst, .buildSlice ty 1 #[(0, x)], t, pos, after, none⟩ (yielded ops a.tmps) = true then Oper.wp P ⟨dst, .buildSlice ty 1 #[(0, x)], t, pos, after, none⟩ a w K Q else E := by
  subst hcs
  refine eff_of rfl ?_
  have hS := hs.alloc (.cells v.cells e)
  unfold Oper.wp execOp
  simp only [hy, List.map_toArray, List.map_cons, List.map_nil, Sem.run_bind, Sem.run_pure, run_build1 hb hsz hle w, Result.andThen_ok]
  exact hK _ _ hS
theorem eff_app (e : TypeId) (sz by' : Nat) (hb : appB P ty e sz by' = true) (hs : Sat w0 w L) (hv : a.eval s = v) (hy : a.eval y = .slice (some ⟨b, 0, none⟩) n c) {R2 : List HProp} (p : Pick (osl e sz v xs) L R) (p2 : Pick (pt b (.cells cs T (0,0))) R R2)
    (hn : cs.size = n * sz) (h0 : 1 ≤ n) (h1 : cs.toList.all (·.oneCell') = true) (h63 : xs.length ≤ 2147483648) (h64 : cs.size ≤ 65536) (hby : by' ≤ 65000) (hys : cs.toList = ys)
    (hK : ∀ b' n' c' w', Sat w0 w' (osl e sz (.slice (some ⟨b', 0, none⟩) n' c') (xs ++ ys) :: R2) → K (a.put dst (.slice (some ⟨b', 0, none⟩) n' c')) w') :
    if Region.wanted ⟨dst, .call { callee := .builtin .append, args := #[s, y], argTypes := #[ty, ty] }, t, pos, after, none⟩ (yielded ops a.tmps) = true then
      Oper.wp P ⟨dst, .call { callee := .builtin .append, args := #[s, y], argTypes := #[ty, ty] }, t, pos, after, none⟩ a w K Q else E := by
  refine eff_of rfl ?_
  subst hys
  obtain ⟨hu, i, z, hi, hz, e1, e2, e3, e4⟩ := appB_spec hb
  subst e2
  have hne : xs ++ cs.toList ≠ [] := by
    intro h
    have := congrArg List.length h
    simp only [List.length_append, Array.length_toList, List.length_nil] at this
    have : 0 < n * sz := Nat.mul_pos h0 e4
    omega
  have hrd : rdsl sz (.slice (some ⟨b, 0, none⟩) n c) cs.toList w := ⟨_, n, c, rfl, by simpa using hn, fun j x hj => ⟨_, rfl, by
    rw [add_zero_lit]
    exact ((hs.pick p).pick (pick_there p2)).cellAt j x (by simpa using hj)⟩⟩
  have hcl : cs.toList.length = cs.size := Array.length_toList
  have h63' : xs.length + cs.toList.length ≤ maxLen := by rw [hcl]; unfold maxLen; omega
  have hby' : (xs.length + cs.toList.length) * i.bytes ≤ 140737488355328 := by
    rw [hcl]
    exact Nat.le_trans (Nat.mul_le_mul (show xs.length + cs.size ≤ 2147483648 + 65536 by omega) hby) (by decide)
  refine wp_append (w0 := w0) s y ty rfl e i z hu hi hz e1 e3 e4 hv hy (fun u hu => (List.all_eq_true.1 h1) u hu) (hs.pick p) hrd h63' hby' ?_
  intro v' w' hS hv'
  obtain ⟨b', n', c', rfl⟩ := hv' hne
  exact hK b' n' c' w' (hS.pick (pick_there p2)).drop
/-- Where the fields of a struct lie, and how many cells each has. -/
def placesB (P : Program) (t : TypeId) : Option (List (Nat × Nat)) := match P.underlying t with
  | some (.struct fields) => fields.toList.mapM fun f => (P.info? f.type).map fun i => (f.offset, i.size)
  | _ => none
theorem run_places (fields : List Field) : ∀ (pl : List (Nat × Nat)), (fields.mapM fun f => (P.info? f.type).map fun i => (f.offset, i.size)) = some pl →
    ((fields.mapM fun f => do pure (f.offset, ← sizeOf f.type)) : Sem (List (Nat × Nat))).run P w = .ok pl w := by
  induction fields with
  | nil => intro pl h; cases h; rfl
  | cons f fields ih =>
    intro pl h
    rw [List.mapM_cons] at h ⊢
    cases hi : P.info? f.type with
    | none => simp [hi] at h
    | some i =>
      rw [hi] at h
      simp only [Option.map_some, Option.bind_eq_bind, Option.bind_some, Option.bind_eq_some_iff, Option.pure_def, Option.some.injEq] at h
      obtain ⟨pl', h1, rfl⟩ := h
      have hs : (sizeOf f.type).run P w = .ok i.size w := by simp [sizeOf, typeInfo, hi]
      simp only [Sem.run_bind, hs, Result.andThen_ok, Sem.run_pure, ih pl' h1]
/-- Parts, put one behind the other into cells. -/
def putParts (pl : List (Nat × Nat)) : Array Value → List (Nat × Value) → Array Value
  | cs, [] => cs
  | cs, (i, v) :: r => putParts pl (putsAt cs (pl.getD i (0, 0)).1 v.cells.toList) r
theorem foldl_puts : ∀ (vs : List Value) (k : Nat) (off : Nat) (cs : Array Value), (vs.zipIdx k).foldl (fun cs (x : Value × Nat) => cs.setIfInBounds (off + x.2) x.1) cs = putsAt cs (off + k) vs
  | [], _, _, _ => rfl
  | v :: vs, k, off, cs => by
    rw [List.zipIdx_cons, List.foldl_cons, foldl_puts vs (k + 1) off]; rfl
theorem putParts_size (pl : List (Nat × Nat)) : ∀ (parts : List (Nat × Value)) (cs : Array Value), (putParts pl cs parts).size = cs.size
  | [], _ => rfl
  | (i, v) :: r, cs => by rw [putParts, putParts_size pl r, putsAt_size]
theorem fill_parts (pl : List (Nat × Nat)) : ∀ (parts : List (Nat × Value)) (cs : Array Value), (∀ p ∈ parts, ∃ off, pl[p.1]? = some (off, p.2.cells.size) ∧ off + p.2.cells.size ≤ cs.size) →
    Instr.fill (pl.toArray[·]?) cs parts = some (putParts pl cs parts)
  | [], _, _ => rfl
  | (i, v) :: r, cs, h => by
    obtain ⟨off, h1, h2⟩ := h _ (.head _)
    unfold Instr.fill
    have hp : pl.toArray[i]? = some (off, v.cells.size) := by simpa using h1
    simp only [hp]
    have hc : ¬ ((v.cells.size ≠ v.cells.size || off + v.cells.size > cs.size) = true) := by simp; omega
    rw [if_neg hc]
    have hf : v.cells.zipIdx.foldl (fun cs (c, j) => cs.setIfInBounds (off + j) c) cs = putsAt cs off v.cells.toList := by
      rw [← Array.foldl_toList, Array.toList_zipIdx]
      exact foldl_puts _ 0 off cs
    rw [hf, fill_parts pl r _ (fun p hp => by
      obtain ⟨o, q1, q2⟩ := h p (.tail _ hp)
      exact ⟨o, q1, by rw [putsAt_size]; exact q2⟩)]
    have hg : (pl.getD i (0, 0)).1 = off := by rw [List.getD_eq_getElem?_getD, h1]; rfl
    simp only [putParts, hg]
/-- A struct of parts. -/
theorem run_build {z : Value} {pl : List (Nat × Nat)} (parts : List (Nat × Value)) (hp : placesB P t = some pl) (hz : zeroB P t = some z)
    (hfit : ∀ p ∈ parts, ∃ off, pl[p.1]? = some (off, p.2.cells.size) ∧ off + p.2.cells.size ≤ z.cells.size) (w : World) :
    (Instr.build t parts.toArray).run P w = .ok (.agg (putParts pl z.cells parts)) w := by
  unfold placesB at hp
  split at hp
  · rename_i fields hu
    have hm : ((fields.mapM fun f => do pure (f.offset, ← sizeOf f.type)) : Sem (Array (Nat × Nat))).run P w = .ok pl.toArray w := by
      rw [Array.mapM_eq_mapM_toList]
      rw [map_eq_pure_bind, Sem.run_bind, run_places fields.toList pl hp]
      rfl
    unfold Instr.build
    simp only [Sem.run_bind, run_zeroB hz w, Result.andThen_ok, run_underlying hu, hm, fill_parts pl parts z.cells hfit, Sem.run_pure]
  · cases hp
theorem yl_build3 {i1 i2 i3 : Nat} {x1 x2 x3 : Operand} {v1 v2 v3 : Value} (h1 : a.eval x1 = v1) (h2 : a.eval x2 = v2) (h3 : a.eval x3 = v3) (hr : ∀ w, (Instr.build ty #[(i1, v1), (i2, v2), (i3, v3)]).run P w = .ok v w) :
    Yields P ops ⟨dst, .build ty #[(i1, x1), (i2, x2), (i3, x3)], t, pos, after, none⟩ v a :=
  .inl ⟨want_none _ rfl, fun w => by
    simp only [execOp, List.map_toArray, List.map_cons, List.map_nil, h1, h2, h3, Sem.run_bind, hr, Result.andThen_ok, Sem.run_pure]⟩
/-- A struct, or an array, that G knows is read. -/
theorem tk_loadN {G : World → Prop} {o : Nat} (ks : List Value) (hx : a.eval x = .pointer (some ⟨b, o, none⟩)) {d : TypeDesc} (hu : P.underlying ty = some d) (hd : d.isRow = true) (hi : (P.info? ty).map (·.size) = some ks.length) (hG : ∀ w, G w → w.rangeAt b o ks) :
    YieldsIf P ops G ⟨dst, .load ty x, t, pos, after, none⟩ (.agg ks.toArray) a :=
  yieldsIf_load_mid (want_none _ rfl) ty x rfl b o hx ks d hG hu hd hi
end
section
variable {w0 w : World} {F : List HProp} {v lv dv : Value} {sz : Nat}
theorem rdsl_cells {a : Option Addr} {n c : Nat} {xs : List Value} (h : rdsl sz (.slice a n c) xs w) {i : Nat} {x : Value} (hi : xs[i]? = some x) :
    ∃ bk off, a = some ⟨bk, off, none⟩ ∧ ∀ j y, xs[j]? = some y → w.cell? ⟨bk, off + j, none⟩ = some y := by
  obtain ⟨a', n', c', he, hl, hx⟩ := h
  cases he
  obtain ⟨b, rfl, hc⟩ := hx i x hi
  have hlt : i < xs.length := (List.getElem?_eq_some_iff.1 hi).1
  obtain ⟨y, hy⟩ : ∃ y, xs[0]? = some y := ⟨xs[0]'(by omega), List.getElem?_eq_getElem _⟩
  obtain ⟨b', hb', hc0⟩ := hx 0 y hy
  cases hb'
  obtain ⟨bk, off, spot⟩ := b
  have hs : spot = none := by simpa [Addr.add] using World.cell?_spot hc0
  subst hs
  refine ⟨bk, off, rfl, fun j y hj => ?_⟩
  obtain ⟨b'', hb'', hcj⟩ := hx j y hj
  cases hb''
  rw [Addr.add_mid] at hcj
  exact hcj
/-- Entries, each with the slice of its data: their cells. -/
def entsL (es : List (Frm.Ent × Value)) : List Value := es.flatMap fun p => entL p.1 p.2
/-- The memory of their data. -/
def dataS (es : List (Frm.Ent × Value)) : HProp := stars (es.map fun p => bsl p.2 p.1.data)
theorem entL_len (x : Frm.Ent) (dv : Value) (hk : x.key.length = 32) : (entL x dv).length = 34 := by simp [entL, bys, hk]
theorem entsL_len {es : List (Frm.Ent × Value)} (hk : ∀ p ∈ es, p.1.key.length = 32) : (entsL es).length = 34 * es.length := by
  unfold entsL
  induction es with
  | nil => rfl
  | cons p es ih =>
    rw [List.flatMap_cons, List.length_append, ih (fun q hq => hk q (.tail _ hq)), entL_len _ _ (hk p (.head _)), List.length_cons]; omega
theorem entsL_app (es fs : List (Frm.Ent × Value)) : entsL (es ++ fs) = entsL es ++ entsL fs := by unfold entsL; rw [List.flatMap_append]
theorem entsL_at {es : List (Frm.Ent × Value)} (hk : ∀ p ∈ es, p.1.key.length = 32) {i : Nat} {p : Frm.Ent × Value} (hi : es[i]? = some p) {j : Nat} {y : Value} (hj : (entL p.1 p.2)[j]? = some y) : (entsL es)[i * 34 + j]? = some y := by
  induction es generalizing i with
  | nil => simp at hi
  | cons q es ih =>
    have hq := entL_len q.1 q.2 (hk q (.head _))
    have e : entsL (q :: es) = entL q.1 q.2 ++ entsL es := rfl
    cases i with
    | zero =>
      obtain rfl : q = p := by simpa using hi
      have hjl := (List.getElem?_eq_some_iff.1 hj).1
      rw [e, Nat.zero_mul, Nat.zero_add, List.getElem?_append_left hjl]; exact hj
    | succ i =>
      rw [e, List.getElem?_append_right (by omega), hq, show (i + 1) * 34 + j - 34 = i * 34 + j by omega]
      exact ih (fun r hr => hk r (.tail _ hr)) (by simpa using hi)
theorem entL_at0 (x : Frm.Ent) (dv : Value) : (entL x dv)[0]? = some (.int .i64 x.tag) := rfl
theorem entL_key (x : Frm.Ent) (dv : Value) {j : Nat} {y : Value} (h : (bys x.key)[j]? = some y) : (entL x dv)[1 + j]? = some y := by
  unfold entL
  rw [Nat.add_comm, List.getElem?_cons_succ, List.getElem?_append_left (List.getElem?_eq_some_iff.1 h).1]; exact h
theorem entL_at33 (x : Frm.Ent) (dv : Value) (hk : x.key.length = 32) : (entL x dv)[33]? = some dv := by
  unfold entL
  rw [List.getElem?_cons_succ, List.getElem?_append_right (by rw [bys_len]; omega), bys_len, hk]; rfl
def zeroEntV : Value := .agg (entA Frm.zeroE (.slice none 0 0))
theorem puts3 (cs : Array Value) (hs : cs.size = 34) (u dv : Value) (kl : List Value) (hk : kl.length = 32) : (putsAt (putsAt (putsAt cs 0 [u]) 1 kl) 33 [dv]).toList = u :: (kl ++ [dv]) := by
  have hcl : cs.toList.length = 34 := by simpa using hs
  rw [putsAt_list _ _ _ (by rw [putsAt_size, putsAt_size]; simp; omega), putsAt_list _ _ _ (by rw [putsAt_size]; omega), putsAt_list _ _ _ (by simp; omega)]
  simp only [List.take_zero, List.nil_append, List.length_singleton, Nat.zero_add]
  rw [List.singleton_append, List.take_succ_cons, List.take_zero, hk, show 1 + 32 = 32 + 1 by omega, List.drop_succ_cons, List.drop_drop]
  have h1 : ([u] ++ kl ++ cs.toList.drop (1 + 32)).length = 34 := by simp [hk, hcl]
  rw [List.take_append_of_le_length (by simp [hk]), List.take_of_length_le (by simp [hk]), List.drop_of_length_le (by omega)]
  simp
theorem putsAt_eq {cs ds : Array Value} (h : cs.toList = ds.toList) : cs = ds := Array.toList_inj.1 h
theorem puts_whole (cs : Array Value) (vs : List Value) (h : vs.length = cs.size) : putsAt cs 0 vs = vs.toArray := by
  apply putsAt_eq
  rw [putsAt_list _ _ _ (by omega), List.take_zero, List.nil_append, List.drop_of_length_le (by simp; omega), List.append_nil, List.toList_toArray]
end
section
variable {w0 w : World} {L L' R : List HProp} {b : Nat} {ops : Array Oper} {rest : List Oper} {a : Act} {Q : Exit → Act → World → Prop}
variable {dst : Option Tmp} {t T : TypeId} {pos : String} {after : Array Edge} {x y : Operand} {cs : Array Value} {v : Value} {e : Frm.Ent} {da : Option Addr} {dn dc : Nat}
theorem entA_ones (e : Frm.Ent) (a : Option Addr) (n c : Nat) : (entA e (.slice a n c)).all (·.oneCell') = true := by
  rw [← Array.all_toList]
  unfold entA entL
  rw [List.toList_toArray, List.all_cons, List.all_append]
  have : (bys e.key).all (·.oneCell') = true := List.all_eq_true.2 (bys_one _)
  rw [this]; rfl
end
end Go.Proofs.YtopkmcnkpeiblaaGreat
/- Guarded operations as such; a struct that is built; make whose cells do not matter. -/
namespace Go.Proofs.YtopkmcnkpeiblaaGreat
open Go Go.Sl Go.Med Go.MapKept Go.RowKit
set_option linter.unusedVariables false
section
variable {P : Program} {w0 w : World} {L : List HProp} {ops : Array Oper} {rest : List Oper} {a : Act} {Q : Exit → Act → World → Prop} {dst : Option Tmp} {t ty e : TypeId} {pos : String} {after : Array Edge} {x y : Operand} {g : Nat × Bool} {op : Op} {sz by' n : Nat} {v : Value} {zs : List Value}
/-- A guarded operation that is wanted. -/
theorem ug_op (hw : Region.wanted ⟨dst, op, t, pos, after, some g⟩ (yielded ops a.tmps) = true) (h : wpList P ops Q (⟨dst, op, t, pos, after, none⟩ :: rest) a w) : wpList P ops Q (⟨dst, op, t, pos, after, some g⟩ :: rest) a w := by
  unfold wpList at h ⊢
  rw [if_pos hw]
  rw [if_pos (want_none _ rfl)] at h
  exact h
theorem ug_build {xs : Array (Nat × Operand)} (h : Stop (wpList P ops Q (⟨dst, .build ty xs, t, pos, after, some g⟩ :: rest) a w)) : wpList P ops Q (⟨dst, .build ty xs, t, pos, after, some g⟩ :: rest) a w := h.out
theorem ug_box (h : Stop (wpList P ops Q (⟨dst, .box ty x, t, pos, after, some g⟩ :: rest) a w)) : wpList P ops Q (⟨dst, .box ty x, t, pos, after, some g⟩ :: rest) a w := h.out
theorem ug_load (h : Stop (wpList P ops Q (⟨dst, .load ty x, t, pos, after, some g⟩ :: rest) a w)) : wpList P ops Q (⟨dst, .load ty x, t, pos, after, some g⟩ :: rest) a w := h.out
theorem ug_at_build {xs : Array (Nat × Operand)} (h : Stop (wpList P ops Q (⟨dst, .build ty xs, t, pos, after, none⟩ :: rest) a w)) : wpList P ops Q (⟨dst, .build ty xs, t, pos, after, none⟩ :: rest) a w := h.out
theorem ug_make (h : Stop (wpList P ops Q (⟨dst, .makeSlice ty x y, t, pos, after, none⟩ :: rest) a w)) : wpList P ops Q (⟨dst, .makeSlice ty x y, t, pos, after, none⟩ :: rest) a w := h.out
theorem wl_bld {xs : Array (Nat × Operand)} {ps : Array (Nat × Value)} (h1 : xs.map (fun p => (p.1, a.eval p.2)) = ps) (hr : ∀ w, (Instr.build ty ps).run P w = .ok v w) (h : wpList P ops Q rest (a.put dst v) w) :
    wpList P ops Q (⟨dst, .build ty xs, t, pos, after, none⟩ :: rest) a w :=
  wpList_plain rfl fun _ hK => by
    unfold Oper.wp execOp
    simp only [h1, Sem.run_bind, hr, Result.andThen_ok, Sem.run_pure]
    exact hK _ _ h
/-- make of structs that nobody looks at. -/
theorem wl_makeD (hb : appB P ty e sz by' = true) (hs : Sat w0 w L) (hx : a.eval x = .int .i64 n) (hy : a.eval y = .int .i64 n) (hle : by' * n ≤ 281474976710656) (hm : n ≤ 9223372036854775807)
    (hK : ∀ b w', Sat w0 w' L → wpList P ops Q rest (a.put dst (.slice (some ⟨b, 0, none⟩) n n)) w') :
    wpList P ops Q (⟨dst, .makeSlice ty x y, t, pos, after, none⟩ :: rest) a w := by
  obtain ⟨hu, i, z, hi, hz1, h1, h2, h3, h4⟩ := appB_spec hb
  have hr := run_make (P := P) w ty e i z hu hi hz1 .i64 .i64 n n (by omega) (Int.le_refl _) (by rw [h2, ← Int.natCast_mul]; omega) (by omega)
  simp only [Int.toNat_natCast] at hr
  have hS := hs.alloc (.cells (madeCells z.cells (n * i.size)) e)
  refine wpList_plain rfl fun _ hK' => ?_
  unfold Oper.wp execOp
  simp only [hx, hy, hr, Sem.run_bind, Sem.run_pure, Result.andThen_ok]
  exact hK' _ _ (hK _ _ hS.drop)
end
end Go.Proofs.YtopkmcnkpeiblaaGreat
/- hoardlaw16.HintsNobody. -/
namespace Go.Proofs.YtopkmcnkpeiblaaGreat
open Go Go.Sl Go.Med Go.MapKept Go.RowKit
set_option linter.unusedVariables false
section
variable {w0 w : World} {F : List HProp} {v bv dv x : Value} {q m : Nat}
set_option maxHeartbeats 1000000 in
theorem ndead_c (w : World) : Calls Tryz.prog 59 #[.pointer none] w (Rtn fun v w' => v = errno 1 ∧ w = w') := by
  go_enter Tryz.func59, Tryz.ntmps59
  go_wp2
  go_ret
  exact ⟨_, rfl, rfl, rfl⟩
set_option maxHeartbeats 1000000 in
theorem nfind_c (s : ByteArray) (w : World) : Calls Tryz.prog 33 #[.pointer none, .string s] w (Rtn fun v w' => v = .tuple #[.pointer none, errno 1] ∧ w = w') := by
  go_enter Tryz.func33, Tryz.ntmps33
  go_wp2_with (go_at_call 59; refine (ndead_c _).mono ?_; rintro e w2 ⟨v, rfl, rfl, rfl⟩)
  go_ret2
  exact ⟨_, rfl, rfl, rfl⟩
set_option maxHeartbeats 1000000 in
theorem nsize_c (s : ByteArray) (w : World) : Calls Tryz.prog 11 #[.pointer none, .string s] w (Rtn fun v w' => v = .tuple #[.int .i64 0, errno 1] ∧ w = w') := by
  go_enter Tryz.func11, Tryz.ntmps11
  go_wp2_with (go_at_call 33; refine (nfind_c _ _).mono ?_; rintro e w2 ⟨v, rfl, rfl, rfl⟩)
  go_ret2
  exact ⟨_, rfl, rfl, rfl⟩
set_option maxHeartbeats 1000000 in
theorem nlist_c (w : World) : Calls Tryz.prog 30 #[.pointer none] w (Rtn fun v w' => v = .slice none 0 0 ∧ w = w') := by
  go_enter Tryz.func30, Tryz.ntmps30
  go_wp2_with (go_at_call 59; refine (ndead_c _).mono ?_; rintro e w2 ⟨v, rfl, rfl, rfl⟩)
  go_ret
  exact ⟨_, rfl, rfl, rfl⟩
set_option maxHeartbeats 1000000 in
theorem nnewest_c (w : World) : Calls Tryz.prog 8 #[.pointer none] w (Rtn fun v w' => v = .int .i64 (-1) ∧ w = w') := by
  go_enter Tryz.func8, Tryz.ntmps8
  go_wp2_with fail
  refine (nlist_c _).mono ?_
  rintro e w1 ⟨v, rfl, rfl, rfl⟩
  go_wp2_with fail
  go_loopg [3, 11] 0 (fun g lv iq wr => lv = .int .i64 (-1) ∧ iq = .int .i64 0 ∧ wr = w)
  case atStart => exact ⟨rfl, rfl, rfl⟩
  case round =>
    obtain ⟨rfl, rfl, rfl⟩ := hrel
    go_wp2
    go_ret
    exact ⟨_, rfl, rfl, rfl⟩
set_option maxHeartbeats 1000000 in
theorem nclean_c (w : World) : Calls Tryz.prog 9 #[.pointer none] w (Rtn fun v w' => v = errno 1 ∧ w = w') := by
  go_enter Tryz.func9, Tryz.ntmps9
  go_wp2_with fail
  refine (nsize_c _ _).mono ?_
  rintro e w1 ⟨v, rfl, rfl, rfl⟩
  go_wp2
  go_ret
  exact ⟨_, rfl, rfl, rfl⟩
set_option maxRecDepth 20000 in
set_option maxHeartbeats 2000000 in
theorem nload_l (mv : Value) (n : Int) (w : World) : Calls Tryz.prog 5 #[.pointer none, mv, .int .i64 n] w (Rtn fun v w' => v = .tuple #[.pointer none, errno 1] ∧ w = w') := by
  go_enter Tryz.func5, Tryz.ntmps5
  go_wp2
  go_ret2
  exact ⟨_, rfl, rfl, rfl⟩
set_option maxRecDepth 20000 in
set_option maxHeartbeats 2000000 in
theorem nload_m (b : Nat) (n : Int) (w : World) : Calls Tryz.prog 5 #[ptr b, .pointer none, .int .i64 n] w (Rtn fun v w' => v = .tuple #[.pointer none, errno 1] ∧ w = w') := by
  go_enter Tryz.func5, Tryz.ntmps5
  go_wp2
  go_ret2
  exact ⟨_, rfl, rfl, rfl⟩
set_option maxHeartbeats 2000000 in
theorem nsave_m (b : Nat) (h : Sat w0 w F) : Calls Tryz.prog 6 #[.pointer none, ptr b] w (Rtn fun v w' => v = errno 1 ∧ Sat w0 w' F) := by
  go_enter Tryz.func6, Tryz.ntmps6
  go_wp2_with (first | ((with_reducible apply at_box); refine ⟨?_⟩; refine wl_box (by assumption) (by conv => lhs; whnf) (by conv => lhs; whnf) ?_; intro bB wB hB))
  go_ret
  exact ⟨_, rfl, rfl, hB.drop⟩
set_option maxHeartbeats 2000000 in
theorem nsave_s (h : Sat w0 w F) : Calls Tryz.prog 6 #[ptr m, .pointer none] w (Rtn fun v w' => v = errno 1 ∧ Sat w0 w' F) := by
  go_enter Tryz.func6, Tryz.ntmps6
  go_wp2_with (first | ((with_reducible apply at_box); refine ⟨?_⟩; refine wl_box (by assumption) (by conv => lhs; whnf) (by conv => lhs; whnf) ?_; intro bB wB hB) | (with_reducible apply ug_load))
  refine ⟨?_⟩
  refine ug_op (by rfl) ?_
  go_wp2_with (first | ((with_reducible apply at_load); refine ⟨?_⟩; refine wl_load1 (by assumption) (by rfl) (by first | ((repeat (first | with_reducible apply pick0 | with_reducible apply pick_there)); done) | ((repeat (first | apply pick0 | apply pick_there)); done) | fail) (Nat.le_of_ble_eq_true (by rfl)) (by conv => lhs; whnf) (by kernel_rfl) ?_))
  go_ret
  exact ⟨_, rfl, rfl, hB.drop⟩
set_option maxHeartbeats 4000000 in
theorem nsave_x (b : Nat) (n : Int) (h : Sat w0 w (pt b (.cells #[.int .i64 n, .pointer none, .slice none 0 0, .slice none 0 0] 38 (0,0)) :: F)) : Calls Tryz.prog 6 #[ptr m, ptr b] w (Rtn fun v w' => v = errno 1 ∧ Sat w0 w' F) := by
  go_enter Tryz.func6, Tryz.ntmps6
  go_wp2_with (first | ((with_reducible apply at_box); refine ⟨?_⟩; refine wl_box (by assumption) (by conv => lhs; whnf) (by conv => lhs; whnf) ?_; intro bB wB hB) | ((with_reducible apply at_load); refine ⟨?_⟩; refine wl_load1 (by assumption) (by rfl) (by first | ((repeat (first | with_reducible apply pick0 | with_reducible apply pick_there)); done) | ((repeat (first | apply pick0 | apply pick_there)); done) | fail) (Nat.le_of_ble_eq_true (by rfl)) (by conv => lhs; whnf) (by kernel_rfl) ?_) | ((with_reducible apply ug_load); refine ⟨?_⟩; refine ug_op (by rfl) ?_))
  go_ret
  exact ⟨_, rfl, rfl, hB.drop.drop⟩
theorem idx_m1 : Hin.name Hin.idx (-1) = ByteArray.empty := by decide +kernel
set_option maxHeartbeats 4000000 in
theorem nsave_a (b p : Nat) (h : Sat w0 w (pt b (.cells #[.int .i64 (-1), ptr p, .slice none 0 0, .slice none 0 0] 38 (0,0)) :: F)) : Calls Tryz.prog 6 #[ptr m, ptr b] w (Rtn fun v w' => v = errno 2 ∧ Sat w0 w' F) := by
  have he : (ByteArray.empty.toList == []) = true := by decide +kernel
  go_enter Tryz.func6, Tryz.ntmps6
  go_wp2_with (first | ((with_reducible apply at_box); refine ⟨?_⟩; refine wl_box (by assumption) (by conv => lhs; whnf) (by conv => lhs; whnf) ?_; intro bB wB hB) | ((with_reducible apply at_load); refine ⟨?_⟩; refine wl_load1 (by assumption) (by rfl) (by first | ((repeat (first | with_reducible apply pick0 | with_reducible apply pick_there)); done) | ((repeat (first | apply pick0 | apply pick_there)); done) | fail) (Nat.le_of_ble_eq_true (by rfl)) (by conv => lhs; whnf) (by kernel_rfl) ?_) | ((with_reducible apply ug_load); refine ⟨?_⟩; refine ug_op (by rfl) ?_))
  have hn := iname_c (-1) hB
  rw [idx_m1] at hn
  refine hn.mono ?_
  rintro e w2 ⟨v, rfl, rfl, hS⟩
  clear hn
  go_wp2_with fail
  go_ret
  exact ⟨_, rfl, rfl, hS.drop.drop⟩
theorem plState : placesB Tryz.prog 38 = some [(0, 1), (1, 1), (2, 1), (3, 1)] := by kernel_rfl
theorem zState : zeroB Tryz.prog 38 = some (.agg #[.int .i64 0, .pointer none, .slice none 0 0, .slice none 0 0]) := by kernel_rfl
theorem run_state0 (w : World) : (Instr.build 38 #[]).run Tryz.prog w = .ok (.agg #[.int .i64 0, .pointer none, .slice none 0 0, .slice none 0 0]) w := run_build (P := Tryz.prog) [] plState zState (by simp) w
theorem run_state1 (n : Int) (w : World) : (Instr.build 38 #[(0, .int .i64 n)]).run Tryz.prog w = .ok (.agg #[.int .i64 n, .pointer none, .slice none 0 0, .slice none 0 0]) w :=
  run_build (P := Tryz.prog) [(0, .int .i64 n)] plState zState (by
    intro p hp
    rw [List.mem_singleton.1 hp]
    exact ⟨0, rfl, by show 0 + 1 ≤ 4; decide⟩) w
theorem run_state2 (n : Int) (p : Nat) (w : World) : (Instr.build 38 #[(0, .int .i64 n), (1, ptr p)]).run Tryz.prog w = .ok (.agg #[.int .i64 n, ptr p, .slice none 0 0, .slice none 0 0]) w :=
  run_build (P := Tryz.prog) [(0, .int .i64 n), (1, ptr p)] plState zState (by
    intro q hq
    rcases List.mem_cons.1 hq with rfl | hq
    · exact ⟨0, rfl, by show 0 + 1 ≤ 4; decide⟩
    · rw [List.mem_singleton.1 hq]
      exact ⟨1, rfl, by show 1 + 1 ≤ 4; decide⟩) w
theorem plLog : placesB Tryz.prog 32 = some [(0, 1), (1, 1), (2, 1), (3, 1), (4, 1)] := by kernel_rfl
theorem zLog : zeroB Tryz.prog 32 = some (.agg #[.pointer none, .int .i64 0, .slice none 0 0, .bool false, .int .i64 0]) := by kernel_rfl
theorem run_log0 (w : World) : (Instr.build 32 #[]).run Tryz.prog w = .ok (.agg #[.pointer none, .int .i64 0, .slice none 0 0, .bool false, .int .i64 0]) w := run_build (P := Tryz.prog) [] plLog zLog (by simp) w
set_option maxHeartbeats 4000000 in
theorem tnew_c (h : Sat w0 w F) : Calls Tryz.prog 7 #[] w (Rtn fun v w' => ∃ p, v = ptr p ∧ Sat w0 w' F) := by
  go_enter Tryz.func7, Tryz.ntmps7
  go_wp2_with (first
    | ((with_reducible apply ug_make); refine ⟨?_⟩; refine wl_makeD (e := 113) (sz := 36) (by' := 64) (n := 8) (by kernel_rfl) h (by rfl) (by rfl) (by decide) (by decide) ?_; intro bM wM hM)
    | ((with_reducible apply at_box); refine ⟨?_⟩; refine wl_box hM (by conv => lhs; whnf) (by conv => lhs; whnf) ?_; intro bB wB hB))
  go_ret
  exact ⟨_, rfl, bB, rfl, hB.drop⟩
set_option maxRecDepth 20000 in
set_option maxHeartbeats 8000000 in
theorem hints_nobody_c (n : Int) (h : Sat w0 w F) : Calls Tryz.prog 3 #[.int .i64 n] w (Rtn fun v w' => v = .bool true ∧ Sat w0 w' F) := by
  have hnew : Calls Tryz.prog 4 #[.int .i64 100] w (Rtn fun v w' => ∃ m, v = .tuple #[ptr m, errno 0] ∧ Sat w0 w' (MedRep m (Med.new 100) :: F)) := new_yes 100 (by decide) h
  go_enter Tryz.func3, Tryz.ntmps3
  go_wp2_with fail
  refine hnew.mono ?_
  rintro e w1 ⟨v, rfl, m, rfl, hS⟩
  clear hnew h
  go_wp2_with fail
  refine (nload_l _ n _).mono ?_
  rintro e w2 ⟨v, rfl, rfl, rfl⟩
  go_wp2_with (first
    | ((with_reducible apply ug_at_build); refine ⟨?_⟩; refine wl_bld (by rfl) run_log0 ?_)
    | ((with_reducible apply at_box); refine ⟨?_⟩; refine wl_box hS (by conv => lhs; whnf) (by conv => lhs; whnf) ?_; intro b3 w3 h3))
  refine (nload_m _ n _).mono ?_
  rintro e w4 ⟨v, rfl, rfl, rfl⟩
  go_wp2_with (first
    | ((with_reducible apply ug_build); refine ⟨?_⟩; refine ug_op (by rfl) ?_)
    | ((with_reducible apply ug_box); refine ⟨?_⟩; refine ug_op (by rfl) ?_)
    | ((with_reducible apply ug_at_build); refine ⟨?_⟩; refine wl_bld (by rfl) run_state0 ?_)
    | ((with_reducible apply at_box); refine ⟨?_⟩; refine wl_box h3 (by conv => lhs; whnf) (by conv => lhs; whnf) ?_; intro b5 w5 h5))
  refine (nsave_m b5 h5).mono ?_
  rintro e w6 ⟨v, rfl, rfl, h6⟩
  go_wp2_with fail
  refine (nsave_s (m := m) h6).mono ?_
  rintro e w7 ⟨v, rfl, rfl, h7⟩
  go_wp2_with (first
    | ((with_reducible apply ug_build); refine ⟨?_⟩; refine ug_op (by rfl) ?_)
    | ((with_reducible apply ug_box); refine ⟨?_⟩; refine ug_op (by rfl) ?_)
    | ((with_reducible apply ug_at_build); refine ⟨?_⟩; refine wl_bld (by rfl) (run_state1 n) ?_)
    | ((with_reducible apply at_box); refine ⟨?_⟩; refine wl_box h7 (by conv => lhs; whnf) (by conv => lhs; whnf) ?_; intro b8 w8 h8))
  refine (nsave_x (m := m) b8 n h8).mono ?_
  rintro e w9 ⟨v, rfl, rfl, h9⟩
  go_wp2_with fail
  refine (tnew_c h9).mono ?_
  rintro e w10 ⟨v, rfl, p, rfl, h10⟩
  go_wp2_with (first
    | ((with_reducible apply ug_at_build); refine ⟨?_⟩; refine wl_bld (by rfl) (run_state2 (-1) p) ?_)
    | ((with_reducible apply at_box); refine ⟨?_⟩; refine wl_box h10 (by conv => lhs; whnf) (by conv => lhs; whnf) ?_; intro b11 w11 h11))
  refine (nsave_a (m := m) b11 p h11).mono ?_
  rintro e w12 ⟨v, rfl, rfl, h12⟩
  go_wp2_with fail
  refine (nnewest_c _).mono ?_
  rintro e w13 ⟨v, rfl, rfl, rfl⟩
  go_wp2_with fail
  refine (nclean_c _).mono ?_
  rintro e w14 ⟨v, rfl, rfl, rfl⟩
  go_wp2_with fail
  refine (hlives_c h12).mono ?_
  rintro e w15 ⟨v, rfl, rfl, h15⟩
  go_wp2_with fail
  go_ret
  exact ⟨_, rfl, rfl, h15.drop.drop.drop⟩
end
end Go.Proofs.YtopkmcnkpeiblaaGreat
