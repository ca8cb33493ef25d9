import Derived.Test.YtdhhbajggafdhaaDoorSep
import Derived.Maps.OwnSet
import Derived.Lib.Hide
import Derived.Maps.RangeWalk
import Derived.Maps.AppendAt
/- Slices and maps that a call holds, in the separation logic; what the operations do to them. -/
namespace Go.Sl
open Go Go.MapKept

/-- A contract's post: it returns. -/
def Rtn (Q : Value → World → Prop) (e : Ending) (w : World) : Prop := ∃ v, e = .returned v ∧ Q v w

/-! ### slices -/
/-- A slice that reads as the cells xs (sz cells an element). -/
def rdsl (sz : Nat) (v : Value) (xs : List Value) (w : World) : Prop :=
  ∃ a n cap, v = .slice a n cap ∧ xs.length = n * sz ∧ ∀ i x, xs[i]? = some x → ∃ b, a = some b ∧ w.cell? (b.add i) = some x
/-- A slice over memory of its own. -/
def osl (T sz : Nat) (v : Value) (xs : List Value) : HProp := fun h =>
  (v = .slice none 0 0 ∧ xs = [] ∧ emp h) ∨
  ∃ b n cap cs, v = .slice (some ⟨b, 0, none⟩) n cap ∧ xs.length = n * sz ∧ n ≤ cap ∧ cap * sz ≤ cs.size ∧ cap ≤ maxLen ∧ cs.toList.take (n * sz) = xs ∧ pt b (.cells cs T (0,0)) h

section
variable {w0 w : World} {R L : List HProp} {T sz : Nat} {v : Value} {xs : List Value}

theorem osl_nil (T sz : Nat) : osl T sz (.slice none 0 0) [] = emp := by
  apply HProp.ext; intro h
  constructor
  · rintro (⟨_, _, h⟩ | ⟨b, n, cap, cs, he, _⟩)
    · exact h
    · cases he
  · intro h; exact .inl ⟨rfl, rfl, h⟩
theorem Sat.osl_nil : Sat w0 w (osl T sz (.slice none 0 0) [] :: R) ↔ Sat w0 w R := by
  rw [Sl.osl_nil]; exact Sat.emp
/-- A block as a slice. -/
theorem Sat.osl_of_pt {b n cap : Nat} {cs : Array Value} (h : Sat w0 w (pt b (.cells cs T (0,0)) :: R)) (hl : xs.length = n * sz) (hn : n ≤ cap) (hc : cap * sz ≤ cs.size) (hm : cap ≤ maxLen)
    (ht : cs.toList.take (n * sz) = xs) : Sat w0 w (osl T sz (.slice (some ⟨b, 0, none⟩) n cap) xs :: R) :=
  h.head fun _ hx => .inr ⟨b, n, cap, cs, rfl, hl, hn, hc, hm, ht, hx⟩
theorem Sat.osl_cases (h : Sat w0 w (osl T sz v xs :: R)) : (v = .slice none 0 0 ∧ xs = [] ∧ Sat w0 w R) ∨
    ∃ b n cap cs, v = .slice (some ⟨b, 0, none⟩) n cap ∧ xs.length = n * sz ∧ n ≤ cap ∧ cap * sz ≤ cs.size ∧ cap ≤ maxLen ∧ cs.toList.take (n * sz) = xs ∧ Sat w0 w (pt b (.cells cs T (0,0)) :: R) := by
  obtain ⟨ha, x, hx, p, q, d, rfl, hp, hq⟩ := h
  rcases hp with ⟨h1, h2, h3⟩ | ⟨b, n, cap, cs, h1, h2, h3, h4, h5, h6, h7⟩
  · refine .inl ⟨h1, h2, ha, q, fun i o hi => hx i o ?_, hq⟩
    rw [show p = _ from h3]; simp [Hp.join, hi]
  · exact .inr ⟨b, n, cap, cs, h1, h2, h3, h4, h5, h6, ha, _, hx, p, q, d, rfl, h7, hq⟩
theorem add_zero_lit (b j : Nat) : (⟨b, 0, none⟩ : Addr).add j = ⟨b, j, none⟩ := by unfold Addr.add; split <;> simp_all
theorem take_get {cs : Array Value} {k : Nat} (ht : cs.toList.take k = xs) {i : Nat} {x : Value} (hi : xs[i]? = some x) : cs[i]? = some x := by
  rw [← ht, List.getElem?_take] at hi
  split at hi
  · simpa using hi
  · cases hi
theorem Sat.rd (h : Sat w0 w (osl T sz v xs :: R)) : rdsl sz v xs w := by
  rcases h.osl_cases with ⟨rfl, rfl, _⟩ | ⟨b, n, cap, cs, rfl, hl, hn, hc, hm, ht, hp⟩
  · exact ⟨none, 0, 0, rfl, by simp, by simp⟩
  · refine ⟨some ⟨b, 0, none⟩, n, cap, rfl, hl, fun i x hi => ⟨_, rfl, ?_⟩⟩
    rw [add_zero_lit]
    exact hp.cellAt i x (take_get ht hi)
theorem rdsl_nil (sz cap : Nat) (w : World) : rdsl sz (.slice none 0 cap) [] w := ⟨none, 0, cap, rfl, by simp, by simp⟩
theorem rdsl.drew (h : rdsl sz v xs w) : rdsl sz v xs w.drew := h
/-- It reads alike wherever the old blocks are as they were. -/
theorem rdsl.kept {w' : World} (h : rdsl sz v xs w) (hk : ∀ i, i < w.heap.size → w'.heap[i]? = w.heap[i]?) : rdsl sz v xs w' := by
  obtain ⟨a, n, cap, rfl, hl, hc⟩ := h
  refine ⟨a, n, cap, rfl, hl, fun i x hi => ?_⟩
  obtain ⟨b, hb, hx⟩ := hc i x hi
  refine ⟨b, hb, ?_⟩
  rw [World.cell?_of_block (w := w) (hk _ (World.block_lt_of_cell? w _ hx))]
  exact hx
theorem rdsl.alloc (h : rdsl sz v xs w) (o : Obj) : rdsl sz v xs (w.alloc o) := h.kept fun i hi => RowKit.Below.heap_alloc w o i hi
theorem rdsl.len (h : rdsl sz v xs w) : ∃ a n cap, v = .slice a n cap ∧ xs.length = n * sz := by
  obtain ⟨a, n, cap, h1, h2, _⟩ := h; exact ⟨a, n, cap, h1, h2⟩
end

/-! ### append -/
section
variable {P : Program} {w0 w : World} {R : List HProp} {sz : Nat} {v x : Value} {xs ys : List Value}
theorem run_append (t ty e : TypeId) (i : TypeInfo) (z : Value) (ht : P.underlying t = some (.slice e)) (hi : P.info? e = some i) (hz : i.zero = some z)
    (hs : i.size = sz) (hzs : z.cells.size = sz) (hsz : 0 < sz) (h1 : ∀ u ∈ ys, u.oneCell' = true)
    (h : Sat w0 w (osl e sz v xs :: R)) (hx : rdsl sz x ys w) (h63 : xs.length + ys.length ≤ maxLen) (hby : (xs.length + ys.length) * i.bytes ≤ 140737488355328) :
    ∃ v' w', (Builtin.append_ #[t, t] ty #[v, x]).run P w = .ok v' w' ∧ Sat w0 w' (osl e sz v' (xs ++ ys) :: R) ∧ (xs ++ ys ≠ [] → ∃ b n c, v' = .slice (some ⟨b, 0, none⟩) n c) := by
  subst hs
  obtain ⟨xa, m, c, rfl, hyl, hyc⟩ := hx
  have hle : ∀ {p q : Nat}, p = q * i.size → q ≤ p := fun {p q} e => by rw [e]; exact Nat.le_mul_of_pos_right _ hsz
  have hm := hle hyl
  by_cases hm0 : m = 0
  · subst hm0
    obtain rfl : ys = [] := List.eq_nil_of_length_eq_zero (by simpa using hyl)
    rcases h.osl_cases with ⟨rfl, rfl, h'⟩ | ⟨b, n, cap, cs, rfl, hl, hn, hc, hcm, htk, hp⟩
    · refine ⟨.slice none 0 0, w, ?_, by simpa using h, by simp⟩
      cases xa <;> simp [Builtin.append_, run_underlying ht, sizeOf, typeInfo, hi, Builtin.lenOf, Builtin.firstCells, loadCells, loadCellsFrom]
    · refine ⟨.slice (some ⟨b, 0, none⟩) n cap, w, ?_, by simpa using h, fun _ => ⟨_, _, _, rfl⟩⟩
      cases xa <;> simp [Builtin.append_, run_underlying ht, sizeOf, typeInfo, hi, Builtin.lenOf, Builtin.firstCells, loadCells, loadCellsFrom, hn, storeCells]
  · have hy0 : ys ≠ [] := by
      intro e; subst e
      have : m * i.size = 0 := by simpa using hyl.symm
      rcases Nat.mul_eq_zero.1 this with h | h <;> omega
    obtain ⟨ad, rfl⟩ : ∃ ad, xa = some ad := by
      obtain ⟨y, hy⟩ : ∃ y, ys[0]? = some y := by
        cases ys with
        | nil => exact absurd rfl hy0
        | cons y _ => exact ⟨y, rfl⟩
      obtain ⟨b, hb, _⟩ := hyc 0 y hy
      exact ⟨b, hb⟩
    have hnews : ∀ j u, ys[j]? = some u → w.cell? (ad.add j) = some u := fun j u hj => by
      obtain ⟨b, hb, hx⟩ := hyc j u hj
      cases hb; exact hx
    have h63' : maxLen = 9223372036854775807 := rfl
    have grown : ∀ (n old : Nat) (_ : n * i.size = xs.length) (_ : old < n + m) (_ : Sat w0 w R), Sat w0 (w.drew.alloc (.cells (xs.toArray ++ ys.toArray ++ Builtin.zeroCells z.cells (grownCap w (n + m) old e - (n + m))) e))
        (osl e i.size (.slice (some ⟨w.heap.size, 0, none⟩) (n + m) (grownCap w (n + m) old e)) (xs ++ ys) :: R) := by
      intro n old hn ho hR
      have hge := grownCap_ge w (n + m) old e
      have hnx := hle hn.symm
      have hcm := grownCap_le_maxLen w (n + m) old e (by omega)
      have := (hR.drew).alloc (.cells (xs.toArray ++ ys.toArray ++ Builtin.zeroCells z.cells (grownCap w (n + m) old e - (n + m))) e)
      refine Sat.osl_of_pt this ?_ hge ?_ hcm ?_
      · rw [List.length_append, ← hn, hyl, Nat.add_mul]
      · simp only [Array.size_append, List.size_toArray, size_zeroCells, hzs]
        rw [← hn, hyl, ← Nat.add_mul, ← Nat.add_mul]
        exact Nat.mul_le_mul_right _ (by omega)
      · simp only [Array.toList_append, List.append_assoc]
        rw [← List.append_assoc]
        have e1 : (n + m) * i.size = (xs ++ ys).length := by rw [List.length_append, ← hn, hyl, Nat.add_mul]
        rw [e1]
        exact List.take_left
    rcases h.osl_cases with ⟨rfl, rfl, h'⟩ | ⟨b, n, cap, cs, rfl, hl, hn, hc, hcm, htk, hp⟩
    · have hby' : m * i.bytes ≤ 140737488355328 := by
        refine Nat.le_trans (Nat.mul_le_mul_right _ ?_) hby
        simp; omega
      have hr := run_append_nil (P := P) w t ty e i z ht hi hz ad m c ys hyl hnews (by omega) (by simp at h63; omega) (by omega)
      have hg := grown 0 0 (by simp) (by omega) h'
      simp only [Nat.zero_add, List.nil_append, Array.empty_append] at hg ⊢
      exact ⟨_, _, hr, hg, fun _ => ⟨_, _, _, rfl⟩⟩
    · by_cases hroom : n + m ≤ cap
      · have hfit : n * i.size + ys.length ≤ cs.size := by
          rw [hyl, ← Nat.add_mul]; exact Nat.le_trans (Nat.mul_le_mul_right _ hroom) hc
        have hr := run_append_room (P := P) w t ty e i ht hi b n cap cs hp.at ad m c ys hyl hnews h1 hroom hfit
        refine ⟨_, _, hr, ?_, fun _ => ⟨_, _, _, rfl⟩⟩
        have hsat := hp.turn (w' := w.setRow b (cs.toList.take (n * i.size) ++ ys ++ cs.toList.drop (n * i.size + ys.length)).toArray) rfl rfl rfl (by simp) (setRow_heap w b cs _ e _ hp.at) (fun j hj _ => setRow_other w b j _ hj)
        refine Sat.osl_of_pt hsat ?_ hroom ?_ hcm ?_
        · rw [List.length_append, hl, hyl, Nat.add_mul]
        · simp only [List.size_toArray, List.length_append, List.length_take, List.length_drop, Array.length_toList]
          omega
        · rw [htk]
          have e1 : (n + m) * i.size = (xs ++ ys).length := by rw [List.length_append, hl, hyl, Nat.add_mul]
          rw [e1]
          exact List.take_left
      · have holds : ∀ j u, xs[j]? = some u → w.cell? ((⟨b, 0, none⟩ : Addr).add j) = some u := fun j u hj => by
          rw [add_zero_lit]; exact hp.cellAt j u (take_get htk hj)
        have hnx := hle hl
        have hby' : (n + m) * i.bytes ≤ 140737488355328 := Nat.le_trans (Nat.mul_le_mul_right _ (by omega)) hby
        have hr := run_append_grow (P := P) w t ty e i z ht hi hz ⟨b, 0, none⟩ n cap xs hl holds ad m c ys hyl hnews (by omega) (by omega) (growslice_fits (by omega) hby')
        exact ⟨_, _, hr, grown n cap hl.symm (by omega) hp.drop, fun _ => ⟨_, _, _, rfl⟩⟩

theorem wp_append {o : Oper} {a : Act} {K : Act → World → Prop} {Q : Exit → Act → World → Prop} (s y : Operand) (t : TypeId)
    (ho : o.op = .call { callee := .builtin .append, args := #[s, y], argTypes := #[t, t] })
    (e : TypeId) (i : TypeInfo) (z : Value) (ht : P.underlying t = some (.slice e)) (hi : P.info? e = some i) (hz : i.zero = some z)
    (hs : i.size = sz) (hzs : z.cells.size = sz) (hsz : 0 < sz) (hv : a.eval s = v) (hxv : a.eval y = x) (h1 : ∀ u ∈ ys, u.oneCell' = true)
    (h : Sat w0 w (osl e sz v xs :: R)) (hx : rdsl sz x ys w) (h63 : xs.length + ys.length ≤ maxLen) (hby : (xs.length + ys.length) * i.bytes ≤ 140737488355328)
    (hK : ∀ v' w', Sat w0 w' (osl e sz v' (xs ++ ys) :: R) → (xs ++ ys ≠ [] → ∃ b n c, v' = .slice (some ⟨b, 0, none⟩) n c) → K (a.put o.dst v') w') : o.wp P a w K Q := by
  obtain ⟨v', w', hr, h2, h3⟩ := run_append (P := P) t o.type e i z ht hi hz hs hzs hsz h1 h hx h63 hby
  unfold Oper.wp execOp
  simp only [ho, resolve, invoke, builtin, Sem.run_bind, Sem.run_pure, Result.andThen_ok, List.map_toArray, List.map_cons, List.map_nil, hv, hxv, hr]
  exact hK v' w' h2 h3
theorem wpList_append {ops : Array Oper} {rest : List Oper} {o : Oper} {a : Act} {Q : Exit → Act → World → Prop} (hgd : o.guard = none) (s y : Operand) (t : TypeId)
    (ho : o.op = .call { callee := .builtin .append, args := #[s, y], argTypes := #[t, t] })
    (e : TypeId) (i : TypeInfo) (z : Value) (ht : P.underlying t = some (.slice e)) (hi : P.info? e = some i) (hz : i.zero = some z)
    (hs : i.size = sz) (hzs : z.cells.size = sz) (hsz : 0 < sz) (hv : a.eval s = v) (hxv : a.eval y = x) (h1 : ∀ u ∈ ys, u.oneCell' = true)
    (h : Sat w0 w (osl e sz v xs :: R)) (hx : rdsl sz x ys w) (h63 : xs.length + ys.length ≤ maxLen) (hby : (xs.length + ys.length) * i.bytes ≤ 140737488355328)
    (hK : ∀ v' w', Sat w0 w' (osl e sz v' (xs ++ ys) :: R) → (xs ++ ys ≠ [] → ∃ b n c, v' = .slice (some ⟨b, 0, none⟩) n c) → wpList P ops Q rest (a.put o.dst v') w') : wpList P ops Q (o :: rest) a w :=
  wpList_plain hgd fun _ hK' => wp_append s y t ho e i z ht hi hz hs hzs hsz hv hxv h1 h hx h63 hby fun v' w' h2 h3 => hK' _ _ (hK v' w' h2 h3)
end

theorem step_append {P : Program} {w0 w : World} {R : List HProp} {sz : Nat} {v x : Value} {xs ys : List Value} {ops : Array Oper} {o : Oper} {a : Act} {K : Act → World → Prop} {Q : Exit → Act → World → Prop} {E : Prop} (hgd : o.guard = none) (s y : Operand) (t : TypeId)
    (ho : o.op = .call { callee := .builtin .append, args := #[s, y], argTypes := #[t, t] })
    (e : TypeId) (i : TypeInfo) (z : Value) (ht : P.underlying t = some (.slice e)) (hi : P.info? e = some i) (hz : i.zero = some z)
    (hs : i.size = sz) (hzs : z.cells.size = sz) (hsz : 0 < sz) (hv : a.eval s = v) (hxv : a.eval y = x) (h1 : ∀ u ∈ ys, u.oneCell' = true)
    (h : Sat w0 w (osl e sz v xs :: R)) (hx : rdsl sz x ys w) (h63 : xs.length + ys.length ≤ maxLen) (hby : (xs.length + ys.length) * i.bytes ≤ 140737488355328)
    (hK : ∀ v' w', Sat w0 w' (osl e sz v' (xs ++ ys) :: R) → (xs ++ ys ≠ [] → ∃ b n c, v' = .slice (some ⟨b, 0, none⟩) n c) → K (a.put o.dst v') w') :
    if Region.wanted o (yielded ops a.tmps) = true then Oper.wp P o a w K Q else E := by
  have hw : Region.wanted o (yielded ops a.tmps) = true := by simp [Region.wanted, hgd]
  rw [if_pos hw]
  exact wp_append s y t ho e i z ht hi hz hs hzs hsz hv hxv h1 h hx h63 hby hK
/-- A new block, as a slice that is read. -/
theorem rdsl_new (w : World) (cs : Array Value) (T sz n c : Nat) (hn : cs.size = n * sz) : rdsl sz (.slice (some ⟨w.heap.size, 0, none⟩) n c) cs.toList (w.alloc (.cells cs T)) :=
  ⟨_, n, c, rfl, by simpa using hn, fun i x hi => ⟨_, rfl, by rw [add_zero_lit, World.cell?_alloc_new]; simpa using hi⟩⟩

/-! ### maps -/
/-- Block b is a map (keys of the kind d) with just these entries, in whatever order. -/
def omap (d : TypeDesc) (b : Nat) (l : List (Value × Value)) : HProp := fun h =>
  ∃ es clock, (es.toList.map fun e => (e.key, e.val)).Perm l ∧ Stamped es clock ∧ (∀ x ∈ es.toList, IsKey d x.key) ∧ pt b (.map es clock) h
section
variable {P : Program} {w0 w : World} {R : List HProp} {d : TypeDesc} {b : Nat} {l l' : List (Value × Value)}
theorem omap_perm (hp : l.Perm l') : omap d b l = omap d b l' := by
  apply HProp.ext; intro h
  exact ⟨fun ⟨es, c, h1, h2⟩ => ⟨es, c, h1.trans hp, h2⟩, fun ⟨es, c, h1, h2⟩ => ⟨es, c, h1.trans hp.symm, h2⟩⟩
theorem Sat.omap_perm (h : Sat w0 w (omap d b l :: R)) (hp : l.Perm l') : Sat w0 w (omap d b l' :: R) := Sl.omap_perm hp ▸ h
theorem Sat.omap_open (h : Sat w0 w (omap d b l :: R)) : ∃ es clock, (es.toList.map fun e => (e.key, e.val)).Perm l ∧ Stamped es clock ∧ (∀ x ∈ es.toList, IsKey d x.key) ∧ Sat w0 w (pt b (.map es clock) :: R) := by
  obtain ⟨ha, x, hx, p, q, dd, rfl, ⟨es, c, h1, h2, h3, h4⟩, hq⟩ := h
  exact ⟨es, c, h1, h2, h3, ha, _, hx, p, q, dd, rfl, h4, hq⟩
theorem Sat.omap_shut {es : Array MapEntry} {clock : Nat} (h : Sat w0 w (pt b (.map es clock) :: R)) (h1 : (es.toList.map fun e => (e.key, e.val)).Perm l) (h2 : Stamped es clock) (h3 : ∀ x ∈ es.toList, IsKey d x.key) : Sat w0 w (omap d b l :: R) :=
  h.head fun _ hx => ⟨es, clock, h1, h2, h3, hx⟩
theorem Sat.omap_keys (h : Sat w0 w (omap d b l :: R)) : (l.map (·.1)).Nodup := by
  obtain ⟨es, c, h1, h2, h3, h4⟩ := h.omap_open
  have := (h1.map (·.1)).nodup_iff.1 (by rw [List.map_map]; exact h2.2.2)
  exact this
theorem Sat.omap_new (h : Sat w0 w R) (d : TypeDesc) : Sat w0 (w.alloc (.map #[] 0)) (omap d w.heap.size [] :: R) :=
  (h.alloc _).omap_shut (by simp) (stamped_empty 0) (by simp)
variable {mty kt et : TypeId} {key : Value}
theorem run_look (hm : P.underlying mty = some (.map kt et)) (hd : P.underlying kt = some d) {z : Value} (hz : (zeroValue et).run P w = .ok z w) (hk : IsKey d key) (h : Sat w0 w (omap d b l :: R)) :
    (∃ v, (key, v) ∈ l ∧ (Instr.lookup mty (.map (some b)) key false).run P w = .ok v w ∧ (Instr.lookup mty (.map (some b)) key true).run P w = .ok (.tuple #[v, .bool true]) w) ∨
    ((∀ p ∈ l, p.1 ≠ key) ∧ (Instr.lookup mty (.map (some b)) key false).run P w = .ok z w ∧ (Instr.lookup mty (.map (some b)) key true).run P w = .ok (.tuple #[z, .bool false]) w) := by
  obtain ⟨es, c, h1, h2, h3, h4⟩ := h.omap_open
  have hb := h4.at
  rcases findNow_spec hk es.toList 0 h3 with ⟨f1, f2⟩ | ⟨j, e, f1, f2, f3⟩
  · refine .inr ⟨?_, ?_, ?_⟩
    · intro p hp e
      have := (h1.mem_iff.2 hp)
      obtain ⟨x, hx, hxe⟩ := List.mem_map.1 this
      refine f2 x hx ?_
      rw [← e, ← hxe]
    · simp [Instr.lookup, run_underlying hm, MapKept.run_getObj_map hb, MapKept.run_checkKey hd hk, MapKept.run_findKey hd f1, Result.andThen, hz]
    · simp [Instr.lookup, run_underlying hm, MapKept.run_getObj_map hb, MapKept.run_checkKey hd hk, MapKept.run_findKey hd f1, Result.andThen, hz]
  · refine .inl ⟨e.val, ?_, ?_, ?_⟩
    · refine h1.mem_iff.1 (List.mem_map.2 ⟨e, List.mem_of_getElem? f2, ?_⟩)
      rw [f3]
    · simp [Instr.lookup, run_underlying hm, MapKept.run_getObj_map hb, MapKept.run_checkKey hd hk, MapKept.run_findKey hd f1, Result.andThen]
    · simp [Instr.lookup, run_underlying hm, MapKept.run_getObj_map hb, MapKept.run_checkKey hd hk, MapKept.run_findKey hd f1, Result.andThen]
/-- 'm[key] = v'. -/
theorem run_store (hm : P.underlying mty = some (.map kt et)) (hd : P.underlying kt = some d) (hk : IsKey d key) (v : Value) (h : Sat w0 w (omap d b l :: R)) :
    ∃ w', (Instr.mapUpdate mty (.map (some b)) key v).run P w = .ok () w' ∧ ∀ l0, (l.Perm l0 ∧ (∀ p ∈ l0, p.1 ≠ key) ∨ ∃ v0, l.Perm ((key, v0) :: l0)) → Sat w0 w' (omap d b ((key, v) :: l0) :: R) := by
  obtain ⟨es, c, h1, h2, h3, h4⟩ := h.omap_open
  have hb := h4.at
  have hnd := h.omap_keys
  have turn : ∀ o' : Obj, Sat w0 { w with heap := w.heap.setIfInBounds b o' } (pt b o' :: R) := fun o' =>
    h4.turn rfl rfl rfl (by simp) (heap_set hb).1 (fun i hi _ => (heap_set hb).2 i hi)
  rcases findNow_spec hk es.toList 0 h3 with ⟨f1, f2⟩ | ⟨j, e, f1, f2, f3⟩
  · refine ⟨_, by simp [Instr.mapUpdate, run_underlying hm, MapKept.run_getObj_map hb, MapKept.run_checkKey hd hk, MapKept.run_findKey hd f1, MapKept.run_setObj_map _ hb, Result.andThen]; rfl, ?_⟩
    intro l0 hl0
    refine (turn _).omap_shut ?_ (stamped_push h2 f2) ?_
    · have hp : l.Perm l0 := by
        rcases hl0 with ⟨hp, _⟩ | ⟨v0, hp⟩
        · exact hp
        · exfalso
          have : (key, v0) ∈ es.toList.map fun e => (e.key, e.val) := h1.mem_iff.2 (hp.mem_iff.2 (.head _))
          obtain ⟨x, hx, hxe⟩ := List.mem_map.1 this
          exact f2 x hx (congrArg Prod.fst hxe)
      simp only [Array.toList_push, List.map_append, List.map_cons, List.map_nil]
      exact (List.perm_append_comm).trans (by simpa using (h1.trans hp).cons (key, v))
    · intro x hx
      simp only [Array.toList_push, List.mem_append, List.mem_singleton] at hx
      rcases hx with hx | rfl
      · exact h3 x hx
      · exact hk
  · have hj : es[j]? = some e := by simpa using f2
    refine ⟨_, by simp [Instr.mapUpdate, run_underlying hm, MapKept.run_getObj_map hb, MapKept.run_checkKey hd hk, MapKept.run_findKey hd f1, hj, f3, MapKept.run_keyThatStays hk, MapKept.run_setObj_map _ hb, Result.andThen]; rfl, ?_⟩
    intro l0 hl0
    have hkey : ∀ e', es[j]? = some e' → ({ e' with key := key, val := v } : MapEntry).key = e'.key := fun e' he' => by rw [hj] at he'; cases he'; exact f3.symm
    refine (turn _).omap_shut ?_ (stamped_modify h2 _ _ (fun _ _ => rfl) (fun e' _ he' => hkey e' he')) (isKey_modify h3 _ _ hkey)
    have hmem : (key, e.val) ∈ l := h1.mem_iff.1 (List.mem_map.2 ⟨e, List.mem_of_getElem? f2, by rw [f3]⟩)
    have hlt : j < es.toList.length := (List.getElem?_eq_some_iff.1 f2).1
    have hsplit : es.toList = es.toList.take j ++ e :: es.toList.drop (j + 1) := by
      have he : es.toList[j] = e := (List.getElem?_eq_some_iff.1 f2).2
      rw [← he, List.getElem_cons_drop, List.take_append_drop]
    have hp : l.Perm ((key, e.val) :: l0) := by
      rcases hl0 with ⟨hp, hne⟩ | ⟨v0, hp⟩
      · exact absurd rfl (hne _ (hp.mem_iff.1 hmem))
      · have : (key, e.val) ∈ (key, v0) :: l0 := hp.mem_iff.1 hmem
        rcases List.mem_cons.1 this with hh | hh
        · rw [hh]; exact hp
        · have hn := (hp.map (·.1)).nodup_iff.1 hnd
          simp only [List.map_cons, List.nodup_cons] at hn
          exact absurd (List.mem_map.2 ⟨_, hh, rfl⟩) hn.1
    have hmod : (es.modify j fun e => { e with key := key, val := v }).toList = es.toList.take j ++ { e with key := key, val := v } :: es.toList.drop (j + 1) := by
      rw [Array.toList_modify, List.modify_eq_take_cons_drop hlt]
      have he : es.toList[j] = e := (List.getElem?_eq_some_iff.1 f2).2
      rw [he]
    rw [hmod]
    rw [hsplit] at h1
    simp only [List.map_append, List.map_cons] at h1 ⊢
    rw [f3] at h1
    have h5 : ((key, e.val) :: ((es.toList.take j).map (fun e => (e.key, e.val)) ++ (es.toList.drop (j+1)).map (fun e => (e.key, e.val)))).Perm ((key, e.val) :: l0) := (List.perm_middle.symm.trans h1).trans hp
    exact List.perm_middle.trans ((List.Perm.cons_inv h5).cons _)
theorem run_drop {ty : TypeId} (hm : P.underlying mty = some (.map kt et)) (hd : P.underlying kt = some d) (hk : IsKey d key) (h : Sat w0 w (omap d b l :: R)) :
    ∃ w', (Builtin.delete_ #[mty, kt] ty #[.map (some b), key]).run P w = .ok (.tuple #[]) w' ∧ ∀ l0, (l.Perm l0 ∧ (∀ p ∈ l0, p.1 ≠ key) ∨ ∃ v0, l.Perm ((key, v0) :: l0)) → Sat w0 w' (omap d b l0 :: R) := by
  obtain ⟨es, c, h1, h2, h3, h4⟩ := h.omap_open
  have hb := h4.at
  have hnd := h.omap_keys
  have turn : ∀ o' : Obj, Sat w0 { w with heap := w.heap.setIfInBounds b o' } (pt b o' :: R) := fun o' =>
    h4.turn rfl rfl rfl (by simp) (heap_set hb).1 (fun i hi _ => (heap_set hb).2 i hi)
  rcases findNow_spec hk es.toList 0 h3 with ⟨f1, f2⟩ | ⟨j, e, f1, f2, f3⟩
  · refine ⟨_, by simp [Builtin.delete_, run_underlying hm, MapKept.run_getObj_map hb, MapKept.run_checkKey hd hk, MapKept.run_findKey hd f1, MapKept.run_setObj_map _ hb, Result.andThen]; rfl, ?_⟩
    intro l0 hl0
    refine (turn _).omap_shut ?_ h2 h3
    rcases hl0 with ⟨hp, _⟩ | ⟨v0, hp⟩
    · exact h1.trans hp
    · exfalso
      have : (key, v0) ∈ es.toList.map fun e => (e.key, e.val) := h1.mem_iff.2 (hp.mem_iff.2 (.head _))
      obtain ⟨x, hx, hxe⟩ := List.mem_map.1 this
      exact f2 x hx (congrArg Prod.fst hxe)
  · refine ⟨_, by simp [Builtin.delete_, run_underlying hm, MapKept.run_getObj_map hb, MapKept.run_checkKey hd hk, MapKept.run_findKey hd f1, MapKept.run_setObj_map _ hb, Result.andThen]; rfl, ?_⟩
    intro l0 hl0
    have hlt : j < es.toList.length := (List.getElem?_eq_some_iff.1 f2).1
    have hers : (es.eraseIdxIfInBounds j).toList = es.toList.take j ++ es.toList.drop (j + 1) := by
      unfold Array.eraseIdxIfInBounds
      rw [dif_pos (by simpa using hlt), Array.toList_eraseIdx, List.eraseIdx_eq_take_drop_succ]
    refine (turn _).omap_shut ?_ (stamped_erase h2 _) ?_
    · have hmem : (key, e.val) ∈ l := h1.mem_iff.1 (List.mem_map.2 ⟨e, List.mem_of_getElem? f2, by rw [f3]⟩)
      have hp : l.Perm ((key, e.val) :: l0) := by
        rcases hl0 with ⟨hp, hne⟩ | ⟨v0, hp⟩
        · exact absurd rfl (hne _ (hp.mem_iff.1 hmem))
        · have : (key, e.val) ∈ (key, v0) :: l0 := hp.mem_iff.1 hmem
          rcases List.mem_cons.1 this with hh | hh
          · rw [hh]; exact hp
          · have hn := (hp.map (·.1)).nodup_iff.1 hnd
            simp only [List.map_cons, List.nodup_cons] at hn
            exact absurd (List.mem_map.2 ⟨_, hh, rfl⟩) hn.1
      have hsplit : es.toList = es.toList.take j ++ e :: es.toList.drop (j + 1) := by
        have he : es.toList[j] = e := (List.getElem?_eq_some_iff.1 f2).2
        rw [← he, List.getElem_cons_drop, List.take_append_drop]
      rw [hers]
      rw [hsplit] at h1
      simp only [List.map_append, List.map_cons] at h1 ⊢
      rw [f3] at h1
      exact List.Perm.cons_inv ((List.perm_middle.symm.trans h1).trans hp)
    · intro x hx
      rw [hers] at hx
      refine h3 x ?_
      rcases List.mem_append.1 hx with hx | hx
      · exact List.mem_of_mem_take hx
      · exact List.mem_of_mem_drop hx
theorem run_maplen (hm : P.underlying mty = some (.map kt et)) (ty : TypeId) (h : Sat w0 w (omap d b l :: R)) : (Builtin.len_ #[mty] ty #[.map (some b)]).run P w = .ok (.int .i64 l.length) w := by
  obtain ⟨es, c, h1, h2, h3, h4⟩ := h.omap_open
  have hb := h4.at
  have hl := h1.length_eq
  simp at hl
  simp [Builtin.len_, run_underlying hm, MapKept.run_getObj_map hb, Result.andThen, goInt, hl]
end

section
variable {P : Program} {w0 w : World} {R : List HProp} {d : TypeDesc} {b : Nat} {l : List (Value × Value)} {key : Value} {t kt et : TypeId}
variable {ops : Array Oper} {rest : List Oper} {o : Oper} {a : Act} {Q : Exit → Act → World → Prop}
theorem wpList_drop (hg : o.guard = none) (m x : Operand) (hop : o.op = Op.call { callee := Callee.builtin Builtin.delete, args := #[m, x], argTypes := #[t, kt] })
    (hm : P.underlying t = some (.map kt et)) (hd : P.underlying kt = some d) (hmv : a.eval m = .map (some b)) (hxv : a.eval x = key) (hk : IsKey d key) (h : Sat w0 w (omap d b l :: R))
    (l0 : List (Value × Value)) (hl : l.Perm l0 ∧ (∀ p ∈ l0, p.1 ≠ key) ∨ ∃ v0, l.Perm ((key, v0) :: l0))
    (hK : ∀ w', Sat w0 w' (omap d b l0 :: R) → wpList P ops Q rest (a.put o.dst (.tuple #[])) w') : wpList P ops Q (o :: rest) a w := by
  refine wpList_plain hg fun K' hK' => ?_
  obtain ⟨w', hrun, hs⟩ := run_drop (P := P) (ty := o.type) hm hd hk h
  unfold Oper.wp
  simp [execOp, hop, resolve, invoke, builtin, hmv, hxv, hrun, Result.andThen]
  exact hK' _ _ (hK w' (hs l0 hl))
theorem wpList_store (hg : o.guard = none) (m x y : Operand) (hop : o.op = Op.mapUpdate t m x y)
    (hm : P.underlying t = some (.map kt et)) (hd : P.underlying kt = some d) (hmv : a.eval m = .map (some b)) (hxv : a.eval x = key) {v : Value} (hyv : a.eval y = v) (hk : IsKey d key) (h : Sat w0 w (omap d b l :: R))
    (l0 : List (Value × Value)) (hl : l.Perm l0 ∧ (∀ p ∈ l0, p.1 ≠ key) ∨ ∃ v0, l.Perm ((key, v0) :: l0))
    (hK : ∀ w', Sat w0 w' (omap d b ((key, v) :: l0) :: R) → wpList P ops Q rest (a.put o.dst undef) w') : wpList P ops Q (o :: rest) a w := by
  refine wpList_plain hg fun K' hK' => ?_
  obtain ⟨w', hrun, hs⟩ := run_store (P := P) hm hd hk v h
  unfold Oper.wp
  simp [execOp, hop, hmv, hxv, hyv, hrun, Result.andThen]
  exact hK' _ _ (hK w' (hs l0 hl))
end
end Go.Sl
