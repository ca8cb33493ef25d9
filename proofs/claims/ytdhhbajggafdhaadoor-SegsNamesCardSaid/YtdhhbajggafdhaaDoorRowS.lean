import Derived.Test.YtdhhbajggafdhaaDoorAux
import Derived.Deep.Slices
import Derived.WalkKit
import Derived.ProofKit
import Derived.OpenShut
import Derived.ShutString
import Derived.ChangeOld
import Derived.Below
/- How the arguments of a row are opened: slices of whatever elements, structs; from the world of the call to the walk's. -/
namespace Go.Proofs.YtdhhbajggafdhaaDoor
open Go Go.Sl Go.Med Go.ChangeShapes Go.WideShapes Go.RowKit
section
variable {H : Type} {enc : TypeId × Value → H} {P : Program} {W : World} {base : Nat} {spare : Nat → Bool} {held : Bool}
theorem flatten_idx {α : Type} (k : Nat) (hk : 0 < k) : ∀ (xs : List (List α)) (_ : ∀ x ∈ xs, x.length = k) (i : Nat) (y : α), xs.flatten[i]? = some y → ∃ x, xs[i / k]? = some x ∧ x[i % k]? = some y
  | [], _, _, _, h => by simp at h
  | x :: xs, hl, i, y, h => by
    have hx := hl x (.head _)
    rw [List.flatten_cons] at h
    rcases Nat.lt_or_ge i k with hi | hi
    · rw [List.getElem?_append_left (by omega)] at h
      refine ⟨x, ?_, ?_⟩
      · rw [Nat.div_eq_of_lt hi]; rfl
      · rw [Nat.mod_eq_of_lt hi]; exact h
    · rw [List.getElem?_append_right (by omega), hx] at h
      obtain ⟨z, h1, h2⟩ := flatten_idx k hk xs (fun q hq => hl q (.tail _ hq)) (i - k) y h
      have e1 : i / k = (i - k) / k + 1 := by
        conv => lhs; rw [show i = (i - k) + k by omega]
        rw [Nat.add_div_right _ hk]
      have e2 : i % k = (i - k) % k := Nat.mod_eq_sub_mod hi
      exact ⟨z, by rw [e1]; exact h1, by rw [e2]; exact h2⟩
theorem flatten_len {α : Type} (k : Nat) : ∀ (xs : List (List α)) (_ : ∀ x ∈ xs, x.length = k), xs.flatten.length = xs.length * k
  | [], _ => by simp
  | x :: xs, hl => by
    rw [List.flatten_cons, List.length_append, flatten_len k xs (fun q hq => hl q (.tail _ hq)), hl x (.head _), List.length_cons, Nat.succ_mul]; omega
theorem list_of_fun {α : Type} {n : Nat} {p : Nat → α → Prop} (h : ∀ i, i < n → ∃ x, p i x) : ∃ l : List α, l.length = n ∧ ∀ i x, l[i]? = some x → p i x := by
  induction n with
  | zero => exact ⟨[], rfl, fun i x h => by simp at h⟩
  | succ n ih =>
    obtain ⟨l, h1, h2⟩ := ih fun i hi => h i (Nat.lt_succ_of_lt hi)
    obtain ⟨x, hx⟩ := h n (Nat.lt_succ_self n)
    refine ⟨l ++ [x], by simp [h1], fun i y hy => ?_⟩
    rcases Nat.lt_trichotomy i n with hlt | rfl | hgt
    · rw [List.getElem?_append_left (by omega)] at hy; exact h2 i y hy
    · rw [List.getElem?_append_right (by omega), h1, Nat.sub_self] at hy
      cases hy; exact hx
    · rw [List.getElem?_eq_none (by simp; omega)] at hy; cases hy
/-- A slice that came in: its elements, each with its own reading. -/
theorem open_sl {t e : TypeId} {k fuel : Nat} {v : Value} {x : DataW H × List MemPlace} (ht : P.underlying t = some (.slice e)) (hc : P.cellsOf e = k) (hk : 0 < k) (h : DataW.trod enc P W base spare held fuel t [v] = some x) :
    ∃ elems : List (List Value), rdsl k v elems.flatten W ∧ capOk v ∧ ∀ cs ∈ elems, cs.length = k ∧ ∃ n y, DataW.trod enc P W base spare held n e cs = some y := by
  rcases Go.Deep.open_slice ht h with ⟨hcs, _⟩ | ⟨a, len, cap, m, n, D, Pl, hcs, hb, hl, hm, hmm, _, hx⟩
  · obtain rfl : v = .slice none 0 0 := by simpa using hcs
    exact ⟨[], rdsl_nil _ _ _, ⟨_, _, _, rfl, Nat.le_refl _, by omega⟩, by simp⟩
  · obtain rfl : v = .slice (some a) len cap := by simpa using hcs
    have hlm : len ≤ m := by rw [hmm]; split <;> omega
    rw [hc] at hx
    obtain ⟨l, l1, l2⟩ := list_of_fun (n := len) fun i hi => hx i (by omega)
    have hlen : ∀ cs ∈ l, cs.length = k := by
      intro cs hcs
      obtain ⟨i, hi, rfl⟩ := List.getElem_of_mem hcs
      obtain ⟨h1, _⟩ := l2 i _ (List.getElem?_eq_getElem hi)
      exact (World.cells?_some h1).2.1
    refine ⟨l, ⟨some a, len, cap, rfl, by rw [flatten_len k l hlen, l1], fun i y hy => ⟨a, rfl, ?_⟩⟩, ⟨_, _, _, rfl, hl, by unfold maxLen at hm; omega⟩, fun cs hcs => ⟨hlen cs hcs, ?_⟩⟩
    · obtain ⟨cs, h1, h2⟩ := flatten_idx k hk l hlen i y hy
      obtain ⟨h3, _⟩ := l2 _ _ h1
      have h4 := (World.cells?_some h3).2.2 (i % k) (Nat.mod_lt _ hk)
      rw [Go.Deep.add_add, h2] at h4
      rw [← h4]
      congr 2
      rw [Nat.mul_comm]; exact (Nat.div_add_mod i k).symm
    · obtain ⟨i, hi, rfl⟩ := List.getElem_of_mem hcs
      obtain ⟨_, h2⟩ := l2 i _ (List.getElem?_eq_getElem hi)
      exact ⟨n, _, h2⟩
/-- A struct: each field's reading. -/
theorem open_fields {t : TypeId} {fs : Array Field} {fuel : Nat} {cs : List Value} {x : DataW H × List MemPlace} (ht : P.underlying t = some (.struct fs)) (h : DataW.trod enc P W base spare held fuel t cs = some x) :
    cs.length = P.cellsOf t ∧ ∀ (i : Nat) (f : Field), fs[i]? = some f → ∃ n y, DataW.trod enc P W base spare held n f.type ((cs.drop f.offset).take (P.cellsOf f.type)) = some y := by
  obtain ⟨xs, n, _, _, hl, hxl, hf⟩ := DataW.trod_struct ht h
  refine ⟨hl, fun i f hi => ⟨n, ?_⟩⟩
  have hlt : i < xs.length := by rw [hxl]; exact (Array.getElem?_eq_some_iff.1 hi).1
  exact ⟨xs[i], by rw [hf i f hi]; exact List.getElem?_eq_getElem hlt⟩
/-- Each element is what f makes of something. -/
theorem map_of {α β : Type} {f : α → β} {p : α → Prop} : ∀ (l : List β) (_ : ∀ y ∈ l, ∃ x, f x = y ∧ p x), ∃ xs : List α, xs.map f = l ∧ ∀ x ∈ xs, p x
  | [], _ => ⟨[], rfl, by simp⟩
  | y :: l, h => by
    obtain ⟨x, h1, h2⟩ := h y (.head _)
    obtain ⟨xs, h3, h4⟩ := map_of l fun z hz => h z (.tail _ hz)
    refine ⟨x :: xs, by simp [h1, h3], fun z hz => ?_⟩
    rcases List.mem_cons.1 hz with rfl | hz
    · exact h2
    · exact h4 z hz
def toBs (zs : List Int) : Bs := zs.map fun z => UInt8.ofNat z.toNat
theorem bys_toBs {zs : List Int} (h : ∀ z ∈ zs, (Lit.int .u8 z).wf = true) : bys (toBs zs) = zs.map (.int .u8) := by
  unfold bys toBs
  rw [List.map_map]
  apply List.map_congr_left
  intro z hz
  have hb := bounds_u8 (h z hz)
  simp only [Function.comp, Value.int.injEq, true_and]
  rw [UInt8.toNat_ofNat']
  omega
theorem in_kind {t e : TypeId} {k : IntKind} {fuel : Nat} {v : Value} {x : DataW H × List MemPlace} (ht : P.underlying t = some (.slice e)) (he : P.underlying e = some (.int k)) (hc : P.cellsOf e = 1) (h : DataW.trod enc P W base spare held fuel t [v] = some x) :
    ∃ l : List Int, rdsl 1 v (l.map (.int k)) W ∧ capOk v ∧ ∀ z ∈ l, (Lit.int k z).wf = true := by
  obtain ⟨elems, h1, h2, h3⟩ := open_sl ht hc (by omega) h
  obtain ⟨l, h4, h5⟩ := map_of (f := fun z : Int => [Value.int k z]) (p := fun z => (Lit.int k z).wf = true) elems fun cs hcs => by
    obtain ⟨_, n, y, h6⟩ := h3 cs hcs
    obtain ⟨z, hz, _, hw⟩ := DataW.trod_int he h6
    exact ⟨z, hz.symm, hw⟩
  refine ⟨l, ?_, h2, h5⟩
  rw [← h4] at h1
  have : (l.map fun z : Int => [Value.int k z]).flatten = l.map (.int k) := by
    clear h1 h4 h5
    induction l with
    | nil => rfl
    | cons z l ih => simp only [List.map_cons, List.flatten_cons, ih]; rfl
  rw [this] at h1
  exact h1
theorem in_bys {t e : TypeId} {fuel : Nat} {v : Value} {x : DataW H × List MemPlace} (ht : P.underlying t = some (.slice e)) (he : P.underlying e = some (.int .u8)) (hc : P.cellsOf e = 1) (h : DataW.trod enc P W base spare held fuel t [v] = some x) :
    ∃ l : Bs, rdsl 1 v (bys l) W ∧ capOk v := by
  obtain ⟨l, h1, h2, h3⟩ := in_kind ht he hc h
  exact ⟨toBs l, by rw [bys_toBs h3]; exact h1, h2⟩
theorem in_nums {t e : TypeId} {fuel : Nat} {v : Value} {x : DataW H × List MemPlace} (ht : P.underlying t = some (.slice e)) (he : P.underlying e = some (.int .i64)) (hc : P.cellsOf e = 1) (h : DataW.trod enc P W base spare held fuel t [v] = some x) :
    ∃ l : List Int, rdsl 1 v (ints l) W ∧ capOk v ∧ ∀ z ∈ l, inI z := by
  obtain ⟨l, h1, h2, h3⟩ := in_kind ht he hc h
  exact ⟨l, h1, h2, fun z hz => bounds_i64 (h3 z hz)⟩
theorem cell_old {w : World} {a : Addr} {v : Value} (h : Sat W w [Sl.old W]) (hc : W.cell? a = some v) : w.cell? a = some v := by
  have hlt : a.block < W.heap.size := by
    rcases Nat.lt_or_ge a.block W.heap.size with h1 | h1
    · exact h1
    · unfold World.cell? at hc
      rw [Array.getElem?_eq_none h1] at hc
      simp at hc
  unfold World.cell? at hc ⊢
  rw [h.old hlt]; exact hc
theorem rd_old {v : Value} {k : Nat} {xs : List Value} (h : rdsl k v xs W) : Ro W [Sl.old W] (rdsl k v xs) := by
  intro w hw
  obtain ⟨a, n, c, he, hl, hx⟩ := h
  refine ⟨a, n, c, he, hl, fun i x hi => ?_⟩
  obtain ⟨b, hb, hc⟩ := hx i x hi
  exact ⟨b, hb, cell_old hw hc⟩
theorem own : ownKnob Tryd.prog.godebug = none := by kernel_rfl
theorem laidOut : laidOutB Tryd.prog = true := by kernel_rfl
end
end Go.Proofs.YtdhhbajggafdhaaDoor
