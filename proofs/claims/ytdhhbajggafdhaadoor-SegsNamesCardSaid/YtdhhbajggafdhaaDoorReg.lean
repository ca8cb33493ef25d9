import Derived.OrdersHeld
import Derived.WalkKit
/- A region that draws its order: reads are taken first under G, which all operations but the late ones keep. -/
namespace Go.Sl
open Go
section
variable {P : Program} {ops : Array Oper} {Q : Exit → Act → World → Prop} {late : List Nat} {G : World → Prop}
/-- What operation i must show behind it: it is a late one, or G holds, or the world is as it was. -/
def keeps (late : List Nat) (G : World → Prop) (i : Nat) (w w' : World) : Prop := late.contains i = true ∨ G w' ∨ w' = w
def wpL (P : Program) (ops : Array Oper) (Q : Exit → Act → World → Prop) (late : List Nat) (G : World → Prop) : Nat → Array Bool → Act → World → Prop
  | 0, l, a, w => Region.ready .any ops l = [] ∧ Q .normal a w
  | n + 1, l, a, w => (Region.ready .any ops l = [] → Q .normal a w) ∧
    ∀ i ∈ Region.ready .any ops l, wpOp P ops Q i (fun a' w' => keeps late G i w w' ∧ wpL P ops Q late G n (l.setIfInBounds i true) a' w') a w
theorem wpAny_of_L : ∀ (n : Nat) (l : Array Bool) (a : Act) (w : World), wpL P ops Q late G n l a w → wpAny P .any ops Q n l a w
  | 0, _, _, _, h => h
  | n + 1, _, _, _, h => ⟨h.1, fun i hi => wpOp_mono (fun a' w' h' => wpAny_of_L n _ a' w' h'.2) (h.2 i hi)⟩
theorem wpL_begin {id : Nat} {a : Act} {w : World} (late : List Nat) (G : World → Prop) (hm : P.follows .mixedOrders = true)
    (h : wpL P ops Q late G ops.size (Array.replicate ops.size false) a w.drew) : (Code.region id ops true).wp P Q a w :=
  wp_region_any hm (wpAny_of_L _ _ _ _ h)
/-- Operation j waits for operation i, perhaps through others. -/
def waitsFor (ops : Array Oper) (i : Nat) : Nat → Nat → Bool
  | 0, _ => false
  | n + 1, j => ((ops[j]?).map fun o => (o.after.any fun e => Region.binds .any e && e.on == i) || (o.after.any fun e => Region.binds .any e && waitsFor ops i n e.on)).getD false
def lateOk (ops : Array Oper) (late : List Nat) (i : Nat) : Bool := late.all fun j => j == i || waitsFor ops i 8 j
/-- Whatever is listed, what it waits for is listed. -/
def shutL (ops : Array Oper) (l : Array Bool) : Prop := ∀ (k : Nat) (ok : Oper), ops[k]? = some ok → l.getD k false = true → ∀ e ∈ ok.after, Region.binds .any e = true → l.getD e.on false = true
def shutB (ops : Array Oper) (l : Array Bool) : Bool := (List.range ops.size).all fun k => !l.getD k false || ((ops[k]?).map fun o => o.after.all fun e => !Region.binds .any e || l.getD e.on false).getD true
theorem shutB_spec {l : Array Bool} (h : shutB ops l = true) : shutL ops l := by
  intro k ok hk hl e he hb
  have hlt : k < ops.size := (Array.getElem?_eq_some_iff.1 hk).1
  have h1 := (List.all_eq_true.1 h) k (by simpa using hlt)
  simp only [hl, hk, Option.map_some, Option.getD_some, Bool.not_true, Bool.false_or] at h1
  obtain ⟨m, hm, rfl⟩ := Array.getElem_of_mem he
  have h2 := Array.all_eq_true.1 h1 m hm
  simpa [hb] using h2
theorem shutL_set {l : Array Bool} {j : Nat} (h : shutL ops l) (hj : j ∈ Region.ready .any ops l) : shutL ops (l.setIfInBounds j true) := by
  obtain ⟨hun, oj, hoj, hall⟩ := mem_ready.1 hj
  have hmono : ∀ k, l.getD k false = true → (l.setIfInBounds j true).getD k false = true := by
    intro k hk
    by_cases hjk : j = k
    · subst hjk
      rcases Nat.lt_or_ge j l.size with h' | h'
      · simp [h']
      · simp [Array.getElem?_eq_none h'] at hk
    · simp only [Array.getD_eq_getD_getElem?] at hk ⊢
      rw [Array.getElem?_setIfInBounds_ne hjk]; exact hk
  intro k ok hk hl e he hb
  by_cases hjk : j = k
  · subst hjk
    rw [hoj] at hk; cases hk
    exact hmono _ (hall e he hb)
  · refine hmono _ (h k ok hk ?_ e he hb)
    simp only [Array.getD_eq_getD_getElem?] at hl ⊢
    rw [Array.getElem?_setIfInBounds_ne hjk] at hl; exact hl
theorem waitsFor_listed {l : Array Bool} (hs : shutL ops l) (i : Nat) : ∀ (n j : Nat), waitsFor ops i n j = true → (∀ oj, ops[j]? = some oj → ∀ e ∈ oj.after, Region.binds .any e = true → l.getD e.on false = true) → l.getD i false = true
  | 0, _, h, _ => by cases h
  | n + 1, j, h, hj => by
    unfold waitsFor at h
    cases ho : ops[j]? with
    | none => rw [ho] at h; simp at h
    | some o =>
      rw [ho] at h
      simp only [Option.map_some, Option.getD_some, Bool.or_eq_true] at h
      rcases h with h | h
      · obtain ⟨k, hk, h2⟩ := Array.any_eq_true.1 h
        simp only [Bool.and_eq_true, beq_iff_eq] at h2
        rw [← h2.2]
        exact hj o ho _ (Array.getElem_mem hk) h2.1
      · obtain ⟨k, hk, h2⟩ := Array.any_eq_true.1 h
        simp only [Bool.and_eq_true] at h2
        have hl := hj o ho _ (Array.getElem_mem hk) h2.1
        exact waitsFor_listed hs i n _ h2.2 (fun ok hok => hs _ ok hok hl)
theorem wpL_first {i : Nat} {oi : Oper} {v : Value} {S : World → Prop} (hi : ops[i]? = some oi) (hsel : ∀ (j : Nat) (o : Oper) cs b, ops[j]? = some o → o.op ≠ .select cs b)
    (hQ : ∀ c a w, Q (.panic c) (a.put oi.dst v) w → Q (.panic c) a w)
    (hS : ∀ j, waitsFor ops i 8 j = false → j ≠ i → ∀ w w', S w → keeps late G j w w' → S w') :
    ∀ (n : Nat) (l : Array Bool) (a : Act) (w : World), shutL ops l →
      (∀ j oj, ops[j]? = some oj → j ≠ i → l.getD j true = false → (∀ e ∈ oj.after, Region.binds .any e = true → e.on ≠ i) → oi.apart ops oj = true) →
      i ∈ Region.ready .any ops l → YieldsIf P ops S oi v a → S w →
      wpL P ops Q late G n (l.setIfInBounds i true) (a.put oi.dst v) w → wpL P ops Q late G (n + 1) l a w := by
  intro n
  induction n with
  | zero =>
    intro l a w _ _ hr hy hs H
    refine ⟨(fun h => (by rw [h] at hr; cases hr)), fun j hj => ?_⟩
    by_cases hji : j = i
    · subst hji; exact hy.wpOp hi hs ⟨.inr (.inr rfl), H⟩
    · have := ready_mono hj hji
      rw [H.1] at this
      cases this
  | succ n ih =>
    intro l a w hsh hfree hr hy hs H
    refine ⟨(fun h => (by rw [h] at hr; cases hr)), fun j hj => ?_⟩
    by_cases hji : j = i
    · subst hji; exact hy.wpOp hi hs ⟨.inr (.inr rfl), H⟩
    · have h1 := H.2 j (ready_mono hj hji)
      obtain ⟨hjun, oj, hoj, hall⟩ := mem_ready.1 hj
      have hiun : l.getD i false = false := by
        have h0 := (mem_ready.1 hr).1
        rcases Nat.lt_or_ge i l.size with h' | h'
        · simp [h'] at h0 ⊢; exact h0
        · simp [Array.getElem?_eq_none h'] at h0
      have hnot : ∀ e ∈ oj.after, Region.binds .any e = true → e.on ≠ i := fun e he hb heq => by
        have h1 := hall e he hb
        rw [heq, hiun] at h1
        cases h1
      have hwait : waitsFor ops i 8 j = false := by
        cases hw : waitsFor ops i 8 j with
        | false => rfl
        | true =>
          have := waitsFor_listed hsh i 8 j hw (fun o ho => by rw [hoj] at ho; cases ho; exact hall)
          rw [hiun] at this; cases this
      have h2 := wpOp_putIf hoj (hfree j oj hoj hji hjun hnot) (fun cs b => hsel i oi cs b hi) (fun cs b => hsel j oj cs b hoj) hQ hy h1
      have hfree' : ∀ k ok, ops[k]? = some ok → k ≠ i → (l.setIfInBounds j true).getD k true = false →
          (∀ e ∈ ok.after, Region.binds .any e = true → e.on ≠ i) → oi.apart ops ok = true := fun k ok hok hki hun hno => by
        refine hfree k ok hok hki ?_ hno
        by_cases hjk : j = k
        · subst hjk; exact hjun
        · rw [getD_set_ne true hjk] at hun; exact hun
      refine wpOp_mono (fun a' w' h3 => ⟨h3.2.1, ih (l.setIfInBounds j true) a' w' (shutL_set hsh hj) hfree' (ready_mono hr (Ne.symm hji)) h3.1 (hS j hwait hji w w' hs h3.2.1) ?_⟩) h2
      rw [Array.setIfInBounds_comm _ _ hji]
      exact h3.2.2
/-- A read, under G. -/
theorem wpL_take {i : Nat} {oi : Oper} {v : Value} {n : Nat} {l : Array Bool} {a : Act} {w : World} (hi : ops[i]? = some oi)
    (hc : (Region.noSelect ops && Region.free .any ops l i && (Region.ready .any ops l).contains i && lateOk ops late i && shutB ops l) = true)
    (hQ : ∀ c a w, Q (.panic c) (a.put oi.dst v) w → Q (.panic c) a w) (hy : YieldsIf P ops G oi v a) (hG : G w)
    (h : wpL P ops Q late G n (l.setIfInBounds i true) (a.put oi.dst v) w) : wpL P ops Q late G (n + 1) l a w := by
  simp only [Bool.and_eq_true] at hc
  obtain ⟨⟨⟨⟨hs, hf⟩, hr⟩, hl⟩, hsh⟩ := hc
  refine wpL_first hi (Region.noSelect_spec hs) hQ ?_ n l a w (shutB_spec hsh) (Region.free_spec hi hf) (by simpa using hr) hy hG h
  intro j hno hji w w' hw hk
  rcases hk with hc | hk | rfl
  · exfalso
    have h1 := (List.all_eq_true.1 hl) j (by simpa using hc)
    rw [hno, Bool.or_false] at h1
    exact hji (by simpa using h1)
  · exact hk
  · exact hw
/-- An operation that yields in whatever world. -/
theorem wpL_pure {i : Nat} {oi : Oper} {v : Value} {n : Nat} {l : Array Bool} {a : Act} {w : World} (hi : ops[i]? = some oi)
    (hc : (Region.noSelect ops && Region.free .any ops l i && (Region.ready .any ops l).contains i && shutB ops l) = true)
    (hQ : ∀ c a w, Q (.panic c) (a.put oi.dst v) w → Q (.panic c) a w) (hy : Yields P ops oi v a)
    (h : wpL P ops Q late G n (l.setIfInBounds i true) (a.put oi.dst v) w) : wpL P ops Q late G (n + 1) l a w := by
  simp only [Bool.and_eq_true] at hc
  obtain ⟨⟨⟨hs, hf⟩, hr⟩, hsh⟩ := hc
  exact wpL_first (S := fun _ => True) hi (Region.noSelect_spec hs) hQ (fun _ _ _ _ _ _ _ => trivial) n l a w (shutB_spec hsh) (Region.free_spec hi hf) (by simpa using hr) hy.yieldsIf trivial h
/-- The only one that may come up. -/
theorem wpL_eff {i : Nat} {o : Oper} {n : Nat} {l : Array Bool} {a : Act} {w : World} (ho : ops[i]? = some o) (hr : Region.ready .any ops l = [i])
    (h : ∀ K : Act → World → Prop, (∀ a' w', keeps late G i w w' → wpL P ops Q late G n (l.setIfInBounds i true) a' w' → K a' w') →
      if Region.wanted o (yielded ops a.tmps) = true then Oper.wp P o a w K Q else K (a.put o.dst undef) w) : wpL P ops Q late G (n + 1) l a w := by
  refine ⟨(fun h0 => by rw [hr] at h0; cases h0), fun j hj => ?_⟩
  rw [hr] at hj
  obtain rfl : j = i := by simpa using hj
  have := h _ (fun a' w' h1 h2 => And.intro h1 h2)
  unfold wpOp
  rw [ho]
  show if Region.wanted o (yielded ops a.tmps) = true then _ else _
  split
  · rename_i hw; rw [if_pos hw] at this; exact .inl this
  · rename_i hw; rw [if_neg hw] at this; exact this
theorem wpL_done {n : Nat} {l : Array Bool} {a : Act} {w : World} (hr : Region.ready .any ops l = []) (h : Q .normal a w) : wpL P ops Q late G n l a w := by
  cases n with
  | zero => exact ⟨hr, h⟩
  | succ n => exact ⟨fun _ => h, (by rw [hr]; intro i hi; cases hi)⟩
end
end Go.Sl
