import Derived.WalkKit
/- A small separation logic over the model's heap. -/
namespace Go.Sl
open Go

abbrev Hp : Type := Nat → Option Obj
def HProp : Type := Hp → Prop

def Hp.disj (a b : Hp) : Prop := ∀ i, a i = none ∨ b i = none
def Hp.join (a b : Hp) : Hp := fun i => (a i).or (b i)

theorem HProp.ext {A B : HProp} (h : ∀ x, A x ↔ B x) : A = B := funext fun x => propext (h x)

def emp : HProp := fun h => h = fun _ => none
def star (A B : HProp) : HProp := fun h => ∃ a b, Hp.disj a b ∧ h = Hp.join a b ∧ A a ∧ B b
/-- Block b holds o. -/
def pt (b : Nat) (o : Obj) : HProp := fun h => h = fun i => if i = b then some o else none
/-- A plain fact. -/
def pu (p : Prop) : HProp := fun h => p ∧ emp h
def ex {α : Type} (A : α → HProp) : HProp := fun h => ∃ x, A x h

theorem Hp.disj_comm {a b : Hp} (h : a.disj b) : b.disj a := fun i => (h i).symm
theorem Hp.join_comm {a b : Hp} (h : a.disj b) : a.join b = b.join a := by
  funext i
  rcases h i with h | h <;> simp [Hp.join, h]
theorem Hp.join_assoc (a b c : Hp) : (a.join b).join c = a.join (b.join c) := by
  funext i; simp [Hp.join, Option.or_assoc]

theorem star_comm (A B : HProp) : star A B = star B A := by
  apply HProp.ext; intro h
  constructor <;> (rintro ⟨a, b, d, rfl, ha, hb⟩; exact ⟨b, a, Hp.disj_comm d, Hp.join_comm d, hb, ha⟩)
theorem star_assoc (A B C : HProp) : star (star A B) C = star A (star B C) := by
  apply HProp.ext; intro h
  constructor
  · rintro ⟨ab, c, d, rfl, ⟨a, b, d', rfl, ha, hb⟩, hc⟩
    refine ⟨a, b.join c, ?_, Hp.join_assoc _ _ _, ha, ⟨b, c, ?_, rfl, hb, hc⟩⟩
    · intro i
      have h1 := d i; have h2 := d' i
      simp only [Hp.join, Option.or_eq_none_iff] at *
      cases h : a i <;> simp_all
    · intro i
      have h1 := d i
      simp only [Hp.join, Option.or_eq_none_iff] at *
      exact h1.imp (·.2) id
  · rintro ⟨a, bc, d, rfl, ha, ⟨b, c, d', rfl, hb, hc⟩⟩
    refine ⟨a.join b, c, ?_, (Hp.join_assoc _ _ _).symm, ⟨a, b, ?_, rfl, ha, hb⟩, hc⟩
    · intro i
      have h1 := d i; have h2 := d' i
      simp only [Hp.join, Option.or_eq_none_iff] at *
      cases h : c i <;> simp_all
    · intro i
      have h1 := d i
      simp only [Hp.join, Option.or_eq_none_iff] at *
      exact h1.imp id (·.1)
theorem star_left_comm (A B C : HProp) : star A (star B C) = star B (star A C) := by
  rw [← star_assoc, star_comm A B, star_assoc]
theorem emp_star (A : HProp) : star emp A = A := by
  apply HProp.ext; intro h
  constructor
  · rintro ⟨a, b, _, rfl, ha, hb⟩
    have : Hp.join a b = b := by funext i; rw [show a = _ from ha]; simp [Hp.join]
    rw [this]; exact hb
  · intro hh
    exact ⟨fun _ => none, h, fun _ => .inl rfl, by funext i; simp [Hp.join], rfl, hh⟩
theorem star_emp (A : HProp) : star A emp = A := by rw [star_comm, emp_star]

/-- All of a list, side by side. -/
def stars : List HProp → HProp
  | [] => emp
  | A :: L => star A (stars L)
theorem stars_cons (A : HProp) (L : List HProp) : stars (A :: L) = star A (stars L) := rfl
theorem stars_append : ∀ L M : List HProp, stars (L ++ M) = star (stars L) (stars M)
  | [], M => (emp_star _).symm
  | A :: L, M => by rw [List.cons_append, stars_cons, stars_append L M, stars_cons, star_assoc]
theorem stars_perm {L M : List HProp} (h : L.Perm M) : stars L = stars M := by
  induction h with
  | nil => rfl
  | cons x _ ih => rw [stars_cons, stars_cons, ih]
  | swap x y l => rw [stars_cons, stars_cons, stars_cons, stars_cons, star_left_comm]
  | trans _ _ ih1 ih2 => exact ih1.trans ih2
theorem stars_one (A : HProp) : stars [A] = A := star_emp A

/-- Entailment. -/
def Ent (A B : HProp) : Prop := ∀ h, A h → B h
theorem Ent.refl (A : HProp) : Ent A A := fun _ h => h
theorem Ent.trans {A B C : HProp} (h : Ent A B) (k : Ent B C) : Ent A C := fun x y => k x (h x y)
theorem Ent.star {A B C D : HProp} (h : Ent A C) (k : Ent B D) : Ent (star A B) (star C D) :=
  fun _ ⟨a, b, d, e, ha, hb⟩ => ⟨a, b, d, e, h a ha, k b hb⟩
theorem Ent.of_eq {A B : HProp} (h : A = B) : Ent A B := h ▸ Ent.refl _
theorem Ent.left {A B C : HProp} (h : Ent A B) : Ent (Sl.star A C) (Sl.star B C) := h.star (Ent.refl _)
theorem Ent.right {A B C : HProp} (h : Ent A B) : Ent (Sl.star C A) (Sl.star C B) := (Ent.refl _).star h

theorem pu_star (p : Prop) (A : HProp) (h : Hp) : star (pu p) A h ↔ p ∧ A h := by
  constructor
  · rintro ⟨a, b, d, rfl, ⟨hp, ha⟩, hb⟩
    refine ⟨hp, ?_⟩
    have := emp_star A
    rw [← this]
    exact ⟨a, b, d, rfl, ha, hb⟩
  · rintro ⟨hp, hA⟩
    rw [← emp_star A] at hA
    obtain ⟨a, b, d, e, ha, hb⟩ := hA
    exact ⟨a, b, d, e, ⟨hp, ha⟩, hb⟩
theorem ex_star {α : Type} (A : α → HProp) (B : HProp) : star (ex A) B = ex fun x => star (A x) B := by
  apply HProp.ext; intro h
  constructor
  · rintro ⟨a, b, d, e, ⟨x, ha⟩, hb⟩; exact ⟨x, a, b, d, e, ha, hb⟩
  · rintro ⟨x, a, b, d, e, ha, hb⟩; exact ⟨a, b, d, e, ⟨x, ha⟩, hb⟩

/-- The streams of w are those of w0; no block has gone. -/
structure Anch (w0 w : World) : Prop where
  os : w.os = w0.os
  tape : w.tape = w0.tape
  output : w.output = w0.output
  size : w0.heap.size ≤ w.heap.size
theorem Anch.refl (w : World) : Anch w w := ⟨rfl, rfl, rfl, Nat.le_refl _⟩

/-- w holds all of L (and perhaps more), anchored at w0. -/
def Sat (w0 w : World) (L : List HProp) : Prop := Anch w0 w ∧ ∃ h : Hp, (∀ i o, h i = some o → w.heap[i]? = some o) ∧ stars L h

section
variable {w0 w : World} {A B C D E G : HProp} {L M F R : List HProp}
theorem Sat.anch (h : Sat w0 w L) : Anch w0 w := h.1
theorem Sat.mono (h : Sat w0 w L) (k : Ent (stars L) (stars M)) : Sat w0 w M := ⟨h.1, h.2.imp fun x hx => ⟨hx.1, k x hx.2⟩⟩
theorem Sat.perm (h : Sat w0 w L) (k : L.Perm M) : Sat w0 w M := h.mono (Ent.of_eq (stars_perm k))
theorem Sat.head (h : Sat w0 w (A :: R)) (k : Ent A B) : Sat w0 w (B :: R) := h.mono k.left
/-- One resource is many. -/
theorem Sat.split (h : Sat w0 w (A :: R)) (k : Ent A (stars M)) : Sat w0 w (M ++ R) :=
  h.mono (fun x hx => by rw [stars_append]; exact k.left x hx)
theorem Sat.join (h : Sat w0 w (M ++ R)) (k : Ent (stars M) A) : Sat w0 w (A :: R) :=
  h.mono (fun x hx => by rw [stars_append] at hx; exact k.left x hx)
theorem Sat.drop (h : Sat w0 w (A :: R)) : Sat w0 w R := by
  obtain ⟨ha, x, hx, a, b, d, rfl, pa, pb⟩ := h
  refine ⟨ha, b, fun i o hi => hx i o ?_, pb⟩
  simp only [Hp.join]
  rcases d i with h1 | h1
  · simp [h1, hi]
  · simp [h1] at hi
theorem Sat.pick1 (h : Sat w0 w (A :: B :: R)) : Sat w0 w (B :: A :: R) := h.perm (List.Perm.swap _ _ _)
theorem Sat.pick2 (h : Sat w0 w (A :: B :: C :: R)) : Sat w0 w (C :: A :: B :: R) :=
  h.perm (((List.Perm.swap C B R).cons A).trans (List.Perm.swap C A _))
theorem Sat.pick3 (h : Sat w0 w (A :: B :: C :: D :: R)) : Sat w0 w (D :: A :: B :: C :: R) :=
  h.perm ((((List.Perm.swap D C R).cons B).cons A).trans (((List.Perm.swap D B _).cons A).trans (List.Perm.swap D A _)))
theorem Sat.pick4 (h : Sat w0 w (A :: B :: C :: D :: E :: R)) : Sat w0 w (E :: A :: B :: C :: D :: R) :=
  (h.perm ((((List.Perm.swap E D R).cons C).cons B).cons A)).pick3
theorem Sat.pick5 (h : Sat w0 w (A :: B :: C :: D :: E :: G :: R)) : Sat w0 w (G :: A :: B :: C :: D :: E :: R) :=
  (h.perm (((((List.Perm.swap G E R).cons D).cons C).cons B).cons A)).pick4
/-- Back from the front to a place further on. -/
theorem Sat.put1 (h : Sat w0 w (B :: A :: R)) : Sat w0 w (A :: B :: R) := h.pick1
theorem Sat.put2 (h : Sat w0 w (C :: A :: B :: R)) : Sat w0 w (A :: B :: C :: R) := h.pick2.pick2
theorem Sat.put3 (h : Sat w0 w (D :: A :: B :: C :: R)) : Sat w0 w (A :: B :: C :: D :: R) := h.pick3.pick3.pick3
theorem Sat.pu {p : Prop} : Sat w0 w (Sl.pu p :: R) ↔ p ∧ Sat w0 w R := by
  constructor
  · rintro ⟨ha, x, hx, hA⟩
    rw [stars_cons, pu_star] at hA
    exact ⟨hA.1, ha, x, hx, hA.2⟩
  · rintro ⟨hp, ha, x, hx, hA⟩
    exact ⟨ha, x, hx, (pu_star _ _ _).2 ⟨hp, hA⟩⟩
theorem Sat.ex {α : Type} {A : α → HProp} : Sat w0 w (Sl.ex A :: R) ↔ ∃ x, Sat w0 w (A x :: R) := by
  constructor
  · rintro ⟨ha, x, hx, hA⟩
    rw [stars_cons, ex_star] at hA
    obtain ⟨y, hA⟩ := hA
    exact ⟨y, ha, x, hx, hA⟩
  · rintro ⟨y, ha, x, hx, hA⟩
    refine ⟨ha, x, hx, ?_⟩
    rw [stars_cons, ex_star]
    exact ⟨y, hA⟩
theorem Sat.emp : Sat w0 w (Sl.emp :: R) ↔ Sat w0 w R := by
  unfold Sat; rw [stars_cons, emp_star]
theorem Sat.star : Sat w0 w (Sl.star A B :: R) ↔ Sat w0 w (A :: B :: R) := by
  unfold Sat; rw [stars_cons, stars_cons, stars_cons, star_assoc]

variable {b : Nat} {o : Obj}
theorem Sat.at (h : Sat w0 w (pt b o :: R)) : w.heap[b]? = some o := by
  obtain ⟨_, x, hx, a, c, d, rfl, pa, _⟩ := h
  refine hx b o ?_
  rw [show a = _ from pa]
  simp [Hp.join]
theorem Sat.lt (h : Sat w0 w (pt b o :: R)) : b < w.heap.size := by
  have := h.at
  rw [Array.getElem?_eq_some_iff] at this
  exact this.1
theorem Sat.ne {b' : Nat} {o' : Obj} (h : Sat w0 w (pt b o :: pt b' o' :: R)) : b ≠ b' := by
  obtain ⟨_, x, hx, a, c, d, rfl, pa, a', c', d', rfl, pa', _⟩ := h
  intro e
  subst e
  rcases d b with h1 | h1
  · rw [show a = _ from pa] at h1; simp at h1
  · rw [show a' = _ from pa'] at h1; simp [Hp.join] at h1
/-- Whatever turns block b alone (and makes new ones). -/
theorem Sat.turn {w' : World} {o' : Obj} (h : Sat w0 w (pt b o :: R)) (ho : w'.os = w.os) (ht : w'.tape = w.tape) (hu : w'.output = w.output)
    (hz : w.heap.size ≤ w'.heap.size) (hb : w'.heap[b]? = some o') (hr : ∀ i, i ≠ b → i < w.heap.size → w'.heap[i]? = w.heap[i]?) : Sat w0 w' (pt b o' :: R) := by
  obtain ⟨ha, x, hx, a, c, d, rfl, pa, pr⟩ := h
  rw [show a = _ from pa] at hx d
  refine ⟨⟨ho.trans ha.os, ht.trans ha.tape, hu.trans ha.output, Nat.le_trans ha.size hz⟩, Hp.join (fun i => if i = b then some o' else none) c, ?_, _, c, ?_, rfl, rfl, pr⟩
  · intro i y hy
    by_cases hi : i = b
    · subst hi
      simp [Hp.join] at hy
      subst hy
      exact hb
    · simp [Hp.join, hi] at hy
      have := hx i y (by simp [Hp.join, hi, hy])
      rw [hr i hi, this]
      rw [Array.getElem?_eq_some_iff] at this
      exact this.1
  · intro i
    have := d i
    by_cases hi : i = b <;> simp_all
/-- Whatever turns no old block, and makes one new block b with o. -/
theorem Sat.fresh {w' : World} (h : Sat w0 w R) (ho : w'.os = w.os) (ht : w'.tape = w.tape) (hu : w'.output = w.output)
    (hz : w.heap.size ≤ w'.heap.size) (hbn : w.heap.size ≤ b) (hb : w'.heap[b]? = some o) (hr : ∀ i, i < w.heap.size → w'.heap[i]? = w.heap[i]?) : Sat w0 w' (pt b o :: R) := by
  obtain ⟨ha, x, hx, pr⟩ := h
  have hn : x b = none := by
    cases hh : x b with
    | none => rfl
    | some y =>
      have := hx _ _ hh
      rw [Array.getElem?_eq_some_iff] at this
      have := this.1
      omega
  refine ⟨⟨ho.trans ha.os, ht.trans ha.tape, hu.trans ha.output, Nat.le_trans ha.size hz⟩, Hp.join (fun i => if i = b then some o else none) x, ?_, _, x, ?_, rfl, rfl, pr⟩
  · intro i y hy
    by_cases hi : i = b
    · subst hi
      simp [Hp.join] at hy
      subst hy
      exact hb
    · simp [Hp.join, hi] at hy
      have := hx i y hy
      rw [hr i, this]
      rw [Array.getElem?_eq_some_iff] at this
      exact this.1
  · intro i
    by_cases hi : i = b <;> simp_all
theorem Sat.alloc (h : Sat w0 w R) (o : Obj) : Sat w0 (w.alloc o) (pt w.heap.size o :: R) :=
  h.fresh rfl rfl rfl (by simp) (Nat.le_refl _) (heap_alloc_new w o) (fun i hi => RowKit.Below.heap_alloc w o i hi)
theorem Sat.drew (h : Sat w0 w R) : Sat w0 w.drew R := ⟨⟨h.1.os, h.1.tape, h.1.output, h.1.size⟩, h.2⟩
/-- A world with the same blocks (and perhaps more). -/
theorem Sat.wider {w' : World} (h : Sat w0 w R) (ho : w'.os = w.os) (ht : w'.tape = w.tape) (hu : w'.output = w.output)
    (hz : w.heap.size ≤ w'.heap.size) (hr : ∀ i, i < w.heap.size → w'.heap[i]? = w.heap[i]?) : Sat w0 w' R := by
  obtain ⟨ha, x, hx, pr⟩ := h
  refine ⟨⟨ho.trans ha.os, ht.trans ha.tape, hu.trans ha.output, Nat.le_trans ha.size hz⟩, x, fun i o hi => ?_, pr⟩
  have := hx i o hi
  rw [hr i, this]
  rw [Array.getElem?_eq_some_iff] at this
  exact this.1
theorem Sat.cellAt {cs : Array Value} {T : TypeId} (h : Sat w0 w (pt b (.cells cs T (0,0)) :: R)) (i : Nat) (v : Value) (hv : cs[i]? = some v) : w.cell? ⟨b, i, none⟩ = some v := by
  have := h.at
  simp [World.cell?, this, hv]
theorem Sat.freeAt {cs : Array Value} {T : TypeId} (h : Sat w0 w (pt b (.cells cs T (0,0)) :: R)) (i : Nat) : w.frozen? ⟨b, i, none⟩ = false := by
  have := h.at
  simp [World.frozen?, this]
theorem Sat.set {cs : Array Value} {T : TypeId} (h : Sat w0 w (pt b (.cells cs T (0,0)) :: R)) (i : Nat) (v : Value) : Sat w0 (w.setCell ⟨b, i, none⟩ v) (pt b (.cells (cs.setIfInBounds i v) T (0,0)) :: R) := by
  have hb := h.at
  have hlt := h.lt
  refine h.turn rfl rfl rfl (by simp) ?_ ?_
  · simp only [World.setCell, Array.getElem?_modify, if_true, hb]
    simp
  · intro j hj _
    simp only [World.setCell, Array.getElem?_modify]
    rw [if_neg (Ne.symm hj)]

/-- Some of the first k, in whatever order; and what stands behind the first k. -/
theorem sel_perm (L : List HProp) (k : Nat) (idx : List Nat) (hk : (L.take k).length = k) (hi : (idx.all (fun i => decide (i < k)) && decide idx.Nodup) = true) :
    ∃ rest, L.Perm ((idx.map (fun i => L.getD i Sl.emp) ++ L.drop k) ++ rest) := by
  simp only [Bool.and_eq_true, List.all_eq_true, decide_eq_true_eq] at hi
  obtain ⟨h1, h2⟩ := hi
  have hrk : L.take k = (List.range k).map (fun i => L.getD i Sl.emp) := by
    apply List.ext_getElem?
    intro i
    rw [List.getElem?_take, List.getElem?_map]
    by_cases hik : i < k
    · have : i < L.length := by
        have := List.length_take_le' k L
        rw [hk] at this; omega
      simp [hik, List.getD_eq_getElem?_getD, this]
    · simp [hik]
  have hp : (List.range k).Perm (idx ++ (List.range k).filter fun i => !idx.contains i) := by
    rw [List.perm_ext_iff_of_nodup List.nodup_range]
    · intro a
      simp only [List.mem_range, List.mem_append, List.mem_filter, Bool.not_eq_true', List.contains_eq_mem, decide_eq_false_iff_not]
      constructor
      · intro h; by_cases ha : a ∈ idx
        · exact .inl ha
        · exact .inr ⟨h, ha⟩
      · rintro (h | h)
        · exact h1 a h
        · exact h.1
    · rw [List.nodup_append]
      refine ⟨h2, List.nodup_range.sublist List.filter_sublist, ?_⟩
      intro a ha b hb e
      subst e
      have := (List.mem_filter.1 hb).2
      simp [ha] at this
  refine ⟨((List.range k).filter fun i => !idx.contains i).map (fun i => L.getD i Sl.emp), ?_⟩
  have h3 : L = L.take k ++ L.drop k := (List.take_append_drop k L).symm
  rw [hrk] at h3
  have h4 := (hp.map (fun i => L.getD i Sl.emp)).append_right (L.drop k)
  rw [List.map_append] at h4
  have h5 : L.Perm _ := (List.Perm.of_eq h3).trans h4
  refine h5.trans ?_
  rw [List.append_assoc, List.append_assoc]
  exact List.Perm.append_left _ List.perm_append_comm
theorem Sat.dropR (h : Sat w0 w (L ++ M)) : Sat w0 w L := by
  obtain ⟨ha, x, hx, hs⟩ := h
  rw [stars_append] at hs
  obtain ⟨a, b, d, rfl, pa, pb⟩ := hs
  refine ⟨ha, a, fun i o hi => hx i o ?_, pa⟩
  simp [Hp.join, hi]
theorem Sat.sel (h : Sat w0 w L) (k : Nat) (idx : List Nat) (hk : (L.take k).length = k) (hi : (idx.all (fun i => decide (i < k)) && decide idx.Nodup) = true) :
    Sat w0 w (idx.map (fun i => L.getD i Sl.emp) ++ L.drop k) := by
  obtain ⟨rest, hp⟩ := sel_perm L k idx hk hi
  exact (h.perm hp).dropR

/-- What L makes sure of, in whatever world. -/
def Ro (w0 : World) (L : List HProp) (p : World → Prop) : Prop := ∀ w, Sat w0 w L → p w
theorem Ro.cons {p : World → Prop} (h : Ro w0 L p) : Ro w0 (A :: L) p := fun w hw => h w hw.drop
theorem Ro.pt (R : List HProp) : Ro w0 (pt b o :: R) fun w => w.heap[b]? = some o := fun w hw => hw.at
/-- All of the heap as it was at w0. -/
def old (w0 : World) : HProp := fun h => h = fun i => w0.heap[i]?
theorem Sat.old (h : Sat w0 w (old w0 :: R)) {i : Nat} (hi : i < w0.heap.size) : w.heap[i]? = w0.heap[i]? := by
  obtain ⟨_, x, hx, a, c, d, rfl, pa, _⟩ := h
  have : w0.heap[i]? = some (w0.heap[i]) := by simp [hi]
  rw [this]
  refine hx i _ ?_
  rw [show a = _ from pa]
  simp [Hp.join, hi]
theorem Sat.start (w0 : World) : Sat w0 w0 [Sl.old w0] := by
  refine ⟨Anch.refl _, fun i => w0.heap[i]?, fun i o h => h, ?_⟩
  rw [stars_one]
  exact rfl
theorem Sat.below (h : Sat w0 w (Sl.old w0 :: R)) : RowKit.Below w0.heap.size w0 w :=
  ⟨h.1.os, h.1.tape, h.1.output, h.1.size, fun k hk => h.old hk⟩
end
end Go.Sl
