import Derived.Test.YtdhhbajggafdhaaDoorMedM
/- Plain laws on names. -/
namespace Go.Med
theorem beq_ba (a b : ByteArray) : (a == b) = decide (a = b) := by
  by_cases h : a = b
  · subst h; simp [(MapKept.bytes_beq a a).2 rfl]
  · have : ¬ (a == b) = true := fun e => h ((MapKept.bytes_beq a b).1 e)
    simp [h, Bool.eq_false_iff.2 this]
theorem nget_mem {l : Names} {s : ByteArray} {i : Nat} (h : nget l s = some i) : (s, i) ∈ l := by
  unfold nget at h
  cases hf : l.find? (fun p => p.1 == s) with
  | none => rw [hf] at h; cases h
  | some p =>
    rw [hf] at h
    have h1 := List.find?_some hf
    have h2 := List.mem_of_find?_eq_some hf
    simp [beq_ba] at h1 h
    obtain ⟨a, b⟩ := p
    simp at h1 h; subst h1; subst h; exact h2
theorem nget_none {l : Names} {s : ByteArray} (h : nget l s = none) : ∀ p ∈ l, p.1 ≠ s := by
  intro p hp e
  simp only [nget, Option.map_eq_none_iff, List.find?_eq_none] at h
  exact h p hp (by simp [beq_ba, e])
theorem nget_of_mem {l : Names} (hn : (l.map (·.1)).Nodup) {s : ByteArray} {i : Nat} (h : (s, i) ∈ l) : nget l s = some i := by
  cases hg : nget l s with
  | none => exact absurd rfl (nget_none hg _ h)
  | some j =>
    have hj := nget_mem hg
    induction l with
    | nil => cases h
    | cons p l ih =>
      simp only [List.map_cons, List.nodup_cons] at hn
      rcases List.mem_cons.1 h with h1 | h1 <;> rcases List.mem_cons.1 hj with h2 | h2
      · rw [← h1] at h2; cases h2; rfl
      · exact (hn.1 (List.mem_map.2 ⟨_, h2, by rw [← h1]⟩)).elim
      · exact (hn.1 (List.mem_map.2 ⟨_, h1, by rw [← h2]⟩)).elim
      · refine ih hn.2 h1 ?_ h2
        unfold nget at hg ⊢
        have : (p.1 == s) = false := by
          rw [beq_ba]; simp
          intro e
          exact hn.1 (List.mem_map.2 ⟨_, h1, e.symm⟩)
        rw [List.find?_cons_of_neg (by simp [this])] at hg
        exact hg
theorem ndel_keys (l : Names) (s : ByteArray) : ∀ p ∈ ndel l s, p.1 ≠ s := by
  intro p hp
  have := (List.mem_filter.1 hp).2
  simpa [beq_ba, bne] using this
theorem ndel_perm {l : Names} (hn : (l.map (·.1)).Nodup) {s : ByteArray} {i : Nat} (h : (s, i) ∈ l) : l.Perm ((s, i) :: ndel l s) := by
  induction l with
  | nil => cases h
  | cons p l ih =>
    simp only [List.map_cons, List.nodup_cons] at hn
    rcases List.mem_cons.1 h with h1 | h1
    · subst h1
      have : ndel ((s, i) :: l) s = l := by
        unfold ndel
        rw [List.filter_cons_of_neg (by simp [beq_ba, bne]), List.filter_eq_self]
        intro q hq
        simp only [bne, beq_ba, Bool.not_eq_true', decide_eq_false_iff_not]
        exact fun e => hn.1 (List.mem_map.2 ⟨q, hq, e⟩)
      rw [this]
    · have hps : p.1 ≠ s := fun e => hn.1 (List.mem_map.2 ⟨_, h1, e.symm⟩)
      have : ndel (p :: l) s = p :: ndel l s := by
        unfold ndel
        rw [List.filter_cons_of_pos (by simpa [beq_ba, bne] using hps)]
      rw [this]
      exact ((ih hn.2 h1).cons p).trans (List.Perm.swap _ _ _)
theorem ndel_none {l : Names} {s : ByteArray} (h : nget l s = none) : ndel l s = l := by
  unfold ndel
  rw [List.filter_eq_self]
  intro q hq
  simpa [beq_ba, bne] using nget_none h q hq
theorem nins_perm : ∀ (l : Names) (s : ByteArray) (i : Nat), (nins l s i).Perm ((s, i) :: l)
  | [], _, _ => List.Perm.refl _
  | p :: l, s, i => by
    unfold nins
    split
    · exact List.Perm.refl _
    · exact ((nins_perm l s i).cons p).trans (List.Perm.swap _ _ _)
theorem nput_perm (l : Names) (s : ByteArray) (i : Nat) : (nput l s i).Perm ((s, i) :: ndel l s) := nins_perm _ _ _
end Go.Med
