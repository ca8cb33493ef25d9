import Derived.Test.YtdhhbajggafdhaaMedQ
/- A spoilt byte keeps all lengths. No program in sight. -/
namespace Go.Med
theorem xorAt_len (l : Bs) (i : Nat) (y : UInt8) : (xorAt l i y).length = l.length := by unfold xorAt; simp
/-- Changes that differ in their bytes alone, and there not in length. -/
def Alike (c d : Chg) : Prop := d.cut = c.cut ∧ d.n = c.n ∧ d.b.length = c.b.length
theorem on_len {c d : Chg} (h : Alike c d) {l l' : Bs} (hl : l'.length = l.length) : (d.on l').length = (c.on l).length := by
  obtain ⟨h1, h2, h3⟩ := h
  unfold Chg.on
  rw [h1]
  split
  · simp [h2, hl]
  · simp [h3, hl]
/-- The lengths behind k changes are the same. -/
theorem at_len {f g : Fil} (h0 : g.fast.length = f.fast.length) (hw : g.waits.length = f.waits.length)
    (hc : ∀ (k : Nat) (c d : Chg), f.waits[k]? = some c → g.waits[k]? = some d → Alike c d) : ∀ k, k ≤ f.waits.length → (g.at k).length = (f.at k).length := by
  intro k
  induction k with
  | zero => intro _; exact h0
  | succ k ih =>
    intro hk
    have h1 : f.waits[k]? = some (f.waits[k]'(by omega)) := List.getElem?_eq_getElem _
    have h2 : g.waits[k]? = some (g.waits[k]'(by omega)) := List.getElem?_eq_getElem _
    rw [f.at_succ k _ h1, g.at_succ k _ h2]
    exact on_len (hc k _ _ h1 h2) (ih (by omega))
theorem xorAt_left {l : Bs} {i : Nat} (y : UInt8) (b : Bs) (h : i < l.length) : xorAt (l ++ b) i y = xorAt l i y ++ b := by
  unfold xorAt
  rw [List.set_append_left _ _ h, List.getD_eq_getElem?_getD, List.getElem?_append_left h, List.getD_eq_getElem?_getD]
theorem xorAt_right {l : Bs} {i : Nat} (y : UInt8) (b : Bs) (h : l.length ≤ i) : xorAt (l ++ b) i y = l ++ xorAt b (i - l.length) y := by
  unfold xorAt
  rw [List.set_append_right _ _ h, List.getD_eq_getElem?_getD, List.getElem?_append_right h, List.getD_eq_getElem?_getD]
theorem xorAt_take (l : Bs) (i n : Nat) (y : UInt8) : (xorAt l i y).take n = xorAt (l.take n) i y := by
  unfold xorAt
  rw [List.take_set]
  by_cases h : i < n
  · rw [List.getD_eq_getElem?_getD, List.getD_eq_getElem?_getD, List.getElem?_take_of_lt h]
  · rw [List.set_eq_of_length_le (by simp; omega), List.set_eq_of_length_le (by simp; omega)]
theorem on_xor (c : Chg) (l : Bs) (i : Nat) (y : UInt8) (h : c.cut = true ∨ i < l.length) : c.on (xorAt l i y) = xorAt (c.on l) i y := by
  unfold Chg.on
  cases hc : c.cut
  · simp only [Bool.false_eq_true, if_false]
    rcases h with h | h
    · rw [hc] at h; cases h
    · exact (xorAt_left y c.b h).symm
  · simp only [if_true]; exact xorAt_take l i c.n y
/-- All changes from k on keep the byte where it is. -/
def Past (f : Fil) (i k n : Nat) : Prop := ∀ (j : Nat) (c : Chg), k ≤ j → j < n → f.waits[j]? = some c → c.cut = true ∨ i < (f.at j).length
theorem at_xor {f g : Fil} {i k : Nat} {y : UInt8} (h0 : g.at k = xorAt (f.at k) i y) (hw : ∀ j, k ≤ j → g.waits[j]? = f.waits[j]?) (hp : Past f i k f.waits.length) :
    ∀ j, k ≤ j → j ≤ f.waits.length → g.at j = xorAt (f.at j) i y := by
  intro j hj
  induction hj with
  | refl => intro _; exact h0
  | @step j hk ih =>
    intro hl
    have h1 : f.waits[j]? = some (f.waits[j]'(by omega)) := List.getElem?_eq_getElem _
    have h2 : g.waits[j]? = some (f.waits[j]'(by omega)) := by rw [hw j hk]; exact h1
    rw [f.at_succ j _ h1, g.at_succ j _ h2, ih (by omega)]
    exact on_xor _ _ _ _ (hp j _ hk (by omega) h1)
theorem rotWaits_spec (f : Fil) (i : Nat) (y : UInt8) : ∀ n, n ≤ f.waits.length →
    (rotWaits f i y n = none ∧ Past f i 0 n) ∨
    ∃ (k : Nat) (c : Chg), k < n ∧ f.waits[k]? = some c ∧ c.cut = false ∧ (f.at k).length ≤ i ∧ rotWaits f i y n = some (f.waits.set k { c with b := xorAt c.b (i - (f.at k).length) y }) ∧ Past f i (k + 1) n
  | 0, _ => .inl ⟨rfl, fun j c _ h => by omega⟩
  | n + 1, hn => by
    have h1 : f.waits[n]? = some (f.waits[n]'(by omega)) := List.getElem?_eq_getElem _
    generalize f.waits[n]'(by omega) = c at h1
    have step : (c.cut = true ∨ i < (f.at n).length) → rotWaits f i y (n + 1) = rotWaits f i y n := by
      intro h
      show (match f.waits[n]? with | none => _ | some c => _) = _
      rw [h1]
      simp only
      rcases h with h | h
      · rw [if_pos h]
      · split
        · rfl
        · rw [if_neg (by omega)]
    have past : ∀ k, (c.cut = true ∨ i < (f.at n).length) → Past f i k n → Past f i k (n + 1) := by
      intro k h hp j d hk hj hd
      rcases Nat.lt_or_ge j n with hlt | hge
      · exact hp j d hk hlt hd
      · obtain rfl : j = n := by omega
        rw [h1] at hd; cases hd; exact h
    by_cases h : c.cut = true ∨ i < (f.at n).length
    · rcases rotWaits_spec f i y n (by omega) with ⟨h2, h3⟩ | ⟨k, d, h2, h3, h4, h5, h6, h7⟩
      · exact .inl ⟨(step h).trans h2, past 0 h h3⟩
      · exact .inr ⟨k, d, by omega, h3, h4, h5, (step h).trans h6, past _ h h7⟩
    · have hc : c.cut = false := by cases hcc : c.cut; rfl; exact absurd (.inl hcc) h
      have hl : (f.at n).length ≤ i := Nat.le_of_not_lt fun h' => h (.inr h')
      refine .inr ⟨n, c, by omega, h1, hc, hl, ?_, fun j d hk hj => by omega⟩
      show (match f.waits[n]? with | none => _ | some c => _) = _
      rw [h1]
      simp only [hc, Bool.false_eq_true, if_false]
      rw [if_pos hl]
theorem rot_ok_of {f g : Fil} {K : Nat} (h : f.Ok K) (h0 : g.fast.length = f.fast.length) (hw : g.waits.length = f.waits.length)
    (hc : ∀ (k : Nat) (c d : Chg), f.waits[k]? = some c → g.waits[k]? = some d → Alike c d) (hn : g.now = g.at f.waits.length) : g.Ok K := by
  have hl := at_len h0 hw hc
  refine ⟨by rw [hw]; exact hn, ?_, ?_, by rw [hw]; exact h.budget⟩
  · intro k d hk hd
    have hlt : k < g.waits.length := (List.getElem?_eq_some_iff.1 hk).1
    obtain ⟨c, hcc⟩ : ∃ c, f.waits[k]? = some c := ⟨f.waits[k]'(by omega), List.getElem?_eq_getElem _⟩
    obtain ⟨a1, a2, a3⟩ := hc k c d hcc hk
    rw [hl k (by omega), a2]
    exact h.cuts k c hcc (by rw [← a1]; exact hd)
  · intro k hk
    rw [hl k (by omega)]
    exact h.size k (by omega)
theorem Fil.Ok.rot {f : Fil} {K : Nat} (h : f.Ok K) (i : Nat) (y : UInt8) : (f.rot i y).Ok K ∧ (f.rot i y).now = xorAt f.now i y := by
  rcases rotWaits_spec f i y f.waits.length (Nat.le_refl _) with ⟨h1, h2⟩ | ⟨k, c, hk, hc, hcut, hlen, h1, h2⟩
  · have e : f.rot i y = { f with now := xorAt f.now i y, fast := xorAt f.fast i y } := by unfold Fil.rot; rw [h1]
    rw [e]
    refine ⟨rot_ok_of h (xorAt_len _ _ _) rfl (fun k c d h3 h4 => ?_) ?_, rfl⟩
    · rw [h3] at h4; cases h4; exact ⟨rfl, rfl, rfl⟩
    · have := at_xor (f := f) (g := { f with now := xorAt f.now i y, fast := xorAt f.fast i y }) (i := i) (k := 0) (y := y) rfl (fun j _ => rfl) h2 f.waits.length (Nat.zero_le _) (Nat.le_refl _)
      rw [this, ← h.now]
  · have e : f.rot i y = { f with now := xorAt f.now i y, waits := f.waits.set k { c with b := xorAt c.b (i - (f.at k).length) y } } := by unfold Fil.rot; rw [h1]
    rw [e]
    have hset : (f.waits.set k { c with b := xorAt c.b (i - (f.at k).length) y })[k]? = some { c with b := xorAt c.b (i - (f.at k).length) y } := by rw [List.getElem?_set_self hk]
    refine ⟨rot_ok_of h rfl (by simp) (fun j c' d h3 h4 => ?_) ?_, rfl⟩
    · simp only at h4
      by_cases hj : k = j
      · subst hj
        rw [hset] at h4
        rw [hc] at h3
        cases h3; cases h4
        exact ⟨rfl, rfl, xorAt_len _ _ _⟩
      · rw [List.getElem?_set_ne hj, h3] at h4
        cases h4; exact ⟨rfl, rfl, rfl⟩
    · generalize hg : ({ f with now := xorAt f.now i y, waits := f.waits.set k { c with b := xorAt c.b (i - (f.at k).length) y } } : Fil) = g
      have hgw : g.waits = f.waits.set k { c with b := xorAt c.b (i - (f.at k).length) y } := by rw [← hg]
      have hgf : g.fast = f.fast := by rw [← hg]
      have hgn : g.now = xorAt f.now i y := by rw [← hg]
      have hk0 : g.at k = f.at k := by unfold Fil.at; rw [hgw, hgf, List.take_set_of_le (Nat.le_refl _)]
      have hk1 : g.at (k + 1) = xorAt (f.at (k + 1)) i y := by
        rw [g.at_succ k _ (by rw [hgw]; exact hset), hk0, f.at_succ k c hc]
        unfold Chg.on
        simp only [hcut, Bool.false_eq_true, if_false]
        rw [xorAt_right y c.b hlen]
      have := at_xor hk1 (fun j hj => by rw [hgw, List.getElem?_set_ne (by omega)]) h2 f.waits.length hk (Nat.le_refl _)
      rw [this, hgn, ← h.now]
theorem Med.Ok.rot {M : Med} {K : Nat} (h : M.Ok K) (s : ByteArray) (i : Int) (y : UInt8) : (M.rot s i y).1.Ok (K + 1) := by
  unfold Med.rot
  split
  · exact h.mono (Nat.le_succ _)
  · split
    · exact h.mono (Nat.le_succ _)
    · exact h.setFile _ _ (((h.file _).rot _ _).1.mono (Nat.le_succ _))
end Go.Med
