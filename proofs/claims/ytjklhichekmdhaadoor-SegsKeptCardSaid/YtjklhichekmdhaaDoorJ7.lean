import Derived.Test.YtjklhichekmdhaaDoorJ6
import Derived.Laws.IdiomStrings
import Derived.Lib.BufferRead
set_option linter.unusedVariables false
/- A spoilt byte keeps all lengths. No program in sight. -/
namespace Go.Med
theorem xorAt_len (l : Bs) (i : Nat) (y : UInt8) : (xorAt l i y).length = l.length := by unfold xorAt; simp
/-- Changes that differ in their bytes alone, and there not in length. -/
def Alike (c d : Chg) : Prop := d.cut = c.cut ∧ d.n = c.n ∧ d.b.length = c.b.length
theorem on_len {c d : Chg} (h : Alike c d) {l l' : Bs} (hl : l'.length = l.length) : (d.on l').length = (c.on l).length := by
  obtain ⟨h1, h2, h3⟩ := h
  unfold Chg.on
  rw [h1]
  split
  · simp [h2, hl]
  · simp [h3, hl]
/-- The lengths behind k changes are the same. -/
theorem at_len {f g : Fil} (h0 : g.fast.length = f.fast.length) (hw : g.waits.length = f.waits.length)
    (hc : ∀ (k : Nat) (c d : Chg), f.waits[k]? = some c → g.waits[k]? = some d → Alike c d) : ∀ k, k ≤ f.waits.length → (g.at k).length = (f.at k).length := by
  intro k
  induction k with
  | zero => intro _; exact h0
  | succ k ih =>
    intro hk
    have h1 : f.waits[k]? = some (f.waits[k]'(by omega)) := List.getElem?_eq_getElem _
    have h2 : g.waits[k]? = some (g.waits[k]'(by omega)) := List.getElem?_eq_getElem _
    rw [f.at_succ k _ h1, g.at_succ k _ h2]
    exact on_len (hc k _ _ h1 h2) (ih (by omega))
theorem xorAt_left {l : Bs} {i : Nat} (y : UInt8) (b : Bs) (h : i < l.length) : xorAt (l ++ b) i y = xorAt l i y ++ b := by
  unfold xorAt
  rw [List.set_append_left _ _ h, List.getD_eq_getElem?_getD, List.getElem?_append_left h, List.getD_eq_getElem?_getD]
theorem xorAt_right {l : Bs} {i : Nat} (y : UInt8) (b : Bs) (h : l.length ≤ i) : xorAt (l ++ b) i y = l ++ xorAt b (i - l.length) y := by
  unfold xorAt
  rw [List.set_append_right _ _ h, List.getD_eq_getElem?_getD, List.getElem?_append_right h, List.getD_eq_getElem?_getD]
theorem xorAt_take (l : Bs) (i n : Nat) (y : UInt8) : (xorAt l i y).take n = xorAt (l.take n) i y := by
  unfold xorAt
  rw [List.take_set]
  by_cases h : i < n
  · rw [List.getD_eq_getElem?_getD, List.getD_eq_getElem?_getD, List.getElem?_take_of_lt h]
  · rw [List.set_eq_of_length_le (by simp; omega), List.set_eq_of_length_le (by simp; omega)]
theorem on_xor (c : Chg) (l : Bs) (i : Nat) (y : UInt8) (h : c.cut = true ∨ i < l.length) : c.on (xorAt l i y) = xorAt (c.on l) i y := by
  unfold Chg.on
  cases hc : c.cut
  · simp only [Bool.false_eq_true, if_false]
    rcases h with h | h
    · rw [hc] at h; cases h
    · exact (xorAt_left y c.b h).symm
  · simp only [if_true]; exact xorAt_take l i c.n y
/-- All changes from k on keep the byte where it is. -/
def Past (f : Fil) (i k n : Nat) : Prop := ∀ (j : Nat) (c : Chg), k ≤ j → j < n → f.waits[j]? = some c → c.cut = true ∨ i < (f.at j).length
theorem at_xor {f g : Fil} {i k : Nat} {y : UInt8} (h0 : g.at k = xorAt (f.at k) i y) (hw : ∀ j, k ≤ j → g.waits[j]? = f.waits[j]?) (hp : Past f i k f.waits.length) :
    ∀ j, k ≤ j → j ≤ f.waits.length → g.at j = xorAt (f.at j) i y := by
  intro j hj
  induction hj with
  | refl => intro _; exact h0
  | @step j hk ih =>
    intro hl
    have h1 : f.waits[j]? = some (f.waits[j]'(by omega)) := List.getElem?_eq_getElem _
    have h2 : g.waits[j]? = some (f.waits[j]'(by omega)) := by rw [hw j hk]; exact h1
    rw [f.at_succ j _ h1, g.at_succ j _ h2, ih (by omega)]
    exact on_xor _ _ _ _ (hp j _ hk (by omega) h1)
theorem rotWaits_spec (f : Fil) (i : Nat) (y : UInt8) : ∀ n, n ≤ f.waits.length →
    (rotWaits f i y n = none ∧ Past f i 0 n) ∨
    ∃ (k : Nat) (c : Chg), k < n ∧ f.waits[k]? = some c ∧ c.cut = false ∧ (f.at k).length ≤ i ∧ rotWaits f i y n = some (f.waits.set k { c with b := xorAt c.b (i - (f.at k).length) y }) ∧ Past f i (k + 1) n
  | 0, _ => .inl ⟨rfl, fun j c _ h => by omega⟩
  | n + 1, hn => by
    have h1 : f.waits[n]? = some (f.waits[n]'(by omega)) := List.getElem?_eq_getElem _
    generalize f.waits[n]'(by omega) = c at h1
    have step : (c.cut = true ∨ i < (f.at n).length) → rotWaits f i y (n + 1) = rotWaits f i y n := by
      intro h
      show (match f.waits[n]? with | none => _ | some c => _) = _
      rw [h1]
      simp only
      rcases h with h | h
      · rw [if_pos h]
      · split
        · rfl
        · rw [if_neg (by omega)]
    have past : ∀ k, (c.cut = true ∨ i < (f.at n).length) → Past f i k n → Past f i k (n + 1) := by
      intro k h hp j d hk hj hd
      rcases Nat.lt_or_ge j n with hlt | hge
      · exact hp j d hk hlt hd
      · obtain rfl : j = n := by omega
        rw [h1] at hd; cases hd; exact h
    by_cases h : c.cut = true ∨ i < (f.at n).length
    · rcases rotWaits_spec f i y n (by omega) with ⟨h2, h3⟩ | ⟨k, d, h2, h3, h4, h5, h6, h7⟩
      · exact .inl ⟨(step h).trans h2, past 0 h h3⟩
      · exact .inr ⟨k, d, by omega, h3, h4, h5, (step h).trans h6, past _ h h7⟩
    · have hc : c.cut = false := by cases hcc : c.cut; rfl; exact absurd (.inl hcc) h
      have hl : (f.at n).length ≤ i := Nat.le_of_not_lt fun h' => h (.inr h')
      refine .inr ⟨n, c, by omega, h1, hc, hl, ?_, fun j d hk hj => by omega⟩
      show (match f.waits[n]? with | none => _ | some c => _) = _
      rw [h1]
      simp only [hc, Bool.false_eq_true, if_false]
      rw [if_pos hl]
theorem rot_ok_of {f g : Fil} {K : Nat} (h : f.Ok K) (h0 : g.fast.length = f.fast.length) (hw : g.waits.length = f.waits.length)
    (hc : ∀ (k : Nat) (c d : Chg), f.waits[k]? = some c → g.waits[k]? = some d → Alike c d) (hn : g.now = g.at f.waits.length) : g.Ok K := by
  have hl := at_len h0 hw hc
  refine ⟨by rw [hw]; exact hn, ?_, ?_, by rw [hw]; exact h.budget⟩
  · intro k d hk hd
    have hlt : k < g.waits.length := (List.getElem?_eq_some_iff.1 hk).1
    obtain ⟨c, hcc⟩ : ∃ c, f.waits[k]? = some c := ⟨f.waits[k]'(by omega), List.getElem?_eq_getElem _⟩
    obtain ⟨a1, a2, a3⟩ := hc k c d hcc hk
    rw [hl k (by omega), a2]
    exact h.cuts k c hcc (by rw [← a1]; exact hd)
  · intro k hk
    rw [hl k (by omega)]
    exact h.size k (by omega)
theorem Fil.Ok.rot {f : Fil} {K : Nat} (h : f.Ok K) (i : Nat) (y : UInt8) : (f.rot i y).Ok K ∧ (f.rot i y).now = xorAt f.now i y := by
  rcases rotWaits_spec f i y f.waits.length (Nat.le_refl _) with ⟨h1, h2⟩ | ⟨k, c, hk, hc, hcut, hlen, h1, h2⟩
  · have e : f.rot i y = { f with now := xorAt f.now i y, fast := xorAt f.fast i y } := by unfold Fil.rot; rw [h1]
    rw [e]
    refine ⟨rot_ok_of h (xorAt_len _ _ _) rfl (fun k c d h3 h4 => ?_) ?_, rfl⟩
    · rw [h3] at h4; cases h4; exact ⟨rfl, rfl, rfl⟩
    · have := at_xor (f := f) (g := { f with now := xorAt f.now i y, fast := xorAt f.fast i y }) (i := i) (k := 0) (y := y) rfl (fun j _ => rfl) h2 f.waits.length (Nat.zero_le _) (Nat.le_refl _)
      rw [this, ← h.now]
  · have e : f.rot i y = { f with now := xorAt f.now i y, waits := f.waits.set k { c with b := xorAt c.b (i - (f.at k).length) y } } := by unfold Fil.rot; rw [h1]
    rw [e]
    have hset : (f.waits.set k { c with b := xorAt c.b (i - (f.at k).length) y })[k]? = some { c with b := xorAt c.b (i - (f.at k).length) y } := by rw [List.getElem?_set_self hk]
    refine ⟨rot_ok_of h rfl (by simp) (fun j c' d h3 h4 => ?_) ?_, rfl⟩
    · simp only at h4
      by_cases hj : k = j
      · subst hj
        rw [hset] at h4
        rw [hc] at h3
        cases h3; cases h4
        exact ⟨rfl, rfl, xorAt_len _ _ _⟩
      · rw [List.getElem?_set_ne hj, h3] at h4
        cases h4; exact ⟨rfl, rfl, rfl⟩
    · generalize hg : ({ f with now := xorAt f.now i y, waits := f.waits.set k { c with b := xorAt c.b (i - (f.at k).length) y } } : Fil) = g
      have hgw : g.waits = f.waits.set k { c with b := xorAt c.b (i - (f.at k).length) y } := by rw [← hg]
      have hgf : g.fast = f.fast := by rw [← hg]
      have hgn : g.now = xorAt f.now i y := by rw [← hg]
      have hk0 : g.at k = f.at k := by unfold Fil.at; rw [hgw, hgf, List.take_set_of_le (Nat.le_refl _)]
      have hk1 : g.at (k + 1) = xorAt (f.at (k + 1)) i y := by
        rw [g.at_succ k _ (by rw [hgw]; exact hset), hk0, f.at_succ k c hc]
        unfold Chg.on
        simp only [hcut, Bool.false_eq_true, if_false]
        rw [xorAt_right y c.b hlen]
      have := at_xor hk1 (fun j hj => by rw [hgw, List.getElem?_set_ne (by omega)]) h2 f.waits.length hk (Nat.le_refl _)
      rw [this, hgn, ← h.now]
theorem Med.Ok.rot {M : Med} {K : Nat} (h : M.Ok K) (s : ByteArray) (i : Int) (y : UInt8) : (M.rot s i y).1.Ok (K + 1) := by
  unfold Med.rot
  split
  · exact h.mono (Nat.le_succ _)
  · split
    · exact h.mono (Nat.le_succ _)
    · exact h.setFile _ _ (((h.file _).rot _ _).1.mono (Nat.le_succ _))
end Go.Med
/- A call on a medium, plain; what rows of calls keep. No program in sight. -/
namespace Go.Med
set_option linter.unusedVariables false
structure Cal where
  kind : Int
  name : ByteArray
  to : ByteArray
  n : Int
  m : Int
  b : Bs
  l : List Int
def lowByte (m : Int) : UInt8 := UInt8.ofNat (m % 256).toNat
def Med.does (M : Med) (x : Cal) : Med × (Bs × Int × Bool) :=
  if x.kind = 0 then ((M.create x.name).1, [], (M.create x.name).2, false)
  else if x.kind = 1 then ((M.append x.name x.b).1, [], (M.append x.name x.b).2, false)
  else if x.kind = 2 then ((M.truncate x.name x.n).1, [], (M.truncate x.name x.n).2, false)
  else if x.kind = 3 then ((M.rename x.name x.to).1, [], (M.rename x.name x.to).2, false)
  else if x.kind = 4 then ((M.remove x.name).1, [], (M.remove x.name).2, false)
  else if x.kind = 5 then ((M.sync x.name).1, [], (M.sync x.name).2, false)
  else if x.kind = 6 then (M.syncDir.1, [], M.syncDir.2, false)
  else if x.kind = 7 then ((M.arm x.n).1, [], (M.arm x.n).2, false)
  else if x.kind = 8 then (M.crash x.l, [], 0, false)
  else if x.kind = 9 then ((M.setRoom x.n).1, [], (M.setRoom x.n).2, false)
  else if x.kind = 10 then ((M.rot x.name x.n (lowByte x.m)).1, [], 0, (M.rot x.name x.n (lowByte x.m)).2)
  else (M, (M.read x.name x.n x.m).1, (M.read x.name x.n x.m).2, false)
theorem Med.does_ind {P : Med × Bs × Int × Bool → Prop} {M : Med} {x : Cal}
    (h0 : x.kind = 0 → P ((M.create x.name).1, [], (M.create x.name).2, false))
    (h1 : x.kind = 1 → P ((M.append x.name x.b).1, [], (M.append x.name x.b).2, false))
    (h2 : x.kind = 2 → P ((M.truncate x.name x.n).1, [], (M.truncate x.name x.n).2, false))
    (h3 : x.kind = 3 → P ((M.rename x.name x.to).1, [], (M.rename x.name x.to).2, false))
    (h4 : x.kind = 4 → P ((M.remove x.name).1, [], (M.remove x.name).2, false))
    (h5 : x.kind = 5 → P ((M.sync x.name).1, [], (M.sync x.name).2, false))
    (h6 : x.kind = 6 → P (M.syncDir.1, [], M.syncDir.2, false))
    (h7 : x.kind = 7 → P ((M.arm x.n).1, [], (M.arm x.n).2, false))
    (h8 : x.kind = 8 → P (M.crash x.l, [], 0, false))
    (h9 : x.kind = 9 → P ((M.setRoom x.n).1, [], (M.setRoom x.n).2, false))
    (h10 : x.kind = 10 → P ((M.rot x.name x.n (lowByte x.m)).1, [], 0, (M.rot x.name x.n (lowByte x.m)).2))
    (hz : x.kind ≠ 0 ∧ x.kind ≠ 1 ∧ x.kind ≠ 2 ∧ x.kind ≠ 3 ∧ x.kind ≠ 4 ∧ x.kind ≠ 5 ∧ x.kind ≠ 6 ∧ x.kind ≠ 7 ∧ x.kind ≠ 8 ∧ x.kind ≠ 9 ∧ x.kind ≠ 10 → P (M, (M.read x.name x.n x.m).1, (M.read x.name x.n x.m).2, false)) : P (M.does x) := by
  unfold Med.does
  by_cases c0 : x.kind = 0; · rw [if_pos c0]; exact h0 c0
  rw [if_neg c0]
  by_cases c1 : x.kind = 1; · rw [if_pos c1]; exact h1 c1
  rw [if_neg c1]
  by_cases c2 : x.kind = 2; · rw [if_pos c2]; exact h2 c2
  rw [if_neg c2]
  by_cases c3 : x.kind = 3; · rw [if_pos c3]; exact h3 c3
  rw [if_neg c3]
  by_cases c4 : x.kind = 4; · rw [if_pos c4]; exact h4 c4
  rw [if_neg c4]
  by_cases c5 : x.kind = 5; · rw [if_pos c5]; exact h5 c5
  rw [if_neg c5]
  by_cases c6 : x.kind = 6; · rw [if_pos c6]; exact h6 c6
  rw [if_neg c6]
  by_cases c7 : x.kind = 7; · rw [if_pos c7]; exact h7 c7
  rw [if_neg c7]
  by_cases c8 : x.kind = 8; · rw [if_pos c8]; exact h8 c8
  rw [if_neg c8]
  by_cases c9 : x.kind = 9; · rw [if_pos c9]; exact h9 c9
  rw [if_neg c9]
  by_cases c10 : x.kind = 10; · rw [if_pos c10]; exact h10 c10
  rw [if_neg c10]
  exact hz ⟨c0, c1, c2, c3, c4, c5, c6, c7, c8, c9, c10⟩
theorem Med.Ok.does {K : Nat} {M : Med} (h : M.Ok K) (x : Cal) (hn : x.n ≤ 9223372036854775807) : (M.does x).1.Ok (K + 1) := by
  have h' := h.mono (Nat.le_succ K)
  refine Med.does_ind (P := fun r => r.1.Ok (K + 1)) ?_ ?_ ?_ ?_ ?_ ?_ ?_ ?_ ?_ ?_ ?_ ?_
  · exact fun _ => h.create _
  · exact fun _ => h.append _ _
  · exact fun _ => h.truncate _ _
  · exact fun _ => h.rename _ _
  · exact fun _ => h.remove _
  · exact fun _ => h.sync _
  · exact fun _ => h.syncDir.mono (Nat.le_succ K)
  · exact fun _ => (h.arm _ hn).mono (Nat.le_succ K)
  · exact fun _ => (h.crash _).mono (Nat.le_succ K)
  · exact fun _ => (h.setRoom _).mono (Nat.le_succ K)
  · exact fun _ => h.rot _ _ _
  · exact fun _ => h'
/-- The power is on, and nothing is armed. -/
structure Quiet (M : Med) : Prop where
  armed : M.armed = false
  off : M.off = false
  left : M.left = 0
theorem Quiet.new (r : Nat) : Quiet (new r) := ⟨rfl, rfl, rfl⟩
theorem Quiet.step {M : Med} (h : Quiet M) : M.step = (M, true) := by simp [Med.step, h.armed]
theorem Quiet.link {M : Med} (h : Quiet M) (x : Lnk) : Quiet (M.link x) := ⟨h.armed, h.off, h.left⟩
theorem Quiet.setFile {M : Med} (h : Quiet M) (i : Nat) (f : Fil) : Quiet (M.setFile i f) := ⟨h.armed, h.off, h.left⟩
theorem Quiet.crash (M : Med) (l : List Int) : Quiet (M.crash l) := ⟨rfl, rfl, rfl⟩
theorem Quiet.create {M : Med} (h : Quiet M) (s : ByteArray) : Quiet (M.create s).1 := by
  unfold Med.create
  rw [h.step]
  split; · exact h
  split; · exact h
  split; · exact h
  split; · exact h
  split; · exact h
  exact ⟨h.armed, h.off, h.left⟩
theorem Quiet.append {M : Med} (h : Quiet M) (s : ByteArray) (b : Bs) : Quiet (M.append s b).1 := by
  unfold Med.append
  rw [h.step]
  split; · exact h
  split; · exact h
  split; · exact h
  split; · exact h
  exact h.setFile _ _
theorem Quiet.truncate {M : Med} (h : Quiet M) (s : ByteArray) (n : Int) : Quiet (M.truncate s n).1 := by
  unfold Med.truncate
  rw [h.step]
  split; · exact h
  split; · exact h
  split; · exact h
  split; · exact h
  exact h.setFile _ _
theorem Quiet.rename {M : Med} (h : Quiet M) (s t : ByteArray) : Quiet (M.rename s t).1 := by
  unfold Med.rename
  rw [h.step]
  split; · exact h
  split; · exact h
  split; · exact h
  split; · exact h
  exact h.link _
theorem Quiet.remove {M : Med} (h : Quiet M) (s : ByteArray) : Quiet (M.remove s).1 := by
  unfold Med.remove
  rw [h.step]
  split; · exact h
  split; · exact h
  split; · exact h
  exact h.link _
theorem Quiet.sync {M : Med} (h : Quiet M) (s : ByteArray) : Quiet (M.sync s).1 := by
  unfold Med.sync
  rw [h.step]
  split; · exact h
  split; · exact h
  split; · exact h
  exact h.setFile _ _
theorem Quiet.syncDir {M : Med} (h : Quiet M) : Quiet M.syncDir.1 := by
  unfold Med.syncDir
  rw [h.step]
  split; · exact h
  split; · exact h
  exact ⟨h.armed, h.off, h.left⟩
theorem Quiet.setRoom {M : Med} (h : Quiet M) (n : Int) : Quiet (M.setRoom n).1 := by
  unfold Med.setRoom
  split; · exact h
  split; · exact h
  exact ⟨h.armed, h.off, h.left⟩
theorem Quiet.rot {M : Med} (h : Quiet M) (s : ByteArray) (i : Int) (y : UInt8) : Quiet (M.rot s i y).1 := by
  unfold Med.rot
  split; · exact h
  split; · exact h
  exact h.setFile _ _
theorem Quiet.does {M : Med} (h : Quiet M) (x : Cal) (hk : x.kind ≠ 7) : Quiet (M.does x).1 := by
  refine Med.does_ind (P := fun r => Quiet r.1) ?_ ?_ ?_ ?_ ?_ ?_ ?_ ?_ ?_ ?_ ?_ ?_
  · exact fun _ => h.create _
  · exact fun _ => h.append _ _
  · exact fun _ => h.truncate _ _
  · exact fun _ => h.rename _ _
  · exact fun _ => h.remove _
  · exact fun _ => h.sync _
  · exact fun _ => h.syncDir
  · exact fun h7 => absurd h7 hk
  · exact fun _ => .crash _ _
  · exact fun _ => h.setRoom _
  · exact fun _ => h.rot _ _ _
  · exact fun _ => h
/-- A row of calls but for those that arm. -/
def Med.plays : Med → List Cal → Med
  | M, [] => M
  | M, x :: l => Med.plays (if x.kind = 7 then M else (M.does x).1) l
theorem Med.plays_snoc (M : Med) (l : List Cal) (x : Cal) : M.plays (l ++ [x]) = (if x.kind = 7 then M.plays l else ((M.plays l).does x).1) := by
  induction l generalizing M with
  | nil => rfl
  | cons y l ih => exact ih _
theorem Quiet.plays {M : Med} (h : Quiet M) (l : List Cal) : Quiet (M.plays l) := by
  induction l generalizing M with
  | nil => exact h
  | cons x l ih =>
    refine ih ?_
    split
    · exact h
    · rename_i h7; exact h.does x h7
theorem Med.Ok.plays {K : Nat} {M : Med} (h : M.Ok K) (l : List Cal) (hl : ∀ x ∈ l, x.n ≤ 9223372036854775807) : (M.plays l).Ok (K + l.length) := by
  induction l generalizing M K with
  | nil => exact h
  | cons x l ih =>
    have : (M.plays (x :: l)).Ok (K + 1 + l.length) := by
      refine ih ?_ (fun y hy => hl y (.tail _ hy))
      split
      · exact h.mono (Nat.le_succ K)
      · exact h.does x (hl x (.head _))
    refine this.mono ?_
    simp only [List.length_cons]; omega

/-! ### nothing waits -/
def FFlat (f : Fil) : Prop := f.now = f.fast ∧ f.waits = []
theorem FFlat.crash {f : Fil} (h : FFlat f) (a b : Int) : f.crash a b = f := by
  obtain ⟨fast, now, waits⟩ := f
  obtain ⟨h1, h2⟩ := h
  simp only at h1 h2
  subst h1; subst h2
  simp [Fil.crash, Fil.left, Fil.at]
theorem crashFiles_flat (l : List Int) : ∀ (ns : Names) (j : Nat) (fs : List Fil), (∀ p ∈ ns, p.2 < fs.length ∧ FFlat (fs.getD p.2 Fil.new)) → crashFiles l ns j fs = fs
  | [], _, _, _ => rfl
  | p :: ns, j, fs, h => by
    obtain ⟨h1, h2⟩ := h p (.head _)
    have e : fs.set p.2 ((fs.getD p.2 Fil.new).crash (num l j) (num l (j + 1))) = fs := by
      rw [h2.crash]
      rw [List.getD_eq_getElem?_getD, List.getElem?_eq_getElem h1]
      exact List.set_getElem_self h1
    unfold crashFiles
    rw [e]
    exact crashFiles_flat l ns _ fs fun q hq => h q (.tail _ hq)
structure Flat (M : Med) : Prop where
  quiet : Quiet M
  fast : M.fast = M.now
  waits : M.waits = []
  files : ∀ p ∈ M.now, FFlat (M.file p.2)
theorem Flat.crash {M : Med} {K : Nat} (h : Flat M) (ok : M.Ok K) (l : List Int) : M.crash l = M := by
  obtain ⟨⟨q1, q2, q3⟩, h2, h3, h4⟩ := h
  have hid := ok.nowOk.ids
  obtain ⟨room, fast, now, files, waits, armed, left, off⟩ := M
  simp only at q1 q2 q3 h2 h3
  subst q1; subst q2; subst q3; subst h2; subst h3
  have e := crashFiles_flat l fast 1 files (fun p hp => ⟨hid p hp, h4 p hp⟩)
  simp only [Med.crash, Med.lastNames, List.take_nil, List.foldl_nil, e]
/-- The first n names are synced. -/
def Med.syncs : Med → List ByteArray → Med
  | M, [] => M
  | M, s :: l => Med.syncs (M.sync s).1 l
theorem Med.syncs_snoc (M : Med) (l : List ByteArray) (s : ByteArray) : M.syncs (l ++ [s]) = ((M.syncs l).sync s).1 := by
  induction l generalizing M with
  | nil => rfl
  | cons y l ih => exact ih _
theorem Quiet.sync_eq {M : Med} (h : Quiet M) {s : ByteArray} {i : Nat} (hs : nget M.now s = some i) : M.sync s = (M.setFile i (M.file i).sync, 0) := by
  unfold Med.sync
  rw [h.step, h.off, hs]
  rfl
/-- M' is M, some files of it synced. -/
structure Synced (M M' : Med) : Prop where
  room : M'.room = M.room
  fast : M'.fast = M.fast
  now : M'.now = M.now
  waits : M'.waits = M.waits
  quiet : Quiet M'
  bytes : ∀ i, (M'.file i).now = (M.file i).now
  len : M'.files.length = M.files.length
theorem file_set {M : Med} {i : Nat} {f : Fil} (hi : i < M.files.length) (j : Nat) : (M.setFile i f).file j = if j = i then f else M.file j := by
  unfold Med.setFile Med.file
  simp only [List.getD_eq_getElem?_getD]
  split
  · rename_i h; subst h; rw [List.getElem?_set_self hi]; rfl
  · rename_i h; rw [List.getElem?_set_ne (Ne.symm h)]
theorem Synced.start {M : Med} (h : Quiet M) : Synced M M := ⟨rfl, rfl, rfl, rfl, h, fun _ => rfl, rfl⟩
theorem Synced.next {M M' : Med} (h : Synced M M') {s : ByteArray} {i : Nat} (hs : nget M.now s = some i) (hi : i < M.files.length) (done : List Nat) (hd : ∀ j ∈ done, FFlat (M'.file j)) :
    (M'.sync s).2 = 0 ∧ Synced M (M'.sync s).1 ∧ ∀ j ∈ done ++ [i], FFlat ((M'.sync s).1.file j) := by
  have e := h.quiet.sync_eq (s := s) (i := i) (by rw [h.now]; exact hs)
  have hi' : i < M'.files.length := by rw [h.len]; exact hi
  rw [e]
  refine ⟨rfl, ⟨h.room, h.fast, h.now, h.waits, h.quiet.setFile _ _, fun j => ?_, by simp [Med.setFile, h.len]⟩, fun j hj => ?_⟩
  · simp only
    rw [file_set hi']
    split
    · rename_i hh; subst hh; exact h.bytes j
    · exact h.bytes j
  · simp only
    rw [file_set hi']
    split
    · exact ⟨rfl, rfl⟩
    · rename_i hne
      rcases List.mem_append.1 hj with hj | hj
      · exact hd j hj
      · exact absurd (List.mem_singleton.1 hj) hne
theorem Synced.all {M M' : Med} (hq : Quiet M) (h : Synced M M') (s : ByteArray) : M'.all s = M.all s := by
  unfold Med.all
  rw [h.now, h.quiet.off, hq.off]
  cases hn : nget M.now s with
  | none => rfl
  | some i => simp only [Bool.false_eq_true, if_false, h.bytes]
theorem Quiet.syncDir_eq {M : Med} (h : Quiet M) : M.syncDir = ({ M with fast := M.now, waits := [] }, 0) := by
  unfold Med.syncDir
  rw [h.step, if_neg (by rw [h.off]; exact Bool.false_ne_true)]
  simp
theorem Quiet.list {M : Med} (h : Quiet M) : M.list = M.now.map (·.1) := by unfold Med.list; rw [h.off]; rfl
theorem Synced.flat {M M' : Med} (hq : Quiet M) (h : Synced M M') (hf : ∀ j ∈ M.now.map (·.2), FFlat (M'.file j)) :
    M'.syncDir.2 = 0 ∧ Flat M'.syncDir.1 ∧ M'.syncDir.1.list = M.list ∧ ∀ s, M'.syncDir.1.all s = M.all s := by
  rw [h.quiet.syncDir_eq]
  refine ⟨rfl, ⟨⟨h.quiet.armed, h.quiet.off, h.quiet.left⟩, rfl, rfl, fun p hp => ?_⟩, ?_, fun s => ?_⟩
  · have hp' : p ∈ M.now := by simp only at hp; rw [h.now] at hp; exact hp
    exact hf _ (List.mem_map.2 ⟨p, hp', rfl⟩)
  · rw [hq.list, ← h.now]
    simp only [Med.list, h.quiet.off]
    rfl
  · rw [← h.all hq]
    rfl

/-! ### names of some moment -/
/-- All names that a crash may leave are in a list of moments. -/
def Moms (M : Med) (l : List (List ByteArray)) : Prop := ∀ k, k ≤ M.waits.length → (M.lastNames k).map (·.1) ∈ l
theorem Moms.start {M : Med} {K : Nat} (ok : M.Ok K) (hw : M.waits = []) (hq : Quiet M) : Moms M [M.list] := by
  intro k hk
  rw [hw] at hk
  have hn := ok.now
  rw [hw] at hn
  obtain rfl : k = 0 := by simpa using hk
  rw [hq.list, hn]
  exact .head _
/-- What links did: the same changes, or one more. -/
def Ext (M M' : Med) : Prop := M'.fast = M.fast ∧ (M'.waits = M.waits ∨ ∃ y, M'.waits = M.waits ++ [y])
theorem Ext.same {M M' : Med} (h1 : M'.fast = M.fast) (h2 : M'.waits = M.waits) : Ext M M' := ⟨h1, .inl h2⟩
theorem Moms.next {M M' : Med} {K : Nat} {l : List (List ByteArray)} (h : Moms M l) (e : Ext M M') (ok : M'.Ok K) (hq : Quiet M') : Moms M' (l ++ [M'.list]) := by
  intro k hk
  obtain ⟨e1, e2⟩ := e
  have old : k ≤ M.waits.length → (M'.lastNames k).map (·.1) ∈ l ++ [M'.list] := fun hk' => by
    have : M'.lastNames k = M.lastNames k := by
      unfold Med.lastNames
      rw [e1]
      rcases e2 with e2 | ⟨y, e2⟩
      · rw [e2]
      · rw [e2, List.take_append_of_le_length hk']
    rw [this]
    exact List.mem_append_left _ (h k hk')
  rcases Nat.lt_or_ge M.waits.length k with hgt | hle
  · rcases e2 with e2 | ⟨y, e2⟩
    · rw [e2] at hk; exact old hk
    · have : k = M'.waits.length := by rw [e2] at hk ⊢; simp at hk ⊢; omega
      rw [this, ← ok.now, hq.list]
      exact List.mem_append_right _ (.head _)
  · exact old hle
theorem Ext.does {M : Med} (h : Quiet M) (x : Cal) (h0 : 0 ≤ x.kind) (h5 : x.kind ≤ 5) : Ext M (M.does x).1 := by
  have r : Ext M M := .same rfl rfl
  refine Med.does_ind (P := fun q => Ext M q.1) ?_ ?_ ?_ ?_ ?_ ?_ ?_ ?_ ?_ ?_ ?_ ?_
  · intro _
    show Ext M (M.create x.name).1
    unfold Med.create
    rw [h.step]
    split; · exact r
    split; · exact r
    split; · exact r
    split; · exact r
    exact ⟨rfl, .inr ⟨_, rfl⟩⟩
  · intro _
    show Ext M (M.append x.name x.b).1
    unfold Med.append
    rw [h.step]
    split; · exact r
    split; · exact r
    split; · exact r
    exact .same rfl rfl
  · intro _
    show Ext M (M.truncate x.name x.n).1
    unfold Med.truncate
    rw [h.step]
    split; · exact r
    split; · exact r
    split; · exact r
    exact .same rfl rfl
  · intro _
    show Ext M (M.rename x.name x.to).1
    unfold Med.rename
    rw [h.step]
    split; · exact r
    split; · exact r
    split; · exact r
    exact ⟨rfl, .inr ⟨_, rfl⟩⟩
  · intro _
    show Ext M (M.remove x.name).1
    unfold Med.remove
    rw [h.step]
    split; · exact r
    split; · exact r
    exact ⟨rfl, .inr ⟨_, rfl⟩⟩
  · intro _
    show Ext M (M.sync x.name).1
    unfold Med.sync
    rw [h.step]
    split; · exact r
    split; · exact r
    exact .same rfl rfl
  all_goals (intro hk; exfalso; omega)
theorem Moms.does {M : Med} {K : Nat} {l : List (List ByteArray)} (h : Moms M l) (ok : M.Ok K) (hq : Quiet M) (x : Cal) (hn : x.n ≤ 9223372036854775807) (h0 : 0 ≤ x.kind) (h6 : x.kind ≤ 6) :
    Moms (M.does x).1 ((if x.kind = 6 then [] else l) ++ [(M.does x).1.list]) := by
  have ok' := ok.does x hn
  have hq' := hq.does x (by omega)
  split
  · rename_i h
    have e : (M.does x).1 = M.syncDir.1 := by unfold Med.does; simp [h]
    refine Moms.start ok' ?_ hq'
    rw [e, hq.syncDir_eq]
  · exact h.next (Ext.does hq x h0 (by omega)) ok' hq'
theorem Moms.crash {M : Med} {l : List (List ByteArray)} (h : Moms M l) (n : List Int) : (M.crash n).list ∈ l := h _ (clampN_le _ _)

/-! ### no power -/
theorem dead_does {M : Med} (h : M.off = true) (x : Cal) (h8 : x.kind ≠ 8) (h10 : x.kind ≠ 10) : M.does x = (M, [], 12, false) := by
  refine Med.does_ind (P := fun q => q = (M, [], 12, false)) ?_ ?_ ?_ ?_ ?_ ?_ ?_ ?_ ?_ ?_ ?_ ?_
  · intro _; unfold Med.create; simp only [h, if_true]
  · intro _; unfold Med.append; simp only [h, if_true]
  · intro _; unfold Med.truncate; simp only [h, if_true]
  · intro _; unfold Med.rename; simp only [h, if_true]
  · intro _; unfold Med.remove; simp only [h, if_true]
  · intro _; unfold Med.sync; simp only [h, if_true]
  · intro _; unfold Med.syncDir; simp only [h, if_true]
  · intro _; unfold Med.arm; simp only [h, if_true]
  · exact fun h => absurd h h8
  · intro _; unfold Med.setRoom; simp only [h, if_true]
  · exact fun h => absurd h h10
  · intro _; unfold Med.read; simp only [h, if_true]
theorem dead_list {M : Med} (h : M.off = true) : M.list = [] := by unfold Med.list; rw [h]; rfl
theorem dead_used {M : Med} (h : M.off = true) : M.usedTold = 0 := by unfold Med.usedTold; rw [h]; rfl
theorem Quiet.arm_eq {M : Med} (h : Quiet M) (n : Nat) : M.arm n = ({ M with armed := true, left := n }, 0) := by
  unfold Med.arm
  rw [h.off]
  simp
/-- Armed: n steps more. -/
structure Armed (n : Nat) (M : Med) : Prop where
  armed : M.armed = true
  off : M.off = false
  left : M.left = n
theorem Armed.syncDir {M : Med} {n : Nat} (h : Armed (n + 1) M) : M.syncDir.2 = 0 ∧ Armed n M.syncDir.1 ∧ M.syncDir.1.now = M.now := by
  unfold Med.syncDir Med.step
  simp [h.armed, h.off, h.left]
  exact ⟨rfl, rfl, rfl⟩
theorem Armed.last {M : Med} (h : Armed 0 M) : M.syncDir.2 = 12 ∧ M.syncDir.1.off = true ∧ M.syncDir.1.now = M.now := by
  unfold Med.syncDir Med.step
  simp [h.armed, h.off, h.left]
theorem crash_all {M : Med} {K : Nat} (ok : M.Ok K) (l : List Int) (h : (M.waits.length : Int) ≤ num l 0) : (M.crash l).now = M.now := by
  have e : clampN (num l 0) M.waits.length = M.waits.length := by unfold clampN; omega
  show M.lastNames (clampN (num l 0) M.waits.length) = _
  rw [e, ← ok.now]

/-! ### room -/
/-- No file has two names. -/
def Dst (M : Med) : Prop := (M.now.map (·.2)).Nodup
theorem used_split {M : Med} (hs : Srt M.now) (hd : Dst M) {s : ByteArray} {i : Nat} (h : nget M.now s = some i) :
    (∀ p ∈ ndel M.now s, p.2 ≠ i) ∧ ∀ g : Nat → Nat, (M.now.map fun p => g p.2).sum = g i + ((ndel M.now s).map fun p => g p.2).sum := by
  have hp := ndel_perm hs.keys (nget_mem h)
  constructor
  · have hd' : (M.now.map fun p : ByteArray × Nat => p.2).Nodup := hd
    have := (hp.map (fun p : ByteArray × Nat => p.2)).nodup_iff.1 hd'
    simp only [List.map_cons, List.nodup_cons] at this
    intro p hp e
    exact this.1 (List.mem_map.2 ⟨p, hp, e⟩)
  · intro g
    have := (hp.map fun p => g p.2).sum_nat
    simpa using this
theorem sum_congr {l : Names} {g h : Nat → Nat} (e : ∀ p ∈ l, g p.2 = h p.2) : (l.map fun p => g p.2).sum = (l.map fun p => h p.2).sum := by
  rw [List.map_congr_left e]
theorem used_set {M : Med} {K : Nat} (ok : M.Ok K) (hd : Dst M) {s : ByteArray} {i : Nat} (h : nget M.now s = some i) (f : Fil) :
    (M.setFile i f).used + (M.file i).now.length = M.used + f.now.length := by
  obtain ⟨h1, h2⟩ := used_split ok.nowOk.srt hd h
  have hi : i < M.files.length := ok.nowOk.ids _ (nget_mem h)
  have e1 := h2 fun j => (M.file j).now.length
  have e2 := h2 fun j => ((M.setFile i f).file j).now.length
  have e3 : ((ndel M.now s).map fun p => ((M.setFile i f).file p.2).now.length).sum = ((ndel M.now s).map fun p => (M.file p.2).now.length).sum :=
    sum_congr (g := fun j => ((M.setFile i f).file j).now.length) (h := fun j => (M.file j).now.length) fun p hp => by rw [file_set hi, if_neg (h1 p hp)]
  have e4 : (M.setFile i f).file i = f := by rw [file_set hi, if_pos rfl]
  simp only [e4, e3] at e2
  show (M.now.map fun p => ((M.setFile i f).file p.2).now.length).sum + _ = (M.now.map fun p => (M.file p.2).now.length).sum + _
  rw [e1, e2]
  omega
theorem sum_del_le (l : Names) (s : ByteArray) (g : Nat → Nat) : ((ndel l s).map fun p => g p.2).sum ≤ (l.map fun p => g p.2).sum := by
  induction l with
  | nil => exact Nat.le_refl _
  | cons p l ih =>
    unfold ndel at ih ⊢
    rw [List.filter_cons]
    split
    · simp only [List.map_cons, List.sum_cons]; omega
    · simp only [List.map_cons, List.sum_cons]; omega
theorem sum_put (l : Names) (s : ByteArray) (i : Nat) (g : Nat → Nat) : ((nput l s i).map fun p => g p.2).sum = g i + ((ndel l s).map fun p => g p.2).sum := by
  have := ((nput_perm l s i).map fun p => g p.2).sum_nat
  simpa using this
theorem nodup_put {l : Names} {s : ByteArray} {i : Nat} (h : (l.map (·.2)).Nodup) (hi : ∀ p ∈ l, p.2 ≠ i) : ((nput l s i).map (·.2)).Nodup := by
  refine ((nput_perm l s i).map (·.2)).nodup_iff.2 ?_
  simp only [List.map_cons, List.nodup_cons]
  refine ⟨fun hm => ?_, h.sublist (List.filter_sublist.map _)⟩
  obtain ⟨p, hp, e⟩ := List.mem_map.1 hm
  exact hi p (List.mem_filter.1 hp).1 e
structure Fits (M M' : Med) : Prop where
  room : M'.room = M.room
  dst : Dst M'
  used : M'.used ≤ M'.room
theorem step_alike (M : Med) : M.step.1.room = M.room ∧ M.step.1.now = M.now ∧ M.step.1.files = M.files := ⟨M.step_same.1, M.step_same.2.2.1, M.step_same.2.2.2.1⟩
theorem Fits.self {M : Med} (hd : Dst M) (hu : M.used ≤ M.room) : Fits M M := ⟨rfl, hd, hu⟩
theorem used_of {M M' : Med} (h1 : M'.now = M.now) (h2 : M'.files = M.files) : M'.used = M.used := by unfold Med.used Med.file; rw [h1, h2]
theorem Fits.alike {M M' : Med} (hd : Dst M) (hu : M.used ≤ M.room) (hr : M'.room = M.room) (h1 : M'.now = M.now) (h2 : M'.files = M.files) : Fits M M' :=
  ⟨hr, by unfold Dst; rw [h1]; exact hd, by rw [used_of h1 h2, hr]; exact hu⟩
theorem Fits.set {M M' : Med} {K : Nat} (ok : M.Ok K) (hd : Dst M) (hu : M.used ≤ M.room) (hr : M'.room = M.room) (h1 : M'.now = M.now) (h2 : M'.files = M.files) {s : ByteArray} {i : Nat} (h : nget M.now s = some i) (f : Fil)
    (hf : M.used + f.now.length ≤ M.room + (M.file i).now.length) : Fits M (M'.setFile i f) := by
  have e : (M'.setFile i f).used = (M.setFile i f).used := used_of (by exact h1) (by show M'.files.set i f = M.files.set i f; rw [h2])
  have := used_set ok hd h f
  refine ⟨hr, by show (M'.now.map (·.2)).Nodup; rw [h1]; exact hd, ?_⟩
  rw [e]
  show _ ≤ M'.room
  rw [hr]
  omega
theorem Fits.does {M : Med} {K : Nat} (ok : M.Ok K) (hd : Dst M) (hu : M.used ≤ M.room) (x : Cal) (h8 : x.kind ≠ 8) (h9 : x.kind ≠ 9) :
    Fits M (M.does x).1 ∧ ((M.does x).2.2.1 = 11 → x.kind = 1 ∧ M.room < M.usedTold + x.b.length) := by
  have r := Fits.self hd hu
  obtain ⟨s1, s2, s3⟩ := step_alike M
  have rs : Fits M M.step.1 := Fits.alike hd hu s1 s2 s3
  refine Med.does_ind (P := fun q => Fits M q.1 ∧ (q.2.2.1 = 11 → x.kind = 1 ∧ M.room < M.usedTold + x.b.length)) ?_ ?_ ?_ ?_ ?_ ?_ ?_ ?_ ?_ ?_ ?_ ?_
  · intro _
    show Fits M (M.create x.name).1 ∧ ((M.create x.name).2 = 11 → _)
    unfold Med.create
    split; · exact ⟨r, by simp⟩
    split; · exact ⟨r, by simp⟩
    rename_i hg
    split; · exact ⟨r, by simp⟩
    rename_i hn
    split; · exact ⟨r, by simp⟩
    split; · exact ⟨rs, by simp⟩
    refine ⟨?_, by simp⟩
    have hnn : nget M.now x.name = none := by simpa using hn
    have hlt := ok.nowOk.ids
    have hne : x.name ≠ ByteArray.empty := good_ne (by simpa using hg)
    have enow : (({ M.step.1 with files := M.files ++ [Fil.new] } : Med).link ⟨ByteArray.empty, x.name, M.files.length⟩).now = nput M.now x.name M.files.length := by
      show Lnk.on _ M.step.1.now = _
      rw [s2]
      unfold Lnk.on
      simp only [if_true, if_neg hne]
    have hdel := ndel_none hnn
    refine ⟨s1, ?_, ?_⟩
    · unfold Dst
      rw [enow]
      exact nodup_put hd fun p hp e => by have := hlt p hp; omega
    · have : (({ M.step.1 with files := M.files ++ [Fil.new] } : Med).link ⟨ByteArray.empty, x.name, M.files.length⟩).used = M.used := by
        show ((Med.now _).map fun p => (Med.file _ p.2).now.length).sum = _
        rw [enow, sum_put _ _ _ (fun j => (Med.file _ j).now.length), hdel]
        have e0 : ((({ M.step.1 with files := M.files ++ [Fil.new] } : Med).link ⟨ByteArray.empty, x.name, M.files.length⟩).file M.files.length).now.length = 0 := by
          simp [Med.file, Med.link, Fil.new]
        rw [e0, Nat.zero_add]
        refine sum_congr (g := fun j => (Med.file _ j).now.length) (h := fun j => (M.file j).now.length) fun p hp => ?_
        have := hlt p hp
        simp only [Med.file, Med.link, List.getD_eq_getElem?_getD]
        rw [List.getElem?_append_left this]
      rw [this]
      show _ ≤ M.step.1.room
      rw [s1]; exact hu
  · intro hk1
    show Fits M (M.append x.name x.b).1 ∧ ((M.append x.name x.b).2 = 11 → _)
    unfold Med.append
    split; · exact ⟨r, by simp⟩
    rename_i hoff
    split; · exact ⟨r, by simp⟩
    rename_i i hi
    split
    · rename_i hfull
      refine ⟨r, fun _ => ⟨hk1, ?_⟩⟩
      have : M.usedTold = M.used := by unfold Med.usedTold; rw [if_neg hoff]
      rw [this]; omega
    rename_i hfull
    split; · exact ⟨rs, by simp⟩
    refine ⟨Fits.set ok hd hu s1 s2 s3 hi _ ?_, by simp⟩
    simp only [Fil.do, Chg.on, Bool.false_eq_true, if_false, List.length_append]
    omega
  · intro _
    show Fits M (M.truncate x.name x.n).1 ∧ ((M.truncate x.name x.n).2 = 11 → _)
    unfold Med.truncate
    split; · exact ⟨r, by simp⟩
    split; · exact ⟨r, by simp⟩
    rename_i i hi
    split; · exact ⟨r, by simp⟩
    split; · exact ⟨rs, by simp⟩
    refine ⟨Fits.set ok hd hu s1 s2 s3 hi _ ?_, by simp⟩
    simp only [Fil.do, Chg.on, if_true, List.length_take]
    omega
  · intro _
    show Fits M (M.rename x.name x.to).1 ∧ ((M.rename x.name x.to).2 = 11 → _)
    unfold Med.rename
    split; · exact ⟨r, by simp⟩
    split; · exact ⟨r, by simp⟩
    rename_i i hi
    split; · exact ⟨r, by simp⟩
    rename_i hg
    split; · exact ⟨rs, by simp⟩
    refine ⟨?_, by simp⟩
    have hne : x.to ≠ ByteArray.empty := good_ne (by simpa using hg)
    have hs : x.name ≠ ByteArray.empty := ok.nowOk.ne _ (nget_mem hi)
    obtain ⟨h1, h2⟩ := used_split ok.nowOk.srt hd hi
    have enow : (M.step.1.link ⟨x.name, x.to, i⟩).now = nput (ndel M.now x.name) x.to i := by
      show Lnk.on _ M.step.1.now = _
      rw [s2]
      unfold Lnk.on
      simp only [if_neg hs, if_neg hne]
    refine ⟨s1, ?_, ?_⟩
    · unfold Dst
      rw [enow]
      exact nodup_put (hd.sublist (List.filter_sublist.map _)) h1
    · have e1 := h2 fun j => (M.file j).now.length
      have e2 := sum_del_le (ndel M.now x.name) x.to fun j => (M.file j).now.length
      have : (M.step.1.link ⟨x.name, x.to, i⟩).used = ((nput (ndel M.now x.name) x.to i).map fun p => (M.file p.2).now.length).sum := by
        show ((Med.now _).map fun p => (Med.file _ p.2).now.length).sum = _
        rw [enow]
        unfold Med.file Med.link
        simp only [s3]
      rw [this, sum_put _ _ _ (fun j => (M.file j).now.length)]
      show _ ≤ M.step.1.room
      rw [s1]
      unfold Med.used at hu
      omega
  · intro _
    show Fits M (M.remove x.name).1 ∧ ((M.remove x.name).2 = 11 → _)
    unfold Med.remove
    split; · exact ⟨r, by simp⟩
    split; · exact ⟨r, by simp⟩
    rename_i i hi
    split; · exact ⟨rs, by simp⟩
    refine ⟨?_, by simp⟩
    have hs : x.name ≠ ByteArray.empty := ok.nowOk.ne _ (nget_mem hi)
    have enow : (M.step.1.link ⟨x.name, ByteArray.empty, 0⟩).now = ndel M.now x.name := by
      show Lnk.on ⟨x.name, ByteArray.empty, 0⟩ M.step.1.now = _
      rw [s2]
      unfold Lnk.on
      simp only [if_neg hs, if_true]
    refine ⟨s1, ?_, ?_⟩
    · unfold Dst
      rw [enow]
      exact hd.sublist (List.filter_sublist.map _)
    · have e2 := sum_del_le M.now x.name fun j => (M.file j).now.length
      have : (M.step.1.link ⟨x.name, ByteArray.empty, 0⟩).used = ((ndel M.now x.name).map fun p => (M.file p.2).now.length).sum := by
        show ((Med.now _).map fun p => (Med.file _ p.2).now.length).sum = _
        rw [enow]
        unfold Med.file Med.link
        simp only [s3]
      rw [this]
      show _ ≤ M.step.1.room
      rw [s1]
      unfold Med.used at hu
      omega
  · intro _
    show Fits M (M.sync x.name).1 ∧ ((M.sync x.name).2 = 11 → _)
    unfold Med.sync
    split; · exact ⟨r, by simp⟩
    split; · exact ⟨r, by simp⟩
    rename_i i hi
    split; · exact ⟨rs, by simp⟩
    refine ⟨Fits.set ok hd hu s1 s2 s3 hi _ ?_, by simp⟩
    simp only [Fil.sync]
    omega
  · intro _
    show Fits M M.syncDir.1 ∧ (M.syncDir.2 = 11 → _)
    unfold Med.syncDir
    split; · exact ⟨r, by simp⟩
    split; · exact ⟨rs, by simp⟩
    exact ⟨Fits.alike hd hu s1 s2 s3, by simp⟩
  · intro _
    show Fits M (M.arm x.n).1 ∧ ((M.arm x.n).2 = 11 → _)
    unfold Med.arm
    split; · exact ⟨r, by simp⟩
    split; · exact ⟨r, by simp⟩
    exact ⟨Fits.alike hd hu rfl rfl rfl, by simp⟩
  · exact fun h => absurd h h8
  · exact fun h => absurd h h9
  · intro _
    refine ⟨?_, fun h => by simp at h⟩
    show Fits M (M.rot x.name x.n (lowByte x.m)).1
    unfold Med.rot
    split; · exact r
    rename_i i hi
    split; · exact r
    refine Fits.set ok hd hu rfl rfl rfl hi _ ?_
    rw [((ok.file i).rot _ _).2, xorAt_len]
    omega
  · intro _
    refine ⟨r, fun h => ?_⟩
    exfalso
    have h' : (M.read x.name x.n x.m).2 = 11 := h
    unfold Med.read at h'
    revert h'
    split
    · simp
    split
    · simp
    simp only
    split
    · simp
    split
    · simp
    · simp
end Go.Med
/- bits.Get of four bytes, frame.number, frame.fits. -/
namespace Go.Frm
theorem num_snoc (l : Bs) (c : UInt8) : num (l ++ [c]) = num l + c.toNat * 256 ^ l.length := by
  induction l with
  | nil => show c.toNat + 256 * 0 = 0 + c.toNat * 1; omega
  | cons d l ih =>
    show d.toNat + 256 * num (l ++ [c]) = d.toNat + 256 * num l + c.toNat * 256 ^ (l.length + 1)
    rw [ih, Nat.pow_succ, Nat.mul_add, ← Nat.mul_assoc, Nat.mul_comm 256 (c.toNat), Nat.mul_assoc, Nat.mul_comm 256 (256 ^ l.length), ← Nat.add_assoc]
end Go.Frm
namespace Go.Proofs.YtjklhichekmdhaaDoor
open Go Go.Sl Go.Med Go.MapKept Go.RowKit
set_option linter.unusedVariables false
section
variable {w0 w : World} {F R : List HProp} {v bv dv x lv : Value}
theorem or_num (l : Bs) (c : UInt8) (k : Nat) (hl : l.length = k) (hk : k < 7) : bits .or .u64 ((Frm.num l : Nat) : Int) ((c.toNat : Int) * ((256 ^ k : Nat) : Int)) = ((Frm.num (l ++ [c]) : Nat) : Int) := by
  subst hl
  have h1 := Frm.num_lt l
  have h2 := c.toNat_lt
  have h3 : 256 ^ l.length ≤ 256 ^ 6 := Nat.pow_le_pow_right (by decide) (by omega)
  have h4 : c.toNat * 256 ^ l.length ≤ 255 * 256 ^ 6 := Nat.mul_le_mul (by omega) h3
  have h5 : (256 : Nat) ^ 6 = 281474976710656 := by decide
  have e : (c.toNat : Int) * ((256 ^ l.length : Nat) : Int) = ((c.toNat * 256 ^ l.length : Nat) : Int) := by rw [Int.natCast_mul]
  rw [e, u64_or_nat _ _ (by omega) (by omega), Frm.num_snoc]
  congr 1
  have hp : (256 : Nat) ^ l.length = 2 ^ (8 * l.length) := by rw [Nat.pow_mul]
  rw [hp] at h1 ⊢
  have := Nat.two_pow_add_eq_or_of_lt h1 c.toNat
  rw [Nat.or_comm, Nat.mul_comm c.toNat, ← this, Nat.add_comm]
theorem rdsl_cut4 {k : Nat} {l : Bs} {a : Option Addr} {n c : Nat} (h : rdsl 1 (.slice a n c) (bys l) w) : rdsl 1 (.slice a (min n k) c) (bys (l.take k)) w := by
  obtain ⟨a', n', c', he, hl, hx⟩ := h
  cases he
  rw [bys_len, Nat.mul_one] at hl
  refine ⟨a, _, c, rfl, by rw [bys_len, List.length_take]; omega, fun j y hj => ?_⟩
  have hj' : (bys l)[j]? = some y := by
    unfold bys at hj ⊢
    rw [List.map_take, List.getElem?_take] at hj
    split at hj
    · exact hj
    · cases hj
  exact hx j y hj'
set_option maxRecDepth 20000 in
set_option maxHeartbeats 8000000 in
theorem get4_c (c0 c1 c2 c3 : UInt8) (a : Option Addr) (c : Nat) (h : rdsl 1 (.slice a 4 c) (bys [c0, c1, c2, c3]) w) :
    Calls Tryd.prog 84 #[.slice a 4 c] w (Rtn fun v w' => v = .tuple #[.int .u64 (Frm.num [c0, c1, c2, c3] : Nat), .bool true] ∧ w = w') := by
  obtain ⟨bk, off, rfl, hc⟩ := rdsl_cells h (i := 0) rfl
  have e0 : w.cell? ⟨bk, off, none⟩ = some (.int .u8 c0.toNat) := hc 0 _ rfl
  have e1 : w.cell? ⟨bk, off + 1, none⟩ = some (.int .u8 c1.toNat) := hc 1 _ rfl
  have e2 : w.cell? ⟨bk, off + 2, none⟩ = some (.int .u8 c2.toNat) := hc 2 _ rfl
  have e3 : w.cell? ⟨bk, off + 3, none⟩ = some (.int .u8 c3.toNat) := hc 3 _ rfl
  have b0 := c0.toNat_lt; have b1 := c1.toNat_lt; have b2 := c2.toNat_lt; have b3 := c3.toNat_lt
  clear hc h
  go_enter Tryd.func84, Tryd.ntmps84
  go_wp2_with fail
  go_loopg [17, 4] 4 (fun g iq xq wr => ∃ i : Nat, g = 4 - i ∧ i ≤ 4 ∧ iq = .int .i64 i ∧ xq = .int .u64 (Frm.num ([c0, c1, c2, c3].take i) : Nat) ∧ wr = w)
  case atStart => exact ⟨0, rfl, by omega, rfl, rfl, rfl⟩
  case round =>
    obtain ⟨i, rfl, hi, rfl, rfl, rfl⟩ := hrel
    by_cases h4 : i < 4
    · have h0 : i = 0 ∨ i = 1 ∨ i = 2 ∨ i = 3 := by omega
      clear hi h4
      rcases h0 with rfl | rfl | rfl | rfl
      · have hq : bits .or .u64 ((Frm.num [] : Nat) : Int) (c0.toNat : Int) = ((Frm.num [c0] : Nat) : Int) := by
          have := or_num [] c0 0 rfl (by decide)
          simpa using this
        go_wp2_with fail
        go_roundg (4 - 1)
        case measure => decide
        case rel => exact ⟨1, rfl, by decide, by first | rfl | go_num, rfl, rfl⟩
      · have hq : bits .or .u64 ((Frm.num [c0] : Nat) : Int) ((c1.toNat : Int) * 256) = ((Frm.num [c0, c1] : Nat) : Int) := or_num [c0] c1 1 rfl (by decide)
        go_wp2_with fail
        go_roundg (4 - 2)
        case measure => decide
        case rel => exact ⟨2, rfl, by decide, by first | rfl | go_num, rfl, rfl⟩
      · have hq : bits .or .u64 ((Frm.num [c0, c1] : Nat) : Int) ((c2.toNat : Int) * 65536) = ((Frm.num [c0, c1, c2] : Nat) : Int) := or_num [c0, c1] c2 2 rfl (by decide)
        go_wp2_with fail
        go_roundg (4 - 3)
        case measure => decide
        case rel => exact ⟨3, rfl, by decide, by first | rfl | go_num, rfl, rfl⟩
      · have hq : bits .or .u64 ((Frm.num [c0, c1, c2] : Nat) : Int) ((c3.toNat : Int) * 16777216) = ((Frm.num [c0, c1, c2, c3] : Nat) : Int) := or_num [c0, c1, c2] c3 3 rfl (by decide)
        go_wp2_with fail
        go_roundg (4 - 4)
        case measure => decide
        case rel => exact ⟨4, rfl, by decide, by first | rfl | go_num, rfl, rfl⟩
    · obtain rfl : i = 4 := by omega
      go_wp2
      go_ret2
      exact ⟨_, rfl, rfl, rfl⟩
theorem four {l : Bs} (h : l.length = 4) : ∃ c0 c1 c2 c3, l = [c0, c1, c2, c3] := by
  match l, h with
  | [c0, c1, c2, c3], _ => exact ⟨c0, c1, c2, c3, rfl⟩
theorem get4_l (l : Bs) (hl : l.length = 4) (a : Option Addr) (c : Nat) (h : rdsl 1 (.slice a 4 c) (bys l) w) :
    Calls Tryd.prog 84 #[.slice a 4 c] w (Rtn fun v w' => v = .tuple #[.int .u64 (Frm.num l : Nat), .bool true] ∧ w = w') := by
  obtain ⟨c0, c1, c2, c3, rfl⟩ := four hl
  exact get4_c c0 c1 c2 c3 a c h
set_option maxHeartbeats 2000000 in
theorem number_c (l : Bs) (hl : 4 ≤ l.length) (a : Option Addr) (n c : Nat) (hn : n ≤ c) (hc : c ≤ 9223372036854775807) (h : rdsl 1 (.slice a n c) (bys l) w) :
    Calls Tryd.prog 74 #[.slice a n c] w (Rtn fun v w' => v = .int .u32 (Frm.num (l.take 4) : Nat) ∧ w = w') := by
  have hln : n = l.length := by
    obtain ⟨_, _, _, he, hl', _⟩ := h
    cases he
    rw [bys_len, Nat.mul_one] at hl'; exact hl'.symm
  have h4 := rdsl_cut4 (k := 4) h
  rw [show min n 4 = 4 by omega] at h4
  have hg := get4_l (l.take 4) (by rw [List.length_take]; omega) a c h4
  have hlt := Frm.num_lt (l.take 4)
  rw [List.length_take, Nat.min_eq_left hl] at hlt
  have hb : (Frm.num (l.take 4) : Int) < 4294967296 := by omega
  have hc4 : (4 : Int) ≤ (c : Int) := by omega
  generalize Frm.num (l.take 4) = N at *
  clear hlt hln h4 h hl
  have hw : IntKind.u32.wrap (N : Int) = (N : Int) := by rw [IntKind.wrap_u32]; omega
  go_enter Tryd.func74, Tryd.ntmps74
  go_wp2_with (go_at_call 84; refine hg.mono ?_; rintro e w1 ⟨v, rfl, rfl, rfl⟩)
  go_ret
  exact ⟨_, rfl, rfl, rfl⟩
set_option maxHeartbeats 2000000 in
theorem fits_c (t : UInt8) (n : Nat) (hn : n < 4294967296) (w : World) :
    Calls Tryd.prog 75 #[.int .u8 t.toNat, .int .i64 n] w (Rtn fun v w' => v = .bool (Frm.fits t n) ∧ w = w') := by
  have htl := t.toNat_lt
  by_cases h0 : t = 0
  · subst h0
    by_cases h1 : 41 ≤ n
    · by_cases h2 : n ≤ 16425
      · have Hf := Lib.hid (show Frm.fits 0 n = true by unfold Frm.fits; rw [if_pos rfl]; exact decide_eq_true ⟨h1, h2⟩)
        have c1 : (41 : Int) ≤ (n : Int) := by omega
        have c2 : (n : Int) ≤ 16425 := by omega
        clear h1 h2
        go_enter Tryd.func75, Tryd.ntmps75
        go_wp2
        go_ret
        rw [Hf.out]
        exact ⟨_, rfl, rfl, rfl⟩
      · have Hf := Lib.hid (show Frm.fits 0 n = false by unfold Frm.fits; rw [if_pos rfl]; exact decide_eq_false (by omega))
        have c1 : (41 : Int) ≤ (n : Int) := by omega
        have c2 : decide ((n : Int) ≤ 16425) = false := decide_eq_false (by omega)
        clear h1 h2
        go_enter Tryd.func75, Tryd.ntmps75
        go_wp2
        go_ret
        rw [Hf.out]
        exact ⟨_, rfl, rfl, rfl⟩
    · have Hf := Lib.hid (show Frm.fits 0 n = false by unfold Frm.fits; rw [if_pos rfl]; exact decide_eq_false (by omega))
      have c1 : decide ((41 : Int) ≤ (n : Int)) = false := decide_eq_false (by omega)
      clear h1
      go_enter Tryd.func75, Tryd.ntmps75
      go_wp2
      go_ret
      rw [Hf.out]
      exact ⟨_, rfl, rfl, rfl⟩
  by_cases h1 : t = 1
  · subst h1
    have Hf := Lib.hid (show Frm.fits 1 n = decide (n = 41) by unfold Frm.fits; rw [if_neg (by decide), if_pos rfl])
    have He := Lib.hid (show ((n : Int) == 41) = decide (n = 41) by rw [Bool.eq_iff_iff, beq_iff_eq, decide_eq_true_eq]; omega)
    go_enter Tryd.func75, Tryd.ntmps75
    go_wp2
    go_ret
    rw [Hf.out, ← He.out]
    exact ⟨_, rfl, rfl, rfl⟩
  by_cases h2 : t = 2
  · subst h2
    have Hf := Lib.hid (show Frm.fits 2 n = decide (n = 9) by unfold Frm.fits; rw [if_neg (by decide), if_neg (by decide), if_pos rfl])
    have He := Lib.hid (show ((n : Int) == 9) = decide (n = 9) by rw [Bool.eq_iff_iff, beq_iff_eq, decide_eq_true_eq]; omega)
    go_enter Tryd.func75, Tryd.ntmps75
    go_wp2
    go_ret
    rw [Hf.out, ← He.out]
    exact ⟨_, rfl, rfl, rfl⟩
  · have Hf := Lib.hid (show Frm.fits t n = false by unfold Frm.fits; rw [if_neg h0, if_neg h1, if_neg h2])
    have g0 : ((t.toNat : Int) == 0) = false := by rw [beq_eq_false_iff_ne]; intro h; exact h0 (UInt8.toNat_inj.1 (by rw [show (0 : UInt8).toNat = 0 from rfl]; omega))
    have g1 : ((t.toNat : Int) == 1) = false := by rw [beq_eq_false_iff_ne]; intro h; exact h1 (UInt8.toNat_inj.1 (by rw [show (1 : UInt8).toNat = 1 from rfl]; omega))
    have g2 : ((t.toNat : Int) == 2) = false := by rw [beq_eq_false_iff_ne]; intro h; exact h2 (UInt8.toNat_inj.1 (by rw [show (2 : UInt8).toNat = 2 from rfl]; omega))
    clear h0 h1 h2
    generalize t.toNat = T at *
    go_enter Tryd.func75, Tryd.ntmps75
    go_wp2
    go_ret
    rw [Hf.out]
    exact ⟨_, rfl, rfl, rfl⟩
end
end Go.Proofs.YtjklhichekmdhaaDoor
/- Parts of an entry stored; bytes.Clone; frame.Read. -/
namespace Go.Proofs.YtjklhichekmdhaaDoor
open Go Go.Sl Go.Med Go.MapKept Go.RowKit
set_option linter.unusedVariables false
section
variable {w0 w : World} {L L' R : List HProp} {b : Nat} {ops : Array Oper} {rest : List Oper} {a : Act} {Q : Exit → Act → World → Prop}
variable {dst : Option Tmp} {t T : TypeId} {pos : String} {after : Array Edge} {x y : Operand} {cs : Array Value} {v : Value} {e : Frm.Ent} {da : Option Addr} {dn dc : Nat}
theorem run_buildTag (tag : Int) (w : World) : (Instr.build 27 #[(0, .int .i64 tag)]).run Tryd.prog w = .ok (.agg (entA ⟨tag, Frm.zero32, []⟩ (.slice none 0 0))) w := by
  have hz : (entA Frm.zeroE (.slice none 0 0)).size = 34 := entA_size _ _ rfl
  have h := run_build (P := Tryd.prog) [(0, .int .i64 tag)] plEnt zEnt (by
    intro p hp
    rw [List.mem_singleton] at hp
    subst hp
    have hzz : zeroEntV.cells.size = 34 := hz
    rw [hzz]
    exact ⟨0, rfl, by show 0 + 1 ≤ 34; omega⟩) w
  exact h
theorem wl_buildTag {tag : Int} (hx : a.eval x = .int .i64 tag) (h : wpList Tryd.prog ops Q rest (a.put dst (.agg (entA ⟨tag, Frm.zero32, []⟩ (.slice none 0 0)))) w) : wpList Tryd.prog ops Q (⟨dst, .build 27 #[(0, x)], t, pos, after, none⟩ :: rest) a w :=
  wpList_plain rfl fun _ hK => by
    unfold Oper.wp execOp
    simp only [List.map_toArray, List.map_cons, List.map_nil, hx, Sem.run_bind, run_buildTag, Result.andThen_ok, Sem.run_pure]
    exact hK _ _ h
theorem wl_buildZ (h : wpList Tryd.prog ops Q rest (a.put dst (.agg (entA Frm.zeroE (.slice none 0 0)))) w) : wpList Tryd.prog ops Q (⟨dst, .build 27 #[], t, pos, after, none⟩ :: rest) a w :=
  wpList_plain rfl fun _ hK => by
    unfold Oper.wp execOp
    simp only [List.map_toArray, List.map_nil, Sem.run_bind, run_zeroEnt, Result.andThen_ok, Sem.run_pure]
    exact hK _ _ h
theorem at_buildTag (h : Stop (wpList Tryd.prog ops Q (⟨dst, .build 27 #[(0, x)], t, pos, after, none⟩ :: rest) a w)) : wpList Tryd.prog ops Q (⟨dst, .build 27 #[(0, x)], t, pos, after, none⟩ :: rest) a w := h.out
theorem at_buildZ (h : Stop (wpList Tryd.prog ops Q (⟨dst, .build 27 #[], t, pos, after, none⟩ :: rest) a w)) : wpList Tryd.prog ops Q (⟨dst, .build 27 #[], t, pos, after, none⟩ :: rest) a w := h.out
theorem wl_slice2 {P : Program} {ty : TypeId} {z : Operand} {vx vy vz : Value} (hx : a.eval x = vx) (hy : a.eval y = vy) (hz : a.eval z = vz) (hr : ∀ w, (Instr.sliceAt ty vx (some vy) (some vz) none).run P w = .ok v w)
    (h : wpList P ops Q rest (a.put dst v) w) : wpList P ops Q (⟨dst, .slice ty x (some y) (some z) none, t, pos, after, none⟩ :: rest) a w :=
  wpList_plain rfl fun _ hK => by
    unfold Oper.wp execOp
    simp only [hx, hy, hz, Option.map_some, Option.map_none, Sem.run_bind, hr, Result.andThen_ok, Sem.run_pure]
    exact hK _ _ h
theorem at_slice2 {P : Program} {ty : TypeId} {z : Operand} (h : Stop (wpList P ops Q (⟨dst, .slice ty x (some y) (some z) none, t, pos, after, none⟩ :: rest) a w)) : wpList P ops Q (⟨dst, .slice ty x (some y) (some z) none, t, pos, after, none⟩ :: rest) a w := h.out
theorem run_arrKey (ad : Addr) (c : Nat) (w : World) : (Instr.arrayAt 24 (.slice (some ad) 32 c)).run Tryd.prog w = .ok (.pointer (some ad)) w := by
  simp [Instr.arrayAt, run_underlying (P := Tryd.prog) Tryd.underlying24]
theorem puts_key {e : Frm.Ent} {dv : Value} (hk : e.key.length = 32) (key : Bs) (hk2 : key.length = 32) : putsAt (entA e dv) 1 (bys key) = entA ⟨e.tag, key, e.data⟩ dv := by
  apply putsAt_eq
  have hz := entA_size e dv hk
  have h1 : (bys key).length = 32 := by rw [bys_len, hk2]
  have h2 : (bys e.key).length = 32 := by rw [bys_len, hk]
  rw [putsAt_list _ _ _ (by omega)]
  unfold entA entL
  rw [List.toList_toArray, List.toList_toArray, h1, show 1 + 32 = 32 + 1 by omega, List.drop_succ_cons, List.take_succ_cons, List.take_zero, List.drop_append_of_le_length (by omega), List.drop_of_length_le (by omega)]
  simp
theorem puts_data {e : Frm.Ent} {dv : Value} (hk : e.key.length = 32) (data : Bs) (dv2 : Value) : putsAt (entA e dv) 33 [dv2] = entA ⟨e.tag, e.key, data⟩ dv2 := by
  apply putsAt_eq
  have hz := entA_size e dv hk
  have h2 : (bys e.key).length = 32 := by rw [bys_len, hk]
  rw [putsAt_list _ _ _ (by simp; omega)]
  unfold entA entL
  rw [List.toList_toArray, List.toList_toArray, List.length_singleton, show 33 + 1 = 33 + 1 from rfl, List.drop_succ_cons, List.take_succ_cons, List.take_append_of_le_length (by omega), List.take_of_length_le (by omega), List.drop_of_length_le (by simp; omega)]
  simp
theorem infoKey : (Tryd.prog.info? 24).map (·.size) = some 32 := by kernel_rfl
theorem infoSl : (Tryd.prog.info? 25).map (·.size) = some 1 := by kernel_rfl
/-- The key of an entry is stored. -/
theorem wl_storeK {dv : Value} {key : Bs} (hs : Sat w0 w L) (hx : a.eval x = .pointer (some ⟨b, 1, none⟩)) (hy : a.eval y = .agg (bys key).toArray) (hk : e.key.length = 32) (hk2 : key.length = 32) (u : Upd (pt b (.cells (entA e dv) T (0,0))) (pt b (.cells (entA ⟨e.tag, key, e.data⟩ dv) T (0,0))) L L')
    (hK : ∀ w', Sat w0 w' L' → wpList Tryd.prog ops Q rest (a.put dst undef) w') : wpList Tryd.prog ops Q (⟨dst, .store 24 x y, t, pos, after, none⟩ :: rest) a w := by
  obtain ⟨R', h2, h3⟩ := u
  have hz := entA_size e dv hk
  have hb : (bys key).toArray.size = 32 := by simp [bys, hk2]
  refine wpList_store_sat (w0 := w0) rfl 24 x y rfl 1 (.agg (bys key).toArray) hx hy (show 1 + (bys key).toArray.size ≤ (entA e dv).size by omega) (show _ = some (bys key).toArray.size by rw [hb]; exact infoKey) ?_ (hs.perm h2) fun w' hS => hK w' ?_
  · show (bys key).toArray.all _ = true
    rw [← Array.all_toList]
    exact List.all_eq_true.2 (bys_one _)
  · have he : putsAt (entA e dv) 1 (Value.agg (bys key).toArray).cells.toList = entA ⟨e.tag, key, e.data⟩ dv := puts_key hk key hk2
    rw [he] at hS
    exact hS.perm h3.symm
/-- The data of an entry are stored. -/
theorem wl_storeD {dv : Value} {data : Bs} (hs : Sat w0 w L) (hx : a.eval x = .pointer (some ⟨b, 33, none⟩)) (hy : a.eval y = .slice da dn dc) (hk : e.key.length = 32) (u : Upd (pt b (.cells (entA e dv) T (0,0))) (pt b (.cells (entA ⟨e.tag, e.key, data⟩ (.slice da dn dc)) T (0,0))) L L')
    (hK : ∀ w', Sat w0 w' L' → wpList Tryd.prog ops Q rest (a.put dst undef) w') : wpList Tryd.prog ops Q (⟨dst, .store 25 x y, t, pos, after, none⟩ :: rest) a w := by
  obtain ⟨R', h2, h3⟩ := u
  have hz := entA_size e dv hk
  refine wpList_store_sat (w0 := w0) rfl 25 x y rfl 33 (.slice da dn dc) hx hy (show 33 + 1 ≤ (entA e dv).size by omega) infoSl (by simp [Value.cells, Value.oneCell']) (hs.perm h2) fun w' hS => hK w' ?_
  have he : putsAt (entA e dv) 33 (Value.slice da dn dc).cells.toList = entA ⟨e.tag, e.key, data⟩ (.slice da dn dc) := puts_data hk data _
  rw [he] at hS
  exact hS.perm h3.symm
/-- The results: an entry that lies in a cell, and two values. -/
theorem res_entE3 {fn : Func} {p u q : Tmp} {tmps : Array Value} (hf : fn.results = #[.cell p 27, .tmp u, .tmp q]) (hs : Sat w0 w L) (hp : tmps.getD p undef = .pointer (some ⟨b, 0, none⟩)) (k : Pick (pt b (.cells (entA e (.slice da dn dc)) T (0,0))) L R) (hk : e.key.length = 32) :
    (results fn tmps).run Tryd.prog w = .ok (.tuple #[.agg (entA e (.slice da dn dc)), tmps.getD u undef, tmps.getD q undef]) w := by
  have hl := run_loadVar_row (P := Tryd.prog) w b T 27 (entA e (.slice da dn dc)) (0, 0) _ (hs.pick k).at Tryd.underlying27 (by rfl) (by rw [entA_size e _ hk]; exact infoEntSize)
  have hp' : tmps[p]?.getD undef = .pointer (some ⟨b, 0, none⟩) := by simpa using hp
  simp [results, hf, hp', asAddr, hl, Result.andThen]
end
section
variable {w0 w : World} {F R : List HProp} {v bv dv x lv : Value}
/-- A part of a slice that is read. -/
theorem rdsl_sub {l : Bs} {bk off n c : Nat} (h : rdsl 1 (.slice (some ⟨bk, off, none⟩) n c) (bys l) w) (i j c' : Nat) (hij : i ≤ j) (hj : j ≤ l.length) : rdsl 1 (.slice (some ⟨bk, off + i, none⟩) (j - i) c') (bys ((l.take j).drop i)) w := by
  obtain ⟨a', n', c'', he, hl, hx⟩ := h
  cases he
  refine ⟨_, _, _, rfl, by rw [bys_len, List.length_drop, List.length_take]; omega, fun k y hk => ⟨_, rfl, ?_⟩⟩
  have hk' : (bys l)[i + k]? = some y := by
    unfold bys at hk ⊢
    rw [List.map_drop, List.map_take, List.getElem?_drop, List.getElem?_take] at hk
    split at hk
    · exact hk
    · cases hk
  obtain ⟨b', hb', hc⟩ := hx _ _ hk'
  cases hb'
  rw [Addr.add_mid] at hc ⊢
  rw [Nat.add_assoc]; exact hc
end
end Go.Proofs.YtjklhichekmdhaaDoor
/- frame.Read. -/
namespace Go.Proofs.YtjklhichekmdhaaDoor
open Go Go.Sl Go.Med Go.MapKept Go.RowKit
set_option linter.unusedVariables false
section
variable {w0 w : World} {F R : List HProp} {v bv dv x lv : Value}
set_option maxRecDepth 20000 in
set_option maxHeartbeats 8000000 in
theorem fread_c (l : Bs) (hr : Ro w0 F (rdsl 1 bv (bys l))) (hcap : capOk bv) (hH : Ro w0 F Half) (hl : l.length ≤ 1099511627776) (h : Sat w0 w F) :
    Calls Tryd.prog 54 #[bv] w (Rtn fun v w' => ∃ da dc, v = .tuple #[.agg (entA (Frm.read l).1 (.slice da (Frm.read l).1.data.length dc)), .int .i64 (Frm.read l).2.1, errno (Frm.read l).2.2] ∧ Sat w0 w' (bsl (.slice da (Frm.read l).1.data.length dc) (Frm.read l).1.data :: F)) := by
  obtain ⟨ba, bn, bc, rfl, hbn, hbc⟩ := hcap
  have hln : bn = l.length := by
    obtain ⟨_, _, _, he, hl', _⟩ := hr w h
    cases he
    rw [bys_len, Nat.mul_one] at hl'; exact hl'.symm
  subst hln
  by_cases h9 : l.length < 9
  · have Hf := Lib.hid (show Frm.read l = (Frm.zeroE, 0, 3) by unfold Frm.read; rw [if_pos h9])
    have c1 : (l.length : Int) < 9 := by omega
    clear hr hH h9 hl
    go_enter Tryd.func54, Tryd.ntmps54
    go_wp2_with (first | ((with_reducible apply at_allocE); refine ⟨?_⟩; refine wl_allocE (by assumption) ?_; intro bE wE hE) | ((with_reducible apply at_buildZ); refine ⟨?_⟩; refine wl_buildZ ?_) | ((with_reducible apply at_storeE); refine ⟨?_⟩; first | (refine wl_storeE (by assumption) (by rfl) (by rfl) (by first | rfl | assumption | exact Hid.out (by assumption)) (by first | ((repeat (first | with_reducible apply upd0 | with_reducible apply upd_there)); done) | ((repeat (first | apply upd0 | apply upd_there)); done) | fail) (by first | assumption | exact entA_size _ _ rfl | exact entA_size _ _ (by assumption) | exact entA_size _ _ (Hid.out (by assumption))) ?_; intro wS hS) | (refine wl_storeE (e := Frm.zeroE) (da := none) (dn := 0) (dc := 0) (by assumption) (by rfl) (by rfl) rfl (by first | ((repeat (first | with_reducible apply upd0 | with_reducible apply upd_there)); done) | ((repeat (first | apply upd0 | apply upd_there)); done) | fail) (by first | assumption | exact entA_size _ _ rfl | exact entA_size _ _ (by assumption) | exact entA_size _ _ (Hid.out (by assumption))) ?_; intro wS hS)))
    rw [Hf.out]
    refine ⟨rfl, _, res_entE3 rfl (by assumption) (by rfl) (by first | ((repeat (first | with_reducible apply pick0 | with_reducible apply pick_there)); done) | ((repeat (first | apply pick0 | apply pick_there)); done) | fail) rfl, _, rfl, none, 0, rfl, Sat.osl_nil.2 (Sat.sub hS (by repeat (first | (with_reducible apply sub_refl) | ((with_reducible apply sub_take); (· first | ((repeat (first | with_reducible apply pick0 | with_reducible apply pick_there)); done) | ((repeat (first | apply pick0 | apply pick_there)); done) | fail)) | (with_reducible apply sub_drop))))⟩
  obtain ⟨bk, off, rfl, hcell⟩ : ∃ bk off, ba = some ⟨bk, off, none⟩ ∧ True := by
    have hx : (bys l)[0]? = some (.int .u8 (l[0]'(by omega)).toNat) := by
      unfold bys; rw [List.getElem?_map, List.getElem?_eq_getElem (by omega)]; rfl
    obtain ⟨bk, off, hb, _⟩ := rdsl_cells (hr w h) hx
    exact ⟨bk, off, hb, trivial⟩
  clear hcell
  have hrd := hr w h
  have Hsub := Lib.hid (show ∀ (i j : Nat), i ≤ j → j ≤ l.length → ∀ w, Sat w0 w F → rdsl 1 (.slice (some ⟨bk, off + i, none⟩) (j - i) (bc - i)) (bys ((l.take j).drop i)) w from fun i j h1 h2 w hw => rdsl_sub (hr w hw) i j (bc - i) h1 h2)
  have Hnum := Lib.hid (show ∀ w, Sat w0 w F → Calls Tryd.prog 74 #[.slice (some ⟨bk, off + 4, none⟩) (l.length - 4) (bc - 4)] w (Rtn fun v w' => v = .int .u32 (Frm.num ((l.drop 4).take 4) : Nat) ∧ w = w') from fun w hw => number_c (l.drop 4) (by rw [List.length_drop]; omega) _ (l.length - 4) (bc - 4) (by omega) (by omega) (by
    have := Hsub.out 4 l.length (by omega) (Nat.le_refl _) w hw
    rw [List.take_length] at this
    exact this))
  have Hnum0 := Lib.hid (show ∀ w, Sat w0 w F → Calls Tryd.prog 74 #[.slice (some ⟨bk, off, none⟩) l.length bc] w (Rtn fun v w' => v = .int .u32 (Frm.num (l.take 4) : Nat) ∧ w = w') from fun w hw => number_c l (by omega) _ l.length bc hbn hbc (hr w hw))
  have Hread := Lib.hid (show Frm.read l = if Frm.fits (l.getD 8 0) (Frm.num ((l.drop 4).take 4)) = false then (Frm.zeroE, 0, 4)
    else if l.length < Frm.num ((l.drop 4).take 4) then (Frm.zeroE, 0, 3)
    else if Frm.crc ((l.take (Frm.num ((l.drop 4).take 4))).drop 4) ≠ Frm.num (l.take 4) then (Frm.zeroE, 0, 13)
    else if 41 ≤ Frm.num ((l.drop 4).take 4) then (⟨(l.getD 8 0).toNat, (l.drop 9).take 32, (l.take (Frm.num ((l.drop 4).take 4))).drop 41⟩, Frm.num ((l.drop 4).take 4), 0)
    else (⟨(l.getD 8 0).toNat, Frm.zero32, []⟩, Frm.num ((l.drop 4).take 4), 0) by unfold Frm.read; rw [if_neg h9])
  have hN : Frm.num ((l.drop 4).take 4) < 4294967296 := by
    have := Frm.num_lt ((l.drop 4).take 4)
    rw [List.length_take, List.length_drop] at this
    have h4 : min 4 (l.length - 4) = 4 := by omega
    rw [h4] at this
    omega
  generalize hNN : Frm.num ((l.drop 4).take 4) = N at *
  have hfits := fun w => fits_c (l.getD 8 0) N hN w
  have hfg : Frm.fits (l.getD 8 0) N = true → 9 ≤ N := by
    unfold Frm.fits
    intro hh
    split at hh
    · have := of_decide_eq_true hh; omega
    · split at hh
      · have := of_decide_eq_true hh; omega
      · split at hh
        · have := of_decide_eq_true hh; omega
        · cases hh
  have hc8 : ∀ w, Sat w0 w F → w.cell? ⟨bk, off + 8, none⟩ = some (.int .u8 (l.getD 8 0).toNat) := fun w hw => by
    have hx : (bys l)[8]? = some (.int .u8 (l.getD 8 0).toNat) := by
      unfold bys; rw [List.getElem?_map, List.getD_eq_getElem?_getD, List.getElem?_eq_getElem (by omega)]; rfl
    obtain ⟨bk', off', hb, hc⟩ := rdsl_cells (hr w hw) hx
    cases hb
    exact hc _ _ hx
  have Hc8 := Lib.hid hc8; have Hr := Lib.hid hr; have HH := Lib.hid hH; have Hl := Lib.hid hl; have Hfg := Lib.hid hfg; have Hfits := Lib.hid hfits
  have c1 : ¬ (l.length : Int) < 9 := by omega
  have c2 : ¬ bc = 4 := by omega
  have c3 : (4 : Int) ≤ (l.length : Int) := by omega
  have c4 : (l.length : Int) ≤ (bc : Int) := by omega
  have c5 : (8 : Int) < (l.length : Int) := by omega
  have Hbn := Lib.hid (show l.length ≤ bc ∧ bc ≤ 9223372036854775807 ∧ 9 ≤ l.length ∧ N < 4294967296 from ⟨hbn, hbc, by omega, hN⟩)
  have hcv : IntKind.i64.wrap (N : Int) = (N : Int) := by rw [IntKind.wrap_i64]; omega
  clear hrd hNN hc8 hr hH hl h9 hbn hbc hfg hfits hN
  generalize l.getD 8 0 = tg at *
  have htg := tg.toNat_lt
  have hct : IntKind.i64.wrap (tg.toNat : Int) = (tg.toNat : Int) := by rw [IntKind.wrap_i64]; omega
  have htb : (tg.toNat : Int) < 256 := by omega
  go_enter Tryd.func54, Tryd.ntmps54
  go_wp2_with ((with_reducible apply at_allocE); refine ⟨?_⟩; refine wl_allocE (by assumption) ?_; intro bE wE hE)
  refine (Hnum.out _ hE.drop).mono ?_
  rintro ee w2 ⟨v, rfl, rfl, rfl⟩
  have e8 := Hc8.out _ hE.drop
  go_wp2_with fail
  refine (Hfits.out _).mono ?_
  rintro ee w2 ⟨v, rfl, rfl, rfl⟩
  cases hft : Frm.fits tg N
  · have Hf := Lib.hid (Hread.out.trans (if_pos hft))
    clear hft
    go_wp2_with (first | ((with_reducible apply at_buildZ); refine ⟨?_⟩; refine wl_buildZ ?_) | ((with_reducible apply at_storeE); refine ⟨?_⟩; first | (refine wl_storeE (by assumption) (by rfl) (by rfl) (by first | rfl | assumption | exact Hid.out (by assumption)) (by first | ((repeat (first | with_reducible apply upd0 | with_reducible apply upd_there)); done) | ((repeat (first | apply upd0 | apply upd_there)); done) | fail) (by first | assumption | exact entA_size _ _ rfl | exact entA_size _ _ (by assumption) | exact entA_size _ _ (Hid.out (by assumption))) ?_; intro wS hS) | (refine wl_storeE (e := Frm.zeroE) (da := none) (dn := 0) (dc := 0) (by assumption) (by rfl) (by rfl) rfl (by first | ((repeat (first | with_reducible apply upd0 | with_reducible apply upd_there)); done) | ((repeat (first | apply upd0 | apply upd_there)); done) | fail) (by first | assumption | exact entA_size _ _ rfl | exact entA_size _ _ (by assumption) | exact entA_size _ _ (Hid.out (by assumption))) ?_; intro wS hS)))
    rw [Hf.out]
    refine ⟨rfl, _, res_entE3 rfl (by assumption) (by rfl) (by first | ((repeat (first | with_reducible apply pick0 | with_reducible apply pick_there)); done) | ((repeat (first | apply pick0 | apply pick_there)); done) | fail) rfl, _, rfl, none, 0, rfl, Sat.osl_nil.2 (Sat.sub hS (by repeat (first | (with_reducible apply sub_refl) | ((with_reducible apply sub_take); (· first | ((repeat (first | with_reducible apply pick0 | with_reducible apply pick_there)); done) | ((repeat (first | apply pick0 | apply pick_there)); done) | fail)) | (with_reducible apply sub_drop))))⟩
  have Hf := Lib.hid (Hread.out.trans (if_neg (by rw [hft]; decide)))
  have hN9 := Hfg.out hft
  clear hft
  by_cases hlN : l.length < N
  · have Hf2 := Lib.hid (Hf.out.trans (if_pos hlN))
    have c6 : (l.length : Int) < (N : Int) := by omega
    clear hlN hN9
    go_wp2_with (first | ((with_reducible apply at_buildZ); refine ⟨?_⟩; refine wl_buildZ ?_) | ((with_reducible apply at_storeE); refine ⟨?_⟩; first | (refine wl_storeE (by assumption) (by rfl) (by rfl) (by first | rfl | assumption | exact Hid.out (by assumption)) (by first | ((repeat (first | with_reducible apply upd0 | with_reducible apply upd_there)); done) | ((repeat (first | apply upd0 | apply upd_there)); done) | fail) (by first | assumption | exact entA_size _ _ rfl | exact entA_size _ _ (by assumption) | exact entA_size _ _ (Hid.out (by assumption))) ?_; intro wS hS) | (refine wl_storeE (e := Frm.zeroE) (da := none) (dn := 0) (dc := 0) (by assumption) (by rfl) (by rfl) rfl (by first | ((repeat (first | with_reducible apply upd0 | with_reducible apply upd_there)); done) | ((repeat (first | apply upd0 | apply upd_there)); done) | fail) (by first | assumption | exact entA_size _ _ rfl | exact entA_size _ _ (by assumption) | exact entA_size _ _ (Hid.out (by assumption))) ?_; intro wS hS)))
    rw [Hf2.out]
    refine ⟨rfl, _, res_entE3 rfl (by assumption) (by rfl) (by first | ((repeat (first | with_reducible apply pick0 | with_reducible apply pick_there)); done) | ((repeat (first | apply pick0 | apply pick_there)); done) | fail) rfl, _, rfl, none, 0, rfl, Sat.osl_nil.2 (Sat.sub hS (by repeat (first | (with_reducible apply sub_refl) | ((with_reducible apply sub_take); (· first | ((repeat (first | with_reducible apply pick0 | with_reducible apply pick_there)); done) | ((repeat (first | apply pick0 | apply pick_there)); done) | fail)) | (with_reducible apply sub_drop))))⟩
  have Hf2 := Lib.hid (Hf.out.trans (if_neg hlN))
  clear Hf Hread
  have c6 : ¬ (l.length : Int) < (N : Int) := by omega
  have c7 : (4 : Int) ≤ (N : Int) := by omega
  have c8 : (N : Int) ≤ (bc : Int) := by omega
  have HlN := Lib.hid (show N ≤ l.length ∧ 9 ≤ N by omega)
  clear hlN hN9
  go_wp2_with fail
  refine (crc_c ((l.take N).drop 4) (Ro.of_sub HH.out (by repeat (first | (with_reducible apply sub_refl) | ((with_reducible apply sub_take); (· first | ((repeat (first | with_reducible apply pick0 | with_reducible apply pick_there)); done) | ((repeat (first | apply pick0 | apply pick_there)); done) | fail)) | (with_reducible apply sub_drop)))) (fun w hw => Hsub.out 4 N (by have := HlN.out; omega) HlN.out.1 w (hw.sub (by repeat (first | (with_reducible apply sub_refl) | ((with_reducible apply sub_take); (· first | ((repeat (first | with_reducible apply pick0 | with_reducible apply pick_there)); done) | ((repeat (first | apply pick0 | apply pick_there)); done) | fail)) | (with_reducible apply sub_drop))))) hE (by rw [List.length_drop, List.length_take]; have := Hl.out; omega)).mono ?_
  rintro ee w2 ⟨v, rfl, rfl, rfl⟩
  go_wp2_with fail
  refine (Hnum0.out _ hE.drop).mono ?_
  rintro ee w2 ⟨v, rfl, rfl, rfl⟩
  generalize Frm.crc ((l.take N).drop 4) = A at *
  generalize Frm.num (l.take 4) = B at *
  by_cases hAB : A = B
  rotate_left
  · have Hf3 := Lib.hid (Hf2.out.trans (if_pos hAB))
    have c9 : ((A : Int) == (B : Int)) = false := by rw [beq_eq_false_iff_ne]; omega
    clear hAB
    go_wp2_with (first | ((with_reducible apply at_buildZ); refine ⟨?_⟩; refine wl_buildZ ?_) | ((with_reducible apply at_storeE); refine ⟨?_⟩; first | (refine wl_storeE (by assumption) (by rfl) (by rfl) (by first | rfl | assumption | exact Hid.out (by assumption)) (by first | ((repeat (first | with_reducible apply upd0 | with_reducible apply upd_there)); done) | ((repeat (first | apply upd0 | apply upd_there)); done) | fail) (by first | assumption | exact entA_size _ _ rfl | exact entA_size _ _ (by assumption) | exact entA_size _ _ (Hid.out (by assumption))) ?_; intro wS hS) | (refine wl_storeE (e := Frm.zeroE) (da := none) (dn := 0) (dc := 0) (by assumption) (by rfl) (by rfl) rfl (by first | ((repeat (first | with_reducible apply upd0 | with_reducible apply upd_there)); done) | ((repeat (first | apply upd0 | apply upd_there)); done) | fail) (by first | assumption | exact entA_size _ _ rfl | exact entA_size _ _ (by assumption) | exact entA_size _ _ (Hid.out (by assumption))) ?_; intro wS hS)))
    rw [Hf3.out]
    refine ⟨rfl, _, res_entE3 rfl (by assumption) (by rfl) (by first | ((repeat (first | with_reducible apply pick0 | with_reducible apply pick_there)); done) | ((repeat (first | apply pick0 | apply pick_there)); done) | fail) rfl, _, rfl, none, 0, rfl, Sat.osl_nil.2 (Sat.sub hS (by repeat (first | (with_reducible apply sub_refl) | ((with_reducible apply sub_take); (· first | ((repeat (first | with_reducible apply pick0 | with_reducible apply pick_there)); done) | ((repeat (first | apply pick0 | apply pick_there)); done) | fail)) | (with_reducible apply sub_drop))))⟩
  subst hAB
  have Hf3 := Lib.hid (Hf2.out.trans (if_neg (fun h => h rfl)))
  clear Hf2
  by_cases h41 : 41 ≤ N
  rotate_left
  · have Hf4 := Lib.hid (Hf3.out.trans (if_neg h41))
    have c9 : ¬ (41 : Int) ≤ (N : Int) := by omega
    clear h41
    go_wp2_with (first | ((with_reducible apply at_buildTag); refine ⟨?_⟩; refine wl_buildTag (by rfl) ?_) | ((with_reducible apply at_allocE); refine ⟨?_⟩; refine wl_allocE (by assumption) ?_; intro bE wE hE) | ((with_reducible apply at_storeE); refine ⟨?_⟩; first | (refine wl_storeE (by assumption) (by rfl) (by rfl) (by first | rfl | assumption | exact Hid.out (by assumption)) (by first | ((repeat (first | with_reducible apply upd0 | with_reducible apply upd_there)); done) | ((repeat (first | apply upd0 | apply upd_there)); done) | fail) (by first | assumption | exact entA_size _ _ rfl | exact entA_size _ _ (by assumption) | exact entA_size _ _ (Hid.out (by assumption))) ?_; intro wS hS) | (refine wl_storeE (e := Frm.zeroE) (da := none) (dn := 0) (dc := 0) (by assumption) (by rfl) (by rfl) rfl (by first | ((repeat (first | with_reducible apply upd0 | with_reducible apply upd_there)); done) | ((repeat (first | apply upd0 | apply upd_there)); done) | fail) (by first | assumption | exact entA_size _ _ rfl | exact entA_size _ _ (by assumption) | exact entA_size _ _ (Hid.out (by assumption))) ?_; intro wS hS)) | ((with_reducible apply at_loadE); refine ⟨?_⟩; refine wl_loadE (by assumption) (by rfl) (by first | ((repeat (first | with_reducible apply pick0 | with_reducible apply pick_there)); done) | ((repeat (first | apply pick0 | apply pick_there)); done) | fail) (by first | rfl | assumption | exact Hid.out (by assumption)) ?_))
    rw [Hf4.out]
    simp only [List.length_nil]
    refine ⟨rfl, _, res_entE3 rfl (by assumption) (by rfl) (by first | ((repeat (first | with_reducible apply pick0 | with_reducible apply pick_there)); done) | ((repeat (first | apply pick0 | apply pick_there)); done) | fail) rfl, _, rfl, none, 0, rfl, Sat.osl_nil.2 (Sat.sub hS (by repeat (first | (with_reducible apply sub_refl) | ((with_reducible apply sub_take); (· first | ((repeat (first | with_reducible apply pick0 | with_reducible apply pick_there)); done) | ((repeat (first | apply pick0 | apply pick_there)); done) | fail)) | (with_reducible apply sub_drop))))⟩
  have Hf4 := Lib.hid (Hf3.out.trans (if_pos h41))
  have Hkl := Lib.hid (show ((l.drop 9).take 32).length = 32 by rw [List.length_take, List.length_drop]; have := HlN.out; omega)
  have Hkb := Lib.hid (show (bys ((l.drop 9).take 32)).length = 32 by rw [bys_len]; exact Hkl.out)
  have Hrange := Lib.hid (show ∀ w, Sat w0 w F → w.rangeAt bk (off + 9) (bys ((l.drop 9).take 32)) from fun w hw => by
    intro j y hj
    have hsb := Hsub.out 9 41 (by decide) (by have := HlN.out; omega) w hw
    have e : (l.take 41).drop 9 = (l.drop 9).take 32 := by rw [List.drop_take]
    rw [e] at hsb
    obtain ⟨b', o', hb, hc⟩ := rdsl_cells hsb hj
    cases hb
    exact hc _ _ hj)
  have c9 : (41 : Int) ≤ (N : Int) := by omega
  have c10 : ¬ bc = 9 := by have := HlN.out; have := Hbn.out; omega
  have c11 : (41 : Int) ≤ (bc : Int) := by omega
  obtain ⟨ad, had, hsl⟩ : ∃ ad : Addr, (41 < N → ad = ⟨bk, off + 41, none⟩) ∧ ∀ w, (Instr.sliceAt 25 (.slice (some ⟨bk, off, none⟩) l.length bc) (some (.int .i64 41)) (some (.int .i64 N)) none).run Tryd.prog w = .ok (.slice (some ad) (N - 41) (bc - 41)) w := by
    by_cases hce : bc = 41
    · refine ⟨⟨bk, off, none⟩, fun hh => by have := HlN.out; have := Hbn.out; omega, fun w => ?_⟩
      have c12 : (N : Int) ≤ 41 := by omega
      have c13 : ¬ (41 : Int) < (N : Int) := by omega
      go_simp
    · refine ⟨⟨bk, off + 41, none⟩, fun _ => rfl, fun w => ?_⟩
      go_simp
  have Had := Lib.hid had
  have Hdat := Lib.hid (show ∀ w, Sat w0 w F → rdsl 1 (.slice (some ad) (N - 41) (bc - 41)) (bys ((l.take N).drop 41)) w from fun w hw => by
    by_cases h2 : 41 < N
    · rw [Had.out h2]; exact Hsub.out 41 N (by omega) HlN.out.1 w hw
    · have : (l.take N).drop 41 = [] := List.drop_of_length_le (by rw [List.length_take]; omega)
      rw [this, show N - 41 = 0 by omega]
      exact ⟨_, 0, _, rfl, rfl, by simp [bys]⟩)
  clear h41 had
  have hat := fun w => run_arrKey ⟨bk, off + 9, none⟩ (bc - 9) w
  go_wp2_with (first
    | ((with_reducible apply at_buildTag); refine ⟨?_⟩; refine wl_buildTag (by rfl) ?_) | ((with_reducible apply at_allocE); refine ⟨?_⟩; refine wl_allocE (by assumption) ?_; intro bE wE hE) | ((with_reducible apply at_storeE); refine ⟨?_⟩; first | (refine wl_storeE (by assumption) (by rfl) (by rfl) (by first | rfl | assumption | exact Hid.out (by assumption)) (by first | ((repeat (first | with_reducible apply upd0 | with_reducible apply upd_there)); done) | ((repeat (first | apply upd0 | apply upd_there)); done) | fail) (by first | assumption | exact entA_size _ _ rfl | exact entA_size _ _ (by assumption) | exact entA_size _ _ (Hid.out (by assumption))) ?_; intro wS hS) | (refine wl_storeE (e := Frm.zeroE) (da := none) (dn := 0) (dc := 0) (by assumption) (by rfl) (by rfl) rfl (by first | ((repeat (first | with_reducible apply upd0 | with_reducible apply upd_there)); done) | ((repeat (first | apply upd0 | apply upd_there)); done) | fail) (by first | assumption | exact entA_size _ _ rfl | exact entA_size _ _ (by assumption) | exact entA_size _ _ (Hid.out (by assumption))) ?_; intro wS hS))
    | ((with_reducible apply at_load); refine ⟨?_⟩; refine wpList_load_mid (by rfl) 24 _ (by rfl) bk (off + 9) (by rfl) (bys ((l.drop 9).take 32)) _ (Hrange.out _ (Sat.sub (by assumption) (by repeat (first | (with_reducible apply sub_refl) | ((with_reducible apply sub_take); (· first | ((repeat (first | with_reducible apply pick0 | with_reducible apply pick_there)); done) | ((repeat (first | apply pick0 | apply pick_there)); done) | fail)) | (with_reducible apply sub_drop))))) Tryd.underlying24 rfl (by rw [Hkb.out]; kernel_rfl) ?_)
    | ((with_reducible apply at_store); refine ⟨?_⟩; refine wl_storeK (key := (l.drop 9).take 32) (by assumption) (by rfl) (by rfl) rfl Hkl.out (by first | ((repeat (first | with_reducible apply upd0 | with_reducible apply upd_there)); done) | ((repeat (first | apply upd0 | apply upd_there)); done) | fail) ?_; intro wK hK)
    | ((with_reducible apply at_slice2); refine ⟨?_⟩; refine wl_slice2 (by rfl) (by rfl) (by rfl) hsl ?_))
  refine (clone_c hK (Hdat.out _ (hK.sub (by repeat (first | (with_reducible apply sub_refl) | ((with_reducible apply sub_take); (· first | ((repeat (first | with_reducible apply pick0 | with_reducible apply pick_there)); done) | ((repeat (first | apply pick0 | apply pick_there)); done) | fail)) | (with_reducible apply sub_drop))))) (by rw [List.length_drop, List.length_take]; have := Hl.out; omega)).mono ?_
  rintro ee w3 ⟨v, rfl, hS3, ca, cn, cc, rfl⟩
  have hcn : cn = ((l.take N).drop 41).length := by
    obtain ⟨_, _, _, he, hl', _⟩ := Sat.rd hS3
    cases he
    rw [bys_len, Nat.mul_one] at hl'; exact hl'.symm
  subst hcn
  have Hkl2 := Hkl.out
  generalize (l.drop 9).take 32 = key at *
  generalize (l.take N).drop 41 = data at *
  go_wp2_with (first
    | ((with_reducible apply at_store); refine ⟨?_⟩; refine wl_storeD (e := ⟨(tg.toNat : Int), key, []⟩) (data := data) (by assumption) (by rfl) (by rfl) Hkl2 (by first | ((repeat (first | with_reducible apply upd0 | with_reducible apply upd_there)); done) | ((repeat (first | apply upd0 | apply upd_there)); done) | fail) ?_; intro wD hD)
    | ((with_reducible apply at_loadE); refine ⟨?_⟩; refine wl_loadE (by assumption) (by rfl) (by first | ((repeat (first | with_reducible apply pick0 | with_reducible apply pick_there)); done) | ((repeat (first | apply pick0 | apply pick_there)); done) | fail) (by first | rfl | assumption | exact Hid.out (by assumption)) ?_) | ((with_reducible apply at_storeE); refine ⟨?_⟩; first | (refine wl_storeE (by assumption) (by rfl) (by rfl) (by first | rfl | assumption | exact Hid.out (by assumption)) (by first | ((repeat (first | with_reducible apply upd0 | with_reducible apply upd_there)); done) | ((repeat (first | apply upd0 | apply upd_there)); done) | fail) (by first | assumption | exact entA_size _ _ rfl | exact entA_size _ _ (by assumption) | exact entA_size _ _ (Hid.out (by assumption))) ?_; intro wS hS) | (refine wl_storeE (e := Frm.zeroE) (da := none) (dn := 0) (dc := 0) (by assumption) (by rfl) (by rfl) rfl (by first | ((repeat (first | with_reducible apply upd0 | with_reducible apply upd_there)); done) | ((repeat (first | apply upd0 | apply upd_there)); done) | fail) (by first | assumption | exact entA_size _ _ rfl | exact entA_size _ _ (by assumption) | exact entA_size _ _ (Hid.out (by assumption))) ?_; intro wS hS)))
  rw [Hf4.out]
  simp only
  refine ⟨rfl, _, res_entE3 rfl (by assumption) (by rfl) (by first | ((repeat (first | with_reducible apply pick0 | with_reducible apply pick_there)); done) | ((repeat (first | apply pick0 | apply pick_there)); done) | fail) Hkl2, _, rfl, ca, cc, rfl, Sat.sub hS (by repeat (first | (with_reducible apply sub_refl) | ((with_reducible apply sub_take); (· first | ((repeat (first | with_reducible apply pick0 | with_reducible apply pick_there)); done) | ((repeat (first | apply pick0 | apply pick_there)); done) | fail)) | (with_reducible apply sub_drop)))⟩
end
end Go.Proofs.YtjklhichekmdhaaDoor
/- Read of any log. -/
namespace Go.Seg
open Go.Med
def Log.read (L : Log) (M : Med) (q : Plc) : Frm.Ent × Int :=
  match L.at q.seg with
  | none => (Frm.zeroE, 9)
  | some _ =>
    if (M.read (name q.seg) q.at_ q.size).2 ≠ 0 then (Frm.zeroE, (M.read (name q.seg) q.at_ q.size).2)
    else if (Frm.read (M.read (name q.seg) q.at_ q.size).1).2.2 ≠ 0 then (Frm.zeroE, (Frm.read (M.read (name q.seg) q.at_ q.size).1).2.2)
    else if (Frm.read (M.read (name q.seg) q.at_ q.size).1).2.1 ≠ (M.read (name q.seg) q.at_ q.size).1.length then (Frm.zeroE, 4)
    else ((Frm.read (M.read (name q.seg) q.at_ q.size).1).1, 0)
theorem read_key (l : Bs) : (Frm.read l).1.key.length = 32 := by
  unfold Frm.read
  dsimp only
  split; · rfl
  split; · rfl
  split; · rfl
  split; · rfl
  split
  · rename_i h1 h2 h3 h4 h5
    simp only [List.length_take, List.length_drop]
    simp only [Nat.not_lt] at h3
    omega
  · rfl
theorem read_len {K : Nat} {M : Med} (h : M.Ok K) (s : ByteArray) (a n : Int) : (M.read s a n).1.length ≤ 16777216 := by
  unfold Med.read
  dsimp only
  split; · simp
  split; · simp
  rename_i i _
  have := (h.file i).now_len
  split; · simp
  split; · simp
  simp only [List.length_take, List.length_drop]
  omega
end Go.Seg
namespace Go.Proofs.YtjklhichekmdhaaDoor
open Go Go.Sl Go.Med Go.MapKept Go.RowKit
set_option linter.unusedVariables false
section
variable {w0 w : World} {F R : List HProp} {v bv dv x lv : Value} {q p m K : Nat} {L : Seg.Log} {M : Med} {s : Int × Int}
set_option maxRecDepth 20000 in
set_option maxHeartbeats 16000000 in
theorem lread_c (hH : Ro w0 F Half) (hL : L.Ok) (hM : M.Ok K) (pl : Seg.Plc) (h1 : -9223372036854775808 ≤ pl.at_ ∧ pl.at_ ≤ 9223372036854775807) (h2 : -9223372036854775808 ≤ pl.size ∧ pl.size ≤ 9223372036854775807) (h : Sat w0 w (LogRep p m L :: MedRep m M :: F)) :
    Calls Tryd.prog 25 #[ptr p, plcA pl] w (Rtn fun v w' => ∃ da dc, v = .tuple #[.agg (entA (L.read M pl).1 (.slice da (L.read M pl).1.data.length dc)), errno (L.read M pl).2] ∧
      Sat w0 w' (bsl (.slice da (L.read M pl).1.data.length dc) (L.read M pl).1.data :: LogRep p m L :: MedRep m M :: F)) := by
  have HH := Lib.hid hH
  rcases find_neg (L := L) pl.seg with ⟨ha, hb⟩ | ⟨i, ha, hb⟩
  · have Hf := Lib.hid (show L.read M pl = (Frm.zeroE, 9) by unfold Seg.Log.read; rw [ha])
    have Hb := Lib.hid hb
    clear ha hb hH
    go_enter Tryd.func25, Tryd.ntmps25
    go_wp2_with (first | ((with_reducible apply at_box); refine ⟨?_⟩; refine wl_box (by assumption) (by conv => lhs; whnf) (by conv => lhs; whnf) ?_; intro bB wB hB) | ((with_reducible apply at_allocE); refine ⟨?_⟩; refine wl_allocE (by assumption) ?_; intro bE wE hE))
    obtain ⟨lv, hR⟩ := LogRep.open2 (hE.pick (A := LogRep p m L) (by first | ((repeat (first | with_reducible apply pick0 | with_reducible apply pick_there)); done) | ((repeat (first | apply pick0 | apply pick_there)); done) | fail))
    refine (ok_c hR).mono ?_
    rintro e w2 ⟨v, rfl, rfl, rfl⟩
    clear hR lv
    have hf := lfind_c hL pl.seg (hE.pick (A := LogRep p m L) (by first | ((repeat (first | with_reducible apply pick0 | with_reducible apply pick_there)); done) | ((repeat (first | apply pick0 | apply pick_there)); done) | fail))
    rw [Hb.out] at hf
    go_wp2_with ((with_reducible apply at_load); refine ⟨?_⟩; refine wl_load1 (by assumption) (by rfl) (by first | ((repeat (first | with_reducible apply pick0 | with_reducible apply pick_there)); done) | ((repeat (first | apply pick0 | apply pick_there)); done) | fail) (Nat.le_of_ble_eq_true (by rfl)) (by conv => lhs; whnf) (by kernel_rfl) ?_)
    refine hf.mono ?_
    rintro e w3 ⟨v, rfl, rfl, hS3⟩
    clear hf hE
    go_wp2_with (first | ((with_reducible apply at_buildZ); refine ⟨?_⟩; refine wl_buildZ ?_) | ((with_reducible apply at_storeE); refine ⟨?_⟩; first | (refine wl_storeE (by assumption) (by rfl) (by rfl) (by first | rfl | assumption | exact Hid.out (by assumption)) (by first | ((repeat (first | with_reducible apply upd0 | with_reducible apply upd_there)); done) | ((repeat (first | apply upd0 | apply upd_there)); done) | fail) (by first | assumption | exact entA_size _ _ rfl | exact entA_size _ _ (by assumption) | exact entA_size _ _ (Hid.out (by assumption))) ?_; intro wS hS) | (refine wl_storeE (e := Frm.zeroE) (da := none) (dn := 0) (dc := 0) (by assumption) (by rfl) (by rfl) rfl (by first | ((repeat (first | with_reducible apply upd0 | with_reducible apply upd_there)); done) | ((repeat (first | apply upd0 | apply upd_there)); done) | fail) (by first | assumption | exact entA_size _ _ rfl | exact entA_size _ _ (by assumption) | exact entA_size _ _ (Hid.out (by assumption))) ?_; intro wS hS)))
    rw [Hf.out]
    exact ⟨rfl, _, res_entE rfl (by assumption) (by rfl) (by first | ((repeat (first | with_reducible apply pick0 | with_reducible apply pick_there)); done) | ((repeat (first | apply pick0 | apply pick_there)); done) | fail) rfl, _, rfl, none, 0, rfl, Sat.osl_nil.2 (Sat.sub hS (by repeat (first | (with_reducible apply sub_refl) | ((with_reducible apply sub_take); (· first | ((repeat (first | with_reducible apply pick0 | with_reducible apply pick_there)); done) | ((repeat (first | apply pick0 | apply pick_there)); done) | fail)) | (with_reducible apply sub_drop))))⟩
  · have Hread := Lib.hid (show L.read M pl = if (M.read (Seg.name pl.seg) pl.at_ pl.size).2 ≠ 0 then (Frm.zeroE, (M.read (Seg.name pl.seg) pl.at_ pl.size).2)
      else if (Frm.read (M.read (Seg.name pl.seg) pl.at_ pl.size).1).2.2 ≠ 0 then (Frm.zeroE, (Frm.read (M.read (Seg.name pl.seg) pl.at_ pl.size).1).2.2)
      else if (Frm.read (M.read (Seg.name pl.seg) pl.at_ pl.size).1).2.1 ≠ (M.read (Seg.name pl.seg) pl.at_ pl.size).1.length then (Frm.zeroE, 4)
      else ((Frm.read (M.read (Seg.name pl.seg) pl.at_ pl.size).1).1, 0) by unfold Seg.Log.read; rw [ha])
    have Hb := Lib.hid hb
    have Hrl := Lib.hid (Seg.read_len hM (Seg.name pl.seg) pl.at_ pl.size)
    have hi0 : (0 : Int) ≤ (i : Int) := by omega
    have hd : decide ((i : Int) < 0) = false := decide_eq_false (by omega)
    clear ha hb hH
    go_enter Tryd.func25, Tryd.ntmps25
    go_wp2_with (first | ((with_reducible apply at_box); refine ⟨?_⟩; refine wl_box (by assumption) (by conv => lhs; whnf) (by conv => lhs; whnf) ?_; intro bB wB hB) | ((with_reducible apply at_allocE); refine ⟨?_⟩; refine wl_allocE (by assumption) ?_; intro bE wE hE))
    obtain ⟨lv, hR⟩ := LogRep.open2 (hE.pick (A := LogRep p m L) (by first | ((repeat (first | with_reducible apply pick0 | with_reducible apply pick_there)); done) | ((repeat (first | apply pick0 | apply pick_there)); done) | fail))
    refine (ok_c hR).mono ?_
    rintro e w2 ⟨v, rfl, rfl, rfl⟩
    clear hR lv
    have hf := lfind_c hL pl.seg (hE.pick (A := LogRep p m L) (by first | ((repeat (first | with_reducible apply pick0 | with_reducible apply pick_there)); done) | ((repeat (first | apply pick0 | apply pick_there)); done) | fail))
    rw [Hb.out] at hf
    go_wp2_with ((with_reducible apply at_load); refine ⟨?_⟩; refine wl_load1 (by assumption) (by rfl) (by first | ((repeat (first | with_reducible apply pick0 | with_reducible apply pick_there)); done) | ((repeat (first | apply pick0 | apply pick_there)); done) | fail) (Nat.le_of_ble_eq_true (by rfl)) (by conv => lhs; whnf) (by kernel_rfl) ?_)
    refine hf.mono ?_
    rintro e w3 ⟨v, rfl, rfl, hS3⟩
    clear hf hE
    obtain ⟨lv, hR⟩ := LogRep.open2 hS3
    clear hS3
    go_wp2_with fail
    refine wpL_begin [11, 12, 13, 14, 15, 16] (fun w' => w'.cell? ⟨p, 0, none⟩ = some (ptr m) ∧ w'.cell? ⟨bB, 0, none⟩ = some (.int .i64 pl.seg) ∧ w'.cell? ⟨bB, 1, none⟩ = some (.int .i64 pl.at_) ∧ w'.cell? ⟨bB, 2, none⟩ = some (.int .i64 pl.size)) (by kernel_rfl) ?_
    have hG : w3.drew.cell? ⟨p, 0, none⟩ = some (ptr m) ∧ w3.drew.cell? ⟨bB, 0, none⟩ = some (.int .i64 pl.seg) ∧ w3.drew.cell? ⟨bB, 1, none⟩ = some (.int .i64 pl.at_) ∧ w3.drew.cell? ⟨bB, 2, none⟩ = some (.int .i64 pl.size) := ⟨hR.drew.cellP (by first | ((repeat (first | with_reducible apply pick0 | with_reducible apply pick_there)); done) | ((repeat (first | apply pick0 | apply pick_there)); done) | fail) 0 rfl, hR.drew.cellP (by first | ((repeat (first | with_reducible apply pick0 | with_reducible apply pick_there)); done) | ((repeat (first | apply pick0 | apply pick_there)); done) | fail) 0 rfl, hR.drew.cellP (by first | ((repeat (first | with_reducible apply pick0 | with_reducible apply pick_there)); done) | ((repeat (first | apply pick0 | apply pick_there)); done) | fail) 1 rfl, hR.drew.cellP (by first | ((repeat (first | with_reducible apply pick0 | with_reducible apply pick_there)); done) | ((repeat (first | apply pick0 | apply pick_there)); done) | fail) 2 rfl⟩
    refine rg_pure 0 (by conv => lhs; whnf) (by kernel_rfl) (by intro _ _ _ h; exact h) (yl_move (by conv => lhs; whnf)) (by go_frame; first | done | rfl) ?_
    refine rg_pure 1 (by conv => lhs; whnf) (by kernel_rfl) (by intro _ _ _ h; exact h) (yl_nil (by conv => lhs; whnf)) (by go_frame; first | done | rfl) ?_
    refine rg_pure 2 (by conv => lhs; whnf) (by kernel_rfl) (by intro _ _ _ h; exact h) (yl_field (by conv => lhs; whnf) (by ((intro wq; go_simp); first | done | (with_reducible rfl)))) (by go_frame; first | done | rfl) ?_
    refine rg_take 3 (by conv => lhs; whnf) (by kernel_rfl) (by intro _ _ _ h; exact h) (by first | exact tk_load (by conv => lhs; whnf) (by kernel_rfl) (by intro wq hq; first | exact hq | exact hq.1 | exact hq.2 | exact hq.2.1 | exact hq.2.2 | exact hq.2.2.1 | exact hq.2.2.2 | exact hq.2.2.2.1 | exact hq.2.2.2.2) | (refine Or.inl ⟨by rfl, ?_⟩; (intro wq hq; go_split_ands; go_simp); first | done | (with_reducible rfl))) (by assumption) (by go_frame; first | done | rfl) ?_
    refine rg_pure 4 (by conv => lhs; whnf) (by kernel_rfl) (by intro _ _ _ h; exact h) (yl_field (by conv => lhs; whnf) (by ((intro wq; go_simp); first | done | (with_reducible rfl)))) (by go_frame; first | done | rfl) ?_
    refine rg_take 5 (by conv => lhs; whnf) (by kernel_rfl) (by intro _ _ _ h; exact h) (by first | exact tk_load (by conv => lhs; whnf) (by kernel_rfl) (by intro wq hq; first | exact hq | exact hq.1 | exact hq.2 | exact hq.2.1 | exact hq.2.2 | exact hq.2.2.1 | exact hq.2.2.2 | exact hq.2.2.2.1 | exact hq.2.2.2.2) | (refine Or.inl ⟨by rfl, ?_⟩; (intro wq hq; go_split_ands; go_simp); first | done | (with_reducible rfl))) (by assumption) (by go_frame; first | done | rfl) ?_
    refine rg_pure 7 (by conv => lhs; whnf) (by kernel_rfl) (by intro _ _ _ h; exact h) (yl_field (by conv => lhs; whnf) (by ((intro wq; go_simp); first | done | (with_reducible rfl)))) (by go_frame; first | done | rfl) ?_
    refine rg_take 8 (by conv => lhs; whnf) (by kernel_rfl) (by intro _ _ _ h; exact h) (by first | exact tk_load (by conv => lhs; whnf) (by kernel_rfl) (by intro wq hq; first | exact hq | exact hq.1 | exact hq.2 | exact hq.2.1 | exact hq.2.2 | exact hq.2.2.1 | exact hq.2.2.2 | exact hq.2.2.2.1 | exact hq.2.2.2.2) | (refine Or.inl ⟨by rfl, ?_⟩; (intro wq hq; go_split_ands; go_simp); first | done | (with_reducible rfl))) (by assumption) (by go_frame; first | done | rfl) ?_
    refine rg_pure 9 (by conv => lhs; whnf) (by kernel_rfl) (by intro _ _ _ h; exact h) (yl_field (by conv => lhs; whnf) (by ((intro wq; go_simp); first | done | (with_reducible rfl)))) (by go_frame; first | done | rfl) ?_
    refine rg_take 10 (by conv => lhs; whnf) (by kernel_rfl) (by intro _ _ _ h; exact h) (by first | exact tk_load (by conv => lhs; whnf) (by kernel_rfl) (by intro wq hq; first | exact hq | exact hq.1 | exact hq.2 | exact hq.2.1 | exact hq.2.2 | exact hq.2.2.1 | exact hq.2.2.2 | exact hq.2.2.2.1 | exact hq.2.2.2.2) | (refine Or.inl ⟨by rfl, ?_⟩; (intro wq hq; go_split_ands; go_simp); first | done | (with_reducible rfl))) (by assumption) (by go_frame; first | done | rfl) ?_
    clear hG
    refine rg_eff 6 (by conv => lhs; whnf) (by kernel_rfl) (fun K hK => ?_)
    (refine eff_call1 (by kernel_rfl) (by conv => lhs; whnf) ?_)
    refine (sname_c pl.seg hR.drew).mono ?_
    rintro e w4 ⟨v, rfl, rfl, hS4⟩
    refine hK _ _ (.inr (.inl ⟨hS4.cellP (by first | ((repeat (first | with_reducible apply pick0 | with_reducible apply pick_there)); done) | ((repeat (first | apply pick0 | apply pick_there)); done) | fail) 0 rfl, hS4.cellP (by first | ((repeat (first | with_reducible apply pick0 | with_reducible apply pick_there)); done) | ((repeat (first | apply pick0 | apply pick_there)); done) | fail) 0 rfl, hS4.cellP (by first | ((repeat (first | with_reducible apply pick0 | with_reducible apply pick_there)); done) | ((repeat (first | apply pick0 | apply pick_there)); done) | fail) 1 rfl, hS4.cellP (by first | ((repeat (first | with_reducible apply pick0 | with_reducible apply pick_there)); done) | ((repeat (first | apply pick0 | apply pick_there)); done) | fail) 2 rfl⟩)) ?_
    clear hK hR
    refine rg_eff 11 (by conv => lhs; whnf) (by kernel_rfl) (fun K hK => ?_)
    (refine eff_call4 (by kernel_rfl) (by conv => lhs; whnf) (by conv => lhs; whnf) (by conv => lhs; whnf) (by conv => lhs; whnf) ?_)
    refine (read_c hM (Sat.pick (by assumption) (by first | ((repeat (first | with_reducible apply pick0 | with_reducible apply pick_there)); done) | ((repeat (first | apply pick0 | apply pick_there)); done) | fail)) _ pl.at_ pl.size h1 h2).mono ?_
    rintro e w5 ⟨v, rfl, bv, rfl, hS5⟩
    refine hK _ _ (.inl rfl) ?_
    clear hK hS4 h1 h2
    refine rg_pure 12 (by conv => lhs; whnf) (by kernel_rfl) (by intro _ _ _ h; exact h) (yl_move (by conv => lhs; whnf)) (by go_frame; first | done | rfl) ?_
    refine rg_pure 13 (by conv => lhs; whnf) (by kernel_rfl) (by intro _ _ _ h; exact h) (yl_extract (by conv => lhs; whnf) (by ((intro wq; go_simp); first | done | (with_reducible rfl)))) (by go_frame; first | done | rfl) ?_
    refine rg_pure 14 (by conv => lhs; whnf) (by kernel_rfl) (by intro _ _ _ h; exact h) (yl_extract (by conv => lhs; whnf) (by ((intro wq; go_simp); first | done | (with_reducible rfl)))) (by go_frame; first | done | rfl) ?_
    refine rg_pure 15 (by conv => lhs; whnf) (by kernel_rfl) (by intro _ _ _ h; exact h) (yl_assign (by conv => lhs; whnf)) (by go_frame; first | done | rfl) ?_
    refine rg_pure 16 (by conv => lhs; whnf) (by kernel_rfl) (by intro _ _ _ h; exact h) (yl_assign (by conv => lhs; whnf)) (by go_frame; first | done | rfl) ?_
    refine wpL_done (by kernel_rfl) ?_
    generalize M.read (Seg.name pl.seg) pl.at_ pl.size = RR at *
    obtain ⟨bs, e1⟩ := RR
    by_cases he : e1 = 0
    rotate_left
    · have heb : (e1 == 0) = false := beq_false_of_ne he
      have Hf := Lib.hid (Hread.out.trans (if_pos he))
      clear he
      go_wp2_with (first | ((with_reducible apply at_buildZ); refine ⟨?_⟩; refine wl_buildZ ?_) | ((with_reducible apply at_storeE); refine ⟨?_⟩; first | (refine wl_storeE (by assumption) (by rfl) (by rfl) (by first | rfl | assumption | exact Hid.out (by assumption)) (by first | ((repeat (first | with_reducible apply upd0 | with_reducible apply upd_there)); done) | ((repeat (first | apply upd0 | apply upd_there)); done) | fail) (by first | assumption | exact entA_size _ _ rfl | exact entA_size _ _ (by assumption) | exact entA_size _ _ (Hid.out (by assumption))) ?_; intro wS hS) | (refine wl_storeE (e := Frm.zeroE) (da := none) (dn := 0) (dc := 0) (by assumption) (by rfl) (by rfl) rfl (by first | ((repeat (first | with_reducible apply upd0 | with_reducible apply upd_there)); done) | ((repeat (first | apply upd0 | apply upd_there)); done) | fail) (by first | assumption | exact entA_size _ _ rfl | exact entA_size _ _ (by assumption) | exact entA_size _ _ (Hid.out (by assumption))) ?_; intro wS hS)))
      rw [Hf.out]
      exact ⟨rfl, _, res_entE rfl (by assumption) (by rfl) (by first | ((repeat (first | with_reducible apply pick0 | with_reducible apply pick_there)); done) | ((repeat (first | apply pick0 | apply pick_there)); done) | fail) rfl, _, rfl, none, 0, rfl, Sat.osl_nil.2 (Sat.pick (LogRep.shut2 (lv := lv) (Sat.sub hS (by repeat (first | (with_reducible apply sub_refl) | ((with_reducible apply sub_take); (· first | ((repeat (first | with_reducible apply pick0 | with_reducible apply pick_there)); done) | ((repeat (first | apply pick0 | apply pick_there)); done) | fail)) | (with_reducible apply sub_drop))))) pick0)⟩
    subst he
    have Hread2 := Lib.hid (Hread.out.trans (if_neg (fun h => h rfl)))
    clear Hread
    obtain ⟨ba, bn, bc, hbv, hbn, hbc, hbl⟩ := bsl_cap' hS5
    subst hbv
    subst hbl
    have hfr := fread_c bs (bv := .slice ba bs.length bc) (Ro.of_pick (Ro.bsl _ _) (by first | ((repeat (first | with_reducible apply pick0 | with_reducible apply pick_there)); done) | ((repeat (first | apply pick0 | apply pick_there)); done) | fail)) ⟨_, _, _, rfl, hbn, hbc⟩ (Ro.of_sub HH.out (by repeat (first | (with_reducible apply sub_refl) | ((with_reducible apply sub_take); (· first | ((repeat (first | with_reducible apply pick0 | with_reducible apply pick_there)); done) | ((repeat (first | apply pick0 | apply pick_there)); done) | fail)) | (with_reducible apply sub_drop)))) (by have := Hrl.out; simp only at this; omega) hS5
    have hkey := Seg.read_key bs
    generalize Frm.read bs = FR at *
    obtain ⟨fe, fn, e2⟩ := FR
    simp only at hfr hkey
    go_wp2_with fail
    refine hfr.mono ?_
    rintro e w6 ⟨v, rfl, da, dc, rfl, hS6⟩
    clear hfr hS5
    by_cases he2 : e2 = 0
    rotate_left
    · have heb : (e2 == 0) = false := beq_false_of_ne he2
      have Hf := Lib.hid (Hread2.out.trans (if_pos he2))
      clear he2
      go_wp2_with (first | ((with_reducible apply at_allocE); refine ⟨?_⟩; refine wl_allocE (by assumption) ?_; intro bE wE hE) | ((with_reducible apply at_buildZ); refine ⟨?_⟩; refine wl_buildZ ?_) | ((with_reducible apply at_storeE); refine ⟨?_⟩; first | (refine wl_storeE (by assumption) (by rfl) (by rfl) (by first | rfl | assumption | exact Hid.out (by assumption)) (by first | ((repeat (first | with_reducible apply upd0 | with_reducible apply upd_there)); done) | ((repeat (first | apply upd0 | apply upd_there)); done) | fail) (by first | assumption | exact entA_size _ _ rfl | exact entA_size _ _ (by assumption) | exact entA_size _ _ (Hid.out (by assumption))) ?_; intro wS hS) | (refine wl_storeE (e := Frm.zeroE) (da := none) (dn := 0) (dc := 0) (by assumption) (by rfl) (by rfl) rfl (by first | ((repeat (first | with_reducible apply upd0 | with_reducible apply upd_there)); done) | ((repeat (first | apply upd0 | apply upd_there)); done) | fail) (by first | assumption | exact entA_size _ _ rfl | exact entA_size _ _ (by assumption) | exact entA_size _ _ (Hid.out (by assumption))) ?_; intro wS hS)))
      rw [Hf.out]
      exact ⟨rfl, _, res_entE rfl (by assumption) (by rfl) (by first | ((repeat (first | with_reducible apply pick0 | with_reducible apply pick_there)); done) | ((repeat (first | apply pick0 | apply pick_there)); done) | fail) rfl, _, rfl, none, 0, rfl, Sat.osl_nil.2 (Sat.pick (LogRep.shut2 (lv := lv) (Sat.sub hS (by repeat (first | (with_reducible apply sub_refl) | ((with_reducible apply sub_take); (· first | ((repeat (first | with_reducible apply pick0 | with_reducible apply pick_there)); done) | ((repeat (first | apply pick0 | apply pick_there)); done) | fail)) | (with_reducible apply sub_drop))))) pick0)⟩
    subst he2
    have Hread3 := Lib.hid (Hread2.out.trans (if_neg (fun h => h rfl)))
    clear Hread2
    by_cases hn : fn = bs.length
    rotate_left
    · have hnb : ((fn : Int) == (bs.length : Int)) = false := by rw [beq_eq_false_iff_ne]; omega
      have Hf := Lib.hid (Hread3.out.trans (if_pos hn))
      clear hn
      go_wp2_with (first | ((with_reducible apply at_allocE); refine ⟨?_⟩; refine wl_allocE (by assumption) ?_; intro bE wE hE) | ((with_reducible apply at_buildZ); refine ⟨?_⟩; refine wl_buildZ ?_) | ((with_reducible apply at_storeE); refine ⟨?_⟩; first | (refine wl_storeE (by assumption) (by rfl) (by rfl) (by first | rfl | assumption | exact Hid.out (by assumption)) (by first | ((repeat (first | with_reducible apply upd0 | with_reducible apply upd_there)); done) | ((repeat (first | apply upd0 | apply upd_there)); done) | fail) (by first | assumption | exact entA_size _ _ rfl | exact entA_size _ _ (by assumption) | exact entA_size _ _ (Hid.out (by assumption))) ?_; intro wS hS) | (refine wl_storeE (e := Frm.zeroE) (da := none) (dn := 0) (dc := 0) (by assumption) (by rfl) (by rfl) rfl (by first | ((repeat (first | with_reducible apply upd0 | with_reducible apply upd_there)); done) | ((repeat (first | apply upd0 | apply upd_there)); done) | fail) (by first | assumption | exact entA_size _ _ rfl | exact entA_size _ _ (by assumption) | exact entA_size _ _ (Hid.out (by assumption))) ?_; intro wS hS)))
      rw [Hf.out]
      exact ⟨rfl, _, res_entE rfl (by assumption) (by rfl) (by first | ((repeat (first | with_reducible apply pick0 | with_reducible apply pick_there)); done) | ((repeat (first | apply pick0 | apply pick_there)); done) | fail) rfl, _, rfl, none, 0, rfl, Sat.osl_nil.2 (Sat.pick (LogRep.shut2 (lv := lv) (Sat.sub hS (by repeat (first | (with_reducible apply sub_refl) | ((with_reducible apply sub_take); (· first | ((repeat (first | with_reducible apply pick0 | with_reducible apply pick_there)); done) | ((repeat (first | apply pick0 | apply pick_there)); done) | fail)) | (with_reducible apply sub_drop))))) pick0)⟩
    have Hf := Lib.hid (Hread3.out.trans (if_neg (fun h => h hn)))
    have hnb : ((fn : Int) == (bs.length : Int)) = true := by rw [beq_iff_eq]; omega
    clear hn Hread3
    go_wp2_with (first | ((with_reducible apply at_allocE); refine ⟨?_⟩; refine wl_allocE (by assumption) ?_; intro bE wE hE) | ((with_reducible apply at_loadE); refine ⟨?_⟩; refine wl_loadE (by assumption) (by rfl) (by first | ((repeat (first | with_reducible apply pick0 | with_reducible apply pick_there)); done) | ((repeat (first | apply pick0 | apply pick_there)); done) | fail) (by first | rfl | assumption | exact Hid.out (by assumption)) ?_) | ((with_reducible apply at_storeE); refine ⟨?_⟩; first | (refine wl_storeE (by assumption) (by rfl) (by rfl) (by first | rfl | assumption | exact Hid.out (by assumption)) (by first | ((repeat (first | with_reducible apply upd0 | with_reducible apply upd_there)); done) | ((repeat (first | apply upd0 | apply upd_there)); done) | fail) (by first | assumption | exact entA_size _ _ rfl | exact entA_size _ _ (by assumption) | exact entA_size _ _ (Hid.out (by assumption))) ?_; intro wS hS) | (refine wl_storeE (e := Frm.zeroE) (da := none) (dn := 0) (dc := 0) (by assumption) (by rfl) (by rfl) rfl (by first | ((repeat (first | with_reducible apply upd0 | with_reducible apply upd_there)); done) | ((repeat (first | apply upd0 | apply upd_there)); done) | fail) (by first | assumption | exact entA_size _ _ rfl | exact entA_size _ _ (by assumption) | exact entA_size _ _ (Hid.out (by assumption))) ?_; intro wS hS)))
    rw [Hf.out]
    exact ⟨rfl, _, res_entE rfl (by assumption) (by rfl) (by first | ((repeat (first | with_reducible apply pick0 | with_reducible apply pick_there)); done) | ((repeat (first | apply pick0 | apply pick_there)); done) | fail) hkey, _, rfl, da, dc, rfl, Sat.sub (LogRep.shut2 (lv := lv) (Sat.sub hS (by repeat (first | (with_reducible apply sub_refl) | ((with_reducible apply sub_take); (· first | ((repeat (first | with_reducible apply pick0 | with_reducible apply pick_there)); done) | ((repeat (first | apply pick0 | apply pick_there)); done) | fail)) | (with_reducible apply sub_drop))))) (by repeat (first | (with_reducible apply sub_refl) | ((with_reducible apply sub_take); (· first | ((repeat (first | with_reducible apply pick0 | with_reducible apply pick_there)); done) | ((repeat (first | apply pick0 | apply pick_there)); done) | fail)) | (with_reducible apply sub_drop)))⟩
end
end Go.Proofs.YtjklhichekmdhaaDoor
/- Plain: calls on a quiet medium; without room all stays. No walk here. -/
namespace Go.Seg
open Go.Med
set_option linter.unusedVariables false
/-- The same names, the same bytes under them. -/
structure Alike (M M' : Med) : Prop where
  now : M'.now = M.now
  room : M'.room = M.room
  off : M'.off = M.off
  bytes : ∀ p ∈ M.now, (M'.file p.2).now = (M.file p.2).now
theorem Alike.refl (M : Med) : Alike M M := ⟨rfl, rfl, rfl, fun _ _ => rfl⟩
theorem Alike.trans {A B C : Med} (h : Alike A B) (k : Alike B C) : Alike A C :=
  ⟨k.now.trans h.now, k.room.trans h.room, k.off.trans h.off, fun p hp => (k.bytes p (by rw [h.now]; exact hp)).trans (h.bytes p hp)⟩
theorem Alike.list {M M' : Med} (h : Alike M M') : M'.list = M.list := by unfold Med.list; rw [h.off, h.now]
theorem Alike.used {M M' : Med} (h : Alike M M') : M'.used = M.used := by
  unfold Med.used; rw [h.now]
  exact congrArg List.sum (List.map_congr_left fun p hp => by rw [h.bytes p hp])
theorem Alike.usedTold {M M' : Med} (h : Alike M M') : M'.usedTold = M.usedTold := by unfold Med.usedTold; rw [h.off, h.used]
theorem Alike.all {M M' : Med} (h : Alike M M') (s : ByteArray) : M'.all s = M.all s := by
  unfold Med.all; rw [h.off, h.now]
  cases hg : nget M.now s with
  | none => rfl
  | some i => simp only; rw [h.bytes (s, i) (nget_mem hg)]
theorem sync_alike {M : Med} {K : Nat} (ok : M.Ok K) (q : Quiet M) (s : ByteArray) : Alike M (M.sync s).1 := by
  cases hg : nget M.now s with
  | none =>
    have : M.sync s = (M, 9) := by unfold Med.sync; rw [q.off, hg]; rfl
    rw [this]; exact Alike.refl M
  | some i =>
    rw [q.sync_eq hg]
    refine ⟨rfl, rfl, rfl, fun p hp => ?_⟩
    show ((M.setFile i _).file p.2).now = _
    rw [file_set (ok.nowOk.ids _ (nget_mem hg))]
    split
    · rename_i e; rw [e]; rfl
    · rfl
theorem append_cases {M : Med} (q : Quiet M) (s : ByteArray) (b : Bs) :
    nget M.now s = none ∧ M.append s b = (M, 9) ∨ ∃ i, nget M.now s = some i ∧ ((M.room : Int) - M.used < b.length ∧ M.append s b = (M, 11) ∨ ¬ (M.room : Int) - M.used < b.length ∧ M.append s b = (M.setFile i ((M.file i).do ⟨false, 0, b⟩), 0)) := by
  unfold Med.append
  rw [q.off, q.step]
  cases hg : nget M.now s with
  | none => exact .inl ⟨rfl, rfl⟩
  | some i =>
    refine .inr ⟨i, rfl, ?_⟩
    simp only [Bool.false_eq_true, if_false, Bool.true_eq_false]
    by_cases h : (M.room : Int) - M.used < b.length
    · exact .inl ⟨h, by rw [if_pos h]⟩
    · exact .inr ⟨h, by rw [if_neg h]⟩
theorem create_cases {M : Med} (q : Quiet M) (s : ByteArray) :
    (M.create s).2 ≠ 0 ∧ (M.create s).2 ≠ 11 ∧ (M.create s).1 = M ∨ good s = true ∧ nget M.now s = none ∧ M.now.length < 500 ∧ M.create s = ({ M with files := M.files ++ [Fil.new], now := nput M.now s M.files.length, waits := M.waits ++ [⟨ByteArray.empty, s, M.files.length⟩] }, 0) := by
  unfold Med.create
  rw [q.off, q.step]
  simp only [Bool.false_eq_true, if_false, Bool.true_eq_false]
  by_cases h1 : good s = false
  · rw [if_pos h1]; exact .inl ⟨by simp, by simp, rfl⟩
  rw [if_neg h1]
  by_cases h2 : (nget M.now s).isSome = true
  · rw [if_pos h2]; exact .inl ⟨by simp, by simp, rfl⟩
  rw [if_neg h2]
  by_cases h3 : 500 ≤ M.now.length
  · rw [if_pos h3]; exact .inl ⟨by simp, by simp, rfl⟩
  rw [if_neg h3]
  have hg : good s = true := by simpa using h1
  refine .inr ⟨hg, by simpa using h2, by omega, ?_⟩
  unfold Med.link Lnk.on
  simp only [if_true, if_neg (good_ne hg)]
  rw [q.off]
theorem remove_quiet {M : Med} (q : Quiet M) {s : ByteArray} {i : Nat} (h : nget M.now s = some i) : M.remove s = (M.link ⟨s, ByteArray.empty, 0⟩, 0) := by
  unfold Med.remove
  rw [q.off, q.step, h]
  simp
theorem nget_ne {l : Names} {s t : ByteArray} (h : s ≠ t) : nget (ndel l t) s = nget l s := by
  induction l with
  | nil => rfl
  | cons p l ih =>
    unfold nget ndel at *
    rw [List.filter_cons]
    by_cases e : p.1 = t
    · rw [if_neg (by simp [bne, beq_ba, e])]
      rw [ih, List.find?_cons]
      have : (p.1 == s) = false := by rw [beq_ba, e]; exact decide_eq_false (fun hh => h hh.symm)
      rw [this]
    · rw [if_pos (by simp [beq_ba, bne, e]), List.find?_cons, List.find?_cons]
      cases (p.1 == s)
      · exact ih
      · rfl
theorem nget_ins_ne {l : Names} {s t : ByteArray} {i : Nat} (h : s ≠ t) : nget (nins l t i) s = nget l s := by
  have ht : (t == s) = false := by rw [beq_ba]; exact decide_eq_false (fun hh => h hh.symm)
  induction l with
  | nil => unfold nins nget; simp [ht]
  | cons p l ih =>
    unfold nins
    split
    · unfold nget; rw [List.find?_cons, ht]
    · unfold nget at *
      rw [List.find?_cons, List.find?_cons]
      cases (p.1 == s)
      · exact ih
      · rfl
theorem nget_put_ne {l : Names} {s t : ByteArray} {i : Nat} (h : s ≠ t) : nget (nput l t i) s = nget l s := by
  unfold nput; rw [nget_ins_ne h, nget_ne h]
theorem nget_put_self {l : Names} (hs : Srt l) (s : ByteArray) (i : Nat) : nget (nput l s i) s = some i :=
  nget_of_mem (hs.put s i).keys ((nput_perm l s i).mem_iff.2 (.head _))
theorem ndel_ins (l : Names) (s : ByteArray) (i : Nat) : ndel (nins l s i) s = ndel l s := by
  induction l with
  | nil => unfold nins ndel; simp [bne, beq_ba]
  | cons p l ih =>
    unfold nins
    split
    · unfold ndel; rw [List.filter_cons, if_neg (by simp [bne, beq_ba])]
    · unfold ndel at *
      rw [List.filter_cons, List.filter_cons, ih]
theorem ndel_put {l : Names} {s : ByteArray} {i : Nat} (h : nget l s = none) : ndel (nput l s i) s = l := by
  unfold nput; rw [ndel_ins, ndel_none h, ndel_none h]
/-- A new file, and away again. -/
theorem created_alike {M : Med} {K : Nat} (ok : M.Ok K) (s : ByteArray) (ws : List Lnk) : Alike M { M with files := M.files ++ [Fil.new], waits := ws } :=
  ⟨rfl, rfl, rfl, fun p hp => by
    have := ok.nowOk.ids p hp
    simp only [Med.file, List.getD_eq_getElem?_getD]
    rw [List.getElem?_append_left this]⟩
/-- What holds of a medium whose power stays on, with its room. -/
structure Calm (K room : Nat) (M : Med) : Prop where
  ok : M.Ok K
  quiet : Quiet M
  dst : Dst M
  used : M.used ≤ M.room
  room : M.room = room
section
variable {K r : Nat} {M : Med} {L : Log}
theorem Calm.mono {K' : Nat} (h : Calm K r M) (hk : K ≤ K') : Calm K' r M := ⟨h.ok.mono hk, h.quiet, h.dst, h.used, h.room⟩
theorem Calm.new (K r : Nat) (h : r ≤ 16777216) : Calm K r (new r) := ⟨Med.Ok.new K r h, Quiet.new r, List.nodup_nil, Nat.zero_le _, rfl⟩
theorem Calm.create (h : Calm K r M) (s : ByteArray) : Calm (K + 1) r (M.create s).1 := by
  have f := (Fits.does h.ok h.dst h.used ⟨0, s, s, 0, 0, [], []⟩ (show (0 : Int) ≠ 8 by decide) (show (0 : Int) ≠ 9 by decide)).1
  exact ⟨h.ok.create s, h.quiet.create s, f.dst, f.used, f.room.trans h.room⟩
theorem Calm.append (h : Calm K r M) (s : ByteArray) (b : Bs) : Calm (K + 1) r (M.append s b).1 := by
  have f := (Fits.does h.ok h.dst h.used ⟨1, s, s, 0, 0, b, []⟩ (show (1 : Int) ≠ 8 by decide) (show (1 : Int) ≠ 9 by decide)).1
  exact ⟨h.ok.append s b, h.quiet.append s b, f.dst, f.used, f.room.trans h.room⟩
theorem Calm.remove (h : Calm K r M) (s : ByteArray) : Calm (K + 1) r (M.remove s).1 := by
  have f := (Fits.does h.ok h.dst h.used ⟨4, s, s, 0, 0, [], []⟩ (show (4 : Int) ≠ 8 by decide) (show (4 : Int) ≠ 9 by decide)).1
  exact ⟨h.ok.remove s, h.quiet.remove s, f.dst, f.used, f.room.trans h.room⟩
theorem Calm.sync (h : Calm K r M) (s : ByteArray) : Calm (K + 1) r (M.sync s).1 := by
  have f := (Fits.does h.ok h.dst h.used ⟨5, s, s, 0, 0, [], []⟩ (show (5 : Int) ≠ 8 by decide) (show (5 : Int) ≠ 9 by decide)).1
  exact ⟨h.ok.sync s, h.quiet.sync s, f.dst, f.used, f.room.trans h.room⟩
theorem Calm.syncDir (h : Calm K r M) : Calm K r M.syncDir.1 := by
  have f := (Fits.does h.ok h.dst h.used ⟨6, ByteArray.empty, ByteArray.empty, 0, 0, [], []⟩ (show (6 : Int) ≠ 8 by decide) (show (6 : Int) ≠ 9 by decide)).1
  exact ⟨h.ok.syncDir, h.quiet.syncDir, f.dst, f.used, f.room.trans h.room⟩
/-- Every segment has its file. -/
def Has (L : Log) (M : Med) : Prop := ∀ s ∈ L.l, ∃ i, nget M.now (name s.1) = some i
theorem Has.now {M' : Med} (h : Has L M) (e : M'.now = M.now) : Has L M' := fun s hs => by rw [e]; exact h s hs
/-- What a call on a log keeps. -/
structure Keeps (K r : Nat) (L : Log) (M : Med) : Prop where
  log : L.Ok
  calm : Calm K r M
  has : Has L M
theorem Keeps.mono {K' : Nat} (h : Keeps K r L M) (hk : K ≤ K') : Keeps K' r L M := ⟨h.log, h.calm.mono hk, h.has⟩
theorem Keeps.shut (h : Keeps K r L M) : Keeps (K + 1) r (L.shut M).1.1 (L.shut M).1.2 ∧ (L.shut M).2 = 0 ∧ (L.shut M).1.1.l = L.l ∧ (L.shut M).1.1.fresh = L.fresh ∧ Alike M (L.shut M).1.2 := by
  have hlog := h.log.shut M
  cases hon : L.on with
  | false => rw [Log.shut_off M hon] at hlog ⊢; exact ⟨h.mono (Nat.le_succ K), rfl, rfl, rfl, Alike.refl M⟩
  | true =>
    obtain ⟨s, hl⟩ := h.log.last hon
    rw [Log.shut_on M hl hon] at hlog ⊢
    obtain ⟨i, hi⟩ := h.has s (List.mem_of_getLast? hl)
    have e := h.calm.quiet.sync_eq hi
    have e2 : (M.sync (name s.1)).2 = 0 := by rw [e]
    have ha := sync_alike h.calm.ok h.calm.quiet (name s.1)
    have hc := h.calm.sync (name s.1)
    rw [if_pos e2] at hlog ⊢
    exact ⟨⟨hlog, hc, fun t ht => by rw [ha.now]; exact h.has t ht⟩, rfl, rfl, rfl, ha⟩
/-- begin, when nothing is open: what it keeps; what an error leaves. -/
theorem Keeps.begin1 (h : Keeps K r L M) (b : Bs) (hb : b.length ≤ 16777216) : Keeps (K + 3) r (L.begin1 M b).1.1 (L.begin1 M b).1.2 ∧
    ((L.begin1 M b).2.2 ≠ 0 → (L.begin1 M b).1.1 = L ∧ Alike M (L.begin1 M b).1.2 ∧ ((L.begin1 M b).2.2 = 11 → (M.room : Int) - M.used < b.length + 8)) := by
  have hlog := h.log.begin1 M b hb
  obtain ⟨n1, n2, n3⟩ := h.log.next
  unfold Log.begin1 at hlog ⊢
  by_cases h1 : 1048576 ≤ L.next
  · rw [if_pos h1] at hlog ⊢
    exact ⟨h.mono (by omega), fun _ => ⟨rfl, Alike.refl M, fun hh => by cases hh⟩⟩
  rw [if_neg h1] at hlog ⊢
  have hc1 := h.calm.create (name L.next)
  rcases create_cases h.calm.quiet (name L.next) with ⟨c1, c2, c3⟩ | ⟨hg, hn, hl, c⟩
  · rw [if_pos c1] at hlog ⊢
    simp only [c3] at hlog hc1 ⊢
    exact ⟨h.mono (by omega), fun _ => ⟨by first | trivial | rfl, Alike.refl M, fun hh => absurd hh c2⟩⟩
  have c0 : (M.create (name L.next)).2 = 0 := by rw [c]
  rw [if_neg (fun hh => hh c0)] at hlog ⊢
  have hself : nget (M.create (name L.next)).1.now (name L.next) = some M.files.length := by
    rw [c]; exact nget_put_self h.calm.ok.nowOk.srt _ _
  have hused : (M.create (name L.next)).1.used = M.used ∧ (M.create (name L.next)).1.room = M.room := by
    refine ⟨?_, by rw [c]⟩
    rw [c]
    show ((nput M.now (name L.next) M.files.length).map fun p => ((M.files ++ [Fil.new]).getD p.2 Fil.new).now.length).sum = _
    rw [sum_put _ _ _ (fun j => ((M.files ++ [Fil.new]).getD j Fil.new).now.length), ndel_none hn]
    have e0 : ((M.files ++ [Fil.new]).getD M.files.length Fil.new).now.length = 0 := by simp [Fil.new]
    rw [e0, Nat.zero_add]
    refine Med.sum_congr (g := fun j => ((M.files ++ [Fil.new]).getD j Fil.new).now.length) (h := fun j => (M.file j).now.length) fun p hp => ?_
    have := h.calm.ok.nowOk.ids p hp
    simp only [Med.file, List.getD_eq_getElem?_getD]
    rw [List.getElem?_append_left this]
  have hhas : Has L (M.create (name L.next)).1 := fun s hs => by
    obtain ⟨i, hi⟩ := h.has s hs
    rw [c]
    refine ⟨i, ?_⟩
    show nget (nput M.now (name L.next) M.files.length) (name s.1) = _
    rw [nget_put_ne (fun e => by rw [e, hn] at hi; cases hi)]
    exact hi
  have hc2 := hc1.append (name L.next) (mag ++ b)
  rcases append_cases hc1.quiet (name L.next) (mag ++ b) with ⟨a1, _⟩ | ⟨i, a1, ⟨a2, a3⟩ | ⟨a2, a3⟩⟩
  · rw [hself] at a1; cases a1
  · have e1 : ((M.create (name L.next)).1.append (name L.next) (mag ++ b)).2 = 11 := by rw [a3]
    have e1' : ¬ ((M.create (name L.next)).1.append (name L.next) (mag ++ b)).2 = 0 := by rw [e1]; decide
    have e2 : ((M.create (name L.next)).1.append (name L.next) (mag ++ b)).1 = (M.create (name L.next)).1 := by rw [a3]
    have e3 := remove_quiet hc1.quiet hself
    have hc3 := hc1.remove (name L.next)
    rw [if_neg e1', if_pos e1] at hlog ⊢
    rw [e2] at *
    have e4 : ((M.create (name L.next)).1.remove (name L.next)).2 = 0 := by rw [e3]
    have ha : Alike M ((M.create (name L.next)).1.remove (name L.next)).1 := by
      rw [e3, c]
      refine ⟨?_, rfl, rfl, fun p hp => ?_⟩
      · show Lnk.on ⟨name L.next, ByteArray.empty, 0⟩ (nput M.now (name L.next) M.files.length) = M.now
        unfold Lnk.on
        simp only [if_neg (good_ne hg), if_true]
        exact ndel_put hn
      · have := h.calm.ok.nowOk.ids p hp
        simp only [Med.file, Med.link, List.getD_eq_getElem?_getD]
        rw [List.getElem?_append_left this]
    refine ⟨⟨hlog, hc3.mono (by omega), fun s hs => by rw [ha.now]; exact h.has s hs⟩, fun _ => ⟨rfl, ha, fun _ => ?_⟩⟩
    rw [hused.1, hused.2, List.length_append] at a2
    have : mag.length = 8 := rfl
    omega
  · have e1 : ((M.create (name L.next)).1.append (name L.next) (mag ++ b)).2 = 0 := by rw [a3]
    rw [if_pos e1] at hlog ⊢
    refine ⟨⟨hlog, hc2.mono (by omega), fun s hs => ?_⟩, fun hh => absurd rfl hh⟩
    rw [a3]
    show ∃ j, nget (M.create (name L.next)).1.now (name s.1) = some j
    rcases List.mem_append.1 hs with hs | hs
    · exact hhas s hs
    · rw [List.mem_singleton.1 hs]; exact ⟨_, hself⟩
theorem Keeps.begin (h : Keeps K r L M) (b : Bs) (hb : b.length ≤ 16777216) : Keeps (K + 4) r (L.begin M b).1.1 (L.begin M b).1.2 ∧
    ((L.begin M b).2.2 ≠ 0 → (L.begin M b).1.1.l = L.l ∧ (L.begin M b).1.1.fresh = L.fresh ∧ Alike M (L.begin M b).1.2 ∧ ((L.begin M b).2.2 = 11 → (M.room : Int) - M.used < b.length + 8)) := by
  obtain ⟨h1, h2, h3, h4, h5⟩ := h.shut
  unfold Log.begin
  rw [if_pos h2]
  obtain ⟨k1, k2⟩ := h1.begin1 b hb
  refine ⟨k1, fun hh => ?_⟩
  obtain ⟨k3, k4, k5⟩ := k2 hh
  rw [k3]
  exact ⟨h3, h4, h5.trans k4, fun e => by rw [← h5.used, ← h5.room]; exact k5 e⟩
theorem Keeps.grow (h : Keeps K r L M) (b : Bs) (hf : L.fits b.length = true) : Keeps (K + 1) r (L.grow M b).1.1 (L.grow M b).1.2 ∧
    ((L.grow M b).2.2 ≠ 0 → (L.grow M b).1.1 = L ∧ Alike M (L.grow M b).1.2 ∧ ((L.grow M b).2.2 = 11 → (M.room : Int) - M.used < b.length)) := by
  have hlog := h.log.grow M b hf
  unfold Log.grow at hlog ⊢
  cases hl : L.l.getLast? with
  | none => exact ⟨h.mono (Nat.le_succ K), fun hh => absurd rfl hh⟩
  | some s =>
    rw [hl] at hlog
    simp only at hlog ⊢
    have hc := h.calm.append (name s.1) b
    obtain ⟨j, hj⟩ := h.has s (List.mem_of_getLast? hl)
    rcases append_cases h.calm.quiet (name s.1) b with ⟨a1, _⟩ | ⟨i, a1, ⟨a2, a3⟩ | ⟨a2, a3⟩⟩
    · rw [hj] at a1; cases a1
    · rw [a3] at hlog hc ⊢
      rw [if_neg (show ¬ ((M, (11 : Int)).2 = 0) from (by simp))] at hlog ⊢
      exact ⟨h.mono (Nat.le_succ K), fun _ => ⟨rfl, Alike.refl M, fun _ => a2⟩⟩
    · rw [a3] at hlog hc ⊢
      rw [if_pos rfl] at hlog ⊢
      refine ⟨⟨hlog, hc, fun t ht => ?_⟩, fun hh => absurd rfl hh⟩
      show ∃ j, nget M.now (name t.1) = some j
      rcases List.mem_append.1 ht with ht | ht
      · exact h.has t ((List.dropLast_subset _ ht))
      · rw [List.mem_singleton.1 ht]; exact ⟨j, hj⟩
theorem size_enc {x : Frm.Ent} (h : (Frm.encode x).2 = 0) (hk : x.key.length = 32) : (Frm.encode x).1.length = Frm.size x := by
  unfold Frm.encode at *
  split at h
  · rename_i hc; exact absurd h hc
  · rename_i hc
    rw [if_neg hc]
    unfold Frm.body Frm.size
    simp only [List.length_append, Frm.le_len, List.length_singleton, if_neg hc]
    split
    · rename_i ht
      have : x.data.length = 0 := by
        simp only [Decidable.not_not] at hc
        unfold Frm.check at hc
        rw [ht] at hc
        simp only [show ¬ ((2 : Int) = 0) by decide, if_false, if_true] at hc
        split at hc
        · cases hc
        split at hc
        · cases hc
        omega
      simp; omega
    · omega
theorem Keeps.append (h : Keeps K r L M) (x : Frm.Ent) (hk : x.key.length = 32) : Keeps (K + 4) r (L.append M x).1.1 (L.append M x).1.2 ∧
    ((L.append M x).2.2 ≠ 0 → (L.append M x).1.1.l = L.l ∧ (L.append M x).1.1.fresh = L.fresh ∧ Alike M (L.append M x).1.2 ∧ ((L.append M x).2.2 = 11 → (M.room : Int) - M.used < Frm.size x + 8)) := by
  have hl := encode_len x hk
  by_cases h1 : (Frm.encode x).2 = 0
  · have hz := size_enc h1 hk
    cases hf : L.fits (Frm.encode x).1.length with
    | true =>
      rw [Log.append_grow h1 hf]
      obtain ⟨k1, k2⟩ := h.grow _ hf
      refine ⟨k1.mono (by omega), fun hh => ?_⟩
      obtain ⟨k3, k4, k5⟩ := k2 hh
      rw [k3]
      exact ⟨rfl, rfl, k4, fun e => by have := k5 e; omega⟩
    | false =>
      rw [Log.append_begin h1 hf]
      obtain ⟨k1, k2⟩ := h.begin _ (by omega : (Frm.encode x).1.length ≤ 16777216)
      exact ⟨k1, fun hh => by rw [← hz]; exact k2 hh⟩
  · rw [Log.append_bad h1]
    refine ⟨h.mono (by omega), fun _ => ⟨rfl, rfl, Alike.refl M, fun e => ?_⟩⟩
    exfalso
    have e' : (Frm.encode x).2 = 11 := e
    unfold Frm.encode at e'
    split at e'
    · simp only at e'
      unfold Frm.check at e'
      repeat' split at e'
      all_goals cases e'
    · cases e'
/-- Where an entry that was put stands: its segment is there. -/
theorem append_place (h : Keeps K r L M) (x : Frm.Ent) (hk : x.key.length = 32) (h0 : (L.append M x).2.2 = 0) : ∃ i, nget (L.append M x).1.2.now (name (L.append M x).2.1.seg) = some i := by
  have hK := (h.append x hk).1
  have key : ∃ s, (L.append M x).1.1.l.getLast? = some s ∧ s.1 = (L.append M x).2.1.seg := by
    by_cases h1 : (Frm.encode x).2 = 0
    · cases hf : L.fits (Frm.encode x).1.length with
      | true =>
        rw [Log.append_grow h1 hf] at h0 ⊢
        unfold Log.grow at h0 ⊢
        cases hl : L.l.getLast? with
        | none =>
          exfalso
          unfold Log.fits at hf
          rw [Bool.and_eq_true] at hf
          exact h.log.on hf.1 (List.getLast?_eq_none_iff.1 hl)
        | some s =>
          rw [hl] at h0
          simp only at h0 ⊢
          split at h0
          · rename_i e; rw [if_pos e]; exact ⟨(s.1, s.2 + ((Frm.encode x).1.length : Int)), by simp, rfl⟩
          · rename_i e; exact absurd h0 e
      | false =>
        rw [Log.append_begin h1 hf] at h0 ⊢
        unfold Log.begin at h0 ⊢
        split at h0
        · rename_i e
          rw [if_pos e]
          unfold Log.begin1 at h0 ⊢
          split at h0
          · cases h0
          rename_i e1
          rw [if_neg e1]
          split at h0
          · rename_i e2; exact absurd h0 e2
          rename_i e2
          rw [if_neg e2]
          split at h0
          · rename_i e3; rw [if_pos e3]; exact ⟨((L.shut M).1.1.next, 8 + ((Frm.encode x).1.length : Int)), by simp, rfl⟩
          · split at h0
            · rename_i e3 e4
              simp only at h0
              split at h0
              · cases h0
              · rename_i e5; exact absurd h0 e5
            · rename_i e3 e4; exact absurd h0 e3
        · rename_i e; exact absurd h0 e
    · rw [Log.append_bad h1] at h0; exact absurd h0 h1
  obtain ⟨s, hs, e⟩ := key
  rw [← e]
  exact hK.has s (List.mem_of_getLast? hs)
theorem Keeps.commit (h : Keeps K r L M) : Keeps (K + 5) r (L.commit M).1.1 (L.commit M).1.2 := by
  obtain ⟨k1, _⟩ := h.append comEnt rfl
  have hlog := h.log.commit M
  rw [Log.commit_eq] at hlog ⊢
  split
  · exact k1.mono (by omega)
  rename_i e1
  rw [if_neg e1] at hlog
  simp only [Decidable.not_not] at e1
  obtain ⟨i, hi⟩ := append_place h comEnt rfl e1
  have es := k1.calm.quiet.sync_eq hi
  have hc2 := k1.calm.sync (name (L.append M comEnt).2.1.seg)
  have hs2 : ((L.append M comEnt).1.2.sync (name (L.append M comEnt).2.1.seg)).2 = 0 := by rw [es]
  rw [if_neg (fun hh => hh hs2)] at hlog ⊢
  have hd := hc2.quiet.syncDir_eq
  have hd2 : (((L.append M comEnt).1.2.sync (name (L.append M comEnt).2.1.seg)).1.syncDir).2 = 0 := by rw [hd]
  rw [if_neg (fun hh => hh hd2)] at hlog ⊢
  refine ⟨hlog, hc2.syncDir, fun s hs => ?_⟩
  obtain ⟨j, hj⟩ := k1.has s hs
  refine ⟨j, ?_⟩
  show nget (((L.append M comEnt).1.2.sync (name (L.append M comEnt).2.1.seg)).1.syncDir).1.now (name s.1) = some j
  rw [hd]
  show nget ((L.append M comEnt).1.2.sync (name (L.append M comEnt).2.1.seg)).1.now (name s.1) = some j
  rw [es]
  exact hj
/-- A medium with another room. -/
theorem setRoom_calm (h : Calm K r M) (n : Nat) (h1 : M.used ≤ n) (h2 : n ≤ 16777216) : M.setRoom n = ({ M with room := n }, 0) ∧ Calm K n { M with room := n } := by
  have e : M.setRoom n = ({ M with room := n }, 0) := by
    unfold Med.setRoom
    rw [h.quiet.off, if_neg (by decide), if_neg (by omega)]
    rfl
  have hok := h.ok.setRoom (n : Int)
  rw [e] at hok
  exact ⟨e, hok, ⟨h.quiet.armed, h.quiet.off, h.quiet.left⟩, h.dst, h1, rfl⟩
theorem bytes_there (h : Keeps K r L M) {s : Int × Int} (hs : s ∈ L.l) : (M.all (name s.1)).2 = 0 := by
  obtain ⟨i, hi⟩ := h.has s hs
  unfold Med.all
  rw [h.calm.quiet.off, hi]
  rfl
end
end Go.Seg
/- One entry in a slice; what Few makes of one. -/
namespace Go.Proofs.YtjklhichekmdhaaDoor
open Go Go.Sl Go.Med Go.MapKept Go.RowKit
set_option linter.unusedVariables false
section
variable {w0 w : World} {L L' R F : List HProp} {b : Nat} {ops : Array Oper} {rest : List Oper} {a : Act} {Q : Exit → Act → World → Prop}
variable {dst : Option Tmp} {t T : TypeId} {pos : String} {after : Array Edge} {x y : Operand} {cs : Array Value} {v : Value} {e : Frm.Ent} {da : Option Addr} {dn dc : Nat}
/-- '[]Entry{x}'. -/
theorem wl_buildE (hs : Sat w0 w L) (hy : a.eval x = .agg (entA e (.slice da dn dc))) (hk : e.key.length = 32)
    (hK : ∀ b w', Sat w0 w' (pt b (.cells (entA e (.slice da dn dc)) 27 (0,0)) :: L) → wpList Tryd.prog ops Q rest (a.put dst (.slice (some ⟨b, 0, none⟩) 1 1)) w') :
    wpList Tryd.prog ops Q (⟨dst, .buildSlice 29 1 #[(0, x)], t, pos, after, none⟩ :: rest) a w :=
  wl_build1 (e := 27) (sz := 34) (by' := 64) (by kernel_rfl) hs hy rfl (entA_size _ _ hk) (by decide) hK
theorem at_buildE (h : Stop (wpList Tryd.prog ops Q (⟨dst, .buildSlice 29 1 #[(0, x)], t, pos, after, none⟩ :: rest) a w)) : wpList Tryd.prog ops Q (⟨dst, .buildSlice 29 1 #[(0, x)], t, pos, after, none⟩ :: rest) a w := h.out
/-- An entry out of a slice's memory. -/
theorem wl_loadEs {o : Nat} (hs : Sat w0 w L) (hx : a.eval x = .pointer (some ⟨b, o, none⟩)) (p : Pick (pt b (.cells cs T (0,0))) L R) (hk : e.key.length = 32) (hv : ∀ j v, (entL e (.slice da dn dc))[j]? = some v → cs[o + j]? = some v)
    (h : wpList Tryd.prog ops Q rest (a.put dst (.agg (entA e (.slice da dn dc)))) w) : wpList Tryd.prog ops Q (⟨dst, .load 27 x, t, pos, after, none⟩ :: rest) a w :=
  wl_loadN (entL e (.slice da dn dc)) hs hx p hv Tryd.underlying27 rfl (by rw [entL_len e _ hk]; exact infoEntSize) h
theorem entsL_one (e : Frm.Ent) (dv : Value) : entsL [(e, dv)] = (entA e dv).toList := by unfold entsL entA; simp
/-- A slice of one entry reads as such. -/
theorem ro_one (h : e.key.length = 32) : Ro w0 (pt b (.cells (entA e (.slice da dn dc)) T (0,0)) :: F) (rdsl 34 (.slice (some ⟨b, 0, none⟩) 1 1) (entsL [(e, .slice da dn dc)])) := fun w hw => by
  rw [entsL_one]
  exact ⟨_, 1, 1, rfl, by rw [Array.length_toList, entA_size _ _ h], fun j y hj => ⟨_, rfl, by rw [add_zero_lit]; exact hw.cellAt j y (by simpa using hj)⟩⟩
/-- The entry that Few makes of one. -/
theorem few_one {fs : List (Frm.Ent × Value)} {n long : Nat} (h : fs.map (·.1) = Frm.few [e] (n + 1) long) : ∃ dv, fs = [(Frm.cutE long e, dv)] := by
  have h1 : fs.map (·.1) = [Frm.cutE long e] := by rw [h]; simp [Frm.few]
  cases fs with
  | nil => cases h1
  | cons f fs =>
    cases fs with
    | nil =>
      obtain ⟨x, dv⟩ := f
      simp only [List.map_cons, List.map_nil, List.cons.injEq, and_true] at h1
      exact ⟨dv, by rw [h1]⟩
    | cons g fs => simp at h1
/-- Its memory, opened. -/
theorem few_open {dv v : Value} (hk : e.key.length = 32) (h : Sat w0 w (osl 27 34 v (entsL [(e, dv)]) :: dataS [(e, dv)] :: F)) :
    ∃ b c cs da dc, v = .slice (some ⟨b, 0, none⟩) 1 c ∧ dv = .slice da e.data.length dc ∧ (∀ j y, (entL e dv)[j]? = some y → cs[0 + j]? = some y) ∧ Sat w0 w (pt b (.cells cs 27 (0,0)) :: bsl dv e.data :: F) := by
  have e1 : dataS [(e, dv)] = bsl dv e.data := by unfold dataS; exact stars_one _
  rw [e1] at h
  obtain ⟨da, dn, dc, rfl, hdn, _⟩ := Sat.rd h.pick1
  rw [bys_len, Nat.mul_one] at hdn
  subst hdn
  rcases h.osl_cases with ⟨rfl, hx, hF⟩ | ⟨b, n', cap, cs, rfl, hll, hn', hc, hcm, htk, hp⟩
  · rw [entsL_one] at hx
    have := congrArg List.length hx
    rw [Array.length_toList, entA_size _ _ hk] at this
    cases this
  · rw [entsL_one, Array.length_toList, entA_size _ _ hk] at hll
    obtain rfl : n' = 1 := by omega
    refine ⟨b, cap, cs, da, dc, rfl, rfl, fun j y hj => ?_, hp⟩
    rw [Nat.zero_add]
    refine take_get htk ?_
    rw [entsL_one]
    unfold entA
    exact hj
end
end Go.Proofs.YtjklhichekmdhaaDoor
/- hoardlaw14.Do in memory; hoardlaw14.few. -/
namespace Go.Seg
/-- A call of a row of calls, plain. -/
structure Cal where
  kind : Int
  e : Frm.Ent
  n : Int
  p : Plc
  l : List Int
def Cal.cut (c : Cal) : Cal := ⟨c.kind, Frm.cutE 300 c.e, c.n, c.p, c.l.take 60⟩
def fewC (l : List Cal) (n : Nat) : List Cal := (l.take n).map Cal.cut
end Go.Seg
namespace Go.Proofs.YtjklhichekmdhaaDoor
open Go Go.Sl Go.Med Go.MapKept Go.RowKit
set_option linter.unusedVariables false
/-- A call of a row of calls, with its values. -/
structure SD where
  c : Seg.Cal
  dv : Value
  lv : Value
def sdL (d : SD) : List Value := .int .i64 d.c.kind :: (entL d.c.e d.dv ++ [.int .i64 d.c.n, .int .i64 d.c.p.seg, .int .i64 d.c.p.at_, .int .i64 d.c.p.size, d.lv])
def sdA (d : SD) : Array Value := (sdL d).toArray
def sdsL (ds : List SD) : List Value := ds.flatMap sdL
/-- What may be read of a call. -/
structure SDRo (w0 : World) (F : List HProp) (d : SD) : Prop where
  key : d.c.e.key.length = 32
  rd : Ro w0 F (rdsl 1 d.dv (bys d.c.e.data))
  cap : capOk d.dv
  rl : Ro w0 F (rdsl 1 d.lv (ints d.c.l))
  capl : capOk d.lv
def zeroD : SD := ⟨⟨0, Frm.zeroE, 0, Seg.Plc.zero, []⟩, .slice none 0 0, .slice none 0 0⟩
theorem zDo : zeroB Tryd.prog 43 = some (.agg (sdA zeroD)) := by kernel_rfl
theorem infoDo : (Tryd.prog.info? 43).map (·.size) = some 40 := by kernel_rfl
theorem sdL_len (d : SD) (hk : d.c.e.key.length = 32) : (sdL d).length = 40 := by
  unfold sdL
  rw [List.length_cons, List.length_append, entL_len _ _ hk]; rfl
theorem sdA_size (d : SD) (hk : d.c.e.key.length = 32) : (sdA d).size = 40 := by unfold sdA; rw [List.size_toArray, sdL_len d hk]
theorem sdL_ent (d : SD) (hk : d.c.e.key.length = 32) {j : Nat} {v : Value} (h : (entL d.c.e d.dv)[j]? = some v) : (sdL d)[1 + j]? = some v := by
  unfold sdL
  rw [Nat.add_comm, List.getElem?_cons_succ, List.getElem?_append_left (List.getElem?_eq_some_iff.1 h).1]
  exact h
theorem sdL_tail (d : SD) (hk : d.c.e.key.length = 32) (j : Nat) : (sdL d)[35 + j]? = ([.int .i64 d.c.n, .int .i64 d.c.p.seg, .int .i64 d.c.p.at_, .int .i64 d.c.p.size, d.lv] : List Value)[j]? := by
  unfold sdL
  rw [show 35 + j = 34 + j + 1 by omega, List.getElem?_cons_succ, List.getElem?_append_right (by rw [entL_len _ _ hk]; omega), entL_len _ _ hk, Nat.add_sub_cancel_left]
theorem sdA_ent (d : SD) (hk : d.c.e.key.length = 32) : ∀ j v, (entL d.c.e d.dv)[j]? = some v → (sdA d)[1 + j]? = some v := fun j v h => by
  unfold sdA; rw [List.getElem?_toArray]; exact sdL_ent d hk h
theorem sdA_l (d : SD) (hk : d.c.e.key.length = 32) : (sdA d).getD 39 undef = d.lv := by
  have := sdL_tail d hk 4
  rw [Array.getD_eq_getD_getElem?]
  unfold sdA
  rw [List.getElem?_toArray, this]; rfl
theorem puts_ent (d : SD) (hk : d.c.e.key.length = 32) (e : Frm.Ent) (dv : Value) (he : e.key.length = 32) : putsAt (sdA d) 1 (entL e dv) = sdA ⟨⟨d.c.kind, e, d.c.n, d.c.p, d.c.l⟩, dv, d.lv⟩ := by
  apply putsAt_eq
  have hz := sdA_size d hk
  rw [putsAt_list _ _ _ (by rw [entL_len _ _ he, hz]; omega), entL_len _ _ he]
  unfold sdA sdL
  simp only [List.toList_toArray]
  rw [show (1 + 34 : Nat) = 34 + 1 from rfl, List.drop_succ_cons, List.drop_append, entL_len _ _ hk, List.drop_of_length_le (by rw [entL_len _ _ hk]; omega)]
  rfl
theorem puts_l (d : SD) (hk : d.c.e.key.length = 32) (l : List Int) (lv : Value) : putsAt (sdA d) 39 [lv] = sdA ⟨⟨d.c.kind, d.c.e, d.c.n, d.c.p, l⟩, d.dv, lv⟩ := by
  apply putsAt_eq
  have hz := sdA_size d hk
  rw [putsAt_list _ _ _ (by rw [hz]; simp)]
  unfold sdA sdL
  simp only [List.toList_toArray]
  rw [show (39 : Nat) = 38 + 1 from rfl, List.take_succ_cons, List.take_append, entL_len _ _ hk, List.take_of_length_le (by rw [entL_len _ _ hk]; omega), List.drop_of_length_le (by simp only [List.length_cons, List.length_append, entL_len _ _ hk, List.length_nil]; omega)]
  simp
theorem sdsL_at {ds : List SD} (hk : ∀ d ∈ ds, d.c.e.key.length = 32) {i : Nat} {d : SD} (hi : ds[i]? = some d) {j : Nat} {y : Value} (hj : (sdL d)[j]? = some y) : (sdsL ds)[i * 40 + j]? = some y := by
  induction ds generalizing i with
  | nil => simp at hi
  | cons x ds ih =>
    have hx := sdL_len x (hk x (.head _))
    unfold sdsL at *
    rw [List.flatMap_cons]
    cases i with
    | zero =>
      obtain rfl : x = d := by simpa using hi
      rw [List.getElem?_append_left (by have := (List.getElem?_eq_some_iff.1 hj).1; omega), Nat.zero_mul, Nat.zero_add]
      exact hj
    | succ i =>
      rw [List.getElem?_append_right (by rw [hx]; omega), hx, show (i + 1) * 40 + j - 40 = i * 40 + j by omega]
      exact ih (fun d hd => hk d (.tail _ hd)) (by simpa using hi)
theorem sdsL_len {ds : List SD} (hk : ∀ d ∈ ds, d.c.e.key.length = 32) : (sdsL ds).length = 40 * ds.length := by
  unfold sdsL
  induction ds with
  | nil => rfl
  | cons x ds ih => rw [List.flatMap_cons, List.length_append, sdL_len x (hk x (.head _)), ih (fun d hd => hk d (.tail _ hd)), List.length_cons]; omega
theorem sdsL_snoc (ds : List SD) (d : SD) : sdsL (ds ++ [d]) = sdsL ds ++ (sdA d).toList := by unfold sdsL sdA; rw [List.flatMap_append]; simp
/-- The entries' bytes of calls. -/
def dataD (ds : List SD) : HProp := stars (ds.map fun d => bsl d.dv d.c.e.data)
theorem dataD_snoc (ds : List SD) (d : SD) : dataD (ds ++ [d]) = star (bsl d.dv d.c.e.data) (dataD ds) := by
  unfold dataD
  rw [List.map_append, stars_append, star_comm]
  show star (stars [bsl d.dv d.c.e.data]) _ = _
  rw [stars_one]
section
variable {w0 w : World} {L L' R F : List HProp} {b o : Nat} {ops : Array Oper} {rest : List Oper} {a : Act} {Q : Exit → Act → World → Prop}
variable {dst : Option Tmp} {t T ty : TypeId} {pos : String} {after : Array Edge} {x y : Operand} {cs : Array Value} {v : Value} {P : Program}
/-- A struct is read, its cells anywhere. -/
theorem wl_loadW (ks : List Value) (hx : a.eval x = .pointer (some ⟨b, o, none⟩)) (hc : ∀ j v, ks[j]? = some v → w.cell? ⟨b, o + j, none⟩ = some v)
    {d : TypeDesc} (hu : P.underlying ty = some d) (hd : d.isRow = true) (hi : (P.info? ty).map (·.size) = some ks.length)
    (h : wpList P ops Q rest (a.put dst (.agg ks.toArray)) w) : wpList P ops Q (⟨dst, .load ty x, t, pos, after, none⟩ :: rest) a w :=
  wpList_load_mid rfl ty x rfl b o hx ks d hc hu hd hi h
/-- A struct is stored over a whole block. -/
theorem wl_storeA (ks : Array Value) (hs : Sat w0 w L) (hx : a.eval x = .pointer (some ⟨b, 0, none⟩)) (hy : a.eval y = .agg ks) (hsz : ks.size = cs.size) (u : Upd (pt b (.cells cs T (0,0))) (pt b (.cells ks T (0,0))) L L')
    (hi : (P.info? ty).map (·.size) = some ks.size) (h1 : ks.toList.all (·.oneCell') = true)
    (hK : ∀ w', Sat w0 w' L' → wpList P ops Q rest (a.put dst undef) w') : wpList P ops Q (⟨dst, .store ty x y, t, pos, after, none⟩ :: rest) a w :=
  wl_store hs hx hy (putsAt_eq (by
    show (putsAt cs 0 ks.toList).toList = _
    rw [putsAt_list _ _ _ (by rw [Array.length_toList]; omega), List.take_zero, List.nil_append, Nat.zero_add, List.drop_of_length_le (by rw [Array.length_toList, Array.length_toList]; omega), List.append_nil])) u (by show 0 + ks.size ≤ cs.size; omega) hi h1 hK
end
theorem sdA_ones (d : SD) {a1 a2 : Option Addr} {n1 n2 c1 c2 : Nat} (h1 : d.dv = .slice a1 n1 c1) (h2 : d.lv = .slice a2 n2 c2) : (sdA d).toList.all (·.oneCell') = true := by
  have he := entA_one d.c.e a1 n1 c1
  unfold entA at he
  rw [List.toList_toArray] at he
  unfold sdA sdL
  rw [List.toList_toArray, List.all_cons, List.all_append, h1, h2, he]
  rfl
section
variable {w0 w : World} {F R : List HProp} {v bv dv x lv : Value}
theorem fewD_keys {ds es : List SD} {i : Nat} (h : es.map (·.c) = ((ds.map (·.c)).take i).map Seg.Cal.cut) (hk : ∀ p ∈ ds, p.c.e.key.length = 32) : ∀ p ∈ es, p.c.e.key.length = 32 := by
  intro p hp
  have h1 : p.c ∈ es.map (·.c) := List.mem_map.2 ⟨p, hp, rfl⟩
  rw [h, List.mem_map] at h1
  obtain ⟨x, hx, he⟩ := h1
  obtain ⟨q, hq, rfl⟩ := List.mem_map.1 (List.mem_of_mem_take hx)
  rw [← he]
  exact hk q hq
theorem rdsl_cutI {k : Nat} {l : List Int} {a : Option Addr} {n c : Nat} (h : rdsl 1 (.slice a n c) (ints l) w) : rdsl 1 (.slice a (min n k) c) (ints (l.take k)) w := by
  obtain ⟨a', n', c', he, hl, hx⟩ := h
  cases he
  have hil : ∀ l : List Int, (ints l).length = l.length := fun l => List.length_map ..
  rw [hil, Nat.mul_one] at hl
  refine ⟨a, _, c, rfl, by rw [hil, List.length_take]; omega, fun j y hj => ?_⟩
  have hj' : (ints l)[j]? = some y := by
    unfold ints at hj ⊢
    rw [List.map_take, List.getElem?_take] at hj
    split at hj
    · exact hj
    · cases hj
  exact hx j y hj'
set_option maxRecDepth 20000 in
set_option maxHeartbeats 16000000 in
theorem fewD_c (ds : List SD) (n : Nat) (hn : n ≤ 1048576) (hr : Ro w0 F (rdsl 40 lv (sdsL ds))) (he : ∀ d ∈ ds, SDRo w0 F d) (h : Sat w0 w F) :
    Calls Tryd.prog 6 #[lv, .int .i64 n] w (Rtn fun v w' => ∃ (es : List SD) (ov : Value), v = ov ∧ es.map (·.c) = Seg.fewC (ds.map (·.c)) n ∧ (∀ d ∈ es, Ro w0 F (rdsl 1 d.lv (ints d.c.l)) ∧ capOk d.lv) ∧
      Sat w0 w' (osl 43 40 ov (sdsL es) :: dataD es :: F)) := by
  obtain ⟨la, ln, lc, rfl, hl, _⟩ := hr w h
  rw [sdsL_len (fun p hp => (he p hp).key)] at hl
  obtain rfl : ln = ds.length := by omega
  have Hr := Lib.hid hr; have He := Lib.hid he; have Hn := Lib.hid hn
  clear hr he hl hn
  go_enter Tryd.func6, Tryd.ntmps6
  go_wp2_with fail
  go_loopg [5, 6] ds.length (fun g ov iq wr => ∃ (i : Nat) (es : List SD), g = ds.length - i ∧ i ≤ ds.length ∧ i ≤ n ∧ iq = .int .i64 i ∧ es.map (·.c) = ((ds.map (·.c)).take i).map Seg.Cal.cut ∧ (∀ d ∈ es, Ro w0 F (rdsl 1 d.lv (ints d.c.l)) ∧ capOk d.lv) ∧
    Sat w0 wr (osl 43 40 ov (sdsL es) :: dataD es :: F))
  case atStart => exact ⟨0, [], rfl, Nat.zero_le _, Nat.zero_le _, rfl, rfl, (fun d hd => by cases hd), Sat.osl_nil.2 (Sat.emp.2 h)⟩
  case round =>
    obtain ⟨i, es, rfl, hi, hin, rfl, hfs, hls, hS⟩ := hrel
    have Hfs := Lib.hid hfs; have Hi := Lib.hid hi; have Hin := Lib.hid hin; have Hls := Lib.hid hls
    clear h hfs hi hin hls
    by_cases hlt : i < ds.length ∧ i < n
    · obtain ⟨hl1, hl2⟩ := hlt
      have c1 : (i : Int) < (ds.length : Int) := by omega
      have c2 : (i : Int) < (n : Int) := by omega
      have hwi : IntKind.i64.wrap ((i : Int) + 1) = (i : Int) + 1 := IntWalk.i64_in _ (by have := Hn.out; omega)
      have Hl1 := Lib.hid hl1; have Hl2 := Lib.hid hl2
      have Hfk := Lib.hid (fewD_keys Hfs.out (fun p hp => (He.out p hp).key))
      clear hl1 hl2
      obtain ⟨x, hx⟩ : ∃ x, ds[i]? = some x := ⟨_, List.getElem?_eq_getElem Hl1.out⟩
      have hxe := He.out x (List.mem_of_getElem? hx)
      have hk : ∀ p ∈ ds, p.c.e.key.length = 32 := fun p hp => (He.out p hp).key
      have hcut := Lib.hid (show es.map (·.c) ++ [x.c.cut] = ((ds.map (·.c)).take (i + 1)).map Seg.Cal.cut by
        rw [Hfs.out, List.take_add_one, List.map_append, List.getElem?_map, hx]; rfl)
      have hrF : Ro w0 (osl 43 40 u5 (sdsL es) :: dataD es :: F) (rdsl 40 (.slice la ds.length lc) (sdsL ds)) := Ro.of_sub Hr.out (by repeat (first | (with_reducible apply sub_refl) | ((with_reducible apply sub_take); (· first | ((repeat (first | with_reducible apply pick0 | with_reducible apply pick_there)); done) | ((repeat (first | apply pick0 | apply pick_there)); done) | fail)) | (with_reducible apply sub_drop)))
      have hx0 : (sdsL ds)[i * 40 + 0]? = some (.int .i64 x.c.kind) := sdsL_at hk hx rfl
      obtain ⟨bk, off, rfl, _⟩ := rdsl_cells (hrF _ hS) hx0
      have HG := Lib.hid (show ∀ w' L, Ro w0 L (rdsl 40 (.slice (some ⟨bk, off, none⟩) ds.length lc) (sdsL ds)) → Sat w0 w' L → ∀ j v, (sdL x)[j]? = some v → w'.cell? ⟨bk, off + i * 40 + j, none⟩ = some v by
        intro w' L hL hw j v hj
        obtain ⟨bk', off', hbo, hcell⟩ := rdsl_cells (hL w' hw) hx0
        cases hbo
        have := hcell _ _ (sdsL_at hk hx hj)
        rw [← Nat.add_assoc] at this
        exact this)
      obtain ⟨⟨kind, e, xn, xp, xl⟩, dv, lv⟩ := x
      obtain ⟨hkey, hrd, hcap, hrl, hcapl⟩ := hxe
      obtain ⟨da, dn, dc, rfl, hdn, hdc⟩ := hcap
      obtain ⟨la2, ln2, lc2, rfl, hln2, hlc2⟩ := hcapl
      have hdl : dn = e.data.length := by
        obtain ⟨a', n', c', he, hl, _⟩ := hrd _ (hS.sub (by repeat (first | (with_reducible apply sub_refl) | ((with_reducible apply sub_take); (· first | ((repeat (first | with_reducible apply pick0 | with_reducible apply pick_there)); done) | ((repeat (first | apply pick0 | apply pick_there)); done) | fail)) | (with_reducible apply sub_drop))))
        cases he
        rw [bys_len, Nat.mul_one] at hl; exact hl.symm
      subst hdl
      have Hrd := Lib.hid hrd; have Hrl := Lib.hid hrl; have Hkey := Lib.hid hkey
      have Hones := Lib.hid (sdA_ones ⟨⟨kind, e, xn, xp, xl⟩, .slice da e.data.length dc, .slice la2 ln2 lc2⟩ rfl rfl)
      have Hsize := Lib.hid (sdA_size ⟨⟨kind, e, xn, xp, xl⟩, .slice da e.data.length dc, .slice la2 ln2 lc2⟩ hkey)
      clear hx hk hrF hx0 hrd hrl hkey
      go_wp2_with (first
        | ((with_reducible apply at_load); refine ⟨?_⟩; refine wl_loadW (b := bk) (o := off + i * 40) (sdL ⟨⟨kind, e, xn, xp, xl⟩, .slice da e.data.length dc, .slice la2 ln2 lc2⟩) (by rfl) (HG.out _ _ (Ro.of_sub Hr.out (by repeat (first | (with_reducible apply sub_refl) | ((with_reducible apply sub_take); (· first | ((repeat (first | with_reducible apply pick0 | with_reducible apply pick_there)); done) | ((repeat (first | apply pick0 | apply pick_there)); done) | fail)) | (with_reducible apply sub_drop)))) hS) Tryd.underlying43 rfl (by rw [sdL_len _ Hkey.out]; exact infoDo) ?_)
        | ((with_reducible apply at_alloc); refine ⟨?_⟩; refine wl_alloc zDo (by assumption) rfl ?_; intro q w1 hS1)
        | ((with_reducible apply at_store); refine ⟨?_⟩; refine wl_storeA (sdA ⟨⟨kind, e, xn, xp, xl⟩, .slice da e.data.length dc, .slice la2 ln2 lc2⟩) hS1 (cs := sdA zeroD) (by rfl) (by rfl) (Hsize.out.trans (sdA_size zeroD rfl).symm) (by first | ((repeat (first | with_reducible apply upd0 | with_reducible apply upd_there)); done) | ((repeat (first | apply upd0 | apply upd_there)); done) | fail) (by rw [Hsize.out]; exact infoDo) Hones.out ?_; intro w2 hS2)
        | ((with_reducible apply at_load); refine ⟨?_⟩; refine wl_loadN (b := q) (o := 1) (entL e (.slice da e.data.length dc)) hS2 (by rfl) (by first | ((repeat (first | with_reducible apply pick0 | with_reducible apply pick_there)); done) | ((repeat (first | apply pick0 | apply pick_there)); done) | fail) (sdA_ent _ Hkey.out) Tryd.underlying27 rfl (by rw [entL_len e _ Hkey.out]; exact infoEntSize) ?_)
        | ((with_reducible apply at_buildE); refine ⟨?_⟩; refine wl_buildE hS2 (by rfl) Hkey.out ?_; intro bN wN hN))
      refine (few_c (lv := .slice (some ⟨bN, 0, none⟩) 1 1) [(e, .slice da e.data.length dc)] 1 300 (by decide) (by decide) (ro_one Hkey.out) (fun p hp => by
        rw [List.mem_singleton] at hp
        subst hp
        exact ⟨Hkey.out, Ro.of_sub Hrd.out (by repeat (first | (with_reducible apply sub_refl) | ((with_reducible apply sub_take); (· first | ((repeat (first | with_reducible apply pick0 | with_reducible apply pick_there)); done) | ((repeat (first | apply pick0 | apply pick_there)); done) | fail)) | (with_reducible apply sub_drop))), ⟨_, _, _, rfl, hdn, hdc⟩⟩) hN).mono ?_
      rintro ee w3 ⟨v, rfl, fs, hfs, hS3⟩
      obtain ⟨dv2, rfl⟩ := few_one hfs
      have hk2 : (Frm.cutE 300 e).key.length = 32 := Hkey.out
      obtain ⟨b2, c2, cs2, da2, dc2, rfl, rfl, hcs, hS4⟩ := few_open hk2 hS3
      have Hk2 := Lib.hid hk2
      have Hcut2 := Lib.hid (show (⟨kind, Frm.cutE 300 e, xn, xp, xl.take 60⟩ : Seg.Cal) = Seg.Cal.cut ⟨kind, e, xn, xp, xl⟩ from rfl)
      generalize Frm.cutE 300 e = f at *
      have Hcs := Lib.hid hcs
      have Hones2 := Lib.hid (sdA_ones ⟨⟨kind, f, xn, xp, xl⟩, .slice da2 f.data.length dc2, .slice la2 ln2 lc2⟩ rfl rfl)
      clear hcs hS3 hfs hN hS2 hS1 hS hk2 Hones
      go_wp2_with (first
        | ((with_reducible apply at_load); refine ⟨?_⟩; refine wl_loadEs (b := b2) (o := 0) (by assumption) (by rfl) (by first | ((repeat (first | with_reducible apply pick0 | with_reducible apply pick_there)); done) | ((repeat (first | apply pick0 | apply pick_there)); done) | fail) Hk2.out Hcs.out ?_)
        | ((with_reducible apply at_store); refine ⟨?_⟩; refine wl_store (b := q) (o := 1) (v := .agg (entA f (.slice da2 f.data.length dc2))) (by assumption) (by rfl) (by rfl) (puts_ent _ Hkey.out f (.slice da2 f.data.length dc2) Hk2.out) (by first | ((repeat (first | with_reducible apply upd0 | with_reducible apply upd_there)); done) | ((repeat (first | apply upd0 | apply upd_there)); done) | fail) (by rw [Hsize.out]; show 1 + (entA f _).size ≤ 40; rw [entA_size _ _ Hk2.out]; decide) (by show _ = some (entA f _).size; rw [entA_size _ _ Hk2.out]; exact infoEntSize) (entA_one _ _ _ _) ?_; intro w5 hS5)
        | (with_reducible apply at_load))
      generalize hd2 : (⟨⟨kind, f, xn, xp, xl⟩, .slice da2 f.data.length dc2, .slice la2 ln2 lc2⟩ : SD) = d2 at hS5
      have hd2k : d2.c.e.key.length = 32 := by rw [← hd2]; exact Hk2.out
      have hd2l : d2.lv = .slice la2 ln2 lc2 := by rw [← hd2]
      have Hd2k := Lib.hid hd2k
      refine ⟨?_⟩
      refine wl_load1 (b := q) (o := 39) (v := .slice la2 ln2 lc2) hS5 (by rfl) (by first | ((repeat (first | with_reducible apply pick0 | with_reducible apply pick_there)); done) | ((repeat (first | apply pick0 | apply pick_there)); done) | fail) (by rw [sdA_size _ hd2k]; decide) (by rw [sdA_l _ hd2k, hd2l]) (by kernel_rfl) ?_
      go_wp2_with fail
      have hnu := numbers_c la2 ln2 lc2 60 hln2 hlc2
      refine (hnu _).mono ?_
      rintro ee w6 ⟨v, rfl, rfl, rfl⟩
      clear hnu
      generalize hd3 : (⟨⟨kind, f, xn, xp, xl.take 60⟩, .slice da2 f.data.length dc2, .slice la2 (min ln2 60) lc2⟩ : SD) = d3
      have hput : putsAt (sdA d2) 39 [.slice la2 (min ln2 60) lc2] = sdA d3 := by rw [puts_l _ hd2k (xl.take 60), ← hd2, ← hd3]
      have hd3k : d3.c.e.key.length = 32 := by rw [← hd3]; exact Hk2.out
      have Hd3k := Lib.hid hd3k
      have Hones3 := Lib.hid (show (sdA d3).toList.all (·.oneCell') = true by rw [← hd3]; exact sdA_ones _ rfl rfl)
      have hlen : (sdsL es).length ≤ 2147483648 := by
        rw [sdsL_len Hfk.out]
        have := congrArg List.length Hfs.out
        simp only [List.length_map, List.length_take] at this
        have := Hn.out; have := Hin.out; omega
      have Hput := Lib.hid hput
      clear hput hd2l
      go_wp2_with (first
        | ((with_reducible apply at_store); refine ⟨?_⟩; refine wl_store (b := q) (o := 39) (v := .slice la2 (min ln2 60) lc2) hS5 (by rfl) (by rfl) Hput.out (by first | ((repeat (first | with_reducible apply upd0 | with_reducible apply upd_there)); done) | ((repeat (first | apply upd0 | apply upd_there)); done) | fail) (by rw [sdA_size _ Hd2k.out]; exact Nat.le_refl 40) (by kernel_rfl) (by rfl) ?_; intro w7 hS7)
        | ((with_reducible apply at_load); refine ⟨?_⟩; refine wl_loadA (b := q) hS7 (by rfl) (by first | ((repeat (first | with_reducible apply pick0 | with_reducible apply pick_there)); done) | ((repeat (first | apply pick0 | apply pick_there)); done) | fail) Tryd.underlying43 rfl (by rw [sdA_size _ Hd3k.out]; exact infoDo) ?_)
        | ((with_reducible apply at_build1); refine ⟨?_⟩; refine wl_build1 (e := 43) (sz := 40) (by' := 128) (by kernel_rfl) hS7 (by rfl) (cs := sdA d3) rfl (sdA_size _ Hd3k.out) (Nat.le_of_ble_eq_true (by rfl)) ?_; intro bN wN hN)
        | ((with_reducible apply at_append); refine ⟨?_⟩; refine wl_app 43 40 128 (by kernel_rfl) hN (by rfl) (by rfl) (by first | ((repeat (first | with_reducible apply pick0 | with_reducible apply pick_there)); done) | ((repeat (first | apply pick0 | apply pick_there)); done) | fail) (by first | ((repeat (first | with_reducible apply pick0 | with_reducible apply pick_there)); done) | ((repeat (first | apply pick0 | apply pick_there)); done) | fail) ((sdA_size _ Hd3k.out).trans (by decide)) (Nat.le_refl 1) Hones3.out hlen (by rw [sdA_size _ Hd3k.out]; decide) (by decide) rfl ?_; intro bA nA cA wA hA))
      go_roundg (ds.length - (i + 1))
      case measure => have := Hl1.out; omega
      case rel =>
        refine ⟨i + 1, es ++ [d3], rfl, Nat.succ_le_of_lt Hl1.out, Nat.succ_le_of_lt Hl2.out, by first | rfl | go_num, ?_, ?_, ?_⟩
        · rw [← hcut.out, List.map_append, ← Hcut2.out, ← hd3]; rfl
        · intro d hd
          rcases List.mem_append.1 hd with hd | hd
          · exact Hls.out d hd
          · rw [List.mem_singleton.1 hd, ← hd3]
            exact ⟨fun w hw => rdsl_cutI (Hrl.out w hw), ⟨_, _, _, rfl, Nat.le_trans (Nat.min_le_left _ _) hln2, hlc2⟩⟩
        · rw [sdsL_snoc, dataD_snoc]
          have e4 : bsl d3.dv d3.c.e.data = bsl (.slice da2 f.data.length dc2) f.data := by rw [← hd3]
          rw [e4]
          have h10 : Sat w0 wA (bsl (.slice da2 f.data.length dc2) f.data :: dataD es :: osl 43 40 (.slice (some ⟨bA, 0, none⟩) nA cA) (sdsL es ++ (sdA d3).toList) :: F) := hA.sub (by repeat (first | (with_reducible apply sub_refl) | ((with_reducible apply sub_take); (· first | ((repeat (first | with_reducible apply pick0 | with_reducible apply pick_there)); done) | ((repeat (first | apply pick0 | apply pick_there)); done) | fail)) | (with_reducible apply sub_drop)))
          exact (Sat.star.2 h10).pick1
    · have hfin : es.map (·.c) = Seg.fewC (ds.map (·.c)) n := by
        rw [Hfs.out]
        unfold Seg.fewC
        congr 1
        have := Hi.out; have := Hin.out
        by_cases hh : i = n
        · rw [hh]
        · rw [List.take_of_length_le (by rw [List.length_map]; omega), List.take_of_length_le (by rw [List.length_map]; omega)]
      have Hfin := Lib.hid hfin
      by_cases hl1 : i < ds.length
      · have c1 : (i : Int) < (ds.length : Int) := by omega
        have c2 : ¬ (i : Int) < (n : Int) := by omega
        clear hfin hlt hl1
        go_wp2
        go_ret
        exact ⟨_, rfl, es, Hfin.out, Hls.out, hS⟩
      · have c1 : ¬ (i : Int) < (ds.length : Int) := by omega
        clear hfin hlt hl1
        go_wp2
        go_ret
        exact ⟨_, rfl, es, Hfin.out, Hls.out, hS⟩
end
end Go.Proofs.YtjklhichekmdhaaDoor
/- bytes.Equal, HasPrefix; frame.Scan. -/
namespace Go.Frm
/-- An entry that was found: where, how many bytes. -/
structure Fnd where
  e : Ent
  at_ : Nat
  size : Nat
def scanL : Nat → Bs → Nat → List Fnd × Nat × Int
  | 0, _, at_ => ([], at_, 0)
  | k + 1, b, at_ =>
    if b = [] then ([], at_, 0)
    else if (read b).2.2 ≠ 0 then ([], at_, (read b).2.2)
    else (⟨(read b).1, at_, (read b).2.1⟩ :: (scanL k (b.drop (read b).2.1) (at_ + (read b).2.1)).1, (scanL k (b.drop (read b).2.1) (at_ + (read b).2.1)).2)
def magicB : Bs := [72, 79, 65, 82, 68, 83, 69, 71]
def scan (b : Bs) : List Fnd × Nat × Int := if b.take 8 = magicB then scanL b.length (b.drop 8) 8 else ([], 0, 4)
end Go.Frm
namespace Go.Proofs.YtjklhichekmdhaaDoor
open Go Go.Sl Go.Med Go.MapKept Go.RowKit
set_option linter.unusedVariables false
section
variable {w0 w : World} {F R : List HProp} {v bv dv x lv av : Value}
theorem rdsl_text {l : Bs} (h : rdsl 1 v (bys l) w) : (convert 25 9 v).run Tryd.prog w = .ok (.string ⟨l.toArray⟩) w := by
  obtain ⟨a, n, c, rfl, hl, hx⟩ := h
  rw [bys_len, Nat.mul_one] at hl
  subst hl
  cases a with
  | none =>
    obtain rfl : l = [] := by
      cases l with
      | nil => rfl
      | cons d l => obtain ⟨b, hb, _⟩ := hx 0 _ rfl; cases hb
    exact Lib.run_convert_nil_bytes (P := Tryd.prog) w _ _ 5 c Tryd.underlying25 Tryd.underlying5 Tryd.underlying9
  | some ad =>
    refine run_convert_bytes_back (P := Tryd.prog) w _ _ 5 ad c l Tryd.underlying25 Tryd.underlying5 Tryd.underlying9 (fun j hj => ?_)
    have hy : (bys l)[j]? = some (.int .u8 (l[j]'hj).toNat) := by unfold bys; rw [List.getElem?_map, List.getElem?_eq_getElem hj]; rfl
    obtain ⟨b, hb, hc⟩ := hx _ _ hy
    cases hb
    simpa using hc
set_option maxHeartbeats 2000000 in
theorem bequal_c (la lb : Bs) (ha : rdsl 1 av (bys la) w) (hb : rdsl 1 bv (bys lb) w) :
    Calls Tryd.prog 76 #[av, bv] w (Rtn fun v w' => v = .bool (decide (la = lb)) ∧ w = w') := by
  have h1 := rdsl_text ha
  have h2 := rdsl_text hb
  have He := Lib.hid (show ((la.toArray.toList : List UInt8) == lb.toArray.toList) = decide (la = lb) by
    rw [Bool.eq_iff_iff, beq_iff_eq, decide_eq_true_eq])
  clear ha hb
  go_enter Tryd.func76, Tryd.ntmps76
  go_wp2
  go_ret
  rw [← He.out]
  exact ⟨_, rfl, rfl, rfl⟩
set_option maxHeartbeats 2000000 in
theorem hasPrefix_c (l lp : Bs) (a : Option Addr) (n c : Nat) (hn : n ≤ c) (hc : c ≤ 9223372036854775807) (ha : rdsl 1 (.slice a n c) (bys l) w) (pa : Option Addr) (pn pc : Nat) (hp : rdsl 1 (.slice pa pn pc) (bys lp) w) :
    Calls Tryd.prog 55 #[.slice a n c, .slice pa pn pc] w (Rtn fun v w' => v = .bool (decide (l.take lp.length = lp)) ∧ w = w') := by
  have hln : n = l.length := by
    obtain ⟨_, _, _, he, hl', _⟩ := ha
    cases he
    rw [bys_len, Nat.mul_one] at hl'; exact hl'.symm
  have hpn : pn = lp.length := by
    obtain ⟨_, _, _, he, hl', _⟩ := hp
    cases he
    rw [bys_len, Nat.mul_one] at hl'; exact hl'.symm
  subst hln hpn
  by_cases hle : lp.length ≤ l.length
  · have h4 := rdsl_cut4 (k := lp.length) ha
    rw [show min l.length lp.length = lp.length by omega] at h4
    have hq := bequal_c _ _ h4 hp
    have c1 : (lp.length : Int) ≤ (l.length : Int) := by omega
    have c2 : (lp.length : Int) ≤ (c : Int) := by omega
    have c3 : lp.length ≤ l.length := hle
    clear h4 ha hp
    go_enter Tryd.func55, Tryd.ntmps55
    go_wp2_with (go_at_call 76; refine hq.mono ?_; rintro e w1 ⟨v, rfl, rfl, rfl⟩)
    go_ret
    exact ⟨_, rfl, rfl, rfl⟩
  · have c1 : ¬ lp.length ≤ l.length := hle
    have c2 : decide ((lp.length : Int) ≤ (l.length : Int)) = false := decide_eq_false (by omega)
    have He := Lib.hid (show decide (l.take lp.length = lp) = false by
      apply decide_eq_false
      intro hh
      have := congrArg List.length hh
      rw [List.length_take] at this
      omega)
    clear ha hp
    go_enter Tryd.func55, Tryd.ntmps55
    go_wp2
    go_ret
    rw [He.out]
    exact ⟨_, rfl, rfl, rfl⟩
end
end Go.Proofs.YtjklhichekmdhaaDoor
/- What was found, in memory; frame.Scan. -/
namespace Go.Frm
theorem read_ok {b : Bs} (h : (read b).2.2 = 0) : 9 ≤ (read b).2.1 ∧ (read b).2.1 ≤ b.length ∧ (read b).1.key.length = 32 := by
  unfold read at *
  dsimp only at *
  split at h
  · simp at h
  rename_i h9
  rw [if_neg h9]
  split at h
  · simp at h
  rename_i hf
  rw [if_neg hf]
  split at h
  · simp at h
  rename_i hl
  rw [if_neg hl]
  split at h
  · simp at h
  rename_i hc
  rw [if_neg hc]
  have hfit : fits (b.getD 8 0) (num ((b.drop 4).take 4)) = true := by
    cases hh : fits (b.getD 8 0) (num ((b.drop 4).take 4)) with
    | true => rfl
    | false => exact absurd hh hf
  have h9' : 9 ≤ num ((b.drop 4).take 4) := by
    unfold fits at hfit
    split at hfit
    · have := of_decide_eq_true hfit; omega
    · split at hfit
      · have := of_decide_eq_true hfit; omega
      · split at hfit
        · have := of_decide_eq_true hfit; omega
        · cases hfit
  split
  · rename_i h41
    refine ⟨h9', Nat.not_lt.1 hl, ?_⟩
    simp only [List.length_take, List.length_drop]
    omega
  · exact ⟨h9', Nat.not_lt.1 hl, rfl⟩
theorem read_key (b : Bs) : (read b).1.key.length = 32 := by
  unfold read
  dsimp only
  split
  · rfl
  split
  · rfl
  split
  · rfl
  split
  · rfl
  rename_i h9 hf hl hc
  split
  · rename_i h41
    simp only [List.length_take, List.length_drop]
    omega
  · rfl
end Go.Frm
namespace Go.Proofs.YtjklhichekmdhaaDoor
open Go Go.Sl Go.Med Go.MapKept Go.RowKit
set_option linter.unusedVariables false
def fndL (f : Frm.Fnd) (dv : Value) : List Value := entL f.e dv ++ [.int .i64 f.at_, .int .i64 f.size]
def fndA (f : Frm.Fnd) (dv : Value) : Array Value := (fndL f dv).toArray
def fndsL (fs : List (Frm.Fnd × Value)) : List Value := fs.flatMap fun p => fndL p.1 p.2
def dataF (fs : List (Frm.Fnd × Value)) : HProp := stars (fs.map fun p => bsl p.2 p.1.e.data)
theorem fndL_len (f : Frm.Fnd) (dv : Value) (hk : f.e.key.length = 32) : (fndL f dv).length = 36 := by unfold fndL; rw [List.length_append, entL_len _ _ hk]; rfl
theorem fndA_size (f : Frm.Fnd) (dv : Value) (hk : f.e.key.length = 32) : (fndA f dv).size = 36 := by unfold fndA; rw [List.size_toArray, fndL_len _ _ hk]
theorem fndsL_len {fs : List (Frm.Fnd × Value)} (hk : ∀ p ∈ fs, p.1.e.key.length = 32) : (fndsL fs).length = 36 * fs.length := by
  unfold fndsL
  induction fs with
  | nil => rfl
  | cons p fs ih =>
    rw [List.flatMap_cons, List.length_append, ih (fun q hq => hk q (.tail _ hq)), fndL_len _ _ (hk p (.head _)), List.length_cons]; omega
theorem fndsL_app (es fs : List (Frm.Fnd × Value)) : fndsL (es ++ fs) = fndsL es ++ fndsL fs := by unfold fndsL; rw [List.flatMap_append]
theorem dataF_snoc (es : List (Frm.Fnd × Value)) (x : Frm.Fnd) (dv : Value) : dataF (es ++ [(x, dv)]) = star (bsl dv x.e.data) (dataF es) := by
  unfold dataF
  rw [List.map_append, stars_append, star_comm]
  show star (stars [bsl dv x.e.data]) _ = _
  rw [stars_one]
theorem plFnd : placesB Tryd.prog 70 = some [(0, 34), (34, 1), (35, 1)] := by kernel_rfl
def zeroF : Frm.Fnd := ⟨Frm.zeroE, 0, 0⟩
theorem zFnd : zeroB Tryd.prog 70 = some (.agg (fndA zeroF (.slice none 0 0))) := by kernel_rfl
theorem puts3f (cs : Array Value) (hs : cs.size = 36) (el : List Value) (u v : Value) (hk : el.length = 34) : (putsAt (putsAt (putsAt cs 0 el) 34 [u]) 35 [v]).toList = el ++ [u, v] := by
  have hcl : cs.toList.length = 36 := by simpa using hs
  have e1 : (putsAt cs 0 el).toList = el ++ cs.toList.drop 34 := by
    rw [putsAt_list _ _ _ (by omega), List.take_zero, List.nil_append, Nat.zero_add, hk]
  have e2 : (putsAt (putsAt cs 0 el) 34 [u]).toList = el ++ [u] ++ cs.toList.drop 35 := by
    rw [putsAt_list _ _ _ (by rw [putsAt_size]; simp; omega), e1, List.take_append_of_le_length (by omega), List.take_of_length_le (by omega), List.length_singleton, List.drop_append, hk, List.drop_of_length_le (l := el) (by omega), List.nil_append, List.drop_drop]
  have h3 : (el ++ [u]).length = 35 := by simp [hk]
  rw [putsAt_list _ _ _ (by rw [putsAt_size, putsAt_size]; simp; omega), e2, List.take_append_of_le_length (by omega), List.take_of_length_le (by omega), List.length_singleton, List.drop_of_length_le (by rw [List.length_append, h3, List.length_drop]; omega)]
  simp
set_option maxRecDepth 20000 in
theorem run_buildFnd (e : Frm.Ent) (hk : e.key.length = 32) (da : Option Addr) (dn dc : Nat) (at_ n : Nat) (w : World) :
    (Instr.build 70 #[(0, .agg (entA e (.slice da dn dc))), (1, .int .i64 at_), (2, .int .i64 n)]).run Tryd.prog w = .ok (.agg (fndA ⟨e, at_, n⟩ (.slice da dn dc))) w := by
  have hz : (fndA zeroF (.slice none 0 0)).size = 36 := fndA_size _ _ rfl
  have he : (entA e (.slice da dn dc)).size = 34 := entA_size _ _ hk
  have h := run_build (P := Tryd.prog) [(0, .agg (entA e (.slice da dn dc))), (1, .int .i64 at_), (2, .int .i64 n)] plFnd zFnd (by
    intro p hp
    simp only [List.mem_cons, List.not_mem_nil, or_false] at hp
    have hzz : (Value.agg (fndA zeroF (.slice none 0 0))).cells.size = 36 := hz
    rw [hzz]
    rcases hp with rfl | rfl | rfl
    · refine ⟨0, ?_, ?_⟩
      · show some (0, 34) = some (0, (entA e (.slice da dn dc)).size); rw [he]
      · show 0 + (entA e (.slice da dn dc)).size ≤ 36; omega
    · exact ⟨34, rfl, by show 34 + 1 ≤ 36; omega⟩
    · exact ⟨35, rfl, by show 35 + 1 ≤ 36; omega⟩) w
  refine h.trans ?_
  congr 2
  apply putsAt_eq
  exact puts3f _ hz _ _ _ (show (entA e (.slice da dn dc)).toList.length = 34 by rw [Array.length_toList, he])
section
variable {w0 w : World} {L L' R : List HProp} {b : Nat} {ops : Array Oper} {rest : List Oper} {a : Act} {Q : Exit → Act → World → Prop}
variable {dst : Option Tmp} {t T ty : TypeId} {pos : String} {after : Array Edge} {x y z : Operand} {cs : Array Value} {v v1 v2 v3 : Value} {i1 i2 i3 : Nat} {P : Program}
theorem wl_build3 (h1 : a.eval x = v1) (h2 : a.eval y = v2) (h3 : a.eval z = v3) (hr : ∀ w, (Instr.build ty #[(i1, v1), (i2, v2), (i3, v3)]).run P w = .ok v w) (h : wpList P ops Q rest (a.put dst v) w) :
    wpList P ops Q (⟨dst, .build ty #[(i1, x), (i2, y), (i3, z)], t, pos, after, none⟩ :: rest) a w :=
  wpList_plain rfl fun _ hK => by
    unfold Oper.wp execOp
    simp only [List.map_toArray, List.map_cons, List.map_nil, h1, h2, h3, Sem.run_bind, hr, Result.andThen_ok, Sem.run_pure]
    exact hK _ _ h
theorem at_build3 (h : Stop (wpList P ops Q (⟨dst, .build ty #[(i1, x), (i2, y), (i3, z)], t, pos, after, none⟩ :: rest) a w)) : wpList P ops Q (⟨dst, .build ty #[(i1, x), (i2, y), (i3, z)], t, pos, after, none⟩ :: rest) a w := h.out
theorem fndA_ones (f : Frm.Fnd) (a : Option Addr) (n c : Nat) : (fndA f (.slice a n c)).toList.all (·.oneCell') = true := by
  unfold fndA fndL
  rw [List.toList_toArray, List.all_append]
  have h1 : (entL f.e (.slice a n c)).all (·.oneCell') = true := by
    have := entA_one f.e a n c
    unfold entA at this
    rwa [List.toList_toArray] at this
  rw [h1]; rfl
end
end Go.Proofs.YtjklhichekmdhaaDoor
/- frame.Scan. -/
namespace Go.Proofs.YtjklhichekmdhaaDoor
open Go Go.Sl Go.Med Go.MapKept Go.RowKit
set_option linter.unusedVariables false
section
variable {w0 w : World} {F R : List HProp} {v bv dv x lv : Value}
theorem wl_slice1 {L : List HProp} {b : Nat} {ops : Array Oper} {rest : List Oper} {a : Act} {Q : Exit → Act → World → Prop} {dst : Option Tmp} {t : TypeId} {pos : String} {after : Array Edge} {P : Program} {ty : TypeId} {x y : Operand} {vx vy : Value} (hx : a.eval x = vx) (hy : a.eval y = vy) (hr : ∀ w, (Instr.sliceAt ty vx (some vy) none none).run P w = .ok v w)
    (h : wpList P ops Q rest (a.put dst v) w) : wpList P ops Q (⟨dst, .slice ty x (some y) none none, t, pos, after, none⟩ :: rest) a w :=
  wpList_plain rfl fun _ hK => by
    unfold Oper.wp execOp
    simp only [hx, hy, Option.map_some, Option.map_none, Sem.run_bind, hr, Result.andThen_ok, Sem.run_pure]
    exact hK _ _ h
theorem at_slice1 {ops : Array Oper} {rest : List Oper} {a : Act} {Q : Exit → Act → World → Prop} {dst : Option Tmp} {t : TypeId} {pos : String} {after : Array Edge} {P : Program} {ty : TypeId} {x y : Operand} (h : Stop (wpList P ops Q (⟨dst, .slice ty x (some y) none none, t, pos, after, none⟩ :: rest) a w)) : wpList P ops Q (⟨dst, .slice ty x (some y) none none, t, pos, after, none⟩ :: rest) a w := h.out
set_option maxRecDepth 20000 in
set_option maxHeartbeats 16000000 in
theorem fscan_c (l : Bs) (hr : Ro w0 F (rdsl 1 bv (bys l))) (hcap : capOk bv) (hH : Ro w0 F Half) (hl : l.length ≤ 268435456) (h : Sat w0 w F) :
    Calls Tryd.prog 27 #[bv] w (Rtn fun v w' => ∃ (fs : List (Frm.Fnd × Value)) (ov : Value), fs.map (·.1) = (Frm.scan l).1 ∧ (∀ p ∈ fs, p.1.e.key.length = 32) ∧ v = .tuple #[ov, .int .i64 (Frm.scan l).2.1, errno (Frm.scan l).2.2] ∧
      Sat w0 w' (osl 70 36 ov (fndsL fs) :: dataF fs :: F)) := by
  obtain ⟨ba, bn, bc, rfl, hbn, hbc⟩ := hcap
  have hln : bn = l.length := by
    obtain ⟨_, _, _, he, hl', _⟩ := hr w h
    cases he
    rw [bys_len, Nat.mul_one] at hl'; exact hl'.symm
  subst hln
  have hcv := Lib.run_convert_bytes_const (P := Tryd.prog) w 25 5 #[.int .u8 72, .int .u8 79, .int .u8 65, .int .u8 82, .int .u8 68, .int .u8 83, .int .u8 69, .int .u8 71] 8 8 Tryd.underlying25 Tryd.underlying5
  have hB : Sat w0 (w.alloc (.cells #[.int .u8 72, .int .u8 79, .int .u8 65, .int .u8 82, .int .u8 68, .int .u8 83, .int .u8 69, .int .u8 71] 5 (8, 9))) (mrow w.heap.size Frm.magicB :: F) := h.alloc _
  simp only [List.size_toArray, List.length_cons, List.length_nil, Nat.zero_add, Nat.reduceAdd] at hcv
  have hmr : rdsl 1 (.slice (some ⟨w.heap.size, 0, none⟩) 8 8) (bys Frm.magicB) (w.alloc (.cells #[.int .u8 72, .int .u8 79, .int .u8 65, .int .u8 82, .int .u8 68, .int .u8 83, .int .u8 69, .int .u8 71] 5 (8, 9))) := by
    refine ⟨_, 8, 8, rfl, rfl, fun j x hj => ⟨_, rfl, ?_⟩⟩
    rw [add_zero_lit]
    have hjl : j < Frm.magicB.length := by
      have := (List.getElem?_eq_some_iff.1 hj).1
      rw [bys_len] at this; exact this
    have hx := (mrow_set (l := Frm.magicB) hB hjl 0).1
    unfold bys at hj
    rw [List.getElem?_map, List.getElem?_eq_getElem hjl] at hj
    cases hj
    exact hx
  have hpre := hasPrefix_c l Frm.magicB ba l.length bc hbn hbc (hr _ hB.drop) _ 8 8 hmr
  have Hr := Lib.hid hr; have HH := Lib.hid hH; have Hl := Lib.hid hl; have Hbn := Lib.hid (show l.length ≤ bc ∧ bc ≤ 9223372036854775807 from ⟨hbn, hbc⟩)
  have hF := Lib.hid hB.drop
  clear hr hH hl hbn hbc hB hmr
  cases hm : decide (l.take Frm.magicB.length = Frm.magicB)
  · have Hf := Lib.hid (show Frm.scan l = ([], 0, 4) by
      unfold Frm.scan
      have : ¬ l.take 8 = Frm.magicB := of_decide_eq_false hm
      rw [if_neg this])
    rw [hm] at hpre
    clear hm
    go_enter Tryd.func27, Tryd.ntmps27
    go_wp2_with fail
    refine hpre.mono ?_
    rintro e w1 ⟨v, rfl, rfl, rfl⟩
    go_wp2
    go_ret3
    refine ⟨_, rfl, [], _, by rw [Hf.out]; rfl, by simp, ?_, Sat.osl_nil.2 (Sat.emp.2 hF.out)⟩
    rw [Hf.out]; rfl
  · have hlm : l.take 8 = Frm.magicB := of_decide_eq_true hm
    have hl8 : 8 ≤ l.length := by
      have := congrArg List.length hlm
      rw [List.length_take] at this
      have h8 : Frm.magicB.length = 8 := rfl
      omega
    have Hf := Lib.hid (show Frm.scan l = Frm.scanL l.length (l.drop 8) 8 by
      unfold Frm.scan
      rw [if_pos hlm])
    have H8 := Lib.hid hl8
    rw [hm] at hpre
    obtain ⟨bk, off, rfl⟩ : ∃ bk off, ba = some ⟨bk, off, none⟩ := by
      obtain ⟨b', o', hb, _⟩ := rdsl_cells (i := 0) (x := .int .u8 (l[0]'(by omega)).toNat) (Hr.out _ hF.out) (by unfold bys; rw [List.getElem?_map, List.getElem?_eq_getElem (by omega)]; rfl)
      exact ⟨_, _, hb⟩
    clear hm hlm hl8
    go_enter Tryd.func27, Tryd.ntmps27
    go_wp2_with fail
    refine hpre.mono ?_
    rintro e w1 ⟨v, rfl, rfl, rfl⟩
    go_wp2_with fail
    go_loopg [6, 5] (l.length - 8) (fun g aq ov wr => ∃ (at_ : Nat) (fs : List (Frm.Fnd × Value)), g = l.length - at_ ∧ 8 ≤ at_ ∧ at_ ≤ l.length ∧ 9 * fs.length ≤ at_ ∧ aq = .int .i64 at_ ∧ (∀ p ∈ fs, p.1.e.key.length = 32) ∧
      (∃ k, l.length - at_ ≤ k ∧ Frm.scan l = (fs.map (·.1) ++ (Frm.scanL k (l.drop at_) at_).1, (Frm.scanL k (l.drop at_) at_).2)) ∧
      Sat w0 wr (osl 70 36 ov (fndsL fs) :: dataF fs :: F))
    case atStart =>
      exact ⟨8, [], rfl, Nat.le_refl _, H8.out, Nat.zero_le _, rfl, by simp, ⟨l.length, by omega, by rw [Hf.out]; rfl⟩, Sat.osl_nil.2 (Sat.emp.2 hF.out)⟩
    case round =>
      obtain ⟨at_, fs, rfl, h8, hat, hfl, rfl, hfk, ⟨k, hk, hsc⟩, hS⟩ := hrel
      have Hk := Lib.hid hk; have Hsc := Lib.hid hsc; have Hfk := Lib.hid hfk; have Hat := Lib.hid (show at_ ≤ l.length ∧ 8 ≤ at_ ∧ 9 * fs.length ≤ at_ from ⟨hat, h8, hfl⟩)
      clear hk hsc hfk h8 hfl
      by_cases hlt : at_ < l.length
      · have c1 : (at_ : Int) < (l.length : Int) := by omega
        have c2 : (at_ : Int) ≤ (bc : Int) := by have := Hbn.out; omega
        have c3 : (l.length : Int) ≤ (bc : Int) := by have := Hbn.out; omega
        have c4 : (at_ : Int) ≤ (l.length : Int) := by omega
        have c5 : (0 : Int) ≤ (at_ : Int) := by omega
        have c6 : ¬ bc = at_ := by have := Hbn.out; omega
        have hsl : ∀ w, (Instr.sliceAt 25 (.slice (some ⟨bk, off, none⟩) l.length bc) (some (.int .i64 at_)) none none).run Tryd.prog w = .ok (.slice (some ⟨bk, off + at_, none⟩) (l.length - at_) (bc - at_)) w := by
          intro w
          go_simp
        have hrd := Lib.hid (fun w hw => rdsl_sub (Hr.out w hw) at_ l.length (bc - at_) hat (Nat.le_refl _))
        rw [List.take_length] at hrd
        have Hlt := Lib.hid hlt
        clear hlt hat
        go_wp2_with ((with_reducible apply at_slice1); refine ⟨?_⟩; refine wl_slice1 (by rfl) (by rfl) hsl ?_)
        refine (fread_c (l.drop at_) (Ro.of_sub hrd.out (by repeat (first | (with_reducible apply sub_refl) | ((with_reducible apply sub_take); (· first | ((repeat (first | with_reducible apply pick0 | with_reducible apply pick_there)); done) | ((repeat (first | apply pick0 | apply pick_there)); done) | fail)) | (with_reducible apply sub_drop)))) ⟨_, _, _, rfl, by have := Hbn.out; omega, by have := Hbn.out; omega⟩ (Ro.of_sub HH.out (by repeat (first | (with_reducible apply sub_refl) | ((with_reducible apply sub_take); (· first | ((repeat (first | with_reducible apply pick0 | with_reducible apply pick_there)); done) | ((repeat (first | apply pick0 | apply pick_there)); done) | fail)) | (with_reducible apply sub_drop)))) (by rw [List.length_drop]; have := Hl.out; omega) hS).mono ?_
        rintro ee w2 ⟨v, rfl, da, dc, rfl, hS2⟩
        have Hrk := Lib.hid (Frm.read_key (l.drop at_))
        obtain ⟨k, rfl⟩ : ∃ k', k = k' + 1 := ⟨k - 1, by have := Hk.out; have := Hlt.out; omega⟩
        have Hne := Lib.hid (show l.drop at_ ≠ [] by
          intro h0
          have := congrArg List.length h0
          rw [List.length_drop] at this
          have := Hlt.out
          simp only [List.length_nil] at *
          omega)
        by_cases hz : (Frm.read (l.drop at_)).2.2 = 0
        · have Hok := Lib.hid (Frm.read_ok hz)
          have Hsc2 := Lib.hid (show Frm.scan l = (fs.map (·.1) ++ (⟨(Frm.read (l.drop at_)).1, at_, (Frm.read (l.drop at_)).2.1⟩ :: (Frm.scanL k ((l.drop at_).drop (Frm.read (l.drop at_)).2.1) (at_ + (Frm.read (l.drop at_)).2.1)).1), (Frm.scanL k ((l.drop at_).drop (Frm.read (l.drop at_)).2.1) (at_ + (Frm.read (l.drop at_)).2.1)).2) by
            rw [Hsc.out]
            simp only [Frm.scanL]
            rw [if_neg Hne.out, if_neg (fun h => h hz)])
          have hN := Hok.out.2.1
          rw [List.length_drop] at hN
          rw [List.drop_drop] at Hsc2
          generalize Frm.read (l.drop at_) = r at *
          obtain ⟨e, n, er⟩ := r
          obtain rfl : er = 0 := hz
          have Hn := Lib.hid (show 9 ≤ n ∧ n ≤ l.length - at_ from ⟨Hok.out.1, hN⟩)
          have Hkey := Lib.hid (show e.key.length = 32 from Hrk.out)
          clear hN Hsc Hrk Hok
          try clear hz
          simp only at Hsc2 hS2
          have hw : IntKind.i64.wrap ((at_ : Int) + (n : Int)) = ((at_ + n : Nat) : Int) := by
            rw [IntWalk.i64_in _ (by have := Hn.out; have := Hl.out; omega)]; omega
          have hlen : (fndsL fs).length ≤ 2147483648 := by
            rw [fndsL_len Hfk.out]
            have := Hat.out; have := Hl.out; omega
          go_wp2_with (first
            | ((with_reducible apply at_allocE); refine ⟨?_⟩; refine wl_allocE (by assumption) ?_; intro bE wE hE) | ((with_reducible apply at_storeE); refine ⟨?_⟩; first | (refine wl_storeE (by assumption) (by rfl) (by rfl) (by first | rfl | assumption | exact Hid.out (by assumption)) (by first | ((repeat (first | with_reducible apply upd0 | with_reducible apply upd_there)); done) | ((repeat (first | apply upd0 | apply upd_there)); done) | fail) (by first | assumption | exact entA_size _ _ rfl | exact entA_size _ _ (by assumption) | exact entA_size _ _ (Hid.out (by assumption))) ?_; intro wS hS) | (refine wl_storeE (e := Frm.zeroE) (da := none) (dn := 0) (dc := 0) (by assumption) (by rfl) (by rfl) rfl (by first | ((repeat (first | with_reducible apply upd0 | with_reducible apply upd_there)); done) | ((repeat (first | apply upd0 | apply upd_there)); done) | fail) (by first | assumption | exact entA_size _ _ rfl | exact entA_size _ _ (by assumption) | exact entA_size _ _ (Hid.out (by assumption))) ?_; intro wS hS)) | ((with_reducible apply at_loadE); refine ⟨?_⟩; refine wl_loadE (by assumption) (by rfl) (by first | ((repeat (first | with_reducible apply pick0 | with_reducible apply pick_there)); done) | ((repeat (first | apply pick0 | apply pick_there)); done) | fail) (by first | rfl | assumption | exact Hid.out (by assumption)) ?_)
            | ((with_reducible apply at_build3); refine ⟨?_⟩; refine wl_build3 (by rfl) (by rfl) (by rfl) (fun w => run_buildFnd e Hkey.out da _ dc at_ n w) ?_)
            | ((with_reducible apply at_build1); refine ⟨?_⟩; refine wl_build1 (e := 70) (sz := 36) (by' := 80) (by kernel_rfl) (by assumption) (by conv => lhs; whnf) (cs := fndA ⟨e, at_, n⟩ (.slice da e.data.length dc)) rfl (fndA_size _ _ Hkey.out) (Nat.le_of_ble_eq_true (by rfl)) ?_; intro bN wN hN)
            | ((with_reducible apply at_append); refine ⟨?_⟩; refine wl_app 70 36 80 (by kernel_rfl) (by assumption) (by rfl) (by rfl) (by first | ((repeat (first | with_reducible apply pick0 | with_reducible apply pick_there)); done) | ((repeat (first | apply pick0 | apply pick_there)); done) | fail) (by first | ((repeat (first | with_reducible apply pick0 | with_reducible apply pick_there)); done) | ((repeat (first | apply pick0 | apply pick_there)); done) | fail) ((fndA_size _ _ Hkey.out).trans (by decide)) (Nat.le_refl 1) (fndA_ones _ _ _ _) hlen (by rw [fndA_size _ _ Hkey.out]; decide) (by decide) rfl ?_; intro bA nA cA wA hA))
          go_roundg (l.length - (at_ + n))
          case measure => have := Hn.out; omega
          case rel =>
            refine ⟨at_ + n, fs ++ [(⟨e, at_, n⟩, .slice da e.data.length dc)], rfl, by have := Hat.out; omega, by have := Hn.out; have := Hat.out; omega, by rw [List.length_append, List.length_singleton]; have := Hat.out; have := Hn.out; omega, by first | rfl | go_num, ?_, ⟨k, by have := Hn.out; have := Hk.out; omega, ?_⟩, ?_⟩
            · intro p hp
              rw [List.mem_append] at hp
              rcases hp with hp | hp
              · exact Hfk.out p hp
              · rw [List.mem_singleton] at hp; subst hp; exact Hkey.out
            · rw [Hsc2.out, List.map_append, List.append_assoc]; rfl
            · rw [fndsL_app, dataF_snoc]
              have e9 : fndsL [((⟨e, at_, n⟩ : Frm.Fnd), Value.slice da e.data.length dc)] = (fndA ⟨e, at_, n⟩ (.slice da e.data.length dc)).toList := by
                unfold fndsL fndA; simp
              rw [e9]
              have h10 : Sat w0 wA (bsl (.slice da e.data.length dc) e.data :: dataF fs :: osl 70 36 (.slice (some ⟨bA, 0, none⟩) nA cA) (fndsL fs ++ (fndA ⟨e, at_, n⟩ (.slice da e.data.length dc)).toList) :: F) := hA.sub (by repeat (first | (with_reducible apply sub_refl) | ((with_reducible apply sub_take); (· first | ((repeat (first | with_reducible apply pick0 | with_reducible apply pick_there)); done) | ((repeat (first | apply pick0 | apply pick_there)); done) | fail)) | (with_reducible apply sub_drop)))
              exact (Sat.star.2 h10).pick1
        · have hfin := Lib.hid (show Frm.scan l = (fs.map (·.1), at_, (Frm.read (l.drop at_)).2.2) by
            rw [Hsc.out]
            simp only [Frm.scanL]
            rw [if_neg Hne.out, if_pos hz, List.append_nil])
          have c9 : ((Frm.read (l.drop at_)).2.2 == 0) = false := by rw [beq_eq_false_iff_ne]; exact hz
          clear hz Hsc
          go_wp2_with (first | ((with_reducible apply at_allocE); refine ⟨?_⟩; refine wl_allocE (by assumption) ?_; intro bE wE hE) | ((with_reducible apply at_storeE); refine ⟨?_⟩; first | (refine wl_storeE (by assumption) (by rfl) (by rfl) (by first | rfl | assumption | exact Hid.out (by assumption)) (by first | ((repeat (first | with_reducible apply upd0 | with_reducible apply upd_there)); done) | ((repeat (first | apply upd0 | apply upd_there)); done) | fail) (by first | assumption | exact entA_size _ _ rfl | exact entA_size _ _ (by assumption) | exact entA_size _ _ (Hid.out (by assumption))) ?_; intro wS hS) | (refine wl_storeE (e := Frm.zeroE) (da := none) (dn := 0) (dc := 0) (by assumption) (by rfl) (by rfl) rfl (by first | ((repeat (first | with_reducible apply upd0 | with_reducible apply upd_there)); done) | ((repeat (first | apply upd0 | apply upd_there)); done) | fail) (by first | assumption | exact entA_size _ _ rfl | exact entA_size _ _ (by assumption) | exact entA_size _ _ (Hid.out (by assumption))) ?_; intro wS hS)) | ((with_reducible apply at_loadE); refine ⟨?_⟩; refine wl_loadE (by assumption) (by rfl) (by first | ((repeat (first | with_reducible apply pick0 | with_reducible apply pick_there)); done) | ((repeat (first | apply pick0 | apply pick_there)); done) | fail) (by first | rfl | assumption | exact Hid.out (by assumption)) ?_))
          go_ret3
          refine ⟨_, rfl, fs, u5, by rw [hfin.out], Hfk.out, ?_, Sat.sub (by assumption) (by repeat (first | (with_reducible apply sub_refl) | ((with_reducible apply sub_take); (· first | ((repeat (first | with_reducible apply pick0 | with_reducible apply pick_there)); done) | ((repeat (first | apply pick0 | apply pick_there)); done) | fail)) | (with_reducible apply sub_drop)))⟩
          rw [hfin.out]; rfl
      · have c1 : ¬ (at_ : Int) < (l.length : Int) := by omega
        have hfin := Lib.hid (show Frm.scan l = (fs.map (·.1), at_, 0) by
          rw [Hsc.out, List.drop_of_length_le (by omega)]
          cases k <;> simp [Frm.scanL])
        clear hlt hat
        go_wp2
        go_ret3
        refine ⟨_, rfl, fs, by rw [hfin.out], fun a b hm => Hfk.out _ hm, u5, ?_, hS⟩
        rw [hfin.out]; rfl
end
end Go.Proofs.YtjklhichekmdhaaDoor
/- The Segs laws' own small functions: SameInts, SameEntry. -/
namespace Go.Proofs.YtjklhichekmdhaaDoor
open Go Go.Sl Go.Med Go.MapKept Go.RowKit
set_option linter.unusedVariables false
section
variable {w0 w : World} {F : List HProp} {av bv v : Value}
set_option maxHeartbeats 4000000 in
/-- Two slices of the same numbers. -/
theorem sameInts_c (la : List Int) (ha : Ro w0 F (rdsl 1 av (ints la))) (hb : Ro w0 F (rdsl 1 bv (ints la))) (h : Sat w0 w F) (hlen : la.length ≤ 9223372036854775807) :
    Calls Tryd.prog 23 #[av, bv] w (Rtn fun v w' => v = .bool true ∧ Sat w0 w' F) := by
  obtain ⟨aa, an, ac, rfl, hal, _⟩ := id (ha w h)
  obtain ⟨ba, bn, bc, rfl, hbl, _⟩ := id (hb w h)
  rw [show (ints la).length = la.length from List.length_map .., Nat.mul_one] at hal hbl
  subst hal
  obtain rfl := hbl.symm
  have Ha := Lib.hid ha; have Hb := Lib.hid hb
  clear ha hb
  go_enter Tryd.func23, Tryd.ntmps23
  go_wp2
  go_loopg [5] la.length (fun g iq wr => ∃ i : Nat, g = la.length - i ∧ i ≤ la.length ∧ iq = .int .i64 i ∧ Sat w0 wr F)
  case atStart => exact ⟨0, rfl, Nat.zero_le _, rfl, h⟩
  case round =>
    obtain ⟨i, rfl, hiN, rfl, hS⟩ := hrel
    by_cases hi : i < la.length
    · have hx : (ints la)[i]? = some (.int .i64 (la[i]'hi)) := by unfold ints; simp [hi]
      obtain ⟨bk, off, rfl, c1⟩ := rdsl_cell (Ha.out _ hS) hx
      obtain ⟨bk2, off2, rfl, c2⟩ := rdsl_cell (Hb.out _ hS) hx
      generalize (la[i]'hi) = X at c1 c2
      clear hx
      have hic : (i : Int) < (la.length : Int) := by omega
      have hS1 := hS.drew
      go_wp2
      refine wpL_begin [8] (fun w' => w'.cell? ⟨bk, off + i, none⟩ = some (.int .i64 X) ∧ w'.cell? ⟨bk2, off2 + i, none⟩ = some (.int .i64 X)) (by kernel_rfl) ?_
      have hG : _ ∧ _ := And.intro c1 c2
      refine rg_pure 0 (by conv => lhs; whnf) (by kernel_rfl) (by intro _ _ _ h; exact h) (by first | ((with_reducible apply gd_move); refine ⟨?_⟩; exact yl_move (by conv => lhs; whnf)) | ((with_reducible apply gd_assign); refine ⟨?_⟩; exact yl_assign (by conv => lhs; whnf)) | ((with_reducible apply gd_nil); refine ⟨?_⟩; exact yl_nil (by conv => lhs; whnf)) | ((with_reducible apply gd_field); refine ⟨?_⟩; exact yl_field (by conv => lhs; whnf) (by ((intro wq; go_simp); first | done | (with_reducible rfl)))) | ((with_reducible apply gd_len); refine ⟨?_⟩; exact yl_len (by conv => lhs; whnf) (by ((intro wq; go_simp); first | done | (with_reducible rfl)))) | ((with_reducible apply gd_bin); refine ⟨?_⟩; exact yl_bin (by conv => lhs; whnf) (by conv => lhs; whnf) (by ((intro wq; go_simp); first | done | (with_reducible rfl)))) | ((with_reducible apply gd_index); refine ⟨?_⟩; exact yl_index (by conv => lhs; whnf) (by conv => lhs; whnf) (by ((intro wq; go_simp); first | done | (with_reducible rfl)))) | ((with_reducible apply gd_extract); refine ⟨?_⟩; exact yl_extract (by conv => lhs; whnf) (by ((intro wq; go_simp); first | done | (with_reducible rfl)))) | ((with_reducible apply gd_un); refine ⟨?_⟩; exact yl_un (by conv => lhs; whnf) (by ((intro wq; go_simp); first | done | (with_reducible rfl)))) | ((with_reducible apply gd_conv); refine ⟨?_⟩; exact yl_conv (by conv => lhs; whnf) (by ((intro wq; go_simp); first | done | (with_reducible rfl)))) | (refine Or.inl ⟨by rfl, ?_⟩; ((intro wq; go_simp); first | done | (with_reducible rfl)))) (by go_frame; first | done | rfl) ?_
      refine rg_pure 1 (by conv => lhs; whnf) (by kernel_rfl) (by intro _ _ _ h; exact h) (by first | ((with_reducible apply gd_move); refine ⟨?_⟩; exact yl_move (by conv => lhs; whnf)) | ((with_reducible apply gd_assign); refine ⟨?_⟩; exact yl_assign (by conv => lhs; whnf)) | ((with_reducible apply gd_nil); refine ⟨?_⟩; exact yl_nil (by conv => lhs; whnf)) | ((with_reducible apply gd_field); refine ⟨?_⟩; exact yl_field (by conv => lhs; whnf) (by ((intro wq; go_simp); first | done | (with_reducible rfl)))) | ((with_reducible apply gd_len); refine ⟨?_⟩; exact yl_len (by conv => lhs; whnf) (by ((intro wq; go_simp); first | done | (with_reducible rfl)))) | ((with_reducible apply gd_bin); refine ⟨?_⟩; exact yl_bin (by conv => lhs; whnf) (by conv => lhs; whnf) (by ((intro wq; go_simp); first | done | (with_reducible rfl)))) | ((with_reducible apply gd_index); refine ⟨?_⟩; exact yl_index (by conv => lhs; whnf) (by conv => lhs; whnf) (by ((intro wq; go_simp); first | done | (with_reducible rfl)))) | ((with_reducible apply gd_extract); refine ⟨?_⟩; exact yl_extract (by conv => lhs; whnf) (by ((intro wq; go_simp); first | done | (with_reducible rfl)))) | ((with_reducible apply gd_un); refine ⟨?_⟩; exact yl_un (by conv => lhs; whnf) (by ((intro wq; go_simp); first | done | (with_reducible rfl)))) | ((with_reducible apply gd_conv); refine ⟨?_⟩; exact yl_conv (by conv => lhs; whnf) (by ((intro wq; go_simp); first | done | (with_reducible rfl)))) | (refine Or.inl ⟨by rfl, ?_⟩; ((intro wq; go_simp); first | done | (with_reducible rfl)))) (by go_frame; first | done | rfl) ?_
      refine rg_pure 2 (by conv => lhs; whnf) (by kernel_rfl) (by intro _ _ _ h; exact h) (by first | ((with_reducible apply gd_move); refine ⟨?_⟩; exact yl_move (by conv => lhs; whnf)) | ((with_reducible apply gd_assign); refine ⟨?_⟩; exact yl_assign (by conv => lhs; whnf)) | ((with_reducible apply gd_nil); refine ⟨?_⟩; exact yl_nil (by conv => lhs; whnf)) | ((with_reducible apply gd_field); refine ⟨?_⟩; exact yl_field (by conv => lhs; whnf) (by ((intro wq; go_simp); first | done | (with_reducible rfl)))) | ((with_reducible apply gd_len); refine ⟨?_⟩; exact yl_len (by conv => lhs; whnf) (by ((intro wq; go_simp); first | done | (with_reducible rfl)))) | ((with_reducible apply gd_bin); refine ⟨?_⟩; exact yl_bin (by conv => lhs; whnf) (by conv => lhs; whnf) (by ((intro wq; go_simp); first | done | (with_reducible rfl)))) | ((with_reducible apply gd_index); refine ⟨?_⟩; exact yl_index (by conv => lhs; whnf) (by conv => lhs; whnf) (by ((intro wq; go_simp); first | done | (with_reducible rfl)))) | ((with_reducible apply gd_extract); refine ⟨?_⟩; exact yl_extract (by conv => lhs; whnf) (by ((intro wq; go_simp); first | done | (with_reducible rfl)))) | ((with_reducible apply gd_un); refine ⟨?_⟩; exact yl_un (by conv => lhs; whnf) (by ((intro wq; go_simp); first | done | (with_reducible rfl)))) | ((with_reducible apply gd_conv); refine ⟨?_⟩; exact yl_conv (by conv => lhs; whnf) (by ((intro wq; go_simp); first | done | (with_reducible rfl)))) | (refine Or.inl ⟨by rfl, ?_⟩; ((intro wq; go_simp); first | done | (with_reducible rfl)))) (by go_frame; first | done | rfl) ?_
      refine rg_take 3 (by conv => lhs; whnf) (by kernel_rfl) (by intro _ _ _ h; exact h) (by first | exact tk_load (by conv => lhs; whnf) (by kernel_rfl) (by intro wq hq; first | exact hq | exact hq.1 | exact hq.2 | exact hq.2.1 | exact hq.2.2 | exact hq.2.2.1 | exact hq.2.2.2 | exact hq.2.2.2.1 | exact hq.2.2.2.2) | (refine Or.inl ⟨by rfl, ?_⟩; (intro wq hq; go_split_ands; go_simp); first | done | (with_reducible rfl))) (by assumption) (by go_frame; first | done | rfl) ?_
      refine rg_pure 4 (by conv => lhs; whnf) (by kernel_rfl) (by intro _ _ _ h; exact h) (by first | ((with_reducible apply gd_move); refine ⟨?_⟩; exact yl_move (by conv => lhs; whnf)) | ((with_reducible apply gd_assign); refine ⟨?_⟩; exact yl_assign (by conv => lhs; whnf)) | ((with_reducible apply gd_nil); refine ⟨?_⟩; exact yl_nil (by conv => lhs; whnf)) | ((with_reducible apply gd_field); refine ⟨?_⟩; exact yl_field (by conv => lhs; whnf) (by ((intro wq; go_simp); first | done | (with_reducible rfl)))) | ((with_reducible apply gd_len); refine ⟨?_⟩; exact yl_len (by conv => lhs; whnf) (by ((intro wq; go_simp); first | done | (with_reducible rfl)))) | ((with_reducible apply gd_bin); refine ⟨?_⟩; exact yl_bin (by conv => lhs; whnf) (by conv => lhs; whnf) (by ((intro wq; go_simp); first | done | (with_reducible rfl)))) | ((with_reducible apply gd_index); refine ⟨?_⟩; exact yl_index (by conv => lhs; whnf) (by conv => lhs; whnf) (by ((intro wq; go_simp); first | done | (with_reducible rfl)))) | ((with_reducible apply gd_extract); refine ⟨?_⟩; exact yl_extract (by conv => lhs; whnf) (by ((intro wq; go_simp); first | done | (with_reducible rfl)))) | ((with_reducible apply gd_un); refine ⟨?_⟩; exact yl_un (by conv => lhs; whnf) (by ((intro wq; go_simp); first | done | (with_reducible rfl)))) | ((with_reducible apply gd_conv); refine ⟨?_⟩; exact yl_conv (by conv => lhs; whnf) (by ((intro wq; go_simp); first | done | (with_reducible rfl)))) | (refine Or.inl ⟨by rfl, ?_⟩; ((intro wq; go_simp); first | done | (with_reducible rfl)))) (by go_frame; first | done | rfl) ?_
      refine rg_pure 5 (by conv => lhs; whnf) (by kernel_rfl) (by intro _ _ _ h; exact h) (by first | ((with_reducible apply gd_move); refine ⟨?_⟩; exact yl_move (by conv => lhs; whnf)) | ((with_reducible apply gd_assign); refine ⟨?_⟩; exact yl_assign (by conv => lhs; whnf)) | ((with_reducible apply gd_nil); refine ⟨?_⟩; exact yl_nil (by conv => lhs; whnf)) | ((with_reducible apply gd_field); refine ⟨?_⟩; exact yl_field (by conv => lhs; whnf) (by ((intro wq; go_simp); first | done | (with_reducible rfl)))) | ((with_reducible apply gd_len); refine ⟨?_⟩; exact yl_len (by conv => lhs; whnf) (by ((intro wq; go_simp); first | done | (with_reducible rfl)))) | ((with_reducible apply gd_bin); refine ⟨?_⟩; exact yl_bin (by conv => lhs; whnf) (by conv => lhs; whnf) (by ((intro wq; go_simp); first | done | (with_reducible rfl)))) | ((with_reducible apply gd_index); refine ⟨?_⟩; exact yl_index (by conv => lhs; whnf) (by conv => lhs; whnf) (by ((intro wq; go_simp); first | done | (with_reducible rfl)))) | ((with_reducible apply gd_extract); refine ⟨?_⟩; exact yl_extract (by conv => lhs; whnf) (by ((intro wq; go_simp); first | done | (with_reducible rfl)))) | ((with_reducible apply gd_un); refine ⟨?_⟩; exact yl_un (by conv => lhs; whnf) (by ((intro wq; go_simp); first | done | (with_reducible rfl)))) | ((with_reducible apply gd_conv); refine ⟨?_⟩; exact yl_conv (by conv => lhs; whnf) (by ((intro wq; go_simp); first | done | (with_reducible rfl)))) | (refine Or.inl ⟨by rfl, ?_⟩; ((intro wq; go_simp); first | done | (with_reducible rfl)))) (by go_frame; first | done | rfl) ?_
      refine rg_pure 6 (by conv => lhs; whnf) (by kernel_rfl) (by intro _ _ _ h; exact h) (by first | ((with_reducible apply gd_move); refine ⟨?_⟩; exact yl_move (by conv => lhs; whnf)) | ((with_reducible apply gd_assign); refine ⟨?_⟩; exact yl_assign (by conv => lhs; whnf)) | ((with_reducible apply gd_nil); refine ⟨?_⟩; exact yl_nil (by conv => lhs; whnf)) | ((with_reducible apply gd_field); refine ⟨?_⟩; exact yl_field (by conv => lhs; whnf) (by ((intro wq; go_simp); first | done | (with_reducible rfl)))) | ((with_reducible apply gd_len); refine ⟨?_⟩; exact yl_len (by conv => lhs; whnf) (by ((intro wq; go_simp); first | done | (with_reducible rfl)))) | ((with_reducible apply gd_bin); refine ⟨?_⟩; exact yl_bin (by conv => lhs; whnf) (by conv => lhs; whnf) (by ((intro wq; go_simp); first | done | (with_reducible rfl)))) | ((with_reducible apply gd_index); refine ⟨?_⟩; exact yl_index (by conv => lhs; whnf) (by conv => lhs; whnf) (by ((intro wq; go_simp); first | done | (with_reducible rfl)))) | ((with_reducible apply gd_extract); refine ⟨?_⟩; exact yl_extract (by conv => lhs; whnf) (by ((intro wq; go_simp); first | done | (with_reducible rfl)))) | ((with_reducible apply gd_un); refine ⟨?_⟩; exact yl_un (by conv => lhs; whnf) (by ((intro wq; go_simp); first | done | (with_reducible rfl)))) | ((with_reducible apply gd_conv); refine ⟨?_⟩; exact yl_conv (by conv => lhs; whnf) (by ((intro wq; go_simp); first | done | (with_reducible rfl)))) | (refine Or.inl ⟨by rfl, ?_⟩; ((intro wq; go_simp); first | done | (with_reducible rfl)))) (by go_frame; first | done | rfl) ?_
      refine rg_take 7 (by conv => lhs; whnf) (by kernel_rfl) (by intro _ _ _ h; exact h) (by first | exact tk_load (by conv => lhs; whnf) (by kernel_rfl) (by intro wq hq; first | exact hq | exact hq.1 | exact hq.2 | exact hq.2.1 | exact hq.2.2 | exact hq.2.2.1 | exact hq.2.2.2 | exact hq.2.2.2.1 | exact hq.2.2.2.2) | (refine Or.inl ⟨by rfl, ?_⟩; (intro wq hq; go_split_ands; go_simp); first | done | (with_reducible rfl))) (by assumption) (by go_frame; first | done | rfl) ?_
      refine rg_pure 8 (by conv => lhs; whnf) (by kernel_rfl) (by intro _ _ _ h; exact h) (by first | ((with_reducible apply gd_move); refine ⟨?_⟩; exact yl_move (by conv => lhs; whnf)) | ((with_reducible apply gd_assign); refine ⟨?_⟩; exact yl_assign (by conv => lhs; whnf)) | ((with_reducible apply gd_nil); refine ⟨?_⟩; exact yl_nil (by conv => lhs; whnf)) | ((with_reducible apply gd_field); refine ⟨?_⟩; exact yl_field (by conv => lhs; whnf) (by ((intro wq; go_simp); first | done | (with_reducible rfl)))) | ((with_reducible apply gd_len); refine ⟨?_⟩; exact yl_len (by conv => lhs; whnf) (by ((intro wq; go_simp); first | done | (with_reducible rfl)))) | ((with_reducible apply gd_bin); refine ⟨?_⟩; exact yl_bin (by conv => lhs; whnf) (by conv => lhs; whnf) (by ((intro wq; go_simp); first | done | (with_reducible rfl)))) | ((with_reducible apply gd_index); refine ⟨?_⟩; exact yl_index (by conv => lhs; whnf) (by conv => lhs; whnf) (by ((intro wq; go_simp); first | done | (with_reducible rfl)))) | ((with_reducible apply gd_extract); refine ⟨?_⟩; exact yl_extract (by conv => lhs; whnf) (by ((intro wq; go_simp); first | done | (with_reducible rfl)))) | ((with_reducible apply gd_un); refine ⟨?_⟩; exact yl_un (by conv => lhs; whnf) (by ((intro wq; go_simp); first | done | (with_reducible rfl)))) | ((with_reducible apply gd_conv); refine ⟨?_⟩; exact yl_conv (by conv => lhs; whnf) (by ((intro wq; go_simp); first | done | (with_reducible rfl)))) | (refine Or.inl ⟨by rfl, ?_⟩; ((intro wq; go_simp); first | done | (with_reducible rfl)))) (by go_frame; first | done | rfl) ?_
      refine wpL_done (by kernel_rfl) ?_
      clear hG
      try go_frame
      go_wp2
      go_roundg (la.length - (i + 1))
      case measure => omega
      case rel => exact ⟨i + 1, rfl, by omega, by go_num, hS1⟩
    · obtain rfl : i = la.length := by omega
      have hic : ¬ (la.length : Int) < (la.length : Int) := by omega
      go_wp2
      go_ret
      exact ⟨.bool true, rfl, rfl, hS⟩
section
variable {L R : List HProp} {b o : Nat} {ops : Array Oper} {rest : List Oper} {a : Act} {Q : Exit → Act → World → Prop} {dst : Option Tmp} {t ty T : TypeId} {pos : String} {after : Array Edge} {P : Program} {x : Operand} {cs : Array Value} {g : Nat × Bool}
theorem at_loadG (h : Stop (wpList P ops Q (⟨dst, .load ty x, t, pos, after, some g⟩ :: rest) a w)) : wpList P ops Q (⟨dst, .load ty x, t, pos, after, some g⟩ :: rest) a w := h.out
theorem wl_loadG1 (hw : Region.wanted ⟨dst, .load ty x, t, pos, after, some g⟩ (yielded ops a.tmps) = true) (hs : Sat w0 w L) (hx : a.eval x = .pointer (some ⟨b, o, none⟩)) (p : Pick (pt b (.cells cs T (0,0))) L R) (hlt : o + 1 ≤ cs.size) (hv : cs.getD o undef = v) (h1 : oneB P ty = true)
    (h : wpList P ops Q rest (a.put dst v) w) : wpList P ops Q (⟨dst, .load ty x, t, pos, after, some g⟩ :: rest) a w :=
  wpList_step fun _ hK => by
    rw [if_pos hw]
    unfold Oper.wp execOp
    simp only [hx, Instr.loadAt, Instr.sureAddr, Sem.run_bind, Sem.run_pure, Result.andThen_ok, run_load1 h1 (hs.cellP p o (getD_get hlt hv))]
    exact hK _ _ h
theorem wl_loadGm (hw : Region.wanted ⟨dst, .load ty x, t, pos, after, some g⟩ (yielded ops a.tmps) = true) (hx : a.eval x = .pointer (some ⟨b, o, none⟩)) (cl : List Value) (d : TypeDesc) (hc : w.rangeAt b o cl)
    (hu : P.underlying ty = some d) (hd : d.isRow = true) (hi : (P.info? ty).map (·.size) = some cl.length)
    (h : wpList P ops Q rest (a.put dst (.agg cl.toArray)) w) : wpList P ops Q (⟨dst, .load ty x, t, pos, after, some g⟩ :: rest) a w :=
  wpList_step fun _ hK => by
    rw [if_pos hw]
    exact wp_load_mid ty x rfl b o hx cl d hc hu hd hi (hK _ _ h)
end
theorem entA_g0 (x : Frm.Ent) (dv : Value) : (entA x dv).getD 0 undef = .int .i64 x.tag := rfl
theorem entA_g33 (x : Frm.Ent) (dv : Value) (hk : x.key.length = 32) : (entA x dv).getD 33 undef = dv := by
  rw [Array.getD_eq_getD_getElem?, entA_33 x dv hk]; rfl
theorem ent_range {L R : List HProp} {b : Nat} {e : Frm.Ent} {dv : Value} {T : TypeId} (h : Sat w0 w L) (p : Pick (pt b (.cells (entA e dv) T (0,0))) L R) (hk : e.key.length = 32) : w.rangeAt b 1 (bys e.key) := by
  intro j y hj
  have := entA_key e dv hk j y (by simpa using hj)
  exact h.cellP p (1 + j) this
set_option maxRecDepth 20000 in
set_option maxHeartbeats 4000000 in
/-- The same entry twice. -/
theorem sameEntry_c (e : Frm.Ent) (hk : e.key.length = 32) (da db : Option Addr) (na nb ca cb : Nat) (ha : Ro w0 F (rdsl 1 (.slice da na ca) (bys e.data))) (hb : Ro w0 F (rdsl 1 (.slice db nb cb) (bys e.data))) (h : Sat w0 w F) (hlen : e.data.length ≤ 9223372036854775807) :
    Calls Tryd.prog 26 #[.agg (entA e (.slice da na ca)), .agg (entA e (.slice db nb cb))] w (Rtn fun v w' => v = .bool true ∧ Sat w0 w' F) := by
  have Ha := Lib.hid ha; have Hb := Lib.hid hb
  clear ha hb
  have hq : ∀ w, (Op.equalIn 10000 24 (.agg (bys e.key).toArray) (.agg (bys e.key).toArray)).run Tryd.prog w = .ok true w := fun w => by rw [eqIn_key _ _ hk hk]; simp
  go_enter Tryd.func26, Tryd.ntmps26
  go_wp2_with (first
    | ((with_reducible apply at_boxE); refine ⟨?_⟩; refine wl_boxE (by assumption) (by rfl) ?_; intro bX wX hX)
    | ((with_reducible apply at_load); refine ⟨?_⟩; refine wl_load1 (by assumption) (by rfl) (by first | ((repeat (first | with_reducible apply pick0 | with_reducible apply pick_there)); done) | ((repeat (first | apply pick0 | apply pick_there)); done) | fail) (by rw [entA_size _ _ hk]; decide) (entA_g33 _ _ hk) (by kernel_rfl) ?_)
    | ((with_reducible apply at_load); refine ⟨?_⟩; refine wl_load1 (by assumption) (by rfl) (by first | ((repeat (first | with_reducible apply pick0 | with_reducible apply pick_there)); done) | ((repeat (first | apply pick0 | apply pick_there)); done) | fail) (by rw [entA_size _ _ hk]; decide) (entA_g0 _ _) (by kernel_rfl) ?_)
    | ((with_reducible apply at_loadG); refine ⟨?_⟩; refine wl_loadGm (o := 1) (by rfl) (by rfl) (bys e.key) _ (ent_range (by assumption) (by first | ((repeat (first | with_reducible apply pick0 | with_reducible apply pick_there)); done) | ((repeat (first | apply pick0 | apply pick_there)); done) | fail) hk) Tryd.underlying24 rfl (by rw [bys_len, hk]; kernel_rfl) ?_)
    | ((with_reducible apply at_loadG); refine ⟨?_⟩; refine wl_loadG1 (by rfl) (by assumption) (by rfl) (by first | ((repeat (first | with_reducible apply pick0 | with_reducible apply pick_there)); done) | ((repeat (first | apply pick0 | apply pick_there)); done) | fail) (by rw [entA_size _ _ hk]; decide) (entA_g33 _ _ hk) (by kernel_rfl) ?_))
  refine (same_c e.data Ha.out Hb.out (Sat.sub (by assumption) (by repeat (first | (with_reducible apply sub_refl) | ((with_reducible apply sub_take); (· first | ((repeat (first | with_reducible apply pick0 | with_reducible apply pick_there)); done) | ((repeat (first | apply pick0 | apply pick_there)); done) | fail)) | (with_reducible apply sub_drop)))) hlen).mono ?_
  rintro ee w2 ⟨v, rfl, rfl, hS2⟩
  go_wp2
  go_ret
  exact ⟨_, rfl, rfl, Sat.sub hS2 (by repeat (first | (with_reducible apply sub_refl) | ((with_reducible apply sub_take); (· first | ((repeat (first | with_reducible apply pick0 | with_reducible apply pick_there)); done) | ((repeat (first | apply pick0 | apply pick_there)); done) | fail)) | (with_reducible apply sub_drop)))⟩
end
end Go.Proofs.YtjklhichekmdhaaDoor
/- hoardlaw14.SegsFull. -/
namespace Go.Proofs.YtjklhichekmdhaaDoor
open Go Go.Sl Go.Med Go.MapKept Go.RowKit
set_option linter.unusedVariables false
section
variable {w0 w : World} {F R : List HProp} {v bv dv x lv : Value}
theorem dataD_at : ∀ (es : List SD) (i : Nat) (d : SD), es[i]? = some d → ∃ G, dataD es = star (bsl d.dv d.c.e.data) G
  | [], _, _, h => by cases h
  | x :: es, 0, d, h => by
    obtain rfl : x = d := by simpa using h
    exact ⟨_, rfl⟩
  | x :: es, i + 1, d, h => by
    obtain ⟨G, hG⟩ := dataD_at es i d (by simpa using h)
    refine ⟨star (bsl x.dv x.c.e.data) G, ?_⟩
    show star (bsl x.dv x.c.e.data) (dataD es) = _
    rw [hG, star_left_comm]
/-- A call's bytes may be read. -/
theorem dataD_ro {es : List SD} {i : Nat} {d : SD} (h : es[i]? = some d) : Ro w0 (dataD es :: R) (rdsl 1 d.dv (bys d.c.e.data)) := fun w hw => by
  obtain ⟨G, hG⟩ := dataD_at es i d h
  rw [hG] at hw
  exact Sat.rd (Sat.star.1 hw)
/-- A call, in the memory of its slice. -/
theorem sds_at {es : List SD} {v : Value} {i : Nat} {d : SD} (hk : ∀ d ∈ es, d.c.e.key.length = 32) (hi : es[i]? = some d) (h : Sat w0 w (osl 43 40 v (sdsL es) :: R)) :
    ∃ bk off c, v = .slice (some ⟨bk, off, none⟩) es.length c ∧ ∀ j y, (sdL d)[j]? = some y → w.cell? ⟨bk, off + i * 40 + j, none⟩ = some y := by
  have hr := Sat.rd h
  obtain ⟨a, n, c, rfl, hl, hx⟩ := id hr
  rw [sdsL_len hk] at hl
  obtain rfl : n = es.length := by omega
  have hx0 : (sdsL es)[i * 40 + 0]? = some (.int .i64 d.c.kind) := sdsL_at hk hi rfl
  obtain ⟨bk, off, rfl, hcell⟩ := rdsl_cells hr hx0
  refine ⟨bk, off, c, rfl, fun j y hj => ?_⟩
  have := hcell _ _ (sdsL_at hk hi hj)
  rw [← Nat.add_assoc] at this
  exact this
theorem sds_len {es : List SD} {v : Value} (hk : ∀ d ∈ es, d.c.e.key.length = 32) (h : Sat w0 w (osl 43 40 v (sdsL es) :: R)) : ∃ a c, v = .slice a es.length c := by
  obtain ⟨a, n, c, rfl, hl, hx⟩ := Sat.rd h
  rw [sdsL_len hk] at hl
  obtain rfl : n = es.length := by omega
  exact ⟨a, c, rfl⟩
theorem bsz_ro {vs : List Value} {bs : List Bs} {i : Nat} {v : Value} {b : Bs} (h : vs[i]? = some v) (k : bs[i]? = some b) : Ro w0 (bsz vs bs :: R) (rdsl 1 v (bys b)) := fun w hw => by
  obtain ⟨G, hG⟩ := bsz_at vs bs i v b h k
  rw [hG] at hw
  exact Sat.rd (Sat.star.1 hw)
end
end Go.Proofs.YtjklhichekmdhaaDoor
namespace Go.Seg
open Go.Med
theorem bytes_same {L L' : Log} {M M' : Med} (h : L'.l = L.l) (a : Alike M M') (n : Int) : L'.bytes M' n = L.bytes M n := by
  unfold Log.bytes Log.at
  rw [h]
  split
  · rfl
  · exact a.all _
theorem bytes_len {K : Nat} {L : Log} {M : Med} (h : M.Ok K) (n : Int) : (L.bytes M n).1.length ≤ 16777216 := by
  unfold Log.bytes
  split
  · simp
  · unfold Med.all
    split
    · simp
    split
    · simp
    · exact (h.file _).now_len
theorem bytes_ok {K r : Nat} {L : Log} {M : Med} (h : Keeps K r L M) {n : Int} (hn : n ∈ L.segs) : (L.bytes M n).2 = 0 := by
  unfold Log.segs at hn
  obtain ⟨s, hs, rfl⟩ := List.mem_map.1 hn
  unfold Log.bytes
  cases hat : L.at s.1 with
  | none =>
    unfold Log.at at hat
    rw [List.findIdx?_eq_none_iff] at hat
    have := hat s hs
    simp at this
  | some i => exact bytes_there h hs
end Go.Seg
/- A []hoardlaw14.Do that came in. -/
namespace Go.Proofs.YtjklhichekmdhaaDoor
open Go Go.Sl Go.Med Go.ChangeShapes Go.WideShapes Go.RowKit
set_option linter.unusedVariables false
structure SD.At (W : World) (d : SD) : Prop where
  kind : inI d.c.kind
  e : EntAt W (d.c.e, d.dv)
  n : inI d.c.n
  p1 : inI d.c.p.seg
  p2 : inI d.c.p.at_
  p3 : inI d.c.p.size
  rd : rdsl 1 d.lv (ints d.c.l) W
  cap : capOk d.lv
  ins : ∀ i ∈ d.c.l, inI i
section
variable {H : Type} {enc : TypeId × Value → H} {W : World} {base : Nat} {spare : Nat → Bool} {held : Bool}
set_option maxRecDepth 100000 in
theorem open_sd {fuel : Nat} {cs : List Value} {x : DataW H × List MemPlace} (h : DataW.trod enc Tryd.prog W base spare held fuel 43 cs = some x) : ∃ d : SD, sdL d = cs ∧ d.At W := by
  obtain ⟨hl, hf⟩ := open_fields Tryd.underlying43 h
  have e40 : Tryd.prog.cellsOf 43 = 40 := by kernel_rfl
  have e1 : Tryd.prog.cellsOf 3 = 1 := by kernel_rfl
  have e34 : Tryd.prog.cellsOf 27 = 34 := by kernel_rfl
  have e3 : Tryd.prog.cellsOf 40 = 3 := by kernel_rfl
  have e4 : Tryd.prog.cellsOf 41 = 1 := by kernel_rfl
  rw [e40] at hl
  obtain ⟨n0, y0, h0⟩ := hf 0 _ rfl
  obtain ⟨n1, y1, h1⟩ := hf 1 _ rfl
  obtain ⟨n2, y2, h2⟩ := hf 2 _ rfl
  obtain ⟨n3, y3, h3⟩ := hf 3 _ rfl
  obtain ⟨n4, y4, h4⟩ := hf 4 _ rfl
  simp only [List.getElem_toArray, List.getElem_cons_zero, List.getElem_cons_succ, e1, e34, e3, e4, List.drop_zero] at h0 h1 h2 h3 h4
  obtain ⟨z0, q0, _, w0⟩ := DataW.trod_int Tryd.underlying3 h0
  obtain ⟨⟨ex, dv⟩, k1, k2⟩ := open_ent h1
  obtain ⟨z2, q2, _, w2⟩ := DataW.trod_int Tryd.underlying3 h2
  obtain ⟨a, b, c, q3, wa, wb, wc⟩ := open_plc h3
  have hd : ∃ v, (cs.drop 39).take 1 = [v] := by
    have : ((cs.drop 39).take 1).length = 1 := by rw [List.length_take, List.length_drop]; omega
    exact List.length_eq_one_iff.1 this
  obtain ⟨lv, hlv⟩ := hd
  rw [hlv] at h4
  obtain ⟨l6, r6, c6, i6⟩ := in_nums Tryd.underlying41 Tryd.underlying3 e1 h4
  refine ⟨⟨⟨z0, ex, z2, ⟨a, b, c⟩, l6⟩, dv, lv⟩, ?_, bounds_i64 w0, k2, bounds_i64 w2, wa, wb, wc, r6, c6, i6⟩
  show Value.int .i64 z0 :: (entL ex dv ++ [.int .i64 z2, .int .i64 a, .int .i64 b, .int .i64 c, lv]) = cs
  have s1 : cs = cs.take 1 ++ ((cs.drop 1).take 34 ++ ((cs.drop 35).take 1 ++ ((cs.drop 36).take 3 ++ (cs.drop 39).take 1))) := by
    have a4 : (cs.drop 39).take 1 = cs.drop 39 := List.take_of_length_le (by rw [List.length_drop]; omega)
    have a3 : (cs.drop 36).take 3 ++ cs.drop 39 = cs.drop 36 := by
      rw [show cs.drop 39 = (cs.drop 36).drop 3 by rw [List.drop_drop]]; exact List.take_append_drop 3 _
    have a2 : (cs.drop 35).take 1 ++ cs.drop 36 = cs.drop 35 := by
      rw [show cs.drop 36 = (cs.drop 35).drop 1 by rw [List.drop_drop]]; exact List.take_append_drop 1 _
    have a1 : (cs.drop 1).take 34 ++ cs.drop 35 = cs.drop 1 := by
      rw [show cs.drop 35 = (cs.drop 1).drop 34 by rw [List.drop_drop]]; exact List.take_append_drop 34 _
    rw [a4, a3, a2, a1]
    exact (List.take_append_drop 1 cs).symm
  rw [s1, q0, ← k1, q2, q3, hlv]; rfl
theorem in_sds {fuel : Nat} {v : Value} {x : DataW H × List MemPlace} (h : DataW.trod enc Tryd.prog W base spare held fuel 22 [v] = some x) :
    ∃ ds : List SD, rdsl 40 v (sdsL ds) W ∧ capOk v ∧ ∀ d ∈ ds, d.At W := by
  obtain ⟨elems, h1, h2, h3⟩ := open_sl Tryd.underlying22 (k := 40) (by kernel_rfl) (by omega) h
  obtain ⟨ds, h4, h5⟩ := map_of (f := sdL) (p := fun d => d.At W) elems fun cs hcs => by
    obtain ⟨_, n, y, h6⟩ := h3 cs hcs
    exact open_sd h6
  refine ⟨ds, ?_, h2, h5⟩
  unfold sdsL
  rw [List.flatMap_def, h4]
  exact h1
theorem SD.At.ro {d : SD} (h : d.At W) : SDRo W [Sl.old W] d := ⟨h.e.key, rd_old h.e.rd, h.e.cap, rd_old h.rd, h.cap⟩
end
end Go.Proofs.YtjklhichekmdhaaDoor
/- hoardlaw14.SegsNames. -/
namespace Go.Seg
theorem number_no (s : ByteArray) (h : (number s).2 = false) : (number s).1 = 0 := by
  unfold number at *
  dsimp only at *
  split at h
  · cases h
  · rename_i hh; rw [if_neg hh]
theorem number_name (n : Int) (h1 : 0 ≤ n) (h2 : n < 1048576) : number (name n) = (n, true) := by
  unfold name
  rw [if_neg (by omega)]
  unfold number
  have hl : (lead ++ digs n.toNat 8).length = 12 := by rw [List.length_append, digs_len]; rfl
  have hd : (lead ++ digs n.toNat 8).drop 4 = digs n.toNat 8 := rfl
  have ht : (lead ++ digs n.toNat 8).take 4 = lead := rfl
  have hv := val_digs 8 n.toNat (by omega)
  simp only [hl, hd, ht, digs_dig, hv, true_and]
  rw [if_pos (by omega)]
  simp only [Prod.mk.injEq, and_true]
  omega
theorem number_name_no (n : Int) (h : n < 0 ∨ 1048576 ≤ n) : number (name n) = (0, false) := by
  unfold name
  rw [if_pos h]
  rfl
end Go.Seg
namespace Go.Proofs.YtjklhichekmdhaaDoor
open Go Go.Sl Go.Med Go.MapKept Go.RowKit
set_option linter.unusedVariables false
section
variable {w0 w : World} {F : List HProp}
end
end Go.Proofs.YtjklhichekmdhaaDoor
