import Derived.Test.YtdhhbajggafdhaaDoorFrm
import Derived.Test.YtdhhbajggafdhaaDoorMedQ
/- The plain model of layer 14 (segs). No program in sight. -/
namespace Go.Seg
abbrev Bs := List UInt8
def digs (n : Nat) : Nat → Bs
  | 0 => []
  | k + 1 => digs (n / 10) k ++ [UInt8.ofNat (48 + n % 10)]
def lead : Bs := [115, 101, 103, 46]
def name (n : Int) : ByteArray := if n < 0 ∨ 1048576 ≤ n then ByteArray.empty else ⟨(lead ++ digs n.toNat 8).toArray⟩
theorem digs_zero : ∀ k, digs 0 k = List.replicate k 48
  | 0 => rfl
  | k + 1 => by
    show digs (0 / 10) k ++ [UInt8.ofNat (48 + 0 % 10)] = _
    rw [Nat.zero_div, digs_zero k, List.replicate_succ', show UInt8.ofNat (48 + 0 % 10) = 48 from rfl]
theorem digs_len (n k : Nat) : (digs n k).length = k := by
  induction k generalizing n with
  | zero => rfl
  | succ k ih => simp [digs, ih]
def isDig (c : UInt8) : Bool := decide (48 ≤ c.toNat) && decide (c.toNat ≤ 57)
def val (b : Bs) : Nat := b.foldl (fun n c => 10 * n + (c.toNat - 48)) 0
theorem val_snoc (b : Bs) (c : UInt8) : val (b ++ [c]) = 10 * val b + (c.toNat - 48) := by unfold val; rw [List.foldl_append]; rfl
theorem val_digs (k : Nat) : ∀ n, n < 10 ^ k → val (digs n k) = n := by
  induction k with
  | zero => intro n h; simp at h; subst h; rfl
  | succ k ih =>
    intro n h
    show val (digs (n / 10) k ++ [UInt8.ofNat (48 + n % 10)]) = n
    rw [val_snoc, ih (n / 10) (by rw [Nat.div_lt_iff_lt_mul (by omega)]; rw [Nat.pow_succ] at h; exact h), UInt8.toNat_ofNat']
    omega
theorem digs_dig (k : Nat) : ∀ n, (digs n k).all isDig = true := by
  induction k with
  | zero => intro n; rfl
  | succ k ih =>
    intro n
    show (digs (n / 10) k ++ [UInt8.ofNat (48 + n % 10)]).all isDig = true
    rw [List.all_append, ih, Bool.true_and]
    simp only [List.all_cons, List.all_nil, Bool.and_true, isDig, UInt8.toNat_ofNat']
    rw [Bool.and_eq_true, decide_eq_true_eq, decide_eq_true_eq]
    omega
theorem digs_val (b : Bs) (h : b.all isDig = true) : digs (val b) b.length = b := by
  rw [← List.reverse_reverse b] at *
  generalize b.reverse = r at *
  induction r with
  | nil => rfl
  | cons c r ih =>
    rw [List.reverse_cons] at h ⊢
    rw [List.all_append, Bool.and_eq_true] at h
    have hc : isDig c = true := by simpa using h.2
    unfold isDig at hc
    rw [Bool.and_eq_true, decide_eq_true_eq, decide_eq_true_eq] at hc
    rw [val_snoc, List.length_append, List.length_singleton]
    show digs ((10 * val r.reverse + (c.toNat - 48)) / 10) r.reverse.length ++ [UInt8.ofNat (48 + (10 * val r.reverse + (c.toNat - 48)) % 10)] = _
    have e1 : (10 * val r.reverse + (c.toNat - 48)) / 10 = val r.reverse := by omega
    have e2 : 48 + (10 * val r.reverse + (c.toNat - 48)) % 10 = c.toNat := by omega
    rw [e1, e2, ih h.1, UInt8.ofNat_toNat]
theorem val_lt (b : Bs) (h : b.all isDig = true) : val b < 10 ^ b.length := by
  rw [← List.reverse_reverse b] at *
  generalize b.reverse = r at *
  induction r with
  | nil => simp [val]
  | cons c r ih =>
    rw [List.reverse_cons] at h ⊢
    rw [List.all_append, Bool.and_eq_true] at h
    have hc : isDig c = true := by simpa using h.2
    unfold isDig at hc
    rw [Bool.and_eq_true, decide_eq_true_eq, decide_eq_true_eq] at hc
    rw [val_snoc, List.length_append, List.length_singleton, Nat.pow_succ]
    have := ih h.1
    omega
/-- The segment of a file. -/
def number (s : ByteArray) : Int × Bool :=
  let l := s.data.toList
  if l.length = 12 ∧ l.take 4 = lead ∧ (l.drop 4).all isDig = true ∧ val (l.drop 4) < 1048576 then (val (l.drop 4), true) else (0, false)
end Go.Seg
