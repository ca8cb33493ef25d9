import Derived.Sort.Walk0
/- The plain model of layers 1, 2 and 7 (bits, crc, frame). No program in sight. -/
namespace Go.Frm
abbrev Bs := List UInt8
def half : List Nat := [0, 498536548, 997073096, 651767980, 1994146192, 1802195444, 1303535960, 1342533948, 3988292384, 4027552580, 3604390888, 3412177804, 2607071920, 2262029012, 2685067896, 3183342108]
def fold4 (x : Nat) : Nat := (x / 16) ^^^ half.getD (x % 16) 0
def crcStep (x : Nat) (c : UInt8) : Nat := fold4 (fold4 (x ^^^ c.toNat))
def crcAdd (s : Nat) (b : Bs) : Nat := 4294967295 - b.foldl crcStep (4294967295 - s)
def crc (b : Bs) : Nat := crcAdd 0 b
theorem half_lt : ∀ i, half.getD i 0 < 4294967296 := by
  intro i
  rw [List.getD_eq_getElem?_getD]
  cases h : half[i]? with
  | none => simp
  | some x =>
    have : x ∈ half := List.mem_of_getElem? h
    have h2 : ∀ y ∈ half, y < 4294967296 := by decide
    exact h2 x this
theorem xor_lt {a b : Nat} (ha : a < 4294967296) (hb : b < 4294967296) : a ^^^ b < 4294967296 := Nat.xor_lt_two_pow (n := 32) ha hb
theorem fold4_lt {x : Nat} (h : x < 4294967296) : fold4 x < 4294967296 := xor_lt (by omega) (half_lt _)
theorem crcStep_lt {x : Nat} (h : x < 4294967296) (c : UInt8) : crcStep x c < 4294967296 := fold4_lt (fold4_lt (xor_lt h (by have := c.toNat_lt; omega)))
theorem foldl_lt : ∀ (b : Bs) (x : Nat), x < 4294967296 → b.foldl crcStep x < 4294967296
  | [], _, h => h
  | c :: b, x, h => foldl_lt b _ (crcStep_lt h c)
theorem crc_lt (b : Bs) : crc b < 4294967296 := by unfold crc crcAdd; omega
/-- A number as so many bytes, the lowest first. -/
def le (x : Nat) : Nat → Bs
  | 0 => []
  | n + 1 => UInt8.ofNat (x % 256) :: le (x / 256) n
def num : Bs → Nat
  | [] => 0
  | c :: b => c.toNat + 256 * num b
theorem le_len (x n : Nat) : (le x n).length = n := by
  induction n generalizing x with
  | zero => rfl
  | succ n ih => simp [le, ih]
theorem num_le (n : Nat) : ∀ x, x < 256 ^ n → num (le x n) = x := by
  induction n with
  | zero => intro x h; simp at h; subst h; rfl
  | succ n ih =>
    intro x h
    show (UInt8.ofNat (x % 256)).toNat + 256 * num (le (x / 256) n) = x
    rw [ih (x / 256) (by rw [Nat.div_lt_iff_lt_mul (by omega)]; rw [Nat.pow_succ] at h; exact h), UInt8.toNat_ofNat']
    omega
theorem num_lt : ∀ b : Bs, num b < 256 ^ b.length
  | [] => by simp [num]
  | c :: b => by
    have h1 := num_lt b
    have h2 := c.toNat_lt
    show c.toNat + 256 * num b < 256 ^ (b.length + 1)
    rw [Nat.pow_succ]
    omega
structure Ent where
  tag : Int
  key : Bs
  data : Bs
def zero32 : Bs := List.replicate 32 0
def check (x : Ent) : Int :=
  if x.tag = 0 then (if 16384 < x.data.length then 5 else 0)
  else if x.tag = 2 then (if x.key ≠ zero32 then 4 else if 0 < x.data.length then 4 else if 16384 < x.data.length then 5 else 0)
  else if x.tag = 1 then (if 0 < x.data.length then 4 else if 16384 < x.data.length then 5 else 0)
  else 4
def size (x : Ent) : Nat := if check x ≠ 0 then 0 else if x.tag = 2 then 9 else 41 + x.data.length
def body (x : Ent) : Bs := le (size x) 4 ++ [UInt8.ofNat x.tag.toNat] ++ (if x.tag = 2 then [] else x.key) ++ x.data
def encode (x : Ent) : Bs × Int := if check x ≠ 0 then ([], check x) else (le (crc (body x)) 4 ++ body x, 0)
def zeroE : Ent := ⟨0, zero32, []⟩
def fits (tag : UInt8) (n : Nat) : Bool :=
  if tag = 0 then decide (41 ≤ n ∧ n ≤ 16425) else if tag = 1 then decide (n = 41) else if tag = 2 then decide (n = 9) else false
def read (b : Bs) : Ent × Nat × Int :=
  if b.length < 9 then (zeroE, 0, 3)
  else
    let n := num ((b.drop 4).take 4)
    if fits (b.getD 8 0) n = false then (zeroE, 0, 4)
    else if b.length < n then (zeroE, 0, 3)
    else if crc ((b.take n).drop 4) ≠ num (b.take 4) then (zeroE, 0, 13)
    else if 41 ≤ n then (⟨(b.getD 8 0).toNat, (b.drop 9).take 32, (b.take n).drop 41⟩, n, 0)
    else (⟨(b.getD 8 0).toNat, zero32, []⟩, n, 0)
end Go.Frm
