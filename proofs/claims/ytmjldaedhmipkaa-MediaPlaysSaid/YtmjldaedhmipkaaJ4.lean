import Derived.Test.YtmjldaedhmipkaaJ3
import Derived.Sort.Walk0
import Derived.Laws.BitsAllLaws
import Derived.Laws.Strings
import Derived.Deep.Slices
import Derived.WalkKit
import Derived.ProofKit
import Derived.OpenShut
import Derived.ShutString
import Derived.ChangeOld
import Derived.Below
import Derived.ChangeKeysEq
import Derived.Laws.Rows
import Derived.Laws.OwnMore
import Derived.Laws.CopyOwn
import Derived.Lib.SlBytesConst
import Derived.Laws.IdiomStrings
import Derived.Deep.MidRow
set_option linter.unusedVariables false
/- The plain model of layers 1, 2 and 7 (bits, crc, frame). No program in sight. -/
namespace Go.Frm
abbrev Bs := List UInt8
def half : List Nat := [0, 498536548, 997073096, 651767980, 1994146192, 1802195444, 1303535960, 1342533948, 3988292384, 4027552580, 3604390888, 3412177804, 2607071920, 2262029012, 2685067896, 3183342108]
def fold4 (x : Nat) : Nat := (x / 16) ^^^ half.getD (x % 16) 0
def crcStep (x : Nat) (c : UInt8) : Nat := fold4 (fold4 (x ^^^ c.toNat))
def crcAdd (s : Nat) (b : Bs) : Nat := 4294967295 - b.foldl crcStep (4294967295 - s)
def crc (b : Bs) : Nat := crcAdd 0 b
theorem half_lt : ∀ i, half.getD i 0 < 4294967296 := by
  intro i
  rw [List.getD_eq_getElem?_getD]
  cases h : half[i]? with
  | none => simp
  | some x =>
    have : x ∈ half := List.mem_of_getElem? h
    have h2 : ∀ y ∈ half, y < 4294967296 := by decide
    exact h2 x this
theorem xor_lt {a b : Nat} (ha : a < 4294967296) (hb : b < 4294967296) : a ^^^ b < 4294967296 := Nat.xor_lt_two_pow (n := 32) ha hb
theorem fold4_lt {x : Nat} (h : x < 4294967296) : fold4 x < 4294967296 := xor_lt (by omega) (half_lt _)
theorem crcStep_lt {x : Nat} (h : x < 4294967296) (c : UInt8) : crcStep x c < 4294967296 := fold4_lt (fold4_lt (xor_lt h (by have := c.toNat_lt; omega)))
theorem foldl_lt : ∀ (b : Bs) (x : Nat), x < 4294967296 → b.foldl crcStep x < 4294967296
  | [], _, h => h
  | c :: b, x, h => foldl_lt b _ (crcStep_lt h c)
theorem crc_lt (b : Bs) : crc b < 4294967296 := by unfold crc crcAdd; omega
/-- A number as so many bytes, the lowest first. -/
def le (x : Nat) : Nat → Bs
  | 0 => []
  | n + 1 => UInt8.ofNat (x % 256) :: le (x / 256) n
def num : Bs → Nat
  | [] => 0
  | c :: b => c.toNat + 256 * num b
theorem le_len (x n : Nat) : (le x n).length = n := by
  induction n generalizing x with
  | zero => rfl
  | succ n ih => simp [le, ih]
theorem num_le (n : Nat) : ∀ x, x < 256 ^ n → num (le x n) = x := by
  induction n with
  | zero => intro x h; simp at h; subst h; rfl
  | succ n ih =>
    intro x h
    show (UInt8.ofNat (x % 256)).toNat + 256 * num (le (x / 256) n) = x
    rw [ih (x / 256) (by rw [Nat.div_lt_iff_lt_mul (by omega)]; rw [Nat.pow_succ] at h; exact h), UInt8.toNat_ofNat']
    omega
theorem num_lt : ∀ b : Bs, num b < 256 ^ b.length
  | [] => by simp [num]
  | c :: b => by
    have h1 := num_lt b
    have h2 := c.toNat_lt
    show c.toNat + 256 * num b < 256 ^ (b.length + 1)
    rw [Nat.pow_succ]
    omega
structure Ent where
  tag : Int
  key : Bs
  data : Bs
def zero32 : Bs := List.replicate 32 0
def check (x : Ent) : Int :=
  if x.tag = 0 then (if 16384 < x.data.length then 5 else 0)
  else if x.tag = 2 then (if x.key ≠ zero32 then 4 else if 0 < x.data.length then 4 else if 16384 < x.data.length then 5 else 0)
  else if x.tag = 1 then (if 0 < x.data.length then 4 else if 16384 < x.data.length then 5 else 0)
  else 4
def size (x : Ent) : Nat := if check x ≠ 0 then 0 else if x.tag = 2 then 9 else 41 + x.data.length
def body (x : Ent) : Bs := le (size x) 4 ++ [UInt8.ofNat x.tag.toNat] ++ (if x.tag = 2 then [] else x.key) ++ x.data
def encode (x : Ent) : Bs × Int := if check x ≠ 0 then ([], check x) else (le (crc (body x)) 4 ++ body x, 0)
def zeroE : Ent := ⟨0, zero32, []⟩
def fits (tag : UInt8) (n : Nat) : Bool :=
  if tag = 0 then decide (41 ≤ n ∧ n ≤ 16425) else if tag = 1 then decide (n = 41) else if tag = 2 then decide (n = 9) else false
def read (b : Bs) : Ent × Nat × Int :=
  if b.length < 9 then (zeroE, 0, 3)
  else
    let n := num ((b.drop 4).take 4)
    if fits (b.getD 8 0) n = false then (zeroE, 0, 4)
    else if b.length < n then (zeroE, 0, 3)
    else if crc ((b.take n).drop 4) ≠ num (b.take 4) then (zeroE, 0, 13)
    else if 41 ≤ n then (⟨(b.getD 8 0).toNat, (b.drop 9).take 32, (b.take n).drop 41⟩, n, 0)
    else (⟨(b.getD 8 0).toNat, zero32, []⟩, n, 0)
end Go.Frm
/- crc. -/
namespace Go.Proofs.Ytmjldaedhmipkaa
open Go Go.Sl Go.Med Go.MapKept Go.RowKit
section
variable {w0 w : World} {F : List HProp} {v bv : Value}
/-- The table stands where the program laid it. -/
def Half (w : World) : Prop := ∀ i, i < 16 → w.cell? ⟨0, i, none⟩ = some (.int .u32 (Frm.half.getD i 0 : Nat))
theorem not_u32 (s : Nat) (hs : s < 4294967296) : bits .xor .u32 IntKind.u32.max (s : Int) = ((4294967295 - s : Nat) : Int) := by
  have h1 : IntKind.u32.max = ((4294967295 : Nat) : Int) := by decide
  rw [h1, u32_xor_nat _ _ (by omega) hs]
  congr 1
  have h2 : (4294967295 ^^^ s) = (BitVec.allOnes 32 ^^^ BitVec.ofNat 32 s).toNat := by
    rw [BitVec.toNat_xor, BitVec.toNat_allOnes, BitVec.toNat_ofNat, Nat.mod_eq_of_lt hs]
  rw [h2, BitVec.allOnes_xor, BitVec.toNat_not, BitVec.toNat_ofNat, Nat.mod_eq_of_lt hs]
theorem and15 (y : Nat) (hy : y < 4294967296) : bits .and .u32 (y : Int) 15 = ((y % 16 : Nat) : Int) := by
  have := u32_and_nat y 15 hy (by omega)
  rw [nat_mask4] at this
  exact this
theorem xor_half (y h : Nat) (hy : y < 4294967296) (hh : h < 4294967296) : bits .xor .u32 ((y : Int) / 16) (h : Int) = ((y / 16 ^^^ h : Nat) : Int) := by
  have := u32_xor_nat (y / 16) h (by omega) hh
  rw [← this]
  rfl
end
end Go.Proofs.Ytmjldaedhmipkaa
/- Lemmas on slices and texts that know no law (printed by genaux.py). -/
namespace Go.Proofs.Ytmjldaedhmipkaa
open Go Go.Sl Go.Med Go.MapKept Go.RowKit
section
variable {w0 w W : World} {F : List HProp} {m fb nb b r : Nat} {M P : Med} {bs : List Nat} {wv v bv dv av cv nv ov lv : Value} {s : ByteArray} {fs : List Fil} {K : Nat} {f : Fil}
theorem bsl_cap {l : Bs} (h : Sat w0 w (bsl v l :: F)) : capOk v := by
  rcases Sat.osl_cases h with ⟨rfl, _⟩ | ⟨b, n', cap', cs, rfl, _, hn, _, hcm, _, _⟩
  · exact ⟨_, 0, 0, rfl, Nat.le_refl _, by omega⟩
  · exact ⟨_, _, _, rfl, hn, hcm⟩
theorem ro_min {a : Option Addr} {n c k : Nat} {xs : List Value} (h : Ro w0 F (rdsl 1 (.slice a n c) xs)) : Ro w0 F (rdsl 1 (.slice a (min n k) c) (xs.take k)) := fun w' hw' => rdsl_min (h w' hw') k
theorem flat_get {α β : Type} (f : α → List β) (k : Nat) (hk : ∀ x, (f x).length = k) : ∀ (xs : List α) (i : Nat) (x : α) (j : Nat), xs[i]? = some x → j < k → (xs.flatMap f)[i * k + j]? = (f x)[j]?
  | [], _, _, _, h, _ => by cases h
  | y :: xs, 0, x, j, h, hj => by
    simp at h; subst h
    rw [List.flatMap_cons, Nat.zero_mul, Nat.zero_add, List.getElem?_append_left (by rw [hk]; exact hj)]
  | y :: xs, i + 1, x, j, h, hj => by
    rw [List.flatMap_cons, List.getElem?_append_right (by rw [hk, Nat.succ_mul]; omega), hk]
    have : (i + 1) * k + j - k = i * k + j := by rw [Nat.succ_mul]; omega
    rw [this]
    exact flat_get f k hk xs i x j (by simpa using h) hj
theorem rdsl_base {sz : Nat} {a : Option Addr} {n c : Nat} {xs : List Value} (h : rdsl sz (.slice a n c) xs w) (hne : 0 < xs.length) :
    ∃ bk off, a = some ⟨bk, off, none⟩ ∧ ∀ i x, xs[i]? = some x → w.cell? ⟨bk, off + i, none⟩ = some x := by
  obtain ⟨a', n', c', he, hl, hx⟩ := h
  cases he
  obtain ⟨y, hy⟩ : ∃ y, xs[0]? = some y := ⟨xs[0]'hne, List.getElem?_eq_getElem _⟩
  obtain ⟨b', hb', hc0⟩ := hx 0 y hy
  subst hb'
  obtain ⟨bk, off, spot⟩ := b'
  have hs : spot = none := by simpa [Addr.add] using World.cell?_spot hc0
  subst hs
  refine ⟨bk, off, rfl, fun i x hi => ?_⟩
  obtain ⟨b2, hb2, hc⟩ := hx i x hi
  cases hb2
  unfold Addr.add at hc
  split at hc
  · rename_i h0; subst h0; exact hc
  · exact hc
def shortS (s : ByteArray) (n : Nat) : ByteArray := if n < s.size then s.extract 0 n else s
/-- A store into bytes of one's own. -/
theorem bsl_set {a : Option Addr} {n c : Nat} {l : Bs} (h : Sat w0 w (bsl (.slice a n c) l :: F)) {i : Nat} (hi : i < l.length) (x : UInt8) :
    ∃ g, a = some ⟨g, 0, none⟩ ∧ w.cell? ⟨g, i, none⟩ = some (.int .u8 (l[i]'hi).toNat) ∧ w.frozen? ⟨g, i, none⟩ = false ∧ Sat w0 (w.setCell ⟨g, i, none⟩ (.int .u8 x.toNat)) (bsl (.slice a n c) (l.set i x) :: F) := by
  rcases Sat.osl_cases h with ⟨_, hx, _⟩ | ⟨g, n', cap', cs, he, h1, h2, h3, h4, h5, h6⟩
  · have : (bys l).length = 0 := by rw [hx]; rfl
    rw [bys_len] at this; omega
  · cases he
    have hg : (bys l)[i]? = some (.int .u8 (l[i]'hi).toNat) := by unfold bys; simp [hi]
    refine ⟨g, rfl, h6.cellAt i _ (take_get h5 hg), h6.freeAt i, ?_⟩
    have h7 := h6.set i (.int .u8 x.toNat)
    refine Sat.osl_of_pt h7 ?_ h2 (by simpa using h3) h4 ?_
    · rw [bys_len, List.length_set, ← bys_len l]; exact h1
    · rw [Array.toList_setIfInBounds, List.take_set, h5]
      unfold bys
      rw [List.map_set]
theorem xor_u8 (x y : UInt8) : bits .xor .u8 (x.toNat : Int) (y.toNat : Int) = ((x ^^^ y).toNat : Int) := by
  rw [u8_xor_nat _ _ x.toNat_lt y.toNat_lt, UInt8.toNat_xor]
theorem osl_set {T sz : Nat} {g n c : Nat} {xs : List Value} (h : Sat w0 w (osl T sz (.slice (some ⟨g, 0, none⟩) n c) xs :: F)) (i : Nat) (x : Value) :
    w.frozen? ⟨g, i, none⟩ = false ∧ (∀ y, xs[i]? = some y → w.cell? ⟨g, i, none⟩ = some y) ∧ Sat w0 (w.setCell ⟨g, i, none⟩ x) (osl T sz (.slice (some ⟨g, 0, none⟩) n c) (xs.set i x) :: F) := by
  rcases Sat.osl_cases h with ⟨he, _⟩ | ⟨g', n', cap', cs, he, h1, h2, h3, h4, h5, h6⟩
  · cases he
  · cases he
    refine ⟨h6.freeAt i, fun y hy => h6.cellAt i _ (take_get h5 hy), ?_⟩
    refine Sat.osl_of_pt (h6.set i x) (by rw [List.length_set]; exact h1) h2 (by simpa using h3) h4 ?_
    rw [Array.toList_setIfInBounds, List.take_set, h5]
theorem bsl_cap' {l : Bs} (h : Sat w0 w (bsl v l :: F)) : ∃ a n c, v = .slice a n c ∧ n ≤ c ∧ c ≤ 9223372036854775807 ∧ n = l.length := by
  rcases Sat.osl_cases h with ⟨rfl, hx, _⟩ | ⟨b, n', cap', cs, rfl, hl, hn, hc, hcm, _, _⟩
  · refine ⟨_, 0, 0, rfl, Nat.le_refl _, by omega, ?_⟩
    have : (bys l).length = 0 := by rw [hx]; rfl
    rw [bys_len] at this; exact this.symm
  · refine ⟨_, _, _, rfl, hn, hcm, ?_⟩
    rw [bys_len, Nat.mul_one] at hl; exact hl.symm
theorem infoInt : (Try.prog.info? 3).map (fun i => (i.zero, i.size, i.bytes)) = some (some (.int .i64 0), 1, 8) := by kernel_rfl
theorem shortS_size (s : ByteArray) (n : Nat) : (shortS s n).size ≤ n := by
  unfold shortS
  split
  · rw [ByteArray.size_extract]; omega
  · omega
theorem stars_take {α : Type} (f : α → HProp) : ∀ (l : List α) (i : Nat) (x : α), l[i]? = some x → ∃ G, stars (l.map f) = star (f x) G
  | [], _, _, h => by cases h
  | y :: l, 0, x, h => by
    cases h
    exact ⟨_, rfl⟩
  | y :: l, i + 1, x, h => by
    obtain ⟨G, hG⟩ := stars_take f l i x (by simpa using h)
    refine ⟨star (f y) G, ?_⟩
    rw [List.map_cons, stars_cons, hG, star_left_comm]
theorem eq_of_takes {α : Type} {la lb : List α} {i : Nat} (h : la.take i = lb.take i) {x y : α} (hx : la[i]? = some x) (hy : lb[i]? = some y) (e : x = y) : la.take (i + 1) = lb.take (i + 1) := by
  obtain ⟨h1, rfl⟩ := List.getElem?_eq_some_iff.1 hx
  obtain ⟨h2, rfl⟩ := List.getElem?_eq_some_iff.1 hy
  rw [List.take_succ_eq_append_getElem h1, List.take_succ_eq_append_getElem h2, h, e]
theorem strs_at {l : List ByteArray} {i : Nat} {x : ByteArray} (h : l[i]? = some x) : (strs l)[i]? = some (.string x) := by
  unfold strs
  rw [List.getElem?_map, h]; rfl
theorem strs_len (l : List ByteArray) : (strs l).length = l.length := by unfold strs; simp
theorem toList_inj {X Y : ByteArray} (h : X.toList = Y.toList) : X = Y := by
  rw [ByteArray.toList_eq, ByteArray.toList_eq] at h
  obtain ⟨⟨x⟩⟩ := X; obtain ⟨⟨y⟩⟩ := Y
  simp at h; subst h; rfl
set_option maxHeartbeats 2000000 in
theorem strSame_c (la lb : List ByteArray) (ha : Ro w0 F (rdsl 1 av (strs la))) (hb : Ro w0 F (rdsl 1 bv (strs lb))) (h : Sat w0 w F) (hlen : la.length ≤ 9223372036854775806) :
    Calls Try.prog 40 #[av, bv] w (Rtn fun v w' => v = .bool (decide (la = lb)) ∧ Sat w0 w' F) := by
  obtain ⟨aa, an, ac, rfl, hal, _⟩ := id (ha w h)
  obtain ⟨ba, bn, bc, rfl, hbl, _⟩ := id (hb w h)
  rw [strs_len, Nat.mul_one] at hal hbl
  subst hal; subst hbl
  have Ha := Lib.hid ha; have Hb := Lib.hid hb; have Hlen := Lib.hid hlen
  clear ha hb hlen
  by_cases hl : la.length = lb.length
  · have Hl := Lib.hid hl
    have hli : (la.length : Int) = (lb.length : Int) := by omega
    go_enter Try.func40, Try.ntmps40
    clear hl
    go_wp2
    clear hli
    go_loopg [5] la.length (fun g iq wr => ∃ i : Nat, g = la.length - i ∧ i ≤ la.length ∧ iq = .int .i64 i ∧ la.take i = lb.take i ∧ Sat w0 wr F)
    case atStart => exact ⟨0, rfl, Nat.zero_le _, rfl, rfl, h⟩
    case round =>
      obtain ⟨i, rfl, hiN, rfl, htk, hS⟩ := hrel
      by_cases hi : i < la.length
      · have hx : la[i]? = some (la[i]'hi) := List.getElem?_eq_getElem _
        have hy : lb[i]? = some (lb[i]'(by have := Hl.out; omega)) := List.getElem?_eq_getElem _
        obtain ⟨bk, off, rfl, c1⟩ := rdsl_cell (Ha.out _ hS) (strs_at hx)
        obtain ⟨bk2, off2, rfl, c2⟩ := rdsl_cell (Hb.out _ hS) (strs_at hy)
        have Hnext := Lib.hid (fun e => eq_of_takes htk hx hy e)
        have hbad : la[i]'hi ≠ lb[i]'(by have := Hl.out; omega) → la ≠ lb := fun hne e => by subst e; exact hne rfl
        have Hbad := Lib.hid hbad
        clear hbad htk hx hy
        generalize la[i]'hi = X at *
        generalize lb[i]'(by have := Hl.out; omega) = Y at *
        have hic : (i : Int) < (la.length : Int) := by omega
        have hil : (i : Int) < (lb.length : Int) := by have := Hl.out; omega
        have hwi : IntKind.i64.wrap ((i : Int) + 1) = (i : Int) + 1 := IntWalk.i64_in _ (by have := Hlen.out; omega)
        have hS1 := hS.drew
        go_wp2
        refine wpL_begin [8] (fun w' => w'.cell? ⟨bk, off + i, none⟩ = some (.string X) ∧ w'.cell? ⟨bk2, off2 + i, none⟩ = some (.string Y)) (by kernel_rfl) ?_
        have hG : _ ∧ _ := And.intro c1 c2
        refine wpL_pure (i := 0) (v := ?_) rfl (by kernel_rfl) (fun _ _ _ h => h) (Or.inl ⟨by rfl, ?_⟩) ?_; rotate_left; focus ((intro wq; go_simp); first | done | (with_reducible rfl))
        refine wpL_pure (i := 1) (v := ?_) rfl (by kernel_rfl) (fun _ _ _ h => h) (Or.inl ⟨by rfl, ?_⟩) ?_; rotate_left; focus ((intro wq; go_simp); first | done | (with_reducible rfl))
        refine wpL_pure (i := 2) (v := ?_) rfl (by kernel_rfl) (fun _ _ _ h => h) (Or.inl ⟨by rfl, ?_⟩) ?_; rotate_left; focus ((intro wq; go_simp); first | done | (with_reducible rfl))
        refine wpL_take (i := 3) (v := ?_) rfl (by kernel_rfl) (fun _ _ _ h => h) (Or.inl ⟨by rfl, ?_⟩) (by assumption) ?_; rotate_left; focus ((intro wq hq; go_split_ands; go_simp); first | done | (with_reducible rfl))
        refine wpL_pure (i := 4) (v := ?_) rfl (by kernel_rfl) (fun _ _ _ h => h) (Or.inl ⟨by rfl, ?_⟩) ?_; rotate_left; focus ((intro wq; go_simp); first | done | (with_reducible rfl))
        refine wpL_pure (i := 5) (v := ?_) rfl (by kernel_rfl) (fun _ _ _ h => h) (Or.inl ⟨by rfl, ?_⟩) ?_; rotate_left; focus ((intro wq; go_simp); first | done | (with_reducible rfl))
        refine wpL_pure (i := 6) (v := ?_) rfl (by kernel_rfl) (fun _ _ _ h => h) (Or.inl ⟨by rfl, ?_⟩) ?_; rotate_left; focus ((intro wq; go_simp); first | done | (with_reducible rfl))
        refine wpL_take (i := 7) (v := ?_) rfl (by kernel_rfl) (fun _ _ _ h => h) (Or.inl ⟨by rfl, ?_⟩) (by assumption) ?_; rotate_left; focus ((intro wq hq; go_split_ands; go_simp); first | done | (with_reducible rfl))
        refine wpL_pure (i := 8) (v := ?_) rfl (by kernel_rfl) (fun _ _ _ h => h) (Or.inl ⟨by rfl, ?_⟩) ?_; rotate_left; focus ((intro wq; go_simp); first | done | (with_reducible rfl))
        refine wpL_done (by kernel_rfl) ?_
        clear hG
        simp only [List.getElem_toArray, List.getElem_cons_succ, List.getElem_cons_zero]
        go_frame
        by_cases hXY : X = Y
        · subst hXY
          simp only [beq_self_eq_true, Bool.not_true]
          go_wp2
          go_roundg (la.length - (i + 1))
          case measure => omega
          case rel => exact ⟨i + 1, rfl, Nat.succ_le_of_lt hi, by first | rfl | go_num, Hnext.out trivial, hS1⟩
        · have hq : (X.toList == Y.toList) = false := by
            rw [beq_eq_false_iff_ne]
            exact fun e => hXY (toList_inj e)
          simp only [hq, Bool.not_false]
          go_wp2
          go_ret
          exact ⟨.bool false, rfl, by rw [decide_eq_false (Hbad.out hXY)], hS1⟩
      · obtain rfl : i = la.length := by omega
        have hic : ¬ (la.length : Int) < (la.length : Int) := by omega
        have hfin : la = lb := by
          have h1 := Hl.out
          rw [List.take_length] at htk
          rw [h1, List.take_length] at htk
          exact htk
        have Hfin := Lib.hid hfin
        clear htk hfin hi hiN
        go_wp2
        go_ret
        exact ⟨.bool true, rfl, by rw [decide_eq_true Hfin.out], hS⟩
  · have hli : ¬ ((la.length : Int) = (lb.length : Int)) := by omega
    have hne : la ≠ lb := fun e => hl (by rw [e])
    have Hne := Lib.hid hne
    clear hne
    go_enter Try.func40, Try.ntmps40
    go_wp2
    go_ret
    exact ⟨.bool false, rfl, by rw [decide_eq_false Hne.out], h⟩
/-- Slices of bytes, each its own. -/
def bsz (vs : List Value) (bs : List Bs) : HProp := stars (List.zipWith bsl vs bs)
theorem bsz_snoc : ∀ (vs : List Value) (bs : List Bs) (v : Value) (b : Bs), vs.length = bs.length → bsz (vs ++ [v]) (bs ++ [b]) = star (bsl v b) (bsz vs bs)
  | [], [], _, _, _ => rfl
  | [], _ :: _, _, _, h => by simp at h
  | _ :: _, [], _, _, h => by simp at h
  | c :: vs, g :: bs, v, b, h => by
    show star (bsl c g) (bsz (vs ++ [v]) (bs ++ [b])) = _
    rw [bsz_snoc vs bs v b (by simpa using h), star_left_comm]; rfl
theorem bsz_at : ∀ (vs : List Value) (bs : List Bs) (i : Nat) (v : Value) (b : Bs), vs[i]? = some v → bs[i]? = some b → ∃ G, bsz vs bs = star (bsl v b) G
  | [], _, _, _, _, h, _ => by cases h
  | _ :: _, [], _, _, _, _, h => by cases h
  | c :: vs, g :: bs, 0, v, b, h, k => by
    cases h; cases k
    exact ⟨_, rfl⟩
  | c :: vs, g :: bs, i + 1, v, b, h, k => by
    obtain ⟨G, hG⟩ := bsz_at vs bs i v b (by simpa using h) (by simpa using k)
    refine ⟨star (bsl c g) G, ?_⟩
    show star (bsl c g) (bsz vs bs) = _
    rw [hG, star_left_comm]
theorem infoBytes : (Try.prog.info? 31).map (fun i => (i.zero, i.size, i.bytes)) = some (some (.slice none 0 0), 1, 24) := by kernel_rfl
theorem Ro.more {p : World → Prop} {L : List HProp} (h : Ro w0 F p) : Ro w0 (L ++ F) p := by
  induction L with
  | nil => exact h
  | cons A L ih => exact ih.cons
theorem bsz_rd {vs : List Value} {rows : List Bs} {i : Nat} {v : Value} {b : Bs} (h1 : vs[i]? = some v) (h2 : rows[i]? = some b) : Ro w0 (bsz vs rows :: F) (rdsl 1 v (bys b)) := fun w hw => by
  obtain ⟨G, hG⟩ := bsz_at vs rows i v b h1 h2
  rw [hG] at hw
  exact (Sat.star.1 hw).rd
theorem all_len (hM : P.Ok K) (s : ByteArray) : (P.all s).1.length ≤ 16777216 := by
  unfold Med.all
  split
  · simp
  · split
    · simp
    · exact (hM.file _).now_len
theorem within_nat (z : Int) (hi : Nat) : ∃ R : Nat, within z 0 hi = (R : Int) ∧ R ≤ hi := by
  unfold within
  split
  · exact ⟨0, rfl, Nat.zero_le _⟩
  · split
    · exact ⟨hi, rfl, Nat.le_refl _⟩
    · exact ⟨z.toNat, by omega, by omega⟩
theorem told_le (h : M.used ≤ M.room) : M.usedTold ≤ M.room := by
  unfold Med.usedTold
  split
  · exact Nat.zero_le _
  · exact h
end
end Go.Proofs.Ytmjldaedhmipkaa
/- How the arguments of a row are opened: slices of whatever elements, structs; from the world of the call to the walk's. -/
namespace Go.Proofs.Ytmjldaedhmipkaa
open Go Go.Sl Go.Med Go.ChangeShapes Go.WideShapes Go.RowKit
section
variable {H : Type} {enc : TypeId × Value → H} {P : Program} {W : World} {base : Nat} {spare : Nat → Bool} {held : Bool}
theorem flatten_idx {α : Type} (k : Nat) (hk : 0 < k) : ∀ (xs : List (List α)) (_ : ∀ x ∈ xs, x.length = k) (i : Nat) (y : α), xs.flatten[i]? = some y → ∃ x, xs[i / k]? = some x ∧ x[i % k]? = some y
  | [], _, _, _, h => by simp at h
  | x :: xs, hl, i, y, h => by
    have hx := hl x (.head _)
    rw [List.flatten_cons] at h
    rcases Nat.lt_or_ge i k with hi | hi
    · rw [List.getElem?_append_left (by omega)] at h
      refine ⟨x, ?_, ?_⟩
      · rw [Nat.div_eq_of_lt hi]; rfl
      · rw [Nat.mod_eq_of_lt hi]; exact h
    · rw [List.getElem?_append_right (by omega), hx] at h
      obtain ⟨z, h1, h2⟩ := flatten_idx k hk xs (fun q hq => hl q (.tail _ hq)) (i - k) y h
      have e1 : i / k = (i - k) / k + 1 := by
        conv => lhs; rw [show i = (i - k) + k by omega]
        rw [Nat.add_div_right _ hk]
      have e2 : i % k = (i - k) % k := Nat.mod_eq_sub_mod hi
      exact ⟨z, by rw [e1]; exact h1, by rw [e2]; exact h2⟩
theorem flatten_len {α : Type} (k : Nat) : ∀ (xs : List (List α)) (_ : ∀ x ∈ xs, x.length = k), xs.flatten.length = xs.length * k
  | [], _ => by simp
  | x :: xs, hl => by
    rw [List.flatten_cons, List.length_append, flatten_len k xs (fun q hq => hl q (.tail _ hq)), hl x (.head _), List.length_cons, Nat.succ_mul]; omega
theorem list_of_fun {α : Type} {n : Nat} {p : Nat → α → Prop} (h : ∀ i, i < n → ∃ x, p i x) : ∃ l : List α, l.length = n ∧ ∀ i x, l[i]? = some x → p i x := by
  induction n with
  | zero => exact ⟨[], rfl, fun i x h => by simp at h⟩
  | succ n ih =>
    obtain ⟨l, h1, h2⟩ := ih fun i hi => h i (Nat.lt_succ_of_lt hi)
    obtain ⟨x, hx⟩ := h n (Nat.lt_succ_self n)
    refine ⟨l ++ [x], by simp [h1], fun i y hy => ?_⟩
    rcases Nat.lt_trichotomy i n with hlt | rfl | hgt
    · rw [List.getElem?_append_left (by omega)] at hy; exact h2 i y hy
    · rw [List.getElem?_append_right (by omega), h1, Nat.sub_self] at hy
      cases hy; exact hx
    · rw [List.getElem?_eq_none (by simp; omega)] at hy; cases hy
/-- A slice that came in: its elements, each with its own reading. -/
theorem open_sl {t e : TypeId} {k fuel : Nat} {v : Value} {x : DataW H × List MemPlace} (ht : P.underlying t = some (.slice e)) (hc : P.cellsOf e = k) (hk : 0 < k) (h : DataW.trod enc P W base spare held fuel t [v] = some x) :
    ∃ elems : List (List Value), rdsl k v elems.flatten W ∧ capOk v ∧ ∀ cs ∈ elems, cs.length = k ∧ ∃ n y, DataW.trod enc P W base spare held n e cs = some y := by
  rcases Go.Deep.open_slice ht h with ⟨hcs, _⟩ | ⟨a, len, cap, m, n, D, Pl, hcs, hb, hl, hm, hmm, _, hx⟩
  · obtain rfl : v = .slice none 0 0 := by simpa using hcs
    exact ⟨[], rdsl_nil _ _ _, ⟨_, _, _, rfl, Nat.le_refl _, by omega⟩, by simp⟩
  · obtain rfl : v = .slice (some a) len cap := by simpa using hcs
    have hlm : len ≤ m := by rw [hmm]; split <;> omega
    rw [hc] at hx
    obtain ⟨l, l1, l2⟩ := list_of_fun (n := len) fun i hi => hx i (by omega)
    have hlen : ∀ cs ∈ l, cs.length = k := by
      intro cs hcs
      obtain ⟨i, hi, rfl⟩ := List.getElem_of_mem hcs
      obtain ⟨h1, _⟩ := l2 i _ (List.getElem?_eq_getElem hi)
      exact (World.cells?_some h1).2.1
    refine ⟨l, ⟨some a, len, cap, rfl, by rw [flatten_len k l hlen, l1], fun i y hy => ⟨a, rfl, ?_⟩⟩, ⟨_, _, _, rfl, hl, by unfold maxLen at hm; omega⟩, fun cs hcs => ⟨hlen cs hcs, ?_⟩⟩
    · obtain ⟨cs, h1, h2⟩ := flatten_idx k hk l hlen i y hy
      obtain ⟨h3, _⟩ := l2 _ _ h1
      have h4 := (World.cells?_some h3).2.2 (i % k) (Nat.mod_lt _ hk)
      rw [Go.Deep.add_add, h2] at h4
      rw [← h4]
      congr 2
      rw [Nat.mul_comm]; exact (Nat.div_add_mod i k).symm
    · obtain ⟨i, hi, rfl⟩ := List.getElem_of_mem hcs
      obtain ⟨_, h2⟩ := l2 i _ (List.getElem?_eq_getElem hi)
      exact ⟨n, _, h2⟩
/-- A struct: each field's reading. -/
theorem open_fields {t : TypeId} {fs : Array Field} {fuel : Nat} {cs : List Value} {x : DataW H × List MemPlace} (ht : P.underlying t = some (.struct fs)) (h : DataW.trod enc P W base spare held fuel t cs = some x) :
    cs.length = P.cellsOf t ∧ ∀ (i : Nat) (f : Field), fs[i]? = some f → ∃ n y, DataW.trod enc P W base spare held n f.type ((cs.drop f.offset).take (P.cellsOf f.type)) = some y := by
  obtain ⟨xs, n, _, _, hl, hxl, hf⟩ := DataW.trod_struct ht h
  refine ⟨hl, fun i f hi => ⟨n, ?_⟩⟩
  have hlt : i < xs.length := by rw [hxl]; exact (Array.getElem?_eq_some_iff.1 hi).1
  exact ⟨xs[i], by rw [hf i f hi]; exact List.getElem?_eq_getElem hlt⟩
/-- Each element is what f makes of something. -/
theorem map_of {α β : Type} {f : α → β} {p : α → Prop} : ∀ (l : List β) (_ : ∀ y ∈ l, ∃ x, f x = y ∧ p x), ∃ xs : List α, xs.map f = l ∧ ∀ x ∈ xs, p x
  | [], _ => ⟨[], rfl, by simp⟩
  | y :: l, h => by
    obtain ⟨x, h1, h2⟩ := h y (.head _)
    obtain ⟨xs, h3, h4⟩ := map_of l fun z hz => h z (.tail _ hz)
    refine ⟨x :: xs, by simp [h1, h3], fun z hz => ?_⟩
    rcases List.mem_cons.1 hz with rfl | hz
    · exact h2
    · exact h4 z hz
def toBs (zs : List Int) : Bs := zs.map fun z => UInt8.ofNat z.toNat
theorem bys_toBs {zs : List Int} (h : ∀ z ∈ zs, (Lit.int .u8 z).wf = true) : bys (toBs zs) = zs.map (.int .u8) := by
  unfold bys toBs
  rw [List.map_map]
  apply List.map_congr_left
  intro z hz
  have hb := bounds_u8 (h z hz)
  simp only [Function.comp, Value.int.injEq, true_and]
  rw [UInt8.toNat_ofNat']
  omega
theorem in_kind {t e : TypeId} {k : IntKind} {fuel : Nat} {v : Value} {x : DataW H × List MemPlace} (ht : P.underlying t = some (.slice e)) (he : P.underlying e = some (.int k)) (hc : P.cellsOf e = 1) (h : DataW.trod enc P W base spare held fuel t [v] = some x) :
    ∃ l : List Int, rdsl 1 v (l.map (.int k)) W ∧ capOk v ∧ ∀ z ∈ l, (Lit.int k z).wf = true := by
  obtain ⟨elems, h1, h2, h3⟩ := open_sl ht hc (by omega) h
  obtain ⟨l, h4, h5⟩ := map_of (f := fun z : Int => [Value.int k z]) (p := fun z => (Lit.int k z).wf = true) elems fun cs hcs => by
    obtain ⟨_, n, y, h6⟩ := h3 cs hcs
    obtain ⟨z, hz, _, hw⟩ := DataW.trod_int he h6
    exact ⟨z, hz.symm, hw⟩
  refine ⟨l, ?_, h2, h5⟩
  rw [← h4] at h1
  have : (l.map fun z : Int => [Value.int k z]).flatten = l.map (.int k) := by
    clear h1 h4 h5
    induction l with
    | nil => rfl
    | cons z l ih => simp only [List.map_cons, List.flatten_cons, ih]; rfl
  rw [this] at h1
  exact h1
theorem in_bys {t e : TypeId} {fuel : Nat} {v : Value} {x : DataW H × List MemPlace} (ht : P.underlying t = some (.slice e)) (he : P.underlying e = some (.int .u8)) (hc : P.cellsOf e = 1) (h : DataW.trod enc P W base spare held fuel t [v] = some x) :
    ∃ l : Bs, rdsl 1 v (bys l) W ∧ capOk v := by
  obtain ⟨l, h1, h2, h3⟩ := in_kind ht he hc h
  exact ⟨toBs l, by rw [bys_toBs h3]; exact h1, h2⟩
theorem in_nums {t e : TypeId} {fuel : Nat} {v : Value} {x : DataW H × List MemPlace} (ht : P.underlying t = some (.slice e)) (he : P.underlying e = some (.int .i64)) (hc : P.cellsOf e = 1) (h : DataW.trod enc P W base spare held fuel t [v] = some x) :
    ∃ l : List Int, rdsl 1 v (ints l) W ∧ capOk v ∧ ∀ z ∈ l, inI z := by
  obtain ⟨l, h1, h2, h3⟩ := in_kind ht he hc h
  exact ⟨l, h1, h2, fun z hz => bounds_i64 (h3 z hz)⟩
theorem cell_old {w : World} {a : Addr} {v : Value} (h : Sat W w [Sl.old W]) (hc : W.cell? a = some v) : w.cell? a = some v := by
  have hlt : a.block < W.heap.size := by
    rcases Nat.lt_or_ge a.block W.heap.size with h1 | h1
    · exact h1
    · unfold World.cell? at hc
      rw [Array.getElem?_eq_none h1] at hc
      simp at hc
  unfold World.cell? at hc ⊢
  rw [h.old hlt]; exact hc
theorem rd_old {v : Value} {k : Nat} {xs : List Value} (h : rdsl k v xs W) : Ro W [Sl.old W] (rdsl k v xs) := by
  intro w hw
  obtain ⟨a, n, c, he, hl, hx⟩ := h
  refine ⟨a, n, c, he, hl, fun i x hi => ?_⟩
  obtain ⟨b, hb, hc⟩ := hx i x hi
  exact ⟨b, hb, cell_old hw hc⟩
theorem own : ownKnob Try.prog.godebug = none := by kernel_rfl
theorem laidOut : laidOutB Try.prog = true := by kernel_rfl
end
end Go.Proofs.Ytmjldaedhmipkaa
/- bits.Put and Get of four bytes. -/
namespace Go.Proofs.Ytmjldaedhmipkaa
open Go Go.Sl Go.Med Go.MapKept Go.RowKit
section
variable {w0 w : World} {F : List HProp} {v bv : Value}
end
end Go.Proofs.Ytmjldaedhmipkaa
/- Entries in memory; keys; check. -/
namespace Go.Proofs.Ytmjldaedhmipkaa
open Go Go.Sl Go.Med Go.MapKept Go.RowKit
section
variable {w0 w : World} {F : List HProp} {v bv dv : Value} {q : Nat}
section
variable {P : Program}
theorem run_part_int {e : TypeId} {k : IntKind} (he : P.underlying e = some (.int k)) (xs : Array Value) (i : Nat) (v : Value) (hv : xs[i]? = some v) (w : World) : (part e xs i).run P w = .ok v w := by
  unfold part isAgg
  simp [Sem.run_bind, run_underlying he, hv]
theorem run_eqItems_int (d : Nat) {e : TypeId} {k : IntKind} (he : P.underlying e = some (.int k)) (ks ls : List Int) : ∀ (is : List Nat), (∀ i ∈ is, i < ks.length ∧ i < ls.length) → ∀ w,
    (Op.eqItems (d + 1) e 1 (ks.map (.int k)).toArray (ls.map (.int k)).toArray is).run P w = .ok (is.all fun i => ks.getD i 0 == ls.getD i 0) w
  | [], _, w => by simp [Op.eqItems]
  | i :: is, h, w => by
    obtain ⟨h1, h2⟩ := h i (.head _)
    have a1 : ((ks.map (Value.int k)).toArray)[i * 1]? = some (.int k (ks.getD i 0)) := by
      rw [Nat.mul_one, List.getElem?_toArray, List.getElem?_map, List.getElem?_eq_getElem h1, List.getD_eq_getElem?_getD, List.getElem?_eq_getElem h1]; rfl
    have a2 : ((ls.map (Value.int k)).toArray)[i * 1]? = some (.int k (ls.getD i 0)) := by
      rw [Nat.mul_one, List.getElem?_toArray, List.getElem?_map, List.getElem?_eq_getElem h2, List.getD_eq_getElem?_getD, List.getElem?_eq_getElem h2]; rfl
    unfold Op.eqItems
    simp only [Sem.run_bind, run_part_int he _ _ _ a1, run_part_int he _ _ _ a2, Result.andThen_ok, run_equalIn_int w d e k k _ _ he]
    have ih := run_eqItems_int d he ks ls is (fun j hj => h j (.tail _ hj)) w
    cases hb : (ks.getD i 0 == ls.getD i 0)
    · simp only [List.all_cons, hb, Bool.not_false, if_true, Sem.run_pure, Bool.false_and]
    · simp only [List.all_cons, hb, Bool.not_true, Bool.false_eq_true, if_false, ih, Bool.true_and]
theorem all_eq (ks ls : List Int) (h : ks.length = ls.length) : ((List.range ks.length).all fun i => ks.getD i 0 == ls.getD i 0) = decide (ks = ls) := by
  rw [Bool.eq_iff_iff, List.all_eq_true, decide_eq_true_eq]
  constructor
  · intro hh
    apply List.ext_getElem h
    intro i h1 h2
    have := hh i (List.mem_range.2 h1)
    rw [beq_iff_eq, List.getD_eq_getElem?_getD, List.getD_eq_getElem?_getD, List.getElem?_eq_getElem h1, List.getElem?_eq_getElem h2] at this
    exact this
  · rintro rfl i _
    simp
theorem run_neq_ints {t e : TypeId} {n : Nat} {k : IntKind} {i : TypeInfo} (hu : P.underlying t = some (.array n e)) (he : P.underlying e = some (.int k)) (hi : P.info? e = some i) (hc : P.cellsOf e = 1) (ks ls : List Int) (h1 : ks.length = n) (h2 : ls.length = n) (w : World) :
    (binOp .neq t (.agg (ks.map (.int k)).toArray) (.agg (ls.map (.int k)).toArray)).run P w = .ok (.bool (!decide (ks = ls))) w := by
  have h := run_equalIn_array (P := P) w 9999 (ks.map (.int k)).toArray (ls.map (.int k)).toArray hu hi
  rw [hc, run_eqItems_int 9998 he ks ls (List.range n) (fun i hi => by have := List.mem_range.1 hi; omega)] at h
  rw [run_neq_struct, h, ← h1, all_eq ks ls (by omega)]
  rfl
theorem run_eql_ints {t e : TypeId} {n : Nat} {k : IntKind} {i : TypeInfo} (hu : P.underlying t = some (.array n e)) (he : P.underlying e = some (.int k)) (hi : P.info? e = some i) (hc : P.cellsOf e = 1) (ks ls : List Int) (h1 : ks.length = n) (h2 : ls.length = n) (w : World) :
    (binOp .eql t (.agg (ks.map (.int k)).toArray) (.agg (ls.map (.int k)).toArray)).run P w = .ok (.bool (decide (ks = ls))) w := by
  have h := run_equalIn_array (P := P) w 9999 (ks.map (.int k)).toArray (ls.map (.int k)).toArray hu hi
  rw [hc, run_eqItems_int 9998 he ks ls (List.range n) (fun i hi => by have := List.mem_range.1 hi; omega)] at h
  rw [run_eql_struct, h, ← h1, all_eq ks ls (by omega)]
  rfl
theorem run_eqIn_ints {t e : TypeId} {n : Nat} {k : IntKind} {i : TypeInfo} (hu : P.underlying t = some (.array n e)) (he : P.underlying e = some (.int k)) (hi : P.info? e = some i) (hc : P.cellsOf e = 1) (ks ls : List Int) (h1 : ks.length = n) (h2 : ls.length = n) (w : World) :
    (Op.equalIn 10000 t (.agg (ks.map (.int k)).toArray) (.agg (ls.map (.int k)).toArray)).run P w = .ok (decide (ks = ls)) w := by
  have h := run_equalIn_array (P := P) w 9999 (ks.map (.int k)).toArray (ls.map (.int k)).toArray hu hi
  rw [hc, run_eqItems_int 9998 he ks ls (List.range n) (fun i hi => by have := List.mem_range.1 hi; omega)] at h
  rw [h, ← h1, all_eq ks ls (by omega)]
/-- A row of cells out of a block. -/
theorem run_loadVar_sub (w : World) (g off : Nat) (t ty : TypeId) (cs ks : Array Value) (fr : Nat × Nat) (d : TypeDesc) (hg : w.heap[g]? = some (.cells cs t fr)) (hk : ∀ j v, ks[j]? = some v → cs[off + j]? = some v)
    (hu : P.underlying ty = some d) (hd : (match d with | .struct _ | .array _ _ => true | _ => false) = true) (hi : (P.info? ty).map (·.size) = some ks.size) :
    (loadVar ty ⟨g, off, none⟩).run P w = .ok (.agg ks) w := by
  have hl : (loadCells ⟨g, off, none⟩ ks.toList.length).run P w = .ok ks.toList.toArray w :=
    run_loadCells_list (P := P) w ⟨g, off, none⟩ ks.toList (fun j v hv => by
      have hadd : (⟨g, off, none⟩ : Addr).add j = ⟨g, off + j, none⟩ := by unfold Addr.add; split <;> simp_all
      rw [hadd, cell_of_row w g _ cs t fr hg]
      exact hk j v (by simpa using hv))
  cases hq : P.info? ty with
  | none => simp [hq] at hi
  | some i =>
    have hs : i.size = ks.size := by simpa [hq] using hi
    have hagg : (isAgg ty).run P w = .ok true w := by
      unfold isAgg
      rw [Sem.run_bind, run_underlying hu w]
      cases d <;> simp_all
    simp only [Array.length_toList, Array.toArray_toList] at hl
    simp [loadVar, Sem.run_bind, hagg, sizeOf, typeInfo, hq, hs, hl]
theorem wpList_load_sub {ops : Array Oper} {rest : List Oper} {o : Oper} {a : Act} {w : World} {Q : Exit → Act → World → Prop} (hgd : o.guard = none) (ty : TypeId) (x : Operand) (ho : o.op = .load ty x)
    (g off : Nat) (hx : a.eval x = .pointer (some ⟨g, off, none⟩)) (t : TypeId) (cs ks : Array Value) (fr : Nat × Nat) (d : TypeDesc) (hg : w.heap[g]? = some (.cells cs t fr)) (hk : ∀ j v, ks[j]? = some v → cs[off + j]? = some v)
    (hu : P.underlying ty = some d) (hd : (match d with | .struct _ | .array _ _ => true | _ => false) = true) (hi : (P.info? ty).map (·.size) = some ks.size)
    (h : wpList P ops Q rest (a.put o.dst (.agg ks)) w) : wpList P ops Q (o :: rest) a w :=
  wpList_plain hgd fun _ hK => by
    unfold Oper.wp execOp
    simp only [ho, hx, Instr.loadAt, Instr.sureAddr, Sem.run_bind, Sem.run_pure, Result.andThen_ok, run_loadVar_sub w g off t ty cs ks fr d hg hk hu hd hi]
    exact hK _ _ h
end
/-- The cells of an entry. -/
def entL (x : Frm.Ent) (dv : Value) : List Value := .int .i64 x.tag :: (bys x.key ++ [dv])
def entA (x : Frm.Ent) (dv : Value) : Array Value := (entL x dv).toArray
theorem entA_size (x : Frm.Ent) (dv : Value) (hk : x.key.length = 32) : (entA x dv).size = 34 := by unfold entA entL; simp [bys, hk]
theorem entA_0 (x : Frm.Ent) (dv : Value) : (entA x dv)[0]? = some (.int .i64 x.tag) := rfl
theorem entA_33 (x : Frm.Ent) (dv : Value) (hk : x.key.length = 32) : (entA x dv)[33]? = some dv := by
  unfold entA entL
  rw [List.getElem?_toArray, List.getElem?_cons_succ, List.getElem?_append_right (by rw [bys_len]; omega), bys_len, hk]; rfl
theorem entA_key (x : Frm.Ent) (dv : Value) (hk : x.key.length = 32) : ∀ j v, (bys x.key).toArray[j]? = some v → (entA x dv)[1 + j]? = some v := by
  intro j v h
  rw [List.getElem?_toArray] at h
  have hj : j < (bys x.key).length := (List.getElem?_eq_some_iff.1 h).1
  unfold entA entL
  rw [List.getElem?_toArray, Nat.add_comm, List.getElem?_cons_succ, List.getElem?_append_left hj]; exact h
theorem bys_ints (k : Bs) : bys k = (k.map fun b => (b.toNat : Int)).map (.int .u8) := by unfold bys; rw [List.map_map]; rfl
theorem ints_inj {k l : Bs} (h : (k.map fun b => (b.toNat : Int)) = l.map fun b => (b.toNat : Int)) : k = l := by
  induction k generalizing l with
  | nil => cases l with
    | nil => rfl
    | cons => simp at h
  | cons a k ih => cases l with
    | nil => simp at h
    | cons b l =>
      simp only [List.map_cons, List.cons.injEq] at h
      rw [ih h.2]
      congr 1
      exact UInt8.toNat_inj.1 (by omega)
set_option maxRecDepth 20000 in
theorem zero_lit : (bys Frm.zero32).toArray = #[.int .u8 0, .int .u8 0, .int .u8 0, .int .u8 0, .int .u8 0, .int .u8 0, .int .u8 0, .int .u8 0, .int .u8 0, .int .u8 0, .int .u8 0, .int .u8 0, .int .u8 0, .int .u8 0, .int .u8 0, .int .u8 0, .int .u8 0, .int .u8 0, .int .u8 0, .int .u8 0, .int .u8 0, .int .u8 0, .int .u8 0, .int .u8 0, .int .u8 0, .int .u8 0, .int .u8 0, .int .u8 0, .int .u8 0, .int .u8 0, .int .u8 0, .int .u8 0] := rfl
end
end Go.Proofs.Ytmjldaedhmipkaa
/- frame.check, Size. -/
namespace Go.Proofs.Ytmjldaedhmipkaa
open Go Go.Sl Go.Med Go.MapKept Go.RowKit
set_option linter.unusedVariables false
section
variable {w0 w : World} {F : List HProp} {v bv dv : Value} {q : Nat}
end
end Go.Proofs.Ytmjldaedhmipkaa
/- make, copy; frame.Size, Encode. -/
namespace Go.Proofs.Ytmjldaedhmipkaa
open Go Go.Sl Go.Med Go.MapKept Go.RowKit
set_option linter.unusedVariables false
section
variable {w0 w : World} {F : List HProp} {v bv dv : Value} {q : Nat}
/-- 'make([]byte, l, c)'. -/
theorem make_u8 (l c : Nat) (h1 : l ≤ c) (h2 : c ≤ 1099511627776) (w : World) :
    (Instr.makeSlice 31 (.int .i64 l) (.int .i64 c)).run Try.prog w = .ok (.slice (some ⟨w.heap.size, 0, none⟩) l c) (w.alloc (.cells (madeCells #[.int .u8 0] c) 5)) := by
  obtain ⟨i, hi, hz0, hz1, hz2⟩ := info8p
  have := run_make (P := Try.prog) w 31 5 i _ Try.underlying31 hi hz0 .i64 .i64 (l : Int) (c : Int) (by omega) (by omega) (by rw [hz2]; omega) (by omega)
  simp only [Int.toNat_natCast, hz1, Nat.mul_one] at this
  exact this
theorem made_bsl {l c : Nat} (h1 : l ≤ c) (h2 : c ≤ 1099511627776) (h : Sat w0 w (pt q (.cells (madeCells #[.int .u8 0] c) 5 (0,0)) :: F)) : Sat w0 w (bsl (.slice (some ⟨q, 0, none⟩) l c) (List.replicate l 0) :: F) := by
  refine Sat.osl_of_pt h (by rw [bys_len, List.length_replicate, Nat.mul_one]) h1 (by rw [size_madeCells, Nat.mul_one]; exact Nat.le_refl _) (by unfold maxLen; omega) ?_
  rw [toList_madeCells_one, Nat.mul_one, List.take_replicate, Nat.min_eq_left h1]
  unfold bys
  rw [List.map_replicate]; rfl
section
variable {ops : Array Oper} {rest : List Oper} {o : Oper} {a : Act} {Q : Exit → Act → World → Prop} {sv : Value}
/-- 'copy(d, s)', s no longer than d. -/
theorem wpList_copy_b (hgd : o.guard = none) (d s : Operand)
    (ho : o.op = .call { callee := .builtin .copy, args := #[d, s], argTypes := #[31, 31] }) (g n c : Nat) (hd : a.eval d = .slice (some ⟨g, 0, none⟩) n c) (hs : a.eval s = sv)
    {l x : Bs} (h : Sat w0 w (bsl (.slice (some ⟨g, 0, none⟩) n c) l :: F)) (hx : rdsl 1 sv (bys x) w) (h0 : x ≠ []) (hl : x.length ≤ l.length)
    (hK : ∀ w', Sat w0 w' (bsl (.slice (some ⟨g, 0, none⟩) n c) (x ++ l.drop x.length) :: F) → wpList Try.prog ops Q rest (a.put o.dst (goInt x.length)) w') : wpList Try.prog ops Q (o :: rest) a w := by
  obtain ⟨i, hi, hz0, hz1, hz2⟩ := info8p
  obtain ⟨sa, sn, sc, rfl, hsl, hcell⟩ := hx
  rw [bys_len, Nat.mul_one] at hsl
  obtain ⟨ad, rfl⟩ : ∃ ad, sa = some ad := by
    cases x with
    | nil => exact absurd rfl h0
    | cons b x => obtain ⟨ad, h1, _⟩ := hcell 0 _ rfl; exact ⟨ad, h1⟩
  rcases Sat.osl_cases h with ⟨he, _⟩ | ⟨g', n', c', cs, he, e1, e2, e3, e4, e5, hp⟩
  · cases he
  · cases he
    rw [bys_len, Nat.mul_one] at e1
    rw [Nat.mul_one] at e3 e5
    have hsz : (Try.prog.info? 5).map (·.size) = some 1 := by rw [hi]; simp [hz1]
    refine wpList_copy_own hgd d s _ _ ho 5 Try.underlying31 hsz g 0 n c ad sn sc hd hs cs 5 hp.at (bys x) (by rw [bys_len]; show _ = min sn n; omega) (fun j v hj => by obtain ⟨b, hb, hc⟩ := hcell j v hj; cases hb; exact hc) (by rw [bys_len]; omega) (bys_one _) ?_
    rw [bys_len]
    refine hK _ ?_
    have h1 := hp.turn (w' := w.setRow g (cs.toList.take 0 ++ (bys x ++ cs.toList.drop (0 + x.length))).toArray) rfl rfl rfl (by simp) (setRow_heap w g cs _ _ _ hp.at) (fun j hj _ => setRow_other w g j _ hj)
    refine Sat.osl_of_pt h1 ?_ e2 ?_ e4 ?_
    · rw [bys_len, List.length_append, List.length_drop, Nat.mul_one]; omega
    · simp only [List.take_zero, List.nil_append, List.size_toArray, List.length_append, List.length_drop, bys_len, Array.length_toList]; omega
    · simp only [List.take_zero, List.nil_append, Nat.zero_add, Nat.mul_one]
      unfold bys at e5 ⊢
      rw [List.map_append, List.map_drop, ← e5, List.take_append, List.length_map, List.take_of_length_le (by simp; omega), List.drop_take]
end
end
end Go.Proofs.Ytmjldaedhmipkaa
/- frame.Encode. -/
namespace Go.Proofs.Ytmjldaedhmipkaa
open Go Go.Sl Go.Med Go.MapKept Go.RowKit
set_option linter.unusedVariables false
section
variable {w0 w : World} {F : List HProp} {v bv dv x : Value} {q : Nat}
section
variable {ops : Array Oper} {rest : List Oper} {o : Oper} {a : Act} {Q : Exit → Act → World → Prop}
/-- 'append(b, m...)' on bytes. -/
theorem wpList_append_b (hgd : o.guard = none) (s y : Operand) (ho : o.op = .call { callee := .builtin .append, args := #[s, y], argTypes := #[31, 31] })
    (hv : a.eval s = v) (hxv : a.eval y = x) {l m : Bs} (h : Sat w0 w (bsl v l :: F)) (hx : rdsl 1 x (bys m) w) (hlen : l.length + m.length ≤ 1099511627776) (hne : l ++ m ≠ [])
    (hK : ∀ b n c w', Sat w0 w' (bsl (.slice (some ⟨b, 0, none⟩) n c) (l ++ m) :: F) → n = (l ++ m).length → n ≤ c → c ≤ 9223372036854775807 → wpList Try.prog ops Q rest (a.put o.dst (.slice (some ⟨b, 0, none⟩) n c)) w') : wpList Try.prog ops Q (o :: rest) a w := by
  obtain ⟨i, hi, hz0, hz1, hz2⟩ := info8p
  have h63 : (bys l).length + (bys m).length ≤ maxLen := by rw [bys_len, bys_len]; unfold maxLen; omega
  have hby : ((bys l).length + (bys m).length) * i.bytes ≤ 140737488355328 := by rw [bys_len, bys_len, hz2]; omega
  refine wpList_append (w0 := w0) hgd s y 31 ho _ i _ Try.underlying31 hi hz0 hz1 (by rfl) (by omega) hv hxv (bys_one _) h hx h63 hby ?_
  intro v' w' hS hn
  obtain ⟨b, n, c, rfl⟩ := hn (by rw [← bys_append]; intro e; apply hne; simpa [bys] using e)
  rw [← bys_append] at hS
  obtain ⟨a', n', c', he, h1, h2, h3⟩ := bsl_cap' hS
  cases he
  exact hK b n c w' hS h3 h1 h2
end
theorem ofNat_tag (t : Int) (h : t = 0 ∨ t = 1 ∨ t = 2) : IntKind.u8.wrap t = ((UInt8.ofNat t.toNat).toNat : Int) := by
  rcases h with rfl | rfl | rfl <;> decide
end
end Go.Proofs.Ytmjldaedhmipkaa
/- The plain model of layer 14 (segs). No program in sight. -/
namespace Go.Seg
abbrev Bs := List UInt8
def digs (n : Nat) : Nat → Bs
  | 0 => []
  | k + 1 => digs (n / 10) k ++ [UInt8.ofNat (48 + n % 10)]
def lead : Bs := [115, 101, 103, 46]
def name (n : Int) : ByteArray := if n < 0 ∨ 1048576 ≤ n then ByteArray.empty else ⟨(lead ++ digs n.toNat 8).toArray⟩
theorem digs_zero : ∀ k, digs 0 k = List.replicate k 48
  | 0 => rfl
  | k + 1 => by
    show digs (0 / 10) k ++ [UInt8.ofNat (48 + 0 % 10)] = _
    rw [Nat.zero_div, digs_zero k, List.replicate_succ', show UInt8.ofNat (48 + 0 % 10) = 48 from rfl]
theorem digs_len (n k : Nat) : (digs n k).length = k := by
  induction k generalizing n with
  | zero => rfl
  | succ k ih => simp [digs, ih]
def isDig (c : UInt8) : Bool := decide (48 ≤ c.toNat) && decide (c.toNat ≤ 57)
def val (b : Bs) : Nat := b.foldl (fun n c => 10 * n + (c.toNat - 48)) 0
theorem val_snoc (b : Bs) (c : UInt8) : val (b ++ [c]) = 10 * val b + (c.toNat - 48) := by unfold val; rw [List.foldl_append]; rfl
theorem val_digs (k : Nat) : ∀ n, n < 10 ^ k → val (digs n k) = n := by
  induction k with
  | zero => intro n h; simp at h; subst h; rfl
  | succ k ih =>
    intro n h
    show val (digs (n / 10) k ++ [UInt8.ofNat (48 + n % 10)]) = n
    rw [val_snoc, ih (n / 10) (by rw [Nat.div_lt_iff_lt_mul (by omega)]; rw [Nat.pow_succ] at h; exact h), UInt8.toNat_ofNat']
    omega
theorem digs_dig (k : Nat) : ∀ n, (digs n k).all isDig = true := by
  induction k with
  | zero => intro n; rfl
  | succ k ih =>
    intro n
    show (digs (n / 10) k ++ [UInt8.ofNat (48 + n % 10)]).all isDig = true
    rw [List.all_append, ih, Bool.true_and]
    simp only [List.all_cons, List.all_nil, Bool.and_true, isDig, UInt8.toNat_ofNat']
    rw [Bool.and_eq_true, decide_eq_true_eq, decide_eq_true_eq]
    omega
theorem digs_val (b : Bs) (h : b.all isDig = true) : digs (val b) b.length = b := by
  rw [← List.reverse_reverse b] at *
  generalize b.reverse = r at *
  induction r with
  | nil => rfl
  | cons c r ih =>
    rw [List.reverse_cons] at h ⊢
    rw [List.all_append, Bool.and_eq_true] at h
    have hc : isDig c = true := by simpa using h.2
    unfold isDig at hc
    rw [Bool.and_eq_true, decide_eq_true_eq, decide_eq_true_eq] at hc
    rw [val_snoc, List.length_append, List.length_singleton]
    show digs ((10 * val r.reverse + (c.toNat - 48)) / 10) r.reverse.length ++ [UInt8.ofNat (48 + (10 * val r.reverse + (c.toNat - 48)) % 10)] = _
    have e1 : (10 * val r.reverse + (c.toNat - 48)) / 10 = val r.reverse := by omega
    have e2 : 48 + (10 * val r.reverse + (c.toNat - 48)) % 10 = c.toNat := by omega
    rw [e1, e2, ih h.1, UInt8.ofNat_toNat]
theorem val_lt (b : Bs) (h : b.all isDig = true) : val b < 10 ^ b.length := by
  rw [← List.reverse_reverse b] at *
  generalize b.reverse = r at *
  induction r with
  | nil => simp [val]
  | cons c r ih =>
    rw [List.reverse_cons] at h ⊢
    rw [List.all_append, Bool.and_eq_true] at h
    have hc : isDig c = true := by simpa using h.2
    unfold isDig at hc
    rw [Bool.and_eq_true, decide_eq_true_eq, decide_eq_true_eq] at hc
    rw [val_snoc, List.length_append, List.length_singleton, Nat.pow_succ]
    have := ih h.1
    omega
/-- The segment of a file. -/
def number (s : ByteArray) : Int × Bool :=
  let l := s.data.toList
  if l.length = 12 ∧ l.take 4 = lead ∧ (l.drop 4).all isDig = true ∧ val (l.drop 4) < 1048576 then (val (l.drop 4), true) else (0, false)
end Go.Seg
/- segs.Name. -/
namespace Go.Proofs.Ytmjldaedhmipkaa
open Go Go.Sl Go.Med Go.MapKept Go.RowKit
set_option linter.unusedVariables false
section
variable {w0 w : World} {F : List HProp} {v bv dv x : Value} {q : Nat}
/-- Bytes in a row that the run-time marked behind its end. -/
def mrow (q : Nat) (l : Bs) : HProp := pt q (.cells (bys l).toArray 5 (l.length, l.length + 1))
theorem mrow_set {l : Bs} (h : Sat w0 w (mrow q l :: F)) {i : Nat} (hi : i < l.length) (x : UInt8) :
    w.cell? ⟨q, i, none⟩ = some (.int .u8 (l[i]'hi).toNat) ∧ w.frozen? ⟨q, i, none⟩ = false ∧ Sat w0 (w.setCell ⟨q, i, none⟩ (.int .u8 x.toNat)) (mrow q (l.set i x) :: F) := by
  have hb := h.at
  refine ⟨?_, ?_, ?_⟩
  · simp only [World.cell?, hb]
    rw [List.getElem?_toArray]
    unfold bys
    rw [List.getElem?_map, List.getElem?_eq_getElem hi]; rfl
  · simp only [World.frozen?, hb]
    simp; omega
  · refine h.turn rfl rfl rfl (by simp) ?_ ?_
    · simp only [World.setCell, Array.getElem?_modify, if_true, hb]
      simp only [Option.map_some, Option.some.injEq]
      rw [List.length_set]
      congr 1
      unfold bys
      rw [List.setIfInBounds_toArray, List.map_set, if_neg (by simp)]
    · intro j hj _
      simp only [World.setCell, Array.getElem?_modify]
      rw [if_neg (Ne.symm hj)]
theorem mrow_text {l : Bs} (h : Sat w0 w (mrow q l :: F)) (c : Nat) : (convert 31 9 (.slice (some ⟨q, 0, none⟩) l.length c)).run Try.prog w = .ok (.string ⟨l.toArray⟩) w := by
  refine run_convert_bytes_back (P := Try.prog) w _ _ 5 _ c l Try.underlying31 Try.underlying5 Try.underlying9 (fun j hj => ?_)
  rw [add_zero_lit]
  exact (mrow_set h hj 0).1
end
end Go.Proofs.Ytmjldaedhmipkaa
/- segs.Number. -/
namespace Go.Proofs.Ytmjldaedhmipkaa
open Go Go.Sl Go.Med Go.MapKept Go.RowKit
set_option linter.unusedVariables false
section
variable {w0 w : World} {F : List HProp} {v bv dv x : Value} {q : Nat}
theorem ba_take (s : ByteArray) : (s.extract 0 4).toList = s.data.toList.take 4 := by
  rw [Go.Lib.extract_toList]; simp
theorem ba_drop (s : ByteArray) (h : s.size = 12) : (s.extract 4 12).data.toList = s.data.toList.drop 4 := by
  rw [Go.Lib.extract_data]
  refine List.take_of_length_le ?_
  have : s.data.toList.length = 12 := by rw [Array.length_toList]; exact h
  rw [List.length_drop]; omega
end
end Go.Proofs.Ytmjldaedhmipkaa
/- hoardref14.Name, Number. -/
namespace Go.Proofs.Ytmjldaedhmipkaa
open Go Go.Sl Go.Med Go.MapKept Go.RowKit
set_option linter.unusedVariables false
section
variable {w0 w : World} {F : List HProp} {v bv dv x : Value} {q : Nat}
theorem dig_ext : ∀ d : Nat, d < 10 → (ByteArray.mk #[48, 49, 50, 51, 52, 53, 54, 55, 56, 57]).extract d (d + 1) = ⟨#[UInt8.ofNat (48 + d)]⟩ := by
  intro d hd
  rcases d with _ | _ | _ | _ | _ | _ | _ | _ | _ | _ | d
  all_goals first | rfl | omega
theorem ba_cons (c : UInt8) (l : Seg.Bs) : (ByteArray.mk #[c]) ++ ⟨l.toArray⟩ = ⟨(c :: l).toArray⟩ := by
  apply ByteArray.ext
  simp
theorem ba_lead (l : Seg.Bs) : (ByteArray.mk #[115, 101, 103, 46]) ++ ⟨l.toArray⟩ = ⟨(Seg.lead ++ l).toArray⟩ := by
  apply ByteArray.ext
  simp [Seg.lead]
end
end Go.Proofs.Ytmjldaedhmipkaa
/- A log of segments in memory; alive, Open. -/
namespace Go.Seg
open Go.Med
/-- A log: its limit, its segments (number, size), is the last one open, how many of the last are fresh. -/
structure Log where
  limit : Int
  l : List (Int × Int)
  on : Bool
  fresh : Int
def alive (M : Med) : Int := if (M.size ByteArray.empty).2 = 9 then 0 else (M.size ByteArray.empty).2
def found (M : Med) (l : List ByteArray) : List (Int × Int) := l.filterMap fun s => if (number s).2 = true then some ((number s).1, (M.size s).1) else none
def fresh (M : Med) (limit : Int) : Log := ⟨limit, found M M.list, false, 0⟩
theorem found_snoc (M : Med) (l : List ByteArray) (s : ByteArray) : found M (l ++ [s]) = found M l ++ (if (number s).2 = true then [((number s).1, (M.size s).1)] else []) := by
  unfold found
  rw [List.filterMap_append]
  congr 1
  by_cases h : (number s).2 = true <;> simp [h]
theorem found_len (M : Med) (l : List ByteArray) : (found M l).length ≤ l.length := List.length_filterMap_le _ _
end Go.Seg
namespace Go.Proofs.Ytmjldaedhmipkaa
open Go Go.Sl Go.Med Go.MapKept Go.RowKit
set_option linter.unusedVariables false
/-- The cells of segments. -/
def segw (l : List (Int × Int)) : List Value := l.flatMap fun s => [.int .i64 s.1, .int .i64 s.2]
section
variable {w0 w : World} {F : List HProp} {v bv dv x lv : Value} {q p m K : Nat} {L : Seg.Log} {M : Med}
theorem segw_len (l : List (Int × Int)) : (segw l).length = 2 * l.length := by
  unfold segw
  induction l with
  | nil => rfl
  | cons a l ih => rw [List.flatMap_cons, List.length_append, ih]; simp; omega
theorem segw_app (l k : List (Int × Int)) : segw (l ++ k) = segw l ++ segw k := by unfold segw; rw [List.flatMap_append]
end
end Go.Proofs.Ytmjldaedhmipkaa
/- An append behind a row of constants; ok, Next, shut of a log without segments. -/
namespace Go.Proofs.Ytmjldaedhmipkaa
open Go Go.Sl Go.Med Go.MapKept Go.RowKit
set_option linter.unusedVariables false
section
variable {P : Program} {w0 w : World} {R : List HProp} {v x : Value} {xs ys : List Value}
theorem run_append_fresh (t ty e : TypeId) (i : TypeInfo) (z : Value) (ht : P.underlying t = some (.slice e)) (hi : P.info? e = some i) (hz : i.zero = some z)
    (hs : i.size = 1) (hzs : z.cells.size = 1) (b n cap : Nat) (hl : xs.length = n) (hcap : cap ≤ n) (hold : rdsl 1 (.slice (some ⟨b, 0, none⟩) n cap) xs w)
    (h : Sat w0 w R) (hx : rdsl 1 x ys w) (hy0 : ys ≠ []) (h63 : xs.length + ys.length ≤ maxLen) (hby : (xs.length + ys.length) * i.bytes ≤ 140737488355328) :
    ∃ b' n' c' w', (Builtin.append_ #[t, t] ty #[.slice (some ⟨b, 0, none⟩) n cap, x]).run P w = .ok (.slice (some ⟨b', 0, none⟩) n' c') w' ∧ Sat w0 w' (osl e 1 (.slice (some ⟨b', 0, none⟩) n' c') (xs ++ ys) :: R) := by
  obtain ⟨xa, m, c, rfl, hyl, hyc⟩ := hx
  obtain ⟨b1, n1, c1, he1, hol, hoc⟩ := hold
  cases he1
  rw [Nat.mul_one] at hyl
  have hm : 0 < m := by
    rw [← hyl]
    exact List.length_pos_iff.2 hy0
  obtain ⟨ad, rfl⟩ : ∃ ad, xa = some ad := by
    obtain ⟨y, hy⟩ : ∃ y, ys[0]? = some y := by
      cases ys with
      | nil => exact absurd rfl hy0
      | cons y _ => exact ⟨y, rfl⟩
    obtain ⟨b, hb, _⟩ := hyc 0 y hy
    exact ⟨b, hb⟩
  have hnews : ∀ j u, ys[j]? = some u → w.cell? (ad.add j) = some u := fun j u hj => by
    obtain ⟨b, hb, hx⟩ := hyc j u hj
    cases hb; exact hx
  have holds : ∀ j u, xs[j]? = some u → w.cell? ((⟨b, 0, none⟩ : Addr).add j) = some u := fun j u hj => by
    obtain ⟨b', hb, hx⟩ := hoc j u hj
    cases hb; exact hx
  have h63' : maxLen = 9223372036854775807 := rfl
  have hr := run_append_grow (P := P) w t ty e i z ht hi hz ⟨b, 0, none⟩ n cap xs (by rw [hs]; omega) holds ad m c ys (by rw [hs]; omega) hnews (by omega) (by omega) (growslice_fits (by omega) (by rw [← hl, ← hyl]; exact hby))
  refine ⟨_, _, _, _, hr, ?_⟩
  have hge := grownCap_ge w (n + m) cap e
  have hcm := grownCap_le_maxLen w (n + m) cap e (by omega)
  have := (h.drew).alloc (.cells (xs.toArray ++ ys.toArray ++ Builtin.zeroCells z.cells (grownCap w (n + m) cap e - (n + m))) e)
  refine Sat.osl_of_pt this ?_ hge ?_ hcm ?_
  · rw [List.length_append, hl, hyl, Nat.mul_one]
  · simp only [Array.size_append, List.size_toArray, size_zeroCells, hzs]
    omega
  · simp only [Array.toList_append, List.append_assoc]
    rw [← List.append_assoc]
    have e1 : (n + m) * 1 = (xs ++ ys).length := by rw [List.length_append, hl, hyl, Nat.mul_one]
    rw [e1]
    exact List.take_left
theorem step_append_fresh {ops : Array Oper} {o : Oper} {a : Act} {K : Act → World → Prop} {Q : Exit → Act → World → Prop} {E : Prop} (hgd : o.guard = none) (s y : Operand) (t : TypeId)
    (ho : o.op = .call { callee := .builtin .append, args := #[s, y], argTypes := #[t, t] })
    (e : TypeId) (i : TypeInfo) (z : Value) (ht : P.underlying t = some (.slice e)) (hi : P.info? e = some i) (hz : i.zero = some z)
    (hs : i.size = 1) (hzs : z.cells.size = 1) {b n cap : Nat} (hl : xs.length = n) (hcap : cap ≤ n) (hold : rdsl 1 (.slice (some ⟨b, 0, none⟩) n cap) xs w)
    (h : Sat w0 w R) (hv : a.eval s = .slice (some ⟨b, 0, none⟩) n cap) (hxv : a.eval y = x) (hx : rdsl 1 x ys w) (hy0 : ys ≠ []) (h63 : xs.length + ys.length ≤ maxLen) (hby : (xs.length + ys.length) * i.bytes ≤ 140737488355328)
    (hK : ∀ b' n' c' w', Sat w0 w' (osl e 1 (.slice (some ⟨b', 0, none⟩) n' c') (xs ++ ys) :: R) → K (a.put o.dst (.slice (some ⟨b', 0, none⟩) n' c')) w') :
    if Region.wanted o (yielded ops a.tmps) = true then Oper.wp P o a w K Q else E := by
  have hw : Region.wanted o (yielded ops a.tmps) = true := by simp [Region.wanted, hgd]
  rw [if_pos hw]
  obtain ⟨b', n', c', w', hr, h2⟩ := run_append_fresh (P := P) t o.type e i z ht hi hz hs hzs b n cap hl hcap hold h hx hy0 h63 hby
  unfold Oper.wp execOp
  simp only [ho, resolve, invoke, builtin, Sem.run_bind, Sem.run_pure, Result.andThen_ok, List.map_toArray, List.map_cons, List.map_nil, hv, hxv, hr]
  exact hK _ _ _ w' h2
end
section
variable {w0 w : World} {F : List HProp} {v bv dv x lv : Value} {q p m K : Nat} {L : Seg.Log} {M : Med}
end
end Go.Proofs.Ytmjldaedhmipkaa
/- A store, told at the separation logic: the world behind it is any that holds the block so. -/
namespace Go.Proofs.Ytmjldaedhmipkaa
open Go Go.Sl Go.Med Go.MapKept Go.RowKit
set_option linter.unusedVariables false
section
variable {P : Program} {w0 w : World} {R : List HProp} {b : Nat}
/-- Cells, put one behind the other. -/
def putsAt (cs : Array Value) : Nat → List Value → Array Value
  | _, [] => cs
  | o, v :: r => putsAt (cs.setIfInBounds o v) (o + 1) r
theorem putsAt_size : ∀ (vs : List Value) (cs : Array Value) (o : Nat), (putsAt cs o vs).size = cs.size
  | [], _, _ => rfl
  | v :: r, cs, o => by rw [putsAt, putsAt_size r, Array.size_setIfInBounds]
theorem Sat.sets : ∀ (vs : List Value) {cs : Array Value} {T : TypeId} {w : World} (o : Nat), Sat w0 w (pt b (.cells cs T (0,0)) :: R) → Sat w0 (w.setCells b o vs) (pt b (.cells (putsAt cs o vs) T (0,0)) :: R)
  | [], _, _, _, _, h => h
  | v :: r, _, _, _, o, h => Sat.sets r (o + 1) (h.set o v)
theorem wpList_store_sat {ops : Array Oper} {rest : List Oper} {op : Oper} {a : Act} {Q : Exit → Act → World → Prop} {cs : Array Value} {T : TypeId} (hgd : op.guard = none) (ty : TypeId) (x y : Operand) (ho : op.op = .store ty x y)
    (o : Nat) (v : Value) (hx : a.eval x = .pointer (some ⟨b, o, none⟩)) (hy : a.eval y = v) (hfit : o + v.cells.size ≤ cs.size)
    (hi : (P.info? ty).map (·.size) = some v.cells.size) (h1 : v.cells.all (·.oneCell') = true) (h : Sat w0 w (pt b (.cells cs T (0,0)) :: R))
    (hK : ∀ w', Sat w0 w' (pt b (.cells (putsAt cs o v.cells.toList) T (0,0)) :: R) → wpList P ops Q rest (a.put op.dst undef) w') : wpList P ops Q (op :: rest) a w := by
  have hth : w.there b o v.cells.size := by
    intro j hj
    refine ⟨?_, h.freeAt _⟩
    rw [h.cellAt (o + j) _ (Array.getElem?_eq_getElem (show o + j < cs.size by omega))]
    rfl
  refine wpList_plain hgd fun _ hK' => ?_
  have hst := run_storeCells_cells (P := P) b o v.cells.toList 0 w (fun j hj => by simpa using (hth j (by simpa using hj)).1) (fun j hj => by simpa using (hth j (by simpa using hj)).2)
    (fun u hu => (Array.all_eq_true_iff_forall_mem.1 h1) u (by simpa using hu))
  have hrun : (storeVar ty ⟨b, o, none⟩ v).run P w = .ok () (w.setCells b o v.cells.toList) := by
    cases hq : P.info? ty with
    | none => simp [hq] at hi
    | some i =>
      have hs : v.cells.size = i.size := by simp [hq] at hi; omega
      simp only [Nat.add_zero] at hst
      simp [storeVar, sizeOf, typeInfo, hq, hs, hst]
  unfold Oper.wp execOp
  simp only [ho, hx, hy, Instr.storeAt, Instr.sureAddr, Sem.run_bind, Sem.run_pure, Result.andThen_ok, hrun]
  exact hK' _ _ (hK _ (Sat.sets _ _ h))
/-- To halt a walk at a store: 'go_wp2_with (refine wpList_stop (by rfl) ?_)', then 'refine ⟨?_⟩'. -/
structure Stop (p : Prop) : Prop where
  out : p
theorem wpList_stop {ops : Array Oper} {rest : List Oper} {op : Oper} {a : Act} {Q : Exit → Act → World → Prop} {ty : TypeId} {x y : Operand} (ho : op.op = .store ty x y)
    (h : Stop (wpList P ops Q (op :: rest) a w)) : wpList P ops Q (op :: rest) a w := h.out
end
end Go.Proofs.Ytmjldaedhmipkaa
