import Derived.Test.YtdhhbajggafdhaaDoorMed18


/- Within, Short, Copy. -/
namespace Go.Proofs.YtdhhbajggafdhaaDoor
open Go Go.Sl Go.Med Go.MapKept Go.RowKit
section
variable {w0 w : World} {F : List HProp} {m fb nb b r : Nat} {M : Med} {bs : List Nat} {wv v bv : Value} {s : ByteArray} {fs : List Fil} {K : Nat}
def within (x lo hi : Int) : Int := if x < lo then lo else if hi < x then hi else x
theorem within_c (x lo hi : Int) (w : World) : Calls Tryd.prog 16 #[.int .i64 x, .int .i64 lo, .int .i64 hi] w (Rtn fun v w' => v = .int .i64 (within x lo hi) ∧ w = w') := by
  by_cases h1 : x < lo
  · have e := Lib.hid (show within x lo hi = lo by simp [within, h1])
    go_enter Tryd.func16, Tryd.ntmps16
    go_wp2
    go_ret
    exact ⟨.int .i64 lo, rfl, by rw [e.out], rfl⟩
  · by_cases h2 : hi < x
    · have e := Lib.hid (show within x lo hi = hi by simp [within, h1, h2])
      go_enter Tryd.func16, Tryd.ntmps16
      go_wp2
      go_ret
      exact ⟨.int .i64 hi, rfl, by rw [e.out], rfl⟩
    · have e := Lib.hid (show within x lo hi = x by simp [within, h1, h2])
      go_enter Tryd.func16, Tryd.ntmps16
      go_wp2
      go_ret
      exact ⟨.int .i64 x, rfl, by rw [e.out], rfl⟩
/-- A text of at most n bytes. -/
theorem short_c (s : ByteArray) (n : Nat) (w : World) : Calls Tryd.prog 8 #[.string s, .int .i64 n] w (Rtn fun v w' => v = .string (if n < s.size then s.extract 0 n else s) ∧ w = w') := by
  by_cases h1 : n < s.size
  · have e := Lib.hid (show (if n < s.size then s.extract 0 n else s) = s.extract 0 n by rw [if_pos h1])
    have k1 : (n : Int) < (s.size : Int) := by omega
    have k2 : (n : Int) ≤ (s.size : Int) := by omega
    go_enter Tryd.func8, Tryd.ntmps8
    go_wp2
    go_ret
    exact ⟨.string (s.extract 0 n), rfl, by first | rfl | rw [e.out], rfl⟩
  · have e := Lib.hid (show (if n < s.size then s.extract 0 n else s) = s by rw [if_neg h1])
    have k1 : ¬ (n : Int) < (s.size : Int) := by omega
    go_enter Tryd.func8, Tryd.ntmps8
    go_wp2
    go_ret
    exact ⟨.string s, rfl, by first | rfl | rw [e.out], rfl⟩
set_option maxHeartbeats 1000000 in
/-- Bytes, copied. -/
theorem copy_c (h : Sat w0 w F) (l : Bs) (hr : rdsl 1 bv (bys l) w) (hl : l.length ≤ 1099511627776) :
    Calls Tryd.prog 45 #[bv] w (Rtn fun v w' => Sat w0 w' (bsl v l :: F) ∧ ∃ a n c, v = .slice a n c) := by
  obtain ⟨i, hi, hz0, hz1, hz2⟩ := info8p
  obtain ⟨a, n, c, rfl, hn, _⟩ := id hr
  rw [bys_len, Nat.mul_one] at hn
  have h0 : Sat w0 w (osl 5 1 (.slice none 0 0) [] :: F) := Sat.osl_nil.2 h
  have h63 : ([] : List Value).length + (bys l).length ≤ maxLen := by rw [bys_len]; unfold maxLen; simp; omega
  have hby : (([] : List Value).length + (bys l).length) * i.bytes ≤ 140737488355328 := by rw [bys_len, hz2]; simp; omega
  have Hn := Lib.hid hn; clear hn
  go_enter Tryd.func45, Tryd.ntmps45
  go_wp2_with (at_builtin; go_must (refine wpList_append (w0 := w0) (by rfl) _ _ _ (by rfl) _ i _ Tryd.underlying31 hi hz0 hz1 (by rfl) (by omega) (by rfl) (by rfl) (bys_one _) h0 hr h63 hby ?_); intro v2 w2 hS2 hne)
  obtain ⟨a2, n2, c2, rfl, _⟩ := id hS2.rd
  go_wp2
  go_ret
  exact ⟨_, rfl, hS2, _, _, _, rfl⟩
end
end Go.Proofs.YtdhhbajggafdhaaDoor
