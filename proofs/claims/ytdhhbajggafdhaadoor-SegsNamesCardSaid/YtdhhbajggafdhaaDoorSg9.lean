import Derived.Test.YtdhhbajggafdhaaDoorSg8
import Derived.Test.YtdhhbajggafdhaaDoorMed23
/- hoardlaw14.SegsNames. -/
namespace Go.Seg
theorem number_no (s : ByteArray) (h : (number s).2 = false) : (number s).1 = 0 := by
  unfold number at *
  dsimp only at *
  split at h
  · cases h
  · rename_i hh; rw [if_neg hh]
theorem number_name (n : Int) (h1 : 0 ≤ n) (h2 : n < 1048576) : number (name n) = (n, true) := by
  unfold name
  rw [if_neg (by omega)]
  unfold number
  have hl : (lead ++ digs n.toNat 8).length = 12 := by rw [List.length_append, digs_len]; rfl
  have hd : (lead ++ digs n.toNat 8).drop 4 = digs n.toNat 8 := rfl
  have ht : (lead ++ digs n.toNat 8).take 4 = lead := rfl
  have hv := val_digs 8 n.toNat (by omega)
  simp only [hl, hd, ht, digs_dig, hv, true_and]
  rw [if_pos (by omega)]
  simp only [Prod.mk.injEq, and_true]
  omega
theorem number_name_no (n : Int) (h : n < 0 ∨ 1048576 ≤ n) : number (name n) = (0, false) := by
  unfold name
  rw [if_pos h]
  rfl
end Go.Seg
namespace Go.Proofs.YtdhhbajggafdhaaDoor
open Go Go.Sl Go.Med Go.MapKept Go.RowKit
set_option linter.unusedVariables false
section
variable {w0 w : World} {F : List HProp}
set_option maxRecDepth 20000 in
set_option maxHeartbeats 4000000 in
theorem segs_names_c (n : Int) (s : ByteArray) (hH : Ro w0 F Half) (h : Sat w0 w F) :
    Calls Tryd.prog 3 #[.int .i64 n, .string s] w (Rtn fun v w' => v = .bool true ∧ Sat w0 w' F) := by
  have hsh : Calls Tryd.prog 8 #[.string s, .int .i64 30] w (Rtn fun v w' => v = .string (if 30 < s.size then s.extract 0 30 else s) ∧ w = w') := short_c s 30 w
  have HH := Lib.hid hH
  clear hH
  go_enter Tryd.func3, Tryd.ntmps3
  go_wp2_with fail
  refine hsh.mono ?_
  rintro e w1 ⟨v, rfl, rfl, rfl⟩
  clear hsh
  generalize (if 30 < s.size then s.extract 0 30 else s) = t
  have hnu := snumber_c t h
  have Hno := Lib.hid (Seg.number_no t)
  go_wp2_with fail
  refine hnu.mono ?_
  rintro e w2 ⟨v, rfl, rfl, hS2⟩
  clear hnu
  have hrn := rnumber_c t w2
  go_wp2_with fail
  refine hrn.mono ?_
  rintro e w3 ⟨v, rfl, ⟨a, rfl, ha⟩, rfl⟩
  clear hrn
  have Ha := Lib.hid ha
  have hnm := sname_c n hS2
  clear ha h
  generalize Seg.number t = N at *
  obtain ⟨N1, N2⟩ := N
  go_wp2_with fail
  refine hnm.mono ?_
  rintro e w4 ⟨v, rfl, rfl, hS4⟩
  clear hnm
  have hrm := rname_c n w4
  go_wp2_with fail
  refine hrm.mono ?_
  rintro e w5 ⟨v, rfl, rfl, rfl⟩
  clear hrm
  have hnm := sname_c n hS4
  have hback : (0 ≤ n ∧ n < 1048576 ∧ Seg.number (Seg.name n) = (n, true)) ∨ ((n < 0 ∨ 1048576 ≤ n) ∧ Seg.number (Seg.name n) = (0, false)) := by
    by_cases h1 : n < 0
    · exact .inr ⟨.inl h1, Seg.number_name_no n (.inl h1)⟩
    by_cases h2 : 1048576 ≤ n
    · exact .inr ⟨.inr h2, Seg.number_name_no n (.inr h2)⟩
    exact .inl ⟨by omega, by omega, Seg.number_name n (by omega) (by omega)⟩
  have Hback := Lib.hid hback
  clear hback
  cases N2
  · obtain rfl : N1 = 0 := Hno.out rfl
    go_wp2_with fail
    refine hnm.mono ?_
    rintro e w6 ⟨v, rfl, rfl, hS6⟩
    clear hnm
    have hnu := snumber_c (Seg.name n) hS6
    rcases Hback.out with ⟨h1, h2, hb⟩ | ⟨h1, hb⟩
    · rw [hb] at hnu
      have hd1 : decide (0 ≤ n) = true := decide_eq_true h1
      have hd2 : decide (n < 1048576) = true := decide_eq_true h2
      clear hb
      go_wp2_with fail
      refine hnu.mono ?_
      rintro e w7 ⟨v, rfl, rfl, hS7⟩
      clear hnu
      have hlv := lives_c HH.out hS7
      go_wp2_with fail
      refine hlv.mono ?_
      rintro e w8 ⟨v, rfl, rfl, hS8⟩
      clear hlv
      go_wp2
      go_ret
      exact ⟨_, rfl, rfl, hS8⟩
    · rw [hb] at hnu
      clear hb
      rcases h1 with h1 | h1
      · have hd1 : decide (0 ≤ n) = false := decide_eq_false (by omega)
        go_wp2_with fail
        refine hnu.mono ?_
        rintro e w7 ⟨v, rfl, rfl, hS7⟩
        clear hnu
        have hlv := lives_c HH.out hS7
        go_wp2_with fail
        refine hlv.mono ?_
        rintro e w8 ⟨v, rfl, rfl, hS8⟩
        clear hlv
        go_wp2
        go_ret
        exact ⟨_, rfl, rfl, hS8⟩
      · have hd1 : decide (0 ≤ n) = true := decide_eq_true (by omega)
        have hd2 : decide (n < 1048576) = false := decide_eq_false (by omega)
        go_wp2_with fail
        refine hnu.mono ?_
        rintro e w7 ⟨v, rfl, rfl, hS7⟩
        clear hnu
        have hlv := lives_c HH.out hS7
        go_wp2_with fail
        refine hlv.mono ?_
        rintro e w8 ⟨v, rfl, rfl, hS8⟩
        clear hlv
        go_wp2
        go_ret
        exact ⟨_, rfl, rfl, hS8⟩
  · obtain rfl : a = N1 := Ha.out rfl
    go_wp2_with fail
    refine hnm.mono ?_
    rintro e w6 ⟨v, rfl, rfl, hS6⟩
    clear hnm
    have hnu := snumber_c (Seg.name n) hS6
    rcases Hback.out with ⟨h1, h2, hb⟩ | ⟨h1, hb⟩
    · rw [hb] at hnu
      have hd1 : decide (0 ≤ n) = true := decide_eq_true h1
      have hd2 : decide (n < 1048576) = true := decide_eq_true h2
      clear hb
      go_wp2_with fail
      refine hnu.mono ?_
      rintro e w7 ⟨v, rfl, rfl, hS7⟩
      clear hnu
      have hlv := lives_c HH.out hS7
      go_wp2_with fail
      refine hlv.mono ?_
      rintro e w8 ⟨v, rfl, rfl, hS8⟩
      clear hlv
      go_wp2
      go_ret
      exact ⟨_, rfl, rfl, hS8⟩
    · rw [hb] at hnu
      clear hb
      rcases h1 with h1 | h1
      · have hd1 : decide (0 ≤ n) = false := decide_eq_false (by omega)
        go_wp2_with fail
        refine hnu.mono ?_
        rintro e w7 ⟨v, rfl, rfl, hS7⟩
        clear hnu
        have hlv := lives_c HH.out hS7
        go_wp2_with fail
        refine hlv.mono ?_
        rintro e w8 ⟨v, rfl, rfl, hS8⟩
        clear hlv
        go_wp2
        go_ret
        exact ⟨_, rfl, rfl, hS8⟩
      · have hd1 : decide (0 ≤ n) = true := decide_eq_true (by omega)
        have hd2 : decide (n < 1048576) = false := decide_eq_false (by omega)
        go_wp2_with fail
        refine hnu.mono ?_
        rintro e w7 ⟨v, rfl, rfl, hS7⟩
        clear hnu
        have hlv := lives_c HH.out hS7
        go_wp2_with fail
        refine hlv.mono ?_
        rintro e w8 ⟨v, rfl, rfl, hS8⟩
        clear hlv
        go_wp2
        go_ret
        exact ⟨_, rfl, rfl, hS8⟩
end
end Go.Proofs.YtdhhbajggafdhaaDoor
