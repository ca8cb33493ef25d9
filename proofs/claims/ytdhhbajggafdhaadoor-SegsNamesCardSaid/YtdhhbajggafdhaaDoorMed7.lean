import Derived.Test.YtdhhbajggafdhaaDoorMed6
/- Good names. -/
namespace Go.Proofs.YtdhhbajggafdhaaDoor
open Go Go.Sl Go.Med Go.MapKept Go.RowKit
section
variable {w : World} {s : ByteArray}
theorem goodC_iff (c : UInt8) : goodC c = decide ((97 ≤ (c.toNat : Int) ∧ (c.toNat : Int) ≤ 122) ∨ (48 ≤ (c.toNat : Int) ∧ (c.toNat : Int) ≤ 57) ∨ (c.toNat : Int) = 46 ∨ (c.toNat : Int) = 45) := by
  rw [Bool.eq_iff_iff]
  have e1 : ∀ k : UInt8, (c == k) = decide (c.toNat = k.toNat) := fun k => by
    rw [Bool.eq_iff_iff]; simp [UInt8.toNat_inj]
  simp only [goodC, Bool.or_eq_true, Bool.and_eq_true, decide_eq_true_eq, UInt8.le_iff_toNat_le, e1]
  simp only [UInt8.reduceToNat]
  omega
theorem all_take_succ (l : List UInt8) (k : Nat) (h : k < l.length) : (l.take (k + 1)).all goodC = ((l.take k).all goodC && goodC l[k]) := by
  rw [List.take_succ_eq_append_getElem h, List.all_append]; simp
set_option maxHeartbeats 1000000 in
theorem good_c (s : ByteArray) (w : World) (hs : s.size ≤ 9223372036854775807) :
    Calls Tryd.prog 87 #[.string s] w (Rtn fun v w' => v = .bool (good s) ∧ w = w') := by
  go_enter Tryd.func87, Tryd.ntmps87
  by_cases h1 : (s.size : Int) < 1
  · go_wp2
    go_ret
    exact ⟨.bool false, rfl, by rw [show good s = false from by unfold good; simp; omega], rfl⟩
  by_cases h2 : 24 < (s.size : Int)
  · have h1' : decide ((s.size : Int) < 1) = false := by simpa using h1
    go_wp2
    go_ret
    exact ⟨.bool false, rfl, by rw [show good s = false from by unfold good; simp; omega], rfl⟩
  have h1' : decide ((s.size : Int) < 1) = false := by simpa using h1
  have h2' : decide (24 < (s.size : Int)) = false := by simpa using h2
  go_wp2
  go_loop [15] (fun i => ∃ k : Nat, k ≤ s.size ∧ i = .int .i64 k ∧ (s.data.toList.take k).all goodC = true) (fun i => s.size - (intOf i).toNat)
  case atStart => exact ⟨0, Nat.zero_le _, rfl, by simp⟩
  case round =>
    obtain ⟨k, hk, rfl, hall⟩ := hrel
    have Hall := Lib.hid hall; clear hall
    by_cases hlt : k < s.size
    · have Hc := Lib.hid (goodC_iff s[k])
      have Hn := Lib.hid (all_take_succ s.data.toList k (by simpa using hlt))
      have hcls : (s[k].toNat : Int) ≤ 44 ∨ (s[k].toNat : Int) = 45 ∨ (s[k].toNat : Int) = 46 ∨ (s[k].toNat : Int) = 47 ∨ (48 ≤ (s[k].toNat : Int) ∧ (s[k].toNat : Int) ≤ 57) ∨ (58 ≤ (s[k].toNat : Int) ∧ (s[k].toNat : Int) ≤ 96) ∨ (97 ≤ (s[k].toNat : Int) ∧ (s[k].toNat : Int) ≤ 122) ∨ 123 ≤ (s[k].toNat : Int) := by omega
      have hbad : goodC s[k] = false → good s = false := by
        intro hgc
        unfold good
        have : s.data.toList.all goodC = false := by
          rw [List.all_eq_false]
          exact ⟨s[k], by exact List.getElem_mem (by simpa using hlt), by simpa using hgc⟩
        rw [this]; simp
      have Hbad := Lib.hid hbad; clear hbad
      have hgd : goodC s[k] = true → (s.data.toList.take (k + 1)).all goodC = true := by
        intro hgc
        rw [Hn.out, Hall.out]
        exact hgc
      have Hgd := Lib.hid hgd; clear hgd
      rcases hcls with g1 | g1 | g1 | g1 | ⟨g1, g2⟩ | ⟨g1, g2⟩ | ⟨g1, g2⟩ | g1
      · have b46 : ((s[k].toNat : Int) == 46) = false := by rw [beq_eq_false_iff_ne]; omega
        have b45 : ((s[k].toNat : Int) == 45) = false := by rw [beq_eq_false_iff_ne]; omega
        go_wp2
        go_ret
        exact ⟨.bool false, rfl, by rw [Hbad.out (by rw [Hc.out]; simp; omega)], rfl⟩
      · go_wp2
        go_round
        case rel => exact ⟨k + 1, by omega, by go_num, Hgd.out (by rw [Hc.out]; simp; omega)⟩
        case measure => simp [intOf]; omega
      · go_wp2
        go_round
        case rel => exact ⟨k + 1, by omega, by go_num, Hgd.out (by rw [Hc.out]; simp; omega)⟩
        case measure => simp [intOf]; omega
      · have b46 : ((s[k].toNat : Int) == 46) = false := by rw [beq_eq_false_iff_ne]; omega
        have b45 : ((s[k].toNat : Int) == 45) = false := by rw [beq_eq_false_iff_ne]; omega
        go_wp2
        go_ret
        exact ⟨.bool false, rfl, by rw [Hbad.out (by rw [Hc.out]; simp; omega)], rfl⟩
      · go_wp2
        go_round
        case rel => exact ⟨k + 1, by omega, by go_num, Hgd.out (by rw [Hc.out]; simp; omega)⟩
        case measure => simp [intOf]; omega
      · have b57 : decide ((s[k].toNat : Int) ≤ 57) = false := by simp; omega
        have b46 : ((s[k].toNat : Int) == 46) = false := by rw [beq_eq_false_iff_ne]; omega
        have b45 : ((s[k].toNat : Int) == 45) = false := by rw [beq_eq_false_iff_ne]; omega
        go_wp2
        go_ret
        exact ⟨.bool false, rfl, by rw [Hbad.out (by rw [Hc.out]; simp; omega)], rfl⟩
      · go_wp2
        go_round
        case rel => exact ⟨k + 1, by omega, by go_num, Hgd.out (by rw [Hc.out]; simp; omega)⟩
        case measure => simp [intOf]; omega
      · have b122 : decide ((s[k].toNat : Int) ≤ 122) = false := by simp; omega
        have b57 : decide ((s[k].toNat : Int) ≤ 57) = false := by simp; omega
        have b46 : ((s[k].toNat : Int) == 46) = false := by rw [beq_eq_false_iff_ne]; omega
        have b45 : ((s[k].toNat : Int) == 45) = false := by rw [beq_eq_false_iff_ne]; omega
        go_wp2
        go_ret
        exact ⟨.bool false, rfl, by rw [Hbad.out (by rw [Hc.out]; simp; omega)], rfl⟩
    · go_wp2
      go_ret
      refine ⟨.bool true, rfl, ?_, rfl⟩
      have : k = s.size := by omega
      subst this
      have := Hall.out
      rw [List.take_of_length_le (by simp)] at this
      rw [show good s = true from by unfold good; simp only [this]; simp; omega]
end
end Go.Proofs.YtdhhbajggafdhaaDoor
