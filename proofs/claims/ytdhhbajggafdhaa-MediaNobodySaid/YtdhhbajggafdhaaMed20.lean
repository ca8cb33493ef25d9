import Derived.Test.YtdhhbajggafdhaaMed18
import Derived.Test.YtdhhbajggafdhaaMed19
/- begins, lives. -/
namespace Go.Proofs.Ytdhhbajggafdhaa
open Go Go.Sl Go.Med Go.MapKept Go.RowKit
section
variable {w0 w : World} {F : List HProp} {m fb nb b r : Nat} {M : Med} {bs : List Nat} {wv v bv lv av : Value} {s : ByteArray} {fs : List Fil} {K : Nat} {f : Fil}
set_option maxHeartbeats 1000000 in
theorem begins_c (la lb : Bs) (hp : la <+: lb) (ha : Ro w0 F (rdsl 1 av (bys la))) (hb : Ro w0 F (rdsl 1 bv (bys lb))) (hc : capOk bv) (h : Sat w0 w F) :
    Calls Try.prog 19 #[av, bv] w (Rtn fun v w' => v = .bool true ∧ Sat w0 w' F) := by
  obtain ⟨aa, an, ac, rfl, hal, _⟩ := id (ha w h)
  obtain ⟨ba, bn, bc, rfl, h1, h2⟩ := hc
  obtain ⟨_, _, _, he, hbl, _⟩ := id (hb w h)
  cases he
  rw [bys_len, Nat.mul_one] at hal hbl
  subst hal
  obtain rfl := hbl.symm
  have hle := hp.length_le
  have htk : lb.take la.length = la := (List.prefix_iff_eq_take.1 hp).symm
  have hb2 : Ro w0 F (rdsl 1 (.slice ba la.length bc) (bys la)) := fun w' hw' => by
    have := rdsl_min (hb w' hw') la.length
    rw [Nat.min_eq_right hle, ← bys_take, htk] at this
    exact this
  have hsm := same_c la ha hb2 h (by omega)
  have k1 : (la.length : Int) ≤ (lb.length : Int) := by omega
  have k2 : (la.length : Int) ≤ (bc : Int) := by omega
  clear ha hb hp htk hb2
  go_enter Try.func19, Try.ntmps19
  go_wp2_with (go_at_call 35; refine hsm.mono ?_; rintro e w1 ⟨v, rfl, rfl, hS⟩)
  go_ret
  exact ⟨.bool true, rfl, rfl, hS⟩
theorem create_first (hm : Sat w0 w (MedRep m (new r) :: F)) (hr : r ≤ 16777216) :
    Calls Try.prog 12 #[ptr m, .string ⟨#[97]⟩] w (Rtn fun v w' => v = errno 0 ∧ Sat w0 w' (MedRep m ⟨r, [], [(aN, 0)], [Fil.new], [⟨ByteArray.empty, aN, 0⟩], false, 0, false⟩ :: F)) := by
  have := create_c (Med.Ok.new 0 r hr) (by omega) hm aN (by show (1 : Nat) ≤ _; omega)
  rw [create_one] at this
  exact this
theorem append_first_c (hr : r ≤ 16777216) (hm : Sat w0 w (MedRep m ⟨r, [], [(aN, 0)], [Fil.new], [⟨ByteArray.empty, aN, 0⟩], false, 0, false⟩ :: F)) (lb : Bs) (hb : Ro w0 F (rdsl 1 bv (bys lb))) (hl : lb.length ≤ r) :
    Calls Try.prog 13 #[ptr m, .string ⟨#[97]⟩, bv] w (Rtn fun v w' => v = errno 0 ∧ Sat w0 w' (MedRep m ⟨r, [], [(aN, 0)], [⟨[], lb, [⟨false, 0, lb⟩]⟩], [⟨ByteArray.empty, aN, 0⟩], false, 0, false⟩ :: F)) := by
  have ok : Med.Ok 1 (⟨r, [], [(aN, 0)], [Fil.new], [⟨ByteArray.empty, aN, 0⟩], false, 0, false⟩ : Med) := by
    have := (Med.Ok.new 0 r hr).create aN
    rw [create_one] at this
    exact this
  have := append_c ok (by omega) hm aN lb hb
  rw [append_first r lb hl] at this
  exact this
theorem ok_first (hr : r ≤ 16777216) (lb : Bs) (hl : lb.length ≤ r) : Med.Ok 2 (⟨r, [], [(aN, 0)], [⟨[], lb, [⟨false, 0, lb⟩]⟩], [⟨ByteArray.empty, aN, 0⟩], false, 0, false⟩ : Med) := by
  have h1 := (Med.Ok.new 0 r hr).create aN
  rw [create_one] at h1
  have h2 := Med.Ok.append h1 aN lb
  rw [append_first r lb hl] at h2
  exact h2
set_option maxHeartbeats 1000000 in
theorem lives_c (h : Sat w0 w F) : Calls Try.prog 20 #[] w (Rtn fun v w' => v = .bool true ∧ Sat w0 w' F) := by
  have hnew := new_yes 10 (by omega) h
  have hcast : ((10 : Nat) : Int) = 10 := rfl
  rw [hcast] at hnew
  go_enter Try.func20, Try.ntmps20
  go_wp2_with (first
    | (go_at_call 10; refine hnew.mono ?_; rintro e w1 ⟨v, rfl, m, rfl, hS1⟩)
    | (go_at_call 12; refine (create_first hS1 (by omega)).mono ?_; rintro e w2 ⟨v, rfl, rfl, hS2⟩))
  have hS3 := (hS2.alloc (.cells #[.int .u8 7] 5)).pick1
  have hro : Ro w0 (pt w2.heap.size (.cells #[.int .u8 7] 5 (0,0)) :: F) (rdsl 1 (.slice (some ⟨w2.heap.size, 0, none⟩) 1 1) (bys [7])) := fun w' hw' => by
    have c := hw'.cellAt 0 _ rfl
    refine ⟨_, 1, 1, rfl, rfl, fun i x hi => ?_⟩
    cases i with
    | zero => cases hi; exact ⟨_, rfl, c⟩
    | succ i => cases hi
  refine (append_first_c (by omega) hS3 [7] hro (by decide)).mono ?_
  rintro e w3 ⟨v, rfl, rfl, hS4⟩
  have hu := used_rep (ok_first (by omega) [7] (by decide)) hS4
  have he : (⟨10, [], [(aN, 0)], [⟨[], [7], [⟨false, 0, [7]⟩]⟩], [⟨ByteArray.empty, aN, 0⟩], false, 0, false⟩ : Med).usedTold = 1 := rfl
  rw [he] at hu
  have hcast1 : ((1 : Nat) : Int) = 1 := rfl
  rw [hcast1] at hu
  clear hS3 hro he
  go_wp2_with (go_at_call 23; refine hu.mono ?_; rintro e w4 ⟨v, rfl, rfl, hS5⟩)
  go_ret
  exact ⟨.bool true, rfl, rfl, hS5.drop.drop⟩
end
end Go.Proofs.Ytdhhbajggafdhaa
