import Derived.Test.YtdhhbajggafdhaaDoorFr3
/- frame.check, Size. -/
namespace Go.Proofs.YtdhhbajggafdhaaDoor
open Go Go.Sl Go.Med Go.MapKept Go.RowKit
set_option linter.unusedVariables false
section
variable {w0 w : World} {F : List HProp} {v bv dv : Value} {q : Nat}
set_option maxRecDepth 20000 in
set_option maxHeartbeats 1000000 in
theorem check_c (x : Frm.Ent) (hk : x.key.length = 32) (a : Option Addr) (c : Nat) (h : Sat w0 w F) :
    Calls Tryd.prog 59 #[.agg (entA x (.slice a x.data.length c))] w (Rtn fun v w' => v = errno (Frm.check x) ∧ Sat w0 w' F) := by
  have hA := h.alloc (.cells (entA x (.slice a x.data.length c)) 33)
  have c0 := hA.cellAt 0 _ (entA_0 x _)
  have c33 := hA.cellAt 33 _ (entA_33 x _ hk)
  have hat := hA.at
  have hnk := eqIn_zero x.key hk
  have hkk := entA_key x (.slice a x.data.length c) hk
  have Hkk := Lib.hid hkk; have Hat := Lib.hid hat
  have hks : (bys x.key).toArray.size = 32 := by simp [bys, hk]
  have Hks := Lib.hid hks
  have HA := Lib.hid hA.drop
  clear hkk hat hks hA
  generalize hL : x.data.length = L at *
  have HL := Lib.hid hL; clear hL
  by_cases t2 : x.tag = 2
  · rw [t2] at c0
    by_cases hz : x.key = Frm.zero32
    · have hzd : decide (x.key = Frm.zero32) = true := decide_eq_true hz
      have Hz := Lib.hid hz
      clear hz
      by_cases h0 : 0 < L
      · have Hf := Lib.hid (show Frm.check x = 4 by unfold Frm.check; simp [t2, Hz.out, HL.out, h0])
        have h0i : (0 : Int) < (L : Int) := by omega
        go_enter Tryd.func59, Tryd.ntmps59
        go_wp2_with (refine wpList_load_sub (P := Tryd.prog) (by rfl) 30 _ (by rfl) _ 1 (by rfl) _ _ (bys x.key).toArray (0, 0) _ Hat.out Hkk.out Tryd.underlying30 (by rfl) (by rw [Hks.out]; kernel_rfl) ?_)
        go_ret
        exact ⟨errno 4, rfl, by rw [Hf.out], HA.out⟩
      · obtain rfl : L = 0 := by omega
        have Hf := Lib.hid (show Frm.check x = 0 by unfold Frm.check; simp [t2, Hz.out, HL.out])
        go_enter Tryd.func59, Tryd.ntmps59
        go_wp2_with (refine wpList_load_sub (P := Tryd.prog) (by rfl) 30 _ (by rfl) _ 1 (by rfl) _ _ (bys x.key).toArray (0, 0) _ Hat.out Hkk.out Tryd.underlying30 (by rfl) (by rw [Hks.out]; kernel_rfl) ?_)
        go_ret
        exact ⟨errno 0, rfl, by rw [Hf.out], HA.out⟩
    · have hzd : decide (x.key = Frm.zero32) = false := decide_eq_false hz
      have Hf := Lib.hid (show Frm.check x = 4 by unfold Frm.check; simp [t2, hz])
      clear hz
      go_enter Tryd.func59, Tryd.ntmps59
      go_wp2_with (refine wpList_load_sub (P := Tryd.prog) (by rfl) 30 _ (by rfl) _ 1 (by rfl) _ _ (bys x.key).toArray (0, 0) _ Hat.out Hkk.out Tryd.underlying30 (by rfl) (by rw [Hks.out]; kernel_rfl) ?_)
      go_ret
      exact ⟨errno 4, rfl, by rw [Hf.out], HA.out⟩
  · have t2b : (x.tag == 2) = false := by simpa using t2
    clear hnk
    by_cases t0 : x.tag = 0
    · rw [t0] at c0
      by_cases hb : 16384 < L
      · have Hf := Lib.hid (show Frm.check x = 5 by unfold Frm.check; simp [t0, HL.out, hb])
        have hbi : (16384 : Int) < (L : Int) := by omega
        go_enter Tryd.func59, Tryd.ntmps59
        go_wp2
        go_ret
        exact ⟨errno 5, rfl, by rw [Hf.out], HA.out⟩
      · have Hf := Lib.hid (show Frm.check x = 0 by unfold Frm.check; simp [t0, HL.out, hb])
        have hbi : ¬ (16384 : Int) < (L : Int) := by omega
        go_enter Tryd.func59, Tryd.ntmps59
        go_wp2
        go_ret
        exact ⟨errno 0, rfl, by rw [Hf.out], HA.out⟩
    · have t0b : (x.tag == 0) = false := by simpa using t0
      by_cases t1 : x.tag = 1
      · rw [t1] at c0
        by_cases h0 : 0 < L
        · have Hf := Lib.hid (show Frm.check x = 4 by unfold Frm.check; simp [t1, HL.out, h0])
          have h0i : (0 : Int) < (L : Int) := by omega
          go_enter Tryd.func59, Tryd.ntmps59
          go_wp2
          go_ret
          exact ⟨errno 4, rfl, by rw [Hf.out], HA.out⟩
        · obtain rfl : L = 0 := by omega
          have Hf := Lib.hid (show Frm.check x = 0 by unfold Frm.check; simp [t1, HL.out])
          go_enter Tryd.func59, Tryd.ntmps59
          go_wp2
          go_ret
          exact ⟨errno 0, rfl, by rw [Hf.out], HA.out⟩
      · have t1b : (x.tag == 1) = false := by simpa using t1
        have Hf := Lib.hid (show Frm.check x = 4 by unfold Frm.check; simp [t0, t1, t2])
        clear t0 t1 t2
        generalize x.tag = T at *
        go_enter Tryd.func59, Tryd.ntmps59
        go_wp2
        go_ret
        exact ⟨errno 4, rfl, by rw [Hf.out], HA.out⟩
end
end Go.Proofs.YtdhhbajggafdhaaDoor
