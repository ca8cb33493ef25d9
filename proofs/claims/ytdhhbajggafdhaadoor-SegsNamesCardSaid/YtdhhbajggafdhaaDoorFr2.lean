import Derived.Test.YtdhhbajggafdhaaDoorFr1
import Derived.Test.YtdhhbajggafdhaaDoorAux
/- bits.Put and Get of four bytes. -/
namespace Go.Proofs.YtdhhbajggafdhaaDoor
open Go Go.Sl Go.Med Go.MapKept Go.RowKit
section
variable {w0 w : World} {F : List HProp} {v bv : Value}
set_option maxHeartbeats 1000000 in
theorem put4_c (x : Nat) (hx : x < 18446744073709551616) (h : Sat w0 w F) :
    Calls Tryd.prog 72 #[.int .u64 x, .int .i64 4] w (Rtn fun v w' => Sat w0 w' (bsl v (Frm.le x 4) :: F) ∧ ∃ a, v = .slice a 4 4) := by
  have Hx := Lib.hid hx
  clear hx
  have hmk : ∀ w, (Instr.makeSlice 31 (.int .i64 4) (.int .i64 4)).run Tryd.prog w = .ok (.slice (some ⟨w.heap.size, 0, none⟩) 4 4) (w.alloc (.cells #[.int .u8 0, .int .u8 0, .int .u8 0, .int .u8 0] 5)) := fun w => by kernel_rfl
  go_enter Tryd.func72, Tryd.ntmps72
  go_wp2_with fail
  have hA := h.alloc (.cells #[.int .u8 0, .int .u8 0, .int .u8 0, .int .u8 0] 5)
  have hB : Sat w0 (w.alloc (.cells #[.int .u8 0, .int .u8 0, .int .u8 0, .int .u8 0] 5)) (bsl (.slice (some ⟨w.heap.size, 0, none⟩) 4 4) [0, 0, 0, 0] :: F) := Sat.osl_of_pt hA rfl (Nat.le_refl _) (Nat.le_refl _) (by unfold maxLen; omega) rfl
  obtain ⟨b0, b1, b2, b3, hb0, hb1, hb2, hb3, hle⟩ : ∃ b0 b1 b2 b3 : UInt8, (x : Int) % 256 = b0.toNat ∧ (x : Int) / 256 % 256 = b1.toNat ∧ (x : Int) / 65536 % 256 = b2.toNat ∧ (x : Int) / 16777216 % 256 = b3.toNat ∧ Frm.le x 4 = [b0, b1, b2, b3] := by
    refine ⟨_, _, _, _, ?_, ?_, ?_, ?_, rfl⟩
    all_goals (rw [UInt8.toNat_ofNat']; omega)
  have Hle := Lib.hid hle
  clear hle hmk hA
  generalize w.heap.size = q at *
  go_loopg [17] 4 (fun g iq wr => ∃ (i : Nat) (l' : Bs), g = 4 - i ∧ i ≤ 4 ∧ iq = .int .i64 i ∧ l' = (match i with | 0 => [0, 0, 0, 0] | 1 => [b0, 0, 0, 0] | 2 => [b0, b1, 0, 0] | 3 => [b0, b1, b2, 0] | _ => [b0, b1, b2, b3]) ∧ Sat w0 wr (bsl (.slice (some ⟨q, 0, none⟩) 4 4) l' :: F))
  case atStart => exact ⟨0, _, rfl, by omega, rfl, rfl, hB⟩
  case round =>
    obtain ⟨i, l', rfl, hi, rfl, hl', hS⟩ := hrel
    clear hB
    obtain rfl | rfl | rfl | rfl | rfl : i = 0 ∨ i = 1 ∨ i = 2 ∨ i = 3 ∨ i = 4 := by omega
    · obtain rfl : l' = [0, 0, 0, 0] := hl'
      obtain ⟨g, he, e0, e1, hS5⟩ := bsl_set (i := 0) hS (by simp) b0
      cases he
      go_wp2_with fail
      go_roundg 3
      case measure => omega
      case rel => exact ⟨1, [b0, 0, 0, 0], rfl, by omega, rfl, rfl, hS5⟩
    · obtain rfl : l' = [b0, 0, 0, 0] := hl'
      obtain ⟨g, he, e0, e1, hS5⟩ := bsl_set (i := 1) hS (by simp) b1
      cases he
      go_wp2_with fail
      go_roundg 2
      case measure => omega
      case rel => exact ⟨2, [b0, b1, 0, 0], rfl, by omega, rfl, rfl, hS5⟩
    · obtain rfl : l' = [b0, b1, 0, 0] := hl'
      obtain ⟨g, he, e0, e1, hS5⟩ := bsl_set (i := 2) hS (by simp) b2
      cases he
      go_wp2_with fail
      go_roundg 1
      case measure => omega
      case rel => exact ⟨3, [b0, b1, b2, 0], rfl, by omega, rfl, rfl, hS5⟩
    · obtain rfl : l' = [b0, b1, b2, 0] := hl'
      obtain ⟨g, he, e0, e1, hS5⟩ := bsl_set (i := 3) hS (by simp) b3
      cases he
      go_wp2_with fail
      go_roundg 0
      case measure => omega
      case rel => exact ⟨4, [b0, b1, b2, b3], rfl, by omega, rfl, rfl, hS5⟩
    · obtain rfl : l' = [b0, b1, b2, b3] := hl'
      go_wp2
      go_ret
      exact ⟨_, rfl, by rw [Hle.out]; exact hS, _, rfl⟩
end
end Go.Proofs.YtdhhbajggafdhaaDoor
