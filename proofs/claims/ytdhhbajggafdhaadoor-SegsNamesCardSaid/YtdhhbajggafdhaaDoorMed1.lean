import Derived.Test.YtdhhbajggafdhaaDoorMedR
import Derived.WalkLawsBesides
import Derived.WalkSpells
/- The media's small functions. -/
namespace Go.Proofs.YtdhhbajggafdhaaDoor
open Go Go.Sl Go.Med Go.MapKept Go.RowKit
section
variable {w0 w : World} {F : List HProp} {m fb nb : Nat} {M : Med} {bs : List Nat} {wv : Value} {s : ByteArray}

set_option maxHeartbeats 400000 in
theorem dead_c (h : Sat w0 w (medPt m M fb nb wv :: F)) :
    Calls Tryd.prog 55 #[ptr m] w (Rtn fun v w' => v = errno (bif M.off then 12 else 0) ∧ w = w') := by
  obtain ⟨room, fast, now, files, waits, armed, left, off⟩ := M
  have c2 := h.cellAt 2 _ rfl
  have c6 := h.cellAt 6 _ rfl
  go_enter Tryd.func55, Tryd.ntmps55
  cases off <;> (go_wp2; go_ret; exact ⟨_, rfl, rfl, rfl⟩)

set_option maxHeartbeats 400000 in
theorem step_c (h : Sat w0 w (medPt m M fb nb wv :: F)) (hl : M.left ≤ 9223372036854775807) :
    Calls Tryd.prog 70 #[ptr m] w (Rtn fun v w' => v = errno (bif M.step.2 then 0 else 12) ∧ Sat w0 w' (medPt m M.step.1 fb nb wv :: F)) := by
  obtain ⟨room, fast, now, files, waits, armed, left, off⟩ := M
  have c4 := h.cellAt 4 _ rfl
  have c5 := h.cellAt 5 _ rfl
  have f5 := h.freeAt 5
  have f6 := h.freeAt 6
  have c6 := h.cellAt 6 _ rfl
  simp only at hl
  go_enter Tryd.func70, Tryd.ntmps70
  cases armed
  · go_wp2
    go_ret
    exact ⟨_, rfl, by simp [Med.step], by simpa [Med.step] using h⟩
  · by_cases hz : left = 0
    · subst hz
      go_wp2
      go_ret
      exact ⟨_, rfl, rfl, h.set 6 (.bool true)⟩
    · have hz' : ((left : Int) == 0) = false := by simpa using hz
      have e1 : ((left - 1 : Nat) : Int) = (left : Int) - 1 := by omega
      go_wp2
      go_ret
      refine ⟨_, rfl, by simp [Med.step, hz], ?_⟩
      have := h.set 5 (.int .i64 ((left : Int) - 1))
      simp only [Med.step, hz, if_true, if_false, medPt, e1]
      exact this
end
end Go.Proofs.YtdhhbajggafdhaaDoor
