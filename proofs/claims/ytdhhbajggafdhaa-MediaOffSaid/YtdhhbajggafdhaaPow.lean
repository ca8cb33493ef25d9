import Derived.Test.YtdhhbajggafdhaaMed11
/- Power. -/
namespace Go.Proofs.Ytdhhbajggafdhaa
open Go Go.Sl Go.Med Go.MapKept Go.RowKit
section
variable {w0 w : World} {F : List HProp} {m fb nb b r : Nat} {M : Med} {bs : List Nat} {wv v bv : Value} {s : ByteArray} {l : Names} {fs : List Fil} {K : Nat}
@[go_sem] theorem neqMapNil (w : World) (r : Option Nat) : (binOp .neq 61 (.map r) (.map none)).run Try.prog w = .ok (.bool r.isSome) w := by
  have := run_neq_map_nil w _ _ _ r Try.underlying61
  rw [this]; cases r <;> rfl
set_option maxHeartbeats 1000000 in
theorem power_c (h : Sat w0 w (MedRep m M :: F)) :
    Calls Try.prog 31 #[ptr m] w (Rtn fun v w' => v = .bool (!M.off) ∧ w = w') := by
  obtain ⟨bs, fb, nb, wv, hl, hR⟩ := MedRep.open h
  have c2 := hR.cellAt 2 _ rfl
  have c6 := hR.cellAt 6 _ rfl
  go_enter Try.func31, Try.ntmps31
  go_wp2
  go_ret
  exact ⟨_, rfl, rfl, rfl⟩
end
end Go.Proofs.Ytdhhbajggafdhaa
