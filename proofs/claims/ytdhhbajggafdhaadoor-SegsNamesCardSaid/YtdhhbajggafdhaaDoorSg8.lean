import Derived.Test.YtdhhbajggafdhaaDoorSg7
/- hoardlaw14.lives. -/
namespace Go.Proofs.YtdhhbajggafdhaaDoor
open Go Go.Sl Go.Med Go.MapKept Go.RowKit
set_option linter.unusedVariables false
def comE : Frm.Ent := ⟨2, Frm.zero32, []⟩
def comB : Bs := (Frm.encode comE).1
theorem comE_enc : Frm.encode comE = (comB, 0) := by kernel_rfl
theorem comB_len : comB.length = 9 := by kernel_rfl
def liveM : Med := Med.new 1000
theorem live_create : liveM.create (Seg.name 0) = ((liveM.create (Seg.name 0)).1, 0) := by kernel_rfl
theorem live_append : (liveM.create (Seg.name 0)).1.append (Seg.name 0) (magic ++ comB) = (((liveM.create (Seg.name 0)).1.append (Seg.name 0) (magic ++ comB)).1, 0) := by kernel_rfl
theorem live_alive : Seg.alive liveM = 0 := by kernel_rfl
theorem live_fresh : Seg.fresh liveM 200 = ⟨200, [], false, 0⟩ := by kernel_rfl
section
variable {w0 w : World} {F : List HProp}
set_option maxRecDepth 20000 in
set_option maxHeartbeats 4000000 in
theorem lives_c (hH : Ro w0 F Half) (h : Sat w0 w F) :
    Calls Tryd.prog 13 #[] w (Rtn fun v w' => v = .bool true ∧ Sat w0 w' F) := by
  have hnew : Calls Tryd.prog 17 #[.int .i64 1000] w (Rtn fun v w' => ∃ m, v = .tuple #[ptr m, errno 0] ∧ Sat w0 w' (MedRep m (Med.new 1000) :: F)) := new_yes 1000 (by decide) h
  have HH := Lib.hid hH
  clear hH
  go_enter Tryd.func13, Tryd.ntmps13
  go_wp2_with fail
  refine hnew.mono ?_
  rintro e w1 ⟨v, rfl, m, rfl, hS⟩
  clear hnew
  have hop := open_c (K := 20) (Med.Ok.new 20 1000 (by decide)) 200 hS live_alive (by decide) (by decide)
  rw [show Seg.fresh (Med.new 1000) 200 = ⟨200, [], false, 0⟩ from live_fresh] at hop
  go_wp2_with fail
  refine hop.mono ?_
  rintro e w2 ⟨v, rfl, p, rfl, hS2⟩
  clear hop
  have hap := append0_c (M := liveM) (K := 20) (M1 := (liveM.create (Seg.name 0)).1) (M2 := ((liveM.create (Seg.name 0)).1.append (Seg.name 0) (magic ++ comB)).1) comE rfl none 0 (fun w _ => rdsl_nil 1 0 w) HH.out (by decide) comE_enc (by decide) (Med.Ok.new 20 1000 (by decide)) (by decide)
    (fun h => by have := comB_len; rw [h] at this; cases this) (by rw [comB_len]; decide) rfl live_create live_append hS2
  rw [comB_len] at hap
  go_wp2_with fail
  refine hap.mono ?_
  rintro e w3 ⟨v, rfl, rfl, hS3⟩
  clear hap
  go_wp2
  go_ret
  exact ⟨_, rfl, rfl, (hS3.alloc _).drop.drop.drop⟩
end
end Go.Proofs.YtdhhbajggafdhaaDoor
