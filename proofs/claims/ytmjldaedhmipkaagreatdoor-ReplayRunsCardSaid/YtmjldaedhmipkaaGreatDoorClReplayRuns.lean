/-
  'ReplayRunsCardSaid': whatever the input, the law ReplayRuns returns true and the input reads as it did; the table of crc is tied to the program's text. No condition.
-/
import Derived.Test.YtmjldaedhmipkaaGreatDoorJ10
import Derived.Test.YtmjldaedhmipkaaGreatDoorRows
import Derived.Test.YtmjldaedhmipkaaGreatDoorCards
import Derived.Test.YtmjldaedhmipkaaGreatDoorTie
import Derived.ProofKit
import Derived.LaidMore
import Derived.OpenShut
import Derived.ShutString
import Derived.SevenTiedAt
set_option linter.unusedVariables false
namespace Go.Proofs.YtmjldaedhmipkaaGreatDoor.runsS
open Go.ChangeShapes Go.WideShapes Go.ChangeAt Go.RowKit
open Go.ChangeMaps (open_string shut_string)
open Go Go.Sl Go.Med Go.Proofs.YtmjldaedhmipkaaGreatDoor.card
theorem walk {W : World} {v0 : Value} (l0 : List PC) (r0 : rdsl 6 v0 (l0.flatMap pcL) W) (c0 : capOk v0) (i0 : ∀ d ∈ l0, d.At W) (h : 0 < W.heap.size ∧ Half W) :
    Calls Tryz.prog 4 #[v0] W fun e w' => e = .returned (.bool true) ∧ Below W.heap.size W w' := by
  refine (replay_runs_c (F := [Sl.old W]) l0 (rd_old r0) (fun d hd => (i0 d hd).ro) (fun w hw i hi => (hw.below.cell (p := ⟨0, i, none⟩) h.1).trans (h.2 i hi)) (Sat.start W)).mono ?_
  rintro e w' ⟨v, rfl, rfl, hS⟩
  exact ⟨rfl, hS.below⟩
set_option maxRecDepth 100000 in
theorem lifted (os : Os) (started : os.Started) (H : Type) (enc : TypeId × Value → H) :
    ReturnsInHanded {} Tryz.checked os 4 .any (fun w args => (Rows.replayRunsSpec.pre enc Tryz.prog Tryz.f4 [] false w args ∧ laidMetH Tryz.prog [("hoard/crc.half", Rows.laid_hoard_crc_half)] w) ∧ sizedMet enc Tryz.prog Tryz.f4 (OpenSpec.ofChange Rows.replayRunsSpec) false w args)
      (Rows.replayRunsSpec.post enc Tryz.prog Tryz.f4 false true false false) := by
  refine returnsInHanded_of_change_and (C := Tryz.checked) (X := fun w _ => laidMetH Tryz.prog [("hoard/crc.half", Rows.laid_hoard_crc_half)] w) (fun _ _ _ hh h => h.of_heap hh) own started (by kernel_rfl) Tryz.func4
    (ChangeSpec.witness_shaped (enc := enc) (C := Tryz.checked) (os := os) (X := fun w _ => laidMetH Tryz.prog [("hoard/crc.half", Rows.laid_hoard_crc_half)] w) false (World.doorLaid Tryz.prog 400 os) #[.slice none 0 0] 8 rfl (World.shaped_of_RefB (by kernel_rfl) (by kernel_rfl)) (by kernel_rfl) (by kernel_rfl) (by kernel_rfl) (door_met os _)) ?_
  intro W base args ds gs before hval0 hW _ _ hL _
  have hval : ∀ (j : Nat) t v, Tryz.f4.params[j]? = some t → args[j]? = some v → Value.okWide Tryz.prog W .any base t v := hval0
  have hW' := hW
  obtain ⟨p, q, hA0, hV, rfl, hfz, hnd⟩ := hW
  have hA : DataW.TrodAll enc Tryz.prog W 0 (fun _ => true) true Tryz.f4.params.toList args.toList ds p := hA0
  rw [Tryz.params4] at hA hval
  obtain ⟨v0, vs0, d0, ds0, p0, q0, hargs, rfl, rfl, h0, r0⟩ := trodAll_cons hA
  obtain ⟨rfl, rfl, rfl⟩ := trodAll_nil r0
  obtain rfl : args = #[v0] := by cases args; simp_all
  obtain ⟨rfl, rfl⟩ := trodVars_none hV
  obtain ⟨a0, len0, cap0, rfl⟩ := okWide_slice Tryz.underlying70 (hval 0 70 v0 rfl rfl)
  have k0 := h0
  have lt0 : ∀ x ∈ p0, x.block < W.heap.size := by obtain ⟨m, hm⟩ := k0; exact DataW.trod_lt m _ _ _ hm
  obtain ⟨l0, r0, c0, i0⟩ : ∃ ds : List PC, rdsl 6 (.slice a0 len0 cap0) (ds.flatMap pcL) W ∧ capOk (.slice a0 len0 cap0) ∧ ∀ d ∈ ds, d.At W := by
    obtain ⟨fuel, hf⟩ := h0
    exact in_pcs hf
  clear hA0 hval0
  refine (walk l0 r0 c0 i0 (of_laid hL)).mono fun e W' ⟨he, bel⟩ => ?_
  subst he
  exact ⟨_, rfl, _, _, _, [], _, [], hW', trodAll_mk1 (shut_bool Tryz.underlying4 _), (trodAll_cons_mk (Below.trod laidOut (by kernel_rfl) (of_decide_eq_true (by kernel_rfl)) k0 bel lt0) trodAll_mk0), rfl, bel.frame _, fun h => by cases h⟩
theorem over : Rows.replayRunsRow.holds Tryz.pinned (OpenSpec.ofChange Rows.replayRunsSpec) :=
  OpenClaim.holds_of_wide 4 Tryz.f4 rfl rfl rfl rfl rfl rfl rfl ⟨rfl, rfl, rfl, rfl, rfl⟩ rfl rfl rfl rfl rfl (by kernel_rfl) Tryz.func4 (by kernel_rfl)
    (of_decide_eq_true (by kernel_rfl)) (by unfold Func.isWrapper; first | (rw [if_pos (by decide +kernel)]; kernel_rfl) | (rw [if_neg (by decide +kernel)]; exact ⟨rfl, rfl⟩))
    (fun os started H enc _ => lifted os started H enc)
/-- The statement: the tied card. -/
theorem proved : Rows.ReplayRunsCardSaid :=
  Claim7.holds_tied_plain_at .later [] [.data] true (true, "277959205d57ee72caa775a896fbc353136107c959f05ab74ee12943ab8ba270") false
    over (fun _ h => by cases h) (by kernel_rfl) (fun _ h => by cases h) replayRuns_row_tie rfl ⟨rfl, rfl⟩ (by kernel_rfl) rfl
    (fun f fn hf hfn => by
      obtain rfl : f = 4 := Option.some.inj ((show Tryz.prog.funcNamed "hoard/hoardlaw15.ReplayRuns" = some 4 by kernel_rfl).symm.trans hf) |>.symm
      obtain rfl : fn = Tryz.f4 := (Option.some.inj (Tryz.func4.symm.trans hfn)).symm
      exact ⟨by kernel_rfl, fun j t ht => by
        rw [Tryz.params4] at ht
        have h3 : t = 70 := by
          rcases j with _ | j
          · simpa using ht.symm
          · simp at ht
        subst h3
        exact (show Tryz.prog.wantsStandIn 70 = false by kernel_rfl)⟩)
    (by kernel_rfl)
#print axioms proved
end Go.Proofs.YtmjldaedhmipkaaGreatDoor.runsS
