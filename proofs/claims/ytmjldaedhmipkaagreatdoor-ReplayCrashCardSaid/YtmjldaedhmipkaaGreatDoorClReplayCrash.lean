/-
  'ReplayCrashCardSaid': whatever the input, the law ReplayCrash returns true and the input reads as it did; the table of crc is tied to the program's text. No condition.
-/
import Derived.Test.YtmjldaedhmipkaaGreatDoorJ9
import Derived.Test.YtmjldaedhmipkaaGreatDoorRows
import Derived.Test.YtmjldaedhmipkaaGreatDoorCards
import Derived.Test.YtmjldaedhmipkaaGreatDoorTie
import Derived.ProofKit
import Derived.LaidMore
import Derived.OpenShut
import Derived.ShutString
import Derived.SevenTiedAt
set_option linter.unusedVariables false
namespace Go.Proofs.YtmjldaedhmipkaaGreatDoor.crashS
open Go.ChangeShapes Go.WideShapes Go.ChangeAt Go.RowKit
open Go.ChangeMaps (open_string shut_string)
open Go Go.Sl Go.Med Go.Proofs.YtmjldaedhmipkaaGreatDoor.card
theorem walk {W : World} {v1 v2 : Value} (z0 : Int) (w0 : inI z0) (l1 : List (Frm.Ent × Value)) (r1 : rdsl 34 v1 (entsL l1) W) (c1 : capOk v1) (i1 : ∀ d ∈ l1, EntAt W d) (l2 : List Int) (r2 : rdsl 1 v2 (ints l2) W) (c2 : capOk v2) (i2 : ∀ x ∈ l2, inI x) (h : 0 < W.heap.size ∧ Half W) :
    Calls Tryz.prog 9 #[.int .i64 z0, v1, v2] W fun e w' => e = .returned (.bool true) ∧ Below W.heap.size W w' := by
  obtain ⟨ca, cn, cc, rfl, hcn, hcm⟩ := c2
  refine (replay_crash_c (F := [Sl.old W]) l1 z0 l2 hcn hcm i2 (rd_old r2) (rd_old r1) (fun d hd => (i1 d hd).ro) (fun w hw i hi => (hw.below.cell (p := ⟨0, i, none⟩) h.1).trans (h.2 i hi)) (Sat.start W)).mono ?_
  rintro e w' ⟨v, rfl, rfl, hS⟩
  exact ⟨rfl, hS.below⟩
set_option maxRecDepth 100000 in
theorem lifted (os : Os) (started : os.Started) (H : Type) (enc : TypeId × Value → H) :
    ReturnsInHanded {} Tryz.checked os 9 .any (fun w args => (Rows.replayCrashSpec.pre enc Tryz.prog Tryz.f9 [] false w args ∧ laidMetH Tryz.prog [("hoard/crc.half", Rows.laid_hoard_crc_half)] w) ∧ sizedMet enc Tryz.prog Tryz.f9 (OpenSpec.ofChange Rows.replayCrashSpec) false w args)
      (Rows.replayCrashSpec.post enc Tryz.prog Tryz.f9 false true false false) := by
  refine returnsInHanded_of_change_and (C := Tryz.checked) (X := fun w _ => laidMetH Tryz.prog [("hoard/crc.half", Rows.laid_hoard_crc_half)] w) (fun _ _ _ hh h => h.of_heap hh) own started (by kernel_rfl) Tryz.func9
    (ChangeSpec.witness_shaped (enc := enc) (C := Tryz.checked) (os := os) (X := fun w _ => laidMetH Tryz.prog [("hoard/crc.half", Rows.laid_hoard_crc_half)] w) false (World.doorLaid Tryz.prog 400 os) #[.int .i64 0, .slice none 0 0, .slice none 0 0] 8 rfl (World.shaped_of_RefB (by kernel_rfl) (by kernel_rfl)) (by kernel_rfl) (by kernel_rfl) (by kernel_rfl) (door_met os _)) ?_
  intro W base args ds gs before hval0 hW _ _ hL _
  have hval : ∀ (j : Nat) t v, Tryz.f9.params[j]? = some t → args[j]? = some v → Value.okWide Tryz.prog W .any base t v := hval0
  have hW' := hW
  obtain ⟨p, q, hA0, hV, rfl, hfz, hnd⟩ := hW
  have hA : DataW.TrodAll enc Tryz.prog W 0 (fun _ => true) true Tryz.f9.params.toList args.toList ds p := hA0
  rw [Tryz.params9] at hA hval
  obtain ⟨v0, vs0, d0, ds0, p0, q0, hargs, rfl, rfl, h0, r0⟩ := trodAll_cons hA
  obtain ⟨v1, vs1, d1, ds1, p1, q1, rfl, rfl, rfl, h1, r1⟩ := trodAll_cons r0
  obtain ⟨v2, vs2, d2, ds2, p2, q2, rfl, rfl, rfl, h2, r2⟩ := trodAll_cons r1
  obtain ⟨rfl, rfl, rfl⟩ := trodAll_nil r2
  obtain rfl : args = #[v0, v1, v2] := by cases args; simp_all
  obtain ⟨rfl, rfl⟩ := trodVars_none hV
  obtain ⟨z0, rfl⟩ := okWide_int Tryz.underlying3 (hval 0 3 v0 rfl rfl)
  obtain ⟨a1, len1, cap1, rfl⟩ := okWide_slice Tryz.underlying103 (hval 1 103 v1 rfl rfl)
  obtain ⟨a2, len2, cap2, rfl⟩ := okWide_slice Tryz.underlying45 (hval 2 45 v2 rfl rfl)
  have k0 := h0
  have k1 := h1
  have k2 := h2
  have lt0 : ∀ x ∈ p0, x.block < W.heap.size := by obtain ⟨m, hm⟩ := k0; exact DataW.trod_lt m _ _ _ hm
  have lt1 : ∀ x ∈ p1, x.block < W.heap.size := by obtain ⟨m, hm⟩ := k1; exact DataW.trod_lt m _ _ _ hm
  have lt2 : ∀ x ∈ p2, x.block < W.heap.size := by obtain ⟨m, hm⟩ := k2; exact DataW.trod_lt m _ _ _ hm
  have w0 : inI z0 := by
    obtain ⟨fuel, hf⟩ := h0
    obtain ⟨n, hn, _, hw⟩ := DataW.trod_int Tryz.underlying3 hf
    obtain rfl : z0 = n := by simpa [Value.cells] using hn
    exact bounds_i64 hw
  obtain ⟨l1, r1, c1, i1⟩ : ∃ ds : List (Frm.Ent × Value), rdsl 34 (.slice a1 len1 cap1) (entsL ds) W ∧ capOk (.slice a1 len1 cap1) ∧ ∀ d ∈ ds, EntAt W d := by
    obtain ⟨fuel, hf⟩ := h1
    exact in_dos15 hf
  obtain ⟨l2, r2, c2, i2⟩ : ∃ l : List Int, rdsl 1 (.slice a2 len2 cap2) (ints l) W ∧ capOk (.slice a2 len2 cap2) ∧ ∀ z ∈ l, inI z := by
    obtain ⟨fuel, hf⟩ := h2
    exact in_nums Tryz.underlying45 Tryz.underlying3 (by kernel_rfl) hf
  clear hA0 hval0
  refine (walk z0 w0 l1 r1 c1 i1 l2 r2 c2 i2 (of_laid hL)).mono fun e W' ⟨he, bel⟩ => ?_
  subst he
  exact ⟨_, rfl, _, _, _, [], _, [], hW', trodAll_mk1 (shut_bool Tryz.underlying4 _), (trodAll_cons_mk (Below.trod laidOut (by kernel_rfl) (of_decide_eq_true (by kernel_rfl)) k0 bel lt0) (trodAll_cons_mk (Below.trod laidOut (by kernel_rfl) (of_decide_eq_true (by kernel_rfl)) k1 bel lt1) (trodAll_cons_mk (Below.trod laidOut (by kernel_rfl) (of_decide_eq_true (by kernel_rfl)) k2 bel lt2) trodAll_mk0))), rfl, bel.frame _, fun h => by cases h⟩
theorem over : Rows.replayCrashRow.holds Tryz.pinned (OpenSpec.ofChange Rows.replayCrashSpec) :=
  OpenClaim.holds_of_wide 9 Tryz.f9 rfl rfl rfl rfl rfl rfl rfl ⟨rfl, rfl, rfl, rfl, rfl⟩ rfl rfl rfl rfl rfl (by kernel_rfl) Tryz.func9 (by kernel_rfl)
    (of_decide_eq_true (by kernel_rfl)) (by unfold Func.isWrapper; first | (rw [if_pos (by decide +kernel)]; kernel_rfl) | (rw [if_neg (by decide +kernel)]; exact ⟨rfl, rfl⟩))
    (fun os started H enc _ => lifted os started H enc)
/-- The statement: the tied card. -/
theorem proved : Rows.ReplayCrashCardSaid :=
  Claim7.holds_tied_plain_at .later [] [.data] true (true, "277959205d57ee72caa775a896fbc353136107c959f05ab74ee12943ab8ba270") false
    over (fun _ h => by cases h) (by kernel_rfl) (fun _ h => by cases h) replayCrash_row_tie rfl ⟨rfl, rfl⟩ (by kernel_rfl) rfl
    (fun f fn hf hfn => by
      obtain rfl : f = 9 := Option.some.inj ((show Tryz.prog.funcNamed "hoard/hoardlaw15.ReplayCrash" = some 9 by kernel_rfl).symm.trans hf) |>.symm
      obtain rfl : fn = Tryz.f9 := (Option.some.inj (Tryz.func9.symm.trans hfn)).symm
      exact ⟨by kernel_rfl, fun j t ht => by
        rw [Tryz.params9] at ht
        have h3 : t = 3 ∨ t = 103 ∨ t = 45 := by
          rcases j with _ | _ | _ | j
          · left; simpa using ht.symm
          · right; left; simpa using ht.symm
          · right; right; simpa using ht.symm
          · simp at ht
        rcases h3 with rfl | rfl | rfl
        · exact (show Tryz.prog.wantsStandIn 3 = false by kernel_rfl)
        · exact (show Tryz.prog.wantsStandIn 103 = false by kernel_rfl)
        · exact (show Tryz.prog.wantsStandIn 45 = false by kernel_rfl)⟩)
    (by kernel_rfl)
#print axioms proved
end Go.Proofs.YtmjldaedhmipkaaGreatDoor.crashS
