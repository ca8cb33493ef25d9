/-
  'ChunksCountsCardSaid': whatever the input, the law ChunksCounts returns true and the input reads as it did; the tables of crc and sha are tied to the program's text. No condition.
-/
import Derived.Test.YtopconiamijknaaGreatDoorJ10
import Derived.Test.YtopconiamijknaaGreatDoorRows
import Derived.Test.YtopconiamijknaaGreatDoorCards
import Derived.Test.YtopconiamijknaaGreatDoorTie
import Derived.ProofKit
import Derived.LaidMore
import Derived.OpenShut
import Derived.ShutString
import Derived.SevenTiedAt
set_option linter.unusedVariables false
set_option maxHeartbeats 128000000
namespace Go.Proofs.YtopconiamijknaaGreatDoor.countsS
open Go.ChangeShapes Go.WideShapes Go.ChangeAt Go.RowKit
open Go.ChangeMaps (open_string shut_string)
open Go Go.Sl Go.Med Go.Proofs.YtopconiamijknaaGreatDoor.card
theorem okWide_array {P : Program} {w : World} {r : Reach} {base n : Nat} {t e : TypeId} {v : Value} (ht : P.underlying t = some (.array n e)) (h : Value.okWide P w r base t v) : ∃ cs, v = .agg cs ∧ cs.size = P.cellsOf t := by
  simp only [Value.okWide, ht] at h
  obtain ⟨cs, h1, h2, _⟩ := h
  exact ⟨cs, h1, h2⟩
theorem walk {W : World} {v0 : Value} (l0 : List (Frm.Bs × Rep.Rfc)) (r0 : rdsl 34 v0 (l0.flatMap cdL) W) (c0 : capOk v0) (i0 : ∀ d ∈ l0, d.1.length = 32) (l1 : Frm.Bs) (cs1 : Array Value) (e1 : bys l1 = cs1.toList) (i1 : l1.length = 32) (h : 2 < W.heap.size ∧ 0 < W.heap.size ∧ Half W ∧ ShaK W) :
    Calls Tryz.prog 3 #[v0, .agg cs1] W fun e w' => e = .returned (.bool true) ∧ Below W.heap.size W w' := by
  obtain rfl : (bys l1).toArray = cs1 := by rw [e1, Array.toArray_toList]
  refine (chunks_counts_c (F := [Sl.old W]) i1 l0 (rd_old r0) c0 i0 (fun w hw i hi => (hw.below.cell (p := ⟨2, i, none⟩) h.1).trans (h.2.2.1 i hi)) (fun w hw i hi => (hw.below.cell (p := ⟨0, i, none⟩) h.2.1).trans (h.2.2.2 i hi)) (Sat.start W)).mono ?_
  rintro e w' ⟨v, rfl, rfl, hS⟩
  exact ⟨rfl, hS.below⟩
set_option maxRecDepth 100000 in
theorem lifted (os : Os) (started : os.Started) (H : Type) (enc : TypeId × Value → H) :
    ReturnsInHanded {} Tryz.checked os 3 .any (fun w args => (Rows.chunksCountsSpec.pre enc Tryz.prog Tryz.f3 [] false w args ∧ laidMetH Tryz.prog [("hoard/crc.half", Rows.laid_hoard_crc_half), ("hoard/sha.k", Rows.laid_hoard_sha_k)] w) ∧ sizedMet enc Tryz.prog Tryz.f3 (OpenSpec.ofChange Rows.chunksCountsSpec) false w args)
      (Rows.chunksCountsSpec.post enc Tryz.prog Tryz.f3 false true false false) := by
  refine returnsInHanded_of_change_and (C := Tryz.checked) (X := fun w _ => laidMetH Tryz.prog [("hoard/crc.half", Rows.laid_hoard_crc_half), ("hoard/sha.k", Rows.laid_hoard_sha_k)] w) (fun _ _ _ hh h => h.of_heap hh) own started kRz Tryz.func3
    (ChangeSpec.witness_shaped (enc := enc) (C := Tryz.checked) (os := os) (X := fun w _ => laidMetH Tryz.prog [("hoard/crc.half", Rows.laid_hoard_crc_half), ("hoard/sha.k", Rows.laid_hoard_sha_k)] w) false (World.doorLaid Tryz.prog 400 os) #[.slice none 0 0, .agg (bys Frm.zero32).toArray] 8 rfl (World.shaped_of_RefB kRz kRz) kRz kRz kRz (door_met os _)) ?_
  intro W base args ds gs before hval0 hW _ _ hL _
  have hval : ∀ (j : Nat) t v, Tryz.f3.params[j]? = some t → args[j]? = some v → Value.okWide Tryz.prog W .any base t v := hval0
  have hW' := hW
  obtain ⟨p, q, hA0, hV, rfl, hfz, hnd⟩ := hW
  have hA : DataW.TrodAll enc Tryz.prog W 0 (fun _ => true) true Tryz.f3.params.toList args.toList ds p := hA0
  rw [Tryz.params3] at hA hval
  obtain ⟨v0, vs0, d0, ds0, p0, q0, hargs, rfl, rfl, h0, r0⟩ := trodAll_cons hA
  obtain ⟨v1, vs1, d1, ds1, p1, q1, rfl, rfl, rfl, h1, r1⟩ := trodAll_cons r0
  obtain ⟨rfl, rfl, rfl⟩ := trodAll_nil r1
  obtain rfl : args = #[v0, v1] := by cases args; simp_all
  obtain ⟨rfl, rfl⟩ := trodVars_none hV
  obtain ⟨a0, len0, cap0, rfl⟩ := okWide_slice Tryz.underlying22 (hval 0 22 v0 rfl rfl)
  obtain ⟨cs1, rfl, hcs1⟩ := okWide_array Tryz.underlying24 (hval 1 24 v1 rfl rfl)
  have k0 := h0
  have k1 := h1
  have lt0 : ∀ x ∈ p0, x.block < W.heap.size := by obtain ⟨m, hm⟩ := k0; exact DataW.trod_lt m _ _ _ hm
  have lt1 : ∀ x ∈ p1, x.block < W.heap.size := by obtain ⟨m, hm⟩ := k1; exact DataW.trod_lt m _ _ _ hm
  obtain ⟨l0, r0, c0, i0⟩ : ∃ ds : List (Frm.Bs × Rep.Rfc), rdsl 34 (.slice a0 len0 cap0) (ds.flatMap cdL) W ∧ capOk (.slice a0 len0 cap0) ∧ ∀ d ∈ ds, d.1.length = 32 := by
    obtain ⟨fuel, hf⟩ := h0
    exact in_cds hf
  obtain ⟨l1, e1, i1⟩ : ∃ l : Frm.Bs, bys l = (Value.agg cs1).cells.toList ∧ l.length = 32 := by
    obtain ⟨fuel, hf⟩ := h1
    exact open_key Tryz.underlying24 kRz hf
  clear hA0 hval0
  refine (walk l0 r0 c0 i0 l1 cs1 e1 i1 (of_laid hL)).mono fun e W' ⟨he, bel⟩ => ?_
  subst he
  exact ⟨_, rfl, _, _, _, [], _, [], hW', trodAll_mk1 (shut_bool Tryz.underlying4 _), (trodAll_cons_mk (Below.trod laidOut kRz (of_decide_eq_true kRz) k0 bel lt0) (trodAll_cons_mk (Below.trod laidOut kRz (of_decide_eq_true kRz) k1 bel lt1) trodAll_mk0)), rfl, bel.frame _, fun h => by cases h⟩
theorem and2 {a b : Bool} (h : a = true) (k : b = true) : (a && b) = true := by rw [h, k]; rfl
theorem jwf : Rows.chunksCountsRow.wf (OpenSpec.ofChange Rows.chunksCountsSpec) = true := by kernel_rfl
theorem jin : (Rows.chunksCountsRow.inPlace == Tryz.pinned.checked.prog.inPlace 3) = true := by kernel_rfl
theorem jun : (Rows.chunksCountsRow.unfollowed == Tryz.pinned.checked.prog.unfollowed 3) = true := by kernel_rfl
theorem jre : (Rows.chunksCountsRow.recurses == Tryz.pinned.checked.prog.recurses 3) = true := by kernel_rfl
theorem jna : (Rows.chunksCountsRow.named == Tryz.pinned.checked.prog.varsNamed 3) = true := by kernel_rfl
theorem jpk : (Rows.chunksCountsRow.plainKeys == Tryz.pinned.checked.prog.plainKeys) = true := by kernel_rfl
theorem jhe : Tryz.pinned.checked.prog.stopsHeard = true := by kernel_rfl
theorem jma : Tryz.pinned.checked.prog.mayEnter = true := by kernel_rfl
theorem jli : (Rows.chunksCountsRow.lifted == Tryz.pinned.checked.prog.liftsFinal) = true := by kernel_rfl
theorem nmF : Tryz.pinned.checked.prog.funcNamed Rows.chunksCountsRow.func = some 3 := by kernel_rfl
theorem goF : false = Rows.chunksCountsRow.goesBy Tryz.pinned.checked.prog := by kernel_rfl
theorem lkF : false = Tryz.pinned.checked.prog.looks [] := by kernel_rfl
theorem wrF : Func.isWrapper Tryz.pinned.checked.prog Tryz.f3 Rows.chunksCountsRow.wrapper Rows.chunksCountsRow.mainSum := by unfold Func.isWrapper; first | (rw [if_pos (by decide +kernel)]; kernel_rfl) | (rw [if_neg (by decide +kernel)]; exact ⟨rfl, rfl⟩)
theorem jfa : joinedFacts Tryz.pinned.checked.prog 3 Tryz.f3 Rows.chunksCountsSpec Rows.chunksCountsRow = true := by
  unfold joinedFacts
  repeat' (with_reducible apply and2)
  all_goals first | with_reducible exact jwf | with_reducible exact jin | with_reducible exact jun | with_reducible exact jre | with_reducible exact jna | with_reducible exact jpk | with_reducible exact jhe | with_reducible exact jma | with_reducible exact jli | kernel_rfl
theorem over : Rows.chunksCountsRow.holds Tryz.pinned (OpenSpec.ofChange Rows.chunksCountsSpec) :=
  OpenClaim.holds_of_wide 3 Tryz.f3 rfl rfl rfl rfl rfl rfl rfl ⟨rfl, rfl, rfl, rfl, rfl⟩ rfl rfl rfl rfl rfl nmF Tryz.func3 jfa
    (of_decide_eq_true kRz) wrF
    (fun os started H enc _ => lifted os started H enc)
/-- The statement: the tied card. -/
theorem proved : Rows.ChunksCountsCardSaid :=
  Claim7.holds_tied_plain_at .later [] [.data, .data] true (true, "d1ebf5724821e7485db014fa52d1bef6d9b439e3cffe2836065b4678fb0294f4") false
    over (fun _ h => by cases h) kRz (fun _ h => by cases h) chunksCounts_row_tie rfl ⟨rfl, rfl⟩ kRz rfl
    (fun f fn hf hfn => by
      obtain rfl : f = 3 := Option.some.inj (nmF.symm.trans hf) |>.symm
      obtain rfl : fn = Tryz.f3 := (Option.some.inj (Tryz.func3.symm.trans hfn)).symm
      exact ⟨lkF, fun j t ht => by
        rw [Tryz.params3] at ht
        have h3 : t = 22 ∨ t = 24 := by
          rcases j with _ | _ | j
          · left; simpa using ht.symm
          · right; simpa using ht.symm
          · simp at ht
        rcases h3 with rfl | rfl
        · exact (show Tryz.prog.wantsStandIn 22 = false by kernel_rfl)
        · exact (show Tryz.prog.wantsStandIn 24 = false by kernel_rfl)⟩)
    goF
#print axioms proved
end Go.Proofs.YtopconiamijknaaGreatDoor.countsS
