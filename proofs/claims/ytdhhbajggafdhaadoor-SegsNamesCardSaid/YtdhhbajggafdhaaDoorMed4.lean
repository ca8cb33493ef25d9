import Derived.Test.YtdhhbajggafdhaaDoorMed3
import Derived.Test.YtdhhbajggafdhaaDoorReg
import Derived.Deep.RegionHeld3
import Derived.Deep.DrawnRows
/- A change of names. -/
namespace Go.Proofs.YtdhhbajggafdhaaDoor
open Go Go.Sl Go.Med Go.MapKept Go.RowKit
attribute [local go_sem ↓] Go.wp_at_zero Go.wp_at_succ
section
variable {w0 w : World} {F : List HProp} {m fb nb b : Nat} {M : Med} {bs : List Nat} {wv : Value} {s : ByteArray} {l : Names}

theorem infoLnk : (Tryd.prog.info? 115).map (fun i => (i.zero, i.size, i.bytes)) = some (some (.agg #[.string ByteArray.empty, .string ByteArray.empty, .pointer none]), 3, 40) := by kernel_rfl

set_option maxHeartbeats 2000000 in
theorem link_c (x : Lnk) (h : Sat w0 w (medPt m M fb nb wv :: omap .string nb (mapL bs M.now) :: osl 115 3 wv (M.waits.flatMap (lnkCells bs)) :: F)) (hw : M.waits.length ≤ 1099511627776) :
    Calls Tryd.prog 83 #[ptr m, .agg #[.string x.fr, .string x.to, lnkPtr bs x]] w
      (Rtn fun _ w' => ∃ wv', Sat w0 w' (medPt m (M.link x) fb nb wv' :: omap .string nb (mapL bs (M.link x).now) :: osl 115 3 wv' ((M.link x).waits.flatMap (lnkCells bs)) :: F)) := by
  obtain ⟨i, hi, hz0, hz1, hz2⟩ := info_parts infoLnk
  have hb := (h.alloc (.cells #[.string x.fr, .string x.to, lnkPtr bs x] 115))
  have hon := on_c (w := (w.alloc (.cells #[.string x.fr, .string x.to, lnkPtr bs x] 115)).drew) x hb.pick2.drew
  have c2 := hb.pick1.cellAt 2 _ rfl
  have b0 := hb.cellAt 0 _ rfl
  have b1 := hb.cellAt 1 _ rfl
  have b2 := hb.cellAt 2 _ rfl
  have hoc : ∀ u ∈ (#[.string x.fr, .string x.to, lnkPtr bs x] : Array Value).toList, u.oneCell' = true := by
    intro u hu
    simp only [List.mem_cons, List.not_mem_nil, or_false] at hu
    rcases hu with rfl | rfl | rfl
    · rfl
    · rfl
    · unfold lnkPtr; split <;> rfl
  have hlen : (M.waits.flatMap (lnkCells bs)).length = M.waits.length * 3 := by
    rw [List.length_flatMap]; simp [lnkCells, List.map_const']
  have h63 : (M.waits.flatMap (lnkCells bs)).length + 3 ≤ maxLen := by unfold maxLen; omega
  have hby : ((M.waits.flatMap (lnkCells bs)).length + 3) * i.bytes ≤ 140737488355328 := by rw [hz2]; omega
  have hcs : lnkCells bs x = (#[.string x.fr, .string x.to, lnkPtr bs x] : Array Value).toList := rfl
  have hfin : ∀ wv', medPt m (M.link x) fb nb wv' = pt m (.cells #[.int .i64 M.room, .map (some fb), .map (some nb), wv', .bool M.armed, .int .i64 M.left, .bool M.off] 94 (0,0)) := fun _ => rfl
  have Hcs := Lib.hid hcs; clear hcs
  have Hlen := Lib.hid hlen; clear hlen
  have Hfin := Lib.hid hfin; clear hfin
  generalize lnkPtr bs x = q at *
  go_enter Tryd.func83, Tryd.ntmps83
  go_wp2_with fail
  refine wpL_begin [5] (fun w' => w'.cell? ⟨m, 2, none⟩ = some (.map (some nb)) ∧ w'.cell? ⟨w.heap.size, 0, none⟩ = some (.string x.fr) ∧ w'.cell? ⟨w.heap.size, 1, none⟩ = some (.string x.to) ∧ w'.cell? ⟨w.heap.size, 2, none⟩ = some q) (by kernel_rfl) ?_
  have hG := And.intro c2 (And.intro b0 (And.intro b1 b2))
  refine wpL_take (i := 0) (v := ?_) rfl (by kernel_rfl) (fun _ _ _ h => h) (Or.inl ⟨by rfl, ?_⟩) (by assumption) ?_; rotate_left; focus ((intro wq hq; go_split_ands; go_simp); first | done | (with_reducible rfl))
  refine wpL_pure (i := 1) (v := ?_) rfl (by kernel_rfl) (fun _ _ _ h => h) (Or.inl ⟨by rfl, ?_⟩) ?_; rotate_left; focus ((intro wq; go_simp); first | done | (with_reducible rfl))
  refine wpL_pure (i := 2) (v := ?_) rfl (by kernel_rfl) (fun _ _ _ h => h) (Or.inl ⟨by rfl, ?_⟩) ?_; rotate_left; focus ((intro wq; go_simp); first | done | (with_reducible rfl))
  refine wpL_pure (i := 3) (v := ?_) rfl (by kernel_rfl) (fun _ _ _ h => h) (Or.inl ⟨by rfl, ?_⟩) ?_; rotate_left; focus ((intro wq; go_simp); first | done | (with_reducible rfl))
  refine wpL_take (i := 4) (v := ?_) rfl (by kernel_rfl) (fun _ _ _ h => h) (Or.inl ⟨by rfl, ?_⟩) (by assumption) ?_; rotate_left; focus ((intro wq hq; go_split_ands; go_simp); first | done | (with_reducible rfl))
  refine wpL_eff (i := 5) rfl (by kernel_rfl) (fun K hK => ?_)
  go_simp
  refine hon.mono ?_
  rintro e w1 ⟨v, rfl, hS1⟩
  refine hK _ _ (.inl rfl) ?_
  clear hK K hG
  refine wpL_done (by kernel_rfl) ?_
  have hS2 := hS1.pick2
  have d3 := hS2.cellAt 3 _ rfl
  have b0 := hS1.pick1.cellAt 0 _ rfl
  have b1 := hS1.pick1.cellAt 1 _ rfl
  have b2 := hS1.pick1.cellAt 2 _ rfl
  clear hS2
  go_wp2_with fail
  refine wpL_begin [7, 8, 9, 10] (fun w' => w'.cell? ⟨m, 3, none⟩ = some wv ∧ w'.cell? ⟨w.heap.size, 0, none⟩ = some (.string x.fr) ∧ w'.cell? ⟨w.heap.size, 1, none⟩ = some (.string x.to) ∧ w'.cell? ⟨w.heap.size, 2, none⟩ = some q) (by kernel_rfl) ?_
  have hG := And.intro d3 (And.intro b0 (And.intro b1 b2))
  refine wpL_pure (i := 0) (v := ?_) rfl (by kernel_rfl) (fun _ _ _ h => h) (Or.inl ⟨by rfl, ?_⟩) ?_; rotate_left; focus ((intro wq; go_simp); first | done | (with_reducible rfl))
  refine wpL_pure (i := 1) (v := ?_) rfl (by kernel_rfl) (fun _ _ _ h => h) (Or.inl ⟨by rfl, ?_⟩) ?_; rotate_left; focus ((intro wq; go_simp); first | done | (with_reducible rfl))
  refine wpL_pure (i := 2) (v := ?_) rfl (by kernel_rfl) (fun _ _ _ h => h) (Or.inl ⟨by rfl, ?_⟩) ?_; rotate_left; focus ((intro wq; go_simp); first | done | (with_reducible rfl))
  refine wpL_pure (i := 3) (v := ?_) rfl (by kernel_rfl) (fun _ _ _ h => h) (Or.inl ⟨by rfl, ?_⟩) ?_; rotate_left; focus ((intro wq; go_simp); first | done | (with_reducible rfl))
  refine wpL_take (i := 4) (v := ?_) rfl (by kernel_rfl) (fun _ _ _ h => h) (Or.inl ⟨by rfl, ?_⟩) (by assumption) ?_; rotate_left; focus ((intro wq hq; go_split_ands; go_simp); first | done | (with_reducible rfl))
  refine wpL_take (i := 5) (v := ?_) rfl (by kernel_rfl) (fun _ _ _ h => h) (Or.inl ⟨by rfl, ?_⟩) (by assumption) ?_; rotate_left; focus ((intro wq hq; go_split_ands; go_simp); first | done | (with_reducible rfl))
  refine wpL_eff (i := 6) rfl (by kernel_rfl) (fun K hK => ?_)
  go_simp
  have h7 := hS1.drew.alloc (.cells #[.string x.fr, .string x.to, q] 115)
  have d3 := h7.pick3.cellAt 3 _ rfl
  have b0 := h7.pick2.cellAt 0 _ rfl
  have b1 := h7.pick2.cellAt 1 _ rfl
  have b2 := h7.pick2.cellAt 2 _ rfl
  refine hK _ _ (.inr <| .inl <| And.intro d3 (And.intro b0 (And.intro b1 b2))) ?_
  clear hK K
  refine wpL_eff (i := 7) rfl (by kernel_rfl) (fun K hK => ?_)
  refine step_append (w0 := w0) (by rfl) _ _ _ (by rfl) _ i _ Tryd.underlying92 hi hz0 hz1 (by rfl) (by omega) (by rfl) (by rfl) hoc (h7.pick4) (rdsl_new _ _ _ 3 1 1 (by rfl)) h63 hby ?_
  intro v2 w2 hS2 hne
  obtain ⟨g2, n2, k2, rfl⟩ := hne (by simp)
  have e3 := hS2.pick4.cellAt 3 _ rfl
  have g3 := hS2.pick4.freeAt 3
  have b0 := hS2.pick3.cellAt 0 _ rfl
  have b1 := hS2.pick3.cellAt 1 _ rfl
  have b2 := hS2.pick3.cellAt 2 _ rfl
  refine hK _ _ (.inl rfl) ?_
  clear hK K
  refine wpL_pure (i := 8) (v := ?_) rfl (by kernel_rfl) (fun _ _ _ h => h) (Or.inl ⟨by rfl, ?_⟩) ?_; rotate_left; focus ((intro wq; go_simp); first | done | (with_reducible rfl))
  refine wpL_pure (i := 9) (v := ?_) rfl (by kernel_rfl) (fun _ _ _ h => h) (Or.inl ⟨by rfl, ?_⟩) ?_; rotate_left; focus ((intro wq; go_simp); first | done | (with_reducible rfl))
  refine wpL_eff (i := 10) rfl (by kernel_rfl) (fun K hK => ?_)
  go_simp
  refine hK _ _ (.inl rfl) ?_
  clear hK K
  refine wpL_done (by kernel_rfl) ?_
  go_wp2
  go_end0
  refine ⟨_, rfl, .slice (some ⟨g2, 0, none⟩) n2 k2, ?_⟩
  have h9 := hS2.pick4.set 3 (.slice (some ⟨g2, 0, none⟩) n2 k2)
  rw [Hfin.out]
  unfold Med.link
  simp only [List.flatMap_append, List.flatMap_cons, List.flatMap_nil, List.append_nil]
  rw [Hcs.out]
  exact h9.sel 5 [0, 3, 1] rfl rfl
end
end Go.Proofs.YtdhhbajggafdhaaDoor
