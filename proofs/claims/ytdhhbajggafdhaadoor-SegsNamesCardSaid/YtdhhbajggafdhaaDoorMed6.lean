import Derived.Test.YtdhhbajggafdhaaDoorMed5
/- A change of a file's bytes. -/
namespace Go.Proofs.YtdhhbajggafdhaaDoor
open Go Go.Sl Go.Med Go.MapKept Go.RowKit
section
variable {w0 w : World} {F : List HProp} {m fb nb b : Nat} {M : Med} {bs : List Nat} {wv v bv : Value} {s : ByteArray} {l : Bs} {f : Fil}

/-- A change that may be done on l. -/
def chgOk (c : Chg) (l : Bs) : Prop := (c.cut = true → c.n ≤ l.length) ∧ (c.cut = false → l.length + c.b.length ≤ 140737488355328)
theorem chgon_c (c : Chg) (h : Sat w0 w (bsl v l :: F)) (hr : Ro w0 F (rdsl 1 bv (bys c.b))) (hbv : ∃ a n c, bv = .slice a n c) (hc : chgOk c l) :
    Calls Tryd.prog 84 #[chgV c bv, v] w (Rtn fun v' w' => Sat w0 w' (bsl v' (c.on l) :: F) ∧ ∃ a n c, v' = .slice a n c) := by
  obtain ⟨cut, n, cb⟩ := c
  cases cut
  · exact chgon_app n bv cb h hr (hc.2 rfl) hbv
  · exact chgon_cut n bv h (hc.1 rfl)
theorem bsl_shape (h : Sat w0 w (bsl v l :: F)) : ∃ a n c, v = .slice a n c := by
  obtain ⟨a, n, c, rfl, _⟩ := h.rd
  exact ⟨a, n, c, rfl⟩
theorem Ro.bsl {R : List HProp} (v : Value) (l : Bs) : Ro w0 (bsl v l :: R) (rdsl 1 v (bys l)) := fun w hw => hw.rd
theorem infoChg : (Tryd.prog.info? 132).map (fun i => (i.zero, i.size, i.bytes)) = some (some (.agg #[.bool false, .int .i64 0, .slice none 0 0]), 3, 40) := by kernel_rfl
theorem chgs_snoc (ws : List (Chg × Value)) (p : Chg × Value) : chgs (ws ++ [p]) = star (chgs ws) (bsl p.2 p.1.b) := by
  unfold chgs
  rw [List.map_append, stars_append]
  simp [stars_one]

set_option maxHeartbeats 2000000 in
theorem do_c {fv nv : Value} {ws : List (Chg × Value)} (c : Chg) (h : Sat w0 w (FilRaw b f fv nv wv ws ++ bsl bv c.b :: F)) (hws : ws.map (·.1) = f.waits) (hc : chgOk c f.now) (hw : f.waits.length ≤ 1099511627776) :
    Calls Tryd.prog 86 #[ptr b, chgV c bv] w (Rtn fun _ w' => Sat w0 w' (FilRep b (f.do c) :: F)) := by
  obtain ⟨i, hi, hz0, hz1, hz2⟩ := info_parts infoChg
  obtain ⟨ba, bn, bc, rfl⟩ := bsl_shape (h.sel 6 [5] rfl rfl)
  have hb := h.alloc (.cells #[.bool c.cut, .int .i64 c.n, .slice ba bn bc] 132)
  have hb' : Sat w0 _ (bsl nv f.now :: bsl (.slice ba bn bc) c.b :: pt w.heap.size _ :: filPt b fv nv wv :: bsl fv f.fast :: osl 132 3 wv (ws.flatMap chgCells) :: chgs ws :: F) := hb.sel 7 [3, 6, 0, 1, 2, 4, 5] rfl rfl
  have hon := chgon_c c hb'.drew (Ro.bsl _ _) ⟨_, _, _, rfl⟩ hc
  obtain ⟨na, nn, nc, rfl⟩ := bsl_shape hb'
  have b0 := hb.cellAt 0 _ rfl
  have b1 := hb.cellAt 1 _ rfl
  have b2 := hb.cellAt 2 _ rfl
  have c1 := hb.pick1.cellAt 1 _ rfl
  have hoc : ∀ u ∈ (#[.bool c.cut, .int .i64 c.n, .slice ba bn bc] : Array Value).toList, u.oneCell' = true := by
    intro u hu
    simp only [List.mem_cons, List.not_mem_nil, or_false] at hu
    rcases hu with rfl | rfl | rfl <;> rfl
  have hwl : ws.length = f.waits.length := by rw [← hws]; simp
  have hlen : (ws.flatMap chgCells).length = f.waits.length * 3 := by
    rw [List.length_flatMap, ← hwl]; simp [chgCells, List.map_const']
  have h63 : (ws.flatMap chgCells).length + 3 ≤ maxLen := by unfold maxLen; omega
  have hby : ((ws.flatMap chgCells).length + 3) * i.bytes ≤ 140737488355328 := by rw [hz2]; omega
  have Hlen := Lib.hid hlen; clear hlen
  have Hws := Lib.hid hws; clear hws
  have Hwl := Lib.hid hwl; clear hwl
  unfold chgV at *
  go_enter Tryd.func86, Tryd.ntmps86
  go_wp2_with fail
  refine wpL_begin [6, 7, 8, 9] (fun w' => w'.cell? ⟨b, 1, none⟩ = some (.slice na nn nc) ∧ w'.cell? ⟨w.heap.size, 0, none⟩ = some (.bool c.cut) ∧ w'.cell? ⟨w.heap.size, 1, none⟩ = some (.int .i64 c.n) ∧ w'.cell? ⟨w.heap.size, 2, none⟩ = some (.slice ba bn bc)) (by kernel_rfl) ?_
  have hG := And.intro c1 (And.intro b0 (And.intro b1 b2))
  refine wpL_pure (i := 0) (v := ?_) rfl (by kernel_rfl) (fun _ _ _ h => h) (Or.inl ⟨by rfl, ?_⟩) ?_; rotate_left; focus ((intro wq; go_simp); first | done | (with_reducible rfl))
  refine wpL_take (i := 1) (v := ?_) rfl (by kernel_rfl) (fun _ _ _ h => h) (Or.inl ⟨by rfl, ?_⟩) (by assumption) ?_; rotate_left; focus ((intro wq hq; go_split_ands; go_simp); first | done | (with_reducible rfl))
  refine wpL_pure (i := 2) (v := ?_) rfl (by kernel_rfl) (fun _ _ _ h => h) (Or.inl ⟨by rfl, ?_⟩) ?_; rotate_left; focus ((intro wq; go_simp); first | done | (with_reducible rfl))
  refine wpL_pure (i := 3) (v := ?_) rfl (by kernel_rfl) (fun _ _ _ h => h) (Or.inl ⟨by rfl, ?_⟩) ?_; rotate_left; focus ((intro wq; go_simp); first | done | (with_reducible rfl))
  refine wpL_pure (i := 4) (v := ?_) rfl (by kernel_rfl) (fun _ _ _ h => h) (Or.inl ⟨by rfl, ?_⟩) ?_; rotate_left; focus ((intro wq; go_simp); first | done | (with_reducible rfl))
  refine wpL_take (i := 5) (v := ?_) rfl (by kernel_rfl) (fun _ _ _ h => h) (Or.inl ⟨by rfl, ?_⟩) (by assumption) ?_; rotate_left; focus ((intro wq hq; go_split_ands; go_simp); first | done | (with_reducible rfl))
  refine wpL_eff (i := 6) rfl (by kernel_rfl) (fun K hK => ?_)
  go_simp
  refine hon.mono ?_
  rintro e w1 ⟨v1, rfl, hS1, a1, n1, k1, rfl⟩
  refine hK _ _ (.inl rfl) ?_
  clear hK K
  refine wpL_pure (i := 7) (v := ?_) rfl (by kernel_rfl) (fun _ _ _ h => h) (Or.inl ⟨by rfl, ?_⟩) ?_; rotate_left; focus ((intro wq; go_simp); first | done | (with_reducible rfl))
  refine wpL_pure (i := 8) (v := ?_) rfl (by kernel_rfl) (fun _ _ _ h => h) (Or.inl ⟨by rfl, ?_⟩) ?_; rotate_left; focus ((intro wq; go_simp); first | done | (with_reducible rfl))
  have d1 := hS1.pick3.cellAt 1 _ rfl
  have g1 := hS1.pick3.freeAt 1
  refine wpL_eff (i := 9) rfl (by kernel_rfl) (fun K hK => ?_)
  go_simp
  refine hK _ _ (.inl rfl) ?_
  clear hK K hG
  refine wpL_done (by kernel_rfl) ?_
  have hS2 := hS1.pick3.set 1 (.slice a1 n1 k1)
  generalize w1.setCell _ _ = w2 at *
  clear d1 g1
  have d2 := hS2.cellAt 2 _ rfl
  have b0 := hS2.pick3.cellAt 0 _ rfl
  have b1 := hS2.pick3.cellAt 1 _ rfl
  have b2 := hS2.pick3.cellAt 2 _ rfl
  go_wp2_with fail
  refine wpL_begin [7, 8, 9, 10] (fun w' => w'.cell? ⟨b, 2, none⟩ = some wv ∧ w'.cell? ⟨w.heap.size, 0, none⟩ = some (.bool c.cut) ∧ w'.cell? ⟨w.heap.size, 1, none⟩ = some (.int .i64 c.n) ∧ w'.cell? ⟨w.heap.size, 2, none⟩ = some (.slice ba bn bc)) (by kernel_rfl) ?_
  have hG := And.intro d2 (And.intro b0 (And.intro b1 b2))
  refine wpL_pure (i := 0) (v := ?_) rfl (by kernel_rfl) (fun _ _ _ h => h) (Or.inl ⟨by rfl, ?_⟩) ?_; rotate_left; focus ((intro wq; go_simp); first | done | (with_reducible rfl))
  refine wpL_pure (i := 1) (v := ?_) rfl (by kernel_rfl) (fun _ _ _ h => h) (Or.inl ⟨by rfl, ?_⟩) ?_; rotate_left; focus ((intro wq; go_simp); first | done | (with_reducible rfl))
  refine wpL_pure (i := 2) (v := ?_) rfl (by kernel_rfl) (fun _ _ _ h => h) (Or.inl ⟨by rfl, ?_⟩) ?_; rotate_left; focus ((intro wq; go_simp); first | done | (with_reducible rfl))
  refine wpL_pure (i := 3) (v := ?_) rfl (by kernel_rfl) (fun _ _ _ h => h) (Or.inl ⟨by rfl, ?_⟩) ?_; rotate_left; focus ((intro wq; go_simp); first | done | (with_reducible rfl))
  refine wpL_take (i := 4) (v := ?_) rfl (by kernel_rfl) (fun _ _ _ h => h) (Or.inl ⟨by rfl, ?_⟩) (by assumption) ?_; rotate_left; focus ((intro wq hq; go_split_ands; go_simp); first | done | (with_reducible rfl))
  refine wpL_take (i := 5) (v := ?_) rfl (by kernel_rfl) (fun _ _ _ h => h) (Or.inl ⟨by rfl, ?_⟩) (by assumption) ?_; rotate_left; focus ((intro wq hq; go_split_ands; go_simp); first | done | (with_reducible rfl))
  refine wpL_eff (i := 6) rfl (by kernel_rfl) (fun K hK => ?_)
  go_simp
  have h7 := hS2.drew.alloc (.cells #[.bool c.cut, .int .i64 c.n, .slice ba bn bc] 132)
  have d2 := h7.pick1.cellAt 2 _ rfl
  have b0 := h7.pick4.cellAt 0 _ rfl
  have b1 := h7.pick4.cellAt 1 _ rfl
  have b2 := h7.pick4.cellAt 2 _ rfl
  refine hK _ _ (.inr <| .inl <| And.intro d2 (And.intro b0 (And.intro b1 b2))) ?_
  clear hK K
  have h8 : Sat w0 _ (osl 132 3 wv (ws.flatMap chgCells) :: filPt b fv (.slice a1 n1 k1) wv :: bsl (.slice a1 n1 k1) (c.on f.now) :: bsl (.slice ba bn bc) c.b :: bsl fv f.fast :: chgs ws :: pt w.heap.size _ :: F) := h7.sel 8 [6, 1, 2, 3, 5, 7, 4] rfl rfl
  refine wpL_eff (i := 7) rfl (by kernel_rfl) (fun K hK => ?_)
  refine step_append (w0 := w0) (by rfl) _ _ _ (by rfl) _ i _ Tryd.underlying103 hi hz0 hz1 (by rfl) (by omega) (by rfl) (by rfl) hoc h8 (rdsl_new _ _ _ 3 1 1 (by rfl)) h63 hby ?_
  intro v2 w3 hS3 hne
  obtain ⟨g2, n2, k2, rfl⟩ := hne (by simp)
  have e2 := hS3.pick1.cellAt 2 _ rfl
  have g3 := hS3.pick1.freeAt 2
  have b0 := (hS3.sel 7 [6] rfl rfl).cellAt 0 _ rfl
  have b1 := (hS3.sel 7 [6] rfl rfl).cellAt 1 _ rfl
  have b2 := (hS3.sel 7 [6] rfl rfl).cellAt 2 _ rfl
  refine hK _ _ (.inl rfl) ?_
  clear hK K
  refine wpL_pure (i := 8) (v := ?_) rfl (by kernel_rfl) (fun _ _ _ h => h) (Or.inl ⟨by rfl, ?_⟩) ?_; rotate_left; focus ((intro wq; go_simp); first | done | (with_reducible rfl))
  refine wpL_pure (i := 9) (v := ?_) rfl (by kernel_rfl) (fun _ _ _ h => h) (Or.inl ⟨by rfl, ?_⟩) ?_; rotate_left; focus ((intro wq; go_simp); first | done | (with_reducible rfl))
  refine wpL_eff (i := 10) rfl (by kernel_rfl) (fun K hK => ?_)
  go_simp
  refine hK _ _ (.inl rfl) ?_
  clear hK K
  refine wpL_done (by kernel_rfl) ?_
  go_wp2
  go_end0
  refine ⟨_, rfl, ?_⟩
  have h9 := hS3.pick1.set 2 (.slice (some ⟨g2, 0, none⟩) n2 k2)
  refine FilRep.shut (fv := fv) (nv := .slice a1 n1 k1) (wv := .slice (some ⟨g2, 0, none⟩) n2 k2) (ws := ws ++ [(c, .slice ba bn bc)]) ?_ ?_
  · rw [List.map_append, Hws.out]; rfl
  · have h10 : Sat w0 _ (bsl (.slice ba bn bc) c.b :: chgs ws :: filPt b fv (.slice a1 n1 k1) (.slice (some ⟨g2, 0, none⟩) n2 k2) :: bsl fv f.fast :: bsl (.slice a1 n1 k1) (c.on f.now) :: osl 132 3 (.slice (some ⟨g2, 0, none⟩) n2 k2) (ws.flatMap chgCells ++ [.bool c.cut, .int .i64 c.n, .slice ba bn bc]) :: F) := h9.sel 7 [3, 5, 0, 4, 2, 1] rfl rfl
    have h11 := Sat.star.2 h10.pick1
    rw [← chgs_snoc ws (c, .slice ba bn bc)] at h11
    unfold FilRaw
    rw [List.flatMap_append]
    simp only [List.flatMap_cons, List.flatMap_nil, List.append_nil, chgCells]
    exact h11.sel 5 [1, 2, 3, 4, 0] rfl rfl
end
end Go.Proofs.YtdhhbajggafdhaaDoor
