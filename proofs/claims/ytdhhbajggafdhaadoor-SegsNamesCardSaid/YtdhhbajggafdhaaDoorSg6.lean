import Derived.Test.YtdhhbajggafdhaaDoorSto
/- begin of a log without segments. -/
namespace Go.Proofs.YtdhhbajggafdhaaDoor
open Go Go.Sl Go.Med Go.MapKept Go.RowKit
set_option linter.unusedVariables false
section
variable {w0 w : World} {F : List HProp} {v bv dv x lv : Value} {q p m K : Nat} {L : Seg.Log} {M M1 M2 : Med} {nm : ByteArray}
def magic : Bs := [72, 79, 65, 82, 68, 83, 69, 71]
set_option maxRecDepth 20000 in
set_option maxHeartbeats 4000000 in
theorem begin0_c (hl : L.l = []) (hon : L.on = false) (hfr : 0 ≤ L.fresh ∧ L.fresh < 1048576) (hM : M.Ok K) (hKK : K + 1 ≤ 1099511627776) (b : Bs) (hb0 : b ≠ []) (hbl : b.length ≤ 1073741824) (hr : Ro w0 F (rdsl 1 bv (bys b)))
    (hn : Seg.name 0 = nm) (hc : M.create nm = (M1, 0)) (ha : M1.append nm (magic ++ b) = (M2, 0))
    (h : Sat w0 w (LogRep p m L :: MedRep m M :: F)) :
    Calls Tryd.prog 54 #[ptr p, bv] w (Rtn fun v w' => v = .tuple #[.agg #[.int .i64 0, .int .i64 8, .int .i64 b.length], errno 0] ∧
      Sat w0 w' (LogRep p m ⟨L.limit, [(0, 8 + b.length)], true, L.fresh + 1⟩ :: MedRep m M2 :: F)) := by
  obtain ⟨lim, ll, on, fr⟩ := L
  dsimp only at hl hon hfr
  subst hl hon
  obtain ⟨lv, hR⟩ := LogRep.open h
  clear h
  obtain ⟨i, hi, hz0, hz1, hz2⟩ := info8p
  obtain ⟨ba, bn, bc, rfl, hbn⟩ := ro_len hr (A := emp) (Sat.emp.2 (hR.sel 3 [] rfl rfl))
  subst hbn
  have hA := hR.alloc (.cells #[.int .i64 0, .int .i64 0, .int .i64 0] 46)
  have hsh := shut0_c rfl hA.pick1
  have hns : nm.size ≤ 9223372036854775807 := by rw [← hn]; decide
  have hM1 : M1.Ok (K + 1) := by
    have := hM.create nm
    rw [hc] at this; exact this
  have hnx := next0_c rfl (hA.sel 4 [1, 2, 0, 3] rfl rfl)
  have Hn := Lib.hid hn; have Hc := Lib.hid hc; have Ha := Lib.hid ha; have Hfr := Lib.hid hfr
  have Hb0 := Lib.hid hb0; have Hbl := Lib.hid hbl; have Hr := Lib.hid hr; have Hns := Lib.hid hns
  clear hc ha hfr hb0 hbl hr hn hns
  go_enter Tryd.func54, Tryd.ntmps54
  go_wp2_with fail
  refine hsh.mono ?_
  rintro e w1 ⟨v, rfl, rfl, rfl⟩
  clear hsh
  generalize w.heap.size = q at *
  generalize w.alloc _ = wa at *
  go_wp2_with fail
  refine hnx.mono ?_
  rintro e w1 ⟨v, rfl, rfl, rfl⟩
  clear hnx
  have hnm := sname_c 0 hA
  rw [Hn.out] at hnm
  go_wp2_with fail
  refine hnm.mono ?_
  rintro e w2 ⟨v, rfl, rfl, hS2⟩
  clear hnm
  have hcr := create_c hM (by omega) (hS2.sel 4 [3, 0, 1, 2] rfl rfl) nm Hns.out
  rw [Hc.out] at hcr
  have c0 := hS2.pick1.cellAt 0 _ rfl
  clear hA
  go_wp2_with fail
  refine hcr.mono ?_
  rintro e w3 ⟨v, rfl, rfl, hS3⟩
  clear hcr c0
  have hS3 : Sat w0 w3 (MedRep m M1 :: pt q (.cells #[.int .i64 0, .int .i64 0, .int .i64 0] 46) :: LogRaw p m ⟨lim, [], false, fr⟩ lv ++ F) := hS3
  have c0 := hS3.pick2.cellAt 0 _ rfl
  go_wp2_with fail
  refine wpL_begin [9, 10] (fun w' => w'.cell? ⟨p, 0, none⟩ = some (ptr m)) (by kernel_rfl) ?_
  have hG := c0
  refine wpL_pure (i := 0) (v := ?_) rfl (by kernel_rfl) (fun _ _ _ h => h) (Or.inl ⟨by rfl, ?_⟩) ?_; rotate_left; focus ((intro wq; go_simp); first | done | (with_reducible rfl))
  refine wpL_pure (i := 1) (v := ?_) rfl (by kernel_rfl) (fun _ _ _ h => h) (Or.inl ⟨by rfl, ?_⟩) ?_; rotate_left; focus ((intro wq; go_simp); first | done | (with_reducible rfl))
  refine wpL_pure (i := 2) (v := ?_) rfl (by kernel_rfl) (fun _ _ _ h => h) (Or.inl ⟨by rfl, ?_⟩) ?_; rotate_left; focus ((intro wq; go_simp); first | done | (with_reducible rfl))
  refine wpL_take (i := 3) (v := ?_) rfl (by kernel_rfl) (fun _ _ _ h => h) (Or.inl ⟨by rfl, ?_⟩) (by assumption) ?_; rotate_left; focus ((intro wq hq; go_split_ands; go_simp); first | done | (with_reducible rfl))
  refine wpL_pure (i := 4) (v := ?_) rfl (by kernel_rfl) (fun _ _ _ h => h) (Or.inl ⟨by rfl, ?_⟩) ?_; rotate_left; focus ((intro wq; go_simp); first | done | (with_reducible rfl))
  refine wpL_pure (i := 7) (v := ?_) rfl (by kernel_rfl) (fun _ _ _ h => h) (Or.inl ⟨by rfl, ?_⟩) ?_; rotate_left; focus ((intro wq; go_simp); first | done | (with_reducible rfl))
  refine wpL_eff (i := 5) rfl (by kernel_rfl) (fun K hK => ?_)
  go_simp
  have hB1 := hS3.drew.alloc (.cells #[.int .u8 72, .int .u8 79, .int .u8 65, .int .u8 82, .int .u8 68, .int .u8 83, .int .u8 69, .int .u8 71] 5)
  refine hK _ _ (.inr (.inl (hB1.pick3.cellAt 0 _ rfl))) ?_
  clear hK K hG hB1
  refine wpL_eff (i := 6) rfl (by kernel_rfl) (fun K hK => ?_)
  have hcv : (convert 31 31 (.slice (some ⟨w3.heap.size, 0, none⟩) 8 8)).run Tryd.prog ((w3.alloc (.cells #[.int .u8 72, .int .u8 79, .int .u8 65, .int .u8 82, .int .u8 68, .int .u8 83, .int .u8 69, .int .u8 71] 5)).drew) = .ok (.slice (some ⟨w3.heap.size, 0, none⟩) 8 8) ((w3.alloc (.cells #[.int .u8 72, .int .u8 79, .int .u8 65, .int .u8 82, .int .u8 68, .int .u8 83, .int .u8 69, .int .u8 71] 5 (8, 9))).drew) :=
    Lib.run_convert_bytes_const (P := Tryd.prog) w3.drew 31 5 #[.int .u8 72, .int .u8 79, .int .u8 65, .int .u8 82, .int .u8 68, .int .u8 83, .int .u8 69, .int .u8 71] 8 8 Tryd.underlying31 Tryd.underlying5
  have hB := (hS3.alloc (.cells #[.int .u8 72, .int .u8 79, .int .u8 65, .int .u8 82, .int .u8 68, .int .u8 83, .int .u8 69, .int .u8 71] 5 (8, 9))).drew
  go_simp
  refine hK _ _ (.inr (.inl (hB.pick3.cellAt 0 _ rfl))) ?_
  clear hK K
  have hrd := Hr.out _ (hB.sel 5 [] rfl rfl)
  have hold : rdsl 1 (.slice (some ⟨w3.heap.size, 0, none⟩) 8 8) (bys magic) ((w3.alloc (.cells #[.int .u8 72, .int .u8 79, .int .u8 65, .int .u8 82, .int .u8 68, .int .u8 83, .int .u8 69, .int .u8 71] 5 (8, 9))).drew) := by
    refine ⟨_, 8, 8, rfl, rfl, fun j x hj => ⟨_, rfl, ?_⟩⟩
    rw [add_zero_lit]
    have hjl : j < magic.length := by
      have := (List.getElem?_eq_some_iff.1 hj).1
      rw [bys_len] at this; exact this
    have hx := (mrow_set (l := magic) hB hjl 0).1
    unfold bys at hj
    rw [List.getElem?_map, List.getElem?_eq_getElem hjl] at hj
    cases hj
    exact hx
  have hy0 : bys b ≠ [] := by
    intro h
    apply Hb0.out
    unfold bys at h
    exact List.map_eq_nil_iff.1 h
  have h63 : (bys magic).length + (bys b).length ≤ maxLen := by rw [bys_len, bys_len]; have := Hbl.out; unfold maxLen magic; simp; omega
  have hby : ((bys magic).length + (bys b).length) * i.bytes ≤ 140737488355328 := by rw [bys_len, bys_len, hz2]; have := Hbl.out; unfold magic; simp; omega
  refine wpL_eff (i := 8) rfl (by kernel_rfl) (fun K hK => ?_)
  refine step_append_fresh (w0 := w0) (xs := bys magic) (b := w3.heap.size) (n := 8) (cap := 8) (by rfl) _ _ _ (by rfl) _ i _ Tryd.underlying31 hi hz0 hz1 (by rfl) rfl (Nat.le_refl _) hold hB.drop (by rfl) (by rfl) hrd hy0 h63 hby ?_
  intro b4 n4 k4 w4 hS4
  clear hcv hrd hold hy0 h63 hby
  refine hK _ _ (.inr (.inl (hS4.pick3.cellAt 0 _ rfl))) ?_
  clear hK K
  refine wpL_eff (i := 9) rfl (by kernel_rfl) (fun K hK => ?_)
  go_simp
  have hS4 : Sat w0 w4 (bsl (.slice (some ⟨b4, 0, none⟩) n4 k4) (magic ++ b) :: MedRep m M1 :: pt q (.cells #[.int .i64 0, .int .i64 0, .int .i64 0] 46) :: LogRaw p m ⟨lim, [], false, fr⟩ lv ++ F) := by
    unfold bsl bys
    rw [List.map_append]
    exact hS4
  have hap := append_c hM1 hKK (hS4.sel 2 [1, 0] rfl rfl) nm (magic ++ b) (Ro.bsl _ _)
  rw [Ha.out] at hap
  refine hap.mono ?_
  rintro e w5 ⟨v, rfl, rfl, hS5⟩
  clear hap
  refine hK _ _ (.inl rfl) ?_
  clear hK K hS4 hB hS3
  refine wpL_pure (i := 10) (v := ?_) rfl (by kernel_rfl) (fun _ _ _ h => h) (Or.inl ⟨by rfl, ?_⟩) ?_; rotate_left; focus ((intro wq; go_simp); first | done | (with_reducible rfl))
  refine wpL_done (by kernel_rfl) ?_
  simp only [List.getElem_toArray, List.getElem_cons_succ, List.getElem_cons_zero]
  try go_frame
  have hS5 : Sat w0 w5 (MedRep m M2 :: bsl (.slice (some ⟨b4, 0, none⟩) n4 k4) (magic ++ b) :: pt q (.cells #[.int .i64 0, .int .i64 0, .int .i64 0] 46) :: LogRaw p m ⟨lim, [], false, fr⟩ lv ++ F) := hS5
  have c2 := hS5.pick3.cellAt 2 _ rfl
  have hwl : IntKind.i64.wrap (8 + (b.length : Int)) = 8 + (b.length : Int) := by rw [IntKind.wrap_i64]; have := Hbl.out; omega
  obtain ⟨ii, hii, hy0, hy1, hy2⟩ := info_parts infoSeg
  have h7 := hS5.alloc (.cells #[.int .i64 0, .int .i64 (8 + (b.length : Int))] 98)
  have hoc : ∀ u ∈ (#[.int .i64 0, .int .i64 (8 + (b.length : Int))] : Array Value).toList, u.oneCell' = true := by
    intro u hu
    simp only [List.mem_cons, List.not_mem_nil, or_false] at hu
    rcases hu with rfl | rfl <;> rfl
  have h63 : (segw []).length + 2 ≤ maxLen := by unfold maxLen segw; simp
  have hby : ((segw []).length + 2) * ii.bytes ≤ 140737488355328 := by rw [hy2]; simp [segw]
  have h8 : Sat w0 _ (osl 98 2 lv (segw []) :: logPt p m ⟨lim, [], false, fr⟩ lv :: pt q (.cells #[.int .i64 0, .int .i64 0, .int .i64 0] 46) :: MedRep m M2 :: F) := h7.sel 6 [5, 4, 3, 1] rfl rfl
  have hwf : IntKind.i64.wrap (fr + 1) = fr + 1 := by rw [IntKind.wrap_i64]; have := Hfr.out; omega
  clear hS2 hR
  go_wp2_with (first
    | (at_builtin; refine wpList_append (w0 := w0) (by rfl) _ _ _ (by rfl) _ ii _ Tryd.underlying84 hii hy0 hy1 (by rfl) (by omega) (by rfl) (by rfl) hoc h8 (rdsl_new _ _ _ 2 1 1 (by rfl)) h63 hby ?_; intro v2 w6 hS6 hne; obtain ⟨ab, an, ac, rfl⟩ := hne (by simp); clear h8 h7 hS5 c2 hoc h63 hby hne)
    | (refine wpList_stop (by rfl) ?_))
  refine ⟨?_⟩
  refine wpList_store_sat (w0 := w0) (by rfl) _ _ _ (by rfl) (b := p) 2 (.slice (some ⟨ab, 0, none⟩) an ac) (by rfl) (by rfl) (Nat.le_of_ble_eq_true (by rfl)) (by kernel_rfl) (by simp [Value.cells, Value.oneCell']) hS6.pick1 ?_
  intro w7 hS7
  clear hS6
  go_wp2_with (refine wpList_stop (by rfl) ?_)
  refine ⟨?_⟩
  refine wpList_store_sat (w0 := w0) (by rfl) _ _ _ (by rfl) (b := p) 3 (.bool true) (by rfl) (by rfl) (Nat.le_of_ble_eq_true (by rfl)) (by kernel_rfl) (by simp [Value.cells, Value.oneCell']) hS7 ?_
  intro w8 hS8
  clear hS7
  have e4 : w8.cell? ⟨p, 4, none⟩ = some (.int .i64 fr) := hS8.cellAt 4 _ rfl
  go_wp2_with (refine wpList_stop (by rfl) ?_)
  refine ⟨?_⟩
  refine wpList_store_sat (w0 := w0) (by rfl) _ _ _ (by rfl) (b := p) 4 (.int .i64 (fr + 1)) (by rfl) (by rfl) (Nat.le_of_ble_eq_true (by rfl)) (by kernel_rfl) (by simp [Value.cells, Value.oneCell']) hS8 ?_
  intro w9 hS9
  clear hS8 e4
  go_wp2_with (refine wpList_stop (by rfl) ?_)
  refine ⟨?_⟩
  refine wpList_store_sat (w0 := w0) (by rfl) _ _ _ (by rfl) (b := q) 0 (.agg #[.int .i64 0, .int .i64 8, .int .i64 b.length]) (by rfl) (by rfl) (Nat.le_of_ble_eq_true (by rfl)) (by kernel_rfl) (by simp [Value.cells, Value.oneCell']) hS9.pick2 ?_
  intro w10 hS10
  clear hS9
  have hld : (loadVar 46 ⟨q, 0, none⟩).run Tryd.prog w10 = .ok (.agg #[.int .i64 0, .int .i64 8, .int .i64 b.length]) w10 :=
    run_loadVar_mid (P := Tryd.prog) w10 q 0 46 [.int .i64 0, .int .i64 8, .int .i64 b.length] _ (fun j v hv => by rw [Nat.zero_add]; exact hS10.cellAt j v (by rw [← List.getElem?_toArray] at hv; exact hv)) Tryd.underlying46 (by rfl) (by kernel_rfl)
  go_wp2
  refine ⟨rfl, .tuple #[.agg #[.int .i64 0, .int .i64 8, .int .i64 b.length], errno 0], ?_, _, rfl, rfl, ?_⟩
  · refine (results_cell_tmp rfl _ _ _).trans ?_
    show ((loadVar 46 ⟨q, 0, none⟩).run Tryd.prog w10).andThen _ = _
    rw [hld]
    rfl
  · refine LogRep.shut (lv := .slice (some ⟨ab, 0, none⟩) an ac) ?_
    exact hS10.drop
end
end Go.Proofs.YtdhhbajggafdhaaDoor
