import Derived.Test.YtjklhichekmdhaaDoorJ4
import Derived.Laws.ResultCell
set_option linter.unusedVariables false
/- begin of a log without segments. -/
namespace Go.Proofs.YtjklhichekmdhaaDoor
open Go Go.Sl Go.Med Go.MapKept Go.RowKit
set_option linter.unusedVariables false
section
variable {w0 w : World} {F : List HProp} {v bv dv x lv : Value} {q p m K : Nat} {L : Seg.Log} {M M1 M2 : Med} {nm : ByteArray}
def magic : Bs := [72, 79, 65, 82, 68, 83, 69, 71]
set_option maxRecDepth 20000 in
set_option maxHeartbeats 4000000 in
theorem begin0_c (hl : L.l = []) (hon : L.on = false) (hfr : 0 ≤ L.fresh ∧ L.fresh < 1048576) (hM : M.Ok K) (hKK : K + 1 ≤ 1099511627776) (b : Bs) (hb0 : b ≠ []) (hbl : b.length ≤ 1073741824) (hr : Ro w0 F (rdsl 1 bv (bys b)))
    (hn : Seg.name 0 = nm) (hc : M.create nm = (M1, 0)) (ha : M1.append nm (magic ++ b) = (M2, 0))
    (h : Sat w0 w (LogRep p m L :: MedRep m M :: F)) :
    Calls Tryd.prog 47 #[ptr p, bv] w (Rtn fun v w' => v = .tuple #[.agg #[.int .i64 0, .int .i64 8, .int .i64 b.length], errno 0] ∧
      Sat w0 w' (LogRep p m ⟨L.limit, [(0, 8 + b.length)], true, L.fresh + 1⟩ :: MedRep m M2 :: F)) := by
  obtain ⟨lim, ll, on, fr⟩ := L
  dsimp only at hl hon hfr
  subst hl hon
  obtain ⟨lv, hR⟩ := LogRep.open h
  clear h
  obtain ⟨i, hi, hz0, hz1, hz2⟩ := info8p
  obtain ⟨ba, bn, bc, rfl, hbn⟩ := ro_len hr (A := emp) (Sat.emp.2 (hR.sel 3 [] rfl rfl))
  subst hbn
  have hA := hR.alloc (.cells #[.int .i64 0, .int .i64 0, .int .i64 0] 40)
  have hsh := shut0_c rfl hA.pick1
  have hns : nm.size ≤ 9223372036854775807 := by rw [← hn]; decide
  have hM1 : M1.Ok (K + 1) := by
    have := hM.create nm
    rw [hc] at this; exact this
  have hnx := next0_c rfl (hA.sel 4 [1, 2, 0, 3] rfl rfl)
  have Hn := Lib.hid hn; have Hc := Lib.hid hc; have Ha := Lib.hid ha; have Hfr := Lib.hid hfr
  have Hb0 := Lib.hid hb0; have Hbl := Lib.hid hbl; have Hr := Lib.hid hr; have Hns := Lib.hid hns
  clear hc ha hfr hb0 hbl hr hn hns
  go_enter Tryd.func47, Tryd.ntmps47
  go_wp2_with fail
  refine hsh.mono ?_
  rintro e w1 ⟨v, rfl, rfl, rfl⟩
  clear hsh
  generalize w.heap.size = q at *
  generalize w.alloc _ = wa at *
  go_wp2_with fail
  refine hnx.mono ?_
  rintro e w1 ⟨v, rfl, rfl, rfl⟩
  clear hnx
  have hnm := sname_c 0 hA
  rw [Hn.out] at hnm
  go_wp2_with fail
  refine hnm.mono ?_
  rintro e w2 ⟨v, rfl, rfl, hS2⟩
  clear hnm
  have hcr := create_c hM (by omega) (hS2.sel 4 [3, 0, 1, 2] rfl rfl) nm Hns.out
  rw [Hc.out] at hcr
  have c0 := hS2.pick1.cellAt 0 _ rfl
  clear hA
  go_wp2_with fail
  refine hcr.mono ?_
  rintro e w3 ⟨v, rfl, rfl, hS3⟩
  clear hcr c0
  have hS3 : Sat w0 w3 (MedRep m M1 :: pt q (.cells #[.int .i64 0, .int .i64 0, .int .i64 0] 40) :: LogRaw p m ⟨lim, [], false, fr⟩ lv ++ F) := hS3
  have c0 := hS3.pick2.cellAt 0 _ rfl
  go_wp2_with fail
  refine wpL_begin [9, 10] (fun w' => w'.cell? ⟨p, 0, none⟩ = some (ptr m)) (by kernel_rfl) ?_
  have hG := c0
  refine wpL_pure (i := 0) (v := ?_) rfl (by kernel_rfl) (fun _ _ _ h => h) (Or.inl ⟨by rfl, ?_⟩) ?_; rotate_left; focus ((intro wq; go_simp); first | done | (with_reducible rfl))
  refine wpL_pure (i := 1) (v := ?_) rfl (by kernel_rfl) (fun _ _ _ h => h) (Or.inl ⟨by rfl, ?_⟩) ?_; rotate_left; focus ((intro wq; go_simp); first | done | (with_reducible rfl))
  refine wpL_pure (i := 2) (v := ?_) rfl (by kernel_rfl) (fun _ _ _ h => h) (Or.inl ⟨by rfl, ?_⟩) ?_; rotate_left; focus ((intro wq; go_simp); first | done | (with_reducible rfl))
  refine wpL_take (i := 3) (v := ?_) rfl (by kernel_rfl) (fun _ _ _ h => h) (Or.inl ⟨by rfl, ?_⟩) (by assumption) ?_; rotate_left; focus ((intro wq hq; go_split_ands; go_simp); first | done | (with_reducible rfl))
  refine wpL_pure (i := 4) (v := ?_) rfl (by kernel_rfl) (fun _ _ _ h => h) (Or.inl ⟨by rfl, ?_⟩) ?_; rotate_left; focus ((intro wq; go_simp); first | done | (with_reducible rfl))
  refine wpL_pure (i := 7) (v := ?_) rfl (by kernel_rfl) (fun _ _ _ h => h) (Or.inl ⟨by rfl, ?_⟩) ?_; rotate_left; focus ((intro wq; go_simp); first | done | (with_reducible rfl))
  refine wpL_eff (i := 5) rfl (by kernel_rfl) (fun K hK => ?_)
  go_simp
  have hB1 := hS3.drew.alloc (.cells #[.int .u8 72, .int .u8 79, .int .u8 65, .int .u8 82, .int .u8 68, .int .u8 83, .int .u8 69, .int .u8 71] 5)
  refine hK _ _ (.inr (.inl (hB1.pick3.cellAt 0 _ rfl))) ?_
  clear hK K hG hB1
  refine wpL_eff (i := 6) rfl (by kernel_rfl) (fun K hK => ?_)
  have hcv : (convert 25 25 (.slice (some ⟨w3.heap.size, 0, none⟩) 8 8)).run Tryd.prog ((w3.alloc (.cells #[.int .u8 72, .int .u8 79, .int .u8 65, .int .u8 82, .int .u8 68, .int .u8 83, .int .u8 69, .int .u8 71] 5)).drew) = .ok (.slice (some ⟨w3.heap.size, 0, none⟩) 8 8) ((w3.alloc (.cells #[.int .u8 72, .int .u8 79, .int .u8 65, .int .u8 82, .int .u8 68, .int .u8 83, .int .u8 69, .int .u8 71] 5 (8, 9))).drew) :=
    Lib.run_convert_bytes_const (P := Tryd.prog) w3.drew 25 5 #[.int .u8 72, .int .u8 79, .int .u8 65, .int .u8 82, .int .u8 68, .int .u8 83, .int .u8 69, .int .u8 71] 8 8 Tryd.underlying25 Tryd.underlying5
  have hB := (hS3.alloc (.cells #[.int .u8 72, .int .u8 79, .int .u8 65, .int .u8 82, .int .u8 68, .int .u8 83, .int .u8 69, .int .u8 71] 5 (8, 9))).drew
  go_simp
  refine hK _ _ (.inr (.inl (hB.pick3.cellAt 0 _ rfl))) ?_
  clear hK K
  have hrd := Hr.out _ (hB.sel 5 [] rfl rfl)
  have hold : rdsl 1 (.slice (some ⟨w3.heap.size, 0, none⟩) 8 8) (bys magic) ((w3.alloc (.cells #[.int .u8 72, .int .u8 79, .int .u8 65, .int .u8 82, .int .u8 68, .int .u8 83, .int .u8 69, .int .u8 71] 5 (8, 9))).drew) := by
    refine ⟨_, 8, 8, rfl, rfl, fun j x hj => ⟨_, rfl, ?_⟩⟩
    rw [add_zero_lit]
    have hjl : j < magic.length := by
      have := (List.getElem?_eq_some_iff.1 hj).1
      rw [bys_len] at this; exact this
    have hx := (mrow_set (l := magic) hB hjl 0).1
    unfold bys at hj
    rw [List.getElem?_map, List.getElem?_eq_getElem hjl] at hj
    cases hj
    exact hx
  have hy0 : bys b ≠ [] := by
    intro h
    apply Hb0.out
    unfold bys at h
    exact List.map_eq_nil_iff.1 h
  have h63 : (bys magic).length + (bys b).length ≤ maxLen := by rw [bys_len, bys_len]; have := Hbl.out; unfold maxLen magic; simp; omega
  have hby : ((bys magic).length + (bys b).length) * i.bytes ≤ 140737488355328 := by rw [bys_len, bys_len, hz2]; have := Hbl.out; unfold magic; simp; omega
  refine wpL_eff (i := 8) rfl (by kernel_rfl) (fun K hK => ?_)
  refine step_append_fresh (w0 := w0) (xs := bys magic) (b := w3.heap.size) (n := 8) (cap := 8) (by rfl) _ _ _ (by rfl) _ i _ Tryd.underlying25 hi hz0 hz1 (by rfl) rfl (Nat.le_refl _) hold hB.drop (by rfl) (by rfl) hrd hy0 h63 hby ?_
  intro b4 n4 k4 w4 hS4
  clear hcv hrd hold hy0 h63 hby
  refine hK _ _ (.inr (.inl (hS4.pick3.cellAt 0 _ rfl))) ?_
  clear hK K
  refine wpL_eff (i := 9) rfl (by kernel_rfl) (fun K hK => ?_)
  go_simp
  have hS4 : Sat w0 w4 (bsl (.slice (some ⟨b4, 0, none⟩) n4 k4) (magic ++ b) :: MedRep m M1 :: pt q (.cells #[.int .i64 0, .int .i64 0, .int .i64 0] 40) :: LogRaw p m ⟨lim, [], false, fr⟩ lv ++ F) := by
    unfold bsl bys
    rw [List.map_append]
    exact hS4
  have hap := append_c hM1 hKK (hS4.sel 2 [1, 0] rfl rfl) nm (magic ++ b) (Ro.bsl _ _)
  rw [Ha.out] at hap
  refine hap.mono ?_
  rintro e w5 ⟨v, rfl, rfl, hS5⟩
  clear hap
  refine hK _ _ (.inl rfl) ?_
  clear hK K hS4 hB hS3
  refine wpL_pure (i := 10) (v := ?_) rfl (by kernel_rfl) (fun _ _ _ h => h) (Or.inl ⟨by rfl, ?_⟩) ?_; rotate_left; focus ((intro wq; go_simp); first | done | (with_reducible rfl))
  refine wpL_done (by kernel_rfl) ?_
  simp only [List.getElem_toArray, List.getElem_cons_succ, List.getElem_cons_zero]
  try go_frame
  have hS5 : Sat w0 w5 (MedRep m M2 :: bsl (.slice (some ⟨b4, 0, none⟩) n4 k4) (magic ++ b) :: pt q (.cells #[.int .i64 0, .int .i64 0, .int .i64 0] 40) :: LogRaw p m ⟨lim, [], false, fr⟩ lv ++ F) := hS5
  have c2 := hS5.pick3.cellAt 2 _ rfl
  have hwl : IntKind.i64.wrap (8 + (b.length : Int)) = 8 + (b.length : Int) := by rw [IntKind.wrap_i64]; have := Hbl.out; omega
  obtain ⟨ii, hii, hy0, hy1, hy2⟩ := info_parts infoSeg
  have h7 := hS5.alloc (.cells #[.int .i64 0, .int .i64 (8 + (b.length : Int))] 94)
  have hoc : ∀ u ∈ (#[.int .i64 0, .int .i64 (8 + (b.length : Int))] : Array Value).toList, u.oneCell' = true := by
    intro u hu
    simp only [List.mem_cons, List.not_mem_nil, or_false] at hu
    rcases hu with rfl | rfl <;> rfl
  have h63 : (segw []).length + 2 ≤ maxLen := by unfold maxLen segw; simp
  have hby : ((segw []).length + 2) * ii.bytes ≤ 140737488355328 := by rw [hy2]; simp [segw]
  have h8 : Sat w0 _ (osl 94 2 lv (segw []) :: logPt p m ⟨lim, [], false, fr⟩ lv :: pt q (.cells #[.int .i64 0, .int .i64 0, .int .i64 0] 40) :: MedRep m M2 :: F) := h7.sel 6 [5, 4, 3, 1] rfl rfl
  have hwf : IntKind.i64.wrap (fr + 1) = fr + 1 := by rw [IntKind.wrap_i64]; have := Hfr.out; omega
  clear hS2 hR
  go_wp2_with (first
    | (at_builtin; refine wpList_append (w0 := w0) (by rfl) _ _ _ (by rfl) _ ii _ Tryd.underlying87 hii hy0 hy1 (by rfl) (by omega) (by rfl) (by rfl) hoc h8 (rdsl_new _ _ _ 2 1 1 (by rfl)) h63 hby ?_; intro v2 w6 hS6 hne; obtain ⟨ab, an, ac, rfl⟩ := hne (by simp); clear h8 h7 hS5 c2 hoc h63 hby hne)
    | (refine wpList_stop (by rfl) ?_))
  refine ⟨?_⟩
  refine wpList_store_sat (w0 := w0) (by rfl) _ _ _ (by rfl) (b := p) 2 (.slice (some ⟨ab, 0, none⟩) an ac) (by rfl) (by rfl) (Nat.le_of_ble_eq_true (by rfl)) (by kernel_rfl) (by simp [Value.cells, Value.oneCell']) hS6.pick1 ?_
  intro w7 hS7
  clear hS6
  go_wp2_with (refine wpList_stop (by rfl) ?_)
  refine ⟨?_⟩
  refine wpList_store_sat (w0 := w0) (by rfl) _ _ _ (by rfl) (b := p) 3 (.bool true) (by rfl) (by rfl) (Nat.le_of_ble_eq_true (by rfl)) (by kernel_rfl) (by simp [Value.cells, Value.oneCell']) hS7 ?_
  intro w8 hS8
  clear hS7
  have e4 : w8.cell? ⟨p, 4, none⟩ = some (.int .i64 fr) := hS8.cellAt 4 _ rfl
  go_wp2_with (refine wpList_stop (by rfl) ?_)
  refine ⟨?_⟩
  refine wpList_store_sat (w0 := w0) (by rfl) _ _ _ (by rfl) (b := p) 4 (.int .i64 (fr + 1)) (by rfl) (by rfl) (Nat.le_of_ble_eq_true (by rfl)) (by kernel_rfl) (by simp [Value.cells, Value.oneCell']) hS8 ?_
  intro w9 hS9
  clear hS8 e4
  go_wp2_with (refine wpList_stop (by rfl) ?_)
  refine ⟨?_⟩
  refine wpList_store_sat (w0 := w0) (by rfl) _ _ _ (by rfl) (b := q) 0 (.agg #[.int .i64 0, .int .i64 8, .int .i64 b.length]) (by rfl) (by rfl) (Nat.le_of_ble_eq_true (by rfl)) (by kernel_rfl) (by simp [Value.cells, Value.oneCell']) hS9.pick2 ?_
  intro w10 hS10
  clear hS9
  have hld : (loadVar 40 ⟨q, 0, none⟩).run Tryd.prog w10 = .ok (.agg #[.int .i64 0, .int .i64 8, .int .i64 b.length]) w10 :=
    run_loadVar_mid (P := Tryd.prog) w10 q 0 40 [.int .i64 0, .int .i64 8, .int .i64 b.length] _ (fun j v hv => by rw [Nat.zero_add]; exact hS10.cellAt j v (by rw [← List.getElem?_toArray] at hv; exact hv)) Tryd.underlying40 (by rfl) (by kernel_rfl)
  go_wp2
  refine ⟨rfl, .tuple #[.agg #[.int .i64 0, .int .i64 8, .int .i64 b.length], errno 0], ?_, _, rfl, rfl, ?_⟩
  · refine (results_cell_tmp rfl _ _ _).trans ?_
    show ((loadVar 40 ⟨q, 0, none⟩).run Tryd.prog w10).andThen _ = _
    rw [hld]
    rfl
  · refine LogRep.shut (lv := .slice (some ⟨ab, 0, none⟩) an ac) ?_
    exact hS10.drop
end
end Go.Proofs.YtjklhichekmdhaaDoor
/- Append on a log without segments. -/
namespace Go.Proofs.YtjklhichekmdhaaDoor
open Go Go.Sl Go.Med Go.MapKept Go.RowKit
set_option linter.unusedVariables false
section
variable {w0 w : World} {F : List HProp} {v bv dv x lv : Value} {q p m K : Nat} {lim fr : Int} {M M1 M2 : Med} {nm : ByteArray} {b : Bs}
set_option maxRecDepth 20000 in
set_option maxHeartbeats 4000000 in
theorem append0_c (e : Frm.Ent) (hk : e.key.length = 32) (da : Option Addr) (dc : Nat) (hd : Ro w0 F (rdsl 1 (.slice da e.data.length dc) (bys e.data))) (hH : Ro w0 F Half) (hL : e.data.length ≤ 1099511627)
    (he : Frm.encode e = (b, 0)) (hfr : 0 ≤ fr ∧ fr < 1048576) (hM : M.Ok K) (hKK : K + 1 ≤ 1099511627776) (hb0 : b ≠ []) (hbl : b.length ≤ 1073741824)
    (hn : Seg.name 0 = nm) (hc : M.create nm = (M1, 0)) (ha : M1.append nm (magic ++ b) = (M2, 0))
    (h : Sat w0 w (LogRep p m ⟨lim, [], false, fr⟩ :: MedRep m M :: F)) :
    Calls Tryd.prog 12 #[ptr p, .agg (entA e (.slice da e.data.length dc))] w (Rtn fun v w' => v = .tuple #[.agg #[.int .i64 0, .int .i64 8, .int .i64 b.length], errno 0] ∧
      Sat w0 w' (LogRep p m ⟨lim, [(0, 8 + b.length)], true, fr + 1⟩ :: MedRep m M2 :: F)) := by
  obtain ⟨lv, hR⟩ := LogRep.open h
  clear h
  have hA := hR.alloc (.cells (entA e (.slice da e.data.length dc)) 27)
  have hB := hA.alloc (.cells #[.int .i64 0, .int .i64 0, .int .i64 0] 40)
  have hok := ok_c (hB.sel 3 [2, 0, 1] rfl rfl)
  have hsz := entA_size e (.slice da e.data.length dc) hk
  have hat := hB.pick1.at
  have Hat := Lib.hid hat; have Hsz := Lib.hid hsz
  have Hd := Lib.hid hd; have HH := Lib.hid hH; have Hk := Lib.hid hk; have HL := Lib.hid hL; have He := Lib.hid he
  have Hfr := Lib.hid hfr; have Hb0 := Lib.hid hb0; have Hbl := Lib.hid hbl; have Hn := Lib.hid hn; have Hc := Lib.hid hc; have Ha := Lib.hid ha
  clear hat hsz hd hH hk hL he hfr hb0 hbl hn hc ha
  go_enter Tryd.func12, Tryd.ntmps12
  go_wp2_with fail
  refine hok.mono ?_
  rintro ee w1 ⟨v, rfl, rfl, rfl⟩
  clear hok
  simp only [World.size_alloc] at hB
  generalize w.heap.size = qe at *
  generalize World.alloc _ _ = wa at *
  have hen := encode_c e Hk.out da dc (fun w hw => Hd.out w (hw.sel 5 [] rfl rfl)) (fun w hw => HH.out w (hw.sel 5 [] rfl rfl)) hB HL.out
  rw [He.out] at hen
  go_wp2_with (refine wpList_load_row (P := Tryd.prog) (by rfl) 27 _ (by rfl) _ (by rfl) _ _ (0, 0) _ Hat.out Tryd.underlying27 (by rfl) (by rw [Hsz.out]; kernel_rfl) ?_)
  refine hen.mono ?_
  rintro ee w2 ⟨v, rfl, bv, rfl, ⟨ba, bn, bc, rfl⟩, hS2⟩
  clear hen
  have c3 : w2.cell? ⟨p, 3, none⟩ = some (.bool false) := (hS2.sel 4 [3] rfl rfl).cellAt 3 _ rfl
  go_wp2_with fail
  have hS3 := hS2.drew
  have c3' : w2.drew.cell? ⟨p, 3, none⟩ = some (.bool false) := c3
  go_region
  clear c3 c3'
  have hbg := begin0_c (L := ⟨lim, [], false, fr⟩) (M := M) (M1 := M1) (M2 := M2) (nm := nm) (bv := .slice ba bn bc) rfl rfl Hfr.out hM hKK b Hb0.out Hbl.out (Ro.bsl _ _) Hn.out Hc.out Ha.out (LogRep.shut (hS3.sel 6 [3, 4, 5, 0, 1, 2] rfl rfl))
  go_wp2_with fail
  refine hbg.mono ?_
  rintro ee w4 ⟨v, rfl, rfl, hS4⟩
  clear hbg
  go_wp2_with (refine wpList_stop (by rfl) ?_)
  refine ⟨?_⟩
  refine wpList_store_sat (w0 := w0) (by rfl) _ _ _ (by rfl) (b := qe + 1) 0 (.agg #[.int .i64 0, .int .i64 8, .int .i64 b.length]) (by rfl) (by rfl) (Nat.le_of_ble_eq_true (by rfl)) (by kernel_rfl) (by simp [Value.cells, Value.oneCell']) hS4.pick3 ?_
  intro w5 hS5
  have hld : (loadVar 40 ⟨qe + 1, 0, none⟩).run Tryd.prog w5 = .ok (.agg #[.int .i64 0, .int .i64 8, .int .i64 b.length]) w5 :=
    run_loadVar_mid (P := Tryd.prog) w5 (qe + 1) 0 40 [.int .i64 0, .int .i64 8, .int .i64 b.length] _ (fun j v hv => by rw [Nat.zero_add]; exact hS5.cellAt j v (by rw [← List.getElem?_toArray] at hv; exact hv)) Tryd.underlying40 (by rfl) (by kernel_rfl)
  go_wp2
  refine ⟨rfl, .tuple #[.agg #[.int .i64 0, .int .i64 8, .int .i64 b.length], errno 0], ?_, _, rfl, rfl, ?_⟩
  · refine (results_cell_tmp rfl _ _ _).trans ?_
    show ((loadVar 40 ⟨qe + 1, 0, none⟩).run Tryd.prog w5).andThen _ = _
    rw [hld]
    rfl
  · exact hS5.sel 5 [1, 2] rfl rfl
end
end Go.Proofs.YtjklhichekmdhaaDoor
/- hoardlaw14.lives. -/
namespace Go.Proofs.YtjklhichekmdhaaDoor
open Go Go.Sl Go.Med Go.MapKept Go.RowKit
set_option linter.unusedVariables false
def comE : Frm.Ent := ⟨2, Frm.zero32, []⟩
def comB : Bs := (Frm.encode comE).1
theorem comE_enc : Frm.encode comE = (comB, 0) := by kernel_rfl
theorem comB_len : comB.length = 9 := by kernel_rfl
def liveM : Med := Med.new 1000
theorem live_create : liveM.create (Seg.name 0) = ((liveM.create (Seg.name 0)).1, 0) := by kernel_rfl
theorem live_append : (liveM.create (Seg.name 0)).1.append (Seg.name 0) (magic ++ comB) = (((liveM.create (Seg.name 0)).1.append (Seg.name 0) (magic ++ comB)).1, 0) := by kernel_rfl
theorem live_alive : Seg.alive liveM = 0 := by kernel_rfl
theorem live_fresh : Seg.fresh liveM 200 = ⟨200, [], false, 0⟩ := by kernel_rfl
section
variable {w0 w : World} {F : List HProp}
set_option maxRecDepth 20000 in
set_option maxHeartbeats 4000000 in
theorem lives_c (hH : Ro w0 F Half) (h : Sat w0 w F) :
    Calls Tryd.prog 19 #[] w (Rtn fun v w' => v = .bool true ∧ Sat w0 w' F) := by
  have hnew : Calls Tryd.prog 9 #[.int .i64 1000] w (Rtn fun v w' => ∃ m, v = .tuple #[ptr m, errno 0] ∧ Sat w0 w' (MedRep m (Med.new 1000) :: F)) := new_yes 1000 (by decide) h
  have HH := Lib.hid hH
  clear hH
  go_enter Tryd.func19, Tryd.ntmps19
  go_wp2_with fail
  refine hnew.mono ?_
  rintro e w1 ⟨v, rfl, m, rfl, hS⟩
  clear hnew
  have hop := open_c (K := 20) (Med.Ok.new 20 1000 (by decide)) 200 hS live_alive (by decide) (by decide)
  rw [show Seg.fresh (Med.new 1000) 200 = ⟨200, [], false, 0⟩ from live_fresh] at hop
  go_wp2_with fail
  refine hop.mono ?_
  rintro e w2 ⟨v, rfl, p, rfl, hS2⟩
  clear hop
  have hap := append0_c (M := liveM) (K := 20) (M1 := (liveM.create (Seg.name 0)).1) (M2 := ((liveM.create (Seg.name 0)).1.append (Seg.name 0) (magic ++ comB)).1) comE rfl none 0 (fun w _ => rdsl_nil 1 0 w) HH.out (by decide) comE_enc (by decide) (Med.Ok.new 20 1000 (by decide)) (by decide)
    (fun h => by have := comB_len; rw [h] at this; cases this) (by rw [comB_len]; decide) rfl live_create live_append hS2
  rw [comB_len] at hap
  go_wp2_with fail
  refine hap.mono ?_
  rintro e w3 ⟨v, rfl, rfl, hS3⟩
  clear hap
  go_wp2
  go_ret
  exact ⟨_, rfl, rfl, (hS3.alloc _).drop.drop.drop⟩
end
end Go.Proofs.YtjklhichekmdhaaDoor
/- Next of any log. -/
namespace Go.Seg
/-- The next segment's number. -/
def Log.next (L : Log) : Int := match L.l.getLast? with
  | none => 0
  | some s => s.1 + 1
end Go.Seg
namespace Go.Proofs.YtjklhichekmdhaaDoor
open Go Go.Sl Go.Med Go.MapKept Go.RowKit
set_option linter.unusedVariables false
section
variable {w0 w : World} {F : List HProp} {v bv dv x lv : Value} {q p m K : Nat} {L : Seg.Log} {M : Med}
theorem segw_at (l : List (Int × Int)) (i : Nat) (s : Int × Int) (h : l[i]? = some s) : (segw l)[2 * i]? = some (.int .i64 s.1) ∧ (segw l)[2 * i + 1]? = some (.int .i64 s.2) := by
  induction l generalizing i with
  | nil => simp at h
  | cons a l ih =>
    cases i with
    | zero =>
      obtain rfl : a = s := by simpa using h
      exact ⟨rfl, rfl⟩
    | succ i =>
      have e1 : segw (a :: l) = .int .i64 a.1 :: .int .i64 a.2 :: segw l := rfl
      have h' : l[i]? = some s := by simpa using h
      rw [e1, show 2 * (i + 1) = 2 * i + 1 + 1 by omega]
      exact ih i h'
/-- The cells of the last segment. -/
theorem last_cells {s : Int × Int} (hl : L.l.getLast? = some s) (h : Sat w0 w (logPt p m L lv :: osl 94 2 lv (segw L.l) :: F)) :
    ∃ bk n c, lv = .slice (some ⟨bk, 0, none⟩) (n + 1) c ∧ L.l.length = n + 1 ∧ w.cell? ⟨bk, 2 * n, none⟩ = some (.int .i64 s.1) ∧ w.cell? ⟨bk, 2 * n + 1, none⟩ = some (.int .i64 s.2) := by
  rw [List.getLast?_eq_getElem?] at hl
  have hlt := (List.getElem?_eq_some_iff.1 hl).1
  obtain ⟨n, hn⟩ : ∃ n, L.l.length = n + 1 := ⟨L.l.length - 1, by omega⟩
  rw [hn, Nat.add_sub_cancel] at hl
  obtain ⟨h1, h2⟩ := segw_at _ _ _ hl
  have hS : Sat w0 w (osl 94 2 lv (segw L.l) :: logPt p m L lv :: F) := h.pick1
  rcases hS.osl_cases with ⟨rfl, hx, _⟩ | ⟨b, n', cap, cs, rfl, hll, hn', hc, hcm, htk, hp⟩
  · rw [hx] at h1; simp at h1
  · rw [segw_len, hn] at hll
    obtain rfl : n' = n + 1 := by omega
    exact ⟨b, n, cap, rfl, hn, hp.cellAt _ _ (take_get htk h1), hp.cellAt _ _ (take_get htk h2)⟩
set_option maxHeartbeats 1000000 in
theorem snext_c (hlen : L.l.length ≤ 1048576) (hb : ∀ s ∈ L.l, 0 ≤ s.1 ∧ s.1 < 1048576) (h : Sat w0 w (logPt p m L lv :: osl 94 2 lv (segw L.l) :: F)) :
    Calls Tryd.prog 69 #[ptr p] w (Rtn fun v w' => v = .int .i64 L.next ∧ Sat w0 w' (logPt p m L lv :: osl 94 2 lv (segw L.l) :: F)) := by
  cases hl : L.l.getLast? with
  | none =>
    have hnil := List.getLast?_eq_none_iff.1 hl
    refine (next0_c hnil h).mono ?_
    rintro e w1 ⟨v, rfl, rfl, rfl⟩
    exact ⟨_, rfl, by unfold Seg.Log.next; rw [hl], h⟩
  | some s =>
    have Hfin := Lib.hid (show L.next = s.1 + 1 by unfold Seg.Log.next; rw [hl])
    have hs := hb s (List.mem_of_getLast? hl)
    obtain ⟨bk, n, c, rfl, hn, c1, c2'⟩ := last_cells hl h
    have hok := ok_c h
    have c2 := h.cellAt 2 _ rfl
    have hS := h.drew
    have c1' : w.drew.cell? ⟨bk, n * 2, none⟩ = some (.int .i64 s.1) := by rw [Nat.mul_comm]; exact c1
    have hwn : IntKind.i64.wrap (n : Int) = (n : Int) := by rw [IntKind.wrap_i64]; omega
    have hn0 : (n : Int) < (n : Int) + 1 := by omega
    have cd : w.drew.cell? ⟨p, 2, none⟩ = some (.slice (some ⟨bk, 0, none⟩) (n + 1) c) := c2
    have hw1 : IntKind.i64.wrap (s.1 + 1) = s.1 + 1 := by rw [IntKind.wrap_i64]; omega
    have Hs := Lib.hid hs; have Hn := Lib.hid hn
    clear hs hn hb hlen hl c2'
    go_enter Tryd.func69, Tryd.ntmps69
    go_wp2_with (go_at_call 44; refine hok.mono ?_; rintro e w1 ⟨v, rfl, rfl, rfl⟩)
    go_region
    go_wp2
    go_ret
    exact ⟨_, rfl, by rw [Hfin.out]; rfl, hS⟩
end
end Go.Proofs.YtjklhichekmdhaaDoor
/- Frames found by looking: pick, upd, sub; loads, stores and new blocks told at the separation logic. -/
namespace Go.Sl
open Go
/-- A stands in L; the others are R. -/
def Pick (A : HProp) (L R : List HProp) : Prop := L.Perm (A :: R)
/-- L' is L, with B in A's place. -/
def Upd (A B : HProp) (L L' : List HProp) : Prop := ∃ R, L.Perm (A :: R) ∧ L'.Perm (B :: R)
/-- All of M stands in L. -/
def Sub (L M : List HProp) : Prop := ∃ X, L.Perm (M ++ X)
section
variable {A B A1 A2 A3 A4 A5 A6 A7 A8 A9 A10 A11 A12 : HProp} {L M R L' : List HProp} {w0 w : World}
theorem pick_there (h : Pick A L R) : Pick A (B :: L) (B :: R) := (h.cons B).trans (List.Perm.swap _ _ _)
theorem pick0 : Pick A (A :: R) R := List.Perm.refl _
theorem pick1 : Pick A (A1 :: A :: R) (A1 :: R) := pick_there pick0
theorem pick2 : Pick A (A1 :: A2 :: A :: R) (A1 :: A2 :: R) := pick_there pick1
theorem pick3 : Pick A (A1 :: A2 :: A3 :: A :: R) (A1 :: A2 :: A3 :: R) := pick_there pick2
theorem pick4 : Pick A (A1 :: A2 :: A3 :: A4 :: A :: R) (A1 :: A2 :: A3 :: A4 :: R) := pick_there pick3
theorem pick5 : Pick A (A1 :: A2 :: A3 :: A4 :: A5 :: A :: R) (A1 :: A2 :: A3 :: A4 :: A5 :: R) := pick_there pick4
theorem pick6 : Pick A (A1 :: A2 :: A3 :: A4 :: A5 :: A6 :: A :: R) (A1 :: A2 :: A3 :: A4 :: A5 :: A6 :: R) := pick_there pick5
theorem pick7 : Pick A (A1 :: A2 :: A3 :: A4 :: A5 :: A6 :: A7 :: A :: R) (A1 :: A2 :: A3 :: A4 :: A5 :: A6 :: A7 :: R) := pick_there pick6
theorem pick8 : Pick A (A1 :: A2 :: A3 :: A4 :: A5 :: A6 :: A7 :: A8 :: A :: R) (A1 :: A2 :: A3 :: A4 :: A5 :: A6 :: A7 :: A8 :: R) := pick_there pick7
theorem pick9 : Pick A (A1 :: A2 :: A3 :: A4 :: A5 :: A6 :: A7 :: A8 :: A9 :: A :: R) (A1 :: A2 :: A3 :: A4 :: A5 :: A6 :: A7 :: A8 :: A9 :: R) := pick_there pick8
theorem pick10 : Pick A (A1 :: A2 :: A3 :: A4 :: A5 :: A6 :: A7 :: A8 :: A9 :: A10 :: A :: R) (A1 :: A2 :: A3 :: A4 :: A5 :: A6 :: A7 :: A8 :: A9 :: A10 :: R) := pick_there pick9
theorem pick11 : Pick A (A1 :: A2 :: A3 :: A4 :: A5 :: A6 :: A7 :: A8 :: A9 :: A10 :: A11 :: A :: R) (A1 :: A2 :: A3 :: A4 :: A5 :: A6 :: A7 :: A8 :: A9 :: A10 :: A11 :: R) := pick_there pick10
theorem upd_there (h : Upd A B L L') : Upd A B (A1 :: L) (A1 :: L') := by
  obtain ⟨R, h1, h2⟩ := h
  exact ⟨A1 :: R, (h1.cons A1).trans (List.Perm.swap _ _ _), (h2.cons A1).trans (List.Perm.swap _ _ _)⟩
theorem upd0 : Upd A B (A :: R) (B :: R) := ⟨R, List.Perm.refl _, List.Perm.refl _⟩
theorem upd1 : Upd A B (A1 :: A :: R) (A1 :: B :: R) := upd_there upd0
theorem upd2 : Upd A B (A1 :: A2 :: A :: R) (A1 :: A2 :: B :: R) := upd_there upd1
theorem upd3 : Upd A B (A1 :: A2 :: A3 :: A :: R) (A1 :: A2 :: A3 :: B :: R) := upd_there upd2
theorem upd4 : Upd A B (A1 :: A2 :: A3 :: A4 :: A :: R) (A1 :: A2 :: A3 :: A4 :: B :: R) := upd_there upd3
theorem upd5 : Upd A B (A1 :: A2 :: A3 :: A4 :: A5 :: A :: R) (A1 :: A2 :: A3 :: A4 :: A5 :: B :: R) := upd_there upd4
theorem upd6 : Upd A B (A1 :: A2 :: A3 :: A4 :: A5 :: A6 :: A :: R) (A1 :: A2 :: A3 :: A4 :: A5 :: A6 :: B :: R) := upd_there upd5
theorem upd7 : Upd A B (A1 :: A2 :: A3 :: A4 :: A5 :: A6 :: A7 :: A :: R) (A1 :: A2 :: A3 :: A4 :: A5 :: A6 :: A7 :: B :: R) := upd_there upd6
theorem upd8 : Upd A B (A1 :: A2 :: A3 :: A4 :: A5 :: A6 :: A7 :: A8 :: A :: R) (A1 :: A2 :: A3 :: A4 :: A5 :: A6 :: A7 :: A8 :: B :: R) := upd_there upd7
theorem upd9 : Upd A B (A1 :: A2 :: A3 :: A4 :: A5 :: A6 :: A7 :: A8 :: A9 :: A :: R) (A1 :: A2 :: A3 :: A4 :: A5 :: A6 :: A7 :: A8 :: A9 :: B :: R) := upd_there upd8
theorem sub_refl : Sub L L := ⟨[], by simp⟩
theorem sub_nil : Sub L [] := ⟨L, by simp⟩
theorem sub_drop1 : Sub (A :: L) L := ⟨[A], by simpa using (List.perm_append_comm (l₁ := [A]) (l₂ := L))⟩
theorem sub_drop (h : Sub L M) : Sub (A :: L) M := by
  obtain ⟨X, h⟩ := h
  exact ⟨A :: X, (h.cons A).trans List.perm_middle.symm⟩
theorem sub_take (p : Pick A L R) (h : Sub R M) : Sub L (A :: M) := by
  obtain ⟨X, h⟩ := h
  exact ⟨X, p.trans (h.cons A)⟩
theorem Sat.pick (h : Sat w0 w L) (p : Pick A L R) : Sat w0 w (A :: R) := h.perm p
theorem Sat.sub (h : Sat w0 w L) (p : Sub L M) : Sat w0 w M := by
  obtain ⟨X, h2⟩ := p
  exact (h.perm h2).dropR
theorem Ro.of_pick {A : HProp} {p : World → Prop} (h : Ro w0 (A :: R) p) (k : Pick A L R) : Ro w0 L p := fun w hw => h w (hw.pick k)
theorem Ro.of_sub {p : World → Prop} (h : Ro w0 M p) (k : Sub L M) : Ro w0 L p := fun w hw => h w (hw.sub k)
/-- The cells of a block that is held. -/
theorem Sat.cellP {b : Nat} {cs : Array Value} {T : TypeId} (h : Sat w0 w L) (p : Pick (pt b (.cells cs T (0,0))) L R) (i : Nat) {v : Value} (hv : cs[i]? = some v) : w.cell? ⟨b, i, none⟩ = some v := (h.pick p).cellAt i v hv
end
end Go.Sl
namespace Go.Proofs.YtjklhichekmdhaaDoor
open Go Go.Sl Go.Med Go.MapKept Go.RowKit
set_option linter.unusedVariables false
section
variable {P : Program} {w0 w : World} {L L' R : List HProp} {b : Nat} {ops : Array Oper} {rest : List Oper} {a : Act} {Q : Exit → Act → World → Prop}
variable {dst : Option Tmp} {t ty T : TypeId} {pos : String} {after : Array Edge} {x y : Operand} {cs : Array Value} {v : Value} {o : Nat}
/-- A type of one cell. -/
def oneB (P : Program) (ty : TypeId) : Bool := match P.underlying ty with
  | some d => !d.isRow
  | none => false
theorem run_load1 (h1 : oneB P ty = true) (hc : w.cell? ⟨b, o, none⟩ = some v) : (loadVar ty ⟨b, o, none⟩).run P w = .ok v w := by
  unfold oneB at h1
  cases hu : P.underlying ty with
  | none => rw [hu] at h1; cases h1
  | some d =>
    rw [hu] at h1
    have hagg : (isAgg ty).run P w = .ok false w := by
      unfold isAgg
      rw [Sem.run_bind, run_underlying hu w]
      cases d <;> simp_all [TypeDesc.isRow]
    simp [loadVar, Sem.run_bind, hagg]
    rw [hc]
theorem run_load1A {ad : Addr} (h1 : oneB P ty = true) (hc : w.cell? ad = some v) : (loadVar ty ad).run P w = .ok v w := by
  unfold oneB at h1
  cases hu : P.underlying ty with
  | none => rw [hu] at h1; cases h1
  | some d =>
    rw [hu] at h1
    have hagg : (isAgg ty).run P w = .ok false w := by
      unfold isAgg
      rw [Sem.run_bind, run_underlying hu w]
      cases d <;> simp_all [TypeDesc.isRow]
    simp [loadVar, Sem.run_bind, hagg]
    rw [hc]
theorem execOp_builtin_len (a : Act) (after : Array Edge) (g : Option (Nat × Bool)) : execOp a.eval ⟨dst, .call { callee := .builtin .len, args := #[x], argTypes := #[ty] }, t, pos, after, g⟩ = (do pure (.value (← Builtin.len_ #[ty] t #[a.eval x]))) := by
  rw [BigFrame.execOp_builtin, BigFrame.builtin_len]; simp
theorem getD_get {i : Nat} (hlt : i + 1 ≤ cs.size) (hv : cs.getD i undef = v) : cs[i]? = some v := by
  rw [← hv, Array.getD_eq_getD_getElem?, Array.getElem?_eq_getElem (show i < cs.size by omega)]; rfl
/-- A cell is read. -/
theorem wl_load1 (hs : Sat w0 w L) (hx : a.eval x = .pointer (some ⟨b, o, none⟩)) (p : Pick (pt b (.cells cs T (0,0))) L R) (hlt : o + 1 ≤ cs.size) (hv : cs.getD o undef = v) (h1 : oneB P ty = true)
    (h : wpList P ops Q rest (a.put dst v) w) : wpList P ops Q (⟨dst, .load ty x, t, pos, after, none⟩ :: rest) a w :=
  wpList_plain rfl fun _ hK => by
    unfold Oper.wp execOp
    simp only [hx, Instr.loadAt, Instr.sureAddr, Sem.run_bind, Sem.run_pure, Result.andThen_ok, run_load1 h1 (hs.cellP p o (getD_get hlt hv))]
    exact hK _ _ h
/-- A struct, or an array, is read. -/
theorem wl_loadN (ks : List Value) (hs : Sat w0 w L) (hx : a.eval x = .pointer (some ⟨b, o, none⟩)) (p : Pick (pt b (.cells cs T (0,0))) L R) (hv : ∀ j v, ks[j]? = some v → cs[o + j]? = some v)
    {d : TypeDesc} (hu : P.underlying ty = some d) (hd : d.isRow = true) (hi : (P.info? ty).map (·.size) = some ks.length)
    (h : wpList P ops Q rest (a.put dst (.agg ks.toArray)) w) : wpList P ops Q (⟨dst, .load ty x, t, pos, after, none⟩ :: rest) a w :=
  wpList_load_mid rfl ty x rfl b o hx ks d (fun j v hj => hs.cellP p (o + j) (hv j v hj)) hu hd hi h
/-- A whole block is read. -/
theorem wl_loadA (hs : Sat w0 w L) (hx : a.eval x = .pointer (some ⟨b, 0, none⟩)) (p : Pick (pt b (.cells cs T (0,0))) L R) {d : TypeDesc} (hu : P.underlying ty = some d) (hd : d.isRow = true) (hi : (P.info? ty).map (·.size) = some cs.size)
    (h : wpList P ops Q rest (a.put dst (.agg cs)) w) : wpList P ops Q (⟨dst, .load ty x, t, pos, after, none⟩ :: rest) a w := by
  refine wpList_load_row rfl ty x rfl b hx T cs (0, 0) d (hs.pick p).at hu ?_ hi h
  cases d <;> simp_all [TypeDesc.isRow]
/-- A value is stored. -/
theorem wl_store (hs : Sat w0 w L) (hx : a.eval x = .pointer (some ⟨b, o, none⟩)) (hy : a.eval y = v) {cs' : Array Value} (hcs : putsAt cs o v.cells.toList = cs') (u : Upd (pt b (.cells cs T (0,0))) (pt b (.cells cs' T (0,0))) L L') (hfit : o + v.cells.size ≤ cs.size)
    (hi : (P.info? ty).map (·.size) = some v.cells.size) (h1 : v.cells.toList.all (·.oneCell') = true)
    (hK : ∀ w', Sat w0 w' L' → wpList P ops Q rest (a.put dst undef) w') : wpList P ops Q (⟨dst, .store ty x y, t, pos, after, none⟩ :: rest) a w := by
  subst hcs
  obtain ⟨R', h2, h3⟩ := u
  exact wpList_store_sat rfl ty x y rfl o v hx hy hfit hi (by rw [← Array.all_toList]; exact h1) (hs.perm h2) fun w' hS => hK w' (hS.perm h3.symm)
/-- A value is put into a block of its own. -/
theorem wl_box (hs : Sat w0 w L) (hy : a.eval y = v) (hcs : v.cells = cs)
    (hK : ∀ b w', Sat w0 w' (pt b (.cells cs ty (0,0)) :: L) → wpList P ops Q rest (a.put dst (.pointer (some ⟨b, 0, none⟩))) w') : wpList P ops Q (⟨dst, .box ty y, t, pos, after, none⟩ :: rest) a w := by
  subst hcs
  refine wpList_plain rfl fun _ hK' => ?_
  have hS := hs.alloc (.cells v.cells ty)
  unfold Oper.wp execOp
  have hrun : (Instr.box ty v).run P w = .ok (.pointer (some ⟨w.heap.size, 0, none⟩)) (w.alloc (.cells v.cells ty)) := by
    simp [Instr.box, newVar, newRow, go_sem]
  simp only [hy, Sem.run_bind, Sem.run_pure, hrun, Result.andThen_ok]
  exact hK' _ _ (hK _ _ hS)
/-- The table's zero of a type. -/
def zeroB (P : Program) (ty : TypeId) : Option Value := (P.info? ty).bind (·.zero)
theorem run_zeroB (hz : zeroB P ty = some v) (w : World) : (zeroValue ty).run P w = .ok v w := by
  unfold zeroB at hz
  cases hq : P.info? ty with
  | none => simp [hq] at hz
  | some i =>
    rw [hq] at hz
    have hz' : i.zero = some v := hz
    simp [zeroValue, typeInfo, hq, hz']
/-- A new variable. -/
theorem wl_alloc (hz : zeroB P ty = some v) (hs : Sat w0 w L) (hcs : v.cells = cs)
    (hK : ∀ b w', Sat w0 w' (pt b (.cells cs ty (0,0)) :: L) → wpList P ops Q rest (a.put dst (.pointer (some ⟨b, 0, none⟩))) w') : wpList P ops Q (⟨dst, .alloc ty, t, pos, after, none⟩ :: rest) a w := by
  subst hcs
  refine wpList_plain rfl fun _ hK' => ?_
  have hS := hs.alloc (.cells v.cells ty)
  unfold Oper.wp execOp
  have hrun : (Instr.alloc ty true (.tuple #[])).run P w = .ok (.pointer (some ⟨w.heap.size, 0, none⟩)) (w.alloc (.cells v.cells ty)) := by
    simp [Instr.alloc, run_zeroB hz w, newVar, newRow, go_sem, Result.andThen]
  simp only [Sem.run_bind, Sem.run_pure, hrun, Result.andThen_ok]
  exact hK' _ _ (hK _ _ hS)
/-- The results: a struct that lies in a cell, and a value. -/
theorem res_cell_tmp {fn : Func} {p u : Tmp} {tmps : Array Value} {d : TypeDesc} (hf : fn.results = #[.cell p ty, .tmp u]) (hs : Sat w0 w L) (hp : tmps.getD p undef = .pointer (some ⟨b, 0, none⟩)) (k : Pick (pt b (.cells cs T (0,0))) L R)
    (hu : P.underlying ty = some d) (hd : d.isRow = true) (hi : (P.info? ty).map (·.size) = some cs.size) :
    (results fn tmps).run P w = .ok (.tuple #[.agg cs, tmps.getD u undef]) w := by
  rw [results_cell_tmp hf tmps P w, hp]
  have hl := run_loadVar_row (P := P) w b T ty cs (0, 0) d (hs.pick k).at hu (by cases d <;> simp_all [TypeDesc.isRow]) hi
  simp [asAddr, hl, Result.andThen]
theorem LogRep.shut2 {p m : Nat} {L : Seg.Log} {lv : Value} {F : List HProp} (h : Sat w0 w (logPt p m L lv :: osl 94 2 lv (segw L.l) :: F)) : Sat w0 w (LogRep p m L :: F) := LogRep.shut h
theorem LogRep.open2 {p m : Nat} {L : Seg.Log} {F : List HProp} (h : Sat w0 w (LogRep p m L :: F)) : ∃ lv, Sat w0 w (logPt p m L lv :: osl 94 2 lv (segw L.l) :: F) := LogRep.open h
theorem putsAt_list : ∀ (ys : List Value) (cs : Array Value) (o : Nat), o + ys.length ≤ cs.size → (putsAt cs o ys).toList = cs.toList.take o ++ ys ++ cs.toList.drop (o + ys.length)
  | [], cs, o, h => by simp [putsAt]
  | y :: ys, cs, o, h => by
    simp only [List.length_cons] at h
    rw [putsAt, putsAt_list ys _ (o + 1) (by rw [Array.size_setIfInBounds]; omega), Array.toList_setIfInBounds]
    have hlt : o < cs.toList.length := by simp; omega
    rw [List.set_eq_take_append_cons_drop, if_pos hlt]
    have h1 : (cs.toList.take o).length = o := by rw [List.length_take]; omega
    rw [List.take_append, h1, List.take_of_length_le (by omega), show o + 1 - o = 1 by omega, List.take_succ_cons, List.take_zero]
    rw [List.drop_append, h1, List.drop_of_length_le (l := cs.toList.take o) (by omega), List.nil_append, show o + 1 + ys.length - o = ys.length + 1 by omega, List.drop_succ_cons, List.drop_drop]
    simp only [List.length_cons, List.append_assoc, List.cons_append, List.nil_append]
    rw [show o + 1 + ys.length = o + (ys.length + 1) by omega]
/-! ### stops: where a law is to be tried, seen by the operation's form alone -/
theorem at_load (h : Stop (wpList P ops Q (⟨dst, .load ty x, t, pos, after, none⟩ :: rest) a w)) : wpList P ops Q (⟨dst, .load ty x, t, pos, after, none⟩ :: rest) a w := h.out
theorem at_store (h : Stop (wpList P ops Q (⟨dst, .store ty x y, t, pos, after, none⟩ :: rest) a w)) : wpList P ops Q (⟨dst, .store ty x y, t, pos, after, none⟩ :: rest) a w := h.out
theorem at_box (h : Stop (wpList P ops Q (⟨dst, .box ty y, t, pos, after, none⟩ :: rest) a w)) : wpList P ops Q (⟨dst, .box ty y, t, pos, after, none⟩ :: rest) a w := h.out
theorem at_alloc (h : Stop (wpList P ops Q (⟨dst, .alloc ty, t, pos, after, none⟩ :: rest) a w)) : wpList P ops Q (⟨dst, .alloc ty, t, pos, after, none⟩ :: rest) a w := h.out
theorem at_build1 {ix : Nat} {k : Nat} (h : Stop (wpList P ops Q (⟨dst, .buildSlice ty k #[(ix, x)], t, pos, after, none⟩ :: rest) a w)) : wpList P ops Q (⟨dst, .buildSlice ty k #[(ix, x)], t, pos, after, none⟩ :: rest) a w := h.out
theorem at_append {s z : Operand} {ta tb : TypeId} (h : Stop (wpList P ops Q (⟨dst, .call { callee := .builtin .append, args := #[s, z], argTypes := #[ta, tb] }, t, pos, after, none⟩ :: rest) a w)) : wpList P ops Q (⟨dst, .call { callee := .builtin .append, args := #[s, z], argTypes := #[ta, tb] }, t, pos, after, none⟩ :: rest) a w := h.out
/-! ### what an operation yields, by its form -/
section
variable {vx vy : Value} {ad : Addr} {fl : Nat} {bo : BinOp} {uo : UnOp} {tz : TypeId} {G : World → Prop}
theorem want_none (o : Oper) (h : o.guard = none) : Region.wanted o (yielded ops a.tmps) = true := by simp [Region.wanted, h]
theorem yl_move (hx : a.eval x = v) : Yields P ops ⟨dst, .move x, t, pos, after, none⟩ v a :=
  .inl ⟨want_none _ rfl, fun w => by simp only [execOp, hx]; rfl⟩
theorem yl_assign (hx : a.eval x = v) : Yields P ops ⟨dst, .assign x, t, pos, after, none⟩ v a :=
  .inl ⟨want_none _ rfl, fun w => by simp only [execOp, hx]; rfl⟩
theorem yl_nil (hx : a.eval x = .pointer (some ad)) : Yields P ops ⟨dst, .nilCheck x, t, pos, after, none⟩ (.pointer (some ad)) a :=
  .inl ⟨want_none _ rfl, fun w => by simp only [execOp, hx]; rfl⟩
theorem yl_field (hx : a.eval x = vx) (hr : ∀ w, (Instr.fieldAt ty vx fl).run P w = .ok v w) : Yields P ops ⟨dst, .fieldAddr ty x fl, t, pos, after, none⟩ v a :=
  .inl ⟨want_none _ rfl, fun w => by simp only [execOp, hx, Sem.run_bind, hr, Result.andThen_ok, Sem.run_pure]⟩
theorem yl_index (hx : a.eval x = vx) (hy : a.eval y = vy) (hr : ∀ w, (Instr.indexAt ty vx vy).run P w = .ok v w) : Yields P ops ⟨dst, .indexAddr ty x y, t, pos, after, none⟩ v a :=
  .inl ⟨want_none _ rfl, fun w => by simp only [execOp, hx, hy, Sem.run_bind, hr, Result.andThen_ok, Sem.run_pure]⟩
theorem yl_bin (hx : a.eval x = vx) (hy : a.eval y = vy) (hr : ∀ w, ((do eqGuard bo ty x y vx vy; binOp bo ty vx vy) : Sem Value).run P w = .ok v w) : Yields P ops ⟨dst, .binOp bo ty x y tz, t, pos, after, none⟩ v a :=
  .inl ⟨want_none _ rfl, fun w => by simp only [execOp, hx, hy, Sem.run_bind (x := (do eqGuard bo ty x y vx vy; binOp bo ty vx vy)), hr, Result.andThen_ok, Sem.run_pure]⟩
theorem yl_un (hx : a.eval x = vx) (hr : ∀ w, (Op.unary uo vx).run P w = .ok v w) : Yields P ops ⟨dst, .unOp uo ty x, t, pos, after, none⟩ v a :=
  .inl ⟨want_none _ rfl, fun w => by simp only [execOp, hx, Sem.run_bind, hr, Result.andThen_ok, Sem.run_pure]⟩
theorem yl_conv (hx : a.eval x = vx) (hr : ∀ w, (convert ty tz vx).run P w = .ok v w) : Yields P ops ⟨dst, .convert ty tz x, t, pos, after, none⟩ v a :=
  .inl ⟨want_none _ rfl, fun w => by simp only [execOp, hx, Sem.run_bind, hr, Result.andThen_ok, Sem.run_pure]⟩
theorem yl_extract (hx : a.eval x = vx) (hr : ∀ w, (Instr.extract vx fl).run P w = .ok v w) : Yields P ops ⟨dst, .extract x fl, t, pos, after, none⟩ v a :=
  .inl ⟨want_none _ rfl, fun w => by simp only [execOp, hx, Sem.run_bind, hr, Result.andThen_ok, Sem.run_pure]⟩
theorem yl_len (hx : a.eval x = vx) (hr : ∀ w, (Builtin.len_ #[ty] t #[vx]).run P w = .ok v w) : Yields P ops ⟨dst, .call { callee := .builtin .len, args := #[x], argTypes := #[ty] }, t, pos, after, none⟩ v a :=
  .inl ⟨want_none _ rfl, fun w => by
    rw [execOp_builtin_len, hx]
    simp only [Sem.run_bind, hr, Result.andThen_ok, Sem.run_pure]⟩
/-- A cell that G knows is read. -/
theorem tk_load (hx : a.eval x = .pointer (some ad)) (h1 : oneB P ty = true) (hG : ∀ w, G w → w.cell? ad = some v) : YieldsIf P ops G ⟨dst, .load ty x, t, pos, after, none⟩ v a :=
  .inl ⟨want_none _ rfl, fun w hw => by
    obtain ⟨b, o, el⟩ := ad
    have hc := hG w hw
    simp only [execOp, hx, Instr.loadAt, Instr.sureAddr, Sem.run_bind, Sem.run_pure, Result.andThen_ok, run_load1A h1 hc]⟩
/-- A function with a body. -/
def goB (P : Program) (f : FuncId) : Bool := match P.funcs[f]? with
  | some fn => !(fn.name == "runtime.NumGoroutine") && fn.body.isSome
  | none => false
theorem run_goB {f : FuncId} (h : goB P f = true) (args : Array Value) (w : World) : (callFunc f args).run P w = .ok (.enter f args) w := by
  unfold goB at h
  cases hf : P.funcs[f]? with
  | none => rw [hf] at h; cases h
  | some fn =>
    rw [hf] at h
    simp only [Bool.and_eq_true, Bool.not_eq_true'] at h
    obtain ⟨h1, h2⟩ := h
    obtain ⟨c, hc⟩ := Option.isSome_iff_exists.1 h2
    have h1' : fn.name ≠ "runtime.NumGoroutine" := by simpa using h1
    simp [callFunc, hf, h1', hc]
/-- What follows upon a call. -/
def Upon (K : Act → World → Prop) (Q : Exit → Act → World → Prop) (a : Act) (dst : Option Tmp) (e : Ending) (w : World) : Prop :=
  match e with
  | .returned v => K (a.put dst v) w
  | .panicked chain => Q (.panic chain) a w
  | .outgrown => LetsOut Q
theorem eff_call {f : FuncId} {xs : Array Operand} {ts : Array TypeId} {K : Act → World → Prop} {E : Prop} (vs : List Value) (hf : goB P f = true) (hv : xs.toList.map a.eval = vs)
    (h : Calls P f vs.toArray w (Upon K Q a dst)) : if Region.wanted ⟨dst, .call { callee := .value (.func f), args := xs, argTypes := ts }, t, pos, after, none⟩ (yielded ops a.tmps) = true then
      Oper.wp P ⟨dst, .call { callee := .value (.func f), args := xs, argTypes := ts }, t, pos, after, none⟩ a w K Q else E := by
  rw [if_pos (want_none _ rfl)]
  unfold Oper.wp
  have e1 : (#[] ++ xs.map a.eval ++ #[] : Array Value) = vs.toArray := by
    rw [← hv]; cases xs; simp
  rw [execOp_call_go, e1, run_goB hf, Oper.upon_enter]
  exact h.mono fun e w' he => by cases e <;> exact he
theorem eff_call1 {f : FuncId} {x1 : Operand} {v1 : Value} {ts : Array TypeId} {K : Act → World → Prop} {E : Prop} (hf : goB P f = true) (h1 : a.eval x1 = v1)
    (h : Calls P f #[v1] w (Upon K Q a dst)) : if Region.wanted ⟨dst, .call { callee := .value (.func f), args := #[x1], argTypes := ts }, t, pos, after, none⟩ (yielded ops a.tmps) = true then
      Oper.wp P ⟨dst, .call { callee := .value (.func f), args := #[x1], argTypes := ts }, t, pos, after, none⟩ a w K Q else E :=
  eff_call [v1] hf (by simp [h1]) h
theorem eff_call2 {f : FuncId} {x1 x2 : Operand} {v1 v2 : Value} {ts : Array TypeId} {K : Act → World → Prop} {E : Prop} (hf : goB P f = true) (h1 : a.eval x1 = v1) (h2 : a.eval x2 = v2)
    (h : Calls P f #[v1, v2] w (Upon K Q a dst)) : if Region.wanted ⟨dst, .call { callee := .value (.func f), args := #[x1, x2], argTypes := ts }, t, pos, after, none⟩ (yielded ops a.tmps) = true then
      Oper.wp P ⟨dst, .call { callee := .value (.func f), args := #[x1, x2], argTypes := ts }, t, pos, after, none⟩ a w K Q else E :=
  eff_call [v1, v2] hf (by simp [h1, h2]) h
theorem eff_call3 {f : FuncId} {x1 x2 x3 : Operand} {v1 v2 v3 : Value} {ts : Array TypeId} {K : Act → World → Prop} {E : Prop} (hf : goB P f = true) (h1 : a.eval x1 = v1) (h2 : a.eval x2 = v2) (h3 : a.eval x3 = v3)
    (h : Calls P f #[v1, v2, v3] w (Upon K Q a dst)) : if Region.wanted ⟨dst, .call { callee := .value (.func f), args := #[x1, x2, x3], argTypes := ts }, t, pos, after, none⟩ (yielded ops a.tmps) = true then
      Oper.wp P ⟨dst, .call { callee := .value (.func f), args := #[x1, x2, x3], argTypes := ts }, t, pos, after, none⟩ a w K Q else E :=
  eff_call [v1, v2, v3] hf (by simp [h1, h2, h3]) h
theorem eff_call4 {f : FuncId} {x1 x2 x3 x4 : Operand} {v1 v2 v3 v4 : Value} {ts : Array TypeId} {K : Act → World → Prop} {E : Prop} (hf : goB P f = true) (h1 : a.eval x1 = v1) (h2 : a.eval x2 = v2) (h3 : a.eval x3 = v3) (h4 : a.eval x4 = v4)
    (h : Calls P f #[v1, v2, v3, v4] w (Upon K Q a dst)) : if Region.wanted ⟨dst, .call { callee := .value (.func f), args := #[x1, x2, x3, x4], argTypes := ts }, t, pos, after, none⟩ (yielded ops a.tmps) = true then
      Oper.wp P ⟨dst, .call { callee := .value (.func f), args := #[x1, x2, x3, x4], argTypes := ts }, t, pos, after, none⟩ a w K Q else E :=
  eff_call [v1, v2, v3, v4] hf (by simp [h1, h2, h3, h4]) h
theorem gd_move (h : Stop (Yields P ops ⟨dst, .move x, t, pos, after, none⟩ v a)) : Yields P ops ⟨dst, .move x, t, pos, after, none⟩ v a := h.out
theorem gd_assign (h : Stop (Yields P ops ⟨dst, .assign x, t, pos, after, none⟩ v a)) : Yields P ops ⟨dst, .assign x, t, pos, after, none⟩ v a := h.out
theorem gd_nil (h : Stop (Yields P ops ⟨dst, .nilCheck x, t, pos, after, none⟩ v a)) : Yields P ops ⟨dst, .nilCheck x, t, pos, after, none⟩ v a := h.out
theorem gd_field (h : Stop (Yields P ops ⟨dst, .fieldAddr ty x fl, t, pos, after, none⟩ v a)) : Yields P ops ⟨dst, .fieldAddr ty x fl, t, pos, after, none⟩ v a := h.out
theorem gd_index (h : Stop (Yields P ops ⟨dst, .indexAddr ty x y, t, pos, after, none⟩ v a)) : Yields P ops ⟨dst, .indexAddr ty x y, t, pos, after, none⟩ v a := h.out
theorem gd_bin (h : Stop (Yields P ops ⟨dst, .binOp bo ty x y tz, t, pos, after, none⟩ v a)) : Yields P ops ⟨dst, .binOp bo ty x y tz, t, pos, after, none⟩ v a := h.out
theorem gd_un (h : Stop (Yields P ops ⟨dst, .unOp uo ty x, t, pos, after, none⟩ v a)) : Yields P ops ⟨dst, .unOp uo ty x, t, pos, after, none⟩ v a := h.out
theorem gd_conv (h : Stop (Yields P ops ⟨dst, .convert ty tz x, t, pos, after, none⟩ v a)) : Yields P ops ⟨dst, .convert ty tz x, t, pos, after, none⟩ v a := h.out
theorem gd_extract (h : Stop (Yields P ops ⟨dst, .extract x fl, t, pos, after, none⟩ v a)) : Yields P ops ⟨dst, .extract x fl, t, pos, after, none⟩ v a := h.out
theorem gd_len (h : Stop (Yields P ops ⟨dst, .call { callee := .builtin .len, args := #[x], argTypes := #[ty] }, t, pos, after, none⟩ v a)) : Yields P ops ⟨dst, .call { callee := .builtin .len, args := #[x], argTypes := #[ty] }, t, pos, after, none⟩ v a := h.out
theorem gd_call1 {f : FuncId} {x1 : Operand} {ts : Array TypeId} {K : Act → World → Prop} {E : Prop} (h : Stop (if Region.wanted ⟨dst, .call { callee := .value (.func f), args := #[x1], argTypes := ts }, t, pos, after, none⟩ (yielded ops a.tmps) = true then Oper.wp P ⟨dst, .call { callee := .value (.func f), args := #[x1], argTypes := ts }, t, pos, after, none⟩ a w K Q else E)) : if Region.wanted ⟨dst, .call { callee := .value (.func f), args := #[x1], argTypes := ts }, t, pos, after, none⟩ (yielded ops a.tmps) = true then Oper.wp P ⟨dst, .call { callee := .value (.func f), args := #[x1], argTypes := ts }, t, pos, after, none⟩ a w K Q else E := h.out
theorem gd_call2 {f : FuncId} {x1 x2 : Operand} {ts : Array TypeId} {K : Act → World → Prop} {E : Prop} (h : Stop (if Region.wanted ⟨dst, .call { callee := .value (.func f), args := #[x1, x2], argTypes := ts }, t, pos, after, none⟩ (yielded ops a.tmps) = true then Oper.wp P ⟨dst, .call { callee := .value (.func f), args := #[x1, x2], argTypes := ts }, t, pos, after, none⟩ a w K Q else E)) : if Region.wanted ⟨dst, .call { callee := .value (.func f), args := #[x1, x2], argTypes := ts }, t, pos, after, none⟩ (yielded ops a.tmps) = true then Oper.wp P ⟨dst, .call { callee := .value (.func f), args := #[x1, x2], argTypes := ts }, t, pos, after, none⟩ a w K Q else E := h.out
theorem gd_call3 {f : FuncId} {x1 x2 x3 : Operand} {ts : Array TypeId} {K : Act → World → Prop} {E : Prop} (h : Stop (if Region.wanted ⟨dst, .call { callee := .value (.func f), args := #[x1, x2, x3], argTypes := ts }, t, pos, after, none⟩ (yielded ops a.tmps) = true then Oper.wp P ⟨dst, .call { callee := .value (.func f), args := #[x1, x2, x3], argTypes := ts }, t, pos, after, none⟩ a w K Q else E)) : if Region.wanted ⟨dst, .call { callee := .value (.func f), args := #[x1, x2, x3], argTypes := ts }, t, pos, after, none⟩ (yielded ops a.tmps) = true then Oper.wp P ⟨dst, .call { callee := .value (.func f), args := #[x1, x2, x3], argTypes := ts }, t, pos, after, none⟩ a w K Q else E := h.out
theorem gd_call4 {f : FuncId} {x1 x2 x3 x4 : Operand} {ts : Array TypeId} {K : Act → World → Prop} {E : Prop} (h : Stop (if Region.wanted ⟨dst, .call { callee := .value (.func f), args := #[x1, x2, x3, x4], argTypes := ts }, t, pos, after, none⟩ (yielded ops a.tmps) = true then Oper.wp P ⟨dst, .call { callee := .value (.func f), args := #[x1, x2, x3, x4], argTypes := ts }, t, pos, after, none⟩ a w K Q else E)) : if Region.wanted ⟨dst, .call { callee := .value (.func f), args := #[x1, x2, x3, x4], argTypes := ts }, t, pos, after, none⟩ (yielded ops a.tmps) = true then Oper.wp P ⟨dst, .call { callee := .value (.func f), args := #[x1, x2, x3, x4], argTypes := ts }, t, pos, after, none⟩ a w K Q else E := h.out
/-! ### the steps of a region that draws -/
variable {late : List Nat} {i n : Nat} {oi : Oper} {l : Array Bool}
theorem rg_pure (i : Nat) (hi : ops.toList[i]? = some oi) (hc : (Region.noSelect ops && Region.free .any ops l i && (Region.ready .any ops l).contains i && shutB ops l) = true)
    (hQ : ∀ c a w, Q (.panic c) (a.put oi.dst v) w → Q (.panic c) a w) (hy : Yields P ops oi v a) {a' : Act} (ha : a.put oi.dst v = a')
    (h : wpL P ops Q late G n (l.setIfInBounds i true) a' w) : wpL P ops Q late G (n + 1) l a w :=
  wpL_pure (by rw [← Array.getElem?_toList]; exact hi) hc hQ hy (by rw [ha]; exact h)
theorem rg_take (i : Nat) (hi : ops.toList[i]? = some oi) (hc : (Region.noSelect ops && Region.free .any ops l i && (Region.ready .any ops l).contains i && lateOk ops late i && shutB ops l) = true)
    (hQ : ∀ c a w, Q (.panic c) (a.put oi.dst v) w → Q (.panic c) a w) (hy : YieldsIf P ops G oi v a) (hG : G w) {a' : Act} (ha : a.put oi.dst v = a')
    (h : wpL P ops Q late G n (l.setIfInBounds i true) a' w) : wpL P ops Q late G (n + 1) l a w :=
  wpL_take (by rw [← Array.getElem?_toList]; exact hi) hc hQ hy hG (by rw [ha]; exact h)
theorem rg_eff (i : Nat) (hi : ops.toList[i]? = some oi) (hr : Region.ready .any ops l = [i])
    (h : ∀ K : Act → World → Prop, (∀ a' w', keeps late G i w w' → wpL P ops Q late G n (l.setIfInBounds i true) a' w' → K a' w') →
      if Region.wanted oi (yielded ops a.tmps) = true then Oper.wp P oi a w K Q else K (a.put oi.dst undef) w) : wpL P ops Q late G (n + 1) l a w :=
  wpL_eff (by rw [← Array.getElem?_toList]; exact hi) hr h
end
/-! ### a slice of one element; append -/
section
variable {e : TypeId} {sz by' n c : Nat} {xs ys : List Value} {s : Operand}
/-- The table's word on a slice type t of e: sz cells and by' bytes an element. -/
def appB (P : Program) (t e : TypeId) (sz by' : Nat) : Bool :=
  (match P.underlying t with | some (.slice e') => e' == e | _ => false) &&
  (match P.info? e with
    | some i => i.size == sz && i.bytes == by' && (match i.zero with | some z => z.cells.size == sz | none => false) && decide (0 < sz)
    | none => false)
theorem appB_spec (h : appB P t e sz by' = true) : P.underlying t = some (.slice e) ∧ ∃ i z, P.info? e = some i ∧ i.zero = some z ∧ i.size = sz ∧ i.bytes = by' ∧ z.cells.size = sz ∧ 0 < sz := by
  unfold appB at h
  rw [Bool.and_eq_true] at h
  obtain ⟨h1, h2⟩ := h
  constructor
  · split at h1
    · rename_i e' he; rw [he]; congr 2; simpa using h1
    · cases h1
  · split at h2
    · rename_i i hi
      simp only [Bool.and_eq_true, beq_iff_eq, decide_eq_true_eq] at h2
      obtain ⟨⟨⟨a1, a2⟩, a3⟩, a4⟩ := h2
      split at a3
      · rename_i z hz
        exact ⟨i, z, hi, hz, a1, a2, by simpa using a3, a4⟩
      · cases a3
    · cases h2
theorem fill_all (cs zs : Array Value) (h : zs.size = cs.size) : cs.zipIdx.foldl (fun acc (x : Value × Nat) => acc.setIfInBounds (0 + x.2) x.1) zs = cs := by
  have key : ∀ (k : Nat) (l : List Value) (acc : Array Value), acc.size = k + l.length → (∀ j, j < k → acc[j]? = cs[j]?) → (∀ j, l[j]? = cs[k + j]?) → k + l.length = cs.size →
      (l.zipIdx k).foldl (fun acc (x : Value × Nat) => acc.setIfInBounds (0 + x.2) x.1) acc = cs := by
    intro k l
    induction l generalizing k with
    | nil =>
      intro acc h1 h2 _ h4
      simp only [List.zipIdx_nil, List.foldl_nil]
      simp only [List.length_nil, Nat.add_zero] at h1 h4
      apply Array.ext_getElem?
      intro j
      by_cases hj : j < k
      · exact h2 j hj
      · rw [Array.getElem?_eq_none (by omega), Array.getElem?_eq_none (by omega)]
    | cons v l ih =>
      intro acc h1 h2 h3 h4
      simp only [List.zipIdx_cons, List.foldl_cons]
      simp only [List.length_cons] at h1 h4
      rw [Nat.zero_add k]
      refine ih (k + 1) (acc.setIfInBounds k v) (by rw [Array.size_setIfInBounds]; omega) ?_ ?_ (by omega)
      · intro j hj
        by_cases hjk : j = k
        · subst hjk
          have := h3 0
          simp only [List.getElem?_cons_zero, Nat.add_zero] at this
          rw [← this, Array.getElem?_setIfInBounds_self_of_lt (by omega)]
        · rw [Array.getElem?_setIfInBounds_ne (by omega)]
          exact h2 j (by omega)
      · intro j
        have := h3 (j + 1)
        rw [List.getElem?_cons_succ] at this
        rw [this]
        congr 1
        omega
  have := key 0 cs.toList zs (by simpa using h) (fun j hj => absurd hj (Nat.not_lt_zero j)) (fun j => by simp) (by simp)
  conv => rhs; rw [← this]
  rw [← Array.foldl_toList, Array.toList_zipIdx]
theorem run_build1 (hb : appB P t e sz by' = true) (hsz : v.cells.size = sz) (hle : sz ≤ 16777216) (w : World) :
    (Instr.buildSlice t 1 #[(0, v)]).run P w = .ok (.slice (some ⟨w.heap.size, 0, none⟩) 1 1) (w.alloc (.cells v.cells e)) := by
  obtain ⟨hu, i, z, hi, hz, h1, h2, h3, h4⟩ := appB_spec hb
  subst h1
  have hzv : (zeroValue e).run P w = .ok z w := by simp [zeroValue, typeInfo, hi, hz]
  have hsz' : (sizeOf e).run P w = .ok i.size w := by simp [sizeOf, typeInfo, hi]
  have hnz : ¬ (1 * i.size = 0) := by omega
  have hle' : ¬ (1 * i.size > 2 ^ 24) := by omega
  unfold Instr.buildSlice
  simp only [Sem.run_bind, run_underlying hu, Result.andThen_ok, hsz', if_neg hle', if_neg hnz, hzv, Sem.run_pure]
  have hf : Instr.fill (fun i' => some (i' * i.size, i.size)) ((Array.range (1 * i.size)).map (z.cells[· % z.cells.size]!)) [(0, v)] = some v.cells := by
    have hs1 : ((Array.range (1 * i.size)).map (z.cells[· % z.cells.size]!)).size = v.cells.size := by simp [hsz]
    unfold Instr.fill
    simp only [Nat.zero_mul]
    have hc : ¬ ((v.cells.size ≠ i.size || 0 + v.cells.size > ((Array.range (1 * i.size)).map (z.cells[· % z.cells.size]!)).size) = true) := by
      rw [hs1]; simp [hsz]
    simp only [if_neg hc]
    unfold Instr.fill
    congr 1
    exact fill_all _ _ hs1
  simp only [hf]
  simp [newRow, go_sem]
/-- '[]T{x}'. -/
theorem wl_build1 (hb : appB P ty e sz by' = true) (hs : Sat w0 w L) (hy : a.eval x = v) (hcs : v.cells = cs) (hsz : cs.size = sz) (hle : sz ≤ 16777216)
    (hK : ∀ b w', Sat w0 w' (pt b (.cells cs e (0,0)) :: L) → wpList P ops Q rest (a.put dst (.slice (some ⟨b, 0, none⟩) 1 1)) w') : wpList P ops Q (⟨dst, .buildSlice ty 1 #[(0, x)], t, pos, after, none⟩ :: rest) a w := by
  subst hcs
  refine wpList_plain rfl fun _ hK' => ?_
  have hS := hs.alloc (.cells v.cells e)
  unfold Oper.wp execOp
  simp only [hy, List.map_toArray, List.map_cons, List.map_nil, Sem.run_bind, Sem.run_pure, run_build1 hb hsz hle w, Result.andThen_ok]
  exact hK' _ _ (hK _ _ hS)
/-- 'append(s, y...)', both in memory that is held. -/
theorem wl_append (e : TypeId) (sz by' : Nat) (hb : appB P ty e sz by' = true) (hs : Sat w0 w L) (hv : a.eval s = v) (hy : a.eval y = .slice (some ⟨b, 0, none⟩) n c) {R2 : List HProp} (p : Pick (osl e sz v xs) L R) (p2 : Pick (pt b (.cells cs T (0,0))) R R2)
    (hn : cs.size = n * sz) (h0 : 0 < n) (h1 : cs.toList.all (·.oneCell') = true) (h63 : xs.length + cs.size ≤ maxLen) (hby : (xs.length + cs.size) * by' ≤ 140737488355328)
    (hK : ∀ b' n' c' w', Sat w0 w' (osl e sz (.slice (some ⟨b', 0, none⟩) n' c') (xs ++ cs.toList) :: R2) → wpList P ops Q rest (a.put dst (.slice (some ⟨b', 0, none⟩) n' c')) w') :
    wpList P ops Q (⟨dst, .call { callee := .builtin .append, args := #[s, y], argTypes := #[ty, ty] }, t, pos, after, none⟩ :: rest) a w := by
  obtain ⟨hu, i, z, hi, hz, e1, e2, e3, e4⟩ := appB_spec hb
  subst e2
  have hne : xs ++ cs.toList ≠ [] := by
    intro h
    have := congrArg List.length h
    simp only [List.length_append, Array.length_toList, List.length_nil] at this
    have : 0 < n * sz := Nat.mul_pos h0 e4
    omega
  have hrd : rdsl sz (.slice (some ⟨b, 0, none⟩) n c) cs.toList w := ⟨_, n, c, rfl, by simpa using hn, fun j x hj => ⟨_, rfl, by
    rw [add_zero_lit]
    exact ((hs.pick p).pick (pick_there p2)).cellAt j x (by simpa using hj)⟩⟩
  refine wpList_append (w0 := w0) rfl s y ty rfl e i z hu hi hz e1 e3 e4 hv hy (fun u hu => (List.all_eq_true.1 h1) u hu) (hs.pick p) hrd (by simpa using h63) (by simpa using hby) ?_
  intro v' w' hS hv'
  obtain ⟨b', n', c', rfl⟩ := hv' hne
  exact hK b' n' c' w' (hS.pick (pick_there p2)).drop
/-- The same, its bounds made plain. -/
theorem wl_app (e : TypeId) (sz by' : Nat) (hb : appB P ty e sz by' = true) (hs : Sat w0 w L) (hv : a.eval s = v) (hy : a.eval y = .slice (some ⟨b, 0, none⟩) n c) {R2 : List HProp} (p : Pick (osl e sz v xs) L R) (p2 : Pick (pt b (.cells cs T (0,0))) R R2)
    (hn : cs.size = n * sz) (h0 : 1 ≤ n) (h1 : cs.toList.all (·.oneCell') = true) (h63 : xs.length ≤ 2147483648) (h64 : cs.size ≤ 65536) (hby : by' ≤ 65000) (hys : cs.toList = ys)
    (hK : ∀ b' n' c' w', Sat w0 w' (osl e sz (.slice (some ⟨b', 0, none⟩) n' c') (xs ++ ys) :: R2) → wpList P ops Q rest (a.put dst (.slice (some ⟨b', 0, none⟩) n' c')) w') :
    wpList P ops Q (⟨dst, .call { callee := .builtin .append, args := #[s, y], argTypes := #[ty, ty] }, t, pos, after, none⟩ :: rest) a w := by
  subst hys
  refine wl_append e sz by' hb hs hv hy p p2 hn h0 h1 (by unfold maxLen; omega) ?_ hK
  calc (xs.length + cs.size) * by' ≤ (2147483648 + 65536) * 65000 := Nat.mul_le_mul (by omega) hby
    _ ≤ 140737488355328 := by decide
end
end
end Go.Proofs.YtjklhichekmdhaaDoor
/- The plain model of a log's calls, and what holds of every log. No walk here. -/
namespace Go.Seg
open Go.Med
set_option linter.unusedVariables false
structure Plc where
  seg : Int
  at_ : Int
  size : Int
def Plc.zero : Plc := ⟨0, 0, 0⟩
def mag : Bs := [72, 79, 65, 82, 68, 83, 69, 71]
def Log.grow (L : Log) (M : Med) (b : Bs) : (Log × Med) × Plc × Int :=
  match L.l.getLast? with
  | none => ((L, M), Plc.zero, 0)
  | some s =>
    if (M.append (name s.1) b).2 = 0 then (({ L with l := L.l.dropLast ++ [(s.1, s.2 + (b.length : Int))] }, (M.append (name s.1) b).1), ⟨s.1, s.2, b.length⟩, 0)
    else ((L, (M.append (name s.1) b).1), Plc.zero, (M.append (name s.1) b).2)
def Log.shut (L : Log) (M : Med) : (Log × Med) × Int :=
  match L.l.getLast? with
  | none => ((L, M), 0)
  | some s =>
    if L.on = true then
      if (M.sync (name s.1)).2 = 0 then (({ L with on := false }, (M.sync (name s.1)).1), 0)
      else ((L, (M.sync (name s.1)).1), (M.sync (name s.1)).2)
    else ((L, M), 0)
/-- begin, when nothing is open. -/
def Log.begin1 (L : Log) (M : Med) (b : Bs) : (Log × Med) × Plc × Int :=
  if 1048576 ≤ L.next then ((L, M), Plc.zero, 16)
  else if (M.create (name L.next)).2 ≠ 0 then ((L, (M.create (name L.next)).1), Plc.zero, (M.create (name L.next)).2)
  else if ((M.create (name L.next)).1.append (name L.next) (mag ++ b)).2 = 0 then
    (({ L with l := L.l ++ [(L.next, 8 + (b.length : Int))], on := true, fresh := L.fresh + 1 }, ((M.create (name L.next)).1.append (name L.next) (mag ++ b)).1), ⟨L.next, 8, b.length⟩, 0)
  else if ((M.create (name L.next)).1.append (name L.next) (mag ++ b)).2 = 11 then
    ((L, (((M.create (name L.next)).1.append (name L.next) (mag ++ b)).1.remove (name L.next)).1), Plc.zero,
      if (((M.create (name L.next)).1.append (name L.next) (mag ++ b)).1.remove (name L.next)).2 = 0 then 11 else (((M.create (name L.next)).1.append (name L.next) (mag ++ b)).1.remove (name L.next)).2)
  else ((L, ((M.create (name L.next)).1.append (name L.next) (mag ++ b)).1), Plc.zero, ((M.create (name L.next)).1.append (name L.next) (mag ++ b)).2)
def Log.begin (L : Log) (M : Med) (b : Bs) : (Log × Med) × Plc × Int :=
  if (L.shut M).2 = 0 then (L.shut M).1.1.begin1 (L.shut M).1.2 b else ((L.shut M).1, Plc.zero, (L.shut M).2)
/-- Is there room in the open segment? -/
def Log.fits (L : Log) (n : Nat) : Bool := L.on && decide ((L.l.getLast?.map (·.2)).getD 0 + n ≤ L.limit)
def Log.append (L : Log) (M : Med) (x : Frm.Ent) : (Log × Med) × Plc × Int :=
  if (Frm.encode x).2 ≠ 0 then ((L, M), Plc.zero, (Frm.encode x).2)
  else if L.fits (Frm.encode x).1.length = true then L.grow M (Frm.encode x).1 else L.begin M (Frm.encode x).1
def comEnt : Frm.Ent := ⟨2, Frm.zero32, []⟩
def Log.commit (L : Log) (M : Med) : (Log × Med) × Int × Int :=
  if (L.append M comEnt).2.2 ≠ 0 then ((L.append M comEnt).1, 0, (L.append M comEnt).2.2)
  else if ((L.append M comEnt).1.2.sync (name (L.append M comEnt).2.1.seg)).2 ≠ 0 then (((L.append M comEnt).1.1, ((L.append M comEnt).1.2.sync (name (L.append M comEnt).2.1.seg)).1), 0, ((L.append M comEnt).1.2.sync (name (L.append M comEnt).2.1.seg)).2)
  else if (((L.append M comEnt).1.2.sync (name (L.append M comEnt).2.1.seg)).1.syncDir).2 ≠ 0 then (((L.append M comEnt).1.1, (((L.append M comEnt).1.2.sync (name (L.append M comEnt).2.1.seg)).1.syncDir).1), 0, (((L.append M comEnt).1.2.sync (name (L.append M comEnt).2.1.seg)).1.syncDir).2)
  else (({ (L.append M comEnt).1.1 with on := false, fresh := 0 }, (((L.append M comEnt).1.2.sync (name (L.append M comEnt).2.1.seg)).1.syncDir).1), (L.append M comEnt).2.1.seg, 0)
/-- Where a segment stands. -/
def Log.at (L : Log) (n : Int) : Option Nat := L.l.findIdx? (fun s => s.1 == n)
def Log.find (L : Log) (n : Int) : Int := match L.at n with
  | some i => i
  | none => -1
/-- A log without its i-th segment. -/
def Log.without (L : Log) (i : Nat) : Log :=
  ⟨L.limit, L.l.eraseIdx i, if i + 1 = L.l.length then false else L.on, if (L.l.length : Int) - L.fresh ≤ i then L.fresh - 1 else L.fresh⟩
def Log.remove (L : Log) (M : Med) (n : Int) : (Log × Med) × Int :=
  match L.at n with
  | none => ((L, M), 9)
  | some i => if (M.remove (name n)).2 = 0 then ((L.without i, (M.remove (name n)).1), 0) else ((L, (M.remove (name n)).1), (M.remove (name n)).2)
def Log.size (L : Log) (n : Int) : Int := match L.at n with
  | none => 0
  | some i => (L.l.getD i (0, 0)).2
def Log.bytes (L : Log) (M : Med) (n : Int) : Bs × Int := match L.at n with
  | none => ([], 9)
  | some _ => M.all (name n)
/-- What holds of every log. -/
structure Log.Ok (L : Log) : Prop where
  limit : 128 ≤ L.limit ∧ L.limit ≤ 1048576
  rise : (L.l.map (·.1)).Pairwise (· < ·)
  nums : ∀ s ∈ L.l, 0 ≤ s.1 ∧ s.1 < 1048576
  sizes : ∀ s ∈ L.l, 0 ≤ s.2 ∧ s.2 ≤ 33554432
  fresh : 0 ≤ L.fresh ∧ L.fresh ≤ L.l.length
  on : L.on = true → L.l ≠ []
theorem rise_len : ∀ (l : List Int) (a : Int), l.Pairwise (· < ·) → (∀ x ∈ l, a ≤ x) → (∀ x ∈ l, x < 1048576) → a ≤ 1048576 → (l.length : Int) ≤ 1048576 - a
  | [], a, _, _, _, h => by simp; omega
  | x :: l, a, hp, h1, h2, h3 => by
    obtain ⟨hx, hp'⟩ := List.pairwise_cons.1 hp
    have e1 := h1 x (.head _)
    have e2 := h2 x (.head _)
    have := rise_len l (x + 1) hp' (fun y hy => by have := hx y hy; omega) (fun y hy => h2 y (.tail _ hy)) (by omega)
    rw [List.length_cons]; omega
theorem Log.Ok.len {L : Log} (h : L.Ok) : L.l.length ≤ 1048576 := by
  have := rise_len (L.l.map (·.1)) 0 h.rise (by intro x hx; obtain ⟨s, hs, rfl⟩ := List.mem_map.1 hx; exact (h.nums s hs).1) (by intro x hx; obtain ⟨s, hs, rfl⟩ := List.mem_map.1 hx; exact (h.nums s hs).2) (by omega)
  rw [List.length_map] at this
  omega
theorem Log.Ok.shut {L : Log} (h : L.Ok) (M : Med) : (L.shut M).1.1.Ok := by
  unfold Log.shut
  split; · exact h
  split
  · split
    · exact ⟨h.limit, h.rise, h.nums, h.sizes, h.fresh, fun hh => by cases hh⟩
    · exact h
  · exact h
theorem last_split {L : Log} {s : Int × Int} (h : L.l.getLast? = some s) : L.l = L.l.dropLast ++ [s] := by
  have hne : L.l ≠ [] := by intro e; rw [e] at h; cases h
  have h2 := List.dropLast_concat_getLast hne
  rw [List.getLast?_eq_some_getLast hne] at h
  cases h
  exact h2.symm
theorem last_len {L : Log} {s : Int × Int} (h : L.l.getLast? = some s) : L.l.length = L.l.dropLast.length + 1 := by
  have := congrArg List.length (last_split h)
  rw [List.length_append, List.length_singleton] at this
  exact this
theorem Log.Ok.next {L : Log} (h : L.Ok) : 0 ≤ L.next ∧ L.next ≤ 1048576 ∧ ∀ s ∈ L.l, s.1 < L.next := by
  unfold Log.next
  cases hl : L.l.getLast? with
  | none =>
    have := List.getLast?_eq_none_iff.1 hl
    simp [this]
  | some s =>
    have hs := h.nums s (List.mem_of_getLast? hl)
    refine ⟨by simp only; omega, by simp only; omega, ?_⟩
    have e := last_split hl
    have hr := h.rise
    rw [e, List.map_append, List.pairwise_append] at hr
    intro t ht
    rw [e] at ht
    rcases List.mem_append.1 ht with ht | ht
    · have := hr.2.2 t.1 (List.mem_map.2 ⟨t, ht, rfl⟩) s.1 (by simp)
      simp only; omega
    · rw [List.mem_singleton.1 ht]; simp only; omega
theorem Log.Ok.snoc {L : Log} (h : L.Ok) (hn : L.next < 1048576) (z : Nat) (hz : z ≤ 16777216) : ({ L with l := L.l ++ [(L.next, 8 + (z : Int))], on := true, fresh := L.fresh + 1 } : Log).Ok := by
  obtain ⟨n1, n2, n3⟩ := h.next
  have hf := h.fresh
  refine ⟨h.limit, ?_, ?_, ?_, ⟨by simp only; omega, by simp only [List.length_append, List.length_singleton]; omega⟩, fun _ => by simp⟩
  · simp only
    rw [List.map_append, List.pairwise_append]
    refine ⟨h.rise, by simp, ?_⟩
    intro a ha b hb
    obtain ⟨s, hs, rfl⟩ := List.mem_map.1 ha
    simp only [List.map_cons, List.map_nil, List.mem_singleton] at hb
    subst hb
    exact n3 s hs
  · intro s hs
    rcases List.mem_append.1 hs with hs | hs
    · exact h.nums s hs
    · rw [List.mem_singleton.1 hs]; exact ⟨n1, hn⟩
  · intro s hs
    rcases List.mem_append.1 hs with hs | hs
    · exact h.sizes s hs
    · rw [List.mem_singleton.1 hs]; exact ⟨by simp only; omega, by simp only; omega⟩
theorem Log.Ok.begin1 {L : Log} (h : L.Ok) (M : Med) (b : Bs) (hb : b.length ≤ 16777216) : (L.begin1 M b).1.1.Ok := by
  unfold Log.begin1
  split; · exact h
  rename_i hn
  split; · exact h
  split; · exact h.snoc (by omega) _ hb
  split; · exact h
  exact h
theorem Log.Ok.begin {L : Log} (h : L.Ok) (M : Med) (b : Bs) (hb : b.length ≤ 16777216) : (L.begin M b).1.1.Ok := by
  unfold Log.begin
  split
  · exact (h.shut M).begin1 _ _ hb
  · exact h.shut M
theorem Log.Ok.grow {L : Log} (h : L.Ok) (M : Med) (b : Bs) (hf : L.fits b.length = true) : (L.grow M b).1.1.Ok := by
  unfold Log.grow
  split; · exact h
  rename_i s hl
  split
  · have e := last_split hl
    have hr := h.rise
    have hlen : L.l.length = L.l.dropLast.length + 1 := last_len hl
    unfold Log.fits at hf
    rw [Bool.and_eq_true, decide_eq_true_eq, hl] at hf
    have hlim := h.limit
    refine ⟨h.limit, ?_, ?_, ?_, ?_, fun _ => by simp⟩
    · rw [e] at hr; simpa using hr
    · intro t ht
      rcases List.mem_append.1 ht with ht | ht
      · exact h.nums t (by rw [e]; exact List.mem_append_left _ ht)
      · rw [List.mem_singleton.1 ht]
        exact h.nums s (List.mem_of_getLast? hl)
    · intro t ht
      rcases List.mem_append.1 ht with ht | ht
      · exact h.sizes t (by rw [e]; exact List.mem_append_left _ ht)
      · rw [List.mem_singleton.1 ht]
        have := h.sizes s (List.mem_of_getLast? hl)
        have h2 : s.2 + (b.length : Int) ≤ L.limit := hf.2
        simp only; omega
    · have := h.fresh
      simp only [List.length_append, List.length_singleton]
      omega
  · exact h
theorem encode_len (x : Frm.Ent) (hk : x.key.length = 32) : (Frm.encode x).1.length ≤ 16425 := by
  unfold Frm.encode
  split; · simp
  rename_i hc
  have hd : x.data.length ≤ 16384 := by
    unfold Frm.check at hc
    repeat' split at hc
    all_goals first | omega | simp at hc
  unfold Frm.body
  simp only [List.length_append, Frm.le_len, List.length_singleton]
  split
  · simp; omega
  · omega
theorem Log.Ok.append {L : Log} (h : L.Ok) (M : Med) (x : Frm.Ent) (hk : x.key.length = 32) : (L.append M x).1.1.Ok := by
  have hl := encode_len x hk
  unfold Log.append
  split; · exact h
  split
  · rename_i hf; exact h.grow M _ hf
  · exact h.begin M _ (by omega)
theorem Log.Ok.commit {L : Log} (h : L.Ok) (M : Med) : (L.commit M).1.1.Ok := by
  have h1 := h.append M comEnt rfl
  unfold Log.commit
  split; · exact h1
  split; · exact h1
  split; · exact h1
  exact ⟨h1.limit, h1.rise, h1.nums, h1.sizes, ⟨Int.le_refl _, by simp⟩, fun hh => by cases hh⟩
theorem Log.Ok.without {L : Log} (h : L.Ok) (i : Nat) (hi : i < L.l.length) : (L.without i).Ok := by
  have hsub : (L.l.eraseIdx i).Sublist L.l := List.eraseIdx_sublist _ _
  have hlen : (L.l.eraseIdx i).length = L.l.length - 1 := List.length_eraseIdx_of_lt hi
  have hf := h.fresh
  refine ⟨h.limit, h.rise.sublist (hsub.map _), fun s hs => h.nums s (hsub.mem hs), fun s hs => h.sizes s (hsub.mem hs), ?_, ?_⟩
  · unfold Log.without
    simp only [hlen]
    split <;> omega
  · unfold Log.without
    simp only
    split
    · intro hh; cases hh
    · intro _ e
      have := congrArg List.length e
      rw [hlen] at this
      simp at this
      omega
theorem Log.at_lt {L : Log} {n : Int} {i : Nat} (h : L.at n = some i) : i < L.l.length ∧ ∃ s, L.l[i]? = some s ∧ s.1 = n := by
  unfold Log.at at h
  rw [List.findIdx?_eq_some_iff_getElem] at h
  obtain ⟨h1, h2, _⟩ := h
  exact ⟨h1, _, List.getElem?_eq_getElem h1, by simpa using h2⟩
theorem Log.Ok.remove {L : Log} (h : L.Ok) (M : Med) (n : Int) : (L.remove M n).1.1.Ok := by
  unfold Log.remove
  split; · exact h
  rename_i i hi
  split
  · exact h.without i (Log.at_lt hi).1
  · exact h
/-- The numbers rise, so the last one is found at the end. -/
theorem Log.Ok.at_last {L : Log} (h : L.Ok) {s : Int × Int} (hl : L.l.getLast? = some s) : L.at s.1 = some (L.l.length - 1) := by
  have e := last_split hl
  have hlen : L.l.length = L.l.dropLast.length + 1 := last_len hl
  have hr := h.rise
  rw [e, List.map_append, List.pairwise_append] at hr
  unfold Log.at
  rw [List.findIdx?_eq_some_iff_getElem]
  refine ⟨by omega, ?_, ?_⟩
  · have : L.l[L.l.length - 1]? = some s := by rw [← List.getLast?_eq_getElem?]; exact hl
    obtain ⟨h1, h2⟩ := List.getElem?_eq_some_iff.1 this
    rw [h2]; simp
  · intro j hj
    have hj' : j < L.l.dropLast.length := by omega
    have hx : L.l[j]'(by omega) = L.l.dropLast[j] := by rw [List.getElem_dropLast]
    have h3 : (L.l.dropLast[j]).1 < s.1 := hr.2.2 (L.l.dropLast[j]).1 (List.mem_map.2 ⟨_, List.getElem_mem hj', rfl⟩) s.1 (by simp)
    rw [hx]
    rw [Bool.not_eq_true, beq_eq_false_iff_ne]
    omega
/-- Rollback: k rounds at most. -/
def Log.back : Nat → Log → Med → (Log × Med) × Int
  | 0, L, M => (({ L with on := false }, M), 0)
  | k + 1, L, M =>
    match L.l.getLast? with
    | none => (({ L with on := false }, M), 0)
    | some s => if (L.remove M s.1).2 = 0 then Log.back k (L.remove M s.1).1.1 (L.remove M s.1).1.2 else L.remove M s.1
def Log.rollback (L : Log) (M : Med) : (Log × Med) × Int := L.back L.fresh.toNat M
theorem Log.Ok.shutOff {L : Log} (h : L.Ok) : ({ L with on := false } : Log).Ok := ⟨h.limit, h.rise, h.nums, h.sizes, h.fresh, fun hh => by cases hh⟩
theorem Log.Ok.back : ∀ (k : Nat) {L : Log} (M : Med), L.Ok → (L.back k M).1.1.Ok
  | 0, L, M, h => h.shutOff
  | k + 1, L, M, h => by
    unfold Log.back
    split; · exact h.shutOff
    split
    · exact Log.Ok.back k _ (h.remove M _)
    · exact h.remove M _
end Go.Seg
/- The last segment's cells; grow, shut. -/
namespace Go.Proofs.YtjklhichekmdhaaDoor
open Go Go.Sl Go.Med Go.MapKept Go.RowKit
set_option linter.unusedVariables false
def plcL (q : Seg.Plc) : List Value := [.int .i64 q.seg, .int .i64 q.at_, .int .i64 q.size]
abbrev plcA (q : Seg.Plc) : Value := .agg #[.int .i64 q.seg, .int .i64 q.at_, .int .i64 q.size]
theorem zPlace : zeroB Tryd.prog 40 = some (.agg #[.int .i64 0, .int .i64 0, .int .i64 0]) := by kernel_rfl
/-- A block that holds segments. -/
structure SegBlk (l : List (Int × Int)) (n cap : Nat) (cs : Array Value) : Prop where
  len : l.length = n + 1
  le : n + 1 ≤ cap
  size : cap * 2 ≤ cs.size
  max : cap ≤ maxLen
  take : cs.toList.take ((n + 1) * 2) = segw l
theorem segw_set (l : List (Int × Int)) (s : Int × Int) (z : Int) : (segw (l ++ [s])).set (l.length * 2 + 1) (.int .i64 z) = segw (l ++ [(s.1, z)]) := by
  rw [segw_app, segw_app]
  rw [List.set_append_right _ _ (by rw [segw_len]; omega), segw_len, show l.length * 2 + 1 - 2 * l.length = 1 by omega]
  rfl
theorem set_take {α : Type} (l : List α) (k i : Nat) (x : α) (h : i < k) : (l.set i x).take k = (l.take k).set i x := by
  rw [List.take_set]
section
variable {w0 w : World} {F R : List HProp} {v bv dv x lv : Value} {q p m K : Nat} {L : Seg.Log} {M : Med} {s : Int × Int}
theorem seg_block (hl : L.l.getLast? = some s) (h : Sat w0 w (LogRaw p m L lv ++ F)) :
    ∃ bk n cap cs, lv = .slice (some ⟨bk, 0, none⟩) (n + 1) cap ∧ SegBlk L.l n cap cs ∧ cs[n * 2]? = some (.int .i64 s.1) ∧ cs[n * 2 + 1]? = some (.int .i64 s.2) ∧
      Sat w0 w (logPt p m L (.slice (some ⟨bk, 0, none⟩) (n + 1) cap) :: pt bk (.cells cs 94 (0,0)) :: F) := by
  rw [List.getLast?_eq_getElem?] at hl
  have hlt := (List.getElem?_eq_some_iff.1 hl).1
  obtain ⟨n, hn⟩ : ∃ n, L.l.length = n + 1 := ⟨L.l.length - 1, by omega⟩
  rw [hn, Nat.add_sub_cancel] at hl
  obtain ⟨h1, h2⟩ := segw_at _ _ _ hl
  have hS : Sat w0 w (osl 94 2 lv (segw L.l) :: logPt p m L lv :: F) := h.pick1
  rcases hS.osl_cases with ⟨rfl, hx, _⟩ | ⟨b, n', cap, cs, rfl, hll, hn', hc, hcm, htk, hp⟩
  · rw [hx] at h1; simp at h1
  · rw [segw_len, hn] at hll
    obtain rfl : n' = n + 1 := by omega
    refine ⟨b, n, cap, cs, rfl, ⟨hn, hn', hc, hcm, htk⟩, ?_, ?_, hp.pick1⟩
    · rw [Nat.mul_comm]; exact take_get htk h1
    · rw [Nat.mul_comm]; exact take_get htk h2
theorem seg_keep {bk n cap : Nat} {cs : Array Value} (hb : SegBlk L.l n cap cs) (h : Sat w0 w (pt bk (.cells cs 94 (0,0)) :: R)) :
    Sat w0 w (osl 94 2 (.slice (some ⟨bk, 0, none⟩) (n + 1) cap) (segw L.l) :: R) :=
  Sat.osl_of_pt h (by rw [segw_len, hb.len]; omega) hb.le hb.size hb.max hb.take
theorem seg_close {bk n cap : Nat} {cs : Array Value} (hl : L.l.getLast? = some s) (hb : SegBlk L.l n cap cs) (z : Int)
    (h : Sat w0 w (pt bk (.cells (putsAt cs (n * 2 + 1) [.int .i64 z]) 94 (0,0)) :: R)) :
    Sat w0 w (osl 94 2 (.slice (some ⟨bk, 0, none⟩) (n + 1) cap) (segw (L.l.dropLast ++ [(s.1, z)])) :: R) := by
  have e := Seg.last_split hl
  have hlen := Seg.last_len hl
  have hn := hb.len
  refine Sat.osl_of_pt h ?_ hb.le ?_ hb.max ?_
  · rw [segw_len, List.length_append, List.length_singleton]; omega
  · rw [putsAt_size]; exact hb.size
  · simp only [putsAt, Array.toList_setIfInBounds]
    rw [set_take _ _ _ _ (by omega), hb.take, e, List.dropLast_append_cons, show n = L.l.dropLast.length by omega]
    simp only [List.dropLast_singleton, List.append_nil]
    exact segw_set _ _ _
set_option maxRecDepth 20000 in
set_option maxHeartbeats 4000000 in
theorem grow_c (hl : L.l.getLast? = some s) (hs : 0 ≤ s.2 ∧ s.2 ≤ 33554432) (hM : M.Ok K) (hKK : K ≤ 1099511627776) (hlen : L.l.length ≤ 1048576) (b : Bs) (hbl : b.length ≤ 1073741824) (hr : Ro w0 F (rdsl 1 bv (bys b)))
    (h : Sat w0 w (LogRep p m L :: MedRep m M :: F)) :
    Calls Tryd.prog 46 #[ptr p, bv] w (Rtn fun v w' => v = .tuple #[plcA (L.grow M b).2.1, errno (L.grow M b).2.2] ∧
      Sat w0 w' (LogRep p m (L.grow M b).1.1 :: MedRep m (L.grow M b).1.2 :: F)) := by
  obtain ⟨lv, hR⟩ := LogRep.open h
  clear h
  obtain ⟨bk, n, cap, cs, rfl, hb, c0, c1, hS⟩ := seg_block hl hR
  clear hR
  obtain ⟨ba, bn, bc, rfl, hbn⟩ := ro_len hr (A := emp) (Sat.emp.2 (hS.sel 3 [] rfl rfl))
  subst hbn
  have Hg := Lib.hid (show L.grow M b = if (M.append (Seg.name s.1) b).2 = 0 then (({ L with l := L.l.dropLast ++ [(s.1, s.2 + (b.length : Int))] }, (M.append (Seg.name s.1) b).1), ⟨s.1, s.2, b.length⟩, 0)
    else ((L, (M.append (Seg.name s.1) b).1), Seg.Plc.zero, (M.append (Seg.name s.1) b).2) by unfold Seg.Log.grow; rw [hl])
  have hn := hb.len
  have Hb := Lib.hid hb; have Hr := Lib.hid hr; have Hl := Lib.hid hl; have Hs := Lib.hid hs; have Hc0 := Lib.hid c0; have Hc1 := Lib.hid c1; have Hbl := Lib.hid hbl
  have hn0 : (n : Int) < (n : Int) + 1 := by omega
  have hwn : IntKind.i64.wrap (n : Int) = (n : Int) := by rw [IntKind.wrap_i64]; omega
  have hwz : IntKind.i64.wrap (s.2 + (b.length : Int)) = s.2 + (b.length : Int) := by rw [IntKind.wrap_i64]; omega
  have Hwz := Lib.hid hwz
  clear hn hb hr hl hs c0 c1 hbl hlen hwz
  go_enter Tryd.func46, Tryd.ntmps46
  go_wp2_with (refine wl_alloc zPlace (by assumption) rfl ?_; intro q w1 hS1)
  refine wpL_begin [10, 11] (fun w' => w'.cell? ⟨p, 2, none⟩ = some (.slice (some ⟨bk, 0, none⟩) (n + 1) cap)) (by kernel_rfl) ?_
  have hG : w1.drew.cell? ⟨p, 2, none⟩ = some (.slice (some ⟨bk, 0, none⟩) (n + 1) cap) := hS1.drew.cellP (by first | ((repeat (first | with_reducible apply pick0 | with_reducible apply pick_there)); done) | ((repeat (first | apply pick0 | apply pick_there)); done) | fail) 2 rfl
  refine rg_pure 0 (by conv => lhs; whnf) (by kernel_rfl) (by intro _ _ _ h; exact h) (yl_move (by conv => lhs; whnf)) (by go_frame; first | done | rfl) ?_
  refine rg_pure 1 (by conv => lhs; whnf) (by kernel_rfl) (by intro _ _ _ h; exact h) (yl_nil (by conv => lhs; whnf)) (by go_frame; first | done | rfl) ?_
  refine rg_pure 2 (by conv => lhs; whnf) (by kernel_rfl) (by intro _ _ _ h; exact h) (yl_field (by conv => lhs; whnf) (by ((intro wq; go_simp); first | done | (with_reducible rfl)))) (by go_frame; first | done | rfl) ?_
  refine rg_take 3 (by conv => lhs; whnf) (by kernel_rfl) (by intro _ _ _ h; exact h) (by first | exact tk_load (by conv => lhs; whnf) (by kernel_rfl) (by intro wq hq; first | exact hq | exact hq.1 | exact hq.2 | exact hq.2.1 | exact hq.2.2 | exact hq.2.2.1 | exact hq.2.2.2 | exact hq.2.2.2.1 | exact hq.2.2.2.2) | (refine Or.inl ⟨by rfl, ?_⟩; (intro wq hq; go_split_ands; go_simp); first | done | (with_reducible rfl))) (by assumption) (by go_frame; first | done | rfl) ?_
  refine rg_pure 4 (by conv => lhs; whnf) (by kernel_rfl) (by intro _ _ _ h; exact h) (yl_move (by conv => lhs; whnf)) (by go_frame; first | done | rfl) ?_
  refine rg_pure 5 (by conv => lhs; whnf) (by kernel_rfl) (by intro _ _ _ h; exact h) (yl_nil (by conv => lhs; whnf)) (by go_frame; first | done | rfl) ?_
  refine rg_pure 6 (by conv => lhs; whnf) (by kernel_rfl) (by intro _ _ _ h; exact h) (yl_field (by conv => lhs; whnf) (by ((intro wq; go_simp); first | done | (with_reducible rfl)))) (by go_frame; first | done | rfl) ?_
  refine rg_take 7 (by conv => lhs; whnf) (by kernel_rfl) (by intro _ _ _ h; exact h) (by first | exact tk_load (by conv => lhs; whnf) (by kernel_rfl) (by intro wq hq; first | exact hq | exact hq.1 | exact hq.2 | exact hq.2.1 | exact hq.2.2 | exact hq.2.2.1 | exact hq.2.2.2 | exact hq.2.2.2.1 | exact hq.2.2.2.2) | (refine Or.inl ⟨by rfl, ?_⟩; (intro wq hq; go_split_ands; go_simp); first | done | (with_reducible rfl))) (by assumption) (by go_frame; first | done | rfl) ?_
  refine rg_pure 8 (by conv => lhs; whnf) (by kernel_rfl) (by intro _ _ _ h; exact h) (yl_len (by conv => lhs; whnf) (by ((intro wq; go_simp); first | done | (with_reducible rfl)))) (by go_frame; first | done | rfl) ?_
  refine rg_pure 9 (by conv => lhs; whnf) (by kernel_rfl) (by intro _ _ _ h; exact h) (yl_bin (by conv => lhs; whnf) (by conv => lhs; whnf) (by ((intro wq; go_simp); first | done | (with_reducible rfl)))) (by go_frame; first | done | rfl) ?_
  refine rg_pure 10 (by conv => lhs; whnf) (by kernel_rfl) (by intro _ _ _ h; exact h) (yl_index (by conv => lhs; whnf) (by conv => lhs; whnf) (by ((intro wq; go_simp); first | done | (with_reducible rfl)))) (by go_frame; first | done | rfl) ?_
  refine rg_pure 11 (by conv => lhs; whnf) (by kernel_rfl) (by intro _ _ _ h; exact h) (yl_assign (by conv => lhs; whnf)) (by go_frame; first | done | rfl) ?_
  refine wpL_done (by kernel_rfl) ?_
  clear hG
  have hS2 := hS1.drew
  generalize w1.drew = w2 at *
  clear hS1 hS
  go_wp2_with fail
  refine wpL_begin [10, 11] (fun w' => w'.cell? ⟨p, 0, none⟩ = some (ptr m) ∧ w'.cell? ⟨bk, n * 2, none⟩ = some (.int .i64 s.1)) (by kernel_rfl) ?_
  have hG : w2.drew.cell? ⟨p, 0, none⟩ = some (ptr m) ∧ w2.drew.cell? ⟨bk, n * 2, none⟩ = some (.int .i64 s.1) := ⟨hS2.drew.cellP (by first | ((repeat (first | with_reducible apply pick0 | with_reducible apply pick_there)); done) | ((repeat (first | apply pick0 | apply pick_there)); done) | fail) 0 rfl, hS2.drew.cellP (by first | ((repeat (first | with_reducible apply pick0 | with_reducible apply pick_there)); done) | ((repeat (first | apply pick0 | apply pick_there)); done) | fail) _ Hc0.out⟩
  refine rg_pure 0 (by conv => lhs; whnf) (by kernel_rfl) (by intro _ _ _ h; exact h) (yl_move (by conv => lhs; whnf)) (by go_frame; first | done | rfl) ?_
  refine rg_pure 1 (by conv => lhs; whnf) (by kernel_rfl) (by intro _ _ _ h; exact h) (yl_nil (by conv => lhs; whnf)) (by go_frame; first | done | rfl) ?_
  refine rg_pure 2 (by conv => lhs; whnf) (by kernel_rfl) (by intro _ _ _ h; exact h) (yl_field (by conv => lhs; whnf) (by ((intro wq; go_simp); first | done | (with_reducible rfl)))) (by go_frame; first | done | rfl) ?_
  refine rg_take 3 (by conv => lhs; whnf) (by kernel_rfl) (by intro _ _ _ h; exact h) (by first | exact tk_load (by conv => lhs; whnf) (by kernel_rfl) (by intro wq hq; first | exact hq | exact hq.1 | exact hq.2 | exact hq.2.1 | exact hq.2.2 | exact hq.2.2.1 | exact hq.2.2.2 | exact hq.2.2.2.1 | exact hq.2.2.2.2) | (refine Or.inl ⟨by rfl, ?_⟩; (intro wq hq; go_split_ands; go_simp); first | done | (with_reducible rfl))) (by assumption) (by go_frame; first | done | rfl) ?_
  refine rg_pure 4 (by conv => lhs; whnf) (by kernel_rfl) (by intro _ _ _ h; exact h) (yl_move (by conv => lhs; whnf)) (by go_frame; first | done | rfl) ?_
  refine rg_pure 5 (by conv => lhs; whnf) (by kernel_rfl) (by intro _ _ _ h; exact h) (yl_nil (by conv => lhs; whnf)) (by go_frame; first | done | rfl) ?_
  refine rg_pure 6 (by conv => lhs; whnf) (by kernel_rfl) (by intro _ _ _ h; exact h) (yl_field (by conv => lhs; whnf) (by ((intro wq; go_simp); first | done | (with_reducible rfl)))) (by go_frame; first | done | rfl) ?_
  refine rg_take 7 (by conv => lhs; whnf) (by kernel_rfl) (by intro _ _ _ h; exact h) (by first | exact tk_load (by conv => lhs; whnf) (by kernel_rfl) (by intro wq hq; first | exact hq | exact hq.1 | exact hq.2 | exact hq.2.1 | exact hq.2.2 | exact hq.2.2.1 | exact hq.2.2.2 | exact hq.2.2.2.1 | exact hq.2.2.2.2) | (refine Or.inl ⟨by rfl, ?_⟩; (intro wq hq; go_split_ands; go_simp); first | done | (with_reducible rfl))) (by assumption) (by go_frame; first | done | rfl) ?_
  refine rg_pure 9 (by conv => lhs; whnf) (by kernel_rfl) (by intro _ _ _ h; exact h) (yl_move (by conv => lhs; whnf)) (by go_frame; first | done | rfl) ?_
  refine rg_eff 8 (by conv => lhs; whnf) (by kernel_rfl) (fun K hK => ?_)
  clear hG
  (refine eff_call1 (by kernel_rfl) (by conv => lhs; whnf) ?_)
  refine (sname_c s.1 hS2.drew).mono ?_
  rintro e w3 ⟨v, rfl, rfl, hS3⟩
  refine hK _ _ (.inr (.inl ⟨hS3.cellP (by first | ((repeat (first | with_reducible apply pick0 | with_reducible apply pick_there)); done) | ((repeat (first | apply pick0 | apply pick_there)); done) | fail) 0 rfl, hS3.cellP (by first | ((repeat (first | with_reducible apply pick0 | with_reducible apply pick_there)); done) | ((repeat (first | apply pick0 | apply pick_there)); done) | fail) _ Hc0.out⟩)) ?_
  clear hK K
  refine rg_eff 10 (by conv => lhs; whnf) (by kernel_rfl) (fun K hK => ?_)
  (refine eff_call3 (by kernel_rfl) (by conv => lhs; whnf) (by conv => lhs; whnf) (by conv => lhs; whnf) ?_)
  refine (append_c hM hKK (Sat.pick (by assumption) (by first | ((repeat (first | with_reducible apply pick0 | with_reducible apply pick_there)); done) | ((repeat (first | apply pick0 | apply pick_there)); done) | fail)) _ b (by first | assumption | exact Ro.of_pick (Ro.bsl _ _) (by first | ((repeat (first | with_reducible apply pick0 | with_reducible apply pick_there)); done) | ((repeat (first | apply pick0 | apply pick_there)); done) | fail) | exact Ro.of_sub (by assumption) (by repeat (first | (with_reducible apply sub_refl) | ((with_reducible apply sub_take); (· first | ((repeat (first | with_reducible apply pick0 | with_reducible apply pick_there)); done) | ((repeat (first | apply pick0 | apply pick_there)); done) | fail)) | (with_reducible apply sub_drop))))).mono ?_
  rintro e w4 ⟨v, rfl, rfl, hS4⟩
  refine hK _ _ (.inl rfl) ?_
  clear hK K
  refine rg_pure 11 (by conv => lhs; whnf) (by kernel_rfl) (by intro _ _ _ h; exact h) (yl_assign (by conv => lhs; whnf)) (by go_frame; first | done | rfl) ?_
  refine wpL_done (by kernel_rfl) ?_
  clear hS3 hS2 Hr
  generalize M.append (Seg.name s.1) b = r at *
  obtain ⟨M2, ee⟩ := r
  by_cases he : ee = 0
  · subst he
    have hfin := Lib.hid (Hg.out.trans (if_pos rfl))
    have e1 : w4.cell? ⟨bk, n * 2 + 1, none⟩ = some (.int .i64 s.2) := hS4.cellP (by first | ((repeat (first | with_reducible apply pick0 | with_reducible apply pick_there)); done) | ((repeat (first | apply pick0 | apply pick_there)); done) | fail) _ Hc1.out
    have hfit := Hb.out.size; have hle := Hb.out.le
    have hst := Lib.hid (show n * 2 + 1 + (Value.int .i64 (s.2 + (b.length : Int))).cells.size ≤ cs.size by show n * 2 + 1 + 1 ≤ cs.size; omega)
    have hwz := Hwz.out
    clear hfit hle
    go_wp2_with (refine wpList_stop (by rfl) ?_)
    refine ⟨?_⟩
    refine wl_store (b := bk) (o := n * 2 + 1) (v := .int .i64 (s.2 + (b.length : Int))) (by assumption) (by rfl) (by rfl) rfl (by first | ((repeat (first | with_reducible apply upd0 | with_reducible apply upd_there)); done) | ((repeat (first | apply upd0 | apply upd_there)); done) | fail) hst.out (by kernel_rfl) (by rfl) ?_
    intro w5 hS5
    have e0 : w5.cell? ⟨bk, n * 2, none⟩ = some (.int .i64 s.1) := hS5.cellP (by first | ((repeat (first | with_reducible apply pick0 | with_reducible apply pick_there)); done) | ((repeat (first | apply pick0 | apply pick_there)); done) | fail) _ (by
      show (cs.setIfInBounds (n * 2 + 1) _)[n * 2]? = _
      rw [Array.getElem?_setIfInBounds_ne (by omega)]; exact Hc0.out)
    clear e1 hst hwz
    go_wp2_with ((with_reducible apply at_store); refine ⟨?_⟩; refine wl_store (by assumption) (by rfl) (by conv => lhs; whnf) (by first | (simp only [putsAt, Value.cells]; (try go_frame); first | done | rfl) | rfl) (by first | ((repeat (first | with_reducible apply upd0 | with_reducible apply upd_there)); done) | ((repeat (first | apply upd0 | apply upd_there)); done) | fail) (Nat.le_of_ble_eq_true (by rfl)) (by kernel_rfl) (by rfl) ?_; intro wS hS)
    refine ⟨rfl, _, res_cell_tmp rfl (by assumption) (by rfl) (by first | ((repeat (first | with_reducible apply pick0 | with_reducible apply pick_there)); done) | ((repeat (first | apply pick0 | apply pick_there)); done) | fail) Tryd.underlying40 rfl (by kernel_rfl), _, rfl, ?_, ?_⟩
    · rw [hfin.out]; rfl
    · rw [hfin.out]
      have h6 := seg_close Hl.out Hb.out _ (Sat.pick hS (by first | ((repeat (first | with_reducible apply pick0 | with_reducible apply pick_there)); done) | ((repeat (first | apply pick0 | apply pick_there)); done) | fail))
      exact LogRep.shut2 (lv := .slice (some ⟨bk, 0, none⟩) (n + 1) cap) (Sat.sub h6 (by repeat (first | (with_reducible apply sub_refl) | ((with_reducible apply sub_take); (· first | ((repeat (first | with_reducible apply pick0 | with_reducible apply pick_there)); done) | ((repeat (first | apply pick0 | apply pick_there)); done) | fail)) | (with_reducible apply sub_drop))))
  · have heb : (ee == 0) = false := beq_false_of_ne he
    have hfin := Lib.hid (Hg.out.trans (if_neg he))
    clear he
    go_wp2_with ((with_reducible apply at_store); refine ⟨?_⟩; refine wl_store (by assumption) (by rfl) (by conv => lhs; whnf) (by first | (simp only [putsAt, Value.cells]; (try go_frame); first | done | rfl) | rfl) (by first | ((repeat (first | with_reducible apply upd0 | with_reducible apply upd_there)); done) | ((repeat (first | apply upd0 | apply upd_there)); done) | fail) (Nat.le_of_ble_eq_true (by rfl)) (by kernel_rfl) (by rfl) ?_; intro wS hS)
    refine ⟨rfl, _, res_cell_tmp rfl (by assumption) (by rfl) (by first | ((repeat (first | with_reducible apply pick0 | with_reducible apply pick_there)); done) | ((repeat (first | apply pick0 | apply pick_there)); done) | fail) Tryd.underlying40 rfl (by kernel_rfl), _, rfl, ?_, ?_⟩
    · rw [hfin.out]; rfl
    · rw [hfin.out]
      have h6 := seg_keep Hb.out (Sat.pick hS (by first | ((repeat (first | with_reducible apply pick0 | with_reducible apply pick_there)); done) | ((repeat (first | apply pick0 | apply pick_there)); done) | fail))
      exact LogRep.shut2 (lv := .slice (some ⟨bk, 0, none⟩) (n + 1) cap) (Sat.sub h6 (by repeat (first | (with_reducible apply sub_refl) | ((with_reducible apply sub_take); (· first | ((repeat (first | with_reducible apply pick0 | with_reducible apply pick_there)); done) | ((repeat (first | apply pick0 | apply pick_there)); done) | fail)) | (with_reducible apply sub_drop))))
end
end Go.Proofs.YtjklhichekmdhaaDoor
/- shut, begin of any log. -/
namespace Go.Seg
open Go.Med
theorem Log.shut_off {L : Log} (M : Med) (h : L.on = false) : L.shut M = ((L, M), 0) := by
  unfold Log.shut
  split
  · rfl
  · rw [if_neg (by rw [h]; decide)]
theorem Log.Ok.last {L : Log} (h : L.Ok) (hon : L.on = true) : ∃ s, L.l.getLast? = some s := by
  cases hl : L.l.getLast? with
  | none => exact absurd (List.getLast?_eq_none_iff.1 hl) (h.on hon)
  | some s => exact ⟨s, rfl⟩
theorem Log.shut_on {L : Log} (M : Med) {s : Int × Int} (hl : L.l.getLast? = some s) (h : L.on = true) :
    L.shut M = if (M.sync (name s.1)).2 = 0 then (({ L with on := false }, (M.sync (name s.1)).1), 0) else ((L, (M.sync (name s.1)).1), (M.sync (name s.1)).2) := by
  unfold Log.shut
  rw [hl]
  simp only [h, if_true]
end Go.Seg
namespace Go.Proofs.YtjklhichekmdhaaDoor
open Go Go.Sl Go.Med Go.MapKept Go.RowKit
set_option linter.unusedVariables false
section
variable {w0 w : World} {F R : List HProp} {v bv dv x lv : Value} {q p m K : Nat} {L : Seg.Log} {M : Med} {s : Int × Int}
set_option maxRecDepth 20000 in
set_option maxHeartbeats 4000000 in
theorem shut_c (hL : L.Ok) (hM : M.Ok K) (h : Sat w0 w (LogRep p m L :: MedRep m M :: F)) :
    Calls Tryd.prog 68 #[ptr p] w (Rtn fun v w' => v = errno (L.shut M).2 ∧ Sat w0 w' (LogRep p m (L.shut M).1.1 :: MedRep m (L.shut M).1.2 :: F)) := by
  cases hon : L.on
  · obtain ⟨lv, hR⟩ := LogRep.open h
    refine (shut0_c hon hR).mono ?_
    rintro e w1 ⟨v, rfl, rfl, rfl⟩
    rw [Seg.Log.shut_off M hon]
    exact ⟨_, rfl, rfl, h⟩
  · obtain ⟨s, hl⟩ := hL.last hon
    obtain ⟨lv, hR⟩ := LogRep.open h
    clear h
    have hlen := hL.len
    obtain ⟨bk, n, cap, cs, rfl, hb, c0, c1, hS⟩ := seg_block hl hR
    clear hR c1
    have hn := hb.len
    have Hg := Lib.hid (Seg.Log.shut_on M hl hon)
    have Hb := Lib.hid hb; have Hl := Lib.hid hl; have Hc0 := Lib.hid c0
    have hn0 : (n : Int) < (n : Int) + 1 := by omega
    have hwn : IntKind.i64.wrap (n : Int) = (n : Int) := by rw [IntKind.wrap_i64]; omega
    have e3 : w.cell? ⟨p, 3, none⟩ = some (.bool true) := hS.cellP (by first | ((repeat (first | with_reducible apply pick0 | with_reducible apply pick_there)); done) | ((repeat (first | apply pick0 | apply pick_there)); done) | fail) 3 (by rw [← hon]; rfl)
    clear hn hb hl c0 hlen hon
    go_enter Tryd.func68, Tryd.ntmps68
    go_wp2_with fail
    refine wpL_begin [18, 19] (fun w' => w'.cell? ⟨p, 0, none⟩ = some (ptr m) ∧ w'.cell? ⟨p, 2, none⟩ = some (.slice (some ⟨bk, 0, none⟩) (n + 1) cap) ∧ w'.cell? ⟨bk, n * 2, none⟩ = some (.int .i64 s.1)) (by kernel_rfl) ?_
    have hG : w.drew.cell? ⟨p, 0, none⟩ = some (ptr m) ∧ w.drew.cell? ⟨p, 2, none⟩ = some (.slice (some ⟨bk, 0, none⟩) (n + 1) cap) ∧ w.drew.cell? ⟨bk, n * 2, none⟩ = some (.int .i64 s.1) := ⟨hS.drew.cellP (by first | ((repeat (first | with_reducible apply pick0 | with_reducible apply pick_there)); done) | ((repeat (first | apply pick0 | apply pick_there)); done) | fail) 0 rfl, hS.drew.cellP (by first | ((repeat (first | with_reducible apply pick0 | with_reducible apply pick_there)); done) | ((repeat (first | apply pick0 | apply pick_there)); done) | fail) 2 rfl, hS.drew.cellP (by first | ((repeat (first | with_reducible apply pick0 | with_reducible apply pick_there)); done) | ((repeat (first | apply pick0 | apply pick_there)); done) | fail) _ Hc0.out⟩
    refine rg_pure 0 (by conv => lhs; whnf) (by kernel_rfl) (by intro _ _ _ h; exact h) (yl_move (by conv => lhs; whnf)) (by go_frame; first | done | rfl) ?_
    refine rg_pure 1 (by conv => lhs; whnf) (by kernel_rfl) (by intro _ _ _ h; exact h) (yl_nil (by conv => lhs; whnf)) (by go_frame; first | done | rfl) ?_
    refine rg_pure 2 (by conv => lhs; whnf) (by kernel_rfl) (by intro _ _ _ h; exact h) (yl_field (by conv => lhs; whnf) (by ((intro wq; go_simp); first | done | (with_reducible rfl)))) (by go_frame; first | done | rfl) ?_
    refine rg_take 3 (by conv => lhs; whnf) (by kernel_rfl) (by intro _ _ _ h; exact h) (by first | exact tk_load (by conv => lhs; whnf) (by kernel_rfl) (by intro wq hq; first | exact hq | exact hq.1 | exact hq.2 | exact hq.2.1 | exact hq.2.2 | exact hq.2.2.1 | exact hq.2.2.2 | exact hq.2.2.2.1 | exact hq.2.2.2.2) | (refine Or.inl ⟨by rfl, ?_⟩; (intro wq hq; go_split_ands; go_simp); first | done | (with_reducible rfl))) (by assumption) (by go_frame; first | done | rfl) ?_
    refine rg_pure 4 (by conv => lhs; whnf) (by kernel_rfl) (by intro _ _ _ h; exact h) (yl_move (by conv => lhs; whnf)) (by go_frame; first | done | rfl) ?_
    refine rg_pure 5 (by conv => lhs; whnf) (by kernel_rfl) (by intro _ _ _ h; exact h) (yl_nil (by conv => lhs; whnf)) (by go_frame; first | done | rfl) ?_
    refine rg_pure 6 (by conv => lhs; whnf) (by kernel_rfl) (by intro _ _ _ h; exact h) (yl_field (by conv => lhs; whnf) (by ((intro wq; go_simp); first | done | (with_reducible rfl)))) (by go_frame; first | done | rfl) ?_
    refine rg_take 7 (by conv => lhs; whnf) (by kernel_rfl) (by intro _ _ _ h; exact h) (by first | exact tk_load (by conv => lhs; whnf) (by kernel_rfl) (by intro wq hq; first | exact hq | exact hq.1 | exact hq.2 | exact hq.2.1 | exact hq.2.2 | exact hq.2.2.1 | exact hq.2.2.2 | exact hq.2.2.2.1 | exact hq.2.2.2.2) | (refine Or.inl ⟨by rfl, ?_⟩; (intro wq hq; go_split_ands; go_simp); first | done | (with_reducible rfl))) (by assumption) (by go_frame; first | done | rfl) ?_
    refine rg_pure 8 (by conv => lhs; whnf) (by kernel_rfl) (by intro _ _ _ h; exact h) (yl_move (by conv => lhs; whnf)) (by go_frame; first | done | rfl) ?_
    refine rg_pure 9 (by conv => lhs; whnf) (by kernel_rfl) (by intro _ _ _ h; exact h) (yl_nil (by conv => lhs; whnf)) (by go_frame; first | done | rfl) ?_
    refine rg_pure 10 (by conv => lhs; whnf) (by kernel_rfl) (by intro _ _ _ h; exact h) (yl_field (by conv => lhs; whnf) (by ((intro wq; go_simp); first | done | (with_reducible rfl)))) (by go_frame; first | done | rfl) ?_
    refine rg_take 11 (by conv => lhs; whnf) (by kernel_rfl) (by intro _ _ _ h; exact h) (by first | exact tk_load (by conv => lhs; whnf) (by kernel_rfl) (by intro wq hq; first | exact hq | exact hq.1 | exact hq.2 | exact hq.2.1 | exact hq.2.2 | exact hq.2.2.1 | exact hq.2.2.2 | exact hq.2.2.2.1 | exact hq.2.2.2.2) | (refine Or.inl ⟨by rfl, ?_⟩; (intro wq hq; go_split_ands; go_simp); first | done | (with_reducible rfl))) (by assumption) (by go_frame; first | done | rfl) ?_
    refine rg_pure 12 (by conv => lhs; whnf) (by kernel_rfl) (by intro _ _ _ h; exact h) (yl_len (by conv => lhs; whnf) (by ((intro wq; go_simp); first | done | (with_reducible rfl)))) (by go_frame; first | done | rfl) ?_
    refine rg_pure 13 (by conv => lhs; whnf) (by kernel_rfl) (by intro _ _ _ h; exact h) (yl_bin (by conv => lhs; whnf) (by conv => lhs; whnf) (by ((intro wq; go_simp); first | done | (with_reducible rfl)))) (by go_frame; first | done | rfl) ?_
    refine rg_pure 14 (by conv => lhs; whnf) (by kernel_rfl) (by intro _ _ _ h; exact h) (yl_index (by conv => lhs; whnf) (by conv => lhs; whnf) (by ((intro wq; go_simp); first | done | (with_reducible rfl)))) (by go_frame; first | done | rfl) ?_
    refine rg_pure 15 (by conv => lhs; whnf) (by kernel_rfl) (by intro _ _ _ h; exact h) (yl_field (by conv => lhs; whnf) (by ((intro wq; go_simp); first | done | (with_reducible rfl)))) (by go_frame; first | done | rfl) ?_
    refine rg_take 16 (by conv => lhs; whnf) (by kernel_rfl) (by intro _ _ _ h; exact h) (by first | exact tk_load (by conv => lhs; whnf) (by kernel_rfl) (by intro wq hq; first | exact hq | exact hq.1 | exact hq.2 | exact hq.2.1 | exact hq.2.2 | exact hq.2.2.1 | exact hq.2.2.2 | exact hq.2.2.2.1 | exact hq.2.2.2.2) | (refine Or.inl ⟨by rfl, ?_⟩; (intro wq hq; go_split_ands; go_simp); first | done | (with_reducible rfl))) (by assumption) (by go_frame; first | done | rfl) ?_
    clear hG e3
    refine rg_eff 17 (by conv => lhs; whnf) (by kernel_rfl) (fun K hK => ?_)
    (refine eff_call1 (by kernel_rfl) (by conv => lhs; whnf) ?_)
    refine (sname_c s.1 hS.drew).mono ?_
    rintro e w3 ⟨v, rfl, rfl, hS3⟩
    refine hK _ _ (.inr (.inl ⟨hS3.cellP (by first | ((repeat (first | with_reducible apply pick0 | with_reducible apply pick_there)); done) | ((repeat (first | apply pick0 | apply pick_there)); done) | fail) 0 rfl, hS3.cellP (by first | ((repeat (first | with_reducible apply pick0 | with_reducible apply pick_there)); done) | ((repeat (first | apply pick0 | apply pick_there)); done) | fail) 2 rfl, hS3.cellP (by first | ((repeat (first | with_reducible apply pick0 | with_reducible apply pick_there)); done) | ((repeat (first | apply pick0 | apply pick_there)); done) | fail) _ Hc0.out⟩)) ?_
    clear hK K
    refine rg_eff 18 (by conv => lhs; whnf) (by kernel_rfl) (fun K hK => ?_)
    (refine eff_call2 (by kernel_rfl) (by conv => lhs; whnf) (by conv => lhs; whnf) ?_)
    refine (sync_c hM (Sat.pick (by assumption) (by first | ((repeat (first | with_reducible apply pick0 | with_reducible apply pick_there)); done) | ((repeat (first | apply pick0 | apply pick_there)); done) | fail)) _).mono ?_
    rintro e w4 ⟨v, rfl, rfl, hS4⟩
    refine hK _ _ (.inl rfl) ?_
    clear hK K
    refine rg_pure 19 (by conv => lhs; whnf) (by kernel_rfl) (by intro _ _ _ h; exact h) (yl_assign (by conv => lhs; whnf)) (by go_frame; first | done | rfl) ?_
    refine wpL_done (by kernel_rfl) ?_
    clear hS3 hS
    generalize M.sync (Seg.name s.1) = r at *
    obtain ⟨M2, ee⟩ := r
    by_cases he : ee = 0
    · subst he
      have hfin := Lib.hid (Hg.out.trans (if_pos rfl))
      go_wp2_with ((with_reducible apply at_store); refine ⟨?_⟩; refine wl_store (by assumption) (by rfl) (by conv => lhs; whnf) (by first | (simp only [putsAt, Value.cells]; (try go_frame); first | done | rfl) | rfl) (by first | ((repeat (first | with_reducible apply upd0 | with_reducible apply upd_there)); done) | ((repeat (first | apply upd0 | apply upd_there)); done) | fail) (Nat.le_of_ble_eq_true (by rfl)) (by kernel_rfl) (by rfl) ?_; intro wS hS)
      go_ret
      refine ⟨errno 0, rfl, by rw [hfin.out], ?_⟩
      rw [hfin.out]
      have h6 := seg_keep Hb.out (Sat.pick hS (by first | ((repeat (first | with_reducible apply pick0 | with_reducible apply pick_there)); done) | ((repeat (first | apply pick0 | apply pick_there)); done) | fail))
      exact LogRep.shut2 (lv := .slice (some ⟨bk, 0, none⟩) (n + 1) cap) (Sat.sub h6 (by repeat (first | (with_reducible apply sub_refl) | ((with_reducible apply sub_take); (· first | ((repeat (first | with_reducible apply pick0 | with_reducible apply pick_there)); done) | ((repeat (first | apply pick0 | apply pick_there)); done) | fail)) | (with_reducible apply sub_drop))))
    · have heb : (ee == 0) = false := beq_false_of_ne he
      have hfin := Lib.hid (Hg.out.trans (if_neg he))
      clear he
      go_wp2_with ((with_reducible apply at_store); refine ⟨?_⟩; refine wl_store (by assumption) (by rfl) (by conv => lhs; whnf) (by first | (simp only [putsAt, Value.cells]; (try go_frame); first | done | rfl) | rfl) (by first | ((repeat (first | with_reducible apply upd0 | with_reducible apply upd_there)); done) | ((repeat (first | apply upd0 | apply upd_there)); done) | fail) (Nat.le_of_ble_eq_true (by rfl)) (by kernel_rfl) (by rfl) ?_; intro wS hS)
      go_ret
      refine ⟨errno ee, rfl, by rw [hfin.out], ?_⟩
      rw [hfin.out]
      have h6 := seg_keep Hb.out (Sat.pick hS4 (by first | ((repeat (first | with_reducible apply pick0 | with_reducible apply pick_there)); done) | ((repeat (first | apply pick0 | apply pick_there)); done) | fail))
      exact LogRep.shut2 (lv := .slice (some ⟨bk, 0, none⟩) (n + 1) cap) (Sat.sub h6 (by repeat (first | (with_reducible apply sub_refl) | ((with_reducible apply sub_take); (· first | ((repeat (first | with_reducible apply pick0 | with_reducible apply pick_there)); done) | ((repeat (first | apply pick0 | apply pick_there)); done) | fail)) | (with_reducible apply sub_drop))))
end
end Go.Proofs.YtjklhichekmdhaaDoor
/- begin of any log. -/
namespace Go.Seg
open Go.Med
theorem Log.shut_med {L : Log} {M : Med} {K : Nat} (h : M.Ok K) : (L.shut M).1.2.Ok (K + 1) := by
  unfold Log.shut
  split; · exact h.mono (Nat.le_succ K)
  split
  · split <;> exact h.sync _
  · exact h.mono (Nat.le_succ K)
theorem Log.begin_eq (L : Log) (M : Med) (b : Bs) : L.begin M b = if (L.shut M).2 = 0 then (L.shut M).1.1.begin1 (L.shut M).1.2 b else ((L.shut M).1, Plc.zero, (L.shut M).2) := rfl
theorem name_size (n : Int) : (name n).size ≤ 9223372036854775807 := by
  unfold name
  split
  · decide
  · show (lead ++ digs n.toNat 8).toArray.size ≤ _
    rw [List.size_toArray, List.length_append, digs_len]; decide
end Go.Seg
namespace Go.Proofs.YtjklhichekmdhaaDoor
open Go Go.Sl Go.Med Go.MapKept Go.RowKit
set_option linter.unusedVariables false
section
variable {w0 w : World} {F R : List HProp} {v bv dv x lv : Value} {q p m K : Nat} {L : Seg.Log} {M : Med} {s : Int × Int}
theorem lnext_c (hL : L.Ok) (h : Sat w0 w (LogRep p m L :: F)) :
    Calls Tryd.prog 69 #[ptr p] w (Rtn fun v w' => v = .int .i64 L.next ∧ Sat w0 w' (LogRep p m L :: F)) := by
  obtain ⟨lv, hR⟩ := LogRep.open h
  refine (snext_c hL.len hL.nums hR).mono ?_
  rintro e w1 ⟨v, rfl, rfl, hS⟩
  exact ⟨_, rfl, rfl, LogRep.shut2 hS⟩
/-- Behind the last segment another one. -/
theorem segw_snoc (l : List (Int × Int)) (n z : Int) : segw l ++ [.int .i64 n, .int .i64 z] = segw (l ++ [(n, z)]) := by rw [segw_app]; rfl
set_option maxRecDepth 20000 in
set_option maxHeartbeats 8000000 in
theorem begin_c (hL : L.Ok) (hM : M.Ok K) (hKK : K + 4 ≤ 1099511627776) (b : Bs) (hb0 : b ≠ []) (hbl : b.length ≤ 16777216) (hr : Ro w0 F (rdsl 1 bv (bys b)))
    (h : Sat w0 w (LogRep p m L :: MedRep m M :: F)) :
    Calls Tryd.prog 47 #[ptr p, bv] w (Rtn fun v w' => v = .tuple #[plcA (L.begin M b).2.1, errno (L.begin M b).2.2] ∧
      Sat w0 w' (LogRep p m (L.begin M b).1.1 :: MedRep m (L.begin M b).1.2 :: F)) := by
  obtain ⟨ba, bn, bc, rfl, hbn⟩ := ro_len hr (A := emp) (Sat.emp.2 (h.sel 2 [] rfl rfl))
  subst hbn
  obtain ⟨i, hi, hz0, hz1, hz2⟩ := info8p
  have Hg := Lib.hid (Seg.Log.begin_eq L M b)
  have HM := Lib.hid (Seg.Log.shut_med (L := L) hM)
  have HL := Lib.hid (hL.shut M)
  have Hr := Lib.hid hr; have Hb0 := Lib.hid hb0; have Hbl := Lib.hid hbl
  clear hr hb0 hbl
  go_enter Tryd.func47, Tryd.ntmps47
  go_wp2_with (refine wl_alloc zPlace (by assumption) rfl ?_; intro q w1 hS1)
  refine (shut_c hL hM (Sat.sub (by assumption) (by repeat (first | (with_reducible apply sub_refl) | ((with_reducible apply sub_take); (· first | ((repeat (first | with_reducible apply pick0 | with_reducible apply pick_there)); done) | ((repeat (first | apply pick0 | apply pick_there)); done) | fail)) | (with_reducible apply sub_drop))))).mono ?_
  rintro e w2 ⟨v, rfl, rfl, hS2⟩
  clear hS1 h hL hM
  generalize L.shut M = S at *
  obtain ⟨⟨L1, M1⟩, e1⟩ := S
  by_cases he : e1 = 0
  rotate_left
  · have heb : (e1 == 0) = false := beq_false_of_ne he
    have hfin := Lib.hid (Hg.out.trans (if_neg he))
    clear he
    go_wp2_with ((with_reducible apply at_store); refine ⟨?_⟩; refine wl_store (by assumption) (by rfl) (by conv => lhs; whnf) (by first | (simp only [putsAt, Value.cells]; (try go_frame); first | done | rfl) | rfl) (by first | ((repeat (first | with_reducible apply upd0 | with_reducible apply upd_there)); done) | ((repeat (first | apply upd0 | apply upd_there)); done) | fail) (Nat.le_of_ble_eq_true (by rfl)) (by kernel_rfl) (by rfl) ?_; intro wS hS)
    refine ⟨rfl, _, res_cell_tmp rfl (by assumption) (by rfl) (by first | ((repeat (first | with_reducible apply pick0 | with_reducible apply pick_there)); done) | ((repeat (first | apply pick0 | apply pick_there)); done) | fail) Tryd.underlying40 rfl (by kernel_rfl), _, rfl, ?_, ?_⟩
    · rw [hfin.out]; rfl
    · rw [hfin.out]; exact Sat.sub hS (by repeat (first | (with_reducible apply sub_refl) | ((with_reducible apply sub_take); (· first | ((repeat (first | with_reducible apply pick0 | with_reducible apply pick_there)); done) | ((repeat (first | apply pick0 | apply pick_there)); done) | fail)) | (with_reducible apply sub_drop)))
  subst he
  have H1 := Lib.hid (Hg.out.trans (if_pos rfl))
  clear Hg
  go_wp2_with fail
  refine (lnext_c HL.out (Sat.pick (by assumption) (by first | ((repeat (first | with_reducible apply pick0 | with_reducible apply pick_there)); done) | ((repeat (first | apply pick0 | apply pick_there)); done) | fail))).mono ?_
  rintro e w3 ⟨v, rfl, rfl, hS3⟩
  clear hS2
  have hs1 := Lib.hid HL.out.next
  have hfr := Lib.hid HL.out.fresh
  have hln := Lib.hid HL.out.len
  unfold Seg.Log.begin1 at H1
  have Hnm := Lib.hid (Seg.name_size L1.next)
  by_cases hn : 1048576 ≤ L1.next
  · have hfin := Lib.hid (H1.out.trans (if_pos hn))
    generalize L1.next = n at *
    go_wp2_with ((with_reducible apply at_store); refine ⟨?_⟩; refine wl_store (by assumption) (by rfl) (by conv => lhs; whnf) (by first | (simp only [putsAt, Value.cells]; (try go_frame); first | done | rfl) | rfl) (by first | ((repeat (first | with_reducible apply upd0 | with_reducible apply upd_there)); done) | ((repeat (first | apply upd0 | apply upd_there)); done) | fail) (Nat.le_of_ble_eq_true (by rfl)) (by kernel_rfl) (by rfl) ?_; intro wS hS)
    refine ⟨rfl, _, res_cell_tmp rfl (by assumption) (by rfl) (by first | ((repeat (first | with_reducible apply pick0 | with_reducible apply pick_there)); done) | ((repeat (first | apply pick0 | apply pick_there)); done) | fail) Tryd.underlying40 rfl (by kernel_rfl), _, rfl, ?_, ?_⟩
    · rw [hfin.out]; rfl
    · rw [hfin.out]; exact Sat.sub hS (by repeat (first | (with_reducible apply sub_refl) | ((with_reducible apply sub_take); (· first | ((repeat (first | with_reducible apply pick0 | with_reducible apply pick_there)); done) | ((repeat (first | apply pick0 | apply pick_there)); done) | fail)) | (with_reducible apply sub_drop)))
  have H2 := Lib.hid (H1.out.trans (if_neg hn))
  clear H1
  have Hn := Lib.hid hn
  have hnd : ¬ 1048576 ≤ L1.next := hn
  clear hn
  have hnm := sname_c L1.next hS3
  generalize hnn : L1.next = n at *
  have Hnn := Lib.hid hnn
  clear hnn
  go_wp2_with fail
  refine hnm.mono ?_
  rintro e w4 ⟨v, rfl, rfl, hS4⟩
  clear hnm hS3 hnd
  generalize Seg.name n = nm at *
  obtain ⟨lv, hR⟩ := LogRep.open2 (Sat.pick (by assumption) (by first | ((repeat (first | with_reducible apply pick0 | with_reducible apply pick_there)); done) | ((repeat (first | apply pick0 | apply pick_there)); done) | fail))
  have e0 : w4.cell? ⟨p, 0, none⟩ = some (ptr m) := hR.cellP (by first | ((repeat (first | with_reducible apply pick0 | with_reducible apply pick_there)); done) | ((repeat (first | apply pick0 | apply pick_there)); done) | fail) 0 rfl
  go_wp2_with fail
  refine (create_c HM.out (by omega) (Sat.pick (by assumption) (by first | ((repeat (first | with_reducible apply pick0 | with_reducible apply pick_there)); done) | ((repeat (first | apply pick0 | apply pick_there)); done) | fail)) nm Hnm.out).mono ?_
  rintro e w5 ⟨v, rfl, rfl, hS5⟩
  have HM2 := Lib.hid (HM.out.create nm)
  clear hS4 hR e0
  generalize M1.create nm = C at *
  obtain ⟨M2, e2⟩ := C
  by_cases he : e2 = 0
  rotate_left
  · have heb : (e2 == 0) = false := beq_false_of_ne he
    have hfin := Lib.hid (H2.out.trans (if_pos he))
    clear he
    go_wp2_with ((with_reducible apply at_store); refine ⟨?_⟩; refine wl_store (by assumption) (by rfl) (by conv => lhs; whnf) (by first | (simp only [putsAt, Value.cells]; (try go_frame); first | done | rfl) | rfl) (by first | ((repeat (first | with_reducible apply upd0 | with_reducible apply upd_there)); done) | ((repeat (first | apply upd0 | apply upd_there)); done) | fail) (Nat.le_of_ble_eq_true (by rfl)) (by kernel_rfl) (by rfl) ?_; intro wS hS)
    refine ⟨rfl, _, res_cell_tmp rfl (by assumption) (by rfl) (by first | ((repeat (first | with_reducible apply pick0 | with_reducible apply pick_there)); done) | ((repeat (first | apply pick0 | apply pick_there)); done) | fail) Tryd.underlying40 rfl (by kernel_rfl), _, rfl, ?_, ?_⟩
    · rw [hfin.out]; rfl
    · rw [hfin.out]; exact LogRep.shut2 (lv := lv) (Sat.sub hS (by repeat (first | (with_reducible apply sub_refl) | ((with_reducible apply sub_take); (· first | ((repeat (first | with_reducible apply pick0 | with_reducible apply pick_there)); done) | ((repeat (first | apply pick0 | apply pick_there)); done) | fail)) | (with_reducible apply sub_drop))))
  subst he
  have H3 := Lib.hid (H2.out.trans (if_neg (fun h => h rfl)))
  clear H2
  go_wp2_with fail
  refine wpL_begin [9, 10] (fun w' => w'.cell? ⟨p, 0, none⟩ = some (ptr m)) (by kernel_rfl) ?_
  have hG : w5.drew.cell? ⟨p, 0, none⟩ = some (ptr m) := hS5.drew.cellP (by first | ((repeat (first | with_reducible apply pick0 | with_reducible apply pick_there)); done) | ((repeat (first | apply pick0 | apply pick_there)); done) | fail) 0 rfl
  refine rg_pure 0 (by conv => lhs; whnf) (by kernel_rfl) (by intro _ _ _ h; exact h) (yl_move (by conv => lhs; whnf)) (by go_frame; first | done | rfl) ?_
  refine rg_pure 1 (by conv => lhs; whnf) (by kernel_rfl) (by intro _ _ _ h; exact h) (yl_nil (by conv => lhs; whnf)) (by go_frame; first | done | rfl) ?_
  refine rg_pure 2 (by conv => lhs; whnf) (by kernel_rfl) (by intro _ _ _ h; exact h) (yl_field (by conv => lhs; whnf) (by ((intro wq; go_simp); first | done | (with_reducible rfl)))) (by go_frame; first | done | rfl) ?_
  refine rg_take 3 (by conv => lhs; whnf) (by kernel_rfl) (by intro _ _ _ h; exact h) (by first | exact tk_load (by conv => lhs; whnf) (by kernel_rfl) (by intro wq hq; first | exact hq | exact hq.1 | exact hq.2 | exact hq.2.1 | exact hq.2.2 | exact hq.2.2.1 | exact hq.2.2.2 | exact hq.2.2.2.1 | exact hq.2.2.2.2) | (refine Or.inl ⟨by rfl, ?_⟩; (intro wq hq; go_split_ands; go_simp); first | done | (with_reducible rfl))) (by assumption) (by go_frame; first | done | rfl) ?_
  refine rg_pure 4 (by conv => lhs; whnf) (by kernel_rfl) (by intro _ _ _ h; exact h) (yl_move (by conv => lhs; whnf)) (by go_frame; first | done | rfl) ?_
  refine rg_pure 7 (by conv => lhs; whnf) (by kernel_rfl) (by intro _ _ _ h; exact h) (yl_move (by conv => lhs; whnf)) (by go_frame; first | done | rfl) ?_
  refine rg_eff 5 (by conv => lhs; whnf) (by kernel_rfl) (fun K hK => ?_)
  go_simp
  have hB1 := hS5.drew.alloc (.cells #[.int .u8 72, .int .u8 79, .int .u8 65, .int .u8 82, .int .u8 68, .int .u8 83, .int .u8 69, .int .u8 71] 5)
  refine hK _ _ (.inr (.inl (hB1.cellP (by first | ((repeat (first | with_reducible apply pick0 | with_reducible apply pick_there)); done) | ((repeat (first | apply pick0 | apply pick_there)); done) | fail) 0 rfl))) ?_
  clear hK K hG hB1
  refine rg_eff 6 (by conv => lhs; whnf) (by kernel_rfl) (fun K hK => ?_)
  have hcv : (convert 25 25 (.slice (some ⟨w5.heap.size, 0, none⟩) 8 8)).run Tryd.prog ((w5.alloc (.cells #[.int .u8 72, .int .u8 79, .int .u8 65, .int .u8 82, .int .u8 68, .int .u8 83, .int .u8 69, .int .u8 71] 5)).drew) = .ok (.slice (some ⟨w5.heap.size, 0, none⟩) 8 8) ((w5.alloc (.cells #[.int .u8 72, .int .u8 79, .int .u8 65, .int .u8 82, .int .u8 68, .int .u8 83, .int .u8 69, .int .u8 71] 5 (8, 9))).drew) :=
    Lib.run_convert_bytes_const (P := Tryd.prog) w5.drew 25 5 #[.int .u8 72, .int .u8 79, .int .u8 65, .int .u8 82, .int .u8 68, .int .u8 83, .int .u8 69, .int .u8 71] 8 8 Tryd.underlying25 Tryd.underlying5
  have hB := (hS5.alloc (.cells #[.int .u8 72, .int .u8 79, .int .u8 65, .int .u8 82, .int .u8 68, .int .u8 83, .int .u8 69, .int .u8 71] 5 (8, 9))).drew
  go_simp
  refine hK _ _ (.inr (.inl (hB.cellP (by first | ((repeat (first | with_reducible apply pick0 | with_reducible apply pick_there)); done) | ((repeat (first | apply pick0 | apply pick_there)); done) | fail) 0 rfl))) ?_
  clear hK K
  have hrd := Hr.out _ (hB.sub (by repeat (first | (with_reducible apply sub_refl) | ((with_reducible apply sub_take); (· first | ((repeat (first | with_reducible apply pick0 | with_reducible apply pick_there)); done) | ((repeat (first | apply pick0 | apply pick_there)); done) | fail)) | (with_reducible apply sub_drop))))
  have hold : rdsl 1 (.slice (some ⟨w5.heap.size, 0, none⟩) 8 8) (bys Seg.mag) ((w5.alloc (.cells #[.int .u8 72, .int .u8 79, .int .u8 65, .int .u8 82, .int .u8 68, .int .u8 83, .int .u8 69, .int .u8 71] 5 (8, 9))).drew) := by
    refine ⟨_, 8, 8, rfl, rfl, fun j x hj => ⟨_, rfl, ?_⟩⟩
    rw [add_zero_lit]
    have hjl : j < Seg.mag.length := by
      have := (List.getElem?_eq_some_iff.1 hj).1
      rw [bys_len] at this; exact this
    have hx := (mrow_set (l := Seg.mag) hB hjl 0).1
    unfold bys at hj
    rw [List.getElem?_map, List.getElem?_eq_getElem hjl] at hj
    cases hj
    exact hx
  have hy0 : bys b ≠ [] := by
    intro h
    apply Hb0.out
    unfold bys at h
    exact List.map_eq_nil_iff.1 h
  have h63 : (bys Seg.mag).length + (bys b).length ≤ maxLen := by rw [bys_len, bys_len]; have := Hbl.out; unfold maxLen Seg.mag; simp; omega
  have hby : ((bys Seg.mag).length + (bys b).length) * i.bytes ≤ 140737488355328 := by rw [bys_len, bys_len, hz2]; have := Hbl.out; unfold Seg.mag; simp; omega
  refine rg_eff 8 (by conv => lhs; whnf) (by kernel_rfl) (fun K hK => ?_)
  refine step_append_fresh (w0 := w0) (xs := bys Seg.mag) (b := w5.heap.size) (n := 8) (cap := 8) (by rfl) _ _ _ (by rfl) _ i _ Tryd.underlying25 hi hz0 hz1 (by rfl) rfl (Nat.le_refl _) hold hB.drop (by rfl) (by rfl) hrd hy0 h63 hby ?_
  intro b4 n4 k4 w6 hS6
  clear hcv hrd hold hy0 h63 hby hB
  have hS6 : Sat w0 w6 (bsl (.slice (some ⟨b4, 0, none⟩) n4 k4) (Seg.mag ++ b) :: MedRep m M2 :: pt q (.cells #[.int .i64 0, .int .i64 0, .int .i64 0] 40) :: logPt p m L1 lv :: osl 94 2 lv (segw L1.l) :: F) := by
    have e : bys Seg.mag ++ bys b = bys (Seg.mag ++ b) := by unfold bys; rw [List.map_append]
    rw [e] at hS6
    exact Sat.sub hS6 (by repeat (first | (with_reducible apply sub_refl) | ((with_reducible apply sub_take); (· first | ((repeat (first | with_reducible apply pick0 | with_reducible apply pick_there)); done) | ((repeat (first | apply pick0 | apply pick_there)); done) | fail)) | (with_reducible apply sub_drop)))
  refine hK _ _ (.inr (.inl (hS6.cellP (by first | ((repeat (first | with_reducible apply pick0 | with_reducible apply pick_there)); done) | ((repeat (first | apply pick0 | apply pick_there)); done) | fail) 0 rfl))) ?_
  clear hK K hS5
  refine rg_eff 9 (by conv => lhs; whnf) (by kernel_rfl) (fun K hK => ?_)
  (refine eff_call3 (by kernel_rfl) (by conv => lhs; whnf) (by conv => lhs; whnf) (by conv => lhs; whnf) ?_)
  refine (append_c HM2.out (by omega) (Sat.pick (by assumption) (by first | ((repeat (first | with_reducible apply pick0 | with_reducible apply pick_there)); done) | ((repeat (first | apply pick0 | apply pick_there)); done) | fail)) nm (Seg.mag ++ b) (by first | assumption | exact Ro.of_pick (Ro.bsl _ _) (by first | ((repeat (first | with_reducible apply pick0 | with_reducible apply pick_there)); done) | ((repeat (first | apply pick0 | apply pick_there)); done) | fail) | exact Ro.of_sub (by assumption) (by repeat (first | (with_reducible apply sub_refl) | ((with_reducible apply sub_take); (· first | ((repeat (first | with_reducible apply pick0 | with_reducible apply pick_there)); done) | ((repeat (first | apply pick0 | apply pick_there)); done) | fail)) | (with_reducible apply sub_drop))))).mono ?_
  rintro e w7 ⟨v, rfl, rfl, hS7⟩
  refine hK _ _ (.inl rfl) ?_
  clear hK K
  refine rg_pure 10 (by conv => lhs; whnf) (by kernel_rfl) (by intro _ _ _ h; exact h) (yl_assign (by conv => lhs; whnf)) (by go_frame; first | done | rfl) ?_
  refine wpL_done (by kernel_rfl) ?_
  clear hS6
  have HM3 := Lib.hid (HM2.out.append nm (Seg.mag ++ b))
  generalize M2.append nm (Seg.mag ++ b) = D at *
  obtain ⟨M3, e3⟩ := D
  by_cases he : e3 = 0
  · subst he
    have hfin := Lib.hid (H3.out.trans (if_pos rfl))
    have c2 : w7.cell? ⟨p, 2, none⟩ = some lv := hS7.cellP (by first | ((repeat (first | with_reducible apply pick0 | with_reducible apply pick_there)); done) | ((repeat (first | apply pick0 | apply pick_there)); done) | fail) 2 rfl
    have hwl : IntKind.i64.wrap (8 + (b.length : Int)) = 8 + (b.length : Int) := by rw [IntKind.wrap_i64]; have := Hbl.out; omega
    obtain ⟨ii, hii, hy0, hy1, hy2⟩ := info_parts infoSeg
    have h7 := hS7.alloc (.cells #[.int .i64 n, .int .i64 (8 + (b.length : Int))] 94)
    have hoc : ∀ u ∈ (#[.int .i64 n, .int .i64 (8 + (b.length : Int))] : Array Value).toList, u.oneCell' = true := by
      intro u hu
      simp only [List.mem_cons, List.not_mem_nil, or_false] at hu
      rcases hu with rfl | rfl <;> rfl
    have h63 : (segw L1.l).length + 2 ≤ maxLen := by rw [segw_len]; have := hln.out; unfold maxLen; omega
    have hby : ((segw L1.l).length + 2) * ii.bytes ≤ 140737488355328 := by rw [segw_len, hy2]; have := hln.out; omega
    have h8 : Sat w0 _ (osl 94 2 lv (segw L1.l) :: logPt p m L1 lv :: pt q (.cells #[.int .i64 0, .int .i64 0, .int .i64 0] 40) :: MedRep m M3 :: F) := h7.sub (by repeat (first | (with_reducible apply sub_refl) | ((with_reducible apply sub_take); (· first | ((repeat (first | with_reducible apply pick0 | with_reducible apply pick_there)); done) | ((repeat (first | apply pick0 | apply pick_there)); done) | fail)) | (with_reducible apply sub_drop)))
    have hwf : IntKind.i64.wrap (L1.fresh + 1) = L1.fresh + 1 := by rw [IntKind.wrap_i64]; have := hfr.out; have := hln.out; omega
    go_wp2_with (first
      | (at_builtin; refine wpList_append (w0 := w0) (by rfl) _ _ _ (by rfl) _ ii _ Tryd.underlying87 hii hy0 hy1 (by rfl) (by omega) (by rfl) (by rfl) hoc h8 (rdsl_new _ _ _ 2 1 1 (by rfl)) h63 hby ?_; intro v2 w8 hS8 hne; obtain ⟨ab, an, ac, rfl⟩ := hne (by simp); clear h8 h7 hS7 c2 hoc h63 hby hne)
      | ((with_reducible apply at_load); refine ⟨?_⟩; refine wl_load1 (by assumption) (by rfl) (by first | ((repeat (first | with_reducible apply pick0 | with_reducible apply pick_there)); done) | ((repeat (first | apply pick0 | apply pick_there)); done) | fail) (Nat.le_of_ble_eq_true (by rfl)) (by conv => lhs; whnf) (by kernel_rfl) ?_) | ((with_reducible apply at_store); refine ⟨?_⟩; refine wl_store (by assumption) (by rfl) (by conv => lhs; whnf) (by first | (simp only [putsAt, Value.cells]; (try go_frame); first | done | rfl) | rfl) (by first | ((repeat (first | with_reducible apply upd0 | with_reducible apply upd_there)); done) | ((repeat (first | apply upd0 | apply upd_there)); done) | fail) (Nat.le_of_ble_eq_true (by rfl)) (by kernel_rfl) (by rfl) ?_; intro wS hS))
    refine ⟨rfl, _, res_cell_tmp rfl (by assumption) (by rfl) (by first | ((repeat (first | with_reducible apply pick0 | with_reducible apply pick_there)); done) | ((repeat (first | apply pick0 | apply pick_there)); done) | fail) Tryd.underlying40 rfl (by kernel_rfl), _, rfl, ?_, ?_⟩
    · rw [hfin.out]; rfl
    · rw [hfin.out]
      have e : segw L1.l ++ [.int .i64 n, .int .i64 (8 + (b.length : Int))] = segw (L1.l ++ [(n, 8 + (b.length : Int))]) := segw_snoc _ _ _
      rw [e] at hS
      exact LogRep.shut2 (lv := .slice (some ⟨ab, 0, none⟩) an ac) (Sat.sub hS (by repeat (first | (with_reducible apply sub_refl) | ((with_reducible apply sub_take); (· first | ((repeat (first | with_reducible apply pick0 | with_reducible apply pick_there)); done) | ((repeat (first | apply pick0 | apply pick_there)); done) | fail)) | (with_reducible apply sub_drop))))
  have H4 := Lib.hid (H3.out.trans (if_neg he))
  have heb : (e3 == 0) = false := beq_false_of_ne he
  clear he H3
  by_cases he : e3 = 11
  · subst he
    have H5 := Lib.hid (H4.out.trans (if_pos rfl))
    have e0 : w7.cell? ⟨p, 0, none⟩ = some (ptr m) := hS7.cellP (by first | ((repeat (first | with_reducible apply pick0 | with_reducible apply pick_there)); done) | ((repeat (first | apply pick0 | apply pick_there)); done) | fail) 0 rfl
    go_wp2_with fail
    refine (remove_c HM3.out (by omega) (Sat.pick (by assumption) (by first | ((repeat (first | with_reducible apply pick0 | with_reducible apply pick_there)); done) | ((repeat (first | apply pick0 | apply pick_there)); done) | fail)) nm).mono ?_
    rintro e w8 ⟨v, rfl, rfl, hS8⟩
    clear hS7 e0
    generalize M3.remove nm = E at *
    obtain ⟨M4, e4⟩ := E
    by_cases he : e4 = 0
    · subst he
      go_wp2_with ((with_reducible apply at_store); refine ⟨?_⟩; refine wl_store (by assumption) (by rfl) (by conv => lhs; whnf) (by first | (simp only [putsAt, Value.cells]; (try go_frame); first | done | rfl) | rfl) (by first | ((repeat (first | with_reducible apply upd0 | with_reducible apply upd_there)); done) | ((repeat (first | apply upd0 | apply upd_there)); done) | fail) (Nat.le_of_ble_eq_true (by rfl)) (by kernel_rfl) (by rfl) ?_; intro wS hS)
      refine ⟨rfl, _, res_cell_tmp rfl (by assumption) (by rfl) (by first | ((repeat (first | with_reducible apply pick0 | with_reducible apply pick_there)); done) | ((repeat (first | apply pick0 | apply pick_there)); done) | fail) Tryd.underlying40 rfl (by kernel_rfl), _, rfl, ?_, ?_⟩
      · rw [H5.out]; rfl
      · rw [H5.out]; exact LogRep.shut2 (lv := lv) (Sat.sub hS (by repeat (first | (with_reducible apply sub_refl) | ((with_reducible apply sub_take); (· first | ((repeat (first | with_reducible apply pick0 | with_reducible apply pick_there)); done) | ((repeat (first | apply pick0 | apply pick_there)); done) | fail)) | (with_reducible apply sub_drop))))
    · have heb : (e4 == 0) = false := beq_false_of_ne he
      have H6 := Lib.hid (H5.out.trans (by rw [if_neg he]))
      clear he
      go_wp2_with ((with_reducible apply at_store); refine ⟨?_⟩; refine wl_store (by assumption) (by rfl) (by conv => lhs; whnf) (by first | (simp only [putsAt, Value.cells]; (try go_frame); first | done | rfl) | rfl) (by first | ((repeat (first | with_reducible apply upd0 | with_reducible apply upd_there)); done) | ((repeat (first | apply upd0 | apply upd_there)); done) | fail) (Nat.le_of_ble_eq_true (by rfl)) (by kernel_rfl) (by rfl) ?_; intro wS hS)
      refine ⟨rfl, _, res_cell_tmp rfl (by assumption) (by rfl) (by first | ((repeat (first | with_reducible apply pick0 | with_reducible apply pick_there)); done) | ((repeat (first | apply pick0 | apply pick_there)); done) | fail) Tryd.underlying40 rfl (by kernel_rfl), _, rfl, ?_, ?_⟩
      · rw [H6.out]; rfl
      · rw [H6.out]; exact LogRep.shut2 (lv := lv) (Sat.sub hS (by repeat (first | (with_reducible apply sub_refl) | ((with_reducible apply sub_take); (· first | ((repeat (first | with_reducible apply pick0 | with_reducible apply pick_there)); done) | ((repeat (first | apply pick0 | apply pick_there)); done) | fail)) | (with_reducible apply sub_drop))))
  · have hfin := Lib.hid (H4.out.trans (if_neg he))
    have heb2 : (e3 == 11) = false := beq_false_of_ne he
    clear he H4
    go_wp2_with ((with_reducible apply at_store); refine ⟨?_⟩; refine wl_store (by assumption) (by rfl) (by conv => lhs; whnf) (by first | (simp only [putsAt, Value.cells]; (try go_frame); first | done | rfl) | rfl) (by first | ((repeat (first | with_reducible apply upd0 | with_reducible apply upd_there)); done) | ((repeat (first | apply upd0 | apply upd_there)); done) | fail) (Nat.le_of_ble_eq_true (by rfl)) (by kernel_rfl) (by rfl) ?_; intro wS hS)
    refine ⟨rfl, _, res_cell_tmp rfl (by assumption) (by rfl) (by first | ((repeat (first | with_reducible apply pick0 | with_reducible apply pick_there)); done) | ((repeat (first | apply pick0 | apply pick_there)); done) | fail) Tryd.underlying40 rfl (by kernel_rfl), _, rfl, ?_, ?_⟩
    · rw [hfin.out]; rfl
    · rw [hfin.out]; exact LogRep.shut2 (lv := lv) (Sat.sub hS (by repeat (first | (with_reducible apply sub_refl) | ((with_reducible apply sub_take); (· first | ((repeat (first | with_reducible apply pick0 | with_reducible apply pick_there)); done) | ((repeat (first | apply pick0 | apply pick_there)); done) | fail)) | (with_reducible apply sub_drop))))
end
end Go.Proofs.YtjklhichekmdhaaDoor
/- Append of any log. -/
namespace Go.Seg
open Go.Med
theorem encode_ne (x : Frm.Ent) (h : (Frm.encode x).2 = 0) : (Frm.encode x).1 ≠ [] := by
  unfold Frm.encode at *
  split at h
  · rename_i hc; exact absurd h hc
  · rename_i hc
    rw [if_neg hc]
    intro e
    have := congrArg List.length e
    simp [Frm.le_len] at this
theorem Log.append_bad {L : Log} {M : Med} {x : Frm.Ent} (h : (Frm.encode x).2 ≠ 0) : L.append M x = ((L, M), Plc.zero, (Frm.encode x).2) := by
  unfold Log.append; rw [if_pos h]
theorem Log.append_grow {L : Log} {M : Med} {x : Frm.Ent} (h : (Frm.encode x).2 = 0) (hf : L.fits (Frm.encode x).1.length = true) : L.append M x = L.grow M (Frm.encode x).1 := by
  unfold Log.append; rw [if_neg (fun hh => hh h), if_pos hf]
theorem Log.append_begin {L : Log} {M : Med} {x : Frm.Ent} (h : (Frm.encode x).2 = 0) (hf : L.fits (Frm.encode x).1.length = false) : L.append M x = L.begin M (Frm.encode x).1 := by
  unfold Log.append; rw [if_neg (fun hh => hh h), if_neg (by rw [hf]; decide)]
theorem Log.fits_off {L : Log} (n : Nat) (h : L.on = false) : L.fits n = false := by unfold Log.fits; rw [h]; rfl
theorem Log.fits_on {L : Log} {s : Int × Int} (n : Nat) (h : L.on = true) (hl : L.l.getLast? = some s) : L.fits n = decide (s.2 + n ≤ L.limit) := by
  unfold Log.fits; rw [h, hl]; rfl
end Go.Seg
namespace Go.Proofs.YtjklhichekmdhaaDoor
open Go Go.Sl Go.Med Go.MapKept Go.RowKit
set_option linter.unusedVariables false
section
variable {w0 w : World} {F R : List HProp} {v bv dv x lv : Value} {q p m K : Nat} {L : Seg.Log} {M : Med} {s : Int × Int}
theorem seg_block2 (hl : L.l.getLast? = some s) (h : Sat w0 w (logPt p m L lv :: osl 94 2 lv (segw L.l) :: F)) :
    ∃ bk n cap cs, lv = .slice (some ⟨bk, 0, none⟩) (n + 1) cap ∧ SegBlk L.l n cap cs ∧ cs[n * 2]? = some (.int .i64 s.1) ∧ cs[n * 2 + 1]? = some (.int .i64 s.2) ∧
      Sat w0 w (logPt p m L (.slice (some ⟨bk, 0, none⟩) (n + 1) cap) :: pt bk (.cells cs 94 (0,0)) :: F) := seg_block hl h
set_option maxRecDepth 20000 in
set_option maxHeartbeats 8000000 in
theorem lappend_c (e : Frm.Ent) (hk : e.key.length = 32) (da : Option Addr) (dc : Nat) (hd : Ro w0 F (rdsl 1 (.slice da e.data.length dc) (bys e.data))) (hH : Ro w0 F Half) (hLd : e.data.length ≤ 1099511627)
    (hL : L.Ok) (hM : M.Ok K) (hKK : K + 4 ≤ 1099511627776) (h : Sat w0 w (LogRep p m L :: MedRep m M :: F)) :
    Calls Tryd.prog 12 #[ptr p, .agg (entA e (.slice da e.data.length dc))] w (Rtn fun v w' => v = .tuple #[plcA (L.append M e).2.1, errno (L.append M e).2.2] ∧
      Sat w0 w' (LogRep p m (L.append M e).1.1 :: MedRep m (L.append M e).1.2 :: F)) := by
  obtain ⟨lv, hR⟩ := LogRep.open2 h
  clear h
  have hsz := entA_size e (.slice da e.data.length dc) hk
  have Hsz := Lib.hid hsz
  have Hd := Lib.hid hd; have HH := Lib.hid hH; have Hk := Lib.hid hk; have HLd := Lib.hid hLd
  have HL := Lib.hid hL; have HM := Lib.hid hM
  have Hln := Lib.hid hL.len
  have Hel := Lib.hid (show (Frm.encode e).1.length ≤ 16425 from Seg.encode_len e hk)
  have Hne := Lib.hid (Seg.encode_ne e)
  have A0 := Lib.hid (Seg.Log.append_bad (L := L) (M := M) (x := e))
  have A1 := Lib.hid (Seg.Log.append_grow (L := L) (M := M) (x := e))
  have A2 := Lib.hid (Seg.Log.append_begin (L := L) (M := M) (x := e))
  clear hsz hd hH hk hLd hL hM
  go_enter Tryd.func12, Tryd.ntmps12
  go_wp2_with (first
    | ((with_reducible apply at_box); refine ⟨?_⟩; refine wl_box (by assumption) (by rfl) (cs := entA e (.slice da e.data.length dc)) rfl ?_; intro q3 w1 hS1)
    | (refine wl_alloc zPlace (by assumption) rfl ?_; intro q w2 hS2))
  refine (ok_c (Sat.pick (by assumption) (by first | ((repeat (first | with_reducible apply pick0 | with_reducible apply pick_there)); done) | ((repeat (first | apply pick0 | apply pick_there)); done) | fail))).mono ?_
  rintro ee w3 ⟨v, rfl, rfl, rfl⟩
  clear hS1 hR
  go_wp2_with ((with_reducible apply at_load); refine ⟨?_⟩; refine wl_loadA (by assumption) (by rfl) (by first | ((repeat (first | with_reducible apply pick0 | with_reducible apply pick_there)); done) | ((repeat (first | apply pick0 | apply pick_there)); done) | fail) Tryd.underlying27 (by rfl) (by rw [Hsz.out]; kernel_rfl) ?_)
  refine (encode_c e Hk.out da dc (by first | assumption | exact Ro.of_pick (Ro.bsl _ _) (by first | ((repeat (first | with_reducible apply pick0 | with_reducible apply pick_there)); done) | ((repeat (first | apply pick0 | apply pick_there)); done) | fail) | exact Ro.of_sub (by assumption) (by repeat (first | (with_reducible apply sub_refl) | ((with_reducible apply sub_take); (· first | ((repeat (first | with_reducible apply pick0 | with_reducible apply pick_there)); done) | ((repeat (first | apply pick0 | apply pick_there)); done) | fail)) | (with_reducible apply sub_drop)))) (by first | assumption | exact Ro.of_pick (Ro.bsl _ _) (by first | ((repeat (first | with_reducible apply pick0 | with_reducible apply pick_there)); done) | ((repeat (first | apply pick0 | apply pick_there)); done) | fail) | exact Ro.of_sub (by assumption) (by repeat (first | (with_reducible apply sub_refl) | ((with_reducible apply sub_take); (· first | ((repeat (first | with_reducible apply pick0 | with_reducible apply pick_there)); done) | ((repeat (first | apply pick0 | apply pick_there)); done) | fail)) | (with_reducible apply sub_drop)))) hS2 HLd.out).mono ?_
  rintro ee w3 ⟨v, rfl, bv, rfl, ⟨ba, bn, bc, rfl⟩, hS3⟩
  clear hS2
  generalize hE : Frm.encode e = E at *
  have HE := Lib.hid hE
  clear hE
  obtain ⟨b, e1⟩ := E
  have Hel2 : Hid (b.length ≤ 16425) := Hel
  by_cases he : e1 = 0
  rotate_left
  · have heb : (e1 == 0) = false := beq_false_of_ne he
    have hfin := Lib.hid (A0.out he)
    clear he
    go_wp2_with ((with_reducible apply at_store); refine ⟨?_⟩; refine wl_store (by assumption) (by rfl) (by conv => lhs; whnf) (by first | (simp only [putsAt, Value.cells]; (try go_frame); first | done | rfl) | rfl) (by first | ((repeat (first | with_reducible apply upd0 | with_reducible apply upd_there)); done) | ((repeat (first | apply upd0 | apply upd_there)); done) | fail) (Nat.le_of_ble_eq_true (by rfl)) (by kernel_rfl) (by rfl) ?_; intro wS hS)
    refine ⟨rfl, _, res_cell_tmp rfl (by assumption) (by rfl) (by first | ((repeat (first | with_reducible apply pick0 | with_reducible apply pick_there)); done) | ((repeat (first | apply pick0 | apply pick_there)); done) | fail) Tryd.underlying40 rfl (by kernel_rfl), _, rfl, ?_, ?_⟩
    · rw [hfin.out]; rfl
    · rw [hfin.out]; exact LogRep.shut2 (lv := lv) (Sat.sub hS (by repeat (first | (with_reducible apply sub_refl) | ((with_reducible apply sub_take); (· first | ((repeat (first | with_reducible apply pick0 | with_reducible apply pick_there)); done) | ((repeat (first | apply pick0 | apply pick_there)); done) | fail)) | (with_reducible apply sub_drop))))
  subst he
  have hbn : bn = b.length := by
    obtain ⟨a', n', c', he, hl, _⟩ := Sat.rd hS3
    cases he
    rw [bys_len, Nat.mul_one] at hl
    exact hl.symm
  subst hbn
  have Hb0 := Lib.hid (Hne.out rfl)
  clear A0 Hne
  cases hon : L.on
  · have hf := Seg.Log.fits_off b.length hon
    have hfin := Lib.hid (A2.out rfl hf)
    have c3 : w3.cell? ⟨p, 3, none⟩ = some (.bool false) := hS3.cellP (by first | ((repeat (first | with_reducible apply pick0 | with_reducible apply pick_there)); done) | ((repeat (first | apply pick0 | apply pick_there)); done) | fail) 3 (by rw [← hon]; rfl)
    clear hf A1 A2 hon
    go_wp2_with fail
    have hS4 := hS3.drew
    have c3' : w3.drew.cell? ⟨p, 3, none⟩ = some (.bool false) := c3
    go_region
    clear c3 c3'
    have hS5 : Sat w0 _ (LogRep p m L :: MedRep m M :: _) := LogRep.shut2 (lv := lv) (hS4.sub (by repeat (first | (with_reducible apply sub_refl) | ((with_reducible apply sub_take); (· first | ((repeat (first | with_reducible apply pick0 | with_reducible apply pick_there)); done) | ((repeat (first | apply pick0 | apply pick_there)); done) | fail)) | (with_reducible apply sub_drop))))
    go_wp2_with fail
    refine (begin_c HL.out HM.out hKK b Hb0.out (by have := Hel2.out; omega) (by first | assumption | exact Ro.of_pick (Ro.bsl _ _) (by first | ((repeat (first | with_reducible apply pick0 | with_reducible apply pick_there)); done) | ((repeat (first | apply pick0 | apply pick_there)); done) | fail) | exact Ro.of_sub (by assumption) (by repeat (first | (with_reducible apply sub_refl) | ((with_reducible apply sub_take); (· first | ((repeat (first | with_reducible apply pick0 | with_reducible apply pick_there)); done) | ((repeat (first | apply pick0 | apply pick_there)); done) | fail)) | (with_reducible apply sub_drop)))) hS5).mono ?_
    rintro ee w5 ⟨v, rfl, rfl, hS6⟩
    clear hS4 hS5 hS3
    go_wp2_with ((with_reducible apply at_store); refine ⟨?_⟩; refine wl_store (by assumption) (by rfl) (by conv => lhs; whnf) (by first | (simp only [putsAt, Value.cells]; (try go_frame); first | done | rfl) | rfl) (by first | ((repeat (first | with_reducible apply upd0 | with_reducible apply upd_there)); done) | ((repeat (first | apply upd0 | apply upd_there)); done) | fail) (Nat.le_of_ble_eq_true (by rfl)) (by kernel_rfl) (by rfl) ?_; intro wS hS)
    refine ⟨rfl, _, res_cell_tmp rfl (by assumption) (by rfl) (by first | ((repeat (first | with_reducible apply pick0 | with_reducible apply pick_there)); done) | ((repeat (first | apply pick0 | apply pick_there)); done) | fail) Tryd.underlying40 rfl (by kernel_rfl), _, rfl, ?_, ?_⟩
    · rw [hfin.out]; rfl
    · rw [hfin.out]; exact Sat.sub hS (by repeat (first | (with_reducible apply sub_refl) | ((with_reducible apply sub_take); (· first | ((repeat (first | with_reducible apply pick0 | with_reducible apply pick_there)); done) | ((repeat (first | apply pick0 | apply pick_there)); done) | fail)) | (with_reducible apply sub_drop)))
  · obtain ⟨s, hl⟩ := HL.out.last hon
    obtain ⟨bk, n, cap, cs, rfl, hb, c0, c1, hB⟩ := seg_block2 hl (hS3.sub (by repeat (first | (with_reducible apply sub_refl) | ((with_reducible apply sub_take); (· first | ((repeat (first | with_reducible apply pick0 | with_reducible apply pick_there)); done) | ((repeat (first | apply pick0 | apply pick_there)); done) | fail)) | (with_reducible apply sub_drop))))
    have hf := Seg.Log.fits_on b.length hon hl
    have hs := HL.out.sizes s (List.mem_of_getLast? hl)
    have hlim := HL.out.limit
    have hn := hb.len
    have hln := Hln.out
    have hn0 : (n : Int) < (n : Int) + 1 := by omega
    have hwn : IntKind.i64.wrap (n : Int) = (n : Int) := by rw [IntKind.wrap_i64]; omega
    have hwz : IntKind.i64.wrap (s.2 + (b.length : Int)) = s.2 + (b.length : Int) := by rw [IntKind.wrap_i64]; have := Hel2.out; omega
    have g1 : w3.drew.cell? ⟨p, 1, none⟩ = some (.int .i64 L.limit) := hB.drew.cellP (by first | ((repeat (first | with_reducible apply pick0 | with_reducible apply pick_there)); done) | ((repeat (first | apply pick0 | apply pick_there)); done) | fail) 1 rfl
    have g2 : w3.drew.cell? ⟨p, 2, none⟩ = some (.slice (some ⟨bk, 0, none⟩) (n + 1) cap) := hB.drew.cellP (by first | ((repeat (first | with_reducible apply pick0 | with_reducible apply pick_there)); done) | ((repeat (first | apply pick0 | apply pick_there)); done) | fail) 2 rfl
    have g3 : w3.drew.cell? ⟨p, 3, none⟩ = some (.bool true) := hB.drew.cellP (by first | ((repeat (first | with_reducible apply pick0 | with_reducible apply pick_there)); done) | ((repeat (first | apply pick0 | apply pick_there)); done) | fail) 3 (by rw [← hon]; rfl)
    have g4 : w3.drew.cell? ⟨bk, n * 2 + 1, none⟩ = some (.int .i64 s.2) := hB.drew.cellP (by first | ((repeat (first | with_reducible apply pick0 | with_reducible apply pick_there)); done) | ((repeat (first | apply pick0 | apply pick_there)); done) | fail) _ c1
    have Hl := Lib.hid hl; have Hb := Lib.hid hb; have Hs := Lib.hid hs
    clear hs hlim hn hln hl hb c0 c1 hon hB
    by_cases hfit : s.2 + (b.length : Int) ≤ L.limit
    · have hfd : decide (s.2 + (b.length : Int) ≤ L.limit) = true := decide_eq_true hfit
      have hfin := Lib.hid (A1.out rfl (hf.trans hfd))
      clear hf hfd A1 A2
      go_wp2_with fail
      have hS4 := hS3.drew
      go_region
      clear g1 g2 g3 g4
      have hS5 : Sat w0 _ (LogRep p m L :: MedRep m M :: _) := LogRep.shut2 (lv := .slice (some ⟨bk, 0, none⟩) (n + 1) cap) (hS4.sub (by repeat (first | (with_reducible apply sub_refl) | ((with_reducible apply sub_take); (· first | ((repeat (first | with_reducible apply pick0 | with_reducible apply pick_there)); done) | ((repeat (first | apply pick0 | apply pick_there)); done) | fail)) | (with_reducible apply sub_drop))))
      go_wp2_with fail
      refine (grow_c Hl.out Hs.out HM.out (by omega) Hln.out b (by have := Hel2.out; omega) (by first | assumption | exact Ro.of_pick (Ro.bsl _ _) (by first | ((repeat (first | with_reducible apply pick0 | with_reducible apply pick_there)); done) | ((repeat (first | apply pick0 | apply pick_there)); done) | fail) | exact Ro.of_sub (by assumption) (by repeat (first | (with_reducible apply sub_refl) | ((with_reducible apply sub_take); (· first | ((repeat (first | with_reducible apply pick0 | with_reducible apply pick_there)); done) | ((repeat (first | apply pick0 | apply pick_there)); done) | fail)) | (with_reducible apply sub_drop)))) hS5).mono ?_
      rintro ee w5 ⟨v, rfl, rfl, hS6⟩
      clear hS4 hS5 hS3
      go_wp2_with ((with_reducible apply at_store); refine ⟨?_⟩; refine wl_store (by assumption) (by rfl) (by conv => lhs; whnf) (by first | (simp only [putsAt, Value.cells]; (try go_frame); first | done | rfl) | rfl) (by first | ((repeat (first | with_reducible apply upd0 | with_reducible apply upd_there)); done) | ((repeat (first | apply upd0 | apply upd_there)); done) | fail) (Nat.le_of_ble_eq_true (by rfl)) (by kernel_rfl) (by rfl) ?_; intro wS hS)
      refine ⟨rfl, _, res_cell_tmp rfl (by assumption) (by rfl) (by first | ((repeat (first | with_reducible apply pick0 | with_reducible apply pick_there)); done) | ((repeat (first | apply pick0 | apply pick_there)); done) | fail) Tryd.underlying40 rfl (by kernel_rfl), _, rfl, ?_, ?_⟩
      · rw [hfin.out]; rfl
      · rw [hfin.out]; exact Sat.sub hS (by repeat (first | (with_reducible apply sub_refl) | ((with_reducible apply sub_take); (· first | ((repeat (first | with_reducible apply pick0 | with_reducible apply pick_there)); done) | ((repeat (first | apply pick0 | apply pick_there)); done) | fail)) | (with_reducible apply sub_drop)))
    · have hfd : decide (s.2 + (b.length : Int) ≤ L.limit) = false := decide_eq_false hfit
      have hfin := Lib.hid (A2.out rfl (hf.trans hfd))
      clear hf hfd A1 A2
      go_wp2_with fail
      have hS4 := hS3.drew
      go_region
      clear g1 g2 g3 g4
      have hS5 : Sat w0 _ (LogRep p m L :: MedRep m M :: _) := LogRep.shut2 (lv := .slice (some ⟨bk, 0, none⟩) (n + 1) cap) (hS4.sub (by repeat (first | (with_reducible apply sub_refl) | ((with_reducible apply sub_take); (· first | ((repeat (first | with_reducible apply pick0 | with_reducible apply pick_there)); done) | ((repeat (first | apply pick0 | apply pick_there)); done) | fail)) | (with_reducible apply sub_drop))))
      go_wp2_with fail
      refine (begin_c HL.out HM.out hKK b Hb0.out (by have := Hel2.out; omega) (by first | assumption | exact Ro.of_pick (Ro.bsl _ _) (by first | ((repeat (first | with_reducible apply pick0 | with_reducible apply pick_there)); done) | ((repeat (first | apply pick0 | apply pick_there)); done) | fail) | exact Ro.of_sub (by assumption) (by repeat (first | (with_reducible apply sub_refl) | ((with_reducible apply sub_take); (· first | ((repeat (first | with_reducible apply pick0 | with_reducible apply pick_there)); done) | ((repeat (first | apply pick0 | apply pick_there)); done) | fail)) | (with_reducible apply sub_drop)))) hS5).mono ?_
      rintro ee w5 ⟨v, rfl, rfl, hS6⟩
      clear hS4 hS5 hS3
      go_wp2_with ((with_reducible apply at_store); refine ⟨?_⟩; refine wl_store (by assumption) (by rfl) (by conv => lhs; whnf) (by first | (simp only [putsAt, Value.cells]; (try go_frame); first | done | rfl) | rfl) (by first | ((repeat (first | with_reducible apply upd0 | with_reducible apply upd_there)); done) | ((repeat (first | apply upd0 | apply upd_there)); done) | fail) (Nat.le_of_ble_eq_true (by rfl)) (by kernel_rfl) (by rfl) ?_; intro wS hS)
      refine ⟨rfl, _, res_cell_tmp rfl (by assumption) (by rfl) (by first | ((repeat (first | with_reducible apply pick0 | with_reducible apply pick_there)); done) | ((repeat (first | apply pick0 | apply pick_there)); done) | fail) Tryd.underlying40 rfl (by kernel_rfl), _, rfl, ?_, ?_⟩
      · rw [hfin.out]; rfl
      · rw [hfin.out]; exact Sat.sub hS (by repeat (first | (with_reducible apply sub_refl) | ((with_reducible apply sub_take); (· first | ((repeat (first | with_reducible apply pick0 | with_reducible apply pick_there)); done) | ((repeat (first | apply pick0 | apply pick_there)); done) | fail)) | (with_reducible apply sub_drop)))
end
end Go.Proofs.YtjklhichekmdhaaDoor
