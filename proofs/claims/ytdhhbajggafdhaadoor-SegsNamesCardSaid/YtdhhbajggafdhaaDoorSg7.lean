import Derived.Test.YtdhhbajggafdhaaDoorSg6
import Derived.Test.YtdhhbajggafdhaaDoorFr6
/- Append on a log without segments. -/
namespace Go.Proofs.YtdhhbajggafdhaaDoor
open Go Go.Sl Go.Med Go.MapKept Go.RowKit
set_option linter.unusedVariables false
section
variable {w0 w : World} {F : List HProp} {v bv dv x lv : Value} {q p m K : Nat} {lim fr : Int} {M M1 M2 : Med} {nm : ByteArray} {b : Bs}
set_option maxRecDepth 20000 in
set_option maxHeartbeats 4000000 in
theorem append0_c (e : Frm.Ent) (hk : e.key.length = 32) (da : Option Addr) (dc : Nat) (hd : Ro w0 F (rdsl 1 (.slice da e.data.length dc) (bys e.data))) (hH : Ro w0 F Half) (hL : e.data.length ≤ 1099511627)
    (he : Frm.encode e = (b, 0)) (hfr : 0 ≤ fr ∧ fr < 1048576) (hM : M.Ok K) (hKK : K + 1 ≤ 1099511627776) (hb0 : b ≠ []) (hbl : b.length ≤ 1073741824)
    (hn : Seg.name 0 = nm) (hc : M.create nm = (M1, 0)) (ha : M1.append nm (magic ++ b) = (M2, 0))
    (h : Sat w0 w (LogRep p m ⟨lim, [], false, fr⟩ :: MedRep m M :: F)) :
    Calls Tryd.prog 20 #[ptr p, .agg (entA e (.slice da e.data.length dc))] w (Rtn fun v w' => v = .tuple #[.agg #[.int .i64 0, .int .i64 8, .int .i64 b.length], errno 0] ∧
      Sat w0 w' (LogRep p m ⟨lim, [(0, 8 + b.length)], true, fr + 1⟩ :: MedRep m M2 :: F)) := by
  obtain ⟨lv, hR⟩ := LogRep.open h
  clear h
  have hA := hR.alloc (.cells (entA e (.slice da e.data.length dc)) 33)
  have hB := hA.alloc (.cells #[.int .i64 0, .int .i64 0, .int .i64 0] 46)
  have hok := ok_c (hB.sel 3 [2, 0, 1] rfl rfl)
  have hsz := entA_size e (.slice da e.data.length dc) hk
  have hat := hB.pick1.at
  have Hat := Lib.hid hat; have Hsz := Lib.hid hsz
  have Hd := Lib.hid hd; have HH := Lib.hid hH; have Hk := Lib.hid hk; have HL := Lib.hid hL; have He := Lib.hid he
  have Hfr := Lib.hid hfr; have Hb0 := Lib.hid hb0; have Hbl := Lib.hid hbl; have Hn := Lib.hid hn; have Hc := Lib.hid hc; have Ha := Lib.hid ha
  clear hat hsz hd hH hk hL he hfr hb0 hbl hn hc ha
  go_enter Tryd.func20, Tryd.ntmps20
  go_wp2_with fail
  refine hok.mono ?_
  rintro ee w1 ⟨v, rfl, rfl, rfl⟩
  clear hok
  simp only [World.size_alloc] at hB
  generalize w.heap.size = qe at *
  generalize World.alloc _ _ = wa at *
  have hen := encode_c e Hk.out da dc (fun w hw => Hd.out w (hw.sel 5 [] rfl rfl)) (fun w hw => HH.out w (hw.sel 5 [] rfl rfl)) hB HL.out
  rw [He.out] at hen
  go_wp2_with (refine wpList_load_row (P := Tryd.prog) (by rfl) 33 _ (by rfl) _ (by rfl) _ _ (0, 0) _ Hat.out Tryd.underlying33 (by rfl) (by rw [Hsz.out]; kernel_rfl) ?_)
  refine hen.mono ?_
  rintro ee w2 ⟨v, rfl, bv, rfl, ⟨ba, bn, bc, rfl⟩, hS2⟩
  clear hen
  have c3 : w2.cell? ⟨p, 3, none⟩ = some (.bool false) := (hS2.sel 4 [3] rfl rfl).cellAt 3 _ rfl
  go_wp2_with fail
  have hS3 := hS2.drew
  have c3' : w2.drew.cell? ⟨p, 3, none⟩ = some (.bool false) := c3
  go_region
  clear c3 c3'
  have hbg := begin0_c (L := ⟨lim, [], false, fr⟩) (M := M) (M1 := M1) (M2 := M2) (nm := nm) (bv := .slice ba bn bc) rfl rfl Hfr.out hM hKK b Hb0.out Hbl.out (Ro.bsl _ _) Hn.out Hc.out Ha.out (LogRep.shut (hS3.sel 6 [3, 4, 5, 0, 1, 2] rfl rfl))
  go_wp2_with fail
  refine hbg.mono ?_
  rintro ee w4 ⟨v, rfl, rfl, hS4⟩
  clear hbg
  go_wp2_with (refine wpList_stop (by rfl) ?_)
  refine ⟨?_⟩
  refine wpList_store_sat (w0 := w0) (by rfl) _ _ _ (by rfl) (b := qe + 1) 0 (.agg #[.int .i64 0, .int .i64 8, .int .i64 b.length]) (by rfl) (by rfl) (Nat.le_of_ble_eq_true (by rfl)) (by kernel_rfl) (by simp [Value.cells, Value.oneCell']) hS4.pick3 ?_
  intro w5 hS5
  have hld : (loadVar 46 ⟨qe + 1, 0, none⟩).run Tryd.prog w5 = .ok (.agg #[.int .i64 0, .int .i64 8, .int .i64 b.length]) w5 :=
    run_loadVar_mid (P := Tryd.prog) w5 (qe + 1) 0 46 [.int .i64 0, .int .i64 8, .int .i64 b.length] _ (fun j v hv => by rw [Nat.zero_add]; exact hS5.cellAt j v (by rw [← List.getElem?_toArray] at hv; exact hv)) Tryd.underlying46 (by rfl) (by kernel_rfl)
  go_wp2
  refine ⟨rfl, .tuple #[.agg #[.int .i64 0, .int .i64 8, .int .i64 b.length], errno 0], ?_, _, rfl, rfl, ?_⟩
  · refine (results_cell_tmp rfl _ _ _).trans ?_
    show ((loadVar 46 ⟨qe + 1, 0, none⟩).run Tryd.prog w5).andThen _ = _
    rw [hld]
    rfl
  · exact hS5.sel 5 [1, 2] rfl rfl
end
end Go.Proofs.YtdhhbajggafdhaaDoor
