import Derived.Test.YtmjldaedhmipkaaGreatDoorJ7
set_option linter.unusedVariables false
namespace Go.Proofs.YtmjldaedhmipkaaGreatDoor
open Go Go.Sl Go.Med Go.MapKept Go.RowKit
section
variable {w0 w : World} {F : List HProp} {lv : Value}
theorem kvA_ones (q : Bs × Seg.Plc) : (kvL q).toArray.toList.all (·.oneCell') = true := by rw [List.toList_toArray]; exact kvL_ones q
theorem infoKv : (Tryz.prog.info? 117).map (·.size) = some 35 := by kernel_rfl
set_option maxRecDepth 20000 in
set_option maxHeartbeats 16000000 in
theorem rinsert_c (l : List (Bs × Seg.Plc)) (hk : ∀ q ∈ l, q.1.length = 32) (x : Bs × Seg.Plc) (hx : x.1.length = 32) (hlen : l.length ≤ 13000000) (hr : Ro w0 F (rdsl 35 lv (l.flatMap kvL))) (h : Sat w0 w F) :
    Calls Tryz.prog 158 #[lv, .agg (kvL x).toArray] w (Rtn fun v w' => ∃ ov, v = ov ∧ Sat w0 w' (osl 117 35 ov ((Tab.ins l x).flatMap kvL) :: F)) := by
  have Hkl := Lib.hid (show ∀ q ∈ l, (kvL q).length = 35 from fun q hq => kvL_len q (hk q hq))
  obtain ⟨la, lc, rfl⟩ := osl_rows Hkl.out (hr w h) (by decide)
  have Hr := Lib.hid hr; have Hx := Lib.hid hx; have Hlen := Lib.hid hlen; have Hk := Lib.hid hk
  have Hxl := Lib.hid (kvL_len x hx)
  have Hin := Lib.hid (fun i => show ∀ q ∈ (Rep.insB l x i).1, (kvL q).length = 35 from by
    induction i with
    | zero => intro q hq; cases hq
    | succ i ih =>
      unfold Rep.insB
      split
      · exact ih
      · rename_i y hy
        have hym := hk y (List.mem_of_getElem? hy)
        split
        all_goals
          intro q hq
          simp only [List.mem_append, List.mem_singleton] at hq
        · rcases hq with (hq | rfl) | rfl
          · exact ih q hq
          · exact kvL_len _ hx
          · exact kvL_len _ hym
        · rcases hq with hq | rfl
          · exact ih q hq
          · exact kvL_len _ hym)
  clear hr hx hlen hk
  go_enter Tryz.func158, Tryz.ntmps158
  go_wp2_with (with_reducible apply at_box)
  refine ⟨?_⟩
  refine wl_box h evD evD ?_
  intro b3 w3 h3
  clear h
  have h4 : Sat w0 w3 (osl 117 35 (.slice none 0 0) ((Rep.insB l x 0).1.flatMap kvL) :: pt b3 (.cells (kvL x).toArray 117 (0,0)) :: F) := Sat.osl_nil.2 h3
  clear h3
  go_wp2_with fail
  go_loopg [5, 6, 7] l.length (fun g oq dq iq wr => ∃ i : Nat, g = l.length - i ∧ i ≤ l.length ∧ iq = .int .i64 i ∧ dq = .bool (Rep.insB l x i).2 ∧
    Sat w0 wr (osl 117 35 oq ((Rep.insB l x i).1.flatMap kvL) :: pt b3 (.cells (kvL x).toArray 117 (0,0)) :: F))
  case atStart => exact ⟨0, rfl, Nat.zero_le _, rfl, rfl, h4⟩
  case round =>
    obtain ⟨i, rfl, hi, rfl, rfl, hS⟩ := hrel
    clear h4
    have hle : ((Rep.insB l x i).1.flatMap kvL).length ≤ 2147483648 := by
      rw [rows_len (k := 35) (Hin.out i)]
      have := (Rep.insB_len l x i).1
      have := Hlen.out; omega
    by_cases hlt : i < l.length
    rotate_left
    · obtain rfl : i = l.length := by omega
      have c1 : ¬ (l.length : Int) < (l.length : Int) := by omega
      clear hlt hi
      cases hd : (Rep.insB l x l.length).2 with
      | true =>
        have Hf := Lib.hid (Rep.ins_done hd)
        clear hd
        go_wp2_with fail
        go_ret
        rw [← Hf.out]
        first | exact ⟨_, rfl, hS.sb⟩ | exact ⟨_, rfl, _, rfl, hS.sb⟩
      | false =>
        have Hf := Lib.hid (Rep.ins_not hd)
        clear hd
        go_wp2_with (first
          | ((with_reducible apply at_load); refine ⟨?_⟩; refine wl_loadA (cs := (kvL x).toArray) hS (by rfl) pick1 Tryz.underlying117 rfl (by rw [List.size_toArray, Hxl.out]; exact infoKv) ?_)
          | (with_reducible apply at_build1))
        refine ⟨?_⟩
        refine wl_build1 (e := 117) (sz := 35) (by' := 56) (by kernel_rfl) hS evD (cs := (kvL x).toArray) rfl (by rw [List.size_toArray, Hxl.out]) (by decide) ?_
        intro bN wN hN
        go_wp2_with (with_reducible apply at_append)
        refine ⟨?_⟩
        refine wl_app 117 35 56 (by kernel_rfl) hN (by rfl) (by rfl) pick1 pick0 (by rw [List.size_toArray, Hxl.out]) (Nat.le_refl 1) (kvA_ones x) hle (by rw [List.size_toArray, Hxl.out]; decide) (by decide) (by rw [List.toList_toArray]) ?_
        intro bA nA cA wA hA
        have e9 : (Rep.insB l x l.length).1.flatMap kvL ++ kvL x = (Tab.ins l x).flatMap kvL := by rw [← Hf.out, List.flatMap_append]; simp
        rw [e9] at hA
        clear hN hS e9
        go_wp2_with fail
        go_ret
        first | exact ⟨_, rfl, _, rfl, hA.sb⟩ | exact ⟨_, rfl, hA.sb⟩
    have c1 : (i : Int) < (l.length : Int) := by omega
    have hwi : IntKind.i64.wrap ((i : Int) + 1) = (i : Int) + 1 := IntWalk.i64_in _ (by have := Hlen.out; omega)
    obtain ⟨y, hy⟩ : ∃ y, l[i]? = some y := ⟨_, List.getElem?_eq_getElem hlt⟩
    have Hyk := Lib.hid (Hk.out y (List.mem_of_getElem? hy))
    have Hyl := Lib.hid (kvL_len y Hyk.out)
    obtain ⟨bk, off, c', e0, _⟩ := osl_row Hkl.out (Hr.out _ hS.drop.drop) hy (by decide)
    cases e0
    have HC := Lib.hid (fun (w' : World) (hw : Sat w0 w' F) => show w'.rangeAt bk (off + i * 35) (kvL y) from by
      obtain ⟨bk', off', c'', e0, hc⟩ := osl_row Hkl.out (Hr.out _ hw) hy (by decide)
      cases e0
      exact hc)
    have Hy := Lib.hid hy; have Hlt := Lib.hid hlt
    have Hput := Lib.hid (fun (hd : (Rep.insB l x i).2 = false) (hl : x.1 < y.1) => Rep.insB_in hy hd hl)
    have Hby := Lib.hid (fun hd => Rep.insB_by (x := x) hy hd)
    clear hy hlt hi
    cases hd : (Rep.insB l x i).2 with
    | true =>
      have Hb := Lib.hid (Hby.out (fun hh => by rw [hd] at hh; cases hh.1))
      rw [hd] at Hb
      have hS1 := hS.drew
      have hcy := HC.out _ hS1.drop.drop
      clear hd hS
      go_wp2_with fail
      refine wpL_begin [10, 11] (fun w' => True) (by kernel_rfl) ?_
      have hG : True := trivial
      refine rp 0 (hy := (yl_move evD)) (h := ?_)
      refine rp 1 (hy := (yl_un evD rnD)) (h := ?_)
      refine rp 2 (hy := (yl_move evD)) (h := ?_)
      refine rg_skip 3 evD (by kernel_rfl) (by intro _ _ _ h; exact h) (by rfl) (by go_frame; first | done | rfl) ?_
      refine rg_skip 4 evD (by kernel_rfl) (by intro _ _ _ h; exact h) (by rfl) (by go_frame; first | done | rfl) ?_
      refine rg_skip 5 evD (by kernel_rfl) (by intro _ _ _ h; exact h) (by rfl) (by go_frame; first | done | rfl) ?_
      refine rg_skip 6 evD (by kernel_rfl) (by intro _ _ _ h; exact h) (by rfl) (by go_frame; first | done | rfl) ?_
      refine rg_skip 7 evD (by kernel_rfl) (by intro _ _ _ h; exact h) (by rfl) (by go_frame; first | done | rfl) ?_
      refine rg_skip 8 evD (by kernel_rfl) (by intro _ _ _ h; exact h) (by rfl) (by go_frame; first | done | rfl) ?_
      refine rg_skip 9 evD (by kernel_rfl) (by intro _ _ _ h; exact h) (by rfl) (by go_frame; first | done | rfl) ?_
      refine rg_skip 10 evD (by kernel_rfl) (by intro _ _ _ h; exact h) (by rfl) (by go_frame; first | done | rfl) ?_
      refine rp 11 (hy := (yg_pick (by rfl) evD evD)) (h := ?_)
      refine wpL_done (by kernel_rfl) ?_
      clear hG
      try simp only [List.getElem_toArray, List.getElem_cons_succ, List.getElem_cons_zero]
      try go_frame
      go_wp2_with (first
        | ((with_reducible apply at_load); refine ⟨?_⟩; refine wl_loadW (b := bk) (o := off + i * 35) (kvL y) (by rfl) hcy Tryz.underlying117 rfl (by rw [Hyl.out]; exact infoKv) ?_)
        | (with_reducible apply at_build1))
      refine ⟨?_⟩
      refine wl_build1 (e := 117) (sz := 35) (by' := 56) (by kernel_rfl) hS1 evD (cs := (kvL y).toArray) rfl (by rw [List.size_toArray, Hyl.out]) (by decide) ?_
      intro bN wN hN
      go_wp2_with (with_reducible apply at_append)
      refine ⟨?_⟩
      refine wl_app 117 35 56 (by kernel_rfl) hN (by rfl) (by rfl) pick1 pick0 (by rw [List.size_toArray, Hyl.out]) (Nat.le_refl 1) (kvA_ones y) hle (by rw [List.size_toArray, Hyl.out]; decide) (by decide) (by rw [List.toList_toArray]) ?_
      intro bA nA cA wA hA
      have e9 : (Rep.insB l x i).1.flatMap kvL ++ kvL y = (Rep.insB l x (i + 1)).1.flatMap kvL := by rw [Hb.out, List.flatMap_append]; simp
      rw [e9] at hA
      clear hN hS1 e9 hcy
      go_wp2_with fail
      go_roundg (l.length - (i + 1))
      case measure => have := Hlt.out; omega
      case rel => exact ⟨i + 1, rfl, Hlt.out, by first | rfl | go_num, by rw [Hb.out], hA.sb⟩
    | false =>
      have hS1 := hS.drew
      have hcy := HC.out _ hS1.drop.drop
      have hlc := rless_c x.1 y.1 Hx.out Hyk.out hS1
      have hrx : World.rangeAt _ b3 0 (bys x.1) := fun j v hj => by
        rw [Nat.zero_add]
        refine hS1.cellP pick1 j ?_
        rw [List.getElem?_toArray]
        unfold kvL
        rw [List.getElem?_append_left (List.getElem?_eq_some_iff.1 hj).1]; exact hj
      have hry : World.rangeAt _ bk (off + i * 35) (bys y.1) := fun j v hj => hcy j v (by
        unfold kvL
        rw [List.getElem?_append_left (List.getElem?_eq_some_iff.1 hj).1]; exact hj)
      by_cases hl : x.1 < y.1
      · have Hb := Lib.hid (Hput.out hd hl)
        rw [decide_eq_true hl] at hlc
        clear hd hS hl hcy
        go_wp2_with fail
        refine wpL_begin [10, 11] (fun w' => w'.rangeAt b3 0 (bys x.1) ∧ w'.rangeAt bk (off + i * 35) (bys y.1)) (by kernel_rfl) ?_
        have hG : World.rangeAt _ b3 0 (bys x.1) ∧ World.rangeAt _ bk (off + i * 35) (bys y.1) := ⟨hrx, hry⟩
        clear hrx hry
        refine rp 0 (hy := (yl_move evD)) (h := ?_)
        refine rp 1 (hy := (yl_un evD rnD)) (h := ?_)
        refine rp 2 (hy := (yl_move evD)) (h := ?_)
        refine rp 3 (hy := (yg_field (by rfl) evD rnD)) (h := ?_)
        refine rg_take 4 evD (by kernel_rfl) (by intro _ _ _ h; exact h) (tg_loadN (b := b3) (o := 0) (bys x.1) (by rfl) (by rfl) Tryz.underlying41 rfl (by rw [bys_len, Hx.out]; exact infoID) (fun w hw => hw.1)) (by assumption) (by go_frame; first | done | rfl) ?_
        refine rp 5 (hy := (yg_move (by rfl) evD)) (h := ?_)
        refine rp 6 (hy := (yg_move (by rfl) evD)) (h := ?_)
        refine rp 7 (hy := (yg_index (by rfl) evD evD rnD)) (h := ?_)
        refine rp 8 (hy := (yg_field (by rfl) evD rnD)) (h := ?_)
        refine rg_take 9 evD (by kernel_rfl) (by intro _ _ _ h; exact h) (tg_loadN (b := bk) (o := off + i * 35) (bys y.1) (by rfl) (by rfl) Tryz.underlying41 rfl (by rw [bys_len, Hyk.out]; exact infoID) (fun w hw => hw.2)) (by assumption) (by go_frame; first | done | rfl) ?_
        clear hG
        refine rg_eff 10 evD (by kernel_rfl) (fun K hK => ?_)
        refine eg_call [.agg (bys x.1).toArray, .agg (bys y.1).toArray] (by rfl) (by kernel_rfl) (by rfl) ?_
        refine hlc.mono ?_
        rintro ee w5 ⟨v, rfl, rfl, hS5⟩
        refine hK _ _ (.inl rfl) ?_
        clear hK hlc hS1
        refine rp 11 (hy := (yg_pick (by rfl) evD evD)) (h := ?_)
        refine wpL_done (by kernel_rfl) ?_
        try simp only [List.getElem_toArray, List.getElem_cons_succ, List.getElem_cons_zero]
        try go_frame
        go_wp2_with (first
          | ((with_reducible apply at_load); refine ⟨?_⟩; refine wl_loadA (cs := (kvL x).toArray) hS5 (by rfl) pick1 Tryz.underlying117 rfl (by rw [List.size_toArray, Hxl.out]; exact infoKv) ?_)
          | (with_reducible apply at_build1))
        refine ⟨?_⟩
        refine wl_build1 (e := 117) (sz := 35) (by' := 56) (by kernel_rfl) hS5 evD (cs := (kvL x).toArray) rfl (by rw [List.size_toArray, Hxl.out]) (by decide) ?_
        intro bN wN hN
        go_wp2_with (with_reducible apply at_append)
        refine ⟨?_⟩
        refine wl_app 117 35 56 (by kernel_rfl) hN (by rfl) (by rfl) pick1 pick0 (by rw [List.size_toArray, Hxl.out]) (Nat.le_refl 1) (kvA_ones x) hle (by rw [List.size_toArray, Hxl.out]; decide) (by decide) (by rw [List.toList_toArray]) ?_
        intro bA nA cA wA hA
        have hcy := HC.out _ hA.drop.drop
        have hle2 : ((Rep.insB l x i).1.flatMap kvL ++ kvL x).length ≤ 2147483648 := by
          rw [List.length_append, rows_len (k := 35) (Hin.out i), Hxl.out]
          have := (Rep.insB_len l x i).1
          have := Hlen.out; omega
        generalize hLL : (Rep.insB l x i).1.flatMap kvL ++ kvL x = LL at *
        have HLL := Lib.hid hLL
        clear hN hS5 hLL
        go_wp2_with (first
          | ((with_reducible apply at_load); refine ⟨?_⟩; refine wl_loadW (b := bk) (o := off + i * 35) (kvL y) (by rfl) hcy Tryz.underlying117 rfl (by rw [Hyl.out]; exact infoKv) ?_)
          | (with_reducible apply at_build1))
        refine ⟨?_⟩
        refine wl_build1 (e := 117) (sz := 35) (by' := 56) (by kernel_rfl) hA evD (cs := (kvL y).toArray) rfl (by rw [List.size_toArray, Hyl.out]) (by decide) ?_
        intro bN wN hN
        go_wp2_with (with_reducible apply at_append)
        refine ⟨?_⟩
        refine wl_app 117 35 56 (by kernel_rfl) hN (by rfl) (by rfl) pick1 pick0 (by rw [List.size_toArray, Hyl.out]) (Nat.le_refl 1) (kvA_ones y) hle2 (by rw [List.size_toArray, Hyl.out]; decide) (by decide) (by rw [List.toList_toArray]) ?_
        intro bA2 nA2 cA2 wA2 hA2
        have e9 : LL ++ kvL y = (Rep.insB l x (i + 1)).1.flatMap kvL := by rw [← HLL.out, Hb.out, List.flatMap_append, List.flatMap_append]; simp
        rw [e9] at hA2
        clear hN hA e9 hcy
        go_wp2_with fail
        go_roundg (l.length - (i + 1))
        case measure => have := Hlt.out; omega
        case rel => exact ⟨i + 1, rfl, Hlt.out, by first | rfl | go_num, by rw [Hb.out], hA2.sb⟩
      · have Hb := Lib.hid (Hby.out (fun hh => hl hh.2))
        rw [hd] at Hb
        rw [decide_eq_false hl] at hlc
        clear hd hS hl hcy
        go_wp2_with fail
        refine wpL_begin [10, 11] (fun w' => w'.rangeAt b3 0 (bys x.1) ∧ w'.rangeAt bk (off + i * 35) (bys y.1)) (by kernel_rfl) ?_
        have hG : World.rangeAt _ b3 0 (bys x.1) ∧ World.rangeAt _ bk (off + i * 35) (bys y.1) := ⟨hrx, hry⟩
        clear hrx hry
        refine rp 0 (hy := (yl_move evD)) (h := ?_)
        refine rp 1 (hy := (yl_un evD rnD)) (h := ?_)
        refine rp 2 (hy := (yl_move evD)) (h := ?_)
        refine rp 3 (hy := (yg_field (by rfl) evD rnD)) (h := ?_)
        refine rg_take 4 evD (by kernel_rfl) (by intro _ _ _ h; exact h) (tg_loadN (b := b3) (o := 0) (bys x.1) (by rfl) (by rfl) Tryz.underlying41 rfl (by rw [bys_len, Hx.out]; exact infoID) (fun w hw => hw.1)) (by assumption) (by go_frame; first | done | rfl) ?_
        refine rp 5 (hy := (yg_move (by rfl) evD)) (h := ?_)
        refine rp 6 (hy := (yg_move (by rfl) evD)) (h := ?_)
        refine rp 7 (hy := (yg_index (by rfl) evD evD rnD)) (h := ?_)
        refine rp 8 (hy := (yg_field (by rfl) evD rnD)) (h := ?_)
        refine rg_take 9 evD (by kernel_rfl) (by intro _ _ _ h; exact h) (tg_loadN (b := bk) (o := off + i * 35) (bys y.1) (by rfl) (by rfl) Tryz.underlying41 rfl (by rw [bys_len, Hyk.out]; exact infoID) (fun w hw => hw.2)) (by assumption) (by go_frame; first | done | rfl) ?_
        clear hG
        refine rg_eff 10 evD (by kernel_rfl) (fun K hK => ?_)
        refine eg_call [.agg (bys x.1).toArray, .agg (bys y.1).toArray] (by rfl) (by kernel_rfl) (by rfl) ?_
        refine hlc.mono ?_
        rintro ee w5 ⟨v, rfl, rfl, hS5⟩
        refine hK _ _ (.inl rfl) ?_
        clear hK hlc hS1
        refine rp 11 (hy := (yg_pick (by rfl) evD evD)) (h := ?_)
        refine wpL_done (by kernel_rfl) ?_
        try simp only [List.getElem_toArray, List.getElem_cons_succ, List.getElem_cons_zero]
        try go_frame
        have hcy := HC.out _ hS5.drop.drop
        go_wp2_with (first
          | ((with_reducible apply at_load); refine ⟨?_⟩; refine wl_loadW (b := bk) (o := off + i * 35) (kvL y) (by rfl) hcy Tryz.underlying117 rfl (by rw [Hyl.out]; exact infoKv) ?_)
          | (with_reducible apply at_build1))
        refine ⟨?_⟩
        refine wl_build1 (e := 117) (sz := 35) (by' := 56) (by kernel_rfl) hS5 evD (cs := (kvL y).toArray) rfl (by rw [List.size_toArray, Hyl.out]) (by decide) ?_
        intro bN wN hN
        go_wp2_with (with_reducible apply at_append)
        refine ⟨?_⟩
        refine wl_app 117 35 56 (by kernel_rfl) hN (by rfl) (by rfl) pick1 pick0 (by rw [List.size_toArray, Hyl.out]) (Nat.le_refl 1) (kvA_ones y) hle (by rw [List.size_toArray, Hyl.out]; decide) (by decide) (by rw [List.toList_toArray]) ?_
        intro bA nA cA wA hA
        have e9 : (Rep.insB l x i).1.flatMap kvL ++ kvL y = (Rep.insB l x (i + 1)).1.flatMap kvL := by rw [Hb.out, List.flatMap_append]; simp
        rw [e9] at hA
        clear hN hS5 e9 hcy
        go_wp2_with fail
        go_roundg (l.length - (i + 1))
        case measure => have := Hlt.out; omega
        case rel => exact ⟨i + 1, rfl, Hlt.out, by first | rfl | go_num, by rw [Hb.out], hA.sb⟩
end
end Go.Proofs.YtmjldaedhmipkaaGreatDoor
namespace Go.Seg
open Go.Med
def Log.rbegin1 (L : Log) (D : Med) (b : Bs) : (Log × Med) × Plc × Int :=
  if 1048576 ≤ L.next then ((L, D), Plc.zero, 16)
  else if (D.create (name L.next)).2 ≠ 0 then ((L, (D.create (name L.next)).1), Plc.zero, (D.create (name L.next)).2)
  else if ((D.create (name L.next)).1.append (name L.next) (mag ++ b)).2 = 0 then
    (({ L with l := L.l ++ [(L.next, 8 + (b.length : Int))], on := true, fresh := L.fresh + 1 }, ((D.create (name L.next)).1.append (name L.next) (mag ++ b)).1), ⟨L.next, 8, b.length⟩, 0)
  else if ((D.create (name L.next)).1.append (name L.next) (mag ++ b)).2 = 11 then
    ((L, (((D.create (name L.next)).1.append (name L.next) (mag ++ b)).1.rmove (name L.next) ByteArray.empty true).1), Plc.zero,
      if (((D.create (name L.next)).1.append (name L.next) (mag ++ b)).1.rmove (name L.next) ByteArray.empty true).2 = 12 then 12 else 11)
  else ((L, ((D.create (name L.next)).1.append (name L.next) (mag ++ b)).1), Plc.zero, ((D.create (name L.next)).1.append (name L.next) (mag ++ b)).2)
def Log.rbegin (L : Log) (D : Med) (b : Bs) : (Log × Med) × Plc × Int :=
  if (L.shut D).2 = 0 then (L.shut D).1.1.rbegin1 (L.shut D).1.2 b else ((L.shut D).1, Plc.zero, (L.shut D).2)
def Log.rappend (L : Log) (D : Med) (x : Frm.Ent) : (Log × Med) × Plc × Int :=
  if (Frm.encode x).2 ≠ 0 then ((L, D), Plc.zero, (Frm.encode x).2)
  else if L.fits (Frm.encode x).1.length = true then L.grow D (Frm.encode x).1 else L.rbegin D (Frm.encode x).1
def Log.rcommit (L : Log) (M : Med) : (Log × Med) × Int × Int :=
  if (L.rappend M comEnt).2.2 ≠ 0 then ((L.rappend M comEnt).1, 0, (L.rappend M comEnt).2.2)
  else if ((L.rappend M comEnt).1.2.sync (name (L.rappend M comEnt).2.1.seg)).2 ≠ 0 then (((L.rappend M comEnt).1.1, ((L.rappend M comEnt).1.2.sync (name (L.rappend M comEnt).2.1.seg)).1), 0, ((L.rappend M comEnt).1.2.sync (name (L.rappend M comEnt).2.1.seg)).2)
  else if (((L.rappend M comEnt).1.2.sync (name (L.rappend M comEnt).2.1.seg)).1.syncDir).2 ≠ 0 then (((L.rappend M comEnt).1.1, (((L.rappend M comEnt).1.2.sync (name (L.rappend M comEnt).2.1.seg)).1.syncDir).1), 0, (((L.rappend M comEnt).1.2.sync (name (L.rappend M comEnt).2.1.seg)).1.syncDir).2)
  else (({ (L.rappend M comEnt).1.1 with on := false, fresh := 0 }, (((L.rappend M comEnt).1.2.sync (name (L.rappend M comEnt).2.1.seg)).1.syncDir).1), (L.rappend M comEnt).2.1.seg, 0)
def Log.rremove (L : Log) (D : Med) (n : Int) : (Log × Med) × Int :=
  match L.at n with
  | none => ((L, D), 9)
  | some i => if (D.rmove (name n) ByteArray.empty true).2 = 0 then ((L.without i, (D.rmove (name n) ByteArray.empty true).1), 0) else ((L, (D.rmove (name n) ByteArray.empty true).1), (D.rmove (name n) ByteArray.empty true).2)
def Agree {α : Type} (r q : (Log × Med) × α) : Prop := r.1.1 = q.1.1 ∧ r.2 = q.2 ∧ ∃ φ V, Side φ V r.1.2 q.1.2
section
variable {φ : Nat → Nat} {V : Nat → Prop} {M D : Med} {K : Nat} {L : Log}
end
end Go.Seg
namespace Go.Seg
open Go.Med
structure Fit (K : Nat) (D : Med) : Prop where
  ok : D.Ok K
  small : D.Small
  files : D.files.length ≤ 500 + K
section
variable {φ : Nat → Nat} {V : Nat → Prop} {M D : Med} {K : Nat} {L : Log}
theorem Fit.mono {K' : Nat} (h : Fit K D) (hk : K ≤ K') : Fit K' D := ⟨h.ok.mono hk, h.small, by have := h.files; omega⟩
theorem Fit.new (K r : Nat) (h : r ≤ 16777216) : Fit K (new r) := ⟨Med.Ok.new K r h, (fun f hf => by cases hf), Nat.zero_le _⟩
theorem Fit.told (h : Fit K D) (x : Med.Cal) (hn : x.n ≤ 9223372036854775807) : Fit (K + 1) (D.told x).1 := ⟨h.ok.told x hn, h.small.told h.ok x, told_files h.ok h.files x⟩
theorem Fit.create (h : Fit K D) (s : ByteArray) : Fit (K + 1) (D.create s).1 := h.told ⟨0, s, s, 0, 0, [], []⟩ (show (0 : Int) ≤ 9223372036854775807 by decide)
theorem Fit.append (h : Fit K D) (s : ByteArray) (b : Bs) : Fit (K + 1) (D.append s b).1 := h.told ⟨1, s, s, 0, 0, b, []⟩ (show (0 : Int) ≤ 9223372036854775807 by decide)
theorem Fit.now (h : Fit K D) : D.now.length ≤ 500 := h.ok.nowOk.len
theorem Fit.len (h : Fit K D) {s : ByteArray} {i : Nat} (hi : nget D.now s = some i) : i < D.files.length ∧ (D.file i).now.length ≤ 1099511627776 := by
  refine ⟨h.ok.nowOk.ids _ (nget_mem hi), ?_⟩
  have := (h.ok.file i).now_len
  omega
def Log.rback : Nat → Log → Med → (Log × Med) × Int
  | 0, L, M => (({ L with on := false }, M), 0)
  | k + 1, L, M =>
    match L.l.getLast? with
    | none => (({ L with on := false }, M), 0)
    | some s => if (L.rremove M s.1).2 = 0 then Log.rback k (L.rremove M s.1).1.1 (L.rremove M s.1).1.2 else L.rremove M s.1
def Log.rrollback (L : Log) (M : Med) : (Log × Med) × Int := L.rback L.fresh.toNat M
end
end Go.Seg
namespace Go.Frm
def bst (x : Nat) : Nat := (x / 2) ^^^ (if x % 2 = 1 then 3988292384 else 0)
theorem xor_half (a b : Nat) : (a ^^^ b) / 2 = a / 2 ^^^ b / 2 := by
  have h := Nat.shiftRight_xor_distrib (a := a) (b := b) (i := 1)
  simpa [Nat.shiftRight_eq_div_pow] using h
theorem xor_par (a b : Nat) : (a ^^^ b) % 2 = (a % 2 + b % 2) % 2 := by
  have h := Nat.testBit_xor a b 0
  rw [Nat.testBit_zero, Nat.testBit_zero, Nat.testBit_zero] at h
  rcases Nat.mod_two_eq_zero_or_one a with h1 | h1 <;> rcases Nat.mod_two_eq_zero_or_one b with h2 | h2 <;> rcases Nat.mod_two_eq_zero_or_one (a ^^^ b) with h3 | h3 <;> simp [h1, h2, h3] at h ⊢
theorem bst_x (u z : Nat) : bst (u ^^^ z) = (u / 2) ^^^ ((z / 2) ^^^ (if (u % 2 + z % 2) % 2 = 1 then 3988292384 else 0)) := by
  unfold bst
  rw [xor_half, xor_par, Nat.xor_assoc]
theorem bst4 (y : Nat) : bst (bst (bst (bst y))) = fold4 y := by
  have h0 : y = y ^^^ 0 := (Nat.xor_zero y).symm
  conv => lhs; rw [h0]
  rw [bst_x, bst_x, bst_x, bst_x]
  rw [show y / 2 / 2 / 2 / 2 = y / 16 by omega]
  unfold fold4
  congr 1
  have e0 : y % 2 = (y % 16) % 2 := by omega
  have e1 : y / 2 % 2 = (y % 16) / 2 % 2 := by omega
  have e2 : y / 2 / 2 % 2 = (y % 16) / 2 / 2 % 2 := by omega
  have e3 : y / 2 / 2 / 2 % 2 = (y % 16) / 2 / 2 / 2 % 2 := by omega
  rw [e0, e1, e2, e3]
  have hr : y % 16 < 16 := by omega
  clear e0 e1 e2 e3 h0
  generalize y % 16 = r at *
  revert r
  decide +kernel
def bitIn (x c k : Nat) : Nat := if x % 2 ≠ c / 2 ^ k % 2 then (x / 2) ^^^ 3988292384 else x / 2
theorem bitIn_eq (x c k : Nat) : bitIn x c k ^^^ (c / 2 ^ (k + 1)) = bst (x ^^^ (c / 2 ^ k)) := by
  rw [bst_x]
  unfold bitIn
  have e : c / 2 ^ (k + 1) = c / 2 ^ k / 2 := by rw [Nat.pow_succ, Nat.div_div_eq_div_mul]
  rw [e]
  have h1 : x % 2 < 2 := Nat.mod_lt _ (by decide)
  have h2 : c / 2 ^ k % 2 < 2 := Nat.mod_lt _ (by decide)
  by_cases h : x % 2 = c / 2 ^ k % 2
  · rw [if_neg (by omega), if_neg (by omega), Nat.xor_zero]
  · rw [if_pos h, if_pos (by omega), Nat.xor_assoc, Nat.xor_comm 3988292384]
def bitsIn (x c : Nat) : Nat → Nat
  | 0 => x
  | k + 1 => bitIn (bitsIn x c k) c k
theorem bitsIn_8 (x : Nat) (c : UInt8) : bitsIn x c.toNat 8 = crcStep x c := by
  have hc := c.toNat_lt
  have h0 : bitsIn x c.toNat 8 = bitsIn x c.toNat 8 ^^^ (c.toNat / 2 ^ 8) := by rw [show c.toNat / 2 ^ 8 = 0 by omega, Nat.xor_zero]
  rw [h0]
  show bitIn _ _ 7 ^^^ _ = _
  rw [bitIn_eq _ _ 7]
  show bst (bitIn _ _ 6 ^^^ _) = _
  rw [bitIn_eq _ _ 6]
  show bst (bst (bitIn _ _ 5 ^^^ _)) = _
  rw [bitIn_eq _ _ 5]
  show bst (bst (bst (bitIn _ _ 4 ^^^ _))) = _
  rw [bitIn_eq _ _ 4]
  show bst (bst (bst (bst (bitIn _ _ 3 ^^^ _)))) = _
  rw [bst4, bitIn_eq _ _ 3]
  show fold4 (bst (bitIn _ _ 2 ^^^ _)) = _
  rw [bitIn_eq _ _ 2]
  show fold4 (bst (bst (bitIn _ _ 1 ^^^ _))) = _
  rw [bitIn_eq _ _ 1]
  show fold4 (bst (bst (bst (bitIn _ _ 0 ^^^ _)))) = _
  rw [bitIn_eq _ _ 0, bst4]
  show fold4 (fold4 (x ^^^ c.toNat / 2 ^ 0)) = _
  rw [show c.toNat / 2 ^ 0 = c.toNat by rw [Nat.pow_zero, Nat.div_one]]
  rfl
theorem bitIn_lt {x : Nat} (h : x < 4294967296) (c k : Nat) : bitIn x c k < 4294967296 := by
  unfold bitIn
  split
  · exact xor_lt (by omega) (by decide)
  · omega
theorem bitsIn_lt {x : Nat} (h : x < 4294967296) (c : Nat) : ∀ k, bitsIn x c k < 4294967296
  | 0 => h
  | k + 1 => bitIn_lt (bitsIn_lt h c k) c k
theorem le_snoc (x : Nat) : ∀ n, le x (n + 1) = le x n ++ [UInt8.ofNat (x / 256 ^ n % 256)] := by
  intro n
  induction n generalizing x with
  | zero => simp [le]
  | succ n ih =>
    show UInt8.ofNat (x % 256) :: le (x / 256) (n + 1) = UInt8.ofNat (x % 256) :: le (x / 256) n ++ _
    rw [ih, Nat.div_div_eq_div_mul, Nat.mul_comm 256, ← Nat.pow_succ]; rfl
end Go.Frm
namespace Go.Proofs.YtmjldaedhmipkaaGreatDoor
open Go Go.Sl Go.Med Go.MapKept Go.RowKit
section
variable {w0 w : World} {F : List HProp} {v bv : Value}
set_option maxHeartbeats 2000000 in
theorem radd_c (l : Bs) (hr : rdsl 1 bv (bys l) w) (hl : l.length ≤ 1099511627776) :
    Calls Tryz.prog 162 #[.int .u32 0, bv] w (Rtn fun v w' => v = .int .u32 (Frm.crc l : Nat) ∧ w = w') := by
  obtain ⟨a, n, c, rfl, hn, _⟩ := id hr
  rw [bys_len, Nat.mul_one] at hn
  subst hn
  have hx0 : bits .xor .u32 0 4294967295 = 4294967295 := by decide +kernel
  have Hl := Lib.hid hl
  clear hl
  go_enter Tryz.func162, Tryz.ntmps162
  go_wp2_with fail
  clear hx0
  go_loopg [5, 6] l.length (fun g xv iq wr => ∃ i : Nat, g = l.length - i ∧ i ≤ l.length ∧ iq = .int .i64 i ∧ xv = .int .u32 ((l.take i).foldl Frm.crcStep 4294967295 : Nat) ∧ wr = w)
  case atStart => exact ⟨0, rfl, Nat.zero_le _, rfl, rfl, rfl⟩
  case round =>
    obtain ⟨i, rfl, hi, rfl, rfl, rfl⟩ := hrel
    have hxlt : (l.take i).foldl Frm.crcStep 4294967295 < 4294967296 := Frm.foldl_lt _ _ (by decide)
    by_cases hi' : i < l.length
    · have hb : (bys l)[i]? = some (.int .u8 (l[i]'hi').toNat) := by unfold bys; simp [hi']
      obtain ⟨bk, off, rfl, c1⟩ := rdsl_cell hr hb
      have hnext : (l.take (i + 1)).foldl Frm.crcStep 4294967295 = Frm.bitsIn ((l.take i).foldl Frm.crcStep 4294967295) (l[i]'hi').toNat 8 := by
        rw [List.take_succ_eq_append_getElem hi', List.foldl_append, Frm.bitsIn_8]; rfl
      have hic : (i : Int) < (l.length : Int) := by omega
      have hwi : IntKind.i64.wrap ((i : Int) + 1) = (i : Int) + 1 := IntWalk.i64_in _ (by have h1 := Hl.out; omega)
      have hcb := (l[i]'hi').toNat_lt
      have Hnext := Lib.hid hnext
      have Hi' := Lib.hid hi'
      clear hb hnext hr
      generalize (l[i]'hi').toNat = cb at *
      generalize (l.take i).foldl Frm.crcStep 4294967295 = x at *
      have Hx := Lib.hid hxlt; have Hcb := Lib.hid hcb
      clear hxlt hcb hi'
      go_wp2_with fail
      go_loopg [5, 7] 8 (fun g xv kq wq => ∃ k : Nat, g = 8 - k ∧ k ≤ 8 ∧ kq = .int .u64 k ∧ xv = .int .u32 (Frm.bitsIn x cb k : Nat) ∧ wq = wr)
      case atStart => exact ⟨0, rfl, Nat.zero_le _, rfl, rfl, rfl⟩
      case round =>
        obtain ⟨k, rfl, hk, rfl, rfl, rfl⟩ := hrel
        by_cases hk' : k < 8
        · have d1 : (k : Int) < 8 := by omega
          have hX := Frm.bitsIn_lt Hx.out cb k
          have hstep : Frm.bitsIn x cb (k + 1) = Frm.bitIn (Frm.bitsIn x cb k) cb k := rfl
          unfold Frm.bitIn at hstep
          generalize Frm.bitsIn x cb k = X at *
          have d2 : (X : Int) / 2 % 4294967296 = ((X / 2 : Nat) : Int) := by omega
          obtain ⟨p, hp⟩ : ∃ p, p = X % 2 := ⟨_, rfl⟩
          obtain ⟨q, hq⟩ : ∃ q, q = cb / 2 ^ k % 2 := ⟨_, rfl⟩
          rw [← hp, ← hq] at hstep
          have f1 : bits .and .u32 (X : Int) 1 = (p : Int) := by
            have := u32_and_nat X 1 hX (by decide)
            rw [Nat.and_one_is_mod, ← hp] at this
            exact this
          have hcb := Hcb.out
          have f2 : bits .and .u8 ((cb : Int) / 2 ^ k) 1 = (q : Int) := by
            have h1 : cb / 2 ^ k < 256 := Nat.lt_of_le_of_lt (Nat.div_le_self _ _) hcb
            have := u8_and_nat (cb / 2 ^ k) 1 h1 (by decide)
            rw [Nat.and_one_is_mod, ← hq] at this
            rw [← this, Int.natCast_ediv, Int.natCast_pow]; rfl
          have f4 : (q : Int) % 4294967296 = (q : Int) := by omega
          have f3 : bits .xor .u32 ((X : Int) / 2) 3988292384 = ((X / 2 ^^^ 3988292384 : Nat) : Int) := by
            have := u32_xor_nat (X / 2) 3988292384 (by omega) (by decide)
            rw [← this]; rfl
          have hwk : IntKind.u64.wrap ((k : Int) + 1) = (k : Int) + 1 := by show ((k : Int) + 1) % 18446744073709551616 = _; omega
          have Hstep := Lib.hid hstep
          clear hstep hp hq hcb hX
          by_cases hpq : p = q
          · subst hpq
            go_wp2_with fail
            go_roundg (8 - (k + 1))
            case measure => omega
            case rel => exact ⟨k + 1, rfl, by omega, by first | rfl | go_num, by rw [Hstep.out, if_neg (by simp)]; rfl, rfl⟩
          · have hne : ((p : Int) == (q : Int)) = false := by rw [beq_eq_false_iff_ne]; omega
            generalize X / 2 ^^^ 3988292384 = Y at *
            go_wp2_with fail
            go_roundg (8 - (k + 1))
            case measure => omega
            case rel => exact ⟨k + 1, rfl, by omega, by first | rfl | go_num, by rw [Hstep.out, if_pos hpq], rfl⟩
        · obtain rfl : k = 8 := by omega
          have d1 : ¬ ((8 : Nat) : Int) < 8 := by decide
          go_wp2_with fail
          go_roundg (l.length - (i + 1))
          case measure => have := Hi'.out; omega
          case rel => exact ⟨i + 1, rfl, Nat.succ_le_of_lt Hi'.out, by first | rfl | go_num, by rw [Hnext.out], rfl⟩
    · obtain rfl : i = l.length := by omega
      have hic : ¬ (l.length : Int) < (l.length : Int) := by omega
      rw [List.take_length] at *
      have hn2 : bits .xor .u32 ((l.foldl Frm.crcStep 4294967295 : Nat) : Int) 4294967295 = ((4294967295 - l.foldl Frm.crcStep 4294967295 : Nat) : Int) := by
        have h1 := not_u32 _ hxlt
        have h2 := u32_xor_nat (l.foldl Frm.crcStep 4294967295) 4294967295 hxlt (by decide)
        have h3 := u32_xor_nat 4294967295 (l.foldl Frm.crcStep 4294967295) (by decide) hxlt
        rw [← h1]
        show bits .xor .u32 _ ((4294967295 : Nat) : Int) = bits .xor .u32 ((4294967295 : Nat) : Int) _
        rw [h2, h3, Nat.xor_comm]
      have hfin : Frm.crc l = 4294967295 - l.foldl Frm.crcStep 4294967295 := rfl
      rw [← hfin] at hn2
      generalize l.foldl Frm.crcStep 4294967295 = x at *
      clear hi hi' hxlt hfin
      go_wp2
      go_ret
      exact ⟨_, rfl, rfl, rfl⟩
theorem rsum_c (l : Bs) (hr : rdsl 1 bv (bys l) w) (hl : l.length ≤ 1099511627776) :
    Calls Tryz.prog 130 #[bv] w (Rtn fun v w' => v = .int .u32 (Frm.crc l : Nat) ∧ w = w') := by
  have ha := radd_c l hr hl
  obtain ⟨a, n, c, rfl, hn, _⟩ := id hr
  clear hr hl
  go_enter Tryz.func130, Tryz.ntmps130
  go_wp2_with fail
  refine ha.mono ?_
  rintro e w1 ⟨v, rfl, rfl, rfl⟩
  clear ha
  go_wp2
  go_ret
  exact ⟨_, rfl, rfl, rfl⟩
end
end Go.Proofs.YtmjldaedhmipkaaGreatDoor
namespace Go.Frm
theorem num_drop {l : Bs} {i : Nat} (h : i < l.length) : num (l.drop i) = (l[i]'h).toNat + 256 * num (l.drop (i + 1)) := by
  rw [List.drop_eq_getElem_cons h]; rfl
end Go.Frm
namespace Go.Proofs.YtmjldaedhmipkaaGreatDoor
open Go Go.Sl Go.Med Go.MapKept Go.RowKit
section
variable {w0 w : World} {F : List HProp} {v bv : Value}
set_option maxHeartbeats 2000000 in
theorem rput_c (x n : Nat) (hx : x < 18446744073709551616) (h1 : 1 ≤ n) (h8 : n ≤ 8) (h : Sat w0 w F) :
    Calls Tryz.prog 129 #[.int .u64 x, .int .i64 n] w (Rtn fun v w' => Sat w0 w' (bsl v (Frm.le x n) :: F) ∧ ∃ a n c, v = .slice a n c) := by
  have d1 : decide ((n : Int) < 1) = false := by rw [decide_eq_false_iff_not]; omega
  have d2 : decide (8 < (n : Int)) = false := by rw [decide_eq_false_iff_not]; omega
  have d1' : ¬ n < 1 := by omega
  have d2' : ¬ 8 < n := by omega
  have Hx := Lib.hid hx; have H8 := Lib.hid h8
  clear hx h1 h8
  go_enter Tryz.func129, Tryz.ntmps129
  go_wp2_with fail
  clear d1 d2 d1' d2'
  go_loopg [0, 5, 6] n (fun g xq bq iq wr => ∃ i : Nat, g = n - i ∧ i ≤ n ∧ iq = .int .i64 i ∧ xq = .int .u64 (x / 256 ^ i : Nat) ∧ Sat w0 wr (bsl bq (Frm.le x i) :: F))
  case atStart => exact ⟨0, rfl, Nat.zero_le _, rfl, by rw [Nat.pow_zero, Nat.div_one], Sat.osl_nil.2 h⟩
  case round =>
    obtain ⟨i, rfl, hi, rfl, rfl, hS⟩ := hrel
    clear h
    obtain ⟨ba, bn, bc, rfl, _⟩ := id (Sat.rd hS)
    by_cases hlt : i < n
    · have c1 : (i : Int) < (n : Int) := by omega
      have h8 := H8.out
      have hwi : IntKind.i64.wrap ((i : Int) + 1) = (i : Int) + 1 := IntWalk.i64_in _ (by omega)
      have hX : x / 256 ^ i < 18446744073709551616 := Nat.lt_of_le_of_lt (Nat.div_le_self _ _) Hx.out
      have hnx : x / 256 ^ (i + 1) = x / 256 ^ i / 256 := by rw [Nat.pow_succ, Nat.div_div_eq_div_mul]
      have hle := Frm.le_snoc x i
      have Hle := Lib.hid hle; have Hnx := Lib.hid hnx; have Hlt := Lib.hid hlt
      have hlen : (bys (Frm.le x i)).length ≤ 2147483648 := by rw [bys_len, Frm.le_len]; omega
      clear hle hnx hlt h8
      generalize x / 256 ^ i = X at *
      obtain ⟨cc, hcc⟩ : ∃ cc, cc = UInt8.ofNat (X % 256) := ⟨_, rfl⟩
      have hcv : (X : Int) % 256 = (cc.toNat : Int) := by rw [hcc, UInt8.toNat_ofNat']; omega
      have hcw : (cc.toNat : Int) % 256 = (cc.toNat : Int) := by have := cc.toNat_lt; omega
      have hdv : (X : Int) / 256 = ((X / 256 : Nat) : Int) := rfl
      have hdw : ((X / 256 : Nat) : Int) % 18446744073709551616 = ((X / 256 : Nat) : Int) := by omega
      rw [← hcc] at Hle
      clear hcc hX
      generalize X / 256 = Y at *
      have hSo : Sat w0 wr (osl 5 1 (.slice ba bn bc) (bys (Frm.le x i)) :: F) := hS
      generalize hB : bys (Frm.le x i) = B at *
      clear hS
      go_wp2_with (first
        | ((with_reducible apply at_build1); refine ⟨?_⟩; refine wl_build1 (e := 5) (sz := 1) (by' := 1) (by kernel_rfl) (by assumption) evD evD (by rfl) (Nat.le_of_ble_eq_true (by rfl)) ?_; intro bN wN hN)
        | ((with_reducible apply at_append); refine ⟨?_⟩; refine wl_app 5 1 1 (by kernel_rfl) hN (by rfl) (by rfl) (pick_there pick0) pick0 (by rfl) (Nat.le_refl 1) (by rfl) hlen (by show 1 ≤ 65536; decide) (by decide) evD ?_; intro bA nA cA wA hA))
      go_roundg (n - (i + 1))
      case measure => have := Hlt.out; omega
      case rel =>
        refine ⟨i + 1, rfl, Nat.succ_le_of_lt Hlt.out, by first | rfl | go_num, by rw [Hnx.out], ?_⟩
        rw [Hle.out]
        unfold bsl
        have e : bys (Frm.le x i ++ [cc]) = B ++ [Value.int .u8 cc.toNat] := by rw [← hB]; unfold bys; rw [List.map_append]; rfl
        rw [e]
        exact hA
    · obtain rfl : i = n := by omega
      have c1 : ¬ (i : Int) < (i : Int) := by omega
      clear hlt
      go_wp2
      go_ret
      exact ⟨_, rfl, hS, _, _, _, rfl⟩
set_option maxHeartbeats 2000000 in
theorem rmagic_c (h : Sat w0 w F) :
    Calls Tryz.prog 132 #[] w (Rtn fun v w' => ∃ b, v = .slice (some ⟨b, 0, none⟩) 8 8 ∧ Sat w0 w' (bsl v [72, 79, 65, 82, 68, 83, 69, 71] :: F)) := by
  have hA := h.alloc (.cells #[.int .u8 72, .int .u8 79, .int .u8 65, .int .u8 82, .int .u8 68, .int .u8 83, .int .u8 69, .int .u8 71] 5)
  go_enter Tryz.func132, Tryz.ntmps132
  go_wp2
  go_ret
  exact ⟨_, rfl, _, rfl, Sat.osl_of_pt hA rfl (Nat.le_refl _) (Nat.le_refl _) (by decide) rfl⟩
set_option maxHeartbeats 2000000 in
theorem rget_c (l : Bs) (h1 : 1 ≤ l.length) (h8 : l.length ≤ 8) (hr : rdsl 1 bv (bys l) w) :
    Calls Tryz.prog 145 #[bv] w (Rtn fun v w' => v = .tuple #[.int .u64 (Frm.num l : Nat), .bool true] ∧ w = w') := by
  obtain ⟨a, n, c, rfl, hn, _⟩ := id hr
  rw [bys_len, Nat.mul_one] at hn
  subst hn
  have d1 : ((l.length : Int) == 0) = false := by rw [beq_eq_false_iff_ne]; omega
  have d2 : decide (8 < (l.length : Int)) = false := by rw [decide_eq_false_iff_not]; omega
  have d1' : ¬ l.length = 0 := by omega
  have d2' : ¬ 8 < l.length := by omega
  have hw1 : IntKind.i64.wrap ((l.length : Int) - 1) = (l.length : Int) - 1 := IntWalk.i64_in _ (by omega)
  have H8 := Lib.hid h8; have Hr := Lib.hid hr
  clear h1 h8 hr
  go_enter Tryz.func145, Tryz.ntmps145
  go_wp2_with fail
  clear d1 d2 d1' d2'
  go_loopg [4, 5] l.length (fun g xq iq wr => ∃ (m : Nat) (z : Int), g = l.length - (l.length - m) ∧ m ≤ l.length ∧ iq = .int .i64 z ∧ z = (m : Int) - 1 ∧ xq = .int .u64 (Frm.num (l.drop m) : Nat) ∧ wr = w)
  case atStart => exact ⟨l.length, _, by omega, Nat.le_refl _, rfl, rfl, by rw [List.drop_length]; rfl, rfl⟩
  case round =>
    obtain ⟨m, zz, rfl, hm, rfl, hzz, rfl, rfl⟩ := hrel
    cases m with
    | zero =>
      obtain rfl : zz = -1 := by omega
      clear hzz hw1
      rw [List.drop_zero]
      go_wp2
      go_ret2
      exact ⟨_, rfl, rfl, rfl⟩
    | succ m =>
      have hzm : zz = (m : Int) := by omega
      clear hzz
      subst hzm
      have hml : m < l.length := by omega
      have c8 : (m : Int) < (l.length : Int) := by omega
      have h8 := H8.out
      have hwm : IntKind.i64.wrap ((m : Int) - 1) = (m : Int) - 1 := IntWalk.i64_in _ (by omega)
      have hb : (bys l)[m]? = some (.int .u8 (l[m]'hml).toNat) := by unfold bys; simp [hml]
      obtain ⟨bk, off, rfl, c1⟩ := rdsl_cell Hr.out hb
      have hnd := Frm.num_drop hml
      have hlt := Frm.num_lt (l.drop m)
      have hlt2 : Frm.num (l.drop m) < 18446744073709551616 := Nat.lt_of_lt_of_le hlt (by
        have : 256 ^ (l.drop m).length ≤ 256 ^ 8 := Nat.pow_le_pow_right (by decide) (by rw [List.length_drop]; omega)
        exact Nat.le_trans this (by decide))
      rw [hnd] at hlt2
      have hcm : ((l[m]'hml).toNat : Int) % 18446744073709551616 = ((l[m]'hml).toNat : Int) := by omega
      have Hnd := Lib.hid hnd; have Hml := Lib.hid hml
      clear hb hnd hlt h8 hm hw1
      generalize (l[m]'hml).toNat = cb at *
      clear hml
      generalize Frm.num (l.drop (m + 1)) = X at *
      have e1 : (X : Int) * 256 % 18446744073709551616 = ((X * 256 : Nat) : Int) := by omega
      have e2 : (((X * 256 : Nat) : Int) + (cb : Int)) % 18446744073709551616 = ((cb + 256 * X : Nat) : Int) := by omega
      have e3 : ((X : Int) * 256 + (cb : Int)) % 18446744073709551616 = ((cb + 256 * X : Nat) : Int) := by omega
      clear hlt2
      go_wp2_with fail
      go_roundg m
      case measure => have := Hml.out; omega
      case rel => exact ⟨m, _, by have := Hml.out; omega, Nat.le_of_lt Hml.out, rfl, rfl, by rw [Hnd.out]; congr 1; omega, rfl⟩
end
section
variable {w0 w : World} {F R : List HProp} {d : Nat} {D : Med} {fsv fv nv wv v lv : Value} {xs : List RF} {g : Bag} {K : Nat}
theorem step_file (D : Med) (i : Nat) : D.step.1.file i = D.file i := by unfold Med.file; rw [step_files]
end
section
variable {w0 w : World} {F R : List HProp} {d : Nat} {D : Med} {fsv fv nv wv v lv : Value} {xs : List RF} {g : Bag} {K : Nat}
theorem bsl_sl {l : Bs} (h : Sat w0 w (bsl v l :: R)) : ∃ a c, v = .slice a l.length c ∧ l.length ≤ c ∧ c ≤ 9223372036854775807 ∧ ((a = none ∧ c = 0) ∨ ∃ g, a = some ⟨g, 0, none⟩) := by
  rcases Sat.osl_cases h with ⟨hv, hx, _⟩ | ⟨b, n', cap', cs, hv, hl, hn, hc, hcm, _, _⟩
  · have h5 : (bys l).length = 0 := by rw [hx]; rfl
    rw [bys_len] at h5
    exact ⟨none, 0, by rw [hv, h5], by omega, by omega, .inl ⟨rfl, rfl⟩⟩
  · rw [bys_len, Nat.mul_one] at hl
    exact ⟨_, _, by rw [hv, hl], by omega, hcm, .inr ⟨b, rfl⟩⟩
section
variable {ops : Array Oper} {rest : List Oper} {a : Act} {Q : Exit → Act → World → Prop} {dst : Option Tmp} {t : Nat} {pos : String} {after : Array Edge} {s y : Operand} {x : Value} {l k : Bs} {K : Act → World → Prop} {E : Prop}
theorem wl_appB (hs : Sat w0 w (bsl v l :: R)) (hv : a.eval s = v) (hy : a.eval y = x) (hx : rdsl 1 x (bys k) w) (hl : l.length + k.length ≤ 1099511627776)
    (hK : ∀ a' n' c' w', Sat w0 w' (bsl (.slice a' n' c') (l ++ k) :: R) → wpList Tryz.prog ops Q rest (a.put dst (.slice a' n' c')) w') :
    wpList Tryz.prog ops Q (⟨dst, .call { callee := .builtin .append, args := #[s, y], argTypes := #[42, 42] }, t, pos, after, none⟩ :: rest) a w := by
  obtain ⟨i, hi, hz0, hz1, hz2⟩ := info8p
  refine wpList_append (w0 := w0) (by rfl) s y 42 (by rfl) _ i _ Tryz.underlying42 hi hz0 hz1 (by rfl) (by omega) hv hy (bys_one _) hs hx ?_ ?_ ?_
  · rw [bys_len, bys_len]; unfold maxLen; omega
  · rw [bys_len, bys_len, hz2]; omega
  · intro v2 w2 hS2 _
    obtain ⟨a2, n2, c2, rfl, _⟩ := id hS2.rd
    refine hK _ _ _ _ ?_
    unfold bsl bys
    rw [List.map_append]
    exact hS2
end
theorem chg_at {ws : List (Chg × Value)} {i : Nat} {p : Chg × Value} (h : ws[i]? = some p) : (ws.flatMap chgCells)[i * 3]? = some (.bool p.1.cut) ∧ (ws.flatMap chgCells)[i * 3 + 1]? = some (.int .i64 p.1.n) ∧ (ws.flatMap chgCells)[i * 3 + 2]? = some p.2 :=
  ⟨flat_get chgCells 3 (fun _ => rfl) ws i p 0 h (by decide), flat_get chgCells 3 (fun _ => rfl) ws i p 1 h (by decide), flat_get chgCells 3 (fun _ => rfl) ws i p 2 h (by decide)⟩
theorem chg_len (ws : List (Chg × Value)) : (ws.flatMap chgCells).length = 3 * ws.length := by
  induction ws with
  | nil => rfl
  | cons x l ih => rw [List.flatMap_cons, List.length_append, ih, List.length_cons]; show 3 + 3 * l.length = _; omega
theorem rchg_cells {ws : List (Chg × Value)} {i : Nat} {p : Chg × Value} (h : rdsl 3 v (ws.flatMap chgCells) w) (hi : ws[i]? = some p) :
    ∃ bk off c, v = .slice (some ⟨bk, off, none⟩) ws.length c ∧ w.cell? ⟨bk, off + i * 3, none⟩ = some (.bool p.1.cut) ∧ w.cell? ⟨bk, off + i * 3 + 1, none⟩ = some (.int .i64 p.1.n) ∧ w.cell? ⟨bk, off + i * 3 + 2, none⟩ = some p.2 := by
  obtain ⟨a, n, c, rfl, hl, _⟩ := id h
  rw [chg_len] at hl
  obtain rfl : n = ws.length := by omega
  obtain ⟨h0, h1, h2⟩ := chg_at hi
  obtain ⟨bk, off, rfl, hc⟩ := rdsl_cells h h0
  exact ⟨bk, off, c, rfl, hc _ _ h0, by rw [Nat.add_assoc]; exact hc _ _ h1, by rw [Nat.add_assoc]; exact hc _ _ h2⟩
theorem chg_sl {ws : List (Chg × Value)} (h : rdsl 3 v (ws.flatMap chgCells) w) : ∃ a c, v = .slice a ws.length c := by
  obtain ⟨a, n, c, rfl, hl, _⟩ := h
  rw [chg_len] at hl
  obtain rfl : n = ws.length := by omega
  exact ⟨a, c, rfl⟩
end
section
variable {P : Program} {w0 w : World} {L L' : List HProp} {b o : Nat} {ops : Array Oper} {rest : List Oper} {a : Act} {Q : Exit → Act → World → Prop} {dst : Option Tmp} {t ty T sz n c : Nat} {pos : String} {after : Array Edge} {x y : Operand} {v : Value} {xs : List Value} {K : Act → World → Prop} {E : Prop}
theorem eff_storeS (i : Nat) (hs : Sat w0 w L) (hx : a.eval x = .pointer (some ⟨b, i, none⟩)) (hy : a.eval y = v) (u : Upd (osl T sz (.slice (some ⟨b, 0, none⟩) n c) xs) (osl T sz (.slice (some ⟨b, 0, none⟩) n c) (xs.set i v)) L L')
    (hi : i < xs.length) (hty : (P.info? ty).map (·.size) = some 1) (h0 : v.cells = #[v]) (h1 : v.oneCell' = true)
    (hK : ∀ w', Sat w0 w' L' → K (a.put dst undef) w') :
    if Region.wanted ⟨dst, .store ty x y, t, pos, after, none⟩ (yielded ops a.tmps) = true then Oper.wp P ⟨dst, .store ty x y, t, pos, after, none⟩ a w K Q else E := by
  obtain ⟨R', h2, h3⟩ := u
  have h := hs.perm h2
  rcases Sat.osl_cases h with ⟨he, _⟩ | ⟨g', n', cap', cs, he, k1, k2, k3, k4, k5, k6⟩
  · cases he
  · cases he
    have hlen : xs.length ≤ cs.size := by rw [← k5, List.length_take, Array.length_toList]; omega
    refine eff_store k6 hx hy (cs' := cs.setIfInBounds i v) (by rw [h0]; rfl) upd0 (by rw [h0]; show i + 1 ≤ cs.size; omega) (by rw [h0]; exact hty) (by rw [h0]; simpa using h1) fun w' hS => hK w' (Sat.perm ?_ h3.symm)
    refine Sat.osl_of_pt hS (by rw [List.length_set]; exact k1) k2 (by rw [Array.size_setIfInBounds]; exact k3) k4 ?_
    rw [Array.toList_setIfInBounds, List.take_set, k5]
end
section
variable {w0 w : World} {F R : List HProp} {d i : Nat} {D : Med} {fsv fv nv wv v lv bv : Value} {xs : List RF} {x : RF} {g : Bag} {K : Nat}
theorem rf_out (hx : xs[i]? = some x) (h : Sat w0 w (stars (xs.map rfR) :: R)) : ∃ G : HProp, (∀ x', stars ((xs.set i x').map rfR) = star (rfR x') G) ∧
    Sat w0 w (bsl x.fv x.f.fast :: bsl x.nv x.f.now :: osl 155 3 x.wv (x.ws.flatMap chgCells) :: chgs x.ws :: G :: R) := by
  obtain ⟨G, hG, hG'⟩ := stars_at xs i x hx
  refine ⟨G, hG', ?_⟩
  rw [hG] at h
  have h1 := Sat.star.1 h
  unfold rfR at h1
  have h2 := Sat.star.1 h1
  have h3 := Sat.star.1 (h2.pick pick1)
  have h4 := Sat.star.1 (h3.pick pick1)
  have h5 := Sat.star.1 (h4.pick pick1)
  have h6 := Sat.emp.1 (h5.pick pick1)
  exact h6.sub (sub_take pick3 (sub_take pick2 (sub_take pick1 (sub_take pick0 (sub_take pick0 sub_refl)))))
theorem rf_in {G : HProp} (hG : ∀ x', stars ((xs.set i x').map rfR) = star (rfR x') G) (h : Sat w0 w (bsl x.fv x.f.fast :: bsl x.nv x.f.now :: osl 155 3 x.wv (x.ws.flatMap chgCells) :: chgs x.ws :: G :: R)) :
    Sat w0 w (stars ((xs.set i x).map rfR) :: R) := by
  rw [hG x]
  refine Sat.star.2 ?_
  unfold rfR
  have h0 : Sat w0 w (stars [] :: bsl x.fv x.f.fast :: bsl x.nv x.f.now :: osl 155 3 x.wv (x.ws.flatMap chgCells) :: chgs x.ws :: G :: R) := Sat.emp.2 h
  have h1 : Sat w0 w (stars [chgs x.ws] :: bsl x.fv x.f.fast :: bsl x.nv x.f.now :: osl 155 3 x.wv (x.ws.flatMap chgCells) :: G :: R) := Sat.star.2 (h0.sub (sub_take pick4 (sub_take pick0 sub_refl)))
  have h2 := Sat.star.2 (h1.sub (sub_take pick3 (sub_take pick0 sub_refl)))
  have h3 := Sat.star.2 (h2.sub (sub_take pick2 (sub_take pick0 sub_refl)))
  exact Sat.star.2 (h3.sub (sub_take pick1 (sub_take pick0 sub_refl)))
theorem rfsL_fv : ∀ (xs : List RF) (i : Nat) (x : RF) (u : Value), xs[i]? = some x → (rfsL xs).set (i * 3) u = rfsL (xs.set i { x with fv := u })
  | [], _, _, _, h => by cases h
  | q :: xs, 0, x, u, h => by cases h; rfl
  | q :: xs, i + 1, x, u, h => by
    have e := rfsL_fv xs i x u (by simpa using h)
    show (q.fv :: q.nv :: q.wv :: rfsL xs).set ((i + 1) * 3) u = q.fv :: q.nv :: q.wv :: rfsL (xs.set i { x with fv := u })
    rw [← e, show (i + 1) * 3 = i * 3 + 1 + 1 + 1 by omega]; rfl
theorem rfsL_nv : ∀ (xs : List RF) (i : Nat) (x : RF) (u : Value), xs[i]? = some x → (rfsL xs).set (i * 3 + 1) u = rfsL (xs.set i { x with nv := u })
  | [], _, _, _, h => by cases h
  | q :: xs, 0, x, u, h => by cases h; rfl
  | q :: xs, i + 1, x, u, h => by
    have e := rfsL_nv xs i x u (by simpa using h)
    show (q.fv :: q.nv :: q.wv :: rfsL xs).set ((i + 1) * 3 + 1) u = q.fv :: q.nv :: q.wv :: rfsL (xs.set i { x with nv := u })
    rw [← e, show (i + 1) * 3 + 1 = i * 3 + 1 + 1 + 1 + 1 by omega]; rfl
theorem rfsL_wv : ∀ (xs : List RF) (i : Nat) (x : RF) (u : Value), xs[i]? = some x → (rfsL xs).set (i * 3 + 2) u = rfsL (xs.set i { x with wv := u })
  | [], _, _, _, h => by cases h
  | q :: xs, 0, x, u, h => by cases h; rfl
  | q :: xs, i + 1, x, u, h => by
    have e := rfsL_wv xs i x u (by simpa using h)
    show (q.fv :: q.nv :: q.wv :: rfsL xs).set ((i + 1) * 3 + 2) u = q.fv :: q.nv :: q.wv :: rfsL (xs.set i { x with wv := u })
    rw [← e, show (i + 1) * 3 + 2 = i * 3 + 2 + 1 + 1 + 1 by omega]; rfl
theorem rfsL_same {x x' : RF} (h1 : x'.fv = x.fv) (h2 : x'.nv = x.nv) (h3 : x'.wv = x.wv) : ∀ (xs : List RF) (i : Nat), rfsL (xs.set i x') = rfsL (xs.set i x)
  | [], _ => rfl
  | q :: xs, 0 => by
    show x'.fv :: x'.nv :: x'.wv :: rfsL xs = x.fv :: x.nv :: x.wv :: rfsL xs
    rw [h1, h2, h3]
  | q :: xs, i + 1 => by
    show q.fv :: q.nv :: q.wv :: rfsL (xs.set i x') = q.fv :: q.nv :: q.wv :: rfsL (xs.set i x)
    rw [rfsL_same h1 h2 h3 xs i]
theorem rfsL_alike (f f' : Fil) (fv nv wv : Value) (ws ws' : List (Chg × Value)) (xs : List RF) (i : Nat) : rfsL (xs.set i ⟨f, fv, nv, wv, ws⟩) = rfsL (xs.set i ⟨f', fv, nv, wv, ws'⟩) := rfsL_same (x := ⟨f', fv, nv, wv, ws'⟩) (x' := ⟨f, fv, nv, wv, ws⟩) rfl rfl rfl xs i
theorem chgs_add {ws : List (Chg × Value)} {p : Chg × Value} (h : Sat w0 w (bsl p.2 p.1.b :: chgs ws :: R)) : Sat w0 w (chgs (ws ++ [p]) :: R) := by
  rw [chgs_snoc]
  exact Sat.star.2 (h.sub (sub_take pick1 (sub_take pick0 sub_refl)))
theorem chg_snoc (ws : List (Chg × Value)) (p : Chg × Value) : ws.flatMap chgCells ++ chgCells p = (ws ++ [p]).flatMap chgCells := by rw [List.flatMap_append]; simp
theorem DskIn.set (h : DskIn D fv nv xs g) {i : Nat} {x' : RF} (hok : x'.ws.map (·.1) = x'.f.waits) : DskIn (D.setFile i x'.f) fv nv (xs.set i x') g :=
  ⟨by rw [List.map_set, h.files]; rfl, (fun y hy => by rcases List.mem_or_eq_of_mem_set hy with hy | rfl; exact h.ok y hy; exact hok), h.fast, h.now⟩
theorem DskIn.step (h : DskIn D fv nv xs g) : DskIn D.step.1 fv nv xs g := ⟨by rw [step_files]; exact h.files, h.ok, by rw [step_fast]; exact h.fast, by rw [step_now]; exact h.now⟩
end
section
variable {P : Program} {w0 w : World} {F R : List HProp} {ops : Array Oper} {rest : List Oper} {a : Act} {Q : Exit → Act → World → Prop} {dst : Option Tmp} {t ty T b o : Nat} {pos : String} {after : Array Edge} {x : Operand} {cs : Array Value} {g : Nat × Bool}
theorem wl_loadG (ks : List Value) (hw : Region.wanted ⟨dst, .load ty x, t, pos, after, some g⟩ (yielded ops a.tmps) = true) (hx : a.eval x = .pointer (some ⟨b, o, none⟩)) (hc : w.rangeAt b o ks)
    {d : TypeDesc} (hu : P.underlying ty = some d) (hd : d.isRow = true) (hi : (P.info? ty).map (·.size) = some ks.length)
    (h : wpList P ops Q rest (a.put dst (.agg ks.toArray)) w) : wpList P ops Q (⟨dst, .load ty x, t, pos, after, some g⟩ :: rest) a w :=
  BigFrame.wpList_want hw fun _ hK => wp_load_mid ty x rfl b o hx ks d hc hu hd hi (hK _ _ h)
theorem at_loadH (h : Stop (wpList P ops Q (⟨dst, .load ty x, t, pos, after, some g⟩ :: rest) a w)) : wpList P ops Q (⟨dst, .load ty x, t, pos, after, some g⟩ :: rest) a w := h.out
end
section
variable {w0 w : World} {F R : List HProp} {bE : Nat} {e : Frm.Ent} {dv : Value}
theorem ent_at0 (h : Sat w0 w (pt bE (.cells (entA e dv) 44 (0,0)) :: R)) : w.cell? ⟨bE, 0, none⟩ = some (.int .i64 e.tag) := h.cellAt 0 _ (entA_0 e _)
theorem ent_at33 (hk : e.key.length = 32) (h : Sat w0 w (pt bE (.cells (entA e dv) 44 (0,0)) :: R)) : w.cell? ⟨bE, 33, none⟩ = some dv := h.cellAt 33 _ (entA_33 e _ hk)
theorem ent_atk (hk : e.key.length = 32) (h : Sat w0 w (pt bE (.cells (entA e dv) 44 (0,0)) :: R)) : w.rangeAt bE 1 (bys e.key) := fun j v hj => h.cellAt (1 + j) v (entA_key e dv hk j v (by simpa using hj))
theorem ent_atkey {i : Nat} {c : UInt8} (hk : e.key.length = 32) (hi : e.key[i]? = some c) (h : Sat w0 w (pt bE (.cells (entA e dv) 44 (0,0)) :: R)) : w.cell? ⟨bE, 1 + i, none⟩ = some (.int .u8 c.toNat) :=
  ent_atk hk h i _ (by unfold bys; rw [List.getElem?_map, hi]; rfl)
set_option maxRecDepth 20000 in
set_option maxHeartbeats 4000000 in
theorem rencode2_c (e : Frm.Ent) (hk : e.key.length = 32) (da : Option Addr) (dc : Nat) (hd : Ro w0 F (rdsl 1 (.slice da e.data.length dc) (bys e.data))) (t2 : e.tag = 2) (hz : e.key = Frm.zero32) (h0e : e.data.length = 0) (h : Sat w0 w F) :
    Calls Tryz.prog 72 #[.agg (entA e (.slice da e.data.length dc))] w (Rtn fun v w' => ∃ bv, v = .tuple #[bv, errno (Frm.encode e).2] ∧ (∃ a n c, bv = .slice a n c) ∧ Sat w0 w' (bsl bv (Frm.encode e).1 :: F)) := by
  have Hk := Lib.hid hk; have Hd := Lib.hid hd
  have hnk := eqIn_zero e.key hk
  have hks : (bys e.key).length = 32 := by rw [bys_len, hk]
  have Hks := Lib.hid hks
  clear hd hks
  go_enter Tryz.func72, Tryz.ntmps72
  go_wp2_with (first | ((with_reducible apply at_boxE); refine ⟨?_⟩; refine wl_boxE (by assumption) (by rfl) ?_; intro bX wX hX) | (with_reducible apply at_load))
  refine ⟨?_⟩
  have f0 := ent_at0 hX
  have f33 := ent_at33 hk hX
  have fk := ent_atk hk hX
  have Fk := Lib.hid fk
  clear h hk fk
  have h0i : decide (0 < e.data.length) = false := by rw [decide_eq_false_iff_not]; omega
  have h0j : ¬ 0 < e.data.length := by omega
  rw [t2] at f0
  have hzd : decide (e.key = Frm.zero32) = true := decide_eq_true hz
  have Hch := Lib.hid (show Frm.check e = 0 by unfold Frm.check; simp [t2, hz, h0e])
  have Hdl := Lib.hid (show e.data.length ≤ 16384 by omega)
  have HFIN : Hid (∀ B0 N8, B0 = [(2 : UInt8)] ++ e.data → B0.length + 8 = N8 → Frm.le N8 4 ++ B0 = Frm.body e) := fun B0 N8 h1 h2 => by
    have h3 : Frm.size e = 9 := by unfold Frm.size; rw [Hch.out]; simp [t2]
    have h4 : N8 = 9 := by rw [← h2, h1]; simp [h0e]
    unfold Frm.body
    rw [h3, h4, h1, t2]; rfl
  have HR0l := Lib.hid (show [(2 : UInt8)].length ≤ 33 by decide)
  have h1i : decide (16384 < (e.data.length : Int)) = false := by rw [decide_eq_false_iff_not]; omega
  have Hz := Lib.hid hz
  clear hz h0e
  go_wp2_with (first
    | ((with_reducible apply at_loadH); refine ⟨?_⟩; refine wl_loadG (b := bX) (o := 1) (bys e.key) (by rfl) (by rfl) Fk.out Tryz.underlying41 rfl (by rw [Hks.out]; kernel_rfl) ?_)
    | ((with_reducible apply at_build1); refine ⟨?_⟩; refine wl_build1 (e := 5) (sz := 1) (by' := 1) (by kernel_rfl) hX (by rfl) (cs := #[.int .u8 2]) rfl rfl (Nat.le_of_ble_eq_true (by rfl)) ?_; intro bN wN hN))
  have f0 := ent_at0 (hN.pick pick1)
  rw [t2] at f0
  have Ht2 := Lib.hid t2
  clear t2
  have hS : Sat w0 _ (bsl (.slice (some ⟨bN, 0, none⟩) 1 1) [(2 : UInt8)] :: pt bX (.cells (entA e (.slice da e.data.length dc)) 44 (0,0)) :: F) := Sat.osl_of_pt hN rfl (Nat.le_refl _) (Nat.le_refl _) (by decide) rfl
  clear hX hN
  obtain ⟨R0, hR0⟩ : ∃ R0, R0 = [(2 : UInt8)] := ⟨_, rfl⟩
  rw [← hR0] at hS HFIN HR0l
  clear hR0
  go_wp2_with fail
  go_loopg [4, 5] 0 (fun g bq iq wr => bq = .slice (some ⟨bN, 0, none⟩) 1 1 ∧ iq = .int .i64 0 ∧ Sat w0 wr (bsl (.slice (some ⟨bN, 0, none⟩) 1 1) R0 :: pt bX (.cells (entA e (.slice da e.data.length dc)) 44 (0,0)) :: F))
  case atStart => exact ⟨rfl, rfl, hS⟩
  case round =>
    obtain ⟨rfl, rfl, hS⟩ := hrel
    have f0 := ent_at0 (hS.pick pick1)
    rw [Ht2.out] at f0
    have f33 := ent_at33 Hk.out (hS.pick pick1)
    have f33 := ent_at33 Hk.out (hS.pick pick1)
    go_wp2_with ((with_reducible apply at_append); refine ⟨?_⟩; refine wl_appB hS evD evD (Hd.out _ hS.drop.drop) (by have := HR0l.out; have := Hdl.out; omega) ?_; intro a1 n1 c1 w1 hS1)
    clear f33 hS
    have hb0 : ∃ B0, B0 = R0 ++ e.data := ⟨_, rfl⟩
    obtain ⟨B0, hb0⟩ := hb0
    rw [← hb0] at hS1
    have Hb0 := Lib.hid hb0
    have HB0l := Lib.hid (show B0.length ≤ 16417 by rw [hb0, List.length_append]; have := HR0l.out; have := Hdl.out; omega)
    clear hb0
    obtain ⟨a1', c1', hv1, _⟩ := bsl_sl hS1
    cases hv1
    have hput := rput_c (B0.length + 8) 4 (by have := HB0l.out; omega) (by decide) (by decide) hS1
    have hw8 : IntKind.i64.wrap ((B0.length : Int) + 8) = ((B0.length + 8 : Nat) : Int) := by have := HB0l.out; exact IntWalk.i64_in _ (by omega)
    have hw9 : ((B0.length + 8 : Nat) : Int) % 18446744073709551616 = ((B0.length + 8 : Nat) : Int) := by have := HB0l.out; omega
    have hw8b : wrap64 ((B0.length : Int) + 8) = ((B0.length + 8 : Nat) : Int) := by rw [← IntWalk.i64_left]; exact hw8
    have hw9b : IntKind.u64.wrap ((B0.length + 8 : Nat) : Int) = ((B0.length + 8 : Nat) : Int) := hw9
    rw [show ((4 : Nat) : Int) = 4 from rfl] at hput
    generalize hN8 : B0.length + 8 = N8 at *
    have HN8 := Lib.hid hN8
    clear hN8
    go_wp2_with fail
    simp only [hw8b, hw9b]
    refine hput.mono ?_
    clear hput hw8 hw9 hw8b hw9b
    rintro ee w2 ⟨v, rfl, hS2, a2, n2, c2, rfl⟩
    clear hS1
    go_wp2_with ((with_reducible apply at_append); refine ⟨?_⟩; refine wl_appB hS2 evD evD (Sat.rd (hS2.pick pick1)) (by rw [Frm.le_len]; have := HB0l.out; omega) ?_; intro a3 n3 c3 w3 hS3)
    clear hS2
    obtain ⟨B1, hb1⟩ : ∃ B1, B1 = Frm.le N8 4 ++ B0 := ⟨_, rfl⟩
    rw [← hb1] at hS3
    have HB1l := Lib.hid (show B1.length ≤ 16421 by rw [hb1, List.length_append, Frm.le_len]; have := HB0l.out; omega)
    have Hbody := Lib.hid (show B1 = Frm.body e by rw [hb1]; exact HFIN.out B0 N8 Hb0.out HN8.out)
    clear hb1
    have hsum := rsum_c B1 (Sat.rd hS3) (by have := HB1l.out; omega)
    have hcl := Frm.crc_lt B1
    have hput := rput_c (Frm.crc B1) 4 (by omega) (by decide) (by decide) hS3
    rw [show ((4 : Nat) : Int) = 4 from rfl] at hput
    generalize hC : Frm.crc B1 = C at *
    have HC := Lib.hid hC
    have hw9 : (C : Int) % 18446744073709551616 = (C : Int) := by omega
    have hw9b : IntKind.u64.wrap (C : Int) = (C : Int) := hw9
    clear hC hcl
    go_wp2_with fail
    refine hsum.mono ?_
    clear hsum
    rintro ee w4 ⟨v, rfl, rfl, rfl⟩
    go_wp2_with fail
    refine hput.mono ?_
    clear hput hw9 hw9b
    rintro ee w4 ⟨v, rfl, hS4, a4, n4, c4, rfl⟩
    clear hS3
    go_wp2_with ((with_reducible apply at_append); refine ⟨?_⟩; refine wl_appB hS4 evD evD (Sat.rd (hS4.pick pick1)) (by rw [Frm.le_len]; have := HB1l.out; omega) ?_; intro a5 n5 c5 w5 hS5)
    clear hS4
    go_ret2
    have hen : Frm.encode e = (Frm.le C 4 ++ B1, 0) := by unfold Frm.encode; rw [if_neg (by rw [Hch.out]; simp), ← Hbody.out, HC.out]
    exact ⟨_, rfl, .slice a5 n5 c5, by rw [hen]; rfl, ⟨_, _, _, rfl⟩, by rw [hen]; exact hS5.sub (sub_take pick0 (sub_drop (sub_drop (sub_drop sub_refl))))⟩
end
section
variable {w0 w : World} {F R : List HProp} {bE : Nat} {e : Frm.Ent} {dv : Value}
set_option maxRecDepth 20000 in
set_option maxHeartbeats 4000000 in
theorem rencode0_c (e : Frm.Ent) (hk : e.key.length = 32) (da : Option Addr) (dc : Nat) (hd : Ro w0 F (rdsl 1 (.slice da e.data.length dc) (bys e.data))) (hT : e.tag = 0) (hsz : ¬ 16384 < e.data.length) (h : Sat w0 w F) :
    Calls Tryz.prog 72 #[.agg (entA e (.slice da e.data.length dc))] w (Rtn fun v w' => ∃ bv, v = .tuple #[bv, errno (Frm.encode e).2] ∧ (∃ a n c, bv = .slice a n c) ∧ Sat w0 w' (bsl bv (Frm.encode e).1 :: F)) := by
  have Hk := Lib.hid hk; have Hd := Lib.hid hd
  have hnk := eqIn_zero e.key hk
  have hks : (bys e.key).length = 32 := by rw [bys_len, hk]
  have Hks := Lib.hid hks
  clear hd hks
  go_enter Tryz.func72, Tryz.ntmps72
  go_wp2_with (first | ((with_reducible apply at_boxE); refine ⟨?_⟩; refine wl_boxE (by assumption) (by rfl) ?_; intro bX wX hX) | (with_reducible apply at_load))
  refine ⟨?_⟩
  have f0 := ent_at0 hX
  have f33 := ent_at33 hk hX
  have fk := ent_atk hk hX
  have Fk := Lib.hid fk
  clear h hk fk
  rw [hT] at f0
  have HT := Lib.hid hT
  clear hT hnk
  have Hch := Lib.hid (show Frm.check e = 0 by unfold Frm.check; simp [HT.out, hsz])
  have Hdl := Lib.hid (show e.data.length ≤ 16384 by omega)
  have HFIN : Hid (∀ B0 N8, B0 = ([(0 : UInt8)] ++ e.key) ++ e.data → B0.length + 8 = N8 → Frm.le N8 4 ++ B0 = Frm.body e) := fun B0 N8 h1 h2 => by
    have h3 : Frm.size e = 41 + e.data.length := by unfold Frm.size; rw [Hch.out]; simp [HT.out]
    have h4 : N8 = 41 + e.data.length := by rw [← h2, h1]; simp [Hk.out]; omega
    unfold Frm.body
    rw [h3, h4, h1, HT.out]; simp
  have HR0l := Lib.hid (show ([(0 : UInt8)] ++ e.key).length ≤ 33 by simp [Hk.out])
  have h1i : decide (16384 < (e.data.length : Int)) = false := by rw [decide_eq_false_iff_not]; omega
  clear hsz
  go_wp2_with ((with_reducible apply at_build1); refine ⟨?_⟩; refine wl_build1 (e := 5) (sz := 1) (by' := 1) (by kernel_rfl) hX (by rfl) (cs := #[.int .u8 0]) rfl rfl (Nat.le_of_ble_eq_true (by rfl)) ?_; intro bN wN hN)
  have hS0 : Sat w0 wN (bsl (.slice (some ⟨bN, 0, none⟩) 1 1) ([(0 : UInt8)] ++ e.key.take 0) :: pt bX (.cells (entA e (.slice da e.data.length dc)) 44 (0,0)) :: F) := by rw [List.take_zero]; exact Sat.osl_of_pt hN rfl (Nat.le_refl _) (Nat.le_refl _) (by decide) rfl
  clear hX hN f0 f33
  go_wp2_with fail
  go_loopg [4, 5] 32 (fun g bq iq wr => ∃ i : Nat, g = 32 - i ∧ i ≤ 32 ∧ iq = .int .i64 i ∧ Sat w0 wr (bsl bq ([(0 : UInt8)] ++ e.key.take i) :: pt bX (.cells (entA e (.slice da e.data.length dc)) 44 (0,0)) :: F))
  case atStart => exact ⟨0, rfl, by decide, rfl, hS0⟩
  case round =>
    obtain ⟨i, rfl, hi, rfl, hS⟩ := hrel
    clear hS0
    obtain ⟨ba, bn, bc, rfl, _⟩ := id (Sat.rd hS)
    have f0 := ent_at0 (hS.pick pick1)
    rw [HT.out] at f0
    by_cases hlt : i < 32
    · have c1 : (i : Int) < 32 := by omega
      have hwi : IntKind.i64.wrap ((i : Int) + 1) = (i : Int) + 1 := IntWalk.i64_in _ (by omega)
      obtain ⟨cc, hcc⟩ : ∃ cc, e.key[i]? = some cc := ⟨_, List.getElem?_eq_getElem (by rw [Hk.out]; exact hlt)⟩
      have fk := ent_atkey Hk.out hcc (hS.pick pick1)
      have Hnx := Lib.hid (show [(0 : UInt8)] ++ e.key.take (i + 1) = ([(0 : UInt8)] ++ e.key.take i) ++ [cc] by rw [List.take_add_one, hcc]; simp)
      have hlen : (bys ([(0 : UInt8)] ++ e.key.take i)).length ≤ 2147483648 := by rw [bys_len, List.length_append, List.length_take]; simp; omega
      have Hlt := Lib.hid hlt
      clear hcc hlt
      have hSo : Sat w0 wr (osl 5 1 (.slice ba bn bc) (bys ([(0 : UInt8)] ++ e.key.take i)) :: pt bX (.cells (entA e (.slice da e.data.length dc)) 44 (0,0)) :: F) := hS
      generalize hB : [(0 : UInt8)] ++ e.key.take i = B at *
      clear hS
      go_wp2_with (first
        | ((with_reducible apply at_build1); refine ⟨?_⟩; refine wl_build1 (e := 5) (sz := 1) (by' := 1) (by kernel_rfl) hSo (by rfl) (cs := #[.int .u8 cc.toNat]) rfl rfl (Nat.le_of_ble_eq_true (by rfl)) ?_; intro bM wM hM)
        | ((with_reducible apply at_append); refine ⟨?_⟩; refine wl_app 5 1 1 (by kernel_rfl) hM (by rfl) (by rfl) (pick_there pick0) pick0 (by rfl) (Nat.le_refl 1) (by rfl) hlen (by show 1 ≤ 65536; decide) (by decide) evD ?_; intro bA nA cA wA hA))
      go_roundg (32 - (i + 1))
      case measure => have := Hlt.out; omega
      case rel =>
        refine ⟨i + 1, rfl, Nat.succ_le_of_lt Hlt.out, by first | rfl | go_num, ?_⟩
        rw [Hnx.out]
        have e1 : bys (B ++ [cc]) = bys B ++ [Value.int .u8 cc.toNat] := by unfold bys; rw [List.map_append]; rfl
        unfold bsl
        rw [e1]
        exact hA
    · obtain rfl : i = 32 := by omega
      have c1 : ¬ ((32 : Nat) : Int) < 32 := by decide
      rw [List.take_of_length_le (by rw [Hk.out]; exact Nat.le_refl _)] at hS
      clear hlt hi
      obtain ⟨R0, hR0⟩ : ∃ R0, R0 = [(0 : UInt8)] ++ e.key := ⟨_, rfl⟩
      rw [← hR0] at hS HFIN HR0l
      clear hR0
      have f33 := ent_at33 Hk.out (hS.pick pick1)
      go_wp2_with ((with_reducible apply at_append); refine ⟨?_⟩; refine wl_appB hS evD evD (Hd.out _ hS.drop.drop) (by have := HR0l.out; have := Hdl.out; omega) ?_; intro a1 n1 c1 w1 hS1)
      clear f33 hS
      have hb0 : ∃ B0, B0 = R0 ++ e.data := ⟨_, rfl⟩
      obtain ⟨B0, hb0⟩ := hb0
      rw [← hb0] at hS1
      have Hb0 := Lib.hid hb0
      have HB0l := Lib.hid (show B0.length ≤ 16417 by rw [hb0, List.length_append]; have := HR0l.out; have := Hdl.out; omega)
      clear hb0
      obtain ⟨a1', c1', hv1, _⟩ := bsl_sl hS1
      cases hv1
      have hput := rput_c (B0.length + 8) 4 (by have := HB0l.out; omega) (by decide) (by decide) hS1
      have hw8 : IntKind.i64.wrap ((B0.length : Int) + 8) = ((B0.length + 8 : Nat) : Int) := by have := HB0l.out; exact IntWalk.i64_in _ (by omega)
      have hw9 : ((B0.length + 8 : Nat) : Int) % 18446744073709551616 = ((B0.length + 8 : Nat) : Int) := by have := HB0l.out; omega
      have hw8b : wrap64 ((B0.length : Int) + 8) = ((B0.length + 8 : Nat) : Int) := by rw [← IntWalk.i64_left]; exact hw8
      have hw9b : IntKind.u64.wrap ((B0.length + 8 : Nat) : Int) = ((B0.length + 8 : Nat) : Int) := hw9
      rw [show ((4 : Nat) : Int) = 4 from rfl] at hput
      generalize hN8 : B0.length + 8 = N8 at *
      have HN8 := Lib.hid hN8
      clear hN8
      go_wp2_with fail
      simp only [hw8b, hw9b]
      refine hput.mono ?_
      clear hput hw8 hw9 hw8b hw9b
      rintro ee w2 ⟨v, rfl, hS2, a2, n2, c2, rfl⟩
      clear hS1
      go_wp2_with ((with_reducible apply at_append); refine ⟨?_⟩; refine wl_appB hS2 evD evD (Sat.rd (hS2.pick pick1)) (by rw [Frm.le_len]; have := HB0l.out; omega) ?_; intro a3 n3 c3 w3 hS3)
      clear hS2
      obtain ⟨B1, hb1⟩ : ∃ B1, B1 = Frm.le N8 4 ++ B0 := ⟨_, rfl⟩
      rw [← hb1] at hS3
      have HB1l := Lib.hid (show B1.length ≤ 16421 by rw [hb1, List.length_append, Frm.le_len]; have := HB0l.out; omega)
      have Hbody := Lib.hid (show B1 = Frm.body e by rw [hb1]; exact HFIN.out B0 N8 Hb0.out HN8.out)
      clear hb1
      have hsum := rsum_c B1 (Sat.rd hS3) (by have := HB1l.out; omega)
      have hcl := Frm.crc_lt B1
      have hput := rput_c (Frm.crc B1) 4 (by omega) (by decide) (by decide) hS3
      rw [show ((4 : Nat) : Int) = 4 from rfl] at hput
      generalize hC : Frm.crc B1 = C at *
      have HC := Lib.hid hC
      have hw9 : (C : Int) % 18446744073709551616 = (C : Int) := by omega
      have hw9b : IntKind.u64.wrap (C : Int) = (C : Int) := hw9
      clear hC hcl
      go_wp2_with fail
      refine hsum.mono ?_
      clear hsum
      rintro ee w4 ⟨v, rfl, rfl, rfl⟩
      go_wp2_with fail
      refine hput.mono ?_
      clear hput hw9 hw9b
      rintro ee w4 ⟨v, rfl, hS4, a4, n4, c4, rfl⟩
      clear hS3
      go_wp2_with ((with_reducible apply at_append); refine ⟨?_⟩; refine wl_appB hS4 evD evD (Sat.rd (hS4.pick pick1)) (by rw [Frm.le_len]; have := HB1l.out; omega) ?_; intro a5 n5 c5 w5 hS5)
      clear hS4
      go_ret2
      have hen : Frm.encode e = (Frm.le C 4 ++ B1, 0) := by unfold Frm.encode; rw [if_neg (by rw [Hch.out]; simp), ← Hbody.out, HC.out]
      exact ⟨_, rfl, .slice a5 n5 c5, by rw [hen]; rfl, ⟨_, _, _, rfl⟩, by rw [hen]; exact hS5.sub (sub_take pick0 (sub_drop (sub_drop (sub_drop sub_refl))))⟩
end
section
variable {w0 w : World} {F R : List HProp} {bE : Nat} {e : Frm.Ent} {dv : Value}
set_option maxRecDepth 20000 in
set_option maxHeartbeats 4000000 in
theorem rencode1_c (e : Frm.Ent) (hk : e.key.length = 32) (da : Option Addr) (dc : Nat) (hd : Ro w0 F (rdsl 1 (.slice da e.data.length dc) (bys e.data))) (hT : e.tag = 1) (hsz : e.data.length = 0) (h : Sat w0 w F) :
    Calls Tryz.prog 72 #[.agg (entA e (.slice da e.data.length dc))] w (Rtn fun v w' => ∃ bv, v = .tuple #[bv, errno (Frm.encode e).2] ∧ (∃ a n c, bv = .slice a n c) ∧ Sat w0 w' (bsl bv (Frm.encode e).1 :: F)) := by
  have Hk := Lib.hid hk; have Hd := Lib.hid hd
  have hnk := eqIn_zero e.key hk
  have hks : (bys e.key).length = 32 := by rw [bys_len, hk]
  have Hks := Lib.hid hks
  clear hd hks
  go_enter Tryz.func72, Tryz.ntmps72
  go_wp2_with (first | ((with_reducible apply at_boxE); refine ⟨?_⟩; refine wl_boxE (by assumption) (by rfl) ?_; intro bX wX hX) | (with_reducible apply at_load))
  refine ⟨?_⟩
  have f0 := ent_at0 hX
  have f33 := ent_at33 hk hX
  have fk := ent_atk hk hX
  have Fk := Lib.hid fk
  clear h hk fk
  rw [hT] at f0
  have HT := Lib.hid hT
  clear hT hnk
  have h0i : decide (0 < e.data.length) = false := by rw [decide_eq_false_iff_not]; omega
  have h0j : ¬ 0 < e.data.length := by omega
  have Hch := Lib.hid (show Frm.check e = 0 by unfold Frm.check; simp [HT.out, hsz])
  have Hdl := Lib.hid (show e.data.length ≤ 16384 by omega)
  have HFIN : Hid (∀ B0 N8, B0 = ([(1 : UInt8)] ++ e.key) ++ e.data → B0.length + 8 = N8 → Frm.le N8 4 ++ B0 = Frm.body e) := fun B0 N8 h1 h2 => by
    have h3 : Frm.size e = 41 + e.data.length := by unfold Frm.size; rw [Hch.out]; simp [HT.out]
    have h4 : N8 = 41 + e.data.length := by rw [← h2, h1]; simp [Hk.out]; omega
    unfold Frm.body
    rw [h3, h4, h1, HT.out]; simp
  have HR0l := Lib.hid (show ([(1 : UInt8)] ++ e.key).length ≤ 33 by simp [Hk.out])
  have h1i : decide (16384 < (e.data.length : Int)) = false := by rw [decide_eq_false_iff_not]; omega
  clear hsz
  go_wp2_with ((with_reducible apply at_build1); refine ⟨?_⟩; refine wl_build1 (e := 5) (sz := 1) (by' := 1) (by kernel_rfl) hX (by rfl) (cs := #[.int .u8 1]) rfl rfl (Nat.le_of_ble_eq_true (by rfl)) ?_; intro bN wN hN)
  have hS0 : Sat w0 wN (bsl (.slice (some ⟨bN, 0, none⟩) 1 1) ([(1 : UInt8)] ++ e.key.take 0) :: pt bX (.cells (entA e (.slice da e.data.length dc)) 44 (0,0)) :: F) := by rw [List.take_zero]; exact Sat.osl_of_pt hN rfl (Nat.le_refl _) (Nat.le_refl _) (by decide) rfl
  clear hX hN f0 f33
  go_wp2_with fail
  go_loopg [4, 5] 32 (fun g bq iq wr => ∃ i : Nat, g = 32 - i ∧ i ≤ 32 ∧ iq = .int .i64 i ∧ Sat w0 wr (bsl bq ([(1 : UInt8)] ++ e.key.take i) :: pt bX (.cells (entA e (.slice da e.data.length dc)) 44 (0,0)) :: F))
  case atStart => exact ⟨0, rfl, by decide, rfl, hS0⟩
  case round =>
    obtain ⟨i, rfl, hi, rfl, hS⟩ := hrel
    clear hS0
    obtain ⟨ba, bn, bc, rfl, _⟩ := id (Sat.rd hS)
    have f0 := ent_at0 (hS.pick pick1)
    rw [HT.out] at f0
    by_cases hlt : i < 32
    · have c1 : (i : Int) < 32 := by omega
      have hwi : IntKind.i64.wrap ((i : Int) + 1) = (i : Int) + 1 := IntWalk.i64_in _ (by omega)
      obtain ⟨cc, hcc⟩ : ∃ cc, e.key[i]? = some cc := ⟨_, List.getElem?_eq_getElem (by rw [Hk.out]; exact hlt)⟩
      have fk := ent_atkey Hk.out hcc (hS.pick pick1)
      have Hnx := Lib.hid (show [(1 : UInt8)] ++ e.key.take (i + 1) = ([(1 : UInt8)] ++ e.key.take i) ++ [cc] by rw [List.take_add_one, hcc]; simp)
      have hlen : (bys ([(1 : UInt8)] ++ e.key.take i)).length ≤ 2147483648 := by rw [bys_len, List.length_append, List.length_take]; simp; omega
      have Hlt := Lib.hid hlt
      clear hcc hlt
      have hSo : Sat w0 wr (osl 5 1 (.slice ba bn bc) (bys ([(1 : UInt8)] ++ e.key.take i)) :: pt bX (.cells (entA e (.slice da e.data.length dc)) 44 (0,0)) :: F) := hS
      generalize hB : [(1 : UInt8)] ++ e.key.take i = B at *
      clear hS
      go_wp2_with (first
        | ((with_reducible apply at_build1); refine ⟨?_⟩; refine wl_build1 (e := 5) (sz := 1) (by' := 1) (by kernel_rfl) hSo (by rfl) (cs := #[.int .u8 cc.toNat]) rfl rfl (Nat.le_of_ble_eq_true (by rfl)) ?_; intro bM wM hM)
        | ((with_reducible apply at_append); refine ⟨?_⟩; refine wl_app 5 1 1 (by kernel_rfl) hM (by rfl) (by rfl) (pick_there pick0) pick0 (by rfl) (Nat.le_refl 1) (by rfl) hlen (by show 1 ≤ 65536; decide) (by decide) evD ?_; intro bA nA cA wA hA))
      go_roundg (32 - (i + 1))
      case measure => have := Hlt.out; omega
      case rel =>
        refine ⟨i + 1, rfl, Nat.succ_le_of_lt Hlt.out, by first | rfl | go_num, ?_⟩
        rw [Hnx.out]
        have e1 : bys (B ++ [cc]) = bys B ++ [Value.int .u8 cc.toNat] := by unfold bys; rw [List.map_append]; rfl
        unfold bsl
        rw [e1]
        exact hA
    · obtain rfl : i = 32 := by omega
      have c1 : ¬ ((32 : Nat) : Int) < 32 := by decide
      rw [List.take_of_length_le (by rw [Hk.out]; exact Nat.le_refl _)] at hS
      clear hlt hi
      obtain ⟨R0, hR0⟩ : ∃ R0, R0 = [(1 : UInt8)] ++ e.key := ⟨_, rfl⟩
      rw [← hR0] at hS HFIN HR0l
      clear hR0
      have f33 := ent_at33 Hk.out (hS.pick pick1)
      go_wp2_with ((with_reducible apply at_append); refine ⟨?_⟩; refine wl_appB hS evD evD (Hd.out _ hS.drop.drop) (by have := HR0l.out; have := Hdl.out; omega) ?_; intro a1 n1 c1 w1 hS1)
      clear f33 hS
      have hb0 : ∃ B0, B0 = R0 ++ e.data := ⟨_, rfl⟩
      obtain ⟨B0, hb0⟩ := hb0
      rw [← hb0] at hS1
      have Hb0 := Lib.hid hb0
      have HB0l := Lib.hid (show B0.length ≤ 16417 by rw [hb0, List.length_append]; have := HR0l.out; have := Hdl.out; omega)
      clear hb0
      obtain ⟨a1', c1', hv1, _⟩ := bsl_sl hS1
      cases hv1
      have hput := rput_c (B0.length + 8) 4 (by have := HB0l.out; omega) (by decide) (by decide) hS1
      have hw8 : IntKind.i64.wrap ((B0.length : Int) + 8) = ((B0.length + 8 : Nat) : Int) := by have := HB0l.out; exact IntWalk.i64_in _ (by omega)
      have hw9 : ((B0.length + 8 : Nat) : Int) % 18446744073709551616 = ((B0.length + 8 : Nat) : Int) := by have := HB0l.out; omega
      have hw8b : wrap64 ((B0.length : Int) + 8) = ((B0.length + 8 : Nat) : Int) := by rw [← IntWalk.i64_left]; exact hw8
      have hw9b : IntKind.u64.wrap ((B0.length + 8 : Nat) : Int) = ((B0.length + 8 : Nat) : Int) := hw9
      rw [show ((4 : Nat) : Int) = 4 from rfl] at hput
      generalize hN8 : B0.length + 8 = N8 at *
      have HN8 := Lib.hid hN8
      clear hN8
      go_wp2_with fail
      simp only [hw8b, hw9b]
      refine hput.mono ?_
      clear hput hw8 hw9 hw8b hw9b
      rintro ee w2 ⟨v, rfl, hS2, a2, n2, c2, rfl⟩
      clear hS1
      go_wp2_with ((with_reducible apply at_append); refine ⟨?_⟩; refine wl_appB hS2 evD evD (Sat.rd (hS2.pick pick1)) (by rw [Frm.le_len]; have := HB0l.out; omega) ?_; intro a3 n3 c3 w3 hS3)
      clear hS2
      obtain ⟨B1, hb1⟩ : ∃ B1, B1 = Frm.le N8 4 ++ B0 := ⟨_, rfl⟩
      rw [← hb1] at hS3
      have HB1l := Lib.hid (show B1.length ≤ 16421 by rw [hb1, List.length_append, Frm.le_len]; have := HB0l.out; omega)
      have Hbody := Lib.hid (show B1 = Frm.body e by rw [hb1]; exact HFIN.out B0 N8 Hb0.out HN8.out)
      clear hb1
      have hsum := rsum_c B1 (Sat.rd hS3) (by have := HB1l.out; omega)
      have hcl := Frm.crc_lt B1
      have hput := rput_c (Frm.crc B1) 4 (by omega) (by decide) (by decide) hS3
      rw [show ((4 : Nat) : Int) = 4 from rfl] at hput
      generalize hC : Frm.crc B1 = C at *
      have HC := Lib.hid hC
      have hw9 : (C : Int) % 18446744073709551616 = (C : Int) := by omega
      have hw9b : IntKind.u64.wrap (C : Int) = (C : Int) := hw9
      clear hC hcl
      go_wp2_with fail
      refine hsum.mono ?_
      clear hsum
      rintro ee w4 ⟨v, rfl, rfl, rfl⟩
      go_wp2_with fail
      refine hput.mono ?_
      clear hput hw9 hw9b
      rintro ee w4 ⟨v, rfl, hS4, a4, n4, c4, rfl⟩
      clear hS3
      go_wp2_with ((with_reducible apply at_append); refine ⟨?_⟩; refine wl_appB hS4 evD evD (Sat.rd (hS4.pick pick1)) (by rw [Frm.le_len]; have := HB1l.out; omega) ?_; intro a5 n5 c5 w5 hS5)
      clear hS4
      go_ret2
      have hen : Frm.encode e = (Frm.le C 4 ++ B1, 0) := by unfold Frm.encode; rw [if_neg (by rw [Hch.out]; simp), ← Hbody.out, HC.out]
      exact ⟨_, rfl, .slice a5 n5 c5, by rw [hen]; rfl, ⟨_, _, _, rfl⟩, by rw [hen]; exact hS5.sub (sub_take pick0 (sub_drop (sub_drop (sub_drop sub_refl))))⟩
end
section
variable {w0 w : World} {F R : List HProp} {bE : Nat} {e : Frm.Ent} {dv : Value}
set_option maxRecDepth 20000 in
set_option maxHeartbeats 4000000 in
theorem rencode_c (e : Frm.Ent) (hk : e.key.length = 32) (da : Option Addr) (dc : Nat) (hd : Ro w0 F (rdsl 1 (.slice da e.data.length dc) (bys e.data)))  (h : Sat w0 w F) :
    Calls Tryz.prog 72 #[.agg (entA e (.slice da e.data.length dc))] w (Rtn fun v w' => ∃ bv, v = .tuple #[bv, errno (Frm.encode e).2] ∧ (∃ a n c, bv = .slice a n c) ∧ Sat w0 w' (bsl bv (Frm.encode e).1 :: F)) := by
  have hbad : ∀ n, Frm.check e = n → n ≠ 0 → Frm.encode e = ([], n) := fun n hn h0 => by unfold Frm.encode; rw [hn, if_pos h0]
  have Hbad := Lib.hid hbad
  clear hbad
  by_cases t2 : e.tag = 2
  · by_cases h0 : 0 < e.data.length
    · have Hf := Lib.hid (Hbad.out 4 (by unfold Frm.check; simp [t2, h0]) (by decide))
      have h0i : (0 : Int) < (e.data.length : Int) := by omega
      have Hk := Lib.hid hk
      clear hd hk
      go_enter Tryz.func72, Tryz.ntmps72
      go_wp2_with (first | ((with_reducible apply at_boxE); refine ⟨?_⟩; refine wl_boxE (by assumption) (by rfl) ?_; intro bX wX hX) | (with_reducible apply at_load))
      refine ⟨?_⟩
      have f0 := ent_at0 hX
      have f33 := ent_at33 Hk.out hX
      have fk := ent_atk Hk.out hX
      have Fk := Lib.hid fk
      clear h fk
      rw [t2] at f0
      go_wp2
      go_ret2
      exact ⟨_, rfl, .slice none 0 0, by rw [Hf.out]; rfl, ⟨_, _, _, rfl⟩, by rw [Hf.out]; exact Sat.osl_nil.2 hX.drop⟩
    · have h0e : e.data.length = 0 := by omega
      by_cases hz : e.key = Frm.zero32
      · exact rencode2_c e hk da dc hd t2 hz h0e h
      · have hzd : decide (e.key = Frm.zero32) = false := decide_eq_false hz
        have h0i : decide (0 < e.data.length) = false := decide_eq_false h0
        have Hf := Lib.hid (Hbad.out 4 (by unfold Frm.check; simp [t2, hz]) (by decide))
        have hnk := eqIn_zero e.key hk
        have Hks := Lib.hid (show (bys e.key).length = 32 by rw [bys_len, hk])
        have Hk := Lib.hid hk
        clear hz h0e hd hk
        go_enter Tryz.func72, Tryz.ntmps72
        go_wp2_with (first | ((with_reducible apply at_boxE); refine ⟨?_⟩; refine wl_boxE (by assumption) (by rfl) ?_; intro bX wX hX) | (with_reducible apply at_load))
        refine ⟨?_⟩
        have f0 := ent_at0 hX
        have f33 := ent_at33 Hk.out hX
        have fk := ent_atk Hk.out hX
        have Fk := Lib.hid fk
        clear h fk
        rw [t2] at f0
        go_wp2_with ((with_reducible apply at_loadH); refine ⟨?_⟩; refine wl_loadG (b := bX) (o := 1) (bys e.key) (by rfl) (by rfl) Fk.out Tryz.underlying41 rfl (by rw [Hks.out]; kernel_rfl) ?_)
        go_ret2
        exact ⟨_, rfl, .slice none 0 0, by rw [Hf.out]; rfl, ⟨_, _, _, rfl⟩, by rw [Hf.out]; exact Sat.osl_nil.2 hX.drop⟩
  · have t2b : (e.tag == 2) = false := by simpa using t2
    have Hk := Lib.hid hk
    by_cases t0 : e.tag = 0
    · by_cases hb : 16384 < e.data.length
      · have Hf := Lib.hid (Hbad.out 5 (by unfold Frm.check; simp [t0, hb]) (by decide))
        have hbi : (16384 : Int) < (e.data.length : Int) := by omega
        clear hb t2 t2b hd hk
        go_enter Tryz.func72, Tryz.ntmps72
        go_wp2_with (first | ((with_reducible apply at_boxE); refine ⟨?_⟩; refine wl_boxE (by assumption) (by rfl) ?_; intro bX wX hX) | (with_reducible apply at_load))
        refine ⟨?_⟩
        have f0 := ent_at0 hX
        have f33 := ent_at33 Hk.out hX
        have fk := ent_atk Hk.out hX
        have Fk := Lib.hid fk
        clear h fk
        rw [t0] at f0
        clear t0
        go_wp2
        go_ret2
        exact ⟨_, rfl, .slice none 0 0, by rw [Hf.out]; rfl, ⟨_, _, _, rfl⟩, by rw [Hf.out]; exact Sat.osl_nil.2 hX.drop⟩
      · exact rencode0_c e hk da dc hd t0 hb h
    · by_cases t1 : e.tag = 1
      · by_cases h0 : 0 < e.data.length
        · have Hf := Lib.hid (Hbad.out 4 (by unfold Frm.check; simp [t1, h0]) (by decide))
          have h0i : (0 : Int) < (e.data.length : Int) := by omega
          clear t2 t2b t0 hd hk
          go_enter Tryz.func72, Tryz.ntmps72
          go_wp2_with (first | ((with_reducible apply at_boxE); refine ⟨?_⟩; refine wl_boxE (by assumption) (by rfl) ?_; intro bX wX hX) | (with_reducible apply at_load))
          refine ⟨?_⟩
          have f0 := ent_at0 hX
          have f33 := ent_at33 Hk.out hX
          have fk := ent_atk Hk.out hX
          have Fk := Lib.hid fk
          clear h fk
          rw [t1] at f0
          clear t1
          go_wp2
          go_ret2
          exact ⟨_, rfl, .slice none 0 0, by rw [Hf.out]; rfl, ⟨_, _, _, rfl⟩, by rw [Hf.out]; exact Sat.osl_nil.2 hX.drop⟩
        · exact rencode1_c e hk da dc hd t1 (by omega) h
      · have Hf := Lib.hid (Hbad.out 4 (by unfold Frm.check; simp [t0, t1, t2]) (by decide))
        by_cases hneg : e.tag < 0
        · have g1 : decide (e.tag < 0) = true := decide_eq_true hneg
          clear t0 t1 t2 t2b hd hk
          go_enter Tryz.func72, Tryz.ntmps72
          go_wp2_with (first | ((with_reducible apply at_boxE); refine ⟨?_⟩; refine wl_boxE (by assumption) (by rfl) ?_; intro bX wX hX) | (with_reducible apply at_load))
          refine ⟨?_⟩
          have f0 := ent_at0 hX
          have f33 := ent_at33 Hk.out hX
          have fk := ent_atk Hk.out hX
          have Fk := Lib.hid fk
          clear h fk
          generalize e.tag = T at *
          go_wp2
          go_ret2
          exact ⟨_, rfl, .slice none 0 0, by rw [Hf.out]; rfl, ⟨_, _, _, rfl⟩, by rw [Hf.out]; exact Sat.osl_nil.2 hX.drop⟩
        · have g1 : decide (e.tag < 0) = false := decide_eq_false hneg
          have g2 : decide (2 < e.tag) = true := decide_eq_true (by omega)
          have g2' : 2 < e.tag := by omega
          clear t0 t1 t2 t2b hd hk
          go_enter Tryz.func72, Tryz.ntmps72
          go_wp2_with (first | ((with_reducible apply at_boxE); refine ⟨?_⟩; refine wl_boxE (by assumption) (by rfl) ?_; intro bX wX hX) | (with_reducible apply at_load))
          refine ⟨?_⟩
          have f0 := ent_at0 hX
          have f33 := ent_at33 Hk.out hX
          have fk := ent_atk Hk.out hX
          have Fk := Lib.hid fk
          clear h fk
          generalize e.tag = T at *
          go_wp2
          go_ret2
          exact ⟨_, rfl, .slice none 0 0, by rw [Hf.out]; rfl, ⟨_, _, _, rfl⟩, by rw [Hf.out]; exact Sat.osl_nil.2 hX.drop⟩
end
section
variable {w0 w : World} {F R : List HProp} {d : Nat} {D : Med} {fsv fv nv wv v lv bv : Value} {xs : List RF} {g : Bag} {K : Nat}
set_option maxRecDepth 20000 in
set_option maxHeartbeats 8000000 in
theorem rappend_c (s : ByteArray) (b : Bs) (hb : Ro w0 F (rdsl 1 bv (bys b))) (hbl : b.length ≤ 1048576) (ok : D.Ok K) (hK : K ≤ 1048576) (hus : D.used ≤ 1099511627776) (h : Sat w0 w (DskRep d D :: F)) :
    Calls Tryz.prog 73 #[ptr d, .string s, .agg #[.bool false, .int .i64 0, bv]] w (Rtn fun v w' => v = errno (D.append s b).2 ∧ Sat w0 w' (DskRep d (D.append s b).1 :: F)) := by
  have Ok := Lib.hid ok; have Hus := Lib.hid hus; have Hb := Lib.hid hb; have Hbl := Lib.hid hbl; have HK := Lib.hid hK
  have hl : D.now.length ≤ 1048576 := Nat.le_trans ok.nowOk.len (by decide)
  have Hl := Lib.hid hl
  obtain ⟨ba, bn, bc, rfl, hbn, _⟩ := id (hb _ h.drop)
  rw [bys_len, Nat.mul_one] at hbn
  subst hbn
  clear hb hbl hK hus ok hl
  go_enter Tryz.func73, Tryz.ntmps73
  go_wp2_with (first | ((with_reducible apply at_box); refine ⟨?_⟩; refine wl_box (by assumption) evD evD ?_; intro bB wB hB) | (with_reducible apply at_load))
  refine ⟨?_⟩
  have hO := hB.sub (sub_take pick1 (sub_take pick0 sub_refl))
  have hfd := rfind_c s Hl.out hO
  obtain ⟨fsv, fv, nv, wv, xs, g, hin, hR⟩ := DskRep.open hO
  have Hin := Lib.hid hin
  have e7 : World.cell? _ ⟨d, 7, none⟩ = some (.bool D.off) := hR.cellP pick0 7 rfl
  clear h hin hO
  cases ho : D.off with
  | true =>
    have Ha := Lib.hid (show D.append s b = (D, 12) by unfold Med.append; rw [ho]; rfl)
    rw [ho] at e7
    clear ho hfd
    go_wp2
    go_ret
    exact ⟨_, rfl, by rw [Ha.out]; rfl, by rw [Ha.out]; exact (DskRep.shut Hin.out hR).sub (sub_take pick0 (sub_drop sub_refl))⟩
  | false =>
    rw [ho] at e7
    have Ho := Lib.hid (show ¬ (D.off = true) by rw [ho]; decide)
    clear ho
    cases hg : nget D.now s with
    | none =>
      have Ha := Lib.hid (show D.append s b = (D, 9) by unfold Med.append; rw [if_neg Ho.out, hg])
      have hwh : D.which s = -1 := by unfold Med.which; rw [hg]
      rw [hwh] at hfd
      clear hg hwh
      go_wp2_with fail
      refine hfd.mono ?_
      rintro ee w1 ⟨v, rfl, rfl, rfl⟩
      clear hfd
      go_wp2
      go_ret
      exact ⟨_, rfl, by rw [Ha.out]; rfl, by rw [Ha.out]; exact (DskRep.shut Hin.out hR).sub (sub_take pick0 (sub_drop sub_refl))⟩
    | some i =>
      have hwh : D.which s = (i : Int) := by unfold Med.which; rw [hg]
      rw [hwh] at hfd
      have c1 : ¬ (i : Int) < 0 := by omega
      have hif : i < D.files.length := Ok.out.nowOk.ids _ (nget_mem hg)
      have Hif := Lib.hid hif
      have Hg := Lib.hid hg
      have hroom := Ok.out.room
      have hus := Hus.out
      have hbl := Hbl.out
      clear hg hwh hif
      go_wp2_with fail
      refine hfd.mono ?_
      rintro ee w1 ⟨v, rfl, rfl, rfl⟩
      clear hfd e7
      go_wp2_with fail
      have f0 : World.cell? (World.drew _) ⟨bB, 0, none⟩ = some (.bool false) := hB.drew.cellP pick0 0 rfl
      go_region
      clear f0
      have hBd := hB.drew.drew
      clear hB hR
      have hBd2 := hBd.sub (sub_take pick1 (sub_take pick0 sub_refl))
      have huc := rused_c Hl.out Hus.out Ok.out.nowOk.ids hBd2
      obtain ⟨fsv, fv, nv, wv, xs, g, hin, hR⟩ := DskRep.open hBd2
      clear hBd2
      go_wp2_with fail
      refine wpL_begin [14, 15] (fun w' => w'.cell? ⟨bB, 0, none⟩ = some (.bool false) ∧ w'.cell? ⟨bB, 2, none⟩ = some (.slice ba b.length bc) ∧ w'.cell? ⟨d, 0, none⟩ = some (.int .i64 D.room)) (by kernel_rfl) ?_
      have hG : World.cell? _ ⟨bB, 0, none⟩ = some (.bool false) ∧ World.cell? _ ⟨bB, 2, none⟩ = some (.slice ba b.length bc) ∧ World.cell? _ ⟨d, 0, none⟩ = some (.int .i64 D.room) := ⟨hBd.cellP pick0 0 rfl, hBd.cellP pick0 2 rfl, hR.cellP pick0 0 rfl⟩
      refine rp 0 (hy := (yl_field evD rnD)) (h := ?_)
      refine rt 1 (h := ?_)
      refine rp 2 (hy := (yl_un evD rnD)) (h := ?_)
      refine rp 3 (hy := (yl_move evD)) (h := ?_)
      refine rp 4 (hy := (yg_field (by rfl) evD rnD)) (h := ?_)
      refine rg_take 5 evD (by kernel_rfl) (by intro _ _ _ h; exact h) (tg_load (by rfl) evD (by kernel_rfl) (by intro wq hq; first | exact hq | exact hq.1 | exact hq.2 | exact hq.2.1 | exact hq.2.2 | exact hq.2.2.1 | exact hq.2.2.2 | exact hq.2.2.2.1 | exact hq.2.2.2.2)) (by assumption) (by go_frame; first | done | rfl) ?_
      refine rp 6 (hy := (yg_len (by rfl) evD rnD)) (h := ?_)
      refine rp 7 (hy := (yg_move (by rfl) evD)) (h := ?_)
      refine rp 8 (hy := (yg_nil (by rfl) evD)) (h := ?_)
      refine rp 9 (hy := (yg_field (by rfl) evD rnD)) (h := ?_)
      refine rg_take 10 evD (by kernel_rfl) (by intro _ _ _ h; exact h) (tg_load (by rfl) evD (by kernel_rfl) (by intro wq hq; first | exact hq | exact hq.1 | exact hq.2 | exact hq.2.1 | exact hq.2.2 | exact hq.2.2.1 | exact hq.2.2.2 | exact hq.2.2.2.1 | exact hq.2.2.2.2)) (by assumption) (by go_frame; first | done | rfl) ?_
      refine rp 11 (hy := (yg_move (by rfl) evD)) (h := ?_)
      refine rg_eff 12 evD (by kernel_rfl) (fun K hK => ?_)
      refine eg_call [ptr d] (by rfl) (by kernel_rfl) (by rfl) ?_
      refine huc.mono ?_
      clear huc hR hG hin fsv fv nv wv xs g
      rintro e w4 ⟨v, rfl, rfl, hS⟩
      obtain ⟨fsv, fv, nv, wv, xs, g, hin, hR⟩ := DskRep.open hS
      have Hin2 := Lib.hid hin
      have hst := rstep_c hR Ok.out.left
      have hw3 : IntKind.i64.wrap ((D.room : Int) - (D.used : Int)) = (D.room : Int) - (D.used : Int) := IntWalk.i64_in _ (by omega)
      refine hK _ _ (.inr (.inl ⟨hS.cellP pick1 0 rfl, hS.cellP pick1 2 rfl, hR.cellP pick0 0 rfl⟩)) ?_
      clear hK hin hBd
      by_cases hful : (D.room : Int) - D.used < b.length
      · have Ha := Lib.hid (show D.append s b = (D, 11) by unfold Med.append; rw [if_neg Ho.out, Hg.out]; simp only []; rw [if_pos hful])
        clear hst
        refine rp 13 (hy := (yg_bin (by rfl) evD evD rnD)) (h := ?_)
        refine rp 14 (hy := (yg_bin (by rfl) evD evD rnD)) (h := ?_)
        refine rp 15 (hy := (yg_pick (by rfl) evD evD)) (h := ?_)
        refine wpL_done (by kernel_rfl) ?_
        try simp only [List.getElem_toArray, List.getElem_cons_succ, List.getElem_cons_zero]
        try go_frame
        go_wp2
        go_ret
        exact ⟨_, rfl, by rw [Ha.out]; rfl, by rw [Ha.out]; exact hS.sub (sub_take pick0 (sub_drop sub_refl))⟩
      · have hstep : ∀ X : Med × Int, (if D.step.2 = false then (D.step.1, 12) else (D.step.1.setFile i ((D.file i).do ⟨false, 0, b⟩), 0)) = X → D.append s b = X := by
          rintro X rfl
          unfold Med.append
          rw [if_neg Ho.out, Hg.out]
          simp only []
          rw [if_neg hful]
        have Hstep := Lib.hid hstep
        clear hstep
        refine rp 13 (hy := (yg_bin (by rfl) evD evD rnD)) (h := ?_)
        refine rp 14 (hy := (yg_bin (by rfl) evD evD rnD)) (h := ?_)
        refine rp 15 (hy := (yg_pick (by rfl) evD evD)) (h := ?_)
        refine wpL_done (by kernel_rfl) ?_
        try simp only [List.getElem_toArray, List.getElem_cons_succ, List.getElem_cons_zero]
        try go_frame
        go_wp2_with fail
        refine hst.mono ?_
        clear hst hS hR hw3
        rintro ee w5 ⟨v, rfl, rfl, hS⟩
        rw [← step_waits] at hS
        have Hin3 := Lib.hid Hin2.out.step
        cases ht : D.step.2 with
        | false =>
          have Ha := Lib.hid (Hstep.out _ (if_pos ht))
          clear ht
          go_wp2
          go_ret
          exact ⟨_, rfl, by rw [Ha.out]; rfl, by rw [Ha.out]; exact (DskRep.shut Hin3.out hS).sub (sub_take pick0 (sub_drop sub_refl))⟩
        | true =>
          have Ha := Lib.hid (Hstep.out _ (if_neg (by rw [ht]; decide)))
          have hfile : D.file i = D.step.1.file i := (step_file D i).symm
          rw [hfile] at Ha
          have Hfl := Lib.hid (show i < D.step.1.files.length by rw [step_files]; exact Hif.out)
          have Ok1 := Lib.hid Ok.out.step
          clear ht hfile hful Hstep hus hroom
          generalize D.step.1 = D1 at *
          obtain ⟨x, hx, hxf⟩ := Hin3.out.file Hfl.out
          rw [← hxf] at Ha
          have hok := Hin3.out.ok x (List.mem_of_getElem? hx)
          have hxo := Ok1.out.file i
          rw [← hxf] at hxo
          have hnl := Nat.le_trans hxo.now_len (show 16777216 ≤ 1099511627776 by decide)
          have hwb : x.ws.length ≤ 1048576 := by rw [← List.length_map (f := fun p : Chg × Value => p.1), hok]; exact Nat.le_trans hxo.budget HK.out
          have hlx : xs.length = D1.files.length := by rw [← Hin3.out.files, List.length_map]
          rcases Sat.osl_cases (hS.pick pick1) with ⟨_, hxx, _⟩ | ⟨fb, fn, fc, cs, rfl, hfn, _⟩
          · have h1 := congrArg List.length hxx
            have h2 := Hfl.out
            rw [rfsL_len] at h1
            simp only [List.length_nil] at h1
            omega
          rw [rfsL_len] at hfn
          obtain rfl : fn = xs.length := by omega
          have c2 : (i : Int) < (xs.length : Int) := by have := Hfl.out; omega
          have hq : i * 3 + 2 < (rfsL xs).length := by have := Hfl.out; rw [rfsL_len]; omega
          have hq1 : ∀ xs' : List RF, xs'.length = xs.length → i * 3 + 1 < (rfsL xs').length := fun xs' e => by have := Hfl.out; rw [rfsL_len, e]; omega
          obtain ⟨G, hGx, hO⟩ := rf_out hx (hS.pick pick2)
          obtain ⟨_, _, hw2⟩ := rfsL_at hx
          have e2 := (osl_set (hS.pick pick1) (i * 3 + 2) (.slice none 0 0)).2.1 _ hw2
          obtain ⟨xf, xfv, xnv, xwv, xws⟩ := x
          dsimp only at hxo hok hwb hO e2 hnl
          obtain ⟨wa, wc, rfl⟩ := chg_sl (Sat.rd (hO.pick pick2))
          have e1 : World.cell? _ ⟨d, 1, none⟩ = some (.slice (some ⟨fb, 0, none⟩) xs.length fc) := hO.cellP pick5 1 rfl
          have Hx := Lib.hid hx; have Hxf := Lib.hid hxf; have Hok := Lib.hid hok; have HGx := Lib.hid hGx; have Hnl := Lib.hid hnl; have Hxn := Lib.hid hxo.now_len
          have hlen : (xws.flatMap chgCells).length ≤ 2147483648 := by rw [chg_len]; omega
          clear hx hxf hok hGx hw2 hxo hnl hwb hlx hS hfn
          go_wp2_with fail
          have hO2 := hO.drew
          clear hO e1 e2
          refine wpL_begin [16, 17, 18] (fun w' => w'.cell? ⟨d, 1, none⟩ = some (.slice (some ⟨fb, 0, none⟩) xs.length fc) ∧ w'.cell? ⟨bB, 0, none⟩ = some (.bool false) ∧ w'.cell? ⟨bB, 1, none⟩ = some (.int .i64 0) ∧ w'.cell? ⟨bB, 2, none⟩ = some (.slice ba b.length bc)) (by kernel_rfl) ?_
          have hG : World.cell? _ ⟨d, 1, none⟩ = some (.slice (some ⟨fb, 0, none⟩) xs.length fc) ∧ World.cell? _ ⟨bB, 0, none⟩ = some (.bool false) ∧ World.cell? _ ⟨bB, 1, none⟩ = some (.int .i64 0) ∧ World.cell? _ ⟨bB, 2, none⟩ = some (.slice ba b.length bc) := ⟨hO2.cellP pick5 1 rfl, hO2.cellP pick9 0 rfl, hO2.cellP pick9 1 rfl, hO2.cellP pick9 2 rfl⟩
          refine rp 0 (hy := (yl_move evD)) (h := ?_)
          refine rp 1 (hy := (yl_nil evD)) (h := ?_)
          refine rp 2 (hy := (yl_field evD rnD)) (h := ?_)
          refine rt 3 (h := ?_)
          refine rp 4 (hy := (yl_move evD)) (h := ?_)
          refine rp 5 (hy := (yl_move evD)) (h := ?_)
          refine rp 6 (hy := (yl_field evD rnD)) (h := ?_)
          refine rt 7 (h := ?_)
          refine rp 8 (hy := (yl_field evD rnD)) (h := ?_)
          refine rt 9 (h := ?_)
          refine rp 10 (hy := (yl_field evD rnD)) (h := ?_)
          refine rt 11 (h := ?_)
          refine rg_eff 12 evD (by kernel_rfl) (fun K hK => ?_)
          refine eff_call1 (by kernel_rfl) evD ?_
          refine (copy_c hO2 b (Hb.out _ (hO2.sb)) (by omega)).mono ?_
          rintro e w6 ⟨v, rfl, hS6, a6, n6, c6, rfl⟩
          refine hK _ _ (.inr (.inl ⟨hS6.cellP pick6 1 rfl, hS6.cellP pick10 0 rfl, hS6.cellP pick10 1 rfl, hS6.cellP pick10 2 rfl⟩)) ?_
          clear hK hG hO2
          refine rp 13 (hy := (by (refine Or.inl ⟨by rfl, ?_⟩; ((intro wq; go_simp); first | done | (with_reducible rfl))))) (h := ?_)
          refine rg_eff 14 evD (by kernel_rfl) (fun K hK => ?_)
          refine eff_build1 (e := 155) (sz := 3) (by' := 40) (by kernel_rfl) hS6 evD (cs := #[.bool false, .int .i64 0, .slice a6 n6 c6]) rfl rfl (Nat.le_of_ble_eq_true (by rfl)) ?_
          intro bN w7 hS7
          refine hK _ _ (.inr (.inl ⟨hS7.cellP (pick_there pick6) 1 rfl, hS7.cellP (pick_there pick10) 0 rfl, hS7.cellP (pick_there pick10) 1 rfl, hS7.cellP (pick_there pick10) 2 rfl⟩)) ?_
          clear hK hS6
          refine rg_eff 15 evD (by kernel_rfl) (fun K hK => ?_)
          refine eff_app 155 3 40 (by kernel_rfl) hS7 evD evD pick4 pick0 (by rfl) (Nat.le_refl 1) (by rfl) hlen (by show 3 ≤ 65536; decide) (by decide) rfl ?_
          intro bA nA cA w8 hS8
          refine hK _ _ (.inr (.inl ⟨hS8.cellP pick6 1 rfl, hS8.cellP pick10 0 rfl, hS8.cellP pick10 1 rfl, hS8.cellP pick10 2 rfl⟩)) ?_
          clear hK hS7
          refine rp 16 (hy := (yl_index evD evD rnD)) (h := ?_)
          refine rp 17 (hy := (yl_field evD rnD)) (h := ?_)
          refine rg_eff 18 evD (by kernel_rfl) (fun K hK => ?_)
          refine eff_storeS (b := fb) (i * 3 + 2) hS8 evD evD upD hq (by kernel_rfl) rfl rfl ?_
          intro w9 hS9
          refine hK _ _ (.inl rfl) ?_
          refine wpL_done (by kernel_rfl) ?_
          have ew : xws.flatMap chgCells ++ #[Value.bool false, Value.int .i64 0, .slice a6 n6 c6].toList = (xws ++ [((⟨false, 0, b⟩ : Chg), Value.slice a6 n6 c6)]).flatMap chgCells := chg_snoc xws (⟨false, 0, b⟩, .slice a6 n6 c6)
          rw [ew] at hS9
          have hx2 : (rfsL xs).set (i * 3 + 2) (.slice (some ⟨bA, 0, none⟩) nA cA) = rfsL (xs.set i ⟨⟨xf.fast, xf.now, xf.waits ++ [⟨false, 0, b⟩]⟩, xfv, xnv, .slice (some ⟨bA, 0, none⟩) nA cA, xws ++ [(⟨false, 0, b⟩, .slice a6 n6 c6)]⟩) :=
            (rfsL_wv xs i _ _ Hx.out).trans (rfsL_alike _ _ _ _ _ _ _ xs i)
          rw [hx2] at hS9
          clear hx2 ew hS8 hq
          have hx2 : ∃ x2 : RF, x2 = ⟨⟨xf.fast, xf.now, xf.waits ++ [⟨false, 0, b⟩]⟩, xfv, xnv, .slice (some ⟨bA, 0, none⟩) nA cA, xws ++ [(⟨false, 0, b⟩, .slice a6 n6 c6)]⟩ := ⟨_, rfl⟩
          obtain ⟨x2, hx2⟩ := hx2
          have hA1 := chgs_add (p := ((⟨false, 0, b⟩ : Chg), Value.slice a6 n6 c6)) (hS9.sub (sub_take pick1 (sub_take pick3 sub_refl)))
          have hA2 := rf_in (x := ⟨⟨xf.fast, xf.now, xf.waits ++ [⟨false, 0, b⟩]⟩, xfv, xnv, .slice (some ⟨bA, 0, none⟩) nA cA, xws ++ [(⟨false, 0, b⟩, .slice a6 n6 c6)]⟩) HGx.out (hA1.sub (sub_take pick2 (sub_take pick2 (sub_take pick1 (sub_take pick0 sub_refl)))))
          rw [← hx2] at hA2
          have hok2 : x2.ws.map (·.1) = x2.f.waits := by rw [hx2]; simp [Hok.out]
          have hin4 := Hin3.out.set (i := i) (x' := x2) hok2
          have e4 : (D1.setFile i x2.f).file i = x2.f := by rw [file_set Hfl.out, if_pos rfl]
          have e5 : x2.f.now = xf.now := by rw [hx2]
          have hh := rhere_c (D := D1.setFile i x2.f) i (by unfold Med.setFile; rw [List.length_set]; exact Hfl.out) hin4 (by rw [e4, e5]; exact Hnl.out) (hA2.sub (sub_take pick1 (sub_take pick1 (sub_take pick0 sub_refl))))
          rw [e4, e5] at hh
          have Hx2 := Lib.hid hx2; have Hok2 := Lib.hid hok2
          have hx2i : (xs.set i x2)[i]? = some x2 := by rw [List.getElem?_set_self (by rw [← List.length_map (f := fun r : RF => r.f), Hin3.out.files]; exact Hfl.out)]
          have Hx2i := Lib.hid hx2i
          clear hx2 hok2 hin4 e4 e5 hS9 hA1 hA2 hx2i
          clear hK
          go_wp2_with fail
          refine hh.mono ?_
          clear hh
          rintro ee w10 ⟨v, rfl, hS10, a7, n7, c7, rfl⟩
          go_wp2_with (first
            | ((with_reducible apply at_load); refine ⟨?_⟩; refine wl_load1 (by assumption) (by rfl) pkD (Nat.le_of_ble_eq_true (by rfl)) evD (by kernel_rfl) ?_)
            | ((with_reducible apply at_append); refine ⟨?_⟩; refine wl_appB hS10 evD evD (Hb.out _ (hS10.sb)) (by have := Hnl.out; have := Hxn.out; omega) ?_; intro a8 n8 c8 w11 hS11)
            | ((with_reducible apply at_store); refine ⟨?_⟩; refine wl_storeS (b := fb) (i * 3 + 1) hS11 (by rfl) evD upD (hq1 _ (List.length_set ..)) (by kernel_rfl) rfl rfl ?_; intro w12 hS12))
          clear hS10 hS11
          go_wp2
          go_ret
          refine ⟨_, rfl, by rw [Ha.out]; rfl, ?_⟩
          rw [Ha.out]
          have h2i := Hx2i.out
          have hx2 := Hx2.out
          subst hx2
          rw [rfsL_nv _ i _ _ h2i, List.set_set] at hS12
          obtain ⟨G2, hG2, hO3⟩ := rf_out h2i (hS12.pick pick3)
          have h3 := rf_in (x := ⟨xf.do ⟨false, 0, b⟩, xfv, .slice a8 n8 c8, .slice (some ⟨bA, 0, none⟩) nA cA, xws ++ [(⟨false, 0, b⟩, .slice a6 n6 c6)]⟩) hG2 (hO3.sub (sub_take pick0 (sub_take pick4 (sub_take pick1 (sub_take pick1 (sub_take pick1 (sub_drop sub_refl)))))))
          rw [List.set_set] at h3
          rw [rfsL_alike _ (xf.do ⟨false, 0, b⟩) _ _ _ _ (xws ++ [(⟨false, 0, b⟩, .slice a6 n6 c6)]) xs i] at h3
          refine (DskRep.shut (D := D1.setFile i (xf.do ⟨false, 0, b⟩)) (Hin3.out.set (x' := ⟨xf.do ⟨false, 0, b⟩, xfv, .slice a8 n8 c8, .slice (some ⟨bA, 0, none⟩) nA cA, xws ++ [(⟨false, 0, b⟩, .slice a6 n6 c6)]⟩) Hok2.out) (h3.sub (sub_take pick1 (sub_take pick1 (sub_take pick0 sub_refl))))).sub (sub_take pick0 (sub_drop sub_refl))
end
section
variable {w0 w : World} {F R : List HProp} {d : Nat} {D : Med} {fsv fv nv wv v lv bv : Value} {xs : List RF} {g : Bag} {K : Nat}
end
section
variable {P : Program} {w0 w : World} {L L' : List HProp} {b o : Nat} {ops : Array Oper} {a : Act} {Q : Exit → Act → World → Prop} {dst : Option Tmp} {t ty T : TypeId} {pos : String} {after : Array Edge} {x y : Operand} {cs : Array Value} {v : Value} {K : Act → World → Prop} {E : Prop}
end
section
variable {w0 w : World} {F R : List HProp} {d i : Nat} {D : Med} {fsv fv nv wv v lv bv : Value} {xs : List RF} {x : RF} {g : Bag} {K : Nat}
theorem bsl_of_rd {a : Option Addr} {n c k : Nat} {l : Bs} (h : rdsl 1 (.slice a n c) (bys l) w) (hk : k ≤ l.length) : rdsl 1 (.slice a k c) (bys (l.take k)) w := by
  have := rdsl_min h k
  obtain ⟨_, _, _, he, hl, _⟩ := h
  cases he
  rw [bys_len, Nat.mul_one] at hl
  subst hl
  rw [Nat.min_eq_right hk] at this
  unfold bys
  rw [List.map_take]
  exact this
section
variable {P : Program} {b o : Nat} {ops : Array Oper} {rest : List Oper} {a : Act} {Q : Exit → Act → World → Prop} {dst : Option Tmp} {t ty : Nat} {pos : String} {after : Array Edge} {y : Operand}
end
end
section
variable {w0 w : World} {F R : List HProp} {v bv dv x lv : Value}
theorem ent_setkey (e : Frm.Ent) (dv : Value) (i : Nat) (c : UInt8) (hi : i < e.key.length) : putsAt (entA e dv) (1 + i) [Value.int .u8 c.toNat] = entA ⟨e.tag, e.key.set i c, e.data⟩ dv := by
  apply putsAt_eq
  show ((entA e dv).setIfInBounds (1 + i) _).toList = _
  rw [Array.toList_setIfInBounds]
  unfold entA entL
  rw [List.toList_toArray, List.toList_toArray, Nat.add_comm 1 i, List.set_cons_succ, List.set_append_left _ _ (by rw [bys_len]; exact hi)]
  unfold bys
  rw [List.map_set]
def keyTo (kk : Bs) (i : Nat) : Bs := kk.take i ++ Frm.zero32.drop i
theorem keyTo_len {kk : Bs} (h : kk.length = 32) {i : Nat} (hi : i ≤ 32) : (keyTo kk i).length = 32 := by
  unfold keyTo; rw [List.length_append, List.length_take, List.length_drop, h]; show min i 32 + (32 - i) = 32; omega
theorem keyTo_succ {kk : Bs} (h : kk.length = 32) {i : Nat} (hi : i < 32) {c : UInt8} (hc : kk[i]? = some c) : (keyTo kk i).set i c = keyTo kk (i + 1) := by
  unfold keyTo
  have h1 : (kk.take i).length = i := by rw [List.length_take, h]; omega
  rw [List.set_append_right _ _ (by omega), h1, Nat.sub_self, List.take_add_one, hc]
  have h2 : Frm.zero32.drop i = 0 :: Frm.zero32.drop (i + 1) := by
    unfold Frm.zero32
    rw [List.drop_replicate, List.drop_replicate, show 32 - i = (32 - (i + 1)) + 1 by omega, List.replicate_succ]
  rw [h2]; simp
theorem keyTo_end {kk : Bs} (h : kk.length = 32) : keyTo kk 32 = kk := by
  unfold keyTo; rw [List.take_of_length_le (by omega), List.drop_of_length_le (by show 32 ≤ 32; omega), List.append_nil]
end
section
variable {w0 w : World} {F R : List HProp} {v bv dv x lv : Value}
set_option maxRecDepth 20000 in
set_option maxHeartbeats 8000000 in
theorem rread_short {l : Bs} (h9 : l.length < 9) (hr : Ro w0 F (rdsl 1 bv (bys l))) (hcap : capOk bv) (hl : l.length ≤ 1099511627776) (h : Sat w0 w F) :
    Calls Tryz.prog 100 #[bv] w (Rtn fun v w' => ∃ da dc, v = .tuple #[.agg (entA (Frm.read l).1 (.slice da (Frm.read l).1.data.length dc)), .int .i64 (Frm.read l).2.1, errno (Frm.read l).2.2] ∧ Sat w0 w' (bsl (.slice da (Frm.read l).1.data.length dc) (Frm.read l).1.data :: F)) := by
  obtain ⟨ba, bn, bc, rfl, hbn, hbc⟩ := hcap
  have hln : bn = l.length := by
    obtain ⟨_, _, _, he, hl', _⟩ := hr w h
    cases he
    rw [bys_len, Nat.mul_one] at hl'; exact hl'.symm
  subst hln
  have Hf := Lib.hid (show Frm.read l = (Frm.zeroE, 0, 3) by unfold Frm.read; rw [if_pos h9])
  have c1 : (l.length : Int) < 9 := by omega
  clear hr h9 hl
  go_enter Tryz.func100, Tryz.ntmps100
  go_wp2_with (first | ((with_reducible apply at_allocE); refine ⟨?_⟩; refine wl_allocE (by assumption) ?_; intro bE wE hE) | ((with_reducible apply at_buildZ); refine ⟨?_⟩; refine wl_buildZ ?_) | ((with_reducible apply at_storeE); refine ⟨?_⟩; first | (refine wl_storeE (by assumption) (by rfl) (by rfl) (by first | rfl | assumption | exact Hid.out (by assumption)) upD (by first | assumption | exact entA_size _ _ rfl | exact entA_size _ _ (by assumption) | exact entA_size _ _ (Hid.out (by assumption))) ?_; intro wS hS) | (refine wl_storeE (e := Frm.zeroE) (da := none) (dn := 0) (dc := 0) (by assumption) (by rfl) (by rfl) rfl upD (by first | assumption | exact entA_size _ _ rfl | exact entA_size _ _ (by assumption) | exact entA_size _ _ (Hid.out (by assumption))) ?_; intro wS hS)))
  rw [Hf.out]
  refine ⟨rfl, _, res_entE3 rfl (by assumption) (by rfl) pkD rfl, _, rfl, none, 0, rfl, Sat.osl_nil.2 (Sat.sb hS)⟩
set_option maxRecDepth 20000 in
set_option maxHeartbeats 8000000 in
theorem rread_tag (l : Bs) (hr : Ro w0 F (rdsl 1 bv (bys l))) (hcap : capOk bv) (hl : l.length ≤ 1099511627776) (h9 : ¬ l.length < 9) (ht : (l.getD 8 0).toNat > 2) (h : Sat w0 w F) :
    Calls Tryz.prog 100 #[bv] w (Rtn fun v w' => ∃ da dc, v = .tuple #[.agg (entA (Frm.read l).1 (.slice da (Frm.read l).1.data.length dc)), .int .i64 (Frm.read l).2.1, errno (Frm.read l).2.2] ∧ Sat w0 w' (bsl (.slice da (Frm.read l).1.data.length dc) (Frm.read l).1.data :: F)) := by
  obtain ⟨ba, bn, bc, rfl, hbn, hbc⟩ := hcap
  have hln : bn = l.length := by
    obtain ⟨_, _, _, he, hl', _⟩ := hr w h
    cases he
    rw [bys_len, Nat.mul_one] at hl'; exact hl'.symm
  subst hln
  obtain ⟨bk, off, rfl, hcell⟩ : ∃ bk off, ba = some ⟨bk, off, none⟩ ∧ True := by
    have hx : (bys l)[0]? = some (.int .u8 (l[0]'(by omega)).toNat) := by
      unfold bys; rw [List.getElem?_map, List.getElem?_eq_getElem (by omega)]; rfl
    obtain ⟨bk, off, hb, _⟩ := rdsl_cells (hr w h) hx
    exact ⟨bk, off, hb, trivial⟩
  clear hcell
  have hrd := hr w h
  have Hsub := Lib.hid (show ∀ (i j : Nat), i ≤ j → j ≤ l.length → ∀ w, Sat w0 w F → rdsl 1 (.slice (some ⟨bk, off + i, none⟩) (j - i) (bc - i)) (bys ((l.take j).drop i)) w from fun i j h1 h2 w hw => rdsl_sub (hr w hw) i j (bc - i) h1 h2)
  have Hnum := Lib.hid (show ∀ w, Sat w0 w F → Calls Tryz.prog 145 #[.slice (some ⟨bk, off + 4, none⟩) 4 (bc - 4)] w (Rtn fun v w' => v = .tuple #[.int .u64 (Frm.num ((l.drop 4).take 4) : Nat), .bool true] ∧ w = w') from fun w hw => rget_c ((l.drop 4).take 4) (by rw [List.length_take, List.length_drop]; omega) (by rw [List.length_take]; omega) (by
    have := Hsub.out 4 8 (by omega) (by omega) w hw
    rw [List.drop_take] at this
    exact this))
  have Hnum0 := Lib.hid (show ∀ w, Sat w0 w F → Calls Tryz.prog 145 #[.slice (some ⟨bk, off, none⟩) 4 bc] w (Rtn fun v w' => v = .tuple #[.int .u64 (Frm.num (l.take 4) : Nat), .bool true] ∧ w = w') from fun w hw => rget_c (l.take 4) (by rw [List.length_take]; omega) (by rw [List.length_take]; omega) (bsl_of_rd (hr w hw) (by omega)))
  have Hread := Lib.hid (show Frm.read l = if Frm.fits (l.getD 8 0) (Frm.num ((l.drop 4).take 4)) = false then (Frm.zeroE, 0, 4)
    else if l.length < Frm.num ((l.drop 4).take 4) then (Frm.zeroE, 0, 3)
    else if Frm.crc ((l.take (Frm.num ((l.drop 4).take 4))).drop 4) ≠ Frm.num (l.take 4) then (Frm.zeroE, 0, 13)
    else if 41 ≤ Frm.num ((l.drop 4).take 4) then (⟨(l.getD 8 0).toNat, (l.drop 9).take 32, (l.take (Frm.num ((l.drop 4).take 4))).drop 41⟩, Frm.num ((l.drop 4).take 4), 0)
    else (⟨(l.getD 8 0).toNat, Frm.zero32, []⟩, Frm.num ((l.drop 4).take 4), 0) by unfold Frm.read; rw [if_neg h9])
  have hN : Frm.num ((l.drop 4).take 4) < 4294967296 := by
    have := Frm.num_lt ((l.drop 4).take 4)
    rw [List.length_take, List.length_drop] at this
    have h4 : min 4 (l.length - 4) = 4 := by omega
    rw [h4] at this
    omega
  generalize hNN : Frm.num ((l.drop 4).take 4) = N at *
  have hc8 : ∀ w, Sat w0 w F → w.cell? ⟨bk, off + 8, none⟩ = some (.int .u8 (l.getD 8 0).toNat) := fun w hw => by
    have hx : (bys l)[8]? = some (.int .u8 (l.getD 8 0).toNat) := by
      unfold bys; rw [List.getElem?_map, List.getD_eq_getElem?_getD, List.getElem?_eq_getElem (by omega)]; rfl
    obtain ⟨bk', off', hb, hc⟩ := rdsl_cells (hr w hw) hx
    cases hb
    exact hc _ _ hx
  have Hc8 := Lib.hid hc8; have Hr := Lib.hid hr; have Hl := Lib.hid hl
  have c1 : ¬ (l.length : Int) < 9 := by omega
  have c2 : ¬ bc = 4 := by omega
  have c4 : (l.length : Int) ≤ (bc : Int) := by omega
  have c4b : (8 : Int) ≤ (bc : Int) := by omega
  have c5 : (8 : Int) < (l.length : Int) := by omega
  have Hbn := Lib.hid (show l.length ≤ bc ∧ bc ≤ 9223372036854775807 ∧ 9 ≤ l.length ∧ N < 4294967296 from ⟨hbn, hbc, by omega, hN⟩)
  have hcv : IntKind.i64.wrap (N : Int) = (N : Int) := by rw [IntKind.wrap_i64]; omega
  have hcv2 : wrap64 (N : Int) = (N : Int) := by rw [← IntWalk.i64_left]; exact hcv
  clear hrd hNN hc8 hr hl h9 hbn hbc hN
  generalize l.getD 8 0 = tg at *
  have hft : Frm.fits tg N = false := by
    unfold Frm.fits
    rw [if_neg (fun e => by rw [e] at ht; simp at ht), if_neg (fun e => by rw [e] at ht; simp at ht), if_neg (fun e => by rw [e] at ht; simp at ht)]
  have Hf := Lib.hid (Hread.out.trans (if_pos hft))
  clear hft Hread
  have d1 : (2 : Int) < (tg.toNat : Int) := by omega
  clear ht
  have htg := tg.toNat_lt
  have hct : IntKind.i64.wrap (tg.toNat : Int) = (tg.toNat : Int) := by rw [IntKind.wrap_i64]; omega
  have hct2 : wrap64 (tg.toNat : Int) = (tg.toNat : Int) := by rw [← IntWalk.i64_left]; exact hct
  generalize tg.toNat = tn at *
  go_enter Tryz.func100, Tryz.ntmps100
  go_wp2_with ((with_reducible apply at_allocE); refine ⟨?_⟩; refine wl_allocE (by assumption) ?_; intro bR wR hE)
  refine (Hnum.out _ hE.drop).mono ?_
  rintro ee w2 ⟨v, rfl, rfl, rfl⟩
  have e8 := Hc8.out _ hE.drop
  go_wp2_with (first | ((with_reducible apply at_buildZ); refine ⟨?_⟩; refine wl_buildZ ?_) | ((with_reducible apply at_storeE); refine ⟨?_⟩; first | (refine wl_storeE (by assumption) (by rfl) (by rfl) (by first | rfl | assumption | exact Hid.out (by assumption)) upD (by first | assumption | exact entA_size _ _ rfl | exact entA_size _ _ (by assumption) | exact entA_size _ _ (Hid.out (by assumption))) ?_; intro wS hS) | (refine wl_storeE (e := Frm.zeroE) (da := none) (dn := 0) (dc := 0) (by assumption) (by rfl) (by rfl) rfl upD (by first | assumption | exact entA_size _ _ rfl | exact entA_size _ _ (by assumption) | exact entA_size _ _ (Hid.out (by assumption))) ?_; intro wS hS)))
  rw [Hf.out]
  refine ⟨rfl, _, res_entE3 rfl (by assumption) (by rfl) pkD rfl, _, rfl, none, 0, rfl, Sat.osl_nil.2 (Sat.sb hS)⟩
set_option maxRecDepth 20000 in
set_option maxHeartbeats 8000000 in
theorem rread_two (l : Bs) (hr : Ro w0 F (rdsl 1 bv (bys l))) (hcap : capOk bv) (hl : l.length ≤ 1099511627776) (h9 : ¬ l.length < 9) (ht : (l.getD 8 0).toNat = 2) (hn : Frm.num ((l.drop 4).take 4) ≠ 9) (h : Sat w0 w F) :
    Calls Tryz.prog 100 #[bv] w (Rtn fun v w' => ∃ da dc, v = .tuple #[.agg (entA (Frm.read l).1 (.slice da (Frm.read l).1.data.length dc)), .int .i64 (Frm.read l).2.1, errno (Frm.read l).2.2] ∧ Sat w0 w' (bsl (.slice da (Frm.read l).1.data.length dc) (Frm.read l).1.data :: F)) := by
  obtain ⟨ba, bn, bc, rfl, hbn, hbc⟩ := hcap
  have hln : bn = l.length := by
    obtain ⟨_, _, _, he, hl', _⟩ := hr w h
    cases he
    rw [bys_len, Nat.mul_one] at hl'; exact hl'.symm
  subst hln
  obtain ⟨bk, off, rfl, hcell⟩ : ∃ bk off, ba = some ⟨bk, off, none⟩ ∧ True := by
    have hx : (bys l)[0]? = some (.int .u8 (l[0]'(by omega)).toNat) := by
      unfold bys; rw [List.getElem?_map, List.getElem?_eq_getElem (by omega)]; rfl
    obtain ⟨bk, off, hb, _⟩ := rdsl_cells (hr w h) hx
    exact ⟨bk, off, hb, trivial⟩
  clear hcell
  have hrd := hr w h
  have Hsub := Lib.hid (show ∀ (i j : Nat), i ≤ j → j ≤ l.length → ∀ w, Sat w0 w F → rdsl 1 (.slice (some ⟨bk, off + i, none⟩) (j - i) (bc - i)) (bys ((l.take j).drop i)) w from fun i j h1 h2 w hw => rdsl_sub (hr w hw) i j (bc - i) h1 h2)
  have Hnum := Lib.hid (show ∀ w, Sat w0 w F → Calls Tryz.prog 145 #[.slice (some ⟨bk, off + 4, none⟩) 4 (bc - 4)] w (Rtn fun v w' => v = .tuple #[.int .u64 (Frm.num ((l.drop 4).take 4) : Nat), .bool true] ∧ w = w') from fun w hw => rget_c ((l.drop 4).take 4) (by rw [List.length_take, List.length_drop]; omega) (by rw [List.length_take]; omega) (by
    have := Hsub.out 4 8 (by omega) (by omega) w hw
    rw [List.drop_take] at this
    exact this))
  have Hnum0 := Lib.hid (show ∀ w, Sat w0 w F → Calls Tryz.prog 145 #[.slice (some ⟨bk, off, none⟩) 4 bc] w (Rtn fun v w' => v = .tuple #[.int .u64 (Frm.num (l.take 4) : Nat), .bool true] ∧ w = w') from fun w hw => rget_c (l.take 4) (by rw [List.length_take]; omega) (by rw [List.length_take]; omega) (bsl_of_rd (hr w hw) (by omega)))
  have Hread := Lib.hid (show Frm.read l = if Frm.fits (l.getD 8 0) (Frm.num ((l.drop 4).take 4)) = false then (Frm.zeroE, 0, 4)
    else if l.length < Frm.num ((l.drop 4).take 4) then (Frm.zeroE, 0, 3)
    else if Frm.crc ((l.take (Frm.num ((l.drop 4).take 4))).drop 4) ≠ Frm.num (l.take 4) then (Frm.zeroE, 0, 13)
    else if 41 ≤ Frm.num ((l.drop 4).take 4) then (⟨(l.getD 8 0).toNat, (l.drop 9).take 32, (l.take (Frm.num ((l.drop 4).take 4))).drop 41⟩, Frm.num ((l.drop 4).take 4), 0)
    else (⟨(l.getD 8 0).toNat, Frm.zero32, []⟩, Frm.num ((l.drop 4).take 4), 0) by unfold Frm.read; rw [if_neg h9])
  have hN : Frm.num ((l.drop 4).take 4) < 4294967296 := by
    have := Frm.num_lt ((l.drop 4).take 4)
    rw [List.length_take, List.length_drop] at this
    have h4 : min 4 (l.length - 4) = 4 := by omega
    rw [h4] at this
    omega
  generalize hNN : Frm.num ((l.drop 4).take 4) = N at *
  have hc8 : ∀ w, Sat w0 w F → w.cell? ⟨bk, off + 8, none⟩ = some (.int .u8 (l.getD 8 0).toNat) := fun w hw => by
    have hx : (bys l)[8]? = some (.int .u8 (l.getD 8 0).toNat) := by
      unfold bys; rw [List.getElem?_map, List.getD_eq_getElem?_getD, List.getElem?_eq_getElem (by omega)]; rfl
    obtain ⟨bk', off', hb, hc⟩ := rdsl_cells (hr w hw) hx
    cases hb
    exact hc _ _ hx
  have Hc8 := Lib.hid hc8; have Hr := Lib.hid hr; have Hl := Lib.hid hl
  have c1 : ¬ (l.length : Int) < 9 := by omega
  have c2 : ¬ bc = 4 := by omega
  have c4 : (l.length : Int) ≤ (bc : Int) := by omega
  have c4b : (8 : Int) ≤ (bc : Int) := by omega
  have c5 : (8 : Int) < (l.length : Int) := by omega
  have Hbn := Lib.hid (show l.length ≤ bc ∧ bc ≤ 9223372036854775807 ∧ 9 ≤ l.length ∧ N < 4294967296 from ⟨hbn, hbc, by omega, hN⟩)
  have hcv : IntKind.i64.wrap (N : Int) = (N : Int) := by rw [IntKind.wrap_i64]; omega
  have hcv2 : wrap64 (N : Int) = (N : Int) := by rw [← IntWalk.i64_left]; exact hcv
  clear hrd hNN hc8 hr hl h9 hbn hbc hN
  generalize l.getD 8 0 = tg at *
  have hft : Frm.fits tg N = false := by
    have htu : tg = 2 := by apply UInt8.toNat_inj.1; rw [ht]; rfl
    subst htu
    unfold Frm.fits
    rw [if_neg (by decide), if_neg (by decide), if_pos rfl]; simp [hn]
  have Hf := Lib.hid (Hread.out.trans (if_pos hft))
  clear hft Hread
  have d1 : ((N : Int) == 9) = false := by rw [beq_eq_false_iff_ne]; omega
  have d2 : (N == 9) = false := by rw [beq_eq_false_iff_ne]; exact hn
  have d3 : ¬ N = 9 := hn
  clear hn
  have htg := tg.toNat_lt
  have hct : IntKind.i64.wrap (tg.toNat : Int) = (tg.toNat : Int) := by rw [IntKind.wrap_i64]; omega
  have hct2 : wrap64 (tg.toNat : Int) = (tg.toNat : Int) := by rw [← IntWalk.i64_left]; exact hct
  have htn := ht
  clear ht
  generalize tg.toNat = tn at *
  subst htn
  go_enter Tryz.func100, Tryz.ntmps100
  go_wp2_with ((with_reducible apply at_allocE); refine ⟨?_⟩; refine wl_allocE (by assumption) ?_; intro bR wR hE)
  refine (Hnum.out _ hE.drop).mono ?_
  rintro ee w2 ⟨v, rfl, rfl, rfl⟩
  have e8 := Hc8.out _ hE.drop
  go_wp2_with (first | ((with_reducible apply at_buildZ); refine ⟨?_⟩; refine wl_buildZ ?_) | ((with_reducible apply at_storeE); refine ⟨?_⟩; first | (refine wl_storeE (by assumption) (by rfl) (by rfl) (by first | rfl | assumption | exact Hid.out (by assumption)) upD (by first | assumption | exact entA_size _ _ rfl | exact entA_size _ _ (by assumption) | exact entA_size _ _ (Hid.out (by assumption))) ?_; intro wS hS) | (refine wl_storeE (e := Frm.zeroE) (da := none) (dn := 0) (dc := 0) (by assumption) (by rfl) (by rfl) rfl upD (by first | assumption | exact entA_size _ _ rfl | exact entA_size _ _ (by assumption) | exact entA_size _ _ (Hid.out (by assumption))) ?_; intro wS hS)))
  rw [Hf.out]
  refine ⟨rfl, _, res_entE3 rfl (by assumption) (by rfl) pkD rfl, _, rfl, none, 0, rfl, Sat.osl_nil.2 (Sat.sb hS)⟩
set_option maxRecDepth 20000 in
set_option maxHeartbeats 8000000 in
theorem rread_one (l : Bs) (hr : Ro w0 F (rdsl 1 bv (bys l))) (hcap : capOk bv) (hl : l.length ≤ 1099511627776) (h9 : ¬ l.length < 9) (ht : (l.getD 8 0).toNat = 1) (hn : Frm.num ((l.drop 4).take 4) ≠ 41) (h : Sat w0 w F) :
    Calls Tryz.prog 100 #[bv] w (Rtn fun v w' => ∃ da dc, v = .tuple #[.agg (entA (Frm.read l).1 (.slice da (Frm.read l).1.data.length dc)), .int .i64 (Frm.read l).2.1, errno (Frm.read l).2.2] ∧ Sat w0 w' (bsl (.slice da (Frm.read l).1.data.length dc) (Frm.read l).1.data :: F)) := by
  obtain ⟨ba, bn, bc, rfl, hbn, hbc⟩ := hcap
  have hln : bn = l.length := by
    obtain ⟨_, _, _, he, hl', _⟩ := hr w h
    cases he
    rw [bys_len, Nat.mul_one] at hl'; exact hl'.symm
  subst hln
  obtain ⟨bk, off, rfl, hcell⟩ : ∃ bk off, ba = some ⟨bk, off, none⟩ ∧ True := by
    have hx : (bys l)[0]? = some (.int .u8 (l[0]'(by omega)).toNat) := by
      unfold bys; rw [List.getElem?_map, List.getElem?_eq_getElem (by omega)]; rfl
    obtain ⟨bk, off, hb, _⟩ := rdsl_cells (hr w h) hx
    exact ⟨bk, off, hb, trivial⟩
  clear hcell
  have hrd := hr w h
  have Hsub := Lib.hid (show ∀ (i j : Nat), i ≤ j → j ≤ l.length → ∀ w, Sat w0 w F → rdsl 1 (.slice (some ⟨bk, off + i, none⟩) (j - i) (bc - i)) (bys ((l.take j).drop i)) w from fun i j h1 h2 w hw => rdsl_sub (hr w hw) i j (bc - i) h1 h2)
  have Hnum := Lib.hid (show ∀ w, Sat w0 w F → Calls Tryz.prog 145 #[.slice (some ⟨bk, off + 4, none⟩) 4 (bc - 4)] w (Rtn fun v w' => v = .tuple #[.int .u64 (Frm.num ((l.drop 4).take 4) : Nat), .bool true] ∧ w = w') from fun w hw => rget_c ((l.drop 4).take 4) (by rw [List.length_take, List.length_drop]; omega) (by rw [List.length_take]; omega) (by
    have := Hsub.out 4 8 (by omega) (by omega) w hw
    rw [List.drop_take] at this
    exact this))
  have Hnum0 := Lib.hid (show ∀ w, Sat w0 w F → Calls Tryz.prog 145 #[.slice (some ⟨bk, off, none⟩) 4 bc] w (Rtn fun v w' => v = .tuple #[.int .u64 (Frm.num (l.take 4) : Nat), .bool true] ∧ w = w') from fun w hw => rget_c (l.take 4) (by rw [List.length_take]; omega) (by rw [List.length_take]; omega) (bsl_of_rd (hr w hw) (by omega)))
  have Hread := Lib.hid (show Frm.read l = if Frm.fits (l.getD 8 0) (Frm.num ((l.drop 4).take 4)) = false then (Frm.zeroE, 0, 4)
    else if l.length < Frm.num ((l.drop 4).take 4) then (Frm.zeroE, 0, 3)
    else if Frm.crc ((l.take (Frm.num ((l.drop 4).take 4))).drop 4) ≠ Frm.num (l.take 4) then (Frm.zeroE, 0, 13)
    else if 41 ≤ Frm.num ((l.drop 4).take 4) then (⟨(l.getD 8 0).toNat, (l.drop 9).take 32, (l.take (Frm.num ((l.drop 4).take 4))).drop 41⟩, Frm.num ((l.drop 4).take 4), 0)
    else (⟨(l.getD 8 0).toNat, Frm.zero32, []⟩, Frm.num ((l.drop 4).take 4), 0) by unfold Frm.read; rw [if_neg h9])
  have hN : Frm.num ((l.drop 4).take 4) < 4294967296 := by
    have := Frm.num_lt ((l.drop 4).take 4)
    rw [List.length_take, List.length_drop] at this
    have h4 : min 4 (l.length - 4) = 4 := by omega
    rw [h4] at this
    omega
  generalize hNN : Frm.num ((l.drop 4).take 4) = N at *
  have hc8 : ∀ w, Sat w0 w F → w.cell? ⟨bk, off + 8, none⟩ = some (.int .u8 (l.getD 8 0).toNat) := fun w hw => by
    have hx : (bys l)[8]? = some (.int .u8 (l.getD 8 0).toNat) := by
      unfold bys; rw [List.getElem?_map, List.getD_eq_getElem?_getD, List.getElem?_eq_getElem (by omega)]; rfl
    obtain ⟨bk', off', hb, hc⟩ := rdsl_cells (hr w hw) hx
    cases hb
    exact hc _ _ hx
  have Hc8 := Lib.hid hc8; have Hr := Lib.hid hr; have Hl := Lib.hid hl
  have c1 : ¬ (l.length : Int) < 9 := by omega
  have c2 : ¬ bc = 4 := by omega
  have c4 : (l.length : Int) ≤ (bc : Int) := by omega
  have c4b : (8 : Int) ≤ (bc : Int) := by omega
  have c5 : (8 : Int) < (l.length : Int) := by omega
  have Hbn := Lib.hid (show l.length ≤ bc ∧ bc ≤ 9223372036854775807 ∧ 9 ≤ l.length ∧ N < 4294967296 from ⟨hbn, hbc, by omega, hN⟩)
  have hcv : IntKind.i64.wrap (N : Int) = (N : Int) := by rw [IntKind.wrap_i64]; omega
  have hcv2 : wrap64 (N : Int) = (N : Int) := by rw [← IntWalk.i64_left]; exact hcv
  clear hrd hNN hc8 hr hl h9 hbn hbc hN
  generalize l.getD 8 0 = tg at *
  have hft : Frm.fits tg N = false := by
    have htu : tg = 1 := by apply UInt8.toNat_inj.1; rw [ht]; rfl
    subst htu
    unfold Frm.fits
    rw [if_neg (by decide), if_pos rfl]; simp [hn]
  have Hf := Lib.hid (Hread.out.trans (if_pos hft))
  clear hft Hread
  have d1 : ((N : Int) == 41) = false := by rw [beq_eq_false_iff_ne]; omega
  have d2 : (N == 41) = false := by rw [beq_eq_false_iff_ne]; exact hn
  have d3 : ¬ N = 41 := hn
  clear hn
  have htg := tg.toNat_lt
  have hct : IntKind.i64.wrap (tg.toNat : Int) = (tg.toNat : Int) := by rw [IntKind.wrap_i64]; omega
  have hct2 : wrap64 (tg.toNat : Int) = (tg.toNat : Int) := by rw [← IntWalk.i64_left]; exact hct
  have htn := ht
  clear ht
  generalize tg.toNat = tn at *
  subst htn
  go_enter Tryz.func100, Tryz.ntmps100
  go_wp2_with ((with_reducible apply at_allocE); refine ⟨?_⟩; refine wl_allocE (by assumption) ?_; intro bR wR hE)
  refine (Hnum.out _ hE.drop).mono ?_
  rintro ee w2 ⟨v, rfl, rfl, rfl⟩
  have e8 := Hc8.out _ hE.drop
  go_wp2_with (first | ((with_reducible apply at_buildZ); refine ⟨?_⟩; refine wl_buildZ ?_) | ((with_reducible apply at_storeE); refine ⟨?_⟩; first | (refine wl_storeE (by assumption) (by rfl) (by rfl) (by first | rfl | assumption | exact Hid.out (by assumption)) upD (by first | assumption | exact entA_size _ _ rfl | exact entA_size _ _ (by assumption) | exact entA_size _ _ (Hid.out (by assumption))) ?_; intro wS hS) | (refine wl_storeE (e := Frm.zeroE) (da := none) (dn := 0) (dc := 0) (by assumption) (by rfl) (by rfl) rfl upD (by first | assumption | exact entA_size _ _ rfl | exact entA_size _ _ (by assumption) | exact entA_size _ _ (Hid.out (by assumption))) ?_; intro wS hS)))
  rw [Hf.out]
  refine ⟨rfl, _, res_entE3 rfl (by assumption) (by rfl) pkD rfl, _, rfl, none, 0, rfl, Sat.osl_nil.2 (Sat.sb hS)⟩
set_option maxRecDepth 20000 in
set_option maxHeartbeats 8000000 in
theorem rread_few (l : Bs) (hr : Ro w0 F (rdsl 1 bv (bys l))) (hcap : capOk bv) (hl : l.length ≤ 1099511627776) (h9 : ¬ l.length < 9) (ht : (l.getD 8 0).toNat = 0) (hn : Frm.num ((l.drop 4).take 4) < 41) (h : Sat w0 w F) :
    Calls Tryz.prog 100 #[bv] w (Rtn fun v w' => ∃ da dc, v = .tuple #[.agg (entA (Frm.read l).1 (.slice da (Frm.read l).1.data.length dc)), .int .i64 (Frm.read l).2.1, errno (Frm.read l).2.2] ∧ Sat w0 w' (bsl (.slice da (Frm.read l).1.data.length dc) (Frm.read l).1.data :: F)) := by
  obtain ⟨ba, bn, bc, rfl, hbn, hbc⟩ := hcap
  have hln : bn = l.length := by
    obtain ⟨_, _, _, he, hl', _⟩ := hr w h
    cases he
    rw [bys_len, Nat.mul_one] at hl'; exact hl'.symm
  subst hln
  obtain ⟨bk, off, rfl, hcell⟩ : ∃ bk off, ba = some ⟨bk, off, none⟩ ∧ True := by
    have hx : (bys l)[0]? = some (.int .u8 (l[0]'(by omega)).toNat) := by
      unfold bys; rw [List.getElem?_map, List.getElem?_eq_getElem (by omega)]; rfl
    obtain ⟨bk, off, hb, _⟩ := rdsl_cells (hr w h) hx
    exact ⟨bk, off, hb, trivial⟩
  clear hcell
  have hrd := hr w h
  have Hsub := Lib.hid (show ∀ (i j : Nat), i ≤ j → j ≤ l.length → ∀ w, Sat w0 w F → rdsl 1 (.slice (some ⟨bk, off + i, none⟩) (j - i) (bc - i)) (bys ((l.take j).drop i)) w from fun i j h1 h2 w hw => rdsl_sub (hr w hw) i j (bc - i) h1 h2)
  have Hnum := Lib.hid (show ∀ w, Sat w0 w F → Calls Tryz.prog 145 #[.slice (some ⟨bk, off + 4, none⟩) 4 (bc - 4)] w (Rtn fun v w' => v = .tuple #[.int .u64 (Frm.num ((l.drop 4).take 4) : Nat), .bool true] ∧ w = w') from fun w hw => rget_c ((l.drop 4).take 4) (by rw [List.length_take, List.length_drop]; omega) (by rw [List.length_take]; omega) (by
    have := Hsub.out 4 8 (by omega) (by omega) w hw
    rw [List.drop_take] at this
    exact this))
  have Hnum0 := Lib.hid (show ∀ w, Sat w0 w F → Calls Tryz.prog 145 #[.slice (some ⟨bk, off, none⟩) 4 bc] w (Rtn fun v w' => v = .tuple #[.int .u64 (Frm.num (l.take 4) : Nat), .bool true] ∧ w = w') from fun w hw => rget_c (l.take 4) (by rw [List.length_take]; omega) (by rw [List.length_take]; omega) (bsl_of_rd (hr w hw) (by omega)))
  have Hread := Lib.hid (show Frm.read l = if Frm.fits (l.getD 8 0) (Frm.num ((l.drop 4).take 4)) = false then (Frm.zeroE, 0, 4)
    else if l.length < Frm.num ((l.drop 4).take 4) then (Frm.zeroE, 0, 3)
    else if Frm.crc ((l.take (Frm.num ((l.drop 4).take 4))).drop 4) ≠ Frm.num (l.take 4) then (Frm.zeroE, 0, 13)
    else if 41 ≤ Frm.num ((l.drop 4).take 4) then (⟨(l.getD 8 0).toNat, (l.drop 9).take 32, (l.take (Frm.num ((l.drop 4).take 4))).drop 41⟩, Frm.num ((l.drop 4).take 4), 0)
    else (⟨(l.getD 8 0).toNat, Frm.zero32, []⟩, Frm.num ((l.drop 4).take 4), 0) by unfold Frm.read; rw [if_neg h9])
  have hN : Frm.num ((l.drop 4).take 4) < 4294967296 := by
    have := Frm.num_lt ((l.drop 4).take 4)
    rw [List.length_take, List.length_drop] at this
    have h4 : min 4 (l.length - 4) = 4 := by omega
    rw [h4] at this
    omega
  generalize hNN : Frm.num ((l.drop 4).take 4) = N at *
  have hc8 : ∀ w, Sat w0 w F → w.cell? ⟨bk, off + 8, none⟩ = some (.int .u8 (l.getD 8 0).toNat) := fun w hw => by
    have hx : (bys l)[8]? = some (.int .u8 (l.getD 8 0).toNat) := by
      unfold bys; rw [List.getElem?_map, List.getD_eq_getElem?_getD, List.getElem?_eq_getElem (by omega)]; rfl
    obtain ⟨bk', off', hb, hc⟩ := rdsl_cells (hr w hw) hx
    cases hb
    exact hc _ _ hx
  have Hc8 := Lib.hid hc8; have Hr := Lib.hid hr; have Hl := Lib.hid hl
  have c1 : ¬ (l.length : Int) < 9 := by omega
  have c2 : ¬ bc = 4 := by omega
  have c4 : (l.length : Int) ≤ (bc : Int) := by omega
  have c4b : (8 : Int) ≤ (bc : Int) := by omega
  have c5 : (8 : Int) < (l.length : Int) := by omega
  have Hbn := Lib.hid (show l.length ≤ bc ∧ bc ≤ 9223372036854775807 ∧ 9 ≤ l.length ∧ N < 4294967296 from ⟨hbn, hbc, by omega, hN⟩)
  have hcv : IntKind.i64.wrap (N : Int) = (N : Int) := by rw [IntKind.wrap_i64]; omega
  have hcv2 : wrap64 (N : Int) = (N : Int) := by rw [← IntWalk.i64_left]; exact hcv
  clear hrd hNN hc8 hr hl h9 hbn hbc hN
  generalize l.getD 8 0 = tg at *
  have hft : Frm.fits tg N = false := by
    have htu : tg = 0 := by apply UInt8.toNat_inj.1; rw [ht]; rfl
    subst htu
    unfold Frm.fits
    rw [if_pos rfl, decide_eq_false_iff_not]; omega
  have Hf := Lib.hid (Hread.out.trans (if_pos hft))
  clear hft Hread
  have d1 : decide ((N : Int) < 41) = true := decide_eq_true (by omega)
  have d2 : (N : Int) < 41 := by omega
  have htg := tg.toNat_lt
  have hct : IntKind.i64.wrap (tg.toNat : Int) = (tg.toNat : Int) := by rw [IntKind.wrap_i64]; omega
  have hct2 : wrap64 (tg.toNat : Int) = (tg.toNat : Int) := by rw [← IntWalk.i64_left]; exact hct
  have htn := ht
  clear ht
  generalize tg.toNat = tn at *
  subst htn
  go_enter Tryz.func100, Tryz.ntmps100
  go_wp2_with ((with_reducible apply at_allocE); refine ⟨?_⟩; refine wl_allocE (by assumption) ?_; intro bR wR hE)
  refine (Hnum.out _ hE.drop).mono ?_
  rintro ee w2 ⟨v, rfl, rfl, rfl⟩
  have e8 := Hc8.out _ hE.drop
  go_wp2_with (first | ((with_reducible apply at_buildZ); refine ⟨?_⟩; refine wl_buildZ ?_) | ((with_reducible apply at_storeE); refine ⟨?_⟩; first | (refine wl_storeE (by assumption) (by rfl) (by rfl) (by first | rfl | assumption | exact Hid.out (by assumption)) upD (by first | assumption | exact entA_size _ _ rfl | exact entA_size _ _ (by assumption) | exact entA_size _ _ (Hid.out (by assumption))) ?_; intro wS hS) | (refine wl_storeE (e := Frm.zeroE) (da := none) (dn := 0) (dc := 0) (by assumption) (by rfl) (by rfl) rfl upD (by first | assumption | exact entA_size _ _ rfl | exact entA_size _ _ (by assumption) | exact entA_size _ _ (Hid.out (by assumption))) ?_; intro wS hS)))
  rw [Hf.out]
  refine ⟨rfl, _, res_entE3 rfl (by assumption) (by rfl) pkD rfl, _, rfl, none, 0, rfl, Sat.osl_nil.2 (Sat.sb hS)⟩
set_option maxRecDepth 20000 in
set_option maxHeartbeats 8000000 in
theorem rread_many (l : Bs) (hr : Ro w0 F (rdsl 1 bv (bys l))) (hcap : capOk bv) (hl : l.length ≤ 1099511627776) (h9 : ¬ l.length < 9) (ht : (l.getD 8 0).toNat = 0) (hn : 16425 < Frm.num ((l.drop 4).take 4)) (h : Sat w0 w F) :
    Calls Tryz.prog 100 #[bv] w (Rtn fun v w' => ∃ da dc, v = .tuple #[.agg (entA (Frm.read l).1 (.slice da (Frm.read l).1.data.length dc)), .int .i64 (Frm.read l).2.1, errno (Frm.read l).2.2] ∧ Sat w0 w' (bsl (.slice da (Frm.read l).1.data.length dc) (Frm.read l).1.data :: F)) := by
  obtain ⟨ba, bn, bc, rfl, hbn, hbc⟩ := hcap
  have hln : bn = l.length := by
    obtain ⟨_, _, _, he, hl', _⟩ := hr w h
    cases he
    rw [bys_len, Nat.mul_one] at hl'; exact hl'.symm
  subst hln
  obtain ⟨bk, off, rfl, hcell⟩ : ∃ bk off, ba = some ⟨bk, off, none⟩ ∧ True := by
    have hx : (bys l)[0]? = some (.int .u8 (l[0]'(by omega)).toNat) := by
      unfold bys; rw [List.getElem?_map, List.getElem?_eq_getElem (by omega)]; rfl
    obtain ⟨bk, off, hb, _⟩ := rdsl_cells (hr w h) hx
    exact ⟨bk, off, hb, trivial⟩
  clear hcell
  have hrd := hr w h
  have Hsub := Lib.hid (show ∀ (i j : Nat), i ≤ j → j ≤ l.length → ∀ w, Sat w0 w F → rdsl 1 (.slice (some ⟨bk, off + i, none⟩) (j - i) (bc - i)) (bys ((l.take j).drop i)) w from fun i j h1 h2 w hw => rdsl_sub (hr w hw) i j (bc - i) h1 h2)
  have Hnum := Lib.hid (show ∀ w, Sat w0 w F → Calls Tryz.prog 145 #[.slice (some ⟨bk, off + 4, none⟩) 4 (bc - 4)] w (Rtn fun v w' => v = .tuple #[.int .u64 (Frm.num ((l.drop 4).take 4) : Nat), .bool true] ∧ w = w') from fun w hw => rget_c ((l.drop 4).take 4) (by rw [List.length_take, List.length_drop]; omega) (by rw [List.length_take]; omega) (by
    have := Hsub.out 4 8 (by omega) (by omega) w hw
    rw [List.drop_take] at this
    exact this))
  have Hnum0 := Lib.hid (show ∀ w, Sat w0 w F → Calls Tryz.prog 145 #[.slice (some ⟨bk, off, none⟩) 4 bc] w (Rtn fun v w' => v = .tuple #[.int .u64 (Frm.num (l.take 4) : Nat), .bool true] ∧ w = w') from fun w hw => rget_c (l.take 4) (by rw [List.length_take]; omega) (by rw [List.length_take]; omega) (bsl_of_rd (hr w hw) (by omega)))
  have Hread := Lib.hid (show Frm.read l = if Frm.fits (l.getD 8 0) (Frm.num ((l.drop 4).take 4)) = false then (Frm.zeroE, 0, 4)
    else if l.length < Frm.num ((l.drop 4).take 4) then (Frm.zeroE, 0, 3)
    else if Frm.crc ((l.take (Frm.num ((l.drop 4).take 4))).drop 4) ≠ Frm.num (l.take 4) then (Frm.zeroE, 0, 13)
    else if 41 ≤ Frm.num ((l.drop 4).take 4) then (⟨(l.getD 8 0).toNat, (l.drop 9).take 32, (l.take (Frm.num ((l.drop 4).take 4))).drop 41⟩, Frm.num ((l.drop 4).take 4), 0)
    else (⟨(l.getD 8 0).toNat, Frm.zero32, []⟩, Frm.num ((l.drop 4).take 4), 0) by unfold Frm.read; rw [if_neg h9])
  have hN : Frm.num ((l.drop 4).take 4) < 4294967296 := by
    have := Frm.num_lt ((l.drop 4).take 4)
    rw [List.length_take, List.length_drop] at this
    have h4 : min 4 (l.length - 4) = 4 := by omega
    rw [h4] at this
    omega
  generalize hNN : Frm.num ((l.drop 4).take 4) = N at *
  have hc8 : ∀ w, Sat w0 w F → w.cell? ⟨bk, off + 8, none⟩ = some (.int .u8 (l.getD 8 0).toNat) := fun w hw => by
    have hx : (bys l)[8]? = some (.int .u8 (l.getD 8 0).toNat) := by
      unfold bys; rw [List.getElem?_map, List.getD_eq_getElem?_getD, List.getElem?_eq_getElem (by omega)]; rfl
    obtain ⟨bk', off', hb, hc⟩ := rdsl_cells (hr w hw) hx
    cases hb
    exact hc _ _ hx
  have Hc8 := Lib.hid hc8; have Hr := Lib.hid hr; have Hl := Lib.hid hl
  have c1 : ¬ (l.length : Int) < 9 := by omega
  have c2 : ¬ bc = 4 := by omega
  have c4 : (l.length : Int) ≤ (bc : Int) := by omega
  have c4b : (8 : Int) ≤ (bc : Int) := by omega
  have c5 : (8 : Int) < (l.length : Int) := by omega
  have Hbn := Lib.hid (show l.length ≤ bc ∧ bc ≤ 9223372036854775807 ∧ 9 ≤ l.length ∧ N < 4294967296 from ⟨hbn, hbc, by omega, hN⟩)
  have hcv : IntKind.i64.wrap (N : Int) = (N : Int) := by rw [IntKind.wrap_i64]; omega
  have hcv2 : wrap64 (N : Int) = (N : Int) := by rw [← IntWalk.i64_left]; exact hcv
  clear hrd hNN hc8 hr hl h9 hbn hbc hN
  generalize l.getD 8 0 = tg at *
  have hft : Frm.fits tg N = false := by
    have htu : tg = 0 := by apply UInt8.toNat_inj.1; rw [ht]; rfl
    subst htu
    unfold Frm.fits
    rw [if_pos rfl, decide_eq_false_iff_not]; omega
  have Hf := Lib.hid (Hread.out.trans (if_pos hft))
  clear hft Hread
  have d1 : decide ((N : Int) < 41) = false := decide_eq_false (by omega)
  have d2 : decide (16425 < (N : Int)) = true := decide_eq_true (by omega)
  have d3 : 16425 < (N : Int) := by omega
  have htg := tg.toNat_lt
  have hct : IntKind.i64.wrap (tg.toNat : Int) = (tg.toNat : Int) := by rw [IntKind.wrap_i64]; omega
  have hct2 : wrap64 (tg.toNat : Int) = (tg.toNat : Int) := by rw [← IntWalk.i64_left]; exact hct
  have htn := ht
  clear ht
  generalize tg.toNat = tn at *
  subst htn
  go_enter Tryz.func100, Tryz.ntmps100
  go_wp2_with ((with_reducible apply at_allocE); refine ⟨?_⟩; refine wl_allocE (by assumption) ?_; intro bR wR hE)
  refine (Hnum.out _ hE.drop).mono ?_
  rintro ee w2 ⟨v, rfl, rfl, rfl⟩
  have e8 := Hc8.out _ hE.drop
  go_wp2_with (first | ((with_reducible apply at_buildZ); refine ⟨?_⟩; refine wl_buildZ ?_) | ((with_reducible apply at_storeE); refine ⟨?_⟩; first | (refine wl_storeE (by assumption) (by rfl) (by rfl) (by first | rfl | assumption | exact Hid.out (by assumption)) upD (by first | assumption | exact entA_size _ _ rfl | exact entA_size _ _ (by assumption) | exact entA_size _ _ (Hid.out (by assumption))) ?_; intro wS hS) | (refine wl_storeE (e := Frm.zeroE) (da := none) (dn := 0) (dc := 0) (by assumption) (by rfl) (by rfl) rfl upD (by first | assumption | exact entA_size _ _ rfl | exact entA_size _ _ (by assumption) | exact entA_size _ _ (Hid.out (by assumption))) ?_; intro wS hS)))
  rw [Hf.out]
  refine ⟨rfl, _, res_entE3 rfl (by assumption) (by rfl) pkD rfl, _, rfl, none, 0, rfl, Sat.osl_nil.2 (Sat.sb hS)⟩
end
end Go.Proofs.YtmjldaedhmipkaaGreatDoor
