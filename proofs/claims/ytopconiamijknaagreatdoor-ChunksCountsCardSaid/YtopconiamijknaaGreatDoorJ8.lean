import Derived.Test.YtopconiamijknaaGreatDoorJ7
import Derived.Laws.BitsAllLaws
set_option linter.unusedVariables false
set_option maxHeartbeats 128000000
namespace Go.Proofs.YtopconiamijknaaGreatDoor
open Go Go.Sl Go.Med Go.MapKept Go.RowKit
section
variable {w0 w : World} {F R : List HProp} {p B N : Nat} {sv v : Value} {k : Frm.Bs} {m : Frm.Bs → Option (Rep.Rfc)} {t : Tab.Tb (Rep.Rfc)}
set_option maxRecDepth 20000 in
theorem renewR_c (ok : t.Ok) (hN : t.n ≤ N) (hNb : N ≤ 134217728) (hlen31 : t.slots.length ≤ 1073741824) (h : Sat w0 w (tbPt p 116 sv t.n t.gone :: osl 108 35 sv (t.slots.flatMap (slotL renc)) :: F)) :
    Calls Tryz.prog 55 #[ptr p, .int .i64 N] w (Rtn fun _ w' => ∃ s' sv', Tab.Renewed t s' N ∧ Sat w0 w' (tbPt p 116 sv' t.n 0 :: osl 108 35 sv' (s'.flatMap (slotL renc)) :: F)) := by
  have Hok := Lib.hid ok; have HN := Lib.hid hN; have HNb := Lib.hid hNb
  have Hlen := Lib.hid (show ∀ x ∈ t.slots, (slotL renc x).length = 35 from fun x hx => slotL_len renc x (ok.good.key x hx) 2 (renc_len _))
  obtain ⟨la, lc, rfl⟩ := osl_rows Hlen.out (Sat.rd (h.pick pick1)) dCz
  have hw0 : IntKind.i64.wrap (2 * (N : Int)) = 2 * (N : Int) := IntWalk.i64_in _ (by omega)
  have hw0b : wrap64 (2 * (N : Int)) = 2 * (N : Int) := IntWalk.wrap64_in _ (by omega)
  clear ok hN
  go_enter Tryz.func55, Tryz.ntmps55
  go_wp2_with fail
  go_loopg [4] (4 * N) (fun g cq wr => ∃ c : Nat, g = 4 * N + 8 - c ∧ cq = .int .i64 c ∧ (∃ j, c = 2 ^ j ∧ 3 ≤ j) ∧ 8 ≤ c ∧ (c = 8 ∨ c < 4 * N) ∧ wr = w)
  case atStart => exact ⟨8, by omega, rfl, ⟨3, rfl, Nat.le_refl 3⟩, Nat.le_refl 8, .inl rfl, rfl⟩
  case round =>
    obtain ⟨c, rfl, rfl, ⟨j, hj, hj3⟩, hc8, hc, rfl⟩ := hrel
    by_cases hlt : c < 2 * N
    · have c1 : (c : Int) < 2 * (N : Int) := by omega
      have hw1 : IntKind.i64.wrap ((c : Int) * 2) = (c : Int) * 2 := IntWalk.i64_in _ (by omega)
      have hw1b : wrap64 ((c : Int) * 2) = (c : Int) * 2 := IntWalk.wrap64_in _ (by omega)
      have Hj := Lib.hid hj; have Hj3 := Lib.hid hj3; have Hlt := Lib.hid hlt; have Hc8 := Lib.hid hc8
      clear hj hj3 hlt hc hc8
      go_wp2_with fail
      go_roundg (4 * N + 8 - c * 2)
      case measure => have := Hlt.out; have := Hc8.out; omega
      case rel => exact ⟨c * 2, rfl, by first | rfl | go_num, ⟨j + 1, by rw [Nat.pow_succ, Hj.out], by have := Hj3.out; omega⟩, by have := Hc8.out; omega, .inr (by have := Hlt.out; omega), rfl⟩
    · have c1 : ¬ (c : Int) < 2 * (N : Int) := by omega
      have HC := Lib.hid (show (∃ j, c = 2 ^ j ∧ 3 ≤ j) ∧ 2 * N ≤ c ∧ 8 ≤ c ∧ (c = 8 ∨ c < 4 * N) from ⟨⟨j, hj, hj3⟩, by omega, hc8, hc⟩)
      have hcb : c ≤ 1073741824 := by omega
      have Hcb := Lib.hid hcb
      clear hj hj3 hlt hc hc8 hw0 hcb hNb
      go_wp2_with (first
        | ((with_reducible apply at_load); refine ⟨?_⟩; refine wl_load1 h rFz pkD nLz evD kRz ?_)
        | ((with_reducible apply at_make); refine ⟨?_⟩; refine wl_makeN (e := 108) (sz := 35) (by' := 56) (n := c) kRz zSlotR h rFz rFz (by have := Hcb.out; omega) (by have := Hcb.out; omega) ?_; intro bM wM hM)
        | ((with_reducible apply at_store); refine ⟨?_⟩; refine wl_store (by assumption) rFz evD (by first | (simp only [putsAt, Value.cells]; (try go_frame); first | done | rfl) | rfl) upD nLz kRz rFz ?_; intro wS hS))
      have e8 : (List.replicate c (slotL renc ⟨0, Frm.zero32, zwR⟩)).flatten = (List.replicate c (⟨0, Frm.zero32, zwR⟩ : Tab.Slot (Rep.Rfc))).flatMap (slotL renc) := (rows_rep c _).symm
      rw [e8] at hS
      have hS0 : Sat w0 _ (tbPt p 116 (.slice (some ⟨bM, 0, none⟩) c c) t.n 0 :: osl 108 35 (.slice (some ⟨bM, 0, none⟩) c c) ((List.replicate c (⟨0, Frm.zero32, zwR⟩ : Tab.Slot (Rep.Rfc))).flatMap (slotL renc)) :: osl 108 35 (.slice la t.slots.length lc) (t.slots.flatMap (slotL renc)) :: F) := hS.sb
      clear hS hM h e8 c1
      go_wp2_with fail
      go_loopg [31] t.slots.length (fun g iq wr => ∃ (i : Nat) (cur : List (Tab.Slot (Rep.Rfc))), g = t.slots.length - i ∧ i ≤ t.slots.length ∧ iq = .int .i64 i ∧ Tab.Half t.slots cur i ∧ cur.length = c ∧
        Sat w0 wr (tbPt p 116 (.slice (some ⟨bM, 0, none⟩) c c) t.n 0 :: osl 108 35 (.slice (some ⟨bM, 0, none⟩) c c) (cur.flatMap (slotL renc)) :: osl 108 35 (.slice la t.slots.length lc) (t.slots.flatMap (slotL renc)) :: F))
      case atStart => exact ⟨0, _, rfl, Nat.zero_le _, rfl, Tab.half_start HC.out.1 dCz rfl, List.length_replicate, hS0⟩
      case round =>
        obtain ⟨i, cur, rfl, hi, rfl, hH, hcl, hS⟩ := hrel
        clear hS0
        have HH := Lib.hid hH; have Hcl := Lib.hid hcl
        by_cases hlt : i < t.slots.length
        rotate_left
        · obtain rfl : i = t.slots.length := by omega
          have c1 : ¬ (t.slots.length : Int) < (t.slots.length : Int) := by omega
          clear hlt hH hi
          go_wp2_with fail
          go_end0
          obtain ⟨q1, q2, q3, q4⟩ := HH.out.done
          exact ⟨_, rfl, cur, ⟨q1, q2, q3.trans Hok.out.n.symm, q4.trans Hok.out.n.symm, by rw [Hcl.out]; exact HC.out.2.1, by rw [Hcl.out]; exact HC.out.2.2.1, by rw [Hcl.out]; exact HC.out.2.2.2⟩, _, hS.sb⟩
        have c1 : (i : Int) < (t.slots.length : Int) := by omega
        have hwi : IntKind.i64.wrap ((i : Int) + 1) = (i : Int) + 1 := IntWalk.i64_in _ (by omega)
        obtain ⟨x, hx⟩ : ∃ x, t.slots[i]? = some x := ⟨_, List.getElem?_eq_getElem hlt⟩
        have hxm := List.mem_of_getElem? hx
        have hst := Hok.out.good.st x hxm
        have Hxk := Lib.hid (Hok.out.good.key x hxm)
        obtain ⟨bk, off, c', hsv, hcell⟩ := osl_row Hlen.out (Sat.rd (hS.pick pick2)) hx dCz
        cases hsv
        have hl38 := Hlen.out x hxm
        have Hx := Lib.hid hx; have Hlt := Lib.hid hlt
        clear hx hxm hlt hH hi
        go_wp2_with (first
          | ((with_reducible apply at_load); refine ⟨?_⟩; refine wl_loadW (b := bk) (o := off + i * 35) (slotL renc x) rFz hcell Tryz.underlying108 rfl (by rw [hl38]; kernel_rfl) ?_)
          | (with_reducible apply at_alloc))
        refine ⟨?_⟩
        refine wl_alloc zSlotR hS rfl ?_
        intro b7 w7 hS7
        go_wp2_with (first | ((with_reducible apply at_store); refine ⟨?_⟩; refine wl_storeA (slotL renc x).toArray hS7 rFz rFz (by rw [List.size_toArray, hl38]; rfl) upd0 (by rw [List.size_toArray, hl38]; kernel_rfl) (by rw [List.toList_toArray]; exact slotL_ones renc x (renc_ones _)) ?_; intro w10 hS10) | (with_reducible apply at_load))
        refine ⟨?_⟩
        clear hS hS7 hcell
        have f0 : w10.cell? ⟨b7, 0, none⟩ = some (.int .i64 x.st) := hS10.cellP pick0 0 (by rw [List.getElem?_toArray]; rfl)
        have f1 : w10.rangeAt b7 1 (bys x.key) := slot_key (hS10.pick pick0)
        by_cases h1 : x.st = 1
        rotate_left
        · have hst1 : ((x.st : Int) == 1) = false := by rw [beq_eq_false_iff_ne]; omega
          have H1 := Lib.hid h1
          clear h1 f1
          go_wp2_with fail
          go_roundg (t.slots.length - (i + 1))
          case measure => have := Hlt.out; omega
          case rel => exact ⟨i + 1, cur, rfl, Hlt.out, by first | rfl | go_num, HH.out.skip Hx.out H1.out, Hcl.out, hS10.sb⟩
        · have hus : Tab.used cur < cur.length := by
            have h2 := HH.out.nu
            have h3 := Tab.fulls_take_le t.slots i
            have h4 := Hok.out.n
            have h5 := HN.out
            have h6 := HC.out
            rw [Hcl.out]; omega
          obtain ⟨dd, hdd⟩ := Tab.ends_of (k := x.key) HH.out.good (Tab.free_of hus)
          have H1 := Lib.hid h1; have Hdd := Lib.hid hdd
          have hst1 : ((x.st : Int) == 1) = true := by rw [h1]; rfl
          have Hcl38 := Lib.hid (show ∀ y ∈ cur, (slotL renc y).length = 35 from fun y hy => slotL_len renc y (HH.out.good.key y hy) 2 (renc_len _))
          clear h1 hus hdd
          go_wp2_with ((with_reducible apply at_load); refine ⟨?_⟩; refine wl_loadW (b := b7) (o := 1) (bys x.key) rFz f1 Tryz.underlying24 rfl (by rw [bys_len, Hxk.out]; kernel_rfl) ?_)
          have hf := findR_c HH.out.good (by rw [Hcl.out]; exact Hcb.out) Hxk.out Hdd.out (hS10.sb : Sat w0 w10 (tbPt p 116 (.slice (some ⟨bM, 0, none⟩) c c) t.n 0 :: osl 108 35 (.slice (some ⟨bM, 0, none⟩) c c) (cur.flatMap (slotL renc)) :: pt b7 (.cells (slotL renc x).toArray 108 (0,0)) :: osl 108 35 (.slice (some ⟨bk, off, none⟩) t.slots.length lc) (t.slots.flatMap (slotL renc)) :: F))
          clear hS10 f0 f1
          refine hf.mono ?_
          rintro ee w11 ⟨v, rfl, y, hy, rfl, hS11⟩
          clear hf hy
          have hlt2 := Tab.pos_lt (k := x.key) (d := dd) HH.out.good.pos_len
          rw [Hcl.out] at hlt2
          have Hset := Lib.hid (rows_set (f := slotL renc) (k := 35) (i := Tab.pos x.key cur.length dd) (x := x) Hcl38.out hl38 (Tab.pos_lt HH.out.good.pos_len))
          have Hst2 := Lib.hid (HH.out.step Hok.out.good Hx.out H1.out Hdd.out)
          rw [Hcl.out] at Hset Hst2
          rw [Hcl.out]
          have hrl : (cur.flatMap (slotL renc)).length = 35 * c := by rw [rows_len Hcl38.out, Hcl.out]
          generalize Tab.pos x.key c dd = P0 at *
          have c2 : (0 : Int) ≤ (P0 : Int) := by omega
          have c3 : (P0 : Int) < (c : Int) := by omega
          go_wp2_with fail
          have hSd := hS11.drew
          clear hS11
          refine wpL_begin [6, 7] (fun w' => w'.cell? ⟨p, 0, none⟩ = some (.slice (some ⟨bM, 0, none⟩) c c) ∧ w'.rangeAt b7 0 (slotL renc x)) kRz ?_
          have hG : World.cell? _ ⟨p, 0, none⟩ = some (.slice (some ⟨bM, 0, none⟩) c c) ∧ World.rangeAt _ b7 0 (slotL renc x) := ⟨hSd.cellP pkD 0 rfl, pt_rangeL (hSd.pk (A := pt b7 (.cells (slotL renc x).toArray 108 (0,0))))⟩
          refine rp 0 (hy := (yl_move evD)) (h := ?_)
          refine rp 1 (hy := (yl_nil evD)) (h := ?_)
          refine rp 2 (hy := (yl_field evD rnD)) (h := ?_)
          refine rt 3 (h := ?_)
          refine rp 4 (hy := (yl_move evD)) (h := ?_)
          refine rg_take 5 evD kRz i3z (tk_loadN (b := b7) (o := 0) (slotL renc x) rFz Tryz.underlying108 rfl (by rw [hl38]; kernel_rfl) (fun w hw => hw.2)) (by assumption) (by go_frame; first | done | rfl) ?_
          refine rp 6 (hy := (yl_index evD evD rnD)) (h := ?_)
          clear hG
          refine rg_eff 7 evD kRz (fun K hK => ?_)
          refine eff_storeSN (vs := slotL renc x) (P0 * 35) hSd evD evD rfl (upd_there upd0) (by rw [hl38, hrl]; omega) (by rw [hl38]; kernel_rfl) (slotL_ones renc x (renc_ones _)) ?_
          intro w12 hS12
          refine hK _ _ (.inl rfl) ?_
          clear hK hSd
          refine wpL_done kRz ?_
          try simp only [List.getElem_toArray, List.getElem_cons_succ, List.getElem_cons_zero]
          try go_frame
          rw [← Hset.out] at hS12
          go_wp2_with fail
          go_roundg (t.slots.length - (i + 1))
          case measure => have := Hlt.out; omega
          case rel => exact ⟨i + 1, _, rfl, Hlt.out, by first | rfl | go_num, Hst2.out, by rw [List.length_set]; exact Hcl.out, hS12.sb⟩
end
theorem run_slotR (k : Frm.Bs) (hk : k.length = 32) (v : Rep.Rfc) (w : World) :
    (Instr.build 108 #[(0, .int .i64 1), (1, .agg (bys k).toArray), (2, .agg (renc v).toArray)]).run Tryz.prog w = .ok (.agg (slotL renc ⟨1, k, v⟩).toArray) w := by
  have hbk : (bys k).toArray.size = 32 := by rw [List.size_toArray, bys_len, hk]
  refine (run_build (P := Tryz.prog) [(0, .int .i64 1), (1, .agg (bys k).toArray), (2, .agg (renc v).toArray)] plSlotR zSlotR (by
    intro p' hp
    simp only [List.mem_cons, List.not_mem_nil, or_false] at hp
    have hzz : (Value.agg (slotL renc (⟨0, Frm.zero32, zwR⟩ : Tab.Slot (Rep.Rfc))).toArray).cells.size = 35 := by
      show (slotL renc (⟨0, Frm.zero32, zwR⟩ : Tab.Slot (Rep.Rfc))).toArray.size = 35
      rw [List.size_toArray, slotL_len renc _ dCz 2 rfl]
    rw [hzz]
    rcases hp with rfl | rfl | rfl
    · exact ⟨0, rfl, by show 0 + 1 ≤ 35; omega⟩
    · refine ⟨1, ?_, ?_⟩
      · show some (1, 32) = some (1, (bys k).toArray.size); rw [hbk]
      · show 1 + (bys k).toArray.size ≤ 35; omega
    · exact ⟨33, rfl, by show 33 + 2 ≤ 35; omega⟩) w).trans ?_
  rw [show (Value.agg (slotL renc (⟨0, Frm.zero32, zwR⟩ : Tab.Slot (Rep.Rfc))).toArray).cells = (slotL renc (⟨0, Frm.zero32, zwR⟩ : Tab.Slot (Rep.Rfc))).toArray from rfl, put_slot renc ⟨0, Frm.zero32, zwR⟩ k v dCz hk rfl 2 rfl]
section
variable {w0 w : World} {F R : List HProp} {p B : Nat} {sv : Value} {k : Frm.Bs} {m : Frm.Bs → Option (Rep.Rfc)}
set_option maxRecDepth 20000 in
theorem putR_c (hB : B ≤ 134217000) (hk : k.length = 32) (v : Rep.Rfc) (h : Sat w0 w (TabMR p m B :: F)) :
    Calls Tryz.prog 32 #[ptr p, .agg (bys k).toArray, .agg (renc v).toArray] w (Rtn fun _ w' => Sat w0 w' (TabMR p (Tab.put m k v) (B + 1) :: F)) := by
  obtain ⟨t, sv, ⟨ok, is, hb⟩, hR⟩ := TabMR.open h
  obtain ⟨d, he⟩ := ok.ends k
  have hsz : t.slots.length ≤ 1073741824 := by have := ok.size; omega
  have Hlen := Lib.hid (show ∀ x ∈ t.slots, (slotL renc x).length = 35 from fun x hx => slotL_len renc x (ok.good.key x hx) 2 (renc_len _))
  obtain ⟨la, lc, rfl⟩ := osl_rows Hlen.out (Sat.rd (hR.pick pick1)) dCz
  have hrl : 0 < (t.slots.flatMap (slotL renc)).length := by rw [rows_len Hlen.out]; have := ok.good.pos_len; omega
  obtain ⟨bk, rfl⟩ := osl_zero (hR.pick pick1) hrl
  have Hk := Lib.hid hk; have Hok := Lib.hid ok; have His := Lib.hid is; have Hb := Lib.hid hb; have He := Lib.hid he; have Hsz := Lib.hid hsz; have HB := Lib.hid hB
  have Hp0 := Lib.hid ok.good.pos_len
  have Hbs := Lib.hid (show (bys k).length = 32 by rw [bys_len, hk])
  clear h hk ok is hb he hsz hB hrl
  go_enter Tryz.func32, Tryz.ntmps32
  go_wp2_with (with_reducible apply at_box)
  refine ⟨?_⟩
  refine wl_box hR evD evD ?_
  intro b4 w4 hS4
  go_wp2_with (with_reducible apply at_box)
  refine ⟨?_⟩
  refine wl_box hS4 evD evD ?_
  intro b5 w5 hS5
  have hA : Sat w0 w5 (tbPt p 116 (.slice (some ⟨bk, 0, none⟩) t.slots.length lc) t.n t.gone :: osl 108 35 (.slice (some ⟨bk, 0, none⟩) t.slots.length lc) (t.slots.flatMap (slotL renc)) :: pt b4 (.cells (bys k).toArray 24 (0,0)) :: pt b5 (.cells (renc v).toArray 44 (0,0)) :: F) := hS5.sb
  clear hR hS4 hS5
  go_wp2_with fail
  refine (okR_c Hp0.out hA).mono ?_
  rintro ee w7 ⟨v', rfl, rfl, rfl⟩
  go_wp2_with ((with_reducible apply at_load); refine ⟨?_⟩; refine wl_loadA hA rFz (pick_there (pick_there (pick0 (A := pt b4 (.cells (bys k).toArray 24 (0,0)))))) Tryz.underlying24 rfl (by rw [List.size_toArray, Hbs.out]; kernel_rfl) ?_)
  have hf := findR_c Hok.out.good Hsz.out Hk.out He.out hA
  clear hA
  refine hf.mono ?_
  rintro ee w8 ⟨v', rfl, x, hx, rfl, hS8⟩
  clear hf
  have hlt := Tab.pos_lt (k := k) (d := d) Hp0.out
  by_cases h1 : x.st = 1
  · have hd : decide (x.st = 1) = true := decide_eq_true h1
    have hxm := List.mem_of_getElem? hx
    have Hrow := Lib.hid (rows_part (f := slotL renc) (k := 35) (o := 33) (x' := ⟨x.st, x.key, v⟩) (vs := renc v) Hlen.out hx (slotL_setv renc x v (Hok.out.good.key x hxm) rfl) (by show 33 + 2 ≤ 35; decide))
    have Hok2 := Lib.hid (Tab.put_old_ok Hok.out He.out hx h1 v)
    have His2 := Lib.hid (Tab.is_put His.out (Tab.put_found Hok.out.good He.out hx h1 v).2 t.n t.gone)
    have hrl : (t.slots.flatMap (slotL renc)).length = 35 * t.slots.length := rows_len Hlen.out
    clear hx hxm h1
    generalize Tab.pos k t.slots.length d = P0 at *
    have c0 : (0 : Int) ≤ (P0 : Int) := by omega
    have c1 : (P0 : Int) < (t.slots.length : Int) := by omega
    go_wp2_with fail
    have hSd := hS8.drew
    clear hS8
    refine wpL_begin [6, 7, 8] (fun w' => w'.cell? ⟨p, 0, none⟩ = some (.slice (some ⟨bk, 0, none⟩) t.slots.length lc) ∧ w'.rangeAt b5 0 (renc v)) kRz ?_
    have hG : World.cell? _ ⟨p, 0, none⟩ = some (.slice (some ⟨bk, 0, none⟩) t.slots.length lc) ∧ World.rangeAt _ b5 0 (renc v) := ⟨hSd.cellP pkD 0 rfl, pt_rangeL (hSd.pk (A := pt b5 (.cells (renc v).toArray 44 (0,0))))⟩
    refine rp 0 (hy := (yl_move evD)) (h := ?_)
    refine rp 1 (hy := (yl_nil evD)) (h := ?_)
    refine rp 2 (hy := (yl_field evD rnD)) (h := ?_)
    refine rt 3 (h := ?_)
    refine rp 4 (hy := (yl_move evD)) (h := ?_)
    refine rg_take 5 evD kRz i3z (tk_loadN (b := b5) (o := 0) (renc v) rFz Tryz.underlying44 rfl kRz (fun w hw => hw.2)) (by assumption) (by go_frame; first | done | rfl) ?_
    refine rp 6 (hy := (yl_index evD evD rnD)) (h := ?_)
    refine rp 7 (hy := (yl_field evD rnD)) (h := ?_)
    clear hG
    refine rg_eff 8 evD kRz (fun K hK => ?_)
    refine eff_storeSN (vs := renc v) (P0 * 35 + 33) hSd evD evD rfl (upd_there upd0) (by rw [hrl]; show P0 * 35 + 33 + 2 ≤ _; omega) kRz rFz ?_
    intro w12 hS12
    refine hK _ _ (.inl rfl) ?_
    clear hK hSd
    refine wpL_done kRz ?_
    try simp only [List.getElem_toArray, List.getElem_cons_succ, List.getElem_cons_zero]
    try go_frame
    rw [← Hrow.out] at hS12
    go_wp2_with fail
    go_end0
    exact ⟨_, rfl, TabMR.shut (sv := .slice (some ⟨bk, 0, none⟩) t.slots.length lc) Hok2.out His2.out (Nat.le_succ_of_le Hb.out) (hS12.sb)⟩
  have hd : decide (x.st = 1) = false := decide_eq_false h1
  have hb4 := Hb.out
  have hB4 := HB.out
  have hsz4 := Hsz.out
  obtain ⟨hA1, hA2, hA3, hA4, hA1b, hA2b, hA3b, hA4b, hA5⟩ := wraps4 t.n t.gone t.slots.length (by omega) hsz4
  have Hx := Lib.hid hx; have H1 := Lib.hid h1
  clear hx h1 hb4 hB4 hsz4
  go_wp2_with fail
  have hSd := hS8.drew
  clear hS8
  have e0 : World.cell? _ ⟨p, 0, none⟩ = some (.slice (some ⟨bk, 0, none⟩) t.slots.length lc) := hSd.cellP pkD 0 rfl
  have e1 : World.cell? _ ⟨p, 1, none⟩ = some (.int .i64 t.n) := hSd.cellP pkD 1 rfl
  have e2 : World.cell? _ ⟨p, 2, none⟩ = some (.int .i64 t.gone) := hSd.cellP pkD 2 rfl
  go_region
  have hcmp : 3 * t.slots.length < 4 * (t.n + t.gone + 1) ∨ 4 * (t.n + t.gone + 1) ≤ 3 * t.slots.length := by omega
  rcases hcmp with hcmp | hcmp
  focus
    have hci : (3 : Int) * (t.slots.length : Int) < 4 * ((t.n : Int) + (t.gone : Int) + 1) := by omega
    have hrn := renewR_c (N := t.n + 1) Hok.out (Nat.le_succ _) (by have := Hb.out; have := HB.out; omega) Hsz.out hSd
    rw [show (((t.n + 1 : Nat)) : Int) = (t.n : Int) + 1 by omega] at hrn
    clear hSd e0 e2
    go_wp2_with fail
    refine hrn.mono ?_
    rintro ee w9 ⟨v', rfl, s', sv', hren, hS9⟩
    clear hrn e1 hci hcmp
    have hok1 := hren.ok
    have his1 := hren.is His.out t.n 0
    have hld1 : 4 * ((⟨s', t.n, 0⟩ : Tab.Tb (Rep.Rfc)).n + (⟨s', t.n, 0⟩ : Tab.Tb (Rep.Rfc)).gone + 1) ≤ 3 * (⟨s', t.n, 0⟩ : Tab.Tb (Rep.Rfc)).slots.length := by have := hren.lo; simp only; omega
    have hb1 : (⟨s', t.n, 0⟩ : Tab.Tb (Rep.Rfc)).n + (⟨s', t.n, 0⟩ : Tab.Tb (Rep.Rfc)).gone ≤ B := by have := Hb.out; simp only; omega
    have hS10 : Sat w0 w9 (tbPt p 116 sv' (⟨s', t.n, 0⟩ : Tab.Tb (Rep.Rfc)).n (⟨s', t.n, 0⟩ : Tab.Tb (Rep.Rfc)).gone :: osl 108 35 sv' ((⟨s', t.n, 0⟩ : Tab.Tb (Rep.Rfc)).slots.flatMap (slotL renc)) :: pt b4 (.cells (bys k).toArray 24 (0,0)) :: pt b5 (.cells (renc v).toArray 44 (0,0)) :: F) := hS9
    clear hS9 hren hA1 hA2 hA3 hA4 hA1b hA2b hA3b hA4b hA5
    generalize (⟨s', t.n, 0⟩ : Tab.Tb (Rep.Rfc)) = t1 at hok1 his1 hld1 hb1 hS10
    have Hlen1 := Lib.hid (show ∀ x ∈ t1.slots, (slotL renc x).length = 35 from fun x hx => slotL_len renc x (hok1.good.key x hx) 2 (renc_len _))
    obtain ⟨la1, lc1, rfl⟩ := osl_rows Hlen1.out (Sat.rd (hS10.pick pick1)) dCz
    have Hok1 := Lib.hid hok1; have His1 := Lib.hid his1; have Hld1 := Lib.hid hld1; have Hb1 := Lib.hid hb1
    obtain ⟨d1, he1⟩ := hok1.ends k
    have He1 := Lib.hid he1
    have hno : m k = none := by
      obtain ⟨_, q2⟩ := His.out.some Hok.out He.out Hx.out
      exact q2 H1.out
    have hsz1 : t1.slots.length ≤ 1073741824 := by have := hok1.size; have := HB.out; omega
    clear hok1 his1 hld1 hb1 he1
    go_wp2_with ((with_reducible apply at_load); refine ⟨?_⟩; refine wl_loadA hS10 rFz (pick_there (pick_there (pick0 (A := pt b4 (.cells (bys k).toArray 24 (0,0)))))) Tryz.underlying24 rfl (by rw [List.size_toArray, Hbs.out]; kernel_rfl) ?_)
    have hf := findR_c Hok1.out.good hsz1 Hk.out He1.out hS10
    clear hS10 hsz1
    refine hf.mono ?_
    rintro ee w8b ⟨v', rfl, x1, hx1, rfl, hT⟩
    have Hx1 := Lib.hid hx1
    have H1f := Lib.hid (show x1.st ≠ 1 from fun h => by
      have := (His1.out.some Hok1.out He1.out hx1).1 h
      rw [hno] at this; cases this)
    clear hf hx1 hno Hx H1 He Hok His Hlen Hp0 Hb Hsz hlt hd
    go_wp2_with fail
  rotate_left
  focus
    have hci : ¬ (3 : Int) * (t.slots.length : Int) < 4 * ((t.n : Int) + (t.gone : Int) + 1) := by omega
    have Hld1 := Lib.hid hcmp
    clear e0 e1 e2 hcmp
    go_wp2_with fail
    clear hci hA1 hA2 hA3 hA4 hA1b hA2b hA3b hA4b hA5 hlt hd Hp0 Hsz
    obtain ⟨t1, rfl⟩ : ∃ y, y = t := ⟨t, rfl⟩
    obtain ⟨x1, rfl⟩ : ∃ y, y = x := ⟨x, rfl⟩
    obtain ⟨d1, rfl⟩ : ∃ y, y = d := ⟨d, rfl⟩
    obtain ⟨la1, hla1⟩ : ∃ y : Option Addr, y = some ⟨bk, 0, none⟩ := ⟨_, rfl⟩
    obtain ⟨lc1, rfl⟩ : ∃ y, y = lc := ⟨lc, rfl⟩
    rw [← hla1] at hSd
    have hT := hSd
    have Hok1 := Lib.hid Hok.out; have His1 := Lib.hid His.out; have Hb1 := Lib.hid Hb.out; have He1 := Lib.hid He.out; have Hx1 := Lib.hid Hx.out; have H1f := Lib.hid H1.out; have Hlen1 := Lib.hid Hlen.out
    clear hSd Hok His Hb He Hx H1 Hlen hla1
  all_goals
    have hrl : (t1.slots.flatMap (slotL renc)).length = 35 * t1.slots.length := rows_len Hlen1.out
    obtain ⟨bk1, rfl⟩ := osl_zero (hT.pick pick1) (by rw [hrl]; have := Hok1.out.good.pos_len; omega)
    have Hrow := Lib.hid (rows_set (f := slotL renc) (k := 35) (i := Tab.pos k t1.slots.length d1) (x := ⟨1, k, v⟩) Hlen1.out (slotL_len renc _ Hk.out 2 rfl) (Tab.pos_lt Hok1.out.good.pos_len))
    have Hok2 := Lib.hid (Tab.put_new_ok Hok1.out Hld1.out He1.out Hx1.out H1f.out Hk.out v)
    have His2 := Lib.hid (Tab.is_put His1.out (Tab.put_new Hok1.out.good He1.out Hx1.out H1f.out Hk.out v).2 (t1.n + 1) t1.gone)
    have hlt1 := Tab.pos_lt (k := k) (d := d1) Hok1.out.good.pos_len
    have hls := slotL_len renc (⟨1, k, v⟩ : Tab.Slot (Rep.Rfc)) Hk.out 2 rfl
    have hwn : IntKind.i64.wrap ((t1.n : Int) + 1) = (t1.n : Int) + 1 := IntWalk.i64_in _ (by have := Hb1.out; have := HB.out; omega)
    clear Hx1 H1f He1 Hok1 His1 Hld1
    generalize Tab.pos k t1.slots.length d1 = P1 at *
    have c0 : (0 : Int) ≤ (P1 : Int) := by omega
    have c1 : (P1 : Int) < (t1.slots.length : Int) := by omega
    have hSd := hT.drew
    clear hT
    refine wpL_begin [8, 9] (fun w' => w'.cell? ⟨p, 0, none⟩ = some (.slice (some ⟨bk1, 0, none⟩) t1.slots.length lc1) ∧ w'.rangeAt b4 0 (bys k) ∧ w'.rangeAt b5 0 (renc v)) kRz ?_
    have hG : World.cell? _ ⟨p, 0, none⟩ = some (.slice (some ⟨bk1, 0, none⟩) t1.slots.length lc1) ∧ World.rangeAt _ b4 0 (bys k) ∧ World.rangeAt _ b5 0 (renc v) := ⟨hSd.cellP pkD 0 rfl, pt_rangeL (hSd.pk (A := pt b4 (.cells (bys k).toArray 24 (0,0)))), pt_rangeL (hSd.pk (A := pt b5 (.cells (renc v).toArray 44 (0,0))))⟩
    refine rp 0 (hy := (yl_move evD)) (h := ?_)
    refine rp 1 (hy := (yl_nil evD)) (h := ?_)
    refine rp 2 (hy := (yl_field evD rnD)) (h := ?_)
    refine rt 3 (h := ?_)
    refine rp 4 (hy := (yl_move evD)) (h := ?_)
    refine rg_take 5 evD kRz i3z (tk_loadN (b := b4) (o := 0) (bys k) rFz Tryz.underlying24 rfl (by rw [Hbs.out]; kernel_rfl) (fun w hw => hw.2.1)) (by assumption) (by go_frame; first | done | rfl) ?_
    refine rg_take 6 evD kRz i3z (tk_loadN (b := b5) (o := 0) (renc v) rFz Tryz.underlying44 rfl kRz (fun w hw => hw.2.2)) (by assumption) (by go_frame; first | done | rfl) ?_
    refine rp 7 (hy := (yl_build3 evD evD evD (fun w => run_slotR k Hk.out v w))) (h := ?_)
    refine rp 8 (hy := (yl_index evD evD rnD)) (h := ?_)
    clear hG
    refine rg_eff 9 evD kRz (fun K hK => ?_)
    refine eff_storeSN (vs := slotL renc ⟨1, k, v⟩) (P1 * 35) hSd evD evD rfl (upd_there upd0) (by rw [hrl, hls]; omega) (by rw [hls]; kernel_rfl) (slotL_ones renc _ rFz) ?_
    intro w12 hS12
    refine hK _ _ (.inl rfl) ?_
    clear hK hSd
    refine wpL_done kRz ?_
    try simp only [List.getElem_toArray, List.getElem_cons_succ, List.getElem_cons_zero]
    try go_frame
    rw [← Hrow.out] at hS12
    go_wp2_with (first
      | ((with_reducible apply at_load); refine ⟨?_⟩; refine wl_load1 hS12 rFz pkD nLz evD kRz ?_)
      | ((with_reducible apply at_store); refine ⟨?_⟩; refine wl_store (by assumption) rFz evD (by first | (simp only [putsAt, Value.cells]; (try go_frame); first | done | rfl) | rfl) upD nLz kRz rFz ?_; intro wS hS))
    go_end0
    exact ⟨_, rfl, TabMR.shut (sv := .slice (some ⟨bk1, 0, none⟩) t1.slots.length lc1) Hok2.out His2.out (by have := Hb1.out; simp only; omega) (hS.sb)⟩
end
abbrev stoPt (s r t : Nat) (st : Bool) : HProp := pt s (.cells #[ptr r, ptr t, .bool st] 51 (0,0))
section
variable {w0 w : World} {F : List HProp}
theorem rplog22_c {r m p ps pn : Nat} {seg : Int} {d : Bool} (h : Sat w0 w (rpPt r m seg p ps pn d :: F)) : Calls Tryz.prog 22 #[ptr r] w (Rtn fun v w' => v = ptr p ∧ w = w') := by
  have e2 : w.cell? ⟨r, 2, none⟩ = some (.pointer (some ⟨p, 0, none⟩)) := h.cellAt 2 _ rfl
  have hok := rokY_c h
  clear h
  go_enter Tryz.func22, Tryz.ntmps22
  go_wp2_with fail
  refine hok.mono ?_
  rintro ee w1 ⟨v, rfl, rfl, rfl⟩
  go_wp2_with fail
  go_ret
  exact ⟨_, rfl, rfl, rfl⟩
theorem sok_c {s r t : Nat} {st : Bool} (h : Sat w0 w (stoPt s r t st :: F)) : Calls Tryz.prog 24 #[ptr s] w (Rtn fun v w' => v = .bool true ∧ w = w') := by
  have e0 : w.cell? ⟨s, 0, none⟩ = some (.pointer (some ⟨r, 0, none⟩)) := h.cellAt 0 _ rfl
  go_enter Tryz.func24, Tryz.ntmps24
  go_wp2
  go_ret
  exact ⟨_, rfl, rfl, rfl⟩
theorem filledN_c (h : Sat w0 w F) : Calls Tryz.prog 23 #[.slice none 0 0] w (Rtn fun v w' => ∃ t, v = .tuple #[ptr t, errno 0] ∧ Sat w0 w' (TabMR t (fun _ => none) 0 :: F)) := by
  have hn := newR_c h
  clear h
  go_enter Tryz.func23, Tryz.ntmps23
  go_wp2_with fail
  refine hn.mono ?_
  rintro ee w1 ⟨v, rfl, t, rfl, h1⟩
  clear hn
  go_wp2_with fail
  go_loopg [12] 0 (fun g iq wr => g = 0 ∧ iq = .int .i64 0 ∧ Sat w0 wr (TabMR t (fun _ => none) 0 :: F))
  case atStart => exact ⟨rfl, rfl, h1⟩
  case round =>
    obtain ⟨rfl, rfl, hS⟩ := hrel
    clear h1
    go_wp2_with fail
    go_loopg [34] 0 (fun g iq wr => g = 0 ∧ iq = .int .i64 0 ∧ Sat w0 wr (TabMR t (fun _ => none) 0 :: F))
    case atStart => exact ⟨rfl, rfl, hS⟩
    case round =>
      obtain ⟨rfl, rfl, hT⟩ := hrel
      clear hS
      go_wp2_with fail
      go_ret2
      exact ⟨_, rfl, t, rfl, hT⟩
theorem plSto : placesB Tryz.prog 51 = some [(0, 1), (1, 1), (2, 1)] := by kernel_rfl
theorem zSto : zeroB Tryz.prog 51 = some (.agg #[.pointer none, .pointer none, .bool false]) := by kernel_rfl
theorem run_sto (r t : Nat) (st : Bool) (w : World) : (Instr.build 51 #[(0, ptr r), (1, ptr t), (2, .bool st)]).run Tryz.prog w = .ok (.agg #[ptr r, ptr t, .bool st]) w :=
  run_build (P := Tryz.prog) [(0, ptr r), (1, ptr t), (2, .bool st)] plSto zSto (by
    intro q hq
    simp only [List.mem_cons, List.not_mem_nil, or_false] at hq
    rcases hq with rfl | rfl | rfl
    · exact ⟨0, rfl, by show 0 + 1 ≤ 3; decide⟩
    · exact ⟨1, rfl, by show 1 + 1 ≤ 3; decide⟩
    · exact ⟨2, rfl, by show 2 + 1 ≤ 3; decide⟩) w
theorem newN_c {r m p ps pn : Nat} {seg : Int} {d st : Bool} (h : Sat w0 w (rpPt r m seg p ps pn d :: F)) :
    Calls Tryz.prog 6 #[ptr r, .slice none 0 0, .bool st] w (Rtn fun v w' => ∃ s t, v = .tuple #[ptr s, errno 0] ∧ Sat w0 w' (stoPt s r t st :: TabMR t (fun _ => none) 0 :: rpPt r m seg p ps pn d :: F)) := by
  have hlog := rplog22_c h
  have hfil := filledN_c h
  clear h
  go_enter Tryz.func6, Tryz.ntmps6
  go_wp2_with fail
  refine hlog.mono ?_
  rintro ee w1 ⟨v, rfl, rfl, rfl⟩
  clear hlog
  go_wp2_with fail
  refine hfil.mono ?_
  rintro ee w2 ⟨v, rfl, t, rfl, h2⟩
  clear hfil
  go_wp2_with (first
    | ((with_reducible apply at_build3); refine ⟨?_⟩; refine wl_build3 rFz rFz rFz (run_sto r t st) ?_)
    | ((with_reducible apply at_box); refine ⟨?_⟩; refine wl_box h2 rFz rFz ?_; intro s w3 h3))
  go_ret2
  exact ⟨_, rfl, s, t, rfl, h3⟩
abbrev SX (s t r m p ps pi pn : Nat) (uv : Value) (limit : Int) (M : Med) (F : List HProp) : List HProp :=
  stoPt s r t false :: TabMR t (fun _ => none) 0 :: RX r m p ps pi pn uv limit M F
set_option maxRecDepth 20000 in
theorem opened22_c (z : Int) (hH : Ro w0 F Half) (h : Sat w0 w F) :
    Calls Tryz.prog 5 #[.int .i64 z] w (Rtn fun v w' => ∃ (s t r m p ps pi pn : Nat) (uv : Value) (limit : Int) (M : Med), v = .tuple #[ptr s, ptr m, .bool true] ∧ 128 ≤ limit ∧ limit ≤ 3000 ∧ (z = 500 → limit = 500) ∧ M = Med.new 1048576 ∧ Seg.Rp 0 1048576 0 0 0 ⟨limit, [], false, 0⟩ M [] ∧ Sat w0 w' (SX s t r m p ps pi pn uv limit M F)) := by
  have hnew := new_yes 1048576 dCz h
  have hlim := within_mem z 128 3000 dCz
  have hwi := within_c z 128 3000
  have hz : z = 500 → within z 128 3000 = 500 := by rintro rfl; decide
  generalize within z 128 3000 = lim at *
  have Hlim := Lib.hid hlim; have HH := Lib.hid hH; have Hz := Lib.hid hz
  clear h hlim hH hz
  go_enter Tryz.func5, Tryz.ntmps5
  go_wp2_with fail
  refine hnew.mono ?_
  rintro ee w1 ⟨v, rfl, m, rfl, h1⟩
  clear hnew
  go_wp2_with fail
  refine (hwi _).mono ?_
  rintro ee w2 ⟨v, rfl, rfl, rfl⟩
  clear hwi
  have hop := ropenX_c (K := 0) Hlim.out.1 (by have := Hlim.out.2; omega) (Seg.Calm.new 0 1048576 dCz) (Nat.zero_le _) rfl HH.out h1
  clear h1
  go_wp2_with fail
  refine hop.mono ?_
  rintro ee w3 ⟨v, rfl, r, p, ps, pi, pn, uv, rfl, hR, h3⟩
  clear hop
  have HR := Lib.hid hR
  clear hR
  go_wp2_with (with_reducible apply at_alloc)
  refine ⟨?_⟩
  refine wl_alloc zFlt h3 rfl ?_
  intro b8 w7 h7
  go_wp2_with (with_reducible apply at_store)
  refine ⟨?_⟩
  refine wl_storeA (fltA Rep.Flt.zero) h7 rFz rFz rFz upd0 kRz rFz ?_
  intro w8 h8
  have h9 := h8.drop
  clear h3 h7 h8
  have h9 : Sat w0 w8 (RX r m p ps pi pn uv lim (Med.new 1048576) F) := h9
  have hnw := newN_c (st := false) h9
  clear h9
  go_wp2_with fail
  refine hnw.mono ?_
  rintro ee w10 ⟨v, rfl, s, t, rfl, h10⟩
  clear hnw
  go_wp2_with fail
  go_ret3
  exact ⟨_, rfl, s, t, r, m, p, ps, pi, pn, uv, lim, _, rfl, Hlim.out.1, Hlim.out.2, Hz.out, rfl, HR.out, h10⟩
end
section
variable {w0 w : World} {F : List HProp}
set_option maxRecDepth 20000 in
theorem scount_c {s r t B : Nat} {st : Bool} {mp : Frm.Bs → Option Rep.Rfc} {k : Frm.Bs} (hB : B ≤ 268435000) (hk : k.length = 32) (h : Sat w0 w (stoPt s r t st :: TabMR t mp B :: F)) :
    Calls Tryz.prog 13 #[ptr s, .agg (bys k).toArray] w (Rtn fun v w' => v = .agg (renc ((mp k).getD ⟨0, 0⟩)).toArray ∧ Sat w0 w' (stoPt s r t st :: TabMR t mp B :: F)) := by
  have Hks := Lib.hid (show (bys k).length = 32 by rw [bys_len, hk])
  have HT := Lib.hid (fun (w' : World) (R : List HProp) (hw : Sat w0 w' (TabMR t mp B :: R)) => getR_c (k := k) hB hk hw)
  obtain ⟨x, hx⟩ : ∃ x, (mp k).getD (⟨0, 0⟩ : Rep.Rfc) = x := ⟨_, rfl⟩
  obtain ⟨ok, hok⟩ : ∃ ok, (mp k).isSome = ok := ⟨_, rfl⟩
  rw [hx, hok] at HT
  rw [hx]
  clear hx hok hB hk
  go_enter Tryz.func13, Tryz.ntmps13
  go_wp2_with (with_reducible apply at_box)
  refine ⟨?_⟩
  refine wl_box h evD evD ?_
  intro b3 w3 h3
  replace h3 : Sat w0 w3 (pt b3 (.cells (bys k).toArray 24 (0,0)) :: stoPt s r t st :: TabMR t mp B :: F) := h3
  clear h
  go_wp2_with (with_reducible apply at_alloc)
  refine ⟨?_⟩
  refine wl_alloc zValR h3 rfl ?_
  intro b4 w4 h4
  clear h3
  have hok := sok_c (h4.sb : Sat w0 w4 (stoPt s r t st :: pt b4 (.cells (renc zwR).toArray 44 (0,0)) :: pt b3 (.cells (bys k).toArray 24 (0,0)) :: TabMR t mp B :: F))
  go_wp2_with fail
  refine hok.mono ?_
  rintro ee w5 ⟨v, rfl, rfl, rfl⟩
  clear hok
  go_wp2_with fail
  have h9 := h4.drew
  have hG : World.cell? _ ⟨s, 1, none⟩ = some (ptr t) ∧ World.rangeAt _ b3 0 (bys k) := ⟨h9.cellP pick2 1 rfl, fun j v hj => h9.cellP pick1 (0 + j) (by simpa using hj)⟩
  clear h4
  refine wpL_begin [5, 6, 7, 8, 10, 11] (fun w' => w'.cell? ⟨s, 1, none⟩ = some (ptr t) ∧ w'.rangeAt b3 0 (bys k)) kRz ?_
  refine rp 0 (hy := (yl_move evD)) (h := ?_)
  refine rp 1 (hy := (yl_nil evD)) (h := ?_)
  refine rp 2 (hy := (yl_field evD rnD)) (h := ?_)
  refine rt 3 (h := ?_)
  refine rg_take 4 evD kRz i3z (tk_loadN (b := b3) (o := 0) (bys k) rFz Tryz.underlying24 rfl (by rw [Hks.out]; kernel_rfl) (fun w hw => hw.2)) (by assumption) (by go_frame; first | done | rfl) ?_
  clear hG
  refine rg_eff2 5 9 evD evD kRz (fun K hK => ?_) (fun K hK => ?_)
  focus
    (refine eff_call2 kRz evD evD ?_)
    refine (HT.out _ _ (h9.sb : Sat w0 _ (TabMR t mp B :: pt b4 (.cells (renc zwR).toArray 44 (0,0)) :: pt b3 (.cells (bys k).toArray 24 (0,0)) :: stoPt s r t st :: F))).mono ?_
    rintro ee w10 ⟨v, rfl, rfl, h10⟩
    refine hK _ _ (.inl rfl) ?_
    clear hK h9
    refine rp 6 (hy := (yl_move evD)) (h := ?_)
    refine rp 7 (hy := (yl_extract evD rnD)) (h := ?_)
    refine rp 8 (hy := (yl_extract evD rnD)) (h := ?_)
    refine rg_eff 9 evD kRz (fun K hK => ?_)
    refine eff_alloc (zValR) h10 rfl ?_
    intro b8 w11 h11
    refine hK _ _ (.inr (.inl ⟨h11.cellP pick4 1 rfl, fun j v hj => h11.cellP pick3 (0 + j) (by simpa using hj)⟩)) ?_
    clear hK h10
  rotate_left
  focus
    refine eff_alloc (zValR) h9 rfl ?_
    intro b8 w10 h10
    refine hK _ _ (.inr (.inl ⟨h10.cellP pick3 1 rfl, fun j v hj => h10.cellP pick2 (0 + j) (by simpa using hj)⟩)) ?_
    clear hK h9
    refine rg_eff 5 evD kRz (fun K hK => ?_)
    (refine eff_call2 kRz evD evD ?_)
    refine (HT.out _ _ (h10.sb : Sat w0 _ (TabMR t mp B :: pt b8 (.cells (renc zwR).toArray 44 (0,0)) :: pt b4 (.cells (renc zwR).toArray 44 (0,0)) :: pt b3 (.cells (bys k).toArray 24 (0,0)) :: stoPt s r t st :: F))).mono ?_
    rintro ee w11 ⟨v, rfl, rfl, h11'⟩
    refine hK _ _ (.inl rfl) ?_
    clear hK h10
    have h11 : Sat w0 w11 (pt b8 (.cells (renc zwR).toArray 44 (0,0)) :: TabMR t mp B :: pt b4 (.cells (renc zwR).toArray 44 (0,0)) :: pt b3 (.cells (bys k).toArray 24 (0,0)) :: stoPt s r t st :: F) := h11'.sb
    clear h11'
    refine rp 6 (hy := (yl_move evD)) (h := ?_)
    refine rp 7 (hy := (yl_extract evD rnD)) (h := ?_)
    refine rp 8 (hy := (yl_extract evD rnD)) (h := ?_)
  all_goals
    refine rg_eff 10 evD kRz (fun K hK => ?_)
    refine eff_store (cs' := (renc x).toArray) h11 evD evD rFz upd0 nLz kRz rFz ?_
    intro w12 h12
    refine hK _ _ (.inl rfl) ?_
    clear hK h11
    refine rp 11 (hy := (yl_assign evD)) (h := ?_)
    refine wpL_done kRz ?_
    go_wp2_with (first
      | ((with_reducible apply at_load); refine ⟨?_⟩; refine wl_loadA (cs := (renc x).toArray) h12 rFz pick0 Tryz.underlying44 rfl kRz ?_)
      | (with_reducible apply at_store))
    refine ⟨?_⟩
    refine wl_storeA (renc x).toArray (h12.sb : Sat w0 w12 (pt b4 (.cells (renc zwR).toArray 44 (0,0)) :: stoPt s r t st :: TabMR t mp B :: F)) rFz rFz rFz upd0 kRz rFz ?_
    intro w13 h13
    go_wp2_with fail
    refine ⟨rfl, _, res_cell rfl h13 rFz pick0 Tryz.underlying44 rfl kRz, _, rfl, rfl, h13.drop⟩
end
end Go.Proofs.YtopconiamijknaaGreatDoor
namespace Go.Sha
abbrev Bs := List UInt8
abbrev W := 4294967296
def rr (n x : Nat) : Nat := (x * 2 ^ (32 - n) % W) ||| (x / 2 ^ n)
def big (b : Bs) : Nat := b.foldl (fun x c => x * 256 + c.toNat) 0
def g0 (x : Nat) : Nat := rr 7 x ^^^ rr 18 x ^^^ (x / 8)
def g1 (x : Nat) : Nat := rr 17 x ^^^ rr 19 x ^^^ (x / 1024)
def first (b : Bs) : List Nat := (List.range' 0 16).map fun i => big ((b.drop (4 * i)).take 4)
def at_ (l : List Nat) (i : Nat) : Nat := l.getD i 0
def next (l : List Nat) : Nat := (((at_ l (l.length - 16) + g0 (at_ l (l.length - 15))) % W + at_ l (l.length - 7)) % W + g1 (at_ l (l.length - 2))) % W
def more : Nat → List Nat → List Nat
  | 0, l => l
  | n + 1, l => more n (l ++ [next l])
def sched (b : Bs) : List Nat := more 48 (first b)
structure St where
  a : Nat
  b : Nat
  c : Nat
  d : Nat
  e : Nat
  f : Nat
  g : Nat
  h : Nat
def St.l (s : St) : List Nat := [s.a, s.b, s.c, s.d, s.e, s.f, s.g, s.h]
def K : List Nat := [1116352408, 1899447441, 3049323471, 3921009573, 961987163, 1508970993, 2453635748, 2870763221, 3624381080, 310598401, 607225278, 1426881987, 1925078388, 2162078206, 2614888103, 3248222580, 3835390401, 4022224774, 264347078, 604807628, 770255983, 1249150122, 1555081692, 1996064986, 2554220882, 2821834349, 2952996808, 3210313671, 3336571891, 3584528711, 113926993, 338241895, 666307205, 773529912, 1294757372, 1396182291, 1695183700, 1986661051, 2177026350, 2456956037, 2730485921, 2820302411, 3259730800, 3345764771, 3516065817, 3600352804, 4094571909, 275423344, 430227734, 506948616, 659060556, 883997877, 958139571, 1322822218, 1537002063, 1747873779, 1955562222, 2024104815, 2227730452, 2361852424, 2428436474, 2756734187, 3204031479, 3329325298]
def t1 (s : St) (k w : Nat) : Nat := (((((s.h + (rr 6 s.e ^^^ rr 11 s.e ^^^ rr 25 s.e)) % W + ((s.e &&& s.f) ^^^ ((W - 1 - s.e) &&& s.g))) % W + k) % W) + w) % W
def t2 (s : St) : Nat := ((rr 2 s.a ^^^ rr 13 s.a ^^^ rr 22 s.a) + ((s.a &&& s.b) ^^^ (s.a &&& s.c) ^^^ (s.b &&& s.c))) % W
def round (s : St) (k w : Nat) : St := ⟨(t1 s k w + t2 s) % W, s.a, s.b, s.c, (s.d + t1 s k w) % W, s.e, s.f, s.g⟩
def rounds (b : Bs) (s : St) (i : Nat) : St := (List.range' 0 i).foldl (fun s i => round s (at_ K i) (at_ (sched b) i)) s
def add (s v : St) : St := ⟨(s.a + v.a) % W, (s.b + v.b) % W, (s.c + v.c) % W, (s.d + v.d) % W, (s.e + v.e) % W, (s.f + v.f) % W, (s.g + v.g) % W, (s.h + v.h) % W⟩
def take (s : St) (b : Bs) : St := add s (rounds b s 64)
def begin : St := ⟨1779033703, 3144134277, 1013904242, 2773480762, 1359893119, 2600822924, 528734635, 1541459225⟩
def blocks : Nat → St → Bs → St × Bs
  | 0, s, b => (s, b)
  | n + 1, s, b => if b.length < 64 then (s, b) else blocks n (take s (b.take 64)) (b.drop 64)
def bigL (x n : Nat) : Bs := (Frm.le x n).reverse
def pad (r : Bs) : Bs := r ++ [128] ++ List.replicate ((119 - r.length % 64) % 64) 0
def sum (b : Bs) : Bs :=
  let p := blocks (b.length / 64) begin b
  let t := pad p.2 ++ bigL (8 * b.length) 8
  ((blocks (t.length / 64) p.1 t).1.l).flatMap fun w => bigL w 4
end Go.Sha
namespace Go.Sha
theorem or_lt {x y : Nat} (hx : x < 4294967296) (hy : y < 4294967296) : x ||| y < 4294967296 := Nat.or_lt_two_pow (n := 32) hx hy
theorem xor_lt {x y : Nat} (hx : x < 4294967296) (hy : y < 4294967296) : x ^^^ y < 4294967296 := Nat.xor_lt_two_pow (n := 32) hx hy
theorem and_lt {x y : Nat} (hx : x < 4294967296) : x &&& y < 4294967296 := Nat.lt_of_le_of_lt Nat.and_le_left hx
theorem rr_lt (n : Nat) {x : Nat} (hx : x < 4294967296) : rr n x < 4294967296 := or_lt (Nat.mod_lt _ dCz) (Nat.lt_of_le_of_lt (Nat.div_le_self _ _) hx)
end Go.Sha
namespace Go.Proofs.YtopconiamijknaaGreatDoor
open Go Go.Sl Go.Med Go.MapKept Go.RowKit
section
variable {w0 w : World} {F : List HProp}
theorem turn32_2_c (x : Nat) (hx : x < 4294967296) (h : Sat w0 w F) : Calls Tryz.prog 177 #[.int .u32 x, .int .i64 (-2)] w (Rtn fun v w' => v = .int .u32 (Sha.rr 2 x : Nat) ∧ Sat w0 w' F) := by
  have hf := Lib.hid (show Sha.rr 2 x = (x * 1073741824 % 4294967296) ||| (x / 4) from rfl)
  have e1 : IntKind.u32.wrap ((x : Int) * 1073741824) = ((x * 1073741824 % 4294967296 : Nat) : Int) := by rw [IntKind.wrap_u32]; omega
  have e2 : (x : Int) / 4 = ((x / 4 : Nat) : Int) := rfl
  have ha : x * 1073741824 % 4294967296 < 4294967296 := Nat.mod_lt _ dCz
  have hb : x / 4 < 4294967296 := Nat.lt_of_le_of_lt (Nat.div_le_self _ _) hx
  generalize x * 1073741824 % 4294967296 = a at *
  generalize x / 4 = b at *
  have e3 := u32_or_nat a b ha hb
  have hS := h.drew
  have e0 : bits .and .i64 (-2 : Int) 31 = 30 := by decide
  have e00 : wrap64 (32 - 30 : Int) = 2 := by rw [IntWalk.wrap64_in _ dCz]; rfl
  clear ha hb h
  go_enter Tryz.func177, Tryz.ntmps177
  go_wp2_with fail
  go_region
  go_wp2
  go_ret
  exact ⟨_, rfl, by rw [hf.out]; rfl, hS⟩
theorem right_2_c (x : Nat) (hx : x < 4294967296) (h : Sat w0 w F) : Calls Tryz.prog 127 #[.int .u32 x, .int .i64 2] w (Rtn fun v w' => v = .int .u32 (Sha.rr 2 x : Nat) ∧ Sat w0 w' F) := by
  have e0 : IntKind.i64.wrap (-(2 : Int)) = -2 := by decide
  have ht := turn32_2_c x hx h
  go_enter Tryz.func127, Tryz.ntmps127
  go_wp2_with fail
  refine ht.mono ?_
  rintro ee w1 ⟨v, rfl, rfl, h1⟩
  clear ht
  go_wp2_with fail
  go_ret
  exact ⟨_, rfl, rfl, h1⟩
theorem turn32_6_c (x : Nat) (hx : x < 4294967296) (h : Sat w0 w F) : Calls Tryz.prog 177 #[.int .u32 x, .int .i64 (-6)] w (Rtn fun v w' => v = .int .u32 (Sha.rr 6 x : Nat) ∧ Sat w0 w' F) := by
  have hf := Lib.hid (show Sha.rr 6 x = (x * 67108864 % 4294967296) ||| (x / 64) from rfl)
  have e1 : IntKind.u32.wrap ((x : Int) * 67108864) = ((x * 67108864 % 4294967296 : Nat) : Int) := by rw [IntKind.wrap_u32]; omega
  have e2 : (x : Int) / 64 = ((x / 64 : Nat) : Int) := rfl
  have ha : x * 67108864 % 4294967296 < 4294967296 := Nat.mod_lt _ dCz
  have hb : x / 64 < 4294967296 := Nat.lt_of_le_of_lt (Nat.div_le_self _ _) hx
  generalize x * 67108864 % 4294967296 = a at *
  generalize x / 64 = b at *
  have e3 := u32_or_nat a b ha hb
  have hS := h.drew
  have e0 : bits .and .i64 (-6 : Int) 31 = 26 := by decide
  have e00 : wrap64 (32 - 26 : Int) = 6 := by rw [IntWalk.wrap64_in _ dCz]; rfl
  clear ha hb h
  go_enter Tryz.func177, Tryz.ntmps177
  go_wp2_with fail
  go_region
  go_wp2
  go_ret
  exact ⟨_, rfl, by rw [hf.out]; rfl, hS⟩
theorem right_6_c (x : Nat) (hx : x < 4294967296) (h : Sat w0 w F) : Calls Tryz.prog 127 #[.int .u32 x, .int .i64 6] w (Rtn fun v w' => v = .int .u32 (Sha.rr 6 x : Nat) ∧ Sat w0 w' F) := by
  have e0 : IntKind.i64.wrap (-(6 : Int)) = -6 := by decide
  have ht := turn32_6_c x hx h
  go_enter Tryz.func127, Tryz.ntmps127
  go_wp2_with fail
  refine ht.mono ?_
  rintro ee w1 ⟨v, rfl, rfl, h1⟩
  clear ht
  go_wp2_with fail
  go_ret
  exact ⟨_, rfl, rfl, h1⟩
theorem turn32_7_c (x : Nat) (hx : x < 4294967296) (h : Sat w0 w F) : Calls Tryz.prog 177 #[.int .u32 x, .int .i64 (-7)] w (Rtn fun v w' => v = .int .u32 (Sha.rr 7 x : Nat) ∧ Sat w0 w' F) := by
  have hf := Lib.hid (show Sha.rr 7 x = (x * 33554432 % 4294967296) ||| (x / 128) from rfl)
  have e1 : IntKind.u32.wrap ((x : Int) * 33554432) = ((x * 33554432 % 4294967296 : Nat) : Int) := by rw [IntKind.wrap_u32]; omega
  have e2 : (x : Int) / 128 = ((x / 128 : Nat) : Int) := rfl
  have ha : x * 33554432 % 4294967296 < 4294967296 := Nat.mod_lt _ dCz
  have hb : x / 128 < 4294967296 := Nat.lt_of_le_of_lt (Nat.div_le_self _ _) hx
  generalize x * 33554432 % 4294967296 = a at *
  generalize x / 128 = b at *
  have e3 := u32_or_nat a b ha hb
  have hS := h.drew
  have e0 : bits .and .i64 (-7 : Int) 31 = 25 := by decide
  have e00 : wrap64 (32 - 25 : Int) = 7 := by rw [IntWalk.wrap64_in _ dCz]; rfl
  clear ha hb h
  go_enter Tryz.func177, Tryz.ntmps177
  go_wp2_with fail
  go_region
  go_wp2
  go_ret
  exact ⟨_, rfl, by rw [hf.out]; rfl, hS⟩
theorem right_7_c (x : Nat) (hx : x < 4294967296) (h : Sat w0 w F) : Calls Tryz.prog 127 #[.int .u32 x, .int .i64 7] w (Rtn fun v w' => v = .int .u32 (Sha.rr 7 x : Nat) ∧ Sat w0 w' F) := by
  have e0 : IntKind.i64.wrap (-(7 : Int)) = -7 := by decide
  have ht := turn32_7_c x hx h
  go_enter Tryz.func127, Tryz.ntmps127
  go_wp2_with fail
  refine ht.mono ?_
  rintro ee w1 ⟨v, rfl, rfl, h1⟩
  clear ht
  go_wp2_with fail
  go_ret
  exact ⟨_, rfl, rfl, h1⟩
theorem turn32_11_c (x : Nat) (hx : x < 4294967296) (h : Sat w0 w F) : Calls Tryz.prog 177 #[.int .u32 x, .int .i64 (-11)] w (Rtn fun v w' => v = .int .u32 (Sha.rr 11 x : Nat) ∧ Sat w0 w' F) := by
  have hf := Lib.hid (show Sha.rr 11 x = (x * 2097152 % 4294967296) ||| (x / 2048) from rfl)
  have e1 : IntKind.u32.wrap ((x : Int) * 2097152) = ((x * 2097152 % 4294967296 : Nat) : Int) := by rw [IntKind.wrap_u32]; omega
  have e2 : (x : Int) / 2048 = ((x / 2048 : Nat) : Int) := rfl
  have ha : x * 2097152 % 4294967296 < 4294967296 := Nat.mod_lt _ dCz
  have hb : x / 2048 < 4294967296 := Nat.lt_of_le_of_lt (Nat.div_le_self _ _) hx
  generalize x * 2097152 % 4294967296 = a at *
  generalize x / 2048 = b at *
  have e3 := u32_or_nat a b ha hb
  have hS := h.drew
  have e0 : bits .and .i64 (-11 : Int) 31 = 21 := by decide
  have e00 : wrap64 (32 - 21 : Int) = 11 := by rw [IntWalk.wrap64_in _ dCz]; rfl
  clear ha hb h
  go_enter Tryz.func177, Tryz.ntmps177
  go_wp2_with fail
  go_region
  go_wp2
  go_ret
  exact ⟨_, rfl, by rw [hf.out]; rfl, hS⟩
theorem right_11_c (x : Nat) (hx : x < 4294967296) (h : Sat w0 w F) : Calls Tryz.prog 127 #[.int .u32 x, .int .i64 11] w (Rtn fun v w' => v = .int .u32 (Sha.rr 11 x : Nat) ∧ Sat w0 w' F) := by
  have e0 : IntKind.i64.wrap (-(11 : Int)) = -11 := by decide
  have ht := turn32_11_c x hx h
  go_enter Tryz.func127, Tryz.ntmps127
  go_wp2_with fail
  refine ht.mono ?_
  rintro ee w1 ⟨v, rfl, rfl, h1⟩
  clear ht
  go_wp2_with fail
  go_ret
  exact ⟨_, rfl, rfl, h1⟩
theorem turn32_13_c (x : Nat) (hx : x < 4294967296) (h : Sat w0 w F) : Calls Tryz.prog 177 #[.int .u32 x, .int .i64 (-13)] w (Rtn fun v w' => v = .int .u32 (Sha.rr 13 x : Nat) ∧ Sat w0 w' F) := by
  have hf := Lib.hid (show Sha.rr 13 x = (x * 524288 % 4294967296) ||| (x / 8192) from rfl)
  have e1 : IntKind.u32.wrap ((x : Int) * 524288) = ((x * 524288 % 4294967296 : Nat) : Int) := by rw [IntKind.wrap_u32]; omega
  have e2 : (x : Int) / 8192 = ((x / 8192 : Nat) : Int) := rfl
  have ha : x * 524288 % 4294967296 < 4294967296 := Nat.mod_lt _ dCz
  have hb : x / 8192 < 4294967296 := Nat.lt_of_le_of_lt (Nat.div_le_self _ _) hx
  generalize x * 524288 % 4294967296 = a at *
  generalize x / 8192 = b at *
  have e3 := u32_or_nat a b ha hb
  have hS := h.drew
  have e0 : bits .and .i64 (-13 : Int) 31 = 19 := by decide
  have e00 : wrap64 (32 - 19 : Int) = 13 := by rw [IntWalk.wrap64_in _ dCz]; rfl
  clear ha hb h
  go_enter Tryz.func177, Tryz.ntmps177
  go_wp2_with fail
  go_region
  go_wp2
  go_ret
  exact ⟨_, rfl, by rw [hf.out]; rfl, hS⟩
theorem right_13_c (x : Nat) (hx : x < 4294967296) (h : Sat w0 w F) : Calls Tryz.prog 127 #[.int .u32 x, .int .i64 13] w (Rtn fun v w' => v = .int .u32 (Sha.rr 13 x : Nat) ∧ Sat w0 w' F) := by
  have e0 : IntKind.i64.wrap (-(13 : Int)) = -13 := by decide
  have ht := turn32_13_c x hx h
  go_enter Tryz.func127, Tryz.ntmps127
  go_wp2_with fail
  refine ht.mono ?_
  rintro ee w1 ⟨v, rfl, rfl, h1⟩
  clear ht
  go_wp2_with fail
  go_ret
  exact ⟨_, rfl, rfl, h1⟩
theorem turn32_17_c (x : Nat) (hx : x < 4294967296) (h : Sat w0 w F) : Calls Tryz.prog 177 #[.int .u32 x, .int .i64 (-17)] w (Rtn fun v w' => v = .int .u32 (Sha.rr 17 x : Nat) ∧ Sat w0 w' F) := by
  have hf := Lib.hid (show Sha.rr 17 x = (x * 32768 % 4294967296) ||| (x / 131072) from rfl)
  have e1 : IntKind.u32.wrap ((x : Int) * 32768) = ((x * 32768 % 4294967296 : Nat) : Int) := by rw [IntKind.wrap_u32]; omega
  have e2 : (x : Int) / 131072 = ((x / 131072 : Nat) : Int) := rfl
  have ha : x * 32768 % 4294967296 < 4294967296 := Nat.mod_lt _ dCz
  have hb : x / 131072 < 4294967296 := Nat.lt_of_le_of_lt (Nat.div_le_self _ _) hx
  generalize x * 32768 % 4294967296 = a at *
  generalize x / 131072 = b at *
  have e3 := u32_or_nat a b ha hb
  have hS := h.drew
  have e0 : bits .and .i64 (-17 : Int) 31 = 15 := by decide
  have e00 : wrap64 (32 - 15 : Int) = 17 := by rw [IntWalk.wrap64_in _ dCz]; rfl
  clear ha hb h
  go_enter Tryz.func177, Tryz.ntmps177
  go_wp2_with fail
  go_region
  go_wp2
  go_ret
  exact ⟨_, rfl, by rw [hf.out]; rfl, hS⟩
theorem right_17_c (x : Nat) (hx : x < 4294967296) (h : Sat w0 w F) : Calls Tryz.prog 127 #[.int .u32 x, .int .i64 17] w (Rtn fun v w' => v = .int .u32 (Sha.rr 17 x : Nat) ∧ Sat w0 w' F) := by
  have e0 : IntKind.i64.wrap (-(17 : Int)) = -17 := by decide
  have ht := turn32_17_c x hx h
  go_enter Tryz.func127, Tryz.ntmps127
  go_wp2_with fail
  refine ht.mono ?_
  rintro ee w1 ⟨v, rfl, rfl, h1⟩
  clear ht
  go_wp2_with fail
  go_ret
  exact ⟨_, rfl, rfl, h1⟩
theorem turn32_18_c (x : Nat) (hx : x < 4294967296) (h : Sat w0 w F) : Calls Tryz.prog 177 #[.int .u32 x, .int .i64 (-18)] w (Rtn fun v w' => v = .int .u32 (Sha.rr 18 x : Nat) ∧ Sat w0 w' F) := by
  have hf := Lib.hid (show Sha.rr 18 x = (x * 16384 % 4294967296) ||| (x / 262144) from rfl)
  have e1 : IntKind.u32.wrap ((x : Int) * 16384) = ((x * 16384 % 4294967296 : Nat) : Int) := by rw [IntKind.wrap_u32]; omega
  have e2 : (x : Int) / 262144 = ((x / 262144 : Nat) : Int) := rfl
  have ha : x * 16384 % 4294967296 < 4294967296 := Nat.mod_lt _ dCz
  have hb : x / 262144 < 4294967296 := Nat.lt_of_le_of_lt (Nat.div_le_self _ _) hx
  generalize x * 16384 % 4294967296 = a at *
  generalize x / 262144 = b at *
  have e3 := u32_or_nat a b ha hb
  have hS := h.drew
  have e0 : bits .and .i64 (-18 : Int) 31 = 14 := by decide
  have e00 : wrap64 (32 - 14 : Int) = 18 := by rw [IntWalk.wrap64_in _ dCz]; rfl
  clear ha hb h
  go_enter Tryz.func177, Tryz.ntmps177
  go_wp2_with fail
  go_region
  go_wp2
  go_ret
  exact ⟨_, rfl, by rw [hf.out]; rfl, hS⟩
theorem right_18_c (x : Nat) (hx : x < 4294967296) (h : Sat w0 w F) : Calls Tryz.prog 127 #[.int .u32 x, .int .i64 18] w (Rtn fun v w' => v = .int .u32 (Sha.rr 18 x : Nat) ∧ Sat w0 w' F) := by
  have e0 : IntKind.i64.wrap (-(18 : Int)) = -18 := by decide
  have ht := turn32_18_c x hx h
  go_enter Tryz.func127, Tryz.ntmps127
  go_wp2_with fail
  refine ht.mono ?_
  rintro ee w1 ⟨v, rfl, rfl, h1⟩
  clear ht
  go_wp2_with fail
  go_ret
  exact ⟨_, rfl, rfl, h1⟩
theorem turn32_19_c (x : Nat) (hx : x < 4294967296) (h : Sat w0 w F) : Calls Tryz.prog 177 #[.int .u32 x, .int .i64 (-19)] w (Rtn fun v w' => v = .int .u32 (Sha.rr 19 x : Nat) ∧ Sat w0 w' F) := by
  have hf := Lib.hid (show Sha.rr 19 x = (x * 8192 % 4294967296) ||| (x / 524288) from rfl)
  have e1 : IntKind.u32.wrap ((x : Int) * 8192) = ((x * 8192 % 4294967296 : Nat) : Int) := by rw [IntKind.wrap_u32]; omega
  have e2 : (x : Int) / 524288 = ((x / 524288 : Nat) : Int) := rfl
  have ha : x * 8192 % 4294967296 < 4294967296 := Nat.mod_lt _ dCz
  have hb : x / 524288 < 4294967296 := Nat.lt_of_le_of_lt (Nat.div_le_self _ _) hx
  generalize x * 8192 % 4294967296 = a at *
  generalize x / 524288 = b at *
  have e3 := u32_or_nat a b ha hb
  have hS := h.drew
  have e0 : bits .and .i64 (-19 : Int) 31 = 13 := by decide
  have e00 : wrap64 (32 - 13 : Int) = 19 := by rw [IntWalk.wrap64_in _ dCz]; rfl
  clear ha hb h
  go_enter Tryz.func177, Tryz.ntmps177
  go_wp2_with fail
  go_region
  go_wp2
  go_ret
  exact ⟨_, rfl, by rw [hf.out]; rfl, hS⟩
theorem right_19_c (x : Nat) (hx : x < 4294967296) (h : Sat w0 w F) : Calls Tryz.prog 127 #[.int .u32 x, .int .i64 19] w (Rtn fun v w' => v = .int .u32 (Sha.rr 19 x : Nat) ∧ Sat w0 w' F) := by
  have e0 : IntKind.i64.wrap (-(19 : Int)) = -19 := by decide
  have ht := turn32_19_c x hx h
  go_enter Tryz.func127, Tryz.ntmps127
  go_wp2_with fail
  refine ht.mono ?_
  rintro ee w1 ⟨v, rfl, rfl, h1⟩
  clear ht
  go_wp2_with fail
  go_ret
  exact ⟨_, rfl, rfl, h1⟩
theorem turn32_22_c (x : Nat) (hx : x < 4294967296) (h : Sat w0 w F) : Calls Tryz.prog 177 #[.int .u32 x, .int .i64 (-22)] w (Rtn fun v w' => v = .int .u32 (Sha.rr 22 x : Nat) ∧ Sat w0 w' F) := by
  have hf := Lib.hid (show Sha.rr 22 x = (x * 1024 % 4294967296) ||| (x / 4194304) from rfl)
  have e1 : IntKind.u32.wrap ((x : Int) * 1024) = ((x * 1024 % 4294967296 : Nat) : Int) := by rw [IntKind.wrap_u32]; omega
  have e2 : (x : Int) / 4194304 = ((x / 4194304 : Nat) : Int) := rfl
  have ha : x * 1024 % 4294967296 < 4294967296 := Nat.mod_lt _ dCz
  have hb : x / 4194304 < 4294967296 := Nat.lt_of_le_of_lt (Nat.div_le_self _ _) hx
  generalize x * 1024 % 4294967296 = a at *
  generalize x / 4194304 = b at *
  have e3 := u32_or_nat a b ha hb
  have hS := h.drew
  have e0 : bits .and .i64 (-22 : Int) 31 = 10 := by decide
  have e00 : wrap64 (32 - 10 : Int) = 22 := by rw [IntWalk.wrap64_in _ dCz]; rfl
  clear ha hb h
  go_enter Tryz.func177, Tryz.ntmps177
  go_wp2_with fail
  go_region
  go_wp2
  go_ret
  exact ⟨_, rfl, by rw [hf.out]; rfl, hS⟩
theorem right_22_c (x : Nat) (hx : x < 4294967296) (h : Sat w0 w F) : Calls Tryz.prog 127 #[.int .u32 x, .int .i64 22] w (Rtn fun v w' => v = .int .u32 (Sha.rr 22 x : Nat) ∧ Sat w0 w' F) := by
  have e0 : IntKind.i64.wrap (-(22 : Int)) = -22 := by decide
  have ht := turn32_22_c x hx h
  go_enter Tryz.func127, Tryz.ntmps127
  go_wp2_with fail
  refine ht.mono ?_
  rintro ee w1 ⟨v, rfl, rfl, h1⟩
  clear ht
  go_wp2_with fail
  go_ret
  exact ⟨_, rfl, rfl, h1⟩
theorem turn32_25_c (x : Nat) (hx : x < 4294967296) (h : Sat w0 w F) : Calls Tryz.prog 177 #[.int .u32 x, .int .i64 (-25)] w (Rtn fun v w' => v = .int .u32 (Sha.rr 25 x : Nat) ∧ Sat w0 w' F) := by
  have hf := Lib.hid (show Sha.rr 25 x = (x * 128 % 4294967296) ||| (x / 33554432) from rfl)
  have e1 : IntKind.u32.wrap ((x : Int) * 128) = ((x * 128 % 4294967296 : Nat) : Int) := by rw [IntKind.wrap_u32]; omega
  have e2 : (x : Int) / 33554432 = ((x / 33554432 : Nat) : Int) := rfl
  have ha : x * 128 % 4294967296 < 4294967296 := Nat.mod_lt _ dCz
  have hb : x / 33554432 < 4294967296 := Nat.lt_of_le_of_lt (Nat.div_le_self _ _) hx
  generalize x * 128 % 4294967296 = a at *
  generalize x / 33554432 = b at *
  have e3 := u32_or_nat a b ha hb
  have hS := h.drew
  have e0 : bits .and .i64 (-25 : Int) 31 = 7 := by decide
  have e00 : wrap64 (32 - 7 : Int) = 25 := by rw [IntWalk.wrap64_in _ dCz]; rfl
  clear ha hb h
  go_enter Tryz.func177, Tryz.ntmps177
  go_wp2_with fail
  go_region
  go_wp2
  go_ret
  exact ⟨_, rfl, by rw [hf.out]; rfl, hS⟩
theorem right_25_c (x : Nat) (hx : x < 4294967296) (h : Sat w0 w F) : Calls Tryz.prog 127 #[.int .u32 x, .int .i64 25] w (Rtn fun v w' => v = .int .u32 (Sha.rr 25 x : Nat) ∧ Sat w0 w' F) := by
  have e0 : IntKind.i64.wrap (-(25 : Int)) = -25 := by decide
  have ht := turn32_25_c x hx h
  go_enter Tryz.func127, Tryz.ntmps127
  go_wp2_with fail
  refine ht.mono ?_
  rintro ee w1 ⟨v, rfl, rfl, h1⟩
  clear ht
  go_wp2_with fail
  go_ret
  exact ⟨_, rfl, rfl, h1⟩
end
end Go.Proofs.YtopconiamijknaaGreatDoor
namespace Go.Sha
theorem big_lt : ∀ (b : Bs), big b < 256 ^ b.length := by
  have h : ∀ (b : Bs) (x : Nat), b.foldl (fun x c => x * 256 + c.toNat) x < (x + 1) * 256 ^ b.length := by
    intro b
    induction b with
    | nil => intro x; simp
    | cons c b ih =>
      intro x
      have h1 := ih (x * 256 + c.toNat)
      have h2 := c.toNat_lt
      rw [List.foldl_cons, List.length_cons, Nat.pow_succ, Nat.mul_comm (256 ^ b.length), ← Nat.mul_assoc]
      refine Nat.lt_of_lt_of_le h1 (Nat.mul_le_mul_right _ ?_)
      omega
  intro b
  have := h b 0
  rwa [Nat.zero_add, Nat.one_mul] at this
theorem big_snoc (b : Bs) (c : UInt8) : big (b ++ [c]) = big b * 256 + c.toNat := by unfold big; rw [List.foldl_append]; rfl
theorem more_snoc : ∀ (n : Nat) (l : List Nat), more (n + 1) l = more n l ++ [next (more n l)]
  | 0, l => rfl
  | n + 1, l => by
    have := more_snoc n (l ++ [next l])
    rw [more, this]; rfl
theorem first_len (b : Bs) : (first b).length = 16 := by unfold first; rw [List.length_map, List.length_range']
theorem more_len : ∀ (n : Nat) (l : List Nat), (more n l).length = l.length + n
  | 0, l => rfl
  | n + 1, l => by rw [more_snoc, List.length_append, more_len n l]; rfl
theorem sched_len (b : Bs) : (sched b).length = 64 := by unfold sched; rw [more_len, first_len]
def AllW (l : List Nat) : Prop := ∀ x ∈ l, x < 4294967296
theorem at_lt {l : List Nat} (h : AllW l) (i : Nat) : at_ l i < 4294967296 := by
  unfold at_
  rw [List.getD_eq_getElem?_getD]
  cases hi : l[i]? with
  | none => decide
  | some x => exact h x (List.mem_of_getElem? hi)
theorem first_all (b : Bs) : AllW (first b) := fun x hx => by
  unfold first at hx
  obtain ⟨i, _, rfl⟩ := List.mem_map.1 hx
  have h1 := big_lt ((b.drop (4 * i)).take 4)
  have h2 : ((b.drop (4 * i)).take 4).length ≤ 4 := by rw [List.length_take]; omega
  exact Nat.lt_of_lt_of_le h1 (Nat.pow_le_pow_right dCz h2)
theorem more_all : ∀ (n : Nat) (l : List Nat), AllW l → AllW (more n l)
  | 0, l, h => h
  | n + 1, l, h => more_all n _ fun x hx => by
    rcases List.mem_append.1 hx with hx | hx
    · exact h x hx
    · rw [List.mem_singleton.1 hx]; exact Nat.mod_lt _ dCz
theorem sched_all (b : Bs) : AllW (sched b) := more_all _ _ (first_all b)
theorem g0_lt {x : Nat} (h : x < 4294967296) : g0 x < 4294967296 := xor_lt (xor_lt (rr_lt 7 h) (rr_lt 18 h)) (Nat.lt_of_le_of_lt (Nat.div_le_self _ _) h)
theorem g1_lt {x : Nat} (h : x < 4294967296) : g1 x < 4294967296 := xor_lt (xor_lt (rr_lt 17 h) (rr_lt 19 h)) (Nat.lt_of_le_of_lt (Nat.div_le_self _ _) h)
end Go.Sha
namespace Go.Proofs.YtopconiamijknaaGreatDoor
open Go Go.Sl Go.Med Go.MapKept Go.RowKit
section
variable {w0 w : World} {F : List HProp} {a : Option Addr} {n c k : Nat} {b : Bs}
theorem run_slLH {l h : Nat} (h1 : l ≤ h) (h2 : h ≤ c) (w : World) : (Instr.sliceAt 47 (.slice a n c) (some (.int .i64 l)) (some (.int .i64 h)) none).run Tryz.prog w = .ok (sliced a l h c 1) w := by
  rw [run_sliceAt_slice _ _ _ _ _ _ undU8, run_slice_lh _ _ _ _ _ undU8 .i64 .i64 (l : Int) (h : Int) (by omega) (by omega) (by omega), elemU8, sizeU8]
  simp [Result.andThen]
theorem RS.mid {l h : Nat} (hr : RS w0 F (.slice a b.length c) b) (h1 : l ≤ h) (h2 : h ≤ b.length) : RS w0 F (sliced a l h c 1) ((b.drop l).take (h - l)) := by
  obtain ⟨a', n', c', he, q1, q2⟩ := hr.cap
  cases he
  refine ⟨fun w hw => ?_, ⟨_, _, _, rfl, by omega, by omega⟩⟩
  refine ⟨_, _, _, rfl, by rw [bys_len, List.length_take, List.length_drop, Nat.mul_one]; omega, fun j y hj => ?_⟩
  obtain ⟨u, hu, rfl⟩ := bys_get.1 hj
  rw [List.getElem?_take] at hu
  split at hu
  · rename_i hjk
    rw [List.getElem?_drop] at hu
    obtain ⟨bk, off, rfl, hc⟩ := rdsl_cells (hr.rd w hw) (bys_get.2 ⟨u, hu, rfl⟩)
    rw [if_neg (by omega)]
    refine ⟨_, rfl, ?_⟩
    have := hc (l + j) _ (bys_get.2 ⟨u, hu, rfl⟩)
    show w.cell? (((⟨bk, off, none⟩ : Addr).add (l * 1)).add j) = _
    rw [Addr.add_mid, Addr.add_mid, Nat.mul_one, Nat.add_assoc]; exact this
  · cases hu
def w32 (l : List Nat) : List Value := l.map fun x : Nat => Value.int .u32 (x : Int)
theorem w32_len (l : List Nat) : (w32 l).length = l.length := List.length_map ..
def arr64 (l : List Nat) : Array Value := (w32 l ++ List.replicate (64 - l.length) (Value.int .u32 0)).toArray
theorem arr64_size {l : List Nat} (h : l.length ≤ 64) : (arr64 l).size = 64 := by unfold arr64; rw [List.size_toArray, List.length_append, w32_len, List.length_replicate]; omega
theorem arr64_at {l : List Nat} {i : Nat} (h : i < l.length) : (arr64 l)[i]? = some (.int .u32 (Sha.at_ l i : Nat)) := by
  unfold arr64 w32 Sha.at_
  rw [List.getElem?_toArray, List.getElem?_append_left (by rw [List.length_map]; exact h), List.getElem?_map, List.getD_eq_getElem?_getD, List.getElem?_eq_getElem h]
  rfl
theorem arr64_put {l : List Nat} {x : Nat} (h : l.length < 64) : putsAt (arr64 l) l.length [.int .u32 (x : Int)] = arr64 (l ++ [x]) := by
  have hs := arr64_size (Nat.le_of_lt h)
  apply putsAt_eq
  rw [putsAt_list _ _ _ (by rw [hs, List.length_singleton]; omega)]
  unfold arr64 w32
  dsimp only
  rw [List.take_left' (by rw [List.length_map]), List.map_append, List.drop_append, List.drop_of_length_le (by rw [List.length_map]; simp), List.nil_append, List.length_map, List.length_append, List.length_singleton, List.drop_replicate]
  simp only [List.map_cons, List.map_nil, List.length_singleton, List.append_assoc]
  congr 3
  omega
theorem arr64_put' {l : List Nat} {x m : Nat} (hm : l.length = m) (h : m < 64) : putsAt (arr64 l) m [.int .u32 (x : Int)] = arr64 (l ++ [x]) := by subst hm; exact arr64_put h
theorem arr64_ones (l : List Nat) : (arr64 l).toList.all (·.oneCell') = true := by
  unfold arr64 w32
  rw [List.toList_toArray, List.all_append, List.all_map, Bool.and_eq_true]
  refine ⟨List.all_eq_true.2 fun _ _ => rfl, List.all_eq_true.2 fun x hx => ?_⟩
  rw [List.eq_of_mem_replicate hx]; rfl
theorem zArr64 : zeroB Tryz.prog 224 = some (.agg (arr64 [])) := by kernel_rfl
theorem infoArr64 : (Tryz.prog.info? 224).map (·.size) = some 64 := by kernel_rfl
theorem or256 (x cb : Nat) (h : cb < 256) (hx : x < 16777216) : bits .or .u64 ((x * 256 : Nat) : Int) (cb : Int) = ((x * 256 + cb : Nat) : Int) := by
  rw [u64_or_nat _ _ (by omega) (by omega)]
  have := Nat.two_pow_add_eq_or_of_lt (i := 8) (b := cb) h x
  rw [Nat.mul_comm] at this
  rw [show (256 : Nat) = 2 ^ 8 from rfl, ← this]
theorem getbig4_c (l : Bs) (hl : l.length = 4) (hr : RS w0 F (.slice a 4 c) l) (h : Sat w0 w F) :
    Calls Tryz.prog 176 #[.slice a 4 c] w (Rtn fun v w' => v = .tuple #[.int .u64 (Sha.big l : Nat), .bool true] ∧ w = w') := by
  have Hr := Lib.hid (hr.rd w h); have Hl := Lib.hid hl
  clear hr hl
  go_enter Tryz.func176, Tryz.ntmps176
  go_wp2_with fail
  go_loopg [4, 17] 4 (fun g xv iq wr => ∃ i : Nat, g = 4 - i ∧ i ≤ 4 ∧ xv = .int .u64 (Sha.big (l.take i) : Nat) ∧ iq = .int .i64 i ∧ wr = w)
  case atStart => exact ⟨0, rfl, Nat.zero_le _, rfl, rfl, rfl⟩
  case round =>
    obtain ⟨i, rfl, hi, rfl, rfl, rfl⟩ := hrel
    by_cases hil : i < 4
    rotate_left
    focus
      obtain rfl : i = 4 := by omega
      have e : l.take 4 = l := List.take_of_length_le (by rw [Hl.out]; exact Nat.le_refl 4)
      rw [e]
      go_wp2_with fail
      go_ret2
      exact ⟨_, rfl, rfl, rfl⟩
    have hll : i < l.length := by rw [Hl.out]; exact hil
    have hb : (bys l)[i]? = some (.int .u8 (l[i]'hll).toNat) := by unfold bys; simp [hll]
    obtain ⟨bk, off, rfl, c1⟩ := rdsl_cell Hr.out hb
    have Hn := Lib.hid (show Sha.big (l.take (i + 1)) = Sha.big (l.take i) * 256 + (l[i]'hll).toNat by rw [List.take_succ_eq_append_getElem hll, Sha.big_snoc])
    have hcb := (l[i]'hll).toNat_lt
    have hx : Sha.big (l.take i) < 16777216 := by
      have h1 := Sha.big_lt (l.take i)
      have h2 : (l.take i).length ≤ 3 := by rw [List.length_take]; omega
      exact Nat.lt_of_lt_of_le h1 (Nat.pow_le_pow_right dCz h2)
    generalize (l[i]'hll).toNat = cb at *
    generalize Sha.big (l.take i) = x at *
    obtain ⟨y, hy⟩ : ∃ y, x * 256 = y := ⟨_, rfl⟩
    obtain ⟨z, hz⟩ : ∃ z, y + cb = z := ⟨_, rfl⟩
    have e1 : IntKind.u64.wrap ((x : Int) * 256) = (y : Int) := by rw [IntKind.wrap_u64]; omega
    have e2 := or256 x cb hcb hx
    rw [hy, hz] at e2
    rw [hy, hz] at Hn
    have e3 : IntKind.u64.wrap (cb : Int) = (cb : Int) := by rw [IntKind.wrap_u64]; omega
    have e4 : (cb : Int) % 18446744073709551616 = (cb : Int) := by omega
    have hic : (i : Int) < 4 := by omega
    have hwi : IntKind.i64.wrap ((i : Int) + 1) = (i : Int) + 1 := IntWalk.i64_in _ (by omega)
    have Hil := Lib.hid hil
    clear hb hcb hx hil hi hll hy hz
    go_wp2_with fail
    go_roundg (4 - (i + 1))
    case measure => have := Hil.out; omega
    case rel => exact ⟨i + 1, rfl, Nat.succ_le_of_lt Hil.out, by rw [Hn.out], by first | rfl | go_num, rfl⟩
theorem wrapU (x : Nat) : IntKind.u32.wrap (x : Int) = ((x % 4294967296 : Nat) : Int) := by rw [IntKind.wrap_u32]; rfl
theorem addU (x c : Nat) : IntKind.u32.wrap ((x : Int) + (c : Int)) = (((x + c) % 4294967296 : Nat) : Int) := by rw [← Int.natCast_add, wrapU]
theorem g0_ex {x : Nat} (hx : x < 4294967296) : ∃ a b d u : Nat, Sha.rr 7 x = a ∧ Sha.rr 18 x = b ∧ bits .xor .u32 (a : Int) (b : Int) = (d : Int) ∧ bits .xor .u32 (d : Int) ((x : Int) / 8) = (u : Int) ∧ Sha.g0 x = u ∧ u < 4294967296 :=
  ⟨_, _, Sha.rr 7 x ^^^ Sha.rr 18 x, _, rfl, rfl, u32_xor_nat _ _ (Sha.rr_lt 7 hx) (Sha.rr_lt 18 hx), u32_xor_nat _ (x / 8) (Sha.xor_lt (Sha.rr_lt 7 hx) (Sha.rr_lt 18 hx)) (Nat.lt_of_le_of_lt (Nat.div_le_self _ _) hx), rfl, Sha.g0_lt hx⟩
theorem g1_ex {x : Nat} (hx : x < 4294967296) : ∃ a b d u : Nat, Sha.rr 17 x = a ∧ Sha.rr 19 x = b ∧ bits .xor .u32 (a : Int) (b : Int) = (d : Int) ∧ bits .xor .u32 (d : Int) ((x : Int) / 1024) = (u : Int) ∧ Sha.g1 x = u ∧ u < 4294967296 :=
  ⟨_, _, Sha.rr 17 x ^^^ Sha.rr 19 x, _, rfl, rfl, u32_xor_nat _ _ (Sha.rr_lt 17 hx) (Sha.rr_lt 19 hx), u32_xor_nat _ (x / 1024) (Sha.xor_lt (Sha.rr_lt 17 hx) (Sha.rr_lt 19 hx)) (Nat.lt_of_le_of_lt (Nat.div_le_self _ _) hx), rfl, Sha.g1_lt hx⟩
theorem nx_ex (x u y v : Nat) : ∃ s1 s2 s3 : Nat, IntKind.u32.wrap ((x : Int) + (u : Int)) = (s1 : Int) ∧ IntKind.u32.wrap ((s1 : Int) + (y : Int)) = (s2 : Int) ∧ IntKind.u32.wrap ((s2 : Int) + (v : Int)) = (s3 : Int) ∧ (((x + u) % 4294967296 + y) % 4294967296 + v) % 4294967296 = s3 :=
  ⟨_, _, _, addU _ _, addU _ _, addU _ _, rfl⟩
set_option maxRecDepth 20000 in
theorem schedule_c (hb : b.length = 64) (hr : RS w0 F (.slice a 64 c) b) (h : Sat w0 w F) :
    Calls Tryz.prog 126 #[.slice a 64 c] w (Rtn fun v w' => v = .agg (arr64 (Sha.sched b)) ∧ Sat w0 w' F) := by
  have Hr := Lib.hid hr; have Hb := Lib.hid hb
  obtain ⟨_, _, _, hce, hc1, hc2⟩ := hr.cap
  cases hce
  have Hc := Lib.hid (And.intro hc1 hc2)
  clear hr hb hc1 hc2
  go_enter Tryz.func126, Tryz.ntmps126
  go_wp2_with (with_reducible apply at_alloc)
  refine ⟨?_⟩
  refine wl_alloc zArr64 h rfl ?_
  intro b2 w2 h2
  clear h
  go_wp2_with (with_reducible apply at_alloc)
  refine ⟨?_⟩
  refine wl_alloc zArr64 h2 rfl ?_
  intro b3 w3 h3
  clear h2
  go_wp2_with fail
  go_loopg [12] 16 (fun g iq wr => ∃ i : Nat, g = 16 - i ∧ i ≤ 16 ∧ iq = .int .i64 i ∧ Sat w0 wr (pt b3 (.cells (arr64 ((Sha.first b).take i)) 224 (0,0)) :: pt b2 (.cells (arr64 []) 224 (0,0)) :: F))
  case atStart => exact ⟨0, rfl, Nat.zero_le _, rfl, h3⟩
  case round =>
    obtain ⟨i, rfl, hi, rfl, hS⟩ := hrel
    clear h3
    by_cases hil : i < 16
    rotate_left
    focus
      obtain rfl : i = 16 := by omega
      have e : (Sha.first b).take 16 = Sha.first b := List.take_of_length_le (by rw [Sha.first_len]; exact Nat.le_refl 16)
      rw [e] at hS
      clear hi hil e
      go_wp2_with fail
      go_loopg [7] 48 (fun g iq wr => ∃ i : Nat, g = 48 - i ∧ i ≤ 48 ∧ iq = .int .i64 ((16 + i : Nat) : Int) ∧ Sat w0 wr (pt b3 (.cells (arr64 (Sha.more i (Sha.first b))) 224 (0,0)) :: pt b2 (.cells (arr64 []) 224 (0,0)) :: F))
      case atStart => exact ⟨0, rfl, Nat.zero_le _, rfl, hS⟩
      case round =>
        obtain ⟨j, rfl, hj, rfl, hT⟩ := hrel
        clear hS
        by_cases hjl : j < 48
        rotate_left
        focus
          obtain rfl : j = 48 := by omega
          have hT : Sat w0 _ (pt b3 (.cells (arr64 (Sha.sched b)) 224 (0,0)) :: pt b2 (.cells (arr64 []) 224 (0,0)) :: F) := hT
          have Hsz := Lib.hid (arr64_size (l := Sha.sched b) (by rw [Sha.sched_len]; exact Nat.le_refl _))
          have Hon := Lib.hid (arr64_ones (Sha.sched b))
          obtain ⟨A, hA⟩ : ∃ A, arr64 (Sha.sched b) = A := ⟨_, rfl⟩
          rw [hA] at hT Hsz Hon
          have HA := Lib.hid hA
          clear hj hjl hA
          go_wp2_with (first
            | ((with_reducible apply at_load); refine ⟨?_⟩; refine wl_loadA (cs := A) hT rFz pick0 Tryz.underlying224 rfl (by rw [Hsz.out]; exact infoArr64) ?_)
            | (with_reducible apply at_store))
          refine ⟨?_⟩
          refine wl_storeA A (hT.sb : Sat w0 _ (pt b2 (.cells (arr64 []) 224 (0,0)) :: F)) rFz rFz (Hsz.out.trans (arr64_size (l := []) dCz).symm) upd0 (by rw [Hsz.out]; exact infoArr64) Hon.out ?_
          intro w9 h9
          go_wp2_with fail
          have hinf : (Tryz.prog.info? 224).map (·.size) = some A.size := by rw [Hsz.out]; exact infoArr64
          have hrc := fun tmps hp => res_cell (tmps := tmps) (fn := Tryz.f126) rfl h9 hp pick0 Tryz.underlying224 rfl hinf
          refine ⟨rfl, _, hrc _ rFz, _, rfl, ?_, h9.drop⟩
          rw [HA.out]
        obtain ⟨l, hl⟩ : ∃ l, Sha.more j (Sha.first b) = l := ⟨_, rfl⟩
        have hll : l.length = 16 + j := by rw [← hl, Sha.more_len, Sha.first_len]
        have hal : Sha.AllW l := by rw [← hl]; exact Sha.more_all _ _ (Sha.first_all b)
        have Hnx := Lib.hid (show Sha.more (j + 1) (Sha.first b) = l ++ [Sha.next l] by rw [Sha.more_snoc, hl])
        rw [hl] at hT
        obtain ⟨m, hm⟩ : ∃ m, 16 + j = m := ⟨_, rfl⟩
        rw [hm]
        rw [hm] at hll
        obtain ⟨p15, h15⟩ : ∃ p, m - 15 = p := ⟨_, rfl⟩
        obtain ⟨p2, h2⟩ : ∃ p, m - 2 = p := ⟨_, rfl⟩
        obtain ⟨p16, h16⟩ : ∃ p, m - 16 = p := ⟨_, rfl⟩
        obtain ⟨p7, h7⟩ : ∃ p, m - 7 = p := ⟨_, rfl⟩
        have hmm : 16 ≤ m ∧ m < 64 := by omega
        have hnx : Sha.next l = (((Sha.at_ l p16 + Sha.g0 (Sha.at_ l p15)) % 4294967296 + Sha.at_ l p7) % 4294967296 + Sha.g1 (Sha.at_ l p2)) % 4294967296 := by
          unfold Sha.next
          rw [hll, h15, h2, h16, h7]
        have g15 := arr64_at (l := l) (i := p15) (by omega)
        have g2 := arr64_at (l := l) (i := p2) (by omega)
        have g16 := arr64_at (l := l) (i := p16) (by omega)
        have g7 := arr64_at (l := l) (i := p7) (by omega)
        have l15 := Sha.at_lt hal p15
        have l2 := Sha.at_lt hal p2
        have l16 := Sha.at_lt hal p16
        have l7 := Sha.at_lt hal p7
        generalize Sha.at_ l p15 = x15 at *
        generalize Sha.at_ l p2 = x2 at *
        generalize Sha.at_ l p16 = x16 at *
        generalize Sha.at_ l p7 = x7 at *
        have hput := arr64_put' (l := l) (x := Sha.next l) hll hmm.2
        have Hsz := Lib.hid (arr64_size (l := l) (by omega))
        have c1 : (m : Int) < 64 := by omega
        have i15 : IntKind.i64.wrap ((m : Int) - 15) = (p15 : Int) := by rw [IntWalk.i64_in _ (by omega)]; omega
        have i2 : IntKind.i64.wrap ((m : Int) - 2) = (p2 : Int) := by rw [IntWalk.i64_in _ (by omega)]; omega
        have i16 : IntKind.i64.wrap ((m : Int) - 16) = (p16 : Int) := by rw [IntWalk.i64_in _ (by omega)]; omega
        have i7 : IntKind.i64.wrap ((m : Int) - 7) = (p7 : Int) := by rw [IntWalk.i64_in _ (by omega)]; omega
        have im : IntKind.i64.wrap ((m : Int) + 1) = ((m + 1 : Nat) : Int) := by rw [IntWalk.i64_in _ (by omega)]; omega
        have b15 : (p15 : Int) < 64 := by omega
        have b2' : (p2 : Int) < 64 := by omega
        have b16 : (p16 : Int) < 64 := by omega
        have b7 : (p7 : Int) < 64 := by omega
        have Hi := Lib.hid (And.intro i16 (And.intro i7 (And.intro b16 b7)))
        have Hm := Lib.hid (And.intro hm hjl); have Hmm := Lib.hid hmm
        have hT2 := hT.drew
        have e15 : World.cell? _ ⟨b3, p15, none⟩ = some (.int .u32 (x15 : Int)) := hT2.cellP pick0 p15 g15
        have e2 : World.cell? _ ⟨b3, p2, none⟩ = some (.int .u32 (x2 : Int)) := hT2.cellP pick0 p2 g2
        have Hg := Lib.hid (And.intro g16 g7)
        have Hput := Lib.hid hput; have Hnxt := Lib.hid hnx
        have Hl := Lib.hid (And.intro l15 (And.intro l2 (And.intro l16 l7)))
        clear hT hl hll hal hm h15 h2 h16 h7 hmm hnx g15 g2 g16 g7 l15 l2 l16 l7 hput hj hjl i16 i7 b16 b7
        go_wp2_with fail
        go_region
        clear e15 e2 i15 i2 b15 b2'
        obtain ⟨ra, rb, rd, u0, ha, hb, hd, hu, hg0, hu0⟩ := g0_ex Hl.out.1
        have hr := right_7_c x15 Hl.out.1 hT2
        rw [ha] at hr
        go_wp2_with fail
        refine hr.mono ?_
        rintro ee w4 ⟨v, rfl, rfl, h4⟩
        clear hr hT2
        have hr := right_18_c x15 Hl.out.1 h4
        rw [hb] at hr
        go_wp2_with fail
        refine hr.mono ?_
        rintro ee w5 ⟨v, rfl, rfl, h5⟩
        clear hr h4
        go_wp2_with fail
        clear ha hb hd hu
        obtain ⟨sa, sb, sd, u1, ha, hb, hd, hu, hg1, hu1⟩ := g1_ex Hl.out.2.1
        have hr := right_17_c x2 Hl.out.2.1 h5
        rw [ha] at hr
        refine hr.mono ?_
        rintro ee w6 ⟨v, rfl, rfl, h6⟩
        clear hr h5
        have hr := right_19_c x2 Hl.out.2.1 h6
        rw [hb] at hr
        go_wp2_with fail
        refine hr.mono ?_
        rintro ee w7 ⟨v, rfl, rfl, h7⟩
        clear hr h6
        go_wp2_with fail
        clear ha hb hd hu
        obtain ⟨s1, s2, s3, k1, k2, k3, k4⟩ := nx_ex x16 u0 x7 u1
        have hnx2 : Sha.next l = s3 := by rw [Hnxt.out, hg0, hg1, k4]
        have hpt := Hput.out
        rw [hnx2] at hpt Hnx
        have h8 := h7.drew
        obtain ⟨i16, i7, b16, b7⟩ := Hi.out
        have hG : World.cell? _ ⟨b3, p16, none⟩ = some (.int .u32 (x16 : Int)) ∧ World.cell? _ ⟨b3, p7, none⟩ = some (.int .u32 (x7 : Int)) := ⟨h8.cellP pick0 p16 Hg.out.1, h8.cellP pick0 p7 Hg.out.2⟩
        clear h7
        refine wpL_begin [11, 13, 14, 15] (fun w' => w'.cell? ⟨b3, p16, none⟩ = some (.int .u32 (x16 : Int)) ∧ w'.cell? ⟨b3, p7, none⟩ = some (.int .u32 (x7 : Int))) kRz ?_
        refine rp 0 (hy := (yl_move evD)) (h := ?_)
        refine rp 1 (hy := (yl_move evD)) (h := ?_)
        refine rp 2 (hy := (yl_bin evD evD rnD)) (h := ?_)
        refine rp 3 (hy := (yl_index evD evD rnD)) (h := ?_)
        refine rt 4 (h := ?_)
        refine rp 5 (hy := (yl_move evD)) (h := ?_)
        refine rp 6 (hy := (yl_bin evD evD rnD)) (h := ?_)
        refine rp 7 (hy := (yl_move evD)) (h := ?_)
        refine rp 8 (hy := (yl_bin evD evD rnD)) (h := ?_)
        refine rp 9 (hy := (yl_index evD evD rnD)) (h := ?_)
        refine rt 10 (h := ?_)
        clear hG
        refine rp 11 (hy := (yl_bin evD evD rnD)) (h := ?_)
        refine rp 12 (hy := (yl_move evD)) (h := ?_)
        refine rp 13 (hy := (yl_bin evD evD rnD)) (h := ?_)
        refine rp 14 (hy := (yl_index evD evD rnD)) (h := ?_)
        refine rg_eff 15 evD kRz (fun K hK => ?_)
        refine eff_store (cs' := arr64 (l ++ [s3])) h8 evD evD hpt upd0 (by rw [Hsz.out]; exact Nat.succ_le_of_lt Hmm.out.2) kRz rFz ?_
        intro w9 h9
        refine hK _ _ (.inl rfl) ?_
        clear hK h8
        refine wpL_done kRz ?_
        go_wp2_with fail
        go_roundg (48 - (j + 1))
        case measure => have := Hm.out; omega
        case rel => exact ⟨j + 1, rfl, Nat.succ_le_of_lt Hm.out.2, by rw [← Nat.add_assoc, Hm.out.1]; first | rfl | go_num, by rw [Hnx.out]; exact h9⟩
    have hc4 : 4 * i + 4 ≤ c := by have := Hc.out.1; omega
    obtain ⟨lo, hlo⟩ : ∃ lo, 4 * i = lo := ⟨_, rfl⟩
    have e1 : IntKind.i64.wrap (4 * (i : Int)) = (lo : Int) := by rw [IntWalk.i64_in _ (by omega)]; omega
    obtain ⟨hi4, hh⟩ : ∃ hh, lo + 4 = hh := ⟨_, rfl⟩
    have e2 : IntKind.i64.wrap ((lo : Int) + 4) = (hi4 : Int) := by rw [IntWalk.i64_in _ (by omega)]; omega
    have hsl := fun w => run_slLH (a := a) (n := 64) (c := c) (l := lo) (h := hi4) (by omega) (by omega) w
    have hrm : RS w0 (pt b3 (.cells (arr64 ((Sha.first b).take i)) 224 (0,0)) :: pt b2 (.cells (arr64 []) 224 (0,0)) :: F) (sliced a lo hi4 c 1) ((b.drop lo).take 4) := by
      have h1 := (RS.mid (b := b) (a := a) (c := c) (l := lo) (h := hi4) (by rw [Hb.out]; exact Hr.out) (by omega) (by rw [Hb.out]; omega)).more (G := pt b3 (.cells (arr64 ((Sha.first b).take i)) 224 (0,0)) :: pt b2 (.cells (arr64 []) 224 (0,0)) :: F) sbD
      rw [show hi4 - lo = 4 by omega] at h1
      exact h1
    obtain ⟨sa, sc, hsd⟩ : ∃ sa sc, sliced a lo hi4 c 1 = .slice sa 4 sc := ⟨_, _, by unfold sliced; rw [show hi4 - lo = 4 by omega]⟩
    rw [hsd] at hrm
    have hsl : ∀ w, (Instr.sliceAt 47 (.slice a 64 c) (some (.int .i64 lo)) (some (.int .i64 hi4)) none).run Tryz.prog w = .ok (.slice sa 4 sc) w := fun w => by rw [hsl w, hsd]
    have hgb := getbig4_c ((b.drop lo).take 4) (by rw [List.length_take, List.length_drop, Hb.out]; omega) hrm hS
    have hfl : ((Sha.first b).take i).length = i := by rw [List.length_take, Sha.first_len]; omega
    have hft : (Sha.first b).take (i + 1) = (Sha.first b).take i ++ [Sha.big ((b.drop lo).take 4)] := by
      rw [List.take_add_one]
      unfold Sha.first
      rw [List.getElem?_map, List.getElem?_range' hil, Option.map_some, Option.toList_some, Nat.one_mul, Nat.zero_add, hlo]
    have hbg : Sha.big ((b.drop lo).take 4) < 4294967296 := by
      have h1 := Sha.big_lt ((b.drop lo).take 4)
      have h2 : ((b.drop lo).take 4).length ≤ 4 := by rw [List.length_take]; omega
      exact Nat.lt_of_lt_of_le h1 (Nat.pow_le_pow_right dCz h2)
    have Hft := Lib.hid hft
    generalize Sha.big ((b.drop lo).take 4) = X at *
    generalize (Sha.first b).take i = l at *
    have hpt := arr64_put' (x := X) hfl (by omega)
    have hsz := arr64_size (l := l) (by omega)
    have x1 : IntKind.u32.wrap (X : Int) = (X : Int) := by rw [IntKind.wrap_u32]; omega
    have x2 : (X : Int) % 4294967296 = (X : Int) := by omega
    have c1 : (i : Int) < 16 := by omega
    have c2 : (i : Int) < 64 := by omega
    have hwi : IntKind.i64.wrap ((i : Int) + 1) = (i : Int) + 1 := IntWalk.i64_in _ (by omega)
    have Hil := Lib.hid hil; have Hpt := Lib.hid hpt; have Hsz := Lib.hid hsz
    clear hrm hsd hc4 hlo hh hfl hft hbg hpt hsz hi hil
    go_wp2_with ((with_reducible apply at_slice2); refine ⟨?_⟩; refine wl_slice2 rFz rFz rFz hsl ?_)
    refine hgb.mono ?_
    rintro ee w4 ⟨v, rfl, rfl, rfl⟩
    clear hgb hsl e1 e2
    go_wp2_with (with_reducible apply at_store)
    refine ⟨?_⟩
    refine wl_store (cs' := arr64 (l ++ [X])) hS rFz rFz Hpt.out upd0 (by rw [Hsz.out]; exact Nat.succ_le_of_lt (Nat.lt_trans Hil.out dCz)) kRz rFz ?_
    intro w5 h5
    go_wp2_with fail
    go_roundg (16 - (i + 1))
    case measure => have := Hil.out; omega
    case rel => exact ⟨i + 1, rfl, Nat.succ_le_of_lt Hil.out, by first | rfl | go_num, by rw [Hft.out]; exact h5⟩
end
end Go.Proofs.YtopconiamijknaaGreatDoor
namespace Go.Sha
structure St.Ok (s : St) : Prop where
  a : s.a < 4294967296
  b : s.b < 4294967296
  c : s.c < 4294967296
  d : s.d < 4294967296
  e : s.e < 4294967296
  f : s.f < 4294967296
  g : s.g < 4294967296
  h : s.h < 4294967296
theorem modW (x : Nat) : x % 4294967296 < 4294967296 := Nat.mod_lt _ dCz
theorem round_ok {s : St} (h : s.Ok) (k w : Nat) : (round s k w).Ok := ⟨modW _, h.a, h.b, h.c, modW _, h.e, h.f, h.g⟩
theorem rounds_succ (b : Bs) (s : St) (i : Nat) : rounds b s (i + 1) = round (rounds b s i) (at_ K i) (at_ (sched b) i) := by
  unfold rounds
  rw [List.range'_concat, List.foldl_append, Nat.one_mul, Nat.zero_add]; rfl
theorem rounds_ok {s : St} (h : s.Ok) (b : Bs) : ∀ i, (rounds b s i).Ok
  | 0 => h
  | i + 1 => by rw [rounds_succ]; exact round_ok (rounds_ok h b i) _ _
theorem add_ok (s v : St) : (add s v).Ok := ⟨modW _, modW _, modW _, modW _, modW _, modW _, modW _, modW _⟩
theorem take_ok (s : St) (b : Bs) : (take s b).Ok := add_ok _ _
theorem begin_ok : begin.Ok := ⟨by decide, by decide, by decide, by decide, by decide, by decide, by decide, by decide⟩
def mix (s v : St) (i : Nat) : List Nat := (add s v).l.take i ++ s.l.drop i
theorem mix_len (s v : St) {i : Nat} (hi : i ≤ 8) : (mix s v i).length = 8 := by
  unfold mix
  rw [List.length_append, List.length_take, List.length_drop, show (add s v).l.length = 8 from rfl, show s.l.length = 8 from rfl]; omega
end Go.Sha
namespace Go.Proofs.YtopconiamijknaaGreatDoor
open Go Go.Sl Go.Med Go.MapKept Go.RowKit
def ShaK (w : World) : Prop := ∀ i, i < 64 → w.cell? ⟨0, i, none⟩ = some (.int .u32 (Sha.at_ Sha.K i : Nat))
def st8 (s : Sha.St) : Array Value := #[.int .u32 s.a, .int .u32 s.b, .int .u32 s.c, .int .u32 s.d, .int .u32 s.e, .int .u32 s.f, .int .u32 s.g, .int .u32 s.h]
theorem zSt : zeroB Tryz.prog 162 = some (.agg #[.int .u32 0, .int .u32 0, .int .u32 0, .int .u32 0, .int .u32 0, .int .u32 0, .int .u32 0, .int .u32 0]) := by kernel_rfl
theorem run_st8 (x0 x1 x2 x3 x4 x5 x6 x7 : Int) (w : World) : (Instr.build 162 #[(0, .int .u32 x0), (1, .int .u32 x1), (2, .int .u32 x2), (3, .int .u32 x3), (4, .int .u32 x4), (5, .int .u32 x5), (6, .int .u32 x6), (7, .int .u32 x7)]).run Tryz.prog w = .ok (.agg #[.int .u32 x0, .int .u32 x1, .int .u32 x2, .int .u32 x3, .int .u32 x4, .int .u32 x5, .int .u32 x6, .int .u32 x7]) w := by kernel_rfl
theorem st8_at (s : Sha.St) {i : Nat} (hi : i < 8) : (st8 s)[i]? = some (.int .u32 (Sha.at_ s.l i : Nat)) := by
  rcases i with _ | _ | _ | _ | _ | _ | _ | _ | i
  all_goals first | rfl | omega
theorem mix_at (s v : Sha.St) {i : Nat} (hi : i < 8) : (w32 (Sha.mix s v i)).toArray[i]? = some (.int .u32 (Sha.at_ s.l i : Nat)) := by
  rcases i with _ | _ | _ | _ | _ | _ | _ | _ | i
  all_goals first | rfl | omega
theorem mix_put (s v : Sha.St) {i : Nat} (hi : i < 8) : putsAt (w32 (Sha.mix s v i)).toArray i [.int .u32 (((Sha.at_ s.l i + Sha.at_ v.l i) % 4294967296 : Nat) : Int)] = (w32 (Sha.mix s v (i + 1))).toArray := by
  rcases i with _ | _ | _ | _ | _ | _ | _ | _ | i
  all_goals first | rfl | omega
theorem run_not32 {x n : Nat} (h : bits .xor .u32 IntKind.u32.max (x : Int) = (n : Int)) (w : World) : (Op.unary .xor (.int .u32 (x : Int))).run Tryz.prog w = .ok (.int .u32 (n : Int)) w := by
  rw [← h]
  first | rfl | go_simp
theorem t1s_ex {s : Sha.St} (h : s.Ok) {k w : Nat} : ∃ r6 r11 r25 d1 d2 u1 a1 n1 a2 x1 u2 u3 u4 : Nat, Sha.rr 6 s.e = r6 ∧ Sha.rr 11 s.e = r11 ∧ Sha.rr 25 s.e = r25 ∧ bits .xor .u32 (r6 : Int) (r11 : Int) = (d1 : Int) ∧ bits .xor .u32 (d1 : Int) (r25 : Int) = (d2 : Int) ∧ IntKind.u32.wrap ((s.h : Int) + (d2 : Int)) = (u1 : Int) ∧
    bits .and .u32 (s.e : Int) (s.f : Int) = (a1 : Int) ∧ bits .xor .u32 IntKind.u32.max (s.e : Int) = (n1 : Int) ∧ bits .and .u32 (n1 : Int) (s.g : Int) = (a2 : Int) ∧ bits .xor .u32 (a1 : Int) (a2 : Int) = (x1 : Int) ∧ IntKind.u32.wrap ((u1 : Int) + (x1 : Int)) = (u2 : Int) ∧ IntKind.u32.wrap ((u2 : Int) + (k : Int)) = (u3 : Int) ∧ IntKind.u32.wrap ((u3 : Int) + (w : Int)) = (u4 : Int) ∧ Sha.t1 s k w = u4 := by
  have hr := fun n => Sha.rr_lt n h.e
  have hn : 4294967295 - s.e < 4294967296 := by omega
  exact ⟨_, _, _, Sha.rr 6 s.e ^^^ Sha.rr 11 s.e, Sha.rr 6 s.e ^^^ Sha.rr 11 s.e ^^^ Sha.rr 25 s.e, _, s.e &&& s.f, 4294967295 - s.e, (4294967295 - s.e) &&& s.g, (s.e &&& s.f) ^^^ ((4294967295 - s.e) &&& s.g), _, _, _, rfl, rfl, rfl, u32_xor_nat _ _ (hr 6) (hr 11), u32_xor_nat _ _ (Sha.xor_lt (hr 6) (hr 11)) (hr 25), addU _ _, u32_and_nat _ _ h.e h.f, not_u32 _ h.e, u32_and_nat _ _ hn h.g, u32_xor_nat _ _ (Sha.and_lt h.e) (Sha.and_lt hn), addU _ _, addU _ _, addU _ _, rfl⟩
theorem t2s_ex {s : Sha.St} (h : s.Ok) : ∃ r2 r13 r22 d1 d2 a1 a2 x1 a3 x2 u : Nat, Sha.rr 2 s.a = r2 ∧ Sha.rr 13 s.a = r13 ∧ Sha.rr 22 s.a = r22 ∧ bits .xor .u32 (r2 : Int) (r13 : Int) = (d1 : Int) ∧ bits .xor .u32 (d1 : Int) (r22 : Int) = (d2 : Int) ∧ bits .and .u32 (s.a : Int) (s.b : Int) = (a1 : Int) ∧ bits .and .u32 (s.a : Int) (s.c : Int) = (a2 : Int) ∧ bits .xor .u32 (a1 : Int) (a2 : Int) = (x1 : Int) ∧ bits .and .u32 (s.b : Int) (s.c : Int) = (a3 : Int) ∧ bits .xor .u32 (x1 : Int) (a3 : Int) = (x2 : Int) ∧ IntKind.u32.wrap ((d2 : Int) + (x2 : Int)) = (u : Int) ∧ Sha.t2 s = u := by
  have hr := fun n => Sha.rr_lt n h.a
  exact ⟨_, _, _, Sha.rr 2 s.a ^^^ Sha.rr 13 s.a, Sha.rr 2 s.a ^^^ Sha.rr 13 s.a ^^^ Sha.rr 22 s.a, s.a &&& s.b, s.a &&& s.c, (s.a &&& s.b) ^^^ (s.a &&& s.c), s.b &&& s.c, (s.a &&& s.b) ^^^ (s.a &&& s.c) ^^^ (s.b &&& s.c), _, rfl, rfl, rfl, u32_xor_nat _ _ (hr 2) (hr 13), u32_xor_nat _ _ (Sha.xor_lt (hr 2) (hr 13)) (hr 22), u32_and_nat _ _ h.a h.b, u32_and_nat _ _ h.a h.c, u32_xor_nat _ _ (Sha.and_lt h.a) (Sha.and_lt h.a), u32_and_nat _ _ h.b h.c, u32_xor_nat _ _ (Sha.xor_lt (Sha.and_lt h.a) (Sha.and_lt h.a)) (Sha.and_lt h.b), addU _ _, rfl⟩
theorem rd_ex (s : Sha.St) (k w t u : Nat) (ht : Sha.t1 s k w = t) (hu : Sha.t2 s = u) : ∃ z1 z2 : Nat, IntKind.u32.wrap ((t : Int) + (u : Int)) = (z1 : Int) ∧ IntKind.u32.wrap ((s.d : Int) + (t : Int)) = (z2 : Int) ∧ Sha.round s k w = ⟨z1, s.a, s.b, s.c, z2, s.e, s.f, s.g⟩ :=
  ⟨_, _, addU _ _, addU _ _, by unfold Sha.round; rw [ht, hu]⟩
section
variable {w0 w : World} {F : List HProp} {a : Option Addr} {n c k : Nat} {b : Bs} {s : Sha.St}
set_option maxRecDepth 20000 in
theorem shatake_c (hb : b.length = 64) (hs : s.Ok) (hr : RS w0 F (.slice a 64 c) b) (hK : Ro w0 F ShaK) (h : Sat w0 w F) :
    Calls Tryz.prog 80 #[.agg (st8 s), .slice a 64 c] w (Rtn fun v w' => v = .agg (st8 (Sha.take s b)) ∧ Sat w0 w' F) := by
  have Hr := Lib.hid hr; have Hb := Lib.hid hb; have Hs := Lib.hid hs; have HK := Lib.hid hK
  clear hr hb hs hK
  go_enter Tryz.func80, Tryz.ntmps80
  go_wp2_with (with_reducible apply at_box)
  refine ⟨?_⟩
  refine wl_box h evD evD ?_
  intro b2 w2 h2
  replace h2 : Sat w0 w2 (pt b2 (.cells (st8 s) 162 (0,0)) :: F) := h2
  clear h
  go_wp2_with (with_reducible apply at_alloc)
  refine ⟨?_⟩
  refine wl_alloc zSt h2 rfl ?_
  intro b4 w4 h4
  clear h2
  have hsc := schedule_c Hb.out (Hr.out.more sbD) h4
  clear h4
  go_wp2_with fail
  refine hsc.mono ?_
  rintro ee w5 ⟨v, rfl, rfl, h5⟩
  clear hsc
  have Hsz := Lib.hid (arr64_size (l := Sha.sched b) (by rw [Sha.sched_len]; exact Nat.le_refl _))
  have Hon := Lib.hid (arr64_ones (Sha.sched b))
  have Hat := Lib.hid (fun (i : Nat) (hi : i < 64) => arr64_at (l := Sha.sched b) (i := i) (by rw [Sha.sched_len]; exact hi))
  have Hwl := Lib.hid (Sha.at_lt (Sha.sched_all b))
  generalize hA : arr64 (Sha.sched b) = A at *
  clear hA
  go_wp2_with (with_reducible apply at_alloc)
  refine ⟨?_⟩
  refine wl_alloc zArr64 h5 rfl ?_
  intro b5 w6 h6
  clear h5
  go_wp2_with (with_reducible apply at_store)
  refine ⟨?_⟩
  refine wl_storeA A h6 rFz rFz (Hsz.out.trans (arr64_size (l := []) dCz).symm) upd0 (by rw [Hsz.out]; exact infoArr64) Hon.out ?_
  intro w7 h7
  clear h6
  go_wp2_with (first
    | ((with_reducible apply at_load); refine ⟨?_⟩; refine wl_loadA (cs := st8 s) h7 rFz (pick_there (pick_there pick0)) Tryz.underlying162 rfl kRz ?_)
    | (with_reducible apply at_alloc))
  refine ⟨?_⟩
  refine wl_alloc zSt h7 rfl ?_
  intro b6 w8 h8
  clear h7
  go_wp2_with (with_reducible apply at_store)
  refine ⟨?_⟩
  refine wl_storeA (st8 s) h8 rFz rFz rFz upd0 kRz rFz ?_
  intro w9 h9
  clear h8
  go_wp2_with fail
  go_loopg [16] 64 (fun g iq wr => ∃ i : Nat, g = 64 - i ∧ i ≤ 64 ∧ iq = .int .i64 i ∧ Sat w0 wr (pt b6 (.cells (st8 (Sha.rounds b s i)) 162 (0,0)) :: pt b5 (.cells A 224 (0,0)) :: pt b4 (.cells #[.int .u32 0, .int .u32 0, .int .u32 0, .int .u32 0, .int .u32 0, .int .u32 0, .int .u32 0, .int .u32 0] 162 (0,0)) :: pt b2 (.cells (st8 s) 162 (0,0)) :: F))
  case atStart => exact ⟨0, rfl, Nat.zero_le _, rfl, h9⟩
  case round =>
    obtain ⟨i, rfl, hi, rfl, hS⟩ := hrel
    clear h9
    by_cases hil : i < 64
    rotate_left
    focus
      obtain rfl : i = 64 := by omega
      have Hf := Lib.hid (show Sha.take s b = Sha.add s (Sha.rounds b s 64) from rfl)
      obtain ⟨v, hv⟩ : ∃ v, Sha.rounds b s 64 = v := ⟨_, rfl⟩
      rw [hv] at hS Hf
      clear hv hi hil
      go_wp2_with fail
      go_loopg [96] 8 (fun g iq wr => ∃ i : Nat, g = 8 - i ∧ i ≤ 8 ∧ iq = .int .i64 i ∧ Sat w0 wr (pt b2 (.cells (w32 (Sha.mix s v i)).toArray 162 (0,0)) :: pt b6 (.cells (st8 v) 162 (0,0)) :: pt b4 (.cells #[.int .u32 0, .int .u32 0, .int .u32 0, .int .u32 0, .int .u32 0, .int .u32 0, .int .u32 0, .int .u32 0] 162 (0,0)) :: F))
      case atStart => exact ⟨0, rfl, Nat.zero_le _, rfl, hS.sb⟩
      case round =>
        obtain ⟨j, rfl, hj, rfl, hT⟩ := hrel
        clear hS
        by_cases hjl : j < 8
        rotate_left
        focus
          obtain rfl : j = 8 := by omega
          have hT : Sat w0 _ (pt b4 (.cells #[.int .u32 0, .int .u32 0, .int .u32 0, .int .u32 0, .int .u32 0, .int .u32 0, .int .u32 0, .int .u32 0] 162 (0,0)) :: pt b2 (.cells (st8 (Sha.add s v)) 162 (0,0)) :: F) := hT.sb
          clear hj hjl
          go_wp2_with (first
            | ((with_reducible apply at_load); refine ⟨?_⟩; refine wl_loadA (cs := st8 (Sha.add s v)) hT rFz pick1 Tryz.underlying162 rfl kRz ?_)
            | (with_reducible apply at_store))
          refine ⟨?_⟩
          refine wl_storeA (st8 (Sha.add s v)) hT rFz rFz rFz upd0 kRz rFz ?_
          intro w10 h10
          go_wp2_with fail
          refine ⟨rfl, _, res_cell rfl h10 rFz pick0 Tryz.underlying162 rfl kRz, _, rfl, by rw [Hf.out], h10.drop.drop⟩
        have c1 : (j : Int) < 8 := by omega
        have hwj : IntKind.i64.wrap ((j : Int) + 1) = (j : Int) + 1 := IntWalk.i64_in _ (by omega)
        have g1 := mix_at s v hjl
        have g2 := st8_at v hjl
        have hpt := mix_put s v hjl
        have hsz : (w32 (Sha.mix s v j)).toArray.size = 8 := by rw [List.size_toArray, w32_len, Sha.mix_len s v hj]
        have hw1 := addU (Sha.at_ s.l j) (Sha.at_ v.l j)
        obtain ⟨z, hz⟩ : ∃ z, (Sha.at_ s.l j + Sha.at_ v.l j) % 4294967296 = z := ⟨_, rfl⟩
        rw [hz] at hpt hw1
        generalize Sha.at_ s.l j = x1 at *
        generalize Sha.at_ v.l j = x2 at *
        have Hjl := Lib.hid hjl; have Hpt := Lib.hid hpt; have Hs8 := Lib.hid hsz
        have hT2 := hT.drew
        have hG : World.cell? _ ⟨b2, j, none⟩ = some (.int .u32 (x1 : Int)) ∧ World.cell? _ ⟨b6, j, none⟩ = some (.int .u32 (x2 : Int)) := ⟨hT2.cellP pick0 j g1, hT2.cellP pick1 j g2⟩
        clear hT g1 g2 hpt hsz hz hj hjl
        go_wp2_with fail
        refine wpL_begin [6, 7, 8] (fun w' => w'.cell? ⟨b2, j, none⟩ = some (.int .u32 (x1 : Int)) ∧ w'.cell? ⟨b6, j, none⟩ = some (.int .u32 (x2 : Int))) kRz ?_
        refine rp 0 (hy := (yl_move evD)) (h := ?_)
        refine rp 1 (hy := (yl_index evD evD rnD)) (h := ?_)
        refine rt 2 (h := ?_)
        refine rp 3 (hy := (yl_move evD)) (h := ?_)
        refine rp 4 (hy := (yl_index evD evD rnD)) (h := ?_)
        refine rt 5 (h := ?_)
        clear hG
        refine rp 6 (hy := (yl_bin evD evD rnD)) (h := ?_)
        refine rp 7 (hy := (yl_index evD evD rnD)) (h := ?_)
        refine rg_eff 8 evD kRz (fun K hK => ?_)
        refine eff_store (cs' := (w32 (Sha.mix s v (j + 1))).toArray) hT2 evD evD Hpt.out upd0 (by rw [Hs8.out]; exact Nat.succ_le_of_lt Hjl.out) kRz rFz ?_
        intro w11 h11
        refine hK _ _ (.inl rfl) ?_
        clear hK hT2
        refine wpL_done kRz ?_
        go_wp2_with fail
        go_roundg (8 - (j + 1))
        case measure => have := Hjl.out; omega
        case rel => exact ⟨j + 1, rfl, Nat.succ_le_of_lt Hjl.out, by first | rfl | go_num, h11⟩
    have Hr1 := Lib.hid (Sha.rounds_succ b s i)
    have hro := Sha.rounds_ok Hs.out b i
    have g5 := Hat.out i hil
    generalize Sha.rounds b s i = r at *
    generalize Sha.at_ (Sha.sched b) i = wi at *
    obtain ⟨r6, r11, r25, d1, d2, u1, a1, n1, a2, x1, u2, u3, u4, f1, f2, f3, f4, f5, f6, f7, f8, f9, f10, f11, f12, f13, f14⟩ := t1s_ex hro (k := Sha.at_ Sha.K i) (w := wi)
    obtain ⟨q2, q13, q22, e1, e2, m1, m2, y1, m3, y2, uu, j1, j2, j3, j4, j5, j6, j7, j8, j9, j10, j11, j12⟩ := t2s_ex hro
    obtain ⟨z1, z2, l1, l2, l3⟩ := rd_ex r (Sha.at_ Sha.K i) wi u4 uu f14 j12
    have HKK := Lib.hid (fun (w' : World) (hw : Sat w0 w' F) => HK.out w' hw i hil)
    generalize Sha.at_ Sha.K i = ki at *
    rw [l3] at Hr1
    have hR6 := Lib.hid (fun (w' : World) (G : List HProp) (hw : Sat w0 w' G) => right_6_c r.e hro.e hw)
    have hR11 := Lib.hid (fun (w' : World) (G : List HProp) (hw : Sat w0 w' G) => right_11_c r.e hro.e hw)
    have hR25 := Lib.hid (fun (w' : World) (G : List HProp) (hw : Sat w0 w' G) => right_25_c r.e hro.e hw)
    have hR2 := Lib.hid (fun (w' : World) (G : List HProp) (hw : Sat w0 w' G) => right_2_c r.a hro.a hw)
    have hR13 := Lib.hid (fun (w' : World) (G : List HProp) (hw : Sat w0 w' G) => right_13_c r.a hro.a hw)
    have hR22 := Lib.hid (fun (w' : World) (G : List HProp) (hw : Sat w0 w' G) => right_22_c r.a hro.a hw)
    rw [f1] at hR6; rw [f2] at hR11; rw [f3] at hR25; rw [j1] at hR2; rw [j2] at hR13; rw [j3] at hR22
    obtain ⟨ra, rb, rc, rd, re, rf, rg, rh⟩ := r
    have hS : Sat w0 wr (pt b6 (.cells #[.int .u32 ra, .int .u32 rb, .int .u32 rc, .int .u32 rd, .int .u32 re, .int .u32 rf, .int .u32 rg, .int .u32 rh] 162 (0,0)) :: pt b5 (.cells A 224 (0,0)) :: pt b4 (.cells #[.int .u32 0, .int .u32 0, .int .u32 0, .int .u32 0, .int .u32 0, .int .u32 0, .int .u32 0, .int .u32 0] 162 (0,0)) :: pt b2 (.cells (st8 s) 162 (0,0)) :: F) := hS
    dsimp only at f6 f7 f8 f9 j6 j7 j9 l2 Hr1 hR6 hR11 hR25 hR2 hR13 hR22
    obtain ⟨G, hGd⟩ : ∃ G, G = pt b6 (.cells #[.int .u32 ra, .int .u32 rb, .int .u32 rc, .int .u32 rd, .int .u32 re, .int .u32 rf, .int .u32 rg, .int .u32 rh] 162 (0,0)) :: pt b5 (.cells A 224 (0,0)) :: pt b4 (.cells #[.int .u32 0, .int .u32 0, .int .u32 0, .int .u32 0, .int .u32 0, .int .u32 0, .int .u32 0, .int .u32 0] 162 (0,0)) :: pt b2 (.cells (st8 s) 162 (0,0)) :: F := ⟨_, rfl⟩
    have HG := Lib.hid hGd
    have HG1 := Lib.hid (show ∀ w', Sat w0 w' G → w'.cell? ⟨b6, 7, none⟩ = some (.int .u32 (rh : Int)) ∧ w'.cell? ⟨b6, 5, none⟩ = some (.int .u32 (rf : Int)) ∧ w'.cell? ⟨b6, 6, none⟩ = some (.int .u32 (rg : Int)) ∧ w'.cell? ⟨0, i, none⟩ = some (.int .u32 (ki : Int)) ∧ w'.cell? ⟨b5, i, none⟩ = some (.int .u32 (wi : Int)) from fun w' hw => by
      rw [hGd] at hw
      exact ⟨hw.cellP pick0 7 rfl, hw.cellP pick0 5 rfl, hw.cellP pick0 6 rfl, HKK.out w' (hw.sb), hw.cellP pick1 i g5⟩)
    have HG2 := Lib.hid (show ∀ w', Sat w0 w' G → w'.cell? ⟨b6, 1, none⟩ = some (.int .u32 (rb : Int)) ∧ w'.cell? ⟨b6, 2, none⟩ = some (.int .u32 (rc : Int)) from fun w' hw => by
      rw [hGd] at hw
      exact ⟨hw.cellP pick0 1 rfl, hw.cellP pick0 2 rfl⟩)
    have v4 : wr.cell? ⟨b6, 4, none⟩ = some (.int .u32 (re : Int)) := hS.cellP pick0 4 rfl
    rw [← hGd] at hS
    have c1 : (i : Int) < 64 := by omega
    have hwi : IntKind.i64.wrap ((i : Int) + 1) = (i : Int) + 1 := IntWalk.i64_in _ (by omega)
    have Hil := Lib.hid hil
    clear hGd hil hi hro f1 f2 f3 f14 j1 j2 j3 j12 l3 g5 HKK
    go_wp2_with fail
    have h1 := hS.drew
    have hG := HG1.out _ h1
    clear hS v4
    refine wpL_begin [29, 30] (fun w' => w'.cell? ⟨b6, 7, none⟩ = some (.int .u32 (rh : Int)) ∧ w'.cell? ⟨b6, 5, none⟩ = some (.int .u32 (rf : Int)) ∧ w'.cell? ⟨b6, 6, none⟩ = some (.int .u32 (rg : Int)) ∧ w'.cell? ⟨0, i, none⟩ = some (.int .u32 (ki : Int)) ∧ w'.cell? ⟨b5, i, none⟩ = some (.int .u32 (wi : Int))) kRz ?_
    refine rp 0 (hy := (yl_index evD evD rnD)) (h := ?_)
    refine rt 1 (h := ?_)
    refine rp 2 (hy := (yl_move evD)) (h := ?_)
    refine rp 4 (hy := (yl_move evD)) (h := ?_)
    refine rp 7 (hy := (yl_move evD)) (h := ?_)
    refine rp 11 (hy := (yl_move evD)) (h := ?_)
    refine rp 12 (hy := (yl_index evD evD rnD)) (h := ?_)
    refine rt 13 (h := ?_)
    refine rp 14 (hy := (yl_bin evD evD rnD)) (h := ?_)
    refine rp 15 (hy := (yl_move evD)) (h := ?_)
    refine rp 16 (hy := (yl_un evD (run_not32 f8))) (h := ?_)
    refine rp 17 (hy := (yl_index evD evD rnD)) (h := ?_)
    refine rt 18 (h := ?_)
    refine rp 19 (hy := (yl_bin evD evD rnD)) (h := ?_)
    refine rp 20 (hy := (yl_bin evD evD rnD)) (h := ?_)
    refine rp 22 (hy := (yl_move evD)) (h := ?_)
    refine rp 23 (hy := (yl_index evD evD rnD)) (h := ?_)
    refine rt 24 (h := ?_)
    refine rp 26 (hy := (yl_move evD)) (h := ?_)
    refine rp 27 (hy := (yl_index evD evD rnD)) (h := ?_)
    refine rt 28 (h := ?_)
    clear hG
    refine rg_eff 3 evD kRz (fun K hK => ?_)
    (refine eff_call2 kRz evD evD ?_)
    refine (hR6.out _ _ h1).mono ?_
    rintro ee w11 ⟨v, rfl, rfl, h2⟩
    refine hK _ _ (.inr (.inl (HG1.out _ h2))) ?_
    clear hK h1
    refine rg_eff 5 evD kRz (fun K hK => ?_)
    (refine eff_call2 kRz evD evD ?_)
    refine (hR11.out _ _ h2).mono ?_
    rintro ee w12 ⟨v, rfl, rfl, h3⟩
    refine hK _ _ (.inr (.inl (HG1.out _ h3))) ?_
    clear hK h2
    refine rp 6 (hy := (yl_bin evD evD rnD)) (h := ?_)
    refine rg_eff 8 evD kRz (fun K hK => ?_)
    (refine eff_call2 kRz evD evD ?_)
    refine (hR25.out _ _ h3).mono ?_
    rintro ee w13 ⟨v, rfl, rfl, h4⟩
    refine hK _ _ (.inr (.inl (HG1.out _ h4))) ?_
    clear hK h3
    refine rp 9 (hy := (yl_bin evD evD rnD)) (h := ?_)
    refine rp 10 (hy := (yl_bin evD evD rnD)) (h := ?_)
    refine rp 21 (hy := (yl_bin evD evD rnD)) (h := ?_)
    refine rp 25 (hy := (yl_bin evD evD rnD)) (h := ?_)
    refine rp 29 (hy := (yl_bin evD evD rnD)) (h := ?_)
    refine rp 30 (hy := (yl_assign evD)) (h := ?_)
    refine wpL_done kRz ?_
    clear f4 f5 f6 f7 f8 f9 f10 f11 f12 f13 hR6 hR11 hR25
    have v0 : w13.cell? ⟨b6, 0, none⟩ = some (.int .u32 (ra : Int)) := by
      have h5 := h4
      rw [HG.out] at h5
      exact h5.cellP pick0 0 rfl
    go_wp2_with fail
    have h5 := h4.drew
    have hG := HG2.out _ h5
    clear h4 v0
    refine wpL_begin [22, 23, 24] (fun w' => w'.cell? ⟨b6, 1, none⟩ = some (.int .u32 (rb : Int)) ∧ w'.cell? ⟨b6, 2, none⟩ = some (.int .u32 (rc : Int))) kRz ?_
    refine rp 0 (hy := (yl_move evD)) (h := ?_)
    refine rp 2 (hy := (yl_move evD)) (h := ?_)
    refine rp 5 (hy := (yl_move evD)) (h := ?_)
    refine rp 8 (hy := (yl_move evD)) (h := ?_)
    refine rp 9 (hy := (yl_index evD evD rnD)) (h := ?_)
    refine rt 10 (h := ?_)
    refine rp 11 (hy := (yl_bin evD evD rnD)) (h := ?_)
    refine rp 12 (hy := (yl_move evD)) (h := ?_)
    refine rp 13 (hy := (yl_index evD evD rnD)) (h := ?_)
    refine rt 14 (h := ?_)
    refine rp 15 (hy := (yl_bin evD evD rnD)) (h := ?_)
    refine rp 16 (hy := (yl_bin evD evD rnD)) (h := ?_)
    refine rp 17 (hy := (yl_index evD evD rnD)) (h := ?_)
    refine rt 18 (h := ?_)
    refine rp 19 (hy := (yl_index evD evD rnD)) (h := ?_)
    refine rt 20 (h := ?_)
    refine rp 21 (hy := (yl_bin evD evD rnD)) (h := ?_)
    refine rp 22 (hy := (yl_bin evD evD rnD)) (h := ?_)
    clear hG
    refine rg_eff 1 evD kRz (fun K hK => ?_)
    (refine eff_call2 kRz evD evD ?_)
    refine (hR2.out _ _ h5).mono ?_
    rintro ee w14 ⟨v, rfl, rfl, h6⟩
    refine hK _ _ (.inr (.inl (HG2.out _ h6))) ?_
    clear hK h5
    refine rg_eff 3 evD kRz (fun K hK => ?_)
    (refine eff_call2 kRz evD evD ?_)
    refine (hR13.out _ _ h6).mono ?_
    rintro ee w15 ⟨v, rfl, rfl, h7⟩
    refine hK _ _ (.inr (.inl (HG2.out _ h7))) ?_
    clear hK h6
    refine rp 4 (hy := (yl_bin evD evD rnD)) (h := ?_)
    refine rg_eff 6 evD kRz (fun K hK => ?_)
    (refine eff_call2 kRz evD evD ?_)
    refine (hR22.out _ _ h7).mono ?_
    rintro ee w16 ⟨v, rfl, rfl, h8⟩
    refine hK _ _ (.inr (.inl (HG2.out _ h8))) ?_
    clear hK h7
    refine rp 7 (hy := (yl_bin evD evD rnD)) (h := ?_)
    refine rp 23 (hy := (yl_bin evD evD rnD)) (h := ?_)
    refine rp 24 (hy := (yl_assign evD)) (h := ?_)
    refine wpL_done kRz ?_
    clear j4 j5 j6 j7 j8 j9 j10 j11 hR2 hR13 hR22
    rw [HG.out] at h8
    have v1 : w16.cell? ⟨b6, 1, none⟩ = some (.int .u32 (rb : Int)) := h8.cellP pick0 1 rfl
    have v2 : w16.cell? ⟨b6, 2, none⟩ = some (.int .u32 (rc : Int)) := h8.cellP pick0 2 rfl
    have v3 : w16.cell? ⟨b6, 3, none⟩ = some (.int .u32 (rd : Int)) := h8.cellP pick0 3 rfl
    have v5 : w16.cell? ⟨b6, 5, none⟩ = some (.int .u32 (rf : Int)) := h8.cellP pick0 5 rfl
    have v6 : w16.cell? ⟨b6, 6, none⟩ = some (.int .u32 (rg : Int)) := h8.cellP pick0 6 rfl
    go_wp2_with (first
      | ((with_reducible apply ug_at_build); refine ⟨?_⟩; refine wl_bld (ps := #[(0, .int .u32 (z1 : Int)), (1, .int .u32 (ra : Int)), (2, .int .u32 (rb : Int)), (3, .int .u32 (rc : Int)), (4, .int .u32 (z2 : Int)), (5, .int .u32 (re : Int)), (6, .int .u32 (rf : Int)), (7, .int .u32 (rg : Int))]) (by simp only [List.map_toArray, List.map_cons, List.map_nil]; rfl) (fun w => run_st8 _ _ _ _ _ _ _ _ w) ?_)
      | (with_reducible apply at_store))
    refine ⟨?_⟩
    refine wl_storeA #[.int .u32 (z1 : Int), .int .u32 (ra : Int), .int .u32 (rb : Int), .int .u32 (rc : Int), .int .u32 (z2 : Int), .int .u32 (re : Int), .int .u32 (rf : Int), .int .u32 (rg : Int)] h8 rFz rFz rFz upd0 kRz rFz ?_
    intro w17 h9
    clear h8 v1 v2 v3 v5 v6
    go_wp2_with fail
    go_roundg (64 - (i + 1))
    case measure => have := Hil.out; omega
    case rel => exact ⟨i + 1, rfl, Nat.succ_le_of_lt Hil.out, by first | rfl | go_num, by rw [Hr1.out]; exact h9⟩
end
structure D where
  kind : Int
  name : ByteArray
  to : ByteArray
  n : Int
  m : Int
  bv : Value
  b : Bs
  lv : Value
  l : List Int
structure D.Few (w0 : World) (F : List HProp) (d e : D) : Prop where
  kind : e.kind = d.kind
  name : e.name = shortS d.name 30
  to : e.to = shortS d.to 30
  n : e.n = d.n
  m : e.m = d.m
  b : e.b = d.b.take 100
  l : e.l = d.l.take 60
  lr : Ro w0 F (rdsl 1 e.lv (ints e.l))
  lc : capOk e.lv
section
variable {w0 w : World} {F : List HProp} {m fb nb b r : Nat} {M : Med} {bs : List Nat} {wv v bv dv : Value} {s : ByteArray} {fs : List Fil} {K : Nat}
end
section
variable {P : Program} {w0 w : World} {L L' R : List HProp} {b o : Nat} {ops : Array Oper} {rest : List Oper} {a : Act} {Q : Exit → Act → World → Prop} {dst : Option Tmp} {t ty T sz n c : Nat} {pos : String} {after : Array Edge} {x y : Operand} {v v0 v1 v2 : Value} {xs : List Value} {K : Act → World → Prop} {E : Prop}
end
section
variable {w0 w : World} {F R : List HProp} {d i : Nat} {D : Med} {fsv fv nv wv v lv bv : Value} {xs : List RF} {x : RF} {g : Bag} {K : Nat}
section
variable {ops : Array Oper} {a : Act} {Q : Exit → Act → World → Prop} {dst : Option Tmp} {t b n c : Nat} {pos : String} {after : Array Edge} {p q : Operand} {l : Bs} {K : Act → World → Prop} {E : Prop}
theorem eff_storeB (i : Nat) (z : UInt8) (hs : Sat w0 w (bsl (.slice (some ⟨b, 0, none⟩) n c) l :: R)) (hx : a.eval p = .pointer (some ⟨b, i, none⟩)) (hy : a.eval q = .int .u8 z.toNat) (hi : i < l.length)
    (hK : ∀ w', Sat w0 w' (bsl (.slice (some ⟨b, 0, none⟩) n c) (l.set i z) :: R) → K (a.put dst undef) w') :
    if Region.wanted ⟨dst, .store 5 p q, t, pos, after, none⟩ (yielded ops a.tmps) = true then Oper.wp Tryz.prog ⟨dst, .store 5 p q, t, pos, after, none⟩ a w K Q else E := by
  have h0 : Sat w0 w (osl 5 1 (.slice (some ⟨b, 0, none⟩) n c) (bys l) :: R) := hs
  refine eff_storeS i h0 hx hy upd0 (by rw [bys_len]; exact hi) kRz rfl rfl fun w' hS => hK w' ?_
  have e : (bys l).set i (.int .u8 z.toNat) = bys (l.set i z) := by unfold bys; rw [List.map_set]
  rw [e] at hS
  exact hS
end
theorem byte_at {b n c i : Nat} {l : Bs} (h : Sat w0 w (bsl (.slice (some ⟨b, 0, none⟩) n c) l :: R)) (hi : i < l.length) : w.cell? ⟨b, i, none⟩ = some (.int .u8 (l.getD i 0).toNat) := by
  obtain ⟨g, he, hc, _⟩ := bsl_set h hi 0
  cases he
  rw [hc, List.getD_eq_getElem?_getD, List.getElem?_eq_getElem hi]; rfl
end
end Go.Proofs.YtopconiamijknaaGreatDoor
namespace Go.Sha
def rv (l : Bs) : Nat → Bs
  | 0 => l
  | i + 1 => ((rv l i).set i ((rv l i).getD (l.length - 1 - i) 0)).set (l.length - 1 - i) ((rv l i).getD i 0)
theorem rv_len (l : Bs) : ∀ i, (rv l i).length = l.length
  | 0 => rfl
  | i + 1 => by rw [rv, List.length_set, List.length_set, rv_len l i]
theorem rv_rev {l : Bs} (h : l.length = 4 ∨ l.length = 8) : rv l (l.length / 2) = l.reverse := by
  rcases h with h | h
  · rw [h]
    show rv l 2 = l.reverse
    match l, h with
    | [a, b, c, d], _ => rfl
  · rw [h]
    show rv l 4 = l.reverse
    match l, h with
    | [a, b, c, d, e, f, g, i], _ => rfl
end Go.Sha
namespace Go.Proofs.YtopconiamijknaaGreatDoor
open Go Go.Sl Go.Med Go.MapKept Go.RowKit
section
variable {w0 w : World} {F : List HProp} {g c : Nat} {l : Bs}
set_option maxRecDepth 20000 in
theorem reverse_c (hl : l.length = 4 ∨ l.length = 8) (h : Sat w0 w (bsl (.slice (some ⟨g, 0, none⟩) l.length c) l :: F)) :
    Calls Tryz.prog 129 #[.slice (some ⟨g, 0, none⟩) l.length c] w (Rtn fun _ w' => Sat w0 w' (bsl (.slice (some ⟨g, 0, none⟩) l.length c) l.reverse :: F)) := by
  have Hl := Lib.hid hl; have Hrv := Lib.hid (Sha.rv_rev hl)
  obtain ⟨n, hn⟩ : ∃ n, l.length = n := ⟨_, rfl⟩
  rw [hn] at h ⊢
  have Hn := Lib.hid hn
  have e1 : IntKind.i64.wrap ((n : Int) - 1) = ((n - 1 : Nat) : Int) := by rw [IntWalk.i64_in _ (by omega)]; omega
  obtain ⟨n1, hn1⟩ : ∃ n1, n - 1 = n1 := ⟨_, rfl⟩
  rw [hn1] at e1
  have Hn1 := Lib.hid hn1
  clear hl hn hn1
  go_enter Tryz.func129, Tryz.ntmps129
  go_wp2_with fail
  clear e1
  go_loopg [2, 3] (n / 2) (fun gg iq jq wr => ∃ i j : Nat, gg = n / 2 - i ∧ i ≤ n / 2 ∧ j + i = n1 ∧ iq = .int .i64 i ∧ jq = .int .i64 j ∧ Sat w0 wr (bsl (.slice (some ⟨g, 0, none⟩) n c) (Sha.rv l i) :: F))
  case atStart => exact ⟨0, n1, rfl, Nat.zero_le _, rfl, rfl, rfl, h⟩
  case round =>
    obtain ⟨i, j, rfl, hi, hj, rfl, rfl, hS⟩ := hrel
    clear h
    have hnn := Hl.out
    rw [Hn.out] at hnn
    have hn1 := Hn1.out
    by_cases hil : i < n / 2
    rotate_left
    focus
      obtain rfl : i = n / 2 := by omega
      have c1 : ¬ ((n / 2 : Nat) : Int) < (j : Int) := by omega
      have hS : Sat w0 wr (bsl (.slice (some ⟨g, 0, none⟩) n c) l.reverse :: F) := by
        have hr := Hrv.out
        rw [Hn.out] at hr
        rw [← hr]; exact hS
      obtain ⟨m, hm⟩ : ∃ m, n / 2 = m := ⟨_, rfl⟩
      rw [hm] at c1 ⊢
      clear hi hj hnn hn1 hil hm
      go_wp2_with fail
      go_end0
      exact ⟨_, rfl, hS⟩
    have c1 : (i : Int) < (j : Int) := by omega
    have ci : (i : Int) < (n : Int) := by omega
    have cj : (j : Int) < (n : Int) := by omega
    have wi : IntKind.i64.wrap ((i : Int) + 1) = ((i + 1 : Nat) : Int) := by rw [IntWalk.i64_in _ (by omega)]; omega
    have wj : IntKind.i64.wrap ((j : Int) - 1) = ((j - 1 : Nat) : Int) := by rw [IntWalk.i64_in _ (by omega)]; omega
    have hlen : (Sha.rv l i).length = n := by rw [Sha.rv_len, Hn.out]
    have hnext : Sha.rv l (i + 1) = ((Sha.rv l i).set i ((Sha.rv l i).getD j 0)).set j ((Sha.rv l i).getD i 0) := by
      rw [Sha.rv, Hn.out, show n - 1 - i = j by omega]
    have hij : i < n ∧ j < n ∧ j - 1 + (i + 1) = n1 := by omega
    have Hnext := Lib.hid hnext; have Hij := Lib.hid hij; have Hlen := Lib.hid hlen; have Hil := Lib.hid hil
    generalize Sha.rv l i = k at *
    have h1 := hS.drew
    have a1 := byte_at h1 (i := i) (by rw [hlen]; exact hij.1)
    have a2 := byte_at h1 (i := j) (by rw [hlen]; exact hij.2.1)
    obtain ⟨x, hx⟩ : ∃ x, k.getD i 0 = x := ⟨_, rfl⟩
    obtain ⟨y, hy⟩ : ∃ y, k.getD j 0 = y := ⟨_, rfl⟩
    rw [hx] at a1 Hnext
    rw [hy] at a2 Hnext
    obtain ⟨i1, hi1⟩ : ∃ i1, i + 1 = i1 := ⟨_, rfl⟩
    obtain ⟨j1, hj1⟩ : ∃ j1, j - 1 = j1 := ⟨_, rfl⟩
    rw [hi1] at wi
    rw [hj1] at wj
    have Hi1 := Lib.hid hi1; have Hj1 := Lib.hid hj1
    have hG : World.cell? _ ⟨g, j, none⟩ = some (.int .u8 y.toNat) ∧ World.cell? _ ⟨g, i, none⟩ = some (.int .u8 x.toNat) := ⟨a2, a1⟩
    clear hS a1 a2 hx hy hi1 hj1 hnext hij hlen hil hi hj hnn hn1
    go_wp2_with fail
    refine wpL_begin [12, 13, 14, 15] (fun w' => w'.cell? ⟨g, j, none⟩ = some (.int .u8 y.toNat) ∧ w'.cell? ⟨g, i, none⟩ = some (.int .u8 x.toNat)) kRz ?_
    refine rp 0 (hy := (yl_move evD)) (h := ?_)
    refine rp 1 (hy := (yl_move evD)) (h := ?_)
    refine rp 2 (hy := (yl_move evD)) (h := ?_)
    refine rp 3 (hy := (yl_move evD)) (h := ?_)
    refine rp 4 (hy := (yl_move evD)) (h := ?_)
    refine rp 5 (hy := (yl_move evD)) (h := ?_)
    refine rp 6 (hy := (yl_index evD evD rnD)) (h := ?_)
    refine rt 7 (h := ?_)
    refine rp 8 (hy := (yl_move evD)) (h := ?_)
    refine rp 9 (hy := (yl_move evD)) (h := ?_)
    refine rp 10 (hy := (yl_index evD evD rnD)) (h := ?_)
    refine rt 11 (h := ?_)
    clear hG
    refine rp 12 (hy := (yl_index evD evD rnD)) (h := ?_)
    refine rg_eff 13 evD kRz (fun K hK => ?_)
    refine eff_storeB i y h1 evD evD (by rw [Hlen.out]; exact Hij.out.1) ?_
    intro w2 h2
    refine hK _ _ (.inl rfl) ?_
    clear hK h1
    refine rp 14 (hy := (yl_index evD evD rnD)) (h := ?_)
    refine rg_eff 15 evD kRz (fun K hK => ?_)
    refine eff_storeB j x h2 evD evD (by rw [List.length_set, Hlen.out]; exact Hij.out.2.1) ?_
    intro w3 h3
    refine hK _ _ (.inl rfl) ?_
    clear hK h2
    refine wpL_done kRz ?_
    go_wp2_with fail
    go_roundg (n / 2 - (i + 1))
    case measure => have := Hil.out; omega
    case rel => exact ⟨i + 1, j - 1, rfl, Nat.succ_le_of_lt Hil.out, Hij.out.2.2, by rw [Hi1.out], by rw [Hj1.out], by rw [Hnext.out]; exact h3⟩
theorem bigOf_c {x n : Nat} (hn : n = 4 ∨ n = 8) (hput : Calls Tryz.prog 128 #[.int .u64 x, .int .i64 n] w (Rtn fun v w' => Sat w0 w' (bsl v (Frm.le x n) :: F) ∧ ∃ a, v = .slice a n n)) :
    Calls Tryz.prog 81 #[.int .u64 x, .int .i64 n] w (Rtn fun v w' => ∃ g, v = .slice (some ⟨g, 0, none⟩) n n ∧ Sat w0 w' (bsl v (Sha.bigL x n) :: F)) := by
  have Hl := Lib.hid (show (Frm.le x n).length = n from Frm.le_len x n)
  have Hb := Lib.hid (show Sha.bigL x n = (Frm.le x n).reverse from rfl)
  generalize Frm.le x n = l at *
  have Hn := Lib.hid hn
  clear hn
  go_enter Tryz.func81, Tryz.ntmps81
  go_wp2_with fail
  refine hput.mono ?_
  rintro ee w1 ⟨v, rfl, h1, aa, rfl⟩
  clear hput
  obtain ⟨g, rfl⟩ : ∃ g, aa = some ⟨g, 0, none⟩ := by
    rcases Sat.osl_cases h1 with ⟨he, hh, _⟩ | ⟨g', n', cap', cs, he, _⟩
    · have h2 := Hl.out; have h3 := Hn.out
      have h4 := congrArg List.length hh
      rw [bys_len] at h4
      simp only [List.length_nil] at h4
      omega
    · cases he; exact ⟨_, rfl⟩
  have hr := reverse_c (l := l) (g := g) (c := n) (by rw [Hl.out]; exact Hn.out) (by rw [Hl.out]; exact h1)
  rw [Hl.out, ← Hb.out] at hr
  clear h1
  go_wp2_with fail
  refine hr.mono ?_
  rintro ee w2 ⟨v, rfl, h2⟩
  clear hr
  go_wp2_with fail
  go_ret
  exact ⟨_, rfl, g, rfl, h2⟩
end
end Go.Proofs.YtopconiamijknaaGreatDoor
namespace Go.Sha
theorem blocks_end {s : St} {b : Bs} (h : b.length < 64) : blocks (b.length / 64) s b = (s, b) := by
  rw [show b.length / 64 = 0 by omega]; rfl
theorem blocks_more {s : St} {b : Bs} (h : 64 ≤ b.length) : blocks (b.length / 64) s b = blocks ((b.drop 64).length / 64) (take s (b.take 64)) (b.drop 64) := by
  obtain ⟨n, hn⟩ : ∃ n, b.length / 64 = n + 1 := ⟨b.length / 64 - 1, by omega⟩
  rw [hn, blocks, if_neg (by omega), List.length_drop, show (b.length - 64) / 64 = n by omega]
end Go.Sha
namespace Go.Proofs.YtopconiamijknaaGreatDoor
open Go Go.Sl Go.Med Go.MapKept Go.RowKit
def hs11 (s : Sha.St) (rv : Value) (n : Int) : Array Value := #[.bool true, .int .u32 s.a, .int .u32 s.b, .int .u32 s.c, .int .u32 s.d, .int .u32 s.e, .int .u32 s.f, .int .u32 s.g, .int .u32 s.h, rv, .int .i64 n]
theorem run_hs (s : Sha.St) (w : World) : (Instr.build 165 #[(0, .bool true), (1, .agg (st8 s))]).run Tryz.prog w = .ok (.agg (hs11 s (.slice none 0 0) 0)) w := by kernel_rfl
theorem yl_slT {P : Program} {ops : Array Oper} {a : Act} {dst : Option Tmp} {ty t : TypeId} {pos : String} {after : Array Edge} {x y : Operand} {vx vy v : Value} (hx : a.eval x = vx) (hy : a.eval y = vy) (hr : ∀ w, (Instr.sliceAt ty vx none (some vy) none).run P w = .ok v w) : Yields P ops ⟨dst, .slice ty x none (some y) none, t, pos, after, none⟩ v a :=
  .inl ⟨want_none _ rfl, fun w => by simp only [execOp, hx, hy, Option.map_some, Option.map_none, Sem.run_bind, hr, Result.andThen_ok, Sem.run_pure]⟩
section
variable {w0 w : World} {F : List HProp} {p : Nat} {bv : Value} {b : Bs}
theorem shabegin_c (h : Sat w0 w F) : Calls Tryz.prog 78 #[] w (Rtn fun v w' => v = .agg (st8 Sha.begin) ∧ Sat w0 w' F) := by
  go_enter Tryz.func78, Tryz.ntmps78
  go_wp2_with (with_reducible apply at_alloc)
  refine ⟨?_⟩
  refine wl_alloc zSt h rfl ?_
  intro b1 w1 h1
  go_wp2_with (first
    | ((with_reducible apply ug_at_build); refine ⟨?_⟩; refine wl_bld (v := .agg (st8 Sha.begin)) rFz (fun w => by kernel_rfl) ?_)
    | (with_reducible apply at_store))
  refine ⟨?_⟩
  refine wl_storeA (st8 Sha.begin) h1 rFz rFz rFz upd0 kRz rFz ?_
  intro w2 h2
  go_wp2_with fail
  refine ⟨rfl, _, res_cell rfl h2 rFz pick0 Tryz.underlying162 rfl kRz, _, rfl, rfl, h2.drop⟩
theorem shanew_c (h : Sat w0 w F) : Calls Tryz.prog 46 #[] w (Rtn fun v w' => ∃ p, v = ptr p ∧ Sat w0 w' (pt p (.cells (hs11 Sha.begin (.slice none 0 0) 0) 165 (0,0)) :: F)) := by
  have hb := shabegin_c h
  clear h
  go_enter Tryz.func46, Tryz.ntmps46
  go_wp2_with fail
  refine hb.mono ?_
  rintro ee w1 ⟨v, rfl, rfl, h1⟩
  clear hb
  go_wp2_with (first
    | ((with_reducible apply ug_at_build); refine ⟨?_⟩; refine wl_bld (ps := #[(0, .bool true), (1, .agg (st8 Sha.begin))]) (by simp only [List.map_toArray, List.map_cons, List.map_nil]; rfl) (run_hs Sha.begin) ?_)
    | (with_reducible apply at_box))
  refine ⟨?_⟩
  refine wl_box h1 rFz rFz ?_
  intro p w2 h2
  have h2 : Sat w0 w2 (pt p (.cells (hs11 Sha.begin (.slice none 0 0) 0) 165 (0,0)) :: F) := h2
  go_wp2_with fail
  go_ret
  exact ⟨_, rfl, p, rfl, h2⟩
theorem shaok_c {s : Sha.St} {rv : Value} {n : Int} (h : Sat w0 w (pt p (.cells (hs11 s rv n) 165 (0,0)) :: F)) : Calls Tryz.prog 79 #[ptr p] w (Rtn fun v w' => v = .bool true ∧ w = w') := by
  have e0 : w.cell? ⟨p, 0, none⟩ = some (.bool true) := h.cellP pick0 0 rfl
  clear h
  go_enter Tryz.func79, Tryz.ntmps79
  go_wp2
  go_ret
  exact ⟨_, rfl, rfl, rfl⟩
set_option maxRecDepth 20000 in
theorem shawrite_c (hl : b.length ≤ 1073741824) (hr : RS w0 F bv b) (hK : Ro w0 F ShaK) (h : Sat w0 w (pt p (.cells (hs11 Sha.begin (.slice none 0 0) 0) 165 (0,0)) :: F)) :
    Calls Tryz.prog 47 #[ptr p, bv] w (Rtn fun _ w' => ∃ ra rn rc, Sat w0 w' (bsl (.slice ra rn rc) (Sha.blocks (b.length / 64) Sha.begin b).2 :: pt p (.cells (hs11 (Sha.blocks (b.length / 64) Sha.begin b).1 (.slice ra rn rc) b.length) 165 (0,0)) :: F) ∧ (Sha.blocks (b.length / 64) Sha.begin b).2.length < 64 ∧ (Sha.blocks (b.length / 64) Sha.begin b).1.Ok) := by
  obtain ⟨a, c, rfl, hc1, hc2⟩ := hr.len h.drop
  have hok := shaok_c h
  obtain ⟨R, hR⟩ : ∃ R, Sha.blocks (b.length / 64) Sha.begin b = R := ⟨_, rfl⟩
  rw [hR]
  have Hr := Lib.hid hr; have HK := Lib.hid hK; have HR := Lib.hid hR; have Hl := Lib.hid hl
  have e10 : w.cell? ⟨p, 10, none⟩ = some (.int .i64 0) := h.cellP pick0 10 rfl
  clear hR hr hK hc1 hc2
  go_enter Tryz.func47, Tryz.ntmps47
  go_wp2_with fail
  refine hok.mono ?_
  rintro ee w1 ⟨v, rfl, rfl, rfl⟩
  clear hok
  obtain ⟨n, hn⟩ : ∃ n, b.length = n := ⟨_, rfl⟩
  have hw0 : IntKind.i64.wrap ((0 : Int) + (n : Int)) = (n : Int) := by rw [Int.zero_add]; exact IntWalk.i64_in _ (by omega)
  have hw1 : IntKind.i64.wrap (n : Int) = (n : Int) := IntWalk.i64_in _ (by omega)
  rw [hn]
  rw [hn] at Hl
  have Hn := Lib.hid hn
  have hS0 : RS w0 F (.slice a n c) b := by rw [← hn]; exact Hr.out
  clear hl hn Hr
  go_wp2_with (with_reducible apply at_store)
  refine ⟨?_⟩
  refine wl_store (cs' := hs11 Sha.begin (.slice none 0 0) n) h rFz evD rFz upd0 nLz kRz rFz ?_
  intro w2 h2
  clear h e10 hw0 hw1
  have e9 : w2.cell? ⟨p, 9, none⟩ = some (.slice none 0 0) := h2.cellP pick0 9 rfl
  go_wp2_with fail
  clear e9
  go_loopg [1] (b.length / 64) (fun g bq wr => ∃ (b' : Bs) (a' : Option Addr) (c' m : Nat) (s' : Sha.St), bq = .slice a' m c' ∧ b'.length = m ∧ g = m / 64 ∧ m ≤ 1073741824 ∧ s'.Ok ∧ RS w0 F (.slice a' m c') b' ∧ Sha.blocks (b'.length / 64) s' b' = R ∧ Sat w0 wr (pt p (.cells (hs11 s' (.slice none 0 0) n) 165 (0,0)) :: F))
  case atStart => exact ⟨b, a, c, n, Sha.begin, rfl, Hn.out, by rw [Hn.out], Hl.out, Sha.begin_ok, hS0, HR.out, h2⟩
  case round =>
    obtain ⟨b', a', c', m, s', rfl, hm, rfl, hm2, hs', hrs, hbl, hS⟩ := hrel
    clear h2 hS0
    by_cases h64 : 64 ≤ m
    rotate_left
    focus
      have c1 : ¬ (64 : Int) ≤ (m : Int) := by omega
      have hRR : R = (s', b') := by rw [← hbl, Sha.blocks_end (by omega)]
      have hcl := clone_c hS (hrs.rd wr hS.drop) (by rw [hm]; omega)
      have Hm := Lib.hid (show b'.length < 64 by omega); have Hs' := Lib.hid hs'
      subst hRR
      clear hm hm2 hs' hrs hbl h64 hS HR
      go_wp2_with fail
      refine hcl.mono ?_
      rintro ee w3 ⟨v, rfl, h3, ra, rn, rc, rfl⟩
      clear hcl
      go_wp2_with (with_reducible apply at_store)
      refine ⟨?_⟩
      refine wl_store (cs' := hs11 s' (.slice ra rn rc) n) (h3.sb : Sat w0 w3 (pt p (.cells (hs11 s' (.slice none 0 0) n) 165 (0,0)) :: bsl (.slice ra rn rc) b' :: F)) rFz evD rFz upd0 nLz kRz rFz ?_
      intro w4 h4
      have Hsh := Lib.hid (h4.sb : Sat w0 w4 (bsl (.slice ra rn rc) b' :: pt p (.cells (hs11 s' (.slice ra rn rc) n) 165 (0,0)) :: F))
      clear h3 h4
      go_wp2_with fail
      go_end0
      refine ⟨_, rfl, ⟨ra, rn, rc, ?_⟩, Hm.out, Hs'.out⟩
      rw [Hn.out]
      exact Hsh.out
    have c1 : (64 : Int) ≤ (m : Int) := by omega
    obtain ⟨_, _, _, hce, q1, q2⟩ := hrs.cap
    cases hce
    have hslT := fun w => run_slT (a := a') (n := m) (c := c') (k := 64) (by omega) w
    have hslF := fun w => run_slF (a := a') (n := m) (c := c') (k := 64) h64 w
    have hrs1 : RS w0 F (.slice a' b'.length c') b' := by rw [hm]; exact hrs
    have hT := hrs1.to (k := 64) (by omega) c' (by omega) (Nat.le_refl _)
    have hF := hrs1.from (k := 64) (by omega)
    rw [hm] at hF
    obtain ⟨ta, tc, htd⟩ : ∃ ta tc, sliced a' 0 64 c' 1 = .slice ta 64 tc := ⟨_, _, rfl⟩
    obtain ⟨fa, fc, hfd⟩ : ∃ fa fc, sliced a' 64 m c' 1 = .slice fa (m - 64) fc := ⟨_, _, rfl⟩
    rw [htd] at hslT hT
    rw [hfd] at hslF hF
    have hslT : ∀ w, (Instr.sliceAt 47 (.slice a' m c') none (some (.int .i64 64)) none).run Tryz.prog w = .ok (.slice ta 64 tc) w := hslT
    have hslF : ∀ w, (Instr.sliceAt 47 (.slice a' m c') (some (.int .i64 64)) none none).run Tryz.prog w = .ok (.slice fa (m - 64) fc) w := hslF
    have hmore := Sha.blocks_more (s := s') (b := b') (by omega)
    rw [hbl] at hmore
    have hln : (b'.drop 64).length = m - 64 := by rw [List.length_drop, hm]
    have h64b : (b'.take 64).length = 64 := by rw [List.length_take]; omega
    have Hmore := Lib.hid hmore.symm; have Hln := Lib.hid hln; have HF := Lib.hid hF; have Hm2 := Lib.hid (And.intro h64 hm2)
    have htk := Lib.hid (fun (w' : World) (G : List HProp) (hw : Sat w0 w' (pt p (.cells (hs11 s' (.slice none 0 0) n) 165 (0,0)) :: F)) => shatake_c h64b hs' (hT.more sbD) (Ro.os HK.out) hw)
    have Hok := Lib.hid (Sha.take_ok s' (b'.take 64))
    obtain ⟨s2, hs2⟩ : ∃ s2, Sha.take s' (b'.take 64) = s2 := ⟨_, rfl⟩
    rw [hs2] at htk Hmore Hok
    have h3 := hS.drew
    have hG : World.rangeAt _ p 1 (st8 s').toList := fun k v hk => h3.cellP pick0 (1 + k) (by rcases k with _ | _ | _ | _ | _ | _ | _ | _ | k <;> first | exact hk | cases hk)
    clear hmore hln hF hrs hrs1 hT hbl hs' hm q1 q2 htd hfd hs2 h64b hS h64 hm2
    go_wp2_with fail
    refine wpL_begin [7, 8, 9, 10] (fun w' => w'.rangeAt p 1 (st8 s').toList) kRz ?_
    refine rp 0 (hy := (yl_move evD)) (h := ?_)
    refine rp 1 (hy := (yl_move evD)) (h := ?_)
    refine rp 2 (hy := (yl_nil evD)) (h := ?_)
    refine rp 3 (hy := (yl_field evD rnD)) (h := ?_)
    refine rg_take 4 evD kRz i3z (tk_loadN (b := p) (o := 1) (st8 s').toList rFz Tryz.underlying162 rfl kRz (fun w hw => hw)) (by assumption) (by go_frame; first | done | rfl) ?_
    clear hG
    refine rp 5 (hy := (yl_move evD)) (h := ?_)
    refine rp 6 (hy := (yl_slT evD evD hslT)) (h := ?_)
    refine rg_eff 7 evD kRz (fun K hK => ?_)
    (refine eff_call2 kRz evD evD ?_)
    refine (htk.out _ F h3).mono ?_
    rintro ee w4 ⟨v, rfl, rfl, h4⟩
    refine hK _ _ (.inl rfl) ?_
    clear hK h3 htk
    refine rp 8 (hy := (yl_nil evD)) (h := ?_)
    refine rp 9 (hy := (yl_field evD rnD)) (h := ?_)
    refine rg_eff 10 evD kRz (fun K hK => ?_)
    refine eff_store (cs' := hs11 s2 (.slice none 0 0) n) h4 evD evD rFz upd0 nLz kRz rFz ?_
    intro w5 h5
    refine hK _ _ (.inl rfl) ?_
    clear hK h4
    refine wpL_done kRz ?_
    go_wp2_with ((with_reducible apply at_slF); refine ⟨?_⟩; refine wl_slF rFz rFz hslF ?_)
    go_roundg ((m - 64) / 64)
    case measure => have := Hm2.out; omega
    case rel => exact ⟨b'.drop 64, fa, fc, m - 64, s2, rfl, Hln.out, rfl, by have := Hm2.out; omega, Hok.out, HF.out, Hmore.out, h5⟩
end
end Go.Proofs.YtopconiamijknaaGreatDoor
