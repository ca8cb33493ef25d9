/-
  'SegsFullCardSaid': whatever the input, the law SegsFull returns true and the input reads as it did; the table of crc is tied to the program's text. No condition.
-/
import Derived.Test.YtjklhichekmdhaaDoorJ7
import Derived.Test.YtjklhichekmdhaaDoorRows
import Derived.Test.YtjklhichekmdhaaDoorCards
import Derived.Test.YtjklhichekmdhaaDoorTie
import Derived.ProofKit
import Derived.LaidMore
import Derived.OpenShut
import Derived.ShutString
import Derived.SevenTiedAt
/- hoardlaw14.SegsFull. -/
namespace Go.Proofs.YtjklhichekmdhaaDoor
open Go Go.Sl Go.Med Go.MapKept Go.RowKit
set_option linter.unusedVariables false
section
variable {w0 w : World} {F R : List HProp} {v bv dv x lv : Value}
theorem within_mem (x lo hi : Int) (h : lo ≤ hi) : lo ≤ within x lo hi ∧ within x lo hi ≤ hi := by
  unfold within
  split
  · exact ⟨Int.le_refl _, h⟩
  · split <;> omega
theorem few_len {es : List SD} {l : List Seg.Cal} {n : Nat} (h : es.map (·.c) = Seg.fewC l n) : es.length ≤ n := by
  have := congrArg List.length h
  unfold Seg.fewC at this
  rw [List.length_map, List.length_map, List.length_take] at this
  omega
theorem few_key {es : List SD} {ds : List SD} {n : Nat} (h : es.map (·.c) = Seg.fewC (ds.map (·.c)) n) (hk : ∀ d ∈ ds, d.c.e.key.length = 32) : ∀ d ∈ es, d.c.e.key.length = 32 ∧ d.c.e.data.length ≤ 300 := by
  intro d hd
  have h1 : d.c ∈ es.map (·.c) := List.mem_map.2 ⟨d, hd, rfl⟩
  rw [h] at h1
  unfold Seg.fewC at h1
  obtain ⟨x, hx, e⟩ := List.mem_map.1 h1
  obtain ⟨y, hy, rfl⟩ := List.mem_map.1 (List.mem_of_mem_take hx)
  rw [← e]
  exact ⟨hk y hy, by show (y.c.e.data.take 300).length ≤ 300; rw [List.length_take]; omega⟩
set_option maxRecDepth 20000 in
set_option maxHeartbeats 32000000 in
theorem segs_full_c (limit room : Int) (ds : List SD) (hr : Ro w0 F (rdsl 40 lv (sdsL ds))) (hds : ∀ d ∈ ds, SDRo w0 F d) (e : Frm.Ent) (hk : e.key.length = 32) (da : Option Addr) (dc : Nat) (hd : Ro w0 F (rdsl 1 (.slice da e.data.length dc) (bys e.data))) (hcap : capOk (.slice da e.data.length dc)) (hH : Ro w0 F Half) (h : Sat w0 w F) :
    Calls Tryd.prog 3 #[.int .i64 limit, .int .i64 room, lv, .agg (entA e (.slice da e.data.length dc))] w (Rtn fun v w' => v = .bool true ∧ Sat w0 w' F) := by
  have Hk := Lib.hid hk; have HH := Lib.hid hH; have Hd := Lib.hid hd; have Hcap := Lib.hid hcap; have Hr := Lib.hid hr; have Hds := Lib.hid hds
  clear hk hH hd hcap hr hds
  go_enter Tryd.func3, Tryd.ntmps3
  go_wp2_with ((with_reducible apply at_boxE); refine ⟨?_⟩; refine wl_boxE (by assumption) (by rfl) ?_; intro bX wX hX)
  refine (fewD_c ds 30 (by decide) (Ro.of_sub Hr.out (by repeat (first | (with_reducible apply sub_refl) | ((with_reducible apply sub_take); (· first | ((repeat (first | with_reducible apply pick0 | with_reducible apply pick_there)); done) | ((repeat (first | apply pick0 | apply pick_there)); done) | fail)) | (with_reducible apply sub_drop)))) (fun d hd => ⟨(Hds.out d hd).key, Ro.of_sub (Hds.out d hd).rd (by repeat (first | (with_reducible apply sub_refl) | ((with_reducible apply sub_take); (· first | ((repeat (first | with_reducible apply pick0 | with_reducible apply pick_there)); done) | ((repeat (first | apply pick0 | apply pick_there)); done) | fail)) | (with_reducible apply sub_drop))), (Hds.out d hd).cap, Ro.of_sub (Hds.out d hd).rl (by repeat (first | (with_reducible apply sub_refl) | ((with_reducible apply sub_take); (· first | ((repeat (first | with_reducible apply pick0 | with_reducible apply pick_there)); done) | ((repeat (first | apply pick0 | apply pick_there)); done) | fail)) | (with_reducible apply sub_drop))), (Hds.out d hd).capl⟩) hX).mono ?_
  rintro ee w1 ⟨v, rfl, es, ov, rfl, hes, _, hS1⟩
  have Hel := Lib.hid (few_len hes)
  have Hek := Lib.hid (few_key hes (fun d hd => (Hds.out d hd).key))
  obtain ⟨oa, oc, rfl⟩ := sds_len (fun d hd => (Hek.out d hd).1) hS1
  clear h hX hes
  go_wp2_with (first | ((with_reducible apply at_loadE); refine ⟨?_⟩; refine wl_loadE (by assumption) (by rfl) (by first | ((repeat (first | with_reducible apply pick0 | with_reducible apply pick_there)); done) | ((repeat (first | apply pick0 | apply pick_there)); done) | fail) (by first | rfl | assumption | exact Hid.out (by assumption)) ?_) | ((with_reducible apply at_buildE); refine ⟨?_⟩; refine wl_buildE (by assumption) (by rfl) Hk.out ?_; intro bN wN hN))
  refine (few_c (lv := .slice (some ⟨bN, 0, none⟩) 1 1) [(e, .slice da e.data.length dc)] 1 300 (by decide) (by decide) (ro_one Hk.out) (fun p hp => by
    rw [List.mem_singleton] at hp
    subst hp
    exact ⟨Hk.out, Ro.of_sub Hd.out (by repeat (first | (with_reducible apply sub_refl) | ((with_reducible apply sub_take); (· first | ((repeat (first | with_reducible apply pick0 | with_reducible apply pick_there)); done) | ((repeat (first | apply pick0 | apply pick_there)); done) | fail)) | (with_reducible apply sub_drop))), Hcap.out⟩) hN).mono ?_
  rintro ee w2 ⟨v, rfl, fs, hfs, hS2⟩
  obtain ⟨dv, rfl⟩ := few_one hfs
  have hk2 : (Frm.cutE 300 e).key.length = 32 := Hk.out
  obtain ⟨b2, c2, cs2, da2, dc2, rfl, rfl, hcs, hS3⟩ := few_open hk2 hS2
  have Hk2 := Lib.hid hk2
  have Hd2 := Lib.hid (show (Frm.cutE 300 e).data.length ≤ 300 by show (e.data.take 300).length ≤ 300; rw [List.length_take]; omega)
  generalize Frm.cutE 300 e = f at *
  have Hcs := Lib.hid hcs
  clear hcs hS2 hfs hN hk2 hS1
  go_wp2_with (first
    | ((with_reducible apply at_loadE); refine ⟨?_⟩; refine wl_loadEs (b := b2) (o := 0) (by assumption) (by rfl) (by first | ((repeat (first | with_reducible apply pick0 | with_reducible apply pick_there)); done) | ((repeat (first | apply pick0 | apply pick_there)); done) | fail) Hk2.out Hcs.out ?_)
    | ((with_reducible apply at_storeE); refine ⟨?_⟩; first | (refine wl_storeE (by assumption) (by rfl) (by rfl) (by first | rfl | assumption | exact Hid.out (by assumption)) (by first | ((repeat (first | with_reducible apply upd0 | with_reducible apply upd_there)); done) | ((repeat (first | apply upd0 | apply upd_there)); done) | fail) (by first | assumption | exact entA_size _ _ rfl | exact entA_size _ _ (by assumption) | exact entA_size _ _ (Hid.out (by assumption))) ?_; intro wS hS) | (refine wl_storeE (e := Frm.zeroE) (da := none) (dn := 0) (dc := 0) (by assumption) (by rfl) (by rfl) rfl (by first | ((repeat (first | with_reducible apply upd0 | with_reducible apply upd_there)); done) | ((repeat (first | apply upd0 | apply upd_there)); done) | fail) (by first | assumption | exact entA_size _ _ rfl | exact entA_size _ _ (by assumption) | exact entA_size _ _ (Hid.out (by assumption))) ?_; intro wS hS)))
  have hS4 : Sat w0 _ (pt bX (.cells (entA f (.slice da2 f.data.length dc2)) 27 (0,0)) :: bsl (.slice da2 f.data.length dc2) f.data :: osl 43 40 (.slice oa es.length oc) (sdsL es) :: dataD es :: F) := hS.sub (by repeat (first | (with_reducible apply sub_refl) | ((with_reducible apply sub_take); (· first | ((repeat (first | with_reducible apply pick0 | with_reducible apply pick_there)); done) | ((repeat (first | apply pick0 | apply pick_there)); done) | fail)) | (with_reducible apply sub_drop)))
  clear hS hS3
  refine (within_c limit 128 1000 _).mono ?_
  rintro ee w4 ⟨v, rfl, rfl, rfl⟩
  have hlim := within_mem limit 128 1000 (by decide)
  generalize within limit 128 1000 = lim at *
  go_wp2_with fail
  refine (new_yes 1048576 (by decide) hS4).mono ?_
  rintro ee w5 ⟨v, rfl, m, rfl, hS5⟩
  have hop := open_c (K := 0) (Med.Ok.new 0 1048576 (by decide)) lim hS5 (by rfl) (by omega) (by omega)
  have hfr : Seg.fresh (Med.new 1048576) lim = ⟨lim, [], false, 0⟩ := rfl
  rw [hfr] at hop
  go_wp2_with fail
  refine hop.mono ?_
  rintro ee w6 ⟨v, rfl, p, rfl, hS6⟩
  clear hop hfr hS5 hS4
  have hK0 : Seg.Keeps (0 * 5) 1048576 ⟨lim, [], false, 0⟩ (Med.new 1048576) := ⟨⟨⟨hlim.1, (by show lim ≤ 1048576; omega)⟩, List.Pairwise.nil, (fun s hs => by cases hs), (fun s hs => by cases hs), ⟨Int.le_refl _, by simp⟩, fun hh => by cases hh⟩, Seg.Calm.new 0 1048576 (by decide), fun s hs => by cases hs⟩
  have HK0 := Lib.hid hK0
  clear hK0 hlim
  go_wp2_with fail
  go_loopg [13] es.length (fun g iq wr => ∃ (i : Nat) (L : Seg.Log) (M : Med), g = es.length - i ∧ i ≤ es.length ∧ iq = .int .i64 i ∧ Seg.Keeps (i * 5) 1048576 L M ∧
    Sat w0 wr (LogRep p m L :: MedRep m M :: osl 43 40 (.slice oa es.length oc) (sdsL es) :: dataD es :: pt bX (.cells (entA f (.slice da2 f.data.length dc2)) 27 (0,0)) :: bsl (.slice da2 f.data.length dc2) f.data :: F))
  case atStart => exact ⟨0, _, _, rfl, Nat.zero_le _, rfl, HK0.out, Sat.sub hS6 (by repeat (first | (with_reducible apply sub_refl) | ((with_reducible apply sub_take); (· first | ((repeat (first | with_reducible apply pick0 | with_reducible apply pick_there)); done) | ((repeat (first | apply pick0 | apply pick_there)); done) | fail)) | (with_reducible apply sub_drop)))⟩
  case round =>
    obtain ⟨i, L, M, rfl, hi, rfl, hK, hS⟩ := hrel
    clear hS6 HK0
    have HK := Lib.hid hK
    have hel := Hel.out
    clear hK
    by_cases hlt : i < es.length
    · have c1 : (i : Int) < (es.length : Int) := by omega
      have hwi : IntKind.i64.wrap ((i : Int) + 1) = (i : Int) + 1 := IntWalk.i64_in _ (by omega)
      obtain ⟨d, hdi⟩ : ∃ d, es[i]? = some d := ⟨_, List.getElem?_eq_getElem hlt⟩
      have Hlt := Lib.hid hlt
      have Hro := Lib.hid (fun R => dataD_ro (w0 := w0) (R := R) hdi)
      obtain ⟨bk, off, c, hov, hcells⟩ := sds_at (fun d hd => (Hek.out d hd).1) hdi (hS.pick (by first | ((repeat (first | with_reducible apply pick0 | with_reducible apply pick_there)); done) | ((repeat (first | apply pick0 | apply pick_there)); done) | fail))
      cases hov
      have hdk := Hek.out d (List.mem_of_getElem? hdi)
      obtain ⟨⟨kind, xe, xn, xp, xl⟩, xdv, xlv⟩ := d
      obtain ⟨xda, xdn, xdc, rfl, hxl, _⟩ := (Hro.out _) _ (hS.pick (by first | ((repeat (first | with_reducible apply pick0 | with_reducible apply pick_there)); done) | ((repeat (first | apply pick0 | apply pick_there)); done) | fail))
      rw [bys_len, Nat.mul_one] at hxl
      dsimp only at hxl
      subst hxl
      have e0 : wr.cell? ⟨bk, off + i * 40, none⟩ = some (.int .i64 kind) := hcells 0 _ rfl
      have Hent := Lib.hid (show ∀ j v, (entL xe (.slice xda xe.data.length xdc))[j]? = some v → wr.cell? ⟨bk, off + i * 40 + 1 + j, none⟩ = some v from fun j v hj => by
        have := hcells (1 + j) v (sdL_ent ⟨⟨kind, xe, xn, xp, xl⟩, .slice xda xe.data.length xdc, xlv⟩ hdk.1 hj)
        rw [← Nat.add_assoc] at this; exact this)
      have Hdk := Lib.hid hdk
      clear hcells hdk hdi hlt
      by_cases hk1 : kind = 1
      · subst hk1
        go_wp2_with fail
        refine (lcommit_c (Ro.of_sub HH.out (by repeat (first | (with_reducible apply sub_refl) | ((with_reducible apply sub_take); (· first | ((repeat (first | with_reducible apply pick0 | with_reducible apply pick_there)); done) | ((repeat (first | apply pick0 | apply pick_there)); done) | fail)) | (with_reducible apply sub_drop)))) HK.out.log HK.out.calm.ok (by omega) hS).mono ?_
        rintro ee w7 ⟨v, rfl, rfl, hS7⟩
        go_wp2_with fail
        go_roundg (es.length - (i + 1))
        case measure => have := Hlt.out; omega
        case rel => exact ⟨i + 1, _, _, rfl, Nat.succ_le_of_lt Hlt.out, by first | rfl | go_num, by rw [show (i + 1) * 5 = i * 5 + 5 by omega]; exact HK.out.commit, hS7⟩
      · have hk1d : (kind == 1) = false := beq_false_of_ne hk1
        clear hk1
        go_wp2_with ((with_reducible apply at_load); refine ⟨?_⟩; refine wl_loadW (b := bk) (o := off + i * 40 + 1) (entL xe (.slice xda xe.data.length xdc)) (by rfl) Hent.out Tryd.underlying27 rfl (by rw [entL_len xe _ Hdk.out.1]; exact infoEntSize) ?_)
        refine (lappend_c xe Hdk.out.1 xda xdc (Ro.of_pick (Hro.out _) (by first | ((repeat (first | with_reducible apply pick0 | with_reducible apply pick_there)); done) | ((repeat (first | apply pick0 | apply pick_there)); done) | fail)) (Ro.of_sub HH.out (by repeat (first | (with_reducible apply sub_refl) | ((with_reducible apply sub_take); (· first | ((repeat (first | with_reducible apply pick0 | with_reducible apply pick_there)); done) | ((repeat (first | apply pick0 | apply pick_there)); done) | fail)) | (with_reducible apply sub_drop)))) (Nat.le_trans Hdk.out.2 (by decide)) HK.out.log HK.out.calm.ok (by omega) hS).mono ?_
        rintro ee w7 ⟨v, rfl, rfl, hS7⟩
        go_wp2_with fail
        go_roundg (es.length - (i + 1))
        case measure => have := Hlt.out; omega
        case rel => exact ⟨i + 1, _, _, rfl, Nat.succ_le_of_lt Hlt.out, by first | rfl | go_num, (HK.out.append xe Hdk.out.1).1.mono (by omega), hS7⟩
    · obtain rfl : i = es.length := by omega
      have c1 : ¬ (es.length : Int) < (es.length : Int) := by omega
      have hq := HK.out.calm.quiet
      have hut : M.usedTold = M.used := by unfold Med.usedTold; rw [hq.off]; rfl
      have hu := HK.out.calm.used
      have hrm := HK.out.calm.room
      have hwu : IntKind.i64.wrap ((M.used : Int) + 40) = (M.used : Int) + 40 := IntWalk.i64_in _ (by omega)
      have hur := used_rep HK.out.calm.ok (hS.pick (by first | ((repeat (first | with_reducible apply pick0 | with_reducible apply pick_there)); done) | ((repeat (first | apply pick0 | apply pick_there)); done) | fail))
      have hur2 := fun w h => used_rep (w0 := w0) (w := w) (m := m) (F := LogRep p m L :: osl 43 40 (.slice oa es.length oc) (sdsL es) :: dataD es :: pt bX (.cells (entA f (.slice da2 f.data.length dc2)) 27 (0,0)) :: bsl (.slice da2 f.data.length dc2) f.data :: F) HK.out.calm.ok h
      rw [hut] at hur hur2
      go_wp2_with fail
      refine hur.mono ?_
      rintro ee w7 ⟨v, rfl, rfl, hS7⟩
      clear hur hS
      go_wp2_with fail
      refine (hur2 _ (hS7.sub (by repeat (first | (with_reducible apply sub_refl) | ((with_reducible apply sub_take); (· first | ((repeat (first | with_reducible apply pick0 | with_reducible apply pick_there)); done) | ((repeat (first | apply pick0 | apply pick_there)); done) | fail)) | (with_reducible apply sub_drop))))).mono ?_
      rintro ee w8 ⟨v, rfl, rfl, hS8⟩
      clear hur2 hS7
      go_wp2_with fail
      refine (within_c room M.used (M.used + 40) _).mono ?_
      rintro ee w9 ⟨v, rfl, rfl, rfl⟩
      have hin := within_mem room M.used (M.used + 40) (by omega)
      obtain ⟨r, hrr⟩ := Int.eq_ofNat_of_zero_le (show 0 ≤ within room M.used (M.used + 40) by omega)
      rw [hrr] at hin
      obtain ⟨hsr, hC⟩ := Seg.setRoom_calm HK.out.calm r (by omega) (by omega)
      have hset := setRoom_c hS8 (within room M.used (M.used + 40))
      rw [hrr] at hset
      rw [hrr]
      simp only [Int.ofNat_eq_natCast] at hset hin ⊢
      rw [hsr] at hset
      go_wp2_with fail
      refine hset.mono ?_
      rintro ee w10 ⟨v, rfl, rfl, hS10⟩
      have HK2 := Lib.hid (show Seg.Keeps (es.length * 5) r L { M with room := r } from ⟨HK.out.log, hC, HK.out.has⟩)
      generalize ({ M with room := r } : Med) = M2 at *
      clear hset hS8 hC hsr hin hrr hut hu hrm hwu hq HK
      go_wp2_with fail
      refine (lsegs_c HK2.out.log (hS10.pick (by first | ((repeat (first | with_reducible apply pick0 | with_reducible apply pick_there)); done) | ((repeat (first | apply pick0 | apply pick_there)); done) | fail))).mono ?_
      rintro ee w11 ⟨v, rfl, hS11⟩
      obtain ⟨wa, wn, wc, rfl, hwl, _⟩ := Sat.rd hS11
      have hil : ∀ l : List Int, (ints l).length = l.length := fun l => List.length_map ..
      rw [hil, Nat.mul_one] at hwl
      subst hwl
      go_wp2_with fail
      refine (list_c HK2.out.calm.ok (hS11.pick (by first | ((repeat (first | with_reducible apply pick0 | with_reducible apply pick_there)); done) | ((repeat (first | apply pick0 | apply pick_there)); done) | fail))).mono ?_
      rintro ee w12 ⟨v, rfl, hS12, na, nn, nc, rfl⟩
      clear hS10 hS11
      go_wp2_with fail
      refine (lfresh_c (hS12.pick (by first | ((repeat (first | with_reducible apply pick0 | with_reducible apply pick_there)); done) | ((repeat (first | apply pick0 | apply pick_there)); done) | fail))).mono ?_
      rintro ee w13 ⟨v, rfl, rfl, rfl⟩
      have hsl := Lib.hid (show L.segs.length ≤ 1048576 by unfold Seg.Log.segs; rw [List.length_map]; exact HK2.out.log.len)
      go_wp2_with fail
      have hS13 : Sat w0 w12 (osl 25 1 (.slice none 0 0) [] :: bsz [] [] :: osl 3 1 (.slice wa L.segs.length wc) (ints L.segs) :: osl 9 1 (.slice na nn nc) (strs M2.list) :: LogRep p m L :: MedRep m M2 :: osl 43 40 (.slice oa es.length oc) (sdsL es) :: dataD es :: pt bX (.cells (entA f (.slice da2 f.data.length dc2)) 27 (0,0)) :: bsl (.slice da2 f.data.length dc2) f.data :: F) := Sat.osl_nil.2 (Sat.emp.2 (hS12.sub (by repeat (first | (with_reducible apply sub_refl) | ((with_reducible apply sub_take); (· first | ((repeat (first | with_reducible apply pick0 | with_reducible apply pick_there)); done) | ((repeat (first | apply pick0 | apply pick_there)); done) | fail)) | (with_reducible apply sub_drop)))))
      clear hS12
      go_loopg [17, 18] L.segs.length (fun g bv iq wr => ∃ (j : Nat) (vs : List Value) (ba : Option Addr) (bc : Nat), g = L.segs.length - j ∧ j ≤ L.segs.length ∧ iq = .int .i64 j ∧ bv = .slice ba vs.length bc ∧ vs.length = j ∧
        Sat w0 wr (osl 25 1 (.slice ba vs.length bc) vs :: bsz vs ((L.segs.take j).map fun n => (L.bytes M2 n).1) :: osl 3 1 (.slice wa L.segs.length wc) (ints L.segs) :: osl 9 1 (.slice na nn nc) (strs M2.list) :: LogRep p m L :: MedRep m M2 :: osl 43 40 (.slice oa es.length oc) (sdsL es) :: dataD es :: pt bX (.cells (entA f (.slice da2 f.data.length dc2)) 27 (0,0)) :: bsl (.slice da2 f.data.length dc2) f.data :: F))
      case atStart => exact ⟨0, [], none, 0, rfl, Nat.zero_le _, rfl, rfl, rfl, hS13⟩
      case round =>
        obtain ⟨j, vs, ba, bc, rfl, hj, rfl, rfl, hvs, hS⟩ := hrel
        clear hS13
        have Hvs := Lib.hid hvs
        clear hvs
        by_cases hjl : j < L.segs.length
        · have Hjl := Lib.hid hjl
          have hsl' := hsl.out
          have c1 : (j : Int) < (L.segs.length : Int) := by omega
          have hwj : IntKind.i64.wrap ((j : Int) + 1) = (j : Int) + 1 := IntWalk.i64_in _ (by omega)
          obtain ⟨s, hs⟩ : ∃ s, L.segs[j]? = some s := ⟨_, List.getElem?_eq_getElem hjl⟩
          have hx : (ints L.segs)[j]? = some (.int .i64 s) := by unfold ints; rw [List.getElem?_map, hs]; rfl
          obtain ⟨bk, off, rfl, e0⟩ := rdsl_cell (Sat.rd (hS.pick (by first | ((repeat (first | with_reducible apply pick0 | with_reducible apply pick_there)); done) | ((repeat (first | apply pick0 | apply pick_there)); done) | fail))) hx
          have Hs := Lib.hid hs
          clear hjl hx hs
          go_wp2_with fail
          refine (lbytes_c HK2.out.log HK2.out.calm.ok s (Sat.sub (by assumption) (by repeat (first | (with_reducible apply sub_refl) | ((with_reducible apply sub_take); (· first | ((repeat (first | with_reducible apply pick0 | with_reducible apply pick_there)); done) | ((repeat (first | apply pick0 | apply pick_there)); done) | fail)) | (with_reducible apply sub_drop))))).mono ?_
          rintro ee w14 ⟨v, rfl, cv, rfl, hS14⟩
          obtain ⟨ca, cn, cc, rfl, _⟩ := Sat.rd hS14
          have hvl : vs.length ≤ 2147483648 := by rw [Hvs.out]; omega
          clear hS
          go_wp2_with (first | ((with_reducible apply at_build1); refine ⟨?_⟩; refine wl_build1 (e := 25) (sz := 1) (by' := 24) (by kernel_rfl) (by assumption) (by conv => lhs; whnf) (by conv => lhs; whnf) (by rfl) (Nat.le_of_ble_eq_true (by rfl)) ?_; intro bN wN hN) | ((with_reducible apply at_append); refine ⟨?_⟩; refine wl_app 25 1 24 (by kernel_rfl) (by assumption) (by rfl) (by rfl) (by first | ((repeat (first | with_reducible apply pick0 | with_reducible apply pick_there)); done) | ((repeat (first | apply pick0 | apply pick_there)); done) | fail) (by first | ((repeat (first | with_reducible apply pick0 | with_reducible apply pick_there)); done) | ((repeat (first | apply pick0 | apply pick_there)); done) | fail) (by rfl) (Nat.le_of_ble_eq_true (by rfl)) (by rfl) (by assumption) (Nat.le_of_ble_eq_true (by rfl)) (Nat.le_of_ble_eq_true (by rfl)) (by conv => lhs; whnf) ?_; intro bA nA cA wA hA))
          obtain ⟨_, _, _, hee, hnA, _⟩ := Sat.rd hA
          cases hee
          rw [Nat.mul_one] at hnA
          subst hnA
          clear hN hS14 hsl' hvl
          go_roundg (L.segs.length - (j + 1))
          case measure => have := Hjl.out; omega
          case rel =>
            have htk : (L.segs.take (j + 1)).map (fun n => (L.bytes M2 n).1) = (L.segs.take j).map (fun n => (L.bytes M2 n).1) ++ [(L.bytes M2 s).1] := by
              rw [List.take_add_one, Hs.out, List.map_append]; rfl
            have hlen2 : vs.length = ((L.segs.take j).map fun n => (L.bytes M2 n).1).length := by
              rw [List.length_map, List.length_take, Hvs.out]; have := Hjl.out; omega
            refine ⟨j + 1, vs ++ [.slice ca cn cc], _, _, rfl, Nat.succ_le_of_lt Hjl.out, by first | rfl | go_num, rfl, by rw [List.length_append, Hvs.out]; rfl, ?_⟩
            rw [htk, bsz_snoc _ _ _ _ hlen2]
            have h10 : Sat w0 wA (bsl (.slice ca cn cc) (L.bytes M2 s).1 :: bsz vs ((L.segs.take j).map fun n => (L.bytes M2 n).1) :: osl 25 1 (.slice (some ⟨bA, 0, none⟩) (vs ++ [Value.slice ca cn cc]).length cA) (vs ++ [.slice ca cn cc]) :: osl 3 1 (.slice (some ⟨bk, off, none⟩) L.segs.length wc) (ints L.segs) :: osl 9 1 (.slice na nn nc) (strs M2.list) :: LogRep p m L :: MedRep m M2 :: osl 43 40 (.slice oa es.length oc) (sdsL es) :: dataD es :: pt bX (.cells (entA f (.slice da2 f.data.length dc2)) 27 (0,0)) :: bsl (.slice da2 f.data.length dc2) f.data :: F) := hA.sub (by repeat (first | (with_reducible apply sub_refl) | ((with_reducible apply sub_take); (· first | ((repeat (first | with_reducible apply pick0 | with_reducible apply pick_there)); done) | ((repeat (first | apply pick0 | apply pick_there)); done) | fail)) | (with_reducible apply sub_drop)))
            exact (Sat.star.2 h10).pick1
        · obtain rfl : j = L.segs.length := by omega
          have c1 : ¬ (L.segs.length : Int) < (L.segs.length : Int) := by omega
          rw [List.take_length] at hS
          clear hjl hj
          go_wp2_with ((with_reducible apply at_loadE); refine ⟨?_⟩; refine wl_loadE (by assumption) (by rfl) (by first | ((repeat (first | with_reducible apply pick0 | with_reducible apply pick_there)); done) | ((repeat (first | apply pick0 | apply pick_there)); done) | fail) (by first | rfl | assumption | exact Hid.out (by assumption)) ?_)
          have hdat : Ro w0 (bsl (.slice da2 f.data.length dc2) f.data :: osl 25 1 (.slice ba vs.length bc) vs :: bsz vs (L.segs.map fun n => (L.bytes M2 n).1) :: osl 3 1 (.slice wa L.segs.length wc) (ints L.segs) :: osl 9 1 (.slice na nn nc) (strs M2.list) :: osl 43 40 (.slice oa es.length oc) (sdsL es) :: dataD es :: pt bX (.cells (entA f (.slice da2 f.data.length dc2)) 27 (0,0)) :: F) (rdsl 1 (.slice da2 f.data.length dc2) (bys f.data)) := Ro.bsl _ _
          have hS15 : Sat w0 wr (LogRep p m L :: MedRep m M2 :: bsl (.slice da2 f.data.length dc2) f.data :: osl 25 1 (.slice ba vs.length bc) vs :: bsz vs (L.segs.map fun n => (L.bytes M2 n).1) :: osl 3 1 (.slice wa L.segs.length wc) (ints L.segs) :: osl 9 1 (.slice na nn nc) (strs M2.list) :: osl 43 40 (.slice oa es.length oc) (sdsL es) :: dataD es :: pt bX (.cells (entA f (.slice da2 f.data.length dc2)) 27 (0,0)) :: F) := hS.sub (by repeat (first | (with_reducible apply sub_refl) | ((with_reducible apply sub_take); (· first | ((repeat (first | with_reducible apply pick0 | with_reducible apply pick_there)); done) | ((repeat (first | apply pick0 | apply pick_there)); done) | fail)) | (with_reducible apply sub_drop)))
          clear hS
          refine (lappend_c f Hk2.out da2 dc2 hdat (Ro.of_sub HH.out (by repeat (first | (with_reducible apply sub_refl) | ((with_reducible apply sub_take); (· first | ((repeat (first | with_reducible apply pick0 | with_reducible apply pick_there)); done) | ((repeat (first | apply pick0 | apply pick_there)); done) | fail)) | (with_reducible apply sub_drop)))) (Nat.le_trans Hd2.out (by decide)) HK2.out.log HK2.out.calm.ok (by have := Hel.out; omega) hS15).mono ?_
          rintro ee w16 ⟨v, rfl, rfl, hS16⟩
          obtain ⟨hK3, hbad⟩ := HK2.out.append f Hk2.out
          have HK3 := Lib.hid hK3
          have Hbad := Lib.hid hbad
          clear hdat hS15 hK3 hbad
          generalize L.append M2 f = r3 at *
          obtain ⟨⟨L3, M3⟩, p3, e3⟩ := r3
          change Hid (Seg.Keeps (es.length * 5 + 4) r L3 M3) at HK3
          by_cases he0 : e3 = 0
          · subst he0
            go_wp2_with fail
            refine (lives_c (Ro.of_sub HH.out (by repeat (first | (with_reducible apply sub_refl) | ((with_reducible apply sub_take); (· first | ((repeat (first | with_reducible apply pick0 | with_reducible apply pick_there)); done) | ((repeat (first | apply pick0 | apply pick_there)); done) | fail)) | (with_reducible apply sub_drop)))) hS16).mono ?_
            rintro ee w17 ⟨v, rfl, rfl, hS17⟩
            go_wp2
            go_ret
            exact ⟨_, rfl, rfl, hS17.sub (by repeat (first | (with_reducible apply sub_refl) | ((with_reducible apply sub_take); (· first | ((repeat (first | with_reducible apply pick0 | with_reducible apply pick_there)); done) | ((repeat (first | apply pick0 | apply pick_there)); done) | fail)) | (with_reducible apply sub_drop)))⟩
          · have he0d : (e3 == 0) = false := beq_false_of_ne he0
            obtain ⟨b1, b2, b3, b4⟩ := Hbad.out he0
            by_cases h11 : e3 = 11
            · subst h11
              have hfull := b4 rfl
              have hut : M3.usedTold = M3.used := by unfold Med.usedTold; rw [HK3.out.calm.quiet.off]; rfl
              have hdec : decide ((Frm.size f : Int) + 8 ≤ (M3.room : Int) - (M3.used : Int)) = false := by rw [b3.room, b3.used]; exact decide_eq_false (by omega)
              have hu2 := HK3.out.calm.used
              have hr2 := HK3.out.calm.ok.room
              have hsz : Frm.size f ≤ 16777216 := by
                have := Hd2.out
                unfold Frm.size
                split
                · omega
                · split <;> omega
              have hw1 : IntKind.i64.wrap ((Frm.size f : Int) + 8) = (Frm.size f : Int) + 8 := IntWalk.i64_in _ (by omega)
              have hw2 : IntKind.i64.wrap ((M3.room : Int) - (M3.used : Int)) = (M3.room : Int) - (M3.used : Int) := IntWalk.i64_in _ (by omega)
              clear hfull hu2 hr2 hsz he0
              go_wp2_with ((with_reducible apply at_loadE); refine ⟨?_⟩; refine wl_loadE (by assumption) (by rfl) (by first | ((repeat (first | with_reducible apply pick0 | with_reducible apply pick_there)); done) | ((repeat (first | apply pick0 | apply pick_there)); done) | fail) (by first | rfl | assumption | exact Hid.out (by assumption)) ?_)
              refine (fsize_c f Hk2.out da2 dc2 hS16 (Nat.le_trans Hd2.out (by decide))).mono ?_
              rintro ee w17 ⟨v, rfl, rfl, hS17⟩
              clear hS16
              go_wp2_with fail
              refine (room_c (hS17.pick (by first | ((repeat (first | with_reducible apply pick0 | with_reducible apply pick_there)); done) | ((repeat (first | apply pick0 | apply pick_there)); done) | fail))).mono ?_
              rintro ee w18 ⟨v, rfl, rfl, rfl⟩
              have hur := used_rep HK3.out.calm.ok (hS17.pick (by first | ((repeat (first | with_reducible apply pick0 | with_reducible apply pick_there)); done) | ((repeat (first | apply pick0 | apply pick_there)); done) | fail))
              rw [hut] at hur
              go_wp2_with fail
              refine hur.mono ?_
              rintro ee w19 ⟨v, rfl, rfl, hS19⟩
              clear hur hS17 hut
              have hfr2 := b2
              go_wp2_with fail
              refine (lfresh_c (hS19.pick (by first | ((repeat (first | with_reducible apply pick0 | with_reducible apply pick_there)); done) | ((repeat (first | apply pick0 | apply pick_there)); done) | fail))).mono ?_
              rintro ee w20 ⟨v, rfl, rfl, rfl⟩
              rw [hfr2]
              have hfe : (L.fresh == L.fresh) = true := beq_self_eq_true _
              clear hdec hw1 hw2
              have HSS : Sat w0 _ (LogRep p m L3 :: MedRep m M3 :: bsl (.slice da2 f.data.length dc2) f.data :: osl 25 1 (.slice ba vs.length bc) vs :: bsz vs (L.segs.map fun n => (L.bytes M2 n).1) :: osl 3 1 (.slice wa L.segs.length wc) (ints L.segs) :: osl 9 1 (.slice na nn nc) (strs M2.list) :: osl 43 40 (.slice oa es.length oc) (sdsL es) :: dataD es :: pt bX (.cells (entA f (.slice da2 f.data.length dc2)) 27 (0,0)) :: F) := hS19.sub (by repeat (first | (with_reducible apply sub_refl) | ((with_reducible apply sub_take); (· first | ((repeat (first | with_reducible apply pick0 | with_reducible apply pick_there)); done) | ((repeat (first | apply pick0 | apply pick_there)); done) | fail)) | (with_reducible apply sub_drop)))
              clear hS19
              have hres : ∀ n ∈ L.segs, L3.bytes M3 n = ((L.bytes M2 n).1, 0) := fun n hn => by
                rw [Seg.bytes_same b1 b3 n, ← Seg.bytes_ok HK2.out hn]
              have hsg : L3.segs = L.segs := by unfold Seg.Log.segs; rw [b1]
              have hli := b3.list
              have Hres := Lib.hid hres; have Hsg := Lib.hid hsg; have Hli := Lib.hid hli
              clear b1 b2 b3 b4 hres hsg hli Hbad
              go_wp2_with fail
              go_loopg [21] L.segs.length (fun g iq wr => ∃ (j : Nat), g = L.segs.length - j ∧ j ≤ L.segs.length ∧ iq = .int .i64 j ∧
                Sat w0 wr (LogRep p m L3 :: MedRep m M3 :: bsl (.slice da2 f.data.length dc2) f.data :: osl 25 1 (.slice ba vs.length bc) vs :: bsz vs (L.segs.map fun n => (L.bytes M2 n).1) :: osl 3 1 (.slice wa L.segs.length wc) (ints L.segs) :: osl 9 1 (.slice na nn nc) (strs M2.list) :: osl 43 40 (.slice oa es.length oc) (sdsL es) :: dataD es :: pt bX (.cells (entA f (.slice da2 f.data.length dc2)) 27 (0,0)) :: F))
              case atStart => exact ⟨0, rfl, Nat.zero_le _, rfl, HSS⟩
              case round =>
                obtain ⟨j, rfl, hj, rfl, hS⟩ := hrel
                clear HSS
                by_cases hjl : j < L.segs.length
                · have Hjl := Lib.hid hjl
                  have hsl' := hsl.out
                  have c1 : (j : Int) < (L.segs.length : Int) := by omega
                  have c2 : (j : Int) < (vs.length : Int) := by rw [Hvs.out]; exact c1
                  have hwj : IntKind.i64.wrap ((j : Int) + 1) = (j : Int) + 1 := IntWalk.i64_in _ (by omega)
                  obtain ⟨s, hs⟩ : ∃ s, L.segs[j]? = some s := ⟨_, List.getElem?_eq_getElem hjl⟩
                  obtain ⟨xv, hxv⟩ : ∃ xv, vs[j]? = some xv := ⟨_, List.getElem?_eq_getElem (by rw [Hvs.out]; exact hjl)⟩
                  have hx : (ints L.segs)[j]? = some (.int .i64 s) := by unfold ints; rw [List.getElem?_map, hs]; rfl
                  obtain ⟨bk, off, rfl, e0⟩ := rdsl_cell (Sat.rd (hS.pick (by first | ((repeat (first | with_reducible apply pick0 | with_reducible apply pick_there)); done) | ((repeat (first | apply pick0 | apply pick_there)); done) | fail))) hx
                  have hbs : (L.segs.map fun n => (L.bytes M2 n).1)[j]? = some (L.bytes M2 s).1 := by rw [List.getElem?_map, hs]; rfl
                  have Hbr := Lib.hid (fun R => bsz_ro (w0 := w0) (R := R) hxv hbs)
                  have Hmem := Lib.hid (Hres.out s (List.mem_of_getElem? hs))
                  have Hxv := Lib.hid hxv
                  have Hbl := Lib.hid (show (L.bytes M2 s).1.length ≤ 9223372036854775807 by
                    have := Seg.bytes_len (L := L) HK2.out.calm.ok s; omega)
                  have hby := lbytes_c HK3.out.log HK3.out.calm.ok s hS
                  rw [Hmem.out] at hby
                  clear hjl hx hs hxv hbs
                  go_wp2_with fail
                  refine hby.mono ?_
                  rintro ee w20 ⟨v, rfl, cv, rfl, hS20⟩
                  clear hby hS
                  obtain ⟨bk2, off2, hba, e2⟩ := rdsl_cell (Sat.rd (hS20.pick (by first | ((repeat (first | with_reducible apply pick0 | with_reducible apply pick_there)); done) | ((repeat (first | apply pick0 | apply pick_there)); done) | fail))) Hxv.out
                  cases hba
                  go_wp2_with fail
                  refine (same_c (L.bytes M2 s).1 (Ro.bsl _ _) (Ro.of_pick (Hbr.out _) (by first | ((repeat (first | with_reducible apply pick0 | with_reducible apply pick_there)); done) | ((repeat (first | apply pick0 | apply pick_there)); done) | fail)) hS20 Hbl.out).mono ?_
                  rintro ee w21 ⟨v, rfl, rfl, hS21⟩
                  clear hS20 e2 e0
                  go_wp2_with fail
                  go_roundg (L.segs.length - (j + 1))
                  case measure => have := Hjl.out; omega
                  case rel => exact ⟨j + 1, rfl, Nat.succ_le_of_lt Hjl.out, by first | rfl | go_num, hS21.sub (by repeat (first | (with_reducible apply sub_refl) | ((with_reducible apply sub_take); (· first | ((repeat (first | with_reducible apply pick0 | with_reducible apply pick_there)); done) | ((repeat (first | apply pick0 | apply pick_there)); done) | fail)) | (with_reducible apply sub_drop)))⟩
                · obtain rfl : j = L.segs.length := by omega
                  have c1 : ¬ (L.segs.length : Int) < (L.segs.length : Int) := by omega
                  clear hjl hj
                  go_wp2_with fail
                  refine (lsegs_c HK3.out.log hS).mono ?_
                  rintro ee w22 ⟨v, rfl, hS22⟩
                  rw [Hsg.out] at hS22
                  clear hS
                  go_wp2_with fail
                  refine (sameInts_c L.segs (fun w hw => Sat.rd (hw.pick (by first | ((repeat (first | with_reducible apply pick0 | with_reducible apply pick_there)); done) | ((repeat (first | apply pick0 | apply pick_there)); done) | fail))) (fun w hw => Sat.rd (hw.pick (by first | ((repeat (first | with_reducible apply pick0 | with_reducible apply pick_there)); done) | ((repeat (first | apply pick0 | apply pick_there)); done) | fail))) hS22 (by have := hsl.out; omega)).mono ?_
                  rintro ee w23 ⟨v, rfl, rfl, hS23⟩
                  clear hS22
                  go_wp2_with fail
                  refine (list_c HK3.out.calm.ok (hS23.pick (by first | ((repeat (first | with_reducible apply pick0 | with_reducible apply pick_there)); done) | ((repeat (first | apply pick0 | apply pick_there)); done) | fail))).mono ?_
                  rintro ee w24 ⟨v, rfl, hS24, la, ln, lc2', rfl⟩
                  rw [Hli.out] at hS24
                  clear hS23
                  have hll : M2.list.length ≤ 500 := by
                    unfold Med.list
                    split
                    · simp
                    · rw [List.length_map]; exact HK2.out.calm.ok.nowOk.len
                  go_wp2_with fail
                  refine (strSame_c M2.list M2.list (fun w hw => Sat.rd (hw.pick (by first | ((repeat (first | with_reducible apply pick0 | with_reducible apply pick_there)); done) | ((repeat (first | apply pick0 | apply pick_there)); done) | fail))) (fun w hw => Sat.rd (hw.pick (by first | ((repeat (first | with_reducible apply pick0 | with_reducible apply pick_there)); done) | ((repeat (first | apply pick0 | apply pick_there)); done) | fail))) hS24 (by omega)).mono ?_
                  rintro ee w25 ⟨v, rfl, rfl, hS25⟩
                  clear hS24
                  have hdt : decide (M2.list = M2.list) = true := decide_eq_true rfl
                  rw [hdt]
                  go_wp2_with fail
                  refine (lives_c (Ro.of_sub HH.out (by repeat (first | (with_reducible apply sub_refl) | ((with_reducible apply sub_take); (· first | ((repeat (first | with_reducible apply pick0 | with_reducible apply pick_there)); done) | ((repeat (first | apply pick0 | apply pick_there)); done) | fail)) | (with_reducible apply sub_drop)))) hS25).mono ?_
                  rintro ee w26 ⟨v, rfl, rfl, hS26⟩
                  go_wp2
                  go_ret
                  exact ⟨_, rfl, rfl, hS26.sub (by repeat (first | (with_reducible apply sub_refl) | ((with_reducible apply sub_take); (· first | ((repeat (first | with_reducible apply pick0 | with_reducible apply pick_there)); done) | ((repeat (first | apply pick0 | apply pick_there)); done) | fail)) | (with_reducible apply sub_drop)))⟩
            · have he11 : (e3 == 11) = false := beq_false_of_ne h11
              clear h11 he0
              have HSS := hS16
              clear hS16
              have hres : ∀ n ∈ L.segs, L3.bytes M3 n = ((L.bytes M2 n).1, 0) := fun n hn => by
                rw [Seg.bytes_same b1 b3 n, ← Seg.bytes_ok HK2.out hn]
              have hsg : L3.segs = L.segs := by unfold Seg.Log.segs; rw [b1]
              have hli := b3.list
              have Hres := Lib.hid hres; have Hsg := Lib.hid hsg; have Hli := Lib.hid hli
              clear b1 b2 b3 b4 hres hsg hli Hbad
              go_wp2_with fail
              go_loopg [21] L.segs.length (fun g iq wr => ∃ (j : Nat), g = L.segs.length - j ∧ j ≤ L.segs.length ∧ iq = .int .i64 j ∧
                Sat w0 wr (LogRep p m L3 :: MedRep m M3 :: bsl (.slice da2 f.data.length dc2) f.data :: osl 25 1 (.slice ba vs.length bc) vs :: bsz vs (L.segs.map fun n => (L.bytes M2 n).1) :: osl 3 1 (.slice wa L.segs.length wc) (ints L.segs) :: osl 9 1 (.slice na nn nc) (strs M2.list) :: osl 43 40 (.slice oa es.length oc) (sdsL es) :: dataD es :: pt bX (.cells (entA f (.slice da2 f.data.length dc2)) 27 (0,0)) :: F))
              case atStart => exact ⟨0, rfl, Nat.zero_le _, rfl, HSS⟩
              case round =>
                obtain ⟨j, rfl, hj, rfl, hS⟩ := hrel
                clear HSS
                by_cases hjl : j < L.segs.length
                · have Hjl := Lib.hid hjl
                  have hsl' := hsl.out
                  have c1 : (j : Int) < (L.segs.length : Int) := by omega
                  have c2 : (j : Int) < (vs.length : Int) := by rw [Hvs.out]; exact c1
                  have hwj : IntKind.i64.wrap ((j : Int) + 1) = (j : Int) + 1 := IntWalk.i64_in _ (by omega)
                  obtain ⟨s, hs⟩ : ∃ s, L.segs[j]? = some s := ⟨_, List.getElem?_eq_getElem hjl⟩
                  obtain ⟨xv, hxv⟩ : ∃ xv, vs[j]? = some xv := ⟨_, List.getElem?_eq_getElem (by rw [Hvs.out]; exact hjl)⟩
                  have hx : (ints L.segs)[j]? = some (.int .i64 s) := by unfold ints; rw [List.getElem?_map, hs]; rfl
                  obtain ⟨bk, off, rfl, e0⟩ := rdsl_cell (Sat.rd (hS.pick (by first | ((repeat (first | with_reducible apply pick0 | with_reducible apply pick_there)); done) | ((repeat (first | apply pick0 | apply pick_there)); done) | fail))) hx
                  have hbs : (L.segs.map fun n => (L.bytes M2 n).1)[j]? = some (L.bytes M2 s).1 := by rw [List.getElem?_map, hs]; rfl
                  have Hbr := Lib.hid (fun R => bsz_ro (w0 := w0) (R := R) hxv hbs)
                  have Hmem := Lib.hid (Hres.out s (List.mem_of_getElem? hs))
                  have Hxv := Lib.hid hxv
                  have Hbl := Lib.hid (show (L.bytes M2 s).1.length ≤ 9223372036854775807 by
                    have := Seg.bytes_len (L := L) HK2.out.calm.ok s; omega)
                  have hby := lbytes_c HK3.out.log HK3.out.calm.ok s hS
                  rw [Hmem.out] at hby
                  clear hjl hx hs hxv hbs
                  go_wp2_with fail
                  refine hby.mono ?_
                  rintro ee w20 ⟨v, rfl, cv, rfl, hS20⟩
                  clear hby hS
                  obtain ⟨bk2, off2, hba, e2⟩ := rdsl_cell (Sat.rd (hS20.pick (by first | ((repeat (first | with_reducible apply pick0 | with_reducible apply pick_there)); done) | ((repeat (first | apply pick0 | apply pick_there)); done) | fail))) Hxv.out
                  cases hba
                  go_wp2_with fail
                  refine (same_c (L.bytes M2 s).1 (Ro.bsl _ _) (Ro.of_pick (Hbr.out _) (by first | ((repeat (first | with_reducible apply pick0 | with_reducible apply pick_there)); done) | ((repeat (first | apply pick0 | apply pick_there)); done) | fail)) hS20 Hbl.out).mono ?_
                  rintro ee w21 ⟨v, rfl, rfl, hS21⟩
                  clear hS20 e2 e0
                  go_wp2_with fail
                  go_roundg (L.segs.length - (j + 1))
                  case measure => have := Hjl.out; omega
                  case rel => exact ⟨j + 1, rfl, Nat.succ_le_of_lt Hjl.out, by first | rfl | go_num, hS21.sub (by repeat (first | (with_reducible apply sub_refl) | ((with_reducible apply sub_take); (· first | ((repeat (first | with_reducible apply pick0 | with_reducible apply pick_there)); done) | ((repeat (first | apply pick0 | apply pick_there)); done) | fail)) | (with_reducible apply sub_drop)))⟩
                · obtain rfl : j = L.segs.length := by omega
                  have c1 : ¬ (L.segs.length : Int) < (L.segs.length : Int) := by omega
                  clear hjl hj
                  go_wp2_with fail
                  refine (lsegs_c HK3.out.log hS).mono ?_
                  rintro ee w22 ⟨v, rfl, hS22⟩
                  rw [Hsg.out] at hS22
                  clear hS
                  go_wp2_with fail
                  refine (sameInts_c L.segs (fun w hw => Sat.rd (hw.pick (by first | ((repeat (first | with_reducible apply pick0 | with_reducible apply pick_there)); done) | ((repeat (first | apply pick0 | apply pick_there)); done) | fail))) (fun w hw => Sat.rd (hw.pick (by first | ((repeat (first | with_reducible apply pick0 | with_reducible apply pick_there)); done) | ((repeat (first | apply pick0 | apply pick_there)); done) | fail))) hS22 (by have := hsl.out; omega)).mono ?_
                  rintro ee w23 ⟨v, rfl, rfl, hS23⟩
                  clear hS22
                  go_wp2_with fail
                  refine (list_c HK3.out.calm.ok (hS23.pick (by first | ((repeat (first | with_reducible apply pick0 | with_reducible apply pick_there)); done) | ((repeat (first | apply pick0 | apply pick_there)); done) | fail))).mono ?_
                  rintro ee w24 ⟨v, rfl, hS24, la, ln, lc2', rfl⟩
                  rw [Hli.out] at hS24
                  clear hS23
                  have hll : M2.list.length ≤ 500 := by
                    unfold Med.list
                    split
                    · simp
                    · rw [List.length_map]; exact HK2.out.calm.ok.nowOk.len
                  go_wp2_with fail
                  refine (strSame_c M2.list M2.list (fun w hw => Sat.rd (hw.pick (by first | ((repeat (first | with_reducible apply pick0 | with_reducible apply pick_there)); done) | ((repeat (first | apply pick0 | apply pick_there)); done) | fail))) (fun w hw => Sat.rd (hw.pick (by first | ((repeat (first | with_reducible apply pick0 | with_reducible apply pick_there)); done) | ((repeat (first | apply pick0 | apply pick_there)); done) | fail))) hS24 (by omega)).mono ?_
                  rintro ee w25 ⟨v, rfl, rfl, hS25⟩
                  clear hS24
                  have hdt : decide (M2.list = M2.list) = true := decide_eq_true rfl
                  rw [hdt]
                  go_wp2_with fail
                  refine (lives_c (Ro.of_sub HH.out (by repeat (first | (with_reducible apply sub_refl) | ((with_reducible apply sub_take); (· first | ((repeat (first | with_reducible apply pick0 | with_reducible apply pick_there)); done) | ((repeat (first | apply pick0 | apply pick_there)); done) | fail)) | (with_reducible apply sub_drop)))) hS25).mono ?_
                  rintro ee w26 ⟨v, rfl, rfl, hS26⟩
                  go_wp2
                  go_ret
                  exact ⟨_, rfl, rfl, hS26.sub (by repeat (first | (with_reducible apply sub_refl) | ((with_reducible apply sub_take); (· first | ((repeat (first | with_reducible apply pick0 | with_reducible apply pick_there)); done) | ((repeat (first | apply pick0 | apply pick_there)); done) | fail)) | (with_reducible apply sub_drop)))⟩
end
end Go.Proofs.YtjklhichekmdhaaDoor
/-
  'SegsFullCardSaid': whatever the input, the law SegsFull returns true and the input reads as it did; the table of crc is tied to the program's text. No condition.
-/
namespace Go.Proofs.YtjklhichekmdhaaDoor.fullS
open Go.ChangeShapes Go.WideShapes Go.ChangeAt Go.RowKit
open Go.ChangeMaps (open_string shut_string)
open Go Go.Sl Go.Med Go.Proofs.YtjklhichekmdhaaDoor.card
set_option linter.unusedVariables false
theorem walk {W : World} {v2 : Value} (z0 : Int) (w0 : inI z0) (z1 : Int) (w1 : inI z1) (l2 : List SD) (r2 : rdsl 40 v2 (sdsL l2) W) (c2 : capOk v2) (i2 : ∀ d ∈ l2, d.At W) (d3 : Frm.Ent × Value) (cs3 : Array Value) (e3 : entL d3.1 d3.2 = (Value.agg cs3).cells.toList) (i3 : EntAt W d3) (h : 0 < W.heap.size ∧ Half W) :
    Calls Tryd.prog 3 #[.int .i64 z0, .int .i64 z1, v2, .agg cs3] W fun e w' => e = .returned (.bool true) ∧ Below W.heap.size W w' := by
  have hcs3 : cs3 = entA d3.1 d3.2 := by
    have : cs3.toList = entL d3.1 d3.2 := e3.symm
    exact putsAt_eq this
  subst hcs3
  obtain ⟨e03, dv3⟩ := d3
  obtain ⟨da3, dn3, dc3, rfl, q13, q23⟩ := i3.cap
  have hdl3 : dn3 = e03.data.length := by
    obtain ⟨_, _, _, he, hl, _⟩ := i3.rd
    cases he
    rw [bys_len, Nat.mul_one] at hl; exact hl.symm
  subst hdl3
  refine (segs_full_c (F := [Sl.old W]) z0 z1 l2 (rd_old r2) (fun d hd => (i2 d hd).ro) e03 i3.key da3 dc3 (rd_old i3.rd) i3.cap (fun w hw i hi => (hw.below.cell (p := ⟨0, i, none⟩) h.1).trans (h.2 i hi)) (Sat.start W)).mono ?_
  rintro e w' ⟨v, rfl, rfl, hS⟩
  exact ⟨rfl, hS.below⟩
set_option maxRecDepth 100000 in
theorem lifted (os : Os) (started : os.Started) (H : Type) (enc : TypeId × Value → H) :
    ReturnsInHanded {} Tryd.checked os 3 .any (fun w args => (Rows.segsFullSpec.pre enc Tryd.prog Tryd.f3 [] false w args ∧ laidMetH Tryd.prog [("hoard/crc.half", Rows.laid_hoard_crc_half)] w) ∧ sizedMet enc Tryd.prog Tryd.f3 (OpenSpec.ofChange Rows.segsFullSpec) false w args)
      (Rows.segsFullSpec.post enc Tryd.prog Tryd.f3 false true false false) := by
  refine returnsInHanded_of_change_and (C := Tryd.checked) (X := fun w _ => laidMetH Tryd.prog [("hoard/crc.half", Rows.laid_hoard_crc_half)] w) (fun _ _ _ hh h => h.of_heap hh) own started (by kernel_rfl) Tryd.func3
    (ChangeSpec.witness_shaped (enc := enc) (C := Tryd.checked) (os := os) (X := fun w _ => laidMetH Tryd.prog [("hoard/crc.half", Rows.laid_hoard_crc_half)] w) false (World.doorLaid Tryd.prog 400 os) #[.int .i64 0, .int .i64 0, .slice none 0 0, zeroEntV] 8 rfl (World.shaped_of_RefB (by kernel_rfl) (by kernel_rfl)) (by kernel_rfl) (by kernel_rfl) (by kernel_rfl) (door_met os _)) ?_
  intro W base args ds gs before hval0 hW _ _ hL _
  have hval : ∀ (j : Nat) t v, Tryd.f3.params[j]? = some t → args[j]? = some v → Value.okWide Tryd.prog W .any base t v := hval0
  have hW' := hW
  obtain ⟨p, q, hA0, hV, rfl, hfz, hnd⟩ := hW
  have hA : DataW.TrodAll enc Tryd.prog W 0 (fun _ => true) true Tryd.f3.params.toList args.toList ds p := hA0
  rw [Tryd.params3] at hA hval
  obtain ⟨v0, vs0, d0, ds0, p0, q0, hargs, rfl, rfl, h0, r0⟩ := trodAll_cons hA
  obtain ⟨v1, vs1, d1, ds1, p1, q1, rfl, rfl, rfl, h1, r1⟩ := trodAll_cons r0
  obtain ⟨v2, vs2, d2, ds2, p2, q2, rfl, rfl, rfl, h2, r2⟩ := trodAll_cons r1
  obtain ⟨v3, vs3, d3, ds3, p3, q3, rfl, rfl, rfl, h3, r3⟩ := trodAll_cons r2
  obtain ⟨rfl, rfl, rfl⟩ := trodAll_nil r3
  obtain rfl : args = #[v0, v1, v2, v3] := by cases args; simp_all
  obtain ⟨rfl, rfl⟩ := trodVars_none hV
  obtain ⟨z0, rfl⟩ := okWide_int Tryd.underlying3 (hval 0 3 v0 rfl rfl)
  obtain ⟨z1, rfl⟩ := okWide_int Tryd.underlying3 (hval 1 3 v1 rfl rfl)
  obtain ⟨a2, len2, cap2, rfl⟩ := okWide_slice Tryd.underlying22 (hval 2 22 v2 rfl rfl)
  obtain ⟨cs3, rfl, hcs3⟩ := okWide_struct Tryd.underlying27 (hval 3 27 v3 rfl rfl)
  have k0 := h0
  have k1 := h1
  have k2 := h2
  have k3 := h3
  have lt0 : ∀ x ∈ p0, x.block < W.heap.size := by obtain ⟨m, hm⟩ := k0; exact DataW.trod_lt m _ _ _ hm
  have lt1 : ∀ x ∈ p1, x.block < W.heap.size := by obtain ⟨m, hm⟩ := k1; exact DataW.trod_lt m _ _ _ hm
  have lt2 : ∀ x ∈ p2, x.block < W.heap.size := by obtain ⟨m, hm⟩ := k2; exact DataW.trod_lt m _ _ _ hm
  have lt3 : ∀ x ∈ p3, x.block < W.heap.size := by obtain ⟨m, hm⟩ := k3; exact DataW.trod_lt m _ _ _ hm
  have w0 : inI z0 := by
    obtain ⟨fuel, hf⟩ := h0
    obtain ⟨n, hn, _, hw⟩ := DataW.trod_int Tryd.underlying3 hf
    obtain rfl : z0 = n := by simpa [Value.cells] using hn
    exact bounds_i64 hw
  have w1 : inI z1 := by
    obtain ⟨fuel, hf⟩ := h1
    obtain ⟨n, hn, _, hw⟩ := DataW.trod_int Tryd.underlying3 hf
    obtain rfl : z1 = n := by simpa [Value.cells] using hn
    exact bounds_i64 hw
  obtain ⟨l2, r2, c2, i2⟩ : ∃ ds : List SD, rdsl 40 (.slice a2 len2 cap2) (sdsL ds) W ∧ capOk (.slice a2 len2 cap2) ∧ ∀ d ∈ ds, d.At W := by
    obtain ⟨fuel, hf⟩ := h2
    exact in_sds hf
  obtain ⟨d3, e3, i3⟩ : ∃ p : Frm.Ent × Value, entL p.1 p.2 = (Value.agg cs3).cells.toList ∧ EntAt W p := by
    obtain ⟨fuel, hf⟩ := h3
    exact open_ent hf
  clear hA0 hval0
  refine (walk z0 w0 z1 w1 l2 r2 c2 i2 d3 cs3 e3 i3 (of_laid hL)).mono fun e W' ⟨he, bel⟩ => ?_
  subst he
  exact ⟨_, rfl, _, _, _, [], _, [], hW', trodAll_mk1 (shut_bool Tryd.underlying4 _), (trodAll_cons_mk (Below.trod laidOut (by kernel_rfl) (of_decide_eq_true (by kernel_rfl)) k0 bel lt0) (trodAll_cons_mk (Below.trod laidOut (by kernel_rfl) (of_decide_eq_true (by kernel_rfl)) k1 bel lt1) (trodAll_cons_mk (Below.trod laidOut (by kernel_rfl) (of_decide_eq_true (by kernel_rfl)) k2 bel lt2) (trodAll_cons_mk (Below.trod laidOut (by kernel_rfl) (of_decide_eq_true (by kernel_rfl)) k3 bel lt3) trodAll_mk0)))), rfl, bel.frame _, fun h => by cases h⟩
theorem over : Rows.segsFullRow.holds Tryd.pinned (OpenSpec.ofChange Rows.segsFullSpec) :=
  OpenClaim.holds_of_wide 3 Tryd.f3 rfl rfl rfl rfl rfl rfl rfl ⟨rfl, rfl, rfl, rfl, rfl⟩ rfl rfl rfl rfl rfl (by kernel_rfl) Tryd.func3 (by kernel_rfl)
    (of_decide_eq_true (by kernel_rfl)) (by unfold Func.isWrapper; first | (rw [if_pos (by decide +kernel)]; kernel_rfl) | (rw [if_neg (by decide +kernel)]; exact ⟨rfl, rfl⟩))
    (fun os started H enc _ => lifted os started H enc)
/-- The statement: the tied card. -/
theorem proved : Rows.SegsFullCardSaid :=
  Claim7.holds_tied_plain_at .later [] [.data] true (true, "6498177a5efb1324f5ed83f2f949a3e7c8e5c0d93f38d204e081d032c646de08") false
    over (fun _ h => by cases h) (by kernel_rfl) (fun _ h => by cases h) segsFull_row_tie rfl ⟨rfl, rfl⟩ (by kernel_rfl) rfl
    (fun f fn hf hfn => by
      obtain rfl : f = 3 := Option.some.inj ((show Tryd.prog.funcNamed "hoard/hoardlaw14.SegsFull" = some 3 by kernel_rfl).symm.trans hf) |>.symm
      obtain rfl : fn = Tryd.f3 := (Option.some.inj (Tryd.func3.symm.trans hfn)).symm
      exact ⟨by kernel_rfl, fun j t ht => by
        rw [Tryd.params3] at ht
        have h3 : t = 3 ∨ t = 22 ∨ t = 27 := by
          rcases j with _ | _ | _ | _ | j
          · left; simpa using ht.symm
          · left; simpa using ht.symm
          · right; left; simpa using ht.symm
          · right; right; simpa using ht.symm
          · simp at ht
        rcases h3 with rfl | rfl | rfl
        · exact (show Tryd.prog.wantsStandIn 3 = false by kernel_rfl)
        · exact (show Tryd.prog.wantsStandIn 22 = false by kernel_rfl)
        · exact (show Tryd.prog.wantsStandIn 27 = false by kernel_rfl)⟩)
    (by kernel_rfl)
#print axioms proved
end Go.Proofs.YtjklhichekmdhaaDoor.fullS
