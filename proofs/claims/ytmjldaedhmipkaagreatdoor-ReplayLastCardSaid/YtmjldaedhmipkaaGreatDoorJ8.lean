import Derived.Test.YtmjldaedhmipkaaGreatDoorJ7
import Derived.Test.YtmjldaedhmipkaaGreatDoorRows
import Derived.Test.YtmjldaedhmipkaaGreatDoorCards
import Derived.Test.YtmjldaedhmipkaaGreatDoorTie
import Derived.ProofKit
import Derived.LaidMore
import Derived.OpenShut
import Derived.ShutString
import Derived.SevenTiedAt
set_option linter.unusedVariables false
namespace Go.Proofs.YtmjldaedhmipkaaGreatDoor
open Go Go.Sl Go.Med Go.MapKept Go.RowKit
def LastInv (fs : List (Frm.Ent × Value)) (o : Option Frm.Ent) (dv : Value) (th : Bool) : Prop :=
  (o = none ∧ th = false) ∨ ∃ q, q ∈ fs ∧ Seg.isPut q.1 ∧ o = some (Seg.toE q.1) ∧ dv = q.2 ∧ th = decide (q.1.tag = 0)
section
variable {w0 w : World} {F : List HProp} {lv : Value}
theorem ent_cells {w : World} {es : List (Frm.Ent × Value)} {la : Option Addr} {n c i : Nat} {x : Frm.Ent × Value} (hk : ∀ p ∈ es, p.1.key.length = 32) (h : rdsl 34 (.slice la n c) (entsL es) w) (hx : es[i]? = some x) :
    ∃ bk off, la = some ⟨bk, off, none⟩ ∧ w.cell? ⟨bk, off + i * 34, none⟩ = some (.int .i64 x.1.tag) ∧ w.rangeAt bk (off + i * 34 + 1) (bys x.1.key) ∧ w.cell? ⟨bk, off + i * 34 + 33, none⟩ = some x.2 := by
  obtain ⟨bk, off, hbo, hcell⟩ := rdsl_cells h (entsL_at hk hx (entL_at0 _ _))
  refine ⟨bk, off, hbo, hcell _ _ (entsL_at hk hx (entL_at0 _ _)), fun j y hj => ?_, ?_⟩
  · have := hcell _ _ (entsL_at hk hx (entL_key _ x.2 hj))
    rw [show off + (i * 34 + (1 + j)) = off + i * 34 + 1 + j by omega] at this
    exact this
  · have := hcell _ _ (entsL_at hk hx (entL_at33 _ _ (hk x (List.mem_of_getElem? hx))))
    rw [show off + (i * 34 + 33) = off + i * 34 + 33 by omega] at this
    exact this
set_option maxRecDepth 20000 in
set_option maxHeartbeats 64000000 in
theorem replay_last_c (es : List (Frm.Ent × Value)) (z : Int) (k : Frm.Bs) (hkl : k.length = 32) (hr : Ro w0 F (rdsl 34 lv (entsL es))) (he : ∀ p ∈ es, EntRo w0 F p) (hH : Ro w0 F Half) (h : Sat w0 w F) :
    Calls Tryz.prog 8 #[.int .i64 z, lv, .agg (bys k).toArray] w (Rtn fun v w' => v = .bool true ∧ Sat w0 w' F) := by
  have HH := Lib.hid hH
  have Hkl := Lib.hid hkl
  have Hkn := Lib.hid (show (bys k).length = 32 by rw [bys_len]; exact hkl)
  have Hrr := Lib.hid hr; have Hre := Lib.hid he
  have Hek := Lib.hid (fun p hp => (he p hp).key)
  clear hr he hH hkl
  go_enter Tryz.func8, Tryz.ntmps8
  go_wp2_with ((with_reducible apply at_box); refine ⟨?_⟩; refine wl_box (cs := (bys k).toArray) h (by rfl) rfl ?_; intro bB wB hB)
  have hfe := few15_c es 50 (by decide) (Ro.os Hrr.out) (fun p hp => ⟨(Hre.out p hp).key, Ro.of_sub (Hre.out p hp).rd sbD, (Hre.out p hp).cap⟩) hB
  clear h hB Hrr Hre
  refine hfe.mono ?_
  rintro ee w1 ⟨v, rfl, fs, hfs, h1⟩
  clear hfe
  have hfk : ∀ q ∈ fs, q.1.key.length = 32 := few_keys (i := 50) hfs Hek.out
  obtain ⟨hfl, hfd⟩ := few_le hfs
  have Hfk := Lib.hid hfk; have Hfl := Lib.hid hfl; have Hfd := Lib.hid hfd
  clear hfs hfk hfl hfd Hek
  have h2 : Sat w0 w1 (dataS fs :: osl 107 34 v (entsL fs) :: pt bB (.cells (bys k).toArray 41 (0,0)) :: F) := h1.sb
  clear h1
  obtain ⟨u1, un, uc, rfl, hul, _⟩ := id (Sat.rd (h2.pick pick1))
  obtain rfl : un = fs.length := by
    rw [entsL_len Hfk.out] at hul; omega
  clear hul
  have hes := dataS_ent Hfk.out h2
  have hpl := played15_c (lv := .slice u1 fs.length uc) fs z (Nat.le_trans Hfl.out (by decide)) (Ro.of_pick (fun w hw => Sat.rd hw) pick1) hes (fun q hq => Nat.le_trans (Hfd.out q hq) (by decide)) (Ro.os HH.out) h2
  have Hds := Lib.hid (show ∀ d ∈ fs.map (·.1), d.key.length = 32 ∧ d.data.length ≤ 300 from fun d hd => by
    obtain ⟨q, hq, rfl⟩ := List.mem_map.1 hd
    exact ⟨Hfk.out q hq, Nat.le_trans (Hfd.out q hq) (by decide)⟩)
  have Hdl := Lib.hid (show (fs.map (·.1)).length ≤ 51 by rw [List.length_map]; have := Hfl.out; omega)
  have Hdi := Lib.hid (fun (i : Nat) (q : Frm.Ent × Value) (hq : fs[i]? = some q) => show (fs.map (·.1))[i]? = some q.1 by rw [List.getElem?_map, hq]; rfl)
  have Hdn := Lib.hid (show (fs.map (·.1)).length = fs.length from List.length_map ..)
  clear hes h2
  generalize fs.map (·.1) = ds at *
  generalize within z 128 3000 = lim at *
  go_wp2_with fail
  refine hpl.mono ?_
  rintro ee w2 ⟨v, rfl, p, m, rfl, ⟨hl1, hl2⟩, h3⟩
  clear hpl
  obtain ⟨C, hP, _⟩ := Seg.Pl.playL ds _ _ _ (Seg.Pl.start lim hl1 (by omega)) Hds.out (by have := Hdl.out; omega)
  rw [Nat.zero_add, List.nil_append] at hP
  have h4 : Sat w0 w2 (LogRep p m (Seg.Log.playL ds ⟨lim, [], false, 0⟩ (Med.new 1048576)).1 :: MedRep m (Seg.Log.playL ds ⟨lim, [], false, 0⟩ (Med.new 1048576)).2 :: dataS fs :: osl 107 34 (.slice u1 fs.length uc) (entsL fs) :: pt bB (.cells (bys k).toArray 41 (0,0)) :: F) := h3.sb
  clear h3 hl1 hl2
  generalize Seg.Log.playL ds ⟨lim, [], false, 0⟩ (Med.new 1048576) = r at *
  obtain ⟨L, M⟩ := r
  dsimp only at h4 hP
  obtain ⟨c, hrun, hc, hc3, hc4⟩ := hP.holds.run
  have Hlast := Lib.hid (hP.last hc hc3 hc4 k)
  clear hc3 hc4
  have HP := Lib.hid hP
  have Hrun := Lib.hid hrun; have Hc := Lib.hid hc
  have HL := Lib.hid hP.holds.keeps.log; have HM := Lib.hid hP.holds.keeps.calm.ok
  have hrl : (Rep.rowsOf (lbt L M) L.segs).length ≤ ds.length := by
    have := hP.rows_len L.segs.length
    rw [List.take_length] at this
    exact this
  have hrz : ∀ r ∈ Rep.rowsOf (lbt L M) L.segs, (r.2.size : Int) ≤ 4294967296 := fun r hr => by
    have e := hP.holds.rows L.segs.length
    rw [List.take_length, hP.holds.segs.1, List.take_length] at e
    have := hP.rows_size (r := r) (by rw [← e]; exact hr)
    omega
  have hrn := run_c HL.out HM.out (Ro.os HH.out) (Nat.le_trans hrl (Nat.le_trans Hdl.out (by decide))) hrz h4
  clear h4 hrl hrz hrun hc hP
  go_wp2_with fail
  refine hrn.mono ?_
  rintro ee w3 ⟨v, rfl, ho⟩
  clear hrn
  unfold RunOut at ho
  rw [show Rep.run (lbt L M) L.segs = .inr c from Hrun.out] at ho
  obtain ⟨ps, pi, uv, tv, av, kv, rfl, ⟨k1, k2, k3⟩, _, h5⟩ := ho
  have Hget := Lib.hid (HP.out.get Hc.out k1 k)
  have Hkb := Lib.hid (show kv.length ≤ 51 from Nat.le_trans k3 (Nat.le_trans (HP.out.rows_len c) Hdl.out))
  rw [Hlast.out] at Hget
  clear k1 k2 k3 Hrun Hc Hds HP Hlast
  generalize (Rep.usesOf (lbt L M) (L.segs.take c)).map (Rep.upd kv) = us at *
  generalize Rep.lastOfL (L.segs.take c) = last at *
  generalize kv.length = B at *
  generalize Tab.mapOf (Rep.puts kv) = mq at *
  have h6 : Sat w0 w3 (pt bB (.cells (bys k).toArray 41 (0,0)) :: osl 107 34 (.slice u1 fs.length uc) (entsL fs) :: dataS fs :: stPt ps last pi uv tv :: TabML pi mq B :: LogRep p m L :: MedRep m M :: F) := h5.sb
  clear h5
  go_wp2_with (with_reducible apply at_alloc)
  refine ⟨?_⟩
  refine wl_alloc zFlt h6 rfl ?_
  intro b7 w7 h7
  clear h6
  go_wp2_with ((with_reducible apply at_store); refine ⟨?_⟩; refine wl_storeA (fltA Rep.Flt.zero) h7 (by rfl) (by rfl) (by rfl) upd0 (by kernel_rfl) (by rfl) ?_; intro w8 h8)
  have h9 : Sat w0 w8 (pt bB (.cells (bys k).toArray 41 (0,0)) :: osl 107 34 (.slice u1 fs.length uc) (entsL fs) :: dataS fs :: stPt ps last pi uv tv :: TabML pi mq B :: LogRep p m L :: MedRep m M :: F) := h8.sb
  clear h7 h8
  go_loopg [12, 11] fs.length (fun g iq ev wr => ∃ (i : Nat), g = fs.length - i ∧ i ≤ fs.length ∧ iq = .int .i64 i ∧ ev = .int .i64 (Rep.endTo ds i : Nat) ∧
    Sat w0 wr (pt bB (.cells (bys k).toArray 41 (0,0)) :: osl 107 34 (.slice u1 fs.length uc) (entsL fs) :: dataS fs :: stPt ps last pi uv tv :: TabML pi mq B :: LogRep p m L :: MedRep m M :: F))
  case atStart => exact ⟨0, rfl, Nat.zero_le _, rfl, rfl, h9⟩
  case round =>
    obtain ⟨i, rfl, hi, rfl, rfl, hS⟩ := hrel
    clear h9
    by_cases hlt : i < fs.length
    · have c1 : (i : Int) < (fs.length : Int) := by omega
      have hwi : IntKind.i64.wrap ((i : Int) + 1) = (i : Int) + 1 := IntWalk.i64_in _ (by have := Hfl.out; omega)
      obtain ⟨x, hx⟩ : ∃ x, fs[i]? = some x := ⟨_, List.getElem?_eq_getElem hlt⟩
      obtain ⟨bk, off, ev, e0, _, _⟩ := ent_cells Hfk.out (Sat.rd (hS.pk (A := osl 107 34 (.slice u1 fs.length uc) (entsL fs)))) hx
      cases ev
      have hdx := Hdi.out i x hx
      have Hput := Lib.hid (fun hp => Rep.endTo_put hdx hp)
      have Hcom := Lib.hid (fun hp => Rep.endTo_com hdx hp)
      have Hlt := Lib.hid hlt
      clear hdx hx hlt hi
      obtain ⟨⟨tag, key, data⟩, xv⟩ := x
      dsimp only at e0 Hput Hcom
      have hkd : tag = 0 ∨ tag = 1 ∨ ((tag == 0) = false ∧ (tag == 1) = false ∧ ((tag != 0) = true ∧ (tag != 1) = true) ∧ ¬ Seg.isPut ⟨tag, key, data⟩) := by
        simp only [beq_eq_false_iff_ne, bne_iff_ne, Seg.isPut]; omega
      rcases hkd with rfl | rfl | ⟨k0, k1, ⟨k2, k3⟩, k4⟩
      · have Hg := Lib.hid (Hput.out (.inl rfl))
        clear Hput Hcom
        go_wp2_with fail
        go_roundg (fs.length - (i + 1))
        case measure => have := Hlt.out; omega
        case rel => exact ⟨i + 1, rfl, Nat.succ_le_of_lt Hlt.out, by first | rfl | go_num, by rw [Hg.out], hS⟩
      · have Hg := Lib.hid (Hput.out (.inr rfl))
        clear Hput Hcom
        go_wp2_with fail
        go_roundg (fs.length - (i + 1))
        case measure => have := Hlt.out; omega
        case rel => exact ⟨i + 1, rfl, Nat.succ_le_of_lt Hlt.out, by first | rfl | go_num, by rw [Hg.out], hS⟩
      · have Hg := Lib.hid (Hcom.out k4)
        clear Hput Hcom k4
        go_wp2_with fail
        go_roundg (fs.length - (i + 1))
        case measure => have := Hlt.out; omega
        case rel => exact ⟨i + 1, rfl, Nat.succ_le_of_lt Hlt.out, by first | rfl | go_num, by rw [Hg.out], hS⟩
    · have hie : i = fs.length := by omega
      subst hie
      have c1 : ¬ (fs.length : Int) < (fs.length : Int) := by omega
      have Hel := Lib.hid (Rep.endTo_le (ds := ds) fs.length)
      rw [Hdn.out] at Hget
      generalize Rep.endTo ds fs.length = e at *
      clear hlt hi
      go_wp2_with fail
      go_loopg [15, 13, 14] e (fun g iq dv tv2 wr => ∃ (i : Nat) (th : Bool), g = e - i ∧ i ≤ e ∧ iq = .int .i64 i ∧ tv2 = .bool th ∧ LastInv fs (Rep.lastE ((ds.take i).map Seg.toE) k) dv th ∧
        Sat w0 wr (pt bB (.cells (bys k).toArray 41 (0,0)) :: osl 107 34 (.slice u1 fs.length uc) (entsL fs) :: dataS fs :: stPt ps last pi uv tv :: TabML pi mq B :: LogRep p m L :: MedRep m M :: F))
      case atStart => exact ⟨0, false, rfl, Nat.zero_le _, rfl, rfl, .inl ⟨rfl, rfl⟩, hS⟩
      case round =>
        obtain ⟨i, th, rfl, hi, rfl, rfl, hinv, hS⟩ := hrel
        by_cases hlt : i < e
        · have c2 : (i : Int) < (e : Int) := by omega
          have c3 : (i : Int) < (fs.length : Int) := by have := Hel.out; omega
          have hwi : IntKind.i64.wrap ((i : Int) + 1) = (i : Int) + 1 := IntWalk.i64_in _ (by have := Hfl.out; have := Hel.out; omega)
          obtain ⟨x, hx⟩ : ∃ x, fs[i]? = some x := ⟨_, List.getElem?_eq_getElem (by have := Hel.out; omega)⟩
          obtain ⟨bk, off, ev, e0, e1, e2⟩ := ent_cells Hfk.out (Sat.rd (hS.pk (A := osl 107 34 (.slice u1 fs.length uc) (entsL fs)))) hx
          cases ev
          have hstep := Rep.last_step k (Hdi.out i x hx)
          have Hmem := Lib.hid (List.mem_of_getElem? hx)
          have Hlt := Lib.hid hlt
          have Hxk := Lib.hid (Hfk.out x (List.mem_of_getElem? hx))
          have Hxn := Lib.hid (show (bys x.1.key).length = 32 by rw [bys_len]; exact Hxk.out)
          have HX := Lib.hid (fun (w' : World) (hw : Sat w0 w' (pt bB (.cells (bys k).toArray 41 (0,0)) :: osl 107 34 (.slice (some ⟨bk, off, none⟩) fs.length uc) (entsL fs) :: dataS fs :: stPt ps last pi uv tv :: TabML pi mq B :: LogRep p m L :: MedRep m M :: F)) => show w'.cell? ⟨bk, off + i * 34, none⟩ = some (.int .i64 x.1.tag) ∧ w'.rangeAt bk (off + i * 34 + 1) (bys x.1.key) ∧ w'.cell? ⟨bk, off + i * 34 + 33, none⟩ = some x.2 ∧ w'.rangeAt bB 0 (bys k) by
            obtain ⟨b1, o1, y1, z1, z2, z3⟩ := ent_cells Hfk.out (Sat.rd (hw.pk (A := osl 107 34 (.slice (some ⟨bk, off, none⟩) fs.length uc) (entsL fs)))) hx
            cases y1
            exact ⟨z1, z2, z3, fun j v hj => by rw [Nat.zero_add]; exact hw.cellP pick0 j (by rw [List.getElem?_toArray]; exact hj)⟩)
          have HG := Lib.hid (fun w' hw => And.intro (HX.out w' hw).1 (And.intro (HX.out w' hw).2.1 (HX.out w' hw).2.2.2))
          have HG2 := Lib.hid (fun w' hw => And.intro (HX.out w' hw).1 (HX.out w' hw).2.2.1)
          have Hinv := Lib.hid hinv
          clear hx hlt hi e0 e1 e2 HX hinv
          obtain ⟨⟨tag, key, data⟩, xv⟩ := x
          dsimp only at HG HG2 hstep Hxk Hxn
          by_cases hkk : key = k
          · have hkd : tag = 0 ∨ tag = 1 ∨ ((tag == 0) = false ∧ (tag == 1) = false ∧ ¬ Seg.isPut ⟨tag, key, data⟩) := by
              simp only [beq_eq_false_iff_ne, Seg.isPut]; omega
            rcases hkd with rfl | rfl | ⟨k0, k1, k4⟩
            · have Hnew := Lib.hid (show LastInv fs (Rep.lastE ((ds.take (i + 1)).map Seg.toE) k) xv true from .inr ⟨_, Hmem.out, .inl rfl, by rw [hstep, if_pos ⟨.inl rfl, hkk⟩], rfl, rfl⟩)
              clear hstep Hinv
              have hbin : ∀ x y w, ((do eqGuard .eql 41 x y (.agg (bys key).toArray) (.agg (bys k).toArray); binOp .eql 41 (.agg (bys key).toArray) (.agg (bys k).toArray)) : Sem Value).run Tryz.prog w = .ok (.bool true) w := fun x y w => by rw [eqG_key x y _ _ Hxk.out Hkl.out, decide_eq_true hkk]
              clear hkk
              go_wp2_with fail
              have hSd := hS.drew
              clear hS
              refine wpL_begin [20, 21, 22] (fun w' => w'.cell? ⟨bk, off + i * 34, none⟩ = some (.int .i64 0) ∧ w'.rangeAt bk (off + i * 34 + 1) (bys key) ∧ w'.rangeAt bB 0 (bys k)) (by kernel_rfl) ?_
              have hG := HG.out _ hSd
              refine rp 0 (hy := (yl_move evD)) (h := ?_)
              refine rp 1 (hy := (yl_move evD)) (h := ?_)
              refine rp 2 (hy := (yl_index evD evD rnD)) (h := ?_)
              refine rp 3 (hy := (yl_field evD rnD)) (h := ?_)
              refine rg_take 4 evD (by kernel_rfl) (by intro _ _ _ h; exact h) (tk_loadN (b := bk) (o := off + i * 34 + 1) (bys key) (by rfl) Tryz.underlying41 rfl (by rw [Hxn.out]; kernel_rfl) (fun w hw => hw.2.1)) (by assumption) (by go_frame; first | done | rfl) ?_
              refine rg_take 5 evD (by kernel_rfl) (by intro _ _ _ h; exact h) (tk_loadN (b := bB) (o := 0) (bys k) (by rfl) Tryz.underlying41 rfl (by rw [Hkn.out]; kernel_rfl) (fun w hw => hw.2.2)) (by assumption) (by go_frame; first | done | rfl) ?_
              refine rp 6 (hy := (yl_bin evD evD (hbin _ _))) (h := ?_)
              refine rp 7 (hy := (yl_move evD)) (h := ?_)
              refine rp 8 (hy := (yg_move (by rfl) evD)) (h := ?_)
              refine rp 9 (hy := (yg_move (by rfl) evD)) (h := ?_)
              refine rp 10 (hy := (yg_index (by rfl) evD evD rnD)) (h := ?_)
              refine rp 11 (hy := (yg_field (by rfl) evD rnD)) (h := ?_)
              refine rg_take 12 evD (by kernel_rfl) (by intro _ _ _ h; exact h) (tg_load (by rfl) evD (by kernel_rfl) (by intro wq hq; first | exact hq | exact hq.1 | exact hq.2 | exact hq.2.1 | exact hq.2.2 | exact hq.2.2.1 | exact hq.2.2.2 | exact hq.2.2.2.1 | exact hq.2.2.2.2)) (by assumption) (by go_frame; first | done | rfl) ?_
              refine rp 13 (hy := (yg_bin (by rfl) evD evD rnD)) (h := ?_)
              refine rp 14 (hy := (yg_move (by rfl) evD)) (h := ?_)
              clear hG
              refine rg_skip 15 evD (by kernel_rfl) (by intro _ _ _ h; exact h) (by rfl) (by go_frame; first | done | rfl) ?_
              refine rg_skip 16 evD (by kernel_rfl) (by intro _ _ _ h; exact h) (by rfl) (by go_frame; first | done | rfl) ?_
              refine rg_skip 17 evD (by kernel_rfl) (by intro _ _ _ h; exact h) (by rfl) (by go_frame; first | done | rfl) ?_
              refine rg_skip 18 evD (by kernel_rfl) (by intro _ _ _ h; exact h) (by rfl) (by go_frame; first | done | rfl) ?_
              refine rg_skip 19 evD (by kernel_rfl) (by intro _ _ _ h; exact h) (by rfl) (by go_frame; first | done | rfl) ?_
              refine rg_skip 20 evD (by kernel_rfl) (by intro _ _ _ h; exact h) (by rfl) (by go_frame; first | done | rfl) ?_
              refine rp 21 (hy := (yg_pick (by rfl) evD evD)) (h := ?_)
              refine rp 22 (hy := (by first | ((with_reducible apply gd_move); refine ⟨?_⟩; exact yl_move evD) | ((with_reducible apply gd_assign); refine ⟨?_⟩; exact yl_assign evD) | ((with_reducible apply gd_nil); refine ⟨?_⟩; exact yl_nil evD) | ((with_reducible apply gd_field); refine ⟨?_⟩; exact yl_field evD rnD) | ((with_reducible apply gd_len); refine ⟨?_⟩; exact yl_len evD rnD) | ((with_reducible apply gd_bin); refine ⟨?_⟩; exact yl_bin evD evD rnD) | ((with_reducible apply gd_index); refine ⟨?_⟩; exact yl_index evD evD rnD) | ((with_reducible apply gd_extract); refine ⟨?_⟩; exact yl_extract evD rnD) | ((with_reducible apply gd_un); refine ⟨?_⟩; exact yl_un evD rnD) | ((with_reducible apply gd_conv); refine ⟨?_⟩; exact yl_conv evD rnD) | (refine Or.inl ⟨by rfl, ?_⟩; ((intro wq; go_simp); first | done | (with_reducible rfl))))) (h := ?_)
              refine wpL_done (by kernel_rfl) ?_
              try simp only [List.getElem_toArray, List.getElem_cons_succ, List.getElem_cons_zero]
              try go_frame
              clear hbin
              go_wp2_with fail
              have hSe := hSd.drew
              clear hSd
              refine wpL_begin [12] (fun w' => w'.cell? ⟨bk, off + i * 34, none⟩ = some (.int .i64 0) ∧ w'.cell? ⟨bk, off + i * 34 + 33, none⟩ = some xv) (by kernel_rfl) ?_
              have hG := HG2.out _ hSe
              refine rp 0 (hy := (yl_move evD)) (h := ?_)
              refine rp 1 (hy := (yl_move evD)) (h := ?_)
              refine rp 2 (hy := (yl_index evD evD rnD)) (h := ?_)
              refine rp 3 (hy := (yl_field evD rnD)) (h := ?_)
              refine rt 4 (h := ?_)
              refine rp 5 (hy := (yl_move evD)) (h := ?_)
              refine rp 6 (hy := (yl_move evD)) (h := ?_)
              refine rp 7 (hy := (yl_index evD evD rnD)) (h := ?_)
              refine rp 8 (hy := (yl_field evD rnD)) (h := ?_)
              refine rt 9 (h := ?_)
              clear hG
              refine rp 10 (hy := (yl_bin evD evD rnD)) (h := ?_)
              refine rp 11 (hy := (yl_assign evD)) (h := ?_)
              refine rp 12 (hy := (yl_assign evD)) (h := ?_)
              refine wpL_done (by kernel_rfl) ?_
              try simp only [List.getElem_toArray, List.getElem_cons_succ, List.getElem_cons_zero]
              try go_frame
              go_wp2_with fail
              go_roundg (e - (i + 1))
              case measure => have := Hlt.out; omega
              case rel => exact ⟨i + 1, _, rfl, Nat.succ_le_of_lt Hlt.out, by first | rfl | go_num, by first | rfl | go_num, Hnew.out, hSe⟩
            · have Hnew := Lib.hid (show LastInv fs (Rep.lastE ((ds.take (i + 1)).map Seg.toE) k) xv false from .inr ⟨_, Hmem.out, .inr rfl, by rw [hstep, if_pos ⟨.inr rfl, hkk⟩], rfl, rfl⟩)
              clear hstep Hinv
              have hbin : ∀ x y w, ((do eqGuard .eql 41 x y (.agg (bys key).toArray) (.agg (bys k).toArray); binOp .eql 41 (.agg (bys key).toArray) (.agg (bys k).toArray)) : Sem Value).run Tryz.prog w = .ok (.bool true) w := fun x y w => by rw [eqG_key x y _ _ Hxk.out Hkl.out, decide_eq_true hkk]
              clear hkk
              go_wp2_with fail
              have hSd := hS.drew
              clear hS
              refine wpL_begin [20, 21, 22] (fun w' => w'.cell? ⟨bk, off + i * 34, none⟩ = some (.int .i64 1) ∧ w'.rangeAt bk (off + i * 34 + 1) (bys key) ∧ w'.rangeAt bB 0 (bys k)) (by kernel_rfl) ?_
              have hG := HG.out _ hSd
              refine rp 0 (hy := (yl_move evD)) (h := ?_)
              refine rp 1 (hy := (yl_move evD)) (h := ?_)
              refine rp 2 (hy := (yl_index evD evD rnD)) (h := ?_)
              refine rp 3 (hy := (yl_field evD rnD)) (h := ?_)
              refine rg_take 4 evD (by kernel_rfl) (by intro _ _ _ h; exact h) (tk_loadN (b := bk) (o := off + i * 34 + 1) (bys key) (by rfl) Tryz.underlying41 rfl (by rw [Hxn.out]; kernel_rfl) (fun w hw => hw.2.1)) (by assumption) (by go_frame; first | done | rfl) ?_
              refine rg_take 5 evD (by kernel_rfl) (by intro _ _ _ h; exact h) (tk_loadN (b := bB) (o := 0) (bys k) (by rfl) Tryz.underlying41 rfl (by rw [Hkn.out]; kernel_rfl) (fun w hw => hw.2.2)) (by assumption) (by go_frame; first | done | rfl) ?_
              refine rp 6 (hy := (yl_bin evD evD (hbin _ _))) (h := ?_)
              refine rp 7 (hy := (yl_move evD)) (h := ?_)
              refine rp 8 (hy := (yg_move (by rfl) evD)) (h := ?_)
              refine rp 9 (hy := (yg_move (by rfl) evD)) (h := ?_)
              refine rp 10 (hy := (yg_index (by rfl) evD evD rnD)) (h := ?_)
              refine rp 11 (hy := (yg_field (by rfl) evD rnD)) (h := ?_)
              refine rg_take 12 evD (by kernel_rfl) (by intro _ _ _ h; exact h) (tg_load (by rfl) evD (by kernel_rfl) (by intro wq hq; first | exact hq | exact hq.1 | exact hq.2 | exact hq.2.1 | exact hq.2.2 | exact hq.2.2.1 | exact hq.2.2.2 | exact hq.2.2.2.1 | exact hq.2.2.2.2)) (by assumption) (by go_frame; first | done | rfl) ?_
              refine rp 13 (hy := (yg_bin (by rfl) evD evD rnD)) (h := ?_)
              refine rp 14 (hy := (yg_move (by rfl) evD)) (h := ?_)
              refine rp 15 (hy := (yg_move (by rfl) evD)) (h := ?_)
              refine rp 16 (hy := (yg_move (by rfl) evD)) (h := ?_)
              refine rp 17 (hy := (yg_index (by rfl) evD evD rnD)) (h := ?_)
              refine rp 18 (hy := (yg_field (by rfl) evD rnD)) (h := ?_)
              refine rg_take 19 evD (by kernel_rfl) (by intro _ _ _ h; exact h) (tg_load (by rfl) evD (by kernel_rfl) (by intro wq hq; first | exact hq | exact hq.1 | exact hq.2 | exact hq.2.1 | exact hq.2.2 | exact hq.2.2.1 | exact hq.2.2.2 | exact hq.2.2.2.1 | exact hq.2.2.2.2)) (by assumption) (by go_frame; first | done | rfl) ?_
              clear hG
              refine rp 20 (hy := (yg_bin (by rfl) evD evD rnD)) (h := ?_)
              refine rp 21 (hy := (yg_pick (by rfl) evD evD)) (h := ?_)
              refine rp 22 (hy := (by first | ((with_reducible apply gd_move); refine ⟨?_⟩; exact yl_move evD) | ((with_reducible apply gd_assign); refine ⟨?_⟩; exact yl_assign evD) | ((with_reducible apply gd_nil); refine ⟨?_⟩; exact yl_nil evD) | ((with_reducible apply gd_field); refine ⟨?_⟩; exact yl_field evD rnD) | ((with_reducible apply gd_len); refine ⟨?_⟩; exact yl_len evD rnD) | ((with_reducible apply gd_bin); refine ⟨?_⟩; exact yl_bin evD evD rnD) | ((with_reducible apply gd_index); refine ⟨?_⟩; exact yl_index evD evD rnD) | ((with_reducible apply gd_extract); refine ⟨?_⟩; exact yl_extract evD rnD) | ((with_reducible apply gd_un); refine ⟨?_⟩; exact yl_un evD rnD) | ((with_reducible apply gd_conv); refine ⟨?_⟩; exact yl_conv evD rnD) | (refine Or.inl ⟨by rfl, ?_⟩; ((intro wq; go_simp); first | done | (with_reducible rfl))))) (h := ?_)
              refine wpL_done (by kernel_rfl) ?_
              try simp only [List.getElem_toArray, List.getElem_cons_succ, List.getElem_cons_zero]
              try go_frame
              clear hbin
              go_wp2_with fail
              have hSe := hSd.drew
              clear hSd
              refine wpL_begin [12] (fun w' => w'.cell? ⟨bk, off + i * 34, none⟩ = some (.int .i64 1) ∧ w'.cell? ⟨bk, off + i * 34 + 33, none⟩ = some xv) (by kernel_rfl) ?_
              have hG := HG2.out _ hSe
              refine rp 0 (hy := (yl_move evD)) (h := ?_)
              refine rp 1 (hy := (yl_move evD)) (h := ?_)
              refine rp 2 (hy := (yl_index evD evD rnD)) (h := ?_)
              refine rp 3 (hy := (yl_field evD rnD)) (h := ?_)
              refine rt 4 (h := ?_)
              refine rp 5 (hy := (yl_move evD)) (h := ?_)
              refine rp 6 (hy := (yl_move evD)) (h := ?_)
              refine rp 7 (hy := (yl_index evD evD rnD)) (h := ?_)
              refine rp 8 (hy := (yl_field evD rnD)) (h := ?_)
              refine rt 9 (h := ?_)
              clear hG
              refine rp 10 (hy := (yl_bin evD evD rnD)) (h := ?_)
              refine rp 11 (hy := (yl_assign evD)) (h := ?_)
              refine rp 12 (hy := (yl_assign evD)) (h := ?_)
              refine wpL_done (by kernel_rfl) ?_
              try simp only [List.getElem_toArray, List.getElem_cons_succ, List.getElem_cons_zero]
              try go_frame
              go_wp2_with fail
              go_roundg (e - (i + 1))
              case measure => have := Hlt.out; omega
              case rel => exact ⟨i + 1, _, rfl, Nat.succ_le_of_lt Hlt.out, by first | rfl | go_num, by first | rfl | go_num, Hnew.out, hSe⟩
            · have Hnew := Lib.hid (show Rep.lastE ((ds.take (i + 1)).map Seg.toE) k = Rep.lastE ((ds.take i).map Seg.toE) k by rw [hstep, if_neg fun a => k4 a.1])
              clear hstep k4
              have hbin : ∀ x y w, ((do eqGuard .eql 41 x y (.agg (bys key).toArray) (.agg (bys k).toArray); binOp .eql 41 (.agg (bys key).toArray) (.agg (bys k).toArray)) : Sem Value).run Tryz.prog w = .ok (.bool true) w := fun x y w => by rw [eqG_key x y _ _ Hxk.out Hkl.out, decide_eq_true hkk]
              clear hkk
              go_wp2_with fail
              have hSd := hS.drew
              clear hS
              refine wpL_begin [20, 21, 22] (fun w' => w'.cell? ⟨bk, off + i * 34, none⟩ = some (.int .i64 tag) ∧ w'.rangeAt bk (off + i * 34 + 1) (bys key) ∧ w'.rangeAt bB 0 (bys k)) (by kernel_rfl) ?_
              have hG := HG.out _ hSd
              refine rp 0 (hy := (yl_move evD)) (h := ?_)
              refine rp 1 (hy := (yl_move evD)) (h := ?_)
              refine rp 2 (hy := (yl_index evD evD rnD)) (h := ?_)
              refine rp 3 (hy := (yl_field evD rnD)) (h := ?_)
              refine rg_take 4 evD (by kernel_rfl) (by intro _ _ _ h; exact h) (tk_loadN (b := bk) (o := off + i * 34 + 1) (bys key) (by rfl) Tryz.underlying41 rfl (by rw [Hxn.out]; kernel_rfl) (fun w hw => hw.2.1)) (by assumption) (by go_frame; first | done | rfl) ?_
              refine rg_take 5 evD (by kernel_rfl) (by intro _ _ _ h; exact h) (tk_loadN (b := bB) (o := 0) (bys k) (by rfl) Tryz.underlying41 rfl (by rw [Hkn.out]; kernel_rfl) (fun w hw => hw.2.2)) (by assumption) (by go_frame; first | done | rfl) ?_
              refine rp 6 (hy := (yl_bin evD evD (hbin _ _))) (h := ?_)
              refine rp 7 (hy := (yl_move evD)) (h := ?_)
              refine rp 8 (hy := (yg_move (by rfl) evD)) (h := ?_)
              refine rp 9 (hy := (yg_move (by rfl) evD)) (h := ?_)
              refine rp 10 (hy := (yg_index (by rfl) evD evD rnD)) (h := ?_)
              refine rp 11 (hy := (yg_field (by rfl) evD rnD)) (h := ?_)
              refine rg_take 12 evD (by kernel_rfl) (by intro _ _ _ h; exact h) (tg_load (by rfl) evD (by kernel_rfl) (by intro wq hq; first | exact hq | exact hq.1 | exact hq.2 | exact hq.2.1 | exact hq.2.2 | exact hq.2.2.1 | exact hq.2.2.2 | exact hq.2.2.2.1 | exact hq.2.2.2.2)) (by assumption) (by go_frame; first | done | rfl) ?_
              refine rp 13 (hy := (yg_bin (by rfl) evD evD rnD)) (h := ?_)
              refine rp 14 (hy := (yg_move (by rfl) evD)) (h := ?_)
              refine rp 15 (hy := (yg_move (by rfl) evD)) (h := ?_)
              refine rp 16 (hy := (yg_move (by rfl) evD)) (h := ?_)
              refine rp 17 (hy := (yg_index (by rfl) evD evD rnD)) (h := ?_)
              refine rp 18 (hy := (yg_field (by rfl) evD rnD)) (h := ?_)
              refine rg_take 19 evD (by kernel_rfl) (by intro _ _ _ h; exact h) (tg_load (by rfl) evD (by kernel_rfl) (by intro wq hq; first | exact hq | exact hq.1 | exact hq.2 | exact hq.2.1 | exact hq.2.2 | exact hq.2.2.1 | exact hq.2.2.2 | exact hq.2.2.2.1 | exact hq.2.2.2.2)) (by assumption) (by go_frame; first | done | rfl) ?_
              clear hG
              refine rp 20 (hy := (yg_bin (by rfl) evD evD rnD)) (h := ?_)
              refine rp 21 (hy := (yg_pick (by rfl) evD evD)) (h := ?_)
              refine rp 22 (hy := (by first | ((with_reducible apply gd_move); refine ⟨?_⟩; exact yl_move evD) | ((with_reducible apply gd_assign); refine ⟨?_⟩; exact yl_assign evD) | ((with_reducible apply gd_nil); refine ⟨?_⟩; exact yl_nil evD) | ((with_reducible apply gd_field); refine ⟨?_⟩; exact yl_field evD rnD) | ((with_reducible apply gd_len); refine ⟨?_⟩; exact yl_len evD rnD) | ((with_reducible apply gd_bin); refine ⟨?_⟩; exact yl_bin evD evD rnD) | ((with_reducible apply gd_index); refine ⟨?_⟩; exact yl_index evD evD rnD) | ((with_reducible apply gd_extract); refine ⟨?_⟩; exact yl_extract evD rnD) | ((with_reducible apply gd_un); refine ⟨?_⟩; exact yl_un evD rnD) | ((with_reducible apply gd_conv); refine ⟨?_⟩; exact yl_conv evD rnD) | (refine Or.inl ⟨by rfl, ?_⟩; ((intro wq; go_simp); first | done | (with_reducible rfl))))) (h := ?_)
              refine wpL_done (by kernel_rfl) ?_
              try simp only [List.getElem_toArray, List.getElem_cons_succ, List.getElem_cons_zero]
              try go_frame
              clear hbin
              go_wp2_with fail
              go_roundg (e - (i + 1))
              case measure => have := Hlt.out; omega
              case rel => exact ⟨i + 1, _, rfl, Nat.succ_le_of_lt Hlt.out, by first | rfl | go_num, by first | rfl | go_num, by rw [Hnew.out]; exact Hinv.out, hSd⟩
          · have Hnew := Lib.hid (show Rep.lastE ((ds.take (i + 1)).map Seg.toE) k = Rep.lastE ((ds.take i).map Seg.toE) k by rw [hstep, if_neg fun a => hkk a.2])
            clear hstep
            have hbin : ∀ x y w, ((do eqGuard .eql 41 x y (.agg (bys key).toArray) (.agg (bys k).toArray); binOp .eql 41 (.agg (bys key).toArray) (.agg (bys k).toArray)) : Sem Value).run Tryz.prog w = .ok (.bool false) w := fun x y w => by rw [eqG_key x y _ _ Hxk.out Hkl.out, decide_eq_false hkk]
            clear hkk
            go_wp2_with fail
            have hSd := hS.drew
            clear hS
            refine wpL_begin [20, 21, 22] (fun w' => w'.cell? ⟨bk, off + i * 34, none⟩ = some (.int .i64 tag) ∧ w'.rangeAt bk (off + i * 34 + 1) (bys key) ∧ w'.rangeAt bB 0 (bys k)) (by kernel_rfl) ?_
            have hG := HG.out _ hSd
            refine rp 0 (hy := (yl_move evD)) (h := ?_)
            refine rp 1 (hy := (yl_move evD)) (h := ?_)
            refine rp 2 (hy := (yl_index evD evD rnD)) (h := ?_)
            refine rp 3 (hy := (yl_field evD rnD)) (h := ?_)
            refine rg_take 4 evD (by kernel_rfl) (by intro _ _ _ h; exact h) (tk_loadN (b := bk) (o := off + i * 34 + 1) (bys key) (by rfl) Tryz.underlying41 rfl (by rw [Hxn.out]; kernel_rfl) (fun w hw => hw.2.1)) (by assumption) (by go_frame; first | done | rfl) ?_
            refine rg_take 5 evD (by kernel_rfl) (by intro _ _ _ h; exact h) (tk_loadN (b := bB) (o := 0) (bys k) (by rfl) Tryz.underlying41 rfl (by rw [Hkn.out]; kernel_rfl) (fun w hw => hw.2.2)) (by assumption) (by go_frame; first | done | rfl) ?_
            refine rp 6 (hy := (yl_bin evD evD (hbin _ _))) (h := ?_)
            refine rp 7 (hy := (yl_move evD)) (h := ?_)
            clear hG
            refine rg_skip 8 evD (by kernel_rfl) (by intro _ _ _ h; exact h) (by rfl) (by go_frame; first | done | rfl) ?_
            refine rg_skip 9 evD (by kernel_rfl) (by intro _ _ _ h; exact h) (by rfl) (by go_frame; first | done | rfl) ?_
            refine rg_skip 10 evD (by kernel_rfl) (by intro _ _ _ h; exact h) (by rfl) (by go_frame; first | done | rfl) ?_
            refine rg_skip 11 evD (by kernel_rfl) (by intro _ _ _ h; exact h) (by rfl) (by go_frame; first | done | rfl) ?_
            refine rg_skip 12 evD (by kernel_rfl) (by intro _ _ _ h; exact h) (by rfl) (by go_frame; first | done | rfl) ?_
            refine rg_skip 13 evD (by kernel_rfl) (by intro _ _ _ h; exact h) (by rfl) (by go_frame; first | done | rfl) ?_
            refine rg_skip 14 evD (by kernel_rfl) (by intro _ _ _ h; exact h) (by rfl) (by go_frame; first | done | rfl) ?_
            refine rg_skip 15 evD (by kernel_rfl) (by intro _ _ _ h; exact h) (by rfl) (by go_frame; first | done | rfl) ?_
            refine rg_skip 16 evD (by kernel_rfl) (by intro _ _ _ h; exact h) (by rfl) (by go_frame; first | done | rfl) ?_
            refine rg_skip 17 evD (by kernel_rfl) (by intro _ _ _ h; exact h) (by rfl) (by go_frame; first | done | rfl) ?_
            refine rg_skip 18 evD (by kernel_rfl) (by intro _ _ _ h; exact h) (by rfl) (by go_frame; first | done | rfl) ?_
            refine rg_skip 19 evD (by kernel_rfl) (by intro _ _ _ h; exact h) (by rfl) (by go_frame; first | done | rfl) ?_
            refine rg_skip 20 evD (by kernel_rfl) (by intro _ _ _ h; exact h) (by rfl) (by go_frame; first | done | rfl) ?_
            refine rg_skip 21 evD (by kernel_rfl) (by intro _ _ _ h; exact h) (by rfl) (by go_frame; first | done | rfl) ?_
            refine rp 22 (hy := (by first | ((with_reducible apply gd_move); refine ⟨?_⟩; exact yl_move evD) | ((with_reducible apply gd_assign); refine ⟨?_⟩; exact yl_assign evD) | ((with_reducible apply gd_nil); refine ⟨?_⟩; exact yl_nil evD) | ((with_reducible apply gd_field); refine ⟨?_⟩; exact yl_field evD rnD) | ((with_reducible apply gd_len); refine ⟨?_⟩; exact yl_len evD rnD) | ((with_reducible apply gd_bin); refine ⟨?_⟩; exact yl_bin evD evD rnD) | ((with_reducible apply gd_index); refine ⟨?_⟩; exact yl_index evD evD rnD) | ((with_reducible apply gd_extract); refine ⟨?_⟩; exact yl_extract evD rnD) | ((with_reducible apply gd_un); refine ⟨?_⟩; exact yl_un evD rnD) | ((with_reducible apply gd_conv); refine ⟨?_⟩; exact yl_conv evD rnD) | (refine Or.inl ⟨by rfl, ?_⟩; ((intro wq; go_simp); first | done | (with_reducible rfl))))) (h := ?_)
            refine wpL_done (by kernel_rfl) ?_
            try simp only [List.getElem_toArray, List.getElem_cons_succ, List.getElem_cons_zero]
            try go_frame
            clear hbin
            go_wp2_with fail
            go_roundg (e - (i + 1))
            case measure => have := Hlt.out; omega
            case rel => exact ⟨i + 1, _, rfl, Nat.succ_le_of_lt Hlt.out, by first | rfl | go_num, by first | rfl | go_num, by rw [Hnew.out]; exact Hinv.out, hSd⟩
        · have hie : i = e := by omega
          subst hie
          have c2 : ¬ (i : Int) < (i : Int) := by omega
          clear hlt hi
          go_wp2_with fail
          have hSd := hS.drew
          have hcase : (mq k = none ∧ th = false) ∨ ∃ x pl q, q ∈ fs ∧ mq k = some pl ∧ th = true ∧ u13 = q.2 ∧ L.read M pl = (x, 0) ∧ x.key = k ∧ x.tag = 0 ∧ x.data = q.1.data ∧ (0 ≤ pl.at_ ∧ pl.at_ ≤ 33554432) ∧ (0 ≤ pl.size ∧ pl.size ≤ 341) := by
            rcases hinv with ⟨h0, h1⟩ | ⟨q, h0, h1, h2, h3, h4⟩
            · exact .inl ⟨Hget.out.1 (fun x hx => by rw [h0] at hx; cases hx), h1⟩
            · rcases h1 with ht | ht
              · obtain ⟨pl, a1, a2, a3, a4, a5⟩ := Hget.out.2 _ h2 (by rw [Seg.toE, if_pos ht])
                exact .inr ⟨_, pl, q, h0, a1, by rw [h4, decide_eq_true ht], h3, a2, a3, by rw [Seg.toE, if_pos ht], by rw [Seg.toE, if_pos ht], a4, a5⟩
              · refine .inl ⟨Hget.out.1 (fun x hx => ?_), by rw [h4]; exact decide_eq_false (by omega)⟩
                rw [h2] at hx
                cases hx
                rw [Seg.toE, if_neg (by omega), if_pos ht]
                show (1 : Int) ≠ 0
                decide
          clear hS hinv Hget
          rcases hcase with ⟨hm, rfl⟩ | ⟨x, pl, q, hq1, hm, rfl, rfl, hrd, hxk, hxt, hxd, hb1, hb2⟩
          · as_aux_lemma =>
              refine wpL_begin [5, 6, 7, 8, 10, 11] (fun w' => w'.cell? ⟨ps, 1, none⟩ = some (ptr pi) ∧ w'.rangeAt bB 0 (bys k)) (by kernel_rfl) ?_
              have HGf := Lib.hid (fun (w' : World) (R' : List HProp) (hw : Sat w0 w' (pt bB (.cells (bys k).toArray 41 (0,0)) :: stPt ps last pi uv tv :: R')) => show w'.cell? ⟨ps, 1, none⟩ = some (ptr pi) ∧ w'.rangeAt bB 0 (bys k) from ⟨hw.cellP pick1 1 rfl, fun j v hj => by rw [Nat.zero_add]; exact hw.cellP pick0 j (by rw [List.getElem?_toArray]; exact hj)⟩)
              have hG := HGf.out _ (osl 107 34 (.slice u1 fs.length uc) (entsL fs) :: dataS fs :: TabML pi mq B :: LogRep p m L :: MedRep m M :: F) (hSd.sb)
              refine rp 0 (hy := (yl_move evD)) (h := ?_)
              refine rp 1 (hy := (yl_nil evD)) (h := ?_)
              refine rp 2 (hy := (yl_field evD rnD)) (h := ?_)
              refine rt 3 (h := ?_)
              refine rg_take 4 evD (by kernel_rfl) (by intro _ _ _ h; exact h) (tk_loadN (b := bB) (o := 0) (bys k) (by rfl) Tryz.underlying41 rfl (by rw [Hkn.out]; kernel_rfl) (fun w hw => hw.2)) (by assumption) (by go_frame; first | done | rfl) ?_
              clear hG
              refine rg_eff2 5 9 evD evD (by kernel_rfl) (fun K hK => ?_) (fun K hK => ?_)
              · (refine eff_call2 (by kernel_rfl) evD evD ?_)
                refine (getL_c (Nat.le_trans Hkb.out (by decide)) Hkl.out (hSd.sb : Sat w0 _ (TabML pi mq B :: pt bB (.cells (bys k).toArray 41 (0,0)) :: osl 107 34 (.slice u1 fs.length uc) (entsL fs) :: dataS fs :: stPt ps last pi uv tv :: LogRep p m L :: MedRep m M :: F))).mono ?_
                rintro ee w10 ⟨v, rfl, rfl, h10⟩
                simp only [hm, Option.getD_none, Option.isSome_none]
                refine hK _ _ (.inl rfl) ?_
                clear hK hSd
                refine rp 6 (hy := (yl_move evD)) (h := ?_)
                refine rp 7 (hy := (yl_extract evD rnD)) (h := ?_)
                refine rp 8 (hy := (yl_extract evD rnD)) (h := ?_)
                refine rg_eff 9 evD (by kernel_rfl) (fun K hK => ?_)
                refine eff_alloc zPlc39 h10 rfl ?_
                intro bP w11 h11
                refine hK _ _ (.inr (.inl (HGf.out _ (osl 107 34 (.slice u1 fs.length uc) (entsL fs) :: dataS fs :: TabML pi mq B :: LogRep p m L :: MedRep m M :: F) (h11.sb)))) ?_
                clear hK h10
                refine rg_eff 10 evD (by kernel_rfl) (fun K hK => ?_)
                refine eff_store h11 evD evD (cs' := (penc Seg.Plc.zero).toArray) (by rfl) upd0 (Nat.le_refl _) (by kernel_rfl) (by rfl) ?_
                intro w12 h12
                refine hK _ _ (.inl rfl) ?_
                clear hK h11 HGf
                refine rp 11 (hy := (yl_assign evD)) (h := ?_)
                refine wpL_done (by kernel_rfl) ?_
                try simp only [List.getElem_toArray, List.getElem_cons_succ, List.getElem_cons_zero]
                try go_frame
                go_wp2_with fail
                refine (lives15_c (Ro.os HH.out) h12).mono ?_
                rintro ee w17 ⟨v, rfl, rfl, h17⟩
                clear h12
                go_wp2_with fail
                go_ret
                exact ⟨_, rfl, rfl, h17.sb⟩
              · refine eff_alloc zPlc39 hSd rfl ?_
                intro bP w10 h10
                refine hK _ _ (.inr (.inl (HGf.out _ (osl 107 34 (.slice u1 fs.length uc) (entsL fs) :: dataS fs :: TabML pi mq B :: LogRep p m L :: MedRep m M :: F) (h10.sb)))) ?_
                clear hK hSd HGf
                refine rg_eff 5 evD (by kernel_rfl) (fun K hK => ?_)
                (refine eff_call2 (by kernel_rfl) evD evD ?_)
                refine (getL_c (Nat.le_trans Hkb.out (by decide)) Hkl.out (h10.sb : Sat w0 _ (TabML pi mq B :: pt bP (.cells (penc Seg.Plc.zero).toArray 39 (0,0)) :: pt bB (.cells (bys k).toArray 41 (0,0)) :: osl 107 34 (.slice u1 fs.length uc) (entsL fs) :: dataS fs :: stPt ps last pi uv tv :: LogRep p m L :: MedRep m M :: F))).mono ?_
                rintro ee w11 ⟨v, rfl, rfl, h11⟩
                simp only [hm, Option.getD_none, Option.isSome_none]
                refine hK _ _ (.inl rfl) ?_
                clear hK h10
                refine rp 6 (hy := (yl_move evD)) (h := ?_)
                refine rp 7 (hy := (yl_extract evD rnD)) (h := ?_)
                refine rp 8 (hy := (yl_extract evD rnD)) (h := ?_)
                refine rg_eff 10 evD (by kernel_rfl) (fun K hK => ?_)
                refine eff_store h11 evD evD (cs := (penc Seg.Plc.zero).toArray) (cs' := (penc Seg.Plc.zero).toArray) (by rfl) upD (Nat.le_refl _) (by kernel_rfl) (by rfl) ?_
                intro w12 h12b
                refine hK _ _ (.inl rfl) ?_
                have h12 : Sat w0 w12 (pt bP (.cells (penc Seg.Plc.zero).toArray 39 (0,0)) :: TabML pi mq B :: pt bB (.cells (bys k).toArray 41 (0,0)) :: osl 107 34 (.slice u1 fs.length uc) (entsL fs) :: dataS fs :: stPt ps last pi uv tv :: LogRep p m L :: MedRep m M :: F) := h12b.sb
                clear hK h11 h12b
                refine rp 11 (hy := (yl_assign evD)) (h := ?_)
                refine wpL_done (by kernel_rfl) ?_
                try simp only [List.getElem_toArray, List.getElem_cons_succ, List.getElem_cons_zero]
                try go_frame
                go_wp2_with fail
                refine (lives15_c (Ro.os HH.out) h12).mono ?_
                rintro ee w17 ⟨v, rfl, rfl, h17⟩
                clear h12
                go_wp2_with fail
                go_ret
                exact ⟨_, rfl, rfl, h17.sb⟩
          · as_aux_lemma =>
              have Hq := Lib.hid (dataS_ent Hfk.out (hSd.sb : Sat w0 _ (dataS fs :: F)) q hq1)
              have Hxd := Lib.hid hxd; have Hb1 := Lib.hid hb1; have Hb2 := Lib.hid hb2; have Hrd := Lib.hid hrd
              have Hql := Lib.hid (show x.data.length ≤ 100 by rw [hxd]; exact Hfd.out q hq1)
              clear hq1 hxd hb1 hb2 hrd
              refine wpL_begin [5, 6, 7, 8, 10, 11] (fun w' => w'.cell? ⟨ps, 1, none⟩ = some (ptr pi) ∧ w'.rangeAt bB 0 (bys k)) (by kernel_rfl) ?_
              have HGf := Lib.hid (fun (w' : World) (R' : List HProp) (hw : Sat w0 w' (pt bB (.cells (bys k).toArray 41 (0,0)) :: stPt ps last pi uv tv :: R')) => show w'.cell? ⟨ps, 1, none⟩ = some (ptr pi) ∧ w'.rangeAt bB 0 (bys k) from ⟨hw.cellP pick1 1 rfl, fun j v hj => by rw [Nat.zero_add]; exact hw.cellP pick0 j (by rw [List.getElem?_toArray]; exact hj)⟩)
              have hG := HGf.out _ (osl 107 34 (.slice u1 fs.length uc) (entsL fs) :: dataS fs :: TabML pi mq B :: LogRep p m L :: MedRep m M :: F) (hSd.sb)
              refine rp 0 (hy := (yl_move evD)) (h := ?_)
              refine rp 1 (hy := (yl_nil evD)) (h := ?_)
              refine rp 2 (hy := (yl_field evD rnD)) (h := ?_)
              refine rt 3 (h := ?_)
              refine rg_take 4 evD (by kernel_rfl) (by intro _ _ _ h; exact h) (tk_loadN (b := bB) (o := 0) (bys k) (by rfl) Tryz.underlying41 rfl (by rw [Hkn.out]; kernel_rfl) (fun w hw => hw.2)) (by assumption) (by go_frame; first | done | rfl) ?_
              clear hG
              refine rg_eff2 5 9 evD evD (by kernel_rfl) (fun K hK => ?_) (fun K hK => ?_)
              · (refine eff_call2 (by kernel_rfl) evD evD ?_)
                refine (getL_c (Nat.le_trans Hkb.out (by decide)) Hkl.out (hSd.sb : Sat w0 _ (TabML pi mq B :: pt bB (.cells (bys k).toArray 41 (0,0)) :: osl 107 34 (.slice u1 fs.length uc) (entsL fs) :: dataS fs :: stPt ps last pi uv tv :: LogRep p m L :: MedRep m M :: F))).mono ?_
                rintro ee w10 ⟨v, rfl, rfl, h10⟩
                simp only [hm, Option.getD_some, Option.isSome_some]
                refine hK _ _ (.inl rfl) ?_
                clear hK hSd
                refine rp 6 (hy := (yl_move evD)) (h := ?_)
                refine rp 7 (hy := (yl_extract evD rnD)) (h := ?_)
                refine rp 8 (hy := (yl_extract evD rnD)) (h := ?_)
                refine rg_eff 9 evD (by kernel_rfl) (fun K hK => ?_)
                refine eff_alloc zPlc39 h10 rfl ?_
                intro bP w11 h11
                refine hK _ _ (.inr (.inl (HGf.out _ (osl 107 34 (.slice u1 fs.length uc) (entsL fs) :: dataS fs :: TabML pi mq B :: LogRep p m L :: MedRep m M :: F) (h11.sb)))) ?_
                clear hK h10
                refine rg_eff 10 evD (by kernel_rfl) (fun K hK => ?_)
                refine eff_store h11 evD evD (cs' := (penc pl).toArray) (by rfl) upd0 (Nat.le_refl _) (by kernel_rfl) (by rfl) ?_
                intro w12 h12
                refine hK _ _ (.inl rfl) ?_
                clear hK h11 HGf
                refine rp 11 (hy := (yl_assign evD)) (h := ?_)
                refine wpL_done (by kernel_rfl) ?_
                try simp only [List.getElem_toArray, List.getElem_cons_succ, List.getElem_cons_zero]
                try go_frame
                have hap := lread_c (Ro.os HH.out) HL.out HM.out pl (by have := Hb1.out; omega) (by have := Hb2.out; omega) (h12.sb : Sat w0 _ (LogRep p m L :: MedRep m M :: pt bB (.cells (bys k).toArray 41 (0,0)) :: dataS fs :: F))
                rw [Hrd.out] at hap
                go_wp2_with ((with_reducible apply at_load); refine ⟨?_⟩; refine wl_loadA h12 (by rfl) pick0 Tryz.underlying39 rfl (by kernel_rfl) ?_)
                refine hap.mono ?_
                rintro ee w13 ⟨v, rfl, da, dc, rfl, h13⟩
                clear hap h12 hm
                have hxk0 : x.key.length = 32 := by rw [hxk]; exact Hkl.out
                have k1 : (entA x (.slice da x.data.length dc)).size = (entA Frm.zeroE (.slice none 0 0)).size := (entA_size _ _ hxk0).trans (entA_size _ _ rfl).symm
                have k2 : (Tryz.prog.info? 44).map (·.size) = some (entA x (.slice da x.data.length dc)).size := by rw [entA_size _ _ hxk0]; exact infoEntSize
                have k3 := entA_one x da x.data.length dc
                go_wp2_with (first
                  | ((with_reducible apply at_alloc); refine ⟨?_⟩; refine wl_alloc (cs := entA Frm.zeroE (.slice none 0 0)) zEnt h13 rfl ?_; intro bX w14 h14)
                  | ((with_reducible apply at_store); refine ⟨?_⟩; refine wl_storeA (entA x (.slice da x.data.length dc)) h14 (by rfl) (by rfl) k1 upd0 k2 k3 ?_; intro w15 h15)
                  | (with_reducible apply at_loadG))
                clear k1 k2 k3 h13 h14
                have hq : ∀ w, (Op.equalIn 10000 41 (.agg (bys k).toArray) (.agg (bys k).toArray)).run Tryz.prog w = .ok true w := fun w => by rw [eqIn_key _ _ Hkl.out Hkl.out]; simp
                have g0 : (entA x (.slice da x.data.length dc)).getD 0 undef = .int .i64 0 := by rw [entA_g0, hxt]
                have g1 := ent_range h15 pick0 hxk0
                rw [hxk] at g1
                have h15b : Sat w0 _ (pt bB (.cells (bys k).toArray 41 (0,0)) :: F) := h15.sb
                have g2 : World.rangeAt _ bB 0 (bys k) := fun j v hj => by rw [Nat.zero_add]; exact h15b.cellP pick0 j (by rw [List.getElem?_toArray]; exact hj)
                clear h15b
                have g3 := entA_g33 x (.slice da x.data.length dc) hxk0
                have g4 : 33 + 1 ≤ (entA x (.slice da x.data.length dc)).size := by rw [entA_size _ _ hxk0]; exact Nat.le_refl _
                have g5 : 0 + 1 ≤ (entA x (.slice da x.data.length dc)).size := by rw [entA_size _ _ hxk0]; decide
                clear hxk hxk0 hxt
                refine ⟨?_⟩
                refine wl_loadG1 (by rfl) h15 (by rfl) pick0 g5 g0 (by kernel_rfl) ?_
                go_wp2_with (first
                  | ((with_reducible apply at_loadG); refine ⟨?_⟩; refine wl_loadGm (o := 1) (by rfl) (by rfl) (bys k) _ g1 Tryz.underlying41 rfl (by rw [Hkn.out]; kernel_rfl) ?_)
                  | ((with_reducible apply at_loadG); refine ⟨?_⟩; refine wl_loadGm (o := 0) (by rfl) (by rfl) (bys k) _ g2 Tryz.underlying41 rfl (by rw [Hkn.out]; kernel_rfl) ?_)
                  | ((with_reducible apply at_loadG); refine ⟨?_⟩; refine wl_loadG1 (by rfl) h15 (by rfl) pick0 g4 g3 (by kernel_rfl) ?_))
                refine (same_c x.data (Ro.op (Ro.bsl _ _)) (by rw [Hxd.out]; exact Ro.os Hq.out.rd) h15 (Nat.le_trans Hql.out (by decide))).mono ?_
                rintro ee w16 ⟨v, rfl, rfl, h16⟩
                clear h15 g1 g2
                go_wp2_with fail
                refine (lives15_c (Ro.os HH.out) h16).mono ?_
                rintro ee w17 ⟨v, rfl, rfl, h17⟩
                clear h16
                go_wp2_with fail
                go_ret
                exact ⟨_, rfl, rfl, h17.sb⟩
              · refine eff_alloc zPlc39 hSd rfl ?_
                intro bP w10 h10
                refine hK _ _ (.inr (.inl (HGf.out _ (osl 107 34 (.slice u1 fs.length uc) (entsL fs) :: dataS fs :: TabML pi mq B :: LogRep p m L :: MedRep m M :: F) (h10.sb)))) ?_
                clear hK hSd HGf
                refine rg_eff 5 evD (by kernel_rfl) (fun K hK => ?_)
                (refine eff_call2 (by kernel_rfl) evD evD ?_)
                refine (getL_c (Nat.le_trans Hkb.out (by decide)) Hkl.out (h10.sb : Sat w0 _ (TabML pi mq B :: pt bP (.cells (penc Seg.Plc.zero).toArray 39 (0,0)) :: pt bB (.cells (bys k).toArray 41 (0,0)) :: osl 107 34 (.slice u1 fs.length uc) (entsL fs) :: dataS fs :: stPt ps last pi uv tv :: LogRep p m L :: MedRep m M :: F))).mono ?_
                rintro ee w11 ⟨v, rfl, rfl, h11⟩
                simp only [hm, Option.getD_some, Option.isSome_some]
                refine hK _ _ (.inl rfl) ?_
                clear hK h10
                refine rp 6 (hy := (yl_move evD)) (h := ?_)
                refine rp 7 (hy := (yl_extract evD rnD)) (h := ?_)
                refine rp 8 (hy := (yl_extract evD rnD)) (h := ?_)
                refine rg_eff 10 evD (by kernel_rfl) (fun K hK => ?_)
                refine eff_store h11 evD evD (cs := (penc Seg.Plc.zero).toArray) (cs' := (penc pl).toArray) (by rfl) upD (Nat.le_refl _) (by kernel_rfl) (by rfl) ?_
                intro w12 h12b
                refine hK _ _ (.inl rfl) ?_
                have h12 : Sat w0 w12 (pt bP (.cells (penc pl).toArray 39 (0,0)) :: TabML pi mq B :: pt bB (.cells (bys k).toArray 41 (0,0)) :: osl 107 34 (.slice u1 fs.length uc) (entsL fs) :: dataS fs :: stPt ps last pi uv tv :: LogRep p m L :: MedRep m M :: F) := h12b.sb
                clear hK h11 h12b
                refine rp 11 (hy := (yl_assign evD)) (h := ?_)
                refine wpL_done (by kernel_rfl) ?_
                try simp only [List.getElem_toArray, List.getElem_cons_succ, List.getElem_cons_zero]
                try go_frame
                have hap := lread_c (Ro.os HH.out) HL.out HM.out pl (by have := Hb1.out; omega) (by have := Hb2.out; omega) (h12.sb : Sat w0 _ (LogRep p m L :: MedRep m M :: pt bB (.cells (bys k).toArray 41 (0,0)) :: dataS fs :: F))
                rw [Hrd.out] at hap
                go_wp2_with ((with_reducible apply at_load); refine ⟨?_⟩; refine wl_loadA h12 (by rfl) pick0 Tryz.underlying39 rfl (by kernel_rfl) ?_)
                refine hap.mono ?_
                rintro ee w13 ⟨v, rfl, da, dc, rfl, h13⟩
                clear hap h12 hm
                have hxk0 : x.key.length = 32 := by rw [hxk]; exact Hkl.out
                have k1 : (entA x (.slice da x.data.length dc)).size = (entA Frm.zeroE (.slice none 0 0)).size := (entA_size _ _ hxk0).trans (entA_size _ _ rfl).symm
                have k2 : (Tryz.prog.info? 44).map (·.size) = some (entA x (.slice da x.data.length dc)).size := by rw [entA_size _ _ hxk0]; exact infoEntSize
                have k3 := entA_one x da x.data.length dc
                go_wp2_with (first
                  | ((with_reducible apply at_alloc); refine ⟨?_⟩; refine wl_alloc (cs := entA Frm.zeroE (.slice none 0 0)) zEnt h13 rfl ?_; intro bX w14 h14)
                  | ((with_reducible apply at_store); refine ⟨?_⟩; refine wl_storeA (entA x (.slice da x.data.length dc)) h14 (by rfl) (by rfl) k1 upd0 k2 k3 ?_; intro w15 h15)
                  | (with_reducible apply at_loadG))
                clear k1 k2 k3 h13 h14
                have hq : ∀ w, (Op.equalIn 10000 41 (.agg (bys k).toArray) (.agg (bys k).toArray)).run Tryz.prog w = .ok true w := fun w => by rw [eqIn_key _ _ Hkl.out Hkl.out]; simp
                have g0 : (entA x (.slice da x.data.length dc)).getD 0 undef = .int .i64 0 := by rw [entA_g0, hxt]
                have g1 := ent_range h15 pick0 hxk0
                rw [hxk] at g1
                have h15b : Sat w0 _ (pt bB (.cells (bys k).toArray 41 (0,0)) :: F) := h15.sb
                have g2 : World.rangeAt _ bB 0 (bys k) := fun j v hj => by rw [Nat.zero_add]; exact h15b.cellP pick0 j (by rw [List.getElem?_toArray]; exact hj)
                clear h15b
                have g3 := entA_g33 x (.slice da x.data.length dc) hxk0
                have g4 : 33 + 1 ≤ (entA x (.slice da x.data.length dc)).size := by rw [entA_size _ _ hxk0]; exact Nat.le_refl _
                have g5 : 0 + 1 ≤ (entA x (.slice da x.data.length dc)).size := by rw [entA_size _ _ hxk0]; decide
                clear hxk hxk0 hxt
                refine ⟨?_⟩
                refine wl_loadG1 (by rfl) h15 (by rfl) pick0 g5 g0 (by kernel_rfl) ?_
                go_wp2_with (first
                  | ((with_reducible apply at_loadG); refine ⟨?_⟩; refine wl_loadGm (o := 1) (by rfl) (by rfl) (bys k) _ g1 Tryz.underlying41 rfl (by rw [Hkn.out]; kernel_rfl) ?_)
                  | ((with_reducible apply at_loadG); refine ⟨?_⟩; refine wl_loadGm (o := 0) (by rfl) (by rfl) (bys k) _ g2 Tryz.underlying41 rfl (by rw [Hkn.out]; kernel_rfl) ?_)
                  | ((with_reducible apply at_loadG); refine ⟨?_⟩; refine wl_loadG1 (by rfl) h15 (by rfl) pick0 g4 g3 (by kernel_rfl) ?_))
                refine (same_c x.data (Ro.op (Ro.bsl _ _)) (by rw [Hxd.out]; exact Ro.os Hq.out.rd) h15 (Nat.le_trans Hql.out (by decide))).mono ?_
                rintro ee w16 ⟨v, rfl, rfl, h16⟩
                clear h15 g1 g2
                go_wp2_with fail
                refine (lives15_c (Ro.os HH.out) h16).mono ?_
                rintro ee w17 ⟨v, rfl, rfl, h17⟩
                clear h16
                go_wp2_with fail
                go_ret
                exact ⟨_, rfl, rfl, h17.sb⟩
end
end Go.Proofs.YtmjldaedhmipkaaGreatDoor
namespace Go.Proofs.YtmjldaedhmipkaaGreatDoor
open Go Go.Sl Go.Med Go.ChangeShapes Go.WideShapes Go.RowKit
section
variable {H : Type} {enc : TypeId × Value → H} {W : World} {base : Nat} {spare : Nat → Bool} {held : Bool}
set_option maxRecDepth 100000 in
theorem open_do15 {fuel : Nat} {cs : List Value} {x : DataW H × List MemPlace} (h : DataW.trod enc Tryz.prog W base spare held fuel 107 cs = some x) : ∃ p : Frm.Ent × Value, entL p.1 p.2 = cs ∧ EntAt W p := by
  obtain ⟨hl, hf⟩ := open_fields Tryz.underlying107 h
  have e34 : Tryz.prog.cellsOf 107 = 34 := by kernel_rfl
  have e1 : Tryz.prog.cellsOf 3 = 1 := by kernel_rfl
  have e2 : Tryz.prog.cellsOf 41 = 32 := by kernel_rfl
  have e3 : Tryz.prog.cellsOf 42 = 1 := by kernel_rfl
  have e5 : Tryz.prog.cellsOf 5 = 1 := by kernel_rfl
  rw [e34] at hl
  obtain ⟨n0, y0, h0⟩ := hf 0 _ rfl
  obtain ⟨n1, y1, h1⟩ := hf 1 _ rfl
  obtain ⟨n2, y2, h2⟩ := hf 2 _ rfl
  simp only [List.getElem_toArray, List.getElem_cons_zero, List.getElem_cons_succ, e1, e2, e3, List.drop_zero] at h0 h1 h2
  obtain ⟨z0, q0, _, w0⟩ := DataW.trod_int Tryz.underlying3 h0
  obtain ⟨kl, k1, k2⟩ := open_key Tryz.underlying41 e2 h1
  have hd : ∃ v, (cs.drop 33).take 1 = [v] := by
    have : ((cs.drop 33).take 1).length = 1 := by rw [List.length_take, List.length_drop]; omega
    exact List.length_eq_one_iff.1 this
  obtain ⟨dv, hdv⟩ := hd
  rw [hdv] at h2
  obtain ⟨l5, r5, c5⟩ := in_bys Tryz.underlying42 Tryz.underlying5 e5 h2
  refine ⟨(⟨z0, kl, l5⟩, dv), ?_, k2, bounds_i64 w0, r5, c5⟩
  show Value.int .i64 z0 :: (bys kl ++ [dv]) = cs
  have s1 : cs = cs.take 1 ++ ((cs.drop 1).take 32 ++ (cs.drop 33).take 1) := by
    have a1 : cs = cs.take 1 ++ cs.drop 1 := (List.take_append_drop 1 cs).symm
    have a2 : cs.drop 1 = (cs.drop 1).take 32 ++ (cs.drop 1).drop 32 := (List.take_append_drop 32 _).symm
    have a3 : (cs.drop 1).drop 32 = (cs.drop 33).take 1 := by rw [List.drop_drop, List.take_of_length_le (by rw [List.length_drop]; omega)]
    rw [a3] at a2
    rw [← a2]; exact a1
  rw [s1, q0, ← k1, hdv]; rfl
theorem okWide_array {P : Program} {w : World} {r : Reach} {base n : Nat} {t e : TypeId} {v : Value} (ht : P.underlying t = some (.array n e)) (h : Value.okWide P w r base t v) : ∃ cs, v = .agg cs ∧ cs.size = P.cellsOf t := by
  simp only [Value.okWide, ht] at h
  obtain ⟨cs, h1, h2, _⟩ := h
  exact ⟨cs, h1, h2⟩
theorem in_dos15 {fuel : Nat} {v : Value} {x : DataW H × List MemPlace} (h : DataW.trod enc Tryz.prog W base spare held fuel 103 [v] = some x) :
    ∃ es : List (Frm.Ent × Value), rdsl 34 v (entsL es) W ∧ capOk v ∧ ∀ p ∈ es, EntAt W p := by
  obtain ⟨elems, h1, h2, h3⟩ := open_sl Tryz.underlying103 (k := 34) (by kernel_rfl) (by omega) h
  obtain ⟨ds, h4, h5⟩ := map_of (f := fun p : Frm.Ent × Value => entL p.1 p.2) (p := fun d => EntAt W d) elems fun cs hcs => by
    obtain ⟨_, n, y, h6⟩ := h3 cs hcs
    exact open_do15 h6
  refine ⟨ds, ?_, h2, h5⟩
  unfold entsL
  rw [List.flatMap_def, h4]
  exact h1
end
end Go.Proofs.YtmjldaedhmipkaaGreatDoor
namespace Go.Proofs.YtmjldaedhmipkaaGreatDoor.card
open Go.ChangeShapes Go.WideShapes Go.ChangeAt Go.RowKit
open Go Go.Sl Go.Med
theorem gHalf : Tryz.prog.globalNamed "hoard/crc.half" = some 0 := by kernel_rfl
theorem tHalf : ((Tryz.prog.globals[0]?).map (·.type)) = some 284 := by kernel_rfl
theorem door_met (os : Os) (args : Array Value) : laidMetH Tryz.prog [("hoard/crc.half", Rows.laid_hoard_crc_half)] ((World.doorLaid Tryz.prog 400 os).forCall (fun _ _ => 0) ⟨#[], args, []⟩).memory :=
  laidMetH_of_parts3 (fuel := 8) (laidMet_of_run' 8 (by kernel_rfl) (by kernel_rfl)) (by kernel_rfl) (by kernel_rfl)
theorem of_laid {W : World} (h : laidMetH Tryz.prog [("hoard/crc.half", Rows.laid_hoard_crc_half)] W) : 0 < W.heap.size ∧ Half W := by
  rw [MakeChecks.laidMetH_plain _ _ _ (by kernel_rfl)] at h
  obtain ⟨ps, ⟨g0, t0, cs0, f0, p0, q0, hg0, ht0, hv0, hd0, hrest⟩, hrest2⟩ := h
  obtain rfl := Option.some.inj (gHalf.symm.trans hg0)
  obtain rfl := Option.some.inj (tHalf.symm.trans ht0)
  obtain ⟨xs, m1, rfl, hx1, hlen, hn3, hel⟩ := DataW.trod_array Tryz.underlying284 hd0
  have c3 : Tryz.prog.cellsOf 233 = 1 := by kernel_rfl
  simp only [Prod.mk.injEq, Rows.laid_hoard_crc_half, DataW.agg.injEq] at hx1
  have hH : Half W := by
    intro i hi
    have h0 := hel i hi
    have hxi : xs[i]? = some (xs[i]'(by omega)) := List.getElem?_eq_getElem (by omega)
    rw [hxi] at h0
    obtain ⟨k, e1, e2, _⟩ := DataW.trod_int Tryz.underlying233 h0
    rw [c3, Nat.mul_one] at e1
    have hc : cs0.toList[i]? = some (.int .u32 k) := by
      have : ((cs0.toList.drop i).take 1)[0]? = some (.int .u32 k) := by rw [e1]; rfl
      rw [List.getElem?_take, if_pos (by decide), List.getElem?_drop] at this
      exact this
    have hL := congrArg (fun l => l[i]?) hx1.1
    rw [List.getElem?_map, hxi] at hL
    have hk : k = ((Frm.half.getD i 0 : Nat) : Int) := by
      rw [e2] at hL
      rcases i with _ | _ | _ | _ | _ | _ | _ | _ | _ | _ | _ | _ | _ | _ | _ | _ | i
      all_goals first | omega | (simp at hL; rw [← hL]; rfl)
    subst hk
    have := World.var?_cell hg0 hv0 i
    rw [this, ← Array.getElem?_toList]
    exact hc
  refine ⟨?_, hH⟩
  by_cases hz : 0 < W.heap.size
  · exact hz
  · have h0 := hH 0 (by decide)
    have e : W.heap[0]? = none := Array.getElem?_eq_none (by omega)
    simp [World.cell?, e] at h0
end Go.Proofs.YtmjldaedhmipkaaGreatDoor.card
