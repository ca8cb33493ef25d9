import Derived.Test.YtmjldaedhmipkaaGreatDoorJ7
import Derived.Test.YtmjldaedhmipkaaGreatDoorRows
import Derived.Test.YtmjldaedhmipkaaGreatDoorCards
import Derived.Test.YtmjldaedhmipkaaGreatDoorTie
import Derived.ProofKit
import Derived.LaidMore
import Derived.OpenShut
import Derived.ShutString
import Derived.SevenTiedAt
set_option linter.unusedVariables false
namespace Go.Seg
open Go.Med
open Go.Frm (encs GoodE fnds Ent)
theorem playL_snoc : ∀ (ds : List Ent) (L : Log) (M : Med) (d : Ent), Log.playL (ds ++ [d]) L M = ((Log.playL ds L M).1.play1 (Log.playL ds L M).2 d).1
  | [], L, M, d => rfl
  | x :: ds, L, M, d => by
    rw [List.cons_append, Log.playL, playL_snoc ds]; rfl
theorem Pl.playL {n : Nat} {ds0 : List Ent} : ∀ (ds : List Ent) (L : Log) (M : Med) (C : List (List Ent)), Pl n ds0 L M C → (∀ d ∈ ds, d.key.length = 32 ∧ d.data.length ≤ 300) → n + ds.length ≤ 100 →
    ∃ C', Pl (n + ds.length) (ds0 ++ ds) (Log.playL ds L M).1 (Log.playL ds L M).2 C' ∧ (Log.playL ds L M).1.limit = L.limit
  | ds, L, M, C, h, hd, hn => by
    induction ds generalizing n ds0 L M C with
    | nil => exact ⟨C, by simpa [Log.playL] using h, rfl⟩
    | cons d ds ih =>
      rw [List.length_cons] at hn
      obtain ⟨h1, h2, h3, h4⟩ := h.step (d := d) (by omega) (hd d List.mem_cons_self).1 (hd d List.mem_cons_self).2
      obtain ⟨C', h5, h6⟩ := ih _ _ _ h4 (fun x hx => hd x (List.mem_cons_of_mem _ hx)) (by omega)
      refine ⟨C', ?_, h6.trans h2⟩
      rw [List.length_cons, show n + (ds.length + 1) = n + 1 + ds.length by omega, show ds0 ++ d :: ds = ds0 ++ [d] ++ ds by simp]
      exact h5
end Go.Seg
namespace Go.Proofs.YtmjldaedhmipkaaGreatDoor
open Go Go.Sl Go.Med Go.MapKept Go.RowKit
theorem puts2 (cs : Array Value) (hs : cs.size = 34) (u : Value) (kl : List Value) (hk : kl.length = 32) : (putsAt (putsAt cs 0 [u]) 1 kl).toList = u :: (kl ++ cs.toList.drop 33) := by
  have hcl : cs.toList.length = 34 := by simpa using hs
  rw [putsAt_list _ _ _ (by rw [putsAt_size]; omega), putsAt_list _ _ _ (by simp; omega)]
  simp only [List.take_zero, List.nil_append, List.length_singleton, Nat.zero_add]
  rw [List.singleton_append, List.take_succ_cons, List.take_zero, hk, show 1 + 32 = 32 + 1 by omega, List.drop_succ_cons, List.drop_drop]
  simp
theorem entA_drop33 (x : Frm.Ent) (dv : Value) (hk : x.key.length = 32) : (entA x dv).toList.drop 33 = [dv] := by
  have h1 : (entA x dv).toList = (Value.int .i64 x.tag :: bys x.key) ++ [dv] := by unfold entA entL; simp
  rw [h1, List.drop_left' (by rw [List.length_cons, bys_len, hk])]
set_option maxRecDepth 20000 in
theorem run_buildEnt2 (t : Int) (k : Frm.Bs) (hk : k.length = 32) (w : World) :
    (Instr.build 44 #[(0, .int .i64 t), (1, .agg (bys k).toArray)]).run Tryz.prog w = .ok (.agg (entA ⟨t, k, []⟩ (.slice none 0 0))) w := by
  have hz : (entA Frm.zeroE (.slice none 0 0)).size = 34 := entA_size _ _ rfl
  have hks : (bys k).toArray.size = 32 := by simp [bys, hk]
  have h := run_build (P := Tryz.prog) [(0, .int .i64 t), (1, .agg (bys k).toArray)] plEnt zEnt (by
    intro p hp
    simp only [List.mem_cons, List.not_mem_nil, or_false] at hp
    have hzz : zeroEntV.cells.size = 34 := hz
    rw [hzz]
    rcases hp with rfl | rfl
    · exact ⟨0, rfl, by show 0 + 1 ≤ 34; omega⟩
    · refine ⟨1, ?_, ?_⟩
      · show some (1, 32) = some (1, (bys k).toArray.size); rw [hks]
      · show 1 + (bys k).toArray.size ≤ 34; rw [hks]; omega) w
  refine h.trans ?_
  congr 2
  have h1 : (entA ⟨t, k, []⟩ (.slice none 0 0)).toList = Value.int .i64 t :: (bys k ++ [.slice none 0 0]) := by unfold entA entL; simp
  have h3 : (entA Frm.zeroE (.slice none 0 0)).toList.drop 33 = [.slice none 0 0] := entA_drop33 Frm.zeroE _ rfl
  apply putsAt_eq
  rw [h1, ← h3]
  exact puts2 _ hz _ _ (show (bys k).toArray.toList.length = 32 by rw [List.toList_toArray, bys_len, hk])
section
variable {w0 w : World} {F R : List HProp} {v bv dv x lv : Value} {p m : Nat} {L : Seg.Log} {M : Med}
set_option maxRecDepth 20000 in
set_option maxHeartbeats 8000000 in
theorem more15_c (es : List (Frm.Ent × Value)) {n0 : Nat} {ds0 : List Frm.Ent} {C : List (List Frm.Ent)} (hP : Seg.Pl n0 ds0 L M C) (hn : n0 + es.length ≤ 100) (hr : Ro w0 F (rdsl 34 lv (entsL es))) (he : ∀ p ∈ es, EntRo w0 F p) (hd : ∀ p ∈ es, p.1.data.length ≤ 300) (hH : Ro w0 F Half) (h : Sat w0 w (LogRep p m L :: MedRep m M :: F)) :
    Calls Tryz.prog 54 #[ptr p, lv] w (Rtn fun v w' => v = ptr p ∧ Sat w0 w' (LogRep p m (Seg.Log.playL (es.map (·.1)) L M).1 :: MedRep m (Seg.Log.playL (es.map (·.1)) L M).2 :: F)) := by
  obtain ⟨la, ln, lc, rfl, hl, _⟩ := hr w (h.sb)
  rw [entsL_len (fun p hp => (he p hp).key)] at hl
  obtain rfl : ln = es.length := by omega
  have Hr := Lib.hid hr; have He := Lib.hid he; have Hn := Lib.hid hn; have Hd := Lib.hid hd; have HH := Lib.hid hH
  have HP := Lib.hid hP
  clear hr he hl hn hd hH hP
  go_enter Tryz.func54, Tryz.ntmps54
  go_wp2_with fail
  go_loopg [5] es.length (fun g iq wr => ∃ (i : Nat) (ds : List Frm.Ent), g = es.length - i ∧ i ≤ es.length ∧ iq = .int .i64 i ∧ ds = (es.map (·.1)).take i ∧
    Sat w0 wr (LogRep p m (Seg.Log.playL ds L M).1 :: MedRep m (Seg.Log.playL ds L M).2 :: F))
  case atStart => exact ⟨0, [], rfl, Nat.zero_le _, rfl, rfl, h⟩
  case round =>
    obtain ⟨i, ds, rfl, hi, rfl, hds, hS⟩ := hrel
    have Hds := Lib.hid hds; have Hi := Lib.hid hi
    clear h hds hi
    by_cases hlt : i < es.length
    · have c1 : (i : Int) < (es.length : Int) := by omega
      have hwi : IntKind.i64.wrap ((i : Int) + 1) = (i : Int) + 1 := IntWalk.i64_in _ (by have := Hn.out; omega)
      have Hl1 := Lib.hid hlt
      clear hlt
      obtain ⟨x, hx⟩ : ∃ x, es[i]? = some x := ⟨_, List.getElem?_eq_getElem Hl1.out⟩
      have hxe := He.out x (List.mem_of_getElem? hx)
      have hk : ∀ p ∈ es, p.1.key.length = 32 := fun p hp => (He.out p hp).key
      have Hsn := Lib.hid (show ds ++ [x.1] = (es.map (·.1)).take (i + 1) by
        rw [Hds.out, List.take_add_one, List.getElem?_map, hx]; rfl)
      have hdl0 := Hd.out x (List.mem_of_getElem? hx)
      have hpl : ∃ C', Seg.Pl (n0 + ds.length) (ds0 ++ ds) (Seg.Log.playL ds L M).1 (Seg.Log.playL ds L M).2 C' ∧ (Seg.Log.playL ds L M).1.limit = L.limit := by
        refine Seg.Pl.playL ds L M C HP.out (fun y hy => ?_) ?_
        · rw [Hds.out] at hy
          obtain ⟨q, hq, rfl⟩ := List.mem_map.1 (List.mem_of_mem_take hy)
          exact ⟨hk q hq, Hd.out q hq⟩
        · have := Hn.out
          rw [Hds.out, List.length_take, List.length_map]; omega
      obtain ⟨C', hpl, _⟩ := hpl
      have hst := hpl.step (d := x.1) (by have := Hn.out; have := Hl1.out; rw [Hds.out, List.length_take, List.length_map]; omega) hxe.key hdl0
      have Hpl := Lib.hid hpl
      have Hg := Lib.hid (Seg.playL_snoc ds L M x.1)
      have hrF : Ro w0 (LogRep p m (Seg.Log.playL ds L M).1 :: MedRep m (Seg.Log.playL ds L M).2 :: F) (rdsl 34 (.slice la es.length lc) (entsL es)) := Ro.os Hr.out
      obtain ⟨bk, off, rfl, _⟩ := rdsl_cells (hrF _ hS) (entsL_at hk hx (entL_at0 _ _))
      have HG := Lib.hid (show ∀ w' L, Ro w0 L (rdsl 34 (.slice (some ⟨bk, off, none⟩) es.length lc) (entsL es)) → Sat w0 w' L → w'.cell? ⟨bk, off + i * 34, none⟩ = some (.int .i64 x.1.tag) ∧ w'.rangeAt bk (off + i * 34 + 1) (bys x.1.key) ∧ w'.cell? ⟨bk, off + i * 34 + 33, none⟩ = some x.2 by
        intro w' L hL hw
        obtain ⟨bk', off', hbo, hcell⟩ := rdsl_cells (hL w' hw) (entsL_at hk hx (entL_at0 _ _))
        cases hbo
        refine ⟨hcell _ _ (entsL_at hk hx (entL_at0 _ _)), fun j y hj => ?_, ?_⟩
        · have := hcell _ _ (entsL_at hk hx (entL_key _ x.2 hj))
          rw [show off + (i * 34 + (1 + j)) = off + i * 34 + 1 + j by omega] at this
          exact this
        · have := hcell _ _ (entsL_at hk hx (entL_at33 _ _ hxe.key))
          rw [show off + (i * 34 + 33) = off + i * 34 + 33 by omega] at this
          exact this)
      obtain ⟨⟨tag, key, data⟩, dv⟩ := x
      obtain ⟨da, dn, dc, rfl, hdn, hdc⟩ := hxe.cap
      have hdl : dn = data.length := by
        obtain ⟨a', n', c', he, hl, _⟩ := hxe.rd _ (hS.sb)
        cases he
        rw [bys_len, Nat.mul_one] at hl; exact hl.symm
      subst hdl
      have Hrd := Lib.hid hxe.rd; have Hkey := Lib.hid (show key.length = 32 from hxe.key)
      have Hdl := Lib.hid (show data.length ≤ 300 from hdl0)
      have Hks := Lib.hid (show (bys key).length = 32 by rw [bys_len]; exact Hkey.out)
      have e0 := (HG.out _ _ hrF hS).1
      have Hok := Lib.hid Hpl.out.holds.keeps.log
      have Hmo := Lib.hid Hpl.out.holds.keeps.calm.ok
      have Hnb := Lib.hid (show (n0 + ds.length) * 5 ≤ 1000 by have := Hn.out; have := Hl1.out; rw [Hds.out, List.length_take, List.length_map]; omega)
      clear hx hxe hk hrF hdl0 hpl Hpl
      dsimp only at hst e0
      change Hid (ds ++ [(⟨tag, key, data⟩ : Frm.Ent)] = _) at Hsn
      have hkd : tag = 0 ∨ tag = 1 ∨ ((tag == 0) = false ∧ (tag == 1) = false ∧ ¬ Seg.isPut ⟨tag, key, data⟩) := by
        simp only [beq_eq_false_iff_ne, Seg.isPut]; omega
      rcases hkd with rfl | rfl | ⟨k0, k1, k2⟩
      · as_aux_lemma =>
          have hpe := Seg.put_eq (L := (Seg.Log.playL ds L M).1) (M := (Seg.Log.playL ds L M).2) (d := ⟨0, key, data⟩) (.inl rfl)
          rw [show Seg.toE ⟨0, key, data⟩ = ⟨0, key, data⟩ from rfl] at hpe
          have hap := Lib.hid (fun w' R' (hh : Ro w0 R' Half) (hr : Ro w0 R' (rdsl 1 (.slice da data.length dc) (bys data))) (hw : Sat w0 w' (LogRep p m (Seg.Log.playL ds L M).1 :: MedRep m (Seg.Log.playL ds L M).2 :: R')) => lappend_c ⟨0, key, data⟩ Hkey.out da dc hr hh (Nat.le_trans Hdl.out (by decide)) Hok.out Hmo.out (Nat.le_trans (Nat.add_le_add_right Hnb.out 4) (by decide)) hw)
          rw [hpe] at hst Hg
          clear hpe
          generalize Seg.Log.playL ds L M = lm at *
          obtain ⟨L1, M1⟩ := lm
          dsimp only at hst Hg hap hS
          generalize L1.append M1 ⟨0, key, data⟩ = r at *
          obtain ⟨⟨L2, M2⟩, pc, e2⟩ := r
          dsimp only at hst Hg hap
          obtain ⟨rfl, _⟩ := hst
          go_wp2_with fail
          have hAd := hS.drew
          refine wpL_begin [13, 14, 15, 16] (fun w' => w'.rangeAt bk (off + i * 34 + 1) (bys key) ∧ w'.cell? ⟨bk, off + i * 34 + 33, none⟩ = some (.slice da data.length dc)) (by kernel_rfl) ?_
          have hG := (HG.out _ _ (Ro.os Hr.out) hAd).2
          refine rp 0 (hy := (yl_move evD)) (h := ?_)
          refine rp 1 (hy := (yl_move evD)) (h := ?_)
          refine rp 2 (hy := (yl_move evD)) (h := ?_)
          refine rp 3 (hy := (yl_index evD evD rnD)) (h := ?_)
          refine rp 4 (hy := (yl_field evD rnD)) (h := ?_)
          refine rg_take 5 evD (by kernel_rfl) (by intro _ _ _ h; exact h) (tk_loadN (b := bk) (o := off + i * 34 + 1) (bys key) (by rfl) Tryz.underlying41 rfl (by rw [Hks.out]; kernel_rfl) (fun w hw => hw.1)) (by assumption) (by go_frame; first | done | rfl) ?_
          refine rp 6 (hy := (yl_move evD)) (h := ?_)
          refine rp 7 (hy := (yl_move evD)) (h := ?_)
          refine rp 8 (hy := (yl_index evD evD rnD)) (h := ?_)
          refine rp 9 (hy := (yl_field evD rnD)) (h := ?_)
          refine rt 10 (h := ?_)
          clear hG
          refine rp 11 (hy := (yl_build3 evD evD evD (fun w => run_buildEnt ⟨0, key, data⟩ Hkey.out da data.length dc w))) (h := ?_)
          refine rg_eff 12 evD (by kernel_rfl) (fun K hK => ?_)
          (refine eff_call2 (by kernel_rfl) evD evD ?_)
          refine (hap.out _ _ (Ro.os HH.out) (Ro.os Hrd.out) hAd).mono ?_
          rintro ee w21 ⟨v, rfl, rfl, hS21⟩
          refine hK _ _ (.inr (.inl (HG.out _ _ (Ro.os Hr.out) hS21).2)) ?_
          clear hK hap hAd
          refine rp 13 (hy := (yl_move evD)) (h := ?_)
          refine rp 14 (hy := (yl_extract evD rnD)) (h := ?_)
          refine rp 15 (hy := (yl_extract evD rnD)) (h := ?_)
          refine rp 16 (hy := (yl_assign evD)) (h := ?_)
          refine wpL_done (by kernel_rfl) ?_
          go_wp2_with fail
          go_roundg (es.length - (i + 1))
          case measure => have := Hl1.out; omega
          case rel => exact ⟨i + 1, _, rfl, Nat.succ_le_of_lt Hl1.out, by first | rfl | go_num, Hsn.out, by rw [Hg.out]; exact hS21⟩
      · as_aux_lemma =>
          have hpe := Seg.put_eq (L := (Seg.Log.playL ds L M).1) (M := (Seg.Log.playL ds L M).2) (d := ⟨1, key, data⟩) (.inr rfl)
          rw [show Seg.toE ⟨1, key, data⟩ = ⟨1, key, []⟩ from rfl] at hpe
          have hap := Lib.hid (fun w' R' (hh : Ro w0 R' Half) (hr : Ro w0 R' (rdsl 1 (.slice none ([] : Frm.Bs).length 0) (bys []))) (hw : Sat w0 w' (LogRep p m (Seg.Log.playL ds L M).1 :: MedRep m (Seg.Log.playL ds L M).2 :: R')) => lappend_c ⟨1, key, []⟩ Hkey.out none 0 hr hh (Nat.zero_le _) Hok.out Hmo.out (Nat.le_trans (Nat.add_le_add_right Hnb.out 4) (by decide)) hw)
          rw [hpe] at hst Hg
          clear hpe
          generalize Seg.Log.playL ds L M = lm at *
          obtain ⟨L1, M1⟩ := lm
          dsimp only at hst Hg hap hS
          generalize L1.append M1 ⟨1, key, []⟩ = r at *
          obtain ⟨⟨L2, M2⟩, pc, e2⟩ := r
          dsimp only at hst Hg hap
          obtain ⟨rfl, _⟩ := hst
          have HC := Lib.hid (HG.out _ _ (Ro.os Hr.out : Ro w0 (LogRep p m L1 :: MedRep m M1 :: F) _) hS).2.1
          go_wp2_with (first
            | ((with_reducible apply at_load); refine ⟨?_⟩; refine wl_loadW (b := bk) (o := off + i * 34 + 1) (bys key) (by rfl) HC.out Tryz.underlying41 rfl (by rw [Hks.out]; kernel_rfl) ?_)
            | ((with_reducible apply at_build2); refine ⟨?_⟩; refine wl_build2 (by rfl) (by rfl) (fun w => run_buildEnt2 1 key Hkey.out w) ?_))
          refine (hap.out _ _ (Ro.os HH.out) (fun w _ => rdsl_nil 1 0 w) hS).mono ?_
          rintro ee w21 ⟨v, rfl, rfl, hS21⟩
          clear hap hS HC e0
          go_wp2_with fail
          go_roundg (es.length - (i + 1))
          case measure => have := Hl1.out; omega
          case rel => exact ⟨i + 1, _, rfl, Nat.succ_le_of_lt Hl1.out, by first | rfl | go_num, Hsn.out, by rw [Hg.out]; exact hS21⟩
      · as_aux_lemma =>
          have hpe := Seg.com_eq (L := (Seg.Log.playL ds L M).1) (M := (Seg.Log.playL ds L M).2) (d := ⟨tag, key, data⟩) k2
          have hap := Lib.hid (fun w' R' (hh : Ro w0 R' Half) (hw : Sat w0 w' (LogRep p m (Seg.Log.playL ds L M).1 :: MedRep m (Seg.Log.playL ds L M).2 :: R')) => lcommit_c hh Hok.out Hmo.out (Nat.le_trans (Nat.add_le_add_right Hnb.out 6) (by decide)) hw)
          rw [hpe] at hst Hg
          clear hpe k2
          generalize Seg.Log.playL ds L M = lm at *
          obtain ⟨L1, M1⟩ := lm
          dsimp only at hst Hg hap hS
          generalize L1.commit M1 = r at *
          obtain ⟨⟨L2, M2⟩, pc, e2⟩ := r
          dsimp only at hst Hg hap
          obtain ⟨rfl, _⟩ := hst
          go_wp2_with fail
          refine (hap.out _ _ (Ro.os HH.out) hS).mono ?_
          rintro ee w21 ⟨v, rfl, rfl, hS21⟩
          clear hap hS e0
          go_wp2_with fail
          go_roundg (es.length - (i + 1))
          case measure => have := Hl1.out; omega
          case rel => exact ⟨i + 1, _, rfl, Nat.succ_le_of_lt Hl1.out, by first | rfl | go_num, Hsn.out, by rw [Hg.out]; exact hS21⟩
    · have c1 : ¬ (i : Int) < (es.length : Int) := by omega
      have hfin : ds = es.map (·.1) := by
        rw [Hds.out, List.take_of_length_le (by rw [List.length_map]; omega)]
      subst hfin
      clear hlt
      go_wp2
      go_ret
      exact ⟨_, rfl, rfl, hS⟩
end
theorem fresh_new (r : Nat) (limit : Int) : Seg.fresh (Med.new r) limit = ⟨limit, [], false, 0⟩ := rfl
theorem plDo15 : placesB Tryz.prog 107 = some [(0, 1), (1, 32), (33, 1)] := by kernel_rfl
set_option maxRecDepth 20000 in
theorem run_buildKind (tag : Int) (w : World) : (Instr.build 107 #[(0, .int .i64 tag)]).run Tryz.prog w = .ok (.agg (entA ⟨tag, Frm.zero32, []⟩ (.slice none 0 0))) w := by
  have hz : (entA Frm.zeroE (.slice none 0 0)).size = 34 := entA_size _ _ rfl
  have h := run_build (P := Tryz.prog) [(0, .int .i64 tag)] plDo15 zDo15 (by
    intro p hp
    rw [List.mem_singleton] at hp
    subst hp
    have hzz : zeroEntV.cells.size = 34 := hz
    rw [hzz]
    exact ⟨0, rfl, by show 0 + 1 ≤ 34; omega⟩) w
  exact h
section
variable {w0 w : World} {F R L L' : List HProp} {v bv dv x lv : Value} {p m : Nat}
variable {b : Nat} {ops : Array Oper} {rest : List Oper} {a : Act} {Q : Exit → Act → World → Prop} {dst : Option Tmp} {t T : TypeId} {pos : String} {after : Array Edge} {y : Operand}
theorem wl_buildKind {tag : Int} (hx : a.eval y = .int .i64 tag) (h : wpList Tryz.prog ops Q rest (a.put dst (.agg (entA ⟨tag, Frm.zero32, []⟩ (.slice none 0 0)))) w) : wpList Tryz.prog ops Q (⟨dst, .build 107 #[(0, y)], t, pos, after, none⟩ :: rest) a w :=
  wpList_plain rfl fun _ hK => by
    unfold Oper.wp execOp
    simp only [List.map_toArray, List.map_cons, List.map_nil, hx, Sem.run_bind, run_buildKind, Result.andThen_ok, Sem.run_pure]
    exact hK _ _ h
theorem at_buildKind (h : Stop (wpList Tryz.prog ops Q (⟨dst, .build 107 #[(0, y)], t, pos, after, none⟩ :: rest) a w)) : wpList Tryz.prog ops Q (⟨dst, .build 107 #[(0, y)], t, pos, after, none⟩ :: rest) a w := h.out
def comD : Frm.Ent × Value := (⟨2, Frm.zero32, []⟩, .slice none 0 0)
theorem comD_ro : EntRo w0 F comD := ⟨rfl, fun w _ => rdsl_nil 1 0 w, ⟨_, _, _, rfl, Nat.le_refl 0, Nat.zero_le _⟩⟩
theorem few_le {fs es : List (Frm.Ent × Value)} {n long : Nat} (h : fs.map (·.1) = Frm.few (es.map (·.1)) n long) : fs.length ≤ n ∧ ∀ q ∈ fs, q.1.data.length ≤ long := by
  refine ⟨?_, fun q hq => ?_⟩
  · have := congrArg List.length h
    unfold Frm.few at this
    rw [List.length_map, List.length_map, List.length_take] at this; omega
  · have h1 : q.1 ∈ fs.map (·.1) := List.mem_map.2 ⟨q, hq, rfl⟩
    rw [h] at h1
    unfold Frm.few at h1
    obtain ⟨x, _, e⟩ := List.mem_map.1 h1
    rw [← e]
    show (x.data.take long).length ≤ long
    rw [List.length_take]; omega
set_option maxRecDepth 20000 in
set_option maxHeartbeats 8000000 in
theorem played15_c (es : List (Frm.Ent × Value)) (z : Int) (hn : es.length ≤ 100) (hr : Ro w0 F (rdsl 34 lv (entsL es))) (he : ∀ p ∈ es, EntRo w0 F p) (hd : ∀ p ∈ es, p.1.data.length ≤ 300) (hH : Ro w0 F Half) (h : Sat w0 w F) :
    Calls Tryz.prog 53 #[.int .i64 z, lv] w (Rtn fun v w' => ∃ p m, v = ptr p ∧ (128 ≤ within z 128 3000 ∧ within z 128 3000 ≤ 3000) ∧ Sat w0 w' (LogRep p m (Seg.Log.playL (es.map (·.1)) ⟨within z 128 3000, [], false, 0⟩ (Med.new 1048576)).1 :: MedRep m (Seg.Log.playL (es.map (·.1)) ⟨within z 128 3000, [], false, 0⟩ (Med.new 1048576)).2 :: F)) := by
  have hlim := within_mem z 128 3000 (by decide)
  have Hr := Lib.hid hr; have He := Lib.hid he; have Hn := Lib.hid hn; have Hd := Lib.hid hd; have HH := Lib.hid hH
  have hnew : Calls Tryz.prog 13 #[.int .i64 1048576] w (Rtn fun v w' => ∃ m, v = .tuple #[ptr m, errno 0] ∧ Sat w0 w' (MedRep m (Med.new 1048576) :: F)) := new_yes 1048576 (by decide) h
  have hwi := within_c z 128 3000
  generalize within z 128 3000 = lim at *
  have Hlim := Lib.hid hlim
  clear hr he hn hd hH h hlim
  go_enter Tryz.func53, Tryz.ntmps53
  go_wp2_with fail
  refine hnew.mono ?_
  rintro ee w1 ⟨v, rfl, m, rfl, h1⟩
  clear hnew
  go_wp2_with fail
  refine (hwi _).mono ?_
  rintro ee w2 ⟨v, rfl, rfl, rfl⟩
  clear hwi
  have hop := open_c (K := 0) (Med.Ok.new 0 1048576 (by decide)) lim h1 (by rfl) Hlim.out.1 (by have := Hlim.out.2; omega)
  rw [fresh_new] at hop
  go_wp2_with fail
  refine hop.mono ?_
  rintro ee w3 ⟨v, rfl, p, rfl, h3⟩
  clear hop h1
  have hmo := more15_c es (Seg.Pl.start lim Hlim.out.1 (by have := Hlim.out.2; omega)) (by have := Hn.out; omega) Hr.out He.out Hd.out HH.out h3
  clear h3
  generalize hg : Seg.Log.playL (es.map (·.1)) ⟨lim, [], false, 0⟩ (Med.new 1048576) = r at *
  have Hg := Lib.hid hg
  clear hg
  go_wp2_with fail
  refine hmo.mono ?_
  rintro ee w4 ⟨v, rfl, rfl, h4⟩
  clear hmo
  go_wp2_with fail
  go_ret
  refine ⟨_, rfl, p, m, rfl, Hlim.out, ?_⟩
  rw [Hg.out]
  exact h4
end
end Go.Proofs.YtmjldaedhmipkaaGreatDoor
namespace Go.Rep
open Go.Frm (Bs Fnd Ent fnds encs GoodE)
open Go.Seg (Plc mag)
open Go.Tab
def segSum (l : List Row) (s : Int) : Int := (l.map fun r => if r.1 = s then (r.2.size : Int) else 0).sum
theorem segSum_app (a b : List Row) (s : Int) : segSum (a ++ b) s = segSum a s + segSum b s := by unfold segSum; rw [List.map_append, List.sum_append]
theorem live_seg {l : List Row} (s : Int) : ∀ i, i ≤ l.length → 0 ≤ live l s i ∧ live l s i ≤ segSum (l.take i) s
  | 0, _ => ⟨Int.le_refl 0, by simp [live, segSum]⟩
  | i + 1, hi => by
    have ih := live_seg (l := l) s i (by omega)
    obtain ⟨r, hr⟩ : ∃ r, l[i]? = some r := ⟨_, List.getElem?_eq_getElem (by omega)⟩
    rw [List.take_add_one, hr, Option.toList_some, segSum_app]
    have e : segSum [r] s = if r.1 = s then (r.2.size : Int) else 0 := by unfold segSum; simp
    rw [e]
    unfold live
    rw [hr]
    simp only
    by_cases h : r.1 = s
    · rw [if_pos h]
      split <;> omega
    · rw [if_neg h, if_neg (fun hh => h hh.2)]; omega
theorem fnds_sum : ∀ (es : List Ent) (a : Nat), ((fnds es a).map fun f => (f.size : Int)).sum = (encs es).length
  | [], _ => rfl
  | x :: es, a => by
    have e : encs (x :: es) = (Frm.encode x).1 ++ encs es := rfl
    unfold fnds
    rw [List.map_cons, List.sum_cons, fnds_sum es, e, List.length_append]; simp
theorem segSum_row (l : List Fnd) (k s : Int) : segSum (l.map fun f => (k, f)) s = if k = s then (l.map fun f => (f.size : Int)).sum else 0 := by
  unfold segSum
  rw [List.map_map]
  by_cases h : k = s
  · rw [if_pos h]
    congr 1
    refine List.map_congr_left fun f _ => ?_
    simp [h]
  · rw [if_neg h]
    induction l with
    | nil => rfl
    | cons f l ih => rw [List.map_cons, List.sum_cons, ih]; simp [h]
theorem segSum_lt : ∀ (C : List (List Ent)) (k : Nat) (s : Int), s < k → segSum (rowsC k C) s = 0
  | [], _, _, _ => rfl
  | es :: C, k, s, h => by
    unfold rowsC
    rw [segSum_app, segSum_lt C (k + 1) s (by omega), segSum_row, if_neg (by omega)]; rfl
theorem segSum_is : ∀ (C : List (List Ent)) (k j : Nat) (es : List Ent), C[j]? = some es → segSum (rowsC k C) ((k + j : Nat) : Int) = (encs es).length
  | [], _, _, _, h => by simp at h
  | fs :: C, k, 0, es, h => by
    obtain rfl : fs = es := by simpa using h
    unfold rowsC
    rw [segSum_app, segSum_lt C (k + 1) _ (by omega), segSum_row, if_pos (by simp), fnds_sum]; simp
  | fs :: C, k, j + 1, es, h => by
    unfold rowsC
    rw [segSum_app, segSum_row, if_neg (by omega)]
    have := segSum_is C (k + 1) j es (by simpa using h)
    rw [show k + (j + 1) = k + 1 + j by omega, this]; simp
def total (kv : List (Bs × Abt)) : Int := (kv.map fun p => if counts p.2 = true then p.2.place.size else 0).sum
def objs (kv : List (Bs × Abt)) : Int := (kv.map fun p => if p.2.tag = 0 then p.2.place.size else 0).sum
theorem objs_puts (kv : List (Bs × Abt)) : ((puts kv).map fun q => q.2.size).sum = objs kv := by
  induction kv with
  | nil => rfl
  | cons p kv ih =>
    unfold puts objs at *
    rw [List.filter_cons, List.map_cons, List.sum_cons]
    by_cases h : p.2.tag = 0
    · rw [if_pos (by simpa using h), if_pos h, List.map_cons, List.map_cons, List.sum_cons, ih]
    · rw [if_neg (by simpa using h), if_neg h, ih, Int.zero_add]
theorem sum_zero {α : Type} (l : List α) : (l.map fun _ => (0 : Int)).sum = 0 := by
  induction l with
  | nil => rfl
  | cons x l ih => rw [List.map_cons, List.sum_cons, ih]; rfl
theorem sum_add {α : Type} (l : List α) (f g : α → Int) : (l.map fun x => f x + g x).sum = (l.map f).sum + (l.map g).sum := by
  induction l with
  | nil => rfl
  | cons x l ih => simp only [List.map_cons, List.sum_cons, ih]; omega
theorem sum_one (s z : Int) : ∀ (ns : List Int), ns.Nodup → s ∈ ns → (ns.map fun t => if s = t then z else 0).sum = z
  | [], _, h => by cases h
  | t :: ns, hn, h => by
    obtain ⟨h1, h2⟩ := List.nodup_cons.1 hn
    rw [List.map_cons, List.sum_cons]
    by_cases e : s = t
    · subst e
      rw [if_pos rfl]
      have : (ns.map fun t => if s = t then z else 0) = ns.map fun _ => (0 : Int) := List.map_congr_left fun t ht => if_neg fun (e : s = t) => h1 (by rw [e]; exact ht)
      rw [this, sum_zero]; omega
    · rw [if_neg e, sum_one s z ns h2 ((List.mem_cons.1 h).resolve_left e), Int.zero_add]
theorem lives_total {ns : List Int} (hn : ns.Nodup) : ∀ (kv : List (Bs × Abt)), (∀ p ∈ kv, p.2.place.seg ∈ ns) → (ns.map fun s => liveL s kv).sum = total kv
  | [], _ => sum_zero ns
  | p :: kv, h => by
    have ih := lives_total hn kv fun q hq => h q (.tail _ hq)
    have e : (ns.map fun s => liveL s (p :: kv)) = ns.map fun s => (if counts p.2 = true ∧ p.2.place.seg = s then p.2.place.size else 0) + liveL s kv := rfl
    have et : total (p :: kv) = (if counts p.2 = true then p.2.place.size else 0) + total kv := by unfold total; rw [List.map_cons, List.sum_cons]
    rw [e, sum_add, ih, et]
    congr 1
    by_cases hc : counts p.2 = true
    · rw [if_pos hc]
      refine Eq.trans ?_ (sum_one p.2.place.seg p.2.place.size ns hn (h p (.head _)))
      congr 1
      refine List.map_congr_left fun s _ => ?_
      simp [hc]
    · rw [if_neg hc]
      refine Eq.trans ?_ (sum_zero ns)
      congr 1
      refine List.map_congr_left fun s _ => if_neg fun (hh : counts p.2 = true ∧ p.2.place.seg = s) => hc hh.1
theorem total_objs : ∀ (kv : List (Bs × Abt)), (∀ p ∈ kv, p.2.tag = 0 ∨ p.2.place.size = 41) → ∃ m : Nat, total kv = objs kv + 41 * m
  | [], _ => ⟨0, rfl⟩
  | p :: kv, h => by
    obtain ⟨m, hm⟩ := total_objs kv fun q hq => h q (.tail _ hq)
    have e1 : total (p :: kv) = (if counts p.2 = true then p.2.place.size else 0) + total kv := by unfold total; rw [List.map_cons, List.sum_cons]
    have e2 : objs (p :: kv) = (if p.2.tag = 0 then p.2.place.size else 0) + objs kv := by unfold objs; rw [List.map_cons, List.sum_cons]
    rw [e1, e2, hm]
    by_cases h0 : p.2.tag = 0
    · have hc : counts p.2 = true := by unfold counts; simp [h0]
      rw [if_pos hc, if_pos h0]
      exact ⟨m, by omega⟩
    · rw [if_neg h0]
      have h41 := (h p (.head _)).resolve_left h0
      by_cases hc : counts p.2 = true
      · rw [if_pos hc, h41]
        exact ⟨m + 1, by omega⟩
      · rw [if_neg hc]
        exact ⟨m, by omega⟩
theorem del_size {x : Ent} (h : GoodE x) (ht : x.tag = 1) : (Frm.encode x).1.length = 41 := by
  rw [Seg.size_enc h.1 h.2]
  obtain ⟨hc, _⟩ := Frm.encode_zero h.1
  unfold Frm.size
  rw [if_neg (by simp [hc]), if_neg (by rw [ht]; decide)]
  rcases Frm.check_cases hc with ⟨t, _⟩ | ⟨t, _⟩ | ⟨_, d⟩
  · rw [ht] at t; cases t
  · rw [ht] at t; cases t
  · rw [d]; rfl
end Go.Rep
namespace Go.Rep
open Go.Frm (Bs Fnd Ent fnds encs GoodE)
open Go.Seg (Plc mag)
open Go.Tab
theorem newest_some : ∀ {l : List Row} {k : Bs} {r : Row}, newest l k = some r → r ∈ l ∧ rtag r ≠ 2 ∧ rkey r = k
  | [], _, _, h => by cases h
  | x :: l, k, r, h => by
    unfold newest at h
    split at h
    · rename_i y hy
      cases h
      obtain ⟨h1, h2⟩ := newest_some hy
      exact ⟨.tail _ h1, h2⟩
    · split at h
      · rename_i hh
        cases h
        exact ⟨.head _, hh⟩
      · cases h
structure LiveOk (us : List Use) (ps : List (Bs × Plc)) (size : Int → Int) : Prop where
  each : ∀ u ∈ us, 0 ≤ u.live ∧ u.live ≤ u.size - 8 ∧ size u.seg = u.size ∧ u.size ≤ 33554432
  objs : ∀ q ∈ ps, 0 ≤ q.2.size ∧ q.2.size ≤ 341
  sum : ∃ m : Nat, (us.map (·.live)).sum = (ps.map (·.2.size)).sum + 41 * m
  ulen : us.length ≤ 100
  plen : ps.length ≤ 100
end Go.Rep
namespace Go.Seg
open Go.Med
open Go.Frm (Bs Fnd encs GoodE fnds Ent)
open Go.Rep
section
variable {n : Nat} {ds : List Ent} {L : Log} {M : Med} {C : List (List Ent)} {c : Nat}
theorem Pl.row (h : Pl n ds L M C) {r : Rep.Row} (hr : r ∈ Rep.rowsC 0 (C.take c)) : ∃ j es, C[j]? = some es ∧ j < c ∧ r.1 = (j : Int) ∧ r.2 ∈ fnds es 8 ∧ GoodE r.2.e ∧ r.2.size = (Frm.encode r.2.e).1.length ∧ r.2.size ≤ 341 := by
  obtain ⟨j, es, h1, h2, h3⟩ := Rep.rowsC_mem (C.take c) 0 hr
  have hj : j < c ∧ C[j]? = some es := by
    rw [List.getElem?_take] at h1
    split at h1
    · exact ⟨by assumption, h1⟩
    · cases h1
  obtain ⟨u, v, h4, h5, h6⟩ := Rep.fnds_mem es 8 h3
  have hm : r.2.e ∈ es := by rw [h4]; simp
  have hes := List.mem_of_getElem? hj.2
  have hg := (h.holds.good es hes).1 _ hm
  refine ⟨j, es, hj.2, hj.1, by rw [h2, Nat.zero_add], h3, hg, h6, ?_⟩
  rw [h6]
  exact enc_small hg.1 hg.2 (h.small _ (List.mem_flatten.2 ⟨es, hes, hm⟩))
theorem Pl.live (h : Pl n ds L M C) (hC : C.length ≤ 100) (hds : ds.length ≤ 100) (hc : c ≤ C.length) {kv : List (Bs × Abt)} (hk : Tab.Lists (ledger (rowsOf (fun s => L.bytes M s) (L.segs.take c))) kv) (hkl : kv.length ≤ (rowsOf (fun s => L.bytes M s) (L.segs.take c)).length) :
    LiveOk ((usesOf (fun s => L.bytes M s) (L.segs.take c)).map (upd kv)) (puts kv) L.size := by
  have hok := rows_ok h.holds.keeps.log M c
  have hrl := h.rows_len c
  rw [h.holds.rows c] at hok hk hkl hrl
  have hseg : ∀ s ∈ L.segs.take c, ∃ (j : Nat) (es : List Ent), s = (j : Int) ∧ j < c ∧ C[j]? = some es := fun s hs => by
    obtain ⟨j, hj⟩ := List.getElem?_of_mem hs
    rw [List.getElem?_take] at hj
    split at hj
    · rename_i hjc
      have hl : j < C.length := by omega
      have := h.holds.segs.2 j hl
      rw [hj] at this
      cases this
      exact ⟨j, C[j], rfl, hjc, List.getElem?_eq_getElem hl⟩
    · cases hj
  have hrow : ∀ p ∈ kv, ∃ r, r ∈ Rep.rowsC 0 (C.take c) ∧ rtag r ≠ 2 ∧ p.2.tag = rtag r ∧ p.2.place = rplc r := fun p hp => by
    have h1 := (hk.mem p.1 p.2).1 hp
    unfold ledger at h1
    obtain ⟨r, h2, h3⟩ := Option.map_eq_some_iff.1 h1
    obtain ⟨h4, h5, _⟩ := newest_some h2
    exact ⟨r, h4, h5, by rw [← h3], by rw [← h3]⟩
  refine ⟨fun u hu => ?_, fun q hq => ?_, ?_, ?_, ?_⟩
  · obtain ⟨u0, h1, rfl⟩ := List.mem_map.1 hu
    unfold usesOf at h1
    obtain ⟨s, hs, rfl⟩ := List.mem_map.1 h1
    obtain ⟨j, es, rfl, hjc, hj⟩ := hseg s hs
    have hb := h.holds.bytes hj
    have hz := h.holds.size hj
    have hlv := live_eq hok hk (j : Int)
    have hls := live_seg (l := Rep.rowsC 0 (C.take c)) (j : Int) _ (Nat.le_refl _)
    have hsm := segSum_is (C.take c) 0 j es (by rw [List.getElem?_take, if_pos hjc]; exact hj)
    rw [List.take_length] at hls
    rw [Nat.zero_add] at hsm
    have hm : mag.length = 8 := rfl
    have hsz := h.holds.keeps.log.sizes _ (List.mem_of_getElem? (h.holds.at_ j es hj))
    unfold upd
    simp only [hb, hz, List.length_append]
    rw [hlv, hsm] at hls
    simp only at hsz
    refine ⟨hls.1, ?_, trivial, ?_⟩
    · have := hls.2; omega
    · omega
  · unfold puts at hq
    obtain ⟨p, hp, rfl⟩ := List.mem_map.1 hq
    obtain ⟨r, h1, _, _, h4⟩ := hrow p (List.mem_filter.1 hp).1
    obtain ⟨_, _, _, _, _, _, _, _, h5⟩ := h.row h1
    simp only
    rw [h4]
    show 0 ≤ (r.2.size : Int) ∧ (r.2.size : Int) ≤ 341
    omega
  · have hnd : (L.segs.take c).Nodup := by
      refine List.Sublist.nodup (List.take_sublist _ _) ?_
      rw [List.nodup_iff_pairwise_ne]
      exact (segs_rise h.holds.keeps.log).imp fun {a b} hab e => by omega
    have e1 : (((usesOf (fun s => L.bytes M s) (L.segs.take c)).map (upd kv)).map (·.live)) = (L.segs.take c).map fun s => liveL s kv := by
      unfold usesOf
      rw [List.map_map, List.map_map]; rfl
    have e2 := lives_total hnd kv fun p hp => by
      obtain ⟨r, h1, _, _, h4⟩ := hrow p hp
      obtain ⟨j, es, h5, h6, h7, _⟩ := h.row h1
      rw [h4]
      show r.1 ∈ _
      rw [h7]
      have hl : j < C.length := (List.getElem?_eq_some_iff.1 h5).1
      have := h.holds.segs.2 j hl
      exact List.mem_of_getElem? (i := j) (by rw [List.getElem?_take, if_pos h6]; exact this)
    obtain ⟨m, hm⟩ := total_objs kv fun p hp => by
      obtain ⟨r, h1, h2, h3, h4⟩ := hrow p hp
      obtain ⟨_, _, _, _, _, _, h5, h6, _⟩ := h.row h1
      obtain ⟨hcz, _⟩ := Frm.encode_zero h5.1
      rcases Frm.check_cases hcz with ⟨t, _⟩ | ⟨t, _⟩ | ⟨t, _⟩
      · left; rw [h3]; exact t
      · exact absurd t h2
      · right
        rw [h4]
        show (r.2.size : Int) = 41
        rw [h6, del_size h5 t]; rfl
    exact ⟨m, by rw [e1, e2, hm, objs_puts]⟩
  · rw [List.length_map]; unfold usesOf; rw [List.length_map, List.length_take]; omega
  · unfold puts
    rw [List.length_map]
    refine Nat.le_trans (List.length_filter_le _ _) ?_
    omega
end
end Go.Seg
namespace Go.Rep
def sumTo (xs : List Int) (i : Nat) : Int := (xs.take i).sum
theorem sumTo_succ {xs : List Int} {i : Nat} {x : Int} (h : xs[i]? = some x) : sumTo xs (i + 1) = sumTo xs i + x := by
  unfold sumTo
  rw [List.take_add_one, h, Option.toList_some, List.sum_append]; simp
theorem sumTo_all (xs : List Int) : sumTo xs xs.length = xs.sum := by unfold sumTo; rw [List.take_length]
theorem sumTo_bd {xs : List Int} {B : Int} (h : ∀ x ∈ xs, 0 ≤ x ∧ x ≤ B) : ∀ i, i ≤ xs.length → 0 ≤ sumTo xs i ∧ sumTo xs i ≤ B * i
  | 0, _ => by unfold sumTo; simp
  | i + 1, hi => by
    have ih := sumTo_bd h i (by omega)
    obtain ⟨x, hx⟩ : ∃ x, xs[i]? = some x := ⟨_, List.getElem?_eq_getElem (by omega)⟩
    have hb := h x (List.mem_of_getElem? hx)
    rw [sumTo_succ hx, show (((i + 1 : Nat) : Int)) = (i : Int) + 1 by omega, Int.mul_add, Int.mul_one]
    omega
end Go.Rep
namespace Go.Proofs.YtmjldaedhmipkaaGreatDoor
open Go Go.Sl Go.Med Go.MapKept Go.RowKit
section
variable {w0 w : World} {F : List HProp} {lv : Value}
theorem kvL_34 (q : Frm.Bs × Seg.Plc) (hk : q.1.length = 32) : (kvL q)[34]? = some (.int .i64 q.2.size) := by
  unfold kvL
  rw [List.getElem?_append_right (by rw [bys_len, hk]; omega), bys_len, hk]; rfl
set_option maxRecDepth 20000 in
set_option maxHeartbeats 32000000 in
theorem replay_live_c (es : List (Frm.Ent × Value)) (z : Int) (hr : Ro w0 F (rdsl 34 lv (entsL es))) (he : ∀ p ∈ es, EntRo w0 F p) (hH : Ro w0 F Half) (h : Sat w0 w F) :
    Calls Tryz.prog 7 #[.int .i64 z, lv] w (Rtn fun v w' => v = .bool true ∧ Sat w0 w' F) := by
  have HH := Lib.hid hH
  have hfe := few15_c es 50 (by decide) hr he h
  have Hek := Lib.hid (fun p hp => (he p hp).key)
  clear hr he hH h
  go_enter Tryz.func7, Tryz.ntmps7
  go_wp2_with fail
  refine hfe.mono ?_
  rintro ee w1 ⟨v, rfl, fs, hfs, h1⟩
  clear hfe
  have hfk : ∀ q ∈ fs, q.1.key.length = 32 := few_keys (i := 50) hfs Hek.out
  obtain ⟨hfl, hfd⟩ := few_le hfs
  have Hfk := Lib.hid hfk; have Hfl := Lib.hid hfl; have Hfd := Lib.hid hfd
  have hlen : (entsL fs).length ≤ 2147483648 := by rw [entsL_len hfk]; omega
  have k6 : (entA ⟨2, Frm.zero32, []⟩ (.slice none 0 0)).size ≤ 65536 := by rw [entA_size _ _ rfl]; decide
  clear hfs hfk hfl hfd Hek
  go_wp2_with (first
    | ((with_reducible apply at_buildKind); refine ⟨?_⟩; refine wl_buildKind (by rfl) ?_)
    | ((with_reducible apply at_build1); refine ⟨?_⟩; refine wl_build1 (e := 107) (sz := 34) (by' := 64) (cs := entA ⟨2, Frm.zero32, []⟩ (.slice none 0 0)) (by kernel_rfl) h1 (by rfl) rfl (entA_size _ _ rfl) (Nat.le_of_ble_eq_true (by rfl)) ?_; intro bN wN hN)
    | ((with_reducible apply at_append); refine ⟨?_⟩; refine wl_app 107 34 64 (by kernel_rfl) hN (by rfl) (by rfl) pkD pkD ((entA_size _ _ rfl).trans (by decide)) (Nat.le_refl 1) (entA_one _ _ _ _) hlen k6 (by decide) rfl ?_; intro bA nA cA w6 hA))
  have e9 : entsL fs ++ (entA ⟨2, Frm.zero32, []⟩ (.slice none 0 0)).toList = entsL (fs ++ [comD]) := by
    rw [entsL_app]; congr 1
  rw [e9] at hA
  have h2 : Sat w0 w6 (dataS fs :: osl 107 34 (.slice (some ⟨bA, 0, none⟩) nA cA) (entsL (fs ++ [comD])) :: F) := hA.sb
  clear hA hN h1 e9 hlen k6
  have hes := dataS_ent Hfk.out h2
  have hpl := played15_c (lv := .slice (some ⟨bA, 0, none⟩) nA cA) (fs ++ [comD]) z (by rw [List.length_append]; have := Hfl.out; simp only [List.length_cons, List.length_nil]; omega) (Ro.of_pick (fun w hw => Sat.rd hw) pick1)
    (fun q hq => by
      rcases List.mem_append.1 hq with hq | hq
      · exact hes q hq
      · rw [List.mem_singleton.1 hq]; exact comD_ro)
    (fun q hq => by
      rcases List.mem_append.1 hq with hq | hq
      · exact Nat.le_trans (Hfd.out q hq) (by decide)
      · rw [List.mem_singleton.1 hq]; decide) (Ro.os HH.out) h2
  have Hds := Lib.hid (show ∀ d ∈ (fs ++ [comD]).map (·.1), d.key.length = 32 ∧ d.data.length ≤ 300 from fun d hd => by
    obtain ⟨q, hq, rfl⟩ := List.mem_map.1 hd
    rcases List.mem_append.1 hq with hq | hq
    · exact ⟨Hfk.out q hq, Nat.le_trans (Hfd.out q hq) (by decide)⟩
    · rw [List.mem_singleton.1 hq]; exact ⟨rfl, by decide⟩)
  have Hdl := Lib.hid (show ((fs ++ [comD]).map (·.1)).length ≤ 51 by rw [List.length_map, List.length_append]; have := Hfl.out; simp only [List.length_cons, List.length_nil]; omega)
  clear hes h2
  generalize (fs ++ [comD]).map (·.1) = ds at *
  generalize within z 128 3000 = lim at *
  go_wp2_with fail
  refine hpl.mono ?_
  rintro ee w2 ⟨v, rfl, p, m, rfl, ⟨hl1, hl2⟩, h3⟩
  clear hpl
  obtain ⟨C, hP, _⟩ := Seg.Pl.playL ds _ _ _ (Seg.Pl.start lim hl1 (by omega)) Hds.out (by have := Hdl.out; omega)
  rw [Nat.zero_add, List.nil_append] at hP
  have h4 : Sat w0 w2 (LogRep p m (Seg.Log.playL ds ⟨lim, [], false, 0⟩ (Med.new 1048576)).1 :: MedRep m (Seg.Log.playL ds ⟨lim, [], false, 0⟩ (Med.new 1048576)).2 :: F) := h3.sb
  clear h3 hl1 hl2
  generalize Seg.Log.playL ds ⟨lim, [], false, 0⟩ (Med.new 1048576) = r at *
  obtain ⟨L, M⟩ := r
  dsimp only at h4 hP
  obtain ⟨c, hrun, hc, _, _⟩ := hP.holds.run
  have HP := Lib.hid hP
  have Hrun := Lib.hid hrun; have Hc := Lib.hid hc
  have HL := Lib.hid hP.holds.keeps.log; have HM := Lib.hid hP.holds.keeps.calm.ok
  have hrl : (Rep.rowsOf (lbt L M) L.segs).length ≤ ds.length := by
    have := hP.rows_len L.segs.length
    rw [List.take_length] at this
    exact this
  have hrz : ∀ r ∈ Rep.rowsOf (lbt L M) L.segs, (r.2.size : Int) ≤ 4294967296 := fun r hr => by
    have e := hP.holds.rows L.segs.length
    rw [List.take_length, hP.holds.segs.1, List.take_length] at e
    have := hP.rows_size (r := r) (by rw [← e]; exact hr)
    omega
  have hrn := run_c HL.out HM.out (Ro.os HH.out) (Nat.le_trans hrl (Nat.le_trans Hdl.out (by decide))) hrz h4
  clear h4 hrl hrz hrun hc hP
  go_wp2_with fail
  refine hrn.mono ?_
  rintro ee w3 ⟨v, rfl, ho⟩
  clear hrn
  unfold RunOut at ho
  rw [show Rep.run (lbt L M) L.segs = .inr c from Hrun.out] at ho
  obtain ⟨ps, pi, uv, tv, av, kv, rfl, ⟨k1, k2, k3⟩, _, h5⟩ := ho
  have hCl := HP.out.holds.count
  have HV := Lib.hid (HP.out.live (by have := Hdl.out; omega) (by have := Hdl.out; omega) Hc.out k1 k3)
  have hlists := Tab.mapOf_lists (Rep.puts_rise k1.rise)
  have Hlists := Lib.hid hlists
  have Hkl := Lib.hid (show kv.length ≤ 51 from Nat.le_trans k3 (Nat.le_trans (HP.out.rows_len c) Hdl.out))
  change Hid (Rep.LiveOk ((Rep.usesOf (lbt L M) (L.segs.take c)).map (Rep.upd kv)) (Rep.puts kv) L.size) at HV
  clear k1 k2 k3 hCl hlists Hrun Hc Hds HP
  generalize (Rep.usesOf (lbt L M) (L.segs.take c)).map (Rep.upd kv) = us at *
  generalize Rep.lastOfL (L.segs.take c) = last at *
  generalize kv.length = B at *
  generalize Rep.puts kv = qs at *
  have h6 : Sat w0 w3 (stPt ps last pi uv tv :: TabML pi (Tab.mapOf qs) B :: osl 115 3 uv (us.flatMap uenc) :: LogRep p m L :: MedRep m M :: F) := h5.sb
  clear h5
  obtain ⟨u1, un, uc, rfl, hul, _⟩ := id (Sat.rd (h6.pick pick2))
  obtain rfl : un = us.length := by
    rw [rows_len (f := uenc) (k := 3) (fun u _ => rfl)] at hul; omega
  clear hul
  have Hsl := Lib.hid (show ∀ x ∈ us.map (·.live), 0 ≤ x ∧ x ≤ 33554432 from fun x hx => by
    obtain ⟨u, hu, rfl⟩ := List.mem_map.1 hx
    have := HV.out.each u hu; omega)
  have Hbd := Lib.hid (fun i hi => Rep.sumTo_bd Hsl.out i hi)
  have Hul := Lib.hid HV.out.ulen
  go_wp2_with (with_reducible apply at_alloc)
  refine ⟨?_⟩
  refine wl_alloc zFlt h6 rfl ?_
  intro b7 w7 h7
  clear h6
  go_wp2_with ((with_reducible apply at_store); refine ⟨?_⟩; refine wl_storeA (fltA Rep.Flt.zero) h7 (by rfl) (by rfl) (by rfl) upd0 (by kernel_rfl) (by rfl) ?_; intro w8 h8)
  have h9 : Sat w0 w8 (stPt ps last pi (.slice u1 us.length uc) tv :: TabML pi (Tab.mapOf qs) B :: osl 115 3 (.slice u1 us.length uc) (us.flatMap uenc) :: LogRep p m L :: MedRep m M :: F) := h8.sb
  clear h7 h8
  go_loopg [11, 9] us.length (fun g iq sv wr => ∃ (i : Nat), g = us.length - i ∧ i ≤ us.length ∧ iq = .int .i64 i ∧ sv = .int .i64 (Rep.sumTo (us.map (·.live)) i) ∧
    Sat w0 wr (stPt ps last pi (.slice u1 us.length uc) tv :: TabML pi (Tab.mapOf qs) B :: osl 115 3 (.slice u1 us.length uc) (us.flatMap uenc) :: LogRep p m L :: MedRep m M :: F))
  case atStart => exact ⟨0, rfl, Nat.zero_le _, rfl, rfl, h9⟩
  case round =>
    obtain ⟨i, rfl, hi, rfl, rfl, hS⟩ := hrel
    clear h9
    have hb1 := Hbd.out i (by rw [List.length_map]; exact hi)
    by_cases hlt : i < us.length
    · have c1 : (i : Int) < (us.length : Int) := by omega
      have hwi : IntKind.i64.wrap ((i : Int) + 1) = (i : Int) + 1 := IntWalk.i64_in _ (by have := Hul.out; omega)
      obtain ⟨u, hu⟩ : ∃ u, us[i]? = some u := ⟨_, List.getElem?_eq_getElem hlt⟩
      obtain ⟨hv1, hv2, hv3, hv4⟩ := HV.out.each u (List.mem_of_getElem? hu)
      have hsu := Rep.sumTo_succ (xs := us.map (·.live)) (i := i) (x := u.live) (by rw [List.getElem?_map, hu]; rfl)
      have hw2 : IntKind.i64.wrap (Rep.sumTo (us.map (·.live)) i + u.live) = Rep.sumTo (us.map (·.live)) (i + 1) := by
        rw [hsu]
        exact IntWalk.i64_in _ (by have := Hul.out; omega)
      have hw3 : IntKind.i64.wrap (u.size - 8) = u.size - 8 := IntWalk.i64_in _ (by omega)
      have d1 : decide (u.live < 0) = false := decide_eq_false (by omega)
      have d2 : decide (u.live > u.size - 8) = false := decide_eq_false (by omega)
      have d2b : decide (u.size - 8 < u.live) = false := decide_eq_false (by omega)
      have d3 : (u.size == u.size) = true := beq_self_eq_true _
      have Hlt := Lib.hid hlt; have Hv3 := Lib.hid hv3
      obtain ⟨bk, off, cc, ev, hc⟩ := osl_row (f := uenc) (k := 3) (fun u _ => rfl) (Sat.rd (hS.pick pick2)) hu (by decide)
      cases ev
      have HC := Lib.hid hc
      clear hlt hu hv1 hv2 hv3 hv4 hsu hb1 hc hi
      generalize Rep.sumTo (us.map (·.live)) i = s0 at *
      generalize hg1 : Rep.sumTo (us.map (·.live)) (i + 1) = s1 at *
      have Hg1 := Lib.hid hg1
      clear hg1
      obtain ⟨useg, usize, ulive⟩ := u
      dsimp only at hw2 hw3 d1 d2 d2b d3 Hv3
      go_wp2_with (first
        | ((with_reducible apply at_load); refine ⟨?_⟩; refine wl_loadW (b := bk) (o := off + i * 3) [.int .i64 useg, .int .i64 usize, .int .i64 ulive] (by rfl) HC.out Tryz.underlying115 rfl (by kernel_rfl) ?_)
        | ((with_reducible apply at_alloc); refine ⟨?_⟩; refine wl_alloc zUse hS rfl ?_; intro bU wU hU)
        | ((with_reducible apply at_store); refine ⟨?_⟩; refine wl_storeA #[.int .i64 useg, .int .i64 usize, .int .i64 ulive] hU (by rfl) (by rfl) (by rfl) upd0 (by kernel_rfl) (by rfl) ?_; intro wV hV)
        | ((with_reducible apply at_load); refine ⟨?_⟩; refine wl_load1 hS (by rfl) pkD (Nat.le_of_ble_eq_true (by rfl)) evD (by kernel_rfl) ?_))
      have h10 : Sat w0 _ (pt bU (.cells #[.int .i64 useg, .int .i64 usize, .int .i64 ulive] 115 (0,0)) :: LogRep p m L :: stPt ps last pi (.slice (some ⟨bk, off, none⟩) us.length uc) tv :: TabML pi (Tab.mapOf qs) B :: osl 115 3 (.slice (some ⟨bk, off, none⟩) us.length uc) (us.flatMap uenc) :: MedRep m M :: F) := hV.sb
      clear hS hU hV HC
      have h11 := h10.drew
      clear h10
      refine wpL_begin [18, 19] (fun w' => w'.cell? ⟨bU, 0, none⟩ = some (.int .i64 useg) ∧ w'.cell? ⟨bU, 1, none⟩ = some (.int .i64 usize) ∧ w'.cell? ⟨bU, 2, none⟩ = some (.int .i64 ulive)) (by kernel_rfl) ?_
      have HG := Lib.hid (fun (w' : World) (R' : List HProp) (hw : Sat w0 w' (pt bU (.cells #[.int .i64 useg, .int .i64 usize, .int .i64 ulive] 115 (0,0)) :: R')) => show w'.cell? ⟨bU, 0, none⟩ = some (.int .i64 useg) ∧ w'.cell? ⟨bU, 1, none⟩ = some (.int .i64 usize) ∧ w'.cell? ⟨bU, 2, none⟩ = some (.int .i64 ulive) from
        ⟨hw.cellP pick0 0 rfl, hw.cellP pick0 1 rfl, hw.cellP pick0 2 rfl⟩)
      have hG := HG.out _ _ h11
      refine rp 0 (hy := (yl_field evD rnD)) (h := ?_)
      refine rt 1 (h := ?_)
      refine rp 2 (hy := (yl_bin evD evD rnD)) (h := ?_)
      refine rp 3 (hy := (yl_move evD)) (h := ?_)
      refine rp 4 (hy := (yg_field (by rfl) evD rnD)) (h := ?_)
      refine rg_take 5 evD (by kernel_rfl) (by intro _ _ _ h; exact h) (tg_load (by rfl) evD (by kernel_rfl) (by intro wq hq; first | exact hq | exact hq.1 | exact hq.2 | exact hq.2.1 | exact hq.2.2 | exact hq.2.2.1 | exact hq.2.2.2 | exact hq.2.2.2.1 | exact hq.2.2.2.2)) (by assumption) (by go_frame; first | done | rfl) ?_
      refine rp 6 (hy := (yg_field (by rfl) evD rnD)) (h := ?_)
      refine rg_take 7 evD (by kernel_rfl) (by intro _ _ _ h; exact h) (tg_load (by rfl) evD (by kernel_rfl) (by intro wq hq; first | exact hq | exact hq.1 | exact hq.2 | exact hq.2.1 | exact hq.2.2 | exact hq.2.2.1 | exact hq.2.2.2 | exact hq.2.2.2.1 | exact hq.2.2.2.2)) (by assumption) (by go_frame; first | done | rfl) ?_
      refine rp 8 (hy := (yg_bin (by rfl) evD evD rnD)) (h := ?_)
      refine rp 9 (hy := (yg_bin (by rfl) evD evD rnD)) (h := ?_)
      refine rp 10 (hy := (by first | ((with_reducible apply gd_move); refine ⟨?_⟩; exact yl_move evD) | ((with_reducible apply gd_assign); refine ⟨?_⟩; exact yl_assign evD) | ((with_reducible apply gd_nil); refine ⟨?_⟩; exact yl_nil evD) | ((with_reducible apply gd_field); refine ⟨?_⟩; exact yl_field evD rnD) | ((with_reducible apply gd_len); refine ⟨?_⟩; exact yl_len evD rnD) | ((with_reducible apply gd_bin); refine ⟨?_⟩; exact yl_bin evD evD rnD) | ((with_reducible apply gd_index); refine ⟨?_⟩; exact yl_index evD evD rnD) | ((with_reducible apply gd_extract); refine ⟨?_⟩; exact yl_extract evD rnD) | ((with_reducible apply gd_un); refine ⟨?_⟩; exact yl_un evD rnD) | ((with_reducible apply gd_conv); refine ⟨?_⟩; exact yl_conv evD rnD) | (refine Or.inl ⟨by rfl, ?_⟩; ((intro wq; go_simp); first | done | (with_reducible rfl))))) (h := ?_)
      refine rp 11 (hy := (yl_move evD)) (h := ?_)
      refine rp 12 (hy := (yg_field (by rfl) evD rnD)) (h := ?_)
      refine rg_take 13 evD (by kernel_rfl) (by intro _ _ _ h; exact h) (tg_load (by rfl) evD (by kernel_rfl) (by intro wq hq; first | exact hq | exact hq.1 | exact hq.2 | exact hq.2.1 | exact hq.2.2 | exact hq.2.2.1 | exact hq.2.2.2 | exact hq.2.2.2.1 | exact hq.2.2.2.2)) (by assumption) (by go_frame; first | done | rfl) ?_
      refine rp 14 (hy := (yg_move (by rfl) evD)) (h := ?_)
      refine rp 15 (hy := (yg_field (by rfl) evD rnD)) (h := ?_)
      refine rg_take 16 evD (by kernel_rfl) (by intro _ _ _ h; exact h) (tg_load (by rfl) evD (by kernel_rfl) (by intro wq hq; first | exact hq | exact hq.1 | exact hq.2 | exact hq.2.1 | exact hq.2.2 | exact hq.2.2.1 | exact hq.2.2.2 | exact hq.2.2.2.1 | exact hq.2.2.2.2)) (by assumption) (by go_frame; first | done | rfl) ?_
      clear hG
      refine rg_eff 17 evD (by kernel_rfl) (fun K hK => ?_)
      refine eg_call [ptr p, .int .i64 useg] (by rfl) (by kernel_rfl) (by rfl) ?_
      refine (lsize_c HL.out useg (h11.sb : Sat w0 _ (LogRep p m L :: pt bU (.cells #[.int .i64 useg, .int .i64 usize, .int .i64 ulive] 115 (0,0)) :: stPt ps last pi (.slice (some ⟨bk, off, none⟩) us.length uc) tv :: TabML pi (Tab.mapOf qs) B :: osl 115 3 (.slice (some ⟨bk, off, none⟩) us.length uc) (us.flatMap uenc) :: MedRep m M :: F))).mono ?_
      rintro ee w9 ⟨v, rfl, rfl, h12⟩
      rw [Hv3.out]
      have h13 : Sat w0 w9 (pt bU (.cells #[.int .i64 useg, .int .i64 usize, .int .i64 ulive] 115 (0,0)) :: LogRep p m L :: stPt ps last pi (.slice (some ⟨bk, off, none⟩) us.length uc) tv :: TabML pi (Tab.mapOf qs) B :: osl 115 3 (.slice (some ⟨bk, off, none⟩) us.length uc) (us.flatMap uenc) :: MedRep m M :: F) := h12.sb
      refine hK _ _ (.inr (.inl (HG.out _ _ h13))) ?_
      clear hK h11 h12 HG
      refine rp 18 (hy := (yg_bin (by rfl) evD evD rnD)) (h := ?_)
      refine rp 19 (hy := (by first | ((with_reducible apply gd_move); refine ⟨?_⟩; exact yl_move evD) | ((with_reducible apply gd_assign); refine ⟨?_⟩; exact yl_assign evD) | ((with_reducible apply gd_nil); refine ⟨?_⟩; exact yl_nil evD) | ((with_reducible apply gd_field); refine ⟨?_⟩; exact yl_field evD rnD) | ((with_reducible apply gd_len); refine ⟨?_⟩; exact yl_len evD rnD) | ((with_reducible apply gd_bin); refine ⟨?_⟩; exact yl_bin evD evD rnD) | ((with_reducible apply gd_index); refine ⟨?_⟩; exact yl_index evD evD rnD) | ((with_reducible apply gd_extract); refine ⟨?_⟩; exact yl_extract evD rnD) | ((with_reducible apply gd_un); refine ⟨?_⟩; exact yl_un evD rnD) | ((with_reducible apply gd_conv); refine ⟨?_⟩; exact yl_conv evD rnD) | (refine Or.inl ⟨by rfl, ?_⟩; ((intro wq; go_simp); first | done | (with_reducible rfl))))) (h := ?_)
      refine wpL_done (by kernel_rfl) ?_
      go_wp2_with ((with_reducible apply at_load); refine ⟨?_⟩; refine wl_load1 h13 (by rfl) pkD (Nat.le_of_ble_eq_true (by rfl)) evD (by kernel_rfl) ?_)
      go_roundg (us.length - (i + 1))
      case measure => have := Hlt.out; omega
      case rel => exact ⟨i + 1, rfl, Nat.succ_le_of_lt Hlt.out, by first | rfl | go_num, by rw [Hg1.out], h13.sb⟩
    · have hie : i = us.length := by omega
      subst hie
      have c1 : ¬ (us.length : Int) < (us.length : Int) := by omega
      have hsum : Rep.sumTo (us.map (·.live)) us.length = (us.map (·.live)).sum := by
        have := Rep.sumTo_all (us.map (·.live))
        rw [List.length_map] at this; exact this
      rw [hsum]
      clear hsum hb1 hlt hi
      go_wp2_with ((with_reducible apply at_load); refine ⟨?_⟩; refine wl_load1 hS (by rfl) pkD (Nat.le_of_ble_eq_true (by rfl)) evD (by kernel_rfl) ?_)
      have h20 : Sat w0 _ (TabML pi (Tab.mapOf qs) B :: stPt ps last pi (.slice u1 us.length uc) tv :: osl 115 3 (.slice u1 us.length uc) (us.flatMap uenc) :: LogRep p m L :: MedRep m M :: F) := hS.sb
      clear hS
      refine (rows_c (Nat.le_trans Hkl.out (by decide)) h20).mono ?_
      rintro ee w10 ⟨v, rfl, kv2, ⟨q1, q2, q3⟩, h21⟩
      obtain rfl := q1.unique Hlists.out
      have HR0 := Hlists.out.rise
      clear h20 q1 q3 Hlists
      generalize hgm : Tab.mapOf kv2 = mq at *
      clear hgm
      obtain ⟨mm, hmm⟩ := HV.out.sum
      have Hq2 := Lib.hid q2
      clear q2
      obtain ⟨r1, rn, rc, rfl, hrl, _⟩ := id (Sat.rd h21)
      obtain rfl : rn = kv2.length := by
        rw [rows_len (f := kvL) (k := 35) (fun q hq => kvL_len q (Hq2.out q hq))] at hrl; omega
      clear hrl
      have Hol := Lib.hid (show ∀ x ∈ kv2.map (·.2.size), 0 ≤ x ∧ x ≤ 341 from fun x hx => by
        obtain ⟨q, hq, rfl⟩ := List.mem_map.1 hx
        exact HV.out.objs q hq)
      have Hob := Lib.hid (fun i hi => Rep.sumTo_bd Hol.out i hi)
      have Hpl := Lib.hid HV.out.plen
      have hlb := Hbd.out us.length (by rw [List.length_map]; exact Nat.le_refl _)
      rw [show Rep.sumTo (us.map (·.live)) us.length = (us.map (·.live)).sum by
        have := Rep.sumTo_all (us.map (·.live))
        rw [List.length_map] at this; exact this] at hlb
      have Hlb := Lib.hid (show 0 ≤ (us.map (·.live)).sum ∧ (us.map (·.live)).sum ≤ 3355443200 by have := Hul.out; omega)
      have Hmm := Lib.hid hmm
      have Hrise := Lib.hid (show kv2.Pairwise fun a b => a.1 < b.1 from HR0)
      clear hlb hmm HV Hbd Hsl
      generalize (us.map (·.live)).sum = sl at *
      go_wp2_with fail
      go_loopg [14, 10] kv2.length (fun g iq sv wr => ∃ (i : Nat), g = kv2.length - i ∧ i ≤ kv2.length ∧ iq = .int .i64 i ∧ sv = .int .i64 (Rep.sumTo (kv2.map (·.2.size)) i) ∧
        Sat w0 wr (osl 117 35 (.slice r1 kv2.length rc) (kv2.flatMap kvL) :: TabML pi mq B :: stPt ps last pi (.slice u1 us.length uc) tv :: osl 115 3 (.slice u1 us.length uc) (us.flatMap uenc) :: LogRep p m L :: MedRep m M :: F))
      case atStart => exact ⟨0, rfl, Nat.zero_le _, rfl, rfl, h21⟩
      case round =>
        obtain ⟨i, rfl, hi, rfl, rfl, hS⟩ := hrel
        clear h21
        have hb1 := Hob.out i (by rw [List.length_map]; exact hi)
        by_cases hlt : i < kv2.length
        · have c1 : (i : Int) < (kv2.length : Int) := by omega
          have hwi : IntKind.i64.wrap ((i : Int) + 1) = (i : Int) + 1 := IntWalk.i64_in _ (by have := Hpl.out; omega)
          obtain ⟨u, hu⟩ : ∃ u, kv2[i]? = some u := ⟨_, List.getElem?_eq_getElem hlt⟩
          have hub := Hol.out u.2.size (List.mem_map.2 ⟨u, List.mem_of_getElem? hu, rfl⟩)
          have hsu := Rep.sumTo_succ (xs := kv2.map (·.2.size)) (i := i) (x := u.2.size) (by rw [List.getElem?_map, hu]; rfl)
          have hw2 : IntKind.i64.wrap (Rep.sumTo (kv2.map (·.2.size)) i + u.2.size) = Rep.sumTo (kv2.map (·.2.size)) (i + 1) := by
            rw [hsu]
            exact IntWalk.i64_in _ (by have := Hpl.out; omega)
          have Hlt := Lib.hid hlt
          have hk := Hq2.out u (List.mem_of_getElem? hu)
          obtain ⟨bk, off, cc, ev, hc⟩ := osl_row (f := kvL) (k := 35) (v := .slice r1 kv2.length rc) (l := kv2) (w := wr) (i := i) (x := u) (fun q hq => kvL_len q (Hq2.out q hq)) (Sat.rd hS) hu (by decide)
          cases ev
          have e0 : wr.cell? ⟨bk, off + i * 35 + 34, none⟩ = some (.int .i64 u.2.size) := hc 34 _ (kvL_34 u hk)
          have HC := Lib.hid hc
          have Hk := Lib.hid hk
          clear hlt hub hsu hb1 hc hi hk
          generalize Rep.sumTo (kv2.map (·.2.size)) i = s0 at *
          generalize hg1 : Rep.sumTo (kv2.map (·.2.size)) (i + 1) = s1 at *
          have Hg1 := Lib.hid hg1
          clear hg1
          generalize hsz : u.2.size = usz at *
          clear hsz
          go_wp2_with fail
          have hSd := hS.drew
          clear e0 hS
          by_cases h0 : i = 0
          · have d0 : decide ((i : Int) > 0) = false := decide_eq_false (by omega)
            have d0b : decide (0 < (i : Int)) = false := decide_eq_false (by omega)
            have d0c : decide (0 < i) = false := decide_eq_false (by omega)
            refine wpL_begin [14, 15, 16] (fun w' => True) (by kernel_rfl) ?_
            have hG := trivial
            refine rp 0 (hy := (yl_move evD)) (h := ?_)
            refine rp 1 (hy := (yl_bin evD evD rnD)) (h := ?_)
            refine rp 2 (hy := (yl_move evD)) (h := ?_)
            refine rg_skip 3 evD (by kernel_rfl) (by intro _ _ _ h; exact h) (by rfl) (by go_frame; first | done | rfl) ?_
            refine rg_skip 4 evD (by kernel_rfl) (by intro _ _ _ h; exact h) (by rfl) (by go_frame; first | done | rfl) ?_
            refine rg_skip 5 evD (by kernel_rfl) (by intro _ _ _ h; exact h) (by rfl) (by go_frame; first | done | rfl) ?_
            refine rg_skip 6 evD (by kernel_rfl) (by intro _ _ _ h; exact h) (by rfl) (by go_frame; first | done | rfl) ?_
            refine rg_skip 7 evD (by kernel_rfl) (by intro _ _ _ h; exact h) (by rfl) (by go_frame; first | done | rfl) ?_
            refine rg_skip 8 evD (by kernel_rfl) (by intro _ _ _ h; exact h) (by rfl) (by go_frame; first | done | rfl) ?_
            refine rg_skip 9 evD (by kernel_rfl) (by intro _ _ _ h; exact h) (by rfl) (by go_frame; first | done | rfl) ?_
            refine rg_skip 10 evD (by kernel_rfl) (by intro _ _ _ h; exact h) (by rfl) (by go_frame; first | done | rfl) ?_
            refine rg_skip 11 evD (by kernel_rfl) (by intro _ _ _ h; exact h) (by rfl) (by go_frame; first | done | rfl) ?_
            refine rg_skip 12 evD (by kernel_rfl) (by intro _ _ _ h; exact h) (by rfl) (by go_frame; first | done | rfl) ?_
            refine rg_skip 13 evD (by kernel_rfl) (by intro _ _ _ h; exact h) (by rfl) (by go_frame; first | done | rfl) ?_
            refine rg_skip 14 evD (by kernel_rfl) (by intro _ _ _ h; exact h) (by rfl) (by go_frame; first | done | rfl) ?_
            refine rg_skip 15 evD (by kernel_rfl) (by intro _ _ _ h; exact h) (by rfl) (by go_frame; first | done | rfl) ?_
            refine rp 16 (hy := (by first | ((with_reducible apply gd_move); refine ⟨?_⟩; exact yl_move evD) | ((with_reducible apply gd_assign); refine ⟨?_⟩; exact yl_assign evD) | ((with_reducible apply gd_nil); refine ⟨?_⟩; exact yl_nil evD) | ((with_reducible apply gd_field); refine ⟨?_⟩; exact yl_field evD rnD) | ((with_reducible apply gd_len); refine ⟨?_⟩; exact yl_len evD rnD) | ((with_reducible apply gd_bin); refine ⟨?_⟩; exact yl_bin evD evD rnD) | ((with_reducible apply gd_index); refine ⟨?_⟩; exact yl_index evD evD rnD) | ((with_reducible apply gd_extract); refine ⟨?_⟩; exact yl_extract evD rnD) | ((with_reducible apply gd_un); refine ⟨?_⟩; exact yl_un evD rnD) | ((with_reducible apply gd_conv); refine ⟨?_⟩; exact yl_conv evD rnD) | (refine Or.inl ⟨by rfl, ?_⟩; ((intro wq; go_simp); first | done | (with_reducible rfl))))) (h := ?_)
            refine wpL_done (by kernel_rfl) ?_
            go_wp2_with fail
            go_roundg (kv2.length - (i + 1))
            case measure => have := Hlt.out; omega
            case rel => exact ⟨i + 1, rfl, Nat.succ_le_of_lt Hlt.out, by first | rfl | go_num, by rw [Hg1.out], hSd⟩
          · obtain ⟨k, hk1⟩ : ∃ k, i = k + 1 := ⟨i - 1, by omega⟩
            have d0 : decide ((i : Int) > 0) = true := decide_eq_true (by omega)
            have d0b : decide (0 < (i : Int)) = true := decide_eq_true (by omega)
            have d0c : decide (0 < i) = true := decide_eq_true (by omega)
            have hw4 : IntKind.i64.wrap ((i : Int) - 1) = (k : Int) := by
              rw [IntWalk.i64_in _ (by have := Hlt.out; have := Hpl.out; omega)]; omega
            have c4 : (k : Int) < (kv2.length : Int) := by have := Hlt.out; omega
            obtain ⟨u0, hu0⟩ : ∃ u, kv2[k]? = some u := ⟨_, List.getElem?_eq_getElem (by have := Hlt.out; omega)⟩
            have hk0 := Hq2.out u0 (List.mem_of_getElem? hu0)
            have hless : decide (u0.1 < u.1) = true := decide_eq_true (by
              obtain ⟨a1, a2⟩ := List.getElem?_eq_some_iff.1 hu0
              obtain ⟨a3, a4⟩ := List.getElem?_eq_some_iff.1 hu
              have := List.pairwise_iff_getElem.1 Hrise.out k i a1 a3 (by omega)
              rw [a2, a4] at this; exact this)
            have HG := Lib.hid (fun (w' : World) (R' : List HProp) (hw : Sat w0 w' (osl 117 35 (.slice (some ⟨bk, off, none⟩) kv2.length rc) (kv2.flatMap kvL) :: R')) => show w'.rangeAt bk (off + k * 35) (bys u0.1) ∧ w'.rangeAt bk (off + i * 35) (bys u.1) by
              obtain ⟨b1, o1, x1, y1, z1⟩ := osl_row (f := kvL) (k := 35) (l := kv2) (i := k) (x := u0) (fun q hq => kvL_len q (Hq2.out q hq)) (Sat.rd hw) hu0 (by decide)
              obtain ⟨b2, o2, x2, y2, z2⟩ := osl_row (f := kvL) (k := 35) (l := kv2) (i := i) (x := u) (fun q hq => kvL_len q (Hq2.out q hq)) (Sat.rd hw) hu (by decide)
              cases y1; cases y2
              refine ⟨fun j v hj => z1 j v ?_, fun j v hj => z2 j v ?_⟩
              · unfold kvL
                rw [List.getElem?_append_left (List.getElem?_eq_some_iff.1 hj).1]; exact hj
              · unfold kvL
                rw [List.getElem?_append_left (List.getElem?_eq_some_iff.1 hj).1]; exact hj)
            have Hk0 := Lib.hid hk0
            have Hks0 := Lib.hid (show (bys u0.1).length = 32 by rw [bys_len]; exact hk0)
            have Hks := Lib.hid (show (bys u.1).length = 32 by rw [bys_len]; exact Hk.out)
            clear hu hu0 hk0 h0 hk1
            generalize u0.1 = key0 at *
            generalize u.1 = key1 at *
            refine wpL_begin [15, 16] (fun w' => w'.rangeAt bk (off + k * 35) (bys key0) ∧ w'.rangeAt bk (off + i * 35) (bys key1)) (by kernel_rfl) ?_
            have hG := HG.out _ _ hSd
            refine rp 0 (hy := (yl_move evD)) (h := ?_)
            refine rp 1 (hy := (yl_bin evD evD rnD)) (h := ?_)
            refine rp 2 (hy := (yl_move evD)) (h := ?_)
            refine rp 3 (hy := (yg_move (by rfl) evD)) (h := ?_)
            refine rp 4 (hy := (yg_move (by rfl) evD)) (h := ?_)
            refine rp 5 (hy := (yg_bin (by rfl) evD evD rnD)) (h := ?_)
            refine rp 6 (hy := (yg_index (by rfl) evD evD rnD)) (h := ?_)
            refine rp 7 (hy := (yg_field (by rfl) evD rnD)) (h := ?_)
            refine rg_take 8 evD (by kernel_rfl) (by intro _ _ _ h; exact h) (tg_loadN (b := bk) (o := off + k * 35) (bys key0) (by rfl) (by rfl) Tryz.underlying41 rfl (by rw [Hks0.out]; kernel_rfl) (fun w hw => hw.1)) (by assumption) (by go_frame; first | done | rfl) ?_
            refine rp 9 (hy := (yg_move (by rfl) evD)) (h := ?_)
            refine rp 10 (hy := (yg_move (by rfl) evD)) (h := ?_)
            refine rp 11 (hy := (yg_index (by rfl) evD evD rnD)) (h := ?_)
            refine rp 12 (hy := (yg_field (by rfl) evD rnD)) (h := ?_)
            refine rg_take 13 evD (by kernel_rfl) (by intro _ _ _ h; exact h) (tg_loadN (b := bk) (o := off + i * 35) (bys key1) (by rfl) (by rfl) Tryz.underlying41 rfl (by rw [Hks.out]; kernel_rfl) (fun w hw => hw.2)) (by assumption) (by go_frame; first | done | rfl) ?_
            clear hG
            refine rg_eff 14 evD (by kernel_rfl) (fun K hK => ?_)
            refine eg_call [.agg (bys key0).toArray, .agg (bys key1).toArray] (by rfl) (by kernel_rfl) (by rfl) ?_
            refine (rless_c key0 key1 Hk0.out Hk.out hSd).mono ?_
            rintro ee w12 ⟨v, rfl, rfl, hSe⟩
            rw [hless]
            refine hK _ _ (.inr (.inl (HG.out _ _ hSe))) ?_
            clear hK hSd HG
            refine rp 15 (hy := (yg_un (by rfl) evD rnD)) (h := ?_)
            refine rp 16 (hy := (by first | ((with_reducible apply gd_move); refine ⟨?_⟩; exact yl_move evD) | ((with_reducible apply gd_assign); refine ⟨?_⟩; exact yl_assign evD) | ((with_reducible apply gd_nil); refine ⟨?_⟩; exact yl_nil evD) | ((with_reducible apply gd_field); refine ⟨?_⟩; exact yl_field evD rnD) | ((with_reducible apply gd_len); refine ⟨?_⟩; exact yl_len evD rnD) | ((with_reducible apply gd_bin); refine ⟨?_⟩; exact yl_bin evD evD rnD) | ((with_reducible apply gd_index); refine ⟨?_⟩; exact yl_index evD evD rnD) | ((with_reducible apply gd_extract); refine ⟨?_⟩; exact yl_extract evD rnD) | ((with_reducible apply gd_un); refine ⟨?_⟩; exact yl_un evD rnD) | ((with_reducible apply gd_conv); refine ⟨?_⟩; exact yl_conv evD rnD) | (refine Or.inl ⟨by rfl, ?_⟩; ((intro wq; go_simp); first | done | (with_reducible rfl))))) (h := ?_)
            refine wpL_done (by kernel_rfl) ?_
            go_wp2_with fail
            go_roundg (kv2.length - (i + 1))
            case measure => have := Hlt.out; omega
            case rel => exact ⟨i + 1, rfl, Nat.succ_le_of_lt Hlt.out, by first | rfl | go_num, by rw [Hg1.out], hSe⟩
        · have hie : i = kv2.length := by omega
          subst hie
          have c1 : ¬ (kv2.length : Int) < (kv2.length : Int) := by omega
          have hsum : Rep.sumTo (kv2.map (·.2.size)) kv2.length = (kv2.map (·.2.size)).sum := by
            have := Rep.sumTo_all (kv2.map (·.2.size))
            rw [List.length_map] at this; exact this
          rw [hsum] at hb1 ⊢
          have := Hmm.out
          have := Hpl.out
          have := Hlb.out
          generalize (kv2.map (·.2.size)).sum = so at *
          have d1 : decide (sl ≥ so) = true := decide_eq_true (by omega)
          have d1b : decide (so ≤ sl) = true := decide_eq_true (by omega)
          have hw4 : IntKind.i64.wrap (sl - so) = sl - so := IntWalk.i64_in _ (by omega)
          have hmo : (sl - so).tmod 41 = 0 := by
            rw [show sl - so = 41 * (mm : Int) by omega]
            exact Int.mul_tmod_right _ _
          clear hsum hb1 hlt hi this
          go_wp2_with fail
          refine (lives15_c (Ro.os HH.out) hS).mono ?_
          rintro ee w17 ⟨v, rfl, rfl, h17⟩
          clear hS
          go_wp2_with fail
          go_ret
          exact ⟨_, rfl, rfl, h17.sb⟩
end
end Go.Proofs.YtmjldaedhmipkaaGreatDoor
namespace Go.Proofs.YtmjldaedhmipkaaGreatDoor
open Go Go.Sl Go.Med Go.ChangeShapes Go.WideShapes Go.RowKit
section
variable {H : Type} {enc : TypeId × Value → H} {W : World} {base : Nat} {spare : Nat → Bool} {held : Bool}
set_option maxRecDepth 100000 in
theorem open_do15 {fuel : Nat} {cs : List Value} {x : DataW H × List MemPlace} (h : DataW.trod enc Tryz.prog W base spare held fuel 107 cs = some x) : ∃ p : Frm.Ent × Value, entL p.1 p.2 = cs ∧ EntAt W p := by
  obtain ⟨hl, hf⟩ := open_fields Tryz.underlying107 h
  have e34 : Tryz.prog.cellsOf 107 = 34 := by kernel_rfl
  have e1 : Tryz.prog.cellsOf 3 = 1 := by kernel_rfl
  have e2 : Tryz.prog.cellsOf 41 = 32 := by kernel_rfl
  have e3 : Tryz.prog.cellsOf 42 = 1 := by kernel_rfl
  have e5 : Tryz.prog.cellsOf 5 = 1 := by kernel_rfl
  rw [e34] at hl
  obtain ⟨n0, y0, h0⟩ := hf 0 _ rfl
  obtain ⟨n1, y1, h1⟩ := hf 1 _ rfl
  obtain ⟨n2, y2, h2⟩ := hf 2 _ rfl
  simp only [List.getElem_toArray, List.getElem_cons_zero, List.getElem_cons_succ, e1, e2, e3, List.drop_zero] at h0 h1 h2
  obtain ⟨z0, q0, _, w0⟩ := DataW.trod_int Tryz.underlying3 h0
  obtain ⟨kl, k1, k2⟩ := open_key Tryz.underlying41 e2 h1
  have hd : ∃ v, (cs.drop 33).take 1 = [v] := by
    have : ((cs.drop 33).take 1).length = 1 := by rw [List.length_take, List.length_drop]; omega
    exact List.length_eq_one_iff.1 this
  obtain ⟨dv, hdv⟩ := hd
  rw [hdv] at h2
  obtain ⟨l5, r5, c5⟩ := in_bys Tryz.underlying42 Tryz.underlying5 e5 h2
  refine ⟨(⟨z0, kl, l5⟩, dv), ?_, k2, bounds_i64 w0, r5, c5⟩
  show Value.int .i64 z0 :: (bys kl ++ [dv]) = cs
  have s1 : cs = cs.take 1 ++ ((cs.drop 1).take 32 ++ (cs.drop 33).take 1) := by
    have a1 : cs = cs.take 1 ++ cs.drop 1 := (List.take_append_drop 1 cs).symm
    have a2 : cs.drop 1 = (cs.drop 1).take 32 ++ (cs.drop 1).drop 32 := (List.take_append_drop 32 _).symm
    have a3 : (cs.drop 1).drop 32 = (cs.drop 33).take 1 := by rw [List.drop_drop, List.take_of_length_le (by rw [List.length_drop]; omega)]
    rw [a3] at a2
    rw [← a2]; exact a1
  rw [s1, q0, ← k1, hdv]; rfl
theorem in_dos15 {fuel : Nat} {v : Value} {x : DataW H × List MemPlace} (h : DataW.trod enc Tryz.prog W base spare held fuel 103 [v] = some x) :
    ∃ es : List (Frm.Ent × Value), rdsl 34 v (entsL es) W ∧ capOk v ∧ ∀ p ∈ es, EntAt W p := by
  obtain ⟨elems, h1, h2, h3⟩ := open_sl Tryz.underlying103 (k := 34) (by kernel_rfl) (by omega) h
  obtain ⟨ds, h4, h5⟩ := map_of (f := fun p : Frm.Ent × Value => entL p.1 p.2) (p := fun d => EntAt W d) elems fun cs hcs => by
    obtain ⟨_, n, y, h6⟩ := h3 cs hcs
    exact open_do15 h6
  refine ⟨ds, ?_, h2, h5⟩
  unfold entsL
  rw [List.flatMap_def, h4]
  exact h1
end
end Go.Proofs.YtmjldaedhmipkaaGreatDoor
namespace Go.Proofs.YtmjldaedhmipkaaGreatDoor.card
open Go.ChangeShapes Go.WideShapes Go.ChangeAt Go.RowKit
open Go Go.Sl Go.Med
theorem gHalf : Tryz.prog.globalNamed "hoard/crc.half" = some 0 := by kernel_rfl
theorem tHalf : ((Tryz.prog.globals[0]?).map (·.type)) = some 284 := by kernel_rfl
theorem door_met (os : Os) (args : Array Value) : laidMetH Tryz.prog [("hoard/crc.half", Rows.laid_hoard_crc_half)] ((World.doorLaid Tryz.prog 400 os).forCall (fun _ _ => 0) ⟨#[], args, []⟩).memory :=
  laidMetH_of_parts3 (fuel := 8) (laidMet_of_run' 8 (by kernel_rfl) (by kernel_rfl)) (by kernel_rfl) (by kernel_rfl)
theorem of_laid {W : World} (h : laidMetH Tryz.prog [("hoard/crc.half", Rows.laid_hoard_crc_half)] W) : 0 < W.heap.size ∧ Half W := by
  rw [MakeChecks.laidMetH_plain _ _ _ (by kernel_rfl)] at h
  obtain ⟨ps, ⟨g0, t0, cs0, f0, p0, q0, hg0, ht0, hv0, hd0, hrest⟩, hrest2⟩ := h
  obtain rfl := Option.some.inj (gHalf.symm.trans hg0)
  obtain rfl := Option.some.inj (tHalf.symm.trans ht0)
  obtain ⟨xs, m1, rfl, hx1, hlen, hn3, hel⟩ := DataW.trod_array Tryz.underlying284 hd0
  have c3 : Tryz.prog.cellsOf 233 = 1 := by kernel_rfl
  simp only [Prod.mk.injEq, Rows.laid_hoard_crc_half, DataW.agg.injEq] at hx1
  have hH : Half W := by
    intro i hi
    have h0 := hel i hi
    have hxi : xs[i]? = some (xs[i]'(by omega)) := List.getElem?_eq_getElem (by omega)
    rw [hxi] at h0
    obtain ⟨k, e1, e2, _⟩ := DataW.trod_int Tryz.underlying233 h0
    rw [c3, Nat.mul_one] at e1
    have hc : cs0.toList[i]? = some (.int .u32 k) := by
      have : ((cs0.toList.drop i).take 1)[0]? = some (.int .u32 k) := by rw [e1]; rfl
      rw [List.getElem?_take, if_pos (by decide), List.getElem?_drop] at this
      exact this
    have hL := congrArg (fun l => l[i]?) hx1.1
    rw [List.getElem?_map, hxi] at hL
    have hk : k = ((Frm.half.getD i 0 : Nat) : Int) := by
      rw [e2] at hL
      rcases i with _ | _ | _ | _ | _ | _ | _ | _ | _ | _ | _ | _ | _ | _ | _ | _ | i
      all_goals first | omega | (simp at hL; rw [← hL]; rfl)
    subst hk
    have := World.var?_cell hg0 hv0 i
    rw [this, ← Array.getElem?_toList]
    exact hc
  refine ⟨?_, hH⟩
  by_cases hz : 0 < W.heap.size
  · exact hz
  · have h0 := hH 0 (by decide)
    have e : W.heap[0]? = none := Array.getElem?_eq_none (by omega)
    simp [World.cell?, e] at h0
end Go.Proofs.YtmjldaedhmipkaaGreatDoor.card
