import Derived.Test.YtmjldaedhmipkaaGreatDoorJ7
import Derived.Test.YtmjldaedhmipkaaGreatDoorRows
import Derived.Test.YtmjldaedhmipkaaGreatDoorCards
import Derived.Test.YtmjldaedhmipkaaGreatDoorTie
import Derived.ProofKit
import Derived.LaidMore
import Derived.OpenShut
import Derived.ShutString
import Derived.SevenTiedAt
set_option linter.unusedVariables false
namespace Go.Seg
open Go.Med
open Go.Frm (encs GoodE fnds Ent)
theorem playL_snoc : ∀ (ds : List Ent) (L : Log) (M : Med) (d : Ent), Log.playL (ds ++ [d]) L M = ((Log.playL ds L M).1.play1 (Log.playL ds L M).2 d).1
  | [], L, M, d => rfl
  | x :: ds, L, M, d => by
    rw [List.cons_append, Log.playL, playL_snoc ds]; rfl
theorem Pl.playL {n : Nat} {ds0 : List Ent} : ∀ (ds : List Ent) (L : Log) (M : Med) (C : List (List Ent)), Pl n ds0 L M C → (∀ d ∈ ds, d.key.length = 32 ∧ d.data.length ≤ 300) → n + ds.length ≤ 100 →
    ∃ C', Pl (n + ds.length) (ds0 ++ ds) (Log.playL ds L M).1 (Log.playL ds L M).2 C' ∧ (Log.playL ds L M).1.limit = L.limit
  | ds, L, M, C, h, hd, hn => by
    induction ds generalizing n ds0 L M C with
    | nil => exact ⟨C, by simpa [Log.playL] using h, rfl⟩
    | cons d ds ih =>
      rw [List.length_cons] at hn
      obtain ⟨h1, h2, h3, h4⟩ := h.step (d := d) (by omega) (hd d List.mem_cons_self).1 (hd d List.mem_cons_self).2
      obtain ⟨C', h5, h6⟩ := ih _ _ _ h4 (fun x hx => hd x (List.mem_cons_of_mem _ hx)) (by omega)
      refine ⟨C', ?_, h6.trans h2⟩
      rw [List.length_cons, show n + (ds.length + 1) = n + 1 + ds.length by omega, show ds0 ++ d :: ds = ds0 ++ [d] ++ ds by simp]
      exact h5
end Go.Seg
namespace Go.Proofs.YtmjldaedhmipkaaGreatDoor
open Go Go.Sl Go.Med Go.MapKept Go.RowKit
theorem puts2 (cs : Array Value) (hs : cs.size = 34) (u : Value) (kl : List Value) (hk : kl.length = 32) : (putsAt (putsAt cs 0 [u]) 1 kl).toList = u :: (kl ++ cs.toList.drop 33) := by
  have hcl : cs.toList.length = 34 := by simpa using hs
  rw [putsAt_list _ _ _ (by rw [putsAt_size]; omega), putsAt_list _ _ _ (by simp; omega)]
  simp only [List.take_zero, List.nil_append, List.length_singleton, Nat.zero_add]
  rw [List.singleton_append, List.take_succ_cons, List.take_zero, hk, show 1 + 32 = 32 + 1 by omega, List.drop_succ_cons, List.drop_drop]
  simp
theorem entA_drop33 (x : Frm.Ent) (dv : Value) (hk : x.key.length = 32) : (entA x dv).toList.drop 33 = [dv] := by
  have h1 : (entA x dv).toList = (Value.int .i64 x.tag :: bys x.key) ++ [dv] := by unfold entA entL; simp
  rw [h1, List.drop_left' (by rw [List.length_cons, bys_len, hk])]
set_option maxRecDepth 20000 in
theorem run_buildEnt2 (t : Int) (k : Frm.Bs) (hk : k.length = 32) (w : World) :
    (Instr.build 44 #[(0, .int .i64 t), (1, .agg (bys k).toArray)]).run Tryz.prog w = .ok (.agg (entA ⟨t, k, []⟩ (.slice none 0 0))) w := by
  have hz : (entA Frm.zeroE (.slice none 0 0)).size = 34 := entA_size _ _ rfl
  have hks : (bys k).toArray.size = 32 := by simp [bys, hk]
  have h := run_build (P := Tryz.prog) [(0, .int .i64 t), (1, .agg (bys k).toArray)] plEnt zEnt (by
    intro p hp
    simp only [List.mem_cons, List.not_mem_nil, or_false] at hp
    have hzz : zeroEntV.cells.size = 34 := hz
    rw [hzz]
    rcases hp with rfl | rfl
    · exact ⟨0, rfl, by show 0 + 1 ≤ 34; omega⟩
    · refine ⟨1, ?_, ?_⟩
      · show some (1, 32) = some (1, (bys k).toArray.size); rw [hks]
      · show 1 + (bys k).toArray.size ≤ 34; rw [hks]; omega) w
  refine h.trans ?_
  congr 2
  have h1 : (entA ⟨t, k, []⟩ (.slice none 0 0)).toList = Value.int .i64 t :: (bys k ++ [.slice none 0 0]) := by unfold entA entL; simp
  have h3 : (entA Frm.zeroE (.slice none 0 0)).toList.drop 33 = [.slice none 0 0] := entA_drop33 Frm.zeroE _ rfl
  apply putsAt_eq
  rw [h1, ← h3]
  exact puts2 _ hz _ _ (show (bys k).toArray.toList.length = 32 by rw [List.toList_toArray, bys_len, hk])
section
variable {w0 w : World} {F R : List HProp} {v bv dv x lv : Value} {p m : Nat} {L : Seg.Log} {M : Med}
set_option maxRecDepth 20000 in
set_option maxHeartbeats 8000000 in
theorem more15_c (es : List (Frm.Ent × Value)) {n0 : Nat} {ds0 : List Frm.Ent} {C : List (List Frm.Ent)} (hP : Seg.Pl n0 ds0 L M C) (hn : n0 + es.length ≤ 100) (hr : Ro w0 F (rdsl 34 lv (entsL es))) (he : ∀ p ∈ es, EntRo w0 F p) (hd : ∀ p ∈ es, p.1.data.length ≤ 300) (hH : Ro w0 F Half) (h : Sat w0 w (LogRep p m L :: MedRep m M :: F)) :
    Calls Tryz.prog 54 #[ptr p, lv] w (Rtn fun v w' => v = ptr p ∧ Sat w0 w' (LogRep p m (Seg.Log.playL (es.map (·.1)) L M).1 :: MedRep m (Seg.Log.playL (es.map (·.1)) L M).2 :: F)) := by
  obtain ⟨la, ln, lc, rfl, hl, _⟩ := hr w (h.sb)
  rw [entsL_len (fun p hp => (he p hp).key)] at hl
  obtain rfl : ln = es.length := by omega
  have Hr := Lib.hid hr; have He := Lib.hid he; have Hn := Lib.hid hn; have Hd := Lib.hid hd; have HH := Lib.hid hH
  have HP := Lib.hid hP
  clear hr he hl hn hd hH hP
  go_enter Tryz.func54, Tryz.ntmps54
  go_wp2_with fail
  go_loopg [5] es.length (fun g iq wr => ∃ (i : Nat) (ds : List Frm.Ent), g = es.length - i ∧ i ≤ es.length ∧ iq = .int .i64 i ∧ ds = (es.map (·.1)).take i ∧
    Sat w0 wr (LogRep p m (Seg.Log.playL ds L M).1 :: MedRep m (Seg.Log.playL ds L M).2 :: F))
  case atStart => exact ⟨0, [], rfl, Nat.zero_le _, rfl, rfl, h⟩
  case round =>
    obtain ⟨i, ds, rfl, hi, rfl, hds, hS⟩ := hrel
    have Hds := Lib.hid hds; have Hi := Lib.hid hi
    clear h hds hi
    by_cases hlt : i < es.length
    · have c1 : (i : Int) < (es.length : Int) := by omega
      have hwi : IntKind.i64.wrap ((i : Int) + 1) = (i : Int) + 1 := IntWalk.i64_in _ (by have := Hn.out; omega)
      have Hl1 := Lib.hid hlt
      clear hlt
      obtain ⟨x, hx⟩ : ∃ x, es[i]? = some x := ⟨_, List.getElem?_eq_getElem Hl1.out⟩
      have hxe := He.out x (List.mem_of_getElem? hx)
      have hk : ∀ p ∈ es, p.1.key.length = 32 := fun p hp => (He.out p hp).key
      have Hsn := Lib.hid (show ds ++ [x.1] = (es.map (·.1)).take (i + 1) by
        rw [Hds.out, List.take_add_one, List.getElem?_map, hx]; rfl)
      have hdl0 := Hd.out x (List.mem_of_getElem? hx)
      have hpl : ∃ C', Seg.Pl (n0 + ds.length) (ds0 ++ ds) (Seg.Log.playL ds L M).1 (Seg.Log.playL ds L M).2 C' ∧ (Seg.Log.playL ds L M).1.limit = L.limit := by
        refine Seg.Pl.playL ds L M C HP.out (fun y hy => ?_) ?_
        · rw [Hds.out] at hy
          obtain ⟨q, hq, rfl⟩ := List.mem_map.1 (List.mem_of_mem_take hy)
          exact ⟨hk q hq, Hd.out q hq⟩
        · have := Hn.out
          rw [Hds.out, List.length_take, List.length_map]; omega
      obtain ⟨C', hpl, _⟩ := hpl
      have hst := hpl.step (d := x.1) (by have := Hn.out; have := Hl1.out; rw [Hds.out, List.length_take, List.length_map]; omega) hxe.key hdl0
      have Hpl := Lib.hid hpl
      have Hg := Lib.hid (Seg.playL_snoc ds L M x.1)
      have hrF : Ro w0 (LogRep p m (Seg.Log.playL ds L M).1 :: MedRep m (Seg.Log.playL ds L M).2 :: F) (rdsl 34 (.slice la es.length lc) (entsL es)) := Ro.os Hr.out
      obtain ⟨bk, off, rfl, _⟩ := rdsl_cells (hrF _ hS) (entsL_at hk hx (entL_at0 _ _))
      have HG := Lib.hid (show ∀ w' L, Ro w0 L (rdsl 34 (.slice (some ⟨bk, off, none⟩) es.length lc) (entsL es)) → Sat w0 w' L → w'.cell? ⟨bk, off + i * 34, none⟩ = some (.int .i64 x.1.tag) ∧ w'.rangeAt bk (off + i * 34 + 1) (bys x.1.key) ∧ w'.cell? ⟨bk, off + i * 34 + 33, none⟩ = some x.2 by
        intro w' L hL hw
        obtain ⟨bk', off', hbo, hcell⟩ := rdsl_cells (hL w' hw) (entsL_at hk hx (entL_at0 _ _))
        cases hbo
        refine ⟨hcell _ _ (entsL_at hk hx (entL_at0 _ _)), fun j y hj => ?_, ?_⟩
        · have := hcell _ _ (entsL_at hk hx (entL_key _ x.2 hj))
          rw [show off + (i * 34 + (1 + j)) = off + i * 34 + 1 + j by omega] at this
          exact this
        · have := hcell _ _ (entsL_at hk hx (entL_at33 _ _ hxe.key))
          rw [show off + (i * 34 + 33) = off + i * 34 + 33 by omega] at this
          exact this)
      obtain ⟨⟨tag, key, data⟩, dv⟩ := x
      obtain ⟨da, dn, dc, rfl, hdn, hdc⟩ := hxe.cap
      have hdl : dn = data.length := by
        obtain ⟨a', n', c', he, hl, _⟩ := hxe.rd _ (hS.sb)
        cases he
        rw [bys_len, Nat.mul_one] at hl; exact hl.symm
      subst hdl
      have Hrd := Lib.hid hxe.rd; have Hkey := Lib.hid (show key.length = 32 from hxe.key)
      have Hdl := Lib.hid (show data.length ≤ 300 from hdl0)
      have Hks := Lib.hid (show (bys key).length = 32 by rw [bys_len]; exact Hkey.out)
      have e0 := (HG.out _ _ hrF hS).1
      have Hok := Lib.hid Hpl.out.holds.keeps.log
      have Hmo := Lib.hid Hpl.out.holds.keeps.calm.ok
      have Hnb := Lib.hid (show (n0 + ds.length) * 5 ≤ 1000 by have := Hn.out; have := Hl1.out; rw [Hds.out, List.length_take, List.length_map]; omega)
      clear hx hxe hk hrF hdl0 hpl Hpl
      dsimp only at hst e0
      change Hid (ds ++ [(⟨tag, key, data⟩ : Frm.Ent)] = _) at Hsn
      have hkd : tag = 0 ∨ tag = 1 ∨ ((tag == 0) = false ∧ (tag == 1) = false ∧ ¬ Seg.isPut ⟨tag, key, data⟩) := by
        simp only [beq_eq_false_iff_ne, Seg.isPut]; omega
      rcases hkd with rfl | rfl | ⟨k0, k1, k2⟩
      · as_aux_lemma =>
          have hpe := Seg.put_eq (L := (Seg.Log.playL ds L M).1) (M := (Seg.Log.playL ds L M).2) (d := ⟨0, key, data⟩) (.inl rfl)
          rw [show Seg.toE ⟨0, key, data⟩ = ⟨0, key, data⟩ from rfl] at hpe
          have hap := Lib.hid (fun w' R' (hh : Ro w0 R' Half) (hr : Ro w0 R' (rdsl 1 (.slice da data.length dc) (bys data))) (hw : Sat w0 w' (LogRep p m (Seg.Log.playL ds L M).1 :: MedRep m (Seg.Log.playL ds L M).2 :: R')) => lappend_c ⟨0, key, data⟩ Hkey.out da dc hr hh (Nat.le_trans Hdl.out (by decide)) Hok.out Hmo.out (Nat.le_trans (Nat.add_le_add_right Hnb.out 4) (by decide)) hw)
          rw [hpe] at hst Hg
          clear hpe
          generalize Seg.Log.playL ds L M = lm at *
          obtain ⟨L1, M1⟩ := lm
          dsimp only at hst Hg hap hS
          generalize L1.append M1 ⟨0, key, data⟩ = r at *
          obtain ⟨⟨L2, M2⟩, pc, e2⟩ := r
          dsimp only at hst Hg hap
          obtain ⟨rfl, _⟩ := hst
          go_wp2_with fail
          have hAd := hS.drew
          refine wpL_begin [13, 14, 15, 16] (fun w' => w'.rangeAt bk (off + i * 34 + 1) (bys key) ∧ w'.cell? ⟨bk, off + i * 34 + 33, none⟩ = some (.slice da data.length dc)) (by kernel_rfl) ?_
          have hG := (HG.out _ _ (Ro.os Hr.out) hAd).2
          refine rp 0 (hy := (yl_move evD)) (h := ?_)
          refine rp 1 (hy := (yl_move evD)) (h := ?_)
          refine rp 2 (hy := (yl_move evD)) (h := ?_)
          refine rp 3 (hy := (yl_index evD evD rnD)) (h := ?_)
          refine rp 4 (hy := (yl_field evD rnD)) (h := ?_)
          refine rg_take 5 evD (by kernel_rfl) (by intro _ _ _ h; exact h) (tk_loadN (b := bk) (o := off + i * 34 + 1) (bys key) (by rfl) Tryz.underlying41 rfl (by rw [Hks.out]; kernel_rfl) (fun w hw => hw.1)) (by assumption) (by go_frame; first | done | rfl) ?_
          refine rp 6 (hy := (yl_move evD)) (h := ?_)
          refine rp 7 (hy := (yl_move evD)) (h := ?_)
          refine rp 8 (hy := (yl_index evD evD rnD)) (h := ?_)
          refine rp 9 (hy := (yl_field evD rnD)) (h := ?_)
          refine rt 10 (h := ?_)
          clear hG
          refine rp 11 (hy := (yl_build3 evD evD evD (fun w => run_buildEnt ⟨0, key, data⟩ Hkey.out da data.length dc w))) (h := ?_)
          refine rg_eff 12 evD (by kernel_rfl) (fun K hK => ?_)
          (refine eff_call2 (by kernel_rfl) evD evD ?_)
          refine (hap.out _ _ (Ro.os HH.out) (Ro.os Hrd.out) hAd).mono ?_
          rintro ee w21 ⟨v, rfl, rfl, hS21⟩
          refine hK _ _ (.inr (.inl (HG.out _ _ (Ro.os Hr.out) hS21).2)) ?_
          clear hK hap hAd
          refine rp 13 (hy := (yl_move evD)) (h := ?_)
          refine rp 14 (hy := (yl_extract evD rnD)) (h := ?_)
          refine rp 15 (hy := (yl_extract evD rnD)) (h := ?_)
          refine rp 16 (hy := (yl_assign evD)) (h := ?_)
          refine wpL_done (by kernel_rfl) ?_
          go_wp2_with fail
          go_roundg (es.length - (i + 1))
          case measure => have := Hl1.out; omega
          case rel => exact ⟨i + 1, _, rfl, Nat.succ_le_of_lt Hl1.out, by first | rfl | go_num, Hsn.out, by rw [Hg.out]; exact hS21⟩
      · as_aux_lemma =>
          have hpe := Seg.put_eq (L := (Seg.Log.playL ds L M).1) (M := (Seg.Log.playL ds L M).2) (d := ⟨1, key, data⟩) (.inr rfl)
          rw [show Seg.toE ⟨1, key, data⟩ = ⟨1, key, []⟩ from rfl] at hpe
          have hap := Lib.hid (fun w' R' (hh : Ro w0 R' Half) (hr : Ro w0 R' (rdsl 1 (.slice none ([] : Frm.Bs).length 0) (bys []))) (hw : Sat w0 w' (LogRep p m (Seg.Log.playL ds L M).1 :: MedRep m (Seg.Log.playL ds L M).2 :: R')) => lappend_c ⟨1, key, []⟩ Hkey.out none 0 hr hh (Nat.zero_le _) Hok.out Hmo.out (Nat.le_trans (Nat.add_le_add_right Hnb.out 4) (by decide)) hw)
          rw [hpe] at hst Hg
          clear hpe
          generalize Seg.Log.playL ds L M = lm at *
          obtain ⟨L1, M1⟩ := lm
          dsimp only at hst Hg hap hS
          generalize L1.append M1 ⟨1, key, []⟩ = r at *
          obtain ⟨⟨L2, M2⟩, pc, e2⟩ := r
          dsimp only at hst Hg hap
          obtain ⟨rfl, _⟩ := hst
          have HC := Lib.hid (HG.out _ _ (Ro.os Hr.out : Ro w0 (LogRep p m L1 :: MedRep m M1 :: F) _) hS).2.1
          go_wp2_with (first
            | ((with_reducible apply at_load); refine ⟨?_⟩; refine wl_loadW (b := bk) (o := off + i * 34 + 1) (bys key) (by rfl) HC.out Tryz.underlying41 rfl (by rw [Hks.out]; kernel_rfl) ?_)
            | ((with_reducible apply at_build2); refine ⟨?_⟩; refine wl_build2 (by rfl) (by rfl) (fun w => run_buildEnt2 1 key Hkey.out w) ?_))
          refine (hap.out _ _ (Ro.os HH.out) (fun w _ => rdsl_nil 1 0 w) hS).mono ?_
          rintro ee w21 ⟨v, rfl, rfl, hS21⟩
          clear hap hS HC e0
          go_wp2_with fail
          go_roundg (es.length - (i + 1))
          case measure => have := Hl1.out; omega
          case rel => exact ⟨i + 1, _, rfl, Nat.succ_le_of_lt Hl1.out, by first | rfl | go_num, Hsn.out, by rw [Hg.out]; exact hS21⟩
      · as_aux_lemma =>
          have hpe := Seg.com_eq (L := (Seg.Log.playL ds L M).1) (M := (Seg.Log.playL ds L M).2) (d := ⟨tag, key, data⟩) k2
          have hap := Lib.hid (fun w' R' (hh : Ro w0 R' Half) (hw : Sat w0 w' (LogRep p m (Seg.Log.playL ds L M).1 :: MedRep m (Seg.Log.playL ds L M).2 :: R')) => lcommit_c hh Hok.out Hmo.out (Nat.le_trans (Nat.add_le_add_right Hnb.out 6) (by decide)) hw)
          rw [hpe] at hst Hg
          clear hpe k2
          generalize Seg.Log.playL ds L M = lm at *
          obtain ⟨L1, M1⟩ := lm
          dsimp only at hst Hg hap hS
          generalize L1.commit M1 = r at *
          obtain ⟨⟨L2, M2⟩, pc, e2⟩ := r
          dsimp only at hst Hg hap
          obtain ⟨rfl, _⟩ := hst
          go_wp2_with fail
          refine (hap.out _ _ (Ro.os HH.out) hS).mono ?_
          rintro ee w21 ⟨v, rfl, rfl, hS21⟩
          clear hap hS e0
          go_wp2_with fail
          go_roundg (es.length - (i + 1))
          case measure => have := Hl1.out; omega
          case rel => exact ⟨i + 1, _, rfl, Nat.succ_le_of_lt Hl1.out, by first | rfl | go_num, Hsn.out, by rw [Hg.out]; exact hS21⟩
    · have c1 : ¬ (i : Int) < (es.length : Int) := by omega
      have hfin : ds = es.map (·.1) := by
        rw [Hds.out, List.take_of_length_le (by rw [List.length_map]; omega)]
      subst hfin
      clear hlt
      go_wp2
      go_ret
      exact ⟨_, rfl, rfl, hS⟩
end
theorem fresh_new (r : Nat) (limit : Int) : Seg.fresh (Med.new r) limit = ⟨limit, [], false, 0⟩ := rfl
theorem plDo15 : placesB Tryz.prog 107 = some [(0, 1), (1, 32), (33, 1)] := by kernel_rfl
set_option maxRecDepth 20000 in
theorem run_buildKind (tag : Int) (w : World) : (Instr.build 107 #[(0, .int .i64 tag)]).run Tryz.prog w = .ok (.agg (entA ⟨tag, Frm.zero32, []⟩ (.slice none 0 0))) w := by
  have hz : (entA Frm.zeroE (.slice none 0 0)).size = 34 := entA_size _ _ rfl
  have h := run_build (P := Tryz.prog) [(0, .int .i64 tag)] plDo15 zDo15 (by
    intro p hp
    rw [List.mem_singleton] at hp
    subst hp
    have hzz : zeroEntV.cells.size = 34 := hz
    rw [hzz]
    exact ⟨0, rfl, by show 0 + 1 ≤ 34; omega⟩) w
  exact h
section
variable {w0 w : World} {F R L L' : List HProp} {v bv dv x lv : Value} {p m : Nat}
variable {b : Nat} {ops : Array Oper} {rest : List Oper} {a : Act} {Q : Exit → Act → World → Prop} {dst : Option Tmp} {t T : TypeId} {pos : String} {after : Array Edge} {y : Operand}
theorem wl_buildKind {tag : Int} (hx : a.eval y = .int .i64 tag) (h : wpList Tryz.prog ops Q rest (a.put dst (.agg (entA ⟨tag, Frm.zero32, []⟩ (.slice none 0 0)))) w) : wpList Tryz.prog ops Q (⟨dst, .build 107 #[(0, y)], t, pos, after, none⟩ :: rest) a w :=
  wpList_plain rfl fun _ hK => by
    unfold Oper.wp execOp
    simp only [List.map_toArray, List.map_cons, List.map_nil, hx, Sem.run_bind, run_buildKind, Result.andThen_ok, Sem.run_pure]
    exact hK _ _ h
theorem at_buildKind (h : Stop (wpList Tryz.prog ops Q (⟨dst, .build 107 #[(0, y)], t, pos, after, none⟩ :: rest) a w)) : wpList Tryz.prog ops Q (⟨dst, .build 107 #[(0, y)], t, pos, after, none⟩ :: rest) a w := h.out
def comD : Frm.Ent × Value := (⟨2, Frm.zero32, []⟩, .slice none 0 0)
theorem comD_ro : EntRo w0 F comD := ⟨rfl, fun w _ => rdsl_nil 1 0 w, ⟨_, _, _, rfl, Nat.le_refl 0, Nat.zero_le _⟩⟩
theorem few_le {fs es : List (Frm.Ent × Value)} {n long : Nat} (h : fs.map (·.1) = Frm.few (es.map (·.1)) n long) : fs.length ≤ n ∧ ∀ q ∈ fs, q.1.data.length ≤ long := by
  refine ⟨?_, fun q hq => ?_⟩
  · have := congrArg List.length h
    unfold Frm.few at this
    rw [List.length_map, List.length_map, List.length_take] at this; omega
  · have h1 : q.1 ∈ fs.map (·.1) := List.mem_map.2 ⟨q, hq, rfl⟩
    rw [h] at h1
    unfold Frm.few at h1
    obtain ⟨x, _, e⟩ := List.mem_map.1 h1
    rw [← e]
    show (x.data.take long).length ≤ long
    rw [List.length_take]; omega
set_option maxRecDepth 20000 in
set_option maxHeartbeats 8000000 in
theorem played15_c (es : List (Frm.Ent × Value)) (z : Int) (hn : es.length ≤ 100) (hr : Ro w0 F (rdsl 34 lv (entsL es))) (he : ∀ p ∈ es, EntRo w0 F p) (hd : ∀ p ∈ es, p.1.data.length ≤ 300) (hH : Ro w0 F Half) (h : Sat w0 w F) :
    Calls Tryz.prog 53 #[.int .i64 z, lv] w (Rtn fun v w' => ∃ p m, v = ptr p ∧ (128 ≤ within z 128 3000 ∧ within z 128 3000 ≤ 3000) ∧ Sat w0 w' (LogRep p m (Seg.Log.playL (es.map (·.1)) ⟨within z 128 3000, [], false, 0⟩ (Med.new 1048576)).1 :: MedRep m (Seg.Log.playL (es.map (·.1)) ⟨within z 128 3000, [], false, 0⟩ (Med.new 1048576)).2 :: F)) := by
  have hlim := within_mem z 128 3000 (by decide)
  have Hr := Lib.hid hr; have He := Lib.hid he; have Hn := Lib.hid hn; have Hd := Lib.hid hd; have HH := Lib.hid hH
  have hnew : Calls Tryz.prog 13 #[.int .i64 1048576] w (Rtn fun v w' => ∃ m, v = .tuple #[ptr m, errno 0] ∧ Sat w0 w' (MedRep m (Med.new 1048576) :: F)) := new_yes 1048576 (by decide) h
  have hwi := within_c z 128 3000
  generalize within z 128 3000 = lim at *
  have Hlim := Lib.hid hlim
  clear hr he hn hd hH h hlim
  go_enter Tryz.func53, Tryz.ntmps53
  go_wp2_with fail
  refine hnew.mono ?_
  rintro ee w1 ⟨v, rfl, m, rfl, h1⟩
  clear hnew
  go_wp2_with fail
  refine (hwi _).mono ?_
  rintro ee w2 ⟨v, rfl, rfl, rfl⟩
  clear hwi
  have hop := open_c (K := 0) (Med.Ok.new 0 1048576 (by decide)) lim h1 (by rfl) Hlim.out.1 (by have := Hlim.out.2; omega)
  rw [fresh_new] at hop
  go_wp2_with fail
  refine hop.mono ?_
  rintro ee w3 ⟨v, rfl, p, rfl, h3⟩
  clear hop h1
  have hmo := more15_c es (Seg.Pl.start lim Hlim.out.1 (by have := Hlim.out.2; omega)) (by have := Hn.out; omega) Hr.out He.out Hd.out HH.out h3
  clear h3
  generalize hg : Seg.Log.playL (es.map (·.1)) ⟨lim, [], false, 0⟩ (Med.new 1048576) = r at *
  have Hg := Lib.hid hg
  clear hg
  go_wp2_with fail
  refine hmo.mono ?_
  rintro ee w4 ⟨v, rfl, rfl, h4⟩
  clear hmo
  go_wp2_with fail
  go_ret
  refine ⟨_, rfl, p, m, rfl, Hlim.out, ?_⟩
  rw [Hg.out]
  exact h4
end
end Go.Proofs.YtmjldaedhmipkaaGreatDoor
namespace Go.Rep
open Go.Frm (Bs Fnd Ent fnds encs GoodE)
open Go.Seg (Plc mag)
open Go.Tab
def segSum (l : List Row) (s : Int) : Int := (l.map fun r => if r.1 = s then (r.2.size : Int) else 0).sum
def total (kv : List (Bs × Abt)) : Int := (kv.map fun p => if counts p.2 = true then p.2.place.size else 0).sum
def objs (kv : List (Bs × Abt)) : Int := (kv.map fun p => if p.2.tag = 0 then p.2.place.size else 0).sum
end Go.Rep
namespace Go.Rep
open Go.Frm (Bs Fnd Ent fnds encs GoodE)
open Go.Seg (Plc mag)
open Go.Tab
structure LiveOk (us : List Use) (ps : List (Bs × Plc)) (size : Int → Int) : Prop where
  each : ∀ u ∈ us, 0 ≤ u.live ∧ u.live ≤ u.size - 8 ∧ size u.seg = u.size ∧ u.size ≤ 33554432
  objs : ∀ q ∈ ps, 0 ≤ q.2.size ∧ q.2.size ≤ 341
  sum : ∃ m : Nat, (us.map (·.live)).sum = (ps.map (·.2.size)).sum + 41 * m
  ulen : us.length ≤ 100
  plen : ps.length ≤ 100
end Go.Rep
namespace Go.Seg
open Go.Med
open Go.Frm (Bs Fnd encs GoodE fnds Ent)
open Go.Rep
section
variable {n : Nat} {ds : List Ent} {L : Log} {M : Med} {C : List (List Ent)} {c : Nat}
end
end Go.Seg
namespace Go.Rep
open Go.Frm (Bs Fnd Ent fnds encs GoodE)
open Go.Seg (Plc mag toE isPut)
open Go.Tab
def endTo (ds : List Ent) : Nat → Nat
  | 0 => 0
  | i + 1 => match ds[i]? with
    | some d => if isPut d then endTo ds i else i
    | none => endTo ds i
end Go.Rep
namespace Go.Seg
open Go.Med
open Go.Frm (Bs Fnd encs GoodE fnds Ent)
open Go.Rep
section
variable {n : Nat} {ds : List Ent} {L : Log} {M : Med} {C : List (List Ent)} {c : Nat}
end
end Go.Seg
namespace Go.Seg
open Go.Med
open Go.Frm (Bs Fnd encs GoodE fnds Ent)
open Go.Rep
section
variable {n n2 : Nat} {ds ps : List Ent} {L L2 : Log} {M M2 : Med} {C C0 C2 : List (List Ent)} {c c2 : Nat} {d : Ent}
theorem Pl.base {n : Nat} {ds : List Ent} : ∀ (ps : List Ent) (L : Log) (M : Med) (C : List (List Ent)), Pl n ds L M C → Base C0 L.on C → (∀ d ∈ ps, d.key.length = 32 ∧ d.data.length ≤ 300) → n + ps.length ≤ 100 →
    ∃ C', Pl (n + ps.length) (ds ++ ps) (Log.playL ps L M).1 (Log.playL ps L M).2 C' ∧ Base C0 (Log.playL ps L M).1.on C'
  | ps, L, M, C, h, hb, hd, hn => by
    induction ps generalizing n ds L M C with
    | nil => exact ⟨C, by simpa [Log.playL] using h, hb⟩
    | cons d ps ih =>
      rw [List.length_cons] at hn
      obtain ⟨h1, h2, h3, h4⟩ := h.step (d := d) (by omega) (hd d List.mem_cons_self).1 (hd d List.mem_cons_self).2
      have hb2 : Base C0 (L.play1 M d).1.1.on (put C (L.fits (Frm.encode (toE d)).1.length) (toE d)) := hb.put fits_on' (toE d)
      obtain ⟨C', h5, h6⟩ := ih _ _ _ h4 hb2 (fun x hx => hd x (List.mem_cons_of_mem _ hx)) (by omega)
      refine ⟨C', ?_, h6⟩
      rw [List.length_cons, show n + (ps.length + 1) = n + 1 + ps.length by omega, show ds ++ d :: ps = ds ++ [d] ++ ps by simp]
      exact h5
theorem Pl.playC {n : Nat} {ds0 : List Ent} (ds : List Ent) (d : Ent) (L : Log) (M : Med) (C : List (List Ent)) (h : Pl n ds0 L M C) (hd : ∀ x ∈ ds ++ [d], x.key.length = 32 ∧ x.data.length ≤ 300) (hn : n + (ds ++ [d]).length ≤ 100) (hp : ¬ isPut d) :
    ∃ C', Pl (n + (ds ++ [d]).length) (ds0 ++ (ds ++ [d])) (Log.playL (ds ++ [d]) L M).1 (Log.playL (ds ++ [d]) L M).2 C' ∧ (Log.playL (ds ++ [d]) L M).1.on = false ∧ (Log.playL (ds ++ [d]) L M).1.limit = L.limit := by
  rw [List.length_append, List.length_singleton] at hn ⊢
  obtain ⟨C1, h1, h2⟩ := Pl.playL ds L M C h (fun x hx => hd x (List.mem_append.2 (.inl hx))) (by omega)
  have hdd := hd d (List.mem_append.2 (.inr (List.mem_singleton.2 rfl)))
  obtain ⟨h3, h4, h5, h6⟩ := h1.step (d := d) (by omega) hdd.1 hdd.2
  rw [playL_snoc]
  refine ⟨put C1 ((Log.playL ds L M).1.fits (Frm.encode (toE d)).1.length) (toE d), ?_, by rw [h5, decide_eq_false hp], h4.trans h2⟩
  rw [show n + (ds.length + 1) = n + ds.length + 1 by omega, show ds0 ++ (ds ++ [d]) = ds0 ++ ds ++ [d] by simp]
  exact h6
theorem Pl.lastC (h : Pl n (ds ++ [d]) L M C) (hp : ¬ isPut d) : ∃ es, C ≠ [] ∧ C[C.length - 1]? = some es ∧ Rep.endsC es = true := by
  have hne : C ≠ [] := by
    intro e
    have := h.flat
    rw [e, List.map_append] at this
    simp at this
  have hl : C = C.dropLast ++ [C.getLast hne] := (List.dropLast_concat_getLast hne).symm
  generalize C.getLast hne = es at *
  have hfl := h.flat
  rw [hl, List.flatten_append, List.map_append] at hfl
  have hes : es ∈ C := by rw [hl]; simp
  have hn := (h.holds.good es hes).2
  refine ⟨es, hne, ?_, ?_⟩
  · conv => lhs; rw [hl]
    rw [List.length_append, List.length_singleton, Nat.add_sub_cancel, List.getElem?_append_right (Nat.le_refl _), Nat.sub_self]; rfl
  · have h1 : es = es.dropLast ++ [es.getLast hn] := (List.dropLast_concat_getLast hn).symm
    generalize hx : es.getLast hn = x at *
    have h2 : (C.dropLast.flatten ++ es.dropLast) ++ [x] = ds.map toE ++ [toE d] := by
      rw [List.append_assoc, ← h1]
      simpa using hfl
    have h3 : x = toE d := by
      have := congrArg List.getLast? h2
      simpa using this
    unfold Rep.endsC
    rw [h1, List.getLast?_concat]
    simp only
    rw [h3, toE_tag.2 hp]; rfl
structure Same (L L2 : Log) (M M2 : Med) (c c2 : Nat) : Prop where
  one : c = L.segs.length
  two : c2 = L.segs.length
  segs : L2.segs.take c2 = L.segs.take c
  rows : rowsOf (fun s => L2.bytes M2 s) (L2.segs.take c2) = rowsOf (fun s => L.bytes M s) (L.segs.take c)
  uses : usesOf (fun s => L2.bytes M2 s) (L2.segs.take c2) = usesOf (fun s => L.bytes M s) (L.segs.take c)
  le : L.segs.length ≤ L2.segs.length
theorem Holds.same (h : Holds n L M C) (h2 : Holds n2 L2 M2 C2) (hpre : C2.take C.length = C) (hc : c = C.length) (hc2 : c2 = C.length) : Same L L2 M M2 c c2 := by
  subst hc; subst hc2
  have hle : C.length ≤ C2.length := by
    have := congrArg List.length hpre
    rw [List.length_take] at this; omega
  have hs : L2.segs.take C.length = L.segs.take C.length := by
    rw [h.ns, h2.ns, take_nums, take_nums, Nat.min_self, Nat.min_eq_left hle]
  refine ⟨h.segs.1.symm, h.segs.1.symm, hs, by rw [h.rows, h2.rows, hpre, List.take_length], ?_, by rw [h.segs.1, h2.segs.1]; exact hle⟩
  rw [hs]
  unfold usesOf
  refine List.map_congr_left fun s hs' => ?_
  obtain ⟨j, hj⟩ := List.getElem?_of_mem hs'
  rw [List.getElem?_take] at hj
  split at hj
  · rename_i hl
    rw [h.segs.2 j hl] at hj
    cases hj
    have h3 : C[j]? = some C[j] := List.getElem?_eq_getElem hl
    have h4 : C2[j]? = some C[j] := by
      have := congrArg (·[j]?) hpre
      rw [List.getElem?_take, if_pos hl] at this
      rw [this]; exact h3
    simp only [h.bytes h3, h2.bytes h4]
  · cases hj
theorem Pl.open (h : Pl n (ds ++ [d]) L M C) (hp : ¬ isPut d) (h2 : Pl n2 (ds ++ [d] ++ ps) L2 M2 C2) (hb : C2.take C.length = C) (hps : ∀ x ∈ ps, isPut x)
    (hc : c ≤ C.length) (h4 : ∀ j es, c ≤ j → C[j]? = some es → Rep.endsC es = false)
    (hc2 : c2 ≤ C2.length) (h23 : c2 ≠ 0 → ∃ es, C2[c2 - 1]? = some es ∧ Rep.endsC es = true) (h24 : ∀ j es, c2 ≤ j → C2[j]? = some es → Rep.endsC es = false) : Same L L2 M M2 c c2 := by
  obtain ⟨es, hne, he, hen⟩ := h.lastC hp
  have hl : 0 < C.length := List.length_pos_iff.2 hne
  have e1 : c = C.length := by
    by_cases hh : c = C.length
    · exact hh
    · have := h4 (C.length - 1) es (by omega) he
      rw [hen] at this; cases this
  have he2 : C2[C.length - 1]? = some es := by
    have := congrArg (·[C.length - 1]?) hb
    rw [List.getElem?_take, if_pos (by omega)] at this
    rw [this]; exact he
  have e2 : c2 = C.length := by
    by_cases hlt : c2 < C.length
    · have := h24 (C.length - 1) es (by omega) he2
      rw [hen] at this; cases this
    · by_cases hgt : C.length < c2
      · exfalso
        obtain ⟨es2, a1, a2⟩ := h23 (by omega)
        have hfl : (C2.drop C.length).flatten = ps.map toE := by
          have f1 := h2.flat
          rw [← List.take_append_drop C.length C2, List.flatten_append, hb, h.flat, List.map_append (l₂ := ps)] at f1
          exact List.append_cancel_left f1
        have hin : es2 ∈ C2.drop C.length := by
          refine List.mem_of_getElem? (i := c2 - 1 - C.length) ?_
          rw [List.getElem?_drop, show C.length + (c2 - 1 - C.length) = c2 - 1 by omega]; exact a1
        unfold Rep.endsC at a2
        cases hg : es2.getLast? with
        | none => rw [hg] at a2; cases a2
        | some x =>
          rw [hg] at a2
          have ht : x.tag = 2 := by simpa using a2
          have hx : x ∈ (C2.drop C.length).flatten := List.mem_flatten.2 ⟨es2, hin, List.mem_of_getLast? hg⟩
          rw [hfl] at hx
          obtain ⟨y, hy, rfl⟩ := List.mem_map.1 hx
          exact (toE_tag.1 ht) (hps y hy)
      · omega
  exact h.holds.same h2.holds hb e1 e2
end
end Go.Seg
namespace Go.Rep
def sumTo (xs : List Int) (i : Nat) : Int := (xs.take i).sum
end Go.Rep
namespace Go.Proofs.YtmjldaedhmipkaaGreatDoor
open Go Go.Sl Go.Med Go.MapKept Go.RowKit
section
variable {w0 w : World} {F : List HProp} {lv : Value}
end
section
variable {w0 w : World} {F : List HProp} {lv av : Value}
set_option maxRecDepth 20000 in
set_option maxHeartbeats 64000000 in
theorem replay_open_c (es xs : List (Frm.Ent × Value)) (z : Int) (hr : Ro w0 F (rdsl 34 lv (entsL es))) (he : ∀ p ∈ es, EntRo w0 F p) (hr2 : Ro w0 F (rdsl 34 av (entsL xs))) (he2 : ∀ p ∈ xs, EntRo w0 F p) (hH : Ro w0 F Half) (h : Sat w0 w F) :
    Calls Tryz.prog 6 #[.int .i64 z, lv, av] w (Rtn fun v w' => v = .bool true ∧ Sat w0 w' F) := by
  have HH := Lib.hid hH
  have hfe := few15_c es 30 (by decide) hr he h
  have Hek := Lib.hid (fun p hp => (he p hp).key)
  have Hek2 := Lib.hid (fun p hp => (he2 p hp).key)
  have Hr2 := Lib.hid hr2; have He2 := Lib.hid he2
  clear hr he hH h hr2 he2
  go_enter Tryz.func6, Tryz.ntmps6
  go_wp2_with fail
  refine hfe.mono ?_
  rintro ee w1 ⟨v, rfl, fs, hfs, h0⟩
  clear hfe
  have hfe2 := few15_c xs 20 (by decide) (Ro.os Hr2.out) (fun p hp => ⟨(He2.out p hp).key, Ro.of_sub (He2.out p hp).rd sbD, (He2.out p hp).cap⟩) h0
  clear h0 Hr2 He2
  go_wp2_with fail
  refine hfe2.mono ?_
  rintro ee w2 ⟨v2, rfl, gs, hgs, h0⟩
  clear hfe2
  have hfk : ∀ q ∈ fs, q.1.key.length = 32 := few_keys (i := 30) hfs Hek.out
  obtain ⟨hfl, hfd⟩ := few_le hfs
  have hgk : ∀ q ∈ gs, q.1.key.length = 32 := few_keys (i := 20) hgs Hek2.out
  obtain ⟨hgl, hgd⟩ := few_le hgs
  have Hfk := Lib.hid hfk; have Hfl := Lib.hid hfl; have Hfd := Lib.hid hfd
  have Hgk := Lib.hid hgk; have Hgl := Lib.hid hgl; have Hgd := Lib.hid hgd
  have hlen : (entsL fs).length ≤ 2147483648 := by rw [entsL_len hfk]; omega
  have k6 : (entA ⟨2, Frm.zero32, []⟩ (.slice none 0 0)).size ≤ 65536 := by rw [entA_size _ _ rfl]; decide
  clear hfs hfk hfl hfd Hek hgs hgk hgl hgd Hek2
  obtain ⟨u1, un, uc, rfl, hul, _⟩ := id (Sat.rd h0)
  obtain rfl : un = gs.length := by
    rw [entsL_len Hgk.out] at hul; omega
  clear hul
  have h1 : Sat w0 w2 (osl 107 34 v (entsL fs) :: dataS fs :: osl 107 34 (.slice u1 gs.length uc) (entsL gs) :: dataS gs :: F) := h0.sb
  clear h0
  go_wp2_with (first
    | ((with_reducible apply at_buildKind); refine ⟨?_⟩; refine wl_buildKind (by rfl) ?_)
    | ((with_reducible apply at_build1); refine ⟨?_⟩; refine wl_build1 (e := 107) (sz := 34) (by' := 64) (cs := entA ⟨2, Frm.zero32, []⟩ (.slice none 0 0)) (by kernel_rfl) h1 (by rfl) rfl (entA_size _ _ rfl) (Nat.le_of_ble_eq_true (by rfl)) ?_; intro bN wN hN)
    | ((with_reducible apply at_append); refine ⟨?_⟩; refine wl_app 107 34 64 (by kernel_rfl) hN (by rfl) (by rfl) pkD pkD ((entA_size _ _ rfl).trans (by decide)) (Nat.le_refl 1) (entA_one _ _ _ _) hlen k6 (by decide) rfl ?_; intro bA nA cA w6 hA))
  have e9 : entsL fs ++ (entA ⟨2, Frm.zero32, []⟩ (.slice none 0 0)).toList = entsL (fs ++ [comD]) := by
    rw [entsL_app]; congr 1
  rw [e9] at hA
  have h2 : Sat w0 w6 (dataS fs :: osl 107 34 (.slice (some ⟨bA, 0, none⟩) nA cA) (entsL (fs ++ [comD])) :: osl 107 34 (.slice u1 gs.length uc) (entsL gs) :: dataS gs :: F) := hA.sb
  clear hA hN h1 e9 hlen k6
  have hes := dataS_ent Hfk.out h2
  have hpl := played15_c (lv := .slice (some ⟨bA, 0, none⟩) nA cA) (fs ++ [comD]) z (by rw [List.length_append]; have := Hfl.out; simp only [List.length_cons, List.length_nil]; omega) (Ro.of_pick (fun w hw => Sat.rd hw) pick1)
    (fun q hq => by
      rcases List.mem_append.1 hq with hq | hq
      · exact hes q hq
      · rw [List.mem_singleton.1 hq]; exact comD_ro)
    (fun q hq => by
      rcases List.mem_append.1 hq with hq | hq
      · exact Nat.le_trans (Hfd.out q hq) (by decide)
      · rw [List.mem_singleton.1 hq]; decide) (Ro.os HH.out) h2
  rw [show (fs ++ [comD]).map (·.1) = fs.map (·.1) ++ [comD.1] by rw [List.map_append]; rfl] at hpl
  have Hds := Lib.hid (show ∀ d ∈ fs.map (·.1) ++ [comD.1], d.key.length = 32 ∧ d.data.length ≤ 300 from fun d hd => by
    rcases List.mem_append.1 hd with hd | hd
    · obtain ⟨q, hq, rfl⟩ := List.mem_map.1 hd
      exact ⟨Hfk.out q hq, Nat.le_trans (Hfd.out q hq) (by decide)⟩
    · rw [List.mem_singleton.1 hd]; exact ⟨rfl, by decide⟩)
  have Hdl := Lib.hid (show (fs.map (·.1) ++ [comD.1]).length ≤ 31 by rw [List.length_append, List.length_map]; have := Hfl.out; simp only [List.length_cons, List.length_nil]; omega)
  have Hcd := Lib.hid (show ¬ Seg.isPut comD.1 by decide)
  clear hes h2 Hfk Hfl Hfd
  generalize fs.map (·.1) = ds at *
  generalize comD.1 = dc at *
  generalize within z 128 3000 = lim at *
  go_wp2_with fail
  refine hpl.mono ?_
  rintro ee w2 ⟨v, rfl, p, m, rfl, ⟨hl1, hl2⟩, h3⟩
  clear hpl
  obtain ⟨C, hP, hon, _⟩ := Seg.Pl.playC ds dc _ _ _ (Seg.Pl.start lim hl1 (by omega)) Hds.out (by have := Hdl.out; omega) Hcd.out
  rw [Nat.zero_add, List.nil_append] at hP
  have h4 : Sat w0 w2 (LogRep p m (Seg.Log.playL (ds ++ [dc]) ⟨lim, [], false, 0⟩ (Med.new 1048576)).1 :: MedRep m (Seg.Log.playL (ds ++ [dc]) ⟨lim, [], false, 0⟩ (Med.new 1048576)).2 :: osl 107 34 (.slice u1 gs.length uc) (entsL gs) :: dataS gs :: F) := h3.sb
  clear h3 hl1 hl2
  generalize Seg.Log.playL (ds ++ [dc]) ⟨lim, [], false, 0⟩ (Med.new 1048576) = r at *
  obtain ⟨L, M⟩ := r
  dsimp only at h4 hP hon
  obtain ⟨c, hrun, hc, hc3, hc4⟩ := hP.holds.run
  have HP := Lib.hid hP; have Hon := Lib.hid hon
  have Hrun := Lib.hid hrun; have Hc := Lib.hid hc; have Hc3 := Lib.hid hc3; have Hc4 := Lib.hid hc4
  have HL := Lib.hid hP.holds.keeps.log; have HM := Lib.hid hP.holds.keeps.calm.ok
  clear hrun hc hc3 hc4 hP hon
  have hrl : (Rep.rowsOf (lbt L M) L.segs).length ≤ 51 := by
    have := HP.out.rows_len L.segs.length
    rw [List.take_length] at this
    exact Nat.le_trans this (by exact Nat.le_trans Hdl.out (by decide))
  have hrz : ∀ r ∈ Rep.rowsOf (lbt L M) L.segs, (r.2.size : Int) ≤ 4294967296 := fun r hr => by
    have e := HP.out.holds.rows L.segs.length
    rw [List.take_length, HP.out.holds.segs.1, List.take_length] at e
    have := HP.out.rows_size (r := r) (by rw [← e]; exact hr)
    omega
  have hrn := run_c HL.out HM.out (Ro.os HH.out) (Nat.le_trans hrl (by decide)) hrz h4
  clear h4 hrl hrz
  go_wp2_with fail
  refine hrn.mono ?_
  rintro ee w3 ⟨v, rfl, ho⟩
  clear hrn
  unfold RunOut at ho
  rw [show Rep.run (lbt L M) L.segs = .inr c from Hrun.out] at ho
  obtain ⟨ps, pi, uv, tv, ov, kv, rfl, ⟨k1, k2, k3⟩, ⟨⟨ta, tc, rfl⟩, _⟩, h5⟩ := ho
  have HK1 := Lib.hid k1
  have Hkb := Lib.hid (show kv.length ≤ 51 from Nat.le_trans k3 (Nat.le_trans (HP.out.rows_len c) (Nat.le_trans Hdl.out (by decide))))
  have hcl : c = C.length := by
    obtain ⟨es, a1, a2, a3⟩ := HP.out.lastC Hcd.out
    have := List.length_pos_iff.2 a1
    by_cases hh : c = C.length
    · exact hh
    · have hx := Hc4.out (C.length - 1) es (by have := Hc.out; omega) a2
      rw [a3] at hx; cases hx
  have hz0 : L.segs.length - c = 0 := by rw [HP.out.holds.segs.1, hcl]; omega
  rw [hz0] at h5
  clear hz0 hcl k1 k2 k3 Hrun
  have h6 : Sat w0 w3 (stPt ps (Rep.lastOfL (L.segs.take c)) pi uv (.slice ta 0 tc) :: TabML pi (Tab.mapOf (Rep.puts kv)) kv.length :: osl 115 3 uv (((Rep.usesOf (lbt L M) (L.segs.take c)).map (Rep.upd kv)).flatMap uenc) :: LogRep p m L :: MedRep m M :: osl 107 34 (.slice u1 gs.length uc) (entsL gs) :: dataS gs :: F) := h5.sb
  clear h5
  go_wp2_with (with_reducible apply at_alloc)
  refine ⟨?_⟩
  refine wl_alloc zFlt h6 rfl ?_
  intro b7 w7 h7
  clear h6
  go_wp2_with ((with_reducible apply at_store); refine ⟨?_⟩; refine wl_storeA (fltA Rep.Flt.zero) h7 (by rfl) (by rfl) (by rfl) upd0 (by kernel_rfl) (by rfl) ?_; intro w8 h8)
  have h9 : Sat w0 w8 (stPt ps (Rep.lastOfL (L.segs.take c)) pi uv (.slice ta 0 tc) :: TabML pi (Tab.mapOf (Rep.puts kv)) kv.length :: osl 115 3 uv (((Rep.usesOf (lbt L M) (L.segs.take c)).map (Rep.upd kv)).flatMap uenc) :: LogRep p m L :: MedRep m M :: osl 107 34 (.slice u1 gs.length uc) (entsL gs) :: dataS gs :: F) := h8.sb
  clear h7 h8
  go_loopg [12, 11] gs.length (fun g iq pv wr => ∃ (i : Nat) (qs : List (Frm.Ent × Value)), g = gs.length - i ∧ i ≤ gs.length ∧ iq = .int .i64 i ∧ ((∀ q ∈ qs, q ∈ gs ∧ Seg.isPut q.1) ∧ qs.length ≤ i) ∧
    Sat w0 wr (osl 107 34 pv (entsL qs) :: stPt ps (Rep.lastOfL (L.segs.take c)) pi uv (.slice ta 0 tc) :: TabML pi (Tab.mapOf (Rep.puts kv)) kv.length :: osl 115 3 uv (((Rep.usesOf (lbt L M) (L.segs.take c)).map (Rep.upd kv)).flatMap uenc) :: LogRep p m L :: MedRep m M :: osl 107 34 (.slice u1 gs.length uc) (entsL gs) :: dataS gs :: F))
  case atStart => exact ⟨0, [], rfl, Nat.zero_le _, rfl, ⟨(fun q hq => by cases hq), Nat.le_refl 0⟩, Sat.osl_nil.2 h9⟩
  case round =>
    obtain ⟨i, qs, rfl, hi, rfl, ⟨hqs, hql⟩, hS⟩ := hrel
    have Hqs := Lib.hid hqs; have Hql := Lib.hid hql
    clear h9 hqs hql
    by_cases hlt : i < gs.length
    · have c1 : (i : Int) < (gs.length : Int) := by omega
      have hwi : IntKind.i64.wrap ((i : Int) + 1) = (i : Int) + 1 := IntWalk.i64_in _ (by have := Hgl.out; omega)
      obtain ⟨x, hx⟩ : ∃ x, gs[i]? = some x := ⟨_, List.getElem?_eq_getElem hlt⟩
      have hrd := Sat.rd (hS.pk (A := osl 107 34 (.slice u1 gs.length uc) (entsL gs)))
      obtain ⟨bk, off, rfl, hcell⟩ := rdsl_cells hrd (entsL_at Hgk.out hx (entL_at0 _ _))
      have HC := Lib.hid (show ∀ j v, (entL x.1 x.2)[j]? = some v → wr.cell? ⟨bk, off + i * 34 + j, none⟩ = some v by
        intro j v hj
        have := hcell _ _ (entsL_at Hgk.out hx hj)
        rw [show off + (i * 34 + j) = off + i * 34 + j by omega] at this
        exact this)
      have e0 : wr.cell? ⟨bk, off + i * 34, none⟩ = some (.int .i64 x.1.tag) := HC.out 0 _ (entL_at0 _ _)
      have Hmem := Lib.hid (List.mem_of_getElem? hx)
      have Hlt := Lib.hid hlt
      have Hxk := Lib.hid (Hgk.out x (List.mem_of_getElem? hx))
      have Hqk := Lib.hid (show ∀ q ∈ qs, q.1.key.length = 32 from fun q hq => Hgk.out q (Hqs.out q hq).1)
      have hxd : ∃ a : Option Addr × Nat × Nat, x.2 = .slice a.1 a.2.1 a.2.2 := by
        obtain ⟨G, hG⟩ := dataS_at gs i x hx
        have hd := hS.pk (A := dataS gs)
        rw [hG] at hd
        obtain ⟨a, n, cc, e, _⟩ := Sat.rd (Sat.star.1 hd)
        exact ⟨(a, n, cc), e⟩
      obtain ⟨⟨da, dn, dc2⟩, hxe⟩ := hxd
      obtain ⟨⟨tag, key, data⟩, xv⟩ := x
      dsimp only at e0 hxe Hxk HC
      subst hxe
      have hlen : (entsL qs).length ≤ 2147483648 := by
        rw [entsL_len Hqk.out]
        have := Hql.out; have := Hgl.out; omega
      clear hx hlt hi hrd hcell
      have hkd : tag = 0 ∨ tag = 1 ∨ ((tag == 0) = false ∧ (tag == 1) = false ∧ ¬ Seg.isPut ⟨tag, key, data⟩) := by
        simp only [beq_eq_false_iff_ne, Seg.isPut]; omega
      rcases hkd with rfl | rfl | ⟨k0, k1, k4⟩
      · have k1 : (Tryz.prog.info? 107).map (·.size) = some (entL (⟨0, key, data⟩ : Frm.Ent) (.slice da dn dc2)).length := by rw [entL_len _ _ Hxk.out]; exact infoDo15
        have k2 : (entA (⟨0, key, data⟩ : Frm.Ent) (.slice da dn dc2)).size = 34 := entA_size _ _ Hxk.out
        have k6 : (entA (⟨0, key, data⟩ : Frm.Ent) (.slice da dn dc2)).size ≤ 65536 := by rw [k2]; decide
        have k7 : (entA (⟨0, key, data⟩ : Frm.Ent) (.slice da dn dc2)).size = 1 * 34 := by rw [k2]
        go_wp2_with (first
          | ((with_reducible apply at_load); refine ⟨?_⟩; refine wl_loadN' (b := bk) (o := off + i * 34) (entL ⟨0, key, data⟩ (.slice da dn dc2)) (by rfl) HC.out Tryz.underlying107 rfl k1 ?_)
          | ((with_reducible apply at_build1); refine ⟨?_⟩; refine wl_build1 (e := 107) (sz := 34) (by' := 64) (cs := entA ⟨0, key, data⟩ (.slice da dn dc2)) (by kernel_rfl) hS (by rfl) rfl k2 (Nat.le_of_ble_eq_true (by rfl)) ?_; intro bN wN hN)
          | ((with_reducible apply at_append); refine ⟨?_⟩; refine wl_app 107 34 64 (by kernel_rfl) hN (by rfl) (by rfl) pkD pkD k7 (Nat.le_refl 1) (entA_one _ _ _ _) hlen k6 (by decide) rfl ?_; intro bA nA cA w6 hA))
        go_roundg (gs.length - (i + 1))
        case measure => have := Hlt.out; omega
        case rel =>
          refine ⟨i + 1, qs ++ [(⟨0, key, data⟩, .slice da dn dc2)], rfl, Nat.succ_le_of_lt Hlt.out, by first | rfl | go_num, ⟨fun q hq => ?_, by rw [List.length_append]; have := Hql.out; simp only [List.length_cons, List.length_nil]; omega⟩, ?_⟩
          · rcases List.mem_append.1 hq with hq | hq
            · exact Hqs.out q hq
            · rw [List.mem_singleton.1 hq]; exact ⟨Hmem.out, .inl rfl⟩
          · rw [entsL_app, entsL_one]; exact hA.sb
      · have k1 : (Tryz.prog.info? 107).map (·.size) = some (entL (⟨1, key, data⟩ : Frm.Ent) (.slice da dn dc2)).length := by rw [entL_len _ _ Hxk.out]; exact infoDo15
        have k2 : (entA (⟨1, key, data⟩ : Frm.Ent) (.slice da dn dc2)).size = 34 := entA_size _ _ Hxk.out
        have k6 : (entA (⟨1, key, data⟩ : Frm.Ent) (.slice da dn dc2)).size ≤ 65536 := by rw [k2]; decide
        have k7 : (entA (⟨1, key, data⟩ : Frm.Ent) (.slice da dn dc2)).size = 1 * 34 := by rw [k2]
        go_wp2_with (first
          | ((with_reducible apply at_load); refine ⟨?_⟩; refine wl_loadN' (b := bk) (o := off + i * 34) (entL ⟨1, key, data⟩ (.slice da dn dc2)) (by rfl) HC.out Tryz.underlying107 rfl k1 ?_)
          | ((with_reducible apply at_build1); refine ⟨?_⟩; refine wl_build1 (e := 107) (sz := 34) (by' := 64) (cs := entA ⟨1, key, data⟩ (.slice da dn dc2)) (by kernel_rfl) hS (by rfl) rfl k2 (Nat.le_of_ble_eq_true (by rfl)) ?_; intro bN wN hN)
          | ((with_reducible apply at_append); refine ⟨?_⟩; refine wl_app 107 34 64 (by kernel_rfl) hN (by rfl) (by rfl) pkD pkD k7 (Nat.le_refl 1) (entA_one _ _ _ _) hlen k6 (by decide) rfl ?_; intro bA nA cA w6 hA))
        go_roundg (gs.length - (i + 1))
        case measure => have := Hlt.out; omega
        case rel =>
          refine ⟨i + 1, qs ++ [(⟨1, key, data⟩, .slice da dn dc2)], rfl, Nat.succ_le_of_lt Hlt.out, by first | rfl | go_num, ⟨fun q hq => ?_, by rw [List.length_append]; have := Hql.out; simp only [List.length_cons, List.length_nil]; omega⟩, ?_⟩
          · rcases List.mem_append.1 hq with hq | hq
            · exact Hqs.out q hq
            · rw [List.mem_singleton.1 hq]; exact ⟨Hmem.out, .inr rfl⟩
          · rw [entsL_app, entsL_one]; exact hA.sb
      · clear k4
        go_wp2_with fail
        go_roundg (gs.length - (i + 1))
        case measure => have := Hlt.out; omega
        case rel => exact ⟨i + 1, qs, rfl, Nat.succ_le_of_lt Hlt.out, by first | rfl | go_num, ⟨Hqs.out, Nat.le_succ_of_le Hql.out⟩, hS⟩
    · have hie : i = gs.length := by omega
      subst hie
      have c1 : ¬ (gs.length : Int) < (gs.length : Int) := by omega
      clear hlt hi
      go_wp2_with fail
      have hsg := lsegs_c HL.out (hS.sb : Sat w0 _ (LogRep p m L :: MedRep m M :: osl 107 34 u11 (entsL qs) :: stPt ps (Rep.lastOfL (L.segs.take c)) pi uv (.slice ta 0 tc) :: TabML pi (Tab.mapOf (Rep.puts kv)) kv.length :: osl 115 3 uv (((Rep.usesOf (lbt L M) (L.segs.take c)).map (Rep.upd kv)).flatMap uenc) :: osl 107 34 (.slice u1 gs.length uc) (entsL gs) :: dataS gs :: F))
      refine hsg.mono ?_
      rintro ee w10 ⟨v, rfl, h10⟩
      clear hsg hS
      obtain ⟨sa, sn, sc, rfl, hsl, _⟩ := id (Sat.rd h10)
      obtain rfl : sn = L.segs.length := by
        rw [show (ints L.segs).length = L.segs.length from List.length_map ..] at hsl; omega
      clear hsl
      have h11 : Sat w0 w10 (LogRep p m L :: MedRep m M :: osl 107 34 u11 (entsL qs) :: stPt ps (Rep.lastOfL (L.segs.take c)) pi uv (.slice ta 0 tc) :: TabML pi (Tab.mapOf (Rep.puts kv)) kv.length :: osl 115 3 uv (((Rep.usesOf (lbt L M) (L.segs.take c)).map (Rep.upd kv)).flatMap uenc) :: osl 107 34 (.slice u1 gs.length uc) (entsL gs) :: dataS gs :: F) := h10.sb
      clear h10
      have hge := dataS_ent Hgk.out (h11.sb : Sat w0 _ (dataS gs :: F))
      have hmo := more15_c (lv := u11) qs HP.out (by have := Hdl.out; have := Hgl.out; have := Hql.out; omega) (Ro.of_pick (fun w hw => Sat.rd hw) pick0)
        (fun q hq => ⟨(hge q (Hqs.out q hq).1).key, Ro.of_sub (hge q (Hqs.out q hq).1).rd sbD, (hge q (Hqs.out q hq).1).cap⟩) (fun q hq => Nat.le_trans (Hgd.out q (Hqs.out q hq).1) (by decide)) (Ro.os HH.out) h11
      clear h11 hge
      obtain ⟨C2, hP2, hb2⟩ := Seg.Pl.base (C0 := C) (qs.map (·.1)) L M C HP.out (by rw [Hon.out]; exact Seg.Base.start C) (fun d hd => by
        obtain ⟨q, hq, rfl⟩ := List.mem_map.1 hd
        exact ⟨Hgk.out q (Hqs.out q hq).1, Nat.le_trans (Hgd.out q (Hqs.out q hq).1) (by decide)⟩) (by rw [List.length_map]; have := Hdl.out; have := Hgl.out; have := Hql.out; omega)
      have Hps := Lib.hid (show ∀ d ∈ qs.map (·.1), Seg.isPut d from fun d hd => by
        obtain ⟨q, hq, rfl⟩ := List.mem_map.1 hd
        exact (Hqs.out q hq).2)
      have Hdl2 := Lib.hid (show (ds ++ [dc] ++ qs.map (·.1)).length ≤ 51 by rw [List.length_append, List.length_map]; have := Hdl.out; have := Hgl.out; have := Hql.out; omega)
      generalize qs.map (·.1) = pds at *
      generalize Seg.Log.playL pds L M = r2 at *
      obtain ⟨L2, M2⟩ := r2
      dsimp only at hmo hP2 hb2
      obtain ⟨c2, hrun2, hc2, hc23, hc24⟩ := hP2.holds.run
      have HS := Lib.hid (HP.out.open Hcd.out hP2 hb2.pre Hps.out Hc.out Hc4.out hc2 hc23 hc24)
      have HP2 := Lib.hid hP2
      have Hrun2 := Lib.hid hrun2
      have HL2 := Lib.hid hP2.holds.keeps.log; have HM2 := Lib.hid hP2.holds.keeps.calm.ok
      clear hP2 hb2 hrun2 hc2 hc23 hc24 Hps
      have hrl : (Rep.rowsOf (lbt L2 M2) L2.segs).length ≤ 51 := by
        have := HP2.out.rows_len L2.segs.length
        rw [List.take_length] at this
        exact Nat.le_trans this (by exact Hdl2.out)
      have hrz : ∀ r ∈ Rep.rowsOf (lbt L2 M2) L2.segs, (r.2.size : Int) ≤ 4294967296 := fun r hr => by
        have e := HP2.out.holds.rows L2.segs.length
        rw [List.take_length, HP2.out.holds.segs.1, List.take_length] at e
        have := HP2.out.rows_size (r := r) (by rw [← e]; exact hr)
        omega
      go_wp2_with fail
      refine hmo.mono ?_
      rintro ee w12 ⟨v, rfl, rfl, h12⟩
      clear hmo
      have hrn2 := run_c HL2.out HM2.out (Ro.os HH.out) (Nat.le_trans hrl (by decide)) hrz h12
      clear h12 hrl hrz
      go_wp2_with fail
      refine hrn2.mono ?_
      rintro ee w13 ⟨v, rfl, ho⟩
      clear hrn2
      unfold RunOut at ho
      rw [show Rep.run (lbt L2 M2) L2.segs = .inr c2 from Hrun2.out] at ho
      obtain ⟨ps2, pi2, uv2, tv2, ov2, kv2, rfl, ⟨k21, _, _⟩, ⟨⟨ta2, tc2, rfl⟩, _⟩, h13⟩ := ho
      have s1 : Rep.rowsOf (lbt L2 M2) (L2.segs.take c2) = Rep.rowsOf (lbt L M) (L.segs.take c) := HS.out.rows
      have s2 : Rep.usesOf (lbt L2 M2) (L2.segs.take c2) = Rep.usesOf (lbt L M) (L.segs.take c) := HS.out.uses
      rw [s1] at k21
      have ekv : kv2 = kv := k21.unique HK1.out
      rw [ekv, s2, HS.out.segs, HS.out.two] at h13
      clear k21 s1 s2 ekv Hrun2
      have h14 : Sat w0 w13 (stPt ps2 (Rep.lastOfL (L.segs.take c)) pi2 uv2 (.slice ta2 (L2.segs.length - L.segs.length) tc2) :: TabML pi2 (Tab.mapOf (Rep.puts kv)) kv.length :: osl 115 3 uv2 (((Rep.usesOf (lbt L M) (L.segs.take c)).map (Rep.upd kv)).flatMap uenc) :: stPt ps (Rep.lastOfL (L.segs.take c)) pi uv (.slice ta 0 tc) :: TabML pi (Tab.mapOf (Rep.puts kv)) kv.length :: osl 115 3 uv (((Rep.usesOf (lbt L M) (L.segs.take c)).map (Rep.upd kv)).flatMap uenc) :: LogRep p m L2 :: MedRep m M2 :: F) := h13.sb
      clear h13
      have Hlists := Lib.hid (Tab.mapOf_lists (Rep.puts_rise HK1.out.rise))
      have Hul := Lib.hid (show ((Rep.usesOf (lbt L M) (L.segs.take c)).map (Rep.upd kv)).length ≤ 1073741824 by
        rw [List.length_map]; unfold Rep.usesOf; rw [List.length_map, List.length_take]
        have := HP.out.holds.segs.1; have := HP.out.holds.count; have := Hdl.out; omega)
      have hs1 : L.segs.length ≤ 100 := by have := HP.out.holds.segs.1; have := HP.out.holds.count; have := Hdl.out; omega
      have hs2 : L2.segs.length ≤ 1073741824 := by unfold Seg.Log.segs; rw [List.length_map]; have := HL2.out.len; omega
      have hs3 := HS.out.le
      have hw9 : IntKind.i64.wrap ((L2.segs.length : Int) - (L.segs.length : Int)) = ((L2.segs.length - L.segs.length : Nat) : Int) := by
        rw [IntWalk.i64_in _ (by omega)]; omega
      have hbs : (((L2.segs.length - L.segs.length : Nat) : Int) == ((L2.segs.length - L.segs.length : Nat) : Int)) = true := beq_self_eq_true _
      clear hs1 hs2 hs3 HK1 HP HP2 Hc Hc3 Hc4 HS
      generalize (Rep.usesOf (lbt L M) (L.segs.take c)).map (Rep.upd kv) = us at *
      generalize Rep.lastOfL (L.segs.take c) = last at *
      generalize kv.length = B at *
      generalize Rep.puts kv = ql at *
      generalize Tab.mapOf ql = mq at *
      generalize L.segs.length = n1 at *
      go_wp2_with (with_reducible apply at_alloc)
      refine ⟨?_⟩
      refine wl_alloc zFlt h14 rfl ?_
      intro b15 w14 h15
      clear h14
      go_wp2_with (first | ((with_reducible apply at_store); refine ⟨?_⟩; refine wl_storeA (fltA Rep.Flt.zero) h15 (by rfl) (by rfl) (by rfl) upd0 (by kernel_rfl) (by rfl) ?_; intro w15 h16) | (with_reducible apply at_loadG))
      have hS : Sat w0 w15 (stPt ps last pi uv (.slice ta 0 tc) :: stPt ps2 last pi2 uv2 (.slice ta2 (L2.segs.length - n1) tc2) :: TabML pi mq B :: TabML pi2 mq B :: osl 115 3 uv (us.flatMap uenc) :: osl 115 3 uv2 (us.flatMap uenc) :: LogRep p m L2 :: MedRep m M2 :: F) := h16.sb
      clear h15 h16
      have hbl : (last == last) = true := beq_self_eq_true _
      refine ⟨?_⟩
      refine wl_loadG1 (v := .slice ta 0 tc) (by rfl) hS (by rfl) pick0 (show 3 + 1 ≤ 4 by decide) (by rfl) (by kernel_rfl) ?_
      go_wp2_with fail
      have hSd := hS.drew
      clear hS
      refine wpL_begin [] (fun w' => w'.cell? ⟨ps, 0, none⟩ = some (.int .i64 last) ∧ w'.cell? ⟨ps2, 0, none⟩ = some (.int .i64 last) ∧ (w'.cell? ⟨ps, 1, none⟩ = some (ptr pi) ∧ w'.cell? ⟨ps2, 1, none⟩ = some (ptr pi2)) ∧ (w'.cell? ⟨ps, 2, none⟩ = some uv ∧ w'.cell? ⟨ps2, 2, none⟩ = some uv2) ∧ w'.cell? ⟨ps2, 3, none⟩ = some (.slice ta2 (L2.segs.length - n1) tc2)) (by kernel_rfl) ?_
      have HG := Lib.hid (fun (w' : World) (R' : List HProp) (hw : Sat w0 w' (stPt ps last pi uv (.slice ta 0 tc) :: stPt ps2 last pi2 uv2 (.slice ta2 (L2.segs.length - n1) tc2) :: R')) => show w'.cell? ⟨ps, 0, none⟩ = some (.int .i64 last) ∧ w'.cell? ⟨ps2, 0, none⟩ = some (.int .i64 last) ∧ (w'.cell? ⟨ps, 1, none⟩ = some (ptr pi) ∧ w'.cell? ⟨ps2, 1, none⟩ = some (ptr pi2)) ∧ (w'.cell? ⟨ps, 2, none⟩ = some uv ∧ w'.cell? ⟨ps2, 2, none⟩ = some uv2) ∧ w'.cell? ⟨ps2, 3, none⟩ = some (.slice ta2 (L2.segs.length - n1) tc2) from
        ⟨hw.cellP pick0 0 rfl, hw.cellP pick1 0 rfl, ⟨hw.cellP pick0 1 rfl, hw.cellP pick1 1 rfl⟩, ⟨hw.cellP pick0 2 rfl, hw.cellP pick1 2 rfl⟩, hw.cellP pick1 3 rfl⟩)
      have hG := HG.out _ _ hSd
      refine rp 0 (hy := (yl_move evD)) (h := ?_)
      refine rp 1 (hy := (yl_nil evD)) (h := ?_)
      refine rp 2 (hy := (yl_field evD rnD)) (h := ?_)
      refine rt 3 (h := ?_)
      refine rp 4 (hy := (yl_move evD)) (h := ?_)
      refine rp 5 (hy := (yl_nil evD)) (h := ?_)
      refine rp 6 (hy := (yl_field evD rnD)) (h := ?_)
      refine rt 7 (h := ?_)
      refine rp 8 (hy := (yl_bin evD evD rnD)) (h := ?_)
      refine rp 9 (hy := (yl_move evD)) (h := ?_)
      refine rp 10 (hy := (yg_move (by rfl) evD)) (h := ?_)
      refine rp 11 (hy := (yg_nil (by rfl) evD)) (h := ?_)
      refine rp 12 (hy := (yg_field (by rfl) evD rnD)) (h := ?_)
      refine rg_take 13 evD (by kernel_rfl) (by intro _ _ _ h; exact h) (tg_load (by rfl) evD (by kernel_rfl) (fun w hw => hw.2.2.1.1)) (by assumption) (by go_frame; first | done | rfl) ?_
      refine rp 15 (hy := (yg_move (by rfl) evD)) (h := ?_)
      refine rp 16 (hy := (yg_nil (by rfl) evD)) (h := ?_)
      refine rp 17 (hy := (yg_field (by rfl) evD rnD)) (h := ?_)
      refine rg_take 18 evD (by kernel_rfl) (by intro _ _ _ h; exact h) (tg_load (by rfl) evD (by kernel_rfl) (fun w hw => hw.2.2.1.2)) (by assumption) (by go_frame; first | done | rfl) ?_
      clear hG
      have HX := Lib.hid (fun w' hw => HG.out w' (TabML pi mq B :: TabML pi2 mq B :: osl 115 3 uv (us.flatMap uenc) :: osl 115 3 uv2 (us.flatMap uenc) :: LogRep p m L2 :: MedRep m M2 :: F) hw)
      refine rg_eff 14 evD (by kernel_rfl) (fun K hK => ?_)
      refine eg_call [ptr pi] (by rfl) (by kernel_rfl) (by rfl) ?_
      refine (rows_c (Nat.le_trans Hkb.out (by decide)) (hSd.sb : Sat w0 _ (TabML pi mq B :: stPt ps last pi uv (.slice ta 0 tc) :: stPt ps2 last pi2 uv2 (.slice ta2 (L2.segs.length - n1) tc2) :: TabML pi2 mq B :: osl 115 3 uv (us.flatMap uenc) :: osl 115 3 uv2 (us.flatMap uenc) :: LogRep p m L2 :: MedRep m M2 :: F))).mono ?_
      rintro ee w20 ⟨va, rfl, kva, ⟨q1, q2, q3⟩, h20⟩
      rw [q1.unique Hlists.out] at h20 q2 q3
      have Hq2 := Lib.hid q2
      have Hq3 := Lib.hid (show ql.length ≤ 1073741824 from Nat.le_trans q3 (Nat.le_trans Hkb.out (by decide)))
      refine hK _ _ (.inr (.inl (HX.out _ (h20.sb)))) ?_
      clear hK hSd q1 q2 q3
      refine rg_eff 19 evD (by kernel_rfl) (fun K hK => ?_)
      refine eg_call [ptr pi2] (by rfl) (by kernel_rfl) (by rfl) ?_
      refine (rows_c (Nat.le_trans Hkb.out (by decide)) (h20.sb : Sat w0 _ (TabML pi2 mq B :: osl 117 35 va (ql.flatMap kvL) :: stPt ps last pi uv (.slice ta 0 tc) :: stPt ps2 last pi2 uv2 (.slice ta2 (L2.segs.length - n1) tc2) :: TabML pi mq B :: osl 115 3 uv (us.flatMap uenc) :: osl 115 3 uv2 (us.flatMap uenc) :: LogRep p m L2 :: MedRep m M2 :: F))).mono ?_
      rintro ee w21 ⟨vb, rfl, kvb, ⟨q1, _, _⟩, h21⟩
      rw [q1.unique Hlists.out] at h21
      refine hK _ _ (.inr (.inl (HX.out _ (h21.sb)))) ?_
      clear hK h20 q1
      refine rg_eff 20 evD (by kernel_rfl) (fun K hK => ?_)
      refine eg_call [va, vb] (by rfl) (by kernel_rfl) (by rfl) ?_
      refine (sameIndex_c ql Hq2.out (Ro.of_pick (A := osl 117 35 va (ql.flatMap kvL)) (fun w hw => Sat.rd hw) pkD) (Ro.of_pick (A := osl 117 35 vb (ql.flatMap kvL)) (fun w hw => Sat.rd hw) pkD) h21 Hq3.out).mono ?_
      rintro ee w22 ⟨v, rfl, rfl, h22⟩
      have hSd : Sat w0 w22 (stPt ps last pi uv (.slice ta 0 tc) :: stPt ps2 last pi2 uv2 (.slice ta2 (L2.segs.length - n1) tc2) :: TabML pi mq B :: TabML pi2 mq B :: osl 115 3 uv (us.flatMap uenc) :: osl 115 3 uv2 (us.flatMap uenc) :: LogRep p m L2 :: MedRep m M2 :: F) := h22.sb
      have hG := HG.out _ _ hSd
      refine hK _ _ (.inr (.inl hG)) ?_
      clear hK h21 h22
      refine rp 21 (hy := (yg_pick (by rfl) evD evD)) (h := ?_)
      refine rp 22 (hy := (yl_move evD)) (h := ?_)
      refine rp 23 (hy := (yg_move (by rfl) evD)) (h := ?_)
      refine rp 24 (hy := (yg_nil (by rfl) evD)) (h := ?_)
      refine rp 25 (hy := (yg_field (by rfl) evD rnD)) (h := ?_)
      refine rg_take 26 evD (by kernel_rfl) (by intro _ _ _ h; exact h) (tg_load (by rfl) evD (by kernel_rfl) (fun w hw => hw.2.2.2.1.1)) (by assumption) (by go_frame; first | done | rfl) ?_
      refine rp 27 (hy := (yg_move (by rfl) evD)) (h := ?_)
      refine rp 28 (hy := (yg_nil (by rfl) evD)) (h := ?_)
      refine rp 29 (hy := (yg_field (by rfl) evD rnD)) (h := ?_)
      refine rg_take 30 evD (by kernel_rfl) (by intro _ _ _ h; exact h) (tg_load (by rfl) evD (by kernel_rfl) (fun w hw => hw.2.2.2.1.2)) (by assumption) (by go_frame; first | done | rfl) ?_
      clear hG
      refine rg_eff 31 evD (by kernel_rfl) (fun K hK => ?_)
      refine eg_call [uv, uv2] (by rfl) (by kernel_rfl) (by rfl) ?_
      refine (sameUses_c us (Ro.of_pick (A := osl 115 3 uv (us.flatMap uenc)) (fun w hw => Sat.rd hw) pkD) (Ro.of_pick (A := osl 115 3 uv2 (us.flatMap uenc)) (fun w hw => Sat.rd hw) pkD) hSd Hul.out).mono ?_
      rintro ee w23 ⟨v, rfl, rfl, h23⟩
      have hG := HG.out _ _ h23
      refine hK _ _ (.inr (.inl hG)) ?_
      clear hK hSd
      refine rp 32 (hy := (yg_pick (by rfl) evD evD)) (h := ?_)
      refine rp 33 (hy := (yl_move evD)) (h := ?_)
      refine rp 34 (hy := (yg_move (by rfl) evD)) (h := ?_)
      refine rp 35 (hy := (yg_nil (by rfl) evD)) (h := ?_)
      refine rp 36 (hy := (yg_field (by rfl) evD rnD)) (h := ?_)
      refine rg_take 37 evD (by kernel_rfl) (by intro _ _ _ h; exact h) (tg_load (by rfl) evD (by kernel_rfl) (fun w hw => hw.2.2.2.2)) (by assumption) (by go_frame; first | done | rfl) ?_
      clear hG
      refine rp 38 (hy := (yg_len (by rfl) evD rnD)) (h := ?_)
      refine rp 39 (hy := (yg_move (by rfl) evD)) (h := ?_)
      refine rp 42 (hy := (yg_move (by rfl) evD)) (h := ?_)
      refine rg_eff 40 evD (by kernel_rfl) (fun K hK => ?_)
      refine eg_call [ptr p] (by rfl) (by kernel_rfl) (by rfl) ?_
      refine (lsegs_c HL2.out (h23.sb : Sat w0 _ (LogRep p m L2 :: stPt ps last pi uv (.slice ta 0 tc) :: stPt ps2 last pi2 uv2 (.slice ta2 (L2.segs.length - n1) tc2) :: F))).mono ?_
      rintro ee w24 ⟨v, rfl, h24⟩
      obtain ⟨sa2, sn2, sc2, rfl, hsl, _⟩ := id (Sat.rd h24)
      obtain rfl : sn2 = L2.segs.length := by
        rw [show (ints L2.segs).length = L2.segs.length from List.length_map ..] at hsl; omega
      refine hK _ _ (.inr (.inl (HG.out _ F (h24.sb)))) ?_
      clear hK h23 hsl
      refine rp 41 (hy := (yg_len (by rfl) evD rnD)) (h := ?_)
      refine rp 43 (hy := (yg_bin (by rfl) evD evD rnD)) (h := ?_)
      refine rp 44 (hy := (yg_bin (by rfl) evD evD rnD)) (h := ?_)
      refine rp 45 (hy := (yg_pick (by rfl) evD evD)) (h := ?_)
      refine rp 46 (hy := (yl_move evD)) (h := ?_)
      refine rg_eff 47 evD (by kernel_rfl) (fun K hK => ?_)
      refine eg_call [] (by rfl) (by kernel_rfl) (by rfl) ?_
      refine (lives15_c (Ro.os HH.out) h24).mono ?_
      rintro ee w25 ⟨v, rfl, rfl, h25⟩
      refine hK _ _ (.inr (.inl (HG.out _ F (h25.sb)))) ?_
      clear hK h24
      refine rp 48 (hy := (yg_pick (by rfl) evD evD)) (h := ?_)
      refine rp 49 (hy := (yl_assign evD)) (h := ?_)
      refine wpL_done (by kernel_rfl) ?_
      try simp only [List.getElem_toArray, List.getElem_cons_succ, List.getElem_cons_zero]
      try go_frame
      go_wp2_with fail
      go_ret
      exact ⟨_, rfl, rfl, h25.sb⟩
end
end Go.Proofs.YtmjldaedhmipkaaGreatDoor
namespace Go.Proofs.YtmjldaedhmipkaaGreatDoor
open Go Go.Sl Go.Med Go.ChangeShapes Go.WideShapes Go.RowKit
section
variable {H : Type} {enc : TypeId × Value → H} {W : World} {base : Nat} {spare : Nat → Bool} {held : Bool}
set_option maxRecDepth 100000 in
theorem open_do15 {fuel : Nat} {cs : List Value} {x : DataW H × List MemPlace} (h : DataW.trod enc Tryz.prog W base spare held fuel 107 cs = some x) : ∃ p : Frm.Ent × Value, entL p.1 p.2 = cs ∧ EntAt W p := by
  obtain ⟨hl, hf⟩ := open_fields Tryz.underlying107 h
  have e34 : Tryz.prog.cellsOf 107 = 34 := by kernel_rfl
  have e1 : Tryz.prog.cellsOf 3 = 1 := by kernel_rfl
  have e2 : Tryz.prog.cellsOf 41 = 32 := by kernel_rfl
  have e3 : Tryz.prog.cellsOf 42 = 1 := by kernel_rfl
  have e5 : Tryz.prog.cellsOf 5 = 1 := by kernel_rfl
  rw [e34] at hl
  obtain ⟨n0, y0, h0⟩ := hf 0 _ rfl
  obtain ⟨n1, y1, h1⟩ := hf 1 _ rfl
  obtain ⟨n2, y2, h2⟩ := hf 2 _ rfl
  simp only [List.getElem_toArray, List.getElem_cons_zero, List.getElem_cons_succ, e1, e2, e3, List.drop_zero] at h0 h1 h2
  obtain ⟨z0, q0, _, w0⟩ := DataW.trod_int Tryz.underlying3 h0
  obtain ⟨kl, k1, k2⟩ := open_key Tryz.underlying41 e2 h1
  have hd : ∃ v, (cs.drop 33).take 1 = [v] := by
    have : ((cs.drop 33).take 1).length = 1 := by rw [List.length_take, List.length_drop]; omega
    exact List.length_eq_one_iff.1 this
  obtain ⟨dv, hdv⟩ := hd
  rw [hdv] at h2
  obtain ⟨l5, r5, c5⟩ := in_bys Tryz.underlying42 Tryz.underlying5 e5 h2
  refine ⟨(⟨z0, kl, l5⟩, dv), ?_, k2, bounds_i64 w0, r5, c5⟩
  show Value.int .i64 z0 :: (bys kl ++ [dv]) = cs
  have s1 : cs = cs.take 1 ++ ((cs.drop 1).take 32 ++ (cs.drop 33).take 1) := by
    have a1 : cs = cs.take 1 ++ cs.drop 1 := (List.take_append_drop 1 cs).symm
    have a2 : cs.drop 1 = (cs.drop 1).take 32 ++ (cs.drop 1).drop 32 := (List.take_append_drop 32 _).symm
    have a3 : (cs.drop 1).drop 32 = (cs.drop 33).take 1 := by rw [List.drop_drop, List.take_of_length_le (by rw [List.length_drop]; omega)]
    rw [a3] at a2
    rw [← a2]; exact a1
  rw [s1, q0, ← k1, hdv]; rfl
theorem in_dos15 {fuel : Nat} {v : Value} {x : DataW H × List MemPlace} (h : DataW.trod enc Tryz.prog W base spare held fuel 103 [v] = some x) :
    ∃ es : List (Frm.Ent × Value), rdsl 34 v (entsL es) W ∧ capOk v ∧ ∀ p ∈ es, EntAt W p := by
  obtain ⟨elems, h1, h2, h3⟩ := open_sl Tryz.underlying103 (k := 34) (by kernel_rfl) (by omega) h
  obtain ⟨ds, h4, h5⟩ := map_of (f := fun p : Frm.Ent × Value => entL p.1 p.2) (p := fun d => EntAt W d) elems fun cs hcs => by
    obtain ⟨_, n, y, h6⟩ := h3 cs hcs
    exact open_do15 h6
  refine ⟨ds, ?_, h2, h5⟩
  unfold entsL
  rw [List.flatMap_def, h4]
  exact h1
end
end Go.Proofs.YtmjldaedhmipkaaGreatDoor
namespace Go.Proofs.YtmjldaedhmipkaaGreatDoor.card
open Go.ChangeShapes Go.WideShapes Go.ChangeAt Go.RowKit
open Go Go.Sl Go.Med
theorem gHalf : Tryz.prog.globalNamed "hoard/crc.half" = some 0 := by kernel_rfl
theorem tHalf : ((Tryz.prog.globals[0]?).map (·.type)) = some 284 := by kernel_rfl
theorem door_met (os : Os) (args : Array Value) : laidMetH Tryz.prog [("hoard/crc.half", Rows.laid_hoard_crc_half)] ((World.doorLaid Tryz.prog 400 os).forCall (fun _ _ => 0) ⟨#[], args, []⟩).memory :=
  laidMetH_of_parts3 (fuel := 8) (laidMet_of_run' 8 (by kernel_rfl) (by kernel_rfl)) (by kernel_rfl) (by kernel_rfl)
theorem of_laid {W : World} (h : laidMetH Tryz.prog [("hoard/crc.half", Rows.laid_hoard_crc_half)] W) : 0 < W.heap.size ∧ Half W := by
  rw [MakeChecks.laidMetH_plain _ _ _ (by kernel_rfl)] at h
  obtain ⟨ps, ⟨g0, t0, cs0, f0, p0, q0, hg0, ht0, hv0, hd0, hrest⟩, hrest2⟩ := h
  obtain rfl := Option.some.inj (gHalf.symm.trans hg0)
  obtain rfl := Option.some.inj (tHalf.symm.trans ht0)
  obtain ⟨xs, m1, rfl, hx1, hlen, hn3, hel⟩ := DataW.trod_array Tryz.underlying284 hd0
  have c3 : Tryz.prog.cellsOf 233 = 1 := by kernel_rfl
  simp only [Prod.mk.injEq, Rows.laid_hoard_crc_half, DataW.agg.injEq] at hx1
  have hH : Half W := by
    intro i hi
    have h0 := hel i hi
    have hxi : xs[i]? = some (xs[i]'(by omega)) := List.getElem?_eq_getElem (by omega)
    rw [hxi] at h0
    obtain ⟨k, e1, e2, _⟩ := DataW.trod_int Tryz.underlying233 h0
    rw [c3, Nat.mul_one] at e1
    have hc : cs0.toList[i]? = some (.int .u32 k) := by
      have : ((cs0.toList.drop i).take 1)[0]? = some (.int .u32 k) := by rw [e1]; rfl
      rw [List.getElem?_take, if_pos (by decide), List.getElem?_drop] at this
      exact this
    have hL := congrArg (fun l => l[i]?) hx1.1
    rw [List.getElem?_map, hxi] at hL
    have hk : k = ((Frm.half.getD i 0 : Nat) : Int) := by
      rw [e2] at hL
      rcases i with _ | _ | _ | _ | _ | _ | _ | _ | _ | _ | _ | _ | _ | _ | _ | _ | i
      all_goals first | omega | (simp at hL; rw [← hL]; rfl)
    subst hk
    have := World.var?_cell hg0 hv0 i
    rw [this, ← Array.getElem?_toList]
    exact hc
  refine ⟨?_, hH⟩
  by_cases hz : 0 < W.heap.size
  · exact hz
  · have h0 := hH 0 (by decide)
    have e : W.heap[0]? = none := Array.getElem?_eq_none (by omega)
    simp [World.cell?, e] at h0
end Go.Proofs.YtmjldaedhmipkaaGreatDoor.card
