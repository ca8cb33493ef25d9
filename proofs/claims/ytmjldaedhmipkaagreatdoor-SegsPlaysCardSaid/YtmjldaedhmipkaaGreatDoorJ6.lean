import Derived.Test.YtmjldaedhmipkaaGreatDoorJ5
set_option linter.unusedVariables false
/- hoardref07.Encode, of any entry. -/
namespace Go.Proofs.YtmjldaedhmipkaaGreatDoor
open Go Go.Sl Go.Med Go.MapKept Go.RowKit
set_option linter.unusedVariables false
section
variable {w0 w : World} {F R : List HProp} {bE : Nat} {e : Frm.Ent} {dv : Value}
set_option maxRecDepth 20000 in
set_option maxHeartbeats 4000000 in
theorem rencode_c (e : Frm.Ent) (hk : e.key.length = 32) (da : Option Addr) (dc : Nat) (hd : Ro w0 F (rdsl 1 (.slice da e.data.length dc) (bys e.data)))  (h : Sat w0 w F) :
    Calls Tryz.prog 72 #[.agg (entA e (.slice da e.data.length dc))] w (Rtn fun v w' => ∃ bv, v = .tuple #[bv, errno (Frm.encode e).2] ∧ (∃ a n c, bv = .slice a n c) ∧ Sat w0 w' (bsl bv (Frm.encode e).1 :: F)) := by
  have hbad : ∀ n, Frm.check e = n → n ≠ 0 → Frm.encode e = ([], n) := fun n hn h0 => by unfold Frm.encode; rw [hn, if_pos h0]
  have Hbad := Lib.hid hbad
  clear hbad
  by_cases t2 : e.tag = 2
  · by_cases h0 : 0 < e.data.length
    · have Hf := Lib.hid (Hbad.out 4 (by unfold Frm.check; simp [t2, h0]) (by decide))
      have h0i : (0 : Int) < (e.data.length : Int) := by omega
      have Hk := Lib.hid hk
      clear hd hk
      go_enter Tryz.func72, Tryz.ntmps72
      go_wp2_with (first | ((with_reducible apply at_boxE); refine ⟨?_⟩; refine wl_boxE (by assumption) (by rfl) ?_; intro bX wX hX) | (with_reducible apply at_load))
      refine ⟨?_⟩
      have f0 := ent_at0 hX
      have f33 := ent_at33 Hk.out hX
      have fk := ent_atk Hk.out hX
      have Fk := Lib.hid fk
      clear h fk
      rw [t2] at f0
      go_wp2
      go_ret2
      exact ⟨_, rfl, .slice none 0 0, by rw [Hf.out]; rfl, ⟨_, _, _, rfl⟩, by rw [Hf.out]; exact Sat.osl_nil.2 hX.drop⟩
    · have h0e : e.data.length = 0 := by omega
      by_cases hz : e.key = Frm.zero32
      · exact rencode2_c e hk da dc hd t2 hz h0e h
      · have hzd : decide (e.key = Frm.zero32) = false := decide_eq_false hz
        have h0i : decide (0 < e.data.length) = false := decide_eq_false h0
        have Hf := Lib.hid (Hbad.out 4 (by unfold Frm.check; simp [t2, hz]) (by decide))
        have hnk := eqIn_zero e.key hk
        have Hks := Lib.hid (show (bys e.key).length = 32 by rw [bys_len, hk])
        have Hk := Lib.hid hk
        clear hz h0e hd hk
        go_enter Tryz.func72, Tryz.ntmps72
        go_wp2_with (first | ((with_reducible apply at_boxE); refine ⟨?_⟩; refine wl_boxE (by assumption) (by rfl) ?_; intro bX wX hX) | (with_reducible apply at_load))
        refine ⟨?_⟩
        have f0 := ent_at0 hX
        have f33 := ent_at33 Hk.out hX
        have fk := ent_atk Hk.out hX
        have Fk := Lib.hid fk
        clear h fk
        rw [t2] at f0
        go_wp2_with ((with_reducible apply at_loadH); refine ⟨?_⟩; refine wl_loadG (b := bX) (o := 1) (bys e.key) (by rfl) (by rfl) Fk.out Tryz.underlying41 rfl (by rw [Hks.out]; kernel_rfl) ?_)
        go_ret2
        exact ⟨_, rfl, .slice none 0 0, by rw [Hf.out]; rfl, ⟨_, _, _, rfl⟩, by rw [Hf.out]; exact Sat.osl_nil.2 hX.drop⟩
  · have t2b : (e.tag == 2) = false := by simpa using t2
    have Hk := Lib.hid hk
    by_cases t0 : e.tag = 0
    · by_cases hb : 16384 < e.data.length
      · have Hf := Lib.hid (Hbad.out 5 (by unfold Frm.check; simp [t0, hb]) (by decide))
        have hbi : (16384 : Int) < (e.data.length : Int) := by omega
        clear hb t2 t2b hd hk
        go_enter Tryz.func72, Tryz.ntmps72
        go_wp2_with (first | ((with_reducible apply at_boxE); refine ⟨?_⟩; refine wl_boxE (by assumption) (by rfl) ?_; intro bX wX hX) | (with_reducible apply at_load))
        refine ⟨?_⟩
        have f0 := ent_at0 hX
        have f33 := ent_at33 Hk.out hX
        have fk := ent_atk Hk.out hX
        have Fk := Lib.hid fk
        clear h fk
        rw [t0] at f0
        clear t0
        go_wp2
        go_ret2
        exact ⟨_, rfl, .slice none 0 0, by rw [Hf.out]; rfl, ⟨_, _, _, rfl⟩, by rw [Hf.out]; exact Sat.osl_nil.2 hX.drop⟩
      · exact rencode0_c e hk da dc hd t0 hb h
    · by_cases t1 : e.tag = 1
      · by_cases h0 : 0 < e.data.length
        · have Hf := Lib.hid (Hbad.out 4 (by unfold Frm.check; simp [t1, h0]) (by decide))
          have h0i : (0 : Int) < (e.data.length : Int) := by omega
          clear t2 t2b t0 hd hk
          go_enter Tryz.func72, Tryz.ntmps72
          go_wp2_with (first | ((with_reducible apply at_boxE); refine ⟨?_⟩; refine wl_boxE (by assumption) (by rfl) ?_; intro bX wX hX) | (with_reducible apply at_load))
          refine ⟨?_⟩
          have f0 := ent_at0 hX
          have f33 := ent_at33 Hk.out hX
          have fk := ent_atk Hk.out hX
          have Fk := Lib.hid fk
          clear h fk
          rw [t1] at f0
          clear t1
          go_wp2
          go_ret2
          exact ⟨_, rfl, .slice none 0 0, by rw [Hf.out]; rfl, ⟨_, _, _, rfl⟩, by rw [Hf.out]; exact Sat.osl_nil.2 hX.drop⟩
        · exact rencode1_c e hk da dc hd t1 (by omega) h
      · have Hf := Lib.hid (Hbad.out 4 (by unfold Frm.check; simp [t0, t1, t2]) (by decide))
        by_cases hneg : e.tag < 0
        · have g1 : decide (e.tag < 0) = true := decide_eq_true hneg
          clear t0 t1 t2 t2b hd hk
          go_enter Tryz.func72, Tryz.ntmps72
          go_wp2_with (first | ((with_reducible apply at_boxE); refine ⟨?_⟩; refine wl_boxE (by assumption) (by rfl) ?_; intro bX wX hX) | (with_reducible apply at_load))
          refine ⟨?_⟩
          have f0 := ent_at0 hX
          have f33 := ent_at33 Hk.out hX
          have fk := ent_atk Hk.out hX
          have Fk := Lib.hid fk
          clear h fk
          generalize e.tag = T at *
          go_wp2
          go_ret2
          exact ⟨_, rfl, .slice none 0 0, by rw [Hf.out]; rfl, ⟨_, _, _, rfl⟩, by rw [Hf.out]; exact Sat.osl_nil.2 hX.drop⟩
        · have g1 : decide (e.tag < 0) = false := decide_eq_false hneg
          have g2 : decide (2 < e.tag) = true := decide_eq_true (by omega)
          have g2' : 2 < e.tag := by omega
          clear t0 t1 t2 t2b hd hk
          go_enter Tryz.func72, Tryz.ntmps72
          go_wp2_with (first | ((with_reducible apply at_boxE); refine ⟨?_⟩; refine wl_boxE (by assumption) (by rfl) ?_; intro bX wX hX) | (with_reducible apply at_load))
          refine ⟨?_⟩
          have f0 := ent_at0 hX
          have f33 := ent_at33 Hk.out hX
          have fk := ent_atk Hk.out hX
          have Fk := Lib.hid fk
          clear h fk
          generalize e.tag = T at *
          go_wp2
          go_ret2
          exact ⟨_, rfl, .slice none 0 0, by rw [Hf.out]; rfl, ⟨_, _, _, rfl⟩, by rw [Hf.out]; exact Sat.osl_nil.2 hX.drop⟩
end
end Go.Proofs.YtmjldaedhmipkaaGreatDoor
/- hoardref06: Byte, bytes put behind. -/
namespace Go.Proofs.YtmjldaedhmipkaaGreatDoor
open Go Go.Sl Go.Med Go.MapKept Go.RowKit
set_option linter.unusedVariables false
section
variable {w0 w : World} {F R : List HProp} {d : Nat} {D : Med} {fsv fv nv wv v lv bv : Value} {xs : List RF} {g : Bag} {K : Nat}
set_option maxRecDepth 20000 in
set_option maxHeartbeats 8000000 in
theorem rappend_c (s : ByteArray) (b : Bs) (hb : Ro w0 F (rdsl 1 bv (bys b))) (hbl : b.length ≤ 1048576) (ok : D.Ok K) (hK : K ≤ 1048576) (hus : D.used ≤ 1099511627776) (h : Sat w0 w (DskRep d D :: F)) :
    Calls Tryz.prog 73 #[ptr d, .string s, .agg #[.bool false, .int .i64 0, bv]] w (Rtn fun v w' => v = errno (D.append s b).2 ∧ Sat w0 w' (DskRep d (D.append s b).1 :: F)) := by
  have Ok := Lib.hid ok; have Hus := Lib.hid hus; have Hb := Lib.hid hb; have Hbl := Lib.hid hbl; have HK := Lib.hid hK
  have hl : D.now.length ≤ 1048576 := Nat.le_trans ok.nowOk.len (by decide)
  have Hl := Lib.hid hl
  obtain ⟨ba, bn, bc, rfl, hbn, _⟩ := id (hb _ h.drop)
  rw [bys_len, Nat.mul_one] at hbn
  subst hbn
  clear hb hbl hK hus ok hl
  go_enter Tryz.func73, Tryz.ntmps73
  go_wp2_with (first | ((with_reducible apply at_box); refine ⟨?_⟩; refine wl_box (by assumption) (by conv => lhs; whnf) (by conv => lhs; whnf) ?_; intro bB wB hB) | (with_reducible apply at_load))
  refine ⟨?_⟩
  have hO := hB.sub (sub_take pick1 (sub_take pick0 sub_refl))
  have hfd := rfind_c s Hl.out hO
  obtain ⟨fsv, fv, nv, wv, xs, g, hin, hR⟩ := DskRep.open hO
  have Hin := Lib.hid hin
  have e7 : World.cell? _ ⟨d, 7, none⟩ = some (.bool D.off) := hR.cellP pick0 7 rfl
  clear h hin hO
  cases ho : D.off with
  | true =>
    have Ha := Lib.hid (show D.append s b = (D, 12) by unfold Med.append; rw [ho]; rfl)
    rw [ho] at e7
    clear ho hfd
    go_wp2
    go_ret
    exact ⟨_, rfl, by rw [Ha.out]; rfl, by rw [Ha.out]; exact (DskRep.shut Hin.out hR).sub (sub_take pick0 (sub_drop sub_refl))⟩
  | false =>
    rw [ho] at e7
    have Ho := Lib.hid (show ¬ (D.off = true) by rw [ho]; decide)
    clear ho
    cases hg : nget D.now s with
    | none =>
      have Ha := Lib.hid (show D.append s b = (D, 9) by unfold Med.append; rw [if_neg Ho.out, hg])
      have hwh : D.which s = -1 := by unfold Med.which; rw [hg]
      rw [hwh] at hfd
      clear hg hwh
      go_wp2_with fail
      refine hfd.mono ?_
      rintro ee w1 ⟨v, rfl, rfl, rfl⟩
      clear hfd
      go_wp2
      go_ret
      exact ⟨_, rfl, by rw [Ha.out]; rfl, by rw [Ha.out]; exact (DskRep.shut Hin.out hR).sub (sub_take pick0 (sub_drop sub_refl))⟩
    | some i =>
      have hwh : D.which s = (i : Int) := by unfold Med.which; rw [hg]
      rw [hwh] at hfd
      have c1 : ¬ (i : Int) < 0 := by omega
      have hif : i < D.files.length := Ok.out.nowOk.ids _ (nget_mem hg)
      have Hif := Lib.hid hif
      have Hg := Lib.hid hg
      have hroom := Ok.out.room
      have hus := Hus.out
      have hbl := Hbl.out
      clear hg hwh hif
      go_wp2_with fail
      refine hfd.mono ?_
      rintro ee w1 ⟨v, rfl, rfl, rfl⟩
      clear hfd e7
      go_wp2_with fail
      have f0 : World.cell? (World.drew _) ⟨bB, 0, none⟩ = some (.bool false) := hB.drew.cellP pick0 0 rfl
      go_region
      clear f0
      have hBd := hB.drew.drew
      clear hB hR
      have hBd2 := hBd.sub (sub_take pick1 (sub_take pick0 sub_refl))
      have huc := rused_c Hl.out Hus.out Ok.out.nowOk.ids hBd2
      obtain ⟨fsv, fv, nv, wv, xs, g, hin, hR⟩ := DskRep.open hBd2
      clear hBd2
      go_wp2_with fail
      refine wpL_begin [14, 15] (fun w' => w'.cell? ⟨bB, 0, none⟩ = some (.bool false) ∧ w'.cell? ⟨bB, 2, none⟩ = some (.slice ba b.length bc) ∧ w'.cell? ⟨d, 0, none⟩ = some (.int .i64 D.room)) (by kernel_rfl) ?_
      have hG : World.cell? _ ⟨bB, 0, none⟩ = some (.bool false) ∧ World.cell? _ ⟨bB, 2, none⟩ = some (.slice ba b.length bc) ∧ World.cell? _ ⟨d, 0, none⟩ = some (.int .i64 D.room) := ⟨hBd.cellP pick0 0 rfl, hBd.cellP pick0 2 rfl, hR.cellP pick0 0 rfl⟩
      refine rp 0 (hy := (yl_field (by conv => lhs; whnf) (by ((intro wq; go_simp); first | done | (with_reducible rfl))))) (h := ?_)
      refine rt 1 (h := ?_)
      refine rp 2 (hy := (yl_un (by conv => lhs; whnf) (by ((intro wq; go_simp); first | done | (with_reducible rfl))))) (h := ?_)
      refine rp 3 (hy := (yl_move (by conv => lhs; whnf))) (h := ?_)
      refine rp 4 (hy := (yg_field (by rfl) (by conv => lhs; whnf) (by ((intro wq; go_simp); first | done | (with_reducible rfl))))) (h := ?_)
      refine rg_take 5 (by conv => lhs; whnf) (by kernel_rfl) (by intro _ _ _ h; exact h) (tg_load (by rfl) (by conv => lhs; whnf) (by kernel_rfl) (by intro wq hq; first | exact hq | exact hq.1 | exact hq.2 | exact hq.2.1 | exact hq.2.2 | exact hq.2.2.1 | exact hq.2.2.2 | exact hq.2.2.2.1 | exact hq.2.2.2.2)) (by assumption) (by go_frame; first | done | rfl) ?_
      refine rp 6 (hy := (yg_len (by rfl) (by conv => lhs; whnf) (by ((intro wq; go_simp); first | done | (with_reducible rfl))))) (h := ?_)
      refine rp 7 (hy := (yg_move (by rfl) (by conv => lhs; whnf))) (h := ?_)
      refine rp 8 (hy := (yg_nil (by rfl) (by conv => lhs; whnf))) (h := ?_)
      refine rp 9 (hy := (yg_field (by rfl) (by conv => lhs; whnf) (by ((intro wq; go_simp); first | done | (with_reducible rfl))))) (h := ?_)
      refine rg_take 10 (by conv => lhs; whnf) (by kernel_rfl) (by intro _ _ _ h; exact h) (tg_load (by rfl) (by conv => lhs; whnf) (by kernel_rfl) (by intro wq hq; first | exact hq | exact hq.1 | exact hq.2 | exact hq.2.1 | exact hq.2.2 | exact hq.2.2.1 | exact hq.2.2.2 | exact hq.2.2.2.1 | exact hq.2.2.2.2)) (by assumption) (by go_frame; first | done | rfl) ?_
      refine rp 11 (hy := (yg_move (by rfl) (by conv => lhs; whnf))) (h := ?_)
      refine rg_eff 12 (by conv => lhs; whnf) (by kernel_rfl) (fun K hK => ?_)
      refine eg_call [ptr d] (by rfl) (by kernel_rfl) (by rfl) ?_
      refine huc.mono ?_
      clear huc hR hG hin fsv fv nv wv xs g
      rintro e w4 ⟨v, rfl, rfl, hS⟩
      obtain ⟨fsv, fv, nv, wv, xs, g, hin, hR⟩ := DskRep.open hS
      have Hin2 := Lib.hid hin
      have hst := rstep_c hR Ok.out.left
      have hw3 : IntKind.i64.wrap ((D.room : Int) - (D.used : Int)) = (D.room : Int) - (D.used : Int) := IntWalk.i64_in _ (by omega)
      refine hK _ _ (.inr (.inl ⟨hS.cellP pick1 0 rfl, hS.cellP pick1 2 rfl, hR.cellP pick0 0 rfl⟩)) ?_
      clear hK hin hBd
      by_cases hful : (D.room : Int) - D.used < b.length
      · have Ha := Lib.hid (show D.append s b = (D, 11) by unfold Med.append; rw [if_neg Ho.out, Hg.out]; simp only []; rw [if_pos hful])
        clear hst
        refine rp 13 (hy := (yg_bin (by rfl) (by conv => lhs; whnf) (by conv => lhs; whnf) (by ((intro wq; go_simp); first | done | (with_reducible rfl))))) (h := ?_)
        refine rp 14 (hy := (yg_bin (by rfl) (by conv => lhs; whnf) (by conv => lhs; whnf) (by ((intro wq; go_simp); first | done | (with_reducible rfl))))) (h := ?_)
        refine rp 15 (hy := (yg_pick (by rfl) (by conv => lhs; whnf) (by conv => lhs; whnf))) (h := ?_)
        refine wpL_done (by kernel_rfl) ?_
        try simp only [List.getElem_toArray, List.getElem_cons_succ, List.getElem_cons_zero]
        try go_frame
        go_wp2
        go_ret
        exact ⟨_, rfl, by rw [Ha.out]; rfl, by rw [Ha.out]; exact hS.sub (sub_take pick0 (sub_drop sub_refl))⟩
      · have hstep : ∀ X : Med × Int, (if D.step.2 = false then (D.step.1, 12) else (D.step.1.setFile i ((D.file i).do ⟨false, 0, b⟩), 0)) = X → D.append s b = X := by
          rintro X rfl
          unfold Med.append
          rw [if_neg Ho.out, Hg.out]
          simp only []
          rw [if_neg hful]
        have Hstep := Lib.hid hstep
        clear hstep
        refine rp 13 (hy := (yg_bin (by rfl) (by conv => lhs; whnf) (by conv => lhs; whnf) (by ((intro wq; go_simp); first | done | (with_reducible rfl))))) (h := ?_)
        refine rp 14 (hy := (yg_bin (by rfl) (by conv => lhs; whnf) (by conv => lhs; whnf) (by ((intro wq; go_simp); first | done | (with_reducible rfl))))) (h := ?_)
        refine rp 15 (hy := (yg_pick (by rfl) (by conv => lhs; whnf) (by conv => lhs; whnf))) (h := ?_)
        refine wpL_done (by kernel_rfl) ?_
        try simp only [List.getElem_toArray, List.getElem_cons_succ, List.getElem_cons_zero]
        try go_frame
        go_wp2_with fail
        refine hst.mono ?_
        clear hst hS hR hw3
        rintro ee w5 ⟨v, rfl, rfl, hS⟩
        rw [← step_waits] at hS
        have Hin3 := Lib.hid Hin2.out.step
        cases ht : D.step.2 with
        | false =>
          have Ha := Lib.hid (Hstep.out _ (if_pos ht))
          clear ht
          go_wp2
          go_ret
          exact ⟨_, rfl, by rw [Ha.out]; rfl, by rw [Ha.out]; exact (DskRep.shut Hin3.out hS).sub (sub_take pick0 (sub_drop sub_refl))⟩
        | true =>
          have Ha := Lib.hid (Hstep.out _ (if_neg (by rw [ht]; decide)))
          have hfile : D.file i = D.step.1.file i := (step_file D i).symm
          rw [hfile] at Ha
          have Hfl := Lib.hid (show i < D.step.1.files.length by rw [step_files]; exact Hif.out)
          have Ok1 := Lib.hid Ok.out.step
          clear ht hfile hful Hstep hus hroom
          generalize D.step.1 = D1 at *
          obtain ⟨x, hx, hxf⟩ := Hin3.out.file Hfl.out
          rw [← hxf] at Ha
          have hok := Hin3.out.ok x (List.mem_of_getElem? hx)
          have hxo := Ok1.out.file i
          rw [← hxf] at hxo
          have hnl := Nat.le_trans hxo.now_len (show 16777216 ≤ 1099511627776 by decide)
          have hwb : x.ws.length ≤ 1048576 := by rw [← List.length_map (f := fun p : Chg × Value => p.1), hok]; exact Nat.le_trans hxo.budget HK.out
          have hlx : xs.length = D1.files.length := by rw [← Hin3.out.files, List.length_map]
          rcases Sat.osl_cases (hS.pick pick1) with ⟨_, hxx, _⟩ | ⟨fb, fn, fc, cs, rfl, hfn, _⟩
          · have h1 := congrArg List.length hxx
            have h2 := Hfl.out
            rw [rfsL_len] at h1
            simp only [List.length_nil] at h1
            omega
          rw [rfsL_len] at hfn
          obtain rfl : fn = xs.length := by omega
          have c2 : (i : Int) < (xs.length : Int) := by have := Hfl.out; omega
          have hq : i * 3 + 2 < (rfsL xs).length := by have := Hfl.out; rw [rfsL_len]; omega
          have hq1 : ∀ xs' : List RF, xs'.length = xs.length → i * 3 + 1 < (rfsL xs').length := fun xs' e => by have := Hfl.out; rw [rfsL_len, e]; omega
          obtain ⟨G, hGx, hO⟩ := rf_out hx (hS.pick pick2)
          obtain ⟨_, _, hw2⟩ := rfsL_at hx
          have e2 := (osl_set (hS.pick pick1) (i * 3 + 2) (.slice none 0 0)).2.1 _ hw2
          obtain ⟨xf, xfv, xnv, xwv, xws⟩ := x
          dsimp only at hxo hok hwb hO e2 hnl
          obtain ⟨wa, wc, rfl⟩ := chg_sl (Sat.rd (hO.pick pick2))
          have e1 : World.cell? _ ⟨d, 1, none⟩ = some (.slice (some ⟨fb, 0, none⟩) xs.length fc) := hO.cellP pick5 1 rfl
          have Hx := Lib.hid hx; have Hxf := Lib.hid hxf; have Hok := Lib.hid hok; have HGx := Lib.hid hGx; have Hnl := Lib.hid hnl; have Hxn := Lib.hid hxo.now_len
          have hlen : (xws.flatMap chgCells).length ≤ 2147483648 := by rw [chg_len]; omega
          clear hx hxf hok hGx hw2 hxo hnl hwb hlx hS hfn
          go_wp2_with fail
          have hO2 := hO.drew
          clear hO e1 e2
          refine wpL_begin [16, 17, 18] (fun w' => w'.cell? ⟨d, 1, none⟩ = some (.slice (some ⟨fb, 0, none⟩) xs.length fc) ∧ w'.cell? ⟨bB, 0, none⟩ = some (.bool false) ∧ w'.cell? ⟨bB, 1, none⟩ = some (.int .i64 0) ∧ w'.cell? ⟨bB, 2, none⟩ = some (.slice ba b.length bc)) (by kernel_rfl) ?_
          have hG : World.cell? _ ⟨d, 1, none⟩ = some (.slice (some ⟨fb, 0, none⟩) xs.length fc) ∧ World.cell? _ ⟨bB, 0, none⟩ = some (.bool false) ∧ World.cell? _ ⟨bB, 1, none⟩ = some (.int .i64 0) ∧ World.cell? _ ⟨bB, 2, none⟩ = some (.slice ba b.length bc) := ⟨hO2.cellP pick5 1 rfl, hO2.cellP pick9 0 rfl, hO2.cellP pick9 1 rfl, hO2.cellP pick9 2 rfl⟩
          refine rp 0 (hy := (yl_move (by conv => lhs; whnf))) (h := ?_)
          refine rp 1 (hy := (yl_nil (by conv => lhs; whnf))) (h := ?_)
          refine rp 2 (hy := (yl_field (by conv => lhs; whnf) (by ((intro wq; go_simp); first | done | (with_reducible rfl))))) (h := ?_)
          refine rt 3 (h := ?_)
          refine rp 4 (hy := (yl_move (by conv => lhs; whnf))) (h := ?_)
          refine rp 5 (hy := (yl_move (by conv => lhs; whnf))) (h := ?_)
          refine rp 6 (hy := (yl_field (by conv => lhs; whnf) (by ((intro wq; go_simp); first | done | (with_reducible rfl))))) (h := ?_)
          refine rt 7 (h := ?_)
          refine rp 8 (hy := (yl_field (by conv => lhs; whnf) (by ((intro wq; go_simp); first | done | (with_reducible rfl))))) (h := ?_)
          refine rt 9 (h := ?_)
          refine rp 10 (hy := (yl_field (by conv => lhs; whnf) (by ((intro wq; go_simp); first | done | (with_reducible rfl))))) (h := ?_)
          refine rt 11 (h := ?_)
          refine rg_eff 12 (by conv => lhs; whnf) (by kernel_rfl) (fun K hK => ?_)
          refine eff_call1 (by kernel_rfl) (by conv => lhs; whnf) ?_
          refine (copy_c hO2 b (Hb.out _ (hO2.sb)) (by omega)).mono ?_
          rintro e w6 ⟨v, rfl, hS6, a6, n6, c6, rfl⟩
          refine hK _ _ (.inr (.inl ⟨hS6.cellP pick6 1 rfl, hS6.cellP pick10 0 rfl, hS6.cellP pick10 1 rfl, hS6.cellP pick10 2 rfl⟩)) ?_
          clear hK hG hO2
          refine rp 13 (hy := (by (refine Or.inl ⟨by rfl, ?_⟩; ((intro wq; go_simp); first | done | (with_reducible rfl))))) (h := ?_)
          refine rg_eff 14 (by conv => lhs; whnf) (by kernel_rfl) (fun K hK => ?_)
          refine eff_build1 (e := 155) (sz := 3) (by' := 40) (by kernel_rfl) hS6 (by conv => lhs; whnf) (cs := #[.bool false, .int .i64 0, .slice a6 n6 c6]) rfl rfl (Nat.le_of_ble_eq_true (by rfl)) ?_
          intro bN w7 hS7
          refine hK _ _ (.inr (.inl ⟨hS7.cellP (pick_there pick6) 1 rfl, hS7.cellP (pick_there pick10) 0 rfl, hS7.cellP (pick_there pick10) 1 rfl, hS7.cellP (pick_there pick10) 2 rfl⟩)) ?_
          clear hK hS6
          refine rg_eff 15 (by conv => lhs; whnf) (by kernel_rfl) (fun K hK => ?_)
          refine eff_app 155 3 40 (by kernel_rfl) hS7 (by conv => lhs; whnf) (by conv => lhs; whnf) pick4 pick0 (by rfl) (Nat.le_refl 1) (by rfl) hlen (by show 3 ≤ 65536; decide) (by decide) rfl ?_
          intro bA nA cA w8 hS8
          refine hK _ _ (.inr (.inl ⟨hS8.cellP pick6 1 rfl, hS8.cellP pick10 0 rfl, hS8.cellP pick10 1 rfl, hS8.cellP pick10 2 rfl⟩)) ?_
          clear hK hS7
          refine rp 16 (hy := (yl_index (by conv => lhs; whnf) (by conv => lhs; whnf) (by ((intro wq; go_simp); first | done | (with_reducible rfl))))) (h := ?_)
          refine rp 17 (hy := (yl_field (by conv => lhs; whnf) (by ((intro wq; go_simp); first | done | (with_reducible rfl))))) (h := ?_)
          refine rg_eff 18 (by conv => lhs; whnf) (by kernel_rfl) (fun K hK => ?_)
          refine eff_storeS (b := fb) (i * 3 + 2) hS8 (by conv => lhs; whnf) (by conv => lhs; whnf) (by first | ((repeat (first | with_reducible apply upd0 | with_reducible apply upd_there)); done) | ((repeat (first | apply upd0 | apply upd_there)); done) | fail) hq (by kernel_rfl) rfl rfl ?_
          intro w9 hS9
          refine hK _ _ (.inl rfl) ?_
          refine wpL_done (by kernel_rfl) ?_
          have ew : xws.flatMap chgCells ++ #[Value.bool false, Value.int .i64 0, .slice a6 n6 c6].toList = (xws ++ [((⟨false, 0, b⟩ : Chg), Value.slice a6 n6 c6)]).flatMap chgCells := chg_snoc xws (⟨false, 0, b⟩, .slice a6 n6 c6)
          rw [ew] at hS9
          have hx2 : (rfsL xs).set (i * 3 + 2) (.slice (some ⟨bA, 0, none⟩) nA cA) = rfsL (xs.set i ⟨⟨xf.fast, xf.now, xf.waits ++ [⟨false, 0, b⟩]⟩, xfv, xnv, .slice (some ⟨bA, 0, none⟩) nA cA, xws ++ [(⟨false, 0, b⟩, .slice a6 n6 c6)]⟩) :=
            (rfsL_wv xs i _ _ Hx.out).trans (rfsL_alike _ _ _ _ _ _ _ xs i)
          rw [hx2] at hS9
          clear hx2 ew hS8 hq
          have hx2 : ∃ x2 : RF, x2 = ⟨⟨xf.fast, xf.now, xf.waits ++ [⟨false, 0, b⟩]⟩, xfv, xnv, .slice (some ⟨bA, 0, none⟩) nA cA, xws ++ [(⟨false, 0, b⟩, .slice a6 n6 c6)]⟩ := ⟨_, rfl⟩
          obtain ⟨x2, hx2⟩ := hx2
          have hA1 := chgs_add (p := ((⟨false, 0, b⟩ : Chg), Value.slice a6 n6 c6)) (hS9.sub (sub_take pick1 (sub_take pick3 sub_refl)))
          have hA2 := rf_in (x := ⟨⟨xf.fast, xf.now, xf.waits ++ [⟨false, 0, b⟩]⟩, xfv, xnv, .slice (some ⟨bA, 0, none⟩) nA cA, xws ++ [(⟨false, 0, b⟩, .slice a6 n6 c6)]⟩) HGx.out (hA1.sub (sub_take pick2 (sub_take pick2 (sub_take pick1 (sub_take pick0 sub_refl)))))
          rw [← hx2] at hA2
          have hok2 : x2.ws.map (·.1) = x2.f.waits := by rw [hx2]; simp [Hok.out]
          have hin4 := Hin3.out.set (i := i) (x' := x2) hok2
          have e4 : (D1.setFile i x2.f).file i = x2.f := by rw [file_set Hfl.out, if_pos rfl]
          have e5 : x2.f.now = xf.now := by rw [hx2]
          have hh := rhere_c (D := D1.setFile i x2.f) i (by unfold Med.setFile; rw [List.length_set]; exact Hfl.out) hin4 (by rw [e4, e5]; exact Hnl.out) (hA2.sub (sub_take pick1 (sub_take pick1 (sub_take pick0 sub_refl))))
          rw [e4, e5] at hh
          have Hx2 := Lib.hid hx2; have Hok2 := Lib.hid hok2
          have hx2i : (xs.set i x2)[i]? = some x2 := by rw [List.getElem?_set_self (by rw [← List.length_map (f := fun r : RF => r.f), Hin3.out.files]; exact Hfl.out)]
          have Hx2i := Lib.hid hx2i
          clear hx2 hok2 hin4 e4 e5 hS9 hA1 hA2 hx2i
          clear hK
          go_wp2_with fail
          refine hh.mono ?_
          clear hh
          rintro ee w10 ⟨v, rfl, hS10, a7, n7, c7, rfl⟩
          go_wp2_with (first
            | ((with_reducible apply at_load); refine ⟨?_⟩; refine wl_load1 (by assumption) (by rfl) (by first | ((repeat (first | with_reducible apply pick0 | with_reducible apply pick_there)); done) | ((repeat (first | apply pick0 | apply pick_there)); done) | fail) (Nat.le_of_ble_eq_true (by rfl)) (by conv => lhs; whnf) (by kernel_rfl) ?_)
            | ((with_reducible apply at_append); refine ⟨?_⟩; refine wl_appB hS10 (by conv => lhs; whnf) (by conv => lhs; whnf) (Hb.out _ (hS10.sb)) (by have := Hnl.out; have := Hxn.out; omega) ?_; intro a8 n8 c8 w11 hS11)
            | ((with_reducible apply at_store); refine ⟨?_⟩; refine wl_storeS (b := fb) (i * 3 + 1) hS11 (by rfl) (by conv => lhs; whnf) (by first | ((repeat (first | with_reducible apply upd0 | with_reducible apply upd_there)); done) | ((repeat (first | apply upd0 | apply upd_there)); done) | fail) (hq1 _ (List.length_set ..)) (by kernel_rfl) rfl rfl ?_; intro w12 hS12))
          clear hS10 hS11
          go_wp2
          go_ret
          refine ⟨_, rfl, by rw [Ha.out]; rfl, ?_⟩
          rw [Ha.out]
          have h2i := Hx2i.out
          have hx2 := Hx2.out
          subst hx2
          rw [rfsL_nv _ i _ _ h2i, List.set_set] at hS12
          obtain ⟨G2, hG2, hO3⟩ := rf_out h2i (hS12.pick pick3)
          have h3 := rf_in (x := ⟨xf.do ⟨false, 0, b⟩, xfv, .slice a8 n8 c8, .slice (some ⟨bA, 0, none⟩) nA cA, xws ++ [(⟨false, 0, b⟩, .slice a6 n6 c6)]⟩) hG2 (hO3.sub (sub_take pick0 (sub_take pick4 (sub_take pick1 (sub_take pick1 (sub_take pick1 (sub_drop sub_refl)))))))
          rw [List.set_set] at h3
          rw [rfsL_alike _ (xf.do ⟨false, 0, b⟩) _ _ _ _ (xws ++ [(⟨false, 0, b⟩, .slice a6 n6 c6)]) xs i] at h3
          refine (DskRep.shut (D := D1.setFile i (xf.do ⟨false, 0, b⟩)) (Hin3.out.set (x' := ⟨xf.do ⟨false, 0, b⟩, xfv, .slice a8 n8 c8, .slice (some ⟨bA, 0, none⟩) nA cA, xws ++ [(⟨false, 0, b⟩, .slice a6 n6 c6)]⟩) Hok2.out) (h3.sub (sub_take pick1 (sub_take pick1 (sub_take pick0 sub_refl))))).sub (sub_take pick0 (sub_drop sub_refl))
end
end Go.Proofs.YtmjldaedhmipkaaGreatDoor
/- hoardref06: Byte, a file cut. -/
namespace Go.Proofs.YtmjldaedhmipkaaGreatDoor
open Go Go.Sl Go.Med Go.MapKept Go.RowKit
set_option linter.unusedVariables false
section
variable {w0 w : World} {F R : List HProp} {d : Nat} {D : Med} {fsv fv nv wv v lv bv : Value} {xs : List RF} {g : Bag} {K : Nat}
set_option maxRecDepth 20000 in
set_option maxHeartbeats 8000000 in
theorem rtrunc_c (s : ByteArray) (z : Int) (hz : -9223372036854775808 ≤ z ∧ z ≤ 9223372036854775807) (ok : D.Ok K) (hK : K ≤ 1048576) (h : Sat w0 w (DskRep d D :: F)) :
    Calls Tryz.prog 73 #[ptr d, .string s, .agg #[.bool true, .int .i64 z, .slice none 0 0]] w (Rtn fun v w' => v = errno (D.truncate s z).2 ∧ Sat w0 w' (DskRep d (D.truncate s z).1 :: F)) := by
  have Ok := Lib.hid ok; have HK := Lib.hid hK
  have hl : D.now.length ≤ 1048576 := Nat.le_trans ok.nowOk.len (by decide)
  have Hl := Lib.hid hl
  obtain ⟨hz1, hz2⟩ := hz
  clear hK ok hl
  go_enter Tryz.func73, Tryz.ntmps73
  go_wp2_with (first | ((with_reducible apply at_box); refine ⟨?_⟩; refine wl_box (by assumption) (by conv => lhs; whnf) (by conv => lhs; whnf) ?_; intro bB wB hB) | (with_reducible apply at_load))
  refine ⟨?_⟩
  have hO := hB.sub (sub_take pick1 (sub_take pick0 sub_refl))
  have hfd := rfind_c s Hl.out hO
  obtain ⟨fsv, fv, nv, wv, xs, g, hin, hR⟩ := DskRep.open hO
  have Hin := Lib.hid hin
  have e7 : World.cell? _ ⟨d, 7, none⟩ = some (.bool D.off) := hR.cellP pick0 7 rfl
  clear h hin hO
  cases ho : D.off with
  | true =>
    have Ha := Lib.hid (show D.truncate s z = (D, 12) by unfold Med.truncate; rw [ho]; rfl)
    rw [ho] at e7
    clear ho hfd
    go_wp2
    go_ret
    exact ⟨_, rfl, by rw [Ha.out]; rfl, by rw [Ha.out]; exact (DskRep.shut Hin.out hR).sub (sub_take pick0 (sub_drop sub_refl))⟩
  | false =>
    rw [ho] at e7
    have Ho := Lib.hid (show ¬ (D.off = true) by rw [ho]; decide)
    clear ho
    cases hg : nget D.now s with
    | none =>
      have Ha := Lib.hid (show D.truncate s z = (D, 9) by unfold Med.truncate; rw [if_neg Ho.out, hg])
      have hwh : D.which s = -1 := by unfold Med.which; rw [hg]
      rw [hwh] at hfd
      clear hg hwh
      go_wp2_with fail
      refine hfd.mono ?_
      rintro ee w1 ⟨v, rfl, rfl, rfl⟩
      clear hfd
      go_wp2
      go_ret
      exact ⟨_, rfl, by rw [Ha.out]; rfl, by rw [Ha.out]; exact (DskRep.shut Hin.out hR).sub (sub_take pick0 (sub_drop sub_refl))⟩
    | some i =>
      have hwh : D.which s = (i : Int) := by unfold Med.which; rw [hg]
      rw [hwh] at hfd
      have c1 : ¬ (i : Int) < 0 := by omega
      have hif : i < D.files.length := Ok.out.nowOk.ids _ (nget_mem hg)
      have Hif := Lib.hid hif
      have Hg := Lib.hid hg
      clear hg hwh hif
      go_wp2_with fail
      refine hfd.mono ?_
      rintro ee w1 ⟨v, rfl, rfl, rfl⟩
      clear hfd e7
      go_wp2_with fail
      obtain ⟨x, hx, hxf⟩ := Hin.out.file Hif.out
      have hlx : xs.length = D.files.length := by rw [← Hin.out.files, List.length_map]
      obtain ⟨_, h1, _⟩ := rfsL_at hx
      obtain ⟨fa, fn, fc, rfl, hfn, _⟩ := Sat.rd (hR.pick pick1)
      rw [rfsL_len] at hfn
      obtain rfl : fn = xs.length := by omega
      obtain ⟨bk, off, hfe, hc⟩ := rdsl_cells (Sat.rd (hR.pick pick1)) h1
      subst hfe
      obtain ⟨na, nc, hxe, _⟩ := file_nv (List.mem_of_getElem? hx) (hR.pick pick2)
      rw [hxe, hxf] at h1
      have f3 : World.cell? (World.drew wB) ⟨bk, off + i * 3 + 1, none⟩ = some (.slice na (D.file i).now.length nc) := by rw [Nat.add_assoc]; exact hc _ _ h1
      have f0 : World.cell? (World.drew _) ⟨bB, 0, none⟩ = some (.bool true) := hB.drew.cellP pick0 0 rfl
      have f1 : World.cell? (World.drew _) ⟨bB, 1, none⟩ = some (.int .i64 z) := hB.drew.cellP pick0 1 rfl
      have f2 : World.cell? (World.drew _) ⟨d, 1, none⟩ = some (.slice (some ⟨bk, off, none⟩) xs.length fc) := hR.drew.cellP pick0 1 rfl
      have c2 : (i : Int) < (xs.length : Int) := by have := Hif.out; omega
      have Hnlen := Lib.hid (show (D.file i).now.length ≤ 16777216 from (Ok.out.file i).now_len)
      clear hx hxf hlx h1 hfn hc hxe
      have hbad : z < 0 ∨ ((D.file i).now.length : Int) < z → D.truncate s z = (D, 2) := fun hq => by unfold Med.truncate; rw [if_neg Ho.out, Hg.out]; simp only []; rw [if_pos hq]
      have Hbad := Lib.hid hbad
      clear hbad
      by_cases hz0 : z < 0
      · have Ha := Lib.hid (Hbad.out (.inl hz0))
        go_region
        go_wp2
        go_ret
        exact ⟨_, rfl, by rw [Ha.out]; rfl, by rw [Ha.out]; exact (DskRep.shut Hin.out hR.drew).sub (sub_take pick0 (sub_drop sub_refl))⟩
      have hz0' : decide (z < 0) = false := by simpa using hz0
      by_cases hz3 : ((D.file i).now.length : Int) < z
      · have Ha := Lib.hid (Hbad.out (.inr hz3))
        go_region
        go_wp2
        go_ret
        exact ⟨_, rfl, by rw [Ha.out]; rfl, by rw [Ha.out]; exact (DskRep.shut Hin.out hR.drew).sub (sub_take pick0 (sub_drop sub_refl))⟩
      have hz3' : decide (((D.file i).now.length : Int) < z) = false := by simpa using hz3
      obtain ⟨k, rfl⟩ := Int.eq_ofNat_of_zero_le (show 0 ≤ z by omega)
      have Hkn := Lib.hid (show k ≤ (D.file i).now.length by omega)
      have hcut : ∀ X : Med × Int, (if D.step.2 = false then (D.step.1, 12) else (D.step.1.setFile i ((D.file i).do ⟨true, k, []⟩), 0)) = X → D.truncate s k = X := by
        rintro X rfl
        unfold Med.truncate
        rw [if_neg Ho.out, Hg.out]
        simp only []
        rw [if_neg (by omega)]
        rfl
      have Hstep := Lib.hid hcut
      clear hcut
      go_region
      clear f0 f1 f2 f3 hz0 hz0' hz3 hz3' c2
      go_wp2_with fail
      have f0 : World.cell? (World.drew _) ⟨bB, 0, none⟩ = some (.bool true) := hB.drew.drew.cellP pick0 0 rfl
      go_region
      clear f0
      have hst := rstep_c hR.drew.drew Ok.out.left
      go_wp2_with fail
      refine hst.mono ?_
      clear hst hR
      rintro ee w5 ⟨v, rfl, rfl, hS⟩
      rw [← step_waits] at hS
      have Hin3 := Lib.hid Hin.out.step
      cases ht : D.step.2 with
      | false =>
        have Ha := Lib.hid (Hstep.out _ (if_pos ht))
        clear ht
        go_wp2
        go_ret
        exact ⟨_, rfl, by rw [Ha.out]; rfl, by rw [Ha.out]; exact (DskRep.shut Hin3.out hS).sub (sub_take pick0 (sub_drop sub_refl))⟩
      | true =>
        have Ha := Lib.hid (Hstep.out _ (if_neg (by rw [ht]; decide)))
        have hfile : D.file i = D.step.1.file i := (step_file D i).symm
        rw [hfile] at Ha Hkn
        have Hfl := Lib.hid (show i < D.step.1.files.length by rw [step_files]; exact Hif.out)
        have Ok1 := Lib.hid Ok.out.step
        clear ht hfile Hstep
        generalize D.step.1 = D1 at *
        obtain ⟨x, hx, hxf⟩ := Hin3.out.file Hfl.out
        rw [← hxf] at Ha Hkn
        have hok := Hin3.out.ok x (List.mem_of_getElem? hx)
        have hxo := Ok1.out.file i
        rw [← hxf] at hxo
        have hnl := Nat.le_trans hxo.now_len (show 16777216 ≤ 1099511627776 by decide)
        have hwb : x.ws.length ≤ 1048576 := by rw [← List.length_map (f := fun p : Chg × Value => p.1), hok]; exact Nat.le_trans hxo.budget HK.out
        have hlx : xs.length = D1.files.length := by rw [← Hin3.out.files, List.length_map]
        rcases Sat.osl_cases (hS.pick pick1) with ⟨_, hxx, _⟩ | ⟨fb, fn, fc2, cs, hfe, hfn, _⟩
        · have h1 := congrArg List.length hxx
          have h2 := Hfl.out
          rw [rfsL_len] at h1
          simp only [List.length_nil] at h1
          omega
        cases hfe
        have c2 : (i : Int) < (xs.length : Int) := by have := Hfl.out; omega
        have hq : i * 3 + 2 < (rfsL xs).length := by have := Hfl.out; rw [rfsL_len]; omega
        have hq1 : ∀ xs' : List RF, xs'.length = xs.length → i * 3 + 1 < (rfsL xs').length := fun xs' e => by have := Hfl.out; rw [rfsL_len, e]; omega
        obtain ⟨G, hGx, hO⟩ := rf_out hx (hS.pick pick2)
        obtain ⟨_, _, hw2⟩ := rfsL_at hx
        have e2 := (osl_set (hS.pick pick1) (i * 3 + 2) (.slice none 0 0)).2.1 _ hw2
        obtain ⟨xf, xfv, xnv, xwv, xws⟩ := x
        dsimp only at hxo hok hwb hO e2 hnl
        obtain ⟨wa, wc, rfl⟩ := chg_sl (Sat.rd (hO.pick pick2))
        have e1 : World.cell? _ ⟨d, 1, none⟩ = some (.slice (some ⟨bk, 0, none⟩) xs.length fc) := hO.cellP pick5 1 rfl
        have Hx := Lib.hid hx; have Hxf := Lib.hid hxf; have Hok := Lib.hid hok; have HGx := Lib.hid hGx; have Hnl := Lib.hid hnl; have Hxn := Lib.hid hxo.now_len
        have hlen : (xws.flatMap chgCells).length ≤ 2147483648 := by rw [chg_len]; omega
        clear hx hxf hok hGx hw2 hxo hnl hwb hlx hS hfn
        go_wp2_with fail
        have hO2 := hO.drew
        clear hO e1 e2
        refine wpL_begin [16, 17, 18] (fun w' => w'.cell? ⟨d, 1, none⟩ = some (.slice (some ⟨bk, 0, none⟩) xs.length fc) ∧ w'.cell? ⟨bB, 0, none⟩ = some (.bool true) ∧ w'.cell? ⟨bB, 1, none⟩ = some (.int .i64 k) ∧ w'.cell? ⟨bB, 2, none⟩ = some (.slice none 0 0)) (by kernel_rfl) ?_
        have hG : World.cell? _ ⟨d, 1, none⟩ = some (.slice (some ⟨bk, 0, none⟩) xs.length fc) ∧ World.cell? _ ⟨bB, 0, none⟩ = some (.bool true) ∧ World.cell? _ ⟨bB, 1, none⟩ = some (.int .i64 k) ∧ World.cell? _ ⟨bB, 2, none⟩ = some (.slice none 0 0) := ⟨hO2.cellP pick5 1 rfl, hO2.cellP pick9 0 rfl, hO2.cellP pick9 1 rfl, hO2.cellP pick9 2 rfl⟩
        refine rp 0 (hy := (yl_move (by conv => lhs; whnf))) (h := ?_)
        refine rp 1 (hy := (yl_nil (by conv => lhs; whnf))) (h := ?_)
        refine rp 2 (hy := (yl_field (by conv => lhs; whnf) (by ((intro wq; go_simp); first | done | (with_reducible rfl))))) (h := ?_)
        refine rt 3 (h := ?_)
        refine rp 4 (hy := (yl_move (by conv => lhs; whnf))) (h := ?_)
        refine rp 5 (hy := (yl_move (by conv => lhs; whnf))) (h := ?_)
        refine rp 6 (hy := (yl_field (by conv => lhs; whnf) (by ((intro wq; go_simp); first | done | (with_reducible rfl))))) (h := ?_)
        refine rt 7 (h := ?_)
        refine rp 8 (hy := (yl_field (by conv => lhs; whnf) (by ((intro wq; go_simp); first | done | (with_reducible rfl))))) (h := ?_)
        refine rt 9 (h := ?_)
        refine rp 10 (hy := (yl_field (by conv => lhs; whnf) (by ((intro wq; go_simp); first | done | (with_reducible rfl))))) (h := ?_)
        refine rt 11 (h := ?_)
        refine rg_eff 12 (by conv => lhs; whnf) (by kernel_rfl) (fun K hK => ?_)
        refine eff_call1 (by kernel_rfl) (by conv => lhs; whnf) ?_
        refine (copy_c hO2 [] (rdsl_nil _ _ _) (by decide)).mono ?_
        rintro e w6 ⟨v, rfl, hS6, a6, n6, c6, rfl⟩
        refine hK _ _ (.inr (.inl ⟨hS6.cellP pick6 1 rfl, hS6.cellP pick10 0 rfl, hS6.cellP pick10 1 rfl, hS6.cellP pick10 2 rfl⟩)) ?_
        clear hK hG hO2
        refine rp 13 (hy := (by (refine Or.inl ⟨by rfl, ?_⟩; ((intro wq; go_simp); first | done | (with_reducible rfl))))) (h := ?_)
        refine rg_eff 14 (by conv => lhs; whnf) (by kernel_rfl) (fun K hK => ?_)
        refine eff_build1 (e := 155) (sz := 3) (by' := 40) (by kernel_rfl) hS6 (by conv => lhs; whnf) (cs := #[.bool true, .int .i64 k, .slice a6 n6 c6]) rfl rfl (Nat.le_of_ble_eq_true (by rfl)) ?_
        intro bN w7 hS7
        refine hK _ _ (.inr (.inl ⟨hS7.cellP (pick_there pick6) 1 rfl, hS7.cellP (pick_there pick10) 0 rfl, hS7.cellP (pick_there pick10) 1 rfl, hS7.cellP (pick_there pick10) 2 rfl⟩)) ?_
        clear hK hS6
        refine rg_eff 15 (by conv => lhs; whnf) (by kernel_rfl) (fun K hK => ?_)
        refine eff_app 155 3 40 (by kernel_rfl) hS7 (by conv => lhs; whnf) (by conv => lhs; whnf) pick4 pick0 (by rfl) (Nat.le_refl 1) (by rfl) hlen (by show 3 ≤ 65536; decide) (by decide) rfl ?_
        intro bA nA cA w8 hS8
        refine hK _ _ (.inr (.inl ⟨hS8.cellP pick6 1 rfl, hS8.cellP pick10 0 rfl, hS8.cellP pick10 1 rfl, hS8.cellP pick10 2 rfl⟩)) ?_
        clear hK hS7
        refine rp 16 (hy := (yl_index (by conv => lhs; whnf) (by conv => lhs; whnf) (by ((intro wq; go_simp); first | done | (with_reducible rfl))))) (h := ?_)
        refine rp 17 (hy := (yl_field (by conv => lhs; whnf) (by ((intro wq; go_simp); first | done | (with_reducible rfl))))) (h := ?_)
        refine rg_eff 18 (by conv => lhs; whnf) (by kernel_rfl) (fun K hK => ?_)
        refine eff_storeS (b := bk) (i * 3 + 2) hS8 (by conv => lhs; whnf) (by conv => lhs; whnf) (by first | ((repeat (first | with_reducible apply upd0 | with_reducible apply upd_there)); done) | ((repeat (first | apply upd0 | apply upd_there)); done) | fail) hq (by kernel_rfl) rfl rfl ?_
        intro w9 hS9
        refine hK _ _ (.inl rfl) ?_
        refine wpL_done (by kernel_rfl) ?_
        have ew : xws.flatMap chgCells ++ #[Value.bool true, Value.int .i64 k, .slice a6 n6 c6].toList = (xws ++ [((⟨true, k, []⟩ : Chg), Value.slice a6 n6 c6)]).flatMap chgCells := chg_snoc xws (⟨true, k, []⟩, .slice a6 n6 c6)
        rw [ew] at hS9
        have hx2 : (rfsL xs).set (i * 3 + 2) (.slice (some ⟨bA, 0, none⟩) nA cA) = rfsL (xs.set i ⟨⟨xf.fast, xf.now, xf.waits ++ [⟨true, k, []⟩]⟩, xfv, xnv, .slice (some ⟨bA, 0, none⟩) nA cA, xws ++ [(⟨true, k, []⟩, .slice a6 n6 c6)]⟩) :=
          (rfsL_wv xs i _ _ Hx.out).trans (rfsL_alike _ _ _ _ _ _ _ xs i)
        rw [hx2] at hS9
        clear hx2 ew hS8 hq
        have hx2 : ∃ x2 : RF, x2 = ⟨⟨xf.fast, xf.now, xf.waits ++ [⟨true, k, []⟩]⟩, xfv, xnv, .slice (some ⟨bA, 0, none⟩) nA cA, xws ++ [(⟨true, k, []⟩, .slice a6 n6 c6)]⟩ := ⟨_, rfl⟩
        obtain ⟨x2, hx2⟩ := hx2
        have hA1 := chgs_add (p := ((⟨true, k, []⟩ : Chg), Value.slice a6 n6 c6)) (hS9.sub (sub_take pick1 (sub_take pick3 sub_refl)))
        have hA2 := rf_in (x := ⟨⟨xf.fast, xf.now, xf.waits ++ [⟨true, k, []⟩]⟩, xfv, xnv, .slice (some ⟨bA, 0, none⟩) nA cA, xws ++ [(⟨true, k, []⟩, .slice a6 n6 c6)]⟩) HGx.out (hA1.sub (sub_take pick2 (sub_take pick2 (sub_take pick1 (sub_take pick0 sub_refl)))))
        rw [← hx2] at hA2
        have hok2 : x2.ws.map (·.1) = x2.f.waits := by rw [hx2]; simp [Hok.out]
        have hin4 := Hin3.out.set (i := i) (x' := x2) hok2
        have e4 : (D1.setFile i x2.f).file i = x2.f := by rw [file_set Hfl.out, if_pos rfl]
        have e5 : x2.f.now = xf.now := by rw [hx2]
        have hh := rhere_c (D := D1.setFile i x2.f) i (by unfold Med.setFile; rw [List.length_set]; exact Hfl.out) hin4 (by rw [e4, e5]; exact Hnl.out) (hA2.sub (sub_take pick1 (sub_take pick1 (sub_take pick0 sub_refl))))
        rw [e4, e5] at hh
        have Hx2 := Lib.hid hx2; have Hok2 := Lib.hid hok2
        have hx2i : (xs.set i x2)[i]? = some x2 := by rw [List.getElem?_set_self (by rw [← List.length_map (f := fun r : RF => r.f), Hin3.out.files]; exact Hfl.out)]
        have Hx2i := Lib.hid hx2i
        clear hx2 hok2 hin4 e4 e5 hS9 hA1 hA2 hx2i
        clear hK
        go_wp2_with fail
        refine hh.mono ?_
        clear hh
        rintro ee w10 ⟨v, rfl, hS10, a7, n7, c7, rfl⟩
        have hkn : k ≤ xf.now.length := Hkn.out
        obtain ⟨a8, c8, hv8, hbl8, hbc8, hba8⟩ := bsl_sl hS10
        cases hv8
        have hS11 := bsl_cut hS10 hkn
        have c3 : (k : Int) ≤ (c7 : Int) := by omega
        rcases hba8 with ⟨rfl, rfl⟩ | ⟨g8, rfl⟩
        · obtain rfl : k = 0 := by omega
          go_wp2_with (first
            | ((with_reducible apply at_load); refine ⟨?_⟩; refine wl_load1 (by assumption) (by rfl) (by first | ((repeat (first | with_reducible apply pick0 | with_reducible apply pick_there)); done) | ((repeat (first | apply pick0 | apply pick_there)); done) | fail) (Nat.le_of_ble_eq_true (by rfl)) (by conv => lhs; whnf) (by kernel_rfl) ?_)
            | ((with_reducible apply at_store); refine ⟨?_⟩; refine wl_storeS (b := bk) (i * 3 + 1) hS11 (by rfl) (by conv => lhs; whnf) (by first | ((repeat (first | with_reducible apply upd0 | with_reducible apply upd_there)); done) | ((repeat (first | apply upd0 | apply upd_there)); done) | fail) (hq1 _ (List.length_set ..)) (by kernel_rfl) rfl rfl ?_; intro w12 hS12))
          clear hS10 hS11
          go_wp2
          go_ret
          refine ⟨_, rfl, by rw [Ha.out]; rfl, ?_⟩
          rw [Ha.out]
          have h2i := Hx2i.out
          have hx2 := Hx2.out
          subst hx2
          rw [rfsL_nv _ i _ _ h2i, List.set_set] at hS12
          obtain ⟨G2, hG2, hO3⟩ := rf_out h2i (hS12.pick pick3)
          have h3 := rf_in (x := ⟨xf.do ⟨true, 0, []⟩, xfv, .slice none 0 0, .slice (some ⟨bA, 0, none⟩) nA cA, xws ++ [(⟨true, 0, []⟩, .slice a6 n6 c6)]⟩) hG2 (hO3.sub (sub_take pick0 (sub_take pick4 (sub_take pick1 (sub_take pick1 (sub_take pick1 (sub_drop sub_refl)))))))
          rw [List.set_set] at h3
          rw [rfsL_alike _ (xf.do ⟨true, 0, []⟩) _ _ _ _ (xws ++ [(⟨true, 0, []⟩, .slice a6 n6 c6)]) xs i] at h3
          refine (DskRep.shut (D := D1.setFile i (xf.do ⟨true, 0, []⟩)) (Hin3.out.set (x' := ⟨xf.do ⟨true, 0, []⟩, xfv, .slice none 0 0, .slice (some ⟨bA, 0, none⟩) nA cA, xws ++ [(⟨true, 0, []⟩, .slice a6 n6 c6)]⟩) Hok2.out) (h3.sub (sub_take pick1 (sub_take pick1 (sub_take pick0 sub_refl))))).sub (sub_take pick0 (sub_drop sub_refl))
        · go_wp2_with (first
            | ((with_reducible apply at_load); refine ⟨?_⟩; refine wl_load1 (by assumption) (by rfl) (by first | ((repeat (first | with_reducible apply pick0 | with_reducible apply pick_there)); done) | ((repeat (first | apply pick0 | apply pick_there)); done) | fail) (Nat.le_of_ble_eq_true (by rfl)) (by conv => lhs; whnf) (by kernel_rfl) ?_)
            | ((with_reducible apply at_store); refine ⟨?_⟩; refine wl_storeS (b := bk) (i * 3 + 1) hS11 (by rfl) (by conv => lhs; whnf) (by first | ((repeat (first | with_reducible apply upd0 | with_reducible apply upd_there)); done) | ((repeat (first | apply upd0 | apply upd_there)); done) | fail) (hq1 _ (List.length_set ..)) (by kernel_rfl) rfl rfl ?_; intro w12 hS12))
          clear hS10 hS11
          go_wp2
          go_ret
          refine ⟨_, rfl, by rw [Ha.out]; rfl, ?_⟩
          rw [Ha.out]
          have h2i := Hx2i.out
          have hx2 := Hx2.out
          subst hx2
          rw [rfsL_nv _ i _ _ h2i, List.set_set] at hS12
          obtain ⟨G2, hG2, hO3⟩ := rf_out h2i (hS12.pick pick3)
          have h3 := rf_in (x := ⟨xf.do ⟨true, k, []⟩, xfv, .slice (some ⟨g8, 0, none⟩) k c7, .slice (some ⟨bA, 0, none⟩) nA cA, xws ++ [(⟨true, k, []⟩, .slice a6 n6 c6)]⟩) hG2 (hO3.sub (sub_take pick0 (sub_take pick4 (sub_take pick1 (sub_take pick1 (sub_take pick1 (sub_drop sub_refl)))))))
          rw [List.set_set] at h3
          rw [rfsL_alike _ (xf.do ⟨true, k, []⟩) _ _ _ _ (xws ++ [(⟨true, k, []⟩, .slice a6 n6 c6)]) xs i] at h3
          refine (DskRep.shut (D := D1.setFile i (xf.do ⟨true, k, []⟩)) (Hin3.out.set (x' := ⟨xf.do ⟨true, k, []⟩, xfv, .slice (some ⟨g8, 0, none⟩) k c7, .slice (some ⟨bA, 0, none⟩) nA cA, xws ++ [(⟨true, k, []⟩, .slice a6 n6 c6)]⟩) Hok2.out) (h3.sub (sub_take pick1 (sub_take pick1 (sub_take pick0 sub_refl))))).sub (sub_take pick0 (sub_drop sub_refl))
end
end Go.Proofs.YtmjldaedhmipkaaGreatDoor
/- hoardref06: Crash. -/
namespace Go.Proofs.YtmjldaedhmipkaaGreatDoor
open Go Go.Sl Go.Med Go.MapKept Go.RowKit
set_option linter.unusedVariables false
section
variable {P : Program} {w0 w : World} {L L' : List HProp} {b o : Nat} {ops : Array Oper} {a : Act} {Q : Exit → Act → World → Prop} {dst : Option Tmp} {t ty T : TypeId} {pos : String} {after : Array Edge} {x y : Operand} {cs : Array Value} {v : Value} {K : Act → World → Prop} {E : Prop}
/-- A new variable, as an effect of a region that draws. -/
theorem eff_alloc (hz : zeroB P ty = some v) (hs : Sat w0 w L) (hcs : v.cells = cs)
    (hK : ∀ b w', Sat w0 w' (pt b (.cells cs ty (0,0)) :: L) → K (a.put dst (.pointer (some ⟨b, 0, none⟩))) w') :
    if Region.wanted ⟨dst, .alloc ty, t, pos, after, none⟩ (yielded ops a.tmps) = true then Oper.wp P ⟨dst, .alloc ty, t, pos, after, none⟩ a w K Q else E := by
  subst hcs
  refine eff_of rfl ?_
  have hS := hs.alloc (.cells v.cells ty)
  unfold Oper.wp execOp
  have hrun : (Instr.alloc ty true (.tuple #[])).run P w = .ok (.pointer (some ⟨w.heap.size, 0, none⟩)) (w.alloc (.cells v.cells ty)) := by
    simp [Instr.alloc, run_zeroB hz w, newVar, newRow, go_sem, Result.andThen]
  simp only [Sem.run_bind, Sem.run_pure, hrun, Result.andThen_ok]
  exact hK _ _ hS
end
theorem zFile : zeroB Tryz.prog 164 = some (.agg #[.slice none 0 0, .slice none 0 0, .slice none 0 0]) := by kernel_rfl
section
variable {w0 w : World} {F R : List HProp} {d i : Nat} {D : Med} {fsv fv nv wv v lv bv : Value} {xs : List RF} {x : RF} {g : Bag} {K : Nat}
theorem chgs_ro {ws : List (Chg × Value)} {p : Chg × Value} (hp : p ∈ ws) : Ro w0 (chgs ws :: R) (rdsl 1 p.2 (bys p.1.b)) := fun w hw => by
  obtain ⟨G, hG⟩ := stars_mem _ _ (List.mem_map.2 ⟨p, hp, rfl⟩ : bsl p.2 p.1.b ∈ ws.map fun p => bsl p.2 p.1.b)
  unfold chgs at hw
  rw [hG] at hw
  exact Sat.rd (Sat.star.1 hw)
theorem file_ro2 (h : x ∈ xs) : Ro w0 (stars (xs.map rfR) :: R) (rdsl 3 x.wv (x.ws.flatMap chgCells)) ∧ ∀ p ∈ x.ws, Ro w0 (stars (xs.map rfR) :: R) (rdsl 1 p.2 (bys p.1.b)) := by
  obtain ⟨i, hi⟩ := List.getElem?_of_mem h
  refine ⟨fun w hw => ?_, fun p hp w hw => ?_⟩
  · obtain ⟨G, _, hO⟩ := rf_out hi hw
    exact Sat.rd (hO.pick pick2)
  · obtain ⟨G, _, hO⟩ := rf_out hi hw
    exact chgs_ro hp _ (hO.pick pick3)
theorem file_pv (h : x ∈ xs) (hs : Sat w0 w (stars (xs.map rfR) :: R)) : ∀ p ∈ x.ws, ∃ a c, p.2 = .slice a p.1.b.length c ∧ p.1.b.length ≤ c := fun p hp => by
  obtain ⟨i, hi⟩ := List.getElem?_of_mem h
  obtain ⟨G, _, hO⟩ := rf_out hi hs
  have h1 := hO.pick pick3
  obtain ⟨G2, hG⟩ := stars_mem _ _ (List.mem_map.2 ⟨p, hp, rfl⟩ : bsl p.2 p.1.b ∈ x.ws.map fun p => bsl p.2 p.1.b)
  unfold chgs at h1
  rw [hG] at h1
  obtain ⟨a, c, e1, e2, _⟩ := bsl_sl (Sat.star.1 h1)
  exact ⟨a, c, e1, e2⟩
theorem bsl_of_rd {a : Option Addr} {n c k : Nat} {l : Bs} (h : rdsl 1 (.slice a n c) (bys l) w) (hk : k ≤ l.length) : rdsl 1 (.slice a k c) (bys (l.take k)) w := by
  have := rdsl_min h k
  obtain ⟨_, _, _, he, hl, _⟩ := h
  cases he
  rw [bys_len, Nat.mul_one] at hl
  subst hl
  rw [Nat.min_eq_right hk] at this
  unfold bys
  rw [List.map_take]
  exact this
theorem rf_add {ys : List RF} {B : Bs} {v1 v2 : Value} (h : Sat w0 w (bsl v1 B :: bsl v2 B :: stars (ys.map rfR) :: R)) : Sat w0 w (stars ((ys ++ [(⟨⟨B, B, []⟩, v1, v2, .slice none 0 0, []⟩ : RF)]).map rfR) :: R) := by
  rw [List.map_append, stars_append]
  refine Sat.star.2 ?_
  refine Sat.sub (L := stars ([(⟨⟨B, B, []⟩, v1, v2, .slice none 0 0, []⟩ : RF)].map rfR) :: stars (ys.map rfR) :: R) ?_ (sub_take pick1 (sub_take pick0 sub_refl))
  refine Sat.star.2 ?_
  have h1 : Sat w0 w (stars ([] : List HProp) :: bsl v1 B :: bsl v2 B :: stars (ys.map rfR) :: R) := Sat.emp.2 h
  have h2 : Sat w0 w (stars [] :: stars ([] : List HProp) :: bsl v1 B :: bsl v2 B :: stars (ys.map rfR) :: R) := Sat.emp.2 h1
  have h3 : Sat w0 w (chgs [] :: stars [] :: stars ([] : List HProp) :: bsl v1 B :: bsl v2 B :: stars (ys.map rfR) :: R) := Sat.emp.2 h2
  have h4 := Sat.star.2 h3
  have h5 : Sat w0 w (osl 155 3 (.slice none 0 0) [] :: stars [chgs []] :: stars ([] : List HProp) :: bsl v1 B :: bsl v2 B :: stars (ys.map rfR) :: R) := Sat.osl_nil.2 h4
  have h6 := Sat.star.2 h5
  have h7 := Sat.star.2 (h6.sub (sub_take pick3 (sub_take pick0 sub_refl)))
  have h8 := Sat.star.2 (h7.sub (sub_take pick2 (sub_take pick0 sub_refl)))
  exact h8.sub (sub_take pick0 (sub_take pick0 (sub_take pick0 sub_refl)))
theorem rfs_snoc (ys : List RF) (y : RF) : rfsL ys ++ [y.fv, y.nv, y.wv] = rfsL (ys ++ [y]) := by unfold rfsL; rw [List.flatMap_append]; simp [rfL]
theorem nms_snoc (l : Names) (s : ByteArray) (i : Nat) : nmsL l ++ [.string s, .int .i64 i] = nmsL (l ++ [(s, i)]) := by rw [nmsL_app]; rfl
theorem take_idx {α β : Type} (f : Nat → α → β) {l : List α} {i : Nat} {x : α} (h : l[i]? = some x) : (l.take (i + 1)).mapIdx f = (l.take i).mapIdx f ++ [f i x] := by
  obtain ⟨hlt, _⟩ := List.getElem?_eq_some_iff.1 h
  rw [List.take_add_one, h, Option.toList_some, List.mapIdx_concat, List.length_take, Nat.min_eq_left (by omega)]
section
variable {P : Program} {b o : Nat} {ops : Array Oper} {rest : List Oper} {a : Act} {Q : Exit → Act → World → Prop} {dst : Option Tmp} {t ty : Nat} {pos : String} {after : Array Edge} {y : Operand}
theorem wl_loadC (hx : a.eval y = .pointer (some ⟨b, o, none⟩)) (h1 : oneB P ty = true) (hc : w.cell? ⟨b, o, none⟩ = some v)
    (h : wpList P ops Q rest (a.put dst v) w) : wpList P ops Q (⟨dst, .load ty y, t, pos, after, none⟩ :: rest) a w :=
  wpList_plain rfl fun _ hK => by
    unfold Oper.wp execOp
    simp only [hx, Instr.loadAt, Instr.sureAddr, Sem.run_bind, Sem.run_pure, Result.andThen_ok, run_load1 h1 hc]
    exact hK _ _ h
end
set_option maxRecDepth 20000 in
set_option maxHeartbeats 16000000 in
theorem rcrash_c (l : List Int) (hl : Ro w0 F (rdsl 1 lv (ints l))) (ok : D.Ok K) (hK : K ≤ 1048576) (h : Sat w0 w (DskRep d D :: F)) :
    Calls Tryz.prog 30 #[ptr d, lv] w (Rtn fun _ w' => Sat w0 w' (DskRep d (D.rcrash l) :: F)) := by
  have Ok := Lib.hid ok; have HL := Lib.hid hl; have HK := Lib.hid hK
  obtain ⟨la, ln, lc, rfl, hln, _⟩ := id (hl _ h.drop)
  have hil : (ints l).length = l.length := List.length_map ..
  rw [hil, Nat.mul_one] at hln
  subst hln
  obtain ⟨fsv, fv, nv, wv, xs, g, hin, hR⟩ := DskRep.open h
  obtain ⟨fa, fn, fc, rfl, hfn, _⟩ := Sat.rd (hR.pick pick1)
  rw [rfsL_len] at hfn
  obtain rfl : fn = xs.length := by omega
  clear hfn
  obtain ⟨wa, wn, wc, rfl, hwn, _⟩ := Sat.rd (hR.pick pick4)
  rw [rlks_len] at hwn
  obtain rfl : wn = D.waits.length := by omega
  have hnu := rnum_c l la l.length lc 0 D.waits.length (hl _ h.drop)
  have hcl := clampN_le (num l 0) D.waits.length
  have hcr : D.rcrash l = { D with fast := (D.lastNames (clampN (num l 0) D.waits.length)).mapIdx fun i p => (p.1, i), now := (D.lastNames (clampN (num l 0) D.waits.length)).mapIdx fun i p => (p.1, i), waits := [], files := (D.lastNames (clampN (num l 0) D.waits.length)).mapIdx (D.rfile l), off := false, armed := false, left := 0 } := rfl
  have hns := rnamesn_c (clampN (num l 0) D.waits.length) hcl (Nat.le_trans ok.budget hK) (fun k hk => Nat.le_trans (ok.names k (Nat.le_trans hk hcl)).len (by decide)) hin.fast (hR.sub (sub_take pick0 (sub_take pick3 (sub_take pick2 sub_refl))))
  have hnk := ok.names _ hcl
  have e4 : w.cell? ⟨d, 4, none⟩ = some (.slice wa D.waits.length wc) := hR.cellP pick0 4 rfl
  generalize clampN (num l 0) D.waits.length = k0 at *
  generalize D.lastNames k0 = ns at *
  have Hin := Lib.hid hin; have Hcr := Lib.hid hcr; have Hnk := Lib.hid hnk
  clear ok hl hK h hin hR hwn hil hcl hcr hnk
  go_enter Tryz.func30, Tryz.ntmps30
  go_wp2_with fail
  refine hnu.mono ?_
  rintro ee w1 ⟨v, rfl, rfl, rfl⟩
  clear hnu
  go_wp2_with fail
  refine hns.mono ?_
  clear hns e4
  rintro ee w2 ⟨v, rfl, ov, g2, rfl, hon, hsub, hS⟩
  obtain ⟨na, nc, rfl⟩ := nms_sl (bag_ro (w0 := w0) hon w2 (hS.pick pick2))
  have Hon := Lib.hid hon
  clear hon hsub
  go_wp2_with fail
  go_loopg [5, 6, 7] ns.length (fun g' fq nq iq wr => ∃ (i : Nat) (ys : List RF), g' = ns.length - i ∧ i ≤ ns.length ∧ iq = .int .i64 i ∧ ys.map (·.f) = (ns.take i).mapIdx (D.rfile l) ∧ (∀ y ∈ ys, y.ws.map (·.1) = y.f.waits) ∧
    Sat w0 wr (osl 164 3 fq (rfsL ys) :: stars (ys.map rfR) :: osl 175 2 nq (nmsL ((ns.take i).mapIdx fun i p => (p.1, i))) :: dskPt d D (.slice fa xs.length fc) fv nv (.slice wa D.waits.length wc) :: bagR g2 :: osl 164 3 (.slice fa xs.length fc) (rfsL xs) :: stars (xs.map rfR) :: F))
  case atStart => exact ⟨0, [], rfl, Nat.zero_le _, rfl, rfl, by simp, Sat.osl_nil.2 (Sat.emp.2 (Sat.osl_nil.2 (hS.sub (sub_take pick0 (sub_take pick1 (sub_drop sub_refl))))))⟩
  case round =>
    obtain ⟨i, ys, rfl, hi, rfl, hys, hyo, hS⟩ := hrel
    by_cases hlt : i < ns.length
    · have hn500 := Hnk.out.len
      have c1 : (i : Int) < (ns.length : Int) := by omega
      have hwi : IntKind.i64.wrap ((i : Int) + 1) = (i : Int) + 1 := IntWalk.i64_in _ (by omega)
      have hwa : IntKind.i64.wrap (2 * (i : Int)) = 2 * (i : Int) := IntWalk.i64_in _ (by omega)
      have hwb : IntKind.i64.wrap (2 * (i : Int) + 1) = 2 * (i : Int) + 1 := IntWalk.i64_in _ (by omega)
      have hwc : IntKind.i64.wrap (2 * (i : Int) + 2) = 2 * (i : Int) + 2 := IntWalk.i64_in _ (by omega)
      obtain ⟨p, hp⟩ : ∃ p, ns[i]? = some p := ⟨_, List.getElem?_eq_getElem hlt⟩
      have hS2 := hS.drew
      have hpf := Hnk.out.ids p (List.mem_of_getElem? hp)
      obtain ⟨x, hx, hxf⟩ := Hin.out.file hpf
      have hok := Hin.out.ok x (List.mem_of_getElem? hx)
      have okf := Ok.out.file p.2
      rw [← hxf] at okf
      have hrf : D.rfile l i p = x.f.crash (num l (2 * i + 1)) (num l (2 * i + 2)) := by unfold Med.rfile; rw [hxf]
      have Hlx := Lib.hid (show xs.length = D.files.length by rw [← Hin.out.files, List.length_map])
      have c2 : (p.2 : Int) < (xs.length : Int) := by have := Hlx.out; omega
      obtain ⟨h0, h1, h2⟩ := rfsL_at hx
      obtain ⟨bk2, off2, hfe, hc⟩ := rdsl_cells (Sat.rd (hS2.pick pick5)) h0
      subst hfe
      obtain ⟨bk, off, c, hee, e0, e1⟩ := nms_cells (bag_ro (w0 := w0) Hon.out _ (hS2.pick pick4)) hp
      cases hee
      have HN : Hid (∀ R w', Sat w0 w' (bagR g2 :: R) → w'.cell? ⟨bk, off + i * 2 + 1, none⟩ = some (.int .i64 p.2)) := fun R w' hw' => by
        obtain ⟨_, _, _, hee, _, e1⟩ := nms_cells (bag_ro (w0 := w0) Hon.out _ hw') hp
        cases hee; exact e1
      have HN0 : Hid (∀ R w', Sat w0 w' (bagR g2 :: R) → w'.cell? ⟨bk, off + i * 2, none⟩ = some (.string p.1)) := fun R w' hw' => by
        obtain ⟨_, _, _, hee, e0, _⟩ := nms_cells (bag_ro (w0 := w0) Hon.out _ hw') hp
        cases hee; exact e0
      have r1 := (file_ro (w0 := w0) (R := F) (List.mem_of_getElem? hx)).2
      obtain ⟨r2, r3⟩ := file_ro2 (w0 := w0) (R := F) (List.mem_of_getElem? hx)
      obtain ⟨xna, xnc, hxn, _⟩ := file_nv (List.mem_of_getElem? hx) (hS2.pick pick6)
      have hpv := file_pv (List.mem_of_getElem? hx) (hS2.pick pick6)
      obtain ⟨xf, xfv, xnv, xwv, xws⟩ := x
      dsimp only at hxf hok okf hrf h0 h1 h2 r1 r2 r3 hxn hpv
      obtain ⟨xfa, xfn, xfc, rfl, _⟩ := id (r1 _ (hS2.sub (sub_drop (sub_drop (sub_drop (sub_drop (sub_drop (sub_drop sub_refl))))))))
      obtain ⟨xwa, xwc, rfl⟩ := chg_sl (r2 _ (hS2.sub (sub_drop (sub_drop (sub_drop (sub_drop (sub_drop (sub_drop sub_refl))))))))
      subst hxn
      have HF : Hid (∀ R w', Sat w0 w' (osl 164 3 (.slice (some ⟨bk2, off2, none⟩) xs.length fc) (rfsL xs) :: R) → w'.rangeAt bk2 (off2 + p.2 * 3) [.slice xfa xfn xfc, .slice xna xf.now.length xnc, .slice xwa xws.length xwc]) := fun R w' hw' => by
        obtain ⟨_, _, hfe, hc⟩ := rdsl_cells (Sat.rd hw') h0
        cases hfe
        intro j v hj
        match j, hj with
        | 0, hj => cases hj; exact hc _ _ h0
        | 1, hj => cases hj; rw [Nat.add_assoc]; exact hc _ _ h1
        | 2, hj => cases hj; rw [Nat.add_assoc]; exact hc _ _ h2
      have HPV := Lib.hid hpv; clear hpv
      have Hlt := Lib.hid hlt; have Hp := Lib.hid hp; have Hxf := Lib.hid hxf; have Hok := Lib.hid hok; have Okf := Lib.hid okf; have Hrf := Lib.hid hrf; have R1 := Lib.hid r1; have R2 := Lib.hid r2; have R3 := Lib.hid r3; have Hys := Lib.hid hys; have Hyo := Lib.hid hyo
      have hwb2 : xws.length ≤ 1048576 := by rw [← List.length_map (f := fun p : Chg × Value => p.1), hok]; exact Nat.le_trans okf.budget HK.out
      have hyl : ys.length = i := by rw [← List.length_map (f := fun r : RF => r.f), hys, List.length_mapIdx, List.length_take]; omega
      have hlen : (rfsL ys).length ≤ 2147483648 := by rw [rfsL_len]; omega
      have hlen2 : (nmsL ((ns.take i).mapIdx fun i p => (p.1, i))).length ≤ 2147483648 := by rw [nmsL_len, List.length_mapIdx, List.length_take]; omega
      clear hS hlt hp hx hxf hok okf hrf h0 h1 h2 hc r1 r2 r3 hys hyo hpf e0 e1 hyl
      go_wp2_with fail
      refine wpL_begin [12] (fun w' => w'.cell? ⟨d, 1, none⟩ = some (.slice (some ⟨bk2, off2, none⟩) xs.length fc) ∧ w'.cell? ⟨bk, off + i * 2 + 1, none⟩ = some (.int .i64 p.2) ∧ w'.rangeAt bk2 (off2 + p.2 * 3) [.slice xfa xfn xfc, .slice xna xf.now.length xnc, .slice xwa xws.length xwc]) (by kernel_rfl) ?_
      have hG : World.cell? _ ⟨d, 1, none⟩ = some (.slice (some ⟨bk2, off2, none⟩) xs.length fc) ∧ World.cell? _ ⟨bk, off + i * 2 + 1, none⟩ = some (.int .i64 p.2) ∧ World.rangeAt _ bk2 (off2 + p.2 * 3) [.slice xfa xfn xfc, .slice xna xf.now.length xnc, .slice xwa xws.length xwc] := ⟨hS2.cellP pick3 1 rfl, HN.out _ _ (hS2.pick pick4), HF.out _ _ (hS2.pick pick5)⟩
      refine rp 0 (hy := (yl_move (by conv => lhs; whnf))) (h := ?_)
      refine rp 1 (hy := (yl_nil (by conv => lhs; whnf))) (h := ?_)
      refine rp 2 (hy := (yl_field (by conv => lhs; whnf) (by ((intro wq; go_simp); first | done | (with_reducible rfl))))) (h := ?_)
      refine rt 3 (h := ?_)
      refine rp 4 (hy := (yl_move (by conv => lhs; whnf))) (h := ?_)
      refine rp 5 (hy := (yl_move (by conv => lhs; whnf))) (h := ?_)
      refine rp 6 (hy := (yl_index (by conv => lhs; whnf) (by conv => lhs; whnf) (by ((intro wq; go_simp); first | done | (with_reducible rfl))))) (h := ?_)
      refine rp 7 (hy := (yl_field (by conv => lhs; whnf) (by ((intro wq; go_simp); first | done | (with_reducible rfl))))) (h := ?_)
      refine rt 8 (h := ?_)
      refine rp 9 (hy := (yl_index (by conv => lhs; whnf) (by conv => lhs; whnf) (by ((intro wq; go_simp); first | done | (with_reducible rfl))))) (h := ?_)
      refine rg_take 10 (by conv => lhs; whnf) (by kernel_rfl) (by intro _ _ _ h; exact h) (tg_loadN (P := Tryz.prog) [.slice xfa xfn xfc, .slice xna xf.now.length xnc, .slice xwa xws.length xwc] (by rfl) (by conv => lhs; whnf) Tryz.underlying164 rfl (by kernel_rfl) (fun w hw => hw.2.2)) (by assumption) (by go_frame; first | done | rfl) ?_
      refine rg_eff 11 (by conv => lhs; whnf) (by kernel_rfl) (fun K hK => ?_)
      refine eff_alloc zFile hS2 rfl ?_
      intro bX w3 hS3
      refine hK _ _ (.inr (.inl ⟨hS3.cellP pick4 1 rfl, HN.out _ _ (hS3.pick pick5), HF.out _ _ (hS3.pick pick6)⟩)) ?_
      clear hK hG hS2
      refine rg_eff 12 (by conv => lhs; whnf) (by kernel_rfl) (fun K hK => ?_)
      refine eff_store hS3 (by conv => lhs; whnf) (by conv => lhs; whnf) (by first | (simp only [putsAt, Value.cells]; (try go_frame); first | done | rfl) | rfl) (by first | ((repeat (first | with_reducible apply upd0 | with_reducible apply upd_there)); done) | ((repeat (first | apply upd0 | apply upd_there)); done) | fail) (Nat.le_of_ble_eq_true (by rfl)) (by kernel_rfl) (by rfl) ?_
      intro w4 hS4
      refine hK _ _ (.inl rfl) ?_
      refine wpL_done (by kernel_rfl) ?_
      clear hK hS3
      have hnu := rnum_c l la l.length lc (2 * i + 1) xws.length (HL.out _ (hS4.sb))
      rw [show ((2 * i + 1 : Nat) : Int) = 2 * (i : Int) + 1 by omega] at hnu
      have hnx := clampN_le (num l (2 * i + 1)) xws.length
      have hlw : xws.length = xf.waits.length := by rw [← Hok.out, List.length_map]
      have hleft : ∀ X : Bs, (match xf.waits[clampN (num l (2 * i + 1)) xws.length]? with | some c => if c.cut then xf.at (clampN (num l (2 * i + 1)) xws.length) else xf.at (clampN (num l (2 * i + 1)) xws.length) ++ c.b.take (clampN (num l (2 * i + 2)) c.b.length) | none => xf.at (clampN (num l (2 * i + 1)) xws.length)) = X → D.rfile l i p = ⟨X, X, []⟩ := by
        rintro X rfl
        rw [Hrf.out]
        unfold Fil.crash Fil.left
        rw [← hlw]
        rfl
      have HBlen : Hid (∀ X : Bs, D.rfile l i p = ⟨X, X, []⟩ → X.length ≤ 16777216) := fun X hX => by
        have h1 := Fil.left_len Okf.out (num l (2 * i + 1)) (num l (2 * i + 2))
        rw [Hrf.out] at hX
        unfold Fil.crash at hX
        injection hX with h2 h3 h4
        rw [← h2]; exact h1
      have Hleft := Lib.hid hleft
      generalize clampN (num l (2 * i + 1)) xws.length = n at *
      have hby := rbytes_c (fv := .slice xfa xfn xfc) (nv := .slice xna xf.now.length xnc) (wv := .slice xwa xws.length xwc) xf Okf.out xws Hok.out n (by omega) (by omega) (Ro.of_sub R1.out (sub_drop (sub_drop (sub_drop (sub_drop (sub_drop (sub_drop (sub_drop sub_refl)))))))) (Ro.of_sub R2.out (sub_drop (sub_drop (sub_drop (sub_drop (sub_drop (sub_drop (sub_drop sub_refl)))))))) (fun q hq => Ro.of_sub (R3.out q hq) (sub_drop (sub_drop (sub_drop (sub_drop (sub_drop (sub_drop (sub_drop sub_refl)))))))) hS4
      have Hnx := Lib.hid hnx; have Hlw := Lib.hid hlw
      clear hleft hnx hlw
      try simp only [List.getElem_toArray, List.getElem_cons_succ, List.getElem_cons_zero]
      try go_frame
      go_wp2_with ((with_reducible apply at_load); refine ⟨?_⟩; refine wl_load1 (by assumption) (by rfl) (by first | ((repeat (first | with_reducible apply pick0 | with_reducible apply pick_there)); done) | ((repeat (first | apply pick0 | apply pick_there)); done) | fail) (Nat.le_of_ble_eq_true (by rfl)) (by conv => lhs; whnf) (by kernel_rfl) ?_)
      refine hnu.mono ?_
      rintro ee w5 ⟨v, rfl, rfl, rfl⟩
      clear hnu
      go_wp2_with (first
        | ((with_reducible apply at_load); refine ⟨?_⟩; refine wl_loadA (b := bX) hS4 (by rfl) pick0 Tryz.underlying164 rfl (by kernel_rfl) ?_)
        | ((with_reducible apply at_load); refine ⟨?_⟩; refine wl_load1 (by assumption) (by rfl) (by first | ((repeat (first | with_reducible apply pick0 | with_reducible apply pick_there)); done) | ((repeat (first | apply pick0 | apply pick_there)); done) | fail) (Nat.le_of_ble_eq_true (by rfl)) (by conv => lhs; whnf) (by kernel_rfl) ?_))
      refine hby.mono ?_
      clear hby hS4
      rintro ee w5 ⟨v, rfl, hS5, b5, n5, c5, rfl⟩
      by_cases hnl : n < xws.length
      · obtain ⟨q, hq⟩ : ∃ q, xws[n]? = some q := ⟨_, List.getElem?_eq_getElem hnl⟩
        have hqw : xf.waits[n]? = some q.1 := by rw [← Hok.out, List.getElem?_map, hq]; rfl
        have c3 : (n : Int) < (xws.length : Int) := by omega
        obtain ⟨wbk, woff, wc2, hwe, q0, _, _⟩ := rchg_cells (R2.out _ (hS5.sub (sub_drop (sub_drop (sub_drop (sub_drop (sub_drop (sub_drop (sub_drop (sub_drop sub_refl)))))))))) hq
        cases hwe
        have HQ : Hid (∀ w', Sat w0 w' (stars (xs.map rfR) :: F) → w'.cell? ⟨wbk, woff + n * 3 + 2, none⟩ = some q.2) := fun w' hw' => by
          obtain ⟨_, _, _, hee, _, _, q2⟩ := rchg_cells (R2.out _ hw') hq
          cases hee; exact q2
        have Hq := Lib.hid hq; have Hqw := Lib.hid hqw
        clear hq hqw
        obtain ⟨⟨cut, cn, cb⟩, pv⟩ := q
        dsimp only at q0 HQ Hqw
        have f2 : World.cell? _ ⟨bX, 2, none⟩ = some (.slice (some ⟨wbk, woff, none⟩) xws.length xwc) := hS5.cellP pick1 2 rfl
        cases cut with
        | true =>
          have HB := Lib.hid (Hleft.out (xf.at n) (by rw [Hqw.out]; rfl))
          go_wp2_with ((with_reducible apply at_load); refine ⟨?_⟩; refine wl_load1 (by assumption) (by rfl) (by first | ((repeat (first | with_reducible apply pick0 | with_reducible apply pick_there)); done) | ((repeat (first | apply pick0 | apply pick_there)); done) | fail) (Nat.le_of_ble_eq_true (by rfl)) (by conv => lhs; whnf) (by kernel_rfl) ?_)
          clear q0 HQ c3 hnl f2
          go_wp2_with fail
          refine (copy_c hS5 (xf.at n) hS5.rd (Nat.le_trans (HBlen.out (xf.at n) HB.out) (by decide))).mono ?_
          rintro ee w6 ⟨v, rfl, hS6, a6, n6, c6, rfl⟩
          clear hS5
          go_wp2_with (first
            | ((with_reducible apply at_build1); refine ⟨?_⟩; refine wl_build1 (e := 164) (sz := 3) (by' := 72) (by kernel_rfl) hS6 (by rfl) (cs := #[.slice b5 n5 c5, .slice a6 n6 c6, .slice none 0 0]) rfl rfl (Nat.le_of_ble_eq_true (by rfl)) ?_; intro bN wN hN)
            | ((with_reducible apply at_append); refine ⟨?_⟩; refine wl_app 164 3 72 (by kernel_rfl) hN (by rfl) (by rfl) pick4 pick0 (by rfl) (Nat.le_refl 1) (by rfl) hlen (by show 3 ≤ 65536; decide) (by decide) rfl ?_; intro bA nA cA wA hA)
            | ((with_reducible apply at_load); refine ⟨?_⟩; refine wl_loadC (by rfl) (by kernel_rfl) (HN0.out _ _ (hA.pick (pick_there pick6))) ?_)
            | ((with_reducible apply at_build1); refine ⟨?_⟩; refine wl_build1 (e := 175) (sz := 2) (by' := 24) (by kernel_rfl) hA (by rfl) (cs := #[.string p.1, .int .i64 i]) rfl rfl (Nat.le_of_ble_eq_true (by rfl)) ?_; intro bM wM hM)
            | ((with_reducible apply at_append); refine ⟨?_⟩; refine wl_app 175 2 24 (by kernel_rfl) hM (by rfl) (by rfl) pick6 pick0 (by rfl) (Nat.le_refl 1) (by rfl) hlen2 (by show 2 ≤ 65536; decide) (by decide) rfl ?_; intro bC nC cC wC hC))
          go_roundg (ns.length - (i + 1))
          case measure => have := Hlt.out; omega
          case rel =>
            refine ⟨i + 1, ys ++ [⟨⟨(xf.at n), (xf.at n), []⟩, .slice b5 n5 c5, .slice a6 n6 c6, .slice none 0 0, []⟩], rfl, Nat.succ_le_of_lt Hlt.out, by first | rfl | go_num, ?_, ?_, ?_⟩
            · rw [List.map_append, Hys.out, take_idx _ Hp.out, HB.out]; rfl
            · intro y hy
              rcases List.mem_append.1 hy with hy | hy
              · exact Hyo.out y hy
              · rw [List.mem_singleton.1 hy]; rfl
            · rw [take_idx _ Hp.out, ← nms_snoc, ← rfs_snoc]
              have h7 := rf_add (hC.sub (sub_take pick3 (sub_take pick2 (sub_take pick3 sub_refl))))
              exact h7.sub (sub_take pick2 (sub_take pick0 (sub_take pick0 (sub_drop (sub_take pick0 (sub_take pick0 (sub_take pick0 (sub_take pick0 sub_refl))))))))
        | false =>
          have HB := Lib.hid (Hleft.out (xf.at n ++ cb.take (clampN (num l (2 * i + 2)) cb.length)) (by rw [Hqw.out]; rfl))
          go_wp2_with ((with_reducible apply at_load); refine ⟨?_⟩; refine wl_load1 (by assumption) (by rfl) (by first | ((repeat (first | with_reducible apply pick0 | with_reducible apply pick_there)); done) | ((repeat (first | apply pick0 | apply pick_there)); done) | fail) (Nat.le_of_ble_eq_true (by rfl)) (by conv => lhs; whnf) (by kernel_rfl) ?_)
          obtain ⟨pa, pc, hpe, hpc⟩ := HPV.out _ (List.mem_of_getElem? Hq.out)
          dsimp only at hpe hpc
          subst hpe
          have hkk := clampN_le (num l (2 * i + 2)) cb.length
          have hnu := fun w' (hw' : Sat w0 w' F) => rnum_c l la l.length lc (2 * i + 2) cb.length (HL.out w' hw')
          rw [show ((2 * i + 2 : Nat) : Int) = 2 * (i : Int) + 2 by omega] at hnu
          generalize clampN (num l (2 * i + 2)) cb.length = kk at *
          have hbl := HBlen.out _ HB.out
          rw [List.length_append] at hbl
          have Hrd := R3.out _ (List.mem_of_getElem? Hq.out)
          have c4 : (kk : Int) ≤ (pc : Int) := by omega
          dsimp only at Hrd
          have HRD := Lib.hid Hrd
          have Hbl := Lib.hid hbl; have Hkk := Lib.hid hkk
          clear Hrd hbl hkk hpc q0 f2 hnl
          have hS6 := hS5.drew
          refine wpL_begin [19, 20, 21] (fun w' => w'.cell? ⟨bX, 2, none⟩ = some (.slice (some ⟨wbk, woff, none⟩) xws.length xwc) ∧ w'.cell? ⟨wbk, woff + n * 3 + 2, none⟩ = some (.slice pa cb.length pc)) (by kernel_rfl) ?_
          have hG : World.cell? _ ⟨bX, 2, none⟩ = some (.slice (some ⟨wbk, woff, none⟩) xws.length xwc) ∧ World.cell? _ ⟨wbk, woff + n * 3 + 2, none⟩ = some (.slice pa cb.length pc) := ⟨hS6.cellP pick1 2 rfl, HQ.out _ (hS6.sub (sub_drop (sub_drop (sub_drop (sub_drop (sub_drop (sub_drop (sub_drop (sub_drop sub_refl)))))))))⟩
          refine rp 0 (hy := (yl_move (by conv => lhs; whnf))) (h := ?_)
          refine rp 1 (hy := (yl_field (by conv => lhs; whnf) (by ((intro wq; go_simp); first | done | (with_reducible rfl))))) (h := ?_)
          refine rt 2 (h := ?_)
          refine rp 3 (hy := (yl_move (by conv => lhs; whnf))) (h := ?_)
          refine rp 4 (hy := (yl_index (by conv => lhs; whnf) (by conv => lhs; whnf) (by ((intro wq; go_simp); first | done | (with_reducible rfl))))) (h := ?_)
          refine rp 5 (hy := (yl_field (by conv => lhs; whnf) (by ((intro wq; go_simp); first | done | (with_reducible rfl))))) (h := ?_)
          refine rt 6 (h := ?_)
          refine rp 7 (hy := (yl_move (by conv => lhs; whnf))) (h := ?_)
          refine rp 8 (hy := (yl_move (by conv => lhs; whnf))) (h := ?_)
          refine rp 9 (hy := (yl_bin (by conv => lhs; whnf) (by conv => lhs; whnf) (by ((intro wq; go_simp); first | done | (with_reducible rfl))))) (h := ?_)
          refine rp 10 (hy := (yl_bin (by conv => lhs; whnf) (by conv => lhs; whnf) (by ((intro wq; go_simp); first | done | (with_reducible rfl))))) (h := ?_)
          refine rp 11 (hy := (yl_field (by conv => lhs; whnf) (by ((intro wq; go_simp); first | done | (with_reducible rfl))))) (h := ?_)
          refine rt 12 (h := ?_)
          refine rp 13 (hy := (yl_move (by conv => lhs; whnf))) (h := ?_)
          refine rp 14 (hy := (yl_index (by conv => lhs; whnf) (by conv => lhs; whnf) (by ((intro wq; go_simp); first | done | (with_reducible rfl))))) (h := ?_)
          refine rp 15 (hy := (yl_field (by conv => lhs; whnf) (by ((intro wq; go_simp); first | done | (with_reducible rfl))))) (h := ?_)
          refine rt 16 (h := ?_)
          refine rp 17 (hy := (yl_len (by conv => lhs; whnf) (by ((intro wq; go_simp); first | done | (with_reducible rfl))))) (h := ?_)
          refine rg_eff 18 (by conv => lhs; whnf) (by kernel_rfl) (fun K hK => ?_)
          refine eff_call3 (by kernel_rfl) (by conv => lhs; whnf) (by conv => lhs; whnf) (by conv => lhs; whnf) ?_
          refine (hnu _ (hS6.sb)).mono ?_
          rintro ee w7 ⟨v, rfl, rfl, rfl⟩
          refine hK _ _ (.inr (.inr rfl)) ?_
          clear hK hnu
          refine rp 19 (hy := (by (refine Or.inl ⟨by rfl, ?_⟩; ((intro wq; go_simp); first | done | (with_reducible rfl))))) (h := ?_)
          refine rg_eff 20 (by conv => lhs; whnf) (by kernel_rfl) (fun K hK => ?_)
          refine eff_appB hS6 (by conv => lhs; whnf) (by conv => lhs; whnf) (bsl_of_rd (HRD.out _ (hS6.sub (sub_drop (sub_drop (sub_drop (sub_drop (sub_drop (sub_drop (sub_drop (sub_drop sub_refl)))))))))) Hkk.out) (by have := Hbl.out; omega) ?_
          intro b9 n9 c9 w9 hS9
          generalize xf.at n ++ cb.take kk = BB at hS9 HB
          refine hK _ _ (.inl rfl) ?_
          refine rp 21 (hy := (yl_assign (by conv => lhs; whnf))) (h := ?_)
          refine wpL_done (by kernel_rfl) ?_
          clear hS5 hS6 hG hK c3 c4 HQ
          have hS5 := hS9
          clear hS9
          try simp only [List.getElem_toArray, List.getElem_cons_succ, List.getElem_cons_zero]
          try go_frame
          go_wp2_with fail
          refine (copy_c hS5 BB hS5.rd (Nat.le_trans (HBlen.out BB HB.out) (by decide))).mono ?_
          rintro ee w6 ⟨v, rfl, hS6, a6, n6, c6, rfl⟩
          clear hS5
          go_wp2_with (first
            | ((with_reducible apply at_build1); refine ⟨?_⟩; refine wl_build1 (e := 164) (sz := 3) (by' := 72) (by kernel_rfl) hS6 (by rfl) (cs := #[.slice b9 n9 c9, .slice a6 n6 c6, .slice none 0 0]) rfl rfl (Nat.le_of_ble_eq_true (by rfl)) ?_; intro bN wN hN)
            | ((with_reducible apply at_append); refine ⟨?_⟩; refine wl_app 164 3 72 (by kernel_rfl) hN (by rfl) (by rfl) pick4 pick0 (by rfl) (Nat.le_refl 1) (by rfl) hlen (by show 3 ≤ 65536; decide) (by decide) rfl ?_; intro bA nA cA wA hA)
            | ((with_reducible apply at_load); refine ⟨?_⟩; refine wl_loadC (by rfl) (by kernel_rfl) (HN0.out _ _ (hA.pick (pick_there pick6))) ?_)
            | ((with_reducible apply at_build1); refine ⟨?_⟩; refine wl_build1 (e := 175) (sz := 2) (by' := 24) (by kernel_rfl) hA (by rfl) (cs := #[.string p.1, .int .i64 i]) rfl rfl (Nat.le_of_ble_eq_true (by rfl)) ?_; intro bM wM hM)
            | ((with_reducible apply at_append); refine ⟨?_⟩; refine wl_app 175 2 24 (by kernel_rfl) hM (by rfl) (by rfl) pick6 pick0 (by rfl) (Nat.le_refl 1) (by rfl) hlen2 (by show 2 ≤ 65536; decide) (by decide) rfl ?_; intro bC nC cC wC hC))
          go_roundg (ns.length - (i + 1))
          case measure => have := Hlt.out; omega
          case rel =>
            refine ⟨i + 1, ys ++ [⟨⟨BB, BB, []⟩, .slice b9 n9 c9, .slice a6 n6 c6, .slice none 0 0, []⟩], rfl, Nat.succ_le_of_lt Hlt.out, by first | rfl | go_num, ?_, ?_, ?_⟩
            · rw [List.map_append, Hys.out, take_idx _ Hp.out, HB.out]; rfl
            · intro y hy
              rcases List.mem_append.1 hy with hy | hy
              · exact Hyo.out y hy
              · rw [List.mem_singleton.1 hy]; rfl
            · rw [take_idx _ Hp.out, ← nms_snoc, ← rfs_snoc]
              have h7 := rf_add (hC.sub (sub_take pick3 (sub_take pick2 (sub_take pick3 sub_refl))))
              exact h7.sub (sub_take pick2 (sub_take pick0 (sub_take pick0 (sub_drop (sub_take pick0 (sub_take pick0 (sub_take pick0 (sub_take pick0 sub_refl))))))))
      · have HB := Lib.hid (Hleft.out (xf.at n) (by rw [List.getElem?_eq_none (by have := Hlw.out; omega)]))
        have c3 : ¬ (n : Int) < (xws.length : Int) := by omega
        have f2 : World.cell? _ ⟨bX, 2, none⟩ = some (.slice xwa xws.length xwc) := hS5.cellP pick1 2 rfl
        go_wp2_with ((with_reducible apply at_load); refine ⟨?_⟩; refine wl_load1 (by assumption) (by rfl) (by first | ((repeat (first | with_reducible apply pick0 | with_reducible apply pick_there)); done) | ((repeat (first | apply pick0 | apply pick_there)); done) | fail) (Nat.le_of_ble_eq_true (by rfl)) (by conv => lhs; whnf) (by kernel_rfl) ?_)
        clear f2
        clear c3 hnl
        go_wp2_with fail
        refine (copy_c hS5 (xf.at n) hS5.rd (Nat.le_trans (HBlen.out (xf.at n) HB.out) (by decide))).mono ?_
        rintro ee w6 ⟨v, rfl, hS6, a6, n6, c6, rfl⟩
        clear hS5
        go_wp2_with (first
          | ((with_reducible apply at_build1); refine ⟨?_⟩; refine wl_build1 (e := 164) (sz := 3) (by' := 72) (by kernel_rfl) hS6 (by rfl) (cs := #[.slice b5 n5 c5, .slice a6 n6 c6, .slice none 0 0]) rfl rfl (Nat.le_of_ble_eq_true (by rfl)) ?_; intro bN wN hN)
          | ((with_reducible apply at_append); refine ⟨?_⟩; refine wl_app 164 3 72 (by kernel_rfl) hN (by rfl) (by rfl) pick4 pick0 (by rfl) (Nat.le_refl 1) (by rfl) hlen (by show 3 ≤ 65536; decide) (by decide) rfl ?_; intro bA nA cA wA hA)
          | ((with_reducible apply at_load); refine ⟨?_⟩; refine wl_loadC (by rfl) (by kernel_rfl) (HN0.out _ _ (hA.pick (pick_there pick6))) ?_)
          | ((with_reducible apply at_build1); refine ⟨?_⟩; refine wl_build1 (e := 175) (sz := 2) (by' := 24) (by kernel_rfl) hA (by rfl) (cs := #[.string p.1, .int .i64 i]) rfl rfl (Nat.le_of_ble_eq_true (by rfl)) ?_; intro bM wM hM)
          | ((with_reducible apply at_append); refine ⟨?_⟩; refine wl_app 175 2 24 (by kernel_rfl) hM (by rfl) (by rfl) pick6 pick0 (by rfl) (Nat.le_refl 1) (by rfl) hlen2 (by show 2 ≤ 65536; decide) (by decide) rfl ?_; intro bC nC cC wC hC))
        go_roundg (ns.length - (i + 1))
        case measure => have := Hlt.out; omega
        case rel =>
          refine ⟨i + 1, ys ++ [⟨⟨(xf.at n), (xf.at n), []⟩, .slice b5 n5 c5, .slice a6 n6 c6, .slice none 0 0, []⟩], rfl, Nat.succ_le_of_lt Hlt.out, by first | rfl | go_num, ?_, ?_, ?_⟩
          · rw [List.map_append, Hys.out, take_idx _ Hp.out, HB.out]; rfl
          · intro y hy
            rcases List.mem_append.1 hy with hy | hy
            · exact Hyo.out y hy
            · rw [List.mem_singleton.1 hy]; rfl
          · rw [take_idx _ Hp.out, ← nms_snoc, ← rfs_snoc]
            have h7 := rf_add (hC.sub (sub_take pick3 (sub_take pick2 (sub_take pick3 sub_refl))))
            exact h7.sub (sub_take pick2 (sub_take pick0 (sub_take pick0 (sub_drop (sub_take pick0 (sub_take pick0 (sub_take pick0 (sub_take pick0 sub_refl))))))))
    · obtain rfl : i = ns.length := by omega
      have c1 : ¬ (ns.length : Int) < (ns.length : Int) := by omega
      rw [List.take_length] at hys hS
      obtain ⟨qa, qn, qc, rfl, _⟩ := Sat.rd (hS.pick pick0)
      obtain ⟨ma, mc, rfl⟩ := nms_sl (Sat.rd (hS.pick pick2))
      have Hys := Lib.hid hys; have Hyo := Lib.hid hyo
      clear hlt hys hyo
      go_wp2_with ((with_reducible apply at_store); refine ⟨?_⟩; refine wl_store (by assumption) (by rfl) (by conv => lhs; whnf) (by first | (simp only [putsAt, Value.cells]; (try go_frame); first | done | rfl) | rfl) (by first | ((repeat (first | with_reducible apply upd0 | with_reducible apply upd_there)); done) | ((repeat (first | apply upd0 | apply upd_there)); done) | fail) (Nat.le_of_ble_eq_true (by rfl)) (by kernel_rfl) (by rfl) ?_; intro wS hS)
      refine bodyPost_ret (results_none rfl _ _ _) rfl ?_
      refine ⟨_, rfl, ?_⟩
      rw [Hcr.out]
      have hS1 := hS
      clear hS
      rw [List.length_mapIdx] at hS1
      simp only [List.setIfInBounds_toArray, List.set_cons_zero, List.set_cons_succ] at hS1
      have hS2 : Sat w0 _ (osl 164 3 (.slice qa qn qc) (rfsL ys) :: stars (ys.map rfR) :: osl 175 2 (.slice ma ns.length mc) (nmsL (ns.mapIdx fun i p => (p.1, i))) :: dskPt d { D with fast := ns.mapIdx fun i p => (p.1, i), now := ns.mapIdx fun i p => (p.1, i), waits := [], files := ns.mapIdx (D.rfile l), off := false, armed := false, left := 0 } (.slice qa qn qc) (.slice ma ns.length mc) (.slice ma ns.length mc) (.slice none 0 0) :: F) :=
        hS1.sub (sub_take pick0 (sub_take pick0 (sub_take pick0 (sub_take pick0 (sub_drop (sub_drop (sub_drop sub_refl)))))))
      have h1 : Sat w0 _ (osl 243 3 (.slice none 0 0) [] :: _) := Sat.osl_nil.2 hS2
      have h2 : Sat w0 _ (stars [] :: osl 243 3 (.slice none 0 0) [] :: _) := Sat.emp.2 h1
      have h3 := bag_add (g := []) (h2.sub (sub_take pick4 (sub_take pick0 sub_refl)))
      have h4 := h3.sub (sub_take pick4 (sub_take pick2 (sub_take pick2 (sub_take pick0 (sub_take pick0 sub_refl)))))
      exact DskRep.shut (D := { D with fast := ns.mapIdx fun i p => (p.1, i), now := ns.mapIdx fun i p => (p.1, i), waits := [], files := ns.mapIdx (D.rfile l), off := false, armed := false, left := 0 }) ⟨Hys.out, Hyo.out, .head _, .head _⟩ h4
end
end Go.Proofs.YtmjldaedhmipkaaGreatDoor
/- bits.Get of four bytes, frame.number, frame.fits. -/
namespace Go.Frm
theorem num_snoc (l : Bs) (c : UInt8) : num (l ++ [c]) = num l + c.toNat * 256 ^ l.length := by
  induction l with
  | nil => show c.toNat + 256 * 0 = 0 + c.toNat * 1; omega
  | cons d l ih =>
    show d.toNat + 256 * num (l ++ [c]) = d.toNat + 256 * num l + c.toNat * 256 ^ (l.length + 1)
    rw [ih, Nat.pow_succ, Nat.mul_add, ← Nat.mul_assoc, Nat.mul_comm 256 (c.toNat), Nat.mul_assoc, Nat.mul_comm 256 (256 ^ l.length), ← Nat.add_assoc]
end Go.Frm
namespace Go.Proofs.YtmjldaedhmipkaaGreatDoor
open Go Go.Sl Go.Med Go.MapKept Go.RowKit
set_option linter.unusedVariables false
section
variable {w0 w : World} {F R : List HProp} {v bv dv x lv : Value}
theorem or_num (l : Bs) (c : UInt8) (k : Nat) (hl : l.length = k) (hk : k < 7) : bits .or .u64 ((Frm.num l : Nat) : Int) ((c.toNat : Int) * ((256 ^ k : Nat) : Int)) = ((Frm.num (l ++ [c]) : Nat) : Int) := by
  subst hl
  have h1 := Frm.num_lt l
  have h2 := c.toNat_lt
  have h3 : 256 ^ l.length ≤ 256 ^ 6 := Nat.pow_le_pow_right (by decide) (by omega)
  have h4 : c.toNat * 256 ^ l.length ≤ 255 * 256 ^ 6 := Nat.mul_le_mul (by omega) h3
  have h5 : (256 : Nat) ^ 6 = 281474976710656 := by decide
  have e : (c.toNat : Int) * ((256 ^ l.length : Nat) : Int) = ((c.toNat * 256 ^ l.length : Nat) : Int) := by rw [Int.natCast_mul]
  rw [e, u64_or_nat _ _ (by omega) (by omega), Frm.num_snoc]
  congr 1
  have hp : (256 : Nat) ^ l.length = 2 ^ (8 * l.length) := by rw [Nat.pow_mul]
  rw [hp] at h1 ⊢
  have := Nat.two_pow_add_eq_or_of_lt h1 c.toNat
  rw [Nat.or_comm, Nat.mul_comm c.toNat, ← this, Nat.add_comm]
theorem rdsl_cut4 {k : Nat} {l : Bs} {a : Option Addr} {n c : Nat} (h : rdsl 1 (.slice a n c) (bys l) w) : rdsl 1 (.slice a (min n k) c) (bys (l.take k)) w := by
  obtain ⟨a', n', c', he, hl, hx⟩ := h
  cases he
  rw [bys_len, Nat.mul_one] at hl
  refine ⟨a, _, c, rfl, by rw [bys_len, List.length_take]; omega, fun j y hj => ?_⟩
  have hj' : (bys l)[j]? = some y := by
    unfold bys at hj ⊢
    rw [List.map_take, List.getElem?_take] at hj
    split at hj
    · exact hj
    · cases hj
  exact hx j y hj'
set_option maxRecDepth 20000 in
set_option maxHeartbeats 8000000 in
theorem get4_c (c0 c1 c2 c3 : UInt8) (a : Option Addr) (c : Nat) (h : rdsl 1 (.slice a 4 c) (bys [c0, c1, c2, c3]) w) :
    Calls Tryz.prog 167 #[.slice a 4 c] w (Rtn fun v w' => v = .tuple #[.int .u64 (Frm.num [c0, c1, c2, c3] : Nat), .bool true] ∧ w = w') := by
  obtain ⟨bk, off, rfl, hc⟩ := rdsl_cells h (i := 0) rfl
  have e0 : w.cell? ⟨bk, off, none⟩ = some (.int .u8 c0.toNat) := hc 0 _ rfl
  have e1 : w.cell? ⟨bk, off + 1, none⟩ = some (.int .u8 c1.toNat) := hc 1 _ rfl
  have e2 : w.cell? ⟨bk, off + 2, none⟩ = some (.int .u8 c2.toNat) := hc 2 _ rfl
  have e3 : w.cell? ⟨bk, off + 3, none⟩ = some (.int .u8 c3.toNat) := hc 3 _ rfl
  have b0 := c0.toNat_lt; have b1 := c1.toNat_lt; have b2 := c2.toNat_lt; have b3 := c3.toNat_lt
  clear hc h
  go_enter Tryz.func167, Tryz.ntmps167
  go_wp2_with fail
  go_loopg [17, 4] 4 (fun g iq xq wr => ∃ i : Nat, g = 4 - i ∧ i ≤ 4 ∧ iq = .int .i64 i ∧ xq = .int .u64 (Frm.num ([c0, c1, c2, c3].take i) : Nat) ∧ wr = w)
  case atStart => exact ⟨0, rfl, by omega, rfl, rfl, rfl⟩
  case round =>
    obtain ⟨i, rfl, hi, rfl, rfl, rfl⟩ := hrel
    by_cases h4 : i < 4
    · have h0 : i = 0 ∨ i = 1 ∨ i = 2 ∨ i = 3 := by omega
      clear hi h4
      rcases h0 with rfl | rfl | rfl | rfl
      · have hq : bits .or .u64 ((Frm.num [] : Nat) : Int) (c0.toNat : Int) = ((Frm.num [c0] : Nat) : Int) := by
          have := or_num [] c0 0 rfl (by decide)
          simpa using this
        go_wp2_with fail
        go_roundg (4 - 1)
        case measure => decide
        case rel => exact ⟨1, rfl, by decide, by first | rfl | go_num, rfl, rfl⟩
      · have hq : bits .or .u64 ((Frm.num [c0] : Nat) : Int) ((c1.toNat : Int) * 256) = ((Frm.num [c0, c1] : Nat) : Int) := or_num [c0] c1 1 rfl (by decide)
        go_wp2_with fail
        go_roundg (4 - 2)
        case measure => decide
        case rel => exact ⟨2, rfl, by decide, by first | rfl | go_num, rfl, rfl⟩
      · have hq : bits .or .u64 ((Frm.num [c0, c1] : Nat) : Int) ((c2.toNat : Int) * 65536) = ((Frm.num [c0, c1, c2] : Nat) : Int) := or_num [c0, c1] c2 2 rfl (by decide)
        go_wp2_with fail
        go_roundg (4 - 3)
        case measure => decide
        case rel => exact ⟨3, rfl, by decide, by first | rfl | go_num, rfl, rfl⟩
      · have hq : bits .or .u64 ((Frm.num [c0, c1, c2] : Nat) : Int) ((c3.toNat : Int) * 16777216) = ((Frm.num [c0, c1, c2, c3] : Nat) : Int) := or_num [c0, c1, c2] c3 3 rfl (by decide)
        go_wp2_with fail
        go_roundg (4 - 4)
        case measure => decide
        case rel => exact ⟨4, rfl, by decide, by first | rfl | go_num, rfl, rfl⟩
    · obtain rfl : i = 4 := by omega
      go_wp2
      go_ret2
      exact ⟨_, rfl, rfl, rfl⟩
theorem four {l : Bs} (h : l.length = 4) : ∃ c0 c1 c2 c3, l = [c0, c1, c2, c3] := by
  match l, h with
  | [c0, c1, c2, c3], _ => exact ⟨c0, c1, c2, c3, rfl⟩
theorem get4_l (l : Bs) (hl : l.length = 4) (a : Option Addr) (c : Nat) (h : rdsl 1 (.slice a 4 c) (bys l) w) :
    Calls Tryz.prog 167 #[.slice a 4 c] w (Rtn fun v w' => v = .tuple #[.int .u64 (Frm.num l : Nat), .bool true] ∧ w = w') := by
  obtain ⟨c0, c1, c2, c3, rfl⟩ := four hl
  exact get4_c c0 c1 c2 c3 a c h
set_option maxHeartbeats 2000000 in
theorem number_c (l : Bs) (hl : 4 ≤ l.length) (a : Option Addr) (n c : Nat) (hn : n ≤ c) (hc : c ≤ 9223372036854775807) (h : rdsl 1 (.slice a n c) (bys l) w) :
    Calls Tryz.prog 143 #[.slice a n c] w (Rtn fun v w' => v = .int .u32 (Frm.num (l.take 4) : Nat) ∧ w = w') := by
  have hln : n = l.length := by
    obtain ⟨_, _, _, he, hl', _⟩ := h
    cases he
    rw [bys_len, Nat.mul_one] at hl'; exact hl'.symm
  have h4 := rdsl_cut4 (k := 4) h
  rw [show min n 4 = 4 by omega] at h4
  have hg := get4_l (l.take 4) (by rw [List.length_take]; omega) a c h4
  have hlt := Frm.num_lt (l.take 4)
  rw [List.length_take, Nat.min_eq_left hl] at hlt
  have hb : (Frm.num (l.take 4) : Int) < 4294967296 := by omega
  have hc4 : (4 : Int) ≤ (c : Int) := by omega
  generalize Frm.num (l.take 4) = N at *
  clear hlt hln h4 h hl
  have hw : IntKind.u32.wrap (N : Int) = (N : Int) := by rw [IntKind.wrap_u32]; omega
  go_enter Tryz.func143, Tryz.ntmps143
  go_wp2_with (go_at_call 167; refine hg.mono ?_; rintro e w1 ⟨v, rfl, rfl, rfl⟩)
  go_ret
  exact ⟨_, rfl, rfl, rfl⟩
set_option maxHeartbeats 2000000 in
theorem fits_c (t : UInt8) (n : Nat) (hn : n < 4294967296) (w : World) :
    Calls Tryz.prog 144 #[.int .u8 t.toNat, .int .i64 n] w (Rtn fun v w' => v = .bool (Frm.fits t n) ∧ w = w') := by
  have htl := t.toNat_lt
  by_cases h0 : t = 0
  · subst h0
    by_cases h1 : 41 ≤ n
    · by_cases h2 : n ≤ 16425
      · have Hf := Lib.hid (show Frm.fits 0 n = true by unfold Frm.fits; rw [if_pos rfl]; exact decide_eq_true ⟨h1, h2⟩)
        have c1 : (41 : Int) ≤ (n : Int) := by omega
        have c2 : (n : Int) ≤ 16425 := by omega
        clear h1 h2
        go_enter Tryz.func144, Tryz.ntmps144
        go_wp2
        go_ret
        rw [Hf.out]
        exact ⟨_, rfl, rfl, rfl⟩
      · have Hf := Lib.hid (show Frm.fits 0 n = false by unfold Frm.fits; rw [if_pos rfl]; exact decide_eq_false (by omega))
        have c1 : (41 : Int) ≤ (n : Int) := by omega
        have c2 : decide ((n : Int) ≤ 16425) = false := decide_eq_false (by omega)
        clear h1 h2
        go_enter Tryz.func144, Tryz.ntmps144
        go_wp2
        go_ret
        rw [Hf.out]
        exact ⟨_, rfl, rfl, rfl⟩
    · have Hf := Lib.hid (show Frm.fits 0 n = false by unfold Frm.fits; rw [if_pos rfl]; exact decide_eq_false (by omega))
      have c1 : decide ((41 : Int) ≤ (n : Int)) = false := decide_eq_false (by omega)
      clear h1
      go_enter Tryz.func144, Tryz.ntmps144
      go_wp2
      go_ret
      rw [Hf.out]
      exact ⟨_, rfl, rfl, rfl⟩
  by_cases h1 : t = 1
  · subst h1
    have Hf := Lib.hid (show Frm.fits 1 n = decide (n = 41) by unfold Frm.fits; rw [if_neg (by decide), if_pos rfl])
    have He := Lib.hid (show ((n : Int) == 41) = decide (n = 41) by rw [Bool.eq_iff_iff, beq_iff_eq, decide_eq_true_eq]; omega)
    go_enter Tryz.func144, Tryz.ntmps144
    go_wp2
    go_ret
    rw [Hf.out, ← He.out]
    exact ⟨_, rfl, rfl, rfl⟩
  by_cases h2 : t = 2
  · subst h2
    have Hf := Lib.hid (show Frm.fits 2 n = decide (n = 9) by unfold Frm.fits; rw [if_neg (by decide), if_neg (by decide), if_pos rfl])
    have He := Lib.hid (show ((n : Int) == 9) = decide (n = 9) by rw [Bool.eq_iff_iff, beq_iff_eq, decide_eq_true_eq]; omega)
    go_enter Tryz.func144, Tryz.ntmps144
    go_wp2
    go_ret
    rw [Hf.out, ← He.out]
    exact ⟨_, rfl, rfl, rfl⟩
  · have Hf := Lib.hid (show Frm.fits t n = false by unfold Frm.fits; rw [if_neg h0, if_neg h1, if_neg h2])
    have g0 : ((t.toNat : Int) == 0) = false := by rw [beq_eq_false_iff_ne]; intro h; exact h0 (UInt8.toNat_inj.1 (by rw [show (0 : UInt8).toNat = 0 from rfl]; omega))
    have g1 : ((t.toNat : Int) == 1) = false := by rw [beq_eq_false_iff_ne]; intro h; exact h1 (UInt8.toNat_inj.1 (by rw [show (1 : UInt8).toNat = 1 from rfl]; omega))
    have g2 : ((t.toNat : Int) == 2) = false := by rw [beq_eq_false_iff_ne]; intro h; exact h2 (UInt8.toNat_inj.1 (by rw [show (2 : UInt8).toNat = 2 from rfl]; omega))
    clear h0 h1 h2
    generalize t.toNat = T at *
    go_enter Tryz.func144, Tryz.ntmps144
    go_wp2
    go_ret
    rw [Hf.out]
    exact ⟨_, rfl, rfl, rfl⟩
end
end Go.Proofs.YtmjldaedhmipkaaGreatDoor
/- Parts of an entry stored; bytes.Clone; frame.Read. -/
namespace Go.Proofs.YtmjldaedhmipkaaGreatDoor
open Go Go.Sl Go.Med Go.MapKept Go.RowKit
set_option linter.unusedVariables false
section
variable {w0 w : World} {L L' R : List HProp} {b : Nat} {ops : Array Oper} {rest : List Oper} {a : Act} {Q : Exit → Act → World → Prop}
variable {dst : Option Tmp} {t T : TypeId} {pos : String} {after : Array Edge} {x y : Operand} {cs : Array Value} {v : Value} {e : Frm.Ent} {da : Option Addr} {dn dc : Nat}
theorem run_buildTag (tag : Int) (w : World) : (Instr.build 44 #[(0, .int .i64 tag)]).run Tryz.prog w = .ok (.agg (entA ⟨tag, Frm.zero32, []⟩ (.slice none 0 0))) w := by
  have hz : (entA Frm.zeroE (.slice none 0 0)).size = 34 := entA_size _ _ rfl
  have h := run_build (P := Tryz.prog) [(0, .int .i64 tag)] plEnt zEnt (by
    intro p hp
    rw [List.mem_singleton] at hp
    subst hp
    have hzz : zeroEntV.cells.size = 34 := hz
    rw [hzz]
    exact ⟨0, rfl, by show 0 + 1 ≤ 34; omega⟩) w
  exact h
theorem wl_buildTag {tag : Int} (hx : a.eval x = .int .i64 tag) (h : wpList Tryz.prog ops Q rest (a.put dst (.agg (entA ⟨tag, Frm.zero32, []⟩ (.slice none 0 0)))) w) : wpList Tryz.prog ops Q (⟨dst, .build 44 #[(0, x)], t, pos, after, none⟩ :: rest) a w :=
  wpList_plain rfl fun _ hK => by
    unfold Oper.wp execOp
    simp only [List.map_toArray, List.map_cons, List.map_nil, hx, Sem.run_bind, run_buildTag, Result.andThen_ok, Sem.run_pure]
    exact hK _ _ h
theorem wl_buildZ (h : wpList Tryz.prog ops Q rest (a.put dst (.agg (entA Frm.zeroE (.slice none 0 0)))) w) : wpList Tryz.prog ops Q (⟨dst, .build 44 #[], t, pos, after, none⟩ :: rest) a w :=
  wpList_plain rfl fun _ hK => by
    unfold Oper.wp execOp
    simp only [List.map_toArray, List.map_nil, Sem.run_bind, run_zeroEnt, Result.andThen_ok, Sem.run_pure]
    exact hK _ _ h
theorem at_buildTag (h : Stop (wpList Tryz.prog ops Q (⟨dst, .build 44 #[(0, x)], t, pos, after, none⟩ :: rest) a w)) : wpList Tryz.prog ops Q (⟨dst, .build 44 #[(0, x)], t, pos, after, none⟩ :: rest) a w := h.out
theorem at_buildZ (h : Stop (wpList Tryz.prog ops Q (⟨dst, .build 44 #[], t, pos, after, none⟩ :: rest) a w)) : wpList Tryz.prog ops Q (⟨dst, .build 44 #[], t, pos, after, none⟩ :: rest) a w := h.out
theorem wl_slice2 {P : Program} {ty : TypeId} {z : Operand} {vx vy vz : Value} (hx : a.eval x = vx) (hy : a.eval y = vy) (hz : a.eval z = vz) (hr : ∀ w, (Instr.sliceAt ty vx (some vy) (some vz) none).run P w = .ok v w)
    (h : wpList P ops Q rest (a.put dst v) w) : wpList P ops Q (⟨dst, .slice ty x (some y) (some z) none, t, pos, after, none⟩ :: rest) a w :=
  wpList_plain rfl fun _ hK => by
    unfold Oper.wp execOp
    simp only [hx, hy, hz, Option.map_some, Option.map_none, Sem.run_bind, hr, Result.andThen_ok, Sem.run_pure]
    exact hK _ _ h
theorem at_slice2 {P : Program} {ty : TypeId} {z : Operand} (h : Stop (wpList P ops Q (⟨dst, .slice ty x (some y) (some z) none, t, pos, after, none⟩ :: rest) a w)) : wpList P ops Q (⟨dst, .slice ty x (some y) (some z) none, t, pos, after, none⟩ :: rest) a w := h.out
theorem run_arrKey (ad : Addr) (c : Nat) (w : World) : (Instr.arrayAt 41 (.slice (some ad) 32 c)).run Tryz.prog w = .ok (.pointer (some ad)) w := by
  simp [Instr.arrayAt, run_underlying (P := Tryz.prog) Tryz.underlying41]
theorem puts_key {e : Frm.Ent} {dv : Value} (hk : e.key.length = 32) (key : Bs) (hk2 : key.length = 32) : putsAt (entA e dv) 1 (bys key) = entA ⟨e.tag, key, e.data⟩ dv := by
  apply putsAt_eq
  have hz := entA_size e dv hk
  have h1 : (bys key).length = 32 := by rw [bys_len, hk2]
  have h2 : (bys e.key).length = 32 := by rw [bys_len, hk]
  rw [putsAt_list _ _ _ (by omega)]
  unfold entA entL
  rw [List.toList_toArray, List.toList_toArray, h1, show 1 + 32 = 32 + 1 by omega, List.drop_succ_cons, List.take_succ_cons, List.take_zero, List.drop_append_of_le_length (by omega), List.drop_of_length_le (by omega)]
  simp
theorem puts_data {e : Frm.Ent} {dv : Value} (hk : e.key.length = 32) (data : Bs) (dv2 : Value) : putsAt (entA e dv) 33 [dv2] = entA ⟨e.tag, e.key, data⟩ dv2 := by
  apply putsAt_eq
  have hz := entA_size e dv hk
  have h2 : (bys e.key).length = 32 := by rw [bys_len, hk]
  rw [putsAt_list _ _ _ (by simp; omega)]
  unfold entA entL
  rw [List.toList_toArray, List.toList_toArray, List.length_singleton, show 33 + 1 = 33 + 1 from rfl, List.drop_succ_cons, List.take_succ_cons, List.take_append_of_le_length (by omega), List.take_of_length_le (by omega), List.drop_of_length_le (by simp; omega)]
  simp
theorem infoKey : (Tryz.prog.info? 41).map (·.size) = some 32 := by kernel_rfl
theorem infoSl : (Tryz.prog.info? 42).map (·.size) = some 1 := by kernel_rfl
/-- The key of an entry is stored. -/
theorem wl_storeK {dv : Value} {key : Bs} (hs : Sat w0 w L) (hx : a.eval x = .pointer (some ⟨b, 1, none⟩)) (hy : a.eval y = .agg (bys key).toArray) (hk : e.key.length = 32) (hk2 : key.length = 32) (u : Upd (pt b (.cells (entA e dv) T (0,0))) (pt b (.cells (entA ⟨e.tag, key, e.data⟩ dv) T (0,0))) L L')
    (hK : ∀ w', Sat w0 w' L' → wpList Tryz.prog ops Q rest (a.put dst undef) w') : wpList Tryz.prog ops Q (⟨dst, .store 41 x y, t, pos, after, none⟩ :: rest) a w := by
  obtain ⟨R', h2, h3⟩ := u
  have hz := entA_size e dv hk
  have hb : (bys key).toArray.size = 32 := by simp [bys, hk2]
  refine wpList_store_sat (w0 := w0) rfl 41 x y rfl 1 (.agg (bys key).toArray) hx hy (show 1 + (bys key).toArray.size ≤ (entA e dv).size by omega) (show _ = some (bys key).toArray.size by rw [hb]; exact infoKey) ?_ (hs.perm h2) fun w' hS => hK w' ?_
  · show (bys key).toArray.all _ = true
    rw [← Array.all_toList]
    exact List.all_eq_true.2 (bys_one _)
  · have he : putsAt (entA e dv) 1 (Value.agg (bys key).toArray).cells.toList = entA ⟨e.tag, key, e.data⟩ dv := puts_key hk key hk2
    rw [he] at hS
    exact hS.perm h3.symm
/-- The data of an entry are stored. -/
theorem wl_storeD {dv : Value} {data : Bs} (hs : Sat w0 w L) (hx : a.eval x = .pointer (some ⟨b, 33, none⟩)) (hy : a.eval y = .slice da dn dc) (hk : e.key.length = 32) (u : Upd (pt b (.cells (entA e dv) T (0,0))) (pt b (.cells (entA ⟨e.tag, e.key, data⟩ (.slice da dn dc)) T (0,0))) L L')
    (hK : ∀ w', Sat w0 w' L' → wpList Tryz.prog ops Q rest (a.put dst undef) w') : wpList Tryz.prog ops Q (⟨dst, .store 42 x y, t, pos, after, none⟩ :: rest) a w := by
  obtain ⟨R', h2, h3⟩ := u
  have hz := entA_size e dv hk
  refine wpList_store_sat (w0 := w0) rfl 42 x y rfl 33 (.slice da dn dc) hx hy (show 33 + 1 ≤ (entA e dv).size by omega) infoSl (by simp [Value.cells, Value.oneCell']) (hs.perm h2) fun w' hS => hK w' ?_
  have he : putsAt (entA e dv) 33 (Value.slice da dn dc).cells.toList = entA ⟨e.tag, e.key, data⟩ (.slice da dn dc) := puts_data hk data _
  rw [he] at hS
  exact hS.perm h3.symm
/-- The results: an entry that lies in a cell, and two values. -/
theorem res_entE3 {fn : Func} {p u q : Tmp} {tmps : Array Value} (hf : fn.results = #[.cell p 44, .tmp u, .tmp q]) (hs : Sat w0 w L) (hp : tmps.getD p undef = .pointer (some ⟨b, 0, none⟩)) (k : Pick (pt b (.cells (entA e (.slice da dn dc)) T (0,0))) L R) (hk : e.key.length = 32) :
    (results fn tmps).run Tryz.prog w = .ok (.tuple #[.agg (entA e (.slice da dn dc)), tmps.getD u undef, tmps.getD q undef]) w := by
  have hl := run_loadVar_row (P := Tryz.prog) w b T 44 (entA e (.slice da dn dc)) (0, 0) _ (hs.pick k).at Tryz.underlying44 (by rfl) (by rw [entA_size e _ hk]; exact infoEntSize)
  have hp' : tmps[p]?.getD undef = .pointer (some ⟨b, 0, none⟩) := by simpa using hp
  simp [results, hf, hp', asAddr, hl, Result.andThen]
end
section
variable {w0 w : World} {F R : List HProp} {v bv dv x lv : Value}
/-- A part of a slice that is read. -/
theorem rdsl_sub {l : Bs} {bk off n c : Nat} (h : rdsl 1 (.slice (some ⟨bk, off, none⟩) n c) (bys l) w) (i j c' : Nat) (hij : i ≤ j) (hj : j ≤ l.length) : rdsl 1 (.slice (some ⟨bk, off + i, none⟩) (j - i) c') (bys ((l.take j).drop i)) w := by
  obtain ⟨a', n', c'', he, hl, hx⟩ := h
  cases he
  refine ⟨_, _, _, rfl, by rw [bys_len, List.length_drop, List.length_take]; omega, fun k y hk => ⟨_, rfl, ?_⟩⟩
  have hk' : (bys l)[i + k]? = some y := by
    unfold bys at hk ⊢
    rw [List.map_drop, List.map_take, List.getElem?_drop, List.getElem?_take] at hk
    split at hk
    · exact hk
    · cases hk
  obtain ⟨b', hb', hc⟩ := hx _ _ hk'
  cases hb'
  rw [Addr.add_mid] at hc ⊢
  rw [Nat.add_assoc]; exact hc
end
end Go.Proofs.YtmjldaedhmipkaaGreatDoor
/- frame.Read. -/
namespace Go.Proofs.YtmjldaedhmipkaaGreatDoor
open Go Go.Sl Go.Med Go.MapKept Go.RowKit
set_option linter.unusedVariables false
section
variable {w0 w : World} {F R : List HProp} {v bv dv x lv : Value}
set_option maxRecDepth 20000 in
set_option maxHeartbeats 8000000 in
theorem fread_c (l : Bs) (hr : Ro w0 F (rdsl 1 bv (bys l))) (hcap : capOk bv) (hH : Ro w0 F Half) (hl : l.length ≤ 1099511627776) (h : Sat w0 w F) :
    Calls Tryz.prog 98 #[bv] w (Rtn fun v w' => ∃ da dc, v = .tuple #[.agg (entA (Frm.read l).1 (.slice da (Frm.read l).1.data.length dc)), .int .i64 (Frm.read l).2.1, errno (Frm.read l).2.2] ∧ Sat w0 w' (bsl (.slice da (Frm.read l).1.data.length dc) (Frm.read l).1.data :: F)) := by
  obtain ⟨ba, bn, bc, rfl, hbn, hbc⟩ := hcap
  have hln : bn = l.length := by
    obtain ⟨_, _, _, he, hl', _⟩ := hr w h
    cases he
    rw [bys_len, Nat.mul_one] at hl'; exact hl'.symm
  subst hln
  by_cases h9 : l.length < 9
  · have Hf := Lib.hid (show Frm.read l = (Frm.zeroE, 0, 3) by unfold Frm.read; rw [if_pos h9])
    have c1 : (l.length : Int) < 9 := by omega
    clear hr hH h9 hl
    go_enter Tryz.func98, Tryz.ntmps98
    go_wp2_with (first | ((with_reducible apply at_allocE); refine ⟨?_⟩; refine wl_allocE (by assumption) ?_; intro bE wE hE) | ((with_reducible apply at_buildZ); refine ⟨?_⟩; refine wl_buildZ ?_) | ((with_reducible apply at_storeE); refine ⟨?_⟩; first | (refine wl_storeE (by assumption) (by rfl) (by rfl) (by first | rfl | assumption | exact Hid.out (by assumption)) (by first | ((repeat (first | with_reducible apply upd0 | with_reducible apply upd_there)); done) | ((repeat (first | apply upd0 | apply upd_there)); done) | fail) (by first | assumption | exact entA_size _ _ rfl | exact entA_size _ _ (by assumption) | exact entA_size _ _ (Hid.out (by assumption))) ?_; intro wS hS) | (refine wl_storeE (e := Frm.zeroE) (da := none) (dn := 0) (dc := 0) (by assumption) (by rfl) (by rfl) rfl (by first | ((repeat (first | with_reducible apply upd0 | with_reducible apply upd_there)); done) | ((repeat (first | apply upd0 | apply upd_there)); done) | fail) (by first | assumption | exact entA_size _ _ rfl | exact entA_size _ _ (by assumption) | exact entA_size _ _ (Hid.out (by assumption))) ?_; intro wS hS)))
    rw [Hf.out]
    refine ⟨rfl, _, res_entE3 rfl (by assumption) (by rfl) (by first | ((repeat (first | with_reducible apply pick0 | with_reducible apply pick_there)); done) | ((repeat (first | apply pick0 | apply pick_there)); done) | fail) rfl, _, rfl, none, 0, rfl, Sat.osl_nil.2 (Sat.sb hS)⟩
  obtain ⟨bk, off, rfl, hcell⟩ : ∃ bk off, ba = some ⟨bk, off, none⟩ ∧ True := by
    have hx : (bys l)[0]? = some (.int .u8 (l[0]'(by omega)).toNat) := by
      unfold bys; rw [List.getElem?_map, List.getElem?_eq_getElem (by omega)]; rfl
    obtain ⟨bk, off, hb, _⟩ := rdsl_cells (hr w h) hx
    exact ⟨bk, off, hb, trivial⟩
  clear hcell
  have hrd := hr w h
  have Hsub := Lib.hid (show ∀ (i j : Nat), i ≤ j → j ≤ l.length → ∀ w, Sat w0 w F → rdsl 1 (.slice (some ⟨bk, off + i, none⟩) (j - i) (bc - i)) (bys ((l.take j).drop i)) w from fun i j h1 h2 w hw => rdsl_sub (hr w hw) i j (bc - i) h1 h2)
  have Hnum := Lib.hid (show ∀ w, Sat w0 w F → Calls Tryz.prog 143 #[.slice (some ⟨bk, off + 4, none⟩) (l.length - 4) (bc - 4)] w (Rtn fun v w' => v = .int .u32 (Frm.num ((l.drop 4).take 4) : Nat) ∧ w = w') from fun w hw => number_c (l.drop 4) (by rw [List.length_drop]; omega) _ (l.length - 4) (bc - 4) (by omega) (by omega) (by
    have := Hsub.out 4 l.length (by omega) (Nat.le_refl _) w hw
    rw [List.take_length] at this
    exact this))
  have Hnum0 := Lib.hid (show ∀ w, Sat w0 w F → Calls Tryz.prog 143 #[.slice (some ⟨bk, off, none⟩) l.length bc] w (Rtn fun v w' => v = .int .u32 (Frm.num (l.take 4) : Nat) ∧ w = w') from fun w hw => number_c l (by omega) _ l.length bc hbn hbc (hr w hw))
  have Hread := Lib.hid (show Frm.read l = if Frm.fits (l.getD 8 0) (Frm.num ((l.drop 4).take 4)) = false then (Frm.zeroE, 0, 4)
    else if l.length < Frm.num ((l.drop 4).take 4) then (Frm.zeroE, 0, 3)
    else if Frm.crc ((l.take (Frm.num ((l.drop 4).take 4))).drop 4) ≠ Frm.num (l.take 4) then (Frm.zeroE, 0, 13)
    else if 41 ≤ Frm.num ((l.drop 4).take 4) then (⟨(l.getD 8 0).toNat, (l.drop 9).take 32, (l.take (Frm.num ((l.drop 4).take 4))).drop 41⟩, Frm.num ((l.drop 4).take 4), 0)
    else (⟨(l.getD 8 0).toNat, Frm.zero32, []⟩, Frm.num ((l.drop 4).take 4), 0) by unfold Frm.read; rw [if_neg h9])
  have hN : Frm.num ((l.drop 4).take 4) < 4294967296 := by
    have := Frm.num_lt ((l.drop 4).take 4)
    rw [List.length_take, List.length_drop] at this
    have h4 : min 4 (l.length - 4) = 4 := by omega
    rw [h4] at this
    omega
  generalize hNN : Frm.num ((l.drop 4).take 4) = N at *
  have hfits := fun w => fits_c (l.getD 8 0) N hN w
  have hfg : Frm.fits (l.getD 8 0) N = true → 9 ≤ N := by
    unfold Frm.fits
    intro hh
    split at hh
    · have := of_decide_eq_true hh; omega
    · split at hh
      · have := of_decide_eq_true hh; omega
      · split at hh
        · have := of_decide_eq_true hh; omega
        · cases hh
  have hc8 : ∀ w, Sat w0 w F → w.cell? ⟨bk, off + 8, none⟩ = some (.int .u8 (l.getD 8 0).toNat) := fun w hw => by
    have hx : (bys l)[8]? = some (.int .u8 (l.getD 8 0).toNat) := by
      unfold bys; rw [List.getElem?_map, List.getD_eq_getElem?_getD, List.getElem?_eq_getElem (by omega)]; rfl
    obtain ⟨bk', off', hb, hc⟩ := rdsl_cells (hr w hw) hx
    cases hb
    exact hc _ _ hx
  have Hc8 := Lib.hid hc8; have Hr := Lib.hid hr; have HH := Lib.hid hH; have Hl := Lib.hid hl; have Hfg := Lib.hid hfg; have Hfits := Lib.hid hfits
  have c1 : ¬ (l.length : Int) < 9 := by omega
  have c2 : ¬ bc = 4 := by omega
  have c3 : (4 : Int) ≤ (l.length : Int) := by omega
  have c4 : (l.length : Int) ≤ (bc : Int) := by omega
  have c5 : (8 : Int) < (l.length : Int) := by omega
  have Hbn := Lib.hid (show l.length ≤ bc ∧ bc ≤ 9223372036854775807 ∧ 9 ≤ l.length ∧ N < 4294967296 from ⟨hbn, hbc, by omega, hN⟩)
  have hcv : IntKind.i64.wrap (N : Int) = (N : Int) := by rw [IntKind.wrap_i64]; omega
  clear hrd hNN hc8 hr hH hl h9 hbn hbc hfg hfits hN
  generalize l.getD 8 0 = tg at *
  have htg := tg.toNat_lt
  have hct : IntKind.i64.wrap (tg.toNat : Int) = (tg.toNat : Int) := by rw [IntKind.wrap_i64]; omega
  have htb : (tg.toNat : Int) < 256 := by omega
  go_enter Tryz.func98, Tryz.ntmps98
  go_wp2_with ((with_reducible apply at_allocE); refine ⟨?_⟩; refine wl_allocE (by assumption) ?_; intro bE wE hE)
  refine (Hnum.out _ hE.drop).mono ?_
  rintro ee w2 ⟨v, rfl, rfl, rfl⟩
  have e8 := Hc8.out _ hE.drop
  go_wp2_with fail
  refine (Hfits.out _).mono ?_
  rintro ee w2 ⟨v, rfl, rfl, rfl⟩
  cases hft : Frm.fits tg N
  · have Hf := Lib.hid (Hread.out.trans (if_pos hft))
    clear hft
    go_wp2_with (first | ((with_reducible apply at_buildZ); refine ⟨?_⟩; refine wl_buildZ ?_) | ((with_reducible apply at_storeE); refine ⟨?_⟩; first | (refine wl_storeE (by assumption) (by rfl) (by rfl) (by first | rfl | assumption | exact Hid.out (by assumption)) (by first | ((repeat (first | with_reducible apply upd0 | with_reducible apply upd_there)); done) | ((repeat (first | apply upd0 | apply upd_there)); done) | fail) (by first | assumption | exact entA_size _ _ rfl | exact entA_size _ _ (by assumption) | exact entA_size _ _ (Hid.out (by assumption))) ?_; intro wS hS) | (refine wl_storeE (e := Frm.zeroE) (da := none) (dn := 0) (dc := 0) (by assumption) (by rfl) (by rfl) rfl (by first | ((repeat (first | with_reducible apply upd0 | with_reducible apply upd_there)); done) | ((repeat (first | apply upd0 | apply upd_there)); done) | fail) (by first | assumption | exact entA_size _ _ rfl | exact entA_size _ _ (by assumption) | exact entA_size _ _ (Hid.out (by assumption))) ?_; intro wS hS)))
    rw [Hf.out]
    refine ⟨rfl, _, res_entE3 rfl (by assumption) (by rfl) (by first | ((repeat (first | with_reducible apply pick0 | with_reducible apply pick_there)); done) | ((repeat (first | apply pick0 | apply pick_there)); done) | fail) rfl, _, rfl, none, 0, rfl, Sat.osl_nil.2 (Sat.sb hS)⟩
  have Hf := Lib.hid (Hread.out.trans (if_neg (by rw [hft]; decide)))
  have hN9 := Hfg.out hft
  clear hft
  by_cases hlN : l.length < N
  · have Hf2 := Lib.hid (Hf.out.trans (if_pos hlN))
    have c6 : (l.length : Int) < (N : Int) := by omega
    clear hlN hN9
    go_wp2_with (first | ((with_reducible apply at_buildZ); refine ⟨?_⟩; refine wl_buildZ ?_) | ((with_reducible apply at_storeE); refine ⟨?_⟩; first | (refine wl_storeE (by assumption) (by rfl) (by rfl) (by first | rfl | assumption | exact Hid.out (by assumption)) (by first | ((repeat (first | with_reducible apply upd0 | with_reducible apply upd_there)); done) | ((repeat (first | apply upd0 | apply upd_there)); done) | fail) (by first | assumption | exact entA_size _ _ rfl | exact entA_size _ _ (by assumption) | exact entA_size _ _ (Hid.out (by assumption))) ?_; intro wS hS) | (refine wl_storeE (e := Frm.zeroE) (da := none) (dn := 0) (dc := 0) (by assumption) (by rfl) (by rfl) rfl (by first | ((repeat (first | with_reducible apply upd0 | with_reducible apply upd_there)); done) | ((repeat (first | apply upd0 | apply upd_there)); done) | fail) (by first | assumption | exact entA_size _ _ rfl | exact entA_size _ _ (by assumption) | exact entA_size _ _ (Hid.out (by assumption))) ?_; intro wS hS)))
    rw [Hf2.out]
    refine ⟨rfl, _, res_entE3 rfl (by assumption) (by rfl) (by first | ((repeat (first | with_reducible apply pick0 | with_reducible apply pick_there)); done) | ((repeat (first | apply pick0 | apply pick_there)); done) | fail) rfl, _, rfl, none, 0, rfl, Sat.osl_nil.2 (Sat.sb hS)⟩
  have Hf2 := Lib.hid (Hf.out.trans (if_neg hlN))
  clear Hf Hread
  have c6 : ¬ (l.length : Int) < (N : Int) := by omega
  have c7 : (4 : Int) ≤ (N : Int) := by omega
  have c8 : (N : Int) ≤ (bc : Int) := by omega
  have HlN := Lib.hid (show N ≤ l.length ∧ 9 ≤ N by omega)
  clear hlN hN9
  go_wp2_with fail
  refine (crc_c ((l.take N).drop 4) (Ro.os HH.out) (fun w hw => Hsub.out 4 N (by have := HlN.out; omega) HlN.out.1 w (hw.sb)) hE (by rw [List.length_drop, List.length_take]; have := Hl.out; omega)).mono ?_
  rintro ee w2 ⟨v, rfl, rfl, rfl⟩
  go_wp2_with fail
  refine (Hnum0.out _ hE.drop).mono ?_
  rintro ee w2 ⟨v, rfl, rfl, rfl⟩
  generalize Frm.crc ((l.take N).drop 4) = A at *
  generalize Frm.num (l.take 4) = B at *
  by_cases hAB : A = B
  rotate_left
  · have Hf3 := Lib.hid (Hf2.out.trans (if_pos hAB))
    have c9 : ((A : Int) == (B : Int)) = false := by rw [beq_eq_false_iff_ne]; omega
    clear hAB
    go_wp2_with (first | ((with_reducible apply at_buildZ); refine ⟨?_⟩; refine wl_buildZ ?_) | ((with_reducible apply at_storeE); refine ⟨?_⟩; first | (refine wl_storeE (by assumption) (by rfl) (by rfl) (by first | rfl | assumption | exact Hid.out (by assumption)) (by first | ((repeat (first | with_reducible apply upd0 | with_reducible apply upd_there)); done) | ((repeat (first | apply upd0 | apply upd_there)); done) | fail) (by first | assumption | exact entA_size _ _ rfl | exact entA_size _ _ (by assumption) | exact entA_size _ _ (Hid.out (by assumption))) ?_; intro wS hS) | (refine wl_storeE (e := Frm.zeroE) (da := none) (dn := 0) (dc := 0) (by assumption) (by rfl) (by rfl) rfl (by first | ((repeat (first | with_reducible apply upd0 | with_reducible apply upd_there)); done) | ((repeat (first | apply upd0 | apply upd_there)); done) | fail) (by first | assumption | exact entA_size _ _ rfl | exact entA_size _ _ (by assumption) | exact entA_size _ _ (Hid.out (by assumption))) ?_; intro wS hS)))
    rw [Hf3.out]
    refine ⟨rfl, _, res_entE3 rfl (by assumption) (by rfl) (by first | ((repeat (first | with_reducible apply pick0 | with_reducible apply pick_there)); done) | ((repeat (first | apply pick0 | apply pick_there)); done) | fail) rfl, _, rfl, none, 0, rfl, Sat.osl_nil.2 (Sat.sb hS)⟩
  subst hAB
  have Hf3 := Lib.hid (Hf2.out.trans (if_neg (fun h => h rfl)))
  clear Hf2
  by_cases h41 : 41 ≤ N
  rotate_left
  · have Hf4 := Lib.hid (Hf3.out.trans (if_neg h41))
    have c9 : ¬ (41 : Int) ≤ (N : Int) := by omega
    clear h41
    go_wp2_with (first | ((with_reducible apply at_buildTag); refine ⟨?_⟩; refine wl_buildTag (by rfl) ?_) | ((with_reducible apply at_allocE); refine ⟨?_⟩; refine wl_allocE (by assumption) ?_; intro bE wE hE) | ((with_reducible apply at_storeE); refine ⟨?_⟩; first | (refine wl_storeE (by assumption) (by rfl) (by rfl) (by first | rfl | assumption | exact Hid.out (by assumption)) (by first | ((repeat (first | with_reducible apply upd0 | with_reducible apply upd_there)); done) | ((repeat (first | apply upd0 | apply upd_there)); done) | fail) (by first | assumption | exact entA_size _ _ rfl | exact entA_size _ _ (by assumption) | exact entA_size _ _ (Hid.out (by assumption))) ?_; intro wS hS) | (refine wl_storeE (e := Frm.zeroE) (da := none) (dn := 0) (dc := 0) (by assumption) (by rfl) (by rfl) rfl (by first | ((repeat (first | with_reducible apply upd0 | with_reducible apply upd_there)); done) | ((repeat (first | apply upd0 | apply upd_there)); done) | fail) (by first | assumption | exact entA_size _ _ rfl | exact entA_size _ _ (by assumption) | exact entA_size _ _ (Hid.out (by assumption))) ?_; intro wS hS)) | ((with_reducible apply at_loadE); refine ⟨?_⟩; refine wl_loadE (by assumption) (by rfl) (by first | ((repeat (first | with_reducible apply pick0 | with_reducible apply pick_there)); done) | ((repeat (first | apply pick0 | apply pick_there)); done) | fail) (by first | rfl | assumption | exact Hid.out (by assumption)) ?_))
    rw [Hf4.out]
    simp only [List.length_nil]
    refine ⟨rfl, _, res_entE3 rfl (by assumption) (by rfl) (by first | ((repeat (first | with_reducible apply pick0 | with_reducible apply pick_there)); done) | ((repeat (first | apply pick0 | apply pick_there)); done) | fail) rfl, _, rfl, none, 0, rfl, Sat.osl_nil.2 (Sat.sb hS)⟩
  have Hf4 := Lib.hid (Hf3.out.trans (if_pos h41))
  have Hkl := Lib.hid (show ((l.drop 9).take 32).length = 32 by rw [List.length_take, List.length_drop]; have := HlN.out; omega)
  have Hkb := Lib.hid (show (bys ((l.drop 9).take 32)).length = 32 by rw [bys_len]; exact Hkl.out)
  have Hrange := Lib.hid (show ∀ w, Sat w0 w F → w.rangeAt bk (off + 9) (bys ((l.drop 9).take 32)) from fun w hw => by
    intro j y hj
    have hsb := Hsub.out 9 41 (by decide) (by have := HlN.out; omega) w hw
    have e : (l.take 41).drop 9 = (l.drop 9).take 32 := by rw [List.drop_take]
    rw [e] at hsb
    obtain ⟨b', o', hb, hc⟩ := rdsl_cells hsb hj
    cases hb
    exact hc _ _ hj)
  have c9 : (41 : Int) ≤ (N : Int) := by omega
  have c10 : ¬ bc = 9 := by have := HlN.out; have := Hbn.out; omega
  have c11 : (41 : Int) ≤ (bc : Int) := by omega
  obtain ⟨ad, had, hsl⟩ : ∃ ad : Addr, (41 < N → ad = ⟨bk, off + 41, none⟩) ∧ ∀ w, (Instr.sliceAt 42 (.slice (some ⟨bk, off, none⟩) l.length bc) (some (.int .i64 41)) (some (.int .i64 N)) none).run Tryz.prog w = .ok (.slice (some ad) (N - 41) (bc - 41)) w := by
    by_cases hce : bc = 41
    · refine ⟨⟨bk, off, none⟩, fun hh => by have := HlN.out; have := Hbn.out; omega, fun w => ?_⟩
      have c12 : (N : Int) ≤ 41 := by omega
      have c13 : ¬ (41 : Int) < (N : Int) := by omega
      go_simp
    · refine ⟨⟨bk, off + 41, none⟩, fun _ => rfl, fun w => ?_⟩
      go_simp
  have Had := Lib.hid had
  have Hdat := Lib.hid (show ∀ w, Sat w0 w F → rdsl 1 (.slice (some ad) (N - 41) (bc - 41)) (bys ((l.take N).drop 41)) w from fun w hw => by
    by_cases h2 : 41 < N
    · rw [Had.out h2]; exact Hsub.out 41 N (by omega) HlN.out.1 w hw
    · have : (l.take N).drop 41 = [] := List.drop_of_length_le (by rw [List.length_take]; omega)
      rw [this, show N - 41 = 0 by omega]
      exact ⟨_, 0, _, rfl, rfl, by simp [bys]⟩)
  clear h41 had
  have hat := fun w => run_arrKey ⟨bk, off + 9, none⟩ (bc - 9) w
  go_wp2_with (first
    | ((with_reducible apply at_buildTag); refine ⟨?_⟩; refine wl_buildTag (by rfl) ?_) | ((with_reducible apply at_allocE); refine ⟨?_⟩; refine wl_allocE (by assumption) ?_; intro bE wE hE) | ((with_reducible apply at_storeE); refine ⟨?_⟩; first | (refine wl_storeE (by assumption) (by rfl) (by rfl) (by first | rfl | assumption | exact Hid.out (by assumption)) (by first | ((repeat (first | with_reducible apply upd0 | with_reducible apply upd_there)); done) | ((repeat (first | apply upd0 | apply upd_there)); done) | fail) (by first | assumption | exact entA_size _ _ rfl | exact entA_size _ _ (by assumption) | exact entA_size _ _ (Hid.out (by assumption))) ?_; intro wS hS) | (refine wl_storeE (e := Frm.zeroE) (da := none) (dn := 0) (dc := 0) (by assumption) (by rfl) (by rfl) rfl (by first | ((repeat (first | with_reducible apply upd0 | with_reducible apply upd_there)); done) | ((repeat (first | apply upd0 | apply upd_there)); done) | fail) (by first | assumption | exact entA_size _ _ rfl | exact entA_size _ _ (by assumption) | exact entA_size _ _ (Hid.out (by assumption))) ?_; intro wS hS))
    | ((with_reducible apply at_load); refine ⟨?_⟩; refine wpList_load_mid (by rfl) 41 _ (by rfl) bk (off + 9) (by rfl) (bys ((l.drop 9).take 32)) _ (Hrange.out _ (Sat.sb (by assumption))) Tryz.underlying41 rfl (by rw [Hkb.out]; kernel_rfl) ?_)
    | ((with_reducible apply at_store); refine ⟨?_⟩; refine wl_storeK (key := (l.drop 9).take 32) (by assumption) (by rfl) (by rfl) rfl Hkl.out (by first | ((repeat (first | with_reducible apply upd0 | with_reducible apply upd_there)); done) | ((repeat (first | apply upd0 | apply upd_there)); done) | fail) ?_; intro wK hK)
    | ((with_reducible apply at_slice2); refine ⟨?_⟩; refine wl_slice2 (by rfl) (by rfl) (by rfl) hsl ?_))
  refine (clone_c hK (Hdat.out _ (hK.sb)) (by rw [List.length_drop, List.length_take]; have := Hl.out; omega)).mono ?_
  rintro ee w3 ⟨v, rfl, hS3, ca, cn, cc, rfl⟩
  have hcn : cn = ((l.take N).drop 41).length := by
    obtain ⟨_, _, _, he, hl', _⟩ := Sat.rd hS3
    cases he
    rw [bys_len, Nat.mul_one] at hl'; exact hl'.symm
  subst hcn
  have Hkl2 := Hkl.out
  generalize (l.drop 9).take 32 = key at *
  generalize (l.take N).drop 41 = data at *
  go_wp2_with (first
    | ((with_reducible apply at_store); refine ⟨?_⟩; refine wl_storeD (e := ⟨(tg.toNat : Int), key, []⟩) (data := data) (by assumption) (by rfl) (by rfl) Hkl2 (by first | ((repeat (first | with_reducible apply upd0 | with_reducible apply upd_there)); done) | ((repeat (first | apply upd0 | apply upd_there)); done) | fail) ?_; intro wD hD)
    | ((with_reducible apply at_loadE); refine ⟨?_⟩; refine wl_loadE (by assumption) (by rfl) (by first | ((repeat (first | with_reducible apply pick0 | with_reducible apply pick_there)); done) | ((repeat (first | apply pick0 | apply pick_there)); done) | fail) (by first | rfl | assumption | exact Hid.out (by assumption)) ?_) | ((with_reducible apply at_storeE); refine ⟨?_⟩; first | (refine wl_storeE (by assumption) (by rfl) (by rfl) (by first | rfl | assumption | exact Hid.out (by assumption)) (by first | ((repeat (first | with_reducible apply upd0 | with_reducible apply upd_there)); done) | ((repeat (first | apply upd0 | apply upd_there)); done) | fail) (by first | assumption | exact entA_size _ _ rfl | exact entA_size _ _ (by assumption) | exact entA_size _ _ (Hid.out (by assumption))) ?_; intro wS hS) | (refine wl_storeE (e := Frm.zeroE) (da := none) (dn := 0) (dc := 0) (by assumption) (by rfl) (by rfl) rfl (by first | ((repeat (first | with_reducible apply upd0 | with_reducible apply upd_there)); done) | ((repeat (first | apply upd0 | apply upd_there)); done) | fail) (by first | assumption | exact entA_size _ _ rfl | exact entA_size _ _ (by assumption) | exact entA_size _ _ (Hid.out (by assumption))) ?_; intro wS hS)))
  rw [Hf4.out]
  simp only
  refine ⟨rfl, _, res_entE3 rfl (by assumption) (by rfl) (by first | ((repeat (first | with_reducible apply pick0 | with_reducible apply pick_there)); done) | ((repeat (first | apply pick0 | apply pick_there)); done) | fail) Hkl2, _, rfl, ca, cc, rfl, Sat.sb hS⟩
end
end Go.Proofs.YtmjldaedhmipkaaGreatDoor
/- hoardref07.Read: what it wants. -/
namespace Go.Proofs.YtmjldaedhmipkaaGreatDoor
open Go Go.Sl Go.Med Go.MapKept Go.RowKit
set_option linter.unusedVariables false
section
variable {w0 w : World} {F R : List HProp} {v bv dv x lv : Value}
theorem ent_setkey (e : Frm.Ent) (dv : Value) (i : Nat) (c : UInt8) (hi : i < e.key.length) : putsAt (entA e dv) (1 + i) [Value.int .u8 c.toNat] = entA ⟨e.tag, e.key.set i c, e.data⟩ dv := by
  apply putsAt_eq
  show ((entA e dv).setIfInBounds (1 + i) _).toList = _
  rw [Array.toList_setIfInBounds]
  unfold entA entL
  rw [List.toList_toArray, List.toList_toArray, Nat.add_comm 1 i, List.set_cons_succ, List.set_append_left _ _ (by rw [bys_len]; exact hi)]
  unfold bys
  rw [List.map_set]
/-- A key of which i bytes are told. -/
def keyTo (kk : Bs) (i : Nat) : Bs := kk.take i ++ Frm.zero32.drop i
theorem keyTo_len {kk : Bs} (h : kk.length = 32) {i : Nat} (hi : i ≤ 32) : (keyTo kk i).length = 32 := by
  unfold keyTo; rw [List.length_append, List.length_take, List.length_drop, h]; show min i 32 + (32 - i) = 32; omega
theorem keyTo_succ {kk : Bs} (h : kk.length = 32) {i : Nat} (hi : i < 32) {c : UInt8} (hc : kk[i]? = some c) : (keyTo kk i).set i c = keyTo kk (i + 1) := by
  unfold keyTo
  have h1 : (kk.take i).length = i := by rw [List.length_take, h]; omega
  rw [List.set_append_right _ _ (by omega), h1, Nat.sub_self, List.take_add_one, hc]
  have h2 : Frm.zero32.drop i = 0 :: Frm.zero32.drop (i + 1) := by
    unfold Frm.zero32
    rw [List.drop_replicate, List.drop_replicate, show 32 - i = (32 - (i + 1)) + 1 by omega, List.replicate_succ]
  rw [h2]; simp
theorem keyTo_end {kk : Bs} (h : kk.length = 32) : keyTo kk 32 = kk := by
  unfold keyTo; rw [List.take_of_length_le (by omega), List.drop_of_length_le (by show 32 ≤ 32; omega), List.append_nil]
end
end Go.Proofs.YtmjldaedhmipkaaGreatDoor
