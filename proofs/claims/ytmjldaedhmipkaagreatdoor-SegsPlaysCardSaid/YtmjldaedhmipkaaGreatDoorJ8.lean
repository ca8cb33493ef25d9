import Derived.Test.YtmjldaedhmipkaaGreatDoorJ7
import Derived.Laws.Slices
set_option linter.unusedVariables false
/- Append of any log. -/
namespace Go.Seg
open Go.Med
theorem encode_ne (x : Frm.Ent) (h : (Frm.encode x).2 = 0) : (Frm.encode x).1 ≠ [] := by
  unfold Frm.encode at *
  split at h
  · rename_i hc; exact absurd h hc
  · rename_i hc
    rw [if_neg hc]
    intro e
    have := congrArg List.length e
    simp [Frm.le_len] at this
theorem Log.append_bad {L : Log} {M : Med} {x : Frm.Ent} (h : (Frm.encode x).2 ≠ 0) : L.append M x = ((L, M), Plc.zero, (Frm.encode x).2) := by
  unfold Log.append; rw [if_pos h]
theorem Log.append_grow {L : Log} {M : Med} {x : Frm.Ent} (h : (Frm.encode x).2 = 0) (hf : L.fits (Frm.encode x).1.length = true) : L.append M x = L.grow M (Frm.encode x).1 := by
  unfold Log.append; rw [if_neg (fun hh => hh h), if_pos hf]
theorem Log.append_begin {L : Log} {M : Med} {x : Frm.Ent} (h : (Frm.encode x).2 = 0) (hf : L.fits (Frm.encode x).1.length = false) : L.append M x = L.begin M (Frm.encode x).1 := by
  unfold Log.append; rw [if_neg (fun hh => hh h), if_neg (by rw [hf]; decide)]
theorem Log.fits_off {L : Log} (n : Nat) (h : L.on = false) : L.fits n = false := by unfold Log.fits; rw [h]; rfl
theorem Log.fits_on {L : Log} {s : Int × Int} (n : Nat) (h : L.on = true) (hl : L.l.getLast? = some s) : L.fits n = decide (s.2 + n ≤ L.limit) := by
  unfold Log.fits; rw [h, hl]; rfl
end Go.Seg
namespace Go.Proofs.YtmjldaedhmipkaaGreatDoor
open Go Go.Sl Go.Med Go.MapKept Go.RowKit
set_option linter.unusedVariables false
section
variable {w0 w : World} {F R : List HProp} {v bv dv x lv : Value} {q p m K : Nat} {L : Seg.Log} {M : Med} {s : Int × Int}
theorem seg_block2 (hl : L.l.getLast? = some s) (h : Sat w0 w (logPt p m L lv :: osl 145 2 lv (segw L.l) :: F)) :
    ∃ bk n cap cs, lv = .slice (some ⟨bk, 0, none⟩) (n + 1) cap ∧ SegBlk L.l n cap cs ∧ cs[n * 2]? = some (.int .i64 s.1) ∧ cs[n * 2 + 1]? = some (.int .i64 s.2) ∧
      Sat w0 w (logPt p m L (.slice (some ⟨bk, 0, none⟩) (n + 1) cap) :: pt bk (.cells cs 145 (0,0)) :: F) := seg_block hl h
set_option maxRecDepth 20000 in
set_option maxHeartbeats 8000000 in
theorem lappend_c (e : Frm.Ent) (hk : e.key.length = 32) (da : Option Addr) (dc : Nat) (hd : Ro w0 F (rdsl 1 (.slice da e.data.length dc) (bys e.data))) (hH : Ro w0 F Half) (hLd : e.data.length ≤ 1099511627)
    (hL : L.Ok) (hM : M.Ok K) (hKK : K + 4 ≤ 1099511627776) (h : Sat w0 w (LogRep p m L :: MedRep m M :: F)) :
    Calls Tryz.prog 17 #[ptr p, .agg (entA e (.slice da e.data.length dc))] w (Rtn fun v w' => v = .tuple #[plcA (L.append M e).2.1, errno (L.append M e).2.2] ∧
      Sat w0 w' (LogRep p m (L.append M e).1.1 :: MedRep m (L.append M e).1.2 :: F)) := by
  obtain ⟨lv, hR⟩ := LogRep.open2 h
  clear h
  have hsz := entA_size e (.slice da e.data.length dc) hk
  have Hsz := Lib.hid hsz
  have Hd := Lib.hid hd; have HH := Lib.hid hH; have Hk := Lib.hid hk; have HLd := Lib.hid hLd
  have HL := Lib.hid hL; have HM := Lib.hid hM
  have Hln := Lib.hid hL.len
  have Hel := Lib.hid (show (Frm.encode e).1.length ≤ 16425 from Seg.encode_len e hk)
  have Hne := Lib.hid (Seg.encode_ne e)
  have A0 := Lib.hid (Seg.Log.append_bad (L := L) (M := M) (x := e))
  have A1 := Lib.hid (Seg.Log.append_grow (L := L) (M := M) (x := e))
  have A2 := Lib.hid (Seg.Log.append_begin (L := L) (M := M) (x := e))
  clear hsz hd hH hk hLd hL hM
  go_enter Tryz.func17, Tryz.ntmps17
  go_wp2_with (first
    | ((with_reducible apply at_box); refine ⟨?_⟩; refine wl_box (by assumption) (by rfl) (cs := entA e (.slice da e.data.length dc)) rfl ?_; intro q3 w1 hS1)
    | (refine wl_alloc zPlace (by assumption) rfl ?_; intro q w2 hS2))
  refine (ok_c (Sat.pk (by assumption))).mono ?_
  rintro ee w3 ⟨v, rfl, rfl, rfl⟩
  clear hS1 hR
  go_wp2_with ((with_reducible apply at_load); refine ⟨?_⟩; refine wl_loadA (by assumption) (by rfl) (by first | ((repeat (first | with_reducible apply pick0 | with_reducible apply pick_there)); done) | ((repeat (first | apply pick0 | apply pick_there)); done) | fail) Tryz.underlying44 (by rfl) (by rw [Hsz.out]; kernel_rfl) ?_)
  refine (encode_c e Hk.out da dc (by first | assumption | exact Ro.op (Ro.bsl _ _) | exact Ro.os (by assumption)) (by first | assumption | exact Ro.op (Ro.bsl _ _) | exact Ro.os (by assumption)) hS2 HLd.out).mono ?_
  rintro ee w3 ⟨v, rfl, bv, rfl, ⟨ba, bn, bc, rfl⟩, hS3⟩
  clear hS2
  generalize hE : Frm.encode e = E at *
  have HE := Lib.hid hE
  clear hE
  obtain ⟨b, e1⟩ := E
  have Hel2 : Hid (b.length ≤ 16425) := Hel
  by_cases he : e1 = 0
  rotate_left
  · have heb : (e1 == 0) = false := beq_false_of_ne he
    have hfin := Lib.hid (A0.out he)
    clear he
    go_wp2_with ((with_reducible apply at_store); refine ⟨?_⟩; refine wl_store (by assumption) (by rfl) (by conv => lhs; whnf) (by first | (simp only [putsAt, Value.cells]; (try go_frame); first | done | rfl) | rfl) (by first | ((repeat (first | with_reducible apply upd0 | with_reducible apply upd_there)); done) | ((repeat (first | apply upd0 | apply upd_there)); done) | fail) (Nat.le_of_ble_eq_true (by rfl)) (by kernel_rfl) (by rfl) ?_; intro wS hS)
    refine ⟨rfl, _, res_cell_tmp rfl (by assumption) (by rfl) (by first | ((repeat (first | with_reducible apply pick0 | with_reducible apply pick_there)); done) | ((repeat (first | apply pick0 | apply pick_there)); done) | fail) Tryz.underlying39 rfl (by kernel_rfl), _, rfl, ?_, ?_⟩
    · rw [hfin.out]; rfl
    · rw [hfin.out]; exact LogRep.shut2 (lv := lv) (Sat.sb hS)
  subst he
  have hbn : bn = b.length := by
    obtain ⟨a', n', c', he, hl, _⟩ := Sat.rd hS3
    cases he
    rw [bys_len, Nat.mul_one] at hl
    exact hl.symm
  subst hbn
  have Hb0 := Lib.hid (Hne.out rfl)
  clear A0 Hne
  cases hon : L.on
  · have hf := Seg.Log.fits_off b.length hon
    have hfin := Lib.hid (A2.out rfl hf)
    have c3 : w3.cell? ⟨p, 3, none⟩ = some (.bool false) := hS3.cellP (by first | ((repeat (first | with_reducible apply pick0 | with_reducible apply pick_there)); done) | ((repeat (first | apply pick0 | apply pick_there)); done) | fail) 3 (by rw [← hon]; rfl)
    clear hf A1 A2 hon
    go_wp2_with fail
    have hS4 := hS3.drew
    have c3' : w3.drew.cell? ⟨p, 3, none⟩ = some (.bool false) := c3
    go_region
    clear c3 c3'
    have hS5 : Sat w0 _ (LogRep p m L :: MedRep m M :: _) := LogRep.shut2 (lv := lv) (hS4.sb)
    go_wp2_with fail
    refine (begin_c HL.out HM.out hKK b Hb0.out (by have := Hel2.out; omega) (by first | assumption | exact Ro.op (Ro.bsl _ _) | exact Ro.os (by assumption)) hS5).mono ?_
    rintro ee w5 ⟨v, rfl, rfl, hS6⟩
    clear hS4 hS5 hS3
    go_wp2_with ((with_reducible apply at_store); refine ⟨?_⟩; refine wl_store (by assumption) (by rfl) (by conv => lhs; whnf) (by first | (simp only [putsAt, Value.cells]; (try go_frame); first | done | rfl) | rfl) (by first | ((repeat (first | with_reducible apply upd0 | with_reducible apply upd_there)); done) | ((repeat (first | apply upd0 | apply upd_there)); done) | fail) (Nat.le_of_ble_eq_true (by rfl)) (by kernel_rfl) (by rfl) ?_; intro wS hS)
    refine ⟨rfl, _, res_cell_tmp rfl (by assumption) (by rfl) (by first | ((repeat (first | with_reducible apply pick0 | with_reducible apply pick_there)); done) | ((repeat (first | apply pick0 | apply pick_there)); done) | fail) Tryz.underlying39 rfl (by kernel_rfl), _, rfl, ?_, ?_⟩
    · rw [hfin.out]; rfl
    · rw [hfin.out]; exact Sat.sb hS
  · obtain ⟨s, hl⟩ := HL.out.last hon
    obtain ⟨bk, n, cap, cs, rfl, hb, c0, c1, hB⟩ := seg_block2 hl (hS3.sb)
    have hf := Seg.Log.fits_on b.length hon hl
    have hs := HL.out.sizes s (List.mem_of_getLast? hl)
    have hlim := HL.out.limit
    have hn := hb.len
    have hln := Hln.out
    have hn0 : (n : Int) < (n : Int) + 1 := by omega
    have hwn : IntKind.i64.wrap (n : Int) = (n : Int) := by rw [IntKind.wrap_i64]; omega
    have hwz : IntKind.i64.wrap (s.2 + (b.length : Int)) = s.2 + (b.length : Int) := by rw [IntKind.wrap_i64]; have := Hel2.out; omega
    have g1 : w3.drew.cell? ⟨p, 1, none⟩ = some (.int .i64 L.limit) := hB.drew.cellP (by first | ((repeat (first | with_reducible apply pick0 | with_reducible apply pick_there)); done) | ((repeat (first | apply pick0 | apply pick_there)); done) | fail) 1 rfl
    have g2 : w3.drew.cell? ⟨p, 2, none⟩ = some (.slice (some ⟨bk, 0, none⟩) (n + 1) cap) := hB.drew.cellP (by first | ((repeat (first | with_reducible apply pick0 | with_reducible apply pick_there)); done) | ((repeat (first | apply pick0 | apply pick_there)); done) | fail) 2 rfl
    have g3 : w3.drew.cell? ⟨p, 3, none⟩ = some (.bool true) := hB.drew.cellP (by first | ((repeat (first | with_reducible apply pick0 | with_reducible apply pick_there)); done) | ((repeat (first | apply pick0 | apply pick_there)); done) | fail) 3 (by rw [← hon]; rfl)
    have g4 : w3.drew.cell? ⟨bk, n * 2 + 1, none⟩ = some (.int .i64 s.2) := hB.drew.cellP (by first | ((repeat (first | with_reducible apply pick0 | with_reducible apply pick_there)); done) | ((repeat (first | apply pick0 | apply pick_there)); done) | fail) _ c1
    have Hl := Lib.hid hl; have Hb := Lib.hid hb; have Hs := Lib.hid hs
    clear hs hlim hn hln hl hb c0 c1 hon hB
    by_cases hfit : s.2 + (b.length : Int) ≤ L.limit
    · have hfd : decide (s.2 + (b.length : Int) ≤ L.limit) = true := decide_eq_true hfit
      have hfin := Lib.hid (A1.out rfl (hf.trans hfd))
      clear hf hfd A1 A2
      go_wp2_with fail
      have hS4 := hS3.drew
      go_region
      clear g1 g2 g3 g4
      have hS5 : Sat w0 _ (LogRep p m L :: MedRep m M :: _) := LogRep.shut2 (lv := .slice (some ⟨bk, 0, none⟩) (n + 1) cap) (hS4.sb)
      go_wp2_with fail
      refine (grow_c Hl.out Hs.out HM.out (by omega) Hln.out b (by have := Hel2.out; omega) (by first | assumption | exact Ro.op (Ro.bsl _ _) | exact Ro.os (by assumption)) hS5).mono ?_
      rintro ee w5 ⟨v, rfl, rfl, hS6⟩
      clear hS4 hS5 hS3
      go_wp2_with ((with_reducible apply at_store); refine ⟨?_⟩; refine wl_store (by assumption) (by rfl) (by conv => lhs; whnf) (by first | (simp only [putsAt, Value.cells]; (try go_frame); first | done | rfl) | rfl) (by first | ((repeat (first | with_reducible apply upd0 | with_reducible apply upd_there)); done) | ((repeat (first | apply upd0 | apply upd_there)); done) | fail) (Nat.le_of_ble_eq_true (by rfl)) (by kernel_rfl) (by rfl) ?_; intro wS hS)
      refine ⟨rfl, _, res_cell_tmp rfl (by assumption) (by rfl) (by first | ((repeat (first | with_reducible apply pick0 | with_reducible apply pick_there)); done) | ((repeat (first | apply pick0 | apply pick_there)); done) | fail) Tryz.underlying39 rfl (by kernel_rfl), _, rfl, ?_, ?_⟩
      · rw [hfin.out]; rfl
      · rw [hfin.out]; exact Sat.sb hS
    · have hfd : decide (s.2 + (b.length : Int) ≤ L.limit) = false := decide_eq_false hfit
      have hfin := Lib.hid (A2.out rfl (hf.trans hfd))
      clear hf hfd A1 A2
      go_wp2_with fail
      have hS4 := hS3.drew
      go_region
      clear g1 g2 g3 g4
      have hS5 : Sat w0 _ (LogRep p m L :: MedRep m M :: _) := LogRep.shut2 (lv := .slice (some ⟨bk, 0, none⟩) (n + 1) cap) (hS4.sb)
      go_wp2_with fail
      refine (begin_c HL.out HM.out hKK b Hb0.out (by have := Hel2.out; omega) (by first | assumption | exact Ro.op (Ro.bsl _ _) | exact Ro.os (by assumption)) hS5).mono ?_
      rintro ee w5 ⟨v, rfl, rfl, hS6⟩
      clear hS4 hS5 hS3
      go_wp2_with ((with_reducible apply at_store); refine ⟨?_⟩; refine wl_store (by assumption) (by rfl) (by conv => lhs; whnf) (by first | (simp only [putsAt, Value.cells]; (try go_frame); first | done | rfl) | rfl) (by first | ((repeat (first | with_reducible apply upd0 | with_reducible apply upd_there)); done) | ((repeat (first | apply upd0 | apply upd_there)); done) | fail) (Nat.le_of_ble_eq_true (by rfl)) (by kernel_rfl) (by rfl) ?_; intro wS hS)
      refine ⟨rfl, _, res_cell_tmp rfl (by assumption) (by rfl) (by first | ((repeat (first | with_reducible apply pick0 | with_reducible apply pick_there)); done) | ((repeat (first | apply pick0 | apply pick_there)); done) | fail) Tryz.underlying39 rfl (by kernel_rfl), _, rfl, ?_, ?_⟩
      · rw [hfin.out]; rfl
      · rw [hfin.out]; exact Sat.sb hS
end
end Go.Proofs.YtmjldaedhmipkaaGreatDoor
/- Commit of any log. -/
namespace Go.Seg
open Go.Med
theorem Log.grow_med {L : Log} {M : Med} {K : Nat} (h : M.Ok K) (b : Bs) : (L.grow M b).1.2.Ok (K + 1) := by
  unfold Log.grow
  split; · exact h.mono (Nat.le_succ K)
  split <;> exact h.append _ _
theorem Log.begin1_med {L : Log} {M : Med} {K : Nat} (h : M.Ok K) (b : Bs) : (L.begin1 M b).1.2.Ok (K + 3) := by
  have h1 := h.create (name L.next)
  have h2 := h1.append (name L.next) (mag ++ b)
  have h3 := h2.remove (name L.next)
  unfold Log.begin1
  split; · exact h.mono (by omega)
  split; · exact h1.mono (by omega)
  split; · exact h2.mono (by omega)
  split; · exact h3
  exact h2.mono (by omega)
theorem Log.append_med {L : Log} {M : Med} {K : Nat} (h : M.Ok K) (x : Frm.Ent) : (L.append M x).1.2.Ok (K + 4) := by
  unfold Log.append
  split; · exact h.mono (by omega)
  split; · exact (Log.grow_med h _).mono (by omega)
  unfold Log.begin
  split
  · exact Log.begin1_med (Log.shut_med h) _
  · exact (Log.shut_med h).mono (by omega)
theorem Log.commit_eq (L : Log) (M : Med) : L.commit M = if (L.append M comEnt).2.2 ≠ 0 then ((L.append M comEnt).1, 0, (L.append M comEnt).2.2)
  else if ((L.append M comEnt).1.2.sync (name (L.append M comEnt).2.1.seg)).2 ≠ 0 then (((L.append M comEnt).1.1, ((L.append M comEnt).1.2.sync (name (L.append M comEnt).2.1.seg)).1), 0, ((L.append M comEnt).1.2.sync (name (L.append M comEnt).2.1.seg)).2)
  else if (((L.append M comEnt).1.2.sync (name (L.append M comEnt).2.1.seg)).1.syncDir).2 ≠ 0 then (((L.append M comEnt).1.1, (((L.append M comEnt).1.2.sync (name (L.append M comEnt).2.1.seg)).1.syncDir).1), 0, (((L.append M comEnt).1.2.sync (name (L.append M comEnt).2.1.seg)).1.syncDir).2)
  else (({ (L.append M comEnt).1.1 with on := false, fresh := 0 }, (((L.append M comEnt).1.2.sync (name (L.append M comEnt).2.1.seg)).1.syncDir).1), (L.append M comEnt).2.1.seg, 0) := rfl
theorem Log.commit_med {L : Log} {M : Med} {K : Nat} (h : M.Ok K) : (L.commit M).1.2.Ok (K + 5) := by
  have h1 := Log.append_med (L := L) h comEnt
  have h2 := h1.sync (name (L.append M comEnt).2.1.seg)
  have h3 := h2.syncDir
  rw [Log.commit_eq]
  split; · exact h1.mono (by omega)
  split; · exact h2.mono (by omega)
  split; · exact h3.mono (by omega)
  exact h3.mono (by omega)
end Go.Seg
namespace Go.Proofs.YtmjldaedhmipkaaGreatDoor
open Go Go.Sl Go.Med Go.MapKept Go.RowKit
set_option linter.unusedVariables false
section
variable {w0 w : World} {F R : List HProp} {v bv dv x lv : Value} {q p m K : Nat} {L : Seg.Log} {M : Med} {s : Int × Int}
set_option maxRecDepth 20000 in
set_option maxHeartbeats 8000000 in
theorem lcommit_c (hH : Ro w0 F Half) (hL : L.Ok) (hM : M.Ok K) (hKK : K + 6 ≤ 1099511627776) (h : Sat w0 w (LogRep p m L :: MedRep m M :: F)) :
    Calls Tryz.prog 19 #[ptr p] w (Rtn fun v w' => v = .tuple #[.int .i64 (L.commit M).2.1, errno (L.commit M).2.2] ∧
      Sat w0 w' (LogRep p m (L.commit M).1.1 :: MedRep m (L.commit M).1.2 :: F)) := by
  have hap := lappend_c Seg.comEnt rfl none 0 (fun w _ => rdsl_nil 1 0 w) hH (by decide) hL hM (by omega) h
  have Hg := Lib.hid (Seg.Log.commit_eq L M)
  have HL := Lib.hid (hL.append M Seg.comEnt rfl)
  have HM := Lib.hid (Seg.Log.append_med (L := L) hM Seg.comEnt)
  have HH := Lib.hid hH
  clear hL hM h hH
  generalize L.append M Seg.comEnt = A at *
  obtain ⟨⟨L1, M1⟩, pl, e1⟩ := A
  go_enter Tryz.func19, Tryz.ntmps19
  go_wp2_with fail
  refine hap.mono ?_
  rintro e w1 ⟨v, rfl, rfl, hS1⟩
  clear hap
  by_cases he : e1 = 0
  rotate_left
  · have heb : (e1 == 0) = false := beq_false_of_ne he
    have hfin := Lib.hid (Hg.out.trans (if_pos he))
    clear he
    go_wp2_with (first | (refine wl_alloc zPlace (by assumption) rfl ?_; intro q w2 hS2) | ((with_reducible apply at_store); refine ⟨?_⟩; refine wl_store (by assumption) (by rfl) (by conv => lhs; whnf) (by first | (simp only [putsAt, Value.cells]; (try go_frame); first | done | rfl) | rfl) (by first | ((repeat (first | with_reducible apply upd0 | with_reducible apply upd_there)); done) | ((repeat (first | apply upd0 | apply upd_there)); done) | fail) (Nat.le_of_ble_eq_true (by rfl)) (by kernel_rfl) (by rfl) ?_; intro wS hS))
    go_ret2
    refine ⟨.tuple #[.int .i64 0, errno e1], rfl, ?_, ?_⟩
    · rw [hfin.out]
    · rw [hfin.out]; exact Sat.sb hS
  subst he
  have H1 := Lib.hid (Hg.out.trans (if_neg (fun h => h rfl)))
  clear Hg
  go_wp2_with (first | (refine wl_alloc zPlace (by assumption) rfl ?_; intro q w2 hS2) | ((with_reducible apply at_store); refine ⟨?_⟩; refine wl_store (by assumption) (by rfl) (by conv => lhs; whnf) (by first | (simp only [putsAt, Value.cells]; (try go_frame); first | done | rfl) | rfl) (by first | ((repeat (first | with_reducible apply upd0 | with_reducible apply upd_there)); done) | ((repeat (first | apply upd0 | apply upd_there)); done) | fail) (Nat.le_of_ble_eq_true (by rfl)) (by kernel_rfl) (by rfl) ?_; intro wS hS))
  have hS1 := hS
  clear hS hS2
  obtain ⟨lv, hR⟩ := LogRep.open2 (Sat.pk (by assumption))
  clear hS1
  go_wp2_with fail
  refine wpL_begin [7, 8] (fun w' => w'.cell? ⟨p, 0, none⟩ = some (ptr m) ∧ w'.cell? ⟨q, 0, none⟩ = some (.int .i64 pl.seg)) (by kernel_rfl) ?_
  have hG : (World.drew _).cell? ⟨p, 0, none⟩ = some (ptr m) ∧ (World.drew _).cell? ⟨q, 0, none⟩ = some (.int .i64 pl.seg) := ⟨hR.drew.cellP (by first | ((repeat (first | with_reducible apply pick0 | with_reducible apply pick_there)); done) | ((repeat (first | apply pick0 | apply pick_there)); done) | fail) 0 rfl, hR.drew.cellP (by first | ((repeat (first | with_reducible apply pick0 | with_reducible apply pick_there)); done) | ((repeat (first | apply pick0 | apply pick_there)); done) | fail) 0 rfl⟩
  refine rp 0 (hy := (yl_move (by conv => lhs; whnf))) (h := ?_)
  refine rp 1 (hy := (yl_nil (by conv => lhs; whnf))) (h := ?_)
  refine rp 2 (hy := (yl_field (by conv => lhs; whnf) (by ((intro wq; go_simp); first | done | (with_reducible rfl))))) (h := ?_)
  refine rt 3 (h := ?_)
  refine rp 4 (hy := (yl_field (by conv => lhs; whnf) (by ((intro wq; go_simp); first | done | (with_reducible rfl))))) (h := ?_)
  refine rt 5 (h := ?_)
  clear hG
  refine rg_eff 6 (by conv => lhs; whnf) (by kernel_rfl) (fun K hK => ?_)
  (refine eff_call1 (by kernel_rfl) (by conv => lhs; whnf) ?_)
  refine (sname_c pl.seg hR.drew).mono ?_
  rintro e w3 ⟨v, rfl, rfl, hS3⟩
  refine hK _ _ (.inr (.inl ⟨hS3.cellP (by first | ((repeat (first | with_reducible apply pick0 | with_reducible apply pick_there)); done) | ((repeat (first | apply pick0 | apply pick_there)); done) | fail) 0 rfl, hS3.cellP (by first | ((repeat (first | with_reducible apply pick0 | with_reducible apply pick_there)); done) | ((repeat (first | apply pick0 | apply pick_there)); done) | fail) 0 rfl⟩)) ?_
  clear hK K
  refine rg_eff 7 (by conv => lhs; whnf) (by kernel_rfl) (fun K hK => ?_)
  (refine eff_call2 (by kernel_rfl) (by conv => lhs; whnf) (by conv => lhs; whnf) ?_)
  refine (sync_c HM.out (Sat.pk (by assumption)) _).mono ?_
  rintro e w4 ⟨v, rfl, rfl, hS4⟩
  refine hK _ _ (.inl rfl) ?_
  clear hK K hS3 hR
  refine rp 8 (hy := (yl_assign (by conv => lhs; whnf))) (h := ?_)
  refine wpL_done (by kernel_rfl) ?_
  have HM2 := Lib.hid (HM.out.sync (Seg.name pl.seg))
  generalize M1.sync (Seg.name pl.seg) = B at *
  obtain ⟨M2, e2⟩ := B
  by_cases he : e2 = 0
  rotate_left
  · have heb : (e2 == 0) = false := beq_false_of_ne he
    have hfin := Lib.hid (H1.out.trans (if_pos he))
    clear he
    go_wp2_with fail
    go_ret2
    refine ⟨.tuple #[.int .i64 0, errno e2], rfl, ?_, ?_⟩
    · rw [hfin.out]
    · rw [hfin.out]; exact LogRep.shut2 (lv := lv) (Sat.sb hS4)
  subst he
  have H2 := Lib.hid (H1.out.trans (if_neg (fun h => h rfl)))
  clear H1
  have e0 : w4.cell? ⟨p, 0, none⟩ = some (ptr m) := hS4.cellP (by first | ((repeat (first | with_reducible apply pick0 | with_reducible apply pick_there)); done) | ((repeat (first | apply pick0 | apply pick_there)); done) | fail) 0 rfl
  go_wp2_with fail
  refine (syncDir_c HM2.out (Sat.pk (by assumption))).mono ?_
  rintro e w5 ⟨v, rfl, rfl, hS5⟩
  clear hS4 e0
  generalize M2.syncDir = C at *
  obtain ⟨M3, e3⟩ := C
  by_cases he : e3 = 0
  rotate_left
  · have heb : (e3 == 0) = false := beq_false_of_ne he
    have hfin := Lib.hid (H2.out.trans (if_pos he))
    clear he
    go_wp2_with fail
    go_ret2
    refine ⟨.tuple #[.int .i64 0, errno e3], rfl, ?_, ?_⟩
    · rw [hfin.out]
    · rw [hfin.out]; exact LogRep.shut2 (lv := lv) (Sat.sb hS5)
  subst he
  have hfin := Lib.hid (H2.out.trans (if_neg (fun h => h rfl)))
  clear H2
  go_wp2_with (first | ((with_reducible apply at_load); refine ⟨?_⟩; refine wl_load1 (by assumption) (by rfl) (by first | ((repeat (first | with_reducible apply pick0 | with_reducible apply pick_there)); done) | ((repeat (first | apply pick0 | apply pick_there)); done) | fail) (Nat.le_of_ble_eq_true (by rfl)) (by conv => lhs; whnf) (by kernel_rfl) ?_) | ((with_reducible apply at_store); refine ⟨?_⟩; refine wl_store (by assumption) (by rfl) (by conv => lhs; whnf) (by first | (simp only [putsAt, Value.cells]; (try go_frame); first | done | rfl) | rfl) (by first | ((repeat (first | with_reducible apply upd0 | with_reducible apply upd_there)); done) | ((repeat (first | apply upd0 | apply upd_there)); done) | fail) (Nat.le_of_ble_eq_true (by rfl)) (by kernel_rfl) (by rfl) ?_; intro wS hS))
  go_ret2
  refine ⟨.tuple #[.int .i64 pl.seg, errno 0], rfl, ?_, ?_⟩
  · rw [hfin.out]
  · rw [hfin.out]; exact LogRep.shut2 (lv := lv) (Sat.sb hS)
end
end Go.Proofs.YtmjldaedhmipkaaGreatDoor
/- find, Sync, Fresh, Size, Bytes. -/
namespace Go.Seg
def idx (l : List (Int × Int)) (n : Int) : Int := match l.findIdx? (fun s => s.1 == n) with
  | some i => i
  | none => -1
theorem find_idx (L : Log) (n : Int) : L.find n = idx L.l n := rfl
theorem idx_at {l : List (Int × Int)} {n : Int} {i : Nat} {s : Int × Int} (hs : l[i]? = some s) (hn : s.1 = n) (hp : ∀ (j : Nat) (t : Int × Int), j < i → l[j]? = some t → t.1 ≠ n) : idx l n = i := by
  unfold idx
  have : l.findIdx? (fun s => s.1 == n) = some i := by
    rw [List.findIdx?_eq_some_iff_getElem]
    obtain ⟨h1, h2⟩ := List.getElem?_eq_some_iff.1 hs
    refine ⟨h1, by rw [h2]; simpa using hn, fun j hj => ?_⟩
    have := hp j _ hj (List.getElem?_eq_getElem (by omega))
    simpa using this
  rw [this]
theorem idx_no {l : List (Int × Int)} {n : Int} (hp : ∀ (j : Nat) (t : Int × Int), j < l.length → l[j]? = some t → t.1 ≠ n) : idx l n = -1 := by
  unfold idx
  have : l.findIdx? (fun s => s.1 == n) = none := by
    rw [List.findIdx?_eq_none_iff]
    intro t ht
    obtain ⟨j, hj, rfl⟩ := List.getElem_of_mem ht
    have := hp j _ hj (List.getElem?_eq_getElem hj)
    simpa using this
  rw [this]
end Go.Seg
namespace Go.Proofs.YtmjldaedhmipkaaGreatDoor
open Go Go.Sl Go.Med Go.MapKept Go.RowKit
set_option linter.unusedVariables false
section
variable {w0 w : World} {F R : List HProp} {v bv dv x lv : Value} {q p m K : Nat} {L : Seg.Log} {M : Med} {s : Int × Int}
set_option maxHeartbeats 4000000 in
theorem find1_c (s : Int × Int) (n : Int) (h : Sat w0 w F) (hq : Ro w0 F fun w => w.cell? ⟨q, 0, none⟩ = some (.int .i64 n)) :
    Calls Tryz.prog 136 #[.agg #[.int .i64 s.1, .int .i64 s.2], ptr q] w (Rtn fun v w' => v = .bool (s.1 == n) ∧ Sat w0 w' F) := by
  go_enter Tryz.func136, Tryz.ntmps136
  go_wp2_with (first | (((with_reducible apply at_box); refine ⟨?_⟩; refine wl_box (by assumption) (by conv => lhs; whnf) (by conv => lhs; whnf) ?_; intro bB wB hB); have c0 : wB.cell? ⟨q, 0, none⟩ = some (.int .i64 n) := hq _ hB.drop) | ((with_reducible apply at_load); refine ⟨?_⟩; refine wl_load1 (by assumption) (by rfl) (by first | ((repeat (first | with_reducible apply pick0 | with_reducible apply pick_there)); done) | ((repeat (first | apply pick0 | apply pick_there)); done) | fail) (Nat.le_of_ble_eq_true (by rfl)) (by conv => lhs; whnf) (by kernel_rfl) ?_))
  go_ret
  exact ⟨_, rfl, rfl, hB.drop⟩
set_option maxHeartbeats 8000000 in
theorem idxf_c (l : List (Int × Int)) (n : Int) (hln : l.length ≤ 1048576) (h : Sat w0 w (osl 145 2 lv (segw l) :: F)) (hq : Ro w0 F fun w => w.cell? ⟨q, 0, none⟩ = some (.int .i64 n)) :
    Calls Tryz.prog 135 #[lv, .func (.func 136) #[] #[ptr q]] w (Rtn fun v w' => v = .int .i64 (Seg.idx l n) ∧ Sat w0 w' (osl 145 2 lv (segw l) :: F)) := by
  rcases h.osl_cases with ⟨rfl, hx, hF⟩ | ⟨b, n', cap, cs, rfl, hll, hn', hc, hcm, htk, hp⟩
  · have hl : l = [] := by
      cases l with
      | nil => rfl
      | cons a l => simp [segw] at hx
    subst hl
    go_enter Tryz.func135, Tryz.ntmps135
    go_wp2_with fail
    go_loopg [8] 0 (fun g iq wr => iq = .int .i64 0 ∧ wr = w)
    case atStart => exact ⟨rfl, rfl⟩
    case round =>
      obtain ⟨rfl, rfl⟩ := hrel
      go_wp2
      go_ret
      exact ⟨_, rfl, rfl, h⟩
  · rw [segw_len] at hll
    obtain rfl : n' = l.length := by omega
    have hcl : ∀ (i : Nat) (s : Int × Int), l[i]? = some s → cs[i * 2]? = some (.int .i64 s.1) ∧ cs[i * 2 + 1]? = some (.int .i64 s.2) := by
      intro i s hs
      obtain ⟨h1, h2⟩ := segw_at _ _ _ hs
      rw [Nat.mul_comm i 2]
      exact ⟨take_get htk h1, take_get htk h2⟩
    have Hcl := Lib.hid hcl
    have Hend := Lib.hid (show ∀ wr, Sat w0 wr (pt b (.cells cs 145 (0,0)) :: F) → Sat w0 wr (osl 145 2 (.slice (some ⟨b, 0, none⟩) l.length cap) (segw l) :: F) from fun wr hS => Sat.osl_of_pt hS (by rw [segw_len]; omega) hn' hc hcm htk)
    have Hq := Lib.hid hq
    clear hcl hn' hc hcm htk h hq hll
    go_enter Tryz.func135, Tryz.ntmps135
    go_wp2_with fail
    go_loopg [8] l.length (fun g iq wr => ∃ i : Nat, g = l.length - i ∧ i ≤ l.length ∧ iq = .int .i64 i ∧ Sat w0 wr (pt b (.cells cs 145 (0,0)) :: F) ∧ Hid (∀ (j : Nat) (t : Int × Int), j < i → l[j]? = some t → t.1 ≠ n))
    case atStart => exact ⟨0, rfl, Nat.zero_le _, rfl, hp, Lib.hid fun j t hj => absurd hj (Nat.not_lt_zero j)⟩
    case round =>
      obtain ⟨i, rfl, hi, rfl, hS, Hp⟩ := hrel
      clear hp
      by_cases hlt : i < l.length
      · obtain ⟨s, hs⟩ : ∃ s, l[i]? = some s := ⟨_, List.getElem?_eq_getElem hlt⟩
        obtain ⟨d0, d1⟩ := Hcl.out i s hs
        have Hs := Lib.hid hs; have Hd0 := Lib.hid d0; have Hd1 := Lib.hid d1; have Hlt := Lib.hid hlt
        have hic : (i : Int) < (l.length : Int) := by omega
        have hwi : IntKind.i64.wrap ((i : Int) + 1) = (i : Int) + 1 := IntWalk.i64_in _ (by omega)
        clear hs d0 d1 hlt
        have hfn := find1_c (q := q) s n hS (Ro.os Hq.out)
        go_wp2_with ((with_reducible apply at_load); refine ⟨?_⟩; refine wl_loadN (b := b) (o := i * 2) [.int .i64 s.1, .int .i64 s.2] (by assumption) (by rfl) (by first | ((repeat (first | with_reducible apply pick0 | with_reducible apply pick_there)); done) | ((repeat (first | apply pick0 | apply pick_there)); done) | fail) (fun j v hj => by
          rcases j with _ | _ | j
          · cases hj; exact Hd0.out
          · cases hj; exact Hd1.out
          · simp at hj) Tryz.underlying145 rfl (by kernel_rfl) ?_)
        refine hfn.mono ?_
        rintro e w2 ⟨v, rfl, rfl, hS2⟩
        clear hfn hS
        by_cases hsn : s.1 = n
        · have hsb : (s.1 == n) = true := by simpa using hsn
          have Hfin := Lib.hid (Seg.idx_at Hs.out hsn Hp.out)
          clear hsn
          go_wp2
          go_ret
          exact ⟨.int .i64 i, rfl, by rw [Hfin.out], Hend.out _ hS2⟩
        · have hsb : (s.1 == n) = false := by simpa using hsn
          have Hp2 := Lib.hid (show ∀ (j : Nat) (t : Int × Int), j < i + 1 → l[j]? = some t → t.1 ≠ n by
            intro j t hj ht
            by_cases hji : j < i
            · exact Hp.out j t hji ht
            · obtain rfl : j = i := by omega
              rw [Hs.out] at ht; cases ht; exact hsn)
          clear hsn Hp
          go_wp2
          go_roundg (l.length - (i + 1))
          case measure => have := Hlt.out; omega
          case rel => exact ⟨i + 1, rfl, Nat.succ_le_of_lt Hlt.out, by first | rfl | go_num, hS2, Hp2⟩
      · obtain rfl : i = l.length := by omega
        have hic : ¬ (l.length : Int) < (l.length : Int) := by omega
        have Hfin := Lib.hid (Seg.idx_no Hp.out)
        clear hi hlt Hp
        go_wp2
        go_ret
        exact ⟨.int .i64 (-1), rfl, by rw [Hfin.out], Hend.out _ hS⟩
set_option maxHeartbeats 4000000 in
theorem lfind_c (hL : L.Ok) (n : Int) (h : Sat w0 w (LogRep p m L :: F)) :
    Calls Tryz.prog 79 #[ptr p, .int .i64 n] w (Rtn fun v w' => v = .int .i64 (L.find n) ∧ Sat w0 w' (LogRep p m L :: F)) := by
  obtain ⟨lv, hR⟩ := LogRep.open2 h
  clear h
  have Hln := Lib.hid hL.len
  rw [Seg.find_idx]
  clear hL
  go_enter Tryz.func79, Tryz.ntmps79
  go_wp2_with ((with_reducible apply at_box); refine ⟨?_⟩; refine wl_box (by assumption) (by conv => lhs; whnf) (by conv => lhs; whnf) ?_; intro bB wB hB)
  refine (ok_c (Sat.pk (by assumption))).mono ?_
  rintro e w2 ⟨v, rfl, rfl, rfl⟩
  clear hR
  go_wp2_with ((with_reducible apply at_load); refine ⟨?_⟩; refine wl_load1 (by assumption) (by rfl) (by first | ((repeat (first | with_reducible apply pick0 | with_reducible apply pick_there)); done) | ((repeat (first | apply pick0 | apply pick_there)); done) | fail) (Nat.le_of_ble_eq_true (by rfl)) (by conv => lhs; whnf) (by kernel_rfl) ?_)
  refine (idxf_c (q := bB) (lv := lv) L.l n Hln.out (Sat.pk (by assumption)) (fun w hw => hw.cellP (by first | ((repeat (first | with_reducible apply pick0 | with_reducible apply pick_there)); done) | ((repeat (first | apply pick0 | apply pick_there)); done) | fail) 0 rfl)).mono ?_
  rintro e w3 ⟨v, rfl, rfl, hS3⟩
  clear hB
  go_wp2
  go_ret
  exact ⟨_, rfl, rfl, LogRep.shut2 (lv := lv) (Sat.sb hS3)⟩
set_option maxHeartbeats 4000000 in
theorem lsync_c (hM : M.Ok K) (h : Sat w0 w (LogRep p m L :: MedRep m M :: F)) :
    Calls Tryz.prog 25 #[ptr p] w (Rtn fun v w' => v = errno M.syncDir.2 ∧ Sat w0 w' (LogRep p m L :: MedRep m M.syncDir.1 :: F)) := by
  obtain ⟨lv, hR⟩ := LogRep.open2 h
  clear h
  go_enter Tryz.func25, Tryz.ntmps25
  go_wp2_with fail
  refine (ok_c (Sat.pk (by assumption))).mono ?_
  rintro e w2 ⟨v, rfl, rfl, rfl⟩
  go_wp2_with ((with_reducible apply at_load); refine ⟨?_⟩; refine wl_load1 (by assumption) (by rfl) (by first | ((repeat (first | with_reducible apply pick0 | with_reducible apply pick_there)); done) | ((repeat (first | apply pick0 | apply pick_there)); done) | fail) (Nat.le_of_ble_eq_true (by rfl)) (by conv => lhs; whnf) (by kernel_rfl) ?_)
  refine (syncDir_c hM (Sat.pk (by assumption))).mono ?_
  rintro e w3 ⟨v, rfl, rfl, hS3⟩
  go_wp2
  go_ret
  exact ⟨_, rfl, rfl, LogRep.shut2 (lv := lv) (Sat.sb hS3)⟩
set_option maxHeartbeats 4000000 in
theorem lfresh_c (h : Sat w0 w (LogRep p m L :: F)) :
    Calls Tryz.prog 101 #[ptr p] w (Rtn fun v w' => v = .int .i64 L.fresh ∧ w = w') := by
  obtain ⟨lv, hR⟩ := LogRep.open2 h
  clear h
  go_enter Tryz.func101, Tryz.ntmps101
  go_wp2_with fail
  refine (ok_c (Sat.pk (by assumption))).mono ?_
  rintro e w2 ⟨v, rfl, rfl, rfl⟩
  go_wp2_with ((with_reducible apply at_load); refine ⟨?_⟩; refine wl_load1 (by assumption) (by rfl) (by first | ((repeat (first | with_reducible apply pick0 | with_reducible apply pick_there)); done) | ((repeat (first | apply pick0 | apply pick_there)); done) | fail) (Nat.le_of_ble_eq_true (by rfl)) (by conv => lhs; whnf) (by kernel_rfl) ?_)
  go_ret
  exact ⟨_, rfl, rfl, rfl⟩
theorem find_neg (n : Int) : (L.at n = none ∧ L.find n = -1) ∨ ∃ i, L.at n = some i ∧ L.find n = i := by
  unfold Seg.Log.find
  cases L.at n with
  | none => exact .inl ⟨rfl, rfl⟩
  | some i => exact .inr ⟨i, rfl, rfl⟩
set_option maxHeartbeats 4000000 in
theorem lsize_c (hL : L.Ok) (n : Int) (h : Sat w0 w (LogRep p m L :: F)) :
    Calls Tryz.prog 58 #[ptr p, .int .i64 n] w (Rtn fun v w' => v = .int .i64 (L.size n) ∧ Sat w0 w' (LogRep p m L :: F)) := by
  have hf := lfind_c hL n h
  have Hln := Lib.hid hL.len
  rcases find_neg (L := L) n with ⟨ha, hb⟩ | ⟨i, ha, hb⟩
  · have Hfin := Lib.hid (show L.size n = 0 by unfold Seg.Log.size; rw [ha])
    rw [hb] at hf
    clear ha hb hL h
    go_enter Tryz.func58, Tryz.ntmps58
    go_wp2_with fail
    refine hf.mono ?_
    rintro e w2 ⟨v, rfl, rfl, hS2⟩
    clear hf
    go_wp2
    go_ret
    rw [Hfin.out]
    exact ⟨_, rfl, rfl, hS2⟩
  · rw [hb] at hf
    obtain ⟨hlt, s, hs, hsn⟩ := Seg.Log.at_lt ha
    have Hfin := Lib.hid (show L.size n = s.2 by unfold Seg.Log.size; rw [ha]; simp only; rw [List.getD_eq_getElem?_getD, hs]; rfl)
    have Hs := Lib.hid hs
    have hi0 : (0 : Int) ≤ (i : Int) := by omega
    have hil : (i : Int) < (L.l.length : Int) := by omega
    have hd : decide ((i : Int) < 0) = false := decide_eq_false (by omega)
    clear ha hb hL h hs hsn hlt
    go_enter Tryz.func58, Tryz.ntmps58
    go_wp2_with fail
    refine hf.mono ?_
    rintro e w2 ⟨v, rfl, rfl, hS2⟩
    clear hf
    obtain ⟨lv, hR⟩ := LogRep.open2 hS2
    rcases (hR.pk).osl_cases with ⟨hl, hx, hF⟩ | ⟨b, n', cap, cs, rfl, hll, hn', hc, hcm, htk, hp⟩
    · exfalso
      have := (segw_at _ _ _ Hs.out).1
      rw [hx] at this; simp at this
    · rw [segw_len] at hll
      obtain rfl : n' = L.l.length := by omega
      have e2 : w2.cell? ⟨b, i * 2 + 1, none⟩ = some (.int .i64 s.2) := by
        have := take_get htk (segw_at _ _ _ Hs.out).2
        rw [Nat.mul_comm 2 i] at this
        exact hp.cellP (by first | ((repeat (first | with_reducible apply pick0 | with_reducible apply pick_there)); done) | ((repeat (first | apply pick0 | apply pick_there)); done) | fail) _ this
      clear hp htk hc hn' hll hcm
      go_wp2_with ((with_reducible apply at_load); refine ⟨?_⟩; refine wl_load1 (by assumption) (by rfl) (by first | ((repeat (first | with_reducible apply pick0 | with_reducible apply pick_there)); done) | ((repeat (first | apply pick0 | apply pick_there)); done) | fail) (Nat.le_of_ble_eq_true (by rfl)) (by conv => lhs; whnf) (by kernel_rfl) ?_)
      go_ret
      rw [Hfin.out]
      exact ⟨_, rfl, rfl, hS2⟩
set_option maxRecDepth 20000 in
set_option maxHeartbeats 4000000 in
theorem lbytes_c (hL : L.Ok) (hM : M.Ok K) (n : Int) (h : Sat w0 w (LogRep p m L :: MedRep m M :: F)) :
    Calls Tryz.prog 104 #[ptr p, .int .i64 n] w (Rtn fun v w' => ∃ bv, v = .tuple #[bv, errno (L.bytes M n).2] ∧ Sat w0 w' (bsl bv (L.bytes M n).1 :: LogRep p m L :: MedRep m M :: F)) := by
  obtain ⟨lv, hR⟩ := LogRep.open2 h
  have hok := ok_c hR
  have hf := lfind_c hL n h
  rcases find_neg (L := L) n with ⟨ha, hb⟩ | ⟨i, ha, hb⟩
  · have Hfin := Lib.hid (show L.bytes M n = ([], 9) by unfold Seg.Log.bytes; rw [ha])
    rw [hb] at hf
    clear ha hb hL h hR
    go_enter Tryz.func104, Tryz.ntmps104
    go_wp2_with fail
    refine hok.mono ?_
    rintro e w2 ⟨v, rfl, rfl, rfl⟩
    clear hok
    go_wp2_with fail
    refine hf.mono ?_
    rintro e w2 ⟨v, rfl, rfl, hS2⟩
    clear hf
    go_wp2
    go_ret2
    rw [Hfin.out]
    exact ⟨_, rfl, .slice none 0 0, rfl, Sat.osl_nil.2 hS2⟩
  · rw [hb] at hf
    have Hfin := Lib.hid (show L.bytes M n = M.all (Seg.name n) by unfold Seg.Log.bytes; rw [ha])
    have hi0 : (0 : Int) ≤ (i : Int) := by omega
    have hd : decide ((i : Int) < 0) = false := decide_eq_false (by omega)
    clear ha hb hL h hR lv
    go_enter Tryz.func104, Tryz.ntmps104
    go_wp2_with fail
    refine hok.mono ?_
    rintro e w2 ⟨v, rfl, rfl, rfl⟩
    clear hok
    go_wp2_with fail
    refine hf.mono ?_
    rintro e w2 ⟨v, rfl, rfl, hS2⟩
    clear hf
    obtain ⟨lv, hR⟩ := LogRep.open2 hS2
    clear hS2
    go_wp2_with fail
    refine wpL_begin [6, 7, 8, 9, 10] (fun w' => w'.cell? ⟨p, 0, none⟩ = some (ptr m)) (by kernel_rfl) ?_
    have hG : w2.drew.cell? ⟨p, 0, none⟩ = some (ptr m) := hR.drew.cellP (by first | ((repeat (first | with_reducible apply pick0 | with_reducible apply pick_there)); done) | ((repeat (first | apply pick0 | apply pick_there)); done) | fail) 0 rfl
    refine rp 0 (hy := (yl_move (by conv => lhs; whnf))) (h := ?_)
    refine rp 1 (hy := (yl_nil (by conv => lhs; whnf))) (h := ?_)
    refine rp 2 (hy := (yl_field (by conv => lhs; whnf) (by ((intro wq; go_simp); first | done | (with_reducible rfl))))) (h := ?_)
    refine rt 3 (h := ?_)
    refine rp 4 (hy := (yl_move (by conv => lhs; whnf))) (h := ?_)
    clear hG
    refine rg_eff 5 (by conv => lhs; whnf) (by kernel_rfl) (fun K hK => ?_)
    (refine eff_call1 (by kernel_rfl) (by conv => lhs; whnf) ?_)
    refine (sname_c n hR.drew).mono ?_
    rintro e w3 ⟨v, rfl, rfl, hS3⟩
    refine hK _ _ (.inr (.inl (hS3.cellP (by first | ((repeat (first | with_reducible apply pick0 | with_reducible apply pick_there)); done) | ((repeat (first | apply pick0 | apply pick_there)); done) | fail) 0 rfl))) ?_
    clear hK K hR
    refine rg_eff 6 (by conv => lhs; whnf) (by kernel_rfl) (fun K hK => ?_)
    (refine eff_call2 (by kernel_rfl) (by conv => lhs; whnf) (by conv => lhs; whnf) ?_)
    refine (all_c hM (Sat.pk (by assumption)) _).mono ?_
    rintro e w4 ⟨v, rfl, bv, rfl, hS4⟩
    refine hK _ _ (.inl rfl) ?_
    clear hK K hS3
    refine rp 7 (hy := (yl_extract (by conv => lhs; whnf) (by ((intro wq; go_simp); first | done | (with_reducible rfl))))) (h := ?_)
    refine rp 8 (hy := (yl_extract (by conv => lhs; whnf) (by ((intro wq; go_simp); first | done | (with_reducible rfl))))) (h := ?_)
    refine rp 9 (hy := (yl_assign (by conv => lhs; whnf))) (h := ?_)
    refine rp 10 (hy := (yl_assign (by conv => lhs; whnf))) (h := ?_)
    refine wpL_done (by kernel_rfl) ?_
    go_wp2
    go_ret2
    rw [Hfin.out]
    exact ⟨_, rfl, bv, rfl, Sat.sub (LogRep.shut2 (lv := lv) (hS4.sb)) (by repeat (first | (with_reducible apply sub_refl) | ((with_reducible apply sub_take); (· first | ((repeat (first | with_reducible apply pick0 | with_reducible apply pick_there)); done) | ((repeat (first | apply pick0 | apply pick_there)); done) | fail)) | (with_reducible apply sub_drop)))⟩
end
end Go.Proofs.YtmjldaedhmipkaaGreatDoor
/- Segments; slices.Delete. -/
namespace Go.Seg
def Log.segs (L : Log) : List Int := L.l.map (·.1)
end Go.Seg
namespace Go.Proofs.YtmjldaedhmipkaaGreatDoor
open Go Go.Sl Go.Med Go.MapKept Go.RowKit
set_option linter.unusedVariables false
theorem zSeg : zeroB Tryz.prog 145 = some (.agg #[.int .i64 0, .int .i64 0]) := by kernel_rfl
section
variable {w0 w : World} {F R : List HProp} {v bv dv x lv : Value} {q p m K : Nat} {L : Seg.Log} {M : Med} {s : Int × Int}
theorem ints_app (l k : List Int) : ints (l ++ k) = ints l ++ ints k := by unfold ints; rw [List.map_append]
theorem ints_length (l : List Int) : (ints l).length = l.length := by unfold ints; rw [List.length_map]
/-- The segments' cells, whatever the slice. -/
theorem segs_open (hln : L.l.length ≤ 1048576) (h : Sat w0 w (logPt p m L lv :: osl 145 2 lv (segw L.l) :: F)) :
    (L.l = [] ∧ lv = .slice none 0 0) ∨ ∃ b cap cs, lv = .slice (some ⟨b, 0, none⟩) L.l.length cap ∧ (∀ (i : Nat) (s : Int × Int), L.l[i]? = some s → cs[i * 2]? = some (.int .i64 s.1) ∧ cs[i * 2 + 1]? = some (.int .i64 s.2)) ∧
      Sat w0 w (pt b (.cells cs 145 (0,0)) :: logPt p m L lv :: F) ∧ ∀ w1 G, Sat w0 w1 (pt b (.cells cs 145 (0,0)) :: G) → Sat w0 w1 (osl 145 2 lv (segw L.l) :: G) := by
  have h' := h.pick1
  rcases h'.osl_cases with ⟨rfl, hx, hF⟩ | ⟨b, n', cap, cs, rfl, hll, hn', hc, hcm, htk, hp⟩
  · left
    refine ⟨?_, rfl⟩
    cases hl : L.l with
    | nil => rfl
    | cons a l => rw [hl] at hx; simp [segw] at hx
  · right
    rw [segw_len] at hll
    obtain rfl : n' = L.l.length := by omega
    refine ⟨b, cap, cs, rfl, ?_, hp, fun w1 G hS => Sat.osl_of_pt hS (by rw [segw_len]; omega) hn' hc hcm htk⟩
    intro i s hs
    obtain ⟨h1, h2⟩ := segw_at _ _ _ hs
    rw [Nat.mul_comm i 2]
    exact ⟨take_get htk h1, take_get htk h2⟩
set_option maxRecDepth 20000 in
set_option maxHeartbeats 8000000 in
theorem lsegs_c (hL : L.Ok) (h : Sat w0 w (LogRep p m L :: F)) :
    Calls Tryz.prog 46 #[ptr p] w (Rtn fun v w' => Sat w0 w' (osl 3 1 v (ints L.segs) :: LogRep p m L :: F)) := by
  obtain ⟨lv, hR⟩ := LogRep.open2 h
  clear h
  have hok := ok_c hR
  rcases segs_open hL.len hR with ⟨hnil, rfl⟩ | ⟨b, cap, cs, rfl, hcl, hp, hend⟩
  · have Hfin := Lib.hid (show L.segs = [] by unfold Seg.Log.segs; rw [hnil]; rfl)
    clear hnil hL
    go_enter Tryz.func46, Tryz.ntmps46
    go_wp2_with fail
    refine hok.mono ?_
    rintro e w2 ⟨v, rfl, rfl, rfl⟩
    clear hok
    go_wp2_with ((with_reducible apply at_load); refine ⟨?_⟩; refine wl_load1 (by assumption) (by rfl) (by first | ((repeat (first | with_reducible apply pick0 | with_reducible apply pick_there)); done) | ((repeat (first | apply pick0 | apply pick_there)); done) | fail) (Nat.le_of_ble_eq_true (by rfl)) (by conv => lhs; whnf) (by kernel_rfl) ?_)
    go_loopg [14, 3] 0 (fun g iq ov wr => iq = .int .i64 0 ∧ ov = .slice none 0 0 ∧ wr = w)
    case atStart => exact ⟨rfl, rfl, rfl⟩
    case round =>
      obtain ⟨rfl, rfl, rfl⟩ := hrel
      go_wp2
      go_ret
      rw [Hfin.out]
      exact ⟨_, rfl, Sat.osl_nil.2 (LogRep.shut2 hR)⟩
  · have Hcl := Lib.hid hcl
    have Hend := Lib.hid hend
    have Hln := Lib.hid hL.len
    clear hcl hend hL hR
    go_enter Tryz.func46, Tryz.ntmps46
    go_wp2_with fail
    refine hok.mono ?_
    rintro e w2 ⟨v, rfl, rfl, rfl⟩
    clear hok
    go_wp2_with ((with_reducible apply at_load); refine ⟨?_⟩; refine wl_load1 (by assumption) (by rfl) (by first | ((repeat (first | with_reducible apply pick0 | with_reducible apply pick_there)); done) | ((repeat (first | apply pick0 | apply pick_there)); done) | fail) (Nat.le_of_ble_eq_true (by rfl)) (by conv => lhs; whnf) (by kernel_rfl) ?_)
    go_loopg [14, 3] L.l.length (fun g iq ov wr => ∃ i : Nat, g = L.l.length - i ∧ i ≤ L.l.length ∧ iq = .int .i64 i ∧
      Sat w0 wr (osl 3 1 ov (ints ((L.l.take i).map (·.1))) :: pt b (.cells cs 145 (0,0)) :: logPt p m L (.slice (some ⟨b, 0, none⟩) L.l.length cap) :: F))
    case atStart => exact ⟨0, rfl, Nat.zero_le _, rfl, Sat.osl_nil.2 hp⟩
    case round =>
      obtain ⟨i, rfl, hi, rfl, hS⟩ := hrel
      clear hp
      by_cases hlt : i < L.l.length
      · obtain ⟨s, hs⟩ : ∃ s, L.l[i]? = some s := ⟨_, List.getElem?_eq_getElem hlt⟩
        have Htk := Lib.hid (show ints ((L.l.take i).map (·.1)) ++ [.int .i64 s.1] = ints ((L.l.take (i + 1)).map (·.1)) by
          rw [List.take_add_one, hs, List.map_append, ints_app]; rfl)
        have hlen : (ints ((L.l.take i).map (·.1))).length ≤ 2147483648 := by
          rw [ints_length, List.length_map, List.length_take]; have := Hln.out; omega
        obtain ⟨d0, d1⟩ := Hcl.out i s hs
        have Hd0 := Lib.hid d0; have Hd1 := Lib.hid d1; have Hlt := Lib.hid hlt
        have hic : (i : Int) < (L.l.length : Int) := by omega
        have hwi : IntKind.i64.wrap ((i : Int) + 1) = (i : Int) + 1 := IntWalk.i64_in _ (by have := Hln.out; omega)
        clear hs d0 d1 hlt
        go_wp2_with (first
          | ((with_reducible apply at_load); refine ⟨?_⟩; refine wl_loadN (b := b) (o := i * 2) [.int .i64 s.1, .int .i64 s.2] (by assumption) (by rfl) (by first | ((repeat (first | with_reducible apply pick0 | with_reducible apply pick_there)); done) | ((repeat (first | apply pick0 | apply pick_there)); done) | fail) (fun j v hj => by
              rcases j with _ | _ | j
              · cases hj; exact Hd0.out
              · cases hj; exact Hd1.out
              · simp at hj) Tryz.underlying145 rfl (by kernel_rfl) ?_)
          | (refine wl_alloc zSeg (by assumption) rfl ?_; intro q3 w3 hS3)
          | ((with_reducible apply at_store); refine ⟨?_⟩; refine wl_store (by assumption) (by rfl) (by conv => lhs; whnf) (by first | (simp only [putsAt, Value.cells]; (try go_frame); first | done | rfl) | rfl) (by first | ((repeat (first | with_reducible apply upd0 | with_reducible apply upd_there)); done) | ((repeat (first | apply upd0 | apply upd_there)); done) | fail) (Nat.le_of_ble_eq_true (by rfl)) (by kernel_rfl) (by rfl) ?_; intro wS hS) | ((with_reducible apply at_load); refine ⟨?_⟩; refine wl_load1 (by assumption) (by rfl) (by first | ((repeat (first | with_reducible apply pick0 | with_reducible apply pick_there)); done) | ((repeat (first | apply pick0 | apply pick_there)); done) | fail) (Nat.le_of_ble_eq_true (by rfl)) (by conv => lhs; whnf) (by kernel_rfl) ?_) | ((with_reducible apply at_build1); refine ⟨?_⟩; refine wl_build1 (e := 3) (sz := 1) (by' := 8) (by kernel_rfl) (by assumption) (by conv => lhs; whnf) (by conv => lhs; whnf) (by rfl) (Nat.le_of_ble_eq_true (by rfl)) ?_; intro bN wN hN) | ((with_reducible apply at_append); refine ⟨?_⟩; refine wl_app 3 1 8 (by kernel_rfl) (by assumption) (by rfl) (by rfl) (by first | ((repeat (first | with_reducible apply pick0 | with_reducible apply pick_there)); done) | ((repeat (first | apply pick0 | apply pick_there)); done) | fail) (by first | ((repeat (first | with_reducible apply pick0 | with_reducible apply pick_there)); done) | ((repeat (first | apply pick0 | apply pick_there)); done) | fail) (by rfl) (Nat.le_of_ble_eq_true (by rfl)) (by rfl) (by assumption) (Nat.le_of_ble_eq_true (by rfl)) (Nat.le_of_ble_eq_true (by rfl)) (by conv => lhs; whnf) ?_; intro bA nA cA wA hA))
        go_roundg (L.l.length - (i + 1))
        case measure => have := Hlt.out; omega
        case rel =>
          refine ⟨i + 1, rfl, Nat.succ_le_of_lt Hlt.out, by first | rfl | go_num, ?_⟩
          rw [Htk.out] at hA
          exact Sat.sb hA
      · obtain rfl : i = L.l.length := by omega
        have hic : ¬ (L.l.length : Int) < (L.l.length : Int) := by omega
        rw [List.take_length] at hS
        clear hi hlt
        go_wp2
        go_ret
        refine ⟨_, rfl, ?_⟩
        have h7 := Hend.out _ _ (hS.pk)
        exact Sat.sub (LogRep.shut2 (lv := .slice (some ⟨b, 0, none⟩) L.l.length cap) (Sat.sb h7)) (by repeat (first | (with_reducible apply sub_refl) | ((with_reducible apply sub_take); (· first | ((repeat (first | with_reducible apply pick0 | with_reducible apply pick_there)); done) | ((repeat (first | apply pick0 | apply pick_there)); done) | fail)) | (with_reducible apply sub_drop)))
end
end Go.Proofs.YtmjldaedhmipkaaGreatDoor
/- slices.Delete of one segment. -/
namespace Go.Proofs.YtmjldaedhmipkaaGreatDoor
open Go Go.Sl Go.Med Go.MapKept Go.RowKit
set_option linter.unusedVariables false
section
variable {P : Program} {w0 w : World} {F R L : List HProp} {b : Nat} {ops : Array Oper} {rest : List Oper} {a : Act} {Q : Exit → Act → World → Prop}
variable {dst : Option Tmp} {t ty T e : TypeId} {pos : String} {after : Array Edge} {x y : Operand} {cs : Array Value} {v : Value} {o n c k cap sz by' : Nat} {ad : Addr} {ys : List Value}
/-- An append that stays in its block; what is put may lie in the same block. -/
theorem eff_app_in (sz by' : Nat) {K : Act → World → Prop} {E : Prop} (hb : appB P ty e sz by' = true) (hv : a.eval x = .slice (some ⟨b, 0, none⟩) k cap) (hy : a.eval y = .slice (some ad) n c)
    (h : Sat w0 w (pt b (.cells cs T (0,0)) :: F)) (hl : ys.length = n * sz) (hnews : ∀ j u, ys[j]? = some u → w.cell? (ad.add j) = some u) (h1 : ∀ u ∈ ys, u.oneCell' = true) (hroom : k + n ≤ cap) (hc : cap * sz ≤ cs.size)
    (hK : ∀ w', Sat w0 w' (pt b (.cells (putsAt cs (k * sz) ys) T (0,0)) :: F) → K (a.put dst (.slice (some ⟨b, 0, none⟩) (k + n) cap)) w') :
    if Region.wanted ⟨dst, .call { callee := .builtin .append, args := #[x, y], argTypes := #[ty, ty] }, t, pos, after, none⟩ (yielded ops a.tmps) = true then
      Oper.wp P ⟨dst, .call { callee := .builtin .append, args := #[x, y], argTypes := #[ty, ty] }, t, pos, after, none⟩ a w K Q else E := by
  rw [if_pos (want_none _ rfl)]
  obtain ⟨hu, i, z, hi, hz, e1, e2, e3, e4⟩ := appB_spec hb
  subst e1
  have hle : (k + n) * i.size ≤ cs.size := Nat.le_trans (Nat.mul_le_mul_right _ hroom) hc
  rw [Nat.add_mul] at hle
  have hr := run_append_room_cells (P := P) (w := w) ty t e i hu hi b 0 k cap ad n c ys hl hnews h1 hroom (fun j hj => by
      rw [Nat.zero_add, h.cellAt (k * i.size + j) _ (Array.getElem?_eq_getElem (show k * i.size + j < cs.size by omega))]; rfl) (fun j hj => h.freeAt _)
  rw [Nat.zero_add] at hr
  unfold Oper.wp execOp
  simp only [resolve, invoke, builtin, Sem.run_bind, Sem.run_pure, Result.andThen_ok, List.map_toArray, List.map_cons, List.map_nil, hv, hy, hr]
  exact hK _ (Sat.sets ys (k * i.size) h)
theorem yl_slice_lo {vx vy : Value} (hx : a.eval x = vx) (hy : a.eval y = vy) (hr : ∀ w, (Instr.sliceAt ty vx (some vy) none none).run P w = .ok v w) : Yields P ops ⟨dst, .slice ty x (some y) none none, t, pos, after, none⟩ v a :=
  .inl ⟨want_none _ rfl, fun w => by simp only [execOp, hx, hy, Option.map_some, Option.map_none, Sem.run_bind, hr, Result.andThen_ok, Sem.run_pure]⟩
/-- 'clear' of the last element. -/
theorem run_clear1 (sz : Nat) {z : Value} (hu : P.underlying ty = some (.slice e)) (hz : zeroB P e = some z) (hzs : z.cells.size = sz) (h1 : z.cells.toList.all (·.oneCell') = true) {o : Nat} (hfit : o + sz ≤ cs.size)
    (h : Sat w0 w (pt b (.cells cs T (0,0)) :: F)) :
    ∃ w', (Builtin.clear_ #[ty] t #[.slice (some ⟨b, o, none⟩) 1 c]).run P w = .ok (.tuple #[]) w' ∧ Sat w0 w' (pt b (.cells (putsAt cs o z.cells.toList) T (0,0)) :: F) := by
  refine ⟨w.setCells b o z.cells.toList, ?_, Sat.sets _ _ h⟩
  have hzc : (Builtin.zeroCells z.cells 1).toList = z.cells.toList := by
    unfold Builtin.zeroCells
    simp only [Array.toList_map, Array.toList_range, Nat.one_mul]
    apply List.ext_getElem (by simp)
    intro i q1 q2
    have hi : i < z.cells.size := by simpa using q2
    simp [Nat.mod_eq_of_lt hi, hi]
  have hst := run_storeCells_cells (P := P) b o z.cells.toList 0 w (fun j hj => by
      rw [Nat.add_zero, h.cellAt (o + j) _ (Array.getElem?_eq_getElem (show o + j < cs.size by simp at hj; omega))]; rfl) (fun j hj => h.freeAt _) (fun u hu => (List.all_eq_true.1 h1) u hu)
  simp only [Nat.add_zero] at hst
  simp [Builtin.clear_, run_underlying hu, run_zeroB hz w, hzc, hst]
theorem wl_clear1 (sz : Nat) {z : Value} (hu : P.underlying ty = some (.slice e)) (hz : zeroB P e = some z) (hzs : z.cells.size = sz) (h1 : z.cells.toList.all (·.oneCell') = true) (hx : a.eval x = .slice (some ⟨b, o, none⟩) 1 c) (hfit : o + sz ≤ cs.size)
    (h : Sat w0 w (pt b (.cells cs T (0,0)) :: F)) (hK : ∀ w', Sat w0 w' (pt b (.cells (putsAt cs o z.cells.toList) T (0,0)) :: F) → wpList P ops Q rest (a.put dst (.tuple #[])) w') :
    wpList P ops Q (⟨dst, .call { callee := .builtin .clear, args := #[x], argTypes := #[ty] }, t, pos, after, none⟩ :: rest) a w := by
  refine wpList_plain rfl fun _ hK' => ?_
  obtain ⟨w', hr, hS⟩ := run_clear1 (P := P) (t := t) (c := c) sz hu hz hzs h1 hfit h
  unfold Oper.wp execOp
  simp only [resolve, invoke, builtin, Sem.run_bind, Sem.run_pure, Result.andThen_ok, List.map_toArray, List.map_cons, List.map_nil, hx, hr]
  exact hK' _ _ (hK w' hS)
theorem at_clear (h : Stop (wpList P ops Q (⟨dst, .call { callee := .builtin .clear, args := #[x], argTypes := #[ty] }, t, pos, after, none⟩ :: rest) a w)) : wpList P ops Q (⟨dst, .call { callee := .builtin .clear, args := #[x], argTypes := #[ty] }, t, pos, after, none⟩ :: rest) a w := h.out
end
section
variable {w0 w : World} {F R : List HProp} {v bv dv x lv : Value} {q p m K : Nat}
/-- The cells behind the removal of one segment. -/
theorem del_cells {l : List (Int × Int)} {i cap : Nat} {cs : Array Value} (hi : i < l.length) (hn : l.length ≤ cap) (hc : cap * 2 ≤ cs.size) (htk : cs.toList.take (l.length * 2) = segw l) (z : List Value) (hz : z.length = 2) :
    (putsAt (putsAt cs (i * 2) (segw (l.drop (i + 1)))) ((l.length - 1) * 2) z).toList.take ((l.length - 1) * 2) = segw (l.eraseIdx i) := by
  have hys : (segw (l.drop (i + 1))).length = (l.length - (i + 1)) * 2 := by rw [segw_len, List.length_drop, Nat.mul_comm]
  have hcl : cs.toList.length = cs.size := by simp
  rw [putsAt_list _ _ _ (by rw [putsAt_size]; omega), List.append_assoc, List.take_append, List.take_take, Nat.min_self]
  have hp2 : (putsAt cs (i * 2) (segw (l.drop (i + 1)))).toList.length = cs.size := (Array.length_toList).trans (putsAt_size _ _ _)
  have h1 : ((putsAt cs (i * 2) (segw (l.drop (i + 1)))).toList.take ((l.length - 1) * 2)).length = (l.length - 1) * 2 := by
    rw [List.length_take, hp2]; omega
  rw [h1, Nat.sub_self, List.take_zero, List.append_nil, putsAt_list _ _ _ (by omega), List.append_assoc]
  rw [List.take_append, List.length_take, hcl, Nat.min_eq_left (by omega), List.take_of_length_le (l := cs.toList.take (i * 2)) (by rw [List.length_take]; omega)]
  rw [List.take_append, hys, List.take_of_length_le (l := segw (l.drop (i + 1))) (by omega), show (l.length - 1) * 2 - i * 2 - (l.length - (i + 1)) * 2 = 0 by omega, List.take_zero, List.append_nil]
  have h2 : cs.toList.take (i * 2) = segw (l.take i) := by
    have := congrArg (List.take (i * 2)) htk
    rw [List.take_take, Nat.min_eq_left (by omega)] at this
    rw [this]
    conv => lhs; rw [← List.take_append_drop i l, segw_app]
    rw [List.take_append_of_le_length (by rw [segw_len, List.length_take]; omega), List.take_of_length_le (by rw [segw_len, List.length_take]; omega)]
  rw [h2, ← segw_app, List.eraseIdx_eq_take_drop_succ]
theorem segw_drop (l : List (Int × Int)) (i : Nat) : segw (l.drop i) = (segw l).drop (i * 2) := by
  rcases Nat.lt_or_ge i l.length with h | h
  · have h1 : segw l = segw (l.take i) ++ segw (l.drop i) := by rw [← segw_app, List.take_append_drop]
    have h2 : (segw (l.take i)).length = i * 2 := by rw [segw_len, List.length_take]; omega
    rw [h1, ← h2, List.drop_left]
  · rw [List.drop_of_length_le h, List.drop_of_length_le (by rw [segw_len]; omega)]; rfl
theorem segw_one (l : List (Int × Int)) : ∀ u ∈ segw l, u.oneCell' = true := by
  intro u hu
  unfold segw at hu
  rw [List.mem_flatMap] at hu
  obtain ⟨s, _, hs⟩ := hu
  simp only [List.mem_cons, List.not_mem_nil, or_false] at hs
  rcases hs with rfl | rfl <;> rfl
set_option maxRecDepth 20000 in
set_option maxHeartbeats 8000000 in
theorem sdelete_c (l : List (Int × Int)) (i : Nat) (hi : i < l.length) (hln : l.length ≤ 1048576) (h : Sat w0 w (osl 145 2 lv (segw l) :: F)) :
    Calls Tryz.prog 81 #[lv, .int .i64 i, .int .i64 ((i : Int) + 1)] w (Rtn fun v w' => ∃ a n c, v = .slice a n c ∧ Sat w0 w' (osl 145 2 v (segw (l.eraseIdx i)) :: F)) := by
  rcases h.osl_cases with ⟨rfl, hx, hF⟩ | ⟨b, n', cap, cs, rfl, hll, hn', hc, hcm, htk, hp⟩
  · exfalso
    have := congrArg List.length hx
    rw [segw_len] at this; simp at this; omega
  rw [segw_len] at hll
  obtain rfl : n' = l.length := by omega
  have hcm' : cap ≤ 9223372036854775807 := hcm
  have Hdel := Lib.hid (del_cells hi hn' hc htk [.int .i64 0, .int .i64 0] rfl)
  have h0 : (0 : Int) ≤ (i : Int) := by omega
  have h1 : (i : Int) ≤ (i : Int) + 1 := by omega
  have h2 : (i : Int) + 1 ≤ (l.length : Int) := by omega
  have h3 : (l.length : Int) ≤ (cap : Int) := by omega
  have hne : ((i : Int) == (i : Int) + 1) = false := by rw [beq_eq_false_iff_ne]; omega
  have Hp := Lib.hid hp; have Hcm := Lib.hid hcm; have Hc := Lib.hid hc; have Hn := Lib.hid hn'; have Htk := Lib.hid htk; have Hi := Lib.hid hi; have Hln := Lib.hid hln
  clear hn' hc hcm htk hi h hll hln
  go_enter Tryz.func81, Tryz.ntmps81
  go_wp2_with fail
  obtain ⟨ad, had, hsl⟩ : ∃ ad : Addr, (i + 1 < l.length → ad = ⟨b, (i + 1) * 2, none⟩) ∧ ∀ w, (Instr.sliceAt 138 (.slice (some ⟨b, 0, none⟩) l.length cap) (some (.int .i64 ((i : Int) + 1))) none none).run Tryz.prog w = .ok (.slice (some ad) (l.length - (i + 1)) (cap - (i + 1))) w := by
    by_cases hce : cap = i + 1
    · refine ⟨⟨b, 0, none⟩, fun hh => by have := Hn.out; omega, fun w => ?_⟩
      have h4 : (0 : Int) ≤ (i : Int) + 1 := by omega
      have h5 : ((i : Int) + 1).toNat = i + 1 := by omega
      go_simp
    · refine ⟨⟨b, (i + 1) * 2, none⟩, fun _ => rfl, fun w => ?_⟩
      have h4 : (0 : Int) ≤ (i : Int) + 1 := by omega
      have h5 : ((i : Int) + 1).toNat = i + 1 := by omega
      go_simp
  have hic : i ≤ cap := by omega
  refine wpL_begin [] (fun _ => True) (by kernel_rfl) ?_
  refine rp 0 (hy := (yl_move (by conv => lhs; whnf))) (h := ?_)
  refine rp 1 (hy := (yl_move (by conv => lhs; whnf))) (h := ?_)
  refine rp 2 (hy := (by (refine Or.inl ⟨by rfl, ?_⟩; ((intro wq; go_simp); first | done | (with_reducible rfl))))) (h := ?_)
  refine rp 3 (hy := (yl_move (by conv => lhs; whnf))) (h := ?_)
  refine rp 4 (hy := (yl_move (by conv => lhs; whnf))) (h := ?_)
  refine rp 5 (hy := (yl_slice_lo (by conv => lhs; whnf) (by conv => lhs; whnf) hsl)) (h := ?_)
  refine rg_eff 6 (by conv => lhs; whnf) (by kernel_rfl) (fun K hK => ?_)
  refine eff_app_in (e := 145) (w0 := w0) (b := b) (cs := cs) (k := i) (ys := segw (l.drop (i + 1))) 2 16 (by kernel_rfl) (by rfl) (by rfl) Hp.out.drew (by rw [segw_len, List.length_drop, Nat.mul_comm]) ?_ (segw_one _) (by have := Hn.out; have := Hi.out; omega) Hc.out ?_
  · intro j u hj
    have hjl := (List.getElem?_eq_some_iff.1 hj).1
    rw [segw_len, List.length_drop] at hjl
    rw [had (by omega), Addr.add_mid]
    rw [segw_drop, List.getElem?_drop] at hj
    exact Hp.out.drew.cellAt _ _ (take_get Htk.out hj)
  intro w2 hS2
  refine hK _ _ (.inr (.inl trivial)) ?_
  clear hK K
  rw [show i + (l.length - (i + 1)) = l.length - 1 by have := Hi.out; omega]
  have hj0 : (0 : Int) ≤ ((l.length - 1 : Nat) : Int) := by omega
  have hj1 : ((l.length - 1 : Nat) : Int) ≤ (l.length : Int) := by omega
  have hj2 : ¬ cap = l.length - 1 := by have := Hn.out; have := Hi.out; omega
  have hj3 : l.length - (l.length - 1) = 1 := by have := Hi.out; omega
  have hfit := Lib.hid (show (l.length - 1) * 2 + 2 ≤ (putsAt cs (i * 2) (segw (l.drop (i + 1)))).size by rw [putsAt_size]; have := Hc.out; have := Hn.out; have := Hi.out; omega)
  have Hk := Lib.hid (show (segw (l.eraseIdx i)).length = (l.length - 1) * 2 by rw [segw_len, List.length_eraseIdx_of_lt Hi.out, Nat.mul_comm])
  generalize (l.length - 1) = N at *
  refine rp 7 (hy := (yl_assign (by conv => lhs; whnf))) (h := ?_)
  refine wpL_done (by kernel_rfl) ?_
  clear hp hsl had
  go_wp2_with ((with_reducible apply at_clear); refine ⟨?_⟩; refine wl_clear1 (o := N * 2) 2 Tryz.underlying138 zSeg (by rfl) (by rfl) (by rfl) hfit.out hS2 ?_; intro w3 hS3)
  go_ret
  refine ⟨_, rfl, _, _, _, rfl, ?_⟩
  exact Sat.osl_of_pt hS3 Hk.out (by have := Hn.out; omega) (by rw [putsAt_size, putsAt_size]; exact Hc.out) Hcm.out Hdel.out
end
end Go.Proofs.YtmjldaedhmipkaaGreatDoor
/- Remove, Rollback of any log. -/
namespace Go.Proofs.YtmjldaedhmipkaaGreatDoor
open Go Go.Sl Go.Med Go.MapKept Go.RowKit
set_option linter.unusedVariables false
section
variable {w0 w : World} {F R : List HProp} {v bv dv x lv : Value} {q p m K : Nat} {L : Seg.Log} {M : Med} {s : Int × Int}
set_option maxRecDepth 20000 in
set_option maxHeartbeats 16000000 in
theorem lremove_c (hL : L.Ok) (hM : M.Ok K) (hKK : K ≤ 1099511627776) (n : Int) (h : Sat w0 w (LogRep p m L :: MedRep m M :: F)) :
    Calls Tryz.prog 23 #[ptr p, .int .i64 n] w (Rtn fun v w' => v = errno (L.remove M n).2 ∧ Sat w0 w' (LogRep p m (L.remove M n).1.1 :: MedRep m (L.remove M n).1.2 :: F)) := by
  obtain ⟨lv, hR⟩ := LogRep.open2 h
  have hok := ok_c hR
  have hf := lfind_c hL n h
  clear hR lv
  rcases find_neg (L := L) n with ⟨ha, hb⟩ | ⟨i, ha, hb⟩
  · have Hfin := Lib.hid (show L.remove M n = ((L, M), 9) by unfold Seg.Log.remove; rw [ha])
    rw [hb] at hf
    clear ha hb hL h
    go_enter Tryz.func23, Tryz.ntmps23
    go_wp2_with fail
    refine hok.mono ?_
    rintro e w2 ⟨v, rfl, rfl, rfl⟩
    clear hok
    go_wp2_with fail
    refine hf.mono ?_
    rintro e w2 ⟨v, rfl, rfl, hS2⟩
    clear hf
    go_wp2
    go_ret
    rw [Hfin.out]
    exact ⟨_, rfl, rfl, hS2⟩
  · rw [hb] at hf
    have hlt := (Seg.Log.at_lt ha).1
    have Hg := Lib.hid (show L.remove M n = if (M.remove (Seg.name n)).2 = 0 then ((L.without i, (M.remove (Seg.name n)).1), 0) else ((L, (M.remove (Seg.name n)).1), (M.remove (Seg.name n)).2) by unfold Seg.Log.remove; rw [ha])
    have hi0 : (0 : Int) ≤ (i : Int) := by omega
    have hd : decide ((i : Int) < 0) = false := decide_eq_false (by omega)
    have Hlt := Lib.hid hlt; have Hln := Lib.hid hL.len; have Hfr := Lib.hid hL.fresh
    clear ha hb hL h hlt
    go_enter Tryz.func23, Tryz.ntmps23
    go_wp2_with fail
    refine hok.mono ?_
    rintro e w2 ⟨v, rfl, rfl, rfl⟩
    clear hok
    go_wp2_with fail
    refine hf.mono ?_
    rintro e w2 ⟨v, rfl, rfl, hS2⟩
    clear hf
    obtain ⟨lv, hR⟩ := LogRep.open2 hS2
    clear hS2
    go_wp2_with fail
    refine wpL_begin [6, 7] (fun w' => w'.cell? ⟨p, 0, none⟩ = some (ptr m)) (by kernel_rfl) ?_
    have hG : w2.drew.cell? ⟨p, 0, none⟩ = some (ptr m) := hR.drew.cellP (by first | ((repeat (first | with_reducible apply pick0 | with_reducible apply pick_there)); done) | ((repeat (first | apply pick0 | apply pick_there)); done) | fail) 0 rfl
    refine rp 0 (hy := (yl_move (by conv => lhs; whnf))) (h := ?_)
    refine rp 1 (hy := (yl_nil (by conv => lhs; whnf))) (h := ?_)
    refine rp 2 (hy := (yl_field (by conv => lhs; whnf) (by ((intro wq; go_simp); first | done | (with_reducible rfl))))) (h := ?_)
    refine rt 3 (h := ?_)
    refine rp 4 (hy := (yl_move (by conv => lhs; whnf))) (h := ?_)
    clear hG
    refine rg_eff 5 (by conv => lhs; whnf) (by kernel_rfl) (fun K hK => ?_)
    (refine eff_call1 (by kernel_rfl) (by conv => lhs; whnf) ?_)
    refine (sname_c n hR.drew).mono ?_
    rintro e w3 ⟨v, rfl, rfl, hS3⟩
    refine hK _ _ (.inr (.inl (hS3.cellP (by first | ((repeat (first | with_reducible apply pick0 | with_reducible apply pick_there)); done) | ((repeat (first | apply pick0 | apply pick_there)); done) | fail) 0 rfl))) ?_
    clear hK hR
    refine rg_eff 6 (by conv => lhs; whnf) (by kernel_rfl) (fun K hK => ?_)
    (refine eff_call2 (by kernel_rfl) (by conv => lhs; whnf) (by conv => lhs; whnf) ?_)
    refine (remove_c hM hKK (Sat.pk (by assumption)) _).mono ?_
    rintro e w4 ⟨v, rfl, rfl, hS4⟩
    refine hK _ _ (.inl rfl) ?_
    clear hK hS3
    refine rp 7 (hy := (yl_assign (by conv => lhs; whnf))) (h := ?_)
    refine wpL_done (by kernel_rfl) ?_
    clear hM
    generalize M.remove (Seg.name n) = B at *
    obtain ⟨M2, e2⟩ := B
    by_cases he : e2 = 0
    rotate_left
    · have heb : (e2 == 0) = false := beq_false_of_ne he
      have hfin := Lib.hid (Hg.out.trans (if_neg he))
      clear he
      go_wp2_with fail
      go_ret
      rw [hfin.out]
      exact ⟨_, rfl, rfl, LogRep.shut2 (lv := lv) (Sat.sb hS4)⟩
    subst he
    have hfin := Lib.hid (Hg.out.trans (if_pos rfl))
    clear Hg
    obtain ⟨la, lc, rfl⟩ : ∃ la lc, lv = .slice la L.l.length lc := by
      obtain ⟨a, n', c, rfl, hn, _⟩ := Sat.rd (hS4.pk (A := osl 145 2 lv (segw L.l)))
      rw [segw_len] at hn
      exact ⟨a, c, by rw [show n' = L.l.length by omega]⟩
    have hw1 : IntKind.i64.wrap ((L.l.length : Int) - 1) = (L.l.length : Int) - 1 := by rw [IntKind.wrap_i64]; have := Hln.out; omega
    have hw2 : IntKind.i64.wrap ((L.l.length : Int) - L.fresh) = (L.l.length : Int) - L.fresh := by rw [IntKind.wrap_i64]; have := Hln.out; have := Hfr.out; omega
    have hw3 : IntKind.i64.wrap (L.fresh - 1) = L.fresh - 1 := by rw [IntKind.wrap_i64]; have := Hln.out; have := Hfr.out; omega
    have hw4 : IntKind.i64.wrap ((i : Int) + 1) = (i : Int) + 1 := by rw [IntKind.wrap_i64]; have := Hln.out; have := Hlt.out; omega
    have Hon := Lib.hid (show (L.without i).on = if ((i : Int) == (L.l.length : Int) - 1) = true then false else L.on by
      unfold Seg.Log.without
      simp only [beq_iff_eq]
      have := Hlt.out
      by_cases hh : i + 1 = L.l.length
      · rw [if_pos hh, if_pos (by omega)]
      · rw [if_neg hh, if_neg (by omega)])
    have Hfs := Lib.hid (show (L.without i).fresh = if decide ((L.l.length : Int) - L.fresh ≤ (i : Int)) = true then L.fresh - 1 else L.fresh by
      unfold Seg.Log.without
      simp only [decide_eq_true_eq])
    have Hll := Lib.hid (show (L.without i).l = L.l.eraseIdx i ∧ (L.without i).limit = L.limit from ⟨rfl, rfl⟩)
    generalize L.without i = LW at *
    obtain ⟨Wlim, Wl, Won, Wfr⟩ := LW
    obtain ⟨rfl, rfl⟩ := Hll.out
    obtain rfl := Hon.out
    obtain rfl := Hfs.out
    clear Hon Hfs Hll
    cases hb1 : ((i : Int) == (L.l.length : Int) - 1) <;> cases hb2 : (decide ((L.l.length : Int) - L.fresh ≤ (i : Int)))
    all_goals
      go_wp2_with (first | ((with_reducible apply at_load); refine ⟨?_⟩; refine wl_load1 (by assumption) (by rfl) (by first | ((repeat (first | with_reducible apply pick0 | with_reducible apply pick_there)); done) | ((repeat (first | apply pick0 | apply pick_there)); done) | fail) (Nat.le_of_ble_eq_true (by rfl)) (by conv => lhs; whnf) (by kernel_rfl) ?_) | ((with_reducible apply at_store); refine ⟨?_⟩; refine wl_store (by assumption) (by rfl) (by conv => lhs; whnf) (by first | (simp only [putsAt, Value.cells]; (try go_frame); first | done | rfl) | rfl) (by first | ((repeat (first | with_reducible apply upd0 | with_reducible apply upd_there)); done) | ((repeat (first | apply upd0 | apply upd_there)); done) | fail) (Nat.le_of_ble_eq_true (by rfl)) (by kernel_rfl) (by rfl) ?_; intro wS hS))
      try have hS4 := hS
      have hG : (World.drew _).cell? ⟨p, 2, none⟩ = some (.slice la L.l.length lc) ∧ (World.drew _).cell? ⟨p, 4, none⟩ = some (.int .i64 L.fresh) := ⟨hS4.drew.cellP (by first | ((repeat (first | with_reducible apply pick0 | with_reducible apply pick_there)); done) | ((repeat (first | apply pick0 | apply pick_there)); done) | fail) 2 rfl, hS4.drew.cellP (by first | ((repeat (first | with_reducible apply pick0 | with_reducible apply pick_there)); done) | ((repeat (first | apply pick0 | apply pick_there)); done) | fail) 4 rfl⟩
      refine wpL_begin [10, 11] (fun w' => w'.cell? ⟨p, 2, none⟩ = some (.slice la L.l.length lc) ∧ w'.cell? ⟨p, 4, none⟩ = some (.int .i64 L.fresh)) (by kernel_rfl) ?_
      refine rp 0 (hy := (yl_move (by conv => lhs; whnf))) (h := ?_)
      refine rp 1 (hy := (yl_move (by conv => lhs; whnf))) (h := ?_)
      refine rp 2 (hy := (yl_nil (by conv => lhs; whnf))) (h := ?_)
      refine rp 3 (hy := (yl_field (by conv => lhs; whnf) (by ((intro wq; go_simp); first | done | (with_reducible rfl))))) (h := ?_)
      refine rt 4 (h := ?_)
      refine rp 5 (hy := (yl_len (by conv => lhs; whnf) (by ((intro wq; go_simp); first | done | (with_reducible rfl))))) (h := ?_)
      refine rp 6 (hy := (yl_move (by conv => lhs; whnf))) (h := ?_)
      refine rp 7 (hy := (yl_nil (by conv => lhs; whnf))) (h := ?_)
      refine rp 8 (hy := (yl_field (by conv => lhs; whnf) (by ((intro wq; go_simp); first | done | (with_reducible rfl))))) (h := ?_)
      refine rt 9 (h := ?_)
      refine rp 10 (hy := (yl_bin (by conv => lhs; whnf) (by conv => lhs; whnf) (by ((intro wq; go_simp); first | done | (with_reducible rfl))))) (h := ?_)
      refine rp 11 (hy := (yl_bin (by conv => lhs; whnf) (by conv => lhs; whnf) (by ((intro wq; go_simp); first | done | (with_reducible rfl))))) (h := ?_)
      refine wpL_done (by kernel_rfl) ?_
      clear hG
      have hS5 := hS4.drew
      clear hS4
      go_wp2_with (first | ((with_reducible apply at_load); refine ⟨?_⟩; refine wl_load1 (by assumption) (by rfl) (by first | ((repeat (first | with_reducible apply pick0 | with_reducible apply pick_there)); done) | ((repeat (first | apply pick0 | apply pick_there)); done) | fail) (Nat.le_of_ble_eq_true (by rfl)) (by conv => lhs; whnf) (by kernel_rfl) ?_) | ((with_reducible apply at_store); refine ⟨?_⟩; refine wl_store (by assumption) (by rfl) (by conv => lhs; whnf) (by first | (simp only [putsAt, Value.cells]; (try go_frame); first | done | rfl) | rfl) (by first | ((repeat (first | with_reducible apply upd0 | with_reducible apply upd_there)); done) | ((repeat (first | apply upd0 | apply upd_there)); done) | fail) (Nat.le_of_ble_eq_true (by rfl)) (by kernel_rfl) (by rfl) ?_; intro wS hS))
      refine (sdelete_c (lv := .slice la L.l.length lc) L.l i Hlt.out Hln.out (Sat.pk (by assumption))).mono ?_
      rintro e w6 ⟨v, rfl, da, dn, dc, rfl, hS6⟩
      go_wp2_with ((with_reducible apply at_store); refine ⟨?_⟩; refine wl_store (by assumption) (by rfl) (by conv => lhs; whnf) (by first | (simp only [putsAt, Value.cells]; (try go_frame); first | done | rfl) | rfl) (by first | ((repeat (first | with_reducible apply upd0 | with_reducible apply upd_there)); done) | ((repeat (first | apply upd0 | apply upd_there)); done) | fail) (Nat.le_of_ble_eq_true (by rfl)) (by kernel_rfl) (by rfl) ?_; intro wS hS)
      go_ret
      rw [hfin.out, hb1, hb2]
      simp only [if_true, if_false, Bool.false_eq_true]
      exact ⟨_, rfl, rfl, LogRep.shut2 (lv := .slice da dn dc) (Sat.sb hS)⟩
theorem remove_med {L : Seg.Log} {M : Med} (h : M.Ok K) (n : Int) : (L.remove M n).1.2.Ok (K + 1) := by
  unfold Seg.Log.remove
  split; · exact h.mono (Nat.le_succ K)
  split <;> exact h.remove _
theorem back_last {L : Seg.Log} {M : Med} (hl : L.l.getLast? = some s) (hf : 0 < L.fresh) : L.rollback M = if (L.remove M s.1).2 = 0 then Seg.Log.back (L.fresh.toNat - 1) (L.remove M s.1).1.1 (L.remove M s.1).1.2 else L.remove M s.1 := by
  unfold Seg.Log.rollback
  obtain ⟨k, hk⟩ : ∃ k, L.fresh.toNat = k + 1 := ⟨L.fresh.toNat - 1, by omega⟩
  rw [hk]
  show (match L.l.getLast? with | none => _ | some s => _) = _
  rw [hl]; rfl
/-- A fresh one gone: one fewer is fresh. -/
theorem remove_fresh {L : Seg.Log} {M : Med} (hL : L.Ok) (hl : L.l.getLast? = some s) (hf : 0 < L.fresh) (h : (L.remove M s.1).2 = 0) : (L.remove M s.1).1.1.fresh = L.fresh - 1 := by
  have ha := hL.at_last hl
  unfold Seg.Log.remove at *
  rw [ha] at h ⊢
  simp only at h ⊢
  split
  · unfold Seg.Log.without
    have := hL.fresh
    simp only
    rw [if_pos (by omega)]
  · rename_i hh; rw [if_neg hh] at h; exact absurd h hh
set_option maxRecDepth 20000 in
set_option maxHeartbeats 16000000 in
theorem lrollback_c (hL : L.Ok) (hM : M.Ok K) (hKK : K + 1048576 ≤ 1099511627776) (h : Sat w0 w (LogRep p m L :: MedRep m M :: F)) :
    Calls Tryz.prog 21 #[ptr p] w (Rtn fun v w' => v = errno (L.rollback M).2 ∧ Sat w0 w' (LogRep p m (L.rollback M).1.1 :: MedRep m (L.rollback M).1.2 :: F)) := by
  have hok : Calls Tryz.prog 68 #[ptr p] w (Rtn fun v w' => v = .bool true ∧ w = w') := by
    obtain ⟨lv, hR⟩ := LogRep.open2 h
    exact ok_c hR
  have Hres := Lib.hid (rfl : L.rollback M = L.rollback M)
  generalize hres : L.rollback M = RES at Hres ⊢
  have Hq := Lib.hid (show L.rollback M = RES from hres)
  have hfl : L.fresh.toNat ≤ 1048576 := by have := hL.fresh; have := hL.len; omega
  have hinit : Hid (∃ (L' : Seg.Log) (M' : Med) (K' : Nat), L'.Ok ∧ M'.Ok K' ∧ K' + L'.fresh.toNat ≤ 1099511627776 ∧ L'.rollback M' = RES ∧ L'.fresh.toNat = L.fresh.toNat ∧ Sat w0 w (LogRep p m L' :: MedRep m M' :: F)) := Lib.hid ⟨L, M, K, hL, hM, by omega, hres, rfl, h⟩
  clear hres Hres hL hM h Hq hfl
  go_enter Tryz.func21, Tryz.ntmps21
  go_wp2_with fail
  refine hok.mono ?_
  rintro e w2 ⟨v, rfl, rfl, rfl⟩
  clear hok
  go_wp2_with fail
  go_loopg [] L.fresh.toNat (fun g wr => ∃ (L' : Seg.Log) (M' : Med) (K' : Nat), L'.Ok ∧ M'.Ok K' ∧ K' + L'.fresh.toNat ≤ 1099511627776 ∧ L'.rollback M' = RES ∧ L'.fresh.toNat = g ∧ Sat w0 wr (LogRep p m L' :: MedRep m M' :: F))
  case atStart => exact hinit.out
  case round =>
    obtain ⟨L1, M1, K1, hL, hM, hKK1, hres, rfl, hS⟩ := hrel
    clear hinit
    by_cases hf : 0 < L1.fresh
    · have hne : L1.l ≠ [] := by intro e; have := hL.fresh; rw [e] at this; simp at this; omega
      obtain ⟨s, hl⟩ : ∃ s, L1.l.getLast? = some s := ⟨_, List.getLast?_eq_some_getLast hne⟩
      have hbl := back_last (M := M1) hl hf
      rw [hres] at hbl
      have Hbl := Lib.hid hbl
      have Hrf := Lib.hid (remove_fresh (M := M1) hL hl hf)
      have HL2 := Lib.hid (hL.remove M1 s.1)
      have HM2 := Lib.hid (remove_med (L := L1) hM s.1)
      have hrm := lremove_c hL hM (by omega) s.1 hS.drew
      obtain ⟨lv, hR⟩ := LogRep.open2 hS
      have hlen := hL.len
      obtain ⟨bk, n, cap, cs, rfl, hb, c0, c1, hB⟩ := seg_block2 hl hR
      have hn := hb.len
      have hn0 : (n : Int) < (n : Int) + 1 := by omega
      have hwn : IntKind.i64.wrap (n : Int) = (n : Int) := by rw [IntKind.wrap_i64]; omega
      have e4 : wr.cell? ⟨p, 4, none⟩ = some (.int .i64 L1.fresh) := hB.cellP (by first | ((repeat (first | with_reducible apply pick0 | with_reducible apply pick_there)); done) | ((repeat (first | apply pick0 | apply pick_there)); done) | fail) 4 rfl
      have hG : wr.drew.cell? ⟨p, 2, none⟩ = some (.slice (some ⟨bk, 0, none⟩) (n + 1) cap) ∧ wr.drew.cell? ⟨bk, n * 2, none⟩ = some (.int .i64 s.1) := ⟨hB.drew.cellP (by first | ((repeat (first | with_reducible apply pick0 | with_reducible apply pick_there)); done) | ((repeat (first | apply pick0 | apply pick_there)); done) | fail) 2 rfl, hB.drew.cellP (by first | ((repeat (first | with_reducible apply pick0 | with_reducible apply pick_there)); done) | ((repeat (first | apply pick0 | apply pick_there)); done) | fail) _ c0⟩
      have Hf := Lib.hid (show 0 < L1.fresh ∧ K1 + L1.fresh.toNat ≤ 1099511627776 from ⟨hf, hKK1⟩)
      clear hbl hne hl hb c0 c1 hB hR hlen hn hres hL hM hKK1
      go_wp2_with fail
      refine wpL_begin [14, 15] (fun w' => w'.cell? ⟨p, 2, none⟩ = some (.slice (some ⟨bk, 0, none⟩) (n + 1) cap) ∧ w'.cell? ⟨bk, n * 2, none⟩ = some (.int .i64 s.1)) (by kernel_rfl) ?_
      refine rp 0 (hy := (yl_move (by conv => lhs; whnf))) (h := ?_)
      refine rp 1 (hy := (yl_move (by conv => lhs; whnf))) (h := ?_)
      refine rp 2 (hy := (yl_nil (by conv => lhs; whnf))) (h := ?_)
      refine rp 3 (hy := (yl_field (by conv => lhs; whnf) (by ((intro wq; go_simp); first | done | (with_reducible rfl))))) (h := ?_)
      refine rt 4 (h := ?_)
      refine rp 5 (hy := (yl_move (by conv => lhs; whnf))) (h := ?_)
      refine rp 6 (hy := (yl_nil (by conv => lhs; whnf))) (h := ?_)
      refine rp 7 (hy := (yl_field (by conv => lhs; whnf) (by ((intro wq; go_simp); first | done | (with_reducible rfl))))) (h := ?_)
      refine rt 8 (h := ?_)
      refine rp 9 (hy := (yl_len (by conv => lhs; whnf) (by ((intro wq; go_simp); first | done | (with_reducible rfl))))) (h := ?_)
      refine rp 10 (hy := (yl_bin (by conv => lhs; whnf) (by conv => lhs; whnf) (by ((intro wq; go_simp); first | done | (with_reducible rfl))))) (h := ?_)
      refine rp 11 (hy := (yl_index (by conv => lhs; whnf) (by conv => lhs; whnf) (by ((intro wq; go_simp); first | done | (with_reducible rfl))))) (h := ?_)
      refine rp 12 (hy := (yl_field (by conv => lhs; whnf) (by ((intro wq; go_simp); first | done | (with_reducible rfl))))) (h := ?_)
      refine rt 13 (h := ?_)
      clear hG e4
      refine rg_eff 14 (by conv => lhs; whnf) (by kernel_rfl) (fun K hK => ?_)
      (refine eff_call2 (by kernel_rfl) (by conv => lhs; whnf) (by conv => lhs; whnf) ?_)
      refine hrm.mono ?_
      rintro e w3 ⟨v, rfl, rfl, hS3⟩
      refine hK _ _ (.inl rfl) ?_
      clear hK hS hrm
      refine rp 15 (hy := (yl_assign (by conv => lhs; whnf))) (h := ?_)
      refine wpL_done (by kernel_rfl) ?_
      generalize L1.remove M1 s.1 = A at *
      obtain ⟨⟨L2, M2⟩, e2⟩ := A
      by_cases he : e2 = 0
      · subst he
        have H1 := Lib.hid (Hbl.out.trans (if_pos rfl))
        have H2 := Lib.hid (show L2.fresh = L1.fresh - 1 from Hrf.out rfl)
        go_wp2_with fail
        go_roundg L2.fresh.toNat
        case measure => have := H2.out; have := Hf.out; omega
        case rel =>
          refine ⟨L2, M2, K1 + 1, HL2.out, HM2.out, ?_, ?_, rfl, hS3⟩
          · have := H2.out; have := Hf.out; omega
          · rw [H1.out]
            unfold Seg.Log.rollback
            congr 1
            have := H2.out; have := Hf.out; omega
      · have heb : (e2 == 0) = false := beq_false_of_ne he
        have H1 := Lib.hid (Hbl.out.trans (if_neg he))
        clear he
        go_wp2_with fail
        go_ret
        rw [H1.out]
        exact ⟨_, rfl, rfl, hS3⟩
    · have hz : L1.fresh.toNat = 0 := by omega
      have H1 := Lib.hid (show RES = (({ L1 with on := false }, M1), 0) by
        rw [← hres]; unfold Seg.Log.rollback; rw [hz]; rfl)
      obtain ⟨lv, hR⟩ := LogRep.open2 hS
      have hle : L1.fresh ≤ 0 := by omega
      clear hres hL hM hKK1 hz hS
      go_wp2_with (first | ((with_reducible apply at_load); refine ⟨?_⟩; refine wl_load1 (by assumption) (by rfl) (by first | ((repeat (first | with_reducible apply pick0 | with_reducible apply pick_there)); done) | ((repeat (first | apply pick0 | apply pick_there)); done) | fail) (Nat.le_of_ble_eq_true (by rfl)) (by conv => lhs; whnf) (by kernel_rfl) ?_) | ((with_reducible apply at_store); refine ⟨?_⟩; refine wl_store (by assumption) (by rfl) (by conv => lhs; whnf) (by first | (simp only [putsAt, Value.cells]; (try go_frame); first | done | rfl) | rfl) (by first | ((repeat (first | with_reducible apply upd0 | with_reducible apply upd_there)); done) | ((repeat (first | apply upd0 | apply upd_there)); done) | fail) (Nat.le_of_ble_eq_true (by rfl)) (by kernel_rfl) (by rfl) ?_; intro wS hS))
      go_ret
      rw [H1.out]
      exact ⟨_, rfl, rfl, LogRep.shut2 (lv := lv) (Sat.sb hS)⟩
end
end Go.Proofs.YtmjldaedhmipkaaGreatDoor
/- Read of any log. -/
namespace Go.Seg
open Go.Med
def Log.read (L : Log) (M : Med) (q : Plc) : Frm.Ent × Int :=
  match L.at q.seg with
  | none => (Frm.zeroE, 9)
  | some _ =>
    if (M.read (name q.seg) q.at_ q.size).2 ≠ 0 then (Frm.zeroE, (M.read (name q.seg) q.at_ q.size).2)
    else if (Frm.read (M.read (name q.seg) q.at_ q.size).1).2.2 ≠ 0 then (Frm.zeroE, (Frm.read (M.read (name q.seg) q.at_ q.size).1).2.2)
    else if (Frm.read (M.read (name q.seg) q.at_ q.size).1).2.1 ≠ (M.read (name q.seg) q.at_ q.size).1.length then (Frm.zeroE, 4)
    else ((Frm.read (M.read (name q.seg) q.at_ q.size).1).1, 0)
theorem read_key (l : Bs) : (Frm.read l).1.key.length = 32 := by
  unfold Frm.read
  dsimp only
  split; · rfl
  split; · rfl
  split; · rfl
  split; · rfl
  split
  · rename_i h1 h2 h3 h4 h5
    simp only [List.length_take, List.length_drop]
    simp only [Nat.not_lt] at h3
    omega
  · rfl
theorem read_len {K : Nat} {M : Med} (h : M.Ok K) (s : ByteArray) (a n : Int) : (M.read s a n).1.length ≤ 16777216 := by
  unfold Med.read
  dsimp only
  split; · simp
  split; · simp
  rename_i i _
  have := (h.file i).now_len
  split; · simp
  split; · simp
  simp only [List.length_take, List.length_drop]
  omega
end Go.Seg
namespace Go.Proofs.YtmjldaedhmipkaaGreatDoor
open Go Go.Sl Go.Med Go.MapKept Go.RowKit
set_option linter.unusedVariables false
section
variable {w0 w : World} {F R : List HProp} {v bv dv x lv : Value} {q p m K : Nat} {L : Seg.Log} {M : Med} {s : Int × Int}
set_option maxRecDepth 20000 in
set_option maxHeartbeats 16000000 in
theorem lread_c (hH : Ro w0 F Half) (hL : L.Ok) (hM : M.Ok K) (pl : Seg.Plc) (h1 : -9223372036854775808 ≤ pl.at_ ∧ pl.at_ ≤ 9223372036854775807) (h2 : -9223372036854775808 ≤ pl.size ∧ pl.size ≤ 9223372036854775807) (h : Sat w0 w (LogRep p m L :: MedRep m M :: F)) :
    Calls Tryz.prog 31 #[ptr p, plcA pl] w (Rtn fun v w' => ∃ da dc, v = .tuple #[.agg (entA (L.read M pl).1 (.slice da (L.read M pl).1.data.length dc)), errno (L.read M pl).2] ∧
      Sat w0 w' (bsl (.slice da (L.read M pl).1.data.length dc) (L.read M pl).1.data :: LogRep p m L :: MedRep m M :: F)) := by
  have HH := Lib.hid hH
  rcases find_neg (L := L) pl.seg with ⟨ha, hb⟩ | ⟨i, ha, hb⟩
  · have Hf := Lib.hid (show L.read M pl = (Frm.zeroE, 9) by unfold Seg.Log.read; rw [ha])
    have Hb := Lib.hid hb
    clear ha hb hH
    go_enter Tryz.func31, Tryz.ntmps31
    go_wp2_with (first | ((with_reducible apply at_box); refine ⟨?_⟩; refine wl_box (by assumption) (by conv => lhs; whnf) (by conv => lhs; whnf) ?_; intro bB wB hB) | ((with_reducible apply at_allocE); refine ⟨?_⟩; refine wl_allocE (by assumption) ?_; intro bE wE hE))
    obtain ⟨lv, hR⟩ := LogRep.open2 (hE.pk (A := LogRep p m L))
    refine (ok_c hR).mono ?_
    rintro e w2 ⟨v, rfl, rfl, rfl⟩
    clear hR lv
    have hf := lfind_c hL pl.seg (hE.pk (A := LogRep p m L))
    rw [Hb.out] at hf
    go_wp2_with ((with_reducible apply at_load); refine ⟨?_⟩; refine wl_load1 (by assumption) (by rfl) (by first | ((repeat (first | with_reducible apply pick0 | with_reducible apply pick_there)); done) | ((repeat (first | apply pick0 | apply pick_there)); done) | fail) (Nat.le_of_ble_eq_true (by rfl)) (by conv => lhs; whnf) (by kernel_rfl) ?_)
    refine hf.mono ?_
    rintro e w3 ⟨v, rfl, rfl, hS3⟩
    clear hf hE
    go_wp2_with (first | ((with_reducible apply at_buildZ); refine ⟨?_⟩; refine wl_buildZ ?_) | ((with_reducible apply at_storeE); refine ⟨?_⟩; first | (refine wl_storeE (by assumption) (by rfl) (by rfl) (by first | rfl | assumption | exact Hid.out (by assumption)) (by first | ((repeat (first | with_reducible apply upd0 | with_reducible apply upd_there)); done) | ((repeat (first | apply upd0 | apply upd_there)); done) | fail) (by first | assumption | exact entA_size _ _ rfl | exact entA_size _ _ (by assumption) | exact entA_size _ _ (Hid.out (by assumption))) ?_; intro wS hS) | (refine wl_storeE (e := Frm.zeroE) (da := none) (dn := 0) (dc := 0) (by assumption) (by rfl) (by rfl) rfl (by first | ((repeat (first | with_reducible apply upd0 | with_reducible apply upd_there)); done) | ((repeat (first | apply upd0 | apply upd_there)); done) | fail) (by first | assumption | exact entA_size _ _ rfl | exact entA_size _ _ (by assumption) | exact entA_size _ _ (Hid.out (by assumption))) ?_; intro wS hS)))
    rw [Hf.out]
    exact ⟨rfl, _, res_entE rfl (by assumption) (by rfl) (by first | ((repeat (first | with_reducible apply pick0 | with_reducible apply pick_there)); done) | ((repeat (first | apply pick0 | apply pick_there)); done) | fail) rfl, _, rfl, none, 0, rfl, Sat.osl_nil.2 (Sat.sb hS)⟩
  · have Hread := Lib.hid (show L.read M pl = if (M.read (Seg.name pl.seg) pl.at_ pl.size).2 ≠ 0 then (Frm.zeroE, (M.read (Seg.name pl.seg) pl.at_ pl.size).2)
      else if (Frm.read (M.read (Seg.name pl.seg) pl.at_ pl.size).1).2.2 ≠ 0 then (Frm.zeroE, (Frm.read (M.read (Seg.name pl.seg) pl.at_ pl.size).1).2.2)
      else if (Frm.read (M.read (Seg.name pl.seg) pl.at_ pl.size).1).2.1 ≠ (M.read (Seg.name pl.seg) pl.at_ pl.size).1.length then (Frm.zeroE, 4)
      else ((Frm.read (M.read (Seg.name pl.seg) pl.at_ pl.size).1).1, 0) by unfold Seg.Log.read; rw [ha])
    have Hb := Lib.hid hb
    have Hrl := Lib.hid (Seg.read_len hM (Seg.name pl.seg) pl.at_ pl.size)
    have hi0 : (0 : Int) ≤ (i : Int) := by omega
    have hd : decide ((i : Int) < 0) = false := decide_eq_false (by omega)
    clear ha hb hH
    go_enter Tryz.func31, Tryz.ntmps31
    go_wp2_with (first | ((with_reducible apply at_box); refine ⟨?_⟩; refine wl_box (by assumption) (by conv => lhs; whnf) (by conv => lhs; whnf) ?_; intro bB wB hB) | ((with_reducible apply at_allocE); refine ⟨?_⟩; refine wl_allocE (by assumption) ?_; intro bE wE hE))
    obtain ⟨lv, hR⟩ := LogRep.open2 (hE.pk (A := LogRep p m L))
    refine (ok_c hR).mono ?_
    rintro e w2 ⟨v, rfl, rfl, rfl⟩
    clear hR lv
    have hf := lfind_c hL pl.seg (hE.pk (A := LogRep p m L))
    rw [Hb.out] at hf
    go_wp2_with ((with_reducible apply at_load); refine ⟨?_⟩; refine wl_load1 (by assumption) (by rfl) (by first | ((repeat (first | with_reducible apply pick0 | with_reducible apply pick_there)); done) | ((repeat (first | apply pick0 | apply pick_there)); done) | fail) (Nat.le_of_ble_eq_true (by rfl)) (by conv => lhs; whnf) (by kernel_rfl) ?_)
    refine hf.mono ?_
    rintro e w3 ⟨v, rfl, rfl, hS3⟩
    clear hf hE
    obtain ⟨lv, hR⟩ := LogRep.open2 hS3
    clear hS3
    go_wp2_with fail
    refine wpL_begin [11, 12, 13, 14, 15, 16] (fun w' => w'.cell? ⟨p, 0, none⟩ = some (ptr m) ∧ w'.cell? ⟨bB, 0, none⟩ = some (.int .i64 pl.seg) ∧ w'.cell? ⟨bB, 1, none⟩ = some (.int .i64 pl.at_) ∧ w'.cell? ⟨bB, 2, none⟩ = some (.int .i64 pl.size)) (by kernel_rfl) ?_
    have hG : w3.drew.cell? ⟨p, 0, none⟩ = some (ptr m) ∧ w3.drew.cell? ⟨bB, 0, none⟩ = some (.int .i64 pl.seg) ∧ w3.drew.cell? ⟨bB, 1, none⟩ = some (.int .i64 pl.at_) ∧ w3.drew.cell? ⟨bB, 2, none⟩ = some (.int .i64 pl.size) := ⟨hR.drew.cellP (by first | ((repeat (first | with_reducible apply pick0 | with_reducible apply pick_there)); done) | ((repeat (first | apply pick0 | apply pick_there)); done) | fail) 0 rfl, hR.drew.cellP (by first | ((repeat (first | with_reducible apply pick0 | with_reducible apply pick_there)); done) | ((repeat (first | apply pick0 | apply pick_there)); done) | fail) 0 rfl, hR.drew.cellP (by first | ((repeat (first | with_reducible apply pick0 | with_reducible apply pick_there)); done) | ((repeat (first | apply pick0 | apply pick_there)); done) | fail) 1 rfl, hR.drew.cellP (by first | ((repeat (first | with_reducible apply pick0 | with_reducible apply pick_there)); done) | ((repeat (first | apply pick0 | apply pick_there)); done) | fail) 2 rfl⟩
    refine rp 0 (hy := (yl_move (by conv => lhs; whnf))) (h := ?_)
    refine rp 1 (hy := (yl_nil (by conv => lhs; whnf))) (h := ?_)
    refine rp 2 (hy := (yl_field (by conv => lhs; whnf) (by ((intro wq; go_simp); first | done | (with_reducible rfl))))) (h := ?_)
    refine rt 3 (h := ?_)
    refine rp 4 (hy := (yl_field (by conv => lhs; whnf) (by ((intro wq; go_simp); first | done | (with_reducible rfl))))) (h := ?_)
    refine rt 5 (h := ?_)
    refine rp 7 (hy := (yl_field (by conv => lhs; whnf) (by ((intro wq; go_simp); first | done | (with_reducible rfl))))) (h := ?_)
    refine rt 8 (h := ?_)
    refine rp 9 (hy := (yl_field (by conv => lhs; whnf) (by ((intro wq; go_simp); first | done | (with_reducible rfl))))) (h := ?_)
    refine rt 10 (h := ?_)
    clear hG
    refine rg_eff 6 (by conv => lhs; whnf) (by kernel_rfl) (fun K hK => ?_)
    (refine eff_call1 (by kernel_rfl) (by conv => lhs; whnf) ?_)
    refine (sname_c pl.seg hR.drew).mono ?_
    rintro e w4 ⟨v, rfl, rfl, hS4⟩
    refine hK _ _ (.inr (.inl ⟨hS4.cellP (by first | ((repeat (first | with_reducible apply pick0 | with_reducible apply pick_there)); done) | ((repeat (first | apply pick0 | apply pick_there)); done) | fail) 0 rfl, hS4.cellP (by first | ((repeat (first | with_reducible apply pick0 | with_reducible apply pick_there)); done) | ((repeat (first | apply pick0 | apply pick_there)); done) | fail) 0 rfl, hS4.cellP (by first | ((repeat (first | with_reducible apply pick0 | with_reducible apply pick_there)); done) | ((repeat (first | apply pick0 | apply pick_there)); done) | fail) 1 rfl, hS4.cellP (by first | ((repeat (first | with_reducible apply pick0 | with_reducible apply pick_there)); done) | ((repeat (first | apply pick0 | apply pick_there)); done) | fail) 2 rfl⟩)) ?_
    clear hK hR
    refine rg_eff 11 (by conv => lhs; whnf) (by kernel_rfl) (fun K hK => ?_)
    (refine eff_call4 (by kernel_rfl) (by conv => lhs; whnf) (by conv => lhs; whnf) (by conv => lhs; whnf) (by conv => lhs; whnf) ?_)
    refine (read_c hM (Sat.pk (by assumption)) _ pl.at_ pl.size h1 h2).mono ?_
    rintro e w5 ⟨v, rfl, bv, rfl, hS5⟩
    refine hK _ _ (.inl rfl) ?_
    clear hK hS4 h1 h2
    refine rp 12 (hy := (yl_move (by conv => lhs; whnf))) (h := ?_)
    refine rp 13 (hy := (yl_extract (by conv => lhs; whnf) (by ((intro wq; go_simp); first | done | (with_reducible rfl))))) (h := ?_)
    refine rp 14 (hy := (yl_extract (by conv => lhs; whnf) (by ((intro wq; go_simp); first | done | (with_reducible rfl))))) (h := ?_)
    refine rp 15 (hy := (yl_assign (by conv => lhs; whnf))) (h := ?_)
    refine rp 16 (hy := (yl_assign (by conv => lhs; whnf))) (h := ?_)
    refine wpL_done (by kernel_rfl) ?_
    generalize M.read (Seg.name pl.seg) pl.at_ pl.size = RR at *
    obtain ⟨bs, e1⟩ := RR
    by_cases he : e1 = 0
    rotate_left
    · have heb : (e1 == 0) = false := beq_false_of_ne he
      have Hf := Lib.hid (Hread.out.trans (if_pos he))
      clear he
      go_wp2_with (first | ((with_reducible apply at_buildZ); refine ⟨?_⟩; refine wl_buildZ ?_) | ((with_reducible apply at_storeE); refine ⟨?_⟩; first | (refine wl_storeE (by assumption) (by rfl) (by rfl) (by first | rfl | assumption | exact Hid.out (by assumption)) (by first | ((repeat (first | with_reducible apply upd0 | with_reducible apply upd_there)); done) | ((repeat (first | apply upd0 | apply upd_there)); done) | fail) (by first | assumption | exact entA_size _ _ rfl | exact entA_size _ _ (by assumption) | exact entA_size _ _ (Hid.out (by assumption))) ?_; intro wS hS) | (refine wl_storeE (e := Frm.zeroE) (da := none) (dn := 0) (dc := 0) (by assumption) (by rfl) (by rfl) rfl (by first | ((repeat (first | with_reducible apply upd0 | with_reducible apply upd_there)); done) | ((repeat (first | apply upd0 | apply upd_there)); done) | fail) (by first | assumption | exact entA_size _ _ rfl | exact entA_size _ _ (by assumption) | exact entA_size _ _ (Hid.out (by assumption))) ?_; intro wS hS)))
      rw [Hf.out]
      exact ⟨rfl, _, res_entE rfl (by assumption) (by rfl) (by first | ((repeat (first | with_reducible apply pick0 | with_reducible apply pick_there)); done) | ((repeat (first | apply pick0 | apply pick_there)); done) | fail) rfl, _, rfl, none, 0, rfl, Sat.osl_nil.2 (Sat.pick (LogRep.shut2 (lv := lv) (Sat.sb hS)) pick0)⟩
    subst he
    have Hread2 := Lib.hid (Hread.out.trans (if_neg (fun h => h rfl)))
    clear Hread
    obtain ⟨ba, bn, bc, hbv, hbn, hbc, hbl⟩ := bsl_cap' hS5
    subst hbv
    subst hbl
    have hfr := fread_c bs (bv := .slice ba bs.length bc) (Ro.op (Ro.bsl _ _)) ⟨_, _, _, rfl, hbn, hbc⟩ (Ro.os HH.out) (by have := Hrl.out; simp only at this; omega) hS5
    have hkey := Seg.read_key bs
    generalize Frm.read bs = FR at *
    obtain ⟨fe, fn, e2⟩ := FR
    simp only at hfr hkey
    go_wp2_with fail
    refine hfr.mono ?_
    rintro e w6 ⟨v, rfl, da, dc, rfl, hS6⟩
    clear hfr hS5
    by_cases he2 : e2 = 0
    rotate_left
    · have heb : (e2 == 0) = false := beq_false_of_ne he2
      have Hf := Lib.hid (Hread2.out.trans (if_pos he2))
      clear he2
      go_wp2_with (first | ((with_reducible apply at_allocE); refine ⟨?_⟩; refine wl_allocE (by assumption) ?_; intro bE wE hE) | ((with_reducible apply at_buildZ); refine ⟨?_⟩; refine wl_buildZ ?_) | ((with_reducible apply at_storeE); refine ⟨?_⟩; first | (refine wl_storeE (by assumption) (by rfl) (by rfl) (by first | rfl | assumption | exact Hid.out (by assumption)) (by first | ((repeat (first | with_reducible apply upd0 | with_reducible apply upd_there)); done) | ((repeat (first | apply upd0 | apply upd_there)); done) | fail) (by first | assumption | exact entA_size _ _ rfl | exact entA_size _ _ (by assumption) | exact entA_size _ _ (Hid.out (by assumption))) ?_; intro wS hS) | (refine wl_storeE (e := Frm.zeroE) (da := none) (dn := 0) (dc := 0) (by assumption) (by rfl) (by rfl) rfl (by first | ((repeat (first | with_reducible apply upd0 | with_reducible apply upd_there)); done) | ((repeat (first | apply upd0 | apply upd_there)); done) | fail) (by first | assumption | exact entA_size _ _ rfl | exact entA_size _ _ (by assumption) | exact entA_size _ _ (Hid.out (by assumption))) ?_; intro wS hS)))
      rw [Hf.out]
      exact ⟨rfl, _, res_entE rfl (by assumption) (by rfl) (by first | ((repeat (first | with_reducible apply pick0 | with_reducible apply pick_there)); done) | ((repeat (first | apply pick0 | apply pick_there)); done) | fail) rfl, _, rfl, none, 0, rfl, Sat.osl_nil.2 (Sat.pick (LogRep.shut2 (lv := lv) (Sat.sb hS)) pick0)⟩
    subst he2
    have Hread3 := Lib.hid (Hread2.out.trans (if_neg (fun h => h rfl)))
    clear Hread2
    by_cases hn : fn = bs.length
    rotate_left
    · have hnb : ((fn : Int) == (bs.length : Int)) = false := by rw [beq_eq_false_iff_ne]; omega
      have Hf := Lib.hid (Hread3.out.trans (if_pos hn))
      clear hn
      go_wp2_with (first | ((with_reducible apply at_allocE); refine ⟨?_⟩; refine wl_allocE (by assumption) ?_; intro bE wE hE) | ((with_reducible apply at_buildZ); refine ⟨?_⟩; refine wl_buildZ ?_) | ((with_reducible apply at_storeE); refine ⟨?_⟩; first | (refine wl_storeE (by assumption) (by rfl) (by rfl) (by first | rfl | assumption | exact Hid.out (by assumption)) (by first | ((repeat (first | with_reducible apply upd0 | with_reducible apply upd_there)); done) | ((repeat (first | apply upd0 | apply upd_there)); done) | fail) (by first | assumption | exact entA_size _ _ rfl | exact entA_size _ _ (by assumption) | exact entA_size _ _ (Hid.out (by assumption))) ?_; intro wS hS) | (refine wl_storeE (e := Frm.zeroE) (da := none) (dn := 0) (dc := 0) (by assumption) (by rfl) (by rfl) rfl (by first | ((repeat (first | with_reducible apply upd0 | with_reducible apply upd_there)); done) | ((repeat (first | apply upd0 | apply upd_there)); done) | fail) (by first | assumption | exact entA_size _ _ rfl | exact entA_size _ _ (by assumption) | exact entA_size _ _ (Hid.out (by assumption))) ?_; intro wS hS)))
      rw [Hf.out]
      exact ⟨rfl, _, res_entE rfl (by assumption) (by rfl) (by first | ((repeat (first | with_reducible apply pick0 | with_reducible apply pick_there)); done) | ((repeat (first | apply pick0 | apply pick_there)); done) | fail) rfl, _, rfl, none, 0, rfl, Sat.osl_nil.2 (Sat.pick (LogRep.shut2 (lv := lv) (Sat.sb hS)) pick0)⟩
    have Hf := Lib.hid (Hread3.out.trans (if_neg (fun h => h hn)))
    have hnb : ((fn : Int) == (bs.length : Int)) = true := by rw [beq_iff_eq]; omega
    clear hn Hread3
    go_wp2_with (first | ((with_reducible apply at_allocE); refine ⟨?_⟩; refine wl_allocE (by assumption) ?_; intro bE wE hE) | ((with_reducible apply at_loadE); refine ⟨?_⟩; refine wl_loadE (by assumption) (by rfl) (by first | ((repeat (first | with_reducible apply pick0 | with_reducible apply pick_there)); done) | ((repeat (first | apply pick0 | apply pick_there)); done) | fail) (by first | rfl | assumption | exact Hid.out (by assumption)) ?_) | ((with_reducible apply at_storeE); refine ⟨?_⟩; first | (refine wl_storeE (by assumption) (by rfl) (by rfl) (by first | rfl | assumption | exact Hid.out (by assumption)) (by first | ((repeat (first | with_reducible apply upd0 | with_reducible apply upd_there)); done) | ((repeat (first | apply upd0 | apply upd_there)); done) | fail) (by first | assumption | exact entA_size _ _ rfl | exact entA_size _ _ (by assumption) | exact entA_size _ _ (Hid.out (by assumption))) ?_; intro wS hS) | (refine wl_storeE (e := Frm.zeroE) (da := none) (dn := 0) (dc := 0) (by assumption) (by rfl) (by rfl) rfl (by first | ((repeat (first | with_reducible apply upd0 | with_reducible apply upd_there)); done) | ((repeat (first | apply upd0 | apply upd_there)); done) | fail) (by first | assumption | exact entA_size _ _ rfl | exact entA_size _ _ (by assumption) | exact entA_size _ _ (Hid.out (by assumption))) ?_; intro wS hS)))
    rw [Hf.out]
    exact ⟨rfl, _, res_entE rfl (by assumption) (by rfl) (by first | ((repeat (first | with_reducible apply pick0 | with_reducible apply pick_there)); done) | ((repeat (first | apply pick0 | apply pick_there)); done) | fail) hkey, _, rfl, da, dc, rfl, Sat.sub (LogRep.shut2 (lv := lv) (Sat.sb hS)) (by repeat (first | (with_reducible apply sub_refl) | ((with_reducible apply sub_take); (· first | ((repeat (first | with_reducible apply pick0 | with_reducible apply pick_there)); done) | ((repeat (first | apply pick0 | apply pick_there)); done) | fail)) | (with_reducible apply sub_drop)))⟩
end
end Go.Proofs.YtmjldaedhmipkaaGreatDoor
/- hoardref14's Log in memory; Next, At, Numbers. -/
namespace Go.Seg
theorem at_some {L : Log} {n : Int} {i : Nat} {s : Int × Int} (h1 : ∀ (j : Nat) (s : Int × Int), j < i → L.l[j]? = some s → s.1 ≠ n) (h2 : L.l[i]? = some s) (h3 : s.1 = n) : L.at n = some i := by
  unfold Log.at
  rw [List.findIdx?_eq_some_iff_getElem]
  obtain ⟨hi, he⟩ := List.getElem?_eq_some_iff.1 h2
  refine ⟨hi, by rw [he, h3]; simp, fun j hj => ?_⟩
  have := h1 j _ hj (List.getElem?_eq_getElem (by omega))
  simpa using this
theorem at_none {L : Log} {n : Int} (h1 : ∀ (j : Nat) (s : Int × Int), L.l[j]? = some s → s.1 ≠ n) : L.at n = none := by
  unfold Log.at
  rw [List.findIdx?_eq_none_iff]
  intro s hs
  obtain ⟨j, hj⟩ := List.getElem?_of_mem hs
  simpa using h1 j s hj
end Go.Seg
namespace Go.Proofs.YtmjldaedhmipkaaGreatDoor
open Go Go.Sl Go.Med Go.MapKept Go.RowKit
set_option linter.unusedVariables false
abbrev rlogPt (p d : Nat) (L : Seg.Log) (lv : Value) : HProp := pt p (.cells #[ptr d, .int .i64 L.limit, lv, .bool L.on, .int .i64 L.fresh] 87 (0,0))
def RLogRaw (p d : Nat) (L : Seg.Log) (lv : Value) : List HProp := [rlogPt p d L lv, osl 84 2 lv (segw L.l)]
def RLogRep (p d : Nat) (L : Seg.Log) : HProp := fun h => ∃ lv, stars (RLogRaw p d L lv) h
section
variable {w0 w : World} {F R : List HProp} {p d : Nat} {L : Seg.Log} {lv v : Value} {D : Med} {K : Nat}
theorem RLogRep.open (h : Sat w0 w (RLogRep p d L :: F)) : ∃ lv, Sat w0 w (rlogPt p d L lv :: osl 84 2 lv (segw L.l) :: F) := by
  obtain ⟨ha, x, hx, q, r, dd, rfl, ⟨lv, hp⟩, hq⟩ := h
  refine ⟨lv, ha, _, hx, ?_⟩
  show stars (RLogRaw p d L lv ++ F) _
  rw [stars_append]
  exact ⟨q, r, dd, rfl, hp, hq⟩
theorem RLogRep.shut (h : Sat w0 w (rlogPt p d L lv :: osl 84 2 lv (segw L.l) :: F)) : Sat w0 w (RLogRep p d L :: F) :=
  Sat.join (M := RLogRaw p d L lv) h fun _ hx => ⟨lv, hx⟩
theorem sgs_sl {l : List (Int × Int)} (h : rdsl 2 v (segw l) w) : ∃ a c, v = .slice a l.length c := by
  obtain ⟨a, n, c, rfl, hl, hx⟩ := h
  rw [segw_len] at hl
  obtain rfl : n = l.length := by omega
  exact ⟨a, c, rfl⟩
theorem segw_at' : ∀ {l : List (Int × Int)} {i : Nat} {s : Int × Int}, l[i]? = some s → (segw l)[i * 2]? = some (.int .i64 s.1) ∧ (segw l)[i * 2 + 1]? = some (.int .i64 s.2)
  | [], _, _, h => by simp at h
  | a :: l, 0, s, h => by
    obtain rfl : a = s := by simpa using h
    exact ⟨rfl, rfl⟩
  | a :: l, i + 1, s, h => by
    have e1 : segw (a :: l) = .int .i64 a.1 :: .int .i64 a.2 :: segw l := rfl
    have h' : l[i]? = some s := by simpa using h
    rw [e1, show (i + 1) * 2 = i * 2 + 1 + 1 by omega]
    exact segw_at' h'
theorem sgs_cells {l : List (Int × Int)} {i : Nat} {s : Int × Int} {a : Option Addr} {n c : Nat} (h : rdsl 2 (.slice a n c) (segw l) w) (hi : l[i]? = some s) :
    ∃ bk off, a = some ⟨bk, off, none⟩ ∧ w.cell? ⟨bk, off + i * 2, none⟩ = some (.int .i64 s.1) ∧ w.cell? ⟨bk, off + i * 2 + 1, none⟩ = some (.int .i64 s.2) := by
  obtain ⟨h0, h1⟩ := segw_at' hi
  obtain ⟨bk, off, rfl, hc⟩ := rdsl_cells h h0
  exact ⟨bk, off, rfl, hc _ _ h0, by rw [Nat.add_assoc]; exact hc _ _ h1⟩
set_option maxRecDepth 20000 in
set_option maxHeartbeats 2000000 in
theorem r14next_c (hL : L.Ok) (h : Sat w0 w (RLogRep p d L :: F)) :
    Calls Tryz.prog 103 #[ptr p] w (Rtn fun v w' => v = .int .i64 L.next ∧ Sat w0 w' (RLogRep p d L :: F)) := by
  obtain ⟨lv, hR⟩ := RLogRep.open h
  obtain ⟨la, lc, rfl⟩ := sgs_sl (Sat.rd (hR.pick pick1))
  have hlen := hL.len
  have e2 : w.cell? ⟨p, 2, none⟩ = some (.slice la L.l.length lc) := hR.cellP pick0 2 rfl
  have Hnx := Lib.hid (show L.next = match L.l.getLast? with | none => 0 | some s => s.1 + 1 from rfl)
  have Hnums := Lib.hid hL.nums
  clear h hL
  by_cases h0 : L.l = []
  · have c0 : L.l.length = 0 := by rw [h0]; rfl
    have hn : L.next = 0 := by rw [Hnx.out, h0]; rfl
    have Hn := Lib.hid hn
    rw [c0] at e2
    clear h0 hn c0 hlen
    go_enter Tryz.func103, Tryz.ntmps103
    go_wp2
    go_ret
    exact ⟨_, rfl, by rw [Hn.out]; rfl, RLogRep.shut hR⟩
  · obtain ⟨k, hk⟩ : ∃ k, L.l.length = k + 1 := ⟨L.l.length - 1, by have : L.l.length ≠ 0 := fun e => h0 (List.length_eq_zero_iff.1 e); omega⟩
    obtain ⟨s, hs⟩ : ∃ s, L.l[k]? = some s := ⟨_, List.getElem?_eq_getElem (by omega)⟩
    have hlast : L.l.getLast? = some s := by rw [List.getLast?_eq_getElem?, hk]; exact hs
    have hn : L.next = s.1 + 1 := by rw [Hnx.out, hlast]
    obtain ⟨n1, n2⟩ := Hnums.out s (List.mem_of_getElem? hs)
    have hRd := hR.drew
    obtain ⟨bk, off, rfl, c0, _⟩ := sgs_cells (Sat.rd (hRd.pick pick1)) hs
    have Hn := Lib.hid hn
    have hw1 : IntKind.i64.wrap (s.1 + 1) = s.1 + 1 := IntWalk.i64_in _ (by omega)
    have hw2 : IntKind.i64.wrap (((k + 1 : Nat) : Int) - 1) = (k : Int) := by rw [show ((k + 1 : Nat) : Int) - 1 = (k : Int) by omega]; exact IntWalk.i64_in _ (by omega)
    have d1 : ((((k + 1 : Nat) : Int)) == 0) = false := by rw [beq_eq_false_iff_ne]; omega
    have d2 : (k : Int) < ((k + 1 : Nat) : Int) := by omega
    have e3 : World.cell? (World.drew w) ⟨p, 2, none⟩ = some (.slice (some ⟨bk, off, none⟩) (k + 1) lc) := by rw [← hk]; exact hRd.cellP pick0 2 rfl
    rw [hk] at e2
    clear hlast hn h0 n1 n2 hs
    generalize s.1 = z at *
    go_enter Tryz.func103, Tryz.ntmps103
    go_wp2_with fail
    go_region
    go_wp2
    go_ret
    exact ⟨_, rfl, by rw [Hn.out]; rfl, RLogRep.shut hRd⟩
set_option maxRecDepth 20000 in
set_option maxHeartbeats 2000000 in
theorem r14at_c (hL : L.Ok) (n : Int) (h : Sat w0 w (RLogRep p d L :: F)) :
    Calls Tryz.prog 82 #[ptr p, .int .i64 n] w (Rtn fun v w' => v = .int .i64 (L.find n) ∧ w = w') := by
  obtain ⟨lv, hR⟩ := RLogRep.open h
  obtain ⟨la, lc, rfl⟩ := sgs_sl (Sat.rd (hR.pick pick1))
  have hlen := hL.len
  have e2 : w.cell? ⟨p, 2, none⟩ = some (.slice la L.l.length lc) := hR.cellP pick0 2 rfl
  have hrd := Sat.rd (hR.pick pick1)
  clear h hL hR
  go_enter Tryz.func82, Tryz.ntmps82
  go_wp2_with fail
  go_loopg [5] L.l.length (fun g iq wr => ∃ i : Nat, g = L.l.length - i ∧ i ≤ L.l.length ∧ iq = .int .i64 i ∧ (∀ (j : Nat) (s : Int × Int), j < i → L.l[j]? = some s → s.1 ≠ n) ∧ wr = w)
  case atStart => exact ⟨0, rfl, Nat.zero_le _, rfl, fun j s hj => by omega, rfl⟩
  case round =>
    obtain ⟨i, rfl, hi, rfl, hno, rfl⟩ := hrel
    by_cases hlt : i < L.l.length
    · have c1 : (i : Int) < (L.l.length : Int) := by omega
      have hwi : IntKind.i64.wrap ((i : Int) + 1) = (i : Int) + 1 := IntWalk.i64_in _ (by omega)
      obtain ⟨s, hs⟩ : ∃ s, L.l[i]? = some s := ⟨_, List.getElem?_eq_getElem hlt⟩
      obtain ⟨bk, off, rfl, c0, _⟩ := sgs_cells hrd hs
      have Hlt := Lib.hid hlt; have Hs := Lib.hid hs; have Hno := Lib.hid hno
      clear hlt hs hno hlen
      by_cases hsn : s.1 = n
      · have hb : (s.1 == n) = true := by rw [hsn]; exact beq_self_eq_true _
        have Hf := Lib.hid (show L.find n = (i : Int) by unfold Seg.Log.find; rw [Seg.at_some Hno.out Hs.out hsn])
        subst hsn
        go_wp2
        go_ret
        exact ⟨_, rfl, by rw [Hf.out]; rfl, rfl⟩
      · have hb : (s.1 == n) = false := by rw [beq_eq_false_iff_ne]; exact hsn
        have Hsn := Lib.hid hsn
        clear hsn
        go_wp2_with fail
        go_roundg (L.l.length - (i + 1))
        case measure => have := Hlt.out; omega
        case rel => exact ⟨i + 1, rfl, Nat.succ_le_of_lt Hlt.out, by first | rfl | go_num, fun j s' hj hs' => by
          rcases Nat.lt_or_ge j i with h1 | h1
          · exact Hno.out j s' h1 hs'
          · obtain rfl : j = i := by omega
            rw [Hs.out] at hs'; cases hs'; exact Hsn.out, rfl⟩
    · obtain rfl : i = L.l.length := by omega
      have c1 : ¬ (L.l.length : Int) < (L.l.length : Int) := by omega
      have Hf := Lib.hid (show L.find n = -1 by unfold Seg.Log.find; rw [Seg.at_none fun j s hs => hno j s (List.getElem?_eq_some_iff.1 hs).1 hs])
      clear hlt hno
      go_wp2
      go_ret
      exact ⟨_, rfl, by rw [Hf.out]; rfl, rfl⟩
theorem int_snoc (l : List Int) (z : Int) : ints l ++ [.int .i64 z] = ints (l ++ [z]) := by unfold ints; rw [List.map_append]; rfl
set_option maxRecDepth 20000 in
set_option maxHeartbeats 2000000 in
theorem r14numbers_c (hL : L.Ok) (h : Sat w0 w (RLogRep p d L :: F)) :
    Calls Tryz.prog 47 #[ptr p] w (Rtn fun v w' => ∃ ov, v = ov ∧ Sat w0 w' (osl 3 1 ov (ints L.segs) :: RLogRep p d L :: F)) := by
  obtain ⟨lv, hR⟩ := RLogRep.open h
  obtain ⟨la, lc, rfl⟩ := sgs_sl (Sat.rd (hR.pick pick1))
  have hlen := hL.len
  have e2 : w.cell? ⟨p, 2, none⟩ = some (.slice la L.l.length lc) := hR.cellP pick0 2 rfl
  clear h hL
  go_enter Tryz.func47, Tryz.ntmps47
  go_wp2_with fail
  clear e2
  go_loopg [3, 4] L.l.length (fun g ov iq wr => ∃ i : Nat, g = L.l.length - i ∧ i ≤ L.l.length ∧ iq = .int .i64 i ∧ Sat w0 wr (osl 3 1 ov (ints (L.segs.take i)) :: rlogPt p d L (.slice la L.l.length lc) :: osl 84 2 (.slice la L.l.length lc) (segw L.l) :: F))
  case atStart => exact ⟨0, rfl, Nat.zero_le _, rfl, Sat.osl_nil.2 hR⟩
  case round =>
    obtain ⟨i, rfl, hi, rfl, hS⟩ := hrel
    clear hR
    have e2 : World.cell? _ ⟨p, 2, none⟩ = some (.slice la L.l.length lc) := hS.cellP pick1 2 rfl
    by_cases hlt : i < L.l.length
    · have c1 : (i : Int) < (L.l.length : Int) := by omega
      have hwi : IntKind.i64.wrap ((i : Int) + 1) = (i : Int) + 1 := IntWalk.i64_in _ (by omega)
      obtain ⟨s, hs⟩ : ∃ s, L.l[i]? = some s := ⟨_, List.getElem?_eq_getElem hlt⟩
      obtain ⟨bk, off, rfl, c0, _⟩ := sgs_cells (Sat.rd (hS.pick pick2)) hs
      have Hlt := Lib.hid hlt
      have Hnx := Lib.hid (show L.segs.take (i + 1) = L.segs.take i ++ [s.1] by unfold Seg.Log.segs; rw [List.take_add_one, List.getElem?_map, hs]; rfl)
      have hln : (ints (L.segs.take i)).length ≤ 2147483648 := by unfold ints Seg.Log.segs; rw [List.length_map, List.length_take, List.length_map]; omega
      clear hlt hs hlen
      generalize s.1 = z at *
      go_wp2_with (first
        | ((with_reducible apply at_build1); refine ⟨?_⟩; refine wl_build1 (e := 3) (sz := 1) (by' := 8) (by kernel_rfl) hS (by rfl) (cs := #[.int .i64 z]) rfl rfl (Nat.le_of_ble_eq_true (by rfl)) ?_; intro bN wN hN)
        | ((with_reducible apply at_append); refine ⟨?_⟩; refine wl_app 3 1 8 (by kernel_rfl) hN (by rfl) (by rfl) (pick_there pick0) pick0 (by rfl) (Nat.le_refl 1) (by rfl) hln (by show 1 ≤ 65536; decide) (by decide) rfl ?_; intro bA nA cA wA hA))
      go_roundg (L.l.length - (i + 1))
      case measure => have := Hlt.out; omega
      case rel => exact ⟨i + 1, rfl, Nat.succ_le_of_lt Hlt.out, by first | rfl | go_num, by rw [Hnx.out, ← int_snoc]; exact hA⟩
    · obtain rfl : i = L.l.length := by omega
      have c1 : ¬ (L.l.length : Int) < (L.l.length : Int) := by omega
      rw [List.take_of_length_le (by unfold Seg.Log.segs; rw [List.length_map]; exact Nat.le_refl _)] at hS
      clear hlt
      go_wp2
      go_ret
      exact ⟨_, rfl, (RLogRep.shut (hS.sub (sub_take pick1 (sub_take pick1 (sub_take pick0 sub_refl))))).sub (sub_take pick1 (sub_take pick0 sub_refl))⟩
end
end Go.Proofs.YtmjldaedhmipkaaGreatDoor
/- The reference's log beside segs': the same calls upon the document's medium; plain. -/
namespace Go.Seg
open Go.Med
set_option linter.unusedVariables false
def Log.rbegin1 (L : Log) (D : Med) (b : Bs) : (Log × Med) × Plc × Int :=
  if 1048576 ≤ L.next then ((L, D), Plc.zero, 16)
  else if (D.create (name L.next)).2 ≠ 0 then ((L, (D.create (name L.next)).1), Plc.zero, (D.create (name L.next)).2)
  else if ((D.create (name L.next)).1.append (name L.next) (mag ++ b)).2 = 0 then
    (({ L with l := L.l ++ [(L.next, 8 + (b.length : Int))], on := true, fresh := L.fresh + 1 }, ((D.create (name L.next)).1.append (name L.next) (mag ++ b)).1), ⟨L.next, 8, b.length⟩, 0)
  else if ((D.create (name L.next)).1.append (name L.next) (mag ++ b)).2 = 11 then
    ((L, (((D.create (name L.next)).1.append (name L.next) (mag ++ b)).1.rmove (name L.next) ByteArray.empty true).1), Plc.zero,
      if (((D.create (name L.next)).1.append (name L.next) (mag ++ b)).1.rmove (name L.next) ByteArray.empty true).2 = 12 then 12 else 11)
  else ((L, ((D.create (name L.next)).1.append (name L.next) (mag ++ b)).1), Plc.zero, ((D.create (name L.next)).1.append (name L.next) (mag ++ b)).2)
def Log.rbegin (L : Log) (D : Med) (b : Bs) : (Log × Med) × Plc × Int :=
  if (L.shut D).2 = 0 then (L.shut D).1.1.rbegin1 (L.shut D).1.2 b else ((L.shut D).1, Plc.zero, (L.shut D).2)
def Log.rappend (L : Log) (D : Med) (x : Frm.Ent) : (Log × Med) × Plc × Int :=
  if (Frm.encode x).2 ≠ 0 then ((L, D), Plc.zero, (Frm.encode x).2)
  else if L.fits (Frm.encode x).1.length = true then L.grow D (Frm.encode x).1 else L.rbegin D (Frm.encode x).1
def Log.rcommit (L : Log) (M : Med) : (Log × Med) × Int × Int :=
  if (L.rappend M comEnt).2.2 ≠ 0 then ((L.rappend M comEnt).1, 0, (L.rappend M comEnt).2.2)
  else if ((L.rappend M comEnt).1.2.sync (name (L.rappend M comEnt).2.1.seg)).2 ≠ 0 then (((L.rappend M comEnt).1.1, ((L.rappend M comEnt).1.2.sync (name (L.rappend M comEnt).2.1.seg)).1), 0, ((L.rappend M comEnt).1.2.sync (name (L.rappend M comEnt).2.1.seg)).2)
  else if (((L.rappend M comEnt).1.2.sync (name (L.rappend M comEnt).2.1.seg)).1.syncDir).2 ≠ 0 then (((L.rappend M comEnt).1.1, (((L.rappend M comEnt).1.2.sync (name (L.rappend M comEnt).2.1.seg)).1.syncDir).1), 0, (((L.rappend M comEnt).1.2.sync (name (L.rappend M comEnt).2.1.seg)).1.syncDir).2)
  else (({ (L.rappend M comEnt).1.1 with on := false, fresh := 0 }, (((L.rappend M comEnt).1.2.sync (name (L.rappend M comEnt).2.1.seg)).1.syncDir).1), (L.rappend M comEnt).2.1.seg, 0)
def Log.rremove (L : Log) (D : Med) (n : Int) : (Log × Med) × Int :=
  match L.at n with
  | none => ((L, D), 9)
  | some i => if (D.rmove (name n) ByteArray.empty true).2 = 0 then ((L.without i, (D.rmove (name n) ByteArray.empty true).1), 0) else ((L, (D.rmove (name n) ByteArray.empty true).1), (D.rmove (name n) ByteArray.empty true).2)
/-- Both answer the same, have the same log, and media that are alike. -/
def Agree {α : Type} (r q : (Log × Med) × α) : Prop := r.1.1 = q.1.1 ∧ r.2 = q.2 ∧ ∃ φ V, Side φ V r.1.2 q.1.2
section
variable {φ : Nat → Nat} {V : Nat → Prop} {M D : Med} {K : Nat} {L : Log}
theorem Agree.same {α : Type} (h : Side φ V M D) (L : Log) (x : α) : Agree ((L, M), x) ((L, D), x) := ⟨rfl, rfl, φ, V, h⟩
theorem Agree.mk' {α : Type} {r q : Med} (h : ∃ φ V, Side φ V r q) (L : Log) (x : α) : Agree ((L, r), x) ((L, q), x) := ⟨rfl, rfl, h⟩
theorem side_grow (h : Side φ V M D) (ok : M.Ok K) (b : Bs) : Agree (L.grow M b) (L.grow D b) := by
  unfold Log.grow
  split
  · exact .same h _ _
  · rename_i s _
    obtain ⟨h1, h2⟩ := h.append ok (name s.1) b
    rw [← h1]
    split
    · exact .mk' h2 _ _
    · exact .mk' h2 _ _
theorem side_shut (h : Side φ V M D) (ok : M.Ok K) : Agree (L.shut M) (L.shut D) := by
  unfold Log.shut
  split
  · exact .same h _ _
  · rename_i s _
    obtain ⟨h1, h2⟩ := h.sync ok (name s.1)
    rw [← h1]
    split
    · split
      · exact .mk' h2 _ _
      · exact .mk' h2 _ _
    · exact .same h _ _
/-- What removal answers, where the file is there. -/
theorem remove_said {s : ByteArray} (hoff : M.off = false) (hs : (nget M.now s).isSome = true) : (M.remove s).2 = 0 ∨ (M.remove s).2 = 12 := by
  unfold Med.remove
  rw [hoff, if_neg (by decide)]
  cases hg : nget M.now s with
  | none => rw [hg] at hs; cases hs
  | some i =>
    simp only
    split
    · exact .inr rfl
    · exact .inl rfl
theorem full_same {s : ByteArray} {b : Bs} (h : (M.append s b).2 = 11) : (M.append s b).1 = M ∧ M.off = false ∧ (nget M.now s).isSome = true := by
  unfold Med.append at h ⊢
  revert h
  split
  · simp
  rename_i ho
  split
  · simp
  rename_i i hi
  split
  · intro _; exact ⟨rfl, by simpa using ho, by rw [hi]; rfl⟩
  split
  · simp
  · simp
theorem side_begin1 (h : Side φ V M D) (ok : M.Ok K) (b : Bs) : Agree (L.begin1 M b) (L.rbegin1 D b) := by
  unfold Log.begin1 Log.rbegin1
  split; · exact .same h _ _
  obtain ⟨h1, φ1, V1, s1⟩ := h.create ok (name L.next)
  have ok1 := ok.create (name L.next)
  rw [← h1]
  split; · exact .mk' ⟨φ1, V1, s1⟩ _ _
  generalize (M.create (name L.next)).1 = M1 at *
  generalize (D.create (name L.next)).1 = D1 at *
  obtain ⟨h2, φ2, V2, s2⟩ := s1.append ok1 (name L.next) (mag ++ b)
  have ok2 := ok1.append (name L.next) (mag ++ b)
  rw [← h2]
  split; · exact .mk' ⟨φ2, V2, s2⟩ _ _
  split
  · rename_i h11
    obtain ⟨e1, e2, e3⟩ := full_same h11
    obtain ⟨h3, h4⟩ := s2.remove ok2 (name L.next) ByteArray.empty
    rw [← h3]
    have h5 := remove_said (M := (M1.append (name L.next) (mag ++ b)).1) (s := name L.next) (by rw [e1]; exact e2) (by rw [e1]; exact e3)
    refine ⟨rfl, ?_, h4⟩
    simp only [Prod.mk.injEq, true_and]
    rcases h5 with h5 | h5
    · rw [h5]; rfl
    · rw [h5]; rfl
  · exact .mk' ⟨φ2, V2, s2⟩ _ _
theorem shut_ok (ok : M.Ok K) : (L.shut M).1.2.Ok (K + 1) := by
  unfold Log.shut
  split; · exact ok.mono (Nat.le_succ K)
  split
  · split
    · exact ok.sync _
    · exact ok.sync _
  · exact ok.mono (Nat.le_succ K)
theorem side_begin (h : Side φ V M D) (ok : M.Ok K) (b : Bs) : Agree (L.begin M b) (L.rbegin D b) := by
  unfold Log.begin Log.rbegin
  obtain ⟨h1, h2, φ1, V1, s1⟩ := side_shut (L := L) h ok
  have ok1 := shut_ok (L := L) ok
  rw [← h2]
  split
  · rw [← h1]; exact side_begin1 s1 ok1 b
  · exact ⟨h1, rfl, φ1, V1, s1⟩
theorem side_lappend (h : Side φ V M D) (ok : M.Ok K) (x : Frm.Ent) : Agree (L.append M x) (L.rappend D x) := by
  unfold Log.append Log.rappend
  split; · exact .same h _ _
  split
  · exact side_grow h ok _
  · exact side_begin h ok _
theorem side_lremove (h : Side φ V M D) (ok : M.Ok K) (n : Int) : Agree (L.remove M n) (L.rremove D n) := by
  unfold Log.remove Log.rremove
  cases L.at n with
  | none => exact .same h _ _
  | some i =>
    simp only
    obtain ⟨h1, h2⟩ := h.remove ok (name n) ByteArray.empty
    rw [← h1]
    split
    · exact .mk' h2 _ _
    · exact .mk' h2 _ _
end
end Go.Seg
/- The reference's log: what holds of its disk through the calls; commits, rollbacks, reads. -/
namespace Go.Seg
open Go.Med
set_option linter.unusedVariables false
/-- What the contracts of the document's disk want. -/
structure Fit (K : Nat) (D : Med) : Prop where
  ok : D.Ok K
  small : D.Small
  files : D.files.length ≤ 500 + K
section
variable {φ : Nat → Nat} {V : Nat → Prop} {M D : Med} {K : Nat} {L : Log}
theorem Fit.mono {K' : Nat} (h : Fit K D) (hk : K ≤ K') : Fit K' D := ⟨h.ok.mono hk, h.small, by have := h.files; omega⟩
theorem Fit.new (K r : Nat) (h : r ≤ 16777216) : Fit K (new r) := ⟨Med.Ok.new K r h, (fun f hf => by cases hf), Nat.zero_le _⟩
theorem Fit.told (h : Fit K D) (x : Med.Cal) (hn : x.n ≤ 9223372036854775807) : Fit (K + 1) (D.told x).1 := ⟨h.ok.told x hn, h.small.told h.ok x, told_files h.ok h.files x⟩
theorem Fit.create (h : Fit K D) (s : ByteArray) : Fit (K + 1) (D.create s).1 := h.told ⟨0, s, s, 0, 0, [], []⟩ (show (0 : Int) ≤ 9223372036854775807 by decide)
theorem Fit.append (h : Fit K D) (s : ByteArray) (b : Bs) : Fit (K + 1) (D.append s b).1 := h.told ⟨1, s, s, 0, 0, b, []⟩ (show (0 : Int) ≤ 9223372036854775807 by decide)
theorem Fit.gone (h : Fit K D) (s : ByteArray) : Fit (K + 1) (D.rmove s ByteArray.empty true).1 := h.told ⟨4, s, s, 0, 0, [], []⟩ (show (0 : Int) ≤ 9223372036854775807 by decide)
theorem Fit.sync (h : Fit K D) (s : ByteArray) : Fit (K + 1) (D.sync s).1 := h.told ⟨5, s, s, 0, 0, [], []⟩ (show (0 : Int) ≤ 9223372036854775807 by decide)
theorem Fit.syncDir (h : Fit K D) : Fit (K + 1) D.syncDir.1 := h.told ⟨6, ByteArray.empty, ByteArray.empty, 0, 0, [], []⟩ (show (0 : Int) ≤ 9223372036854775807 by decide)
theorem Fit.arm (h : Fit K D) (n : Int) (hn : n ≤ 9223372036854775807) : Fit (K + 1) (D.arm n).1 := h.told ⟨7, ByteArray.empty, ByteArray.empty, n, 0, [], []⟩ hn
theorem Fit.crash (h : Fit K D) (l : List Int) : Fit (K + 1) (D.rcrash l) := h.told ⟨8, ByteArray.empty, ByteArray.empty, 0, 0, [], l⟩ (show (0 : Int) ≤ 9223372036854775807 by decide)
theorem Fit.now (h : Fit K D) : D.now.length ≤ 500 := h.ok.nowOk.len
theorem Fit.len (h : Fit K D) {s : ByteArray} {i : Nat} (hi : nget D.now s = some i) : i < D.files.length ∧ (D.file i).now.length ≤ 1099511627776 := by
  refine ⟨h.ok.nowOk.ids _ (nget_mem hi), ?_⟩
  have := (h.ok.file i).now_len
  omega
theorem Fit.grow (h : Fit K D) (b : Bs) : Fit (K + 1) (L.grow D b).1.2 := by
  unfold Log.grow
  split; · exact h.mono (Nat.le_succ K)
  split <;> exact h.append _ _
theorem Fit.shut (h : Fit K D) : Fit (K + 1) (L.shut D).1.2 := by
  unfold Log.shut
  split; · exact h.mono (Nat.le_succ K)
  split
  · split <;> exact h.sync _
  · exact h.mono (Nat.le_succ K)
theorem Fit.begin1 (h : Fit K D) (b : Bs) : Fit (K + 3) (L.rbegin1 D b).1.2 := by
  unfold Log.rbegin1
  split; · exact h.mono (by omega)
  split; · exact (h.create _).mono (by omega)
  split; · exact ((h.create _).append _ _).mono (by omega)
  split; · exact (((h.create _).append _ _).gone _)
  exact ((h.create _).append _ _).mono (by omega)
theorem Fit.begin (h : Fit K D) (b : Bs) : Fit (K + 4) (L.rbegin D b).1.2 := by
  unfold Log.rbegin
  split
  · exact (h.shut).begin1 _
  · exact h.shut.mono (by omega)
theorem Fit.lappend (h : Fit K D) (x : Frm.Ent) : Fit (K + 4) (L.rappend D x).1.2 := by
  unfold Log.rappend
  split; · exact h.mono (by omega)
  split
  · exact (h.grow _).mono (by omega)
  · exact h.begin _
theorem rcommit_eq (L : Log) (M : Med) : L.rcommit M = if (L.rappend M comEnt).2.2 ≠ 0 then ((L.rappend M comEnt).1, 0, (L.rappend M comEnt).2.2)
  else if ((L.rappend M comEnt).1.2.sync (name (L.rappend M comEnt).2.1.seg)).2 ≠ 0 then (((L.rappend M comEnt).1.1, ((L.rappend M comEnt).1.2.sync (name (L.rappend M comEnt).2.1.seg)).1), 0, ((L.rappend M comEnt).1.2.sync (name (L.rappend M comEnt).2.1.seg)).2)
  else if (((L.rappend M comEnt).1.2.sync (name (L.rappend M comEnt).2.1.seg)).1.syncDir).2 ≠ 0 then (((L.rappend M comEnt).1.1, (((L.rappend M comEnt).1.2.sync (name (L.rappend M comEnt).2.1.seg)).1.syncDir).1), 0, (((L.rappend M comEnt).1.2.sync (name (L.rappend M comEnt).2.1.seg)).1.syncDir).2)
  else (({ (L.rappend M comEnt).1.1 with on := false, fresh := 0 }, (((L.rappend M comEnt).1.2.sync (name (L.rappend M comEnt).2.1.seg)).1.syncDir).1), (L.rappend M comEnt).2.1.seg, 0) := rfl
theorem Fit.lcommit (h : Fit K D) : Fit (K + 6) (L.rcommit D).1.2 := by
  have h1 := h.lappend (L := L) comEnt
  have h2 := h1.sync (name (L.rappend D comEnt).2.1.seg)
  have h3 := h2.syncDir
  rw [rcommit_eq]
  split; · exact h1.mono (by omega)
  split; · exact h2.mono (by omega)
  split; · exact h3
  exact h3
theorem Fit.lremove (h : Fit K D) (n : Int) : Fit (K + 1) (L.rremove D n).1.2 := by
  unfold Log.rremove
  cases L.at n with
  | none => exact h.mono (Nat.le_succ K)
  | some i =>
    simp only
    split <;> exact h.gone _
/-- Rollback: k rounds at most. -/
def Log.rback : Nat → Log → Med → (Log × Med) × Int
  | 0, L, M => (({ L with on := false }, M), 0)
  | k + 1, L, M =>
    match L.l.getLast? with
    | none => (({ L with on := false }, M), 0)
    | some s => if (L.rremove M s.1).2 = 0 then Log.rback k (L.rremove M s.1).1.1 (L.rremove M s.1).1.2 else L.rremove M s.1
def Log.rrollback (L : Log) (M : Med) : (Log × Med) × Int := L.rback L.fresh.toNat M
theorem Fit.back : ∀ (k : Nat) {K : Nat} {L : Log} {D : Med}, Fit K D → Fit (K + k) (L.rback k D).1.2
  | 0, K, L, D, h => h
  | k + 1, K, L, D, h => by
    unfold Log.rback
    split; · exact h.mono (by omega)
    split
    · exact (Fit.back k (h.lremove _)).mono (by omega)
    · exact (h.lremove _).mono (by omega)
theorem side_back : ∀ (k : Nat) {K : Nat} {L : Log} {φ : Nat → Nat} {V : Nat → Prop} {M D : Med}, Side φ V M D → M.Ok K → Agree (L.back k M) (L.rback k D)
  | 0, K, L, φ, V, M, D, h, ok => .same h _ _
  | k + 1, K, L, φ, V, M, D, h, ok => by
    unfold Log.back Log.rback
    cases L.l.getLast? with
    | none => exact .same h _ _
    | some s =>
      simp only
      obtain ⟨h1, h2, φ1, V1, s1⟩ := side_lremove (L := L) h ok s.1
      have ok1 : (L.remove M s.1).1.2.Ok (K + 1) := by
        unfold Log.remove
        cases L.at s.1 with
        | none => exact ok.mono (Nat.le_succ K)
        | some i => simp only; split <;> exact ok.remove _
      rw [← h2]
      split
      · rw [← h1]; exact side_back k s1 ok1
      · exact ⟨h1, h2, φ1, V1, s1⟩
theorem side_lcommit (h : Side φ V M D) (ok : M.Ok K) : Agree (L.commit M) (L.rcommit D) := by
  rw [Log.commit_eq, rcommit_eq]
  obtain ⟨h1, h2, φ1, V1, s1⟩ := side_lappend (L := L) h ok comEnt
  have ok1 := Log.append_med (L := L) ok comEnt
  generalize L.append M comEnt = a at *
  generalize L.rappend D comEnt = b at *
  obtain ⟨⟨L1, M1⟩, p, e⟩ := a
  obtain ⟨⟨L2, D1⟩, q, f⟩ := b
  simp only at h1 h2 s1 ok1
  obtain ⟨rfl, rfl⟩ := Prod.mk.inj h2
  subst h1
  dsimp only
  split; · exact .same s1 _ _
  obtain ⟨h3, φ2, V2, s2⟩ := s1.sync ok1 (name p.seg)
  have ok2 := ok1.sync (name p.seg)
  rw [← h3]
  split; · exact .mk' ⟨φ2, V2, s2⟩ _ _
  obtain ⟨h4, h5⟩ := s2.syncDir ok2
  rw [← h4]
  split; · exact .mk' h5 _ _
  exact .mk' h5 _ _
theorem side_lrollback (h : Side φ V M D) (ok : M.Ok K) : Agree (L.rollback M) (L.rrollback D) := side_back _ h ok
theorem side_lread (h : Side φ V M D) (ok : M.Ok K) (q : Plc) : L.read M q = L.read D q := by
  unfold Log.read
  rw [h.read ok]
/-- Fresh ones: at most one more for each append. -/
theorem Log.shut_fresh (L : Log) (M : Med) : (L.shut M).1.1.fresh = L.fresh := by
  unfold Log.shut
  split; · rfl
  split
  · split <;> rfl
  · rfl
theorem Log.append_fresh (L : Log) (M : Med) (x : Frm.Ent) : (L.append M x).1.1.fresh ≤ L.fresh + 1 := by
  unfold Log.append
  split; · simp only; omega
  split
  · unfold Log.grow
    split; · simp only; omega
    split <;> (simp only; omega)
  · unfold Log.begin
    have h1 := Log.shut_fresh L M
    split
    · unfold Log.begin1
      split; · simp only; omega
      split; · simp only; omega
      split; · simp only; omega
      split <;> (simp only; omega)
    · simp only; omega
theorem Log.commit_fresh (L : Log) (M : Med) (h0 : 0 ≤ L.fresh) : (L.commit M).1.1.fresh ≤ L.fresh + 1 := by
  have h1 := Log.append_fresh L M comEnt
  rw [Log.commit_eq]
  split; · exact h1
  split; · exact h1
  split; · exact h1
  simp only; omega
theorem Log.remove_fresh_le (L : Log) (M : Med) (n : Int) : (L.remove M n).1.1.fresh ≤ L.fresh := by
  unfold Log.remove
  cases L.at n with
  | none => exact Int.le_refl _
  | some i =>
    simp only
    split
    · unfold Log.without; simp only; split <;> omega
    · exact Int.le_refl _
theorem Log.back_fresh : ∀ (k : Nat) (L : Log) (M : Med), (L.back k M).1.1.fresh ≤ L.fresh
  | 0, L, M => Int.le_refl _
  | k + 1, L, M => by
    unfold Log.back
    cases L.l.getLast? with
    | none => exact Int.le_refl _
    | some s =>
      simp only
      split
      · exact Int.le_trans (Log.back_fresh k _ _) (Log.remove_fresh_le L M s.1)
      · exact Log.remove_fresh_le L M s.1
end
end Go.Seg
/- hoardref14's Log.Remove. -/
namespace Go.Proofs.YtmjldaedhmipkaaGreatDoor
open Go Go.Sl Go.Med Go.MapKept Go.RowKit
set_option linter.unusedVariables false
section
variable {P : Program} {w0 w : World} {F R : List HProp} {e : TypeId} {ops : Array Oper} {a : Act} {Q : Exit → Act → World → Prop} {dst : Option Tmp} {ty : TypeId} {t : Nat} {pos : String} {after : Array Edge} {s y : Operand} {v x : Value} {xs ys : List Value} {K : Act → World → Prop} {E : Prop}
/-- An append of what is read. -/
theorem eff_appG (sz by' : Nat) (hb : appB P ty e sz by' = true) (hs : Sat w0 w (osl e sz v xs :: R)) (hv : a.eval s = v) (hy : a.eval y = x) (hx : rdsl sz x ys w) (h1 : ∀ u ∈ ys, u.oneCell' = true)
    (hl : xs.length + ys.length ≤ 2147483648) (hby : by' ≤ 65000)
    (hK : ∀ v' w', Sat w0 w' (osl e sz v' (xs ++ ys) :: R) → K (a.put dst v') w') :
    if Region.wanted ⟨dst, .call { callee := .builtin .append, args := #[s, y], argTypes := #[ty, ty] }, t, pos, after, none⟩ (yielded ops a.tmps) = true then
      Oper.wp P ⟨dst, .call { callee := .builtin .append, args := #[s, y], argTypes := #[ty, ty] }, t, pos, after, none⟩ a w K Q else E := by
  obtain ⟨hu, i, z, hi, hz, e1, e2, e3, e4⟩ := appB_spec hb
  subst e2
  refine step_append (w0 := w0) (by rfl) s y ty (by rfl) _ i z hu hi hz e1 e3 e4 hv hy h1 hs hx (by unfold maxLen; omega) ?_ fun v' w' h2 _ => hK v' w' h2
  exact Nat.le_trans (Nat.mul_le_mul hl hby) (by decide)
end
/-- A part of a block, read. -/
theorem rd_cells {w0 w : World} {L R : List HProp} {b sz n c : Nat} {cs : Array Value} {T : TypeId} {ys : List Value} (h : Sat w0 w L) (p : Pick (pt b (.cells cs T (0,0))) L R) (hn : ys.length = n * sz) (hy : ∀ (j : Nat) (u : Value), ys[j]? = some u → cs[j]? = some u) :
    rdsl sz (.slice (some ⟨b, 0, none⟩) n c) ys w :=
  ⟨_, n, c, rfl, hn, fun j x hj => ⟨_, rfl, by rw [add_zero_lit]; exact (h.pick p).cellAt j x (hy j x hj)⟩⟩
theorem rd_cells' {w0 w : World} {L R : List HProp} {b sz n c o : Nat} {ad : Addr} {cs : Array Value} {T : TypeId} {ys : List Value} (h : Sat w0 w L) (p : Pick (pt b (.cells cs T (0,0))) L R) (hn : ys.length = n * sz) (had : 0 < n → ad = ⟨b, o, none⟩) (hy : ∀ (j : Nat) (u : Value), ys[j]? = some u → cs[o + j]? = some u) :
    rdsl sz (.slice (some ad) n c) ys w :=
  ⟨_, n, c, rfl, hn, fun j x hj => ⟨_, rfl, by
    have h0 : 0 < n := by
      rcases Nat.eq_zero_or_pos n with rfl | h0
      · rw [Nat.zero_mul] at hn
        rw [List.length_eq_zero_iff.1 hn] at hj; cases hj
      · exact h0
    rw [had h0, Addr.add_mid]; exact (h.pick p).cellAt _ x (hy j x hj)⟩⟩
theorem seg_drop {l : List (Int × Int)} {cs : Array Value} {i j : Nat} {u : Value} (h : cs.toList.take (l.length * 2) = segw l) (hj : (segw (l.drop i))[j]? = some u) : cs[i * 2 + j]? = some u := by
  refine take_get h ?_
  rw [segw_drop, List.getElem?_drop] at hj
  exact hj
theorem seg_take {l : List (Int × Int)} {cs : Array Value} {i j : Nat} {u : Value} (h : cs.toList.take (l.length * 2) = segw l) (hj : (segw (l.take i))[j]? = some u) : cs[j]? = some u := by
  have e : segw l = segw (l.take i) ++ segw (l.drop i) := by rw [← segw_app, List.take_append_drop]
  refine take_get h ?_
  rw [e, List.getElem?_append_left (List.getElem?_eq_some_iff.1 hj).1]
  exact hj
section
variable {w0 w : World} {F R : List HProp} {p d : Nat} {L : Seg.Log} {lv v : Value} {D : Med} {K : Nat}
set_option maxRecDepth 20000 in
set_option maxHeartbeats 8000000 in
theorem rlremove_c (hL : L.Ok) (hD : Seg.Fit K D) (hKK : K ≤ 1048000) (n : Int) (h : Sat w0 w (RLogRep p d L :: DskRep d D :: F)) :
    Calls Tryz.prog 24 #[ptr p, .int .i64 n] w (Rtn fun v w' => v = errno (L.rremove D n).2 ∧ Sat w0 w' (RLogRep p d (L.rremove D n).1.1 :: DskRep d (L.rremove D n).1.2 :: F)) := by
  have hf := r14at_c hL n h
  rcases find_neg (L := L) n with ⟨ha, hb⟩ | ⟨i, ha, hb⟩
  · have Hfin := Lib.hid (show L.rremove D n = ((L, D), 9) by unfold Seg.Log.rremove; rw [ha])
    rw [hb] at hf
    clear ha hb hL hD
    go_enter Tryz.func24, Tryz.ntmps24
    go_wp2_with fail
    refine hf.mono ?_
    rintro e w2 ⟨v, rfl, rfl, rfl⟩
    clear hf
    go_wp2
    go_ret
    rw [Hfin.out]
    exact ⟨_, rfl, rfl, h⟩
  · rw [hb] at hf
    have hlt := (Seg.Log.at_lt ha).1
    have Hg := Lib.hid (show L.rremove D n = if (D.rmove (Seg.name n) ByteArray.empty true).2 = 0 then ((L.without i, (D.rmove (Seg.name n) ByteArray.empty true).1), 0) else ((L, (D.rmove (Seg.name n) ByteArray.empty true).1), (D.rmove (Seg.name n) ByteArray.empty true).2) by unfold Seg.Log.rremove; rw [ha])
    have hi0 : (0 : Int) ≤ (i : Int) := by omega
    have hd : decide ((i : Int) < 0) = false := decide_eq_false (by omega)
    have Hlt := Lib.hid hlt; have Hln := Lib.hid hL.len; have Hfr := Lib.hid hL.fresh; have HD := Lib.hid hD
    have HKK := Lib.hid hKK
    obtain ⟨lv, hR⟩ := RLogRep.open h
    clear ha hb hL h hlt hD hKK
    go_enter Tryz.func24, Tryz.ntmps24
    go_wp2_with fail
    refine hf.mono ?_
    rintro e w2 ⟨v, rfl, rfl, rfl⟩
    clear hf
    go_wp2_with fail
    refine wpL_begin [6, 7] (fun w' => w'.cell? ⟨p, 0, none⟩ = some (ptr d)) (by kernel_rfl) ?_
    have hG : (World.drew _).cell? ⟨p, 0, none⟩ = some (ptr d) := hR.drew.cellP (by first | ((repeat (first | with_reducible apply pick0 | with_reducible apply pick_there)); done) | ((repeat (first | apply pick0 | apply pick_there)); done) | fail) 0 rfl
    refine rp 0 (hy := (yl_move (by conv => lhs; whnf))) (h := ?_)
    refine rp 1 (hy := (yl_nil (by conv => lhs; whnf))) (h := ?_)
    refine rp 2 (hy := (yl_field (by conv => lhs; whnf) (by ((intro wq; go_simp); first | done | (with_reducible rfl))))) (h := ?_)
    refine rt 3 (h := ?_)
    refine rp 4 (hy := (yl_move (by conv => lhs; whnf))) (h := ?_)
    refine rg_eff 5 (by conv => lhs; whnf) (by kernel_rfl) (fun K hK => ?_)
    (refine eff_call1 (by kernel_rfl) (by conv => lhs; whnf) ?_)
    refine (rname_c n _).mono ?_
    rintro e w3 ⟨v, rfl, rfl, rfl⟩
    refine hK _ _ (.inr (.inr rfl)) ?_
    clear hK
    refine rg_eff 6 (by conv => lhs; whnf) (by kernel_rfl) (fun K hK => ?_)
    (refine eff_call4 (by kernel_rfl) (by conv => lhs; whnf) (by conv => lhs; whnf) (by conv => lhs; whnf) (by conv => lhs; whnf) ?_)
    have hRd := hR.drew
    refine (rmove_c (Seg.name n) ByteArray.empty true (by decide) (by have := HD.out.now; omega) (by have := HD.out.ok.budget; have := HKK.out; omega) HD.out.ok.left (Sat.pk (by assumption))).mono ?_
    rintro e w4 ⟨v, rfl, rfl, hS4⟩
    refine hK _ _ (.inl rfl) ?_
    clear hK hR hRd hG
    refine rp 7 (hy := (yl_assign (by conv => lhs; whnf))) (h := ?_)
    refine wpL_done (by kernel_rfl) ?_
    clear HD
    generalize D.rmove (Seg.name n) ByteArray.empty true = B at *
    obtain ⟨M2, e2⟩ := B
    by_cases he : e2 = 0
    rotate_left
    · have heb : (e2 == 0) = false := beq_false_of_ne he
      have hfin := Lib.hid (Hg.out.trans (if_neg he))
      clear he
      go_wp2_with fail
      go_ret
      rw [hfin.out]
      exact ⟨_, rfl, rfl, RLogRep.shut (lv := lv) (Sat.sb hS4)⟩
    subst he
    have hfin := Lib.hid (Hg.out.trans (if_pos rfl))
    clear Hg
    rcases (hS4.pk (A := osl 84 2 lv (segw L.l))).osl_cases with ⟨rfl, hx, hF⟩ | ⟨bk, n', cap, cs, rfl, hll, hn', hc, hcm, htk, hp⟩
    · exfalso
      have := congrArg List.length hx
      have := Hlt.out
      rw [segw_len] at *; simp at *; omega
    rw [segw_len] at hll
    obtain rfl : n' = L.l.length := by omega
    have hS5 : Sat w0 w4 (rlogPt p d L (.slice (some ⟨bk, 0, none⟩) L.l.length cap) :: pt bk (.cells cs 84 (0,0)) :: DskRep d M2 :: F) := hp.sb
    clear hp hS4
    have hc2 : (segw L.l).length = 2 * L.l.length := segw_len _
    have hic : i ≤ cap := by have := Hlt.out; omega
    have hiL : (i : Int) ≤ (cap : Int) := by omega
    have hw1 : IntKind.i64.wrap ((L.l.length : Int) - 1) = (L.l.length : Int) - 1 := by rw [IntKind.wrap_i64]; have := Hln.out; omega
    have hw2 : IntKind.i64.wrap ((L.l.length : Int) - L.fresh) = (L.l.length : Int) - L.fresh := by rw [IntKind.wrap_i64]; have := Hln.out; have := Hfr.out; omega
    have hw3 : IntKind.i64.wrap (L.fresh - 1) = L.fresh - 1 := by rw [IntKind.wrap_i64]; have := Hln.out; have := Hfr.out; omega
    have hw4 : IntKind.i64.wrap ((i : Int) + 1) = (i : Int) + 1 := by rw [IntKind.wrap_i64]; have := Hln.out; have := Hlt.out; omega
    have Htk := Lib.hid htk; have Hc := Lib.hid hc; have Hn := Lib.hid hn'
    obtain ⟨ad, Had, Hsl⟩ : ∃ ad : Addr, Hid (i + 1 < L.l.length → ad = ⟨bk, (i + 1) * 2, none⟩) ∧ Hid (∀ w, (Instr.sliceAt 85 (.slice (some ⟨bk, 0, none⟩) L.l.length cap) (some (.int .i64 ((i : Int) + 1))) none none).run Tryz.prog w = .ok (.slice (some ad) (L.l.length - (i + 1)) (cap - (i + 1))) w) := by
      have h1 : (i : Int) + 1 ≤ (L.l.length : Int) := by have := Hlt.out; omega
      have h3 : (L.l.length : Int) ≤ (cap : Int) := by omega
      have h4 : (0 : Int) ≤ (i : Int) + 1 := by omega
      have h5 : ((i : Int) + 1).toNat = i + 1 := by omega
      clear hw1 hw2 hw3 hw4 hfin
      by_cases hce : cap = i + 1
      · refine ⟨⟨bk, 0, none⟩, Lib.hid fun hh => by have := Hn.out; omega, Lib.hid fun w => ?_⟩
        go_simp
      · refine ⟨⟨bk, (i + 1) * 2, none⟩, Lib.hid fun _ => rfl, Lib.hid fun w => ?_⟩
        go_simp
    have Hon := Lib.hid (show (L.without i).on = if ((i : Int) == (L.l.length : Int) - 1) = true then false else L.on by
      unfold Seg.Log.without
      simp only [beq_iff_eq]
      have := Hlt.out
      by_cases hh : i + 1 = L.l.length
      · rw [if_pos hh, if_pos (by omega)]
      · rw [if_neg hh, if_neg (by omega)])
    have Hfs := Lib.hid (show (L.without i).fresh = if decide ((L.l.length : Int) - L.fresh ≤ (i : Int)) = true then L.fresh - 1 else L.fresh by
      unfold Seg.Log.without
      simp only [decide_eq_true_eq])
    have Hll := Lib.hid (show (L.without i).l = L.l.take i ++ L.l.drop (i + 1) ∧ (L.without i).limit = L.limit from ⟨List.eraseIdx_eq_take_drop_succ _ _, rfl⟩)
    generalize L.without i = LW at *
    obtain ⟨Wlim, Wl, Won, Wfr⟩ := LW
    obtain ⟨rfl, rfl⟩ := Hll.out
    obtain rfl := Hon.out
    obtain rfl := Hfs.out
    clear Hon Hfs Hll hn' hc hcm htk hc2
    cases hb1 : ((i : Int) == (L.l.length : Int) - 1) <;> cases hb2 : (decide ((L.l.length : Int) - L.fresh ≤ (i : Int)))
    all_goals
      have hS4 := hS5
      go_wp2_with (first | ((with_reducible apply at_load); refine ⟨?_⟩; refine wl_load1 (by assumption) (by rfl) (by first | ((repeat (first | with_reducible apply pick0 | with_reducible apply pick_there)); done) | ((repeat (first | apply pick0 | apply pick_there)); done) | fail) (Nat.le_of_ble_eq_true (by rfl)) (by conv => lhs; whnf) (by kernel_rfl) ?_) | ((with_reducible apply at_store); refine ⟨?_⟩; refine wl_store (by assumption) (by rfl) (by conv => lhs; whnf) (by first | (simp only [putsAt, Value.cells]; (try go_frame); first | done | rfl) | rfl) (by first | ((repeat (first | with_reducible apply upd0 | with_reducible apply upd_there)); done) | ((repeat (first | apply upd0 | apply upd_there)); done) | fail) (Nat.le_of_ble_eq_true (by rfl)) (by kernel_rfl) (by rfl) ?_; intro wS hS))
      try (have hS4 := hS; clear hS)
      have hG : (World.drew _).cell? ⟨p, 2, none⟩ = some (.slice (some ⟨bk, 0, none⟩) L.l.length cap) ∧ (World.drew _).cell? ⟨p, 4, none⟩ = some (.int .i64 L.fresh) := ⟨hS4.drew.cellP (by first | ((repeat (first | with_reducible apply pick0 | with_reducible apply pick_there)); done) | ((repeat (first | apply pick0 | apply pick_there)); done) | fail) 2 rfl, hS4.drew.cellP (by first | ((repeat (first | with_reducible apply pick0 | with_reducible apply pick_there)); done) | ((repeat (first | apply pick0 | apply pick_there)); done) | fail) 4 rfl⟩
      refine wpL_begin [10, 11] (fun w' => w'.cell? ⟨p, 2, none⟩ = some (.slice (some ⟨bk, 0, none⟩) L.l.length cap) ∧ w'.cell? ⟨p, 4, none⟩ = some (.int .i64 L.fresh)) (by kernel_rfl) ?_
      refine rp 0 (hy := (yl_move (by conv => lhs; whnf))) (h := ?_)
      refine rp 1 (hy := (yl_move (by conv => lhs; whnf))) (h := ?_)
      refine rp 2 (hy := (yl_nil (by conv => lhs; whnf))) (h := ?_)
      refine rp 3 (hy := (yl_field (by conv => lhs; whnf) (by ((intro wq; go_simp); first | done | (with_reducible rfl))))) (h := ?_)
      refine rt 4 (h := ?_)
      refine rp 5 (hy := (yl_len (by conv => lhs; whnf) (by ((intro wq; go_simp); first | done | (with_reducible rfl))))) (h := ?_)
      refine rp 6 (hy := (yl_move (by conv => lhs; whnf))) (h := ?_)
      refine rp 7 (hy := (yl_nil (by conv => lhs; whnf))) (h := ?_)
      refine rp 8 (hy := (yl_field (by conv => lhs; whnf) (by ((intro wq; go_simp); first | done | (with_reducible rfl))))) (h := ?_)
      refine rt 9 (h := ?_)
      refine rp 10 (hy := (yl_bin (by conv => lhs; whnf) (by conv => lhs; whnf) (by ((intro wq; go_simp); first | done | (with_reducible rfl))))) (h := ?_)
      refine rp 11 (hy := (yl_bin (by conv => lhs; whnf) (by conv => lhs; whnf) (by ((intro wq; go_simp); first | done | (with_reducible rfl))))) (h := ?_)
      refine wpL_done (by kernel_rfl) ?_
      clear hG
      have hS6 := hS4.drew
      clear hS4
      go_wp2_with (first | ((with_reducible apply at_load); refine ⟨?_⟩; refine wl_load1 (by assumption) (by rfl) (by first | ((repeat (first | with_reducible apply pick0 | with_reducible apply pick_there)); done) | ((repeat (first | apply pick0 | apply pick_there)); done) | fail) (Nat.le_of_ble_eq_true (by rfl)) (by conv => lhs; whnf) (by kernel_rfl) ?_) | ((with_reducible apply at_store); refine ⟨?_⟩; refine wl_store (by assumption) (by rfl) (by conv => lhs; whnf) (by first | (simp only [putsAt, Value.cells]; (try go_frame); first | done | rfl) | rfl) (by first | ((repeat (first | with_reducible apply upd0 | with_reducible apply upd_there)); done) | ((repeat (first | apply upd0 | apply upd_there)); done) | fail) (Nat.le_of_ble_eq_true (by rfl)) (by kernel_rfl) (by rfl) ?_; intro wS hS))
      try (have hS6 := hS; clear hS)
      have hG : (World.drew _).cell? ⟨p, 2, none⟩ = some (.slice (some ⟨bk, 0, none⟩) L.l.length cap) := hS6.drew.cellP (by first | ((repeat (first | with_reducible apply pick0 | with_reducible apply pick_there)); done) | ((repeat (first | apply pick0 | apply pick_there)); done) | fail) 2 rfl
      have hS7 := hS6.drew
      refine wpL_begin [15, 16] (fun w' => w'.cell? ⟨p, 2, none⟩ = some (.slice (some ⟨bk, 0, none⟩) L.l.length cap)) (by kernel_rfl) ?_
      refine rp 0 (hy := (yl_move (by conv => lhs; whnf))) (h := ?_)
      refine rp 1 (hy := (yl_move (by conv => lhs; whnf))) (h := ?_)
      refine rp 2 (hy := (yl_nil (by conv => lhs; whnf))) (h := ?_)
      refine rp 3 (hy := (yl_field (by conv => lhs; whnf) (by ((intro wq; go_simp); first | done | (with_reducible rfl))))) (h := ?_)
      refine rt 4 (h := ?_)
      refine rp 5 (hy := (yl_move (by conv => lhs; whnf))) (h := ?_)
      refine rp 6 (hy := (by (refine Or.inl ⟨by rfl, ?_⟩; ((intro wq; go_simp); first | done | (with_reducible rfl))))) (h := ?_)
      refine rp 8 (hy := (yl_move (by conv => lhs; whnf))) (h := ?_)
      refine rp 9 (hy := (yl_nil (by conv => lhs; whnf))) (h := ?_)
      refine rp 10 (hy := (yl_field (by conv => lhs; whnf) (by ((intro wq; go_simp); first | done | (with_reducible rfl))))) (h := ?_)
      refine rt 11 (h := ?_)
      refine rp 12 (hy := (yl_move (by conv => lhs; whnf))) (h := ?_)
      refine rp 13 (hy := (yl_bin (by conv => lhs; whnf) (by conv => lhs; whnf) (by ((intro wq; go_simp); first | done | (with_reducible rfl))))) (h := ?_)
      refine rp 14 (hy := (yl_slice_lo (by conv => lhs; whnf) (by conv => lhs; whnf) Hsl.out)) (h := ?_)
      refine rg_eff 7 (by conv => lhs; whnf) (by kernel_rfl) (fun K hK => ?_)
      refine eff_appG (e := 84) 2 16 (by kernel_rfl) (Sat.osl_nil.2 hS7) (by rfl) (by rfl) (ys := segw (L.l.take i)) (rd_cells hS7 (by first | ((repeat (first | with_reducible apply pick0 | with_reducible apply pick_there)); done) | ((repeat (first | apply pick0 | apply pick_there)); done) | fail) (by rw [segw_len, List.length_take]; have := Hlt.out; omega) fun j u hj => seg_take Htk.out hj) (segw_one _) (by rw [segw_len, List.length_take, List.length_nil]; have := Hln.out; omega) (by decide) ?_
      intro v1 w8 hS8
      rw [List.nil_append] at hS8
      refine hK _ _ (.inr (.inl (hS8.cellP (by first | ((repeat (first | with_reducible apply pick0 | with_reducible apply pick_there)); done) | ((repeat (first | apply pick0 | apply pick_there)); done) | fail) 2 rfl))) ?_
      clear hK K hG
      refine rg_eff 15 (by conv => lhs; whnf) (by kernel_rfl) (fun K hK => ?_)
      refine eff_appG (e := 84) 2 16 (by kernel_rfl) hS8 (by conv => lhs; whnf) (by conv => lhs; whnf) (ys := segw (L.l.drop (i + 1))) (rd_cells' (n := L.l.length - (i + 1)) (o := (i + 1) * 2) hS8 (by first | ((repeat (first | with_reducible apply pick0 | with_reducible apply pick_there)); done) | ((repeat (first | apply pick0 | apply pick_there)); done) | fail) (by rw [segw_len, List.length_drop, Nat.mul_comm]) (fun hne => Had.out (by have := hne; omega)) fun j u hj => seg_drop Htk.out hj) (segw_one _) (by rw [segw_len, segw_len, List.length_take, List.length_drop]; have := Hln.out; omega) (by decide) ?_
      intro v2 w9 hS9
      obtain ⟨a2, n2, c2, rfl, _⟩ := id hS9.rd
      rw [← segw_app] at hS9
      refine hK _ _ (.inl rfl) ?_
      clear hK K
      refine rp 16 (hy := (yl_assign (by conv => lhs; whnf))) (h := ?_)
      refine wpL_done (by kernel_rfl) ?_
      clear hS5 hS6 hS7 hS8
      go_wp2_with (first | ((with_reducible apply at_load); refine ⟨?_⟩; refine wl_load1 (by assumption) (by rfl) (by first | ((repeat (first | with_reducible apply pick0 | with_reducible apply pick_there)); done) | ((repeat (first | apply pick0 | apply pick_there)); done) | fail) (Nat.le_of_ble_eq_true (by rfl)) (by conv => lhs; whnf) (by kernel_rfl) ?_) | ((with_reducible apply at_store); refine ⟨?_⟩; refine wl_store (by assumption) (by rfl) (by conv => lhs; whnf) (by first | (simp only [putsAt, Value.cells]; (try go_frame); first | done | rfl) | rfl) (by first | ((repeat (first | with_reducible apply upd0 | with_reducible apply upd_there)); done) | ((repeat (first | apply upd0 | apply upd_there)); done) | fail) (Nat.le_of_ble_eq_true (by rfl)) (by kernel_rfl) (by rfl) ?_; intro wS hS))
      go_ret
      rw [hfin.out, hb1, hb2]
      simp only [List.setIfInBounds_toArray, List.set_cons_zero, List.set_cons_succ] at hS
      simp only [if_true, if_false, Bool.false_eq_true]
      exact ⟨_, rfl, rfl, RLogRep.shut (lv := .slice a2 n2 c2) (Sat.sb hS)⟩
end
end Go.Proofs.YtmjldaedhmipkaaGreatDoor
