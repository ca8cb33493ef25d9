import Derived.Test.YtmjldaedhmipkaaGreatDoorJ9
import Derived.Laws.StructEq
import Derived.Test.YtmjldaedhmipkaaGreatDoorRows
import Derived.Test.YtmjldaedhmipkaaGreatDoorCards
import Derived.Test.YtmjldaedhmipkaaGreatDoorTie
import Derived.ProofKit
import Derived.LaidMore
import Derived.OpenShut
import Derived.ShutString
import Derived.SevenTiedAt
set_option linter.unusedVariables false
/- hoardlaw14.alike: both logs and both media show the same. -/
namespace Go.Seg
open Go.Med
theorem seg_at {L : Log} (hL : L.Ok) {i : Nat} {s : Int × Int} (hs : L.l[i]? = some s) : L.at s.1 = some i :=
  at_some (fun j t hj ht he => by
    obtain ⟨hi, ei⟩ := List.getElem?_eq_some_iff.1 hs
    obtain ⟨hj', ej⟩ := List.getElem?_eq_some_iff.1 ht
    have := List.pairwise_iff_getElem.1 hL.rise j i (by rw [List.length_map]; exact hj') (by rw [List.length_map]; exact hi) hj
    rw [List.getElem_map, List.getElem_map, ei, ej] at this
    omega) hs rfl
theorem seg_size {L : Log} (hL : L.Ok) {i : Nat} {s : Int × Int} (hs : L.l[i]? = some s) : L.size s.1 = s.2 := by
  unfold Log.size
  rw [seg_at hL hs]
  simp [List.getD, hs]
theorem seg_bytes {L : Log} (hL : L.Ok) {i : Nat} {s : Int × Int} (hs : L.l[i]? = some s) (M : Med) : L.bytes M s.1 = M.all (name s.1) := by
  unfold Log.bytes
  rw [seg_at hL hs]
end Go.Seg
namespace Go.Proofs.YtmjldaedhmipkaaGreatDoor
open Go Go.Sl Go.Med Go.MapKept Go.RowKit
set_option linter.unusedVariables false
section
variable {w0 w : World} {F R : List HProp} {p q d m : Nat} {L : Seg.Log} {v lv : Value} {D M : Med} {K : Nat} {φ : Nat → Nat} {V : Nat → Prop}
theorem rlog_cells (h : Sat w0 w (RLogRep p d L :: F)) : w.cell? ⟨p, 0, none⟩ = some (ptr d) ∧ w.cell? ⟨p, 4, none⟩ = some (.int .i64 L.fresh) := by
  obtain ⟨lv, hR⟩ := RLogRep.open h
  exact ⟨hR.cellP pick0 0 rfl, hR.cellP pick0 4 rfl⟩
set_option maxRecDepth 20000 in
set_option maxHeartbeats 16000000 in
theorem lalike_c (hL : L.Ok) (ok : M.Ok K) (hD : Seg.Fit K D) (sd : Side φ V M D) (h : Sat w0 w (LogRep p m L :: RLogRep q d L :: MedRep m M :: DskRep d D :: F)) :
    Calls Tryz.prog 34 #[ptr p, ptr q, ptr m] w (Rtn fun v w' => v = .bool true ∧ Sat w0 w' (LogRep p m L :: RLogRep q d L :: MedRep m M :: DskRep d D :: F)) := by
  have HL := Lib.hid hL; have Ok := Lib.hid ok; have HD := Lib.hid hD
  have Hl := Lib.hid (show D.now.length ≤ 1048576 from Nat.le_trans hD.ok.nowOk.len (by decide))
  have Hll := Lib.hid (med_list_len ok)
  have Hlist := Lib.hid sd.list
  have Hall := Lib.hid (fun s => sd.all ok s)
  have Hsz := Lib.hid (fun i s (hs : L.l[i]? = some s) => Seg.seg_size hL hs)
  have Hby := Lib.hid (fun i s (hs : L.l[i]? = some s) => Seg.seg_bytes hL hs M)
  have Hlen := Lib.hid hL.len
  clear hL ok hD sd
  go_enter Tryz.func34, Tryz.ntmps34
  go_wp2_with fail
  have hS0 := h.drew
  clear h
  refine wpL_begin [13, 14, 15, 16, 17, 18, 19, 20, 21] (fun w' => w'.cell? ⟨q, 4, none⟩ = some (.int .i64 L.fresh)) (by kernel_rfl) ?_
  refine rp 0 (hy := (yl_move (by conv => lhs; whnf))) (h := ?_)
  refine rp 2 (hy := (yl_move (by conv => lhs; whnf))) (h := ?_)
  refine rg_eff 1 (by conv => lhs; whnf) (by kernel_rfl) (fun K hK => ?_)
  (refine eff_call1 (by kernel_rfl) (by conv => lhs; whnf) ?_)
  refine (lsegs_c HL.out (Sat.pk (by assumption))).mono ?_
  rintro ee w1 ⟨v1, rfl, hS1⟩
  refine hK _ _ (.inr (.inl (rlog_cells (hS1.pk (A := RLogRep q d L))).2)) ?_
  clear hK hS0
  refine rg_eff 3 (by conv => lhs; whnf) (by kernel_rfl) (fun K hK => ?_)
  (refine eff_call1 (by kernel_rfl) (by conv => lhs; whnf) ?_)
  refine (r14numbers_c HL.out (hS1.pk (A := RLogRep q d L))).mono ?_
  rintro ee w2 ⟨v, rfl, ov, rfl, hS2⟩
  refine hK _ _ (.inr (.inl (rlog_cells (hS2.pk (A := RLogRep q d L))).2)) ?_
  clear hK hS1
  refine rg_eff 4 (by conv => lhs; whnf) (by kernel_rfl) (fun K hK => ?_)
  (refine eff_call2 (by kernel_rfl) (by conv => lhs; whnf) (by conv => lhs; whnf) ?_)
  refine (sameInts_c L.segs (fun w hw => Sat.rd (hw.pk (A := osl 3 1 v1 (ints L.segs)))) (fun w hw => Sat.rd hw) hS2 (by unfold Seg.Log.segs; rw [List.length_map]; have := Hlen.out; omega)).mono ?_
  rintro ee w3 ⟨v, rfl, rfl, hS3⟩
  have hS4 : Sat w0 w3 (LogRep p m L :: RLogRep q d L :: MedRep m M :: DskRep d D :: F) := hS3.sb
  clear hS2 hS3
  have hG : World.cell? _ ⟨q, 4, none⟩ = some (.int .i64 L.fresh) := (rlog_cells hS4.pick1).2
  refine hK _ _ (.inr (.inl hG)) ?_
  clear hK
  refine rp 5 (hy := (yl_un (by conv => lhs; whnf) (by ((intro wq; go_simp); first | done | (with_reducible rfl))))) (h := ?_)
  refine rp 6 (hy := (yl_move (by conv => lhs; whnf))) (h := ?_)
  refine rp 7 (hy := (yg_move (by rfl) (by conv => lhs; whnf))) (h := ?_)
  refine rp 9 (hy := (yg_move (by rfl) (by conv => lhs; whnf))) (h := ?_)
  refine rp 10 (hy := (yg_nil (by rfl) (by conv => lhs; whnf))) (h := ?_)
  refine rp 11 (hy := (yg_field (by rfl) (by conv => lhs; whnf) (by ((intro wq; go_simp); first | done | (with_reducible rfl))))) (h := ?_)
  refine rg_take 12 (by conv => lhs; whnf) (by kernel_rfl) (by intro _ _ _ h; exact h) (tg_load (by rfl) (by conv => lhs; whnf) (by kernel_rfl) (by intro wq hq; first | exact hq | exact hq.1 | exact hq.2 | exact hq.2.1 | exact hq.2.2 | exact hq.2.2.1 | exact hq.2.2.2 | exact hq.2.2.2.1 | exact hq.2.2.2.2)) (by assumption) (by go_frame; first | done | rfl) ?_
  clear hG
  refine rg_eff 8 (by conv => lhs; whnf) (by kernel_rfl) (fun K hK => ?_)
  refine eg_call [ptr p] (by rfl) (by kernel_rfl) (by rfl) ?_
  refine (lfresh_c hS4).mono ?_
  rintro ee w4 ⟨v, rfl, rfl, rfl⟩
  refine hK _ _ (.inr (.inr rfl)) ?_
  clear hK
  have hbf : (L.fresh == L.fresh) = true := beq_self_eq_true _
  have hbn : (L.next == L.next) = true := beq_self_eq_true _
  refine rp 13 (hy := (yg_bin (by rfl) (by conv => lhs; whnf) (by conv => lhs; whnf) (by ((intro wq; go_simp); first | done | (with_reducible rfl))))) (h := ?_)
  refine rp 14 (hy := (yg_pick (by rfl) (by conv => lhs; whnf) (by conv => lhs; whnf))) (h := ?_)
  refine rp 15 (hy := (yl_move (by conv => lhs; whnf))) (h := ?_)
  refine rp 16 (hy := (yg_move (by rfl) (by conv => lhs; whnf))) (h := ?_)
  refine rp 18 (hy := (yg_move (by rfl) (by conv => lhs; whnf))) (h := ?_)
  refine rg_eff 17 (by conv => lhs; whnf) (by kernel_rfl) (fun K hK => ?_)
  refine eg_call [ptr p] (by rfl) (by kernel_rfl) (by rfl) ?_
  refine (lnext_c HL.out hS4).mono ?_
  rintro ee w5 ⟨v, rfl, rfl, hS5⟩
  refine hK _ _ (.inl rfl) ?_
  clear hK hS4
  refine rg_eff 19 (by conv => lhs; whnf) (by kernel_rfl) (fun K hK => ?_)
  refine eg_call [ptr q] (by rfl) (by kernel_rfl) (by rfl) ?_
  refine (r14next_c HL.out (hS5.pk (A := RLogRep q d L))).mono ?_
  rintro ee w6 ⟨v, rfl, rfl, hS6⟩
  refine hK _ _ (.inl rfl) ?_
  clear hK hS5
  refine rp 20 (hy := (yg_bin (by rfl) (by conv => lhs; whnf) (by conv => lhs; whnf) (by ((intro wq; go_simp); first | done | (with_reducible rfl))))) (h := ?_)
  refine rp 21 (hy := (yg_pick (by rfl) (by conv => lhs; whnf) (by conv => lhs; whnf))) (h := ?_)
  refine wpL_done (by kernel_rfl) ?_
  try simp only [List.getElem_toArray, List.getElem_cons_succ, List.getElem_cons_zero]
  try go_frame
  obtain ⟨lv, hR⟩ := RLogRep.open (hS6.pk (A := RLogRep q d L))
  obtain ⟨la, lc, rfl⟩ := sgs_sl (Sat.rd (hR.pick pick1))
  have hS7 : Sat w0 w6 (LogRep p m L :: rlogPt q d L (.slice la L.l.length lc) :: osl 84 2 (.slice la L.l.length lc) (segw L.l) :: MedRep m M :: DskRep d D :: F) := hR.sb
  clear hS6 hR hbf hbn
  go_wp2_with fail
  go_loopg [7] L.l.length (fun g iq wr => ∃ i : Nat, g = L.l.length - i ∧ i ≤ L.l.length ∧ iq = .int .i64 i ∧
    Sat w0 wr (LogRep p m L :: rlogPt q d L (.slice la L.l.length lc) :: osl 84 2 (.slice la L.l.length lc) (segw L.l) :: MedRep m M :: DskRep d D :: F))
  case atStart => exact ⟨0, rfl, Nat.zero_le _, rfl, hS7⟩
  case round =>
    obtain ⟨i, rfl, hi, rfl, hS⟩ := hrel
    clear hS7
    have e2 : World.cell? _ ⟨q, 2, none⟩ = some (.slice la L.l.length lc) := hS.cellP pick1 2 rfl
    by_cases hlt : i < L.l.length
    · have c1 : (i : Int) < (L.l.length : Int) := by omega
      have hln := Hlen.out
      have hwi : IntKind.i64.wrap ((i : Int) + 1) = (i : Int) + 1 := IntWalk.i64_in _ (by omega)
      obtain ⟨s, hs⟩ : ∃ s, L.l[i]? = some s := ⟨_, List.getElem?_eq_getElem hlt⟩
      obtain ⟨bk, off, rfl, c0, _⟩ := sgs_cells (Sat.rd (hS.pick pick2)) hs
      have HC := Lib.hid (fun (w' : World) (F' : List HProp) (h' : Sat w0 w' (osl 84 2 (.slice (some ⟨bk, off, none⟩) L.l.length lc) (segw L.l) :: F')) => (sgs_cells h'.rd hs))
      have Hlt := Lib.hid hlt
      have hby := Hby.out i s hs
      have hsz := Hsz.out i s hs
      obtain ⟨n, z⟩ := s
      dsimp only at hby hsz c0
      have Hz := Lib.hid hsz
      have hal := Hall.out (Seg.name n)
      have hb1 := lbytes_c HL.out Ok.out n (hS.sb : Sat w0 _ (LogRep p m L :: MedRep m M :: rlogPt q d L (.slice (some ⟨bk, off, none⟩) L.l.length lc) :: osl 84 2 (.slice (some ⟨bk, off, none⟩) L.l.length lc) (segw L.l) :: DskRep d D :: F))
      rw [hby] at hb1
      have Hle := Lib.hid (all_len Ok.out (Seg.name n))
      have Hal := Lib.hid hal
      clear hlt hs hby hsz hal hln
      generalize M.all (Seg.name n) = A at *
      obtain ⟨b, e⟩ := A
      dsimp only at hb1 Hle
      go_wp2_with fail
      refine hb1.mono ?_
      rintro ee w8 ⟨v, rfl, bv, rfl, hS8⟩
      clear hb1 hS c0 e2
      obtain ⟨ba, bc, rfl, _⟩ := bsl_sl hS8
      go_wp2_with fail
      have hS9 := hS8.drew
      clear hS8
      refine wpL_begin [13, 14, 15, 16, 17, 18] (fun w' => w'.cell? ⟨q, 0, none⟩ = some (ptr d) ∧ w'.cell? ⟨q, 2, none⟩ = some (.slice (some ⟨bk, off, none⟩) L.l.length lc) ∧ w'.cell? ⟨bk, off + i * 2, none⟩ = some (.int .i64 n)) (by kernel_rfl) ?_
      obtain ⟨_, _, he, c0, _⟩ := HC.out _ _ (hS9.pk (A := osl 84 2 (.slice (some ⟨bk, off, none⟩) L.l.length lc) (segw L.l)))
      cases he
      have hG : World.cell? _ ⟨q, 0, none⟩ = some (ptr d) ∧ World.cell? _ ⟨q, 2, none⟩ = some (.slice (some ⟨bk, off, none⟩) L.l.length lc) ∧ World.cell? _ ⟨bk, off + i * 2, none⟩ = some (.int .i64 n) := ⟨hS9.cellP (by first | ((repeat (first | with_reducible apply pick0 | with_reducible apply pick_there)); done) | ((repeat (first | apply pick0 | apply pick_there)); done) | fail) 0 rfl, hS9.cellP (by first | ((repeat (first | with_reducible apply pick0 | with_reducible apply pick_there)); done) | ((repeat (first | apply pick0 | apply pick_there)); done) | fail) 2 rfl, c0⟩
      refine rp 0 (hy := (yl_move (by conv => lhs; whnf))) (h := ?_)
      refine rp 1 (hy := (yl_nil (by conv => lhs; whnf))) (h := ?_)
      refine rp 2 (hy := (yl_field (by conv => lhs; whnf) (by ((intro wq; go_simp); first | done | (with_reducible rfl))))) (h := ?_)
      refine rt 3 (h := ?_)
      refine rp 4 (hy := (yl_move (by conv => lhs; whnf))) (h := ?_)
      refine rp 5 (hy := (yl_nil (by conv => lhs; whnf))) (h := ?_)
      refine rp 6 (hy := (yl_field (by conv => lhs; whnf) (by ((intro wq; go_simp); first | done | (with_reducible rfl))))) (h := ?_)
      refine rt 7 (h := ?_)
      refine rp 8 (hy := (yl_move (by conv => lhs; whnf))) (h := ?_)
      refine rp 9 (hy := (yl_index (by conv => lhs; whnf) (by conv => lhs; whnf) (by ((intro wq; go_simp); first | done | (with_reducible rfl))))) (h := ?_)
      refine rp 10 (hy := (yl_field (by conv => lhs; whnf) (by ((intro wq; go_simp); first | done | (with_reducible rfl))))) (h := ?_)
      refine rt 11 (h := ?_)
      clear hG c0
      refine rg_eff 12 (by conv => lhs; whnf) (by kernel_rfl) (fun K hK => ?_)
      (refine eff_call1 (by kernel_rfl) (by conv => lhs; whnf) ?_)
      refine (rname_c n _).mono ?_
      rintro e w3 ⟨v, rfl, rfl, rfl⟩
      refine hK _ _ (.inr (.inr rfl)) ?_
      clear hK
      have hra := rall_c (Seg.name n) Hl.out (fun i hi => HD.out.len hi) (hS9.pk (A := DskRep d D))
      rw [Hal.out] at hra
      refine rg_eff 13 (by conv => lhs; whnf) (by kernel_rfl) (fun K hK => ?_)
      (refine eff_call2 (by kernel_rfl) (by conv => lhs; whnf) (by conv => lhs; whnf) ?_)
      refine hra.mono ?_
      rintro ee w4 ⟨v, rfl, cv, rfl, hS10⟩
      refine hK _ _ (.inl rfl) ?_
      clear hK hS9 hra
      obtain ⟨ca, cc, rfl, _⟩ := bsl_sl hS10
      refine rp 14 (hy := (yl_move (by conv => lhs; whnf))) (h := ?_)
      refine rp 15 (hy := (yl_extract (by conv => lhs; whnf) (by ((intro wq; go_simp); first | done | (with_reducible rfl))))) (h := ?_)
      refine rp 16 (hy := (yl_extract (by conv => lhs; whnf) (by ((intro wq; go_simp); first | done | (with_reducible rfl))))) (h := ?_)
      refine rp 17 (hy := (yl_assign (by conv => lhs; whnf))) (h := ?_)
      refine rp 18 (hy := (yl_assign (by conv => lhs; whnf))) (h := ?_)
      refine wpL_done (by kernel_rfl) ?_
      try simp only [List.getElem_toArray, List.getElem_cons_succ, List.getElem_cons_zero]
      try go_frame
      go_wp2_with fail
      have hS11 := hS10.drew
      clear hS10
      refine wpL_begin [18, 19, 20, 21, 22, 23, 24, 25, 26, 27, 28, 29] (fun w' => w'.cell? ⟨q, 2, none⟩ = some (.slice (some ⟨bk, off, none⟩) L.l.length lc) ∧ w'.cell? ⟨bk, off + i * 2, none⟩ = some (.int .i64 n) ∧ w'.cell? ⟨bk, off + i * 2 + 1, none⟩ = some (.int .i64 z)) (by kernel_rfl) ?_
      obtain ⟨_, _, he, c0, c0'⟩ := HC.out _ _ (hS11.pk (A := osl 84 2 (.slice (some ⟨bk, off, none⟩) L.l.length lc) (segw L.l)))
      cases he
      have hG : World.cell? _ ⟨q, 2, none⟩ = some (.slice (some ⟨bk, off, none⟩) L.l.length lc) ∧ World.cell? _ ⟨bk, off + i * 2, none⟩ = some (.int .i64 n) ∧ World.cell? _ ⟨bk, off + i * 2 + 1, none⟩ = some (.int .i64 z) := ⟨hS11.cellP (by first | ((repeat (first | with_reducible apply pick0 | with_reducible apply pick_there)); done) | ((repeat (first | apply pick0 | apply pick_there)); done) | fail) 2 rfl, c0, c0'⟩
      refine rp 0 (hy := (yl_move (by conv => lhs; whnf))) (h := ?_)
      refine rp 1 (hy := (yl_move (by conv => lhs; whnf))) (h := ?_)
      refine rp 2 (hy := (yl_nil (by conv => lhs; whnf))) (h := ?_)
      refine rp 3 (hy := (yl_field (by conv => lhs; whnf) (by ((intro wq; go_simp); first | done | (with_reducible rfl))))) (h := ?_)
      refine rt 4 (h := ?_)
      refine rp 5 (hy := (yl_move (by conv => lhs; whnf))) (h := ?_)
      refine rp 6 (hy := (yl_index (by conv => lhs; whnf) (by conv => lhs; whnf) (by ((intro wq; go_simp); first | done | (with_reducible rfl))))) (h := ?_)
      refine rp 7 (hy := (yl_field (by conv => lhs; whnf) (by ((intro wq; go_simp); first | done | (with_reducible rfl))))) (h := ?_)
      refine rt 8 (h := ?_)
      refine rp 10 (hy := (yl_move (by conv => lhs; whnf))) (h := ?_)
      refine rp 11 (hy := (yl_nil (by conv => lhs; whnf))) (h := ?_)
      refine rp 12 (hy := (yl_field (by conv => lhs; whnf) (by ((intro wq; go_simp); first | done | (with_reducible rfl))))) (h := ?_)
      refine rt 13 (h := ?_)
      refine rp 14 (hy := (yl_move (by conv => lhs; whnf))) (h := ?_)
      refine rp 15 (hy := (yl_index (by conv => lhs; whnf) (by conv => lhs; whnf) (by ((intro wq; go_simp); first | done | (with_reducible rfl))))) (h := ?_)
      refine rp 16 (hy := (yl_field (by conv => lhs; whnf) (by ((intro wq; go_simp); first | done | (with_reducible rfl))))) (h := ?_)
      refine rt 17 (h := ?_)
      clear hG c0 c0'
      have hzz := lsize_c HL.out n (hS11.pk (A := LogRep p m L))
      rw [Hz.out] at hzz
      refine rg_eff 9 (by conv => lhs; whnf) (by kernel_rfl) (fun K hK => ?_)
      (refine eff_call2 (by kernel_rfl) (by conv => lhs; whnf) (by conv => lhs; whnf) ?_)
      refine hzz.mono ?_
      rintro ee w5 ⟨v, rfl, rfl, hS12⟩
      clear hzz hS11
      obtain ⟨_, _, he, c0, c0'⟩ := HC.out _ _ (hS12.pk (A := osl 84 2 (.slice (some ⟨bk, off, none⟩) L.l.length lc) (segw L.l)))
      cases he
      refine hK _ _ (.inr (.inl ⟨hS12.cellP (by first | ((repeat (first | with_reducible apply pick0 | with_reducible apply pick_there)); done) | ((repeat (first | apply pick0 | apply pick_there)); done) | fail) 2 rfl, c0, c0'⟩)) ?_
      clear hK c0 c0'
      have hbz : (z == z) = true := beq_self_eq_true _
      have hbe : (e == e) = true := beq_self_eq_true _
      refine rp 18 (hy := (yl_bin (by conv => lhs; whnf) (by conv => lhs; whnf) (by ((intro wq; go_simp); first | done | (with_reducible rfl))))) (h := ?_)
      refine rp 19 (hy := (yl_move (by conv => lhs; whnf))) (h := ?_)
      refine rp 20 (hy := (yg_move (by rfl) (by conv => lhs; whnf))) (h := ?_)
      refine rp 21 (hy := (yg_move (by rfl) (by conv => lhs; whnf))) (h := ?_)
      refine rg_eff 22 (by conv => lhs; whnf) (by kernel_rfl) (fun K hK => ?_)
      refine eg_call [.slice ba b.length bc, .slice ca b.length cc] (by rfl) (by kernel_rfl) (by rfl) ?_
      refine (same_c b (Ro.op (Ro.bsl _ _)) (Ro.op (Ro.bsl _ _)) hS12 (Nat.le_trans Hle.out (by decide))).mono ?_
      rintro ee w7 ⟨v, rfl, rfl, hS13⟩
      refine hK _ _ (.inl rfl) ?_
      clear hK hS12
      refine rp 23 (hy := (yg_un (by rfl) (by conv => lhs; whnf) (by ((intro wq; go_simp); first | done | (with_reducible rfl))))) (h := ?_)
      refine rp 24 (hy := (yg_pick (by rfl) (by conv => lhs; whnf) (by conv => lhs; whnf))) (h := ?_)
      refine rp 25 (hy := (yl_move (by conv => lhs; whnf))) (h := ?_)
      refine rp 26 (hy := (yg_move (by rfl) (by conv => lhs; whnf))) (h := ?_)
      refine rp 27 (hy := (yg_move (by rfl) (by conv => lhs; whnf))) (h := ?_)
      refine rp 28 (hy := (yg_bin (by rfl) (by conv => lhs; whnf) (by conv => lhs; whnf) (by ((intro wq; go_simp); first | done | (with_reducible rfl))))) (h := ?_)
      refine rp 29 (hy := (yg_pick (by rfl) (by conv => lhs; whnf) (by conv => lhs; whnf))) (h := ?_)
      refine wpL_done (by kernel_rfl) ?_
      try simp only [List.getElem_toArray, List.getElem_cons_succ, List.getElem_cons_zero]
      try go_frame
      go_wp2_with fail
      go_roundg (L.l.length - (i + 1))
      case measure => have := Hlt.out; omega
      case rel => exact ⟨i + 1, rfl, Nat.succ_le_of_lt Hlt.out, by first | rfl | go_num, hS13.sb⟩
    · obtain rfl : i = L.l.length := by omega
      have c1 : ¬ (L.l.length : Int) < (L.l.length : Int) := by omega
      clear hlt
      go_wp2_with fail
      have hS8 := hS.drew
      clear hS e2
      refine wpL_begin [6, 7, 8] (fun w' => w'.cell? ⟨q, 0, none⟩ = some (ptr d)) (by kernel_rfl) ?_
      have hG : World.cell? _ ⟨q, 0, none⟩ = some (ptr d) := hS8.cellP (by first | ((repeat (first | with_reducible apply pick0 | with_reducible apply pick_there)); done) | ((repeat (first | apply pick0 | apply pick_there)); done) | fail) 0 rfl
      refine rp 0 (hy := (yl_move (by conv => lhs; whnf))) (h := ?_)
      refine rp 2 (hy := (yl_move (by conv => lhs; whnf))) (h := ?_)
      refine rp 3 (hy := (yl_nil (by conv => lhs; whnf))) (h := ?_)
      refine rp 4 (hy := (yl_field (by conv => lhs; whnf) (by ((intro wq; go_simp); first | done | (with_reducible rfl))))) (h := ?_)
      refine rt 5 (h := ?_)
      clear hG
      refine rg_eff 1 (by conv => lhs; whnf) (by kernel_rfl) (fun K hK => ?_)
      (refine eff_call1 (by kernel_rfl) (by conv => lhs; whnf) ?_)
      refine (list_c Ok.out (hS8.pk (A := MedRep m M))).mono ?_
      rintro ee w3 ⟨v1, rfl, hS9, ma, mn, mc, rfl⟩
      refine hK _ _ (.inr (.inl (hS9.cellP (by first | ((repeat (first | with_reducible apply pick0 | with_reducible apply pick_there)); done) | ((repeat (first | apply pick0 | apply pick_there)); done) | fail) 0 rfl))) ?_
      clear hK hS8
      have hrl := rlist_c Hl.out (hS9.pk (A := DskRep d D))
      rw [Hlist.out] at hrl
      refine rg_eff 6 (by conv => lhs; whnf) (by kernel_rfl) (fun K hK => ?_)
      (refine eff_call1 (by kernel_rfl) (by conv => lhs; whnf) ?_)
      refine hrl.mono ?_
      rintro ee w4 ⟨v, rfl, ov, rfl, hS10⟩
      refine hK _ _ (.inl rfl) ?_
      clear hK hS9 hrl
      have hsm := strSame_c M.list M.list (fun w hw => Sat.rd (hw.pk (A := osl 9 1 (.slice ma mn mc) (strs M.list)))) (fun w hw => Sat.rd hw) hS10 (by have := Hll.out; omega)
      rw [show decide (M.list = M.list) = true from decide_eq_true rfl] at hsm
      refine rg_eff 7 (by conv => lhs; whnf) (by kernel_rfl) (fun K hK => ?_)
      (refine eff_call2 (by kernel_rfl) (by conv => lhs; whnf) (by conv => lhs; whnf) ?_)
      refine hsm.mono ?_
      rintro ee w5 ⟨v, rfl, rfl, hS11⟩
      refine hK _ _ (.inl rfl) ?_
      clear hK hS10 hsm
      refine rp 8 (hy := (yl_assign (by conv => lhs; whnf))) (h := ?_)
      refine wpL_done (by kernel_rfl) ?_
      try simp only [List.getElem_toArray, List.getElem_cons_succ, List.getElem_cons_zero]
      try go_frame
      go_wp2_with fail
      go_ret
      have hS12 : Sat w0 _ (rlogPt q d L (.slice la L.l.length lc) :: osl 84 2 (.slice la L.l.length lc) (segw L.l) :: LogRep p m L :: MedRep m M :: DskRep d D :: F) := hS11.sb
      exact ⟨.bool true, rfl, rfl, (RLogRep.shut hS12).sb⟩
end
end Go.Proofs.YtmjldaedhmipkaaGreatDoor
/- hoardlaw14.Do in memory; hoardlaw14.few. -/
namespace Go.Seg
/-- A call of a row of calls, plain. -/
structure Cal where
  kind : Int
  e : Frm.Ent
  n : Int
  p : Plc
  l : List Int
def Cal.cut (c : Cal) : Cal := ⟨c.kind, Frm.cutE 300 c.e, c.n, c.p, c.l.take 60⟩
def fewC (l : List Cal) (n : Nat) : List Cal := (l.take n).map Cal.cut
end Go.Seg
namespace Go.Proofs.YtmjldaedhmipkaaGreatDoor
open Go Go.Sl Go.Med Go.MapKept Go.RowKit
set_option linter.unusedVariables false
/-- A call of a row of calls, with its values. -/
structure SD where
  c : Seg.Cal
  dv : Value
  lv : Value
def sdL (d : SD) : List Value := .int .i64 d.c.kind :: (entL d.c.e d.dv ++ [.int .i64 d.c.n, .int .i64 d.c.p.seg, .int .i64 d.c.p.at_, .int .i64 d.c.p.size, d.lv])
def sdA (d : SD) : Array Value := (sdL d).toArray
def sdsL (ds : List SD) : List Value := ds.flatMap sdL
/-- What may be read of a call. -/
structure SDRo (w0 : World) (F : List HProp) (d : SD) : Prop where
  key : d.c.e.key.length = 32
  rd : Ro w0 F (rdsl 1 d.dv (bys d.c.e.data))
  cap : capOk d.dv
  rl : Ro w0 F (rdsl 1 d.lv (ints d.c.l))
  capl : capOk d.lv
def zeroD : SD := ⟨⟨0, Frm.zeroE, 0, Seg.Plc.zero, []⟩, .slice none 0 0, .slice none 0 0⟩
theorem zDo : zeroB Tryz.prog 47 = some (.agg (sdA zeroD)) := by kernel_rfl
theorem infoDo : (Tryz.prog.info? 47).map (·.size) = some 40 := by kernel_rfl
theorem sdL_len (d : SD) (hk : d.c.e.key.length = 32) : (sdL d).length = 40 := by
  unfold sdL
  rw [List.length_cons, List.length_append, entL_len _ _ hk]; rfl
theorem sdA_size (d : SD) (hk : d.c.e.key.length = 32) : (sdA d).size = 40 := by unfold sdA; rw [List.size_toArray, sdL_len d hk]
theorem sdL_ent (d : SD) (hk : d.c.e.key.length = 32) {j : Nat} {v : Value} (h : (entL d.c.e d.dv)[j]? = some v) : (sdL d)[1 + j]? = some v := by
  unfold sdL
  rw [Nat.add_comm, List.getElem?_cons_succ, List.getElem?_append_left (List.getElem?_eq_some_iff.1 h).1]
  exact h
theorem sdL_tail (d : SD) (hk : d.c.e.key.length = 32) (j : Nat) : (sdL d)[35 + j]? = ([.int .i64 d.c.n, .int .i64 d.c.p.seg, .int .i64 d.c.p.at_, .int .i64 d.c.p.size, d.lv] : List Value)[j]? := by
  unfold sdL
  rw [show 35 + j = 34 + j + 1 by omega, List.getElem?_cons_succ, List.getElem?_append_right (by rw [entL_len _ _ hk]; omega), entL_len _ _ hk, Nat.add_sub_cancel_left]
theorem sdA_ent (d : SD) (hk : d.c.e.key.length = 32) : ∀ j v, (entL d.c.e d.dv)[j]? = some v → (sdA d)[1 + j]? = some v := fun j v h => by
  unfold sdA; rw [List.getElem?_toArray]; exact sdL_ent d hk h
theorem sdA_l (d : SD) (hk : d.c.e.key.length = 32) : (sdA d).getD 39 undef = d.lv := by
  have := sdL_tail d hk 4
  rw [Array.getD_eq_getD_getElem?]
  unfold sdA
  rw [List.getElem?_toArray, this]; rfl
theorem puts_ent (d : SD) (hk : d.c.e.key.length = 32) (e : Frm.Ent) (dv : Value) (he : e.key.length = 32) : putsAt (sdA d) 1 (entL e dv) = sdA ⟨⟨d.c.kind, e, d.c.n, d.c.p, d.c.l⟩, dv, d.lv⟩ := by
  apply putsAt_eq
  have hz := sdA_size d hk
  rw [putsAt_list _ _ _ (by rw [entL_len _ _ he, hz]; omega), entL_len _ _ he]
  unfold sdA sdL
  simp only [List.toList_toArray]
  rw [show (1 + 34 : Nat) = 34 + 1 from rfl, List.drop_succ_cons, List.drop_append, entL_len _ _ hk, List.drop_of_length_le (by rw [entL_len _ _ hk]; omega)]
  rfl
theorem puts_l (d : SD) (hk : d.c.e.key.length = 32) (l : List Int) (lv : Value) : putsAt (sdA d) 39 [lv] = sdA ⟨⟨d.c.kind, d.c.e, d.c.n, d.c.p, l⟩, d.dv, lv⟩ := by
  apply putsAt_eq
  have hz := sdA_size d hk
  rw [putsAt_list _ _ _ (by rw [hz]; simp)]
  unfold sdA sdL
  simp only [List.toList_toArray]
  rw [show (39 : Nat) = 38 + 1 from rfl, List.take_succ_cons, List.take_append, entL_len _ _ hk, List.take_of_length_le (by rw [entL_len _ _ hk]; omega), List.drop_of_length_le (by simp only [List.length_cons, List.length_append, entL_len _ _ hk, List.length_nil]; omega)]
  simp
theorem sdsL_at {ds : List SD} (hk : ∀ d ∈ ds, d.c.e.key.length = 32) {i : Nat} {d : SD} (hi : ds[i]? = some d) {j : Nat} {y : Value} (hj : (sdL d)[j]? = some y) : (sdsL ds)[i * 40 + j]? = some y := by
  induction ds generalizing i with
  | nil => simp at hi
  | cons x ds ih =>
    have hx := sdL_len x (hk x (.head _))
    unfold sdsL at *
    rw [List.flatMap_cons]
    cases i with
    | zero =>
      obtain rfl : x = d := by simpa using hi
      rw [List.getElem?_append_left (by have := (List.getElem?_eq_some_iff.1 hj).1; omega), Nat.zero_mul, Nat.zero_add]
      exact hj
    | succ i =>
      rw [List.getElem?_append_right (by rw [hx]; omega), hx, show (i + 1) * 40 + j - 40 = i * 40 + j by omega]
      exact ih (fun d hd => hk d (.tail _ hd)) (by simpa using hi)
theorem sdsL_len {ds : List SD} (hk : ∀ d ∈ ds, d.c.e.key.length = 32) : (sdsL ds).length = 40 * ds.length := by
  unfold sdsL
  induction ds with
  | nil => rfl
  | cons x ds ih => rw [List.flatMap_cons, List.length_append, sdL_len x (hk x (.head _)), ih (fun d hd => hk d (.tail _ hd)), List.length_cons]; omega
theorem sdsL_snoc (ds : List SD) (d : SD) : sdsL (ds ++ [d]) = sdsL ds ++ (sdA d).toList := by unfold sdsL sdA; rw [List.flatMap_append]; simp
/-- The entries' bytes of calls. -/
def dataD (ds : List SD) : HProp := stars (ds.map fun d => bsl d.dv d.c.e.data)
theorem dataD_snoc (ds : List SD) (d : SD) : dataD (ds ++ [d]) = star (bsl d.dv d.c.e.data) (dataD ds) := by
  unfold dataD
  rw [List.map_append, stars_append, star_comm]
  show star (stars [bsl d.dv d.c.e.data]) _ = _
  rw [stars_one]
section
variable {w0 w : World} {L L' R F : List HProp} {b o : Nat} {ops : Array Oper} {rest : List Oper} {a : Act} {Q : Exit → Act → World → Prop}
variable {dst : Option Tmp} {t T ty : TypeId} {pos : String} {after : Array Edge} {x y : Operand} {cs : Array Value} {v : Value} {P : Program}
/-- A struct is read, its cells anywhere. -/
theorem wl_loadW (ks : List Value) (hx : a.eval x = .pointer (some ⟨b, o, none⟩)) (hc : ∀ j v, ks[j]? = some v → w.cell? ⟨b, o + j, none⟩ = some v)
    {d : TypeDesc} (hu : P.underlying ty = some d) (hd : d.isRow = true) (hi : (P.info? ty).map (·.size) = some ks.length)
    (h : wpList P ops Q rest (a.put dst (.agg ks.toArray)) w) : wpList P ops Q (⟨dst, .load ty x, t, pos, after, none⟩ :: rest) a w :=
  wpList_load_mid rfl ty x rfl b o hx ks d hc hu hd hi h
/-- A struct is stored over a whole block. -/
theorem wl_storeA (ks : Array Value) (hs : Sat w0 w L) (hx : a.eval x = .pointer (some ⟨b, 0, none⟩)) (hy : a.eval y = .agg ks) (hsz : ks.size = cs.size) (u : Upd (pt b (.cells cs T (0,0))) (pt b (.cells ks T (0,0))) L L')
    (hi : (P.info? ty).map (·.size) = some ks.size) (h1 : ks.toList.all (·.oneCell') = true)
    (hK : ∀ w', Sat w0 w' L' → wpList P ops Q rest (a.put dst undef) w') : wpList P ops Q (⟨dst, .store ty x y, t, pos, after, none⟩ :: rest) a w :=
  wl_store hs hx hy (putsAt_eq (by
    show (putsAt cs 0 ks.toList).toList = _
    rw [putsAt_list _ _ _ (by rw [Array.length_toList]; omega), List.take_zero, List.nil_append, Nat.zero_add, List.drop_of_length_le (by rw [Array.length_toList, Array.length_toList]; omega), List.append_nil])) u (by show 0 + ks.size ≤ cs.size; omega) hi h1 hK
end
theorem sdA_ones (d : SD) {a1 a2 : Option Addr} {n1 n2 c1 c2 : Nat} (h1 : d.dv = .slice a1 n1 c1) (h2 : d.lv = .slice a2 n2 c2) : (sdA d).toList.all (·.oneCell') = true := by
  have he := entA_one d.c.e a1 n1 c1
  unfold entA at he
  rw [List.toList_toArray] at he
  unfold sdA sdL
  rw [List.toList_toArray, List.all_cons, List.all_append, h1, h2, he]
  rfl
section
variable {w0 w : World} {F R : List HProp} {v bv dv x lv : Value}
theorem fewD_keys {ds es : List SD} {i : Nat} (h : es.map (·.c) = ((ds.map (·.c)).take i).map Seg.Cal.cut) (hk : ∀ p ∈ ds, p.c.e.key.length = 32) : ∀ p ∈ es, p.c.e.key.length = 32 := by
  intro p hp
  have h1 : p.c ∈ es.map (·.c) := List.mem_map.2 ⟨p, hp, rfl⟩
  rw [h, List.mem_map] at h1
  obtain ⟨x, hx, he⟩ := h1
  obtain ⟨q, hq, rfl⟩ := List.mem_map.1 (List.mem_of_mem_take hx)
  rw [← he]
  exact hk q hq
theorem rdsl_cutI {k : Nat} {l : List Int} {a : Option Addr} {n c : Nat} (h : rdsl 1 (.slice a n c) (ints l) w) : rdsl 1 (.slice a (min n k) c) (ints (l.take k)) w := by
  obtain ⟨a', n', c', he, hl, hx⟩ := h
  cases he
  have hil : ∀ l : List Int, (ints l).length = l.length := fun l => List.length_map ..
  rw [hil, Nat.mul_one] at hl
  refine ⟨a, _, c, rfl, by rw [hil, List.length_take]; omega, fun j y hj => ?_⟩
  have hj' : (ints l)[j]? = some y := by
    unfold ints at hj ⊢
    rw [List.map_take, List.getElem?_take] at hj
    split at hj
    · exact hj
    · cases hj
  exact hx j y hj'
set_option maxRecDepth 20000 in
set_option maxHeartbeats 16000000 in
theorem fewD_c (ds : List SD) (n : Nat) (hn : n ≤ 1048576) (hr : Ro w0 F (rdsl 40 lv (sdsL ds))) (he : ∀ d ∈ ds, SDRo w0 F d) (h : Sat w0 w F) :
    Calls Tryz.prog 11 #[lv, .int .i64 n] w (Rtn fun v w' => ∃ (es : List SD) (ov : Value), v = ov ∧ es.map (·.c) = Seg.fewC (ds.map (·.c)) n ∧ (∀ d ∈ es, Ro w0 F (rdsl 1 d.lv (ints d.c.l)) ∧ capOk d.lv) ∧
      Sat w0 w' (osl 47 40 ov (sdsL es) :: dataD es :: F)) := by
  obtain ⟨la, ln, lc, rfl, hl, _⟩ := hr w h
  rw [sdsL_len (fun p hp => (he p hp).key)] at hl
  obtain rfl : ln = ds.length := by omega
  have Hr := Lib.hid hr; have He := Lib.hid he; have Hn := Lib.hid hn
  clear hr he hl hn
  go_enter Tryz.func11, Tryz.ntmps11
  go_wp2_with fail
  go_loopg [5, 6] ds.length (fun g ov iq wr => ∃ (i : Nat) (es : List SD), g = ds.length - i ∧ i ≤ ds.length ∧ i ≤ n ∧ iq = .int .i64 i ∧ es.map (·.c) = ((ds.map (·.c)).take i).map Seg.Cal.cut ∧ (∀ d ∈ es, Ro w0 F (rdsl 1 d.lv (ints d.c.l)) ∧ capOk d.lv) ∧
    Sat w0 wr (osl 47 40 ov (sdsL es) :: dataD es :: F))
  case atStart => exact ⟨0, [], rfl, Nat.zero_le _, Nat.zero_le _, rfl, rfl, (fun d hd => by cases hd), Sat.osl_nil.2 (Sat.emp.2 h)⟩
  case round =>
    obtain ⟨i, es, rfl, hi, hin, rfl, hfs, hls, hS⟩ := hrel
    have Hfs := Lib.hid hfs; have Hi := Lib.hid hi; have Hin := Lib.hid hin; have Hls := Lib.hid hls
    clear h hfs hi hin hls
    by_cases hlt : i < ds.length ∧ i < n
    · obtain ⟨hl1, hl2⟩ := hlt
      have c1 : (i : Int) < (ds.length : Int) := by omega
      have c2 : (i : Int) < (n : Int) := by omega
      have hwi : IntKind.i64.wrap ((i : Int) + 1) = (i : Int) + 1 := IntWalk.i64_in _ (by have := Hn.out; omega)
      have Hl1 := Lib.hid hl1; have Hl2 := Lib.hid hl2
      have Hfk := Lib.hid (fewD_keys Hfs.out (fun p hp => (He.out p hp).key))
      clear hl1 hl2
      obtain ⟨x, hx⟩ : ∃ x, ds[i]? = some x := ⟨_, List.getElem?_eq_getElem Hl1.out⟩
      have hxe := He.out x (List.mem_of_getElem? hx)
      have hk : ∀ p ∈ ds, p.c.e.key.length = 32 := fun p hp => (He.out p hp).key
      have hcut := Lib.hid (show es.map (·.c) ++ [x.c.cut] = ((ds.map (·.c)).take (i + 1)).map Seg.Cal.cut by
        rw [Hfs.out, List.take_add_one, List.map_append, List.getElem?_map, hx]; rfl)
      have hrF : Ro w0 (osl 47 40 u5 (sdsL es) :: dataD es :: F) (rdsl 40 (.slice la ds.length lc) (sdsL ds)) := Ro.os Hr.out
      have hx0 : (sdsL ds)[i * 40 + 0]? = some (.int .i64 x.c.kind) := sdsL_at hk hx rfl
      obtain ⟨bk, off, rfl, _⟩ := rdsl_cells (hrF _ hS) hx0
      have HG := Lib.hid (show ∀ w' L, Ro w0 L (rdsl 40 (.slice (some ⟨bk, off, none⟩) ds.length lc) (sdsL ds)) → Sat w0 w' L → ∀ j v, (sdL x)[j]? = some v → w'.cell? ⟨bk, off + i * 40 + j, none⟩ = some v by
        intro w' L hL hw j v hj
        obtain ⟨bk', off', hbo, hcell⟩ := rdsl_cells (hL w' hw) hx0
        cases hbo
        have := hcell _ _ (sdsL_at hk hx hj)
        rw [← Nat.add_assoc] at this
        exact this)
      obtain ⟨⟨kind, e, xn, xp, xl⟩, dv, lv⟩ := x
      obtain ⟨hkey, hrd, hcap, hrl, hcapl⟩ := hxe
      obtain ⟨da, dn, dc, rfl, hdn, hdc⟩ := hcap
      obtain ⟨la2, ln2, lc2, rfl, hln2, hlc2⟩ := hcapl
      have hdl : dn = e.data.length := by
        obtain ⟨a', n', c', he, hl, _⟩ := hrd _ (hS.sb)
        cases he
        rw [bys_len, Nat.mul_one] at hl; exact hl.symm
      subst hdl
      have Hrd := Lib.hid hrd; have Hrl := Lib.hid hrl; have Hkey := Lib.hid hkey
      have Hones := Lib.hid (sdA_ones ⟨⟨kind, e, xn, xp, xl⟩, .slice da e.data.length dc, .slice la2 ln2 lc2⟩ rfl rfl)
      have Hsize := Lib.hid (sdA_size ⟨⟨kind, e, xn, xp, xl⟩, .slice da e.data.length dc, .slice la2 ln2 lc2⟩ hkey)
      clear hx hk hrF hx0 hrd hrl hkey
      go_wp2_with (first
        | ((with_reducible apply at_load); refine ⟨?_⟩; refine wl_loadW (b := bk) (o := off + i * 40) (sdL ⟨⟨kind, e, xn, xp, xl⟩, .slice da e.data.length dc, .slice la2 ln2 lc2⟩) (by rfl) (HG.out _ _ (Ro.os Hr.out) hS) Tryz.underlying47 rfl (by rw [sdL_len _ Hkey.out]; exact infoDo) ?_)
        | ((with_reducible apply at_alloc); refine ⟨?_⟩; refine wl_alloc zDo (by assumption) rfl ?_; intro q w1 hS1)
        | ((with_reducible apply at_store); refine ⟨?_⟩; refine wl_storeA (sdA ⟨⟨kind, e, xn, xp, xl⟩, .slice da e.data.length dc, .slice la2 ln2 lc2⟩) hS1 (cs := sdA zeroD) (by rfl) (by rfl) (Hsize.out.trans (sdA_size zeroD rfl).symm) (by first | ((repeat (first | with_reducible apply upd0 | with_reducible apply upd_there)); done) | ((repeat (first | apply upd0 | apply upd_there)); done) | fail) (by rw [Hsize.out]; exact infoDo) Hones.out ?_; intro w2 hS2)
        | ((with_reducible apply at_load); refine ⟨?_⟩; refine wl_loadN (b := q) (o := 1) (entL e (.slice da e.data.length dc)) hS2 (by rfl) (by first | ((repeat (first | with_reducible apply pick0 | with_reducible apply pick_there)); done) | ((repeat (first | apply pick0 | apply pick_there)); done) | fail) (sdA_ent _ Hkey.out) Tryz.underlying44 rfl (by rw [entL_len e _ Hkey.out]; exact infoEntSize) ?_)
        | ((with_reducible apply at_buildE); refine ⟨?_⟩; refine wl_buildE hS2 (by rfl) Hkey.out ?_; intro bN wN hN))
      refine (few_c (lv := .slice (some ⟨bN, 0, none⟩) 1 1) [(e, .slice da e.data.length dc)] 1 300 (by decide) (by decide) (ro_one Hkey.out) (fun p hp => by
        rw [List.mem_singleton] at hp
        subst hp
        exact ⟨Hkey.out, Ro.os Hrd.out, ⟨_, _, _, rfl, hdn, hdc⟩⟩) hN).mono ?_
      rintro ee w3 ⟨v, rfl, fs, hfs, hS3⟩
      obtain ⟨dv2, rfl⟩ := few_one hfs
      have hk2 : (Frm.cutE 300 e).key.length = 32 := Hkey.out
      obtain ⟨b2, c2, cs2, da2, dc2, rfl, rfl, hcs, hS4⟩ := few_open hk2 hS3
      have Hk2 := Lib.hid hk2
      have Hcut2 := Lib.hid (show (⟨kind, Frm.cutE 300 e, xn, xp, xl.take 60⟩ : Seg.Cal) = Seg.Cal.cut ⟨kind, e, xn, xp, xl⟩ from rfl)
      generalize Frm.cutE 300 e = f at *
      have Hcs := Lib.hid hcs
      have Hones2 := Lib.hid (sdA_ones ⟨⟨kind, f, xn, xp, xl⟩, .slice da2 f.data.length dc2, .slice la2 ln2 lc2⟩ rfl rfl)
      clear hcs hS3 hfs hN hS2 hS1 hS hk2 Hones
      go_wp2_with (first
        | ((with_reducible apply at_load); refine ⟨?_⟩; refine wl_loadEs (b := b2) (o := 0) (by assumption) (by rfl) (by first | ((repeat (first | with_reducible apply pick0 | with_reducible apply pick_there)); done) | ((repeat (first | apply pick0 | apply pick_there)); done) | fail) Hk2.out Hcs.out ?_)
        | ((with_reducible apply at_store); refine ⟨?_⟩; refine wl_store (b := q) (o := 1) (v := .agg (entA f (.slice da2 f.data.length dc2))) (by assumption) (by rfl) (by rfl) (puts_ent _ Hkey.out f (.slice da2 f.data.length dc2) Hk2.out) (by first | ((repeat (first | with_reducible apply upd0 | with_reducible apply upd_there)); done) | ((repeat (first | apply upd0 | apply upd_there)); done) | fail) (by rw [Hsize.out]; show 1 + (entA f _).size ≤ 40; rw [entA_size _ _ Hk2.out]; decide) (by show _ = some (entA f _).size; rw [entA_size _ _ Hk2.out]; exact infoEntSize) (entA_one _ _ _ _) ?_; intro w5 hS5)
        | (with_reducible apply at_load))
      generalize hd2 : (⟨⟨kind, f, xn, xp, xl⟩, .slice da2 f.data.length dc2, .slice la2 ln2 lc2⟩ : SD) = d2 at hS5
      have hd2k : d2.c.e.key.length = 32 := by rw [← hd2]; exact Hk2.out
      have hd2l : d2.lv = .slice la2 ln2 lc2 := by rw [← hd2]
      have Hd2k := Lib.hid hd2k
      refine ⟨?_⟩
      refine wl_load1 (b := q) (o := 39) (v := .slice la2 ln2 lc2) hS5 (by rfl) (by first | ((repeat (first | with_reducible apply pick0 | with_reducible apply pick_there)); done) | ((repeat (first | apply pick0 | apply pick_there)); done) | fail) (by rw [sdA_size _ hd2k]; decide) (by rw [sdA_l _ hd2k, hd2l]) (by kernel_rfl) ?_
      go_wp2_with fail
      have hnu := numbers_c la2 ln2 lc2 60 hln2 hlc2
      refine (hnu _).mono ?_
      rintro ee w6 ⟨v, rfl, rfl, rfl⟩
      clear hnu
      generalize hd3 : (⟨⟨kind, f, xn, xp, xl.take 60⟩, .slice da2 f.data.length dc2, .slice la2 (min ln2 60) lc2⟩ : SD) = d3
      have hput : putsAt (sdA d2) 39 [.slice la2 (min ln2 60) lc2] = sdA d3 := by rw [puts_l _ hd2k (xl.take 60), ← hd2, ← hd3]
      have hd3k : d3.c.e.key.length = 32 := by rw [← hd3]; exact Hk2.out
      have Hd3k := Lib.hid hd3k
      have Hones3 := Lib.hid (show (sdA d3).toList.all (·.oneCell') = true by rw [← hd3]; exact sdA_ones _ rfl rfl)
      have hlen : (sdsL es).length ≤ 2147483648 := by
        rw [sdsL_len Hfk.out]
        have := congrArg List.length Hfs.out
        simp only [List.length_map, List.length_take] at this
        have := Hn.out; have := Hin.out; omega
      have Hput := Lib.hid hput
      clear hput hd2l
      go_wp2_with (first
        | ((with_reducible apply at_store); refine ⟨?_⟩; refine wl_store (b := q) (o := 39) (v := .slice la2 (min ln2 60) lc2) hS5 (by rfl) (by rfl) Hput.out (by first | ((repeat (first | with_reducible apply upd0 | with_reducible apply upd_there)); done) | ((repeat (first | apply upd0 | apply upd_there)); done) | fail) (by rw [sdA_size _ Hd2k.out]; exact Nat.le_refl 40) (by kernel_rfl) (by rfl) ?_; intro w7 hS7)
        | ((with_reducible apply at_load); refine ⟨?_⟩; refine wl_loadA (b := q) hS7 (by rfl) (by first | ((repeat (first | with_reducible apply pick0 | with_reducible apply pick_there)); done) | ((repeat (first | apply pick0 | apply pick_there)); done) | fail) Tryz.underlying47 rfl (by rw [sdA_size _ Hd3k.out]; exact infoDo) ?_)
        | ((with_reducible apply at_build1); refine ⟨?_⟩; refine wl_build1 (e := 47) (sz := 40) (by' := 128) (by kernel_rfl) hS7 (by rfl) (cs := sdA d3) rfl (sdA_size _ Hd3k.out) (Nat.le_of_ble_eq_true (by rfl)) ?_; intro bN wN hN)
        | ((with_reducible apply at_append); refine ⟨?_⟩; refine wl_app 47 40 128 (by kernel_rfl) hN (by rfl) (by rfl) (by first | ((repeat (first | with_reducible apply pick0 | with_reducible apply pick_there)); done) | ((repeat (first | apply pick0 | apply pick_there)); done) | fail) (by first | ((repeat (first | with_reducible apply pick0 | with_reducible apply pick_there)); done) | ((repeat (first | apply pick0 | apply pick_there)); done) | fail) ((sdA_size _ Hd3k.out).trans (by decide)) (Nat.le_refl 1) Hones3.out hlen (by rw [sdA_size _ Hd3k.out]; decide) (by decide) rfl ?_; intro bA nA cA wA hA))
      go_roundg (ds.length - (i + 1))
      case measure => have := Hl1.out; omega
      case rel =>
        refine ⟨i + 1, es ++ [d3], rfl, Nat.succ_le_of_lt Hl1.out, Nat.succ_le_of_lt Hl2.out, by first | rfl | go_num, ?_, ?_, ?_⟩
        · rw [← hcut.out, List.map_append, ← Hcut2.out, ← hd3]; rfl
        · intro d hd
          rcases List.mem_append.1 hd with hd | hd
          · exact Hls.out d hd
          · rw [List.mem_singleton.1 hd, ← hd3]
            exact ⟨fun w hw => rdsl_cutI (Hrl.out w hw), ⟨_, _, _, rfl, Nat.le_trans (Nat.min_le_left _ _) hln2, hlc2⟩⟩
        · rw [sdsL_snoc, dataD_snoc]
          have e4 : bsl d3.dv d3.c.e.data = bsl (.slice da2 f.data.length dc2) f.data := by rw [← hd3]
          rw [e4]
          have h10 : Sat w0 wA (bsl (.slice da2 f.data.length dc2) f.data :: dataD es :: osl 47 40 (.slice (some ⟨bA, 0, none⟩) nA cA) (sdsL es ++ (sdA d3).toList) :: F) := hA.sb
          exact (Sat.star.2 h10).pick1
    · have hfin : es.map (·.c) = Seg.fewC (ds.map (·.c)) n := by
        rw [Hfs.out]
        unfold Seg.fewC
        congr 1
        have := Hi.out; have := Hin.out
        by_cases hh : i = n
        · rw [hh]
        · rw [List.take_of_length_le (by rw [List.length_map]; omega), List.take_of_length_le (by rw [List.length_map]; omega)]
      have Hfin := Lib.hid hfin
      by_cases hl1 : i < ds.length
      · have c1 : (i : Int) < (ds.length : Int) := by omega
        have c2 : ¬ (i : Int) < (n : Int) := by omega
        clear hfin hlt hl1
        go_wp2
        go_ret
        exact ⟨_, rfl, es, Hfin.out, Hls.out, hS⟩
      · have c1 : ¬ (i : Int) < (ds.length : Int) := by omega
        clear hfin hlt hl1
        go_wp2
        go_ret
        exact ⟨_, rfl, es, Hfin.out, Hls.out, hS⟩
end
end Go.Proofs.YtmjldaedhmipkaaGreatDoor
/- begin of a log without segments. -/
namespace Go.Proofs.YtmjldaedhmipkaaGreatDoor
open Go Go.Sl Go.Med Go.MapKept Go.RowKit
set_option linter.unusedVariables false
section
variable {w0 w : World} {F : List HProp} {v bv dv x lv : Value} {q p m K : Nat} {L : Seg.Log} {M M1 M2 : Med} {nm : ByteArray}
def magic : Bs := [72, 79, 65, 82, 68, 83, 69, 71]
set_option maxRecDepth 20000 in
set_option maxHeartbeats 4000000 in
theorem begin0_c (hl : L.l = []) (hon : L.on = false) (hfr : 0 ≤ L.fresh ∧ L.fresh < 1048576) (hM : M.Ok K) (hKK : K + 1 ≤ 1099511627776) (b : Bs) (hb0 : b ≠ []) (hbl : b.length ≤ 1073741824) (hr : Ro w0 F (rdsl 1 bv (bys b)))
    (hn : Seg.name 0 = nm) (hc : M.create nm = (M1, 0)) (ha : M1.append nm (magic ++ b) = (M2, 0))
    (h : Sat w0 w (LogRep p m L :: MedRep m M :: F)) :
    Calls Tryz.prog 71 #[ptr p, bv] w (Rtn fun v w' => v = .tuple #[.agg #[.int .i64 0, .int .i64 8, .int .i64 b.length], errno 0] ∧
      Sat w0 w' (LogRep p m ⟨L.limit, [(0, 8 + b.length)], true, L.fresh + 1⟩ :: MedRep m M2 :: F)) := by
  obtain ⟨lim, ll, on, fr⟩ := L
  dsimp only at hl hon hfr
  subst hl hon
  obtain ⟨lv, hR⟩ := LogRep.open h
  clear h
  obtain ⟨i, hi, hz0, hz1, hz2⟩ := info8p
  obtain ⟨ba, bn, bc, rfl, hbn⟩ := ro_len hr (A := emp) (Sat.emp.2 (hR.sel 3 [] rfl rfl))
  subst hbn
  have hA := hR.alloc (.cells #[.int .i64 0, .int .i64 0, .int .i64 0] 39)
  have hsh := shut0_c rfl hA.pick1
  have hns : nm.size ≤ 9223372036854775807 := by rw [← hn]; decide
  have hM1 : M1.Ok (K + 1) := by
    have := hM.create nm
    rw [hc] at this; exact this
  have hnx := next0_c rfl (hA.sel 4 [1, 2, 0, 3] rfl rfl)
  have Hn := Lib.hid hn; have Hc := Lib.hid hc; have Ha := Lib.hid ha; have Hfr := Lib.hid hfr
  have Hb0 := Lib.hid hb0; have Hbl := Lib.hid hbl; have Hr := Lib.hid hr; have Hns := Lib.hid hns
  clear hc ha hfr hb0 hbl hr hn hns
  go_enter Tryz.func71, Tryz.ntmps71
  go_wp2_with fail
  refine hsh.mono ?_
  rintro e w1 ⟨v, rfl, rfl, rfl⟩
  clear hsh
  generalize w.heap.size = q at *
  generalize w.alloc _ = wa at *
  go_wp2_with fail
  refine hnx.mono ?_
  rintro e w1 ⟨v, rfl, rfl, rfl⟩
  clear hnx
  have hnm := sname_c 0 hA
  rw [Hn.out] at hnm
  go_wp2_with fail
  refine hnm.mono ?_
  rintro e w2 ⟨v, rfl, rfl, hS2⟩
  clear hnm
  have hcr := create_c hM (by omega) (hS2.sel 4 [3, 0, 1, 2] rfl rfl) nm Hns.out
  rw [Hc.out] at hcr
  have c0 := hS2.pick1.cellAt 0 _ rfl
  clear hA
  go_wp2_with fail
  refine hcr.mono ?_
  rintro e w3 ⟨v, rfl, rfl, hS3⟩
  clear hcr c0
  have hS3 : Sat w0 w3 (MedRep m M1 :: pt q (.cells #[.int .i64 0, .int .i64 0, .int .i64 0] 39) :: LogRaw p m ⟨lim, [], false, fr⟩ lv ++ F) := hS3
  have c0 := hS3.pick2.cellAt 0 _ rfl
  go_wp2_with fail
  refine wpL_begin [9, 10] (fun w' => w'.cell? ⟨p, 0, none⟩ = some (ptr m)) (by kernel_rfl) ?_
  have hG := c0
  refine wpL_pure (i := 0) (v := ?_) rfl (by kernel_rfl) (fun _ _ _ h => h) (Or.inl ⟨by rfl, ?_⟩) ?_; rotate_left; focus ((intro wq; go_simp); first | done | (with_reducible rfl))
  refine wpL_pure (i := 1) (v := ?_) rfl (by kernel_rfl) (fun _ _ _ h => h) (Or.inl ⟨by rfl, ?_⟩) ?_; rotate_left; focus ((intro wq; go_simp); first | done | (with_reducible rfl))
  refine wpL_pure (i := 2) (v := ?_) rfl (by kernel_rfl) (fun _ _ _ h => h) (Or.inl ⟨by rfl, ?_⟩) ?_; rotate_left; focus ((intro wq; go_simp); first | done | (with_reducible rfl))
  refine wpL_take (i := 3) (v := ?_) rfl (by kernel_rfl) (fun _ _ _ h => h) (Or.inl ⟨by rfl, ?_⟩) (by assumption) ?_; rotate_left; focus ((intro wq hq; go_split_ands; go_simp); first | done | (with_reducible rfl))
  refine wpL_pure (i := 4) (v := ?_) rfl (by kernel_rfl) (fun _ _ _ h => h) (Or.inl ⟨by rfl, ?_⟩) ?_; rotate_left; focus ((intro wq; go_simp); first | done | (with_reducible rfl))
  refine wpL_pure (i := 7) (v := ?_) rfl (by kernel_rfl) (fun _ _ _ h => h) (Or.inl ⟨by rfl, ?_⟩) ?_; rotate_left; focus ((intro wq; go_simp); first | done | (with_reducible rfl))
  refine wpL_eff (i := 5) rfl (by kernel_rfl) (fun K hK => ?_)
  go_simp
  have hB1 := hS3.drew.alloc (.cells #[.int .u8 72, .int .u8 79, .int .u8 65, .int .u8 82, .int .u8 68, .int .u8 83, .int .u8 69, .int .u8 71] 5)
  refine hK _ _ (.inr (.inl (hB1.pick3.cellAt 0 _ rfl))) ?_
  clear hK K hG hB1
  refine wpL_eff (i := 6) rfl (by kernel_rfl) (fun K hK => ?_)
  have hcv : (convert 42 42 (.slice (some ⟨w3.heap.size, 0, none⟩) 8 8)).run Tryz.prog ((w3.alloc (.cells #[.int .u8 72, .int .u8 79, .int .u8 65, .int .u8 82, .int .u8 68, .int .u8 83, .int .u8 69, .int .u8 71] 5)).drew) = .ok (.slice (some ⟨w3.heap.size, 0, none⟩) 8 8) ((w3.alloc (.cells #[.int .u8 72, .int .u8 79, .int .u8 65, .int .u8 82, .int .u8 68, .int .u8 83, .int .u8 69, .int .u8 71] 5 (8, 9))).drew) :=
    Lib.run_convert_bytes_const (P := Tryz.prog) w3.drew 42 5 #[.int .u8 72, .int .u8 79, .int .u8 65, .int .u8 82, .int .u8 68, .int .u8 83, .int .u8 69, .int .u8 71] 8 8 Tryz.underlying42 Tryz.underlying5
  have hB := (hS3.alloc (.cells #[.int .u8 72, .int .u8 79, .int .u8 65, .int .u8 82, .int .u8 68, .int .u8 83, .int .u8 69, .int .u8 71] 5 (8, 9))).drew
  go_simp
  refine hK _ _ (.inr (.inl (hB.pick3.cellAt 0 _ rfl))) ?_
  clear hK K
  have hrd := Hr.out _ (hB.sel 5 [] rfl rfl)
  have hold : rdsl 1 (.slice (some ⟨w3.heap.size, 0, none⟩) 8 8) (bys magic) ((w3.alloc (.cells #[.int .u8 72, .int .u8 79, .int .u8 65, .int .u8 82, .int .u8 68, .int .u8 83, .int .u8 69, .int .u8 71] 5 (8, 9))).drew) := by
    refine ⟨_, 8, 8, rfl, rfl, fun j x hj => ⟨_, rfl, ?_⟩⟩
    rw [add_zero_lit]
    have hjl : j < magic.length := by
      have := (List.getElem?_eq_some_iff.1 hj).1
      rw [bys_len] at this; exact this
    have hx := (mrow_set (l := magic) hB hjl 0).1
    unfold bys at hj
    rw [List.getElem?_map, List.getElem?_eq_getElem hjl] at hj
    cases hj
    exact hx
  have hy0 : bys b ≠ [] := by
    intro h
    apply Hb0.out
    unfold bys at h
    exact List.map_eq_nil_iff.1 h
  have h63 : (bys magic).length + (bys b).length ≤ maxLen := by rw [bys_len, bys_len]; have := Hbl.out; unfold maxLen magic; simp; omega
  have hby : ((bys magic).length + (bys b).length) * i.bytes ≤ 140737488355328 := by rw [bys_len, bys_len, hz2]; have := Hbl.out; unfold magic; simp; omega
  refine wpL_eff (i := 8) rfl (by kernel_rfl) (fun K hK => ?_)
  refine step_append_fresh (w0 := w0) (xs := bys magic) (b := w3.heap.size) (n := 8) (cap := 8) (by rfl) _ _ _ (by rfl) _ i _ Tryz.underlying42 hi hz0 hz1 (by rfl) rfl (Nat.le_refl _) hold hB.drop (by rfl) (by rfl) hrd hy0 h63 hby ?_
  intro b4 n4 k4 w4 hS4
  clear hcv hrd hold hy0 h63 hby
  refine hK _ _ (.inr (.inl (hS4.pick3.cellAt 0 _ rfl))) ?_
  clear hK K
  refine wpL_eff (i := 9) rfl (by kernel_rfl) (fun K hK => ?_)
  go_simp
  have hS4 : Sat w0 w4 (bsl (.slice (some ⟨b4, 0, none⟩) n4 k4) (magic ++ b) :: MedRep m M1 :: pt q (.cells #[.int .i64 0, .int .i64 0, .int .i64 0] 39) :: LogRaw p m ⟨lim, [], false, fr⟩ lv ++ F) := by
    unfold bsl bys
    rw [List.map_append]
    exact hS4
  have hap := append_c hM1 hKK (hS4.sel 2 [1, 0] rfl rfl) nm (magic ++ b) (Ro.bsl _ _)
  rw [Ha.out] at hap
  refine hap.mono ?_
  rintro e w5 ⟨v, rfl, rfl, hS5⟩
  clear hap
  refine hK _ _ (.inl rfl) ?_
  clear hK K hS4 hB hS3
  refine wpL_pure (i := 10) (v := ?_) rfl (by kernel_rfl) (fun _ _ _ h => h) (Or.inl ⟨by rfl, ?_⟩) ?_; rotate_left; focus ((intro wq; go_simp); first | done | (with_reducible rfl))
  refine wpL_done (by kernel_rfl) ?_
  simp only [List.getElem_toArray, List.getElem_cons_succ, List.getElem_cons_zero]
  try go_frame
  have hS5 : Sat w0 w5 (MedRep m M2 :: bsl (.slice (some ⟨b4, 0, none⟩) n4 k4) (magic ++ b) :: pt q (.cells #[.int .i64 0, .int .i64 0, .int .i64 0] 39) :: LogRaw p m ⟨lim, [], false, fr⟩ lv ++ F) := hS5
  have c2 := hS5.pick3.cellAt 2 _ rfl
  have hwl : IntKind.i64.wrap (8 + (b.length : Int)) = 8 + (b.length : Int) := by rw [IntKind.wrap_i64]; have := Hbl.out; omega
  obtain ⟨ii, hii, hy0, hy1, hy2⟩ := info_parts infoSeg
  have h7 := hS5.alloc (.cells #[.int .i64 0, .int .i64 (8 + (b.length : Int))] 145)
  have hoc : ∀ u ∈ (#[.int .i64 0, .int .i64 (8 + (b.length : Int))] : Array Value).toList, u.oneCell' = true := by
    intro u hu
    simp only [List.mem_cons, List.not_mem_nil, or_false] at hu
    rcases hu with rfl | rfl <;> rfl
  have h63 : (segw []).length + 2 ≤ maxLen := by unfold maxLen segw; simp
  have hby : ((segw []).length + 2) * ii.bytes ≤ 140737488355328 := by rw [hy2]; simp [segw]
  have h8 : Sat w0 _ (osl 145 2 lv (segw []) :: logPt p m ⟨lim, [], false, fr⟩ lv :: pt q (.cells #[.int .i64 0, .int .i64 0, .int .i64 0] 39) :: MedRep m M2 :: F) := h7.sel 6 [5, 4, 3, 1] rfl rfl
  have hwf : IntKind.i64.wrap (fr + 1) = fr + 1 := by rw [IntKind.wrap_i64]; have := Hfr.out; omega
  clear hS2 hR
  go_wp2_with (first
    | (at_builtin; refine wpList_append (w0 := w0) (by rfl) _ _ _ (by rfl) _ ii _ Tryz.underlying138 hii hy0 hy1 (by rfl) (by omega) (by rfl) (by rfl) hoc h8 (rdsl_new _ _ _ 2 1 1 (by rfl)) h63 hby ?_; intro v2 w6 hS6 hne; obtain ⟨ab, an, ac, rfl⟩ := hne (by simp); clear h8 h7 hS5 c2 hoc h63 hby hne)
    | (refine wpList_stop (by rfl) ?_))
  refine ⟨?_⟩
  refine wpList_store_sat (w0 := w0) (by rfl) _ _ _ (by rfl) (b := p) 2 (.slice (some ⟨ab, 0, none⟩) an ac) (by rfl) (by rfl) (Nat.le_of_ble_eq_true (by rfl)) (by kernel_rfl) (by simp [Value.cells, Value.oneCell']) hS6.pick1 ?_
  intro w7 hS7
  clear hS6
  go_wp2_with (refine wpList_stop (by rfl) ?_)
  refine ⟨?_⟩
  refine wpList_store_sat (w0 := w0) (by rfl) _ _ _ (by rfl) (b := p) 3 (.bool true) (by rfl) (by rfl) (Nat.le_of_ble_eq_true (by rfl)) (by kernel_rfl) (by simp [Value.cells, Value.oneCell']) hS7 ?_
  intro w8 hS8
  clear hS7
  have e4 : w8.cell? ⟨p, 4, none⟩ = some (.int .i64 fr) := hS8.cellAt 4 _ rfl
  go_wp2_with (refine wpList_stop (by rfl) ?_)
  refine ⟨?_⟩
  refine wpList_store_sat (w0 := w0) (by rfl) _ _ _ (by rfl) (b := p) 4 (.int .i64 (fr + 1)) (by rfl) (by rfl) (Nat.le_of_ble_eq_true (by rfl)) (by kernel_rfl) (by simp [Value.cells, Value.oneCell']) hS8 ?_
  intro w9 hS9
  clear hS8 e4
  go_wp2_with (refine wpList_stop (by rfl) ?_)
  refine ⟨?_⟩
  refine wpList_store_sat (w0 := w0) (by rfl) _ _ _ (by rfl) (b := q) 0 (.agg #[.int .i64 0, .int .i64 8, .int .i64 b.length]) (by rfl) (by rfl) (Nat.le_of_ble_eq_true (by rfl)) (by kernel_rfl) (by simp [Value.cells, Value.oneCell']) hS9.pick2 ?_
  intro w10 hS10
  clear hS9
  have hld : (loadVar 39 ⟨q, 0, none⟩).run Tryz.prog w10 = .ok (.agg #[.int .i64 0, .int .i64 8, .int .i64 b.length]) w10 :=
    run_loadVar_mid (P := Tryz.prog) w10 q 0 39 [.int .i64 0, .int .i64 8, .int .i64 b.length] _ (fun j v hv => by rw [Nat.zero_add]; exact hS10.cellAt j v (by rw [← List.getElem?_toArray] at hv; exact hv)) Tryz.underlying39 (by rfl) (by kernel_rfl)
  go_wp2
  refine ⟨rfl, .tuple #[.agg #[.int .i64 0, .int .i64 8, .int .i64 b.length], errno 0], ?_, _, rfl, rfl, ?_⟩
  · refine (results_cell_tmp rfl _ _ _).trans ?_
    show ((loadVar 39 ⟨q, 0, none⟩).run Tryz.prog w10).andThen _ = _
    rw [hld]
    rfl
  · refine LogRep.shut (lv := .slice (some ⟨ab, 0, none⟩) an ac) ?_
    exact hS10.drop
end
end Go.Proofs.YtmjldaedhmipkaaGreatDoor
/- Append on a log without segments. -/
namespace Go.Proofs.YtmjldaedhmipkaaGreatDoor
open Go Go.Sl Go.Med Go.MapKept Go.RowKit
set_option linter.unusedVariables false
section
variable {w0 w : World} {F : List HProp} {v bv dv x lv : Value} {q p m K : Nat} {lim fr : Int} {M M1 M2 : Med} {nm : ByteArray} {b : Bs}
set_option maxRecDepth 20000 in
set_option maxHeartbeats 4000000 in
theorem append0_c (e : Frm.Ent) (hk : e.key.length = 32) (da : Option Addr) (dc : Nat) (hd : Ro w0 F (rdsl 1 (.slice da e.data.length dc) (bys e.data))) (hH : Ro w0 F Half) (hL : e.data.length ≤ 1099511627)
    (he : Frm.encode e = (b, 0)) (hfr : 0 ≤ fr ∧ fr < 1048576) (hM : M.Ok K) (hKK : K + 1 ≤ 1099511627776) (hb0 : b ≠ []) (hbl : b.length ≤ 1073741824)
    (hn : Seg.name 0 = nm) (hc : M.create nm = (M1, 0)) (ha : M1.append nm (magic ++ b) = (M2, 0))
    (h : Sat w0 w (LogRep p m ⟨lim, [], false, fr⟩ :: MedRep m M :: F)) :
    Calls Tryz.prog 17 #[ptr p, .agg (entA e (.slice da e.data.length dc))] w (Rtn fun v w' => v = .tuple #[.agg #[.int .i64 0, .int .i64 8, .int .i64 b.length], errno 0] ∧
      Sat w0 w' (LogRep p m ⟨lim, [(0, 8 + b.length)], true, fr + 1⟩ :: MedRep m M2 :: F)) := by
  obtain ⟨lv, hR⟩ := LogRep.open h
  clear h
  have hA := hR.alloc (.cells (entA e (.slice da e.data.length dc)) 44)
  have hB := hA.alloc (.cells #[.int .i64 0, .int .i64 0, .int .i64 0] 39)
  have hok := ok_c (hB.sel 3 [2, 0, 1] rfl rfl)
  have hsz := entA_size e (.slice da e.data.length dc) hk
  have hat := hB.pick1.at
  have Hat := Lib.hid hat; have Hsz := Lib.hid hsz
  have Hd := Lib.hid hd; have HH := Lib.hid hH; have Hk := Lib.hid hk; have HL := Lib.hid hL; have He := Lib.hid he
  have Hfr := Lib.hid hfr; have Hb0 := Lib.hid hb0; have Hbl := Lib.hid hbl; have Hn := Lib.hid hn; have Hc := Lib.hid hc; have Ha := Lib.hid ha
  clear hat hsz hd hH hk hL he hfr hb0 hbl hn hc ha
  go_enter Tryz.func17, Tryz.ntmps17
  go_wp2_with fail
  refine hok.mono ?_
  rintro ee w1 ⟨v, rfl, rfl, rfl⟩
  clear hok
  simp only [World.size_alloc] at hB
  generalize w.heap.size = qe at *
  generalize World.alloc _ _ = wa at *
  have hen := encode_c e Hk.out da dc (fun w hw => Hd.out w (hw.sel 5 [] rfl rfl)) (fun w hw => HH.out w (hw.sel 5 [] rfl rfl)) hB HL.out
  rw [He.out] at hen
  go_wp2_with (refine wpList_load_row (P := Tryz.prog) (by rfl) 44 _ (by rfl) _ (by rfl) _ _ (0, 0) _ Hat.out Tryz.underlying44 (by rfl) (by rw [Hsz.out]; kernel_rfl) ?_)
  refine hen.mono ?_
  rintro ee w2 ⟨v, rfl, bv, rfl, ⟨ba, bn, bc, rfl⟩, hS2⟩
  clear hen
  have c3 : w2.cell? ⟨p, 3, none⟩ = some (.bool false) := (hS2.sel 4 [3] rfl rfl).cellAt 3 _ rfl
  go_wp2_with fail
  have hS3 := hS2.drew
  have c3' : w2.drew.cell? ⟨p, 3, none⟩ = some (.bool false) := c3
  go_region
  clear c3 c3'
  have hbg := begin0_c (L := ⟨lim, [], false, fr⟩) (M := M) (M1 := M1) (M2 := M2) (nm := nm) (bv := .slice ba bn bc) rfl rfl Hfr.out hM hKK b Hb0.out Hbl.out (Ro.bsl _ _) Hn.out Hc.out Ha.out (LogRep.shut (hS3.sel 6 [3, 4, 5, 0, 1, 2] rfl rfl))
  go_wp2_with fail
  refine hbg.mono ?_
  rintro ee w4 ⟨v, rfl, rfl, hS4⟩
  clear hbg
  go_wp2_with (refine wpList_stop (by rfl) ?_)
  refine ⟨?_⟩
  refine wpList_store_sat (w0 := w0) (by rfl) _ _ _ (by rfl) (b := qe + 1) 0 (.agg #[.int .i64 0, .int .i64 8, .int .i64 b.length]) (by rfl) (by rfl) (Nat.le_of_ble_eq_true (by rfl)) (by kernel_rfl) (by simp [Value.cells, Value.oneCell']) hS4.pick3 ?_
  intro w5 hS5
  have hld : (loadVar 39 ⟨qe + 1, 0, none⟩).run Tryz.prog w5 = .ok (.agg #[.int .i64 0, .int .i64 8, .int .i64 b.length]) w5 :=
    run_loadVar_mid (P := Tryz.prog) w5 (qe + 1) 0 39 [.int .i64 0, .int .i64 8, .int .i64 b.length] _ (fun j v hv => by rw [Nat.zero_add]; exact hS5.cellAt j v (by rw [← List.getElem?_toArray] at hv; exact hv)) Tryz.underlying39 (by rfl) (by kernel_rfl)
  go_wp2
  refine ⟨rfl, .tuple #[.agg #[.int .i64 0, .int .i64 8, .int .i64 b.length], errno 0], ?_, _, rfl, rfl, ?_⟩
  · refine (results_cell_tmp rfl _ _ _).trans ?_
    show ((loadVar 39 ⟨qe + 1, 0, none⟩).run Tryz.prog w5).andThen _ = _
    rw [hld]
    rfl
  · exact hS5.sel 5 [1, 2] rfl rfl
end
end Go.Proofs.YtmjldaedhmipkaaGreatDoor
/- hoardlaw14.lives. -/
namespace Go.Proofs.YtmjldaedhmipkaaGreatDoor
open Go Go.Sl Go.Med Go.MapKept Go.RowKit
set_option linter.unusedVariables false
def comE : Frm.Ent := ⟨2, Frm.zero32, []⟩
def comB : Bs := (Frm.encode comE).1
theorem comE_enc : Frm.encode comE = (comB, 0) := by kernel_rfl
theorem comB_len : comB.length = 9 := by kernel_rfl
def liveM : Med := Med.new 1000
theorem live_create : liveM.create (Seg.name 0) = ((liveM.create (Seg.name 0)).1, 0) := by kernel_rfl
theorem live_append : (liveM.create (Seg.name 0)).1.append (Seg.name 0) (magic ++ comB) = (((liveM.create (Seg.name 0)).1.append (Seg.name 0) (magic ++ comB)).1, 0) := by kernel_rfl
theorem live_alive : Seg.alive liveM = 0 := by kernel_rfl
theorem live_fresh : Seg.fresh liveM 200 = ⟨200, [], false, 0⟩ := by kernel_rfl
section
variable {w0 w : World} {F : List HProp}
set_option maxRecDepth 20000 in
set_option maxHeartbeats 4000000 in
theorem lives_c (hH : Ro w0 F Half) (h : Sat w0 w F) :
    Calls Tryz.prog 35 #[] w (Rtn fun v w' => v = .bool true ∧ Sat w0 w' F) := by
  have hnew : Calls Tryz.prog 13 #[.int .i64 1000] w (Rtn fun v w' => ∃ m, v = .tuple #[ptr m, errno 0] ∧ Sat w0 w' (MedRep m (Med.new 1000) :: F)) := new_yes 1000 (by decide) h
  have HH := Lib.hid hH
  clear hH
  go_enter Tryz.func35, Tryz.ntmps35
  go_wp2_with fail
  refine hnew.mono ?_
  rintro e w1 ⟨v, rfl, m, rfl, hS⟩
  clear hnew
  have hop := open_c (K := 20) (Med.Ok.new 20 1000 (by decide)) 200 hS live_alive (by decide) (by decide)
  rw [show Seg.fresh (Med.new 1000) 200 = ⟨200, [], false, 0⟩ from live_fresh] at hop
  go_wp2_with fail
  refine hop.mono ?_
  rintro e w2 ⟨v, rfl, p, rfl, hS2⟩
  clear hop
  have hap := append0_c (M := liveM) (K := 20) (M1 := (liveM.create (Seg.name 0)).1) (M2 := ((liveM.create (Seg.name 0)).1.append (Seg.name 0) (magic ++ comB)).1) comE rfl none 0 (fun w _ => rdsl_nil 1 0 w) HH.out (by decide) comE_enc (by decide) (Med.Ok.new 20 1000 (by decide)) (by decide)
    (fun h => by have := comB_len; rw [h] at this; cases this) (by rw [comB_len]; decide) rfl live_create live_append hS2
  rw [comB_len] at hap
  go_wp2_with fail
  refine hap.mono ?_
  rintro e w3 ⟨v, rfl, rfl, hS3⟩
  clear hap
  go_wp2
  go_ret
  exact ⟨_, rfl, rfl, (hS3.alloc _).drop.drop.drop⟩
end
end Go.Proofs.YtmjldaedhmipkaaGreatDoor
/- The calls of layer 14 in memory: what may be read. -/
namespace Go.Proofs.YtmjldaedhmipkaaGreatDoor
open Go Go.Sl Go.Med Go.MapKept Go.RowKit
set_option linter.unusedVariables false
section
variable {w0 w : World} {F R : List HProp} {v bv dv x lv : Value}
theorem dataD_at : ∀ (es : List SD) (i : Nat) (d : SD), es[i]? = some d → ∃ G, dataD es = star (bsl d.dv d.c.e.data) G
  | [], _, _, h => by cases h
  | x :: es, 0, d, h => by
    obtain rfl : x = d := by simpa using h
    exact ⟨_, rfl⟩
  | x :: es, i + 1, d, h => by
    obtain ⟨G, hG⟩ := dataD_at es i d (by simpa using h)
    refine ⟨star (bsl x.dv x.c.e.data) G, ?_⟩
    show star (bsl x.dv x.c.e.data) (dataD es) = _
    rw [hG, star_left_comm]
/-- A call's bytes may be read. -/
theorem dataD_ro {es : List SD} {i : Nat} {d : SD} (h : es[i]? = some d) : Ro w0 (dataD es :: R) (rdsl 1 d.dv (bys d.c.e.data)) := fun w hw => by
  obtain ⟨G, hG⟩ := dataD_at es i d h
  rw [hG] at hw
  exact Sat.rd (Sat.star.1 hw)
/-- A call, in the memory of its slice. -/
theorem sds_at {es : List SD} {v : Value} {i : Nat} {d : SD} (hk : ∀ d ∈ es, d.c.e.key.length = 32) (hi : es[i]? = some d) (h : Sat w0 w (osl 47 40 v (sdsL es) :: R)) :
    ∃ bk off c, v = .slice (some ⟨bk, off, none⟩) es.length c ∧ ∀ j y, (sdL d)[j]? = some y → w.cell? ⟨bk, off + i * 40 + j, none⟩ = some y := by
  have hr := Sat.rd h
  obtain ⟨a, n, c, rfl, hl, hx⟩ := id hr
  rw [sdsL_len hk] at hl
  obtain rfl : n = es.length := by omega
  have hx0 : (sdsL es)[i * 40 + 0]? = some (.int .i64 d.c.kind) := sdsL_at hk hi rfl
  obtain ⟨bk, off, rfl, hcell⟩ := rdsl_cells hr hx0
  refine ⟨bk, off, c, rfl, fun j y hj => ?_⟩
  have := hcell _ _ (sdsL_at hk hi hj)
  rw [← Nat.add_assoc] at this
  exact this
theorem sds_len {es : List SD} {v : Value} (hk : ∀ d ∈ es, d.c.e.key.length = 32) (h : Sat w0 w (osl 47 40 v (sdsL es) :: R)) : ∃ a c, v = .slice a es.length c := by
  obtain ⟨a, n, c, rfl, hl, hx⟩ := Sat.rd h
  rw [sdsL_len hk] at hl
  obtain rfl : n = es.length := by omega
  exact ⟨a, c, rfl⟩
theorem bsz_ro {vs : List Value} {bs : List Bs} {i : Nat} {v : Value} {b : Bs} (h : vs[i]? = some v) (k : bs[i]? = some b) : Ro w0 (bsz vs bs :: R) (rdsl 1 v (bys b)) := fun w hw => by
  obtain ⟨G, hG⟩ := bsz_at vs bs i v b h k
  rw [hG] at hw
  exact Sat.rd (Sat.star.1 hw)
theorem within_mem (x lo hi : Int) (h : lo ≤ hi) : lo ≤ within x lo hi ∧ within x lo hi ≤ hi := by
  unfold within
  split
  · exact ⟨Int.le_refl _, h⟩
  · split <;> omega
theorem few_len {es : List SD} {l : List Seg.Cal} {n : Nat} (h : es.map (·.c) = Seg.fewC l n) : es.length ≤ n := by
  have := congrArg List.length h
  unfold Seg.fewC at this
  rw [List.length_map, List.length_map, List.length_take] at this
  omega
theorem few_key {es : List SD} {ds : List SD} {n : Nat} (h : es.map (·.c) = Seg.fewC (ds.map (·.c)) n) (hk : ∀ d ∈ ds, d.c.e.key.length = 32) : ∀ d ∈ es, d.c.e.key.length = 32 ∧ d.c.e.data.length ≤ 300 := by
  intro d hd
  have h1 : d.c ∈ es.map (·.c) := List.mem_map.2 ⟨d, hd, rfl⟩
  rw [h] at h1
  unfold Seg.fewC at h1
  obtain ⟨x, hx, e⟩ := List.mem_map.1 h1
  obtain ⟨y, hy, rfl⟩ := List.mem_map.1 (List.mem_of_mem_take hx)
  rw [← e]
  exact ⟨hk y hy, by show (y.c.e.data.take 300).length ≤ 300; rw [List.length_take]; omega⟩
end
end Go.Proofs.YtmjldaedhmipkaaGreatDoor
/- hoardlaw14.SegsPlays. -/
namespace Go.Seg
open Go.Med
theorem lread_key (L : Log) (M : Med) (q : Plc) : (L.read M q).1.key.length = 32 := by
  unfold Log.read
  split
  · rfl
  split
  · rfl
  split
  · rfl
  split
  · rfl
  · exact read_key _
end Go.Seg
namespace Go.Proofs.YtmjldaedhmipkaaGreatDoor
open Go Go.Sl Go.Med Go.MapKept Go.RowKit
set_option linter.unusedVariables false
section
variable {P : Program} {w0 w : World} {L L' R : List HProp} {ops : Array Oper} {rest : List Oper} {a : Act} {Q : Exit → Act → World → Prop} {dst : Option Tmp} {t ty T b o : Nat} {pos : String} {after : Array Edge} {x : Operand} {cs : Array Value} {g : Nat × Bool}
theorem pt_range (h : Sat w0 w L) (p : Pick (pt b (.cells cs T (0,0))) L R) : w.rangeAt b 0 cs.toList := fun j v hj => by
  have := h.cellP p j (by rw [← Array.getElem?_toList]; exact hj)
  rw [Nat.zero_add]; exact this
/-- A whole variable is read, whatever the guard. -/
theorem wl_loadGA (hw : Region.wanted ⟨dst, .load ty x, t, pos, after, some g⟩ (yielded ops a.tmps) = true) (hs : Sat w0 w L) (hx : a.eval x = .pointer (some ⟨b, 0, none⟩)) (p : Pick (pt b (.cells cs T (0,0))) L R)
    {d : TypeDesc} (hu : P.underlying ty = some d) (hd : d.isRow = true) (hi : (P.info? ty).map (·.size) = some cs.size)
    (h : wpList P ops Q rest (a.put dst (.agg cs)) w) : wpList P ops Q (⟨dst, .load ty x, t, pos, after, some g⟩ :: rest) a w :=
  wl_loadGm hw hx cs.toList d (pt_range hs p) hu hd (by rw [Array.length_toList]; exact hi) (by rw [Array.toArray_toList]; exact h)
end
section
variable {w0 w : World} {F R : List HProp} {v bv dv x lv : Value}
set_option maxRecDepth 20000 in
set_option maxHeartbeats 64000000 in
theorem segs_plays_c (room limit : Int) (ds : List SD) (hr : Ro w0 F (rdsl 40 lv (sdsL ds))) (hds : ∀ d ∈ ds, SDRo w0 F d) (hin : ∀ d ∈ ds, inI d.c.n ∧ inI d.c.p.at_ ∧ inI d.c.p.size ∧ ∀ i ∈ d.c.l, inI i) (hH : Ro w0 F Half) (h : Sat w0 w F) :
    Calls Tryz.prog 3 #[.int .i64 room, .int .i64 limit, lv] w (Rtn fun v w' => v = .bool true ∧ Sat w0 w' F) := by
  have HH := Lib.hid hH; have Hr := Lib.hid hr; have Hds := Lib.hid hds; have Hin := Lib.hid hin
  clear hH hr hds hin
  go_enter Tryz.func3, Tryz.ntmps3
  go_wp2_with fail
  refine (fewD_c ds 40 (by decide) Hr.out Hds.out h).mono ?_
  rintro ee w1 ⟨v, rfl, es, ov, rfl, hes, hls, hS1⟩
  have Hel := Lib.hid (few_len hes)
  have Hek := Lib.hid (few_key hes (fun d hd => (Hds.out d hd).key))
  have Hei := Lib.hid (show ∀ d ∈ es, inI d.c.n ∧ inI d.c.p.at_ ∧ inI d.c.p.size ∧ ∀ i ∈ d.c.l, inI i from fun d hd => by
    have h1 : d.c ∈ es.map (·.c) := List.mem_map.2 ⟨d, hd, rfl⟩
    rw [hes] at h1
    unfold Seg.fewC at h1
    obtain ⟨x, hx, e⟩ := List.mem_map.1 h1
    obtain ⟨y, hy, rfl⟩ := List.mem_map.1 (List.mem_of_mem_take hx)
    rw [← e]
    exact ⟨(Hin.out y hy).1, (Hin.out y hy).2.1, (Hin.out y hy).2.2.1, fun i hi => (Hin.out y hy).2.2.2 i (List.mem_of_mem_take hi)⟩)
  have Hls := Lib.hid hls
  obtain ⟨oa, oc, rfl⟩ := sds_len (fun d hd => (Hek.out d hd).1) hS1
  clear h hes hls
  go_wp2_with fail
  refine (within_c room 0 1048576 _).mono ?_
  rintro ee w4 ⟨v, rfl, rfl, rfl⟩
  have hrm := within_mem room 0 1048576 (by decide)
  generalize within room 0 1048576 = rz at *
  obtain ⟨rm, rfl⟩ := Int.eq_ofNat_of_zero_le hrm.1
  have hR : rm ≤ 16777216 := by omega
  have HR := Lib.hid hR
  clear hrm hR
  go_wp2_with fail
  refine (new_yes rm HR.out hS1).mono ?_
  rintro ee w5 ⟨v, rfl, m, rfl, hS5⟩
  go_wp2_with fail
  refine (rnew_c rm HR.out hS5).mono ?_
  rintro ee w6 ⟨v, rfl, d, rfl, hS6⟩
  clear hS5 hS1
  by_cases hlim : 128 ≤ limit ∧ limit ≤ 1048576
  rotate_left
  · have hbad : limit < 128 ∨ 1048576 < limit := by omega
    clear hlim
    have ho1 := openbad_c (K := 0) (Med.Ok.new 0 rm HR.out) limit (hS6.pk (A := MedRep m (Med.new rm))) (by rfl) hbad
    have ho2 := ropenbad_c limit hS6 rfl hbad
    have hSF : Sat w0 _ F := hS6.sb
    clear hS6 hbad
    go_wp2_with fail
    refine ho1.mono ?_
    rintro ee w7 ⟨v, rfl, rfl, rfl⟩
    go_wp2_with fail
    refine ho2.mono ?_
    rintro ee w7 ⟨v, rfl, rfl, rfl⟩
    clear ho1 ho2
    go_wp2_with fail
    go_loopg [12, 14] 0 (fun g' qv iq wr => g' = 0 ∧ qv = .pointer none ∧ iq = .int .i64 0 ∧ Sat w0 wr F)
    case atStart => exact ⟨rfl, rfl, rfl, hSF⟩
    case round =>
      obtain ⟨rfl, rfl, rfl, hS⟩ := hrel
      clear hSF
      have hlv := lives_c HH.out hS
      by_cases h0 : 0 < es.length
      · have c1 : (0 : Int) < (es.length : Int) := by omega
        go_wp2_with fail
        refine hlv.mono ?_
        rintro ee w5 ⟨v, rfl, rfl, hS5⟩
        clear hlv
        go_wp2
        go_ret
        exact ⟨.bool true, rfl, rfl, hS5⟩
      · have c1 : ¬ (0 : Int) < (es.length : Int) := by omega
        have c0 : es.length = 0 := by omega
        go_wp2_with fail
        refine hlv.mono ?_
        rintro ee w5 ⟨v, rfl, rfl, hS5⟩
        clear hlv
        go_wp2
        go_ret
        exact ⟨.bool true, rfl, rfl, hS5⟩
  have Hlim := Lib.hid hlim
  have T0 := Lib.hid (Seg.Two.first rm HR.out limit hlim.1 hlim.2)
  have hop := open_c (K := 0) (Med.Ok.new 0 rm HR.out) limit (hS6.pk (A := MedRep m (Med.new rm))) (by rfl) hlim.1 hlim.2
  clear hlim
  go_wp2_with fail
  refine hop.mono ?_
  rintro ee w7 ⟨v, rfl, p, rfl, hS7⟩
  have hrop := ropen_c T0.out.fit limit rfl Hlim.out.1 Hlim.out.2 (hS7.pk (A := DskRep d (Med.new rm)))
  clear hop hS6
  go_wp2_with fail
  refine hrop.mono ?_
  rintro ee w8 ⟨v, rfl, q, rfl, hS8⟩
  clear hrop hS7
  have hS9 : Sat w0 w8 (LogRep p m (Seg.fresh (Med.new rm) limit) :: RLogRep q d (Seg.fresh (Med.new rm) limit) :: MedRep m (Med.new rm) :: DskRep d (Med.new rm) :: osl 47 40 (.slice oa es.length oc) (sdsL es) :: dataD es :: F) := hS8.sb
  clear hS8
  generalize Seg.fresh (Med.new rm) limit = L0 at *
  generalize Med.new rm = M0 at *
  go_wp2_with fail
  go_loopg [11, 12, 14] es.length (fun g pv qv iq wr => ∃ (i p q : Nat) (L : Seg.Log) (M D : Med), g = es.length - i ∧ i ≤ es.length ∧ iq = .int .i64 i ∧ pv = ptr p ∧ qv = ptr q ∧ Seg.Two i L M D ∧
    Sat w0 wr (LogRep p m L :: RLogRep q d L :: MedRep m M :: DskRep d D :: osl 47 40 (.slice oa es.length oc) (sdsL es) :: dataD es :: F))
  case atStart => exact ⟨0, p, q, _, _, _, rfl, Nat.zero_le _, rfl, rfl, rfl, T0.out, hS9⟩
  case round =>
    obtain ⟨i, p, q, L, M, D, rfl, hi, rfl, rfl, rfl, hT, hS⟩ := hrel
    clear hS9 T0 HR
    have HT := Lib.hid hT
    have hel := Hel.out
    clear hT
    by_cases hlt : i < es.length
    rotate_left
    · obtain rfl : i = es.length := by omega
      have c1 : ¬ (es.length : Int) < (es.length : Int) := by omega
      have hlv := lives_c HH.out (hS.sb : Sat w0 _ F)
      clear hlt hS
      go_wp2_with fail
      refine hlv.mono ?_
      rintro ee w5 ⟨v, rfl, rfl, hS5⟩
      clear hlv
      go_wp2
      go_ret
      exact ⟨.bool true, rfl, rfl, hS5⟩
    have c1 : (i : Int) < (es.length : Int) := by omega
    have hwi : IntKind.i64.wrap ((i : Int) + 1) = (i : Int) + 1 := IntWalk.i64_in _ (by omega)
    have Hib := Lib.hid (show i ≤ 40 by omega)
    obtain ⟨dd, hdi⟩ : ∃ d, es[i]? = some d := ⟨_, List.getElem?_eq_getElem hlt⟩
    have Hlt := Lib.hid hlt
    have Hro := Lib.hid (fun R => dataD_ro (w0 := w0) (R := R) hdi)
    obtain ⟨bk, off, c, hov, _⟩ := sds_at (fun d hd => (Hek.out d hd).1) hdi (hS.pk (A := osl 47 40 (.slice oa es.length oc) (sdsL es)))
    cases hov
    have HC := Lib.hid (show ∀ w' R, Sat w0 w' (osl 47 40 (.slice (some ⟨bk, off, none⟩) es.length oc) (sdsL es) :: R) → ∀ j v, (sdL dd)[j]? = some v → w'.cell? ⟨bk, off + i * 40 + j, none⟩ = some v from fun w' R hw j v hj => by
      obtain ⟨bk', off', c', hov', hcells'⟩ := sds_at (fun d hd => (Hek.out d hd).1) hdi hw
      cases hov'
      exact hcells' j v hj)
    have hdk := Hek.out dd (List.mem_of_getElem? hdi)
    have Hdi := Lib.hid (Hei.out dd (List.mem_of_getElem? hdi))
    have Hdl := Lib.hid (Hls.out dd (List.mem_of_getElem? hdi))
    obtain ⟨⟨kind, xe, xn, ⟨xp1, xp2, xp3⟩, xl⟩, xdv, xlv⟩ := dd
    obtain ⟨xda, xdn, xdc, rfl, hxl, _⟩ := (Hro.out _) _ (hS.pk (A := dataD es))
    rw [bys_len, Nat.mul_one] at hxl
    dsimp only at hxl
    subst hxl
    have Hxk := Lib.hid (show xe.key.length = 32 from hdk.1)
    have Hxd := Lib.hid (show xe.data.length ≤ 300 from hdk.2)
    have HCE := Lib.hid (fun w' R (hw : Sat w0 w' (osl 47 40 (.slice (some ⟨bk, off, none⟩) es.length oc) (sdsL es) :: R)) j v (hj : (entL xe (.slice xda xe.data.length xdc))[j]? = some v) => show w'.cell? ⟨bk, off + i * 40 + 1 + j, none⟩ = some v from by
      have := HC.out w' R hw (1 + j) v (sdL_ent ⟨⟨kind, xe, xn, ⟨xp1, xp2, xp3⟩, xl⟩, .slice xda xe.data.length xdc, xlv⟩ hdk.1 hj)
      rw [← Nat.add_assoc] at this; exact this)
    have HCT := Lib.hid (fun w' R (hw : Sat w0 w' (osl 47 40 (.slice (some ⟨bk, off, none⟩) es.length oc) (sdsL es) :: R)) => show w'.cell? ⟨bk, off + i * 40 + 35, none⟩ = some (.int .i64 xn) ∧ w'.cell? ⟨bk, off + i * 40 + 39, none⟩ = some xlv ∧ ∀ j v, ([.int .i64 xp1, .int .i64 xp2, .int .i64 xp3] : List Value)[j]? = some v → w'.cell? ⟨bk, off + i * 40 + 36 + j, none⟩ = some v from ⟨HC.out w' R hw 35 _ (sdL_tail _ hdk.1 0), HC.out w' R hw 39 _ (sdL_tail _ hdk.1 4), fun j v hj => by
      rcases j with _ | _ | _ | j
      · exact HC.out w' R hw 36 v ((sdL_tail _ hdk.1 1).trans hj)
      · exact HC.out w' R hw 37 v ((sdL_tail _ hdk.1 2).trans hj)
      · exact HC.out w' R hw 38 v ((sdL_tail _ hdk.1 3).trans hj)
      · simp at hj⟩)
    have HC0 := Lib.hid (fun w' R (hw : Sat w0 w' (osl 47 40 (.slice (some ⟨bk, off, none⟩) es.length oc) (sdsL es) :: R)) => show w'.cell? ⟨bk, off + i * 40, none⟩ = some (.int .i64 kind) from HC.out w' R hw 0 (.int .i64 kind) rfl)
    clear hdk hdi hlt HC hel hi
    dsimp only at Hdi Hdl
    go_wp2_with (with_reducible apply at_alloc)
    refine ⟨?_⟩
    refine wl_alloc zPlace hS rfl ?_
    intro b17 w17 hS17
    go_wp2_with (with_reducible apply at_alloc)
    refine ⟨?_⟩
    refine wl_alloc zPlace hS17 rfl ?_
    intro b18 w18 hS18
    go_wp2_with (with_reducible apply at_alloc)
    refine ⟨?_⟩
    refine wl_allocE hS18 ?_
    intro b19 w19 hS19
    go_wp2_with (with_reducible apply at_alloc)
    refine ⟨?_⟩
    refine wl_allocE hS19 ?_
    intro b20 w20 hS20
    have hA : Sat w0 w20 (pt b17 (.cells #[.int .i64 0, .int .i64 0, .int .i64 0] 39 (0,0)) :: pt b18 (.cells #[.int .i64 0, .int .i64 0, .int .i64 0] 39 (0,0)) :: pt b19 (.cells (entA Frm.zeroE (.slice none 0 0)) 44 (0,0)) :: pt b20 (.cells (entA Frm.zeroE (.slice none 0 0)) 44 (0,0)) ::
      LogRep p m L :: RLogRep q d L :: MedRep m M :: DskRep d D :: osl 47 40 (.slice (some ⟨bk, off, none⟩) es.length oc) (sdsL es) :: dataD es :: F) := hS20.sb
    clear hS hS17 hS18 hS19 hS20
    have hO := hA.pk (A := osl 47 40 (.slice (some ⟨bk, off, none⟩) es.length oc) (sdsL es))
    have e0 := HC0.out _ _ hO
    have Hkb := Lib.hid (show i * 2000 ≤ 80000 by have := Hib.out; omega)
    have hkd : kind = 0 ∨ kind = 1 ∨ kind = 2 ∨ kind = 3 ∨ kind = 4 ∨ kind = 5 ∨ kind = 6 ∨ ((kind == 0) = false ∧ (kind == 1) = false ∧ (kind == 2) = false ∧ (kind == 3) = false ∧ (kind == 4) = false ∧ (kind == 5) = false ∧ (kind == 6) = false) := by
      simp only [beq_eq_false_iff_ne]; omega
    rcases hkd with rfl | rfl | rfl | rfl | rfl | rfl | rfl | ⟨k0, k1, k2, k3, k4, k5, k6⟩
    · as_aux_lemma =>
        have hst := HT.out.append xe Hxk.out
        have hrap := Lib.hid (fun w' R' (hr : Ro w0 R' (rdsl 1 (.slice xda xe.data.length xdc) (bys xe.data))) (hw : Sat w0 w' (RLogRep q d L :: DskRep d D :: R')) => rlappend_c xe Hxk.out xda xdc hr HT.out.log HT.out.fit (Nat.le_trans Hkb.out (by decide)) hw)
        have hap := lappend_c (w0 := w0) xe Hxk.out xda xdc (Ro.op (Hro.out _)) (Ro.os HH.out) (Nat.le_trans Hxd.out (by decide)) HT.out.log HT.out.ok (Nat.le_trans (Nat.add_le_add_right Hkb.out 4) (by decide)) (hA.sb : Sat w0 w20 (LogRep p m L :: MedRep m M :: RLogRep q d L :: DskRep d D :: pt b17 (.cells #[.int .i64 0, .int .i64 0, .int .i64 0] 39 (0,0)) :: pt b18 (.cells #[.int .i64 0, .int .i64 0, .int .i64 0] 39 (0,0)) :: pt b19 (.cells (entA Frm.zeroE (.slice none 0 0)) 44 (0,0)) :: pt b20 (.cells (entA Frm.zeroE (.slice none 0 0)) 44 (0,0)) :: osl 47 40 (.slice (some ⟨bk, off, none⟩) es.length oc) (sdsL es) :: dataD es :: F))
        generalize L.append M xe = r at *
        generalize L.rappend D xe = r2 at *
        obtain ⟨⟨L2, M2⟩, ⟨ps, pat, psz⟩, e2⟩ := r
        obtain ⟨⟨L3, D2⟩, pl3, e3⟩ := r2
        obtain ⟨hl, hres, htwo⟩ := hst
        dsimp only at hl hres htwo hap
        obtain ⟨rfl, rfl⟩ := Prod.mk.inj hres
        subst hl
        have T2 := Lib.hid htwo
        clear htwo hres HT hO
        go_wp2_with ((with_reducible apply at_load); refine ⟨?_⟩; refine wl_loadW (b := bk) (o := off + i * 40 + 1) (entL xe (.slice xda xe.data.length xdc)) (by rfl) (HCE.out _ _ (Sat.pk (A := osl 47 40 (.slice (some ⟨bk, off, none⟩) es.length oc) (sdsL es)) (by assumption))) Tryz.underlying44 rfl (by rw [entL_len xe _ Hxk.out]; exact infoEntSize) ?_)
        refine hap.mono ?_
        rintro ee w21 ⟨v, rfl, rfl, hS21⟩
        clear hap e0 hA
        go_wp2_with (first | ((with_reducible apply at_load); refine ⟨?_⟩; refine wl_loadW (b := bk) (o := off + i * 40 + 1) (entL xe (.slice xda xe.data.length xdc)) (by rfl) (HCE.out _ _ (Sat.pk (A := osl 47 40 (.slice (some ⟨bk, off, none⟩) es.length oc) (sdsL es)) (by assumption))) Tryz.underlying44 rfl (by rw [entL_len xe _ Hxk.out]; exact infoEntSize) ?_) | ((with_reducible apply at_store); refine ⟨?_⟩; refine wl_store (by assumption) (by rfl) (by conv => lhs; whnf) (by first | (simp only [putsAt, Value.cells]; (try go_frame); first | done | rfl) | rfl) (by first | ((repeat (first | with_reducible apply upd0 | with_reducible apply upd_there)); done) | ((repeat (first | apply upd0 | apply upd_there)); done) | fail) (Nat.le_of_ble_eq_true (by rfl)) (by kernel_rfl) (by rfl) ?_; intro wS hS))
        have hS22 : Sat w0 _ (RLogRep q d L :: DskRep d D :: pt b17 (.cells #[.int .i64 ps, .int .i64 pat, .int .i64 psz] 39 (0,0)) :: pt b18 (.cells #[.int .i64 0, .int .i64 0, .int .i64 0] 39 (0,0)) :: pt b19 (.cells (entA Frm.zeroE (.slice none 0 0)) 44 (0,0)) :: pt b20 (.cells (entA Frm.zeroE (.slice none 0 0)) 44 (0,0)) :: LogRep p m L3 :: MedRep m M2 :: osl 47 40 (.slice (some ⟨bk, off, none⟩) es.length oc) (sdsL es) :: dataD es :: F) := hS.sb
        clear hS hS21
        refine (hrap.out _ _ (Ro.op (Hro.out _)) hS22).mono ?_
        rintro ee w23 ⟨v, rfl, rfl, hS23⟩
        clear hrap hS22
        go_wp2_with (first | ((with_reducible apply at_store); refine ⟨?_⟩; refine wl_store (by assumption) (by rfl) (by conv => lhs; whnf) (by first | (simp only [putsAt, Value.cells]; (try go_frame); first | done | rfl) | rfl) (by first | ((repeat (first | with_reducible apply upd0 | with_reducible apply upd_there)); done) | ((repeat (first | apply upd0 | apply upd_there)); done) | fail) (Nat.le_of_ble_eq_true (by rfl)) (by kernel_rfl) (by rfl) ?_; intro wS hS) | (with_reducible apply at_loadG))
        obtain ⟨p2, rfl⟩ : ∃ x, x = p := ⟨p, rfl⟩
        obtain ⟨q2, rfl⟩ : ∃ x, x = q := ⟨q, rfl⟩
        obtain ⟨L2, rfl⟩ : ∃ x, x = L3 := ⟨L3, rfl⟩
        have hT : Sat w0 _ (bsl (.slice none 0 0) Frm.zeroE.data :: bsl (.slice none 0 0) Frm.zeroE.data :: pt b17 (.cells #[.int .i64 ps, .int .i64 pat, .int .i64 psz] 39 (0,0)) :: pt b18 (.cells #[.int .i64 ps, .int .i64 pat, .int .i64 psz] 39 (0,0)) :: pt b19 (.cells (entA Frm.zeroE (.slice none 0 0)) 44 (0,0)) :: pt b20 (.cells (entA Frm.zeroE (.slice none 0 0)) 44 (0,0)) :: LogRep p2 m L2 :: RLogRep q2 d L2 :: MedRep m M2 :: DskRep d D2 :: osl 47 40 (.slice (some ⟨bk, off, none⟩) es.length oc) (sdsL es) :: dataD es :: F) := Sat.osl_nil.2 (Sat.osl_nil.2 (hS.sb))
        clear hS hS23
        have Hyk := Lib.hid (show Frm.zeroE.key.length = 32 from rfl)
        have Hyl := Lib.hid (show Frm.zeroE.data.length ≤ 9223372036854775807 by decide)
        refine ⟨?_⟩
        refine wl_loadGA (by rfl) hT (by rfl) (by first | ((repeat (first | with_reducible apply pick0 | with_reducible apply pick_there)); done) | ((repeat (first | apply pick0 | apply pick_there)); done) | fail) Tryz.underlying39 rfl (by kernel_rfl) ?_
        go_wp2_with (with_reducible apply at_loadG)
        refine ⟨?_⟩
        refine wl_loadGA (by rfl) hT (by rfl) (by first | ((repeat (first | with_reducible apply pick0 | with_reducible apply pick_there)); done) | ((repeat (first | apply pick0 | apply pick_there)); done) | fail) Tryz.underlying39 rfl (by kernel_rfl) ?_
        go_wp2_with (with_reducible apply at_loadG)
        refine ⟨?_⟩
        refine wl_loadGA (by rfl) hT (by rfl) (by first | ((repeat (first | with_reducible apply pick0 | with_reducible apply pick_there)); done) | ((repeat (first | apply pick0 | apply pick_there)); done) | fail) Tryz.underlying44 rfl (by rw [entA_size _ _ Hyk.out]; exact infoEntSize) ?_
        go_wp2_with (with_reducible apply at_loadG)
        refine ⟨?_⟩
        refine wl_loadGA (by rfl) hT (by rfl) (by first | ((repeat (first | with_reducible apply pick0 | with_reducible apply pick_there)); done) | ((repeat (first | apply pick0 | apply pick_there)); done) | fail) Tryz.underlying44 rfl (by rw [entA_size _ _ Hyk.out]; exact infoEntSize) ?_
        go_wp2_with fail
        refine Calls.mono (sameEntry_c _ Hyk.out _ _ _ _ _ _ (Ro.op (Ro.bsl _ _)) (Ro.op (Ro.bsl _ _)) hT Hyl.out) ?_
        rintro ee w33 ⟨v, rfl, rfl, hT3⟩
        clear hT
        obtain ⟨φ, V, sd⟩ := T2.out.side
        have hal := lalike_c T2.out.log T2.out.ok T2.out.fit sd (hT3.sb : Sat w0 w33 (LogRep p2 m L2 :: RLogRep q2 d L2 :: MedRep m M2 :: DskRep d D2 :: osl 47 40 (.slice (some ⟨bk, off, none⟩) es.length oc) (sdsL es) :: dataD es :: F))
        clear hT3 sd
        go_wp2_with fail
        refine hal.mono ?_
        rintro ee w34 ⟨v, rfl, rfl, hT4⟩
        clear hal
        go_wp2_with fail
        go_roundg (es.length - (i + 1))
        case measure => have := Hlt.out; omega
        case rel => exact ⟨i + 1, p2, q2, L2, M2, D2, rfl, Nat.succ_le_of_lt Hlt.out, by first | rfl | go_num, rfl, rfl, T2.out, hT4⟩
    · as_aux_lemma =>
        have hst := HT.out.commit
        have hrap := Lib.hid (fun w' R' (hw : Sat w0 w' (RLogRep q d L :: DskRep d D :: R')) => rlcommit_c HT.out.log HT.out.fit (Nat.le_trans Hkb.out (by decide)) hw)
        have hap := lcommit_c (w0 := w0) (Ro.os HH.out) HT.out.log HT.out.ok (Nat.le_trans (Nat.add_le_add_right Hkb.out 6) (by decide)) (hA.sb : Sat w0 w20 (LogRep p m L :: MedRep m M :: RLogRep q d L :: DskRep d D :: pt b17 (.cells #[.int .i64 0, .int .i64 0, .int .i64 0] 39 (0,0)) :: pt b18 (.cells #[.int .i64 0, .int .i64 0, .int .i64 0] 39 (0,0)) :: pt b19 (.cells (entA Frm.zeroE (.slice none 0 0)) 44 (0,0)) :: pt b20 (.cells (entA Frm.zeroE (.slice none 0 0)) 44 (0,0)) :: osl 47 40 (.slice (some ⟨bk, off, none⟩) es.length oc) (sdsL es) :: dataD es :: F))
        generalize L.commit M = r at *
        generalize L.rcommit D = r2 at *
        obtain ⟨⟨L2, M2⟩, n2, e2⟩ := r
        obtain ⟨⟨L3, D2⟩, n3, e3⟩ := r2
        obtain ⟨hl, hres, htwo⟩ := hst
        dsimp only at hl hres htwo hap
        obtain ⟨rfl, rfl⟩ := Prod.mk.inj hres
        subst hl
        have T2 := Lib.hid htwo
        clear htwo hres HT hO
        go_wp2_with fail
        refine hap.mono ?_
        rintro ee w21 ⟨v, rfl, rfl, hS21⟩
        clear hap e0 hA
        have hS22 : Sat w0 _ (RLogRep q d L :: DskRep d D :: pt b17 (.cells #[.int .i64 0, .int .i64 0, .int .i64 0] 39 (0,0)) :: pt b18 (.cells #[.int .i64 0, .int .i64 0, .int .i64 0] 39 (0,0)) :: pt b19 (.cells (entA Frm.zeroE (.slice none 0 0)) 44 (0,0)) :: pt b20 (.cells (entA Frm.zeroE (.slice none 0 0)) 44 (0,0)) :: LogRep p m L3 :: MedRep m M2 :: osl 47 40 (.slice (some ⟨bk, off, none⟩) es.length oc) (sdsL es) :: dataD es :: F) := hS21.sb
        clear hS21
        go_wp2_with fail
        refine (hrap.out _ _ hS22).mono ?_
        rintro ee w23 ⟨v, rfl, rfl, hS23⟩
        clear hrap hS22
        go_wp2_with (with_reducible apply at_loadG)
        obtain ⟨p2, rfl⟩ : ∃ x, x = p := ⟨p, rfl⟩
        obtain ⟨q2, rfl⟩ : ∃ x, x = q := ⟨q, rfl⟩
        obtain ⟨L2, rfl⟩ : ∃ x, x = L3 := ⟨L3, rfl⟩
        have hT : Sat w0 _ (bsl (.slice none 0 0) Frm.zeroE.data :: bsl (.slice none 0 0) Frm.zeroE.data :: pt b17 (.cells #[.int .i64 0, .int .i64 0, .int .i64 0] 39 (0,0)) :: pt b18 (.cells #[.int .i64 0, .int .i64 0, .int .i64 0] 39 (0,0)) :: pt b19 (.cells (entA Frm.zeroE (.slice none 0 0)) 44 (0,0)) :: pt b20 (.cells (entA Frm.zeroE (.slice none 0 0)) 44 (0,0)) :: LogRep p2 m L2 :: RLogRep q2 d L2 :: MedRep m M2 :: DskRep d D2 :: osl 47 40 (.slice (some ⟨bk, off, none⟩) es.length oc) (sdsL es) :: dataD es :: F) := Sat.osl_nil.2 (Sat.osl_nil.2 (hS23.sb))
        clear hS23
        have Hyk := Lib.hid (show Frm.zeroE.key.length = 32 from rfl)
        have Hyl := Lib.hid (show Frm.zeroE.data.length ≤ 9223372036854775807 by decide)
        refine ⟨?_⟩
        refine wl_loadGA (by rfl) hT (by rfl) (by first | ((repeat (first | with_reducible apply pick0 | with_reducible apply pick_there)); done) | ((repeat (first | apply pick0 | apply pick_there)); done) | fail) Tryz.underlying39 rfl (by kernel_rfl) ?_
        go_wp2_with (with_reducible apply at_loadG)
        refine ⟨?_⟩
        refine wl_loadGA (by rfl) hT (by rfl) (by first | ((repeat (first | with_reducible apply pick0 | with_reducible apply pick_there)); done) | ((repeat (first | apply pick0 | apply pick_there)); done) | fail) Tryz.underlying39 rfl (by kernel_rfl) ?_
        go_wp2_with (with_reducible apply at_loadG)
        refine ⟨?_⟩
        refine wl_loadGA (by rfl) hT (by rfl) (by first | ((repeat (first | with_reducible apply pick0 | with_reducible apply pick_there)); done) | ((repeat (first | apply pick0 | apply pick_there)); done) | fail) Tryz.underlying44 rfl (by rw [entA_size _ _ Hyk.out]; exact infoEntSize) ?_
        go_wp2_with (with_reducible apply at_loadG)
        refine ⟨?_⟩
        refine wl_loadGA (by rfl) hT (by rfl) (by first | ((repeat (first | with_reducible apply pick0 | with_reducible apply pick_there)); done) | ((repeat (first | apply pick0 | apply pick_there)); done) | fail) Tryz.underlying44 rfl (by rw [entA_size _ _ Hyk.out]; exact infoEntSize) ?_
        go_wp2_with fail
        refine Calls.mono (sameEntry_c _ Hyk.out _ _ _ _ _ _ (Ro.op (Ro.bsl _ _)) (Ro.op (Ro.bsl _ _)) hT Hyl.out) ?_
        rintro ee w33 ⟨v, rfl, rfl, hT3⟩
        clear hT
        obtain ⟨φ, V, sd⟩ := T2.out.side
        have hal := lalike_c T2.out.log T2.out.ok T2.out.fit sd (hT3.sb : Sat w0 w33 (LogRep p2 m L2 :: RLogRep q2 d L2 :: MedRep m M2 :: DskRep d D2 :: osl 47 40 (.slice (some ⟨bk, off, none⟩) es.length oc) (sdsL es) :: dataD es :: F))
        clear hT3 sd
        go_wp2_with fail
        refine hal.mono ?_
        rintro ee w34 ⟨v, rfl, rfl, hT4⟩
        clear hal
        go_wp2_with fail
        go_roundg (es.length - (i + 1))
        case measure => have := Hlt.out; omega
        case rel => exact ⟨i + 1, p2, q2, L2, M2, D2, rfl, Nat.succ_le_of_lt Hlt.out, by first | rfl | go_num, rfl, rfl, T2.out, hT4⟩
    · as_aux_lemma =>
        have hst := HT.out.rollback (by have := Hib.out; omega)
        have hrap := Lib.hid (fun w' R' (hw : Sat w0 w' (RLogRep q d L :: DskRep d D :: R')) => rlrollback_c HT.out.log HT.out.fit (by have := HT.out.fresh; have := Hib.out; omega) hw)
        have hap := lrollback_c (w0 := w0) HT.out.log HT.out.ok (Nat.le_trans (Nat.add_le_add_right Hkb.out 1048576) (by decide)) (hA.sb : Sat w0 w20 (LogRep p m L :: MedRep m M :: RLogRep q d L :: DskRep d D :: pt b17 (.cells #[.int .i64 0, .int .i64 0, .int .i64 0] 39 (0,0)) :: pt b18 (.cells #[.int .i64 0, .int .i64 0, .int .i64 0] 39 (0,0)) :: pt b19 (.cells (entA Frm.zeroE (.slice none 0 0)) 44 (0,0)) :: pt b20 (.cells (entA Frm.zeroE (.slice none 0 0)) 44 (0,0)) :: osl 47 40 (.slice (some ⟨bk, off, none⟩) es.length oc) (sdsL es) :: dataD es :: F))
        generalize L.rollback M = r at *
        generalize L.rrollback D = r2 at *
        obtain ⟨⟨L2, M2⟩, e2⟩ := r
        obtain ⟨⟨L3, D2⟩, e3⟩ := r2
        obtain ⟨hl, hres, htwo⟩ := hst
        dsimp only at hl hres htwo hap
        subst hres
        subst hl
        have T2 := Lib.hid htwo
        clear htwo HT hO
        go_wp2_with fail
        refine hap.mono ?_
        rintro ee w21 ⟨v, rfl, rfl, hS21⟩
        clear hap e0 hA
        have hS22 : Sat w0 _ (RLogRep q d L :: DskRep d D :: pt b17 (.cells #[.int .i64 0, .int .i64 0, .int .i64 0] 39 (0,0)) :: pt b18 (.cells #[.int .i64 0, .int .i64 0, .int .i64 0] 39 (0,0)) :: pt b19 (.cells (entA Frm.zeroE (.slice none 0 0)) 44 (0,0)) :: pt b20 (.cells (entA Frm.zeroE (.slice none 0 0)) 44 (0,0)) :: LogRep p m L3 :: MedRep m M2 :: osl 47 40 (.slice (some ⟨bk, off, none⟩) es.length oc) (sdsL es) :: dataD es :: F) := hS21.sb
        clear hS21
        go_wp2_with fail
        refine (hrap.out _ _ hS22).mono ?_
        rintro ee w23 ⟨v, rfl, rfl, hS23⟩
        clear hrap hS22
        go_wp2_with (with_reducible apply at_loadG)
        obtain ⟨p2, rfl⟩ : ∃ x, x = p := ⟨p, rfl⟩
        obtain ⟨q2, rfl⟩ : ∃ x, x = q := ⟨q, rfl⟩
        obtain ⟨L2, rfl⟩ : ∃ x, x = L3 := ⟨L3, rfl⟩
        have hT : Sat w0 _ (bsl (.slice none 0 0) Frm.zeroE.data :: bsl (.slice none 0 0) Frm.zeroE.data :: pt b17 (.cells #[.int .i64 0, .int .i64 0, .int .i64 0] 39 (0,0)) :: pt b18 (.cells #[.int .i64 0, .int .i64 0, .int .i64 0] 39 (0,0)) :: pt b19 (.cells (entA Frm.zeroE (.slice none 0 0)) 44 (0,0)) :: pt b20 (.cells (entA Frm.zeroE (.slice none 0 0)) 44 (0,0)) :: LogRep p2 m L2 :: RLogRep q2 d L2 :: MedRep m M2 :: DskRep d D2 :: osl 47 40 (.slice (some ⟨bk, off, none⟩) es.length oc) (sdsL es) :: dataD es :: F) := Sat.osl_nil.2 (Sat.osl_nil.2 (hS23.sb))
        clear hS23
        have Hyk := Lib.hid (show Frm.zeroE.key.length = 32 from rfl)
        have Hyl := Lib.hid (show Frm.zeroE.data.length ≤ 9223372036854775807 by decide)
        refine ⟨?_⟩
        refine wl_loadGA (by rfl) hT (by rfl) (by first | ((repeat (first | with_reducible apply pick0 | with_reducible apply pick_there)); done) | ((repeat (first | apply pick0 | apply pick_there)); done) | fail) Tryz.underlying39 rfl (by kernel_rfl) ?_
        go_wp2_with (with_reducible apply at_loadG)
        refine ⟨?_⟩
        refine wl_loadGA (by rfl) hT (by rfl) (by first | ((repeat (first | with_reducible apply pick0 | with_reducible apply pick_there)); done) | ((repeat (first | apply pick0 | apply pick_there)); done) | fail) Tryz.underlying39 rfl (by kernel_rfl) ?_
        go_wp2_with (with_reducible apply at_loadG)
        refine ⟨?_⟩
        refine wl_loadGA (by rfl) hT (by rfl) (by first | ((repeat (first | with_reducible apply pick0 | with_reducible apply pick_there)); done) | ((repeat (first | apply pick0 | apply pick_there)); done) | fail) Tryz.underlying44 rfl (by rw [entA_size _ _ Hyk.out]; exact infoEntSize) ?_
        go_wp2_with (with_reducible apply at_loadG)
        refine ⟨?_⟩
        refine wl_loadGA (by rfl) hT (by rfl) (by first | ((repeat (first | with_reducible apply pick0 | with_reducible apply pick_there)); done) | ((repeat (first | apply pick0 | apply pick_there)); done) | fail) Tryz.underlying44 rfl (by rw [entA_size _ _ Hyk.out]; exact infoEntSize) ?_
        go_wp2_with fail
        refine Calls.mono (sameEntry_c _ Hyk.out _ _ _ _ _ _ (Ro.op (Ro.bsl _ _)) (Ro.op (Ro.bsl _ _)) hT Hyl.out) ?_
        rintro ee w33 ⟨v, rfl, rfl, hT3⟩
        clear hT
        obtain ⟨φ, V, sd⟩ := T2.out.side
        have hal := lalike_c T2.out.log T2.out.ok T2.out.fit sd (hT3.sb : Sat w0 w33 (LogRep p2 m L2 :: RLogRep q2 d L2 :: MedRep m M2 :: DskRep d D2 :: osl 47 40 (.slice (some ⟨bk, off, none⟩) es.length oc) (sdsL es) :: dataD es :: F))
        clear hT3 sd
        go_wp2_with fail
        refine hal.mono ?_
        rintro ee w34 ⟨v, rfl, rfl, hT4⟩
        clear hal
        go_wp2_with fail
        go_roundg (es.length - (i + 1))
        case measure => have := Hlt.out; omega
        case rel => exact ⟨i + 1, p2, q2, L2, M2, D2, rfl, Nat.succ_le_of_lt Hlt.out, by first | rfl | go_num, rfl, rfl, T2.out, hT4⟩
    · as_aux_lemma =>
        have hst := HT.out.remove xn
        have hrap := Lib.hid (fun w' R' (hw : Sat w0 w' (RLogRep q d L :: DskRep d D :: R')) => rlremove_c HT.out.log HT.out.fit (Nat.le_trans Hkb.out (by decide)) xn hw)
        have hap := Lib.hid (fun w' R' (hw : Sat w0 w' (LogRep p m L :: MedRep m M :: R')) => lremove_c HT.out.log HT.out.ok (Nat.le_trans Hkb.out (by decide)) xn hw)
        generalize L.remove M xn = r at *
        generalize L.rremove D xn = r2 at *
        obtain ⟨⟨L2, M2⟩, e2⟩ := r
        obtain ⟨⟨L3, D2⟩, e3⟩ := r2
        obtain ⟨hl, hres, htwo⟩ := hst
        dsimp only at hl hres htwo
        subst hres
        subst hl
        have T2 := Lib.hid htwo
        clear htwo HT hO
        go_wp2_with fail
        have hAd := hA.drew
        clear hA e0
        refine wpL_begin [13, 14, 15] (fun w' => w'.cell? ⟨bk, off + i * 40 + 35, none⟩ = some (.int .i64 xn)) (by kernel_rfl) ?_
        have hG : World.cell? _ ⟨bk, off + i * 40 + 35, none⟩ = some (.int .i64 xn) := (HCT.out _ _ (hAd.pk (A := osl 47 40 (.slice (some ⟨bk, off, none⟩) es.length oc) (sdsL es)))).1
        refine rp 0 (hy := (yl_move (by conv => lhs; whnf))) (h := ?_)
        refine rp 1 (hy := (yl_move (by conv => lhs; whnf))) (h := ?_)
        refine rp 2 (hy := (yl_move (by conv => lhs; whnf))) (h := ?_)
        refine rp 3 (hy := (yl_index (by conv => lhs; whnf) (by conv => lhs; whnf) (by ((intro wq; go_simp); first | done | (with_reducible rfl))))) (h := ?_)
        refine rp 4 (hy := (yl_field (by conv => lhs; whnf) (by ((intro wq; go_simp); first | done | (with_reducible rfl))))) (h := ?_)
        refine rt 5 (h := ?_)
        refine rp 7 (hy := (yl_move (by conv => lhs; whnf))) (h := ?_)
        refine rp 8 (hy := (yl_move (by conv => lhs; whnf))) (h := ?_)
        refine rp 9 (hy := (yl_move (by conv => lhs; whnf))) (h := ?_)
        refine rp 10 (hy := (yl_index (by conv => lhs; whnf) (by conv => lhs; whnf) (by ((intro wq; go_simp); first | done | (with_reducible rfl))))) (h := ?_)
        refine rp 11 (hy := (yl_field (by conv => lhs; whnf) (by ((intro wq; go_simp); first | done | (with_reducible rfl))))) (h := ?_)
        refine rt 12 (h := ?_)
        clear hG
        refine rg_eff 6 (by conv => lhs; whnf) (by kernel_rfl) (fun K hK => ?_)
        (refine eff_call2 (by kernel_rfl) (by conv => lhs; whnf) (by conv => lhs; whnf) ?_)
        refine (hap.out _ _ (hAd.sb : Sat w0 _ (LogRep p m L :: MedRep m M :: RLogRep q d L :: DskRep d D :: pt b17 (.cells #[.int .i64 0, .int .i64 0, .int .i64 0] 39 (0,0)) :: pt b18 (.cells #[.int .i64 0, .int .i64 0, .int .i64 0] 39 (0,0)) :: pt b19 (.cells (entA Frm.zeroE (.slice none 0 0)) 44 (0,0)) :: pt b20 (.cells (entA Frm.zeroE (.slice none 0 0)) 44 (0,0)) :: osl 47 40 (.slice (some ⟨bk, off, none⟩) es.length oc) (sdsL es) :: dataD es :: F))).mono ?_
        rintro ee w21 ⟨v, rfl, rfl, hS21⟩
        refine hK _ _ (.inr (.inl (HCT.out _ _ (hS21.pk (A := osl 47 40 (.slice (some ⟨bk, off, none⟩) es.length oc) (sdsL es)))).1)) ?_
        clear hK hap hAd
        have hS22 : Sat w0 _ (RLogRep q d L :: DskRep d D :: pt b17 (.cells #[.int .i64 0, .int .i64 0, .int .i64 0] 39 (0,0)) :: pt b18 (.cells #[.int .i64 0, .int .i64 0, .int .i64 0] 39 (0,0)) :: pt b19 (.cells (entA Frm.zeroE (.slice none 0 0)) 44 (0,0)) :: pt b20 (.cells (entA Frm.zeroE (.slice none 0 0)) 44 (0,0)) :: LogRep p m L3 :: MedRep m M2 :: osl 47 40 (.slice (some ⟨bk, off, none⟩) es.length oc) (sdsL es) :: dataD es :: F) := hS21.sb
        clear hS21
        refine rg_eff 13 (by conv => lhs; whnf) (by kernel_rfl) (fun K hK => ?_)
        (refine eff_call2 (by kernel_rfl) (by conv => lhs; whnf) (by conv => lhs; whnf) ?_)
        refine (hrap.out _ _ hS22).mono ?_
        rintro ee w23 ⟨v, rfl, rfl, hS23⟩
        refine hK _ _ (.inl rfl) ?_
        clear hK hrap hS22
        refine rp 14 (hy := (yl_assign (by conv => lhs; whnf))) (h := ?_)
        refine rp 15 (hy := (yl_assign (by conv => lhs; whnf))) (h := ?_)
        refine wpL_done (by kernel_rfl) ?_
        try simp only [List.getElem_toArray, List.getElem_cons_succ, List.getElem_cons_zero]
        try go_frame
        go_wp2_with (with_reducible apply at_loadG)
        obtain ⟨p2, rfl⟩ : ∃ x, x = p := ⟨p, rfl⟩
        obtain ⟨q2, rfl⟩ : ∃ x, x = q := ⟨q, rfl⟩
        obtain ⟨L2, rfl⟩ : ∃ x, x = L3 := ⟨L3, rfl⟩
        have hT : Sat w0 _ (bsl (.slice none 0 0) Frm.zeroE.data :: bsl (.slice none 0 0) Frm.zeroE.data :: pt b17 (.cells #[.int .i64 0, .int .i64 0, .int .i64 0] 39 (0,0)) :: pt b18 (.cells #[.int .i64 0, .int .i64 0, .int .i64 0] 39 (0,0)) :: pt b19 (.cells (entA Frm.zeroE (.slice none 0 0)) 44 (0,0)) :: pt b20 (.cells (entA Frm.zeroE (.slice none 0 0)) 44 (0,0)) :: LogRep p2 m L2 :: RLogRep q2 d L2 :: MedRep m M2 :: DskRep d D2 :: osl 47 40 (.slice (some ⟨bk, off, none⟩) es.length oc) (sdsL es) :: dataD es :: F) := Sat.osl_nil.2 (Sat.osl_nil.2 (hS23.sb))
        clear hS23
        have Hyk := Lib.hid (show Frm.zeroE.key.length = 32 from rfl)
        have Hyl := Lib.hid (show Frm.zeroE.data.length ≤ 9223372036854775807 by decide)
        refine ⟨?_⟩
        refine wl_loadGA (by rfl) hT (by rfl) (by first | ((repeat (first | with_reducible apply pick0 | with_reducible apply pick_there)); done) | ((repeat (first | apply pick0 | apply pick_there)); done) | fail) Tryz.underlying39 rfl (by kernel_rfl) ?_
        go_wp2_with (with_reducible apply at_loadG)
        refine ⟨?_⟩
        refine wl_loadGA (by rfl) hT (by rfl) (by first | ((repeat (first | with_reducible apply pick0 | with_reducible apply pick_there)); done) | ((repeat (first | apply pick0 | apply pick_there)); done) | fail) Tryz.underlying39 rfl (by kernel_rfl) ?_
        go_wp2_with (with_reducible apply at_loadG)
        refine ⟨?_⟩
        refine wl_loadGA (by rfl) hT (by rfl) (by first | ((repeat (first | with_reducible apply pick0 | with_reducible apply pick_there)); done) | ((repeat (first | apply pick0 | apply pick_there)); done) | fail) Tryz.underlying44 rfl (by rw [entA_size _ _ Hyk.out]; exact infoEntSize) ?_
        go_wp2_with (with_reducible apply at_loadG)
        refine ⟨?_⟩
        refine wl_loadGA (by rfl) hT (by rfl) (by first | ((repeat (first | with_reducible apply pick0 | with_reducible apply pick_there)); done) | ((repeat (first | apply pick0 | apply pick_there)); done) | fail) Tryz.underlying44 rfl (by rw [entA_size _ _ Hyk.out]; exact infoEntSize) ?_
        go_wp2_with fail
        refine Calls.mono (sameEntry_c _ Hyk.out _ _ _ _ _ _ (Ro.op (Ro.bsl _ _)) (Ro.op (Ro.bsl _ _)) hT Hyl.out) ?_
        rintro ee w33 ⟨v, rfl, rfl, hT3⟩
        clear hT
        obtain ⟨φ, V, sd⟩ := T2.out.side
        have hal := lalike_c T2.out.log T2.out.ok T2.out.fit sd (hT3.sb : Sat w0 w33 (LogRep p2 m L2 :: RLogRep q2 d L2 :: MedRep m M2 :: DskRep d D2 :: osl 47 40 (.slice (some ⟨bk, off, none⟩) es.length oc) (sdsL es) :: dataD es :: F))
        clear hT3 sd
        go_wp2_with fail
        refine hal.mono ?_
        rintro ee w34 ⟨v, rfl, rfl, hT4⟩
        clear hal
        go_wp2_with fail
        go_roundg (es.length - (i + 1))
        case measure => have := Hlt.out; omega
        case rel => exact ⟨i + 1, p2, q2, L2, M2, D2, rfl, Nat.succ_le_of_lt Hlt.out, by first | rfl | go_num, rfl, rfl, T2.out, hT4⟩
    · as_aux_lemma =>
        obtain ⟨hres, htwo⟩ := HT.out.sync
        have hrap := Lib.hid (fun w' R' (hw : Sat w0 w' (DskRep d D :: R')) => rsyncd_c ByteArray.empty (Nat.le_trans HT.out.fit.now (by decide)) HT.out.fit.ok.left hw)
        have hap := lsync_c (w0 := w0) HT.out.ok (hA.sb : Sat w0 w20 (LogRep p m L :: MedRep m M :: RLogRep q d L :: DskRep d D :: pt b17 (.cells #[.int .i64 0, .int .i64 0, .int .i64 0] 39 (0,0)) :: pt b18 (.cells #[.int .i64 0, .int .i64 0, .int .i64 0] 39 (0,0)) :: pt b19 (.cells (entA Frm.zeroE (.slice none 0 0)) 44 (0,0)) :: pt b20 (.cells (entA Frm.zeroE (.slice none 0 0)) 44 (0,0)) :: osl 47 40 (.slice (some ⟨bk, off, none⟩) es.length oc) (sdsL es) :: dataD es :: F))
        generalize M.syncDir = r at *
        generalize D.syncDir = r2 at *
        obtain ⟨M2, e2⟩ := r
        obtain ⟨D2, e3⟩ := r2
        dsimp only at hres htwo hap
        subst hres
        have T2 := Lib.hid htwo
        clear htwo HT hO
        go_wp2_with fail
        refine hap.mono ?_
        rintro ee w21 ⟨v, rfl, rfl, hS21⟩
        clear hap e0 hA
        have hS22 : Sat w0 _ (DskRep d D :: RLogRep q d L :: pt b17 (.cells #[.int .i64 0, .int .i64 0, .int .i64 0] 39 (0,0)) :: pt b18 (.cells #[.int .i64 0, .int .i64 0, .int .i64 0] 39 (0,0)) :: pt b19 (.cells (entA Frm.zeroE (.slice none 0 0)) 44 (0,0)) :: pt b20 (.cells (entA Frm.zeroE (.slice none 0 0)) 44 (0,0)) :: LogRep p m L :: MedRep m M2 :: osl 47 40 (.slice (some ⟨bk, off, none⟩) es.length oc) (sdsL es) :: dataD es :: F) := hS21.sb
        clear hS21
        go_wp2_with fail
        refine (hrap.out _ _ hS22).mono ?_
        rintro ee w23 ⟨v, rfl, rfl, hS23⟩
        clear hrap hS22
        go_wp2_with (with_reducible apply at_loadG)
        obtain ⟨p2, rfl⟩ : ∃ x, x = p := ⟨p, rfl⟩
        obtain ⟨q2, rfl⟩ : ∃ x, x = q := ⟨q, rfl⟩
        obtain ⟨L2, rfl⟩ : ∃ x, x = L := ⟨L, rfl⟩
        have hT : Sat w0 _ (bsl (.slice none 0 0) Frm.zeroE.data :: bsl (.slice none 0 0) Frm.zeroE.data :: pt b17 (.cells #[.int .i64 0, .int .i64 0, .int .i64 0] 39 (0,0)) :: pt b18 (.cells #[.int .i64 0, .int .i64 0, .int .i64 0] 39 (0,0)) :: pt b19 (.cells (entA Frm.zeroE (.slice none 0 0)) 44 (0,0)) :: pt b20 (.cells (entA Frm.zeroE (.slice none 0 0)) 44 (0,0)) :: LogRep p2 m L2 :: RLogRep q2 d L2 :: MedRep m M2 :: DskRep d D2 :: osl 47 40 (.slice (some ⟨bk, off, none⟩) es.length oc) (sdsL es) :: dataD es :: F) := Sat.osl_nil.2 (Sat.osl_nil.2 (hS23.sb))
        clear hS23
        have Hyk := Lib.hid (show Frm.zeroE.key.length = 32 from rfl)
        have Hyl := Lib.hid (show Frm.zeroE.data.length ≤ 9223372036854775807 by decide)
        refine ⟨?_⟩
        refine wl_loadGA (by rfl) hT (by rfl) (by first | ((repeat (first | with_reducible apply pick0 | with_reducible apply pick_there)); done) | ((repeat (first | apply pick0 | apply pick_there)); done) | fail) Tryz.underlying39 rfl (by kernel_rfl) ?_
        go_wp2_with (with_reducible apply at_loadG)
        refine ⟨?_⟩
        refine wl_loadGA (by rfl) hT (by rfl) (by first | ((repeat (first | with_reducible apply pick0 | with_reducible apply pick_there)); done) | ((repeat (first | apply pick0 | apply pick_there)); done) | fail) Tryz.underlying39 rfl (by kernel_rfl) ?_
        go_wp2_with (with_reducible apply at_loadG)
        refine ⟨?_⟩
        refine wl_loadGA (by rfl) hT (by rfl) (by first | ((repeat (first | with_reducible apply pick0 | with_reducible apply pick_there)); done) | ((repeat (first | apply pick0 | apply pick_there)); done) | fail) Tryz.underlying44 rfl (by rw [entA_size _ _ Hyk.out]; exact infoEntSize) ?_
        go_wp2_with (with_reducible apply at_loadG)
        refine ⟨?_⟩
        refine wl_loadGA (by rfl) hT (by rfl) (by first | ((repeat (first | with_reducible apply pick0 | with_reducible apply pick_there)); done) | ((repeat (first | apply pick0 | apply pick_there)); done) | fail) Tryz.underlying44 rfl (by rw [entA_size _ _ Hyk.out]; exact infoEntSize) ?_
        go_wp2_with fail
        refine Calls.mono (sameEntry_c _ Hyk.out _ _ _ _ _ _ (Ro.op (Ro.bsl _ _)) (Ro.op (Ro.bsl _ _)) hT Hyl.out) ?_
        rintro ee w33 ⟨v, rfl, rfl, hT3⟩
        clear hT
        obtain ⟨φ, V, sd⟩ := T2.out.side
        have hal := lalike_c T2.out.log T2.out.ok T2.out.fit sd (hT3.sb : Sat w0 w33 (LogRep p2 m L2 :: RLogRep q2 d L2 :: MedRep m M2 :: DskRep d D2 :: osl 47 40 (.slice (some ⟨bk, off, none⟩) es.length oc) (sdsL es) :: dataD es :: F))
        clear hT3 sd
        go_wp2_with fail
        refine hal.mono ?_
        rintro ee w34 ⟨v, rfl, rfl, hT4⟩
        clear hal
        go_wp2_with fail
        go_roundg (es.length - (i + 1))
        case measure => have := Hlt.out; omega
        case rel => exact ⟨i + 1, p2, q2, L2, M2, D2, rfl, Nat.succ_le_of_lt Hlt.out, by first | rfl | go_num, rfl, rfl, T2.out, hT4⟩
    · as_aux_lemma =>
        obtain ⟨hres, htwo⟩ := HT.out.arm xn Hdi.out.1.2
        have hrap := Lib.hid (fun w' R' (hw : Sat w0 w' (DskRep d D :: R')) => rarm_c xn hw)
        have hap := Lib.hid (fun w' R' (hw : Sat w0 w' (MedRep m M :: R')) => arm_c hw xn)
        generalize M.arm xn = r at *
        generalize D.arm xn = r2 at *
        obtain ⟨M2, e2⟩ := r
        obtain ⟨D2, e3⟩ := r2
        dsimp only at hres htwo
        subst hres
        have T2 := Lib.hid htwo
        clear htwo HT hO
        go_wp2_with fail
        have hAd := hA.drew
        clear hA e0
        refine wpL_begin [13, 14, 15] (fun w' => w'.cell? ⟨bk, off + i * 40 + 35, none⟩ = some (.int .i64 xn)) (by kernel_rfl) ?_
        have hG : World.cell? _ ⟨bk, off + i * 40 + 35, none⟩ = some (.int .i64 xn) := (HCT.out _ _ (hAd.pk (A := osl 47 40 (.slice (some ⟨bk, off, none⟩) es.length oc) (sdsL es)))).1
        refine rp 0 (hy := (yl_move (by conv => lhs; whnf))) (h := ?_)
        refine rp 1 (hy := (yl_move (by conv => lhs; whnf))) (h := ?_)
        refine rp 2 (hy := (yl_move (by conv => lhs; whnf))) (h := ?_)
        refine rp 3 (hy := (yl_index (by conv => lhs; whnf) (by conv => lhs; whnf) (by ((intro wq; go_simp); first | done | (with_reducible rfl))))) (h := ?_)
        refine rp 4 (hy := (yl_field (by conv => lhs; whnf) (by ((intro wq; go_simp); first | done | (with_reducible rfl))))) (h := ?_)
        refine rt 5 (h := ?_)
        refine rp 7 (hy := (yl_move (by conv => lhs; whnf))) (h := ?_)
        refine rp 8 (hy := (yl_move (by conv => lhs; whnf))) (h := ?_)
        refine rp 9 (hy := (yl_move (by conv => lhs; whnf))) (h := ?_)
        refine rp 10 (hy := (yl_index (by conv => lhs; whnf) (by conv => lhs; whnf) (by ((intro wq; go_simp); first | done | (with_reducible rfl))))) (h := ?_)
        refine rp 11 (hy := (yl_field (by conv => lhs; whnf) (by ((intro wq; go_simp); first | done | (with_reducible rfl))))) (h := ?_)
        refine rt 12 (h := ?_)
        clear hG
        refine rg_eff 6 (by conv => lhs; whnf) (by kernel_rfl) (fun K hK => ?_)
        (refine eff_call2 (by kernel_rfl) (by conv => lhs; whnf) (by conv => lhs; whnf) ?_)
        refine (hap.out _ _ (hAd.sb : Sat w0 _ (MedRep m M :: LogRep p m L :: RLogRep q d L :: DskRep d D :: pt b17 (.cells #[.int .i64 0, .int .i64 0, .int .i64 0] 39 (0,0)) :: pt b18 (.cells #[.int .i64 0, .int .i64 0, .int .i64 0] 39 (0,0)) :: pt b19 (.cells (entA Frm.zeroE (.slice none 0 0)) 44 (0,0)) :: pt b20 (.cells (entA Frm.zeroE (.slice none 0 0)) 44 (0,0)) :: osl 47 40 (.slice (some ⟨bk, off, none⟩) es.length oc) (sdsL es) :: dataD es :: F))).mono ?_
        rintro ee w21 ⟨v, rfl, rfl, hS21⟩
        refine hK _ _ (.inr (.inl (HCT.out _ _ (hS21.pk (A := osl 47 40 (.slice (some ⟨bk, off, none⟩) es.length oc) (sdsL es)))).1)) ?_
        clear hK hap hAd
        have hS22 : Sat w0 _ (DskRep d D :: RLogRep q d L :: pt b17 (.cells #[.int .i64 0, .int .i64 0, .int .i64 0] 39 (0,0)) :: pt b18 (.cells #[.int .i64 0, .int .i64 0, .int .i64 0] 39 (0,0)) :: pt b19 (.cells (entA Frm.zeroE (.slice none 0 0)) 44 (0,0)) :: pt b20 (.cells (entA Frm.zeroE (.slice none 0 0)) 44 (0,0)) :: LogRep p m L :: MedRep m M2 :: osl 47 40 (.slice (some ⟨bk, off, none⟩) es.length oc) (sdsL es) :: dataD es :: F) := hS21.sb
        clear hS21
        refine rg_eff 13 (by conv => lhs; whnf) (by kernel_rfl) (fun K hK => ?_)
        (refine eff_call2 (by kernel_rfl) (by conv => lhs; whnf) (by conv => lhs; whnf) ?_)
        refine (hrap.out _ _ hS22).mono ?_
        rintro ee w23 ⟨v, rfl, rfl, hS23⟩
        refine hK _ _ (.inl rfl) ?_
        clear hK hrap hS22
        refine rp 14 (hy := (yl_assign (by conv => lhs; whnf))) (h := ?_)
        refine rp 15 (hy := (yl_assign (by conv => lhs; whnf))) (h := ?_)
        refine wpL_done (by kernel_rfl) ?_
        try simp only [List.getElem_toArray, List.getElem_cons_succ, List.getElem_cons_zero]
        try go_frame
        go_wp2_with (with_reducible apply at_loadG)
        obtain ⟨p2, rfl⟩ : ∃ x, x = p := ⟨p, rfl⟩
        obtain ⟨q2, rfl⟩ : ∃ x, x = q := ⟨q, rfl⟩
        obtain ⟨L2, rfl⟩ : ∃ x, x = L := ⟨L, rfl⟩
        have hT : Sat w0 _ (bsl (.slice none 0 0) Frm.zeroE.data :: bsl (.slice none 0 0) Frm.zeroE.data :: pt b17 (.cells #[.int .i64 0, .int .i64 0, .int .i64 0] 39 (0,0)) :: pt b18 (.cells #[.int .i64 0, .int .i64 0, .int .i64 0] 39 (0,0)) :: pt b19 (.cells (entA Frm.zeroE (.slice none 0 0)) 44 (0,0)) :: pt b20 (.cells (entA Frm.zeroE (.slice none 0 0)) 44 (0,0)) :: LogRep p2 m L2 :: RLogRep q2 d L2 :: MedRep m M2 :: DskRep d D2 :: osl 47 40 (.slice (some ⟨bk, off, none⟩) es.length oc) (sdsL es) :: dataD es :: F) := Sat.osl_nil.2 (Sat.osl_nil.2 (hS23.sb))
        clear hS23
        have Hyk := Lib.hid (show Frm.zeroE.key.length = 32 from rfl)
        have Hyl := Lib.hid (show Frm.zeroE.data.length ≤ 9223372036854775807 by decide)
        refine ⟨?_⟩
        refine wl_loadGA (by rfl) hT (by rfl) (by first | ((repeat (first | with_reducible apply pick0 | with_reducible apply pick_there)); done) | ((repeat (first | apply pick0 | apply pick_there)); done) | fail) Tryz.underlying39 rfl (by kernel_rfl) ?_
        go_wp2_with (with_reducible apply at_loadG)
        refine ⟨?_⟩
        refine wl_loadGA (by rfl) hT (by rfl) (by first | ((repeat (first | with_reducible apply pick0 | with_reducible apply pick_there)); done) | ((repeat (first | apply pick0 | apply pick_there)); done) | fail) Tryz.underlying39 rfl (by kernel_rfl) ?_
        go_wp2_with (with_reducible apply at_loadG)
        refine ⟨?_⟩
        refine wl_loadGA (by rfl) hT (by rfl) (by first | ((repeat (first | with_reducible apply pick0 | with_reducible apply pick_there)); done) | ((repeat (first | apply pick0 | apply pick_there)); done) | fail) Tryz.underlying44 rfl (by rw [entA_size _ _ Hyk.out]; exact infoEntSize) ?_
        go_wp2_with (with_reducible apply at_loadG)
        refine ⟨?_⟩
        refine wl_loadGA (by rfl) hT (by rfl) (by first | ((repeat (first | with_reducible apply pick0 | with_reducible apply pick_there)); done) | ((repeat (first | apply pick0 | apply pick_there)); done) | fail) Tryz.underlying44 rfl (by rw [entA_size _ _ Hyk.out]; exact infoEntSize) ?_
        go_wp2_with fail
        refine Calls.mono (sameEntry_c _ Hyk.out _ _ _ _ _ _ (Ro.op (Ro.bsl _ _)) (Ro.op (Ro.bsl _ _)) hT Hyl.out) ?_
        rintro ee w33 ⟨v, rfl, rfl, hT3⟩
        clear hT
        obtain ⟨φ, V, sd⟩ := T2.out.side
        have hal := lalike_c T2.out.log T2.out.ok T2.out.fit sd (hT3.sb : Sat w0 w33 (LogRep p2 m L2 :: RLogRep q2 d L2 :: MedRep m M2 :: DskRep d D2 :: osl 47 40 (.slice (some ⟨bk, off, none⟩) es.length oc) (sdsL es) :: dataD es :: F))
        clear hT3 sd
        go_wp2_with fail
        refine hal.mono ?_
        rintro ee w34 ⟨v, rfl, rfl, hT4⟩
        clear hal
        go_wp2_with fail
        go_roundg (es.length - (i + 1))
        case measure => have := Hlt.out; omega
        case rel => exact ⟨i + 1, p2, q2, L2, M2, D2, rfl, Nat.succ_le_of_lt Hlt.out, by first | rfl | go_num, rfl, rfl, T2.out, hT4⟩
    · as_aux_lemma =>
        obtain ⟨htwo, hfr, hal, hoff⟩ := HT.out.crash xl limit Hlim.out.1 Hlim.out.2
        have hrap := Lib.hid (fun w' R' (hr : Ro w0 R' (rdsl 1 xlv (ints xl))) (hw : Sat w0 w' (DskRep d D :: R')) => rcrash_c xl hr HT.out.fit.ok (Nat.le_trans Hkb.out (by decide)) hw)
        have hap := crash_c (w0 := w0) HT.out.ok (Nat.le_trans Hkb.out (by decide)) (hA.sb : Sat w0 w20 (MedRep m M :: DskRep d D :: pt b17 (.cells #[.int .i64 0, .int .i64 0, .int .i64 0] 39 (0,0)) :: pt b18 (.cells #[.int .i64 0, .int .i64 0, .int .i64 0] 39 (0,0)) :: pt b19 (.cells (entA Frm.zeroE (.slice none 0 0)) 44 (0,0)) :: pt b20 (.cells (entA Frm.zeroE (.slice none 0 0)) 44 (0,0)) :: osl 47 40 (.slice (some ⟨bk, off, none⟩) es.length oc) (sdsL es) :: dataD es :: F)) xl (Ro.os Hdl.out.1) Hdl.out.2 Hdi.out.2.2.2
        have hro := Lib.hid (fun w' R' (hw : Sat w0 w' (DskRep d (D.rcrash xl) :: R')) => ropen_c htwo.fit limit hoff Hlim.out.1 Hlim.out.2 hw)
        have hop := Lib.hid (fun w' R' (hw : Sat w0 w' (MedRep m (M.crash xl) :: R')) => open_c htwo.ok limit hw hal Hlim.out.1 Hlim.out.2)
        rw [hfr] at hro
        generalize M.crash xl = M2 at *
        generalize D.rcrash xl = D2 at *
        generalize Seg.fresh M2 limit = L2 at *
        have T2 := Lib.hid htwo
        have el := (HCT.out _ _ hO).2.1
        clear htwo HT hO hfr hal hoff
        go_wp2_with fail
        refine hap.mono ?_
        rintro ee w21 ⟨v, rfl, hS21⟩
        clear hap e0 hA el
        have hS22 : Sat w0 _ (DskRep d D :: pt b17 (.cells #[.int .i64 0, .int .i64 0, .int .i64 0] 39 (0,0)) :: pt b18 (.cells #[.int .i64 0, .int .i64 0, .int .i64 0] 39 (0,0)) :: pt b19 (.cells (entA Frm.zeroE (.slice none 0 0)) 44 (0,0)) :: pt b20 (.cells (entA Frm.zeroE (.slice none 0 0)) 44 (0,0)) :: MedRep m M2 :: osl 47 40 (.slice (some ⟨bk, off, none⟩) es.length oc) (sdsL es) :: dataD es :: F) := hS21.sb
        have el := (HCT.out _ _ (hS22.pk (A := osl 47 40 (.slice (some ⟨bk, off, none⟩) es.length oc) (sdsL es)))).2.1
        clear hS21
        go_wp2_with fail
        refine (hrap.out _ _ (Ro.os Hdl.out.1) hS22).mono ?_
        rintro ee w23 ⟨v, rfl, hS23⟩
        clear hrap hS22 el
        have hS24 : Sat w0 _ (MedRep m M2 :: DskRep d D2 :: pt b17 (.cells #[.int .i64 0, .int .i64 0, .int .i64 0] 39 (0,0)) :: pt b18 (.cells #[.int .i64 0, .int .i64 0, .int .i64 0] 39 (0,0)) :: pt b19 (.cells (entA Frm.zeroE (.slice none 0 0)) 44 (0,0)) :: pt b20 (.cells (entA Frm.zeroE (.slice none 0 0)) 44 (0,0)) :: osl 47 40 (.slice (some ⟨bk, off, none⟩) es.length oc) (sdsL es) :: dataD es :: F) := hS23.sb
        clear hS23
        go_wp2_with fail
        refine (hop.out _ _ hS24).mono ?_
        rintro ee w25 ⟨v, rfl, p2, rfl, hS25⟩
        clear hop hS24
        have hS26 : Sat w0 _ (DskRep d D2 :: LogRep p2 m L2 :: MedRep m M2 :: pt b17 (.cells #[.int .i64 0, .int .i64 0, .int .i64 0] 39 (0,0)) :: pt b18 (.cells #[.int .i64 0, .int .i64 0, .int .i64 0] 39 (0,0)) :: pt b19 (.cells (entA Frm.zeroE (.slice none 0 0)) 44 (0,0)) :: pt b20 (.cells (entA Frm.zeroE (.slice none 0 0)) 44 (0,0)) :: osl 47 40 (.slice (some ⟨bk, off, none⟩) es.length oc) (sdsL es) :: dataD es :: F) := hS25.sb
        clear hS25
        go_wp2_with fail
        refine (hro.out _ _ hS26).mono ?_
        rintro ee w27 ⟨v, rfl, q2, rfl, hS27⟩
        clear hro hS26
        go_wp2_with (with_reducible apply at_loadG)
        have hT : Sat w0 _ (bsl (.slice none 0 0) Frm.zeroE.data :: bsl (.slice none 0 0) Frm.zeroE.data :: pt b17 (.cells #[.int .i64 0, .int .i64 0, .int .i64 0] 39 (0,0)) :: pt b18 (.cells #[.int .i64 0, .int .i64 0, .int .i64 0] 39 (0,0)) :: pt b19 (.cells (entA Frm.zeroE (.slice none 0 0)) 44 (0,0)) :: pt b20 (.cells (entA Frm.zeroE (.slice none 0 0)) 44 (0,0)) :: LogRep p2 m L2 :: RLogRep q2 d L2 :: MedRep m M2 :: DskRep d D2 :: osl 47 40 (.slice (some ⟨bk, off, none⟩) es.length oc) (sdsL es) :: dataD es :: F) := Sat.osl_nil.2 (Sat.osl_nil.2 (hS27.sb))
        clear hS27
        have Hyk := Lib.hid (show Frm.zeroE.key.length = 32 from rfl)
        have Hyl := Lib.hid (show Frm.zeroE.data.length ≤ 9223372036854775807 by decide)
        refine ⟨?_⟩
        refine wl_loadGA (by rfl) hT (by rfl) (by first | ((repeat (first | with_reducible apply pick0 | with_reducible apply pick_there)); done) | ((repeat (first | apply pick0 | apply pick_there)); done) | fail) Tryz.underlying39 rfl (by kernel_rfl) ?_
        go_wp2_with (with_reducible apply at_loadG)
        refine ⟨?_⟩
        refine wl_loadGA (by rfl) hT (by rfl) (by first | ((repeat (first | with_reducible apply pick0 | with_reducible apply pick_there)); done) | ((repeat (first | apply pick0 | apply pick_there)); done) | fail) Tryz.underlying39 rfl (by kernel_rfl) ?_
        go_wp2_with (with_reducible apply at_loadG)
        refine ⟨?_⟩
        refine wl_loadGA (by rfl) hT (by rfl) (by first | ((repeat (first | with_reducible apply pick0 | with_reducible apply pick_there)); done) | ((repeat (first | apply pick0 | apply pick_there)); done) | fail) Tryz.underlying44 rfl (by rw [entA_size _ _ Hyk.out]; exact infoEntSize) ?_
        go_wp2_with (with_reducible apply at_loadG)
        refine ⟨?_⟩
        refine wl_loadGA (by rfl) hT (by rfl) (by first | ((repeat (first | with_reducible apply pick0 | with_reducible apply pick_there)); done) | ((repeat (first | apply pick0 | apply pick_there)); done) | fail) Tryz.underlying44 rfl (by rw [entA_size _ _ Hyk.out]; exact infoEntSize) ?_
        go_wp2_with fail
        refine Calls.mono (sameEntry_c _ Hyk.out _ _ _ _ _ _ (Ro.op (Ro.bsl _ _)) (Ro.op (Ro.bsl _ _)) hT Hyl.out) ?_
        rintro ee w33 ⟨v, rfl, rfl, hT3⟩
        clear hT
        obtain ⟨φ, V, sd⟩ := T2.out.side
        have hal := lalike_c T2.out.log T2.out.ok T2.out.fit sd (hT3.sb : Sat w0 w33 (LogRep p2 m L2 :: RLogRep q2 d L2 :: MedRep m M2 :: DskRep d D2 :: osl 47 40 (.slice (some ⟨bk, off, none⟩) es.length oc) (sdsL es) :: dataD es :: F))
        clear hT3 sd
        go_wp2_with fail
        refine hal.mono ?_
        rintro ee w34 ⟨v, rfl, rfl, hT4⟩
        clear hal
        go_wp2_with fail
        go_roundg (es.length - (i + 1))
        case measure => have := Hlt.out; omega
        case rel => exact ⟨i + 1, p2, q2, L2, M2, D2, rfl, Nat.succ_le_of_lt Hlt.out, by first | rfl | go_num, rfl, rfl, T2.out, hT4⟩
    · as_aux_lemma =>
        have hrd := HT.out.read ⟨xp1, xp2, xp3⟩
        have hrap := Lib.hid (fun w' R' (hw : Sat w0 w' (RLogRep q d L :: DskRep d D :: R')) => rlread_c HT.out.log HT.out.fit ⟨xp1, xp2, xp3⟩ Hdi.out.2.1 Hdi.out.2.2.1 hw)
        rw [hrd] at hrap
        have hap := lread_c (w0 := w0) (Ro.os HH.out) HT.out.log HT.out.ok ⟨xp1, xp2, xp3⟩ Hdi.out.2.1 Hdi.out.2.2.1 (hA.sb : Sat w0 w20 (LogRep p m L :: MedRep m M :: RLogRep q d L :: DskRep d D :: pt b17 (.cells #[.int .i64 0, .int .i64 0, .int .i64 0] 39 (0,0)) :: pt b18 (.cells #[.int .i64 0, .int .i64 0, .int .i64 0] 39 (0,0)) :: pt b19 (.cells (entA Frm.zeroE (.slice none 0 0)) 44 (0,0)) :: pt b20 (.cells (entA Frm.zeroE (.slice none 0 0)) 44 (0,0)) :: osl 47 40 (.slice (some ⟨bk, off, none⟩) es.length oc) (sdsL es) :: dataD es :: F))
        have Hyk := Lib.hid (Seg.lread_key L M ⟨xp1, xp2, xp3⟩)
        generalize L.read M ⟨xp1, xp2, xp3⟩ = r at *
        obtain ⟨ye, e2⟩ := r
        dsimp only at hap
        change Hid (ye.key.length = 32) at Hyk
        have T2 := Lib.hid HT.out.skip
        clear HT hO hrd
        go_wp2_with ((with_reducible apply at_load); refine ⟨?_⟩; refine wl_loadW (b := bk) (o := off + i * 40 + 36) [.int .i64 xp1, .int .i64 xp2, .int .i64 xp3] (by rfl) (HCT.out _ _ (Sat.pk (A := osl 47 40 (.slice (some ⟨bk, off, none⟩) es.length oc) (sdsL es)) (by assumption))).2.2 Tryz.underlying39 rfl (by kernel_rfl) ?_)
        refine hap.mono ?_
        rintro ee w21 ⟨v, rfl, yda, ydc, rfl, hS21⟩
        clear hap e0 hA
        go_wp2_with (first | ((with_reducible apply at_storeE); refine ⟨?_⟩; first | (refine wl_storeE (by assumption) (by rfl) (by rfl) (by first | rfl | assumption | exact Hid.out (by assumption)) (by first | ((repeat (first | with_reducible apply upd0 | with_reducible apply upd_there)); done) | ((repeat (first | apply upd0 | apply upd_there)); done) | fail) (by first | assumption | exact entA_size _ _ rfl | exact entA_size _ _ (by assumption) | exact entA_size _ _ (Hid.out (by assumption))) ?_; intro wS hS) | (refine wl_storeE (e := Frm.zeroE) (da := none) (dn := 0) (dc := 0) (by assumption) (by rfl) (by rfl) rfl (by first | ((repeat (first | with_reducible apply upd0 | with_reducible apply upd_there)); done) | ((repeat (first | apply upd0 | apply upd_there)); done) | fail) (by first | assumption | exact entA_size _ _ rfl | exact entA_size _ _ (by assumption) | exact entA_size _ _ (Hid.out (by assumption))) ?_; intro wS hS)) | ((with_reducible apply at_load); refine ⟨?_⟩; refine wl_loadW (b := bk) (o := off + i * 40 + 36) [.int .i64 xp1, .int .i64 xp2, .int .i64 xp3] (by rfl) (HCT.out _ _ (Sat.pk (A := osl 47 40 (.slice (some ⟨bk, off, none⟩) es.length oc) (sdsL es)) (by assumption))).2.2 Tryz.underlying39 rfl (by kernel_rfl) ?_))
        have hS22 : Sat w0 _ (RLogRep q d L :: DskRep d D :: bsl (.slice yda ye.data.length ydc) ye.data :: pt b17 (.cells #[.int .i64 0, .int .i64 0, .int .i64 0] 39 (0,0)) :: pt b18 (.cells #[.int .i64 0, .int .i64 0, .int .i64 0] 39 (0,0)) :: pt b19 (.cells (entA ye (.slice yda ye.data.length ydc)) 44 (0,0)) :: pt b20 (.cells (entA Frm.zeroE (.slice none 0 0)) 44 (0,0)) :: LogRep p m L :: MedRep m M :: osl 47 40 (.slice (some ⟨bk, off, none⟩) es.length oc) (sdsL es) :: dataD es :: F) := hS.sb
        clear hS hS21
        refine (hrap.out _ _ hS22).mono ?_
        rintro ee w23 ⟨v, rfl, yda2, ydc2, rfl, hS23⟩
        clear hrap hS22
        go_wp2_with (first | ((with_reducible apply at_storeE); refine ⟨?_⟩; first | (refine wl_storeE (by assumption) (by rfl) (by rfl) (by first | rfl | assumption | exact Hid.out (by assumption)) (by first | ((repeat (first | with_reducible apply upd0 | with_reducible apply upd_there)); done) | ((repeat (first | apply upd0 | apply upd_there)); done) | fail) (by first | assumption | exact entA_size _ _ rfl | exact entA_size _ _ (by assumption) | exact entA_size _ _ (Hid.out (by assumption))) ?_; intro wS hS) | (refine wl_storeE (e := Frm.zeroE) (da := none) (dn := 0) (dc := 0) (by assumption) (by rfl) (by rfl) rfl (by first | ((repeat (first | with_reducible apply upd0 | with_reducible apply upd_there)); done) | ((repeat (first | apply upd0 | apply upd_there)); done) | fail) (by first | assumption | exact entA_size _ _ rfl | exact entA_size _ _ (by assumption) | exact entA_size _ _ (Hid.out (by assumption))) ?_; intro wS hS)) | (with_reducible apply at_loadG))
        obtain ⟨p2, rfl⟩ : ∃ x, x = p := ⟨p, rfl⟩
        obtain ⟨q2, rfl⟩ : ∃ x, x = q := ⟨q, rfl⟩
        obtain ⟨L2, rfl⟩ : ∃ x, x = L := ⟨L, rfl⟩
        obtain ⟨M2, rfl⟩ : ∃ x, x = M := ⟨M, rfl⟩
        obtain ⟨D2, rfl⟩ : ∃ x, x = D := ⟨D, rfl⟩
        have hT : Sat w0 _ (bsl (.slice yda ye.data.length ydc) ye.data :: bsl (.slice yda2 ye.data.length ydc2) ye.data :: pt b17 (.cells #[.int .i64 0, .int .i64 0, .int .i64 0] 39 (0,0)) :: pt b18 (.cells #[.int .i64 0, .int .i64 0, .int .i64 0] 39 (0,0)) :: pt b19 (.cells (entA ye (.slice yda ye.data.length ydc)) 44 (0,0)) :: pt b20 (.cells (entA ye (.slice yda2 ye.data.length ydc2)) 44 (0,0)) :: LogRep p2 m L2 :: RLogRep q2 d L2 :: MedRep m M2 :: DskRep d D2 :: osl 47 40 (.slice (some ⟨bk, off, none⟩) es.length oc) (sdsL es) :: dataD es :: F) := hS.sb
        clear hS hS23
        have Hyl := Lib.hid (show ye.data.length ≤ 9223372036854775807 from by
          obtain ⟨_, n, c, _, h1, h2, h3⟩ := bsl_cap' (hT.pick pick0)
          omega)
        refine ⟨?_⟩
        refine wl_loadGA (by rfl) hT (by rfl) (by first | ((repeat (first | with_reducible apply pick0 | with_reducible apply pick_there)); done) | ((repeat (first | apply pick0 | apply pick_there)); done) | fail) Tryz.underlying39 rfl (by kernel_rfl) ?_
        go_wp2_with (with_reducible apply at_loadG)
        refine ⟨?_⟩
        refine wl_loadGA (by rfl) hT (by rfl) (by first | ((repeat (first | with_reducible apply pick0 | with_reducible apply pick_there)); done) | ((repeat (first | apply pick0 | apply pick_there)); done) | fail) Tryz.underlying39 rfl (by kernel_rfl) ?_
        go_wp2_with (with_reducible apply at_loadG)
        refine ⟨?_⟩
        refine wl_loadGA (by rfl) hT (by rfl) (by first | ((repeat (first | with_reducible apply pick0 | with_reducible apply pick_there)); done) | ((repeat (first | apply pick0 | apply pick_there)); done) | fail) Tryz.underlying44 rfl (by rw [entA_size _ _ Hyk.out]; exact infoEntSize) ?_
        go_wp2_with (with_reducible apply at_loadG)
        refine ⟨?_⟩
        refine wl_loadGA (by rfl) hT (by rfl) (by first | ((repeat (first | with_reducible apply pick0 | with_reducible apply pick_there)); done) | ((repeat (first | apply pick0 | apply pick_there)); done) | fail) Tryz.underlying44 rfl (by rw [entA_size _ _ Hyk.out]; exact infoEntSize) ?_
        go_wp2_with fail
        refine Calls.mono (sameEntry_c _ Hyk.out _ _ _ _ _ _ (Ro.op (Ro.bsl _ _)) (Ro.op (Ro.bsl _ _)) hT Hyl.out) ?_
        rintro ee w33 ⟨v, rfl, rfl, hT3⟩
        clear hT
        obtain ⟨φ, V, sd⟩ := T2.out.side
        have hal := lalike_c T2.out.log T2.out.ok T2.out.fit sd (hT3.sb : Sat w0 w33 (LogRep p2 m L2 :: RLogRep q2 d L2 :: MedRep m M2 :: DskRep d D2 :: osl 47 40 (.slice (some ⟨bk, off, none⟩) es.length oc) (sdsL es) :: dataD es :: F))
        clear hT3 sd
        go_wp2_with fail
        refine hal.mono ?_
        rintro ee w34 ⟨v, rfl, rfl, hT4⟩
        clear hal
        go_wp2_with fail
        go_roundg (es.length - (i + 1))
        case measure => have := Hlt.out; omega
        case rel => exact ⟨i + 1, p2, q2, L2, M2, D2, rfl, Nat.succ_le_of_lt Hlt.out, by first | rfl | go_num, rfl, rfl, T2.out, hT4⟩
end
end Go.Proofs.YtmjldaedhmipkaaGreatDoor
/- Entries and places that came in. -/
namespace Go.Proofs.YtmjldaedhmipkaaGreatDoor
open Go Go.Sl Go.Med Go.ChangeShapes Go.WideShapes Go.RowKit
set_option linter.unusedVariables false
section
variable {H : Type} {enc : TypeId × Value → H} {W : World} {base : Nat} {spare : Nat → Bool} {held : Bool}
theorem open_key {t : TypeId} {fuel : Nat} {cs : List Value} {x : DataW H × List MemPlace} {k : Nat} (ht : Tryz.prog.underlying t = some (.array k 5)) (hk : Tryz.prog.cellsOf t = k) (h : DataW.trod enc Tryz.prog W base spare held fuel t cs = some x) :
    ∃ l : Bs, bys l = cs ∧ l.length = k := by
  obtain ⟨xs, m, _, _, hl, hxl, hf⟩ := DataW.trod_array ht h
  have e1 : Tryz.prog.cellsOf 5 = 1 := by kernel_rfl
  rw [hk] at hl
  have hz : ∀ i, i < k → ∃ z : Int, cs[i]? = some (.int .u8 z) ∧ (Lit.int .u8 z).wf = true := by
    intro i hi
    have h0 := hf i hi
    rw [List.getElem?_eq_getElem (by omega), e1, Nat.mul_one] at h0
    obtain ⟨z, q1, _, q3⟩ := DataW.trod_int Tryz.underlying5 h0
    refine ⟨z, ?_, q3⟩
    have : ((cs.drop i).take 1)[0]? = some (.int .u8 z) := by rw [q1]; rfl
    rw [List.getElem?_take, if_pos (by decide), List.getElem?_drop] at this
    exact this
  obtain ⟨zs, z1, z2⟩ := list_of_fun hz
  have hcs : cs = zs.map (.int .u8) := by
    apply List.ext_getElem? 
    intro i
    rw [List.getElem?_map]
    by_cases hi : i < k
    · have := (z2 i _ (List.getElem?_eq_getElem (by omega))).1
      rw [this, List.getElem?_eq_getElem (show i < zs.length by omega)]; rfl
    · rw [List.getElem?_eq_none (by omega), List.getElem?_eq_none (by omega)]; rfl
  refine ⟨toBs zs, ?_, by unfold toBs; rw [List.length_map]; exact z1⟩
  rw [bys_toBs, hcs]
  intro z hz
  obtain ⟨i, hi, rfl⟩ := List.getElem_of_mem hz
  exact (z2 i _ (List.getElem?_eq_getElem hi)).2
/-- An entry that came in. -/
structure EntAt (W : World) (p : Frm.Ent × Value) : Prop where
  key : p.1.key.length = 32
  tag : inI p.1.tag
  rd : rdsl 1 p.2 (bys p.1.data) W
  cap : capOk p.2
set_option maxRecDepth 100000 in
theorem open_ent {fuel : Nat} {cs : List Value} {x : DataW H × List MemPlace} (h : DataW.trod enc Tryz.prog W base spare held fuel 44 cs = some x) : ∃ p : Frm.Ent × Value, entL p.1 p.2 = cs ∧ EntAt W p := by
  obtain ⟨hl, hf⟩ := open_fields Tryz.underlying44 h
  have e34 : Tryz.prog.cellsOf 44 = 34 := by kernel_rfl
  have e1 : Tryz.prog.cellsOf 3 = 1 := by kernel_rfl
  have e2 : Tryz.prog.cellsOf 41 = 32 := by kernel_rfl
  have e3 : Tryz.prog.cellsOf 42 = 1 := by kernel_rfl
  have e5 : Tryz.prog.cellsOf 5 = 1 := by kernel_rfl
  rw [e34] at hl
  obtain ⟨n0, y0, h0⟩ := hf 0 _ rfl
  obtain ⟨n1, y1, h1⟩ := hf 1 _ rfl
  obtain ⟨n2, y2, h2⟩ := hf 2 _ rfl
  simp only [List.getElem_toArray, List.getElem_cons_zero, List.getElem_cons_succ, e1, e2, e3, List.drop_zero] at h0 h1 h2
  obtain ⟨z0, q0, _, w0⟩ := DataW.trod_int Tryz.underlying3 h0
  obtain ⟨kl, k1, k2⟩ := open_key Tryz.underlying41 e2 h1
  have hd : ∃ v, (cs.drop 33).take 1 = [v] := by
    have : ((cs.drop 33).take 1).length = 1 := by rw [List.length_take, List.length_drop]; omega
    exact List.length_eq_one_iff.1 this
  obtain ⟨dv, hdv⟩ := hd
  rw [hdv] at h2
  obtain ⟨l5, r5, c5⟩ := in_bys Tryz.underlying42 Tryz.underlying5 e5 h2
  refine ⟨(⟨z0, kl, l5⟩, dv), ?_, k2, bounds_i64 w0, r5, c5⟩
  show Value.int .i64 z0 :: (bys kl ++ [dv]) = cs
  have s1 : cs = cs.take 1 ++ ((cs.drop 1).take 32 ++ (cs.drop 33).take 1) := by
    have a1 : cs = cs.take 1 ++ cs.drop 1 := (List.take_append_drop 1 cs).symm
    have a2 : cs.drop 1 = (cs.drop 1).take 32 ++ (cs.drop 1).drop 32 := (List.take_append_drop 32 _).symm
    have a3 : (cs.drop 1).drop 32 = (cs.drop 33).take 1 := by rw [List.drop_drop, List.take_of_length_le (by rw [List.length_drop]; omega)]
    rw [a3] at a2
    rw [← a2]; exact a1
  rw [s1, q0, ← k1, hdv]; rfl
theorem EntAt.ro {p : Frm.Ent × Value} (h : EntAt W p) : EntRo W [Sl.old W] p := ⟨h.key, rd_old h.rd, h.cap⟩
set_option maxRecDepth 100000 in
theorem open_plc {fuel : Nat} {cs : List Value} {x : DataW H × List MemPlace} (h : DataW.trod enc Tryz.prog W base spare held fuel 39 cs = some x) : ∃ a b c : Int, cs = [.int .i64 a, .int .i64 b, .int .i64 c] ∧ inI a ∧ inI b ∧ inI c := by
  obtain ⟨hl, hf⟩ := open_fields Tryz.underlying39 h
  have e3 : Tryz.prog.cellsOf 39 = 3 := by kernel_rfl
  have e1 : Tryz.prog.cellsOf 3 = 1 := by kernel_rfl
  rw [e3] at hl
  match cs, hl with
  | [v0, v1, v2], _ =>
    obtain ⟨n0, y0, h0⟩ := hf 0 _ rfl
    obtain ⟨n1, y1, h1⟩ := hf 1 _ rfl
    obtain ⟨n2, y2, h2⟩ := hf 2 _ rfl
    simp only [List.getElem_toArray, List.getElem_cons_zero, List.getElem_cons_succ, e1, List.drop_zero, List.drop_succ_cons, List.take_succ_cons, List.take_zero] at h0 h1 h2
    obtain ⟨z0, q0, _, w0⟩ := DataW.trod_int Tryz.underlying3 h0
    obtain ⟨z1, q1, _, w1⟩ := DataW.trod_int Tryz.underlying3 h1
    obtain ⟨z2, q2, _, w2⟩ := DataW.trod_int Tryz.underlying3 h2
    simp only [List.cons.injEq, and_true] at q0 q1 q2
    subst q0; subst q1; subst q2
    exact ⟨z0, z1, z2, rfl, bounds_i64 w0, bounds_i64 w1, bounds_i64 w2⟩
end
end Go.Proofs.YtmjldaedhmipkaaGreatDoor
/- A []hoardlaw14.Do that came in. -/
namespace Go.Proofs.YtmjldaedhmipkaaGreatDoor
open Go Go.Sl Go.Med Go.ChangeShapes Go.WideShapes Go.RowKit
set_option linter.unusedVariables false
structure SD.At (W : World) (d : SD) : Prop where
  kind : inI d.c.kind
  e : EntAt W (d.c.e, d.dv)
  n : inI d.c.n
  p1 : inI d.c.p.seg
  p2 : inI d.c.p.at_
  p3 : inI d.c.p.size
  rd : rdsl 1 d.lv (ints d.c.l) W
  cap : capOk d.lv
  ins : ∀ i ∈ d.c.l, inI i
section
variable {H : Type} {enc : TypeId × Value → H} {W : World} {base : Nat} {spare : Nat → Bool} {held : Bool}
set_option maxRecDepth 100000 in
theorem open_sd {fuel : Nat} {cs : List Value} {x : DataW H × List MemPlace} (h : DataW.trod enc Tryz.prog W base spare held fuel 47 cs = some x) : ∃ d : SD, sdL d = cs ∧ d.At W := by
  obtain ⟨hl, hf⟩ := open_fields Tryz.underlying47 h
  have e40 : Tryz.prog.cellsOf 47 = 40 := by kernel_rfl
  have e1 : Tryz.prog.cellsOf 3 = 1 := by kernel_rfl
  have e34 : Tryz.prog.cellsOf 44 = 34 := by kernel_rfl
  have e3 : Tryz.prog.cellsOf 39 = 3 := by kernel_rfl
  have e4 : Tryz.prog.cellsOf 45 = 1 := by kernel_rfl
  rw [e40] at hl
  obtain ⟨n0, y0, h0⟩ := hf 0 _ rfl
  obtain ⟨n1, y1, h1⟩ := hf 1 _ rfl
  obtain ⟨n2, y2, h2⟩ := hf 2 _ rfl
  obtain ⟨n3, y3, h3⟩ := hf 3 _ rfl
  obtain ⟨n4, y4, h4⟩ := hf 4 _ rfl
  simp only [List.getElem_toArray, List.getElem_cons_zero, List.getElem_cons_succ, e1, e34, e3, e4, List.drop_zero] at h0 h1 h2 h3 h4
  obtain ⟨z0, q0, _, w0⟩ := DataW.trod_int Tryz.underlying3 h0
  obtain ⟨⟨ex, dv⟩, k1, k2⟩ := open_ent h1
  obtain ⟨z2, q2, _, w2⟩ := DataW.trod_int Tryz.underlying3 h2
  obtain ⟨a, b, c, q3, wa, wb, wc⟩ := open_plc h3
  have hd : ∃ v, (cs.drop 39).take 1 = [v] := by
    have : ((cs.drop 39).take 1).length = 1 := by rw [List.length_take, List.length_drop]; omega
    exact List.length_eq_one_iff.1 this
  obtain ⟨lv, hlv⟩ := hd
  rw [hlv] at h4
  obtain ⟨l6, r6, c6, i6⟩ := in_nums Tryz.underlying45 Tryz.underlying3 e1 h4
  refine ⟨⟨⟨z0, ex, z2, ⟨a, b, c⟩, l6⟩, dv, lv⟩, ?_, bounds_i64 w0, k2, bounds_i64 w2, wa, wb, wc, r6, c6, i6⟩
  show Value.int .i64 z0 :: (entL ex dv ++ [.int .i64 z2, .int .i64 a, .int .i64 b, .int .i64 c, lv]) = cs
  have s1 : cs = cs.take 1 ++ ((cs.drop 1).take 34 ++ ((cs.drop 35).take 1 ++ ((cs.drop 36).take 3 ++ (cs.drop 39).take 1))) := by
    have a4 : (cs.drop 39).take 1 = cs.drop 39 := List.take_of_length_le (by rw [List.length_drop]; omega)
    have a3 : (cs.drop 36).take 3 ++ cs.drop 39 = cs.drop 36 := by
      rw [show cs.drop 39 = (cs.drop 36).drop 3 by rw [List.drop_drop]]; exact List.take_append_drop 3 _
    have a2 : (cs.drop 35).take 1 ++ cs.drop 36 = cs.drop 35 := by
      rw [show cs.drop 36 = (cs.drop 35).drop 1 by rw [List.drop_drop]]; exact List.take_append_drop 1 _
    have a1 : (cs.drop 1).take 34 ++ cs.drop 35 = cs.drop 1 := by
      rw [show cs.drop 35 = (cs.drop 1).drop 34 by rw [List.drop_drop]]; exact List.take_append_drop 34 _
    rw [a4, a3, a2, a1]
    exact (List.take_append_drop 1 cs).symm
  rw [s1, q0, ← k1, q2, q3, hlv]; rfl
theorem in_sds {fuel : Nat} {v : Value} {x : DataW H × List MemPlace} (h : DataW.trod enc Tryz.prog W base spare held fuel 22 [v] = some x) :
    ∃ ds : List SD, rdsl 40 v (sdsL ds) W ∧ capOk v ∧ ∀ d ∈ ds, d.At W := by
  obtain ⟨elems, h1, h2, h3⟩ := open_sl Tryz.underlying22 (k := 40) (by kernel_rfl) (by omega) h
  obtain ⟨ds, h4, h5⟩ := map_of (f := sdL) (p := fun d => d.At W) elems fun cs hcs => by
    obtain ⟨_, n, y, h6⟩ := h3 cs hcs
    exact open_sd h6
  refine ⟨ds, ?_, h2, h5⟩
  unfold sdsL
  rw [List.flatMap_def, h4]
  exact h1
theorem SD.At.ro {d : SD} (h : d.At W) : SDRo W [Sl.old W] d := ⟨h.e.key, rd_old h.e.rd, h.e.cap, rd_old h.rd, h.cap⟩
end
end Go.Proofs.YtmjldaedhmipkaaGreatDoor
/- The table of crc, as the condition lays it; what it gives the walks. -/
namespace Go.Proofs.YtmjldaedhmipkaaGreatDoor.card
open Go.ChangeShapes Go.WideShapes Go.ChangeAt Go.RowKit
open Go Go.Sl Go.Med
set_option linter.unusedVariables false
theorem gHalf : Tryz.prog.globalNamed "hoard/crc.half" = some 0 := by kernel_rfl
theorem tHalf : ((Tryz.prog.globals[0]?).map (·.type)) = some 284 := by kernel_rfl
/-- The door's own heap meets the condition. -/
theorem door_met (os : Os) (args : Array Value) : laidMetH Tryz.prog [("hoard/crc.half", Rows.laid_hoard_crc_half)] ((World.doorLaid Tryz.prog 400 os).forCall (fun _ _ => 0) ⟨#[], args, []⟩).memory :=
  laidMetH_of_parts3 (fuel := 8) (laidMet_of_run' 8 (by kernel_rfl) (by kernel_rfl)) (by kernel_rfl) (by kernel_rfl)
/-- What the condition gives the walks. -/
theorem of_laid {W : World} (h : laidMetH Tryz.prog [("hoard/crc.half", Rows.laid_hoard_crc_half)] W) : 0 < W.heap.size ∧ Half W := by
  rw [MakeChecks.laidMetH_plain _ _ _ (by kernel_rfl)] at h
  obtain ⟨ps, ⟨g0, t0, cs0, f0, p0, q0, hg0, ht0, hv0, hd0, hrest⟩, hrest2⟩ := h
  obtain rfl := Option.some.inj (gHalf.symm.trans hg0)
  obtain rfl := Option.some.inj (tHalf.symm.trans ht0)
  obtain ⟨xs, m1, rfl, hx1, hlen, hn3, hel⟩ := DataW.trod_array Tryz.underlying284 hd0
  have c3 : Tryz.prog.cellsOf 233 = 1 := by kernel_rfl
  simp only [Prod.mk.injEq, Rows.laid_hoard_crc_half, DataW.agg.injEq] at hx1
  have hH : Half W := by
    intro i hi
    have h0 := hel i hi
    have hxi : xs[i]? = some (xs[i]'(by omega)) := List.getElem?_eq_getElem (by omega)
    rw [hxi] at h0
    obtain ⟨k, e1, e2, _⟩ := DataW.trod_int Tryz.underlying233 h0
    rw [c3, Nat.mul_one] at e1
    have hc : cs0.toList[i]? = some (.int .u32 k) := by
      have : ((cs0.toList.drop i).take 1)[0]? = some (.int .u32 k) := by rw [e1]; rfl
      rw [List.getElem?_take, if_pos (by decide), List.getElem?_drop] at this
      exact this
    have hL := congrArg (fun l => l[i]?) hx1.1
    rw [List.getElem?_map, hxi] at hL
    have hk : k = ((Frm.half.getD i 0 : Nat) : Int) := by
      rw [e2] at hL
      rcases i with _ | _ | _ | _ | _ | _ | _ | _ | _ | _ | _ | _ | _ | _ | _ | _ | i
      all_goals first | omega | (simp at hL; rw [← hL]; rfl)
    subst hk
    have := World.var?_cell hg0 hv0 i
    rw [this, ← Array.getElem?_toList]
    exact hc
  refine ⟨?_, hH⟩
  by_cases hz : 0 < W.heap.size
  · exact hz
  · have h0 := hH 0 (by decide)
    have e : W.heap[0]? = none := Array.getElem?_eq_none (by omega)
    simp [World.cell?, e] at h0
end Go.Proofs.YtmjldaedhmipkaaGreatDoor.card
