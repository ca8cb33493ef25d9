import Derived.Test.YtjklhichekmdhaaDoorJ5
import Derived.Laws.Slices
import Derived.Test.YtjklhichekmdhaaDoorRows
import Derived.Test.YtjklhichekmdhaaDoorCards
import Derived.Test.YtjklhichekmdhaaDoorTie
import Derived.ProofKit
import Derived.LaidMore
import Derived.OpenShut
import Derived.ShutString
import Derived.SevenTiedAt
set_option linter.unusedVariables false
/- Commit of any log. -/
namespace Go.Seg
open Go.Med
theorem Log.grow_med {L : Log} {M : Med} {K : Nat} (h : M.Ok K) (b : Bs) : (L.grow M b).1.2.Ok (K + 1) := by
  unfold Log.grow
  split; · exact h.mono (Nat.le_succ K)
  split <;> exact h.append _ _
theorem Log.begin1_med {L : Log} {M : Med} {K : Nat} (h : M.Ok K) (b : Bs) : (L.begin1 M b).1.2.Ok (K + 3) := by
  have h1 := h.create (name L.next)
  have h2 := h1.append (name L.next) (mag ++ b)
  have h3 := h2.remove (name L.next)
  unfold Log.begin1
  split; · exact h.mono (by omega)
  split; · exact h1.mono (by omega)
  split; · exact h2.mono (by omega)
  split; · exact h3
  exact h2.mono (by omega)
theorem Log.append_med {L : Log} {M : Med} {K : Nat} (h : M.Ok K) (x : Frm.Ent) : (L.append M x).1.2.Ok (K + 4) := by
  unfold Log.append
  split; · exact h.mono (by omega)
  split; · exact (Log.grow_med h _).mono (by omega)
  unfold Log.begin
  split
  · exact Log.begin1_med (Log.shut_med h) _
  · exact (Log.shut_med h).mono (by omega)
theorem Log.commit_eq (L : Log) (M : Med) : L.commit M = if (L.append M comEnt).2.2 ≠ 0 then ((L.append M comEnt).1, 0, (L.append M comEnt).2.2)
  else if ((L.append M comEnt).1.2.sync (name (L.append M comEnt).2.1.seg)).2 ≠ 0 then (((L.append M comEnt).1.1, ((L.append M comEnt).1.2.sync (name (L.append M comEnt).2.1.seg)).1), 0, ((L.append M comEnt).1.2.sync (name (L.append M comEnt).2.1.seg)).2)
  else if (((L.append M comEnt).1.2.sync (name (L.append M comEnt).2.1.seg)).1.syncDir).2 ≠ 0 then (((L.append M comEnt).1.1, (((L.append M comEnt).1.2.sync (name (L.append M comEnt).2.1.seg)).1.syncDir).1), 0, (((L.append M comEnt).1.2.sync (name (L.append M comEnt).2.1.seg)).1.syncDir).2)
  else (({ (L.append M comEnt).1.1 with on := false, fresh := 0 }, (((L.append M comEnt).1.2.sync (name (L.append M comEnt).2.1.seg)).1.syncDir).1), (L.append M comEnt).2.1.seg, 0) := rfl
theorem Log.commit_med {L : Log} {M : Med} {K : Nat} (h : M.Ok K) : (L.commit M).1.2.Ok (K + 5) := by
  have h1 := Log.append_med (L := L) h comEnt
  have h2 := h1.sync (name (L.append M comEnt).2.1.seg)
  have h3 := h2.syncDir
  rw [Log.commit_eq]
  split; · exact h1.mono (by omega)
  split; · exact h2.mono (by omega)
  split; · exact h3.mono (by omega)
  exact h3.mono (by omega)
end Go.Seg
namespace Go.Proofs.YtjklhichekmdhaaDoor
open Go Go.Sl Go.Med Go.MapKept Go.RowKit
set_option linter.unusedVariables false
section
variable {w0 w : World} {F R : List HProp} {v bv dv x lv : Value} {q p m K : Nat} {L : Seg.Log} {M : Med} {s : Int × Int}
set_option maxRecDepth 20000 in
set_option maxHeartbeats 8000000 in
theorem lcommit_c (hH : Ro w0 F Half) (hL : L.Ok) (hM : M.Ok K) (hKK : K + 6 ≤ 1099511627776) (h : Sat w0 w (LogRep p m L :: MedRep m M :: F)) :
    Calls Tryd.prog 11 #[ptr p] w (Rtn fun v w' => v = .tuple #[.int .i64 (L.commit M).2.1, errno (L.commit M).2.2] ∧
      Sat w0 w' (LogRep p m (L.commit M).1.1 :: MedRep m (L.commit M).1.2 :: F)) := by
  have hap := lappend_c Seg.comEnt rfl none 0 (fun w _ => rdsl_nil 1 0 w) hH (by decide) hL hM (by omega) h
  have Hg := Lib.hid (Seg.Log.commit_eq L M)
  have HL := Lib.hid (hL.append M Seg.comEnt rfl)
  have HM := Lib.hid (Seg.Log.append_med (L := L) hM Seg.comEnt)
  have HH := Lib.hid hH
  clear hL hM h hH
  generalize L.append M Seg.comEnt = A at *
  obtain ⟨⟨L1, M1⟩, pl, e1⟩ := A
  go_enter Tryd.func11, Tryd.ntmps11
  go_wp2_with fail
  refine hap.mono ?_
  rintro e w1 ⟨v, rfl, rfl, hS1⟩
  clear hap
  by_cases he : e1 = 0
  rotate_left
  · have heb : (e1 == 0) = false := beq_false_of_ne he
    have hfin := Lib.hid (Hg.out.trans (if_pos he))
    clear he
    go_wp2_with (first | (refine wl_alloc zPlace (by assumption) rfl ?_; intro q w2 hS2) | ((with_reducible apply at_store); refine ⟨?_⟩; refine wl_store (by assumption) (by rfl) (by conv => lhs; whnf) (by first | (simp only [putsAt, Value.cells]; (try go_frame); first | done | rfl) | rfl) (by first | ((repeat (first | with_reducible apply upd0 | with_reducible apply upd_there)); done) | ((repeat (first | apply upd0 | apply upd_there)); done) | fail) (Nat.le_of_ble_eq_true (by rfl)) (by kernel_rfl) (by rfl) ?_; intro wS hS))
    go_ret2
    refine ⟨.tuple #[.int .i64 0, errno e1], rfl, ?_, ?_⟩
    · rw [hfin.out]
    · rw [hfin.out]; exact Sat.sub hS (by repeat (first | (with_reducible apply sub_refl) | ((with_reducible apply sub_take); (· first | ((repeat (first | with_reducible apply pick0 | with_reducible apply pick_there)); done) | ((repeat (first | apply pick0 | apply pick_there)); done) | fail)) | (with_reducible apply sub_drop)))
  subst he
  have H1 := Lib.hid (Hg.out.trans (if_neg (fun h => h rfl)))
  clear Hg
  go_wp2_with (first | (refine wl_alloc zPlace (by assumption) rfl ?_; intro q w2 hS2) | ((with_reducible apply at_store); refine ⟨?_⟩; refine wl_store (by assumption) (by rfl) (by conv => lhs; whnf) (by first | (simp only [putsAt, Value.cells]; (try go_frame); first | done | rfl) | rfl) (by first | ((repeat (first | with_reducible apply upd0 | with_reducible apply upd_there)); done) | ((repeat (first | apply upd0 | apply upd_there)); done) | fail) (Nat.le_of_ble_eq_true (by rfl)) (by kernel_rfl) (by rfl) ?_; intro wS hS))
  have hS1 := hS
  clear hS hS2
  obtain ⟨lv, hR⟩ := LogRep.open2 (Sat.pick (by assumption) (by first | ((repeat (first | with_reducible apply pick0 | with_reducible apply pick_there)); done) | ((repeat (first | apply pick0 | apply pick_there)); done) | fail))
  clear hS1
  go_wp2_with fail
  refine wpL_begin [7, 8] (fun w' => w'.cell? ⟨p, 0, none⟩ = some (ptr m) ∧ w'.cell? ⟨q, 0, none⟩ = some (.int .i64 pl.seg)) (by kernel_rfl) ?_
  have hG : (World.drew _).cell? ⟨p, 0, none⟩ = some (ptr m) ∧ (World.drew _).cell? ⟨q, 0, none⟩ = some (.int .i64 pl.seg) := ⟨hR.drew.cellP (by first | ((repeat (first | with_reducible apply pick0 | with_reducible apply pick_there)); done) | ((repeat (first | apply pick0 | apply pick_there)); done) | fail) 0 rfl, hR.drew.cellP (by first | ((repeat (first | with_reducible apply pick0 | with_reducible apply pick_there)); done) | ((repeat (first | apply pick0 | apply pick_there)); done) | fail) 0 rfl⟩
  refine rg_pure 0 (by conv => lhs; whnf) (by kernel_rfl) (by intro _ _ _ h; exact h) (yl_move (by conv => lhs; whnf)) (by go_frame; first | done | rfl) ?_
  refine rg_pure 1 (by conv => lhs; whnf) (by kernel_rfl) (by intro _ _ _ h; exact h) (yl_nil (by conv => lhs; whnf)) (by go_frame; first | done | rfl) ?_
  refine rg_pure 2 (by conv => lhs; whnf) (by kernel_rfl) (by intro _ _ _ h; exact h) (yl_field (by conv => lhs; whnf) (by ((intro wq; go_simp); first | done | (with_reducible rfl)))) (by go_frame; first | done | rfl) ?_
  refine rg_take 3 (by conv => lhs; whnf) (by kernel_rfl) (by intro _ _ _ h; exact h) (by first | exact tk_load (by conv => lhs; whnf) (by kernel_rfl) (by intro wq hq; first | exact hq | exact hq.1 | exact hq.2 | exact hq.2.1 | exact hq.2.2 | exact hq.2.2.1 | exact hq.2.2.2 | exact hq.2.2.2.1 | exact hq.2.2.2.2) | (refine Or.inl ⟨by rfl, ?_⟩; (intro wq hq; go_split_ands; go_simp); first | done | (with_reducible rfl))) (by assumption) (by go_frame; first | done | rfl) ?_
  refine rg_pure 4 (by conv => lhs; whnf) (by kernel_rfl) (by intro _ _ _ h; exact h) (yl_field (by conv => lhs; whnf) (by ((intro wq; go_simp); first | done | (with_reducible rfl)))) (by go_frame; first | done | rfl) ?_
  refine rg_take 5 (by conv => lhs; whnf) (by kernel_rfl) (by intro _ _ _ h; exact h) (by first | exact tk_load (by conv => lhs; whnf) (by kernel_rfl) (by intro wq hq; first | exact hq | exact hq.1 | exact hq.2 | exact hq.2.1 | exact hq.2.2 | exact hq.2.2.1 | exact hq.2.2.2 | exact hq.2.2.2.1 | exact hq.2.2.2.2) | (refine Or.inl ⟨by rfl, ?_⟩; (intro wq hq; go_split_ands; go_simp); first | done | (with_reducible rfl))) (by assumption) (by go_frame; first | done | rfl) ?_
  clear hG
  refine rg_eff 6 (by conv => lhs; whnf) (by kernel_rfl) (fun K hK => ?_)
  (refine eff_call1 (by kernel_rfl) (by conv => lhs; whnf) ?_)
  refine (sname_c pl.seg hR.drew).mono ?_
  rintro e w3 ⟨v, rfl, rfl, hS3⟩
  refine hK _ _ (.inr (.inl ⟨hS3.cellP (by first | ((repeat (first | with_reducible apply pick0 | with_reducible apply pick_there)); done) | ((repeat (first | apply pick0 | apply pick_there)); done) | fail) 0 rfl, hS3.cellP (by first | ((repeat (first | with_reducible apply pick0 | with_reducible apply pick_there)); done) | ((repeat (first | apply pick0 | apply pick_there)); done) | fail) 0 rfl⟩)) ?_
  clear hK K
  refine rg_eff 7 (by conv => lhs; whnf) (by kernel_rfl) (fun K hK => ?_)
  (refine eff_call2 (by kernel_rfl) (by conv => lhs; whnf) (by conv => lhs; whnf) ?_)
  refine (sync_c HM.out (Sat.pick (by assumption) (by first | ((repeat (first | with_reducible apply pick0 | with_reducible apply pick_there)); done) | ((repeat (first | apply pick0 | apply pick_there)); done) | fail)) _).mono ?_
  rintro e w4 ⟨v, rfl, rfl, hS4⟩
  refine hK _ _ (.inl rfl) ?_
  clear hK K hS3 hR
  refine rg_pure 8 (by conv => lhs; whnf) (by kernel_rfl) (by intro _ _ _ h; exact h) (yl_assign (by conv => lhs; whnf)) (by go_frame; first | done | rfl) ?_
  refine wpL_done (by kernel_rfl) ?_
  have HM2 := Lib.hid (HM.out.sync (Seg.name pl.seg))
  generalize M1.sync (Seg.name pl.seg) = B at *
  obtain ⟨M2, e2⟩ := B
  by_cases he : e2 = 0
  rotate_left
  · have heb : (e2 == 0) = false := beq_false_of_ne he
    have hfin := Lib.hid (H1.out.trans (if_pos he))
    clear he
    go_wp2_with fail
    go_ret2
    refine ⟨.tuple #[.int .i64 0, errno e2], rfl, ?_, ?_⟩
    · rw [hfin.out]
    · rw [hfin.out]; exact LogRep.shut2 (lv := lv) (Sat.sub hS4 (by repeat (first | (with_reducible apply sub_refl) | ((with_reducible apply sub_take); (· first | ((repeat (first | with_reducible apply pick0 | with_reducible apply pick_there)); done) | ((repeat (first | apply pick0 | apply pick_there)); done) | fail)) | (with_reducible apply sub_drop))))
  subst he
  have H2 := Lib.hid (H1.out.trans (if_neg (fun h => h rfl)))
  clear H1
  have e0 : w4.cell? ⟨p, 0, none⟩ = some (ptr m) := hS4.cellP (by first | ((repeat (first | with_reducible apply pick0 | with_reducible apply pick_there)); done) | ((repeat (first | apply pick0 | apply pick_there)); done) | fail) 0 rfl
  go_wp2_with fail
  refine (syncDir_c HM2.out (Sat.pick (by assumption) (by first | ((repeat (first | with_reducible apply pick0 | with_reducible apply pick_there)); done) | ((repeat (first | apply pick0 | apply pick_there)); done) | fail))).mono ?_
  rintro e w5 ⟨v, rfl, rfl, hS5⟩
  clear hS4 e0
  generalize M2.syncDir = C at *
  obtain ⟨M3, e3⟩ := C
  by_cases he : e3 = 0
  rotate_left
  · have heb : (e3 == 0) = false := beq_false_of_ne he
    have hfin := Lib.hid (H2.out.trans (if_pos he))
    clear he
    go_wp2_with fail
    go_ret2
    refine ⟨.tuple #[.int .i64 0, errno e3], rfl, ?_, ?_⟩
    · rw [hfin.out]
    · rw [hfin.out]; exact LogRep.shut2 (lv := lv) (Sat.sub hS5 (by repeat (first | (with_reducible apply sub_refl) | ((with_reducible apply sub_take); (· first | ((repeat (first | with_reducible apply pick0 | with_reducible apply pick_there)); done) | ((repeat (first | apply pick0 | apply pick_there)); done) | fail)) | (with_reducible apply sub_drop))))
  subst he
  have hfin := Lib.hid (H2.out.trans (if_neg (fun h => h rfl)))
  clear H2
  go_wp2_with (first | ((with_reducible apply at_load); refine ⟨?_⟩; refine wl_load1 (by assumption) (by rfl) (by first | ((repeat (first | with_reducible apply pick0 | with_reducible apply pick_there)); done) | ((repeat (first | apply pick0 | apply pick_there)); done) | fail) (Nat.le_of_ble_eq_true (by rfl)) (by conv => lhs; whnf) (by kernel_rfl) ?_) | ((with_reducible apply at_store); refine ⟨?_⟩; refine wl_store (by assumption) (by rfl) (by conv => lhs; whnf) (by first | (simp only [putsAt, Value.cells]; (try go_frame); first | done | rfl) | rfl) (by first | ((repeat (first | with_reducible apply upd0 | with_reducible apply upd_there)); done) | ((repeat (first | apply upd0 | apply upd_there)); done) | fail) (Nat.le_of_ble_eq_true (by rfl)) (by kernel_rfl) (by rfl) ?_; intro wS hS))
  go_ret2
  refine ⟨.tuple #[.int .i64 pl.seg, errno 0], rfl, ?_, ?_⟩
  · rw [hfin.out]
  · rw [hfin.out]; exact LogRep.shut2 (lv := lv) (Sat.sub hS (by repeat (first | (with_reducible apply sub_refl) | ((with_reducible apply sub_take); (· first | ((repeat (first | with_reducible apply pick0 | with_reducible apply pick_there)); done) | ((repeat (first | apply pick0 | apply pick_there)); done) | fail)) | (with_reducible apply sub_drop))))
end
end Go.Proofs.YtjklhichekmdhaaDoor
/- find, Sync, Fresh, Size, Bytes. -/
namespace Go.Seg
def idx (l : List (Int × Int)) (n : Int) : Int := match l.findIdx? (fun s => s.1 == n) with
  | some i => i
  | none => -1
theorem find_idx (L : Log) (n : Int) : L.find n = idx L.l n := rfl
theorem idx_at {l : List (Int × Int)} {n : Int} {i : Nat} {s : Int × Int} (hs : l[i]? = some s) (hn : s.1 = n) (hp : ∀ (j : Nat) (t : Int × Int), j < i → l[j]? = some t → t.1 ≠ n) : idx l n = i := by
  unfold idx
  have : l.findIdx? (fun s => s.1 == n) = some i := by
    rw [List.findIdx?_eq_some_iff_getElem]
    obtain ⟨h1, h2⟩ := List.getElem?_eq_some_iff.1 hs
    refine ⟨h1, by rw [h2]; simpa using hn, fun j hj => ?_⟩
    have := hp j _ hj (List.getElem?_eq_getElem (by omega))
    simpa using this
  rw [this]
theorem idx_no {l : List (Int × Int)} {n : Int} (hp : ∀ (j : Nat) (t : Int × Int), j < l.length → l[j]? = some t → t.1 ≠ n) : idx l n = -1 := by
  unfold idx
  have : l.findIdx? (fun s => s.1 == n) = none := by
    rw [List.findIdx?_eq_none_iff]
    intro t ht
    obtain ⟨j, hj, rfl⟩ := List.getElem_of_mem ht
    have := hp j _ hj (List.getElem?_eq_getElem hj)
    simpa using this
  rw [this]
end Go.Seg
namespace Go.Proofs.YtjklhichekmdhaaDoor
open Go Go.Sl Go.Med Go.MapKept Go.RowKit
set_option linter.unusedVariables false
section
variable {w0 w : World} {F R : List HProp} {v bv dv x lv : Value} {q p m K : Nat} {L : Seg.Log} {M : Med} {s : Int × Int}
set_option maxHeartbeats 4000000 in
theorem find1_c (s : Int × Int) (n : Int) (h : Sat w0 w F) (hq : Ro w0 F fun w => w.cell? ⟨q, 0, none⟩ = some (.int .i64 n)) :
    Calls Tryd.prog 73 #[.agg #[.int .i64 s.1, .int .i64 s.2], ptr q] w (Rtn fun v w' => v = .bool (s.1 == n) ∧ Sat w0 w' F) := by
  go_enter Tryd.func73, Tryd.ntmps73
  go_wp2_with (first | (((with_reducible apply at_box); refine ⟨?_⟩; refine wl_box (by assumption) (by conv => lhs; whnf) (by conv => lhs; whnf) ?_; intro bB wB hB); have c0 : wB.cell? ⟨q, 0, none⟩ = some (.int .i64 n) := hq _ hB.drop) | ((with_reducible apply at_load); refine ⟨?_⟩; refine wl_load1 (by assumption) (by rfl) (by first | ((repeat (first | with_reducible apply pick0 | with_reducible apply pick_there)); done) | ((repeat (first | apply pick0 | apply pick_there)); done) | fail) (Nat.le_of_ble_eq_true (by rfl)) (by conv => lhs; whnf) (by kernel_rfl) ?_))
  go_ret
  exact ⟨_, rfl, rfl, hB.drop⟩
set_option maxHeartbeats 8000000 in
theorem idxf_c (l : List (Int × Int)) (n : Int) (hln : l.length ≤ 1048576) (h : Sat w0 w (osl 94 2 lv (segw l) :: F)) (hq : Ro w0 F fun w => w.cell? ⟨q, 0, none⟩ = some (.int .i64 n)) :
    Calls Tryd.prog 72 #[lv, .func (.func 73) #[] #[ptr q]] w (Rtn fun v w' => v = .int .i64 (Seg.idx l n) ∧ Sat w0 w' (osl 94 2 lv (segw l) :: F)) := by
  rcases h.osl_cases with ⟨rfl, hx, hF⟩ | ⟨b, n', cap, cs, rfl, hll, hn', hc, hcm, htk, hp⟩
  · have hl : l = [] := by
      cases l with
      | nil => rfl
      | cons a l => simp [segw] at hx
    subst hl
    go_enter Tryd.func72, Tryd.ntmps72
    go_wp2_with fail
    go_loopg [8] 0 (fun g iq wr => iq = .int .i64 0 ∧ wr = w)
    case atStart => exact ⟨rfl, rfl⟩
    case round =>
      obtain ⟨rfl, rfl⟩ := hrel
      go_wp2
      go_ret
      exact ⟨_, rfl, rfl, h⟩
  · rw [segw_len] at hll
    obtain rfl : n' = l.length := by omega
    have hcl : ∀ (i : Nat) (s : Int × Int), l[i]? = some s → cs[i * 2]? = some (.int .i64 s.1) ∧ cs[i * 2 + 1]? = some (.int .i64 s.2) := by
      intro i s hs
      obtain ⟨h1, h2⟩ := segw_at _ _ _ hs
      rw [Nat.mul_comm i 2]
      exact ⟨take_get htk h1, take_get htk h2⟩
    have Hcl := Lib.hid hcl
    have Hend := Lib.hid (show ∀ wr, Sat w0 wr (pt b (.cells cs 94 (0,0)) :: F) → Sat w0 wr (osl 94 2 (.slice (some ⟨b, 0, none⟩) l.length cap) (segw l) :: F) from fun wr hS => Sat.osl_of_pt hS (by rw [segw_len]; omega) hn' hc hcm htk)
    have Hq := Lib.hid hq
    clear hcl hn' hc hcm htk h hq hll
    go_enter Tryd.func72, Tryd.ntmps72
    go_wp2_with fail
    go_loopg [8] l.length (fun g iq wr => ∃ i : Nat, g = l.length - i ∧ i ≤ l.length ∧ iq = .int .i64 i ∧ Sat w0 wr (pt b (.cells cs 94 (0,0)) :: F) ∧ Hid (∀ (j : Nat) (t : Int × Int), j < i → l[j]? = some t → t.1 ≠ n))
    case atStart => exact ⟨0, rfl, Nat.zero_le _, rfl, hp, Lib.hid fun j t hj => absurd hj (Nat.not_lt_zero j)⟩
    case round =>
      obtain ⟨i, rfl, hi, rfl, hS, Hp⟩ := hrel
      clear hp
      by_cases hlt : i < l.length
      · obtain ⟨s, hs⟩ : ∃ s, l[i]? = some s := ⟨_, List.getElem?_eq_getElem hlt⟩
        obtain ⟨d0, d1⟩ := Hcl.out i s hs
        have Hs := Lib.hid hs; have Hd0 := Lib.hid d0; have Hd1 := Lib.hid d1; have Hlt := Lib.hid hlt
        have hic : (i : Int) < (l.length : Int) := by omega
        have hwi : IntKind.i64.wrap ((i : Int) + 1) = (i : Int) + 1 := IntWalk.i64_in _ (by omega)
        clear hs d0 d1 hlt
        have hfn := find1_c (q := q) s n hS (Ro.of_sub Hq.out (by repeat (first | (with_reducible apply sub_refl) | ((with_reducible apply sub_take); (· first | ((repeat (first | with_reducible apply pick0 | with_reducible apply pick_there)); done) | ((repeat (first | apply pick0 | apply pick_there)); done) | fail)) | (with_reducible apply sub_drop))))
        go_wp2_with ((with_reducible apply at_load); refine ⟨?_⟩; refine wl_loadN (b := b) (o := i * 2) [.int .i64 s.1, .int .i64 s.2] (by assumption) (by rfl) (by first | ((repeat (first | with_reducible apply pick0 | with_reducible apply pick_there)); done) | ((repeat (first | apply pick0 | apply pick_there)); done) | fail) (fun j v hj => by
          rcases j with _ | _ | j
          · cases hj; exact Hd0.out
          · cases hj; exact Hd1.out
          · simp at hj) Tryd.underlying94 rfl (by kernel_rfl) ?_)
        refine hfn.mono ?_
        rintro e w2 ⟨v, rfl, rfl, hS2⟩
        clear hfn hS
        by_cases hsn : s.1 = n
        · have hsb : (s.1 == n) = true := by simpa using hsn
          have Hfin := Lib.hid (Seg.idx_at Hs.out hsn Hp.out)
          clear hsn
          go_wp2
          go_ret
          exact ⟨.int .i64 i, rfl, by rw [Hfin.out], Hend.out _ hS2⟩
        · have hsb : (s.1 == n) = false := by simpa using hsn
          have Hp2 := Lib.hid (show ∀ (j : Nat) (t : Int × Int), j < i + 1 → l[j]? = some t → t.1 ≠ n by
            intro j t hj ht
            by_cases hji : j < i
            · exact Hp.out j t hji ht
            · obtain rfl : j = i := by omega
              rw [Hs.out] at ht; cases ht; exact hsn)
          clear hsn Hp
          go_wp2
          go_roundg (l.length - (i + 1))
          case measure => have := Hlt.out; omega
          case rel => exact ⟨i + 1, rfl, Nat.succ_le_of_lt Hlt.out, by first | rfl | go_num, hS2, Hp2⟩
      · obtain rfl : i = l.length := by omega
        have hic : ¬ (l.length : Int) < (l.length : Int) := by omega
        have Hfin := Lib.hid (Seg.idx_no Hp.out)
        clear hi hlt Hp
        go_wp2
        go_ret
        exact ⟨.int .i64 (-1), rfl, by rw [Hfin.out], Hend.out _ hS⟩
set_option maxHeartbeats 4000000 in
theorem lfind_c (hL : L.Ok) (n : Int) (h : Sat w0 w (LogRep p m L :: F)) :
    Calls Tryd.prog 50 #[ptr p, .int .i64 n] w (Rtn fun v w' => v = .int .i64 (L.find n) ∧ Sat w0 w' (LogRep p m L :: F)) := by
  obtain ⟨lv, hR⟩ := LogRep.open2 h
  clear h
  have Hln := Lib.hid hL.len
  rw [Seg.find_idx]
  clear hL
  go_enter Tryd.func50, Tryd.ntmps50
  go_wp2_with ((with_reducible apply at_box); refine ⟨?_⟩; refine wl_box (by assumption) (by conv => lhs; whnf) (by conv => lhs; whnf) ?_; intro bB wB hB)
  refine (ok_c (Sat.pick (by assumption) (by first | ((repeat (first | with_reducible apply pick0 | with_reducible apply pick_there)); done) | ((repeat (first | apply pick0 | apply pick_there)); done) | fail))).mono ?_
  rintro e w2 ⟨v, rfl, rfl, rfl⟩
  clear hR
  go_wp2_with ((with_reducible apply at_load); refine ⟨?_⟩; refine wl_load1 (by assumption) (by rfl) (by first | ((repeat (first | with_reducible apply pick0 | with_reducible apply pick_there)); done) | ((repeat (first | apply pick0 | apply pick_there)); done) | fail) (Nat.le_of_ble_eq_true (by rfl)) (by conv => lhs; whnf) (by kernel_rfl) ?_)
  refine (idxf_c (q := bB) (lv := lv) L.l n Hln.out (Sat.pick (by assumption) (by first | ((repeat (first | with_reducible apply pick0 | with_reducible apply pick_there)); done) | ((repeat (first | apply pick0 | apply pick_there)); done) | fail)) (fun w hw => hw.cellP (by first | ((repeat (first | with_reducible apply pick0 | with_reducible apply pick_there)); done) | ((repeat (first | apply pick0 | apply pick_there)); done) | fail) 0 rfl)).mono ?_
  rintro e w3 ⟨v, rfl, rfl, hS3⟩
  clear hB
  go_wp2
  go_ret
  exact ⟨_, rfl, rfl, LogRep.shut2 (lv := lv) (Sat.sub hS3 (by repeat (first | (with_reducible apply sub_refl) | ((with_reducible apply sub_take); (· first | ((repeat (first | with_reducible apply pick0 | with_reducible apply pick_there)); done) | ((repeat (first | apply pick0 | apply pick_there)); done) | fail)) | (with_reducible apply sub_drop))))⟩
set_option maxHeartbeats 4000000 in
theorem lfresh_c (h : Sat w0 w (LogRep p m L :: F)) :
    Calls Tryd.prog 17 #[ptr p] w (Rtn fun v w' => v = .int .i64 L.fresh ∧ w = w') := by
  obtain ⟨lv, hR⟩ := LogRep.open2 h
  clear h
  go_enter Tryd.func17, Tryd.ntmps17
  go_wp2_with fail
  refine (ok_c (Sat.pick (by assumption) (by first | ((repeat (first | with_reducible apply pick0 | with_reducible apply pick_there)); done) | ((repeat (first | apply pick0 | apply pick_there)); done) | fail))).mono ?_
  rintro e w2 ⟨v, rfl, rfl, rfl⟩
  go_wp2_with ((with_reducible apply at_load); refine ⟨?_⟩; refine wl_load1 (by assumption) (by rfl) (by first | ((repeat (first | with_reducible apply pick0 | with_reducible apply pick_there)); done) | ((repeat (first | apply pick0 | apply pick_there)); done) | fail) (Nat.le_of_ble_eq_true (by rfl)) (by conv => lhs; whnf) (by kernel_rfl) ?_)
  go_ret
  exact ⟨_, rfl, rfl, rfl⟩
theorem find_neg (n : Int) : (L.at n = none ∧ L.find n = -1) ∨ ∃ i, L.at n = some i ∧ L.find n = i := by
  unfold Seg.Log.find
  cases L.at n with
  | none => exact .inl ⟨rfl, rfl⟩
  | some i => exact .inr ⟨i, rfl, rfl⟩
set_option maxHeartbeats 4000000 in
theorem lsize_c (hL : L.Ok) (n : Int) (h : Sat w0 w (LogRep p m L :: F)) :
    Calls Tryd.prog 28 #[ptr p, .int .i64 n] w (Rtn fun v w' => v = .int .i64 (L.size n) ∧ Sat w0 w' (LogRep p m L :: F)) := by
  have hf := lfind_c hL n h
  have Hln := Lib.hid hL.len
  rcases find_neg (L := L) n with ⟨ha, hb⟩ | ⟨i, ha, hb⟩
  · have Hfin := Lib.hid (show L.size n = 0 by unfold Seg.Log.size; rw [ha])
    rw [hb] at hf
    clear ha hb hL h
    go_enter Tryd.func28, Tryd.ntmps28
    go_wp2_with fail
    refine hf.mono ?_
    rintro e w2 ⟨v, rfl, rfl, hS2⟩
    clear hf
    go_wp2
    go_ret
    rw [Hfin.out]
    exact ⟨_, rfl, rfl, hS2⟩
  · rw [hb] at hf
    obtain ⟨hlt, s, hs, hsn⟩ := Seg.Log.at_lt ha
    have Hfin := Lib.hid (show L.size n = s.2 by unfold Seg.Log.size; rw [ha]; simp only; rw [List.getD_eq_getElem?_getD, hs]; rfl)
    have Hs := Lib.hid hs
    have hi0 : (0 : Int) ≤ (i : Int) := by omega
    have hil : (i : Int) < (L.l.length : Int) := by omega
    have hd : decide ((i : Int) < 0) = false := decide_eq_false (by omega)
    clear ha hb hL h hs hsn hlt
    go_enter Tryd.func28, Tryd.ntmps28
    go_wp2_with fail
    refine hf.mono ?_
    rintro e w2 ⟨v, rfl, rfl, hS2⟩
    clear hf
    obtain ⟨lv, hR⟩ := LogRep.open2 hS2
    rcases (hR.pick (by first | ((repeat (first | with_reducible apply pick0 | with_reducible apply pick_there)); done) | ((repeat (first | apply pick0 | apply pick_there)); done) | fail)).osl_cases with ⟨hl, hx, hF⟩ | ⟨b, n', cap, cs, rfl, hll, hn', hc, hcm, htk, hp⟩
    · exfalso
      have := (segw_at _ _ _ Hs.out).1
      rw [hx] at this; simp at this
    · rw [segw_len] at hll
      obtain rfl : n' = L.l.length := by omega
      have e2 : w2.cell? ⟨b, i * 2 + 1, none⟩ = some (.int .i64 s.2) := by
        have := take_get htk (segw_at _ _ _ Hs.out).2
        rw [Nat.mul_comm 2 i] at this
        exact hp.cellP (by first | ((repeat (first | with_reducible apply pick0 | with_reducible apply pick_there)); done) | ((repeat (first | apply pick0 | apply pick_there)); done) | fail) _ this
      clear hp htk hc hn' hll hcm
      go_wp2_with ((with_reducible apply at_load); refine ⟨?_⟩; refine wl_load1 (by assumption) (by rfl) (by first | ((repeat (first | with_reducible apply pick0 | with_reducible apply pick_there)); done) | ((repeat (first | apply pick0 | apply pick_there)); done) | fail) (Nat.le_of_ble_eq_true (by rfl)) (by conv => lhs; whnf) (by kernel_rfl) ?_)
      go_ret
      rw [Hfin.out]
      exact ⟨_, rfl, rfl, hS2⟩
set_option maxRecDepth 20000 in
set_option maxHeartbeats 4000000 in
theorem lbytes_c (hL : L.Ok) (hM : M.Ok K) (n : Int) (h : Sat w0 w (LogRep p m L :: MedRep m M :: F)) :
    Calls Tryd.prog 18 #[ptr p, .int .i64 n] w (Rtn fun v w' => ∃ bv, v = .tuple #[bv, errno (L.bytes M n).2] ∧ Sat w0 w' (bsl bv (L.bytes M n).1 :: LogRep p m L :: MedRep m M :: F)) := by
  obtain ⟨lv, hR⟩ := LogRep.open2 h
  have hok := ok_c hR
  have hf := lfind_c hL n h
  rcases find_neg (L := L) n with ⟨ha, hb⟩ | ⟨i, ha, hb⟩
  · have Hfin := Lib.hid (show L.bytes M n = ([], 9) by unfold Seg.Log.bytes; rw [ha])
    rw [hb] at hf
    clear ha hb hL h hR
    go_enter Tryd.func18, Tryd.ntmps18
    go_wp2_with fail
    refine hok.mono ?_
    rintro e w2 ⟨v, rfl, rfl, rfl⟩
    clear hok
    go_wp2_with fail
    refine hf.mono ?_
    rintro e w2 ⟨v, rfl, rfl, hS2⟩
    clear hf
    go_wp2
    go_ret2
    rw [Hfin.out]
    exact ⟨_, rfl, .slice none 0 0, rfl, Sat.osl_nil.2 hS2⟩
  · rw [hb] at hf
    have Hfin := Lib.hid (show L.bytes M n = M.all (Seg.name n) by unfold Seg.Log.bytes; rw [ha])
    have hi0 : (0 : Int) ≤ (i : Int) := by omega
    have hd : decide ((i : Int) < 0) = false := decide_eq_false (by omega)
    clear ha hb hL h hR lv
    go_enter Tryd.func18, Tryd.ntmps18
    go_wp2_with fail
    refine hok.mono ?_
    rintro e w2 ⟨v, rfl, rfl, rfl⟩
    clear hok
    go_wp2_with fail
    refine hf.mono ?_
    rintro e w2 ⟨v, rfl, rfl, hS2⟩
    clear hf
    obtain ⟨lv, hR⟩ := LogRep.open2 hS2
    clear hS2
    go_wp2_with fail
    refine wpL_begin [6, 7, 8, 9, 10] (fun w' => w'.cell? ⟨p, 0, none⟩ = some (ptr m)) (by kernel_rfl) ?_
    have hG : w2.drew.cell? ⟨p, 0, none⟩ = some (ptr m) := hR.drew.cellP (by first | ((repeat (first | with_reducible apply pick0 | with_reducible apply pick_there)); done) | ((repeat (first | apply pick0 | apply pick_there)); done) | fail) 0 rfl
    refine rg_pure 0 (by conv => lhs; whnf) (by kernel_rfl) (by intro _ _ _ h; exact h) (yl_move (by conv => lhs; whnf)) (by go_frame; first | done | rfl) ?_
    refine rg_pure 1 (by conv => lhs; whnf) (by kernel_rfl) (by intro _ _ _ h; exact h) (yl_nil (by conv => lhs; whnf)) (by go_frame; first | done | rfl) ?_
    refine rg_pure 2 (by conv => lhs; whnf) (by kernel_rfl) (by intro _ _ _ h; exact h) (yl_field (by conv => lhs; whnf) (by ((intro wq; go_simp); first | done | (with_reducible rfl)))) (by go_frame; first | done | rfl) ?_
    refine rg_take 3 (by conv => lhs; whnf) (by kernel_rfl) (by intro _ _ _ h; exact h) (by first | exact tk_load (by conv => lhs; whnf) (by kernel_rfl) (by intro wq hq; first | exact hq | exact hq.1 | exact hq.2 | exact hq.2.1 | exact hq.2.2 | exact hq.2.2.1 | exact hq.2.2.2 | exact hq.2.2.2.1 | exact hq.2.2.2.2) | (refine Or.inl ⟨by rfl, ?_⟩; (intro wq hq; go_split_ands; go_simp); first | done | (with_reducible rfl))) (by assumption) (by go_frame; first | done | rfl) ?_
    refine rg_pure 4 (by conv => lhs; whnf) (by kernel_rfl) (by intro _ _ _ h; exact h) (yl_move (by conv => lhs; whnf)) (by go_frame; first | done | rfl) ?_
    clear hG
    refine rg_eff 5 (by conv => lhs; whnf) (by kernel_rfl) (fun K hK => ?_)
    (refine eff_call1 (by kernel_rfl) (by conv => lhs; whnf) ?_)
    refine (sname_c n hR.drew).mono ?_
    rintro e w3 ⟨v, rfl, rfl, hS3⟩
    refine hK _ _ (.inr (.inl (hS3.cellP (by first | ((repeat (first | with_reducible apply pick0 | with_reducible apply pick_there)); done) | ((repeat (first | apply pick0 | apply pick_there)); done) | fail) 0 rfl))) ?_
    clear hK K hR
    refine rg_eff 6 (by conv => lhs; whnf) (by kernel_rfl) (fun K hK => ?_)
    (refine eff_call2 (by kernel_rfl) (by conv => lhs; whnf) (by conv => lhs; whnf) ?_)
    refine (all_c hM (Sat.pick (by assumption) (by first | ((repeat (first | with_reducible apply pick0 | with_reducible apply pick_there)); done) | ((repeat (first | apply pick0 | apply pick_there)); done) | fail)) _).mono ?_
    rintro e w4 ⟨v, rfl, bv, rfl, hS4⟩
    refine hK _ _ (.inl rfl) ?_
    clear hK K hS3
    refine rg_pure 7 (by conv => lhs; whnf) (by kernel_rfl) (by intro _ _ _ h; exact h) (yl_extract (by conv => lhs; whnf) (by ((intro wq; go_simp); first | done | (with_reducible rfl)))) (by go_frame; first | done | rfl) ?_
    refine rg_pure 8 (by conv => lhs; whnf) (by kernel_rfl) (by intro _ _ _ h; exact h) (yl_extract (by conv => lhs; whnf) (by ((intro wq; go_simp); first | done | (with_reducible rfl)))) (by go_frame; first | done | rfl) ?_
    refine rg_pure 9 (by conv => lhs; whnf) (by kernel_rfl) (by intro _ _ _ h; exact h) (yl_assign (by conv => lhs; whnf)) (by go_frame; first | done | rfl) ?_
    refine rg_pure 10 (by conv => lhs; whnf) (by kernel_rfl) (by intro _ _ _ h; exact h) (yl_assign (by conv => lhs; whnf)) (by go_frame; first | done | rfl) ?_
    refine wpL_done (by kernel_rfl) ?_
    go_wp2
    go_ret2
    rw [Hfin.out]
    exact ⟨_, rfl, bv, rfl, Sat.sub (LogRep.shut2 (lv := lv) (hS4.sub (by repeat (first | (with_reducible apply sub_refl) | ((with_reducible apply sub_take); (· first | ((repeat (first | with_reducible apply pick0 | with_reducible apply pick_there)); done) | ((repeat (first | apply pick0 | apply pick_there)); done) | fail)) | (with_reducible apply sub_drop))))) (by repeat (first | (with_reducible apply sub_refl) | ((with_reducible apply sub_take); (· first | ((repeat (first | with_reducible apply pick0 | with_reducible apply pick_there)); done) | ((repeat (first | apply pick0 | apply pick_there)); done) | fail)) | (with_reducible apply sub_drop)))⟩
end
end Go.Proofs.YtjklhichekmdhaaDoor
/- Segments; slices.Delete. -/
namespace Go.Seg
def Log.segs (L : Log) : List Int := L.l.map (·.1)
end Go.Seg
namespace Go.Proofs.YtjklhichekmdhaaDoor
open Go Go.Sl Go.Med Go.MapKept Go.RowKit
set_option linter.unusedVariables false
theorem zSeg : zeroB Tryd.prog 94 = some (.agg #[.int .i64 0, .int .i64 0]) := by kernel_rfl
section
variable {w0 w : World} {F R : List HProp} {v bv dv x lv : Value} {q p m K : Nat} {L : Seg.Log} {M : Med} {s : Int × Int}
theorem ints_app (l k : List Int) : ints (l ++ k) = ints l ++ ints k := by unfold ints; rw [List.map_append]
theorem ints_length (l : List Int) : (ints l).length = l.length := by unfold ints; rw [List.length_map]
/-- The segments' cells, whatever the slice. -/
theorem segs_open (hln : L.l.length ≤ 1048576) (h : Sat w0 w (logPt p m L lv :: osl 94 2 lv (segw L.l) :: F)) :
    (L.l = [] ∧ lv = .slice none 0 0) ∨ ∃ b cap cs, lv = .slice (some ⟨b, 0, none⟩) L.l.length cap ∧ (∀ (i : Nat) (s : Int × Int), L.l[i]? = some s → cs[i * 2]? = some (.int .i64 s.1) ∧ cs[i * 2 + 1]? = some (.int .i64 s.2)) ∧
      Sat w0 w (pt b (.cells cs 94 (0,0)) :: logPt p m L lv :: F) ∧ ∀ w1 G, Sat w0 w1 (pt b (.cells cs 94 (0,0)) :: G) → Sat w0 w1 (osl 94 2 lv (segw L.l) :: G) := by
  have h' := h.pick1
  rcases h'.osl_cases with ⟨rfl, hx, hF⟩ | ⟨b, n', cap, cs, rfl, hll, hn', hc, hcm, htk, hp⟩
  · left
    refine ⟨?_, rfl⟩
    cases hl : L.l with
    | nil => rfl
    | cons a l => rw [hl] at hx; simp [segw] at hx
  · right
    rw [segw_len] at hll
    obtain rfl : n' = L.l.length := by omega
    refine ⟨b, cap, cs, rfl, ?_, hp, fun w1 G hS => Sat.osl_of_pt hS (by rw [segw_len]; omega) hn' hc hcm htk⟩
    intro i s hs
    obtain ⟨h1, h2⟩ := segw_at _ _ _ hs
    rw [Nat.mul_comm i 2]
    exact ⟨take_get htk h1, take_get htk h2⟩
set_option maxRecDepth 20000 in
set_option maxHeartbeats 8000000 in
theorem lsegs_c (hL : L.Ok) (h : Sat w0 w (LogRep p m L :: F)) :
    Calls Tryd.prog 15 #[ptr p] w (Rtn fun v w' => Sat w0 w' (osl 3 1 v (ints L.segs) :: LogRep p m L :: F)) := by
  obtain ⟨lv, hR⟩ := LogRep.open2 h
  clear h
  have hok := ok_c hR
  rcases segs_open hL.len hR with ⟨hnil, rfl⟩ | ⟨b, cap, cs, rfl, hcl, hp, hend⟩
  · have Hfin := Lib.hid (show L.segs = [] by unfold Seg.Log.segs; rw [hnil]; rfl)
    clear hnil hL
    go_enter Tryd.func15, Tryd.ntmps15
    go_wp2_with fail
    refine hok.mono ?_
    rintro e w2 ⟨v, rfl, rfl, rfl⟩
    clear hok
    go_wp2_with ((with_reducible apply at_load); refine ⟨?_⟩; refine wl_load1 (by assumption) (by rfl) (by first | ((repeat (first | with_reducible apply pick0 | with_reducible apply pick_there)); done) | ((repeat (first | apply pick0 | apply pick_there)); done) | fail) (Nat.le_of_ble_eq_true (by rfl)) (by conv => lhs; whnf) (by kernel_rfl) ?_)
    go_loopg [14, 3] 0 (fun g iq ov wr => iq = .int .i64 0 ∧ ov = .slice none 0 0 ∧ wr = w)
    case atStart => exact ⟨rfl, rfl, rfl⟩
    case round =>
      obtain ⟨rfl, rfl, rfl⟩ := hrel
      go_wp2
      go_ret
      rw [Hfin.out]
      exact ⟨_, rfl, Sat.osl_nil.2 (LogRep.shut2 hR)⟩
  · have Hcl := Lib.hid hcl
    have Hend := Lib.hid hend
    have Hln := Lib.hid hL.len
    clear hcl hend hL hR
    go_enter Tryd.func15, Tryd.ntmps15
    go_wp2_with fail
    refine hok.mono ?_
    rintro e w2 ⟨v, rfl, rfl, rfl⟩
    clear hok
    go_wp2_with ((with_reducible apply at_load); refine ⟨?_⟩; refine wl_load1 (by assumption) (by rfl) (by first | ((repeat (first | with_reducible apply pick0 | with_reducible apply pick_there)); done) | ((repeat (first | apply pick0 | apply pick_there)); done) | fail) (Nat.le_of_ble_eq_true (by rfl)) (by conv => lhs; whnf) (by kernel_rfl) ?_)
    go_loopg [14, 3] L.l.length (fun g iq ov wr => ∃ i : Nat, g = L.l.length - i ∧ i ≤ L.l.length ∧ iq = .int .i64 i ∧
      Sat w0 wr (osl 3 1 ov (ints ((L.l.take i).map (·.1))) :: pt b (.cells cs 94 (0,0)) :: logPt p m L (.slice (some ⟨b, 0, none⟩) L.l.length cap) :: F))
    case atStart => exact ⟨0, rfl, Nat.zero_le _, rfl, Sat.osl_nil.2 hp⟩
    case round =>
      obtain ⟨i, rfl, hi, rfl, hS⟩ := hrel
      clear hp
      by_cases hlt : i < L.l.length
      · obtain ⟨s, hs⟩ : ∃ s, L.l[i]? = some s := ⟨_, List.getElem?_eq_getElem hlt⟩
        have Htk := Lib.hid (show ints ((L.l.take i).map (·.1)) ++ [.int .i64 s.1] = ints ((L.l.take (i + 1)).map (·.1)) by
          rw [List.take_add_one, hs, List.map_append, ints_app]; rfl)
        have hlen : (ints ((L.l.take i).map (·.1))).length ≤ 2147483648 := by
          rw [ints_length, List.length_map, List.length_take]; have := Hln.out; omega
        obtain ⟨d0, d1⟩ := Hcl.out i s hs
        have Hd0 := Lib.hid d0; have Hd1 := Lib.hid d1; have Hlt := Lib.hid hlt
        have hic : (i : Int) < (L.l.length : Int) := by omega
        have hwi : IntKind.i64.wrap ((i : Int) + 1) = (i : Int) + 1 := IntWalk.i64_in _ (by have := Hln.out; omega)
        clear hs d0 d1 hlt
        go_wp2_with (first
          | ((with_reducible apply at_load); refine ⟨?_⟩; refine wl_loadN (b := b) (o := i * 2) [.int .i64 s.1, .int .i64 s.2] (by assumption) (by rfl) (by first | ((repeat (first | with_reducible apply pick0 | with_reducible apply pick_there)); done) | ((repeat (first | apply pick0 | apply pick_there)); done) | fail) (fun j v hj => by
              rcases j with _ | _ | j
              · cases hj; exact Hd0.out
              · cases hj; exact Hd1.out
              · simp at hj) Tryd.underlying94 rfl (by kernel_rfl) ?_)
          | (refine wl_alloc zSeg (by assumption) rfl ?_; intro q3 w3 hS3)
          | ((with_reducible apply at_store); refine ⟨?_⟩; refine wl_store (by assumption) (by rfl) (by conv => lhs; whnf) (by first | (simp only [putsAt, Value.cells]; (try go_frame); first | done | rfl) | rfl) (by first | ((repeat (first | with_reducible apply upd0 | with_reducible apply upd_there)); done) | ((repeat (first | apply upd0 | apply upd_there)); done) | fail) (Nat.le_of_ble_eq_true (by rfl)) (by kernel_rfl) (by rfl) ?_; intro wS hS) | ((with_reducible apply at_load); refine ⟨?_⟩; refine wl_load1 (by assumption) (by rfl) (by first | ((repeat (first | with_reducible apply pick0 | with_reducible apply pick_there)); done) | ((repeat (first | apply pick0 | apply pick_there)); done) | fail) (Nat.le_of_ble_eq_true (by rfl)) (by conv => lhs; whnf) (by kernel_rfl) ?_) | ((with_reducible apply at_build1); refine ⟨?_⟩; refine wl_build1 (e := 3) (sz := 1) (by' := 8) (by kernel_rfl) (by assumption) (by conv => lhs; whnf) (by conv => lhs; whnf) (by rfl) (Nat.le_of_ble_eq_true (by rfl)) ?_; intro bN wN hN) | ((with_reducible apply at_append); refine ⟨?_⟩; refine wl_app 3 1 8 (by kernel_rfl) (by assumption) (by rfl) (by rfl) (by first | ((repeat (first | with_reducible apply pick0 | with_reducible apply pick_there)); done) | ((repeat (first | apply pick0 | apply pick_there)); done) | fail) (by first | ((repeat (first | with_reducible apply pick0 | with_reducible apply pick_there)); done) | ((repeat (first | apply pick0 | apply pick_there)); done) | fail) (by rfl) (Nat.le_of_ble_eq_true (by rfl)) (by rfl) (by assumption) (Nat.le_of_ble_eq_true (by rfl)) (Nat.le_of_ble_eq_true (by rfl)) (by conv => lhs; whnf) ?_; intro bA nA cA wA hA))
        go_roundg (L.l.length - (i + 1))
        case measure => have := Hlt.out; omega
        case rel =>
          refine ⟨i + 1, rfl, Nat.succ_le_of_lt Hlt.out, by first | rfl | go_num, ?_⟩
          rw [Htk.out] at hA
          exact Sat.sub hA (by repeat (first | (with_reducible apply sub_refl) | ((with_reducible apply sub_take); (· first | ((repeat (first | with_reducible apply pick0 | with_reducible apply pick_there)); done) | ((repeat (first | apply pick0 | apply pick_there)); done) | fail)) | (with_reducible apply sub_drop)))
      · obtain rfl : i = L.l.length := by omega
        have hic : ¬ (L.l.length : Int) < (L.l.length : Int) := by omega
        rw [List.take_length] at hS
        clear hi hlt
        go_wp2
        go_ret
        refine ⟨_, rfl, ?_⟩
        have h7 := Hend.out _ _ (hS.pick (by first | ((repeat (first | with_reducible apply pick0 | with_reducible apply pick_there)); done) | ((repeat (first | apply pick0 | apply pick_there)); done) | fail))
        exact Sat.sub (LogRep.shut2 (lv := .slice (some ⟨b, 0, none⟩) L.l.length cap) (Sat.sub h7 (by repeat (first | (with_reducible apply sub_refl) | ((with_reducible apply sub_take); (· first | ((repeat (first | with_reducible apply pick0 | with_reducible apply pick_there)); done) | ((repeat (first | apply pick0 | apply pick_there)); done) | fail)) | (with_reducible apply sub_drop))))) (by repeat (first | (with_reducible apply sub_refl) | ((with_reducible apply sub_take); (· first | ((repeat (first | with_reducible apply pick0 | with_reducible apply pick_there)); done) | ((repeat (first | apply pick0 | apply pick_there)); done) | fail)) | (with_reducible apply sub_drop)))
end
end Go.Proofs.YtjklhichekmdhaaDoor
/- slices.Delete of one segment. -/
namespace Go.Proofs.YtjklhichekmdhaaDoor
open Go Go.Sl Go.Med Go.MapKept Go.RowKit
set_option linter.unusedVariables false
section
variable {P : Program} {w0 w : World} {F R L : List HProp} {b : Nat} {ops : Array Oper} {rest : List Oper} {a : Act} {Q : Exit → Act → World → Prop}
variable {dst : Option Tmp} {t ty T e : TypeId} {pos : String} {after : Array Edge} {x y : Operand} {cs : Array Value} {v : Value} {o n c k cap sz by' : Nat} {ad : Addr} {ys : List Value}
/-- An append that stays in its block; what is put may lie in the same block. -/
theorem eff_app_in (sz by' : Nat) {K : Act → World → Prop} {E : Prop} (hb : appB P ty e sz by' = true) (hv : a.eval x = .slice (some ⟨b, 0, none⟩) k cap) (hy : a.eval y = .slice (some ad) n c)
    (h : Sat w0 w (pt b (.cells cs T (0,0)) :: F)) (hl : ys.length = n * sz) (hnews : ∀ j u, ys[j]? = some u → w.cell? (ad.add j) = some u) (h1 : ∀ u ∈ ys, u.oneCell' = true) (hroom : k + n ≤ cap) (hc : cap * sz ≤ cs.size)
    (hK : ∀ w', Sat w0 w' (pt b (.cells (putsAt cs (k * sz) ys) T (0,0)) :: F) → K (a.put dst (.slice (some ⟨b, 0, none⟩) (k + n) cap)) w') :
    if Region.wanted ⟨dst, .call { callee := .builtin .append, args := #[x, y], argTypes := #[ty, ty] }, t, pos, after, none⟩ (yielded ops a.tmps) = true then
      Oper.wp P ⟨dst, .call { callee := .builtin .append, args := #[x, y], argTypes := #[ty, ty] }, t, pos, after, none⟩ a w K Q else E := by
  rw [if_pos (want_none _ rfl)]
  obtain ⟨hu, i, z, hi, hz, e1, e2, e3, e4⟩ := appB_spec hb
  subst e1
  have hle : (k + n) * i.size ≤ cs.size := Nat.le_trans (Nat.mul_le_mul_right _ hroom) hc
  rw [Nat.add_mul] at hle
  have hr := run_append_room_cells (P := P) (w := w) ty t e i hu hi b 0 k cap ad n c ys hl hnews h1 hroom (fun j hj => by
      rw [Nat.zero_add, h.cellAt (k * i.size + j) _ (Array.getElem?_eq_getElem (show k * i.size + j < cs.size by omega))]; rfl) (fun j hj => h.freeAt _)
  rw [Nat.zero_add] at hr
  unfold Oper.wp execOp
  simp only [resolve, invoke, builtin, Sem.run_bind, Sem.run_pure, Result.andThen_ok, List.map_toArray, List.map_cons, List.map_nil, hv, hy, hr]
  exact hK _ (Sat.sets ys (k * i.size) h)
theorem yl_slice_lo {vx vy : Value} (hx : a.eval x = vx) (hy : a.eval y = vy) (hr : ∀ w, (Instr.sliceAt ty vx (some vy) none none).run P w = .ok v w) : Yields P ops ⟨dst, .slice ty x (some y) none none, t, pos, after, none⟩ v a :=
  .inl ⟨want_none _ rfl, fun w => by simp only [execOp, hx, hy, Option.map_some, Option.map_none, Sem.run_bind, hr, Result.andThen_ok, Sem.run_pure]⟩
/-- 'clear' of the last element. -/
theorem run_clear1 (sz : Nat) {z : Value} (hu : P.underlying ty = some (.slice e)) (hz : zeroB P e = some z) (hzs : z.cells.size = sz) (h1 : z.cells.toList.all (·.oneCell') = true) {o : Nat} (hfit : o + sz ≤ cs.size)
    (h : Sat w0 w (pt b (.cells cs T (0,0)) :: F)) :
    ∃ w', (Builtin.clear_ #[ty] t #[.slice (some ⟨b, o, none⟩) 1 c]).run P w = .ok (.tuple #[]) w' ∧ Sat w0 w' (pt b (.cells (putsAt cs o z.cells.toList) T (0,0)) :: F) := by
  refine ⟨w.setCells b o z.cells.toList, ?_, Sat.sets _ _ h⟩
  have hzc : (Builtin.zeroCells z.cells 1).toList = z.cells.toList := by
    unfold Builtin.zeroCells
    simp only [Array.toList_map, Array.toList_range, Nat.one_mul]
    apply List.ext_getElem (by simp)
    intro i q1 q2
    have hi : i < z.cells.size := by simpa using q2
    simp [Nat.mod_eq_of_lt hi, hi]
  have hst := run_storeCells_cells (P := P) b o z.cells.toList 0 w (fun j hj => by
      rw [Nat.add_zero, h.cellAt (o + j) _ (Array.getElem?_eq_getElem (show o + j < cs.size by simp at hj; omega))]; rfl) (fun j hj => h.freeAt _) (fun u hu => (List.all_eq_true.1 h1) u hu)
  simp only [Nat.add_zero] at hst
  simp [Builtin.clear_, run_underlying hu, run_zeroB hz w, hzc, hst]
theorem wl_clear1 (sz : Nat) {z : Value} (hu : P.underlying ty = some (.slice e)) (hz : zeroB P e = some z) (hzs : z.cells.size = sz) (h1 : z.cells.toList.all (·.oneCell') = true) (hx : a.eval x = .slice (some ⟨b, o, none⟩) 1 c) (hfit : o + sz ≤ cs.size)
    (h : Sat w0 w (pt b (.cells cs T (0,0)) :: F)) (hK : ∀ w', Sat w0 w' (pt b (.cells (putsAt cs o z.cells.toList) T (0,0)) :: F) → wpList P ops Q rest (a.put dst (.tuple #[])) w') :
    wpList P ops Q (⟨dst, .call { callee := .builtin .clear, args := #[x], argTypes := #[ty] }, t, pos, after, none⟩ :: rest) a w := by
  refine wpList_plain rfl fun _ hK' => ?_
  obtain ⟨w', hr, hS⟩ := run_clear1 (P := P) (t := t) (c := c) sz hu hz hzs h1 hfit h
  unfold Oper.wp execOp
  simp only [resolve, invoke, builtin, Sem.run_bind, Sem.run_pure, Result.andThen_ok, List.map_toArray, List.map_cons, List.map_nil, hx, hr]
  exact hK' _ _ (hK w' hS)
theorem at_clear (h : Stop (wpList P ops Q (⟨dst, .call { callee := .builtin .clear, args := #[x], argTypes := #[ty] }, t, pos, after, none⟩ :: rest) a w)) : wpList P ops Q (⟨dst, .call { callee := .builtin .clear, args := #[x], argTypes := #[ty] }, t, pos, after, none⟩ :: rest) a w := h.out
end
section
variable {w0 w : World} {F R : List HProp} {v bv dv x lv : Value} {q p m K : Nat}
/-- The cells behind the removal of one segment. -/
theorem del_cells {l : List (Int × Int)} {i cap : Nat} {cs : Array Value} (hi : i < l.length) (hn : l.length ≤ cap) (hc : cap * 2 ≤ cs.size) (htk : cs.toList.take (l.length * 2) = segw l) (z : List Value) (hz : z.length = 2) :
    (putsAt (putsAt cs (i * 2) (segw (l.drop (i + 1)))) ((l.length - 1) * 2) z).toList.take ((l.length - 1) * 2) = segw (l.eraseIdx i) := by
  have hys : (segw (l.drop (i + 1))).length = (l.length - (i + 1)) * 2 := by rw [segw_len, List.length_drop, Nat.mul_comm]
  have hcl : cs.toList.length = cs.size := by simp
  rw [putsAt_list _ _ _ (by rw [putsAt_size]; omega), List.append_assoc, List.take_append, List.take_take, Nat.min_self]
  have hp2 : (putsAt cs (i * 2) (segw (l.drop (i + 1)))).toList.length = cs.size := (Array.length_toList).trans (putsAt_size _ _ _)
  have h1 : ((putsAt cs (i * 2) (segw (l.drop (i + 1)))).toList.take ((l.length - 1) * 2)).length = (l.length - 1) * 2 := by
    rw [List.length_take, hp2]; omega
  rw [h1, Nat.sub_self, List.take_zero, List.append_nil, putsAt_list _ _ _ (by omega), List.append_assoc]
  rw [List.take_append, List.length_take, hcl, Nat.min_eq_left (by omega), List.take_of_length_le (l := cs.toList.take (i * 2)) (by rw [List.length_take]; omega)]
  rw [List.take_append, hys, List.take_of_length_le (l := segw (l.drop (i + 1))) (by omega), show (l.length - 1) * 2 - i * 2 - (l.length - (i + 1)) * 2 = 0 by omega, List.take_zero, List.append_nil]
  have h2 : cs.toList.take (i * 2) = segw (l.take i) := by
    have := congrArg (List.take (i * 2)) htk
    rw [List.take_take, Nat.min_eq_left (by omega)] at this
    rw [this]
    conv => lhs; rw [← List.take_append_drop i l, segw_app]
    rw [List.take_append_of_le_length (by rw [segw_len, List.length_take]; omega), List.take_of_length_le (by rw [segw_len, List.length_take]; omega)]
  rw [h2, ← segw_app, List.eraseIdx_eq_take_drop_succ]
theorem segw_drop (l : List (Int × Int)) (i : Nat) : segw (l.drop i) = (segw l).drop (i * 2) := by
  rcases Nat.lt_or_ge i l.length with h | h
  · have h1 : segw l = segw (l.take i) ++ segw (l.drop i) := by rw [← segw_app, List.take_append_drop]
    have h2 : (segw (l.take i)).length = i * 2 := by rw [segw_len, List.length_take]; omega
    rw [h1, ← h2, List.drop_left]
  · rw [List.drop_of_length_le h, List.drop_of_length_le (by rw [segw_len]; omega)]; rfl
theorem segw_one (l : List (Int × Int)) : ∀ u ∈ segw l, u.oneCell' = true := by
  intro u hu
  unfold segw at hu
  rw [List.mem_flatMap] at hu
  obtain ⟨s, _, hs⟩ := hu
  simp only [List.mem_cons, List.not_mem_nil, or_false] at hs
  rcases hs with rfl | rfl <;> rfl
set_option maxRecDepth 20000 in
set_option maxHeartbeats 8000000 in
theorem sdelete_c (l : List (Int × Int)) (i : Nat) (hi : i < l.length) (hln : l.length ≤ 1048576) (h : Sat w0 w (osl 94 2 lv (segw l) :: F)) :
    Calls Tryd.prog 57 #[lv, .int .i64 i, .int .i64 ((i : Int) + 1)] w (Rtn fun v w' => ∃ a n c, v = .slice a n c ∧ Sat w0 w' (osl 94 2 v (segw (l.eraseIdx i)) :: F)) := by
  rcases h.osl_cases with ⟨rfl, hx, hF⟩ | ⟨b, n', cap, cs, rfl, hll, hn', hc, hcm, htk, hp⟩
  · exfalso
    have := congrArg List.length hx
    rw [segw_len] at this; simp at this; omega
  rw [segw_len] at hll
  obtain rfl : n' = l.length := by omega
  have hcm' : cap ≤ 9223372036854775807 := hcm
  have Hdel := Lib.hid (del_cells hi hn' hc htk [.int .i64 0, .int .i64 0] rfl)
  have h0 : (0 : Int) ≤ (i : Int) := by omega
  have h1 : (i : Int) ≤ (i : Int) + 1 := by omega
  have h2 : (i : Int) + 1 ≤ (l.length : Int) := by omega
  have h3 : (l.length : Int) ≤ (cap : Int) := by omega
  have hne : ((i : Int) == (i : Int) + 1) = false := by rw [beq_eq_false_iff_ne]; omega
  have Hp := Lib.hid hp; have Hcm := Lib.hid hcm; have Hc := Lib.hid hc; have Hn := Lib.hid hn'; have Htk := Lib.hid htk; have Hi := Lib.hid hi; have Hln := Lib.hid hln
  clear hn' hc hcm htk hi h hll hln
  go_enter Tryd.func57, Tryd.ntmps57
  go_wp2_with fail
  obtain ⟨ad, had, hsl⟩ : ∃ ad : Addr, (i + 1 < l.length → ad = ⟨b, (i + 1) * 2, none⟩) ∧ ∀ w, (Instr.sliceAt 87 (.slice (some ⟨b, 0, none⟩) l.length cap) (some (.int .i64 ((i : Int) + 1))) none none).run Tryd.prog w = .ok (.slice (some ad) (l.length - (i + 1)) (cap - (i + 1))) w := by
    by_cases hce : cap = i + 1
    · refine ⟨⟨b, 0, none⟩, fun hh => by have := Hn.out; omega, fun w => ?_⟩
      have h4 : (0 : Int) ≤ (i : Int) + 1 := by omega
      have h5 : ((i : Int) + 1).toNat = i + 1 := by omega
      go_simp
    · refine ⟨⟨b, (i + 1) * 2, none⟩, fun _ => rfl, fun w => ?_⟩
      have h4 : (0 : Int) ≤ (i : Int) + 1 := by omega
      have h5 : ((i : Int) + 1).toNat = i + 1 := by omega
      go_simp
  have hic : i ≤ cap := by omega
  refine wpL_begin [] (fun _ => True) (by kernel_rfl) ?_
  refine rg_pure 0 (by conv => lhs; whnf) (by kernel_rfl) (by intro _ _ _ h; exact h) (yl_move (by conv => lhs; whnf)) (by go_frame; first | done | rfl) ?_
  refine rg_pure 1 (by conv => lhs; whnf) (by kernel_rfl) (by intro _ _ _ h; exact h) (yl_move (by conv => lhs; whnf)) (by go_frame; first | done | rfl) ?_
  refine rg_pure 2 (by conv => lhs; whnf) (by kernel_rfl) (by intro _ _ _ h; exact h) (by (refine Or.inl ⟨by rfl, ?_⟩; ((intro wq; go_simp); first | done | (with_reducible rfl)))) (by go_frame; first | done | rfl) ?_
  refine rg_pure 3 (by conv => lhs; whnf) (by kernel_rfl) (by intro _ _ _ h; exact h) (yl_move (by conv => lhs; whnf)) (by go_frame; first | done | rfl) ?_
  refine rg_pure 4 (by conv => lhs; whnf) (by kernel_rfl) (by intro _ _ _ h; exact h) (yl_move (by conv => lhs; whnf)) (by go_frame; first | done | rfl) ?_
  refine rg_pure 5 (by conv => lhs; whnf) (by kernel_rfl) (by intro _ _ _ h; exact h) (yl_slice_lo (by conv => lhs; whnf) (by conv => lhs; whnf) hsl) (by go_frame; first | done | rfl) ?_
  refine rg_eff 6 (by conv => lhs; whnf) (by kernel_rfl) (fun K hK => ?_)
  refine eff_app_in (e := 94) (w0 := w0) (b := b) (cs := cs) (k := i) (ys := segw (l.drop (i + 1))) 2 16 (by kernel_rfl) (by rfl) (by rfl) Hp.out.drew (by rw [segw_len, List.length_drop, Nat.mul_comm]) ?_ (segw_one _) (by have := Hn.out; have := Hi.out; omega) Hc.out ?_
  · intro j u hj
    have hjl := (List.getElem?_eq_some_iff.1 hj).1
    rw [segw_len, List.length_drop] at hjl
    rw [had (by omega), Addr.add_mid]
    rw [segw_drop, List.getElem?_drop] at hj
    exact Hp.out.drew.cellAt _ _ (take_get Htk.out hj)
  intro w2 hS2
  refine hK _ _ (.inr (.inl trivial)) ?_
  clear hK K
  rw [show i + (l.length - (i + 1)) = l.length - 1 by have := Hi.out; omega]
  have hj0 : (0 : Int) ≤ ((l.length - 1 : Nat) : Int) := by omega
  have hj1 : ((l.length - 1 : Nat) : Int) ≤ (l.length : Int) := by omega
  have hj2 : ¬ cap = l.length - 1 := by have := Hn.out; have := Hi.out; omega
  have hj3 : l.length - (l.length - 1) = 1 := by have := Hi.out; omega
  have hfit := Lib.hid (show (l.length - 1) * 2 + 2 ≤ (putsAt cs (i * 2) (segw (l.drop (i + 1)))).size by rw [putsAt_size]; have := Hc.out; have := Hn.out; have := Hi.out; omega)
  have Hk := Lib.hid (show (segw (l.eraseIdx i)).length = (l.length - 1) * 2 by rw [segw_len, List.length_eraseIdx_of_lt Hi.out, Nat.mul_comm])
  generalize (l.length - 1) = N at *
  refine rg_pure 7 (by conv => lhs; whnf) (by kernel_rfl) (by intro _ _ _ h; exact h) (yl_assign (by conv => lhs; whnf)) (by go_frame; first | done | rfl) ?_
  refine wpL_done (by kernel_rfl) ?_
  clear hp hsl had
  go_wp2_with ((with_reducible apply at_clear); refine ⟨?_⟩; refine wl_clear1 (o := N * 2) 2 Tryd.underlying87 zSeg (by rfl) (by rfl) (by rfl) hfit.out hS2 ?_; intro w3 hS3)
  go_ret
  refine ⟨_, rfl, _, _, _, rfl, ?_⟩
  exact Sat.osl_of_pt hS3 Hk.out (by have := Hn.out; omega) (by rw [putsAt_size, putsAt_size]; exact Hc.out) Hcm.out Hdel.out
end
end Go.Proofs.YtjklhichekmdhaaDoor
/- Remove, Rollback of any log. -/
namespace Go.Proofs.YtjklhichekmdhaaDoor
open Go Go.Sl Go.Med Go.MapKept Go.RowKit
set_option linter.unusedVariables false
section
variable {w0 w : World} {F R : List HProp} {v bv dv x lv : Value} {q p m K : Nat} {L : Seg.Log} {M : Med} {s : Int × Int}
set_option maxRecDepth 20000 in
set_option maxHeartbeats 16000000 in
theorem lremove_c (hL : L.Ok) (hM : M.Ok K) (hKK : K ≤ 1099511627776) (n : Int) (h : Sat w0 w (LogRep p m L :: MedRep m M :: F)) :
    Calls Tryd.prog 31 #[ptr p, .int .i64 n] w (Rtn fun v w' => v = errno (L.remove M n).2 ∧ Sat w0 w' (LogRep p m (L.remove M n).1.1 :: MedRep m (L.remove M n).1.2 :: F)) := by
  obtain ⟨lv, hR⟩ := LogRep.open2 h
  have hok := ok_c hR
  have hf := lfind_c hL n h
  clear hR lv
  rcases find_neg (L := L) n with ⟨ha, hb⟩ | ⟨i, ha, hb⟩
  · have Hfin := Lib.hid (show L.remove M n = ((L, M), 9) by unfold Seg.Log.remove; rw [ha])
    rw [hb] at hf
    clear ha hb hL h
    go_enter Tryd.func31, Tryd.ntmps31
    go_wp2_with fail
    refine hok.mono ?_
    rintro e w2 ⟨v, rfl, rfl, rfl⟩
    clear hok
    go_wp2_with fail
    refine hf.mono ?_
    rintro e w2 ⟨v, rfl, rfl, hS2⟩
    clear hf
    go_wp2
    go_ret
    rw [Hfin.out]
    exact ⟨_, rfl, rfl, hS2⟩
  · rw [hb] at hf
    have hlt := (Seg.Log.at_lt ha).1
    have Hg := Lib.hid (show L.remove M n = if (M.remove (Seg.name n)).2 = 0 then ((L.without i, (M.remove (Seg.name n)).1), 0) else ((L, (M.remove (Seg.name n)).1), (M.remove (Seg.name n)).2) by unfold Seg.Log.remove; rw [ha])
    have hi0 : (0 : Int) ≤ (i : Int) := by omega
    have hd : decide ((i : Int) < 0) = false := decide_eq_false (by omega)
    have Hlt := Lib.hid hlt; have Hln := Lib.hid hL.len; have Hfr := Lib.hid hL.fresh
    clear ha hb hL h hlt
    go_enter Tryd.func31, Tryd.ntmps31
    go_wp2_with fail
    refine hok.mono ?_
    rintro e w2 ⟨v, rfl, rfl, rfl⟩
    clear hok
    go_wp2_with fail
    refine hf.mono ?_
    rintro e w2 ⟨v, rfl, rfl, hS2⟩
    clear hf
    obtain ⟨lv, hR⟩ := LogRep.open2 hS2
    clear hS2
    go_wp2_with fail
    refine wpL_begin [6, 7] (fun w' => w'.cell? ⟨p, 0, none⟩ = some (ptr m)) (by kernel_rfl) ?_
    have hG : w2.drew.cell? ⟨p, 0, none⟩ = some (ptr m) := hR.drew.cellP (by first | ((repeat (first | with_reducible apply pick0 | with_reducible apply pick_there)); done) | ((repeat (first | apply pick0 | apply pick_there)); done) | fail) 0 rfl
    refine rg_pure 0 (by conv => lhs; whnf) (by kernel_rfl) (by intro _ _ _ h; exact h) (yl_move (by conv => lhs; whnf)) (by go_frame; first | done | rfl) ?_
    refine rg_pure 1 (by conv => lhs; whnf) (by kernel_rfl) (by intro _ _ _ h; exact h) (yl_nil (by conv => lhs; whnf)) (by go_frame; first | done | rfl) ?_
    refine rg_pure 2 (by conv => lhs; whnf) (by kernel_rfl) (by intro _ _ _ h; exact h) (yl_field (by conv => lhs; whnf) (by ((intro wq; go_simp); first | done | (with_reducible rfl)))) (by go_frame; first | done | rfl) ?_
    refine rg_take 3 (by conv => lhs; whnf) (by kernel_rfl) (by intro _ _ _ h; exact h) (by first | exact tk_load (by conv => lhs; whnf) (by kernel_rfl) (by intro wq hq; first | exact hq | exact hq.1 | exact hq.2 | exact hq.2.1 | exact hq.2.2 | exact hq.2.2.1 | exact hq.2.2.2 | exact hq.2.2.2.1 | exact hq.2.2.2.2) | (refine Or.inl ⟨by rfl, ?_⟩; (intro wq hq; go_split_ands; go_simp); first | done | (with_reducible rfl))) (by assumption) (by go_frame; first | done | rfl) ?_
    refine rg_pure 4 (by conv => lhs; whnf) (by kernel_rfl) (by intro _ _ _ h; exact h) (yl_move (by conv => lhs; whnf)) (by go_frame; first | done | rfl) ?_
    clear hG
    refine rg_eff 5 (by conv => lhs; whnf) (by kernel_rfl) (fun K hK => ?_)
    (refine eff_call1 (by kernel_rfl) (by conv => lhs; whnf) ?_)
    refine (sname_c n hR.drew).mono ?_
    rintro e w3 ⟨v, rfl, rfl, hS3⟩
    refine hK _ _ (.inr (.inl (hS3.cellP (by first | ((repeat (first | with_reducible apply pick0 | with_reducible apply pick_there)); done) | ((repeat (first | apply pick0 | apply pick_there)); done) | fail) 0 rfl))) ?_
    clear hK hR
    refine rg_eff 6 (by conv => lhs; whnf) (by kernel_rfl) (fun K hK => ?_)
    (refine eff_call2 (by kernel_rfl) (by conv => lhs; whnf) (by conv => lhs; whnf) ?_)
    refine (remove_c hM hKK (Sat.pick (by assumption) (by first | ((repeat (first | with_reducible apply pick0 | with_reducible apply pick_there)); done) | ((repeat (first | apply pick0 | apply pick_there)); done) | fail)) _).mono ?_
    rintro e w4 ⟨v, rfl, rfl, hS4⟩
    refine hK _ _ (.inl rfl) ?_
    clear hK hS3
    refine rg_pure 7 (by conv => lhs; whnf) (by kernel_rfl) (by intro _ _ _ h; exact h) (yl_assign (by conv => lhs; whnf)) (by go_frame; first | done | rfl) ?_
    refine wpL_done (by kernel_rfl) ?_
    clear hM
    generalize M.remove (Seg.name n) = B at *
    obtain ⟨M2, e2⟩ := B
    by_cases he : e2 = 0
    rotate_left
    · have heb : (e2 == 0) = false := beq_false_of_ne he
      have hfin := Lib.hid (Hg.out.trans (if_neg he))
      clear he
      go_wp2_with fail
      go_ret
      rw [hfin.out]
      exact ⟨_, rfl, rfl, LogRep.shut2 (lv := lv) (Sat.sub hS4 (by repeat (first | (with_reducible apply sub_refl) | ((with_reducible apply sub_take); (· first | ((repeat (first | with_reducible apply pick0 | with_reducible apply pick_there)); done) | ((repeat (first | apply pick0 | apply pick_there)); done) | fail)) | (with_reducible apply sub_drop))))⟩
    subst he
    have hfin := Lib.hid (Hg.out.trans (if_pos rfl))
    clear Hg
    obtain ⟨la, lc, rfl⟩ : ∃ la lc, lv = .slice la L.l.length lc := by
      obtain ⟨a, n', c, rfl, hn, _⟩ := Sat.rd (hS4.pick (A := osl 94 2 lv (segw L.l)) (by first | ((repeat (first | with_reducible apply pick0 | with_reducible apply pick_there)); done) | ((repeat (first | apply pick0 | apply pick_there)); done) | fail))
      rw [segw_len] at hn
      exact ⟨a, c, by rw [show n' = L.l.length by omega]⟩
    have hw1 : IntKind.i64.wrap ((L.l.length : Int) - 1) = (L.l.length : Int) - 1 := by rw [IntKind.wrap_i64]; have := Hln.out; omega
    have hw2 : IntKind.i64.wrap ((L.l.length : Int) - L.fresh) = (L.l.length : Int) - L.fresh := by rw [IntKind.wrap_i64]; have := Hln.out; have := Hfr.out; omega
    have hw3 : IntKind.i64.wrap (L.fresh - 1) = L.fresh - 1 := by rw [IntKind.wrap_i64]; have := Hln.out; have := Hfr.out; omega
    have hw4 : IntKind.i64.wrap ((i : Int) + 1) = (i : Int) + 1 := by rw [IntKind.wrap_i64]; have := Hln.out; have := Hlt.out; omega
    have Hon := Lib.hid (show (L.without i).on = if ((i : Int) == (L.l.length : Int) - 1) = true then false else L.on by
      unfold Seg.Log.without
      simp only [beq_iff_eq]
      have := Hlt.out
      by_cases hh : i + 1 = L.l.length
      · rw [if_pos hh, if_pos (by omega)]
      · rw [if_neg hh, if_neg (by omega)])
    have Hfs := Lib.hid (show (L.without i).fresh = if decide ((L.l.length : Int) - L.fresh ≤ (i : Int)) = true then L.fresh - 1 else L.fresh by
      unfold Seg.Log.without
      simp only [decide_eq_true_eq])
    have Hll := Lib.hid (show (L.without i).l = L.l.eraseIdx i ∧ (L.without i).limit = L.limit from ⟨rfl, rfl⟩)
    generalize L.without i = LW at *
    obtain ⟨Wlim, Wl, Won, Wfr⟩ := LW
    obtain ⟨rfl, rfl⟩ := Hll.out
    obtain rfl := Hon.out
    obtain rfl := Hfs.out
    clear Hon Hfs Hll
    cases hb1 : ((i : Int) == (L.l.length : Int) - 1) <;> cases hb2 : (decide ((L.l.length : Int) - L.fresh ≤ (i : Int)))
    all_goals
      go_wp2_with (first | ((with_reducible apply at_load); refine ⟨?_⟩; refine wl_load1 (by assumption) (by rfl) (by first | ((repeat (first | with_reducible apply pick0 | with_reducible apply pick_there)); done) | ((repeat (first | apply pick0 | apply pick_there)); done) | fail) (Nat.le_of_ble_eq_true (by rfl)) (by conv => lhs; whnf) (by kernel_rfl) ?_) | ((with_reducible apply at_store); refine ⟨?_⟩; refine wl_store (by assumption) (by rfl) (by conv => lhs; whnf) (by first | (simp only [putsAt, Value.cells]; (try go_frame); first | done | rfl) | rfl) (by first | ((repeat (first | with_reducible apply upd0 | with_reducible apply upd_there)); done) | ((repeat (first | apply upd0 | apply upd_there)); done) | fail) (Nat.le_of_ble_eq_true (by rfl)) (by kernel_rfl) (by rfl) ?_; intro wS hS))
      try have hS4 := hS
      have hG : (World.drew _).cell? ⟨p, 2, none⟩ = some (.slice la L.l.length lc) ∧ (World.drew _).cell? ⟨p, 4, none⟩ = some (.int .i64 L.fresh) := ⟨hS4.drew.cellP (by first | ((repeat (first | with_reducible apply pick0 | with_reducible apply pick_there)); done) | ((repeat (first | apply pick0 | apply pick_there)); done) | fail) 2 rfl, hS4.drew.cellP (by first | ((repeat (first | with_reducible apply pick0 | with_reducible apply pick_there)); done) | ((repeat (first | apply pick0 | apply pick_there)); done) | fail) 4 rfl⟩
      refine wpL_begin [10, 11] (fun w' => w'.cell? ⟨p, 2, none⟩ = some (.slice la L.l.length lc) ∧ w'.cell? ⟨p, 4, none⟩ = some (.int .i64 L.fresh)) (by kernel_rfl) ?_
      refine rg_pure 0 (by conv => lhs; whnf) (by kernel_rfl) (by intro _ _ _ h; exact h) (yl_move (by conv => lhs; whnf)) (by go_frame; first | done | rfl) ?_
      refine rg_pure 1 (by conv => lhs; whnf) (by kernel_rfl) (by intro _ _ _ h; exact h) (yl_move (by conv => lhs; whnf)) (by go_frame; first | done | rfl) ?_
      refine rg_pure 2 (by conv => lhs; whnf) (by kernel_rfl) (by intro _ _ _ h; exact h) (yl_nil (by conv => lhs; whnf)) (by go_frame; first | done | rfl) ?_
      refine rg_pure 3 (by conv => lhs; whnf) (by kernel_rfl) (by intro _ _ _ h; exact h) (yl_field (by conv => lhs; whnf) (by ((intro wq; go_simp); first | done | (with_reducible rfl)))) (by go_frame; first | done | rfl) ?_
      refine rg_take 4 (by conv => lhs; whnf) (by kernel_rfl) (by intro _ _ _ h; exact h) (by first | exact tk_load (by conv => lhs; whnf) (by kernel_rfl) (by intro wq hq; first | exact hq | exact hq.1 | exact hq.2 | exact hq.2.1 | exact hq.2.2 | exact hq.2.2.1 | exact hq.2.2.2 | exact hq.2.2.2.1 | exact hq.2.2.2.2) | (refine Or.inl ⟨by rfl, ?_⟩; (intro wq hq; go_split_ands; go_simp); first | done | (with_reducible rfl))) (by assumption) (by go_frame; first | done | rfl) ?_
      refine rg_pure 5 (by conv => lhs; whnf) (by kernel_rfl) (by intro _ _ _ h; exact h) (yl_len (by conv => lhs; whnf) (by ((intro wq; go_simp); first | done | (with_reducible rfl)))) (by go_frame; first | done | rfl) ?_
      refine rg_pure 6 (by conv => lhs; whnf) (by kernel_rfl) (by intro _ _ _ h; exact h) (yl_move (by conv => lhs; whnf)) (by go_frame; first | done | rfl) ?_
      refine rg_pure 7 (by conv => lhs; whnf) (by kernel_rfl) (by intro _ _ _ h; exact h) (yl_nil (by conv => lhs; whnf)) (by go_frame; first | done | rfl) ?_
      refine rg_pure 8 (by conv => lhs; whnf) (by kernel_rfl) (by intro _ _ _ h; exact h) (yl_field (by conv => lhs; whnf) (by ((intro wq; go_simp); first | done | (with_reducible rfl)))) (by go_frame; first | done | rfl) ?_
      refine rg_take 9 (by conv => lhs; whnf) (by kernel_rfl) (by intro _ _ _ h; exact h) (by first | exact tk_load (by conv => lhs; whnf) (by kernel_rfl) (by intro wq hq; first | exact hq | exact hq.1 | exact hq.2 | exact hq.2.1 | exact hq.2.2 | exact hq.2.2.1 | exact hq.2.2.2 | exact hq.2.2.2.1 | exact hq.2.2.2.2) | (refine Or.inl ⟨by rfl, ?_⟩; (intro wq hq; go_split_ands; go_simp); first | done | (with_reducible rfl))) (by assumption) (by go_frame; first | done | rfl) ?_
      refine rg_pure 10 (by conv => lhs; whnf) (by kernel_rfl) (by intro _ _ _ h; exact h) (yl_bin (by conv => lhs; whnf) (by conv => lhs; whnf) (by ((intro wq; go_simp); first | done | (with_reducible rfl)))) (by go_frame; first | done | rfl) ?_
      refine rg_pure 11 (by conv => lhs; whnf) (by kernel_rfl) (by intro _ _ _ h; exact h) (yl_bin (by conv => lhs; whnf) (by conv => lhs; whnf) (by ((intro wq; go_simp); first | done | (with_reducible rfl)))) (by go_frame; first | done | rfl) ?_
      refine wpL_done (by kernel_rfl) ?_
      clear hG
      have hS5 := hS4.drew
      clear hS4
      go_wp2_with (first | ((with_reducible apply at_load); refine ⟨?_⟩; refine wl_load1 (by assumption) (by rfl) (by first | ((repeat (first | with_reducible apply pick0 | with_reducible apply pick_there)); done) | ((repeat (first | apply pick0 | apply pick_there)); done) | fail) (Nat.le_of_ble_eq_true (by rfl)) (by conv => lhs; whnf) (by kernel_rfl) ?_) | ((with_reducible apply at_store); refine ⟨?_⟩; refine wl_store (by assumption) (by rfl) (by conv => lhs; whnf) (by first | (simp only [putsAt, Value.cells]; (try go_frame); first | done | rfl) | rfl) (by first | ((repeat (first | with_reducible apply upd0 | with_reducible apply upd_there)); done) | ((repeat (first | apply upd0 | apply upd_there)); done) | fail) (Nat.le_of_ble_eq_true (by rfl)) (by kernel_rfl) (by rfl) ?_; intro wS hS))
      refine (sdelete_c (lv := .slice la L.l.length lc) L.l i Hlt.out Hln.out (Sat.pick (by assumption) (by first | ((repeat (first | with_reducible apply pick0 | with_reducible apply pick_there)); done) | ((repeat (first | apply pick0 | apply pick_there)); done) | fail))).mono ?_
      rintro e w6 ⟨v, rfl, da, dn, dc, rfl, hS6⟩
      go_wp2_with ((with_reducible apply at_store); refine ⟨?_⟩; refine wl_store (by assumption) (by rfl) (by conv => lhs; whnf) (by first | (simp only [putsAt, Value.cells]; (try go_frame); first | done | rfl) | rfl) (by first | ((repeat (first | with_reducible apply upd0 | with_reducible apply upd_there)); done) | ((repeat (first | apply upd0 | apply upd_there)); done) | fail) (Nat.le_of_ble_eq_true (by rfl)) (by kernel_rfl) (by rfl) ?_; intro wS hS)
      go_ret
      rw [hfin.out, hb1, hb2]
      simp only [if_true, if_false, Bool.false_eq_true]
      exact ⟨_, rfl, rfl, LogRep.shut2 (lv := .slice da dn dc) (Sat.sub hS (by repeat (first | (with_reducible apply sub_refl) | ((with_reducible apply sub_take); (· first | ((repeat (first | with_reducible apply pick0 | with_reducible apply pick_there)); done) | ((repeat (first | apply pick0 | apply pick_there)); done) | fail)) | (with_reducible apply sub_drop))))⟩
theorem remove_med {L : Seg.Log} {M : Med} (h : M.Ok K) (n : Int) : (L.remove M n).1.2.Ok (K + 1) := by
  unfold Seg.Log.remove
  split; · exact h.mono (Nat.le_succ K)
  split <;> exact h.remove _
theorem back_last {L : Seg.Log} {M : Med} (hl : L.l.getLast? = some s) (hf : 0 < L.fresh) : L.rollback M = if (L.remove M s.1).2 = 0 then Seg.Log.back (L.fresh.toNat - 1) (L.remove M s.1).1.1 (L.remove M s.1).1.2 else L.remove M s.1 := by
  unfold Seg.Log.rollback
  obtain ⟨k, hk⟩ : ∃ k, L.fresh.toNat = k + 1 := ⟨L.fresh.toNat - 1, by omega⟩
  rw [hk]
  show (match L.l.getLast? with | none => _ | some s => _) = _
  rw [hl]; rfl
/-- A fresh one gone: one fewer is fresh. -/
theorem remove_fresh {L : Seg.Log} {M : Med} (hL : L.Ok) (hl : L.l.getLast? = some s) (hf : 0 < L.fresh) (h : (L.remove M s.1).2 = 0) : (L.remove M s.1).1.1.fresh = L.fresh - 1 := by
  have ha := hL.at_last hl
  unfold Seg.Log.remove at *
  rw [ha] at h ⊢
  simp only at h ⊢
  split
  · unfold Seg.Log.without
    have := hL.fresh
    simp only
    rw [if_pos (by omega)]
  · rename_i hh; rw [if_neg hh] at h; exact absurd h hh
set_option maxRecDepth 20000 in
set_option maxHeartbeats 16000000 in
theorem lrollback_c (hL : L.Ok) (hM : M.Ok K) (hKK : K + 1048576 ≤ 1099511627776) (h : Sat w0 w (LogRep p m L :: MedRep m M :: F)) :
    Calls Tryd.prog 30 #[ptr p] w (Rtn fun v w' => v = errno (L.rollback M).2 ∧ Sat w0 w' (LogRep p m (L.rollback M).1.1 :: MedRep m (L.rollback M).1.2 :: F)) := by
  have hok : Calls Tryd.prog 44 #[ptr p] w (Rtn fun v w' => v = .bool true ∧ w = w') := by
    obtain ⟨lv, hR⟩ := LogRep.open2 h
    exact ok_c hR
  have Hres := Lib.hid (rfl : L.rollback M = L.rollback M)
  generalize hres : L.rollback M = RES at Hres ⊢
  have Hq := Lib.hid (show L.rollback M = RES from hres)
  have hfl : L.fresh.toNat ≤ 1048576 := by have := hL.fresh; have := hL.len; omega
  have hinit : Hid (∃ (L' : Seg.Log) (M' : Med) (K' : Nat), L'.Ok ∧ M'.Ok K' ∧ K' + L'.fresh.toNat ≤ 1099511627776 ∧ L'.rollback M' = RES ∧ L'.fresh.toNat = L.fresh.toNat ∧ Sat w0 w (LogRep p m L' :: MedRep m M' :: F)) := Lib.hid ⟨L, M, K, hL, hM, by omega, hres, rfl, h⟩
  clear hres Hres hL hM h Hq hfl
  go_enter Tryd.func30, Tryd.ntmps30
  go_wp2_with fail
  refine hok.mono ?_
  rintro e w2 ⟨v, rfl, rfl, rfl⟩
  clear hok
  go_wp2_with fail
  go_loopg [] L.fresh.toNat (fun g wr => ∃ (L' : Seg.Log) (M' : Med) (K' : Nat), L'.Ok ∧ M'.Ok K' ∧ K' + L'.fresh.toNat ≤ 1099511627776 ∧ L'.rollback M' = RES ∧ L'.fresh.toNat = g ∧ Sat w0 wr (LogRep p m L' :: MedRep m M' :: F))
  case atStart => exact hinit.out
  case round =>
    obtain ⟨L1, M1, K1, hL, hM, hKK1, hres, rfl, hS⟩ := hrel
    clear hinit
    by_cases hf : 0 < L1.fresh
    · have hne : L1.l ≠ [] := by intro e; have := hL.fresh; rw [e] at this; simp at this; omega
      obtain ⟨s, hl⟩ : ∃ s, L1.l.getLast? = some s := ⟨_, List.getLast?_eq_some_getLast hne⟩
      have hbl := back_last (M := M1) hl hf
      rw [hres] at hbl
      have Hbl := Lib.hid hbl
      have Hrf := Lib.hid (remove_fresh (M := M1) hL hl hf)
      have HL2 := Lib.hid (hL.remove M1 s.1)
      have HM2 := Lib.hid (remove_med (L := L1) hM s.1)
      have hrm := lremove_c hL hM (by omega) s.1 hS.drew
      obtain ⟨lv, hR⟩ := LogRep.open2 hS
      have hlen := hL.len
      obtain ⟨bk, n, cap, cs, rfl, hb, c0, c1, hB⟩ := seg_block2 hl hR
      have hn := hb.len
      have hn0 : (n : Int) < (n : Int) + 1 := by omega
      have hwn : IntKind.i64.wrap (n : Int) = (n : Int) := by rw [IntKind.wrap_i64]; omega
      have e4 : wr.cell? ⟨p, 4, none⟩ = some (.int .i64 L1.fresh) := hB.cellP (by first | ((repeat (first | with_reducible apply pick0 | with_reducible apply pick_there)); done) | ((repeat (first | apply pick0 | apply pick_there)); done) | fail) 4 rfl
      have hG : wr.drew.cell? ⟨p, 2, none⟩ = some (.slice (some ⟨bk, 0, none⟩) (n + 1) cap) ∧ wr.drew.cell? ⟨bk, n * 2, none⟩ = some (.int .i64 s.1) := ⟨hB.drew.cellP (by first | ((repeat (first | with_reducible apply pick0 | with_reducible apply pick_there)); done) | ((repeat (first | apply pick0 | apply pick_there)); done) | fail) 2 rfl, hB.drew.cellP (by first | ((repeat (first | with_reducible apply pick0 | with_reducible apply pick_there)); done) | ((repeat (first | apply pick0 | apply pick_there)); done) | fail) _ c0⟩
      have Hf := Lib.hid (show 0 < L1.fresh ∧ K1 + L1.fresh.toNat ≤ 1099511627776 from ⟨hf, hKK1⟩)
      clear hbl hne hl hb c0 c1 hB hR hlen hn hres hL hM hKK1
      go_wp2_with fail
      refine wpL_begin [14, 15] (fun w' => w'.cell? ⟨p, 2, none⟩ = some (.slice (some ⟨bk, 0, none⟩) (n + 1) cap) ∧ w'.cell? ⟨bk, n * 2, none⟩ = some (.int .i64 s.1)) (by kernel_rfl) ?_
      refine rg_pure 0 (by conv => lhs; whnf) (by kernel_rfl) (by intro _ _ _ h; exact h) (yl_move (by conv => lhs; whnf)) (by go_frame; first | done | rfl) ?_
      refine rg_pure 1 (by conv => lhs; whnf) (by kernel_rfl) (by intro _ _ _ h; exact h) (yl_move (by conv => lhs; whnf)) (by go_frame; first | done | rfl) ?_
      refine rg_pure 2 (by conv => lhs; whnf) (by kernel_rfl) (by intro _ _ _ h; exact h) (yl_nil (by conv => lhs; whnf)) (by go_frame; first | done | rfl) ?_
      refine rg_pure 3 (by conv => lhs; whnf) (by kernel_rfl) (by intro _ _ _ h; exact h) (yl_field (by conv => lhs; whnf) (by ((intro wq; go_simp); first | done | (with_reducible rfl)))) (by go_frame; first | done | rfl) ?_
      refine rg_take 4 (by conv => lhs; whnf) (by kernel_rfl) (by intro _ _ _ h; exact h) (by first | exact tk_load (by conv => lhs; whnf) (by kernel_rfl) (by intro wq hq; first | exact hq | exact hq.1 | exact hq.2 | exact hq.2.1 | exact hq.2.2 | exact hq.2.2.1 | exact hq.2.2.2 | exact hq.2.2.2.1 | exact hq.2.2.2.2) | (refine Or.inl ⟨by rfl, ?_⟩; (intro wq hq; go_split_ands; go_simp); first | done | (with_reducible rfl))) (by assumption) (by go_frame; first | done | rfl) ?_
      refine rg_pure 5 (by conv => lhs; whnf) (by kernel_rfl) (by intro _ _ _ h; exact h) (yl_move (by conv => lhs; whnf)) (by go_frame; first | done | rfl) ?_
      refine rg_pure 6 (by conv => lhs; whnf) (by kernel_rfl) (by intro _ _ _ h; exact h) (yl_nil (by conv => lhs; whnf)) (by go_frame; first | done | rfl) ?_
      refine rg_pure 7 (by conv => lhs; whnf) (by kernel_rfl) (by intro _ _ _ h; exact h) (yl_field (by conv => lhs; whnf) (by ((intro wq; go_simp); first | done | (with_reducible rfl)))) (by go_frame; first | done | rfl) ?_
      refine rg_take 8 (by conv => lhs; whnf) (by kernel_rfl) (by intro _ _ _ h; exact h) (by first | exact tk_load (by conv => lhs; whnf) (by kernel_rfl) (by intro wq hq; first | exact hq | exact hq.1 | exact hq.2 | exact hq.2.1 | exact hq.2.2 | exact hq.2.2.1 | exact hq.2.2.2 | exact hq.2.2.2.1 | exact hq.2.2.2.2) | (refine Or.inl ⟨by rfl, ?_⟩; (intro wq hq; go_split_ands; go_simp); first | done | (with_reducible rfl))) (by assumption) (by go_frame; first | done | rfl) ?_
      refine rg_pure 9 (by conv => lhs; whnf) (by kernel_rfl) (by intro _ _ _ h; exact h) (yl_len (by conv => lhs; whnf) (by ((intro wq; go_simp); first | done | (with_reducible rfl)))) (by go_frame; first | done | rfl) ?_
      refine rg_pure 10 (by conv => lhs; whnf) (by kernel_rfl) (by intro _ _ _ h; exact h) (yl_bin (by conv => lhs; whnf) (by conv => lhs; whnf) (by ((intro wq; go_simp); first | done | (with_reducible rfl)))) (by go_frame; first | done | rfl) ?_
      refine rg_pure 11 (by conv => lhs; whnf) (by kernel_rfl) (by intro _ _ _ h; exact h) (yl_index (by conv => lhs; whnf) (by conv => lhs; whnf) (by ((intro wq; go_simp); first | done | (with_reducible rfl)))) (by go_frame; first | done | rfl) ?_
      refine rg_pure 12 (by conv => lhs; whnf) (by kernel_rfl) (by intro _ _ _ h; exact h) (yl_field (by conv => lhs; whnf) (by ((intro wq; go_simp); first | done | (with_reducible rfl)))) (by go_frame; first | done | rfl) ?_
      refine rg_take 13 (by conv => lhs; whnf) (by kernel_rfl) (by intro _ _ _ h; exact h) (by first | exact tk_load (by conv => lhs; whnf) (by kernel_rfl) (by intro wq hq; first | exact hq | exact hq.1 | exact hq.2 | exact hq.2.1 | exact hq.2.2 | exact hq.2.2.1 | exact hq.2.2.2 | exact hq.2.2.2.1 | exact hq.2.2.2.2) | (refine Or.inl ⟨by rfl, ?_⟩; (intro wq hq; go_split_ands; go_simp); first | done | (with_reducible rfl))) (by assumption) (by go_frame; first | done | rfl) ?_
      clear hG e4
      refine rg_eff 14 (by conv => lhs; whnf) (by kernel_rfl) (fun K hK => ?_)
      (refine eff_call2 (by kernel_rfl) (by conv => lhs; whnf) (by conv => lhs; whnf) ?_)
      refine hrm.mono ?_
      rintro e w3 ⟨v, rfl, rfl, hS3⟩
      refine hK _ _ (.inl rfl) ?_
      clear hK hS hrm
      refine rg_pure 15 (by conv => lhs; whnf) (by kernel_rfl) (by intro _ _ _ h; exact h) (yl_assign (by conv => lhs; whnf)) (by go_frame; first | done | rfl) ?_
      refine wpL_done (by kernel_rfl) ?_
      generalize L1.remove M1 s.1 = A at *
      obtain ⟨⟨L2, M2⟩, e2⟩ := A
      by_cases he : e2 = 0
      · subst he
        have H1 := Lib.hid (Hbl.out.trans (if_pos rfl))
        have H2 := Lib.hid (show L2.fresh = L1.fresh - 1 from Hrf.out rfl)
        go_wp2_with fail
        go_roundg L2.fresh.toNat
        case measure => have := H2.out; have := Hf.out; omega
        case rel =>
          refine ⟨L2, M2, K1 + 1, HL2.out, HM2.out, ?_, ?_, rfl, hS3⟩
          · have := H2.out; have := Hf.out; omega
          · rw [H1.out]
            unfold Seg.Log.rollback
            congr 1
            have := H2.out; have := Hf.out; omega
      · have heb : (e2 == 0) = false := beq_false_of_ne he
        have H1 := Lib.hid (Hbl.out.trans (if_neg he))
        clear he
        go_wp2_with fail
        go_ret
        rw [H1.out]
        exact ⟨_, rfl, rfl, hS3⟩
    · have hz : L1.fresh.toNat = 0 := by omega
      have H1 := Lib.hid (show RES = (({ L1 with on := false }, M1), 0) by
        rw [← hres]; unfold Seg.Log.rollback; rw [hz]; rfl)
      obtain ⟨lv, hR⟩ := LogRep.open2 hS
      have hle : L1.fresh ≤ 0 := by omega
      clear hres hL hM hKK1 hz hS
      go_wp2_with (first | ((with_reducible apply at_load); refine ⟨?_⟩; refine wl_load1 (by assumption) (by rfl) (by first | ((repeat (first | with_reducible apply pick0 | with_reducible apply pick_there)); done) | ((repeat (first | apply pick0 | apply pick_there)); done) | fail) (Nat.le_of_ble_eq_true (by rfl)) (by conv => lhs; whnf) (by kernel_rfl) ?_) | ((with_reducible apply at_store); refine ⟨?_⟩; refine wl_store (by assumption) (by rfl) (by conv => lhs; whnf) (by first | (simp only [putsAt, Value.cells]; (try go_frame); first | done | rfl) | rfl) (by first | ((repeat (first | with_reducible apply upd0 | with_reducible apply upd_there)); done) | ((repeat (first | apply upd0 | apply upd_there)); done) | fail) (Nat.le_of_ble_eq_true (by rfl)) (by kernel_rfl) (by rfl) ?_; intro wS hS))
      go_ret
      rw [H1.out]
      exact ⟨_, rfl, rfl, LogRep.shut2 (lv := lv) (Sat.sub hS (by repeat (first | (with_reducible apply sub_refl) | ((with_reducible apply sub_take); (· first | ((repeat (first | with_reducible apply pick0 | with_reducible apply pick_there)); done) | ((repeat (first | apply pick0 | apply pick_there)); done) | fail)) | (with_reducible apply sub_drop))))⟩
end
end Go.Proofs.YtjklhichekmdhaaDoor
/- Structs built of parts, whatever the parts; effects in a region that draws; entries. -/
namespace Go.Proofs.YtjklhichekmdhaaDoor
open Go Go.Sl Go.Med Go.MapKept Go.RowKit
set_option linter.unusedVariables false
section
variable {P : Program} {w0 w : World} {L L' R F : List HProp} {b : Nat} {ops : Array Oper} {rest : List Oper} {a : Act} {Q : Exit → Act → World → Prop}
variable {dst : Option Tmp} {t ty T e : TypeId} {pos : String} {after : Array Edge} {x y s : Operand} {cs : Array Value} {v : Value} {o n c sz by' : Nat} {xs ys : List Value} {K : Act → World → Prop} {E : Prop}
theorem eff_of {op : Oper} (hg : op.guard = none) (h : Oper.wp P op a w K Q) : if Region.wanted op (yielded ops a.tmps) = true then Oper.wp P op a w K Q else E := by
  rw [if_pos (want_none _ hg)]; exact h
theorem eff_build1 (hb : appB P ty e sz by' = true) (hs : Sat w0 w L) (hy : a.eval x = v) (hcs : v.cells = cs) (hsz : cs.size = sz) (hle : sz ≤ 16777216)
    (hK : ∀ b w', Sat w0 w' (pt b (.cells cs e (0,0)) :: L) → K (a.put dst (.slice (some ⟨b, 0, none⟩) 1 1)) w') :
    if Region.wanted ⟨dst, .buildSlice ty 1 #[(0, x)], t, pos, after, none⟩ (yielded ops a.tmps) = true then Oper.wp P ⟨dst, .buildSlice ty 1 #[(0, x)], t, pos, after, none⟩ a w K Q else E := by
  subst hcs
  refine eff_of rfl ?_
  have hS := hs.alloc (.cells v.cells e)
  unfold Oper.wp execOp
  simp only [hy, List.map_toArray, List.map_cons, List.map_nil, Sem.run_bind, Sem.run_pure, run_build1 hb hsz hle w, Result.andThen_ok]
  exact hK _ _ hS
theorem eff_app (e : TypeId) (sz by' : Nat) (hb : appB P ty e sz by' = true) (hs : Sat w0 w L) (hv : a.eval s = v) (hy : a.eval y = .slice (some ⟨b, 0, none⟩) n c) {R2 : List HProp} (p : Pick (osl e sz v xs) L R) (p2 : Pick (pt b (.cells cs T (0,0))) R R2)
    (hn : cs.size = n * sz) (h0 : 1 ≤ n) (h1 : cs.toList.all (·.oneCell') = true) (h63 : xs.length ≤ 2147483648) (h64 : cs.size ≤ 65536) (hby : by' ≤ 65000) (hys : cs.toList = ys)
    (hK : ∀ b' n' c' w', Sat w0 w' (osl e sz (.slice (some ⟨b', 0, none⟩) n' c') (xs ++ ys) :: R2) → K (a.put dst (.slice (some ⟨b', 0, none⟩) n' c')) w') :
    if Region.wanted ⟨dst, .call { callee := .builtin .append, args := #[s, y], argTypes := #[ty, ty] }, t, pos, after, none⟩ (yielded ops a.tmps) = true then
      Oper.wp P ⟨dst, .call { callee := .builtin .append, args := #[s, y], argTypes := #[ty, ty] }, t, pos, after, none⟩ a w K Q else E := by
  refine eff_of rfl ?_
  subst hys
  obtain ⟨hu, i, z, hi, hz, e1, e2, e3, e4⟩ := appB_spec hb
  subst e2
  have hne : xs ++ cs.toList ≠ [] := by
    intro h
    have := congrArg List.length h
    simp only [List.length_append, Array.length_toList, List.length_nil] at this
    have : 0 < n * sz := Nat.mul_pos h0 e4
    omega
  have hrd : rdsl sz (.slice (some ⟨b, 0, none⟩) n c) cs.toList w := ⟨_, n, c, rfl, by simpa using hn, fun j x hj => ⟨_, rfl, by
    rw [add_zero_lit]
    exact ((hs.pick p).pick (pick_there p2)).cellAt j x (by simpa using hj)⟩⟩
  have hcl : cs.toList.length = cs.size := Array.length_toList
  have h63' : xs.length + cs.toList.length ≤ maxLen := by rw [hcl]; unfold maxLen; omega
  have hby' : (xs.length + cs.toList.length) * i.bytes ≤ 140737488355328 := by
    rw [hcl]
    exact Nat.le_trans (Nat.mul_le_mul (show xs.length + cs.size ≤ 2147483648 + 65536 by omega) hby) (by decide)
  refine wp_append (w0 := w0) s y ty rfl e i z hu hi hz e1 e3 e4 hv hy (fun u hu => (List.all_eq_true.1 h1) u hu) (hs.pick p) hrd h63' hby' ?_
  intro v' w' hS hv'
  obtain ⟨b', n', c', rfl⟩ := hv' hne
  exact hK b' n' c' w' (hS.pick (pick_there p2)).drop
/-- Where the fields of a struct lie, and how many cells each has. -/
def placesB (P : Program) (t : TypeId) : Option (List (Nat × Nat)) := match P.underlying t with
  | some (.struct fields) => fields.toList.mapM fun f => (P.info? f.type).map fun i => (f.offset, i.size)
  | _ => none
theorem run_places (fields : List Field) : ∀ (pl : List (Nat × Nat)), (fields.mapM fun f => (P.info? f.type).map fun i => (f.offset, i.size)) = some pl →
    ((fields.mapM fun f => do pure (f.offset, ← sizeOf f.type)) : Sem (List (Nat × Nat))).run P w = .ok pl w := by
  induction fields with
  | nil => intro pl h; cases h; rfl
  | cons f fields ih =>
    intro pl h
    rw [List.mapM_cons] at h ⊢
    cases hi : P.info? f.type with
    | none => simp [hi] at h
    | some i =>
      rw [hi] at h
      simp only [Option.map_some, Option.bind_eq_bind, Option.bind_some, Option.bind_eq_some_iff, Option.pure_def, Option.some.injEq] at h
      obtain ⟨pl', h1, rfl⟩ := h
      have hs : (sizeOf f.type).run P w = .ok i.size w := by simp [sizeOf, typeInfo, hi]
      simp only [Sem.run_bind, hs, Result.andThen_ok, Sem.run_pure, ih pl' h1]
/-- Parts, put one behind the other into cells. -/
def putParts (pl : List (Nat × Nat)) : Array Value → List (Nat × Value) → Array Value
  | cs, [] => cs
  | cs, (i, v) :: r => putParts pl (putsAt cs (pl.getD i (0, 0)).1 v.cells.toList) r
theorem foldl_puts : ∀ (vs : List Value) (k : Nat) (off : Nat) (cs : Array Value), (vs.zipIdx k).foldl (fun cs (x : Value × Nat) => cs.setIfInBounds (off + x.2) x.1) cs = putsAt cs (off + k) vs
  | [], _, _, _ => rfl
  | v :: vs, k, off, cs => by
    rw [List.zipIdx_cons, List.foldl_cons, foldl_puts vs (k + 1) off]; rfl
theorem putParts_size (pl : List (Nat × Nat)) : ∀ (parts : List (Nat × Value)) (cs : Array Value), (putParts pl cs parts).size = cs.size
  | [], _ => rfl
  | (i, v) :: r, cs => by rw [putParts, putParts_size pl r, putsAt_size]
theorem fill_parts (pl : List (Nat × Nat)) : ∀ (parts : List (Nat × Value)) (cs : Array Value), (∀ p ∈ parts, ∃ off, pl[p.1]? = some (off, p.2.cells.size) ∧ off + p.2.cells.size ≤ cs.size) →
    Instr.fill (pl.toArray[·]?) cs parts = some (putParts pl cs parts)
  | [], _, _ => rfl
  | (i, v) :: r, cs, h => by
    obtain ⟨off, h1, h2⟩ := h _ (.head _)
    unfold Instr.fill
    have hp : pl.toArray[i]? = some (off, v.cells.size) := by simpa using h1
    simp only [hp]
    have hc : ¬ ((v.cells.size ≠ v.cells.size || off + v.cells.size > cs.size) = true) := by simp; omega
    rw [if_neg hc]
    have hf : v.cells.zipIdx.foldl (fun cs (c, j) => cs.setIfInBounds (off + j) c) cs = putsAt cs off v.cells.toList := by
      rw [← Array.foldl_toList, Array.toList_zipIdx]
      exact foldl_puts _ 0 off cs
    rw [hf, fill_parts pl r _ (fun p hp => by
      obtain ⟨o, q1, q2⟩ := h p (.tail _ hp)
      exact ⟨o, q1, by rw [putsAt_size]; exact q2⟩)]
    have hg : (pl.getD i (0, 0)).1 = off := by rw [List.getD_eq_getElem?_getD, h1]; rfl
    simp only [putParts, hg]
/-- A struct of parts. -/
theorem run_build {z : Value} {pl : List (Nat × Nat)} (parts : List (Nat × Value)) (hp : placesB P t = some pl) (hz : zeroB P t = some z)
    (hfit : ∀ p ∈ parts, ∃ off, pl[p.1]? = some (off, p.2.cells.size) ∧ off + p.2.cells.size ≤ z.cells.size) (w : World) :
    (Instr.build t parts.toArray).run P w = .ok (.agg (putParts pl z.cells parts)) w := by
  unfold placesB at hp
  split at hp
  · rename_i fields hu
    have hm : ((fields.mapM fun f => do pure (f.offset, ← sizeOf f.type)) : Sem (Array (Nat × Nat))).run P w = .ok pl.toArray w := by
      rw [Array.mapM_eq_mapM_toList]
      rw [map_eq_pure_bind, Sem.run_bind, run_places fields.toList pl hp]
      rfl
    unfold Instr.build
    simp only [Sem.run_bind, run_zeroB hz w, Result.andThen_ok, run_underlying hu, hm, fill_parts pl parts z.cells hfit, Sem.run_pure]
  · cases hp
theorem yl_build3 {i1 i2 i3 : Nat} {x1 x2 x3 : Operand} {v1 v2 v3 : Value} (h1 : a.eval x1 = v1) (h2 : a.eval x2 = v2) (h3 : a.eval x3 = v3) (hr : ∀ w, (Instr.build ty #[(i1, v1), (i2, v2), (i3, v3)]).run P w = .ok v w) :
    Yields P ops ⟨dst, .build ty #[(i1, x1), (i2, x2), (i3, x3)], t, pos, after, none⟩ v a :=
  .inl ⟨want_none _ rfl, fun w => by
    simp only [execOp, List.map_toArray, List.map_cons, List.map_nil, h1, h2, h3, Sem.run_bind, hr, Result.andThen_ok, Sem.run_pure]⟩
/-- A struct, or an array, that G knows is read. -/
theorem tk_loadN {G : World → Prop} {o : Nat} (ks : List Value) (hx : a.eval x = .pointer (some ⟨b, o, none⟩)) {d : TypeDesc} (hu : P.underlying ty = some d) (hd : d.isRow = true) (hi : (P.info? ty).map (·.size) = some ks.length) (hG : ∀ w, G w → w.rangeAt b o ks) :
    YieldsIf P ops G ⟨dst, .load ty x, t, pos, after, none⟩ (.agg ks.toArray) a :=
  yieldsIf_load_mid (want_none _ rfl) ty x rfl b o hx ks d hG hu hd hi
end
section
variable {w0 w : World} {F : List HProp} {v lv dv : Value} {sz : Nat}
theorem rdsl_cells {a : Option Addr} {n c : Nat} {xs : List Value} (h : rdsl sz (.slice a n c) xs w) {i : Nat} {x : Value} (hi : xs[i]? = some x) :
    ∃ bk off, a = some ⟨bk, off, none⟩ ∧ ∀ j y, xs[j]? = some y → w.cell? ⟨bk, off + j, none⟩ = some y := by
  obtain ⟨a', n', c', he, hl, hx⟩ := h
  cases he
  obtain ⟨b, rfl, hc⟩ := hx i x hi
  have hlt : i < xs.length := (List.getElem?_eq_some_iff.1 hi).1
  obtain ⟨y, hy⟩ : ∃ y, xs[0]? = some y := ⟨xs[0]'(by omega), List.getElem?_eq_getElem _⟩
  obtain ⟨b', hb', hc0⟩ := hx 0 y hy
  cases hb'
  obtain ⟨bk, off, spot⟩ := b
  have hs : spot = none := by simpa [Addr.add] using World.cell?_spot hc0
  subst hs
  refine ⟨bk, off, rfl, fun j y hj => ?_⟩
  obtain ⟨b'', hb'', hcj⟩ := hx j y hj
  cases hb''
  rw [Addr.add_mid] at hcj
  exact hcj
/-- Entries, each with the slice of its data: their cells. -/
def entsL (es : List (Frm.Ent × Value)) : List Value := es.flatMap fun p => entL p.1 p.2
/-- The memory of their data. -/
def dataS (es : List (Frm.Ent × Value)) : HProp := stars (es.map fun p => bsl p.2 p.1.data)
theorem entL_len (x : Frm.Ent) (dv : Value) (hk : x.key.length = 32) : (entL x dv).length = 34 := by simp [entL, bys, hk]
theorem entsL_len {es : List (Frm.Ent × Value)} (hk : ∀ p ∈ es, p.1.key.length = 32) : (entsL es).length = 34 * es.length := by
  unfold entsL
  induction es with
  | nil => rfl
  | cons p es ih =>
    rw [List.flatMap_cons, List.length_append, ih (fun q hq => hk q (.tail _ hq)), entL_len _ _ (hk p (.head _)), List.length_cons]; omega
theorem entsL_app (es fs : List (Frm.Ent × Value)) : entsL (es ++ fs) = entsL es ++ entsL fs := by unfold entsL; rw [List.flatMap_append]
theorem entsL_at {es : List (Frm.Ent × Value)} (hk : ∀ p ∈ es, p.1.key.length = 32) {i : Nat} {p : Frm.Ent × Value} (hi : es[i]? = some p) {j : Nat} {y : Value} (hj : (entL p.1 p.2)[j]? = some y) : (entsL es)[i * 34 + j]? = some y := by
  induction es generalizing i with
  | nil => simp at hi
  | cons q es ih =>
    have hq := entL_len q.1 q.2 (hk q (.head _))
    have e : entsL (q :: es) = entL q.1 q.2 ++ entsL es := rfl
    cases i with
    | zero =>
      obtain rfl : q = p := by simpa using hi
      have hjl := (List.getElem?_eq_some_iff.1 hj).1
      rw [e, Nat.zero_mul, Nat.zero_add, List.getElem?_append_left hjl]; exact hj
    | succ i =>
      rw [e, List.getElem?_append_right (by omega), hq, show (i + 1) * 34 + j - 34 = i * 34 + j by omega]
      exact ih (fun r hr => hk r (.tail _ hr)) (by simpa using hi)
theorem entL_at0 (x : Frm.Ent) (dv : Value) : (entL x dv)[0]? = some (.int .i64 x.tag) := rfl
theorem entL_key (x : Frm.Ent) (dv : Value) {j : Nat} {y : Value} (h : (bys x.key)[j]? = some y) : (entL x dv)[1 + j]? = some y := by
  unfold entL
  rw [Nat.add_comm, List.getElem?_cons_succ, List.getElem?_append_left (List.getElem?_eq_some_iff.1 h).1]; exact h
theorem entL_at33 (x : Frm.Ent) (dv : Value) (hk : x.key.length = 32) : (entL x dv)[33]? = some dv := by
  unfold entL
  rw [List.getElem?_cons_succ, List.getElem?_append_right (by rw [bys_len]; omega), bys_len, hk]; rfl
theorem plEnt : placesB Tryd.prog 27 = some [(0, 1), (1, 32), (33, 1)] := by kernel_rfl
def zeroEntV : Value := .agg (entA Frm.zeroE (.slice none 0 0))
theorem zEnt : zeroB Tryd.prog 27 = some zeroEntV := by kernel_rfl
theorem puts3 (cs : Array Value) (hs : cs.size = 34) (u dv : Value) (kl : List Value) (hk : kl.length = 32) : (putsAt (putsAt (putsAt cs 0 [u]) 1 kl) 33 [dv]).toList = u :: (kl ++ [dv]) := by
  have hcl : cs.toList.length = 34 := by simpa using hs
  rw [putsAt_list _ _ _ (by rw [putsAt_size, putsAt_size]; simp; omega), putsAt_list _ _ _ (by rw [putsAt_size]; omega), putsAt_list _ _ _ (by simp; omega)]
  simp only [List.take_zero, List.nil_append, List.length_singleton, Nat.zero_add]
  rw [List.singleton_append, List.take_succ_cons, List.take_zero, hk, show 1 + 32 = 32 + 1 by omega, List.drop_succ_cons, List.drop_drop]
  have h1 : ([u] ++ kl ++ cs.toList.drop (1 + 32)).length = 34 := by simp [hk, hcl]
  rw [List.take_append_of_le_length (by simp [hk]), List.take_of_length_le (by simp [hk]), List.drop_of_length_le (by omega)]
  simp
theorem putsAt_eq {cs ds : Array Value} (h : cs.toList = ds.toList) : cs = ds := Array.toList_inj.1 h
set_option maxRecDepth 20000 in
/-- An entry of its parts. -/
theorem run_buildEnt (e : Frm.Ent) (hk : e.key.length = 32) (da : Option Addr) (dn dc : Nat) (w : World) :
    (Instr.build 27 #[(0, .int .i64 e.tag), (1, .agg (bys e.key).toArray), (2, .slice da dn dc)]).run Tryd.prog w = .ok (.agg (entA e (.slice da dn dc))) w := by
  have hz : (entA Frm.zeroE (.slice none 0 0)).size = 34 := entA_size _ _ rfl
  have hks : (bys e.key).toArray.size = 32 := by simp [bys, hk]
  have h := run_build (P := Tryd.prog) [(0, .int .i64 e.tag), (1, .agg (bys e.key).toArray), (2, .slice da dn dc)] plEnt zEnt (by
    intro p hp
    simp only [List.mem_cons, List.not_mem_nil, or_false] at hp
    have hzz : zeroEntV.cells.size = 34 := hz
    rw [hzz]
    rcases hp with rfl | rfl | rfl
    · exact ⟨0, rfl, by show 0 + 1 ≤ 34; omega⟩
    · refine ⟨1, ?_, ?_⟩
      · show some (1, 32) = some (1, (bys e.key).toArray.size); rw [hks]
      · show 1 + (bys e.key).toArray.size ≤ 34; rw [hks]; omega
    · exact ⟨33, rfl, by show 33 + 1 ≤ 34; omega⟩) w
  refine h.trans ?_
  congr 2
  apply putsAt_eq
  exact puts3 _ hz _ _ _ (show (bys e.key).toArray.toList.length = 32 by rw [List.toList_toArray, bys_len, hk])
theorem puts_whole (cs : Array Value) (vs : List Value) (h : vs.length = cs.size) : putsAt cs 0 vs = vs.toArray := by
  apply putsAt_eq
  rw [putsAt_list _ _ _ (by omega), List.take_zero, List.nil_append, List.drop_of_length_le (by simp; omega), List.append_nil, List.toList_toArray]
end
section
variable {w0 w : World} {L L' R : List HProp} {b : Nat} {ops : Array Oper} {rest : List Oper} {a : Act} {Q : Exit → Act → World → Prop}
variable {dst : Option Tmp} {t T : TypeId} {pos : String} {after : Array Edge} {x y : Operand} {cs : Array Value} {v : Value} {e : Frm.Ent} {da : Option Addr} {dn dc : Nat}
theorem entA_ones (e : Frm.Ent) (a : Option Addr) (n c : Nat) : (entA e (.slice a n c)).all (·.oneCell') = true := by
  rw [← Array.all_toList]
  unfold entA entL
  rw [List.toList_toArray, List.all_cons, List.all_append]
  have : (bys e.key).all (·.oneCell') = true := List.all_eq_true.2 (bys_one _)
  rw [this]; rfl
theorem infoEntSize : (Tryd.prog.info? 27).map (·.size) = some 34 := by kernel_rfl
/-- An entry is stored. -/
theorem wl_storeE (hs : Sat w0 w L) (hx : a.eval x = .pointer (some ⟨b, 0, none⟩)) (hy : a.eval y = .agg (entA e (.slice da dn dc))) (hk : e.key.length = 32) (u : Upd (pt b (.cells cs T (0,0))) (pt b (.cells (entA e (.slice da dn dc)) T (0,0))) L L') (hcs : cs.size = 34)
    (hK : ∀ w', Sat w0 w' L' → wpList Tryd.prog ops Q rest (a.put dst undef) w') : wpList Tryd.prog ops Q (⟨dst, .store 27 x y, t, pos, after, none⟩ :: rest) a w := by
  obtain ⟨R', h2, h3⟩ := u
  have hz := entA_size e (.slice da dn dc) hk
  refine wpList_store_sat (w0 := w0) rfl 27 x y rfl 0 (.agg (entA e (.slice da dn dc))) hx hy (show 0 + (entA e (.slice da dn dc)).size ≤ cs.size by omega) (show _ = some (entA e (.slice da dn dc)).size by rw [hz]; exact infoEntSize) (entA_ones _ _ _ _) (hs.perm h2) fun w' hS => hK w' ?_
  have he : putsAt cs 0 (Value.agg (entA e (.slice da dn dc))).cells.toList = entA e (.slice da dn dc) := by
    show putsAt cs 0 (entA e (.slice da dn dc)).toList = _
    rw [puts_whole _ _ (by simp; omega)]
  rw [he] at hS
  exact hS.perm h3.symm
/-- An entry is read. -/
theorem wl_loadE (hs : Sat w0 w L) (hx : a.eval x = .pointer (some ⟨b, 0, none⟩)) (p : Pick (pt b (.cells (entA e (.slice da dn dc)) T (0,0))) L R) (hk : e.key.length = 32)
    (h : wpList Tryd.prog ops Q rest (a.put dst (.agg (entA e (.slice da dn dc)))) w) : wpList Tryd.prog ops Q (⟨dst, .load 27 x, t, pos, after, none⟩ :: rest) a w :=
  wl_loadA hs hx p Tryd.underlying27 rfl (by rw [entA_size e _ hk]; exact infoEntSize) h
theorem at_storeE (h : Stop (wpList Tryd.prog ops Q (⟨dst, .store 27 x y, t, pos, after, none⟩ :: rest) a w)) : wpList Tryd.prog ops Q (⟨dst, .store 27 x y, t, pos, after, none⟩ :: rest) a w := h.out
theorem at_loadE (h : Stop (wpList Tryd.prog ops Q (⟨dst, .load 27 x, t, pos, after, none⟩ :: rest) a w)) : wpList Tryd.prog ops Q (⟨dst, .load 27 x, t, pos, after, none⟩ :: rest) a w := h.out
theorem run_zeroEnt (w : World) : (Instr.build 27 #[]).run Tryd.prog w = .ok zeroEntV w := run_build (P := Tryd.prog) [] plEnt zEnt (by simp) w
/-- An entry lies in a new variable. -/
theorem wl_allocE (hs : Sat w0 w L) (hK : ∀ b w', Sat w0 w' (pt b (.cells (entA Frm.zeroE (.slice none 0 0)) 27 (0,0)) :: L) → wpList Tryd.prog ops Q rest (a.put dst (.pointer (some ⟨b, 0, none⟩))) w') :
    wpList Tryd.prog ops Q (⟨dst, .alloc 27, t, pos, after, none⟩ :: rest) a w := wl_alloc zEnt hs rfl hK
theorem wl_boxE (hs : Sat w0 w L) (hy : a.eval y = .agg (entA e (.slice da dn dc))) (hK : ∀ b w', Sat w0 w' (pt b (.cells (entA e (.slice da dn dc)) 27 (0,0)) :: L) → wpList Tryd.prog ops Q rest (a.put dst (.pointer (some ⟨b, 0, none⟩))) w') :
    wpList Tryd.prog ops Q (⟨dst, .box 27 y, t, pos, after, none⟩ :: rest) a w := wl_box hs hy rfl hK
theorem at_boxE (h : Stop (wpList Tryd.prog ops Q (⟨dst, .box 27 y, t, pos, after, none⟩ :: rest) a w)) : wpList Tryd.prog ops Q (⟨dst, .box 27 y, t, pos, after, none⟩ :: rest) a w := h.out
theorem at_allocE (h : Stop (wpList Tryd.prog ops Q (⟨dst, .alloc 27, t, pos, after, none⟩ :: rest) a w)) : wpList Tryd.prog ops Q (⟨dst, .alloc 27, t, pos, after, none⟩ :: rest) a w := h.out
/-- The results: an entry that lies in a cell, and a value. -/
theorem res_entE {fn : Func} {p u : Tmp} {tmps : Array Value} (hf : fn.results = #[.cell p 27, .tmp u]) (hs : Sat w0 w L) (hp : tmps.getD p undef = .pointer (some ⟨b, 0, none⟩)) (k : Pick (pt b (.cells (entA e (.slice da dn dc)) T (0,0))) L R) (hk : e.key.length = 32) :
    (results fn tmps).run Tryd.prog w = .ok (.tuple #[.agg (entA e (.slice da dn dc)), tmps.getD u undef]) w :=
  res_cell_tmp hf hs hp k Tryd.underlying27 rfl (by rw [entA_size e _ hk]; exact infoEntSize)
end
end Go.Proofs.YtjklhichekmdhaaDoor
/- hoardref07.Few. -/
namespace Go.Frm
/-- An entry with at most so many bytes. -/
def cutE (long : Nat) (x : Ent) : Ent := ⟨x.tag, x.key, x.data.take long⟩
def few (l : List Ent) (n long : Nat) : List Ent := (l.take n).map (cutE long)
end Go.Frm
namespace Go.Proofs.YtjklhichekmdhaaDoor
open Go Go.Sl Go.Med Go.MapKept Go.RowKit
set_option linter.unusedVariables false
section
variable {w0 w : World} {F R : List HProp} {v bv dv x lv : Value}
theorem rdsl_cut {k : Nat} {l : Bs} {a : Option Addr} {n c : Nat} (h : rdsl 1 (.slice a n c) (bys l) w) : rdsl 1 (.slice a (min n k) c) (bys (l.take k)) w := by
  obtain ⟨a', n', c', he, hl, hx⟩ := h
  cases he
  rw [bys_len, Nat.mul_one] at hl
  refine ⟨a, _, c, rfl, by rw [bys_len, List.length_take]; omega, fun j y hj => ?_⟩
  have hj' : (bys l)[j]? = some y := by
    unfold bys at hj ⊢
    rw [List.map_take, List.getElem?_take] at hj
    split at hj
    · exact hj
    · cases hj
  exact hx j y hj'
theorem dataS_snoc (es : List (Frm.Ent × Value)) (x : Frm.Ent) (dv : Value) : dataS (es ++ [(x, dv)]) = star (bsl dv x.data) (dataS es) := by
  unfold dataS
  rw [List.map_append, stars_append, star_comm]
  show star (stars [bsl dv x.data]) _ = _
  rw [stars_one]
theorem entA_one (e : Frm.Ent) (a : Option Addr) (n c : Nat) : (entA e (.slice a n c)).toList.all (·.oneCell') = true := by
  unfold entA entL
  rw [List.toList_toArray, List.all_cons, List.all_append]
  have : (bys e.key).all (·.oneCell') = true := List.all_eq_true.2 (bys_one _)
  rw [this]; rfl
/-- An entry that may be read. -/
structure EntRo (w0 : World) (F : List HProp) (p : Frm.Ent × Value) : Prop where
  key : p.1.key.length = 32
  rd : Ro w0 F (rdsl 1 p.2 (bys p.1.data))
  cap : capOk p.2
theorem few_keys {es fs : List (Frm.Ent × Value)} {i long : Nat} (h : fs.map (·.1) = ((es.map (·.1)).take i).map (Frm.cutE long)) (hk : ∀ p ∈ es, p.1.key.length = 32) : ∀ p ∈ fs, p.1.key.length = 32 := by
  intro p hp
  have h1 : p.1 ∈ fs.map (·.1) := List.mem_map.2 ⟨p, hp, rfl⟩
  rw [h, List.mem_map] at h1
  obtain ⟨x, hx, he⟩ := h1
  obtain ⟨q, hq, rfl⟩ := List.mem_map.1 (List.mem_of_mem_take hx)
  rw [← he]
  exact hk q hq
set_option maxRecDepth 20000 in
set_option maxHeartbeats 8000000 in
theorem few_c (es : List (Frm.Ent × Value)) (n long : Nat) (hlong : long ≤ 1099511627776) (hn : n ≤ 1048576) (hr : Ro w0 F (rdsl 34 lv (entsL es))) (he : ∀ p ∈ es, EntRo w0 F p) (h : Sat w0 w F) :
    Calls Tryd.prog 7 #[lv, .int .i64 n, .int .i64 long] w (Rtn fun v w' => ∃ fs : List (Frm.Ent × Value), fs.map (·.1) = Frm.few (es.map (·.1)) n long ∧ Sat w0 w' (osl 27 34 v (entsL fs) :: dataS fs :: F)) := by
  obtain ⟨la, ln, lc, rfl, hl, _⟩ := hr w h
  rw [entsL_len (fun p hp => (he p hp).key)] at hl
  obtain rfl : ln = es.length := by omega
  have Hr := Lib.hid hr; have He := Lib.hid he; have Hlong := Lib.hid hlong; have Hn := Lib.hid hn
  clear hr he hl hn
  go_enter Tryd.func7, Tryd.ntmps7
  go_wp2_with fail
  go_loopg [8, 7] es.length (fun g iq ov wr => ∃ (i : Nat) (fs : List (Frm.Ent × Value)), g = es.length - i ∧ i ≤ es.length ∧ i ≤ n ∧ iq = .int .i64 i ∧ fs.map (·.1) = ((es.map (·.1)).take i).map (Frm.cutE long) ∧
    Sat w0 wr (osl 27 34 ov (entsL fs) :: dataS fs :: F))
  case atStart => exact ⟨0, [], rfl, Nat.zero_le _, Nat.zero_le _, rfl, rfl, Sat.osl_nil.2 (Sat.emp.2 h)⟩
  case round =>
    obtain ⟨i, fs, rfl, hi, hin, rfl, hfs, hS⟩ := hrel
    have Hfs := Lib.hid hfs; have Hi := Lib.hid hi; have Hin := Lib.hid hin
    clear h hfs hi hin
    by_cases hlt : i < es.length ∧ i < n
    · obtain ⟨hl1, hl2⟩ := hlt
      have c1 : (i : Int) < (es.length : Int) := by omega
      have c2 : (i : Int) < (n : Int) := by omega
      have hwi : IntKind.i64.wrap ((i : Int) + 1) = (i : Int) + 1 := IntWalk.i64_in _ (by have := Hn.out; omega)
      have Hl1 := Lib.hid hl1; have Hl2 := Lib.hid hl2
      have Hfk := Lib.hid (few_keys Hfs.out (fun p hp => (He.out p hp).key))
      clear hl1 hl2
      obtain ⟨x, hx⟩ : ∃ x, es[i]? = some x := ⟨_, List.getElem?_eq_getElem Hl1.out⟩
      have hxe := He.out x (List.mem_of_getElem? hx)
      have hk : ∀ p ∈ es, p.1.key.length = 32 := fun p hp => (He.out p hp).key
      have hcut := Lib.hid (show fs.map (·.1) ++ [Frm.cutE long x.1] = ((es.map (·.1)).take (i + 1)).map (Frm.cutE long) by
        rw [Hfs.out, List.take_add_one, List.map_append, List.getElem?_map, hx]; rfl)
      have hrF : Ro w0 (osl 27 34 u7 (entsL fs) :: dataS fs :: F) (rdsl 34 (.slice la es.length lc) (entsL es)) := Ro.of_sub Hr.out (by repeat (first | (with_reducible apply sub_refl) | ((with_reducible apply sub_take); (· first | ((repeat (first | with_reducible apply pick0 | with_reducible apply pick_there)); done) | ((repeat (first | apply pick0 | apply pick_there)); done) | fail)) | (with_reducible apply sub_drop)))
      obtain ⟨bk, off, rfl, _⟩ := rdsl_cells (hrF _ hS) (entsL_at hk hx (entL_at0 _ _))
      have HG := Lib.hid (show ∀ w' L, Ro w0 L (rdsl 34 (.slice (some ⟨bk, off, none⟩) es.length lc) (entsL es)) → Sat w0 w' L → w'.cell? ⟨bk, off + i * 34, none⟩ = some (.int .i64 x.1.tag) ∧ w'.rangeAt bk (off + i * 34 + 1) (bys x.1.key) ∧ w'.cell? ⟨bk, off + i * 34 + 33, none⟩ = some x.2 by
        intro w' L hL hw
        obtain ⟨bk', off', hbo, hcell⟩ := rdsl_cells (hL w' hw) (entsL_at hk hx (entL_at0 _ _))
        cases hbo
        refine ⟨hcell _ _ (entsL_at hk hx (entL_at0 _ _)), fun j y hj => ?_, ?_⟩
        · have := hcell _ _ (entsL_at hk hx (entL_key _ x.2 hj))
          rw [show off + (i * 34 + (1 + j)) = off + i * 34 + 1 + j by omega] at this
          exact this
        · have := hcell _ _ (entsL_at hk hx (entL_at33 _ _ hxe.key))
          rw [show off + (i * 34 + 33) = off + i * 34 + 33 by omega] at this
          exact this)
      obtain ⟨⟨tag, key, data⟩, dv⟩ := x
      obtain ⟨da, dn, dc, rfl, hdn, hdc⟩ := hxe.cap
      have hdl : dn = data.length := by
        obtain ⟨a', n', c', he, hl, _⟩ := hxe.rd _ (hS.sub (by repeat (first | (with_reducible apply sub_refl) | ((with_reducible apply sub_take); (· first | ((repeat (first | with_reducible apply pick0 | with_reducible apply pick_there)); done) | ((repeat (first | apply pick0 | apply pick_there)); done) | fail)) | (with_reducible apply sub_drop))))
        cases he
        rw [bys_len, Nat.mul_one] at hl; exact hl.symm
      have Hrd := Lib.hid hxe.rd; have Hkey := Lib.hid (show key.length = 32 from hxe.key)
      have hks : (bys key).length = 32 := by rw [bys_len]; exact Hkey.out
      have Hks := Lib.hid hks
      have hcap : capOk (.slice da dn dc) := hxe.cap
      clear hx hxe hk hrF hks hcap
      go_wp2_with fail
      refine wpL_begin [19, 20, 21, 22] (fun w' => w'.cell? ⟨bk, off + i * 34, none⟩ = some (.int .i64 tag) ∧ w'.rangeAt bk (off + i * 34 + 1) (bys key) ∧ w'.cell? ⟨bk, off + i * 34 + 33, none⟩ = some (.slice da dn dc)) (by kernel_rfl) ?_
      have hG := HG.out _ _ (Ro.of_sub Hr.out (by repeat (first | (with_reducible apply sub_refl) | ((with_reducible apply sub_take); (· first | ((repeat (first | with_reducible apply pick0 | with_reducible apply pick_there)); done) | ((repeat (first | apply pick0 | apply pick_there)); done) | fail)) | (with_reducible apply sub_drop)))) hS.drew
      refine rg_pure 0 (by conv => lhs; whnf) (by kernel_rfl) (by intro _ _ _ h; exact h) (yl_move (by conv => lhs; whnf)) (by go_frame; first | done | rfl) ?_
      refine rg_pure 1 (by conv => lhs; whnf) (by kernel_rfl) (by intro _ _ _ h; exact h) (yl_move (by conv => lhs; whnf)) (by go_frame; first | done | rfl) ?_
      refine rg_pure 2 (by conv => lhs; whnf) (by kernel_rfl) (by intro _ _ _ h; exact h) (yl_move (by conv => lhs; whnf)) (by go_frame; first | done | rfl) ?_
      refine rg_pure 3 (by conv => lhs; whnf) (by kernel_rfl) (by intro _ _ _ h; exact h) (yl_index (by conv => lhs; whnf) (by conv => lhs; whnf) (by ((intro wq; go_simp); first | done | (with_reducible rfl)))) (by go_frame; first | done | rfl) ?_
      refine rg_pure 4 (by conv => lhs; whnf) (by kernel_rfl) (by intro _ _ _ h; exact h) (yl_field (by conv => lhs; whnf) (by ((intro wq; go_simp); first | done | (with_reducible rfl)))) (by go_frame; first | done | rfl) ?_
      refine rg_take 5 (by conv => lhs; whnf) (by kernel_rfl) (by intro _ _ _ h; exact h) (by first | exact tk_load (by conv => lhs; whnf) (by kernel_rfl) (by intro wq hq; first | exact hq | exact hq.1 | exact hq.2 | exact hq.2.1 | exact hq.2.2 | exact hq.2.2.1 | exact hq.2.2.2 | exact hq.2.2.2.1 | exact hq.2.2.2.2) | (refine Or.inl ⟨by rfl, ?_⟩; (intro wq hq; go_split_ands; go_simp); first | done | (with_reducible rfl))) (by assumption) (by go_frame; first | done | rfl) ?_
      refine rg_pure 6 (by conv => lhs; whnf) (by kernel_rfl) (by intro _ _ _ h; exact h) (yl_move (by conv => lhs; whnf)) (by go_frame; first | done | rfl) ?_
      refine rg_pure 7 (by conv => lhs; whnf) (by kernel_rfl) (by intro _ _ _ h; exact h) (yl_move (by conv => lhs; whnf)) (by go_frame; first | done | rfl) ?_
      refine rg_pure 8 (by conv => lhs; whnf) (by kernel_rfl) (by intro _ _ _ h; exact h) (yl_index (by conv => lhs; whnf) (by conv => lhs; whnf) (by ((intro wq; go_simp); first | done | (with_reducible rfl)))) (by go_frame; first | done | rfl) ?_
      refine rg_pure 9 (by conv => lhs; whnf) (by kernel_rfl) (by intro _ _ _ h; exact h) (yl_field (by conv => lhs; whnf) (by ((intro wq; go_simp); first | done | (with_reducible rfl)))) (by go_frame; first | done | rfl) ?_
      refine rg_take 10 (by conv => lhs; whnf) (by kernel_rfl) (by intro _ _ _ h; exact h) (tk_loadN (b := bk) (o := off + i * 34 + 1) (bys key) (by rfl) Tryd.underlying24 rfl (by rw [Hks.out]; kernel_rfl) (fun w hw => hw.2.1)) (by assumption) (by go_frame; first | done | rfl) ?_
      refine rg_pure 11 (by conv => lhs; whnf) (by kernel_rfl) (by intro _ _ _ h; exact h) (yl_move (by conv => lhs; whnf)) (by go_frame; first | done | rfl) ?_
      refine rg_pure 12 (by conv => lhs; whnf) (by kernel_rfl) (by intro _ _ _ h; exact h) (yl_move (by conv => lhs; whnf)) (by go_frame; first | done | rfl) ?_
      refine rg_pure 13 (by conv => lhs; whnf) (by kernel_rfl) (by intro _ _ _ h; exact h) (yl_index (by conv => lhs; whnf) (by conv => lhs; whnf) (by ((intro wq; go_simp); first | done | (with_reducible rfl)))) (by go_frame; first | done | rfl) ?_
      refine rg_pure 14 (by conv => lhs; whnf) (by kernel_rfl) (by intro _ _ _ h; exact h) (yl_field (by conv => lhs; whnf) (by ((intro wq; go_simp); first | done | (with_reducible rfl)))) (by go_frame; first | done | rfl) ?_
      refine rg_take 15 (by conv => lhs; whnf) (by kernel_rfl) (by intro _ _ _ h; exact h) (by first | exact tk_load (by conv => lhs; whnf) (by kernel_rfl) (by intro wq hq; first | exact hq | exact hq.1 | exact hq.2 | exact hq.2.1 | exact hq.2.2 | exact hq.2.2.1 | exact hq.2.2.2 | exact hq.2.2.2.1 | exact hq.2.2.2.2) | (refine Or.inl ⟨by rfl, ?_⟩; (intro wq hq; go_split_ands; go_simp); first | done | (with_reducible rfl))) (by assumption) (by go_frame; first | done | rfl) ?_
      refine rg_pure 16 (by conv => lhs; whnf) (by kernel_rfl) (by intro _ _ _ h; exact h) (yl_move (by conv => lhs; whnf)) (by go_frame; first | done | rfl) ?_
      clear hG
      refine rg_eff 17 (by conv => lhs; whnf) (by kernel_rfl) (fun K hK => ?_)
      (refine eff_call2 (by kernel_rfl) (by conv => lhs; whnf) (by conv => lhs; whnf) ?_)
      refine (cut_c da dn dc long hdn hdc _).mono ?_
      rintro e w3 ⟨v, rfl, rfl, rfl⟩
      refine hK _ _ (.inr (.inr rfl)) ?_
      clear hK K
      refine rg_eff 18 (by conv => lhs; whnf) (by kernel_rfl) (fun K hK => ?_)
      (refine eff_call1 (by kernel_rfl) (by conv => lhs; whnf) ?_)
      refine (copy_c hS.drew (data.take long) (rdsl_cut ((Ro.of_sub Hrd.out (by repeat (first | (with_reducible apply sub_refl) | ((with_reducible apply sub_take); (· first | ((repeat (first | with_reducible apply pick0 | with_reducible apply pick_there)); done) | ((repeat (first | apply pick0 | apply pick_there)); done) | fail)) | (with_reducible apply sub_drop)))) _ hS.drew)) (by rw [List.length_take]; have := Hlong.out; omega)).mono ?_
      rintro e w4 ⟨v, rfl, hS4, ca, cn, cc, rfl⟩
      refine hK _ _ (.inr (.inl (HG.out _ _ (Ro.of_sub Hr.out (by repeat (first | (with_reducible apply sub_refl) | ((with_reducible apply sub_take); (· first | ((repeat (first | with_reducible apply pick0 | with_reducible apply pick_there)); done) | ((repeat (first | apply pick0 | apply pick_there)); done) | fail)) | (with_reducible apply sub_drop)))) hS4))) ?_
      clear hK K
      refine rg_pure 19 (by conv => lhs; whnf) (by kernel_rfl) (by intro _ _ _ h; exact h) (yl_build3 (by conv => lhs; whnf) (by conv => lhs; whnf) (by conv => lhs; whnf) (fun w => run_buildEnt ⟨tag, key, data.take long⟩ Hkey.out ca cn cc w)) (by go_frame; first | done | rfl) ?_
      refine rg_eff 20 (by conv => lhs; whnf) (by kernel_rfl) (fun K hK => ?_)
      refine eff_build1 (e := 27) (sz := 34) (by' := 64) (by kernel_rfl) hS4 (by conv => lhs; whnf) (cs := entA ⟨tag, key, data.take long⟩ (.slice ca cn cc)) rfl (entA_size _ _ Hkey.out) (Nat.le_of_ble_eq_true (by rfl)) ?_
      intro bN w5 hN
      refine hK _ _ (.inl rfl) ?_
      clear hK K hS4
      have hlen : (entsL fs).length ≤ 2147483648 := by
        rw [entsL_len Hfk.out]
        have := congrArg List.length Hfs.out
        simp only [List.length_map, List.length_take] at this
        have := Hn.out; have := Hin.out; omega
      refine rg_eff 21 (by conv => lhs; whnf) (by kernel_rfl) (fun K hK => ?_)
      refine eff_app 27 34 64 (by kernel_rfl) hN (by rfl) (by rfl) (by first | ((repeat (first | with_reducible apply pick0 | with_reducible apply pick_there)); done) | ((repeat (first | apply pick0 | apply pick_there)); done) | fail) (by first | ((repeat (first | with_reducible apply pick0 | with_reducible apply pick_there)); done) | ((repeat (first | apply pick0 | apply pick_there)); done) | fail) ((entA_size _ _ Hkey.out).trans (by decide)) (Nat.le_refl 1) (entA_one _ _ _ _) hlen (by rw [entA_size _ _ Hkey.out]; decide) (by decide) rfl ?_
      intro bA nA cA w6 hA
      refine hK _ _ (.inl rfl) ?_
      clear hK K hN hlen
      refine rg_pure 22 (by conv => lhs; whnf) (by kernel_rfl) (by intro _ _ _ h; exact h) (yl_assign (by conv => lhs; whnf)) (by go_frame; first | done | rfl) ?_
      refine wpL_done (by kernel_rfl) ?_
      go_wp2_with fail
      go_roundg (es.length - (i + 1))
      case measure => have := Hl1.out; omega
      case rel =>
        refine ⟨i + 1, fs ++ [(⟨tag, key, data.take long⟩, .slice ca cn cc)], rfl, Nat.succ_le_of_lt Hl1.out, Nat.succ_le_of_lt Hl2.out, by first | rfl | go_num, ?_, ?_⟩
        · rw [← hcut.out, List.map_append]; rfl
        · rw [entsL_app, dataS_snoc]
          have h9 : Sat w0 w6 (osl 27 34 (.slice (some ⟨bA, 0, none⟩) nA cA) (entsL fs ++ entsL [(⟨tag, key, data.take long⟩, .slice ca cn cc)]) :: bsl (.slice ca cn cc) (data.take long) :: dataS fs :: F) := by
            have e : entsL [((⟨tag, key, data.take long⟩ : Frm.Ent), Value.slice ca cn cc)] = (entA ⟨tag, key, data.take long⟩ (.slice ca cn cc)).toList := by
              unfold entsL entA; simp
            rw [e]
            exact Sat.sub hA (by repeat (first | (with_reducible apply sub_refl) | ((with_reducible apply sub_take); (· first | ((repeat (first | with_reducible apply pick0 | with_reducible apply pick_there)); done) | ((repeat (first | apply pick0 | apply pick_there)); done) | fail)) | (with_reducible apply sub_drop)))
          have h10 : Sat w0 w6 (bsl (.slice ca cn cc) (data.take long) :: dataS fs :: osl 27 34 (.slice (some ⟨bA, 0, none⟩) nA cA) (entsL fs ++ entsL [(⟨tag, key, data.take long⟩, .slice ca cn cc)]) :: F) := h9.sub (by repeat (first | (with_reducible apply sub_refl) | ((with_reducible apply sub_take); (· first | ((repeat (first | with_reducible apply pick0 | with_reducible apply pick_there)); done) | ((repeat (first | apply pick0 | apply pick_there)); done) | fail)) | (with_reducible apply sub_drop)))
          exact (Sat.star.2 h10).pick1
    · have hfin : fs.map (·.1) = Frm.few (es.map (·.1)) n long := by
        rw [Hfs.out]
        unfold Frm.few
        congr 1
        have := Hi.out; have := Hin.out
        by_cases hh : i = n
        · rw [hh]
        · rw [List.take_of_length_le (by rw [List.length_map]; omega), List.take_of_length_le (by rw [List.length_map]; omega)]
      by_cases hl1 : i < es.length
      · have c1 : (i : Int) < (es.length : Int) := by omega
        have c2 : ¬ (i : Int) < (n : Int) := by omega
        have Hfin := Lib.hid hfin
        clear hfin hlt hl1
        go_wp2
        go_ret
        exact ⟨_, rfl, fs, Hfin.out, hS⟩
      · have c1 : ¬ (i : Int) < (es.length : Int) := by omega
        have Hfin := Lib.hid hfin
        clear hfin hlt hl1
        go_wp2
        go_ret
        exact ⟨_, rfl, fs, Hfin.out, hS⟩
end
end Go.Proofs.YtjklhichekmdhaaDoor
/- Entries and places that came in. -/
namespace Go.Proofs.YtjklhichekmdhaaDoor
open Go Go.Sl Go.Med Go.ChangeShapes Go.WideShapes Go.RowKit
set_option linter.unusedVariables false
section
variable {H : Type} {enc : TypeId × Value → H} {W : World} {base : Nat} {spare : Nat → Bool} {held : Bool}
theorem open_key {t : TypeId} {fuel : Nat} {cs : List Value} {x : DataW H × List MemPlace} {k : Nat} (ht : Tryd.prog.underlying t = some (.array k 5)) (hk : Tryd.prog.cellsOf t = k) (h : DataW.trod enc Tryd.prog W base spare held fuel t cs = some x) :
    ∃ l : Bs, bys l = cs ∧ l.length = k := by
  obtain ⟨xs, m, _, _, hl, hxl, hf⟩ := DataW.trod_array ht h
  have e1 : Tryd.prog.cellsOf 5 = 1 := by kernel_rfl
  rw [hk] at hl
  have hz : ∀ i, i < k → ∃ z : Int, cs[i]? = some (.int .u8 z) ∧ (Lit.int .u8 z).wf = true := by
    intro i hi
    have h0 := hf i hi
    rw [List.getElem?_eq_getElem (by omega), e1, Nat.mul_one] at h0
    obtain ⟨z, q1, _, q3⟩ := DataW.trod_int Tryd.underlying5 h0
    refine ⟨z, ?_, q3⟩
    have : ((cs.drop i).take 1)[0]? = some (.int .u8 z) := by rw [q1]; rfl
    rw [List.getElem?_take, if_pos (by decide), List.getElem?_drop] at this
    exact this
  obtain ⟨zs, z1, z2⟩ := list_of_fun hz
  have hcs : cs = zs.map (.int .u8) := by
    apply List.ext_getElem? 
    intro i
    rw [List.getElem?_map]
    by_cases hi : i < k
    · have := (z2 i _ (List.getElem?_eq_getElem (by omega))).1
      rw [this, List.getElem?_eq_getElem (show i < zs.length by omega)]; rfl
    · rw [List.getElem?_eq_none (by omega), List.getElem?_eq_none (by omega)]; rfl
  refine ⟨toBs zs, ?_, by unfold toBs; rw [List.length_map]; exact z1⟩
  rw [bys_toBs, hcs]
  intro z hz
  obtain ⟨i, hi, rfl⟩ := List.getElem_of_mem hz
  exact (z2 i _ (List.getElem?_eq_getElem hi)).2
/-- An entry that came in. -/
structure EntAt (W : World) (p : Frm.Ent × Value) : Prop where
  key : p.1.key.length = 32
  tag : inI p.1.tag
  rd : rdsl 1 p.2 (bys p.1.data) W
  cap : capOk p.2
set_option maxRecDepth 100000 in
theorem open_ent {fuel : Nat} {cs : List Value} {x : DataW H × List MemPlace} (h : DataW.trod enc Tryd.prog W base spare held fuel 27 cs = some x) : ∃ p : Frm.Ent × Value, entL p.1 p.2 = cs ∧ EntAt W p := by
  obtain ⟨hl, hf⟩ := open_fields Tryd.underlying27 h
  have e34 : Tryd.prog.cellsOf 27 = 34 := by kernel_rfl
  have e1 : Tryd.prog.cellsOf 3 = 1 := by kernel_rfl
  have e2 : Tryd.prog.cellsOf 24 = 32 := by kernel_rfl
  have e3 : Tryd.prog.cellsOf 25 = 1 := by kernel_rfl
  have e5 : Tryd.prog.cellsOf 5 = 1 := by kernel_rfl
  rw [e34] at hl
  obtain ⟨n0, y0, h0⟩ := hf 0 _ rfl
  obtain ⟨n1, y1, h1⟩ := hf 1 _ rfl
  obtain ⟨n2, y2, h2⟩ := hf 2 _ rfl
  simp only [List.getElem_toArray, List.getElem_cons_zero, List.getElem_cons_succ, e1, e2, e3, List.drop_zero] at h0 h1 h2
  obtain ⟨z0, q0, _, w0⟩ := DataW.trod_int Tryd.underlying3 h0
  obtain ⟨kl, k1, k2⟩ := open_key Tryd.underlying24 e2 h1
  have hd : ∃ v, (cs.drop 33).take 1 = [v] := by
    have : ((cs.drop 33).take 1).length = 1 := by rw [List.length_take, List.length_drop]; omega
    exact List.length_eq_one_iff.1 this
  obtain ⟨dv, hdv⟩ := hd
  rw [hdv] at h2
  obtain ⟨l5, r5, c5⟩ := in_bys Tryd.underlying25 Tryd.underlying5 e5 h2
  refine ⟨(⟨z0, kl, l5⟩, dv), ?_, k2, bounds_i64 w0, r5, c5⟩
  show Value.int .i64 z0 :: (bys kl ++ [dv]) = cs
  have s1 : cs = cs.take 1 ++ ((cs.drop 1).take 32 ++ (cs.drop 33).take 1) := by
    have a1 : cs = cs.take 1 ++ cs.drop 1 := (List.take_append_drop 1 cs).symm
    have a2 : cs.drop 1 = (cs.drop 1).take 32 ++ (cs.drop 1).drop 32 := (List.take_append_drop 32 _).symm
    have a3 : (cs.drop 1).drop 32 = (cs.drop 33).take 1 := by rw [List.drop_drop, List.take_of_length_le (by rw [List.length_drop]; omega)]
    rw [a3] at a2
    rw [← a2]; exact a1
  rw [s1, q0, ← k1, hdv]; rfl
theorem EntAt.ro {p : Frm.Ent × Value} (h : EntAt W p) : EntRo W [Sl.old W] p := ⟨h.key, rd_old h.rd, h.cap⟩
set_option maxRecDepth 100000 in
theorem open_plc {fuel : Nat} {cs : List Value} {x : DataW H × List MemPlace} (h : DataW.trod enc Tryd.prog W base spare held fuel 40 cs = some x) : ∃ a b c : Int, cs = [.int .i64 a, .int .i64 b, .int .i64 c] ∧ inI a ∧ inI b ∧ inI c := by
  obtain ⟨hl, hf⟩ := open_fields Tryd.underlying40 h
  have e3 : Tryd.prog.cellsOf 40 = 3 := by kernel_rfl
  have e1 : Tryd.prog.cellsOf 3 = 1 := by kernel_rfl
  rw [e3] at hl
  match cs, hl with
  | [v0, v1, v2], _ =>
    obtain ⟨n0, y0, h0⟩ := hf 0 _ rfl
    obtain ⟨n1, y1, h1⟩ := hf 1 _ rfl
    obtain ⟨n2, y2, h2⟩ := hf 2 _ rfl
    simp only [List.getElem_toArray, List.getElem_cons_zero, List.getElem_cons_succ, e1, List.drop_zero, List.drop_succ_cons, List.take_succ_cons, List.take_zero] at h0 h1 h2
    obtain ⟨z0, q0, _, w0⟩ := DataW.trod_int Tryd.underlying3 h0
    obtain ⟨z1, q1, _, w1⟩ := DataW.trod_int Tryd.underlying3 h1
    obtain ⟨z2, q2, _, w2⟩ := DataW.trod_int Tryd.underlying3 h2
    simp only [List.cons.injEq, and_true] at q0 q1 q2
    subst q0; subst q1; subst q2
    exact ⟨z0, z1, z2, rfl, bounds_i64 w0, bounds_i64 w1, bounds_i64 w2⟩
end
end Go.Proofs.YtjklhichekmdhaaDoor
/- The table of crc, as the condition lays it; what it gives the walks. -/
namespace Go.Proofs.YtjklhichekmdhaaDoor.card
open Go.ChangeShapes Go.WideShapes Go.ChangeAt Go.RowKit
open Go Go.Sl Go.Med
set_option linter.unusedVariables false
theorem gHalf : Tryd.prog.globalNamed "hoard/crc.half" = some 0 := by kernel_rfl
theorem tHalf : ((Tryd.prog.globals[0]?).map (·.type)) = some 138 := by kernel_rfl
/-- The door's own heap meets the condition. -/
theorem door_met (os : Os) (args : Array Value) : laidMetH Tryd.prog [("hoard/crc.half", Rows.laid_hoard_crc_half)] ((World.doorLaid Tryd.prog 400 os).forCall (fun _ _ => 0) ⟨#[], args, []⟩).memory :=
  laidMetH_of_parts3 (fuel := 8) (laidMet_of_run' 8 (by kernel_rfl) (by kernel_rfl)) (by kernel_rfl) (by kernel_rfl)
/-- What the condition gives the walks. -/
theorem of_laid {W : World} (h : laidMetH Tryd.prog [("hoard/crc.half", Rows.laid_hoard_crc_half)] W) : 0 < W.heap.size ∧ Half W := by
  rw [MakeChecks.laidMetH_plain _ _ _ (by kernel_rfl)] at h
  obtain ⟨ps, ⟨g0, t0, cs0, f0, p0, q0, hg0, ht0, hv0, hd0, hrest⟩, hrest2⟩ := h
  obtain rfl := Option.some.inj (gHalf.symm.trans hg0)
  obtain rfl := Option.some.inj (tHalf.symm.trans ht0)
  obtain ⟨xs, m1, rfl, hx1, hlen, hn3, hel⟩ := DataW.trod_array Tryd.underlying138 hd0
  have c3 : Tryd.prog.cellsOf 119 = 1 := by kernel_rfl
  simp only [Prod.mk.injEq, Rows.laid_hoard_crc_half, DataW.agg.injEq] at hx1
  have hH : Half W := by
    intro i hi
    have h0 := hel i hi
    have hxi : xs[i]? = some (xs[i]'(by omega)) := List.getElem?_eq_getElem (by omega)
    rw [hxi] at h0
    obtain ⟨k, e1, e2, _⟩ := DataW.trod_int Tryd.underlying119 h0
    rw [c3, Nat.mul_one] at e1
    have hc : cs0.toList[i]? = some (.int .u32 k) := by
      have : ((cs0.toList.drop i).take 1)[0]? = some (.int .u32 k) := by rw [e1]; rfl
      rw [List.getElem?_take, if_pos (by decide), List.getElem?_drop] at this
      exact this
    have hL := congrArg (fun l => l[i]?) hx1.1
    rw [List.getElem?_map, hxi] at hL
    have hk : k = ((Frm.half.getD i 0 : Nat) : Int) := by
      rw [e2] at hL
      rcases i with _ | _ | _ | _ | _ | _ | _ | _ | _ | _ | _ | _ | _ | _ | _ | _ | i
      all_goals first | omega | (simp at hL; rw [← hL]; rfl)
    subst hk
    have := World.var?_cell hg0 hv0 i
    rw [this, ← Array.getElem?_toList]
    exact hc
  refine ⟨?_, hH⟩
  by_cases hz : 0 < W.heap.size
  · exact hz
  · have h0 := hH 0 (by decide)
    have e : W.heap[0]? = none := Array.getElem?_eq_none (by omega)
    simp [World.cell?, e] at h0
end Go.Proofs.YtjklhichekmdhaaDoor.card
