import Derived.Test.YtdhhbajggafdhaaMed33
/- The walk of MediaRoom. -/
namespace Go.Proofs.Ytdhhbajggafdhaa
open Go Go.Sl Go.Med Go.MapKept Go.RowKit
set_option linter.unusedVariables false
section
variable {w0 w W : World} {F : List HProp} {m fb nb b r : Nat} {M P : Med} {bs : List Nat} {wv v bv dv av cv nv ov : Value} {s : ByteArray} {fs : List Fil} {K : Nat} {f : Fil}
theorem within_nat (z : Int) (hi : Nat) : ∃ R : Nat, within z 0 hi = (R : Int) ∧ R ≤ hi := by
  unfold within
  split
  · exact ⟨0, rfl, Nat.zero_le _⟩
  · split
    · exact ⟨hi, rfl, Nat.le_refl _⟩
    · exact ⟨z.toNat, by omega, by omega⟩
theorem told_le (h : M.used ≤ M.room) : M.usedTold ≤ M.room := by
  unfold Med.usedTold
  split
  · exact Nat.zero_le _
  · exact h
set_option maxHeartbeats 4000000 in
theorem room_law_c {ds : List D} (z : Int) (hd : Dos w0 W F dv ds) (h : Sat w0 w F) :
    Calls Try.prog 4 #[.int .i64 z, dv] w (Rtn fun v w' => v = .bool true ∧ Sat w0 w' F) := by
  obtain ⟨R, hR, hR5⟩ := within_nat z 500
  have hwi := fun w => within_c z 0 500 w
  have hcast : ((500 : Nat) : Int) = 500 := rfl
  rw [hcast] at hR
  rw [hR] at hwi
  have hfw := few_r (L := []) hd h 50 (by omega)
  have hcast5 : ((50 : Nat) : Int) = 50 := rfl
  rw [hcast5] at hfw
  clear hcast hcast5 hR
  go_enter Try.func4, Try.ntmps4
  go_wp2_with (first
    | (go_at_call 21; refine (hwi _).mono ?_; rintro e w1 ⟨v, rfl, rfl, rfl⟩)
    | (go_at_call 22; go_must (refine hfw.mono ?_); rintro e w1 ⟨v, rfl, es, hF, ⟨a, c, rfl⟩, hS1⟩))
  clear hwi hfw
  have hnew := new_yes R (by omega) hS1
  refine hnew.mono ?_
  rintro e w2 ⟨v, rfl, m, rfl, hS2⟩
  clear hnew
  have hF2 := hF.len
  have HF := Lib.hid hF
  have hlen : es.length ≤ 50 := by omega
  have Hlen := Lib.hid hlen
  clear hF hF2 hlen
  go_wp2_with fail
  go_loopg [7] es.length (fun g iq wr => ∃ (i : Nat) (M' : Med), g = es.length - i ∧ i ≤ es.length ∧ iq = .int .i64 i ∧ M'.Ok i ∧ Dst M' ∧ M'.used ≤ M'.room ∧ M'.room = R ∧
    Sat w0 wr (MedRep m M' :: osl 44 7 (.slice a es.length c) (es.flatMap dCells) :: bsls es :: F))
  case atStart => exact ⟨0, _, rfl, Nat.zero_le _, rfl, Med.Ok.new 0 R (by omega), by unfold Dst Med.new; exact List.nodup_nil, Nat.zero_le _, rfl, hS2⟩
  case round =>
    obtain ⟨i, M', rfl, hi, rfl, hok, hdst, hus, hrm, hS⟩ := hrel
    have Hok := Lib.hid hok; have Hdst := Lib.hid hdst; have Hus := Lib.hid hus; have Hrm := Lib.hid hrm
    clear hok hdst hus hrm
    by_cases hi' : i < es.length
    · obtain ⟨e, he⟩ : ∃ e, es[i]? = some e := ⟨es[i], List.getElem?_eq_getElem _⟩
      obtain ⟨g, rfl, c0, c1, c2, c3, c4, c5, c6⟩ := dos_at hS.pick1 he
      have hfit := HF.out.fit e (List.mem_of_getElem? he)
      obtain ⟨G, hG, _⟩ := bsls_at he (hS.sel 3 [2] rfl rfl)
      obtain ⟨ba, bn, bc, hbv, _, _, hbn⟩ := bsl_cap' hG
      have hic : (i : Int) < (es.length : Int) := by omega
      have hwi : IntKind.i64.wrap ((i : Int) + 1) = (i : Int) + 1 := IntWalk.i64_in _ (by have h1 := Hlen.out; omega)
      by_cases h9 : e.kind = 9
      · rw [h9] at c0
        clear hG he hfit
        go_wp2
        go_roundg (es.length - (i + 1))
        case measure => omega
        case rel => exact ⟨i + 1, M', rfl, Nat.succ_le_of_lt hi', by first | rfl | go_num, Hok.out.mono (Nat.le_succ _), Hdst.out, Hus.out, Hrm.out, hS⟩
      by_cases h8 : e.kind = 8
      · rw [h8] at c0
        clear hG he hfit h9
        go_wp2
        go_roundg (es.length - (i + 1))
        case measure => omega
        case rel => exact ⟨i + 1, M', rfl, Nat.succ_le_of_lt hi', by first | rfl | go_num, Hok.out.mono (Nat.le_succ _), Hdst.out, Hus.out, Hrm.out, hS⟩
      obtain ⟨hfits, hfull⟩ := Fits.does Hok.out Hdst.out Hus.out e.cal h8 h9
      have hok2 := Hok.out.does e.cal hfit.n.2
      have hused := used_rep Hok.out hS
      have hrb := (bsls_rd (w0 := w0) (F := F) he)
      have hfit' := hfit.more (L := [osl 44 7 (.slice (some ⟨g, 0, none⟩) es.length c) (es.flatMap dCells), bsls es])
      have hdo := fun w2 hw2 => does_c (w := w2) (m := m) Hok.out (by have := Hlen.out; omega) hw2 e hfit' hrb.cons
      have hblen := hfit.b
      have hU0 := told_le Hus.out
      have hU1 := told_le hfits.used
      rw [hfits.room, Hrm.out] at hU1
      rw [Hrm.out] at hfull hU0
      have He := Lib.hid he
      have Hfits := Lib.hid hfits; have Hok2 := Lib.hid hok2; have Hdo := Lib.hid hdo
      have HR : Hid ((M'.does e.cal).1.room = R) := by show _ = _; rw [hfits.room, Hrm.out]
      have hus2 := fun w2 hw2 => used_rep (w := w2) (w0 := w0) (F := osl 44 7 (.slice (some ⟨g, 0, none⟩) es.length c) (es.flatMap dCells) :: bsls es :: F) (m := m) hok2 hw2
      have Hus2 := Lib.hid hus2
      clear hG he hfit hfit' hfits hok2 hdo hrb hus2
      obtain ⟨kind, name, to, dn, dm, dbv, db, dlv, dl⟩ := e
      simp only [D.cal] at *
      subst hbv
      subst hbn
      generalize M'.does _ = X at *
      obtain ⟨M2, out, C, okk⟩ := X
      simp only at *
      generalize M'.usedTold = U0 at *
      have h9b : (kind == 9) = false := by simpa using h9
      have h8b : (kind == 8) = false := by simpa using h8
      generalize hU1' : M2.usedTold = U1 at *
      go_wp2_with fail
      refine hused.mono ?_
      rintro e w3 ⟨v, rfl, rfl, hS3⟩
      clear hused
      obtain ⟨g2, he2, c0, c1, c2, c3, c4, c5, c6⟩ := dos_at hS3.pick1 He.out
      cases he2
      have hdo := Hdo.out w3 hS3
      go_wp2_with fail
      refine hdo.mono ?_
      rintro e w4 ⟨v, rfl, ov, rfl, ⟨oa, on, oc, rfl⟩, hS4⟩
      clear hdo c0 c1 c2 c3 c4 c5 c6
      obtain ⟨g2, he2, c0, c1, c2, c3, c4, c5, c6⟩ := dos_at (hS4.sel 3 [2] rfl rfl) He.out
      cases he2
      have hus2 := Hus2.out w4 hS4.drop
      dsimp only
      go_wp2_with fail
      refine hus2.mono ?_
      rintro e w5 ⟨v, rfl, rfl, hS5⟩
      clear hus2 c0 c1 c2 c3 c4 c5 c6
      obtain ⟨g2, he2, c0, c1, c2, c3, c4, c5, c6⟩ := dos_at hS5.pick1 He.out
      cases he2
      have HS5 := Lib.hid hS5
      clear hS5 hS4 hS3 hS2 hS1 hS
      have hRU : ¬ R < U1 := by omega
      have hRU2 : decide (R < U1) = false := decide_eq_false hRU
      have fin : ∃ (i_1 : Nat) (M'_1 : Med), es.length - (i + 1) = es.length - i_1 ∧ i_1 ≤ es.length ∧ Value.int .i64 ((i : Int) + 1) = .int .i64 i_1 ∧ M'_1.Ok i_1 ∧ Dst M'_1 ∧ M'_1.used ≤ M'_1.room ∧ M'_1.room = R ∧
          Sat w0 w5 (MedRep m M'_1 :: osl 44 7 (.slice (some ⟨g, 0, none⟩) es.length c) (es.flatMap dCells) :: bsls es :: F) :=
        ⟨i + 1, M2, rfl, Nat.succ_le_of_lt hi', by first | rfl | go_num, Hok2.out, Hfits.out.dst, Hfits.out.used, HR.out, HS5.out⟩
      have Fin := Lib.hid fin
      clear fin
      by_cases hC : C = 11
      · subst hC
        obtain ⟨hk1, hfl⟩ := hfull rfl
        have hk1' : kind = 1 := hk1
        subst hk1'
        have hsum : ¬ U0 + db.length ≤ R := by omega
        have hsumi : ¬ ((U0 : Int) + (db.length : Int) ≤ (R : Int)) := by omega
        have hsumd : decide ((U0 : Int) + (db.length : Int) ≤ (R : Int)) = false := decide_eq_false hsumi
        have hwr : IntKind.i64.wrap ((U0 : Int) + (db.length : Int)) = (U0 : Int) + (db.length : Int) := IntWalk.i64_in _ (by omega)
        clear hfull hfl hk1 hU1 hU0 hblen h8 h9 hRU
        go_wp2
        go_roundg (es.length - (i + 1))
        case measure => omega
        case rel => exact Fin.out
      · have hCb : (C == 11) = false := by simpa using hC
        clear hfull hU1 hU0 hblen h8 h9 hRU
        go_wp2
        go_roundg (es.length - (i + 1))
        case measure => omega
        case rel => exact Fin.out
    · obtain rfl : i = es.length := by omega
      have hic : ¬ (es.length : Int) < (es.length : Int) := by omega
      have hlv := lives_c (hS.sel 3 [] rfl rfl)
      clear hi' hi hS2 hS1
      go_wp2_with fail
      refine hlv.mono ?_
      rintro e w5 ⟨v, rfl, rfl, hS5⟩
      clear hlv
      go_wp2
      go_ret
      exact ⟨.bool true, rfl, rfl, hS5⟩
end
end Go.Proofs.Ytdhhbajggafdhaa
