import Derived.Test.YtdhhbajggafdhaaMed20
/- The walk of MediaTears. -/
namespace Go.Proofs.Ytdhhbajggafdhaa
open Go Go.Sl Go.Med Go.MapKept Go.RowKit
section
variable {w0 w : World} {F : List HProp} {m fb nb b r : Nat} {M : Med} {bs : List Nat} {wv v bv lv av rv : Value} {s : ByteArray} {fs : List Fil} {K : Nat} {f : Fil}
theorem one_ok (hf : f.Ok K) (hr : r ≤ 16777216) : (oneF r f).Ok K := by
  have hn : NOk 1 [(aN, 0)] := ⟨List.pairwise_singleton _ _, by simp, by simp, by simp [aN_ne]⟩
  refine ⟨hr, by simp [oneF], by simp [oneF], ?_, by simp [oneF, Med.lastNames], ?_, by simp [oneF]⟩
  · intro k _
    have : (oneF r f).lastNames k = [(aN, 0)] := by simp [oneF, Med.lastNames]
    rw [this]; exact hn
  · intro g hg
    have : g = f := by simpa [oneF] using hg
    rw [this]; exact hf
theorem bsl_cap {l : Bs} (h : Sat w0 w (bsl v l :: F)) : capOk v := by
  rcases Sat.osl_cases h with ⟨rfl, _⟩ | ⟨b, n', cap', cs, rfl, _, hn, _, hcm, _, _⟩
  · exact ⟨_, 0, 0, rfl, Nat.le_refl _, by omega⟩
  · exact ⟨_, _, _, rfl, hn, hcm⟩
theorem ro_min {a : Option Addr} {n c k : Nat} {xs : List Value} (h : Ro w0 F (rdsl 1 (.slice a n c) xs)) : Ro w0 F (rdsl 1 (.slice a (min n k) c) (xs.take k)) := fun w' hw' => rdsl_min (h w' hw') k
theorem sync_first_c (hr : r ≤ 16777216) (lb : Bs) (hl : lb.length ≤ r) (hm : Sat w0 w (MedRep m ⟨r, [], [(aN, 0)], [⟨[], lb, [⟨false, 0, lb⟩]⟩], [⟨ByteArray.empty, aN, 0⟩], false, 0, false⟩ :: F)) :
    Calls Try.prog 14 #[ptr m, .string ⟨#[97]⟩] w (Rtn fun v w' => v = errno 0 ∧ Sat w0 w' (MedRep m ⟨r, [], [(aN, 0)], [⟨lb, lb, []⟩], [⟨ByteArray.empty, aN, 0⟩], false, 0, false⟩ :: F)) := by
  have := sync_c (ok_first hr lb hl) hm aN
  rw [sync_first r lb] at this
  exact this
theorem syncDir_first_c (hr : r ≤ 16777216) (lb : Bs) (hl : lb.length ≤ r) (hm : Sat w0 w (MedRep m ⟨r, [], [(aN, 0)], [⟨lb, lb, []⟩], [⟨ByteArray.empty, aN, 0⟩], false, 0, false⟩ :: F)) :
    Calls Try.prog 15 #[ptr m] w (Rtn fun v w' => v = errno 0 ∧ Sat w0 w' (MedRep m (oneF r ⟨lb, lb, []⟩) :: F)) := by
  have ok := (ok_first hr lb hl).sync aN
  rw [sync_first r lb] at ok
  have := syncDir_c ok hm
  rw [syncDir_first r] at this
  exact this
theorem append_one_c (hf : f.Ok K) (hK : K ≤ 1000) (hr : r ≤ 16777216) (hm : Sat w0 w (MedRep m (oneF r f) :: F)) (lb : Bs) (hb : Ro w0 F (rdsl 1 bv (bys lb))) (hl : f.now.length + lb.length ≤ r) :
    Calls Try.prog 13 #[ptr m, .string ⟨#[97]⟩, bv] w (Rtn fun v w' => v = errno 0 ∧ Sat w0 w' (MedRep m (oneF r (f.do ⟨false, 0, lb⟩)) :: F)) := by
  have := append_c (one_ok hf hr) (by omega) hm aN lb hb
  rw [append_one r f lb hl] at this
  exact this
theorem all_one_c (hf : f.Ok K) (hr : r ≤ 16777216) (hm : Sat w0 w (MedRep m (oneF r f) :: F)) :
    Calls Try.prog 16 #[ptr m, .string ⟨#[97]⟩] w (Rtn fun v w' => ∃ bv, v = .tuple #[bv, errno 0] ∧ Sat w0 w' (bsl bv f.now :: MedRep m (oneF r f) :: F)) := by
  have := all_c (one_ok hf hr) hm aN
  rw [all_one r f] at this
  exact this
theorem crash_one_c (hf : f.Ok K) (hK : K ≤ 1000) (hr : r ≤ 16777216) (hm : Sat w0 w (MedRep m (oneF r f) :: F)) (l : List Int) (hl : Ro w0 F (rdsl 1 lv (ints l))) (hcap : capOk lv) (hi : ∀ x ∈ l, inI x) :
    Calls Try.prog 17 #[ptr m, lv] w (Rtn fun _ w' => Sat w0 w' (MedRep m (oneF r (f.crash (num l 1) (num l 2))) :: F)) := by
  have := crash_c (one_ok hf hr) (by omega) hm l hl hcap hi
  rw [crash_one r f l] at this
  exact this
set_option maxHeartbeats 4000000 in
theorem tears_c (h : Sat w0 w F) (lf : Bs) (ha : Ro w0 F (rdsl 1 av (bys lf))) (hac : capOk av) (rows : List (Value × Bs)) (hrow : Ro w0 F (rdsl 1 rv (rows.map (·.1)))) (hrc : capOk rv)
    (hrows : ∀ p ∈ rows, capOk p.1 ∧ Ro w0 F (rdsl 1 p.1 (bys p.2))) (l : List Int) (hl : Ro w0 F (rdsl 1 lv (ints l))) (hlc : capOk lv) (hi : ∀ x ∈ l, inI x) :
    Calls Try.prog 3 #[av, rv, lv] w (Rtn fun v w' => v = .bool true ∧ Sat w0 w' F) := by
  obtain ⟨a0, n0, c0, rfl, ha1, ha2⟩ := hac
  obtain ⟨a1, n1, c1, rfl, hr1, hr2⟩ := hrc
  obtain ⟨a2, n2, c2, rfl, hl1, hl2⟩ := hlc
  have hn1 : n1 = rows.length := by
    obtain ⟨_, _, _, he, hx, _⟩ := hrow w h
    cases he
    simpa using hx.symm
  subst hn1
  have hnew := new_yes 5000 (by omega) h
  have hcast : ((5000 : Nat) : Int) = 5000 := rfl
  rw [hcast] at hnew
  have hcut := cut_c a0 n0 c0 300 ha1 ha2
  have hcast3 : ((300 : Nat) : Int) = 300 := rfl
  rw [hcast3] at hcut
  have ha' : Ro w0 F (rdsl 1 (.slice a0 (min n0 300) c0) (bys (lf.take 300))) := by rw [bys_take]; exact ro_min ha
  have hlf : (lf.take 300).length ≤ 300 := by rw [List.length_take]; omega
  have hlf5 : (lf.take 300).length ≤ 5000 := by omega
  generalize lf.take 300 = lf' at *
  have hl' : Ro w0 F (rdsl 1 (.slice a2 (min n2 10) c2) (ints (l.take 10))) := by unfold ints; rw [List.map_take]; exact ro_min hl
  have hi' : ∀ x ∈ l.take 10, inI x := fun x hx => hi x (List.mem_of_mem_take hx)
  have hnum := numbers_c a2 n2 c2 10 hl1 hl2
  have hcast10 : ((10 : Nat) : Int) = 10 := rfl
  rw [hcast10] at hnum
  have hc2' : capOk (.slice a2 (min n2 10) c2) := ⟨_, _, _, rfl, by omega, hl2⟩
  generalize hm2 : min n2 10 = n2' at *
  generalize hm0 : min n0 300 = n0' at *
  generalize l.take 10 = l' at *
  have Ha := Lib.hid ha'; have Hrow := Lib.hid hrow; have Hrows := Lib.hid hrows; have Hl := Lib.hid hl'; have Hi := Lib.hid hi'
  clear ha ha' hrow hrows hl hl' hi hi' hm2 hm0
  go_enter Try.func3, Try.ntmps3
  go_wp2_with (first
    | (go_at_call 10; refine hnew.mono ?_; rintro e w1 ⟨v, rfl, m, rfl, hS1⟩)
    | (go_at_call 11; refine (hcut _).mono ?_; rintro e w1 ⟨v, rfl, rfl, rfl⟩)
    | (go_at_call 12; refine (create_first hS1 (by omega)).mono ?_; rintro e w2 ⟨v, rfl, rfl, hS2⟩)
    | (go_at_call 13; refine (append_first_c (by omega) hS2 lf' Ha.out hlf5).mono ?_; rintro e w3 ⟨v, rfl, rfl, hS3⟩)
    | (go_at_call 14; refine (sync_first_c (by omega) lf' hlf5 hS3).mono ?_; rintro e w4 ⟨v, rfl, rfl, hS4⟩)
    | (go_at_call 15; refine (syncDir_first_c (by omega) lf' hlf5 hS4).mono ?_; rintro e w5 ⟨v, rfl, rfl, hS5⟩))
  clear hnew hcut hS1 hS2 hS3 hS4
  have h0 : Hid (Nat.min rows.length 10 = min rows.length 10) := by show _ = _; rfl
  obtain ⟨R, hR⟩ : ∃ R, R = min rows.length 10 := ⟨_, rfl⟩
  have hR1 : R ≤ rows.length := by omega
  have hR2 : R ≤ 10 := by omega
  have hR3 : R = rows.length ∨ R = 10 := by omega
  clear h0 hR
  go_loopg [9] R (fun g iq wr => ∃ (i : Nat) (f : Fil), g = R - i ∧ i ≤ R ∧ iq = .int .i64 i ∧ f.fast = lf' ∧ Grows f ∧ f.Ok (2 + i) ∧ f.now.length ≤ 300 + 100 * i ∧ Sat w0 wr (MedRep m (oneF 5000 f) :: F))
  case atStart => exact ⟨0, _, rfl, Nat.zero_le _, rfl, rfl, Grows.flat _, Fil.Ok.flat _ _ (by omega), by simpa using hlf, hS5⟩
  case round =>
    obtain ⟨i, f, rfl, hiR, rfl, hfast, hgrow, hok, hlen, hS⟩ := hrel
    have Hfast := Lib.hid hfast; have Hgrow := Lib.hid hgrow; have Hok := Lib.hid hok
    clear hfast hgrow hok
    by_cases hi : i < R
    · obtain ⟨p, hp⟩ : ∃ p, rows[i]? = some p := ⟨rows[i]'(by omega), List.getElem?_eq_getElem _⟩
      obtain ⟨hpc, hpr⟩ := Hrows.out p (List.mem_of_getElem? hp)
      obtain ⟨bk, off, rfl, hcell⟩ := rdsl_cell (Hrow.out _ hS.drop) (i := i) (x := p.1) (by simp [hp])
      obtain ⟨pv, pb⟩ := p
      obtain ⟨ap, np, cp, rfl, hp1, hp2⟩ := hpc
      have hcutp := cut_c ap np cp 100 hp1 hp2
      have hcast1 : ((100 : Nat) : Int) = 100 := rfl
      rw [hcast1] at hcutp
      have hpr' : Ro w0 F (rdsl 1 (.slice ap (min np 100) cp) (bys (pb.take 100))) := by rw [bys_take]; exact ro_min hpr
      have hpl : (pb.take 100).length ≤ 100 := by rw [List.length_take]; omega
      generalize hmp : min np 100 = np' at *
      generalize pb.take 100 = pb' at *
      have hap := append_one_c (r := 5000) (Hok.out) (by omega) (by omega) hS pb' hpr' (by omega)
      clear hpr hpr' hp hmp
      have hic : (i : Int) < (rows.length : Int) := by omega
      have hic2 : (i : Int) < 10 := by omega
      simp only at hcell
      go_wp2_with (first
        | (go_at_call 11; refine (hcutp _).mono ?_; rintro e w1 ⟨v, rfl, rfl, rfl⟩)
        | (go_at_call 13; refine hap.mono ?_; rintro e w2 ⟨v, rfl, rfl, hS2⟩))
      go_roundg (R - (i + 1))
      case measure => omega
      case rel =>
        refine ⟨i + 1, f.do ⟨false, 0, pb'⟩, rfl, by omega, by go_num, Hfast.out, Hgrow.out.do _, ?_, ?_, hS2⟩
        · have := Hok.out.do ⟨false, 0, pb'⟩ (fun h => by cases h) (fun _ => by simp only; omega)
          exact this
        · simp only [Fil.do, Chg.on, Bool.false_eq_true, if_false, List.length_append]; omega
    · obtain rfl : i = R := by omega
      have hall := all_one_c (r := 5000) Hok.out (by omega) hS
      obtain ⟨hfr1, hfr2⟩ := left_front Hgrow.out Hok.out.now (num l' 1) (num l' 2)
      rw [Hfast.out] at hfr1
      have hokc := Hok.out.crash (num l' 1) (num l' 2)
      have hbnd : f.now.length ≤ 16777216 := by omega
      have Hf1 := Lib.hid hfr1; have Hf2 := Lib.hid hfr2; have Hokc := Lib.hid hokc
      clear hfr1 hfr2 hokc
      have htest : (decide ((i : Int) < (rows.length : Int)) = false) ∨ ((i : Int) < (rows.length : Int) ∧ decide ((i : Int) < 10) = false) := by
        by_cases h1 : i < rows.length
        · exact .inr ⟨by omega, by rw [decide_eq_false_iff_not]; omega⟩
        · exact .inl (by rw [decide_eq_false_iff_not]; omega)
      clear hR3
      have Hk := Lib.hid (show 2 + i ≤ 1000 by omega)
      clear hi hiR hR2 hR1 hbnd hlen hcast hcast3 hcast10
      rcases htest with ht | ⟨ht1, ht2⟩
      all_goals
        try rw [decide_eq_false_iff_not] at ht
        try rw [decide_eq_false_iff_not] at ht2
        go_wp2_with (first
          | (go_at_call 16; refine hall.mono ?_; rintro e w6 ⟨v, rfl, v1, rfl, hS6⟩)
          | (go_at_call 18; refine (hnum _).mono ?_; rintro e w7 ⟨v, rfl, rfl, rfl⟩)
          | (go_at_call 17; refine (crash_one_c Hok.out Hk.out (by omega) hS6.pick1 l' Hl.out.cons hc2' Hi.out).mono ?_; rintro e w7 ⟨v, rfl, hS7⟩))
        refine (all_one_c Hokc.out (by omega) hS7).mono ?_
        rintro e w8 ⟨v, rfl, v2, rfl, hS8⟩
        have hcap2 := bsl_cap hS8
        have hcap1 := bsl_cap hS8.pick2
        have hb1 := begins_c lf' (f.left (num l' 1) (num l' 2)) Hf1.out Ha.out.cons.cons.cons (fun w hw => Sat.rd hw) hcap2 hS8
        go_wp2_with fail
        refine hb1.mono ?_
        rintro e w9 ⟨v, rfl, rfl, hS9⟩
        have hb2 := begins_c (f.left (num l' 1) (num l' 2)) f.now Hf2.out (fun w hw => Sat.rd hw) (fun w hw => Sat.rd hw.pick2) hcap1 hS9
        clear hb1
        go_wp2_with fail
        refine hb2.mono ?_
        rintro e w10 ⟨v, rfl, rfl, hS10⟩
        have hlv := lives_c hS10
        clear hb2
        go_wp2_with fail
        refine hlv.mono ?_
        rintro e w11 ⟨v, rfl, rfl, hS11⟩
        clear hlv
        go_wp2
        go_ret
        exact ⟨.bool true, rfl, rfl, hS11.drop.drop.drop⟩
end
end Go.Proofs.Ytdhhbajggafdhaa
