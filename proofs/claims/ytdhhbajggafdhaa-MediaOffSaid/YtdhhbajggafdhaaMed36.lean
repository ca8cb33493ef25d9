import Derived.Test.YtdhhbajggafdhaaMed35
import Derived.Test.YtdhhbajggafdhaaPow
/- The walk of MediaOff. -/
namespace Go.Proofs.Ytdhhbajggafdhaa
open Go Go.Sl Go.Med Go.MapKept Go.RowKit
set_option linter.unusedVariables false
section
variable {w0 w W : World} {F : List HProp} {m fb nb b r : Nat} {M P : Med} {bs : List Nat} {wv v bv dv dv2 av cv nv ov lv : Value} {s : ByteArray} {fs : List Fil} {K : Nat} {f : Fil}
theorem off_list (M1 M4 : Med) (h1 : Quiet M1) (h4 : Quiet M4) (h : M4.now = M1.now) : M4.list = M1.list := by rw [h1.list, h4.list, h]
set_option maxRecDepth 20000 in
set_option maxHeartbeats 8000000 in
theorem off_law_c {ds ds2 : List D} (hd : Dos w0 W F dv ds) (hd2 : Dos w0 W F dv2 ds2) (z : Int) (h : Sat w0 w F) :
    Calls Try.prog 7 #[dv, dv2, .int .i64 z] w (Rtn fun v w' => v = .bool true ∧ Sat w0 w' F) := by
  obtain ⟨N, hN, hN5⟩ := within_nat z 5
  have hwi := fun w => within_c z 0 5 w
  have hcast : ((5 : Nat) : Int) = 5 := rfl
  rw [hcast] at hN
  rw [hN] at hwi
  have hpl := played_c hd h 20 (by omega)
  have hcast2 : ((20 : Nat) : Int) = 20 := rfl
  rw [hcast2] at hpl
  have Hd2 := Lib.hid hd2
  have Hwi := Lib.hid hwi
  clear hcast hcast2 hN hd2 hwi
  go_enter Try.func7, Try.ntmps7
  go_wp2_with fail
  refine hpl.mono ?_
  rintro e w1 ⟨v, rfl, m, cs, rfl, hcs, hci, hS1⟩
  clear hpl
  have hok : ((Med.new 5000).plays cs).Ok 20 := (Med.Ok.plays (Med.Ok.new 0 5000 (by omega)) cs hci).mono (by omega)
  have hq : Quiet ((Med.new 5000).plays cs) := (Quiet.new 5000).plays cs
  generalize (Med.new 5000).plays cs = P at *
  have Hok := Lib.hid hok; have Hq := Lib.hid hq
  clear hok hq hcs hci
  go_wp2_with (go_at_call 21; refine (Hwi.out _).mono ?_; rintro e w2 ⟨v, rfl, rfl, rfl⟩)
  go_loopg [8] N (fun g iq wr => ∃ (i : Nat) (M' : Med), g = N - i ∧ i ≤ N ∧ iq = .int .i64 i ∧ M'.Ok 20 ∧ Quiet M' ∧ Sat w0 wr (MedRep m M' :: F))
  case atStart => exact ⟨0, P, rfl, Nat.zero_le _, rfl, Hok.out, Hq.out, hS1⟩
  case round =>
    obtain ⟨i, M', rfl, hi, rfl, hok, hq, hS⟩ := hrel
    have Hok' := Lib.hid hok; have Hq' := Lib.hid hq
    clear hok hq hS1
    by_cases hi' : i < N
    · have hsd := syncDir_c Hok'.out hS
      have he2 : M'.syncDir.2 = 0 := by rw [Hq'.out.syncDir_eq]
      rw [he2] at hsd
      have hic : (i : Int) < (N : Int) := by omega
      have hwi : IntKind.i64.wrap ((i : Int) + 1) = (i : Int) + 1 := IntWalk.i64_in _ (by omega)
      clear he2
      go_wp2_with fail
      refine hsd.mono ?_
      rintro e w3 ⟨v, rfl, rfl, hS3⟩
      clear hsd
      go_wp2
      go_roundg (N - (i + 1))
      case measure => omega
      case rel => exact ⟨i + 1, _, rfl, Nat.succ_le_of_lt hi', by first | rfl | go_num, Hok'.out.syncDir, Hq'.out.syncDir, hS3⟩
    · obtain rfl : i = N := by omega
      have hic : ¬ (i : Int) < (i : Int) := by omega
      have hall := allF_c Hok'.out hS
      have hll := Lib.hid (list_len Hok'.out)
      have hArm := arm_c hS i
      clear hArm hi hi'
      go_wp2_with fail
      refine hall.mono ?_
      rintro e w2 ⟨v, rfl, nv, ov, rfl, ⟨na, nc, rfl⟩, ⟨oa, oc, rfl⟩, vs, hvs, hS2⟩
      clear hall hS hic
      have hArm := arm_c (hS2.sel 4 [3, 0, 1, 2] rfl rfl) i
      have hae := Hq'.out.arm_eq i
      have hok2 := Hok'.out.arm i (by omega)
      have hnow : (M'.arm i).1.now = M'.now := by rw [hae]
      have ha1 : Armed i (M'.arm i).1 := by rw [hae]; exact ⟨rfl, Hq'.out.off, rfl⟩
      have ha2 : (M'.arm i).2 = 0 := by rw [hae]
      rw [ha2] at hArm
      generalize (M'.arm i).1 = M2 at *
      have Hok2 := Lib.hid hok2; have Hnow := Lib.hid hnow; have Ha := Lib.hid ha1; have Hvs := Lib.hid hvs
      clear hae hok2 hnow ha1 ha2 hvs
      go_wp2_with fail
      refine hArm.mono ?_
      rintro e w3 ⟨v, rfl, rfl, hS3⟩
      clear hArm hS2
      go_wp2_with fail
      go_loopg [11] i (fun g iq wr => ∃ (j : Nat) (M3 : Med), g = i - j ∧ j ≤ i ∧ iq = .int .i64 j ∧ M3.Ok 20 ∧ Armed (i - j) M3 ∧ M3.now = M'.now ∧
        Sat w0 wr (MedRep m M3 :: Alls (.slice na M'.list.length nc) (.slice oa M'.list.length oc) M' vs ++ F))
      case atStart => exact ⟨0, M2, rfl, Nat.zero_le _, rfl, Hok2.out, Ha.out, Hnow.out, hS3⟩
      case round =>
        obtain ⟨j, M3, rfl, hj, rfl, hok3, ha3, hn3, hS⟩ := hrel
        have Hok3 := Lib.hid hok3; have Ha3 := Lib.hid ha3; have Hn3 := Lib.hid hn3
        clear hok3 ha3 hn3 hS3
        have hsd := syncDir_c Hok3.out hS
        by_cases hj' : j < i
        · have ha4 : Armed (i - (j + 1) + 1) M3 := by
            rw [show i - (j + 1) + 1 = i - j by omega]; exact Ha3.out
          obtain ⟨e1, e2, e3⟩ := ha4.syncDir
          rw [e1] at hsd
          have E2 := Lib.hid e2; have E3 := Lib.hid e3
          have hic : (j : Int) < (i : Int) := by omega
          have hwi : IntKind.i64.wrap ((j : Int) + 1) = (j : Int) + 1 := IntWalk.i64_in _ (by omega)
          clear ha4 e1 e2 e3
          go_wp2_with fail
          refine hsd.mono ?_
          rintro e w4 ⟨v, rfl, rfl, hS4⟩
          clear hsd
          go_wp2
          go_roundg (i - (j + 1))
          case measure => omega
          case rel => exact ⟨j + 1, _, rfl, Nat.succ_le_of_lt hj', by first | rfl | go_num, Hok3.out.syncDir, E2.out, E3.out.trans Hn3.out, hS4⟩
        · obtain rfl : j = i := by omega
          have hic : ¬ (j : Int) < (j : Int) := by omega
          have ha4 : Armed 0 M3 := by
            have := Ha3.out
            rw [Nat.sub_self] at this; exact this
          obtain ⟨e1, e2, e3⟩ := ha4.last
          rw [e1] at hsd
          have hok4 := Hok3.out.syncDir
          have e4 := e3.trans Hn3.out
          generalize M3.syncDir.1 = M4 at *
          have E2 := Lib.hid e2; have E4 := Lib.hid e4; have Hok4 := Lib.hid hok4
          clear ha4 e1 e2 e3 e4 hok4 hj hj'
          go_wp2_with fail
          refine hsd.mono ?_
          rintro e w4 ⟨v, rfl, rfl, hS4⟩
          clear hsd hS
          have hpw := power_c hS4
          rw [E2.out] at hpw
          go_wp2_with fail
          refine hpw.mono ?_
          rintro e w5 ⟨v, rfl, rfl, rfl⟩
          clear hpw
          have hfw := few_r (L := MedRep m M4 :: Alls (.slice na M'.list.length nc) (.slice oa M'.list.length oc) M' vs) Hd2.out hS4 20 (by omega)
          have hcast : ((20 : Nat) : Int) = 20 := rfl
          rw [hcast] at hfw
          clear hcast
          go_wp2_with fail
          refine hfw.mono ?_
          rintro e w5 ⟨v, rfl, es, hF, ⟨a, c, rfl⟩, hS5⟩
          clear hfw hS4
          have hF2 := hF.len
          have HF := Lib.hid hF
          have Hlen := Lib.hid (show es.length ≤ 20 by omega)
          clear hF hF2
          go_wp2_with fail
          go_loopg [12] es.length (fun g iq wr => ∃ (k : Nat), g = es.length - k ∧ k ≤ es.length ∧ iq = .int .i64 k ∧
            Sat w0 wr (MedRep m M4 :: osl 44 7 (.slice a es.length c) (es.flatMap dCells) :: bsls es :: (Alls (.slice na M'.list.length nc) (.slice oa M'.list.length oc) M' vs ++ F)))
          case atStart => exact ⟨0, rfl, Nat.zero_le _, rfl, hS5.sel 3 [2, 0, 1] rfl rfl⟩
          case round =>
            obtain ⟨k, rfl, hk, rfl, hS6⟩ := hrel
            clear hS5
            by_cases hk' : k < es.length
            · obtain ⟨e, he⟩ : ∃ e, es[k]? = some e := ⟨es[k], List.getElem?_eq_getElem _⟩
              obtain ⟨g, rfl, c0, c1, c2, c3, c4, c5, c6⟩ := dos_at hS6.pick1 he
              have hfit := HF.out.fit e (List.mem_of_getElem? he)
              have hic : (k : Int) < (es.length : Int) := by omega
              have hwi : IntKind.i64.wrap ((k : Int) + 1) = (k : Int) + 1 := IntWalk.i64_in _ (by have h1 := Hlen.out; omega)
              by_cases h8 : e.kind = 8
              · rw [h8] at c0
                clear he hfit
                go_wp2
                go_roundg (es.length - (k + 1))
                case measure => omega
                case rel => exact ⟨k + 1, rfl, Nat.succ_le_of_lt hk', by first | rfl | go_num, hS6⟩
              by_cases h10 : e.kind = 10
              · rw [h10] at c0
                clear he hfit h8
                go_wp2
                go_roundg (es.length - (k + 1))
                case measure => omega
                case rel => exact ⟨k + 1, rfl, Nat.succ_le_of_lt hk', by first | rfl | go_num, hS6⟩
              have hdd := dead_does E2.out e.cal h8 h10
              have hfit' := hfit.more (L := osl 44 7 (.slice (some ⟨g, 0, none⟩) es.length c) (es.flatMap dCells) :: bsls es :: Alls (.slice na M'.list.length nc) (.slice oa M'.list.length oc) M' vs)
              have hdo := does_c (m := m) Hok4.out (by omega) hS6 e hfit' (bsls_rd he).cons
              rw [hdd] at hdo
              have h8b : (e.kind == 8) = false := by simpa using h8
              have h10b : (e.kind == 10) = false := by simpa using h10
              clear he hfit hfit' hdd
              obtain ⟨kind, name, to, dn, dm, dbv, db, dlv, dl⟩ := e
              simp only at c0 c1 c2 c3 c4 c5 c6 h8b h10b
              go_wp2_with fail
              refine hdo.mono ?_
              rintro e w6 ⟨v, rfl, ov2, rfl, _, hS7⟩
              obtain ⟨oa2, on2, oc2, rfl, _, _, hon⟩ := bsl_cap' hS7
              have hon' : on2 = 0 := by simpa using hon
              subst hon'
              dsimp only
              clear hdo c0 c1 c2 c3 c4 c5 c6 hon
              have hls := list_c Hok4.out hS7.drop
              rw [dead_list E2.out] at hls
              go_wp2_with fail
              refine hls.mono ?_
              rintro e w7 ⟨v, rfl, hS8, la, ln, lc, rfl⟩
              clear hls
              have hln : ln = 0 := by
                obtain ⟨_, _, _, he, hl, _⟩ := hS8.rd
                cases he
                rw [strs_len, Nat.mul_one] at hl; exact hl.symm
              subst hln
              have hus := used_rep Hok4.out hS8.drop
              rw [dead_used E2.out] at hus
              go_wp2_with fail
              refine hus.mono ?_
              rintro e w8 ⟨v, rfl, rfl, hS9⟩
              clear hus
              go_wp2
              go_roundg (es.length - (k + 1))
              case measure => omega
              case rel => exact ⟨k + 1, rfl, Nat.succ_le_of_lt hk', by first | rfl | go_num, hS9⟩
            · obtain rfl : k = es.length := by omega
              have hic : ¬ (es.length : Int) < (es.length : Int) := by omega
              have hS7 := hS6.sel 3 [0] rfl rfl
              have hA := hS7.alloc (.cells #[.int .i64 4611686018427387904] 3)
              have hro : Ro w0 (pt wr.heap.size (.cells #[.int .i64 4611686018427387904] 3 (0,0)) :: (Alls (.slice na M'.list.length nc) (.slice oa M'.list.length oc) M' vs ++ F)) (rdsl 1 (.slice (some ⟨wr.heap.size, 0, none⟩) 1 1) (ints [4611686018427387904])) := fun w' hw' => by
                have c := hw'.cellAt 0 _ rfl
                refine ⟨_, 1, 1, rfl, rfl, fun i x hi => ?_⟩
                cases i with
                | zero => cases hi; exact ⟨_, rfl, c⟩
                | succ i => cases hi
              have hcr := crash_c Hok4.out (by omega) hA.pick1 [4611686018427387904] hro ⟨_, _, _, rfl, Nat.le_refl _, by omega⟩ (by intro x hx; rw [List.mem_singleton.1 hx]; unfold inI; omega)
              have hok5 := Hok4.out.crash [4611686018427387904]
              have hq5 := Quiet.crash M4 [4611686018427387904]
              have hnow5 := (crash_all Hok4.out [4611686018427387904] (by have := Hok4.out.budget; show (M4.waits.length : Int) ≤ 4611686018427387904; omega)).trans E4.out
              have hl5 := off_list M' _ Hq'.out hq5 hnow5
              generalize M4.crash [4611686018427387904] = M5 at *
              have Hok5 := Lib.hid hok5; have Hq5 := Lib.hid hq5; have Hl5 := Lib.hid hl5
              clear hk hk' hS6 hok5 hq5 hnow5 hl5 hro
              go_wp2_with fail
              refine hcr.mono ?_
              rintro e w6 ⟨v, rfl, hS8⟩
              clear hcr hS7 hA
              have hS9 := hS8.sel 2 [0] rfl rfl
              have hal := allF_c Hok5.out hS9
              rw [Hl5.out] at hal
              go_wp2_with fail
              refine hal.mono ?_
              rintro e w7 ⟨v, rfl, nv2, ov2, rfl, ⟨na2, nc2, rfl⟩, ⟨oa2, oc2, rfl⟩, vs2, hvs2, hS10⟩
              clear hal hS8 hS9 hvs2
              have hS11 : Sat w0 w7 (MedRep m M5 :: osl 9 1 (.slice na2 M'.list.length nc2) (strs M'.list) :: osl 9 1 (.slice na M'.list.length nc) (strs M'.list) :: F) := by
                have h1 := hS10.sel 7 [3, 0, 4] rfl rfl
                unfold Alls at h1
                rw [Hl5.out] at h1
                exact h1
              clear hS10
              go_wp2_with fail
              go_loopg [18] M'.list.length (fun g iq wr => ∃ (k : Nat) (M6 : Med), g = M'.list.length - k ∧ k ≤ M'.list.length ∧ iq = .int .i64 k ∧ M6.Ok (20 + k) ∧ Quiet M6 ∧
                Sat w0 wr (MedRep m M6 :: osl 9 1 (.slice na2 M'.list.length nc2) (strs M'.list) :: osl 9 1 (.slice na M'.list.length nc) (strs M'.list) :: F))
              case atStart => exact ⟨0, M5, rfl, Nat.zero_le _, rfl, Hok5.out, Hq5.out, hS11⟩
              case round =>
                obtain ⟨k, M6, rfl, hk, rfl, hok6, hq6, hS12⟩ := hrel
                have Hok6 := Lib.hid hok6; have Hq6 := Lib.hid hq6
                clear hok6 hq6 hS11
                by_cases hk' : k < M'.list.length
                · have hx : M'.list[k]? = some (M'.list[k]'hk') := List.getElem?_eq_getElem _
                  obtain ⟨bk, off, rfl, c1⟩ := rdsl_cell (Sat.rd (hS12.sel 3 [2] rfl rfl)) (strs_at hx)
                  have hap := append_c Hok6.out (by have := hll.out; omega) hS12 (M'.list[k]'hk') [] (bv := .slice none 0 0) (fun w hw => rdsl_nil 1 0 w)
                  have hok7 := Hok6.out.append (M'.list[k]'hk') []
                  have hq7 := Hq6.out.append (M'.list[k]'hk') []
                  have hic : (k : Int) < (M'.list.length : Int) := by omega
                  have hwi : IntKind.i64.wrap ((k : Int) + 1) = (k : Int) + 1 := IntWalk.i64_in _ (by have := hll.out; omega)
                  have Hok7 := Lib.hid hok7; have Hq7 := Lib.hid hq7
                  clear hx hok7 hq7
                  generalize M'.list[k]'hk' = X at *
                  go_wp2_with fail
                  refine hap.mono ?_
                  rintro e w8 ⟨v, rfl, rfl, hS13⟩
                  clear hap
                  go_wp2
                  go_roundg (M'.list.length - (k + 1))
                  case measure => omega
                  case rel => exact ⟨k + 1, _, rfl, Nat.succ_le_of_lt hk', by first | rfl | go_num, Hok7.out, Hq7.out, hS13⟩
                · obtain rfl : k = M'.list.length := by omega
                  have hic : ¬ (M'.list.length : Int) < (M'.list.length : Int) := by omega
                  have hsm := strSame_c M'.list M'.list (by exact fun w hw => Sat.rd (hw.sel 2 [1] rfl rfl)) (by exact fun w hw => Sat.rd (hw.sel 3 [2] rfl rfl)) hS12 (by have := hll.out; omega)
                  rw [decide_eq_true rfl] at hsm
                  clear hk hk'
                  go_wp2_with fail
                  refine hsm.mono ?_
                  rintro e w8 ⟨v, rfl, rfl, hS13⟩
                  clear hsm
                  have hpw := power_c hS13
                  rw [Hq6.out.off] at hpw
                  have hlv := lives_c hS13
                  go_wp2_with fail
                  refine hpw.mono ?_
                  rintro e w9 ⟨v, rfl, rfl, rfl⟩
                  clear hpw
                  go_wp2_with fail
                  refine hlv.mono ?_
                  rintro e w10 ⟨v, rfl, rfl, hS14⟩
                  clear hlv
                  go_wp2
                  go_ret
                  exact ⟨.bool true, rfl, rfl, hS14.sel 3 [] rfl rfl⟩
end
end Go.Proofs.Ytdhhbajggafdhaa
