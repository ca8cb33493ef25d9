import Derived.Test.YtdhhbajggafdhaaMed32
import Derived.Test.YtdhhbajggafdhaaMed21
/- The walk of MediaFast. -/
namespace Go.Proofs.Ytdhhbajggafdhaa
open Go Go.Sl Go.Med Go.MapKept Go.RowKit
set_option linter.unusedVariables false
section
variable {w0 w W : World} {F : List HProp} {m fb nb b r : Nat} {M P : Med} {bs : List Nat} {wv v bv dv av cv nv ov nv2 ov2 lv lv2 : Value} {s : ByteArray} {fs : List Fil} {K : Nat} {f : Fil}
theorem list_at {i : Nat} {s : ByteArray} (hM : P.Ok K) (hq : Quiet P) (h : P.list[i]? = some s) : ∃ k, nget P.now s = some k ∧ k < P.files.length ∧ (P.now.take (i + 1)).map (·.2) = (P.now.take i).map (·.2) ++ [k] := by
  rw [hq.list, List.getElem?_map] at h
  cases hp : P.now[i]? with
  | none => rw [hp] at h; cases h
  | some p =>
    rw [hp] at h
    cases h
    obtain ⟨h1, h2⟩ := List.getElem?_eq_some_iff.1 hp
    have hm : (p.1, p.2) ∈ P.now := List.mem_of_getElem? hp
    refine ⟨p.2, nget_of_mem hM.nowOk.srt.keys hm, hM.nowOk.ids _ hm, ?_⟩
    rw [List.take_succ_eq_append_getElem h1, List.map_append, h2]; rfl
theorem all_len (hM : P.Ok K) (s : ByteArray) : (P.all s).1.length ≤ 16777216 := by
  unfold Med.all
  split
  · simp
  · split
    · simp
    · exact (hM.file _).now_len
theorem bytesOf_len (hM : P.Ok K) : ∀ b ∈ bytesOf P, b.length ≤ 16777216 := by
  intro b hb
  obtain ⟨s, _, rfl⟩ := List.mem_map.1 hb
  exact all_len hM s
theorem bsz_rd {vs : List Value} {rows : List Bs} {i : Nat} {v : Value} {b : Bs} (h1 : vs[i]? = some v) (h2 : rows[i]? = some b) : Ro w0 (bsz vs rows :: F) (rdsl 1 v (bys b)) := fun w hw => by
  obtain ⟨G, hG⟩ := bsz_at vs rows i v b h1 h2
  rw [hG] at hw
  exact (Sat.star.1 hw).rd
/-- Two tellings of one list of names and bytes. -/
theorem same_alls_c {l : List ByteArray} {rows : List Bs} (hlen : rows.length ≤ 500) (hll : l.length ≤ 500) (hbl : ∀ b ∈ rows, b.length ≤ 16777216) {va vb : List Value} (hva : va.length = rows.length) (hvb : vb.length = rows.length)
    (h1 : Ro w0 F (rdsl 1 nv (strs l))) (h2 : Ro w0 F (rdsl 1 ov va)) (h3 : ∀ (i : Nat) (v : Value) (b : Bs), va[i]? = some v → rows[i]? = some b → Ro w0 F (rdsl 1 v (bys b)))
    (h4 : Ro w0 F (rdsl 1 nv2 (strs l))) (h5 : Ro w0 F (rdsl 1 ov2 vb)) (h6 : ∀ (i : Nat) (v : Value) (b : Bs), vb[i]? = some v → rows[i]? = some b → Ro w0 F (rdsl 1 v (bys b))) (h : Sat w0 w F) :
    Calls Try.prog 29 #[nv, ov, nv2, ov2] w (Rtn fun v w' => v = .bool true ∧ Sat w0 w' F) :=
  same_rep_c l rows hlen hll va vb hva hvb h1 h4 h2 h5 h3 h6 hbl h
set_option maxHeartbeats 4000000 in
theorem fast_c {ds : List D} (hd : Dos w0 W F dv ds) (l1 l2 : List Int) (hl1 : Ro w0 F (rdsl 1 lv (ints l1))) (hc1 : capOk lv) (hi1 : ∀ x ∈ l1, inI x) (hl2 : Ro w0 F (rdsl 1 lv2 (ints l2))) (hc2 : capOk lv2) (hi2 : ∀ x ∈ l2, inI x) (h : Sat w0 w F) :
    Calls Try.prog 6 #[dv, lv, lv2] w (Rtn fun v w' => v = .bool true ∧ Sat w0 w' F) := by
  have hpl := played_c hd h 40 (by omega)
  have hcast : ((40 : Nat) : Int) = 40 := rfl
  rw [hcast] at hpl
  clear hcast
  obtain ⟨a1, n1, c1, rfl, hn1, hcc1⟩ := hc1
  obtain ⟨a2, n2, c2, rfl, hn2, hcc2⟩ := hc2
  have hnu1 := numbers_c a1 n1 c1 60 hn1 hcc1
  have hnu2 := numbers_c a2 n2 c2 60 hn2 hcc2
  have hcast : ((60 : Nat) : Int) = 60 := rfl
  rw [hcast] at hnu1 hnu2
  clear hcast
  have hl1' : Ro w0 F (rdsl 1 (.slice a1 (min n1 60) c1) (ints (l1.take 60))) := by unfold ints; rw [List.map_take]; exact ro_min hl1
  have hl2' : Ro w0 F (rdsl 1 (.slice a2 (min n2 60) c2) (ints (l2.take 60))) := by unfold ints; rw [List.map_take]; exact ro_min hl2
  have hk1 : capOk (.slice a1 (min n1 60) c1) := ⟨_, _, _, rfl, by omega, hcc1⟩
  have hk2 : capOk (.slice a2 (min n2 60) c2) := ⟨_, _, _, rfl, by omega, hcc2⟩
  have hi1' : ∀ x ∈ l1.take 60, inI x := fun x hx => hi1 x (List.mem_of_mem_take hx)
  have hi2' : ∀ x ∈ l2.take 60, inI x := fun x hx => hi2 x (List.mem_of_mem_take hx)
  generalize l1.take 60 = q1 at *
  generalize l2.take 60 = q2 at *
  generalize min n1 60 = n1' at *
  generalize min n2 60 = n2' at *
  have HL1 := Lib.hid hl1'; have HL2 := Lib.hid hl2'; have HI1 := Lib.hid hi1'; have HI2 := Lib.hid hi2'; have HK1 := Lib.hid hk1; have HK2 := Lib.hid hk2
  have Hnu1 := Lib.hid hnu1; have Hnu2 := Lib.hid hnu2
  clear hl1 hl2 hl1' hl2' hi1 hi2 hi1' hi2' hk1 hk2 hnu1 hnu2
  go_enter Try.func6, Try.ntmps6
  go_wp2_with fail
  refine hpl.mono ?_
  rintro e w1 ⟨v, rfl, m, cs, rfl, hcs, hci, hS1⟩
  clear hpl
  have hok : ((Med.new 5000).plays cs).Ok 40 := (Med.Ok.plays (Med.Ok.new 0 5000 (by omega)) cs hci).mono (by omega)
  have hq : Quiet ((Med.new 5000).plays cs) := (Quiet.new 5000).plays cs
  generalize (Med.new 5000).plays cs = P at *
  have Hok := Lib.hid hok; have Hq := Lib.hid hq
  have hall := allF_c hok hS1
  have hll := list_len hok
  clear hok hq hcs hci
  go_wp2_with fail
  refine hall.mono ?_
  rintro e w2 ⟨v, rfl, nv, ov, rfl, ⟨na, nc, rfl⟩, ⟨oa, oc, rfl⟩, vs, hvs, hS2⟩
  clear hall
  have Hvs := Lib.hid hvs
  clear hvs
  go_wp2_with fail
  go_loopg [10] P.list.length (fun g iq wr => ∃ (i : Nat) (M' : Med), g = P.list.length - i ∧ i ≤ P.list.length ∧ iq = .int .i64 i ∧ Synced P M' ∧ M'.Ok (40 + i) ∧ (∀ j ∈ (P.now.take i).map (·.2), FFlat (M'.file j)) ∧
    Sat w0 wr (MedRep m M' :: Alls (.slice na P.list.length nc) (.slice oa P.list.length oc) P vs ++ F))
  case atStart => exact ⟨0, P, rfl, Nat.zero_le _, rfl, .start Hq.out, Hok.out, by simp, hS2.sel 4 [3, 0, 1, 2] rfl rfl⟩
  case round =>
    obtain ⟨i, M', rfl, hi, rfl, hsy, hok', hfl, hS⟩ := hrel
    have Hsy := Lib.hid hsy; have Hok' := Lib.hid hok'; have Hfl := Lib.hid hfl
    clear hsy hok' hfl
    by_cases hi' : i < P.list.length
    · have hx : P.list[i]? = some (P.list[i]'hi') := List.getElem?_eq_getElem _
      obtain ⟨k, hk1, hk2, hk3⟩ := list_at Hok.out Hq.out hx
      obtain ⟨bk, off, rfl, c1⟩ := rdsl_cell (Sat.rd (hS.sel 2 [1] rfl rfl)) (strs_at hx)
      obtain ⟨e1, e2, e3⟩ := Hsy.out.next hk1 hk2 _ Hfl.out
      have hsc := sync_c Hok'.out hS (P.list[i]'hi')
      rw [e1] at hsc
      have hok2 := Hok'.out.sync (P.list[i]'hi')
      rw [← hk3] at e3
      have E2 := Lib.hid e2; have E3 := Lib.hid e3; have Hok2 := Lib.hid hok2
      have hic : (i : Int) < (P.list.length : Int) := by omega
      have hwi : IntKind.i64.wrap ((i : Int) + 1) = (i : Int) + 1 := IntWalk.i64_in _ (by omega)
      clear hx e1 e2 e3 hk1 hk2 hk3 hok2
      generalize P.list[i]'hi' = X at *
      go_wp2_with fail
      refine hsc.mono ?_
      rintro e w3 ⟨v, rfl, rfl, hS3⟩
      clear hsc
      go_wp2
      go_roundg (P.list.length - (i + 1))
      case measure => omega
      case rel => exact ⟨i + 1, _, rfl, Nat.succ_le_of_lt hi', by first | rfl | go_num, E2.out, Hok2.out, E3.out, hS3⟩
    · obtain rfl : i = P.list.length := by omega
      have hic : ¬ (P.list.length : Int) < (P.list.length : Int) := by omega
      have hall' : ∀ j ∈ P.now.map (·.2), FFlat (M'.file j) := by
        have h1 := Hfl.out
        have h2 : P.now.take P.list.length = P.now := List.take_of_length_le (by rw [Hq.out.list, List.length_map]; exact Nat.le_refl _)
        rw [h2] at h1; exact h1
      obtain ⟨e1, e2, e3, e4⟩ := Hsy.out.flat Hq.out hall'
      have hsd := syncDir_c Hok'.out hS
      rw [e1] at hsd
      have hok2 := Hok'.out.syncDir
      have hbo : bytesOf M'.syncDir.1 = bytesOf P := by
        unfold bytesOf
        rw [e3]
        exact List.map_congr_left fun s _ => by rw [e4]
      generalize M'.syncDir.1 = Q at *
      have E2 := Lib.hid e2; have E3 := Lib.hid e3; have Hok2 := Lib.hid hok2; have Hbo := Lib.hid hbo
      have hK2 : 40 + P.list.length ≤ 1099511627776 := by omega
      have HK := Lib.hid hK2
      clear e1 e2 e3 e4 hok2 hall' hi hi' hbo hS1 hS2 hK2
      go_wp2_with fail
      refine hsd.mono ?_
      rintro e w3 ⟨v, rfl, rfl, hS3⟩
      clear hsd hS
      go_wp2_with (go_at_call 18; refine (Hnu1.out _).mono ?_; rintro e w4 ⟨v, rfl, rfl, rfl⟩)
      have hcr := crash_c Hok2.out HK.out hS3 q1 (Ro.more (L := [_, _, _]) HL1.out) HK1.out HI1.out
      rw [E2.out.crash Hok2.out] at hcr
      refine hcr.mono ?_
      rintro e w4 ⟨v, rfl, hS4⟩
      clear hcr
      have hal := allF_c Hok2.out hS4
      rw [E3.out] at hal
      go_wp2_with fail
      refine hal.mono ?_
      rintro e w5 ⟨v, rfl, nv2, ov2, rfl, ⟨na2, nc2, rfl⟩, ⟨oa2, oc2, rfl⟩, vs2, hvs2, hS5⟩
      clear hal
      go_wp2_with (go_at_call 18; refine (Hnu2.out _).mono ?_; rintro e w4 ⟨v, rfl, rfl, rfl⟩)
      have hS5' := hS5.sel 4 [3, 0, 1, 2] rfl rfl
      have hcr := crash_c Hok2.out HK.out hS5' q2 (Ro.more (L := [_, _, _, _, _, _]) HL2.out) HK2.out HI2.out
      rw [E2.out.crash Hok2.out] at hcr
      refine hcr.mono ?_
      rintro e w6 ⟨v, rfl, hS6⟩
      clear hcr hS5'
      have hal := allF_c Hok2.out hS6
      rw [E3.out] at hal
      go_wp2_with fail
      refine hal.mono ?_
      rintro e w7 ⟨v, rfl, nv3, ov3, rfl, ⟨na3, nc3, rfl⟩, ⟨oa3, oc3, rfl⟩, vs3, hvs3, hS7⟩
      clear hal
      have hS8 : Sat w0 w7 (osl 9 1 (.slice na3 P.list.length nc3) (strs P.list) :: osl 22 1 (.slice oa3 P.list.length oc3) vs3 :: bsz vs3 (bytesOf P) :: MedRep m Q ::
          osl 9 1 (.slice na2 P.list.length nc2) (strs P.list) :: osl 22 1 (.slice oa2 P.list.length oc2) vs2 :: bsz vs2 (bytesOf P) ::
          osl 9 1 (.slice na P.list.length nc) (strs P.list) :: osl 22 1 (.slice oa P.list.length oc) vs :: bsz vs (bytesOf P) :: F) := by
        have h9 := hS7
        unfold Alls at h9
        rw [E3.out, Hbo.out] at h9
        exact h9
      clear hS7 hS6 hS5 hS4 hS3
      have hrl : (bytesOf P).length = P.list.length := by unfold bytesOf; simp
      have hbl := bytesOf_len Hok.out
      have hvs1 : vs.length = (bytesOf P).length := by rw [hrl]; exact Hvs.out
      have hvs2' : vs2.length = (bytesOf P).length := by rw [hrl]; exact hvs2
      have hvs3' : vs3.length = (bytesOf P).length := by rw [hrl]; exact hvs3
      have g1 := same_alls_c (l := P.list) (rows := bytesOf P) (by omega) hll hbl hvs1 hvs2' (by exact fun w hw => Sat.rd (hw.sel 8 [7] rfl rfl)) (by exact fun w hw => Sat.rd (hw.sel 9 [8] rfl rfl)) (by exact fun i v b h1 h2 w hw => bsz_rd h1 h2 w (hw.sel 10 [9] rfl rfl)) (by exact fun w hw => Sat.rd (hw.sel 5 [4] rfl rfl)) (by exact fun w hw => Sat.rd (hw.sel 6 [5] rfl rfl)) (by exact fun i v b h1 h2 w hw => bsz_rd h1 h2 w (hw.sel 7 [6] rfl rfl)) hS8
      have Hrl := Lib.hid (show (bytesOf P).length ≤ 500 by omega); have Hll := Lib.hid hll; have Hbl := Lib.hid hbl; have Hvs1 := Lib.hid hvs1; have Hvs3 := Lib.hid hvs3'
      clear hvs1 hvs2' hvs3' hbl hrl hvs2 hvs3 hll
      go_wp2_with fail
      refine g1.mono ?_
      rintro e w8 ⟨v, rfl, rfl, hS9⟩
      clear g1
      have g2 := same_alls_c (l := P.list) (rows := bytesOf P) Hrl.out Hll.out Hbl.out Hvs1.out Hvs3.out (by exact fun w hw => Sat.rd (hw.sel 8 [7] rfl rfl)) (by exact fun w hw => Sat.rd (hw.sel 9 [8] rfl rfl)) (by exact fun i v b h1 h2 w hw => bsz_rd h1 h2 w (hw.sel 10 [9] rfl rfl)) (by exact fun w hw => Sat.rd (hw.sel 1 [0] rfl rfl)) (by exact fun w hw => Sat.rd (hw.sel 2 [1] rfl rfl)) (by exact fun i v b h1 h2 w hw => bsz_rd h1 h2 w (hw.sel 3 [2] rfl rfl)) hS9
      go_wp2_with fail
      refine g2.mono ?_
      rintro e w9 ⟨v, rfl, rfl, hS10⟩
      clear g2
      have hlv := lives_c hS10
      go_wp2_with fail
      refine hlv.mono ?_
      rintro e w10 ⟨v, rfl, rfl, hS11⟩
      clear hlv
      go_wp2
      go_ret
      exact ⟨.bool true, rfl, rfl, hS11.sel 10 [] rfl rfl⟩
end
end Go.Proofs.Ytdhhbajggafdhaa
