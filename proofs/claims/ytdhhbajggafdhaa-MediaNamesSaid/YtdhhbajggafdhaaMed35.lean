import Derived.Test.YtdhhbajggafdhaaMed34
/- The walk of MediaNames. -/
namespace Go.Proofs.Ytdhhbajggafdhaa
open Go Go.Sl Go.Med Go.MapKept Go.RowKit
set_option linter.unusedVariables false
section
variable {w0 w W : World} {F : List HProp} {m fb nb b r : Nat} {M P : Med} {bs : List Nat} {wv v bv dv dv2 av cv nv ov lv : Value} {s : ByteArray} {fs : List Fil} {K : Nat} {f : Fil}
def ssl (v : Value) (l : List ByteArray) : HProp := osl 9 1 v (strs l)
/-- Slices of texts, each its own. -/
def strz (vs : List Value) (ls : List (List ByteArray)) : HProp := stars (List.zipWith ssl vs ls)
theorem strz_snoc : ∀ (vs : List Value) (bs : List (List ByteArray)) (v : Value) (b : List ByteArray), vs.length = bs.length → strz (vs ++ [v]) (bs ++ [b]) = star (ssl v b) (strz vs bs)
  | [], [], _, _, _ => rfl
  | [], _ :: _, _, _, h => by simp at h
  | _ :: _, [], _, _, h => by simp at h
  | c :: vs, g :: bs, v, b, h => by
    show star (ssl c g) (strz (vs ++ [v]) (bs ++ [b])) = _
    rw [strz_snoc vs bs v b (by simpa using h), star_left_comm]; rfl
theorem strz_at : ∀ (vs : List Value) (bs : List (List ByteArray)) (i : Nat) (v : Value) (b : List ByteArray), vs[i]? = some v → bs[i]? = some b → ∃ G, strz vs bs = star (ssl v b) G
  | [], _, _, _, _, h, _ => by cases h
  | _ :: _, [], _, _, _, _, h => by cases h
  | c :: vs, g :: bs, 0, v, b, h, k => by
    cases h; cases k
    exact ⟨_, rfl⟩
  | c :: vs, g :: bs, i + 1, v, b, h, k => by
    obtain ⟨G, hG⟩ := strz_at vs bs i v b (by simpa using h) (by simpa using k)
    refine ⟨star (ssl c g) G, ?_⟩
    show star (ssl c g) (strz vs bs) = _
    rw [hG, star_left_comm]
theorem strz_rd {vs : List Value} {rows : List (List ByteArray)} {i : Nat} {v : Value} {b : List ByteArray} (h1 : vs[i]? = some v) (h2 : rows[i]? = some b) : Ro w0 (strz vs rows :: F) (rdsl 1 v (strs b)) := fun w hw => by
  obtain ⟨G, hG⟩ := strz_at vs rows i v b h1 h2
  rw [hG] at hw
  exact (Sat.star.1 hw).rd
theorem infoStrs : (Try.prog.info? 50).map (fun i => (i.zero, i.size, i.bytes)) = some (some (.slice none 0 0), 1, 24) := by kernel_rfl
/-- The loop over what may be. -/
def momsCon (m : Nat) (M : Med) (mv : Value) (vs : List Value) (moms : List (List ByteArray)) (F : List HProp) : List HProp := MedRep m M :: osl 50 1 mv vs :: strz vs moms :: F
set_option maxHeartbeats 4000000 in
theorem names_law_c {ds ds2 : List D} (hd : Dos w0 W F dv ds) (hd2 : Dos w0 W F dv2 ds2) (l1 : List Int) (hl1 : Ro w0 F (rdsl 1 lv (ints l1))) (hc1 : capOk lv) (hi1 : ∀ x ∈ l1, inI x) (h : Sat w0 w F) :
    Calls Try.prog 5 #[dv, dv2, lv] w (Rtn fun v w' => v = .bool true ∧ Sat w0 w' F) := by
  have hpl := played_c hd h 30 (by omega)
  have hcast : ((30 : Nat) : Int) = 30 := rfl
  rw [hcast] at hpl
  clear hcast
  obtain ⟨a1, n1, c1, rfl, hn1, hcc1⟩ := hc1
  have hnu1 := numbers_c a1 n1 c1 60 hn1 hcc1
  have hcast : ((60 : Nat) : Int) = 60 := rfl
  rw [hcast] at hnu1
  clear hcast
  have hl1' : Ro w0 F (rdsl 1 (.slice a1 (min n1 60) c1) (ints (l1.take 60))) := by unfold ints; rw [List.map_take]; exact ro_min hl1
  have hk1 : capOk (.slice a1 (min n1 60) c1) := ⟨_, _, _, rfl, by omega, hcc1⟩
  have hi1' : ∀ x ∈ l1.take 60, inI x := fun x hx => hi1 x (List.mem_of_mem_take hx)
  generalize l1.take 60 = q1 at *
  generalize min n1 60 = n1' at *
  have HL1 := Lib.hid hl1'; have HI1 := Lib.hid hi1'; have HK1 := Lib.hid hk1
  have Hnu1 := Lib.hid hnu1; have Hd2 := Lib.hid hd2
  clear hl1 hl1' hi1 hi1' hk1 hnu1 hd2
  go_enter Try.func5, Try.ntmps5
  go_wp2_with fail
  refine hpl.mono ?_
  rintro e w1 ⟨v, rfl, m, cs, rfl, hcs, hci, hS1⟩
  clear hpl
  have hok : ((Med.new 5000).plays cs).Ok 30 := (Med.Ok.plays (Med.Ok.new 0 5000 (by omega)) cs hci).mono (by omega)
  have hq : Quiet ((Med.new 5000).plays cs) := (Quiet.new 5000).plays cs
  generalize (Med.new 5000).plays cs = P0 at *
  have hsd := syncDir_c hok hS1
  have hok' := hok.syncDir
  have hq' := hq.syncDir
  have he := hq.syncDir_eq
  have hw : P0.syncDir.1.waits = [] := by rw [he]
  have he2 : P0.syncDir.2 = 0 := by rw [he]
  rw [he2] at hsd
  generalize P0.syncDir.1 = P at *
  have hmom := Moms.start hok' hw hq'
  have Hok := Lib.hid hok'; have Hq := Lib.hid hq'; have Hmom := Lib.hid hmom
  clear hok hq he hw he2 hok' hq' hmom hcs hci
  go_wp2_with fail
  refine hsd.mono ?_
  rintro e w2 ⟨v, rfl, rfl, hS2⟩
  clear hsd
  have hls := list_c Hok.out hS2
  go_wp2_with fail
  refine hls.mono ?_
  rintro e w3 ⟨v, rfl, hS3, la, ln, lc, rfl⟩
  clear hls
  have hA := hS3.alloc (.cells #[.slice la ln lc] 50)
  have hA2 : Sat w0 (w3.alloc (.cells #[.slice la ln lc] 50)) (osl 50 1 (.slice (some ⟨w3.heap.size, 0, none⟩) 1 1) [.slice la ln lc] :: osl 9 1 (.slice la ln lc) (strs P.list) :: MedRep m P :: F) := Sat.osl_of_pt (by simpa using hA) (by simp) (Nat.le_refl _) (by simp) (by unfold maxLen; omega) rfl
  have hS4 : Sat w0 (w3.alloc (.cells #[.slice la ln lc] 50)) (momsCon m P (.slice (some ⟨w3.heap.size, 0, none⟩) 1 1) [.slice la ln lc] [P.list] F) := by
    have h1 := hA2.sel 3 [2, 0, 1] rfl rfl
    unfold momsCon strz
    simp only [List.zipWith_cons_cons, List.zipWith_nil_right]
    rw [stars_one]
    exact h1
  have hfw := few_r (L := [MedRep m P, osl 50 1 (.slice (some ⟨w3.heap.size, 0, none⟩) 1 1) [.slice la ln lc], strz [.slice la ln lc] [P.list]]) Hd2.out hS4 20 (by omega)
  have hcast : ((20 : Nat) : Int) = 20 := rfl
  rw [hcast] at hfw
  clear hcast hA hA2
  go_wp2_with fail
  refine hfw.mono ?_
  rintro e w4 ⟨v, rfl, es, hF, ⟨a, c, rfl⟩, hS5⟩
  clear hfw
  generalize w3.heap.size = q3 at *
  have hF2 := hF.len
  have HF := Lib.hid hF
  have hlen : es.length ≤ 20 := by omega
  have Hlen := Lib.hid hlen
  clear hF hF2 hlen hS1 hS2 hS3 hS4
  go_wp2_with fail
  go_loopg [8, 9] es.length (fun g mv iq wr => ∃ (i : Nat) (M' : Med) (moms : List (List ByteArray)) (vs : List Value) (ma : Option Addr) (mc : Nat), g = es.length - i ∧ i ≤ es.length ∧ iq = .int .i64 i ∧ mv = .slice ma moms.length mc ∧ vs.length = moms.length ∧ moms.length ≤ i + 1 ∧ M'.Ok (30 + i) ∧ Quiet M' ∧ Moms M' moms ∧
    Sat w0 wr (momsCon m M' (.slice ma moms.length mc) vs moms (osl 44 7 (.slice a es.length c) (es.flatMap dCells) :: bsls es :: F)))
  case atStart => exact ⟨0, P, [P.list], [.slice la ln lc], _, 1, rfl, Nat.zero_le _, rfl, rfl, rfl, Nat.le_refl _, Hok.out, Hq.out, Hmom.out, hS5.sel 5 [2, 3, 4, 0, 1] rfl rfl⟩
  case round =>
    obtain ⟨i, M', moms, vs, ma, mc, rfl, hi, rfl, rfl, hvs, hml, hok, hq, hmo, hS⟩ := hrel
    have Hok' := Lib.hid hok; have Hq' := Lib.hid hq; have Hmo := Lib.hid hmo; have Hvs := Lib.hid hvs; have Hml := Lib.hid hml
    clear hok hq hmo hvs hml
    by_cases hi' : i < es.length
    · obtain ⟨e, he⟩ : ∃ e, es[i]? = some e := ⟨es[i], List.getElem?_eq_getElem _⟩
      obtain ⟨g, rfl, c0, c1, c2, c3, c4, c5, c6⟩ := dos_at (hS.sel 4 [3] rfl rfl) he
      have hfit := HF.out.fit e (List.mem_of_getElem? he)
      have hic : (i : Int) < (es.length : Int) := by omega
      have hwi : IntKind.i64.wrap ((i : Int) + 1) = (i : Int) + 1 := IntWalk.i64_in _ (by have h1 := Hlen.out; omega)
      have skip : ∃ (i_1 : Nat) (M'_1 : Med) (moms_1 : List (List ByteArray)) (vs_1 : List Value) (ma_1 : Option Addr) (mc_1 : Nat), es.length - (i + 1) = es.length - i_1 ∧ i_1 ≤ es.length ∧ Value.int .i64 ((i : Int) + 1) = .int .i64 i_1 ∧ Value.slice ma moms.length mc = .slice ma_1 moms_1.length mc_1 ∧ vs_1.length = moms_1.length ∧ moms_1.length ≤ i_1 + 1 ∧ M'_1.Ok (30 + i_1) ∧ Quiet M'_1 ∧ Moms M'_1 moms_1 ∧
          Sat w0 wr (momsCon m M'_1 (.slice ma_1 moms_1.length mc_1) vs_1 moms_1 (osl 44 7 (.slice (some ⟨g, 0, none⟩) es.length c) (es.flatMap dCells) :: bsls es :: F)) :=
        ⟨i + 1, M', moms, vs, ma, mc, rfl, Nat.succ_le_of_lt hi', by first | rfl | go_num, rfl, Hvs.out, by have := Hml.out; omega, Hok'.out.mono (by omega), Hq'.out, Hmo.out, hS⟩
      have Skip := Lib.hid skip
      clear skip
      by_cases h6 : 6 < e.kind
      · clear he hfit hS5 c1 c2 c3 c4 c5 c6
        have h6d : decide (6 < e.kind) = true := decide_eq_true h6
        go_wp2
        go_roundg (es.length - (i + 1))
        case measure => omega
        case rel => exact Skip.out
      have h6d : decide (6 < e.kind) = false := decide_eq_false h6
      by_cases h0 : e.kind < 0
      · clear he hfit hS5 c1 c2 c3 c4 c5 c6
        go_wp2
        go_roundg (es.length - (i + 1))
        case measure => omega
        case rel => exact Skip.out
      have h0d : decide (e.kind < 0) = false := decide_eq_false h0
      have hmo2 := Hmo.out.does Hok'.out Hq'.out e.cal hfit.n.2 (by show 0 ≤ e.kind; omega) (by show e.kind ≤ 6; omega)
      have hok2 := Hok'.out.does e.cal hfit.n.2
      have hq2 := Hq'.out.does e.cal (by show e.kind ≠ 7; omega)
      have hfit' := hfit.more (L := [osl 50 1 (.slice ma moms.length mc) vs, strz vs moms, osl 44 7 (.slice (some ⟨g, 0, none⟩) es.length c) (es.flatMap dCells), bsls es])
      have hdo := does_c (m := m) Hok'.out (by have := Hlen.out; omega) hS e hfit' (bsls_rd he).cons.cons.cons
      have He := Lib.hid he
      have hmo6 : e.kind = 6 → Moms (M'.does e.cal).1 [(M'.does e.cal).1.list] := fun h => by
        rw [if_pos (show e.cal.kind = 6 from h)] at hmo2; exact hmo2
      have hmoN : e.kind ≠ 6 → Moms (M'.does e.cal).1 (moms ++ [(M'.does e.cal).1.list]) := fun h => by
        rw [if_neg (show e.cal.kind ≠ 6 from h)] at hmo2; exact hmo2
      have Hmo6 := Lib.hid hmo6; have HmoN := Lib.hid hmoN; have Hok2 := Lib.hid hok2; have Hq2 := Lib.hid hq2
      clear hmo6 hmoN
      clear he hfit hfit' hmo2 hok2 hq2 Skip
      obtain ⟨kind, name, to, dn, dm, dbv, db, dlv, dl⟩ := e
      simp only [D.cal] at *
      generalize hX : M'.does _ = X at *
      obtain ⟨M2, out, C, okk⟩ := X
      simp only at *
      clear hX
      go_wp2_with fail
      refine hdo.mono ?_
      rintro e w5 ⟨v, rfl, ov, rfl, ⟨oa, on, oc, rfl⟩, hS6⟩
      dsimp only
      clear hdo c0 c1 c2 c3 c4 c5 c6
      obtain ⟨g2, he2, c0, c1, c2, c3, c4, c5, c6⟩ := dos_at (hS6.sel 5 [4] rfl rfl) He.out
      cases he2
      clear c1 c2 c3 c4 c5 c6
      by_cases hk6 : kind = 6
      · subst hk6
        have Hmo3 := Lib.hid (Hmo6.out rfl)
        have hls := list_c Hok2.out (hS6.sel 6 [1, 4, 5] rfl rfl)
        go_wp2_with fail
        refine hls.mono ?_
        rintro e w6 ⟨v, rfl, hS7, la, ln, lc, rfl⟩
        clear hls
        obtain ⟨ii, hii, hz0, hz1, hz2⟩ := info_parts infoStrs
        have hB := (Sat.osl_nil (T := 50) (sz := 1)).2 (hS7.alloc (.cells #[.slice la ln lc] 50))
        have h63 : ([] : List Value).length + 1 ≤ maxLen := by unfold maxLen; simp
        have hby : (([] : List Value).length + 1) * ii.bytes ≤ 140737488355328 := by rw [hz2]; simp
        go_wp2_with (at_builtin; go_must (refine wpList_append (w0 := w0) (by rfl) _ _ _ (by rfl) _ ii _ Try.underlying52 hii hz0 hz1 (by rfl) (by omega) (by rfl) (by rfl) (by intro u hu; simp at hu; subst hu; rfl) (hB.sel 6 [0, 2, 3, 4, 5] rfl rfl) (rdsl_new _ _ _ 1 1 1 (by rfl)) h63 hby ?_); intro v2 w7 hS8 hne)
        obtain ⟨oa', on', oc', rfl, hon, _⟩ := id hS8.rd
        clear hne h63 hby hB
        go_roundg (es.length - (i + 1))
        case measure => omega
        case rel =>
          obtain rfl : on' = 1 := by simpa using hon.symm
          refine ⟨i + 1, M2, [M2.list], [.slice la ln lc], oa', oc', rfl, Nat.succ_le_of_lt hi', by first | rfl | go_num, rfl, rfl, by simp, Hok2.out, Hq2.out, Hmo3.out, ?_⟩
          have h1 := hS8.sel 5 [2, 0, 1, 3, 4] rfl rfl
          unfold momsCon strz
          simp only [List.zipWith_cons_cons, List.zipWith_nil_right]
          rw [stars_one]
          exact h1
      · have Hmo3 := Lib.hid (HmoN.out hk6)
        have hk6b : (kind == 6) = false := by simpa using hk6
        have hls := list_c Hok2.out (hS6.sel 6 [1, 2, 3, 4, 5] rfl rfl)
        go_wp2_with fail
        refine hls.mono ?_
        rintro e w6 ⟨v, rfl, hS7, la, ln, lc, rfl⟩
        clear hls
        obtain ⟨ii, hii, hz0, hz1, hz2⟩ := info_parts infoStrs
        have hB := hS7.alloc (.cells #[.slice la ln lc] 50)
        have h63 : vs.length + 1 ≤ maxLen := by rw [Hvs.out]; have := Hml.out; have := Hlen.out; unfold maxLen; omega
        have hby : (vs.length + 1) * ii.bytes ≤ 140737488355328 := by rw [Hvs.out, hz2]; have := Hml.out; have := Hlen.out; omega
        go_wp2_with (at_builtin; go_must (refine wpList_append (w0 := w0) (by rfl) _ _ _ (by rfl) _ ii _ Try.underlying52 hii hz0 hz1 (by rfl) (by omega) (by rfl) (by rfl) (by intro u hu; simp at hu; subst hu; rfl) (hB.sel 7 [3, 1, 2, 4, 5, 6] rfl rfl) (rdsl_new _ _ _ 1 1 1 (by rfl)) h63 hby ?_); intro v2 w7 hS8 hne)
        obtain ⟨oa', on', oc', rfl, hon, _⟩ := id hS8.rd
        clear hne h63 hby hB
        go_roundg (es.length - (i + 1))
        case measure => omega
        case rel =>
          obtain rfl : on' = (moms ++ [M2.list]).length := by
            have := Hvs.out
            simp at hon ⊢; omega
          refine ⟨i + 1, M2, moms ++ [M2.list], vs ++ [.slice la ln lc], oa', oc', rfl, Nat.succ_le_of_lt hi', by first | rfl | go_num, rfl, by simp [Hvs.out], by have := Hml.out; simp; omega, Hok2.out, Hq2.out, Hmo3.out, ?_⟩
          unfold momsCon
          rw [strz_snoc _ _ _ _ Hvs.out]
          have h1 := hS8.sel 6 [1, 3, 2, 0, 4, 5] rfl rfl
          exact (Sat.star.2 h1).sel 5 [1, 2, 0, 3, 4] rfl rfl
    · obtain rfl : i = es.length := by omega
      have hic : ¬ (es.length : Int) < (es.length : Int) := by omega
      have hS6 := hS.sel 5 [0, 1, 2] rfl rfl
      have hcr := crash_c Hok'.out (by have := Hlen.out; omega) hS6 q1 (Ro.more (L := [_, _]) HL1.out) HK1.out HI1.out
      have hmem := Hmo.out.crash q1
      have hok3 := Hok'.out.crash q1
      have Hmem := Lib.hid hmem; have Hok3 := Lib.hid hok3
      clear hi hi' hS5 hmem hok3
      generalize M'.crash q1 = Q at *
      go_wp2_with (go_at_call 18; refine (Hnu1.out _).mono ?_; rintro e w4 ⟨v, rfl, rfl, rfl⟩)
      refine hcr.mono ?_
      rintro e w5 ⟨v, rfl, hS7⟩
      clear hcr hS6 hS
      go_wp2_with fail
      have Hql := Lib.hid (list_len Hok3.out)
      have HmL := Lib.hid (show moms.length ≤ 100 by have := Hml.out; have := Hlen.out; omega)
      go_loopg [10] moms.length (fun g iq wr => ∃ (j : Nat), g = moms.length - j ∧ j ≤ moms.length ∧ iq = .int .i64 j ∧ (∀ x ∈ moms.take j, Q.list ≠ x) ∧ Sat w0 wr (momsCon m Q (.slice ma moms.length mc) vs moms F))
      case atStart => exact ⟨0, rfl, Nat.zero_le _, rfl, by simp, hS7⟩
      case round =>
        obtain ⟨j, rfl, hj, rfl, hnot, hS8⟩ := hrel
        have Hnot := Lib.hid hnot
        clear hnot hS7
        by_cases hj' : j < moms.length
        · have hy : moms[j]? = some (moms[j]'hj') := List.getElem?_eq_getElem _
          obtain ⟨sv, hsv⟩ : ∃ x, vs[j]? = some x := ⟨vs[j]'(by have := Hvs.out; omega), List.getElem?_eq_getElem _⟩
          obtain ⟨bk, off, rfl, c1⟩ := rdsl_cell (Sat.rd (hS8.sel 2 [1] rfl rfl)) hsv
          have hls := list_c Hok3.out hS8.drew
          have hic : (j : Int) < (moms.length : Int) := by omega
          have hwi : IntKind.i64.wrap ((j : Int) + 1) = (j : Int) + 1 := IntWalk.i64_in _ (by have := HmL.out; omega)
          have hnext : moms[j]'hj' ≠ Q.list → ∀ x ∈ moms.take (j + 1), Q.list ≠ x := by
            intro hne x hx
            rw [List.take_succ_eq_append_getElem hj'] at hx
            rcases List.mem_append.1 hx with hx | hx
            · exact Hnot.out x hx
            · rw [List.mem_singleton.1 hx]; exact fun e => hne e.symm
          have Hnext := Lib.hid hnext
          have Hy := Lib.hid hy; have Hsv := Lib.hid hsv
          clear hy hsv hnext
          generalize moms[j]'hj' = X at *
          go_wp2
          refine wpL_begin [6] (fun w' => w'.cell? ⟨bk, off + j, none⟩ = some sv) (by kernel_rfl) ?_
          have hG := c1
          refine wpL_pure (i := 0) (v := ?_) rfl (by kernel_rfl) (fun _ _ _ h => h) (Or.inl ⟨by rfl, ?_⟩) ?_; rotate_left; focus ((intro wq; go_simp); first | done | (with_reducible rfl))
          refine wpL_pure (i := 2) (v := ?_) rfl (by kernel_rfl) (fun _ _ _ h => h) (Or.inl ⟨by rfl, ?_⟩) ?_; rotate_left; focus ((intro wq; go_simp); first | done | (with_reducible rfl))
          refine wpL_pure (i := 3) (v := ?_) rfl (by kernel_rfl) (fun _ _ _ h => h) (Or.inl ⟨by rfl, ?_⟩) ?_; rotate_left; focus ((intro wq; go_simp); first | done | (with_reducible rfl))
          refine wpL_pure (i := 4) (v := ?_) rfl (by kernel_rfl) (fun _ _ _ h => h) (Or.inl ⟨by rfl, ?_⟩) ?_; rotate_left; focus ((intro wq; go_simp); first | done | (with_reducible rfl))
          refine wpL_take (i := 5) (v := ?_) rfl (by kernel_rfl) (fun _ _ _ h => h) (Or.inl ⟨by rfl, ?_⟩) (by assumption) ?_; rotate_left; focus ((intro wq hq; go_split_ands; go_simp); first | done | (with_reducible rfl))
          refine wpL_eff (i := 1) rfl (by kernel_rfl) (fun K hK => ?_)
          go_simp
          refine hls.mono ?_
          rintro e w6 ⟨v, rfl, hS9, sa, sn, sc, rfl⟩
          have c2 : w6.cell? ⟨bk, off + j, none⟩ = some sv := by
            obtain ⟨_, _, he, hc⟩ := rdsl_cell (Sat.rd (hS9.sel 3 [2] rfl rfl)) Hsv.out
            cases he
            exact hc
          refine hK _ _ (.inr (.inl c2)) ?_
          clear hK hls hG c1
          have hsm := strSame_c Q.list X (fun w hw => Sat.rd hw) (fun w hw => strz_rd Hsv.out Hy.out w (hw.sel 4 [3] rfl rfl)) hS9 (by have := Hql.out; omega)
          refine wpL_eff (i := 6) rfl (by kernel_rfl) (fun K hK => ?_)
          go_simp
          refine hsm.mono ?_
          rintro e w7 ⟨v, rfl, rfl, hS10⟩
          refine hK _ _ (.inl rfl) ?_
          clear hK hsm
          refine wpL_done (by kernel_rfl) ?_
          try simp only [List.getElem_toArray, List.getElem_cons_succ, List.getElem_cons_zero]
          try go_frame
          by_cases hX : Q.list = X
          · have hXd : decide (Q.list = X) = true := decide_eq_true hX
            have hlv := lives_c (hS10.sel 4 [] rfl rfl)
            simp only [hXd]
            clear hX
            go_wp2_with fail
            refine hlv.mono ?_
            rintro e w8 ⟨v, rfl, rfl, hS11⟩
            clear hlv
            go_wp2
            go_ret
            exact ⟨.bool true, rfl, rfl, hS11⟩
          · have hXd : decide (Q.list = X) = false := decide_eq_false hX
            simp only [hXd]
            have Hnx := Lib.hid (Hnext.out fun e => hX e.symm)
            clear hX
            go_wp2
            go_roundg (moms.length - (j + 1))
            case measure => omega
            case rel => exact ⟨j + 1, rfl, Nat.succ_le_of_lt hj', by first | rfl | go_num, Hnx.out, hS10.drop⟩
        · exfalso
          have h1 := Hnot.out Q.list
          rw [List.take_of_length_le (by omega)] at h1
          exact h1 Hmem.out rfl
end
end Go.Proofs.Ytdhhbajggafdhaa
