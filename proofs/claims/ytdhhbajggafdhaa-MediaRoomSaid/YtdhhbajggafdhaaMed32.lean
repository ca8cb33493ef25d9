import Derived.Test.YtdhhbajggafdhaaMed31
import Derived.Laws.Strings
/- Same on texts; all; same. -/
namespace Go.Proofs.Ytdhhbajggafdhaa
open Go Go.Sl Go.Med Go.MapKept Go.RowKit
set_option linter.unusedVariables false
section
variable {w0 w W : World} {F : List HProp} {m fb nb b r : Nat} {M : Med} {bs : List Nat} {wv v bv dv av cv : Value} {s : ByteArray} {fs : List Fil} {K : Nat} {f : Fil}
theorem eq_of_takes {α : Type} {la lb : List α} {i : Nat} (h : la.take i = lb.take i) {x y : α} (hx : la[i]? = some x) (hy : lb[i]? = some y) (e : x = y) : la.take (i + 1) = lb.take (i + 1) := by
  obtain ⟨h1, rfl⟩ := List.getElem?_eq_some_iff.1 hx
  obtain ⟨h2, rfl⟩ := List.getElem?_eq_some_iff.1 hy
  rw [List.take_succ_eq_append_getElem h1, List.take_succ_eq_append_getElem h2, h, e]
theorem strs_at {l : List ByteArray} {i : Nat} {x : ByteArray} (h : l[i]? = some x) : (strs l)[i]? = some (.string x) := by
  unfold strs
  rw [List.getElem?_map, h]; rfl
theorem strs_len (l : List ByteArray) : (strs l).length = l.length := by unfold strs; simp
theorem toList_inj {X Y : ByteArray} (h : X.toList = Y.toList) : X = Y := by
  rw [ByteArray.toList_eq, ByteArray.toList_eq] at h
  obtain ⟨⟨x⟩⟩ := X; obtain ⟨⟨y⟩⟩ := Y
  simp at h; subst h; rfl
set_option maxHeartbeats 2000000 in
theorem strSame_c (la lb : List ByteArray) (ha : Ro w0 F (rdsl 1 av (strs la))) (hb : Ro w0 F (rdsl 1 bv (strs lb))) (h : Sat w0 w F) (hlen : la.length ≤ 9223372036854775806) :
    Calls Try.prog 27 #[av, bv] w (Rtn fun v w' => v = .bool (decide (la = lb)) ∧ Sat w0 w' F) := by
  obtain ⟨aa, an, ac, rfl, hal, _⟩ := id (ha w h)
  obtain ⟨ba, bn, bc, rfl, hbl, _⟩ := id (hb w h)
  rw [strs_len, Nat.mul_one] at hal hbl
  subst hal; subst hbl
  have Ha := Lib.hid ha; have Hb := Lib.hid hb; have Hlen := Lib.hid hlen
  clear ha hb hlen
  by_cases hl : la.length = lb.length
  · have Hl := Lib.hid hl
    have hli : (la.length : Int) = (lb.length : Int) := by omega
    go_enter Try.func27, Try.ntmps27
    clear hl
    go_wp2
    clear hli
    go_loopg [5] la.length (fun g iq wr => ∃ i : Nat, g = la.length - i ∧ i ≤ la.length ∧ iq = .int .i64 i ∧ la.take i = lb.take i ∧ Sat w0 wr F)
    case atStart => exact ⟨0, rfl, Nat.zero_le _, rfl, rfl, h⟩
    case round =>
      obtain ⟨i, rfl, hiN, rfl, htk, hS⟩ := hrel
      by_cases hi : i < la.length
      · have hx : la[i]? = some (la[i]'hi) := List.getElem?_eq_getElem _
        have hy : lb[i]? = some (lb[i]'(by have := Hl.out; omega)) := List.getElem?_eq_getElem _
        obtain ⟨bk, off, rfl, c1⟩ := rdsl_cell (Ha.out _ hS) (strs_at hx)
        obtain ⟨bk2, off2, rfl, c2⟩ := rdsl_cell (Hb.out _ hS) (strs_at hy)
        have Hnext := Lib.hid (fun e => eq_of_takes htk hx hy e)
        have hbad : la[i]'hi ≠ lb[i]'(by have := Hl.out; omega) → la ≠ lb := fun hne e => by subst e; exact hne rfl
        have Hbad := Lib.hid hbad
        clear hbad htk hx hy
        generalize la[i]'hi = X at *
        generalize lb[i]'(by have := Hl.out; omega) = Y at *
        have hic : (i : Int) < (la.length : Int) := by omega
        have hil : (i : Int) < (lb.length : Int) := by have := Hl.out; omega
        have hwi : IntKind.i64.wrap ((i : Int) + 1) = (i : Int) + 1 := IntWalk.i64_in _ (by have := Hlen.out; omega)
        have hS1 := hS.drew
        go_wp2
        refine wpL_begin [8] (fun w' => w'.cell? ⟨bk, off + i, none⟩ = some (.string X) ∧ w'.cell? ⟨bk2, off2 + i, none⟩ = some (.string Y)) (by kernel_rfl) ?_
        have hG : _ ∧ _ := And.intro c1 c2
        refine wpL_pure (i := 0) (v := ?_) rfl (by kernel_rfl) (fun _ _ _ h => h) (Or.inl ⟨by rfl, ?_⟩) ?_; rotate_left; focus ((intro wq; go_simp); first | done | (with_reducible rfl))
        refine wpL_pure (i := 1) (v := ?_) rfl (by kernel_rfl) (fun _ _ _ h => h) (Or.inl ⟨by rfl, ?_⟩) ?_; rotate_left; focus ((intro wq; go_simp); first | done | (with_reducible rfl))
        refine wpL_pure (i := 2) (v := ?_) rfl (by kernel_rfl) (fun _ _ _ h => h) (Or.inl ⟨by rfl, ?_⟩) ?_; rotate_left; focus ((intro wq; go_simp); first | done | (with_reducible rfl))
        refine wpL_take (i := 3) (v := ?_) rfl (by kernel_rfl) (fun _ _ _ h => h) (Or.inl ⟨by rfl, ?_⟩) (by assumption) ?_; rotate_left; focus ((intro wq hq; go_split_ands; go_simp); first | done | (with_reducible rfl))
        refine wpL_pure (i := 4) (v := ?_) rfl (by kernel_rfl) (fun _ _ _ h => h) (Or.inl ⟨by rfl, ?_⟩) ?_; rotate_left; focus ((intro wq; go_simp); first | done | (with_reducible rfl))
        refine wpL_pure (i := 5) (v := ?_) rfl (by kernel_rfl) (fun _ _ _ h => h) (Or.inl ⟨by rfl, ?_⟩) ?_; rotate_left; focus ((intro wq; go_simp); first | done | (with_reducible rfl))
        refine wpL_pure (i := 6) (v := ?_) rfl (by kernel_rfl) (fun _ _ _ h => h) (Or.inl ⟨by rfl, ?_⟩) ?_; rotate_left; focus ((intro wq; go_simp); first | done | (with_reducible rfl))
        refine wpL_take (i := 7) (v := ?_) rfl (by kernel_rfl) (fun _ _ _ h => h) (Or.inl ⟨by rfl, ?_⟩) (by assumption) ?_; rotate_left; focus ((intro wq hq; go_split_ands; go_simp); first | done | (with_reducible rfl))
        refine wpL_pure (i := 8) (v := ?_) rfl (by kernel_rfl) (fun _ _ _ h => h) (Or.inl ⟨by rfl, ?_⟩) ?_; rotate_left; focus ((intro wq; go_simp); first | done | (with_reducible rfl))
        refine wpL_done (by kernel_rfl) ?_
        clear hG
        simp only [List.getElem_toArray, List.getElem_cons_succ, List.getElem_cons_zero]
        go_frame
        by_cases hXY : X = Y
        · subst hXY
          simp only [beq_self_eq_true, Bool.not_true]
          go_wp2
          go_roundg (la.length - (i + 1))
          case measure => omega
          case rel => exact ⟨i + 1, rfl, Nat.succ_le_of_lt hi, by first | rfl | go_num, Hnext.out trivial, hS1⟩
        · have hq : (X.toList == Y.toList) = false := by
            rw [beq_eq_false_iff_ne]
            exact fun e => hXY (toList_inj e)
          simp only [hq, Bool.not_false]
          go_wp2
          go_ret
          exact ⟨.bool false, rfl, by rw [decide_eq_false (Hbad.out hXY)], hS1⟩
      · obtain rfl : i = la.length := by omega
        have hic : ¬ (la.length : Int) < (la.length : Int) := by omega
        have hfin : la = lb := by
          have h1 := Hl.out
          rw [List.take_length] at htk
          rw [h1, List.take_length] at htk
          exact htk
        have Hfin := Lib.hid hfin
        clear htk hfin hi hiN
        go_wp2
        go_ret
        exact ⟨.bool true, rfl, by rw [decide_eq_true Hfin.out], hS⟩
  · have hli : ¬ ((la.length : Int) = (lb.length : Int)) := by omega
    have hne : la ≠ lb := fun e => hl (by rw [e])
    have Hne := Lib.hid hne
    clear hne
    go_enter Try.func27, Try.ntmps27
    go_wp2
    go_ret
    exact ⟨.bool false, rfl, by rw [decide_eq_false Hne.out], h⟩
/-- Slices of bytes, each its own. -/
def bsz (vs : List Value) (bs : List Bs) : HProp := stars (List.zipWith bsl vs bs)
theorem bsz_snoc : ∀ (vs : List Value) (bs : List Bs) (v : Value) (b : Bs), vs.length = bs.length → bsz (vs ++ [v]) (bs ++ [b]) = star (bsl v b) (bsz vs bs)
  | [], [], _, _, _ => rfl
  | [], _ :: _, _, _, h => by simp at h
  | _ :: _, [], _, _, h => by simp at h
  | c :: vs, g :: bs, v, b, h => by
    show star (bsl c g) (bsz (vs ++ [v]) (bs ++ [b])) = _
    rw [bsz_snoc vs bs v b (by simpa using h), star_left_comm]; rfl
theorem bsz_at : ∀ (vs : List Value) (bs : List Bs) (i : Nat) (v : Value) (b : Bs), vs[i]? = some v → bs[i]? = some b → ∃ G, bsz vs bs = star (bsl v b) G
  | [], _, _, _, _, h, _ => by cases h
  | _ :: _, [], _, _, _, _, h => by cases h
  | c :: vs, g :: bs, 0, v, b, h, k => by
    cases h; cases k
    exact ⟨_, rfl⟩
  | c :: vs, g :: bs, i + 1, v, b, h, k => by
    obtain ⟨G, hG⟩ := bsz_at vs bs i v b (by simpa using h) (by simpa using k)
    refine ⟨star (bsl c g) G, ?_⟩
    show star (bsl c g) (bsz vs bs) = _
    rw [hG, star_left_comm]
theorem infoBytes : (Try.prog.info? 22).map (fun i => (i.zero, i.size, i.bytes)) = some (some (.slice none 0 0), 1, 24) := by kernel_rfl
/-- All names' bytes. -/
def bytesOf (M : Med) : List Bs := M.list.map fun s => (M.all s).1
/-- What all tells of a medium, in memory. -/
def Alls (nv ov : Value) (M : Med) (vs : List Value) : List HProp := [osl 9 1 nv (strs M.list), osl 22 1 ov vs, bsz vs (bytesOf M)]
theorem list_len (hM : M.Ok K) : M.list.length ≤ 500 := by
  unfold Med.list
  split
  · simp
  · rw [List.length_map]; exact hM.nowOk.len
set_option maxHeartbeats 2000000 in
theorem allF_c (hM : M.Ok K) (h : Sat w0 w (MedRep m M :: F)) :
    Calls Try.prog 28 #[ptr m] w (Rtn fun v w' => ∃ nv ov, v = .tuple #[nv, ov] ∧ (∃ a c, nv = .slice a M.list.length c) ∧ (∃ a c, ov = .slice a M.list.length c) ∧ ∃ vs, vs.length = M.list.length ∧ Sat w0 w' (Alls nv ov M vs ++ MedRep m M :: F)) := by
  have hls := list_c hM h
  have HM := Lib.hid hM
  have hll := list_len hM
  clear hM
  go_enter Try.func28, Try.ntmps28
  go_wp2_with (go_at_call 26; refine hls.mono ?_; rintro e w1 ⟨v, rfl, hS1, a, n, c, rfl⟩)
  obtain rfl : n = M.list.length := by
    obtain ⟨_, _, _, he, hl, _⟩ := hS1.rd
    cases he
    rw [strs_len] at hl; omega
  clear hls
  have hS2 : Sat w0 w1 (osl 22 1 (.slice none 0 0) [] :: bsz [] [] :: osl 9 1 (.slice a M.list.length c) (strs M.list) :: MedRep m M :: F) := Sat.osl_nil.2 (Sat.emp.2 hS1)
  go_loopg [5, 6] M.list.length (fun g ov iq wr => ∃ (i : Nat) (vs : List Value) (oa : Option Addr) (on oc : Nat), g = M.list.length - i ∧ i ≤ M.list.length ∧ iq = .int .i64 i ∧ ov = .slice oa on oc ∧ vs.length = i ∧
    Sat w0 wr (osl 22 1 (.slice oa on oc) vs :: bsz vs ((bytesOf M).take i) :: osl 9 1 (.slice a M.list.length c) (strs M.list) :: MedRep m M :: F))
  case atStart => exact ⟨0, [], none, 0, 0, rfl, Nat.zero_le _, rfl, rfl, rfl, hS2⟩
  case round =>
    obtain ⟨i, vs, oa, on, oc, rfl, hi, rfl, rfl, hvs, hS⟩ := hrel
    have Hvs := Lib.hid hvs
    by_cases hi' : i < M.list.length
    · have hx : M.list[i]? = some (M.list[i]'hi') := List.getElem?_eq_getElem _
      have hb : (bytesOf M)[i]? = some (M.all (M.list[i]'hi')).1 := by unfold bytesOf; rw [List.getElem?_map, hx]; rfl
      obtain ⟨bk, off, rfl, c1⟩ := rdsl_cell (Sat.rd (hS.sel 3 [2] rfl rfl)) (strs_at hx)
      have hall := all_c HM.out (hS.sel 4 [3, 0, 1, 2] rfl rfl) (M.list[i]'hi')
      have hnext : (bytesOf M).take (i + 1) = (bytesOf M).take i ++ [(M.all (M.list[i]'hi')).1] := by
        obtain ⟨h1, h2⟩ := List.getElem?_eq_some_iff.1 hb
        rw [List.take_succ_eq_append_getElem h1, h2]
      have hlt : ((bytesOf M).take i).length = i := by unfold bytesOf; simp; omega
      have Hnext := Lib.hid hnext; have Hlt := Lib.hid hlt
      have hic : (i : Int) < (M.list.length : Int) := by omega
      have hwi : IntKind.i64.wrap ((i : Int) + 1) = (i : Int) + 1 := IntWalk.i64_in _ (by omega)
      clear hx hb hnext hlt hvs hS1 hS2
      generalize M.list[i]'hi' = X at *
      go_wp2_with fail
      refine hall.mono ?_
      rintro e w2 ⟨v, rfl, bv, rfl, hS3⟩
      obtain ⟨ba, bn, bc, rfl⟩ := bsl_shape hS3
      obtain ⟨ii, hii, hz0, hz1, hz2⟩ := info_parts infoBytes
      have hB := hS3.alloc (.cells #[.slice ba bn bc] 22)
      have h63 : vs.length + 1 ≤ maxLen := by rw [Hvs.out]; unfold maxLen; omega
      have hby : (vs.length + 1) * ii.bytes ≤ 140737488355328 := by rw [Hvs.out, hz2]; omega
      clear hall
      go_wp2_with (at_builtin; go_must (refine wpList_append (w0 := w0) (by rfl) _ _ _ (by rfl) _ ii _ Try.underlying23 hii hz0 hz1 (by rfl) (by omega) (by rfl) (by rfl) (by intro u hu; simp at hu; subst hu; rfl) (hB.sel 6 [3, 4, 1, 5, 2] rfl rfl) (rdsl_new _ _ _ 1 1 1 (by rfl)) h63 hby ?_); intro v2 w5 hS5 hne)
      obtain ⟨oa', on', oc', rfl, _⟩ := id hS5.rd
      clear hne h63 hby hB
      go_roundg (M.list.length - (i + 1))
      case measure => omega
      case rel =>
        refine ⟨i + 1, vs ++ [.slice ba bn bc], oa', on', oc', rfl, Nat.succ_le_of_lt hi', by first | rfl | go_num, rfl, by simp [Hvs.out], ?_⟩
        rw [Hnext.out, bsz_snoc _ _ _ _ (by rw [Hvs.out, Hlt.out])]
        have h6 := hS5.sel 5 [2, 1, 0, 3, 4] rfl rfl
        exact (Sat.star.2 h6).sel 4 [1, 0, 2, 3] rfl rfl
    · obtain rfl : i = M.list.length := by omega
      have hic : ¬ (M.list.length : Int) < (M.list.length : Int) := by omega
      have hon : on = M.list.length := by
        obtain ⟨_, _, _, he, hl, _⟩ := hS.rd
        cases he
        omega
      subst hon
      clear hi' hi hS1 hS2 hvs
      go_wp2
      go_ret2
      refine ⟨_, rfl, _, _, rfl, ⟨_, _, rfl⟩, ⟨_, _, rfl⟩, vs, Hvs.out, ?_⟩
      rw [List.take_of_length_le (by unfold bytesOf; simp)] at hS
      exact hS.sel 3 [2, 0, 1] rfl rfl
theorem Ro.more {p : World → Prop} {L : List HProp} (h : Ro w0 F p) : Ro w0 (L ++ F) p := by
  induction L with
  | nil => exact h
  | cons A L ih => exact ih.cons
set_option maxHeartbeats 2000000 in
/-- The same names and bytes, at two places. -/
theorem same_rep_c (l : List ByteArray) (rows : List Bs) (hlen : rows.length ≤ 500) (hll : l.length ≤ 500) (va vb : List Value) (hva : va.length = rows.length) (hvb : vb.length = rows.length)
    (ha : Ro w0 F (rdsl 1 av (strs l))) (hc : Ro w0 F (rdsl 1 cv (strs l))) (hb : Ro w0 F (rdsl 1 bv va)) (hd : Ro w0 F (rdsl 1 dv vb))
    (hrb : ∀ (i : Nat) (v : Value) (b : Bs), va[i]? = some v → rows[i]? = some b → Ro w0 F (rdsl 1 v (bys b))) (hrd : ∀ (i : Nat) (v : Value) (b : Bs), vb[i]? = some v → rows[i]? = some b → Ro w0 F (rdsl 1 v (bys b)))
    (hbl : ∀ b ∈ rows, b.length ≤ 16777216) (h : Sat w0 w F) :
    Calls Try.prog 29 #[av, bv, cv, dv] w (Rtn fun v w' => v = .bool true ∧ Sat w0 w' F) := by
  have hsm := strSame_c l l ha hc h (by omega)
  rw [decide_eq_true rfl] at hsm
  obtain ⟨ba, bn, bc, rfl, hbn, _⟩ := id (hb w h)
  obtain ⟨da, dn, dc, rfl, hdn, _⟩ := id (hd w h)
  rw [Nat.mul_one] at hbn hdn
  obtain rfl : bn = rows.length := by omega
  obtain rfl : dn = rows.length := by omega
  have Hb := Lib.hid hb; have Hd := Lib.hid hd; have Hrb := Lib.hid hrb; have Hrd := Lib.hid hrd; have Hbl := Lib.hid hbl; have Hva := Lib.hid hva; have Hvb := Lib.hid hvb
  clear hb hd hrb hrd ha hc hbl hva hvb hbn hdn
  go_enter Try.func29, Try.ntmps29
  go_wp2_with (go_at_call 27; refine hsm.mono ?_; rintro e w1 ⟨v, rfl, rfl, hS1⟩)
  clear hsm
  go_loopg [9] rows.length (fun g iq wr => ∃ (i : Nat), g = rows.length - i ∧ i ≤ rows.length ∧ iq = .int .i64 i ∧ Sat w0 wr F)
  case atStart => exact ⟨0, rfl, Nat.zero_le _, rfl, hS1⟩
  case round =>
    obtain ⟨i, rfl, hi, rfl, hS⟩ := hrel
    by_cases hi' : i < rows.length
    · obtain ⟨v1, hv1⟩ : ∃ x, va[i]? = some x := ⟨va[i]'(by have := Hva.out; omega), List.getElem?_eq_getElem _⟩
      obtain ⟨v2, hv2⟩ : ∃ x, vb[i]? = some x := ⟨vb[i]'(by have := Hvb.out; omega), List.getElem?_eq_getElem _⟩
      obtain ⟨x, hx⟩ : ∃ x, rows[i]? = some x := ⟨rows[i]'hi', List.getElem?_eq_getElem _⟩
      obtain ⟨bk, off, rfl, c1⟩ := rdsl_cell (Hb.out _ hS) hv1
      obtain ⟨bk2, off2, rfl, c2⟩ := rdsl_cell (Hd.out _ hS) hv2
      have hsb := same_c x (Hrb.out i v1 x hv1 hx) (Hrd.out i v2 x hv2 hx) hS.drew (by have := Hbl.out x (List.mem_of_getElem? hx); omega)
      have hic : (i : Int) < (rows.length : Int) := by omega
      have hwi : IntKind.i64.wrap ((i : Int) + 1) = (i : Int) + 1 := IntWalk.i64_in _ (by omega)
      clear hv1 hv2 hx
      go_wp2
      refine wpL_begin [8, 9] (fun w' => w'.cell? ⟨bk, off + i, none⟩ = some v1 ∧ w'.cell? ⟨bk2, off2 + i, none⟩ = some v2) (by kernel_rfl) ?_
      have hG : _ ∧ _ := And.intro c1 c2
      refine wpL_pure (i := 0) (v := ?_) rfl (by kernel_rfl) (fun _ _ _ h => h) (Or.inl ⟨by rfl, ?_⟩) ?_; rotate_left; focus ((intro wq; go_simp); first | done | (with_reducible rfl))
      refine wpL_pure (i := 1) (v := ?_) rfl (by kernel_rfl) (fun _ _ _ h => h) (Or.inl ⟨by rfl, ?_⟩) ?_; rotate_left; focus ((intro wq; go_simp); first | done | (with_reducible rfl))
      refine wpL_pure (i := 2) (v := ?_) rfl (by kernel_rfl) (fun _ _ _ h => h) (Or.inl ⟨by rfl, ?_⟩) ?_; rotate_left; focus ((intro wq; go_simp); first | done | (with_reducible rfl))
      refine wpL_take (i := 3) (v := ?_) rfl (by kernel_rfl) (fun _ _ _ h => h) (Or.inl ⟨by rfl, ?_⟩) (by assumption) ?_; rotate_left; focus ((intro wq hq; go_split_ands; go_simp); first | done | (with_reducible rfl))
      refine wpL_pure (i := 4) (v := ?_) rfl (by kernel_rfl) (fun _ _ _ h => h) (Or.inl ⟨by rfl, ?_⟩) ?_; rotate_left; focus ((intro wq; go_simp); first | done | (with_reducible rfl))
      refine wpL_pure (i := 5) (v := ?_) rfl (by kernel_rfl) (fun _ _ _ h => h) (Or.inl ⟨by rfl, ?_⟩) ?_; rotate_left; focus ((intro wq; go_simp); first | done | (with_reducible rfl))
      refine wpL_pure (i := 6) (v := ?_) rfl (by kernel_rfl) (fun _ _ _ h => h) (Or.inl ⟨by rfl, ?_⟩) ?_; rotate_left; focus ((intro wq; go_simp); first | done | (with_reducible rfl))
      refine wpL_take (i := 7) (v := ?_) rfl (by kernel_rfl) (fun _ _ _ h => h) (Or.inl ⟨by rfl, ?_⟩) (by assumption) ?_; rotate_left; focus ((intro wq hq; go_split_ands; go_simp); first | done | (with_reducible rfl))
      clear hG c1 c2
      refine wpL_eff (i := 8) rfl (by kernel_rfl) (fun K hK => ?_)
      go_simp
      refine hsb.mono ?_
      rintro e w2 ⟨v, rfl, rfl, hS2⟩
      refine hK _ _ (.inl rfl) ?_
      clear hK hsb
      refine wpL_pure (i := 9) (v := ?_) rfl (by kernel_rfl) (fun _ _ _ h => h) (Or.inl ⟨by rfl, ?_⟩) ?_; rotate_left; focus ((intro wq; go_simp); first | done | (with_reducible rfl))
      refine wpL_done (by kernel_rfl) ?_
      simp only [List.getElem_toArray, List.getElem_cons_succ, List.getElem_cons_zero]
      go_frame
      go_wp2
      go_roundg (rows.length - (i + 1))
      case measure => omega
      case rel => exact ⟨i + 1, rfl, Nat.succ_le_of_lt hi', by first | rfl | go_num, hS2⟩
    · obtain rfl : i = rows.length := by omega
      have hic : ¬ (rows.length : Int) < (rows.length : Int) := by omega
      clear hi' hi
      go_wp2
      go_ret
      exact ⟨.bool true, rfl, rfl, hS⟩
end
end Go.Proofs.Ytdhhbajggafdhaa
