import Derived.Test.YtdhhbajggafdhaaDoorMed14
/- A crash, of a file. -/
namespace Go.Proofs.YtdhhbajggafdhaaDoor
open Go Go.Sl Go.Med Go.MapKept Go.RowKit
section
variable {w0 w : World} {F : List HProp} {m fb nb b r : Nat} {M : Med} {bs : List Nat} {wv v bv : Value} {s : ByteArray} {l : Names} {fs : List Fil} {K : Nat} {f : Fil}
theorem chgs_take : ∀ (ws : List (Chg × Value)) (i : Nat) (p : Chg × Value), ws[i]? = some p → ∃ G : HProp, chgs ws = star (bsl p.2 p.1.b) G
  | [], _, _, h => by cases h
  | q :: ws, 0, p, h => by
    simp at h; subst h
    exact ⟨chgs ws, rfl⟩
  | q :: ws, i + 1, p, h => by
    obtain ⟨G, hG⟩ := chgs_take ws i p (by simpa using h)
    refine ⟨star (bsl q.2 q.1.b) G, ?_⟩
    show star (bsl q.2 q.1.b) (chgs ws) = _
    rw [hG, star_left_comm]
theorem chg_cells (ws : List (Chg × Value)) (i : Nat) (p : Chg × Value) (h : ws[i]? = some p) :
    (ws.flatMap chgCells)[i * 3]? = some (.bool p.1.cut) ∧ (ws.flatMap chgCells)[i * 3 + 1]? = some (.int .i64 p.1.n) ∧ (ws.flatMap chgCells)[i * 3 + 2]? = some p.2 := by
  induction ws generalizing i with
  | nil => cases h
  | cons q ws ih =>
    cases i with
    | zero => simp at h; subst h; exact ⟨rfl, rfl, rfl⟩
    | succ i =>
      obtain ⟨h1, h2, h3⟩ := ih i (by simpa using h)
      have e : ∀ j, (List.flatMap chgCells (q :: ws))[(i + 1) * 3 + j]? = (List.flatMap chgCells ws)[i * 3 + j]? := by
        intro j
        rw [List.flatMap_cons, List.getElem?_append_right (by simp [chgCells]; omega)]
        congr 1
        simp [chgCells]; omega
      exact ⟨(e 0).trans h1, (e 1).trans h2, (e 2).trans h3⟩
/-- The cells of a change that waits. -/
theorem waits_cells {ws : List (Chg × Value)} {g n cap : Nat} (h : Sat w0 w (osl 132 3 (.slice (some ⟨g, 0, none⟩) n cap) (ws.flatMap chgCells) :: F)) {i : Nat} {p : Chg × Value} (hi : ws[i]? = some p) :
    w.cell? ⟨g, i * 3, none⟩ = some (.bool p.1.cut) ∧ w.cell? ⟨g, i * 3 + 1, none⟩ = some (.int .i64 p.1.n) ∧ w.cell? ⟨g, i * 3 + 2, none⟩ = some p.2 := by
  obtain ⟨h1, h2, h3⟩ := chg_cells ws i p hi
  rcases h.osl_cases with ⟨he, _⟩ | ⟨b, n', cap', cs, he, hl, hn, hc, hcm, htk, hp⟩
  · cases he
  · cases he
    exact ⟨hp.cellAt _ _ (take_get htk h1), hp.cellAt _ _ (take_get htk h2), hp.cellAt _ _ (take_get htk h3)⟩
theorem rdsl_take {ba : Option Addr} {n c : Nat} {cb : Bs} (h : rdsl 1 (.slice ba n c) (bys cb) w) {T : Nat} (hT : T ≤ n) (c' : Nat) : rdsl 1 (.slice ba T c') (bys (cb.take T)) w := by
  obtain ⟨a, n', c'', he, hl, hc⟩ := h
  cases he
  rw [bys_len, Nat.mul_one] at hl
  refine ⟨ba, T, c', rfl, by rw [bys_len, List.length_take]; omega, fun i x hi => ?_⟩
  rw [bys_take, List.getElem?_take] at hi
  split at hi
  · exact hc i x hi
  · cases hi
set_option maxHeartbeats 4000000 in
theorem crashF_c (hf : f.Ok K) (hK : K ≤ 1099511627776) (h : Sat w0 w (FilRep b f :: F)) (whole torn : Int) (hw : -9223372036854775808 ≤ whole ∧ whole ≤ 9223372036854775807) (ht : -9223372036854775808 ≤ torn ∧ torn ≤ 9223372036854775807) :
    Calls Tryd.prog 68 #[ptr b, .int .i64 whole, .int .i64 torn] w (Rtn fun _ w' => Sat w0 w' (FilRep b (f.crash whole torn) :: F)) := by
  obtain ⟨fv, nv, wv, ws, hws, hR⟩ := FilRep.open h
  obtain ⟨fa, fn, fc, rfl⟩ := bsl_shape (hR.sel 2 [1] rfl rfl)
  obtain ⟨na, nn, nc, rfl⟩ := bsl_shape (hR.sel 3 [2] rfl rfl)
  have hO := hR.sel 4 [3] rfl rfl
  obtain ⟨wa, wn, wc, rfl, hwn, _⟩ := id hO.rd
  have c0 := hR.cellAt 0 _ rfl
  have c1 := hR.cellAt 1 _ rfl
  have c2 := hR.cellAt 2 _ rfl
  have hwl : ws.length = f.waits.length := by rw [← hws]; simp
  have hlen : (ws.flatMap chgCells).length = f.waits.length * 3 := by
    rw [List.length_flatMap, ← hwl]; simp [chgCells, List.map_const']
  have hwn' : wn = f.waits.length := by omega
  have hcapO : wn ≤ wc ∧ wc ≤ 9223372036854775807 := by
    rcases hO.osl_cases with ⟨he, _⟩ | ⟨b, n', cap', cs, he, _, hn, _, hcm, _, _⟩
    · cases he; omega
    · cases he; exact ⟨hn, hcm⟩
  obtain ⟨hc1, hc2⟩ := hcapO
  obtain ⟨N, hNd⟩ : ∃ N, N = clampN whole wn := ⟨_, rfl⟩
  have hNle : N ≤ wn := by rw [hNd]; exact clampN_le _ _
  have hN : min (max whole 0) (wn : Int) = (N : Int) := by rw [hNd]; unfold clampN; omega
  have hbud := hf.budget
  have hNc : (N : Int) ≤ (wc : Int) := by omega
  have hN0 : (0 : Int) ≤ (N : Int) := by omega
  subst hwn'
  have Hwl := Lib.hid hwl; have Hws := Lib.hid hws; have HNd := Lib.hid hNd; have Hf := Lib.hid hf; have HO := Lib.hid hO
  clear hwl hws hNd hf hlen hwn hO
  go_enter Tryd.func68, Tryd.ntmps68
  go_wp2
  go_loopg [6, 29] N (fun g bq iq wr => ∃ (k : Nat) (xa : Option Addr) (xn xc : Nat), g = N - k ∧ k ≤ N ∧ iq = .int .i64 k ∧ bq = .slice xa xn xc ∧
    Sat w0 wr (bsl (.slice xa xn xc) (f.at k) :: filPt b (.slice fa fn fc) (.slice na nn nc) (.slice wa f.waits.length wc) :: osl 132 3 (.slice wa f.waits.length wc) (ws.flatMap chgCells) :: chgs ws :: F))
  case atStart => exact ⟨0, fa, fn, fc, rfl, Nat.zero_le _, rfl, rfl, hR.sel 5 [1, 0, 3, 4] rfl rfl⟩
  case round =>
    obtain ⟨k, xa, xn, xc, rfl, hkN, rfl, rfl, hS⟩ := hrel
    by_cases hk : k < N
    · obtain ⟨p, hp⟩ : ∃ p, ws[k]? = some p := ⟨ws[k]'(by have := Hwl.out; omega), List.getElem?_eq_getElem _⟩
      have hpw : f.waits[k]? = some p.1 := by rw [← Hws.out, List.getElem?_map, hp]; rfl
      obtain ⟨G, hG⟩ := chgs_take ws k p hp
      have hS' := hS
      rw [hG] at hS'
      have hS2 : Sat w0 wr (bsl p.2 p.1.b :: G :: bsl (.slice xa xn xc) (f.at k) :: filPt b (.slice fa fn fc) (.slice na nn nc) (.slice wa f.waits.length wc) :: osl 132 3 (.slice wa f.waits.length wc) (ws.flatMap chgCells) :: F) := Sat.star.1 hS'.pick3
      obtain ⟨ba, bn, bc, hpb⟩ := bsl_shape hS2
      have hok : chgOk p.1 (f.at k) := by
        refine ⟨fun hc => Hf.out.cuts k p.1 hpw hc, fun hc => ?_⟩
        have h1 := Hf.out.size (k + 1) (by omega)
        rw [f.at_succ k p.1 hpw] at h1
        simp only [Chg.on, hc] at h1
        simp at h1; omega
      have hsucc : f.at (k + 1) = p.1.on (f.at k) := f.at_succ k p.1 hpw
      have hshape : ∃ g, wa = some ⟨g, 0, none⟩ := by
        rcases (Sat.osl_cases HO.out) with ⟨he, hx, _⟩ | ⟨g, n', cap', cs, he, _⟩
        · have := (Value.slice.inj he).2.1; omega
        · exact ⟨g, (Value.slice.inj he).1⟩
      obtain ⟨g, rfl⟩ := hshape
      obtain ⟨w0', w1', w2'⟩ := waits_cells (hS2.sel 5 [4] rfl rfl) hp
      obtain ⟨⟨cut, cn, cb⟩, pv⟩ := p
      simp only at hpb hS2 hok hsucc w0' w1' w2' hG
      subst hpb
      have hb : Sat w0 (wr.alloc (.cells #[.bool cut, .int .i64 cn, .slice ba bn bc] 132)) _ := hS2.alloc _
      have e0 := hb.cellAt 0 _ rfl
      have e1 := hb.cellAt 1 _ rfl
      have e2 := hb.cellAt 2 _ rfl
      have hon := chgon_c (bv := .slice ba bn bc) ⟨cut, cn, cb⟩ (hb.sel 4 [3, 1, 2] rfl rfl) (fun w hw => Sat.rd hw) ⟨_, _, _, rfl⟩ hok
      have Hsucc := Lib.hid hsucc; have HG := Lib.hid hG
      clear hsucc hG hok hpw hp hS'
      unfold chgV at hon
      have hkc : (k : Int) < (N : Int) := by omega
      go_wp2_with (go_at_call 84; go_must (refine hon.mono ?_); rintro e w2 ⟨v2, rfl, hS3, a3, n3, k3, rfl⟩)
      go_roundg (N - (k + 1))
      case measure => omega
      case rel =>
        refine ⟨k + 1, a3, n3, k3, rfl, by omega, by go_num, rfl, ?_⟩
        rw [Hsucc.out]
        have h9 : Sat w0 _ (bsl _ cb :: G :: bsl _ _ :: filPt b _ _ _ :: osl _ _ _ _ :: F) := hS3.sel 3 [1, 2, 0] rfl rfl
        have h10 := Sat.star.2 h9
        rw [← HG.out] at h10
        exact h10.sel 4 [1, 2, 3, 0] rfl rfl
    · obtain rfl : k = N := by omega
      have hatl := Hf.out.size k hNle
      have hleft : f.left whole torn = match f.waits[k]? with | some c => if c.cut then f.at k else f.at k ++ c.b.take (clampN torn c.b.length) | none => f.at k := by
        unfold Fil.left; rw [← HNd.out]; rfl
      have Hl0 := Lib.hid hleft; clear hleft
      by_cases hlt : k < f.waits.length
      · obtain ⟨p, hp⟩ : ∃ p, ws[k]? = some p := ⟨ws[k]'(by have := Hwl.out; omega), List.getElem?_eq_getElem _⟩
        have hpw : f.waits[k]? = some p.1 := by rw [← Hws.out, List.getElem?_map, hp]; rfl
        obtain ⟨G, hG⟩ := chgs_take ws k p hp
        have hS' := hS
        rw [hG] at hS'
        have hS2 : Sat w0 wr (bsl p.2 p.1.b :: G :: bsl (.slice xa xn xc) (f.at k) :: filPt b (.slice fa fn fc) (.slice na nn nc) (.slice wa f.waits.length wc) :: osl 132 3 (.slice wa f.waits.length wc) (ws.flatMap chgCells) :: F) := Sat.star.1 hS'.pick3
        obtain ⟨ba, bn, bc, hpb⟩ := bsl_shape hS2
        have hshape : ∃ g, wa = some ⟨g, 0, none⟩ := by
          rcases (Sat.osl_cases HO.out) with ⟨he, hx, _⟩ | ⟨g, n', cap', cs, he, _⟩
          · have := (Value.slice.inj he).2.1; omega
          · exact ⟨g, (Value.slice.inj he).1⟩
        obtain ⟨g, rfl⟩ := hshape
        obtain ⟨w0', w1', w2'⟩ := waits_cells (hS2.sel 5 [4] rfl rfl) hp
        have d2 := hS2.pick3.cellAt 2 _ rfl
        have hnext := Hf.out.size (k + 1) (by omega)
        rw [f.at_succ k p.1 hpw] at hnext
        obtain ⟨⟨cut, cn, cb⟩, pv⟩ := p
        simp only at hpb hS2 w0' w1' w2' hG hpw hnext
        subst hpb
        have hkc : (k : Int) < (f.waits.length : Int) := by omega
        have Hhn := Lib.hid hnext; clear hnext
        clear hG hS' hp
        cases cut
        · have hbcap : bn ≤ bc ∧ bc ≤ 9223372036854775807 ∧ bn = cb.length := by
            rcases hS2.osl_cases with ⟨he, hx, _⟩ | ⟨b, n', cap', cs, he, hl, hn, _, hcm, _, _⟩
            · cases he; have : (bys cb).length = 0 := by rw [hx]; rfl
              rw [bys_len] at this; omega
            · cases he; rw [bys_len] at hl; exact ⟨hn, hcm, by omega⟩
          obtain ⟨hb1, hb2, rfl⟩ := hbcap
          obtain ⟨T, hTd⟩ : ∃ T, T = clampN torn cb.length := ⟨_, rfl⟩
          have hTle : T ≤ cb.length := by rw [hTd]; exact clampN_le _ _
          have hT : min (max torn 0) (cb.length : Int) = (T : Int) := by rw [hTd]; unfold clampN; omega
          have hTc : (T : Int) ≤ (bc : Int) := by omega
          have hT0 : (0 : Int) ≤ (T : Int) := by omega
          have hleft : f.left whole torn = f.at k ++ cb.take T := by rw [Hl0.out, hpw, hTd]; rfl
          have Hleft := Lib.hid hleft
          clear hleft hTd hpw
          have hnext := Hhn.out
          simp only [Chg.on, Bool.false_eq_true, if_false, List.length_append] at hnext
          obtain ⟨i, hi, hz0, hz1, hz2⟩ := info8p
          have hb : Sat w0 (wr.alloc (.cells #[.bool false, .int .i64 cn, .slice ba cb.length bc] 132)) _ := hS2.alloc _
          have e2 := hb.cellAt 2 _ rfl
          have hcl := clone_c hb.drew (hb.drew.pick3.rd) (by omega)
          have h63 : (bys (f.at k)).length + (bys (cb.take T)).length ≤ maxLen := by rw [bys_len, bys_len, List.length_take]; unfold maxLen; omega
          have hby : ((bys (f.at k)).length + (bys (cb.take T)).length) * i.bytes ≤ 140737488355328 := by rw [bys_len, bys_len, List.length_take, hz2]; omega
          go_wp2
          refine wpL_begin [11, 12] (fun w' => w'.cell? ⟨wr.heap.size, 2, none⟩ = some (.slice ba cb.length bc)) (by kernel_rfl) ?_
          have hG := e2
          refine wpL_pure (i := 0) (v := ?_) rfl (by kernel_rfl) (fun _ _ _ h => h) (Or.inl ⟨by rfl, ?_⟩) ?_; rotate_left; focus ((intro wq; go_simp); first | done | (with_reducible rfl))
          refine wpL_pure (i := 2) (v := ?_) rfl (by kernel_rfl) (fun _ _ _ h => h) (Or.inl ⟨by rfl, ?_⟩) ?_; rotate_left; focus ((intro wq; go_simp); first | done | (with_reducible rfl))
          refine wpL_take (i := 3) (v := ?_) rfl (by kernel_rfl) (fun _ _ _ h => h) (Or.inl ⟨by rfl, ?_⟩) (by assumption) ?_; rotate_left; focus ((intro wq hq; go_split_ands; go_simp); first | done | (with_reducible rfl))
          refine wpL_pure (i := 4) (v := ?_) rfl (by kernel_rfl) (fun _ _ _ h => h) (Or.inl ⟨by rfl, ?_⟩) ?_; rotate_left; focus ((intro wq; go_simp); first | done | (with_reducible rfl))
          refine wpL_pure (i := 5) (v := ?_) rfl (by kernel_rfl) (fun _ _ _ h => h) (Or.inl ⟨by rfl, ?_⟩) ?_; rotate_left; focus ((intro wq; go_simp); first | done | (with_reducible rfl))
          refine wpL_pure (i := 6) (v := ?_) rfl (by kernel_rfl) (fun _ _ _ h => h) (Or.inl ⟨by rfl, ?_⟩) ?_; rotate_left; focus ((intro wq; go_simp); first | done | (with_reducible rfl))
          refine wpL_take (i := 7) (v := ?_) rfl (by kernel_rfl) (fun _ _ _ h => h) (Or.inl ⟨by rfl, ?_⟩) (by assumption) ?_; rotate_left; focus ((intro wq hq; go_split_ands; go_simp); first | done | (with_reducible rfl))
          refine wpL_pure (i := 8) (v := ?_) rfl (by kernel_rfl) (fun _ _ _ h => h) (Or.inl ⟨by rfl, ?_⟩) ?_; rotate_left; focus ((intro wq; go_simp); first | done | (with_reducible rfl))
          refine wpL_pure (i := 9) (v := ?_) rfl (by kernel_rfl) (fun _ _ _ h => h) (Or.inl ⟨by rfl, ?_⟩) ?_; rotate_left; focus ((intro wq; go_simp); first | done | (with_reducible rfl))
          refine wpL_pure (i := 10) (v := ?_) rfl (by kernel_rfl) (fun _ _ _ h => h) (Or.inl ⟨by rfl, ?_⟩) ?_; rotate_left; focus ((intro wq; go_simp); first | done | (with_reducible rfl))
          refine wpL_eff (i := 1) rfl (by kernel_rfl) (fun K hK => ?_)
          go_simp
          refine hcl.mono ?_
          rintro e w2 ⟨v1, rfl, hS3, a1, n1, k1, rfl⟩
          refine hK _ _ (.inr (.inl (hS3.pick1.cellAt 2 _ rfl))) ?_
          clear hK
          refine wpL_eff (i := 11) rfl (by kernel_rfl) (fun K hK => ?_)
          have hrd := rdsl_take (hS3.pick2.rd) hTle bc
          refine step_append (w0 := w0) (by rfl) _ _ _ (by rfl) _ i _ Tryd.underlying31 hi hz0 hz1 (by rfl) (by omega) (by rfl) (by rfl) (bys_one _) hS3 hrd h63 hby ?_
          intro v2 w3 hS4 _
          refine hK _ _ (.inl rfl) ?_
          clear hK
          refine wpL_pure (i := 12) (v := ?_) rfl (by kernel_rfl) (fun _ _ _ h => h) (Or.inl ⟨by rfl, ?_⟩) ?_; rotate_left; focus ((intro wq; go_simp); first | done | (with_reducible rfl))
          refine wpL_done (by kernel_rfl) ?_
          obtain ⟨xa2, xn2, xc2, rfl, _⟩ := id hS4.rd
          have hX : Sat w0 w3 (bsl (.slice xa2 xn2 xc2) (f.at k ++ cb.take T) :: filPt b (.slice fa fn fc) (.slice na nn nc) (.slice (some ⟨g, 0, none⟩) f.waits.length wc) :: F) := by
            unfold bsl; rw [bys_append]; exact hS4.sel 7 [0, 5] rfl rfl
          have hXl : (f.at k ++ cb.take T).length ≤ 16777216 := by simp; omega
          have hcl := clone_c hX hX.rd (by omega)
          go_wp2_with (go_at_call 71; go_must (refine hcl.mono ?_); rintro e w9 ⟨v9, rfl, hS9, a9, n9, k9, rfl⟩; have g0 := hS9.pick2.freeAt 0; have g1 := hS9.pick2.freeAt 1; have g2 := hS9.pick2.freeAt 2; have d0 := hS9.pick2.cellAt 0 _ rfl; have d1 := hS9.pick2.cellAt 1 _ rfl; have d2 := hS9.pick2.cellAt 2 _ rfl)
          go_end0
          refine ⟨_, rfl, ?_⟩
          have h5 := ((hS9.pick2.set 0 (.slice xa2 xn2 xc2)).set 1 (.slice a9 n9 k9)).set 2 (.slice none 0 0)
          unfold Fil.crash
          rw [Hleft.out]
          refine FilRep.shut (fv := .slice xa2 xn2 xc2) (nv := .slice a9 n9 k9) (wv := .slice none 0 0) (ws := []) rfl ?_
          have h6 : Sat w0 _ (osl 132 3 (.slice none 0 0) [] :: chgs [] :: _ :: bsl _ _ :: bsl _ _ :: F) := Sat.osl_nil.2 (Sat.emp.2 (h5.sel 3 [0, 1, 2] rfl rfl))
          exact h6.sel 5 [2, 4, 3, 0, 1] rfl rfl

        · have hleft : f.left whole torn = f.at k := by rw [Hl0.out, hpw]; rfl
          have Hleft := Lib.hid hleft
          clear hleft hpw
          have hX : Sat w0 wr (bsl (.slice xa xn xc) (f.at k) :: filPt b (.slice fa fn fc) (.slice na nn nc) (.slice (some ⟨g, 0, none⟩) f.waits.length wc) :: F) := hS.sel 4 [0, 1] rfl rfl
          have hXl := hatl
          have hcl := clone_c hX hX.rd (by omega)
          go_wp2_with (go_at_call 71; go_must (refine hcl.mono ?_); rintro e w9 ⟨v9, rfl, hS9, a9, n9, k9, rfl⟩; have g0 := hS9.pick2.freeAt 0; have g1 := hS9.pick2.freeAt 1; have g2 := hS9.pick2.freeAt 2; have d0 := hS9.pick2.cellAt 0 _ rfl; have d1 := hS9.pick2.cellAt 1 _ rfl; have d2 := hS9.pick2.cellAt 2 _ rfl)
          go_end0
          refine ⟨_, rfl, ?_⟩
          have h5 := ((hS9.pick2.set 0 (.slice xa xn xc)).set 1 (.slice a9 n9 k9)).set 2 (.slice none 0 0)
          unfold Fil.crash
          rw [Hleft.out]
          refine FilRep.shut (fv := .slice xa xn xc) (nv := .slice a9 n9 k9) (wv := .slice none 0 0) (ws := []) rfl ?_
          have h6 : Sat w0 _ (osl 132 3 (.slice none 0 0) [] :: chgs [] :: _ :: bsl _ _ :: bsl _ _ :: F) := Sat.osl_nil.2 (Sat.emp.2 (h5.sel 3 [0, 1, 2] rfl rfl))
          exact h6.sel 5 [2, 4, 3, 0, 1] rfl rfl

      · have hke : k = f.waits.length := by omega
        have hleft : f.left whole torn = f.at k := by rw [Hl0.out, List.getElem?_eq_none (by omega)]
        have Hleft := Lib.hid hleft
        clear hleft hke
        have hkc : ¬ (k : Int) < (f.waits.length : Int) := by omega
        have hkd : decide ((k : Int) < (f.waits.length : Int)) = false := by rw [decide_eq_false_iff_not]; exact hkc
        have d2 := hS.pick1.cellAt 2 _ rfl
        have hX : Sat w0 wr (bsl (.slice xa xn xc) (f.at k) :: filPt b (.slice fa fn fc) (.slice na nn nc) (.slice wa f.waits.length wc) :: F) := hS.sel 4 [0, 1] rfl rfl
        have hXl := hatl
        have hcl := clone_c hX hX.rd (by omega)
        go_wp2_with (go_at_call 71; go_must (refine hcl.mono ?_); rintro e w9 ⟨v9, rfl, hS9, a9, n9, k9, rfl⟩; have g0 := hS9.pick2.freeAt 0; have g1 := hS9.pick2.freeAt 1; have g2 := hS9.pick2.freeAt 2; have d0 := hS9.pick2.cellAt 0 _ rfl; have d1 := hS9.pick2.cellAt 1 _ rfl; have d2 := hS9.pick2.cellAt 2 _ rfl)
        go_end0
        refine ⟨_, rfl, ?_⟩
        have h5 := ((hS9.pick2.set 0 (.slice xa xn xc)).set 1 (.slice a9 n9 k9)).set 2 (.slice none 0 0)
        unfold Fil.crash
        rw [Hleft.out]
        refine FilRep.shut (fv := .slice xa xn xc) (nv := .slice a9 n9 k9) (wv := .slice none 0 0) (ws := []) rfl ?_
        have h6 : Sat w0 _ (osl 132 3 (.slice none 0 0) [] :: chgs [] :: _ :: bsl _ _ :: bsl _ _ :: F) := Sat.osl_nil.2 (Sat.emp.2 (h5.sel 3 [0, 1, 2] rfl rfl))
        exact h6.sel 5 [2, 4, 3, 0, 1] rfl rfl

end
end Go.Proofs.YtdhhbajggafdhaaDoor
