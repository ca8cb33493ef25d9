import Derived.Test.YtdhhbajggafdhaaMed26
/- file.rot within range. -/
namespace Go.Proofs.Ytdhhbajggafdhaa
open Go Go.Sl Go.Med Go.MapKept Go.RowKit
set_option linter.unusedVariables false
section
variable {w0 w : World} {F : List HProp} {m fb nb b r : Nat} {M : Med} {bs : List Nat} {wv v bv dv : Value} {s : ByteArray} {fs : List Fil} {K : Nat} {f : Fil}
theorem bsl_cap' {l : Bs} (h : Sat w0 w (bsl v l :: F)) : ∃ a n c, v = .slice a n c ∧ n ≤ c ∧ c ≤ 9223372036854775807 ∧ n = l.length := by
  rcases Sat.osl_cases h with ⟨rfl, hx, _⟩ | ⟨b, n', cap', cs, rfl, hl, hn, hc, hcm, _, _⟩
  · refine ⟨_, 0, 0, rfl, Nat.le_refl _, by omega, ?_⟩
    have : (bys l).length = 0 := by rw [hx]; rfl
    rw [bys_len] at this; exact this.symm
  · refine ⟨_, _, _, rfl, hn, hcm, ?_⟩
    rw [bys_len, Nat.mul_one] at hl; exact hl.symm
theorem osl_set {T sz : Nat} {g n c : Nat} {xs : List Value} (h : Sat w0 w (osl T sz (.slice (some ⟨g, 0, none⟩) n c) xs :: F)) (i : Nat) (x : Value) :
    w.frozen? ⟨g, i, none⟩ = false ∧ (∀ y, xs[i]? = some y → w.cell? ⟨g, i, none⟩ = some y) ∧ Sat w0 (w.setCell ⟨g, i, none⟩ x) (osl T sz (.slice (some ⟨g, 0, none⟩) n c) (xs.set i x) :: F) := by
  rcases Sat.osl_cases h with ⟨he, _⟩ | ⟨g', n', cap', cs, he, h1, h2, h3, h4, h5, h6⟩
  · cases he
  · cases he
    refine ⟨h6.freeAt i, fun y hy => h6.cellAt i _ (take_get h5 hy), ?_⟩
    refine Sat.osl_of_pt (h6.set i x) (by rw [List.length_set]; exact h1) h2 (by simpa using h3) h4 ?_
    rw [Array.toList_setIfInBounds, List.take_set, h5]
theorem chg_set : ∀ (ws : List (Chg × Value)) (j : Nat) (p : Chg × Value) (b' : Bs) (v' : Value), ws[j]? = some p → (ws.flatMap chgCells).set (j * 3 + 2) v' = (ws.set j ({ p.1 with b := b' }, v')).flatMap chgCells
  | [], _, _, _, _, h => by cases h
  | q :: ws, 0, p, b', v', h => by
    cases h
    rfl
  | q :: ws, j + 1, p, b', v', h => by
    have := chg_set ws j p b' v' (by simpa using h)
    rw [List.set_cons_succ, List.flatMap_cons, List.flatMap_cons, ← this]
    have e : (j + 1) * 3 + 2 = (j * 3 + 2) + 1 + 1 + 1 := by omega
    rw [e]
    rfl
theorem chgs_put : ∀ (ws : List (Chg × Value)) (i : Nat) (p : Chg × Value), ws[i]? = some p → ∃ G : HProp, chgs ws = star (bsl p.2 p.1.b) G ∧ ∀ p', chgs (ws.set i p') = star (bsl p'.2 p'.1.b) G
  | [], _, _, h => by cases h
  | q :: ws, 0, p, h => by
    simp at h; subst h
    exact ⟨chgs ws, rfl, fun _ => rfl⟩
  | q :: ws, i + 1, p, h => by
    obtain ⟨G, hG, hG'⟩ := chgs_put ws i p (by simpa using h)
    refine ⟨star (bsl q.2 q.1.b) G, ?_, fun p' => ?_⟩
    · show star (bsl q.2 q.1.b) (chgs ws) = _
      rw [hG, star_left_comm]
    · show star (bsl q.2 q.1.b) (chgs (ws.set i p')) = _
      rw [hG', star_left_comm]
theorem past_lt {k m W : Nat} (hp : Past f k m W) (hW : W ≤ f.waits.length) (hk : k < (f.at W).length) : ∀ d j, W = j + d → m ≤ j → k < (f.at j).length
  | 0, j, e, _ => by rw [e] at hk; exact hk
  | d + 1, j, e, hj => by
    have h1 : k < (f.at (j + 1)).length := past_lt hp hW hk d (j + 1) (by omega) (by omega)
    have h2 : f.waits[j]? = some (f.waits[j]'(by omega)) := List.getElem?_eq_getElem _
    rcases hp j _ hj (by omega) h2 with h3 | h3
    · rw [f.at_succ j _ h2] at h1
      unfold Chg.on at h1
      rw [if_pos h3] at h1
      simp at h1; omega
    · exact h3
theorem rot_found {k j : Nat} {c : Chg} (y : UInt8) (hp : Past f k (j + 1) f.waits.length) (hc : f.waits[j]? = some c) (hcut : c.cut = false) (hl : (f.at j).length ≤ k) :
    f.rot k y = { f with now := xorAt f.now k y, waits := f.waits.set j { c with b := xorAt c.b (k - (f.at j).length) y } } := by
  unfold Fil.rot
  rcases rotWaits_spec f k y f.waits.length (Nat.le_refl _) with ⟨h1, h2⟩ | ⟨i, d, hi, hd, hdc, hdl, h1, h2⟩
  · rcases h2 j c (Nat.zero_le _) (List.getElem?_eq_some_iff.1 hc).1 hc with h | h
    · rw [hcut] at h; cases h
    · omega
  · have hj : j < f.waits.length := (List.getElem?_eq_some_iff.1 hc).1
    rcases Nat.lt_trichotomy i j with hlt | rfl | hgt
    · rcases h2 j c hlt hj hc with h | h
      · rw [hcut] at h; cases h
      · omega
    · rw [hc] at hd; cases hd
      rw [h1]
    · rcases hp i d hgt hi hd with h | h
      · rw [hdc] at h; cases h
      · omega
theorem rot_none {k : Nat} (y : UInt8) (hp : Past f k 0 f.waits.length) : f.rot k y = { f with now := xorAt f.now k y, fast := xorAt f.fast k y } := by
  unfold Fil.rot
  rcases rotWaits_spec f k y f.waits.length (Nat.le_refl _) with ⟨h1, h2⟩ | ⟨i, d, hi, hd, hdc, hdl, h1, h2⟩
  · rw [h1]
  · rcases hp i d (Nat.zero_le _) hi hd with h | h
    · rw [hdc] at h; cases h
    · omega
theorem infoInt : (Try.prog.info? 3).map (fun i => (i.zero, i.size, i.bytes)) = some (some (.int .i64 0), 1, 8) := by kernel_rfl
set_option maxHeartbeats 2000000 in
theorem rot_in (h : Sat w0 w (FilRep b f :: F)) (hf : f.Ok K) (hK : K ≤ 1099511627776) (k : Nat) (y : UInt8) (hk : k < f.now.length) :
    Calls Try.prog 73 #[ptr b, .int .i64 k, .int .u8 y.toNat] w (Rtn fun v w' => v = .bool true ∧ Sat w0 w' (FilRep b (f.rot k y) :: F)) := by
  obtain ⟨fv, nv, wv, ws, hws, hR⟩ := FilRep.open h
  obtain ⟨na, nn, nc, rfl⟩ := bsl_shape (hR.sel 3 [2] rfl rfl)
  have hnn : nn = f.now.length := by
    obtain ⟨_, _, _, he, hl, _⟩ := Sat.rd (hR.sel 3 [2] rfl rfl)
    cases he
    rw [bys_len, Nat.mul_one] at hl; exact hl.symm
  subst hnn
  obtain ⟨fa, fn, fc, rfl⟩ := bsl_shape (hR.sel 2 [1] rfl rfl)
  have hb : Sat w0 w (bsl (.slice na f.now.length nc) f.now :: filPt b (.slice fa fn fc) (.slice na f.now.length nc) wv :: bsl (.slice fa fn fc) f.fast :: osl 93 3 wv (ws.flatMap chgCells) :: chgs ws :: F) := hR.sel 5 [2, 0, 1, 3, 4] rfl rfl
  obtain ⟨g, rfl, e0, e1, hS⟩ := bsl_set hb hk (f.now[k] ^^^ y)
  have c1 := hb.pick1.cellAt 1 _ rfl
  have hx := xor_u8 (f.now[k]'hk) y
  have d0 := hS.pick1.cellAt 0 _ rfl
  obtain ⟨wa, wn, wc, rfl, hwn, _⟩ := id (Sat.rd (hS.sel 4 [3] rfl rfl))
  have hwl : wn = f.waits.length := by
    have : (ws.flatMap chgCells).length = f.waits.length * 3 := by rw [List.length_flatMap, ← hws]; simp [chgCells, List.map_const']
    omega
  subst hwl
  clear hwn
  have hfn : fn = f.fast.length := by
    obtain ⟨_, _, _, he, hl, _⟩ := Sat.rd (hS.sel 3 [2] rfl rfl)
    cases he
    rw [bys_len, Nat.mul_one] at hl; exact hl.symm
  subst hfn
  have hA := hS.alloc (.cells #[.int .i64 f.fast.length] 3)
  have d2 := hA.pick2.cellAt 2 _ rfl
  have h1' : decide ((k : Int) < 0) = false := by rw [decide_eq_false_iff_not]; omega
  have h2' : decide ((f.now.length : Int) ≤ (k : Int)) = false := by rw [decide_eq_false_iff_not]; omega
  have h3' : (k : Int) < (f.now.length : Int) := by omega
  have h4' : decide (f.now.length ≤ k) = false := by rw [decide_eq_false_iff_not]; omega
  have Hws := Lib.hid hws; have Hf := Lib.hid hf
  clear hws hf
  generalize hx0 : f.now[k]'hk = x0 at *
  have Hx0 := Lib.hid hx0; clear hx0
  generalize hz : x0 ^^^ y = z at *
  have Hz := Lib.hid hz; clear hz
  clear hb hR h
  go_enter Try.func73, Try.ntmps73
  go_wp2_with fail
  have hL : Sat w0 _ (osl 3 1 (.slice (some ⟨w.heap.size, 0, none⟩) 1 1) ((List.range (0 + 1)).map fun j => Value.int .i64 ((f.at j).length : Nat)) :: _) := Sat.osl_of_pt (by simpa using hA) (by simp) (Nat.le_refl _) (by simp) (by unfold maxLen; omega) rfl
  generalize w.heap.size = q at *
  go_loopg [7, 46] f.waits.length (fun gg lv iq wr => ∃ (i : Nat) (la : Option Addr) (ln lc : Nat), gg = f.waits.length - i ∧ i ≤ f.waits.length ∧ iq = .int .i64 i ∧ lv = .slice la ln lc ∧
    Sat w0 wr (osl 3 1 (.slice la ln lc) ((List.range (i + 1)).map fun j => Value.int .i64 ((f.at j).length : Nat)) :: bsl (.slice (some ⟨g, 0, none⟩) f.now.length nc) (f.now.set k z) :: filPt b (.slice fa f.fast.length fc) (.slice (some ⟨g, 0, none⟩) f.now.length nc) (.slice wa f.waits.length wc) :: bsl (.slice fa f.fast.length fc) f.fast :: osl 93 3 (.slice wa f.waits.length wc) (ws.flatMap chgCells) :: chgs ws :: F))
  case atStart => exact ⟨0, _, 1, 1, rfl, Nat.zero_le _, rfl, rfl, hL⟩
  case round =>
    obtain ⟨i, la, ln, lc, rfl, hi, rfl, rfl, hS1⟩ := hrel
    by_cases hi' : i < f.waits.length
    · obtain ⟨p, hp⟩ : ∃ p, ws[i]? = some p := ⟨ws[i]'(by have := congrArg List.length Hws.out; simp at this; omega), List.getElem?_eq_getElem _⟩
      have hpw : f.waits[i]? = some p.1 := by rw [← Hws.out, List.getElem?_map, hp]; rfl
      have hO := hS1.sel 5 [4] rfl rfl
      have hshape : ∃ g, wa = some ⟨g, 0, none⟩ := by
        rcases (Sat.osl_cases hO) with ⟨he, hx, _⟩ | ⟨g, n', cap', cs, he, _⟩
        · have := (Value.slice.inj he).2.1; omega
        · exact ⟨g, (Value.slice.inj he).1⟩
      obtain ⟨gw, rfl⟩ := hshape
      obtain ⟨w0', w1', w2'⟩ := waits_cells hO hp
      obtain ⟨G, hG⟩ := chgs_take ws i p hp
      have hS2 := hS1.sel 6 [5] rfl rfl
      rw [hG] at hS2
      obtain ⟨ba, bn, bc, hpb, _, _, hbn⟩ := bsl_cap' (Sat.star.1 hS2)
      obtain ⟨⟨cut, cn, cb⟩, pv⟩ := p
      simp only at hpb w0' w1' w2' hpw
      subst hpb
      have hic : (i : Int) < (f.waits.length : Int) := by omega
      have hL1 := hS1.rd
      have hln : ln = i + 1 := by
        obtain ⟨_, _, _, he, hl, _⟩ := hL1
        cases he
        simpa using hl.symm
      subst hln
      obtain ⟨gl, rfl⟩ : ∃ g, la = some ⟨g, 0, none⟩ := by
        rcases (Sat.osl_cases hS1) with ⟨he, hx, _⟩ | ⟨g, n', cap', cs, he, _⟩
        · have := (Value.slice.inj he).2.1; omega
        · exact ⟨g, (Value.slice.inj he).1⟩
      have hSA := hS1.alloc (.cells #[.bool cut, .int .i64 cn, .slice ba bn bc] 93)
      have cl : (wr.alloc (.cells #[.bool cut, .int .i64 cn, .slice ba bn bc] 93)).cell? ⟨gl, i, none⟩ = some (.int .i64 (f.at i).length) := by
        obtain ⟨_, _, _, he, _, hx⟩ := hSA.pick1.rd
        cases he
        obtain ⟨b2, hb2, hc⟩ := hx i (.int .i64 ((f.at i).length : Nat)) (by simp)
        cases hb2
        rw [add_zero_lit] at hc; exact hc
      have cb0 := hSA.cellAt 0 _ rfl
      have cb1 := hSA.cellAt 1 _ rfl
      have cb2 := hSA.cellAt 2 _ rfl
      have hszi := Hf.out.size i (by omega)
      have hbud := Hf.out.budget
      have hwr1 : IntKind.i64.wrap (i : Int) = (i : Int) := IntWalk.i64_in _ (by omega)
      have hil : (i : Int) < (i : Int) + 1 := by omega
      simp only at hbn
      subst hbn
      have hrel' : ∀ N : Int, N = ((f.at (i + 1)).length : Int) → ((List.range (i + 1)).map fun j => Value.int .i64 ((f.at j).length : Nat)) ++ [.int .i64 N] = (List.range (i + 1 + 1)).map fun j => Value.int .i64 ((f.at j).length : Nat) := by
        rintro N rfl
        rw [List.range_succ (n := i + 1), List.map_append]; rfl
      have hlenl : ((List.range (i + 1)).map fun j => Value.int .i64 ((f.at j).length : Nat)).length = i + 1 := by simp
      have Hrel := Lib.hid hrel'; have Hlenl := Lib.hid hlenl
      have hS8 := hSA.drew
      clear hp hO hG hS2 d0 d2 e0 e1 c1 hS hA hL hL1 hrel' hlenl
      generalize hLL : ((List.range (i + 1)).map fun j => Value.int .i64 ((f.at j).length : Nat)) = LL at *
      clear hLL
      cases cut
      · have hszb : (f.at i).length + cb.length ≤ 16777216 := by
          have := Hf.out.size (i + 1) (by omega)
          rw [f.at_succ i _ hpw] at this
          simpa [Chg.on] using this
        have hnext : ((f.at i).length : Int) + cb.length = ((f.at (i + 1)).length : Int) := by
          rw [f.at_succ i _ hpw]
          simp [Chg.on]
        have hwr2 : IntKind.i64.wrap (((f.at i).length : Int) + cb.length) = ((f.at (i + 1)).length : Int) := by rw [IntWalk.i64_in _ (by omega)]; exact hnext
        clear hpw hnext hszi
        generalize ((f.at i).length : Int) = L0 at *
        go_wp2_with fail
        generalize wr.heap.size = qc at *
        refine wpL_begin [9, 10] (fun w' => w'.cell? ⟨gl, i, none⟩ = some (.int .i64 L0) ∧ w'.cell? ⟨qc, 2, none⟩ = some (.slice ba cb.length bc)) (by kernel_rfl) ?_
        have hG : _ ∧ _ := ⟨cl, cb2⟩
        refine wpL_pure (i := 0) (v := ?_) rfl (by kernel_rfl) (fun _ _ _ h => h) (Or.inl ⟨by rfl, ?_⟩) ?_; rotate_left; focus ((intro wq; go_simp); first | done | (with_reducible rfl))
        refine wpL_pure (i := 1) (v := ?_) rfl (by kernel_rfl) (fun _ _ _ h => h) (Or.inl ⟨by rfl, ?_⟩) ?_; rotate_left; focus ((intro wq; go_simp); first | done | (with_reducible rfl))
        refine wpL_pure (i := 2) (v := ?_) rfl (by kernel_rfl) (fun _ _ _ h => h) (Or.inl ⟨by rfl, ?_⟩) ?_; rotate_left; focus ((intro wq; go_simp); first | done | (with_reducible rfl))
        refine wpL_pure (i := 3) (v := ?_) rfl (by kernel_rfl) (fun _ _ _ h => h) (Or.inl ⟨by rfl, ?_⟩) ?_; rotate_left; focus ((intro wq; go_simp); first | done | (with_reducible rfl))
        refine wpL_pure (i := 4) (v := ?_) rfl (by kernel_rfl) (fun _ _ _ h => h) (Or.inl ⟨by rfl, ?_⟩) ?_; rotate_left; focus ((intro wq; go_simp); first | done | (with_reducible rfl))
        refine wpL_take (i := 5) (v := ?_) rfl (by kernel_rfl) (fun _ _ _ h => h) (Or.inl ⟨by rfl, ?_⟩) (by assumption) ?_; rotate_left; focus ((intro wq hq; go_split_ands; go_simp); first | done | (with_reducible rfl))
        refine wpL_pure (i := 6) (v := ?_) rfl (by kernel_rfl) (fun _ _ _ h => h) (Or.inl ⟨by rfl, ?_⟩) ?_; rotate_left; focus ((intro wq; go_simp); first | done | (with_reducible rfl))
        refine wpL_take (i := 7) (v := ?_) rfl (by kernel_rfl) (fun _ _ _ h => h) (Or.inl ⟨by rfl, ?_⟩) (by assumption) ?_; rotate_left; focus ((intro wq hq; go_split_ands; go_simp); first | done | (with_reducible rfl))
        refine wpL_pure (i := 8) (v := ?_) rfl (by kernel_rfl) (fun _ _ _ h => h) (Or.inl ⟨by rfl, ?_⟩) ?_; rotate_left; focus ((intro wq; go_simp); first | done | (with_reducible rfl))
        refine wpL_pure (i := 9) (v := ?_) rfl (by kernel_rfl) (fun _ _ _ h => h) (Or.inl ⟨by rfl, ?_⟩) ?_; rotate_left; focus ((intro wq; go_simp); first | done | (with_reducible rfl))
        refine wpL_pure (i := 10) (v := ?_) rfl (by kernel_rfl) (fun _ _ _ h => h) (Or.inl ⟨by rfl, ?_⟩) ?_; rotate_left; focus ((intro wq; go_simp); first | done | (with_reducible rfl))
        refine wpL_done (by kernel_rfl) ?_
        clear hG
        simp only [List.getElem_toArray, List.getElem_cons_succ, List.getElem_cons_zero]
        go_frame
        clear hwr1 hwr2 hil cl cb0 cb1 cb2 hSA w0' w1' w2' hS1
        generalize (wr.alloc (.cells #[.bool false, .int .i64 cn, .slice ba cb.length bc] 93)).drew = w8 at *
        have c9 := hS8.cellAt 0 _ rfl
        have c10 := hS8.cellAt 1 _ rfl
        skip
        obtain ⟨ii, hii, hz0, hz1, hz2⟩ := info_parts infoInt
        have hB := hS8.alloc (.cells #[.int .i64 (f.at (i + 1)).length] 3)
        have hL1 := Hlenl.out
        have h63 : LL.length + 1 ≤ maxLen := by rw [hL1]; unfold maxLen; omega
        have hby : (LL.length + 1) * ii.bytes ≤ 140737488355328 := by rw [hL1, hz2]; omega
        clear hL1
        go_wp2_with (at_builtin; go_must (refine wpList_append (w0 := w0) (by rfl) _ _ _ (by rfl) _ ii _ Try.underlying24 hii hz0 hz1 (by rfl) (by omega) (by rfl) (by rfl) (by intro u hu; simp at hu; subst hu; rfl) (hB.sel 3 [2] rfl rfl) (rdsl_new _ _ _ 1 1 1 (by rfl)) h63 hby ?_); intro v2 w5 hS5 hne)
        obtain ⟨oa', on', oc', rfl, _⟩ := id hS5.rd
        clear hne h63 hby hB
        go_roundg (f.waits.length - (i + 1))
        case measure => omega
        case rel =>
          refine ⟨i + 1, oa', on', oc', rfl, by omega, by go_num, rfl, ?_⟩
          rw [← Hrel.out _ rfl]
          exact hS5
      · have hcn : (cn : Int) = ((f.at (i + 1)).length : Int) := by
          have h1 := Hf.out.cuts i _ hpw rfl
          rw [f.at_succ i _ hpw]
          simp only [Chg.on, if_true, List.length_take] at h1 ⊢
          omega
        have hwr2 : True := trivial
        have Hcn := Lib.hid hcn
        clear hpw hszi hcn
        generalize ((f.at i).length : Int) = L0 at *
        go_wp2_with fail
        generalize wr.heap.size = qc at *
        refine wpL_begin [9, 10] (fun w' => w'.cell? ⟨gl, i, none⟩ = some (.int .i64 L0) ∧ w'.cell? ⟨qc, 2, none⟩ = some (.slice ba cb.length bc)) (by kernel_rfl) ?_
        have hG : _ ∧ _ := ⟨cl, cb2⟩
        refine wpL_pure (i := 0) (v := ?_) rfl (by kernel_rfl) (fun _ _ _ h => h) (Or.inl ⟨by rfl, ?_⟩) ?_; rotate_left; focus ((intro wq; go_simp); first | done | (with_reducible rfl))
        refine wpL_pure (i := 1) (v := ?_) rfl (by kernel_rfl) (fun _ _ _ h => h) (Or.inl ⟨by rfl, ?_⟩) ?_; rotate_left; focus ((intro wq; go_simp); first | done | (with_reducible rfl))
        refine wpL_pure (i := 2) (v := ?_) rfl (by kernel_rfl) (fun _ _ _ h => h) (Or.inl ⟨by rfl, ?_⟩) ?_; rotate_left; focus ((intro wq; go_simp); first | done | (with_reducible rfl))
        refine wpL_pure (i := 3) (v := ?_) rfl (by kernel_rfl) (fun _ _ _ h => h) (Or.inl ⟨by rfl, ?_⟩) ?_; rotate_left; focus ((intro wq; go_simp); first | done | (with_reducible rfl))
        refine wpL_pure (i := 4) (v := ?_) rfl (by kernel_rfl) (fun _ _ _ h => h) (Or.inl ⟨by rfl, ?_⟩) ?_; rotate_left; focus ((intro wq; go_simp); first | done | (with_reducible rfl))
        refine wpL_take (i := 5) (v := ?_) rfl (by kernel_rfl) (fun _ _ _ h => h) (Or.inl ⟨by rfl, ?_⟩) (by assumption) ?_; rotate_left; focus ((intro wq hq; go_split_ands; go_simp); first | done | (with_reducible rfl))
        refine wpL_pure (i := 6) (v := ?_) rfl (by kernel_rfl) (fun _ _ _ h => h) (Or.inl ⟨by rfl, ?_⟩) ?_; rotate_left; focus ((intro wq; go_simp); first | done | (with_reducible rfl))
        refine wpL_take (i := 7) (v := ?_) rfl (by kernel_rfl) (fun _ _ _ h => h) (Or.inl ⟨by rfl, ?_⟩) (by assumption) ?_; rotate_left; focus ((intro wq hq; go_split_ands; go_simp); first | done | (with_reducible rfl))
        refine wpL_pure (i := 8) (v := ?_) rfl (by kernel_rfl) (fun _ _ _ h => h) (Or.inl ⟨by rfl, ?_⟩) ?_; rotate_left; focus ((intro wq; go_simp); first | done | (with_reducible rfl))
        refine wpL_pure (i := 9) (v := ?_) rfl (by kernel_rfl) (fun _ _ _ h => h) (Or.inl ⟨by rfl, ?_⟩) ?_; rotate_left; focus ((intro wq; go_simp); first | done | (with_reducible rfl))
        refine wpL_pure (i := 10) (v := ?_) rfl (by kernel_rfl) (fun _ _ _ h => h) (Or.inl ⟨by rfl, ?_⟩) ?_; rotate_left; focus ((intro wq; go_simp); first | done | (with_reducible rfl))
        refine wpL_done (by kernel_rfl) ?_
        clear hG
        simp only [List.getElem_toArray, List.getElem_cons_succ, List.getElem_cons_zero]
        go_frame
        clear hwr1 hwr2 hil cl cb0 cb1 cb2 hSA w0' w1' w2' hS1
        generalize (wr.alloc (.cells #[.bool true, .int .i64 cn, .slice ba cb.length bc] 93)).drew = w8 at *
        have c9 := hS8.cellAt 0 _ rfl
        have c10 := hS8.cellAt 1 _ rfl
        skip
        obtain ⟨ii, hii, hz0, hz1, hz2⟩ := info_parts infoInt
        have hB := hS8.alloc (.cells #[.int .i64 cn] 3)
        have hL1 := Hlenl.out
        have h63 : LL.length + 1 ≤ maxLen := by rw [hL1]; unfold maxLen; omega
        have hby : (LL.length + 1) * ii.bytes ≤ 140737488355328 := by rw [hL1, hz2]; omega
        clear hL1
        go_wp2_with (at_builtin; go_must (refine wpList_append (w0 := w0) (by rfl) _ _ _ (by rfl) _ ii _ Try.underlying24 hii hz0 hz1 (by rfl) (by omega) (by rfl) (by rfl) (by intro u hu; simp at hu; subst hu; rfl) (hB.sel 3 [2] rfl rfl) (rdsl_new _ _ _ 1 1 1 (by rfl)) h63 hby ?_); intro v2 w5 hS5 hne)
        obtain ⟨oa', on', oc', rfl, _⟩ := id hS5.rd
        clear hne h63 hby hB
        go_roundg (f.waits.length - (i + 1))
        case measure => omega
        case rel =>
          refine ⟨i + 1, oa', on', oc', rfl, by omega, by go_num, rfl, ?_⟩
          rw [← Hrel.out _ Hcn.out]
          exact hS5
    · obtain rfl : i = f.waits.length := by omega
      have hic : ¬ (f.waits.length : Int) < (f.waits.length : Int) := by omega
      have hbud := Hf.out.budget
      have d2' := hS1.pick2.cellAt 2 _ rfl
      have hwrW : IntKind.i64.wrap ((f.waits.length : Int) - 1) = (f.waits.length : Int) - 1 := IntWalk.i64_in _ (by omega)
      clear d0 d2 e0 e1 c1 hS hA hL hi'
      go_wp2_with fail
      clear d2' hwrW hic
      have Hlow := Lib.hid hk
      go_loopg [11] f.waits.length (fun gg iq wr => ∃ (n : Nat), gg = n ∧ n ≤ f.waits.length ∧ iq = .int .i64 ((n : Int) - 1) ∧ Past f k n f.waits.length ∧
        Sat w0 wr (osl 3 1 (.slice la ln lc) ((List.range (f.waits.length + 1)).map fun j => Value.int .i64 ((f.at j).length : Nat)) :: bsl (.slice (some ⟨g, 0, none⟩) f.now.length nc) (f.now.set k z) :: filPt b (.slice fa f.fast.length fc) (.slice (some ⟨g, 0, none⟩) f.now.length nc) (.slice wa f.waits.length wc) :: bsl (.slice fa f.fast.length fc) f.fast :: osl 93 3 (.slice wa f.waits.length wc) (ws.flatMap chgCells) :: chgs ws :: F))
      case atStart => exact ⟨f.waits.length, rfl, Nat.le_refl _, rfl, (fun j c h1 h2 => by omega), hS1⟩
      case round =>
        obtain ⟨n, hgn, hn, rfl, hpast, hS2⟩ := hrel
        have hgn' := hgn.symm
        subst hgn'
        have hkn : k < (f.at f.waits.length).length := by rw [← Hf.out.now]; exact hk
        have hznow : f.now.set k z = xorAt f.now k y := by
          unfold xorAt
          rw [List.getD_eq_getElem?_getD, List.getElem?_eq_getElem hk, Option.getD_some, Hx0.out, Hz.out]
        have Hznow := Lib.hid hznow
        clear hznow
        rcases n with _ | j
        · have hkf : k < f.fast.length := past_lt hpast (Nat.le_refl _) hkn f.waits.length 0 (by omega) (Nat.zero_le _)
          have Hrot := Lib.hid (rot_none y hpast)
          have hrd := Sat.rd (hS2.sel 4 [3] rfl rfl)
          have hcl := clone_c hS2 hrd (by have := Hf.out.size 0 (Nat.zero_le _); rw [Fil.at_zero] at this; omega)
          have b0 := hS2.pick2.cellAt 0 _ rfl
          clear hrd hpast hkn hgn hn
          rw [show (((0 : Nat) : Int) - 1) = -1 from rfl]
          go_wp2_with fail
          refine hcl.mono ?_
          rintro e w1 ⟨v', rfl, hS3, a3, n3, k3, rfl⟩
          have hP := hS3.sel 4 [3, 0, 2] rfl rfl
          have fz := hP.freeAt 0
          have fz1 := hP.cellAt 0 _ rfl
          have hP2 := hP.set 0 (.slice a3 n3 k3)
          have p0 : (w1.setCell ⟨b, 0, none⟩ (.slice a3 n3 k3)).cell? ⟨b, 0, none⟩ = some (.slice a3 n3 k3) := hP2.cellAt 0 _ rfl
          obtain ⟨g3, rfl, p1, p2, hP3⟩ := bsl_set hP2.pick1 hkf (f.fast[k]'hkf ^^^ y)
          have hx1 := xor_u8 (f.fast[k]'hkf) y
          have hn3 : n3 = f.fast.length := by
            obtain ⟨_, _, _, he, hl, _⟩ := Sat.rd (hP2.sel 2 [1] rfl rfl)
            cases he
            rw [bys_len, Nat.mul_one] at hl; exact hl.symm
          subst hn3
          have hki : (k : Int) < (f.fast.length : Int) := by omega
          have hzf : f.fast.set k (f.fast[k]'hkf ^^^ y) = xorAt f.fast k y := by
            unfold xorAt
            rw [List.getD_eq_getElem?_getD, List.getElem?_eq_getElem hkf, Option.getD_some]
          rw [hzf] at hP3
          have Hzf := Lib.hid hzf
          clear hzf hS3 hP hcl b0
          generalize f.fast[k]'hkf = x3 at *
          generalize x3 ^^^ y = z3 at *
          go_wp2
          go_ret
          refine ⟨.bool true, rfl, rfl, ?_⟩
          rw [Hrot.out]
          have h6 := hP3.sel 5 [1, 0, 2, 4] rfl rfl
          rw [Hznow.out] at h6
          have h7 : Sat w0 _ (FilRaw b { f with now := xorAt f.now k y, fast := xorAt f.fast k y } (.slice (some ⟨g3, 0, none⟩) f.fast.length k3) (.slice (some ⟨g, 0, none⟩) f.now.length nc) (.slice wa f.waits.length wc) ws ++ F) := h6
          exact FilRep.shut Hws.out h7
        · have hj : j < f.waits.length := hn
          obtain ⟨p, hp⟩ : ∃ p, ws[j]? = some p := ⟨ws[j]'(by have := congrArg List.length Hws.out; simp at this; omega), List.getElem?_eq_getElem _⟩
          have hpw : f.waits[j]? = some p.1 := by rw [← Hws.out, List.getElem?_map, hp]; rfl
          have hO := hS2.sel 5 [4] rfl rfl
          obtain ⟨gw, rfl⟩ : ∃ g, wa = some ⟨g, 0, none⟩ := by
            rcases (Sat.osl_cases hO) with ⟨he, hx, _⟩ | ⟨g, n', cap', cs, he, _⟩
            · have := (Value.slice.inj he).2.1; omega
            · exact ⟨g, (Value.slice.inj he).1⟩
          obtain ⟨w0', w1', w2'⟩ := waits_cells hO hp
          obtain ⟨G, hG, hG'⟩ := chgs_put ws j p hp
          rw [hG] at hS2
          have hS2b := (Sat.star.1 (hS2.sel 6 [5, 0, 1, 2, 3, 4] rfl rfl)).sel 7 [2, 3, 4, 5, 6, 0, 1] rfl rfl
          obtain ⟨⟨cut, cn, cb⟩, pv⟩ := p
          obtain ⟨ba, bn, bc, hpb, _, _, hbn⟩ := bsl_cap' (hS2b.sel 6 [5] rfl rfl)
          simp only at hpb w0' w1' w2' hpw hbn
          subst hpb
          subst hbn
          obtain ⟨gl, rfl⟩ : ∃ g, la = some ⟨g, 0, none⟩ := by
            rcases (Sat.osl_cases hS2b) with ⟨he, hx, _⟩ | ⟨g, n', cap', cs, he, _⟩
            · have := congrArg List.length hx
              simp at this
            · exact ⟨g, (Value.slice.inj he).1⟩
          have hln : ln = f.waits.length + 1 := by
            obtain ⟨_, _, _, he, hl, _⟩ := hS2b.rd
            cases he
            simpa using hl.symm
          subst hln
          have b2 := hS2b.pick2.cellAt 2 _ rfl
          have hic : (j : Int) < (f.waits.length : Int) := by omega
          have hwj : IntKind.i64.wrap ((j : Int) - 1) = (j : Int) - 1 := IntWalk.i64_in _ (by omega)
          have hil : (j : Int) < (f.waits.length : Int) + 1 := by omega
          have hget : ((List.range (f.waits.length + 1)).map fun j => Value.int .i64 ((f.at j).length : Nat))[j]? = some (.int .i64 ((f.at j).length : Nat)) := by
            rw [List.getElem?_map, List.getElem?_range (by omega)]; rfl
          have Hget := Lib.hid hget
          have Hpw := Lib.hid hpw
          clear hget hpw hO
          cases cut
          · have hSA := hS2b.alloc (.cells #[.bool false, .int .i64 cn, .slice ba cb.length bc] 93)
            have cb0 := hSA.cellAt 0 _ rfl
            have cb2 := hSA.cellAt 2 _ rfl
            have cl := (osl_set hSA.pick1 j undef).2.1 _ Hget.out
            by_cases hle : (f.at j).length ≤ k
            · have Hrot := Lib.hid (rot_found y hpast Hpw.out rfl hle)
              have hkj : k < (f.at (j + 1)).length := past_lt hpast (Nat.le_refl _) hkn (f.waits.length - (j + 1)) (j + 1) (by omega) (Nat.le_refl _)
              rw [f.at_succ j _ Hpw.out] at hkj
              simp only [Chg.on, Bool.false_eq_true, if_false, List.length_append] at hkj
              have hszj := Hf.out.size (j + 1) (by omega)
              rw [f.at_succ j _ Hpw.out] at hszj
              simp only [Chg.on, Bool.false_eq_true, if_false, List.length_append] at hszj
              obtain ⟨t, ht⟩ : ∃ t, t = k - (f.at j).length := ⟨_, rfl⟩
              have htl : t < cb.length := by omega
              have hwt : IntKind.i64.wrap ((k : Int) - ((f.at j).length : Int)) = (t : Int) := by rw [IntWalk.i64_in _ (by omega)]; omega
              have hti : (t : Int) < (cb.length : Int) := by omega
              have hle1 : ((f.at j).length : Int) ≤ (k : Int) := by omega
              have Ht := Lib.hid ht
              have hrd : rdsl 1 (.slice ba cb.length bc) (bys cb) (wr.alloc (.cells #[.bool false, .int .i64 cn, .slice ba cb.length bc] 93)) := Sat.rd (hSA.sel 7 [6] rfl rfl)
              have hcl := clone_c hSA hrd (by omega)
              have Hkj := Lib.hid hkj; have Hszj := Lib.hid hszj
              clear hpast hkn hgn ht hkj hszj hrd
              go_wp2_with fail
              refine hcl.mono ?_
              rintro e w1 ⟨v', rfl, hS3, a3, n3, k3, rfl⟩
              clear hcl hSA cb0 cb2 cl w0' w1' w2' b2
              have cl := (osl_set hS3.pick2 j undef).2.1 _ Hget.out
              obtain ⟨g3, rfl, p1, p2, hP3⟩ := bsl_set hS3 htl (cb[t]'htl ^^^ y)
              have hx1 := xor_u8 (cb[t]'htl) y
              have hn3 : n3 = cb.length := by
                obtain ⟨_, _, _, he, hl, _⟩ := Sat.rd hS3
                cases he
                rw [bys_len, Nat.mul_one] at hl; exact hl.symm
              subst hn3
              have hzf : cb.set t (cb[t]'htl ^^^ y) = xorAt cb t y := by
                unfold xorAt
                rw [List.getD_eq_getElem?_getD, List.getElem?_eq_getElem htl, Option.getD_some]
              rw [hzf] at hP3
              clear hzf hS3
              generalize cb[t]'htl = x3 at *
              generalize x3 ^^^ y = z3 at *
              have b2 := (hP3.sel 5 [4] rfl rfl).cellAt 2 _ rfl
              have hP4 := hP3.sel 9 [6, 0, 2, 3, 4, 5, 8] rfl rfl
              have o2 := (osl_set hP4 (j * 3 + 2) undef).2.1 _ (chg_cells ws j _ hp).2.2
              obtain ⟨o1, _, hP5⟩ := osl_set hP4 (j * 3 + 2) (.slice (some ⟨g3, 0, none⟩) cb.length k3)
              rw [chg_set ws j _ (xorAt cb t y) _ hp] at hP5
              go_wp2
              go_ret
              refine ⟨.bool true, rfl, rfl, ?_⟩
              rw [Hrot.out, ← Ht.out]
              have h6 := Sat.star.2 (hP5.sel 7 [1, 6, 4, 5, 3, 0] rfl rfl)
              rw [Hznow.out] at h6
              have h7 := h6.sel 5 [1, 2, 3, 4, 0] rfl rfl
              refine FilRep.shut (fv := .slice fa f.fast.length fc) (nv := .slice (some ⟨g, 0, none⟩) f.now.length nc) (wv := .slice (some ⟨gw, 0, none⟩) f.waits.length wc) (ws := ws.set j (⟨false, cn, xorAt cb t y⟩, .slice (some ⟨g3, 0, none⟩) cb.length k3)) (by rw [List.map_set, Hws.out]) ?_
              unfold FilRaw
              rw [hG' (⟨false, cn, xorAt cb t y⟩, .slice (some ⟨g3, 0, none⟩) cb.length k3)]
              exact h7
            · have hpn : Past f k j f.waits.length := by
                intro i c h1 h2 h3
                rcases Nat.lt_or_ge j i with h4 | h4
                · exact hpast i c h4 h2 h3
                · obtain rfl : i = j := by omega
                  exact .inr (by omega)
              have hle' : ¬ ((f.at j).length : Int) ≤ (k : Int) := by omega
              clear hpast
              go_wp2_with fail
              go_roundg j
              case measure => omega
              case rel =>
                refine ⟨j, rfl, by omega, rfl, hpn, ?_⟩
                rw [hG]
                have := hSA.sel 8 [6, 7, 1, 2, 3, 4, 5] rfl rfl
                exact (Sat.star.2 this).sel 6 [1, 2, 3, 4, 5, 0] rfl rfl
          · have hSA := hS2b.alloc (.cells #[.bool true, .int .i64 cn, .slice ba cb.length bc] 93)
            have cb0 := hSA.cellAt 0 _ rfl
            have hpn : Past f k j f.waits.length := by
              intro i c h1 h2 h3
              rcases Nat.lt_or_ge j i with h4 | h4
              · exact hpast i c h4 h2 h3
              · obtain rfl : i = j := by omega
                rw [Hpw.out] at h3; cases h3
                exact .inl rfl
            clear hpast
            go_wp2_with fail
            go_roundg j
            case measure => omega
            case rel =>
              refine ⟨j, rfl, by omega, rfl, hpn, ?_⟩
              rw [hG]
              have := hSA.sel 8 [6, 7, 1, 2, 3, 4, 5] rfl rfl
              exact (Sat.star.2 this).sel 6 [1, 2, 3, 4, 5, 0] rfl rfl
end
end Go.Proofs.Ytdhhbajggafdhaa
