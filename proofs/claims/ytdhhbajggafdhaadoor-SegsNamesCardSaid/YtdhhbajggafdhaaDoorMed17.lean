import Derived.Test.YtdhhbajggafdhaaDoorMed16
/- A crash, of a medium. -/
namespace Go.Proofs.YtdhhbajggafdhaaDoor
open Go Go.Sl Go.Med Go.MapKept Go.RowKit
section
variable {w0 w : World} {F : List HProp} {m fb nb b r : Nat} {M : Med} {bs : List Nat} {wv v bv lv : Value} {s : ByteArray} {fs : List Fil} {f : Fil}
theorem lnk_cells (bs : List Nat) (ws : List Lnk) (i : Nat) (p : Lnk) (h : ws[i]? = some p) :
    (ws.flatMap (lnkCells bs))[i * 3]? = some (.string p.fr) ∧ (ws.flatMap (lnkCells bs))[i * 3 + 1]? = some (.string p.to) ∧ (ws.flatMap (lnkCells bs))[i * 3 + 2]? = some (lnkPtr bs p) := by
  induction ws generalizing i with
  | nil => cases h
  | cons q ws ih =>
    cases i with
    | zero => simp at h; subst h; exact ⟨rfl, rfl, rfl⟩
    | succ i =>
      obtain ⟨h1, h2, h3⟩ := ih i (by simpa using h)
      have e : ∀ j, (List.flatMap (lnkCells bs) (q :: ws))[(i + 1) * 3 + j]? = (List.flatMap (lnkCells bs) ws)[i * 3 + j]? := by
        intro j
        rw [List.flatMap_cons, List.getElem?_append_right (by simp [lnkCells]; omega)]
        congr 1
        simp [lnkCells]; omega
      exact ⟨(e 0).trans h1, (e 1).trans h2, (e 2).trans h3⟩
theorem lwaits_cells {ws : List Lnk} {g n cap : Nat} (h : Sat w0 w (osl 115 3 (.slice (some ⟨g, 0, none⟩) n cap) (ws.flatMap (lnkCells bs)) :: F)) {i : Nat} {p : Lnk} (hi : ws[i]? = some p) :
    w.cell? ⟨g, i * 3, none⟩ = some (.string p.fr) ∧ w.cell? ⟨g, i * 3 + 1, none⟩ = some (.string p.to) ∧ w.cell? ⟨g, i * 3 + 2, none⟩ = some (lnkPtr bs p) := by
  obtain ⟨h1, h2, h3⟩ := lnk_cells bs ws i p hi
  rcases h.osl_cases with ⟨he, _⟩ | ⟨b, n', cap', cs, he, hl, hn, hc, hcm, htk, hp⟩
  · cases he
  · cases he
    exact ⟨hp.cellAt _ _ (take_get htk h1), hp.cellAt _ _ (take_get htk h2), hp.cellAt _ _ (take_get htk h3)⟩
theorem crashFiles_snoc (l : List Int) : ∀ (ns : Names) (p : ByteArray × Nat) (j : Nat) (fs : List Fil),
    crashFiles l (ns ++ [p]) j fs = (crashFiles l ns j fs).set p.2 (((crashFiles l ns j fs).getD p.2 Fil.new).crash (num l (j + 2 * ns.length)) (num l (j + 2 * ns.length + 1)))
  | [], p, j, fs => rfl
  | q :: ns, p, j, fs => by
    show crashFiles l (ns ++ [p]) (j + 2) _ = _
    rw [crashFiles_snoc l ns p (j + 2) _]
    have e : j + 2 + 2 * ns.length = j + 2 * (q :: ns).length := by simp; omega
    rw [e]; rfl
theorem lastNames_succ (M : Med) (k : Nat) (x : Lnk) (h : M.waits[k]? = some x) : M.lastNames (k + 1) = x.on (M.lastNames k) := by
  unfold Med.lastNames
  rw [List.take_add_one, h, List.foldl_append]; rfl
set_option maxHeartbeats 8000000 in
theorem crash_c {KK : Nat} (hM : M.Ok KK) (hKK : KK ≤ 1099511627776) (h : Sat w0 w (MedRep m M :: F)) (l : List Int) (hr : Ro w0 F (rdsl 1 lv (ints l))) (hcap : capOk lv) (hi : ∀ x ∈ l, inI x) :
    Calls Tryd.prog 41 #[ptr m, lv] w (Rtn fun _ w' => Sat w0 w' (MedRep m (M.crash l) :: F)) := by
  obtain ⟨bs, fb, nb, wv, hl, hR⟩ := MedRep.open h
  have hO := hR.sel 5 [4] rfl rfl
  obtain ⟨wa, wn, wc, rfl, hwn, _⟩ := id hO.rd
  have hlen : (M.waits.flatMap (lnkCells bs)).length = M.waits.length * 3 := by
    rw [List.length_flatMap]; simp [lnkCells, List.map_const']
  have hwn' : wn = M.waits.length := by omega
  have hcapO : wn ≤ wc ∧ wc ≤ 9223372036854775807 := by
    rcases hO.osl_cases with ⟨he, _⟩ | ⟨b, n', cap', cs, he, _, hn, _, hcm, _, _⟩
    · cases he; omega
    · cases he; exact ⟨hn, hcm⟩
  obtain ⟨hc1, hc2⟩ := hcapO
  obtain ⟨N, hNd⟩ : ∃ N, N = clampN (num l 0) wn := ⟨_, rfl⟩
  have hNle : N ≤ wn := by rw [hNd]; exact clampN_le _ _
  have hN : min (max (num l 0) 0) (wn : Int) = (N : Int) := by rw [hNd]; unfold clampN; omega
  have hbud := hM.budget
  have hNc : (N : Int) ≤ (wc : Int) := by omega
  have hN0 : (0 : Int) ≤ (N : Int) := by omega
  subst hwn'
  obtain ⟨la, ln, lc, rfl, hlc1, hlc2⟩ := id hcap
  have hb : Sat w0 (w.alloc (.cells #[.slice la ln lc] 47)) _ := hR.alloc _
  have c1 := hb.pick1.cellAt 1 _ rfl
  have c2 := hb.pick1.cellAt 2 _ rfl
  have c3 := hb.pick1.cellAt 3 _ rfl
  have hcp := copied_c (hb.sel 6 [4, 0, 1, 2, 3, 5] rfl rfl)
  have HNd := Lib.hid hNd; have HM := Lib.hid hM; have Hr := Lib.hid hr; have Hi := Lib.hid hi; have Hcap := Lib.hid hcap
  clear hlen hwn hNd hM hr hi hcap hO
  go_enter Tryd.func41, Tryd.ntmps41
  go_wp2_with (go_at_call 66; refine hcp.mono ?_; rintro e w1 ⟨v, rfl, b', rfl, hS1⟩)
  clear hcp c1 c2 c3 hb
  generalize w.heap.size = cb at *
  have hS : Sat w0 w1 (pt cb (.cells #[.slice la ln lc] 47 (0,0)) :: omap .string b' (mapL bs M.fast) :: omap .string fb (mapL bs M.fast) :: medPt m M fb nb (.slice wa M.waits.length wc) :: omap .string nb (mapL bs M.now) :: filesRep bs M.files :: osl 115 3 (.slice wa M.waits.length wc) (M.waits.flatMap (lnkCells bs)) :: F) := hS1.sel 7 [2, 0, 1, 3, 4, 5, 6] rfl rfl
  clear hS1
  have d3 := hS.pick3.cellAt 3 _ rfl
  have hnx := next_c (F := omap .string b' (mapL bs M.fast) :: omap .string fb (mapL bs M.fast) :: medPt m M fb nb (.slice wa M.waits.length wc) :: omap .string nb (mapL bs M.now) :: filesRep bs M.files :: osl 115 3 (.slice wa M.waits.length wc) (M.waits.flatMap (lnkCells bs)) :: F) l hS.drew (Hr.out _ hS.drew.drop.drop.drop.drop.drop.drop.drop) Hcap.out
  refine wpL_begin [13, 14] (fun w' => w'.cell? ⟨m, 3, none⟩ = some (.slice wa M.waits.length wc)) (by kernel_rfl) ?_
  have hG := d3
  refine wpL_pure (i := 0) (v := ?_) rfl (by kernel_rfl) (fun _ _ _ h => h) (Or.inl ⟨by rfl, ?_⟩) ?_; rotate_left; focus ((intro wq; go_simp); first | done | (with_reducible rfl))
  refine wpL_pure (i := 1) (v := ?_) rfl (by kernel_rfl) (fun _ _ _ h => h) (Or.inl ⟨by rfl, ?_⟩) ?_; rotate_left; focus ((intro wq; go_simp); first | done | (with_reducible rfl))
  refine wpL_pure (i := 2) (v := ?_) rfl (by kernel_rfl) (fun _ _ _ h => h) (Or.inl ⟨by rfl, ?_⟩) ?_; rotate_left; focus ((intro wq; go_simp); first | done | (with_reducible rfl))
  refine wpL_take (i := 3) (v := ?_) rfl (by kernel_rfl) (fun _ _ _ h => h) (Or.inl ⟨by rfl, ?_⟩) (by assumption) ?_; rotate_left; focus ((intro wq hq; go_split_ands; go_simp); first | done | (with_reducible rfl))
  refine wpL_pure (i := 4) (v := ?_) rfl (by kernel_rfl) (fun _ _ _ h => h) (Or.inl ⟨by rfl, ?_⟩) ?_; rotate_left; focus ((intro wq; go_simp); first | done | (with_reducible rfl))
  refine wpL_pure (i := 7) (v := ?_) rfl (by kernel_rfl) (fun _ _ _ h => h) (Or.inl ⟨by rfl, ?_⟩) ?_; rotate_left; focus ((intro wq; go_simp); first | done | (with_reducible rfl))
  refine wpL_pure (i := 8) (v := ?_) rfl (by kernel_rfl) (fun _ _ _ h => h) (Or.inl ⟨by rfl, ?_⟩) ?_; rotate_left; focus ((intro wq; go_simp); first | done | (with_reducible rfl))
  refine wpL_pure (i := 9) (v := ?_) rfl (by kernel_rfl) (fun _ _ _ h => h) (Or.inl ⟨by rfl, ?_⟩) ?_; rotate_left; focus ((intro wq; go_simp); first | done | (with_reducible rfl))
  refine wpL_take (i := 10) (v := ?_) rfl (by kernel_rfl) (fun _ _ _ h => h) (Or.inl ⟨by rfl, ?_⟩) (by assumption) ?_; rotate_left; focus ((intro wq hq; go_split_ands; go_simp); first | done | (with_reducible rfl))
  refine wpL_pure (i := 11) (v := ?_) rfl (by kernel_rfl) (fun _ _ _ h => h) (Or.inl ⟨by rfl, ?_⟩) ?_; rotate_left; focus ((intro wq; go_simp); first | done | (with_reducible rfl))
  refine wpL_pure (i := 15) (v := ?_) rfl (by kernel_rfl) (fun _ _ _ h => h) (Or.inl ⟨by rfl, ?_⟩) ?_; rotate_left; focus ((intro wq; go_simp); first | done | (with_reducible rfl))
  refine wpL_eff (i := 5) rfl (by kernel_rfl) (fun K hK => ?_)
  go_simp
  refine hnx.mono ?_
  clear hnx
  rintro e w2 ⟨v, rfl, rfl, hS2⟩
  refine hK _ _ (.inr (.inl (hS2.pick3.cellAt 3 _ rfl))) ?_
  clear hK
  refine wpL_pure (i := 6) (v := ?_) rfl (by kernel_rfl) (fun _ _ _ h => h) (Or.inl ⟨by rfl, ?_⟩) ?_; rotate_left; focus ((intro wq; go_simp); first | done | (with_reducible rfl))
  refine wpL_pure (i := 12) (v := ?_) rfl (by kernel_rfl) (fun _ _ _ h => h) (Or.inl ⟨by rfl, ?_⟩) ?_; rotate_left; focus ((intro wq; go_simp); first | done | (with_reducible rfl))
  refine wpL_pure (i := 13) (v := ?_) rfl (by kernel_rfl) (fun _ _ _ h => h) (Or.inl ⟨by rfl, ?_⟩) ?_; rotate_left; focus ((intro wq; go_simp); first | done | (with_reducible rfl))
  refine wpL_pure (i := 14) (v := ?_) rfl (by kernel_rfl) (fun _ _ _ h => h) (Or.inl ⟨by rfl, ?_⟩) ?_; rotate_left; focus ((intro wq; go_simp); first | done | (with_reducible rfl))
  refine wpL_done (by kernel_rfl) ?_
  clear hG d3 hS
  go_wp2
  simp only [List.getElem_toArray, List.getElem_cons_succ, List.getElem_cons_zero]
  go_frame
  go_loopg [41] N (fun g iq wr => ∃ k : Nat, g = N - k ∧ k ≤ N ∧ iq = .int .i64 k ∧
    Sat w0 wr (omap .string b' (mapL bs (M.lastNames k)) :: pt cb (.cells #[nxs (.slice la ln lc)] 47 (0,0)) :: omap .string fb (mapL bs M.fast) :: medPt m M fb nb (.slice wa M.waits.length wc) :: omap .string nb (mapL bs M.now) :: filesRep bs M.files :: osl 115 3 (.slice wa M.waits.length wc) (M.waits.flatMap (lnkCells bs)) :: F))
  case atStart => exact ⟨0, rfl, Nat.zero_le _, rfl, hS2.sel 2 [1, 0] rfl rfl⟩
  case round =>
    obtain ⟨k, rfl, hkN, rfl, hS⟩ := hrel
    by_cases hk : k < N
    · obtain ⟨p, hp⟩ : ∃ p, M.waits[k]? = some p := ⟨M.waits[k]'(by omega), List.getElem?_eq_getElem _⟩
      have hsucc := lastNames_succ M k p hp
      have hO := hS.sel 7 [6] rfl rfl
      have hshape : ∃ g, wa = some ⟨g, 0, none⟩ := by
        rcases (Sat.osl_cases hO) with ⟨he, hx, _⟩ | ⟨g, n', cap', cs, he, _⟩
        · have := (Value.slice.inj he).2.1; omega
        · exact ⟨g, (Value.slice.inj he).1⟩
      obtain ⟨g, rfl⟩ := hshape
      obtain ⟨w0', w1', w2'⟩ := lwaits_cells hO hp
      have hb : Sat w0 (wr.alloc (.cells #[.string p.fr, .string p.to, lnkPtr bs p] 115)) _ := hS.alloc _
      have e0 := hb.cellAt 0 _ rfl
      have e1 := hb.cellAt 1 _ rfl
      have e2 := hb.cellAt 2 _ rfl
      have hon := on_c p hb.drop
      obtain ⟨fr, to, pf⟩ := p
      obtain ⟨q, hpv⟩ : ∃ q, lnkPtr bs ⟨fr, to, pf⟩ = .pointer q := by unfold lnkPtr; split <;> exact ⟨_, rfl⟩
      rw [hpv] at w2' hon e2
      have Hsucc := Lib.hid hsucc
      clear hsucc hp hpv hO
      have hkc : (k : Int) < (N : Int) := by omega
      simp only at w0' w1' e0 e1 hon
      go_wp2_with (go_at_call 67; go_must (refine hon.mono ?_); rintro e w2 ⟨v2, rfl, hS3⟩)
      go_roundg (N - (k + 1))
      case measure => omega
      case rel =>
        refine ⟨k + 1, rfl, by omega, by go_num, ?_⟩
        rw [Hsucc.out]
        exact hS3
    · obtain rfl : k = N := by omega
      have hns := HM.out.names k (by omega)
      have hcr : M.crash l = { M with fast := M.lastNames k, now := M.lastNames k, waits := [], files := crashFiles l (M.lastNames k) 1 M.files, off := false, armed := false, left := 0 } := by
        unfold Med.crash; rw [← HNd.out]
      have Hcr := Lib.hid hcr; clear hcr HNd
      have hkc : ¬ (k : Int) < (k : Int) := by omega
      have hlen5 := hns.len
      generalize hL : M.lastNames k = ns at *
      clear hL
      have hS' : Sat w0 wr (omap .string b' (mapL bs ns) :: pt cb (.cells #[nxs (.slice la ln lc)] 47 (0,0)) :: medPt m M fb nb (.slice wa M.waits.length wc) :: filesRep bs M.files :: F) := hS.sel 7 [0, 1, 3, 5] rfl rfl
      clear hS
      have hnm := names_c hS' hns.srt (by omega)
      have Hns := Lib.hid hns; clear hns
      go_wp2_with (go_at_call 56; refine hnm.mono ?_; rintro e w3 ⟨v, rfl, hS3, a3, n3, c3, rfl⟩)
      clear hnm hS'
      have hn3 : n3 = ns.length := by
        obtain ⟨a, n, c, he, hln, _⟩ := hS3.rd
        cases he
        unfold strs at hln; simp at hln; omega
      subst hn3
      have hc3 : ns.length ≤ c3 ∧ c3 ≤ 9223372036854775807 := by
        rcases hS3.osl_cases with ⟨he, _⟩ | ⟨b, n', cap', cs, he, _, hn, _, hcm, _, _⟩
        · have h1 := (Value.slice.inj he).2; omega
        · have h1 := (Value.slice.inj he).2; obtain ⟨h1, rfl⟩ := h1; subst h1; exact ⟨hn, hcm⟩
      obtain ⟨hc31, hc32⟩ := hc3
      try go_frame
      go_loopg [52] ns.length (fun g iq wr => ∃ i : Nat, g = ns.length - i ∧ i ≤ ns.length ∧ iq = .int .i64 i ∧
        Sat w0 wr (pt cb (.cells #[nxv (.slice la ln lc) (1 + 2 * i)] 47 (0,0)) :: omap .string b' (mapL bs ns) :: osl 9 1 (.slice a3 ns.length c3) (strs (ns.map (·.1))) :: medPt m M fb nb (.slice wa M.waits.length wc) :: filesRep bs (crashFiles l (ns.take i) 1 M.files) :: F))
      case atStart => exact ⟨0, rfl, Nat.zero_le _, rfl, hS3.sel 4 [2, 1, 0, 3] rfl rfl⟩
      case round =>
        obtain ⟨i, rfl, hiN, rfl, hS⟩ := hrel
        by_cases hilt : i < ns.length
        · obtain ⟨p, hp⟩ : ∃ p, ns[i]? = some p := ⟨ns[i]'(by omega), List.getElem?_eq_getElem _⟩
          have hpm : p ∈ ns := List.mem_of_getElem? hp
          have hpid := Hns.out.ids p hpm
          have htk : ns.take (i + 1) = ns.take i ++ [p] := by rw [List.take_add_one, hp]; rfl
          have hcf : crashFiles l (ns.take (i + 1)) 1 M.files = (crashFiles l (ns.take i) 1 M.files).set p.2 (((crashFiles l (ns.take i) 1 M.files).getD p.2 Fil.new).crash (num l (1 + 2 * i)) (num l (1 + 2 * i + 1))) := by
            rw [htk, crashFiles_snoc, List.length_take, Nat.min_eq_left (by omega)]
          have hst : (strs (ns.map (·.1)))[i]? = some (.string p.1) := by unfold strs; simp [hp]
          have hshape : ∃ g, a3 = some ⟨g, 0, none⟩ ∧ wr.cell? ⟨g, i, none⟩ = some (.string p.1) := by
            rcases Sat.osl_cases hS.pick2 with ⟨he, hx, _⟩ | ⟨g, n', cap', cs, he, hx1, hx2, hx3, hx4, hx5, hx6⟩
            · have := (Value.slice.inj he).2.1; omega
            · refine ⟨g, (Value.slice.inj he).1, hx6.cellAt _ _ (take_get hx5 hst)⟩
          obtain ⟨g, rfl, hcell⟩ := hshape
          have hR0 := Hr.out _ hS.drop.drop.drop.drop.drop
          have hnx := next_c (l.drop (1 + 2 * i)) hS (rdsl_nxv hR0 Hcap.out _) (Hcap.out.nxv _)
          rw [num_drop] at hnx
          have hlenf : bs.length = (crashFiles l (ns.take i) 1 M.files).length := by rw [crashFiles_len]; exact hl
          have hokf := crashFiles_ok l _ (ns.take i) 1 M.files HM.out.files
          have hff : Fil.Ok KK ((crashFiles l (ns.take i) 1 M.files).getD p.2 Fil.new) := by
            rw [List.getD_eq_getElem?_getD, List.getElem?_eq_getElem (by rw [crashFiles_len]; exact hpid)]
            exact hokf _ (List.getElem_mem _)
          obtain ⟨G, hG1, hG2⟩ := files_take bs (crashFiles l (ns.take i) 1 M.files) p.2 hlenf (by rw [crashFiles_len]; exact hpid)
          have hfp : fptr bs ns p.1 = ptr (bs.getD p.2 0) := by
            unfold fptr; rw [nget_of_mem Hns.out.srt.keys (show (p.1, p.2) ∈ ns from hpm)]
          have hin1 := num_in Hi.out (1 + 2 * i)
          have hin2 := num_in Hi.out (1 + 2 * i + 1)
          obtain ⟨nm, id⟩ := p
          simp only at hcell hfp hG1 hG2 hff hcf
          generalize bs.getD id 0 = q at *
          have Hcf := Lib.hid hcf; have HG2 := Lib.hid hG2; have Hff := Lib.hid hff; have Hhp := Lib.hid hp; have HG1 := Lib.hid hG1; have Hin1 := Lib.hid hin1; have Hin2 := Lib.hid hin2; have Hfp := Lib.hid hfp; have HS := Lib.hid hS
          clear hcf hG2 hff hp hpm hpid htk hst hokf hlenf hG1 hin1 hin2 hfp hS hR0
          have hic : (i : Int) < (ns.length : Int) := by omega
          go_wp2_with (go_at_call 65; refine hnx.mono ?_; rintro e w4 ⟨v, rfl, rfl, hS4⟩)
          clear hnx
          have hS5 : Sat w0 w4 (pt cb (.cells #[nxv (.slice la ln lc) (1 + 2 * i + 1)] 47 (0,0)) :: omap .string b' (mapL bs ns) :: osl 9 1 (.slice (some ⟨g, 0, none⟩) ns.length c3) (strs (ns.map (·.1))) :: medPt m M fb nb (.slice wa M.waits.length wc) :: filesRep bs (crashFiles l (ns.take i) 1 M.files) :: F) := hS4
          clear hS4
          have hlk := look_names (s := nm) hS5.pick1.drew
          rw [Hfp.out] at hlk
          have hnx2 := next_c (l.drop (1 + 2 * i + 1)) hS5.drew (rdsl_nxv (Hr.out _ hS5.drew.drop.drop.drop.drop.drop) Hcap.out _) (Hcap.out.nxv _)
          rw [num_drop] at hnx2
          refine wpL_begin [6] (fun w' => (Instr.lookup 91 (.map (some b')) (.string nm) false).run Tryd.prog w' = .ok (ptr q) w') (by kernel_rfl) ?_
          have hG := hlk
          refine wpL_pure (i := 0) (v := ?_) rfl (by kernel_rfl) (fun _ _ _ h => h) (Or.inl ⟨by rfl, ?_⟩) ?_; rotate_left; focus ((intro wq; go_simp); first | done | (with_reducible rfl))
          refine wpL_pure (i := 1) (v := ?_) rfl (by kernel_rfl) (fun _ _ _ h => h) (Or.inl ⟨by rfl, ?_⟩) ?_; rotate_left; focus ((intro wq; go_simp); first | done | (with_reducible rfl))
          refine wpL_take (i := 2) (v := ?_) rfl (by kernel_rfl) (fun _ _ _ h => h) (Or.inl ⟨by rfl, ?_⟩) (by assumption) ?_; rotate_left; focus ((intro wq hq; go_split_ands; go_simp); first | done | (with_reducible rfl))
          refine wpL_pure (i := 3) (v := ?_) rfl (by kernel_rfl) (fun _ _ _ h => h) (Or.inl ⟨by rfl, ?_⟩) ?_; rotate_left; focus ((intro wq; go_simp); first | done | (with_reducible rfl))
          refine wpL_pure (i := 4) (v := ?_) rfl (by kernel_rfl) (fun _ _ _ h => h) (Or.inl ⟨by rfl, ?_⟩) ?_; rotate_left; focus ((intro wq; go_simp); first | done | (with_reducible rfl))
          clear hlk hG
          refine wpL_eff (i := 5) rfl (by kernel_rfl) (fun K hK => ?_)
          go_simp
          refine hnx2.mono ?_
          clear hnx2
          rintro e w5 ⟨v, rfl, rfl, hS6⟩
          have hlk2 := look_names (s := nm) hS6.pick1
          rw [Hfp.out] at hlk2
          refine hK _ _ (.inr (.inl hlk2)) ?_
          clear hK hlk2
          have hS7 := hS6.sel 5 [4, 0, 1, 2, 3] rfl rfl
          have hS8 : Sat w0 w5 (filesRep bs (crashFiles l (ns.take i) 1 M.files) :: _) := hS7
          rw [HG1.out] at hS8
          have hcr := crashF_c Hff.out hKK (Sat.star.1 hS8) (num l (1 + 2 * i)) (num l (1 + 2 * i + 1)) Hin1.out Hin2.out
          clear hS8 hS7 hS6
          refine wpL_eff (i := 6) rfl (by kernel_rfl) (fun K hK => ?_)
          go_simp
          refine hcr.mono ?_
          clear hcr
          rintro e w6 ⟨v, rfl, hS9⟩
          refine hK _ _ (.inl rfl) ?_
          clear hK
          refine wpL_done (by kernel_rfl) ?_
          go_wp2
          go_roundg (ns.length - (i + 1))
          case measure => omega
          case rel =>
            refine ⟨i + 1, rfl, by omega, by go_num, ?_⟩
            rw [Hcf.out]
            have h9 := Sat.star.2 hS9
            rw [← HG2.out] at h9
            exact h9.sel 5 [1, 2, 3, 4, 0] rfl rfl
        · obtain rfl : i = ns.length := by omega
          have hic : ¬ (ns.length : Int) < (ns.length : Int) := by omega
          rw [List.take_length] at hS
          have hcp2 := copied_c (hS.sel 5 [1, 0, 2, 3, 4] rfl rfl)
          go_wp2_with (go_at_call 66; refine hcp2.mono ?_; rintro e w4 ⟨v, rfl, b2, rfl, hS4⟩; have hS5 := hS4.pick4; have g1 := hS5.freeAt 1; have g2 := hS5.freeAt 2; have g3 := hS5.freeAt 3; have g4 := hS5.freeAt 4; have g5 := hS5.freeAt 5; have g6 := hS5.freeAt 6; have d1 := hS5.cellAt 1 _ rfl; have d2 := hS5.cellAt 2 _ rfl; have d3 := hS5.cellAt 3 _ rfl; have d4 := hS5.cellAt 4 _ rfl; have d5 := hS5.cellAt 5 _ rfl; have d6 := hS5.cellAt 6 _ rfl)
          go_end0
          refine ⟨_, rfl, ?_⟩
          rw [Hcr.out]
          refine MedRep.shut (bs := bs) (fb := b2) (nb := b') (wv := .slice none 0 0) (by simp [crashFiles_len]; exact hl) ?_
          have h5 := ((((((Sat.set hS5 2 (.map (some b'))).set 1 (.map (some b2))).set 3 (.slice none 0 0)).set 6 (.bool false)).set 4 (.bool false)).set 5 (.int .i64 0))
          have h6 := Sat.osl_nil (T := 115) (sz := 3).2 h5
          exact h6.sel 7 [1, 3, 6, 2, 0] rfl rfl
end
end Go.Proofs.YtdhhbajggafdhaaDoor
