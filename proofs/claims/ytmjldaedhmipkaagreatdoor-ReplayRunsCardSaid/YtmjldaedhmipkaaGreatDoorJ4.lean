import Derived.Test.YtmjldaedhmipkaaGreatDoorJ3
set_option linter.unusedVariables false
namespace Go.Med
def Med.which (D : Med) (s : ByteArray) : Int := match nget D.now s with
  | none => -1
  | some i => (i : Int)
end Go.Med
namespace Go.Proofs.YtmjldaedhmipkaaGreatDoor
open Go Go.Sl Go.Med Go.MapKept Go.RowKit
def nmL (p : ByteArray × Nat) : List Value := [.string p.1, .int .i64 p.2]
def nmsL (l : Names) : List Value := l.flatMap nmL
theorem nmsL_len (l : Names) : (nmsL l).length = 2 * l.length := by
  unfold nmsL
  induction l with
  | nil => rfl
  | cons x l ih => rw [List.flatMap_cons, List.length_append, ih, List.length_cons]; show 2 + 2 * l.length = _; omega
theorem nmsL_app (l k : Names) : nmsL (l ++ k) = nmsL l ++ nmsL k := by unfold nmsL; rw [List.flatMap_append]
theorem nmsL_at {l : Names} {i : Nat} {p : ByteArray × Nat} (h : l[i]? = some p) : (nmsL l)[i * 2]? = some (.string p.1) ∧ (nmsL l)[i * 2 + 1]? = some (.int .i64 p.2) := by
  induction l generalizing i with
  | nil => simp at h
  | cons a l ih =>
    cases i with
    | zero =>
      obtain rfl : a = p := by simpa using h
      exact ⟨rfl, rfl⟩
    | succ i =>
      have e1 : nmsL (a :: l) = .string a.1 :: .int .i64 a.2 :: nmsL l := rfl
      have h' : l[i]? = some p := by simpa using h
      rw [e1, show (i + 1) * 2 = i * 2 + 1 + 1 by omega]
      exact ih h'
abbrev Bag := List (Value × Names)
def bagR (g : Bag) : HProp := stars (g.map fun p => osl 175 2 p.1 (nmsL p.2))
structure RF where
  f : Fil
  fv : Value
  nv : Value
  wv : Value
  ws : List (Chg × Value)
def rfL (x : RF) : List Value := [x.fv, x.nv, x.wv]
def rfsL (xs : List RF) : List Value := xs.flatMap rfL
def rfR (x : RF) : HProp := stars [bsl x.fv x.f.fast, bsl x.nv x.f.now, osl 155 3 x.wv (x.ws.flatMap chgCells), chgs x.ws]
def rlkL (x : Lnk) : List Value := [.string x.fr, .string x.to, .int .i64 x.f]
abbrev dskPt (d : Nat) (D : Med) (fsv fv nv wv : Value) : HProp :=
  pt d (.cells #[.int .i64 D.room, fsv, fv, nv, wv, .bool D.armed, .int .i64 D.left, .bool D.off] 136 (0,0))
def DskRaw (d : Nat) (D : Med) (fsv fv nv wv : Value) (xs : List RF) (g : Bag) : List HProp :=
  [dskPt d D fsv fv nv wv, osl 164 3 fsv (rfsL xs), stars (xs.map rfR), bagR g, osl 243 3 wv (D.waits.flatMap rlkL)]
structure DskIn (D : Med) (fv nv : Value) (xs : List RF) (g : Bag) : Prop where
  files : xs.map (·.f) = D.files
  ok : ∀ x ∈ xs, x.ws.map (·.1) = x.f.waits
  fast : (fv, D.fast) ∈ g
  now : (nv, D.now) ∈ g
def DskRep (d : Nat) (D : Med) : HProp := fun h => ∃ fsv fv nv wv xs g, DskIn D fv nv xs g ∧ stars (DskRaw d D fsv fv nv wv xs g) h
section
variable {w0 w : World} {b o : Nat} {ops : Array Oper} {rest : List Oper} {a : Act} {Q : Exit → Act → World → Prop} {dst : Option Tmp} {t ty : TypeId} {pos : String} {after : Array Edge} {x : Operand} {P : Program}
theorem wl_loadN' (ks : List Value) (hx : a.eval x = .pointer (some ⟨b, o, none⟩)) (hc : ∀ j v, ks[j]? = some v → w.cell? ⟨b, o + j, none⟩ = some v)
    {d : TypeDesc} (hu : P.underlying ty = some d) (hd : d.isRow = true) (hi : (P.info? ty).map (·.size) = some ks.length)
    (h : wpList P ops Q rest (a.put dst (.agg ks.toArray)) w) : wpList P ops Q (⟨dst, .load ty x, t, pos, after, none⟩ :: rest) a w :=
  wpList_load_mid rfl ty x rfl b o hx ks d hc hu hd hi h
end
theorem rfsL_len (xs : List RF) : (rfsL xs).length = 3 * xs.length := by
  unfold rfsL
  induction xs with
  | nil => rfl
  | cons x l ih => rw [List.flatMap_cons, List.length_append, ih, List.length_cons]; show 3 + 3 * l.length = _; omega
theorem rfsL_at {xs : List RF} {i : Nat} {x : RF} (h : xs[i]? = some x) : (rfsL xs)[i * 3]? = some x.fv ∧ (rfsL xs)[i * 3 + 1]? = some x.nv ∧ (rfsL xs)[i * 3 + 2]? = some x.wv := by
  induction xs generalizing i with
  | nil => simp at h
  | cons a l ih =>
    cases i with
    | zero =>
      obtain rfl : a = x := by simpa using h
      exact ⟨rfl, rfl, rfl⟩
    | succ i =>
      have e1 : rfsL (a :: l) = a.fv :: a.nv :: a.wv :: rfsL l := rfl
      have h' : l[i]? = some x := by simpa using h
      rw [e1, show (i + 1) * 3 = i * 3 + 1 + 1 + 1 by omega]
      exact ih h'
section
variable {w0 w : World} {F R : List HProp} {d : Nat} {D : Med} {fsv fv nv wv v : Value} {xs : List RF} {g : Bag} {K : Nat}
theorem DskRep.open (h : Sat w0 w (DskRep d D :: F)) : ∃ fsv fv nv wv xs g, DskIn D fv nv xs g ∧ Sat w0 w (dskPt d D fsv fv nv wv :: osl 164 3 fsv (rfsL xs) :: stars (xs.map rfR) :: bagR g :: osl 243 3 wv (D.waits.flatMap rlkL) :: F) := by
  obtain ⟨ha, x, hx, p, q, dd, rfl, ⟨fsv, fv, nv, wv, xs, g, hin, hp⟩, hq⟩ := h
  refine ⟨fsv, fv, nv, wv, xs, g, hin, ha, _, hx, ?_⟩
  show stars (DskRaw d D fsv fv nv wv xs g ++ F) _
  rw [stars_append]
  exact ⟨p, q, dd, rfl, hp, hq⟩
theorem DskRep.shut (hin : DskIn D fv nv xs g) (h : Sat w0 w (dskPt d D fsv fv nv wv :: osl 164 3 fsv (rfsL xs) :: stars (xs.map rfR) :: bagR g :: osl 243 3 wv (D.waits.flatMap rlkL) :: F)) : Sat w0 w (DskRep d D :: F) :=
  Sat.join (M := DskRaw d D fsv fv nv wv xs g) h fun _ hx => ⟨fsv, fv, nv, wv, xs, g, hin, hx⟩
theorem stars_mem : ∀ (l : List HProp) (A : HProp), A ∈ l → ∃ G, stars l = star A G
  | B :: l, A, h => by
    rcases List.mem_cons.1 h with rfl | h
    · exact ⟨_, rfl⟩
    · obtain ⟨G, hG⟩ := stars_mem l A h
      refine ⟨star B G, ?_⟩
      show star B (stars l) = _
      rw [hG, star_left_comm]
theorem bag_ro {l : Names} (h : (v, l) ∈ g) : Ro w0 (bagR g :: R) (rdsl 2 v (nmsL l)) := fun w hw => by
  obtain ⟨G, hG⟩ := stars_mem _ _ (List.mem_map.2 ⟨(v, l), h, rfl⟩ : osl 175 2 v (nmsL l) ∈ g.map fun p => osl 175 2 p.1 (nmsL p.2))
  unfold bagR at hw
  rw [hG] at hw
  exact Sat.rd (Sat.star.1 hw)
theorem bag_add {l : Names} (h : Sat w0 w (osl 175 2 v (nmsL l) :: bagR g :: R)) : Sat w0 w (bagR ((v, l) :: g) :: R) := Sat.star.2 h
theorem file_ro {x : RF} (h : x ∈ xs) : Ro w0 (stars (xs.map rfR) :: R) (rdsl 1 x.nv (bys x.f.now)) ∧ Ro w0 (stars (xs.map rfR) :: R) (rdsl 1 x.fv (bys x.f.fast)) := by
  obtain ⟨G, hG⟩ := stars_mem _ _ (List.mem_map.2 ⟨x, h, rfl⟩ : rfR x ∈ xs.map rfR)
  refine ⟨fun w hw => ?_, fun w hw => ?_⟩
  · rw [hG] at hw
    have h2 := Sat.star.1 hw
    unfold rfR at h2
    have h3 := Sat.star.1 h2
    exact Sat.rd (Sat.star.1 (h3.pick pick1))
  · rw [hG] at hw
    have h2 := Sat.star.1 hw
    unfold rfR at h2
    exact Sat.rd (Sat.star.1 h2)
theorem DskIn.file (h : DskIn D fv nv xs g) {i : Nat} (hi : i < D.files.length) : ∃ x, xs[i]? = some x ∧ x.f = D.file i := by
  have hl : xs.length = D.files.length := by rw [← h.files, List.length_map]
  refine ⟨xs[i]'(by omega), List.getElem?_eq_getElem _, ?_⟩
  unfold Med.file
  rw [List.getD_eq_getElem?_getD, ← h.files, List.getElem?_map, List.getElem?_eq_getElem (by omega)]
  rfl
theorem nms_sl {l : Names} (h : rdsl 2 v (nmsL l) w) : ∃ a c, v = .slice a l.length c := by
  obtain ⟨a, n, c, rfl, hl, hx⟩ := h
  rw [nmsL_len] at hl
  obtain rfl : n = l.length := by omega
  exact ⟨a, c, rfl⟩
theorem nms_cells {l : Names} {i : Nat} {p : ByteArray × Nat} (h : rdsl 2 v (nmsL l) w) (hi : l[i]? = some p) :
    ∃ bk off c, v = .slice (some ⟨bk, off, none⟩) l.length c ∧ w.cell? ⟨bk, off + i * 2, none⟩ = some (.string p.1) ∧ w.cell? ⟨bk, off + i * 2 + 1, none⟩ = some (.int .i64 p.2) := by
  obtain ⟨a, c, rfl⟩ := nms_sl h
  obtain ⟨h0, h1⟩ := nmsL_at hi
  obtain ⟨bk, off, rfl, hc⟩ := rdsl_cells h h0
  exact ⟨bk, off, c, rfl, hc _ _ h0, by rw [Nat.add_assoc]; exact hc _ _ h1⟩
set_option maxHeartbeats 2000000 in
theorem rnames_c (h : Sat w0 w (dskPt d D fsv fv nv wv :: F)) : Calls Tryz.prog 119 #[ptr d] w (Rtn fun v w' => v = nv ∧ w = w') := by
  have e3 : w.cell? ⟨d, 3, none⟩ = some nv := h.cellAt 3 _ rfl
  go_enter Tryz.func119, Tryz.ntmps119
  go_wp2
  go_ret
  exact ⟨_, rfl, rfl, rfl⟩
set_option maxRecDepth 20000 in
set_option maxHeartbeats 4000000 in
theorem rfind_c (s : ByteArray) (hl : D.now.length ≤ 1048576) (h : Sat w0 w (DskRep d D :: F)) : Calls Tryz.prog 84 #[ptr d, .string s] w (Rtn fun v w' => v = .int .i64 (D.which s) ∧ w = w') := by
  obtain ⟨fsv, fv, nv, wv, xs, g, hin, hR⟩ := DskRep.open h
  have hrd := (bag_ro (w0 := w0) hin.now) w (hR.pick pick3)
  have hn := rnames_c hR
  have Hw := Lib.hid (show D.which s = match nget D.now s with | none => -1 | some i => (i : Int) from rfl)
  clear hin hR
  generalize D.now = l at *
  obtain ⟨la, lc, rfl⟩ := nms_sl hrd
  go_enter Tryz.func84, Tryz.ntmps84
  go_wp2_with fail
  refine hn.mono ?_
  rintro ee w1 ⟨v, rfl, rfl, rfl⟩
  clear hn
  go_wp2_with fail
  go_loopg [6] l.length (fun g iq wr => ∃ i : Nat, g = l.length - i ∧ i ≤ l.length ∧ iq = .int .i64 i ∧ nget l s = nget (l.drop i) s ∧ wr = w)
  case atStart => exact ⟨0, rfl, Nat.zero_le _, rfl, rfl, rfl⟩
  case round =>
    obtain ⟨i, rfl, hi, rfl, hg, rfl⟩ := hrel
    by_cases hlt : i < l.length
    · have c1 : (i : Int) < (l.length : Int) := by omega
      have hwi : IntKind.i64.wrap ((i : Int) + 1) = (i : Int) + 1 := IntWalk.i64_in _ (by omega)
      obtain ⟨p, hp⟩ : ∃ p, l[i]? = some p := ⟨_, List.getElem?_eq_getElem hlt⟩
      obtain ⟨bk, off, c, hee, e0, e1⟩ := nms_cells hrd hp
      cases hee
      have hdr : l.drop i = p :: l.drop (i + 1) := by
        obtain ⟨h1, h2⟩ := List.getElem?_eq_some_iff.1 hp
        rw [← h2]; exact List.drop_eq_getElem_cons h1
      have Hlt := Lib.hid hlt
      rw [hdr] at hg
      unfold nget at hg
      rw [List.find?_cons] at hg
      have Hg := Lib.hid hg
      clear hlt hp hdr hg
      obtain ⟨ps, pi⟩ := p
      dsimp only at Hg e0 e1
      by_cases hs : ps = s
      · subst hs
        have hb : (ps.toList == ps.toList) = true := beq_self_eq_true _
        have hgb : (ps == ps) = true := by rw [beq_ba]; exact decide_eq_true rfl
        have hfin := Hg.out
        rw [hgb] at hfin
        have Hfin := Lib.hid (show nget l ps = some pi from hfin)
        clear hfin Hg hgb
        go_wp2
        go_ret
        exact ⟨_, rfl, by rw [Hw.out, Hfin.out]; rfl, rfl⟩
      · have hb : (ps.toList == s.toList) = false := by
          rw [beq_eq_false_iff_ne]
          intro e
          apply hs
          rw [ByteArray.toList_eq, ByteArray.toList_eq] at e
          obtain ⟨⟨x⟩⟩ := ps; obtain ⟨⟨y⟩⟩ := s
          simp at e; subst e; rfl
        have hgb : (ps == s) = false := by rw [beq_ba]; exact decide_eq_false hs
        have hfin := Hg.out
        rw [hgb] at hfin
        have Hfin := Lib.hid (show nget l s = nget (l.drop (i + 1)) s from hfin)
        clear hfin Hg hgb hs
        go_wp2
        go_roundg (l.length - (i + 1))
        case measure => have := Hlt.out; omega
        case rel => exact ⟨i + 1, rfl, Nat.succ_le_of_lt Hlt.out, by first | rfl | go_num, Hfin.out, rfl⟩
    · obtain rfl : i = l.length := by omega
      have c1 : ¬ (l.length : Int) < (l.length : Int) := by omega
      rw [List.drop_length] at hg
      have Hg := Lib.hid hg
      clear hlt hg
      go_wp2
      go_ret
      exact ⟨_, rfl, by rw [Hw.out, Hg.out]; rfl, rfl⟩
end
section
variable {w0 w : World} {F R : List HProp} {d : Nat} {D : Med} {fsv fv nv wv v lv : Value} {xs : List RF} {g : Bag} {K : Nat}
theorem ba_eq {a b : ByteArray} (h : a ≠ b) : (a.toList == b.toList) = false := by
  rw [beq_eq_false_iff_ne]
  intro e
  apply h
  rw [ByteArray.toList_eq, ByteArray.toList_eq] at e
  obtain ⟨⟨x⟩⟩ := a; obtain ⟨⟨y⟩⟩ := b
  simp at e; subst e; rfl
theorem nm_pair {l : Names} {i : Nat} {p : ByteArray × Nat} (h : rdsl 2 v (nmsL l) w) (hi : l[i]? = some p) :
    ∃ bk off c, v = .slice (some ⟨bk, off, none⟩) l.length c ∧ ∀ j y, (nmL p)[j]? = some y → w.cell? ⟨bk, off + i * 2 + j, none⟩ = some y := by
  obtain ⟨bk, off, c, e, h0, h1⟩ := nms_cells h hi
  refine ⟨bk, off, c, e, fun j y hj => ?_⟩
  rcases j with _ | _ | j
  · cases hj; exact h0
  · cases hj; exact h1
  · simp [nmL] at hj
theorem infoNm : (Tryz.prog.info? 175).map (·.size) = some 2 := by kernel_rfl
theorem ndel_snoc (l : Names) (p : ByteArray × Nat) (s : ByteArray) : ndel (l ++ [p]) s = ndel l s ++ (if (p.1 != s) = true then [p] else []) := by
  unfold ndel
  rw [List.filter_append]
  congr 1
  simp only [List.filter_cons, List.filter_nil]
set_option maxRecDepth 20000 in
set_option maxHeartbeats 8000000 in
theorem rwithout_c (l : Names) (s : ByteArray) (hl : l.length ≤ 1048576) (hr : Ro w0 F (rdsl 2 lv (nmsL l))) (h : Sat w0 w F) :
    Calls Tryz.prog 165 #[lv, .string s] w (Rtn fun v w' => ∃ ov, v = ov ∧ Sat w0 w' (osl 175 2 ov (nmsL (ndel l s)) :: F)) := by
  obtain ⟨la, lc, rfl⟩ := nms_sl (hr w h)
  have Hr := Lib.hid hr; have Hl := Lib.hid hl
  clear hr hl
  go_enter Tryz.func165, Tryz.ntmps165
  go_wp2_with fail
  go_loopg [5, 6] l.length (fun g ov iq wr => ∃ i : Nat, g = l.length - i ∧ i ≤ l.length ∧ iq = .int .i64 i ∧ Sat w0 wr (osl 175 2 ov (nmsL (ndel (l.take i) s)) :: F))
  case atStart => exact ⟨0, rfl, Nat.zero_le _, rfl, Sat.osl_nil.2 h⟩
  case round =>
    obtain ⟨i, rfl, hi, rfl, hS⟩ := hrel
    clear h
    by_cases hlt : i < l.length
    · have Hlt := Lib.hid hlt
      have hl := Hl.out
      have c1 : (i : Int) < (l.length : Int) := by omega
      have hwi : IntKind.i64.wrap ((i : Int) + 1) = (i : Int) + 1 := IntWalk.i64_in _ (by omega)
      obtain ⟨p, hp⟩ : ∃ p, l[i]? = some p := ⟨_, List.getElem?_eq_getElem hlt⟩
      obtain ⟨bk, off, c, hee, hcells⟩ := nm_pair (Hr.out _ hS.drop) hp
      cases hee
      have e0 : wr.cell? ⟨bk, off + i * 2, none⟩ = some (.string p.1) := hcells 0 _ rfl
      have Hcells := Lib.hid hcells
      have Hnext := Lib.hid (show ndel (l.take (i + 1)) s = ndel (l.take i) s ++ (if (p.1 != s) = true then [p] else []) by
        rw [List.take_add_one, hp]; exact ndel_snoc _ _ _)
      have hlen : (nmsL (ndel (l.take i) s)).length ≤ 2147483648 := by
        rw [nmsL_len]
        have h1 := ndel_len (l.take i) s
        rw [List.length_take] at h1
        omega
      clear hlt hp hcells hl
      obtain ⟨ps, pi⟩ := p
      dsimp only at e0 Hnext
      by_cases hs : ps = s
      · subst hs
        have hb : (ps.toList == ps.toList) = true := beq_self_eq_true _
        have hbn : (ps.toList != ps.toList) = false := by rw [bne, hb]; rfl
        have hn2 := Hnext.out
        rw [if_neg (by simp [bne, beq_ba]), List.append_nil] at hn2
        have Hn2 := Lib.hid hn2
        clear hn2 Hnext
        go_wp2_with fail
        go_roundg (l.length - (i + 1))
        case measure => have := Hlt.out; omega
        case rel => exact ⟨i + 1, rfl, Nat.succ_le_of_lt Hlt.out, by first | rfl | go_num, by rw [Hn2.out]; exact hS⟩
      · have hb := ba_eq hs
        have hbn : (ps.toList != s.toList) = true := by rw [bne, hb]; rfl
        have hn2 := Hnext.out
        rw [if_pos (by simp [bne, beq_ba, hs])] at hn2
        have Hn2 := Lib.hid hn2
        clear hn2 Hnext hs
        go_wp2_with (first
          | ((with_reducible apply at_load); refine ⟨?_⟩; refine wl_loadN' (b := bk) (o := off + i * 2) (nmL (ps, pi)) (by rfl) Hcells.out Tryz.underlying175 rfl infoNm ?_)
          | ((with_reducible apply at_build1); refine ⟨?_⟩; refine wl_build1 (e := 175) (sz := 2) (by' := 24) (by kernel_rfl) hS (by rfl) (cs := (nmL (ps, pi)).toArray) rfl rfl (Nat.le_of_ble_eq_true (by rfl)) ?_; intro bN wN hN)
          | (with_reducible apply at_append))
        refine ⟨?_⟩
        refine wl_app 175 2 24 (by kernel_rfl) hN (by rfl) (by rfl) pkD pkD (by rfl) (Nat.le_refl 1) (by rfl) hlen (by show 2 ≤ 65536; decide) (by decide) rfl ?_
        intro bA nA cA wA hA
        go_wp2_with fail
        have e9 : nmsL (ndel (l.take i) s) ++ nmL (ps, pi) = nmsL (ndel (l.take (i + 1)) s) := by rw [Hn2.out, nmsL_app]; simp [nmsL]
        rw [e9] at hA
        go_roundg (l.length - (i + 1))
        case measure => have := Hlt.out; omega
        case rel => exact ⟨i + 1, rfl, Nat.succ_le_of_lt Hlt.out, by first | rfl | go_num, hA⟩
    · obtain rfl : i = l.length := by omega
      have c1 : ¬ (l.length : Int) < (l.length : Int) := by omega
      rw [List.take_length] at hS
      clear hlt
      go_wp2
      go_ret
      exact ⟨_, rfl, hS⟩
theorem gtr_lt (p s : ByteArray) : (!Op.bytesLess p.toList s.toList && !p.toList == s.toList) = lt s p := by
  rw [bytesLess_eq, ByteArray.toList_eq, ByteArray.toList_eq]
  by_cases e : p = s
  · subst e
    rw [lt_irrefl]
    simp
  · have he : (p.data.toList == s.data.toList) = false := by
      have := ba_eq e
      rw [ByteArray.toList_eq, ByteArray.toList_eq] at this
      exact this
    rw [he]
    rcases lt_or e with h | h
    · have h2 : lt s p = false := by
        cases h3 : lt s p with
        | false => rfl
        | true => have := lt_trans h h3; rw [lt_irrefl] at this; cases this
      rw [h2]
      unfold lt at h
      rw [h]; rfl
    · have h2 : lt p s = false := by
        cases h3 : lt p s with
        | false => rfl
        | true => have := lt_trans h h3; rw [lt_irrefl] at this; cases this
      rw [h]
      unfold lt at h2
      rw [h2]; rfl
theorem nins_lt {l : Names} {s : ByteArray} {i : Nat} {p : ByteArray × Nat} (h : lt s p.1 = true) : nins (p :: l) s i = (s, i) :: p :: l := by
  show (if lt s p.1 then (s, i) :: p :: l else p :: nins l s i) = _
  rw [if_pos h]
theorem nins_ge {l : Names} {s : ByteArray} {i : Nat} {p : ByteArray × Nat} (h : lt s p.1 = false) : nins (p :: l) s i = p :: nins l s i := by
  show (if lt s p.1 then (s, i) :: p :: l else p :: nins l s i) = _
  rw [if_neg (by rw [h]; decide)]
set_option maxRecDepth 20000 in
set_option maxHeartbeats 16000000 in
theorem rwith_c (l : Names) (s : ByteArray) (f : Nat) (hl : l.length ≤ 1048576) (hr : Ro w0 F (rdsl 2 lv (nmsL l))) (h : Sat w0 w F) :
    Calls Tryz.prog 166 #[lv, .agg #[.string s, .int .i64 f]] w (Rtn fun v w' => ∃ ov, v = ov ∧ Sat w0 w' (osl 175 2 ov (nmsL (nput l s f)) :: F)) := by
  have Hr := Lib.hid hr; have Hl := Lib.hid hl
  clear hr hl
  go_enter Tryz.func166, Tryz.ntmps166
  go_wp2_with (first | ((with_reducible apply at_box); refine ⟨?_⟩; refine wl_box (by assumption) evD evD ?_; intro bB wB hB) | ((with_reducible apply at_load); refine ⟨?_⟩; refine wl_load1 (by assumption) (by rfl) pkD (Nat.le_of_ble_eq_true (by rfl)) evD (by kernel_rfl) ?_))
  refine (rwithout_c l s Hl.out (Ro.os Hr.out) hB).mono ?_
  rintro ee w1 ⟨v, rfl, v1, rfl, hS1⟩
  have Hz := Lib.hid (Nat.le_trans (ndel_len l s) Hl.out)
  have Hfin := Lib.hid (show nput l s f = nins (ndel l s) s f from rfl)
  clear h hB
  generalize ndel l s = k at *
  obtain ⟨ka, kc, rfl⟩ := nms_sl (Sat.rd hS1)
  go_wp2_with fail
  have hS2 : Sat w0 w1 (osl 175 2 (.slice none 0 0) (nmsL []) :: osl 175 2 (.slice ka k.length kc) (nmsL k) :: pt bB (.cells #[.string s, .int .i64 f] 175 (0,0)) :: F) := Sat.osl_nil.2 hS1
  clear hS1
  go_loopg [5, 6, 7] k.length (fun g ov dv iq wr => ∃ (i : Nat) (b : Bool) (o : Names), g = k.length - i ∧ i ≤ k.length ∧ iq = .int .i64 i ∧ dv = .bool b ∧ o.length ≤ i + 1 ∧
    (b = false ∧ o = k.take i ∧ nins k s f = k.take i ++ nins (k.drop i) s f ∨ b = true ∧ nins k s f = o ++ k.drop i) ∧
    Sat w0 wr (osl 175 2 ov (nmsL o) :: osl 175 2 (.slice ka k.length kc) (nmsL k) :: pt bB (.cells #[.string s, .int .i64 f] 175 (0,0)) :: F))
  case atStart => exact ⟨0, false, [], rfl, Nat.zero_le _, rfl, rfl, Nat.zero_le _, .inl ⟨rfl, rfl, rfl⟩, hS2⟩
  case round =>
    obtain ⟨i, b, o, rfl, hi, rfl, rfl, hol, hcase, hS⟩ := hrel
    clear hS2
    by_cases hlt : i < k.length
    · have Hlt := Lib.hid hlt
      have hz := Hz.out
      have c1 : (i : Int) < (k.length : Int) := by omega
      have hwi : IntKind.i64.wrap ((i : Int) + 1) = (i : Int) + 1 := IntWalk.i64_in _ (by omega)
      obtain ⟨p, hp⟩ : ∃ p, k[i]? = some p := ⟨_, List.getElem?_eq_getElem hlt⟩
      obtain ⟨bk, off, c, hee, hcells⟩ := nm_pair (Sat.rd (hS.pick pick1)) hp
      cases hee
      have HCs := Lib.hid (show ∀ w' R, Sat w0 w' (osl 175 2 (.slice (some ⟨bk, off, none⟩) k.length kc) (nmsL k) :: R) → ∀ j y, (nmL p)[j]? = some y → w'.cell? ⟨bk, off + i * 2 + j, none⟩ = some y from fun w' R hw j y hj => by
        obtain ⟨_, _, _, hee, h0⟩ := nm_pair (Sat.rd hw) hp
        cases hee; exact h0 j y hj)
      have hdr : k.drop i = p :: k.drop (i + 1) := by
        obtain ⟨h1, h2⟩ := List.getElem?_eq_some_iff.1 hp
        rw [← h2]; exact List.drop_eq_getElem_cons h1
      have htk : k.take (i + 1) = k.take i ++ [p] := by rw [List.take_add_one, hp]; rfl
      have Hdr := Lib.hid hdr; have Htk := Lib.hid htk; have Hol := Lib.hid hol
      have hlen : (nmsL o).length ≤ 2147483648 := by rw [nmsL_len]; omega
      have hlen2 : (nmsL (o ++ [(s, f)])).length ≤ 2147483648 := by rw [nmsL_len, List.length_append]; simp only [List.length_singleton]; omega
      clear hlt hp hdr htk hcells hol
      obtain ⟨ps, pi⟩ := p
      have e1 : ∀ a : Names, nmsL a ++ nmL (ps, pi) = nmsL (a ++ [(ps, pi)]) := fun a => by rw [nmsL_app]; simp [nmsL]
      have e2 : ∀ a : Names, nmsL a ++ nmL (s, f) = nmsL (a ++ [(s, f)]) := fun a => by rw [nmsL_app]; simp [nmsL]
      have E1 := Lib.hid e1; have E2 := Lib.hid e2
      clear e1 e2
      cases b with
      | true =>
        have hcase2 : nins k s f = (o ++ [(ps, pi)]) ++ k.drop (i + 1) := by
          rcases hcase with ⟨h1, _⟩ | ⟨_, h1⟩
          · cases h1
          · rw [h1, Hdr.out]; simp
        have Hcase := Lib.hid hcase2
        clear hcase hcase2
        go_wp2_with fail
        have hS1 := hS.drew
        clear hS
        refine wpL_begin [10, 11] (fun _ => True) (by kernel_rfl) ?_
        have hG : True := trivial
        refine rp 0 (hy := (yl_move evD)) (h := ?_)
        refine rp 1 (hy := (yl_un evD rnD)) (h := ?_)
        refine rp 2 (hy := (yl_move evD)) (h := ?_)
        refine rg_skip 3 evD (by kernel_rfl) (by intro _ _ _ h; exact h) (by rfl) (by go_frame; first | done | rfl) ?_
        refine rg_skip 4 evD (by kernel_rfl) (by intro _ _ _ h; exact h) (by rfl) (by go_frame; first | done | rfl) ?_
        refine rg_skip 5 evD (by kernel_rfl) (by intro _ _ _ h; exact h) (by rfl) (by go_frame; first | done | rfl) ?_
        refine rg_skip 6 evD (by kernel_rfl) (by intro _ _ _ h; exact h) (by rfl) (by go_frame; first | done | rfl) ?_
        refine rg_skip 7 evD (by kernel_rfl) (by intro _ _ _ h; exact h) (by rfl) (by go_frame; first | done | rfl) ?_
        refine rg_skip 8 evD (by kernel_rfl) (by intro _ _ _ h; exact h) (by rfl) (by go_frame; first | done | rfl) ?_
        refine rg_skip 9 evD (by kernel_rfl) (by intro _ _ _ h; exact h) (by rfl) (by go_frame; first | done | rfl) ?_
        refine rg_skip 10 evD (by kernel_rfl) (by intro _ _ _ h; exact h) (by rfl) (by go_frame; first | done | rfl) ?_
        refine rp 11 (hy := (yg_pick (by rfl) evD evD)) (h := ?_)
        refine wpL_done (by kernel_rfl) ?_
        clear hG
        try simp only [List.getElem_toArray, List.getElem_cons_succ, List.getElem_cons_zero]
        try go_frame
        go_wp2_with (first
          | ((with_reducible apply at_load); refine ⟨?_⟩; refine wl_loadN' (b := bk) (o := off + i * 2) (nmL (ps, pi)) (by rfl) (HCs.out _ _ (hS1.pick pick1)) Tryz.underlying175 rfl infoNm ?_)
          | ((with_reducible apply at_build1); refine ⟨?_⟩; refine wl_build1 (e := 175) (sz := 2) (by' := 24) (by kernel_rfl) hS1 (by rfl) (cs := (nmL (ps, pi)).toArray) rfl rfl (Nat.le_of_ble_eq_true (by rfl)) ?_; intro bN wN hN)
          | ((with_reducible apply at_append); refine ⟨?_⟩; refine wl_app 175 2 24 (by kernel_rfl) hN (by rfl) (by rfl) (pick_there (pick0 (A := osl 175 2 u5 (nmsL o)))) pick0 (by rfl) (Nat.le_refl 1) (by rfl) hlen (by show 2 ≤ 65536; decide) (by decide) rfl ?_; intro bA nA cA wA hA))
        rw [E1.out] at hA
        go_roundg (k.length - (i + 1))
        case measure => have := Hlt.out; omega
        case rel => exact ⟨i + 1, true, o ++ [(ps, pi)], rfl, Nat.succ_le_of_lt Hlt.out, by first | rfl | go_num, rfl, by rw [List.length_append]; have := Hol.out; simp only [List.length_singleton]; omega, .inr ⟨rfl, Hcase.out⟩, hA.sub (sub_take pick0 (sub_take pick0 sub_refl))⟩
      | false =>
        have hc2 : o = k.take i ∧ nins k s f = k.take i ++ nins ((ps, pi) :: k.drop (i + 1)) s f := by
          rcases hcase with ⟨_, h1, h2⟩ | ⟨h1, _⟩
          · exact ⟨h1, by rw [h2, Hdr.out]⟩
          · cases h1
        obtain ⟨rfl, hc3⟩ := hc2
        have Hc3 := Lib.hid hc3
        go_wp2_with fail
        have hS1 := hS.drew
        clear hS hcase hc3
        have hgl := gtr_lt ps s
        cases hlp : lt s ps with
        | true =>
          rw [hlp] at hgl
          have hgt := hgl
          have Hc4 := Lib.hid (show nins k s f = (k.take i ++ [(s, f)] ++ [(ps, pi)]) ++ k.drop (i + 1) by rw [Hc3.out, nins_lt (p := (ps, pi)) hlp]; simp)
          clear hgl hlp Hc3
          refine wpL_begin [10, 11] (fun w' => w'.cell? ⟨bk, off + i * 2, none⟩ = some (.string ps) ∧ w'.cell? ⟨bB, 0, none⟩ = some (.string s)) (by kernel_rfl) ?_
          have hG : World.cell? _ ⟨bk, off + i * 2, none⟩ = some (.string ps) ∧ World.cell? _ ⟨bB, 0, none⟩ = some (.string s) := ⟨HCs.out _ _ (hS1.pick pick1) 0 _ rfl, hS1.cellP pick2 0 rfl⟩
          refine rp 0 (hy := (yl_move evD)) (h := ?_)
          refine rp 1 (hy := (yl_un evD rnD)) (h := ?_)
          refine rp 2 (hy := (yl_move evD)) (h := ?_)
          refine rp 3 (hy := (yg_move (by rfl) evD)) (h := ?_)
          refine rp 4 (hy := (yg_move (by rfl) evD)) (h := ?_)
          refine rp 5 (hy := (yg_index (by rfl) evD evD rnD)) (h := ?_)
          refine rp 6 (hy := (yg_field (by rfl) evD rnD)) (h := ?_)
          refine rg_take 7 evD (by kernel_rfl) (by intro _ _ _ h; exact h) (tg_load (by rfl) evD (by kernel_rfl) (fun w hw => hw.1)) (by assumption) (by go_frame; first | done | rfl) ?_
          refine rp 8 (hy := (yg_field (by rfl) evD rnD)) (h := ?_)
          refine rg_take 9 evD (by kernel_rfl) (by intro _ _ _ h; exact h) (tg_load (by rfl) evD (by kernel_rfl) (fun w hw => hw.2)) (by assumption) (by go_frame; first | done | rfl) ?_
          refine rp 10 (hy := (yg_bin (by rfl) evD evD rnD)) (h := ?_)
          refine rp 11 (hy := (yg_pick (by rfl) evD evD)) (h := ?_)
          refine wpL_done (by kernel_rfl) ?_
          clear hG
          try simp only [List.getElem_toArray, List.getElem_cons_succ, List.getElem_cons_zero]
          try go_frame
          try simp only [hgt]
          go_wp2_with (first
            | ((with_reducible apply at_load); refine ⟨?_⟩; refine wl_loadA (b := bB) hS1 (by rfl) pick2 Tryz.underlying175 rfl (by kernel_rfl) ?_)
            | ((with_reducible apply at_build1); refine ⟨?_⟩; refine wl_build1 (e := 175) (sz := 2) (by' := 24) (by kernel_rfl) hS1 (by rfl) (cs := (nmL (s, f)).toArray) rfl rfl (Nat.le_of_ble_eq_true (by rfl)) ?_; intro bM wM hM)
            | ((with_reducible apply at_append); refine ⟨?_⟩; refine wl_app 175 2 24 (by kernel_rfl) hM (by rfl) (by rfl) (pick_there (pick0 (A := osl 175 2 u5 (nmsL (k.take i))))) pick0 (by rfl) (Nat.le_refl 1) (by rfl) hlen (by show 2 ≤ 65536; decide) (by decide) rfl ?_; intro bA nA cA wA hA)
            | (with_reducible apply at_load))
          rw [E2.out] at hA
          have hS2 : Sat w0 wA (osl 175 2 (.slice (some ⟨bA, 0, none⟩) nA cA) (nmsL (k.take i ++ [(s, f)])) :: osl 175 2 (.slice (some ⟨bk, off, none⟩) k.length kc) (nmsL k) :: pt bB (.cells #[.string s, .int .i64 f] 175 (0,0)) :: F) := hA.sub (sub_take pick0 (sub_take pick0 (sub_take pick0 sub_refl)))
          clear hM hA
          refine ⟨?_⟩
          refine wl_loadN' (b := bk) (o := off + i * 2) (nmL (ps, pi)) (by rfl) (HCs.out _ _ (hS2.pick pick1)) Tryz.underlying175 rfl infoNm ?_
          go_wp2_with (first
            | ((with_reducible apply at_build1); refine ⟨?_⟩; refine wl_build1 (e := 175) (sz := 2) (by' := 24) (by kernel_rfl) hS2 (by rfl) (cs := (nmL (ps, pi)).toArray) rfl rfl (Nat.le_of_ble_eq_true (by rfl)) ?_; intro bN wN hN)
            | ((with_reducible apply at_append); refine ⟨?_⟩; refine wl_app 175 2 24 (by kernel_rfl) hN (by rfl) (by rfl) (pick_there (pick0 (A := osl 175 2 (.slice (some ⟨bA, 0, none⟩) nA cA) (nmsL (k.take i ++ [(s, f)]))))) pick0 (by rfl) (Nat.le_refl 1) (by rfl) hlen2 (by show 2 ≤ 65536; decide) (by decide) rfl ?_; intro bA2 nA2 cA2 wA2 hA2))
          rw [E1.out] at hA2
          go_roundg (k.length - (i + 1))
          case measure => have := Hlt.out; omega
          case rel => exact ⟨i + 1, true, _, rfl, Nat.succ_le_of_lt Hlt.out, by first | rfl | go_num, rfl, by rw [List.length_append, List.length_append, List.length_take]; simp only [List.length_singleton]; omega, .inr ⟨rfl, Hc4.out⟩, hA2.sub (sub_take pick0 (sub_take pick0 sub_refl))⟩
        | false =>
          rw [hlp] at hgl
          have hgt := hgl
          have Hc4 := Lib.hid (show nins k s f = k.take (i + 1) ++ nins (k.drop (i + 1)) s f by rw [Hc3.out, nins_ge (p := (ps, pi)) hlp, Htk.out]; simp)
          clear hgl hlp Hc3
          refine wpL_begin [10, 11] (fun w' => w'.cell? ⟨bk, off + i * 2, none⟩ = some (.string ps) ∧ w'.cell? ⟨bB, 0, none⟩ = some (.string s)) (by kernel_rfl) ?_
          have hG : World.cell? _ ⟨bk, off + i * 2, none⟩ = some (.string ps) ∧ World.cell? _ ⟨bB, 0, none⟩ = some (.string s) := ⟨HCs.out _ _ (hS1.pick pick1) 0 _ rfl, hS1.cellP pick2 0 rfl⟩
          refine rp 0 (hy := (yl_move evD)) (h := ?_)
          refine rp 1 (hy := (yl_un evD rnD)) (h := ?_)
          refine rp 2 (hy := (yl_move evD)) (h := ?_)
          refine rp 3 (hy := (yg_move (by rfl) evD)) (h := ?_)
          refine rp 4 (hy := (yg_move (by rfl) evD)) (h := ?_)
          refine rp 5 (hy := (yg_index (by rfl) evD evD rnD)) (h := ?_)
          refine rp 6 (hy := (yg_field (by rfl) evD rnD)) (h := ?_)
          refine rg_take 7 evD (by kernel_rfl) (by intro _ _ _ h; exact h) (tg_load (by rfl) evD (by kernel_rfl) (fun w hw => hw.1)) (by assumption) (by go_frame; first | done | rfl) ?_
          refine rp 8 (hy := (yg_field (by rfl) evD rnD)) (h := ?_)
          refine rg_take 9 evD (by kernel_rfl) (by intro _ _ _ h; exact h) (tg_load (by rfl) evD (by kernel_rfl) (fun w hw => hw.2)) (by assumption) (by go_frame; first | done | rfl) ?_
          refine rp 10 (hy := (yg_bin (by rfl) evD evD rnD)) (h := ?_)
          refine rp 11 (hy := (yg_pick (by rfl) evD evD)) (h := ?_)
          refine wpL_done (by kernel_rfl) ?_
          clear hG
          try simp only [List.getElem_toArray, List.getElem_cons_succ, List.getElem_cons_zero]
          try go_frame
          try simp only [hgt]
          go_wp2_with (first
            | ((with_reducible apply at_load); refine ⟨?_⟩; refine wl_loadN' (b := bk) (o := off + i * 2) (nmL (ps, pi)) (by rfl) (HCs.out _ _ (hS1.pick pick1)) Tryz.underlying175 rfl infoNm ?_)
            | ((with_reducible apply at_build1); refine ⟨?_⟩; refine wl_build1 (e := 175) (sz := 2) (by' := 24) (by kernel_rfl) hS1 (by rfl) (cs := (nmL (ps, pi)).toArray) rfl rfl (Nat.le_of_ble_eq_true (by rfl)) ?_; intro bN wN hN)
            | ((with_reducible apply at_append); refine ⟨?_⟩; refine wl_app 175 2 24 (by kernel_rfl) hN (by rfl) (by rfl) (pick_there (pick0 (A := osl 175 2 u5 (nmsL (k.take i))))) pick0 (by rfl) (Nat.le_refl 1) (by rfl) hlen (by show 2 ≤ 65536; decide) (by decide) rfl ?_; intro bA nA cA wA hA))
          rw [E1.out, ← Htk.out] at hA
          go_roundg (k.length - (i + 1))
          case measure => have := Hlt.out; omega
          case rel => exact ⟨i + 1, false, _, rfl, Nat.succ_le_of_lt Hlt.out, by first | rfl | go_num, rfl, by rw [List.length_take]; omega, .inl ⟨rfl, rfl, Hc4.out⟩, hA.sub (sub_take pick0 (sub_take pick0 sub_refl))⟩
    · obtain rfl : i = k.length := by omega
      have c1 : ¬ (k.length : Int) < (k.length : Int) := by omega
      rw [List.take_length, List.drop_length] at hcase
      have hz := Hz.out
      have hlen : (nmsL o).length ≤ 2147483648 := by rw [nmsL_len]; omega
      clear hlt
      cases b with
      | true =>
        have hc2 : nins k s f = o := by
          rcases hcase with ⟨h1, _⟩ | ⟨_, h1⟩
          · cases h1
          · rw [h1, List.append_nil]
        have Hc2 := Lib.hid hc2
        clear hcase hc2
        go_wp2
        go_ret
        exact ⟨_, rfl, by rw [Hfin.out, Hc2.out]; exact hS.sub (sub_take pick0 (sub_drop (sub_drop sub_refl)))⟩
      | false =>
        have hc2 : o = k ∧ nins k s f = k ++ [(s, f)] := by
          rcases hcase with ⟨_, h1, h2⟩ | ⟨h1, _⟩
          · exact ⟨h1, h2⟩
          · cases h1
        obtain ⟨rfl, hc3⟩ := hc2
        have Hc3 := Lib.hid hc3
        clear hcase hc3
        go_wp2_with (first
          | ((with_reducible apply at_load); refine ⟨?_⟩; refine wl_loadA (b := bB) hS (by rfl) pick2 Tryz.underlying175 rfl (by kernel_rfl) ?_)
          | ((with_reducible apply at_build1); refine ⟨?_⟩; refine wl_build1 (e := 175) (sz := 2) (by' := 24) (by kernel_rfl) hS (by rfl) (cs := (nmL (s, f)).toArray) rfl rfl (Nat.le_of_ble_eq_true (by rfl)) ?_; intro bM wM hM)
          | ((with_reducible apply at_append); refine ⟨?_⟩; refine wl_app 175 2 24 (by kernel_rfl) hM (by rfl) (by rfl) (pick_there (pick0 (A := osl 175 2 u5 (nmsL o)))) pick0 (by rfl) (Nat.le_refl 1) (by rfl) hlen (by show 2 ≤ 65536; decide) (by decide) rfl ?_; intro bA nA cA wA hA))
        go_ret
        have e2 : nmsL o ++ nmL (s, f) = nmsL (o ++ [(s, f)]) := by rw [nmsL_app]; simp [nmsL]
        rw [e2] at hA
        exact ⟨_, rfl, by rw [Hfin.out, Hc3.out]; exact hA.sub (sub_take pick0 (sub_drop (sub_drop sub_refl)))⟩
end
section
variable {w0 w : World} {F R : List HProp} {d : Nat} {D : Med} {fsv fv nv wv v lv : Value} {xs : List RF} {g : Bag} {K : Nat}
theorem ba_is {s : ByteArray} (h : s ≠ ByteArray.empty) : (s.toList == []) = false := by
  have := ba_eq h
  rw [ByteArray.toList_eq ByteArray.empty] at this
  exact this
set_option maxRecDepth 20000 in
set_option maxHeartbeats 8000000 in
theorem rlinked_c (l : Names) (x : Lnk) (hl : l.length ≤ 1048575) (hg : (lv, l) ∈ g) (h : Sat w0 w (bagR g :: F)) :
    Calls Tryz.prog 142 #[lv, .agg #[.string x.fr, .string x.to, .int .i64 x.f]] w (Rtn fun v w' => ∃ ov g', v = ov ∧ (ov, x.on l) ∈ g' ∧ (∀ q ∈ g, q ∈ g') ∧ Sat w0 w' (bagR g' :: F)) := by
  have Hg := Lib.hid hg; have Hl := Lib.hid hl
  obtain ⟨fr, to, f⟩ := x
  have Hon := Lib.hid (show (Lnk.mk fr to f).on l = if to = ByteArray.empty then (if fr = ByteArray.empty then l else ndel l fr) else nput (if fr = ByteArray.empty then l else ndel l fr) to f from rfl)
  clear hg hl
  go_enter Tryz.func142, Tryz.ntmps142
  by_cases hf : fr = ByteArray.empty
  · rw [if_pos hf] at Hon
    have e1 := ba_nil hf
    clear hf
    by_cases ht : to = ByteArray.empty
    · rw [if_pos ht] at Hon
      have e2 := ba_nil ht
      clear ht
      go_wp2_with (first | ((with_reducible apply at_box); refine ⟨?_⟩; refine wl_box (by assumption) evD evD ?_; intro bB wB hB) | ((with_reducible apply at_load); refine ⟨?_⟩; refine wl_load1 (by assumption) (by rfl) pkD (Nat.le_of_ble_eq_true (by rfl)) evD (by kernel_rfl) ?_))
      go_ret
      exact ⟨_, rfl, _, g, rfl, by rw [Hon.out]; exact Hg.out, fun q hq => hq, hB.drop⟩
    · rw [if_neg ht] at Hon
      have e2 := ba_is ht
      clear ht
      go_wp2_with (first | ((with_reducible apply at_box); refine ⟨?_⟩; refine wl_box (by assumption) evD evD ?_; intro bB wB hB) | ((with_reducible apply at_load); refine ⟨?_⟩; refine wl_load1 (by assumption) (by rfl) pkD (Nat.le_of_ble_eq_true (by rfl)) evD (by kernel_rfl) ?_))
      refine (rwith_c l to f (Nat.le_succ_of_le Hl.out) (Ro.of_pick (bag_ro Hg.out) pick1) hB).mono ?_
      rintro ee w1 ⟨v, rfl, v1, rfl, hS1⟩
      clear h hB
      go_wp2
      go_ret
      exact ⟨_, rfl, _, _, rfl, by rw [Hon.out]; exact .head _, fun q hq => .tail _ hq, bag_add (hS1.sub (sub_take pick0 (sub_drop (sub_take pick0 sub_refl))))⟩
  · rw [if_neg hf] at Hon
    have e1 := ba_is hf
    clear hf
    by_cases ht : to = ByteArray.empty
    · rw [if_pos ht] at Hon
      have e2 := ba_nil ht
      clear ht
      go_wp2_with (first | ((with_reducible apply at_box); refine ⟨?_⟩; refine wl_box (by assumption) evD evD ?_; intro bB wB hB) | ((with_reducible apply at_load); refine ⟨?_⟩; refine wl_load1 (by assumption) (by rfl) pkD (Nat.le_of_ble_eq_true (by rfl)) evD (by kernel_rfl) ?_))
      refine (rwithout_c l fr (Nat.le_succ_of_le Hl.out) (Ro.of_pick (bag_ro Hg.out) pick1) hB).mono ?_
      rintro ee w1 ⟨v, rfl, v1, rfl, hS1⟩
      clear h hB
      go_wp2_with ((with_reducible apply at_load); refine ⟨?_⟩; refine wl_load1 (by assumption) (by rfl) pkD (Nat.le_of_ble_eq_true (by rfl)) evD (by kernel_rfl) ?_)
      go_ret
      exact ⟨_, rfl, _, _, rfl, by rw [Hon.out]; exact .head _, fun q hq => .tail _ hq, bag_add (hS1.sub (sub_take pick0 (sub_drop (sub_take pick0 sub_refl))))⟩
    · rw [if_neg ht] at Hon
      have e2 := ba_is ht
      clear ht
      go_wp2_with (first | ((with_reducible apply at_box); refine ⟨?_⟩; refine wl_box (by assumption) evD evD ?_; intro bB wB hB) | ((with_reducible apply at_load); refine ⟨?_⟩; refine wl_load1 (by assumption) (by rfl) pkD (Nat.le_of_ble_eq_true (by rfl)) evD (by kernel_rfl) ?_))
      refine (rwithout_c l fr (Nat.le_succ_of_le Hl.out) (Ro.of_pick (bag_ro Hg.out) pick1) hB).mono ?_
      rintro ee w1 ⟨v, rfl, v1, rfl, hS1⟩
      clear h hB
      have hz : (ndel l fr).length ≤ 1048576 := Nat.le_trans (ndel_len l fr) (Nat.le_succ_of_le Hl.out)
      have Hz := Lib.hid hz
      clear hz
      go_wp2_with ((with_reducible apply at_load); refine ⟨?_⟩; refine wl_load1 (by assumption) (by rfl) pkD (Nat.le_of_ble_eq_true (by rfl)) evD (by kernel_rfl) ?_)
      refine (rwith_c (ndel l fr) to f Hz.out (fun w hw => Sat.rd (hw.pick pick0)) hS1).mono ?_
      rintro ee w2 ⟨v, rfl, v2, rfl, hS2⟩
      clear hS1
      go_wp2
      go_ret
      exact ⟨_, rfl, _, _, rfl, by rw [Hon.out]; exact .head _, fun q hq => .tail _ hq, bag_add (hS2.sub (sub_take pick0 (sub_drop (sub_drop (sub_take pick0 sub_refl)))))⟩
set_option maxHeartbeats 1000000 in
theorem rstep_c (h : Sat w0 w (dskPt d D fsv fv nv wv :: F)) (hl : D.left ≤ 9223372036854775807) :
    Calls Tryz.prog 85 #[ptr d] w (Rtn fun v w' => v = errno (bif D.step.2 then 0 else 12) ∧ Sat w0 w' (dskPt d D.step.1 fsv fv nv wv :: F)) := by
  obtain ⟨room, fast, now, files, waits, armed, left, off⟩ := D
  have c5 := h.cellAt 5 _ rfl
  have c6 := h.cellAt 6 _ rfl
  have f7 := h.freeAt 7
  have c7 := h.cellAt 7 _ rfl
  have f6 := h.freeAt 6
  simp only at hl
  go_enter Tryz.func85, Tryz.ntmps85
  cases armed
  · go_wp2
    go_ret
    exact ⟨_, rfl, by simp [Med.step], by simpa [Med.step] using h⟩
  · by_cases hz : left = 0
    · subst hz
      have c6' : w.cell? ⟨d, 6, none⟩ = some (.int .i64 0) := c6
      have c5' : w.cell? ⟨d, 5, none⟩ = some (.bool true) := c5
      clear c6 c5
      go_wp2
      go_ret
      exact ⟨_, rfl, rfl, h.set 7 (.bool true)⟩
    · have hz' : ((left : Int) == 0) = false := by simpa using hz
      have e1 : ((left - 1 : Nat) : Int) = (left : Int) - 1 := by omega
      go_wp2
      go_ret
      refine ⟨_, rfl, by simp [Med.step, hz], ?_⟩
      have := h.set 6 (.int .i64 ((left : Int) - 1))
      simp only [Med.step, hz, if_true, if_false, dskPt, e1]
      exact this
set_option maxRecDepth 20000 in
set_option maxHeartbeats 2000000 in
theorem rhere_c (i : Nat) (hi : i < D.files.length) (hin : DskIn D fv nv xs g) (hlen : (D.file i).now.length ≤ 1099511627776) (h : Sat w0 w (dskPt d D fsv fv nv wv :: osl 164 3 fsv (rfsL xs) :: stars (xs.map rfR) :: F)) :
    Calls Tryz.prog 86 #[ptr d, .int .i64 i] w (Rtn fun v w' => Sat w0 w' (bsl v (D.file i).now :: dskPt d D fsv fv nv wv :: osl 164 3 fsv (rfsL xs) :: stars (xs.map rfR) :: F) ∧ ∃ a n c, v = .slice a n c) := by
  obtain ⟨x, hx, hxf⟩ := hin.file hi
  have hl : xs.length = D.files.length := by rw [← hin.files, List.length_map]
  obtain ⟨h0, h1, h2⟩ := rfsL_at hx
  have hrd := Sat.rd (h.pick pick1)
  obtain ⟨fa, fn, fc, rfl, hfn, _⟩ := id hrd
  rw [rfsL_len] at hfn
  obtain rfl : fn = xs.length := by omega
  obtain ⟨bk, off, rfl, hc⟩ := rdsl_cells hrd h0
  have e1 : w.cell? ⟨bk, off + i * 3 + 1, none⟩ = some x.nv := by rw [Nat.add_assoc]; exact hc _ _ h1
  have e0 : w.cell? ⟨d, 1, none⟩ = some (.slice (some ⟨bk, off, none⟩) xs.length fc) := h.cellAt 1 _ rfl
  have c1 : (i : Int) < (xs.length : Int) := by omega
  have hcp := copy_c h (D.file i).now (by rw [← hxf]; exact (file_ro (List.mem_of_getElem? hx)).1 _ (h.pick pick2)) hlen
  generalize x.nv = xn at *
  clear hrd hc h0 h1 h2 hx
  go_enter Tryz.func86, Tryz.ntmps86
  go_wp2_with fail
  refine hcp.mono ?_
  rintro ee w1 ⟨v, rfl, hS, a, n, c, rfl⟩
  go_wp2
  go_ret
  exact ⟨_, rfl, hS, _, _, _, rfl⟩
end
section
variable {w0 w : World} {F R : List HProp} {d : Nat} {D : Med} {fsv fv nv wv v lv : Value} {xs : List RF} {g : Bag} {K : Nat}
set_option maxHeartbeats 4000000 in
theorem rgood_c (s : ByteArray) (w : World) (hs : s.size ≤ 9223372036854775806) :
    Calls Tryz.prog 138 #[.string s] w (Rtn fun v w' => v = .bool (good s) ∧ w = w') := by
  have Hs := Lib.hid hs
  clear hs
  go_enter Tryz.func138, Tryz.ntmps138
  go_wp2_with fail
  go_loopg [3] s.size (fun g iq wr => ∃ k : Nat, g = s.size - k ∧ k ≤ s.size ∧ iq = .int .i64 k ∧ (s.data.toList.take k).all goodC = true ∧ wr = w)
  case atStart => exact ⟨0, rfl, Nat.zero_le _, rfl, by simp, rfl⟩
  case round =>
    obtain ⟨k, rfl, hk, rfl, hall, rfl⟩ := hrel
    have Hall := Lib.hid hall; clear hall
    by_cases hlt : k < s.size
    · have hs := Hs.out
      have hwk : IntKind.i64.wrap ((k : Int) + 1) = (k : Int) + 1 := IntWalk.i64_in _ (by omega)
      have c1 : (k : Int) < (s.size : Int) := by omega
      have Hc := Lib.hid (goodC_iff s[k])
      have Hn := Lib.hid (all_take_succ s.data.toList k (by simpa using hlt))
      have Hbad := Lib.hid (show goodC s[k] = false → good s = false by
        intro hgc
        unfold good
        have : s.data.toList.all goodC = false := by
          rw [List.all_eq_false]
          exact ⟨s[k], by exact List.getElem_mem (by simpa using hlt), by simpa using hgc⟩
        rw [this]; simp)
      have Hgd := Lib.hid (show goodC s[k] = true → (s.data.toList.take (k + 1)).all goodC = true by
        intro hgc
        rw [Hn.out, Hall.out]
        exact hgc)
      have Hlt := Lib.hid hlt
      have hcls : (97 ≤ (s[k].toNat : Int) ∧ (s[k].toNat : Int) ≤ 122) ∨ (48 ≤ (s[k].toNat : Int) ∧ (s[k].toNat : Int) ≤ 57) ∨ (s[k].toNat : Int) = 46 ∨ (s[k].toNat : Int) = 45 ∨ ((s[k].toNat : Int) < 48 ∧ (s[k].toNat : Int) ≠ 46 ∧ (s[k].toNat : Int) ≠ 45) ∨ (58 ≤ (s[k].toNat : Int) ∧ (s[k].toNat : Int) ≤ 96) ∨ 123 ≤ (s[k].toNat : Int) := by omega
      rcases hcls with ⟨g1, g2⟩ | ⟨g1, g2⟩ | g1 | g1 | ⟨g1, g2, g3⟩ | ⟨g1, g2⟩ | g1
      · have d1 : decide ((s[k].toNat : Int) < 97) = false := decide_eq_false (by omega)
        have d2 : decide (122 < (s[k].toNat : Int)) = false := decide_eq_false (by omega)
        have Hg2 := Lib.hid (Hgd.out (by rw [Hc.out]; simp; omega))
        go_wp2
        go_roundg (s.size - (k + 1))
        case rel => exact ⟨k + 1, rfl, Nat.succ_le_of_lt Hlt.out, by first | rfl | go_num, Hg2.out, rfl⟩
        case measure => have := Hlt.out; omega
      · have d1 : decide ((s[k].toNat : Int) < 97) = true := decide_eq_true (by omega)
        have d3 : decide ((s[k].toNat : Int) < 48) = false := decide_eq_false (by omega)
        have d4 : decide (57 < (s[k].toNat : Int)) = false := decide_eq_false (by omega)
        have Hg2 := Lib.hid (Hgd.out (by rw [Hc.out]; simp; omega))
        go_wp2
        go_roundg (s.size - (k + 1))
        case rel => exact ⟨k + 1, rfl, Nat.succ_le_of_lt Hlt.out, by first | rfl | go_num, Hg2.out, rfl⟩
        case measure => have := Hlt.out; omega
      · have d1 : decide ((s[k].toNat : Int) < 97) = true := decide_eq_true (by omega)
        have d3 : decide ((s[k].toNat : Int) < 48) = true := decide_eq_true (by omega)
        have d5 : ((s[k].toNat : Int) != 46) = false := by rw [g1]; rfl
        have d5' : ((s[k].toNat : Int) == 46) = true := by rw [g1]; rfl
        have g2 : 46 ≤ (s[k].toNat : Int) ∧ (s[k].toNat : Int) ≤ 46 := by omega
        clear g1
        have Hg2 := Lib.hid (Hgd.out (by rw [Hc.out]; simp; omega))
        go_wp2
        go_roundg (s.size - (k + 1))
        case rel => exact ⟨k + 1, rfl, Nat.succ_le_of_lt Hlt.out, by first | rfl | go_num, Hg2.out, rfl⟩
        case measure => have := Hlt.out; omega
      · have d1 : decide ((s[k].toNat : Int) < 97) = true := decide_eq_true (by omega)
        have d3 : decide ((s[k].toNat : Int) < 48) = true := decide_eq_true (by omega)
        obtain ⟨b5, d5, t5⟩ : ∃ b, ((s[k].toNat : Int) != 46) = b ∧ b = true := ⟨_, rfl, by rw [g1]; rfl⟩
        have d5' : ((s[k].toNat : Int) == 46) = false := by rw [g1]; rfl
        have d6 : ((s[k].toNat : Int) != 45) = false := by rw [g1]; rfl
        have d6' : ((s[k].toNat : Int) == 45) = true := by rw [g1]; rfl
        have g2 : 45 ≤ (s[k].toNat : Int) ∧ (s[k].toNat : Int) ≤ 45 := by omega
        clear g1
        have Hg2 := Lib.hid (Hgd.out (by rw [Hc.out]; simp; omega))
        go_wp2
        · exfalso; simp only [bne_eq_false_iff_eq, bne_iff_ne] at *; omega
        go_roundg (s.size - (k + 1))
        case rel => exact ⟨k + 1, rfl, Nat.succ_le_of_lt Hlt.out, by first | rfl | go_num, Hg2.out, rfl⟩
        case measure => have := Hlt.out; omega
      · have d1 : decide ((s[k].toNat : Int) < 97) = true := decide_eq_true (by omega)
        have d3 : decide ((s[k].toNat : Int) < 48) = true := decide_eq_true (by omega)
        have d5' : ((s[k].toNat : Int) == 46) = false := beq_false_of_ne (by omega)
        have d6' : ((s[k].toNat : Int) == 45) = false := beq_false_of_ne (by omega)
        obtain ⟨b5, d5, t5⟩ : ∃ b, ((s[k].toNat : Int) != 46) = b ∧ b = true := ⟨_, rfl, by rw [bne, d5']; rfl⟩
        obtain ⟨b6, d6, t6⟩ : ∃ b, ((s[k].toNat : Int) != 45) = b ∧ b = true := ⟨_, rfl, by rw [bne, d6']; rfl⟩
        have Hb := Lib.hid (Hbad.out (by rw [Hc.out]; simp; omega))
        go_wp2
        go_ret
        exact ⟨_, rfl, by rw [Hb.out]; rfl, rfl⟩
        all_goals (exfalso; simp only [bne_eq_false_iff_eq] at *; omega)
      · have d1 : decide ((s[k].toNat : Int) < 97) = true := decide_eq_true (by omega)
        have d3 : decide ((s[k].toNat : Int) < 48) = false := decide_eq_false (by omega)
        have d4 : decide (57 < (s[k].toNat : Int)) = true := decide_eq_true (by omega)
        have d5' : ((s[k].toNat : Int) == 46) = false := beq_false_of_ne (by omega)
        have d6' : ((s[k].toNat : Int) == 45) = false := beq_false_of_ne (by omega)
        obtain ⟨b5, d5, t5⟩ : ∃ b, ((s[k].toNat : Int) != 46) = b ∧ b = true := ⟨_, rfl, by rw [bne, d5']; rfl⟩
        obtain ⟨b6, d6, t6⟩ : ∃ b, ((s[k].toNat : Int) != 45) = b ∧ b = true := ⟨_, rfl, by rw [bne, d6']; rfl⟩
        have Hb := Lib.hid (Hbad.out (by rw [Hc.out]; simp; omega))
        go_wp2
        go_ret
        exact ⟨_, rfl, by rw [Hb.out]; rfl, rfl⟩
        all_goals (exfalso; simp only [bne_eq_false_iff_eq] at *; omega)
      · have d1 : decide ((s[k].toNat : Int) < 97) = false := decide_eq_false (by omega)
        have d2 : decide (122 < (s[k].toNat : Int)) = true := decide_eq_true (by omega)
        have d3 : decide ((s[k].toNat : Int) < 48) = false := decide_eq_false (by omega)
        have d4 : decide (57 < (s[k].toNat : Int)) = true := decide_eq_true (by omega)
        have d5' : ((s[k].toNat : Int) == 46) = false := beq_false_of_ne (by omega)
        have d6' : ((s[k].toNat : Int) == 45) = false := beq_false_of_ne (by omega)
        obtain ⟨b5, d5, t5⟩ : ∃ b, ((s[k].toNat : Int) != 46) = b ∧ b = true := ⟨_, rfl, by rw [bne, d5']; rfl⟩
        obtain ⟨b6, d6, t6⟩ : ∃ b, ((s[k].toNat : Int) != 45) = b ∧ b = true := ⟨_, rfl, by rw [bne, d6']; rfl⟩
        have Hb := Lib.hid (Hbad.out (by rw [Hc.out]; simp; omega))
        go_wp2
        go_ret
        exact ⟨_, rfl, by rw [Hb.out]; rfl, rfl⟩
        all_goals (exfalso; simp only [bne_eq_false_iff_eq] at *; omega)
    · obtain rfl : k = s.size := by omega
      have hful : s.data.toList.all goodC = true := by
        have := Hall.out
        rw [List.take_of_length_le (by simp)] at this
        exact this
      have c1 : ¬ (s.size : Int) < (s.size : Int) := by omega
      have Hg := Lib.hid (show good s = (decide (1 ≤ s.size) && decide (s.size ≤ 24)) by unfold good; rw [hful, Bool.and_true])
      clear hlt hful
      by_cases h0 : 0 < s.size
      · have d0 : decide ((0 : Int) < (s.size : Int)) = true := decide_eq_true (by omega)
        by_cases h24 : s.size ≤ 24
        · have d24 : decide ((s.size : Int) ≤ 24) = true := decide_eq_true (by omega)
          have Hf := Lib.hid (Hg.out.trans (show _ = true by rw [decide_eq_true (show 1 ≤ s.size by omega), decide_eq_true h24]; rfl))
          go_wp2
          go_ret
          exact ⟨_, rfl, by rw [Hf.out]; rfl, rfl⟩
        · have d24 : decide ((s.size : Int) ≤ 24) = false := decide_eq_false (by omega)
          have Hf := Lib.hid (Hg.out.trans (show _ = false by rw [decide_eq_false h24, Bool.and_false]))
          go_wp2
          go_ret
          exact ⟨_, rfl, by rw [Hf.out]; rfl, rfl⟩
      · have d0 : decide ((0 : Int) < (s.size : Int)) = false := decide_eq_false (by omega)
        have Hf := Lib.hid (Hg.out.trans (show _ = false by rw [decide_eq_false (show ¬ 1 ≤ s.size by omega), Bool.false_and]))
        go_wp2
        go_ret
        exact ⟨_, rfl, by rw [Hf.out]; rfl, rfl⟩
end
section
variable {P : Program} {w0 w : World} {L L' : List HProp} {b o : Nat} {ops : Array Oper} {a : Act} {Q : Exit → Act → World → Prop} {dst : Option Tmp} {t ty T : TypeId} {pos : String} {after : Array Edge} {x y : Operand} {cs : Array Value} {v : Value} {K : Act → World → Prop} {E : Prop}
theorem eff_store (hs : Sat w0 w L) (hx : a.eval x = .pointer (some ⟨b, o, none⟩)) (hy : a.eval y = v) {cs' : Array Value} (hcs : putsAt cs o v.cells.toList = cs') (u : Upd (pt b (.cells cs T (0,0))) (pt b (.cells cs' T (0,0))) L L') (hfit : o + v.cells.size ≤ cs.size)
    (hi : (P.info? ty).map (·.size) = some v.cells.size) (h1 : v.cells.toList.all (·.oneCell') = true)
    (hK : ∀ w', Sat w0 w' L' → K (a.put dst undef) w') :
    if Region.wanted ⟨dst, .store ty x y, t, pos, after, none⟩ (yielded ops a.tmps) = true then Oper.wp P ⟨dst, .store ty x y, t, pos, after, none⟩ a w K Q else E := by
  subst hcs
  obtain ⟨R', h2, h3⟩ := u
  refine eff_of rfl ?_
  have h := hs.perm h2
  have hth : w.there b o v.cells.size := by
    intro j hj
    refine ⟨?_, h.freeAt _⟩
    rw [h.cellAt (o + j) _ (Array.getElem?_eq_getElem (show o + j < cs.size by omega))]
    rfl
  have hst := run_storeCells_cells (P := P) b o v.cells.toList 0 w (fun j hj => by simpa using (hth j (by simpa using hj)).1) (fun j hj => by simpa using (hth j (by simpa using hj)).2)
    (fun u hu => (List.all_eq_true.1 h1) u hu)
  have hrun : (storeVar ty ⟨b, o, none⟩ v).run P w = .ok () (w.setCells b o v.cells.toList) := by
    cases hq : P.info? ty with
    | none => simp [hq] at hi
    | some i =>
      have hs : v.cells.size = i.size := by simp [hq] at hi; omega
      simp only [Nat.add_zero] at hst
      simp [storeVar, sizeOf, typeInfo, hq, hs, hst]
  unfold Oper.wp execOp
  simp only [hx, hy, Instr.storeAt, Instr.sureAddr, Sem.run_bind, Sem.run_pure, Result.andThen_ok, hrun]
  exact hK _ ((Sat.sets _ _ h).perm h3.symm)
end
section
variable {w0 w : World} {F R : List HProp} {d : Nat} {D : Med} {fsv fv nv wv v lv : Value} {xs : List RF} {g : Bag} {K : Nat}
set_option maxHeartbeats 1000000 in
theorem rnew_c (room : Nat) (hr : room ≤ 16777216) (h : Sat w0 w F) :
    Calls Tryz.prog 14 #[.int .i64 room] w (Rtn fun v w' => ∃ d, v = .tuple #[ptr d, errno 0] ∧ Sat w0 w' (DskRep d (Med.new room) :: F)) := by
  have h2 : decide ((room : Int) < 0) = false := by rw [decide_eq_false_iff_not]; omega
  have h3 : decide (16777216 < (room : Int)) = false := by rw [decide_eq_false_iff_not]; omega
  have hr2 : ¬ 16777216 < room := by omega
  clear hr
  go_enter Tryz.func14, Tryz.ntmps14
  go_wp2_with ((with_reducible apply at_box); refine ⟨?_⟩; refine wl_box (by assumption) evD evD ?_; intro bB wB hB)
  go_ret2
  refine ⟨_, rfl, _, rfl, DskRep.shut (fsv := .slice none 0 0) (fv := .slice none 0 0) (nv := .slice none 0 0) (wv := .slice none 0 0) (xs := []) (g := [(.slice none 0 0, [])]) ⟨rfl, (fun x hx => by cases hx), .head _, .head _⟩ ?_⟩
  have h5 : Sat w0 _ (osl 243 3 (.slice none 0 0) [] :: dskPt _ (Med.new room) (.slice none 0 0) (.slice none 0 0) (.slice none 0 0) (.slice none 0 0) :: F) := Sat.osl_nil.2 hB
  have h6 := Sat.star.2 (Sat.osl_nil (T := 175) (sz := 2) |>.2 (Sat.emp.2 h5))
  have h7 := Sat.osl_nil (T := 164) (sz := 3) |>.2 (Sat.emp.2 h6)
  exact h7.sub (sub_take pick4 (sub_take pick0 (sub_take pick0 (sub_take pick0 (sub_take pick0 sub_refl)))))
theorem list_eq (D : Med) (h : D.off = false) : D.list = D.now.map (·.1) := by unfold Med.list; rw [h]; rfl
theorem strs_snoc (l : List ByteArray) (s : ByteArray) : strs l ++ [.string s] = strs (l ++ [s]) := by unfold strs; rw [List.map_append]; rfl
set_option maxRecDepth 20000 in
set_option maxHeartbeats 4000000 in
theorem rlist_c (hl : D.now.length ≤ 1048576) (h : Sat w0 w (DskRep d D :: F)) :
    Calls Tryz.prog 51 #[ptr d] w (Rtn fun v w' => ∃ ov, v = ov ∧ Sat w0 w' (osl 9 1 ov (strs D.list) :: DskRep d D :: F)) := by
  obtain ⟨fsv, fv, nv, wv, xs, g, hin, hR⟩ := DskRep.open h
  have Hin := Lib.hid hin; have Hl := Lib.hid hl
  have e7 : w.cell? ⟨d, 7, none⟩ = some (.bool D.off) := hR.cellP pick0 7 rfl
  clear h hin hl
  go_enter Tryz.func51, Tryz.ntmps51
  cases ho : D.off with
  | true =>
    have Hll := Lib.hid (show D.list = [] by unfold Med.list; rw [ho]; rfl)
    rw [ho] at e7
    clear ho
    go_wp2
    go_ret
    exact ⟨_, rfl, _, rfl, by rw [Hll.out]; exact Sat.osl_nil.2 (DskRep.shut Hin.out hR)⟩
  | false =>
    have Hll := Lib.hid (list_eq D ho)
    rw [ho] at e7
    clear ho
    have hn := rnames_c hR
    obtain ⟨na, nc, rfl⟩ := nms_sl (bag_ro (w0 := w0) Hin.out.now w (hR.pick pick3))
    go_wp2_with fail
    refine hn.mono ?_
    rintro ee w1 ⟨v, rfl, rfl, rfl⟩
    clear hn e7
    go_wp2_with fail
    go_loopg [3, 5] D.now.length (fun g' ov iq wr => ∃ i : Nat, g' = D.now.length - i ∧ i ≤ D.now.length ∧ iq = .int .i64 i ∧ Sat w0 wr (osl 9 1 ov (strs ((D.now.take i).map (·.1))) :: dskPt d D fsv fv (.slice na D.now.length nc) wv :: osl 164 3 fsv (rfsL xs) :: stars (xs.map rfR) :: bagR g :: osl 243 3 wv (D.waits.flatMap rlkL) :: F))
    case atStart => exact ⟨0, rfl, Nat.zero_le _, rfl, Sat.osl_nil.2 hR⟩
    case round =>
      obtain ⟨i, rfl, hi, rfl, hS⟩ := hrel
      clear hR
      by_cases hlt : i < D.now.length
      · have hl := Hl.out
        have c1 : (i : Int) < (D.now.length : Int) := by omega
        have hwi : IntKind.i64.wrap ((i : Int) + 1) = (i : Int) + 1 := IntWalk.i64_in _ (by omega)
        obtain ⟨p, hp⟩ : ∃ p, D.now[i]? = some p := ⟨_, List.getElem?_eq_getElem hlt⟩
        obtain ⟨bk, off, c, hee, e0, _⟩ := nms_cells (bag_ro (w0 := w0) Hin.out.now wr (hS.pick pick4)) hp
        cases hee
        have Hlt := Lib.hid hlt
        have Hnx := Lib.hid (show (D.now.take (i + 1)).map (·.1) = (D.now.take i).map (·.1) ++ [p.1] by rw [List.take_add_one, hp, List.map_append]; rfl)
        have hlen : (strs ((D.now.take i).map (·.1))).length ≤ 2147483648 := by unfold strs; rw [List.length_map, List.length_map, List.length_take]; omega
        generalize p.1 = ps at *
        clear hlt hp hl
        go_wp2_with (first
          | ((with_reducible apply at_build1); refine ⟨?_⟩; refine wl_build1 (e := 9) (sz := 1) (by' := 16) (by kernel_rfl) hS (by rfl) (cs := #[.string ps]) rfl rfl (Nat.le_of_ble_eq_true (by rfl)) ?_; intro bN wN hN)
          | ((with_reducible apply at_append); refine ⟨?_⟩; refine wl_app 9 1 16 (by kernel_rfl) hN (by rfl) (by rfl) (pick_there pick0) pick0 (by rfl) (Nat.le_refl 1) (by rfl) hlen (by show 1 ≤ 65536; decide) (by decide) rfl ?_; intro bA nA cA wA hA))
        rw [strs_snoc, ← Hnx.out] at hA
        go_roundg (D.now.length - (i + 1))
        case measure => have := Hlt.out; omega
        case rel => exact ⟨i + 1, rfl, Nat.succ_le_of_lt Hlt.out, by first | rfl | go_num, hA⟩
      · obtain rfl : i = D.now.length := by omega
        have c1 : ¬ (D.now.length : Int) < (D.now.length : Int) := by omega
        rw [List.take_length, ← Hll.out] at hS
        clear hlt
        go_wp2
        go_ret
        exact ⟨_, rfl, (DskRep.shut Hin.out (hS.sub (sub_take pick1 (sub_take pick1 (sub_take pick1 (sub_take pick1 (sub_take pick1 (sub_take pick0 sub_refl)))))))).sub (sub_take pick1 (sub_take pick0 sub_refl))⟩
theorem rlks_len (l : List Lnk) : (l.flatMap rlkL).length = 3 * l.length := by
  induction l with
  | nil => rfl
  | cons x l ih => rw [List.flatMap_cons, List.length_append, ih, List.length_cons]; show 3 + 3 * l.length = _; omega
theorem rlks_snoc (l : List Lnk) (x : Lnk) : l.flatMap rlkL ++ rlkL x = (l ++ [x]).flatMap rlkL := by rw [List.flatMap_append]; simp
set_option maxRecDepth 20000 in
set_option maxHeartbeats 8000000 in
theorem rwait_c (x : Lnk) (hl : D.now.length ≤ 1048575) (hw : D.waits.length ≤ 1048576) (h : Sat w0 w (DskRep d D :: F)) :
    Calls Tryz.prog 139 #[ptr d, .agg #[.string x.fr, .string x.to, .int .i64 x.f]] w (Rtn fun _ w' => Sat w0 w' (DskRep d (D.link x) :: F)) := by
  obtain ⟨fsv, fv, nv, wv, xs, g, hin, hR⟩ := DskRep.open h
  have Hin := Lib.hid hin; have Hl := Lib.hid hl
  have hlen : (D.waits.flatMap rlkL).length ≤ 2147483648 := by rw [rlks_len]; omega
  have hsl : ∃ a n c, wv = .slice a n c := by
    obtain ⟨a, n, c, e, _⟩ := Sat.rd (hR.pick pick4)
    exact ⟨a, n, c, e⟩
  obtain ⟨wa, wn, wc, rfl⟩ := hsl
  obtain ⟨na, nc, rfl⟩ := nms_sl (bag_ro (w0 := w0) hin.now w (hR.pick pick3))
  have e4 : w.cell? ⟨d, 4, none⟩ = some (.slice wa wn wc) := hR.cellP pick0 4 rfl
  clear h hin hl hw
  obtain ⟨fr, to, f⟩ := x
  go_enter Tryz.func139, Tryz.ntmps139
  go_wp2_with (first
    | ((with_reducible apply at_box); refine ⟨?_⟩; refine wl_box (by assumption) evD evD ?_; intro bB wB hB)
    | ((with_reducible apply at_load); refine ⟨?_⟩; refine wl_loadA (b := bB) hB (by rfl) pick0 Tryz.underlying243 rfl (by kernel_rfl) ?_)
    | ((with_reducible apply at_load); refine ⟨?_⟩; refine wl_load1 (by assumption) (by rfl) pkD (Nat.le_of_ble_eq_true (by rfl)) evD (by kernel_rfl) ?_)
    | ((with_reducible apply at_build1); refine ⟨?_⟩; refine wl_build1 (e := 243) (sz := 3) (by' := 40) (by kernel_rfl) hB (by rfl) (cs := #[.string fr, .string to, .int .i64 f]) rfl rfl (Nat.le_of_ble_eq_true (by rfl)) ?_; intro bN wN hN)
    | ((with_reducible apply at_append); refine ⟨?_⟩; refine wl_app 243 3 40 (by kernel_rfl) hN (by rfl) (by rfl) (pick_there (pick_there (pick_there (pick_there (pick_there (pick_there pick0)))))) pick0 (by rfl) (Nat.le_refl 1) (by rfl) hlen (by show 3 ≤ 65536; decide) (by decide) rfl ?_; intro bA nA cA wA hA)
    | ((with_reducible apply at_store); refine ⟨?_⟩; refine wl_store (by assumption) (by rfl) evD (by first | (simp only [putsAt, Value.cells]; (try go_frame); first | done | rfl) | rfl) upD (Nat.le_of_ble_eq_true (by rfl)) (by kernel_rfl) (by rfl) ?_; intro wS hS))
  have hS3 : Sat w0 _ (bagR g :: osl 243 3 (.slice (some ⟨bA, 0, none⟩) nA cA) (D.waits.flatMap rlkL ++ [.string fr, .string to, .int .i64 f]) :: pt bB (.cells #[.string fr, .string to, .int .i64 f] 243 (0,0)) :: pt d (.cells #[.int .i64 D.room, fsv, fv, .slice na D.now.length nc, .slice (some ⟨bA, 0, none⟩) nA cA, .bool D.armed, .int .i64 D.left, .bool D.off] 136 (0,0)) :: osl 164 3 fsv (rfsL xs) :: stars (xs.map rfR) :: F) := hS.drew.sel 6 [5, 0, 1, 2, 3, 4] rfl rfl
  have hlk := rlinked_c D.now ⟨fr, to, f⟩ Hl.out Hin.out.now hS3
  refine wpL_begin [6, 7, 8, 9] (fun w' => w'.cell? ⟨d, 3, none⟩ = some (.slice na D.now.length nc) ∧ w'.rangeAt bB 0 [.string fr, .string to, .int .i64 f]) (by kernel_rfl) ?_
  have hG : World.cell? _ ⟨d, 3, none⟩ = some (.slice na D.now.length nc) ∧ World.rangeAt _ bB 0 [.string fr, .string to, .int .i64 f] := ⟨hS3.cellP pick3 3 rfl, fun j u hj => by rw [Nat.zero_add]; exact (hS3.pick pick2).cellAt j u (by simpa using hj)⟩
  refine rp 0 (hy := (yl_move evD)) (h := ?_)
  refine rp 1 (hy := (yl_move evD)) (h := ?_)
  refine rp 2 (hy := (yl_nil evD)) (h := ?_)
  refine rp 3 (hy := (yl_field evD rnD)) (h := ?_)
  refine rg_take 4 evD (by kernel_rfl) (by intro _ _ _ h; exact h) (tk_load evD (by kernel_rfl) (fun w hw => hw.1)) (by assumption) (by go_frame; first | done | rfl) ?_
  refine rg_take 5 evD (by kernel_rfl) (by intro _ _ _ h; exact h) (tg_loadN (P := Tryz.prog) [.string fr, .string to, .int .i64 f] (by rfl) evD rfl rfl (by kernel_rfl) (fun w hw => hw.2)) (by assumption) (by go_frame; first | done | rfl) ?_
  clear hG
  refine rg_eff 6 evD (by kernel_rfl) (fun K hK => ?_)
  refine eff_call2 (by kernel_rfl) evD evD ?_
  refine hlk.mono ?_
  clear hlk
  rintro e w4 ⟨v, rfl, ov, g', rfl, hon, hsub, hS4⟩
  obtain ⟨oa, oc, rfl⟩ := nms_sl (bag_ro (w0 := w0) hon w4 (hS4.pick pick0))
  refine hK _ _ (.inl rfl) ?_
  clear hK
  refine rp 7 (hy := (yl_nil evD)) (h := ?_)
  refine rp 8 (hy := (yl_field evD rnD)) (h := ?_)
  refine rg_eff 9 evD (by kernel_rfl) (fun K hK => ?_)
  refine eff_store hS4 evD evD (by first | (simp only [putsAt, Value.cells]; (try go_frame); first | done | rfl) | rfl) upD (Nat.le_of_ble_eq_true (by rfl)) (by kernel_rfl) (by rfl) ?_
  intro w5 hS5
  refine hK _ _ (.inl rfl) ?_
  refine wpL_done (by kernel_rfl) ?_
  clear hS4 hS3 hS hA hN hB hR
  try go_frame
  go_wp2
  refine bodyPost_ret (results_none rfl _ _ _) rfl ?_
  refine ⟨_, rfl, DskRep.shut (D := D.link ⟨fr, to, f⟩) (fv := fv) (fsv := fsv) (wv := .slice (some ⟨bA, 0, none⟩) nA cA) ⟨Hin.out.files, Hin.out.ok, hsub _ Hin.out.fast, hon⟩ ?_⟩
  have e : D.waits.flatMap rlkL ++ [.string fr, .string to, .int .i64 f] = (D.link ⟨fr, to, f⟩).waits.flatMap rlkL := rlks_snoc D.waits ⟨fr, to, f⟩
  rw [e] at hS5
  exact hS5.sub (sub_take pick3 (sub_take pick3 (sub_take pick3 (sub_take pick0 (sub_take pick0 (sub_drop sub_refl))))))
end
section
variable {w0 w : World} {F R : List HProp} {d : Nat} {D : Med} {fsv fv nv wv v lv : Value} {xs : List RF} {g : Bag} {K : Nat}
set_option maxRecDepth 20000 in
set_option maxHeartbeats 4000000 in
theorem rall_c (s : ByteArray) (hl : D.now.length ≤ 1048576) (hf : ∀ i, nget D.now s = some i → i < D.files.length ∧ (D.file i).now.length ≤ 1099511627776) (h : Sat w0 w (DskRep d D :: F)) :
    Calls Tryz.prog 67 #[ptr d, .string s] w (Rtn fun v w' => ∃ ov, v = .tuple #[ov, errno (D.all s).2] ∧ Sat w0 w' (bsl ov (D.all s).1 :: DskRep d D :: F)) := by
  have hfd := rfind_c s hl h
  obtain ⟨fsv, fv, nv, wv, xs, g, hin, hR⟩ := DskRep.open h
  have Hin := Lib.hid hin; have Hf := Lib.hid hf
  have e7 : w.cell? ⟨d, 7, none⟩ = some (.bool D.off) := hR.cellP pick0 7 rfl
  clear h hin hf hl
  cases ho : D.off with
  | true =>
    have Ha := Lib.hid (show D.all s = ([], 12) by unfold Med.all; rw [ho]; rfl)
    rw [ho] at e7
    clear ho hfd
    go_enter Tryz.func67, Tryz.ntmps67
    go_wp2
    go_ret2
    refine ⟨_, rfl, .slice none 0 0, ?_, by rw [Ha.out]; exact Sat.osl_nil.2 (DskRep.shut Hin.out hR)⟩
    rw [Ha.out]; rfl
  | false =>
    cases hg : nget D.now s with
    | none =>
      have Ha := Lib.hid (show D.all s = ([], 9) by unfold Med.all; rw [ho, if_neg (by decide), hg])
      have Hw := Lib.hid (show D.which s = -1 by unfold Med.which; rw [hg])
      rw [Hw.out] at hfd
      rw [ho] at e7
      clear ho
      go_enter Tryz.func67, Tryz.ntmps67
      go_wp2_with fail
      refine hfd.mono ?_
      rintro ee w1 ⟨v, rfl, rfl, rfl⟩
      clear hfd
      go_wp2
      go_ret2
      refine ⟨_, rfl, .slice none 0 0, ?_, by rw [Ha.out]; exact Sat.osl_nil.2 (DskRep.shut Hin.out hR)⟩
      rw [Ha.out]; rfl
    | some i =>
      have Ha := Lib.hid (show D.all s = ((D.file i).now, 0) by unfold Med.all; rw [ho, if_neg (by decide), hg])
      have hw : D.which s = (i : Int) := by unfold Med.which; rw [hg]
      rw [hw] at hfd
      rw [ho] at e7
      have hh := rhere_c i (Hf.out i hg).1 Hin.out (Hf.out i hg).2 hR
      have c1 : decide ((i : Int) < 0) = false := by rw [decide_eq_false_iff_not]; omega
      have c2 : ¬ (i : Int) < 0 := by omega
      clear ho hw hg
      go_enter Tryz.func67, Tryz.ntmps67
      go_wp2_with fail
      refine hfd.mono ?_
      rintro ee w1 ⟨v, rfl, rfl, rfl⟩
      clear hfd
      go_wp2_with fail
      refine hh.mono ?_
      clear hh
      rintro ee w2 ⟨v, rfl, hS, a, n, c, rfl⟩
      clear e7 hR
      go_wp2
      go_ret2
      refine ⟨_, rfl, .slice a n c, ?_, ?_⟩
      · rw [Ha.out]; rfl
      · rw [Ha.out]; exact (DskRep.shut Hin.out (hS.sub (sub_take pick1 (sub_take pick1 (sub_take pick1 (sub_take pick1 (sub_take pick1 (sub_take pick0 sub_refl)))))))).sub (sub_take pick1 (sub_take pick0 sub_refl))
end
def usedOf (D : Med) (l : Names) : Nat := (l.map fun p => (D.file p.2).now.length).sum
theorem usedOf_snoc (D : Med) (l : Names) (p : ByteArray × Nat) : usedOf D (l ++ [p]) = usedOf D l + (D.file p.2).now.length := by unfold usedOf; simp
theorem usedOf_take (D : Med) {i : Nat} {p : ByteArray × Nat} (h : D.now[i]? = some p) : usedOf D (D.now.take (i + 1)) = usedOf D (D.now.take i) + (D.file p.2).now.length := by
  rw [List.take_add_one, h]; exact usedOf_snoc D _ p
theorem usedOf_le (D : Med) (i : Nat) : usedOf D (D.now.take i) ≤ D.used := by
  have e : D.used = usedOf D (D.now.take i ++ D.now.drop i) := by rw [List.take_append_drop]; rfl
  rw [e]; unfold usedOf; rw [List.map_append, List.sum_append]; omega
section
variable {w0 w : World} {F R : List HProp} {d : Nat} {D : Med} {fsv fv nv wv v lv : Value} {xs : List RF} {g : Bag} {K : Nat}
set_option maxRecDepth 20000 in
set_option maxHeartbeats 4000000 in
theorem rused_c (hl : D.now.length ≤ 1048576) (hu : D.used ≤ 1099511627776) (hv : ∀ p ∈ D.now, p.2 < D.files.length) (h : Sat w0 w (DskRep d D :: F)) :
    Calls Tryz.prog 131 #[ptr d] w (Rtn fun v w' => v = .int .i64 D.used ∧ Sat w0 w' (DskRep d D :: F)) := by
  obtain ⟨fsv, fv, nv, wv, xs, g, hin, hR⟩ := DskRep.open h
  have Hin := Lib.hid hin; have Hl := Lib.hid hl; have Hu := Lib.hid hu; have Hv := Lib.hid hv
  have Hlx := Lib.hid (show xs.length = D.files.length by rw [← hin.files, List.length_map])
  have hn := rnames_c hR
  obtain ⟨na, nc, rfl⟩ := nms_sl (bag_ro (w0 := w0) hin.now w (hR.pick pick3))
  obtain ⟨fa, fn, fc, rfl, hfn, _⟩ := Sat.rd (hR.pick pick1)
  rw [rfsL_len] at hfn
  obtain rfl : fn = xs.length := by omega
  clear h hin hl hu hv hfn
  go_enter Tryz.func131, Tryz.ntmps131
  go_wp2_with fail
  refine hn.mono ?_
  rintro ee w1 ⟨v, rfl, rfl, rfl⟩
  clear hn
  go_wp2_with fail
  go_loopg [4, 5] D.now.length (fun g' nq iq wr => ∃ i : Nat, g' = D.now.length - i ∧ i ≤ D.now.length ∧ nq = .int .i64 (usedOf D (D.now.take i) : Nat) ∧ iq = .int .i64 i ∧ Sat w0 wr (dskPt d D (.slice fa xs.length fc) fv (.slice na D.now.length nc) wv :: osl 164 3 (.slice fa xs.length fc) (rfsL xs) :: stars (xs.map rfR) :: bagR g :: osl 243 3 wv (D.waits.flatMap rlkL) :: F))
  case atStart => exact ⟨0, rfl, Nat.zero_le _, rfl, rfl, hR⟩
  case round =>
    obtain ⟨i, rfl, hi, rfl, rfl, hS⟩ := hrel
    clear hR
    by_cases hlt : i < D.now.length
    · have hl := Hl.out
      have c1 : (i : Int) < (D.now.length : Int) := by omega
      have hwi : IntKind.i64.wrap ((i : Int) + 1) = (i : Int) + 1 := IntWalk.i64_in _ (by omega)
      obtain ⟨p, hp⟩ : ∃ p, D.now[i]? = some p := ⟨_, List.getElem?_eq_getElem hlt⟩
      have hS2 := hS.drew
      obtain ⟨bk, off, c, hee, _, e1⟩ := nms_cells (bag_ro (w0 := w0) Hin.out.now _ (hS2.pick pick3)) hp
      cases hee
      have hpf := Hv.out p (List.mem_of_getElem? hp)
      obtain ⟨x, hx, hxf⟩ := Hin.out.file hpf
      have hlx := Hlx.out
      obtain ⟨_, h1, _⟩ := rfsL_at hx
      obtain ⟨bk2, off2, hfe, hc⟩ := rdsl_cells (Sat.rd (hS2.pick pick1)) h1
      subst hfe
      have e2 : (World.drew wr).cell? ⟨bk2, off2 + p.2 * 3 + 1, none⟩ = some x.nv := by rw [Nat.add_assoc]; exact hc _ _ h1
      obtain ⟨xa, xn, xc, hxe, hxl, _⟩ := (file_ro (w0 := w0) (List.mem_of_getElem? hx)).1 _ (hS2.pick pick2)
      rw [hxe] at e2
      have hxn : xn = (D.file p.2).now.length := by rw [← hxf]; unfold bys at hxl; rw [List.length_map] at hxl; omega
      subst hxn
      have e0 : (World.drew wr).cell? ⟨d, 1, none⟩ = some (.slice (some ⟨bk2, off2, none⟩) xs.length fc) := hS2.cellP pick0 1 rfl
      have c2 : (p.2 : Int) < (xs.length : Int) := by omega
      have Hus := Lib.hid (usedOf_take D hp)
      have hle := usedOf_le D (i + 1)
      rw [Hus.out] at hle
      have hu := Hu.out
      have hw2 : IntKind.i64.wrap ((usedOf D (D.now.take i) : Int) + ((D.file p.2).now.length : Int)) = (usedOf D (D.now.take i) : Int) + ((D.file p.2).now.length : Int) := IntWalk.i64_in _ (by omega)
      have Hlt := Lib.hid hlt
      have Hcast := Lib.hid (show ((usedOf D (D.now.take (i + 1)) : Nat) : Int) = (usedOf D (D.now.take i) : Int) + ((D.file p.2).now.length : Int) by rw [Hus.out]; omega)
      clear hlt hp hl hle hu Hus hx hxf hxe hxl hc h1 hpf hlx hS
      generalize usedOf D (D.now.take i) = U at *
      generalize (D.file p.2).now.length = V at *
      generalize p.2 = f at *
      go_wp2_with fail
      refine wpL_begin [13, 14, 15] (fun w' => w'.cell? ⟨d, 1, none⟩ = some (.slice (some ⟨bk2, off2, none⟩) xs.length fc) ∧ w'.cell? ⟨bk, off + i * 2 + 1, none⟩ = some (.int .i64 f) ∧ w'.cell? ⟨bk2, off2 + f * 3 + 1, none⟩ = some (.slice xa V xc)) (by kernel_rfl) ?_
      have hG := And.intro e0 (And.intro e1 e2)
      refine rp 0 (hy := (yl_move evD)) (h := ?_)
      refine rp 1 (hy := (yl_move evD)) (h := ?_)
      refine rp 2 (hy := (yl_nil evD)) (h := ?_)
      refine rp 3 (hy := (yl_field evD rnD)) (h := ?_)
      refine rt 4 (h := ?_)
      refine rp 5 (hy := (yl_move evD)) (h := ?_)
      refine rp 6 (hy := (yl_move evD)) (h := ?_)
      refine rp 7 (hy := (yl_index evD evD rnD)) (h := ?_)
      refine rp 8 (hy := (yl_field evD rnD)) (h := ?_)
      refine rt 9 (h := ?_)
      refine rp 10 (hy := (yl_index evD evD rnD)) (h := ?_)
      refine rp 11 (hy := (yl_field evD rnD)) (h := ?_)
      refine rt 12 (h := ?_)
      refine rp 13 (hy := (yl_len evD rnD)) (h := ?_)
      refine rp 14 (hy := (yl_bin evD evD rnD)) (h := ?_)
      refine rp 15 (hy := (yl_assign evD)) (h := ?_)
      refine wpL_done (by kernel_rfl) ?_
      clear hG
      try simp only [List.getElem_toArray, List.getElem_cons_succ, List.getElem_cons_zero]
      try go_frame
      go_wp2
      go_roundg (D.now.length - (i + 1))
      case measure => have := Hlt.out; omega
      case rel => exact ⟨i + 1, rfl, Nat.succ_le_of_lt Hlt.out, by rw [Hcast.out], by first | rfl | go_num, hS2⟩
    · obtain rfl : i = D.now.length := by omega
      have c1 : ¬ (D.now.length : Int) < (D.now.length : Int) := by omega
      rw [List.take_length]
      clear hlt
      go_wp2
      go_ret
      exact ⟨_, rfl, rfl, DskRep.shut Hin.out hS⟩
end
def nilV : Value := .slice none 0 0
def RF.zero : RF := ⟨Fil.new, .slice none 0 0, .slice none 0 0, .slice none 0 0, []⟩
theorem step_files (D : Med) : D.step.1.files = D.files := by unfold Med.step; split; (split <;> rfl); rfl
theorem step_now (D : Med) : D.step.1.now = D.now := by unfold Med.step; split; (split <;> rfl); rfl
theorem step_fast (D : Med) : D.step.1.fast = D.fast := by unfold Med.step; split; (split <;> rfl); rfl
theorem step_waits (D : Med) : D.step.1.waits = D.waits := by unfold Med.step; split; (split <;> rfl); rfl
section
variable {w0 w : World} {F R : List HProp} {d : Nat} {D : Med} {fsv fv nv wv v lv : Value} {xs : List RF} {g : Bag} {K : Nat}
theorem rf_zero (h : Sat w0 w (stars (xs.map rfR) :: F)) : Sat w0 w (stars ((xs ++ [RF.zero]).map rfR) :: F) := by
  rw [List.map_append, stars_append]
  refine Sat.star.2 ?_
  refine Sat.sub (L := stars ([RF.zero].map rfR) :: stars (xs.map rfR) :: F) ?_ (sub_take pick1 (sub_take pick0 sub_refl))
  refine Sat.star.2 ?_
  have h1 : Sat w0 w (stars ([] : List HProp) :: stars (xs.map rfR) :: F) := Sat.emp.2 h
  refine Sat.star.2 ?_
  exact Sat.osl_nil.2 (Sat.star.2 (Sat.osl_nil.2 (Sat.star.2 (Sat.osl_nil.2 (Sat.star.2 (Sat.emp.2 (Sat.emp.2 h1)))))))
theorem app_len {a : Option Addr} {n c : Nat} {ks : List Value} (hA : Sat w0 w (osl 164 3 (.slice a n c) (rfsL xs ++ ks) :: R)) (hk : ks.length = 3) : n = xs.length + 1 := by
  obtain ⟨_, _, _, he, hl, _⟩ := Sat.rd hA
  cases he
  rw [List.length_append, rfsL_len, hk] at hl
  omega
set_option maxRecDepth 20000 in
set_option maxHeartbeats 8000000 in
theorem rcreate_c (s : ByteArray) (hs : s.size ≤ 9223372036854775806) (hl : D.now.length ≤ 1048575) (hw : D.waits.length ≤ 1048576) (hfs : D.files.length ≤ 1048576) (hlf : D.left ≤ 9223372036854775807) (h : Sat w0 w (DskRep d D :: F)) :
    Calls Tryz.prog 108 #[ptr d, .string s] w (Rtn fun v w' => v = errno (D.create s).2 ∧ Sat w0 w' (DskRep d (D.create s).1 :: F)) := by
  have hfd := rfind_c s (by omega) h
  obtain ⟨fsv, fv, nv, wv, xs, g, hin, hR⟩ := DskRep.open h
  have Hin := Lib.hid hin; have Hl := Lib.hid hl; have Hw := Lib.hid hw; have Hfs := Lib.hid hfs; have Hlf := Lib.hid hlf
  have e7 : w.cell? ⟨d, 7, none⟩ = some (.bool D.off) := hR.cellP pick0 7 rfl
  clear h hin hl hw hfs hlf
  have hn := rnames_c hR
  obtain ⟨na, nc, rfl⟩ := nms_sl (bag_ro (w0 := w0) Hin.out.now w (hR.pick pick3))
  have hgd := rgood_c s w hs
  cases ho : D.off with
  | true =>
    have Ha := Lib.hid (show D.create s = (D, 12) by unfold Med.create; rw [ho]; rfl)
    rw [ho] at e7
    clear ho hfd hn hgd
    go_enter Tryz.func108, Tryz.ntmps108
    go_wp2
    go_ret
    exact ⟨_, rfl, by rw [Ha.out]; rfl, by rw [Ha.out]; exact DskRep.shut Hin.out hR⟩
  | false =>
    rw [ho] at e7
    have Ho := Lib.hid (show ¬ (D.off = true) by rw [ho]; decide)
    clear ho
    cases hg : good s with
    | false =>
      have Ha := Lib.hid (show D.create s = (D, 7) by unfold Med.create; rw [if_neg Ho.out, if_pos hg])
      rw [hg] at hgd
      clear hfd hn hg
      go_enter Tryz.func108, Tryz.ntmps108
      go_wp2_with fail
      refine hgd.mono ?_
      rintro ee w1 ⟨v, rfl, rfl, rfl⟩
      clear hgd
      go_wp2
      go_ret
      exact ⟨_, rfl, by rw [Ha.out]; rfl, by rw [Ha.out]; exact DskRep.shut Hin.out hR⟩
    | true =>
      have Hg := Lib.hid (show ¬ (good s = false) by rw [hg]; decide)
      rw [hg] at hgd
      clear hg
      cases hk : nget D.now s with
      | some i =>
        have Ha := Lib.hid (show D.create s = (D, 10) by unfold Med.create; rw [if_neg Ho.out, if_neg Hg.out, hk]; rfl)
        have hwh : D.which s = (i : Int) := by unfold Med.which; rw [hk]
        rw [hwh] at hfd
        have c1 : 0 ≤ (i : Int) := by omega
        clear hn hk hwh
        go_enter Tryz.func108, Tryz.ntmps108
        go_wp2_with fail
        refine hgd.mono ?_
        rintro ee w1 ⟨v, rfl, rfl, rfl⟩
        clear hgd
        go_wp2_with fail
        refine hfd.mono ?_
        rintro ee w1 ⟨v, rfl, rfl, rfl⟩
        clear hfd
        go_wp2
        go_ret
        exact ⟨_, rfl, by rw [Ha.out]; rfl, by rw [Ha.out]; exact DskRep.shut Hin.out hR⟩
      | none =>
        have hwh : D.which s = -1 := by unfold Med.which; rw [hk]
        rw [hwh] at hfd
        have Hk := Lib.hid (show ¬ ((nget D.now s).isSome = true) by rw [hk]; decide)
        clear hk hwh
        by_cases hb : 500 ≤ D.now.length
        · have Ha := Lib.hid (show D.create s = (D, 16) by unfold Med.create; rw [if_neg Ho.out, if_neg Hg.out, if_neg Hk.out, if_pos hb])
          have c1 : 500 ≤ (D.now.length : Int) := by omega
          clear hb
          go_enter Tryz.func108, Tryz.ntmps108
          go_wp2_with fail
          refine hgd.mono ?_
          rintro ee w1 ⟨v, rfl, rfl, rfl⟩
          clear hgd
          go_wp2_with fail
          refine hfd.mono ?_
          rintro ee w1 ⟨v, rfl, rfl, rfl⟩
          clear hfd
          go_wp2_with fail
          refine hn.mono ?_
          rintro ee w1 ⟨v, rfl, rfl, rfl⟩
          clear hn
          go_wp2
          go_ret
          exact ⟨_, rfl, by rw [Ha.out]; rfl, by rw [Ha.out]; exact DskRep.shut Hin.out hR⟩
        · have c1 : ¬ 500 ≤ (D.now.length : Int) := by omega
          have Hb := Lib.hid hb
          clear hb
          have hst := rstep_c hR Hlf.out
          go_enter Tryz.func108, Tryz.ntmps108
          go_wp2_with fail
          refine hgd.mono ?_
          rintro ee w1 ⟨v, rfl, rfl, rfl⟩
          clear hgd
          go_wp2_with fail
          refine hfd.mono ?_
          rintro ee w1 ⟨v, rfl, rfl, rfl⟩
          clear hfd
          go_wp2_with fail
          refine hn.mono ?_
          rintro ee w1 ⟨v, rfl, rfl, rfl⟩
          clear hn
          go_wp2_with fail
          refine hst.mono ?_
          clear hst
          rintro ee w2 ⟨v, rfl, rfl, hS⟩
          clear hR e7 c1
          have hin2 : DskIn D.step.1 fv (.slice na D.now.length nc) xs g := ⟨by rw [step_files]; exact Hin.out.files, Hin.out.ok, by rw [step_fast]; exact Hin.out.fast, by rw [step_now]; exact Hin.out.now⟩
          have Hin2 := Lib.hid hin2
          clear hin2
          cases ht : D.step.2 with
          | false =>
            have Ha := Lib.hid (show D.create s = (D.step.1, 12) by unfold Med.create; rw [if_neg Ho.out, if_neg Hg.out, if_neg Hk.out, if_neg Hb.out, if_pos ht])
            clear ht
            rw [← step_waits] at hS
            go_wp2
            go_ret
            exact ⟨_, rfl, by rw [Ha.out]; rfl, by rw [Ha.out]; exact DskRep.shut Hin2.out hS⟩
          | true =>
            have Ha := Lib.hid (show D.create s = ({ D.step.1 with files := D.files ++ [Fil.new] }.link ⟨ByteArray.empty, s, D.files.length⟩, 0) by unfold Med.create; rw [if_neg Ho.out, if_neg Hg.out, if_neg Hk.out, if_neg Hb.out, if_neg (by rw [ht]; decide)])
            clear ht Ho Hg Hk Hb
            have Hl1 := Lib.hid (show D.step.1.now.length ≤ 1048575 by rw [step_now]; exact Hl.out)
            have Hw1 := Lib.hid (show D.step.1.waits.length ≤ 1048576 by rw [step_waits]; exact Hw.out)
            have Hlx := Lib.hid (show xs.length = D.files.length by rw [← Hin.out.files, List.length_map])
            have hfs := Hfs.out
            have hlx := Hlx.out
            rw [← step_waits] at hS
            obtain ⟨fa, fn, fc, rfl, hfn, _⟩ := Sat.rd (hS.pick pick1)
            rw [rfsL_len] at hfn
            obtain rfl : fn = xs.length := by omega
            have hlen : (rfsL xs).length ≤ 2147483648 := by rw [rfsL_len]; omega
            have hw1 : IntKind.i64.wrap (xs.length : Int) = (xs.length : Int) := IntWalk.i64_in _ (by omega)
            have hw2 : IntKind.i64.wrap (((xs.length + 1 : Nat) : Int) - 1) = (xs.length : Int) := by rw [show ((xs.length + 1 : Nat) : Int) - 1 = (xs.length : Int) by omega]; exact hw1
            clear hfn hfs hlx
            generalize D.step.1 = D1 at *
            go_wp2_with (first
              | ((with_reducible apply at_load); refine ⟨?_⟩; refine wl_load1 (by assumption) (by rfl) pkD (Nat.le_of_ble_eq_true (by rfl)) evD (by kernel_rfl) ?_)
              | ((with_reducible apply at_build1); refine ⟨?_⟩; refine wl_build1 (e := 164) (sz := 3) (by' := 72) (by kernel_rfl) hS (by rfl) (cs := #[.slice none 0 0, .slice none 0 0, .slice none 0 0]) rfl rfl (Nat.le_of_ble_eq_true (by rfl)) ?_; intro bN wN hN)
              | ((with_reducible apply at_append); refine ⟨?_⟩; refine wl_app 164 3 72 (by kernel_rfl) hN (by rfl) (by rfl) (pick_there (pick_there pick0)) pick0 (by rfl) (Nat.le_refl 1) (by rfl) hlen (by show 3 ≤ 65536; decide) (by decide) rfl ?_; intro bA nA cA wA hA; obtain rfl := app_len hA rfl)
              | ((with_reducible apply at_store); refine ⟨?_⟩; refine wl_store (by assumption) (by rfl) evD (by first | (simp only [putsAt, Value.cells]; (try go_frame); first | done | rfl) | rfl) upD (Nat.le_of_ble_eq_true (by rfl)) (by kernel_rfl) (by rfl) ?_; intro wS hS))
            have h5 := rf_zero (hS.sub (sub_take pick2 (sub_take pick1 (sub_take pick0 (sub_take pick0 (sub_take pick0 sub_refl))))))
            rw [show rfsL xs ++ [Value.slice none 0 0, .slice none 0 0, .slice none 0 0] = rfsL (xs ++ [RF.zero]) by unfold rfsL; rw [List.flatMap_append]; rfl] at h5
            have h6 := DskRep.shut (D := { D1 with files := D.files ++ [Fil.new] }) (xs := xs ++ [RF.zero]) (fv := fv) ⟨by rw [List.map_append, Hin.out.files]; rfl, (fun x hx => by rcases List.mem_append.1 hx with hx | hx; exact Hin.out.ok x hx; rw [List.mem_singleton.1 hx]; rfl), Hin2.out.fast, Hin2.out.now⟩ (h5.sub (sub_take pick1 (sub_take pick1 (sub_take pick0 (sub_take pick0 (sub_take pick0 sub_refl))))))
            refine (rwait_c (D := { D1 with files := D.files ++ [Fil.new] }) ⟨ByteArray.empty, s, xs.length⟩ Hl1.out Hw1.out h6).mono ?_
            rintro ee w5 ⟨v, rfl, h7⟩
            clear hS hN hA h5 h6 hw1 hw2
            go_wp2
            go_ret
            exact ⟨_, rfl, by rw [Ha.out]; rfl, by rw [Ha.out, ← Hlx.out]; exact h7⟩
end
end Go.Proofs.YtmjldaedhmipkaaGreatDoor
namespace Go.Med
theorem xorAt_len (l : Bs) (i : Nat) (y : UInt8) : (xorAt l i y).length = l.length := by unfold xorAt; simp
def Alike (c d : Chg) : Prop := d.cut = c.cut ∧ d.n = c.n ∧ d.b.length = c.b.length
theorem on_len {c d : Chg} (h : Alike c d) {l l' : Bs} (hl : l'.length = l.length) : (d.on l').length = (c.on l).length := by
  obtain ⟨h1, h2, h3⟩ := h
  unfold Chg.on
  rw [h1]
  split
  · simp [h2, hl]
  · simp [h3, hl]
theorem at_len {f g : Fil} (h0 : g.fast.length = f.fast.length) (hw : g.waits.length = f.waits.length)
    (hc : ∀ (k : Nat) (c d : Chg), f.waits[k]? = some c → g.waits[k]? = some d → Alike c d) : ∀ k, k ≤ f.waits.length → (g.at k).length = (f.at k).length := by
  intro k
  induction k with
  | zero => intro _; exact h0
  | succ k ih =>
    intro hk
    have h1 : f.waits[k]? = some (f.waits[k]'(by omega)) := List.getElem?_eq_getElem _
    have h2 : g.waits[k]? = some (g.waits[k]'(by omega)) := List.getElem?_eq_getElem _
    rw [f.at_succ k _ h1, g.at_succ k _ h2]
    exact on_len (hc k _ _ h1 h2) (ih (by omega))
theorem xorAt_left {l : Bs} {i : Nat} (y : UInt8) (b : Bs) (h : i < l.length) : xorAt (l ++ b) i y = xorAt l i y ++ b := by
  unfold xorAt
  rw [List.set_append_left _ _ h, List.getD_eq_getElem?_getD, List.getElem?_append_left h, List.getD_eq_getElem?_getD]
theorem xorAt_right {l : Bs} {i : Nat} (y : UInt8) (b : Bs) (h : l.length ≤ i) : xorAt (l ++ b) i y = l ++ xorAt b (i - l.length) y := by
  unfold xorAt
  rw [List.set_append_right _ _ h, List.getD_eq_getElem?_getD, List.getElem?_append_right h, List.getD_eq_getElem?_getD]
theorem xorAt_take (l : Bs) (i n : Nat) (y : UInt8) : (xorAt l i y).take n = xorAt (l.take n) i y := by
  unfold xorAt
  rw [List.take_set]
  by_cases h : i < n
  · rw [List.getD_eq_getElem?_getD, List.getD_eq_getElem?_getD, List.getElem?_take_of_lt h]
  · rw [List.set_eq_of_length_le (by simp; omega), List.set_eq_of_length_le (by simp; omega)]
theorem on_xor (c : Chg) (l : Bs) (i : Nat) (y : UInt8) (h : c.cut = true ∨ i < l.length) : c.on (xorAt l i y) = xorAt (c.on l) i y := by
  unfold Chg.on
  cases hc : c.cut
  · simp only [Bool.false_eq_true, if_false]
    rcases h with h | h
    · rw [hc] at h; cases h
    · exact (xorAt_left y c.b h).symm
  · simp only [if_true]; exact xorAt_take l i c.n y
def Past (f : Fil) (i k n : Nat) : Prop := ∀ (j : Nat) (c : Chg), k ≤ j → j < n → f.waits[j]? = some c → c.cut = true ∨ i < (f.at j).length
theorem at_xor {f g : Fil} {i k : Nat} {y : UInt8} (h0 : g.at k = xorAt (f.at k) i y) (hw : ∀ j, k ≤ j → g.waits[j]? = f.waits[j]?) (hp : Past f i k f.waits.length) :
    ∀ j, k ≤ j → j ≤ f.waits.length → g.at j = xorAt (f.at j) i y := by
  intro j hj
  induction hj with
  | refl => intro _; exact h0
  | @step j hk ih =>
    intro hl
    have h1 : f.waits[j]? = some (f.waits[j]'(by omega)) := List.getElem?_eq_getElem _
    have h2 : g.waits[j]? = some (f.waits[j]'(by omega)) := by rw [hw j hk]; exact h1
    rw [f.at_succ j _ h1, g.at_succ j _ h2, ih (by omega)]
    exact on_xor _ _ _ _ (hp j _ hk (by omega) h1)
theorem rotWaits_spec (f : Fil) (i : Nat) (y : UInt8) : ∀ n, n ≤ f.waits.length →
    (rotWaits f i y n = none ∧ Past f i 0 n) ∨
    ∃ (k : Nat) (c : Chg), k < n ∧ f.waits[k]? = some c ∧ c.cut = false ∧ (f.at k).length ≤ i ∧ rotWaits f i y n = some (f.waits.set k { c with b := xorAt c.b (i - (f.at k).length) y }) ∧ Past f i (k + 1) n
  | 0, _ => .inl ⟨rfl, fun j c _ h => by omega⟩
  | n + 1, hn => by
    have h1 : f.waits[n]? = some (f.waits[n]'(by omega)) := List.getElem?_eq_getElem _
    generalize f.waits[n]'(by omega) = c at h1
    have step : (c.cut = true ∨ i < (f.at n).length) → rotWaits f i y (n + 1) = rotWaits f i y n := by
      intro h
      show (match f.waits[n]? with | none => _ | some c => _) = _
      rw [h1]
      simp only
      rcases h with h | h
      · rw [if_pos h]
      · split
        · rfl
        · rw [if_neg (by omega)]
    have past : ∀ k, (c.cut = true ∨ i < (f.at n).length) → Past f i k n → Past f i k (n + 1) := by
      intro k h hp j d hk hj hd
      rcases Nat.lt_or_ge j n with hlt | hge
      · exact hp j d hk hlt hd
      · obtain rfl : j = n := by omega
        rw [h1] at hd; cases hd; exact h
    by_cases h : c.cut = true ∨ i < (f.at n).length
    · rcases rotWaits_spec f i y n (by omega) with ⟨h2, h3⟩ | ⟨k, d, h2, h3, h4, h5, h6, h7⟩
      · exact .inl ⟨(step h).trans h2, past 0 h h3⟩
      · exact .inr ⟨k, d, by omega, h3, h4, h5, (step h).trans h6, past _ h h7⟩
    · have hc : c.cut = false := by cases hcc : c.cut; rfl; exact absurd (.inl hcc) h
      have hl : (f.at n).length ≤ i := Nat.le_of_not_lt fun h' => h (.inr h')
      refine .inr ⟨n, c, by omega, h1, hc, hl, ?_, fun j d hk hj => by omega⟩
      show (match f.waits[n]? with | none => _ | some c => _) = _
      rw [h1]
      simp only [hc, Bool.false_eq_true, if_false]
      rw [if_pos hl]
theorem rot_ok_of {f g : Fil} {K : Nat} (h : f.Ok K) (h0 : g.fast.length = f.fast.length) (hw : g.waits.length = f.waits.length)
    (hc : ∀ (k : Nat) (c d : Chg), f.waits[k]? = some c → g.waits[k]? = some d → Alike c d) (hn : g.now = g.at f.waits.length) : g.Ok K := by
  have hl := at_len h0 hw hc
  refine ⟨by rw [hw]; exact hn, ?_, ?_, by rw [hw]; exact h.budget⟩
  · intro k d hk hd
    have hlt : k < g.waits.length := (List.getElem?_eq_some_iff.1 hk).1
    obtain ⟨c, hcc⟩ : ∃ c, f.waits[k]? = some c := ⟨f.waits[k]'(by omega), List.getElem?_eq_getElem _⟩
    obtain ⟨a1, a2, a3⟩ := hc k c d hcc hk
    rw [hl k (by omega), a2]
    exact h.cuts k c hcc (by rw [← a1]; exact hd)
  · intro k hk
    rw [hl k (by omega)]
    exact h.size k (by omega)
theorem Fil.Ok.rot {f : Fil} {K : Nat} (h : f.Ok K) (i : Nat) (y : UInt8) : (f.rot i y).Ok K ∧ (f.rot i y).now = xorAt f.now i y := by
  rcases rotWaits_spec f i y f.waits.length (Nat.le_refl _) with ⟨h1, h2⟩ | ⟨k, c, hk, hc, hcut, hlen, h1, h2⟩
  · have e : f.rot i y = { f with now := xorAt f.now i y, fast := xorAt f.fast i y } := by unfold Fil.rot; rw [h1]
    rw [e]
    refine ⟨rot_ok_of h (xorAt_len _ _ _) rfl (fun k c d h3 h4 => ?_) ?_, rfl⟩
    · rw [h3] at h4; cases h4; exact ⟨rfl, rfl, rfl⟩
    · have := at_xor (f := f) (g := { f with now := xorAt f.now i y, fast := xorAt f.fast i y }) (i := i) (k := 0) (y := y) rfl (fun j _ => rfl) h2 f.waits.length (Nat.zero_le _) (Nat.le_refl _)
      rw [this, ← h.now]
  · have e : f.rot i y = { f with now := xorAt f.now i y, waits := f.waits.set k { c with b := xorAt c.b (i - (f.at k).length) y } } := by unfold Fil.rot; rw [h1]
    rw [e]
    have hset : (f.waits.set k { c with b := xorAt c.b (i - (f.at k).length) y })[k]? = some { c with b := xorAt c.b (i - (f.at k).length) y } := by rw [List.getElem?_set_self hk]
    refine ⟨rot_ok_of h rfl (by simp) (fun j c' d h3 h4 => ?_) ?_, rfl⟩
    · simp only at h4
      by_cases hj : k = j
      · subst hj
        rw [hset] at h4
        rw [hc] at h3
        cases h3; cases h4
        exact ⟨rfl, rfl, xorAt_len _ _ _⟩
      · rw [List.getElem?_set_ne hj, h3] at h4
        cases h4; exact ⟨rfl, rfl, rfl⟩
    · generalize hg : ({ f with now := xorAt f.now i y, waits := f.waits.set k { c with b := xorAt c.b (i - (f.at k).length) y } } : Fil) = g
      have hgw : g.waits = f.waits.set k { c with b := xorAt c.b (i - (f.at k).length) y } := by rw [← hg]
      have hgf : g.fast = f.fast := by rw [← hg]
      have hgn : g.now = xorAt f.now i y := by rw [← hg]
      have hk0 : g.at k = f.at k := by unfold Fil.at; rw [hgw, hgf, List.take_set_of_le (Nat.le_refl _)]
      have hk1 : g.at (k + 1) = xorAt (f.at (k + 1)) i y := by
        rw [g.at_succ k _ (by rw [hgw]; exact hset), hk0, f.at_succ k c hc]
        unfold Chg.on
        simp only [hcut, Bool.false_eq_true, if_false]
        rw [xorAt_right y c.b hlen]
      have := at_xor hk1 (fun j hj => by rw [hgw, List.getElem?_set_ne (by omega)]) h2 f.waits.length hk (Nat.le_refl _)
      rw [this, hgn, ← h.now]
theorem Med.Ok.rot {M : Med} {K : Nat} (h : M.Ok K) (s : ByteArray) (i : Int) (y : UInt8) : (M.rot s i y).1.Ok (K + 1) := by
  unfold Med.rot
  split
  · exact h.mono (Nat.le_succ _)
  · split
    · exact h.mono (Nat.le_succ _)
    · exact h.setFile _ _ (((h.file _).rot _ _).1.mono (Nat.le_succ _))
end Go.Med
namespace Go.Med
structure Cal where
  kind : Int
  name : ByteArray
  to : ByteArray
  n : Int
  m : Int
  b : Bs
  l : List Int
def lowByte (m : Int) : UInt8 := UInt8.ofNat (m % 256).toNat
def Med.does (M : Med) (x : Cal) : Med × (Bs × Int × Bool) :=
  if x.kind = 0 then ((M.create x.name).1, [], (M.create x.name).2, false)
  else if x.kind = 1 then ((M.append x.name x.b).1, [], (M.append x.name x.b).2, false)
  else if x.kind = 2 then ((M.truncate x.name x.n).1, [], (M.truncate x.name x.n).2, false)
  else if x.kind = 3 then ((M.rename x.name x.to).1, [], (M.rename x.name x.to).2, false)
  else if x.kind = 4 then ((M.remove x.name).1, [], (M.remove x.name).2, false)
  else if x.kind = 5 then ((M.sync x.name).1, [], (M.sync x.name).2, false)
  else if x.kind = 6 then (M.syncDir.1, [], M.syncDir.2, false)
  else if x.kind = 7 then ((M.arm x.n).1, [], (M.arm x.n).2, false)
  else if x.kind = 8 then (M.crash x.l, [], 0, false)
  else if x.kind = 9 then ((M.setRoom x.n).1, [], (M.setRoom x.n).2, false)
  else if x.kind = 10 then ((M.rot x.name x.n (lowByte x.m)).1, [], 0, (M.rot x.name x.n (lowByte x.m)).2)
  else (M, (M.read x.name x.n x.m).1, (M.read x.name x.n x.m).2, false)
structure Quiet (M : Med) : Prop where
  armed : M.armed = false
  off : M.off = false
  left : M.left = 0
theorem Quiet.new (r : Nat) : Quiet (new r) := ⟨rfl, rfl, rfl⟩
theorem Quiet.step {M : Med} (h : Quiet M) : M.step = (M, true) := by simp [Med.step, h.armed]
theorem Quiet.setFile {M : Med} (h : Quiet M) (i : Nat) (f : Fil) : Quiet (M.setFile i f) := ⟨h.armed, h.off, h.left⟩
theorem Quiet.create {M : Med} (h : Quiet M) (s : ByteArray) : Quiet (M.create s).1 := by
  unfold Med.create
  rw [h.step]
  split; · exact h
  split; · exact h
  split; · exact h
  split; · exact h
  split; · exact h
  exact ⟨h.armed, h.off, h.left⟩
theorem Quiet.append {M : Med} (h : Quiet M) (s : ByteArray) (b : Bs) : Quiet (M.append s b).1 := by
  unfold Med.append
  rw [h.step]
  split; · exact h
  split; · exact h
  split; · exact h
  split; · exact h
  exact h.setFile _ _
def Med.plays : Med → List Cal → Med
  | M, [] => M
  | M, x :: l => Med.plays (if x.kind = 7 then M else (M.does x).1) l
def FFlat (f : Fil) : Prop := f.now = f.fast ∧ f.waits = []
structure Flat (M : Med) : Prop where
  quiet : Quiet M
  fast : M.fast = M.now
  waits : M.waits = []
  files : ∀ p ∈ M.now, FFlat (M.file p.2)
def Med.syncs : Med → List ByteArray → Med
  | M, [] => M
  | M, s :: l => Med.syncs (M.sync s).1 l
structure Synced (M M' : Med) : Prop where
  room : M'.room = M.room
  fast : M'.fast = M.fast
  now : M'.now = M.now
  waits : M'.waits = M.waits
  quiet : Quiet M'
  bytes : ∀ i, (M'.file i).now = (M.file i).now
  len : M'.files.length = M.files.length
theorem file_set {M : Med} {i : Nat} {f : Fil} (hi : i < M.files.length) (j : Nat) : (M.setFile i f).file j = if j = i then f else M.file j := by
  unfold Med.setFile Med.file
  simp only [List.getD_eq_getElem?_getD]
  split
  · rename_i h; subst h; rw [List.getElem?_set_self hi]; rfl
  · rename_i h; rw [List.getElem?_set_ne (Ne.symm h)]
def Moms (M : Med) (l : List (List ByteArray)) : Prop := ∀ k, k ≤ M.waits.length → (M.lastNames k).map (·.1) ∈ l
def Ext (M M' : Med) : Prop := M'.fast = M.fast ∧ (M'.waits = M.waits ∨ ∃ y, M'.waits = M.waits ++ [y])
structure Armed (n : Nat) (M : Med) : Prop where
  armed : M.armed = true
  off : M.off = false
  left : M.left = n
def Dst (M : Med) : Prop := (M.now.map (·.2)).Nodup
theorem used_split {M : Med} (hs : Srt M.now) (hd : Dst M) {s : ByteArray} {i : Nat} (h : nget M.now s = some i) :
    (∀ p ∈ ndel M.now s, p.2 ≠ i) ∧ ∀ g : Nat → Nat, (M.now.map fun p => g p.2).sum = g i + ((ndel M.now s).map fun p => g p.2).sum := by
  have hp := ndel_perm hs.keys (nget_mem h)
  constructor
  · have hd' : (M.now.map fun p : ByteArray × Nat => p.2).Nodup := hd
    have := (hp.map (fun p : ByteArray × Nat => p.2)).nodup_iff.1 hd'
    simp only [List.map_cons, List.nodup_cons] at this
    intro p hp e
    exact this.1 (List.mem_map.2 ⟨p, hp, e⟩)
  · intro g
    have := (hp.map fun p => g p.2).sum_nat
    simpa using this
theorem nodup_put {l : Names} {s : ByteArray} {i : Nat} (h : (l.map (·.2)).Nodup) (hi : ∀ p ∈ l, p.2 ≠ i) : ((nput l s i).map (·.2)).Nodup := by
  refine ((nput_perm l s i).map (·.2)).nodup_iff.2 ?_
  simp only [List.map_cons, List.nodup_cons]
  refine ⟨fun hm => ?_, h.sublist (List.filter_sublist.map _)⟩
  obtain ⟨p, hp, e⟩ := List.mem_map.1 hm
  exact hi p (List.mem_filter.1 hp).1 e
structure Fits (M M' : Med) : Prop where
  room : M'.room = M.room
  dst : Dst M'
  used : M'.used ≤ M'.room
end Go.Med
namespace Go.Med
def Med.rmove (m : Med) (s t : ByteArray) (gone : Bool) : Med × Int :=
  if m.off then (m, 12)
  else match nget m.now s with
  | none => (m, 9)
  | some i =>
    if gone = false ∧ good t = false then (m, 7)
    else if m.step.2 = false then (m.step.1, 12)
    else (m.step.1.link ⟨s, if gone then ByteArray.empty else t, i⟩, 0)
def Med.rfile (D : Med) (l : List Int) (i : Nat) (p : ByteArray × Nat) : Fil := (D.file p.2).crash (num l (2 * i + 1)) (num l (2 * i + 2))
def Med.rcrash (D : Med) (l : List Int) : Med :=
  let ns := D.lastNames (clampN (num l 0) D.waits.length)
  { D with fast := ns.mapIdx fun i p => (p.1, i), now := ns.mapIdx fun i p => (p.1, i), waits := [], files := ns.mapIdx (D.rfile l), off := false, armed := false, left := 0 }
def Med.told (D : Med) (x : Cal) : Med × (Bs × Int × Bool) :=
  if x.kind = 0 then ((D.create x.name).1, [], (D.create x.name).2, false)
  else if x.kind = 1 then ((D.append x.name x.b).1, [], (D.append x.name x.b).2, false)
  else if x.kind = 2 then ((D.truncate x.name x.n).1, [], (D.truncate x.name x.n).2, false)
  else if x.kind = 3 then ((D.rmove x.name x.to false).1, [], (D.rmove x.name x.to false).2, false)
  else if x.kind = 4 then ((D.rmove x.name ByteArray.empty true).1, [], (D.rmove x.name ByteArray.empty true).2, false)
  else if x.kind = 5 then ((D.sync x.name).1, [], (D.sync x.name).2, false)
  else if x.kind = 6 then (D.syncDir.1, [], D.syncDir.2, false)
  else if x.kind = 7 then ((D.arm x.n).1, [], (D.arm x.n).2, false)
  else if x.kind = 8 then (D.rcrash x.l, [], 0, false)
  else if x.kind = 9 then ((D.setRoom x.n).1, [], (D.setRoom x.n).2, false)
  else if x.kind = 10 then ((D.rot x.name x.n (lowByte x.m)).1, [], 0, (D.rot x.name x.n (lowByte x.m)).2)
  else (D, (D.read x.name x.n x.m).1, (D.read x.name x.n x.m).2, false)
def ren (φ : Nat → Nat) (l : Names) : Names := l.map fun p => (p.1, φ p.2)
theorem ren_len (φ : Nat → Nat) (l : Names) : (ren φ l).length = l.length := by unfold ren; rw [List.length_map]
theorem ren_keys (φ : Nat → Nat) (l : Names) : (ren φ l).map (·.1) = l.map (·.1) := by unfold ren; rw [List.map_map]; rfl
theorem ren_get (φ : Nat → Nat) (l : Names) (s : ByteArray) : nget (ren φ l) s = (nget l s).map φ := by
  unfold nget ren
  rw [List.find?_map, Option.map_map, Option.map_map]
  rfl
theorem ren_del (φ : Nat → Nat) (l : Names) (s : ByteArray) : ndel (ren φ l) s = ren φ (ndel l s) := by
  unfold ndel ren
  rw [List.filter_map]
  rfl
theorem ren_ins (φ : Nat → Nat) (s : ByteArray) (i : Nat) : ∀ l : Names, nins (ren φ l) s (φ i) = ren φ (nins l s i)
  | [] => rfl
  | p :: l => by
    show nins ((p.1, φ p.2) :: ren φ l) s (φ i) = ren φ (nins (p :: l) s i)
    unfold nins
    dsimp only
    split
    · rfl
    · rw [ren_ins φ s i l]; rfl
theorem ren_put (φ : Nat → Nat) (l : Names) (s : ByteArray) (i : Nat) : nput (ren φ l) s (φ i) = ren φ (nput l s i) := by
  unfold nput
  rw [ren_del, ren_ins]
theorem ren_on {φ : Nat → Nat} {x y : Lnk} (h1 : y.fr = x.fr) (h2 : y.to = x.to) (h3 : x.to ≠ ByteArray.empty → y.f = φ x.f) (l : Names) : y.on (ren φ l) = ren φ (x.on l) := by
  unfold Lnk.on
  rw [h1, h2]
  have e : (if x.fr = ByteArray.empty then ren φ l else ndel (ren φ l) x.fr) = ren φ (if x.fr = ByteArray.empty then l else ndel l x.fr) := by
    split
    · rfl
    · exact ren_del _ _ _
  dsimp only
  rw [e]
  split
  · rfl
  · rename_i ht
    rw [h3 ht, ren_put]
theorem ren_congr {φ ψ : Nat → Nat} {l : Names} (h : ∀ p ∈ l, φ p.2 = ψ p.2) : ren φ l = ren ψ l := by
  unfold ren
  exact List.map_congr_left fun p hp => by rw [h p hp]
structure Side (φ : Nat → Nat) (L : Nat → Prop) (M D : Med) : Prop where
  room : D.room = M.room
  armed : D.armed = M.armed
  left : D.left = M.left
  off : D.off = M.off
  wl : D.waits.length = M.waits.length
  now : D.now = ren φ M.now
  names : ∀ k, k ≤ M.waits.length → D.lastNames k = ren φ (M.lastNames k)
  live : ∀ k, k ≤ M.waits.length → ∀ p ∈ M.lastNames k, L p.2
  once : ∀ k, k ≤ M.waits.length → ((M.lastNames k).map (·.2)).Nodup
  inj : ∀ i j, L i → L j → φ i = φ j → i = j
  file : ∀ i, L i → D.file (φ i) = M.file i
  lt : ∀ i, L i → φ i < D.files.length
  ml : ∀ i, L i → i < M.files.length
theorem Side.new (r : Nat) : Side id (fun _ => False) (new r) (new r) :=
  ⟨rfl, rfl, rfl, rfl, rfl, rfl, (fun k hk => by simp [Med.new] at hk; subst hk; rfl), (fun k hk p hp => by simp [Med.new] at hk; subst hk; simp [Med.new, Med.lastNames] at hp), (fun k hk => by simp [Med.new] at hk; subst hk; exact List.nodup_nil), fun _ _ h => h.elim, fun _ h => h.elim, fun _ h => h.elim, fun _ h => h.elim⟩
theorem step_bits {M D : Med} (h1 : D.armed = M.armed) (h2 : D.left = M.left) (h3 : D.off = M.off) : D.step.1.armed = M.step.1.armed ∧ D.step.1.left = M.step.1.left ∧ D.step.1.off = M.step.1.off := by
  obtain ⟨room, fast, now, files, waits, armed, left, off⟩ := M
  obtain ⟨room', fast', now', files', waits', armed', left', off'⟩ := D
  simp only at h1 h2 h3
  subst h1; subst h2; subst h3
  unfold Med.step
  dsimp only
  cases armed'
  · exact ⟨rfl, rfl, rfl⟩
  · simp only [if_true]
    by_cases hz : left' = 0
    · simp only [hz, if_true]; exact ⟨trivial, trivial, trivial⟩
    · simp only [hz, if_false]; exact ⟨trivial, trivial, trivial⟩
section
variable {φ : Nat → Nat} {L : Nat → Prop} {M D : Med} {K : Nat}
theorem Side.step2 (h : Side φ L M D) : D.step.2 = M.step.2 := by
  unfold Med.step
  rw [h.armed, h.left]
  split
  · split <;> rfl
  · rfl
theorem Side.step (h : Side φ L M D) : Side φ L M.step.1 D.step.1 := by
  have hM := M.step_same; have hD := D.step_same
  obtain ⟨a1, a2, a3, a4, a5⟩ := hM
  obtain ⟨b1, b2, b3, b4, b5⟩ := hD
  have f1 : ∀ k, M.step.1.lastNames k = M.lastNames k := fun k => by unfold Med.lastNames; rw [a5, a2]
  have f2 : ∀ k, D.step.1.lastNames k = D.lastNames k := fun k => by unfold Med.lastNames; rw [b5, b2]
  have g1 : ∀ k, M.step.1.file k = M.file k := fun k => by unfold Med.file; rw [a4]
  have g2 : ∀ k, D.step.1.file k = D.file k := fun k => by unfold Med.file; rw [b4]
  have hal := step_bits h.armed h.left h.off
  exact ⟨by rw [a1, b1]; exact h.room, hal.1, hal.2.1, hal.2.2, by rw [a5, b5]; exact h.wl, by rw [a3, b3]; exact h.now, fun k hk => by rw [f1, f2]; rw [a5] at hk; exact h.names k hk, fun k hk => by rw [f1]; rw [a5] at hk; exact h.live k hk, fun k hk => by rw [f1]; rw [a5] at hk; exact h.once k hk, h.inj, fun i hi => by rw [g1, g2]; exact h.file i hi, fun i hi => by rw [b4]; exact h.lt i hi, fun i hi => by rw [a4]; exact h.ml i hi⟩
theorem Side.setFile (h : Side φ L M D) {i : Nat} (hi : L i) (f : Fil) : Side φ L (M.setFile i f) (D.setFile (φ i) f) := by
  have hD : (D.setFile (φ i) f).files.length = D.files.length := by simp [Med.setFile]
  have hM : (M.setFile i f).files.length = M.files.length := by simp [Med.setFile]
  refine ⟨h.room, h.armed, h.left, h.off, h.wl, h.now, h.names, h.live, h.once, h.inj, fun j hj => ?_, fun j hj => by rw [hD]; exact h.lt j hj, fun j hj => by rw [hM]; exact h.ml j hj⟩
  rw [file_set (h.lt i hi), file_set (h.ml i hi)]
  by_cases e : j = i
  · subst e; rw [if_pos rfl, if_pos rfl]
  · rw [if_neg e, if_neg fun e2 => e (h.inj j i hj hi e2)]
    exact h.file j hj
theorem Side.link (h : Side φ L M D) (ok : M.now = M.lastNames M.waits.length) {x y : Lnk} (h1 : y.fr = x.fr) (h2 : y.to = x.to) (h3 : x.to ≠ ByteArray.empty → y.f = φ x.f) (hl : ∀ p ∈ x.on M.now, L p.2) (hn : ((x.on M.now).map (·.2)).Nodup) :
    Side φ L (M.link x) (D.link y) := by
  have hM : (M.link x).waits.length = M.waits.length + 1 := by simp [Med.link]
  have hD : (D.link y).waits.length = D.waits.length + 1 := by simp [Med.link]
  have okD : D.now = D.lastNames D.waits.length := by rw [h.now, h.wl, h.names _ (Nat.le_refl _), ok]
  have hon : y.on D.now = ren φ (x.on M.now) := by rw [h.now]; exact ren_on h1 h2 h3 _
  have key : ∀ k, k ≤ (M.link x).waits.length → (k ≤ M.waits.length ∧ (M.link x).lastNames k = M.lastNames k ∧ (D.link y).lastNames k = D.lastNames k) ∨ ((M.link x).lastNames k = x.on M.now ∧ (D.link y).lastNames k = y.on D.now) := by
    intro k hk
    rw [hM] at hk
    rcases Nat.lt_or_ge k (M.waits.length + 1) with hlt | hge
    · exact .inl ⟨by omega, M.lastNames_link x k (by omega), D.lastNames_link y k (by rw [h.wl]; omega)⟩
    · obtain rfl : k = M.waits.length + 1 := by omega
      refine .inr ⟨M.lastNames_last x ok, ?_⟩
      rw [← h.wl]; exact D.lastNames_last y okD
  refine ⟨h.room, h.armed, h.left, h.off, by rw [hM, hD, h.wl], hon, fun k hk => ?_, fun k hk => ?_, fun k hk => ?_, h.inj, h.file, h.lt, h.ml⟩
  · rcases key k hk with ⟨a, b, c⟩ | ⟨a, b⟩
    · rw [b, c]; exact h.names k a
    · rw [a, b]; exact hon
  · rcases key k hk with ⟨a, b, c⟩ | ⟨a, b⟩
    · rw [b]; exact h.live k a
    · rw [a]; exact hl
  · rcases key k hk with ⟨a, b, c⟩ | ⟨a, b⟩
    · rw [b]; exact h.once k a
    · rw [a]; exact hn
theorem Side.newFile (h : Side φ L M D) (ok : M.now = M.lastNames M.waits.length) : Side (fun i => if i = M.files.length then D.files.length else φ i) (fun i => L i ∨ i = M.files.length) { M with files := M.files ++ [Fil.new] } { D with files := D.files ++ [Fil.new] } := by
  have hne : ∀ i, L i → i ≠ M.files.length := fun i hi => Nat.ne_of_lt (h.ml i hi)
  have hr : ∀ l : Names, (∀ p ∈ l, L p.2) → ren (fun i => if i = M.files.length then D.files.length else φ i) l = ren φ l := fun l hl => ren_congr fun p hp => if_neg (hne _ (hl p hp))
  have hlM : ∀ k, ({ M with files := M.files ++ [Fil.new] } : Med).lastNames k = M.lastNames k := fun _ => rfl
  have hlD : ∀ k, ({ D with files := D.files ++ [Fil.new] } : Med).lastNames k = D.lastNames k := fun _ => rfl
  have fM : ∀ i, i ≠ M.files.length → ({ M with files := M.files ++ [Fil.new] } : Med).file i = M.file i := by
    intro i hi
    unfold Med.file
    dsimp only
    rw [List.getD_eq_getElem?_getD, List.getD_eq_getElem?_getD]
    rcases Nat.lt_or_ge i M.files.length with a | a
    · rw [List.getElem?_append_left a]
    · rw [List.getElem?_eq_none (by simp; omega), List.getElem?_eq_none a]
  have fD : ∀ i, i < D.files.length → ({ D with files := D.files ++ [Fil.new] } : Med).file i = D.file i := by
    intro i hi
    unfold Med.file
    dsimp only
    rw [List.getD_eq_getElem?_getD, List.getD_eq_getElem?_getD, List.getElem?_append_left hi]
  refine ⟨h.room, h.armed, h.left, h.off, h.wl, ?_, fun k hk => ?_, fun k hk p hp => .inl (h.live k hk p hp), h.once, ?_, ?_, ?_, ?_⟩
  · show D.now = ren _ M.now
    rw [hr _ (by rw [ok]; exact h.live _ (Nat.le_refl _))]; exact h.now
  · rw [hlD, hlM, hr _ (h.live k hk)]; exact h.names k hk
  · intro i j hi hj e
    rcases hi with hi | rfl
    · rw [if_neg (hne i hi)] at e
      rcases hj with hj | rfl
      · rw [if_neg (hne j hj)] at e; exact h.inj i j hi hj e
      · rw [if_pos rfl] at e; have := h.lt i hi; omega
    · rw [if_pos rfl] at e
      rcases hj with hj | rfl
      · rw [if_neg (hne j hj)] at e; have := h.lt j hj; omega
      · rfl
  · intro i hi
    rcases hi with hi | rfl
    · rw [if_neg (hne i hi), fM i (hne i hi), fD _ (h.lt i hi)]; exact h.file i hi
    · rw [if_pos rfl]
      unfold Med.file
      simp
  · intro i hi
    dsimp only
    rcases hi with hi | rfl
    · rw [if_neg (hne i hi)]; have := h.lt i hi; simp; omega
    · rw [if_pos rfl]; simp
  · intro i hi
    rcases hi with hi | rfl
    · have := h.ml i hi; simp; omega
    · simp
end
end Go.Med
namespace Go.Med
section
variable {φ : Nat → Nat} {L : Nat → Prop} {M D : Med} {K : Nat}
theorem Side.get (h : Side φ L M D) (s : ByteArray) : nget D.now s = (nget M.now s).map φ := by rw [h.now, ren_get]
theorem Side.nowLive (h : Side φ L M D) (ok : M.Ok K) : ∀ p ∈ M.now, L p.2 := by rw [ok.now]; exact h.live _ (Nat.le_refl _)
theorem Side.getLive (h : Side φ L M D) (ok : M.Ok K) {s : ByteArray} {i : Nat} (hi : nget M.now s = some i) : L i := h.nowLive ok _ (nget_mem hi)
theorem Side.nowOnce (h : Side φ L M D) (ok : M.Ok K) : (M.now.map (·.2)).Nodup := by rw [ok.now]; exact h.once _ (Nat.le_refl _)
theorem Side.used (h : Side φ L M D) (ok : M.Ok K) : D.used = M.used := by
  unfold Med.used
  rw [h.now]
  unfold ren
  rw [List.map_map]
  congr 1
  refine List.map_congr_left fun p hp => ?_
  show (D.file (φ p.2)).now.length = _
  rw [h.file _ (h.nowLive ok p hp)]
def Both (r q : Med × Int) : Prop := r.2 = q.2 ∧ ∃ φ L, Side φ L r.1 q.1
theorem Both.same (h : Side φ L M D) (e : Int) : Both (M, e) (D, e) := ⟨rfl, φ, L, h⟩
theorem Side.create (h : Side φ L M D) (ok : M.Ok K) (s : ByteArray) : Both (M.create s) (D.create s) := by
  unfold Med.create
  rw [h.off, h.get, Option.isSome_map, h.step2, h.now, ren_len]
  split; · exact .same h _
  split; · exact .same h _
  rename_i hg
  split; · exact .same h _
  rename_i hn
  split; · exact .same h _
  split; · exact .same h.step _
  have hg' : good s = true := by simpa using hg
  have hn' : nget M.now s = none := by simpa using hn
  have hst := h.step
  have okst := ok.step
  obtain ⟨e1, e2, e3, e4, e5⟩ := M.step_same
  obtain ⟨_, _, _, d4, _⟩ := D.step_same
  have h1 := hst.newFile okst.now
  rw [e4, d4] at h1
  refine ⟨rfl, _, _, h1.link (x := ⟨ByteArray.empty, s, M.files.length⟩) (y := ⟨ByteArray.empty, s, D.files.length⟩) okst.now rfl rfl (fun _ => (if_pos rfl).symm) ?_ ?_⟩
  · intro p hp
    have hp' : p ∈ nput M.step.1.now s M.files.length := by
      have : (Lnk.mk ByteArray.empty s M.files.length).on M.step.1.now = nput M.step.1.now s M.files.length := by
        unfold Lnk.on
        simp only [if_true, if_neg (good_ne hg')]
      rw [← this]; exact hp
    rcases List.mem_cons.1 ((nput_perm _ _ _).mem_iff.1 hp') with rfl | hp
    · exact .inr rfl
    · exact .inl (hst.nowLive okst p (List.mem_filter.1 hp).1)
  · show (((Lnk.mk ByteArray.empty s M.files.length).on M.step.1.now).map (·.2)).Nodup
    unfold Lnk.on
    simp only [if_true, if_neg (good_ne hg')]
    refine nodup_put (hst.nowOnce okst) fun p hp e => ?_
    have := hst.ml _ (hst.nowLive okst p hp)
    rw [e4, e] at this
    exact Nat.lt_irrefl _ this
theorem Side.append (h : Side φ L M D) (ok : M.Ok K) (s : ByteArray) (b : Bs) : Both (M.append s b) (D.append s b) := by
  unfold Med.append
  rw [h.off, h.get, h.step2, h.room, h.used ok]
  split; · exact .same h _
  cases hi : nget M.now s with
  | none => exact .same h _
  | some i =>
    simp only [Option.map_some]
    split; · exact .same h _
    split; · exact .same h.step _
    have hL := h.getLive ok hi
    rw [h.file i hL]
    exact .same (h.step.setFile hL _) _
theorem Side.all (h : Side φ L M D) (ok : M.Ok K) (s : ByteArray) : D.all s = M.all s := by
  unfold Med.all
  rw [h.off, h.get]
  split; · rfl
  cases hi : nget M.now s with
  | none => rfl
  | some i =>
    simp only [Option.map_some]
    rw [h.file i (h.getLive ok hi)]
theorem Side.list (h : Side φ L M D) : D.list = M.list := by
  unfold Med.list
  rw [h.off, h.now, ren_keys]
end
theorem Med.Ok.rmove {K : Nat} {m : Med} (h : m.Ok K) (s t : ByteArray) (gone : Bool) : (m.rmove s t gone).1.Ok (K + 1) := by
  cases gone with
  | false =>
    have e : m.rmove s t false = m.rename s t := by
      unfold Med.rmove Med.rename
      cases m.off
      · cases nget m.now s
        · rfl
        · simp
      · rfl
    rw [e]; exact h.rename s t
  | true =>
    unfold Med.rmove
    have h' := h.mono (Nat.le_succ K)
    split; · exact h'
    split; · exact h'
    rename_i i hi
    simp only [Bool.true_eq_false, false_and, if_false, if_true]
    split; · exact h'.step
    obtain ⟨e1, e2, e3, e4, e5⟩ := m.step_same
    refine h.step.link _ (fun hh => absurd rfl hh) ?_
    rw [e3, e4]
    unfold Lnk.on
    have hs : s ≠ ByteArray.empty := h.nowOk.ne _ (nget_mem hi)
    simp only [if_neg hs, if_true]
    exact h.nowOk.del s
theorem Med.Ok.rcrash {K : Nat} {m : Med} (h : m.Ok K) (l : List Int) : (m.rcrash l).Ok K := by
  unfold Med.rcrash
  have hk := clampN_le (num l 0) m.waits.length
  generalize clampN (num l 0) m.waits.length = k at *
  have hn := h.names k hk
  generalize m.lastNames k = ns at *
  have hlast : NOk ns.length (ns.mapIdx fun i p => (p.1, i)) := by
    have hkeys : (ns.mapIdx fun i p => (p.1, i)).map (·.1) = ns.map (·.1) := by
      apply List.ext_getElem?
      intro j
      rw [List.getElem?_map, List.getElem?_mapIdx, List.getElem?_map]
      cases ns[j]? <;> rfl
    have hmem : ∀ p ∈ (ns.mapIdx fun i p => (p.1, i)), p.2 < ns.length ∧ ∃ q ∈ ns, q.1 = p.1 := by
      intro p hp
      obtain ⟨i, hi, rfl⟩ := List.mem_mapIdx.1 hp
      exact ⟨hi, _, List.getElem_mem hi, rfl⟩
    refine ⟨?_, by rw [List.length_mapIdx]; exact hn.len, fun p hp => (hmem p hp).1, fun p hp => ?_⟩
    · have h1 : (ns.map (·.1)).Pairwise fun a b => lt a b = true := by rw [List.pairwise_map]; exact hn.srt
      rw [← hkeys, List.pairwise_map] at h1
      exact h1
    · obtain ⟨_, q, hq, e⟩ := hmem p hp
      rw [← e]; exact hn.ne q hq
  dsimp only
  refine ⟨h.room, Nat.zero_le _, (fun x hx => by cases hx), fun j hj => ?_, rfl, fun f hf => ?_, Nat.zero_le _⟩
  · have hj0 : j = 0 := by simpa using hj
    subst hj0
    show NOk (ns.mapIdx _).length (ns.mapIdx fun i p => (p.1, i))
    rw [List.length_mapIdx]; exact hlast
  · obtain ⟨i, hi, rfl⟩ := List.mem_mapIdx.1 hf
    exact (h.file _).crash _ _
theorem Med.told_ind {P : Med × Bs × Int × Bool → Prop} {M : Med} {x : Cal}
    (h0 : x.kind = 0 → P ((M.create x.name).1, [], (M.create x.name).2, false))
    (h1 : x.kind = 1 → P ((M.append x.name x.b).1, [], (M.append x.name x.b).2, false))
    (h2 : x.kind = 2 → P ((M.truncate x.name x.n).1, [], (M.truncate x.name x.n).2, false))
    (h3 : x.kind = 3 → P ((M.rmove x.name x.to false).1, [], (M.rmove x.name x.to false).2, false))
    (h4 : x.kind = 4 → P ((M.rmove x.name ByteArray.empty true).1, [], (M.rmove x.name ByteArray.empty true).2, false))
    (h5 : x.kind = 5 → P ((M.sync x.name).1, [], (M.sync x.name).2, false))
    (h6 : x.kind = 6 → P (M.syncDir.1, [], M.syncDir.2, false))
    (h7 : x.kind = 7 → P ((M.arm x.n).1, [], (M.arm x.n).2, false))
    (h8 : x.kind = 8 → P (M.rcrash x.l, [], 0, false))
    (h9 : x.kind = 9 → P ((M.setRoom x.n).1, [], (M.setRoom x.n).2, false))
    (h10 : x.kind = 10 → P ((M.rot x.name x.n (lowByte x.m)).1, [], 0, (M.rot x.name x.n (lowByte x.m)).2))
    (hz : x.kind ≠ 0 ∧ x.kind ≠ 1 ∧ x.kind ≠ 2 ∧ x.kind ≠ 3 ∧ x.kind ≠ 4 ∧ x.kind ≠ 5 ∧ x.kind ≠ 6 ∧ x.kind ≠ 7 ∧ x.kind ≠ 8 ∧ x.kind ≠ 9 ∧ x.kind ≠ 10 → P (M, (M.read x.name x.n x.m).1, (M.read x.name x.n x.m).2, false)) : P (M.told x) := by
  unfold Med.told
  by_cases c0 : x.kind = 0; · rw [if_pos c0]; exact h0 c0
  rw [if_neg c0]
  by_cases c1 : x.kind = 1; · rw [if_pos c1]; exact h1 c1
  rw [if_neg c1]
  by_cases c2 : x.kind = 2; · rw [if_pos c2]; exact h2 c2
  rw [if_neg c2]
  by_cases c3 : x.kind = 3; · rw [if_pos c3]; exact h3 c3
  rw [if_neg c3]
  by_cases c4 : x.kind = 4; · rw [if_pos c4]; exact h4 c4
  rw [if_neg c4]
  by_cases c5 : x.kind = 5; · rw [if_pos c5]; exact h5 c5
  rw [if_neg c5]
  by_cases c6 : x.kind = 6; · rw [if_pos c6]; exact h6 c6
  rw [if_neg c6]
  by_cases c7 : x.kind = 7; · rw [if_pos c7]; exact h7 c7
  rw [if_neg c7]
  by_cases c8 : x.kind = 8; · rw [if_pos c8]; exact h8 c8
  rw [if_neg c8]
  by_cases c9 : x.kind = 9; · rw [if_pos c9]; exact h9 c9
  rw [if_neg c9]
  by_cases c10 : x.kind = 10; · rw [if_pos c10]; exact h10 c10
  rw [if_neg c10]
  exact hz ⟨c0, c1, c2, c3, c4, c5, c6, c7, c8, c9, c10⟩
theorem Med.Ok.told {K : Nat} {M : Med} (h : M.Ok K) (x : Cal) (hn : x.n ≤ 9223372036854775807) : (M.told x).1.Ok (K + 1) := by
  have h' := h.mono (Nat.le_succ K)
  refine Med.told_ind (P := fun r => r.1.Ok (K + 1)) ?_ ?_ ?_ ?_ ?_ ?_ ?_ ?_ ?_ ?_ ?_ ?_
  · exact fun _ => h.create _
  · exact fun _ => h.append _ _
  · exact fun _ => h.truncate _ _
  · exact fun _ => h.rmove _ _ _
  · exact fun _ => h.rmove _ _ _
  · exact fun _ => h.sync _
  · exact fun _ => h.syncDir.mono (Nat.le_succ K)
  · exact fun _ => (h.arm _ hn).mono (Nat.le_succ K)
  · exact fun _ => (h.rcrash _).mono (Nat.le_succ K)
  · exact fun _ => (h.setRoom _).mono (Nat.le_succ K)
  · exact fun _ => h.rot _ _ _
  · exact fun _ => h'
def Fil.Small (f : Fil) : Prop := ∀ c ∈ f.waits, c.b.length ≤ 16777216
def Med.Small (m : Med) : Prop := ∀ f ∈ m.files, f.Small
theorem Med.Small.file {m : Med} (h : m.Small) (i : Nat) : (m.file i).Small := by
  unfold Med.file
  rcases Nat.lt_or_ge i m.files.length with hi | hi
  · rw [List.getD_eq_getElem?_getD, List.getElem?_eq_getElem hi]; exact h _ (List.getElem_mem hi)
  · rw [List.getD_eq_getElem?_getD, List.getElem?_eq_none hi]; intro c hc; cases hc
theorem Med.Small.step {m : Med} (h : m.Small) : m.step.1.Small := by
  intro f hf
  rw [m.step_same.2.2.2.1] at hf
  exact h f hf
theorem Med.Small.setFile {m : Med} (h : m.Small) (i : Nat) {f : Fil} (hf : f.Small) : (m.setFile i f).Small := by
  intro g hg
  rcases List.mem_or_eq_of_mem_set hg with hg | rfl
  · exact h g hg
  · exact hf
theorem Fil.Small.do {f : Fil} (h : f.Small) {c : Chg} (hc : c.b.length ≤ 16777216) : (f.do c).Small := by
  intro d hd
  rcases List.mem_append.1 hd with hd | hd
  · exact h d hd
  · rw [List.mem_singleton.1 hd]; exact hc
theorem Fil.Small.rot {f : Fil} (h : f.Small) (i : Nat) (y : UInt8) : (f.rot i y).Small := by
  unfold Fil.rot
  rcases rotWaits_spec f i y f.waits.length (Nat.le_refl _) with ⟨h1, h2⟩ | ⟨j, c, hj, hc, hcut, hl, h1, h2⟩
  · rw [h1]; exact h
  · rw [h1]
    intro d hd
    rcases List.mem_or_eq_of_mem_set hd with hd | rfl
    · exact h d hd
    · rw [xorAt_len]; exact h c (List.mem_of_getElem? hc)
theorem Med.Small.told {K : Nat} {M : Med} (h : M.Small) (ok : M.Ok K) (x : Cal) : (M.told x).1.Small := by
  have hst := h.step
  have hmv : ∀ s t g, (M.rmove s t g).1.Small := by
    intro s t g
    unfold Med.rmove
    split; · exact h
    split; · exact h
    split; · exact h
    split; · exact hst
    exact hst
  refine Med.told_ind (P := fun r => r.1.Small) ?_ ?_ ?_ ?_ ?_ ?_ ?_ ?_ ?_ ?_ ?_ ?_
  · intro _
    show (M.create x.name).1.Small
    unfold Med.create
    split; · exact h
    split; · exact h
    split; · exact h
    split; · exact h
    split; · exact hst
    intro f hf
    rcases List.mem_append.1 (show f ∈ M.files ++ [Fil.new] from hf) with hf | hf
    · exact h f hf
    · rw [List.mem_singleton.1 hf]; intro c hc; cases hc
  · intro _
    show (M.append x.name x.b).1.Small
    unfold Med.append
    split; · exact h
    split; · exact h
    split; · exact h
    rename_i hf
    split; · exact hst
    refine hst.setFile _ ((h.file _).do ?_)
    have := ok.room
    simp only
    omega
  · intro _
    show (M.truncate x.name x.n).1.Small
    unfold Med.truncate
    split; · exact h
    split; · exact h
    split; · exact h
    split; · exact hst
    exact hst.setFile _ ((h.file _).do (by simp))
  · exact fun _ => hmv _ _ _
  · exact fun _ => hmv _ _ _
  · intro _
    show (M.sync x.name).1.Small
    unfold Med.sync
    split; · exact h
    split; · exact h
    split; · exact hst
    exact hst.setFile _ (fun c hc => by cases hc)
  · intro _
    show M.syncDir.1.Small
    unfold Med.syncDir
    split; · exact h
    split; · exact hst
    exact hst
  · intro _
    show (M.arm x.n).1.Small
    unfold Med.arm
    split; · exact h
    split; · exact h
    exact h
  · intro _
    show (M.rcrash x.l).Small
    intro f hf
    obtain ⟨i, hi, rfl⟩ := List.mem_mapIdx.1 (show f ∈ _ from hf)
    intro c hc; cases hc
  · intro _
    show (M.setRoom x.n).1.Small
    unfold Med.setRoom
    split; · exact h
    split; · exact h
    exact h
  · intro _
    show (M.rot x.name x.n (lowByte x.m)).1.Small
    unfold Med.rot
    split; · exact h
    split; · exact h
    exact h.setFile _ ((h.file _).rot _ _)
  · exact fun _ => h
theorem step_fl (m : Med) : m.step.1.files.length = m.files.length := by rw [m.step_same.2.2.2.1]
theorem told_files {K J : Nat} {M : Med} (h : M.Ok K) (hf : M.files.length ≤ 500 + J) (x : Cal) : (M.told x).1.files.length ≤ 500 + (J + 1) := by
  have hs := step_fl M
  have h' : M.files.length ≤ 500 + (J + 1) := by omega
  have h'' : M.step.1.files.length ≤ 500 + (J + 1) := by omega
  have hset : ∀ i f, (M.step.1.setFile i f).files.length ≤ 500 + (J + 1) := fun i f => by unfold Med.setFile; simp; omega
  have hmv : ∀ s t g, (M.rmove s t g).1.files.length ≤ 500 + (J + 1) := by
    intro s t g
    unfold Med.rmove
    split; · exact h'
    split; · exact h'
    split; · exact h'
    split; · exact h''
    exact h''
  refine Med.told_ind (P := fun r => r.1.files.length ≤ 500 + (J + 1)) ?_ ?_ ?_ ?_ ?_ ?_ ?_ ?_ ?_ ?_ ?_ ?_
  · intro _
    show (M.create x.name).1.files.length ≤ _
    unfold Med.create
    split; · exact h'
    split; · exact h'
    split; · exact h'
    split; · exact h'
    split; · exact h''
    simp only [Med.link, List.length_append, List.length_singleton]; omega
  · intro _
    show (M.append x.name x.b).1.files.length ≤ _
    unfold Med.append
    split; · exact h'
    split; · exact h'
    split; · exact h'
    split; · exact h''
    exact hset _ _
  · intro _
    show (M.truncate x.name x.n).1.files.length ≤ _
    unfold Med.truncate
    split; · exact h'
    split; · exact h'
    split; · exact h'
    split; · exact h''
    exact hset _ _
  · exact fun _ => hmv _ _ _
  · exact fun _ => hmv _ _ _
  · intro _
    show (M.sync x.name).1.files.length ≤ _
    unfold Med.sync
    split; · exact h'
    split; · exact h'
    split; · exact h''
    exact hset _ _
  · intro _
    show M.syncDir.1.files.length ≤ _
    unfold Med.syncDir
    split; · exact h'
    split; · exact h''
    exact h''
  · intro _
    show (M.arm x.n).1.files.length ≤ _
    unfold Med.arm
    split; · exact h'
    split; · exact h'
    exact h'
  · intro _
    show (M.rcrash x.l).files.length ≤ _
    unfold Med.rcrash
    simp only [List.length_mapIdx]
    have := (h.names _ (clampN_le (num x.l 0) M.waits.length)).len
    omega
  · intro _
    show (M.setRoom x.n).1.files.length ≤ _
    unfold Med.setRoom
    split; · exact h'
    split; · exact h'
    exact h'
  · intro _
    show (M.rot x.name x.n (lowByte x.m)).1.files.length ≤ _
    unfold Med.rot
    split; · exact h'
    split; · exact h'
    simp only [Med.setFile, List.length_set]; exact h'
  · exact fun _ => h'
end Go.Med
namespace Go.Proofs.YtmjldaedhmipkaaGreatDoor
open Go Go.Sl Go.Med Go.MapKept Go.RowKit
section
variable {w0 w : World} {F R : List HProp} {d : Nat} {D : Med} {fsv fv nv wv v lv : Value} {xs : List RF} {g : Bag} {K : Nat}
end
section
variable {w0 w : World} {F R : List HProp} {d : Nat} {D : Med} {fsv fv nv wv v lv : Value} {xs : List RF} {g : Bag} {K : Nat}
end
section
variable {w0 w : World} {F R : List HProp} {d : Nat} {D : Med} {fsv fv nv wv v lv : Value} {xs : List RF} {g : Bag} {K : Nat}
end
section
variable {P : Program} {w0 w : World} {L L' : List HProp} {b o : Nat} {ops : Array Oper} {rest : List Oper} {a : Act} {Q : Exit → Act → World → Prop} {dst : Option Tmp} {t ty T sz n c : Nat} {pos : String} {after : Array Edge} {x y : Operand} {v : Value} {xs : List Value}
theorem wl_storeS (i : Nat) (hs : Sat w0 w L) (hx : a.eval x = .pointer (some ⟨b, i, none⟩)) (hy : a.eval y = v) (u : Upd (osl T sz (.slice (some ⟨b, 0, none⟩) n c) xs) (osl T sz (.slice (some ⟨b, 0, none⟩) n c) (xs.set i v)) L L')
    (hi : i < xs.length) (hty : (P.info? ty).map (·.size) = some 1) (h0 : v.cells = #[v]) (h1 : v.oneCell' = true)
    (hK : ∀ w', Sat w0 w' L' → wpList P ops Q rest (a.put dst undef) w') : wpList P ops Q (⟨dst, .store ty x y, t, pos, after, none⟩ :: rest) a w := by
  obtain ⟨R', h2, h3⟩ := u
  have h := hs.perm h2
  rcases Sat.osl_cases h with ⟨he, _⟩ | ⟨g', n', cap', cs, he, k1, k2, k3, k4, k5, k6⟩
  · cases he
  · cases he
    have hlen : xs.length ≤ cs.size := by rw [← k5, List.length_take, Array.length_toList]; omega
    refine wpList_store_sat rfl ty x y rfl i v hx hy (by rw [h0]; show i + 1 ≤ cs.size; omega) (by rw [h0]; exact hty) (by rw [h0]; simpa using h1) k6 fun w' hS => hK w' (Sat.perm ?_ h3.symm)
    rw [h0] at hS
    refine Sat.osl_of_pt hS (by rw [List.length_set]; exact k1) k2 (by rw [putsAt_size]; exact k3) k4 ?_
    show (cs.setIfInBounds i v).toList.take _ = _
    rw [Array.toList_setIfInBounds, List.take_set, k5]
end
theorem stars_at : ∀ (xs : List RF) (i : Nat) (x : RF), xs[i]? = some x → ∃ G, stars (xs.map rfR) = star (rfR x) G ∧ ∀ x', stars ((xs.set i x').map rfR) = star (rfR x') G
  | [], _, _, h => by cases h
  | q :: xs, 0, x, h => by
    cases h
    exact ⟨stars (xs.map rfR), rfl, fun x' => rfl⟩
  | q :: xs, i + 1, x, h => by
    obtain ⟨G, h1, h2⟩ := stars_at xs i x (by simpa using h)
    refine ⟨star (rfR q) G, ?_, fun x' => ?_⟩
    · show star (rfR q) (stars (xs.map rfR)) = _
      rw [h1, star_left_comm]
    · show star (rfR q) (stars ((xs.set i x').map rfR)) = _
      rw [h2 x', star_left_comm]
section
variable {w0 w : World} {F R : List HProp} {d i : Nat} {D : Med} {fsv fv nv wv v lv bv : Value} {xs : List RF} {x : RF} {g : Bag} {K : Nat}
end
def putL (xs : List Value) (i : Nat) (vs : List Value) : List Value := xs.take i ++ (vs ++ xs.drop (i + vs.length))
theorem putL_app (A B vs : List Value) (i : Nat) : putL (A ++ B) (A.length + i) vs = A ++ putL B i vs := by
  unfold putL
  rw [List.take_length_add_append, Nat.add_assoc, List.drop_length_add_append, List.append_assoc]
theorem putL_len {xs vs : List Value} {i : Nat} (h : i + vs.length ≤ xs.length) : (putL xs i vs).length = xs.length := by
  unfold putL
  simp only [List.length_append, List.length_take, List.length_drop]; omega
section
variable {P : Program} {w0 w : World} {L L' : List HProp} {b o : Nat} {ops : Array Oper} {rest : List Oper} {a : Act} {Q : Exit → Act → World → Prop} {dst : Option Tmp} {t ty T sz n c : Nat} {pos : String} {after : Array Edge} {x y : Operand} {v : Value} {xs vs : List Value} {K : Act → World → Prop} {E : Prop}
theorem putsAt_take {cs : Array Value} {i m : Nat} (hx : cs.toList.take m = xs) (hm : m ≤ cs.size) (hi : i + vs.length ≤ m) : (putsAt cs i vs).toList.take m = putL xs i vs := by
  subst hx
  rw [putsAt_list _ _ _ (by omega)]
  have hl : (cs.toList.take i ++ vs).length = i + vs.length := by rw [List.length_append, List.length_take, Array.length_toList]; omega
  unfold putL
  rw [List.take_append, hl, List.take_of_length_le (by omega), List.take_take, Nat.min_eq_left (by omega), List.drop_take, List.append_assoc]
theorem wl_storeSN (i : Nat) (hs : Sat w0 w L) (hx : a.eval x = .pointer (some ⟨b, i, none⟩)) (hy : a.eval y = v) (hv : v.cells.toList = vs) (u : Upd (osl T sz (.slice (some ⟨b, 0, none⟩) n c) xs) (osl T sz (.slice (some ⟨b, 0, none⟩) n c) (putL xs i vs)) L L')
    (hi : i + vs.length ≤ xs.length) (hty : (P.info? ty).map (·.size) = some vs.length) (h1 : vs.all (·.oneCell') = true)
    (hK : ∀ w', Sat w0 w' L' → wpList P ops Q rest (a.put dst undef) w') : wpList P ops Q (⟨dst, .store ty x y, t, pos, after, none⟩ :: rest) a w := by
  have hvs : v.cells.size = vs.length := by rw [← hv, Array.length_toList]
  obtain ⟨R', h2, h3⟩ := u
  have h := hs.perm h2
  rcases Sat.osl_cases h with ⟨he, _⟩ | ⟨g', n', cap', cs, he, k1, k2, k3, k4, k5, k6⟩
  · cases he
  · cases he
    have hlen : xs.length ≤ cs.size := by rw [← k5, List.length_take, Array.length_toList]; omega
    have hm : n * sz ≤ cs.size := Nat.le_trans (Nat.mul_le_mul_right _ k2) k3
    refine wpList_store_sat rfl ty x y rfl i v hx hy (by rw [hvs]; omega) (by rw [hvs]; exact hty) (by rw [← Array.all_toList, hv]; exact h1) k6 fun w' hS => hK w' (Sat.perm ?_ h3.symm)
    refine Sat.osl_of_pt hS (by rw [putL_len hi]; exact k1) k2 (by rw [putsAt_size]; exact k3) k4 ?_
    rw [hv]
    exact putsAt_take k5 hm (by rw [← k1]; exact hi)
theorem eff_storeSN (i : Nat) (hs : Sat w0 w L) (hx : a.eval x = .pointer (some ⟨b, i, none⟩)) (hy : a.eval y = v) (hv : v.cells.toList = vs) (u : Upd (osl T sz (.slice (some ⟨b, 0, none⟩) n c) xs) (osl T sz (.slice (some ⟨b, 0, none⟩) n c) (putL xs i vs)) L L')
    (hi : i + vs.length ≤ xs.length) (hty : (P.info? ty).map (·.size) = some vs.length) (h1 : vs.all (·.oneCell') = true)
    (hK : ∀ w', Sat w0 w' L' → K (a.put dst undef) w') :
    if Region.wanted ⟨dst, .store ty x y, t, pos, after, none⟩ (yielded ops a.tmps) = true then Oper.wp P ⟨dst, .store ty x y, t, pos, after, none⟩ a w K Q else E := by
  have hvs : v.cells.size = vs.length := by rw [← hv, Array.length_toList]
  obtain ⟨R', h2, h3⟩ := u
  have h := hs.perm h2
  rcases Sat.osl_cases h with ⟨he, _⟩ | ⟨g', n', cap', cs, he, k1, k2, k3, k4, k5, k6⟩
  · cases he
  · cases he
    have hlen : xs.length ≤ cs.size := by rw [← k5, List.length_take, Array.length_toList]; omega
    have hm : n * sz ≤ cs.size := Nat.le_trans (Nat.mul_le_mul_right _ k2) k3
    refine eff_store k6 hx hy (cs' := putsAt cs i vs) (by rw [hv]) upd0 (by rw [hvs]; omega) (by rw [hvs]; exact hty) (by rw [hv]; exact h1) fun w' hS => hK w' (Sat.perm ?_ h3.symm)
    refine Sat.osl_of_pt hS (by rw [putL_len hi]; exact k1) k2 (by rw [putsAt_size]; exact k3) k4 ?_
    exact putsAt_take k5 hm (by rw [← k1]; exact hi)
end
section
variable {α : Type} {f : α → List Value} {k : Nat}
theorem rows_len : ∀ {l : List α}, (∀ x ∈ l, (f x).length = k) → (l.flatMap f).length = k * l.length
  | [], _ => rfl
  | x :: l, h => by rw [List.flatMap_cons, List.length_append, h x (.head _), rows_len fun y hy => h y (.tail _ hy), List.length_cons, Nat.mul_succ]; omega
theorem rows_at : ∀ {l : List α} {i : Nat} {x : α} {j : Nat} {v : Value}, (∀ x ∈ l, (f x).length = k) → l[i]? = some x → (f x)[j]? = some v → (l.flatMap f)[i * k + j]? = some v
  | [], _, _, _, _, _, h, _ => by cases h
  | y :: l, 0, x, j, v, hk, h, hj => by
    obtain rfl : y = x := by simpa using h
    rw [List.flatMap_cons, Nat.zero_mul, Nat.zero_add, List.getElem?_append_left (List.getElem?_eq_some_iff.1 hj).1]; exact hj
  | y :: l, i + 1, x, j, v, hk, h, hj => by
    have h0 := hk y (.head _)
    rw [List.flatMap_cons, Nat.succ_mul, List.getElem?_append_right (by omega), h0, show i * k + k + j - k = i * k + j by omega]
    exact rows_at (fun z hz => hk z (.tail _ hz)) (by simpa using h) hj
theorem rows_set : ∀ {l : List α} {i : Nat} {x : α}, (∀ x ∈ l, (f x).length = k) → (f x).length = k → i < l.length → (l.set i x).flatMap f = putL (l.flatMap f) (i * k) (f x)
  | [], _, _, _, _, h => by simp at h
  | y :: l, 0, x, hk, hx, h => by
    have h0 := hk y (.head _)
    rw [List.set_cons_zero, List.flatMap_cons, List.flatMap_cons]
    unfold putL
    rw [Nat.zero_mul, List.take_zero, List.nil_append, Nat.zero_add, hx, ← h0, List.drop_left]
  | y :: l, i + 1, x, hk, hx, h => by
    have h0 := hk y (.head _)
    rw [List.set_cons_succ, List.flatMap_cons, List.flatMap_cons, rows_set (fun z hz => hk z (.tail _ hz)) hx (by simpa using h), Nat.succ_mul, Nat.add_comm (i * k) k, ← h0, putL_app]
theorem rows_rep (n : Nat) (x : α) : (List.replicate n x).flatMap f = (List.replicate n (f x)).flatten := by
  induction n with
  | zero => rfl
  | succ n ih => rw [List.replicate_succ, List.flatMap_cons, ih, List.replicate_succ, List.flatten_cons]
end
section
variable {w0 w : World} {F R : List HProp} {α : Type} {f : α → List Value} {k : Nat} {T : TypeId} {v : Value}
theorem osl_row {l : List α} {i : Nat} {x : α} (hk : ∀ x ∈ l, (f x).length = k) (h : rdsl k v (l.flatMap f) w) (hi : l[i]? = some x) (h0 : 0 < k) :
    ∃ bk off c, v = .slice (some ⟨bk, off, none⟩) l.length c ∧ ∀ j y, (f x)[j]? = some y → w.cell? ⟨bk, off + i * k + j, none⟩ = some y := by
  obtain ⟨a, n, c, rfl, hl, hx⟩ := id h
  rw [rows_len hk] at hl
  have hfx := hk x (List.mem_of_getElem? hi)
  obtain rfl : n = l.length := by
    rw [Nat.mul_comm] at hl
    exact (Nat.eq_of_mul_eq_mul_right h0 hl).symm
  obtain ⟨y0, hy0⟩ : ∃ y, (f x)[0]? = some y := ⟨_, List.getElem?_eq_getElem (by omega)⟩
  have h1 := rows_at hk hi hy0
  obtain ⟨bk, off, rfl, hc⟩ := rdsl_cells h h1
  exact ⟨bk, off, c, rfl, fun j y hj => by rw [Nat.add_assoc]; exact hc _ _ (rows_at hk hi hj)⟩
theorem osl_rows {l : List α} (hk : ∀ x ∈ l, (f x).length = k) (h : rdsl k v (l.flatMap f) w) (h0 : 0 < k) : ∃ a c, v = .slice a l.length c := by
  obtain ⟨a, n, c, rfl, hl, hx⟩ := id h
  rw [rows_len hk, Nat.mul_comm] at hl
  exact ⟨a, c, by rw [Nat.eq_of_mul_eq_mul_right h0 hl]⟩
end
theorem and_mask (x j : Nat) (hx : x < 9223372036854775808) (hj : j < 63) : bits .and .i64 (x : Int) ((2 ^ j - 1 : Nat) : Int) = ((x % 2 ^ j : Nat) : Int) := by
  have h2 : 2 ^ j ≤ 2 ^ 62 := Nat.pow_le_pow_right (by decide) (by omega)
  have h3 : (2 : Nat) ^ 62 = 4611686018427387904 := by decide
  have h4 : 0 < 2 ^ j := Nat.two_pow_pos j
  have hm : (BitVec.ofInt 64 ((2 ^ j - 1 : Nat) : Int)).toNat = 2 ^ j - 1 := by
    rw [BitVec.toNat_ofInt]
    have : ((2 ^ 64 : Nat) : Int) = 18446744073709551616 := by decide
    rw [this]
    omega
  have hn : (BitVec.ofInt 64 (x : Int)).toNat = x := by
    rw [BitVec.toNat_ofInt]
    have : ((2 ^ 64 : Nat) : Int) = 18446744073709551616 := by decide
    rw [this]
    omega
  show IntKind.i64.wrap ((BitVec.ofInt 64 (x : Int) &&& BitVec.ofInt 64 ((2 ^ j - 1 : Nat) : Int)).toNat : Nat) = _
  rw [BitVec.toNat_and, hm, hn, Nat.and_two_pow_sub_one_eq_mod, IntKind.wrap_i64]
  have := Nat.mod_lt x h4
  omega
theorem or_num32 (l : Bs) (c : UInt8) (k : Nat) (hl : l.length = k) (hk : k < 4) : bits .or .u32 ((Frm.num l : Nat) : Int) ((c.toNat : Int) * ((256 ^ k : Nat) : Int)) = ((Frm.num (l ++ [c]) : Nat) : Int) := by
  subst hl
  have h1 := Frm.num_lt l
  have h2 := c.toNat_lt
  have h3 : 256 ^ l.length ≤ 256 ^ 3 := Nat.pow_le_pow_right (by decide) (by omega)
  have h4 : c.toNat * 256 ^ l.length ≤ 255 * 256 ^ 3 := Nat.mul_le_mul (by omega) h3
  have h5 : (256 : Nat) ^ 3 = 16777216 := by decide
  have e : (c.toNat : Int) * ((256 ^ l.length : Nat) : Int) = ((c.toNat * 256 ^ l.length : Nat) : Int) := by rw [Int.natCast_mul]
  rw [e, u32_or_nat _ _ (by omega) (by omega), Frm.num_snoc]
  congr 1
  have hp : (256 : Nat) ^ l.length = 2 ^ (8 * l.length) := by rw [Nat.pow_mul]
  rw [hp] at h1 ⊢
  have := Nat.two_pow_add_eq_or_of_lt h1 c.toNat
  rw [Nat.or_comm, Nat.mul_comm c.toNat, ← this, Nat.add_comm]
section
variable {w0 w : World} {F R : List HProp}
set_option maxRecDepth 20000 in
set_option maxHeartbeats 4000000 in
theorem home_c (k : Bs) (hk : k.length = 32) (j : Nat) (hj : j < 40) (h : Sat w0 w F) :
    Calls Tryz.prog 160 #[.agg (bys k).toArray, .int .i64 (2 ^ j : Nat)] w (Rtn fun v w' => v = .int .i64 (Tab.home k (2 ^ j) : Nat) ∧ Sat w0 w' F) := by
  obtain ⟨c0, c1, c2, c3, t, rfl⟩ : ∃ c0 c1 c2 c3 t, k = c0 :: c1 :: c2 :: c3 :: t := by
    match k, hk with
    | c0 :: c1 :: c2 :: c3 :: t, _ => exact ⟨c0, c1, c2, c3, t, rfl⟩
  have Hh := Lib.hid (show Tab.home (c0 :: c1 :: c2 :: c3 :: t) (2 ^ j) = Frm.num [c0, c1, c2, c3] % 2 ^ j from rfl)
  have hB := h.alloc (.cells (bys (c0 :: c1 :: c2 :: c3 :: t)).toArray 41)
  have e0 : (w.alloc (.cells (bys (c0 :: c1 :: c2 :: c3 :: t)).toArray 41)).cell? ⟨w.heap.size, 0, none⟩ = some (.int .u8 c0.toNat) := hB.cellAt 0 _ rfl
  have e1 : (w.alloc (.cells (bys (c0 :: c1 :: c2 :: c3 :: t)).toArray 41)).cell? ⟨w.heap.size, 1, none⟩ = some (.int .u8 c1.toNat) := hB.cellAt 1 _ rfl
  have e2 : (w.alloc (.cells (bys (c0 :: c1 :: c2 :: c3 :: t)).toArray 41)).cell? ⟨w.heap.size, 2, none⟩ = some (.int .u8 c2.toNat) := hB.cellAt 2 _ rfl
  have e3 : (w.alloc (.cells (bys (c0 :: c1 :: c2 :: c3 :: t)).toArray 41)).cell? ⟨w.heap.size, 3, none⟩ = some (.int .u8 c3.toNat) := hB.cellAt 3 _ rfl
  have b0 := c0.toNat_lt; have b1 := c1.toNat_lt; have b2 := c2.toNat_lt; have b3 := c3.toNat_lt
  have q1 : bits .or .u32 (c0.toNat : Int) ((c1.toNat : Int) * 256) = ((Frm.num [c0, c1] : Nat) : Int) := by
    have := or_num32 [c0] c1 1 rfl (by decide)
    simpa [Frm.num] using this
  have q2 : bits .or .u32 ((Frm.num [c0, c1] : Nat) : Int) ((c2.toNat : Int) * 65536) = ((Frm.num [c0, c1, c2] : Nat) : Int) := or_num32 [c0, c1] c2 2 rfl (by decide)
  have q3 : bits .or .u32 ((Frm.num [c0, c1, c2] : Nat) : Int) ((c3.toNat : Int) * 16777216) = ((Frm.num [c0, c1, c2, c3] : Nat) : Int) := or_num32 [c0, c1, c2] c3 3 rfl (by decide)
  have hn := Frm.num_lt [c0, c1, c2, c3]
  rw [show [c0, c1, c2, c3].length = 4 from rfl, show (256 : Nat) ^ 4 = 4294967296 by decide] at hn
  have hp : (2 : Nat) ^ j ≤ 2 ^ 40 := Nat.pow_le_pow_right (by decide) (by omega)
  have hp1 : (2 : Nat) ^ 40 = 1099511627776 := by decide
  have hp0 : 0 < 2 ^ j := Nat.two_pow_pos j
  have q4 := and_mask (Frm.num [c0, c1, c2, c3]) j (by omega) (by omega)
  generalize Frm.num [c0, c1, c2, c3] = N at *
  generalize hC : 2 ^ j = C at *
  have hw1 : IntKind.i64.wrap ((C : Int) - 1) = ((C - 1 : Nat) : Int) := by rw [IntKind.wrap_i64]; omega
  have hw2 : IntKind.i64.wrap (N : Int) = (N : Int) := IntWalk.i64_in _ (by omega)
  have hm2 : N % C < C := Nat.mod_lt _ hp0
  clear h hk hC hp hp1
  go_enter Tryz.func160, Tryz.ntmps160
  go_wp2_with fail
  go_ret
  refine ⟨_, rfl, ?_, hB.drop⟩
  rw [Hh.out, Int.natCast_emod]; rfl
end
section
variable {w0 w : World} {L L' R F : List HProp} {b : Nat} {ops : Array Oper} {rest : List Oper} {a : Act} {Q : Exit → Act → World → Prop}
variable {dst : Option Tmp} {t T : TypeId} {pos : String} {after : Array Edge} {x y : Operand} {cs : Array Value} {v : Value} {e : Frm.Ent} {da : Option Addr} {dn dc : Nat}
theorem wl_buildE (hs : Sat w0 w L) (hy : a.eval x = .agg (entA e (.slice da dn dc))) (hk : e.key.length = 32)
    (hK : ∀ b w', Sat w0 w' (pt b (.cells (entA e (.slice da dn dc)) 44 (0,0)) :: L) → wpList Tryz.prog ops Q rest (a.put dst (.slice (some ⟨b, 0, none⟩) 1 1)) w') :
    wpList Tryz.prog ops Q (⟨dst, .buildSlice 125 1 #[(0, x)], t, pos, after, none⟩ :: rest) a w :=
  wl_build1 (e := 44) (sz := 34) (by' := 64) (by kernel_rfl) hs hy rfl (entA_size _ _ hk) (by decide) hK
theorem at_buildE (h : Stop (wpList Tryz.prog ops Q (⟨dst, .buildSlice 125 1 #[(0, x)], t, pos, after, none⟩ :: rest) a w)) : wpList Tryz.prog ops Q (⟨dst, .buildSlice 125 1 #[(0, x)], t, pos, after, none⟩ :: rest) a w := h.out
end
section
variable {w0 w : World} {L L' R F : List HProp} {b o : Nat} {ops : Array Oper} {rest : List Oper} {a : Act} {Q : Exit → Act → World → Prop}
variable {dst : Option Tmp} {t T ty : TypeId} {pos : String} {after : Array Edge} {x y : Operand} {cs : Array Value} {v : Value} {P : Program}
theorem wl_loadW (ks : List Value) (hx : a.eval x = .pointer (some ⟨b, o, none⟩)) (hc : ∀ j v, ks[j]? = some v → w.cell? ⟨b, o + j, none⟩ = some v)
    {d : TypeDesc} (hu : P.underlying ty = some d) (hd : d.isRow = true) (hi : (P.info? ty).map (·.size) = some ks.length)
    (h : wpList P ops Q rest (a.put dst (.agg ks.toArray)) w) : wpList P ops Q (⟨dst, .load ty x, t, pos, after, none⟩ :: rest) a w :=
  wpList_load_mid rfl ty x rfl b o hx ks d hc hu hd hi h
theorem wl_storeA (ks : Array Value) (hs : Sat w0 w L) (hx : a.eval x = .pointer (some ⟨b, 0, none⟩)) (hy : a.eval y = .agg ks) (hsz : ks.size = cs.size) (u : Upd (pt b (.cells cs T (0,0))) (pt b (.cells ks T (0,0))) L L')
    (hi : (P.info? ty).map (·.size) = some ks.size) (h1 : ks.toList.all (·.oneCell') = true)
    (hK : ∀ w', Sat w0 w' L' → wpList P ops Q rest (a.put dst undef) w') : wpList P ops Q (⟨dst, .store ty x y, t, pos, after, none⟩ :: rest) a w :=
  wl_store hs hx hy (putsAt_eq (by
    show (putsAt cs 0 ks.toList).toList = _
    rw [putsAt_list _ _ _ (by rw [Array.length_toList]; omega), List.take_zero, List.nil_append, Nat.zero_add, List.drop_of_length_le (by rw [Array.length_toList, Array.length_toList]; omega), List.append_nil])) u (by show 0 + ks.size ≤ cs.size; omega) hi h1 hK
end
def plcL (q : Seg.Plc) : List Value := [.int .i64 q.seg, .int .i64 q.at_, .int .i64 q.size]
abbrev plcA (q : Seg.Plc) : Value := .agg #[.int .i64 q.seg, .int .i64 q.at_, .int .i64 q.size]
structure SegBlk (l : List (Int × Int)) (n cap : Nat) (cs : Array Value) : Prop where
  len : l.length = n + 1
  le : n + 1 ≤ cap
  size : cap * 2 ≤ cs.size
  max : cap ≤ maxLen
  take : cs.toList.take ((n + 1) * 2) = segw l
section
variable {w0 w : World} {F R : List HProp} {v bv dv x lv : Value} {q p m K : Nat} {L : Seg.Log} {M : Med} {s : Int × Int}
end
end Go.Proofs.YtmjldaedhmipkaaGreatDoor
namespace Go.Seg
open Go.Med
end Go.Seg
namespace Go.Proofs.YtmjldaedhmipkaaGreatDoor
open Go Go.Sl Go.Med Go.MapKept Go.RowKit
section
variable {w0 w : World} {F R : List HProp} {v bv dv x lv : Value} {q p m K : Nat} {L : Seg.Log} {M : Med} {s : Int × Int}
end
end Go.Proofs.YtmjldaedhmipkaaGreatDoor
namespace Go.Seg
open Go.Med
theorem name_size (n : Int) : (name n).size ≤ 9223372036854775807 := by
  unfold name
  split
  · decide
  · show (lead ++ digs n.toNat 8).toArray.size ≤ _
    rw [List.size_toArray, List.length_append, digs_len]; decide
end Go.Seg
namespace Go.Proofs.YtmjldaedhmipkaaGreatDoor
open Go Go.Sl Go.Med Go.MapKept Go.RowKit
section
variable {w0 w : World} {F R : List HProp} {v bv dv x lv : Value} {q p m K : Nat} {L : Seg.Log} {M : Med} {s : Int × Int}
theorem segw_snoc (l : List (Int × Int)) (n z : Int) : segw l ++ [.int .i64 n, .int .i64 z] = segw (l ++ [(n, z)]) := by rw [segw_app]; rfl
end
end Go.Proofs.YtmjldaedhmipkaaGreatDoor
namespace Go.Seg
open Go.Med
end Go.Seg
namespace Go.Proofs.YtmjldaedhmipkaaGreatDoor
open Go Go.Sl Go.Med Go.MapKept Go.RowKit
section
variable {w0 w : World} {F R : List HProp} {v bv dv x lv : Value} {q p m K : Nat} {L : Seg.Log} {M : Med} {s : Int × Int}
end
end Go.Proofs.YtmjldaedhmipkaaGreatDoor
namespace Go.Seg
open Go.Med
end Go.Seg
namespace Go.Proofs.YtmjldaedhmipkaaGreatDoor
open Go Go.Sl Go.Med Go.MapKept Go.RowKit
section
variable {w0 w : World} {F R : List HProp} {v bv dv x lv : Value} {q p m K : Nat} {L : Seg.Log} {M : Med} {s : Int × Int}
end
end Go.Proofs.YtmjldaedhmipkaaGreatDoor
