import Derived.Test.YtdhhbajggafdhaaMed23
import Derived.Test.YtdhhbajggafdhaaMed21
/- few: calls, none of them too long. -/
namespace Go.Proofs.Ytdhhbajggafdhaa
open Go Go.Sl Go.Med Go.MapKept Go.RowKit
set_option linter.unusedVariables false
/-- A call as it lies in memory. -/
structure D where
  kind : Int
  name : ByteArray
  to : ByteArray
  n : Int
  m : Int
  bv : Value
  b : Bs
  lv : Value
  l : List Int
def dCells (d : D) : List Value := [.int .i64 d.kind, .string d.name, .string d.to, .int .i64 d.n, .int .i64 d.m, d.bv, d.lv]
/-- What is asked of a call that came in, beside memory that F keeps. -/
structure D.In (w0 : World) (F : List HProp) (d : D) : Prop where
  b : Ro w0 F (rdsl 1 d.bv (bys d.b))
  bc : capOk d.bv
  l : Ro w0 F (rdsl 1 d.lv (ints d.l))
  lc : capOk d.lv
def shortS (s : ByteArray) (n : Nat) : ByteArray := if n < s.size then s.extract 0 n else s
/-- e is d, shortened. -/
structure D.Few (w0 : World) (F : List HProp) (d e : D) : Prop where
  kind : e.kind = d.kind
  name : e.name = shortS d.name 30
  to : e.to = shortS d.to 30
  n : e.n = d.n
  m : e.m = d.m
  b : e.b = d.b.take 100
  l : e.l = d.l.take 60
  lr : Ro w0 F (rdsl 1 e.lv (ints e.l))
  lc : capOk e.lv
section
variable {w0 w : World} {F : List HProp} {m fb nb b r : Nat} {M : Med} {bs : List Nat} {wv v bv dv : Value} {s : ByteArray} {fs : List Fil} {K : Nat}
theorem flat_get {α β : Type} (f : α → List β) (k : Nat) (hk : ∀ x, (f x).length = k) : ∀ (xs : List α) (i : Nat) (x : α) (j : Nat), xs[i]? = some x → j < k → (xs.flatMap f)[i * k + j]? = (f x)[j]?
  | [], _, _, _, h, _ => by cases h
  | y :: xs, 0, x, j, h, hj => by
    simp at h; subst h
    rw [List.flatMap_cons, Nat.zero_mul, Nat.zero_add, List.getElem?_append_left (by rw [hk]; exact hj)]
  | y :: xs, i + 1, x, j, h, hj => by
    rw [List.flatMap_cons, List.getElem?_append_right (by rw [hk, Nat.succ_mul]; omega), hk]
    have : (i + 1) * k + j - k = i * k + j := by rw [Nat.succ_mul]; omega
    rw [this]
    exact flat_get f k hk xs i x j (by simpa using h) hj
theorem rdsl_base {sz : Nat} {a : Option Addr} {n c : Nat} {xs : List Value} (h : rdsl sz (.slice a n c) xs w) (hne : 0 < xs.length) :
    ∃ bk off, a = some ⟨bk, off, none⟩ ∧ ∀ i x, xs[i]? = some x → w.cell? ⟨bk, off + i, none⟩ = some x := by
  obtain ⟨a', n', c', he, hl, hx⟩ := h
  cases he
  obtain ⟨y, hy⟩ : ∃ y, xs[0]? = some y := ⟨xs[0]'hne, List.getElem?_eq_getElem _⟩
  obtain ⟨b', hb', hc0⟩ := hx 0 y hy
  subst hb'
  obtain ⟨bk, off, spot⟩ := b'
  have hs : spot = none := by simpa [Addr.add] using World.cell?_spot hc0
  subst hs
  refine ⟨bk, off, rfl, fun i x hi => ?_⟩
  obtain ⟨b2, hb2, hc⟩ := hx i x hi
  cases hb2
  unfold Addr.add at hc
  split at hc
  · rename_i h0; subst h0; exact hc
  · exact hc
theorem infoDo : (Try.prog.info? 44).map (fun i => (i.zero, i.size, i.bytes)) = some (some (.agg #[.int .i64 0, .string ByteArray.empty, .string ByteArray.empty, .int .i64 0, .int .i64 0, .slice none 0 0, .slice none 0 0]), 7, 104) := by kernel_rfl
def bsls (es : List D) : HProp := stars (es.map fun e => bsl e.bv e.b)
set_option maxHeartbeats 4000000 in
theorem few_c {G : List HProp} (h : Sat w0 w G) (hGF : ∀ w, Sat w0 w G → Sat w0 w F) (ds : List D) (hr : Ro w0 F (rdsl 7 dv (ds.flatMap dCells))) (hds : ∀ d ∈ ds, d.In w0 F) (n : Nat) (hn : n ≤ 1000) :
    Calls Try.prog 22 #[dv, .int .i64 n] w (Rtn fun v w' => ∃ es : List D, es.length = min n ds.length ∧ (∀ (i : Nat) (d e : D), ds[i]? = some d → es[i]? = some e → D.Few w0 F d e) ∧ Sat w0 w' (osl 44 7 v (es.flatMap dCells) :: bsls es :: G)) := by
  obtain ⟨ii, hi, hz0, hz1, hz2⟩ := info_parts infoDo
  obtain ⟨da, dn, dc, rfl, hdl, _⟩ := id (hr w (hGF w h))
  have hlen : (ds.flatMap dCells).length = ds.length * 7 := by rw [List.length_flatMap]; simp [dCells, List.map_const']
  obtain rfl : dn = ds.length := by omega
  obtain ⟨R, hR⟩ : ∃ R, R = min n ds.length := ⟨_, rfl⟩
  have hR1 : R ≤ ds.length := by omega
  have hR2 : R ≤ n := by omega
  have hR3 : R = ds.length ∨ R = n := by omega
  have HR := Lib.hid hR; have Hr := Lib.hid hr; have Hds := Lib.hid hds
  clear hR hr hds hdl hlen
  go_enter Try.func22, Try.ntmps22
  go_wp2
  go_loopg [5, 6] R (fun g ov iq wr => ∃ (i : Nat) (es : List D) (oa : Option Addr) (on oc : Nat), g = R - i ∧ i ≤ R ∧ iq = .int .i64 i ∧ ov = .slice oa on oc ∧ es.length = i ∧ (∀ (j : Nat) (d e : D), ds[j]? = some d → es[j]? = some e → D.Few w0 F d e) ∧
    Sat w0 wr (osl 44 7 (.slice oa on oc) (es.flatMap dCells) :: bsls es :: G))
  case atStart => exact ⟨0, [], none, 0, 0, rfl, Nat.zero_le _, rfl, rfl, rfl, (fun _ _ _ _ h => by cases h), Sat.osl_nil.2 (Sat.emp.2 h)⟩
  case round =>
    obtain ⟨i, es, oa, on, oc, rfl, hiR, rfl, rfl, hes, hfew, hS⟩ := hrel
    have Hes := Lib.hid hes; have Hfew := Lib.hid hfew
    clear hes hfew
    by_cases hi' : i < R
    · obtain ⟨d, hd⟩ : ∃ d, ds[i]? = some d := ⟨ds[i]'(by omega), List.getElem?_eq_getElem _⟩
      have hin := Hds.out d (List.mem_of_getElem? hd)
      have hlen : (ds.flatMap dCells).length = ds.length * 7 := by rw [List.length_flatMap]; simp [dCells, List.map_const']
      obtain ⟨bk, off, rfl, hcell⟩ := rdsl_base (Hr.out _ (hGF _ hS.drop.drop)) (by omega)
      have hfl := fun j hj => flat_get dCells 7 (fun _ => rfl) ds i d j hd hj
      have hc' : ∀ (j : Nat) (x : Value), (ds.flatMap dCells)[i * 7 + j]? = some x → wr.cell? ⟨bk, off + i * 7 + j, none⟩ = some x := fun j x hx => by rw [Nat.add_assoc]; exact hcell _ _ hx
      have e0 : wr.cell? ⟨bk, off + i * 7, none⟩ = some (.int .i64 d.kind) := hc' 0 _ (hfl 0 (by omega))
      have e1 : wr.cell? ⟨bk, off + i * 7 + 1, none⟩ = some (.string d.name) := hc' 1 _ (hfl 1 (by omega))
      have e2 : wr.cell? ⟨bk, off + i * 7 + 2, none⟩ = some (.string d.to) := hc' 2 _ (hfl 2 (by omega))
      have e3 : wr.cell? ⟨bk, off + i * 7 + 3, none⟩ = some (.int .i64 d.n) := hc' 3 _ (hfl 3 (by omega))
      have e4 : wr.cell? ⟨bk, off + i * 7 + 4, none⟩ = some (.int .i64 d.m) := hc' 4 _ (hfl 4 (by omega))
      have e5 : wr.cell? ⟨bk, off + i * 7 + 5, none⟩ = some d.bv := hc' 5 _ (hfl 5 (by omega))
      have e6 : wr.cell? ⟨bk, off + i * 7 + 6, none⟩ = some d.lv := hc' 6 _ (hfl 6 (by omega))
      clear hcell hfl hlen hc'
      have Hd := Lib.hid hd; clear hd
      obtain ⟨kind, name, to, dn, dm, dbv, db, dlv, dl⟩ := d
      obtain ⟨hib, ⟨ba, bn, bc, rfl, hbn, hbc⟩, hil, ⟨la, ln, lc, rfl, hln, hlc⟩⟩ := hin
      simp only at e0 e1 e2 e3 e4 e5 e6 hib hil
      have hb : Sat w0 (wr.alloc (.cells #[.int .i64 kind, .string name, .string to, .int .i64 dn, .int .i64 dm, .slice ba bn bc, .slice la ln lc] 44)) _ := hS.alloc _
      generalize hqq : wr.heap.size = q at hb
      have g1 := hb.cellAt 1 _ rfl
      have g2 := hb.cellAt 2 _ rfl
      have g5 := hb.cellAt 5 _ rfl
      have g6 := hb.cellAt 6 _ rfl
      have hs1 := short_c name 30
      have hs2 := short_c to 30
      have hcast30 : ((30 : Nat) : Int) = 30 := rfl
      rw [hcast30] at hs1 hs2
      have hcu := cut_c ba bn bc 100 hbn hbc
      have hcast100 : ((100 : Nat) : Int) = 100 := rfl
      rw [hcast100] at hcu
      have hnu := numbers_c la ln lc 60 hln hlc
      have hcast60 : ((60 : Nat) : Int) = 60 := rfl
      rw [hcast60] at hnu
      change ∀ w, Calls _ _ _ w (Rtn fun v w' => v = .string (shortS name 30) ∧ w = w') at hs1
      change ∀ w, Calls _ _ _ w (Rtn fun v w' => v = .string (shortS to 30) ∧ w = w') at hs2
      clear hcast30 hcast100 hcast60
      have hib' : Ro w0 F (rdsl 1 (.slice ba (min bn 100) bc) (bys (db.take 100))) := by rw [bys_take]; exact ro_min hib
      have Hib := Lib.hid hib'
      have hil' : Ro w0 F (rdsl 1 (.slice la (min ln 60) lc) (ints (dl.take 60))) := by unfold ints; rw [List.map_take]; exact ro_min hil
      have hlc' : capOk (.slice la (min ln 60) lc) := ⟨_, _, _, rfl, by omega, hlc⟩
      have Hil := Lib.hid hil'; have Hlc := Lib.hid hlc'
      clear hib hil hil' hlc'
      generalize min bn 100 = bn' at *
      generalize min ln 60 = ln' at *
      have Hs1 := Lib.hid hs1; have Hs2 := Lib.hid hs2; have Hcu := Lib.hid hcu; have Hnu := Lib.hid hnu
      clear hs1 hs2 hcu hnu hib'
      have hic : (i : Int) < (ds.length : Int) := by omega
      have hic2 : (i : Int) < (n : Int) := by omega
      subst hqq
      go_wp2_with fail
      have hSd := hb.drew
      generalize wr.heap.size = q at *
      refine wpL_begin [12, 13, 14, 15, 16, 17, 18, 19, 20] (fun w' => w'.cell? ⟨q, 1, none⟩ = some (.string name) ∧ w'.cell? ⟨q, 2, none⟩ = some (.string to) ∧ w'.cell? ⟨q, 5, none⟩ = some (.slice ba bn bc) ∧ w'.cell? ⟨q, 6, none⟩ = some (.slice la ln lc)) (by kernel_rfl) ?_
      have hG : _ ∧ _ ∧ _ ∧ _ := ⟨g1, g2, g5, g6⟩
      refine wpL_pure (i := 0) (v := ?_) rfl (by kernel_rfl) (fun _ _ _ h => h) (Or.inl ⟨by rfl, ?_⟩) ?_; rotate_left; focus ((intro wq; go_simp); first | done | (with_reducible rfl))
      refine wpL_take (i := 1) (v := ?_) rfl (by kernel_rfl) (fun _ _ _ h => h) (Or.inl ⟨by rfl, ?_⟩) (by assumption) ?_; rotate_left; focus ((intro wq hq; go_split_ands; go_simp); first | done | (with_reducible rfl))
      refine wpL_pure (i := 3) (v := ?_) rfl (by kernel_rfl) (fun _ _ _ h => h) (Or.inl ⟨by rfl, ?_⟩) ?_; rotate_left; focus ((intro wq; go_simp); first | done | (with_reducible rfl))
      refine wpL_take (i := 4) (v := ?_) rfl (by kernel_rfl) (fun _ _ _ h => h) (Or.inl ⟨by rfl, ?_⟩) (by assumption) ?_; rotate_left; focus ((intro wq hq; go_split_ands; go_simp); first | done | (with_reducible rfl))
      refine wpL_pure (i := 6) (v := ?_) rfl (by kernel_rfl) (fun _ _ _ h => h) (Or.inl ⟨by rfl, ?_⟩) ?_; rotate_left; focus ((intro wq; go_simp); first | done | (with_reducible rfl))
      refine wpL_take (i := 7) (v := ?_) rfl (by kernel_rfl) (fun _ _ _ h => h) (Or.inl ⟨by rfl, ?_⟩) (by assumption) ?_; rotate_left; focus ((intro wq hq; go_split_ands; go_simp); first | done | (with_reducible rfl))
      refine wpL_pure (i := 10) (v := ?_) rfl (by kernel_rfl) (fun _ _ _ h => h) (Or.inl ⟨by rfl, ?_⟩) ?_; rotate_left; focus ((intro wq; go_simp); first | done | (with_reducible rfl))
      refine wpL_take (i := 11) (v := ?_) rfl (by kernel_rfl) (fun _ _ _ h => h) (Or.inl ⟨by rfl, ?_⟩) (by assumption) ?_; rotate_left; focus ((intro wq hq; go_split_ands; go_simp); first | done | (with_reducible rfl))
      clear hG g1 g2 g5 g6 e0 e1 e2 e3 e4 e5 e6
      refine wpL_eff (i := 2) rfl (by kernel_rfl) (fun K hK => ?_)
      go_simp
      refine (Hs1.out _).mono ?_
      rintro e w2 ⟨v, rfl, rfl, rfl⟩
      refine hK _ _ (.inr (.inr rfl)) ?_
      clear hK
      refine wpL_pure (i := 13) (v := ?_) rfl (by kernel_rfl) (fun _ _ _ h => h) (Or.inl ⟨by rfl, ?_⟩) ?_; rotate_left; focus ((intro wq; go_simp); first | done | (with_reducible rfl))
      refine wpL_eff (i := 5) rfl (by kernel_rfl) (fun K hK => ?_)
      go_simp
      refine (Hs2.out _).mono ?_
      rintro e w2 ⟨v, rfl, rfl, rfl⟩
      refine hK _ _ (.inr (.inr rfl)) ?_
      clear hK
      refine wpL_eff (i := 8) rfl (by kernel_rfl) (fun K hK => ?_)
      go_simp
      refine (Hcu.out _).mono ?_
      rintro e w2 ⟨v, rfl, rfl, rfl⟩
      refine hK _ _ (.inr (.inr rfl)) ?_
      clear hK
      refine wpL_eff (i := 9) rfl (by kernel_rfl) (fun K hK => ?_)
      go_simp
      refine (copy_c hSd (db.take 100) (Hib.out _ (hGF _ hSd.drop.drop.drop)) (by rw [List.length_take]; omega)).mono ?_
      rintro e w3 ⟨v, rfl, hS3, a3, n3, k3, rfl⟩
      have hP := hS3.pick1
      refine hK _ _ (.inr (.inl ⟨hP.cellAt 1 _ rfl, hP.cellAt 2 _ rfl, hP.cellAt 5 _ rfl, hP.cellAt 6 _ rfl⟩)) ?_
      clear hK
      have fr1 := hP.freeAt 1
      have fr2 := hP.freeAt 2
      have fr5 := hP.freeAt 5
      have fr6 := hP.freeAt 6
      have cc1 := hP.cellAt 1 _ rfl
      have cc2 := hP.cellAt 2 _ rfl
      have cc5 := hP.cellAt 5 _ rfl
      have cc6 := hP.cellAt 6 _ rfl
      refine wpL_eff (i := 12) rfl (by kernel_rfl) (fun K hK => ?_)
      go_simp
      refine (Hnu.out _).mono ?_
      rintro e w2 ⟨v, rfl, rfl, rfl⟩
      refine hK _ _ (.inl rfl) ?_
      clear hK
      refine wpL_eff (i := 14) rfl (by kernel_rfl) (fun K hK => ?_)
      go_simp
      refine hK _ _ (.inl rfl) ?_
      clear hK
      refine wpL_pure (i := 15) (v := ?_) rfl (by kernel_rfl) (fun _ _ _ h => h) (Or.inl ⟨by rfl, ?_⟩) ?_; rotate_left; focus ((intro wq; go_simp); first | done | (with_reducible rfl))
      refine wpL_eff (i := 16) rfl (by kernel_rfl) (fun K hK => ?_)
      go_simp
      refine hK _ _ (.inl rfl) ?_
      clear hK
      refine wpL_pure (i := 17) (v := ?_) rfl (by kernel_rfl) (fun _ _ _ h => h) (Or.inl ⟨by rfl, ?_⟩) ?_; rotate_left; focus ((intro wq; go_simp); first | done | (with_reducible rfl))
      refine wpL_eff (i := 18) rfl (by kernel_rfl) (fun K hK => ?_)
      go_simp
      refine hK _ _ (.inl rfl) ?_
      clear hK
      refine wpL_pure (i := 19) (v := ?_) rfl (by kernel_rfl) (fun _ _ _ h => h) (Or.inl ⟨by rfl, ?_⟩) ?_; rotate_left; focus ((intro wq; go_simp); first | done | (with_reducible rfl))
      refine wpL_eff (i := 20) rfl (by kernel_rfl) (fun K hK => ?_)
      go_simp
      refine hK _ _ (.inl rfl) ?_
      clear hK
      refine wpL_done (by kernel_rfl) ?_
      have hP4 : Sat w0 ((((w3.setCell ⟨q, 1, none⟩ (.string (shortS name 30))).setCell ⟨q, 2, none⟩ (.string (shortS to 30))).setCell ⟨q, 5, none⟩ (.slice a3 n3 k3)).setCell ⟨q, 6, none⟩ (.slice la ln' lc)) (pt q (.cells #[.int .i64 kind, .string (shortS name 30), .string (shortS to 30), .int .i64 dn, .int .i64 dm, .slice a3 n3 k3, .slice la ln' lc] 44 (0,0)) :: bsl (.slice a3 n3 k3) (db.take 100) :: osl 44 7 (.slice oa on oc) (es.flatMap dCells) :: bsls es :: G) := (((hP.set 1 (.string (shortS name 30))).set 2 (.string (shortS to 30))).set 5 (.slice a3 n3 k3)).set 6 (.slice la ln' lc)
      clear fr1 fr2 fr5 fr6 cc1 cc2 cc5 cc6 hP hS3 hSd hb
      generalize ((((w3.setCell ⟨q, 1, none⟩ (.string (shortS name 30))).setCell ⟨q, 2, none⟩ (.string (shortS to 30))).setCell ⟨q, 5, none⟩ (.slice a3 n3 k3)).setCell ⟨q, 6, none⟩ (.slice la ln' lc)) = w4 at *
      have c0 : w4.cell? ⟨q, 0, none⟩ = some (.int .i64 kind) := hP4.cellAt 0 _ rfl
      have c1 : w4.cell? ⟨q, 1, none⟩ = some (.string (shortS name 30)) := hP4.cellAt 1 _ rfl
      have c2 : w4.cell? ⟨q, 2, none⟩ = some (.string (shortS to 30)) := hP4.cellAt 2 _ rfl
      have c3 : w4.cell? ⟨q, 3, none⟩ = some (.int .i64 dn) := hP4.cellAt 3 _ rfl
      have c4 : w4.cell? ⟨q, 4, none⟩ = some (.int .i64 dm) := hP4.cellAt 4 _ rfl
      have c5 : w4.cell? ⟨q, 5, none⟩ = some (.slice a3 n3 k3) := hP4.cellAt 5 _ rfl
      have c6 : w4.cell? ⟨q, 6, none⟩ = some (.slice la ln' lc) := hP4.cellAt 6 _ rfl
      have hb1 := hP4.alloc (.cells #[.int .i64 kind, .string (shortS name 30), .string (shortS to 30), .int .i64 dn, .int .i64 dm, .slice a3 n3 k3, .slice la ln' lc] 44)
      have hlenes : (es.flatMap dCells).length = i * 7 := by rw [List.length_flatMap]; simp [dCells, List.map_const', Hes.out]
      have h63 : (es.flatMap dCells).length + 7 ≤ maxLen := by rw [hlenes]; unfold maxLen; omega
      have hby : ((es.flatMap dCells).length + 7) * ii.bytes ≤ 140737488355328 := by rw [hlenes, hz2]; omega
      have hoc : ∀ u ∈ (#[.int .i64 kind, .string (shortS name 30), .string (shortS to 30), .int .i64 dn, .int .i64 dm, .slice a3 n3 k3, .slice la ln' lc] : Array Value).toList, u.oneCell' = true := by
        intro u hu
        simp only [List.mem_cons, List.not_mem_nil, or_false] at hu
        rcases hu with rfl | rfl | rfl | rfl | rfl | rfl | rfl <;> rfl
      clear hlenes
      go_wp2_with (at_builtin; go_must (refine wpList_append (w0 := w0) (by rfl) _ _ _ (by rfl) _ ii _ Try.underlying40 hi hz0 hz1 (by rfl) (by omega) (by rfl) (by rfl) hoc (hb1.sel 4 [3, 2, 0] rfl rfl) (rdsl_new _ _ _ 7 1 1 (by rfl)) h63 hby ?_); intro v2 w5 hS5 hne)
      obtain ⟨oa', on', oc', rfl, _⟩ := id hS5.rd
      clear hne hoc h63 hby hb1 hP4 c0 c1 c2 c3 c4 c5 c6
      go_roundg (R - (i + 1))
      case measure => omega
      case rel =>
        have e1 : bsls (es ++ [⟨kind, shortS name 30, shortS to 30, dn, dm, .slice a3 n3 k3, db.take 100, .slice la ln' lc, dl.take 60⟩]) = Sl.star (bsls es) (bsl (.slice a3 n3 k3) (db.take 100)) := by
          unfold bsls
          rw [List.map_append, stars_append]
          show Sl.star _ (stars [_]) = _
          rw [stars_one]
        have e2 : (es ++ [(⟨kind, shortS name 30, shortS to 30, dn, dm, .slice a3 n3 k3, db.take 100, .slice la ln' lc, dl.take 60⟩ : D)]).flatMap dCells = es.flatMap dCells ++ [.int .i64 kind, .string (shortS name 30), .string (shortS to 30), .int .i64 dn, .int .i64 dm, .slice a3 n3 k3, .slice la ln' lc] := by
          rw [List.flatMap_append]; rfl
        refine ⟨i + 1, es ++ [⟨kind, shortS name 30, shortS to 30, dn, dm, .slice a3 n3 k3, db.take 100, .slice la ln' lc, dl.take 60⟩], oa', on', oc', rfl, by omega, by go_num, rfl, by simp [Hes.out], ?_, ?_⟩
        · intro j d e hj he
          rcases Nat.lt_trichotomy j i with hlt | rfl | hgt
          · rw [List.getElem?_append_left (by rw [Hes.out]; exact hlt)] at he
            exact Hfew.out j d e hj he
          · rw [List.getElem?_append_right (by rw [Hes.out]; exact Nat.le_refl _), Hes.out, Nat.sub_self] at he
            rw [Hd.out] at hj
            cases hj
            cases he
            exact ⟨rfl, rfl, rfl, rfl, rfl, rfl, rfl, Hil.out, Hlc.out⟩
          · rw [List.getElem?_eq_none (by simp [Hes.out]; omega)] at he
            cases he
        · rw [e1, e2]
          have h6 : Sat w0 w5 (bsls es :: bsl (.slice a3 n3 k3) (db.take 100) :: osl 44 7 (.slice oa' on' oc') _ :: G) := hS5.sel 4 [3, 1, 0] rfl rfl
          exact (Sat.star.2 h6).pick1
    · obtain rfl : i = R := by omega
      have htest : (¬ (i : Int) < (ds.length : Int)) ∨ ((i : Int) < (ds.length : Int) ∧ ¬ (i : Int) < (n : Int)) := by
        by_cases h1 : i < ds.length
        · exact .inr ⟨by omega, by omega⟩
        · exact .inl (by omega)
      clear hR1 hR2 hR3 hi' hiR
      rcases htest with ht | ⟨ht1, ht2⟩
      all_goals
        go_wp2
        go_ret
        exact ⟨.slice oa on oc, rfl, es, by rw [Hes.out, HR.out], Hfew.out, hS⟩
end
end Go.Proofs.Ytdhhbajggafdhaa
