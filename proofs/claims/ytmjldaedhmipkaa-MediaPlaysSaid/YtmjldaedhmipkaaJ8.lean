import Derived.Test.YtmjldaedhmipkaaJ7
import Derived.Laws.BitsAllLaws
set_option linter.unusedVariables false
/- The plain law of MediaTears: a crash leaves a front of the bytes, with all that was fast. No program in sight. -/
namespace Go.Med
def aN : ByteArray := ⟨#[97]⟩
/-- The medium with the one file 'a', fast in its names. -/
def oneF (room : Nat) (f : Fil) : Med := ⟨room, [(aN, 0)], [(aN, 0)], [f], [], false, 0, false⟩
theorem good_aN : good aN = true := by decide +kernel
theorem aN_ne : aN ≠ ByteArray.empty := by decide +kernel
theorem nget_aN (l : Names) : nget ((aN, 0) :: l) aN = some 0 := by
  have h : (aN == aN) = true := by decide +kernel
  simp [nget, h]
theorem create_one (room : Nat) : (new room).create aN = (⟨room, [], [(aN, 0)], [Fil.new], [⟨ByteArray.empty, aN, 0⟩], false, 0, false⟩, 0) := by
  have h1 : nget [] aN = none := rfl
  simp [Med.create, new, good_aN, h1, Med.step, Med.link, Lnk.on, aN_ne, nput, ndel, nins]
theorem append_first (room : Nat) (b : Bs) (h : b.length ≤ room) :
    (⟨room, [], [(aN, 0)], [Fil.new], [⟨ByteArray.empty, aN, 0⟩], false, 0, false⟩ : Med).append aN b = (⟨room, [], [(aN, 0)], [⟨[], b, [⟨false, 0, b⟩]⟩], [⟨ByteArray.empty, aN, 0⟩], false, 0, false⟩, 0) := by
  have hn : ¬ ((room : Int) < b.length) := by omega
  simp [Med.append, nget_aN, Med.used, Med.file, Fil.new, Med.step, Med.setFile, Fil.do, Chg.on, hn]
theorem sync_first (room : Nat) (b : Bs) :
    (⟨room, [], [(aN, 0)], [⟨[], b, [⟨false, 0, b⟩]⟩], [⟨ByteArray.empty, aN, 0⟩], false, 0, false⟩ : Med).sync aN = (⟨room, [], [(aN, 0)], [⟨b, b, []⟩], [⟨ByteArray.empty, aN, 0⟩], false, 0, false⟩, 0) := by
  simp [Med.sync, nget_aN, Med.file, Med.step, Med.setFile, Fil.sync]
theorem syncDir_first (room : Nat) (f : Fil) :
    (⟨room, [], [(aN, 0)], [f], [⟨ByteArray.empty, aN, 0⟩], false, 0, false⟩ : Med).syncDir = (oneF room f, 0) := by
  simp [Med.syncDir, Med.step, oneF]
theorem append_one (room : Nat) (f : Fil) (b : Bs) (h : f.now.length + b.length ≤ room) : (oneF room f).append aN b = (oneF room (f.do ⟨false, 0, b⟩), 0) := by
  have hn : ¬ ((room : Int) - (f.now.length : Int) < b.length) := by omega
  simp [Med.append, oneF, nget_aN, Med.used, Med.file, Med.step, Med.setFile, hn]
theorem all_one (room : Nat) (f : Fil) : (oneF room f).all aN = (f.now, 0) := by
  simp [Med.all, oneF, nget_aN, Med.file]
theorem crash_one (room : Nat) (f : Fil) (l : List Int) : (oneF room f).crash l = oneF room (f.crash (num l 1) (num l 2)) := by
  simp [Med.crash, oneF, Med.lastNames, crashFiles]
/-- Only appended to. -/
def Grows (f : Fil) : Prop := ∀ c ∈ f.waits, c.cut = false
theorem Grows.flat (b : Bs) : Grows ⟨b, b, []⟩ := by intro c hc; cases hc
theorem Grows.do {f : Fil} (h : Grows f) (b : Bs) : Grows (f.do ⟨false, 0, b⟩) := by
  intro c hc
  simp only [Fil.do, List.mem_append, List.mem_singleton] at hc
  rcases hc with hc | rfl
  · exact h c hc
  · rfl
theorem at_front {f : Fil} (h : Grows f) (j : Nat) : ∀ k, j ≤ k → k ≤ f.waits.length → f.at j <+: f.at k := by
  intro k hjk
  induction hjk with
  | refl => intro _; exact List.prefix_rfl
  | @step k hk ih =>
    intro hl
    have hc : f.waits[k]? = some (f.waits[k]'(by omega)) := List.getElem?_eq_getElem _
    have hcut : (f.waits[k]'(by omega)).cut = false := h _ (List.getElem_mem _)
    rw [f.at_succ k _ hc]
    refine (ih (by omega)).trans ?_
    simp [Chg.on, hcut]
theorem left_front {f : Fil} (h : Grows f) (hn : f.now = f.at f.waits.length) (x y : Int) : f.fast <+: f.left x y ∧ f.left x y <+: f.now := by
  have hk := clampN_le x f.waits.length
  unfold Fil.left
  generalize clampN x f.waits.length = k at hk
  have h0 : f.fast <+: f.at k := by have := at_front h 0 k (Nat.zero_le _) hk; rwa [Fil.at_zero] at this
  have h1 : f.at k <+: f.now := by rw [hn]; exact at_front h k _ hk (Nat.le_refl _)
  simp only
  cases hc : f.waits[k]? with
  | none => exact ⟨h0, h1⟩
  | some c =>
    have hcut : c.cut = false := h c (List.mem_of_getElem? hc)
    have hlt : k < f.waits.length := (List.getElem?_eq_some_iff.1 hc).1
    simp only [hcut, Bool.false_eq_true, if_false]
    refine ⟨h0.trans (List.prefix_append _ _), ?_⟩
    have h2 : f.at (k + 1) <+: f.now := by rw [hn]; exact at_front h (k + 1) _ hlt (Nat.le_refl _)
    rw [f.at_succ k c hc] at h2
    simp only [Chg.on, hcut, Bool.false_eq_true, if_false] at h2
    refine List.IsPrefix.trans ?_ h2
    obtain ⟨t, ht⟩ := List.take_prefix (clampN y c.b.length) c.b
    exact ⟨t, by rw [List.append_assoc, ht]⟩
end Go.Med
/- begins, lives. -/
namespace Go.Proofs.Ytmjldaedhmipkaa
open Go Go.Sl Go.Med Go.MapKept Go.RowKit
section
variable {w0 w : World} {F : List HProp} {m fb nb b r : Nat} {M : Med} {bs : List Nat} {wv v bv lv av : Value} {s : ByteArray} {fs : List Fil} {K : Nat} {f : Fil}
theorem create_first (hm : Sat w0 w (MedRep m (new r) :: F)) (hr : r ≤ 16777216) :
    Calls Try.prog 18 #[ptr m, .string ⟨#[97]⟩] w (Rtn fun v w' => v = errno 0 ∧ Sat w0 w' (MedRep m ⟨r, [], [(aN, 0)], [Fil.new], [⟨ByteArray.empty, aN, 0⟩], false, 0, false⟩ :: F)) := by
  have := create_c (Med.Ok.new 0 r hr) (by omega) hm aN (by show (1 : Nat) ≤ _; omega)
  rw [create_one] at this
  exact this
theorem append_first_c (hr : r ≤ 16777216) (hm : Sat w0 w (MedRep m ⟨r, [], [(aN, 0)], [Fil.new], [⟨ByteArray.empty, aN, 0⟩], false, 0, false⟩ :: F)) (lb : Bs) (hb : Ro w0 F (rdsl 1 bv (bys lb))) (hl : lb.length ≤ r) :
    Calls Try.prog 19 #[ptr m, .string ⟨#[97]⟩, bv] w (Rtn fun v w' => v = errno 0 ∧ Sat w0 w' (MedRep m ⟨r, [], [(aN, 0)], [⟨[], lb, [⟨false, 0, lb⟩]⟩], [⟨ByteArray.empty, aN, 0⟩], false, 0, false⟩ :: F)) := by
  have ok : Med.Ok 1 (⟨r, [], [(aN, 0)], [Fil.new], [⟨ByteArray.empty, aN, 0⟩], false, 0, false⟩ : Med) := by
    have := (Med.Ok.new 0 r hr).create aN
    rw [create_one] at this
    exact this
  have := append_c ok (by omega) hm aN lb hb
  rw [append_first r lb hl] at this
  exact this
theorem ok_first (hr : r ≤ 16777216) (lb : Bs) (hl : lb.length ≤ r) : Med.Ok 2 (⟨r, [], [(aN, 0)], [⟨[], lb, [⟨false, 0, lb⟩]⟩], [⟨ByteArray.empty, aN, 0⟩], false, 0, false⟩ : Med) := by
  have h1 := (Med.Ok.new 0 r hr).create aN
  rw [create_one] at h1
  have h2 := Med.Ok.append h1 aN lb
  rw [append_first r lb hl] at h2
  exact h2
set_option maxHeartbeats 1000000 in
theorem lives_c (h : Sat w0 w F) : Calls Try.prog 13 #[] w (Rtn fun v w' => v = .bool true ∧ Sat w0 w' F) := by
  have hnew := new_yes 10 (by omega) h
  have hcast : ((10 : Nat) : Int) = 10 := rfl
  rw [hcast] at hnew
  go_enter Try.func13, Try.ntmps13
  go_wp2_with (first
    | (go_at_call 5; refine hnew.mono ?_; rintro e w1 ⟨v, rfl, m, rfl, hS1⟩)
    | (go_at_call 18; refine (create_first hS1 (by omega)).mono ?_; rintro e w2 ⟨v, rfl, rfl, hS2⟩))
  have hS3 := (hS2.alloc (.cells #[.int .u8 7] 5)).pick1
  have hro : Ro w0 (pt w2.heap.size (.cells #[.int .u8 7] 5 (0,0)) :: F) (rdsl 1 (.slice (some ⟨w2.heap.size, 0, none⟩) 1 1) (bys [7])) := fun w' hw' => by
    have c := hw'.cellAt 0 _ rfl
    refine ⟨_, 1, 1, rfl, rfl, fun i x hi => ?_⟩
    cases i with
    | zero => cases hi; exact ⟨_, rfl, c⟩
    | succ i => cases hi
  refine (append_first_c (by omega) hS3 [7] hro (by decide)).mono ?_
  rintro e w3 ⟨v, rfl, rfl, hS4⟩
  have hu := used_rep (ok_first (by omega) [7] (by decide)) hS4
  have he : (⟨10, [], [(aN, 0)], [⟨[], [7], [⟨false, 0, [7]⟩]⟩], [⟨ByteArray.empty, aN, 0⟩], false, 0, false⟩ : Med).usedTold = 1 := rfl
  rw [he] at hu
  have hcast1 : ((1 : Nat) : Int) = 1 := rfl
  rw [hcast1] at hu
  clear hS3 hro he
  go_wp2_with (go_at_call 46; refine hu.mono ?_; rintro e w4 ⟨v, rfl, rfl, hS5⟩)
  go_ret
  exact ⟨.bool true, rfl, rfl, hS5.drop.drop⟩
end
end Go.Proofs.Ytmjldaedhmipkaa
/- The walk of MediaTears. -/
namespace Go.Proofs.Ytmjldaedhmipkaa
open Go Go.Sl Go.Med Go.MapKept Go.RowKit
section
variable {w0 w : World} {F : List HProp} {m fb nb b r : Nat} {M : Med} {bs : List Nat} {wv v bv lv av rv : Value} {s : ByteArray} {fs : List Fil} {K : Nat} {f : Fil}
theorem one_ok (hf : f.Ok K) (hr : r ≤ 16777216) : (oneF r f).Ok K := by
  have hn : NOk 1 [(aN, 0)] := ⟨List.pairwise_singleton _ _, by simp, by simp, by simp [aN_ne]⟩
  refine ⟨hr, by simp [oneF], by simp [oneF], ?_, by simp [oneF, Med.lastNames], ?_, by simp [oneF]⟩
  · intro k _
    have : (oneF r f).lastNames k = [(aN, 0)] := by simp [oneF, Med.lastNames]
    rw [this]; exact hn
  · intro g hg
    have : g = f := by simpa [oneF] using hg
    rw [this]; exact hf
theorem sync_first_c (hr : r ≤ 16777216) (lb : Bs) (hl : lb.length ≤ r) (hm : Sat w0 w (MedRep m ⟨r, [], [(aN, 0)], [⟨[], lb, [⟨false, 0, lb⟩]⟩], [⟨ByteArray.empty, aN, 0⟩], false, 0, false⟩ :: F)) :
    Calls Try.prog 23 #[ptr m, .string ⟨#[97]⟩] w (Rtn fun v w' => v = errno 0 ∧ Sat w0 w' (MedRep m ⟨r, [], [(aN, 0)], [⟨lb, lb, []⟩], [⟨ByteArray.empty, aN, 0⟩], false, 0, false⟩ :: F)) := by
  have := sync_c (ok_first hr lb hl) hm aN
  rw [sync_first r lb] at this
  exact this
theorem syncDir_first_c (hr : r ≤ 16777216) (lb : Bs) (hl : lb.length ≤ r) (hm : Sat w0 w (MedRep m ⟨r, [], [(aN, 0)], [⟨lb, lb, []⟩], [⟨ByteArray.empty, aN, 0⟩], false, 0, false⟩ :: F)) :
    Calls Try.prog 24 #[ptr m] w (Rtn fun v w' => v = errno 0 ∧ Sat w0 w' (MedRep m (oneF r ⟨lb, lb, []⟩) :: F)) := by
  have ok := (ok_first hr lb hl).sync aN
  rw [sync_first r lb] at ok
  have := syncDir_c ok hm
  rw [syncDir_first r] at this
  exact this
theorem append_one_c (hf : f.Ok K) (hK : K ≤ 1000) (hr : r ≤ 16777216) (hm : Sat w0 w (MedRep m (oneF r f) :: F)) (lb : Bs) (hb : Ro w0 F (rdsl 1 bv (bys lb))) (hl : f.now.length + lb.length ≤ r) :
    Calls Try.prog 19 #[ptr m, .string ⟨#[97]⟩, bv] w (Rtn fun v w' => v = errno 0 ∧ Sat w0 w' (MedRep m (oneF r (f.do ⟨false, 0, lb⟩)) :: F)) := by
  have := append_c (one_ok hf hr) (by omega) hm aN lb hb
  rw [append_one r f lb hl] at this
  exact this
theorem all_one_c (hf : f.Ok K) (hr : r ≤ 16777216) (hm : Sat w0 w (MedRep m (oneF r f) :: F)) :
    Calls Try.prog 44 #[ptr m, .string ⟨#[97]⟩] w (Rtn fun v w' => ∃ bv, v = .tuple #[bv, errno 0] ∧ Sat w0 w' (bsl bv f.now :: MedRep m (oneF r f) :: F)) := by
  have := all_c (one_ok hf hr) hm aN
  rw [all_one r f] at this
  exact this
theorem crash_one_c (hf : f.Ok K) (hK : K ≤ 1000) (hr : r ≤ 16777216) (hm : Sat w0 w (MedRep m (oneF r f) :: F)) (l : List Int) (hl : Ro w0 F (rdsl 1 lv (ints l))) (hcap : capOk lv) (hi : ∀ x ∈ l, inI x) :
    Calls Try.prog 26 #[ptr m, lv] w (Rtn fun _ w' => Sat w0 w' (MedRep m (oneF r (f.crash (num l 1) (num l 2))) :: F)) := by
  have := crash_c (one_ok hf hr) (by omega) hm l hl hcap hi
  rw [crash_one r f l] at this
  exact this
end
end Go.Proofs.Ytmjldaedhmipkaa
/- few: calls, none of them too long. -/
namespace Go.Proofs.Ytmjldaedhmipkaa
open Go Go.Sl Go.Med Go.MapKept Go.RowKit
set_option linter.unusedVariables false
/-- A call as it lies in memory. -/
structure D where
  kind : Int
  name : ByteArray
  to : ByteArray
  n : Int
  m : Int
  bv : Value
  b : Bs
  lv : Value
  l : List Int
def dCells (d : D) : List Value := [.int .i64 d.kind, .string d.name, .string d.to, .int .i64 d.n, .int .i64 d.m, d.bv, d.lv]
/-- What is asked of a call that came in, beside memory that F keeps. -/
structure D.In (w0 : World) (F : List HProp) (d : D) : Prop where
  b : Ro w0 F (rdsl 1 d.bv (bys d.b))
  bc : capOk d.bv
  l : Ro w0 F (rdsl 1 d.lv (ints d.l))
  lc : capOk d.lv
/-- e is d, shortened. -/
structure D.Few (w0 : World) (F : List HProp) (d e : D) : Prop where
  kind : e.kind = d.kind
  name : e.name = shortS d.name 30
  to : e.to = shortS d.to 30
  n : e.n = d.n
  m : e.m = d.m
  b : e.b = d.b.take 100
  l : e.l = d.l.take 60
  lr : Ro w0 F (rdsl 1 e.lv (ints e.l))
  lc : capOk e.lv
section
variable {w0 w : World} {F : List HProp} {m fb nb b r : Nat} {M : Med} {bs : List Nat} {wv v bv dv : Value} {s : ByteArray} {fs : List Fil} {K : Nat}
theorem infoDo : (Try.prog.info? 36).map (fun i => (i.zero, i.size, i.bytes)) = some (some (.agg #[.int .i64 0, .string ByteArray.empty, .string ByteArray.empty, .int .i64 0, .int .i64 0, .slice none 0 0, .slice none 0 0]), 7, 104) := by kernel_rfl
def bsls (es : List D) : HProp := stars (es.map fun e => bsl e.bv e.b)
set_option maxHeartbeats 4000000 in
theorem few_c {G : List HProp} (h : Sat w0 w G) (hGF : ∀ w, Sat w0 w G → Sat w0 w F) (ds : List D) (hr : Ro w0 F (rdsl 7 dv (ds.flatMap dCells))) (hds : ∀ d ∈ ds, d.In w0 F) (n : Nat) (hn : n ≤ 1000) :
    Calls Try.prog 4 #[dv, .int .i64 n] w (Rtn fun v w' => ∃ es : List D, es.length = min n ds.length ∧ (∀ (i : Nat) (d e : D), ds[i]? = some d → es[i]? = some e → D.Few w0 F d e) ∧ Sat w0 w' (osl 36 7 v (es.flatMap dCells) :: bsls es :: G)) := by
  obtain ⟨ii, hi, hz0, hz1, hz2⟩ := info_parts infoDo
  obtain ⟨da, dn, dc, rfl, hdl, _⟩ := id (hr w (hGF w h))
  have hlen : (ds.flatMap dCells).length = ds.length * 7 := by rw [List.length_flatMap]; simp [dCells, List.map_const']
  obtain rfl : dn = ds.length := by omega
  obtain ⟨R, hR⟩ : ∃ R, R = min n ds.length := ⟨_, rfl⟩
  have hR1 : R ≤ ds.length := by omega
  have hR2 : R ≤ n := by omega
  have hR3 : R = ds.length ∨ R = n := by omega
  have HR := Lib.hid hR; have Hr := Lib.hid hr; have Hds := Lib.hid hds
  clear hR hr hds hdl hlen
  go_enter Try.func4, Try.ntmps4
  go_wp2
  go_loopg [5, 6] R (fun g ov iq wr => ∃ (i : Nat) (es : List D) (oa : Option Addr) (on oc : Nat), g = R - i ∧ i ≤ R ∧ iq = .int .i64 i ∧ ov = .slice oa on oc ∧ es.length = i ∧ (∀ (j : Nat) (d e : D), ds[j]? = some d → es[j]? = some e → D.Few w0 F d e) ∧
    Sat w0 wr (osl 36 7 (.slice oa on oc) (es.flatMap dCells) :: bsls es :: G))
  case atStart => exact ⟨0, [], none, 0, 0, rfl, Nat.zero_le _, rfl, rfl, rfl, (fun _ _ _ _ h => by cases h), Sat.osl_nil.2 (Sat.emp.2 h)⟩
  case round =>
    obtain ⟨i, es, oa, on, oc, rfl, hiR, rfl, rfl, hes, hfew, hS⟩ := hrel
    have Hes := Lib.hid hes; have Hfew := Lib.hid hfew
    clear hes hfew
    by_cases hi' : i < R
    · obtain ⟨d, hd⟩ : ∃ d, ds[i]? = some d := ⟨ds[i]'(by omega), List.getElem?_eq_getElem _⟩
      have hin := Hds.out d (List.mem_of_getElem? hd)
      have hlen : (ds.flatMap dCells).length = ds.length * 7 := by rw [List.length_flatMap]; simp [dCells, List.map_const']
      obtain ⟨bk, off, rfl, hcell⟩ := rdsl_base (Hr.out _ (hGF _ hS.drop.drop)) (by omega)
      have hfl := fun j hj => flat_get dCells 7 (fun _ => rfl) ds i d j hd hj
      have hc' : ∀ (j : Nat) (x : Value), (ds.flatMap dCells)[i * 7 + j]? = some x → wr.cell? ⟨bk, off + i * 7 + j, none⟩ = some x := fun j x hx => by rw [Nat.add_assoc]; exact hcell _ _ hx
      have e0 : wr.cell? ⟨bk, off + i * 7, none⟩ = some (.int .i64 d.kind) := hc' 0 _ (hfl 0 (by omega))
      have e1 : wr.cell? ⟨bk, off + i * 7 + 1, none⟩ = some (.string d.name) := hc' 1 _ (hfl 1 (by omega))
      have e2 : wr.cell? ⟨bk, off + i * 7 + 2, none⟩ = some (.string d.to) := hc' 2 _ (hfl 2 (by omega))
      have e3 : wr.cell? ⟨bk, off + i * 7 + 3, none⟩ = some (.int .i64 d.n) := hc' 3 _ (hfl 3 (by omega))
      have e4 : wr.cell? ⟨bk, off + i * 7 + 4, none⟩ = some (.int .i64 d.m) := hc' 4 _ (hfl 4 (by omega))
      have e5 : wr.cell? ⟨bk, off + i * 7 + 5, none⟩ = some d.bv := hc' 5 _ (hfl 5 (by omega))
      have e6 : wr.cell? ⟨bk, off + i * 7 + 6, none⟩ = some d.lv := hc' 6 _ (hfl 6 (by omega))
      clear hcell hfl hlen hc'
      have Hd := Lib.hid hd; clear hd
      obtain ⟨kind, name, to, dn, dm, dbv, db, dlv, dl⟩ := d
      obtain ⟨hib, ⟨ba, bn, bc, rfl, hbn, hbc⟩, hil, ⟨la, ln, lc, rfl, hln, hlc⟩⟩ := hin
      simp only at e0 e1 e2 e3 e4 e5 e6 hib hil
      have hb : Sat w0 (wr.alloc (.cells #[.int .i64 kind, .string name, .string to, .int .i64 dn, .int .i64 dm, .slice ba bn bc, .slice la ln lc] 36)) _ := hS.alloc _
      generalize hqq : wr.heap.size = q at hb
      have g1 := hb.cellAt 1 _ rfl
      have g2 := hb.cellAt 2 _ rfl
      have g5 := hb.cellAt 5 _ rfl
      have g6 := hb.cellAt 6 _ rfl
      have hs1 := short_c name 30
      have hs2 := short_c to 30
      have hcast30 : ((30 : Nat) : Int) = 30 := rfl
      rw [hcast30] at hs1 hs2
      have hcu := cut_c ba bn bc 100 hbn hbc
      have hcast100 : ((100 : Nat) : Int) = 100 := rfl
      rw [hcast100] at hcu
      have hnu := numbers_c la ln lc 60 hln hlc
      have hcast60 : ((60 : Nat) : Int) = 60 := rfl
      rw [hcast60] at hnu
      change ∀ w, Calls _ _ _ w (Rtn fun v w' => v = .string (shortS name 30) ∧ w = w') at hs1
      change ∀ w, Calls _ _ _ w (Rtn fun v w' => v = .string (shortS to 30) ∧ w = w') at hs2
      clear hcast30 hcast100 hcast60
      have hib' : Ro w0 F (rdsl 1 (.slice ba (min bn 100) bc) (bys (db.take 100))) := by rw [bys_take]; exact ro_min hib
      have Hib := Lib.hid hib'
      have hil' : Ro w0 F (rdsl 1 (.slice la (min ln 60) lc) (ints (dl.take 60))) := by unfold ints; rw [List.map_take]; exact ro_min hil
      have hlc' : capOk (.slice la (min ln 60) lc) := ⟨_, _, _, rfl, by omega, hlc⟩
      have Hil := Lib.hid hil'; have Hlc := Lib.hid hlc'
      clear hib hil hil' hlc'
      generalize min bn 100 = bn' at *
      generalize min ln 60 = ln' at *
      have Hs1 := Lib.hid hs1; have Hs2 := Lib.hid hs2; have Hcu := Lib.hid hcu; have Hnu := Lib.hid hnu
      clear hs1 hs2 hcu hnu hib'
      have hic : (i : Int) < (ds.length : Int) := by omega
      have hic2 : (i : Int) < (n : Int) := by omega
      subst hqq
      go_wp2_with fail
      have hSd := hb.drew
      generalize wr.heap.size = q at *
      refine wpL_begin [12, 13, 14, 15, 16, 17, 18, 19, 20] (fun w' => w'.cell? ⟨q, 1, none⟩ = some (.string name) ∧ w'.cell? ⟨q, 2, none⟩ = some (.string to) ∧ w'.cell? ⟨q, 5, none⟩ = some (.slice ba bn bc) ∧ w'.cell? ⟨q, 6, none⟩ = some (.slice la ln lc)) (by kernel_rfl) ?_
      have hG : _ ∧ _ ∧ _ ∧ _ := ⟨g1, g2, g5, g6⟩
      refine wpL_pure (i := 0) (v := ?_) rfl (by kernel_rfl) (fun _ _ _ h => h) (Or.inl ⟨by rfl, ?_⟩) ?_; rotate_left; focus ((intro wq; go_simp); first | done | (with_reducible rfl))
      refine wpL_take (i := 1) (v := ?_) rfl (by kernel_rfl) (fun _ _ _ h => h) (Or.inl ⟨by rfl, ?_⟩) (by assumption) ?_; rotate_left; focus ((intro wq hq; go_split_ands; go_simp); first | done | (with_reducible rfl))
      refine wpL_pure (i := 3) (v := ?_) rfl (by kernel_rfl) (fun _ _ _ h => h) (Or.inl ⟨by rfl, ?_⟩) ?_; rotate_left; focus ((intro wq; go_simp); first | done | (with_reducible rfl))
      refine wpL_take (i := 4) (v := ?_) rfl (by kernel_rfl) (fun _ _ _ h => h) (Or.inl ⟨by rfl, ?_⟩) (by assumption) ?_; rotate_left; focus ((intro wq hq; go_split_ands; go_simp); first | done | (with_reducible rfl))
      refine wpL_pure (i := 6) (v := ?_) rfl (by kernel_rfl) (fun _ _ _ h => h) (Or.inl ⟨by rfl, ?_⟩) ?_; rotate_left; focus ((intro wq; go_simp); first | done | (with_reducible rfl))
      refine wpL_take (i := 7) (v := ?_) rfl (by kernel_rfl) (fun _ _ _ h => h) (Or.inl ⟨by rfl, ?_⟩) (by assumption) ?_; rotate_left; focus ((intro wq hq; go_split_ands; go_simp); first | done | (with_reducible rfl))
      refine wpL_pure (i := 10) (v := ?_) rfl (by kernel_rfl) (fun _ _ _ h => h) (Or.inl ⟨by rfl, ?_⟩) ?_; rotate_left; focus ((intro wq; go_simp); first | done | (with_reducible rfl))
      refine wpL_take (i := 11) (v := ?_) rfl (by kernel_rfl) (fun _ _ _ h => h) (Or.inl ⟨by rfl, ?_⟩) (by assumption) ?_; rotate_left; focus ((intro wq hq; go_split_ands; go_simp); first | done | (with_reducible rfl))
      clear hG g1 g2 g5 g6 e0 e1 e2 e3 e4 e5 e6
      refine wpL_eff (i := 2) rfl (by kernel_rfl) (fun K hK => ?_)
      go_simp
      refine (Hs1.out _).mono ?_
      rintro e w2 ⟨v, rfl, rfl, rfl⟩
      refine hK _ _ (.inr (.inr rfl)) ?_
      clear hK
      refine wpL_pure (i := 13) (v := ?_) rfl (by kernel_rfl) (fun _ _ _ h => h) (Or.inl ⟨by rfl, ?_⟩) ?_; rotate_left; focus ((intro wq; go_simp); first | done | (with_reducible rfl))
      refine wpL_eff (i := 5) rfl (by kernel_rfl) (fun K hK => ?_)
      go_simp
      refine (Hs2.out _).mono ?_
      rintro e w2 ⟨v, rfl, rfl, rfl⟩
      refine hK _ _ (.inr (.inr rfl)) ?_
      clear hK
      refine wpL_eff (i := 8) rfl (by kernel_rfl) (fun K hK => ?_)
      go_simp
      refine (Hcu.out _).mono ?_
      rintro e w2 ⟨v, rfl, rfl, rfl⟩
      refine hK _ _ (.inr (.inr rfl)) ?_
      clear hK
      refine wpL_eff (i := 9) rfl (by kernel_rfl) (fun K hK => ?_)
      go_simp
      refine (copy_c hSd (db.take 100) (Hib.out _ (hGF _ hSd.drop.drop.drop)) (by rw [List.length_take]; omega)).mono ?_
      rintro e w3 ⟨v, rfl, hS3, a3, n3, k3, rfl⟩
      have hP := hS3.pick1
      refine hK _ _ (.inr (.inl ⟨hP.cellAt 1 _ rfl, hP.cellAt 2 _ rfl, hP.cellAt 5 _ rfl, hP.cellAt 6 _ rfl⟩)) ?_
      clear hK
      have fr1 := hP.freeAt 1
      have fr2 := hP.freeAt 2
      have fr5 := hP.freeAt 5
      have fr6 := hP.freeAt 6
      have cc1 := hP.cellAt 1 _ rfl
      have cc2 := hP.cellAt 2 _ rfl
      have cc5 := hP.cellAt 5 _ rfl
      have cc6 := hP.cellAt 6 _ rfl
      refine wpL_eff (i := 12) rfl (by kernel_rfl) (fun K hK => ?_)
      go_simp
      refine (Hnu.out _).mono ?_
      rintro e w2 ⟨v, rfl, rfl, rfl⟩
      refine hK _ _ (.inl rfl) ?_
      clear hK
      refine wpL_eff (i := 14) rfl (by kernel_rfl) (fun K hK => ?_)
      go_simp
      refine hK _ _ (.inl rfl) ?_
      clear hK
      refine wpL_pure (i := 15) (v := ?_) rfl (by kernel_rfl) (fun _ _ _ h => h) (Or.inl ⟨by rfl, ?_⟩) ?_; rotate_left; focus ((intro wq; go_simp); first | done | (with_reducible rfl))
      refine wpL_eff (i := 16) rfl (by kernel_rfl) (fun K hK => ?_)
      go_simp
      refine hK _ _ (.inl rfl) ?_
      clear hK
      refine wpL_pure (i := 17) (v := ?_) rfl (by kernel_rfl) (fun _ _ _ h => h) (Or.inl ⟨by rfl, ?_⟩) ?_; rotate_left; focus ((intro wq; go_simp); first | done | (with_reducible rfl))
      refine wpL_eff (i := 18) rfl (by kernel_rfl) (fun K hK => ?_)
      go_simp
      refine hK _ _ (.inl rfl) ?_
      clear hK
      refine wpL_pure (i := 19) (v := ?_) rfl (by kernel_rfl) (fun _ _ _ h => h) (Or.inl ⟨by rfl, ?_⟩) ?_; rotate_left; focus ((intro wq; go_simp); first | done | (with_reducible rfl))
      refine wpL_eff (i := 20) rfl (by kernel_rfl) (fun K hK => ?_)
      go_simp
      refine hK _ _ (.inl rfl) ?_
      clear hK
      refine wpL_done (by kernel_rfl) ?_
      have hP4 : Sat w0 ((((w3.setCell ⟨q, 1, none⟩ (.string (shortS name 30))).setCell ⟨q, 2, none⟩ (.string (shortS to 30))).setCell ⟨q, 5, none⟩ (.slice a3 n3 k3)).setCell ⟨q, 6, none⟩ (.slice la ln' lc)) (pt q (.cells #[.int .i64 kind, .string (shortS name 30), .string (shortS to 30), .int .i64 dn, .int .i64 dm, .slice a3 n3 k3, .slice la ln' lc] 36 (0,0)) :: bsl (.slice a3 n3 k3) (db.take 100) :: osl 36 7 (.slice oa on oc) (es.flatMap dCells) :: bsls es :: G) := (((hP.set 1 (.string (shortS name 30))).set 2 (.string (shortS to 30))).set 5 (.slice a3 n3 k3)).set 6 (.slice la ln' lc)
      clear fr1 fr2 fr5 fr6 cc1 cc2 cc5 cc6 hP hS3 hSd hb
      generalize ((((w3.setCell ⟨q, 1, none⟩ (.string (shortS name 30))).setCell ⟨q, 2, none⟩ (.string (shortS to 30))).setCell ⟨q, 5, none⟩ (.slice a3 n3 k3)).setCell ⟨q, 6, none⟩ (.slice la ln' lc)) = w4 at *
      have c0 : w4.cell? ⟨q, 0, none⟩ = some (.int .i64 kind) := hP4.cellAt 0 _ rfl
      have c1 : w4.cell? ⟨q, 1, none⟩ = some (.string (shortS name 30)) := hP4.cellAt 1 _ rfl
      have c2 : w4.cell? ⟨q, 2, none⟩ = some (.string (shortS to 30)) := hP4.cellAt 2 _ rfl
      have c3 : w4.cell? ⟨q, 3, none⟩ = some (.int .i64 dn) := hP4.cellAt 3 _ rfl
      have c4 : w4.cell? ⟨q, 4, none⟩ = some (.int .i64 dm) := hP4.cellAt 4 _ rfl
      have c5 : w4.cell? ⟨q, 5, none⟩ = some (.slice a3 n3 k3) := hP4.cellAt 5 _ rfl
      have c6 : w4.cell? ⟨q, 6, none⟩ = some (.slice la ln' lc) := hP4.cellAt 6 _ rfl
      have hb1 := hP4.alloc (.cells #[.int .i64 kind, .string (shortS name 30), .string (shortS to 30), .int .i64 dn, .int .i64 dm, .slice a3 n3 k3, .slice la ln' lc] 36)
      have hlenes : (es.flatMap dCells).length = i * 7 := by rw [List.length_flatMap]; simp [dCells, List.map_const', Hes.out]
      have h63 : (es.flatMap dCells).length + 7 ≤ maxLen := by rw [hlenes]; unfold maxLen; omega
      have hby : ((es.flatMap dCells).length + 7) * ii.bytes ≤ 140737488355328 := by rw [hlenes, hz2]; omega
      have hoc : ∀ u ∈ (#[.int .i64 kind, .string (shortS name 30), .string (shortS to 30), .int .i64 dn, .int .i64 dm, .slice a3 n3 k3, .slice la ln' lc] : Array Value).toList, u.oneCell' = true := by
        intro u hu
        simp only [List.mem_cons, List.not_mem_nil, or_false] at hu
        rcases hu with rfl | rfl | rfl | rfl | rfl | rfl | rfl <;> rfl
      clear hlenes
      go_wp2_with (at_builtin; go_must (refine wpList_append (w0 := w0) (by rfl) _ _ _ (by rfl) _ ii _ Try.underlying22 hi hz0 hz1 (by rfl) (by omega) (by rfl) (by rfl) hoc (hb1.sel 4 [3, 2, 0] rfl rfl) (rdsl_new _ _ _ 7 1 1 (by rfl)) h63 hby ?_); intro v2 w5 hS5 hne)
      obtain ⟨oa', on', oc', rfl, _⟩ := id hS5.rd
      clear hne hoc h63 hby hb1 hP4 c0 c1 c2 c3 c4 c5 c6
      go_roundg (R - (i + 1))
      case measure => omega
      case rel =>
        have e1 : bsls (es ++ [⟨kind, shortS name 30, shortS to 30, dn, dm, .slice a3 n3 k3, db.take 100, .slice la ln' lc, dl.take 60⟩]) = Sl.star (bsls es) (bsl (.slice a3 n3 k3) (db.take 100)) := by
          unfold bsls
          rw [List.map_append, stars_append]
          show Sl.star _ (stars [_]) = _
          rw [stars_one]
        have e2 : (es ++ [(⟨kind, shortS name 30, shortS to 30, dn, dm, .slice a3 n3 k3, db.take 100, .slice la ln' lc, dl.take 60⟩ : D)]).flatMap dCells = es.flatMap dCells ++ [.int .i64 kind, .string (shortS name 30), .string (shortS to 30), .int .i64 dn, .int .i64 dm, .slice a3 n3 k3, .slice la ln' lc] := by
          rw [List.flatMap_append]; rfl
        refine ⟨i + 1, es ++ [⟨kind, shortS name 30, shortS to 30, dn, dm, .slice a3 n3 k3, db.take 100, .slice la ln' lc, dl.take 60⟩], oa', on', oc', rfl, by omega, by go_num, rfl, by simp [Hes.out], ?_, ?_⟩
        · intro j d e hj he
          rcases Nat.lt_trichotomy j i with hlt | rfl | hgt
          · rw [List.getElem?_append_left (by rw [Hes.out]; exact hlt)] at he
            exact Hfew.out j d e hj he
          · rw [List.getElem?_append_right (by rw [Hes.out]; exact Nat.le_refl _), Hes.out, Nat.sub_self] at he
            rw [Hd.out] at hj
            cases hj
            cases he
            exact ⟨rfl, rfl, rfl, rfl, rfl, rfl, rfl, Hil.out, Hlc.out⟩
          · rw [List.getElem?_eq_none (by simp [Hes.out]; omega)] at he
            cases he
        · rw [e1, e2]
          have h6 : Sat w0 w5 (bsls es :: bsl (.slice a3 n3 k3) (db.take 100) :: osl 36 7 (.slice oa' on' oc') _ :: G) := hS5.sel 4 [3, 1, 0] rfl rfl
          exact (Sat.star.2 h6).pick1
    · obtain rfl : i = R := by omega
      have htest : (¬ (i : Int) < (ds.length : Int)) ∨ ((i : Int) < (ds.length : Int) ∧ ¬ (i : Int) < (n : Int)) := by
        by_cases h1 : i < ds.length
        · exact .inr ⟨by omega, by omega⟩
        · exact .inl (by omega)
      clear hR1 hR2 hR3 hi' hiR
      rcases htest with ht | ⟨ht1, ht2⟩
      all_goals
        go_wp2
        go_ret
        exact ⟨.slice oa on oc, rfl, es, by rw [Hes.out, HR.out], Hfew.out, hS⟩
end
end Go.Proofs.Ytmjldaedhmipkaa
/- Spoilt bytes: the walk (under way). -/
namespace Go.Proofs.Ytmjldaedhmipkaa
open Go Go.Sl Go.Med Go.MapKept Go.RowKit
set_option linter.unusedVariables false
section
variable {w0 w : World} {F : List HProp} {m fb nb b r : Nat} {M : Med} {bs : List Nat} {wv v bv dv : Value} {s : ByteArray} {fs : List Fil} {K : Nat} {f : Fil}
set_option maxHeartbeats 1000000 in
theorem rot_out (h : Sat w0 w (FilRep b f :: F)) (_ : f.Ok K) (at_ : Int) (y : UInt8) (ho : at_ < 0 ∨ (f.now.length : Int) ≤ at_) :
    Calls Try.prog 60 #[ptr b, .int .i64 at_, .int .u8 y.toNat] w (Rtn fun v w' => v = .bool false ∧ Sat w0 w' (FilRep b f :: F)) := by
  obtain ⟨fv, nv, wv, ws, hws, hR⟩ := FilRep.open h
  obtain ⟨na, nn, nc, rfl⟩ := bsl_shape (hR.sel 3 [2] rfl rfl)
  have hnn : nn = f.now.length := by
    obtain ⟨_, _, _, he, hl, _⟩ := Sat.rd (hR.sel 3 [2] rfl rfl)
    cases he
    rw [bys_len, Nat.mul_one] at hl; exact hl.symm
  subst hnn
  have c1 := hR.cellAt 1 _ rfl
  by_cases h1 : at_ < 0
  · clear hws
    go_enter Try.func60, Try.ntmps60
    go_wp2
    go_ret
    exact ⟨.bool false, rfl, rfl, h⟩
  · have h2 : (f.now.length : Int) ≤ at_ := by omega
    have h1' : decide (at_ < 0) = false := by rw [decide_eq_false_iff_not]; exact h1
    clear hws ho
    go_enter Try.func60, Try.ntmps60
    go_wp2
    go_ret
    exact ⟨.bool false, rfl, rfl, h⟩
end
end Go.Proofs.Ytmjldaedhmipkaa
/- file.rot within range. -/
namespace Go.Proofs.Ytmjldaedhmipkaa
open Go Go.Sl Go.Med Go.MapKept Go.RowKit
set_option linter.unusedVariables false
section
variable {w0 w : World} {F : List HProp} {m fb nb b r : Nat} {M : Med} {bs : List Nat} {wv v bv dv : Value} {s : ByteArray} {fs : List Fil} {K : Nat} {f : Fil}
theorem chg_set : ∀ (ws : List (Chg × Value)) (j : Nat) (p : Chg × Value) (b' : Bs) (v' : Value), ws[j]? = some p → (ws.flatMap chgCells).set (j * 3 + 2) v' = (ws.set j ({ p.1 with b := b' }, v')).flatMap chgCells
  | [], _, _, _, _, h => by cases h
  | q :: ws, 0, p, b', v', h => by
    cases h
    rfl
  | q :: ws, j + 1, p, b', v', h => by
    have := chg_set ws j p b' v' (by simpa using h)
    rw [List.set_cons_succ, List.flatMap_cons, List.flatMap_cons, ← this]
    have e : (j + 1) * 3 + 2 = (j * 3 + 2) + 1 + 1 + 1 := by omega
    rw [e]
    rfl
theorem chgs_put : ∀ (ws : List (Chg × Value)) (i : Nat) (p : Chg × Value), ws[i]? = some p → ∃ G : HProp, chgs ws = star (bsl p.2 p.1.b) G ∧ ∀ p', chgs (ws.set i p') = star (bsl p'.2 p'.1.b) G
  | [], _, _, h => by cases h
  | q :: ws, 0, p, h => by
    simp at h; subst h
    exact ⟨chgs ws, rfl, fun _ => rfl⟩
  | q :: ws, i + 1, p, h => by
    obtain ⟨G, hG, hG'⟩ := chgs_put ws i p (by simpa using h)
    refine ⟨star (bsl q.2 q.1.b) G, ?_, fun p' => ?_⟩
    · show star (bsl q.2 q.1.b) (chgs ws) = _
      rw [hG, star_left_comm]
    · show star (bsl q.2 q.1.b) (chgs (ws.set i p')) = _
      rw [hG', star_left_comm]
theorem past_lt {k m W : Nat} (hp : Past f k m W) (hW : W ≤ f.waits.length) (hk : k < (f.at W).length) : ∀ d j, W = j + d → m ≤ j → k < (f.at j).length
  | 0, j, e, _ => by rw [e] at hk; exact hk
  | d + 1, j, e, hj => by
    have h1 : k < (f.at (j + 1)).length := past_lt hp hW hk d (j + 1) (by omega) (by omega)
    have h2 : f.waits[j]? = some (f.waits[j]'(by omega)) := List.getElem?_eq_getElem _
    rcases hp j _ hj (by omega) h2 with h3 | h3
    · rw [f.at_succ j _ h2] at h1
      unfold Chg.on at h1
      rw [if_pos h3] at h1
      simp at h1; omega
    · exact h3
theorem rot_found {k j : Nat} {c : Chg} (y : UInt8) (hp : Past f k (j + 1) f.waits.length) (hc : f.waits[j]? = some c) (hcut : c.cut = false) (hl : (f.at j).length ≤ k) :
    f.rot k y = { f with now := xorAt f.now k y, waits := f.waits.set j { c with b := xorAt c.b (k - (f.at j).length) y } } := by
  unfold Fil.rot
  rcases rotWaits_spec f k y f.waits.length (Nat.le_refl _) with ⟨h1, h2⟩ | ⟨i, d, hi, hd, hdc, hdl, h1, h2⟩
  · rcases h2 j c (Nat.zero_le _) (List.getElem?_eq_some_iff.1 hc).1 hc with h | h
    · rw [hcut] at h; cases h
    · omega
  · have hj : j < f.waits.length := (List.getElem?_eq_some_iff.1 hc).1
    rcases Nat.lt_trichotomy i j with hlt | rfl | hgt
    · rcases h2 j c hlt hj hc with h | h
      · rw [hcut] at h; cases h
      · omega
    · rw [hc] at hd; cases hd
      rw [h1]
    · rcases hp i d hgt hi hd with h | h
      · rw [hdc] at h; cases h
      · omega
theorem rot_none {k : Nat} (y : UInt8) (hp : Past f k 0 f.waits.length) : f.rot k y = { f with now := xorAt f.now k y, fast := xorAt f.fast k y } := by
  unfold Fil.rot
  rcases rotWaits_spec f k y f.waits.length (Nat.le_refl _) with ⟨h1, h2⟩ | ⟨i, d, hi, hd, hdc, hdl, h1, h2⟩
  · rw [h1]
  · rcases hp i d (Nat.zero_le _) hi hd with h | h
    · rw [hdc] at h; cases h
    · omega
set_option maxHeartbeats 2000000 in
theorem rot_in (h : Sat w0 w (FilRep b f :: F)) (hf : f.Ok K) (hK : K ≤ 1099511627776) (k : Nat) (y : UInt8) (hk : k < f.now.length) :
    Calls Try.prog 60 #[ptr b, .int .i64 k, .int .u8 y.toNat] w (Rtn fun v w' => v = .bool true ∧ Sat w0 w' (FilRep b (f.rot k y) :: F)) := by
  obtain ⟨fv, nv, wv, ws, hws, hR⟩ := FilRep.open h
  obtain ⟨na, nn, nc, rfl⟩ := bsl_shape (hR.sel 3 [2] rfl rfl)
  have hnn : nn = f.now.length := by
    obtain ⟨_, _, _, he, hl, _⟩ := Sat.rd (hR.sel 3 [2] rfl rfl)
    cases he
    rw [bys_len, Nat.mul_one] at hl; exact hl.symm
  subst hnn
  obtain ⟨fa, fn, fc, rfl⟩ := bsl_shape (hR.sel 2 [1] rfl rfl)
  have hb : Sat w0 w (bsl (.slice na f.now.length nc) f.now :: filPt b (.slice fa fn fc) (.slice na f.now.length nc) wv :: bsl (.slice fa fn fc) f.fast :: osl 98 3 wv (ws.flatMap chgCells) :: chgs ws :: F) := hR.sel 5 [2, 0, 1, 3, 4] rfl rfl
  obtain ⟨g, rfl, e0, e1, hS⟩ := bsl_set hb hk (f.now[k] ^^^ y)
  have c1 := hb.pick1.cellAt 1 _ rfl
  have hx := xor_u8 (f.now[k]'hk) y
  have d0 := hS.pick1.cellAt 0 _ rfl
  obtain ⟨wa, wn, wc, rfl, hwn, _⟩ := id (Sat.rd (hS.sel 4 [3] rfl rfl))
  have hwl : wn = f.waits.length := by
    have : (ws.flatMap chgCells).length = f.waits.length * 3 := by rw [List.length_flatMap, ← hws]; simp [chgCells, List.map_const']
    omega
  subst hwl
  clear hwn
  have hfn : fn = f.fast.length := by
    obtain ⟨_, _, _, he, hl, _⟩ := Sat.rd (hS.sel 3 [2] rfl rfl)
    cases he
    rw [bys_len, Nat.mul_one] at hl; exact hl.symm
  subst hfn
  have hA := hS.alloc (.cells #[.int .i64 f.fast.length] 3)
  have d2 := hA.pick2.cellAt 2 _ rfl
  have h1' : decide ((k : Int) < 0) = false := by rw [decide_eq_false_iff_not]; omega
  have h2' : decide ((f.now.length : Int) ≤ (k : Int)) = false := by rw [decide_eq_false_iff_not]; omega
  have h3' : (k : Int) < (f.now.length : Int) := by omega
  have h4' : decide (f.now.length ≤ k) = false := by rw [decide_eq_false_iff_not]; omega
  have Hws := Lib.hid hws; have Hf := Lib.hid hf
  clear hws hf
  generalize hx0 : f.now[k]'hk = x0 at *
  have Hx0 := Lib.hid hx0; clear hx0
  generalize hz : x0 ^^^ y = z at *
  have Hz := Lib.hid hz; clear hz
  clear hb hR h
  go_enter Try.func60, Try.ntmps60
  go_wp2_with fail
  have hL : Sat w0 _ (osl 3 1 (.slice (some ⟨w.heap.size, 0, none⟩) 1 1) ((List.range (0 + 1)).map fun j => Value.int .i64 ((f.at j).length : Nat)) :: _) := Sat.osl_of_pt (by simpa using hA) (by simp) (Nat.le_refl _) (by simp) (by unfold maxLen; omega) rfl
  generalize w.heap.size = q at *
  go_loopg [7, 46] f.waits.length (fun gg lv iq wr => ∃ (i : Nat) (la : Option Addr) (ln lc : Nat), gg = f.waits.length - i ∧ i ≤ f.waits.length ∧ iq = .int .i64 i ∧ lv = .slice la ln lc ∧
    Sat w0 wr (osl 3 1 (.slice la ln lc) ((List.range (i + 1)).map fun j => Value.int .i64 ((f.at j).length : Nat)) :: bsl (.slice (some ⟨g, 0, none⟩) f.now.length nc) (f.now.set k z) :: filPt b (.slice fa f.fast.length fc) (.slice (some ⟨g, 0, none⟩) f.now.length nc) (.slice wa f.waits.length wc) :: bsl (.slice fa f.fast.length fc) f.fast :: osl 98 3 (.slice wa f.waits.length wc) (ws.flatMap chgCells) :: chgs ws :: F))
  case atStart => exact ⟨0, _, 1, 1, rfl, Nat.zero_le _, rfl, rfl, hL⟩
  case round =>
    obtain ⟨i, la, ln, lc, rfl, hi, rfl, rfl, hS1⟩ := hrel
    by_cases hi' : i < f.waits.length
    · obtain ⟨p, hp⟩ : ∃ p, ws[i]? = some p := ⟨ws[i]'(by have := congrArg List.length Hws.out; simp at this; omega), List.getElem?_eq_getElem _⟩
      have hpw : f.waits[i]? = some p.1 := by rw [← Hws.out, List.getElem?_map, hp]; rfl
      have hO := hS1.sel 5 [4] rfl rfl
      have hshape : ∃ g, wa = some ⟨g, 0, none⟩ := by
        rcases (Sat.osl_cases hO) with ⟨he, hx, _⟩ | ⟨g, n', cap', cs, he, _⟩
        · have := (Value.slice.inj he).2.1; omega
        · exact ⟨g, (Value.slice.inj he).1⟩
      obtain ⟨gw, rfl⟩ := hshape
      obtain ⟨w0', w1', w2'⟩ := waits_cells hO hp
      obtain ⟨G, hG⟩ := chgs_take ws i p hp
      have hS2 := hS1.sel 6 [5] rfl rfl
      rw [hG] at hS2
      obtain ⟨ba, bn, bc, hpb, _, _, hbn⟩ := bsl_cap' (Sat.star.1 hS2)
      obtain ⟨⟨cut, cn, cb⟩, pv⟩ := p
      simp only at hpb w0' w1' w2' hpw
      subst hpb
      have hic : (i : Int) < (f.waits.length : Int) := by omega
      have hL1 := hS1.rd
      have hln : ln = i + 1 := by
        obtain ⟨_, _, _, he, hl, _⟩ := hL1
        cases he
        simpa using hl.symm
      subst hln
      obtain ⟨gl, rfl⟩ : ∃ g, la = some ⟨g, 0, none⟩ := by
        rcases (Sat.osl_cases hS1) with ⟨he, hx, _⟩ | ⟨g, n', cap', cs, he, _⟩
        · have := (Value.slice.inj he).2.1; omega
        · exact ⟨g, (Value.slice.inj he).1⟩
      have hSA := hS1.alloc (.cells #[.bool cut, .int .i64 cn, .slice ba bn bc] 98)
      have cl : (wr.alloc (.cells #[.bool cut, .int .i64 cn, .slice ba bn bc] 98)).cell? ⟨gl, i, none⟩ = some (.int .i64 (f.at i).length) := by
        obtain ⟨_, _, _, he, _, hx⟩ := hSA.pick1.rd
        cases he
        obtain ⟨b2, hb2, hc⟩ := hx i (.int .i64 ((f.at i).length : Nat)) (by simp)
        cases hb2
        rw [add_zero_lit] at hc; exact hc
      have cb0 := hSA.cellAt 0 _ rfl
      have cb1 := hSA.cellAt 1 _ rfl
      have cb2 := hSA.cellAt 2 _ rfl
      have hszi := Hf.out.size i (by omega)
      have hbud := Hf.out.budget
      have hwr1 : IntKind.i64.wrap (i : Int) = (i : Int) := IntWalk.i64_in _ (by omega)
      have hil : (i : Int) < (i : Int) + 1 := by omega
      simp only at hbn
      subst hbn
      have hrel' : ∀ N : Int, N = ((f.at (i + 1)).length : Int) → ((List.range (i + 1)).map fun j => Value.int .i64 ((f.at j).length : Nat)) ++ [.int .i64 N] = (List.range (i + 1 + 1)).map fun j => Value.int .i64 ((f.at j).length : Nat) := by
        rintro N rfl
        rw [List.range_succ (n := i + 1), List.map_append]; rfl
      have hlenl : ((List.range (i + 1)).map fun j => Value.int .i64 ((f.at j).length : Nat)).length = i + 1 := by simp
      have Hrel := Lib.hid hrel'; have Hlenl := Lib.hid hlenl
      have hS8 := hSA.drew
      clear hp hO hG hS2 d0 d2 e0 e1 c1 hS hA hL hL1 hrel' hlenl
      generalize hLL : ((List.range (i + 1)).map fun j => Value.int .i64 ((f.at j).length : Nat)) = LL at *
      clear hLL
      cases cut
      · have hszb : (f.at i).length + cb.length ≤ 16777216 := by
          have := Hf.out.size (i + 1) (by omega)
          rw [f.at_succ i _ hpw] at this
          simpa [Chg.on] using this
        have hnext : ((f.at i).length : Int) + cb.length = ((f.at (i + 1)).length : Int) := by
          rw [f.at_succ i _ hpw]
          simp [Chg.on]
        have hwr2 : IntKind.i64.wrap (((f.at i).length : Int) + cb.length) = ((f.at (i + 1)).length : Int) := by rw [IntWalk.i64_in _ (by omega)]; exact hnext
        clear hpw hnext hszi
        generalize ((f.at i).length : Int) = L0 at *
        go_wp2_with fail
        generalize wr.heap.size = qc at *
        refine wpL_begin [9, 10] (fun w' => w'.cell? ⟨gl, i, none⟩ = some (.int .i64 L0) ∧ w'.cell? ⟨qc, 2, none⟩ = some (.slice ba cb.length bc)) (by kernel_rfl) ?_
        have hG : _ ∧ _ := ⟨cl, cb2⟩
        refine wpL_pure (i := 0) (v := ?_) rfl (by kernel_rfl) (fun _ _ _ h => h) (Or.inl ⟨by rfl, ?_⟩) ?_; rotate_left; focus ((intro wq; go_simp); first | done | (with_reducible rfl))
        refine wpL_pure (i := 1) (v := ?_) rfl (by kernel_rfl) (fun _ _ _ h => h) (Or.inl ⟨by rfl, ?_⟩) ?_; rotate_left; focus ((intro wq; go_simp); first | done | (with_reducible rfl))
        refine wpL_pure (i := 2) (v := ?_) rfl (by kernel_rfl) (fun _ _ _ h => h) (Or.inl ⟨by rfl, ?_⟩) ?_; rotate_left; focus ((intro wq; go_simp); first | done | (with_reducible rfl))
        refine wpL_pure (i := 3) (v := ?_) rfl (by kernel_rfl) (fun _ _ _ h => h) (Or.inl ⟨by rfl, ?_⟩) ?_; rotate_left; focus ((intro wq; go_simp); first | done | (with_reducible rfl))
        refine wpL_pure (i := 4) (v := ?_) rfl (by kernel_rfl) (fun _ _ _ h => h) (Or.inl ⟨by rfl, ?_⟩) ?_; rotate_left; focus ((intro wq; go_simp); first | done | (with_reducible rfl))
        refine wpL_take (i := 5) (v := ?_) rfl (by kernel_rfl) (fun _ _ _ h => h) (Or.inl ⟨by rfl, ?_⟩) (by assumption) ?_; rotate_left; focus ((intro wq hq; go_split_ands; go_simp); first | done | (with_reducible rfl))
        refine wpL_pure (i := 6) (v := ?_) rfl (by kernel_rfl) (fun _ _ _ h => h) (Or.inl ⟨by rfl, ?_⟩) ?_; rotate_left; focus ((intro wq; go_simp); first | done | (with_reducible rfl))
        refine wpL_take (i := 7) (v := ?_) rfl (by kernel_rfl) (fun _ _ _ h => h) (Or.inl ⟨by rfl, ?_⟩) (by assumption) ?_; rotate_left; focus ((intro wq hq; go_split_ands; go_simp); first | done | (with_reducible rfl))
        refine wpL_pure (i := 8) (v := ?_) rfl (by kernel_rfl) (fun _ _ _ h => h) (Or.inl ⟨by rfl, ?_⟩) ?_; rotate_left; focus ((intro wq; go_simp); first | done | (with_reducible rfl))
        refine wpL_pure (i := 9) (v := ?_) rfl (by kernel_rfl) (fun _ _ _ h => h) (Or.inl ⟨by rfl, ?_⟩) ?_; rotate_left; focus ((intro wq; go_simp); first | done | (with_reducible rfl))
        refine wpL_pure (i := 10) (v := ?_) rfl (by kernel_rfl) (fun _ _ _ h => h) (Or.inl ⟨by rfl, ?_⟩) ?_; rotate_left; focus ((intro wq; go_simp); first | done | (with_reducible rfl))
        refine wpL_done (by kernel_rfl) ?_
        clear hG
        simp only [List.getElem_toArray, List.getElem_cons_succ, List.getElem_cons_zero]
        go_frame
        clear hwr1 hwr2 hil cl cb0 cb1 cb2 hSA w0' w1' w2' hS1
        generalize (wr.alloc (.cells #[.bool false, .int .i64 cn, .slice ba cb.length bc] 98)).drew = w8 at *
        have c9 := hS8.cellAt 0 _ rfl
        have c10 := hS8.cellAt 1 _ rfl
        skip
        obtain ⟨ii, hii, hz0, hz1, hz2⟩ := info_parts infoInt
        have hB := hS8.alloc (.cells #[.int .i64 (f.at (i + 1)).length] 3)
        have hL1 := Hlenl.out
        have h63 : LL.length + 1 ≤ maxLen := by rw [hL1]; unfold maxLen; omega
        have hby : (LL.length + 1) * ii.bytes ≤ 140737488355328 := by rw [hL1, hz2]; omega
        clear hL1
        go_wp2_with (at_builtin; go_must (refine wpList_append (w0 := w0) (by rfl) _ _ _ (by rfl) _ ii _ Try.underlying34 hii hz0 hz1 (by rfl) (by omega) (by rfl) (by rfl) (by intro u hu; simp at hu; subst hu; rfl) (hB.sel 3 [2] rfl rfl) (rdsl_new _ _ _ 1 1 1 (by rfl)) h63 hby ?_); intro v2 w5 hS5 hne)
        obtain ⟨oa', on', oc', rfl, _⟩ := id hS5.rd
        clear hne h63 hby hB
        go_roundg (f.waits.length - (i + 1))
        case measure => omega
        case rel =>
          refine ⟨i + 1, oa', on', oc', rfl, by omega, by go_num, rfl, ?_⟩
          rw [← Hrel.out _ rfl]
          exact hS5
      · have hcn : (cn : Int) = ((f.at (i + 1)).length : Int) := by
          have h1 := Hf.out.cuts i _ hpw rfl
          rw [f.at_succ i _ hpw]
          simp only [Chg.on, if_true, List.length_take] at h1 ⊢
          omega
        have hwr2 : True := trivial
        have Hcn := Lib.hid hcn
        clear hpw hszi hcn
        generalize ((f.at i).length : Int) = L0 at *
        go_wp2_with fail
        generalize wr.heap.size = qc at *
        refine wpL_begin [9, 10] (fun w' => w'.cell? ⟨gl, i, none⟩ = some (.int .i64 L0) ∧ w'.cell? ⟨qc, 2, none⟩ = some (.slice ba cb.length bc)) (by kernel_rfl) ?_
        have hG : _ ∧ _ := ⟨cl, cb2⟩
        refine wpL_pure (i := 0) (v := ?_) rfl (by kernel_rfl) (fun _ _ _ h => h) (Or.inl ⟨by rfl, ?_⟩) ?_; rotate_left; focus ((intro wq; go_simp); first | done | (with_reducible rfl))
        refine wpL_pure (i := 1) (v := ?_) rfl (by kernel_rfl) (fun _ _ _ h => h) (Or.inl ⟨by rfl, ?_⟩) ?_; rotate_left; focus ((intro wq; go_simp); first | done | (with_reducible rfl))
        refine wpL_pure (i := 2) (v := ?_) rfl (by kernel_rfl) (fun _ _ _ h => h) (Or.inl ⟨by rfl, ?_⟩) ?_; rotate_left; focus ((intro wq; go_simp); first | done | (with_reducible rfl))
        refine wpL_pure (i := 3) (v := ?_) rfl (by kernel_rfl) (fun _ _ _ h => h) (Or.inl ⟨by rfl, ?_⟩) ?_; rotate_left; focus ((intro wq; go_simp); first | done | (with_reducible rfl))
        refine wpL_pure (i := 4) (v := ?_) rfl (by kernel_rfl) (fun _ _ _ h => h) (Or.inl ⟨by rfl, ?_⟩) ?_; rotate_left; focus ((intro wq; go_simp); first | done | (with_reducible rfl))
        refine wpL_take (i := 5) (v := ?_) rfl (by kernel_rfl) (fun _ _ _ h => h) (Or.inl ⟨by rfl, ?_⟩) (by assumption) ?_; rotate_left; focus ((intro wq hq; go_split_ands; go_simp); first | done | (with_reducible rfl))
        refine wpL_pure (i := 6) (v := ?_) rfl (by kernel_rfl) (fun _ _ _ h => h) (Or.inl ⟨by rfl, ?_⟩) ?_; rotate_left; focus ((intro wq; go_simp); first | done | (with_reducible rfl))
        refine wpL_take (i := 7) (v := ?_) rfl (by kernel_rfl) (fun _ _ _ h => h) (Or.inl ⟨by rfl, ?_⟩) (by assumption) ?_; rotate_left; focus ((intro wq hq; go_split_ands; go_simp); first | done | (with_reducible rfl))
        refine wpL_pure (i := 8) (v := ?_) rfl (by kernel_rfl) (fun _ _ _ h => h) (Or.inl ⟨by rfl, ?_⟩) ?_; rotate_left; focus ((intro wq; go_simp); first | done | (with_reducible rfl))
        refine wpL_pure (i := 9) (v := ?_) rfl (by kernel_rfl) (fun _ _ _ h => h) (Or.inl ⟨by rfl, ?_⟩) ?_; rotate_left; focus ((intro wq; go_simp); first | done | (with_reducible rfl))
        refine wpL_pure (i := 10) (v := ?_) rfl (by kernel_rfl) (fun _ _ _ h => h) (Or.inl ⟨by rfl, ?_⟩) ?_; rotate_left; focus ((intro wq; go_simp); first | done | (with_reducible rfl))
        refine wpL_done (by kernel_rfl) ?_
        clear hG
        simp only [List.getElem_toArray, List.getElem_cons_succ, List.getElem_cons_zero]
        go_frame
        clear hwr1 hwr2 hil cl cb0 cb1 cb2 hSA w0' w1' w2' hS1
        generalize (wr.alloc (.cells #[.bool true, .int .i64 cn, .slice ba cb.length bc] 98)).drew = w8 at *
        have c9 := hS8.cellAt 0 _ rfl
        have c10 := hS8.cellAt 1 _ rfl
        skip
        obtain ⟨ii, hii, hz0, hz1, hz2⟩ := info_parts infoInt
        have hB := hS8.alloc (.cells #[.int .i64 cn] 3)
        have hL1 := Hlenl.out
        have h63 : LL.length + 1 ≤ maxLen := by rw [hL1]; unfold maxLen; omega
        have hby : (LL.length + 1) * ii.bytes ≤ 140737488355328 := by rw [hL1, hz2]; omega
        clear hL1
        go_wp2_with (at_builtin; go_must (refine wpList_append (w0 := w0) (by rfl) _ _ _ (by rfl) _ ii _ Try.underlying34 hii hz0 hz1 (by rfl) (by omega) (by rfl) (by rfl) (by intro u hu; simp at hu; subst hu; rfl) (hB.sel 3 [2] rfl rfl) (rdsl_new _ _ _ 1 1 1 (by rfl)) h63 hby ?_); intro v2 w5 hS5 hne)
        obtain ⟨oa', on', oc', rfl, _⟩ := id hS5.rd
        clear hne h63 hby hB
        go_roundg (f.waits.length - (i + 1))
        case measure => omega
        case rel =>
          refine ⟨i + 1, oa', on', oc', rfl, by omega, by go_num, rfl, ?_⟩
          rw [← Hrel.out _ Hcn.out]
          exact hS5
    · obtain rfl : i = f.waits.length := by omega
      have hic : ¬ (f.waits.length : Int) < (f.waits.length : Int) := by omega
      have hbud := Hf.out.budget
      have d2' := hS1.pick2.cellAt 2 _ rfl
      have hwrW : IntKind.i64.wrap ((f.waits.length : Int) - 1) = (f.waits.length : Int) - 1 := IntWalk.i64_in _ (by omega)
      clear d0 d2 e0 e1 c1 hS hA hL hi'
      go_wp2_with fail
      clear d2' hwrW hic
      have Hlow := Lib.hid hk
      go_loopg [11] f.waits.length (fun gg iq wr => ∃ (n : Nat), gg = n ∧ n ≤ f.waits.length ∧ iq = .int .i64 ((n : Int) - 1) ∧ Past f k n f.waits.length ∧
        Sat w0 wr (osl 3 1 (.slice la ln lc) ((List.range (f.waits.length + 1)).map fun j => Value.int .i64 ((f.at j).length : Nat)) :: bsl (.slice (some ⟨g, 0, none⟩) f.now.length nc) (f.now.set k z) :: filPt b (.slice fa f.fast.length fc) (.slice (some ⟨g, 0, none⟩) f.now.length nc) (.slice wa f.waits.length wc) :: bsl (.slice fa f.fast.length fc) f.fast :: osl 98 3 (.slice wa f.waits.length wc) (ws.flatMap chgCells) :: chgs ws :: F))
      case atStart => exact ⟨f.waits.length, rfl, Nat.le_refl _, rfl, (fun j c h1 h2 => by omega), hS1⟩
      case round =>
        obtain ⟨n, hgn, hn, rfl, hpast, hS2⟩ := hrel
        have hgn' := hgn.symm
        subst hgn'
        have hkn : k < (f.at f.waits.length).length := by rw [← Hf.out.now]; exact hk
        have hznow : f.now.set k z = xorAt f.now k y := by
          unfold xorAt
          rw [List.getD_eq_getElem?_getD, List.getElem?_eq_getElem hk, Option.getD_some, Hx0.out, Hz.out]
        have Hznow := Lib.hid hznow
        clear hznow
        rcases n with _ | j
        · have hkf : k < f.fast.length := past_lt hpast (Nat.le_refl _) hkn f.waits.length 0 (by omega) (Nat.zero_le _)
          have Hrot := Lib.hid (rot_none y hpast)
          have hrd := Sat.rd (hS2.sel 4 [3] rfl rfl)
          have hcl := clone_c hS2 hrd (by have := Hf.out.size 0 (Nat.zero_le _); rw [Fil.at_zero] at this; omega)
          have b0 := hS2.pick2.cellAt 0 _ rfl
          clear hrd hpast hkn hgn hn
          rw [show (((0 : Nat) : Int) - 1) = -1 from rfl]
          go_wp2_with fail
          refine hcl.mono ?_
          rintro e w1 ⟨v', rfl, hS3, a3, n3, k3, rfl⟩
          have hP := hS3.sel 4 [3, 0, 2] rfl rfl
          have fz := hP.freeAt 0
          have fz1 := hP.cellAt 0 _ rfl
          have hP2 := hP.set 0 (.slice a3 n3 k3)
          have p0 : (w1.setCell ⟨b, 0, none⟩ (.slice a3 n3 k3)).cell? ⟨b, 0, none⟩ = some (.slice a3 n3 k3) := hP2.cellAt 0 _ rfl
          obtain ⟨g3, rfl, p1, p2, hP3⟩ := bsl_set hP2.pick1 hkf (f.fast[k]'hkf ^^^ y)
          have hx1 := xor_u8 (f.fast[k]'hkf) y
          have hn3 : n3 = f.fast.length := by
            obtain ⟨_, _, _, he, hl, _⟩ := Sat.rd (hP2.sel 2 [1] rfl rfl)
            cases he
            rw [bys_len, Nat.mul_one] at hl; exact hl.symm
          subst hn3
          have hki : (k : Int) < (f.fast.length : Int) := by omega
          have hzf : f.fast.set k (f.fast[k]'hkf ^^^ y) = xorAt f.fast k y := by
            unfold xorAt
            rw [List.getD_eq_getElem?_getD, List.getElem?_eq_getElem hkf, Option.getD_some]
          rw [hzf] at hP3
          have Hzf := Lib.hid hzf
          clear hzf hS3 hP hcl b0
          generalize f.fast[k]'hkf = x3 at *
          generalize x3 ^^^ y = z3 at *
          go_wp2
          go_ret
          refine ⟨.bool true, rfl, rfl, ?_⟩
          rw [Hrot.out]
          have h6 := hP3.sel 5 [1, 0, 2, 4] rfl rfl
          rw [Hznow.out] at h6
          have h7 : Sat w0 _ (FilRaw b { f with now := xorAt f.now k y, fast := xorAt f.fast k y } (.slice (some ⟨g3, 0, none⟩) f.fast.length k3) (.slice (some ⟨g, 0, none⟩) f.now.length nc) (.slice wa f.waits.length wc) ws ++ F) := h6
          exact FilRep.shut Hws.out h7
        · have hj : j < f.waits.length := hn
          obtain ⟨p, hp⟩ : ∃ p, ws[j]? = some p := ⟨ws[j]'(by have := congrArg List.length Hws.out; simp at this; omega), List.getElem?_eq_getElem _⟩
          have hpw : f.waits[j]? = some p.1 := by rw [← Hws.out, List.getElem?_map, hp]; rfl
          have hO := hS2.sel 5 [4] rfl rfl
          obtain ⟨gw, rfl⟩ : ∃ g, wa = some ⟨g, 0, none⟩ := by
            rcases (Sat.osl_cases hO) with ⟨he, hx, _⟩ | ⟨g, n', cap', cs, he, _⟩
            · have := (Value.slice.inj he).2.1; omega
            · exact ⟨g, (Value.slice.inj he).1⟩
          obtain ⟨w0', w1', w2'⟩ := waits_cells hO hp
          obtain ⟨G, hG, hG'⟩ := chgs_put ws j p hp
          rw [hG] at hS2
          have hS2b := (Sat.star.1 (hS2.sel 6 [5, 0, 1, 2, 3, 4] rfl rfl)).sel 7 [2, 3, 4, 5, 6, 0, 1] rfl rfl
          obtain ⟨⟨cut, cn, cb⟩, pv⟩ := p
          obtain ⟨ba, bn, bc, hpb, _, _, hbn⟩ := bsl_cap' (hS2b.sel 6 [5] rfl rfl)
          simp only at hpb w0' w1' w2' hpw hbn
          subst hpb
          subst hbn
          obtain ⟨gl, rfl⟩ : ∃ g, la = some ⟨g, 0, none⟩ := by
            rcases (Sat.osl_cases hS2b) with ⟨he, hx, _⟩ | ⟨g, n', cap', cs, he, _⟩
            · have := congrArg List.length hx
              simp at this
            · exact ⟨g, (Value.slice.inj he).1⟩
          have hln : ln = f.waits.length + 1 := by
            obtain ⟨_, _, _, he, hl, _⟩ := hS2b.rd
            cases he
            simpa using hl.symm
          subst hln
          have b2 := hS2b.pick2.cellAt 2 _ rfl
          have hic : (j : Int) < (f.waits.length : Int) := by omega
          have hwj : IntKind.i64.wrap ((j : Int) - 1) = (j : Int) - 1 := IntWalk.i64_in _ (by omega)
          have hil : (j : Int) < (f.waits.length : Int) + 1 := by omega
          have hget : ((List.range (f.waits.length + 1)).map fun j => Value.int .i64 ((f.at j).length : Nat))[j]? = some (.int .i64 ((f.at j).length : Nat)) := by
            rw [List.getElem?_map, List.getElem?_range (by omega)]; rfl
          have Hget := Lib.hid hget
          have Hpw := Lib.hid hpw
          clear hget hpw hO
          cases cut
          · have hSA := hS2b.alloc (.cells #[.bool false, .int .i64 cn, .slice ba cb.length bc] 98)
            have cb0 := hSA.cellAt 0 _ rfl
            have cb2 := hSA.cellAt 2 _ rfl
            have cl := (osl_set hSA.pick1 j undef).2.1 _ Hget.out
            by_cases hle : (f.at j).length ≤ k
            · have Hrot := Lib.hid (rot_found y hpast Hpw.out rfl hle)
              have hkj : k < (f.at (j + 1)).length := past_lt hpast (Nat.le_refl _) hkn (f.waits.length - (j + 1)) (j + 1) (by omega) (Nat.le_refl _)
              rw [f.at_succ j _ Hpw.out] at hkj
              simp only [Chg.on, Bool.false_eq_true, if_false, List.length_append] at hkj
              have hszj := Hf.out.size (j + 1) (by omega)
              rw [f.at_succ j _ Hpw.out] at hszj
              simp only [Chg.on, Bool.false_eq_true, if_false, List.length_append] at hszj
              obtain ⟨t, ht⟩ : ∃ t, t = k - (f.at j).length := ⟨_, rfl⟩
              have htl : t < cb.length := by omega
              have hwt : IntKind.i64.wrap ((k : Int) - ((f.at j).length : Int)) = (t : Int) := by rw [IntWalk.i64_in _ (by omega)]; omega
              have hti : (t : Int) < (cb.length : Int) := by omega
              have hle1 : ((f.at j).length : Int) ≤ (k : Int) := by omega
              have Ht := Lib.hid ht
              have hrd : rdsl 1 (.slice ba cb.length bc) (bys cb) (wr.alloc (.cells #[.bool false, .int .i64 cn, .slice ba cb.length bc] 98)) := Sat.rd (hSA.sel 7 [6] rfl rfl)
              have hcl := clone_c hSA hrd (by omega)
              have Hkj := Lib.hid hkj; have Hszj := Lib.hid hszj
              clear hpast hkn hgn ht hkj hszj hrd
              go_wp2_with fail
              refine hcl.mono ?_
              rintro e w1 ⟨v', rfl, hS3, a3, n3, k3, rfl⟩
              clear hcl hSA cb0 cb2 cl w0' w1' w2' b2
              have cl := (osl_set hS3.pick2 j undef).2.1 _ Hget.out
              obtain ⟨g3, rfl, p1, p2, hP3⟩ := bsl_set hS3 htl (cb[t]'htl ^^^ y)
              have hx1 := xor_u8 (cb[t]'htl) y
              have hn3 : n3 = cb.length := by
                obtain ⟨_, _, _, he, hl, _⟩ := Sat.rd hS3
                cases he
                rw [bys_len, Nat.mul_one] at hl; exact hl.symm
              subst hn3
              have hzf : cb.set t (cb[t]'htl ^^^ y) = xorAt cb t y := by
                unfold xorAt
                rw [List.getD_eq_getElem?_getD, List.getElem?_eq_getElem htl, Option.getD_some]
              rw [hzf] at hP3
              clear hzf hS3
              generalize cb[t]'htl = x3 at *
              generalize x3 ^^^ y = z3 at *
              have b2 := (hP3.sel 5 [4] rfl rfl).cellAt 2 _ rfl
              have hP4 := hP3.sel 9 [6, 0, 2, 3, 4, 5, 8] rfl rfl
              have o2 := (osl_set hP4 (j * 3 + 2) undef).2.1 _ (chg_cells ws j _ hp).2.2
              obtain ⟨o1, _, hP5⟩ := osl_set hP4 (j * 3 + 2) (.slice (some ⟨g3, 0, none⟩) cb.length k3)
              rw [chg_set ws j _ (xorAt cb t y) _ hp] at hP5
              go_wp2
              go_ret
              refine ⟨.bool true, rfl, rfl, ?_⟩
              rw [Hrot.out, ← Ht.out]
              have h6 := Sat.star.2 (hP5.sel 7 [1, 6, 4, 5, 3, 0] rfl rfl)
              rw [Hznow.out] at h6
              have h7 := h6.sel 5 [1, 2, 3, 4, 0] rfl rfl
              refine FilRep.shut (fv := .slice fa f.fast.length fc) (nv := .slice (some ⟨g, 0, none⟩) f.now.length nc) (wv := .slice (some ⟨gw, 0, none⟩) f.waits.length wc) (ws := ws.set j (⟨false, cn, xorAt cb t y⟩, .slice (some ⟨g3, 0, none⟩) cb.length k3)) (by rw [List.map_set, Hws.out]) ?_
              unfold FilRaw
              rw [hG' (⟨false, cn, xorAt cb t y⟩, .slice (some ⟨g3, 0, none⟩) cb.length k3)]
              exact h7
            · have hpn : Past f k j f.waits.length := by
                intro i c h1 h2 h3
                rcases Nat.lt_or_ge j i with h4 | h4
                · exact hpast i c h4 h2 h3
                · obtain rfl : i = j := by omega
                  exact .inr (by omega)
              have hle' : ¬ ((f.at j).length : Int) ≤ (k : Int) := by omega
              clear hpast
              go_wp2_with fail
              go_roundg j
              case measure => omega
              case rel =>
                refine ⟨j, rfl, by omega, rfl, hpn, ?_⟩
                rw [hG]
                have := hSA.sel 8 [6, 7, 1, 2, 3, 4, 5] rfl rfl
                exact (Sat.star.2 this).sel 6 [1, 2, 3, 4, 5, 0] rfl rfl
          · have hSA := hS2b.alloc (.cells #[.bool true, .int .i64 cn, .slice ba cb.length bc] 98)
            have cb0 := hSA.cellAt 0 _ rfl
            have hpn : Past f k j f.waits.length := by
              intro i c h1 h2 h3
              rcases Nat.lt_or_ge j i with h4 | h4
              · exact hpast i c h4 h2 h3
              · obtain rfl : i = j := by omega
                rw [Hpw.out] at h3; cases h3
                exact .inl rfl
            clear hpast
            go_wp2_with fail
            go_roundg j
            case measure => omega
            case rel =>
              refine ⟨j, rfl, by omega, rfl, hpn, ?_⟩
              rw [hG]
              have := hSA.sel 8 [6, 7, 1, 2, 3, 4, 5] rfl rfl
              exact (Sat.star.2 this).sel 6 [1, 2, 3, 4, 5, 0] rfl rfl
end
end Go.Proofs.Ytmjldaedhmipkaa
/- hoardref06: what Rot wants. -/
namespace Go.Proofs.Ytmjldaedhmipkaa
open Go Go.Sl Go.Med Go.MapKept Go.RowKit
set_option linter.unusedVariables false
section
variable {P : Program} {w0 w : World} {L L' R : List HProp} {b o : Nat} {ops : Array Oper} {rest : List Oper} {a : Act} {Q : Exit → Act → World → Prop} {dst : Option Tmp} {t ty T sz n c : Nat} {pos : String} {after : Array Edge} {x y : Operand} {v v0 v1 v2 : Value} {xs : List Value} {K : Act → World → Prop} {E : Prop}
theorem sets3 (cs : Array Value) (i : Nat) (v0 v1 v2 : Value) : putsAt cs i [v0, v1, v2] = ((cs.setIfInBounds i v0).setIfInBounds (i + 1) v1).setIfInBounds (i + 2) v2 := rfl
/-- A struct of three cells is stored into an owned slice, as an effect of a region that draws. -/
theorem eff_storeS3 (i : Nat) (hs : Sat w0 w L) (hx : a.eval x = .pointer (some ⟨b, i, none⟩)) (hy : a.eval y = .agg #[v0, v1, v2]) (u : Upd (osl T sz (.slice (some ⟨b, 0, none⟩) n c) xs) (osl T sz (.slice (some ⟨b, 0, none⟩) n c) (((xs.set i v0).set (i + 1) v1).set (i + 2) v2)) L L')
    (hi : i + 3 ≤ xs.length) (hty : (P.info? ty).map (·.size) = some 3) (h1 : (v0.oneCell' && v1.oneCell' && v2.oneCell') = true)
    (hK : ∀ w', Sat w0 w' L' → K (a.put dst undef) w') :
    if Region.wanted ⟨dst, .store ty x y, t, pos, after, none⟩ (yielded ops a.tmps) = true then Oper.wp P ⟨dst, .store ty x y, t, pos, after, none⟩ a w K Q else E := by
  obtain ⟨R', h2, h3⟩ := u
  have h := hs.perm h2
  rcases Sat.osl_cases h with ⟨he, _⟩ | ⟨g', n', cap', cs, he, k1, k2, k3, k4, k5, k6⟩
  · cases he
  · cases he
    have hlen : xs.length ≤ cs.size := by rw [← k5, List.length_take, Array.length_toList]; omega
    refine eff_store k6 hx hy (cs' := putsAt cs i [v0, v1, v2]) rfl upd0 (show i + 3 ≤ cs.size by omega) hty (by simp only [Bool.and_eq_true] at h1; show [v0, v1, v2].all _ = true; simp [h1]) fun w' hS => hK w' (Sat.perm ?_ h3.symm)
    refine Sat.osl_of_pt hS (by simp only [List.length_set]; exact k1) k2 (by rw [putsAt_size]; exact k3) k4 ?_
    rw [sets3]
    simp only [Array.toList_setIfInBounds, List.take_set, k5]
end
section
variable {w0 w : World} {F R : List HProp} {d i : Nat} {D : Med} {fsv fv nv wv v lv bv : Value} {xs : List RF} {x : RF} {g : Bag} {K : Nat}
section
variable {ops : Array Oper} {a : Act} {Q : Exit → Act → World → Prop} {dst : Option Tmp} {t b n c : Nat} {pos : String} {after : Array Edge} {p q : Operand} {l : Bs} {K : Act → World → Prop} {E : Prop}
/-- A byte of one's own is stored. -/
theorem eff_storeB (i : Nat) (z : UInt8) (hs : Sat w0 w (bsl (.slice (some ⟨b, 0, none⟩) n c) l :: R)) (hx : a.eval p = .pointer (some ⟨b, i, none⟩)) (hy : a.eval q = .int .u8 z.toNat) (hi : i < l.length)
    (hK : ∀ w', Sat w0 w' (bsl (.slice (some ⟨b, 0, none⟩) n c) (l.set i z) :: R) → K (a.put dst undef) w') :
    if Region.wanted ⟨dst, .store 5 p q, t, pos, after, none⟩ (yielded ops a.tmps) = true then Oper.wp Try.prog ⟨dst, .store 5 p q, t, pos, after, none⟩ a w K Q else E := by
  have h0 : Sat w0 w (osl 5 1 (.slice (some ⟨b, 0, none⟩) n c) (bys l) :: R) := hs
  refine eff_storeS i h0 hx hy upd0 (by rw [bys_len]; exact hi) (by kernel_rfl) rfl rfl fun w' hS => hK w' ?_
  have e : (bys l).set i (.int .u8 z.toNat) = bys (l.set i z) := by unfold bys; rw [List.map_set]
  rw [e] at hS
  exact hS
end
theorem byte_at {b n c i : Nat} {l : Bs} (h : Sat w0 w (bsl (.slice (some ⟨b, 0, none⟩) n c) l :: R)) (hi : i < l.length) : w.cell? ⟨b, i, none⟩ = some (.int .u8 (l.getD i 0).toNat) := by
  obtain ⟨g, he, hc, _⟩ := bsl_set h hi 0
  cases he
  rw [hc, List.getD_eq_getElem?_getD, List.getElem?_eq_getElem hi]; rfl
theorem xor_at (l : Bs) (i : Nat) (y : UInt8) : l.set i (l.getD i 0 ^^^ y) = xorAt l i y := rfl
theorem rfsL_all : ∀ (xs : List RF) (i : Nat) (x' : RF), i < xs.length → (((rfsL xs).set (i * 3) x'.fv).set (i * 3 + 1) x'.nv).set (i * 3 + 2) x'.wv = rfsL (xs.set i x')
  | [], _, _, h => by simp at h
  | q :: xs, 0, x', h => rfl
  | q :: xs, i + 1, x', h => by
    have e := rfsL_all xs i x' (by simpa using h)
    show (((q.fv :: q.nv :: q.wv :: rfsL xs).set ((i + 1) * 3) x'.fv).set ((i + 1) * 3 + 1) x'.nv).set ((i + 1) * 3 + 2) x'.wv = q.fv :: q.nv :: q.wv :: rfsL (xs.set i x')
    rw [← e, show (i + 1) * 3 = i * 3 + 1 + 1 + 1 by omega]; rfl
theorem chg_same : ∀ (ws : List (Chg × Value)) (k : Nat) (p : Chg × Value) (b' : Bs), ws[k]? = some p → (ws.set k ({ p.1 with b := b' }, p.2)).flatMap chgCells = ws.flatMap chgCells
  | [], _, _, _, h => by cases h
  | q :: ws, 0, p, b', h => by cases h; rfl
  | q :: ws, k + 1, p, b', h => by
    rw [List.set_cons_succ, List.flatMap_cons, List.flatMap_cons, chg_same ws k p b' (by simpa using h)]
theorem zChg : zeroB Try.prog 71 = some (.agg #[.bool false, .int .i64 0, .slice none 0 0]) := by kernel_rfl
end
end Go.Proofs.Ytmjldaedhmipkaa
/- hoardref06: Rot. -/
namespace Go.Proofs.Ytmjldaedhmipkaa
open Go Go.Sl Go.Med Go.MapKept Go.RowKit
set_option linter.unusedVariables false
section
variable {w0 w : World} {F R : List HProp} {d : Nat} {D : Med} {fsv fv nv wv v lv bv : Value} {xs : List RF} {g : Bag} {K : Nat}
set_option maxRecDepth 20000 in
set_option maxHeartbeats 16000000 in
theorem rrot_c (s : ByteArray) (z : Int) (hz : -9223372036854775808 ≤ z ∧ z ≤ 9223372036854775807) (y : UInt8) (ok : D.Ok K) (hK : K ≤ 1048576) (hsm : D.Small) (h : Sat w0 w (DskRep d D :: F)) :
    Calls Try.prog 37 #[ptr d, .string s, .int .i64 z, .int .u8 y.toNat] w (Rtn fun v w' => v = .bool (D.rot s z y).2 ∧ Sat w0 w' (DskRep d (D.rot s z y).1 :: F)) := by
  have Ok := Lib.hid ok; have HK := Lib.hid hK
  have hl : D.now.length ≤ 1048576 := Nat.le_trans ok.nowOk.len (by decide)
  obtain ⟨hz1, hz2⟩ := hz
  have hfd := rfind_c s hl h
  obtain ⟨fsv, fv, nv, wv, xs, g, hin, hR⟩ := DskRep.open h
  have Hin := Lib.hid hin; have Hh := Lib.hid h
  cases hg : nget D.now s with
  | none =>
    have Ha := Lib.hid (show D.rot s z y = (D, false) by unfold Med.rot; rw [hg])
    have hwh : D.which s = -1 := by unfold Med.which; rw [hg]
    rw [hwh] at hfd
    clear hg hwh ok hK hl hin hR h hsm
    go_enter Try.func37, Try.ntmps37
    go_wp2_with fail
    refine hfd.mono ?_
    rintro ee w1 ⟨v, rfl, rfl, rfl⟩
    clear hfd
    go_wp2
    go_ret
    exact ⟨_, rfl, by rw [Ha.out]; rfl, by rw [Ha.out]; exact Hh.out⟩
  | some i =>
    have hwh : D.which s = (i : Int) := by unfold Med.which; rw [hg]
    rw [hwh] at hfd
    have c1 : ¬ (i : Int) < 0 := by omega
    have c1' : decide ((i : Int) < 0) = false := decide_eq_false c1
    have Hif := Lib.hid (show i < D.files.length from ok.nowOk.ids _ (nget_mem hg))
    have Hg := Lib.hid hg
    obtain ⟨x, hx, hxf⟩ := hin.file Hif.out
    have hlx : xs.length = D.files.length := by rw [← hin.files, List.length_map]
    rcases Sat.osl_cases (hR.pick pick1) with ⟨_, hxx, _⟩ | ⟨fb, fn, fc, cs, rfl, hfn, _⟩
    · have h1 := congrArg List.length hxx
      have h2 := Hif.out
      rw [rfsL_len] at h1
      simp only [List.length_nil] at h1
      omega
    rw [rfsL_len] at hfn
    obtain rfl : fn = xs.length := by omega
    have c2 : (i : Int) < (xs.length : Int) := by have := Hif.out; omega
    obtain ⟨h0, h1, h2⟩ := rfsL_at hx
    obtain ⟨xna, xnc, hxn, hxnc, _⟩ := file_nv (List.mem_of_getElem? hx) (hR.pick pick2)
    have r1 := file_ro (w0 := w0) (R := bagR g :: osl 109 3 wv (D.waits.flatMap rlkL) :: F) (List.mem_of_getElem? hx)
    have r2 := file_ro2 (w0 := w0) (R := bagR g :: osl 109 3 wv (D.waits.flatMap rlkL) :: F) (List.mem_of_getElem? hx)
    have hpv := file_pv (List.mem_of_getElem? hx) (hR.pick pick2)
    have hok := hin.ok x (List.mem_of_getElem? hx)
    have okf := ok.file i
    rw [← hxf] at okf
    have hsmf : x.f.Small := by rw [hxf]; exact hsm.file i
    have hrot : ∀ X : Med × Bool, (if z < 0 ∨ (x.f.now.length : Int) ≤ z then (D, false) else (D.setFile i (x.f.rot z.toNat y), true)) = X → D.rot s z y = X := by
      rintro X rfl
      unfold Med.rot
      rw [hg]
      simp only []
      rw [hxf]
    obtain ⟨xf, xfv, xnv, xwv, xws⟩ := x
    dsimp only at hxf hok okf hsmf hrot h0 h1 h2 r1 r2 hxn hxnc hpv
    obtain ⟨r1n, r1⟩ := r1
    obtain ⟨r2, r3⟩ := r2
    have hR2 := hR.sub (sub_drop (sub_drop sub_refl))
    obtain ⟨xfa, xfn, xfc, rfl, _⟩ := id (r1 _ hR2)
    obtain ⟨xwa, xwc, rfl⟩ := chg_sl (r2 _ hR2)
    clear hR2
    subst hxn
    have HF : Hid (∀ R w', Sat w0 w' (osl 106 3 (.slice (some ⟨fb, 0, none⟩) xs.length fc) (rfsL xs) :: R) → w'.rangeAt fb (i * 3) [.slice xfa xfn xfc, .slice xna xf.now.length xnc, .slice xwa xws.length xwc]) := fun R w' hw' => by
      have hw2 := (osl_set hw' 0 (.slice none 0 0)).2.1
      have q0 := (osl_set hw' (i * 3) (.slice none 0 0)).2.1 _ h0
      have q1 := (osl_set hw' (i * 3 + 1) (.slice none 0 0)).2.1 _ h1
      have q2 := (osl_set hw' (i * 3 + 2) (.slice none 0 0)).2.1 _ h2
      intro j v hj
      match j, hj with
      | 0, hj => cases hj; exact q0
      | 1, hj => cases hj; exact q1
      | 2, hj => cases hj; exact q2
    have HPV := Lib.hid hpv; have Hx := Lib.hid hx; have Hxf := Lib.hid hxf; have Hok := Lib.hid hok; have Okf := Lib.hid okf; have Hsm := Lib.hid hsmf; have R1 := Lib.hid r1; have R2 := Lib.hid r2; have R3 := Lib.hid r3; have R1n := Lib.hid r1n; have Hrot := Lib.hid hrot
    have Hxl := Lib.hid (show xws.length = xf.waits.length by rw [← hok, List.length_map])
    have e1 : w.cell? ⟨d, 1, none⟩ = some (.slice (some ⟨fb, 0, none⟩) xs.length fc) := hR.cellP pick0 1 rfl
    have e2 : w.cell? ⟨fb, i * 3 + 1, none⟩ = some (.slice xna xf.now.length xnc) := HF.out _ _ (hR.pick pick1) 1 _ rfl
    clear hg hwh ok hK hl hin h hsm hsmf hx hxf hok okf r1 r1n r2 r3 hpv h0 h1 h2 hrot hlx hfn
    by_cases hz0 : z < 0
    · have Ha := Lib.hid (Hrot.out _ (if_pos (.inl hz0)))
      go_enter Try.func37, Try.ntmps37
      go_wp2_with fail
      refine hfd.mono ?_
      rintro ee w1 ⟨v, rfl, rfl, rfl⟩
      clear hfd
      go_wp2
      go_ret
      exact ⟨_, rfl, by rw [Ha.out]; rfl, by rw [Ha.out]; exact Hh.out⟩
    have hz0' : decide (z < 0) = false := by simpa using hz0
    by_cases hz3 : (xf.now.length : Int) ≤ z
    · have Ha := Lib.hid (Hrot.out _ (if_pos (.inr hz3)))
      go_enter Try.func37, Try.ntmps37
      go_wp2_with fail
      refine hfd.mono ?_
      rintro ee w1 ⟨v, rfl, rfl, rfl⟩
      clear hfd
      go_wp2
      go_ret
      exact ⟨_, rfl, by rw [Ha.out]; rfl, by rw [Ha.out]; exact Hh.out⟩
    have hz3' : decide ((xf.now.length : Int) ≤ z) = false := by simpa using hz3
    obtain ⟨k, rfl⟩ := Int.eq_ofNat_of_zero_le (show 0 ≤ z by omega)
    have Hkn := Lib.hid (show k < xf.now.length by omega)
    have Ha := Lib.hid (Hrot.out _ (if_neg (by omega)))
    rw [Int.toNat_natCast] at Ha
    have hnl := Okf.out.now_len
    go_enter Try.func37, Try.ntmps37
    go_wp2_with fail
    refine hfd.mono ?_
    rintro ee w1 ⟨v, rfl, rfl, rfl⟩
    clear hfd Hrot
    go_wp2_with (first
      | ((with_reducible apply at_load); refine ⟨?_⟩; refine wl_loadN' (b := fb) (o := i * 3) [.slice xfa xfn xfc, .slice xna xf.now.length xnc, .slice xwa xws.length xwc] (by rfl) (HF.out _ _ (hR.pick pick1)) Try.underlying106 rfl (by kernel_rfl) ?_)
      | ((with_reducible apply at_alloc); refine ⟨?_⟩; refine wl_alloc zFile hR rfl ?_; intro bX wX hX)
      | ((with_reducible apply at_store); refine ⟨?_⟩; refine wl_store (b := bX) hX (by rfl) (by conv => lhs; whnf) (by first | (simp only [putsAt, Value.cells]; (try go_frame); first | done | rfl) | rfl) upd0 (Nat.le_of_ble_eq_true (by rfl)) (by kernel_rfl) (by rfl) ?_; intro wS hS)
      | ((with_reducible apply at_load); refine ⟨?_⟩; refine wl_load1 (by assumption) (by rfl) (by first | ((repeat (first | with_reducible apply pick0 | with_reducible apply pick_there)); done) | ((repeat (first | apply pick0 | apply pick_there)); done) | fail) (Nat.le_of_ble_eq_true (by rfl)) (by conv => lhs; whnf) (by kernel_rfl) ?_))
    clear hR hX e1 e2
    refine (copy_c hS xf.now (R1n.out _ (hS.sub (sub_drop (sub_drop (sub_drop sub_refl))))) (by omega)).mono ?_
    rintro ee w2 ⟨v, rfl, hS2, a1, n1, n2, rfl⟩
    clear hS
    obtain ⟨a1', c1', hv1, hb1, hb1c, hb1a⟩ := bsl_sl hS2
    cases hv1
    obtain ⟨g1, rfl⟩ : ∃ g1, a1 = some ⟨g1, 0, none⟩ := by
      rcases hb1a with ⟨_, hc0⟩ | hh
      · have := Hkn.out; omega
      · exact hh
    go_wp2_with ((with_reducible apply at_store); refine ⟨?_⟩; refine wl_store (by assumption) (by rfl) (by conv => lhs; whnf) (by first | (simp only [putsAt, Value.cells]; (try go_frame); first | done | rfl) | rfl) (by first | ((repeat (first | with_reducible apply upd0 | with_reducible apply upd_there)); done) | ((repeat (first | apply upd0 | apply upd_there)); done) | fail) (Nat.le_of_ble_eq_true (by rfl)) (by kernel_rfl) (by rfl) ?_; intro wS hS)
    clear hS2
    simp only [List.setIfInBounds_toArray, List.set_cons_zero, List.set_cons_succ] at hS
    have hS3 := hS.drew
    clear hS
    have hb7 := byte_at hS3 Hkn.out
    obtain ⟨x0, hx0⟩ : ∃ x0, x0 = xf.now.getD k 0 := ⟨_, rfl⟩
    rw [← hx0] at hb7
    have Hx0 := Lib.hid hx0
    have hxr := xor_u8 x0 y
    clear hx0
    have c5 : (k : Int) < (xf.now.length : Int) := by have := Hkn.out; omega
    refine wpL_begin [10, 11] (fun w' => w'.cell? ⟨bX, 1, none⟩ = some (.slice (some ⟨g1, 0, none⟩) xf.now.length n2) ∧ w'.cell? ⟨g1, k, none⟩ = some (.int .u8 x0.toNat)) (by kernel_rfl) ?_
    have hG : World.cell? _ ⟨bX, 1, none⟩ = some (.slice (some ⟨g1, 0, none⟩) xf.now.length n2) ∧ World.cell? _ ⟨g1, k, none⟩ = some (.int .u8 x0.toNat) := ⟨hS3.cellP pick1 1 rfl, hb7⟩
    refine rg_pure 0 (by conv => lhs; whnf) (by kernel_rfl) (by intro _ _ _ h; exact h) (yl_field (by conv => lhs; whnf) (by ((intro wq; go_simp); first | done | (with_reducible rfl)))) (by go_frame; first | done | rfl) ?_
    refine rg_take 1 (by conv => lhs; whnf) (by kernel_rfl) (by intro _ _ _ h; exact h) (by first | exact tk_load (by conv => lhs; whnf) (by kernel_rfl) (by intro wq hq; first | exact hq | exact hq.1 | exact hq.2 | exact hq.2.1 | exact hq.2.2 | exact hq.2.2.1 | exact hq.2.2.2 | exact hq.2.2.2.1 | exact hq.2.2.2.2) | (refine Or.inl ⟨by rfl, ?_⟩; (intro wq hq; go_split_ands; go_simp); first | done | (with_reducible rfl))) (by assumption) (by go_frame; first | done | rfl) ?_
    refine rg_pure 2 (by conv => lhs; whnf) (by kernel_rfl) (by intro _ _ _ h; exact h) (yl_move (by conv => lhs; whnf)) (by go_frame; first | done | rfl) ?_
    refine rg_pure 3 (by conv => lhs; whnf) (by kernel_rfl) (by intro _ _ _ h; exact h) (yl_field (by conv => lhs; whnf) (by ((intro wq; go_simp); first | done | (with_reducible rfl)))) (by go_frame; first | done | rfl) ?_
    refine rg_take 4 (by conv => lhs; whnf) (by kernel_rfl) (by intro _ _ _ h; exact h) (by first | exact tk_load (by conv => lhs; whnf) (by kernel_rfl) (by intro wq hq; first | exact hq | exact hq.1 | exact hq.2 | exact hq.2.1 | exact hq.2.2 | exact hq.2.2.1 | exact hq.2.2.2 | exact hq.2.2.2.1 | exact hq.2.2.2.2) | (refine Or.inl ⟨by rfl, ?_⟩; (intro wq hq; go_split_ands; go_simp); first | done | (with_reducible rfl))) (by assumption) (by go_frame; first | done | rfl) ?_
    refine rg_pure 5 (by conv => lhs; whnf) (by kernel_rfl) (by intro _ _ _ h; exact h) (yl_move (by conv => lhs; whnf)) (by go_frame; first | done | rfl) ?_
    refine rg_pure 6 (by conv => lhs; whnf) (by kernel_rfl) (by intro _ _ _ h; exact h) (yl_index (by conv => lhs; whnf) (by conv => lhs; whnf) (by ((intro wq; go_simp); first | done | (with_reducible rfl)))) (by go_frame; first | done | rfl) ?_
    refine rg_take 7 (by conv => lhs; whnf) (by kernel_rfl) (by intro _ _ _ h; exact h) (by first | exact tk_load (by conv => lhs; whnf) (by kernel_rfl) (by intro wq hq; first | exact hq | exact hq.1 | exact hq.2 | exact hq.2.1 | exact hq.2.2 | exact hq.2.2.1 | exact hq.2.2.2 | exact hq.2.2.2.1 | exact hq.2.2.2.2) | (refine Or.inl ⟨by rfl, ?_⟩; (intro wq hq; go_split_ands; go_simp); first | done | (with_reducible rfl))) (by assumption) (by go_frame; first | done | rfl) ?_
    refine rg_pure 8 (by conv => lhs; whnf) (by kernel_rfl) (by intro _ _ _ h; exact h) (yl_move (by conv => lhs; whnf)) (by go_frame; first | done | rfl) ?_
    refine rg_pure 9 (by conv => lhs; whnf) (by kernel_rfl) (by intro _ _ _ h; exact h) (yl_bin (by conv => lhs; whnf) (by conv => lhs; whnf) (by ((intro wq; go_simp); first | done | (with_reducible rfl)))) (by go_frame; first | done | rfl) ?_
    refine rg_pure 10 (by conv => lhs; whnf) (by kernel_rfl) (by intro _ _ _ h; exact h) (yl_index (by conv => lhs; whnf) (by conv => lhs; whnf) (by ((intro wq; go_simp); first | done | (with_reducible rfl)))) (by go_frame; first | done | rfl) ?_
    refine rg_eff 11 (by conv => lhs; whnf) (by kernel_rfl) (fun K hK => ?_)
    refine eff_storeB k (x0 ^^^ y) hS3 (by conv => lhs; whnf) (by (conv => lhs; whnf); rw [UInt8.toNat_xor]) Hkn.out ?_
    intro w3 hS4
    refine hK _ _ (.inl rfl) ?_
    refine wpL_done (by kernel_rfl) ?_
    clear hK hG hS3 hxr hb7
    rw [Hx0.out, xor_at] at hS4
    try simp only [List.getElem_toArray, List.getElem_cons_succ, List.getElem_cons_zero]
    try go_frame
    go_wp2_with fail
    go_loopg [11, 12] xws.length (fun g' qv iq wr => ∃ (j : Nat) (ws' : List (Chg × Value)), g' = xws.length - j ∧ j ≤ xws.length ∧ iq = .int .i64 j ∧ ws'.map (·.1) = xf.waits.take j ∧
      Sat w0 wr (osl 71 3 qv (ws'.flatMap chgCells) :: chgs ws' :: bsl (.slice (some ⟨g1, 0, none⟩) xf.now.length n2) (xorAt xf.now k y) :: pt bX (.cells #[.slice xfa xfn xfc, .slice (some ⟨g1, 0, none⟩) xf.now.length n2, .slice xwa xws.length xwc] 106 (0,0)) ::
        dskPt d D (.slice (some ⟨fb, 0, none⟩) xs.length fc) fv nv wv :: osl 106 3 (.slice (some ⟨fb, 0, none⟩) xs.length fc) (rfsL xs) :: stars (xs.map rfR) :: bagR g :: osl 109 3 wv (D.waits.flatMap rlkL) :: F))
    case atStart => exact ⟨0, [], rfl, Nat.zero_le _, rfl, rfl, Sat.osl_nil.2 (Sat.emp.2 hS4)⟩
    case round =>
      obtain ⟨j, ws', rfl, hj, rfl, hws', hS⟩ := hrel
      clear hS4
      have hbud := Okf.out.budget
      have hxl := Hxl.out
      have hkk := HK.out
      obtain ⟨qa, qc, rfl⟩ := chg_sl (Sat.rd (hS.pick pick0))
      by_cases hlt : j < xws.length
      · have c6 : (j : Int) < (xws.length : Int) := by omega
        have hwi : IntKind.i64.wrap ((j : Int) + 1) = (j : Int) + 1 := IntWalk.i64_in _ (by omega)
        obtain ⟨p, hp⟩ : ∃ p, xws[j]? = some p := ⟨_, List.getElem?_eq_getElem hlt⟩
        have hpw : xf.waits[j]? = some p.1 := by rw [← Hok.out, List.getElem?_map, hp]; rfl
        obtain ⟨wbk, woff, wc2, hwe, _⟩ := rchg_cells (R2.out _ (hS.sub (sub_drop (sub_drop (sub_drop (sub_drop (sub_drop (sub_drop sub_refl)))))))) hp
        cases hwe
        have HC : Hid (∀ w', Sat w0 w' (stars (xs.map rfR) :: bagR g :: osl 109 3 wv (D.waits.flatMap rlkL) :: F) → w'.rangeAt wbk (woff + j * 3) [.bool p.1.cut, .int .i64 p.1.n, p.2]) := fun w' hw' => by
          obtain ⟨_, _, _, hee, q0, q1, q2⟩ := rchg_cells (R2.out _ hw') hp
          cases hee
          intro u v hu
          match u, hu with
          | 0, hu => cases hu; exact q0
          | 1, hu => cases hu; exact q1
          | 2, hu => cases hu; exact q2
        obtain ⟨pa, pc, hpe, _⟩ := HPV.out p (List.mem_of_getElem? hp)
        have hrp := R3.out p (List.mem_of_getElem? hp)
        have hcb : p.1.b.length ≤ 1099511627776 := Nat.le_trans (Hsm.out p.1 (List.mem_of_getElem? hpw)) (by decide)
        have Hlt := Lib.hid hlt; have Hpw := Lib.hid hpw; have Hws' := Lib.hid hws'; have Hrp := Lib.hid hrp; have Hcb := Lib.hid hcb
        have hlen : (ws'.flatMap chgCells).length ≤ 2147483648 := by
          rw [chg_len]
          have h1 : ws'.length = min j xf.waits.length := by rw [← List.length_map (f := fun p : Chg × Value => p.1), hws', List.length_take]
          omega
        obtain ⟨⟨cut, cn, cb⟩, pv⟩ := p
        dsimp only at hpe HC Hrp Hcb Hpw
        subst hpe
        clear hlt hp hpw hws' hrp hcb hbud hxl hkk
        go_wp2_with (first
          | ((with_reducible apply at_load); refine ⟨?_⟩; refine wl_loadN' (b := wbk) (o := woff + j * 3) [.bool cut, .int .i64 cn, .slice pa cb.length pc] (by rfl) (HC.out _ (hS.sub (sub_drop (sub_drop (sub_drop (sub_drop (sub_drop (sub_drop sub_refl)))))))) Try.underlying71 rfl (by kernel_rfl) ?_)
          | ((with_reducible apply at_alloc); refine ⟨?_⟩; refine wl_alloc zChg hS rfl ?_; intro bC wC hC)
          | ((with_reducible apply at_store); refine ⟨?_⟩; refine wl_store (b := bC) hC (by rfl) (by conv => lhs; whnf) (by first | (simp only [putsAt, Value.cells]; (try go_frame); first | done | rfl) | rfl) upd0 (Nat.le_of_ble_eq_true (by rfl)) (by kernel_rfl) (by rfl) ?_; intro wT hT)
          | ((with_reducible apply at_load); refine ⟨?_⟩; refine wl_load1 (by assumption) (by rfl) (by first | ((repeat (first | with_reducible apply pick0 | with_reducible apply pick_there)); done) | ((repeat (first | apply pick0 | apply pick_there)); done) | fail) (Nat.le_of_ble_eq_true (by rfl)) (by conv => lhs; whnf) (by kernel_rfl) ?_))
        clear hC
        refine (copy_c hT cb (Hrp.out _ (hT.sub (sub_drop (sub_drop (sub_drop (sub_drop (sub_drop (sub_drop (sub_drop sub_refl))))))))) Hcb.out).mono ?_
        rintro ee w4 ⟨v, rfl, hS5, a6, n6, c6, rfl⟩
        clear hT hS
        go_wp2_with (first
          | ((with_reducible apply at_store); refine ⟨?_⟩; refine wl_store (by assumption) (by rfl) (by conv => lhs; whnf) (by first | (simp only [putsAt, Value.cells]; (try go_frame); first | done | rfl) | rfl) (by first | ((repeat (first | with_reducible apply upd0 | with_reducible apply upd_there)); done) | ((repeat (first | apply upd0 | apply upd_there)); done) | fail) (Nat.le_of_ble_eq_true (by rfl)) (by kernel_rfl) (by rfl) ?_; intro wS hS)
          | ((with_reducible apply at_load); refine ⟨?_⟩; refine wl_loadA (b := bC) hS (by rfl) pick1 Try.underlying71 rfl (by kernel_rfl) ?_)
          | ((with_reducible apply at_build1); refine ⟨?_⟩; refine wl_build1 (e := 71) (sz := 3) (by' := 40) (by kernel_rfl) hS (by rfl) (cs := #[.bool cut, .int .i64 cn, .slice a6 n6 c6]) rfl rfl (Nat.le_of_ble_eq_true (by rfl)) ?_; intro bN wN hN)
          | ((with_reducible apply at_append); refine ⟨?_⟩; refine wl_app 71 3 40 (by kernel_rfl) hN (by rfl) (by rfl) pick3 pick0 (by rfl) (Nat.le_refl 1) (by rfl) hlen (by show 3 ≤ 65536; decide) (by decide) rfl ?_; intro bA nA cA wA hA))
        go_roundg (xws.length - (j + 1))
        case measure => have := Hlt.out; omega
        case rel =>
          refine ⟨j + 1, ws' ++ [(⟨cut, cn, cb⟩, .slice a6 n6 c6)], rfl, Nat.succ_le_of_lt Hlt.out, by first | rfl | go_num, ?_, ?_⟩
          · rw [List.map_append, Hws'.out, List.take_add_one, Hpw.out]; rfl
          · have ew : ws'.flatMap chgCells ++ #[Value.bool cut, Value.int .i64 cn, .slice a6 n6 c6].toList = (ws' ++ [((⟨cut, cn, cb⟩ : Chg), Value.slice a6 n6 c6)]).flatMap chgCells := chg_snoc ws' (⟨cut, cn, cb⟩, .slice a6 n6 c6)
            rw [← ew]
            have h7 := chgs_add (p := ((⟨cut, cn, cb⟩ : Chg), Value.slice a6 n6 c6)) (hA.sub (sub_take pick1 (sub_take pick2 sub_refl)))
            exact h7.sub (sub_take pick1 (sub_take pick0 (sub_drop sub_refl)))
      · obtain rfl : j = xws.length := by omega
        have c6 : ¬ (xws.length : Int) < (xws.length : Int) := by omega
        rw [List.take_of_length_le (by omega)] at hws'
        have hwl' : ws'.length = xf.waits.length := by rw [← hws', List.length_map]
        have hwz : IntKind.i64.wrap ((ws'.length : Int) - 1) = (ws'.length : Int) - 1 := IntWalk.i64_in _ (by omega)
        have Hws2 := Lib.hid hws'; have Hwl2 := Lib.hid hwl'
        have hbud2 := hbud
        have hkk2 := hkk
        have hq3 : i * 3 + 3 ≤ (rfsL xs).length := by rw [rfsL_len]; omega
        have Hxl2 := Lib.hid (show i < xs.length by omega)
        clear hws' hwl' hlt hj
        go_wp2_with (first | ((with_reducible apply at_load); refine ⟨?_⟩; refine wl_load1 (by assumption) (by rfl) (by first | ((repeat (first | with_reducible apply pick0 | with_reducible apply pick_there)); done) | ((repeat (first | apply pick0 | apply pick_there)); done) | fail) (Nat.le_of_ble_eq_true (by rfl)) (by conv => lhs; whnf) (by kernel_rfl) ?_) | ((with_reducible apply at_store); refine ⟨?_⟩; refine wl_store (by assumption) (by rfl) (by conv => lhs; whnf) (by first | (simp only [putsAt, Value.cells]; (try go_frame); first | done | rfl) | rfl) (by first | ((repeat (first | with_reducible apply upd0 | with_reducible apply upd_there)); done) | ((repeat (first | apply upd0 | apply upd_there)); done) | fail) (Nat.le_of_ble_eq_true (by rfl)) (by kernel_rfl) (by rfl) ?_; intro wS hS))
        simp only [List.setIfInBounds_toArray, List.set_cons_zero, List.set_cons_succ] at hS
        have hS6 := hS
        clear hS
        go_loopg [14] ws'.length (fun g' iq wr => ∃ (m : Nat) (z : Int), g' = ws'.length - (ws'.length - m) ∧ m ≤ ws'.length ∧ iq = .int .i64 z ∧ z = (m : Int) - 1 ∧ Past xf k m xf.waits.length ∧
          Sat w0 wr (pt bX (.cells #[.slice xfa xfn xfc, .slice (some ⟨g1, 0, none⟩) xf.now.length n2, .slice qa ws'.length qc] 106 (0,0)) :: osl 71 3 (.slice qa ws'.length qc) (ws'.flatMap chgCells) :: chgs ws' :: bsl (.slice (some ⟨g1, 0, none⟩) xf.now.length n2) (xorAt xf.now k y) :: dskPt d D (.slice (some ⟨fb, 0, none⟩) xs.length fc) fv nv wv :: osl 106 3 (.slice (some ⟨fb, 0, none⟩) xs.length fc) (rfsL xs) :: stars (xs.map rfR) :: bagR g :: osl 109 3 wv (D.waits.flatMap rlkL) :: F))
        case atStart => exact ⟨ws'.length, _, by omega, Nat.le_refl _, rfl, rfl, fun j c h1 h2 => by have := Hwl2.out; omega, hS6.sub (sub_take pick3 (sub_take pick0 (sub_take pick0 (sub_take pick0 sub_refl))))⟩
        case round =>
          obtain ⟨m, zz, rfl, hm, rfl, hzz, hpast, hS⟩ := hrel
          clear hS6
          cases m with
          | zero =>
            obtain rfl : zz = -1 := by omega
            clear hzz
            have hfin0 := Lib.hid (rot_none y hpast)
            have hk0 : k < (xf.at 0).length := past_lt hpast (Nat.le_refl _) (by rw [← Okf.out.now]; exact Hkn.out) xf.waits.length 0 (by omega) (Nat.le_refl _)
            have Hk0 := Lib.hid (show k < xf.fast.length from hk0)
            have Hfl := Lib.hid (show xf.fast.length ≤ 16777216 from Okf.out.size 0 (Nat.zero_le _))
            clear hk0 hpast hm hbud hxl hkk hbud2 hkk2 c6
            go_wp2_with ((with_reducible apply at_load); refine ⟨?_⟩; refine wl_load1 (by assumption) (by rfl) (by first | ((repeat (first | with_reducible apply pick0 | with_reducible apply pick_there)); done) | ((repeat (first | apply pick0 | apply pick_there)); done) | fail) (Nat.le_of_ble_eq_true (by rfl)) (by conv => lhs; whnf) (by kernel_rfl) ?_)
            refine (copy_c hS xf.fast (R1.out _ (hS.sub (sub_drop (sub_drop (sub_drop (sub_drop (sub_drop (sub_drop sub_refl)))))))) (Nat.le_trans Hfl.out (by decide))).mono ?_
            rintro ee w5 ⟨v, rfl, hS5, a5, n5, c6, rfl⟩
            clear hS
            obtain ⟨a6, c7', hv6, _, _, hpa⟩ := bsl_sl hS5
            cases hv6
            obtain ⟨g5, rfl⟩ : ∃ g5, a5 = some ⟨g5, 0, none⟩ := by
              rcases hpa with ⟨_, hc0⟩ | hh
              · have := Hk0.out; omega
              · exact hh
            go_wp2_with ((with_reducible apply at_store); refine ⟨?_⟩; refine wl_store (by assumption) (by rfl) (by conv => lhs; whnf) (by first | (simp only [putsAt, Value.cells]; (try go_frame); first | done | rfl) | rfl) (by first | ((repeat (first | with_reducible apply upd0 | with_reducible apply upd_there)); done) | ((repeat (first | apply upd0 | apply upd_there)); done) | fail) (Nat.le_of_ble_eq_true (by rfl)) (by kernel_rfl) (by rfl) ?_; intro wS hS)
            clear hS5
            simp only [List.setIfInBounds_toArray, List.set_cons_zero, List.set_cons_succ] at hS
            have hS7 := hS.drew
            clear hS
            have hb7 := byte_at hS7 Hk0.out
            obtain ⟨x1, hx1⟩ : ∃ x1, x1 = xf.fast.getD k 0 := ⟨_, rfl⟩
            rw [← hx1] at hb7
            have Hx1 := Lib.hid hx1
            have hxr := xor_u8 x1 y
            have c11 : (k : Int) < (xf.fast.length : Int) := by have := Hk0.out; omega
            clear hx1
            refine wpL_begin [10, 11] (fun w' => w'.cell? ⟨bX, 0, none⟩ = some (.slice (some ⟨g5, 0, none⟩) xf.fast.length c6) ∧ w'.cell? ⟨g5, k, none⟩ = some (.int .u8 x1.toNat)) (by kernel_rfl) ?_
            have hG : World.cell? _ ⟨bX, 0, none⟩ = some (.slice (some ⟨g5, 0, none⟩) xf.fast.length c6) ∧ World.cell? _ ⟨g5, k, none⟩ = some (.int .u8 x1.toNat) := ⟨hS7.cellP pick1 0 rfl, hb7⟩
            refine rg_pure 0 (by conv => lhs; whnf) (by kernel_rfl) (by intro _ _ _ h; exact h) (yl_field (by conv => lhs; whnf) (by ((intro wq; go_simp); first | done | (with_reducible rfl)))) (by go_frame; first | done | rfl) ?_
            refine rg_take 1 (by conv => lhs; whnf) (by kernel_rfl) (by intro _ _ _ h; exact h) (by first | exact tk_load (by conv => lhs; whnf) (by kernel_rfl) (by intro wq hq; first | exact hq | exact hq.1 | exact hq.2 | exact hq.2.1 | exact hq.2.2 | exact hq.2.2.1 | exact hq.2.2.2 | exact hq.2.2.2.1 | exact hq.2.2.2.2) | (refine Or.inl ⟨by rfl, ?_⟩; (intro wq hq; go_split_ands; go_simp); first | done | (with_reducible rfl))) (by assumption) (by go_frame; first | done | rfl) ?_
            refine rg_pure 2 (by conv => lhs; whnf) (by kernel_rfl) (by intro _ _ _ h; exact h) (yl_move (by conv => lhs; whnf)) (by go_frame; first | done | rfl) ?_
            refine rg_pure 3 (by conv => lhs; whnf) (by kernel_rfl) (by intro _ _ _ h; exact h) (yl_field (by conv => lhs; whnf) (by ((intro wq; go_simp); first | done | (with_reducible rfl)))) (by go_frame; first | done | rfl) ?_
            refine rg_take 4 (by conv => lhs; whnf) (by kernel_rfl) (by intro _ _ _ h; exact h) (by first | exact tk_load (by conv => lhs; whnf) (by kernel_rfl) (by intro wq hq; first | exact hq | exact hq.1 | exact hq.2 | exact hq.2.1 | exact hq.2.2 | exact hq.2.2.1 | exact hq.2.2.2 | exact hq.2.2.2.1 | exact hq.2.2.2.2) | (refine Or.inl ⟨by rfl, ?_⟩; (intro wq hq; go_split_ands; go_simp); first | done | (with_reducible rfl))) (by assumption) (by go_frame; first | done | rfl) ?_
            refine rg_pure 5 (by conv => lhs; whnf) (by kernel_rfl) (by intro _ _ _ h; exact h) (yl_move (by conv => lhs; whnf)) (by go_frame; first | done | rfl) ?_
            refine rg_pure 6 (by conv => lhs; whnf) (by kernel_rfl) (by intro _ _ _ h; exact h) (yl_index (by conv => lhs; whnf) (by conv => lhs; whnf) (by ((intro wq; go_simp); first | done | (with_reducible rfl)))) (by go_frame; first | done | rfl) ?_
            refine rg_take 7 (by conv => lhs; whnf) (by kernel_rfl) (by intro _ _ _ h; exact h) (by first | exact tk_load (by conv => lhs; whnf) (by kernel_rfl) (by intro wq hq; first | exact hq | exact hq.1 | exact hq.2 | exact hq.2.1 | exact hq.2.2 | exact hq.2.2.1 | exact hq.2.2.2 | exact hq.2.2.2.1 | exact hq.2.2.2.2) | (refine Or.inl ⟨by rfl, ?_⟩; (intro wq hq; go_split_ands; go_simp); first | done | (with_reducible rfl))) (by assumption) (by go_frame; first | done | rfl) ?_
            refine rg_pure 8 (by conv => lhs; whnf) (by kernel_rfl) (by intro _ _ _ h; exact h) (yl_move (by conv => lhs; whnf)) (by go_frame; first | done | rfl) ?_
            refine rg_pure 9 (by conv => lhs; whnf) (by kernel_rfl) (by intro _ _ _ h; exact h) (yl_bin (by conv => lhs; whnf) (by conv => lhs; whnf) (by ((intro wq; go_simp); first | done | (with_reducible rfl)))) (by go_frame; first | done | rfl) ?_
            refine rg_pure 10 (by conv => lhs; whnf) (by kernel_rfl) (by intro _ _ _ h; exact h) (yl_index (by conv => lhs; whnf) (by conv => lhs; whnf) (by ((intro wq; go_simp); first | done | (with_reducible rfl)))) (by go_frame; first | done | rfl) ?_
            refine rg_eff 11 (by conv => lhs; whnf) (by kernel_rfl) (fun K hK => ?_)
            refine eff_storeB k (x1 ^^^ y) hS7 (by conv => lhs; whnf) (by (conv => lhs; whnf); rw [UInt8.toNat_xor]) Hk0.out ?_
            intro w6 hS9
            refine hK _ _ (.inl rfl) ?_
            refine wpL_done (by kernel_rfl) ?_
            clear hK hG hS7 hxr hb7
            rw [Hx1.out, xor_at] at hS9
            have hS8 : Sat w0 w6 (pt bX (.cells #[.slice (some ⟨g5, 0, none⟩) xf.fast.length c6, .slice (some ⟨g1, 0, none⟩) xf.now.length n2, .slice qa ws'.length qc] 106 (0,0)) :: osl 71 3 (.slice qa ws'.length qc) (ws'.flatMap chgCells) :: chgs ws' :: bsl (.slice (some ⟨g1, 0, none⟩) xf.now.length n2) (xorAt xf.now k y) :: dskPt d D (.slice (some ⟨fb, 0, none⟩) xs.length fc) fv nv wv :: osl 106 3 (.slice (some ⟨fb, 0, none⟩) xs.length fc) (rfsL xs) :: stars (xs.map rfR) :: bagR g :: osl 109 3 wv (D.waits.flatMap rlkL) :: bsl (.slice (some ⟨g5, 0, none⟩) xf.fast.length c6) (xorAt xf.fast k y) :: F) :=
              hS9.sub (sub_take pick1 (sub_take pick1 (sub_take pick1 (sub_take pick1 (sub_take pick1 (sub_take pick1 (sub_take pick1 (sub_take pick1 (sub_take pick1 (sub_take pick0 sub_refl))))))))))
            clear hS9
            try simp only [List.getElem_toArray, List.getElem_cons_succ, List.getElem_cons_zero]
            try go_frame
            go_wp2_with fail
            have hS9 := hS8.drew
            clear hS8
            refine wpL_begin [6, 7] (fun w' => w'.cell? ⟨d, 1, none⟩ = some (.slice (some ⟨fb, 0, none⟩) xs.length fc) ∧ w'.rangeAt bX 0 [.slice (some ⟨g5, 0, none⟩) xf.fast.length c6, .slice (some ⟨g1, 0, none⟩) xf.now.length n2, .slice qa ws'.length qc]) (by kernel_rfl) ?_
            have hG : World.cell? _ ⟨d, 1, none⟩ = some (.slice (some ⟨fb, 0, none⟩) xs.length fc) ∧ World.rangeAt _ bX 0 [.slice (some ⟨g5, 0, none⟩) xf.fast.length c6, .slice (some ⟨g1, 0, none⟩) xf.now.length n2, .slice qa ws'.length qc] := ⟨hS9.cellP pick4 1 rfl, fun j u hj => by rw [Nat.zero_add]; exact (hS9.pick pick0).cellAt j u (by simpa using hj)⟩
            refine rg_pure 0 (by conv => lhs; whnf) (by kernel_rfl) (by intro _ _ _ h; exact h) (yl_move (by conv => lhs; whnf)) (by go_frame; first | done | rfl) ?_
            refine rg_pure 1 (by conv => lhs; whnf) (by kernel_rfl) (by intro _ _ _ h; exact h) (yl_nil (by conv => lhs; whnf)) (by go_frame; first | done | rfl) ?_
            refine rg_pure 2 (by conv => lhs; whnf) (by kernel_rfl) (by intro _ _ _ h; exact h) (yl_field (by conv => lhs; whnf) (by ((intro wq; go_simp); first | done | (with_reducible rfl)))) (by go_frame; first | done | rfl) ?_
            refine rg_take 3 (by conv => lhs; whnf) (by kernel_rfl) (by intro _ _ _ h; exact h) (by first | exact tk_load (by conv => lhs; whnf) (by kernel_rfl) (by intro wq hq; first | exact hq | exact hq.1 | exact hq.2 | exact hq.2.1 | exact hq.2.2 | exact hq.2.2.1 | exact hq.2.2.2 | exact hq.2.2.2.1 | exact hq.2.2.2.2) | (refine Or.inl ⟨by rfl, ?_⟩; (intro wq hq; go_split_ands; go_simp); first | done | (with_reducible rfl))) (by assumption) (by go_frame; first | done | rfl) ?_
            refine rg_pure 4 (by conv => lhs; whnf) (by kernel_rfl) (by intro _ _ _ h; exact h) (yl_move (by conv => lhs; whnf)) (by go_frame; first | done | rfl) ?_
            refine rg_take 5 (by conv => lhs; whnf) (by kernel_rfl) (by intro _ _ _ h; exact h) (tg_loadN (P := Try.prog) [.slice (some ⟨g5, 0, none⟩) xf.fast.length c6, .slice (some ⟨g1, 0, none⟩) xf.now.length n2, .slice qa ws'.length qc] (by rfl) (by conv => lhs; whnf) Try.underlying106 rfl (by kernel_rfl) (fun w hw => hw.2)) (by assumption) (by go_frame; first | done | rfl) ?_
            refine rg_pure 6 (by conv => lhs; whnf) (by kernel_rfl) (by intro _ _ _ h; exact h) (yl_index (by conv => lhs; whnf) (by conv => lhs; whnf) (by ((intro wq; go_simp); first | done | (with_reducible rfl)))) (by go_frame; first | done | rfl) ?_
            refine rg_eff 7 (by conv => lhs; whnf) (by kernel_rfl) (fun K hK => ?_)
            refine eff_storeS3 (b := fb) (i * 3) hS9 (by conv => lhs; whnf) (by conv => lhs; whnf) (upd_there (upd_there (upd_there (upd_there (upd_there upd0))))) hq3 (by kernel_rfl) (by rfl) ?_
            intro w9 hS10
            refine hK _ _ (.inl rfl) ?_
            refine wpL_done (by kernel_rfl) ?_
            clear hK hG hS9
            try simp only [List.getElem_toArray, List.getElem_cons_succ, List.getElem_cons_zero]
            try go_frame
            go_wp2
            go_ret
            rw [hfin0.out] at Ha
            refine ⟨_, rfl, by rw [Ha.out]; rfl, ?_⟩
            rw [Ha.out]
            have hall := rfsL_all xs i ⟨{ xf with now := xorAt xf.now k y, fast := xorAt xf.fast k y }, .slice (some ⟨g5, 0, none⟩) xf.fast.length c6, .slice (some ⟨g1, 0, none⟩) xf.now.length n2, .slice qa ws'.length qc, ws'⟩ (by have := Hxl2.out; omega)
            dsimp only at hall
            rw [hall] at hS10
            clear hall
            obtain ⟨G, hGx, hO⟩ := rf_out Hx.out (hS10.pick (pick_there pick5))
            have h5 := rf_in (x := ⟨{ xf with now := xorAt xf.now k y, fast := xorAt xf.fast k y }, .slice (some ⟨g5, 0, none⟩) xf.fast.length c6, .slice (some ⟨g1, 0, none⟩) xf.now.length n2, .slice qa ws'.length qc, ws'⟩) hGx (hO.sub (sub_take (pick_there (pick_there (pick_there (pick_there (pick_there (pick_there (pick_there (pick_there (pick_there (pick_there (pick_there (pick_there (pick_there pick0))))))))))))) (sub_take (pick_there (pick_there (pick_there (pick_there (pick_there pick3))))) (sub_take (pick_there (pick_there (pick_there (pick_there pick2)))) (sub_take (pick_there (pick_there (pick_there (pick_there pick2)))) (sub_drop (sub_drop (sub_drop (sub_drop (sub_take pick0 (sub_drop sub_refl)))))))))))
            exact DskRep.shut (D := D.setFile i { xf with now := xorAt xf.now k y, fast := xorAt xf.fast k y }) (Hin.out.set (x' := ⟨{ xf with now := xorAt xf.now k y, fast := xorAt xf.fast k y }, .slice (some ⟨g5, 0, none⟩) xf.fast.length c6, .slice (some ⟨g1, 0, none⟩) xf.now.length n2, .slice qa ws'.length qc, ws'⟩) Hws2.out) (h5.sub (sub_take pick1 (sub_take pick1 (sub_take pick0 sub_refl))))
          | succ m =>
            have hzm : zz = (m : Int) := by omega
            clear hzz
            subst hzm
            have hm2 : m < ws'.length := by omega
            have hwlx := Hwl2.out
            have c7 : (0 : Int) ≤ (m : Int) := by omega
            have c8 : (m : Int) < (ws'.length : Int) := by omega
            have hwm : IntKind.i64.wrap ((m : Int) - 1) = (m : Int) - 1 := IntWalk.i64_in _ (by omega)
            obtain ⟨p, hp⟩ : ∃ p, ws'[m]? = some p := ⟨_, List.getElem?_eq_getElem hm2⟩
            have hpw : xf.waits[m]? = some p.1 := by rw [← Hws2.out, List.getElem?_map, hp]; rfl
            have hby := rbytes_c (fv := .slice xfa xfn xfc) (nv := .slice (some ⟨g1, 0, none⟩) xf.now.length n2) (wv := .slice qa ws'.length qc) xf Okf.out ws' Hws2.out m (by omega) (by omega) (Ro.of_sub R1.out (sub_drop (sub_drop (sub_drop (sub_drop (sub_drop (sub_drop sub_refl))))))) (fun w' hw' => Sat.rd (hw'.pick pick1)) (fun q hq => Ro.of_pick (chgs_ro hq) pick2) hS
            have Hp := Lib.hid hp; have Hpw := Lib.hid hpw; have Hpast := Lib.hid hpast; have Hm := Lib.hid hm
            clear hp hpw hpast hm hm2 hwlx c7 hbud hxl hkk hbud2 hkk2
            go_wp2_with ((with_reducible apply at_load); refine ⟨?_⟩; refine wl_loadA (b := bX) hS (by rfl) pick0 Try.underlying106 rfl (by kernel_rfl) ?_)
            refine hby.mono ?_
            clear hby hS
            rintro ee w5 ⟨v, rfl, hS5, b5, n5, c5', rfl⟩
            obtain ⟨b6, c6, hv6, _⟩ := bsl_sl hS5
            cases hv6
            have hS6 := hS5.drop
            clear hS5
            obtain ⟨qb, qo, qc2, hqe, q0, _⟩ := rchg_cells (Sat.rd (hS6.pick pick1)) Hp.out
            cases hqe
            obtain ⟨⟨cut, cn, cb⟩, pv⟩ := p
            dsimp only at q0 Hpw
            cases cut with
            | true =>
              go_wp2_with ((with_reducible apply at_load); refine ⟨?_⟩; refine wl_load1 (by assumption) (by rfl) (by first | ((repeat (first | with_reducible apply pick0 | with_reducible apply pick_there)); done) | ((repeat (first | apply pick0 | apply pick_there)); done) | fail) (Nat.le_of_ble_eq_true (by rfl)) (by conv => lhs; whnf) (by kernel_rfl) ?_)
              go_roundg m
              case measure => have := Hm.out; omega
              case rel => exact ⟨m, _, by have := Hm.out; omega, Nat.le_of_succ_le Hm.out, rfl, rfl, fun j c h1 h2 h3 => by
                rcases Nat.eq_or_lt_of_le h1 with rfl | h
                · rw [Hpw.out] at h3; cases h3; exact .inl rfl
                · exact Hpast.out j c h h2 h3, hS6⟩
            | false =>
              by_cases hle : (xf.at m).length ≤ k
              · have c9 : ((xf.at m).length : Int) ≤ (k : Int) := by omega
                obtain ⟨u, hu⟩ : ∃ u, k = (xf.at m).length + u := ⟨k - (xf.at m).length, by omega⟩
                have hfin := rot_found y Hpast.out Hpw.out rfl hle
                rw [show k - (xf.at m).length = u by omega] at hfin
                have hkat := past_lt Hpast.out (Nat.le_refl _) (by rw [← Okf.out.now]; exact Hkn.out) (xf.waits.length - (m + 1)) (m + 1) (by have := Hm.out; have := Hwl2.out; omega) (Nat.le_refl _)
                rw [xf.at_succ m _ Hpw.out] at hkat
                unfold Chg.on at hkat
                simp only [Bool.false_eq_true, if_false, List.length_append] at hkat
                have hucb : u < cb.length := by omega
                have hwu : IntKind.i64.wrap ((k : Int) - ((xf.at m).length : Int)) = (u : Int) := by rw [show (k : Int) - ((xf.at m).length : Int) = (u : Int) by omega]; exact IntWalk.i64_in _ (by omega)
                have c10 : (u : Int) < (cb.length : Int) := by omega
                have Hfin := Lib.hid hfin; have Hucb := Lib.hid hucb
                clear hfin hkat hle hucb hu
                obtain ⟨Gc, hGc, hGc'⟩ := chgs_put ws' m _ Hp.out
                have hS7 := hS6.pick pick2
                rw [hGc] at hS7
                have hS7 := Sat.star.1 hS7
                dsimp only at hS7 hGc'
                obtain ⟨pa, pc, hpe, _, _, hpa⟩ := bsl_sl hS7
                subst hpe
                obtain ⟨g5, rfl⟩ : ∃ g5, pa = some ⟨g5, 0, none⟩ := by
                  rcases hpa with ⟨_, hc0⟩ | hh
                  · have := Hucb.out; omega
                  · exact hh
                have HGc := Lib.hid hGc'
                have q2 := (rchg_cells (Sat.rd (hS6.pick pick1)) Hp.out)
                obtain ⟨_, _, _, hqe, _, _, q2⟩ := q2
                cases hqe
                clear hGc hGc'
                go_wp2_with ((with_reducible apply at_load); refine ⟨?_⟩; refine wl_load1 (by assumption) (by rfl) (by first | ((repeat (first | with_reducible apply pick0 | with_reducible apply pick_there)); done) | ((repeat (first | apply pick0 | apply pick_there)); done) | fail) (Nat.le_of_ble_eq_true (by rfl)) (by conv => lhs; whnf) (by kernel_rfl) ?_)
                have hb7 := byte_at hS7 Hucb.out
                obtain ⟨x1, hx1⟩ : ∃ x1, x1 = cb.getD u 0 := ⟨_, rfl⟩
                rw [← hx1] at hb7
                have Hx1 := Lib.hid hx1
                have hxr := xor_u8 x1 y
                clear hx1 q0
                have hS8 := hS7.drew
                refine wpL_begin [22, 23] (fun w' => w'.cell? ⟨bX, 2, none⟩ = some (.slice (some ⟨qb, qo, none⟩) ws'.length qc) ∧ w'.cell? ⟨qb, qo + m * 3 + 2, none⟩ = some (.slice (some ⟨g5, 0, none⟩) cb.length pc) ∧ w'.cell? ⟨g5, u, none⟩ = some (.int .u8 x1.toNat)) (by kernel_rfl) ?_
                have hG : World.cell? _ ⟨bX, 2, none⟩ = some (.slice (some ⟨qb, qo, none⟩) ws'.length qc) ∧ World.cell? _ ⟨qb, qo + m * 3 + 2, none⟩ = some (.slice (some ⟨g5, 0, none⟩) cb.length pc) ∧ World.cell? _ ⟨g5, u, none⟩ = some (.int .u8 x1.toNat) := ⟨hS8.cellP pick2 2 rfl, q2, hb7⟩
                refine rg_pure 0 (by conv => lhs; whnf) (by kernel_rfl) (by intro _ _ _ h; exact h) (yl_field (by conv => lhs; whnf) (by ((intro wq; go_simp); first | done | (with_reducible rfl)))) (by go_frame; first | done | rfl) ?_
                refine rg_take 1 (by conv => lhs; whnf) (by kernel_rfl) (by intro _ _ _ h; exact h) (by first | exact tk_load (by conv => lhs; whnf) (by kernel_rfl) (by intro wq hq; first | exact hq | exact hq.1 | exact hq.2 | exact hq.2.1 | exact hq.2.2 | exact hq.2.2.1 | exact hq.2.2.2 | exact hq.2.2.2.1 | exact hq.2.2.2.2) | (refine Or.inl ⟨by rfl, ?_⟩; (intro wq hq; go_split_ands; go_simp); first | done | (with_reducible rfl))) (by assumption) (by go_frame; first | done | rfl) ?_
                refine rg_pure 2 (by conv => lhs; whnf) (by kernel_rfl) (by intro _ _ _ h; exact h) (yl_move (by conv => lhs; whnf)) (by go_frame; first | done | rfl) ?_
                refine rg_pure 3 (by conv => lhs; whnf) (by kernel_rfl) (by intro _ _ _ h; exact h) (yl_index (by conv => lhs; whnf) (by conv => lhs; whnf) (by ((intro wq; go_simp); first | done | (with_reducible rfl)))) (by go_frame; first | done | rfl) ?_
                refine rg_pure 4 (by conv => lhs; whnf) (by kernel_rfl) (by intro _ _ _ h; exact h) (yl_field (by conv => lhs; whnf) (by ((intro wq; go_simp); first | done | (with_reducible rfl)))) (by go_frame; first | done | rfl) ?_
                refine rg_take 5 (by conv => lhs; whnf) (by kernel_rfl) (by intro _ _ _ h; exact h) (by first | exact tk_load (by conv => lhs; whnf) (by kernel_rfl) (by intro wq hq; first | exact hq | exact hq.1 | exact hq.2 | exact hq.2.1 | exact hq.2.2 | exact hq.2.2.1 | exact hq.2.2.2 | exact hq.2.2.2.1 | exact hq.2.2.2.2) | (refine Or.inl ⟨by rfl, ?_⟩; (intro wq hq; go_split_ands; go_simp); first | done | (with_reducible rfl))) (by assumption) (by go_frame; first | done | rfl) ?_
                refine rg_pure 6 (by conv => lhs; whnf) (by kernel_rfl) (by intro _ _ _ h; exact h) (yl_move (by conv => lhs; whnf)) (by go_frame; first | done | rfl) ?_
                refine rg_pure 7 (by conv => lhs; whnf) (by kernel_rfl) (by intro _ _ _ h; exact h) (yl_move (by conv => lhs; whnf)) (by go_frame; first | done | rfl) ?_
                refine rg_pure 8 (by conv => lhs; whnf) (by kernel_rfl) (by intro _ _ _ h; exact h) (yl_bin (by conv => lhs; whnf) (by conv => lhs; whnf) (by ((intro wq; go_simp); first | done | (with_reducible rfl)))) (by go_frame; first | done | rfl) ?_
                refine rg_pure 9 (by conv => lhs; whnf) (by kernel_rfl) (by intro _ _ _ h; exact h) (yl_field (by conv => lhs; whnf) (by ((intro wq; go_simp); first | done | (with_reducible rfl)))) (by go_frame; first | done | rfl) ?_
                refine rg_take 10 (by conv => lhs; whnf) (by kernel_rfl) (by intro _ _ _ h; exact h) (by first | exact tk_load (by conv => lhs; whnf) (by kernel_rfl) (by intro wq hq; first | exact hq | exact hq.1 | exact hq.2 | exact hq.2.1 | exact hq.2.2 | exact hq.2.2.1 | exact hq.2.2.2 | exact hq.2.2.2.1 | exact hq.2.2.2.2) | (refine Or.inl ⟨by rfl, ?_⟩; (intro wq hq; go_split_ands; go_simp); first | done | (with_reducible rfl))) (by assumption) (by go_frame; first | done | rfl) ?_
                refine rg_pure 11 (by conv => lhs; whnf) (by kernel_rfl) (by intro _ _ _ h; exact h) (yl_move (by conv => lhs; whnf)) (by go_frame; first | done | rfl) ?_
                refine rg_pure 12 (by conv => lhs; whnf) (by kernel_rfl) (by intro _ _ _ h; exact h) (yl_index (by conv => lhs; whnf) (by conv => lhs; whnf) (by ((intro wq; go_simp); first | done | (with_reducible rfl)))) (by go_frame; first | done | rfl) ?_
                refine rg_pure 13 (by conv => lhs; whnf) (by kernel_rfl) (by intro _ _ _ h; exact h) (yl_field (by conv => lhs; whnf) (by ((intro wq; go_simp); first | done | (with_reducible rfl)))) (by go_frame; first | done | rfl) ?_
                refine rg_take 14 (by conv => lhs; whnf) (by kernel_rfl) (by intro _ _ _ h; exact h) (by first | exact tk_load (by conv => lhs; whnf) (by kernel_rfl) (by intro wq hq; first | exact hq | exact hq.1 | exact hq.2 | exact hq.2.1 | exact hq.2.2 | exact hq.2.2.1 | exact hq.2.2.2 | exact hq.2.2.2.1 | exact hq.2.2.2.2) | (refine Or.inl ⟨by rfl, ?_⟩; (intro wq hq; go_split_ands; go_simp); first | done | (with_reducible rfl))) (by assumption) (by go_frame; first | done | rfl) ?_
                refine rg_pure 15 (by conv => lhs; whnf) (by kernel_rfl) (by intro _ _ _ h; exact h) (yl_move (by conv => lhs; whnf)) (by go_frame; first | done | rfl) ?_
                refine rg_pure 16 (by conv => lhs; whnf) (by kernel_rfl) (by intro _ _ _ h; exact h) (yl_move (by conv => lhs; whnf)) (by go_frame; first | done | rfl) ?_
                refine rg_pure 17 (by conv => lhs; whnf) (by kernel_rfl) (by intro _ _ _ h; exact h) (yl_bin (by conv => lhs; whnf) (by conv => lhs; whnf) (by ((intro wq; go_simp); first | done | (with_reducible rfl)))) (by go_frame; first | done | rfl) ?_
                refine rg_pure 18 (by conv => lhs; whnf) (by kernel_rfl) (by intro _ _ _ h; exact h) (yl_index (by conv => lhs; whnf) (by conv => lhs; whnf) (by ((intro wq; go_simp); first | done | (with_reducible rfl)))) (by go_frame; first | done | rfl) ?_
                refine rg_take 19 (by conv => lhs; whnf) (by kernel_rfl) (by intro _ _ _ h; exact h) (by first | exact tk_load (by conv => lhs; whnf) (by kernel_rfl) (by intro wq hq; first | exact hq | exact hq.1 | exact hq.2 | exact hq.2.1 | exact hq.2.2 | exact hq.2.2.1 | exact hq.2.2.2 | exact hq.2.2.2.1 | exact hq.2.2.2.2) | (refine Or.inl ⟨by rfl, ?_⟩; (intro wq hq; go_split_ands; go_simp); first | done | (with_reducible rfl))) (by assumption) (by go_frame; first | done | rfl) ?_
                refine rg_pure 20 (by conv => lhs; whnf) (by kernel_rfl) (by intro _ _ _ h; exact h) (yl_move (by conv => lhs; whnf)) (by go_frame; first | done | rfl) ?_
                refine rg_pure 21 (by conv => lhs; whnf) (by kernel_rfl) (by intro _ _ _ h; exact h) (yl_bin (by conv => lhs; whnf) (by conv => lhs; whnf) (by ((intro wq; go_simp); first | done | (with_reducible rfl)))) (by go_frame; first | done | rfl) ?_
                refine rg_pure 22 (by conv => lhs; whnf) (by kernel_rfl) (by intro _ _ _ h; exact h) (yl_index (by conv => lhs; whnf) (by conv => lhs; whnf) (by ((intro wq; go_simp); first | done | (with_reducible rfl)))) (by go_frame; first | done | rfl) ?_
                refine rg_eff 23 (by conv => lhs; whnf) (by kernel_rfl) (fun K hK => ?_)
                refine eff_storeB u (x1 ^^^ y) hS8 (by conv => lhs; whnf) (by (conv => lhs; whnf); rw [UInt8.toNat_xor]) Hucb.out ?_
                intro w7 hS9
                refine hK _ _ (.inl rfl) ?_
                refine wpL_done (by kernel_rfl) ?_
                clear hK hG hS8 hxr hb7 hS7 hS6 q2
                rw [Hx1.out, xor_at] at hS9
                have hS8 : Sat w0 w7 (pt bX (.cells #[.slice xfa xfn xfc, .slice (some ⟨g1, 0, none⟩) xf.now.length n2, .slice (some ⟨qb, qo, none⟩) ws'.length qc] 106 (0,0)) :: osl 71 3 (.slice (some ⟨qb, qo, none⟩) ws'.length qc) ((ws'.set m (⟨false, cn, xorAt cb u y⟩, .slice (some ⟨g5, 0, none⟩) cb.length pc)).flatMap chgCells) :: chgs (ws'.set m (⟨false, cn, xorAt cb u y⟩, .slice (some ⟨g5, 0, none⟩) cb.length pc)) :: bsl (.slice (some ⟨g1, 0, none⟩) xf.now.length n2) (xorAt xf.now k y) :: dskPt d D (.slice (some ⟨fb, 0, none⟩) xs.length fc) fv nv wv :: osl 106 3 (.slice (some ⟨fb, 0, none⟩) xs.length fc) (rfsL xs) :: stars (xs.map rfR) :: bagR g :: osl 109 3 wv (D.waits.flatMap rlkL) :: F) := by
                  have e : (ws'.set m (⟨false, cn, xorAt cb u y⟩, .slice (some ⟨g5, 0, none⟩) cb.length pc)).flatMap chgCells = ws'.flatMap chgCells := chg_same ws' m (⟨false, cn, cb⟩, .slice (some ⟨g5, 0, none⟩) cb.length pc) (xorAt cb u y) Hp.out
                  rw [HGc.out (⟨false, cn, xorAt cb u y⟩, .slice (some ⟨g5, 0, none⟩) cb.length pc), e]
                  have h4 := Sat.star.2 hS9
                  exact h4.sub (sub_take pick1 (sub_take pick1 (sub_take pick0 sub_refl)))
                clear hS9
                try simp only [List.getElem_toArray, List.getElem_cons_succ, List.getElem_cons_zero]
                try go_frame
                go_wp2_with fail
                have hS9 := hS8.drew
                clear hS8
                refine wpL_begin [6, 7] (fun w' => w'.cell? ⟨d, 1, none⟩ = some (.slice (some ⟨fb, 0, none⟩) xs.length fc) ∧ w'.rangeAt bX 0 [.slice xfa xfn xfc, .slice (some ⟨g1, 0, none⟩) xf.now.length n2, .slice (some ⟨qb, qo, none⟩) ws'.length qc]) (by kernel_rfl) ?_
                have hG : World.cell? _ ⟨d, 1, none⟩ = some (.slice (some ⟨fb, 0, none⟩) xs.length fc) ∧ World.rangeAt _ bX 0 [.slice xfa xfn xfc, .slice (some ⟨g1, 0, none⟩) xf.now.length n2, .slice (some ⟨qb, qo, none⟩) ws'.length qc] := ⟨hS9.cellP pick4 1 rfl, fun j u hj => by rw [Nat.zero_add]; exact (hS9.pick pick0).cellAt j u (by simpa using hj)⟩
                refine rg_pure 0 (by conv => lhs; whnf) (by kernel_rfl) (by intro _ _ _ h; exact h) (yl_move (by conv => lhs; whnf)) (by go_frame; first | done | rfl) ?_
                refine rg_pure 1 (by conv => lhs; whnf) (by kernel_rfl) (by intro _ _ _ h; exact h) (yl_nil (by conv => lhs; whnf)) (by go_frame; first | done | rfl) ?_
                refine rg_pure 2 (by conv => lhs; whnf) (by kernel_rfl) (by intro _ _ _ h; exact h) (yl_field (by conv => lhs; whnf) (by ((intro wq; go_simp); first | done | (with_reducible rfl)))) (by go_frame; first | done | rfl) ?_
                refine rg_take 3 (by conv => lhs; whnf) (by kernel_rfl) (by intro _ _ _ h; exact h) (by first | exact tk_load (by conv => lhs; whnf) (by kernel_rfl) (by intro wq hq; first | exact hq | exact hq.1 | exact hq.2 | exact hq.2.1 | exact hq.2.2 | exact hq.2.2.1 | exact hq.2.2.2 | exact hq.2.2.2.1 | exact hq.2.2.2.2) | (refine Or.inl ⟨by rfl, ?_⟩; (intro wq hq; go_split_ands; go_simp); first | done | (with_reducible rfl))) (by assumption) (by go_frame; first | done | rfl) ?_
                refine rg_pure 4 (by conv => lhs; whnf) (by kernel_rfl) (by intro _ _ _ h; exact h) (yl_move (by conv => lhs; whnf)) (by go_frame; first | done | rfl) ?_
                refine rg_take 5 (by conv => lhs; whnf) (by kernel_rfl) (by intro _ _ _ h; exact h) (tg_loadN (P := Try.prog) [.slice xfa xfn xfc, .slice (some ⟨g1, 0, none⟩) xf.now.length n2, .slice (some ⟨qb, qo, none⟩) ws'.length qc] (by rfl) (by conv => lhs; whnf) Try.underlying106 rfl (by kernel_rfl) (fun w hw => hw.2)) (by assumption) (by go_frame; first | done | rfl) ?_
                refine rg_pure 6 (by conv => lhs; whnf) (by kernel_rfl) (by intro _ _ _ h; exact h) (yl_index (by conv => lhs; whnf) (by conv => lhs; whnf) (by ((intro wq; go_simp); first | done | (with_reducible rfl)))) (by go_frame; first | done | rfl) ?_
                refine rg_eff 7 (by conv => lhs; whnf) (by kernel_rfl) (fun K hK => ?_)
                refine eff_storeS3 (b := fb) (i * 3) hS9 (by conv => lhs; whnf) (by conv => lhs; whnf) (upd_there (upd_there (upd_there (upd_there (upd_there upd0))))) hq3 (by kernel_rfl) (by rfl) ?_
                intro w9 hS10
                refine hK _ _ (.inl rfl) ?_
                refine wpL_done (by kernel_rfl) ?_
                clear hK hG hS9
                try simp only [List.getElem_toArray, List.getElem_cons_succ, List.getElem_cons_zero]
                try go_frame
                go_wp2
                go_ret
                rw [Hfin.out] at Ha
                refine ⟨_, rfl, by rw [Ha.out]; rfl, ?_⟩
                rw [Ha.out]
                have hall := rfsL_all xs i ⟨{ xf with now := xorAt xf.now k y, waits := xf.waits.set m ⟨false, cn, xorAt cb u y⟩ }, .slice xfa xfn xfc, .slice (some ⟨g1, 0, none⟩) xf.now.length n2, .slice (some ⟨qb, qo, none⟩) ws'.length qc, ws'.set m (⟨false, cn, xorAt cb u y⟩, .slice (some ⟨g5, 0, none⟩) cb.length pc)⟩ (by have := Hxl2.out; omega)
                dsimp only at hall
                rw [hall] at hS10
                clear hall
                obtain ⟨G, hGx, hO⟩ := rf_out Hx.out (hS10.pick (pick_there pick5))
                have h5 := rf_in (x := ⟨{ xf with now := xorAt xf.now k y, waits := xf.waits.set m ⟨false, cn, xorAt cb u y⟩ }, .slice xfa xfn xfc, .slice (some ⟨g1, 0, none⟩) xf.now.length n2, .slice (some ⟨qb, qo, none⟩) ws'.length qc, ws'.set m (⟨false, cn, xorAt cb u y⟩, .slice (some ⟨g5, 0, none⟩) cb.length pc)⟩) hGx (hO.sub (sub_take pick0 (sub_take (pick_there (pick_there (pick_there (pick_there pick3)))) (sub_take (pick_there (pick_there (pick_there (pick_there pick1)))) (sub_take (pick_there (pick_there (pick_there (pick_there pick1)))) (sub_drop (sub_drop (sub_drop (sub_take pick0 (sub_drop sub_refl))))))))))
                exact DskRep.shut (D := D.setFile i { xf with now := xorAt xf.now k y, waits := xf.waits.set m ⟨false, cn, xorAt cb u y⟩ }) (Hin.out.set (x' := ⟨{ xf with now := xorAt xf.now k y, waits := xf.waits.set m ⟨false, cn, xorAt cb u y⟩ }, .slice xfa xfn xfc, .slice (some ⟨g1, 0, none⟩) xf.now.length n2, .slice (some ⟨qb, qo, none⟩) ws'.length qc, ws'.set m (⟨false, cn, xorAt cb u y⟩, .slice (some ⟨g5, 0, none⟩) cb.length pc)⟩) (by dsimp only; rw [List.map_set, Hws2.out])) (h5.sub (sub_take pick1 (sub_take pick1 (sub_take pick0 sub_refl))))
              · have c9 : ¬ ((xf.at m).length : Int) ≤ (k : Int) := by omega
                go_wp2_with ((with_reducible apply at_load); refine ⟨?_⟩; refine wl_load1 (by assumption) (by rfl) (by first | ((repeat (first | with_reducible apply pick0 | with_reducible apply pick_there)); done) | ((repeat (first | apply pick0 | apply pick_there)); done) | fail) (Nat.le_of_ble_eq_true (by rfl)) (by conv => lhs; whnf) (by kernel_rfl) ?_)
                go_roundg m
                case measure => have := Hm.out; omega
                case rel => exact ⟨m, _, by have := Hm.out; omega, Nat.le_of_succ_le Hm.out, rfl, rfl, fun j c h1 h2 h3 => by
                  rcases Nat.eq_or_lt_of_le h1 with rfl | h
                  · exact .inr (by omega)
                  · exact Hpast.out j c h h2 h3, hS6⟩
end
end Go.Proofs.Ytmjldaedhmipkaa
