import Derived.Test.YtmjldaedhmipkaaJ8
set_option linter.unusedVariables false
/- RowS, and few. -/
/- What a shortened call is. -/
namespace Go.Proofs.Ytmjldaedhmipkaa
open Go Go.Sl Go.Med Go.MapKept Go.RowKit
set_option linter.unusedVariables false
def D.cal (d : D) : Cal := ⟨d.kind, d.name, d.to, d.n, d.m, d.b, d.l⟩
/-- What is asked of a call in the world in which it came. -/
structure D.At (W : World) (d : D) : Prop where
  kind : inI d.kind
  name : d.name.size ≤ 9223372036854775807
  to : d.to.size ≤ 9223372036854775807
  n : inI d.n
  m : inI d.m
  b : rdsl 1 d.bv (bys d.b) W
  bc : capOk d.bv
  l : rdsl 1 d.lv (ints d.l) W
  lc : capOk d.lv
  li : ∀ z ∈ d.l, inI z
/-- What a call is that few made. -/
structure D.Fit (w0 : World) (F : List HProp) (d : D) : Prop where
  name : d.name.size ≤ 30
  to : d.to.size ≤ 30
  n : inI d.n
  m : inI d.m
  b : d.b.length ≤ 100
  l : Ro w0 F (rdsl 1 d.lv (ints d.l))
  lc : capOk d.lv
  li : ∀ z ∈ d.l, inI z
section
variable {w0 w W : World} {F : List HProp} {m fb nb b r : Nat} {M : Med} {bs : List Nat} {wv v bv dv : Value} {s : ByteArray} {fs : List Fil} {K : Nat}
theorem D.Few.fit {d e : D} (h : D.Few w0 F d e) (a : d.At W) : e.Fit w0 F := by
  refine ⟨by rw [h.name]; exact shortS_size _ _, by rw [h.to]; exact shortS_size _ _, by rw [h.n]; exact a.n, by rw [h.m]; exact a.m, by rw [h.b, List.length_take]; omega, h.lr, h.lc, ?_⟩
  rw [h.l]
  exact fun z hz => a.li z (List.mem_of_mem_take hz)
theorem D.Fit.more {d : D} {L : List HProp} (h : d.Fit w0 F) : d.Fit w0 (L ++ F) := by
  refine ⟨h.name, h.to, h.n, h.m, h.b, ?_, h.lc, h.li⟩
  induction L with
  | nil => exact h.l
  | cons A L ih => exact ih.cons
theorem bsls_at {es : List D} {i : Nat} {e : D} (hi : es[i]? = some e) (h : Sat w0 w (bsls es :: F)) : ∃ G, Sat w0 w (bsl e.bv e.b :: G :: F) ∧ bsls es = star (bsl e.bv e.b) G := by
  obtain ⟨G, hG⟩ := stars_take (fun e : D => bsl e.bv e.b) es i e hi
  refine ⟨G, ?_, hG⟩
  unfold bsls at h
  rw [hG] at h
  exact Sat.star.1 h
theorem bsls_rd {es : List D} {i : Nat} {e : D} (hi : es[i]? = some e) : Ro w0 (bsls es :: F) (rdsl 1 e.bv (bys e.b)) := fun w hw => by
  obtain ⟨G, hG, _⟩ := bsls_at hi hw
  exact hG.rd
end
end Go.Proofs.Ytmjldaedhmipkaa
/- Rot. -/
namespace Go.Proofs.Ytmjldaedhmipkaa
open Go Go.Sl Go.Med Go.MapKept Go.RowKit
set_option linter.unusedVariables false
section
variable {w0 w : World} {F : List HProp} {m fb nb b r : Nat} {M : Med} {bs : List Nat} {wv v bv dv : Value} {s : ByteArray} {fs : List Fil} {K : Nat} {f : Fil}
theorem rotF_c (h : Sat w0 w (FilRep b f :: F)) (hf : f.Ok K) (hK : K ≤ 1099511627776) (at_ : Int) (y : UInt8) :
    Calls Try.prog 60 #[ptr b, .int .i64 at_, .int .u8 y.toNat] w
      (Rtn fun v w' => v = .bool (decide (¬ (at_ < 0 ∨ (f.now.length : Int) ≤ at_))) ∧ Sat w0 w' (FilRep b (if at_ < 0 ∨ (f.now.length : Int) ≤ at_ then f else f.rot at_.toNat y) :: F)) := by
  by_cases ho : at_ < 0 ∨ (f.now.length : Int) ≤ at_
  · have := rot_out h hf at_ y ho
    simp only [ho, not_true, decide_false, if_true]
    exact this
  · obtain ⟨k, rfl⟩ := Int.eq_ofNat_of_zero_le (show 0 ≤ at_ by omega)
    have := rot_in h hf hK k y (by omega)
    simp only [ho, not_false_iff, decide_true, if_false]
    exact this
set_option maxHeartbeats 1000000 in
theorem rot_c (hM : M.Ok K) (hK : K ≤ 1099511627776) (h : Sat w0 w (MedRep m M :: F)) (s : ByteArray) (at_ : Int) (y : UInt8) :
    Calls Try.prog 28 #[ptr m, .string s, .int .i64 at_, .int .u8 y.toNat] w (Rtn fun v w' => v = .bool (M.rot s at_ y).2 ∧ Sat w0 w' (MedRep m (M.rot s at_ y).1 :: F)) := by
  obtain ⟨bs, fb, nb, wv, hl, hR⟩ := MedRep.open h
  have c2 := hR.cellAt 2 _ rfl
  have hlk := look_names (s := s) (hR.pick1)
  cases hn : nget M.now s with
  | none =>
    rw [fptr, hn] at hlk
    simp only at hlk
    have Hfin : Hid (M.rot s at_ y = (M, false)) := by show _ = _; simp [Med.rot, hn]
    clear hn
    go_enter Try.func28, Try.ntmps28
    go_wp2
    go_ret
    exact ⟨.bool false, rfl, by rw [Hfin.out], by rw [Hfin.out]; exact h⟩
  | some i =>
    rw [fptr, hn] at hlk
    simp only at hlk
    have hid : i < M.files.length := hM.nowOk.ids (s, i) (nget_mem hn)
    obtain ⟨G, h1, h2⟩ := raw_file hl hid hR
    obtain ⟨fv, nv, wv', ws, hws, h3⟩ := FilRep.open h1
    have hok := hM.file i
    have hrd := Sat.rd (h3.sel 3 [2] rfl rfl)
    have hcl := clone_c h3 hrd (by have := hok.now_len; omega)
    have fc0 := h3.cellAt 1 _ rfl
    have Hfin : Hid (M.rot s at_ y = if at_ < 0 ∨ ((M.file i).now.length : Int) ≤ at_ then (M, false) else (M.setFile i ((M.file i).rot at_.toNat y), true)) := by
      show _ = _
      simp only [Med.rot, hn]
    have H1 := Lib.hid h1
    have H2 := Lib.hid h2; have Hok := Lib.hid hok; have Hws := Lib.hid hws
    clear hn h1 h2 hok hws hrd
    generalize hq : bs.getD i 0 = q at *
    go_enter Try.func28, Try.ntmps28
    go_wp2_with fail
    refine hcl.mono ?_
    rintro e w1 ⟨v', rfl, hS3, a3, n3, k3, rfl⟩
    have hP := hS3.pick1
    have f1 := hP.freeAt 1
    have c1 := hP.cellAt 1 _ rfl
    have hP2 := (hP.set 1 (.slice a3 n3 k3)).sel 4 [0, 2, 1] rfl rfl
    have hF : Sat w0 _ (FilRep q (M.file i) :: _) := FilRep.shut (fv := fv) (nv := .slice a3 n3 k3) (wv := wv') (ws := ws) Hws.out hP2
    have hrot := rotF_c hF Hok.out hK at_ y
    generalize hB : decide (¬ (at_ < 0 ∨ ((M.file i).now.length : Int) ≤ at_)) = B at hrot
    have HB := Lib.hid hB; clear hB
    clear hcl fc0 hP hP2 hS3
    go_wp2_with fail
    refine hrot.mono ?_
    rintro e w2 ⟨v, rfl, rfl, hS4⟩
    clear hrot f1 c1
    go_wp2
    go_ret
    refine ⟨.bool B, rfl, ?_, ?_⟩
    · rw [Hfin.out, ← HB.out]
      by_cases ho : at_ < 0 ∨ ((M.file i).now.length : Int) ≤ at_
      · rw [if_pos ho, decide_eq_false (fun hh => hh ho)]
      · rw [if_neg ho, decide_eq_true ho]
    · rw [Hfin.out]
      split
      · rename_i ho
        rw [if_pos ho] at hS4
        have := H2.out w2 _ hS4
        have e : M.setFile i (M.file i) = M := by
          unfold Med.setFile Med.file
          rw [List.getD_eq_getElem?_getD, List.getElem?_eq_getElem hid]
          simp
        rw [e] at this; exact this
      · rename_i ho
        rw [if_neg ho] at hS4
        exact H2.out w2 _ hS4
end
end Go.Proofs.Ytmjldaedhmipkaa
/- Rename, Remove, Truncate. -/
namespace Go.Proofs.Ytmjldaedhmipkaa
open Go Go.Sl Go.Med Go.MapKept Go.RowKit
section
variable {w0 w : World} {F : List HProp} {m fb nb b r : Nat} {M : Med} {bs : List Nat} {wv v bv : Value} {s : ByteArray} {l : Names} {fs : List Fil} {K : Nat}
set_option maxHeartbeats 2000000 in
theorem rename_c (hM : M.Ok K) (hK : K ≤ 1099511627776) (h : Sat w0 w (MedRep m M :: F)) (s t : ByteArray) (ht : t.size ≤ 9223372036854775807) :
    Calls Try.prog 21 #[ptr m, .string s, .string t] w (Rtn fun v w' => v = errno (M.rename s t).2 ∧ Sat w0 w' (MedRep m (M.rename s t).1 :: F)) := by
  obtain ⟨bs, fb, nb, wv, hl, hR⟩ := MedRep.open h
  have hg := good_c t w ht
  cases ho : M.off
  · cases hn : nget M.now s with
    | none =>
      have hf := find_none (s := s) hR ho hn
      have Hfin : Hid (M.rename s t = (M, 9)) := by show _ = _; simp [Med.rename, ho, hn]
      clear ho hn
      go_enter Try.func21, Try.ntmps21
      go_wp2_with (first | (go_at_call 47; refine hf.mono ?_; rintro e w1 ⟨v, rfl, rfl, rfl⟩))
      go_ret
      exact ⟨errno 9, rfl, by rw [Hfin.out], by rw [Hfin.out]; exact h⟩
    | some i =>
      have hf := find_some (s := s) hR ho hn
      cases hgs : good t
      · rw [hgs] at hg
        have Hfin : Hid (M.rename s t = (M, 7)) := by show _ = _; simp [Med.rename, ho, hn, hgs]
        clear ho hn hgs
        go_enter Try.func21, Try.ntmps21
        go_wp2_with (first | (go_at_call 47; refine hf.mono ?_; rintro e w1 ⟨v, rfl, rfl, rfl⟩) | (go_at_call 50; refine hg.mono ?_; rintro e w1 ⟨v, rfl, rfl, rfl⟩))
        go_ret
        exact ⟨errno 7, rfl, by rw [Hfin.out], by rw [Hfin.out]; exact h⟩
      rw [hgs] at hg
      have hst := step_c hR hM.left
      cases hstep : M.step.2
      · rw [hstep] at hst
        have Hfin : Hid (M.rename s t = (M.step.1, 12)) := by show _ = _; simp [Med.rename, ho, hn, hgs, hstep]
        clear ho hn hstep hgs
        go_enter Try.func21, Try.ntmps21
        go_wp2_with (first | (go_at_call 47; refine hf.mono ?_; rintro e w1 ⟨v, rfl, rfl, rfl⟩) | (go_at_call 50; refine hg.mono ?_; rintro e w1 ⟨v, rfl, rfl, rfl⟩) | (go_at_call 51; refine hst.mono ?_; rintro e w1 ⟨v, rfl, rfl, hS1⟩))
        go_ret
        refine ⟨errno 12, rfl, by rw [Hfin.out], ?_⟩
        rw [Hfin.out]
        exact MedRep.shut (bs := bs) (fb := fb) (nb := nb) (wv := wv) (by rw [M.step_same.2.2.2.1]; exact hl) (raw_step hS1)
      · rw [hstep] at hst
        have Hfin : Hid (M.rename s t = (M.step.1.link ⟨s, t, i⟩, 0)) := by show _ = _; simp [Med.rename, ho, hn, hgs, hstep]
        have hne := good_ne hgs
        have hl' : bs.length = M.step.1.files.length := by rw [M.step_same.2.2.2.1]; exact hl
        have hlp : lnkPtr bs ⟨s, t, i⟩ = ptr (bs.getD i 0) := by unfold lnkPtr; rw [if_neg hne]
        have Hl' := Lib.hid hl'; have Hlp := Lib.hid hlp
        clear ho hn hstep hgs hne hl' hlp
        generalize hq : bs.getD i 0 = q at hf
        have Hq := Lib.hid hq; clear hq
        go_enter Try.func21, Try.ntmps21
        go_wp2_with (first | (go_at_call 47; refine hf.mono ?_; rintro e w1 ⟨v, rfl, rfl, rfl⟩) | (go_at_call 50; refine hg.mono ?_; rintro e w1 ⟨v, rfl, rfl, rfl⟩) | (go_at_call 51; fail))
        refine hst.mono ?_
        rintro e w1 ⟨v, rfl, rfl, hS1⟩
        have hlk := link_rep hM.step hK Hl'.out ⟨s, t, i⟩ (raw_step hS1)
        rw [Hlp.out, Hq.out] at hlk
        go_wp2_with (go_at_call 52; go_must (refine hlk.mono ?_); rintro e w2 ⟨v2, rfl, hS2⟩)
        go_ret
        refine ⟨errno 0, rfl, by rw [Hfin.out], ?_⟩
        rw [Hfin.out]
        exact hS2
  · have hf := find_off (s := s) hR ho
    have Hfin : Hid (M.rename s t = (M, 12)) := by show _ = _; simp [Med.rename, ho]
    clear ho
    go_enter Try.func21, Try.ntmps21
    go_wp2_with (first | (go_at_call 47; refine hf.mono ?_; rintro e w1 ⟨v, rfl, rfl, rfl⟩))
    go_ret
    exact ⟨errno 12, rfl, by rw [Hfin.out], by rw [Hfin.out]; exact h⟩
set_option maxHeartbeats 2000000 in
theorem truncate_c (hM : M.Ok K) (hK : K ≤ 1099511627776) (h : Sat w0 w (MedRep m M :: F)) (s : ByteArray) (n : Int) :
    Calls Try.prog 20 #[ptr m, .string s, .int .i64 n] w (Rtn fun v w' => v = errno (M.truncate s n).2 ∧ Sat w0 w' (MedRep m (M.truncate s n).1 :: F)) := by
  obtain ⟨bs, fb, nb, wv, hl, hR⟩ := MedRep.open h
  cases ho : M.off
  · cases hn : nget M.now s with
    | none =>
      have hf := find_none (s := s) hR ho hn
      have Hfin : Hid (M.truncate s n = (M, 9)) := by show _ = _; simp [Med.truncate, ho, hn]
      clear ho hn
      go_enter Try.func20, Try.ntmps20
      go_wp2_with (first | (go_at_call 47; refine hf.mono ?_; rintro e w1 ⟨v, rfl, rfl, rfl⟩))
      go_ret
      exact ⟨errno 9, rfl, by rw [Hfin.out], by rw [Hfin.out]; exact h⟩
    | some i =>
      have hf := find_some (s := s) hR ho hn
      have hid : i < M.files.length := hM.nowOk.ids (s, i) (nget_mem hn)
      obtain ⟨fa, fn, fc, na, nc, wv0, f0, f1, f2, hrd, hcap, hnc, hna⟩ := file_cells (hR.sel 3 [2] rfl rfl) hl hid
      change w.cell? ⟨bs.getD i 0, 1, none⟩ = some (.slice na (M.file i).now.length nc) at f1
      have hokf := hM.file i
      have hnl := hokf.now_len
      clear hrd hcap hnc hna f0 f2
      by_cases h1 : n < 0
      · have Hfin : Hid (M.truncate s n = (M, 2)) := by show _ = _; simp [Med.truncate, ho, hn, h1]
        clear ho hn
        generalize bs.getD i 0 = q at *
        go_enter Try.func20, Try.ntmps20
        go_wp2_with (go_at_call 47; refine hf.mono ?_; rintro e w1 ⟨v, rfl, rfl, rfl⟩)
        go_ret
        exact ⟨errno 2, rfl, by rw [Hfin.out], by rw [Hfin.out]; exact h⟩
      have h1' : decide (n < 0) = false := by rw [decide_eq_false_iff_not]; exact h1
      by_cases h2 : ((M.file i).now.length : Int) < n
      · have Hfin : Hid (M.truncate s n = (M, 2)) := by show _ = _; simp [Med.truncate, ho, hn, h1, h2]
        clear ho hn
        generalize bs.getD i 0 = q at *
        go_enter Try.func20, Try.ntmps20
        go_wp2_with (go_at_call 47; refine hf.mono ?_; rintro e w1 ⟨v, rfl, rfl, rfl⟩)
        go_ret
        exact ⟨errno 2, rfl, by rw [Hfin.out], by rw [Hfin.out]; exact h⟩
      have h2' : decide (((M.file i).now.length : Int) < n) = false := by rw [decide_eq_false_iff_not]; exact h2
      have hst := step_c hR hM.left
      cases hstep : M.step.2
      · rw [hstep] at hst
        have Hfin : Hid (M.truncate s n = (M.step.1, 12)) := by show _ = _; simp [Med.truncate, ho, hn, h1, h2, hstep]
        clear ho hn hstep
        generalize bs.getD i 0 = q at f1 hf
        go_enter Try.func20, Try.ntmps20
        go_wp2_with (first | (go_at_call 47; refine hf.mono ?_; rintro e w1 ⟨v, rfl, rfl, rfl⟩) | (go_at_call 51; refine hst.mono ?_; rintro e w1 ⟨v, rfl, rfl, hS1⟩))
        go_ret
        refine ⟨errno 12, rfl, by rw [Hfin.out], ?_⟩
        rw [Hfin.out]
        exact MedRep.shut (bs := bs) (fb := fb) (nb := nb) (wv := wv) (by rw [M.step_same.2.2.2.1]; exact hl) (raw_step hS1)
      · rw [hstep] at hst
        have Hfin : Hid (M.truncate s n = (M.step.1.setFile i ((M.file i).do ⟨true, n.toNat, []⟩), 0)) := by show _ = _; simp [Med.truncate, ho, hn, h1, h2, hstep]
        have hl' : bs.length = M.step.1.files.length := by rw [M.step_same.2.2.2.1]; exact hl
        have hid' : i < M.step.1.files.length := by rw [M.step_same.2.2.2.1]; exact hid
        have hfe : M.step.1.file i = M.file i := by unfold Med.file; rw [M.step_same.2.2.2.1]
        have hnn : ((n.toNat : Nat) : Int) = n := Int.toNat_of_nonneg (by omega)
        have Hl' := Lib.hid hl'; have Hfe := Lib.hid hfe; have Hok := Lib.hid hokf; have Hnn := Lib.hid hnn
        have hle : n.toNat ≤ (M.file i).now.length := by omega
        clear ho hn hstep hl' hfe hokf hnn
        generalize hq : bs.getD i 0 = q at *
        have Hq := Lib.hid hq; clear hq
        go_enter Try.func20, Try.ntmps20
        go_wp2_with (first | (go_at_call 47; refine hf.mono ?_; rintro e w1 ⟨v, rfl, rfl, rfl⟩) | (go_at_call 51; fail))
        refine hst.mono ?_
        rintro e w1 ⟨v, rfl, rfl, hS1⟩
        obtain ⟨G, k1, k2⟩ := raw_file Hl'.out hid' (raw_step hS1)
        rw [Hfe.out, Hq.out] at k1
        rw [Hq.out] at k2
        obtain ⟨fv, nv, wv', ws, hws, h3⟩ := FilRep.open k1
        have h4 : Sat w0 w1 (FilRaw q (M.file i) fv nv wv' ws ++ bsl (.slice none 0 0) [] :: _) := (Sat.osl_nil (T := 5) (sz := 1).2 h3).sel 6 [1, 2, 3, 4, 5, 0] rfl rfl
        have hdo := do_c (bv := .slice none 0 0) ⟨true, n.toNat, []⟩ h4 hws ⟨(fun _ => hle), fun h => by cases h⟩ (Nat.le_trans Hok.out.budget hK)
        unfold chgV at hdo
        simp only at hdo
        rw [Hnn.out] at hdo
        clear h3 h4 hws hst k1
        go_wp2_with (go_at_call 53; go_must (refine hdo.mono ?_); rintro e w4 ⟨v4, rfl, hS4⟩)
        go_ret
        refine ⟨errno 0, rfl, by rw [Hfin.out], ?_⟩
        rw [Hfin.out]
        exact k2 _ _ hS4
  · have hf := find_off (s := s) hR ho
    have Hfin : Hid (M.truncate s n = (M, 12)) := by show _ = _; simp [Med.truncate, ho]
    clear ho
    go_enter Try.func20, Try.ntmps20
    go_wp2_with (first | (go_at_call 47; refine hf.mono ?_; rintro e w1 ⟨v, rfl, rfl, rfl⟩))
    go_ret
    exact ⟨errno 12, rfl, by rw [Hfin.out], by rw [Hfin.out]; exact h⟩
end
end Go.Proofs.Ytmjldaedhmipkaa
/- does: a call, by its kind. -/
namespace Go.Proofs.Ytmjldaedhmipkaa
open Go Go.Sl Go.Med Go.MapKept Go.RowKit
set_option linter.unusedVariables false
section
variable {w0 w : World} {F : List HProp} {m fb nb b r : Nat} {M : Med} {bs : List Nat} {wv v bv dv dbv dlv : Value} {s : ByteArray} {fs : List Fil} {K : Nat} {db : Bs} {dl : List Int}
/-- What does answers. -/
def Did (w0 : World) (F : List HProp) (m : Nat) (r : Med × Bs × Int × Bool) (v : Value) (w' : World) : Prop :=
  ∃ ov, v = .tuple #[ov, errno r.2.2.1, .bool r.2.2.2] ∧ (∃ a n c, ov = .slice a n c) ∧ Sat w0 w' (bsl ov r.2.1 :: MedRep m r.1 :: F)
theorem wrap_u8 (x : UInt8) : IntKind.u8.wrap ((x.toNat : Int) + 1) = ((x + 1).toNat : Int) := by
  have := x.toNat_lt
  rw [UInt8.toNat_add]
  show ((x.toNat : Int) + 1) % 256 = _
  simp
theorem wrap_byte (n : Int) : IntKind.u8.wrap n = ((lowByte n).toNat : Int) := by
  unfold lowByte
  rw [UInt8.toNat_ofNat']
  show n % 256 = _
  have h1 := Int.emod_nonneg n (show (256 : Int) ≠ 0 by decide)
  have h2 := Int.emod_lt_of_pos n (show (0 : Int) < 256 by decide)
  omega
set_option maxHeartbeats 1000000 in
theorem does_create (ok : M.Ok K) (hK : K ≤ 1099511627776) (h : Sat w0 w (MedRep m M :: F)) (name to : ByteArray) (n k : Int) (hb : Ro w0 F (rdsl 1 dbv (bys db))) (hbl : db.length ≤ 1099511627776) (hn : name.size ≤ 9223372036854775807) :
    Calls Try.prog 7 #[ptr m, .agg #[.int .i64 0, .string name, .string to, .int .i64 n, .int .i64 k, dbv, dlv]] w (Rtn (Did w0 F m ((M.create name).1, [], (M.create name).2, false))) := by
  have hA := h.alloc (.cells #[.int .i64 0, .string name, .string to, .int .i64 n, .int .i64 k, dbv, dlv] 36)
  have hb' : Ro w0 F (rdsl 1 dbv (bys db)) := hb
  obtain ⟨ba, bn, bc, rfl, _⟩ := id (hb _ h.drop)
  have a5 := hA.cellAt 5 _ rfl
  have hcp := copy_c hA db (hb _ hA.drop.drop) hbl
  have Hb := Lib.hid hb
  clear hb hb' hbl
  go_enter Try.func7, Try.ntmps7
  go_wp2_with (first
    | (go_at_call 15; refine hcp.mono ?_; rintro e w1 ⟨v, rfl, hS1, a1, n1, k1, rfl⟩; have c0 := hS1.pick1.cellAt 0 _ rfl; have c1 := hS1.pick1.cellAt 1 _ rfl; have c2 := hS1.pick1.cellAt 2 _ rfl; have c3 := hS1.pick1.cellAt 3 _ rfl; have c4 := hS1.pick1.cellAt 4 _ rfl; have c6 := hS1.pick1.cellAt 6 _ rfl; clear hcp)
    | (go_at_call 18; go_must (refine (create_c ok hK (hS1.sel 3 [2, 0, 1] rfl rfl) name hn).mono ?_); rintro e w2 ⟨v, rfl, rfl, hS2⟩))
  go_ret3
  exact ⟨_, rfl, .slice none 0 0, rfl, ⟨_, _, _, rfl⟩, Sat.osl_nil.2 (hS2.sel 3 [0] rfl rfl)⟩
set_option maxHeartbeats 1000000 in
theorem does_truncate (ok : M.Ok K) (hK : K ≤ 1099511627776) (h : Sat w0 w (MedRep m M :: F)) (name to : ByteArray) (n k : Int) (hb : Ro w0 F (rdsl 1 dbv (bys db))) (hbl : db.length ≤ 1099511627776) :
    Calls Try.prog 7 #[ptr m, .agg #[.int .i64 2, .string name, .string to, .int .i64 n, .int .i64 k, dbv, dlv]] w (Rtn (Did w0 F m ((M.truncate name n).1, [], (M.truncate name n).2, false))) := by
  have hA := h.alloc (.cells #[.int .i64 2, .string name, .string to, .int .i64 n, .int .i64 k, dbv, dlv] 36)
  have hb' : Ro w0 F (rdsl 1 dbv (bys db)) := hb
  obtain ⟨ba, bn, bc, rfl, _⟩ := id (hb _ h.drop)
  have a5 := hA.cellAt 5 _ rfl
  have hcp := copy_c hA db (hb _ hA.drop.drop) hbl
  have Hb := Lib.hid hb
  clear hb hb' hbl
  go_enter Try.func7, Try.ntmps7
  go_wp2_with (first
    | (go_at_call 15; refine hcp.mono ?_; rintro e w1 ⟨v, rfl, hS1, a1, n1, k1, rfl⟩; have c0 := hS1.pick1.cellAt 0 _ rfl; have c1 := hS1.pick1.cellAt 1 _ rfl; have c2 := hS1.pick1.cellAt 2 _ rfl; have c3 := hS1.pick1.cellAt 3 _ rfl; have c4 := hS1.pick1.cellAt 4 _ rfl; have c6 := hS1.pick1.cellAt 6 _ rfl; clear hcp)
    | (go_at_call 20; go_must (refine (truncate_c ok hK (hS1.sel 3 [2, 0, 1] rfl rfl) name n).mono ?_); rintro e w2 ⟨v, rfl, rfl, hS2⟩))
  go_ret3
  exact ⟨_, rfl, .slice none 0 0, rfl, ⟨_, _, _, rfl⟩, Sat.osl_nil.2 (hS2.sel 3 [0] rfl rfl)⟩
set_option maxHeartbeats 1000000 in
theorem does_rename (ok : M.Ok K) (hK : K ≤ 1099511627776) (h : Sat w0 w (MedRep m M :: F)) (name to : ByteArray) (n k : Int) (hb : Ro w0 F (rdsl 1 dbv (bys db))) (hbl : db.length ≤ 1099511627776) (hn : to.size ≤ 9223372036854775807) :
    Calls Try.prog 7 #[ptr m, .agg #[.int .i64 3, .string name, .string to, .int .i64 n, .int .i64 k, dbv, dlv]] w (Rtn (Did w0 F m ((M.rename name to).1, [], (M.rename name to).2, false))) := by
  have hA := h.alloc (.cells #[.int .i64 3, .string name, .string to, .int .i64 n, .int .i64 k, dbv, dlv] 36)
  have hb' : Ro w0 F (rdsl 1 dbv (bys db)) := hb
  obtain ⟨ba, bn, bc, rfl, _⟩ := id (hb _ h.drop)
  have a5 := hA.cellAt 5 _ rfl
  have hcp := copy_c hA db (hb _ hA.drop.drop) hbl
  have Hb := Lib.hid hb
  clear hb hb' hbl
  go_enter Try.func7, Try.ntmps7
  go_wp2_with (first
    | (go_at_call 15; refine hcp.mono ?_; rintro e w1 ⟨v, rfl, hS1, a1, n1, k1, rfl⟩; have c0 := hS1.pick1.cellAt 0 _ rfl; have c1 := hS1.pick1.cellAt 1 _ rfl; have c2 := hS1.pick1.cellAt 2 _ rfl; have c3 := hS1.pick1.cellAt 3 _ rfl; have c4 := hS1.pick1.cellAt 4 _ rfl; have c6 := hS1.pick1.cellAt 6 _ rfl; clear hcp)
    | (go_at_call 21; go_must (refine (rename_c ok hK (hS1.sel 3 [2, 0, 1] rfl rfl) name to hn).mono ?_); rintro e w2 ⟨v, rfl, rfl, hS2⟩))
  go_ret3
  exact ⟨_, rfl, .slice none 0 0, rfl, ⟨_, _, _, rfl⟩, Sat.osl_nil.2 (hS2.sel 3 [0] rfl rfl)⟩
set_option maxHeartbeats 1000000 in
theorem does_remove (ok : M.Ok K) (hK : K ≤ 1099511627776) (h : Sat w0 w (MedRep m M :: F)) (name to : ByteArray) (n k : Int) (hb : Ro w0 F (rdsl 1 dbv (bys db))) (hbl : db.length ≤ 1099511627776) :
    Calls Try.prog 7 #[ptr m, .agg #[.int .i64 4, .string name, .string to, .int .i64 n, .int .i64 k, dbv, dlv]] w (Rtn (Did w0 F m ((M.remove name).1, [], (M.remove name).2, false))) := by
  have hA := h.alloc (.cells #[.int .i64 4, .string name, .string to, .int .i64 n, .int .i64 k, dbv, dlv] 36)
  have hb' : Ro w0 F (rdsl 1 dbv (bys db)) := hb
  obtain ⟨ba, bn, bc, rfl, _⟩ := id (hb _ h.drop)
  have a5 := hA.cellAt 5 _ rfl
  have hcp := copy_c hA db (hb _ hA.drop.drop) hbl
  have Hb := Lib.hid hb
  clear hb hb' hbl
  go_enter Try.func7, Try.ntmps7
  go_wp2_with (first
    | (go_at_call 15; refine hcp.mono ?_; rintro e w1 ⟨v, rfl, hS1, a1, n1, k1, rfl⟩; have c0 := hS1.pick1.cellAt 0 _ rfl; have c1 := hS1.pick1.cellAt 1 _ rfl; have c2 := hS1.pick1.cellAt 2 _ rfl; have c3 := hS1.pick1.cellAt 3 _ rfl; have c4 := hS1.pick1.cellAt 4 _ rfl; have c6 := hS1.pick1.cellAt 6 _ rfl; clear hcp)
    | (go_at_call 22; go_must (refine (remove_c ok hK (hS1.sel 3 [2, 0, 1] rfl rfl) name).mono ?_); rintro e w2 ⟨v, rfl, rfl, hS2⟩))
  go_ret3
  exact ⟨_, rfl, .slice none 0 0, rfl, ⟨_, _, _, rfl⟩, Sat.osl_nil.2 (hS2.sel 3 [0] rfl rfl)⟩
set_option maxHeartbeats 1000000 in
theorem does_sync (ok : M.Ok K) (hK : K ≤ 1099511627776) (h : Sat w0 w (MedRep m M :: F)) (name to : ByteArray) (n k : Int) (hb : Ro w0 F (rdsl 1 dbv (bys db))) (hbl : db.length ≤ 1099511627776) :
    Calls Try.prog 7 #[ptr m, .agg #[.int .i64 5, .string name, .string to, .int .i64 n, .int .i64 k, dbv, dlv]] w (Rtn (Did w0 F m ((M.sync name).1, [], (M.sync name).2, false))) := by
  have hA := h.alloc (.cells #[.int .i64 5, .string name, .string to, .int .i64 n, .int .i64 k, dbv, dlv] 36)
  have hb' : Ro w0 F (rdsl 1 dbv (bys db)) := hb
  obtain ⟨ba, bn, bc, rfl, _⟩ := id (hb _ h.drop)
  have a5 := hA.cellAt 5 _ rfl
  have hcp := copy_c hA db (hb _ hA.drop.drop) hbl
  have Hb := Lib.hid hb
  clear hb hb' hbl
  go_enter Try.func7, Try.ntmps7
  go_wp2_with (first
    | (go_at_call 15; refine hcp.mono ?_; rintro e w1 ⟨v, rfl, hS1, a1, n1, k1, rfl⟩; have c0 := hS1.pick1.cellAt 0 _ rfl; have c1 := hS1.pick1.cellAt 1 _ rfl; have c2 := hS1.pick1.cellAt 2 _ rfl; have c3 := hS1.pick1.cellAt 3 _ rfl; have c4 := hS1.pick1.cellAt 4 _ rfl; have c6 := hS1.pick1.cellAt 6 _ rfl; clear hcp)
    | (go_at_call 23; go_must (refine (sync_c ok (hS1.sel 3 [2, 0, 1] rfl rfl) name).mono ?_); rintro e w2 ⟨v, rfl, rfl, hS2⟩))
  go_ret3
  exact ⟨_, rfl, .slice none 0 0, rfl, ⟨_, _, _, rfl⟩, Sat.osl_nil.2 (hS2.sel 3 [0] rfl rfl)⟩
set_option maxHeartbeats 1000000 in
theorem does_syncDir (ok : M.Ok K) (hK : K ≤ 1099511627776) (h : Sat w0 w (MedRep m M :: F)) (name to : ByteArray) (n k : Int) (hb : Ro w0 F (rdsl 1 dbv (bys db))) (hbl : db.length ≤ 1099511627776) :
    Calls Try.prog 7 #[ptr m, .agg #[.int .i64 6, .string name, .string to, .int .i64 n, .int .i64 k, dbv, dlv]] w (Rtn (Did w0 F m (M.syncDir.1, [], M.syncDir.2, false))) := by
  have hA := h.alloc (.cells #[.int .i64 6, .string name, .string to, .int .i64 n, .int .i64 k, dbv, dlv] 36)
  have hb' : Ro w0 F (rdsl 1 dbv (bys db)) := hb
  obtain ⟨ba, bn, bc, rfl, _⟩ := id (hb _ h.drop)
  have a5 := hA.cellAt 5 _ rfl
  have hcp := copy_c hA db (hb _ hA.drop.drop) hbl
  have Hb := Lib.hid hb
  clear hb hb' hbl
  go_enter Try.func7, Try.ntmps7
  go_wp2_with (first
    | (go_at_call 15; refine hcp.mono ?_; rintro e w1 ⟨v, rfl, hS1, a1, n1, k1, rfl⟩; have c0 := hS1.pick1.cellAt 0 _ rfl; have c1 := hS1.pick1.cellAt 1 _ rfl; have c2 := hS1.pick1.cellAt 2 _ rfl; have c3 := hS1.pick1.cellAt 3 _ rfl; have c4 := hS1.pick1.cellAt 4 _ rfl; have c6 := hS1.pick1.cellAt 6 _ rfl; clear hcp)
    | (go_at_call 24; go_must (refine (syncDir_c ok (hS1.sel 3 [2, 0, 1] rfl rfl)).mono ?_); rintro e w2 ⟨v, rfl, rfl, hS2⟩))
  go_ret3
  exact ⟨_, rfl, .slice none 0 0, rfl, ⟨_, _, _, rfl⟩, Sat.osl_nil.2 (hS2.sel 3 [0] rfl rfl)⟩
set_option maxHeartbeats 1000000 in
theorem does_arm (ok : M.Ok K) (hK : K ≤ 1099511627776) (h : Sat w0 w (MedRep m M :: F)) (name to : ByteArray) (n k : Int) (hb : Ro w0 F (rdsl 1 dbv (bys db))) (hbl : db.length ≤ 1099511627776) :
    Calls Try.prog 7 #[ptr m, .agg #[.int .i64 7, .string name, .string to, .int .i64 n, .int .i64 k, dbv, dlv]] w (Rtn (Did w0 F m ((M.arm n).1, [], (M.arm n).2, false))) := by
  have hA := h.alloc (.cells #[.int .i64 7, .string name, .string to, .int .i64 n, .int .i64 k, dbv, dlv] 36)
  have hb' : Ro w0 F (rdsl 1 dbv (bys db)) := hb
  obtain ⟨ba, bn, bc, rfl, _⟩ := id (hb _ h.drop)
  have a5 := hA.cellAt 5 _ rfl
  have hcp := copy_c hA db (hb _ hA.drop.drop) hbl
  have Hb := Lib.hid hb
  clear hb hb' hbl
  go_enter Try.func7, Try.ntmps7
  go_wp2_with (first
    | (go_at_call 15; refine hcp.mono ?_; rintro e w1 ⟨v, rfl, hS1, a1, n1, k1, rfl⟩; have c0 := hS1.pick1.cellAt 0 _ rfl; have c1 := hS1.pick1.cellAt 1 _ rfl; have c2 := hS1.pick1.cellAt 2 _ rfl; have c3 := hS1.pick1.cellAt 3 _ rfl; have c4 := hS1.pick1.cellAt 4 _ rfl; have c6 := hS1.pick1.cellAt 6 _ rfl; clear hcp)
    | (go_at_call 25; go_must (refine (arm_c (hS1.sel 3 [2, 0, 1] rfl rfl) n).mono ?_); rintro e w2 ⟨v, rfl, rfl, hS2⟩))
  go_ret3
  exact ⟨_, rfl, .slice none 0 0, rfl, ⟨_, _, _, rfl⟩, Sat.osl_nil.2 (hS2.sel 3 [0] rfl rfl)⟩
set_option maxHeartbeats 1000000 in
theorem does_setRoom (ok : M.Ok K) (hK : K ≤ 1099511627776) (h : Sat w0 w (MedRep m M :: F)) (name to : ByteArray) (n k : Int) (hb : Ro w0 F (rdsl 1 dbv (bys db))) (hbl : db.length ≤ 1099511627776) :
    Calls Try.prog 7 #[ptr m, .agg #[.int .i64 9, .string name, .string to, .int .i64 n, .int .i64 k, dbv, dlv]] w (Rtn (Did w0 F m ((M.setRoom n).1, [], (M.setRoom n).2, false))) := by
  have hA := h.alloc (.cells #[.int .i64 9, .string name, .string to, .int .i64 n, .int .i64 k, dbv, dlv] 36)
  have hb' : Ro w0 F (rdsl 1 dbv (bys db)) := hb
  obtain ⟨ba, bn, bc, rfl, _⟩ := id (hb _ h.drop)
  have a5 := hA.cellAt 5 _ rfl
  have hcp := copy_c hA db (hb _ hA.drop.drop) hbl
  have Hb := Lib.hid hb
  clear hb hb' hbl
  go_enter Try.func7, Try.ntmps7
  go_wp2_with (first
    | (go_at_call 15; refine hcp.mono ?_; rintro e w1 ⟨v, rfl, hS1, a1, n1, k1, rfl⟩; have c0 := hS1.pick1.cellAt 0 _ rfl; have c1 := hS1.pick1.cellAt 1 _ rfl; have c2 := hS1.pick1.cellAt 2 _ rfl; have c3 := hS1.pick1.cellAt 3 _ rfl; have c4 := hS1.pick1.cellAt 4 _ rfl; have c6 := hS1.pick1.cellAt 6 _ rfl; clear hcp)
    | (go_at_call 27; go_must (refine (setRoom_c (hS1.sel 3 [2, 0, 1] rfl rfl) n).mono ?_); rintro e w2 ⟨v, rfl, rfl, hS2⟩))
  go_ret3
  exact ⟨_, rfl, .slice none 0 0, rfl, ⟨_, _, _, rfl⟩, Sat.osl_nil.2 (hS2.sel 3 [0] rfl rfl)⟩
set_option maxHeartbeats 1000000 in
theorem does_crash (ok : M.Ok K) (hK : K ≤ 1099511627776) (h : Sat w0 w (MedRep m M :: F)) (name to : ByteArray) (n k : Int) (hb : Ro w0 F (rdsl 1 dbv (bys db))) (hbl : db.length ≤ 1099511627776) (hl : Ro w0 F (rdsl 1 dlv (ints dl))) (hlc : capOk dlv) (hli : ∀ z ∈ dl, inI z) :
    Calls Try.prog 7 #[ptr m, .agg #[.int .i64 8, .string name, .string to, .int .i64 n, .int .i64 k, dbv, dlv]] w (Rtn (Did w0 F m (M.crash dl, [], 0, false))) := by
  have hA := h.alloc (.cells #[.int .i64 8, .string name, .string to, .int .i64 n, .int .i64 k, dbv, dlv] 36)
  have hb' : Ro w0 F (rdsl 1 dbv (bys db)) := hb
  obtain ⟨ba, bn, bc, rfl, _⟩ := id (hb _ h.drop)
  have a5 := hA.cellAt 5 _ rfl
  have hcp := copy_c hA db (hb _ hA.drop.drop) hbl
  have Hb := Lib.hid hb
  clear hb hb' hbl
  go_enter Try.func7, Try.ntmps7
  go_wp2_with (first
    | (go_at_call 15; refine hcp.mono ?_; rintro e w1 ⟨v, rfl, hS1, a1, n1, k1, rfl⟩; have c0 := hS1.pick1.cellAt 0 _ rfl; have c1 := hS1.pick1.cellAt 1 _ rfl; have c2 := hS1.pick1.cellAt 2 _ rfl; have c3 := hS1.pick1.cellAt 3 _ rfl; have c4 := hS1.pick1.cellAt 4 _ rfl; have c6 := hS1.pick1.cellAt 6 _ rfl; clear hcp)
    | (go_at_call 26; go_must (refine (crash_c ok hK (hS1.sel 3 [2, 0, 1] rfl rfl) dl (fun w hw => hl w hw.drop.drop) hlc hli).mono ?_); rintro e w2 ⟨v, rfl, hS2⟩))
  go_ret3
  exact ⟨_, rfl, .slice none 0 0, rfl, ⟨_, _, _, rfl⟩, Sat.osl_nil.2 (hS2.sel 3 [0] rfl rfl)⟩
set_option maxHeartbeats 1000000 in
theorem does_rot (ok : M.Ok K) (hK : K ≤ 1099511627776) (h : Sat w0 w (MedRep m M :: F)) (name to : ByteArray) (n k : Int) (hb : Ro w0 F (rdsl 1 dbv (bys db))) (hbl : db.length ≤ 1099511627776) :
    Calls Try.prog 7 #[ptr m, .agg #[.int .i64 10, .string name, .string to, .int .i64 n, .int .i64 k, dbv, dlv]] w (Rtn (Did w0 F m ((M.rot name n (lowByte k)).1, [], 0, (M.rot name n (lowByte k)).2))) := by
  have hA := h.alloc (.cells #[.int .i64 10, .string name, .string to, .int .i64 n, .int .i64 k, dbv, dlv] 36)
  have hb' : Ro w0 F (rdsl 1 dbv (bys db)) := hb
  obtain ⟨ba, bn, bc, rfl, _⟩ := id (hb _ h.drop)
  have a5 := hA.cellAt 5 _ rfl
  have hcp := copy_c hA db (hb _ hA.drop.drop) hbl
  have Hb := Lib.hid hb
  clear hb hb' hbl
  have hwb := wrap_byte k
  go_enter Try.func7, Try.ntmps7
  go_wp2_with (first
    | (go_at_call 15; refine hcp.mono ?_; rintro e w1 ⟨v, rfl, hS1, a1, n1, k1, rfl⟩; have c0 := hS1.pick1.cellAt 0 _ rfl; have c1 := hS1.pick1.cellAt 1 _ rfl; have c2 := hS1.pick1.cellAt 2 _ rfl; have c3 := hS1.pick1.cellAt 3 _ rfl; have c4 := hS1.pick1.cellAt 4 _ rfl; have c6 := hS1.pick1.cellAt 6 _ rfl; clear hcp)
    | (go_at_call 28; go_must (refine (rot_c ok hK (hS1.sel 3 [2, 0, 1] rfl rfl) name n (lowByte k)).mono ?_); rintro e w2 ⟨v, rfl, rfl, hS2⟩))
  go_ret3
  exact ⟨_, rfl, .slice none 0 0, rfl, ⟨_, _, _, rfl⟩, Sat.osl_nil.2 (hS2.sel 3 [0] rfl rfl)⟩
set_option maxHeartbeats 1000000 in
theorem does_read (ok : M.Ok K) (hK : K ≤ 1099511627776) (h : Sat w0 w (MedRep m M :: F)) (kind : Int) (name to : ByteArray) (n k : Int) (hb : Ro w0 F (rdsl 1 dbv (bys db))) (hbl : db.length ≤ 1099511627776) (hn : inI n) (hk : inI k) (hd : kind ≠ 0 ∧ kind ≠ 1 ∧ kind ≠ 2 ∧ kind ≠ 3 ∧ kind ≠ 4 ∧ kind ≠ 5 ∧ kind ≠ 6 ∧ kind ≠ 7 ∧ kind ≠ 8 ∧ kind ≠ 9 ∧ kind ≠ 10) :
    Calls Try.prog 7 #[ptr m, .agg #[.int .i64 kind, .string name, .string to, .int .i64 n, .int .i64 k, dbv, dlv]] w (Rtn (Did w0 F m (M, (M.read name n k).1, (M.read name n k).2, false))) := by
  obtain ⟨k0, k1, k2, k3, k4, k5, k6, k7, k8, k9, k10⟩ := hd
  have hA := h.alloc (.cells #[.int .i64 kind, .string name, .string to, .int .i64 n, .int .i64 k, dbv, dlv] 36)
  have hb' : Ro w0 F (rdsl 1 dbv (bys db)) := hb
  obtain ⟨ba, bn, bc, rfl, _⟩ := id (hb _ h.drop)
  have a5 := hA.cellAt 5 _ rfl
  have hcp := copy_c hA db (hb _ hA.drop.drop) hbl
  have Hb := Lib.hid hb
  clear hb hb' hbl
  go_enter Try.func7, Try.ntmps7
  go_wp2_with (first
    | (go_at_call 15; refine hcp.mono ?_; rintro e w1 ⟨v, rfl, hS1, a1, n1, k1, rfl⟩; have c0 := hS1.pick1.cellAt 0 _ rfl; have c1 := hS1.pick1.cellAt 1 _ rfl; have c2 := hS1.pick1.cellAt 2 _ rfl; have c3 := hS1.pick1.cellAt 3 _ rfl; have c4 := hS1.pick1.cellAt 4 _ rfl; have c6 := hS1.pick1.cellAt 6 _ rfl; clear hcp)
    | (go_at_call 29; go_must (refine (read_c ok (hS1.sel 3 [2, 0, 1] rfl rfl) name n k hn hk).mono ?_); rintro e w2 ⟨v, rfl, rv, rfl, hS2⟩))
  have hsh := bsl_shape hS2
  go_ret3
  exact ⟨_, rfl, rv, rfl, hsh, hS2.sel 4 [0, 1] rfl rfl⟩
set_option maxHeartbeats 1000000 in
theorem does_append (ok : M.Ok K) (hK : K ≤ 1099511627776) (h : Sat w0 w (MedRep m M :: F)) (name to : ByteArray) (n k : Int) (hb : Ro w0 F (rdsl 1 dbv (bys db))) (hbl : db.length ≤ 1099511627776) :
    Calls Try.prog 7 #[ptr m, .agg #[.int .i64 1, .string name, .string to, .int .i64 n, .int .i64 k, dbv, dlv]] w (Rtn (Did w0 F m ((M.append name db).1, [], (M.append name db).2, false))) := by
  have hA := h.alloc (.cells #[.int .i64 1, .string name, .string to, .int .i64 n, .int .i64 k, dbv, dlv] 36)
  have hb' : Ro w0 F (rdsl 1 dbv (bys db)) := hb
  obtain ⟨ba, bn, bc, rfl, _⟩ := id (hb _ h.drop)
  have a5 := hA.cellAt 5 _ rfl
  have hcp := copy_c hA db (hb _ hA.drop.drop) hbl
  have Hb := Lib.hid hb
  have Hbl := Lib.hid hbl
  clear hb hb' hbl
  go_enter Try.func7, Try.ntmps7
  go_wp2_with (first
    | (go_at_call 15; refine hcp.mono ?_; rintro e w1 ⟨v, rfl, hS1, a1, n1, k1, rfl⟩; have c0 := hS1.pick1.cellAt 0 _ rfl; have c1 := hS1.pick1.cellAt 1 _ rfl; have c2 := hS1.pick1.cellAt 2 _ rfl; have c3 := hS1.pick1.cellAt 3 _ rfl; have c4 := hS1.pick1.cellAt 4 _ rfl; have c6 := hS1.pick1.cellAt 6 _ rfl; clear hcp)
    | (go_at_call 19; go_must (refine (append_c ok hK (hS1.sel 3 [2, 0, 1] rfl rfl) name db (fun w hw => Sat.rd hw)).mono ?_); rintro e w2 ⟨v, rfl, rfl, hS2⟩))
  have hS3 := hS2.sel 3 [1, 0] rfl rfl
  obtain rfl : n1 = db.length := by
    obtain ⟨_, _, _, he, hl, _⟩ := Sat.rd hS3
    cases he
    rw [bys_len, Nat.mul_one] at hl; exact hl.symm
  clear c0 c1 c2 c3 c4 c6 a5 hA hS1 hS2
  go_loopg [9] db.length (fun g iq wr => ∃ (i : Nat) (l' : Bs), g = db.length - i ∧ i ≤ db.length ∧ iq = .int .i64 i ∧ l'.length = db.length ∧ Sat w0 wr (bsl (.slice a1 db.length k1) l' :: MedRep m (M.append name db).1 :: F))
  case atStart => exact ⟨0, db, rfl, Nat.zero_le _, rfl, rfl, hS3⟩
  case round =>
    obtain ⟨i, l', rfl, hi, rfl, hl', hS⟩ := hrel
    have HS := Lib.hid hl'
    by_cases hi' : i < db.length
    · have hi2 : i < l'.length := by omega
      obtain ⟨g, he, e0, e1, hS5⟩ := bsl_set hS hi2 (l'[i]'hi2 + 1)
      cases he
      have hw8 := wrap_u8 (l'[i]'hi2)
      have hic : (i : Int) < (db.length : Int) := by omega
      have hbl2 := Hbl.out
      have hwi : IntKind.i64.wrap ((i : Int) + 1) = (i : Int) + 1 := IntWalk.i64_in _ (by omega)
      clear hl' hbl2
      generalize l'[i]'hi2 = x at *
      go_wp2_with fail
      go_roundg (db.length - (i + 1))
      case measure => omega
      case rel => exact ⟨i + 1, _, rfl, Nat.succ_le_of_lt hi', by first | rfl | go_num, by rw [List.length_set]; exact HS.out, hS5⟩
    · obtain rfl : i = db.length := by omega
      have hic : ¬ (db.length : Int) < (db.length : Int) := by omega
      clear hl'
      go_wp2
      go_ret3
      exact ⟨_, rfl, .slice none 0 0, rfl, ⟨_, _, _, rfl⟩, Sat.osl_nil.2 hS.drop⟩
end
end Go.Proofs.Ytmjldaedhmipkaa
/- hoardlaw06.told: a call as the document tells it, by its kind (printed by gentold.py). -/
namespace Go.Proofs.Ytmjldaedhmipkaa
open Go Go.Sl Go.Med Go.MapKept Go.RowKit
set_option linter.unusedVariables false
section
variable {w0 w : World} {F : List HProp} {p : Nat} {D : Med} {dbv dlv : Value} {K : Nat} {db : Bs} {dl : List Int}
/-- What told answers. -/
def Told (w0 : World) (F : List HProp) (p : Nat) (r : Med × Bs × Int × Bool) (v : Value) (w' : World) : Prop :=
  ∃ ov, v = .tuple #[ov, errno r.2.2.1, .bool r.2.2.2] ∧ (∃ a n c, ov = .slice a n c) ∧ Sat w0 w' (bsl ov r.2.1 :: DskRep p r.1 :: F)
set_option maxRecDepth 20000 in
set_option maxHeartbeats 2000000 in
theorem told_create (ok : D.Ok K) (hK : K ≤ 1048500) (hsm : D.Small) (hfl : D.files.length ≤ 1048576) (h : Sat w0 w (DskRep p D :: F)) (name to : ByteArray) (hn : name.size ≤ 30) (ht : to.size ≤ 30) (n m : Int) (hni : inI n) (hmi : inI m) (hb : Ro w0 F (rdsl 1 dbv (bys db))) (hbl : db.length ≤ 100) (hl : Ro w0 F (rdsl 1 dlv (ints dl))) :
    Calls Try.prog 8 #[ptr p, .agg #[.int .i64 0, .string name, .string to, .int .i64 n, .int .i64 m, dbv, dlv]] w (Rtn (Told w0 F p ((D.create name).1, [], (D.create name).2, false))) := by
  obtain ⟨ba, bn, bc, rfl, _⟩ := id (hb _ h.drop)
  obtain ⟨la, ln, lc, rfl, _⟩ := id (hl _ h.drop)
  have Ok := Lib.hid ok; have HK := Lib.hid hK; have Hsm := Lib.hid hsm; have Hfl := Lib.hid hfl; have Hn := Lib.hid hn; have Ht := Lib.hid ht; have Hni := Lib.hid hni; have Hmi := Lib.hid hmi; have Hb := Lib.hid hb; have Hbl := Lib.hid hbl; have Hl := Lib.hid hl
  clear ok hK hsm hfl hn ht hni hmi hb hbl hl
  go_enter Try.func8, Try.ntmps8
  go_wp2_with (first | ((with_reducible apply at_box); refine ⟨?_⟩; refine wl_box (by assumption) (by conv => lhs; whnf) (by conv => lhs; whnf) ?_; intro bB wB hB) | ((with_reducible apply at_load); refine ⟨?_⟩; refine wl_load1 (by assumption) (by rfl) (by first | ((repeat (first | with_reducible apply pick0 | with_reducible apply pick_there)); done) | ((repeat (first | apply pick0 | apply pick_there)); done) | fail) (Nat.le_of_ble_eq_true (by rfl)) (by conv => lhs; whnf) (by kernel_rfl) ?_))
  have hS1 := hB.sub (sub_take pick1 (sub_take pick0 sub_refl))
  refine (rcreate_c name (Nat.le_trans Hn.out (by decide)) (Nat.le_trans Ok.out.nowOk.len (by decide)) (Nat.le_trans Ok.out.budget (Nat.le_trans HK.out (by decide))) Hfl.out Ok.out.left hS1).mono ?_
  rintro ee w2 ⟨v, rfl, rfl, hS2⟩
  go_wp2
  go_ret3
  exact ⟨_, rfl, .slice none 0 0, rfl, ⟨_, _, _, rfl⟩, Sat.osl_nil.2 (hS2.sub (sub_take pick0 (sub_drop sub_refl)))⟩
set_option maxRecDepth 20000 in
set_option maxHeartbeats 2000000 in
theorem told_append (ok : D.Ok K) (hK : K ≤ 1048500) (hsm : D.Small) (hfl : D.files.length ≤ 1048576) (h : Sat w0 w (DskRep p D :: F)) (name to : ByteArray) (hn : name.size ≤ 30) (ht : to.size ≤ 30) (n m : Int) (hni : inI n) (hmi : inI m) (hb : Ro w0 F (rdsl 1 dbv (bys db))) (hbl : db.length ≤ 100) (hl : Ro w0 F (rdsl 1 dlv (ints dl))) :
    Calls Try.prog 8 #[ptr p, .agg #[.int .i64 1, .string name, .string to, .int .i64 n, .int .i64 m, dbv, dlv]] w (Rtn (Told w0 F p ((D.append name db).1, [], (D.append name db).2, false))) := by
  obtain ⟨ba, bn, bc, rfl, _⟩ := id (hb _ h.drop)
  obtain ⟨la, ln, lc, rfl, _⟩ := id (hl _ h.drop)
  have Ok := Lib.hid ok; have HK := Lib.hid hK; have Hsm := Lib.hid hsm; have Hfl := Lib.hid hfl; have Hn := Lib.hid hn; have Ht := Lib.hid ht; have Hni := Lib.hid hni; have Hmi := Lib.hid hmi; have Hb := Lib.hid hb; have Hbl := Lib.hid hbl; have Hl := Lib.hid hl
  clear ok hK hsm hfl hn ht hni hmi hb hbl hl
  go_enter Try.func8, Try.ntmps8
  go_wp2_with (first | ((with_reducible apply at_box); refine ⟨?_⟩; refine wl_box (by assumption) (by conv => lhs; whnf) (by conv => lhs; whnf) ?_; intro bB wB hB) | ((with_reducible apply at_load); refine ⟨?_⟩; refine wl_load1 (by assumption) (by rfl) (by first | ((repeat (first | with_reducible apply pick0 | with_reducible apply pick_there)); done) | ((repeat (first | apply pick0 | apply pick_there)); done) | fail) (Nat.le_of_ble_eq_true (by rfl)) (by conv => lhs; whnf) (by kernel_rfl) ?_))
  have hS1 := hB.sub (sub_take pick1 (sub_take pick0 sub_refl))
  refine (rappend_c name db Hb.out.cons (Nat.le_trans Hbl.out (by decide)) Ok.out (Nat.le_trans HK.out (by decide)) (Nat.le_trans Ok.out.used_le (by decide)) hS1).mono ?_
  rintro ee w2 ⟨v, rfl, rfl, hS2⟩
  go_wp2
  go_ret3
  exact ⟨_, rfl, .slice none 0 0, rfl, ⟨_, _, _, rfl⟩, Sat.osl_nil.2 (hS2.sub (sub_take pick0 (sub_drop sub_refl)))⟩
set_option maxRecDepth 20000 in
set_option maxHeartbeats 2000000 in
theorem told_truncate (ok : D.Ok K) (hK : K ≤ 1048500) (hsm : D.Small) (hfl : D.files.length ≤ 1048576) (h : Sat w0 w (DskRep p D :: F)) (name to : ByteArray) (hn : name.size ≤ 30) (ht : to.size ≤ 30) (n m : Int) (hni : inI n) (hmi : inI m) (hb : Ro w0 F (rdsl 1 dbv (bys db))) (hbl : db.length ≤ 100) (hl : Ro w0 F (rdsl 1 dlv (ints dl))) :
    Calls Try.prog 8 #[ptr p, .agg #[.int .i64 2, .string name, .string to, .int .i64 n, .int .i64 m, dbv, dlv]] w (Rtn (Told w0 F p ((D.truncate name n).1, [], (D.truncate name n).2, false))) := by
  obtain ⟨ba, bn, bc, rfl, _⟩ := id (hb _ h.drop)
  obtain ⟨la, ln, lc, rfl, _⟩ := id (hl _ h.drop)
  have Ok := Lib.hid ok; have HK := Lib.hid hK; have Hsm := Lib.hid hsm; have Hfl := Lib.hid hfl; have Hn := Lib.hid hn; have Ht := Lib.hid ht; have Hni := Lib.hid hni; have Hmi := Lib.hid hmi; have Hb := Lib.hid hb; have Hbl := Lib.hid hbl; have Hl := Lib.hid hl
  clear ok hK hsm hfl hn ht hni hmi hb hbl hl
  go_enter Try.func8, Try.ntmps8
  go_wp2_with (first | ((with_reducible apply at_box); refine ⟨?_⟩; refine wl_box (by assumption) (by conv => lhs; whnf) (by conv => lhs; whnf) ?_; intro bB wB hB) | ((with_reducible apply at_load); refine ⟨?_⟩; refine wl_load1 (by assumption) (by rfl) (by first | ((repeat (first | with_reducible apply pick0 | with_reducible apply pick_there)); done) | ((repeat (first | apply pick0 | apply pick_there)); done) | fail) (Nat.le_of_ble_eq_true (by rfl)) (by conv => lhs; whnf) (by kernel_rfl) ?_))
  have hS1 := hB.sub (sub_take pick1 (sub_take pick0 sub_refl))
  refine (rtrunc_c name n Hni.out Ok.out (Nat.le_trans HK.out (by decide)) hS1).mono ?_
  rintro ee w2 ⟨v, rfl, rfl, hS2⟩
  go_wp2
  go_ret3
  exact ⟨_, rfl, .slice none 0 0, rfl, ⟨_, _, _, rfl⟩, Sat.osl_nil.2 (hS2.sub (sub_take pick0 (sub_drop sub_refl)))⟩
set_option maxRecDepth 20000 in
set_option maxHeartbeats 2000000 in
theorem told_rename (ok : D.Ok K) (hK : K ≤ 1048500) (hsm : D.Small) (hfl : D.files.length ≤ 1048576) (h : Sat w0 w (DskRep p D :: F)) (name to : ByteArray) (hn : name.size ≤ 30) (ht : to.size ≤ 30) (n m : Int) (hni : inI n) (hmi : inI m) (hb : Ro w0 F (rdsl 1 dbv (bys db))) (hbl : db.length ≤ 100) (hl : Ro w0 F (rdsl 1 dlv (ints dl))) :
    Calls Try.prog 8 #[ptr p, .agg #[.int .i64 3, .string name, .string to, .int .i64 n, .int .i64 m, dbv, dlv]] w (Rtn (Told w0 F p ((D.rmove name to false).1, [], (D.rmove name to false).2, false))) := by
  obtain ⟨ba, bn, bc, rfl, _⟩ := id (hb _ h.drop)
  obtain ⟨la, ln, lc, rfl, _⟩ := id (hl _ h.drop)
  have Ok := Lib.hid ok; have HK := Lib.hid hK; have Hsm := Lib.hid hsm; have Hfl := Lib.hid hfl; have Hn := Lib.hid hn; have Ht := Lib.hid ht; have Hni := Lib.hid hni; have Hmi := Lib.hid hmi; have Hb := Lib.hid hb; have Hbl := Lib.hid hbl; have Hl := Lib.hid hl
  clear ok hK hsm hfl hn ht hni hmi hb hbl hl
  go_enter Try.func8, Try.ntmps8
  go_wp2_with (first | ((with_reducible apply at_box); refine ⟨?_⟩; refine wl_box (by assumption) (by conv => lhs; whnf) (by conv => lhs; whnf) ?_; intro bB wB hB) | ((with_reducible apply at_load); refine ⟨?_⟩; refine wl_load1 (by assumption) (by rfl) (by first | ((repeat (first | with_reducible apply pick0 | with_reducible apply pick_there)); done) | ((repeat (first | apply pick0 | apply pick_there)); done) | fail) (Nat.le_of_ble_eq_true (by rfl)) (by conv => lhs; whnf) (by kernel_rfl) ?_))
  have hS1 := hB.sub (sub_take pick1 (sub_take pick0 sub_refl))
  refine (rmove_c name to false (Nat.le_trans Ht.out (by decide)) (Nat.le_trans Ok.out.nowOk.len (by decide)) (Nat.le_trans Ok.out.budget (Nat.le_trans HK.out (by decide))) Ok.out.left hS1).mono ?_
  rintro ee w2 ⟨v, rfl, rfl, hS2⟩
  go_wp2
  go_ret3
  exact ⟨_, rfl, .slice none 0 0, rfl, ⟨_, _, _, rfl⟩, Sat.osl_nil.2 (hS2.sub (sub_take pick0 (sub_drop sub_refl)))⟩
set_option maxRecDepth 20000 in
set_option maxHeartbeats 2000000 in
theorem told_remove (ok : D.Ok K) (hK : K ≤ 1048500) (hsm : D.Small) (hfl : D.files.length ≤ 1048576) (h : Sat w0 w (DskRep p D :: F)) (name to : ByteArray) (hn : name.size ≤ 30) (ht : to.size ≤ 30) (n m : Int) (hni : inI n) (hmi : inI m) (hb : Ro w0 F (rdsl 1 dbv (bys db))) (hbl : db.length ≤ 100) (hl : Ro w0 F (rdsl 1 dlv (ints dl))) :
    Calls Try.prog 8 #[ptr p, .agg #[.int .i64 4, .string name, .string to, .int .i64 n, .int .i64 m, dbv, dlv]] w (Rtn (Told w0 F p ((D.rmove name ByteArray.empty true).1, [], (D.rmove name ByteArray.empty true).2, false))) := by
  obtain ⟨ba, bn, bc, rfl, _⟩ := id (hb _ h.drop)
  obtain ⟨la, ln, lc, rfl, _⟩ := id (hl _ h.drop)
  have Ok := Lib.hid ok; have HK := Lib.hid hK; have Hsm := Lib.hid hsm; have Hfl := Lib.hid hfl; have Hn := Lib.hid hn; have Ht := Lib.hid ht; have Hni := Lib.hid hni; have Hmi := Lib.hid hmi; have Hb := Lib.hid hb; have Hbl := Lib.hid hbl; have Hl := Lib.hid hl
  clear ok hK hsm hfl hn ht hni hmi hb hbl hl
  go_enter Try.func8, Try.ntmps8
  go_wp2_with (first | ((with_reducible apply at_box); refine ⟨?_⟩; refine wl_box (by assumption) (by conv => lhs; whnf) (by conv => lhs; whnf) ?_; intro bB wB hB) | ((with_reducible apply at_load); refine ⟨?_⟩; refine wl_load1 (by assumption) (by rfl) (by first | ((repeat (first | with_reducible apply pick0 | with_reducible apply pick_there)); done) | ((repeat (first | apply pick0 | apply pick_there)); done) | fail) (Nat.le_of_ble_eq_true (by rfl)) (by conv => lhs; whnf) (by kernel_rfl) ?_))
  have hS1 := hB.sub (sub_take pick1 (sub_take pick0 sub_refl))
  refine (rmove_c name ByteArray.empty true (by decide) (Nat.le_trans Ok.out.nowOk.len (by decide)) (Nat.le_trans Ok.out.budget (Nat.le_trans HK.out (by decide))) Ok.out.left hS1).mono ?_
  rintro ee w2 ⟨v, rfl, rfl, hS2⟩
  go_wp2
  go_ret3
  exact ⟨_, rfl, .slice none 0 0, rfl, ⟨_, _, _, rfl⟩, Sat.osl_nil.2 (hS2.sub (sub_take pick0 (sub_drop sub_refl)))⟩
set_option maxRecDepth 20000 in
set_option maxHeartbeats 2000000 in
theorem told_sync (ok : D.Ok K) (hK : K ≤ 1048500) (hsm : D.Small) (hfl : D.files.length ≤ 1048576) (h : Sat w0 w (DskRep p D :: F)) (name to : ByteArray) (hn : name.size ≤ 30) (ht : to.size ≤ 30) (n m : Int) (hni : inI n) (hmi : inI m) (hb : Ro w0 F (rdsl 1 dbv (bys db))) (hbl : db.length ≤ 100) (hl : Ro w0 F (rdsl 1 dlv (ints dl))) :
    Calls Try.prog 8 #[ptr p, .agg #[.int .i64 5, .string name, .string to, .int .i64 n, .int .i64 m, dbv, dlv]] w (Rtn (Told w0 F p ((D.sync name).1, [], (D.sync name).2, false))) := by
  obtain ⟨ba, bn, bc, rfl, _⟩ := id (hb _ h.drop)
  obtain ⟨la, ln, lc, rfl, _⟩ := id (hl _ h.drop)
  have Ok := Lib.hid ok; have HK := Lib.hid hK; have Hsm := Lib.hid hsm; have Hfl := Lib.hid hfl; have Hn := Lib.hid hn; have Ht := Lib.hid ht; have Hni := Lib.hid hni; have Hmi := Lib.hid hmi; have Hb := Lib.hid hb; have Hbl := Lib.hid hbl; have Hl := Lib.hid hl
  clear ok hK hsm hfl hn ht hni hmi hb hbl hl
  go_enter Try.func8, Try.ntmps8
  go_wp2_with (first | ((with_reducible apply at_box); refine ⟨?_⟩; refine wl_box (by assumption) (by conv => lhs; whnf) (by conv => lhs; whnf) ?_; intro bB wB hB) | ((with_reducible apply at_load); refine ⟨?_⟩; refine wl_load1 (by assumption) (by rfl) (by first | ((repeat (first | with_reducible apply pick0 | with_reducible apply pick_there)); done) | ((repeat (first | apply pick0 | apply pick_there)); done) | fail) (Nat.le_of_ble_eq_true (by rfl)) (by conv => lhs; whnf) (by kernel_rfl) ?_))
  have hS1 := hB.sub (sub_take pick1 (sub_take pick0 sub_refl))
  refine (rsync_c name (Nat.le_trans Ok.out.nowOk.len (by decide)) Ok.out.left (fun i hi => ⟨Ok.out.nowOk.ids _ (nget_mem hi), Nat.le_trans (Ok.out.file i).now_len (by decide)⟩) hS1).mono ?_
  rintro ee w2 ⟨v, rfl, rfl, hS2⟩
  go_wp2
  go_ret3
  exact ⟨_, rfl, .slice none 0 0, rfl, ⟨_, _, _, rfl⟩, Sat.osl_nil.2 (hS2.sub (sub_take pick0 (sub_drop sub_refl)))⟩
set_option maxRecDepth 20000 in
set_option maxHeartbeats 2000000 in
theorem told_syncDir (ok : D.Ok K) (hK : K ≤ 1048500) (hsm : D.Small) (hfl : D.files.length ≤ 1048576) (h : Sat w0 w (DskRep p D :: F)) (name to : ByteArray) (hn : name.size ≤ 30) (ht : to.size ≤ 30) (n m : Int) (hni : inI n) (hmi : inI m) (hb : Ro w0 F (rdsl 1 dbv (bys db))) (hbl : db.length ≤ 100) (hl : Ro w0 F (rdsl 1 dlv (ints dl))) :
    Calls Try.prog 8 #[ptr p, .agg #[.int .i64 6, .string name, .string to, .int .i64 n, .int .i64 m, dbv, dlv]] w (Rtn (Told w0 F p (D.syncDir.1, [], D.syncDir.2, false))) := by
  obtain ⟨ba, bn, bc, rfl, _⟩ := id (hb _ h.drop)
  obtain ⟨la, ln, lc, rfl, _⟩ := id (hl _ h.drop)
  have Ok := Lib.hid ok; have HK := Lib.hid hK; have Hsm := Lib.hid hsm; have Hfl := Lib.hid hfl; have Hn := Lib.hid hn; have Ht := Lib.hid ht; have Hni := Lib.hid hni; have Hmi := Lib.hid hmi; have Hb := Lib.hid hb; have Hbl := Lib.hid hbl; have Hl := Lib.hid hl
  clear ok hK hsm hfl hn ht hni hmi hb hbl hl
  go_enter Try.func8, Try.ntmps8
  go_wp2_with (first | ((with_reducible apply at_box); refine ⟨?_⟩; refine wl_box (by assumption) (by conv => lhs; whnf) (by conv => lhs; whnf) ?_; intro bB wB hB) | ((with_reducible apply at_load); refine ⟨?_⟩; refine wl_load1 (by assumption) (by rfl) (by first | ((repeat (first | with_reducible apply pick0 | with_reducible apply pick_there)); done) | ((repeat (first | apply pick0 | apply pick_there)); done) | fail) (Nat.le_of_ble_eq_true (by rfl)) (by conv => lhs; whnf) (by kernel_rfl) ?_))
  have hS1 := hB.sub (sub_take pick1 (sub_take pick0 sub_refl))
  refine (rsyncd_c ByteArray.empty (Nat.le_trans Ok.out.nowOk.len (by decide)) Ok.out.left hS1).mono ?_
  rintro ee w2 ⟨v, rfl, rfl, hS2⟩
  go_wp2
  go_ret3
  exact ⟨_, rfl, .slice none 0 0, rfl, ⟨_, _, _, rfl⟩, Sat.osl_nil.2 (hS2.sub (sub_take pick0 (sub_drop sub_refl)))⟩
set_option maxRecDepth 20000 in
set_option maxHeartbeats 2000000 in
theorem told_arm (ok : D.Ok K) (hK : K ≤ 1048500) (hsm : D.Small) (hfl : D.files.length ≤ 1048576) (h : Sat w0 w (DskRep p D :: F)) (name to : ByteArray) (hn : name.size ≤ 30) (ht : to.size ≤ 30) (n m : Int) (hni : inI n) (hmi : inI m) (hb : Ro w0 F (rdsl 1 dbv (bys db))) (hbl : db.length ≤ 100) (hl : Ro w0 F (rdsl 1 dlv (ints dl))) :
    Calls Try.prog 8 #[ptr p, .agg #[.int .i64 7, .string name, .string to, .int .i64 n, .int .i64 m, dbv, dlv]] w (Rtn (Told w0 F p ((D.arm n).1, [], (D.arm n).2, false))) := by
  obtain ⟨ba, bn, bc, rfl, _⟩ := id (hb _ h.drop)
  obtain ⟨la, ln, lc, rfl, _⟩ := id (hl _ h.drop)
  have Ok := Lib.hid ok; have HK := Lib.hid hK; have Hsm := Lib.hid hsm; have Hfl := Lib.hid hfl; have Hn := Lib.hid hn; have Ht := Lib.hid ht; have Hni := Lib.hid hni; have Hmi := Lib.hid hmi; have Hb := Lib.hid hb; have Hbl := Lib.hid hbl; have Hl := Lib.hid hl
  clear ok hK hsm hfl hn ht hni hmi hb hbl hl
  go_enter Try.func8, Try.ntmps8
  go_wp2_with (first | ((with_reducible apply at_box); refine ⟨?_⟩; refine wl_box (by assumption) (by conv => lhs; whnf) (by conv => lhs; whnf) ?_; intro bB wB hB) | ((with_reducible apply at_load); refine ⟨?_⟩; refine wl_load1 (by assumption) (by rfl) (by first | ((repeat (first | with_reducible apply pick0 | with_reducible apply pick_there)); done) | ((repeat (first | apply pick0 | apply pick_there)); done) | fail) (Nat.le_of_ble_eq_true (by rfl)) (by conv => lhs; whnf) (by kernel_rfl) ?_))
  have hS1 := hB.sub (sub_take pick1 (sub_take pick0 sub_refl))
  refine (rarm_c n hS1).mono ?_
  rintro ee w2 ⟨v, rfl, rfl, hS2⟩
  go_wp2
  go_ret3
  exact ⟨_, rfl, .slice none 0 0, rfl, ⟨_, _, _, rfl⟩, Sat.osl_nil.2 (hS2.sub (sub_take pick0 (sub_drop sub_refl)))⟩
set_option maxRecDepth 20000 in
set_option maxHeartbeats 2000000 in
theorem told_crash (ok : D.Ok K) (hK : K ≤ 1048500) (hsm : D.Small) (hfl : D.files.length ≤ 1048576) (h : Sat w0 w (DskRep p D :: F)) (name to : ByteArray) (hn : name.size ≤ 30) (ht : to.size ≤ 30) (n m : Int) (hni : inI n) (hmi : inI m) (hb : Ro w0 F (rdsl 1 dbv (bys db))) (hbl : db.length ≤ 100) (hl : Ro w0 F (rdsl 1 dlv (ints dl))) :
    Calls Try.prog 8 #[ptr p, .agg #[.int .i64 8, .string name, .string to, .int .i64 n, .int .i64 m, dbv, dlv]] w (Rtn (Told w0 F p (D.rcrash dl, [], 0, false))) := by
  obtain ⟨ba, bn, bc, rfl, _⟩ := id (hb _ h.drop)
  obtain ⟨la, ln, lc, rfl, _⟩ := id (hl _ h.drop)
  have Ok := Lib.hid ok; have HK := Lib.hid hK; have Hsm := Lib.hid hsm; have Hfl := Lib.hid hfl; have Hn := Lib.hid hn; have Ht := Lib.hid ht; have Hni := Lib.hid hni; have Hmi := Lib.hid hmi; have Hb := Lib.hid hb; have Hbl := Lib.hid hbl; have Hl := Lib.hid hl
  clear ok hK hsm hfl hn ht hni hmi hb hbl hl
  go_enter Try.func8, Try.ntmps8
  go_wp2_with (first | ((with_reducible apply at_box); refine ⟨?_⟩; refine wl_box (by assumption) (by conv => lhs; whnf) (by conv => lhs; whnf) ?_; intro bB wB hB) | ((with_reducible apply at_load); refine ⟨?_⟩; refine wl_load1 (by assumption) (by rfl) (by first | ((repeat (first | with_reducible apply pick0 | with_reducible apply pick_there)); done) | ((repeat (first | apply pick0 | apply pick_there)); done) | fail) (Nat.le_of_ble_eq_true (by rfl)) (by conv => lhs; whnf) (by kernel_rfl) ?_))
  have hS1 := hB.sub (sub_take pick1 (sub_take pick0 sub_refl))
  refine (rcrash_c dl Hl.out.cons Ok.out (Nat.le_trans HK.out (by decide)) hS1).mono ?_
  rintro ee w2 ⟨v, rfl, hS2⟩
  go_wp2
  go_ret3
  exact ⟨_, rfl, .slice none 0 0, rfl, ⟨_, _, _, rfl⟩, Sat.osl_nil.2 (hS2.sub (sub_take pick0 (sub_drop sub_refl)))⟩
set_option maxRecDepth 20000 in
set_option maxHeartbeats 2000000 in
theorem told_setRoom (ok : D.Ok K) (hK : K ≤ 1048500) (hsm : D.Small) (hfl : D.files.length ≤ 1048576) (h : Sat w0 w (DskRep p D :: F)) (name to : ByteArray) (hn : name.size ≤ 30) (ht : to.size ≤ 30) (n m : Int) (hni : inI n) (hmi : inI m) (hb : Ro w0 F (rdsl 1 dbv (bys db))) (hbl : db.length ≤ 100) (hl : Ro w0 F (rdsl 1 dlv (ints dl))) :
    Calls Try.prog 8 #[ptr p, .agg #[.int .i64 9, .string name, .string to, .int .i64 n, .int .i64 m, dbv, dlv]] w (Rtn (Told w0 F p ((D.setRoom n).1, [], (D.setRoom n).2, false))) := by
  obtain ⟨ba, bn, bc, rfl, _⟩ := id (hb _ h.drop)
  obtain ⟨la, ln, lc, rfl, _⟩ := id (hl _ h.drop)
  have Ok := Lib.hid ok; have HK := Lib.hid hK; have Hsm := Lib.hid hsm; have Hfl := Lib.hid hfl; have Hn := Lib.hid hn; have Ht := Lib.hid ht; have Hni := Lib.hid hni; have Hmi := Lib.hid hmi; have Hb := Lib.hid hb; have Hbl := Lib.hid hbl; have Hl := Lib.hid hl
  clear ok hK hsm hfl hn ht hni hmi hb hbl hl
  go_enter Try.func8, Try.ntmps8
  go_wp2_with (first | ((with_reducible apply at_box); refine ⟨?_⟩; refine wl_box (by assumption) (by conv => lhs; whnf) (by conv => lhs; whnf) ?_; intro bB wB hB) | ((with_reducible apply at_load); refine ⟨?_⟩; refine wl_load1 (by assumption) (by rfl) (by first | ((repeat (first | with_reducible apply pick0 | with_reducible apply pick_there)); done) | ((repeat (first | apply pick0 | apply pick_there)); done) | fail) (Nat.le_of_ble_eq_true (by rfl)) (by conv => lhs; whnf) (by kernel_rfl) ?_))
  have hS1 := hB.sub (sub_take pick1 (sub_take pick0 sub_refl))
  refine (rsetroom_c n hS1).mono ?_
  rintro ee w2 ⟨v, rfl, rfl, hS2⟩
  go_wp2
  go_ret3
  exact ⟨_, rfl, .slice none 0 0, rfl, ⟨_, _, _, rfl⟩, Sat.osl_nil.2 (hS2.sub (sub_take pick0 (sub_drop sub_refl)))⟩
set_option maxRecDepth 20000 in
set_option maxHeartbeats 2000000 in
theorem told_rot (ok : D.Ok K) (hK : K ≤ 1048500) (hsm : D.Small) (hfl : D.files.length ≤ 1048576) (h : Sat w0 w (DskRep p D :: F)) (name to : ByteArray) (hn : name.size ≤ 30) (ht : to.size ≤ 30) (n m : Int) (hni : inI n) (hmi : inI m) (hb : Ro w0 F (rdsl 1 dbv (bys db))) (hbl : db.length ≤ 100) (hl : Ro w0 F (rdsl 1 dlv (ints dl))) :
    Calls Try.prog 8 #[ptr p, .agg #[.int .i64 10, .string name, .string to, .int .i64 n, .int .i64 m, dbv, dlv]] w (Rtn (Told w0 F p ((D.rot name n (lowByte m)).1, [], 0, (D.rot name n (lowByte m)).2))) := by
  have hwb := wrap_byte m
  obtain ⟨ba, bn, bc, rfl, _⟩ := id (hb _ h.drop)
  obtain ⟨la, ln, lc, rfl, _⟩ := id (hl _ h.drop)
  have Ok := Lib.hid ok; have HK := Lib.hid hK; have Hsm := Lib.hid hsm; have Hfl := Lib.hid hfl; have Hn := Lib.hid hn; have Ht := Lib.hid ht; have Hni := Lib.hid hni; have Hmi := Lib.hid hmi; have Hb := Lib.hid hb; have Hbl := Lib.hid hbl; have Hl := Lib.hid hl
  clear ok hK hsm hfl hn ht hni hmi hb hbl hl
  go_enter Try.func8, Try.ntmps8
  go_wp2_with (first | ((with_reducible apply at_box); refine ⟨?_⟩; refine wl_box (by assumption) (by conv => lhs; whnf) (by conv => lhs; whnf) ?_; intro bB wB hB) | ((with_reducible apply at_load); refine ⟨?_⟩; refine wl_load1 (by assumption) (by rfl) (by first | ((repeat (first | with_reducible apply pick0 | with_reducible apply pick_there)); done) | ((repeat (first | apply pick0 | apply pick_there)); done) | fail) (Nat.le_of_ble_eq_true (by rfl)) (by conv => lhs; whnf) (by kernel_rfl) ?_))
  have hS1 := hB.sub (sub_take pick1 (sub_take pick0 sub_refl))
  refine (rrot_c name n Hni.out (lowByte m) Ok.out (Nat.le_trans HK.out (by decide)) Hsm.out hS1).mono ?_
  rintro ee w2 ⟨v, rfl, rfl, hS2⟩
  go_wp2
  go_ret3
  exact ⟨_, rfl, .slice none 0 0, rfl, ⟨_, _, _, rfl⟩, Sat.osl_nil.2 (hS2.sub (sub_take pick0 (sub_drop sub_refl)))⟩
set_option maxRecDepth 20000 in
set_option maxHeartbeats 2000000 in
theorem told_read (ok : D.Ok K) (hK : K ≤ 1048500) (hsm : D.Small) (hfl : D.files.length ≤ 1048576) (h : Sat w0 w (DskRep p D :: F)) (name to : ByteArray) (hn : name.size ≤ 30) (ht : to.size ≤ 30) (n m : Int) (hni : inI n) (hmi : inI m) (hb : Ro w0 F (rdsl 1 dbv (bys db))) (hbl : db.length ≤ 100) (hl : Ro w0 F (rdsl 1 dlv (ints dl))) (kind : Int) (hd : kind ≠ 0 ∧ kind ≠ 1 ∧ kind ≠ 2 ∧ kind ≠ 3 ∧ kind ≠ 4 ∧ kind ≠ 5 ∧ kind ≠ 6 ∧ kind ≠ 7 ∧ kind ≠ 8 ∧ kind ≠ 9 ∧ kind ≠ 10) :
    Calls Try.prog 8 #[ptr p, .agg #[.int .i64 kind, .string name, .string to, .int .i64 n, .int .i64 m, dbv, dlv]] w (Rtn (Told w0 F p (D, (D.read name n m).1, (D.read name n m).2, false))) := by
  obtain ⟨k0, k1, k2, k3, k4, k5, k6, k7, k8, k9, k10⟩ := hd
  obtain ⟨ba, bn, bc, rfl, _⟩ := id (hb _ h.drop)
  obtain ⟨la, ln, lc, rfl, _⟩ := id (hl _ h.drop)
  have Ok := Lib.hid ok; have HK := Lib.hid hK; have Hsm := Lib.hid hsm; have Hfl := Lib.hid hfl; have Hn := Lib.hid hn; have Ht := Lib.hid ht; have Hni := Lib.hid hni; have Hmi := Lib.hid hmi; have Hb := Lib.hid hb; have Hbl := Lib.hid hbl; have Hl := Lib.hid hl
  clear ok hK hsm hfl hn ht hni hmi hb hbl hl
  go_enter Try.func8, Try.ntmps8
  go_wp2_with (first | ((with_reducible apply at_box); refine ⟨?_⟩; refine wl_box (by assumption) (by conv => lhs; whnf) (by conv => lhs; whnf) ?_; intro bB wB hB) | ((with_reducible apply at_load); refine ⟨?_⟩; refine wl_load1 (by assumption) (by rfl) (by first | ((repeat (first | with_reducible apply pick0 | with_reducible apply pick_there)); done) | ((repeat (first | apply pick0 | apply pick_there)); done) | fail) (Nat.le_of_ble_eq_true (by rfl)) (by conv => lhs; whnf) (by kernel_rfl) ?_))
  have hS1 := hB.sub (sub_take pick1 (sub_take pick0 sub_refl))
  refine (rread_c name n m Hni.out Hmi.out (Nat.le_trans Ok.out.nowOk.len (by decide)) (fun i hi => ⟨Ok.out.nowOk.ids _ (nget_mem hi), Nat.le_trans (Ok.out.file i).now_len (by decide)⟩) hS1).mono ?_
  rintro ee w2 ⟨v, rfl, rv, rfl, hS2⟩
  go_wp2
  have hsh := bsl_shape hS2
  go_ret3
  exact ⟨_, rfl, rv, rfl, hsh, hS2.sub (sub_take pick0 (sub_take pick0 (sub_drop sub_refl)))⟩
theorem told_c (ok : D.Ok K) (hK : K ≤ 1048500) (hsm : D.Small) (hfl : D.files.length ≤ 1048576) (h : Sat w0 w (DskRep p D :: F)) (d : Go.Proofs.Ytmjldaedhmipkaa.D) (fit : d.Fit w0 F) (hb : Ro w0 F (rdsl 1 d.bv (bys d.b))) :
    Calls Try.prog 8 #[ptr p, .agg (dCells d).toArray] w (Rtn (Told w0 F p (D.told d.cal))) := by
  obtain ⟨kind, name, to, n, k, dbv, db, dlv, dl⟩ := d
  obtain ⟨f1, f2, f3, f4, f5, f6, f7, f8⟩ := fit
  simp only at f1 f2 f3 f4 f5 f6 f7 f8 hb
  refine Med.told_ind (P := fun r => Calls Try.prog 8 #[ptr p, .agg #[.int .i64 kind, .string name, .string to, .int .i64 n, .int .i64 k, dbv, dlv]] w (Rtn (Told w0 F p r))) ?_ ?_ ?_ ?_ ?_ ?_ ?_ ?_ ?_ ?_ ?_ ?_
  · intro hk; obtain rfl : kind = 0 := hk; exact told_create ok hK hsm hfl h name to f1 f2 n k f3 f4 hb f5 f6
  · intro hk; obtain rfl : kind = 1 := hk; exact told_append ok hK hsm hfl h name to f1 f2 n k f3 f4 hb f5 f6
  · intro hk; obtain rfl : kind = 2 := hk; exact told_truncate ok hK hsm hfl h name to f1 f2 n k f3 f4 hb f5 f6
  · intro hk; obtain rfl : kind = 3 := hk; exact told_rename ok hK hsm hfl h name to f1 f2 n k f3 f4 hb f5 f6
  · intro hk; obtain rfl : kind = 4 := hk; exact told_remove ok hK hsm hfl h name to f1 f2 n k f3 f4 hb f5 f6
  · intro hk; obtain rfl : kind = 5 := hk; exact told_sync ok hK hsm hfl h name to f1 f2 n k f3 f4 hb f5 f6
  · intro hk; obtain rfl : kind = 6 := hk; exact told_syncDir ok hK hsm hfl h name to f1 f2 n k f3 f4 hb f5 f6
  · intro hk; obtain rfl : kind = 7 := hk; exact told_arm ok hK hsm hfl h name to f1 f2 n k f3 f4 hb f5 f6
  · intro hk; obtain rfl : kind = 8 := hk; exact told_crash ok hK hsm hfl h name to f1 f2 n k f3 f4 hb f5 f6
  · intro hk; obtain rfl : kind = 9 := hk; exact told_setRoom ok hK hsm hfl h name to f1 f2 n k f3 f4 hb f5 f6
  · intro hk; obtain rfl : kind = 10 := hk; exact told_rot ok hK hsm hfl h name to f1 f2 n k f3 f4 hb f5 f6
  · intro hk; exact told_read ok hK hsm hfl h name to f1 f2 n k f3 f4 hb f5 f6 kind hk
end
end Go.Proofs.Ytmjldaedhmipkaa
/- Power. -/
namespace Go.Proofs.Ytmjldaedhmipkaa
open Go Go.Sl Go.Med Go.MapKept Go.RowKit
section
variable {w0 w : World} {F : List HProp} {m fb nb b r : Nat} {M : Med} {bs : List Nat} {wv v bv : Value} {s : ByteArray} {l : Names} {fs : List Fil} {K : Nat}
@[go_sem] theorem neqMapNil (w : World) (r : Option Nat) : (binOp .neq 55 (.map r) (.map none)).run Try.prog w = .ok (.bool r.isSome) w := by
  have := run_neq_map_nil w _ _ _ r Try.underlying55
  rw [this]; cases r <;> rfl
set_option maxHeartbeats 1000000 in
theorem power_c (h : Sat w0 w (MedRep m M :: F)) :
    Calls Try.prog 42 #[ptr m] w (Rtn fun v w' => v = .bool (!M.off) ∧ w = w') := by
  obtain ⟨bs, fb, nb, wv, hl, hR⟩ := MedRep.open h
  have c2 := hR.cellAt 2 _ rfl
  have c6 := hR.cellAt 6 _ rfl
  go_enter Try.func42, Try.ntmps42
  go_wp2
  go_ret
  exact ⟨_, rfl, rfl, rfl⟩
end
end Go.Proofs.Ytmjldaedhmipkaa
/- hoardlaw06.alike: both media show the same. -/
namespace Go.Med
theorem list_at2 {M : Med} {K : Nat} (ok : M.Ok K) {i : Nat} {s : ByteArray} (h : M.list[i]? = some s) : ∃ k, nget M.now s = some k ∧ k < M.files.length ∧ M.now[i]? = some (s, k) ∧ M.all s = ((M.file k).now, 0) ∧ M.size s = (((M.file k).now.length : Int), 0) := by
  unfold Med.list at h
  cases ho : M.off with
  | true => rw [ho] at h; simp at h
  | false =>
    rw [ho, if_neg (by decide), List.getElem?_map] at h
    obtain ⟨p, hp, rfl⟩ := Option.map_eq_some_iff.1 h
    have hm : (p.1, p.2) ∈ M.now := List.mem_of_getElem? hp
    have hg := nget_of_mem ok.nowOk.srt.keys hm
    refine ⟨p.2, hg, ok.nowOk.ids _ hm, hp, ?_, ?_⟩
    · unfold Med.all; rw [ho, if_neg (by decide), hg]
    · unfold Med.size; rw [ho, if_neg (by decide), hg]
end Go.Med
namespace Go.Proofs.Ytmjldaedhmipkaa
open Go Go.Sl Go.Med Go.MapKept Go.RowKit
set_option linter.unusedVariables false
section
variable {w0 w : World} {F : List HProp} {m p : Nat} {M D : Med} {K : Nat} {φ : Nat → Nat} {L : Nat → Prop} {v : Value}
theorem used_all (M : Med) : usedOf M (M.now.take M.list.length) = M.usedTold := by
  unfold Med.list Med.usedTold
  cases M.off with
  | true => rfl
  | false => simp only [Bool.false_eq_true, if_false, List.length_map, List.take_length]; rfl
theorem strs_sl {l : List ByteArray} (h : rdsl 1 v (strs l) w) : ∃ a c, v = .slice a l.length c := by
  obtain ⟨a, n, c, rfl, hl, hx⟩ := h
  unfold strs at hl
  rw [List.length_map, Nat.mul_one] at hl
  exact ⟨a, c, by rw [hl]⟩
theorem strs_cell {l : List ByteArray} {i : Nat} {s : ByteArray} {a : Option Addr} {n c : Nat} (h : rdsl 1 (.slice a n c) (strs l) w) (hi : l[i]? = some s) : ∃ bk off, a = some ⟨bk, off, none⟩ ∧ w.cell? ⟨bk, off + i, none⟩ = some (.string s) := by
  have hx : (strs l)[i]? = some (.string s) := by unfold strs; rw [List.getElem?_map, hi]; rfl
  obtain ⟨bk, off, rfl, hc⟩ := rdsl_cells h hx
  exact ⟨bk, off, rfl, hc _ _ hx⟩
set_option maxRecDepth 20000 in
set_option maxHeartbeats 8000000 in
theorem alike_c (ok : M.Ok K) (okD : D.Ok K) (sd : Side φ L M D) (h : Sat w0 w (MedRep m M :: DskRep p D :: F)) :
    Calls Try.prog 10 #[ptr m, ptr p] w (Rtn fun v w' => v = .bool true ∧ Sat w0 w' (MedRep m M :: DskRep p D :: F)) := by
  have hl : D.now.length ≤ 1048576 := Nat.le_trans okD.nowOk.len (by decide)
  have Ok := Lib.hid ok; have OkD := Lib.hid okD; have Sd := Lib.hid sd; have Hl := Lib.hid hl
  have hlist := rlist_c hl (h.pick pick1)
  rw [sd.list] at hlist
  have hll : M.list.length ≤ 500 := by
    unfold Med.list
    split
    · exact Nat.zero_le _
    · rw [List.length_map]; exact ok.nowOk.len
  have Hua := Lib.hid (used_all M)
  have Hat := Lib.hid (fun i s => list_at2 (M := M) (K := K) ok (i := i) (s := s))
  have Hoff := Lib.hid sd.off
  have Hroom := Lib.hid sd.room
  clear ok okD sd h hl
  generalize hL : M.list = l at *
  go_enter Try.func10, Try.ntmps10
  go_wp2_with fail
  refine hlist.mono ?_
  clear hlist
  rintro ee w1 ⟨v, rfl, ov, rfl, hS1⟩
  obtain ⟨na, nc, rfl⟩ := strs_sl (Sat.rd hS1)
  obtain ⟨fsv, fv, nv, wv, xs, g, hin, hO0⟩ := DskRep.open (hS1.pick pick1)
  have hO : Sat w0 w1 (MedRep m M :: dskPt p D fsv fv nv wv :: osl 9 1 (.slice na l.length nc) (strs l) :: osl 106 3 fsv (rfsL xs) :: stars (xs.map rfR) :: bagR g :: osl 109 3 wv (D.waits.flatMap rlkL) :: F) :=
    hO0.sub (sub_take pick6 (sub_take pick0 (sub_take pick4 sub_refl)))
  have Hin := Lib.hid hin
  clear hS1 hin hO0
  go_wp2_with fail
  have hO2 := hO.drew
  clear hO
  have hml := list_c Ok.out hO2
  rw [hL] at hml
  refine wpL_begin [21, 22] (fun w' => w'.cell? ⟨p, 7, none⟩ = some (.bool M.off) ∧ w'.cell? ⟨p, 0, none⟩ = some (.int .i64 M.room)) (by kernel_rfl) ?_
  have hG : World.cell? _ ⟨p, 7, none⟩ = some (.bool M.off) ∧ World.cell? _ ⟨p, 0, none⟩ = some (.int .i64 M.room) := ⟨by rw [← Hoff.out]; exact hO2.cellP pick1 7 rfl, by rw [← Hroom.out]; exact hO2.cellP pick1 0 rfl⟩
  refine rg_pure 0 (by conv => lhs; whnf) (by kernel_rfl) (by intro _ _ _ h; exact h) (yl_move (by conv => lhs; whnf)) (by go_frame; first | done | rfl) ?_
  refine rg_pure 2 (by conv => lhs; whnf) (by kernel_rfl) (by intro _ _ _ h; exact h) (yl_move (by conv => lhs; whnf)) (by go_frame; first | done | rfl) ?_
  refine rg_eff 1 (by conv => lhs; whnf) (by kernel_rfl) (fun K hK => ?_)
  refine eff_call1 (by kernel_rfl) (by conv => lhs; whnf) ?_
  refine hml.mono ?_
  clear hml
  rintro ee w2 ⟨v, rfl, hS2, ma, mn, mc, rfl⟩
  refine hK _ _ (.inr (.inl ⟨by rw [← Hoff.out]; exact hS2.cellP pick2 7 rfl, by rw [← Hroom.out]; exact hS2.cellP pick2 0 rfl⟩)) ?_
  clear hK hG hO2
  have hsm := strSame_c (F := osl 9 1 (.slice ma mn mc) (strs l) :: MedRep m M :: dskPt p D fsv fv nv wv :: osl 9 1 (.slice na l.length nc) (strs l) :: osl 106 3 fsv (rfsL xs) :: stars (xs.map rfR) :: bagR g :: osl 109 3 wv (D.waits.flatMap rlkL) :: F) l l (fun w hw => Sat.rd hw) (fun w hw => Sat.rd (hw.pick pick3)) hS2 (by omega)
  rw [show decide (l = l) = true from decide_eq_true rfl] at hsm
  refine rg_eff 3 (by conv => lhs; whnf) (by kernel_rfl) (fun K hK => ?_)
  refine eff_call2 (by kernel_rfl) (by conv => lhs; whnf) (by conv => lhs; whnf) ?_
  refine hsm.mono ?_
  clear hsm
  rintro ee w3 ⟨v, rfl, rfl, hS3⟩
  have hG : World.cell? _ ⟨p, 7, none⟩ = some (.bool M.off) ∧ World.cell? _ ⟨p, 0, none⟩ = some (.int .i64 M.room) := ⟨by rw [← Hoff.out]; exact hS3.cellP pick2 7 rfl, by rw [← Hroom.out]; exact hS3.cellP pick2 0 rfl⟩
  refine hK _ _ (.inr (.inl hG)) ?_
  clear hK hS2
  have hpw := power_c (hS3.pick pick1)
  have hrm := room_c (hS3.pick pick1)
  have hnb : (!M.off == M.off) = false := by cases M.off <;> rfl
  generalize M.off = mo at *
  refine rg_pure 4 (by conv => lhs; whnf) (by kernel_rfl) (by intro _ _ _ h; exact h) (yl_un (by conv => lhs; whnf) (by ((intro wq; go_simp); first | done | (with_reducible rfl)))) (by go_frame; first | done | rfl) ?_
  refine rg_pure 5 (by conv => lhs; whnf) (by kernel_rfl) (by intro _ _ _ h; exact h) (yl_move (by conv => lhs; whnf)) (by go_frame; first | done | rfl) ?_
  refine rg_pure 6 (by conv => lhs; whnf) (by kernel_rfl) (by intro _ _ _ h; exact h) (yg_move (by rfl) (by conv => lhs; whnf)) (by go_frame; first | done | rfl) ?_
  refine rg_pure 8 (by conv => lhs; whnf) (by kernel_rfl) (by intro _ _ _ h; exact h) (yg_move (by rfl) (by conv => lhs; whnf)) (by go_frame; first | done | rfl) ?_
  refine rg_pure 9 (by conv => lhs; whnf) (by kernel_rfl) (by intro _ _ _ h; exact h) (yg_nil (by rfl) (by conv => lhs; whnf)) (by go_frame; first | done | rfl) ?_
  refine rg_pure 10 (by conv => lhs; whnf) (by kernel_rfl) (by intro _ _ _ h; exact h) (yg_field (by rfl) (by conv => lhs; whnf) (by ((intro wq; go_simp); first | done | (with_reducible rfl)))) (by go_frame; first | done | rfl) ?_
  refine rg_take 11 (by conv => lhs; whnf) (by kernel_rfl) (by intro _ _ _ h; exact h) (tg_load (by rfl) (by conv => lhs; whnf) (by kernel_rfl) (by intro wq hq; first | exact hq | exact hq.1 | exact hq.2 | exact hq.2.1 | exact hq.2.2 | exact hq.2.2.1 | exact hq.2.2.2 | exact hq.2.2.2.1 | exact hq.2.2.2.2)) (by assumption) (by go_frame; first | done | rfl) ?_
  refine rg_eff 7 (by conv => lhs; whnf) (by kernel_rfl) (fun K hK => ?_)
  refine eg_call [ptr m] (by rfl) (by kernel_rfl) (by rfl) ?_
  refine hpw.mono ?_
  rintro ee w4 ⟨v, rfl, rfl, rfl⟩
  refine hK _ _ (.inr (.inr rfl)) ?_
  clear hK hpw
  refine rg_pure 12 (by conv => lhs; whnf) (by kernel_rfl) (by intro _ _ _ h; exact h) (yg_bin (by rfl) (by conv => lhs; whnf) (by conv => lhs; whnf) (by ((intro wq; go_simp); first | done | (with_reducible rfl)))) (by go_frame; first | done | rfl) ?_
  refine rg_pure 13 (by conv => lhs; whnf) (by kernel_rfl) (by intro _ _ _ h; exact h) (yg_pick (by rfl) (by conv => lhs; whnf) (by conv => lhs; whnf)) (by go_frame; first | done | rfl) ?_
  refine rg_pure 14 (by conv => lhs; whnf) (by kernel_rfl) (by intro _ _ _ h; exact h) (yl_move (by conv => lhs; whnf)) (by go_frame; first | done | rfl) ?_
  refine rg_pure 15 (by conv => lhs; whnf) (by kernel_rfl) (by intro _ _ _ h; exact h) (yg_move (by rfl) (by conv => lhs; whnf)) (by go_frame; first | done | rfl) ?_
  refine rg_pure 17 (by conv => lhs; whnf) (by kernel_rfl) (by intro _ _ _ h; exact h) (yg_move (by rfl) (by conv => lhs; whnf)) (by go_frame; first | done | rfl) ?_
  refine rg_pure 18 (by conv => lhs; whnf) (by kernel_rfl) (by intro _ _ _ h; exact h) (yg_nil (by rfl) (by conv => lhs; whnf)) (by go_frame; first | done | rfl) ?_
  refine rg_pure 19 (by conv => lhs; whnf) (by kernel_rfl) (by intro _ _ _ h; exact h) (yg_field (by rfl) (by conv => lhs; whnf) (by ((intro wq; go_simp); first | done | (with_reducible rfl)))) (by go_frame; first | done | rfl) ?_
  refine rg_take 20 (by conv => lhs; whnf) (by kernel_rfl) (by intro _ _ _ h; exact h) (tg_load (by rfl) (by conv => lhs; whnf) (by kernel_rfl) (by intro wq hq; first | exact hq | exact hq.1 | exact hq.2 | exact hq.2.1 | exact hq.2.2 | exact hq.2.2.1 | exact hq.2.2.2 | exact hq.2.2.2.1 | exact hq.2.2.2.2)) (by assumption) (by go_frame; first | done | rfl) ?_
  refine rg_eff 16 (by conv => lhs; whnf) (by kernel_rfl) (fun K hK => ?_)
  refine eg_call [ptr m] (by rfl) (by kernel_rfl) (by rfl) ?_
  refine hrm.mono ?_
  rintro ee w4 ⟨v, rfl, rfl, rfl⟩
  refine hK _ _ (.inr (.inr rfl)) ?_
  clear hK hrm hG
  refine rg_pure 21 (by conv => lhs; whnf) (by kernel_rfl) (by intro _ _ _ h; exact h) (yg_bin (by rfl) (by conv => lhs; whnf) (by conv => lhs; whnf) (by ((intro wq; go_simp); first | done | (with_reducible rfl)))) (by go_frame; first | done | rfl) ?_
  refine rg_pure 22 (by conv => lhs; whnf) (by kernel_rfl) (by intro _ _ _ h; exact h) (yg_pick (by rfl) (by conv => lhs; whnf) (by conv => lhs; whnf)) (by go_frame; first | done | rfl) ?_
  refine wpL_done (by kernel_rfl) ?_
  have hS4 : Sat w0 _ (osl 9 1 (.slice na l.length nc) (strs l) :: MedRep m M :: DskRep p D :: F) :=
    (DskRep.shut Hin.out (hS3.sub (sub_take pick2 (sub_take pick3 (sub_take pick3 (sub_take pick3 (sub_take pick3 sub_refl))))))).sub (sub_take pick3 (sub_take pick2 (sub_take pick0 (sub_drop sub_refl))))
  clear hS3
  try simp only [List.getElem_toArray, List.getElem_cons_succ, List.getElem_cons_zero]
  try go_frame
  go_wp2_with fail
  go_loopg [6, 7] l.length (fun g' uq iq wr => ∃ i : Nat, g' = l.length - i ∧ i ≤ l.length ∧ uq = .int .i64 (usedOf M (M.now.take i) : Nat) ∧ iq = .int .i64 i ∧ Sat w0 wr (osl 9 1 (.slice na l.length nc) (strs l) :: MedRep m M :: DskRep p D :: F))
  case atStart => exact ⟨0, rfl, Nat.zero_le _, rfl, rfl, hS4⟩
  case round =>
    obtain ⟨i, rfl, hi, rfl, rfl, hS⟩ := hrel
    clear hS4
    by_cases hlt : i < l.length
    · have c1 : (i : Int) < (l.length : Int) := by omega
      have hwi : IntKind.i64.wrap ((i : Int) + 1) = (i : Int) + 1 := IntWalk.i64_in _ (by omega)
      obtain ⟨s, hs⟩ : ∃ s, l[i]? = some s := ⟨_, List.getElem?_eq_getElem hlt⟩
      obtain ⟨k, hk, hkf, hki, hall, hsz⟩ := Hat.out i s hs
      have Hs := Lib.hid hs
      obtain ⟨bk, off, rfl, e0⟩ := strs_cell (Sat.rd hS) hs
      have h1 := all_c Ok.out (hS.pick pick1) s
      have hDall := Sd.out.all Ok.out s
      rw [hall] at h1 hDall
      have hfD : ∀ j, nget D.now s = some j → j < D.files.length ∧ (D.file j).now.length ≤ 1099511627776 := fun j hj => ⟨OkD.out.nowOk.ids _ (nget_mem hj), Nat.le_trans (OkD.out.file j).now_len (by decide)⟩
      have hfl := (Ok.out.file k).now_len
      have Hus := Lib.hid (usedOf_take M hki)
      have hle := usedOf_le M (i + 1)
      rw [Hus.out] at hle
      have hul := Ok.out.used_le
      have hw2 : IntKind.i64.wrap ((usedOf M (M.now.take i) : Int) + ((M.file k).now.length : Int)) = (usedOf M (M.now.take i) : Int) + ((M.file k).now.length : Int) := IntWalk.i64_in _ (by dsimp only at hle; omega)
      have Hcast := Lib.hid (show ((usedOf M (M.now.take (i + 1)) : Nat) : Int) = (usedOf M (M.now.take i) : Int) + ((M.file k).now.length : Int) by rw [Hus.out]; dsimp only; omega)
      have hsize := fun w' (hw' : Sat w0 w' (MedRep m M :: bsl (.slice none 0 0) [] :: F)) => size_c Ok.out hw' s
      have Hsz := Lib.hid hsz; have Hlt := Lib.hid hlt; have HfD := Lib.hid hfD; have HDall := Lib.hid hDall
      clear hs hk hkf hki hall hsz hle hul Hus hlt hsize hfD hDall
      generalize (M.file k).now = B at *
      generalize usedOf M (M.now.take i) = U at *
      go_wp2_with fail
      refine h1.mono ?_
      clear h1
      rintro ee w2 ⟨v, rfl, bv, rfl, hS2⟩
      clear e0 hS
      obtain ⟨b1, c2, rfl, _⟩ := bsl_sl hS2
      obtain ⟨_, _, he, e0⟩ := strs_cell (Sat.rd (hS2.pick pick2)) Hs.out
      cases he
      have h2 := size_c Ok.out (hS2.pick pick1) s
      rw [Hsz.out] at h2
      go_wp2_with fail
      refine h2.mono ?_
      clear h2
      rintro ee w3 ⟨v, rfl, rfl, rfl⟩
      have h3 := rall_c s Hl.out HfD.out (hS2.pick pick3)
      rw [HDall.out] at h3
      go_wp2_with fail
      refine h3.mono ?_
      clear h3
      rintro ee w3 ⟨v, rfl, cv, rfl, hS3⟩
      clear hS2 e0
      obtain ⟨b2, c3, rfl, _⟩ := bsl_sl hS3
      have h4 := same_c (F := bsl (.slice b2 B.length c3) B :: DskRep p D :: bsl (.slice b1 B.length c2) B :: MedRep m M :: osl 9 1 (.slice (some ⟨bk, off, none⟩) l.length nc) (strs l) :: F) B (fun w hw => Sat.rd (hw.pick pick2)) (fun w hw => Sat.rd hw) hS3 (by omega)
      go_wp2_with fail
      refine h4.mono ?_
      clear h4
      rintro ee w4 ⟨v, rfl, rfl, hS5⟩
      clear hS3
      go_wp2
      go_roundg (l.length - (i + 1))
      case measure => have := Hlt.out; omega
      case rel => exact ⟨i + 1, rfl, Nat.succ_le_of_lt Hlt.out, by rw [Hcast.out], by first | rfl | go_num, hS5.sub (sub_take pick4 (sub_take pick3 (sub_take pick1 (sub_drop (sub_drop sub_refl)))))⟩
    · obtain rfl : i = l.length := by omega
      have c1 : ¬ (l.length : Int) < (l.length : Int) := by omega
      have hua := Hua.out
      have h5 := used_rep Ok.out (hS.pick pick1)
      clear hlt
      rw [hua]
      clear hua
      generalize M.usedTold = U at *
      go_wp2_with fail
      refine h5.mono ?_
      clear h5
      rintro ee w4 ⟨v, rfl, rfl, hS5⟩
      go_wp2
      go_ret
      exact ⟨.bool true, rfl, rfl, hS5.sub (sub_take pick0 (sub_take pick1 (sub_drop sub_refl)))⟩
end
end Go.Proofs.Ytmjldaedhmipkaa
/- does, whole; played. -/
namespace Go.Proofs.Ytmjldaedhmipkaa
open Go Go.Sl Go.Med Go.MapKept Go.RowKit
set_option linter.unusedVariables false
section
variable {w0 w W : World} {F : List HProp} {m fb nb b r : Nat} {M : Med} {bs : List Nat} {wv v bv dv : Value} {s : ByteArray} {fs : List Fil} {K : Nat} {f : Fil}
theorem does_c (ok : M.Ok K) (hK : K ≤ 1099511627776) (h : Sat w0 w (MedRep m M :: F)) (d : D) (fit : d.Fit w0 F) (hb : Ro w0 F (rdsl 1 d.bv (bys d.b))) :
    Calls Try.prog 7 #[ptr m, .agg (dCells d).toArray] w (Rtn (Did w0 F m (M.does d.cal))) := by
  obtain ⟨kind, name, to, n, k, dbv, db, dlv, dl⟩ := d
  obtain ⟨f1, f2, f3, f4, f5, f6, f7, f8⟩ := fit
  simp only at f1 f2 f3 f4 f5 f6 f7 f8 hb
  have hbl : db.length ≤ 1099511627776 := by omega
  have hn1 : name.size ≤ 9223372036854775807 := by omega
  have hn2 : to.size ≤ 9223372036854775807 := by omega
  refine Med.does_ind (P := fun r => Calls Try.prog 7 #[ptr m, .agg #[.int .i64 kind, .string name, .string to, .int .i64 n, .int .i64 k, dbv, dlv]] w (Rtn (Did w0 F m r))) ?_ ?_ ?_ ?_ ?_ ?_ ?_ ?_ ?_ ?_ ?_ ?_
  · intro hk; obtain rfl : kind = 0 := hk; exact does_create ok hK h name to n k hb hbl hn1
  · intro hk; obtain rfl : kind = 1 := hk; exact does_append ok hK h name to n k hb hbl
  · intro hk; obtain rfl : kind = 2 := hk; exact does_truncate ok hK h name to n k hb hbl
  · intro hk; obtain rfl : kind = 3 := hk; exact does_rename ok hK h name to n k hb hbl hn2
  · intro hk; obtain rfl : kind = 4 := hk; exact does_remove ok hK h name to n k hb hbl
  · intro hk; obtain rfl : kind = 5 := hk; exact does_sync ok hK h name to n k hb hbl
  · intro hk; obtain rfl : kind = 6 := hk; exact does_syncDir ok hK h name to n k hb hbl
  · intro hk; obtain rfl : kind = 7 := hk; exact does_arm ok hK h name to n k hb hbl
  · intro hk; obtain rfl : kind = 8 := hk; exact does_crash ok hK h name to n k hb hbl f6 f7 f8
  · intro hk; obtain rfl : kind = 9 := hk; exact does_setRoom ok hK h name to n k hb hbl
  · intro hk; obtain rfl : kind = 10 := hk; exact does_rot ok hK h name to n k hb hbl
  · intro hk; exact does_read ok hK h kind name to n k hb hbl f3 f4 hk
theorem D.In.more {d : D} {L : List HProp} (h : d.In w0 F) : d.In w0 (L ++ F) := by
  induction L with
  | nil => exact h
  | cons A L ih => exact ⟨ih.b.cons, ih.bc, ih.l.cons, ih.lc⟩
/-- What is known of a []Do that came in. -/
structure Dos (w0 W : World) (F : List HProp) (dv : Value) (ds : List D) : Prop where
  rd : Ro w0 F (rdsl 7 dv (ds.flatMap dCells))
  each : ∀ d ∈ ds, d.In w0 F ∧ d.At W
/-- What few makes. -/
structure Few (w0 : World) (F : List HProp) (n : Nat) (ds es : List D) : Prop where
  len : es.length = min n ds.length
  fit : ∀ e ∈ es, e.Fit w0 F
/-- few, in the frame L. -/
theorem few_r {L : List HProp} {ds : List D} (hd : Dos w0 W F dv ds) (h : Sat w0 w (L ++ F)) (n : Nat) (hn : n ≤ 1000) :
    Calls Try.prog 4 #[dv, .int .i64 n] w (Rtn fun v w' => ∃ es : List D, Few w0 F n ds es ∧ (∃ a c, v = .slice a es.length c) ∧ Sat w0 w' (osl 36 7 v (es.flatMap dCells) :: bsls es :: (L ++ F))) := by
  have drop : ∀ (L : List HProp) (w : World), Sat w0 w (L ++ F) → Sat w0 w F := by
    intro L
    induction L with
    | nil => exact fun w h => h
    | cons A L ih => exact fun w h => ih w h.drop
  refine (few_c h (drop L) ds hd.rd (fun d hd' => (hd.each d hd').1) n hn).mono ?_
  rintro e w1 ⟨v, rfl, es, h1, h2, h3⟩
  refine ⟨v, rfl, es, ⟨h1, fun e he => ?_⟩, ?_, h3⟩
  · obtain ⟨i, hi, rfl⟩ := List.getElem_of_mem he
    have hid : i < ds.length := by omega
    exact (h2 i _ _ (List.getElem?_eq_getElem hid) (List.getElem?_eq_getElem hi)).fit (hd.each _ (List.getElem_mem hid)).2
  · obtain ⟨a, n', c, rfl, hl, _⟩ := h3.rd
    have : (es.flatMap dCells).length = es.length * 7 := by rw [List.length_flatMap]; simp [dCells, List.map_const']
    exact ⟨a, c, by rw [show n' = es.length by omega]⟩
/-- One call out of a slice of calls. -/
theorem dos_cells {a : Option Addr} {n c i : Nat} {es : List D} {e : D} (h : Sat w0 w (osl 36 7 (.slice a n c) (es.flatMap dCells) :: F)) (hi : es[i]? = some e) :
    ∃ g, a = some ⟨g, 0, none⟩ ∧ ∀ (j : Nat) (x : Value), (dCells e)[j]? = some x → w.cell? ⟨g, i * 7 + j, none⟩ = some x := by
  have hlt : i < es.length := (List.getElem?_eq_some_iff.1 hi).1
  have hlen : (es.flatMap dCells).length = es.length * 7 := by rw [List.length_flatMap]; simp [dCells, List.map_const']
  obtain ⟨bk, off, rfl, hcell⟩ := rdsl_base h.rd (by omega)
  rcases Sat.osl_cases h with ⟨he, hx, _⟩ | ⟨g, n', cap', cs, he, _⟩
  · rw [hx] at hlen; simp at hlen; omega
  · cases he
    refine ⟨bk, rfl, fun j x hx => ?_⟩
    have hj : j < 7 := by
      have := (List.getElem?_eq_some_iff.1 hx).1
      simpa [dCells] using this
    have := hcell (i * 7 + j) x (by rw [flat_get dCells 7 (fun _ => rfl) es i e j hi hj]; exact hx)
    rw [Nat.zero_add] at this
    exact this
def cals (es : List D) : List Cal := es.map D.cal
theorem cals_take {es : List D} {i : Nat} {e : D} (hi : es[i]? = some e) : cals (es.take (i + 1)) = cals (es.take i) ++ [e.cal] := by
  obtain ⟨h1, rfl⟩ := List.getElem?_eq_some_iff.1 hi
  unfold cals
  rw [List.take_succ_eq_append_getElem h1, List.map_append]; rfl
/-- The cells of one call. -/
theorem dos_at {a : Option Addr} {n c i : Nat} {es : List D} {e : D} (h : Sat w0 w (osl 36 7 (.slice a n c) (es.flatMap dCells) :: F)) (hi : es[i]? = some e) :
    ∃ g, a = some ⟨g, 0, none⟩ ∧ w.cell? ⟨g, i * 7, none⟩ = some (.int .i64 e.kind) ∧ w.cell? ⟨g, i * 7 + 1, none⟩ = some (.string e.name) ∧ w.cell? ⟨g, i * 7 + 2, none⟩ = some (.string e.to) ∧
      w.cell? ⟨g, i * 7 + 3, none⟩ = some (.int .i64 e.n) ∧ w.cell? ⟨g, i * 7 + 4, none⟩ = some (.int .i64 e.m) ∧ w.cell? ⟨g, i * 7 + 5, none⟩ = some e.bv ∧ w.cell? ⟨g, i * 7 + 6, none⟩ = some e.lv := by
  obtain ⟨g, rfl, hx⟩ := dos_cells h hi
  exact ⟨g, rfl, hx 0 _ rfl, hx 1 _ rfl, hx 2 _ rfl, hx 3 _ rfl, hx 4 _ rfl, hx 5 _ rfl, hx 6 _ rfl⟩
theorem Few.inI {n : Nat} {ds es : List D} (h : Few w0 F n ds es) {i : Nat} : ∀ x ∈ cals (es.take i), x.n ≤ 9223372036854775807 := by
  intro x hx
  obtain ⟨e, he, rfl⟩ := List.mem_map.1 hx
  exact (h.fit e (List.mem_of_mem_take he)).n.2
end
end Go.Proofs.Ytmjldaedhmipkaa
/- The walk of MediaPlays. -/
namespace Go.Proofs.Ytmjldaedhmipkaa
open Go Go.Sl Go.Med Go.MapKept Go.RowKit
set_option linter.unusedVariables false
section
variable {w0 w W : World} {F : List HProp} {m p : Nat} {M D' : Med} {K : Nat} {v dv : Value}
theorem rnew_no (room : Int) (hr : room < 0 ∨ 16777216 < room) (w : World) :
    Calls Try.prog 6 #[.int .i64 room] w (Rtn fun v w' => v = .tuple #[.pointer none, errno 2] ∧ w = w') := by
  by_cases h : room < 0
  · go_enter Try.func6, Try.ntmps6
    go_wp2
    go_ret2
    exact ⟨_, rfl, rfl, rfl⟩
  · have h1 : decide (room < 0) = false := by simpa using h
    have h2 : 16777216 < room := by omega
    go_enter Try.func6, Try.ntmps6
    go_wp2
    go_ret2
    exact ⟨_, rfl, rfl, rfl⟩
theorem does_out {M : Med} {K : Nat} (ok : M.Ok K) (x : Cal) : (M.does x).2.1.length ≤ 1099511627776 := by
  refine Med.does_ind (P := fun r => r.2.1.length ≤ 1099511627776) ?_ ?_ ?_ ?_ ?_ ?_ ?_ ?_ ?_ ?_ ?_ ?_
  all_goals first
    | exact fun _ => Nat.zero_le _
    | (intro _
       show (M.read x.name x.n x.m).1.length ≤ _
       unfold Med.read
       split; · exact Nat.zero_le _
       split; · exact Nat.zero_le _
       rename_i i _
       have := (ok.file i).now_len
       simp only
       split; · exact Nat.zero_le _
       split; · exact Nat.zero_le _
       simp only [List.length_take, List.length_drop]
       omega)
set_option maxRecDepth 20000 in
set_option maxHeartbeats 8000000 in
theorem plays_c {ds : List D} (z : Int) (hd : Dos w0 W F dv ds) (h : Sat w0 w F) :
    Calls Try.prog 3 #[.int .i64 z, dv] w (Rtn fun v w' => v = .bool true ∧ Sat w0 w' F) := by
  have hfw := few_r (L := []) hd h 50 (by omega)
  have hcast5 : ((50 : Nat) : Int) = 50 := rfl
  rw [hcast5] at hfw
  clear hcast5
  go_enter Try.func3, Try.ntmps3
  go_wp2_with fail
  refine hfw.mono ?_
  clear hfw
  rintro ee w1 ⟨v, rfl, es, hF, ⟨a, c, rfl⟩, hS1⟩
  have hF2 := hF.len
  have HF := Lib.hid hF
  have hlen : es.length ≤ 50 := by omega
  have Hlen := Lib.hid hlen
  clear hF hF2 hlen
  by_cases hz : z < 0 ∨ 16777216 < z
  · have hn1 := fun w => new_no z hz w
    have hn2 := fun w => rnew_no z hz w
    go_wp2_with fail
    refine (hn1 _).mono ?_
    rintro ee w2 ⟨v, rfl, rfl, rfl⟩
    go_wp2_with fail
    refine (hn2 _).mono ?_
    rintro ee w2 ⟨v, rfl, rfl, rfl⟩
    clear hn1 hn2 hz
    have hSF : Sat w0 _ F := hS1.sub (sub_drop (sub_drop sub_refl))
    clear hS1
    go_wp2_with fail
    go_loopg [9] 0 (fun g' iq wr => g' = 0 ∧ iq = .int .i64 0 ∧ Sat w0 wr F)
    case atStart => exact ⟨rfl, rfl, hSF⟩
    case round =>
      obtain ⟨rfl, rfl, hS⟩ := hrel
      have hlv := lives_c hS
      by_cases h0 : 0 < es.length
      · have c1 : (0 : Int) < (es.length : Int) := by omega
        go_wp2_with fail
        refine hlv.mono ?_
        rintro ee w5 ⟨v, rfl, rfl, hS5⟩
        clear hlv
        go_wp2
        go_ret
        exact ⟨.bool true, rfl, rfl, hS5⟩
      · have c1 : ¬ (0 : Int) < (es.length : Int) := by omega
        have c0 : es.length = 0 := by omega
        go_wp2_with fail
        refine hlv.mono ?_
        rintro ee w5 ⟨v, rfl, rfl, hS5⟩
        clear hlv
        go_wp2
        go_ret
        exact ⟨.bool true, rfl, rfl, hS5⟩
  · obtain ⟨R, rfl⟩ := Int.eq_ofNat_of_zero_le (show 0 ≤ z by omega)
    have hR : R ≤ 16777216 := by omega
    clear hz
    have hn1 := new_yes R hR hS1
    go_wp2_with fail
    refine hn1.mono ?_
    rintro ee w2 ⟨v, rfl, m, rfl, hS2⟩
    have hn2 := rnew_c R hR hS2
    clear hn1 hS1
    go_wp2_with fail
    refine hn2.mono ?_
    rintro ee w3 ⟨v, rfl, p, rfl, hS3⟩
    have HR := Lib.hid hR
    clear hn2 hS2 hR
    go_wp2_with fail
    go_loopg [9] es.length (fun g' iq wr => ∃ (i : Nat) (M D : Med) (φ : Nat → Nat) (L : Nat → Prop), g' = es.length - i ∧ i ≤ es.length ∧ iq = .int .i64 i ∧ M.Ok i ∧ D.Ok i ∧ D.Small ∧ D.files.length ≤ 500 + i ∧ Side φ L M D ∧
      Sat w0 wr (MedRep m M :: DskRep p D :: osl 36 7 (.slice a es.length c) (es.flatMap dCells) :: bsls es :: F))
    case atStart => exact ⟨0, _, _, _, _, rfl, Nat.zero_le _, rfl, Med.Ok.new 0 R HR.out, Med.Ok.new 0 R HR.out, (fun f hf => by cases hf), Nat.zero_le _, Side.new R, hS3.sub (sub_take pick1 (sub_take pick0 (sub_take pick0 (sub_take pick0 sub_refl))))⟩
    case round =>
      obtain ⟨i, M, D', φ, L, rfl, hi, rfl, ok, okD, hsm, hfl, sd, hS⟩ := hrel
      clear hS3
      have hlen := Hlen.out
      by_cases hlt : i < es.length
      · have c1 : (i : Int) < (es.length : Int) := by omega
        have hwi : IntKind.i64.wrap ((i : Int) + 1) = (i : Int) + 1 := IntWalk.i64_in _ (by omega)
        obtain ⟨e, he⟩ : ∃ e, es[i]? = some e := ⟨_, List.getElem?_eq_getElem hlt⟩
        obtain ⟨g, rfl, c0, c1', c2, c3, c4, c5, c6⟩ := dos_at (hS.pick pick2) he
        have hfit := HF.out.fit e (List.mem_of_getElem? he)
        have hrb := (bsls_rd (w0 := w0) (F := F) he)
        have hdo := does_c ok (by omega) hS e (hfit.more (L := [_, _, _])) hrb.cons.cons
        obtain ⟨hsame, φ', L', sd'⟩ := sd.does ok e.cal
        have ok' := ok.does e.cal hfit.n.2
        have okD' := okD.told e.cal hfit.n.2
        have hsm' := hsm.told okD e.cal
        have hfl' := told_files okD hfl e.cal
        have htl := fun (L : List HProp) w' (hw' : Sat w0 w' (DskRep p D' :: L)) (f : e.Fit w0 L) (b : Ro w0 L (rdsl 1 e.bv (bys e.b))) => told_c okD (by omega) hsm (by omega) hw' e f b
        have hou : (M.does e.cal).2.1.length ≤ 1099511627776 := does_out ok e.cal
        have He := Lib.hid he; have Hfit := Lib.hid hfit; have Hrb := Lib.hid hrb; have Hlt := Lib.hid hlt; have Ok' := Lib.hid ok'; have OkD' := Lib.hid okD'; have Hsm' := Lib.hid hsm'; have Hfl' := Lib.hid hfl'; have Htl := Lib.hid htl; have Hou := Lib.hid hou; have Sd' := Lib.hid sd'
        clear he hfit hrb hlt ok ok' okD okD' hsm hsm' hfl hfl' htl hou sd sd'
        have Hcal := Lib.hid (show (e.cal).name = e.name from rfl)
        obtain ⟨kind, name, to, dn, dm, dbv, db, dlv, dl⟩ := e
        dsimp only at c0 c1' c2 c3 c4 c5 c6
        generalize hcal : D.cal _ = cal at *
        generalize hx : M.does cal = X at *
        generalize hy : D'.told cal = Y at *
        obtain ⟨M2, out, er, okk⟩ := X
        obtain ⟨D2, out2, er2, okk2⟩ := Y
        simp only [Prod.mk.injEq] at hsame
        obtain ⟨rfl, rfl, rfl⟩ := hsame
        dsimp only at *
        clear hx hy hcal
        go_wp2_with fail
        refine hdo.mono ?_
        rintro ee w4 ⟨v, rfl, ov, rfl, ⟨oa, on, oc, rfl⟩, hS4⟩
        clear hdo c0 c1' c2 c3 c4 c5 c6 hS
        obtain ⟨g2, he2, c0, c1', c2, c3, c4, c5, c6⟩ := dos_at (hS4.pick pick3) He.out
        cases he2
        have hS5 := hS4.pick pick2
        have htl := Htl.out _ _ hS5 (Hfit.out.more (L := [_, _, _, _])) Hrb.out.cons.cons.cons
        go_wp2_with fail
        refine htl.mono ?_
        clear htl
        rintro ee w5 ⟨v, rfl, ov2, rfl, ⟨oa2, on2, oc2, rfl⟩, hS6⟩
        clear hS4 hS5 c0 c1' c2 c3 c4 c5 c6
        have h4 := same_c (F := bsl (.slice oa2 on2 oc2) out :: DskRep p D2 :: bsl (.slice oa on oc) out :: MedRep m M2 :: osl 36 7 (.slice (some ⟨g, 0, none⟩) es.length c) (es.flatMap dCells) :: bsls es :: F) out (fun w hw => Sat.rd (hw.pick pick2)) (fun w hw => Sat.rd hw) hS6 (Nat.le_trans Hou.out (by decide))
        go_wp2_with fail
        refine h4.mono ?_
        clear h4
        rintro ee w6 ⟨v, rfl, rfl, hS7⟩
        clear hS6
        have hal := alike_c Ok'.out OkD'.out Sd'.out (hS7.sub (sub_take pick3 (sub_take pick1 (sub_drop (sub_drop sub_refl)))))
        clear hS7
        go_wp2_with fail
        refine hal.mono ?_
        clear hal
        rintro ee w7 ⟨v, rfl, rfl, hS8⟩
        obtain ⟨g2, he2, _, _, c2, _⟩ := dos_at (hS8.pick pick2) He.out
        cases he2
        have hsz := size_c Ok'.out hS8 to
        have hfd := rfind_c to (Nat.le_trans OkD'.out.nowOk.len (by decide)) (hS8.pick pick1)
        obtain ⟨fsv, fv, nv, wv, xs, g3, hin, hO⟩ := DskRep.open (hS8.pick pick1)
        have e7 : World.cell? _ ⟨p, 7, none⟩ = some (.bool D2.off) := hO.cellP pick0 7 rfl
        rw [Sd'.out.off] at e7
        have fin : ∃ (i_1 : Nat) (M D : Med) (φ : Nat → Nat) (L : Nat → Prop), es.length - (i + 1) = es.length - i_1 ∧ i_1 ≤ es.length ∧ Value.int .i64 ((i : Int) + 1) = .int .i64 i_1 ∧ M.Ok i_1 ∧ D.Ok i_1 ∧ D.Small ∧ D.files.length ≤ 500 + i_1 ∧ Side φ L M D ∧
          Sat w0 w7 (MedRep m M :: DskRep p D :: osl 36 7 (.slice (some ⟨g, 0, none⟩) es.length c) (es.flatMap dCells) :: bsls es :: F) :=
          ⟨i + 1, M2, D2, φ', L', rfl, Nat.succ_le_of_lt Hlt.out, by first | rfl | go_num, Ok'.out, OkD'.out, Hsm'.out, Hfl'.out, Sd'.out, hS8⟩
        have Fin := Lib.hid fin
        clear fin hin hO hS8
        cases ho : M2.off with
        | true =>
          have hs2 : M2.size to = (0, 12) := by unfold Med.size; rw [ho]; rfl
          rw [hs2] at hsz
          rw [ho] at e7
          clear hs2 ho hfd
          go_wp2_with fail
          refine hsz.mono ?_
          rintro ee w8 ⟨v, rfl, rfl, rfl⟩
          clear hsz
          go_wp2
          go_roundg (es.length - (i + 1))
          case measure => have := Hlt.out; omega
          case rel => exact Fin.out
        | false =>
          rw [ho] at e7
          cases hg : nget M2.now to with
          | none =>
            have hs2 : M2.size to = (0, 9) := by unfold Med.size; rw [ho, if_neg (by decide), hg]
            rw [hs2] at hsz
            have hwh2 : D2.which to = -1 := by unfold Med.which; rw [Sd'.out.get, hg]; rfl
            rw [hwh2] at hfd
            clear hs2 ho hwh2 hg
            go_wp2_with fail
            refine hsz.mono ?_
            rintro ee w8 ⟨v, rfl, rfl, rfl⟩
            clear hsz
            go_wp2_with fail
            refine hfd.mono ?_
            rintro ee w8 ⟨v, rfl, rfl, rfl⟩
            clear hfd
            go_wp2
            go_roundg (es.length - (i + 1))
            case measure => have := Hlt.out; omega
            case rel => exact Fin.out
          | some k =>
            have hs2 : M2.size to = (((M2.file k).now.length : Int), 0) := by unfold Med.size; rw [ho, if_neg (by decide), hg]
            rw [hs2] at hsz
            have hwh2 : D2.which to = ((φ' k : Nat) : Int) := by unfold Med.which; rw [Sd'.out.get, hg]; rfl
            rw [hwh2] at hfd
            clear hs2 ho hwh2 hg
            generalize φ' k = f at *
            go_wp2_with fail
            refine hsz.mono ?_
            rintro ee w8 ⟨v, rfl, rfl, rfl⟩
            clear hsz
            go_wp2_with fail
            refine hfd.mono ?_
            rintro ee w8 ⟨v, rfl, rfl, rfl⟩
            clear hfd
            go_wp2
            go_roundg (es.length - (i + 1))
            case measure => have := Hlt.out; omega
            case rel => exact Fin.out
      · obtain rfl : i = es.length := by omega
        have c1 : ¬ (es.length : Int) < (es.length : Int) := by omega
        have hlv := lives_c (hS.sub (sub_drop (sub_drop (sub_drop (sub_drop sub_refl)))))
        clear hlt ok okD hsm hfl sd hS
        go_wp2_with fail
        refine hlv.mono ?_
        rintro ee w5 ⟨v, rfl, rfl, hS5⟩
        clear hlv
        go_wp2
        go_ret
        exact ⟨.bool true, rfl, rfl, hS5⟩
end
end Go.Proofs.Ytmjldaedhmipkaa
/- A []Do that came in. -/
namespace Go.Proofs.Ytmjldaedhmipkaa
open Go Go.Sl Go.Med Go.ChangeShapes Go.WideShapes Go.RowKit
section
variable {H : Type} {enc : TypeId × Value → H} {W : World} {base : Nat} {spare : Nat → Bool} {held : Bool}
set_option maxRecDepth 100000 in
theorem open_do {fuel : Nat} {cs : List Value} {x : DataW H × List MemPlace} (h : DataW.trod enc Try.prog W base spare held fuel 36 cs = some x) : ∃ d : D, dCells d = cs ∧ d.At W := by
  obtain ⟨hl, hf⟩ := open_fields Try.underlying36 h
  have e7 : Try.prog.cellsOf 36 = 7 := by kernel_rfl
  have e1 : Try.prog.cellsOf 3 = 1 := by kernel_rfl
  have e2 : Try.prog.cellsOf 9 = 1 := by kernel_rfl
  have e3 : Try.prog.cellsOf 31 = 1 := by kernel_rfl
  have e4 : Try.prog.cellsOf 34 = 1 := by kernel_rfl
  have e5 : Try.prog.cellsOf 5 = 1 := by kernel_rfl
  rw [e7] at hl
  match cs, hl with
  | [v0, v1, v2, v3, v4, v5, v6], _ =>
    obtain ⟨n0, y0, h0⟩ := hf 0 _ rfl
    obtain ⟨n1, y1, h1⟩ := hf 1 _ rfl
    obtain ⟨n2, y2, h2⟩ := hf 2 _ rfl
    obtain ⟨n3, y3, h3⟩ := hf 3 _ rfl
    obtain ⟨n4, y4, h4⟩ := hf 4 _ rfl
    obtain ⟨n5, y5, h5⟩ := hf 5 _ rfl
    obtain ⟨n6, y6, h6⟩ := hf 6 _ rfl
    simp only [List.getElem_toArray, List.getElem_cons_zero, List.getElem_cons_succ, e1, e2, e3, e4, List.drop_zero, List.drop_succ_cons, List.take_succ_cons, List.take_zero] at h0 h1 h2 h3 h4 h5 h6
    obtain ⟨z0, q0, _, w0⟩ := DataW.trod_int Try.underlying3 h0
    obtain ⟨z1, q1, _, w1⟩ := DataW.trod_string Try.underlying9 h1
    obtain ⟨z2, q2, _, w2⟩ := DataW.trod_string Try.underlying9 h2
    obtain ⟨z3, q3, _, w3⟩ := DataW.trod_int Try.underlying3 h3
    obtain ⟨z4, q4, _, w4⟩ := DataW.trod_int Try.underlying3 h4
    obtain ⟨l5, r5, c5⟩ := in_bys Try.underlying31 Try.underlying5 e5 h5
    obtain ⟨l6, r6, c6, i6⟩ := in_nums Try.underlying34 Try.underlying3 e1 h6
    simp only [List.cons.injEq, and_true] at q0 q1 q2 q3 q4
    subst q0; subst q1; subst q2; subst q3; subst q4
    exact ⟨⟨z0, z1, z2, z3, z4, v5, l5, v6, l6⟩, rfl, bounds_i64 w0, w1, w2, bounds_i64 w3, bounds_i64 w4, r5, c5, r6, c6, i6⟩
theorem in_dos {fuel : Nat} {v : Value} {x : DataW H × List MemPlace} (h : DataW.trod enc Try.prog W base spare held fuel 22 [v] = some x) :
    ∃ ds : List D, rdsl 7 v (ds.flatMap dCells) W ∧ capOk v ∧ ∀ d ∈ ds, d.At W := by
  obtain ⟨elems, h1, h2, h3⟩ := open_sl Try.underlying22 (k := 7) (by kernel_rfl) (by omega) h
  obtain ⟨ds, h4, h5⟩ := map_of (f := dCells) (p := fun d => d.At W) elems fun cs hcs => by
    obtain ⟨_, n, y, h6⟩ := h3 cs hcs
    exact open_do h6
  refine ⟨ds, ?_, h2, h5⟩
  rw [List.flatMap_def, h4]
  exact h1
theorem D.At.In {d : D} (h : d.At W) : d.In W [Sl.old W] := ⟨rd_old h.b, h.bc, rd_old h.l, h.lc⟩
end
end Go.Proofs.Ytmjldaedhmipkaa
