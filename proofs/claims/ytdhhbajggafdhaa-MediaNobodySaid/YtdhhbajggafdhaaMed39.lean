import Derived.Test.YtdhhbajggafdhaaMed38
/- The walk of MediaNobody. -/
namespace Go.Proofs.Ytdhhbajggafdhaa
open Go Go.Sl Go.Med Go.MapKept Go.RowKit
set_option linter.unusedVariables false
section
variable {w0 w W : World} {F : List HProp} {m fb nb b r q : Nat} {M P : Med} {bs : List Nat} {wv v bv dv dv2 av cv nv ov lv mv dbv dlv : Value} {s : ByteArray} {fs : List Fil} {K : Nat} {f : Fil} {db : Bs} {dl : List Int}
set_option maxRecDepth 20000 in
set_option maxHeartbeats 4000000 in
theorem nobody_law_c (d : D) (hin : d.In w0 F) (hat : d.At W) (h : Sat w0 w F) :
    Calls Try.prog 8 #[.agg (dCells d).toArray] w (Rtn fun v w' => v = .bool true ∧ Sat w0 w' F) := by
  have hA := h.alloc (.cells (dCells d).toArray 44)
  have hB := hA.alloc (.cells (dCells d).toArray 44)
  have hdos : Dos w0 W (pt (w.alloc (.cells (dCells d).toArray 44)).heap.size (.cells (dCells d).toArray 44 (0,0)) :: F)
      (.slice (some ⟨(w.alloc (.cells (dCells d).toArray 44)).heap.size, 0, none⟩) 1 1) [d] := by
    refine ⟨fun w' hw' => ⟨_, 1, 1, rfl, rfl, fun i x hi => ⟨_, rfl, ?_⟩⟩, fun e he => ?_⟩
    · rw [add_zero_lit]
      refine hw'.cellAt i x ?_
      simpa using hi
    · rw [List.mem_singleton.1 he]
      exact ⟨hin.more (L := [_]), hat⟩
  have hfw := few_r (L := [pt w.heap.size (.cells (dCells d).toArray 44 (0,0))]) hdos hB.pick1 1 (by omega)
  have hcast : ((1 : Nat) : Int) = 1 := rfl
  rw [hcast] at hfw
  clear hcast
  obtain ⟨kind, name, to, n, k, dbv, db, dlv, dl⟩ := d
  simp only [dCells] at hA hB hfw
  have a0 := hA.cellAt 0 _ rfl
  have a1 := hA.cellAt 1 _ rfl
  have a2 := hA.cellAt 2 _ rfl
  have a3 := hA.cellAt 3 _ rfl
  have a4 := hA.cellAt 4 _ rfl
  have a5 := hA.cellAt 5 _ rfl
  have a6 := hA.cellAt 6 _ rfl
  clear hdos hin hat
  show Calls Try.prog 8 #[.agg #[.int .i64 kind, .string name, .string to, .int .i64 n, .int .i64 k, dbv, dlv]] w _
  go_enter Try.func8, Try.ntmps8
  simp only [World.size_alloc] at hfw
  go_wp2_with fail
  refine hfw.mono ?_
  rintro e w1 ⟨v, rfl, es, hF, ⟨a, c, rfl⟩, hS1⟩
  clear hfw a0 a1 a2 a3 a4 a5 a6 hA hB
  obtain ⟨e, rfl⟩ : ∃ e, es = [e] := by
    have := hF.len
    match es, this with
    | [e], _ => exact ⟨e, rfl⟩
  have hfit := hF.fit e (.head _)
  obtain ⟨g, rfl, c0, c1, c2, c3, c4, c5, c6⟩ := dos_at (i := 0) hS1 rfl
  simp only [Nat.zero_mul, Nat.zero_add] at c0 c1 c2 c3 c4 c5 c6
  have hbs : Ro w0 (bsls [e] :: F) (rdsl 1 e.bv (bys e.b)) := bsls_rd (i := 0) rfl
  obtain ⟨kind, name, to, n, k, dbv, db, dlv, dl⟩ := e
  obtain ⟨G, hG, _⟩ := bsls_at (i := 0) rfl (hS1.sel 2 [1] rfl rfl)
  obtain ⟨xa, xn, xc, hx, _, _, hxn⟩ := bsl_cap' hG
  obtain ⟨ya, yn, yc, hy, _, _⟩ := id hfit.lc
  simp only at hx hy hxn
  subst hx
  subst hxn
  subst hy
  clear hG
  obtain ⟨FF, PV, hFF, hfit', hbs2, hq⟩ : ∃ (FF : List HProp) (PV : Array Value), (∀ w, Sat w0 w FF → Sat w0 w F) ∧ (⟨kind, name, to, n, k, .slice xa db.length xc, db, .slice ya yn yc, dl⟩ : D).Fit w0 FF ∧
      Ro w0 FF (rdsl 1 (.slice xa db.length xc) (bys db)) ∧ Sat w0 w1 (pt w.heap.size (.cells PV 44 (0,0)) :: FF) ∧ PV.size = 7 :=
    ⟨_, _, fun w hw => hw.drop.drop.drop, hfit.more (L := [osl 44 7 (.slice (some ⟨g, 0, none⟩) 1 c) (List.flatMap dCells [⟨kind, name, to, n, k, .slice xa db.length xc, db, .slice ya yn yc, dl⟩]), bsls [⟨kind, name, to, n, k, .slice xa db.length xc, db, .slice ya yn yc, dl⟩]]), fun w hw => hbs w (hw.sel 3 [1] rfl rfl), hS1.sel 4 [2, 0, 1, 3] rfl rfl, rfl⟩
  clear hbs
  clear hfit
  have hfit := hfit'
  obtain ⟨hq, hPV⟩ := hq
  clear hS1 hfit'
  obtain ⟨p0', p1', p2', p3', p4', p5', p6', rfl⟩ : ∃ a b c d e f g, PV = #[a, b, c, d, e, f, g] := by
    obtain ⟨l⟩ := PV
    match l, hPV with
    | [a, b, c, d, e, f, g], _ => exact ⟨a, b, c, d, e, f, g, rfl⟩
  simp only at c0 c1 c2 c3 c4 c5 c6
  try simp only [World.size_alloc] at hfit
  try simp only [World.size_alloc] at hq
  generalize w.heap.size = q at *
  have d0 := hq.cellAt 0 _ rfl
  have d1 := hq.cellAt 1 _ rfl
  have d2 := hq.cellAt 2 _ rfl
  have d3 := hq.cellAt 3 _ rfl
  have d4 := hq.cellAt 4 _ rfl
  have d5 := hq.cellAt 5 _ rfl
  have d6 := hq.cellAt 6 _ rfl
  have f0 := hq.freeAt 0
  have f1 := hq.freeAt 1
  have f2 := hq.freeAt 2
  have f3 := hq.freeAt 3
  have f4 := hq.freeAt 4
  have f5 := hq.freeAt 5
  have f6 := hq.freeAt 6
  have hq2 := ((((((hq.set 0 (.int .i64 kind)).set 1 (.string name)).set 2 (.string to)).set 3 (.int .i64 n)).set 4 (.int .i64 k)).set 5 (.slice xa db.length xc)).set 6 (.slice ya yn yc)
  have hkk : kind = 8 ∨ kind = 10 ∨ (kind ≠ 8 ∧ kind ≠ 10) := by omega
  go_wp2_with fail
  simp only [List.setIfInBounds_toArray, List.set_cons_zero, List.set_cons_succ] at hq2
  generalize (((((((w1.setCell ⟨q, 0, none⟩ (.int .i64 kind)).setCell ⟨q, 1, none⟩ (.string name)).setCell ⟨q, 2, none⟩ (.string to)).setCell ⟨q, 3, none⟩ (.int .i64 n)).setCell ⟨q, 4, none⟩ (.int .i64 k)).setCell ⟨q, 5, none⟩ (.slice xa db.length xc)).setCell ⟨q, 6, none⟩ (.slice ya yn yc)) = w2 at hq2 ⊢
  have hq3 := hq2
  clear d0 d1 d2 d3 d4 d5 d6 f0 f1 f2 f3 f4 f5 f6 hq hq2 c0 c1 c2 c3 c4 c5 c6
  go_loopg [3] 2 (fun g' iq wr => ∃ (i : Nat), g' = 2 - i ∧ i ≤ 2 ∧ iq = .int .i64 i ∧ Sat w0 wr (pt q (.cells #[.int .i64 kind, .string name, .string to, .int .i64 n, .int .i64 k, .slice xa db.length xc, .slice ya yn yc] 44 (0,0)) :: FF))
  case atStart => exact ⟨0, rfl, by omega, rfl, hq3⟩
  case round =>
    obtain ⟨i, rfl, hi, rfl, hS⟩ := hrel
    clear hq3
    obtain rfl | rfl | rfl : i = 0 ∨ i = 1 ∨ i = 2 := by omega
    · have hN : Ro w0 (pt q (.cells #[.int .i64 kind, .string name, .string to, .int .i64 n, .int .i64 k, .slice xa db.length xc, .slice ya yn yc] 44 (0,0)) :: FF) (Nob (.pointer none)) := fun w hw => .inl rfl
      have hfit' := hfit.more (L := [pt q (.cells #[.int .i64 kind, .string name, .string to, .int .i64 n, .int .i64 k, .slice xa db.length xc, .slice ya yn yc] 44 (0,0))])
      have hb' : Ro w0 (pt q (.cells #[.int .i64 kind, .string name, .string to, .int .i64 n, .int .i64 k, .slice xa db.length xc, .slice ya yn yc] 44 (0,0)) :: FF) (rdsl 1 (.slice xa db.length xc) (bys db)) := hbs2.cons
      have hS2 := hS
      have p0 := hS2.cellAt 0 _ rfl
      have p1 := hS2.cellAt 1 _ rfl
      have p2 := hS2.cellAt 2 _ rfl
      have p3 := hS2.cellAt 3 _ rfl
      have p4 := hS2.cellAt 4 _ rfl
      have p5 := hS2.cellAt 5 _ rfl
      have p6 := hS2.cellAt 6 _ rfl
      have hdo := doesN_c hN hS2 ⟨kind, name, to, n, k, .slice xa db.length xc, db, .slice ya yn yc, dl⟩ hfit' hb'
      go_wp2_with fail
      refine hdo.mono ?_
      rintro e w3 ⟨v, rfl, rfl, hS3⟩
      clear hdo p0 p1 p2 p3 p4 p5 p6
      have hNb := hN _ hS3
      have p1 := hS3.cellAt 1 _ rfl
      have p0 := hS3.cellAt 0 _ rfl
      rcases hkk with h8 | h10 | ⟨h8, h10⟩
      · subst h8
        rw [if_pos (Or.inl rfl)]
        go_wp2_with (first
          | (go_at_call 16; go_must (refine (all_n hNb name).mono ?_); rintro e w4 ⟨v, rfl, rfl, rfl⟩)
          | (go_at_call 32; go_must (refine (size_n hNb name).mono ?_); rintro e w4 ⟨v, rfl, rfl, rfl⟩)
          | (go_at_call 31; go_must (refine (power_n hNb).mono ?_); rintro e w4 ⟨v, rfl, rfl, rfl⟩)
          | (go_at_call 26; go_must (refine (list_n hNb).mono ?_); rintro e w4 ⟨v, rfl, rfl, rfl⟩)
          | (go_at_call 23; go_must (refine (used_n hNb).mono ?_); rintro e w4 ⟨v, rfl, rfl, rfl⟩))
        go_roundg 1
        case measure => omega
        case rel => exact ⟨1, rfl, by omega, rfl, hS3⟩
      · subst h10
        rw [if_pos (Or.inr rfl)]
        go_wp2_with (first
          | (go_at_call 16; go_must (refine (all_n hNb name).mono ?_); rintro e w4 ⟨v, rfl, rfl, rfl⟩)
          | (go_at_call 32; go_must (refine (size_n hNb name).mono ?_); rintro e w4 ⟨v, rfl, rfl, rfl⟩)
          | (go_at_call 31; go_must (refine (power_n hNb).mono ?_); rintro e w4 ⟨v, rfl, rfl, rfl⟩)
          | (go_at_call 26; go_must (refine (list_n hNb).mono ?_); rintro e w4 ⟨v, rfl, rfl, rfl⟩)
          | (go_at_call 23; go_must (refine (used_n hNb).mono ?_); rintro e w4 ⟨v, rfl, rfl, rfl⟩))
        go_roundg 1
        case measure => omega
        case rel => exact ⟨1, rfl, by omega, rfl, hS3⟩
      · rw [if_neg (by rintro (e | e) <;> contradiction)]
        have h8b : (kind == 8) = false := by simpa using h8
        have h10b : (kind == 10) = false := by simpa using h10
        go_wp2_with (first
          | (go_at_call 16; go_must (refine (all_n hNb name).mono ?_); rintro e w4 ⟨v, rfl, rfl, rfl⟩)
          | (go_at_call 32; go_must (refine (size_n hNb name).mono ?_); rintro e w4 ⟨v, rfl, rfl, rfl⟩)
          | (go_at_call 31; go_must (refine (power_n hNb).mono ?_); rintro e w4 ⟨v, rfl, rfl, rfl⟩)
          | (go_at_call 26; go_must (refine (list_n hNb).mono ?_); rintro e w4 ⟨v, rfl, rfl, rfl⟩)
          | (go_at_call 23; go_must (refine (used_n hNb).mono ?_); rintro e w4 ⟨v, rfl, rfl, rfl⟩))
        go_roundg 1
        case measure => omega
        case rel => exact ⟨1, rfl, by omega, rfl, hS3⟩
    · have hS2 := hS.alloc (.cells #[.int .i64 0, .map none, .map none, .slice none 0 0, .bool false, .int .i64 0, .bool false] 64)
      have hN : Ro w0 (pt wr.heap.size (.cells #[.int .i64 0, .map none, .map none, .slice none 0 0, .bool false, .int .i64 0, .bool false] 64 (0,0)) :: pt q (.cells #[.int .i64 kind, .string name, .string to, .int .i64 n, .int .i64 k, .slice xa db.length xc, .slice ya yn yc] 44 (0,0)) :: FF) (Nob (ptr wr.heap.size)) := fun w hw => .inr ⟨_, rfl, hw.cellAt 2 _ rfl⟩
      have hfit' := hfit.more (L := [pt wr.heap.size (.cells #[.int .i64 0, .map none, .map none, .slice none 0 0, .bool false, .int .i64 0, .bool false] 64 (0,0)), pt q (.cells #[.int .i64 kind, .string name, .string to, .int .i64 n, .int .i64 k, .slice xa db.length xc, .slice ya yn yc] 44 (0,0))])
      have hb' : Ro w0 (pt wr.heap.size (.cells #[.int .i64 0, .map none, .map none, .slice none 0 0, .bool false, .int .i64 0, .bool false] 64 (0,0)) :: pt q (.cells #[.int .i64 kind, .string name, .string to, .int .i64 n, .int .i64 k, .slice xa db.length xc, .slice ya yn yc] 44 (0,0)) :: FF) (rdsl 1 (.slice xa db.length xc) (bys db)) := hbs2.cons.cons
      have p0 := hS2.pick1.cellAt 0 _ rfl
      have p1 := hS2.pick1.cellAt 1 _ rfl
      have p2 := hS2.pick1.cellAt 2 _ rfl
      have p3 := hS2.pick1.cellAt 3 _ rfl
      have p4 := hS2.pick1.cellAt 4 _ rfl
      have p5 := hS2.pick1.cellAt 5 _ rfl
      have p6 := hS2.pick1.cellAt 6 _ rfl
      have hdo := doesN_c hN hS2 ⟨kind, name, to, n, k, .slice xa db.length xc, db, .slice ya yn yc, dl⟩ hfit' hb'
      go_wp2_with fail
      refine hdo.mono ?_
      rintro e w3 ⟨v, rfl, rfl, hS3⟩
      clear hdo p0 p1 p2 p3 p4 p5 p6
      have hNb := hN _ hS3
      have p1 := hS3.pick1.cellAt 1 _ rfl
      have p0 := hS3.pick1.cellAt 0 _ rfl
      rcases hkk with h8 | h10 | ⟨h8, h10⟩
      · subst h8
        rw [if_pos (Or.inl rfl)]
        go_wp2_with (first
          | (go_at_call 16; go_must (refine (all_n hNb name).mono ?_); rintro e w4 ⟨v, rfl, rfl, rfl⟩)
          | (go_at_call 32; go_must (refine (size_n hNb name).mono ?_); rintro e w4 ⟨v, rfl, rfl, rfl⟩)
          | (go_at_call 31; go_must (refine (power_n hNb).mono ?_); rintro e w4 ⟨v, rfl, rfl, rfl⟩)
          | (go_at_call 26; go_must (refine (list_n hNb).mono ?_); rintro e w4 ⟨v, rfl, rfl, rfl⟩)
          | (go_at_call 23; go_must (refine (used_n hNb).mono ?_); rintro e w4 ⟨v, rfl, rfl, rfl⟩))
        go_roundg 0
        case measure => omega
        case rel => exact ⟨2, rfl, by omega, rfl, hS3.drop⟩
      · subst h10
        rw [if_pos (Or.inr rfl)]
        go_wp2_with (first
          | (go_at_call 16; go_must (refine (all_n hNb name).mono ?_); rintro e w4 ⟨v, rfl, rfl, rfl⟩)
          | (go_at_call 32; go_must (refine (size_n hNb name).mono ?_); rintro e w4 ⟨v, rfl, rfl, rfl⟩)
          | (go_at_call 31; go_must (refine (power_n hNb).mono ?_); rintro e w4 ⟨v, rfl, rfl, rfl⟩)
          | (go_at_call 26; go_must (refine (list_n hNb).mono ?_); rintro e w4 ⟨v, rfl, rfl, rfl⟩)
          | (go_at_call 23; go_must (refine (used_n hNb).mono ?_); rintro e w4 ⟨v, rfl, rfl, rfl⟩))
        go_roundg 0
        case measure => omega
        case rel => exact ⟨2, rfl, by omega, rfl, hS3.drop⟩
      · rw [if_neg (by rintro (e | e) <;> contradiction)]
        have h8b : (kind == 8) = false := by simpa using h8
        have h10b : (kind == 10) = false := by simpa using h10
        go_wp2_with (first
          | (go_at_call 16; go_must (refine (all_n hNb name).mono ?_); rintro e w4 ⟨v, rfl, rfl, rfl⟩)
          | (go_at_call 32; go_must (refine (size_n hNb name).mono ?_); rintro e w4 ⟨v, rfl, rfl, rfl⟩)
          | (go_at_call 31; go_must (refine (power_n hNb).mono ?_); rintro e w4 ⟨v, rfl, rfl, rfl⟩)
          | (go_at_call 26; go_must (refine (list_n hNb).mono ?_); rintro e w4 ⟨v, rfl, rfl, rfl⟩)
          | (go_at_call 23; go_must (refine (used_n hNb).mono ?_); rintro e w4 ⟨v, rfl, rfl, rfl⟩))
        go_roundg 0
        case measure => omega
        case rel => exact ⟨2, rfl, by omega, rfl, hS3.drop⟩
    · have hlv := lives_c hS.drop
      go_wp2_with fail
      refine hlv.mono ?_
      rintro e w5 ⟨v, rfl, rfl, hS5⟩
      clear hlv
      go_wp2
      go_ret
      exact ⟨.bool true, rfl, rfl, hFF _ hS5⟩
end
end Go.Proofs.Ytdhhbajggafdhaa
