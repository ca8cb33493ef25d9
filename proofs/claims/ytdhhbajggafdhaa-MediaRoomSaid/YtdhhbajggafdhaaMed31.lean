import Derived.Test.YtdhhbajggafdhaaMed29
/- does, whole; played. -/
namespace Go.Proofs.Ytdhhbajggafdhaa
open Go Go.Sl Go.Med Go.MapKept Go.RowKit
set_option linter.unusedVariables false
section
variable {w0 w W : World} {F : List HProp} {m fb nb b r : Nat} {M : Med} {bs : List Nat} {wv v bv dv : Value} {s : ByteArray} {fs : List Fil} {K : Nat} {f : Fil}
theorem does_c (ok : M.Ok K) (hK : K ≤ 1099511627776) (h : Sat w0 w (MedRep m M :: F)) (d : D) (fit : d.Fit w0 F) (hb : Ro w0 F (rdsl 1 d.bv (bys d.b))) :
    Calls Try.prog 24 #[ptr m, .agg (dCells d).toArray] w (Rtn (Did w0 F m (M.does d.cal))) := by
  obtain ⟨kind, name, to, n, k, dbv, db, dlv, dl⟩ := d
  obtain ⟨f1, f2, f3, f4, f5, f6, f7, f8⟩ := fit
  simp only at f1 f2 f3 f4 f5 f6 f7 f8 hb
  have hbl : db.length ≤ 1099511627776 := by omega
  have hn1 : name.size ≤ 9223372036854775807 := by omega
  have hn2 : to.size ≤ 9223372036854775807 := by omega
  refine Med.does_ind (P := fun r => Calls Try.prog 24 #[ptr m, .agg #[.int .i64 kind, .string name, .string to, .int .i64 n, .int .i64 k, dbv, dlv]] w (Rtn (Did w0 F m r))) ?_ ?_ ?_ ?_ ?_ ?_ ?_ ?_ ?_ ?_ ?_ ?_
  · intro hk; obtain rfl : kind = 0 := hk; exact does_create ok hK h name to n k hb hbl hn1
  · intro hk; obtain rfl : kind = 1 := hk; exact does_append ok hK h name to n k hb hbl
  · intro hk; obtain rfl : kind = 2 := hk; exact does_truncate ok hK h name to n k hb hbl
  · intro hk; obtain rfl : kind = 3 := hk; exact does_rename ok hK h name to n k hb hbl hn2
  · intro hk; obtain rfl : kind = 4 := hk; exact does_remove ok hK h name to n k hb hbl
  · intro hk; obtain rfl : kind = 5 := hk; exact does_sync ok hK h name to n k hb hbl
  · intro hk; obtain rfl : kind = 6 := hk; exact does_syncDir ok hK h name to n k hb hbl
  · intro hk; obtain rfl : kind = 7 := hk; exact does_arm ok hK h name to n k hb hbl
  · intro hk; obtain rfl : kind = 8 := hk; exact does_crash ok hK h name to n k hb hbl f6 f7 f8
  · intro hk; obtain rfl : kind = 9 := hk; exact does_setRoom ok hK h name to n k hb hbl
  · intro hk; obtain rfl : kind = 10 := hk; exact does_rot ok hK h name to n k hb hbl
  · intro hk; exact does_read ok hK h kind name to n k hb hbl f3 f4 hk
theorem D.In.more {d : D} {L : List HProp} (h : d.In w0 F) : d.In w0 (L ++ F) := by
  induction L with
  | nil => exact h
  | cons A L ih => exact ⟨ih.b.cons, ih.bc, ih.l.cons, ih.lc⟩
/-- What is known of a []Do that came in. -/
structure Dos (w0 W : World) (F : List HProp) (dv : Value) (ds : List D) : Prop where
  rd : Ro w0 F (rdsl 7 dv (ds.flatMap dCells))
  each : ∀ d ∈ ds, d.In w0 F ∧ d.At W
/-- What few makes. -/
structure Few (w0 : World) (F : List HProp) (n : Nat) (ds es : List D) : Prop where
  len : es.length = min n ds.length
  fit : ∀ e ∈ es, e.Fit w0 F
/-- few, in the frame L. -/
theorem few_r {L : List HProp} {ds : List D} (hd : Dos w0 W F dv ds) (h : Sat w0 w (L ++ F)) (n : Nat) (hn : n ≤ 1000) :
    Calls Try.prog 22 #[dv, .int .i64 n] w (Rtn fun v w' => ∃ es : List D, Few w0 F n ds es ∧ (∃ a c, v = .slice a es.length c) ∧ Sat w0 w' (osl 44 7 v (es.flatMap dCells) :: bsls es :: (L ++ F))) := by
  have drop : ∀ (L : List HProp) (w : World), Sat w0 w (L ++ F) → Sat w0 w F := by
    intro L
    induction L with
    | nil => exact fun w h => h
    | cons A L ih => exact fun w h => ih w h.drop
  refine (few_c h (drop L) ds hd.rd (fun d hd' => (hd.each d hd').1) n hn).mono ?_
  rintro e w1 ⟨v, rfl, es, h1, h2, h3⟩
  refine ⟨v, rfl, es, ⟨h1, fun e he => ?_⟩, ?_, h3⟩
  · obtain ⟨i, hi, rfl⟩ := List.getElem_of_mem he
    have hid : i < ds.length := by omega
    exact (h2 i _ _ (List.getElem?_eq_getElem hid) (List.getElem?_eq_getElem hi)).fit (hd.each _ (List.getElem_mem hid)).2
  · obtain ⟨a, n', c, rfl, hl, _⟩ := h3.rd
    have : (es.flatMap dCells).length = es.length * 7 := by rw [List.length_flatMap]; simp [dCells, List.map_const']
    exact ⟨a, c, by rw [show n' = es.length by omega]⟩
/-- One call out of a slice of calls. -/
theorem dos_cells {a : Option Addr} {n c i : Nat} {es : List D} {e : D} (h : Sat w0 w (osl 44 7 (.slice a n c) (es.flatMap dCells) :: F)) (hi : es[i]? = some e) :
    ∃ g, a = some ⟨g, 0, none⟩ ∧ ∀ (j : Nat) (x : Value), (dCells e)[j]? = some x → w.cell? ⟨g, i * 7 + j, none⟩ = some x := by
  have hlt : i < es.length := (List.getElem?_eq_some_iff.1 hi).1
  have hlen : (es.flatMap dCells).length = es.length * 7 := by rw [List.length_flatMap]; simp [dCells, List.map_const']
  obtain ⟨bk, off, rfl, hcell⟩ := rdsl_base h.rd (by omega)
  rcases Sat.osl_cases h with ⟨he, hx, _⟩ | ⟨g, n', cap', cs, he, _⟩
  · rw [hx] at hlen; simp at hlen; omega
  · cases he
    refine ⟨bk, rfl, fun j x hx => ?_⟩
    have hj : j < 7 := by
      have := (List.getElem?_eq_some_iff.1 hx).1
      simpa [dCells] using this
    have := hcell (i * 7 + j) x (by rw [flat_get dCells 7 (fun _ => rfl) es i e j hi hj]; exact hx)
    rw [Nat.zero_add] at this
    exact this
def cals (es : List D) : List Cal := es.map D.cal
theorem cals_take {es : List D} {i : Nat} {e : D} (hi : es[i]? = some e) : cals (es.take (i + 1)) = cals (es.take i) ++ [e.cal] := by
  obtain ⟨h1, rfl⟩ := List.getElem?_eq_some_iff.1 hi
  unfold cals
  rw [List.take_succ_eq_append_getElem h1, List.map_append]; rfl
/-- The cells of one call. -/
theorem dos_at {a : Option Addr} {n c i : Nat} {es : List D} {e : D} (h : Sat w0 w (osl 44 7 (.slice a n c) (es.flatMap dCells) :: F)) (hi : es[i]? = some e) :
    ∃ g, a = some ⟨g, 0, none⟩ ∧ w.cell? ⟨g, i * 7, none⟩ = some (.int .i64 e.kind) ∧ w.cell? ⟨g, i * 7 + 1, none⟩ = some (.string e.name) ∧ w.cell? ⟨g, i * 7 + 2, none⟩ = some (.string e.to) ∧
      w.cell? ⟨g, i * 7 + 3, none⟩ = some (.int .i64 e.n) ∧ w.cell? ⟨g, i * 7 + 4, none⟩ = some (.int .i64 e.m) ∧ w.cell? ⟨g, i * 7 + 5, none⟩ = some e.bv ∧ w.cell? ⟨g, i * 7 + 6, none⟩ = some e.lv := by
  obtain ⟨g, rfl, hx⟩ := dos_cells h hi
  exact ⟨g, rfl, hx 0 _ rfl, hx 1 _ rfl, hx 2 _ rfl, hx 3 _ rfl, hx 4 _ rfl, hx 5 _ rfl, hx 6 _ rfl⟩
theorem Few.inI {n : Nat} {ds es : List D} (h : Few w0 F n ds es) {i : Nat} : ∀ x ∈ cals (es.take i), x.n ≤ 9223372036854775807 := by
  intro x hx
  obtain ⟨e, he, rfl⟩ := List.mem_map.1 hx
  exact (h.fit e (List.mem_of_mem_take he)).n.2
set_option maxHeartbeats 2000000 in
theorem played_c {ds : List D} (hd : Dos w0 W F dv ds) (h : Sat w0 w F) (n : Nat) (hn : n ≤ 1000) :
    Calls Try.prog 25 #[dv, .int .i64 n] w (Rtn fun v w' => ∃ m l, v = ptr m ∧ l.length ≤ n ∧ (∀ x ∈ l, x.n ≤ 9223372036854775807) ∧ Sat w0 w' (MedRep m ((Med.new 5000).plays l) :: F)) := by
  have hnew := new_yes 5000 (by omega) h
  have hcast : ((5000 : Nat) : Int) = 5000 := rfl
  rw [hcast] at hnew
  clear hcast
  have Hd := Lib.hid hd; have Hn := Lib.hid hn
  clear hd hn
  go_enter Try.func25, Try.ntmps25
  go_wp2_with (first
    | (go_at_call 10; refine hnew.mono ?_; rintro e w1 ⟨v, rfl, m, rfl, hS1⟩)
    | (go_at_call 22; go_must (refine (few_r (L := [MedRep m (Med.new 5000)]) Hd.out hS1 n Hn.out).mono ?_); rintro e w2 ⟨v, rfl, es, hF, ⟨a, c, rfl⟩, hS2⟩))
  have hF2 := hF.len
  have HF := Lib.hid hF
  have hlen : es.length ≤ n := by omega
  have Hlen := Lib.hid hlen
  clear hnew hS1 hF hF2 hlen
  go_loopg [7] es.length (fun g iq wr => ∃ (i : Nat), g = es.length - i ∧ i ≤ es.length ∧ iq = .int .i64 i ∧
    Sat w0 wr (MedRep m ((Med.new 5000).plays (cals (es.take i))) :: osl 44 7 (.slice a es.length c) (es.flatMap dCells) :: bsls es :: F))
  case atStart => exact ⟨0, rfl, Nat.zero_le _, rfl, hS2.sel 3 [2, 0, 1] rfl rfl⟩
  case round =>
    obtain ⟨i, rfl, hi, rfl, hS⟩ := hrel
    by_cases hi' : i < es.length
    · obtain ⟨e, he⟩ : ∃ e, es[i]? = some e := ⟨es[i], List.getElem?_eq_getElem _⟩
      obtain ⟨g, rfl, c0, c1, c2, c3, c4, c5, c6⟩ := dos_at hS.pick1 he
      have hfit := HF.out.fit e (List.mem_of_getElem? he)
      have hok := Med.Ok.plays (Med.Ok.new 0 5000 (by omega)) (cals (es.take i)) HF.out.inI
      have hlt : (cals (es.take i)).length ≤ 1000 := by
        have h1 := Hlen.out; have h2 := Hn.out
        unfold cals; simp; omega
      have hdo := does_c hok (by omega) hS e (hfit.more (L := [_, _])) (bsls_rd he).cons
      have hnext : (Med.new 5000).plays (cals (es.take (i + 1))) = if e.kind = 7 then (Med.new 5000).plays (cals (es.take i)) else (((Med.new 5000).plays (cals (es.take i))).does e.cal).1 := by
        rw [cals_take he, Med.plays_snoc]; rfl
      have Hnext := Lib.hid hnext
      have hic : (i : Int) < (es.length : Int) := by omega
      have hwi : IntKind.i64.wrap ((i : Int) + 1) = (i : Int) + 1 := IntWalk.i64_in _ (by have h1 := Hlen.out; have h2 := Hn.out; omega)
      clear he hok hlt hfit hnext hS2
      by_cases h7 : e.kind = 7
      · rw [h7] at c0
        go_wp2
        go_roundg (es.length - (i + 1))
        case measure => omega
        case rel =>
          refine ⟨i + 1, rfl, Nat.succ_le_of_lt hi', by first | rfl | go_num, ?_⟩
          rw [Hnext.out, if_pos h7]; exact hS
      · obtain ⟨kind, name, to, dn, dm, dbv, db, dlv, dl⟩ := e
        simp only at c0 c1 c2 c3 c4 c5 c6 h7 Hnext
        go_wp2_with fail
        refine hdo.mono ?_
        rintro e w3 ⟨v, rfl, ov, rfl, _, hS3⟩
        clear hdo
        go_wp2
        go_roundg (es.length - (i + 1))
        case measure => omega
        case rel =>
          refine ⟨i + 1, rfl, Nat.succ_le_of_lt hi', by first | rfl | go_num, ?_⟩
          rw [Hnext.out, if_neg h7]; exact hS3.drop
    · obtain rfl : i = es.length := by omega
      have hic : ¬ (es.length : Int) < (es.length : Int) := by omega
      clear hi' hi hS2
      go_wp2
      go_ret
      rw [List.take_length] at hS
      refine ⟨_, rfl, m, rfl, cals es, by unfold cals; rw [List.length_map]; exact Hlen.out, ?_, hS.sel 3 [0] rfl rfl⟩
      have := HF.out.inI (i := es.length)
      rw [List.take_length] at this
      exact this
end
end Go.Proofs.Ytdhhbajggafdhaa
