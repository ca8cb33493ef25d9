import Derived.Test.YtdhhbajggafdhaaDoorMem
/- Ranging over a map. -/
namespace Go.Sl
open Go Go.MapKept
abbrev kv (e : MapEntry) : Value × Value := (e.key, e.val)
theorem inj_of_nodup_map {α β : Type} {f : α → β} : ∀ {l : List α}, (l.map f).Nodup → ∀ {x y : α}, x ∈ l → y ∈ l → f x = f y → x = y
  | [], _, _, _, h, _, _ => by cases h
  | z :: l, hn, x, y, hx, hy, e => by
    simp only [List.map_cons, List.nodup_cons] at hn
    rcases List.mem_cons.1 hx with h1 | h1 <;> rcases List.mem_cons.1 hy with h2 | h2
    · rw [h1, h2]
    · subst h1; exact (hn.1 (List.mem_map.2 ⟨y, h2, e.symm⟩)).elim
    · subst h2; exact (hn.1 (List.mem_map.2 ⟨x, h1, e⟩)).elim
    · exact inj_of_nodup_map hn.2 h1 h2 e
/-- Block r is an iterator over the map in block b, which has the entries l; left: those that are still to come. -/
def rng (d : TypeDesc) (b r : Nat) (l left : List (Value × Value)) : HProp := fun h =>
  ∃ es clock seen, (es.toList.map kv).Perm l ∧ Stamped es clock ∧ (∀ x ∈ es.toList, IsKey d x.key) ∧ ((es.toList.filter fun e => !seen.contains e.born).map kv).Perm left ∧
    star (pt b (.map es clock)) (pt r (.mapIter (some b) clock seen clock)) h
section
variable {P : Program} {w0 w : World} {R : List HProp} {d : TypeDesc} {b r : Nat} {l left : List (Value × Value)}
theorem Sat.rng_open (h : Sat w0 w (rng d b r l left :: R)) : ∃ es clock seen, (es.toList.map kv).Perm l ∧ Stamped es clock ∧ (∀ x ∈ es.toList, IsKey d x.key) ∧ ((es.toList.filter fun e => !seen.contains e.born).map kv).Perm left ∧
    Sat w0 w (pt b (.map es clock) :: pt r (.mapIter (some b) clock seen clock) :: R) := by
  obtain ⟨ha, x, hx, p, q, dd, rfl, ⟨es, c, se, h1, h2, h3, h4, h5⟩, hq⟩ := h
  refine ⟨es, c, se, h1, h2, h3, h4, Sat.star.1 ⟨ha, _, hx, p, q, dd, rfl, h5, hq⟩⟩
theorem Sat.rng_shut {es : Array MapEntry} {clock : Nat} {seen : Array Nat} (h : Sat w0 w (pt b (.map es clock) :: pt r (.mapIter (some b) clock seen clock) :: R))
    (h1 : (es.toList.map kv).Perm l) (h2 : Stamped es clock) (h3 : ∀ x ∈ es.toList, IsKey d x.key) (h4 : ((es.toList.filter fun e => !seen.contains e.born).map kv).Perm left) : Sat w0 w (rng d b r l left :: R) :=
  (Sat.star.2 h).head fun _ hx => ⟨es, clock, seen, h1, h2, h3, h4, hx⟩
theorem Sat.rng_done (h : Sat w0 w (rng d b r l left :: R)) : Sat w0 w (omap d b l :: R) := by
  obtain ⟨es, c, se, h1, h2, h3, h4, h5⟩ := h.rng_open
  exact (h5.pick1.drop).omap_shut h1 h2 h3
theorem Sat.rng_perm {l' : List (Value × Value)} (h : Sat w0 w (rng d b r l left :: R)) (hp : left.Perm l') : Sat w0 w (rng d b r l l' :: R) := by
  obtain ⟨es, c, se, h1, h2, h3, h4, h5⟩ := h.rng_open
  exact h5.rng_shut h1 h2 h3 (h4.trans hp)
theorem run_range_sl {t k e : TypeId} (ht : P.underlying t = some (.map k e)) (h : Sat w0 w (omap d b l :: R)) :
    ∃ r w', (Instr.range t (.map (some b))).run P w = .ok (.pointer (some ⟨r, 0, none⟩)) w' ∧ Sat w0 w' (rng d b r l l :: R) := by
  obtain ⟨es, c, h1, h2, h3, h4⟩ := h.omap_open
  have hb := h4.at
  refine ⟨w.heap.size, w.alloc (.mapIter (some b) c #[] c), ?_, ?_⟩
  · simp [Instr.range, run_underlying ht, MapKept.run_getObj_map hb, Result.andThen]
  · exact (h4.alloc (.mapIter (some b) c #[] c)).pick1.rng_shut h1 h2 h3 (by rw [List.filter_eq_self.2 (by simp)]; exact h1)
theorem run_next_sl (h : Sat w0 w (rng d b r l left :: R)) (ty : TypeId) :
    (left = [] ∧ (Instr.next (.pointer (some ⟨r, 0, none⟩)) false ty).run P w = .ok (.tuple #[.bool false]) w) ∨
    ∃ k v left' w', left.Perm ((k, v) :: left') ∧ (Instr.next (.pointer (some ⟨r, 0, none⟩)) false ty).run P w = .ok (.tuple #[.bool true, k, v]) w' ∧ Sat w0 w' (rng d b r l left' :: R) ∧
      (Instr.entry (.pointer (some ⟨r, 0, none⟩))).run P w' = .ok (.tuple #[k, v]) w' := by
  obtain ⟨es, c, se, h1, h2, h3, h4, h5⟩ := h.rng_open
  have hb := h5.at
  have hr := h5.pick1.at
  have hne := h5.ne
  have hgr : (getObj r).run P w = .ok (.mapIter (some b) c se c) w := by simp [getObj, Sem.run, hr]
  have hgb : (getObj b).run P w = .ok (.map es c) w := MapKept.run_getObj_map hb
  have hborn := h2.1
  have hold : (es.filter fun e => !se.contains e.born).filter (fun e => decide (e.born < c)) = es.filter fun e => !se.contains e.born := by
    apply Array.ext'
    simp only [Array.toList_filter]
    rw [List.filter_eq_self]
    intro x hx
    simpa using hborn x ((List.mem_filter.1 hx).1)
  have hnew : (es.filter fun e => !se.contains e.born).filter (fun e => decide (e.born ≥ c)) = #[] := by
    apply Array.ext'
    simp only [Array.toList_filter]
    rw [List.filter_eq_nil_iff]
    intro x hx
    have := hborn x ((List.mem_filter.1 hx).1)
    simp; omega
  have hall : (!se.isEmpty && !es.isEmpty && es.all (fun e => decide (e.born ≥ c))) = false := by
    by_cases he : es.isEmpty
    · simp [he]
    · have : es.all (fun e => decide (e.born ≥ c)) = false := by
        rw [Array.all_eq_false]
        have : 0 < es.size := by
          rcases Nat.eq_zero_or_pos es.size with h | h
          · exact absurd (by simpa using h) he
          · exact h
        refine ⟨0, this, ?_⟩
        have := hborn es[0] (by simp)
        simp; omega
      simp [this]
  generalize hlf : (es.filter fun e => !se.contains e.born) = lf at *
  have hlf' : lf.toList = es.toList.filter fun e => !se.contains e.born := by rw [← hlf]; simp
  rw [← hlf'] at h4
  have key : (Instr.next (.pointer (some ⟨r, 0, none⟩)) false ty).run P w =
      (do
        let candidates := (if lf.isEmpty then #[none] else #[]) ++ lf.map some
        match candidates[← choose (.mapNext candidates.size)]? with
        | some (some e) =>
          setObj r (.mapIter (some b) c (se.push e.born) c)
          pure (.tuple #[.bool true, e.key, e.val])
        | some none => pure (.tuple #[.bool false])
        | none => stuck "Next: no such candidate" : Sem Value).run P w := by
    unfold Instr.next
    simp only [Sem.run_bind, hgr, Result.andThen_ok, hgb, hall, Bool.false_eq_true, if_false, hlf, hold, hnew, Array.append_empty]
    rfl
  by_cases hle : lf = #[]
  · left
    subst hle
    have : left = [] := by simpa using h4.symm
    refine ⟨this, ?_⟩
    rw [key]
    simp [choose, Sem.run, Question.forced, Result.andThen]
  · right
    have hpos : 0 < lf.size := by
      rcases Nat.eq_zero_or_pos lf.size with h | h
      · exact absurd (by simpa using h) hle
      · exact h
    have hemp : lf.isEmpty = false := by simpa using hle
    -- which one
    obtain ⟨i, w1, hi, hw1, hch⟩ : ∃ i w1, i < lf.size ∧ (w1 = w ∨ w1 = w.drew) ∧ (choose (.mapNext (lf.map some).size)).run P w = .ok i w1 := by
      by_cases h1 : lf.size ≤ 1
      · refine ⟨0, w, hpos, .inl rfl, ?_⟩
        simp [choose, Sem.run, Question.forced, h1]
      · refine ⟨w.tape w.drawn (.mapNext (lf.map some).size) % lf.size, w.drew, Nat.mod_lt _ hpos, .inr rfl, ?_⟩
        simp [choose, Sem.run, Question.forced, h1, Question.cut]
    have h5' : Sat w0 w1 (pt b (.map es c) :: pt r (.mapIter (some b) c se c) :: R) := by
      rcases hw1 with rfl | rfl
      · exact h5
      · exact h5.drew
    have hr1 := h5'.pick1.at
    have hget : (lf.map some)[i]? = some (some lf[i]) := by simp [hi]
    obtain ⟨x, hx⟩ : ∃ x, x = lf[i] := ⟨_, rfl⟩
    have hxm : x ∈ es.toList.filter fun e => !se.contains e.born := by rw [← hlf', hx]; simp
    have hxes : x ∈ es.toList := (List.mem_filter.1 hxm).1
    have hset : (setObj r (.mapIter (some b) c (se.push x.born) c)).run P w1 = .ok () { w1 with heap := w1.heap.setIfInBounds r (.mapIter (some b) c (se.push x.born) c) } := by
      simp [setObj, Sem.run, hr1]
    have h6 : Sat w0 { w1 with heap := w1.heap.setIfInBounds r (.mapIter (some b) c (se.push x.born) c) } (pt r (.mapIter (some b) c (se.push x.born) c) :: pt b (.map es c) :: R) :=
      h5'.pick1.turn rfl rfl rfl (by simp) (heap_set hr1).1 (fun i hi _ => (heap_set hr1).2 i hi)
    have hnd := h2.2.1
    refine ⟨x.key, x.val, (es.toList.filter fun e => !(se.push x.born).contains e.born).map kv, _, ?_, ?_, h6.pick1.rng_shut h1 h2 h3 (List.Perm.refl _), ?_⟩
    · -- the others are those that are still to come
      refine h4.symm.trans ?_
      rw [hlf']
      have hbn : ∀ y ∈ es.toList, y.born = x.born → y = x := by
        intro y hy hyx
        exact inj_of_nodup_map hnd hy hxes hyx
      have hmem : x ∈ es.toList.filter fun e => !se.contains e.born := hxm
      have : (es.toList.filter fun e => !se.contains e.born).Perm (x :: es.toList.filter fun e => !(se.push x.born).contains e.born) := by
        have hf : (es.toList.filter fun e => !(se.push x.born).contains e.born) = (es.toList.filter fun e => !se.contains e.born).filter fun e => e.born != x.born := by
          rw [List.filter_filter]
          apply List.filter_congr
          intro y _
          by_cases hb : y.born = x.born <;> simp [hb]
        rw [hf]
        have hnd' : ((es.toList.filter fun e => !se.contains e.born).map (·.born)).Nodup := hnd.sublist ((List.filter_sublist).map _)
        clear hf h4 hlf' hlf key
        generalize (es.toList.filter fun e => !se.contains e.born) = L at *
        induction L with
        | nil => cases hmem
        | cons y L ih =>
          simp only [List.map_cons, List.nodup_cons] at hnd'
          rcases List.mem_cons.1 hmem with rfl | hm
          · rw [List.filter_cons_of_neg (by simp)]
            rw [List.filter_eq_self.2]
            intro z hz
            simp only [bne_iff_ne, ne_eq]
            intro e
            exact hnd'.1 (List.mem_map.2 ⟨z, hz, e⟩)
          · have hyx : y.born ≠ x.born := fun e => hnd'.1 (List.mem_map.2 ⟨x, hm, e.symm⟩)
            rw [List.filter_cons_of_pos (by simpa using hyx)]
            exact ((ih hm hm hnd'.2).cons y).trans (List.Perm.swap _ _ _)
      simpa using this.map kv
    · rw [key, hemp]
      simp only [Bool.false_eq_true, if_false, Array.empty_append, Sem.run_bind, hch, Result.andThen_ok, hget, ← hx, hset, Sem.run_pure]
    · have hr6 := h6.at
      have hb6 := h6.pick1.at
      have hg1 : ∀ w', w'.heap[r]? = some (.mapIter (some b) c (se.push x.born) c) → (getObj r).run P w' = .ok (.mapIter (some b) c (se.push x.born) c) w' := by
        intro w' hw; simp [getObj, Sem.run, hw]
      have hfind : es.find? (fun e => e.born == x.born) = some x := by
        rw [← Array.find?_toList]
        cases hf : es.toList.find? (fun e => e.born == x.born) with
        | none =>
          rw [List.find?_eq_none] at hf
          exact absurd (by simp) (hf x hxes)
        | some y =>
          have h7 := List.find?_some hf
          have h8 := List.mem_of_find?_eq_some hf
          rw [inj_of_nodup_map hnd h8 hxes (by simpa using h7)]
      unfold Instr.entry
      simp only [Sem.run_bind, hg1 _ hr6, Result.andThen_ok, MapKept.run_getObj_map hb6, Array.back?_push, hfind]
      simp
variable {ops : Array Oper} {rest : List Oper} {o : Oper} {a : Act} {Q : Exit → Act → World → Prop}
theorem wpList_range_sl (hg : o.guard = none) (m : Operand) (t k e : TypeId) (hop : o.op = Op.range t m) (ht : P.underlying t = some (.map k e)) (hm : a.eval m = .map (some b)) (h : Sat w0 w (omap d b l :: R))
    (hK : ∀ r w', Sat w0 w' (rng d b r l l :: R) → wpList P ops Q rest (a.put o.dst (.pointer (some ⟨r, 0, none⟩))) w') : wpList P ops Q (o :: rest) a w := by
  refine wpList_plain hg fun K hK' => ?_
  obtain ⟨r, w', hr, hs⟩ := run_range_sl (P := P) ht h
  unfold Oper.wp
  simp [execOp, hop, hm, hr, Result.andThen]
  exact hK' _ _ (hK r w' hs)
theorem wpList_next_sl (hg : o.guard = none) (it : Operand) (hop : o.op = Op.next it false) (hit : a.eval it = .pointer (some ⟨r, 0, none⟩)) (h : Sat w0 w (rng d b r l left :: R))
    (hnil : left = [] → wpList P ops Q rest (a.put o.dst (.tuple #[.bool false])) w)
    (hK : ∀ k v left' w', left.Perm ((k, v) :: left') → Sat w0 w' (rng d b r l left' :: R) → (Instr.entry (.pointer (some ⟨r, 0, none⟩))).run P w' = .ok (.tuple #[k, v]) w' →
      wpList P ops Q rest (a.put o.dst (.tuple #[.bool true, k, v])) w') : wpList P ops Q (o :: rest) a w := by
  refine wpList_plain hg fun K hK' => ?_
  unfold Oper.wp
  rcases run_next_sl (P := P) h o.type with ⟨h1, h2⟩ | ⟨k, v, left', w', h1, h2, h3, h4⟩
  · simp [execOp, hop, hit, h2, Result.andThen]
    exact hK' _ _ (hnil h1)
  · simp [execOp, hop, hit, h2, Result.andThen]
    exact hK' _ _ (hK k v left' w' h1 h3 h4)
end
end Go.Sl
