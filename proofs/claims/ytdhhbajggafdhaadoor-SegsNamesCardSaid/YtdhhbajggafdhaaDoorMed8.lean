import Derived.Test.YtdhhbajggafdhaaDoorMed7
import Derived.Test.YtdhhbajggafdhaaDoorMedQ
/- Used; the names in a map; copies of maps. -/
namespace Go.Proofs.YtdhhbajggafdhaaDoor
open Go Go.Sl Go.Med Go.MapKept Go.RowKit
section
variable {w0 w : World} {F : List HProp} {m fb nb b r : Nat} {M : Med} {bs : List Nat} {wv v bv : Value} {s : ByteArray} {l : Names} {fs : List Fil}

/-- A file among all: its block's cells. -/
theorem file_cells (h : Sat w0 w (filesRep bs fs :: F)) (hl : bs.length = fs.length) {i : Nat} (hi : i < fs.length) :
    ∃ fa fn fc na nc wv, w.cell? ⟨bs.getD i 0, 0, none⟩ = some (.slice fa fn fc) ∧ w.cell? ⟨bs.getD i 0, 1, none⟩ = some (.slice na (fs.getD i Fil.new).now.length nc) ∧ w.cell? ⟨bs.getD i 0, 2, none⟩ = some wv ∧
      rdsl 1 (.slice na (fs.getD i Fil.new).now.length nc) (bys (fs.getD i Fil.new).now) w ∧ (fs.getD i Fil.new).now.length ≤ nc ∧ nc ≤ 9223372036854775807 ∧ (na = none ∧ nc = 0 ∨ ∃ g, na = some ⟨g, 0, none⟩) := by
  obtain ⟨G, h1, _⟩ := files_take bs fs i hl hi
  rw [h1] at h
  obtain ⟨fv, nv, wv, ws, hws, h⟩ := FilRep.open (Sat.star.1 h)
  obtain ⟨fa, fn, fc, rfl, _⟩ := (h.sel 2 [1] rfl rfl).rd
  have hN := h.sel 3 [2] rfl rfl
  have hr := hN.rd
  rcases Sat.osl_cases hN with ⟨rfl, hx, _⟩ | ⟨g, n, cap, cs, rfl, hx, h1, _, h3, _, _⟩
  · have hx0 : (fs.getD i Fil.new).now.length = 0 := by rw [← bys_len]; exact congrArg List.length hx
    rw [hx0]
    exact ⟨fa, fn, fc, none, 0, wv, h.cellAt 0 _ rfl, h.cellAt 1 _ rfl, h.cellAt 2 _ rfl, hr, Nat.le_refl _, by omega, .inl ⟨rfl, rfl⟩⟩
  · rw [bys_len, Nat.mul_one] at hx
    subst hx
    exact ⟨fa, fn, fc, _, cap, wv, h.cellAt 0 _ rfl, h.cellAt 1 _ rfl, h.cellAt 2 _ rfl, hr, h1, h3, .inr ⟨g, rfl⟩⟩
theorem mapL_pick {todo : Names} {k v : Value} {left : List (Value × Value)} (h : (mapL bs todo).Perm ((k, v) :: left)) :
    ∃ p todo', todo.Perm (p :: todo') ∧ k = .string p.1 ∧ v = ptr (bs.getD p.2 0) ∧ left.Perm (mapL bs todo') := by
  have hm : (k, v) ∈ mapL bs todo := h.mem_iff.2 (.head _)
  obtain ⟨p, hp, e⟩ := List.mem_map.1 hm
  simp only [Prod.mk.injEq] at e
  obtain ⟨t1, t2, rfl⟩ := List.append_of_mem hp
  have h1 : (t1 ++ p :: t2).Perm (p :: (t1 ++ t2)) := List.perm_middle
  refine ⟨p, t1 ++ t2, h1, e.1.symm, e.2.symm, ?_⟩
  have h2 : ((k, v) :: left).Perm ((k, v) :: mapL bs (t1 ++ t2)) := by
    refine h.symm.trans ((mapL_perm h1).trans ?_)
    show List.Perm ((Value.string p.1, ptr (bs.getD p.2 0)) :: mapL bs (t1 ++ t2)) _
    rw [e.1, e.2]
  exact (List.Perm.cons_inv h2)

def sumOf (M : Med) (l : Names) : Nat := (l.map fun p => (M.file p.2).now.length).sum
theorem sumOf_perm {l l' : Names} (h : l.Perm l') : sumOf M l = sumOf M l' := (h.map _).sum_nat

abbrev usedCon (m : Nat) (M : Med) (fb nb : Nat) (wv : Value) (bs : List Nat) (F : List HProp) : List HProp := medPt m M fb nb wv :: omap .string nb (mapL bs M.now) :: filesRep bs M.files :: F
set_option maxHeartbeats 1000000 in
theorem used_c (h : Sat w0 w (usedCon m M fb nb wv bs F)) (hl : bs.length = M.files.length) (hid : ∀ p ∈ M.now, p.2 < M.files.length) (hu : M.used ≤ 9223372036854775807) :
    Calls Tryd.prog 22 #[ptr m] w (Rtn fun v w' => v = .int .i64 M.usedTold ∧ Sat w0 w' (usedCon m M fb nb wv bs F)) := by
  have hd := dead_c h
  have c2 := h.cellAt 2 _ rfl
  cases ho : M.off
  · rw [ho] at hd
    have Hu : Hid (M.usedTold = M.used) := by show _ = _; unfold Med.usedTold; rw [ho]; rfl
    clear ho
    go_enter Tryd.func22, Tryd.ntmps22
    go_wp2_with (first
      | (go_at_call 55; refine hd.mono ?_; rintro e w1 ⟨v, rfl, rfl, rfl⟩)
      | (at_range; go_must (refine wpList_range_sl (by rfl) _ _ _ _ (by rfl) Tryd.underlying91 (by rfl) h.pick1 ?_); intro r w1 hS))
    go_frame
    go_loopg [3] M.now.length (fun g n wr => ∃ (acc : Nat) (todo : Names) (left : List (Value × Value)), n = .int .i64 acc ∧ g = todo.length ∧ left.Perm (mapL bs todo) ∧ (∀ p ∈ todo, p ∈ M.now) ∧ acc + sumOf M todo = M.used ∧
      Sat w0 wr (rng .string nb r (mapL bs M.now) left :: medPt m M fb nb wv :: filesRep bs M.files :: F))
    case atStart => exact ⟨0, M.now, _, rfl, rfl, List.Perm.refl _, fun _ h => h, by simp [Med.used, sumOf], hS⟩
    case round =>
      obtain ⟨acc, todo, left, rfl, rfl, hleft, hsub, hacc, hS⟩ := hrel
      have Hacc := Lib.hid hacc
      have Hsub := Lib.hid hsub
      have hb : acc ≤ M.used := by omega
      clear hacc hsub
      go_wp2_with (first
        | (at_next; go_must (refine wpList_next_sl (by rfl) _ (by rfl) (by rfl) hS ?_ ?_)))
      · intro hnil
        have Hnil := Lib.hid hnil; clear hnil
        go_wp2
        go_ret
        refine ⟨.int .i64 acc, rfl, ?_, ?_⟩
        · have h0 : todo = [] := by
            have := hleft
            rw [Hnil.out] at this
            simpa [mapL] using this.symm
          subst h0
          have := Hacc.out
          simp only [sumOf, List.map_nil, List.sum_nil, Nat.add_zero] at this
          rw [Hu.out, this]
        · exact (hS.rng_done).pick1
      · intro k v left' w1 hp hS1 hen
        obtain ⟨p, todo', hp', rfl, rfl, hl'⟩ := mapL_pick (hleft.symm.trans hp)
        have hpi : p.2 < M.files.length := hid p (Hsub.out p (hp'.mem_iff.2 (.head _)))
        obtain ⟨fa, fn, fc, na, nc, wv', f0, f1, f2, _, _, _, hna⟩ := file_cells (hS1.sel 3 [2] rfl rfl) hl hpi
        have hsum : Hid (sumOf M todo = (M.file p.2).now.length + sumOf M todo') := by
          show _ = _
          rw [sumOf_perm hp']; simp [sumOf]
        have hb2 : acc + (M.file p.2).now.length ≤ M.used := by
          have h1 := Hacc.out
          have h2 := hsum.out
          omega
        have Hp := Lib.hid hp'
        have Hl := Lib.hid hl'
        clear hp hp' hl' hleft
        clear hna
        change w1.cell? ⟨bs.getD p.2 0, 1, none⟩ = some (.slice na (M.file p.2).now.length nc) at f1
        generalize bs.getD p.2 0 = q at *
        generalize hL : (M.file p.2).now.length = L at *
        have HL := Lib.hid hL; clear hL
        go_wp2
        go_roundg todo'.length
        case measure => have := Hp.out.length_eq; simp at this; omega
        case rel =>
          refine ⟨acc + L, todo', left', by go_num, rfl, Hl.out, fun x hx => Hsub.out x (Hp.out.mem_iff.2 (.tail _ hx)), ?_, hS1⟩
          have h1 := Hacc.out
          have h2 := hsum.out
          omega
  · rw [ho] at hd
    have Hu : Hid (M.usedTold = 0) := by show _ = _; unfold Med.usedTold; rw [ho]; rfl
    clear ho
    go_enter Tryd.func22, Tryd.ntmps22
    go_wp2_with (go_at_call 55; refine hd.mono ?_; rintro e w1 ⟨v, rfl, rfl, rfl⟩)
    go_ret
    exact ⟨.int .i64 0, rfl, by rw [Hu.out]; rfl, h⟩
end
end Go.Proofs.YtdhhbajggafdhaaDoor
