import Derived.Test.YtdhhbajggafdhaaDoorFr4
import Derived.Laws.OwnMore
import Derived.Laws.CopyOwn
/- make, copy; frame.Size, Encode. -/
namespace Go.Proofs.YtdhhbajggafdhaaDoor
open Go Go.Sl Go.Med Go.MapKept Go.RowKit
set_option linter.unusedVariables false
section
variable {w0 w : World} {F : List HProp} {v bv dv : Value} {q : Nat}
/-- 'make([]byte, l, c)'. -/
theorem make_u8 (l c : Nat) (h1 : l ≤ c) (h2 : c ≤ 1099511627776) (w : World) :
    (Instr.makeSlice 31 (.int .i64 l) (.int .i64 c)).run Tryd.prog w = .ok (.slice (some ⟨w.heap.size, 0, none⟩) l c) (w.alloc (.cells (madeCells #[.int .u8 0] c) 5)) := by
  obtain ⟨i, hi, hz0, hz1, hz2⟩ := info8p
  have := run_make (P := Tryd.prog) w 31 5 i _ Tryd.underlying31 hi hz0 .i64 .i64 (l : Int) (c : Int) (by omega) (by omega) (by rw [hz2]; omega) (by omega)
  simp only [Int.toNat_natCast, hz1, Nat.mul_one] at this
  exact this
theorem made_bsl {l c : Nat} (h1 : l ≤ c) (h2 : c ≤ 1099511627776) (h : Sat w0 w (pt q (.cells (madeCells #[.int .u8 0] c) 5 (0,0)) :: F)) : Sat w0 w (bsl (.slice (some ⟨q, 0, none⟩) l c) (List.replicate l 0) :: F) := by
  refine Sat.osl_of_pt h (by rw [bys_len, List.length_replicate, Nat.mul_one]) h1 (by rw [size_madeCells, Nat.mul_one]; exact Nat.le_refl _) (by unfold maxLen; omega) ?_
  rw [toList_madeCells_one, Nat.mul_one, List.take_replicate, Nat.min_eq_left h1]
  unfold bys
  rw [List.map_replicate]; rfl
section
variable {ops : Array Oper} {rest : List Oper} {o : Oper} {a : Act} {Q : Exit → Act → World → Prop} {sv : Value}
/-- 'copy(d, s)', s no longer than d. -/
theorem wpList_copy_b (hgd : o.guard = none) (d s : Operand)
    (ho : o.op = .call { callee := .builtin .copy, args := #[d, s], argTypes := #[31, 31] }) (g n c : Nat) (hd : a.eval d = .slice (some ⟨g, 0, none⟩) n c) (hs : a.eval s = sv)
    {l x : Bs} (h : Sat w0 w (bsl (.slice (some ⟨g, 0, none⟩) n c) l :: F)) (hx : rdsl 1 sv (bys x) w) (h0 : x ≠ []) (hl : x.length ≤ l.length)
    (hK : ∀ w', Sat w0 w' (bsl (.slice (some ⟨g, 0, none⟩) n c) (x ++ l.drop x.length) :: F) → wpList Tryd.prog ops Q rest (a.put o.dst (goInt x.length)) w') : wpList Tryd.prog ops Q (o :: rest) a w := by
  obtain ⟨i, hi, hz0, hz1, hz2⟩ := info8p
  obtain ⟨sa, sn, sc, rfl, hsl, hcell⟩ := hx
  rw [bys_len, Nat.mul_one] at hsl
  obtain ⟨ad, rfl⟩ : ∃ ad, sa = some ad := by
    cases x with
    | nil => exact absurd rfl h0
    | cons b x => obtain ⟨ad, h1, _⟩ := hcell 0 _ rfl; exact ⟨ad, h1⟩
  rcases Sat.osl_cases h with ⟨he, _⟩ | ⟨g', n', c', cs, he, e1, e2, e3, e4, e5, hp⟩
  · cases he
  · cases he
    rw [bys_len, Nat.mul_one] at e1
    rw [Nat.mul_one] at e3 e5
    have hsz : (Tryd.prog.info? 5).map (·.size) = some 1 := by rw [hi]; simp [hz1]
    refine wpList_copy_own hgd d s _ _ ho 5 Tryd.underlying31 hsz g 0 n c ad sn sc hd hs cs 5 hp.at (bys x) (by rw [bys_len]; show _ = min sn n; omega) (fun j v hj => by obtain ⟨b, hb, hc⟩ := hcell j v hj; cases hb; exact hc) (by rw [bys_len]; omega) (bys_one _) ?_
    rw [bys_len]
    refine hK _ ?_
    have h1 := hp.turn (w' := w.setRow g (cs.toList.take 0 ++ (bys x ++ cs.toList.drop (0 + x.length))).toArray) rfl rfl rfl (by simp) (setRow_heap w g cs _ _ _ hp.at) (fun j hj _ => setRow_other w g j _ hj)
    refine Sat.osl_of_pt h1 ?_ e2 ?_ e4 ?_
    · rw [bys_len, List.length_append, List.length_drop, Nat.mul_one]; omega
    · simp only [List.take_zero, List.nil_append, List.size_toArray, List.length_append, List.length_drop, bys_len, Array.length_toList]; omega
    · simp only [List.take_zero, List.nil_append, Nat.zero_add, Nat.mul_one]
      unfold bys at e5 ⊢
      rw [List.map_append, List.map_drop, ← e5, List.take_append, List.length_map, List.take_of_length_le (by simp; omega), List.drop_take]
end
set_option maxRecDepth 20000 in
set_option maxHeartbeats 1000000 in
theorem fsize_c (x : Frm.Ent) (hk : x.key.length = 32) (a : Option Addr) (c : Nat) (h : Sat w0 w F) (hL : x.data.length ≤ 1099511627776) :
    Calls Tryd.prog 27 #[.agg (entA x (.slice a x.data.length c))] w (Rtn fun v w' => v = .int .i64 (Frm.size x : Nat) ∧ Sat w0 w' F) := by
  have hA := h.alloc (.cells (entA x (.slice a x.data.length c)) 33)
  have hch := check_c x hk a c hA
  have hat := hA.at
  have hsz := entA_size x (.slice a x.data.length c) hk
  have Hat := Lib.hid hat; have Hsz := Lib.hid hsz; have Hk := Lib.hid hk; have HL := Lib.hid hL
  clear hat hsz hk hA hL
  go_enter Tryd.func27, Tryd.ntmps27
  go_wp2_with (refine wpList_load_row (P := Tryd.prog) (by rfl) 33 _ (by rfl) _ (by rfl) _ _ (0, 0) _ Hat.out Tryd.underlying33 (by rfl) (by rw [Hsz.out]; kernel_rfl) ?_)
  refine hch.mono ?_
  rintro e w1 ⟨v, rfl, rfl, hS1⟩
  have c0 := hS1.cellAt 0 _ (entA_0 x _)
  have c33 := hS1.cellAt 33 _ (entA_33 x _ Hk.out)
  clear hch
  by_cases hc : Frm.check x = 0
  · by_cases ht : x.tag = 2
    · have Hf := Lib.hid (show Frm.size x = 9 by unfold Frm.size; simp [hc, ht])
      rw [hc]
      rw [ht] at c0
      go_wp2
      go_ret
      exact ⟨.int .i64 9, rfl, by rw [Hf.out]; rfl, hS1.drop⟩
    · have Hf := Lib.hid (show Frm.size x = 41 + x.data.length by unfold Frm.size; simp [hc, ht])
      have htb : (x.tag == 2) = false := by simpa using ht
      have hwr : IntKind.i64.wrap (41 + (x.data.length : Int)) = 41 + (x.data.length : Int) := IntWalk.i64_in _ (by have := HL.out; omega)
      rw [hc]
      clear ht
      generalize x.tag = T at *
      go_wp2
      go_ret
      exact ⟨.int .i64 (41 + (x.data.length : Int)), rfl, by rw [Hf.out]; rfl, hS1.drop⟩
  · have Hf := Lib.hid (show Frm.size x = 0 by unfold Frm.size; simp [hc])
    have hcb : (Frm.check x == 0) = false := by simpa using hc
    clear hc
    generalize Frm.check x = E at *
    go_wp2
    go_ret
    exact ⟨.int .i64 0, rfl, by rw [Hf.out]; rfl, hS1.drop⟩
end
end Go.Proofs.YtdhhbajggafdhaaDoor
