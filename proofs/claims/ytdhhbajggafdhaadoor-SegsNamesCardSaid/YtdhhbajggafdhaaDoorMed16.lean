import Derived.Test.YtdhhbajggafdhaaDoorMed15
/- A crash, of a medium. -/
namespace Go.Proofs.YtdhhbajggafdhaaDoor
open Go Go.Sl Go.Med Go.MapKept Go.RowKit
section
variable {w0 w : World} {F : List HProp} {m fb nb b r : Nat} {M : Med} {bs : List Nat} {wv v bv lv : Value} {s : ByteArray} {fs : List Fil} {K : Nat} {f : Fil}
def ints (l : List Int) : List Value := l.map (.int .i64)
def inI (x : Int) : Prop := -9223372036854775808 ≤ x ∧ x ≤ 9223372036854775807
/-- A slice without its first. -/
def nxs : Value → Value
  | .slice a (n + 1) c => .slice (if c = 1 then a else a.map (·.add 1)) n (c - 1)
  | v => v
def nxv (v : Value) : Nat → Value
  | 0 => v
  | j + 1 => nxs (nxv v j)
def capOk (v : Value) : Prop := ∃ a n c, v = .slice a n c ∧ n ≤ c ∧ c ≤ 9223372036854775807
theorem capOk.nxs {v : Value} (h : capOk v) : capOk (nxs v) := by
  obtain ⟨a, n, c, rfl, h1, h2⟩ := h
  cases n with
  | zero => exact ⟨a, 0, c, rfl, h1, h2⟩
  | succ n => exact ⟨_, n, c - 1, rfl, by omega, by omega⟩
theorem capOk.nxv {v : Value} (h : capOk v) : ∀ j, capOk (nxv v j)
  | 0 => h
  | j + 1 => (h.nxv j).nxs
theorem rdsl_nxs {v : Value} {xs : List Value} (h : rdsl 1 v xs w) (hc : capOk v) : rdsl 1 (nxs v) (xs.drop 1) w := by
  obtain ⟨a, n, c, rfl, h1, h2⟩ := hc
  cases n with
  | zero =>
    obtain ⟨a', n', c', he, hl, hx⟩ := h
    cases he
    have : xs = [] := List.eq_nil_of_length_eq_zero (by omega)
    subst this
    exact ⟨a, 0, c, rfl, rfl, by simp⟩
  | succ n =>
    have hlen : xs.length = n + 1 := by obtain ⟨a', n', c', he, hl, hx⟩ := h; cases he; omega
    have := rdsl_slice h (lo := 1) (k := n) (by omega) (if c = 1 then a else a.map (·.add 1)) rfl h1 (c - 1)
    rw [List.take_of_length_le (by simp; omega)] at this
    exact this
theorem rdsl_nxv {v : Value} {l : List Int} (h : rdsl 1 v (ints l) w) (hc : capOk v) : ∀ j, rdsl 1 (nxv v j) (ints (l.drop j)) w
  | 0 => h
  | j + 1 => by
    have := rdsl_nxs (rdsl_nxv h hc j) (hc.nxv j)
    unfold ints at this
    rw [← List.map_drop, List.drop_drop] at this
    exact this
theorem num_drop (l : List Int) (j : Nat) : num (l.drop j) 0 = num l j := by
  unfold num
  rw [List.getD_eq_getElem?_getD, List.getElem?_drop, List.getD_eq_getElem?_getD]; rfl
theorem num_in {l : List Int} (h : ∀ x ∈ l, inI x) (j : Nat) : inI (num l j) := by
  unfold num
  rw [List.getD_eq_getElem?_getD]
  cases hj : l[j]? with
  | none => exact ⟨by simp, by simp⟩
  | some x => exact h x (List.mem_of_getElem? hj)
set_option maxHeartbeats 2000000 in
/-- The next number. -/
theorem next_c (l : List Int) (h : Sat w0 w (pt b (.cells #[bv] 47 (0,0)) :: F)) (hr : rdsl 1 bv (ints l) w) (hc : capOk bv) :
    Calls Tryd.prog 65 #[ptr b] w (Rtn fun v w' => v = .int .i64 (num l 0) ∧ Sat w0 w' (pt b (.cells #[nxs bv] 47 (0,0)) :: F)) := by
  obtain ⟨a, n, c, rfl, h1, h2⟩ := hc
  have c0 := h.cellAt 0 _ rfl
  have f0 := h.freeAt 0
  obtain ⟨a', n', c', he, hlen, hcell⟩ := hr
  cases he
  have hlen' : n = l.length := by unfold ints at hlen; simpa using hlen.symm
  cases l with
  | nil =>
    simp at hlen'; subst hlen'
    clear hcell hlen
    go_enter Tryd.func65, Tryd.ntmps65
    go_wp2
    go_ret
    exact ⟨.int .i64 0, rfl, rfl, h⟩
  | cons x l =>
    obtain rfl : n = l.length + 1 := by simpa using hlen'
    obtain ⟨p, rfl, hx⟩ := hcell 0 (.int .i64 x) rfl
    rw [show p.add 0 = p from by unfold Addr.add; simp] at hx
    clear hcell hlen hlen'
    have hS0 := h
    clear h
    have hz : ((l.length : Int) + 1 == 0) = false := by rw [beq_eq_false_iff_ne]; omega
    go_enter Tryd.func65, Tryd.ntmps65
    go_wp2_with fail
    · go_ret
      have e : nxs (.slice (some p) (l.length + 1) 1) = .slice (some p) l.length 0 := by simp [nxs]
      exact ⟨.int .i64 x, rfl, rfl, by subst_vars; rw [e]; exact hS0.set 0 _⟩
    · go_ret
      have hc1 : ¬ c = 1 := by assumption
      have e : nxs (.slice (some p) (l.length + 1) c) = .slice (some ⟨p.block, p.off + 1, none⟩) l.length (c - 1) := by simp [nxs, hc1, Addr.add]
      exact ⟨.int .i64 x, rfl, rfl, by rw [e]; exact hS0.set 0 _⟩
end
end Go.Proofs.YtdhhbajggafdhaaDoor
