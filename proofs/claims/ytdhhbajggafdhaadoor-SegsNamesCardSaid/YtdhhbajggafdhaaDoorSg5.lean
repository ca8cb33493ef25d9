import Derived.Test.YtdhhbajggafdhaaDoorSg4
import Derived.Test.YtdhhbajggafdhaaDoorRem
/- An append behind a row of constants; ok, Next, shut of a log without segments. -/
namespace Go.Proofs.YtdhhbajggafdhaaDoor
open Go Go.Sl Go.Med Go.MapKept Go.RowKit
set_option linter.unusedVariables false
section
variable {P : Program} {w0 w : World} {R : List HProp} {v x : Value} {xs ys : List Value}
theorem run_append_fresh (t ty e : TypeId) (i : TypeInfo) (z : Value) (ht : P.underlying t = some (.slice e)) (hi : P.info? e = some i) (hz : i.zero = some z)
    (hs : i.size = 1) (hzs : z.cells.size = 1) (b n cap : Nat) (hl : xs.length = n) (hcap : cap ≤ n) (hold : rdsl 1 (.slice (some ⟨b, 0, none⟩) n cap) xs w)
    (h : Sat w0 w R) (hx : rdsl 1 x ys w) (hy0 : ys ≠ []) (h63 : xs.length + ys.length ≤ maxLen) (hby : (xs.length + ys.length) * i.bytes ≤ 140737488355328) :
    ∃ b' n' c' w', (Builtin.append_ #[t, t] ty #[.slice (some ⟨b, 0, none⟩) n cap, x]).run P w = .ok (.slice (some ⟨b', 0, none⟩) n' c') w' ∧ Sat w0 w' (osl e 1 (.slice (some ⟨b', 0, none⟩) n' c') (xs ++ ys) :: R) := by
  obtain ⟨xa, m, c, rfl, hyl, hyc⟩ := hx
  obtain ⟨b1, n1, c1, he1, hol, hoc⟩ := hold
  cases he1
  rw [Nat.mul_one] at hyl
  have hm : 0 < m := by
    rw [← hyl]
    exact List.length_pos_iff.2 hy0
  obtain ⟨ad, rfl⟩ : ∃ ad, xa = some ad := by
    obtain ⟨y, hy⟩ : ∃ y, ys[0]? = some y := by
      cases ys with
      | nil => exact absurd rfl hy0
      | cons y _ => exact ⟨y, rfl⟩
    obtain ⟨b, hb, _⟩ := hyc 0 y hy
    exact ⟨b, hb⟩
  have hnews : ∀ j u, ys[j]? = some u → w.cell? (ad.add j) = some u := fun j u hj => by
    obtain ⟨b, hb, hx⟩ := hyc j u hj
    cases hb; exact hx
  have holds : ∀ j u, xs[j]? = some u → w.cell? ((⟨b, 0, none⟩ : Addr).add j) = some u := fun j u hj => by
    obtain ⟨b', hb, hx⟩ := hoc j u hj
    cases hb; exact hx
  have h63' : maxLen = 9223372036854775807 := rfl
  have hr := run_append_grow (P := P) w t ty e i z ht hi hz ⟨b, 0, none⟩ n cap xs (by rw [hs]; omega) holds ad m c ys (by rw [hs]; omega) hnews (by omega) (by omega) (growslice_fits (by omega) (by rw [← hl, ← hyl]; exact hby))
  refine ⟨_, _, _, _, hr, ?_⟩
  have hge := grownCap_ge w (n + m) cap e
  have hcm := grownCap_le_maxLen w (n + m) cap e (by omega)
  have := (h.drew).alloc (.cells (xs.toArray ++ ys.toArray ++ Builtin.zeroCells z.cells (grownCap w (n + m) cap e - (n + m))) e)
  refine Sat.osl_of_pt this ?_ hge ?_ hcm ?_
  · rw [List.length_append, hl, hyl, Nat.mul_one]
  · simp only [Array.size_append, List.size_toArray, size_zeroCells, hzs]
    omega
  · simp only [Array.toList_append, List.append_assoc]
    rw [← List.append_assoc]
    have e1 : (n + m) * 1 = (xs ++ ys).length := by rw [List.length_append, hl, hyl, Nat.mul_one]
    rw [e1]
    exact List.take_left
theorem step_append_fresh {ops : Array Oper} {o : Oper} {a : Act} {K : Act → World → Prop} {Q : Exit → Act → World → Prop} {E : Prop} (hgd : o.guard = none) (s y : Operand) (t : TypeId)
    (ho : o.op = .call { callee := .builtin .append, args := #[s, y], argTypes := #[t, t] })
    (e : TypeId) (i : TypeInfo) (z : Value) (ht : P.underlying t = some (.slice e)) (hi : P.info? e = some i) (hz : i.zero = some z)
    (hs : i.size = 1) (hzs : z.cells.size = 1) {b n cap : Nat} (hl : xs.length = n) (hcap : cap ≤ n) (hold : rdsl 1 (.slice (some ⟨b, 0, none⟩) n cap) xs w)
    (h : Sat w0 w R) (hv : a.eval s = .slice (some ⟨b, 0, none⟩) n cap) (hxv : a.eval y = x) (hx : rdsl 1 x ys w) (hy0 : ys ≠ []) (h63 : xs.length + ys.length ≤ maxLen) (hby : (xs.length + ys.length) * i.bytes ≤ 140737488355328)
    (hK : ∀ b' n' c' w', Sat w0 w' (osl e 1 (.slice (some ⟨b', 0, none⟩) n' c') (xs ++ ys) :: R) → K (a.put o.dst (.slice (some ⟨b', 0, none⟩) n' c')) w') :
    if Region.wanted o (yielded ops a.tmps) = true then Oper.wp P o a w K Q else E := by
  have hw : Region.wanted o (yielded ops a.tmps) = true := by simp [Region.wanted, hgd]
  rw [if_pos hw]
  obtain ⟨b', n', c', w', hr, h2⟩ := run_append_fresh (P := P) t o.type e i z ht hi hz hs hzs b n cap hl hcap hold h hx hy0 h63 hby
  unfold Oper.wp execOp
  simp only [ho, resolve, invoke, builtin, Sem.run_bind, Sem.run_pure, Result.andThen_ok, List.map_toArray, List.map_cons, List.map_nil, hv, hxv, hr]
  exact hK _ _ _ w' h2
end
section
variable {w0 w : World} {F : List HProp} {v bv dv x lv : Value} {q p m K : Nat} {L : Seg.Log} {M : Med}
set_option maxHeartbeats 1000000 in
theorem ok_c (h : Sat w0 w (logPt p m L lv :: F)) :
    Calls Tryd.prog 51 #[ptr p] w (Rtn fun v w' => v = .bool true ∧ w = w') := by
  have c0 := h.cellAt 0 _ rfl
  go_enter Tryd.func51, Tryd.ntmps51
  go_wp2
  go_ret
  exact ⟨_, rfl, rfl, rfl⟩
set_option maxHeartbeats 1000000 in
theorem next0_c (hl : L.l = []) (h : Sat w0 w (logPt p m L lv :: osl 98 2 lv (segw L.l) :: F)) :
    Calls Tryd.prog 43 #[ptr p] w (Rtn fun v w' => v = .int .i64 0 ∧ w = w') := by
  have hok := ok_c h
  have c2 := h.cellAt 2 _ rfl
  have hlv : ∃ a c, lv = .slice a 0 c := by
    obtain ⟨a, n, c, rfl, hn, _⟩ := Sat.rd h.pick1
    refine ⟨a, c, ?_⟩
    rw [hl] at hn
    have : n = 0 := by simp [segw] at hn; omega
    rw [this]
  obtain ⟨la, lc, rfl⟩ := hlv
  go_enter Tryd.func43, Tryd.ntmps43
  go_wp2_with (go_at_call 51; refine hok.mono ?_; rintro e w1 ⟨v, rfl, rfl, rfl⟩)
  go_ret
  exact ⟨_, rfl, rfl, rfl⟩
set_option maxHeartbeats 1000000 in
theorem shut0_c (hon : L.on = false) (h : Sat w0 w (logPt p m L lv :: F)) :
    Calls Tryd.prog 75 #[ptr p] w (Rtn fun v w' => v = errno 0 ∧ w = w') := by
  have c3 := h.cellAt 3 _ rfl
  rw [hon] at c3
  go_enter Tryd.func75, Tryd.ntmps75
  go_wp2
  go_ret
  exact ⟨_, rfl, rfl, rfl⟩
end
end Go.Proofs.YtdhhbajggafdhaaDoor
