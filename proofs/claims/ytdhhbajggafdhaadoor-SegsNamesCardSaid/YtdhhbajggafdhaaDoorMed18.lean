import Derived.Test.YtdhhbajggafdhaaDoorMed17
/- The law's own small functions: Cut, Numbers, Same, begins, lives. -/
namespace Go.Proofs.YtdhhbajggafdhaaDoor
open Go Go.Sl Go.Med Go.MapKept Go.RowKit
section
variable {w0 w : World} {F : List HProp} {m fb nb b r : Nat} {M : Med} {bs : List Nat} {wv v bv lv av : Value} {s : ByteArray} {fs : List Fil} {K : Nat} {f : Fil}
theorem rdsl_cell {a : Option Addr} {n c : Nat} {xs : List Value} (h : rdsl 1 (.slice a n c) xs w) {i : Nat} {x : Value} (hi : xs[i]? = some x) :
    ∃ bk off, a = some ⟨bk, off, none⟩ ∧ w.cell? ⟨bk, off + i, none⟩ = some x := by
  obtain ⟨a', n', c', he, hl, hx⟩ := h
  cases he
  obtain ⟨b, rfl, hc⟩ := hx i x hi
  have hlt : i < xs.length := (List.getElem?_eq_some_iff.1 hi).1
  obtain ⟨y, hy⟩ : ∃ y, xs[0]? = some y := ⟨xs[0]'(by omega), List.getElem?_eq_getElem _⟩
  obtain ⟨b', hb', hc0⟩ := hx 0 y hy
  cases hb'
  obtain ⟨bk, off, spot⟩ := b
  have hs : spot = none := by simpa [Addr.add] using World.cell?_spot hc0
  subst hs
  refine ⟨bk, off, rfl, ?_⟩
  unfold Addr.add at hc
  split at hc
  · rename_i h0; subst h0; exact hc
  · exact hc
theorem cut_c (a : Option Addr) (n c k : Nat) (h1 : n ≤ c) (h2 : c ≤ 9223372036854775807) (w : World) :
    Calls Tryd.prog 46 #[.slice a n c, .int .i64 k] w (Rtn fun v w' => v = .slice a (min n k) c ∧ w = w') := by
  by_cases hk : k < n
  · have hk1 : (k : Int) < (n : Int) := by omega
    have hk2 : (k : Int) ≤ (c : Int) := by omega
    have e := Lib.hid (show min n k = k by omega)
    go_enter Tryd.func46, Tryd.ntmps46
    go_wp2
    go_ret
    exact ⟨.slice a k c, rfl, by rw [e.out], rfl⟩
  · have hk1 : ¬ (k : Int) < (n : Int) := by omega
    have e := Lib.hid (show min n k = n by omega)
    go_enter Tryd.func46, Tryd.ntmps46
    go_wp2
    go_ret
    exact ⟨.slice a n c, rfl, by rw [e.out], rfl⟩
theorem numbers_c (a : Option Addr) (n c k : Nat) (h1 : n ≤ c) (h2 : c ≤ 9223372036854775807) (w : World) :
    Calls Tryd.prog 44 #[.slice a n c, .int .i64 k] w (Rtn fun v w' => v = .slice a (min n k) c ∧ w = w') := by
  by_cases hk : k < n
  · have hk1 : (k : Int) < (n : Int) := by omega
    have hk2 : (k : Int) ≤ (c : Int) := by omega
    have e := Lib.hid (show min n k = k by omega)
    go_enter Tryd.func44, Tryd.ntmps44
    go_wp2
    go_ret
    exact ⟨.slice a k c, rfl, by rw [e.out], rfl⟩
  · have hk1 : ¬ (k : Int) < (n : Int) := by omega
    have e := Lib.hid (show min n k = n by omega)
    go_enter Tryd.func44, Tryd.ntmps44
    go_wp2
    go_ret
    exact ⟨.slice a n c, rfl, by rw [e.out], rfl⟩
theorem rdsl_min {a : Option Addr} {n c : Nat} {xs : List Value} (h : rdsl 1 (.slice a n c) xs w) (k : Nat) : rdsl 1 (.slice a (min n k) c) (xs.take k) w := by
  obtain ⟨a', n', c', he, hl, hx⟩ := h
  cases he
  refine ⟨a, min n k, c, rfl, by rw [List.length_take]; omega, fun i x hi => ?_⟩
  rw [List.getElem?_take] at hi
  split at hi
  · exact hx i x hi
  · cases hi
set_option maxHeartbeats 2000000 in
/-- Two slices of the same bytes. -/
theorem same_c (la : Bs) (ha : Ro w0 F (rdsl 1 av (bys la))) (hb : Ro w0 F (rdsl 1 bv (bys la))) (h : Sat w0 w F) (hlen : la.length ≤ 9223372036854775807) :
    Calls Tryd.prog 29 #[av, bv] w (Rtn fun v w' => v = .bool true ∧ Sat w0 w' F) := by
  obtain ⟨aa, an, ac, rfl, hal, _⟩ := id (ha w h)
  obtain ⟨ba, bn, bc, rfl, hbl, _⟩ := id (hb w h)
  rw [bys_len, Nat.mul_one] at hal hbl
  subst hal
  obtain rfl := hbl.symm
  have Ha := Lib.hid ha; have Hb := Lib.hid hb
  clear ha hb
  go_enter Tryd.func29, Tryd.ntmps29
  go_wp2
  go_loopg [5] la.length (fun g iq wr => ∃ i : Nat, g = la.length - i ∧ i ≤ la.length ∧ iq = .int .i64 i ∧ Sat w0 wr F)
  case atStart => exact ⟨0, rfl, Nat.zero_le _, rfl, h⟩
  case round =>
    obtain ⟨i, rfl, hiN, rfl, hS⟩ := hrel
    by_cases hi : i < la.length
    · have hx : (bys la)[i]? = some (.int .u8 (la[i]'hi).toNat) := by unfold bys; simp [hi]
      obtain ⟨bk, off, rfl, c1⟩ := rdsl_cell (Ha.out _ hS) hx
      obtain ⟨bk2, off2, rfl, c2⟩ := rdsl_cell (Hb.out _ hS) hx
      generalize ((la[i]'hi).toNat : Int) = X at c1 c2
      clear hx
      have hic : (i : Int) < (la.length : Int) := by omega
      have hS1 := hS.drew
      go_wp2
      refine wpL_begin [8] (fun w' => w'.cell? ⟨bk, off + i, none⟩ = some (.int .u8 X) ∧ w'.cell? ⟨bk2, off2 + i, none⟩ = some (.int .u8 X)) (by kernel_rfl) ?_
      have hG : _ ∧ _ := And.intro c1 c2
      refine wpL_pure (i := 0) (v := ?_) rfl (by kernel_rfl) (fun _ _ _ h => h) (Or.inl ⟨by rfl, ?_⟩) ?_; rotate_left; focus ((intro wq; go_simp); first | done | (with_reducible rfl))
      refine wpL_pure (i := 1) (v := ?_) rfl (by kernel_rfl) (fun _ _ _ h => h) (Or.inl ⟨by rfl, ?_⟩) ?_; rotate_left; focus ((intro wq; go_simp); first | done | (with_reducible rfl))
      refine wpL_pure (i := 2) (v := ?_) rfl (by kernel_rfl) (fun _ _ _ h => h) (Or.inl ⟨by rfl, ?_⟩) ?_; rotate_left; focus ((intro wq; go_simp); first | done | (with_reducible rfl))
      refine wpL_take (i := 3) (v := ?_) rfl (by kernel_rfl) (fun _ _ _ h => h) (Or.inl ⟨by rfl, ?_⟩) (by assumption) ?_; rotate_left; focus ((intro wq hq; go_split_ands; go_simp); first | done | (with_reducible rfl))
      refine wpL_pure (i := 4) (v := ?_) rfl (by kernel_rfl) (fun _ _ _ h => h) (Or.inl ⟨by rfl, ?_⟩) ?_; rotate_left; focus ((intro wq; go_simp); first | done | (with_reducible rfl))
      refine wpL_pure (i := 5) (v := ?_) rfl (by kernel_rfl) (fun _ _ _ h => h) (Or.inl ⟨by rfl, ?_⟩) ?_; rotate_left; focus ((intro wq; go_simp); first | done | (with_reducible rfl))
      refine wpL_pure (i := 6) (v := ?_) rfl (by kernel_rfl) (fun _ _ _ h => h) (Or.inl ⟨by rfl, ?_⟩) ?_; rotate_left; focus ((intro wq; go_simp); first | done | (with_reducible rfl))
      refine wpL_take (i := 7) (v := ?_) rfl (by kernel_rfl) (fun _ _ _ h => h) (Or.inl ⟨by rfl, ?_⟩) (by assumption) ?_; rotate_left; focus ((intro wq hq; go_split_ands; go_simp); first | done | (with_reducible rfl))
      refine wpL_pure (i := 8) (v := ?_) rfl (by kernel_rfl) (fun _ _ _ h => h) (Or.inl ⟨by rfl, ?_⟩) ?_; rotate_left; focus ((intro wq; go_simp); first | done | (with_reducible rfl))
      refine wpL_done (by kernel_rfl) ?_
      clear hG
      simp only [List.getElem_toArray, List.getElem_cons_succ, List.getElem_cons_zero]
      go_frame
      go_wp2
      go_roundg (la.length - (i + 1))
      case measure => omega
      case rel => exact ⟨i + 1, rfl, by omega, by go_num, hS1⟩
    · obtain rfl : i = la.length := by omega
      have hic : ¬ (la.length : Int) < (la.length : Int) := by omega
      go_wp2
      go_ret
      exact ⟨.bool true, rfl, rfl, hS⟩
end
end Go.Proofs.YtdhhbajggafdhaaDoor
