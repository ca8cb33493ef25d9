import Derived.Test.YtdhhbajggafdhaaDoorMed23
import Derived.Test.YtdhhbajggafdhaaDoorRem
import Derived.Laws.BitsAllLaws
import Derived.Laws.Strings
/- Lemmas on slices and texts that know no law (printed by genaux.py). -/
namespace Go.Proofs.YtdhhbajggafdhaaDoor
open Go Go.Sl Go.Med Go.MapKept Go.RowKit
section
variable {w0 w W : World} {F : List HProp} {m fb nb b r : Nat} {M P : Med} {bs : List Nat} {wv v bv dv av cv nv ov lv : Value} {s : ByteArray} {fs : List Fil} {K : Nat} {f : Fil}
theorem bsl_cap {l : Bs} (h : Sat w0 w (bsl v l :: F)) : capOk v := by
  rcases Sat.osl_cases h with ⟨rfl, _⟩ | ⟨b, n', cap', cs, rfl, _, hn, _, hcm, _, _⟩
  · exact ⟨_, 0, 0, rfl, Nat.le_refl _, by omega⟩
  · exact ⟨_, _, _, rfl, hn, hcm⟩
theorem ro_min {a : Option Addr} {n c k : Nat} {xs : List Value} (h : Ro w0 F (rdsl 1 (.slice a n c) xs)) : Ro w0 F (rdsl 1 (.slice a (min n k) c) (xs.take k)) := fun w' hw' => rdsl_min (h w' hw') k
theorem flat_get {α β : Type} (f : α → List β) (k : Nat) (hk : ∀ x, (f x).length = k) : ∀ (xs : List α) (i : Nat) (x : α) (j : Nat), xs[i]? = some x → j < k → (xs.flatMap f)[i * k + j]? = (f x)[j]?
  | [], _, _, _, h, _ => by cases h
  | y :: xs, 0, x, j, h, hj => by
    simp at h; subst h
    rw [List.flatMap_cons, Nat.zero_mul, Nat.zero_add, List.getElem?_append_left (by rw [hk]; exact hj)]
  | y :: xs, i + 1, x, j, h, hj => by
    rw [List.flatMap_cons, List.getElem?_append_right (by rw [hk, Nat.succ_mul]; omega), hk]
    have : (i + 1) * k + j - k = i * k + j := by rw [Nat.succ_mul]; omega
    rw [this]
    exact flat_get f k hk xs i x j (by simpa using h) hj
theorem rdsl_base {sz : Nat} {a : Option Addr} {n c : Nat} {xs : List Value} (h : rdsl sz (.slice a n c) xs w) (hne : 0 < xs.length) :
    ∃ bk off, a = some ⟨bk, off, none⟩ ∧ ∀ i x, xs[i]? = some x → w.cell? ⟨bk, off + i, none⟩ = some x := by
  obtain ⟨a', n', c', he, hl, hx⟩ := h
  cases he
  obtain ⟨y, hy⟩ : ∃ y, xs[0]? = some y := ⟨xs[0]'hne, List.getElem?_eq_getElem _⟩
  obtain ⟨b', hb', hc0⟩ := hx 0 y hy
  subst hb'
  obtain ⟨bk, off, spot⟩ := b'
  have hs : spot = none := by simpa [Addr.add] using World.cell?_spot hc0
  subst hs
  refine ⟨bk, off, rfl, fun i x hi => ?_⟩
  obtain ⟨b2, hb2, hc⟩ := hx i x hi
  cases hb2
  unfold Addr.add at hc
  split at hc
  · rename_i h0; subst h0; exact hc
  · exact hc
def shortS (s : ByteArray) (n : Nat) : ByteArray := if n < s.size then s.extract 0 n else s
/-- A store into bytes of one's own. -/
theorem bsl_set {a : Option Addr} {n c : Nat} {l : Bs} (h : Sat w0 w (bsl (.slice a n c) l :: F)) {i : Nat} (hi : i < l.length) (x : UInt8) :
    ∃ g, a = some ⟨g, 0, none⟩ ∧ w.cell? ⟨g, i, none⟩ = some (.int .u8 (l[i]'hi).toNat) ∧ w.frozen? ⟨g, i, none⟩ = false ∧ Sat w0 (w.setCell ⟨g, i, none⟩ (.int .u8 x.toNat)) (bsl (.slice a n c) (l.set i x) :: F) := by
  rcases Sat.osl_cases h with ⟨_, hx, _⟩ | ⟨g, n', cap', cs, he, h1, h2, h3, h4, h5, h6⟩
  · have : (bys l).length = 0 := by rw [hx]; rfl
    rw [bys_len] at this; omega
  · cases he
    have hg : (bys l)[i]? = some (.int .u8 (l[i]'hi).toNat) := by unfold bys; simp [hi]
    refine ⟨g, rfl, h6.cellAt i _ (take_get h5 hg), h6.freeAt i, ?_⟩
    have h7 := h6.set i (.int .u8 x.toNat)
    refine Sat.osl_of_pt h7 ?_ h2 (by simpa using h3) h4 ?_
    · rw [bys_len, List.length_set, ← bys_len l]; exact h1
    · rw [Array.toList_setIfInBounds, List.take_set, h5]
      unfold bys
      rw [List.map_set]
theorem xor_u8 (x y : UInt8) : bits .xor .u8 (x.toNat : Int) (y.toNat : Int) = ((x ^^^ y).toNat : Int) := by
  rw [u8_xor_nat _ _ x.toNat_lt y.toNat_lt, UInt8.toNat_xor]
theorem osl_set {T sz : Nat} {g n c : Nat} {xs : List Value} (h : Sat w0 w (osl T sz (.slice (some ⟨g, 0, none⟩) n c) xs :: F)) (i : Nat) (x : Value) :
    w.frozen? ⟨g, i, none⟩ = false ∧ (∀ y, xs[i]? = some y → w.cell? ⟨g, i, none⟩ = some y) ∧ Sat w0 (w.setCell ⟨g, i, none⟩ x) (osl T sz (.slice (some ⟨g, 0, none⟩) n c) (xs.set i x) :: F) := by
  rcases Sat.osl_cases h with ⟨he, _⟩ | ⟨g', n', cap', cs, he, h1, h2, h3, h4, h5, h6⟩
  · cases he
  · cases he
    refine ⟨h6.freeAt i, fun y hy => h6.cellAt i _ (take_get h5 hy), ?_⟩
    refine Sat.osl_of_pt (h6.set i x) (by rw [List.length_set]; exact h1) h2 (by simpa using h3) h4 ?_
    rw [Array.toList_setIfInBounds, List.take_set, h5]
theorem bsl_cap' {l : Bs} (h : Sat w0 w (bsl v l :: F)) : ∃ a n c, v = .slice a n c ∧ n ≤ c ∧ c ≤ 9223372036854775807 ∧ n = l.length := by
  rcases Sat.osl_cases h with ⟨rfl, hx, _⟩ | ⟨b, n', cap', cs, rfl, hl, hn, hc, hcm, _, _⟩
  · refine ⟨_, 0, 0, rfl, Nat.le_refl _, by omega, ?_⟩
    have : (bys l).length = 0 := by rw [hx]; rfl
    rw [bys_len] at this; exact this.symm
  · refine ⟨_, _, _, rfl, hn, hcm, ?_⟩
    rw [bys_len, Nat.mul_one] at hl; exact hl.symm
theorem infoInt : (Tryd.prog.info? 3).map (fun i => (i.zero, i.size, i.bytes)) = some (some (.int .i64 0), 1, 8) := by kernel_rfl
theorem shortS_size (s : ByteArray) (n : Nat) : (shortS s n).size ≤ n := by
  unfold shortS
  split
  · rw [ByteArray.size_extract]; omega
  · omega
theorem stars_take {α : Type} (f : α → HProp) : ∀ (l : List α) (i : Nat) (x : α), l[i]? = some x → ∃ G, stars (l.map f) = star (f x) G
  | [], _, _, h => by cases h
  | y :: l, 0, x, h => by
    cases h
    exact ⟨_, rfl⟩
  | y :: l, i + 1, x, h => by
    obtain ⟨G, hG⟩ := stars_take f l i x (by simpa using h)
    refine ⟨star (f y) G, ?_⟩
    rw [List.map_cons, stars_cons, hG, star_left_comm]
theorem eq_of_takes {α : Type} {la lb : List α} {i : Nat} (h : la.take i = lb.take i) {x y : α} (hx : la[i]? = some x) (hy : lb[i]? = some y) (e : x = y) : la.take (i + 1) = lb.take (i + 1) := by
  obtain ⟨h1, rfl⟩ := List.getElem?_eq_some_iff.1 hx
  obtain ⟨h2, rfl⟩ := List.getElem?_eq_some_iff.1 hy
  rw [List.take_succ_eq_append_getElem h1, List.take_succ_eq_append_getElem h2, h, e]
theorem strs_at {l : List ByteArray} {i : Nat} {x : ByteArray} (h : l[i]? = some x) : (strs l)[i]? = some (.string x) := by
  unfold strs
  rw [List.getElem?_map, h]; rfl
theorem strs_len (l : List ByteArray) : (strs l).length = l.length := by unfold strs; simp
theorem toList_inj {X Y : ByteArray} (h : X.toList = Y.toList) : X = Y := by
  rw [ByteArray.toList_eq, ByteArray.toList_eq] at h
  obtain ⟨⟨x⟩⟩ := X; obtain ⟨⟨y⟩⟩ := Y
  simp at h; subst h; rfl
set_option maxHeartbeats 2000000 in
theorem strSame_c (la lb : List ByteArray) (ha : Ro w0 F (rdsl 1 av (strs la))) (hb : Ro w0 F (rdsl 1 bv (strs lb))) (h : Sat w0 w F) (hlen : la.length ≤ 9223372036854775806) :
    Calls Tryd.prog 31 #[av, bv] w (Rtn fun v w' => v = .bool (decide (la = lb)) ∧ Sat w0 w' F) := by
  obtain ⟨aa, an, ac, rfl, hal, _⟩ := id (ha w h)
  obtain ⟨ba, bn, bc, rfl, hbl, _⟩ := id (hb w h)
  rw [strs_len, Nat.mul_one] at hal hbl
  subst hal; subst hbl
  have Ha := Lib.hid ha; have Hb := Lib.hid hb; have Hlen := Lib.hid hlen
  clear ha hb hlen
  by_cases hl : la.length = lb.length
  · have Hl := Lib.hid hl
    have hli : (la.length : Int) = (lb.length : Int) := by omega
    go_enter Tryd.func31, Tryd.ntmps31
    clear hl
    go_wp2
    clear hli
    go_loopg [5] la.length (fun g iq wr => ∃ i : Nat, g = la.length - i ∧ i ≤ la.length ∧ iq = .int .i64 i ∧ la.take i = lb.take i ∧ Sat w0 wr F)
    case atStart => exact ⟨0, rfl, Nat.zero_le _, rfl, rfl, h⟩
    case round =>
      obtain ⟨i, rfl, hiN, rfl, htk, hS⟩ := hrel
      by_cases hi : i < la.length
      · have hx : la[i]? = some (la[i]'hi) := List.getElem?_eq_getElem _
        have hy : lb[i]? = some (lb[i]'(by have := Hl.out; omega)) := List.getElem?_eq_getElem _
        obtain ⟨bk, off, rfl, c1⟩ := rdsl_cell (Ha.out _ hS) (strs_at hx)
        obtain ⟨bk2, off2, rfl, c2⟩ := rdsl_cell (Hb.out _ hS) (strs_at hy)
        have Hnext := Lib.hid (fun e => eq_of_takes htk hx hy e)
        have hbad : la[i]'hi ≠ lb[i]'(by have := Hl.out; omega) → la ≠ lb := fun hne e => by subst e; exact hne rfl
        have Hbad := Lib.hid hbad
        clear hbad htk hx hy
        generalize la[i]'hi = X at *
        generalize lb[i]'(by have := Hl.out; omega) = Y at *
        have hic : (i : Int) < (la.length : Int) := by omega
        have hil : (i : Int) < (lb.length : Int) := by have := Hl.out; omega
        have hwi : IntKind.i64.wrap ((i : Int) + 1) = (i : Int) + 1 := IntWalk.i64_in _ (by have := Hlen.out; omega)
        have hS1 := hS.drew
        go_wp2
        refine wpL_begin [8] (fun w' => w'.cell? ⟨bk, off + i, none⟩ = some (.string X) ∧ w'.cell? ⟨bk2, off2 + i, none⟩ = some (.string Y)) (by kernel_rfl) ?_
        have hG : _ ∧ _ := And.intro c1 c2
        refine wpL_pure (i := 0) (v := ?_) rfl (by kernel_rfl) (fun _ _ _ h => h) (Or.inl ⟨by rfl, ?_⟩) ?_; rotate_left; focus ((intro wq; go_simp); first | done | (with_reducible rfl))
        refine wpL_pure (i := 1) (v := ?_) rfl (by kernel_rfl) (fun _ _ _ h => h) (Or.inl ⟨by rfl, ?_⟩) ?_; rotate_left; focus ((intro wq; go_simp); first | done | (with_reducible rfl))
        refine wpL_pure (i := 2) (v := ?_) rfl (by kernel_rfl) (fun _ _ _ h => h) (Or.inl ⟨by rfl, ?_⟩) ?_; rotate_left; focus ((intro wq; go_simp); first | done | (with_reducible rfl))
        refine wpL_take (i := 3) (v := ?_) rfl (by kernel_rfl) (fun _ _ _ h => h) (Or.inl ⟨by rfl, ?_⟩) (by assumption) ?_; rotate_left; focus ((intro wq hq; go_split_ands; go_simp); first | done | (with_reducible rfl))
        refine wpL_pure (i := 4) (v := ?_) rfl (by kernel_rfl) (fun _ _ _ h => h) (Or.inl ⟨by rfl, ?_⟩) ?_; rotate_left; focus ((intro wq; go_simp); first | done | (with_reducible rfl))
        refine wpL_pure (i := 5) (v := ?_) rfl (by kernel_rfl) (fun _ _ _ h => h) (Or.inl ⟨by rfl, ?_⟩) ?_; rotate_left; focus ((intro wq; go_simp); first | done | (with_reducible rfl))
        refine wpL_pure (i := 6) (v := ?_) rfl (by kernel_rfl) (fun _ _ _ h => h) (Or.inl ⟨by rfl, ?_⟩) ?_; rotate_left; focus ((intro wq; go_simp); first | done | (with_reducible rfl))
        refine wpL_take (i := 7) (v := ?_) rfl (by kernel_rfl) (fun _ _ _ h => h) (Or.inl ⟨by rfl, ?_⟩) (by assumption) ?_; rotate_left; focus ((intro wq hq; go_split_ands; go_simp); first | done | (with_reducible rfl))
        refine wpL_pure (i := 8) (v := ?_) rfl (by kernel_rfl) (fun _ _ _ h => h) (Or.inl ⟨by rfl, ?_⟩) ?_; rotate_left; focus ((intro wq; go_simp); first | done | (with_reducible rfl))
        refine wpL_done (by kernel_rfl) ?_
        clear hG
        simp only [List.getElem_toArray, List.getElem_cons_succ, List.getElem_cons_zero]
        go_frame
        by_cases hXY : X = Y
        · subst hXY
          simp only [beq_self_eq_true, Bool.not_true]
          go_wp2
          go_roundg (la.length - (i + 1))
          case measure => omega
          case rel => exact ⟨i + 1, rfl, Nat.succ_le_of_lt hi, by first | rfl | go_num, Hnext.out trivial, hS1⟩
        · have hq : (X.toList == Y.toList) = false := by
            rw [beq_eq_false_iff_ne]
            exact fun e => hXY (toList_inj e)
          simp only [hq, Bool.not_false]
          go_wp2
          go_ret
          exact ⟨.bool false, rfl, by rw [decide_eq_false (Hbad.out hXY)], hS1⟩
      · obtain rfl : i = la.length := by omega
        have hic : ¬ (la.length : Int) < (la.length : Int) := by omega
        have hfin : la = lb := by
          have h1 := Hl.out
          rw [List.take_length] at htk
          rw [h1, List.take_length] at htk
          exact htk
        have Hfin := Lib.hid hfin
        clear htk hfin hi hiN
        go_wp2
        go_ret
        exact ⟨.bool true, rfl, by rw [decide_eq_true Hfin.out], hS⟩
  · have hli : ¬ ((la.length : Int) = (lb.length : Int)) := by omega
    have hne : la ≠ lb := fun e => hl (by rw [e])
    have Hne := Lib.hid hne
    clear hne
    go_enter Tryd.func31, Tryd.ntmps31
    go_wp2
    go_ret
    exact ⟨.bool false, rfl, by rw [decide_eq_false Hne.out], h⟩
/-- Slices of bytes, each its own. -/
def bsz (vs : List Value) (bs : List Bs) : HProp := stars (List.zipWith bsl vs bs)
theorem bsz_snoc : ∀ (vs : List Value) (bs : List Bs) (v : Value) (b : Bs), vs.length = bs.length → bsz (vs ++ [v]) (bs ++ [b]) = star (bsl v b) (bsz vs bs)
  | [], [], _, _, _ => rfl
  | [], _ :: _, _, _, h => by simp at h
  | _ :: _, [], _, _, h => by simp at h
  | c :: vs, g :: bs, v, b, h => by
    show star (bsl c g) (bsz (vs ++ [v]) (bs ++ [b])) = _
    rw [bsz_snoc vs bs v b (by simpa using h), star_left_comm]; rfl
theorem bsz_at : ∀ (vs : List Value) (bs : List Bs) (i : Nat) (v : Value) (b : Bs), vs[i]? = some v → bs[i]? = some b → ∃ G, bsz vs bs = star (bsl v b) G
  | [], _, _, _, _, h, _ => by cases h
  | _ :: _, [], _, _, _, _, h => by cases h
  | c :: vs, g :: bs, 0, v, b, h, k => by
    cases h; cases k
    exact ⟨_, rfl⟩
  | c :: vs, g :: bs, i + 1, v, b, h, k => by
    obtain ⟨G, hG⟩ := bsz_at vs bs i v b (by simpa using h) (by simpa using k)
    refine ⟨star (bsl c g) G, ?_⟩
    show star (bsl c g) (bsz vs bs) = _
    rw [hG, star_left_comm]
theorem infoBytes : (Tryd.prog.info? 31).map (fun i => (i.zero, i.size, i.bytes)) = some (some (.slice none 0 0), 1, 24) := by kernel_rfl
theorem Ro.more {p : World → Prop} {L : List HProp} (h : Ro w0 F p) : Ro w0 (L ++ F) p := by
  induction L with
  | nil => exact h
  | cons A L ih => exact ih.cons
theorem bsz_rd {vs : List Value} {rows : List Bs} {i : Nat} {v : Value} {b : Bs} (h1 : vs[i]? = some v) (h2 : rows[i]? = some b) : Ro w0 (bsz vs rows :: F) (rdsl 1 v (bys b)) := fun w hw => by
  obtain ⟨G, hG⟩ := bsz_at vs rows i v b h1 h2
  rw [hG] at hw
  exact (Sat.star.1 hw).rd
theorem all_len (hM : P.Ok K) (s : ByteArray) : (P.all s).1.length ≤ 16777216 := by
  unfold Med.all
  split
  · simp
  · split
    · simp
    · exact (hM.file _).now_len
theorem within_nat (z : Int) (hi : Nat) : ∃ R : Nat, within z 0 hi = (R : Int) ∧ R ≤ hi := by
  unfold within
  split
  · exact ⟨0, rfl, Nat.zero_le _⟩
  · split
    · exact ⟨hi, rfl, Nat.le_refl _⟩
    · exact ⟨z.toNat, by omega, by omega⟩
theorem told_le (h : M.used ≤ M.room) : M.usedTold ≤ M.room := by
  unfold Med.usedTold
  split
  · exact Nat.zero_le _
  · exact h
end
end Go.Proofs.YtdhhbajggafdhaaDoor
