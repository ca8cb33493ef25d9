import Derived.Test.YtdhhbajggafdhaaDoorMed4
import Derived.Test.YtdhhbajggafdhaaDoorShelf
import Derived.Deep.LoopGhost
/- Copies of bytes; good names. -/
namespace Go.Proofs.YtdhhbajggafdhaaDoor
open Go Go.Sl Go.Med Go.MapKept Go.RowKit
section
variable {w0 w : World} {F : List HProp} {m fb nb b : Nat} {M : Med} {bs : List Nat} {wv v : Value} {s : ByteArray} {l : Bs}

theorem bys_len (l : Bs) : (bys l).length = l.length := by simp [bys]
theorem bys_one (l : Bs) : ∀ u ∈ bys l, u.oneCell' = true := by
  intro u hu
  obtain ⟨b, _, rfl⟩ := List.mem_map.1 hu
  rfl
theorem bys_append (l k : Bs) : bys (l ++ k) = bys l ++ bys k := by simp [bys]
theorem bys_take (l : Bs) (n : Nat) : bys (l.take n) = (bys l).take n := by simp [bys, List.map_take]
theorem clone_c (h : Sat w0 w F) (hr : rdsl 1 v (bys l) w) (hl : l.length ≤ 140737488355328) :
    Calls Tryd.prog 71 #[v] w (Rtn fun v' w' => Sat w0 w' (bsl v' l :: F) ∧ ∃ a n c, v' = .slice a n c) := by
  obtain ⟨a, n, c, rfl, hn, hc⟩ := hr
  rw [bys_len, Nat.mul_one] at hn
  subst hn
  cases a with
  | none =>
    have : l = [] := by
      cases l with
      | nil => rfl
      | cons x l => obtain ⟨b, hb, _⟩ := hc 0 _ rfl; cases hb
    subst this
    refine (Tryd.bytes_Clone_nil 0 c w).mono ?_
    rintro e w1 ⟨rfl, rfl⟩
    exact ⟨_, rfl, Sat.osl_nil.2 h, _, _, _, rfl⟩
  | some a =>
    refine (Tryd.bytes_Clone_at a l.length c (l.map fun b => (b.toNat : Int)) w (by simp) hl ?_).mono ?_
    · intro i hi
      obtain ⟨b, hb, hx⟩ := hc i (.int .u8 (l[i]).toNat) (by simp [bys, hi])
      cases hb
      rw [hx]
      simp [hi]
    · rintro e w1 ⟨v', rfl, ho, hne, hb⟩
      obtain ⟨hlen, hv | ⟨g, cap, cur, rfl, hbg, hg, hnc, hcm, hcs, htk⟩⟩ := ho
      · exact absurd hv.1 hne
      · refine ⟨_, rfl, ?_, _, _, _, rfl⟩
        refine (h.fresh hb.os hb.tape hb.output hb.size hbg hg hb.block).osl_of_pt ?_ hnc (by omega) hcm ?_
        · rw [bys_len]; omega
        · rw [htk]; simp [bys]

def chgV (c : Chg) (bv : Value) : Value := .agg #[.bool c.cut, .int .i64 c.n, bv]
set_option maxHeartbeats 1000000 in
theorem chgon_cut (n : Nat) (bv : Value) (h : Sat w0 w (bsl v l :: F)) (hn : n ≤ l.length) :
    Calls Tryd.prog 84 #[.agg #[.bool true, .int .i64 n, bv], v] w (Rtn fun v' w' => Sat w0 w' (bsl v' (l.take n) :: F) ∧ ∃ a n c, v' = .slice a n c) := by
  have hb := (h.alloc (.cells #[.bool true, .int .i64 n, bv] 132))
  have b0 := hb.cellAt 0 _ rfl
  have b1 := hb.cellAt 1 _ rfl
  rcases hb.pick1.osl_cases with ⟨rfl, hl, h'⟩ | ⟨g, m, cap, cs, rfl, hl, hm, hc, hcm, htk, hp⟩
  · have hl0 : l = [] := by simpa [bys] using hl
    subst hl0
    obtain rfl : n = 0 := by simpa using hn
    go_enter Tryd.func84, Tryd.ntmps84
    go_wp2
    go_ret
    exact ⟨_, rfl, Sat.osl_nil.2 h'.drop, _, _, _, rfl⟩
  · rw [bys_len, Nat.mul_one] at hl
    subst hl
    have e1 : (n : Int) ≤ (cap : Int) := by omega
    have e0 : (0 : Int) ≤ (n : Int) := by omega
    have Htk := Lib.hid htk; clear htk
    have hfin : Sat w0 (w.alloc (.cells #[.bool true, .int .i64 n, bv] 132)) (bsl (.slice (some ⟨g, 0, none⟩) n n) (l.take n) :: F) := by
      refine (hp.pick1.drop).osl_of_pt ?_ (Nat.le_refl _) (by omega) (by omega) ?_
      · rw [bys_len, List.length_take]; omega
      · rw [bys_take, ← Htk.out]; simp [List.take_take, Nat.min_eq_left hn]
    go_enter Tryd.func84, Tryd.ntmps84
    go_wp2
    go_ret
    exact ⟨_, rfl, hfin, _, _, _, rfl⟩
theorem info8p : ∃ i : TypeInfo, Tryd.prog.info? 5 = some i ∧ i.zero = some (.int .u8 0) ∧ i.size = 1 ∧ i.bytes = 1 := by
  obtain ⟨i, hi, hz0, hz1, hz2⟩ := info_parts info8
  exact ⟨i, hi, hz0, hz1, hz2⟩
set_option maxHeartbeats 1000000 in
theorem chgon_app (n : Int) (bv : Value) (cb : Bs) (h : Sat w0 w (bsl v l :: F)) (hr : Ro w0 F (rdsl 1 bv (bys cb))) (hl : l.length + cb.length ≤ 140737488355328) (hbv : ∃ a n c, bv = .slice a n c) :
    Calls Tryd.prog 84 #[.agg #[.bool false, .int .i64 n, bv], v] w (Rtn fun v' w' => Sat w0 w' (bsl v' (l ++ cb) :: F) ∧ ∃ a n c, v' = .slice a n c) := by
  obtain ⟨i, hi, hz0, hz1, hz2⟩ := info8p
  have hb := (h.alloc (.cells #[.bool false, .int .i64 n, bv] 132))
  have b0 := hb.cellAt 0 _ rfl
  have b2 := hb.cellAt 2 _ rfl
  have hcl := clone_c hb.drew hb.drew.pick1.rd (by omega)
  have h63 : (bys l).length + (bys cb).length ≤ maxLen := by rw [bys_len, bys_len]; unfold maxLen; omega
  have hby : ((bys l).length + (bys cb).length) * i.bytes ≤ 140737488355328 := by rw [bys_len, bys_len, hz2]; omega
  obtain ⟨ba, bn, bc, rfl⟩ := hbv
  go_enter Tryd.func84, Tryd.ntmps84
  go_wp2_with fail
  refine wpL_begin [4, 5] (fun w' => w'.cell? ⟨w.heap.size, 2, none⟩ = some (.slice ba bn bc)) (by kernel_rfl) ?_
  refine wpL_pure (i := 0) (v := ?_) rfl (by kernel_rfl) (fun _ _ _ h => h) (Or.inl ⟨by rfl, ?_⟩) ?_; rotate_left; focus ((intro wq; go_simp); first | done | (with_reducible rfl))
  refine wpL_pure (i := 2) (v := ?_) rfl (by kernel_rfl) (fun _ _ _ h => h) (Or.inl ⟨by rfl, ?_⟩) ?_; rotate_left; focus ((intro wq; go_simp); first | done | (with_reducible rfl))
  refine wpL_take (i := 3) (v := ?_) rfl (by kernel_rfl) (fun _ _ _ h => h) (Or.inl ⟨by rfl, ?_⟩) (by assumption) ?_; rotate_left; focus ((intro wq hq; go_split_ands; go_simp); first | done | (with_reducible rfl))
  refine wpL_eff (i := 1) rfl (by kernel_rfl) (fun K hK => ?_)
  go_simp
  refine hcl.mono ?_
  rintro e w1 ⟨v1, rfl, hS1, a1, n1, c1, rfl⟩
  have b2 := hS1.pick1.cellAt 2 _ rfl
  refine hK _ _ (.inr (.inl b2)) ?_
  clear hK K
  refine wpL_eff (i := 4) rfl (by kernel_rfl) (fun K hK => ?_)
  refine step_append (w0 := w0) (by rfl) _ _ _ (by rfl) _ i _ Tryd.underlying31 hi hz0 hz1 (by rfl) (by omega) (by rfl) (by rfl) (bys_one cb) hS1 (hr _ hS1.drop.drop.drop) h63 hby ?_
  intro v2 w2 hS2 _
  refine hK _ _ (.inl rfl) ?_
  clear hK K
  refine wpL_pure (i := 5) (v := ?_) rfl (by kernel_rfl) (fun _ _ _ h => h) (Or.inl ⟨by rfl, ?_⟩) ?_; rotate_left; focus ((intro wq; go_simp); first | done | (with_reducible rfl))
  refine wpL_done (by kernel_rfl) ?_
  go_wp2
  go_ret
  have h9 := hS2.sel 3 [0] rfl rfl
  have hsh := hS2.rd
  obtain ⟨a2, n2, c2, rfl, _⟩ := hsh
  refine ⟨_, rfl, ?_, _, _, _, rfl⟩
  unfold bsl
  rw [bys_append]
  exact h9
end
end Go.Proofs.YtdhhbajggafdhaaDoor
