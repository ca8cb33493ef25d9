import Derived.Test.YtmjldaedhmipkaaJ1
import Derived.Test.YtmjldaedhmipkaaShelf
import Derived.Deep.LoopGhost
import Derived.Sort.OwnSorted
set_option linter.unusedVariables false
/- Copies of bytes; good names. -/
namespace Go.Proofs.Ytmjldaedhmipkaa
open Go Go.Sl Go.Med Go.MapKept Go.RowKit
section
variable {w0 w : World} {F : List HProp} {m fb nb b : Nat} {M : Med} {bs : List Nat} {wv v : Value} {s : ByteArray} {l : Bs}

theorem bys_len (l : Bs) : (bys l).length = l.length := by simp [bys]
theorem bys_one (l : Bs) : ∀ u ∈ bys l, u.oneCell' = true := by
  intro u hu
  obtain ⟨b, _, rfl⟩ := List.mem_map.1 hu
  rfl
theorem bys_append (l k : Bs) : bys (l ++ k) = bys l ++ bys k := by simp [bys]
theorem bys_take (l : Bs) (n : Nat) : bys (l.take n) = (bys l).take n := by simp [bys, List.map_take]
theorem clone_c (h : Sat w0 w F) (hr : rdsl 1 v (bys l) w) (hl : l.length ≤ 140737488355328) :
    Calls Try.prog 54 #[v] w (Rtn fun v' w' => Sat w0 w' (bsl v' l :: F) ∧ ∃ a n c, v' = .slice a n c) := by
  obtain ⟨a, n, c, rfl, hn, hc⟩ := hr
  rw [bys_len, Nat.mul_one] at hn
  subst hn
  cases a with
  | none =>
    have : l = [] := by
      cases l with
      | nil => rfl
      | cons x l => obtain ⟨b, hb, _⟩ := hc 0 _ rfl; cases hb
    subst this
    refine (Try.bytes_Clone_nil 0 c w).mono ?_
    rintro e w1 ⟨rfl, rfl⟩
    exact ⟨_, rfl, Sat.osl_nil.2 h, _, _, _, rfl⟩
  | some a =>
    refine (Try.bytes_Clone_at a l.length c (l.map fun b => (b.toNat : Int)) w (by simp) hl ?_).mono ?_
    · intro i hi
      obtain ⟨b, hb, hx⟩ := hc i (.int .u8 (l[i]).toNat) (by simp [bys, hi])
      cases hb
      rw [hx]
      simp [hi]
    · rintro e w1 ⟨v', rfl, ho, hne, hb⟩
      obtain ⟨hlen, hv | ⟨g, cap, cur, rfl, hbg, hg, hnc, hcm, hcs, htk⟩⟩ := ho
      · exact absurd hv.1 hne
      · refine ⟨_, rfl, ?_, _, _, _, rfl⟩
        refine (h.fresh hb.os hb.tape hb.output hb.size hbg hg hb.block).osl_of_pt ?_ hnc (by omega) hcm ?_
        · rw [bys_len]; omega
        · rw [htk]; simp [bys]

def chgV (c : Chg) (bv : Value) : Value := .agg #[.bool c.cut, .int .i64 c.n, bv]
set_option maxHeartbeats 1000000 in
theorem chgon_cut (n : Nat) (bv : Value) (h : Sat w0 w (bsl v l :: F)) (hn : n ≤ l.length) :
    Calls Try.prog 69 #[.agg #[.bool true, .int .i64 n, bv], v] w (Rtn fun v' w' => Sat w0 w' (bsl v' (l.take n) :: F) ∧ ∃ a n c, v' = .slice a n c) := by
  have hb := (h.alloc (.cells #[.bool true, .int .i64 n, bv] 98))
  have b0 := hb.cellAt 0 _ rfl
  have b1 := hb.cellAt 1 _ rfl
  rcases hb.pick1.osl_cases with ⟨rfl, hl, h'⟩ | ⟨g, m, cap, cs, rfl, hl, hm, hc, hcm, htk, hp⟩
  · have hl0 : l = [] := by simpa [bys] using hl
    subst hl0
    obtain rfl : n = 0 := by simpa using hn
    go_enter Try.func69, Try.ntmps69
    go_wp2
    go_ret
    exact ⟨_, rfl, Sat.osl_nil.2 h'.drop, _, _, _, rfl⟩
  · rw [bys_len, Nat.mul_one] at hl
    subst hl
    have e1 : (n : Int) ≤ (cap : Int) := by omega
    have e0 : (0 : Int) ≤ (n : Int) := by omega
    have Htk := Lib.hid htk; clear htk
    have hfin : Sat w0 (w.alloc (.cells #[.bool true, .int .i64 n, bv] 98)) (bsl (.slice (some ⟨g, 0, none⟩) n n) (l.take n) :: F) := by
      refine (hp.pick1.drop).osl_of_pt ?_ (Nat.le_refl _) (by omega) (by omega) ?_
      · rw [bys_len, List.length_take]; omega
      · rw [bys_take, ← Htk.out]; simp [List.take_take, Nat.min_eq_left hn]
    go_enter Try.func69, Try.ntmps69
    go_wp2
    go_ret
    exact ⟨_, rfl, hfin, _, _, _, rfl⟩
theorem info8p : ∃ i : TypeInfo, Try.prog.info? 5 = some i ∧ i.zero = some (.int .u8 0) ∧ i.size = 1 ∧ i.bytes = 1 := by
  obtain ⟨i, hi, hz0, hz1, hz2⟩ := info_parts info8
  exact ⟨i, hi, hz0, hz1, hz2⟩
set_option maxHeartbeats 1000000 in
theorem chgon_app (n : Int) (bv : Value) (cb : Bs) (h : Sat w0 w (bsl v l :: F)) (hr : Ro w0 F (rdsl 1 bv (bys cb))) (hl : l.length + cb.length ≤ 140737488355328) (hbv : ∃ a n c, bv = .slice a n c) :
    Calls Try.prog 69 #[.agg #[.bool false, .int .i64 n, bv], v] w (Rtn fun v' w' => Sat w0 w' (bsl v' (l ++ cb) :: F) ∧ ∃ a n c, v' = .slice a n c) := by
  obtain ⟨i, hi, hz0, hz1, hz2⟩ := info8p
  have hb := (h.alloc (.cells #[.bool false, .int .i64 n, bv] 98))
  have b0 := hb.cellAt 0 _ rfl
  have b2 := hb.cellAt 2 _ rfl
  have hcl := clone_c hb.drew hb.drew.pick1.rd (by omega)
  have h63 : (bys l).length + (bys cb).length ≤ maxLen := by rw [bys_len, bys_len]; unfold maxLen; omega
  have hby : ((bys l).length + (bys cb).length) * i.bytes ≤ 140737488355328 := by rw [bys_len, bys_len, hz2]; omega
  obtain ⟨ba, bn, bc, rfl⟩ := hbv
  go_enter Try.func69, Try.ntmps69
  go_wp2_with fail
  refine wpL_begin [4, 5] (fun w' => w'.cell? ⟨w.heap.size, 2, none⟩ = some (.slice ba bn bc)) (by kernel_rfl) ?_
  refine wpL_pure (i := 0) (v := ?_) rfl (by kernel_rfl) (fun _ _ _ h => h) (Or.inl ⟨by rfl, ?_⟩) ?_; rotate_left; focus ((intro wq; go_simp); first | done | (with_reducible rfl))
  refine wpL_pure (i := 2) (v := ?_) rfl (by kernel_rfl) (fun _ _ _ h => h) (Or.inl ⟨by rfl, ?_⟩) ?_; rotate_left; focus ((intro wq; go_simp); first | done | (with_reducible rfl))
  refine wpL_take (i := 3) (v := ?_) rfl (by kernel_rfl) (fun _ _ _ h => h) (Or.inl ⟨by rfl, ?_⟩) (by assumption) ?_; rotate_left; focus ((intro wq hq; go_split_ands; go_simp); first | done | (with_reducible rfl))
  refine wpL_eff (i := 1) rfl (by kernel_rfl) (fun K hK => ?_)
  go_simp
  refine hcl.mono ?_
  rintro e w1 ⟨v1, rfl, hS1, a1, n1, c1, rfl⟩
  have b2 := hS1.pick1.cellAt 2 _ rfl
  refine hK _ _ (.inr (.inl b2)) ?_
  clear hK K
  refine wpL_eff (i := 4) rfl (by kernel_rfl) (fun K hK => ?_)
  refine step_append (w0 := w0) (by rfl) _ _ _ (by rfl) _ i _ Try.underlying31 hi hz0 hz1 (by rfl) (by omega) (by rfl) (by rfl) (bys_one cb) hS1 (hr _ hS1.drop.drop.drop) h63 hby ?_
  intro v2 w2 hS2 _
  refine hK _ _ (.inl rfl) ?_
  clear hK K
  refine wpL_pure (i := 5) (v := ?_) rfl (by kernel_rfl) (fun _ _ _ h => h) (Or.inl ⟨by rfl, ?_⟩) ?_; rotate_left; focus ((intro wq; go_simp); first | done | (with_reducible rfl))
  refine wpL_done (by kernel_rfl) ?_
  go_wp2
  go_ret
  have h9 := hS2.sel 3 [0] rfl rfl
  have hsh := hS2.rd
  obtain ⟨a2, n2, c2, rfl, _⟩ := hsh
  refine ⟨_, rfl, ?_, _, _, _, rfl⟩
  unfold bsl
  rw [bys_append]
  exact h9
end
end Go.Proofs.Ytmjldaedhmipkaa
/- A change of a file's bytes. -/
namespace Go.Proofs.Ytmjldaedhmipkaa
open Go Go.Sl Go.Med Go.MapKept Go.RowKit
section
variable {w0 w : World} {F : List HProp} {m fb nb b : Nat} {M : Med} {bs : List Nat} {wv v bv : Value} {s : ByteArray} {l : Bs} {f : Fil}

/-- A change that may be done on l. -/
def chgOk (c : Chg) (l : Bs) : Prop := (c.cut = true → c.n ≤ l.length) ∧ (c.cut = false → l.length + c.b.length ≤ 140737488355328)
theorem chgon_c (c : Chg) (h : Sat w0 w (bsl v l :: F)) (hr : Ro w0 F (rdsl 1 bv (bys c.b))) (hbv : ∃ a n c, bv = .slice a n c) (hc : chgOk c l) :
    Calls Try.prog 69 #[chgV c bv, v] w (Rtn fun v' w' => Sat w0 w' (bsl v' (c.on l) :: F) ∧ ∃ a n c, v' = .slice a n c) := by
  obtain ⟨cut, n, cb⟩ := c
  cases cut
  · exact chgon_app n bv cb h hr (hc.2 rfl) hbv
  · exact chgon_cut n bv h (hc.1 rfl)
theorem bsl_shape (h : Sat w0 w (bsl v l :: F)) : ∃ a n c, v = .slice a n c := by
  obtain ⟨a, n, c, rfl, _⟩ := h.rd
  exact ⟨a, n, c, rfl⟩
theorem Ro.bsl {R : List HProp} (v : Value) (l : Bs) : Ro w0 (bsl v l :: R) (rdsl 1 v (bys l)) := fun w hw => hw.rd
theorem infoChg : (Try.prog.info? 98).map (fun i => (i.zero, i.size, i.bytes)) = some (some (.agg #[.bool false, .int .i64 0, .slice none 0 0]), 3, 40) := by kernel_rfl
theorem chgs_snoc (ws : List (Chg × Value)) (p : Chg × Value) : chgs (ws ++ [p]) = star (chgs ws) (bsl p.2 p.1.b) := by
  unfold chgs
  rw [List.map_append, stars_append]
  simp [stars_one]

set_option maxHeartbeats 2000000 in
theorem do_c {fv nv : Value} {ws : List (Chg × Value)} (c : Chg) (h : Sat w0 w (FilRaw b f fv nv wv ws ++ bsl bv c.b :: F)) (hws : ws.map (·.1) = f.waits) (hc : chgOk c f.now) (hw : f.waits.length ≤ 1099511627776) :
    Calls Try.prog 53 #[ptr b, chgV c bv] w (Rtn fun _ w' => Sat w0 w' (FilRep b (f.do c) :: F)) := by
  obtain ⟨i, hi, hz0, hz1, hz2⟩ := info_parts infoChg
  obtain ⟨ba, bn, bc, rfl⟩ := bsl_shape (h.sel 6 [5] rfl rfl)
  have hb := h.alloc (.cells #[.bool c.cut, .int .i64 c.n, .slice ba bn bc] 98)
  have hb' : Sat w0 _ (bsl nv f.now :: bsl (.slice ba bn bc) c.b :: pt w.heap.size _ :: filPt b fv nv wv :: bsl fv f.fast :: osl 98 3 wv (ws.flatMap chgCells) :: chgs ws :: F) := hb.sel 7 [3, 6, 0, 1, 2, 4, 5] rfl rfl
  have hon := chgon_c c hb'.drew (Ro.bsl _ _) ⟨_, _, _, rfl⟩ hc
  obtain ⟨na, nn, nc, rfl⟩ := bsl_shape hb'
  have b0 := hb.cellAt 0 _ rfl
  have b1 := hb.cellAt 1 _ rfl
  have b2 := hb.cellAt 2 _ rfl
  have c1 := hb.pick1.cellAt 1 _ rfl
  have hoc : ∀ u ∈ (#[.bool c.cut, .int .i64 c.n, .slice ba bn bc] : Array Value).toList, u.oneCell' = true := by
    intro u hu
    simp only [List.mem_cons, List.not_mem_nil, or_false] at hu
    rcases hu with rfl | rfl | rfl <;> rfl
  have hwl : ws.length = f.waits.length := by rw [← hws]; simp
  have hlen : (ws.flatMap chgCells).length = f.waits.length * 3 := by
    rw [List.length_flatMap, ← hwl]; simp [chgCells, List.map_const']
  have h63 : (ws.flatMap chgCells).length + 3 ≤ maxLen := by unfold maxLen; omega
  have hby : ((ws.flatMap chgCells).length + 3) * i.bytes ≤ 140737488355328 := by rw [hz2]; omega
  have Hlen := Lib.hid hlen; clear hlen
  have Hws := Lib.hid hws; clear hws
  have Hwl := Lib.hid hwl; clear hwl
  unfold chgV at *
  go_enter Try.func53, Try.ntmps53
  go_wp2_with fail
  refine wpL_begin [6, 7, 8, 9] (fun w' => w'.cell? ⟨b, 1, none⟩ = some (.slice na nn nc) ∧ w'.cell? ⟨w.heap.size, 0, none⟩ = some (.bool c.cut) ∧ w'.cell? ⟨w.heap.size, 1, none⟩ = some (.int .i64 c.n) ∧ w'.cell? ⟨w.heap.size, 2, none⟩ = some (.slice ba bn bc)) (by kernel_rfl) ?_
  have hG := And.intro c1 (And.intro b0 (And.intro b1 b2))
  refine wpL_pure (i := 0) (v := ?_) rfl (by kernel_rfl) (fun _ _ _ h => h) (Or.inl ⟨by rfl, ?_⟩) ?_; rotate_left; focus ((intro wq; go_simp); first | done | (with_reducible rfl))
  refine wpL_take (i := 1) (v := ?_) rfl (by kernel_rfl) (fun _ _ _ h => h) (Or.inl ⟨by rfl, ?_⟩) (by assumption) ?_; rotate_left; focus ((intro wq hq; go_split_ands; go_simp); first | done | (with_reducible rfl))
  refine wpL_pure (i := 2) (v := ?_) rfl (by kernel_rfl) (fun _ _ _ h => h) (Or.inl ⟨by rfl, ?_⟩) ?_; rotate_left; focus ((intro wq; go_simp); first | done | (with_reducible rfl))
  refine wpL_pure (i := 3) (v := ?_) rfl (by kernel_rfl) (fun _ _ _ h => h) (Or.inl ⟨by rfl, ?_⟩) ?_; rotate_left; focus ((intro wq; go_simp); first | done | (with_reducible rfl))
  refine wpL_pure (i := 4) (v := ?_) rfl (by kernel_rfl) (fun _ _ _ h => h) (Or.inl ⟨by rfl, ?_⟩) ?_; rotate_left; focus ((intro wq; go_simp); first | done | (with_reducible rfl))
  refine wpL_take (i := 5) (v := ?_) rfl (by kernel_rfl) (fun _ _ _ h => h) (Or.inl ⟨by rfl, ?_⟩) (by assumption) ?_; rotate_left; focus ((intro wq hq; go_split_ands; go_simp); first | done | (with_reducible rfl))
  refine wpL_eff (i := 6) rfl (by kernel_rfl) (fun K hK => ?_)
  go_simp
  refine hon.mono ?_
  rintro e w1 ⟨v1, rfl, hS1, a1, n1, k1, rfl⟩
  refine hK _ _ (.inl rfl) ?_
  clear hK K
  refine wpL_pure (i := 7) (v := ?_) rfl (by kernel_rfl) (fun _ _ _ h => h) (Or.inl ⟨by rfl, ?_⟩) ?_; rotate_left; focus ((intro wq; go_simp); first | done | (with_reducible rfl))
  refine wpL_pure (i := 8) (v := ?_) rfl (by kernel_rfl) (fun _ _ _ h => h) (Or.inl ⟨by rfl, ?_⟩) ?_; rotate_left; focus ((intro wq; go_simp); first | done | (with_reducible rfl))
  have d1 := hS1.pick3.cellAt 1 _ rfl
  have g1 := hS1.pick3.freeAt 1
  refine wpL_eff (i := 9) rfl (by kernel_rfl) (fun K hK => ?_)
  go_simp
  refine hK _ _ (.inl rfl) ?_
  clear hK K hG
  refine wpL_done (by kernel_rfl) ?_
  have hS2 := hS1.pick3.set 1 (.slice a1 n1 k1)
  generalize w1.setCell _ _ = w2 at *
  clear d1 g1
  have d2 := hS2.cellAt 2 _ rfl
  have b0 := hS2.pick3.cellAt 0 _ rfl
  have b1 := hS2.pick3.cellAt 1 _ rfl
  have b2 := hS2.pick3.cellAt 2 _ rfl
  go_wp2_with fail
  refine wpL_begin [7, 8, 9, 10] (fun w' => w'.cell? ⟨b, 2, none⟩ = some wv ∧ w'.cell? ⟨w.heap.size, 0, none⟩ = some (.bool c.cut) ∧ w'.cell? ⟨w.heap.size, 1, none⟩ = some (.int .i64 c.n) ∧ w'.cell? ⟨w.heap.size, 2, none⟩ = some (.slice ba bn bc)) (by kernel_rfl) ?_
  have hG := And.intro d2 (And.intro b0 (And.intro b1 b2))
  refine wpL_pure (i := 0) (v := ?_) rfl (by kernel_rfl) (fun _ _ _ h => h) (Or.inl ⟨by rfl, ?_⟩) ?_; rotate_left; focus ((intro wq; go_simp); first | done | (with_reducible rfl))
  refine wpL_pure (i := 1) (v := ?_) rfl (by kernel_rfl) (fun _ _ _ h => h) (Or.inl ⟨by rfl, ?_⟩) ?_; rotate_left; focus ((intro wq; go_simp); first | done | (with_reducible rfl))
  refine wpL_pure (i := 2) (v := ?_) rfl (by kernel_rfl) (fun _ _ _ h => h) (Or.inl ⟨by rfl, ?_⟩) ?_; rotate_left; focus ((intro wq; go_simp); first | done | (with_reducible rfl))
  refine wpL_pure (i := 3) (v := ?_) rfl (by kernel_rfl) (fun _ _ _ h => h) (Or.inl ⟨by rfl, ?_⟩) ?_; rotate_left; focus ((intro wq; go_simp); first | done | (with_reducible rfl))
  refine wpL_take (i := 4) (v := ?_) rfl (by kernel_rfl) (fun _ _ _ h => h) (Or.inl ⟨by rfl, ?_⟩) (by assumption) ?_; rotate_left; focus ((intro wq hq; go_split_ands; go_simp); first | done | (with_reducible rfl))
  refine wpL_take (i := 5) (v := ?_) rfl (by kernel_rfl) (fun _ _ _ h => h) (Or.inl ⟨by rfl, ?_⟩) (by assumption) ?_; rotate_left; focus ((intro wq hq; go_split_ands; go_simp); first | done | (with_reducible rfl))
  refine wpL_eff (i := 6) rfl (by kernel_rfl) (fun K hK => ?_)
  go_simp
  have h7 := hS2.drew.alloc (.cells #[.bool c.cut, .int .i64 c.n, .slice ba bn bc] 98)
  have d2 := h7.pick1.cellAt 2 _ rfl
  have b0 := h7.pick4.cellAt 0 _ rfl
  have b1 := h7.pick4.cellAt 1 _ rfl
  have b2 := h7.pick4.cellAt 2 _ rfl
  refine hK _ _ (.inr <| .inl <| And.intro d2 (And.intro b0 (And.intro b1 b2))) ?_
  clear hK K
  have h8 : Sat w0 _ (osl 98 3 wv (ws.flatMap chgCells) :: filPt b fv (.slice a1 n1 k1) wv :: bsl (.slice a1 n1 k1) (c.on f.now) :: bsl (.slice ba bn bc) c.b :: bsl fv f.fast :: chgs ws :: pt w.heap.size _ :: F) := h7.sel 8 [6, 1, 2, 3, 5, 7, 4] rfl rfl
  refine wpL_eff (i := 7) rfl (by kernel_rfl) (fun K hK => ?_)
  refine step_append (w0 := w0) (by rfl) _ _ _ (by rfl) _ i _ Try.underlying86 hi hz0 hz1 (by rfl) (by omega) (by rfl) (by rfl) hoc h8 (rdsl_new _ _ _ 3 1 1 (by rfl)) h63 hby ?_
  intro v2 w3 hS3 hne
  obtain ⟨g2, n2, k2, rfl⟩ := hne (by simp)
  have e2 := hS3.pick1.cellAt 2 _ rfl
  have g3 := hS3.pick1.freeAt 2
  have b0 := (hS3.sel 7 [6] rfl rfl).cellAt 0 _ rfl
  have b1 := (hS3.sel 7 [6] rfl rfl).cellAt 1 _ rfl
  have b2 := (hS3.sel 7 [6] rfl rfl).cellAt 2 _ rfl
  refine hK _ _ (.inl rfl) ?_
  clear hK K
  refine wpL_pure (i := 8) (v := ?_) rfl (by kernel_rfl) (fun _ _ _ h => h) (Or.inl ⟨by rfl, ?_⟩) ?_; rotate_left; focus ((intro wq; go_simp); first | done | (with_reducible rfl))
  refine wpL_pure (i := 9) (v := ?_) rfl (by kernel_rfl) (fun _ _ _ h => h) (Or.inl ⟨by rfl, ?_⟩) ?_; rotate_left; focus ((intro wq; go_simp); first | done | (with_reducible rfl))
  refine wpL_eff (i := 10) rfl (by kernel_rfl) (fun K hK => ?_)
  go_simp
  refine hK _ _ (.inl rfl) ?_
  clear hK K
  refine wpL_done (by kernel_rfl) ?_
  go_wp2
  go_end0
  refine ⟨_, rfl, ?_⟩
  have h9 := hS3.pick1.set 2 (.slice (some ⟨g2, 0, none⟩) n2 k2)
  refine FilRep.shut (fv := fv) (nv := .slice a1 n1 k1) (wv := .slice (some ⟨g2, 0, none⟩) n2 k2) (ws := ws ++ [(c, .slice ba bn bc)]) ?_ ?_
  · rw [List.map_append, Hws.out]; rfl
  · have h10 : Sat w0 _ (bsl (.slice ba bn bc) c.b :: chgs ws :: filPt b fv (.slice a1 n1 k1) (.slice (some ⟨g2, 0, none⟩) n2 k2) :: bsl fv f.fast :: bsl (.slice a1 n1 k1) (c.on f.now) :: osl 98 3 (.slice (some ⟨g2, 0, none⟩) n2 k2) (ws.flatMap chgCells ++ [.bool c.cut, .int .i64 c.n, .slice ba bn bc]) :: F) := h9.sel 7 [3, 5, 0, 4, 2, 1] rfl rfl
    have h11 := Sat.star.2 h10.pick1
    rw [← chgs_snoc ws (c, .slice ba bn bc)] at h11
    unfold FilRaw
    rw [List.flatMap_append]
    simp only [List.flatMap_cons, List.flatMap_nil, List.append_nil, chgCells]
    exact h11.sel 5 [1, 2, 3, 4, 0] rfl rfl
end
end Go.Proofs.Ytmjldaedhmipkaa
/- Good names. -/
namespace Go.Proofs.Ytmjldaedhmipkaa
open Go Go.Sl Go.Med Go.MapKept Go.RowKit
section
variable {w : World} {s : ByteArray}
theorem goodC_iff (c : UInt8) : goodC c = decide ((97 ≤ (c.toNat : Int) ∧ (c.toNat : Int) ≤ 122) ∨ (48 ≤ (c.toNat : Int) ∧ (c.toNat : Int) ≤ 57) ∨ (c.toNat : Int) = 46 ∨ (c.toNat : Int) = 45) := by
  rw [Bool.eq_iff_iff]
  have e1 : ∀ k : UInt8, (c == k) = decide (c.toNat = k.toNat) := fun k => by
    rw [Bool.eq_iff_iff]; simp [UInt8.toNat_inj]
  simp only [goodC, Bool.or_eq_true, Bool.and_eq_true, decide_eq_true_eq, UInt8.le_iff_toNat_le, e1]
  simp only [UInt8.reduceToNat]
  omega
theorem all_take_succ (l : List UInt8) (k : Nat) (h : k < l.length) : (l.take (k + 1)).all goodC = ((l.take k).all goodC && goodC l[k]) := by
  rw [List.take_succ_eq_append_getElem h, List.all_append]; simp
set_option maxHeartbeats 1000000 in
theorem good_c (s : ByteArray) (w : World) (hs : s.size ≤ 9223372036854775807) :
    Calls Try.prog 50 #[.string s] w (Rtn fun v w' => v = .bool (good s) ∧ w = w') := by
  go_enter Try.func50, Try.ntmps50
  by_cases h1 : (s.size : Int) < 1
  · go_wp2
    go_ret
    exact ⟨.bool false, rfl, by rw [show good s = false from by unfold good; simp; omega], rfl⟩
  by_cases h2 : 24 < (s.size : Int)
  · have h1' : decide ((s.size : Int) < 1) = false := by simpa using h1
    go_wp2
    go_ret
    exact ⟨.bool false, rfl, by rw [show good s = false from by unfold good; simp; omega], rfl⟩
  have h1' : decide ((s.size : Int) < 1) = false := by simpa using h1
  have h2' : decide (24 < (s.size : Int)) = false := by simpa using h2
  go_wp2
  go_loop [15] (fun i => ∃ k : Nat, k ≤ s.size ∧ i = .int .i64 k ∧ (s.data.toList.take k).all goodC = true) (fun i => s.size - (intOf i).toNat)
  case atStart => exact ⟨0, Nat.zero_le _, rfl, by simp⟩
  case round =>
    obtain ⟨k, hk, rfl, hall⟩ := hrel
    have Hall := Lib.hid hall; clear hall
    by_cases hlt : k < s.size
    · have Hc := Lib.hid (goodC_iff s[k])
      have Hn := Lib.hid (all_take_succ s.data.toList k (by simpa using hlt))
      have hcls : (s[k].toNat : Int) ≤ 44 ∨ (s[k].toNat : Int) = 45 ∨ (s[k].toNat : Int) = 46 ∨ (s[k].toNat : Int) = 47 ∨ (48 ≤ (s[k].toNat : Int) ∧ (s[k].toNat : Int) ≤ 57) ∨ (58 ≤ (s[k].toNat : Int) ∧ (s[k].toNat : Int) ≤ 96) ∨ (97 ≤ (s[k].toNat : Int) ∧ (s[k].toNat : Int) ≤ 122) ∨ 123 ≤ (s[k].toNat : Int) := by omega
      have hbad : goodC s[k] = false → good s = false := by
        intro hgc
        unfold good
        have : s.data.toList.all goodC = false := by
          rw [List.all_eq_false]
          exact ⟨s[k], by exact List.getElem_mem (by simpa using hlt), by simpa using hgc⟩
        rw [this]; simp
      have Hbad := Lib.hid hbad; clear hbad
      have hgd : goodC s[k] = true → (s.data.toList.take (k + 1)).all goodC = true := by
        intro hgc
        rw [Hn.out, Hall.out]
        exact hgc
      have Hgd := Lib.hid hgd; clear hgd
      rcases hcls with g1 | g1 | g1 | g1 | ⟨g1, g2⟩ | ⟨g1, g2⟩ | ⟨g1, g2⟩ | g1
      · have b46 : ((s[k].toNat : Int) == 46) = false := by rw [beq_eq_false_iff_ne]; omega
        have b45 : ((s[k].toNat : Int) == 45) = false := by rw [beq_eq_false_iff_ne]; omega
        go_wp2
        go_ret
        exact ⟨.bool false, rfl, by rw [Hbad.out (by rw [Hc.out]; simp; omega)], rfl⟩
      · go_wp2
        go_round
        case rel => exact ⟨k + 1, by omega, by go_num, Hgd.out (by rw [Hc.out]; simp; omega)⟩
        case measure => simp [intOf]; omega
      · go_wp2
        go_round
        case rel => exact ⟨k + 1, by omega, by go_num, Hgd.out (by rw [Hc.out]; simp; omega)⟩
        case measure => simp [intOf]; omega
      · have b46 : ((s[k].toNat : Int) == 46) = false := by rw [beq_eq_false_iff_ne]; omega
        have b45 : ((s[k].toNat : Int) == 45) = false := by rw [beq_eq_false_iff_ne]; omega
        go_wp2
        go_ret
        exact ⟨.bool false, rfl, by rw [Hbad.out (by rw [Hc.out]; simp; omega)], rfl⟩
      · go_wp2
        go_round
        case rel => exact ⟨k + 1, by omega, by go_num, Hgd.out (by rw [Hc.out]; simp; omega)⟩
        case measure => simp [intOf]; omega
      · have b57 : decide ((s[k].toNat : Int) ≤ 57) = false := by simp; omega
        have b46 : ((s[k].toNat : Int) == 46) = false := by rw [beq_eq_false_iff_ne]; omega
        have b45 : ((s[k].toNat : Int) == 45) = false := by rw [beq_eq_false_iff_ne]; omega
        go_wp2
        go_ret
        exact ⟨.bool false, rfl, by rw [Hbad.out (by rw [Hc.out]; simp; omega)], rfl⟩
      · go_wp2
        go_round
        case rel => exact ⟨k + 1, by omega, by go_num, Hgd.out (by rw [Hc.out]; simp; omega)⟩
        case measure => simp [intOf]; omega
      · have b122 : decide ((s[k].toNat : Int) ≤ 122) = false := by simp; omega
        have b57 : decide ((s[k].toNat : Int) ≤ 57) = false := by simp; omega
        have b46 : ((s[k].toNat : Int) == 46) = false := by rw [beq_eq_false_iff_ne]; omega
        have b45 : ((s[k].toNat : Int) == 45) = false := by rw [beq_eq_false_iff_ne]; omega
        go_wp2
        go_ret
        exact ⟨.bool false, rfl, by rw [Hbad.out (by rw [Hc.out]; simp; omega)], rfl⟩
    · go_wp2
      go_ret
      refine ⟨.bool true, rfl, ?_, rfl⟩
      have : k = s.size := by omega
      subst this
      have := Hall.out
      rw [List.take_of_length_le (by simp)] at this
      rw [show good s = true from by unfold good; simp only [this]; simp; omega]
end
end Go.Proofs.Ytmjldaedhmipkaa
/- What holds of every medium that calls made. -/
namespace Go.Med
structure Fil.Ok (K : Nat) (f : Fil) : Prop where
  now : f.now = f.at f.waits.length
  cuts : ∀ k c, f.waits[k]? = some c → c.cut = true → c.n ≤ (f.at k).length
  size : ∀ k, k ≤ f.waits.length → (f.at k).length ≤ 16777216
  budget : f.waits.length ≤ K
theorem Fil.at_zero (f : Fil) : f.at 0 = f.fast := rfl
theorem Fil.at_do (f : Fil) (c : Chg) (k : Nat) (h : k ≤ f.waits.length) : (f.do c).at k = f.at k := by
  unfold Fil.at Fil.do
  simp only
  rw [List.take_append_of_le_length h]
theorem Fil.at_succ (f : Fil) (k : Nat) (c : Chg) (h : f.waits[k]? = some c) : f.at (k + 1) = c.on (f.at k) := by
  unfold Fil.at
  obtain ⟨hlt, rfl⟩ := List.getElem?_eq_some_iff.1 h
  rw [List.take_succ_eq_append_getElem hlt, List.foldl_append]
  rfl
theorem Fil.at_do_last (f : Fil) (c : Chg) (hn : f.now = f.at f.waits.length) : (f.do c).at (f.waits.length + 1) = c.on f.now := by
  rw [Fil.at_succ _ _ c (by simp [Fil.do]), Fil.at_do _ _ _ (Nat.le_refl _), hn]
theorem Fil.Ok.now_len {K : Nat} {f : Fil} (h : f.Ok K) : f.now.length ≤ 16777216 := by
  rw [h.now]; exact h.size _ (Nat.le_refl _)
theorem Fil.Ok.mono {K K' : Nat} {f : Fil} (h : f.Ok K) (hk : K ≤ K') : f.Ok K' := ⟨h.now, h.cuts, h.size, Nat.le_trans h.budget hk⟩
theorem Fil.Ok.new (K : Nat) : Fil.new.Ok K := ⟨rfl, by simp [Fil.new], by simp [Fil.new, Fil.at], by simp [Fil.new]⟩
theorem Fil.Ok.do {K : Nat} {f : Fil} (h : f.Ok K) (c : Chg) (h1 : c.cut = true → c.n ≤ f.now.length) (h2 : c.cut = false → f.now.length + c.b.length ≤ 16777216) : (f.do c).Ok (K + 1) := by
  have hw : (f.do c).waits.length = f.waits.length + 1 := by simp [Fil.do]
  refine ⟨?_, ?_, ?_, by rw [hw]; exact Nat.succ_le_succ h.budget⟩
  · rw [hw, f.at_do_last c h.now]; rfl
  · intro k c' hk hc
    simp only [Fil.do] at hk
    rcases Nat.lt_trichotomy k f.waits.length with hlt | rfl | hgt
    · rw [List.getElem?_append_left hlt] at hk
      rw [f.at_do c k (Nat.le_of_lt hlt)]
      exact h.cuts k c' hk hc
    · rw [List.getElem?_append_right (Nat.le_refl _), Nat.sub_self] at hk
      simp at hk; subst hk
      rw [f.at_do c _ (Nat.le_refl _), ← h.now]; exact h1 hc
    · rw [List.getElem?_append_right (Nat.le_of_lt hgt)] at hk
      have : k - f.waits.length ≠ 0 := by omega
      obtain ⟨j, hj⟩ : ∃ j, k - f.waits.length = j + 1 := ⟨k - f.waits.length - 1, by omega⟩
      rw [hj] at hk; simp at hk
  · intro k hk
    rw [hw] at hk
    rcases Nat.lt_or_ge k (f.waits.length + 1) with hlt | hge
    · rw [f.at_do c k (by omega)]; exact h.size k (by omega)
    · obtain rfl : k = f.waits.length + 1 := by omega
      rw [f.at_do_last c h.now]
      unfold Chg.on
      cases hc : c.cut
      · simpa using h2 hc
      · simp; have := h.now_len; omega
theorem Fil.Ok.sync {K : Nat} {f : Fil} (h : f.Ok K) : f.sync.Ok K :=
  ⟨rfl, by simp [Fil.sync], (by simp only [Fil.sync, Fil.at]; intro k _; simpa using h.now_len), by simp [Fil.sync]⟩
theorem Fil.Ok.flat (K : Nat) (b : Bs) (h : b.length ≤ 16777216) : (⟨b, b, []⟩ : Fil).Ok K := ⟨rfl, by simp, by intro k _; simpa [Fil.at] using h, by simp⟩
theorem clampN_le (x : Int) (n : Nat) : clampN x n ≤ n := Nat.min_le_right _ _
theorem Fil.left_len {K : Nat} {f : Fil} (h : f.Ok K) (a b : Int) : (f.left a b).length ≤ 16777216 := by
  unfold Fil.left
  have hk := clampN_le a f.waits.length
  generalize clampN a f.waits.length = k at *
  simp only
  cases hc : f.waits[k]? with
  | none => exact h.size k hk
  | some c =>
    simp only
    split
    · exact h.size k hk
    · rename_i hcut
      have hlt := (List.getElem?_eq_some_iff.1 hc).1
      have := h.size (k + 1) hlt
      rw [f.at_succ k c hc] at this
      unfold Chg.on at this
      rw [if_neg hcut] at this
      simp at this ⊢
      have : min (clampN b c.b.length) c.b.length ≤ c.b.length := Nat.min_le_right _ _
      omega
theorem Fil.Ok.crash {K : Nat} {f : Fil} (h : f.Ok K) (a b : Int) : (f.crash a b).Ok K := Fil.Ok.flat K _ (f.left_len h a b)

/-! ### names -/
def Srt (l : Names) : Prop := l.Pairwise fun a b => lt a.1 b.1 = true
theorem lt_trans {a b c : ByteArray} (h : lt a b = true) (k : lt b c = true) : lt a c = true := by
  simp only [lt, decide_eq_true_eq] at *; exact List.lt_trans h k
theorem lt_irrefl (a : ByteArray) : lt a a = false := by simp [lt, List.lt_irrefl]
theorem lt_or {a b : ByteArray} (h : a ≠ b) : lt a b = true ∨ lt b a = true := by
  simp only [lt, decide_eq_true_eq]
  by_cases h1 : a.data.toList < b.data.toList
  · exact .inl h1
  · right
    have h2 : b.data.toList ≤ a.data.toList := List.not_lt.1 h1
    rcases List.le_iff_lt_or_eq.1 h2 with h3 | h3
    · exact h3
    · exfalso; apply h
      obtain ⟨⟨x⟩⟩ := a; obtain ⟨⟨y⟩⟩ := b
      simp at h3; subst h3; rfl
theorem Srt.keys {l : Names} (h : Srt l) : (l.map (·.1)).Nodup := by
  rw [List.nodup_iff_pairwise_ne, List.pairwise_map]
  refine h.imp fun {a b} hab e => ?_
  rw [e, lt_irrefl] at hab; cases hab
theorem Srt.del {l : Names} (h : Srt l) (s : ByteArray) : Srt (ndel l s) := h.sublist List.filter_sublist
theorem Srt.ins : ∀ {l : Names}, Srt l → ∀ {s : ByteArray} (i : Nat), (∀ p ∈ l, p.1 ≠ s) → Srt (nins l s i)
  | [], _, _, _, _ => List.pairwise_singleton _ _
  | p :: l, h, s, i, hs => by
    unfold nins
    obtain ⟨h1, h2⟩ := List.pairwise_cons.1 h
    split
    · rename_i hlt
      refine List.pairwise_cons.2 ⟨fun q hq => ?_, h⟩
      rcases List.mem_cons.1 hq with rfl | hq
      · exact hlt
      · exact lt_trans hlt (h1 q hq)
    · rename_i hlt
      have hps : lt p.1 s = true := (lt_or (hs p (.head _))).resolve_right (by simpa using hlt)
      refine List.pairwise_cons.2 ⟨fun q hq => ?_, Srt.ins h2 i (fun q hq => hs q (.tail _ hq))⟩
      have := (nins_perm l s i).mem_iff.1 hq
      rcases List.mem_cons.1 this with rfl | hq
      · exact hps
      · exact h1 q hq
theorem Srt.put {l : Names} (h : Srt l) (s : ByteArray) (i : Nat) : Srt (nput l s i) := (h.del s).ins i (ndel_keys l s)
structure NOk (n : Nat) (l : Names) : Prop where
  srt : Srt l
  len : l.length ≤ 500
  ids : ∀ p ∈ l, p.2 < n
  ne : ∀ p ∈ l, p.1 ≠ ByteArray.empty
theorem NOk.mono {n n' : Nat} {l : Names} (h : NOk n l) (hn : n ≤ n') : NOk n' l := ⟨h.srt, h.len, fun p hp => Nat.lt_of_lt_of_le (h.ids p hp) hn, h.ne⟩
theorem ndel_len (l : Names) (s : ByteArray) : (ndel l s).length ≤ l.length := List.length_filter_le _ _
theorem NOk.del {n : Nat} {l : Names} (h : NOk n l) (s : ByteArray) : NOk n (ndel l s) :=
  ⟨h.srt.del s, Nat.le_trans (ndel_len l s) h.len, fun p hp => h.ids p (List.mem_filter.1 hp).1, fun p hp => h.ne p (List.mem_filter.1 hp).1⟩
theorem nput_len (l : Names) (s : ByteArray) (i : Nat) : (nput l s i).length = (ndel l s).length + 1 := (nput_perm l s i).length_eq
theorem NOk.put {n : Nat} {l : Names} (h : NOk n l) (s : ByteArray) (i : Nat) (hi : i < n) (hl : (ndel l s).length < 500) (hs : s ≠ ByteArray.empty) : NOk n (nput l s i) := by
  refine ⟨h.srt.put s i, by rw [nput_len]; omega, fun p hp => ?_, fun p hp => ?_⟩
  rotate_left
  · rcases List.mem_cons.1 ((nput_perm l s i).mem_iff.1 hp) with rfl | hp
    · exact hs
    · exact h.ne p (List.mem_filter.1 hp).1
  rcases List.mem_cons.1 ((nput_perm l s i).mem_iff.1 hp) with rfl | hp
  · exact hi
  · exact h.ids p (List.mem_filter.1 hp).1
theorem ndel_lt {l : Names} (hs : Srt l) {s : ByteArray} {i : Nat} (h : nget l s = some i) : (ndel l s).length + 1 = l.length := by
  have := (ndel_perm hs.keys (nget_mem h)).length_eq
  simp at this; omega

/-! ### the medium -/
structure Med.Ok (K : Nat) (m : Med) : Prop where
  room : m.room ≤ 16777216
  left : m.left ≤ 9223372036854775807
  links : ∀ x ∈ m.waits, x.to ≠ ByteArray.empty → x.f < m.files.length
  names : ∀ k, k ≤ m.waits.length → NOk m.files.length (m.lastNames k)
  now : m.now = m.lastNames m.waits.length
  files : ∀ f ∈ m.files, f.Ok K
  budget : m.waits.length ≤ K
theorem Med.Ok.nowOk {K : Nat} {m : Med} (h : m.Ok K) : NOk m.files.length m.now := by rw [h.now]; exact h.names _ (Nat.le_refl _)
theorem Med.Ok.fastOk {K : Nat} {m : Med} (h : m.Ok K) : NOk m.files.length m.fast := h.names 0 (Nat.zero_le _)
theorem Med.Ok.file {K : Nat} {m : Med} (h : m.Ok K) (i : Nat) : (m.file i).Ok K := by
  unfold Med.file
  rcases Nat.lt_or_ge i m.files.length with hi | hi
  · rw [List.getD_eq_getElem?_getD, List.getElem?_eq_getElem hi]; exact h.files _ (List.getElem_mem hi)
  · rw [List.getD_eq_getElem?_getD, List.getElem?_eq_none hi]; exact Fil.Ok.new K
theorem Med.Ok.mono {K K' : Nat} {m : Med} (h : m.Ok K) (hk : K ≤ K') : m.Ok K' :=
  ⟨h.room, h.left, h.links, h.names, h.now, fun f hf => (h.files f hf).mono hk, Nat.le_trans h.budget hk⟩
theorem Med.Ok.new (K room : Nat) (h : room ≤ 16777216) : (new room).Ok K :=
  ⟨h, by simp [Med.new], by simp [Med.new], (by intro k _; simp [Med.new, Med.lastNames]; exact ⟨List.Pairwise.nil, by simp, by simp, by simp⟩), by simp [Med.new, Med.lastNames], by simp [Med.new], by simp [Med.new]⟩
theorem Med.Ok.step {K : Nat} {m : Med} (h : m.Ok K) : m.step.1.Ok K := by
  unfold Med.step
  split
  · split
    · exact ⟨h.room, h.left, h.links, h.names, h.now, h.files, h.budget⟩
    · exact ⟨h.room, Nat.le_trans (Nat.sub_le _ _) h.left, h.links, h.names, h.now, h.files, h.budget⟩
  · exact h
theorem Med.step_same (m : Med) : m.step.1.room = m.room ∧ m.step.1.fast = m.fast ∧ m.step.1.now = m.now ∧ m.step.1.files = m.files ∧ m.step.1.waits = m.waits := by
  unfold Med.step
  split
  · split <;> exact ⟨rfl, rfl, rfl, rfl, rfl⟩
  · exact ⟨rfl, rfl, rfl, rfl, rfl⟩
theorem Med.lastNames_link (m : Med) (x : Lnk) (k : Nat) (h : k ≤ m.waits.length) : (m.link x).lastNames k = m.lastNames k := by
  unfold Med.lastNames Med.link
  simp only
  rw [List.take_append_of_le_length h]
theorem Med.lastNames_last (m : Med) (x : Lnk) (h : m.now = m.lastNames m.waits.length) : (m.link x).lastNames (m.waits.length + 1) = x.on m.now := by
  rw [h]
  unfold Med.lastNames Med.link
  simp only
  rw [List.take_of_length_le (by simp), List.take_of_length_le (Nat.le_refl _), List.foldl_append]
  rfl
theorem Med.Ok.link {K : Nat} {m : Med} (h : m.Ok K) (x : Lnk) (hf : x.to ≠ ByteArray.empty → x.f < m.files.length) (hn : NOk m.files.length (x.on m.now)) : (m.link x).Ok (K + 1) := by
  have hw : (m.link x).waits.length = m.waits.length + 1 := by simp [Med.link]
  refine ⟨h.room, h.left, ?_, ?_, ?_, fun f hf => (h.files f hf).mono (Nat.le_succ _), by rw [hw]; exact Nat.succ_le_succ h.budget⟩
  · intro y hy
    simp only [Med.link, List.mem_append, List.mem_singleton] at hy
    rcases hy with hy | rfl
    · exact h.links y hy
    · exact hf
  · intro k hk
    rw [hw] at hk
    rcases Nat.lt_or_ge k (m.waits.length + 1) with hlt | hge
    · rw [m.lastNames_link x k (by omega)]; exact h.names k (by omega)
    · obtain rfl : k = m.waits.length + 1 := by omega
      rw [m.lastNames_last x h.now]; exact hn
  · rw [hw, m.lastNames_last x h.now]; rfl
theorem Med.Ok.setFile {K : Nat} {m : Med} (h : m.Ok K) (i : Nat) (f : Fil) (hf : f.Ok (K + 1)) : (m.setFile i f).Ok (K + 1) := by
  have hl : (m.setFile i f).files.length = m.files.length := by simp [Med.setFile]
  refine ⟨h.room, h.left, (by rw [hl]; exact h.links), (by rw [hl]; exact h.names), h.now, ?_, Nat.le_succ_of_le h.budget⟩
  intro g hg
  rcases List.mem_or_eq_of_mem_set hg with hg | rfl
  · exact (h.files g hg).mono (Nat.le_succ _)
  · exact hf
theorem Med.Ok.newFile {K : Nat} {m : Med} (h : m.Ok K) : ({ m with files := m.files ++ [Fil.new] } : Med).Ok K := by
  have hl : (m.files ++ [Fil.new]).length = m.files.length + 1 := by simp
  refine ⟨h.room, h.left, fun x hx ht => (by have := h.links x hx ht; simp only [hl]; omega), fun k hk => (h.names k hk).mono (by simp), h.now, ?_, h.budget⟩
  intro f hf
  rcases List.mem_append.1 hf with hf | hf
  · exact h.files f hf
  · rw [List.mem_singleton.1 hf]; exact Fil.Ok.new K
theorem good_ne {s : ByteArray} (h : good s = true) : s ≠ ByteArray.empty := by
  intro e; subst e; simp [good] at h
theorem Med.Ok.create {K : Nat} {m : Med} (h : m.Ok K) (s : ByteArray) : (m.create s).1.Ok (K + 1) := by
  unfold Med.create
  have h' := h.mono (Nat.le_succ K)
  split; · exact h'
  split; · exact h'
  rename_i hg
  split; · exact h'
  rename_i hn
  split; · exact h'
  rename_i hl
  split; · exact h'.step
  have hst := h.step
  obtain ⟨e1, e2, e3, e4, e5⟩ := m.step_same
  have hg' : good s = true := by simpa using hg
  have hn' : nget m.now s = none := by simpa using hn
  have h1 := hst.newFile
  rw [e4] at h1
  refine h1.link _ (fun _ => by simp) ?_
  show NOk _ (Lnk.on _ m.step.1.now)
  rw [e3]
  unfold Lnk.on
  simp only [if_true, if_neg (good_ne hg')]
  exact (h.nowOk.mono (by simp)).put s _ (by simp) (by rw [ndel_none hn']; omega) (good_ne hg')
theorem le_sum : ∀ (l : List Nat) (n : Nat), n ∈ l → n ≤ l.sum
  | [], _, h => by cases h
  | x :: l, n, h => by
    rcases List.mem_cons.1 h with rfl | h
    · simp
    · have := le_sum l n h; simp; omega
theorem Med.Ok.append {K : Nat} {m : Med} (h : m.Ok K) (s : ByteArray) (b : Bs) : (m.append s b).1.Ok (K + 1) := by
  unfold Med.append
  have h' := h.mono (Nat.le_succ K)
  split; · exact h'
  split; · exact h'
  rename_i i hi
  split; · exact h'
  rename_i hroom
  split; · exact h'.step
  refine h.step.setFile _ _ ((h.file i).do _ (by simp) ?_)
  intro _
  have hu : (m.file i).now.length ≤ m.used := by
    unfold Med.used
    have : (s, i) ∈ m.now := nget_mem hi
    exact le_sum _ _ (List.mem_map.2 ⟨(s, i), this, rfl⟩)
  have := h.room
  simp only
  omega
theorem Med.Ok.truncate {K : Nat} {m : Med} (h : m.Ok K) (s : ByteArray) (n : Int) : (m.truncate s n).1.Ok (K + 1) := by
  unfold Med.truncate
  have h' := h.mono (Nat.le_succ K)
  split; · exact h'
  split; · exact h'
  rename_i i hi
  split; · exact h'
  rename_i hn
  split; · exact h'.step
  exact h.step.setFile _ _ ((h.file i).do _ (by intro _; simp only; omega) (by simp))
theorem Med.Ok.rename {K : Nat} {m : Med} (h : m.Ok K) (s t : ByteArray) : (m.rename s t).1.Ok (K + 1) := by
  unfold Med.rename
  have h' := h.mono (Nat.le_succ K)
  split; · exact h'
  split; · exact h'
  rename_i i hi
  split; · exact h'
  rename_i hg
  split; · exact h'.step
  obtain ⟨e1, e2, e3, e4, e5⟩ := m.step_same
  have hg' : good t = true := by simpa using hg
  have hid : i < m.files.length := h.nowOk.ids _ (nget_mem hi)
  refine h.step.link _ (fun _ => by rw [e4]; exact hid) ?_
  rw [e3, e4]
  unfold Lnk.on
  simp only [if_neg (good_ne hg')]
  have hd := ndel_lt h.nowOk.srt hi
  have hl := h.nowOk.len
  have hs : s ≠ ByteArray.empty := h.nowOk.ne _ (nget_mem hi)
  rw [if_neg hs]
  refine (h.nowOk.del s).put t i hid ?_ (good_ne hg')
  have := ndel_len (ndel m.now s) t
  omega
theorem Med.Ok.remove {K : Nat} {m : Med} (h : m.Ok K) (s : ByteArray) : (m.remove s).1.Ok (K + 1) := by
  unfold Med.remove
  have h' := h.mono (Nat.le_succ K)
  split; · exact h'
  split; · exact h'
  rename_i i hi
  split; · exact h'.step
  obtain ⟨e1, e2, e3, e4, e5⟩ := m.step_same
  refine h.step.link _ (fun hh => absurd rfl hh) ?_
  rw [e3, e4]
  unfold Lnk.on
  have hs : s ≠ ByteArray.empty := h.nowOk.ne _ (nget_mem hi)
  simp only [if_true, if_neg hs]
  exact h.nowOk.del s
theorem Med.Ok.sync {K : Nat} {m : Med} (h : m.Ok K) (s : ByteArray) : (m.sync s).1.Ok (K + 1) := by
  unfold Med.sync
  have h' := h.mono (Nat.le_succ K)
  split; · exact h'
  split; · exact h'
  rename_i i hi
  split; · exact h'.step
  exact h.step.setFile _ _ ((h.file i).sync.mono (Nat.le_succ _))
theorem Med.Ok.syncDir {K : Nat} {m : Med} (h : m.Ok K) : m.syncDir.1.Ok K := by
  unfold Med.syncDir
  split; · exact h
  split; · exact h.step
  obtain ⟨e1, e2, e3, e4, e5⟩ := m.step_same
  have hs := h.step
  refine ⟨hs.room, hs.left, by simp, ?_, ?_, hs.files, by simp⟩
  · intro k _
    show NOk _ _
    simp only [Med.lastNames, List.take_nil, List.foldl_nil]
    rw [e4]; exact h.nowOk
  · simp only [Med.lastNames, List.take_nil, List.foldl_nil]
    exact e3
theorem Med.Ok.setRoom {K : Nat} {m : Med} (h : m.Ok K) (n : Int) : (m.setRoom n).1.Ok K := by
  unfold Med.setRoom
  split; · exact h
  split; · exact h
  exact ⟨by simp only; omega, h.left, h.links, h.names, h.now, h.files, h.budget⟩
theorem Med.Ok.arm {K : Nat} {m : Med} (h : m.Ok K) (n : Int) (hn : n ≤ 9223372036854775807) : (m.arm n).1.Ok K := by
  unfold Med.arm
  split; · exact h
  split; · exact h
  exact ⟨h.room, by simp only; omega, h.links, h.names, h.now, h.files, h.budget⟩
theorem crashFiles_len (l : List Int) : ∀ (ns : Names) (j : Nat) (fs : List Fil), (crashFiles l ns j fs).length = fs.length
  | [], _, _ => rfl
  | p :: ns, j, fs => by unfold crashFiles; rw [crashFiles_len l ns]; simp
theorem crashFiles_ok (l : List Int) (K : Nat) : ∀ (ns : Names) (j : Nat) (fs : List Fil), (∀ f ∈ fs, f.Ok K) → ∀ f ∈ crashFiles l ns j fs, f.Ok K
  | [], _, _, h => h
  | p :: ns, j, fs, h => by
    unfold crashFiles
    refine crashFiles_ok l K ns _ _ ?_
    intro f hf
    rcases List.mem_or_eq_of_mem_set hf with hf | rfl
    · exact h f hf
    · refine Fil.Ok.crash ?_ _ _
      rcases Nat.lt_or_ge p.2 fs.length with hi | hi
      · rw [List.getD_eq_getElem?_getD, List.getElem?_eq_getElem hi]; exact h _ (List.getElem_mem hi)
      · rw [List.getD_eq_getElem?_getD, List.getElem?_eq_none hi]; exact Fil.Ok.new K
theorem Med.Ok.crash {K : Nat} {m : Med} (h : m.Ok K) (l : List Int) : (m.crash l).Ok K := by
  unfold Med.crash
  have hn := h.names _ (clampN_le (num l 0) m.waits.length)
  generalize m.lastNames (clampN (num l 0) m.waits.length) = ns at *
  refine ⟨h.room, by simp, by simp, ?_, ?_, crashFiles_ok l K ns 1 m.files h.files, by simp⟩
  · intro k _
    simp only [Med.lastNames, List.take_nil, List.foldl_nil, crashFiles_len]
    exact hn
  · simp only [Med.lastNames, List.take_nil, List.foldl_nil]
theorem sum_le (l : List Nat) (b : Nat) (h : ∀ x ∈ l, x ≤ b) : l.sum ≤ l.length * b := by
  induction l with
  | nil => simp
  | cons x l ih =>
    have h1 := h x (.head _)
    have h2 := ih fun y hy => h y (.tail _ hy)
    simp only [List.sum_cons, List.length_cons, Nat.add_mul]
    omega
theorem Med.Ok.used_le {K : Nat} {m : Med} (h : m.Ok K) : m.used ≤ 8388608000 := by
  unfold Med.used
  have h1 := sum_le (m.now.map fun p => (m.file p.2).now.length) 16777216 (by
    intro x hx
    obtain ⟨p, _, rfl⟩ := List.mem_map.1 hx
    exact (h.file p.2).now_len)
  have := h.nowOk.len
  rw [List.length_map] at h1
  have := Nat.mul_le_mul_right 16777216 this
  omega
end Go.Med
/- Used; the names in a map; copies of maps. -/
namespace Go.Proofs.Ytmjldaedhmipkaa
open Go Go.Sl Go.Med Go.MapKept Go.RowKit
section
variable {w0 w : World} {F : List HProp} {m fb nb b r : Nat} {M : Med} {bs : List Nat} {wv v bv : Value} {s : ByteArray} {l : Names} {fs : List Fil}

/-- A file among all: its block's cells. -/
theorem file_cells (h : Sat w0 w (filesRep bs fs :: F)) (hl : bs.length = fs.length) {i : Nat} (hi : i < fs.length) :
    ∃ fa fn fc na nc wv, w.cell? ⟨bs.getD i 0, 0, none⟩ = some (.slice fa fn fc) ∧ w.cell? ⟨bs.getD i 0, 1, none⟩ = some (.slice na (fs.getD i Fil.new).now.length nc) ∧ w.cell? ⟨bs.getD i 0, 2, none⟩ = some wv ∧
      rdsl 1 (.slice na (fs.getD i Fil.new).now.length nc) (bys (fs.getD i Fil.new).now) w ∧ (fs.getD i Fil.new).now.length ≤ nc ∧ nc ≤ 9223372036854775807 ∧ (na = none ∧ nc = 0 ∨ ∃ g, na = some ⟨g, 0, none⟩) := by
  obtain ⟨G, h1, _⟩ := files_take bs fs i hl hi
  rw [h1] at h
  obtain ⟨fv, nv, wv, ws, hws, h⟩ := FilRep.open (Sat.star.1 h)
  obtain ⟨fa, fn, fc, rfl, _⟩ := (h.sel 2 [1] rfl rfl).rd
  have hN := h.sel 3 [2] rfl rfl
  have hr := hN.rd
  rcases Sat.osl_cases hN with ⟨rfl, hx, _⟩ | ⟨g, n, cap, cs, rfl, hx, h1, _, h3, _, _⟩
  · have hx0 : (fs.getD i Fil.new).now.length = 0 := by rw [← bys_len]; exact congrArg List.length hx
    rw [hx0]
    exact ⟨fa, fn, fc, none, 0, wv, h.cellAt 0 _ rfl, h.cellAt 1 _ rfl, h.cellAt 2 _ rfl, hr, Nat.le_refl _, by omega, .inl ⟨rfl, rfl⟩⟩
  · rw [bys_len, Nat.mul_one] at hx
    subst hx
    exact ⟨fa, fn, fc, _, cap, wv, h.cellAt 0 _ rfl, h.cellAt 1 _ rfl, h.cellAt 2 _ rfl, hr, h1, h3, .inr ⟨g, rfl⟩⟩
theorem mapL_pick {todo : Names} {k v : Value} {left : List (Value × Value)} (h : (mapL bs todo).Perm ((k, v) :: left)) :
    ∃ p todo', todo.Perm (p :: todo') ∧ k = .string p.1 ∧ v = ptr (bs.getD p.2 0) ∧ left.Perm (mapL bs todo') := by
  have hm : (k, v) ∈ mapL bs todo := h.mem_iff.2 (.head _)
  obtain ⟨p, hp, e⟩ := List.mem_map.1 hm
  simp only [Prod.mk.injEq] at e
  obtain ⟨t1, t2, rfl⟩ := List.append_of_mem hp
  have h1 : (t1 ++ p :: t2).Perm (p :: (t1 ++ t2)) := List.perm_middle
  refine ⟨p, t1 ++ t2, h1, e.1.symm, e.2.symm, ?_⟩
  have h2 : ((k, v) :: left).Perm ((k, v) :: mapL bs (t1 ++ t2)) := by
    refine h.symm.trans ((mapL_perm h1).trans ?_)
    show List.Perm ((Value.string p.1, ptr (bs.getD p.2 0)) :: mapL bs (t1 ++ t2)) _
    rw [e.1, e.2]
  exact (List.Perm.cons_inv h2)

def sumOf (M : Med) (l : Names) : Nat := (l.map fun p => (M.file p.2).now.length).sum
theorem sumOf_perm {l l' : Names} (h : l.Perm l') : sumOf M l = sumOf M l' := (h.map _).sum_nat

abbrev usedCon (m : Nat) (M : Med) (fb nb : Nat) (wv : Value) (bs : List Nat) (F : List HProp) : List HProp := medPt m M fb nb wv :: omap .string nb (mapL bs M.now) :: filesRep bs M.files :: F
set_option maxHeartbeats 1000000 in
theorem used_c (h : Sat w0 w (usedCon m M fb nb wv bs F)) (hl : bs.length = M.files.length) (hid : ∀ p ∈ M.now, p.2 < M.files.length) (hu : M.used ≤ 9223372036854775807) :
    Calls Try.prog 46 #[ptr m] w (Rtn fun v w' => v = .int .i64 M.usedTold ∧ Sat w0 w' (usedCon m M fb nb wv bs F)) := by
  have hd := dead_c h
  have c2 := h.cellAt 2 _ rfl
  cases ho : M.off
  · rw [ho] at hd
    have Hu : Hid (M.usedTold = M.used) := by show _ = _; unfold Med.usedTold; rw [ho]; rfl
    clear ho
    go_enter Try.func46, Try.ntmps46
    go_wp2_with (first
      | (go_at_call 49; refine hd.mono ?_; rintro e w1 ⟨v, rfl, rfl, rfl⟩)
      | (at_range; go_must (refine wpList_range_sl (by rfl) _ _ _ _ (by rfl) Try.underlying55 (by rfl) h.pick1 ?_); intro r w1 hS))
    go_frame
    go_loopg [3] M.now.length (fun g n wr => ∃ (acc : Nat) (todo : Names) (left : List (Value × Value)), n = .int .i64 acc ∧ g = todo.length ∧ left.Perm (mapL bs todo) ∧ (∀ p ∈ todo, p ∈ M.now) ∧ acc + sumOf M todo = M.used ∧
      Sat w0 wr (rng .string nb r (mapL bs M.now) left :: medPt m M fb nb wv :: filesRep bs M.files :: F))
    case atStart => exact ⟨0, M.now, _, rfl, rfl, List.Perm.refl _, fun _ h => h, by simp [Med.used, sumOf], hS⟩
    case round =>
      obtain ⟨acc, todo, left, rfl, rfl, hleft, hsub, hacc, hS⟩ := hrel
      have Hacc := Lib.hid hacc
      have Hsub := Lib.hid hsub
      have hb : acc ≤ M.used := by omega
      clear hacc hsub
      go_wp2_with (first
        | (at_next; go_must (refine wpList_next_sl (by rfl) _ (by rfl) (by rfl) hS ?_ ?_)))
      · intro hnil
        have Hnil := Lib.hid hnil; clear hnil
        go_wp2
        go_ret
        refine ⟨.int .i64 acc, rfl, ?_, ?_⟩
        · have h0 : todo = [] := by
            have := hleft
            rw [Hnil.out] at this
            simpa [mapL] using this.symm
          subst h0
          have := Hacc.out
          simp only [sumOf, List.map_nil, List.sum_nil, Nat.add_zero] at this
          rw [Hu.out, this]
        · exact (hS.rng_done).pick1
      · intro k v left' w1 hp hS1 hen
        obtain ⟨p, todo', hp', rfl, rfl, hl'⟩ := mapL_pick (hleft.symm.trans hp)
        have hpi : p.2 < M.files.length := hid p (Hsub.out p (hp'.mem_iff.2 (.head _)))
        obtain ⟨fa, fn, fc, na, nc, wv', f0, f1, f2, _, _, _, hna⟩ := file_cells (hS1.sel 3 [2] rfl rfl) hl hpi
        have hsum : Hid (sumOf M todo = (M.file p.2).now.length + sumOf M todo') := by
          show _ = _
          rw [sumOf_perm hp']; simp [sumOf]
        have hb2 : acc + (M.file p.2).now.length ≤ M.used := by
          have h1 := Hacc.out
          have h2 := hsum.out
          omega
        have Hp := Lib.hid hp'
        have Hl := Lib.hid hl'
        clear hp hp' hl' hleft
        clear hna
        change w1.cell? ⟨bs.getD p.2 0, 1, none⟩ = some (.slice na (M.file p.2).now.length nc) at f1
        generalize bs.getD p.2 0 = q at *
        generalize hL : (M.file p.2).now.length = L at *
        have HL := Lib.hid hL; clear hL
        go_wp2
        go_roundg todo'.length
        case measure => have := Hp.out.length_eq; simp at this; omega
        case rel =>
          refine ⟨acc + L, todo', left', by go_num, rfl, Hl.out, fun x hx => Hsub.out x (Hp.out.mem_iff.2 (.tail _ hx)), ?_, hS1⟩
          have h1 := Hacc.out
          have h2 := hsum.out
          omega
  · rw [ho] at hd
    have Hu : Hid (M.usedTold = 0) := by show _ = _; unfold Med.usedTold; rw [ho]; rfl
    clear ho
    go_enter Try.func46, Try.ntmps46
    go_wp2_with (go_at_call 49; refine hd.mono ?_; rintro e w1 ⟨v, rfl, rfl, rfl⟩)
    go_ret
    exact ⟨.int .i64 0, rfl, by rw [Hu.out]; rfl, h⟩
end
end Go.Proofs.Ytmjldaedhmipkaa
/- The names in a map, sorted; copies of maps. -/
namespace Go.Proofs.Ytmjldaedhmipkaa
open Go Go.Sl Go.Med Go.MapKept Go.RowKit
section
variable {w0 w : World} {F : List HProp} {m fb nb b r : Nat} {M : Med} {bs : List Nat} {wv v bv : Value} {s : ByteArray} {l : Names} {fs : List Fil}
open Go.Sort in
theorem sort_c (ss : List (List UInt8)) (h : Sat w0 w (osl 9 1 v (ss.map encStr) :: F)) (hsz : ss.length < 4611686018427387904) :
    Calls Try.prog 70 #[v] w (Rtn fun _ w' => Sat w0 w' (osl 9 1 v ((ss.mergeSort fun x y => decide (x ≤ y)).map encStr) :: F)) := by
  rcases h.osl_cases with ⟨rfl, hn, h'⟩ | ⟨g, n, cap, cs, rfl, hl, hn, hc, hcm, htk, hp⟩
  · have hn' : ss = [] := by simpa using hn
    subst hn'
    refine (Try.slices_Sort_string_none none 0 w).mono ?_
    rintro e w1 ⟨rfl, rfl⟩
    exact ⟨_, rfl, by simpa using h⟩
  · have hl' : n = ss.length := by simpa using hl.symm
    subst hl'
    rw [Nat.mul_one] at htk
    refine (Try.slices_Sort_string g 0 cap ss w (holds_of_block hp.at htk) hp.lt hsz).mono ?_
    rintro e w1 ⟨rfl, n, os, rfl⟩
    refine ⟨_, rfl, ?_⟩
    have hg := grownBy_sorted (w := w) (g := g) (n := n) (os := os) (ss.mergeSort fun x y => decide (x ≤ y)).toArray
    have := hp.turn hg.os hg.tape hg.output hg.size (heap_sorted (n := n) (os := os) (ss.mergeSort fun x y => decide (x ≤ y)).toArray hp.at) (fun i hi hlt => hg.block i hlt (by simpa using hi))
    refine this.osl_of_pt (by simp) hn (by simpa [Sort.putCells] using hc) hcm ?_
    have h1 := take_putCells cs (ss.mergeSort fun x y => decide (x ≤ y)) (by rw [List.length_mergeSort]; omega)
    rw [List.length_mergeSort] at h1
    rw [Nat.mul_one]; exact h1
theorem encStr_ba (s : ByteArray) : encStr s.data.toList = .string s := by simp [encStr]
/-- Keys in whatever order, sorted, are the names. -/
theorem sorted_keys {l : Names} (hs : Srt l) {ks : List ByteArray} (hp : ks.Perm (l.map (·.1))) :
    ((ks.map fun s => s.data.toList).mergeSort fun x y => decide (x ≤ y)).map encStr = l.map fun p => .string p.1 := by
  have h1 : ((ks.map fun s => s.data.toList).mergeSort fun x y => decide (x ≤ y)) = l.map fun p => p.1.data.toList := by
    refine List.Perm.eq_of_pairwise (le := fun x y => decide (x ≤ y) = true) ?_ ?_ ?_ ?_
    · intro a b _ _ h1 h2
      simp only [decide_eq_true_eq] at h1 h2
      exact List.le_antisymm h1 h2
    · refine List.pairwise_mergeSort ?_ ?_ _
      · intro a b c h1 h2
        simp only [decide_eq_true_eq] at *
        exact List.le_trans h1 h2
      · intro a b
        simp only [Bool.or_eq_true, decide_eq_true_eq]
        exact List.le_total a b
    · rw [List.pairwise_map]
      refine hs.imp fun {a b} hab => ?_
      simp only [lt, decide_eq_true_eq] at hab ⊢
      exact List.le_of_lt hab
    · refine (List.mergeSort_perm _ _).trans ?_
      have := hp.map fun s : ByteArray => s.data.toList
      rw [List.map_map] at this
      exact this
  rw [h1, List.map_map]
  apply List.map_congr_left
  intro p _
  exact encStr_ba p.1
theorem infoStr : (Try.prog.info? 9).map (fun i => (i.zero, i.size, i.bytes)) = some (some (.string ByteArray.empty), 1, 16) := by kernel_rfl
def strs (l : List ByteArray) : List Value := l.map Value.string
theorem strs_enc (l : List ByteArray) : strs l = (l.map fun s => s.data.toList).map encStr := by
  unfold strs; rw [List.map_map]; apply List.map_congr_left; intro s _; exact (encStr_ba s).symm
set_option maxHeartbeats 2000000 in
theorem names_c (h : Sat w0 w (omap .string b (mapL bs l) :: F)) (hs : Srt l) (hl : l.length ≤ 1099511627776) :
    Calls Try.prog 58 #[.map (some b)] w (Rtn fun v w' => Sat w0 w' (osl 9 1 v (strs (l.map (·.1))) :: omap .string b (mapL bs l) :: F) ∧ ∃ a n c, v = .slice a n c) := by
  obtain ⟨i, hi, hz0, hz1, hz2⟩ := info_parts infoStr
  have Hs := Lib.hid hs; clear hs
  go_enter Try.func58, Try.ntmps58
  go_wp2_with (at_range; go_must (refine wpList_range_sl (by rfl) _ _ _ _ (by rfl) Try.underlying55 (by rfl) h ?_); intro r w1 hS)
  go_frame
  go_loopg [3] l.length (fun g n wr => ∃ (ks : List ByteArray) (todo : Names) (left : List (Value × Value)), g = todo.length ∧ left.Perm (mapL bs todo) ∧ (ks ++ todo.map (·.1)).Perm (l.map (·.1)) ∧
      Sat w0 wr (osl 9 1 n (strs ks) :: rng .string b r (mapL bs l) left :: F))
  case atStart => exact ⟨[], l, _, rfl, List.Perm.refl _, List.Perm.refl _, by unfold strs; exact Sat.osl_nil.2 hS⟩
  case round =>
    obtain ⟨ks, todo, left, rfl, hleft, hperm, hS⟩ := hrel
    have hlen : ks.length + todo.length = l.length := by have := hperm.length_eq; simpa using this
    obtain ⟨oa, on, oc, rfl, hoc, _⟩ := hS.rd
    clear hoc
    have Hleft := Lib.hid hleft
    have Hperm := Lib.hid hperm
    clear hleft hperm
    go_wp2_with (at_next; go_must (refine wpList_next_sl (by rfl) _ (by rfl) (by rfl) hS.pick1 ?_ ?_))
    · intro hnil
      have Hnil := Lib.hid hnil; clear hnil
      have h0 : todo = [] := by
        have := Hleft.out
        rw [Hnil.out] at this
        simpa [mapL] using this.symm
      subst h0
      have hk : ks.Perm (l.map (·.1)) := by simpa using Hperm.out
      have hsort := sort_c (ks.map fun s => s.data.toList) (by rw [← strs_enc]; exact hS) (by simp at hlen ⊢; omega)
      rw [sorted_keys Hs.out hk] at hsort
      have Hk := Lib.hid hk; clear hk
      go_wp2_with (go_at_call 70; refine hsort.mono ?_; rintro e w2 ⟨v, rfl, hS2⟩)
      go_ret
      refine ⟨_, rfl, ?_, _, _, _, rfl⟩
      have h9 := (hS2.pick1.rng_done).pick1
      have e1 : strs (l.map (·.1)) = l.map fun p => Value.string p.1 := by unfold strs; rw [List.map_map]; rfl
      rw [e1]; exact h9
    · intro k v left' w1 hp hS1 hen
      obtain ⟨p, todo', hp', rfl, rfl, hl'⟩ := mapL_pick (Hleft.out.symm.trans hp)
      have hlen2 : todo.length = todo'.length + 1 := by have := hp'.length_eq; simpa using this
      have Hp := Lib.hid hp'
      have Hl := Lib.hid hl'
      clear hp hp' hl'
      have hb1 := hS1.pick1.alloc (.cells #[.string p.1] 9)
      have h63 : (strs ks).length + 1 ≤ maxLen := by unfold strs maxLen; rw [List.length_map]; omega
      have hby : ((strs ks).length + 1) * i.bytes ≤ 140737488355328 := by unfold strs; rw [List.length_map, hz2]; omega
      have hoc : ∀ u ∈ (#[.string p.1] : Array Value).toList, u.oneCell' = true := by
        intro u hu
        simp only [List.mem_cons, List.not_mem_nil, or_false] at hu
        subst hu; rfl
      go_wp2_with (at_builtin; go_must (refine wpList_append (w0 := w0) (by rfl) _ _ _ (by rfl) _ i _ Try.underlying77 hi hz0 hz1 (by rfl) (by omega) (by rfl) (by rfl) hoc hb1.pick1 (rdsl_new _ _ _ 1 1 1 (by rfl)) h63 hby ?_); intro v2 w2 hS2 hne)
      go_roundg todo'.length
      case measure => omega
      case rel =>
        refine ⟨ks ++ [p.1], todo', left', rfl, Hl.out, ?_, ?_⟩
        · refine List.Perm.trans ?_ Hperm.out
          rw [List.append_assoc]
          exact List.Perm.append_left ks (show List.Perm ((p :: todo').map (·.1)) _ from (Hp.out.map (·.1)).symm)
        · have : strs (ks ++ [p.1]) = strs ks ++ [.string p.1] := by simp [strs]
          rw [this]
          exact hS2.sel 3 [0, 2] rfl rfl
set_option maxHeartbeats 2000000 in
theorem copied_c (h : Sat w0 w (omap .string b (mapL bs l) :: F)) :
    Calls Try.prog 55 #[.map (some b)] w (Rtn fun v w' => ∃ b', v = .map (some b') ∧ Sat w0 w' (omap .string b' (mapL bs l) :: omap .string b (mapL bs l) :: F)) := by
  have hn := mapL_keys h
  have hmm := @run_makeMap Try.prog
  have h0 := h.omap_new .string
  have Hn := Lib.hid hn; clear hn
  go_enter Try.func55, Try.ntmps55
  go_wp2_with (at_range; go_must (refine wpList_range_sl (by rfl) _ _ _ _ (by rfl) Try.underlying55 (by rfl) h0.pick1 ?_); intro r w1 hS)
  go_frame
  generalize w.heap.size = b' at *
  go_loopg [4, 5] l.length (fun g _ _ wr => ∃ (done todo : Names) (left : List (Value × Value)), g = todo.length ∧ left.Perm (mapL bs todo) ∧ (done ++ todo).Perm l ∧
      Sat w0 wr (omap .string b' (mapL bs done) :: rng .string b r (mapL bs l) left :: F))
  case atStart => exact ⟨[], l, _, rfl, List.Perm.refl _, List.Perm.refl _, hS.pick1⟩
  case round =>
    obtain ⟨done, todo, left, rfl, hleft, hperm, hS⟩ := hrel
    have Hleft := Lib.hid hleft
    have Hperm := Lib.hid hperm
    clear hleft hperm
    go_wp2_with (at_next; go_must (refine wpList_next_sl (by rfl) _ (by rfl) (by rfl) hS.pick1 ?_ ?_))
    · intro hnil
      have Hnil := Lib.hid hnil; clear hnil
      have h0 : todo = [] := by
        have := Hleft.out
        rw [Hnil.out] at this
        simpa [mapL] using this.symm
      subst h0
      have hk : done.Perm l := by simpa using Hperm.out
      have Hk := Lib.hid hk; clear hk
      go_wp2
      go_ret
      refine ⟨_, rfl, b', rfl, ?_⟩
      exact ((hS.pick1.rng_done).pick1).omap_perm (mapL_perm Hk.out)
    · intro k v left' w1 hp hS1 hen
      obtain ⟨p, todo', hp', rfl, rfl, hl'⟩ := mapL_pick (Hleft.out.symm.trans hp)
      have hlen2 : todo.length = todo'.length + 1 := by have := hp'.length_eq; simpa using this
      have hkey : ∀ x ∈ mapL bs done, x.1 ≠ .string p.1 := by
        intro x hx e
        obtain ⟨q, hq, rfl⟩ := List.mem_map.1 hx
        simp only [Value.string.injEq] at e
        have h1 := ((Hperm.out.map (·.1)).nodup_iff.2 Hn.out)
        rw [List.map_append, List.nodup_append] at h1
        exact h1.2.2 q.1 (List.mem_map.2 ⟨q, hq, rfl⟩) p.1 (List.mem_map.2 ⟨p, hp'.mem_iff.2 (.head _), rfl⟩) e
      have hside : (mapL bs done).Perm (mapL bs done) ∧ (∀ x ∈ mapL bs done, x.1 ≠ .string p.1) ∨ ∃ v0, (mapL bs done).Perm ((.string p.1, v0) :: mapL bs done) := .inl ⟨List.Perm.refl _, hkey⟩
      have Hside := Lib.hid hside; clear hside hkey
      have Hp := Lib.hid hp'
      have Hl := Lib.hid hl'
      clear hp hp' hl'
      generalize hq : ptr (bs.getD p.2 0) = q at *
      have Hq := Lib.hid hq; clear hq
      go_wp2_with (at_mapUpdate; go_must (refine wpList_store (key := .string p.1) (by rfl) _ _ _ (by rfl) Try.underlying55 Try.underlying9 (by rfl) (by rfl) (by rfl) trivial hS1.pick1 _ Hside.out ?_); intro w2 hS2)
      go_roundg todo'.length
      case measure => omega
      case rel =>
        refine ⟨p :: done, todo', left', rfl, Hl.out, ?_, ?_⟩
        · refine List.Perm.trans ?_ Hperm.out
          exact (List.perm_middle.symm).trans (List.Perm.append_left done Hp.out.symm)
        · show Sat w0 _ (omap .string b' ((.string p.1, ptr (bs.getD p.2 0)) :: mapL bs done) :: _)
          rw [Hq.out]; exact hS2
end
end Go.Proofs.Ytmjldaedhmipkaa
/- What a medium tells. -/
namespace Go.Proofs.Ytmjldaedhmipkaa
open Go Go.Sl Go.Med Go.MapKept Go.RowKit
section
variable {w0 w : World} {F : List HProp} {m fb nb b r : Nat} {M : Med} {bs : List Nat} {wv v bv : Value} {s : ByteArray} {l : Names} {fs : List Fil} {K : Nat}
set_option maxHeartbeats 1000000 in
theorem size_c (hM : M.Ok K) (h : Sat w0 w (MedRep m M :: F)) (s : ByteArray) :
    Calls Try.prog 11 #[ptr m, .string s] w (Rtn fun v w' => v = .tuple #[.int .i64 (M.size s).1, errno (M.size s).2] ∧ w = w') := by
  obtain ⟨bs, fb, nb, wv, hl, hR⟩ := MedRep.open h
  cases ho : M.off
  · cases hn : nget M.now s with
    | none =>
      have hf := find_none (s := s) hR ho hn
      have Hfin : Hid (M.size s = (0, 9)) := by show _ = _; simp [Med.size, ho, hn]
      clear ho hn
      go_enter Try.func11, Try.ntmps11
      go_wp2_with (go_at_call 47; refine hf.mono ?_; rintro e w1 ⟨v, rfl, rfl, rfl⟩)
      go_ret2
      exact ⟨_, rfl, by rw [Hfin.out]; rfl, rfl⟩
    | some i =>
      have hf := find_some (s := s) hR ho hn
      have hid : i < M.files.length := hM.nowOk.ids (s, i) (nget_mem hn)
      obtain ⟨fa, fn, fc, na, nc, wv', f0, f1, f2, _, _, _, hna⟩ := file_cells (hR.sel 3 [2] rfl rfl) hl hid
      have Hfin : Hid (M.size s = (((M.file i).now.length : Int), 0)) := by show _ = _; simp [Med.size, ho, hn]
      clear ho hn hna
      change w.cell? ⟨bs.getD i 0, 1, none⟩ = some (.slice na (M.file i).now.length nc) at f1
      generalize bs.getD i 0 = q at *
      go_enter Try.func11, Try.ntmps11
      go_wp2_with (go_at_call 47; refine hf.mono ?_; rintro e w1 ⟨v, rfl, rfl, rfl⟩)
      go_ret2
      refine ⟨.tuple #[.int .i64 (M.file i).now.length, errno 0], rfl, ?_, rfl⟩
      rw [Hfin.out]
  · have hf := find_off (s := s) hR ho
    have Hfin : Hid (M.size s = (0, 12)) := by show _ = _; simp [Med.size, ho]
    clear ho
    go_enter Try.func11, Try.ntmps11
    go_wp2_with (go_at_call 47; refine hf.mono ?_; rintro e w1 ⟨v, rfl, rfl, rfl⟩)
    go_ret2
    exact ⟨_, rfl, by rw [Hfin.out]; rfl, rfl⟩
set_option maxHeartbeats 1000000 in
theorem all_c (hM : M.Ok K) (h : Sat w0 w (MedRep m M :: F)) (s : ByteArray) :
    Calls Try.prog 44 #[ptr m, .string s] w (Rtn fun v w' => ∃ bv, v = .tuple #[bv, errno (M.all s).2] ∧ Sat w0 w' (bsl bv (M.all s).1 :: MedRep m M :: F)) := by
  obtain ⟨bs, fb, nb, wv, hl, hR⟩ := MedRep.open h
  cases ho : M.off
  · cases hn : nget M.now s with
    | none =>
      have hf := find_none (s := s) hR ho hn
      have Hfin : Hid (M.all s = ([], 9)) := by show _ = _; simp [Med.all, ho, hn]
      clear ho hn
      go_enter Try.func44, Try.ntmps44
      go_wp2_with (go_at_call 47; refine hf.mono ?_; rintro e w1 ⟨v, rfl, rfl, rfl⟩)
      go_ret2
      exact ⟨_, rfl, .slice none 0 0, by rw [Hfin.out]; rfl, by rw [Hfin.out]; exact Sat.osl_nil.2 h⟩
    | some i =>
      have hf := find_some (s := s) hR ho hn
      have hid : i < M.files.length := hM.nowOk.ids (s, i) (nget_mem hn)
      obtain ⟨fa, fn, fc, na, nc, wv', f0, f1, f2, hrd, hcap, hnc, hna⟩ := file_cells (hR.sel 3 [2] rfl rfl) hl hid
      have hcl := clone_c h hrd (by have := (hM.file i).now_len; unfold Med.file at this; omega)
      have Hfin : Hid (M.all s = ((M.file i).now, 0)) := by show _ = _; simp [Med.all, ho, hn]
      clear ho hn hrd hcap hnc hna
      change w.cell? ⟨bs.getD i 0, 1, none⟩ = some (.slice na (M.file i).now.length nc) at f1
      change Calls _ _ #[.slice na (M.file i).now.length nc] _ _ at hcl
      generalize bs.getD i 0 = q at *
      go_enter Try.func44, Try.ntmps44
      go_wp2_with (first
        | (go_at_call 47; refine hf.mono ?_; rintro e w1 ⟨v, rfl, rfl, rfl⟩)
        | (go_at_call 54; refine hcl.mono ?_; rintro e w1 ⟨v, rfl, hS, _⟩))
      go_ret2
      exact ⟨_, rfl, v, by rw [Hfin.out]; rfl, by rw [Hfin.out]; exact hS⟩
  · have hf := find_off (s := s) hR ho
    have Hfin : Hid (M.all s = ([], 12)) := by show _ = _; simp [Med.all, ho]
    clear ho
    go_enter Try.func44, Try.ntmps44
    go_wp2_with (go_at_call 47; refine hf.mono ?_; rintro e w1 ⟨v, rfl, rfl, rfl⟩)
    go_ret2
    exact ⟨_, rfl, .slice none 0 0, by rw [Hfin.out]; rfl, by rw [Hfin.out]; exact Sat.osl_nil.2 h⟩
theorem rdsl_slice {a : Option Addr} {n c lo k : Nat} {xs : List Value} (h : rdsl 1 (.slice a n c) xs w) (hk : lo + k ≤ n) (x : Option Addr) (hx : x = if c = lo then a else a.map (·.add lo)) (hc : n ≤ c) (c' : Nat) : rdsl 1 (.slice x k c') ((xs.drop lo).take k) w := by
  obtain ⟨a', n', c'', he, hl, hcell⟩ := h
  cases he
  rw [Nat.mul_one] at hl
  refine ⟨x, k, c', rfl, by simp; omega, fun i y hi => ?_⟩
  rw [List.getElem?_take] at hi
  split at hi
  · rename_i hik
    rw [List.getElem?_drop] at hi
    obtain ⟨b, hb, hy⟩ := hcell _ y hi
    subst hb
    have : ¬ c = lo := by omega
    rw [if_neg this] at hx
    refine ⟨b.add lo, by simpa using hx, ?_⟩
    have : (b.add lo).add i = b.add (lo + i) := by
      unfold Addr.add
      by_cases h1 : lo = 0
      · subst h1; simp
      · by_cases h2 : i = 0
        · subst h2; simp
        · simp [h1, h2]; omega
    rw [this]; exact hy
  · cases hi
set_option maxHeartbeats 2000000 in
theorem read_c (hM : M.Ok K) (h : Sat w0 w (MedRep m M :: F)) (s : ByteArray) (at_ n : Int) (ha : -9223372036854775808 ≤ at_ ∧ at_ ≤ 9223372036854775807) (hn : -9223372036854775808 ≤ n ∧ n ≤ 9223372036854775807) :
    Calls Try.prog 29 #[ptr m, .string s, .int .i64 at_, .int .i64 n] w (Rtn fun v w' => ∃ bv, v = .tuple #[bv, errno (M.read s at_ n).2] ∧ Sat w0 w' (bsl bv (M.read s at_ n).1 :: MedRep m M :: F)) := by
  obtain ⟨bs, fb, nb, wv, hl, hR⟩ := MedRep.open h
  obtain ⟨ha1, ha2⟩ := ha
  obtain ⟨hn1, hn2⟩ := hn
  cases ho : M.off
  · cases hg : nget M.now s with
    | none =>
      have hf := find_none (s := s) hR ho hg
      have Hfin : Hid (M.read s at_ n = ([], 9)) := by show _ = _; simp [Med.read, ho, hg]
      clear ho hg
      go_enter Try.func29, Try.ntmps29
      go_wp2_with (go_at_call 47; refine hf.mono ?_; rintro e w1 ⟨v, rfl, rfl, rfl⟩)
      go_ret2
      exact ⟨_, rfl, .slice none 0 0, by rw [Hfin.out]; rfl, by rw [Hfin.out]; exact Sat.osl_nil.2 h⟩
    | some i =>
      have hf := find_some (s := s) hR ho hg
      have hid : i < M.files.length := hM.nowOk.ids (s, i) (nget_mem hg)
      obtain ⟨fa, fn, fc, na, nc, wv', f0, f1, f2, hrd, hcap, hnc, hna⟩ := file_cells (hR.sel 3 [2] rfl rfl) hl hid
      have hnl := (hM.file i).now_len
      change w.cell? ⟨bs.getD i 0, 1, none⟩ = some (.slice na (M.file i).now.length nc) at f1
      change rdsl 1 (.slice na (M.file i).now.length nc) (bys (M.file i).now) w at hrd
      change (M.file i).now.length ≤ nc at hcap
      generalize hL : (M.file i).now = L at *
      have HL := Lib.hid hL; clear hL
      generalize bs.getD i 0 = q at *
      have Hg := Lib.hid hg; have Ho := Lib.hid ho; clear hg ho
      have hread : ∀ x : Bs × Int, x = (if at_ < 0 ∨ n < 0 then ([], 2) else if (L.length : Int) < at_ ∨ (L.length : Int) - at_ < n then ([], 3) else ((L.drop at_.toNat).take n.toNat, 0)) → M.read s at_ n = x := by
        rintro x rfl
        simp only [Med.read, Ho.out, Hg.out, HL.out, Bool.false_eq_true, if_false]
      have Hread := Lib.hid hread; clear hread
      by_cases h1 : at_ < 0
      · go_enter Try.func29, Try.ntmps29
        go_wp2_with (go_at_call 47; refine hf.mono ?_; rintro e w1 ⟨v, rfl, rfl, rfl⟩)
        go_ret2
        have := Hread.out _ (if_pos (.inl h1)).symm
        exact ⟨_, rfl, .slice none 0 0, by rw [this]; rfl, by rw [this]; exact Sat.osl_nil.2 h⟩
      have h1' : decide (at_ < 0) = false := by simpa using h1
      by_cases h2 : n < 0
      · go_enter Try.func29, Try.ntmps29
        go_wp2_with (go_at_call 47; refine hf.mono ?_; rintro e w1 ⟨v, rfl, rfl, rfl⟩)
        go_ret2
        have := Hread.out _ (if_pos (.inr h2)).symm
        exact ⟨_, rfl, .slice none 0 0, by rw [this]; rfl, by rw [this]; exact Sat.osl_nil.2 h⟩
      have h2' : decide (n < 0) = false := by simpa using h2
      obtain ⟨a, rfl⟩ := Int.eq_ofNat_of_zero_le (show 0 ≤ at_ by omega)
      obtain ⟨k, rfl⟩ := Int.eq_ofNat_of_zero_le (show 0 ≤ n by omega)
      have h12 : ¬ ((a : Int) < 0 ∨ (k : Int) < 0) := by omega
      by_cases h3 : (L.length : Int) < a
      · go_enter Try.func29, Try.ntmps29
        go_wp2_with (go_at_call 47; refine hf.mono ?_; rintro e w1 ⟨v, rfl, rfl, rfl⟩)
        go_ret2
        have := Hread.out _ ((if_neg h12).trans (if_pos (.inl h3))).symm
        exact ⟨_, rfl, .slice none 0 0, by rw [this]; rfl, by rw [this]; exact Sat.osl_nil.2 h⟩
      have h3' : decide ((L.length : Int) < a) = false := by simpa using h3
      by_cases h4 : (L.length : Int) - a < k
      · go_enter Try.func29, Try.ntmps29
        go_wp2_with (go_at_call 47; refine hf.mono ?_; rintro e w1 ⟨v, rfl, rfl, rfl⟩)
        go_ret2
        have := Hread.out _ ((if_neg h12).trans (if_pos (.inr h4))).symm
        exact ⟨_, rfl, .slice none 0 0, by rw [this]; rfl, by rw [this]; exact Sat.osl_nil.2 h⟩
      have h4' : decide ((L.length : Int) - a < k) = false := by simpa using h4
      have h34 : ¬ ((L.length : Int) < a ∨ (L.length : Int) - a < k) := by omega
      have hfin := Hread.out _ ((if_neg h12).trans (if_neg h34)).symm
      have Hfin := Lib.hid hfin; clear hfin
      have hcl : ∀ x, x = (if nc = a then na else na.map (·.add a)) → Calls Try.prog 54 #[.slice x k (nc - a)] w (Rtn fun v' w' => Sat w0 w' (bsl v' ((L.drop a).take k) :: MedRep m M :: F) ∧ ∃ a n c, v' = .slice a n c) := by
        intro x hx
        refine clone_c h ?_ (by simp; omega)
        have := rdsl_slice (lo := a) (k := k) hrd (by omega) x hx hcap (nc - a)
        simpa [bys, List.map_take, List.map_drop] using this
      have Hcl := Lib.hid hcl
      clear hcl hrd
      have e5 : (a : Int) + k ≤ nc := by omega
      rcases hna with ⟨rfl, rfl⟩ | ⟨g, rfl⟩
      · obtain rfl : a = 0 := by omega
        obtain rfl : k = 0 := by omega
        have hcl := Hcl.out none (by simp)
        simp only [Nat.sub_self] at hcl
        clear Hread Hcl
        go_enter Try.func29, Try.ntmps29
        go_wp2_with (first | (go_at_call 47; refine hf.mono ?_; rintro e w1 ⟨v, rfl, rfl, rfl⟩) | (go_at_call 54; go_must (refine hcl.mono ?_); rintro e w1 ⟨v, rfl, hS, _⟩))
        go_ret2
        exact ⟨_, rfl, v, by rw [Hfin.out]; rfl, by rw [Hfin.out]; exact hS⟩
      · clear Hread
        by_cases hca : nc = a
        · subst hca
          obtain rfl : k = 0 := by omega
          have hcl := Hcl.out (some ⟨g, 0, none⟩) (by simp)
          simp only [Nat.sub_self] at hcl
          clear Hcl
          go_enter Try.func29, Try.ntmps29
          go_wp2_with (first | (go_at_call 47; refine hf.mono ?_; rintro e w1 ⟨v, rfl, rfl, rfl⟩) | (go_at_call 54; go_must (refine hcl.mono ?_); rintro e w1 ⟨v, rfl, hS, _⟩))
          go_ret2
          exact ⟨_, rfl, v, by rw [Hfin.out]; rfl, by rw [Hfin.out]; exact hS⟩
        · have hcl := Hcl.out (some ⟨g, a, none⟩) (by rw [if_neg hca]; simp [add_zero_lit])
          clear Hcl
          go_enter Try.func29, Try.ntmps29
          go_wp2_with (first | (go_at_call 47; refine hf.mono ?_; rintro e w1 ⟨v, rfl, rfl, rfl⟩) | (go_at_call 54; go_must (refine hcl.mono ?_); rintro e w1 ⟨v, rfl, hS, _⟩))
          go_ret2
          exact ⟨_, rfl, v, by rw [Hfin.out]; rfl, by rw [Hfin.out]; exact hS⟩
  · have hf := find_off (s := s) hR ho
    have Hfin : Hid (M.read s at_ n = ([], 12)) := by show _ = _; simp [Med.read, ho]
    clear ho
    go_enter Try.func29, Try.ntmps29
    go_wp2_with (go_at_call 47; refine hf.mono ?_; rintro e w1 ⟨v, rfl, rfl, rfl⟩)
    go_ret2
    exact ⟨_, rfl, .slice none 0 0, by rw [Hfin.out]; rfl, by rw [Hfin.out]; exact Sat.osl_nil.2 h⟩
end
end Go.Proofs.Ytmjldaedhmipkaa
/- New; List; Room, Power, SetRoom, Arm. -/
namespace Go.Proofs.Ytmjldaedhmipkaa
open Go Go.Sl Go.Med Go.MapKept Go.RowKit
section
variable {w0 w : World} {F : List HProp} {m fb nb b r : Nat} {M : Med} {bs : List Nat} {wv v bv : Value} {s : ByteArray} {l : Names} {fs : List Fil} {K : Nat}
set_option maxHeartbeats 1000000 in
theorem new_no (room : Int) (hr : room < 0 ∨ 16777216 < room) (w : World) :
    Calls Try.prog 5 #[.int .i64 room] w (Rtn fun v w' => v = .tuple #[.pointer none, errno 2] ∧ w = w') := by
  go_enter Try.func5, Try.ntmps5
  rcases hr with h1 | h1
  · go_wp2
    go_ret2
    exact ⟨_, rfl, rfl, rfl⟩
  · have h2 : decide (room < 0) = false := by rw [decide_eq_false_iff_not]; omega
    go_wp2
    go_ret2
    exact ⟨_, rfl, rfl, rfl⟩
set_option maxHeartbeats 1000000 in
theorem new_yes (room : Nat) (hr : room ≤ 16777216) (h : Sat w0 w F) :
    Calls Try.prog 5 #[.int .i64 room] w (Rtn fun v w' => ∃ m, v = .tuple #[ptr m, errno 0] ∧ Sat w0 w' (MedRep m (Med.new room) :: F)) := by
  have h2 : decide ((room : Int) < 0) = false := by rw [decide_eq_false_iff_not]; omega
  have h3 : decide (16777216 < (room : Int)) = false := by rw [decide_eq_false_iff_not]; omega
  have hmm := @run_makeMap Try.prog
  have hA := ((h.omap_new .string).omap_new .string)
  have hB := hA.alloc (.cells #[.int .i64 room, .map (some w.heap.size), .map (some (w.heap.size + 1)), .slice none 0 0, .bool false, .int .i64 0, .bool false] 58)
  go_enter Try.func5, Try.ntmps5
  go_wp2
  go_ret2
  refine ⟨_, rfl, _, rfl, ?_⟩
  refine MedRep.shut (bs := []) (fb := w.heap.size) (nb := w.heap.size + 1) (wv := .slice none 0 0) rfl ?_
  have h5 : Sat w0 _ (osl 95 3 (.slice none 0 0) [] :: Sl.emp :: _ :: _ :: _ :: F) := Sat.osl_nil.2 (Sat.emp.2 hB)
  simp only [World.size_alloc] at h5
  exact h5.sel 5 [2, 3, 1, 4, 0] rfl rfl
set_option maxHeartbeats 1000000 in
theorem list_c (hM : M.Ok K) (h : Sat w0 w (MedRep m M :: F)) :
    Calls Try.prog 41 #[ptr m] w (Rtn fun v w' => Sat w0 w' (osl 9 1 v (strs M.list) :: MedRep m M :: F) ∧ ∃ a n c, v = .slice a n c) := by
  obtain ⟨bs, fb, nb, wv, hl, hR⟩ := MedRep.open h
  have hd := dead_c hR
  have c2 := hR.cellAt 2 _ rfl
  cases ho : M.off
  · rw [ho] at hd
    have hnm := names_c (hR.sel 5 [1, 0, 2, 3, 4] rfl rfl) hM.nowOk.srt (by have := hM.nowOk.len; omega)
    have Hfin : Hid (M.list = M.now.map (·.1)) := by show _ = _; simp [Med.list, ho]
    clear ho
    go_enter Try.func41, Try.ntmps41
    go_wp2_with (first | (go_at_call 49; refine hd.mono ?_; rintro e w1 ⟨v, rfl, rfl, rfl⟩) | (go_at_call 58; go_must (refine hnm.mono ?_); rintro e w1 ⟨v, rfl, hS, a1, n1, k1, rfl⟩))
    go_ret
    refine ⟨_, rfl, ?_, _, _, _, rfl⟩
    rw [Hfin.out]
    exact (MedRep.shut hl (hS.sel 6 [2, 1, 3, 4, 5, 0] rfl rfl)).pick1
  · rw [ho] at hd
    have Hfin : Hid (M.list = []) := by show _ = _; simp [Med.list, ho]
    clear ho
    go_enter Try.func41, Try.ntmps41
    go_wp2_with (go_at_call 49; refine hd.mono ?_; rintro e w1 ⟨v, rfl, rfl, rfl⟩)
    go_ret
    refine ⟨.slice none 0 0, rfl, ?_, _, _, _, rfl⟩
    rw [Hfin.out]
    exact Sat.osl_nil.2 h
set_option maxHeartbeats 1000000 in
theorem room_c (h : Sat w0 w (MedRep m M :: F)) :
    Calls Try.prog 43 #[ptr m] w (Rtn fun v w' => v = .int .i64 M.room ∧ w = w') := by
  obtain ⟨bs, fb, nb, wv, hl, hR⟩ := MedRep.open h
  have c0 := hR.cellAt 0 _ rfl
  go_enter Try.func43, Try.ntmps43
  go_wp2
  go_ret
  exact ⟨_, rfl, rfl, rfl⟩
set_option maxHeartbeats 1000000 in
theorem used_rep (hM : M.Ok K) (h : Sat w0 w (MedRep m M :: F)) :
    Calls Try.prog 46 #[ptr m] w (Rtn fun v w' => v = .int .i64 M.usedTold ∧ Sat w0 w' (MedRep m M :: F)) := by
  obtain ⟨bs, fb, nb, wv, hl, hR⟩ := MedRep.open h
  refine (used_c hR hl hM.nowOk.ids (by have := hM.used_le; omega)).mono ?_
  rintro e w1 ⟨v, rfl, rfl, hS⟩
  exact ⟨_, rfl, rfl, MedRep.shut hl hS⟩
set_option maxHeartbeats 1000000 in
theorem setRoom_c (h : Sat w0 w (MedRep m M :: F)) (n : Int) :
    Calls Try.prog 27 #[ptr m, .int .i64 n] w (Rtn fun v w' => v = errno (M.setRoom n).2 ∧ Sat w0 w' (MedRep m (M.setRoom n).1 :: F)) := by
  obtain ⟨bs, fb, nb, wv, hl, hR⟩ := MedRep.open h
  have hd := dead_c hR
  have f0 := hR.freeAt 0
  have c0 := hR.cellAt 0 _ rfl
  cases ho : M.off
  · rw [ho] at hd
    by_cases h1 : n < 0
    · have Hfin : Hid (M.setRoom n = (M, 2)) := by show _ = _; simp [Med.setRoom, ho, h1]
      clear ho
      go_enter Try.func27, Try.ntmps27
      go_wp2_with (go_at_call 49; refine hd.mono ?_; rintro e w1 ⟨v, rfl, rfl, rfl⟩)
      go_ret
      exact ⟨errno 2, rfl, by rw [Hfin.out], by rw [Hfin.out]; exact h⟩
    have h1' : decide (n < 0) = false := by rw [decide_eq_false_iff_not]; omega
    by_cases h2 : 16777216 < n
    · have Hfin : Hid (M.setRoom n = (M, 2)) := by show _ = _; simp [Med.setRoom, ho, h1, h2]
      clear ho
      go_enter Try.func27, Try.ntmps27
      go_wp2_with (go_at_call 49; refine hd.mono ?_; rintro e w1 ⟨v, rfl, rfl, rfl⟩)
      go_ret
      exact ⟨errno 2, rfl, by rw [Hfin.out], by rw [Hfin.out]; exact h⟩
    have h2' : decide (16777216 < n) = false := by rw [decide_eq_false_iff_not]; omega
    obtain ⟨n, rfl⟩ := Int.eq_ofNat_of_zero_le (show 0 ≤ n by omega)
    have Hfin : Hid (M.setRoom n = ({ M with room := n }, 0)) := by show _ = _; simp [Med.setRoom, ho, h1, h2]
    clear ho
    go_enter Try.func27, Try.ntmps27
    go_wp2_with (go_at_call 49; refine hd.mono ?_; rintro e w1 ⟨v, rfl, rfl, rfl⟩)
    go_ret
    refine ⟨errno 0, rfl, by rw [Hfin.out], ?_⟩
    rw [Hfin.out]
    refine MedRep.shut (bs := bs) (fb := fb) (nb := nb) (wv := wv) hl ?_
    exact hR.set 0 (.int .i64 n)
  · rw [ho] at hd
    have Hfin : Hid (M.setRoom n = (M, 12)) := by show _ = _; simp [Med.setRoom, ho]
    clear ho
    go_enter Try.func27, Try.ntmps27
    go_wp2_with (go_at_call 49; refine hd.mono ?_; rintro e w1 ⟨v, rfl, rfl, rfl⟩)
    go_ret
    exact ⟨errno 12, rfl, by rw [Hfin.out], by rw [Hfin.out]; exact h⟩
set_option maxHeartbeats 1000000 in
theorem arm_c (h : Sat w0 w (MedRep m M :: F)) (n : Int) :
    Calls Try.prog 25 #[ptr m, .int .i64 n] w (Rtn fun v w' => v = errno (M.arm n).2 ∧ Sat w0 w' (MedRep m (M.arm n).1 :: F)) := by
  obtain ⟨bs, fb, nb, wv, hl, hR⟩ := MedRep.open h
  have hd := dead_c hR
  have f4 := hR.freeAt 4
  have c4 := hR.cellAt 4 _ rfl
  have f5 := hR.freeAt 5
  have c5 := hR.cellAt 5 _ rfl
  cases ho : M.off
  · rw [ho] at hd
    by_cases h1 : n < 0
    · have Hfin : Hid (M.arm n = (M, 2)) := by show _ = _; simp [Med.arm, ho, h1]
      clear ho
      go_enter Try.func25, Try.ntmps25
      go_wp2_with (go_at_call 49; refine hd.mono ?_; rintro e w1 ⟨v, rfl, rfl, rfl⟩)
      go_ret
      exact ⟨errno 2, rfl, by rw [Hfin.out], by rw [Hfin.out]; exact h⟩
    have h1' : decide (n < 0) = false := by rw [decide_eq_false_iff_not]; omega
    obtain ⟨n, rfl⟩ := Int.eq_ofNat_of_zero_le (show 0 ≤ n by omega)
    have Hfin : Hid (M.arm n = ({ M with armed := true, left := n }, 0)) := by show _ = _; simp [Med.arm, ho, h1]
    clear ho
    go_enter Try.func25, Try.ntmps25
    go_wp2_with (go_at_call 49; refine hd.mono ?_; rintro e w1 ⟨v, rfl, rfl, rfl⟩)
    go_ret
    refine ⟨errno 0, rfl, by rw [Hfin.out], ?_⟩
    rw [Hfin.out]
    refine MedRep.shut (bs := bs) (fb := fb) (nb := nb) (wv := wv) hl ?_
    exact (hR.set 4 (.bool true)).set 5 (.int .i64 n)
  · rw [ho] at hd
    have Hfin : Hid (M.arm n = (M, 12)) := by show _ = _; simp [Med.arm, ho]
    clear ho
    go_enter Try.func25, Try.ntmps25
    go_wp2_with (go_at_call 49; refine hd.mono ?_; rintro e w1 ⟨v, rfl, rfl, rfl⟩)
    go_ret
    exact ⟨errno 12, rfl, by rw [Hfin.out], by rw [Hfin.out]; exact h⟩
end
end Go.Proofs.Ytmjldaedhmipkaa
/- Create. -/
namespace Go.Proofs.Ytmjldaedhmipkaa
open Go Go.Sl Go.Med Go.MapKept Go.RowKit
section
variable {w0 w : World} {F : List HProp} {m fb nb b r : Nat} {M : Med} {bs : List Nat} {wv v bv : Value} {s : ByteArray} {l : Names} {fs : List Fil} {K : Nat}
theorem getD_ext (bs : List Nat) (b i : Nat) (h : i < bs.length) : (bs ++ [b]).getD i 0 = bs.getD i 0 := by
  simp [List.getD_eq_getElem?_getD, List.getElem?_append_left h]
theorem mapL_ext (h : ∀ p ∈ l, p.2 < bs.length) (b : Nat) : mapL (bs ++ [b]) l = mapL bs l := by
  unfold mapL
  apply List.map_congr_left
  intro p hp
  rw [getD_ext bs b p.2 (h p hp)]
theorem lnks_ext {ws : List Lnk} (h : ∀ x ∈ ws, x.to ≠ ByteArray.empty → x.f < bs.length) (b : Nat) : ws.flatMap (lnkCells (bs ++ [b])) = ws.flatMap (lnkCells bs) := by
  induction ws with
  | nil => rfl
  | cons x ws ih =>
    rw [List.flatMap_cons, List.flatMap_cons, ih fun y hy => h y (.tail _ hy)]
    congr 1
    unfold lnkCells
    by_cases ht : x.to = ByteArray.empty
    · simp [ht]
    · simp only [if_neg ht]
      rw [getD_ext bs b x.f (h x (.head _) ht)]
/-- 'len(m.now)'. -/
theorem len_names (h : Sat w0 w (omap .string b (mapL bs l) :: F)) (ty : TypeId) : (Builtin.len_ #[55] ty #[.map (some b)]).run Try.prog w = .ok (.int .i64 l.length) w := by
  have := run_maplen (P := Try.prog) Try.underlying55 ty h
  simpa [mapL] using this
theorem raw_step (h : Sat w0 w (medPt m M.step.1 fb nb wv :: [omap .string nb (mapL bs M.now), filesRep bs M.files, omap .string fb (mapL bs M.fast), osl 95 3 wv (M.waits.flatMap (lnkCells bs))] ++ F)) : Sat w0 w (MedRaw m M.step.1 bs fb nb wv ++ F) := by
  obtain ⟨e1, e2, e3, e4, e5⟩ := M.step_same
  unfold MedRaw
  rw [e2, e3, e4, e5]
  exact h
theorem FilRep_new (h : Sat w0 w (filPt b (.slice none 0 0) (.slice none 0 0) (.slice none 0 0) :: F)) : Sat w0 w (FilRep b Fil.new :: F) := by
  refine FilRep.shut (fv := .slice none 0 0) (nv := .slice none 0 0) (wv := .slice none 0 0) (ws := []) rfl ?_
  have h1 : Sat w0 w (bsl (.slice none 0 0) [] :: bsl (.slice none 0 0) [] :: osl 98 3 (.slice none 0 0) [] :: chgs [] :: _) := Sat.osl_nil.2 (Sat.osl_nil.2 (Sat.osl_nil.2 (Sat.emp.2 h)))
  exact h1.sel 5 [4, 0, 1, 2, 3] rfl rfl
theorem create_link (hM : M.Ok K) (hK : K ≤ 1099511627776) (hl : bs.length = M.files.length) (hs : s ≠ ByteArray.empty) (h : Sat w0 w (MedRaw m M bs fb nb wv ++ F)) :
    Calls Try.prog 52 #[ptr m, .agg #[.string { data := #[] }, .string s, ptr w.heap.size]] (w.alloc (.cells #[.slice none 0 0, .slice none 0 0, .slice none 0 0] 88))
      (Rtn fun _ w' => Sat w0 w' (MedRep m (({ M with files := M.files ++ [Fil.new] } : Med).link ⟨ByteArray.empty, s, M.files.length⟩) :: F)) := by
  have h1 := h.alloc (.cells #[.slice none 0 0, .slice none 0 0, .slice none 0 0] 88)
  have h2 := FilRep_new h1
  generalize w.heap.size = q at *
  have e1 : mapL (bs ++ [q]) M.now = mapL bs M.now := mapL_ext (fun p hp => by rw [hl]; exact hM.nowOk.ids p hp) q
  have e2 : mapL (bs ++ [q]) M.fast = mapL bs M.fast := mapL_ext (fun p hp => by rw [hl]; exact hM.fastOk.ids p hp) q
  have e3 : M.waits.flatMap (lnkCells (bs ++ [q])) = M.waits.flatMap (lnkCells bs) := lnks_ext (fun x hx ht => by rw [hl]; exact hM.links x hx ht) q
  have e4 : filesRep (bs ++ [q]) (M.files ++ [Fil.new]) = star (FilRep q Fil.new) (filesRep bs M.files) := files_snoc _ _ _ _ hl
  have h3 : Sat w0 _ (FilRep q Fil.new :: filesRep bs M.files :: medPt m M fb nb wv :: omap .string nb (mapL bs M.now) :: osl 95 3 wv (M.waits.flatMap (lnkCells bs)) :: omap .string fb (mapL bs M.fast) :: F) := h2.sel 6 [0, 3, 1, 2, 5, 4] rfl rfl
  have h4 := Sat.star.2 h3
  rw [← e4, ← e1, ← e2, ← e3] at h4
  have h5 := h4.sel 5 [1, 2, 3, 0, 4] rfl rfl
  have hlk := link_c (M := { M with files := M.files ++ [Fil.new] }) (bs := bs ++ [q]) ⟨ByteArray.empty, s, M.files.length⟩ h5 (Nat.le_trans hM.budget hK)
  have e5 : lnkPtr (bs ++ [q]) ⟨ByteArray.empty, s, M.files.length⟩ = ptr q := by
    unfold lnkPtr
    rw [if_neg hs]
    simp [List.getD_eq_getElem?_getD, ← hl]
  rw [e5] at hlk
  refine hlk.mono ?_
  rintro e w1 ⟨v, rfl, wv', hS⟩
  refine ⟨v, rfl, MedRep.shut (bs := bs ++ [q]) (fb := fb) (nb := nb) (wv := wv') (by simp [Med.link, hl]) ?_⟩
  exact hS.sel 5 [0, 1, 3, 4, 2] rfl rfl
set_option maxHeartbeats 2000000 in
theorem create_c (hM : M.Ok K) (hK : K ≤ 1099511627776) (h : Sat w0 w (MedRep m M :: F)) (s : ByteArray) (hs : s.size ≤ 9223372036854775807) :
    Calls Try.prog 18 #[ptr m, .string s] w (Rtn fun v w' => v = errno (M.create s).2 ∧ Sat w0 w' (MedRep m (M.create s).1 :: F)) := by
  obtain ⟨bs, fb, nb, wv, hl, hR⟩ := MedRep.open h
  have hd := dead_c hR
  have hg := good_c s w hs
  have c2 := hR.cellAt 2 _ rfl
  cases ho : M.off
  · rw [ho] at hd
    cases hgs : good s
    · rw [hgs] at hg
      have Hfin : Hid (M.create s = (M, 7)) := by show _ = _; simp [Med.create, ho, hgs]
      clear ho hgs
      go_enter Try.func18, Try.ntmps18
      go_wp2_with (first | (go_at_call 49; refine hd.mono ?_; rintro e w1 ⟨v, rfl, rfl, rfl⟩) | (go_at_call 50; refine hg.mono ?_; rintro e w1 ⟨v, rfl, rfl, rfl⟩))
      go_ret
      exact ⟨errno 7, rfl, by rw [Hfin.out], by rw [Hfin.out]; exact h⟩
    rw [hgs] at hg
    have hlk := look_names (s := s) (hR.pick1)
    cases hn : nget M.now s with
    | some i =>
      have Hfin : Hid (M.create s = (M, 10)) := by show _ = _; simp [Med.create, ho, hgs, hn]
      rw [fptr, hn] at hlk
      clear ho hgs hn
      simp only at hlk
      generalize bs.getD i 0 = q at hlk
      go_enter Try.func18, Try.ntmps18
      go_wp2_with (first | (go_at_call 49; refine hd.mono ?_; rintro e w1 ⟨v, rfl, rfl, rfl⟩) | (go_at_call 50; refine hg.mono ?_; rintro e w1 ⟨v, rfl, rfl, rfl⟩))
      go_ret
      exact ⟨errno 10, rfl, by rw [Hfin.out], by rw [Hfin.out]; exact h⟩
    | none =>
      rw [fptr, hn] at hlk
      simp only at hlk
      have hlen := fun ty => len_names (hR.pick1) ty
      by_cases h500 : 500 ≤ (M.now.length : Int)
      · have Hfin : Hid (M.create s = (M, 16)) := by
          show _ = _
          have : 500 ≤ M.now.length := by omega
          simp [Med.create, ho, hgs, hn, this]
        clear ho hgs hn
        go_enter Try.func18, Try.ntmps18
        go_wp2_with (first | (go_at_call 49; refine hd.mono ?_; rintro e w1 ⟨v, rfl, rfl, rfl⟩) | (go_at_call 50; refine hg.mono ?_; rintro e w1 ⟨v, rfl, rfl, rfl⟩))
        go_ret
        exact ⟨errno 16, rfl, by rw [Hfin.out], by rw [Hfin.out]; exact h⟩
      have h500' : ¬ 500 ≤ M.now.length := by omega
      have hb5 : decide ((500 : Int) ≤ (M.now.length : Int)) = false := by rw [decide_eq_false_iff_not]; exact h500
      have hst := step_c hR hM.left
      cases hstep : M.step.2
      · rw [hstep] at hst
        have Hfin : Hid (M.create s = (M.step.1, 12)) := by show _ = _; simp [Med.create, ho, hgs, hn, h500', hstep]
        clear ho hgs hn hstep h500 h500'
        go_enter Try.func18, Try.ntmps18
        go_wp2_with (first | (go_at_call 49; refine hd.mono ?_; rintro e w1 ⟨v, rfl, rfl, rfl⟩) | (go_at_call 50; refine hg.mono ?_; rintro e w1 ⟨v, rfl, rfl, rfl⟩) | (go_at_call 51; refine hst.mono ?_; rintro e w1 ⟨v, rfl, rfl, hS1⟩))
        go_ret
        refine ⟨errno 12, rfl, by rw [Hfin.out], ?_⟩
        rw [Hfin.out]
        exact MedRep.shut (bs := bs) (fb := fb) (nb := nb) (wv := wv) (by rw [M.step_same.2.2.2.1]; exact hl) (raw_step hS1)
      · rw [hstep] at hst
        have Hfin : Hid (M.create s = (({ M.step.1 with files := M.files ++ [Fil.new] } : Med).link ⟨ByteArray.empty, s, M.files.length⟩, 0)) := by show _ = _; simp [Med.create, ho, hgs, hn, h500', hstep]
        have hne := good_ne hgs
        clear ho hgs hn hstep h500 h500'
        have hl' : bs.length = M.step.1.files.length := by rw [M.step_same.2.2.2.1]; exact hl
        have Hl' := Lib.hid hl'; clear hl'
        go_enter Try.func18, Try.ntmps18
        go_wp2_with (first | (go_at_call 49; refine hd.mono ?_; rintro e w1 ⟨v, rfl, rfl, rfl⟩) | (go_at_call 50; refine hg.mono ?_; rintro e w1 ⟨v, rfl, rfl, rfl⟩) | (go_at_call 51; refine hst.mono ?_; rintro e w1 ⟨v, rfl, rfl, hS1⟩) | (go_at_call 52; go_must (refine (create_link hM.step hK Hl'.out hne (raw_step hS1)).mono ?_); rintro e w2 ⟨v2, rfl, hS2⟩))
        go_ret
        refine ⟨errno 0, rfl, by rw [Hfin.out], ?_⟩
        rw [Hfin.out]
        have e4 := M.step_same.2.2.2.1
        rw [e4] at hS2
        exact hS2
  · rw [ho] at hd
    have Hfin : Hid (M.create s = (M, 12)) := by show _ = _; simp [Med.create, ho]
    clear ho
    go_enter Try.func18, Try.ntmps18
    go_wp2_with (go_at_call 49; refine hd.mono ?_; rintro e w1 ⟨v, rfl, rfl, rfl⟩)
    go_ret
    exact ⟨errno 12, rfl, by rw [Hfin.out], by rw [Hfin.out]; exact h⟩
end
end Go.Proofs.Ytmjldaedhmipkaa
