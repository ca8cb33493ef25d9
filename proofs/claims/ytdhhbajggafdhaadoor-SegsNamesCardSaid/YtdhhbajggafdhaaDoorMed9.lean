import Derived.Test.YtdhhbajggafdhaaDoorMed8
import Derived.Sort.OwnSorted
/- The names in a map, sorted; copies of maps. -/
namespace Go.Proofs.YtdhhbajggafdhaaDoor
open Go Go.Sl Go.Med Go.MapKept Go.RowKit
section
variable {w0 w : World} {F : List HProp} {m fb nb b r : Nat} {M : Med} {bs : List Nat} {wv v bv : Value} {s : ByteArray} {l : Names} {fs : List Fil}
open Go.Sort in
theorem sort_c (ss : List (List UInt8)) (h : Sat w0 w (osl 9 1 v (ss.map encStr) :: F)) (hsz : ss.length < 4611686018427387904) :
    Calls Tryd.prog 77 #[v] w (Rtn fun _ w' => Sat w0 w' (osl 9 1 v ((ss.mergeSort fun x y => decide (x ≤ y)).map encStr) :: F)) := by
  rcases h.osl_cases with ⟨rfl, hn, h'⟩ | ⟨g, n, cap, cs, rfl, hl, hn, hc, hcm, htk, hp⟩
  · have hn' : ss = [] := by simpa using hn
    subst hn'
    refine (Tryd.slices_Sort_string_none none 0 w).mono ?_
    rintro e w1 ⟨rfl, rfl⟩
    exact ⟨_, rfl, by simpa using h⟩
  · have hl' : n = ss.length := by simpa using hl.symm
    subst hl'
    rw [Nat.mul_one] at htk
    refine (Tryd.slices_Sort_string g 0 cap ss w (holds_of_block hp.at htk) hp.lt hsz).mono ?_
    rintro e w1 ⟨rfl, n, os, rfl⟩
    refine ⟨_, rfl, ?_⟩
    have hg := grownBy_sorted (w := w) (g := g) (n := n) (os := os) (ss.mergeSort fun x y => decide (x ≤ y)).toArray
    have := hp.turn hg.os hg.tape hg.output hg.size (heap_sorted (n := n) (os := os) (ss.mergeSort fun x y => decide (x ≤ y)).toArray hp.at) (fun i hi hlt => hg.block i hlt (by simpa using hi))
    refine this.osl_of_pt (by simp) hn (by simpa [Sort.putCells] using hc) hcm ?_
    have h1 := take_putCells cs (ss.mergeSort fun x y => decide (x ≤ y)) (by rw [List.length_mergeSort]; omega)
    rw [List.length_mergeSort] at h1
    rw [Nat.mul_one]; exact h1
theorem encStr_ba (s : ByteArray) : encStr s.data.toList = .string s := by simp [encStr]
/-- Keys in whatever order, sorted, are the names. -/
theorem sorted_keys {l : Names} (hs : Srt l) {ks : List ByteArray} (hp : ks.Perm (l.map (·.1))) :
    ((ks.map fun s => s.data.toList).mergeSort fun x y => decide (x ≤ y)).map encStr = l.map fun p => .string p.1 := by
  have h1 : ((ks.map fun s => s.data.toList).mergeSort fun x y => decide (x ≤ y)) = l.map fun p => p.1.data.toList := by
    refine List.Perm.eq_of_pairwise (le := fun x y => decide (x ≤ y) = true) ?_ ?_ ?_ ?_
    · intro a b _ _ h1 h2
      simp only [decide_eq_true_eq] at h1 h2
      exact List.le_antisymm h1 h2
    · refine List.pairwise_mergeSort ?_ ?_ _
      · intro a b c h1 h2
        simp only [decide_eq_true_eq] at *
        exact List.le_trans h1 h2
      · intro a b
        simp only [Bool.or_eq_true, decide_eq_true_eq]
        exact List.le_total a b
    · rw [List.pairwise_map]
      refine hs.imp fun {a b} hab => ?_
      simp only [lt, decide_eq_true_eq] at hab ⊢
      exact List.le_of_lt hab
    · refine (List.mergeSort_perm _ _).trans ?_
      have := hp.map fun s : ByteArray => s.data.toList
      rw [List.map_map] at this
      exact this
  rw [h1, List.map_map]
  apply List.map_congr_left
  intro p _
  exact encStr_ba p.1
theorem infoStr : (Tryd.prog.info? 9).map (fun i => (i.zero, i.size, i.bytes)) = some (some (.string ByteArray.empty), 1, 16) := by kernel_rfl
def strs (l : List ByteArray) : List Value := l.map Value.string
theorem strs_enc (l : List ByteArray) : strs l = (l.map fun s => s.data.toList).map encStr := by
  unfold strs; rw [List.map_map]; apply List.map_congr_left; intro s _; exact (encStr_ba s).symm
set_option maxHeartbeats 2000000 in
theorem names_c (h : Sat w0 w (omap .string b (mapL bs l) :: F)) (hs : Srt l) (hl : l.length ≤ 1099511627776) :
    Calls Tryd.prog 56 #[.map (some b)] w (Rtn fun v w' => Sat w0 w' (osl 9 1 v (strs (l.map (·.1))) :: omap .string b (mapL bs l) :: F) ∧ ∃ a n c, v = .slice a n c) := by
  obtain ⟨i, hi, hz0, hz1, hz2⟩ := info_parts infoStr
  have Hs := Lib.hid hs; clear hs
  go_enter Tryd.func56, Tryd.ntmps56
  go_wp2_with (at_range; go_must (refine wpList_range_sl (by rfl) _ _ _ _ (by rfl) Tryd.underlying91 (by rfl) h ?_); intro r w1 hS)
  go_frame
  go_loopg [3] l.length (fun g n wr => ∃ (ks : List ByteArray) (todo : Names) (left : List (Value × Value)), g = todo.length ∧ left.Perm (mapL bs todo) ∧ (ks ++ todo.map (·.1)).Perm (l.map (·.1)) ∧
      Sat w0 wr (osl 9 1 n (strs ks) :: rng .string b r (mapL bs l) left :: F))
  case atStart => exact ⟨[], l, _, rfl, List.Perm.refl _, List.Perm.refl _, by unfold strs; exact Sat.osl_nil.2 hS⟩
  case round =>
    obtain ⟨ks, todo, left, rfl, hleft, hperm, hS⟩ := hrel
    have hlen : ks.length + todo.length = l.length := by have := hperm.length_eq; simpa using this
    obtain ⟨oa, on, oc, rfl, hoc, _⟩ := hS.rd
    clear hoc
    have Hleft := Lib.hid hleft
    have Hperm := Lib.hid hperm
    clear hleft hperm
    go_wp2_with (at_next; go_must (refine wpList_next_sl (by rfl) _ (by rfl) (by rfl) hS.pick1 ?_ ?_))
    · intro hnil
      have Hnil := Lib.hid hnil; clear hnil
      have h0 : todo = [] := by
        have := Hleft.out
        rw [Hnil.out] at this
        simpa [mapL] using this.symm
      subst h0
      have hk : ks.Perm (l.map (·.1)) := by simpa using Hperm.out
      have hsort := sort_c (ks.map fun s => s.data.toList) (by rw [← strs_enc]; exact hS) (by simp at hlen ⊢; omega)
      rw [sorted_keys Hs.out hk] at hsort
      have Hk := Lib.hid hk; clear hk
      go_wp2_with (go_at_call 77; refine hsort.mono ?_; rintro e w2 ⟨v, rfl, hS2⟩)
      go_ret
      refine ⟨_, rfl, ?_, _, _, _, rfl⟩
      have h9 := (hS2.pick1.rng_done).pick1
      have e1 : strs (l.map (·.1)) = l.map fun p => Value.string p.1 := by unfold strs; rw [List.map_map]; rfl
      rw [e1]; exact h9
    · intro k v left' w1 hp hS1 hen
      obtain ⟨p, todo', hp', rfl, rfl, hl'⟩ := mapL_pick (Hleft.out.symm.trans hp)
      have hlen2 : todo.length = todo'.length + 1 := by have := hp'.length_eq; simpa using this
      have Hp := Lib.hid hp'
      have Hl := Lib.hid hl'
      clear hp hp' hl'
      have hb1 := hS1.pick1.alloc (.cells #[.string p.1] 9)
      have h63 : (strs ks).length + 1 ≤ maxLen := by unfold strs maxLen; rw [List.length_map]; omega
      have hby : ((strs ks).length + 1) * i.bytes ≤ 140737488355328 := by unfold strs; rw [List.length_map, hz2]; omega
      have hoc : ∀ u ∈ (#[.string p.1] : Array Value).toList, u.oneCell' = true := by
        intro u hu
        simp only [List.mem_cons, List.not_mem_nil, or_false] at hu
        subst hu; rfl
      go_wp2_with (at_builtin; go_must (refine wpList_append (w0 := w0) (by rfl) _ _ _ (by rfl) _ i _ Tryd.underlying57 hi hz0 hz1 (by rfl) (by omega) (by rfl) (by rfl) hoc hb1.pick1 (rdsl_new _ _ _ 1 1 1 (by rfl)) h63 hby ?_); intro v2 w2 hS2 hne)
      go_roundg todo'.length
      case measure => omega
      case rel =>
        refine ⟨ks ++ [p.1], todo', left', rfl, Hl.out, ?_, ?_⟩
        · refine List.Perm.trans ?_ Hperm.out
          rw [List.append_assoc]
          exact List.Perm.append_left ks (show List.Perm ((p :: todo').map (·.1)) _ from (Hp.out.map (·.1)).symm)
        · have : strs (ks ++ [p.1]) = strs ks ++ [.string p.1] := by simp [strs]
          rw [this]
          exact hS2.sel 3 [0, 2] rfl rfl
set_option maxHeartbeats 2000000 in
theorem copied_c (h : Sat w0 w (omap .string b (mapL bs l) :: F)) :
    Calls Tryd.prog 66 #[.map (some b)] w (Rtn fun v w' => ∃ b', v = .map (some b') ∧ Sat w0 w' (omap .string b' (mapL bs l) :: omap .string b (mapL bs l) :: F)) := by
  have hn := mapL_keys h
  have hmm := @run_makeMap Tryd.prog
  have h0 := h.omap_new .string
  have Hn := Lib.hid hn; clear hn
  go_enter Tryd.func66, Tryd.ntmps66
  go_wp2_with (at_range; go_must (refine wpList_range_sl (by rfl) _ _ _ _ (by rfl) Tryd.underlying91 (by rfl) h0.pick1 ?_); intro r w1 hS)
  go_frame
  generalize w.heap.size = b' at *
  go_loopg [4, 5] l.length (fun g _ _ wr => ∃ (done todo : Names) (left : List (Value × Value)), g = todo.length ∧ left.Perm (mapL bs todo) ∧ (done ++ todo).Perm l ∧
      Sat w0 wr (omap .string b' (mapL bs done) :: rng .string b r (mapL bs l) left :: F))
  case atStart => exact ⟨[], l, _, rfl, List.Perm.refl _, List.Perm.refl _, hS.pick1⟩
  case round =>
    obtain ⟨done, todo, left, rfl, hleft, hperm, hS⟩ := hrel
    have Hleft := Lib.hid hleft
    have Hperm := Lib.hid hperm
    clear hleft hperm
    go_wp2_with (at_next; go_must (refine wpList_next_sl (by rfl) _ (by rfl) (by rfl) hS.pick1 ?_ ?_))
    · intro hnil
      have Hnil := Lib.hid hnil; clear hnil
      have h0 : todo = [] := by
        have := Hleft.out
        rw [Hnil.out] at this
        simpa [mapL] using this.symm
      subst h0
      have hk : done.Perm l := by simpa using Hperm.out
      have Hk := Lib.hid hk; clear hk
      go_wp2
      go_ret
      refine ⟨_, rfl, b', rfl, ?_⟩
      exact ((hS.pick1.rng_done).pick1).omap_perm (mapL_perm Hk.out)
    · intro k v left' w1 hp hS1 hen
      obtain ⟨p, todo', hp', rfl, rfl, hl'⟩ := mapL_pick (Hleft.out.symm.trans hp)
      have hlen2 : todo.length = todo'.length + 1 := by have := hp'.length_eq; simpa using this
      have hkey : ∀ x ∈ mapL bs done, x.1 ≠ .string p.1 := by
        intro x hx e
        obtain ⟨q, hq, rfl⟩ := List.mem_map.1 hx
        simp only [Value.string.injEq] at e
        have h1 := ((Hperm.out.map (·.1)).nodup_iff.2 Hn.out)
        rw [List.map_append, List.nodup_append] at h1
        exact h1.2.2 q.1 (List.mem_map.2 ⟨q, hq, rfl⟩) p.1 (List.mem_map.2 ⟨p, hp'.mem_iff.2 (.head _), rfl⟩) e
      have hside : (mapL bs done).Perm (mapL bs done) ∧ (∀ x ∈ mapL bs done, x.1 ≠ .string p.1) ∨ ∃ v0, (mapL bs done).Perm ((.string p.1, v0) :: mapL bs done) := .inl ⟨List.Perm.refl _, hkey⟩
      have Hside := Lib.hid hside; clear hside hkey
      have Hp := Lib.hid hp'
      have Hl := Lib.hid hl'
      clear hp hp' hl'
      generalize hq : ptr (bs.getD p.2 0) = q at *
      have Hq := Lib.hid hq; clear hq
      go_wp2_with (at_mapUpdate; go_must (refine wpList_store (key := .string p.1) (by rfl) _ _ _ (by rfl) Tryd.underlying91 Tryd.underlying9 (by rfl) (by rfl) (by rfl) trivial hS1.pick1 _ Hside.out ?_); intro w2 hS2)
      go_roundg todo'.length
      case measure => omega
      case rel =>
        refine ⟨p :: done, todo', left', rfl, Hl.out, ?_, ?_⟩
        · refine List.Perm.trans ?_ Hperm.out
          exact (List.perm_middle.symm).trans (List.Perm.append_left done Hp.out.symm)
        · show Sat w0 _ (omap .string b' ((.string p.1, ptr (bs.getD p.2 0)) :: mapL bs done) :: _)
          rw [Hq.out]; exact hS2
end
end Go.Proofs.YtdhhbajggafdhaaDoor
