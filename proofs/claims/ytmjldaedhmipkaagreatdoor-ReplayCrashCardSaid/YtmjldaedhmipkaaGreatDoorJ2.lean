import Derived.Test.YtmjldaedhmipkaaGreatDoorJ1
import Derived.Sort.OwnSorted
import Derived.Sort.Walk0
import Derived.Laws.BitsAllLaws
import Derived.Laws.Strings
import Derived.Deep.Slices
import Derived.WalkKit
import Derived.ProofKit
import Derived.OpenShut
import Derived.ShutString
import Derived.ChangeOld
import Derived.Below
import Derived.ChangeKeysEq
import Derived.Laws.Rows
import Derived.Laws.OwnMore
import Derived.Laws.CopyOwn
set_option linter.unusedVariables false
namespace Go.Proofs.YtmjldaedhmipkaaGreatDoor
open Go Go.Sl Go.Med Go.MapKept Go.RowKit
section
variable {w0 w : World} {F : List HProp} {m fb nb b r : Nat} {M : Med} {bs : List Nat} {wv v bv : Value} {s : ByteArray} {l : Names} {fs : List Fil}
open Go.Sort in
theorem sort_c (ss : List (List UInt8)) (h : Sat w0 w (osl 9 1 v (ss.map encStr) :: F)) (hsz : ss.length < 4611686018427387904) :
    Calls Tryz.prog 140 #[v] w (Rtn fun _ w' => Sat w0 w' (osl 9 1 v ((ss.mergeSort fun x y => decide (x ≤ y)).map encStr) :: F)) := by
  rcases h.osl_cases with ⟨rfl, hn, h'⟩ | ⟨g, n, cap, cs, rfl, hl, hn, hc, hcm, htk, hp⟩
  · have hn' : ss = [] := by simpa using hn
    subst hn'
    refine (Tryz.slices_Sort_string_none none 0 w).mono ?_
    rintro e w1 ⟨rfl, rfl⟩
    exact ⟨_, rfl, by simpa using h⟩
  · have hl' : n = ss.length := by simpa using hl.symm
    subst hl'
    rw [Nat.mul_one] at htk
    refine (Tryz.slices_Sort_string g 0 cap ss w (holds_of_block hp.at htk) hp.lt hsz).mono ?_
    rintro e w1 ⟨rfl, n, os, rfl⟩
    refine ⟨_, rfl, ?_⟩
    have hg := grownBy_sorted (w := w) (g := g) (n := n) (os := os) (ss.mergeSort fun x y => decide (x ≤ y)).toArray
    have := hp.turn hg.os hg.tape hg.output hg.size (heap_sorted (n := n) (os := os) (ss.mergeSort fun x y => decide (x ≤ y)).toArray hp.at) (fun i hi hlt => hg.block i hlt (by simpa using hi))
    refine this.osl_of_pt (by simp) hn (by simpa [Sort.putCells] using hc) hcm ?_
    have h1 := take_putCells cs (ss.mergeSort fun x y => decide (x ≤ y)) (by rw [List.length_mergeSort]; omega)
    rw [List.length_mergeSort] at h1
    rw [Nat.mul_one]; exact h1
theorem encStr_ba (s : ByteArray) : encStr s.data.toList = .string s := by simp [encStr]
theorem sorted_keys {l : Names} (hs : Srt l) {ks : List ByteArray} (hp : ks.Perm (l.map (·.1))) :
    ((ks.map fun s => s.data.toList).mergeSort fun x y => decide (x ≤ y)).map encStr = l.map fun p => .string p.1 := by
  have h1 : ((ks.map fun s => s.data.toList).mergeSort fun x y => decide (x ≤ y)) = l.map fun p => p.1.data.toList := by
    refine List.Perm.eq_of_pairwise (le := fun x y => decide (x ≤ y) = true) ?_ ?_ ?_ ?_
    · intro a b _ _ h1 h2
      simp only [decide_eq_true_eq] at h1 h2
      exact List.le_antisymm h1 h2
    · refine List.pairwise_mergeSort ?_ ?_ _
      · intro a b c h1 h2
        simp only [decide_eq_true_eq] at *
        exact List.le_trans h1 h2
      · intro a b
        simp only [Bool.or_eq_true, decide_eq_true_eq]
        exact List.le_total a b
    · rw [List.pairwise_map]
      refine hs.imp fun {a b} hab => ?_
      simp only [lt, decide_eq_true_eq] at hab ⊢
      exact List.le_of_lt hab
    · refine (List.mergeSort_perm _ _).trans ?_
      have := hp.map fun s : ByteArray => s.data.toList
      rw [List.map_map] at this
      exact this
  rw [h1, List.map_map]
  apply List.map_congr_left
  intro p _
  exact encStr_ba p.1
theorem infoStr : (Tryz.prog.info? 9).map (fun i => (i.zero, i.size, i.bytes)) = some (some (.string ByteArray.empty), 1, 16) := by kernel_rfl
def strs (l : List ByteArray) : List Value := l.map Value.string
theorem strs_enc (l : List ByteArray) : strs l = (l.map fun s => s.data.toList).map encStr := by
  unfold strs; rw [List.map_map]; apply List.map_congr_left; intro s _; exact (encStr_ba s).symm
set_option maxHeartbeats 2000000 in
theorem names_c (h : Sat w0 w (omap .string b (mapL bs l) :: F)) (hs : Srt l) (hl : l.length ≤ 1099511627776) :
    Calls Tryz.prog 91 #[.map (some b)] w (Rtn fun v w' => Sat w0 w' (osl 9 1 v (strs (l.map (·.1))) :: omap .string b (mapL bs l) :: F) ∧ ∃ a n c, v = .slice a n c) := by
  obtain ⟨i, hi, hz0, hz1, hz2⟩ := info_parts infoStr
  have Hs := Lib.hid hs; clear hs
  go_enter Tryz.func91, Tryz.ntmps91
  go_wp2_with (at_range; go_must (refine wpList_range_sl (by rfl) _ _ _ _ (by rfl) Tryz.underlying128 (by rfl) h ?_); intro r w1 hS)
  go_frame
  go_loopg [3] l.length (fun g n wr => ∃ (ks : List ByteArray) (todo : Names) (left : List (Value × Value)), g = todo.length ∧ left.Perm (mapL bs todo) ∧ (ks ++ todo.map (·.1)).Perm (l.map (·.1)) ∧
      Sat w0 wr (osl 9 1 n (strs ks) :: rng .string b r (mapL bs l) left :: F))
  case atStart => exact ⟨[], l, _, rfl, List.Perm.refl _, List.Perm.refl _, by unfold strs; exact Sat.osl_nil.2 hS⟩
  case round =>
    obtain ⟨ks, todo, left, rfl, hleft, hperm, hS⟩ := hrel
    have hlen : ks.length + todo.length = l.length := by have := hperm.length_eq; simpa using this
    obtain ⟨oa, on, oc, rfl, hoc, _⟩ := hS.rd
    clear hoc
    have Hleft := Lib.hid hleft
    have Hperm := Lib.hid hperm
    clear hleft hperm
    go_wp2_with (at_next; go_must (refine wpList_next_sl (by rfl) _ (by rfl) (by rfl) hS.pick1 ?_ ?_))
    · intro hnil
      have Hnil := Lib.hid hnil; clear hnil
      have h0 : todo = [] := by
        have := Hleft.out
        rw [Hnil.out] at this
        simpa [mapL] using this.symm
      subst h0
      have hk : ks.Perm (l.map (·.1)) := by simpa using Hperm.out
      have hsort := sort_c (ks.map fun s => s.data.toList) (by rw [← strs_enc]; exact hS) (by simp at hlen ⊢; omega)
      rw [sorted_keys Hs.out hk] at hsort
      have Hk := Lib.hid hk; clear hk
      go_wp2_with (go_at_call 140; refine hsort.mono ?_; rintro e w2 ⟨v, rfl, hS2⟩)
      go_ret
      refine ⟨_, rfl, ?_, _, _, _, rfl⟩
      have h9 := (hS2.pick1.rng_done).pick1
      have e1 : strs (l.map (·.1)) = l.map fun p => Value.string p.1 := by unfold strs; rw [List.map_map]; rfl
      rw [e1]; exact h9
    · intro k v left' w1 hp hS1 hen
      obtain ⟨p, todo', hp', rfl, rfl, hl'⟩ := mapL_pick (Hleft.out.symm.trans hp)
      have hlen2 : todo.length = todo'.length + 1 := by have := hp'.length_eq; simpa using this
      have Hp := Lib.hid hp'
      have Hl := Lib.hid hl'
      clear hp hp' hl'
      have hb1 := hS1.pick1.alloc (.cells #[.string p.1] 9)
      have h63 : (strs ks).length + 1 ≤ maxLen := by unfold strs maxLen; rw [List.length_map]; omega
      have hby : ((strs ks).length + 1) * i.bytes ≤ 140737488355328 := by unfold strs; rw [List.length_map, hz2]; omega
      have hoc : ∀ u ∈ (#[.string p.1] : Array Value).toList, u.oneCell' = true := by
        intro u hu
        simp only [List.mem_cons, List.not_mem_nil, or_false] at hu
        subst hu; rfl
      go_wp2_with (at_builtin; go_must (refine wpList_append (w0 := w0) (by rfl) _ _ _ (by rfl) _ i _ Tryz.underlying100 hi hz0 hz1 (by rfl) (by omega) (by rfl) (by rfl) hoc hb1.pick1 (rdsl_new _ _ _ 1 1 1 (by rfl)) h63 hby ?_); intro v2 w2 hS2 hne)
      go_roundg todo'.length
      case measure => omega
      case rel =>
        refine ⟨ks ++ [p.1], todo', left', rfl, Hl.out, ?_, ?_⟩
        · refine List.Perm.trans ?_ Hperm.out
          rw [List.append_assoc]
          exact List.Perm.append_left ks (show List.Perm ((p :: todo').map (·.1)) _ from (Hp.out.map (·.1)).symm)
        · have : strs (ks ++ [p.1]) = strs ks ++ [.string p.1] := by simp [strs]
          rw [this]
          exact hS2.sel 3 [0, 2] rfl rfl
set_option maxHeartbeats 2000000 in
theorem copied_c (h : Sat w0 w (omap .string b (mapL bs l) :: F)) :
    Calls Tryz.prog 89 #[.map (some b)] w (Rtn fun v w' => ∃ b', v = .map (some b') ∧ Sat w0 w' (omap .string b' (mapL bs l) :: omap .string b (mapL bs l) :: F)) := by
  have hn := mapL_keys h
  have hmm := @run_makeMap Tryz.prog
  have h0 := h.omap_new .string
  have Hn := Lib.hid hn; clear hn
  go_enter Tryz.func89, Tryz.ntmps89
  go_wp2_with (at_range; go_must (refine wpList_range_sl (by rfl) _ _ _ _ (by rfl) Tryz.underlying128 (by rfl) h0.pick1 ?_); intro r w1 hS)
  go_frame
  generalize w.heap.size = b' at *
  go_loopg [4, 5] l.length (fun g _ _ wr => ∃ (done todo : Names) (left : List (Value × Value)), g = todo.length ∧ left.Perm (mapL bs todo) ∧ (done ++ todo).Perm l ∧
      Sat w0 wr (omap .string b' (mapL bs done) :: rng .string b r (mapL bs l) left :: F))
  case atStart => exact ⟨[], l, _, rfl, List.Perm.refl _, List.Perm.refl _, hS.pick1⟩
  case round =>
    obtain ⟨done, todo, left, rfl, hleft, hperm, hS⟩ := hrel
    have Hleft := Lib.hid hleft
    have Hperm := Lib.hid hperm
    clear hleft hperm
    go_wp2_with (at_next; go_must (refine wpList_next_sl (by rfl) _ (by rfl) (by rfl) hS.pick1 ?_ ?_))
    · intro hnil
      have Hnil := Lib.hid hnil; clear hnil
      have h0 : todo = [] := by
        have := Hleft.out
        rw [Hnil.out] at this
        simpa [mapL] using this.symm
      subst h0
      have hk : done.Perm l := by simpa using Hperm.out
      have Hk := Lib.hid hk; clear hk
      go_wp2
      go_ret
      refine ⟨_, rfl, b', rfl, ?_⟩
      exact ((hS.pick1.rng_done).pick1).omap_perm (mapL_perm Hk.out)
    · intro k v left' w1 hp hS1 hen
      obtain ⟨p, todo', hp', rfl, rfl, hl'⟩ := mapL_pick (Hleft.out.symm.trans hp)
      have hlen2 : todo.length = todo'.length + 1 := by have := hp'.length_eq; simpa using this
      have hkey : ∀ x ∈ mapL bs done, x.1 ≠ .string p.1 := by
        intro x hx e
        obtain ⟨q, hq, rfl⟩ := List.mem_map.1 hx
        simp only [Value.string.injEq] at e
        have h1 := ((Hperm.out.map (·.1)).nodup_iff.2 Hn.out)
        rw [List.map_append, List.nodup_append] at h1
        exact h1.2.2 q.1 (List.mem_map.2 ⟨q, hq, rfl⟩) p.1 (List.mem_map.2 ⟨p, hp'.mem_iff.2 (.head _), rfl⟩) e
      have hside : (mapL bs done).Perm (mapL bs done) ∧ (∀ x ∈ mapL bs done, x.1 ≠ .string p.1) ∨ ∃ v0, (mapL bs done).Perm ((.string p.1, v0) :: mapL bs done) := .inl ⟨List.Perm.refl _, hkey⟩
      have Hside := Lib.hid hside; clear hside hkey
      have Hp := Lib.hid hp'
      have Hl := Lib.hid hl'
      clear hp hp' hl'
      generalize hq : ptr (bs.getD p.2 0) = q at *
      have Hq := Lib.hid hq; clear hq
      go_wp2_with (at_mapUpdate; go_must (refine wpList_store (key := .string p.1) (by rfl) _ _ _ (by rfl) Tryz.underlying128 Tryz.underlying9 (by rfl) (by rfl) (by rfl) trivial hS1.pick1 _ Hside.out ?_); intro w2 hS2)
      go_roundg todo'.length
      case measure => omega
      case rel =>
        refine ⟨p :: done, todo', left', rfl, Hl.out, ?_, ?_⟩
        · refine List.Perm.trans ?_ Hperm.out
          exact (List.perm_middle.symm).trans (List.Perm.append_left done Hp.out.symm)
        · show Sat w0 _ (omap .string b' ((.string p.1, ptr (bs.getD p.2 0)) :: mapL bs done) :: _)
          rw [Hq.out]; exact hS2
end
end Go.Proofs.YtmjldaedhmipkaaGreatDoor
namespace Go.Proofs.YtmjldaedhmipkaaGreatDoor
open Go Go.Sl Go.Med Go.MapKept Go.RowKit
section
variable {w0 w : World} {F : List HProp} {m fb nb b r : Nat} {M : Med} {bs : List Nat} {wv v bv : Value} {s : ByteArray} {l : Names} {fs : List Fil} {K : Nat}
set_option maxHeartbeats 1000000 in
theorem size_c (hM : M.Ok K) (h : Sat w0 w (MedRep m M :: F)) (s : ByteArray) :
    Calls Tryz.prog 65 #[ptr m, .string s] w (Rtn fun v w' => v = .tuple #[.int .i64 (M.size s).1, errno (M.size s).2] ∧ w = w') := by
  obtain ⟨bs, fb, nb, wv, hl, hR⟩ := MedRep.open h
  cases ho : M.off
  · cases hn : nget M.now s with
    | none =>
      have hf := find_none (s := s) hR ho hn
      have Hfin : Hid (M.size s = (0, 9)) := by show _ = _; simp [Med.size, ho, hn]
      clear ho hn
      go_enter Tryz.func65, Tryz.ntmps65
      go_wp2_with (go_at_call 123; refine hf.mono ?_; rintro e w1 ⟨v, rfl, rfl, rfl⟩)
      go_ret2
      exact ⟨_, rfl, by rw [Hfin.out]; rfl, rfl⟩
    | some i =>
      have hf := find_some (s := s) hR ho hn
      have hid : i < M.files.length := hM.nowOk.ids (s, i) (nget_mem hn)
      obtain ⟨fa, fn, fc, na, nc, wv', f0, f1, f2, _, _, _, hna⟩ := file_cells (hR.sel 3 [2] rfl rfl) hl hid
      have Hfin : Hid (M.size s = (((M.file i).now.length : Int), 0)) := by show _ = _; simp [Med.size, ho, hn]
      clear ho hn hna
      change w.cell? ⟨bs.getD i 0, 1, none⟩ = some (.slice na (M.file i).now.length nc) at f1
      generalize bs.getD i 0 = q at *
      go_enter Tryz.func65, Tryz.ntmps65
      go_wp2_with (go_at_call 123; refine hf.mono ?_; rintro e w1 ⟨v, rfl, rfl, rfl⟩)
      go_ret2
      refine ⟨.tuple #[.int .i64 (M.file i).now.length, errno 0], rfl, ?_, rfl⟩
      rw [Hfin.out]
  · have hf := find_off (s := s) hR ho
    have Hfin : Hid (M.size s = (0, 12)) := by show _ = _; simp [Med.size, ho]
    clear ho
    go_enter Tryz.func65, Tryz.ntmps65
    go_wp2_with (go_at_call 123; refine hf.mono ?_; rintro e w1 ⟨v, rfl, rfl, rfl⟩)
    go_ret2
    exact ⟨_, rfl, by rw [Hfin.out]; rfl, rfl⟩
set_option maxHeartbeats 1000000 in
theorem all_c (hM : M.Ok K) (h : Sat w0 w (MedRep m M :: F)) (s : ByteArray) :
    Calls Tryz.prog 146 #[ptr m, .string s] w (Rtn fun v w' => ∃ bv, v = .tuple #[bv, errno (M.all s).2] ∧ Sat w0 w' (bsl bv (M.all s).1 :: MedRep m M :: F)) := by
  obtain ⟨bs, fb, nb, wv, hl, hR⟩ := MedRep.open h
  cases ho : M.off
  · cases hn : nget M.now s with
    | none =>
      have hf := find_none (s := s) hR ho hn
      have Hfin : Hid (M.all s = ([], 9)) := by show _ = _; simp [Med.all, ho, hn]
      clear ho hn
      go_enter Tryz.func146, Tryz.ntmps146
      go_wp2_with (go_at_call 123; refine hf.mono ?_; rintro e w1 ⟨v, rfl, rfl, rfl⟩)
      go_ret2
      exact ⟨_, rfl, .slice none 0 0, by rw [Hfin.out]; rfl, by rw [Hfin.out]; exact Sat.osl_nil.2 h⟩
    | some i =>
      have hf := find_some (s := s) hR ho hn
      have hid : i < M.files.length := hM.nowOk.ids (s, i) (nget_mem hn)
      obtain ⟨fa, fn, fc, na, nc, wv', f0, f1, f2, hrd, hcap, hnc, hna⟩ := file_cells (hR.sel 3 [2] rfl rfl) hl hid
      have hcl := clone_c h hrd (by have := (hM.file i).now_len; unfold Med.file at this; omega)
      have Hfin : Hid (M.all s = ((M.file i).now, 0)) := by show _ = _; simp [Med.all, ho, hn]
      clear ho hn hrd hcap hnc hna
      change w.cell? ⟨bs.getD i 0, 1, none⟩ = some (.slice na (M.file i).now.length nc) at f1
      change Calls _ _ #[.slice na (M.file i).now.length nc] _ _ at hcl
      generalize bs.getD i 0 = q at *
      go_enter Tryz.func146, Tryz.ntmps146
      go_wp2_with (first
        | (go_at_call 123; refine hf.mono ?_; rintro e w1 ⟨v, rfl, rfl, rfl⟩)
        | (go_at_call 134; refine hcl.mono ?_; rintro e w1 ⟨v, rfl, hS, _⟩))
      go_ret2
      exact ⟨_, rfl, v, by rw [Hfin.out]; rfl, by rw [Hfin.out]; exact hS⟩
  · have hf := find_off (s := s) hR ho
    have Hfin : Hid (M.all s = ([], 12)) := by show _ = _; simp [Med.all, ho]
    clear ho
    go_enter Tryz.func146, Tryz.ntmps146
    go_wp2_with (go_at_call 123; refine hf.mono ?_; rintro e w1 ⟨v, rfl, rfl, rfl⟩)
    go_ret2
    exact ⟨_, rfl, .slice none 0 0, by rw [Hfin.out]; rfl, by rw [Hfin.out]; exact Sat.osl_nil.2 h⟩
theorem rdsl_slice {a : Option Addr} {n c lo k : Nat} {xs : List Value} (h : rdsl 1 (.slice a n c) xs w) (hk : lo + k ≤ n) (x : Option Addr) (hx : x = if c = lo then a else a.map (·.add lo)) (hc : n ≤ c) (c' : Nat) : rdsl 1 (.slice x k c') ((xs.drop lo).take k) w := by
  obtain ⟨a', n', c'', he, hl, hcell⟩ := h
  cases he
  rw [Nat.mul_one] at hl
  refine ⟨x, k, c', rfl, by simp; omega, fun i y hi => ?_⟩
  rw [List.getElem?_take] at hi
  split at hi
  · rename_i hik
    rw [List.getElem?_drop] at hi
    obtain ⟨b, hb, hy⟩ := hcell _ y hi
    subst hb
    have : ¬ c = lo := by omega
    rw [if_neg this] at hx
    refine ⟨b.add lo, by simpa using hx, ?_⟩
    have : (b.add lo).add i = b.add (lo + i) := by
      unfold Addr.add
      by_cases h1 : lo = 0
      · subst h1; simp
      · by_cases h2 : i = 0
        · subst h2; simp
        · simp [h1, h2]; omega
    rw [this]; exact hy
  · cases hi
end
section
variable {w0 w : World} {F : List HProp} {m fb nb b r : Nat} {M : Med} {bs : List Nat} {wv v bv : Value} {s : ByteArray} {l : Names} {fs : List Fil} {K : Nat}
set_option maxHeartbeats 1000000 in
theorem new_yes (room : Nat) (hr : room ≤ 16777216) (h : Sat w0 w F) :
    Calls Tryz.prog 13 #[.int .i64 room] w (Rtn fun v w' => ∃ m, v = .tuple #[ptr m, errno 0] ∧ Sat w0 w' (MedRep m (Med.new room) :: F)) := by
  have h2 : decide ((room : Int) < 0) = false := by rw [decide_eq_false_iff_not]; omega
  have h3 : decide (16777216 < (room : Int)) = false := by rw [decide_eq_false_iff_not]; omega
  have hmm := @run_makeMap Tryz.prog
  have hA := ((h.omap_new .string).omap_new .string)
  have hB := hA.alloc (.cells #[.int .i64 room, .map (some w.heap.size), .map (some (w.heap.size + 1)), .slice none 0 0, .bool false, .int .i64 0, .bool false] 131)
  go_enter Tryz.func13, Tryz.ntmps13
  go_wp2
  go_ret2
  refine ⟨_, rfl, _, rfl, ?_⟩
  refine MedRep.shut (bs := []) (fb := w.heap.size) (nb := w.heap.size + 1) (wv := .slice none 0 0) rfl ?_
  have h5 : Sat w0 _ (osl 168 3 (.slice none 0 0) [] :: Sl.emp :: _ :: _ :: _ :: F) := Sat.osl_nil.2 (Sat.emp.2 hB)
  simp only [World.size_alloc] at h5
  exact h5.sel 5 [2, 3, 1, 4, 0] rfl rfl
set_option maxHeartbeats 1000000 in
theorem list_c (hM : M.Ok K) (h : Sat w0 w (MedRep m M :: F)) :
    Calls Tryz.prog 50 #[ptr m] w (Rtn fun v w' => Sat w0 w' (osl 9 1 v (strs M.list) :: MedRep m M :: F) ∧ ∃ a n c, v = .slice a n c) := by
  obtain ⟨bs, fb, nb, wv, hl, hR⟩ := MedRep.open h
  have hd := dead_c hR
  have c2 := hR.cellAt 2 _ rfl
  cases ho : M.off
  · rw [ho] at hd
    have hnm := names_c (hR.sel 5 [1, 0, 2, 3, 4] rfl rfl) hM.nowOk.srt (by have := hM.nowOk.len; omega)
    have Hfin : Hid (M.list = M.now.map (·.1)) := by show _ = _; simp [Med.list, ho]
    clear ho
    go_enter Tryz.func50, Tryz.ntmps50
    go_wp2_with (first | (go_at_call 87; refine hd.mono ?_; rintro e w1 ⟨v, rfl, rfl, rfl⟩) | (go_at_call 91; go_must (refine hnm.mono ?_); rintro e w1 ⟨v, rfl, hS, a1, n1, k1, rfl⟩))
    go_ret
    refine ⟨_, rfl, ?_, _, _, _, rfl⟩
    rw [Hfin.out]
    exact (MedRep.shut hl (hS.sel 6 [2, 1, 3, 4, 5, 0] rfl rfl)).pick1
  · rw [ho] at hd
    have Hfin : Hid (M.list = []) := by show _ = _; simp [Med.list, ho]
    clear ho
    go_enter Tryz.func50, Tryz.ntmps50
    go_wp2_with (go_at_call 87; refine hd.mono ?_; rintro e w1 ⟨v, rfl, rfl, rfl⟩)
    go_ret
    refine ⟨.slice none 0 0, rfl, ?_, _, _, _, rfl⟩
    rw [Hfin.out]
    exact Sat.osl_nil.2 h
end
section
variable {w0 w : World} {F : List HProp} {m fb nb b r : Nat} {M : Med} {bs : List Nat} {wv v bv : Value} {s : ByteArray} {l : Names} {fs : List Fil} {K : Nat}
theorem getD_ext (bs : List Nat) (b i : Nat) (h : i < bs.length) : (bs ++ [b]).getD i 0 = bs.getD i 0 := by
  simp [List.getD_eq_getElem?_getD, List.getElem?_append_left h]
theorem mapL_ext (h : ∀ p ∈ l, p.2 < bs.length) (b : Nat) : mapL (bs ++ [b]) l = mapL bs l := by
  unfold mapL
  apply List.map_congr_left
  intro p hp
  rw [getD_ext bs b p.2 (h p hp)]
theorem lnks_ext {ws : List Lnk} (h : ∀ x ∈ ws, x.to ≠ ByteArray.empty → x.f < bs.length) (b : Nat) : ws.flatMap (lnkCells (bs ++ [b])) = ws.flatMap (lnkCells bs) := by
  induction ws with
  | nil => rfl
  | cons x ws ih =>
    rw [List.flatMap_cons, List.flatMap_cons, ih fun y hy => h y (.tail _ hy)]
    congr 1
    unfold lnkCells
    by_cases ht : x.to = ByteArray.empty
    · simp [ht]
    · simp only [if_neg ht]
      rw [getD_ext bs b x.f (h x (.head _) ht)]
theorem len_names (h : Sat w0 w (omap .string b (mapL bs l) :: F)) (ty : TypeId) : (Builtin.len_ #[128] ty #[.map (some b)]).run Tryz.prog w = .ok (.int .i64 l.length) w := by
  have := run_maplen (P := Tryz.prog) Tryz.underlying128 ty h
  simpa [mapL] using this
theorem raw_step (h : Sat w0 w (medPt m M.step.1 fb nb wv :: [omap .string nb (mapL bs M.now), filesRep bs M.files, omap .string fb (mapL bs M.fast), osl 168 3 wv (M.waits.flatMap (lnkCells bs))] ++ F)) : Sat w0 w (MedRaw m M.step.1 bs fb nb wv ++ F) := by
  obtain ⟨e1, e2, e3, e4, e5⟩ := M.step_same
  unfold MedRaw
  rw [e2, e3, e4, e5]
  exact h
theorem FilRep_new (h : Sat w0 w (filPt b (.slice none 0 0) (.slice none 0 0) (.slice none 0 0) :: F)) : Sat w0 w (FilRep b Fil.new :: F) := by
  refine FilRep.shut (fv := .slice none 0 0) (nv := .slice none 0 0) (wv := .slice none 0 0) (ws := []) rfl ?_
  have h1 : Sat w0 w (bsl (.slice none 0 0) [] :: bsl (.slice none 0 0) [] :: osl 246 3 (.slice none 0 0) [] :: chgs [] :: _) := Sat.osl_nil.2 (Sat.osl_nil.2 (Sat.osl_nil.2 (Sat.emp.2 h)))
  exact h1.sel 5 [4, 0, 1, 2, 3] rfl rfl
theorem create_link (hM : M.Ok K) (hK : K ≤ 1099511627776) (hl : bs.length = M.files.length) (hs : s ≠ ByteArray.empty) (h : Sat w0 w (MedRaw m M bs fb nb wv ++ F)) :
    Calls Tryz.prog 137 #[ptr m, .agg #[.string { data := #[] }, .string s, ptr w.heap.size]] (w.alloc (.cells #[.slice none 0 0, .slice none 0 0, .slice none 0 0] 228))
      (Rtn fun _ w' => Sat w0 w' (MedRep m (({ M with files := M.files ++ [Fil.new] } : Med).link ⟨ByteArray.empty, s, M.files.length⟩) :: F)) := by
  have h1 := h.alloc (.cells #[.slice none 0 0, .slice none 0 0, .slice none 0 0] 228)
  have h2 := FilRep_new h1
  generalize w.heap.size = q at *
  have e1 : mapL (bs ++ [q]) M.now = mapL bs M.now := mapL_ext (fun p hp => by rw [hl]; exact hM.nowOk.ids p hp) q
  have e2 : mapL (bs ++ [q]) M.fast = mapL bs M.fast := mapL_ext (fun p hp => by rw [hl]; exact hM.fastOk.ids p hp) q
  have e3 : M.waits.flatMap (lnkCells (bs ++ [q])) = M.waits.flatMap (lnkCells bs) := lnks_ext (fun x hx ht => by rw [hl]; exact hM.links x hx ht) q
  have e4 : filesRep (bs ++ [q]) (M.files ++ [Fil.new]) = star (FilRep q Fil.new) (filesRep bs M.files) := files_snoc _ _ _ _ hl
  have h3 : Sat w0 _ (FilRep q Fil.new :: filesRep bs M.files :: medPt m M fb nb wv :: omap .string nb (mapL bs M.now) :: osl 168 3 wv (M.waits.flatMap (lnkCells bs)) :: omap .string fb (mapL bs M.fast) :: F) := h2.sel 6 [0, 3, 1, 2, 5, 4] rfl rfl
  have h4 := Sat.star.2 h3
  rw [← e4, ← e1, ← e2, ← e3] at h4
  have h5 := h4.sel 5 [1, 2, 3, 0, 4] rfl rfl
  have hlk := link_c (M := { M with files := M.files ++ [Fil.new] }) (bs := bs ++ [q]) ⟨ByteArray.empty, s, M.files.length⟩ h5 (Nat.le_trans hM.budget hK)
  have e5 : lnkPtr (bs ++ [q]) ⟨ByteArray.empty, s, M.files.length⟩ = ptr q := by
    unfold lnkPtr
    rw [if_neg hs]
    simp [List.getD_eq_getElem?_getD, ← hl]
  rw [e5] at hlk
  refine hlk.mono ?_
  rintro e w1 ⟨v, rfl, wv', hS⟩
  refine ⟨v, rfl, MedRep.shut (bs := bs ++ [q]) (fb := fb) (nb := nb) (wv := wv') (by simp [Med.link, hl]) ?_⟩
  exact hS.sel 5 [0, 1, 3, 4, 2] rfl rfl
set_option maxHeartbeats 2000000 in
theorem create_c (hM : M.Ok K) (hK : K ≤ 1099511627776) (h : Sat w0 w (MedRep m M :: F)) (s : ByteArray) (hs : s.size ≤ 9223372036854775807) :
    Calls Tryz.prog 107 #[ptr m, .string s] w (Rtn fun v w' => v = errno (M.create s).2 ∧ Sat w0 w' (MedRep m (M.create s).1 :: F)) := by
  obtain ⟨bs, fb, nb, wv, hl, hR⟩ := MedRep.open h
  have hd := dead_c hR
  have hg := good_c s w hs
  have c2 := hR.cellAt 2 _ rfl
  cases ho : M.off
  · rw [ho] at hd
    cases hgs : good s
    · rw [hgs] at hg
      have Hfin : Hid (M.create s = (M, 7)) := by show _ = _; simp [Med.create, ho, hgs]
      clear ho hgs
      go_enter Tryz.func107, Tryz.ntmps107
      go_wp2_with (first | (go_at_call 87; refine hd.mono ?_; rintro e w1 ⟨v, rfl, rfl, rfl⟩) | (go_at_call 147; refine hg.mono ?_; rintro e w1 ⟨v, rfl, rfl, rfl⟩))
      go_ret
      exact ⟨errno 7, rfl, by rw [Hfin.out], by rw [Hfin.out]; exact h⟩
    rw [hgs] at hg
    have hlk := look_names (s := s) (hR.pick1)
    cases hn : nget M.now s with
    | some i =>
      have Hfin : Hid (M.create s = (M, 10)) := by show _ = _; simp [Med.create, ho, hgs, hn]
      rw [fptr, hn] at hlk
      clear ho hgs hn
      simp only at hlk
      generalize bs.getD i 0 = q at hlk
      go_enter Tryz.func107, Tryz.ntmps107
      go_wp2_with (first | (go_at_call 87; refine hd.mono ?_; rintro e w1 ⟨v, rfl, rfl, rfl⟩) | (go_at_call 147; refine hg.mono ?_; rintro e w1 ⟨v, rfl, rfl, rfl⟩))
      go_ret
      exact ⟨errno 10, rfl, by rw [Hfin.out], by rw [Hfin.out]; exact h⟩
    | none =>
      rw [fptr, hn] at hlk
      simp only at hlk
      have hlen := fun ty => len_names (hR.pick1) ty
      by_cases h500 : 500 ≤ (M.now.length : Int)
      · have Hfin : Hid (M.create s = (M, 16)) := by
          show _ = _
          have : 500 ≤ M.now.length := by omega
          simp [Med.create, ho, hgs, hn, this]
        clear ho hgs hn
        go_enter Tryz.func107, Tryz.ntmps107
        go_wp2_with (first | (go_at_call 87; refine hd.mono ?_; rintro e w1 ⟨v, rfl, rfl, rfl⟩) | (go_at_call 147; refine hg.mono ?_; rintro e w1 ⟨v, rfl, rfl, rfl⟩))
        go_ret
        exact ⟨errno 16, rfl, by rw [Hfin.out], by rw [Hfin.out]; exact h⟩
      have h500' : ¬ 500 ≤ M.now.length := by omega
      have hb5 : decide ((500 : Int) ≤ (M.now.length : Int)) = false := by rw [decide_eq_false_iff_not]; exact h500
      have hst := step_c hR hM.left
      cases hstep : M.step.2
      · rw [hstep] at hst
        have Hfin : Hid (M.create s = (M.step.1, 12)) := by show _ = _; simp [Med.create, ho, hgs, hn, h500', hstep]
        clear ho hgs hn hstep h500 h500'
        go_enter Tryz.func107, Tryz.ntmps107
        go_wp2_with (first | (go_at_call 87; refine hd.mono ?_; rintro e w1 ⟨v, rfl, rfl, rfl⟩) | (go_at_call 147; refine hg.mono ?_; rintro e w1 ⟨v, rfl, rfl, rfl⟩) | (go_at_call 133; refine hst.mono ?_; rintro e w1 ⟨v, rfl, rfl, hS1⟩))
        go_ret
        refine ⟨errno 12, rfl, by rw [Hfin.out], ?_⟩
        rw [Hfin.out]
        exact MedRep.shut (bs := bs) (fb := fb) (nb := nb) (wv := wv) (by rw [M.step_same.2.2.2.1]; exact hl) (raw_step hS1)
      · rw [hstep] at hst
        have Hfin : Hid (M.create s = (({ M.step.1 with files := M.files ++ [Fil.new] } : Med).link ⟨ByteArray.empty, s, M.files.length⟩, 0)) := by show _ = _; simp [Med.create, ho, hgs, hn, h500', hstep]
        have hne := good_ne hgs
        clear ho hgs hn hstep h500 h500'
        have hl' : bs.length = M.step.1.files.length := by rw [M.step_same.2.2.2.1]; exact hl
        have Hl' := Lib.hid hl'; clear hl'
        go_enter Tryz.func107, Tryz.ntmps107
        go_wp2_with (first | (go_at_call 87; refine hd.mono ?_; rintro e w1 ⟨v, rfl, rfl, rfl⟩) | (go_at_call 147; refine hg.mono ?_; rintro e w1 ⟨v, rfl, rfl, rfl⟩) | (go_at_call 133; refine hst.mono ?_; rintro e w1 ⟨v, rfl, rfl, hS1⟩) | (go_at_call 137; go_must (refine (create_link hM.step hK Hl'.out hne (raw_step hS1)).mono ?_); rintro e w2 ⟨v2, rfl, hS2⟩))
        go_ret
        refine ⟨errno 0, rfl, by rw [Hfin.out], ?_⟩
        rw [Hfin.out]
        have e4 := M.step_same.2.2.2.1
        rw [e4] at hS2
        exact hS2
  · rw [ho] at hd
    have Hfin : Hid (M.create s = (M, 12)) := by show _ = _; simp [Med.create, ho]
    clear ho
    go_enter Tryz.func107, Tryz.ntmps107
    go_wp2_with (go_at_call 87; refine hd.mono ?_; rintro e w1 ⟨v, rfl, rfl, rfl⟩)
    go_ret
    exact ⟨errno 12, rfl, by rw [Hfin.out], by rw [Hfin.out]; exact h⟩
end
section
variable {w0 w : World} {F : List HProp} {m fb nb b r : Nat} {M : Med} {bs : List Nat} {wv v bv : Value} {s : ByteArray} {l : Names} {fs : List Fil} {K : Nat}
theorem raw_file (hl : bs.length = M.files.length) {i : Nat} (hi : i < M.files.length) (h : Sat w0 w (MedRaw m M bs fb nb wv ++ F)) :
    ∃ G : HProp, Sat w0 w (FilRep (bs.getD i 0) (M.file i) :: medPt m M fb nb wv :: omap .string nb (mapL bs M.now) :: omap .string fb (mapL bs M.fast) :: osl 168 3 wv (M.waits.flatMap (lnkCells bs)) :: G :: F) ∧
      ∀ (w' : World) (f' : Fil), Sat w0 w' (FilRep (bs.getD i 0) f' :: medPt m M fb nb wv :: omap .string nb (mapL bs M.now) :: omap .string fb (mapL bs M.fast) :: osl 168 3 wv (M.waits.flatMap (lnkCells bs)) :: G :: F) → Sat w0 w' (MedRep m (M.setFile i f') :: F) := by
  obtain ⟨G, h1, h2⟩ := files_take bs M.files i hl hi
  refine ⟨G, ?_, fun w' f' h' => ?_⟩
  · have h3 := h.sel 5 [2, 0, 1, 3, 4] rfl rfl
    have h4 : Sat w0 w (filesRep bs M.files :: medPt m M fb nb wv :: omap .string nb (mapL bs M.now) :: omap .string fb (mapL bs M.fast) :: osl 168 3 wv (M.waits.flatMap (lnkCells bs)) :: F) := h3
    rw [h1] at h4
    exact (Sat.star.1 h4).sel 6 [0, 2, 3, 4, 5, 1] rfl rfl
  · refine MedRep.shut (bs := bs) (fb := fb) (nb := nb) (wv := wv) (by simp [Med.setFile, hl]) ?_
    have h4 : Sat w0 w' (FilRep (bs.getD i 0) f' :: G :: medPt m M fb nb wv :: omap .string nb (mapL bs M.now) :: omap .string fb (mapL bs M.fast) :: osl 168 3 wv (M.waits.flatMap (lnkCells bs)) :: F) := h'.sel 6 [0, 5, 1, 2, 3, 4] rfl rfl
    have h5 := Sat.star.2 h4
    rw [← h2] at h5
    exact h5.sel 5 [1, 2, 0, 3, 4] rfl rfl
set_option maxHeartbeats 2000000 in
theorem sync_c (hM : M.Ok K) (h : Sat w0 w (MedRep m M :: F)) (s : ByteArray) :
    Calls Tryz.prog 76 #[ptr m, .string s] w (Rtn fun v w' => v = errno (M.sync s).2 ∧ Sat w0 w' (MedRep m (M.sync s).1 :: F)) := by
  obtain ⟨bs, fb, nb, wv, hl, hR⟩ := MedRep.open h
  cases ho : M.off
  · cases hn : nget M.now s with
    | none =>
      have hf := find_none (s := s) hR ho hn
      have Hfin : Hid (M.sync s = (M, 9)) := by show _ = _; simp [Med.sync, ho, hn]
      clear ho hn
      go_enter Tryz.func76, Tryz.ntmps76
      go_wp2_with (go_at_call 123; refine hf.mono ?_; rintro e w1 ⟨v, rfl, rfl, rfl⟩)
      go_ret
      exact ⟨errno 9, rfl, by rw [Hfin.out], by rw [Hfin.out]; exact h⟩
    | some i =>
      have hf := find_some (s := s) hR ho hn
      have hid : i < M.files.length := hM.nowOk.ids (s, i) (nget_mem hn)
      have hst := step_c hR hM.left
      cases hstep : M.step.2
      · rw [hstep] at hst
        have Hfin : Hid (M.sync s = (M.step.1, 12)) := by show _ = _; simp [Med.sync, ho, hn, hstep]
        clear ho hn hstep
        go_enter Tryz.func76, Tryz.ntmps76
        go_wp2_with (first | (go_at_call 123; refine hf.mono ?_; rintro e w1 ⟨v, rfl, rfl, rfl⟩) | (go_at_call 133; refine hst.mono ?_; rintro e w1 ⟨v, rfl, rfl, hS1⟩))
        go_ret
        refine ⟨errno 12, rfl, by rw [Hfin.out], ?_⟩
        rw [Hfin.out]
        exact MedRep.shut (bs := bs) (fb := fb) (nb := nb) (wv := wv) (by rw [M.step_same.2.2.2.1]; exact hl) (raw_step hS1)
      · rw [hstep] at hst
        have Hfin : Hid (M.sync s = (M.step.1.setFile i (M.file i).sync, 0)) := by show _ = _; simp [Med.sync, ho, hn, hstep]
        clear ho hn hstep
        have hl' : bs.length = M.step.1.files.length := by rw [M.step_same.2.2.2.1]; exact hl
        have hid' : i < M.step.1.files.length := by rw [M.step_same.2.2.2.1]; exact hid
        have hfe : M.step.1.file i = M.file i := by unfold Med.file; rw [M.step_same.2.2.2.1]
        have hnl := (hM.file i).now_len
        have Hl' := Lib.hid hl'; have Hfe := Lib.hid hfe
        clear hl' hfe
        generalize hq : bs.getD i 0 = q at hf
        have Hq := Lib.hid hq; clear hq
        go_enter Tryz.func76, Tryz.ntmps76
        go_wp2_with (first | (go_at_call 123; refine hf.mono ?_; rintro e w1 ⟨v, rfl, rfl, rfl⟩) | (go_at_call 133; fail))
        refine hst.mono ?_
        rintro e w1 ⟨v, rfl, rfl, hS1⟩
        obtain ⟨G, h1, h2⟩ := raw_file Hl'.out hid' (raw_step hS1)
        rw [Hfe.out, Hq.out] at h1
        rw [Hq.out] at h2
        obtain ⟨fv, nv, wv', ws, hws, h3⟩ := FilRep.open h1
        have H2 := Lib.hid h2; clear h2 hS1 h1 hws
        have h4 : Sat w0 w1 (filPt q fv nv wv' :: bsl nv (M.file i).now :: _) := h3.sel 3 [0, 2] rfl rfl
        have c1 := h4.cellAt 1 _ rfl
        obtain ⟨na, nn, nc, rfl⟩ := bsl_shape h4.pick1
        have hcl := clone_c h4 h4.pick1.rd (by omega)
        go_wp2_with (go_at_call 134; go_must (refine hcl.mono ?_); rintro e w2 ⟨v2, rfl, hS2, a2, n2, k2, rfl⟩; have g0 := hS2.pick1.freeAt 0; have g2 := hS2.pick1.freeAt 2; have d0 := hS2.pick1.cellAt 0 _ rfl; have d2 := hS2.pick1.cellAt 2 _ rfl)
        go_ret
        refine ⟨errno 0, rfl, by rw [Hfin.out], ?_⟩
        rw [Hfin.out]
        refine H2.out _ _ ?_
        have h5 := (hS2.pick1.set 0 (.slice a2 n2 k2)).set 2 (.slice none 0 0)
        refine FilRep.shut (fv := .slice a2 n2 k2) (nv := .slice na nn nc) (wv := .slice none 0 0) (ws := []) rfl ?_
        have h6 : Sat w0 _ (osl 246 3 (.slice none 0 0) [] :: chgs [] :: _ :: _ :: _ :: osl _ _ _ _ :: chgs _ :: _) := Sat.osl_nil.2 (Sat.emp.2 h5)
        exact h6.sel 7 [2, 3, 4, 0, 1] rfl rfl
  · have hf := find_off (s := s) hR ho
    have Hfin : Hid (M.sync s = (M, 12)) := by show _ = _; simp [Med.sync, ho]
    clear ho
    go_enter Tryz.func76, Tryz.ntmps76
    go_wp2_with (go_at_call 123; refine hf.mono ?_; rintro e w1 ⟨v, rfl, rfl, rfl⟩)
    go_ret
    exact ⟨errno 12, rfl, by rw [Hfin.out], by rw [Hfin.out]; exact h⟩
end
section
variable {w0 w : World} {F : List HProp} {m fb nb b r : Nat} {M : Med} {bs : List Nat} {wv v bv : Value} {s : ByteArray} {l : Names} {fs : List Fil} {K : Nat}
theorem ro_len {lb : Bs} (hr : Ro w0 F (rdsl 1 bv (bys lb))) {A : HProp} (h : Sat w0 w (A :: F)) : ∃ a n c, bv = .slice a n c ∧ n = lb.length := by
  obtain ⟨a, n, c, rfl, hl, _⟩ := hr w h.drop
  rw [bys_len, Nat.mul_one] at hl
  exact ⟨a, n, c, rfl, hl.symm⟩
set_option maxHeartbeats 4000000 in
theorem append_c (hM : M.Ok K) (hK : K ≤ 1099511627776) (h : Sat w0 w (MedRep m M :: F)) (s : ByteArray) (lb : Bs) (hr : Ro w0 F (rdsl 1 bv (bys lb))) :
    Calls Tryz.prog 109 #[ptr m, .string s, bv] w (Rtn fun v w' => v = errno (M.append s lb).2 ∧ Sat w0 w' (MedRep m (M.append s lb).1 :: F)) := by
  obtain ⟨bs, fb, nb, wv, hl, hR⟩ := MedRep.open h
  cases ho : M.off
  · cases hn : nget M.now s with
    | none =>
      obtain ⟨ba, bn, bc, rfl, hbn⟩ := ro_len hr h
      clear hbn
      have hf := find_none (s := s) hR ho hn
      have Hfin : Hid (M.append s lb = (M, 9)) := by show _ = _; simp [Med.append, ho, hn]
      clear ho hn hr
      go_enter Tryz.func109, Tryz.ntmps109
      go_wp2_with (go_at_call 123; refine hf.mono ?_; rintro e w1 ⟨v, rfl, rfl, rfl⟩)
      go_ret
      exact ⟨errno 9, rfl, by rw [Hfin.out], by rw [Hfin.out]; exact h⟩
    | some i =>
      have hf := find_some (s := s) hR ho hn
      have hid : i < M.files.length := hM.nowOk.ids (s, i) (nget_mem hn)
      obtain ⟨ba, bn, bc, rfl, hbn⟩ := ro_len hr h
      have hu := used_c (w := w.drew) (m := m) (M := M) (fb := fb) (nb := nb) (wv := wv) (bs := bs) hR.drew hl hM.nowOk.ids (by have := hM.used_le; omega)
      have hut : M.usedTold = M.used := by simp [Med.usedTold, ho]
      rw [hut] at hu
      have hu2 := hM.used_le
      have hr2 := hM.room
      have c0 := hR.cellAt 0 _ rfl
      have Hr := Lib.hid hr; clear hr
      clear hut
      by_cases hfull : (M.room : Int) - M.used < lb.length
      · have Hfin : Hid (M.append s lb = (M, 11)) := by show _ = _; simp [Med.append, ho, hn, hfull]
        clear ho hn
        subst hbn
        have hwr : IntKind.i64.wrap ((M.room : Int) - (M.used : Int)) = (M.room : Int) - (M.used : Int) := IntWalk.i64_in _ (by omega)
        go_enter Tryz.func109, Tryz.ntmps109
        go_wp2_with (go_at_call 123; refine hf.mono ?_; rintro e w1 ⟨v, rfl, rfl, rfl⟩)
        refine wpL_begin [8, 9] (fun w' => w'.cell? ⟨m, 0, none⟩ = some (.int .i64 M.room)) (by kernel_rfl) ?_
        have hG := c0
        refine wpL_pure (i := 0) (v := ?_) rfl (by kernel_rfl) (fun _ _ _ h => h) (Or.inl ⟨by rfl, ?_⟩) ?_; rotate_left; focus ((intro wq; go_simp); first | done | (with_reducible rfl))
        refine wpL_pure (i := 1) (v := ?_) rfl (by kernel_rfl) (fun _ _ _ h => h) (Or.inl ⟨by rfl, ?_⟩) ?_; rotate_left; focus ((intro wq; go_simp); first | done | (with_reducible rfl))
        refine wpL_pure (i := 2) (v := ?_) rfl (by kernel_rfl) (fun _ _ _ h => h) (Or.inl ⟨by rfl, ?_⟩) ?_; rotate_left; focus ((intro wq; go_simp); first | done | (with_reducible rfl))
        refine wpL_pure (i := 3) (v := ?_) rfl (by kernel_rfl) (fun _ _ _ h => h) (Or.inl ⟨by rfl, ?_⟩) ?_; rotate_left; focus ((intro wq; go_simp); first | done | (with_reducible rfl))
        refine wpL_pure (i := 4) (v := ?_) rfl (by kernel_rfl) (fun _ _ _ h => h) (Or.inl ⟨by rfl, ?_⟩) ?_; rotate_left; focus ((intro wq; go_simp); first | done | (with_reducible rfl))
        refine wpL_take (i := 5) (v := ?_) rfl (by kernel_rfl) (fun _ _ _ h => h) (Or.inl ⟨by rfl, ?_⟩) (by assumption) ?_; rotate_left; focus ((intro wq hq; go_split_ands; go_simp); first | done | (with_reducible rfl))
        refine wpL_pure (i := 6) (v := ?_) rfl (by kernel_rfl) (fun _ _ _ h => h) (Or.inl ⟨by rfl, ?_⟩) ?_; rotate_left; focus ((intro wq; go_simp); first | done | (with_reducible rfl))
        refine wpL_eff (i := 7) rfl (by kernel_rfl) (fun K hK => ?_)
        go_simp
        refine hu.mono ?_
        rintro e w1 ⟨v, rfl, rfl, hSu⟩
        refine hK _ _ (.inr (.inl (hSu.cellAt 0 _ rfl))) ?_
        clear hK K hG
        refine wpL_pure (i := 8) (v := ?_) rfl (by kernel_rfl) (fun _ _ _ h => h) (Or.inl ⟨by rfl, ?_⟩) ?_; rotate_left; focus ((intro wq; go_simp); first | done | (with_reducible rfl))
        refine wpL_pure (i := 9) (v := ?_) rfl (by kernel_rfl) (fun _ _ _ h => h) (Or.inl ⟨by rfl, ?_⟩) ?_; rotate_left; focus ((intro wq; go_simp); first | done | (with_reducible rfl))
        refine wpL_done (by kernel_rfl) ?_
        clear hwr
        go_wp2
        go_ret
        exact ⟨errno 11, rfl, by rw [Hfin.out], by rw [Hfin.out]; exact MedRep.shut hl hSu⟩
      have hfull' : decide ((M.room : Int) - M.used < lb.length) = false := by rw [decide_eq_false_iff_not]; exact hfull
      cases hstep : M.step.2
      · have Hfin : Hid (M.append s lb = (M.step.1, 12)) := by show _ = _; simp [Med.append, ho, hn, hfull, hstep]
        have Hs := Lib.hid hstep
        clear ho hn hstep hfull
        subst hbn
        have hwr : IntKind.i64.wrap ((M.room : Int) - (M.used : Int)) = (M.room : Int) - (M.used : Int) := IntWalk.i64_in _ (by omega)
        go_enter Tryz.func109, Tryz.ntmps109
        go_wp2_with (go_at_call 123; refine hf.mono ?_; rintro e w1 ⟨v, rfl, rfl, rfl⟩)
        refine wpL_begin [8, 9] (fun w' => w'.cell? ⟨m, 0, none⟩ = some (.int .i64 M.room)) (by kernel_rfl) ?_
        have hG := c0
        refine wpL_pure (i := 0) (v := ?_) rfl (by kernel_rfl) (fun _ _ _ h => h) (Or.inl ⟨by rfl, ?_⟩) ?_; rotate_left; focus ((intro wq; go_simp); first | done | (with_reducible rfl))
        refine wpL_pure (i := 1) (v := ?_) rfl (by kernel_rfl) (fun _ _ _ h => h) (Or.inl ⟨by rfl, ?_⟩) ?_; rotate_left; focus ((intro wq; go_simp); first | done | (with_reducible rfl))
        refine wpL_pure (i := 2) (v := ?_) rfl (by kernel_rfl) (fun _ _ _ h => h) (Or.inl ⟨by rfl, ?_⟩) ?_; rotate_left; focus ((intro wq; go_simp); first | done | (with_reducible rfl))
        refine wpL_pure (i := 3) (v := ?_) rfl (by kernel_rfl) (fun _ _ _ h => h) (Or.inl ⟨by rfl, ?_⟩) ?_; rotate_left; focus ((intro wq; go_simp); first | done | (with_reducible rfl))
        refine wpL_pure (i := 4) (v := ?_) rfl (by kernel_rfl) (fun _ _ _ h => h) (Or.inl ⟨by rfl, ?_⟩) ?_; rotate_left; focus ((intro wq; go_simp); first | done | (with_reducible rfl))
        refine wpL_take (i := 5) (v := ?_) rfl (by kernel_rfl) (fun _ _ _ h => h) (Or.inl ⟨by rfl, ?_⟩) (by assumption) ?_; rotate_left; focus ((intro wq hq; go_split_ands; go_simp); first | done | (with_reducible rfl))
        refine wpL_pure (i := 6) (v := ?_) rfl (by kernel_rfl) (fun _ _ _ h => h) (Or.inl ⟨by rfl, ?_⟩) ?_; rotate_left; focus ((intro wq; go_simp); first | done | (with_reducible rfl))
        refine wpL_eff (i := 7) rfl (by kernel_rfl) (fun K hK => ?_)
        go_simp
        refine hu.mono ?_
        rintro e w1 ⟨v, rfl, rfl, hSu⟩
        refine hK _ _ (.inr (.inl (hSu.cellAt 0 _ rfl))) ?_
        clear hK K hG
        refine wpL_pure (i := 8) (v := ?_) rfl (by kernel_rfl) (fun _ _ _ h => h) (Or.inl ⟨by rfl, ?_⟩) ?_; rotate_left; focus ((intro wq; go_simp); first | done | (with_reducible rfl))
        refine wpL_pure (i := 9) (v := ?_) rfl (by kernel_rfl) (fun _ _ _ h => h) (Or.inl ⟨by rfl, ?_⟩) ?_; rotate_left; focus ((intro wq; go_simp); first | done | (with_reducible rfl))
        refine wpL_done (by kernel_rfl) ?_
        clear hwr
        have hst := step_c hSu hM.left
        rw [Hs.out] at hst
        go_wp2_with (go_at_call 133; refine hst.mono ?_; rintro e w2 ⟨v, rfl, rfl, hS1⟩)
        go_ret
        refine ⟨errno 12, rfl, by rw [Hfin.out], ?_⟩
        rw [Hfin.out]
        exact MedRep.shut (bs := bs) (fb := fb) (nb := nb) (wv := wv) (by rw [M.step_same.2.2.2.1]; exact hl) (raw_step hS1)
      · have Hfin : Hid (M.append s lb = (M.step.1.setFile i ((M.file i).do ⟨false, 0, lb⟩), 0)) := by show _ = _; simp [Med.append, ho, hn, hfull, hstep]
        have Hs := Lib.hid hstep
        have hfe : M.step.1.file i = M.file i := by unfold Med.file; rw [M.step_same.2.2.2.1]
        have hokf := hM.file i
        have hbig : lb.length ≤ 16777216 := by omega
        clear ho hn hstep hfull
        subst hbn
        generalize hq : bs.getD i 0 = q at hf
        have Hq := Lib.hid hq; clear hq
        have Hfe := Lib.hid hfe; clear hfe
        have Hok := Lib.hid hokf; clear hokf
        have hwr : IntKind.i64.wrap ((M.room : Int) - (M.used : Int)) = (M.room : Int) - (M.used : Int) := IntWalk.i64_in _ (by omega)
        go_enter Tryz.func109, Tryz.ntmps109
        go_wp2_with (go_at_call 123; refine hf.mono ?_; rintro e w1 ⟨v, rfl, rfl, rfl⟩)
        refine wpL_begin [8, 9] (fun w' => w'.cell? ⟨m, 0, none⟩ = some (.int .i64 M.room)) (by kernel_rfl) ?_
        have hG := c0
        refine wpL_pure (i := 0) (v := ?_) rfl (by kernel_rfl) (fun _ _ _ h => h) (Or.inl ⟨by rfl, ?_⟩) ?_; rotate_left; focus ((intro wq; go_simp); first | done | (with_reducible rfl))
        refine wpL_pure (i := 1) (v := ?_) rfl (by kernel_rfl) (fun _ _ _ h => h) (Or.inl ⟨by rfl, ?_⟩) ?_; rotate_left; focus ((intro wq; go_simp); first | done | (with_reducible rfl))
        refine wpL_pure (i := 2) (v := ?_) rfl (by kernel_rfl) (fun _ _ _ h => h) (Or.inl ⟨by rfl, ?_⟩) ?_; rotate_left; focus ((intro wq; go_simp); first | done | (with_reducible rfl))
        refine wpL_pure (i := 3) (v := ?_) rfl (by kernel_rfl) (fun _ _ _ h => h) (Or.inl ⟨by rfl, ?_⟩) ?_; rotate_left; focus ((intro wq; go_simp); first | done | (with_reducible rfl))
        refine wpL_pure (i := 4) (v := ?_) rfl (by kernel_rfl) (fun _ _ _ h => h) (Or.inl ⟨by rfl, ?_⟩) ?_; rotate_left; focus ((intro wq; go_simp); first | done | (with_reducible rfl))
        refine wpL_take (i := 5) (v := ?_) rfl (by kernel_rfl) (fun _ _ _ h => h) (Or.inl ⟨by rfl, ?_⟩) (by assumption) ?_; rotate_left; focus ((intro wq hq; go_split_ands; go_simp); first | done | (with_reducible rfl))
        refine wpL_pure (i := 6) (v := ?_) rfl (by kernel_rfl) (fun _ _ _ h => h) (Or.inl ⟨by rfl, ?_⟩) ?_; rotate_left; focus ((intro wq; go_simp); first | done | (with_reducible rfl))
        refine wpL_eff (i := 7) rfl (by kernel_rfl) (fun K hK => ?_)
        go_simp
        refine hu.mono ?_
        rintro e w1 ⟨v, rfl, rfl, hSu⟩
        refine hK _ _ (.inr (.inl (hSu.cellAt 0 _ rfl))) ?_
        clear hK K hG
        refine wpL_pure (i := 8) (v := ?_) rfl (by kernel_rfl) (fun _ _ _ h => h) (Or.inl ⟨by rfl, ?_⟩) ?_; rotate_left; focus ((intro wq; go_simp); first | done | (with_reducible rfl))
        refine wpL_pure (i := 9) (v := ?_) rfl (by kernel_rfl) (fun _ _ _ h => h) (Or.inl ⟨by rfl, ?_⟩) ?_; rotate_left; focus ((intro wq; go_simp); first | done | (with_reducible rfl))
        refine wpL_done (by kernel_rfl) ?_
        clear hwr
        have hst := step_c hSu hM.left
        rw [Hs.out] at hst
        go_wp2_with (go_at_call 133; fail)
        refine hst.mono ?_
        rintro e w2 ⟨v, rfl, rfl, hS1⟩
        have hl' : bs.length = M.step.1.files.length := by rw [M.step_same.2.2.2.1]; exact hl
        have hid' : i < M.step.1.files.length := by rw [M.step_same.2.2.2.1]; exact hid
        obtain ⟨G, h1, h2⟩ := raw_file hl' hid' (raw_step hS1)
        rw [Hfe.out, Hq.out] at h1
        rw [Hq.out] at h2
        have hrd := Hr.out w2 (h1.sel 6 [] rfl rfl)
        have hcl := clone_c h1 hrd (by omega)
        go_wp2_with (go_at_call 134; fail)
        refine hcl.mono ?_
        rintro e w3 ⟨v2, rfl, hS2, a2, n2, k2, rfl⟩
        obtain ⟨fv, nv, wv', ws, hws, h3⟩ := FilRep.open hS2.pick1
        have hdo := do_c (bv := .slice a2 n2 k2) ⟨false, 0, lb⟩ (h3.sel 6 [0, 1, 2, 3, 4, 5] rfl rfl) hws ⟨(fun h => by cases h), fun _ => by have := Hok.out.now_len; simp only; omega⟩ (Nat.le_trans Hok.out.budget hK)
        clear h3 hws hst hcl hrd h1 hu
        go_wp2_with (go_at_call 149; go_must (refine hdo.mono ?_); rintro e w4 ⟨v4, rfl, hS4⟩)
        go_ret
        refine ⟨errno 0, rfl, by rw [Hfin.out], ?_⟩
        rw [Hfin.out]
        exact h2 _ _ hS4
  · obtain ⟨ba, bn, bc, rfl, hbn⟩ := ro_len hr h
    clear hbn
    have hf := find_off (s := s) hR ho
    have Hfin : Hid (M.append s lb = (M, 12)) := by show _ = _; simp [Med.append, ho]
    clear ho hr
    go_enter Tryz.func109, Tryz.ntmps109
    go_wp2_with (go_at_call 123; refine hf.mono ?_; rintro e w1 ⟨v, rfl, rfl, rfl⟩)
    go_ret
    exact ⟨errno 12, rfl, by rw [Hfin.out], by rw [Hfin.out]; exact h⟩
set_option maxHeartbeats 2000000 in
theorem syncDir_c (hM : M.Ok K) (h : Sat w0 w (MedRep m M :: F)) :
    Calls Tryz.prog 78 #[ptr m] w (Rtn fun v w' => v = errno M.syncDir.2 ∧ Sat w0 w' (MedRep m M.syncDir.1 :: F)) := by
  obtain ⟨bs, fb, nb, wv, hl, hR⟩ := MedRep.open h
  have hd := dead_c hR
  cases ho : M.off
  · rw [ho] at hd
    have hst := step_c hR hM.left
    cases hstep : M.step.2
    · rw [hstep] at hst
      have Hfin : Hid (M.syncDir = (M.step.1, 12)) := by show _ = _; simp [Med.syncDir, ho, hstep]
      clear ho hstep
      go_enter Tryz.func78, Tryz.ntmps78
      go_wp2_with (first | (go_at_call 87; refine hd.mono ?_; rintro e w1 ⟨v, rfl, rfl, rfl⟩) | (go_at_call 133; refine hst.mono ?_; rintro e w1 ⟨v, rfl, rfl, hS1⟩))
      go_ret
      refine ⟨errno 12, rfl, by rw [Hfin.out], ?_⟩
      rw [Hfin.out]
      exact MedRep.shut (bs := bs) (fb := fb) (nb := nb) (wv := wv) (by rw [M.step_same.2.2.2.1]; exact hl) (raw_step hS1)
    · rw [hstep] at hst
      have Hfin : Hid (M.syncDir = ({ M.step.1 with fast := M.now, waits := [] }, 0)) := by show _ = _; simp [Med.syncDir, ho, hstep]
      clear ho hstep
      go_enter Tryz.func78, Tryz.ntmps78
      go_wp2_with (first | (go_at_call 87; refine hd.mono ?_; rintro e w1 ⟨v, rfl, rfl, rfl⟩) | (go_at_call 133; fail))
      refine hst.mono ?_
      rintro e w1 ⟨v, rfl, rfl, hS1⟩
      have c2 := hS1.cellAt 2 _ rfl
      have hcp := copied_c hS1.pick1
      go_wp2_with (go_at_call 89; go_must (refine hcp.mono ?_); rintro e w2 ⟨v, rfl, b', rfl, hS2⟩; have d1 := hS2.pick2.cellAt 1 _ rfl; have d3 := hS2.pick2.cellAt 3 _ rfl; have g1 := hS2.pick2.freeAt 1; have g3 := hS2.pick2.freeAt 3)
      go_ret
      refine ⟨errno 0, rfl, by rw [Hfin.out], ?_⟩
      rw [Hfin.out]
      have h5 := (hS2.pick2.set 1 (.map (some b'))).set 3 (.slice none 0 0)
      obtain ⟨e1, e2, e3, e4, e5⟩ := M.step_same
      refine MedRep.shut (bs := bs) (fb := b') (nb := nb) (wv := .slice none 0 0) (by simp only [e4]; exact hl) ?_
      have h6 : Sat w0 _ (osl 168 3 (.slice none 0 0) [] :: _ :: _ :: _ :: _ :: _ :: osl _ _ _ _ :: F) := Sat.osl_nil.2 h5
      unfold MedRaw
      simp only [e3, e4]
      exact h6.sel 7 [1, 3, 4, 2, 0] rfl rfl
  · rw [ho] at hd
    have Hfin : Hid (M.syncDir = (M, 12)) := by show _ = _; simp [Med.syncDir, ho]
    clear ho
    go_enter Tryz.func78, Tryz.ntmps78
    go_wp2_with (go_at_call 87; refine hd.mono ?_; rintro e w1 ⟨v, rfl, rfl, rfl⟩)
    go_ret
    exact ⟨errno 12, rfl, by rw [Hfin.out], by rw [Hfin.out]; exact h⟩
end
section
variable {w0 w : World} {F : List HProp} {m fb nb b r : Nat} {M : Med} {bs : List Nat} {wv v bv : Value} {s : ByteArray} {l : Names} {fs : List Fil} {K : Nat} {f : Fil}
theorem chgs_take : ∀ (ws : List (Chg × Value)) (i : Nat) (p : Chg × Value), ws[i]? = some p → ∃ G : HProp, chgs ws = star (bsl p.2 p.1.b) G
  | [], _, _, h => by cases h
  | q :: ws, 0, p, h => by
    simp at h; subst h
    exact ⟨chgs ws, rfl⟩
  | q :: ws, i + 1, p, h => by
    obtain ⟨G, hG⟩ := chgs_take ws i p (by simpa using h)
    refine ⟨star (bsl q.2 q.1.b) G, ?_⟩
    show star (bsl q.2 q.1.b) (chgs ws) = _
    rw [hG, star_left_comm]
theorem chg_cells (ws : List (Chg × Value)) (i : Nat) (p : Chg × Value) (h : ws[i]? = some p) :
    (ws.flatMap chgCells)[i * 3]? = some (.bool p.1.cut) ∧ (ws.flatMap chgCells)[i * 3 + 1]? = some (.int .i64 p.1.n) ∧ (ws.flatMap chgCells)[i * 3 + 2]? = some p.2 := by
  induction ws generalizing i with
  | nil => cases h
  | cons q ws ih =>
    cases i with
    | zero => simp at h; subst h; exact ⟨rfl, rfl, rfl⟩
    | succ i =>
      obtain ⟨h1, h2, h3⟩ := ih i (by simpa using h)
      have e : ∀ j, (List.flatMap chgCells (q :: ws))[(i + 1) * 3 + j]? = (List.flatMap chgCells ws)[i * 3 + j]? := by
        intro j
        rw [List.flatMap_cons, List.getElem?_append_right (by simp [chgCells]; omega)]
        congr 1
        simp [chgCells]; omega
      exact ⟨(e 0).trans h1, (e 1).trans h2, (e 2).trans h3⟩
theorem waits_cells {ws : List (Chg × Value)} {g n cap : Nat} (h : Sat w0 w (osl 246 3 (.slice (some ⟨g, 0, none⟩) n cap) (ws.flatMap chgCells) :: F)) {i : Nat} {p : Chg × Value} (hi : ws[i]? = some p) :
    w.cell? ⟨g, i * 3, none⟩ = some (.bool p.1.cut) ∧ w.cell? ⟨g, i * 3 + 1, none⟩ = some (.int .i64 p.1.n) ∧ w.cell? ⟨g, i * 3 + 2, none⟩ = some p.2 := by
  obtain ⟨h1, h2, h3⟩ := chg_cells ws i p hi
  rcases h.osl_cases with ⟨he, _⟩ | ⟨b, n', cap', cs, he, hl, hn, hc, hcm, htk, hp⟩
  · cases he
  · cases he
    exact ⟨hp.cellAt _ _ (take_get htk h1), hp.cellAt _ _ (take_get htk h2), hp.cellAt _ _ (take_get htk h3)⟩
theorem rdsl_take {ba : Option Addr} {n c : Nat} {cb : Bs} (h : rdsl 1 (.slice ba n c) (bys cb) w) {T : Nat} (hT : T ≤ n) (c' : Nat) : rdsl 1 (.slice ba T c') (bys (cb.take T)) w := by
  obtain ⟨a, n', c'', he, hl, hc⟩ := h
  cases he
  rw [bys_len, Nat.mul_one] at hl
  refine ⟨ba, T, c', rfl, by rw [bys_len, List.length_take]; omega, fun i x hi => ?_⟩
  rw [bys_take, List.getElem?_take] at hi
  split at hi
  · exact hc i x hi
  · cases hi
set_option maxHeartbeats 4000000 in
theorem crashF_c (hf : f.Ok K) (hK : K ≤ 1099511627776) (h : Sat w0 w (FilRep b f :: F)) (whole torn : Int) (hw : -9223372036854775808 ≤ whole ∧ whole ≤ 9223372036854775807) (ht : -9223372036854775808 ≤ torn ∧ torn ≤ 9223372036854775807) :
    Calls Tryz.prog 92 #[ptr b, .int .i64 whole, .int .i64 torn] w (Rtn fun _ w' => Sat w0 w' (FilRep b (f.crash whole torn) :: F)) := by
  obtain ⟨fv, nv, wv, ws, hws, hR⟩ := FilRep.open h
  obtain ⟨fa, fn, fc, rfl⟩ := bsl_shape (hR.sel 2 [1] rfl rfl)
  obtain ⟨na, nn, nc, rfl⟩ := bsl_shape (hR.sel 3 [2] rfl rfl)
  have hO := hR.sel 4 [3] rfl rfl
  obtain ⟨wa, wn, wc, rfl, hwn, _⟩ := id hO.rd
  have c0 := hR.cellAt 0 _ rfl
  have c1 := hR.cellAt 1 _ rfl
  have c2 := hR.cellAt 2 _ rfl
  have hwl : ws.length = f.waits.length := by rw [← hws]; simp
  have hlen : (ws.flatMap chgCells).length = f.waits.length * 3 := by
    rw [List.length_flatMap, ← hwl]; simp [chgCells, List.map_const']
  have hwn' : wn = f.waits.length := by omega
  have hcapO : wn ≤ wc ∧ wc ≤ 9223372036854775807 := by
    rcases hO.osl_cases with ⟨he, _⟩ | ⟨b, n', cap', cs, he, _, hn, _, hcm, _, _⟩
    · cases he; omega
    · cases he; exact ⟨hn, hcm⟩
  obtain ⟨hc1, hc2⟩ := hcapO
  obtain ⟨N, hNd⟩ : ∃ N, N = clampN whole wn := ⟨_, rfl⟩
  have hNle : N ≤ wn := by rw [hNd]; exact clampN_le _ _
  have hN : min (max whole 0) (wn : Int) = (N : Int) := by rw [hNd]; unfold clampN; omega
  have hbud := hf.budget
  have hNc : (N : Int) ≤ (wc : Int) := by omega
  have hN0 : (0 : Int) ≤ (N : Int) := by omega
  subst hwn'
  have Hwl := Lib.hid hwl; have Hws := Lib.hid hws; have HNd := Lib.hid hNd; have Hf := Lib.hid hf; have HO := Lib.hid hO
  clear hwl hws hNd hf hlen hwn hO
  go_enter Tryz.func92, Tryz.ntmps92
  go_wp2
  go_loopg [6, 29] N (fun g bq iq wr => ∃ (k : Nat) (xa : Option Addr) (xn xc : Nat), g = N - k ∧ k ≤ N ∧ iq = .int .i64 k ∧ bq = .slice xa xn xc ∧
    Sat w0 wr (bsl (.slice xa xn xc) (f.at k) :: filPt b (.slice fa fn fc) (.slice na nn nc) (.slice wa f.waits.length wc) :: osl 246 3 (.slice wa f.waits.length wc) (ws.flatMap chgCells) :: chgs ws :: F))
  case atStart => exact ⟨0, fa, fn, fc, rfl, Nat.zero_le _, rfl, rfl, hR.sel 5 [1, 0, 3, 4] rfl rfl⟩
  case round =>
    obtain ⟨k, xa, xn, xc, rfl, hkN, rfl, rfl, hS⟩ := hrel
    by_cases hk : k < N
    · obtain ⟨p, hp⟩ : ∃ p, ws[k]? = some p := ⟨ws[k]'(by have := Hwl.out; omega), List.getElem?_eq_getElem _⟩
      have hpw : f.waits[k]? = some p.1 := by rw [← Hws.out, List.getElem?_map, hp]; rfl
      obtain ⟨G, hG⟩ := chgs_take ws k p hp
      have hS' := hS
      rw [hG] at hS'
      have hS2 : Sat w0 wr (bsl p.2 p.1.b :: G :: bsl (.slice xa xn xc) (f.at k) :: filPt b (.slice fa fn fc) (.slice na nn nc) (.slice wa f.waits.length wc) :: osl 246 3 (.slice wa f.waits.length wc) (ws.flatMap chgCells) :: F) := Sat.star.1 hS'.pick3
      obtain ⟨ba, bn, bc, hpb⟩ := bsl_shape hS2
      have hok : chgOk p.1 (f.at k) := by
        refine ⟨fun hc => Hf.out.cuts k p.1 hpw hc, fun hc => ?_⟩
        have h1 := Hf.out.size (k + 1) (by omega)
        rw [f.at_succ k p.1 hpw] at h1
        simp only [Chg.on, hc] at h1
        simp at h1; omega
      have hsucc : f.at (k + 1) = p.1.on (f.at k) := f.at_succ k p.1 hpw
      have hshape : ∃ g, wa = some ⟨g, 0, none⟩ := by
        rcases (Sat.osl_cases HO.out) with ⟨he, hx, _⟩ | ⟨g, n', cap', cs, he, _⟩
        · have := (Value.slice.inj he).2.1; omega
        · exact ⟨g, (Value.slice.inj he).1⟩
      obtain ⟨g, rfl⟩ := hshape
      obtain ⟨w0', w1', w2'⟩ := waits_cells (hS2.sel 5 [4] rfl rfl) hp
      obtain ⟨⟨cut, cn, cb⟩, pv⟩ := p
      simp only at hpb hS2 hok hsucc w0' w1' w2' hG
      subst hpb
      have hb : Sat w0 (wr.alloc (.cells #[.bool cut, .int .i64 cn, .slice ba bn bc] 246)) _ := hS2.alloc _
      have e0 := hb.cellAt 0 _ rfl
      have e1 := hb.cellAt 1 _ rfl
      have e2 := hb.cellAt 2 _ rfl
      have hon := chgon_c (bv := .slice ba bn bc) ⟨cut, cn, cb⟩ (hb.sel 4 [3, 1, 2] rfl rfl) (fun w hw => Sat.rd hw) ⟨_, _, _, rfl⟩ hok
      have Hsucc := Lib.hid hsucc; have HG := Lib.hid hG
      clear hsucc hG hok hpw hp hS'
      unfold chgV at hon
      have hkc : (k : Int) < (N : Int) := by omega
      go_wp2_with (go_at_call 141; go_must (refine hon.mono ?_); rintro e w2 ⟨v2, rfl, hS3, a3, n3, k3, rfl⟩)
      go_roundg (N - (k + 1))
      case measure => omega
      case rel =>
        refine ⟨k + 1, a3, n3, k3, rfl, by omega, by go_num, rfl, ?_⟩
        rw [Hsucc.out]
        have h9 : Sat w0 _ (bsl _ cb :: G :: bsl _ _ :: filPt b _ _ _ :: osl _ _ _ _ :: F) := hS3.sel 3 [1, 2, 0] rfl rfl
        have h10 := Sat.star.2 h9
        rw [← HG.out] at h10
        exact h10.sel 4 [1, 2, 3, 0] rfl rfl
    · obtain rfl : k = N := by omega
      have hatl := Hf.out.size k hNle
      have hleft : f.left whole torn = match f.waits[k]? with | some c => if c.cut then f.at k else f.at k ++ c.b.take (clampN torn c.b.length) | none => f.at k := by
        unfold Fil.left; rw [← HNd.out]; rfl
      have Hl0 := Lib.hid hleft; clear hleft
      by_cases hlt : k < f.waits.length
      · obtain ⟨p, hp⟩ : ∃ p, ws[k]? = some p := ⟨ws[k]'(by have := Hwl.out; omega), List.getElem?_eq_getElem _⟩
        have hpw : f.waits[k]? = some p.1 := by rw [← Hws.out, List.getElem?_map, hp]; rfl
        obtain ⟨G, hG⟩ := chgs_take ws k p hp
        have hS' := hS
        rw [hG] at hS'
        have hS2 : Sat w0 wr (bsl p.2 p.1.b :: G :: bsl (.slice xa xn xc) (f.at k) :: filPt b (.slice fa fn fc) (.slice na nn nc) (.slice wa f.waits.length wc) :: osl 246 3 (.slice wa f.waits.length wc) (ws.flatMap chgCells) :: F) := Sat.star.1 hS'.pick3
        obtain ⟨ba, bn, bc, hpb⟩ := bsl_shape hS2
        have hshape : ∃ g, wa = some ⟨g, 0, none⟩ := by
          rcases (Sat.osl_cases HO.out) with ⟨he, hx, _⟩ | ⟨g, n', cap', cs, he, _⟩
          · have := (Value.slice.inj he).2.1; omega
          · exact ⟨g, (Value.slice.inj he).1⟩
        obtain ⟨g, rfl⟩ := hshape
        obtain ⟨w0', w1', w2'⟩ := waits_cells (hS2.sel 5 [4] rfl rfl) hp
        have d2 := hS2.pick3.cellAt 2 _ rfl
        have hnext := Hf.out.size (k + 1) (by omega)
        rw [f.at_succ k p.1 hpw] at hnext
        obtain ⟨⟨cut, cn, cb⟩, pv⟩ := p
        simp only at hpb hS2 w0' w1' w2' hG hpw hnext
        subst hpb
        have hkc : (k : Int) < (f.waits.length : Int) := by omega
        have Hhn := Lib.hid hnext; clear hnext
        clear hG hS' hp
        cases cut
        · have hbcap : bn ≤ bc ∧ bc ≤ 9223372036854775807 ∧ bn = cb.length := by
            rcases hS2.osl_cases with ⟨he, hx, _⟩ | ⟨b, n', cap', cs, he, hl, hn, _, hcm, _, _⟩
            · cases he; have : (bys cb).length = 0 := by rw [hx]; rfl
              rw [bys_len] at this; omega
            · cases he; rw [bys_len] at hl; exact ⟨hn, hcm, by omega⟩
          obtain ⟨hb1, hb2, rfl⟩ := hbcap
          obtain ⟨T, hTd⟩ : ∃ T, T = clampN torn cb.length := ⟨_, rfl⟩
          have hTle : T ≤ cb.length := by rw [hTd]; exact clampN_le _ _
          have hT : min (max torn 0) (cb.length : Int) = (T : Int) := by rw [hTd]; unfold clampN; omega
          have hTc : (T : Int) ≤ (bc : Int) := by omega
          have hT0 : (0 : Int) ≤ (T : Int) := by omega
          have hleft : f.left whole torn = f.at k ++ cb.take T := by rw [Hl0.out, hpw, hTd]; rfl
          have Hleft := Lib.hid hleft
          clear hleft hTd hpw
          have hnext := Hhn.out
          simp only [Chg.on, Bool.false_eq_true, if_false, List.length_append] at hnext
          obtain ⟨i, hi, hz0, hz1, hz2⟩ := info8p
          have hb : Sat w0 (wr.alloc (.cells #[.bool false, .int .i64 cn, .slice ba cb.length bc] 246)) _ := hS2.alloc _
          have e2 := hb.cellAt 2 _ rfl
          have hcl := clone_c hb.drew (hb.drew.pick3.rd) (by omega)
          have h63 : (bys (f.at k)).length + (bys (cb.take T)).length ≤ maxLen := by rw [bys_len, bys_len, List.length_take]; unfold maxLen; omega
          have hby : ((bys (f.at k)).length + (bys (cb.take T)).length) * i.bytes ≤ 140737488355328 := by rw [bys_len, bys_len, List.length_take, hz2]; omega
          go_wp2
          refine wpL_begin [11, 12] (fun w' => w'.cell? ⟨wr.heap.size, 2, none⟩ = some (.slice ba cb.length bc)) (by kernel_rfl) ?_
          have hG := e2
          refine wpL_pure (i := 0) (v := ?_) rfl (by kernel_rfl) (fun _ _ _ h => h) (Or.inl ⟨by rfl, ?_⟩) ?_; rotate_left; focus ((intro wq; go_simp); first | done | (with_reducible rfl))
          refine wpL_pure (i := 2) (v := ?_) rfl (by kernel_rfl) (fun _ _ _ h => h) (Or.inl ⟨by rfl, ?_⟩) ?_; rotate_left; focus ((intro wq; go_simp); first | done | (with_reducible rfl))
          refine wpL_take (i := 3) (v := ?_) rfl (by kernel_rfl) (fun _ _ _ h => h) (Or.inl ⟨by rfl, ?_⟩) (by assumption) ?_; rotate_left; focus ((intro wq hq; go_split_ands; go_simp); first | done | (with_reducible rfl))
          refine wpL_pure (i := 4) (v := ?_) rfl (by kernel_rfl) (fun _ _ _ h => h) (Or.inl ⟨by rfl, ?_⟩) ?_; rotate_left; focus ((intro wq; go_simp); first | done | (with_reducible rfl))
          refine wpL_pure (i := 5) (v := ?_) rfl (by kernel_rfl) (fun _ _ _ h => h) (Or.inl ⟨by rfl, ?_⟩) ?_; rotate_left; focus ((intro wq; go_simp); first | done | (with_reducible rfl))
          refine wpL_pure (i := 6) (v := ?_) rfl (by kernel_rfl) (fun _ _ _ h => h) (Or.inl ⟨by rfl, ?_⟩) ?_; rotate_left; focus ((intro wq; go_simp); first | done | (with_reducible rfl))
          refine wpL_take (i := 7) (v := ?_) rfl (by kernel_rfl) (fun _ _ _ h => h) (Or.inl ⟨by rfl, ?_⟩) (by assumption) ?_; rotate_left; focus ((intro wq hq; go_split_ands; go_simp); first | done | (with_reducible rfl))
          refine wpL_pure (i := 8) (v := ?_) rfl (by kernel_rfl) (fun _ _ _ h => h) (Or.inl ⟨by rfl, ?_⟩) ?_; rotate_left; focus ((intro wq; go_simp); first | done | (with_reducible rfl))
          refine wpL_pure (i := 9) (v := ?_) rfl (by kernel_rfl) (fun _ _ _ h => h) (Or.inl ⟨by rfl, ?_⟩) ?_; rotate_left; focus ((intro wq; go_simp); first | done | (with_reducible rfl))
          refine wpL_pure (i := 10) (v := ?_) rfl (by kernel_rfl) (fun _ _ _ h => h) (Or.inl ⟨by rfl, ?_⟩) ?_; rotate_left; focus ((intro wq; go_simp); first | done | (with_reducible rfl))
          refine wpL_eff (i := 1) rfl (by kernel_rfl) (fun K hK => ?_)
          go_simp
          refine hcl.mono ?_
          rintro e w2 ⟨v1, rfl, hS3, a1, n1, k1, rfl⟩
          refine hK _ _ (.inr (.inl (hS3.pick1.cellAt 2 _ rfl))) ?_
          clear hK
          refine wpL_eff (i := 11) rfl (by kernel_rfl) (fun K hK => ?_)
          have hrd := rdsl_take (hS3.pick2.rd) hTle bc
          refine step_append (w0 := w0) (by rfl) _ _ _ (by rfl) _ i _ Tryz.underlying42 hi hz0 hz1 (by rfl) (by omega) (by rfl) (by rfl) (bys_one _) hS3 hrd h63 hby ?_
          intro v2 w3 hS4 _
          refine hK _ _ (.inl rfl) ?_
          clear hK
          refine wpL_pure (i := 12) (v := ?_) rfl (by kernel_rfl) (fun _ _ _ h => h) (Or.inl ⟨by rfl, ?_⟩) ?_; rotate_left; focus ((intro wq; go_simp); first | done | (with_reducible rfl))
          refine wpL_done (by kernel_rfl) ?_
          obtain ⟨xa2, xn2, xc2, rfl, _⟩ := id hS4.rd
          have hX : Sat w0 w3 (bsl (.slice xa2 xn2 xc2) (f.at k ++ cb.take T) :: filPt b (.slice fa fn fc) (.slice na nn nc) (.slice (some ⟨g, 0, none⟩) f.waits.length wc) :: F) := by
            unfold bsl; rw [bys_append]; exact hS4.sel 7 [0, 5] rfl rfl
          have hXl : (f.at k ++ cb.take T).length ≤ 16777216 := by simp; omega
          have hcl := clone_c hX hX.rd (by omega)
          go_wp2_with (go_at_call 134; go_must (refine hcl.mono ?_); rintro e w9 ⟨v9, rfl, hS9, a9, n9, k9, rfl⟩; have g0 := hS9.pick2.freeAt 0; have g1 := hS9.pick2.freeAt 1; have g2 := hS9.pick2.freeAt 2; have d0 := hS9.pick2.cellAt 0 _ rfl; have d1 := hS9.pick2.cellAt 1 _ rfl; have d2 := hS9.pick2.cellAt 2 _ rfl)
          go_end0
          refine ⟨_, rfl, ?_⟩
          have h5 := ((hS9.pick2.set 0 (.slice xa2 xn2 xc2)).set 1 (.slice a9 n9 k9)).set 2 (.slice none 0 0)
          unfold Fil.crash
          rw [Hleft.out]
          refine FilRep.shut (fv := .slice xa2 xn2 xc2) (nv := .slice a9 n9 k9) (wv := .slice none 0 0) (ws := []) rfl ?_
          have h6 : Sat w0 _ (osl 246 3 (.slice none 0 0) [] :: chgs [] :: _ :: bsl _ _ :: bsl _ _ :: F) := Sat.osl_nil.2 (Sat.emp.2 (h5.sel 3 [0, 1, 2] rfl rfl))
          exact h6.sel 5 [2, 4, 3, 0, 1] rfl rfl

        · have hleft : f.left whole torn = f.at k := by rw [Hl0.out, hpw]; rfl
          have Hleft := Lib.hid hleft
          clear hleft hpw
          have hX : Sat w0 wr (bsl (.slice xa xn xc) (f.at k) :: filPt b (.slice fa fn fc) (.slice na nn nc) (.slice (some ⟨g, 0, none⟩) f.waits.length wc) :: F) := hS.sel 4 [0, 1] rfl rfl
          have hXl := hatl
          have hcl := clone_c hX hX.rd (by omega)
          go_wp2_with (go_at_call 134; go_must (refine hcl.mono ?_); rintro e w9 ⟨v9, rfl, hS9, a9, n9, k9, rfl⟩; have g0 := hS9.pick2.freeAt 0; have g1 := hS9.pick2.freeAt 1; have g2 := hS9.pick2.freeAt 2; have d0 := hS9.pick2.cellAt 0 _ rfl; have d1 := hS9.pick2.cellAt 1 _ rfl; have d2 := hS9.pick2.cellAt 2 _ rfl)
          go_end0
          refine ⟨_, rfl, ?_⟩
          have h5 := ((hS9.pick2.set 0 (.slice xa xn xc)).set 1 (.slice a9 n9 k9)).set 2 (.slice none 0 0)
          unfold Fil.crash
          rw [Hleft.out]
          refine FilRep.shut (fv := .slice xa xn xc) (nv := .slice a9 n9 k9) (wv := .slice none 0 0) (ws := []) rfl ?_
          have h6 : Sat w0 _ (osl 246 3 (.slice none 0 0) [] :: chgs [] :: _ :: bsl _ _ :: bsl _ _ :: F) := Sat.osl_nil.2 (Sat.emp.2 (h5.sel 3 [0, 1, 2] rfl rfl))
          exact h6.sel 5 [2, 4, 3, 0, 1] rfl rfl

      · have hke : k = f.waits.length := by omega
        have hleft : f.left whole torn = f.at k := by rw [Hl0.out, List.getElem?_eq_none (by omega)]
        have Hleft := Lib.hid hleft
        clear hleft hke
        have hkc : ¬ (k : Int) < (f.waits.length : Int) := by omega
        have hkd : decide ((k : Int) < (f.waits.length : Int)) = false := by rw [decide_eq_false_iff_not]; exact hkc
        have d2 := hS.pick1.cellAt 2 _ rfl
        have hX : Sat w0 wr (bsl (.slice xa xn xc) (f.at k) :: filPt b (.slice fa fn fc) (.slice na nn nc) (.slice wa f.waits.length wc) :: F) := hS.sel 4 [0, 1] rfl rfl
        have hXl := hatl
        have hcl := clone_c hX hX.rd (by omega)
        go_wp2_with (go_at_call 134; go_must (refine hcl.mono ?_); rintro e w9 ⟨v9, rfl, hS9, a9, n9, k9, rfl⟩; have g0 := hS9.pick2.freeAt 0; have g1 := hS9.pick2.freeAt 1; have g2 := hS9.pick2.freeAt 2; have d0 := hS9.pick2.cellAt 0 _ rfl; have d1 := hS9.pick2.cellAt 1 _ rfl; have d2 := hS9.pick2.cellAt 2 _ rfl)
        go_end0
        refine ⟨_, rfl, ?_⟩
        have h5 := ((hS9.pick2.set 0 (.slice xa xn xc)).set 1 (.slice a9 n9 k9)).set 2 (.slice none 0 0)
        unfold Fil.crash
        rw [Hleft.out]
        refine FilRep.shut (fv := .slice xa xn xc) (nv := .slice a9 n9 k9) (wv := .slice none 0 0) (ws := []) rfl ?_
        have h6 : Sat w0 _ (osl 246 3 (.slice none 0 0) [] :: chgs [] :: _ :: bsl _ _ :: bsl _ _ :: F) := Sat.osl_nil.2 (Sat.emp.2 (h5.sel 3 [0, 1, 2] rfl rfl))
        exact h6.sel 5 [2, 4, 3, 0, 1] rfl rfl

end
section
variable {w0 w : World} {F : List HProp} {m fb nb b r : Nat} {M : Med} {bs : List Nat} {wv v bv lv : Value} {s : ByteArray} {fs : List Fil} {K : Nat} {f : Fil}
def ints (l : List Int) : List Value := l.map (.int .i64)
def inI (x : Int) : Prop := -9223372036854775808 ≤ x ∧ x ≤ 9223372036854775807
def nxs : Value → Value
  | .slice a (n + 1) c => .slice (if c = 1 then a else a.map (·.add 1)) n (c - 1)
  | v => v
def nxv (v : Value) : Nat → Value
  | 0 => v
  | j + 1 => nxs (nxv v j)
def capOk (v : Value) : Prop := ∃ a n c, v = .slice a n c ∧ n ≤ c ∧ c ≤ 9223372036854775807
theorem capOk.nxs {v : Value} (h : capOk v) : capOk (nxs v) := by
  obtain ⟨a, n, c, rfl, h1, h2⟩ := h
  cases n with
  | zero => exact ⟨a, 0, c, rfl, h1, h2⟩
  | succ n => exact ⟨_, n, c - 1, rfl, by omega, by omega⟩
theorem capOk.nxv {v : Value} (h : capOk v) : ∀ j, capOk (nxv v j)
  | 0 => h
  | j + 1 => (h.nxv j).nxs
theorem rdsl_nxs {v : Value} {xs : List Value} (h : rdsl 1 v xs w) (hc : capOk v) : rdsl 1 (nxs v) (xs.drop 1) w := by
  obtain ⟨a, n, c, rfl, h1, h2⟩ := hc
  cases n with
  | zero =>
    obtain ⟨a', n', c', he, hl, hx⟩ := h
    cases he
    have : xs = [] := List.eq_nil_of_length_eq_zero (by omega)
    subst this
    exact ⟨a, 0, c, rfl, rfl, by simp⟩
  | succ n =>
    have hlen : xs.length = n + 1 := by obtain ⟨a', n', c', he, hl, hx⟩ := h; cases he; omega
    have := rdsl_slice h (lo := 1) (k := n) (by omega) (if c = 1 then a else a.map (·.add 1)) rfl h1 (c - 1)
    rw [List.take_of_length_le (by simp; omega)] at this
    exact this
theorem rdsl_nxv {v : Value} {l : List Int} (h : rdsl 1 v (ints l) w) (hc : capOk v) : ∀ j, rdsl 1 (nxv v j) (ints (l.drop j)) w
  | 0 => h
  | j + 1 => by
    have := rdsl_nxs (rdsl_nxv h hc j) (hc.nxv j)
    unfold ints at this
    rw [← List.map_drop, List.drop_drop] at this
    exact this
theorem num_drop (l : List Int) (j : Nat) : num (l.drop j) 0 = num l j := by
  unfold num
  rw [List.getD_eq_getElem?_getD, List.getElem?_drop, List.getD_eq_getElem?_getD]; rfl
theorem num_in {l : List Int} (h : ∀ x ∈ l, inI x) (j : Nat) : inI (num l j) := by
  unfold num
  rw [List.getD_eq_getElem?_getD]
  cases hj : l[j]? with
  | none => exact ⟨by simp, by simp⟩
  | some x => exact h x (List.mem_of_getElem? hj)
set_option maxHeartbeats 2000000 in
theorem next_c (l : List Int) (h : Sat w0 w (pt b (.cells #[bv] 45 (0,0)) :: F)) (hr : rdsl 1 bv (ints l) w) (hc : capOk bv) :
    Calls Tryz.prog 88 #[ptr b] w (Rtn fun v w' => v = .int .i64 (num l 0) ∧ Sat w0 w' (pt b (.cells #[nxs bv] 45 (0,0)) :: F)) := by
  obtain ⟨a, n, c, rfl, h1, h2⟩ := hc
  have c0 := h.cellAt 0 _ rfl
  have f0 := h.freeAt 0
  obtain ⟨a', n', c', he, hlen, hcell⟩ := hr
  cases he
  have hlen' : n = l.length := by unfold ints at hlen; simpa using hlen.symm
  cases l with
  | nil =>
    simp at hlen'; subst hlen'
    clear hcell hlen
    go_enter Tryz.func88, Tryz.ntmps88
    go_wp2
    go_ret
    exact ⟨.int .i64 0, rfl, rfl, h⟩
  | cons x l =>
    obtain rfl : n = l.length + 1 := by simpa using hlen'
    obtain ⟨p, rfl, hx⟩ := hcell 0 (.int .i64 x) rfl
    rw [show p.add 0 = p from by unfold Addr.add; simp] at hx
    clear hcell hlen hlen'
    have hS0 := h
    clear h
    have hz : ((l.length : Int) + 1 == 0) = false := by rw [beq_eq_false_iff_ne]; omega
    go_enter Tryz.func88, Tryz.ntmps88
    go_wp2_with fail
    · go_ret
      have e : nxs (.slice (some p) (l.length + 1) 1) = .slice (some p) l.length 0 := by simp [nxs]
      exact ⟨.int .i64 x, rfl, rfl, by subst_vars; rw [e]; exact hS0.set 0 _⟩
    · go_ret
      have hc1 : ¬ c = 1 := by assumption
      have e : nxs (.slice (some p) (l.length + 1) c) = .slice (some ⟨p.block, p.off + 1, none⟩) l.length (c - 1) := by simp [nxs, hc1, Addr.add]
      exact ⟨.int .i64 x, rfl, rfl, by rw [e]; exact hS0.set 0 _⟩
end
section
variable {w0 w : World} {F : List HProp} {m fb nb b r : Nat} {M : Med} {bs : List Nat} {wv v bv lv : Value} {s : ByteArray} {fs : List Fil} {f : Fil}
theorem lnk_cells (bs : List Nat) (ws : List Lnk) (i : Nat) (p : Lnk) (h : ws[i]? = some p) :
    (ws.flatMap (lnkCells bs))[i * 3]? = some (.string p.fr) ∧ (ws.flatMap (lnkCells bs))[i * 3 + 1]? = some (.string p.to) ∧ (ws.flatMap (lnkCells bs))[i * 3 + 2]? = some (lnkPtr bs p) := by
  induction ws generalizing i with
  | nil => cases h
  | cons q ws ih =>
    cases i with
    | zero => simp at h; subst h; exact ⟨rfl, rfl, rfl⟩
    | succ i =>
      obtain ⟨h1, h2, h3⟩ := ih i (by simpa using h)
      have e : ∀ j, (List.flatMap (lnkCells bs) (q :: ws))[(i + 1) * 3 + j]? = (List.flatMap (lnkCells bs) ws)[i * 3 + j]? := by
        intro j
        rw [List.flatMap_cons, List.getElem?_append_right (by simp [lnkCells]; omega)]
        congr 1
        simp [lnkCells]; omega
      exact ⟨(e 0).trans h1, (e 1).trans h2, (e 2).trans h3⟩
theorem lwaits_cells {ws : List Lnk} {g n cap : Nat} (h : Sat w0 w (osl 168 3 (.slice (some ⟨g, 0, none⟩) n cap) (ws.flatMap (lnkCells bs)) :: F)) {i : Nat} {p : Lnk} (hi : ws[i]? = some p) :
    w.cell? ⟨g, i * 3, none⟩ = some (.string p.fr) ∧ w.cell? ⟨g, i * 3 + 1, none⟩ = some (.string p.to) ∧ w.cell? ⟨g, i * 3 + 2, none⟩ = some (lnkPtr bs p) := by
  obtain ⟨h1, h2, h3⟩ := lnk_cells bs ws i p hi
  rcases h.osl_cases with ⟨he, _⟩ | ⟨b, n', cap', cs, he, hl, hn, hc, hcm, htk, hp⟩
  · cases he
  · cases he
    exact ⟨hp.cellAt _ _ (take_get htk h1), hp.cellAt _ _ (take_get htk h2), hp.cellAt _ _ (take_get htk h3)⟩
theorem crashFiles_snoc (l : List Int) : ∀ (ns : Names) (p : ByteArray × Nat) (j : Nat) (fs : List Fil),
    crashFiles l (ns ++ [p]) j fs = (crashFiles l ns j fs).set p.2 (((crashFiles l ns j fs).getD p.2 Fil.new).crash (num l (j + 2 * ns.length)) (num l (j + 2 * ns.length + 1)))
  | [], p, j, fs => rfl
  | q :: ns, p, j, fs => by
    show crashFiles l (ns ++ [p]) (j + 2) _ = _
    rw [crashFiles_snoc l ns p (j + 2) _]
    have e : j + 2 + 2 * ns.length = j + 2 * (q :: ns).length := by simp; omega
    rw [e]; rfl
theorem lastNames_succ (M : Med) (k : Nat) (x : Lnk) (h : M.waits[k]? = some x) : M.lastNames (k + 1) = x.on (M.lastNames k) := by
  unfold Med.lastNames
  rw [List.take_add_one, h, List.foldl_append]; rfl
set_option maxHeartbeats 8000000 in
theorem crash_c {KK : Nat} (hM : M.Ok KK) (hKK : KK ≤ 1099511627776) (h : Sat w0 w (MedRep m M :: F)) (l : List Int) (hr : Ro w0 F (rdsl 1 lv (ints l))) (hcap : capOk lv) (hi : ∀ x ∈ l, inI x) :
    Calls Tryz.prog 29 #[ptr m, lv] w (Rtn fun _ w' => Sat w0 w' (MedRep m (M.crash l) :: F)) := by
  obtain ⟨bs, fb, nb, wv, hl, hR⟩ := MedRep.open h
  have hO := hR.sel 5 [4] rfl rfl
  obtain ⟨wa, wn, wc, rfl, hwn, _⟩ := id hO.rd
  have hlen : (M.waits.flatMap (lnkCells bs)).length = M.waits.length * 3 := by
    rw [List.length_flatMap]; simp [lnkCells, List.map_const']
  have hwn' : wn = M.waits.length := by omega
  have hcapO : wn ≤ wc ∧ wc ≤ 9223372036854775807 := by
    rcases hO.osl_cases with ⟨he, _⟩ | ⟨b, n', cap', cs, he, _, hn, _, hcm, _, _⟩
    · cases he; omega
    · cases he; exact ⟨hn, hcm⟩
  obtain ⟨hc1, hc2⟩ := hcapO
  obtain ⟨N, hNd⟩ : ∃ N, N = clampN (num l 0) wn := ⟨_, rfl⟩
  have hNle : N ≤ wn := by rw [hNd]; exact clampN_le _ _
  have hN : min (max (num l 0) 0) (wn : Int) = (N : Int) := by rw [hNd]; unfold clampN; omega
  have hbud := hM.budget
  have hNc : (N : Int) ≤ (wc : Int) := by omega
  have hN0 : (0 : Int) ≤ (N : Int) := by omega
  subst hwn'
  obtain ⟨la, ln, lc, rfl, hlc1, hlc2⟩ := id hcap
  have hb : Sat w0 (w.alloc (.cells #[.slice la ln lc] 45)) _ := hR.alloc _
  have c1 := hb.pick1.cellAt 1 _ rfl
  have c2 := hb.pick1.cellAt 2 _ rfl
  have c3 := hb.pick1.cellAt 3 _ rfl
  have hcp := copied_c (hb.sel 6 [4, 0, 1, 2, 3, 5] rfl rfl)
  have HNd := Lib.hid hNd; have HM := Lib.hid hM; have Hr := Lib.hid hr; have Hi := Lib.hid hi; have Hcap := Lib.hid hcap
  clear hlen hwn hNd hM hr hi hcap hO
  go_enter Tryz.func29, Tryz.ntmps29
  go_wp2_with (go_at_call 89; refine hcp.mono ?_; rintro e w1 ⟨v, rfl, b', rfl, hS1⟩)
  clear hcp c1 c2 c3 hb
  generalize w.heap.size = cb at *
  have hS : Sat w0 w1 (pt cb (.cells #[.slice la ln lc] 45 (0,0)) :: omap .string b' (mapL bs M.fast) :: omap .string fb (mapL bs M.fast) :: medPt m M fb nb (.slice wa M.waits.length wc) :: omap .string nb (mapL bs M.now) :: filesRep bs M.files :: osl 168 3 (.slice wa M.waits.length wc) (M.waits.flatMap (lnkCells bs)) :: F) := hS1.sel 7 [2, 0, 1, 3, 4, 5, 6] rfl rfl
  clear hS1
  have d3 := hS.pick3.cellAt 3 _ rfl
  have hnx := next_c (F := omap .string b' (mapL bs M.fast) :: omap .string fb (mapL bs M.fast) :: medPt m M fb nb (.slice wa M.waits.length wc) :: omap .string nb (mapL bs M.now) :: filesRep bs M.files :: osl 168 3 (.slice wa M.waits.length wc) (M.waits.flatMap (lnkCells bs)) :: F) l hS.drew (Hr.out _ hS.drew.drop.drop.drop.drop.drop.drop.drop) Hcap.out
  refine wpL_begin [13, 14] (fun w' => w'.cell? ⟨m, 3, none⟩ = some (.slice wa M.waits.length wc)) (by kernel_rfl) ?_
  have hG := d3
  refine wpL_pure (i := 0) (v := ?_) rfl (by kernel_rfl) (fun _ _ _ h => h) (Or.inl ⟨by rfl, ?_⟩) ?_; rotate_left; focus ((intro wq; go_simp); first | done | (with_reducible rfl))
  refine wpL_pure (i := 1) (v := ?_) rfl (by kernel_rfl) (fun _ _ _ h => h) (Or.inl ⟨by rfl, ?_⟩) ?_; rotate_left; focus ((intro wq; go_simp); first | done | (with_reducible rfl))
  refine wpL_pure (i := 2) (v := ?_) rfl (by kernel_rfl) (fun _ _ _ h => h) (Or.inl ⟨by rfl, ?_⟩) ?_; rotate_left; focus ((intro wq; go_simp); first | done | (with_reducible rfl))
  refine wpL_take (i := 3) (v := ?_) rfl (by kernel_rfl) (fun _ _ _ h => h) (Or.inl ⟨by rfl, ?_⟩) (by assumption) ?_; rotate_left; focus ((intro wq hq; go_split_ands; go_simp); first | done | (with_reducible rfl))
  refine wpL_pure (i := 4) (v := ?_) rfl (by kernel_rfl) (fun _ _ _ h => h) (Or.inl ⟨by rfl, ?_⟩) ?_; rotate_left; focus ((intro wq; go_simp); first | done | (with_reducible rfl))
  refine wpL_pure (i := 7) (v := ?_) rfl (by kernel_rfl) (fun _ _ _ h => h) (Or.inl ⟨by rfl, ?_⟩) ?_; rotate_left; focus ((intro wq; go_simp); first | done | (with_reducible rfl))
  refine wpL_pure (i := 8) (v := ?_) rfl (by kernel_rfl) (fun _ _ _ h => h) (Or.inl ⟨by rfl, ?_⟩) ?_; rotate_left; focus ((intro wq; go_simp); first | done | (with_reducible rfl))
  refine wpL_pure (i := 9) (v := ?_) rfl (by kernel_rfl) (fun _ _ _ h => h) (Or.inl ⟨by rfl, ?_⟩) ?_; rotate_left; focus ((intro wq; go_simp); first | done | (with_reducible rfl))
  refine wpL_take (i := 10) (v := ?_) rfl (by kernel_rfl) (fun _ _ _ h => h) (Or.inl ⟨by rfl, ?_⟩) (by assumption) ?_; rotate_left; focus ((intro wq hq; go_split_ands; go_simp); first | done | (with_reducible rfl))
  refine wpL_pure (i := 11) (v := ?_) rfl (by kernel_rfl) (fun _ _ _ h => h) (Or.inl ⟨by rfl, ?_⟩) ?_; rotate_left; focus ((intro wq; go_simp); first | done | (with_reducible rfl))
  refine wpL_pure (i := 15) (v := ?_) rfl (by kernel_rfl) (fun _ _ _ h => h) (Or.inl ⟨by rfl, ?_⟩) ?_; rotate_left; focus ((intro wq; go_simp); first | done | (with_reducible rfl))
  refine wpL_eff (i := 5) rfl (by kernel_rfl) (fun K hK => ?_)
  go_simp
  refine hnx.mono ?_
  clear hnx
  rintro e w2 ⟨v, rfl, rfl, hS2⟩
  refine hK _ _ (.inr (.inl (hS2.pick3.cellAt 3 _ rfl))) ?_
  clear hK
  refine wpL_pure (i := 6) (v := ?_) rfl (by kernel_rfl) (fun _ _ _ h => h) (Or.inl ⟨by rfl, ?_⟩) ?_; rotate_left; focus ((intro wq; go_simp); first | done | (with_reducible rfl))
  refine wpL_pure (i := 12) (v := ?_) rfl (by kernel_rfl) (fun _ _ _ h => h) (Or.inl ⟨by rfl, ?_⟩) ?_; rotate_left; focus ((intro wq; go_simp); first | done | (with_reducible rfl))
  refine wpL_pure (i := 13) (v := ?_) rfl (by kernel_rfl) (fun _ _ _ h => h) (Or.inl ⟨by rfl, ?_⟩) ?_; rotate_left; focus ((intro wq; go_simp); first | done | (with_reducible rfl))
  refine wpL_pure (i := 14) (v := ?_) rfl (by kernel_rfl) (fun _ _ _ h => h) (Or.inl ⟨by rfl, ?_⟩) ?_; rotate_left; focus ((intro wq; go_simp); first | done | (with_reducible rfl))
  refine wpL_done (by kernel_rfl) ?_
  clear hG d3 hS
  go_wp2
  simp only [List.getElem_toArray, List.getElem_cons_succ, List.getElem_cons_zero]
  go_frame
  go_loopg [41] N (fun g iq wr => ∃ k : Nat, g = N - k ∧ k ≤ N ∧ iq = .int .i64 k ∧
    Sat w0 wr (omap .string b' (mapL bs (M.lastNames k)) :: pt cb (.cells #[nxs (.slice la ln lc)] 45 (0,0)) :: omap .string fb (mapL bs M.fast) :: medPt m M fb nb (.slice wa M.waits.length wc) :: omap .string nb (mapL bs M.now) :: filesRep bs M.files :: osl 168 3 (.slice wa M.waits.length wc) (M.waits.flatMap (lnkCells bs)) :: F))
  case atStart => exact ⟨0, rfl, Nat.zero_le _, rfl, hS2.sel 2 [1, 0] rfl rfl⟩
  case round =>
    obtain ⟨k, rfl, hkN, rfl, hS⟩ := hrel
    by_cases hk : k < N
    · obtain ⟨p, hp⟩ : ∃ p, M.waits[k]? = some p := ⟨M.waits[k]'(by omega), List.getElem?_eq_getElem _⟩
      have hsucc := lastNames_succ M k p hp
      have hO := hS.sel 7 [6] rfl rfl
      have hshape : ∃ g, wa = some ⟨g, 0, none⟩ := by
        rcases (Sat.osl_cases hO) with ⟨he, hx, _⟩ | ⟨g, n', cap', cs, he, _⟩
        · have := (Value.slice.inj he).2.1; omega
        · exact ⟨g, (Value.slice.inj he).1⟩
      obtain ⟨g, rfl⟩ := hshape
      obtain ⟨w0', w1', w2'⟩ := lwaits_cells hO hp
      have hb : Sat w0 (wr.alloc (.cells #[.string p.fr, .string p.to, lnkPtr bs p] 168)) _ := hS.alloc _
      have e0 := hb.cellAt 0 _ rfl
      have e1 := hb.cellAt 1 _ rfl
      have e2 := hb.cellAt 2 _ rfl
      have hon := on_c p hb.drop
      obtain ⟨fr, to, pf⟩ := p
      obtain ⟨q, hpv⟩ : ∃ q, lnkPtr bs ⟨fr, to, pf⟩ = .pointer q := by unfold lnkPtr; split <;> exact ⟨_, rfl⟩
      rw [hpv] at w2' hon e2
      have Hsucc := Lib.hid hsucc
      clear hsucc hp hpv hO
      have hkc : (k : Int) < (N : Int) := by omega
      simp only at w0' w1' e0 e1 hon
      go_wp2_with (go_at_call 90; go_must (refine hon.mono ?_); rintro e w2 ⟨v2, rfl, hS3⟩)
      go_roundg (N - (k + 1))
      case measure => omega
      case rel =>
        refine ⟨k + 1, rfl, by omega, by go_num, ?_⟩
        rw [Hsucc.out]
        exact hS3
    · obtain rfl : k = N := by omega
      have hns := HM.out.names k (by omega)
      have hcr : M.crash l = { M with fast := M.lastNames k, now := M.lastNames k, waits := [], files := crashFiles l (M.lastNames k) 1 M.files, off := false, armed := false, left := 0 } := by
        unfold Med.crash; rw [← HNd.out]
      have Hcr := Lib.hid hcr; clear hcr HNd
      have hkc : ¬ (k : Int) < (k : Int) := by omega
      have hlen5 := hns.len
      generalize hL : M.lastNames k = ns at *
      clear hL
      have hS' : Sat w0 wr (omap .string b' (mapL bs ns) :: pt cb (.cells #[nxs (.slice la ln lc)] 45 (0,0)) :: medPt m M fb nb (.slice wa M.waits.length wc) :: filesRep bs M.files :: F) := hS.sel 7 [0, 1, 3, 5] rfl rfl
      clear hS
      have hnm := names_c hS' hns.srt (by omega)
      have Hns := Lib.hid hns; clear hns
      go_wp2_with (go_at_call 91; refine hnm.mono ?_; rintro e w3 ⟨v, rfl, hS3, a3, n3, c3, rfl⟩)
      clear hnm hS'
      have hn3 : n3 = ns.length := by
        obtain ⟨a, n, c, he, hln, _⟩ := hS3.rd
        cases he
        unfold strs at hln; simp at hln; omega
      subst hn3
      have hc3 : ns.length ≤ c3 ∧ c3 ≤ 9223372036854775807 := by
        rcases hS3.osl_cases with ⟨he, _⟩ | ⟨b, n', cap', cs, he, _, hn, _, hcm, _, _⟩
        · have h1 := (Value.slice.inj he).2; omega
        · have h1 := (Value.slice.inj he).2; obtain ⟨h1, rfl⟩ := h1; subst h1; exact ⟨hn, hcm⟩
      obtain ⟨hc31, hc32⟩ := hc3
      try go_frame
      go_loopg [52] ns.length (fun g iq wr => ∃ i : Nat, g = ns.length - i ∧ i ≤ ns.length ∧ iq = .int .i64 i ∧
        Sat w0 wr (pt cb (.cells #[nxv (.slice la ln lc) (1 + 2 * i)] 45 (0,0)) :: omap .string b' (mapL bs ns) :: osl 9 1 (.slice a3 ns.length c3) (strs (ns.map (·.1))) :: medPt m M fb nb (.slice wa M.waits.length wc) :: filesRep bs (crashFiles l (ns.take i) 1 M.files) :: F))
      case atStart => exact ⟨0, rfl, Nat.zero_le _, rfl, hS3.sel 4 [2, 1, 0, 3] rfl rfl⟩
      case round =>
        obtain ⟨i, rfl, hiN, rfl, hS⟩ := hrel
        by_cases hilt : i < ns.length
        · obtain ⟨p, hp⟩ : ∃ p, ns[i]? = some p := ⟨ns[i]'(by omega), List.getElem?_eq_getElem _⟩
          have hpm : p ∈ ns := List.mem_of_getElem? hp
          have hpid := Hns.out.ids p hpm
          have htk : ns.take (i + 1) = ns.take i ++ [p] := by rw [List.take_add_one, hp]; rfl
          have hcf : crashFiles l (ns.take (i + 1)) 1 M.files = (crashFiles l (ns.take i) 1 M.files).set p.2 (((crashFiles l (ns.take i) 1 M.files).getD p.2 Fil.new).crash (num l (1 + 2 * i)) (num l (1 + 2 * i + 1))) := by
            rw [htk, crashFiles_snoc, List.length_take, Nat.min_eq_left (by omega)]
          have hst : (strs (ns.map (·.1)))[i]? = some (.string p.1) := by unfold strs; simp [hp]
          have hshape : ∃ g, a3 = some ⟨g, 0, none⟩ ∧ wr.cell? ⟨g, i, none⟩ = some (.string p.1) := by
            rcases Sat.osl_cases hS.pick2 with ⟨he, hx, _⟩ | ⟨g, n', cap', cs, he, hx1, hx2, hx3, hx4, hx5, hx6⟩
            · have := (Value.slice.inj he).2.1; omega
            · refine ⟨g, (Value.slice.inj he).1, hx6.cellAt _ _ (take_get hx5 hst)⟩
          obtain ⟨g, rfl, hcell⟩ := hshape
          have hR0 := Hr.out _ hS.drop.drop.drop.drop.drop
          have hnx := next_c (l.drop (1 + 2 * i)) hS (rdsl_nxv hR0 Hcap.out _) (Hcap.out.nxv _)
          rw [num_drop] at hnx
          have hlenf : bs.length = (crashFiles l (ns.take i) 1 M.files).length := by rw [crashFiles_len]; exact hl
          have hokf := crashFiles_ok l _ (ns.take i) 1 M.files HM.out.files
          have hff : Fil.Ok KK ((crashFiles l (ns.take i) 1 M.files).getD p.2 Fil.new) := by
            rw [List.getD_eq_getElem?_getD, List.getElem?_eq_getElem (by rw [crashFiles_len]; exact hpid)]
            exact hokf _ (List.getElem_mem _)
          obtain ⟨G, hG1, hG2⟩ := files_take bs (crashFiles l (ns.take i) 1 M.files) p.2 hlenf (by rw [crashFiles_len]; exact hpid)
          have hfp : fptr bs ns p.1 = ptr (bs.getD p.2 0) := by
            unfold fptr; rw [nget_of_mem Hns.out.srt.keys (show (p.1, p.2) ∈ ns from hpm)]
          have hin1 := num_in Hi.out (1 + 2 * i)
          have hin2 := num_in Hi.out (1 + 2 * i + 1)
          obtain ⟨nm, id⟩ := p
          simp only at hcell hfp hG1 hG2 hff hcf
          generalize bs.getD id 0 = q at *
          have Hcf := Lib.hid hcf; have HG2 := Lib.hid hG2; have Hff := Lib.hid hff; have Hhp := Lib.hid hp; have HG1 := Lib.hid hG1; have Hin1 := Lib.hid hin1; have Hin2 := Lib.hid hin2; have Hfp := Lib.hid hfp; have HS := Lib.hid hS
          clear hcf hG2 hff hp hpm hpid htk hst hokf hlenf hG1 hin1 hin2 hfp hS hR0
          have hic : (i : Int) < (ns.length : Int) := by omega
          go_wp2_with (go_at_call 88; refine hnx.mono ?_; rintro e w4 ⟨v, rfl, rfl, hS4⟩)
          clear hnx
          have hS5 : Sat w0 w4 (pt cb (.cells #[nxv (.slice la ln lc) (1 + 2 * i + 1)] 45 (0,0)) :: omap .string b' (mapL bs ns) :: osl 9 1 (.slice (some ⟨g, 0, none⟩) ns.length c3) (strs (ns.map (·.1))) :: medPt m M fb nb (.slice wa M.waits.length wc) :: filesRep bs (crashFiles l (ns.take i) 1 M.files) :: F) := hS4
          clear hS4
          have hlk := look_names (s := nm) hS5.pick1.drew
          rw [Hfp.out] at hlk
          have hnx2 := next_c (l.drop (1 + 2 * i + 1)) hS5.drew (rdsl_nxv (Hr.out _ hS5.drew.drop.drop.drop.drop.drop) Hcap.out _) (Hcap.out.nxv _)
          rw [num_drop] at hnx2
          refine wpL_begin [6] (fun w' => (Instr.lookup 128 (.map (some b')) (.string nm) false).run Tryz.prog w' = .ok (ptr q) w') (by kernel_rfl) ?_
          have hG := hlk
          refine wpL_pure (i := 0) (v := ?_) rfl (by kernel_rfl) (fun _ _ _ h => h) (Or.inl ⟨by rfl, ?_⟩) ?_; rotate_left; focus ((intro wq; go_simp); first | done | (with_reducible rfl))
          refine wpL_pure (i := 1) (v := ?_) rfl (by kernel_rfl) (fun _ _ _ h => h) (Or.inl ⟨by rfl, ?_⟩) ?_; rotate_left; focus ((intro wq; go_simp); first | done | (with_reducible rfl))
          refine wpL_take (i := 2) (v := ?_) rfl (by kernel_rfl) (fun _ _ _ h => h) (Or.inl ⟨by rfl, ?_⟩) (by assumption) ?_; rotate_left; focus ((intro wq hq; go_split_ands; go_simp); first | done | (with_reducible rfl))
          refine wpL_pure (i := 3) (v := ?_) rfl (by kernel_rfl) (fun _ _ _ h => h) (Or.inl ⟨by rfl, ?_⟩) ?_; rotate_left; focus ((intro wq; go_simp); first | done | (with_reducible rfl))
          refine wpL_pure (i := 4) (v := ?_) rfl (by kernel_rfl) (fun _ _ _ h => h) (Or.inl ⟨by rfl, ?_⟩) ?_; rotate_left; focus ((intro wq; go_simp); first | done | (with_reducible rfl))
          clear hlk hG
          refine wpL_eff (i := 5) rfl (by kernel_rfl) (fun K hK => ?_)
          go_simp
          refine hnx2.mono ?_
          clear hnx2
          rintro e w5 ⟨v, rfl, rfl, hS6⟩
          have hlk2 := look_names (s := nm) hS6.pick1
          rw [Hfp.out] at hlk2
          refine hK _ _ (.inr (.inl hlk2)) ?_
          clear hK hlk2
          have hS7 := hS6.sel 5 [4, 0, 1, 2, 3] rfl rfl
          have hS8 : Sat w0 w5 (filesRep bs (crashFiles l (ns.take i) 1 M.files) :: _) := hS7
          rw [HG1.out] at hS8
          have hcr := crashF_c Hff.out hKK (Sat.star.1 hS8) (num l (1 + 2 * i)) (num l (1 + 2 * i + 1)) Hin1.out Hin2.out
          clear hS8 hS7 hS6
          refine wpL_eff (i := 6) rfl (by kernel_rfl) (fun K hK => ?_)
          go_simp
          refine hcr.mono ?_
          clear hcr
          rintro e w6 ⟨v, rfl, hS9⟩
          refine hK _ _ (.inl rfl) ?_
          clear hK
          refine wpL_done (by kernel_rfl) ?_
          go_wp2
          go_roundg (ns.length - (i + 1))
          case measure => omega
          case rel =>
            refine ⟨i + 1, rfl, by omega, by go_num, ?_⟩
            rw [Hcf.out]
            have h9 := Sat.star.2 hS9
            rw [← HG2.out] at h9
            exact h9.sel 5 [1, 2, 3, 4, 0] rfl rfl
        · obtain rfl : i = ns.length := by omega
          have hic : ¬ (ns.length : Int) < (ns.length : Int) := by omega
          rw [List.take_length] at hS
          have hcp2 := copied_c (hS.sel 5 [1, 0, 2, 3, 4] rfl rfl)
          go_wp2_with (go_at_call 89; refine hcp2.mono ?_; rintro e w4 ⟨v, rfl, b2, rfl, hS4⟩; have hS5 := hS4.pick4; have g1 := hS5.freeAt 1; have g2 := hS5.freeAt 2; have g3 := hS5.freeAt 3; have g4 := hS5.freeAt 4; have g5 := hS5.freeAt 5; have g6 := hS5.freeAt 6; have d1 := hS5.cellAt 1 _ rfl; have d2 := hS5.cellAt 2 _ rfl; have d3 := hS5.cellAt 3 _ rfl; have d4 := hS5.cellAt 4 _ rfl; have d5 := hS5.cellAt 5 _ rfl; have d6 := hS5.cellAt 6 _ rfl)
          go_end0
          refine ⟨_, rfl, ?_⟩
          rw [Hcr.out]
          refine MedRep.shut (bs := bs) (fb := b2) (nb := b') (wv := .slice none 0 0) (by simp [crashFiles_len]; exact hl) ?_
          have h5 := ((((((Sat.set hS5 2 (.map (some b'))).set 1 (.map (some b2))).set 3 (.slice none 0 0)).set 6 (.bool false)).set 4 (.bool false)).set 5 (.int .i64 0))
          have h6 := Sat.osl_nil (T := 168) (sz := 3).2 h5
          exact h6.sel 7 [1, 3, 6, 2, 0] rfl rfl
end
section
variable {w0 w : World} {F : List HProp} {m fb nb b r : Nat} {M : Med} {bs : List Nat} {wv v bv lv av : Value} {s : ByteArray} {fs : List Fil} {K : Nat} {f : Fil}
theorem rdsl_cell {a : Option Addr} {n c : Nat} {xs : List Value} (h : rdsl 1 (.slice a n c) xs w) {i : Nat} {x : Value} (hi : xs[i]? = some x) :
    ∃ bk off, a = some ⟨bk, off, none⟩ ∧ w.cell? ⟨bk, off + i, none⟩ = some x := by
  obtain ⟨a', n', c', he, hl, hx⟩ := h
  cases he
  obtain ⟨b, rfl, hc⟩ := hx i x hi
  have hlt : i < xs.length := (List.getElem?_eq_some_iff.1 hi).1
  obtain ⟨y, hy⟩ : ∃ y, xs[0]? = some y := ⟨xs[0]'(by omega), List.getElem?_eq_getElem _⟩
  obtain ⟨b', hb', hc0⟩ := hx 0 y hy
  cases hb'
  obtain ⟨bk, off, spot⟩ := b
  have hs : spot = none := by simpa [Addr.add] using World.cell?_spot hc0
  subst hs
  refine ⟨bk, off, rfl, ?_⟩
  unfold Addr.add at hc
  split at hc
  · rename_i h0; subst h0; exact hc
  · exact hc
theorem cut_c (a : Option Addr) (n c k : Nat) (h1 : n ≤ c) (h2 : c ≤ 9223372036854775807) (w : World) :
    Calls Tryz.prog 106 #[.slice a n c, .int .i64 k] w (Rtn fun v w' => v = .slice a (min n k) c ∧ w = w') := by
  by_cases hk : k < n
  · have hk1 : (k : Int) < (n : Int) := by omega
    have hk2 : (k : Int) ≤ (c : Int) := by omega
    have e := Lib.hid (show min n k = k by omega)
    go_enter Tryz.func106, Tryz.ntmps106
    go_wp2
    go_ret
    exact ⟨.slice a k c, rfl, by rw [e.out], rfl⟩
  · have hk1 : ¬ (k : Int) < (n : Int) := by omega
    have e := Lib.hid (show min n k = n by omega)
    go_enter Tryz.func106, Tryz.ntmps106
    go_wp2
    go_ret
    exact ⟨.slice a n c, rfl, by rw [e.out], rfl⟩
theorem numbers_c (a : Option Addr) (n c k : Nat) (h1 : n ≤ c) (h2 : c ≤ 9223372036854775807) (w : World) :
    Calls Tryz.prog 48 #[.slice a n c, .int .i64 k] w (Rtn fun v w' => v = .slice a (min n k) c ∧ w = w') := by
  by_cases hk : k < n
  · have hk1 : (k : Int) < (n : Int) := by omega
    have hk2 : (k : Int) ≤ (c : Int) := by omega
    have e := Lib.hid (show min n k = k by omega)
    go_enter Tryz.func48, Tryz.ntmps48
    go_wp2
    go_ret
    exact ⟨.slice a k c, rfl, by rw [e.out], rfl⟩
  · have hk1 : ¬ (k : Int) < (n : Int) := by omega
    have e := Lib.hid (show min n k = n by omega)
    go_enter Tryz.func48, Tryz.ntmps48
    go_wp2
    go_ret
    exact ⟨.slice a n c, rfl, by rw [e.out], rfl⟩
end
section
variable {w0 w : World} {F : List HProp} {m fb nb b r : Nat} {M : Med} {bs : List Nat} {wv v bv : Value} {s : ByteArray} {fs : List Fil} {K : Nat}
def within (x lo hi : Int) : Int := if x < lo then lo else if hi < x then hi else x
theorem within_c (x lo hi : Int) (w : World) : Calls Tryz.prog 12 #[.int .i64 x, .int .i64 lo, .int .i64 hi] w (Rtn fun v w' => v = .int .i64 (within x lo hi) ∧ w = w') := by
  by_cases h1 : x < lo
  · have e := Lib.hid (show within x lo hi = lo by simp [within, h1])
    go_enter Tryz.func12, Tryz.ntmps12
    go_wp2
    go_ret
    exact ⟨.int .i64 lo, rfl, by rw [e.out], rfl⟩
  · by_cases h2 : hi < x
    · have e := Lib.hid (show within x lo hi = hi by simp [within, h1, h2])
      go_enter Tryz.func12, Tryz.ntmps12
      go_wp2
      go_ret
      exact ⟨.int .i64 hi, rfl, by rw [e.out], rfl⟩
    · have e := Lib.hid (show within x lo hi = x by simp [within, h1, h2])
      go_enter Tryz.func12, Tryz.ntmps12
      go_wp2
      go_ret
      exact ⟨.int .i64 x, rfl, by rw [e.out], rfl⟩
set_option maxHeartbeats 1000000 in
theorem copy_c (h : Sat w0 w F) (l : Bs) (hr : rdsl 1 bv (bys l) w) (hl : l.length ≤ 1099511627776) :
    Calls Tryz.prog 96 #[bv] w (Rtn fun v w' => Sat w0 w' (bsl v l :: F) ∧ ∃ a n c, v = .slice a n c) := by
  obtain ⟨i, hi, hz0, hz1, hz2⟩ := info8p
  obtain ⟨a, n, c, rfl, hn, _⟩ := id hr
  rw [bys_len, Nat.mul_one] at hn
  have h0 : Sat w0 w (osl 5 1 (.slice none 0 0) [] :: F) := Sat.osl_nil.2 h
  have h63 : ([] : List Value).length + (bys l).length ≤ maxLen := by rw [bys_len]; unfold maxLen; simp; omega
  have hby : (([] : List Value).length + (bys l).length) * i.bytes ≤ 140737488355328 := by rw [bys_len, hz2]; simp; omega
  have Hn := Lib.hid hn; clear hn
  go_enter Tryz.func96, Tryz.ntmps96
  go_wp2_with (at_builtin; go_must (refine wpList_append (w0 := w0) (by rfl) _ _ _ (by rfl) _ i _ Tryz.underlying42 hi hz0 hz1 (by rfl) (by omega) (by rfl) (by rfl) (bys_one _) h0 hr h63 hby ?_); intro v2 w2 hS2 hne)
  obtain ⟨a2, n2, c2, rfl, _⟩ := id hS2.rd
  go_wp2
  go_ret
  exact ⟨_, rfl, hS2, _, _, _, rfl⟩
end
end Go.Proofs.YtmjldaedhmipkaaGreatDoor
namespace Go.Frm
abbrev Bs := List UInt8
def half : List Nat := [0, 498536548, 997073096, 651767980, 1994146192, 1802195444, 1303535960, 1342533948, 3988292384, 4027552580, 3604390888, 3412177804, 2607071920, 2262029012, 2685067896, 3183342108]
def fold4 (x : Nat) : Nat := (x / 16) ^^^ half.getD (x % 16) 0
def crcStep (x : Nat) (c : UInt8) : Nat := fold4 (fold4 (x ^^^ c.toNat))
def crcAdd (s : Nat) (b : Bs) : Nat := 4294967295 - b.foldl crcStep (4294967295 - s)
def crc (b : Bs) : Nat := crcAdd 0 b
theorem half_lt : ∀ i, half.getD i 0 < 4294967296 := by
  intro i
  rw [List.getD_eq_getElem?_getD]
  cases h : half[i]? with
  | none => simp
  | some x =>
    have : x ∈ half := List.mem_of_getElem? h
    have h2 : ∀ y ∈ half, y < 4294967296 := by decide
    exact h2 x this
theorem xor_lt {a b : Nat} (ha : a < 4294967296) (hb : b < 4294967296) : a ^^^ b < 4294967296 := Nat.xor_lt_two_pow (n := 32) ha hb
theorem fold4_lt {x : Nat} (h : x < 4294967296) : fold4 x < 4294967296 := xor_lt (by omega) (half_lt _)
theorem crcStep_lt {x : Nat} (h : x < 4294967296) (c : UInt8) : crcStep x c < 4294967296 := fold4_lt (fold4_lt (xor_lt h (by have := c.toNat_lt; omega)))
theorem foldl_lt : ∀ (b : Bs) (x : Nat), x < 4294967296 → b.foldl crcStep x < 4294967296
  | [], _, h => h
  | c :: b, x, h => foldl_lt b _ (crcStep_lt h c)
theorem crc_lt (b : Bs) : crc b < 4294967296 := by unfold crc crcAdd; omega
def le (x : Nat) : Nat → Bs
  | 0 => []
  | n + 1 => UInt8.ofNat (x % 256) :: le (x / 256) n
def num : Bs → Nat
  | [] => 0
  | c :: b => c.toNat + 256 * num b
theorem le_len (x n : Nat) : (le x n).length = n := by
  induction n generalizing x with
  | zero => rfl
  | succ n ih => simp [le, ih]
theorem num_le (n : Nat) : ∀ x, x < 256 ^ n → num (le x n) = x := by
  induction n with
  | zero => intro x h; simp at h; subst h; rfl
  | succ n ih =>
    intro x h
    show (UInt8.ofNat (x % 256)).toNat + 256 * num (le (x / 256) n) = x
    rw [ih (x / 256) (by rw [Nat.div_lt_iff_lt_mul (by omega)]; rw [Nat.pow_succ] at h; exact h), UInt8.toNat_ofNat']
    omega
theorem num_lt : ∀ b : Bs, num b < 256 ^ b.length
  | [] => by simp [num]
  | c :: b => by
    have h1 := num_lt b
    have h2 := c.toNat_lt
    show c.toNat + 256 * num b < 256 ^ (b.length + 1)
    rw [Nat.pow_succ]
    omega
structure Ent where
  tag : Int
  key : Bs
  data : Bs
def zero32 : Bs := List.replicate 32 0
def check (x : Ent) : Int :=
  if x.tag = 0 then (if 16384 < x.data.length then 5 else 0)
  else if x.tag = 2 then (if x.key ≠ zero32 then 4 else if 0 < x.data.length then 4 else if 16384 < x.data.length then 5 else 0)
  else if x.tag = 1 then (if 0 < x.data.length then 4 else if 16384 < x.data.length then 5 else 0)
  else 4
def size (x : Ent) : Nat := if check x ≠ 0 then 0 else if x.tag = 2 then 9 else 41 + x.data.length
def body (x : Ent) : Bs := le (size x) 4 ++ [UInt8.ofNat x.tag.toNat] ++ (if x.tag = 2 then [] else x.key) ++ x.data
def encode (x : Ent) : Bs × Int := if check x ≠ 0 then ([], check x) else (le (crc (body x)) 4 ++ body x, 0)
def zeroE : Ent := ⟨0, zero32, []⟩
def fits (tag : UInt8) (n : Nat) : Bool :=
  if tag = 0 then decide (41 ≤ n ∧ n ≤ 16425) else if tag = 1 then decide (n = 41) else if tag = 2 then decide (n = 9) else false
def read (b : Bs) : Ent × Nat × Int :=
  if b.length < 9 then (zeroE, 0, 3)
  else
    let n := num ((b.drop 4).take 4)
    if fits (b.getD 8 0) n = false then (zeroE, 0, 4)
    else if b.length < n then (zeroE, 0, 3)
    else if crc ((b.take n).drop 4) ≠ num (b.take 4) then (zeroE, 0, 13)
    else if 41 ≤ n then (⟨(b.getD 8 0).toNat, (b.drop 9).take 32, (b.take n).drop 41⟩, n, 0)
    else (⟨(b.getD 8 0).toNat, zero32, []⟩, n, 0)
end Go.Frm
namespace Go.Proofs.YtmjldaedhmipkaaGreatDoor
open Go Go.Sl Go.Med Go.MapKept Go.RowKit
section
variable {w0 w : World} {F : List HProp} {v bv : Value}
def Half (w : World) : Prop := ∀ i, i < 16 → w.cell? ⟨0, i, none⟩ = some (.int .u32 (Frm.half.getD i 0 : Nat))
theorem not_u32 (s : Nat) (hs : s < 4294967296) : bits .xor .u32 IntKind.u32.max (s : Int) = ((4294967295 - s : Nat) : Int) := by
  have h1 : IntKind.u32.max = ((4294967295 : Nat) : Int) := by decide
  rw [h1, u32_xor_nat _ _ (by omega) hs]
  congr 1
  have h2 : (4294967295 ^^^ s) = (BitVec.allOnes 32 ^^^ BitVec.ofNat 32 s).toNat := by
    rw [BitVec.toNat_xor, BitVec.toNat_allOnes, BitVec.toNat_ofNat, Nat.mod_eq_of_lt hs]
  rw [h2, BitVec.allOnes_xor, BitVec.toNat_not, BitVec.toNat_ofNat, Nat.mod_eq_of_lt hs]
theorem and15 (y : Nat) (hy : y < 4294967296) : bits .and .u32 (y : Int) 15 = ((y % 16 : Nat) : Int) := by
  have := u32_and_nat y 15 hy (by omega)
  rw [nat_mask4] at this
  exact this
theorem xor_half (y h : Nat) (hy : y < 4294967296) (hh : h < 4294967296) : bits .xor .u32 ((y : Int) / 16) (h : Int) = ((y / 16 ^^^ h : Nat) : Int) := by
  have := u32_xor_nat (y / 16) h (by omega) hh
  rw [← this]
  rfl
set_option maxHeartbeats 1000000 in
theorem crcAdd_c (s : Nat) (hs : s < 4294967296) (l : Bs) (hH : Ro w0 F Half) (hr : Ro w0 F (rdsl 1 bv (bys l))) (h : Sat w0 w F) (hl : l.length ≤ 1099511627776) :
    Calls Tryz.prog 161 #[.int .u32 s, bv] w (Rtn fun v w' => v = .int .u32 (Frm.crcAdd s l : Nat) ∧ w = w') := by
  obtain ⟨a, n, c, rfl, hn, _⟩ := id (hr w h)
  rw [bys_len, Nat.mul_one] at hn
  subst hn
  have hnot := not_u32 s hs
  obtain ⟨t0, ht0⟩ : ∃ t0, t0 = 4294967295 - s := ⟨_, rfl⟩
  rw [← ht0] at hnot
  have ht : t0 < 4294967296 := by omega
  have Hr := Lib.hid hr; have hHw := Lib.hid (hH w h); have Hl := Lib.hid hl; have Ht := Lib.hid ht; have Ht0 := Lib.hid ht0
  clear hr hH hl hs ht ht0
  go_enter Tryz.func161, Tryz.ntmps161
  go_wp2_with fail
  clear hnot
  go_loopg [5, 12] l.length (fun g xv iq wr => ∃ (i : Nat), g = l.length - i ∧ i ≤ l.length ∧ iq = .int .i64 i ∧ xv = .int .u32 ((l.take i).foldl Frm.crcStep t0 : Nat) ∧ wr = w)
  case atStart => exact ⟨0, rfl, Nat.zero_le _, rfl, rfl, rfl⟩
  case round =>
    obtain ⟨i, rfl, hi, rfl, rfl, rfl⟩ := hrel
    have hxlt : (l.take i).foldl Frm.crcStep t0 < 4294967296 := Frm.foldl_lt _ _ Ht.out
    by_cases hi' : i < l.length
    · have hb : (bys l)[i]? = some (.int .u8 (l[i]'hi').toNat) := by unfold bys; simp [hi']
      obtain ⟨bk, off, rfl, c1⟩ := rdsl_cell (Hr.out _ h) hb
      have hnext : (l.take (i + 1)).foldl Frm.crcStep t0 = Frm.fold4 (Frm.fold4 ((l.take i).foldl Frm.crcStep t0 ^^^ (l[i]'hi').toNat)) := by
        rw [List.take_succ_eq_append_getElem hi', List.foldl_append]; rfl
      have hic : (i : Int) < (l.length : Int) := by omega
      have hwi : IntKind.i64.wrap ((i : Int) + 1) = (i : Int) + 1 := IntWalk.i64_in _ (by have h1 := Hl.out; omega)
      have hcb := (l[i]'hi').toNat_lt
      have Hnext := Lib.hid hnext
      clear hb hnext
      generalize (l[i]'hi').toNat = cb at *
      generalize (l.take i).foldl Frm.crcStep t0 = x at *
      have e1 := u32_xor_nat x cb hxlt (by omega)
      have hy1 : x ^^^ cb < 4294967296 := Frm.xor_lt hxlt (by omega)
      unfold Frm.fold4 at Hnext
      generalize x ^^^ cb = y1 at *
      have e2 := and15 y1 hy1
      have hz1 : y1 % 16 < 16 := Nat.mod_lt _ (by omega)
      have g1 := hHw.out (y1 % 16) hz1
      have e3 := xor_half y1 _ hy1 (Frm.half_lt (y1 % 16))
      have hy2 : y1 / 16 ^^^ Frm.half.getD (y1 % 16) 0 < 4294967296 := Frm.xor_lt (by omega) (Frm.half_lt _)
      generalize Frm.half.getD (y1 % 16) 0 = h1 at *
      generalize y1 % 16 = z1 at *
      generalize y1 / 16 ^^^ h1 = y2 at *
      have e4 := and15 y2 hy2
      have hz2 : y2 % 16 < 16 := Nat.mod_lt _ (by omega)
      have g2 := hHw.out (y2 % 16) hz2
      have e5 := xor_half y2 _ hy2 (Frm.half_lt (y2 % 16))
      generalize Frm.half.getD (y2 % 16) 0 = h2 at *
      generalize y2 % 16 = z2 at *
      generalize y2 / 16 ^^^ h2 = y3 at *
      have hcm : (cb : Int) % 4294967296 = (cb : Int) := by omega
      have hz1i : (z1 : Int) < 16 := by omega
      have hz2i : (z2 : Int) < 16 := by omega
      clear hxlt hy1 hy2 hcb
      go_wp2
      go_roundg (l.length - (i + 1))
      case measure => omega
      case rel => exact ⟨i + 1, rfl, Nat.succ_le_of_lt hi', by first | rfl | go_num, by rw [Hnext.out], rfl⟩
    · obtain rfl : i = l.length := by omega
      have hic : ¬ (l.length : Int) < (l.length : Int) := by omega
      rw [List.take_length] at *
      have hn2 := not_u32 _ hxlt
      have hfin : Frm.crcAdd s l = 4294967295 - l.foldl Frm.crcStep t0 := by unfold Frm.crcAdd; rw [Ht0.out]
      rw [← hfin] at hn2
      generalize l.foldl Frm.crcStep t0 = x at *
      clear hi hi' hxlt hfin
      go_wp2
      go_ret
      exact ⟨_, rfl, rfl, rfl⟩
theorem crc_c (l : Bs) (hH : Ro w0 F Half) (hr : Ro w0 F (rdsl 1 bv (bys l))) (h : Sat w0 w F) (hl : l.length ≤ 1099511627776) :
    Calls Tryz.prog 127 #[bv] w (Rtn fun v w' => v = .int .u32 (Frm.crc l : Nat) ∧ w = w') := by
  have ha := crcAdd_c 0 (by omega) l hH hr h hl
  have hcast : ((0 : Nat) : Int) = 0 := rfl
  rw [hcast] at ha
  clear hcast
  obtain ⟨a, n, c, rfl, hn, _⟩ := id (hr w h)
  go_enter Tryz.func127, Tryz.ntmps127
  go_wp2_with fail
  refine ha.mono ?_
  rintro e w1 ⟨v, rfl, rfl, rfl⟩
  clear ha
  go_wp2
  go_ret
  exact ⟨_, rfl, rfl, rfl⟩
end
section
variable {w0 w : World} {F : List HProp} {m fb nb b r : Nat} {M : Med} {bs : List Nat} {wv v bv : Value} {s : ByteArray} {l : Names} {fs : List Fil} {K : Nat}
theorem link_rep (hM : M.Ok K) (hK : K ≤ 1099511627776) (hl : bs.length = M.files.length) (x : Lnk) (h : Sat w0 w (MedRaw m M bs fb nb wv ++ F)) :
    Calls Tryz.prog 137 #[ptr m, .agg #[.string x.fr, .string x.to, lnkPtr bs x]] w (Rtn fun _ w' => Sat w0 w' (MedRep m (M.link x) :: F)) := by
  refine (link_c x (h.sel 5 [0, 1, 4, 2, 3] rfl rfl) (Nat.le_trans hM.budget hK)).mono ?_
  rintro e w1 ⟨v, rfl, wv', hS⟩
  refine ⟨v, rfl, MedRep.shut (bs := bs) (fb := fb) (nb := nb) (wv := wv') (by simpa [Med.link] using hl) ?_⟩
  exact hS.sel 5 [0, 1, 3, 4, 2] rfl rfl
set_option maxHeartbeats 2000000 in
theorem remove_c (hM : M.Ok K) (hK : K ≤ 1099511627776) (h : Sat w0 w (MedRep m M :: F)) (s : ByteArray) :
    Calls Tryz.prog 80 #[ptr m, .string s] w (Rtn fun v w' => v = errno (M.remove s).2 ∧ Sat w0 w' (MedRep m (M.remove s).1 :: F)) := by
  obtain ⟨bs, fb, nb, wv, hl, hR⟩ := MedRep.open h
  cases ho : M.off
  · cases hn : nget M.now s with
    | none =>
      have hf := find_none (s := s) hR ho hn
      have Hfin : Hid (M.remove s = (M, 9)) := by show _ = _; simp [Med.remove, ho, hn]
      clear ho hn
      go_enter Tryz.func80, Tryz.ntmps80
      go_wp2_with (first | (go_at_call 123; refine hf.mono ?_; rintro e w1 ⟨v, rfl, rfl, rfl⟩))
      go_ret
      exact ⟨errno 9, rfl, by rw [Hfin.out], by rw [Hfin.out]; exact h⟩
    | some i =>
      have hf := find_some (s := s) hR ho hn
      have hst := step_c hR hM.left
      cases hstep : M.step.2
      · rw [hstep] at hst
        have Hfin : Hid (M.remove s = (M.step.1, 12)) := by show _ = _; simp [Med.remove, ho, hn, hstep]
        clear ho hn hstep
        go_enter Tryz.func80, Tryz.ntmps80
        go_wp2_with (first | (go_at_call 123; refine hf.mono ?_; rintro e w1 ⟨v, rfl, rfl, rfl⟩) | (go_at_call 133; refine hst.mono ?_; rintro e w1 ⟨v, rfl, rfl, hS1⟩))
        go_ret
        refine ⟨errno 12, rfl, by rw [Hfin.out], ?_⟩
        rw [Hfin.out]
        exact MedRep.shut (bs := bs) (fb := fb) (nb := nb) (wv := wv) (by rw [M.step_same.2.2.2.1]; exact hl) (raw_step hS1)
      · rw [hstep] at hst
        have Hfin : Hid (M.remove s = (M.step.1.link ⟨s, ByteArray.empty, 0⟩, 0)) := by show _ = _; simp [Med.remove, ho, hn, hstep]
        have hl' : bs.length = M.step.1.files.length := by rw [M.step_same.2.2.2.1]; exact hl
        have hlp : lnkPtr bs ⟨s, ByteArray.empty, 0⟩ = .pointer none := by unfold lnkPtr; rw [if_pos rfl]
        have Hl' := Lib.hid hl'; have Hlp := Lib.hid hlp
        clear ho hn hstep hl' hlp
        generalize hq : bs.getD i 0 = q at hf
        have Hq := Lib.hid hq; clear hq
        go_enter Tryz.func80, Tryz.ntmps80
        go_wp2_with (first | (go_at_call 123; refine hf.mono ?_; rintro e w1 ⟨v, rfl, rfl, rfl⟩) | (go_at_call 133; fail))
        refine hst.mono ?_
        rintro e w1 ⟨v, rfl, rfl, hS1⟩
        have hlk := link_rep hM.step hK Hl'.out ⟨s, ByteArray.empty, 0⟩ (raw_step hS1)
        rw [Hlp.out] at hlk
        go_wp2_with (go_at_call 137; go_must (refine hlk.mono ?_); rintro e w2 ⟨v2, rfl, hS2⟩)
        go_ret
        refine ⟨errno 0, rfl, by rw [Hfin.out], ?_⟩
        rw [Hfin.out]
        exact hS2
  · have hf := find_off (s := s) hR ho
    have Hfin : Hid (M.remove s = (M, 12)) := by show _ = _; simp [Med.remove, ho]
    clear ho
    go_enter Tryz.func80, Tryz.ntmps80
    go_wp2_with (first | (go_at_call 123; refine hf.mono ?_; rintro e w1 ⟨v, rfl, rfl, rfl⟩))
    go_ret
    exact ⟨errno 12, rfl, by rw [Hfin.out], by rw [Hfin.out]; exact h⟩
end
section
variable {w0 w W : World} {F : List HProp} {m fb nb b r : Nat} {M P : Med} {bs : List Nat} {wv v bv dv av cv nv ov lv : Value} {s : ByteArray} {fs : List Fil} {K : Nat} {f : Fil}
theorem bsl_cap {l : Bs} (h : Sat w0 w (bsl v l :: F)) : capOk v := by
  rcases Sat.osl_cases h with ⟨rfl, _⟩ | ⟨b, n', cap', cs, rfl, _, hn, _, hcm, _, _⟩
  · exact ⟨_, 0, 0, rfl, Nat.le_refl _, by omega⟩
  · exact ⟨_, _, _, rfl, hn, hcm⟩
def shortS (s : ByteArray) (n : Nat) : ByteArray := if n < s.size then s.extract 0 n else s
theorem bsl_set {a : Option Addr} {n c : Nat} {l : Bs} (h : Sat w0 w (bsl (.slice a n c) l :: F)) {i : Nat} (hi : i < l.length) (x : UInt8) :
    ∃ g, a = some ⟨g, 0, none⟩ ∧ w.cell? ⟨g, i, none⟩ = some (.int .u8 (l[i]'hi).toNat) ∧ w.frozen? ⟨g, i, none⟩ = false ∧ Sat w0 (w.setCell ⟨g, i, none⟩ (.int .u8 x.toNat)) (bsl (.slice a n c) (l.set i x) :: F) := by
  rcases Sat.osl_cases h with ⟨_, hx, _⟩ | ⟨g, n', cap', cs, he, h1, h2, h3, h4, h5, h6⟩
  · have : (bys l).length = 0 := by rw [hx]; rfl
    rw [bys_len] at this; omega
  · cases he
    have hg : (bys l)[i]? = some (.int .u8 (l[i]'hi).toNat) := by unfold bys; simp [hi]
    refine ⟨g, rfl, h6.cellAt i _ (take_get h5 hg), h6.freeAt i, ?_⟩
    have h7 := h6.set i (.int .u8 x.toNat)
    refine Sat.osl_of_pt h7 ?_ h2 (by simpa using h3) h4 ?_
    · rw [bys_len, List.length_set, ← bys_len l]; exact h1
    · rw [Array.toList_setIfInBounds, List.take_set, h5]
      unfold bys
      rw [List.map_set]
theorem bsl_cap' {l : Bs} (h : Sat w0 w (bsl v l :: F)) : ∃ a n c, v = .slice a n c ∧ n ≤ c ∧ c ≤ 9223372036854775807 ∧ n = l.length := by
  rcases Sat.osl_cases h with ⟨rfl, hx, _⟩ | ⟨b, n', cap', cs, rfl, hl, hn, hc, hcm, _, _⟩
  · refine ⟨_, 0, 0, rfl, Nat.le_refl _, by omega, ?_⟩
    have : (bys l).length = 0 := by rw [hx]; rfl
    rw [bys_len] at this; exact this.symm
  · refine ⟨_, _, _, rfl, hn, hcm, ?_⟩
    rw [bys_len, Nat.mul_one] at hl; exact hl.symm
theorem strs_at {l : List ByteArray} {i : Nat} {x : ByteArray} (h : l[i]? = some x) : (strs l)[i]? = some (.string x) := by
  unfold strs
  rw [List.getElem?_map, h]; rfl
theorem strs_len (l : List ByteArray) : (strs l).length = l.length := by unfold strs; simp
def bsz (vs : List Value) (bs : List Bs) : HProp := stars (List.zipWith bsl vs bs)
theorem Ro.more {p : World → Prop} {L : List HProp} (h : Ro w0 F p) : Ro w0 (L ++ F) p := by
  induction L with
  | nil => exact h
  | cons A L ih => exact ih.cons
end
section
variable {w0 w : World} {F : List HProp} {v bv : Value}
set_option maxHeartbeats 1000000 in
theorem put4_c (x : Nat) (hx : x < 18446744073709551616) (h : Sat w0 w F) :
    Calls Tryz.prog 126 #[.int .u64 x, .int .i64 4] w (Rtn fun v w' => Sat w0 w' (bsl v (Frm.le x 4) :: F) ∧ ∃ a, v = .slice a 4 4) := by
  have Hx := Lib.hid hx
  clear hx
  have hmk : ∀ w, (Instr.makeSlice 42 (.int .i64 4) (.int .i64 4)).run Tryz.prog w = .ok (.slice (some ⟨w.heap.size, 0, none⟩) 4 4) (w.alloc (.cells #[.int .u8 0, .int .u8 0, .int .u8 0, .int .u8 0] 5)) := fun w => by kernel_rfl
  go_enter Tryz.func126, Tryz.ntmps126
  go_wp2_with fail
  have hA := h.alloc (.cells #[.int .u8 0, .int .u8 0, .int .u8 0, .int .u8 0] 5)
  have hB : Sat w0 (w.alloc (.cells #[.int .u8 0, .int .u8 0, .int .u8 0, .int .u8 0] 5)) (bsl (.slice (some ⟨w.heap.size, 0, none⟩) 4 4) [0, 0, 0, 0] :: F) := Sat.osl_of_pt hA rfl (Nat.le_refl _) (Nat.le_refl _) (by unfold maxLen; omega) rfl
  obtain ⟨b0, b1, b2, b3, hb0, hb1, hb2, hb3, hle⟩ : ∃ b0 b1 b2 b3 : UInt8, (x : Int) % 256 = b0.toNat ∧ (x : Int) / 256 % 256 = b1.toNat ∧ (x : Int) / 65536 % 256 = b2.toNat ∧ (x : Int) / 16777216 % 256 = b3.toNat ∧ Frm.le x 4 = [b0, b1, b2, b3] := by
    refine ⟨_, _, _, _, ?_, ?_, ?_, ?_, rfl⟩
    all_goals (rw [UInt8.toNat_ofNat']; omega)
  have Hle := Lib.hid hle
  clear hle hmk hA
  generalize w.heap.size = q at *
  go_loopg [17] 4 (fun g iq wr => ∃ (i : Nat) (l' : Bs), g = 4 - i ∧ i ≤ 4 ∧ iq = .int .i64 i ∧ l' = (match i with | 0 => [0, 0, 0, 0] | 1 => [b0, 0, 0, 0] | 2 => [b0, b1, 0, 0] | 3 => [b0, b1, b2, 0] | _ => [b0, b1, b2, b3]) ∧ Sat w0 wr (bsl (.slice (some ⟨q, 0, none⟩) 4 4) l' :: F))
  case atStart => exact ⟨0, _, rfl, by omega, rfl, rfl, hB⟩
  case round =>
    obtain ⟨i, l', rfl, hi, rfl, hl', hS⟩ := hrel
    clear hB
    obtain rfl | rfl | rfl | rfl | rfl : i = 0 ∨ i = 1 ∨ i = 2 ∨ i = 3 ∨ i = 4 := by omega
    · obtain rfl : l' = [0, 0, 0, 0] := hl'
      obtain ⟨g, he, e0, e1, hS5⟩ := bsl_set (i := 0) hS (by simp) b0
      cases he
      go_wp2_with fail
      go_roundg 3
      case measure => omega
      case rel => exact ⟨1, [b0, 0, 0, 0], rfl, by omega, rfl, rfl, hS5⟩
    · obtain rfl : l' = [b0, 0, 0, 0] := hl'
      obtain ⟨g, he, e0, e1, hS5⟩ := bsl_set (i := 1) hS (by simp) b1
      cases he
      go_wp2_with fail
      go_roundg 2
      case measure => omega
      case rel => exact ⟨2, [b0, b1, 0, 0], rfl, by omega, rfl, rfl, hS5⟩
    · obtain rfl : l' = [b0, b1, 0, 0] := hl'
      obtain ⟨g, he, e0, e1, hS5⟩ := bsl_set (i := 2) hS (by simp) b2
      cases he
      go_wp2_with fail
      go_roundg 1
      case measure => omega
      case rel => exact ⟨3, [b0, b1, b2, 0], rfl, by omega, rfl, rfl, hS5⟩
    · obtain rfl : l' = [b0, b1, b2, 0] := hl'
      obtain ⟨g, he, e0, e1, hS5⟩ := bsl_set (i := 3) hS (by simp) b3
      cases he
      go_wp2_with fail
      go_roundg 0
      case measure => omega
      case rel => exact ⟨4, [b0, b1, b2, b3], rfl, by omega, rfl, rfl, hS5⟩
    · obtain rfl : l' = [b0, b1, b2, b3] := hl'
      go_wp2
      go_ret
      exact ⟨_, rfl, by rw [Hle.out]; exact hS, _, rfl⟩
end
end Go.Proofs.YtmjldaedhmipkaaGreatDoor
namespace Go.Proofs.YtmjldaedhmipkaaGreatDoor
open Go Go.Sl Go.Med Go.ChangeShapes Go.WideShapes Go.RowKit
section
variable {H : Type} {enc : TypeId × Value → H} {P : Program} {W : World} {base : Nat} {spare : Nat → Bool} {held : Bool}
theorem flatten_idx {α : Type} (k : Nat) (hk : 0 < k) : ∀ (xs : List (List α)) (_ : ∀ x ∈ xs, x.length = k) (i : Nat) (y : α), xs.flatten[i]? = some y → ∃ x, xs[i / k]? = some x ∧ x[i % k]? = some y
  | [], _, _, _, h => by simp at h
  | x :: xs, hl, i, y, h => by
    have hx := hl x (.head _)
    rw [List.flatten_cons] at h
    rcases Nat.lt_or_ge i k with hi | hi
    · rw [List.getElem?_append_left (by omega)] at h
      refine ⟨x, ?_, ?_⟩
      · rw [Nat.div_eq_of_lt hi]; rfl
      · rw [Nat.mod_eq_of_lt hi]; exact h
    · rw [List.getElem?_append_right (by omega), hx] at h
      obtain ⟨z, h1, h2⟩ := flatten_idx k hk xs (fun q hq => hl q (.tail _ hq)) (i - k) y h
      have e1 : i / k = (i - k) / k + 1 := by
        conv => lhs; rw [show i = (i - k) + k by omega]
        rw [Nat.add_div_right _ hk]
      have e2 : i % k = (i - k) % k := Nat.mod_eq_sub_mod hi
      exact ⟨z, by rw [e1]; exact h1, by rw [e2]; exact h2⟩
theorem flatten_len {α : Type} (k : Nat) : ∀ (xs : List (List α)) (_ : ∀ x ∈ xs, x.length = k), xs.flatten.length = xs.length * k
  | [], _ => by simp
  | x :: xs, hl => by
    rw [List.flatten_cons, List.length_append, flatten_len k xs (fun q hq => hl q (.tail _ hq)), hl x (.head _), List.length_cons, Nat.succ_mul]; omega
theorem list_of_fun {α : Type} {n : Nat} {p : Nat → α → Prop} (h : ∀ i, i < n → ∃ x, p i x) : ∃ l : List α, l.length = n ∧ ∀ i x, l[i]? = some x → p i x := by
  induction n with
  | zero => exact ⟨[], rfl, fun i x h => by simp at h⟩
  | succ n ih =>
    obtain ⟨l, h1, h2⟩ := ih fun i hi => h i (Nat.lt_succ_of_lt hi)
    obtain ⟨x, hx⟩ := h n (Nat.lt_succ_self n)
    refine ⟨l ++ [x], by simp [h1], fun i y hy => ?_⟩
    rcases Nat.lt_trichotomy i n with hlt | rfl | hgt
    · rw [List.getElem?_append_left (by omega)] at hy; exact h2 i y hy
    · rw [List.getElem?_append_right (by omega), h1, Nat.sub_self] at hy
      cases hy; exact hx
    · rw [List.getElem?_eq_none (by simp; omega)] at hy; cases hy
theorem open_sl {t e : TypeId} {k fuel : Nat} {v : Value} {x : DataW H × List MemPlace} (ht : P.underlying t = some (.slice e)) (hc : P.cellsOf e = k) (hk : 0 < k) (h : DataW.trod enc P W base spare held fuel t [v] = some x) :
    ∃ elems : List (List Value), rdsl k v elems.flatten W ∧ capOk v ∧ ∀ cs ∈ elems, cs.length = k ∧ ∃ n y, DataW.trod enc P W base spare held n e cs = some y := by
  rcases Go.Deep.open_slice ht h with ⟨hcs, _⟩ | ⟨a, len, cap, m, n, D, Pl, hcs, hb, hl, hm, hmm, _, hx⟩
  · obtain rfl : v = .slice none 0 0 := by simpa using hcs
    exact ⟨[], rdsl_nil _ _ _, ⟨_, _, _, rfl, Nat.le_refl _, by omega⟩, by simp⟩
  · obtain rfl : v = .slice (some a) len cap := by simpa using hcs
    have hlm : len ≤ m := by rw [hmm]; split <;> omega
    rw [hc] at hx
    obtain ⟨l, l1, l2⟩ := list_of_fun (n := len) fun i hi => hx i (by omega)
    have hlen : ∀ cs ∈ l, cs.length = k := by
      intro cs hcs
      obtain ⟨i, hi, rfl⟩ := List.getElem_of_mem hcs
      obtain ⟨h1, _⟩ := l2 i _ (List.getElem?_eq_getElem hi)
      exact (World.cells?_some h1).2.1
    refine ⟨l, ⟨some a, len, cap, rfl, by rw [flatten_len k l hlen, l1], fun i y hy => ⟨a, rfl, ?_⟩⟩, ⟨_, _, _, rfl, hl, by unfold maxLen at hm; omega⟩, fun cs hcs => ⟨hlen cs hcs, ?_⟩⟩
    · obtain ⟨cs, h1, h2⟩ := flatten_idx k hk l hlen i y hy
      obtain ⟨h3, _⟩ := l2 _ _ h1
      have h4 := (World.cells?_some h3).2.2 (i % k) (Nat.mod_lt _ hk)
      rw [Go.Deep.add_add, h2] at h4
      rw [← h4]
      congr 2
      rw [Nat.mul_comm]; exact (Nat.div_add_mod i k).symm
    · obtain ⟨i, hi, rfl⟩ := List.getElem_of_mem hcs
      obtain ⟨_, h2⟩ := l2 i _ (List.getElem?_eq_getElem hi)
      exact ⟨n, _, h2⟩
theorem open_fields {t : TypeId} {fs : Array Field} {fuel : Nat} {cs : List Value} {x : DataW H × List MemPlace} (ht : P.underlying t = some (.struct fs)) (h : DataW.trod enc P W base spare held fuel t cs = some x) :
    cs.length = P.cellsOf t ∧ ∀ (i : Nat) (f : Field), fs[i]? = some f → ∃ n y, DataW.trod enc P W base spare held n f.type ((cs.drop f.offset).take (P.cellsOf f.type)) = some y := by
  obtain ⟨xs, n, _, _, hl, hxl, hf⟩ := DataW.trod_struct ht h
  refine ⟨hl, fun i f hi => ⟨n, ?_⟩⟩
  have hlt : i < xs.length := by rw [hxl]; exact (Array.getElem?_eq_some_iff.1 hi).1
  exact ⟨xs[i], by rw [hf i f hi]; exact List.getElem?_eq_getElem hlt⟩
theorem map_of {α β : Type} {f : α → β} {p : α → Prop} : ∀ (l : List β) (_ : ∀ y ∈ l, ∃ x, f x = y ∧ p x), ∃ xs : List α, xs.map f = l ∧ ∀ x ∈ xs, p x
  | [], _ => ⟨[], rfl, by simp⟩
  | y :: l, h => by
    obtain ⟨x, h1, h2⟩ := h y (.head _)
    obtain ⟨xs, h3, h4⟩ := map_of l fun z hz => h z (.tail _ hz)
    refine ⟨x :: xs, by simp [h1, h3], fun z hz => ?_⟩
    rcases List.mem_cons.1 hz with rfl | hz
    · exact h2
    · exact h4 z hz
def toBs (zs : List Int) : Bs := zs.map fun z => UInt8.ofNat z.toNat
theorem bys_toBs {zs : List Int} (h : ∀ z ∈ zs, (Lit.int .u8 z).wf = true) : bys (toBs zs) = zs.map (.int .u8) := by
  unfold bys toBs
  rw [List.map_map]
  apply List.map_congr_left
  intro z hz
  have hb := bounds_u8 (h z hz)
  simp only [Function.comp, Value.int.injEq, true_and]
  rw [UInt8.toNat_ofNat']
  omega
theorem in_kind {t e : TypeId} {k : IntKind} {fuel : Nat} {v : Value} {x : DataW H × List MemPlace} (ht : P.underlying t = some (.slice e)) (he : P.underlying e = some (.int k)) (hc : P.cellsOf e = 1) (h : DataW.trod enc P W base spare held fuel t [v] = some x) :
    ∃ l : List Int, rdsl 1 v (l.map (.int k)) W ∧ capOk v ∧ ∀ z ∈ l, (Lit.int k z).wf = true := by
  obtain ⟨elems, h1, h2, h3⟩ := open_sl ht hc (by omega) h
  obtain ⟨l, h4, h5⟩ := map_of (f := fun z : Int => [Value.int k z]) (p := fun z => (Lit.int k z).wf = true) elems fun cs hcs => by
    obtain ⟨_, n, y, h6⟩ := h3 cs hcs
    obtain ⟨z, hz, _, hw⟩ := DataW.trod_int he h6
    exact ⟨z, hz.symm, hw⟩
  refine ⟨l, ?_, h2, h5⟩
  rw [← h4] at h1
  have : (l.map fun z : Int => [Value.int k z]).flatten = l.map (.int k) := by
    clear h1 h4 h5
    induction l with
    | nil => rfl
    | cons z l ih => simp only [List.map_cons, List.flatten_cons, ih]; rfl
  rw [this] at h1
  exact h1
theorem in_bys {t e : TypeId} {fuel : Nat} {v : Value} {x : DataW H × List MemPlace} (ht : P.underlying t = some (.slice e)) (he : P.underlying e = some (.int .u8)) (hc : P.cellsOf e = 1) (h : DataW.trod enc P W base spare held fuel t [v] = some x) :
    ∃ l : Bs, rdsl 1 v (bys l) W ∧ capOk v := by
  obtain ⟨l, h1, h2, h3⟩ := in_kind ht he hc h
  exact ⟨toBs l, by rw [bys_toBs h3]; exact h1, h2⟩
theorem in_nums {t e : TypeId} {fuel : Nat} {v : Value} {x : DataW H × List MemPlace} (ht : P.underlying t = some (.slice e)) (he : P.underlying e = some (.int .i64)) (hc : P.cellsOf e = 1) (h : DataW.trod enc P W base spare held fuel t [v] = some x) :
    ∃ l : List Int, rdsl 1 v (ints l) W ∧ capOk v ∧ ∀ z ∈ l, inI z := by
  obtain ⟨l, h1, h2, h3⟩ := in_kind ht he hc h
  exact ⟨l, h1, h2, fun z hz => bounds_i64 (h3 z hz)⟩
theorem cell_old {w : World} {a : Addr} {v : Value} (h : Sat W w [Sl.old W]) (hc : W.cell? a = some v) : w.cell? a = some v := by
  have hlt : a.block < W.heap.size := by
    rcases Nat.lt_or_ge a.block W.heap.size with h1 | h1
    · exact h1
    · unfold World.cell? at hc
      rw [Array.getElem?_eq_none h1] at hc
      simp at hc
  unfold World.cell? at hc ⊢
  rw [h.old hlt]; exact hc
theorem rd_old {v : Value} {k : Nat} {xs : List Value} (h : rdsl k v xs W) : Ro W [Sl.old W] (rdsl k v xs) := by
  intro w hw
  obtain ⟨a, n, c, he, hl, hx⟩ := h
  refine ⟨a, n, c, he, hl, fun i x hi => ?_⟩
  obtain ⟨b, hb, hc⟩ := hx i x hi
  exact ⟨b, hb, cell_old hw hc⟩
theorem own : ownKnob Tryz.prog.godebug = none := by kernel_rfl
theorem laidOut : laidOutB Tryz.prog = true := by kernel_rfl
end
end Go.Proofs.YtmjldaedhmipkaaGreatDoor
namespace Go.Proofs.YtmjldaedhmipkaaGreatDoor
open Go Go.Sl Go.Med Go.MapKept Go.RowKit
section
variable {w0 w : World} {F : List HProp} {v bv dv : Value} {q : Nat}
section
variable {P : Program}
theorem run_part_int {e : TypeId} {k : IntKind} (he : P.underlying e = some (.int k)) (xs : Array Value) (i : Nat) (v : Value) (hv : xs[i]? = some v) (w : World) : (part e xs i).run P w = .ok v w := by
  unfold part isAgg
  simp [Sem.run_bind, run_underlying he, hv]
theorem run_eqItems_int (d : Nat) {e : TypeId} {k : IntKind} (he : P.underlying e = some (.int k)) (ks ls : List Int) : ∀ (is : List Nat), (∀ i ∈ is, i < ks.length ∧ i < ls.length) → ∀ w,
    (Op.eqItems (d + 1) e 1 (ks.map (.int k)).toArray (ls.map (.int k)).toArray is).run P w = .ok (is.all fun i => ks.getD i 0 == ls.getD i 0) w
  | [], _, w => by simp [Op.eqItems]
  | i :: is, h, w => by
    obtain ⟨h1, h2⟩ := h i (.head _)
    have a1 : ((ks.map (Value.int k)).toArray)[i * 1]? = some (.int k (ks.getD i 0)) := by
      rw [Nat.mul_one, List.getElem?_toArray, List.getElem?_map, List.getElem?_eq_getElem h1, List.getD_eq_getElem?_getD, List.getElem?_eq_getElem h1]; rfl
    have a2 : ((ls.map (Value.int k)).toArray)[i * 1]? = some (.int k (ls.getD i 0)) := by
      rw [Nat.mul_one, List.getElem?_toArray, List.getElem?_map, List.getElem?_eq_getElem h2, List.getD_eq_getElem?_getD, List.getElem?_eq_getElem h2]; rfl
    unfold Op.eqItems
    simp only [Sem.run_bind, run_part_int he _ _ _ a1, run_part_int he _ _ _ a2, Result.andThen_ok, run_equalIn_int w d e k k _ _ he]
    have ih := run_eqItems_int d he ks ls is (fun j hj => h j (.tail _ hj)) w
    cases hb : (ks.getD i 0 == ls.getD i 0)
    · simp only [List.all_cons, hb, Bool.not_false, if_true, Sem.run_pure, Bool.false_and]
    · simp only [List.all_cons, hb, Bool.not_true, Bool.false_eq_true, if_false, ih, Bool.true_and]
theorem all_eq (ks ls : List Int) (h : ks.length = ls.length) : ((List.range ks.length).all fun i => ks.getD i 0 == ls.getD i 0) = decide (ks = ls) := by
  rw [Bool.eq_iff_iff, List.all_eq_true, decide_eq_true_eq]
  constructor
  · intro hh
    apply List.ext_getElem h
    intro i h1 h2
    have := hh i (List.mem_range.2 h1)
    rw [beq_iff_eq, List.getD_eq_getElem?_getD, List.getD_eq_getElem?_getD, List.getElem?_eq_getElem h1, List.getElem?_eq_getElem h2] at this
    exact this
  · rintro rfl i _
    simp
theorem run_neq_ints {t e : TypeId} {n : Nat} {k : IntKind} {i : TypeInfo} (hu : P.underlying t = some (.array n e)) (he : P.underlying e = some (.int k)) (hi : P.info? e = some i) (hc : P.cellsOf e = 1) (ks ls : List Int) (h1 : ks.length = n) (h2 : ls.length = n) (w : World) :
    (binOp .neq t (.agg (ks.map (.int k)).toArray) (.agg (ls.map (.int k)).toArray)).run P w = .ok (.bool (!decide (ks = ls))) w := by
  have h := run_equalIn_array (P := P) w 9999 (ks.map (.int k)).toArray (ls.map (.int k)).toArray hu hi
  rw [hc, run_eqItems_int 9998 he ks ls (List.range n) (fun i hi => by have := List.mem_range.1 hi; omega)] at h
  rw [run_neq_struct, h, ← h1, all_eq ks ls (by omega)]
  rfl
theorem run_eqIn_ints {t e : TypeId} {n : Nat} {k : IntKind} {i : TypeInfo} (hu : P.underlying t = some (.array n e)) (he : P.underlying e = some (.int k)) (hi : P.info? e = some i) (hc : P.cellsOf e = 1) (ks ls : List Int) (h1 : ks.length = n) (h2 : ls.length = n) (w : World) :
    (Op.equalIn 10000 t (.agg (ks.map (.int k)).toArray) (.agg (ls.map (.int k)).toArray)).run P w = .ok (decide (ks = ls)) w := by
  have h := run_equalIn_array (P := P) w 9999 (ks.map (.int k)).toArray (ls.map (.int k)).toArray hu hi
  rw [hc, run_eqItems_int 9998 he ks ls (List.range n) (fun i hi => by have := List.mem_range.1 hi; omega)] at h
  rw [h, ← h1, all_eq ks ls (by omega)]
theorem run_loadVar_sub (w : World) (g off : Nat) (t ty : TypeId) (cs ks : Array Value) (fr : Nat × Nat) (d : TypeDesc) (hg : w.heap[g]? = some (.cells cs t fr)) (hk : ∀ j v, ks[j]? = some v → cs[off + j]? = some v)
    (hu : P.underlying ty = some d) (hd : (match d with | .struct _ | .array _ _ => true | _ => false) = true) (hi : (P.info? ty).map (·.size) = some ks.size) :
    (loadVar ty ⟨g, off, none⟩).run P w = .ok (.agg ks) w := by
  have hl : (loadCells ⟨g, off, none⟩ ks.toList.length).run P w = .ok ks.toList.toArray w :=
    run_loadCells_list (P := P) w ⟨g, off, none⟩ ks.toList (fun j v hv => by
      have hadd : (⟨g, off, none⟩ : Addr).add j = ⟨g, off + j, none⟩ := by unfold Addr.add; split <;> simp_all
      rw [hadd, cell_of_row w g _ cs t fr hg]
      exact hk j v (by simpa using hv))
  cases hq : P.info? ty with
  | none => simp [hq] at hi
  | some i =>
    have hs : i.size = ks.size := by simpa [hq] using hi
    have hagg : (isAgg ty).run P w = .ok true w := by
      unfold isAgg
      rw [Sem.run_bind, run_underlying hu w]
      cases d <;> simp_all
    simp only [Array.length_toList, Array.toArray_toList] at hl
    simp [loadVar, Sem.run_bind, hagg, sizeOf, typeInfo, hq, hs, hl]
theorem wpList_load_sub {ops : Array Oper} {rest : List Oper} {o : Oper} {a : Act} {w : World} {Q : Exit → Act → World → Prop} (hgd : o.guard = none) (ty : TypeId) (x : Operand) (ho : o.op = .load ty x)
    (g off : Nat) (hx : a.eval x = .pointer (some ⟨g, off, none⟩)) (t : TypeId) (cs ks : Array Value) (fr : Nat × Nat) (d : TypeDesc) (hg : w.heap[g]? = some (.cells cs t fr)) (hk : ∀ j v, ks[j]? = some v → cs[off + j]? = some v)
    (hu : P.underlying ty = some d) (hd : (match d with | .struct _ | .array _ _ => true | _ => false) = true) (hi : (P.info? ty).map (·.size) = some ks.size)
    (h : wpList P ops Q rest (a.put o.dst (.agg ks)) w) : wpList P ops Q (o :: rest) a w :=
  wpList_plain hgd fun _ hK => by
    unfold Oper.wp execOp
    simp only [ho, hx, Instr.loadAt, Instr.sureAddr, Sem.run_bind, Sem.run_pure, Result.andThen_ok, run_loadVar_sub w g off t ty cs ks fr d hg hk hu hd hi]
    exact hK _ _ h
end
def entL (x : Frm.Ent) (dv : Value) : List Value := .int .i64 x.tag :: (bys x.key ++ [dv])
def entA (x : Frm.Ent) (dv : Value) : Array Value := (entL x dv).toArray
theorem entA_size (x : Frm.Ent) (dv : Value) (hk : x.key.length = 32) : (entA x dv).size = 34 := by unfold entA entL; simp [bys, hk]
theorem entA_0 (x : Frm.Ent) (dv : Value) : (entA x dv)[0]? = some (.int .i64 x.tag) := rfl
theorem entA_33 (x : Frm.Ent) (dv : Value) (hk : x.key.length = 32) : (entA x dv)[33]? = some dv := by
  unfold entA entL
  rw [List.getElem?_toArray, List.getElem?_cons_succ, List.getElem?_append_right (by rw [bys_len]; omega), bys_len, hk]; rfl
theorem entA_key (x : Frm.Ent) (dv : Value) (hk : x.key.length = 32) : ∀ j v, (bys x.key).toArray[j]? = some v → (entA x dv)[1 + j]? = some v := by
  intro j v h
  rw [List.getElem?_toArray] at h
  have hj : j < (bys x.key).length := (List.getElem?_eq_some_iff.1 h).1
  unfold entA entL
  rw [List.getElem?_toArray, Nat.add_comm, List.getElem?_cons_succ, List.getElem?_append_left hj]; exact h
theorem bys_ints (k : Bs) : bys k = (k.map fun b => (b.toNat : Int)).map (.int .u8) := by unfold bys; rw [List.map_map]; rfl
theorem ints_inj {k l : Bs} (h : (k.map fun b => (b.toNat : Int)) = l.map fun b => (b.toNat : Int)) : k = l := by
  induction k generalizing l with
  | nil => cases l with
    | nil => rfl
    | cons => simp at h
  | cons a k ih => cases l with
    | nil => simp at h
    | cons b l =>
      simp only [List.map_cons, List.cons.injEq] at h
      rw [ih h.2]
      congr 1
      exact UInt8.toNat_inj.1 (by omega)
set_option maxRecDepth 20000 in
theorem eqIn_key (k l : Bs) (hk : k.length = 32) (hl : l.length = 32) (w : World) : (Op.equalIn 10000 41 (.agg (bys k).toArray) (.agg (bys l).toArray)).run Tryz.prog w = .ok (decide (k = l)) w := by
  obtain ⟨i, hi, _⟩ := info8p
  have := run_eqIn_ints (P := Tryz.prog) Tryz.underlying41 Tryz.underlying5 hi (by kernel_rfl) (k.map fun b => (b.toNat : Int)) (l.map fun b => (b.toNat : Int)) (by simpa using hk) (by simpa using hl) w
  rw [bys_ints, bys_ints, this]
  congr 2
  rw [eq_iff_iff]
  exact ⟨fun h => ints_inj h, fun h => by rw [h]⟩
set_option maxRecDepth 20000 in
theorem zero_lit : (bys Frm.zero32).toArray = #[.int .u8 0, .int .u8 0, .int .u8 0, .int .u8 0, .int .u8 0, .int .u8 0, .int .u8 0, .int .u8 0, .int .u8 0, .int .u8 0, .int .u8 0, .int .u8 0, .int .u8 0, .int .u8 0, .int .u8 0, .int .u8 0, .int .u8 0, .int .u8 0, .int .u8 0, .int .u8 0, .int .u8 0, .int .u8 0, .int .u8 0, .int .u8 0, .int .u8 0, .int .u8 0, .int .u8 0, .int .u8 0, .int .u8 0, .int .u8 0, .int .u8 0, .int .u8 0] := rfl
set_option maxRecDepth 20000 in
theorem eqIn_zero (k : Bs) (hk : k.length = 32) (w : World) : (Op.equalIn 10000 41 (.agg (bys k).toArray) (.agg #[.int .u8 0, .int .u8 0, .int .u8 0, .int .u8 0, .int .u8 0, .int .u8 0, .int .u8 0, .int .u8 0, .int .u8 0, .int .u8 0, .int .u8 0, .int .u8 0, .int .u8 0, .int .u8 0, .int .u8 0, .int .u8 0, .int .u8 0, .int .u8 0, .int .u8 0, .int .u8 0, .int .u8 0, .int .u8 0, .int .u8 0, .int .u8 0, .int .u8 0, .int .u8 0, .int .u8 0, .int .u8 0, .int .u8 0, .int .u8 0, .int .u8 0, .int .u8 0])).run Tryz.prog w = .ok (decide (k = Frm.zero32)) w := by
  rw [← zero_lit]
  exact eqIn_key k _ hk rfl w
end
section
variable {w0 w : World} {F : List HProp} {v bv dv : Value} {q : Nat}
set_option maxRecDepth 20000 in
set_option maxHeartbeats 1000000 in
theorem check_c (x : Frm.Ent) (hk : x.key.length = 32) (a : Option Addr) (c : Nat) (h : Sat w0 w F) :
    Calls Tryz.prog 124 #[.agg (entA x (.slice a x.data.length c))] w (Rtn fun v w' => v = errno (Frm.check x) ∧ Sat w0 w' F) := by
  have hA := h.alloc (.cells (entA x (.slice a x.data.length c)) 44)
  have c0 := hA.cellAt 0 _ (entA_0 x _)
  have c33 := hA.cellAt 33 _ (entA_33 x _ hk)
  have hat := hA.at
  have hnk := eqIn_zero x.key hk
  have hkk := entA_key x (.slice a x.data.length c) hk
  have Hkk := Lib.hid hkk; have Hat := Lib.hid hat
  have hks : (bys x.key).toArray.size = 32 := by simp [bys, hk]
  have Hks := Lib.hid hks
  have HA := Lib.hid hA.drop
  clear hkk hat hks hA
  generalize hL : x.data.length = L at *
  have HL := Lib.hid hL; clear hL
  by_cases t2 : x.tag = 2
  · rw [t2] at c0
    by_cases hz : x.key = Frm.zero32
    · have hzd : decide (x.key = Frm.zero32) = true := decide_eq_true hz
      have Hz := Lib.hid hz
      clear hz
      by_cases h0 : 0 < L
      · have Hf := Lib.hid (show Frm.check x = 4 by unfold Frm.check; simp [t2, Hz.out, HL.out, h0])
        have h0i : (0 : Int) < (L : Int) := by omega
        go_enter Tryz.func124, Tryz.ntmps124
        go_wp2_with (refine wpList_load_sub (P := Tryz.prog) (by rfl) 41 _ (by rfl) _ 1 (by rfl) _ _ (bys x.key).toArray (0, 0) _ Hat.out Hkk.out Tryz.underlying41 (by rfl) (by rw [Hks.out]; kernel_rfl) ?_)
        go_ret
        exact ⟨errno 4, rfl, by rw [Hf.out], HA.out⟩
      · obtain rfl : L = 0 := by omega
        have Hf := Lib.hid (show Frm.check x = 0 by unfold Frm.check; simp [t2, Hz.out, HL.out])
        go_enter Tryz.func124, Tryz.ntmps124
        go_wp2_with (refine wpList_load_sub (P := Tryz.prog) (by rfl) 41 _ (by rfl) _ 1 (by rfl) _ _ (bys x.key).toArray (0, 0) _ Hat.out Hkk.out Tryz.underlying41 (by rfl) (by rw [Hks.out]; kernel_rfl) ?_)
        go_ret
        exact ⟨errno 0, rfl, by rw [Hf.out], HA.out⟩
    · have hzd : decide (x.key = Frm.zero32) = false := decide_eq_false hz
      have Hf := Lib.hid (show Frm.check x = 4 by unfold Frm.check; simp [t2, hz])
      clear hz
      go_enter Tryz.func124, Tryz.ntmps124
      go_wp2_with (refine wpList_load_sub (P := Tryz.prog) (by rfl) 41 _ (by rfl) _ 1 (by rfl) _ _ (bys x.key).toArray (0, 0) _ Hat.out Hkk.out Tryz.underlying41 (by rfl) (by rw [Hks.out]; kernel_rfl) ?_)
      go_ret
      exact ⟨errno 4, rfl, by rw [Hf.out], HA.out⟩
  · have t2b : (x.tag == 2) = false := by simpa using t2
    clear hnk
    by_cases t0 : x.tag = 0
    · rw [t0] at c0
      by_cases hb : 16384 < L
      · have Hf := Lib.hid (show Frm.check x = 5 by unfold Frm.check; simp [t0, HL.out, hb])
        have hbi : (16384 : Int) < (L : Int) := by omega
        go_enter Tryz.func124, Tryz.ntmps124
        go_wp2
        go_ret
        exact ⟨errno 5, rfl, by rw [Hf.out], HA.out⟩
      · have Hf := Lib.hid (show Frm.check x = 0 by unfold Frm.check; simp [t0, HL.out, hb])
        have hbi : ¬ (16384 : Int) < (L : Int) := by omega
        go_enter Tryz.func124, Tryz.ntmps124
        go_wp2
        go_ret
        exact ⟨errno 0, rfl, by rw [Hf.out], HA.out⟩
    · have t0b : (x.tag == 0) = false := by simpa using t0
      by_cases t1 : x.tag = 1
      · rw [t1] at c0
        by_cases h0 : 0 < L
        · have Hf := Lib.hid (show Frm.check x = 4 by unfold Frm.check; simp [t1, HL.out, h0])
          have h0i : (0 : Int) < (L : Int) := by omega
          go_enter Tryz.func124, Tryz.ntmps124
          go_wp2
          go_ret
          exact ⟨errno 4, rfl, by rw [Hf.out], HA.out⟩
        · obtain rfl : L = 0 := by omega
          have Hf := Lib.hid (show Frm.check x = 0 by unfold Frm.check; simp [t1, HL.out])
          go_enter Tryz.func124, Tryz.ntmps124
          go_wp2
          go_ret
          exact ⟨errno 0, rfl, by rw [Hf.out], HA.out⟩
      · have t1b : (x.tag == 1) = false := by simpa using t1
        have Hf := Lib.hid (show Frm.check x = 4 by unfold Frm.check; simp [t0, t1, t2])
        clear t0 t1 t2
        generalize x.tag = T at *
        go_enter Tryz.func124, Tryz.ntmps124
        go_wp2
        go_ret
        exact ⟨errno 4, rfl, by rw [Hf.out], HA.out⟩
end
section
variable {w0 w : World} {F : List HProp} {v bv dv : Value} {q : Nat}
theorem make_u8 (l c : Nat) (h1 : l ≤ c) (h2 : c ≤ 1099511627776) (w : World) :
    (Instr.makeSlice 42 (.int .i64 l) (.int .i64 c)).run Tryz.prog w = .ok (.slice (some ⟨w.heap.size, 0, none⟩) l c) (w.alloc (.cells (madeCells #[.int .u8 0] c) 5)) := by
  obtain ⟨i, hi, hz0, hz1, hz2⟩ := info8p
  have := run_make (P := Tryz.prog) w 42 5 i _ Tryz.underlying42 hi hz0 .i64 .i64 (l : Int) (c : Int) (by omega) (by omega) (by rw [hz2]; omega) (by omega)
  simp only [Int.toNat_natCast, hz1, Nat.mul_one] at this
  exact this
theorem made_bsl {l c : Nat} (h1 : l ≤ c) (h2 : c ≤ 1099511627776) (h : Sat w0 w (pt q (.cells (madeCells #[.int .u8 0] c) 5 (0,0)) :: F)) : Sat w0 w (bsl (.slice (some ⟨q, 0, none⟩) l c) (List.replicate l 0) :: F) := by
  refine Sat.osl_of_pt h (by rw [bys_len, List.length_replicate, Nat.mul_one]) h1 (by rw [size_madeCells, Nat.mul_one]; exact Nat.le_refl _) (by unfold maxLen; omega) ?_
  rw [toList_madeCells_one, Nat.mul_one, List.take_replicate, Nat.min_eq_left h1]
  unfold bys
  rw [List.map_replicate]; rfl
section
variable {ops : Array Oper} {rest : List Oper} {o : Oper} {a : Act} {Q : Exit → Act → World → Prop} {sv : Value}
theorem wpList_copy_b (hgd : o.guard = none) (d s : Operand)
    (ho : o.op = .call { callee := .builtin .copy, args := #[d, s], argTypes := #[42, 42] }) (g n c : Nat) (hd : a.eval d = .slice (some ⟨g, 0, none⟩) n c) (hs : a.eval s = sv)
    {l x : Bs} (h : Sat w0 w (bsl (.slice (some ⟨g, 0, none⟩) n c) l :: F)) (hx : rdsl 1 sv (bys x) w) (h0 : x ≠ []) (hl : x.length ≤ l.length)
    (hK : ∀ w', Sat w0 w' (bsl (.slice (some ⟨g, 0, none⟩) n c) (x ++ l.drop x.length) :: F) → wpList Tryz.prog ops Q rest (a.put o.dst (goInt x.length)) w') : wpList Tryz.prog ops Q (o :: rest) a w := by
  obtain ⟨i, hi, hz0, hz1, hz2⟩ := info8p
  obtain ⟨sa, sn, sc, rfl, hsl, hcell⟩ := hx
  rw [bys_len, Nat.mul_one] at hsl
  obtain ⟨ad, rfl⟩ : ∃ ad, sa = some ad := by
    cases x with
    | nil => exact absurd rfl h0
    | cons b x => obtain ⟨ad, h1, _⟩ := hcell 0 _ rfl; exact ⟨ad, h1⟩
  rcases Sat.osl_cases h with ⟨he, _⟩ | ⟨g', n', c', cs, he, e1, e2, e3, e4, e5, hp⟩
  · cases he
  · cases he
    rw [bys_len, Nat.mul_one] at e1
    rw [Nat.mul_one] at e3 e5
    have hsz : (Tryz.prog.info? 5).map (·.size) = some 1 := by rw [hi]; simp [hz1]
    refine wpList_copy_own hgd d s _ _ ho 5 Tryz.underlying42 hsz g 0 n c ad sn sc hd hs cs 5 hp.at (bys x) (by rw [bys_len]; show _ = min sn n; omega) (fun j v hj => by obtain ⟨b, hb, hc⟩ := hcell j v hj; cases hb; exact hc) (by rw [bys_len]; omega) (bys_one _) ?_
    rw [bys_len]
    refine hK _ ?_
    have h1 := hp.turn (w' := w.setRow g (cs.toList.take 0 ++ (bys x ++ cs.toList.drop (0 + x.length))).toArray) rfl rfl rfl (by simp) (setRow_heap w g cs _ _ _ hp.at) (fun j hj _ => setRow_other w g j _ hj)
    refine Sat.osl_of_pt h1 ?_ e2 ?_ e4 ?_
    · rw [bys_len, List.length_append, List.length_drop, Nat.mul_one]; omega
    · simp only [List.take_zero, List.nil_append, List.size_toArray, List.length_append, List.length_drop, bys_len, Array.length_toList]; omega
    · simp only [List.take_zero, List.nil_append, Nat.zero_add, Nat.mul_one]
      unfold bys at e5 ⊢
      rw [List.map_append, List.map_drop, ← e5, List.take_append, List.length_map, List.take_of_length_le (by simp; omega), List.drop_take]
end
set_option maxRecDepth 20000 in
set_option maxHeartbeats 1000000 in
theorem fsize_c (x : Frm.Ent) (hk : x.key.length = 32) (a : Option Addr) (c : Nat) (h : Sat w0 w F) (hL : x.data.length ≤ 1099511627776) :
    Calls Tryz.prog 125 #[.agg (entA x (.slice a x.data.length c))] w (Rtn fun v w' => v = .int .i64 (Frm.size x : Nat) ∧ Sat w0 w' F) := by
  have hA := h.alloc (.cells (entA x (.slice a x.data.length c)) 44)
  have hch := check_c x hk a c hA
  have hat := hA.at
  have hsz := entA_size x (.slice a x.data.length c) hk
  have Hat := Lib.hid hat; have Hsz := Lib.hid hsz; have Hk := Lib.hid hk; have HL := Lib.hid hL
  clear hat hsz hk hA hL
  go_enter Tryz.func125, Tryz.ntmps125
  go_wp2_with (refine wpList_load_row (P := Tryz.prog) (by rfl) 44 _ (by rfl) _ (by rfl) _ _ (0, 0) _ Hat.out Tryz.underlying44 (by rfl) (by rw [Hsz.out]; kernel_rfl) ?_)
  refine hch.mono ?_
  rintro e w1 ⟨v, rfl, rfl, hS1⟩
  have c0 := hS1.cellAt 0 _ (entA_0 x _)
  have c33 := hS1.cellAt 33 _ (entA_33 x _ Hk.out)
  clear hch
  by_cases hc : Frm.check x = 0
  · by_cases ht : x.tag = 2
    · have Hf := Lib.hid (show Frm.size x = 9 by unfold Frm.size; simp [hc, ht])
      rw [hc]
      rw [ht] at c0
      go_wp2
      go_ret
      exact ⟨.int .i64 9, rfl, by rw [Hf.out]; rfl, hS1.drop⟩
    · have Hf := Lib.hid (show Frm.size x = 41 + x.data.length by unfold Frm.size; simp [hc, ht])
      have htb : (x.tag == 2) = false := by simpa using ht
      have hwr : IntKind.i64.wrap (41 + (x.data.length : Int)) = 41 + (x.data.length : Int) := IntWalk.i64_in _ (by have := HL.out; omega)
      rw [hc]
      clear ht
      generalize x.tag = T at *
      go_wp2
      go_ret
      exact ⟨.int .i64 (41 + (x.data.length : Int)), rfl, by rw [Hf.out]; rfl, hS1.drop⟩
  · have Hf := Lib.hid (show Frm.size x = 0 by unfold Frm.size; simp [hc])
    have hcb : (Frm.check x == 0) = false := by simpa using hc
    clear hc
    generalize Frm.check x = E at *
    go_wp2
    go_ret
    exact ⟨.int .i64 0, rfl, by rw [Hf.out]; rfl, hS1.drop⟩
end
end Go.Proofs.YtmjldaedhmipkaaGreatDoor
