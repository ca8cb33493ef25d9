import Derived.Test.YtdhhbajggafdhaaDoorFr6
import Derived.Test.YtdhhbajggafdhaaDoorSegM
import Derived.Lib.SlBytesConst
import Derived.Laws.IdiomStrings
/- segs.Name. -/
namespace Go.Proofs.YtdhhbajggafdhaaDoor
open Go Go.Sl Go.Med Go.MapKept Go.RowKit
set_option linter.unusedVariables false
section
variable {w0 w : World} {F : List HProp} {v bv dv x : Value} {q : Nat}
/-- Bytes in a row that the run-time marked behind its end. -/
def mrow (q : Nat) (l : Bs) : HProp := pt q (.cells (bys l).toArray 5 (l.length, l.length + 1))
theorem mrow_set {l : Bs} (h : Sat w0 w (mrow q l :: F)) {i : Nat} (hi : i < l.length) (x : UInt8) :
    w.cell? ⟨q, i, none⟩ = some (.int .u8 (l[i]'hi).toNat) ∧ w.frozen? ⟨q, i, none⟩ = false ∧ Sat w0 (w.setCell ⟨q, i, none⟩ (.int .u8 x.toNat)) (mrow q (l.set i x) :: F) := by
  have hb := h.at
  refine ⟨?_, ?_, ?_⟩
  · simp only [World.cell?, hb]
    rw [List.getElem?_toArray]
    unfold bys
    rw [List.getElem?_map, List.getElem?_eq_getElem hi]; rfl
  · simp only [World.frozen?, hb]
    simp; omega
  · refine h.turn rfl rfl rfl (by simp) ?_ ?_
    · simp only [World.setCell, Array.getElem?_modify, if_true, hb]
      simp only [Option.map_some, Option.some.injEq]
      rw [List.length_set]
      congr 1
      unfold bys
      rw [List.setIfInBounds_toArray, List.map_set, if_neg (by simp)]
    · intro j hj _
      simp only [World.setCell, Array.getElem?_modify]
      rw [if_neg (Ne.symm hj)]
theorem mrow_text {l : Bs} (h : Sat w0 w (mrow q l :: F)) (c : Nat) : (convert 31 9 (.slice (some ⟨q, 0, none⟩) l.length c)).run Tryd.prog w = .ok (.string ⟨l.toArray⟩) w := by
  refine run_convert_bytes_back (P := Tryd.prog) w _ _ 5 _ c l Tryd.underlying31 Tryd.underlying5 Tryd.underlying9 (fun j hj => ?_)
  rw [add_zero_lit]
  exact (mrow_set h hj 0).1
set_option maxRecDepth 20000 in
set_option maxHeartbeats 1000000 in
theorem sname_c (n : Int) (h : Sat w0 w F) :
    Calls Tryd.prog 11 #[.int .i64 n] w (Rtn fun v w' => v = .string (Seg.name n) ∧ Sat w0 w' F) := by
  by_cases h1 : n < 0
  · have Hf := Lib.hid (show Seg.name n = ByteArray.empty by unfold Seg.name; rw [if_pos (.inl h1)])
    go_enter Tryd.func11, Tryd.ntmps11
    go_wp2
    go_ret
    exact ⟨_, rfl, by rw [Hf.out]; rfl, h⟩
  have h1d : decide (n < 0) = false := decide_eq_false h1
  by_cases h2 : 1048576 ≤ n
  · have Hf := Lib.hid (show Seg.name n = ByteArray.empty by unfold Seg.name; rw [if_pos (.inr h2)])
    go_enter Tryd.func11, Tryd.ntmps11
    go_wp2
    go_ret
    exact ⟨_, rfl, by rw [Hf.out]; rfl, h⟩
  have h2d : decide (1048576 ≤ n) = false := decide_eq_false h2
  obtain ⟨m0, rfl⟩ := Int.eq_ofNat_of_zero_le (show 0 ≤ n by omega)
  have Hf := Lib.hid (show Seg.name (m0 : Int) = ⟨(Seg.lead ++ Seg.digs m0 8).toArray⟩ by unfold Seg.name; rw [if_neg (by omega)]; rfl)
  have hm0 : m0 < 10 ^ 8 := by omega
  have Hm := Lib.hid hm0
  have hcv := Lib.run_convert_bytes_const (P := Tryd.prog) w 31 5 #[.int .u8 115, .int .u8 101, .int .u8 103, .int .u8 46, .int .u8 48, .int .u8 48, .int .u8 48, .int .u8 48, .int .u8 48, .int .u8 48, .int .u8 48, .int .u8 48] 12 12 Tryd.underlying31 Tryd.underlying5
  have hB : Sat w0 (w.alloc (.cells #[.int .u8 115, .int .u8 101, .int .u8 103, .int .u8 46, .int .u8 48, .int .u8 48, .int .u8 48, .int .u8 48, .int .u8 48, .int .u8 48, .int .u8 48, .int .u8 48] 5 (12, 13))) (mrow w.heap.size (Seg.lead ++ List.replicate 8 48) :: F) := h.alloc _
  simp only [List.size_toArray, List.length_cons, List.length_nil, Nat.zero_add, Nat.reduceAdd] at hcv
  clear hm0
  go_enter Tryd.func11, Tryd.ntmps11
  go_wp2_with fail
  clear h1 h2 h1d h2d
  generalize w.heap.size = q at *
  go_loopg [0, 4] 8 (fun g nv iq wr => ∃ (k m : Nat) (tail : Bs), g = k ∧ k ≤ 8 ∧ nv = .int .i64 m ∧ iq = .int .i64 ((k : Int) + 3) ∧ m < 10 ^ k ∧ Seg.lead ++ Seg.digs m0 8 = Seg.lead ++ Seg.digs m k ++ tail ∧ tail.length = 8 - k ∧
    Sat w0 wr (mrow q (Seg.lead ++ List.replicate k 48 ++ tail) :: F))
  case atStart => exact ⟨8, m0, [], rfl, Nat.le_refl _, rfl, rfl, Hm.out, by simp, rfl, by simpa using hB⟩
  case round =>
    obtain ⟨k, m, tail, hgk, hk, rfl, rfl, hm, hfin, htl, hS⟩ := hrel
    have hgk' := hgk.symm
    subst hgk'
    have Hfin := Lib.hid hfin; have Htl := Lib.hid htl
    clear hB hfin htl
    by_cases hp : 0 < m
    · obtain ⟨k', rfl⟩ : ∃ k', k = k' + 1 := by
        cases k with
        | zero => simp at hm; omega
        | succ k' => exact ⟨k', rfl⟩
      have hlen : (Seg.lead ++ List.replicate (k' + 1) 48 ++ tail).length = 12 := by
        have := Htl.out
        simp [Seg.lead]; omega
      have hidx : k' + 4 < (Seg.lead ++ List.replicate (k' + 1) 48 ++ tail).length := by omega
      obtain ⟨e0, e1, hS5⟩ := mrow_set hS hidx (UInt8.ofNat (48 + m % 10))
      generalize (Seg.lead ++ List.replicate (k' + 1) 48 ++ tail)[k' + 4]'hidx = old at e0
      have hpi : (0 : Int) < (m : Int) := by omega
      have hki : (k' : Int) + 4 < 12 := by omega
      have hdg : 48 + (m : Int) % 10 = ((UInt8.ofNat (48 + m % 10)).toNat : Int) := by rw [UInt8.toNat_ofNat']; omega
      have hm2 : m < 10 * 10 ^ k' := by rw [Nat.pow_succ] at hm; omega
      have hbig : 10 ^ (k' + 1) ≤ 10 ^ 8 := Nat.pow_le_pow_right (by decide) hk
      have hw1 : IntKind.i64.wrap ((m : Int) / 10) = (m : Int) / 10 := by rw [IntKind.wrap_i64]; omega
      have Hm2 := Lib.hid hm2
      have Hdg := Lib.hid (show Seg.digs m (k' + 1) = Seg.digs (m / 10) k' ++ [UInt8.ofNat (48 + m % 10)] by rfl)
      have hc3 : ((k' + 1 : Nat) : Int) + 3 = (k' : Int) + 4 := by omega
      rw [hc3]
      clear hm hm2 hlen hidx hbig
      generalize UInt8.ofNat (48 + m % 10) = dg at *
      go_wp2_with fail
      go_roundg k'
      case rel =>
        refine ⟨k', m / 10, dg :: tail, rfl, by omega, ?_, ?_, ?_, ?_, ?_, ?_⟩
        · congr 1
        · congr 1; omega
        · have := Hm2.out; omega
        · rw [Hfin.out, Hdg.out]; simp
        · have := Htl.out; simp; omega
        · have e : (Seg.lead ++ List.replicate (k' + 1) 48 ++ tail).set (k' + 4) dg = Seg.lead ++ List.replicate k' 48 ++ dg :: tail := by
            have hl : (Seg.lead ++ List.replicate k' (48 : UInt8)).length = k' + 4 := by simp only [Seg.lead, List.length_append, List.length_replicate, List.length_cons, List.length_nil]; omega
            rw [List.replicate_succ', ← List.append_assoc, List.append_assoc (Seg.lead ++ List.replicate k' 48), List.set_append_right _ _ (by omega), hl, Nat.sub_self]
            rfl
          rw [← e]; exact hS5
      case measure => omega
    · have hm0 : m = 0 := by omega
      subst hm0
      have htx := mrow_text hS 12
      have hlen : (Seg.lead ++ List.replicate k 48 ++ tail).length = 12 := by
        have := Htl.out
        simp [Seg.lead]; omega
      rw [hlen] at htx
      clear hm
      go_wp2
      go_ret
      refine ⟨_, rfl, ?_, hS.drop⟩
      rw [Hf.out, Hfin.out, Seg.digs_zero]; simp
end
end Go.Proofs.YtdhhbajggafdhaaDoor
