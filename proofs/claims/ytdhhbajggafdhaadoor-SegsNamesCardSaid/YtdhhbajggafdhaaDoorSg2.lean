import Derived.Test.YtdhhbajggafdhaaDoorSg1
/- segs.Number. -/
namespace Go.Proofs.YtdhhbajggafdhaaDoor
open Go Go.Sl Go.Med Go.MapKept Go.RowKit
set_option linter.unusedVariables false
section
variable {w0 w : World} {F : List HProp} {v bv dv x : Value} {q : Nat}
theorem ba_take (s : ByteArray) : (s.extract 0 4).toList = s.data.toList.take 4 := by
  rw [Go.Lib.extract_toList]; simp
theorem ba_drop (s : ByteArray) (h : s.size = 12) : (s.extract 4 12).data.toList = s.data.toList.drop 4 := by
  rw [Go.Lib.extract_data]
  refine List.take_of_length_le ?_
  have : s.data.toList.length = 12 := by rw [Array.length_toList]; exact h
  rw [List.length_drop]; omega
set_option maxRecDepth 20000 in
set_option maxHeartbeats 1000000 in
theorem snumber_c (s : ByteArray) (h : Sat w0 w F) :
    Calls Tryd.prog 9 #[.string s] w (Rtn fun v w' => v = .tuple #[.int .i64 (Seg.number s).1, .bool (Seg.number s).2] ∧ Sat w0 w' F) := by
  by_cases h1 : s.size = 12
  · have hs : ((s.size : Int) = 12) := by omega
    have h1d : decide ((s.size : Int) = 12) = true := decide_eq_true hs
    by_cases h2 : s.data.toList.take 4 = Seg.lead
    · have h2d : ((s.extract 0 4).toList == [115, 101, 103, 46]) = true := by rw [ba_take s, h2]; rfl
      have hN := Lib.hid (show Seg.number s = if (s.data.toList.drop 4).all Seg.isDig = true ∧ Seg.val (s.data.toList.drop 4) < 1048576 then ((Seg.val (s.data.toList.drop 4) : Int), true) else (0, false) by
        unfold Seg.number
        simp only [Array.length_toList, show s.data.size = 12 from h1, h2, true_and])
      have Hb := Lib.hid (ba_drop s h1)
      have hcv := run_bytes_of_string (P := Tryd.prog) w 9 31 5 (s.extract 4 12) Tryd.underlying9 Tryd.underlying31 Tryd.underlying5
      have hz : (s.extract 4 12).size = 8 := by simp [ByteArray.size_extract, h1]
      have hcell : ∀ (i : Nat) (hi : i < 8), ((w.alloc (.cells (bytesRow (s.extract 4 12) (grownCap w (s.extract 4 12).size 0 5)) 5 ((bytesRow (s.extract 4 12) (grownCap w (s.extract 4 12).size 0 5)).size, (bytesRow (s.extract 4 12) (grownCap w (s.extract 4 12).size 0 5)).size + 1))).drew).cell? ⟨w.heap.size, 0 + i, none⟩ = some (.int .u8 ((s.extract 4 12).data[i]'(by have : (s.extract 4 12).data.size = 8 := hz; omega)).toNat) := by
        intro i hi
        rw [Nat.zero_add]
        exact (World.cell?_alloc_mark w.drew _ _ _ _).trans (bytesRow_at _ _ _ _)
      have hB : Sat w0 ((w.alloc (.cells (bytesRow (s.extract 4 12) (grownCap w (s.extract 4 12).size 0 5)) 5 ((bytesRow (s.extract 4 12) (grownCap w (s.extract 4 12).size 0 5)).size, (bytesRow (s.extract 4 12) (grownCap w (s.extract 4 12).size 0 5)).size + 1))).drew) F := (h.drew.alloc _).drop
      rw [hz] at hcv hcell hB
      have Hlen := Lib.hid (show (s.data.toList.drop 4).length = 8 by rw [List.length_drop, Array.length_toList, show s.data.size = 12 from h1])
      have hcell' : ∀ (i : Nat) (hi : i < (s.data.toList.drop 4).length), ((w.alloc (.cells (bytesRow (s.extract 4 12) (grownCap w 8 0 5)) 5 ((bytesRow (s.extract 4 12) (grownCap w 8 0 5)).size, (bytesRow (s.extract 4 12) (grownCap w 8 0 5)).size + 1))).drew).cell? ⟨w.heap.size, 0 + i, none⟩ = some (.int .u8 ((s.data.toList.drop 4)[i]'hi).toNat) := by
        intro i hi
        rw [hcell i (by rw [← Hlen.out]; exact hi)]
        congr 4
        have := Hb.out
        rw [← Array.getElem_toList]
        exact getElem_congr this rfl _
      clear hcell
      generalize grownCap w 8 0 5 = cap at *
      generalize s.data.toList.drop 4 = l at *
      go_enter Tryd.func9, Tryd.ntmps9
      go_wp2_with fail
      clear hcv h1d h2d hs h1 h2
      generalize World.drew _ = wb at *
      generalize w.heap.size = q at *
      go_loopg [4, 19] 8 (fun g nv iq wr => ∃ i : Nat, g = 8 - i ∧ i ≤ 8 ∧ nv = .int .i64 (Seg.val (l.take i)) ∧ iq = .int .i64 i ∧ (l.take i).all Seg.isDig = true ∧ wr = wb)
      case atStart => exact ⟨0, rfl, by omega, rfl, rfl, rfl, rfl⟩
      case round =>
        obtain ⟨i, rfl, hi, rfl, rfl, hall, rfl⟩ := hrel
        have Hall := Lib.hid hall
        clear hall
        by_cases hi' : i < 8
        · have hil : i < l.length := by have := Hlen.out; omega
          have hc := hcell' i hil
          rw [Nat.zero_add] at hc
          have Hc := Lib.hid (List.getElem_mem hil)
          have hii : (i : Int) < 8 := by omega
          have Hn := Lib.hid (show Seg.val (l.take (i + 1)) = 10 * Seg.val (l.take i) + (l[i].toNat - 48) by rw [List.take_succ_eq_append_getElem hil, Seg.val_snoc])
          have Hd := Lib.hid (show (l.take (i + 1)).all Seg.isDig = Seg.isDig l[i] by rw [List.take_succ_eq_append_getElem hil, List.all_append, Hall.out, Bool.true_and]; simp)
          have Hv := Lib.hid (Seg.val_lt _ Hall.out)
          generalize l[i] = c at *
          by_cases hd : Seg.isDig c = true
          · have hd' := hd
            unfold Seg.isDig at hd'
            rw [Bool.and_eq_true, decide_eq_true_eq, decide_eq_true_eq] at hd'
            have b1 : ¬ c.toNat < 48 := by omega
            have b2 : ¬ 57 < c.toNat := by omega
            have b3 : (c.toNat : Int) - 48 = ((c.toNat - 48 : Nat) : Int) := by omega
            have hv10 : Seg.val (l.take i) < 100000000 := by
              have := Hv.out
              rw [List.length_take] at this
              exact Nat.lt_of_lt_of_le this (Nat.pow_le_pow_right (by decide) (by omega) : _ ≤ 10 ^ 8)
            have Hdd := Lib.hid hd'
            have b4 : IntKind.i64.wrap (10 * (Seg.val (l.take i) : Int)) = 10 * (Seg.val (l.take i) : Int) := by rw [IntKind.wrap_i64]; omega
            have b5 : IntKind.i64.wrap (10 * (Seg.val (l.take i) : Int) + ((c.toNat - 48 : Nat) : Int)) = 10 * (Seg.val (l.take i) : Int) + ((c.toNat - 48 : Nat) : Int) := by rw [IntKind.wrap_i64]; omega
            have b6 : IntKind.i64.wrap ((i : Int) + 1) = (i : Int) + 1 := by rw [IntKind.wrap_i64]; omega
            clear hv10 hd' hcell'
            generalize c.toNat - 48 = d at *
            go_wp2_with fail
            go_roundg (8 - (i + 1))
            case measure => omega
            case rel =>
              refine ⟨i + 1, rfl, by omega, ?_, rfl, by rw [Hd.out, hd], rfl⟩
              rw [Hn.out]; rfl
          · have hno : ¬ (l.all Seg.isDig = true ∧ Seg.val l < 1048576) := fun hh => hd (List.all_eq_true.1 hh.1 _ Hc.out)
            have hN2 := Lib.hid (hN.out.trans (if_neg hno))
            have hd' := hd
            unfold Seg.isDig at hd'
            rw [Bool.and_eq_true, decide_eq_true_eq, decide_eq_true_eq] at hd'
            clear hcell' hno Hn Hd
            by_cases b1 : c.toNat < 48
            · clear hd'
              go_wp2
              go_ret2
              exact ⟨_, rfl, by rw [hN2.out]; rfl, hB⟩
            · have b2 : 57 < c.toNat := by omega
              clear hd'
              go_wp2
              go_ret2
              exact ⟨_, rfl, by rw [hN2.out]; rfl, hB⟩
        · obtain rfl : i = 8 := by omega
          have hc8 : ((8 : Nat) : Int) = 8 := rfl
          rw [hc8]
          clear hc8 hi
          have htk := Lib.hid (show l.take 8 = l from List.take_of_length_le (by have := Hlen.out; omega))
          have hN3 := Lib.hid (show Seg.number s = if Seg.val l < 1048576 then ((Seg.val l : Int), true) else (0, false) by
            have := Hall.out
            rw [htk.out] at this
            rw [hN.out]; simp only [this, true_and])
          rw [htk.out]
          clear hcell' hi'
          obtain ⟨V, hV⟩ : ∃ V : Int, V = (Seg.val l : Int) := ⟨_, rfl⟩
          have HV := Lib.hid hV
          rw [← hV]
          by_cases hv : 1048576 ≤ V
          · have hvd : decide (1048576 ≤ V) = true := decide_eq_true hv
            have Hv := Lib.hid hv
            clear hv hV
            go_wp2
            go_ret2
            exact ⟨_, rfl, by rw [hN3.out, if_neg (by have := Hv.out; have := HV.out; omega)]; rfl, hB⟩
          · have hvd : decide (1048576 ≤ V) = false := decide_eq_false hv
            have Hv := Lib.hid hv
            clear hv hV
            go_wp2
            go_ret2
            exact ⟨_, rfl, by rw [hN3.out, if_pos (by have := Hv.out; have := HV.out; omega), ← HV.out]; rfl, hB⟩
    · have h2d : ((s.extract 0 4).toList == [115, 101, 103, 46]) = false := by rw [ba_take s]; exact beq_false_of_ne h2
      have hN := Lib.hid (show Seg.number s = (0, false) by
        unfold Seg.number
        simp only [h2, false_and, and_false, if_false])
      go_enter Tryd.func9, Tryd.ntmps9
      go_wp2
      go_ret2
      exact ⟨_, rfl, by rw [hN.out]; rfl, h⟩
  · have hs : ¬ ((s.size : Int) = 12) := by omega
    have h1d : decide ((s.size : Int) = 12) = false := decide_eq_false hs
    have hN := Lib.hid (show Seg.number s = (0, false) by
        unfold Seg.number
        simp only [Array.length_toList, show ¬ s.data.size = 12 from h1, false_and, if_false])
    go_enter Tryd.func9, Tryd.ntmps9
    go_wp2
    go_ret2
    exact ⟨_, rfl, by rw [hN.out]; rfl, h⟩
end
end Go.Proofs.YtdhhbajggafdhaaDoor
