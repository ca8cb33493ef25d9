import Derived.Test.YtdhhbajggafdhaaDoorSg2
/- hoardref14.Name, Number. -/
namespace Go.Proofs.YtdhhbajggafdhaaDoor
open Go Go.Sl Go.Med Go.MapKept Go.RowKit
set_option linter.unusedVariables false
section
variable {w0 w : World} {F : List HProp} {v bv dv x : Value} {q : Nat}
theorem dig_ext : ∀ d : Nat, d < 10 → (ByteArray.mk #[48, 49, 50, 51, 52, 53, 54, 55, 56, 57]).extract d (d + 1) = ⟨#[UInt8.ofNat (48 + d)]⟩ := by
  intro d hd
  rcases d with _ | _ | _ | _ | _ | _ | _ | _ | _ | _ | d
  all_goals first | rfl | omega
theorem ba_cons (c : UInt8) (l : Seg.Bs) : (ByteArray.mk #[c]) ++ ⟨l.toArray⟩ = ⟨(c :: l).toArray⟩ := by
  apply ByteArray.ext
  simp
theorem ba_lead (l : Seg.Bs) : (ByteArray.mk #[115, 101, 103, 46]) ++ ⟨l.toArray⟩ = ⟨(Seg.lead ++ l).toArray⟩ := by
  apply ByteArray.ext
  simp [Seg.lead]
set_option maxRecDepth 20000 in
set_option maxHeartbeats 1000000 in
theorem rname_c (n : Int) (w : World) :
    Calls Tryd.prog 12 #[.int .i64 n] w (Rtn fun v w' => v = .string (Seg.name n) ∧ w = w') := by
  by_cases h1 : n < 0
  · have Hf := Lib.hid (show Seg.name n = ByteArray.empty by unfold Seg.name; rw [if_pos (.inl h1)])
    go_enter Tryd.func12, Tryd.ntmps12
    go_wp2
    go_ret
    exact ⟨_, rfl, by rw [Hf.out]; rfl, rfl⟩
  have h1d : decide (n < 0) = false := decide_eq_false h1
  by_cases h2 : 1048576 ≤ n
  · have Hf := Lib.hid (show Seg.name n = ByteArray.empty by unfold Seg.name; rw [if_pos (.inr h2)])
    go_enter Tryd.func12, Tryd.ntmps12
    go_wp2
    go_ret
    exact ⟨_, rfl, by rw [Hf.out]; rfl, rfl⟩
  have h2d : decide (1048576 ≤ n) = false := decide_eq_false h2
  obtain ⟨m0, rfl⟩ := Int.eq_ofNat_of_zero_le (show 0 ≤ n by omega)
  have Hf := Lib.hid (show Seg.name (m0 : Int) = ⟨(Seg.lead ++ Seg.digs m0 8).toArray⟩ by unfold Seg.name; rw [if_neg (by omega)]; rfl)
  have hm0 : m0 < 1048576 := by omega
  have Hm := Lib.hid hm0
  clear hm0
  go_enter Tryd.func12, Tryd.ntmps12
  go_wp2_with fail
  clear h1 h2 h1d h2d
  go_loopg [0, 3, 4] 8 (fun g nv sv iv wr => ∃ (i m : Nat) (tail : Bs), g = 8 - i ∧ i ≤ 8 ∧ nv = .int .i64 m ∧ sv = .string ⟨tail.toArray⟩ ∧ iv = .int .i64 i ∧ m < 1048576 ∧ Seg.digs m0 8 = Seg.digs m (8 - i) ++ tail ∧ wr = w)
  case atStart => exact ⟨0, m0, [], rfl, by omega, rfl, rfl, rfl, Hm.out, by simp, rfl⟩
  case round =>
    obtain ⟨i, m, tail, rfl, hi, rfl, rfl, rfl, hm, hfin, rfl⟩ := hrel
    have Hfin := Lib.hid hfin; have Hm1 := Lib.hid hm
    clear hfin hm
    by_cases hi' : i < 8
    · have hii : (i : Int) < 8 := by omega
      have hx := dig_ext (m % 10) (Nat.mod_lt _ (by omega))
      have hcc := ba_cons (UInt8.ofNat (48 + m % 10)) tail
      have hnx : Seg.digs m (8 - i) = Seg.digs (m / 10) (8 - (i + 1)) ++ [UInt8.ofNat (48 + m % 10)] := by
        rw [show 8 - i = (8 - (i + 1)) + 1 by omega]; rfl
      have Hnx := Lib.hid hnx
      have htl : tail.length = i := by
        have := congrArg List.length Hfin.out
        rw [List.length_append, Seg.digs_len, Seg.digs_len] at this
        omega
      have hsz : ¬ 9223372036854775807 < 1 + tail.length := by omega
      have hq : IntKind.i64.wrap ((m : Int) / 10) = (m : Int) / 10 := by rw [IntKind.wrap_i64]; have := Hm1.out; omega
      clear htl hnx
      have Hx := Lib.hid hx; have Hcc := Lib.hid hcc
      clear hx hcc
      go_wp2_with fail
      go_roundg (8 - (i + 1))
      case measure => omega
      case rel =>
        refine ⟨i + 1, m / 10, UInt8.ofNat (48 + m % 10) :: tail, rfl, by omega, rfl, by rw [Hx.out, Hcc.out], rfl, by have := Hm1.out; omega, ?_, rfl⟩
        rw [Hfin.out, Hnx.out]; simp
    · obtain rfl : i = 8 := by omega
      have hc8 : ((8 : Nat) : Int) = 8 := rfl
      rw [hc8]
      clear hc8 hi' hi
      have hcc := ba_lead tail
      have htl : tail.length = 8 := by
        have := congrArg List.length Hfin.out
        rw [List.length_append, Seg.digs_len, Seg.digs_len] at this
        omega
      go_wp2
      go_ret
      refine ⟨_, rfl, ?_, rfl⟩
      rw [Hf.out, Hfin.out]; rfl
set_option maxRecDepth 20000 in
set_option maxHeartbeats 1000000 in
/-- The answer of the reference: is the name right; and then its number. -/
theorem rnumber_c (s : ByteArray) (w : World) :
    Calls Tryd.prog 10 #[.string s] w (Rtn fun v w' => (∃ a, v = .tuple #[.int .i64 a, .bool (Seg.number s).2] ∧ ((Seg.number s).2 = true → a = (Seg.number s).1)) ∧ w = w') := by
  by_cases h1 : s.size = 12
  · have hs : ((s.size : Int) = 12) := by omega
    have Hlen := Lib.hid (show s.data.toList.length = 12 by rw [Array.length_toList]; exact h1)
    have hcell : ∀ (j : Nat) (hj : j < (s.data.toList.drop 4).length) (h : j + 4 < s.size), s[j + 4]'h = (s.data.toList.drop 4)[j]'hj := by
      intro j hj h
      rw [List.getElem_drop]
      simp only [Nat.add_comm 4 j]
      rfl
    have Hlen8 := Lib.hid (show (s.data.toList.drop 4).length = 8 by rw [List.length_drop, Hlen.out])
    have HN := Lib.hid (show Seg.number s = if s.data.toList.take 4 = Seg.lead ∧ (s.data.toList.drop 4).all Seg.isDig = true ∧ Seg.val (s.data.toList.drop 4) < 1048576 then ((Seg.val (s.data.toList.drop 4) : Int), true) else (0, false) by
        unfold Seg.number
        simp only [Hlen.out, true_and])
    have HS := Lib.hid (show s.data.toList.take 4 ++ s.data.toList.drop 4 = s.data.toList from List.take_append_drop _ _)
    generalize s.data.toList.drop 4 = l at *
    go_enter Tryd.func10, Tryd.ntmps10
    go_wp2_with fail
    go_loopg [4, 5] 8 (fun g nv iv wr => ∃ j : Nat, g = 8 - j ∧ j ≤ 8 ∧ nv = .int .i64 (Seg.val (l.take j)) ∧ iv = .int .i64 ((j : Int) + 4) ∧ (l.take j).all Seg.isDig = true ∧ wr = w)
    case atStart => exact ⟨0, rfl, by omega, rfl, rfl, rfl, rfl⟩
    case round =>
      obtain ⟨j, rfl, hi, rfl, rfl, hall, rfl⟩ := hrel
      have Hall := Lib.hid hall
      have Hcell := Lib.hid hcell
      clear hall hcell
      by_cases hi' : j < 8
      · have hlt : (j : Int) + 4 < 12 := by omega
        have hil : j < l.length := by have := Hlen8.out; omega
        have hc := Hcell.out j hil (by omega)
        have Hc := Lib.hid (List.getElem_mem hil)
        have Hn := Lib.hid (show Seg.val (l.take (j + 1)) = 10 * Seg.val (l.take j) + (l[j].toNat - 48) by rw [List.take_succ_eq_append_getElem hil, Seg.val_snoc])
        have Hd := Lib.hid (show (l.take (j + 1)).all Seg.isDig = Seg.isDig l[j] by rw [List.take_succ_eq_append_getElem hil, List.all_append, Hall.out, Bool.true_and]; simp)
        have Hv := Lib.hid (Seg.val_lt _ Hall.out)
        generalize l[j] = c at *
        by_cases hd : Seg.isDig c = true
        · have hd' := hd
          unfold Seg.isDig at hd'
          rw [Bool.and_eq_true, decide_eq_true_eq, decide_eq_true_eq] at hd'
          have b1 : ¬ c.toNat < 48 := by omega
          have b2 : ¬ 57 < c.toNat := by omega
          have hv10 : Seg.val (l.take j) < 100000000 := by
            have := Hv.out
            rw [List.length_take] at this
            exact Nat.lt_of_lt_of_le this (Nat.pow_le_pow_right (by decide) (by omega) : _ ≤ 10 ^ 8)
          have b3 : (Seg.val (l.take j) : Int) * 10 + (c.toNat : Int) - 48 = ((10 * Seg.val (l.take j) + (c.toNat - 48) : Nat) : Int) := by omega
          have b4 : IntKind.i64.wrap ((Seg.val (l.take j) : Int) * 10) = (Seg.val (l.take j) : Int) * 10 := by rw [IntKind.wrap_i64]; omega
          have b5 : IntKind.i64.wrap ((Seg.val (l.take j) : Int) * 10 + (c.toNat : Int)) = (Seg.val (l.take j) : Int) * 10 + (c.toNat : Int) := by rw [IntKind.wrap_i64]; omega
          have b7 : IntKind.i64.wrap (((10 * Seg.val (l.take j) + (c.toNat - 48) : Nat) : Int)) = ((10 * Seg.val (l.take j) + (c.toNat - 48) : Nat) : Int) := by rw [IntKind.wrap_i64]; omega
          have b6 : IntKind.i64.wrap ((j : Int) + 4 + 1) = (j : Int) + 4 + 1 := by rw [IntKind.wrap_i64]; omega
          clear hv10 hd'
          rw [← Hn.out] at b3 b7
          go_wp2_with fail
          go_roundg (8 - (j + 1))
          case measure => omega
          case rel =>
            refine ⟨j + 1, rfl, by omega, ?_, ?_, by rw [Hd.out, hd], rfl⟩
            · rfl
            · congr 1
        · have hno : ¬ (s.data.toList.take 4 = Seg.lead ∧ l.all Seg.isDig = true ∧ Seg.val l < 1048576) := fun hh => hd (List.all_eq_true.1 hh.2.1 _ Hc.out)
          have hN2 := Lib.hid (HN.out.trans (if_neg hno))
          have hd' := hd
          unfold Seg.isDig at hd'
          rw [Bool.and_eq_true, decide_eq_true_eq, decide_eq_true_eq] at hd'
          clear hno Hn Hd
          by_cases b1 : c.toNat < 48
          · clear hd'
            go_wp2
            go_ret2
            exact ⟨_, rfl, ⟨0, by rw [hN2.out]; rfl, fun h => by rw [hN2.out]⟩, rfl⟩
          · have b2 : 57 < c.toNat := by omega
            clear hd'
            go_wp2
            go_ret2
            exact ⟨_, rfl, ⟨0, by rw [hN2.out]; rfl, fun h => by rw [hN2.out]⟩, rfl⟩
      · obtain rfl : j = 8 := by omega
        have hc8 : ((8 : Nat) : Int) = 8 := rfl
        rw [hc8]
        clear hc8 hi
        have htk := Lib.hid (show l.take 8 = l from List.take_of_length_le (by have := Hlen8.out; omega))
        have hall := Hall.out
        rw [htk.out] at hall ⊢
        have hv := Seg.val_lt l hall
        rw [Hlen8.out] at hv
        have hname : (Seg.name (Seg.val l) = s) ↔ (Seg.number s).2 = true := by
          rw [HN.out]
          have hdv := Seg.digs_val l hall
          rw [Hlen8.out] at hdv
          by_cases hb : Seg.val l < 1048576
          · have e1 : Seg.name (Seg.val l) = ⟨(Seg.lead ++ l).toArray⟩ := by
              unfold Seg.name
              rw [if_neg (by omega), Int.toNat_natCast, hdv]
            rw [e1]
            constructor
            · intro h
              have h' : Seg.lead ++ l = s.data.toList := by rw [← h]
              rw [← HS.out] at h'
              have := List.append_cancel_right h'
              rw [if_pos ⟨this.symm, hall, hb⟩]
            · intro h
              split at h
              · next hh =>
                apply ByteArray.ext
                show (Seg.lead ++ l).toArray = s.data
                rw [← hh.1, HS.out]
              · cases h
          · have e1 : Seg.name (Seg.val l) = ByteArray.empty := by
              unfold Seg.name
              rw [if_pos (by omega)]
            rw [e1, if_neg (fun h => hb h.2.2)]
            constructor
            · intro h
              rw [← h] at h1
              cases h1
            · intro h; cases h
        have Hname := Lib.hid (show ((Seg.name (Seg.val l)).toList == s.toList) = (Seg.number s).2 by
          rw [Bool.eq_iff_iff, beq_iff_eq, ← hname, ByteArray.toList_eq, ByteArray.toList_eq]
          constructor
          · intro h
            apply ByteArray.ext
            exact Array.toList_inj.1 h
          · intro h; rw [h])
        have Hval := Lib.hid (show (Seg.number s).2 = true → within (Seg.val l) 0 1048575 = (Seg.number s).1 by
          rw [HN.out]
          split
          · next h => intro _; have := h.2.2; simp only [within]; rw [if_neg (by omega), if_neg (by omega)]
          · intro h; cases h)
        clear hv hname hall hi'
        have hw := within_c (Seg.val l) 0 1048575 wr
        go_wp2_with fail
        refine hw.mono ?_
        rintro e w1 ⟨v, rfl, rfl, rfl⟩
        clear hw
        have hr := rname_c (Seg.val l) wr
        go_wp2_with fail
        refine hr.mono ?_
        rintro e w1 ⟨v, rfl, rfl, rfl⟩
        clear hr
        go_wp2
        go_ret2
        exact ⟨_, rfl, ⟨within (Seg.val l) 0 1048575, by rw [← Hname.out]; rfl, Hval.out⟩, rfl⟩
  · have hs : ¬ ((s.size : Int) = 12) := by omega
    have h1d : decide ((s.size : Int) = 12) = false := decide_eq_false hs
    have hN := Lib.hid (show Seg.number s = (0, false) by
        unfold Seg.number
        simp only [Array.length_toList, show ¬ s.data.size = 12 from h1, false_and, if_false])
    go_enter Tryd.func10, Tryd.ntmps10
    go_wp2
    go_ret2
    exact ⟨_, rfl, ⟨0, by rw [hN.out]; rfl, fun h => by rw [hN.out]⟩, rfl⟩
end
end Go.Proofs.YtdhhbajggafdhaaDoor
