import Derived.Test.YtdhhbajggafdhaaDoorFr5
/- frame.Encode. -/
namespace Go.Proofs.YtdhhbajggafdhaaDoor
open Go Go.Sl Go.Med Go.MapKept Go.RowKit
set_option linter.unusedVariables false
section
variable {w0 w : World} {F : List HProp} {v bv dv x : Value} {q : Nat}
section
variable {ops : Array Oper} {rest : List Oper} {o : Oper} {a : Act} {Q : Exit → Act → World → Prop}
/-- 'append(b, m...)' on bytes. -/
theorem wpList_append_b (hgd : o.guard = none) (s y : Operand) (ho : o.op = .call { callee := .builtin .append, args := #[s, y], argTypes := #[31, 31] })
    (hv : a.eval s = v) (hxv : a.eval y = x) {l m : Bs} (h : Sat w0 w (bsl v l :: F)) (hx : rdsl 1 x (bys m) w) (hlen : l.length + m.length ≤ 1099511627776) (hne : l ++ m ≠ [])
    (hK : ∀ b n c w', Sat w0 w' (bsl (.slice (some ⟨b, 0, none⟩) n c) (l ++ m) :: F) → n = (l ++ m).length → n ≤ c → c ≤ 9223372036854775807 → wpList Tryd.prog ops Q rest (a.put o.dst (.slice (some ⟨b, 0, none⟩) n c)) w') : wpList Tryd.prog ops Q (o :: rest) a w := by
  obtain ⟨i, hi, hz0, hz1, hz2⟩ := info8p
  have h63 : (bys l).length + (bys m).length ≤ maxLen := by rw [bys_len, bys_len]; unfold maxLen; omega
  have hby : ((bys l).length + (bys m).length) * i.bytes ≤ 140737488355328 := by rw [bys_len, bys_len, hz2]; omega
  refine wpList_append (w0 := w0) hgd s y 31 ho _ i _ Tryd.underlying31 hi hz0 hz1 (by rfl) (by omega) hv hxv (bys_one _) h hx h63 hby ?_
  intro v' w' hS hn
  obtain ⟨b, n, c, rfl⟩ := hn (by rw [← bys_append]; intro e; apply hne; simpa [bys] using e)
  rw [← bys_append] at hS
  obtain ⟨a', n', c', he, h1, h2, h3⟩ := bsl_cap' hS
  cases he
  exact hK b n c w' hS h3 h1 h2
end
theorem ofNat_tag (t : Int) (h : t = 0 ∨ t = 1 ∨ t = 2) : IntKind.u8.wrap t = ((UInt8.ofNat t.toNat).toNat : Int) := by
  rcases h with rfl | rfl | rfl <;> decide
theorem key_rd (e : Frm.Ent) (hk : e.key.length = 32) (dv : Value) (h : Sat w0 w (pt q (.cells (entA e dv) 33 (0,0)) :: F)) : rdsl 1 (.slice (some ⟨q, 1, none⟩) 32 32) (bys e.key) w := by
  refine ⟨_, 32, 32, rfl, by rw [bys_len, hk], fun i y hi => ⟨_, rfl, ?_⟩⟩
  have e1 : (⟨q, 1, none⟩ : Addr).add i = ⟨q, 1 + i, none⟩ := by unfold Addr.add; split <;> simp_all
  rw [e1]
  exact h.cellAt _ _ (entA_key e dv hk i y (by simpa using hi))
set_option maxRecDepth 20000 in
set_option maxHeartbeats 2000000 in
theorem encode_c (e : Frm.Ent) (hk : e.key.length = 32) (da : Option Addr) (dc : Nat) (hd : Ro w0 F (rdsl 1 (.slice da e.data.length dc) (bys e.data))) (hH : Ro w0 F Half) (h : Sat w0 w F) (hL : e.data.length ≤ 1099511627) :
    Calls Tryd.prog 52 #[.agg (entA e (.slice da e.data.length dc))] w (Rtn fun v w' => ∃ bv, v = .tuple #[bv, errno (Frm.encode e).2] ∧ (∃ a n c, bv = .slice a n c) ∧ Sat w0 w' (bsl bv (Frm.encode e).1 :: F)) := by
  have hA := h.alloc (.cells (entA e (.slice da e.data.length dc)) 33)
  have hch := check_c e hk da dc hA
  have hat := hA.at
  have hsz := entA_size e (.slice da e.data.length dc) hk
  have Hat := Lib.hid hat; have Hsz := Lib.hid hsz; have Hk := Lib.hid hk; have HL := Lib.hid hL; have Hd := Lib.hid hd; have HH := Lib.hid hH
  clear hat hsz hk hA hL hd hH
  go_enter Tryd.func52, Tryd.ntmps52
  go_wp2_with (refine wpList_load_row (P := Tryd.prog) (by rfl) 33 _ (by rfl) _ (by rfl) _ _ (0, 0) _ Hat.out Tryd.underlying33 (by rfl) (by rw [Hsz.out]; kernel_rfl) ?_)
  refine hch.mono ?_
  rintro ee w1 ⟨v, rfl, rfl, hS1⟩
  clear hch
  generalize w.heap.size = q at *
  by_cases hc : Frm.check e = 0
  · have hat1 := Lib.hid hS1.at
    have hsc := fsize_c e Hk.out da dc hS1 (by have := HL.out; omega)
    have Hc := Lib.hid hc
    have htag : e.tag = 0 ∨ e.tag = 1 ∨ e.tag = 2 := by
      unfold Frm.check at hc
      by_cases t0 : e.tag = 0
      · exact .inl t0
      by_cases t2 : e.tag = 2
      · exact .inr (.inr t2)
      by_cases t1 : e.tag = 1
      · exact .inr (.inl t1)
      simp [t0, t1, t2] at hc
    have Htag := Lib.hid htag
    rw [hc]
    clear hc htag
    go_wp2_with (refine wpList_load_row (P := Tryd.prog) (by rfl) 33 _ (by rfl) _ (by rfl) _ _ (0, 0) _ hat1.out Tryd.underlying33 (by rfl) (by rw [Hsz.out]; kernel_rfl) ?_)
    refine hsc.mono ?_
    rintro ee w2 ⟨v, rfl, rfl, hS2⟩
    clear hsc hat1 Hat
    have hn9 : 9 ≤ Frm.size e ∧ Frm.size e ≤ 41 + e.data.length := by
      unfold Frm.size
      rw [if_neg (by rw [Hc.out]; simp)]
      split <;> omega
    have hN := Lib.hid hn9
    have hmk := make_u8 4 (Frm.size e) (by omega) (by have := HL.out; omega)
    have hcast : ((4 : Nat) : Int) = 4 := rfl
    rw [hcast] at hmk
    have hA2 := (hS2.alloc (.cells (madeCells #[.int .u8 0] (Frm.size e)) 5))
    have hB := made_bsl (l := 4) (by omega) (by have := HL.out; omega) hA2
    have hput := put4_c (Frm.size e) (by have := HL.out; omega) hB
    have hwu : IntKind.u64.wrap (Frm.size e : Int) = (Frm.size e : Int) := by
      rw [show ∀ n : Int, IntKind.u64.wrap n = n % 18446744073709551616 from fun n => by simp [IntKind.wrap, IntKind.bits, IntKind.signed]]
      have := HL.out; omega
    clear hcast hn9 hA2
    go_wp2_with fail
    refine hput.mono ?_
    rintro ee w3 ⟨v, rfl, hS3, pa, rfl⟩
    clear hput hwu hB hmk
    generalize w2.heap.size = q2 at *
    have c0 := (hS3.sel 3 [2] rfl rfl).cellAt 0 _ (entA_0 e _)
    have hr1 : rdsl 1 (.slice pa 4 4) (bys (Frm.le (Frm.size e) 4)) w3 := Sat.rd hS3
    have hl4 := Frm.le_len (Frm.size e) 4
    obtain ⟨tb, htb⟩ : ∃ tb, tb = UInt8.ofNat e.tag.toNat := ⟨_, rfl⟩
    have htg : e.tag % 256 = (tb.toNat : Int) := by
      rw [htb, ← ofNat_tag _ Htag.out]
      exact (IntKind.wrap_u8' _).symm
    have Htb := Lib.hid htb
    clear htb
    have hd3 := Hd.out
    have hLL := Lib.hid (show (List.replicate 4 (0 : UInt8) ++ Frm.le (Frm.size e) 4).length = 8 by rw [List.length_append, hl4, List.length_replicate])
    have Hl4 := Lib.hid hl4
    clear hl4
    by_cases ht2 : e.tag = 2
    · have Ht2 := Lib.hid ht2
      rw [ht2] at c0
      have htb2 : tb = 2 := by rw [Htb.out, ht2]; rfl
      have Htb2 := Lib.hid htb2
      clear htg htb2
      go_wp2_with (first
        | (at_builtin; refine wpList_append_b (w0 := w0) (l := List.replicate 4 0) (m := Frm.le (Frm.size e) 4) (by rfl) _ _ (by rfl) (by rfl) (by rfl) (hS3.sel 3 [1, 2] rfl rfl) hr1 (by rw [Hl4.out, List.length_replicate]; omega) (by simp) ?_; intro b4 n4 k4 w4 hS4 hx1 hx2 hx3; clear hx1 hx2 hx3 hr1 c0 hS3; have c0 := hS4.pick1.cellAt 0 _ (entA_0 e _); rw [Ht2.out] at c0; have hB4 := hS4.alloc (.cells #[.int .u8 2] 5); have hr4 : rdsl 1 (.slice (some ⟨w4.heap.size, 0, none⟩) 1 1) (bys [2]) (w4.alloc (.cells #[.int .u8 2] 5)) := rdsl_new w4 #[.int .u8 2] 5 1 1 1 rfl)
        | (at_builtin; refine wpList_append_b (w0 := w0) (l := List.replicate 4 0 ++ Frm.le (Frm.size e) 4) (m := [2]) (by rfl) _ _ (by rfl) (by rfl) (by rfl) hB4.pick1 hr4 (by rw [hLL.out]; simp) (by simp) ?_; intro b5 n5 k5 w5 hS5 hx1 hx2 hx3; clear hx1 hx2 hx3 hr4 hB4 hS4 c0; have c0 := hS5.pick2.cellAt 0 _ (entA_0 e _); rw [Ht2.out] at c0; have c33 := hS5.pick2.cellAt 33 _ (entA_33 e _ Hk.out); have hr6 := Hd.out w5 (hS5.sel 3 [] rfl rfl))
        | (at_builtin; refine wpList_append_b (w0 := w0) (l := List.replicate 4 0 ++ Frm.le (Frm.size e) 4 ++ [2]) (m := e.data) (by rfl) _ _ (by rfl) (by rfl) (by rfl) hS5 hr6 (by rw [List.length_append, hLL.out]; have := HL.out; simp; omega) (by simp) ?_; intro b7 n7 k7 w7 hS7 hn7 hnk7 hk7; have hn4 : 4 ≤ n7 := (by rw [hn7]; simp only [List.length_append, List.length_replicate]; omega); have hk4 : ¬ k7 = 4 := (by rw [hn7] at hnk7; simp only [List.length_append, List.length_replicate, List.length_cons] at hnk7; omega); have hn4i : (4 : Int) ≤ (n7 : Int) := (by omega); have Hn7 := Lib.hid hn7; clear hn7 hr6 hS5 c33 c0))
      have hbody : List.replicate 4 0 ++ Frm.le (Frm.size e) 4 ++ [2] ++ e.data = List.replicate 4 0 ++ Frm.body e := by
        unfold Frm.body
        rw [if_pos Ht2.out, ← Htb.out, Htb2.out]
        simp only [List.append_assoc, List.nil_append]
      obtain ⟨XX, hXX, HHX, hS7'⟩ : ∃ XX : List HProp, (∀ w' A, Sat w0 w' (A :: XX) → Sat w0 w' (A :: F)) ∧ Ro w0 (bsl (.slice (some ⟨b7, 0, none⟩) n7 k7) (List.replicate 4 0 ++ Frm.body e) :: XX) Half ∧ Sat w0 w7 (bsl (.slice (some ⟨b7, 0, none⟩) n7 k7) (List.replicate 4 0 ++ Frm.le (Frm.size e) 4 ++ [2] ++ e.data) :: XX) :=
        ⟨_ :: _ :: F, fun w' A hw => hw.sel 3 [0] rfl rfl, Ro.more (L := [_, _, _]) HH.out, hS7⟩
      clear hS7
      have hS7 := hS7'
      clear hS7'
      rw [hbody] at hS7 Hn7
      have hbl : (Frm.body e).length ≤ 1099511627776 := by
        have h1 := HL.out; have h2 := Hk.out
        unfold Frm.body
        simp only [List.length_append, Frm.le_len, List.length_cons, List.length_nil]
        split <;> simp <;> omega
      have hn7b : n7 = 4 + (Frm.body e).length := by rw [Hn7.out, List.length_append, List.length_replicate]
      have hrb : ∀ w', Sat w0 w' (bsl (.slice (some ⟨b7, 0, none⟩) n7 k7) (List.replicate 4 0 ++ Frm.body e) :: XX) → rdsl 1 (.slice (some ⟨b7, 4, none⟩) (n7 - 4) (k7 - 4)) (bys (Frm.body e)) w' := by
        intro w' hw'
        have h1 := rdsl_slice (lo := 4) (k := n7 - 4) (Sat.rd hw') (by omega) (some ⟨b7, 4, none⟩) (by rw [if_neg hk4]; simp [add_zero_lit]) hnk7 (k7 - 4)
        have h2 : ((bys (List.replicate 4 0 ++ Frm.body e)).drop 4).take (n7 - 4) = bys (Frm.body e) := by
          rw [bys_append, List.drop_append_of_le_length (by simp [bys])]
          have : (bys (List.replicate 4 0)).drop 4 = [] := by simp [bys]
          rw [this, List.nil_append, List.take_of_length_le (by rw [bys_len]; omega)]
        rw [h2] at h1
        exact h1
      have hcrc := crc_c (F := bsl (.slice (some ⟨b7, 0, none⟩) n7 k7) (List.replicate 4 0 ++ Frm.body e) :: XX) (Frm.body e) HHX hrb hS7 hbl
      have Hbl := Lib.hid hbl
      clear hrb hbl hn7b
      go_wp2_with fail
      refine hcrc.mono ?_
      rintro ee w8 ⟨v, rfl, rfl, rfl⟩
      clear hcrc
      have hclt := Frm.crc_lt (Frm.body e)
      have hput2 := put4_c (Frm.crc (Frm.body e)) (by omega) hS7
      have hwc : IntKind.u64.wrap (Frm.crc (Frm.body e) : Int) = (Frm.crc (Frm.body e) : Int) := by
        rw [show ∀ n : Int, IntKind.u64.wrap n = n % 18446744073709551616 from fun n => by simp [IntKind.wrap, IntKind.bits, IntKind.signed]]
        omega
      have hwc2 : (Frm.crc (Frm.body e) : Int) % 18446744073709551616 = (Frm.crc (Frm.body e) : Int) := by omega
      clear hclt
      go_wp2_with fail
      refine hput2.mono ?_
      rintro ee w9 ⟨v, rfl, hS9, pb, rfl⟩
      clear hput2 hwc hwc2
      have hr9 : rdsl 1 (.slice pb 4 4) (bys (Frm.le (Frm.crc (Frm.body e)) 4)) w9 := Sat.rd hS9
      go_wp2_with (refine wpList_copy_b (w0 := w0) (x := Frm.le (Frm.crc (Frm.body e)) 4) (by rfl) _ _ (by rfl) b7 n7 k7 (by rfl) (by rfl) hS9.pick1 hr9 (by intro e0; have := Frm.le_len (Frm.crc (Frm.body e)) 4; rw [e0] at this; cases this) (by rw [Frm.le_len, List.length_append, List.length_replicate]; omega) ?_; intro w10 hS10)
      go_ret2
      have hfin : Frm.encode e = (Frm.le (Frm.crc (Frm.body e)) 4 ++ Frm.body e, 0) := by unfold Frm.encode; rw [if_neg (by rw [Hc.out]; simp)]
      rw [hfin]
      refine ⟨_, rfl, _, rfl, ⟨_, _, _, rfl⟩, ?_⟩
      have hdr : (List.replicate 4 (0 : UInt8) ++ Frm.body e).drop (Frm.le (Frm.crc (Frm.body e)) 4).length = Frm.body e := by
        rw [Frm.le_len, List.drop_append_of_le_length (by simp)]; simp
      rw [hdr] at hS10
      exact hXX _ _ (hS10.sel 2 [0] rfl rfl)
    · have ht2b : (e.tag == 2) = false := by simpa using ht2
      have Ht2 := Lib.hid ht2
      clear ht2
      go_wp2_with (first
        | (at_builtin; refine wpList_append_b (w0 := w0) (l := List.replicate 4 0) (m := Frm.le (Frm.size e) 4) (by rfl) _ _ (by rfl) (by rfl) (by rfl) (hS3.sel 3 [1, 2] rfl rfl) hr1 (by rw [Hl4.out, List.length_replicate]; omega) (by simp) ?_; intro b4 n4 k4 w4 hS4 hx1 hx2 hx3; clear hx1 hx2 hx3 hr1 c0 hS3; have c0 := hS4.pick1.cellAt 0 _ (entA_0 e _); have hB4 := hS4.alloc (.cells #[.int .u8 tb.toNat] 5); have hr4 : rdsl 1 (.slice (some ⟨w4.heap.size, 0, none⟩) 1 1) (bys [tb]) (w4.alloc (.cells #[.int .u8 tb.toNat] 5)) := rdsl_new w4 #[.int .u8 tb.toNat] 5 1 1 1 rfl)
        | (at_builtin; refine wpList_append_b (w0 := w0) (l := List.replicate 4 0 ++ Frm.le (Frm.size e) 4) (m := [tb]) (by rfl) _ _ (by rfl) (by rfl) (by rfl) hB4.pick1 hr4 (by rw [hLL.out]; simp) (by simp) ?_; intro b5 n5 k5 w5 hS5 hx1 hx2 hx3; clear hx1 hx2 hx3 hr4 hB4 hS4 c0; have c0 := hS5.pick2.cellAt 0 _ (entA_0 e _); have c33 := hS5.pick2.cellAt 33 _ (entA_33 e _ Hk.out); have hr5 := key_rd e Hk.out _ hS5.pick2)
        | (at_builtin; refine wpList_append_b (w0 := w0) (l := List.replicate 4 0 ++ Frm.le (Frm.size e) 4 ++ [tb]) (m := e.key) (by rfl) _ _ (by rfl) (by rfl) (by rfl) hS5 hr5 (by rw [List.length_append, hLL.out, Hk.out]; simp) (by simp) ?_; intro b6 n6 k6 w6 hS6 hx1 hx2 hx3; clear hx1 hx2 hx3 hr5 hS5 c0 c33; have c33 := hS6.pick2.cellAt 33 _ (entA_33 e _ Hk.out); have hr6 := Hd.out w6 (hS6.sel 3 [] rfl rfl))
        | (at_builtin; refine wpList_append_b (w0 := w0) (l := List.replicate 4 0 ++ Frm.le (Frm.size e) 4 ++ [tb] ++ e.key) (m := e.data) (by rfl) _ _ (by rfl) (by rfl) (by rfl) hS6 hr6 (by rw [List.length_append, List.length_append, hLL.out, Hk.out]; have := HL.out; simp; omega) (by simp) ?_; intro b7 n7 k7 w7 hS7 hn7 hnk7 hk7; have hn4 : 4 ≤ n7 := (by rw [hn7]; simp only [List.length_append, List.length_replicate]; omega); have hk4 : ¬ k7 = 4 := (by rw [hn7] at hnk7; simp only [List.length_append, List.length_replicate, List.length_cons] at hnk7; omega); have hn4i : (4 : Int) ≤ (n7 : Int) := (by omega); have Hn7 := Lib.hid hn7; clear hn7 hr6 hS6 c33))
      have hbody : List.replicate 4 0 ++ Frm.le (Frm.size e) 4 ++ [tb] ++ e.key ++ e.data = List.replicate 4 0 ++ Frm.body e := by
        unfold Frm.body
        rw [if_neg Ht2.out, Htb.out]
        simp only [List.append_assoc]
      obtain ⟨XX, hXX, HHX, hS7'⟩ : ∃ XX : List HProp, (∀ w' A, Sat w0 w' (A :: XX) → Sat w0 w' (A :: F)) ∧ Ro w0 (bsl (.slice (some ⟨b7, 0, none⟩) n7 k7) (List.replicate 4 0 ++ Frm.body e) :: XX) Half ∧ Sat w0 w7 (bsl (.slice (some ⟨b7, 0, none⟩) n7 k7) (List.replicate 4 0 ++ Frm.le (Frm.size e) 4 ++ [tb] ++ e.key ++ e.data) :: XX) :=
        ⟨_ :: _ :: F, fun w' A hw => hw.sel 3 [0] rfl rfl, Ro.more (L := [_, _, _]) HH.out, hS7⟩
      clear hS7
      have hS7 := hS7'
      clear hS7'
      rw [hbody] at hS7 Hn7
      have hbl : (Frm.body e).length ≤ 1099511627776 := by
        have h1 := HL.out; have h2 := Hk.out
        unfold Frm.body
        simp only [List.length_append, Frm.le_len, List.length_cons, List.length_nil]
        split <;> simp <;> omega
      have hn7b : n7 = 4 + (Frm.body e).length := by rw [Hn7.out, List.length_append, List.length_replicate]
      have hrb : ∀ w', Sat w0 w' (bsl (.slice (some ⟨b7, 0, none⟩) n7 k7) (List.replicate 4 0 ++ Frm.body e) :: XX) → rdsl 1 (.slice (some ⟨b7, 4, none⟩) (n7 - 4) (k7 - 4)) (bys (Frm.body e)) w' := by
        intro w' hw'
        have h1 := rdsl_slice (lo := 4) (k := n7 - 4) (Sat.rd hw') (by omega) (some ⟨b7, 4, none⟩) (by rw [if_neg hk4]; simp [add_zero_lit]) hnk7 (k7 - 4)
        have h2 : ((bys (List.replicate 4 0 ++ Frm.body e)).drop 4).take (n7 - 4) = bys (Frm.body e) := by
          rw [bys_append, List.drop_append_of_le_length (by simp [bys])]
          have : (bys (List.replicate 4 0)).drop 4 = [] := by simp [bys]
          rw [this, List.nil_append, List.take_of_length_le (by rw [bys_len]; omega)]
        rw [h2] at h1
        exact h1
      have hcrc := crc_c (F := bsl (.slice (some ⟨b7, 0, none⟩) n7 k7) (List.replicate 4 0 ++ Frm.body e) :: XX) (Frm.body e) HHX hrb hS7 hbl
      have Hbl := Lib.hid hbl
      clear hrb hbl hn7b
      go_wp2_with fail
      refine hcrc.mono ?_
      rintro ee w8 ⟨v, rfl, rfl, rfl⟩
      clear hcrc
      have hclt := Frm.crc_lt (Frm.body e)
      have hput2 := put4_c (Frm.crc (Frm.body e)) (by omega) hS7
      have hwc : IntKind.u64.wrap (Frm.crc (Frm.body e) : Int) = (Frm.crc (Frm.body e) : Int) := by
        rw [show ∀ n : Int, IntKind.u64.wrap n = n % 18446744073709551616 from fun n => by simp [IntKind.wrap, IntKind.bits, IntKind.signed]]
        omega
      have hwc2 : (Frm.crc (Frm.body e) : Int) % 18446744073709551616 = (Frm.crc (Frm.body e) : Int) := by omega
      clear hclt
      go_wp2_with fail
      refine hput2.mono ?_
      rintro ee w9 ⟨v, rfl, hS9, pb, rfl⟩
      clear hput2 hwc hwc2
      have hr9 : rdsl 1 (.slice pb 4 4) (bys (Frm.le (Frm.crc (Frm.body e)) 4)) w9 := Sat.rd hS9
      go_wp2_with (refine wpList_copy_b (w0 := w0) (x := Frm.le (Frm.crc (Frm.body e)) 4) (by rfl) _ _ (by rfl) b7 n7 k7 (by rfl) (by rfl) hS9.pick1 hr9 (by intro e0; have := Frm.le_len (Frm.crc (Frm.body e)) 4; rw [e0] at this; cases this) (by rw [Frm.le_len, List.length_append, List.length_replicate]; omega) ?_; intro w10 hS10)
      go_ret2
      have hfin : Frm.encode e = (Frm.le (Frm.crc (Frm.body e)) 4 ++ Frm.body e, 0) := by unfold Frm.encode; rw [if_neg (by rw [Hc.out]; simp)]
      rw [hfin]
      refine ⟨_, rfl, _, rfl, ⟨_, _, _, rfl⟩, ?_⟩
      have hdr : (List.replicate 4 (0 : UInt8) ++ Frm.body e).drop (Frm.le (Frm.crc (Frm.body e)) 4).length = Frm.body e := by
        rw [Frm.le_len, List.drop_append_of_le_length (by simp)]; simp
      rw [hdr] at hS10
      exact hXX _ _ (hS10.sel 2 [0] rfl rfl)
  · have Hf := Lib.hid (show Frm.encode e = ([], Frm.check e) by unfold Frm.encode; rw [if_pos hc])
    have hcb : (Frm.check e == 0) = false := by simpa using hc
    clear hc
    generalize Frm.check e = E at *
    go_wp2
    go_ret2
    rw [Hf.out]
    exact ⟨_, rfl, .slice none 0 0, rfl, ⟨_, _, _, rfl⟩, Sat.osl_nil.2 hS1.drop⟩
end
end Go.Proofs.YtdhhbajggafdhaaDoor
