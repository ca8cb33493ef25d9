import Derived.Test.YtlinnpehkfbnkaaGreatDoorJ5
set_option linter.unusedVariables false
set_option maxHeartbeats 128000000
namespace Go.Proofs.YtlinnpehkfbnkaaGreatDoor
open Go Go.Sl Go.Med Go.MapKept Go.RowKit
section
variable {w0 w : World} {F : List HProp} {v bv : Value}
theorem turn1_c (x : Nat) (hx : x < 18446744073709551616) (h : Sat w0 w F) : Calls Tryz.prog 259 #[.int .u64 x, .int .i64 1] w (Rtn fun v w' => v = .int .u64 (Xx.turn x 1 : Nat) ∧ Sat w0 w' F) := by
 have hf := Lib.hid (show Xx.turn x 1 = (x * 2 % 18446744073709551616) ||| (x / 9223372036854775808) from rfl)
 have e1 : IntKind.u64.wrap ((x : Int) * 2) = ((x * 2 % 18446744073709551616 : Nat) : Int) := by rw [IntKind.wrap_u64]; omega
 have e2 : (x : Int) / 9223372036854775808 = ((x / 9223372036854775808 : Nat) : Int) := rfl
 have ha : x * 2 % 18446744073709551616 < 18446744073709551616 := Nat.mod_lt _ dCz
 have hb : x / 9223372036854775808 < 18446744073709551616 := Nat.lt_of_le_of_lt (Nat.div_le_self _ _) hx
 generalize x * 2 % 18446744073709551616 = a at *
 generalize x / 9223372036854775808 = b at *
 have e3 := orN a b ha hb
 have hS := h.drew
 have e0 : bits .and .i64 (1 : Int) 63 = 1 := by decide
 have e00 : wrap64 (64 - 1 : Int) = 63 := by rw [IntWalk.wrap64_in _ dCz]; rfl
 clear ha hb h
 go_enter Tryz.func259, Tryz.ntmps259
 go_wp2_with fail
 go_region
 go_wp2
 go_ret
 exact ⟨_, rfl, by rw [hf.out]; rfl, hS⟩
theorem turn7_c (x : Nat) (hx : x < 18446744073709551616) (h : Sat w0 w F) : Calls Tryz.prog 259 #[.int .u64 x, .int .i64 7] w (Rtn fun v w' => v = .int .u64 (Xx.turn x 7 : Nat) ∧ Sat w0 w' F) := by
 have hf := Lib.hid (show Xx.turn x 7 = (x * 128 % 18446744073709551616) ||| (x / 144115188075855872) from rfl)
 have e1 : IntKind.u64.wrap ((x : Int) * 128) = ((x * 128 % 18446744073709551616 : Nat) : Int) := by rw [IntKind.wrap_u64]; omega
 have e2 : (x : Int) / 144115188075855872 = ((x / 144115188075855872 : Nat) : Int) := rfl
 have ha : x * 128 % 18446744073709551616 < 18446744073709551616 := Nat.mod_lt _ dCz
 have hb : x / 144115188075855872 < 18446744073709551616 := Nat.lt_of_le_of_lt (Nat.div_le_self _ _) hx
 generalize x * 128 % 18446744073709551616 = a at *
 generalize x / 144115188075855872 = b at *
 have e3 := orN a b ha hb
 have hS := h.drew
 have e0 : bits .and .i64 (7 : Int) 63 = 7 := by decide
 have e00 : wrap64 (64 - 7 : Int) = 57 := by rw [IntWalk.wrap64_in _ dCz]; rfl
 clear ha hb h
 go_enter Tryz.func259, Tryz.ntmps259
 go_wp2_with fail
 go_region
 go_wp2
 go_ret
 exact ⟨_, rfl, by rw [hf.out]; rfl, hS⟩
theorem turn11_c (x : Nat) (hx : x < 18446744073709551616) (h : Sat w0 w F) : Calls Tryz.prog 259 #[.int .u64 x, .int .i64 11] w (Rtn fun v w' => v = .int .u64 (Xx.turn x 11 : Nat) ∧ Sat w0 w' F) := by
 have hf := Lib.hid (show Xx.turn x 11 = (x * 2048 % 18446744073709551616) ||| (x / 9007199254740992) from rfl)
 have e1 : IntKind.u64.wrap ((x : Int) * 2048) = ((x * 2048 % 18446744073709551616 : Nat) : Int) := by rw [IntKind.wrap_u64]; omega
 have e2 : (x : Int) / 9007199254740992 = ((x / 9007199254740992 : Nat) : Int) := rfl
 have ha : x * 2048 % 18446744073709551616 < 18446744073709551616 := Nat.mod_lt _ dCz
 have hb : x / 9007199254740992 < 18446744073709551616 := Nat.lt_of_le_of_lt (Nat.div_le_self _ _) hx
 generalize x * 2048 % 18446744073709551616 = a at *
 generalize x / 9007199254740992 = b at *
 have e3 := orN a b ha hb
 have hS := h.drew
 have e0 : bits .and .i64 (11 : Int) 63 = 11 := by decide
 have e00 : wrap64 (64 - 11 : Int) = 53 := by rw [IntWalk.wrap64_in _ dCz]; rfl
 clear ha hb h
 go_enter Tryz.func259, Tryz.ntmps259
 go_wp2_with fail
 go_region
 go_wp2
 go_ret
 exact ⟨_, rfl, by rw [hf.out]; rfl, hS⟩
theorem turn12_c (x : Nat) (hx : x < 18446744073709551616) (h : Sat w0 w F) : Calls Tryz.prog 259 #[.int .u64 x, .int .i64 12] w (Rtn fun v w' => v = .int .u64 (Xx.turn x 12 : Nat) ∧ Sat w0 w' F) := by
 have hf := Lib.hid (show Xx.turn x 12 = (x * 4096 % 18446744073709551616) ||| (x / 4503599627370496) from rfl)
 have e1 : IntKind.u64.wrap ((x : Int) * 4096) = ((x * 4096 % 18446744073709551616 : Nat) : Int) := by rw [IntKind.wrap_u64]; omega
 have e2 : (x : Int) / 4503599627370496 = ((x / 4503599627370496 : Nat) : Int) := rfl
 have ha : x * 4096 % 18446744073709551616 < 18446744073709551616 := Nat.mod_lt _ dCz
 have hb : x / 4503599627370496 < 18446744073709551616 := Nat.lt_of_le_of_lt (Nat.div_le_self _ _) hx
 generalize x * 4096 % 18446744073709551616 = a at *
 generalize x / 4503599627370496 = b at *
 have e3 := orN a b ha hb
 have hS := h.drew
 have e0 : bits .and .i64 (12 : Int) 63 = 12 := by decide
 have e00 : wrap64 (64 - 12 : Int) = 52 := by rw [IntWalk.wrap64_in _ dCz]; rfl
 clear ha hb h
 go_enter Tryz.func259, Tryz.ntmps259
 go_wp2_with fail
 go_region
 go_wp2
 go_ret
 exact ⟨_, rfl, by rw [hf.out]; rfl, hS⟩
theorem turn18_c (x : Nat) (hx : x < 18446744073709551616) (h : Sat w0 w F) : Calls Tryz.prog 259 #[.int .u64 x, .int .i64 18] w (Rtn fun v w' => v = .int .u64 (Xx.turn x 18 : Nat) ∧ Sat w0 w' F) := by
 have hf := Lib.hid (show Xx.turn x 18 = (x * 262144 % 18446744073709551616) ||| (x / 70368744177664) from rfl)
 have e1 : IntKind.u64.wrap ((x : Int) * 262144) = ((x * 262144 % 18446744073709551616 : Nat) : Int) := by rw [IntKind.wrap_u64]; omega
 have e2 : (x : Int) / 70368744177664 = ((x / 70368744177664 : Nat) : Int) := rfl
 have ha : x * 262144 % 18446744073709551616 < 18446744073709551616 := Nat.mod_lt _ dCz
 have hb : x / 70368744177664 < 18446744073709551616 := Nat.lt_of_le_of_lt (Nat.div_le_self _ _) hx
 generalize x * 262144 % 18446744073709551616 = a at *
 generalize x / 70368744177664 = b at *
 have e3 := orN a b ha hb
 have hS := h.drew
 have e0 : bits .and .i64 (18 : Int) 63 = 18 := by decide
 have e00 : wrap64 (64 - 18 : Int) = 46 := by rw [IntWalk.wrap64_in _ dCz]; rfl
 clear ha hb h
 go_enter Tryz.func259, Tryz.ntmps259
 go_wp2_with fail
 go_region
 go_wp2
 go_ret
 exact ⟨_, rfl, by rw [hf.out]; rfl, hS⟩
theorem turn23_c (x : Nat) (hx : x < 18446744073709551616) (h : Sat w0 w F) : Calls Tryz.prog 259 #[.int .u64 x, .int .i64 23] w (Rtn fun v w' => v = .int .u64 (Xx.turn x 23 : Nat) ∧ Sat w0 w' F) := by
 have hf := Lib.hid (show Xx.turn x 23 = (x * 8388608 % 18446744073709551616) ||| (x / 2199023255552) from rfl)
 have e1 : IntKind.u64.wrap ((x : Int) * 8388608) = ((x * 8388608 % 18446744073709551616 : Nat) : Int) := by rw [IntKind.wrap_u64]; omega
 have e2 : (x : Int) / 2199023255552 = ((x / 2199023255552 : Nat) : Int) := rfl
 have ha : x * 8388608 % 18446744073709551616 < 18446744073709551616 := Nat.mod_lt _ dCz
 have hb : x / 2199023255552 < 18446744073709551616 := Nat.lt_of_le_of_lt (Nat.div_le_self _ _) hx
 generalize x * 8388608 % 18446744073709551616 = a at *
 generalize x / 2199023255552 = b at *
 have e3 := orN a b ha hb
 have hS := h.drew
 have e0 : bits .and .i64 (23 : Int) 63 = 23 := by decide
 have e00 : wrap64 (64 - 23 : Int) = 41 := by rw [IntWalk.wrap64_in _ dCz]; rfl
 clear ha hb h
 go_enter Tryz.func259, Tryz.ntmps259
 go_wp2_with fail
 go_region
 go_wp2
 go_ret
 exact ⟨_, rfl, by rw [hf.out]; rfl, hS⟩
theorem turn27_c (x : Nat) (hx : x < 18446744073709551616) (h : Sat w0 w F) : Calls Tryz.prog 259 #[.int .u64 x, .int .i64 27] w (Rtn fun v w' => v = .int .u64 (Xx.turn x 27 : Nat) ∧ Sat w0 w' F) := by
 have hf := Lib.hid (show Xx.turn x 27 = (x * 134217728 % 18446744073709551616) ||| (x / 137438953472) from rfl)
 have e1 : IntKind.u64.wrap ((x : Int) * 134217728) = ((x * 134217728 % 18446744073709551616 : Nat) : Int) := by rw [IntKind.wrap_u64]; omega
 have e2 : (x : Int) / 137438953472 = ((x / 137438953472 : Nat) : Int) := rfl
 have ha : x * 134217728 % 18446744073709551616 < 18446744073709551616 := Nat.mod_lt _ dCz
 have hb : x / 137438953472 < 18446744073709551616 := Nat.lt_of_le_of_lt (Nat.div_le_self _ _) hx
 generalize x * 134217728 % 18446744073709551616 = a at *
 generalize x / 137438953472 = b at *
 have e3 := orN a b ha hb
 have hS := h.drew
 have e0 : bits .and .i64 (27 : Int) 63 = 27 := by decide
 have e00 : wrap64 (64 - 27 : Int) = 37 := by rw [IntWalk.wrap64_in _ dCz]; rfl
 clear ha hb h
 go_enter Tryz.func259, Tryz.ntmps259
 go_wp2_with fail
 go_region
 go_wp2
 go_ret
 exact ⟨_, rfl, by rw [hf.out]; rfl, hS⟩
theorem turn31_c (x : Nat) (hx : x < 18446744073709551616) (h : Sat w0 w F) : Calls Tryz.prog 259 #[.int .u64 x, .int .i64 31] w (Rtn fun v w' => v = .int .u64 (Xx.turn x 31 : Nat) ∧ Sat w0 w' F) := by
 have hf := Lib.hid (show Xx.turn x 31 = (x * 2147483648 % 18446744073709551616) ||| (x / 8589934592) from rfl)
 have e1 : IntKind.u64.wrap ((x : Int) * 2147483648) = ((x * 2147483648 % 18446744073709551616 : Nat) : Int) := by rw [IntKind.wrap_u64]; omega
 have e2 : (x : Int) / 8589934592 = ((x / 8589934592 : Nat) : Int) := rfl
 have ha : x * 2147483648 % 18446744073709551616 < 18446744073709551616 := Nat.mod_lt _ dCz
 have hb : x / 8589934592 < 18446744073709551616 := Nat.lt_of_le_of_lt (Nat.div_le_self _ _) hx
 generalize x * 2147483648 % 18446744073709551616 = a at *
 generalize x / 8589934592 = b at *
 have e3 := orN a b ha hb
 have hS := h.drew
 have e0 : bits .and .i64 (31 : Int) 63 = 31 := by decide
 have e00 : wrap64 (64 - 31 : Int) = 33 := by rw [IntWalk.wrap64_in _ dCz]; rfl
 clear ha hb h
 go_enter Tryz.func259, Tryz.ntmps259
 go_wp2_with fail
 go_region
 go_wp2
 go_ret
 exact ⟨_, rfl, by rw [hf.out]; rfl, hS⟩
theorem lane_c (a x : Nat) (h : Sat w0 w F) : Calls Tryz.prog 231 #[.int .u64 a, .int .u64 x] w (Rtn fun v w' => v = .int .u64 (Xx.lane a x : Nat) ∧ Sat w0 w' F) := by
 obtain ⟨y, z, u, e1, e2, hz, e3, e4⟩ := lane_ex a x
 rw [e4]
 have ht := turn31_c z hz h
 clear hz e4 h
 generalize Xx.turn z 31 = t at *
 go_enter Tryz.func231, Tryz.ntmps231
 go_wp2_with fail
 refine ht.mono ?_
 rintro ee w1 ⟨v, rfl, rfl, hS⟩
 clear ht
 go_wp2
 go_ret
 exact ⟨_, rfl, rfl, hS⟩
end
structure RS (w0 : World) (F : List HProp) (v : Value) (l : Bs) : Prop where
 rd : Ro w0 F (rdsl 1 v (bys l))
 cap : capOk v
section
variable {w0 w : World} {F : List HProp} {v : Value} {l : Bs} {a : Option Addr} {n c k : Nat}
theorem sizeU8 (w : World) : (sizeOf 5).run Tryz.prog w = .ok 1 w := by kernel_rfl
theorem elemU8 : Tryz.prog.elem 25 = 5 := by kernel_rfl
theorem undU8 : Tryz.prog.underlying 25 = some (.slice (Tryz.prog.elem 25)) := by rw [elemU8]; exact Tryz.underlying25
theorem run_slF (hk : k ≤ n) (w : World) : (Instr.sliceAt 25 (.slice a n c) (some (.int .i64 k)) none none).run Tryz.prog w = .ok (sliced a k n c 1) w := by
 rw [run_sliceAt_slice _ _ _ _ _ _ undU8, run_slice_l _ _ _ _ _ undU8 .i64 (k : Int) (by omega) (by omega), elemU8, sizeU8]
 simp [Result.andThen]
theorem run_slT (hk : k ≤ c) (w : World) : (Instr.sliceAt 25 (.slice a n c) none (some (.int .i64 k)) none).run Tryz.prog w = .ok (sliced a 0 k c 1) w := by
 rw [run_sliceAt_slice _ _ _ _ _ _ undU8, run_slice_h _ _ _ _ _ undU8 .i64 (k : Int) (by omega) (by omega), elemU8, sizeU8]
 simp [Result.andThen]
theorem run_slM (hk : k ≤ c) (w : World) : (Instr.sliceAt 25 (.slice a n c) none (some (.int .i64 k)) (some (.int .i64 k))).run Tryz.prog w = .ok (sliced a 0 k k 1) w := by
 rw [run_sliceAt_slice _ _ _ _ _ _ undU8, run_slice_hm _ _ _ _ _ undU8 .i64 .i64 (k : Int) (k : Int) (by omega) (by omega) (by omega), elemU8, sizeU8]
 simp [Result.andThen]
theorem RS.len (h : RS w0 F v l) (hS : Sat w0 w F) : ∃ a c, v = .slice a l.length c ∧ l.length ≤ c ∧ c ≤ 9223372036854775807 := by
 obtain ⟨a, n, c, rfl, h1, h2⟩ := h.cap
 obtain ⟨_, _, _, he, hl, _⟩ := h.rd w hS
 cases he
 rw [bys_len, Nat.mul_one] at hl
 subst hl
 exact ⟨a, c, rfl, h1, h2⟩
theorem bys_get {l : Bs} {j : Nat} {y : Value} : (bys l)[j]? = some y ↔ ∃ u, l[j]? = some u ∧ y = .int .u8 u.toNat := by
 unfold bys
 rw [List.getElem?_map, Option.map_eq_some_iff]
 constructor
 ·rintro ⟨u, h1, h2⟩; exact ⟨u, h1, h2.symm⟩
 ·rintro ⟨u, h1, h2⟩; exact ⟨u, h1, h2.symm⟩
theorem RS.from (h : RS w0 F (.slice a l.length c) l) (hk : k ≤ l.length) : RS w0 F (sliced a k l.length c 1) (l.drop k) := by
 obtain ⟨a', n', c', he, h1, h2⟩ := h.cap
 cases he
 refine ⟨fun w hw => ?_, ⟨_, _, _, rfl, by omega, by omega⟩⟩
 refine ⟨_, _, _, rfl, by rw [bys_len, List.length_drop, Nat.mul_one], fun j y hj => ?_⟩
 obtain ⟨u, hu, rfl⟩ := bys_get.1 hj
 rw [List.getElem?_drop] at hu
 have hlt := (List.getElem?_eq_some_iff.1 hu).1
 obtain ⟨bk, off, rfl, hc⟩ := rdsl_cells (h.rd w hw) (bys_get.2 ⟨u, hu, rfl⟩)
 rw [if_neg (by omega)]
 refine ⟨_, rfl, ?_⟩
 have := hc (k + j) _ (bys_get.2 ⟨u, hu, rfl⟩)
 show w.cell? (((⟨bk, off, none⟩ : Addr).add (k * 1)).add j) = _
 rw [Addr.add_mid, Addr.add_mid, Nat.mul_one, Nat.add_assoc]; exact this
theorem RS.to (h : RS w0 F (.slice a l.length c) l) (hk : k ≤ l.length) (m : Nat) (hm : k ≤ m) (hmc : m ≤ c) : RS w0 F (sliced a 0 k m 1) (l.take k) := by
 obtain ⟨a', n', c', he, h1, h2⟩ := h.cap
 cases he
 refine ⟨fun w hw => ?_, ⟨_, _, _, rfl, by omega, by omega⟩⟩
 refine ⟨_, _, _, rfl, by rw [bys_len, List.length_take, Nat.mul_one]; omega, fun j y hj => ?_⟩
 obtain ⟨u, hu, rfl⟩ := bys_get.1 hj
 rw [List.getElem?_take] at hu
 split at hu
 ·rename_i hjk
  obtain ⟨bk, off, rfl, hc⟩ := rdsl_cells (h.rd w hw) (bys_get.2 ⟨u, hu, rfl⟩)
  rw [if_neg (by omega)]
  refine ⟨_, rfl, ?_⟩
  have := hc j _ (bys_get.2 ⟨u, hu, rfl⟩)
  show w.cell? (((⟨bk, off, none⟩ : Addr).add (0 * 1)).add j) = _
  rw [Addr.add_mid, Addr.add_mid, Nat.zero_mul, Nat.add_zero]; exact this
 ·cases hu
theorem RS.of_bsl (h : Sat w0 w (bsl v l :: F)) : RS w0 (bsl v l :: F) v l := by
 obtain ⟨a, n, c, e, h1, h2, h3⟩ := bsl_cap' h
 exact ⟨Ro.bsl _ _, ⟨a, n, c, e, h1, h2⟩⟩
theorem RS.more (h : RS w0 F v l) {G : List HProp} (k : Sub G F) : RS w0 G v l := ⟨Ro.of_sub h.rd k, h.cap⟩
end
section
variable {P : Program} {w : World} {ops : Array Oper} {rest : List Oper} {a : Act} {Q : Exit → Act → World → Prop} {dst : Option Tmp} {t ty : TypeId} {pos : String} {after : Array Edge} {x y z : Operand} {v vx vy vz : Value}
theorem wl_slF (hx : a.eval x = vx) (hy : a.eval y = vy) (hr : ∀ w, (Instr.sliceAt ty vx (some vy) none none).run P w = .ok v w) (h : wpList P ops Q rest (a.put dst v) w) : wpList P ops Q (⟨dst, .slice ty x (some y) none none, t, pos, after, none⟩ :: rest) a w :=
 wpList_plain rfl fun _ hK => by
  unfold Oper.wp execOp
  simp only [hx, hy, Option.map_some, Option.map_none, Sem.run_bind, hr, Result.andThen_ok, Sem.run_pure]
  exact hK _ _ h
theorem wl_slT (hx : a.eval x = vx) (hy : a.eval y = vy) (hr : ∀ w, (Instr.sliceAt ty vx none (some vy) none).run P w = .ok v w) (h : wpList P ops Q rest (a.put dst v) w) : wpList P ops Q (⟨dst, .slice ty x none (some y) none, t, pos, after, none⟩ :: rest) a w :=
 wpList_plain rfl fun _ hK => by
  unfold Oper.wp execOp
  simp only [hx, hy, Option.map_some, Option.map_none, Sem.run_bind, hr, Result.andThen_ok, Sem.run_pure]
  exact hK _ _ h
theorem wl_slM (hx : a.eval x = vx) (hy : a.eval y = vy) (hz : a.eval z = vz) (hr : ∀ w, (Instr.sliceAt ty vx none (some vy) (some vz)).run P w = .ok v w) (h : wpList P ops Q rest (a.put dst v) w) : wpList P ops Q (⟨dst, .slice ty x none (some y) (some z), t, pos, after, none⟩ :: rest) a w :=
 wpList_plain rfl fun _ hK => by
  unfold Oper.wp execOp
  simp only [hx, hy, hz, Option.map_some, Option.map_none, Sem.run_bind, hr, Result.andThen_ok, Sem.run_pure]
  exact hK _ _ h
theorem at_slF (h : Stop (wpList P ops Q (⟨dst, .slice ty x (some y) none none, t, pos, after, none⟩ :: rest) a w)) : wpList P ops Q (⟨dst, .slice ty x (some y) none none, t, pos, after, none⟩ :: rest) a w := h.out
theorem at_slT (h : Stop (wpList P ops Q (⟨dst, .slice ty x none (some y) none, t, pos, after, none⟩ :: rest) a w)) : wpList P ops Q (⟨dst, .slice ty x none (some y) none, t, pos, after, none⟩ :: rest) a w := h.out
theorem at_slM (h : Stop (wpList P ops Q (⟨dst, .slice ty x none (some y) (some z), t, pos, after, none⟩ :: rest) a w)) : wpList P ops Q (⟨dst, .slice ty x none (some y) (some z), t, pos, after, none⟩ :: rest) a w := h.out
end
section
variable {w0 w : World} {F : List HProp} {v bv : Value}
theorem or_num8 (l : Bs) (c : UInt8) (k : Nat) (hl : l.length = k) (hk : k < 8) : bits .or .u64 ((Frm.num l : Nat) : Int) ((c.toNat : Int) * ((256 ^ k : Nat) : Int)) = ((Frm.num (l ++ [c]) : Nat) : Int) := by
 subst hl
 have h1 := Frm.num_lt l
 have h2 := c.toNat_lt
 have h3 : 256 ^ l.length ≤ 256 ^ 7 := Nat.pow_le_pow_right dCz (by omega)
 have h4 : c.toNat * 256 ^ l.length ≤ 255 * 256 ^ 7 := Nat.mul_le_mul (by omega) h3
 have h5 : (256 : Nat) ^ 7 = 72057594037927936 := by decide
 have e : (c.toNat : Int) * ((256 ^ l.length : Nat) : Int) = ((c.toNat * 256 ^ l.length : Nat) : Int) := by rw [Int.natCast_mul]
 rw [e, u64_or_nat _ _ (by omega) (by omega), Frm.num_snoc]
 congr 1
 have hp : (256 : Nat) ^ l.length = 2 ^ (8 * l.length) := by rw [Nat.pow_mul]
 rw [hp] at h1 ⊢
 have := Nat.two_pow_add_eq_or_of_lt h1 c.toNat
 rw [Nat.or_comm, Nat.mul_comm c.toNat, ← this, Nat.add_comm]
set_option maxRecDepth 20000 in
theorem get8_c (c0 c1 c2 c3 c4 c5 c6 c7 : UInt8) (a : Option Addr) (c : Nat) (h : rdsl 1 (.slice a 8 c) (bys [c0, c1, c2, c3, c4, c5, c6, c7]) w) :
  Calls Tryz.prog 200 #[.slice a 8 c] w (Rtn fun v w' => v = .tuple #[.int .u64 (Frm.num [c0, c1, c2, c3, c4, c5, c6, c7] : Nat), .bool true] ∧ w = w') := by
 obtain ⟨bk, off, rfl, hc⟩ := rdsl_cells h (i := 0) rfl
 have e0 : w.cell? ⟨bk, off, none⟩ = some (.int .u8 c0.toNat) := hc 0 _ rfl
 have t0 := c0.toNat_lt
 have e1 : w.cell? ⟨bk, off + 1, none⟩ = some (.int .u8 c1.toNat) := hc 1 _ rfl
 have t1 := c1.toNat_lt
 have e2 : w.cell? ⟨bk, off + 2, none⟩ = some (.int .u8 c2.toNat) := hc 2 _ rfl
 have t2 := c2.toNat_lt
 have e3 : w.cell? ⟨bk, off + 3, none⟩ = some (.int .u8 c3.toNat) := hc 3 _ rfl
 have t3 := c3.toNat_lt
 have e4 : w.cell? ⟨bk, off + 4, none⟩ = some (.int .u8 c4.toNat) := hc 4 _ rfl
 have t4 := c4.toNat_lt
 have e5 : w.cell? ⟨bk, off + 5, none⟩ = some (.int .u8 c5.toNat) := hc 5 _ rfl
 have t5 := c5.toNat_lt
 have e6 : w.cell? ⟨bk, off + 6, none⟩ = some (.int .u8 c6.toNat) := hc 6 _ rfl
 have t6 := c6.toNat_lt
 have e7 : w.cell? ⟨bk, off + 7, none⟩ = some (.int .u8 c7.toNat) := hc 7 _ rfl
 have t7 := c7.toNat_lt
 clear hc h
 go_enter Tryz.func200, Tryz.ntmps200
 go_wp2_with fail
 go_loopg [17, 4] 8 (fun g iq xq wr => ∃ i : Nat, g = 8 - i ∧ i ≤ 8 ∧ iq = .int .i64 i ∧ xq = .int .u64 (Frm.num ([c0, c1, c2, c3, c4, c5, c6, c7].take i) : Nat) ∧ wr = w)
 case atStart => exact ⟨0, rfl, by omega, rfl, rfl, rfl⟩
 case round =>
  obtain ⟨i, rfl, hi, rfl, rfl, rfl⟩ := hrel
  by_cases h4 : i < 8
  ·have h0 : i = 0 ∨ i = 1 ∨ i = 2 ∨ i = 3 ∨ i = 4 ∨ i = 5 ∨ i = 6 ∨ i = 7 := by omega
   clear hi h4
   rcases h0 with rfl | rfl | rfl | rfl | rfl | rfl | rfl | rfl
   ·have hq : bits .or .u64 ((Frm.num [] : Nat) : Int) (c0.toNat : Int) = ((Frm.num [c0] : Nat) : Int) := by
     have := or_num8 [] c0 0 rfl dCz
     simpa using this
    go_wp2_with fail
    go_roundg (8 - 1)
    case measure => decide
    case rel => exact ⟨1, rfl, by decide, by first | rfl | go_num, rfl, rfl⟩
   ·have hq : bits .or .u64 ((Frm.num [c0] : Nat) : Int) ((c1.toNat : Int) * 256) = ((Frm.num [c0, c1] : Nat) : Int) := or_num8 [c0] c1 1 rfl dCz
    go_wp2_with fail
    go_roundg (8 - 2)
    case measure => decide
    case rel => exact ⟨2, rfl, by decide, by first | rfl | go_num, rfl, rfl⟩
   ·have hq : bits .or .u64 ((Frm.num [c0, c1] : Nat) : Int) ((c2.toNat : Int) * 65536) = ((Frm.num [c0, c1, c2] : Nat) : Int) := or_num8 [c0, c1] c2 2 rfl dCz
    go_wp2_with fail
    go_roundg (8 - 3)
    case measure => decide
    case rel => exact ⟨3, rfl, by decide, by first | rfl | go_num, rfl, rfl⟩
   ·have hq : bits .or .u64 ((Frm.num [c0, c1, c2] : Nat) : Int) ((c3.toNat : Int) * 16777216) = ((Frm.num [c0, c1, c2, c3] : Nat) : Int) := or_num8 [c0, c1, c2] c3 3 rfl dCz
    go_wp2_with fail
    go_roundg (8 - 4)
    case measure => decide
    case rel => exact ⟨4, rfl, by decide, by first | rfl | go_num, rfl, rfl⟩
   ·have hq : bits .or .u64 ((Frm.num [c0, c1, c2, c3] : Nat) : Int) ((c4.toNat : Int) * 4294967296) = ((Frm.num [c0, c1, c2, c3, c4] : Nat) : Int) := or_num8 [c0, c1, c2, c3] c4 4 rfl dCz
    go_wp2_with fail
    go_roundg (8 - 5)
    case measure => decide
    case rel => exact ⟨5, rfl, by decide, by first | rfl | go_num, rfl, rfl⟩
   ·have hq : bits .or .u64 ((Frm.num [c0, c1, c2, c3, c4] : Nat) : Int) ((c5.toNat : Int) * 1099511627776) = ((Frm.num [c0, c1, c2, c3, c4, c5] : Nat) : Int) := or_num8 [c0, c1, c2, c3, c4] c5 5 rfl dCz
    go_wp2_with fail
    go_roundg (8 - 6)
    case measure => decide
    case rel => exact ⟨6, rfl, by decide, by first | rfl | go_num, rfl, rfl⟩
   ·have hq : bits .or .u64 ((Frm.num [c0, c1, c2, c3, c4, c5] : Nat) : Int) ((c6.toNat : Int) * 281474976710656) = ((Frm.num [c0, c1, c2, c3, c4, c5, c6] : Nat) : Int) := or_num8 [c0, c1, c2, c3, c4, c5] c6 6 rfl dCz
    go_wp2_with fail
    go_roundg (8 - 7)
    case measure => decide
    case rel => exact ⟨7, rfl, by decide, by first | rfl | go_num, rfl, rfl⟩
   ·have hq : bits .or .u64 ((Frm.num [c0, c1, c2, c3, c4, c5, c6] : Nat) : Int) ((c7.toNat : Int) * 72057594037927936) = ((Frm.num [c0, c1, c2, c3, c4, c5, c6, c7] : Nat) : Int) := or_num8 [c0, c1, c2, c3, c4, c5, c6] c7 7 rfl dCz
    go_wp2_with fail
    go_roundg (8 - 8)
    case measure => decide
    case rel => exact ⟨8, rfl, by decide, by first | rfl | go_num, rfl, rfl⟩
  ·obtain rfl : i = 8 := by omega
   go_wp2
   go_ret2
   exact ⟨_, rfl, rfl, rfl⟩
theorem eight {l : Bs} (h : l.length = 8) : ∃ c0 c1 c2 c3 c4 c5 c6 c7, l = [c0, c1, c2, c3, c4, c5, c6, c7] := by
 match l, h with
 | [c0, c1, c2, c3, c4, c5, c6, c7], _ => exact ⟨c0, c1, c2, c3, c4, c5, c6, c7, rfl⟩
theorem get8_l (l : Bs) (hl : l.length = 8) (a : Option Addr) (c : Nat) (h : rdsl 1 (.slice a 8 c) (bys l) w) :
  Calls Tryz.prog 200 #[.slice a 8 c] w (Rtn fun v w' => v = .tuple #[.int .u64 (Frm.num l : Nat), .bool true] ∧ w = w') := by
 obtain ⟨c0, c1, c2, c3, c4, c5, c6, c7, rfl⟩ := eight hl
 exact get8_c c0 c1 c2 c3 c4 c5 c6 c7 a c h
theorem word_c (l : Bs) (hl : 8 ≤ l.length) (hr : RS w0 F bv l) (h : Sat w0 w F) :
  Calls Tryz.prog 232 #[bv] w (Rtn fun v w' => v = .int .u64 (Frm.num (l.take 8) : Nat) ∧ w = w') := by
 obtain ⟨a, c, rfl, h1, h2⟩ := hr.len h
 have ht := (hr.to hl c (by omega) (Nat.le_refl c)).rd w h
 have hs : sliced a 0 8 c 1 = .slice (if c = 0 then a else a.map (·.add (0 * 1))) 8 c := rfl
 rw [hs] at ht
 have hg := get8_l (l.take 8) (by rw [List.length_take]; omega) _ c ht
 have hrun : ∀ w, (Instr.sliceAt 25 (.slice a l.length c) none (some (.int .i64 8)) none).run Tryz.prog w = .ok (.slice (if c = 0 then a else a.map (·.add (0 * 1))) 8 c) w := fun w => run_slT (k := 8) (by omega) w
 generalize (if c = 0 then a else a.map (·.add (0 * 1))) = a2 at *
 generalize Frm.num (l.take 8) = N at *
 clear ht hs
 go_enter Tryz.func232, Tryz.ntmps232
 go_wp2_with ((with_reducible apply at_slT); refine ⟨?_⟩; refine wl_slT rFz rFz hrun ?_)
 refine hg.mono ?_
 rintro e w1 ⟨v, rfl, rfl, rfl⟩
 go_wp2
 go_ret
 exact ⟨_, rfl, rfl, rfl⟩
set_option maxRecDepth 20000 in
theorem put8_c (x : Nat) (hx : x < 18446744073709551616) (h : Sat w0 w F) :
  Calls Tryz.prog 149 #[.int .u64 x, .int .i64 8] w (Rtn fun v w' => Sat w0 w' (bsl v (Frm.le x 8) :: F) ∧ ∃ a, v = .slice a 8 8) := by
 have Hx := Lib.hid hx
 clear hx
 have hmk : ∀ w, (Instr.makeSlice 25 (.int .i64 8) (.int .i64 8)).run Tryz.prog w = .ok (.slice (some ⟨w.heap.size, 0, none⟩) 8 8) (w.alloc (.cells #[.int .u8 0, .int .u8 0, .int .u8 0, .int .u8 0, .int .u8 0, .int .u8 0, .int .u8 0, .int .u8 0] 5)) := fun w => by kernel_rfl
 go_enter Tryz.func149, Tryz.ntmps149
 go_wp2_with fail
 have hA := h.alloc (.cells #[.int .u8 0, .int .u8 0, .int .u8 0, .int .u8 0, .int .u8 0, .int .u8 0, .int .u8 0, .int .u8 0] 5)
 have hB : Sat w0 (w.alloc (.cells #[.int .u8 0, .int .u8 0, .int .u8 0, .int .u8 0, .int .u8 0, .int .u8 0, .int .u8 0, .int .u8 0] 5)) (bsl (.slice (some ⟨w.heap.size, 0, none⟩) 8 8) [0, 0, 0, 0, 0, 0, 0, 0] :: F) := Sat.osl_of_pt hA rfl (Nat.le_refl _) (Nat.le_refl _) (by unfold maxLen; omega) rfl
 obtain ⟨b0, b1, b2, b3, b4, b5, b6, b7, hb0, hb1, hb2, hb3, hb4, hb5, hb6, hb7, hle⟩ : ∃ b0 b1 b2 b3 b4 b5 b6 b7 : UInt8, (x : Int) % 256 = b0.toNat ∧ (x : Int) / 256 % 256 = b1.toNat ∧ (x : Int) / 65536 % 256 = b2.toNat ∧ (x : Int) / 16777216 % 256 = b3.toNat ∧ (x : Int) / 4294967296 % 256 = b4.toNat ∧ (x : Int) / 1099511627776 % 256 = b5.toNat ∧ (x : Int) / 281474976710656 % 256 = b6.toNat ∧ (x : Int) / 72057594037927936 % 256 = b7.toNat ∧ Frm.le x 8 = [b0, b1, b2, b3, b4, b5, b6, b7] := by
  refine ⟨_, _, _, _, _, _, _, _, ?_, ?_, ?_, ?_, ?_, ?_, ?_, ?_, rfl⟩
  all_goals (rw [UInt8.toNat_ofNat']; omega)
 have Hle := Lib.hid hle
 clear hle hmk hA
 generalize w.heap.size = q at *
 go_loopg [17] 8 (fun g iq wr => ∃ (i : Nat) (l' : Bs), g = 8 - i ∧ i ≤ 8 ∧ iq = .int .i64 i ∧ l' = (match i with | 0 => [0, 0, 0, 0, 0, 0, 0, 0] | 1 => [b0, 0, 0, 0, 0, 0, 0, 0] | 2 => [b0, b1, 0, 0, 0, 0, 0, 0] | 3 => [b0, b1, b2, 0, 0, 0, 0, 0] | 4 => [b0, b1, b2, b3, 0, 0, 0, 0] | 5 => [b0, b1, b2, b3, b4, 0, 0, 0] | 6 => [b0, b1, b2, b3, b4, b5, 0, 0] | 7 => [b0, b1, b2, b3, b4, b5, b6, 0] | _ => [b0, b1, b2, b3, b4, b5, b6, b7]) ∧ Sat w0 wr (bsl (.slice (some ⟨q, 0, none⟩) 8 8) l' :: F))
 case atStart => exact ⟨0, _, rfl, by omega, rfl, rfl, hB⟩
 case round =>
  obtain ⟨i, l', rfl, hi, rfl, hl', hS⟩ := hrel
  clear hB
  obtain rfl | rfl | rfl | rfl | rfl | rfl | rfl | rfl | rfl : i = 0 ∨ i = 1 ∨ i = 2 ∨ i = 3 ∨ i = 4 ∨ i = 5 ∨ i = 6 ∨ i = 7 ∨ i = 8 := by omega
  ·obtain rfl : l' = [0, 0, 0, 0, 0, 0, 0, 0] := hl'
   obtain ⟨g, he, e0, e1, hS5⟩ := bsl_set (i := 0) hS (by simp) b0
   cases he
   go_wp2_with fail
   go_roundg 7
   case measure => omega
   case rel => exact ⟨1, [b0, 0, 0, 0, 0, 0, 0, 0], rfl, by omega, rfl, rfl, hS5⟩
  ·obtain rfl : l' = [b0, 0, 0, 0, 0, 0, 0, 0] := hl'
   obtain ⟨g, he, e0, e1, hS5⟩ := bsl_set (i := 1) hS (by simp) b1
   cases he
   go_wp2_with fail
   go_roundg 6
   case measure => omega
   case rel => exact ⟨2, [b0, b1, 0, 0, 0, 0, 0, 0], rfl, by omega, rfl, rfl, hS5⟩
  ·obtain rfl : l' = [b0, b1, 0, 0, 0, 0, 0, 0] := hl'
   obtain ⟨g, he, e0, e1, hS5⟩ := bsl_set (i := 2) hS (by simp) b2
   cases he
   go_wp2_with fail
   go_roundg 5
   case measure => omega
   case rel => exact ⟨3, [b0, b1, b2, 0, 0, 0, 0, 0], rfl, by omega, rfl, rfl, hS5⟩
  ·obtain rfl : l' = [b0, b1, b2, 0, 0, 0, 0, 0] := hl'
   obtain ⟨g, he, e0, e1, hS5⟩ := bsl_set (i := 3) hS (by simp) b3
   cases he
   go_wp2_with fail
   go_roundg 4
   case measure => omega
   case rel => exact ⟨4, [b0, b1, b2, b3, 0, 0, 0, 0], rfl, by omega, rfl, rfl, hS5⟩
  ·obtain rfl : l' = [b0, b1, b2, b3, 0, 0, 0, 0] := hl'
   obtain ⟨g, he, e0, e1, hS5⟩ := bsl_set (i := 4) hS (by simp) b4
   cases he
   go_wp2_with fail
   go_roundg 3
   case measure => omega
   case rel => exact ⟨5, [b0, b1, b2, b3, b4, 0, 0, 0], rfl, by omega, rfl, rfl, hS5⟩
  ·obtain rfl : l' = [b0, b1, b2, b3, b4, 0, 0, 0] := hl'
   obtain ⟨g, he, e0, e1, hS5⟩ := bsl_set (i := 5) hS (by simp) b5
   cases he
   go_wp2_with fail
   go_roundg 2
   case measure => omega
   case rel => exact ⟨6, [b0, b1, b2, b3, b4, b5, 0, 0], rfl, by omega, rfl, rfl, hS5⟩
  ·obtain rfl : l' = [b0, b1, b2, b3, b4, b5, 0, 0] := hl'
   obtain ⟨g, he, e0, e1, hS5⟩ := bsl_set (i := 6) hS (by simp) b6
   cases he
   go_wp2_with fail
   go_roundg 1
   case measure => omega
   case rel => exact ⟨7, [b0, b1, b2, b3, b4, b5, b6, 0], rfl, by omega, rfl, rfl, hS5⟩
  ·obtain rfl : l' = [b0, b1, b2, b3, b4, b5, b6, 0] := hl'
   obtain ⟨g, he, e0, e1, hS5⟩ := bsl_set (i := 7) hS (by simp) b7
   cases he
   go_wp2_with fail
   go_roundg 0
   case measure => omega
   case rel => exact ⟨8, [b0, b1, b2, b3, b4, b5, b6, b7], rfl, by omega, rfl, rfl, hS5⟩
  ·obtain rfl : l' = [b0, b1, b2, b3, b4, b5, b6, b7] := hl'
   go_wp2
   go_ret
   exact ⟨_, rfl, by rw [Hle.out]; exact hS, _, rfl⟩
end
section
variable {P : Program} {w0 w : World} {L : List HProp} {ops : Array Oper} {rest : List Oper} {a : Act} {Q : Exit → Act → World → Prop} {dst : Option Tmp} {t ty e : TypeId} {pos : String} {after : Array Edge} {x y : Operand} {g : Nat × Bool} {op : Op} {sz by' n : Nat} {v : Value} {zs : List Value}
theorem wl_bld {xs : Array (Nat × Operand)} {ps : Array (Nat × Value)} (h1 : xs.map (fun p => (p.1, a.eval p.2)) = ps) (hr : ∀ w, (Instr.build ty ps).run P w = .ok v w) (h : wpList P ops Q rest (a.put dst v) w) :
  wpList P ops Q (⟨dst, .build ty xs, t, pos, after, none⟩ :: rest) a w :=
 wpList_plain rfl fun _ hK => by
  unfold Oper.wp execOp
  simp only [h1, Sem.run_bind, hr, Result.andThen_ok, Sem.run_pure]
  exact hK _ _ h
end
abbrev hshPt (p : Nat) (l : Xx.Ln) (rv : Value) (n : Nat) : HProp := pt p (.cells #[.bool true, .int .u64 0, .int .u64 l.a, .int .u64 l.b, .int .u64 l.c, .int .u64 l.d, rv, .int .u64 n] 316 (0,0))
section
variable {w0 w : World} {F : List HProp} {v bv rv : Value} {p n : Nat} {l : Xx.Ln}
theorem zArr4 : zeroB Tryz.prog 314 = some (.agg #[.int .u64 0, .int .u64 0, .int .u64 0, .int .u64 0]) := by kernel_rfl
theorem newh_c (h : Sat w0 w F) : Calls Tryz.prog 205 #[.int .u64 0] w (Rtn fun v w' => ∃ p, v = ptr p ∧ Sat w0 w' (hshPt p Xx.Ln.zero (.slice none 0 0) 0 :: F)) := by
 have hb1 : ∀ w, (Instr.build 316 #[(0, .bool true), (1, .int .u64 0)]).run Tryz.prog w = .ok (.agg #[.bool true, .int .u64 0, .int .u64 0, .int .u64 0, .int .u64 0, .int .u64 0, .slice none 0 0, .int .u64 0]) w := fun w => by kernel_rfl
 have hb2 : ∀ w, (Instr.build 314 #[(0, .int .u64 6983438078262162902), (1, .int .u64 14029467366897019727), (2, .int .u64 0), (3, .int .u64 7046029288634856825)]).run Tryz.prog w = .ok (.agg #[.int .u64 6983438078262162902, .int .u64 14029467366897019727, .int .u64 0, .int .u64 7046029288634856825]) w := fun w => by kernel_rfl
 go_enter Tryz.func205, Tryz.ntmps205
 go_wp2_with (first
  | ((with_reducible apply at_box); refine ⟨?_⟩; refine wl_box h rFz rFz ?_; intro bB wB hB)
  | ((with_reducible apply at_store); refine ⟨?_⟩; refine wl_store (v := .agg #[.int .u64 6983438078262162902, .int .u64 14029467366897019727, .int .u64 0, .int .u64 7046029288634856825]) hB rFz rFz rFz upd0 dCz kRz rFz ?_; intro wS hS))
 go_ret
 exact ⟨_, rfl, bB, rfl, hS⟩
set_option maxRecDepth 20000 in
theorem joined_c (hl : l.lt) (h : Sat w0 w (hshPt p l rv n :: F)) : Calls Tryz.prog 233 #[ptr p] w (Rtn fun v w' => v = .int .u64 (Xx.joined l : Nat) ∧ Sat w0 w' (hshPt p l rv n :: F)) := by
 obtain ⟨la, lb, lc, ld⟩ := l
 obtain ⟨l1, l2, l3, l4⟩ := hl
 simp only at l1 l2 l3 l4
 obtain ⟨s1, s2, x0, f1, f2, f3, q5, hJ⟩ := join_ex ⟨la, lb, lc, ld⟩
 simp only at f1 f2 f3 hJ
 have HJ := Lib.hid hJ
 have Ht1 := Lib.hid (fun (w : World) (R : List HProp) (hS : Sat w0 w R) => turn1_c la l1 hS)
 have Ht2 := Lib.hid (fun (w : World) (R : List HProp) (hS : Sat w0 w R) => turn7_c lb l2 hS)
 have Ht3 := Lib.hid (fun (w : World) (R : List HProp) (hS : Sat w0 w R) => turn12_c lc l3 hS)
 have Ht4 := Lib.hid (fun (w : World) (R : List HProp) (hS : Sat w0 w R) => turn18_c ld l4 hS)
 generalize Xx.turn la 1 = ta at *
 generalize Xx.turn lb 7 = tb at *
 generalize Xx.turn lc 12 = tc at *
 generalize Xx.turn ld 18 = td at *
 have Hq := Lib.hid q5
 have Hf := Lib.hid (And.intro f1 (And.intro f2 f3))
 clear l1 l2 l3 l4 q5 f1 f2 f3 hJ
 go_enter Tryz.func233, Tryz.ntmps233
 go_wp2_with (first
  | ((with_reducible apply at_load); refine ⟨?_⟩; refine wl_loadN (b := p) (o := 2) [.int .u64 la, .int .u64 lb, .int .u64 lc, .int .u64 ld] h rFz pick0 (fun j v hj => by
    rcases j with _ | _ | _ | _ | j
    ·cases hj; rfl
    ·cases hj; rfl
    ·cases hj; rfl
    ·cases hj; rfl
    ·simp at hj) Tryz.underlying314 rfl kRz ?_)
  | ((with_reducible apply at_alloc); refine ⟨?_⟩; refine wl_alloc zArr4 h rfl ?_; intro b3 w3 h3)
  | ((with_reducible apply at_store); refine ⟨?_⟩; refine wl_storeA #[.int .u64 la, .int .u64 lb, .int .u64 lc, .int .u64 ld] h3 rFz rFz rFz upd0 kRz rFz ?_; intro w4 h4))
 have hS := h4.drew
 clear h h3 h4
 refine wpL_begin [13, 14, 15] (fun w' => w'.cell? ⟨b3, 0, none⟩ = some (.int .u64 la) ∧ w'.cell? ⟨b3, 1, none⟩ = some (.int .u64 lb) ∧ w'.cell? ⟨b3, 2, none⟩ = some (.int .u64 lc) ∧ w'.cell? ⟨b3, 3, none⟩ = some (.int .u64 ld)) kRz ?_
 have HG := Lib.hid (fun (w : World) (R : List HProp) (hS : Sat w0 w (pt b3 (.cells #[.int .u64 la, .int .u64 lb, .int .u64 lc, .int .u64 ld] 314 (0,0)) :: R)) => show w.cell? ⟨b3, 0, none⟩ = some (.int .u64 la) ∧ w.cell? ⟨b3, 1, none⟩ = some (.int .u64 lb) ∧ w.cell? ⟨b3, 2, none⟩ = some (.int .u64 lc) ∧ w.cell? ⟨b3, 3, none⟩ = some (.int .u64 ld) from ⟨hS.cellAt 0 _ rfl, hS.cellAt 1 _ rfl, hS.cellAt 2 _ rfl, hS.cellAt 3 _ rfl⟩)
 have hG := HG.out _ _ hS
 refine rp 0 (hy := (yl_index evD evD rnD)) (h := ?_)
 refine rt 1 (h := ?_)
 refine rp 3 (hy := (yl_index evD evD rnD)) (h := ?_)
 refine rt 4 (h := ?_)
 refine rp 7 (hy := (yl_index evD evD rnD)) (h := ?_)
 refine rt 8 (h := ?_)
 refine rp 11 (hy := (yl_index evD evD rnD)) (h := ?_)
 refine rt 12 (h := ?_)
 clear hG
 refine rg_eff 2 evD kRz (fun K hK => ?_)
 (refine eff_call2 kRz evD evD ?_)
 refine (Ht1.out _ _ hS).mono ?_
 rintro ee w5 ⟨v, rfl, rfl, h5⟩
 refine hK _ _ (.inr (.inl (HG.out _ _ h5))) ?_
 clear hK hS
 refine rg_eff 5 evD kRz (fun K hK => ?_)
 (refine eff_call2 kRz evD evD ?_)
 refine (Ht2.out _ _ h5).mono ?_
 rintro ee w6 ⟨v, rfl, rfl, h6⟩
 refine hK _ _ (.inr (.inl (HG.out _ _ h6))) ?_
 clear hK h5
 refine rp 6 (hy := (yl_bin evD evD (by intro wq; have f1 := Hf.out.1; (go_simp); first | done | (with_reducible rfl)))) (h := ?_)
 refine rg_eff 9 evD kRz (fun K hK => ?_)
 (refine eff_call2 kRz evD evD ?_)
 refine (Ht3.out _ _ h6).mono ?_
 rintro ee w7 ⟨v, rfl, rfl, h7⟩
 refine hK _ _ (.inr (.inl (HG.out _ _ h7))) ?_
 clear hK h6
 refine rp 10 (hy := (yl_bin evD evD (by intro wq; have f2 := Hf.out.2.1; (go_simp); first | done | (with_reducible rfl)))) (h := ?_)
 refine rg_eff 13 evD kRz (fun K hK => ?_)
 (refine eff_call2 kRz evD evD ?_)
 refine (Ht4.out _ _ h7).mono ?_
 rintro ee w8 ⟨v, rfl, rfl, h8⟩
 refine hK _ _ (.inl rfl) ?_
 clear hK h7
 refine rp 14 (hy := (yl_bin evD evD (by intro wq; have f3 := Hf.out.2.2; (go_simp); first | done | (with_reducible rfl)))) (h := ?_)
 refine rp 15 (hy := (yl_assign evD)) (h := ?_)
 refine wpL_done kRz ?_
 try simp only [List.getElem_toArray, List.getElem_cons_succ, List.getElem_cons_zero]
 try go_frame
 clear Ht1 Ht2 Ht3 Ht4 HG Hf
 as_aux_lemma =>
  go_wp2_with ((with_reducible apply at_load); refine ⟨?_⟩; refine wl_loadA h8 rFz pick0 Tryz.underlying314 rfl kRz ?_)
  go_loopg [27, 4] 4 (fun g iq xq wr => ∃ (i x : Nat), g = 4 - i ∧ i ≤ 4 ∧ iq = .int .i64 i ∧ xq = .int .u64 (x : Nat) ∧ x < 18446744073709551616 ∧ ((i = 0 → x = x0) ∧ (i = 1 → x = Xx.mix x0 la) ∧ (i = 2 → x = Xx.mix (Xx.mix x0 la) lb) ∧ (i = 3 → x = Xx.mix (Xx.mix (Xx.mix x0 la) lb) lc) ∧ (i = 4 → x = Xx.mix (Xx.mix (Xx.mix (Xx.mix x0 la) lb) lc) ld)) ∧ Sat w0 wr (pt b3 (.cells #[.int .u64 la, .int .u64 lb, .int .u64 lc, .int .u64 ld] 314 (0,0)) :: hshPt p ⟨la, lb, lc, ld⟩ rv n :: F))
  case atStart => exact ⟨0, x0, rfl, by decide, rfl, rfl, Hq.out, ⟨fun _ => rfl, fun h => absurd h dCz, fun h => absurd h dCz, fun h => absurd h dCz, fun h => absurd h dCz⟩, h8⟩
  case round =>
   obtain ⟨i, x, rfl, hi, rfl, rfl, hx, hxe, hS⟩ := hrel
   clear h8
   obtain rfl | rfl | rfl | rfl | rfl : i = 0 ∨ i = 1 ∨ i = 2 ∨ i = 3 ∨ i = 4 := by omega
   ·as_aux_lemma =>
    have hlc : Calls Tryz.prog 231 #[.int .u64 0, .int .u64 la] wr (Rtn fun v w' => v = .int .u64 (Xx.lane 0 la : Nat) ∧ Sat w0 w' _) := lane_c 0 la hS
    have hix : ∀ w, (Instr.index 314 (.agg #[.int .u64 la, .int .u64 lb, .int .u64 lc, .int .u64 ld]) (.int .i64 0)).run Tryz.prog w = .ok (.int .u64 la) w := fun w => by kernel_rfl
    obtain ⟨y, z, u, g1, g2, g3, hu, hm⟩ := mix_ex hx la
    generalize Xx.lane 0 la = t at *
    have Hu := Lib.hid hu; have Hmm := Lib.hid hm; have Hxe := Lib.hid (hxe.1 rfl)
    clear hx hm hu hxe hS
    go_wp2_with fail
    refine hlc.mono ?_
    rintro ee w9 ⟨v, rfl, rfl, h9⟩
    clear hlc
    go_wp2
    go_roundg 3
    case measure => omega
    case rel => exact ⟨1, u, rfl, by decide, rfl, rfl, Hu.out, ⟨fun h => absurd h dCz, fun _ => by rw [← Hmm.out, Hxe.out], fun h => absurd h dCz, fun h => absurd h dCz, fun h => absurd h dCz⟩, h9⟩
   ·as_aux_lemma =>
    have hlc : Calls Tryz.prog 231 #[.int .u64 0, .int .u64 lb] wr (Rtn fun v w' => v = .int .u64 (Xx.lane 0 lb : Nat) ∧ Sat w0 w' _) := lane_c 0 lb hS
    have hix : ∀ w, (Instr.index 314 (.agg #[.int .u64 la, .int .u64 lb, .int .u64 lc, .int .u64 ld]) (.int .i64 1)).run Tryz.prog w = .ok (.int .u64 lb) w := fun w => by kernel_rfl
    obtain ⟨y, z, u, g1, g2, g3, hu, hm⟩ := mix_ex hx lb
    generalize Xx.lane 0 lb = t at *
    have Hu := Lib.hid hu; have Hmm := Lib.hid hm; have Hxe := Lib.hid (hxe.2.1 rfl)
    clear hx hm hu hxe hS
    go_wp2_with fail
    refine hlc.mono ?_
    rintro ee w9 ⟨v, rfl, rfl, h9⟩
    clear hlc
    go_wp2
    go_roundg 2
    case measure => omega
    case rel => exact ⟨2, u, rfl, by decide, rfl, rfl, Hu.out, ⟨fun h => absurd h dCz, fun h => absurd h dCz, fun _ => by rw [← Hmm.out, Hxe.out], fun h => absurd h dCz, fun h => absurd h dCz⟩, h9⟩
   ·as_aux_lemma =>
    have hlc : Calls Tryz.prog 231 #[.int .u64 0, .int .u64 lc] wr (Rtn fun v w' => v = .int .u64 (Xx.lane 0 lc : Nat) ∧ Sat w0 w' _) := lane_c 0 lc hS
    have hix : ∀ w, (Instr.index 314 (.agg #[.int .u64 la, .int .u64 lb, .int .u64 lc, .int .u64 ld]) (.int .i64 2)).run Tryz.prog w = .ok (.int .u64 lc) w := fun w => by kernel_rfl
    obtain ⟨y, z, u, g1, g2, g3, hu, hm⟩ := mix_ex hx lc
    generalize Xx.lane 0 lc = t at *
    have Hu := Lib.hid hu; have Hmm := Lib.hid hm; have Hxe := Lib.hid (hxe.2.2.1 rfl)
    clear hx hm hu hxe hS
    go_wp2_with fail
    refine hlc.mono ?_
    rintro ee w9 ⟨v, rfl, rfl, h9⟩
    clear hlc
    go_wp2
    go_roundg 1
    case measure => omega
    case rel => exact ⟨3, u, rfl, by decide, rfl, rfl, Hu.out, ⟨fun h => absurd h dCz, fun h => absurd h dCz, fun h => absurd h dCz, fun _ => by rw [← Hmm.out, Hxe.out], fun h => absurd h dCz⟩, h9⟩
   ·as_aux_lemma =>
    have hlc : Calls Tryz.prog 231 #[.int .u64 0, .int .u64 ld] wr (Rtn fun v w' => v = .int .u64 (Xx.lane 0 ld : Nat) ∧ Sat w0 w' _) := lane_c 0 ld hS
    have hix : ∀ w, (Instr.index 314 (.agg #[.int .u64 la, .int .u64 lb, .int .u64 lc, .int .u64 ld]) (.int .i64 3)).run Tryz.prog w = .ok (.int .u64 ld) w := fun w => by kernel_rfl
    obtain ⟨y, z, u, g1, g2, g3, hu, hm⟩ := mix_ex hx ld
    generalize Xx.lane 0 ld = t at *
    have Hu := Lib.hid hu; have Hmm := Lib.hid hm; have Hxe := Lib.hid (hxe.2.2.2.1 rfl)
    clear hx hm hu hxe hS
    go_wp2_with fail
    refine hlc.mono ?_
    rintro ee w9 ⟨v, rfl, rfl, h9⟩
    clear hlc
    go_wp2
    go_roundg 0
    case measure => omega
    case rel => exact ⟨4, u, rfl, by decide, rfl, rfl, Hu.out, ⟨fun h => absurd h dCz, fun h => absurd h dCz, fun h => absurd h dCz, fun h => absurd h dCz, fun _ => by rw [← Hmm.out, Hxe.out]⟩, h9⟩
   ·have Hx := Lib.hid (show x = Xx.joined ⟨la, lb, lc, ld⟩ by rw [HJ.out]; exact hxe.2.2.2.2 rfl)
    clear hxe hx
    go_wp2
    go_ret
    exact ⟨_, rfl, by rw [Hx.out]; rfl, hS.drop⟩
end
section
variable {w0 w : World} {F : List HProp} {v bv rv : Value} {p n : Nat} {l : Bs}
theorem get4_r (l : Bs) (hl : l.length = 4) (a : Option Addr) (c : Nat) (h : rdsl 1 (.slice a 4 c) (bys l) w) :
  Calls Tryz.prog 200 #[.slice a 4 c] w (Rtn fun v w' => v = .tuple #[.int .u64 (Frm.num l : Nat), .bool true] ∧ w = w') := get4_l l hl a c h
theorem lane0_c (x : Nat) (h : Sat w0 w F) : Calls Tryz.prog 231 #[.int .u64 0, .int .u64 x] w (Rtn fun v w' => v = .int .u64 (Xx.lane 0 x : Nat) ∧ Sat w0 w' F) := lane_c 0 x h
theorem cut_from (hr : RS w0 F bv l) (h : Sat w0 w F) {k : Nat} (hk : k ≤ l.length) : ∃ a c a2 c2, bv = .slice a l.length c ∧ l.length ≤ c ∧ c ≤ 9223372036854775807 ∧ (∀ w, (Instr.sliceAt 25 (.slice a l.length c) (some (.int .i64 k)) none none).run Tryz.prog w = .ok (.slice a2 (l.drop k).length c2) w) ∧ RS w0 F (.slice a2 (l.drop k).length c2) (l.drop k) := by
 obtain ⟨a, c, rfl, h1, h2⟩ := hr.len h
 have hs := hr.from hk
 obtain ⟨a2, c2, he, h3, h4⟩ := hs.len h
 refine ⟨a, c, a2, c2, rfl, h1, h2, fun w => ?_, by rw [← he]; exact hs⟩
 rw [← he]; exact run_slF hk w
theorem cut_to (hr : RS w0 F bv l) (h : Sat w0 w F) {k : Nat} (hk : k ≤ l.length) : ∃ a c a2 c2, bv = .slice a l.length c ∧ l.length ≤ c ∧ c ≤ 9223372036854775807 ∧ (∀ w, (Instr.sliceAt 25 (.slice a l.length c) none (some (.int .i64 k)) none).run Tryz.prog w = .ok (.slice a2 k c2) w) ∧ RS w0 F (.slice a2 k c2) (l.take k) := by
 obtain ⟨a, c, rfl, h1, h2⟩ := hr.len h
 have hs := hr.to hk c (by omega) (Nat.le_refl c)
 obtain ⟨a2, c2, he, h3, h4⟩ := hs.len h
 have e : (l.take k).length = k := by rw [List.length_take]; omega
 rw [e] at he
 refine ⟨a, c, a2, c2, rfl, h1, h2, fun w => ?_, by rw [← he]; exact hs⟩
 rw [← he]; exact run_slT (by omega) w
set_option maxRecDepth 20000 in
theorem xtail_c (x : Nat) (hx : x < 18446744073709551616) (l : Bs) (hl : l.length ≤ 1073741824) (hr : RS w0 F bv l) (h : Sat w0 w F) : Calls Tryz.prog 234 #[.int .u64 x, bv] w (Rtn fun v w' => v = .int .u64 (Xx.tail x l : Nat) ∧ Sat w0 w' F) := by
 obtain ⟨ba, bc, rfl, hb1, hb2⟩ := hr.len h
 have Hr := Lib.hid hr; have Hx := Lib.hid hx; have Hl := Lib.hid hl
 clear hr hx hl hb1 hb2
 go_enter Tryz.func234, Tryz.ntmps234
 go_wp2_with fail
 go_loopg [0, 1] l.length (fun g xq bq wr => ∃ (y : Nat) (m : Bs), g = m.length ∧ m.length ≤ l.length ∧ xq = .int .u64 (y : Nat) ∧ y < 18446744073709551616 ∧ RS w0 F bq m ∧ Xx.tail8 l.length x l = Xx.tail8 m.length y m ∧ Sat w0 wr F)
 case atStart => exact ⟨x, l, rfl, Nat.le_refl _, rfl, Hx.out, Hr.out, rfl, h⟩
 case round =>
  obtain ⟨y, m, rfl, hml, rfl, hy, hRS, heq, hS⟩ := hrel
  clear h
  by_cases h8 : 8 ≤ m.length
  ·as_aux_lemma =>
   obtain ⟨a, c, a2, c2, rfl, k1, k2, hrun, hRS2⟩ := cut_from hRS hS h8
   have hwd := word_c m h8 hRS hS
   have hst : Xx.tail8 m.length y m = Xx.tail8 (m.drop 8).length (Xx.t8 y (Frm.num (m.take 8))) (m.drop 8) := by rw [Xx.tail8_step h8 (Nat.le_refl _), List.length_drop]
   generalize Frm.num (m.take 8) = N at *
   have hln := Lib.hid (fun (w : World) (hS : Sat w0 w F) => lane0_c N hS)
   obtain ⟨r, z, u, g1, hr1, g3, g4, hu, ht8⟩ := t8_ex hy N
   generalize Xx.lane 0 N = t at *
   have htu := Lib.hid (fun (w : World) (hS : Sat w0 w F) => turn27_c r hr1 hS)
   generalize Xx.turn r 27 = s at *
   rw [ht8] at hst
   have hlt8 : (m.drop 8).length < m.length := by rw [List.length_drop]; omega
   generalize m.drop 8 = m2 at *
   have c1 : (8 : Int) ≤ (m.length : Int) := by omega
   have Hu := Lib.hid hu; have Hst := Lib.hid (heq.trans hst); have HR := Lib.hid hRS2; have Hlt := Lib.hid (And.intro hlt8 hml)
   clear hu hr1 hst ht8 heq hRS2 hRS hlt8 hml hy k1 k2 h8
   go_wp2_with fail
   refine hwd.mono ?_
   rintro ee w2 ⟨v, rfl, rfl, rfl⟩
   clear hwd
   go_wp2_with fail
   refine (hln.out _ hS).mono ?_
   rintro ee w3 ⟨v, rfl, rfl, h3⟩
   clear hln hS
   go_wp2_with fail
   refine (htu.out _ h3).mono ?_
   rintro ee w4 ⟨v, rfl, rfl, h4⟩
   clear htu h3
   go_wp2_with ((with_reducible apply at_slF); refine ⟨?_⟩; refine wl_slF rFz rFz hrun ?_)
   go_roundg m2.length
   case measure => exact Hlt.out.1
   case rel => exact ⟨u, m2, rfl, by have := Hlt.out; omega, rfl, Hu.out, HR.out, Hst.out, h4⟩
  ·have hst : Xx.tail8 l.length x l = (y, m) := heq.trans (Xx.tail8_stop h8)
   have hT : Xx.tail x l = (Xx.tail4 y m).2.foldl Xx.t1 (Xx.tail4 y m).1 := by unfold Xx.tail; rw [hst]
   have hl2 : m.length ≤ 1073741824 := Nat.le_trans hml Hl.out
   have c1 : ¬ (8 : Int) ≤ (m.length : Int) := by omega
   clear heq hst h8 hml
   by_cases h4 : 4 ≤ m.length
   ·have e4 : Xx.tail4 y m = (Xx.t4 y (Frm.num (m.take 4)), m.drop 4) := by unfold Xx.tail4; rw [if_pos h4]
    rw [e4] at hT
    obtain ⟨a, c, a2, c2, rfl, k1, k2, hrunT, hRST⟩ := cut_to hRS hS h4
    obtain ⟨a', c', a3, c3, he, _, _, hrunF, hRSF⟩ := cut_from hRS hS h4
    cases he
    have hgt := get4_r (m.take 4) (by rw [List.length_take]; omega) a2 c2 (hRST.rd _ hS)
    obtain ⟨t, r, z, u, g0, g1, hr1, g3, g4, hu, ht4⟩ := t4_ex hy (Frm.num (m.take 4))
    rw [ht4] at hT
    generalize Frm.num (m.take 4) = N at *
    have htu := turn23_c r hr1 hS
    generalize Xx.turn r 23 = s at *
    have hl4 : (m.drop 4).length ≤ 1073741824 := by rw [List.length_drop]; omega
    have c2i : (4 : Int) ≤ (m.length : Int) := by omega
    dsimp only at hT
    generalize m.drop 4 = m2 at *
    have Hu := Lib.hid hu; have HT := Lib.hid hT; have HR := Lib.hid hRSF
    clear hu hr1 hT ht4 hRS hRST hRSF hy k1 k2 h4 e4 hl2
    go_wp2_with (first
     | ((with_reducible apply at_slT); refine ⟨?_⟩; refine wl_slT rFz rFz hrunT ?_))
    refine hgt.mono ?_
    rintro ee w2 ⟨v, rfl, rfl, rfl⟩
    clear hgt
    go_wp2_with fail
    refine htu.mono ?_
    rintro ee w3 ⟨v, rfl, rfl, h3⟩
    clear htu hS
    go_wp2_with ((with_reducible apply at_slF); refine ⟨?_⟩; refine wl_slF rFz rFz hrunF ?_)
    clear c1 c2i g0 g1 g3 g4 hrunT hrunF
    have Hm := Lib.hid (show m2.length ≤ 1073741824 from by omega)
    have HRS := Lib.hid HR.out; have HE := Lib.hid HT.out; have Hy := Lib.hid Hu.out
    go_wp2_with fail
    go_loopg [0, 42] m2.length (fun g xq iq wr => ∃ (i z : Nat), g = m2.length - i ∧ i ≤ m2.length ∧ xq = .int .u64 (z : Nat) ∧ iq = .int .i64 i ∧ z < 18446744073709551616 ∧ z = (m2.take i).foldl Xx.t1 u ∧ Sat w0 wr F)
    case atStart => exact ⟨0, u, rfl, Nat.zero_le _, rfl, rfl, Hy.out, rfl, h3⟩
    case round =>
     obtain ⟨i, z, rfl, hi, rfl, rfl, hz, hze, hS9⟩ := hrel
     by_cases hi' : i < m2.length
     ·as_aux_lemma =>
      have hb : (bys m2)[i]? = some (.int .u8 (m2[i]'hi').toNat) := by unfold bys; simp [hi']
      obtain ⟨bk, off, rfl, c1⟩ := rdsl_cell (HRS.out.rd _ hS9) hb
      have hic : (i : Int) < (m2.length : Int) := by omega
      have hwi : IntKind.i64.wrap ((i : Int) + 1) = (i : Int) + 1 := IntWalk.i64_in _ (by have := Hm.out; omega)
      have hnx : (m2.take (i + 1)).foldl Xx.t1 u = Xx.t1 z (m2[i]'hi') := by rw [List.take_succ_eq_append_getElem hi', List.foldl_append, ← hze, List.foldl_cons, List.foldl_nil]
      have hcb := (m2[i]'hi').toNat_lt
      obtain ⟨q, r, u, g1, g2, hr, g3, hu, htq⟩ := t1_ex hz (m2[i]'hi')
      rw [htq] at hnx
      have ht1 := hnx
      clear hnx hb htq
      generalize (m2[i]'hi').toNat = cb at *
      have htu := turn11_c r hr hS9
      generalize Xx.turn r 11 = s at *
      have hcm : IntKind.u64.wrap (cb : Int) = (cb : Int) := by rw [IntKind.wrap_u64]; omega
      have Hu := Lib.hid hu; have Hze := Lib.hid ht1; have Hi := Lib.hid hi'
      clear hu hr ht1 hze hz hcb hi hi'
      go_wp2_with fail
      refine htu.mono ?_
      rintro ee w9 ⟨v, rfl, rfl, h9⟩
      clear htu hS9
      go_wp2
      go_roundg (m2.length - (i + 1))
      case measure => have := Hi.out; omega
      case rel => exact ⟨i + 1, u, rfl, Nat.succ_le_of_lt Hi.out, rfl, by first | rfl | go_num, Hu.out, Hze.out.symm, h9⟩
     ·as_aux_lemma =>
      obtain rfl : i = m2.length := by omega
      have hic : ¬ (m2.length : Int) < (m2.length : Int) := by omega
      rw [List.take_length] at hze
      have Hf := Lib.hid (show Xx.tail x l = z by rw [HE.out, hze])
      clear hze hz hi hi'
      go_wp2
      go_ret
      exact ⟨_, rfl, by first | (rw [Hf.out]; rfl) | (rw [← HE.out, Hf.out]; rfl), hS9⟩
   ·have e4 : Xx.tail4 y m = (y, m) := by unfold Xx.tail4; rw [if_neg h4]
    rw [e4] at hT
    dsimp only at hT
    obtain ⟨a, c, rfl, k1, k2⟩ := hRS.len hS
    have c2i : ¬ (4 : Int) ≤ (m.length : Int) := by omega
    have HT := Lib.hid hT
    clear e4 h4 k1 k2 hT
    have Hm := Lib.hid (show m.length ≤ 1073741824 from by omega)
    have HRS := Lib.hid hRS; have HE := Lib.hid HT.out; have Hy := Lib.hid hy
    go_wp2_with fail
    go_loopg [0, 42] m.length (fun g xq iq wr => ∃ (i z : Nat), g = m.length - i ∧ i ≤ m.length ∧ xq = .int .u64 (z : Nat) ∧ iq = .int .i64 i ∧ z < 18446744073709551616 ∧ z = (m.take i).foldl Xx.t1 y ∧ Sat w0 wr F)
    case atStart => exact ⟨0, y, rfl, Nat.zero_le _, rfl, rfl, Hy.out, rfl, hS⟩
    case round =>
     obtain ⟨i, z, rfl, hi, rfl, rfl, hz, hze, hS9⟩ := hrel
     by_cases hi' : i < m.length
     ·as_aux_lemma =>
      have hb : (bys m)[i]? = some (.int .u8 (m[i]'hi').toNat) := by unfold bys; simp [hi']
      obtain ⟨bk, off, rfl, c1⟩ := rdsl_cell (HRS.out.rd _ hS9) hb
      have hic : (i : Int) < (m.length : Int) := by omega
      have hwi : IntKind.i64.wrap ((i : Int) + 1) = (i : Int) + 1 := IntWalk.i64_in _ (by have := Hm.out; omega)
      have hnx : (m.take (i + 1)).foldl Xx.t1 y = Xx.t1 z (m[i]'hi') := by rw [List.take_succ_eq_append_getElem hi', List.foldl_append, ← hze, List.foldl_cons, List.foldl_nil]
      have hcb := (m[i]'hi').toNat_lt
      obtain ⟨q, r, u, g1, g2, hr, g3, hu, htq⟩ := t1_ex hz (m[i]'hi')
      rw [htq] at hnx
      have ht1 := hnx
      clear hnx hb htq
      generalize (m[i]'hi').toNat = cb at *
      have htu := turn11_c r hr hS9
      generalize Xx.turn r 11 = s at *
      have hcm : IntKind.u64.wrap (cb : Int) = (cb : Int) := by rw [IntKind.wrap_u64]; omega
      have Hu := Lib.hid hu; have Hze := Lib.hid ht1; have Hi := Lib.hid hi'
      clear hu hr ht1 hze hz hcb hi hi'
      go_wp2_with fail
      refine htu.mono ?_
      rintro ee w9 ⟨v, rfl, rfl, h9⟩
      clear htu hS9
      go_wp2
      go_roundg (m.length - (i + 1))
      case measure => have := Hi.out; omega
      case rel => exact ⟨i + 1, u, rfl, Nat.succ_le_of_lt Hi.out, rfl, by first | rfl | go_num, Hu.out, Hze.out.symm, h9⟩
     ·as_aux_lemma =>
      obtain rfl : i = m.length := by omega
      have hic : ¬ (m.length : Int) < (m.length : Int) := by omega
      rw [List.take_length] at hze
      have Hf := Lib.hid (show Xx.tail x l = z by rw [HE.out, hze])
      clear hze hz hi hi'
      go_wp2
      go_ret
      exact ⟨_, rfl, by first | (rw [Hf.out]; rfl) | (rw [← HE.out, Hf.out]; rfl), hS9⟩
end
abbrev rdrPt (p : Nat) (rv : Value) : HProp := pt p (.cells #[rv, errno 0, .bool true] 291 (0,0))
section
variable {w0 w : World} {F : List HProp} {v bv rv : Value} {p n k : Nat} {l m : Bs}
theorem ropen1_c (hl : l.length ≤ 140737488355328) (hr : RS w0 F bv l) (h : Sat w0 w F) : Calls Tryz.prog 185 #[bv] w (Rtn fun v w' => ∃ p rv, v = ptr p ∧ Sat w0 w' (rdrPt p rv :: bsl rv l :: F) ∧ RS w0 (bsl rv l :: F) rv l) := by
 obtain ⟨ba, bc, rfl, _, _⟩ := hr.len h
 have hc := clone_c h (hr.rd w h) hl
 clear hr
 go_enter Tryz.func185, Tryz.ntmps185
 go_wp2_with fail
 refine hc.mono ?_
 rintro ee w1 ⟨v, rfl, h1, a1, n1, c1, rfl⟩
 clear hc h
 have hb1 : ∀ w, (Instr.build 291 #[(0, .slice a1 n1 c1), (2, .bool true)]).run Tryz.prog w = .ok (.agg #[.slice a1 n1 c1, .int .i64 0, .bool true]) w := fun w => by kernel_rfl
 go_wp2_with ((with_reducible apply at_box); refine ⟨?_⟩; refine wl_box h1 rFz rFz ?_; intro bB wB hB)
 go_ret
 exact ⟨_, rfl, bB, _, rfl, hB, RS.of_bsl hB.drop⟩
theorem rerr_c (h : Sat w0 w (rdrPt p rv :: F)) : Calls Tryz.prog 210 #[ptr p] w (Rtn fun v w' => v = errno 0 ∧ w = w') := by
 have c1 : w.cell? ⟨p, 1, none⟩ = some (errno 0) := h.cellAt 1 _ rfl
 have c2 : w.cell? ⟨p, 2, none⟩ = some (.bool true) := h.cellAt 2 _ rfl
 go_enter Tryz.func210, Tryz.ntmps210
 go_wp2
 go_ret
 exact ⟨_, rfl, rfl, rfl⟩
set_option maxRecDepth 20000 in
theorem rtake_c (hk : k ≤ m.length) (hr : RS w0 F rv m) (h : Sat w0 w (rdrPt p rv :: F)) : Calls Tryz.prog 209 #[ptr p, .int .i64 k] w (Rtn fun v w' => ∃ ta tc ra rc, v = .tuple #[.slice ta k tc, .bool true] ∧ RS w0 F (.slice ta k tc) (m.take k) ∧ (∀ F0, RS w0 F0 rv m → RS w0 F0 (.slice ra (m.drop k).length rc) (m.drop k)) ∧ Sat w0 w' (rdrPt p (.slice ra (m.drop k).length rc) :: F)) := by
 obtain ⟨ba, bc, ra, rc, rfl, h1, h2, hrunF, _⟩ := cut_from hr h.drop hk
 have hrs2 : ∀ F0, RS w0 F0 (.slice ba m.length bc) m → RS w0 F0 (.slice ra (m.drop k).length rc) (m.drop k) := fun F0 h0 => by
  have e := (run_slF (a := ba) (c := bc) hk w).symm.trans (hrunF w)
  have e2 : sliced ba k m.length bc 1 = .slice ra (m.drop k).length rc := by injection e
  rw [← e2]; exact h0.from hk
 have hrsT := hr.to hk k (Nat.le_refl k) (by omega)
 obtain ⟨ta, tc, he, _, _⟩ := hrsT.len h.drop
 rw [show (m.take k).length = k by rw [List.length_take]; omega] at he
 have hrunT : ∀ w, (Instr.sliceAt 25 (.slice ba m.length bc) none (some (.int .i64 k)) (some (.int .i64 k))).run Tryz.prog w = .ok (.slice ta k tc) w := fun w => by rw [← he]; exact run_slM (by omega) w
 rw [he] at hrsT
 have her := rerr_c h
 have c0 : ¬ (k : Int) < 0 := by omega
 have c0d : decide ((k : Int) < 0) = false := decide_eq_false c0
 have c1 : ¬ (m.length : Int) < (k : Int) := by omega
 have c1d : decide ((m.length : Int) < (k : Int)) = false := decide_eq_false c1
 have HT := Lib.hid hrsT; have HF := Lib.hid hrs2
 clear hr hrsT hrs2 he h1 h2 hk
 generalize (m.drop k).length = q at *
 go_enter Tryz.func209, Tryz.ntmps209
 go_wp2_with fail
 refine her.mono ?_
 rintro ee w1 ⟨v, rfl, rfl, rfl⟩
 clear her
 go_wp2_with (first
  | ((with_reducible apply at_load); refine ⟨?_⟩; refine wl_load1 h rFz pick0 nLz evD kRz ?_)
  | ((with_reducible apply at_slM); refine ⟨?_⟩; refine wl_slM rFz rFz rFz hrunT ?_)
  | ((with_reducible apply at_slF); refine ⟨?_⟩; refine wl_slF rFz rFz hrunF ?_)
  | ((with_reducible apply at_store); refine ⟨?_⟩; refine wl_store (v := .slice ra q rc) h rFz rFz rFz upd0 (by exact Nat.le_of_ble_eq_true rFz) kRz rFz ?_; intro w2 h2))
 go_ret2
 exact ⟨_, rfl, ta, tc, ra, rc, rfl, HT.out, HF.out, h2⟩
set_option maxRecDepth 20000 in
theorem rnum4_c (hk : 4 ≤ m.length) (hr : RS w0 F rv m) (h : Sat w0 w (rdrPt p rv :: F)) : Calls Tryz.prog 187 #[ptr p, .int .i64 4] w (Rtn fun v w' => ∃ rv', v = .int .u64 (Frm.num (m.take 4) : Nat) ∧ (∀ F0, RS w0 F0 rv m → RS w0 F0 rv' (m.drop 4)) ∧ Sat w0 w' (rdrPt p rv' :: F)) := by
 have her := rerr_c h
 have htk := rtake_c (k := 4) hk hr h
 have Hl := Lib.hid (show (m.take 4).length = 4 by rw [List.length_take]; omega)
 clear hr hk
 go_enter Tryz.func187, Tryz.ntmps187
 go_wp2_with fail
 refine her.mono ?_
 rintro ee w1 ⟨v, rfl, rfl, rfl⟩
 clear her
 go_wp2_with fail
 refine htk.mono ?_
 rintro ee w2 ⟨v, rfl, ta, tc, ra, rc, rfl, hT, hF, h2⟩
 have hg := get4_r (m.take 4) Hl.out ta tc (hT.rd w2 h2.drop)
 have HF := Lib.hid hF
 obtain ⟨N, hN⟩ : ∃ N, Hid (Frm.num (m.take 4) = N) := ⟨_, Lib.hid rfl⟩
 rw [hN.out] at hg
 clear htk h hT hF Hl
 go_wp2_with fail
 refine hg.mono ?_
 rintro ee w3 ⟨v, rfl, rfl, rfl⟩
 clear hg
 go_wp2
 go_ret
 exact ⟨_, rfl, _, by rw [hN.out]; rfl, HF.out, h2⟩
set_option maxRecDepth 20000 in
theorem rnum8_c (hk : 8 ≤ m.length) (hr : RS w0 F rv m) (h : Sat w0 w (rdrPt p rv :: F)) : Calls Tryz.prog 187 #[ptr p, .int .i64 8] w (Rtn fun v w' => ∃ rv', v = .int .u64 (Frm.num (m.take 8) : Nat) ∧ (∀ F0, RS w0 F0 rv m → RS w0 F0 rv' (m.drop 8)) ∧ Sat w0 w' (rdrPt p rv' :: F)) := by
 have her := rerr_c h
 have htk := rtake_c (k := 8) hk hr h
 have Hl := Lib.hid (show (m.take 8).length = 8 by rw [List.length_take]; omega)
 clear hr hk
 go_enter Tryz.func187, Tryz.ntmps187
 go_wp2_with fail
 refine her.mono ?_
 rintro ee w1 ⟨v, rfl, rfl, rfl⟩
 clear her
 go_wp2_with fail
 refine htk.mono ?_
 rintro ee w2 ⟨v, rfl, ta, tc, ra, rc, rfl, hT, hF, h2⟩
 have hg := get8_l (m.take 8) Hl.out ta tc (hT.rd w2 h2.drop)
 have HF := Lib.hid hF
 obtain ⟨N, hN⟩ : ∃ N, Hid (Frm.num (m.take 8) = N) := ⟨_, Lib.hid rfl⟩
 rw [hN.out] at hg
 clear htk h hT hF Hl
 go_wp2_with fail
 refine hg.mono ?_
 rintro ee w3 ⟨v, rfl, rfl, rfl⟩
 clear hg
 go_wp2
 go_ret
 exact ⟨_, rfl, _, by rw [hN.out]; rfl, HF.out, h2⟩
theorem rbytes_c1 (hk : 32 ≤ m.length) (hr : RS w0 F rv m) (h : Sat w0 w (rdrPt p rv :: F)) : Calls Tryz.prog 211 #[ptr p, .int .i64 32] w (Rtn fun v w' => ∃ rv', (∀ F0, RS w0 F0 rv m → RS w0 F0 rv' (m.drop 32)) ∧ (∃ a n c, v = .slice a n c) ∧ Sat w0 w' (bsl v (m.take 32) :: rdrPt p rv' :: F)) := by
 have htk := rtake_c (k := 32) hk hr h
 have Hl := Lib.hid (show (m.take 32).length ≤ 140737488355328 by rw [List.length_take]; omega)
 clear hr hk
 go_enter Tryz.func211, Tryz.ntmps211
 go_wp2_with fail
 refine htk.mono ?_
 rintro ee w2 ⟨v, rfl, ta, tc, ra, rc, rfl, hT, hF, h2⟩
 have hc := clone_c h2 (hT.rd w2 h2.drop) Hl.out
 have HF := Lib.hid hF
 clear htk h hT hF
 go_wp2_with fail
 refine hc.mono ?_
 rintro ee w3 ⟨v, rfl, h3, a3, n3, c3, rfl⟩
 clear hc
 go_wp2
 go_ret
 exact ⟨_, rfl, _, HF.out, ⟨_, _, _, rfl⟩, h3⟩
theorem run_str (hr : RS w0 F bv m) (h : Sat w0 w F) (hm : 0 < m.length) : (convert 25 9 bv).run Tryz.prog w = .ok (.string ⟨m.toArray⟩) w := by
 obtain ⟨a, c, rfl, _, _⟩ := hr.len h
 obtain ⟨bk, off, rfl, hc⟩ := rdsl_cells (hr.rd w h) (i := 0) (bys_get.2 ⟨m[0], List.getElem?_eq_getElem hm, rfl⟩)
 refine run_convert_bytes_back (P := Tryz.prog) w _ _ 5 _ c m Tryz.underlying25 Tryz.underlying5 Tryz.underlying9 (fun j hj => ?_)
 have := hc j _ (bys_get.2 ⟨m[j], List.getElem?_eq_getElem hj, rfl⟩)
 rw [Addr.add_mid]; exact this
theorem rtext_c (hk : 8 ≤ m.length) (hr : RS w0 F rv m) (h : Sat w0 w (rdrPt p rv :: F)) : Calls Tryz.prog 186 #[ptr p, .int .i64 8] w (Rtn fun v w' => ∃ rv', v = .string ⟨(m.take 8).toArray⟩ ∧ (∀ F0, RS w0 F0 rv m → RS w0 F0 rv' (m.drop 8)) ∧ Sat w0 w' (rdrPt p rv' :: F)) := by
 have htk := rtake_c (k := 8) hk hr h
 have Hl := Lib.hid (show 0 < (m.take 8).length by rw [List.length_take]; omega)
 clear hr hk
 go_enter Tryz.func186, Tryz.ntmps186
 go_wp2_with fail
 refine htk.mono ?_
 rintro ee w2 ⟨v, rfl, ta, tc, ra, rc, rfl, hT, hF, h2⟩
 have hcv := run_str hT h2.drop Hl.out
 have HF := Lib.hid hF
 clear htk h hT hF
 go_wp2
 go_ret
 exact ⟨_, rfl, _, rfl, HF.out, h2⟩
end
end Go.Proofs.YtlinnpehkfbnkaaGreatDoor
namespace Go.Bok
open Go.Frm (Bs le num le_len num_le)
structure Rw where
 key : Bs
 nums : List Int
def numsB (ns : List Int) : Bs := ns.flatMap fun n => le n.toNat 4
def rowB (kd : Bool) (r : Rw) : Bs := (if kd then r.key else []) ++ numsB r.nums
def rowsB (kd : Bool) (l : List Rw) : Bs := l.flatMap (rowB kd)
def body (mg : Bs) (kd : Bool) (l : List Rw) : Bs := mg ++ le l.length 4 ++ rowsB kd l
def book (X : Bs → Nat) (mg : Bs) (kd : Bool) (l : List Rw) : Bs := body mg kd l ++ le (X (body mg kd l)) 8
structure RwOk (k : Nat) (r : Rw) : Prop where
 key : r.key.length = 32
 len : r.nums.length = k
 num : ∀ n ∈ r.nums, 0 ≤ n ∧ n ≤ 4294967295
def ahead (kd : Bool) (a b : Rw) : Prop := if kd then a.key < b.key else a.nums.getD 0 0 < b.nums.getD 0 0
instance (kd : Bool) (a b : Rw) : Decidable (ahead kd a b) := by unfold ahead; infer_instance
def Rises (kd : Bool) (l : List Rw) : Prop := ∀ i a b, l[i]? = some a → l[i + 1]? = some b → ahead kd a b
structure Ok (k : Nat) (kd : Bool) (l : List Rw) : Prop where
 len : l.length ≤ 65536
 row : ∀ r ∈ l, RwOk k r
 rise : Rises kd l
section
variable {X : Bs → Nat} {mg : Bs} {kd : Bool} {l : List Rw} {r : Rw} {k i : Nat} {n : Int} {ns : List Int}
theorem numsB_nil : numsB [] = [] := rfl
theorem numsB_cons (n : Int) (ns : List Int) : numsB (n :: ns) = le n.toNat 4 ++ numsB ns := rfl
theorem numsB_app (a b : List Int) : numsB (a ++ b) = numsB a ++ numsB b := by unfold numsB; rw [List.flatMap_append]
theorem numsB_len (ns : List Int) : (numsB ns).length = 4 * ns.length := by
 induction ns with
 | nil => rfl
 | cons n ns ih => rw [numsB_cons, List.length_append, le_len, ih, List.length_cons]; omega
theorem rowsB_nil : rowsB kd [] = [] := rfl
theorem rowsB_cons (r : Rw) (l : List Rw) : rowsB kd (r :: l) = rowB kd r ++ rowsB kd l := rfl
theorem rowsB_app (a b : List Rw) : rowsB kd (a ++ b) = rowsB kd a ++ rowsB kd b := by unfold rowsB; rw [List.flatMap_append]
def rowSz (kd : Bool) (k : Nat) : Nat := 4 * k + if kd then 32 else 0
theorem rowB_len (h : RwOk k r) : (rowB kd r).length = rowSz kd k := by
 unfold rowB rowSz
 rw [List.length_append, numsB_len, h.len]
 cases kd
 ·simp
 ·rw [if_pos rfl, if_pos rfl, h.key]; omega
theorem rowsB_len : ∀ (l : List Rw), (∀ r ∈ l, RwOk k r) → (rowsB kd l).length = l.length * rowSz kd k
 | [], _ => by simp [rowsB_nil]
 | r :: l, h => by
  rw [rowsB_cons, List.length_append, rowB_len (h r (.head _)), rowsB_len l (fun x hx => h x (.tail _ hx)), List.length_cons, Nat.add_mul]; omega
theorem body_len (hm : mg.length = 8) (h : ∀ r ∈ l, RwOk k r) : (body mg kd l).length = 12 + l.length * rowSz kd k := by
 unfold body
 rw [List.length_append, List.length_append, hm, le_len, rowsB_len l h]
theorem book_len (hm : mg.length = 8) (h : ∀ r ∈ l, RwOk k r) : (book X mg kd l).length = 20 + l.length * rowSz kd k := by
 unfold book
 rw [List.length_append, body_len hm h, le_len]; omega
theorem rowSz_le (hk : k ≤ 3) : rowSz kd k ≤ 44 := by unfold rowSz; split <;> omega
theorem body_le (hm : mg.length = 8) (hk : k ≤ 3) (h : Ok k kd l) : (body mg kd l).length ≤ 3000000 := by
 rw [body_len hm h.row]
 have h1 := h.len
 have h2 : l.length * rowSz kd k ≤ 65536 * 44 := Nat.mul_le_mul h1 (rowSz_le hk)
 omega
theorem num_back (h : 0 ≤ n ∧ n ≤ 4294967295) : num (le n.toNat 4) = n.toNat := by
 refine num_le 4 _ ?_
 have : (256 : Nat) ^ 4 = 4294967296 := by decide
 rw [this]; omega
theorem take_le (x : Nat) (t : Bs) : (le x 4 ++ t).take 4 = le x 4 := by rw [List.take_append_of_le_length (by rw [le_len]; omega), List.take_of_length_le (by rw [le_len]; omega)]
theorem drop_le (x : Nat) (t : Bs) : (le x 4 ++ t).drop 4 = t := by
 rw [List.drop_append, le_len, List.drop_of_length_le (by rw [le_len]; omega), Nat.sub_self, List.drop_zero, List.nil_append]
theorem drop_get {α : Type} {l : List α} {x : α} (h : l[i]? = some x) : l.drop i = x :: l.drop (i + 1) := by
 obtain ⟨hi, rfl⟩ := List.getElem?_eq_some_iff.1 h
 exact List.drop_eq_getElem_cons hi
theorem take_get {α : Type} {l : List α} {x : α} (h : l[i]? = some x) : l.take (i + 1) = l.take i ++ [x] := by
 obtain ⟨hi, rfl⟩ := List.getElem?_eq_some_iff.1 h
 exact List.take_succ_eq_append_getElem hi
theorem rowsB_take (h : l[i]? = some r) : rowsB kd (l.take (i + 1)) = rowsB kd (l.take i) ++ rowB kd r := by
 rw [take_get h, rowsB_app, rowsB_cons, rowsB_nil, List.append_nil]
theorem numsB_take {j : Nat} (h : ns[j]? = some n) : numsB (ns.take (j + 1)) = numsB (ns.take j) ++ le n.toNat 4 := by
 rw [take_get h, numsB_app, numsB_cons, numsB_nil, List.append_nil]
theorem rowsB_drop (h : l[i]? = some r) : rowsB kd (l.drop i) = rowB kd r ++ rowsB kd (l.drop (i + 1)) := by rw [drop_get h, rowsB_cons]
theorem numsB_drop {j : Nat} (h : ns[j]? = some n) : numsB (ns.drop j) = le n.toNat 4 ++ numsB (ns.drop (j + 1)) := by rw [drop_get h, numsB_cons]
def mgIdx : Bs := [72, 79, 65, 82, 68, 73, 68, 88]
def mgUse : Bs := [72, 79, 65, 82, 68, 85, 83, 69]
end
end Go.Bok
namespace Go.Proofs.YtlinnpehkfbnkaaGreatDoor
open Go Go.Sl Go.Med Go.MapKept Go.RowKit
section
variable {P : Program} {w0 w : World} {t ty : TypeId}
theorem res_cell {L R : List HProp} {b : Nat} {T : TypeId} {cs : Array Value} {fn : Func} {p : Tmp} {tmps : Array Value} {d : TypeDesc} (hf : fn.results = #[.cell p ty]) (hs : Sat w0 w L) (hp : tmps.getD p undef = .pointer (some ⟨b, 0, none⟩)) (k : Pick (pt b (.cells cs T (0,0))) L R)
  (hu : P.underlying ty = some d) (hd : d.isRow = true) (hi : (P.info? ty).map (·.size) = some cs.size) : (results fn tmps).run P w = .ok (.agg cs) w := by
 have hl := run_loadVar_row (P := P) w b T ty cs (0, 0) d (hs.pick k).at hu (by cases d <;> simp_all [TypeDesc.isRow]) hi
 have e : (results fn tmps).run P w = ((asAddr (tmps.getD p undef)).run P w).andThen fun a w₁ => (loadVar ty a).run P w₁ := by
  simp only [results, hf]
  simp [Sem.run_bind, Result.andThen]
 rw [e, hp]
 simp [asAddr, hl, Result.andThen]
end
section
variable {P : Program} {w0 w : World} {ops : Array Oper} {rest : List Oper} {a : Act} {Q : Exit → Act → World → Prop} {dst : Option Tmp} {t ty : TypeId} {pos : String} {after : Array Edge} {v : Value} {parts : Array (Nat × Operand)}
theorem wl_buildC (parts' : Array (Nat × Value)) (he : parts.map (fun p => (p.1, a.eval p.2)) = parts') (hr : ∀ w, (Instr.build ty parts').run P w = .ok v w) (h : wpList P ops Q rest (a.put dst v) w) : wpList P ops Q (⟨dst, .build ty parts, t, pos, after, none⟩ :: rest) a w :=
 wpList_plain rfl fun _ hK => by
  unfold Oper.wp execOp
  simp only [he, Sem.run_bind, hr, Result.andThen_ok, Sem.run_pure]
  exact hK _ _ h
theorem at_buildC (h : Stop (wpList P ops Q (⟨dst, .build ty parts, t, pos, after, none⟩ :: rest) a w)) : wpList P ops Q (⟨dst, .build ty parts, t, pos, after, none⟩ :: rest) a w := h.out
end
section
variable {w0 w : World} {F : List HProp}
abbrev kndA (mg : ByteArray) (kd : Bool) (k : Nat) : Array Value := #[.string mg, .bool kd, .int .i64 k]
abbrev idxK : Array Value := kndA ⟨#[72, 79, 65, 82, 68, 73, 68, 88]⟩ true 3
abbrev useK : Array Value := kndA ⟨#[72, 79, 65, 82, 68, 85, 83, 69]⟩ false 3
theorem zKnd : zeroB Tryz.prog 196 = some (.agg #[.string ⟨#[]⟩, .bool false, .int .i64 0]) := by kernel_rfl
theorem run_idx (w : World) : (Instr.build 196 #[(0, .string ⟨#[72, 79, 65, 82, 68, 73, 68, 88]⟩), (1, .bool true), (2, .int .i64 3)]).run Tryz.prog w = .ok (.agg idxK) w := by kernel_rfl
theorem run_use (w : World) : (Instr.build 196 #[(0, .string ⟨#[72, 79, 65, 82, 68, 85, 83, 69]⟩), (1, .bool false), (2, .int .i64 3)]).run Tryz.prog w = .ok (.agg useK) w := by kernel_rfl
theorem index_c (h : Sat w0 w F) : Calls Tryz.prog 122 #[] w (Rtn fun v w' => v = .agg idxK ∧ Sat w0 w' F) := by
 go_enter Tryz.func122, Tryz.ntmps122
 go_wp2_with (with_reducible apply at_alloc)
 refine ⟨?_⟩
 refine wl_alloc zKnd h rfl ?_
 intro b4 w4 h4
 have hb := run_idx
 go_wp2_with (first
  | ((with_reducible apply at_store); refine ⟨?_⟩; refine wl_storeA idxK h4 rFz rFz rFz upd0 kRz rFz ?_; intro w9 h9))
 refine ⟨rfl, _, res_cell rfl h9 rFz pkD Tryz.underlying196 rfl kRz, ?_⟩
 exact ⟨_, rfl, rfl, h9.drop⟩
theorem uses_c (h : Sat w0 w F) : Calls Tryz.prog 127 #[] w (Rtn fun v w' => v = .agg useK ∧ Sat w0 w' F) := by
 go_enter Tryz.func127, Tryz.ntmps127
 go_wp2_with (with_reducible apply at_alloc)
 refine ⟨?_⟩
 refine wl_alloc zKnd h rfl ?_
 intro b4 w4 h4
 have hb := run_use
 go_wp2_with (first
  | ((with_reducible apply at_store); refine ⟨?_⟩; refine wl_storeA useK h4 rFz rFz rFz upd0 kRz rFz ?_; intro w9 h9))
 refine ⟨rfl, _, res_cell rfl h9 rFz pkD Tryz.underlying196 rfl kRz, ?_⟩
 exact ⟨_, rfl, rfl, h9.drop⟩
theorem ksize_c (mg : ByteArray) (kd : Bool) (k : Nat) (hk : k ≤ 1000) (h : Sat w0 w F) : Calls Tryz.prog 188 #[.agg (kndA mg kd k)] w (Rtn fun v w' => v = .int .i64 (Bok.rowSz kd k : Nat) ∧ Sat w0 w' F) := by
 have e1 : IntKind.i64.wrap (4 * (k : Int)) = 4 * (k : Int) := IntWalk.i64_in _ (by omega)
 have e2 : IntKind.i64.wrap (4 * (k : Int) + 32) = 4 * (k : Int) + 32 := IntWalk.i64_in _ (by omega)
 cases kd
 ·have e := Lib.hid (show ((Bok.rowSz false k : Nat) : Int) = 4 * (k : Int) by unfold Bok.rowSz; simp)
  go_enter Tryz.func188, Tryz.ntmps188
  go_wp2_with (with_reducible apply at_box)
  refine ⟨?_⟩
  refine wl_box h rFz rFz ?_
  intro b w1 h1
  go_wp2_with ((with_reducible apply at_load); refine ⟨?_⟩; refine wl_load1 h1 rFz pick0 nLz evD kRz ?_)
  go_ret
  exact ⟨_, rfl, by rw [e.out]; rfl, h1.drop⟩
 ·have e := Lib.hid (show ((Bok.rowSz true k : Nat) : Int) = 4 * (k : Int) + 32 by unfold Bok.rowSz; simp)
  go_enter Tryz.func188, Tryz.ntmps188
  go_wp2_with (with_reducible apply at_box)
  refine ⟨?_⟩
  refine wl_box h rFz rFz ?_
  intro b w1 h1
  go_wp2_with ((with_reducible apply at_load); refine ⟨?_⟩; refine wl_load1 h1 rFz pick0 nLz evD kRz ?_)
  go_ret
  exact ⟨_, rfl, by rw [e.out]; rfl, h1.drop⟩
end
abbrev rwA (x : Bok.Rw) (nv : Value) : Array Value := (bys x.key ++ [nv]).toArray
section
variable {w0 w : World} {F : List HProp} {na nb : Value}
theorem rw_key {x : Bok.Rw} {nv : Value} {j : Nat} {v : Value} (h : (bys x.key)[j]? = some v) : (rwA x nv)[j]? = some v := by
 have hj : j < (bys x.key).length := by
  rcases Nat.lt_or_ge j (bys x.key).length with k | k
  ·exact k
  ·rw [List.getElem?_eq_none k] at h; cases h
 rw [List.getElem?_toArray, List.getElem?_append_left hj]; exact h
theorem rw_nums {x : Bok.Rw} {nv : Value} (hk : x.key.length = 32) : (rwA x nv)[32]? = some nv := by
 rw [List.getElem?_toArray, List.getElem?_append_right (by rw [bys_len, hk]; exact Nat.le_refl 32), bys_len, hk]; rfl
set_option maxRecDepth 20000 in
theorem tless_c (a b : Frm.Bs) (ha : a.length = 32) (hb : b.length = 32) (h : Sat w0 w F) :
  Calls Tryz.prog 230 #[.agg (bys a).toArray, .agg (bys b).toArray] w (Rtn fun v w' => v = .bool (decide (a < b)) ∧ Sat w0 w' F) := by
 have He := Lib.hid (show decide (Lib.compareBytes a b < 0) = decide (a < b) from decide_eq_decide.2 (Tab.cmpB_lt a b))
 go_enter Tryz.func230, Tryz.ntmps230
 go_wp2_with (with_reducible apply at_box)
 refine ⟨?_⟩
 refine wl_box h evD evD ?_
 intro b2 w2 h2
 go_wp2_with (with_reducible apply at_box)
 refine ⟨?_⟩
 refine wl_box h2 evD evD ?_
 intro b3 w3 h3
 have hS := h3.drew
 have r1 : rdsl 1 (.slice (some ⟨b2, 0, none⟩) 32 32) (bys a) w3.drew := ⟨_, _, _, rfl, by rw [bys_len, ha], fun j z hj => ⟨_, rfl, by rw [adr_add, Nat.zero_add]; exact hS.cellP pick1 j (by rw [List.getElem?_toArray]; exact hj)⟩⟩
 have r2 : rdsl 1 (.slice (some ⟨b3, 0, none⟩) 32 32) (bys b) w3.drew := ⟨_, _, _, rfl, by rw [bys_len, hb], fun j z hj => ⟨_, rfl, by rw [adr_add, Nat.zero_add]; exact hS.cellP pick0 j (by rw [List.getElem?_toArray]; exact hj)⟩⟩
 have hbc := bcmp_c a b r1 r2
 generalize Lib.compareBytes a b = r at *
 clear h h2 h3 r1 r2 ha hb
 go_wp2_with fail
 have hG : True := trivial
 refine wpL_begin [] (fun w' => True) kRz ?_
 refine rp 0 (hy := (by (refine Or.inl ⟨by rfl, ?_⟩; ((intro wq; go_simp); first | done | (with_reducible rfl))))) (h := ?_)
 refine rp 1 (hy := (by (refine Or.inl ⟨by rfl, ?_⟩; ((intro wq; go_simp); first | done | (with_reducible rfl))))) (h := ?_)
 refine rg_eff 2 evD kRz (fun K hK => ?_)
 (refine eff_call2 kRz evD evD ?_)
 refine hbc.mono ?_
 rintro e w' ⟨rfl, rfl⟩
 refine hK _ _ (.inr (.inr rfl)) ?_
 clear hK hbc
 refine rp 3 (hy := (yl_bin evD evD rnD)) (h := ?_)
 refine rp 4 (hy := (yl_assign evD)) (h := ?_)
 refine wpL_done kRz ?_
 clear hG
 go_wp2_with fail
 go_ret
 exact ⟨_, rfl, by rw [← He.out]; rfl, hS.drop.drop⟩
set_option maxRecDepth 20000 in
theorem aheadK_c (mg : ByteArray) (k : Nat) (a b : Bok.Rw) (ha : a.key.length = 32) (hb : b.key.length = 32) (h : Sat w0 w F) :
  Calls Tryz.prog 204 #[.agg (kndA mg true k), .agg (rwA a na), .agg (rwA b nb)] w (Rtn fun v w' => v = .bool (decide (Bok.ahead true a b)) ∧ Sat w0 w' F) := by
 have He := Lib.hid (show decide (Bok.ahead true a b) = decide (a.key < b.key) from decide_eq_decide.2 Iff.rfl)
 have hia : (Tryz.prog.info? 24).map (·.size) = some (bys a.key).length := by rw [bys_len, ha]; kernel_rfl
 have hib : (Tryz.prog.info? 24).map (·.size) = some (bys b.key).length := by rw [bys_len, hb]; kernel_rfl
 have Hl := Lib.hid (fun (w' : World) (R : List HProp) (hw : Sat w0 w' R) => tless_c a.key b.key ha hb hw)
 clear ha hb
 go_enter Tryz.func204, Tryz.ntmps204
 go_wp2_with (with_reducible apply at_box)
 refine ⟨?_⟩
 refine wl_box h evD evD ?_
 intro b1 w1 h1
 go_wp2_with (with_reducible apply at_box)
 refine ⟨?_⟩
 refine wl_box h1 evD evD ?_
 intro b2 w2 h2
 go_wp2_with (with_reducible apply at_box)
 refine ⟨?_⟩
 refine wl_box h2 evD evD ?_
 intro b3 w3 h3
 clear h h1 h2
 go_wp2_with (first
  | ((with_reducible apply at_load); refine ⟨?_⟩; first
   | refine wl_load1 h3 rFz (pick_there pick1) nLz evD kRz ?_
   | refine wl_loadN (o := 0) (bys a.key) h3 rFz pick1 (fun j v hj => by rw [Nat.zero_add]; exact rw_key hj) Tryz.underlying24 rfl hia ?_
   | refine wl_loadN (o := 0) (bys b.key) h3 rFz pick0 (fun j v hj => by rw [Nat.zero_add]; exact rw_key hj) Tryz.underlying24 rfl hib ?_))
 refine (Hl.out _ _ h3).mono ?_
 rintro e w4 ⟨v, rfl, rfl, h4⟩
 clear Hl h3
 go_wp2
 go_ret
 exact ⟨_, rfl, by rw [He.out]; rfl, h4.drop.drop.drop⟩
end
structure RV where
 x : Bok.Rw
 nv : Value
def rvL (r : RV) : List Value := bys r.x.key ++ [r.nv]
structure RVRo (w0 : World) (F : List HProp) (r : RV) : Prop where
 key : r.x.key.length = 32
 rd : Ro w0 F (rdsl 1 r.nv (ints r.x.nums))
 ne : 0 < r.x.nums.length
section
variable {w0 w : World} {F : List HProp} {lv : Value}
theorem rvL_len (r : RV) (h : r.x.key.length = 32) : (rvL r).length = 33 := by unfold rvL; rw [List.length_append, bys_len, h]; rfl
theorem RVRo.sub {r : RV} {G : List HProp} (h : RVRo w0 F r) (k : Sub G F) : RVRo w0 G r := ⟨h.key, Ro.of_sub h.rd k, h.ne⟩
theorem nums_cell {nv : Value} {l : List Int} (h : rdsl 1 nv (ints l) w) (hl : 0 < l.length) : ∃ bk off c, nv = .slice (some ⟨bk, off, none⟩) l.length c ∧ w.cell? ⟨bk, off, none⟩ = some (.int .i64 (l.getD 0 0)) := by
 have h0 : l[0]? = some (l.getD 0 0) := by rw [List.getD_eq_getElem?_getD, List.getElem?_eq_getElem hl]; rfl
 obtain ⟨bk, off, cc, hsv, hcell⟩ := osl_row (f := fun i : Int => [Value.int .i64 i]) (k := 1) (l := l) (fun u _ => rfl) (by rw [show ints l = l.flatMap fun i => [Value.int .i64 i] from by unfold ints; exact List.map_eq_flatMap] at h; exact h) h0 dCz
 have f0 := hcell 0 _ rfl
 rw [Nat.mul_one, Nat.add_zero] at f0
 exact ⟨bk, off, cc, hsv, f0⟩
set_option maxRecDepth 20000 in
theorem aheadU_c (mg : ByteArray) (k : Nat) (a b : RV) (ha : RVRo w0 F a) (hb : RVRo w0 F b) (h : Sat w0 w F) :
  Calls Tryz.prog 204 #[.agg (kndA mg false k), .agg (rwA a.x a.nv), .agg (rwA b.x b.nv)] w (Rtn fun v w' => v = .bool (decide (Bok.ahead false a.x b.x)) ∧ Sat w0 w' F) := by
 obtain ⟨a, na⟩ := a
 obtain ⟨b, nb⟩ := b
 have He := Lib.hid (show decide (Bok.ahead false a b) = decide (a.nums.getD 0 0 < b.nums.getD 0 0) from decide_eq_decide.2 Iff.rfl)
 have Ha := Lib.hid ha; have Hb := Lib.hid hb
 clear ha hb
 go_enter Tryz.func204, Tryz.ntmps204
 go_wp2_with (with_reducible apply at_box)
 refine ⟨?_⟩
 refine wl_box h evD evD ?_
 intro b1 w1 h1
 go_wp2_with (with_reducible apply at_box)
 refine ⟨?_⟩
 refine wl_box h1 evD evD ?_
 intro b2 w2 h2
 go_wp2_with (with_reducible apply at_box)
 refine ⟨?_⟩
 refine wl_box h2 evD evD ?_
 intro b3 w3 h3
 clear h h1 h2
 have hS := h3.drew
 obtain ⟨ka, oa, ca, e1, f1⟩ := nums_cell (Ha.out.rd _ hS.drop.drop.drop) Ha.out.ne
 obtain ⟨kb, ob, cb, e2, f2⟩ := nums_cell (Hb.out.rd _ hS.drop.drop.drop) Hb.out.ne
 dsimp only at e1 e2 f1 f2
 subst e1 e2
 have hG0 := And.intro (hS.cellP pick1 32 (rw_nums Ha.out.key)) (And.intro f1 (And.intro (hS.cellP pick0 32 (rw_nums Hb.out.key)) f2))
 have Hpa := Lib.hid Ha.out.ne; have Hpb := Lib.hid Hb.out.ne
 dsimp only at Hpa Hpb
 clear f1 f2
 generalize a.nums.getD 0 0 = X at *
 generalize b.nums.getD 0 0 = Y at *
 have q1 : (0 : Int) < (a.nums.length : Int) := by have := Hpa.out; omega
 have q2 : (0 : Int) < (b.nums.length : Int) := by have := Hpb.out; omega
 have q3 : 0 < a.nums.length := Hpa.out
 have q4 : 0 < b.nums.length := Hpb.out
 go_wp2_with ((with_reducible apply at_load); refine ⟨?_⟩; refine wl_load1 h3 rFz (pick_there pick1) nLz evD kRz ?_)
 clear h3
 refine wpL_begin [8, 9] (fun w' => w'.cell? ⟨b2, 32, none⟩ = some (.slice (some ⟨ka, oa, none⟩) a.nums.length ca) ∧ w'.cell? ⟨ka, oa, none⟩ = some (.int .i64 X) ∧ w'.cell? ⟨b3, 32, none⟩ = some (.slice (some ⟨kb, ob, none⟩) b.nums.length cb) ∧ w'.cell? ⟨kb, ob, none⟩ = some (.int .i64 Y)) kRz ?_
 have hG := hG0
 clear hG0
 refine rp 0 (hy := (yl_field evD rnD)) (h := ?_)
 refine rt 1 (h := ?_)
 refine rp 2 (hy := (yl_index evD evD rnD)) (h := ?_)
 refine rt 3 (h := ?_)
 refine rp 4 (hy := (yl_field evD rnD)) (h := ?_)
 refine rt 5 (h := ?_)
 refine rp 6 (hy := (yl_index evD evD rnD)) (h := ?_)
 refine rt 7 (h := ?_)
 clear hG
 refine rp 8 (hy := (yl_bin evD evD rnD)) (h := ?_)
 refine rp 9 (hy := (yl_assign evD)) (h := ?_)
 refine wpL_done kRz ?_
 go_wp2_with fail
 go_ret
 exact ⟨_, rfl, by rw [He.out]; rfl, hS.drop.drop.drop⟩
theorem ahead_c (mg : ByteArray) (kd : Bool) (k : Nat) (a b : RV) (ha : RVRo w0 F a) (hb : RVRo w0 F b) (h : Sat w0 w F) :
  Calls Tryz.prog 204 #[.agg (kndA mg kd k), .agg (rwA a.x a.nv), .agg (rwA b.x b.nv)] w (Rtn fun v w' => v = .bool (decide (Bok.ahead kd a.x b.x)) ∧ Sat w0 w' F) := by
 cases kd
 ·exact aheadU_c mg k a b ha hb h
 ·exact aheadK_c mg k a.x b.x ha.key hb.key h
set_option maxRecDepth 20000 in
theorem rises_c (mg : ByteArray) (kd : Bool) (k : Nat) (rs : List RV) (hn : rs.length ≤ 1073741824) (hr : Ro w0 F (rdsl 33 lv (rs.flatMap rvL))) (he : ∀ r ∈ rs, RVRo w0 F r) (h : Sat w0 w F) :
  Calls Tryz.prog 179 #[.agg (kndA mg kd k), lv] w (Rtn fun v w' => ∃ t : Bool, v = .bool t ∧ (t = true ↔ Bok.Rises kd (rs.map (·.x))) ∧ Sat w0 w' F) := by
 obtain ⟨la, lc, rfl⟩ := osl_rows (fun r hr => rvL_len r (he r hr).key) (hr w h) dCz
 have Hr := Lib.hid hr; have He := Lib.hid he; have Hn := Lib.hid hn
 clear hr he hn
 go_enter Tryz.func179, Tryz.ntmps179
 go_wp2_with (with_reducible apply at_box)
 refine ⟨?_⟩
 refine wl_box h evD evD ?_
 intro b2 w2 h2
 clear h
 go_wp2_with fail
 go_loopg [5] rs.length (fun g iq wr => ∃ m : Nat, g = rs.length - m ∧ iq = .int .i64 ((m : Int) + 1) ∧ (∀ i a b, i < m → (rs.map (·.x))[i]? = some a → (rs.map (·.x))[i + 1]? = some b → Bok.ahead kd a b) ∧ m ≤ rs.length ∧ Sat w0 wr (pt b2 (.cells (kndA mg kd k) 196 (0,0)) :: F))
 case atStart => exact ⟨0, rfl, rfl, fun i a b hi => absurd hi (Nat.not_lt_zero _), Nat.zero_le _, h2⟩
 case round =>
  obtain ⟨m, rfl, rfl, hal, hm, hS⟩ := hrel
  clear h2
  have Hal := Lib.hid hal
  clear hal
  by_cases hlt : m + 1 < rs.length
  ·have c1 : (m : Int) + 1 < (rs.length : Int) := by omega
   have c0 : (m : Int) < (rs.length : Int) := by omega
   have c2 : (0 : Int) ≤ (m : Int) + 1 := by omega
   have hw0 : IntKind.i64.wrap (m : Int) = (m : Int) := IntWalk.i64_in _ (by have := Hn.out; omega)
   have hw1 : IntKind.i64.wrap ((m : Int) + 1 - 1) = (m : Int) := by rw [Int.add_sub_cancel]; exact hw0
   have hw2 : IntKind.i64.wrap ((m : Int) + 1 + 1) = (m : Int) + 1 + 1 := IntWalk.i64_in _ (by have := Hn.out; omega)
   obtain ⟨r1, hx1⟩ : ∃ q, rs[m]? = some q := ⟨_, List.getElem?_eq_getElem (by omega)⟩
   obtain ⟨r2, hx2⟩ : ∃ q, rs[m + 1]? = some q := ⟨_, List.getElem?_eq_getElem hlt⟩
   have Hx1 := Lib.hid hx1; have Hx2 := Lib.hid hx2
   have H1 := Lib.hid (He.out r1 (List.mem_of_getElem? hx1)); have H2 := Lib.hid (He.out r2 (List.mem_of_getElem? hx2))
   have hS1 := hS.drew
   obtain ⟨bk, off, c', hsv, hc1⟩ := osl_row (f := rvL) (k := 33) (fun r hr => rvL_len r (He.out r hr).key) (Hr.out _ hS1.drop) hx1 dCz
   cases hsv
   obtain ⟨bk', off', c2', e2, hc2⟩ := osl_row (f := rvL) (k := 33) (fun r hr => rvL_len r (He.out r hr).key) (Hr.out _ hS1.drop) hx2 dCz
   cases e2
   have hG0 : World.rangeAt _ b2 0 [.string mg, .bool kd, .int .i64 k] ∧ World.rangeAt _ bk (off + m * 33) (rvL r1) ∧ World.rangeAt _ bk (off + (m + 1) * 33) (rvL r2) := ⟨pt_rangeL (l := [.string mg, .bool kd, .int .i64 k]) hS1, hc1, hc2⟩
   have hah := ahead_c mg kd k r1 r2 (H1.out.sub sbD) (H2.out.sub sbD) hS1
   have Hlt := Lib.hid hlt
   clear hx1 hx2 hc1 hc2 hlt hm hS
   by_cases hab : Bok.ahead kd r1.x r2.x
   ·rw [decide_eq_true hab] at hah
    have Hab := Lib.hid hab
    clear hab
    go_wp2_with fail
    refine wpL_begin [10, 11] (fun w' => w'.rangeAt b2 0 [.string mg, .bool kd, .int .i64 k] ∧ w'.rangeAt bk (off + m * 33) (rvL r1) ∧ w'.rangeAt bk (off + (m + 1) * 33) (rvL r2)) kRz ?_
    have hG := hG0
    clear hG0
    refine rg_take 0 evD kRz i3z (tk_loadN (b := b2) (o := 0) [.string mg, .bool kd, .int .i64 k] rFz Tryz.underlying196 rfl kRz (fun w hw => hw.1)) (by assumption) (by go_frame; first | done | rfl) ?_
    refine rp 1 (hy := (yl_move evD)) (h := ?_)
    refine rp 2 (hy := (yl_move evD)) (h := ?_)
    refine rp 3 (hy := (yl_bin evD evD rnD)) (h := ?_)
    refine rp 4 (hy := (yl_index evD evD rnD)) (h := ?_)
    refine rg_take 5 evD kRz i3z (tk_loadN (b := bk) (o := off + m * 33) (rvL r1) rFz Tryz.underlying202 rfl (by rw [rvL_len _ H1.out.key]; kernel_rfl) (fun w hw => hw.2.1)) (by assumption) (by go_frame; first | done | rfl) ?_
    refine rp 6 (hy := (yl_move evD)) (h := ?_)
    refine rp 7 (hy := (yl_move evD)) (h := ?_)
    refine rp 8 (hy := (yl_index evD evD rnD)) (h := ?_)
    refine rg_take 9 evD kRz i3z (tk_loadN (b := bk) (o := off + (m + 1) * 33) (rvL r2) rFz Tryz.underlying202 rfl (by rw [rvL_len _ H2.out.key]; kernel_rfl) (fun w hw => hw.2.2)) (by assumption) (by go_frame; first | done | rfl) ?_
    clear hG
    refine rg_eff 10 evD kRz (fun K hK => ?_)
    (refine eff_call3 kRz evD evD evD ?_)
    refine hah.mono ?_
    rintro ee w9 ⟨v, rfl, rfl, h9⟩
    refine hK _ _ (.inl rfl) ?_
    clear hK hah hS1
    refine rp 11 (hy := (yl_un evD rnD)) (h := ?_)
    refine wpL_done kRz ?_
    go_wp2_with fail
    go_roundg (rs.length - (m + 1))
    case measure => have := Hlt.out; omega
    case rel =>
     refine ⟨m + 1, rfl, by first | rfl | go_num, fun i a b hi ha hb => ?_, Nat.le_of_lt Hlt.out, h9⟩
     rcases Nat.lt_succ_iff_lt_or_eq.1 hi with hi | rfl
     ·exact Hal.out i a b hi ha hb
     ·rw [List.getElem?_map, Hx1.out] at ha
      rw [List.getElem?_map, Hx2.out] at hb
      cases ha; cases hb
      exact Hab.out
   ·rw [decide_eq_false hab] at hah
    have Hab := Lib.hid hab
    clear hab
    go_wp2_with fail
    refine wpL_begin [10, 11] (fun w' => w'.rangeAt b2 0 [.string mg, .bool kd, .int .i64 k] ∧ w'.rangeAt bk (off + m * 33) (rvL r1) ∧ w'.rangeAt bk (off + (m + 1) * 33) (rvL r2)) kRz ?_
    have hG := hG0
    clear hG0
    refine rg_take 0 evD kRz i3z (tk_loadN (b := b2) (o := 0) [.string mg, .bool kd, .int .i64 k] rFz Tryz.underlying196 rfl kRz (fun w hw => hw.1)) (by assumption) (by go_frame; first | done | rfl) ?_
    refine rp 1 (hy := (yl_move evD)) (h := ?_)
    refine rp 2 (hy := (yl_move evD)) (h := ?_)
    refine rp 3 (hy := (yl_bin evD evD rnD)) (h := ?_)
    refine rp 4 (hy := (yl_index evD evD rnD)) (h := ?_)
    refine rg_take 5 evD kRz i3z (tk_loadN (b := bk) (o := off + m * 33) (rvL r1) rFz Tryz.underlying202 rfl (by rw [rvL_len _ H1.out.key]; kernel_rfl) (fun w hw => hw.2.1)) (by assumption) (by go_frame; first | done | rfl) ?_
    refine rp 6 (hy := (yl_move evD)) (h := ?_)
    refine rp 7 (hy := (yl_move evD)) (h := ?_)
    refine rp 8 (hy := (yl_index evD evD rnD)) (h := ?_)
    refine rg_take 9 evD kRz i3z (tk_loadN (b := bk) (o := off + (m + 1) * 33) (rvL r2) rFz Tryz.underlying202 rfl (by rw [rvL_len _ H2.out.key]; kernel_rfl) (fun w hw => hw.2.2)) (by assumption) (by go_frame; first | done | rfl) ?_
    clear hG
    refine rg_eff 10 evD kRz (fun K hK => ?_)
    (refine eff_call3 kRz evD evD evD ?_)
    refine hah.mono ?_
    rintro ee w9 ⟨v, rfl, rfl, h9⟩
    refine hK _ _ (.inl rfl) ?_
    clear hK hah hS1
    refine rp 11 (hy := (yl_un evD rnD)) (h := ?_)
    refine wpL_done kRz ?_
    go_wp2_with fail
    go_ret
    refine ⟨_, rfl, false, rfl, ⟨fun k => (by cases k), fun k => absurd (k m r1.x r2.x ?_ ?_) Hab.out⟩, h9.drop⟩
    ·rw [List.getElem?_map, Hx1.out]; rfl
    ·rw [List.getElem?_map, Hx2.out]; rfl
  ·have c1 : ¬ (m : Int) + 1 < (rs.length : Int) := by omega
   have Hlt := Lib.hid hlt
   clear hlt hm
   go_wp2
   go_ret
   refine ⟨_, rfl, .inr ⟨rfl, fun i a b ha hb => ?_, hS.drop⟩⟩
   have hi := (List.getElem?_eq_some_iff.1 hb).1
   rw [List.length_map] at hi
   exact Hal.out i a b (by have := Hlt.out; omega) ha hb
end
section
variable {P : Program} {w0 w : World} {L F : List HProp} {ops : Array Oper} {rest : List Oper} {a : Act} {Q : Exit → Act → World → Prop} {dst : Option Tmp} {t ty : TypeId} {pos : String} {after : Array Edge} {x y s : Operand} {v vx vy : Value} {l m : Bs}
theorem yl_slF (hx : a.eval x = vx) (hy : a.eval y = vy) (hr : ∀ w, (Instr.sliceAt ty vx (some vy) none none).run P w = .ok v w) : Yields P ops ⟨dst, .slice ty x (some y) none none, t, pos, after, none⟩ v a :=
 .inl ⟨want_none _ rfl, fun w => by simp only [execOp, hx, hy, Option.map_some, Option.map_none, Sem.run_bind, hr, Result.andThen_ok, Sem.run_pure]⟩
theorem wl_mkB (l c : Nat) (h1 : l ≤ c) (h2 : c ≤ 1099511627776) (hs : Sat w0 w L) (hx : a.eval x = .int .i64 l) (hy : a.eval y = .int .i64 c)
  (hK : ∀ b w', Sat w0 w' (bsl (.slice (some ⟨b, 0, none⟩) l c) (List.replicate l 0) :: L) → wpList Tryz.prog ops Q rest (a.put dst (.slice (some ⟨b, 0, none⟩) l c)) w') :
  wpList Tryz.prog ops Q (⟨dst, .makeSlice 25 x y, t, pos, after, none⟩ :: rest) a w := by
 have hS := hs.alloc (.cells (madeCells #[.int .u8 0] c) 5)
 refine wpList_plain rfl fun _ hK' => ?_
 unfold Oper.wp execOp
 simp only [hx, hy, make_u8 l c h1 h2, Sem.run_bind, Sem.run_pure, Result.andThen_ok]
 exact hK' _ _ (hK _ _ (made_bsl h1 h2 hS))
theorem at_mkB (h : Stop (wpList P ops Q (⟨dst, .makeSlice ty x y, t, pos, after, none⟩ :: rest) a w)) : wpList P ops Q (⟨dst, .makeSlice ty x y, t, pos, after, none⟩ :: rest) a w := h.out
theorem wl_apB (hs : Sat w0 w (bsl v l :: F)) (hv : a.eval s = v) (hy : a.eval y = vy) (hx : rdsl 1 vy (bys m) w) (hlen : l.length + m.length ≤ 1099511627776)
  (hK : ∀ v' w', Sat w0 w' (bsl v' (l ++ m) :: F) → wpList Tryz.prog ops Q rest (a.put dst v') w') :
  wpList Tryz.prog ops Q (⟨dst, .call { callee := .builtin .append, args := #[s, y], argTypes := #[25, 25] }, 25, pos, after, none⟩ :: rest) a w := by
 obtain ⟨i, hi, hz0, hz1, hz2⟩ := info8p
 have h63 : (bys l).length + (bys m).length ≤ maxLen := by rw [bys_len, bys_len]; unfold maxLen; omega
 have hby : ((bys l).length + (bys m).length) * i.bytes ≤ 140737488355328 := by rw [bys_len, bys_len, hz2]; omega
 refine wpList_append (w0 := w0) rfl s y 25 rfl _ i _ Tryz.underlying25 hi hz0 hz1 rFz (by omega) hv hy (bys_one _) hs hx h63 hby ?_
 intro v' w' hS hn
 rw [← bys_append] at hS
 exact hK v' w' hS
end
section
variable {w0 w : World} {F : List HProp} {v bv rv : Value} {p n : Nat} {l : Bs}
theorem start5 (n : Nat) : ∃ x : Nat, IntKind.u64.wrap ((2870177450012600261 : Int) + (n : Int)) = (x : Int) ∧ x < 18446744073709551616 ∧ (2870177450012600261 + n) % 18446744073709551616 = x := by
 obtain ⟨x, a, b, c⟩ := start_ex 2870177450012600261 n
 unfold Xx.W at c
 exact ⟨x, (congrArg (fun z => IntKind.u64.wrap (z + (n : Int))) (show (2870177450012600261 : Int) = ((2870177450012600261 : Nat) : Int) from rfl)).trans a, b, c⟩
set_option maxRecDepth 20000 in
theorem hshw_c (hl0 : l ≠ []) (hl : l.length ≤ 1073741824) (hr : RS w0 F bv l) (h : Sat w0 w (hshPt p Xx.Ln.zero (.slice none 0 0) 0 :: F)) :
  Calls Tryz.prog 206 #[ptr p, bv] w (Rtn fun _ w' => ∃ rv bA cA, Sat w0 w' (hshPt p (Xx.goL l.length Xx.Ln.zero l).1 rv l.length :: bsl (.slice (some ⟨bA, 0, none⟩) l.length cA) l :: F) ∧ RS w0 (bsl (.slice (some ⟨bA, 0, none⟩) l.length cA) l :: F) rv (Xx.goL l.length Xx.Ln.zero l).2) := by
 obtain ⟨ba, bc, rfl, hb1, hb2⟩ := (hr.more (G := hshPt p Xx.Ln.zero (.slice none 0 0) 0 :: F) sbD).len h
 have Hr := Lib.hid hr; have Hl := Lib.hid hl; have Hl0 := Lib.hid hl0
 have c0 : w.cell? ⟨p, 0, none⟩ = some (.bool true) := h.cellAt 0 _ rfl
 have n1 : IntKind.u64.wrap (l.length : Int) = (l.length : Int) := by rw [IntKind.wrap_u64]; omega
 have n2 : (l.length : Int) % 18446744073709551616 = (l.length : Int) := by omega
 have n3 : IntKind.i64.wrap (l.length : Int) = (l.length : Int) := IntWalk.i64_in _ (by omega)
 clear hr hl hb1 hb2 hl0
 go_enter Tryz.func206, Tryz.ntmps206
 go_wp2_with (first
  | ((with_reducible apply at_load); refine ⟨?_⟩; refine wl_load1 h rFz pick0 nLz evD kRz ?_)
  | (with_reducible apply at_store))
 refine ⟨?_⟩
 refine wl_store (v := .int .u64 l.length) h rFz rFz rFz upd0 (by exact Nat.le_refl 8) kRz rFz ?_
 intro w1 h1
 have h2 : Sat w0 w1 (hshPt p Xx.Ln.zero (.slice none 0 0) l.length :: F) := h1
 clear h h1 c0
 go_wp2_with (first
  | ((with_reducible apply at_load); refine ⟨?_⟩; refine wl_load1 h2 rFz pick0 nLz evD kRz ?_)
  | (with_reducible apply at_mkB))
 refine ⟨?_⟩
 refine wl_mkB 0 l.length (Nat.zero_le _) (by have := Hl.out; omega) h2 rFz rFz ?_
 intro bM w3 h3
 go_wp2_with (first
  | ((with_reducible apply at_load); refine ⟨?_⟩; refine wl_load1 h3 rFz pick1 nLz evD kRz ?_)
  | (with_reducible apply at_append))
 refine ⟨?_⟩
 refine wl_apB (m := []) h3 rFz rFz (rdsl_nil 1 0 _) (by simp) ?_
 intro v4 w4 h4
 go_wp2_with (with_reducible apply at_append)
 refine ⟨?_⟩
 refine wl_apB (m := l) h4 rFz rFz (Hr.out.rd _ h4.drop.drop) (by simp only [List.replicate, List.append_nil, List.length_nil]; have := Hl.out; omega) ?_
 intro v5 w5 h5
 have h6 : Sat w0 w5 (bsl v5 l :: hshPt p Xx.Ln.zero (.slice none 0 0) l.length :: F) := h5
 clear h2 h3 h4 h5
 obtain ⟨bA, cA, rfl⟩ : ∃ bA cA, v5 = .slice (some ⟨bA, 0, none⟩) l.length cA := by
  rcases Sat.osl_cases h6 with ⟨_, he, _⟩ | ⟨b, n, cap, cs, he, k1, _⟩
  ·exfalso
   apply Hl0.out
   have := congrArg List.length he
   rw [bys_len] at this
   exact List.eq_nil_of_length_eq_zero (by simpa using this)
  ·rw [bys_len, Nat.mul_one] at k1
   subst k1
   exact ⟨b, cap, he⟩
 have h7 : Sat w0 w5 (hshPt p Xx.Ln.zero (.slice none 0 0) l.length :: bsl (.slice (some ⟨bA, 0, none⟩) l.length cA) l :: F) := h6.sb
 have Hall := Lib.hid (show RS w0 (bsl (.slice (some ⟨bA, 0, none⟩) l.length cA) l :: F) (.slice (some ⟨bA, 0, none⟩) l.length cA) l from RS.of_bsl h7.drop)
 clear h6
 go_wp2_with fail
 go_loopg [4] l.length (fun g aq wr => ∃ (ln : Xx.Ln) (m : Bs), g = m.length ∧ m.length ≤ l.length ∧ ln.lt ∧ RS w0 (bsl (.slice (some ⟨bA, 0, none⟩) l.length cA) l :: F) aq m ∧ Xx.goL l.length Xx.Ln.zero l = Xx.goL m.length ln m ∧
  Sat w0 wr (hshPt p ln (.slice none 0 0) l.length :: bsl (.slice (some ⟨bA, 0, none⟩) l.length cA) l :: F))
 case atStart => exact ⟨Xx.Ln.zero, l, rfl, Nat.le_refl _, Xx.zero_lt, Hall.out, rfl, h7⟩
 case round =>
  obtain ⟨⟨la, lb, lc, ld⟩, m, rfl, hml, hlt, hRS, heq, hS⟩ := hrel
  clear h7 Hall
  by_cases h32 : 32 ≤ m.length
  ·obtain ⟨a, c, a4, c4, rfl, k1, k2, hrun4, rs4⟩ := cut_from hRS hS.drop h32
   obtain ⟨_, _, a0, c0, he, _, _, run0, rs0⟩ := cut_from hRS hS.drop (k := 0) (by omega)
   cases he
   obtain ⟨_, _, a1, c1, he, _, _, run1, rs1⟩ := cut_from hRS hS.drop (k := 8) (by omega)
   cases he
   obtain ⟨_, _, a2, c2, he, _, _, run2, rs2⟩ := cut_from hRS hS.drop (k := 16) (by omega)
   cases he
   obtain ⟨_, _, a3, c3, he, _, _, run3, rs3⟩ := cut_from hRS hS.drop (k := 24) (by omega)
   cases he
   have hst : Xx.goL m.length ⟨la, lb, lc, ld⟩ m = Xx.goL (m.drop 32).length (Xx.strip ⟨la, lb, lc, ld⟩ m) (m.drop 32) := by rw [Xx.goL_step h32 (Nat.le_refl _), List.length_drop]
   have hsl := Xx.strip_lt ⟨la, lb, lc, ld⟩ m
   have hsp : Xx.strip ⟨la, lb, lc, ld⟩ m = ⟨Xx.lane la (Frm.num ((m.drop 0).take 8)), Xx.lane lb (Frm.num ((m.drop 8).take 8)), Xx.lane lc (Frm.num ((m.drop 16).take 8)), Xx.lane ld (Frm.num ((m.drop 24).take 8))⟩ := rfl
   obtain ⟨N0, Hn0⟩ : ∃ N, Hid (Frm.num ((m.drop 0).take 8) = N) := ⟨_, Lib.hid rfl⟩
   obtain ⟨N1, Hn1⟩ : ∃ N, Hid (Frm.num ((m.drop 8).take 8) = N) := ⟨_, Lib.hid rfl⟩
   obtain ⟨N2, Hn2⟩ : ∃ N, Hid (Frm.num ((m.drop 16).take 8) = N) := ⟨_, Lib.hid rfl⟩
   obtain ⟨N3, Hn3⟩ : ∃ N, Hid (Frm.num ((m.drop 24).take 8) = N) := ⟨_, Lib.hid rfl⟩
   rw [Hn0.out, Hn1.out, Hn2.out, Hn3.out] at hsp
   obtain ⟨n0, Hl0'⟩ : ∃ N, Hid (Xx.lane la N0 = N) := ⟨_, Lib.hid rfl⟩
   obtain ⟨n1', Hl1'⟩ : ∃ N, Hid (Xx.lane lb N1 = N) := ⟨_, Lib.hid rfl⟩
   obtain ⟨n2', Hl2'⟩ : ∃ N, Hid (Xx.lane lc N2 = N) := ⟨_, Lib.hid rfl⟩
   obtain ⟨n3', Hl3'⟩ : ∃ N, Hid (Xx.lane ld N3 = N) := ⟨_, Lib.hid rfl⟩
   rw [Hl0'.out, Hl1'.out, Hl2'.out, Hl3'.out] at hsp
   rw [hsp] at hst hsl
   have Hst := Lib.hid (heq.trans hst); have Hsl := Lib.hid hsl; have Hrs4 := Lib.hid rs4; have H32 := Lib.hid h32
   have Hll := Lib.hid (show (m.drop 32).length < m.length ∧ (m.drop 32).length ≤ l.length by rw [List.length_drop]; omega)
   replace rs0 := Lib.hid rs0
   replace rs1 := Lib.hid rs1
   replace rs2 := Lib.hid rs2
   replace rs3 := Lib.hid rs3
   replace run0 := Lib.hid run0
   replace run1 := Lib.hid run1
   replace run2 := Lib.hid run2
   replace run3 := Lib.hid run3
   have Hrun4 := Lib.hid hrun4
   have cc : (32 : Int) ≤ (m.length : Int) := by omega
   clear hst hsl hsp heq hRS rs4 hlt hml k1 k2 h32 hrun4
   go_wp2_with fail
   go_loopg [45] 4 (fun g iq wr => ∃ (i : Nat), g = 4 - i ∧ i ≤ 4 ∧ iq = .int .i64 i ∧ Sat w0 wr ((match i with | 0 => hshPt p ⟨la, lb, lc, ld⟩ (.slice none 0 0) l.length | 1 => hshPt p ⟨n0, lb, lc, ld⟩ (.slice none 0 0) l.length | 2 => hshPt p ⟨n0, n1', lc, ld⟩ (.slice none 0 0) l.length | 3 => hshPt p ⟨n0, n1', n2', ld⟩ (.slice none 0 0) l.length | _ => hshPt p ⟨n0, n1', n2', n3'⟩ (.slice none 0 0) l.length) :: bsl (.slice (some ⟨bA, 0, none⟩) l.length cA) l :: F))
   case atStart => exact ⟨0, rfl, by omega, rfl, hS⟩
   case round =>
    obtain ⟨i, rfl, hi, rfl, hSi⟩ := hrel
    clear hS
    obtain rfl | rfl | rfl | rfl | rfl : i = 0 ∨ i = 1 ∨ i = 2 ∨ i = 3 ∨ i = 4 := by omega
    ·have hw1 : (8 : Int) * 0 = 0 := by decide
     have hw2 : IntKind.i64.wrap (0 : Int) = (0 : Int) := by decide
     have HG := Lib.hid (fun (w : World) (R : List HProp) (hS : Sat w0 w (hshPt p ⟨la, lb, lc, ld⟩ (.slice none 0 0) l.length :: R)) => show w.cell? ⟨p, 2, none⟩ = some (.int .u64 la) from hS.cellAt 2 _ rfl)
     go_wp2_with fail
     have hS1 := hSi.drew
     clear hSi
     refine wpL_begin [13, 16, 17] (fun w' => w'.cell? ⟨p, 2, none⟩ = some (.int .u64 la)) kRz ?_
     have hG := HG.out _ _ hS1
     refine rp 0 (hy := (yl_move evD)) (h := ?_)
     refine rp 1 (hy := (yl_move evD)) (h := ?_)
     refine rp 2 (hy := (yl_move evD)) (h := ?_)
     refine rp 3 (hy := (yl_move evD)) (h := ?_)
     refine rp 4 (hy := (yl_nil evD)) (h := ?_)
     refine rp 5 (hy := (yl_field evD rnD)) (h := ?_)
     refine rp 6 (hy := (yl_index evD evD rnD)) (h := ?_)
     refine rt 7 (h := ?_)
     refine rp 8 (hy := (yl_move evD)) (h := ?_)
     refine rp 9 (hy := (yl_move evD)) (h := ?_)
     refine rp 10 (hy := (yl_bin evD evD rnD)) (h := ?_)
     refine rp 11 (hy := (yl_slF evD (by go_simp; first | done | rfl) run0.out)) (h := ?_)
     refine rp 14 (hy := (yl_nil evD)) (h := ?_)
     refine rp 15 (hy := (yl_field evD rnD)) (h := ?_)
     clear hG
     refine rg_eff 12 evD kRz (fun K hK => ?_)
     (refine eff_call1 kRz evD ?_)
     refine (word_c (m.drop 0) (by rw [List.length_drop]; have := H32.out; omega) (rs0.out.more sbD) hS1).mono ?_
     rintro ee w12 ⟨v, rfl, rfl, rfl⟩
     refine hK _ _ (.inr (.inr rfl)) ?_
     clear hK
     rw [Hn0.out]
     refine rg_eff 13 evD kRz (fun K hK => ?_)
     (refine eff_call2 kRz evD evD ?_)
     refine (lane_c la N0 hS1).mono ?_
     rintro ee w13 ⟨v, rfl, rfl, h13⟩
     refine hK _ _ (.inl rfl) ?_
     clear hK hS1
     rw [Hl0'.out]
     refine rp 16 (hy := (yl_index evD evD rnD)) (h := ?_)
     refine rg_eff 17 evD kRz (fun K hK => ?_)
     refine eff_store (v := .int .u64 n0) h13 evD evD rFz upd0 (by exact (by decide : 3 ≤ 8)) kRz rFz ?_
     intro w17 h17
     refine hK _ _ (.inl rfl) ?_
     clear hK h13
     refine wpL_done kRz ?_
     try simp only [List.getElem_toArray, List.getElem_cons_succ, List.getElem_cons_zero]
     try go_frame
     have h18 : Sat w0 w17 (hshPt p ⟨n0, lb, lc, ld⟩ (.slice none 0 0) l.length :: bsl (.slice (some ⟨bA, 0, none⟩) l.length cA) l :: F) := h17
     clear h17
     go_wp2_with fail
     go_roundg 3
     case measure => omega
     case rel => exact ⟨1, rfl, by omega, rfl, h18⟩
    ·have hw1 : (8 : Int) * 1 = 8 := by decide
     have hw2 : IntKind.i64.wrap (8 : Int) = (8 : Int) := by decide
     have HG := Lib.hid (fun (w : World) (R : List HProp) (hS : Sat w0 w (hshPt p ⟨n0, lb, lc, ld⟩ (.slice none 0 0) l.length :: R)) => show w.cell? ⟨p, 3, none⟩ = some (.int .u64 lb) from hS.cellAt 3 _ rfl)
     go_wp2_with fail
     have hS1 := hSi.drew
     clear hSi
     refine wpL_begin [13, 16, 17] (fun w' => w'.cell? ⟨p, 3, none⟩ = some (.int .u64 lb)) kRz ?_
     have hG := HG.out _ _ hS1
     refine rp 0 (hy := (yl_move evD)) (h := ?_)
     refine rp 1 (hy := (yl_move evD)) (h := ?_)
     refine rp 2 (hy := (yl_move evD)) (h := ?_)
     refine rp 3 (hy := (yl_move evD)) (h := ?_)
     refine rp 4 (hy := (yl_nil evD)) (h := ?_)
     refine rp 5 (hy := (yl_field evD rnD)) (h := ?_)
     refine rp 6 (hy := (yl_index evD evD rnD)) (h := ?_)
     refine rt 7 (h := ?_)
     refine rp 8 (hy := (yl_move evD)) (h := ?_)
     refine rp 9 (hy := (yl_move evD)) (h := ?_)
     refine rp 10 (hy := (yl_bin evD evD rnD)) (h := ?_)
     refine rp 11 (hy := (yl_slF evD (by go_simp; first | done | rfl) run1.out)) (h := ?_)
     refine rp 14 (hy := (yl_nil evD)) (h := ?_)
     refine rp 15 (hy := (yl_field evD rnD)) (h := ?_)
     clear hG
     refine rg_eff 12 evD kRz (fun K hK => ?_)
     (refine eff_call1 kRz evD ?_)
     refine (word_c (m.drop 8) (by rw [List.length_drop]; have := H32.out; omega) (rs1.out.more sbD) hS1).mono ?_
     rintro ee w12 ⟨v, rfl, rfl, rfl⟩
     refine hK _ _ (.inr (.inr rfl)) ?_
     clear hK
     rw [Hn1.out]
     refine rg_eff 13 evD kRz (fun K hK => ?_)
     (refine eff_call2 kRz evD evD ?_)
     refine (lane_c lb N1 hS1).mono ?_
     rintro ee w13 ⟨v, rfl, rfl, h13⟩
     refine hK _ _ (.inl rfl) ?_
     clear hK hS1
     rw [Hl1'.out]
     refine rp 16 (hy := (yl_index evD evD rnD)) (h := ?_)
     refine rg_eff 17 evD kRz (fun K hK => ?_)
     refine eff_store (v := .int .u64 n1') h13 evD evD rFz upd0 (by exact (by decide : 4 ≤ 8)) kRz rFz ?_
     intro w17 h17
     refine hK _ _ (.inl rfl) ?_
     clear hK h13
     refine wpL_done kRz ?_
     try simp only [List.getElem_toArray, List.getElem_cons_succ, List.getElem_cons_zero]
     try go_frame
     have h18 : Sat w0 w17 (hshPt p ⟨n0, n1', lc, ld⟩ (.slice none 0 0) l.length :: bsl (.slice (some ⟨bA, 0, none⟩) l.length cA) l :: F) := h17
     clear h17
     go_wp2_with fail
     go_roundg 2
     case measure => omega
     case rel => exact ⟨2, rfl, by omega, rfl, h18⟩
    ·have hw1 : (8 : Int) * 2 = 16 := by decide
     have hw2 : IntKind.i64.wrap (16 : Int) = (16 : Int) := by decide
     have HG := Lib.hid (fun (w : World) (R : List HProp) (hS : Sat w0 w (hshPt p ⟨n0, n1', lc, ld⟩ (.slice none 0 0) l.length :: R)) => show w.cell? ⟨p, 4, none⟩ = some (.int .u64 lc) from hS.cellAt 4 _ rfl)
     go_wp2_with fail
     have hS1 := hSi.drew
     clear hSi
     refine wpL_begin [13, 16, 17] (fun w' => w'.cell? ⟨p, 4, none⟩ = some (.int .u64 lc)) kRz ?_
     have hG := HG.out _ _ hS1
     refine rp 0 (hy := (yl_move evD)) (h := ?_)
     refine rp 1 (hy := (yl_move evD)) (h := ?_)
     refine rp 2 (hy := (yl_move evD)) (h := ?_)
     refine rp 3 (hy := (yl_move evD)) (h := ?_)
     refine rp 4 (hy := (yl_nil evD)) (h := ?_)
     refine rp 5 (hy := (yl_field evD rnD)) (h := ?_)
     refine rp 6 (hy := (yl_index evD evD rnD)) (h := ?_)
     refine rt 7 (h := ?_)
     refine rp 8 (hy := (yl_move evD)) (h := ?_)
     refine rp 9 (hy := (yl_move evD)) (h := ?_)
     refine rp 10 (hy := (yl_bin evD evD rnD)) (h := ?_)
     refine rp 11 (hy := (yl_slF evD (by go_simp; first | done | rfl) run2.out)) (h := ?_)
     refine rp 14 (hy := (yl_nil evD)) (h := ?_)
     refine rp 15 (hy := (yl_field evD rnD)) (h := ?_)
     clear hG
     refine rg_eff 12 evD kRz (fun K hK => ?_)
     (refine eff_call1 kRz evD ?_)
     refine (word_c (m.drop 16) (by rw [List.length_drop]; have := H32.out; omega) (rs2.out.more sbD) hS1).mono ?_
     rintro ee w12 ⟨v, rfl, rfl, rfl⟩
     refine hK _ _ (.inr (.inr rfl)) ?_
     clear hK
     rw [Hn2.out]
     refine rg_eff 13 evD kRz (fun K hK => ?_)
     (refine eff_call2 kRz evD evD ?_)
     refine (lane_c lc N2 hS1).mono ?_
     rintro ee w13 ⟨v, rfl, rfl, h13⟩
     refine hK _ _ (.inl rfl) ?_
     clear hK hS1
     rw [Hl2'.out]
     refine rp 16 (hy := (yl_index evD evD rnD)) (h := ?_)
     refine rg_eff 17 evD kRz (fun K hK => ?_)
     refine eff_store (v := .int .u64 n2') h13 evD evD rFz upd0 (by exact (by decide : 5 ≤ 8)) kRz rFz ?_
     intro w17 h17
     refine hK _ _ (.inl rfl) ?_
     clear hK h13
     refine wpL_done kRz ?_
     try simp only [List.getElem_toArray, List.getElem_cons_succ, List.getElem_cons_zero]
     try go_frame
     have h18 : Sat w0 w17 (hshPt p ⟨n0, n1', n2', ld⟩ (.slice none 0 0) l.length :: bsl (.slice (some ⟨bA, 0, none⟩) l.length cA) l :: F) := h17
     clear h17
     go_wp2_with fail
     go_roundg 1
     case measure => omega
     case rel => exact ⟨3, rfl, by omega, rfl, h18⟩
    ·have hw1 : (8 : Int) * 3 = 24 := by decide
     have hw2 : IntKind.i64.wrap (24 : Int) = (24 : Int) := by decide
     have HG := Lib.hid (fun (w : World) (R : List HProp) (hS : Sat w0 w (hshPt p ⟨n0, n1', n2', ld⟩ (.slice none 0 0) l.length :: R)) => show w.cell? ⟨p, 5, none⟩ = some (.int .u64 ld) from hS.cellAt 5 _ rfl)
     go_wp2_with fail
     have hS1 := hSi.drew
     clear hSi
     refine wpL_begin [13, 16, 17] (fun w' => w'.cell? ⟨p, 5, none⟩ = some (.int .u64 ld)) kRz ?_
     have hG := HG.out _ _ hS1
     refine rp 0 (hy := (yl_move evD)) (h := ?_)
     refine rp 1 (hy := (yl_move evD)) (h := ?_)
     refine rp 2 (hy := (yl_move evD)) (h := ?_)
     refine rp 3 (hy := (yl_move evD)) (h := ?_)
     refine rp 4 (hy := (yl_nil evD)) (h := ?_)
     refine rp 5 (hy := (yl_field evD rnD)) (h := ?_)
     refine rp 6 (hy := (yl_index evD evD rnD)) (h := ?_)
     refine rt 7 (h := ?_)
     refine rp 8 (hy := (yl_move evD)) (h := ?_)
     refine rp 9 (hy := (yl_move evD)) (h := ?_)
     refine rp 10 (hy := (yl_bin evD evD rnD)) (h := ?_)
     refine rp 11 (hy := (yl_slF evD (by go_simp; first | done | rfl) run3.out)) (h := ?_)
     refine rp 14 (hy := (yl_nil evD)) (h := ?_)
     refine rp 15 (hy := (yl_field evD rnD)) (h := ?_)
     clear hG
     refine rg_eff 12 evD kRz (fun K hK => ?_)
     (refine eff_call1 kRz evD ?_)
     refine (word_c (m.drop 24) (by rw [List.length_drop]; have := H32.out; omega) (rs3.out.more sbD) hS1).mono ?_
     rintro ee w12 ⟨v, rfl, rfl, rfl⟩
     refine hK _ _ (.inr (.inr rfl)) ?_
     clear hK
     rw [Hn3.out]
     refine rg_eff 13 evD kRz (fun K hK => ?_)
     (refine eff_call2 kRz evD evD ?_)
     refine (lane_c ld N3 hS1).mono ?_
     rintro ee w13 ⟨v, rfl, rfl, h13⟩
     refine hK _ _ (.inl rfl) ?_
     clear hK hS1
     rw [Hl3'.out]
     refine rp 16 (hy := (yl_index evD evD rnD)) (h := ?_)
     refine rg_eff 17 evD kRz (fun K hK => ?_)
     refine eff_store (v := .int .u64 n3') h13 evD evD rFz upd0 (by exact (by decide : 6 ≤ 8)) kRz rFz ?_
     intro w17 h17
     refine hK _ _ (.inl rfl) ?_
     clear hK h13
     refine wpL_done kRz ?_
     try simp only [List.getElem_toArray, List.getElem_cons_succ, List.getElem_cons_zero]
     try go_frame
     have h18 : Sat w0 w17 (hshPt p ⟨n0, n1', n2', n3'⟩ (.slice none 0 0) l.length :: bsl (.slice (some ⟨bA, 0, none⟩) l.length cA) l :: F) := h17
     clear h17
     go_wp2_with fail
     go_roundg 0
     case measure => omega
     case rel => exact ⟨4, rfl, by omega, rfl, h18⟩
    ·have hS4 : Sat w0 wr (hshPt p ⟨n0, n1', n2', n3'⟩ (.slice none 0 0) l.length :: bsl (.slice (some ⟨bA, 0, none⟩) l.length cA) l :: F) := hSi
     clear hSi
     go_wp2_with ((with_reducible apply at_slF); refine ⟨?_⟩; refine wl_slF rFz rFz Hrun4.out ?_)
     go_roundg (m.drop 32).length
     case measure => exact Hll.out.1
     case rel => exact ⟨⟨n0, n1', n2', n3'⟩, m.drop 32, rfl, Hll.out.2, Hsl.out, by have k := Hrs4.out; rw [List.length_drop] at k; exact k, Hst.out, hS4⟩
  ·have hst := Lib.hid (show Xx.goL l.length Xx.Ln.zero l = (⟨la, lb, lc, ld⟩, m) from heq.trans (Xx.goL_stop h32))
   have HRS := Lib.hid hRS
   obtain ⟨a, c, rfl, k1, k2⟩ := hRS.len hS.drop
   have cc : ¬ (32 : Int) ≤ (m.length : Int) := by omega
   clear heq hlt hml h32 hRS k1 k2
   go_wp2_with ((with_reducible apply at_store); refine ⟨?_⟩; refine wl_store (v := .slice a m.length c) hS rFz rFz rFz upd0 (by exact Nat.le_succ 7) kRz rFz ?_; intro w9 h9)
   go_end0
   exact ⟨_, rfl, .slice a m.length c, bA, cA, by rw [hst.out]; exact h9, by rw [hst.out]; exact HRS.out⟩
set_option maxRecDepth 20000 in
theorem hshs_c {ln : Xx.Ln} {m : Bs} (hln : ln.lt) (hn : n ≤ 1073741824) (hm : m.length ≤ 1073741824) (hr : RS w0 F rv m) (h : Sat w0 w (hshPt p ln rv n :: F)) : Calls Tryz.prog 207 #[ptr p] w (Rtn fun v w' => v = .int .u64 (Xx.f3 (Xx.f2 (Xx.f1 (Xx.tail (((if 32 ≤ n then Xx.joined ln else 2870177450012600261) + n) % 18446744073709551616) m))) : Nat) ∧ Sat w0 w' (hshPt p ln rv n :: F)) := by
 obtain ⟨ra, rc, rfl, k1, k2⟩ := (hr.more (G := hshPt p ln rv n :: F) sbD).len h
 have Hr := Lib.hid (fun (w : World) (x : Nat) (hx : x < 18446744073709551616) (hS : Sat w0 w (hshPt p ln (.slice ra m.length rc) n :: F)) => xtail_c x hx m hm (hr.more sbD) hS)
 have c0 : w.cell? ⟨p, 0, none⟩ = some (.bool true) := h.cellAt 0 _ rfl
 have Hj := Lib.hid (fun (w : World) (hS : Sat w0 w (hshPt p ln (.slice ra m.length rc) n :: F)) => joined_c hln hS)
 have hHG := Lib.hid (fun (w : World) (hS : Sat w0 w (hshPt p ln (.slice ra m.length rc) n :: F)) => show w.cell? ⟨p, 7, none⟩ = some (.int .u64 n) ∧ w.cell? ⟨p, 6, none⟩ = some (.slice ra m.length rc) from ⟨hS.cellAt 7 _ rfl, hS.cellAt 6 _ rfl⟩)
 have Hn := Lib.hid hn
 clear hr hm k1 k2 hn
 by_cases h32 : 32 ≤ n
 ·rw [if_pos h32]
  generalize Xx.joined ln = J at *
  obtain ⟨x, e1, hx, e2⟩ := start_ex J n
  change (J + n) % 18446744073709551616 = x at e2
  rw [e2]
  have htl : Xx.tail x m < 18446744073709551616 := Xx.tail_lt x m (show x < Xx.W from hx)
  have Htl := Lib.hid (fun (w : World) (hS : Sat w0 w (hshPt p ln (.slice ra m.length rc) n :: F)) => Hr.out w x hx hS)
  generalize Xx.tail x m = y at *
  obtain ⟨t1, t2, t3, t4, t5, f1, f2, f3, f4, f5, f6⟩ := fin_ex htl
  have Hf6 := Lib.hid f6; have He1 := Lib.hid e1; have Hf := Lib.hid (And.intro f1 (And.intro f2 (And.intro f3 (And.intro f4 f5))))
  have ci : (32 : Int) ≤ (n : Int) := by omega
  clear hx htl f6 e1 e2 f1 f2 f3 f4 f5 Hr h32 hln
  go_enter Tryz.func207, Tryz.ntmps207
  go_wp2_with ((with_reducible apply at_load); refine ⟨?_⟩; refine wl_load1 h rFz pick0 nLz evD kRz ?_)
  refine (Hj.out _ h).mono ?_
  rintro ee w1 ⟨v, rfl, rfl, h1⟩
  clear h c0 Hj
  go_wp2_with fail
  have hS := h1.drew
  clear h1
  refine wpL_begin [10, 11] (fun w' => w'.cell? ⟨p, 7, none⟩ = some (.int .u64 n) ∧ w'.cell? ⟨p, 6, none⟩ = some (.slice ra m.length rc)) kRz ?_
  have hG := hHG.out _ hS
  refine rp 0 (hy := (yl_move evD)) (h := ?_)
  refine rp 1 (hy := (yl_move evD)) (h := ?_)
  refine rp 2 (hy := (yl_nil evD)) (h := ?_)
  refine rp 3 (hy := (yl_field evD rnD)) (h := ?_)
  refine rt 4 (h := ?_)
  refine rp 5 (hy := (yl_bin evD evD (by intro wq; have e1 := He1.out; (go_simp); first | done | (with_reducible rfl)))) (h := ?_)
  refine rp 6 (hy := (yl_move evD)) (h := ?_)
  refine rp 7 (hy := (yl_nil evD)) (h := ?_)
  refine rp 8 (hy := (yl_field evD rnD)) (h := ?_)
  refine rt 9 (h := ?_)
  clear hG
  refine rg_eff 10 evD kRz (fun K hK => ?_)
  (refine eff_call2 kRz evD evD ?_)
  refine (Htl.out _ hS).mono ?_
  rintro ee w2 ⟨v, rfl, rfl, h2⟩
  refine hK _ _ (.inl rfl) ?_
  clear hK hS Htl
  refine rp 11 (hy := (yl_assign evD)) (h := ?_)
  refine wpL_done kRz ?_
  try simp only [List.getElem_toArray, List.getElem_cons_succ, List.getElem_cons_zero]
  try go_frame
  obtain ⟨f1, f2, f3, f4, f5⟩ := Hf.out
  go_wp2
  go_ret
  exact ⟨_, rfl, by rw [Hf6.out]; rfl, h2⟩
 ·rw [if_neg h32]
  obtain ⟨x, e1, hx, e2⟩ := start5 n
  rw [e2]
  have htl : Xx.tail x m < 18446744073709551616 := Xx.tail_lt x m (show x < Xx.W from hx)
  have Htl := Lib.hid (fun (w : World) (hS : Sat w0 w (hshPt p ln (.slice ra m.length rc) n :: F)) => Hr.out w x hx hS)
  generalize Xx.tail x m = y at *
  obtain ⟨t1, t2, t3, t4, t5, f1, f2, f3, f4, f5, f6⟩ := fin_ex htl
  have Hf6 := Lib.hid f6; have He1 := Lib.hid e1; have Hf := Lib.hid (And.intro f1 (And.intro f2 (And.intro f3 (And.intro f4 f5))))
  have ci : ¬ (32 : Int) ≤ (n : Int) := by omega
  clear hx htl f6 e1 e2 f1 f2 f3 f4 f5 Hr h32 hln Hj
  go_enter Tryz.func207, Tryz.ntmps207
  go_wp2_with ((with_reducible apply at_load); refine ⟨?_⟩; refine wl_load1 h rFz pick0 nLz evD kRz ?_)
  have h1 := h
  clear h c0
  go_wp2_with fail
  have hS := h1.drew
  clear h1
  refine wpL_begin [10, 11] (fun w' => w'.cell? ⟨p, 7, none⟩ = some (.int .u64 n) ∧ w'.cell? ⟨p, 6, none⟩ = some (.slice ra m.length rc)) kRz ?_
  have hG := hHG.out _ hS
  refine rp 0 (hy := (yl_move evD)) (h := ?_)
  refine rp 1 (hy := (yl_move evD)) (h := ?_)
  refine rp 2 (hy := (yl_nil evD)) (h := ?_)
  refine rp 3 (hy := (yl_field evD rnD)) (h := ?_)
  refine rt 4 (h := ?_)
  refine rp 5 (hy := (yl_bin evD evD (by intro wq; have e1 := He1.out; (go_simp); first | done | (with_reducible rfl)))) (h := ?_)
  refine rp 6 (hy := (yl_move evD)) (h := ?_)
  refine rp 7 (hy := (yl_nil evD)) (h := ?_)
  refine rp 8 (hy := (yl_field evD rnD)) (h := ?_)
  refine rt 9 (h := ?_)
  clear hG
  refine rg_eff 10 evD kRz (fun K hK => ?_)
  (refine eff_call2 kRz evD evD ?_)
  refine (Htl.out _ hS).mono ?_
  rintro ee w2 ⟨v, rfl, rfl, h2⟩
  refine hK _ _ (.inl rfl) ?_
  clear hK hS Htl
  refine rp 11 (hy := (yl_assign evD)) (h := ?_)
  refine wpL_done kRz ?_
  try simp only [List.getElem_toArray, List.getElem_cons_succ, List.getElem_cons_zero]
  try go_frame
  obtain ⟨f1, f2, f3, f4, f5⟩ := Hf.out
  go_wp2
  go_ret
  exact ⟨_, rfl, by rw [Hf6.out]; rfl, h2⟩
theorem xsum_c (hl0 : l ≠ []) (hl : l.length ≤ 1073741824) (hr : RS w0 F bv l) (h : Sat w0 w F) : Calls Tryz.prog 180 #[bv, .int .u64 0] w (Rtn fun v w' => v = .int .u64 (Xx.sum l : Nat) ∧ Sat w0 w' F) := by
 obtain ⟨ba, bc, rfl, _, _⟩ := hr.len h
 have Hr := Lib.hid hr; have Hl := Lib.hid hl; have Hl0 := Lib.hid hl0
 have Hz := Lib.hid (show Xx.sum l = Xx.f3 (Xx.f2 (Xx.f1 (Xx.tail (((if 32 ≤ l.length then Xx.joined (Xx.goL l.length Xx.Ln.zero l).1 else 2870177450012600261) + l.length) % 18446744073709551616) (Xx.goL l.length Xx.Ln.zero l).2))) from rfl)
 clear hr hl hl0
 go_enter Tryz.func180, Tryz.ntmps180
 go_wp2_with fail
 refine (newh_c h).mono ?_
 rintro ee w1 ⟨v, rfl, p, rfl, h1⟩
 go_wp2_with fail
 refine (hshw_c Hl0.out Hl.out Hr.out h1).mono ?_
 rintro ee w2 ⟨v, rfl, rv, bA, cA, h2, hrs⟩
 have hgl := Xx.goL_lt l.length Xx.Ln.zero l Xx.zero_lt
 have hlen : (Xx.goL l.length Xx.Ln.zero l).2.length ≤ 1073741824 := Nat.le_trans (Xx.goL_len2 l.length Xx.Ln.zero l) Hl.out
 have hs := hshs_c hgl Hl.out hlen hrs h2
 rw [← Hz.out] at hs
 clear hgl hlen hrs h h1 h2 Hz
 go_wp2_with fail
 refine hs.mono ?_
 rintro ee w3 ⟨v, rfl, rfl, h3⟩
 clear hs
 go_wp2
 go_ret
 exact ⟨_, rfl, rfl, h3.drop.drop⟩
end
end Go.Proofs.YtlinnpehkfbnkaaGreatDoor
namespace Go.Sl
open Go
section
variable {P : Program} {ops : Array Oper} {Q : Exit → Act → World → Prop} {late : List Nat} {G : World → Prop} {n : Nat} {l : Array Bool} {a : Act} {w : World} {oi oj : Oper}
theorem rg_eff2 (i j : Nat) (hi : ops.toList[i]? = some oi) (hj : ops.toList[j]? = some oj) (hr : Region.ready .any ops l = [i, j])
  (h1 : ∀ K : Act → World → Prop, (∀ a' w', keeps late G i w w' → wpL P ops Q late G n (l.setIfInBounds i true) a' w' → K a' w') →
   if Region.wanted oi (yielded ops a.tmps) = true then Oper.wp P oi a w K Q else K (a.put oi.dst undef) w)
  (h2 : ∀ K : Act → World → Prop, (∀ a' w', keeps late G j w w' → wpL P ops Q late G n (l.setIfInBounds j true) a' w' → K a' w') →
   if Region.wanted oj (yielded ops a.tmps) = true then Oper.wp P oj a w K Q else K (a.put oj.dst undef) w) : wpL P ops Q late G (n + 1) l a w := by
 rw [Array.getElem?_toList] at hi hj
 refine ⟨(fun h0 => by rw [hr] at h0; cases h0), fun k hk => ?_⟩
 rw [hr] at hk
 have hk2 : k = i ∨ k = j := by simpa using hk
 rcases hk2 with rfl | rfl
 ·have := h1 _ (fun a' w' h1 h2 => And.intro h1 h2)
  unfold wpOp
  rw [hi]
  show if Region.wanted oi (yielded ops a.tmps) = true then _ else _
  split
  ·rename_i hw; rw [if_pos hw] at this; exact .inl this
  ·rename_i hw; rw [if_neg hw] at this; exact this
 ·have := h2 _ (fun a' w' h1 h2 => And.intro h1 h2)
  unfold wpOp
  rw [hj]
  show if Region.wanted oj (yielded ops a.tmps) = true then _ else _
  split
  ·rename_i hw; rw [if_pos hw] at this; exact .inl this
  ·rename_i hw; rw [if_neg hw] at this; exact this
end
end Go.Sl
