/-
  'SegsNobodyCardSaid': whatever the input, the law SegsNobody returns true and the input reads as it did; the table of crc is tied to the program's text. No condition.
-/
import Derived.Test.YtdhhbajggafdhaaDoorJ6
import Derived.Test.YtdhhbajggafdhaaDoorRows
import Derived.Test.YtdhhbajggafdhaaDoorCards
import Derived.Test.YtdhhbajggafdhaaDoorTie
import Derived.ProofKit
import Derived.LaidMore
import Derived.OpenShut
import Derived.ShutString
import Derived.SevenTiedAt
/- A log that no call made. -/
namespace Go.Proofs.YtdhhbajggafdhaaDoor
open Go Go.Sl Go.Med Go.MapKept Go.RowKit
set_option linter.unusedVariables false
/-- No log, or one without a medium. -/
def NoLog (lv : Value) (w : World) : Prop := lv = .pointer none ∨ ∃ p, lv = ptr p ∧ w.cell? ⟨p, 0, none⟩ = some (.pointer none)
section
variable {w0 w : World} {F R : List HProp} {v bv dv x lv : Value}
set_option maxHeartbeats 1000000 in
theorem okN_c (h : NoLog lv w) : Calls Tryd.prog 51 #[lv] w (Rtn fun v w' => v = .bool false ∧ w = w') := by
  rcases h with rfl | ⟨p, rfl, c0⟩
  · go_enter Tryd.func51, Tryd.ntmps51
    go_wp2
    go_ret
    exact ⟨_, rfl, rfl, rfl⟩
  · go_enter Tryd.func51, Tryd.ntmps51
    go_wp2
    go_ret
    exact ⟨_, rfl, rfl, rfl⟩
set_option maxHeartbeats 1000000 in
theorem rollbackN_c (h : NoLog lv w) : Calls Tryd.prog 37 #[lv] w (Rtn fun v w' => v = errno 1 ∧ w = w') := by
  go_enter Tryd.func37, Tryd.ntmps37
  go_wp2_with fail
  refine (okN_c h).mono ?_
  rintro e w2 ⟨v, rfl, rfl, rfl⟩
  go_wp2
  go_ret
  exact ⟨_, rfl, rfl, rfl⟩
set_option maxHeartbeats 1000000 in
theorem removeN_c (h : NoLog lv w) (n : Int) : Calls Tryd.prog 38 #[lv, .int .i64 n] w (Rtn fun v w' => v = errno 1 ∧ w = w') := by
  go_enter Tryd.func38, Tryd.ntmps38
  go_wp2_with fail
  refine (okN_c h).mono ?_
  rintro e w2 ⟨v, rfl, rfl, rfl⟩
  go_wp2
  go_ret
  exact ⟨_, rfl, rfl, rfl⟩
set_option maxHeartbeats 1000000 in
theorem syncN_c (h : NoLog lv w) : Calls Tryd.prog 42 #[lv] w (Rtn fun v w' => v = errno 1 ∧ w = w') := by
  go_enter Tryd.func42, Tryd.ntmps42
  go_wp2_with fail
  refine (okN_c h).mono ?_
  rintro e w2 ⟨v, rfl, rfl, rfl⟩
  go_wp2
  go_ret
  exact ⟨_, rfl, rfl, rfl⟩
set_option maxHeartbeats 1000000 in
theorem nextN_c (h : NoLog lv w) : Calls Tryd.prog 43 #[lv] w (Rtn fun v w' => v = .int .i64 0 ∧ w = w') := by
  go_enter Tryd.func43, Tryd.ntmps43
  go_wp2_with (go_at_call 51; refine (okN_c h).mono ?_; rintro e w2 ⟨v, rfl, rfl, rfl⟩)
  go_ret
  exact ⟨_, rfl, rfl, rfl⟩
set_option maxHeartbeats 1000000 in
theorem segmentsN_c (h : NoLog lv w) : Calls Tryd.prog 23 #[lv] w (Rtn fun v w' => v = .slice none 0 0 ∧ w = w') := by
  go_enter Tryd.func23, Tryd.ntmps23
  go_wp2_with fail
  refine (okN_c h).mono ?_
  rintro e w2 ⟨v, rfl, rfl, rfl⟩
  go_wp2
  go_ret
  exact ⟨_, rfl, rfl, rfl⟩
set_option maxHeartbeats 1000000 in
theorem freshN_c (h : NoLog lv w) : Calls Tryd.prog 25 #[lv] w (Rtn fun v w' => v = .int .i64 0 ∧ w = w') := by
  go_enter Tryd.func25, Tryd.ntmps25
  go_wp2_with fail
  refine (okN_c h).mono ?_
  rintro e w2 ⟨v, rfl, rfl, rfl⟩
  go_wp2
  go_ret
  exact ⟨_, rfl, rfl, rfl⟩
set_option maxHeartbeats 1000000 in
theorem findN_c (hN : Ro w0 F (NoLog lv)) (h : Sat w0 w F) (n : Int) : Calls Tryd.prog 57 #[lv, .int .i64 n] w (Rtn fun v w' => v = .int .i64 (-1) ∧ Sat w0 w' F) := by
  go_enter Tryd.func57, Tryd.ntmps57
  go_wp2_with ((with_reducible apply at_box); refine ⟨?_⟩; refine wl_box (by assumption) (by conv => lhs; whnf) (by conv => lhs; whnf) ?_; intro bB wB hB)
  refine (okN_c (hN _ hB.drop)).mono ?_
  rintro e w2 ⟨v, rfl, rfl, rfl⟩
  go_wp2
  go_ret
  exact ⟨_, rfl, rfl, hB.drop⟩
set_option maxHeartbeats 1000000 in
theorem sizeN_c (hN : Ro w0 F (NoLog lv)) (h : Sat w0 w F) (n : Int) : Calls Tryd.prog 35 #[lv, .int .i64 n] w (Rtn fun v w' => v = .int .i64 0 ∧ Sat w0 w' F) := by
  go_enter Tryd.func35, Tryd.ntmps35
  go_wp2_with fail
  refine (findN_c hN h n).mono ?_
  rintro e w2 ⟨v, rfl, rfl, hS⟩
  go_wp2
  go_ret
  exact ⟨_, rfl, rfl, hS⟩
set_option maxHeartbeats 1000000 in
theorem bytesN_c (h : NoLog lv w) (n : Int) : Calls Tryd.prog 26 #[lv, .int .i64 n] w (Rtn fun v w' => v = .tuple #[.slice none 0 0, errno 1] ∧ w = w') := by
  go_enter Tryd.func26, Tryd.ntmps26
  go_wp2_with fail
  refine (okN_c h).mono ?_
  rintro e w2 ⟨v, rfl, rfl, rfl⟩
  go_wp2
  go_ret2
  exact ⟨_, rfl, rfl, rfl⟩
set_option maxRecDepth 20000 in
set_option maxHeartbeats 2000000 in
theorem appendN_c (hN : Ro w0 F (NoLog lv)) (h : Sat w0 w F) (e : Frm.Ent) (da : Option Addr) (dn dc : Nat) :
    Calls Tryd.prog 20 #[lv, .agg (entA e (.slice da dn dc))] w (Rtn fun v w' => v = .tuple #[plcA Seg.Plc.zero, errno 1] ∧ Sat w0 w' F) := by
  go_enter Tryd.func20, Tryd.ntmps20
  go_wp2_with (first | ((with_reducible apply at_boxE); refine ⟨?_⟩; refine wl_boxE (by assumption) (by rfl) ?_; intro bX wX hX) | (refine wl_alloc zPlace (by assumption) rfl ?_; intro q w2 hS2))
  refine (okN_c (hN _ hS2.drop.drop)).mono ?_
  rintro e w2 ⟨v, rfl, rfl, rfl⟩
  go_wp2_with ((with_reducible apply at_store); refine ⟨?_⟩; refine wl_store (by assumption) (by rfl) (by conv => lhs; whnf) (by first | (simp only [putsAt, Value.cells]; (try go_frame); first | done | rfl) | rfl) (by first | ((repeat (first | with_reducible apply upd0 | with_reducible apply upd_there)); done) | ((repeat (first | apply upd0 | apply upd_there)); done) | fail) (Nat.le_of_ble_eq_true (by rfl)) (by kernel_rfl) (by rfl) ?_; intro wS hS)
  refine ⟨rfl, _, res_cell_tmp rfl (by assumption) (by rfl) (by first | ((repeat (first | with_reducible apply pick0 | with_reducible apply pick_there)); done) | ((repeat (first | apply pick0 | apply pick_there)); done) | fail) Tryd.underlying46 rfl (by kernel_rfl), _, rfl, rfl, Sat.sub hS (by repeat (first | (with_reducible apply sub_refl) | ((with_reducible apply sub_take); (· first | ((repeat (first | with_reducible apply pick0 | with_reducible apply pick_there)); done) | ((repeat (first | apply pick0 | apply pick_there)); done) | fail)) | (with_reducible apply sub_drop)))⟩
set_option maxRecDepth 20000 in
set_option maxHeartbeats 2000000 in
theorem commitN_c (hN : Ro w0 F (NoLog lv)) (h : Sat w0 w F) :
    Calls Tryd.prog 19 #[lv] w (Rtn fun v w' => v = .tuple #[.int .i64 0, errno 1] ∧ Sat w0 w' F) := by
  have hap := appendN_c hN h Seg.comEnt none 0 0
  go_enter Tryd.func19, Tryd.ntmps19
  go_wp2_with fail
  refine hap.mono ?_
  rintro e w1 ⟨v, rfl, rfl, hS1⟩
  clear hap
  go_wp2_with (first | (refine wl_alloc zPlace (by assumption) rfl ?_; intro q w2 hS2) | ((with_reducible apply at_store); refine ⟨?_⟩; refine wl_store (by assumption) (by rfl) (by conv => lhs; whnf) (by first | (simp only [putsAt, Value.cells]; (try go_frame); first | done | rfl) | rfl) (by first | ((repeat (first | with_reducible apply upd0 | with_reducible apply upd_there)); done) | ((repeat (first | apply upd0 | apply upd_there)); done) | fail) (Nat.le_of_ble_eq_true (by rfl)) (by kernel_rfl) (by rfl) ?_; intro wS hS))
  go_ret2
  exact ⟨_, rfl, rfl, Sat.sub hS (by repeat (first | (with_reducible apply sub_refl) | ((with_reducible apply sub_take); (· first | ((repeat (first | with_reducible apply pick0 | with_reducible apply pick_there)); done) | ((repeat (first | apply pick0 | apply pick_there)); done) | fail)) | (with_reducible apply sub_drop)))⟩
set_option maxRecDepth 20000 in
set_option maxHeartbeats 2000000 in
theorem readN_c (hN : Ro w0 F (NoLog lv)) (h : Sat w0 w F) (a b c : Int) :
    Calls Tryd.prog 32 #[lv, .agg #[.int .i64 a, .int .i64 b, .int .i64 c]] w (Rtn fun v w' => v = .tuple #[zeroEntV, errno 1] ∧ Sat w0 w' F) := by
  have hz := run_zeroEnt
  go_enter Tryd.func32, Tryd.ntmps32
  go_wp2_with (first | ((with_reducible apply at_box); refine ⟨?_⟩; refine wl_box (by assumption) (by conv => lhs; whnf) (by conv => lhs; whnf) ?_; intro bB wB hB) | ((with_reducible apply at_allocE); refine ⟨?_⟩; refine wl_allocE (by assumption) ?_; intro bE wE hE))
  refine (okN_c (hN _ hE.drop.drop)).mono ?_
  rintro e w2 ⟨v, rfl, rfl, rfl⟩
  go_wp2_with ((with_reducible apply at_storeE); refine ⟨?_⟩; first | (refine wl_storeE (by assumption) (by rfl) (by rfl) (by first | rfl | assumption | exact Hid.out (by assumption)) (by first | ((repeat (first | with_reducible apply upd0 | with_reducible apply upd_there)); done) | ((repeat (first | apply upd0 | apply upd_there)); done) | fail) (by first | assumption | exact entA_size _ _ rfl | exact entA_size _ _ (by assumption) | exact entA_size _ _ (Hid.out (by assumption))) ?_; intro wS hS) | (refine wl_storeE (e := Frm.zeroE) (da := none) (dn := 0) (dc := 0) (by assumption) (by rfl) (by rfl) rfl (by first | ((repeat (first | with_reducible apply upd0 | with_reducible apply upd_there)); done) | ((repeat (first | apply upd0 | apply upd_there)); done) | fail) (by first | assumption | exact entA_size _ _ rfl | exact entA_size _ _ (by assumption) | exact entA_size _ _ (Hid.out (by assumption))) ?_; intro wS hS))
  refine ⟨rfl, _, res_entE rfl (by assumption) (by rfl) (by first | ((repeat (first | with_reducible apply pick0 | with_reducible apply pick_there)); done) | ((repeat (first | apply pick0 | apply pick_there)); done) | fail) rfl, _, rfl, rfl, Sat.sub hS (by repeat (first | (with_reducible apply sub_refl) | ((with_reducible apply sub_take); (· first | ((repeat (first | with_reducible apply pick0 | with_reducible apply pick_there)); done) | ((repeat (first | apply pick0 | apply pick_there)); done) | fail)) | (with_reducible apply sub_drop)))⟩
end
end Go.Proofs.YtdhhbajggafdhaaDoor
/- hoardlaw14.SegsNobody. -/
namespace Go.Proofs.YtdhhbajggafdhaaDoor
open Go Go.Sl Go.Med Go.MapKept Go.RowKit
set_option linter.unusedVariables false
section
variable {w0 w : World} {L L' R F : List HProp} {b : Nat} {ops : Array Oper} {rest : List Oper} {a : Act} {Q : Exit → Act → World → Prop}
variable {dst : Option Tmp} {t T : TypeId} {pos : String} {after : Array Edge} {x y : Operand} {cs : Array Value} {v : Value} {e : Frm.Ent} {da : Option Addr} {dn dc : Nat}
/-- '[]Entry{x}'. -/
theorem wl_buildE (hs : Sat w0 w L) (hy : a.eval x = .agg (entA e (.slice da dn dc))) (hk : e.key.length = 32)
    (hK : ∀ b w', Sat w0 w' (pt b (.cells (entA e (.slice da dn dc)) 33 (0,0)) :: L) → wpList Tryd.prog ops Q rest (a.put dst (.slice (some ⟨b, 0, none⟩) 1 1)) w') :
    wpList Tryd.prog ops Q (⟨dst, .buildSlice 35 1 #[(0, x)], t, pos, after, none⟩ :: rest) a w :=
  wl_build1 (e := 33) (sz := 34) (by' := 64) (by kernel_rfl) hs hy rfl (entA_size _ _ hk) (by decide) hK
theorem at_buildE (h : Stop (wpList Tryd.prog ops Q (⟨dst, .buildSlice 35 1 #[(0, x)], t, pos, after, none⟩ :: rest) a w)) : wpList Tryd.prog ops Q (⟨dst, .buildSlice 35 1 #[(0, x)], t, pos, after, none⟩ :: rest) a w := h.out
/-- An entry out of a slice's memory. -/
theorem wl_loadEs {o : Nat} (hs : Sat w0 w L) (hx : a.eval x = .pointer (some ⟨b, o, none⟩)) (p : Pick (pt b (.cells cs T (0,0))) L R) (hk : e.key.length = 32) (hv : ∀ j v, (entL e (.slice da dn dc))[j]? = some v → cs[o + j]? = some v)
    (h : wpList Tryd.prog ops Q rest (a.put dst (.agg (entA e (.slice da dn dc)))) w) : wpList Tryd.prog ops Q (⟨dst, .load 33 x, t, pos, after, none⟩ :: rest) a w :=
  wl_loadN (entL e (.slice da dn dc)) hs hx p hv Tryd.underlying33 rfl (by rw [entL_len e _ hk]; exact infoEntSize) h
theorem entsL_one (e : Frm.Ent) (dv : Value) : entsL [(e, dv)] = (entA e dv).toList := by unfold entsL entA; simp
/-- A slice of one entry reads as such. -/
theorem ro_one (h : e.key.length = 32) : Ro w0 (pt b (.cells (entA e (.slice da dn dc)) T (0,0)) :: F) (rdsl 34 (.slice (some ⟨b, 0, none⟩) 1 1) (entsL [(e, .slice da dn dc)])) := fun w hw => by
  rw [entsL_one]
  exact ⟨_, 1, 1, rfl, by rw [Array.length_toList, entA_size _ _ h], fun j y hj => ⟨_, rfl, by rw [add_zero_lit]; exact hw.cellAt j y (by simpa using hj)⟩⟩
/-- The entry that Few makes of one. -/
theorem few_one {fs : List (Frm.Ent × Value)} {n long : Nat} (h : fs.map (·.1) = Frm.few [e] (n + 1) long) : ∃ dv, fs = [(Frm.cutE long e, dv)] := by
  have h1 : fs.map (·.1) = [Frm.cutE long e] := by rw [h]; simp [Frm.few]
  cases fs with
  | nil => cases h1
  | cons f fs =>
    cases fs with
    | nil =>
      obtain ⟨x, dv⟩ := f
      simp only [List.map_cons, List.map_nil, List.cons.injEq, and_true] at h1
      exact ⟨dv, by rw [h1]⟩
    | cons g fs => simp at h1
/-- Its memory, opened. -/
theorem few_open {dv v : Value} (hk : e.key.length = 32) (h : Sat w0 w (osl 33 34 v (entsL [(e, dv)]) :: dataS [(e, dv)] :: F)) :
    ∃ b c cs da dc, v = .slice (some ⟨b, 0, none⟩) 1 c ∧ dv = .slice da e.data.length dc ∧ (∀ j y, (entL e dv)[j]? = some y → cs[0 + j]? = some y) ∧ Sat w0 w (pt b (.cells cs 33 (0,0)) :: bsl dv e.data :: F) := by
  have e1 : dataS [(e, dv)] = bsl dv e.data := by unfold dataS; exact stars_one _
  rw [e1] at h
  obtain ⟨da, dn, dc, rfl, hdn, _⟩ := Sat.rd h.pick1
  rw [bys_len, Nat.mul_one] at hdn
  subst hdn
  rcases h.osl_cases with ⟨rfl, hx, hF⟩ | ⟨b, n', cap, cs, rfl, hll, hn', hc, hcm, htk, hp⟩
  · rw [entsL_one] at hx
    have := congrArg List.length hx
    rw [Array.length_toList, entA_size _ _ hk] at this
    cases this
  · rw [entsL_one, Array.length_toList, entA_size _ _ hk] at hll
    obtain rfl : n' = 1 := by omega
    refine ⟨b, cap, cs, da, dc, rfl, rfl, fun j y hj => ?_, hp⟩
    rw [Nat.zero_add]
    refine take_get htk ?_
    rw [entsL_one]
    unfold entA
    exact hj
end
section
variable {w0 w : World} {F R : List HProp} {v bv dv x lv : Value}
set_option maxHeartbeats 1000000 in
theorem deadNil_c (w : World) : Calls Tryd.prog 55 #[.pointer none] w (Rtn fun v w' => v = errno 1 ∧ w = w') := by
  go_enter Tryd.func55, Tryd.ntmps55
  go_wp2
  go_ret
  exact ⟨_, rfl, rfl, rfl⟩
set_option maxHeartbeats 1000000 in
theorem findNil_c (s : ByteArray) (w : World) : Calls Tryd.prog 69 #[.pointer none, .string s] w (Rtn fun v w' => v = .tuple #[.pointer none, errno 1] ∧ w = w') := by
  go_enter Tryd.func69, Tryd.ntmps69
  go_wp2_with (go_at_call 55; refine (deadNil_c _).mono ?_; rintro e w2 ⟨v, rfl, rfl, rfl⟩)
  go_ret2
  exact ⟨_, rfl, rfl, rfl⟩
set_option maxHeartbeats 1000000 in
theorem sizeNil_c (s : ByteArray) (w : World) : Calls Tryd.prog 48 #[.pointer none, .string s] w (Rtn fun v w' => v = .tuple #[.int .i64 0, errno 1] ∧ w = w') := by
  go_enter Tryd.func48, Tryd.ntmps48
  go_wp2_with (go_at_call 69; refine (findNil_c _ _).mono ?_; rintro e w2 ⟨v, rfl, rfl, rfl⟩)
  go_ret2
  exact ⟨_, rfl, rfl, rfl⟩
set_option maxHeartbeats 1000000 in
theorem aliveNil_c (w : World) : Calls Tryd.prog 47 #[.pointer none] w (Rtn fun v w' => v = errno 1 ∧ w = w') := by
  go_enter Tryd.func47, Tryd.ntmps47
  go_wp2_with (go_at_call 48; refine (sizeNil_c _ _).mono ?_; rintro e w2 ⟨v, rfl, rfl, rfl⟩)
  go_ret
  exact ⟨_, rfl, rfl, rfl⟩
set_option maxHeartbeats 1000000 in
theorem openNil_c (n : Int) (w : World) : Calls Tryd.prog 18 #[.pointer none, .int .i64 n] w (Rtn fun v w' => v = .tuple #[.pointer none, errno 1] ∧ w = w') := by
  go_enter Tryd.func18, Tryd.ntmps18
  go_wp2_with (go_at_call 47; refine (aliveNil_c _).mono ?_; rintro e w2 ⟨v, rfl, rfl, rfl⟩)
  go_ret2
  exact ⟨_, rfl, rfl, rfl⟩
set_option maxRecDepth 20000 in
set_option maxHeartbeats 16000000 in
theorem segs_nobody_c (e : Frm.Ent) (hk : e.key.length = 32) (da : Option Addr) (dc : Nat) (hd : Ro w0 F (rdsl 1 (.slice da e.data.length dc) (bys e.data))) (hcap : capOk (.slice da e.data.length dc)) (pa pb pc n : Int) (hH : Ro w0 F Half) (h : Sat w0 w F) :
    Calls Tryd.prog 7 #[.agg (entA e (.slice da e.data.length dc)), .agg #[.int .i64 pa, .int .i64 pb, .int .i64 pc], .int .i64 n] w (Rtn fun v w' => v = .bool true ∧ Sat w0 w' F) := by
  have Hk := Lib.hid hk; have HH := Lib.hid hH; have Hd := Lib.hid hd; have Hcap := Lib.hid hcap
  clear hk hH hd hcap
  go_enter Tryd.func7, Tryd.ntmps7
  go_wp2_with (first | ((with_reducible apply at_boxE); refine ⟨?_⟩; refine wl_boxE (by assumption) (by rfl) ?_; intro bX wX hX) | ((with_reducible apply at_box); refine ⟨?_⟩; refine wl_box (by assumption) (by conv => lhs; whnf) (by conv => lhs; whnf) ?_; intro bB wB hB) | ((with_reducible apply at_loadE); refine ⟨?_⟩; refine wl_loadE (by assumption) (by rfl) (by first | ((repeat (first | with_reducible apply pick0 | with_reducible apply pick_there)); done) | ((repeat (first | apply pick0 | apply pick_there)); done) | fail) (by first | rfl | assumption | exact Hid.out (by assumption)) ?_) | ((with_reducible apply at_buildE); refine ⟨?_⟩; refine wl_buildE (by assumption) (by rfl) Hk.out ?_; intro bN wN hN))
  refine (few_c (lv := .slice (some ⟨bN, 0, none⟩) 1 1) [(e, .slice da e.data.length dc)] 1 100 (by decide) (by decide) (ro_one Hk.out) (fun p hp => by
    rw [List.mem_singleton] at hp
    subst hp
    exact ⟨Hk.out, Ro.of_sub Hd.out (by repeat (first | (with_reducible apply sub_refl) | ((with_reducible apply sub_take); (· first | ((repeat (first | with_reducible apply pick0 | with_reducible apply pick_there)); done) | ((repeat (first | apply pick0 | apply pick_there)); done) | fail)) | (with_reducible apply sub_drop))), Hcap.out⟩) hN).mono ?_
  rintro ee w2 ⟨v, rfl, fs, hfs, hS2⟩
  obtain ⟨dv, rfl⟩ := few_one hfs
  have hk2 : (Frm.cutE 100 e).key.length = 32 := Hk.out
  obtain ⟨b2, c2, cs2, da2, dc2, rfl, rfl, hcs, hS3⟩ := few_open hk2 hS2
  have Hk2 := Lib.hid hk2
  generalize Frm.cutE 100 e = f at *
  have Hcs := Lib.hid hcs
  clear hcs hS2 hfs hN h hk2
  go_wp2_with (first
    | ((with_reducible apply at_loadE); refine ⟨?_⟩; refine wl_loadEs (b := b2) (o := 0) (by assumption) (by rfl) (by first | ((repeat (first | with_reducible apply pick0 | with_reducible apply pick_there)); done) | ((repeat (first | apply pick0 | apply pick_there)); done) | fail) Hk2.out Hcs.out ?_)
    | ((with_reducible apply at_storeE); refine ⟨?_⟩; first | (refine wl_storeE (by assumption) (by rfl) (by rfl) (by first | rfl | assumption | exact Hid.out (by assumption)) (by first | ((repeat (first | with_reducible apply upd0 | with_reducible apply upd_there)); done) | ((repeat (first | apply upd0 | apply upd_there)); done) | fail) (by first | assumption | exact entA_size _ _ rfl | exact entA_size _ _ (by assumption) | exact entA_size _ _ (Hid.out (by assumption))) ?_; intro wS hS) | (refine wl_storeE (e := Frm.zeroE) (da := none) (dn := 0) (dc := 0) (by assumption) (by rfl) (by rfl) rfl (by first | ((repeat (first | with_reducible apply upd0 | with_reducible apply upd_there)); done) | ((repeat (first | apply upd0 | apply upd_there)); done) | fail) (by first | assumption | exact entA_size _ _ rfl | exact entA_size _ _ (by assumption) | exact entA_size _ _ (Hid.out (by assumption))) ?_; intro wS hS)))
  have hS4 : Sat w0 _ (pt bX (.cells (entA f (.slice da2 f.data.length dc2)) 33 (0,0)) :: pt bB (.cells #[.int .i64 pa, .int .i64 pb, .int .i64 pc] 46 (0,0)) :: F) := hS.sub (by repeat (first | (with_reducible apply sub_refl) | ((with_reducible apply sub_take); (· first | ((repeat (first | with_reducible apply pick0 | with_reducible apply pick_there)); done) | ((repeat (first | apply pick0 | apply pick_there)); done) | fail)) | (with_reducible apply sub_drop)))
  clear hS hS3 hB hX
  go_loopg [7] 2 (fun g iq wr => ∃ i : Nat, g = 2 - i ∧ i ≤ 2 ∧ iq = .int .i64 i ∧ Sat w0 wr (pt bX (.cells (entA f (.slice da2 f.data.length dc2)) 33 (0,0)) :: pt bB (.cells #[.int .i64 pa, .int .i64 pb, .int .i64 pc] 46 (0,0)) :: F))
  case atStart => exact ⟨0, rfl, by omega, rfl, hS4⟩
  case round =>
    obtain ⟨i, rfl, hi, rfl, hS⟩ := hrel
    clear hS4
    by_cases hlt : i < 2
    · obtain ⟨lv, hlv⟩ : ∃ lv : Value, lv = lv := ⟨.pointer none, rfl⟩
      have h01 : i = 0 ∨ i = 1 := by omega
      clear hlv lv hi hlt
      have h10 : ¬ ((0 : Int) == 1) = true := by decide
      rcases h01 with rfl | rfl
      · have HN := Lib.hid (show Ro w0 (pt bX (.cells (entA f (.slice da2 f.data.length dc2)) 33 (0,0)) :: pt bB (.cells #[.int .i64 pa, .int .i64 pb, .int .i64 pc] 46 (0,0)) :: F) (NoLog (.pointer none)) from fun w _ => .inl rfl)
        go_wp2_with ((with_reducible apply at_loadE); refine ⟨?_⟩; refine wl_loadE (by assumption) (by rfl) (by first | ((repeat (first | with_reducible apply pick0 | with_reducible apply pick_there)); done) | ((repeat (first | apply pick0 | apply pick_there)); done) | fail) (by first | rfl | assumption | exact Hid.out (by assumption)) ?_)
        refine (appendN_c HN.out hS f da2 f.data.length dc2).mono ?_
        rintro ee w3 ⟨v, rfl, rfl, hS3⟩
        clear hS
        go_wp2_with (first | (refine wl_alloc zPlace (by assumption) rfl ?_; intro q4 w4 hS4) | ((with_reducible apply at_store); refine ⟨?_⟩; refine wl_store (by assumption) (by rfl) (by conv => lhs; whnf) (by first | (simp only [putsAt, Value.cells]; (try go_frame); first | done | rfl) | rfl) (by first | ((repeat (first | with_reducible apply upd0 | with_reducible apply upd_there)); done) | ((repeat (first | apply upd0 | apply upd_there)); done) | fail) (Nat.le_of_ble_eq_true (by rfl)) (by kernel_rfl) (by rfl) ?_; intro wS hS))
        refine (commitN_c (Ro.of_sub HN.out (by repeat (first | (with_reducible apply sub_refl) | ((with_reducible apply sub_take); (· first | ((repeat (first | with_reducible apply pick0 | with_reducible apply pick_there)); done) | ((repeat (first | apply pick0 | apply pick_there)); done) | fail)) | (with_reducible apply sub_drop)))) hS).mono ?_
        rintro ee w5 ⟨v, rfl, rfl, hS5⟩
        clear hS4 hS3 hS
        go_wp2_with fail
        refine (bytesN_c (HN.out _ (hS5.sub (by repeat (first | (with_reducible apply sub_refl) | ((with_reducible apply sub_take); (· first | ((repeat (first | with_reducible apply pick0 | with_reducible apply pick_there)); done) | ((repeat (first | apply pick0 | apply pick_there)); done) | fail)) | (with_reducible apply sub_drop))))) n).mono ?_
        rintro ee w6 ⟨v, rfl, rfl, rfl⟩
        go_wp2_with ((with_reducible apply at_load); refine ⟨?_⟩; refine wl_loadA (b := bB) (by assumption) (by rfl) (by first | ((repeat (first | with_reducible apply pick0 | with_reducible apply pick_there)); done) | ((repeat (first | apply pick0 | apply pick_there)); done) | fail) Tryd.underlying46 rfl (by kernel_rfl) ?_)
        refine (readN_c (Ro.of_sub HN.out (by repeat (first | (with_reducible apply sub_refl) | ((with_reducible apply sub_take); (· first | ((repeat (first | with_reducible apply pick0 | with_reducible apply pick_there)); done) | ((repeat (first | apply pick0 | apply pick_there)); done) | fail)) | (with_reducible apply sub_drop)))) hS5 pa pb pc).mono ?_
        rintro ee w7 ⟨v, rfl, rfl, hS7⟩
        clear hS5
        go_wp2_with (first | ((with_reducible apply at_allocE); refine ⟨?_⟩; refine wl_allocE (by assumption) ?_; intro bE wE hE) | ((with_reducible apply at_storeE); refine ⟨?_⟩; first | (refine wl_storeE (by assumption) (by rfl) (by rfl) (by first | rfl | assumption | exact Hid.out (by assumption)) (by first | ((repeat (first | with_reducible apply upd0 | with_reducible apply upd_there)); done) | ((repeat (first | apply upd0 | apply upd_there)); done) | fail) (by first | assumption | exact entA_size _ _ rfl | exact entA_size _ _ (by assumption) | exact entA_size _ _ (Hid.out (by assumption))) ?_; intro wS hS) | (refine wl_storeE (e := Frm.zeroE) (da := none) (dn := 0) (dc := 0) (by assumption) (by rfl) (by rfl) rfl (by first | ((repeat (first | with_reducible apply upd0 | with_reducible apply upd_there)); done) | ((repeat (first | apply upd0 | apply upd_there)); done) | fail) (by first | assumption | exact entA_size _ _ rfl | exact entA_size _ _ (by assumption) | exact entA_size _ _ (Hid.out (by assumption))) ?_; intro wS hS)))
        refine (rollbackN_c (HN.out _ (hS.sub (by repeat (first | (with_reducible apply sub_refl) | ((with_reducible apply sub_take); (· first | ((repeat (first | with_reducible apply pick0 | with_reducible apply pick_there)); done) | ((repeat (first | apply pick0 | apply pick_there)); done) | fail)) | (with_reducible apply sub_drop)))))).mono ?_
        rintro ee w8 ⟨v, rfl, rfl, rfl⟩
        go_wp2_with fail
        refine (removeN_c (HN.out _ (hS.sub (by repeat (first | (with_reducible apply sub_refl) | ((with_reducible apply sub_take); (· first | ((repeat (first | with_reducible apply pick0 | with_reducible apply pick_there)); done) | ((repeat (first | apply pick0 | apply pick_there)); done) | fail)) | (with_reducible apply sub_drop))))) n).mono ?_
        rintro ee w8 ⟨v, rfl, rfl, rfl⟩
        go_wp2_with fail
        refine (syncN_c (HN.out _ (hS.sub (by repeat (first | (with_reducible apply sub_refl) | ((with_reducible apply sub_take); (· first | ((repeat (first | with_reducible apply pick0 | with_reducible apply pick_there)); done) | ((repeat (first | apply pick0 | apply pick_there)); done) | fail)) | (with_reducible apply sub_drop)))))).mono ?_
        rintro ee w8 ⟨v, rfl, rfl, rfl⟩
        go_wp2_with fail
        refine (nextN_c (HN.out _ (hS.sub (by repeat (first | (with_reducible apply sub_refl) | ((with_reducible apply sub_take); (· first | ((repeat (first | with_reducible apply pick0 | with_reducible apply pick_there)); done) | ((repeat (first | apply pick0 | apply pick_there)); done) | fail)) | (with_reducible apply sub_drop)))))).mono ?_
        rintro ee w8 ⟨v, rfl, rfl, rfl⟩
        go_wp2_with fail
        refine (segmentsN_c (HN.out _ (hS.sub (by repeat (first | (with_reducible apply sub_refl) | ((with_reducible apply sub_take); (· first | ((repeat (first | with_reducible apply pick0 | with_reducible apply pick_there)); done) | ((repeat (first | apply pick0 | apply pick_there)); done) | fail)) | (with_reducible apply sub_drop)))))).mono ?_
        rintro ee w8 ⟨v, rfl, rfl, rfl⟩
        go_wp2_with fail
        refine (freshN_c (HN.out _ (hS.sub (by repeat (first | (with_reducible apply sub_refl) | ((with_reducible apply sub_take); (· first | ((repeat (first | with_reducible apply pick0 | with_reducible apply pick_there)); done) | ((repeat (first | apply pick0 | apply pick_there)); done) | fail)) | (with_reducible apply sub_drop)))))).mono ?_
        rintro ee w8 ⟨v, rfl, rfl, rfl⟩
        go_wp2_with fail
        have hSS := hS
        refine (sizeN_c (Ro.of_sub HN.out (by repeat (first | (with_reducible apply sub_refl) | ((with_reducible apply sub_take); (· first | ((repeat (first | with_reducible apply pick0 | with_reducible apply pick_there)); done) | ((repeat (first | apply pick0 | apply pick_there)); done) | fail)) | (with_reducible apply sub_drop)))) hSS n).mono ?_
        rintro ee w9 ⟨v, rfl, rfl, hS9⟩
        clear hS hSS hS7 hE
        go_wp2_with fail
        have hS := hS9
        go_roundg 1
        case rel => exact ⟨1, rfl, by decide, by first | rfl | go_num, Sat.sub hS (by repeat (first | (with_reducible apply sub_refl) | ((with_reducible apply sub_take); (· first | ((repeat (first | with_reducible apply pick0 | with_reducible apply pick_there)); done) | ((repeat (first | apply pick0 | apply pick_there)); done) | fail)) | (with_reducible apply sub_drop)))⟩
        case measure => decide
      · go_wp2_with (first | (((with_reducible apply at_box); refine ⟨?_⟩; refine wl_box (by assumption) (by conv => lhs; whnf) (by conv => lhs; whnf) ?_; intro bQ wQ hQ); have HN := Lib.hid (show Ro w0 (pt bQ (.cells #[.pointer none, .int .i64 0, .slice none 0 0, .bool false, .int .i64 0] 86 (0,0)) :: pt bX (.cells (entA f (.slice da2 f.data.length dc2)) 33 (0,0)) :: pt bB (.cells #[.int .i64 pa, .int .i64 pb, .int .i64 pc] 46 (0,0)) :: F) (NoLog (ptr bQ)) from fun w hw => .inr ⟨bQ, rfl, hw.cellAt 0 _ rfl⟩); have hS := hQ) | ((with_reducible apply at_loadE); refine ⟨?_⟩; refine wl_loadE (by assumption) (by rfl) (by first | ((repeat (first | with_reducible apply pick0 | with_reducible apply pick_there)); done) | ((repeat (first | apply pick0 | apply pick_there)); done) | fail) (by first | rfl | assumption | exact Hid.out (by assumption)) ?_))
        refine (appendN_c HN.out hS f da2 f.data.length dc2).mono ?_
        rintro ee w3 ⟨v, rfl, rfl, hS3⟩
        clear hS
        go_wp2_with (first | (refine wl_alloc zPlace (by assumption) rfl ?_; intro q4 w4 hS4) | ((with_reducible apply at_store); refine ⟨?_⟩; refine wl_store (by assumption) (by rfl) (by conv => lhs; whnf) (by first | (simp only [putsAt, Value.cells]; (try go_frame); first | done | rfl) | rfl) (by first | ((repeat (first | with_reducible apply upd0 | with_reducible apply upd_there)); done) | ((repeat (first | apply upd0 | apply upd_there)); done) | fail) (Nat.le_of_ble_eq_true (by rfl)) (by kernel_rfl) (by rfl) ?_; intro wS hS))
        refine (commitN_c (Ro.of_sub HN.out (by repeat (first | (with_reducible apply sub_refl) | ((with_reducible apply sub_take); (· first | ((repeat (first | with_reducible apply pick0 | with_reducible apply pick_there)); done) | ((repeat (first | apply pick0 | apply pick_there)); done) | fail)) | (with_reducible apply sub_drop)))) hS).mono ?_
        rintro ee w5 ⟨v, rfl, rfl, hS5⟩
        clear hS4 hS3 hS
        go_wp2_with fail
        refine (bytesN_c (HN.out _ (hS5.sub (by repeat (first | (with_reducible apply sub_refl) | ((with_reducible apply sub_take); (· first | ((repeat (first | with_reducible apply pick0 | with_reducible apply pick_there)); done) | ((repeat (first | apply pick0 | apply pick_there)); done) | fail)) | (with_reducible apply sub_drop))))) n).mono ?_
        rintro ee w6 ⟨v, rfl, rfl, rfl⟩
        go_wp2_with ((with_reducible apply at_load); refine ⟨?_⟩; refine wl_loadA (b := bB) (by assumption) (by rfl) (by first | ((repeat (first | with_reducible apply pick0 | with_reducible apply pick_there)); done) | ((repeat (first | apply pick0 | apply pick_there)); done) | fail) Tryd.underlying46 rfl (by kernel_rfl) ?_)
        refine (readN_c (Ro.of_sub HN.out (by repeat (first | (with_reducible apply sub_refl) | ((with_reducible apply sub_take); (· first | ((repeat (first | with_reducible apply pick0 | with_reducible apply pick_there)); done) | ((repeat (first | apply pick0 | apply pick_there)); done) | fail)) | (with_reducible apply sub_drop)))) hS5 pa pb pc).mono ?_
        rintro ee w7 ⟨v, rfl, rfl, hS7⟩
        clear hS5
        go_wp2_with (first | ((with_reducible apply at_allocE); refine ⟨?_⟩; refine wl_allocE (by assumption) ?_; intro bE wE hE) | ((with_reducible apply at_storeE); refine ⟨?_⟩; first | (refine wl_storeE (by assumption) (by rfl) (by rfl) (by first | rfl | assumption | exact Hid.out (by assumption)) (by first | ((repeat (first | with_reducible apply upd0 | with_reducible apply upd_there)); done) | ((repeat (first | apply upd0 | apply upd_there)); done) | fail) (by first | assumption | exact entA_size _ _ rfl | exact entA_size _ _ (by assumption) | exact entA_size _ _ (Hid.out (by assumption))) ?_; intro wS hS) | (refine wl_storeE (e := Frm.zeroE) (da := none) (dn := 0) (dc := 0) (by assumption) (by rfl) (by rfl) rfl (by first | ((repeat (first | with_reducible apply upd0 | with_reducible apply upd_there)); done) | ((repeat (first | apply upd0 | apply upd_there)); done) | fail) (by first | assumption | exact entA_size _ _ rfl | exact entA_size _ _ (by assumption) | exact entA_size _ _ (Hid.out (by assumption))) ?_; intro wS hS)))
        refine (rollbackN_c (HN.out _ (hS.sub (by repeat (first | (with_reducible apply sub_refl) | ((with_reducible apply sub_take); (· first | ((repeat (first | with_reducible apply pick0 | with_reducible apply pick_there)); done) | ((repeat (first | apply pick0 | apply pick_there)); done) | fail)) | (with_reducible apply sub_drop)))))).mono ?_
        rintro ee w8 ⟨v, rfl, rfl, rfl⟩
        go_wp2_with fail
        refine (removeN_c (HN.out _ (hS.sub (by repeat (first | (with_reducible apply sub_refl) | ((with_reducible apply sub_take); (· first | ((repeat (first | with_reducible apply pick0 | with_reducible apply pick_there)); done) | ((repeat (first | apply pick0 | apply pick_there)); done) | fail)) | (with_reducible apply sub_drop))))) n).mono ?_
        rintro ee w8 ⟨v, rfl, rfl, rfl⟩
        go_wp2_with fail
        refine (syncN_c (HN.out _ (hS.sub (by repeat (first | (with_reducible apply sub_refl) | ((with_reducible apply sub_take); (· first | ((repeat (first | with_reducible apply pick0 | with_reducible apply pick_there)); done) | ((repeat (first | apply pick0 | apply pick_there)); done) | fail)) | (with_reducible apply sub_drop)))))).mono ?_
        rintro ee w8 ⟨v, rfl, rfl, rfl⟩
        go_wp2_with fail
        refine (nextN_c (HN.out _ (hS.sub (by repeat (first | (with_reducible apply sub_refl) | ((with_reducible apply sub_take); (· first | ((repeat (first | with_reducible apply pick0 | with_reducible apply pick_there)); done) | ((repeat (first | apply pick0 | apply pick_there)); done) | fail)) | (with_reducible apply sub_drop)))))).mono ?_
        rintro ee w8 ⟨v, rfl, rfl, rfl⟩
        go_wp2_with fail
        refine (segmentsN_c (HN.out _ (hS.sub (by repeat (first | (with_reducible apply sub_refl) | ((with_reducible apply sub_take); (· first | ((repeat (first | with_reducible apply pick0 | with_reducible apply pick_there)); done) | ((repeat (first | apply pick0 | apply pick_there)); done) | fail)) | (with_reducible apply sub_drop)))))).mono ?_
        rintro ee w8 ⟨v, rfl, rfl, rfl⟩
        go_wp2_with fail
        refine (freshN_c (HN.out _ (hS.sub (by repeat (first | (with_reducible apply sub_refl) | ((with_reducible apply sub_take); (· first | ((repeat (first | with_reducible apply pick0 | with_reducible apply pick_there)); done) | ((repeat (first | apply pick0 | apply pick_there)); done) | fail)) | (with_reducible apply sub_drop)))))).mono ?_
        rintro ee w8 ⟨v, rfl, rfl, rfl⟩
        go_wp2_with fail
        have hSS := hS
        refine (sizeN_c (Ro.of_sub HN.out (by repeat (first | (with_reducible apply sub_refl) | ((with_reducible apply sub_take); (· first | ((repeat (first | with_reducible apply pick0 | with_reducible apply pick_there)); done) | ((repeat (first | apply pick0 | apply pick_there)); done) | fail)) | (with_reducible apply sub_drop)))) hSS n).mono ?_
        rintro ee w9 ⟨v, rfl, rfl, hS9⟩
        clear hS hSS hS7 hE
        go_wp2_with fail
        have hS := hS9
        go_roundg 0
        case rel => exact ⟨2, rfl, by decide, by first | rfl | go_num, Sat.sub hS (by repeat (first | (with_reducible apply sub_refl) | ((with_reducible apply sub_take); (· first | ((repeat (first | with_reducible apply pick0 | with_reducible apply pick_there)); done) | ((repeat (first | apply pick0 | apply pick_there)); done) | fail)) | (with_reducible apply sub_drop)))⟩
        case measure => decide
    · obtain rfl : i = 2 := by omega
      clear hlt hi
      go_wp2_with fail
      refine (openNil_c _ _).mono ?_
      rintro ee w3 ⟨v, rfl, rfl, rfl⟩
      go_wp2_with fail
      refine (lives_c (by first | assumption | exact Ro.of_pick (Ro.bsl _ _) (by first | ((repeat (first | with_reducible apply pick0 | with_reducible apply pick_there)); done) | ((repeat (first | apply pick0 | apply pick_there)); done) | fail) | exact Ro.of_sub (by assumption) (by repeat (first | (with_reducible apply sub_refl) | ((with_reducible apply sub_take); (· first | ((repeat (first | with_reducible apply pick0 | with_reducible apply pick_there)); done) | ((repeat (first | apply pick0 | apply pick_there)); done) | fail)) | (with_reducible apply sub_drop)))) hS).mono ?_
      rintro ee w4 ⟨v, rfl, rfl, hS4⟩
      go_wp2
      go_ret
      exact ⟨_, rfl, rfl, Sat.sub hS4 (by repeat (first | (with_reducible apply sub_refl) | ((with_reducible apply sub_take); (· first | ((repeat (first | with_reducible apply pick0 | with_reducible apply pick_there)); done) | ((repeat (first | apply pick0 | apply pick_there)); done) | fail)) | (with_reducible apply sub_drop)))⟩
end
end Go.Proofs.YtdhhbajggafdhaaDoor
/-
  'SegsNobodyCardSaid': whatever the input, the law SegsNobody returns true and the input reads as it did; the table of crc is tied to the program's text. No condition.
-/
namespace Go.Proofs.YtdhhbajggafdhaaDoor.nobodyS
open Go.ChangeShapes Go.WideShapes Go.ChangeAt Go.RowKit
open Go.ChangeMaps (open_string shut_string)
open Go Go.Sl Go.Med Go.Proofs.YtdhhbajggafdhaaDoor.card
set_option linter.unusedVariables false
theorem walk {W : World} (d0 : Frm.Ent × Value) (cs0 : Array Value) (e0 : entL d0.1 d0.2 = (Value.agg cs0).cells.toList) (i0 : EntAt W d0) (a1 b1 c1 : Int) (cs1 : Array Value) (e1 : (Value.agg cs1).cells.toList = [.int .i64 a1, .int .i64 b1, .int .i64 c1]) (z2 : Int) (w2 : inI z2) (h : 0 < W.heap.size ∧ Half W) :
    Calls Tryd.prog 7 #[.agg cs0, .agg cs1, .int .i64 z2] W fun e w' => e = .returned (.bool true) ∧ Below W.heap.size W w' := by
  have hcs0 : cs0 = entA d0.1 d0.2 := by
    have : cs0.toList = entL d0.1 d0.2 := e0.symm
    exact putsAt_eq this
  subst hcs0
  obtain ⟨e00, dv0⟩ := d0
  obtain ⟨da0, dn0, dc0, rfl, q10, q20⟩ := i0.cap
  have hdl0 : dn0 = e00.data.length := by
    obtain ⟨_, _, _, he, hl, _⟩ := i0.rd
    cases he
    rw [bys_len, Nat.mul_one] at hl; exact hl.symm
  subst hdl0
  have hcs1 : cs1 = #[.int .i64 a1, .int .i64 b1, .int .i64 c1] := putsAt_eq e1
  subst hcs1
  refine (segs_nobody_c (F := [Sl.old W]) e00 i0.key da0 dc0 (rd_old i0.rd) i0.cap a1 b1 c1 z2 (fun w hw i hi => (hw.below.cell (p := ⟨0, i, none⟩) h.1).trans (h.2 i hi)) (Sat.start W)).mono ?_
  rintro e w' ⟨v, rfl, rfl, hS⟩
  exact ⟨rfl, hS.below⟩
set_option maxRecDepth 100000 in
theorem lifted (os : Os) (started : os.Started) (H : Type) (enc : TypeId × Value → H) :
    ReturnsInHanded {} Tryd.checked os 7 .any (fun w args => (Rows.segsNobodySpec.pre enc Tryd.prog Tryd.f7 [] false w args ∧ laidMetH Tryd.prog [("hoard/crc.half", Rows.laid_hoard_crc_half)] w) ∧ sizedMet enc Tryd.prog Tryd.f7 (OpenSpec.ofChange Rows.segsNobodySpec) false w args)
      (Rows.segsNobodySpec.post enc Tryd.prog Tryd.f7 false true false false) := by
  refine returnsInHanded_of_change_and (C := Tryd.checked) (X := fun w _ => laidMetH Tryd.prog [("hoard/crc.half", Rows.laid_hoard_crc_half)] w) (fun _ _ _ hh h => h.of_heap hh) own started (by kernel_rfl) Tryd.func7
    (ChangeSpec.witness_shaped (enc := enc) (C := Tryd.checked) (os := os) (X := fun w _ => laidMetH Tryd.prog [("hoard/crc.half", Rows.laid_hoard_crc_half)] w) false (World.doorLaid Tryd.prog 400 os) #[zeroEntV, .agg #[.int .i64 0, .int .i64 0, .int .i64 0], .int .i64 0] 8 rfl (World.shaped_of_RefB (by kernel_rfl) (by kernel_rfl)) (by kernel_rfl) (by kernel_rfl) (by kernel_rfl) (door_met os _)) ?_
  intro W base args ds gs before hval0 hW _ _ hL _
  have hval : ∀ (j : Nat) t v, Tryd.f7.params[j]? = some t → args[j]? = some v → Value.okWide Tryd.prog W .any base t v := hval0
  have hW' := hW
  obtain ⟨p, q, hA0, hV, rfl, hfz, hnd⟩ := hW
  have hA : DataW.TrodAll enc Tryd.prog W 0 (fun _ => true) true Tryd.f7.params.toList args.toList ds p := hA0
  rw [Tryd.params7] at hA hval
  obtain ⟨v0, vs0, d0, ds0, p0, q0, hargs, rfl, rfl, h0, r0⟩ := trodAll_cons hA
  obtain ⟨v1, vs1, d1, ds1, p1, q1, rfl, rfl, rfl, h1, r1⟩ := trodAll_cons r0
  obtain ⟨v2, vs2, d2, ds2, p2, q2, rfl, rfl, rfl, h2, r2⟩ := trodAll_cons r1
  obtain ⟨rfl, rfl, rfl⟩ := trodAll_nil r2
  obtain rfl : args = #[v0, v1, v2] := by cases args; simp_all
  obtain ⟨rfl, rfl⟩ := trodVars_none hV
  obtain ⟨cs0, rfl, hcs0⟩ := okWide_struct Tryd.underlying33 (hval 0 33 v0 rfl rfl)
  obtain ⟨cs1, rfl, hcs1⟩ := okWide_struct Tryd.underlying46 (hval 1 46 v1 rfl rfl)
  obtain ⟨z2, rfl⟩ := okWide_int Tryd.underlying3 (hval 2 3 v2 rfl rfl)
  have k0 := h0
  have k1 := h1
  have k2 := h2
  have lt0 : ∀ x ∈ p0, x.block < W.heap.size := by obtain ⟨m, hm⟩ := k0; exact DataW.trod_lt m _ _ _ hm
  have lt1 : ∀ x ∈ p1, x.block < W.heap.size := by obtain ⟨m, hm⟩ := k1; exact DataW.trod_lt m _ _ _ hm
  have lt2 : ∀ x ∈ p2, x.block < W.heap.size := by obtain ⟨m, hm⟩ := k2; exact DataW.trod_lt m _ _ _ hm
  obtain ⟨d0, e0, i0⟩ : ∃ p : Frm.Ent × Value, entL p.1 p.2 = (Value.agg cs0).cells.toList ∧ EntAt W p := by
    obtain ⟨fuel, hf⟩ := h0
    exact open_ent hf
  obtain ⟨a1, b1, c1, e1, i1⟩ : ∃ a b c : Int, (Value.agg cs1).cells.toList = [.int .i64 a, .int .i64 b, .int .i64 c] ∧ inI a ∧ inI b ∧ inI c := by
    obtain ⟨fuel, hf⟩ := h1
    exact open_plc hf
  have w2 : inI z2 := by
    obtain ⟨fuel, hf⟩ := h2
    obtain ⟨n, hn, _, hw⟩ := DataW.trod_int Tryd.underlying3 hf
    obtain rfl : z2 = n := by simpa [Value.cells] using hn
    exact bounds_i64 hw
  clear hA0 hval0
  refine (walk d0 cs0 e0 i0 a1 b1 c1 cs1 e1 z2 w2 (of_laid hL)).mono fun e W' ⟨he, bel⟩ => ?_
  subst he
  exact ⟨_, rfl, _, _, _, [], _, [], hW', trodAll_mk1 (shut_bool Tryd.underlying4 _), (trodAll_cons_mk (Below.trod laidOut (by kernel_rfl) (of_decide_eq_true (by kernel_rfl)) k0 bel lt0) (trodAll_cons_mk (Below.trod laidOut (by kernel_rfl) (of_decide_eq_true (by kernel_rfl)) k1 bel lt1) (trodAll_cons_mk (Below.trod laidOut (by kernel_rfl) (of_decide_eq_true (by kernel_rfl)) k2 bel lt2) trodAll_mk0))), rfl, bel.frame _, fun h => by cases h⟩
theorem over : Rows.segsNobodyRow.holds Tryd.pinned (OpenSpec.ofChange Rows.segsNobodySpec) :=
  OpenClaim.holds_of_wide 7 Tryd.f7 rfl rfl rfl rfl rfl rfl rfl ⟨rfl, rfl, rfl, rfl, rfl⟩ rfl rfl rfl rfl rfl (by kernel_rfl) Tryd.func7 (by kernel_rfl)
    (of_decide_eq_true (by kernel_rfl)) (by unfold Func.isWrapper; first | (rw [if_pos (by decide +kernel)]; kernel_rfl) | (rw [if_neg (by decide +kernel)]; exact ⟨rfl, rfl⟩))
    (fun os started H enc _ => lifted os started H enc)
/-- The statement: the tied card. -/
theorem proved : Rows.SegsNobodyCardSaid :=
  Claim7.holds_tied_plain_at .later [] [.data] true (true, "4b85a8b170ed2f59eb55046b71ff8d3ef04e9e7a9fd6ee09a0bf838d5f8882e8") false
    over (fun _ h => by cases h) (by kernel_rfl) (fun _ h => by cases h) segsNobody_row_tie rfl ⟨rfl, rfl⟩ (by kernel_rfl) rfl
    (fun f fn hf hfn => by
      obtain rfl : f = 7 := Option.some.inj ((show Tryd.prog.funcNamed "hoard/hoardlaw14.SegsNobody" = some 7 by kernel_rfl).symm.trans hf) |>.symm
      obtain rfl : fn = Tryd.f7 := (Option.some.inj (Tryd.func7.symm.trans hfn)).symm
      exact ⟨by kernel_rfl, fun j t ht => by
        rw [Tryd.params7] at ht
        have h3 : t = 33 ∨ t = 46 ∨ t = 3 := by
          rcases j with _ | _ | _ | j
          · left; simpa using ht.symm
          · right; left; simpa using ht.symm
          · right; right; simpa using ht.symm
          · simp at ht
        rcases h3 with rfl | rfl | rfl
        · exact (show Tryd.prog.wantsStandIn 33 = false by kernel_rfl)
        · exact (show Tryd.prog.wantsStandIn 46 = false by kernel_rfl)
        · exact (show Tryd.prog.wantsStandIn 3 = false by kernel_rfl)⟩)
    (by kernel_rfl)
#print axioms proved
end Go.Proofs.YtdhhbajggafdhaaDoor.nobodyS
