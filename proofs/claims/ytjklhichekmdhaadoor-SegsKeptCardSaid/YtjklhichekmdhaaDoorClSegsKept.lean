/-
  'SegsKeptCardSaid': whatever the input, the law SegsKept returns true and the input reads as it did; the table of crc is tied to the program's text. No condition.
-/
import Derived.Test.YtjklhichekmdhaaDoorJ8
import Derived.Test.YtjklhichekmdhaaDoorRows
import Derived.Test.YtjklhichekmdhaaDoorCards
import Derived.Test.YtjklhichekmdhaaDoorTie
import Derived.ProofKit
import Derived.LaidMore
import Derived.OpenShut
import Derived.ShutString
import Derived.SevenTiedAt
set_option linter.unusedVariables false
/- hoardlaw14.kept in memory; without. -/
namespace Go.Proofs.YtjklhichekmdhaaDoor
open Go Go.Sl Go.Med Go.MapKept Go.RowKit
set_option linter.unusedVariables false
/-- An entry that was put, its place, the slice of its data. -/
abbrev Kp := (Seg.Plc × Frm.Ent) × Value
def kpL (k : Kp) : List Value := .int .i64 k.1.1.seg :: .int .i64 k.1.1.at_ :: .int .i64 k.1.1.size :: entL k.1.2 k.2
def kpA (k : Kp) : Array Value := (kpL k).toArray
def kpsL (ks : List Kp) : List Value := ks.flatMap kpL
theorem kpL_len (k : Kp) (hk : k.1.2.key.length = 32) : (kpL k).length = 37 := by unfold kpL; simp only [List.length_cons, entL_len _ _ hk]
theorem kpA_size (k : Kp) (hk : k.1.2.key.length = 32) : (kpA k).size = 37 := by unfold kpA; rw [List.size_toArray, kpL_len k hk]
theorem infoKp : (Tryd.prog.info? 75).map (·.size) = some 37 := by kernel_rfl
def zeroK : Kp := ((Seg.Plc.zero, Frm.zeroE), .slice none 0 0)
theorem plKp : placesB Tryd.prog 75 = some [(0, 3), (3, 34)] := by kernel_rfl
theorem zKp : zeroB Tryd.prog 75 = some (.agg (kpA zeroK)) := by kernel_rfl
theorem kpsL_at {ks : List Kp} (hk : ∀ p ∈ ks, p.1.2.key.length = 32) {i : Nat} {p : Kp} (hi : ks[i]? = some p) {j : Nat} {y : Value} (hj : (kpL p)[j]? = some y) : (kpsL ks)[i * 37 + j]? = some y := by
  induction ks generalizing i with
  | nil => simp at hi
  | cons x ks ih =>
    have hx := kpL_len x (hk x (.head _))
    unfold kpsL at *
    rw [List.flatMap_cons]
    cases i with
    | zero =>
      obtain rfl : x = p := by simpa using hi
      rw [List.getElem?_append_left (by have := (List.getElem?_eq_some_iff.1 hj).1; omega), Nat.zero_mul, Nat.zero_add]
      exact hj
    | succ i =>
      rw [List.getElem?_append_right (by rw [hx]; omega), hx, show (i + 1) * 37 + j - 37 = i * 37 + j by omega]
      exact ih (fun d hd => hk d (.tail _ hd)) (by simpa using hi)
theorem kpsL_len {ks : List Kp} (hk : ∀ p ∈ ks, p.1.2.key.length = 32) : (kpsL ks).length = 37 * ks.length := by
  unfold kpsL
  induction ks with
  | nil => rfl
  | cons x ks ih => rw [List.flatMap_cons, List.length_append, kpL_len x (hk x (.head _)), ih (fun d hd => hk d (.tail _ hd)), List.length_cons]; omega
theorem kpsL_app (a b : List Kp) : kpsL (a ++ b) = kpsL a ++ kpsL b := by unfold kpsL; rw [List.flatMap_append]
theorem kpsL_snoc (ks : List Kp) (k : Kp) : kpsL ks ++ (kpA k).toList = kpsL (ks ++ [k]) := by rw [kpsL_app]; unfold kpsL kpA; simp
theorem kpL_ones {k : Kp} (h : ∃ a n c, k.2 = .slice a n c) : ∀ u ∈ kpL k, u.oneCell' = true := by
  obtain ⟨a, n, c, h⟩ := h
  obtain ⟨⟨p, e⟩, v⟩ := k
  dsimp only at h
  subst h
  have he := entA_one e a n c
  unfold entA at he
  rw [List.toList_toArray, List.all_eq_true] at he
  intro u hu
  unfold kpL at hu
  rcases List.mem_cons.1 hu with rfl | hu
  · rfl
  rcases List.mem_cons.1 hu with rfl | hu
  · rfl
  rcases List.mem_cons.1 hu with rfl | hu
  · rfl
  exact he u hu
theorem kpA_ones {k : Kp} (h : ∃ a n c, k.2 = .slice a n c) : (kpA k).toList.all (·.oneCell') = true := by
  unfold kpA
  rw [List.toList_toArray, List.all_eq_true]
  exact kpL_ones h
theorem kpL_ent (k : Kp) {j : Nat} {y : Value} (h : (entL k.1.2 k.2)[j]? = some y) : (kpL k)[3 + j]? = some y := by
  unfold kpL
  rw [show 3 + j = j + 1 + 1 + 1 by omega, List.getElem?_cons_succ, List.getElem?_cons_succ, List.getElem?_cons_succ]
  exact h
set_option maxRecDepth 20000 in
theorem run_buildKp (p : Seg.Plc) (e : Frm.Ent) (hk : e.key.length = 32) (da : Option Addr) (dn dc : Nat) (w : World) :
    (Instr.build 75 #[(0, plcA p), (1, .agg (entA e (.slice da dn dc)))]).run Tryd.prog w = .ok (.agg (kpA ((p, e), .slice da dn dc))) w := by
  have hz : (kpA zeroK).size = 37 := kpA_size _ rfl
  have he : (entA e (.slice da dn dc)).size = 34 := entA_size _ _ hk
  have h := run_build (P := Tryd.prog) [(0, plcA p), (1, .agg (entA e (.slice da dn dc)))] plKp zKp (by
    intro p' hp
    simp only [List.mem_cons, List.not_mem_nil, or_false] at hp
    have hzz : (Value.agg (kpA zeroK)).cells.size = 37 := hz
    rw [hzz]
    rcases hp with rfl | rfl
    · exact ⟨0, rfl, by show 0 + 3 ≤ 37; omega⟩
    · refine ⟨3, ?_, ?_⟩
      · show some (3, 34) = some (3, (entA e (.slice da dn dc)).size); rw [he]
      · show 3 + (entA e (.slice da dn dc)).size ≤ 37; omega) w
  refine h.trans ?_
  congr 2
  apply putsAt_eq
  show (putsAt (putsAt (kpA zeroK) 0 [.int .i64 p.seg, .int .i64 p.at_, .int .i64 p.size]) 3 (entA e (.slice da dn dc)).toList).toList = _
  have hel : (entA e (.slice da dn dc)).toList.length = 34 := by rw [Array.length_toList, he]
  have hcl : (kpA zeroK).toList.length = 37 := by rw [Array.length_toList]; exact hz
  have e1 : (putsAt (kpA zeroK) 0 [.int .i64 p.seg, .int .i64 p.at_, .int .i64 p.size]).toList = [.int .i64 p.seg, .int .i64 p.at_, .int .i64 p.size] ++ (kpA zeroK).toList.drop 3 := by
    rw [putsAt_list _ _ _ (by rw [hz]; show 0 + 3 ≤ 37; omega)]; rfl
  rw [putsAt_list _ _ _ (by rw [putsAt_size, hel, hz]; omega), e1, hel]
  have e2 : ([.int .i64 p.seg, .int .i64 p.at_, .int .i64 p.size] ++ (kpA zeroK).toList.drop 3 : List Value).drop (3 + 34) = [] := List.drop_of_length_le (by rw [List.length_append, List.length_drop, hcl]; show 3 + (37 - 3) ≤ 3 + 34; omega)
  rw [e2, List.append_nil]
  rfl
section
variable {w0 w : World} {L L' R F : List HProp} {b : Nat} {ops : Array Oper} {rest : List Oper} {a : Act} {Q : Exit → Act → World → Prop}
variable {dst : Option Tmp} {t T ty : TypeId} {pos : String} {after : Array Edge} {x y z s : Operand} {cs : Array Value} {v v1 v2 lv : Value} {i1 i2 : Nat} {P : Program}
theorem yl_build2 (h1 : a.eval x = v1) (h2 : a.eval y = v2) (hr : ∀ w, (Instr.build ty #[(i1, v1), (i2, v2)]).run P w = .ok v w) : Yields P ops ⟨dst, .build ty #[(i1, x), (i2, y)], t, pos, after, none⟩ v a :=
  .inl ⟨want_none _ rfl, fun w => by
    unfold execOp
    simp only [List.map_toArray, List.map_cons, List.map_nil, h1, h2, Sem.run_bind, hr, Result.andThen_ok, Sem.run_pure]⟩
/-- 'append(s, y...)', y read wherever it lies. -/
theorem wl_appR (e : TypeId) (sz by' : Nat) {xs ys : List Value} (hb : appB P ty e sz by' = true) (hs : Sat w0 w L) (hv : a.eval s = v) (hy : a.eval y = v1) (p : Pick (osl e sz v xs) L R) (hrd : rdsl sz v1 ys w) (h1 : ∀ u ∈ ys, u.oneCell' = true)
    (h63 : xs.length + ys.length ≤ 2147483648) (hby : by' ≤ 65000)
    (hK : ∀ v' w', Sat w0 w' (osl e sz v' (xs ++ ys) :: R) → wpList P ops Q rest (a.put dst v') w') :
    wpList P ops Q (⟨dst, .call { callee := .builtin .append, args := #[s, y], argTypes := #[ty, ty] }, t, pos, after, none⟩ :: rest) a w := by
  obtain ⟨hu, i, z, hi, hz, e1, e2, e3, e4⟩ := appB_spec hb
  subst e2
  refine wpList_append (w0 := w0) rfl s y ty rfl e i z hu hi hz e1 e3 e4 hv hy h1 (hs.pick p) hrd (by unfold maxLen; omega) ?_ fun v' w' hS _ => hK v' w' hS
  calc (xs.length + ys.length) * i.bytes ≤ 2147483648 * 65000 := Nat.mul_le_mul h63 hby
    _ ≤ 140737488355328 := by decide
theorem kps_sl {ks : List Kp} (hk : ∀ p ∈ ks, p.1.2.key.length = 32) (h : rdsl 37 v (kpsL ks) w) : ∃ a c, v = .slice a ks.length c := by
  obtain ⟨a, n, c, rfl, hl, hx⟩ := h
  rw [kpsL_len hk] at hl
  obtain rfl : n = ks.length := by omega
  exact ⟨a, c, rfl⟩
theorem kps_cells {ks : List Kp} {i : Nat} {p : Kp} (hk : ∀ p ∈ ks, p.1.2.key.length = 32) (hi : ks[i]? = some p) (h : rdsl 37 v (kpsL ks) w) :
    ∃ bk off c, v = .slice (some ⟨bk, off, none⟩) ks.length c ∧ ∀ j y, (kpL p)[j]? = some y → w.cell? ⟨bk, off + i * 37 + j, none⟩ = some y := by
  obtain ⟨a, n, c, rfl, hl, hx⟩ := id h
  rw [kpsL_len hk] at hl
  obtain rfl : n = ks.length := by omega
  have hx0 : (kpsL ks)[i * 37 + 0]? = some (.int .i64 p.1.1.seg) := kpsL_at hk hi rfl
  obtain ⟨bk, off, rfl, hcell⟩ := rdsl_cells h hx0
  refine ⟨bk, off, c, rfl, fun j y hj => ?_⟩
  have := hcell _ _ (kpsL_at hk hi hj)
  rw [← Nat.add_assoc] at this
  exact this
/-- Those that do not stand in a segment. -/
def kout (n : Int) (ks : List Kp) : List Kp := ks.filter fun k => k.1.1.seg != n
set_option maxRecDepth 20000 in
set_option maxHeartbeats 8000000 in
theorem without_c (ks : List Kp) (n : Int) (hk : ∀ p ∈ ks, p.1.2.key.length = 32 ∧ ∃ a n c, p.2 = .slice a n c) (hl : ks.length ≤ 1048576) (hr : Ro w0 F (rdsl 37 lv (kpsL ks))) (h : Sat w0 w F) :
    Calls Tryd.prog 32 #[lv, .int .i64 n] w (Rtn fun v w' => ∃ ov, v = ov ∧ Sat w0 w' (osl 75 37 ov (kpsL (kout n ks)) :: F)) := by
  obtain ⟨la, lc, rfl⟩ := kps_sl (fun p hp => (hk p hp).1) (hr w h)
  have Hr := Lib.hid hr; have Hk := Lib.hid hk; have Hl := Lib.hid hl
  clear hr hk hl
  go_enter Tryd.func32, Tryd.ntmps32
  go_wp2_with fail
  go_loopg [5, 6] ks.length (fun g ov iq wr => ∃ i : Nat, g = ks.length - i ∧ i ≤ ks.length ∧ iq = .int .i64 i ∧ Sat w0 wr (osl 75 37 ov (kpsL (kout n (ks.take i))) :: F))
  case atStart => exact ⟨0, rfl, Nat.zero_le _, rfl, Sat.osl_nil.2 h⟩
  case round =>
    obtain ⟨i, rfl, hi, rfl, hS⟩ := hrel
    clear h
    by_cases hlt : i < ks.length
    · have Hlt := Lib.hid hlt
      have hl := Hl.out
      have c1 : (i : Int) < (ks.length : Int) := by omega
      have hwi : IntKind.i64.wrap ((i : Int) + 1) = (i : Int) + 1 := IntWalk.i64_in _ (by omega)
      obtain ⟨k, hki⟩ : ∃ k, ks[i]? = some k := ⟨_, List.getElem?_eq_getElem hlt⟩
      obtain ⟨bk, off, c, hee, hcells⟩ := kps_cells (fun p hp => (Hk.out p hp).1) hki (Hr.out _ hS.drop)
      cases hee
      have hkk := Hk.out k (List.mem_of_getElem? hki)
      have e0 : wr.cell? ⟨bk, off + i * 37, none⟩ = some (.int .i64 k.1.1.seg) := hcells 0 _ rfl
      have Hcells := Lib.hid hcells
      have Hkk := Lib.hid hkk
      have Hnext := Lib.hid (show kout n (ks.take (i + 1)) = kout n (ks.take i) ++ (if (k.1.1.seg != n) = true then [k] else []) by
        rw [List.take_add_one, hki]
        unfold kout
        rw [List.filter_append]
        congr 1
        simp only [Option.toList_some, List.filter_cons, List.filter_nil])
      have hlen : (kpsL (kout n (ks.take i))).length ≤ 2147483648 := by
        rw [kpsL_len (ks := kout n (ks.take i)) (fun p hp => (Hk.out p (List.mem_of_mem_take (List.mem_filter.1 hp).1)).1)]
        have h1 : (kout n (ks.take i)).length ≤ (ks.take i).length := List.length_filter_le _ _
        rw [List.length_take] at h1
        omega
      clear hlt hki hcells hkk hl
      cases hne : (k.1.1.seg != n) with
      | true =>
        rw [hne, if_pos rfl] at Hnext
        generalize k.1.1.seg = sg at *
        go_wp2_with (first
          | ((with_reducible apply at_load); refine ⟨?_⟩; refine wl_loadW (b := bk) (o := off + i * 37) (kpL k) (by rfl) Hcells.out Tryd.underlying75 rfl (by rw [kpL_len k Hkk.out.1]; exact infoKp) ?_)
          | ((with_reducible apply at_build1); refine ⟨?_⟩; refine wl_build1 (e := 75) (sz := 37) (by' := 88) (by kernel_rfl) hS (by rfl) (cs := kpA k) rfl (kpA_size _ Hkk.out.1) (Nat.le_of_ble_eq_true (by rfl)) ?_; intro bN wN hN)
          | ((with_reducible apply at_append); refine ⟨?_⟩; refine wl_app 75 37 88 (by kernel_rfl) hN (by rfl) (by rfl) (by first | ((repeat (first | with_reducible apply pick0 | with_reducible apply pick_there)); done) | ((repeat (first | apply pick0 | apply pick_there)); done) | fail) (by first | ((repeat (first | with_reducible apply pick0 | with_reducible apply pick_there)); done) | ((repeat (first | apply pick0 | apply pick_there)); done) | fail) ((kpA_size _ Hkk.out.1).trans (by decide)) (Nat.le_refl 1) (kpA_ones Hkk.out.2) hlen (by rw [kpA_size _ Hkk.out.1]; decide) (by decide) rfl ?_; intro bA nA cA wA hA))
        rw [kpsL_snoc, ← Hnext.out] at hA
        go_roundg (ks.length - (i + 1))
        case measure => have := Hlt.out; omega
        case rel => exact ⟨i + 1, rfl, Nat.succ_le_of_lt Hlt.out, by first | rfl | go_num, hA⟩
      | false =>
        rw [hne, if_neg (by decide), List.append_nil] at Hnext
        generalize k.1.1.seg = sg at *
        go_wp2_with fail
        go_roundg (ks.length - (i + 1))
        case measure => have := Hlt.out; omega
        case rel => exact ⟨i + 1, rfl, Nat.succ_le_of_lt Hlt.out, by first | rfl | go_num, by rw [Hnext.out]; exact hS⟩
    · obtain rfl : i = ks.length := by omega
      have c1 : ¬ (ks.length : Int) < (ks.length : Int) := by omega
      rw [List.take_length] at hS
      clear hlt
      go_wp2
      go_ret
      exact ⟨_, rfl, hS⟩
end
end Go.Proofs.YtjklhichekmdhaaDoor
/- hoardlaw14.SegsKept. -/
namespace Go.Seg
open Go.Med
theorem slice_ok {p : Plc} {x : Frm.Ent} {b : Bs} (h : Slice p x b) (hg : Frm.GoodE x) (hb : b.length ≤ 16777216) : (-9223372036854775808 ≤ p.at_ ∧ p.at_ ≤ 9223372036854775807) ∧ (-9223372036854775808 ≤ p.size ∧ p.size ≤ 9223372036854775807) := by
  obtain ⟨a, h1, h2, h3⟩ := h
  have h4 := h3.length_le
  rw [List.length_drop] at h4
  have := Frm.encs_pos hg
  omega
end Go.Seg
namespace Go.Proofs.YtjklhichekmdhaaDoor
open Go Go.Sl Go.Med Go.MapKept Go.RowKit
set_option linter.unusedVariables false
/-- What holds of an entry that was put. -/
structure KpOk (w0 : World) (F : List HProp) (k : Kp) : Prop where
  key : k.1.2.key.length = 32
  sl : ∃ a n c, k.2 = .slice a n c
  rd : Ro w0 F (rdsl 1 k.2 (bys k.1.2.data))
  few : k.1.2.data.length ≤ 300
section
variable {w0 w : World} {F R : List HProp} {v bv dv x lv : Value}
/-- The state of the law. -/
structure KSt (w0 : World) (F : List HProp) (i : Nat) (L : Seg.Log) (M : Med) (ks ko : List Kp) : Prop where
  st : Seg.St (i * 2000000) L M (ks.map (·.1)) (ko.map (·.1))
  hks : ∀ k ∈ ks, KpOk w0 F k
  hko : ∀ k ∈ ko, KpOk w0 F k
  len : ks.length + ko.length ≤ i
theorem KSt.skip {i : Nat} {L : Seg.Log} {M : Med} {ks ko : List Kp} (h : KSt w0 F i L M ks ko) : KSt w0 F (i + 1) L M ks ko := ⟨h.st.mono (by omega), h.hks, h.hko, Nat.le_succ_of_le h.len⟩
theorem KSt.append {i : Nat} {L : Seg.Log} {M : Med} {ks ko : List Kp} (h : KSt w0 F i L M ks ko) (x : Frm.Ent) (hk : x.key.length = 32) (hd : x.data.length ≤ 300) (v : Value) (hs : ∃ a n c, v = .slice a n c) (hr : Ro w0 F (rdsl 1 v (bys x.data))) :
    ((L.append M x).2.2 = 0 → KSt w0 F (i + 1) (L.append M x).1.1 (L.append M x).1.2 ks (ko ++ [(((L.append M x).2.1, x), v)])) ∧ ((L.append M x).2.2 ≠ 0 → KSt w0 F (i + 1) (L.append M x).1.1 (L.append M x).1.2 ks ko) := by
  have h1 := (h.st.append x hk).1
  refine ⟨fun he => ?_, fun he => ?_⟩
  · rw [if_pos he] at h1
    refine ⟨?_, h.hks, ?_, by have := h.len; simp only [List.length_append, List.length_singleton]; omega⟩
    · rw [List.map_append]; exact h1.mono (by omega)
    · intro k hk'
      rcases List.mem_append.1 hk' with hk' | hk'
      · exact h.hko k hk'
      · rw [List.mem_singleton.1 hk']; exact ⟨hk, hs, hr, hd⟩
  · rw [if_neg he] at h1
    exact ⟨h1.mono (by omega), h.hks, h.hko, Nat.le_succ_of_le h.len⟩
theorem KSt.commit {i : Nat} {L : Seg.Log} {M : Med} {ks ko : List Kp} (h : KSt w0 F i L M ks ko) :
    ((L.commit M).2.2 = 0 → KSt w0 F (i + 1) (L.commit M).1.1 (L.commit M).1.2 (ks ++ ko) []) ∧ ((L.commit M).2.2 ≠ 0 → KSt w0 F (i + 1) (L.commit M).1.1 (L.commit M).1.2 ks ko) := by
  have h1 := h.st.commit
  refine ⟨fun he => ?_, fun he => ?_⟩
  · rw [if_pos he, if_pos he] at h1
    refine ⟨?_, ?_, (fun k hk => by cases hk), by have := h.len; simp only [List.length_append, List.length_nil]; omega⟩
    · rw [List.map_append]; exact h1.mono (by omega)
    · intro k hk
      rcases List.mem_append.1 hk with hk | hk
      · exact h.hks k hk
      · exact h.hko k hk
  · rw [if_neg he, if_neg he] at h1
    exact ⟨h1.mono (by omega), h.hks, h.hko, Nat.le_succ_of_le h.len⟩
theorem KSt.rollback {i : Nat} {L : Seg.Log} {M : Med} {ks ko : List Kp} (h : KSt w0 F i L M ks ko) :
    ((L.rollback M).2 = 0 → KSt w0 F (i + 1) (L.rollback M).1.1 (L.rollback M).1.2 ks []) ∧ ((L.rollback M).2 ≠ 0 → KSt w0 F (i + 1) (L.rollback M).1.1 (L.rollback M).1.2 ks ko) := by
  have h1 := h.st.rollback
  refine ⟨fun he => ?_, fun he => ?_⟩
  · rw [if_pos he] at h1
    exact ⟨h1.mono (by omega), h.hks, (fun k hk => by cases hk), by have := h.len; simp only [List.length_nil]; omega⟩
  · rw [if_neg he] at h1
    exact ⟨h1.mono (by omega), h.hks, h.hko, Nat.le_succ_of_le h.len⟩
theorem KSt.remove {i : Nat} {L : Seg.Log} {M : Med} {ks ko : List Kp} (h : KSt w0 F i L M ks ko) (n : Int) : KSt w0 F (i + 1) (L.remove M n).1.1 (L.remove M n).1.2 (kout n ks) (kout n ko) := by
  have hf : ∀ l : List Kp, ∀ q ∈ (kout n l).map (·.1), q ∈ l.map (·.1) ∧ q.1.seg ≠ n := fun l q hq => by
    obtain ⟨k, hk, rfl⟩ := List.mem_map.1 hq
    obtain ⟨h1, h2⟩ := List.mem_filter.1 hk
    exact ⟨List.mem_map.2 ⟨k, h1, rfl⟩, by simpa using h2⟩
  have h0 := h.st.sub (fun q hq => (hf ks q hq).1) (fun q hq => (hf ko q hq).1)
  have h1 := h0.remove n (fun q hq => (hf ks q hq).2) (fun q hq => (hf ko q hq).2)
  have l1 : (kout n ks).length ≤ ks.length := List.length_filter_le _ _
  have l2 : (kout n ko).length ≤ ko.length := List.length_filter_le _ _
  exact ⟨h1.mono (by omega), fun k hk => h.hks k (List.mem_filter.1 hk).1, fun k hk => h.hko k (List.mem_filter.1 hk).1, by have := h.len; omega⟩
theorem KSt.arm {i : Nat} {L : Seg.Log} {M : Med} {ks ko : List Kp} (h : KSt w0 F i L M ks ko) (n : Int) (hn : n ≤ 9223372036854775807) : KSt w0 F (i + 1) L (M.arm n).1 ks ko :=
  ⟨(h.st.arm n hn).mono (by omega), h.hks, h.hko, Nat.le_succ_of_le h.len⟩
theorem KSt.crash {i : Nat} {L : Seg.Log} {M : Med} {ks ko : List Kp} (h : KSt w0 F i L M ks ko) (l : List Int) (lim : Int) (h1 : 128 ≤ lim) (h2 : lim ≤ 1048576) :
    KSt w0 F (i + 1) (Seg.fresh (M.crash l) lim) (M.crash l) ks [] ∧ Seg.alive (M.crash l) = 0 ∧ ∀ k ∈ ks, (Seg.fresh (M.crash l) lim).read (M.crash l) k.1.1 = (k.1.2, 0) ∧ (-9223372036854775808 ≤ k.1.1.at_ ∧ k.1.1.at_ ≤ 9223372036854775807) ∧ (-9223372036854775808 ≤ k.1.1.size ∧ k.1.1.size ≤ 9223372036854775807) := by
  obtain ⟨q1, q2, q3⟩ := h.st.crash l lim h1 h2
  refine ⟨⟨q1.mono (by omega), h.hks, (fun k hk => by cases hk), by have := h.len; simp only [List.length_nil]; omega⟩, q3, fun k hk => ⟨q2 k.1 (List.mem_map.2 ⟨k, hk, rfl⟩), ?_⟩⟩
  have hs := h.st.sure k.1 (List.mem_map.2 ⟨k, hk, rfl⟩)
  obtain ⟨j, _, _, j3⟩ := hs.file
  exact Seg.slice_ok j3 hs.good (by have := (h.st.ok.file j).size 0 (Nat.zero_le _); exact this)
theorem ks_keys {ks : List Kp} (h : ∀ k ∈ ks, KpOk w0 F k) : ∀ k ∈ ks, k.1.2.key.length = 32 := fun k hk => (h k hk).key
set_option maxRecDepth 20000 in
set_option maxHeartbeats 64000000 in
theorem segs_kept_c (limit : Int) (ds : List SD) (hr : Ro w0 F (rdsl 40 lv (sdsL ds))) (hds : ∀ d ∈ ds, SDRo w0 F d) (hin : ∀ d ∈ ds, inI d.c.n ∧ ∀ i ∈ d.c.l, inI i) (hH : Ro w0 F Half) (h : Sat w0 w F) :
    Calls Tryd.prog 5 #[.int .i64 limit, lv] w (Rtn fun v w' => v = .bool true ∧ Sat w0 w' F) := by
  have HH := Lib.hid hH; have Hr := Lib.hid hr; have Hds := Lib.hid hds; have Hin := Lib.hid hin
  clear hH hr hds hin
  go_enter Tryd.func5, Tryd.ntmps5
  go_wp2_with fail
  refine (fewD_c ds 40 (by decide) Hr.out Hds.out h).mono ?_
  rintro ee w1 ⟨v, rfl, es, ov, rfl, hes, hls, hS1⟩
  have Hel := Lib.hid (few_len hes)
  have Hek := Lib.hid (few_key hes (fun d hd => (Hds.out d hd).key))
  have Hei := Lib.hid (show ∀ d ∈ es, inI d.c.n ∧ ∀ i ∈ d.c.l, inI i from fun d hd => by
    have h1 : d.c ∈ es.map (·.c) := List.mem_map.2 ⟨d, hd, rfl⟩
    rw [hes] at h1
    unfold Seg.fewC at h1
    obtain ⟨x, hx, e⟩ := List.mem_map.1 h1
    obtain ⟨y, hy, rfl⟩ := List.mem_map.1 (List.mem_of_mem_take hx)
    rw [← e]
    exact ⟨(Hin.out y hy).1, fun i hi => (Hin.out y hy).2 i (List.mem_of_mem_take hi)⟩)
  have Hls := Lib.hid hls
  obtain ⟨oa, oc, rfl⟩ := sds_len (fun d hd => (Hek.out d hd).1) hS1
  clear h hes hls
  go_wp2_with fail
  refine (within_c limit 128 2000 _).mono ?_
  rintro ee w4 ⟨v, rfl, rfl, rfl⟩
  have hlim := within_mem limit 128 2000 (by decide)
  generalize within limit 128 2000 = lim at *
  go_wp2_with fail
  refine (new_yes 1048576 (by decide) hS1).mono ?_
  rintro ee w5 ⟨v, rfl, m, rfl, hS5⟩
  have hop := open_c (K := 0) (Med.Ok.new 0 1048576 (by decide)) lim hS5 (by rfl) (by omega) (by omega)
  have hfr : Seg.fresh (Med.new 1048576) lim = ⟨lim, [], false, 0⟩ := rfl
  rw [hfr] at hop
  go_wp2_with fail
  refine hop.mono ?_
  rintro ee w6 ⟨v, rfl, p, rfl, hS6⟩
  clear hop hfr hS5 hS1
  have HK0 := Lib.hid (show KSt w0 (dataD es :: F) 0 ⟨lim, [], false, 0⟩ (Med.new 1048576) [] [] from ⟨Seg.St.first lim hlim.1 (by omega), (fun k hk => by cases hk), (fun k hk => by cases hk), Nat.le_refl _⟩)
  have Hlim := Lib.hid hlim
  clear hlim
  go_wp2_with fail
  have hS7 : Sat w0 w6 (osl 75 37 (.slice none 0 0) (kpsL []) :: osl 75 37 (.slice none 0 0) (kpsL []) :: LogRep p m ⟨lim, [], false, 0⟩ :: MedRep m (Med.new 1048576) :: osl 43 40 (.slice oa es.length oc) (sdsL es) :: dataD es :: F) := Sat.osl_nil.2 (Sat.osl_nil.2 (hS6.sub (by repeat (first | (with_reducible apply sub_refl) | ((with_reducible apply sub_take); (· first | ((repeat (first | with_reducible apply pick0 | with_reducible apply pick_there)); done) | ((repeat (first | apply pick0 | apply pick_there)); done) | fail)) | (with_reducible apply sub_drop)))))
  clear hS6
  go_loopg [6, 7, 9, 10, 11] es.length (fun g v6 v7 sv pv iq wr => ∃ (i p : Nat) (L : Seg.Log) (M : Med) (ks ko : List Kp), g = es.length - i ∧ i ≤ es.length ∧ iq = .int .i64 i ∧ v6 = errno 0 ∧ v7 = ptr p ∧ KSt w0 (dataD es :: F) i L M ks ko ∧
    Sat w0 wr (osl 75 37 sv (kpsL ks) :: osl 75 37 pv (kpsL ko) :: LogRep p m L :: MedRep m M :: osl 43 40 (.slice oa es.length oc) (sdsL es) :: dataD es :: F))
  case atStart => exact ⟨0, p, _, _, [], [], rfl, Nat.zero_le _, rfl, rfl, rfl, HK0.out, hS7⟩
  case round =>
    obtain ⟨i, p, L, M, ks, ko, rfl, hi, rfl, rfl, rfl, hK, hS⟩ := hrel
    clear hS7 HK0
    have HK := Lib.hid hK
    have hel := Hel.out
    clear hK
    by_cases hlt : i < es.length
    · have c1 : (i : Int) < (es.length : Int) := by omega
      have hwi : IntKind.i64.wrap ((i : Int) + 1) = (i : Int) + 1 := IntWalk.i64_in _ (by omega)
      obtain ⟨d, hdi⟩ : ∃ d, es[i]? = some d := ⟨_, List.getElem?_eq_getElem hlt⟩
      have Hlt := Lib.hid hlt
      have Hro := Lib.hid (fun R => dataD_ro (w0 := w0) (R := R) hdi)
      obtain ⟨bk, off, c, hov, hcells⟩ := sds_at (fun d hd => (Hek.out d hd).1) hdi (hS.pick (by first | ((repeat (first | with_reducible apply pick0 | with_reducible apply pick_there)); done) | ((repeat (first | apply pick0 | apply pick_there)); done) | fail))
      cases hov
      have hdk := Hek.out d (List.mem_of_getElem? hdi)
      have Hdi := Lib.hid (Hei.out d (List.mem_of_getElem? hdi))
      have Hdl := Lib.hid (Hls.out d (List.mem_of_getElem? hdi))
      obtain ⟨⟨kind, xe, xn, ⟨xp1, xp2, xp3⟩, xl⟩, xdv, xlv⟩ := d
      obtain ⟨xda, xdn, xdc, rfl, hxl, _⟩ := (Hro.out _) _ (hS.pick (by first | ((repeat (first | with_reducible apply pick0 | with_reducible apply pick_there)); done) | ((repeat (first | apply pick0 | apply pick_there)); done) | fail))
      rw [bys_len, Nat.mul_one] at hxl
      dsimp only at hxl
      subst hxl
      have e0 : wr.cell? ⟨bk, off + i * 40, none⟩ = some (.int .i64 kind) := hcells 0 _ rfl
      have en : wr.cell? ⟨bk, off + i * 40 + 35, none⟩ = some (.int .i64 xn) := hcells 35 _ (sdL_tail _ hdk.1 0)
      have el : wr.cell? ⟨bk, off + i * 40 + 39, none⟩ = some xlv := hcells 39 _ (sdL_tail _ hdk.1 4)
      have HC := Lib.hid (show ∀ w' R, Sat w0 w' (osl 43 40 (.slice (some ⟨bk, off, none⟩) es.length oc) (sdsL es) :: R) → ∀ j v, (entL xe (.slice xda xe.data.length xdc))[j]? = some v → w'.cell? ⟨bk, off + i * 40 + 1 + j, none⟩ = some v from fun w' R hw j v hj => by
        obtain ⟨bk', off', c', hov', hcells'⟩ := sds_at (fun d hd => (Hek.out d hd).1) hdi hw
        cases hov'
        have := hcells' (1 + j) v (sdL_ent ⟨⟨kind, xe, xn, ⟨xp1, xp2, xp3⟩, xl⟩, .slice xda xe.data.length xdc, xlv⟩ hdk.1 hj)
        rw [← Nat.add_assoc] at this; exact this)
      have Hxk := Lib.hid (show xe.key.length = 32 from hdk.1)
      have Hxd := Lib.hid (show xe.data.length ≤ 300 from hdk.2)
      have hll := HK.out.len
      have hks : (kpsL ks).length ≤ 65536 := by rw [kpsL_len (ks_keys HK.out.hks)]; omega
      have hko : (kpsL ko).length ≤ 65536 := by rw [kpsL_len (ks_keys HK.out.hko)]; omega
      have hkb : i * 2000000 + 2000000 ≤ 1099511627776 := by omega
      have Hkb := Lib.hid hkb; have Hks := Lib.hid hks; have Hko := Lib.hid hko
      clear hcells hdk hdi hlt hll hks hko hkb
      by_cases k0 : kind = 0
      · subst k0
        have hap := lappend_c (w0 := w0) xe Hxk.out xda xdc (Ro.of_pick (Hro.out _) (by first | ((repeat (first | with_reducible apply pick0 | with_reducible apply pick_there)); done) | ((repeat (first | apply pick0 | apply pick_there)); done) | fail)) (Ro.of_sub HH.out (by repeat (first | (with_reducible apply sub_refl) | ((with_reducible apply sub_take); (· first | ((repeat (first | with_reducible apply pick0 | with_reducible apply pick_there)); done) | ((repeat (first | apply pick0 | apply pick_there)); done) | fail)) | (with_reducible apply sub_drop)))) (Nat.le_trans Hxd.out (by decide)) HK.out.st.log HK.out.st.ok (Nat.le_trans (Nat.add_le_add_left (show 4 ≤ 2000000 by decide) _) Hkb.out) (hS.sub (by repeat (first | (with_reducible apply sub_refl) | ((with_reducible apply sub_take); (· first | ((repeat (first | with_reducible apply pick0 | with_reducible apply pick_there)); done) | ((repeat (first | apply pick0 | apply pick_there)); done) | fail)) | (with_reducible apply sub_drop))) : Sat w0 wr (LogRep p m L :: MedRep m M :: osl 75 37 u9 (kpsL ks) :: osl 75 37 u10 (kpsL ko) :: osl 43 40 (.slice (some ⟨bk, off, none⟩) es.length oc) (sdsL es) :: dataD es :: F))
        have hS0 : Sat w0 wr (osl 43 40 (.slice (some ⟨bk, off, none⟩) es.length oc) (sdsL es) :: dataD es :: F) := hS.sub (by repeat (first | (with_reducible apply sub_refl) | ((with_reducible apply sub_take); (· first | ((repeat (first | with_reducible apply pick0 | with_reducible apply pick_there)); done) | ((repeat (first | apply pick0 | apply pick_there)); done) | fail)) | (with_reducible apply sub_drop)))
        obtain ⟨q1, q2⟩ := HK.out.append xe Hxk.out Hxd.out (.slice xda xe.data.length xdc) ⟨_, _, _, rfl⟩ (Hro.out F)
        have Hq1 := Lib.hid q1; have Hq2 := Lib.hid q2
        have hkol := Hko.out
        clear q1 q2 hS HK
        generalize L.append M xe = r at *
        obtain ⟨⟨L2, M2⟩, ⟨ps, pat, psz⟩, e2⟩ := r
        change Hid (e2 = 0 → KSt w0 (dataD es :: F) (i + 1) L2 M2 ks (ko ++ [((⟨ps, pat, psz⟩, xe), .slice xda xe.data.length xdc)])) at Hq1
        change Hid (e2 ≠ 0 → KSt w0 (dataD es :: F) (i + 1) L2 M2 ks ko) at Hq2
        dsimp only at hap
        go_wp2_with ((with_reducible apply at_load); refine ⟨?_⟩; refine wl_loadW (b := bk) (o := off + i * 40 + 1) (entL xe (.slice xda xe.data.length xdc)) (by rfl) (HC.out _ _ hS0) Tryd.underlying27 rfl (by rw [entL_len xe _ Hxk.out]; exact infoEntSize) ?_)
        refine hap.mono ?_
        rintro ee w7 ⟨v, rfl, rfl, hS7⟩
        clear hap hS0
        by_cases he : e2 = 0
        · subst he
          have HK2 := Lib.hid (Hq1.out rfl)
          clear Hq1 Hq2
          go_wp2_with (first
            | ((with_reducible apply at_alloc); refine ⟨?_⟩; refine wl_alloc zPlace hS7 rfl ?_; intro q w8 hS8)
            | ((with_reducible apply at_store); refine ⟨?_⟩; refine wl_store (by assumption) (by rfl) (by conv => lhs; whnf) (by first | (simp only [putsAt, Value.cells]; (try go_frame); first | done | rfl) | rfl) (by first | ((repeat (first | with_reducible apply upd0 | with_reducible apply upd_there)); done) | ((repeat (first | apply upd0 | apply upd_there)); done) | fail) (Nat.le_of_ble_eq_true (by rfl)) (by kernel_rfl) (by rfl) ?_; intro wS hS))
          have hS9 := hS.drew
          clear hS hS7 hS8
          refine wpL_begin [7, 8, 9, 10] (fun w' => w'.rangeAt q 0 [.int .i64 ps, .int .i64 pat, .int .i64 psz] ∧ w'.rangeAt bk (off + i * 40 + 1) (entL xe (.slice xda xe.data.length xdc))) (by kernel_rfl) ?_
          have hG1 := fun (j : Nat) (v : Value) (hj : ([.int .i64 ps, .int .i64 pat, .int .i64 psz] : List Value)[j]? = some v) => hS9.cellP (b := q) (cs := #[.int .i64 ps, .int .i64 pat, .int .i64 psz]) (T := 40) (by first | ((repeat (first | with_reducible apply pick0 | with_reducible apply pick_there)); done) | ((repeat (first | apply pick0 | apply pick_there)); done) | fail) j (by rw [List.getElem?_toArray]; exact hj)
          have hG2 := HC.out _ _ (hS9.pick (by first | ((repeat (first | with_reducible apply pick0 | with_reducible apply pick_there)); done) | ((repeat (first | apply pick0 | apply pick_there)); done) | fail))
          have hG : World.rangeAt _ q 0 [.int .i64 ps, .int .i64 pat, .int .i64 psz] ∧ World.rangeAt _ bk (off + i * 40 + 1) (entL xe (.slice xda xe.data.length xdc)) := And.intro (fun j v hj => (Nat.zero_add j).symm ▸ hG1 j v hj) hG2
          clear hG1 hG2
          refine rg_pure 0 (by conv => lhs; whnf) (by kernel_rfl) (by intro _ _ _ h; exact h) (yl_move (by conv => lhs; whnf)) (by go_frame; first | done | rfl) ?_
          refine rg_take 1 (by conv => lhs; whnf) (by kernel_rfl) (by intro _ _ _ h; exact h) (tk_loadN (b := q) (o := 0) [.int .i64 ps, .int .i64 pat, .int .i64 psz] (by rfl) Tryd.underlying40 rfl (by kernel_rfl) (fun w hw => hw.1)) (by assumption) (by go_frame; first | done | rfl) ?_
          refine rg_pure 2 (by conv => lhs; whnf) (by kernel_rfl) (by intro _ _ _ h; exact h) (yl_move (by conv => lhs; whnf)) (by go_frame; first | done | rfl) ?_
          refine rg_pure 3 (by conv => lhs; whnf) (by kernel_rfl) (by intro _ _ _ h; exact h) (yl_move (by conv => lhs; whnf)) (by go_frame; first | done | rfl) ?_
          refine rg_pure 4 (by conv => lhs; whnf) (by kernel_rfl) (by intro _ _ _ h; exact h) (yl_index (by conv => lhs; whnf) (by conv => lhs; whnf) (by ((intro wq; go_simp); first | done | (with_reducible rfl)))) (by go_frame; first | done | rfl) ?_
          refine rg_pure 5 (by conv => lhs; whnf) (by kernel_rfl) (by intro _ _ _ h; exact h) (yl_field (by conv => lhs; whnf) (by ((intro wq; go_simp); first | done | (with_reducible rfl)))) (by go_frame; first | done | rfl) ?_
          refine rg_take 6 (by conv => lhs; whnf) (by kernel_rfl) (by intro _ _ _ h; exact h) (tk_loadN (b := bk) (o := off + i * 40 + 1) (entL xe (.slice xda xe.data.length xdc)) (by rfl) Tryd.underlying27 rfl (by rw [entL_len xe _ Hxk.out]; exact infoEntSize) (fun w hw => hw.2)) (by assumption) (by go_frame; first | done | rfl) ?_
          clear hG
          refine rg_pure 7 (by conv => lhs; whnf) (by kernel_rfl) (by intro _ _ _ h; exact h) (yl_build2 (v1 := plcA ⟨ps, pat, psz⟩) (v2 := .agg (entA xe (.slice xda xe.data.length xdc))) (by rfl) (by rfl) (fun w => run_buildKp ⟨ps, pat, psz⟩ xe Hxk.out xda xe.data.length xdc w)) (by go_frame; first | done | rfl) ?_
          refine rg_eff 8 (by conv => lhs; whnf) (by kernel_rfl) (fun K hK => ?_)
          refine eff_build1 (e := 75) (sz := 37) (by' := 88) (by kernel_rfl) hS9 (by conv => lhs; whnf) (cs := kpA ((⟨ps, pat, psz⟩, xe), .slice xda xe.data.length xdc)) rfl (kpA_size _ Hxk.out) (Nat.le_of_ble_eq_true (by rfl)) ?_
          intro bN w10 hN
          refine hK _ _ (.inl rfl) ?_
          clear hK K hS9
          refine rg_eff 9 (by conv => lhs; whnf) (by kernel_rfl) (fun K hK => ?_)
          refine eff_app 75 37 88 (by kernel_rfl) hN (by rfl) (by rfl) (pick_there (pick_there (pick_there (pick_there (pick_there (pick0 (A := osl 75 37 u10 (kpsL ko)))))))) (by first | ((repeat (first | with_reducible apply pick0 | with_reducible apply pick_there)); done) | ((repeat (first | apply pick0 | apply pick_there)); done) | fail) ((kpA_size _ Hxk.out).trans (by decide)) (Nat.le_refl 1) (kpA_ones ⟨_, _, _, rfl⟩) (by omega) (by rw [kpA_size _ Hxk.out]; decide) (by decide) rfl ?_
          intro bA nA cA wA hA
          refine hK _ _ (.inl rfl) ?_
          clear hK K hN
          refine rg_pure 10 (by conv => lhs; whnf) (by kernel_rfl) (by intro _ _ _ h; exact h) (yl_assign (by conv => lhs; whnf)) (by go_frame; first | done | rfl) ?_
          refine wpL_done (by kernel_rfl) ?_
          try simp only [List.getElem_toArray, List.getElem_cons_succ, List.getElem_cons_zero]
          try go_frame
          rw [kpsL_snoc] at hA
          go_wp2_with fail
          go_roundg (es.length - (i + 1))
          case measure => have := Hlt.out; omega
          case rel => exact ⟨i + 1, p, L2, M2, ks, _, rfl, Nat.succ_le_of_lt Hlt.out, by first | rfl | go_num, rfl, rfl, HK2.out, hA.sub (by repeat (first | (with_reducible apply sub_refl) | ((with_reducible apply sub_take); (· first | ((repeat (first | with_reducible apply pick0 | with_reducible apply pick_there)); done) | ((repeat (first | apply pick0 | apply pick_there)); done) | fail)) | (with_reducible apply sub_drop)))⟩
        · have hed : (e2 == 0) = false := beq_false_of_ne he
          have HK2 := Lib.hid (Hq2.out he)
          clear Hq1 Hq2 he
          go_wp2_with (first
            | ((with_reducible apply at_alloc); refine ⟨?_⟩; refine wl_alloc zPlace hS7 rfl ?_; intro q w8 hS8)
            | ((with_reducible apply at_store); refine ⟨?_⟩; refine wl_store (by assumption) (by rfl) (by conv => lhs; whnf) (by first | (simp only [putsAt, Value.cells]; (try go_frame); first | done | rfl) | rfl) (by first | ((repeat (first | with_reducible apply upd0 | with_reducible apply upd_there)); done) | ((repeat (first | apply upd0 | apply upd_there)); done) | fail) (Nat.le_of_ble_eq_true (by rfl)) (by kernel_rfl) (by rfl) ?_; intro wS hS))
          go_roundg (es.length - (i + 1))
          case measure => have := Hlt.out; omega
          case rel => exact ⟨i + 1, p, L2, M2, ks, ko, rfl, Nat.succ_le_of_lt Hlt.out, by first | rfl | go_num, rfl, rfl, HK2.out, hS.sub (by repeat (first | (with_reducible apply sub_refl) | ((with_reducible apply sub_take); (· first | ((repeat (first | with_reducible apply pick0 | with_reducible apply pick_there)); done) | ((repeat (first | apply pick0 | apply pick_there)); done) | fail)) | (with_reducible apply sub_drop)))⟩
      have k0d : (kind == 0) = false := beq_false_of_ne k0
      by_cases k1 : kind = 1
      · subst k1
        clear k0 k0d
        go_wp2_with fail
        refine (lcommit_c (Ro.of_sub HH.out (by repeat (first | (with_reducible apply sub_refl) | ((with_reducible apply sub_take); (· first | ((repeat (first | with_reducible apply pick0 | with_reducible apply pick_there)); done) | ((repeat (first | apply pick0 | apply pick_there)); done) | fail)) | (with_reducible apply sub_drop)))) HK.out.st.log HK.out.st.ok (Nat.le_trans (Nat.add_le_add_left (show 6 ≤ 2000000 by decide) _) Hkb.out) (hS.sub (by repeat (first | (with_reducible apply sub_refl) | ((with_reducible apply sub_take); (· first | ((repeat (first | with_reducible apply pick0 | with_reducible apply pick_there)); done) | ((repeat (first | apply pick0 | apply pick_there)); done) | fail)) | (with_reducible apply sub_drop))) : Sat w0 wr (LogRep p m L :: MedRep m M :: osl 75 37 u9 (kpsL ks) :: osl 75 37 u10 (kpsL ko) :: osl 43 40 (.slice (some ⟨bk, off, none⟩) es.length oc) (sdsL es) :: dataD es :: F))).mono ?_
        rintro ee w7 ⟨v, rfl, rfl, hS7⟩
        obtain ⟨q1, q2⟩ := HK.out.commit
        have Hq1 := Lib.hid q1; have Hq2 := Lib.hid q2
        have Hkos := Lib.hid (show ∀ u ∈ kpsL ko, u.oneCell' = true from fun u hu => by
          obtain ⟨k, hk, hu⟩ := List.mem_flatMap.1 hu
          exact kpL_ones (HK.out.hko k hk).sl u hu)
        have hkl : (kpsL ks).length + (kpsL ko).length ≤ 2147483648 := by have := Hks.out; have := Hko.out; omega
        clear q1 q2 hS HK
        generalize L.commit M = r at *
        obtain ⟨⟨L2, M2⟩, n2, e2⟩ := r
        change Hid (e2 = 0 → KSt w0 (dataD es :: F) (i + 1) L2 M2 (ks ++ ko) []) at Hq1
        change Hid (e2 ≠ 0 → KSt w0 (dataD es :: F) (i + 1) L2 M2 ks ko) at Hq2
        by_cases he : e2 = 0
        · subst he
          have HK2 := Lib.hid (Hq1.out rfl)
          clear Hq1 Hq2
          go_wp2_with ((with_reducible apply at_append); refine ⟨?_⟩; refine wl_appR 75 37 88 (by kernel_rfl) hS7 (by rfl) (by rfl) (by first | ((repeat (first | with_reducible apply pick0 | with_reducible apply pick_there)); done) | ((repeat (first | apply pick0 | apply pick_there)); done) | fail) (Sat.rd (hS7.pick (pick3 (A := osl 75 37 u10 (kpsL ko))))) Hkos.out hkl (by decide) ?_; intro v8 w8 hS8)
          rw [← kpsL_app] at hS8
          go_roundg (es.length - (i + 1))
          case measure => have := Hlt.out; omega
          case rel => exact ⟨i + 1, p, L2, M2, ks ++ ko, [], rfl, Nat.succ_le_of_lt Hlt.out, by first | rfl | go_num, rfl, rfl, HK2.out, (Sat.osl_nil.2 (hS8.sub (by repeat (first | (with_reducible apply sub_refl) | ((with_reducible apply sub_take); (· first | ((repeat (first | with_reducible apply pick0 | with_reducible apply pick_there)); done) | ((repeat (first | apply pick0 | apply pick_there)); done) | fail)) | (with_reducible apply sub_drop))) : Sat w0 w8 (osl 75 37 v8 (kpsL (ks ++ ko)) :: LogRep p m L2 :: MedRep m M2 :: osl 43 40 (.slice (some ⟨bk, off, none⟩) es.length oc) (sdsL es) :: dataD es :: F))).pick1⟩
        · have hed : (e2 == 0) = false := beq_false_of_ne he
          have HK2 := Lib.hid (Hq2.out he)
          clear Hq1 Hq2 he
          go_wp2_with fail
          go_roundg (es.length - (i + 1))
          case measure => have := Hlt.out; omega
          case rel => exact ⟨i + 1, p, L2, M2, ks, ko, rfl, Nat.succ_le_of_lt Hlt.out, by first | rfl | go_num, rfl, rfl, HK2.out, hS7.sub (by repeat (first | (with_reducible apply sub_refl) | ((with_reducible apply sub_take); (· first | ((repeat (first | with_reducible apply pick0 | with_reducible apply pick_there)); done) | ((repeat (first | apply pick0 | apply pick_there)); done) | fail)) | (with_reducible apply sub_drop)))⟩
      have k1d : (kind == 1) = false := beq_false_of_ne k1
      by_cases k2 : kind = 2
      · subst k2
        clear k0 k0d k1 k1d
        go_wp2_with fail
        refine (lrollback_c HK.out.st.log HK.out.st.ok (Nat.le_trans (Nat.add_le_add_left (show 1048576 ≤ 2000000 by decide) _) Hkb.out) (hS.sub (by repeat (first | (with_reducible apply sub_refl) | ((with_reducible apply sub_take); (· first | ((repeat (first | with_reducible apply pick0 | with_reducible apply pick_there)); done) | ((repeat (first | apply pick0 | apply pick_there)); done) | fail)) | (with_reducible apply sub_drop))) : Sat w0 wr (LogRep p m L :: MedRep m M :: osl 75 37 u9 (kpsL ks) :: osl 75 37 u10 (kpsL ko) :: osl 43 40 (.slice (some ⟨bk, off, none⟩) es.length oc) (sdsL es) :: dataD es :: F))).mono ?_
        rintro ee w7 ⟨v, rfl, rfl, hS7⟩
        obtain ⟨q1, q2⟩ := HK.out.rollback
        have Hq1 := Lib.hid q1; have Hq2 := Lib.hid q2
        clear q1 q2 hS HK
        generalize L.rollback M = r at *
        obtain ⟨⟨L2, M2⟩, e2⟩ := r
        change Hid (e2 = 0 → KSt w0 (dataD es :: F) (i + 1) L2 M2 ks []) at Hq1
        change Hid (e2 ≠ 0 → KSt w0 (dataD es :: F) (i + 1) L2 M2 ks ko) at Hq2
        by_cases he : e2 = 0
        · subst he
          have HK2 := Lib.hid (Hq1.out rfl)
          clear Hq1 Hq2
          go_wp2_with fail
          go_roundg (es.length - (i + 1))
          case measure => have := Hlt.out; omega
          case rel => exact ⟨i + 1, p, L2, M2, ks, [], rfl, Nat.succ_le_of_lt Hlt.out, by first | rfl | go_num, rfl, rfl, HK2.out, (Sat.osl_nil.2 (hS7.sub (by repeat (first | (with_reducible apply sub_refl) | ((with_reducible apply sub_take); (· first | ((repeat (first | with_reducible apply pick0 | with_reducible apply pick_there)); done) | ((repeat (first | apply pick0 | apply pick_there)); done) | fail)) | (with_reducible apply sub_drop))) : Sat w0 w7 (osl 75 37 u9 (kpsL ks) :: LogRep p m L2 :: MedRep m M2 :: osl 43 40 (.slice (some ⟨bk, off, none⟩) es.length oc) (sdsL es) :: dataD es :: F))).pick1⟩
        · have hed : (e2 == 0) = false := beq_false_of_ne he
          have HK2 := Lib.hid (Hq2.out he)
          clear Hq1 Hq2 he
          go_wp2_with fail
          go_roundg (es.length - (i + 1))
          case measure => have := Hlt.out; omega
          case rel => exact ⟨i + 1, p, L2, M2, ks, ko, rfl, Nat.succ_le_of_lt Hlt.out, by first | rfl | go_num, rfl, rfl, HK2.out, hS7.sub (by repeat (first | (with_reducible apply sub_refl) | ((with_reducible apply sub_take); (· first | ((repeat (first | with_reducible apply pick0 | with_reducible apply pick_there)); done) | ((repeat (first | apply pick0 | apply pick_there)); done) | fail)) | (with_reducible apply sub_drop)))⟩
      have k2d : (kind == 2) = false := beq_false_of_ne k2
      by_cases k3 : kind = 3
      · subst k3
        clear k0 k0d k1 k1d k2 k2d
        go_wp2_with fail
        refine (lremove_c HK.out.st.log HK.out.st.ok (Nat.le_trans (Nat.le_add_right _ _) Hkb.out) xn (hS.sub (by repeat (first | (with_reducible apply sub_refl) | ((with_reducible apply sub_take); (· first | ((repeat (first | with_reducible apply pick0 | with_reducible apply pick_there)); done) | ((repeat (first | apply pick0 | apply pick_there)); done) | fail)) | (with_reducible apply sub_drop))) : Sat w0 wr (LogRep p m L :: MedRep m M :: osl 75 37 u9 (kpsL ks) :: osl 75 37 u10 (kpsL ko) :: osl 43 40 (.slice (some ⟨bk, off, none⟩) es.length oc) (sdsL es) :: dataD es :: F))).mono ?_
        rintro ee w7 ⟨v, rfl, rfl, hS7⟩
        have HK2 := Lib.hid (HK.out.remove xn)
        have Hkk := Lib.hid (show (∀ k ∈ ks, k.1.2.key.length = 32 ∧ ∃ a n c, k.2 = .slice a n c) ∧ (∀ k ∈ ko, k.1.2.key.length = 32 ∧ ∃ a n c, k.2 = .slice a n c) ∧ ks.length ≤ 1048576 ∧ ko.length ≤ 1048576 from ⟨fun k hk => ⟨(HK.out.hks k hk).key, (HK.out.hks k hk).sl⟩, fun k hk => ⟨(HK.out.hko k hk).key, (HK.out.hko k hk).sl⟩, by have := HK.out.len; omega, by have := HK.out.len; omega⟩)
        clear hS HK
        generalize L.remove M xn = r at *
        obtain ⟨⟨L2, M2⟩, e2⟩ := r
        change Hid (KSt w0 (dataD es :: F) (i + 1) L2 M2 (kout xn ks) (kout xn ko)) at HK2
        go_wp2_with fail
        refine (without_c ks xn Hkk.out.1 Hkk.out.2.2.1 (fun w hw => Sat.rd (hw.pick (pick2 (A := osl 75 37 u9 (kpsL ks))))) hS7).mono ?_
        rintro ee w8 ⟨v, rfl, v8, rfl, hS8⟩
        clear hS7
        go_wp2_with fail
        refine (without_c ko xn Hkk.out.2.1 Hkk.out.2.2.2 (fun w hw => Sat.rd (hw.pick (pick4 (A := osl 75 37 u10 (kpsL ko))))) hS8).mono ?_
        rintro ee w9 ⟨v, rfl, v9, rfl, hS9⟩
        clear hS8
        go_wp2_with fail
        go_roundg (es.length - (i + 1))
        case measure => have := Hlt.out; omega
        case rel => exact ⟨i + 1, p, L2, M2, _, _, rfl, Nat.succ_le_of_lt Hlt.out, by first | rfl | go_num, rfl, rfl, HK2.out, hS9.sub (by repeat (first | (with_reducible apply sub_refl) | ((with_reducible apply sub_take); (· first | ((repeat (first | with_reducible apply pick0 | with_reducible apply pick_there)); done) | ((repeat (first | apply pick0 | apply pick_there)); done) | fail)) | (with_reducible apply sub_drop)))⟩
      have k3d : (kind == 3) = false := beq_false_of_ne k3
      by_cases k5 : kind = 5
      · subst k5
        clear k0 k0d k1 k1d k2 k2d k3 k3d
        go_wp2_with fail
        refine (arm_c (hS.sub (by repeat (first | (with_reducible apply sub_refl) | ((with_reducible apply sub_take); (· first | ((repeat (first | with_reducible apply pick0 | with_reducible apply pick_there)); done) | ((repeat (first | apply pick0 | apply pick_there)); done) | fail)) | (with_reducible apply sub_drop))) : Sat w0 wr (MedRep m M :: LogRep p m L :: osl 75 37 u9 (kpsL ks) :: osl 75 37 u10 (kpsL ko) :: osl 43 40 (.slice (some ⟨bk, off, none⟩) es.length oc) (sdsL es) :: dataD es :: F)) xn).mono ?_
        rintro ee w7 ⟨v, rfl, rfl, hS7⟩
        have HK2 := Lib.hid (HK.out.arm xn Hdi.out.1.2)
        clear hS HK
        generalize M.arm xn = r at *
        obtain ⟨M2, e2⟩ := r
        change Hid (KSt w0 (dataD es :: F) (i + 1) L M2 ks ko) at HK2
        go_wp2_with fail
        go_roundg (es.length - (i + 1))
        case measure => have := Hlt.out; omega
        case rel => exact ⟨i + 1, p, L, M2, ks, ko, rfl, Nat.succ_le_of_lt Hlt.out, by first | rfl | go_num, rfl, rfl, HK2.out, hS7.sub (by repeat (first | (with_reducible apply sub_refl) | ((with_reducible apply sub_take); (· first | ((repeat (first | with_reducible apply pick0 | with_reducible apply pick_there)); done) | ((repeat (first | apply pick0 | apply pick_there)); done) | fail)) | (with_reducible apply sub_drop)))⟩
      have k5d : (kind == 5) = false := beq_false_of_ne k5
      by_cases k6 : kind = 6
      · subst k6
        clear k0 k0d k1 k1d k2 k2d k3 k3d k5 k5d
        obtain ⟨sa, sc, rfl⟩ := kps_sl (ks_keys HK.out.hks) (Sat.rd (hS.pick (pick0 (A := osl 75 37 u9 (kpsL ks)))))
        have hcr := crash_c (w0 := w0) HK.out.st.ok (Nat.le_trans (Nat.le_add_right _ _) Hkb.out) (hS.sub (by repeat (first | (with_reducible apply sub_refl) | ((with_reducible apply sub_take); (· first | ((repeat (first | with_reducible apply pick0 | with_reducible apply pick_there)); done) | ((repeat (first | apply pick0 | apply pick_there)); done) | fail)) | (with_reducible apply sub_drop))) : Sat w0 wr (MedRep m M :: LogRep p m L :: osl 75 37 (.slice sa ks.length sc) (kpsL ks) :: osl 75 37 u10 (kpsL ko) :: osl 43 40 (.slice (some ⟨bk, off, none⟩) es.length oc) (sdsL es) :: dataD es :: F)) xl (Ro.of_sub Hdl.out.1 (by repeat (first | (with_reducible apply sub_refl) | ((with_reducible apply sub_take); (· first | ((repeat (first | with_reducible apply pick0 | with_reducible apply pick_there)); done) | ((repeat (first | apply pick0 | apply pick_there)); done) | fail)) | (with_reducible apply sub_drop)))) Hdl.out.2 Hdi.out.2
        obtain ⟨q1, q2, q3⟩ := HK.out.crash xl lim Hlim.out.1 (by have := Hlim.out.2; omega)
        have HK2 := Lib.hid q1; have Hrd := Lib.hid q3; have Hal := Lib.hid q2
        have hkl : ks.length ≤ 1048576 := by have := q1.len; omega
        have Hkl := Lib.hid hkl
        clear q1 q2 q3 hS HK hkl
        generalize M.crash xl = M2 at *
        go_wp2_with fail
        refine hcr.mono ?_
        rintro ee w7 ⟨v, rfl, hS7⟩
        clear hcr e0 en el
        have hop := open_c (w0 := w0) HK2.out.st.ok lim hS7 Hal.out Hlim.out.1 (by have := Hlim.out.2; omega)
        clear hS7
        generalize Seg.fresh M2 lim = L2 at *
        go_wp2_with fail
        refine hop.mono ?_
        rintro ee w8 ⟨v, rfl, p2, rfl, hS8⟩
        clear hop
        have hS9 : Sat w0 w8 (LogRep p2 m L2 :: MedRep m M2 :: osl 75 37 (.slice sa ks.length sc) (kpsL ks) :: osl 43 40 (.slice (some ⟨bk, off, none⟩) es.length oc) (sdsL es) :: dataD es :: F) := hS8.sub (sub_take pick0 (sub_take pick0 (sub_drop (sub_take pick0 (sub_drop sub_refl)))))
        clear hS8
        go_wp2_with fail
        go_loopg [17] ks.length (fun g kv wr => ∃ (k : Nat), g = ks.length - k ∧ k ≤ ks.length ∧ kv = .int .i64 k ∧
          Sat w0 wr (LogRep p2 m L2 :: MedRep m M2 :: osl 75 37 (.slice sa ks.length sc) (kpsL ks) :: osl 43 40 (.slice (some ⟨bk, off, none⟩) es.length oc) (sdsL es) :: dataD es :: F))
        case atStart => exact ⟨0, rfl, Nat.zero_le _, rfl, hS9⟩
        case round =>
          obtain ⟨k, rfl, hk, rfl, hS⟩ := hrel
          clear hS9
          by_cases hkl : k < ks.length
          · have hkl2 := Hkl.out
            have c3 : (k : Int) < (ks.length : Int) := by omega
            have hwk : IntKind.i64.wrap ((k : Int) + 1) = (k : Int) + 1 := IntWalk.i64_in _ (by omega)
            obtain ⟨q, hq⟩ : ∃ q, ks[k]? = some q := ⟨_, List.getElem?_eq_getElem hkl⟩
            have Hkl3 := Lib.hid hkl
            have hrdk : ∀ w' R, Sat w0 w' (osl 75 37 (.slice sa ks.length sc) (kpsL ks) :: R) → rdsl 37 (.slice sa ks.length sc) (kpsL ks) w' := fun w' R hw => Sat.rd hw
            obtain ⟨sb, so, sc', hee, hcells⟩ := kps_cells (ks_keys HK2.out.hks) hq (hrdk _ _ (hS.pick (pick2 (A := osl 75 37 (.slice sa ks.length sc) (kpsL ks)))))
            cases hee
            have HKC := Lib.hid (show ∀ w' R, Sat w0 w' (osl 75 37 (.slice (some ⟨sb, so, none⟩) ks.length sc) (kpsL ks) :: R) → ∀ j y, (kpL q)[j]? = some y → w'.cell? ⟨sb, so + k * 37 + j, none⟩ = some y from fun w' R hw j y hj => by
              obtain ⟨_, _, _, hee, h0⟩ := kps_cells (ks_keys HK2.out.hks) hq (hrdk _ _ hw)
              cases hee; exact h0 j y hj)
            have hqk := HK2.out.hks q (List.mem_of_getElem? hq)
            obtain ⟨hr1, hr2, hr3⟩ := Hrd.out q (List.mem_of_getElem? hq)
            obtain ⟨⟨⟨ps, pat, psz⟩, qe⟩, qv⟩ := q
            obtain ⟨hqkey, ⟨qa, qn, qc, hqv⟩, hqrd, hqd⟩ := hqk
            dsimp only at hr1 hr2 hr3 hqkey hqv hqrd hqd
            subst hqv
            have Hqk := Lib.hid hqkey; have Hqr := Lib.hid hqrd; have Hqd := Lib.hid hqd
            have hpc : ∀ j v, ([.int .i64 ps, .int .i64 pat, .int .i64 psz] : List Value)[j]? = some v → wr.cell? ⟨sb, so + k * 37 + j, none⟩ = some v := fun j v hj => hcells j v (by
              rcases j with _ | _ | _ | j
              · exact hj
              · exact hj
              · exact hj
              · simp at hj)
            have hrd := lread_c (w0 := w0) (w := wr) (Ro.of_sub HH.out (by repeat (first | (with_reducible apply sub_refl) | ((with_reducible apply sub_take); (· first | ((repeat (first | with_reducible apply pick0 | with_reducible apply pick_there)); done) | ((repeat (first | apply pick0 | apply pick_there)); done) | fail)) | (with_reducible apply sub_drop)))) HK2.out.st.log HK2.out.st.ok ⟨ps, pat, psz⟩ hr2 hr3 hS
            rw [hr1] at hrd
            dsimp only at hrd
            clear hkl hq hcells hqkey hqrd hqd hr1 hr2 hr3 hkl2 hrdk
            go_wp2_with ((with_reducible apply at_load); refine ⟨?_⟩; refine wl_loadW (b := sb) (o := so + k * 37) [.int .i64 ps, .int .i64 pat, .int .i64 psz] (by rfl) hpc Tryd.underlying40 rfl (by kernel_rfl) ?_)
            refine hrd.mono ?_
            rintro ee w10 ⟨v, rfl, da3, dc3, rfl, hS10⟩
            clear hrd hS hpc
            go_wp2_with (first | ((with_reducible apply at_allocE); refine ⟨?_⟩; refine wl_allocE (by assumption) ?_; intro bE wE hE) | ((with_reducible apply at_storeE); refine ⟨?_⟩; first | (refine wl_storeE (by assumption) (by rfl) (by rfl) (by first | rfl | assumption | exact Hid.out (by assumption)) (by first | ((repeat (first | with_reducible apply upd0 | with_reducible apply upd_there)); done) | ((repeat (first | apply upd0 | apply upd_there)); done) | fail) (by first | assumption | exact entA_size _ _ rfl | exact entA_size _ _ (by assumption) | exact entA_size _ _ (Hid.out (by assumption))) ?_; intro wS hS) | (refine wl_storeE (e := Frm.zeroE) (da := none) (dn := 0) (dc := 0) (by assumption) (by rfl) (by rfl) rfl (by first | ((repeat (first | with_reducible apply upd0 | with_reducible apply upd_there)); done) | ((repeat (first | apply upd0 | apply upd_there)); done) | fail) (by first | assumption | exact entA_size _ _ rfl | exact entA_size _ _ (by assumption) | exact entA_size _ _ (Hid.out (by assumption))) ?_; intro wS hS)))
            have hS11 : Sat w0 _ (pt bE (.cells (entA qe (.slice da3 qe.data.length dc3)) 27 (0,0)) :: bsl (.slice da3 qe.data.length dc3) qe.data :: LogRep p2 m L2 :: MedRep m M2 :: osl 75 37 (.slice (some ⟨sb, so, none⟩) ks.length sc) (kpsL ks) :: osl 43 40 (.slice (some ⟨bk, off, none⟩) es.length oc) (sdsL es) :: dataD es :: F) := hS.sub (by repeat (first | (with_reducible apply sub_refl) | ((with_reducible apply sub_take); (· first | ((repeat (first | with_reducible apply pick0 | with_reducible apply pick_there)); done) | ((repeat (first | apply pick0 | apply pick_there)); done) | fail)) | (with_reducible apply sub_drop)))
            clear hS10 hE hS
            have hS12 := hS11.drew
            clear hS11
            refine wpL_begin [9, 10, 11] (fun w' => w'.rangeAt bE 0 (entL qe (.slice da3 qe.data.length dc3)) ∧ w'.rangeAt sb (so + k * 37 + 3) (entL qe (.slice qa qn qc))) (by kernel_rfl) ?_
            have hG1 := fun (j : Nat) (v : Value) (hj : (entL qe (.slice da3 qe.data.length dc3))[j]? = some v) => hS12.cellP (b := bE) (cs := entA qe (.slice da3 qe.data.length dc3)) (T := 27) pick0 j (show (entA qe (.slice da3 qe.data.length dc3))[j]? = some v by unfold entA; rw [List.getElem?_toArray]; exact hj)
            have hG2 := HKC.out _ _ (hS12.pick (pick4 (A := osl 75 37 (.slice (some ⟨sb, so, none⟩) ks.length sc) (kpsL ks))))
            have hG : World.rangeAt _ bE 0 (entL qe (.slice da3 qe.data.length dc3)) ∧ World.rangeAt _ sb (so + k * 37 + 3) (entL qe (.slice qa qn qc)) := And.intro (fun j v hj => (Nat.zero_add j).symm ▸ hG1 j v hj) (fun j v hj => by
              have := hG2 (3 + j) v (kpL_ent ((⟨ps, pat, psz⟩, qe), .slice qa qn qc) hj)
              rw [← Nat.add_assoc] at this; exact this)
            clear hG1 hG2
            refine rg_pure 0 (by conv => lhs; whnf) (by kernel_rfl) (by intro _ _ _ h; exact h) (yl_move (by conv => lhs; whnf)) (by go_frame; first | done | rfl) ?_
            refine rg_pure 1 (by conv => lhs; whnf) (by kernel_rfl) (by intro _ _ _ h; exact h) (yl_bin (by conv => lhs; whnf) (by conv => lhs; whnf) (by ((intro wq; go_simp); first | done | (with_reducible rfl)))) (by go_frame; first | done | rfl) ?_
            refine rg_pure 2 (by conv => lhs; whnf) (by kernel_rfl) (by intro _ _ _ h; exact h) (yl_move (by conv => lhs; whnf)) (by go_frame; first | done | rfl) ?_
            refine rg_take 3 (by conv => lhs; whnf) (by kernel_rfl) (by intro _ _ _ h; exact h) (tg_loadN (b := bE) (o := 0) (entL qe (.slice da3 qe.data.length dc3)) (by rfl) (by rfl) Tryd.underlying27 rfl (by rw [entL_len qe _ Hqk.out]; exact infoEntSize) (fun w hw => hw.1)) (by assumption) (by go_frame; first | done | rfl) ?_
            refine rg_pure 4 (by conv => lhs; whnf) (by kernel_rfl) (by intro _ _ _ h; exact h) (yg_move (by rfl) (by conv => lhs; whnf)) (by go_frame; first | done | rfl) ?_
            refine rg_pure 5 (by conv => lhs; whnf) (by kernel_rfl) (by intro _ _ _ h; exact h) (yg_move (by rfl) (by conv => lhs; whnf)) (by go_frame; first | done | rfl) ?_
            refine rg_pure 6 (by conv => lhs; whnf) (by kernel_rfl) (by intro _ _ _ h; exact h) (yg_index (by rfl) (by conv => lhs; whnf) (by conv => lhs; whnf) (by ((intro wq; go_simp); first | done | (with_reducible rfl)))) (by go_frame; first | done | rfl) ?_
            refine rg_pure 7 (by conv => lhs; whnf) (by kernel_rfl) (by intro _ _ _ h; exact h) (yg_field (by rfl) (by conv => lhs; whnf) (by ((intro wq; go_simp); first | done | (with_reducible rfl)))) (by go_frame; first | done | rfl) ?_
            refine rg_take 8 (by conv => lhs; whnf) (by kernel_rfl) (by intro _ _ _ h; exact h) (tg_loadN (b := sb) (o := so + k * 37 + 3) (entL qe (.slice qa qn qc)) (by rfl) (by rfl) Tryd.underlying27 rfl (by rw [entL_len qe _ Hqk.out]; exact infoEntSize) (fun w hw => hw.2)) (by assumption) (by go_frame; first | done | rfl) ?_
            clear hG
            refine rg_eff 9 (by conv => lhs; whnf) (by kernel_rfl) (fun K hK => ?_)
            refine eg_call [.agg (entA qe (.slice da3 qe.data.length dc3)), .agg (entA qe (.slice qa qn qc))] (by rfl) (by kernel_rfl) (by rfl) ?_
            refine (sameEntry_c qe Hqk.out da3 qa _ qn dc3 qc (Ro.of_pick (Ro.bsl _ _) (pick_there pick0)) (Ro.of_sub Hqr.out (by repeat (first | (with_reducible apply sub_refl) | ((with_reducible apply sub_take); (· first | ((repeat (first | with_reducible apply pick0 | with_reducible apply pick_there)); done) | ((repeat (first | apply pick0 | apply pick_there)); done) | fail)) | (with_reducible apply sub_drop)))) hS12 (Nat.le_trans Hqd.out (by decide))).mono ?_
            rintro ee w13 ⟨v, rfl, rfl, hS13⟩
            refine hK _ _ (.inl rfl) ?_
            clear hK K hS12
            refine rg_pure 10 (by conv => lhs; whnf) (by kernel_rfl) (by intro _ _ _ h; exact h) (yg_un (by rfl) (by conv => lhs; whnf) (by ((intro wq; go_simp); first | done | (with_reducible rfl)))) (by go_frame; first | done | rfl) ?_
            refine rg_pure 11 (by conv => lhs; whnf) (by kernel_rfl) (by intro _ _ _ h; exact h) (yg_pick (by rfl) (by conv => lhs; whnf) (by conv => lhs; whnf)) (by go_frame; first | done | rfl) ?_
            refine wpL_done (by kernel_rfl) ?_
            try simp only [List.getElem_toArray, List.getElem_cons_succ, List.getElem_cons_zero]
            try go_frame
            go_wp2_with fail
            go_roundg (ks.length - (k + 1))
            case measure => have := Hkl3.out; omega
            case rel => exact ⟨k + 1, rfl, Nat.succ_le_of_lt Hkl3.out, by first | rfl | go_num, hS13.sub (by repeat (first | (with_reducible apply sub_refl) | ((with_reducible apply sub_take); (· first | ((repeat (first | with_reducible apply pick0 | with_reducible apply pick_there)); done) | ((repeat (first | apply pick0 | apply pick_there)); done) | fail)) | (with_reducible apply sub_drop)))⟩
          · obtain rfl : k = ks.length := by omega
            have c3 : ¬ (ks.length : Int) < (ks.length : Int) := by omega
            clear hkl hk
            go_wp2_with fail
            go_roundg (es.length - (i + 1))
            case measure => have := Hlt.out; omega
            case rel => exact ⟨i + 1, p2, L2, M2, ks, [], rfl, Nat.succ_le_of_lt Hlt.out, by first | rfl | go_num, rfl, rfl, HK2.out, (Sat.osl_nil.2 (hS.sub (by repeat (first | (with_reducible apply sub_refl) | ((with_reducible apply sub_take); (· first | ((repeat (first | with_reducible apply pick0 | with_reducible apply pick_there)); done) | ((repeat (first | apply pick0 | apply pick_there)); done) | fail)) | (with_reducible apply sub_drop))) : Sat w0 _ (osl 75 37 (.slice sa ks.length sc) (kpsL ks) :: LogRep p2 m L2 :: MedRep m M2 :: osl 43 40 (.slice (some ⟨bk, off, none⟩) es.length oc) (sdsL es) :: dataD es :: F))).pick1⟩
      have k6d : (kind == 6) = false := beq_false_of_ne k6
      clear k0 k1 k2 k3 k5 k6
      go_wp2_with fail
      go_roundg (es.length - (i + 1))
      case measure => have := Hlt.out; omega
      case rel => exact ⟨i + 1, p, L, M, ks, ko, rfl, Nat.succ_le_of_lt Hlt.out, by first | rfl | go_num, rfl, rfl, HK.out.skip, hS⟩
    · obtain rfl : i = es.length := by omega
      have c1 : ¬ (es.length : Int) < (es.length : Int) := by omega
      clear hlt
      go_wp2_with fail
      refine (lives_c (Ro.of_sub HH.out (by repeat (first | (with_reducible apply sub_refl) | ((with_reducible apply sub_take); (· first | ((repeat (first | with_reducible apply pick0 | with_reducible apply pick_there)); done) | ((repeat (first | apply pick0 | apply pick_there)); done) | fail)) | (with_reducible apply sub_drop)))) hS).mono ?_
      rintro ee w26 ⟨v, rfl, rfl, hS26⟩
      go_wp2
      go_ret
      exact ⟨_, rfl, rfl, hS26.sub (by repeat (first | (with_reducible apply sub_refl) | ((with_reducible apply sub_take); (· first | ((repeat (first | with_reducible apply pick0 | with_reducible apply pick_there)); done) | ((repeat (first | apply pick0 | apply pick_there)); done) | fail)) | (with_reducible apply sub_drop)))⟩
end
end Go.Proofs.YtjklhichekmdhaaDoor
/-
  'SegsKeptCardSaid': whatever the input, the law SegsKept returns true and the input reads as it did; the table of crc is tied to the program's text. No condition.
-/
namespace Go.Proofs.YtjklhichekmdhaaDoor.keptS
open Go.ChangeShapes Go.WideShapes Go.ChangeAt Go.RowKit
open Go.ChangeMaps (open_string shut_string)
open Go Go.Sl Go.Med Go.Proofs.YtjklhichekmdhaaDoor.card
set_option linter.unusedVariables false
theorem walk {W : World} {v1 : Value} (z0 : Int) (w0 : inI z0) (l1 : List SD) (r1 : rdsl 40 v1 (sdsL l1) W) (c1 : capOk v1) (i1 : ∀ d ∈ l1, d.At W) (h : 0 < W.heap.size ∧ Half W) :
    Calls Tryd.prog 5 #[.int .i64 z0, v1] W fun e w' => e = .returned (.bool true) ∧ Below W.heap.size W w' := by
  refine (segs_kept_c (F := [Sl.old W]) z0 l1 (rd_old r1) (fun d hd => (i1 d hd).ro) (fun d hd => ⟨(i1 d hd).n, (i1 d hd).ins⟩) (fun w hw i hi => (hw.below.cell (p := ⟨0, i, none⟩) h.1).trans (h.2 i hi)) (Sat.start W)).mono ?_
  rintro e w' ⟨v, rfl, rfl, hS⟩
  exact ⟨rfl, hS.below⟩
set_option maxRecDepth 100000 in
theorem lifted (os : Os) (started : os.Started) (H : Type) (enc : TypeId × Value → H) :
    ReturnsInHanded {} Tryd.checked os 5 .any (fun w args => (Rows.segsKeptSpec.pre enc Tryd.prog Tryd.f5 [] false w args ∧ laidMetH Tryd.prog [("hoard/crc.half", Rows.laid_hoard_crc_half)] w) ∧ sizedMet enc Tryd.prog Tryd.f5 (OpenSpec.ofChange Rows.segsKeptSpec) false w args)
      (Rows.segsKeptSpec.post enc Tryd.prog Tryd.f5 false true false false) := by
  refine returnsInHanded_of_change_and (C := Tryd.checked) (X := fun w _ => laidMetH Tryd.prog [("hoard/crc.half", Rows.laid_hoard_crc_half)] w) (fun _ _ _ hh h => h.of_heap hh) own started (by kernel_rfl) Tryd.func5
    (ChangeSpec.witness_shaped (enc := enc) (C := Tryd.checked) (os := os) (X := fun w _ => laidMetH Tryd.prog [("hoard/crc.half", Rows.laid_hoard_crc_half)] w) false (World.doorLaid Tryd.prog 400 os) #[.int .i64 0, .slice none 0 0] 8 rfl (World.shaped_of_RefB (by kernel_rfl) (by kernel_rfl)) (by kernel_rfl) (by kernel_rfl) (by kernel_rfl) (door_met os _)) ?_
  intro W base args ds gs before hval0 hW _ _ hL _
  have hval : ∀ (j : Nat) t v, Tryd.f5.params[j]? = some t → args[j]? = some v → Value.okWide Tryd.prog W .any base t v := hval0
  have hW' := hW
  obtain ⟨p, q, hA0, hV, rfl, hfz, hnd⟩ := hW
  have hA : DataW.TrodAll enc Tryd.prog W 0 (fun _ => true) true Tryd.f5.params.toList args.toList ds p := hA0
  rw [Tryd.params5] at hA hval
  obtain ⟨v0, vs0, d0, ds0, p0, q0, hargs, rfl, rfl, h0, r0⟩ := trodAll_cons hA
  obtain ⟨v1, vs1, d1, ds1, p1, q1, rfl, rfl, rfl, h1, r1⟩ := trodAll_cons r0
  obtain ⟨rfl, rfl, rfl⟩ := trodAll_nil r1
  obtain rfl : args = #[v0, v1] := by cases args; simp_all
  obtain ⟨rfl, rfl⟩ := trodVars_none hV
  obtain ⟨z0, rfl⟩ := okWide_int Tryd.underlying3 (hval 0 3 v0 rfl rfl)
  obtain ⟨a1, len1, cap1, rfl⟩ := okWide_slice Tryd.underlying22 (hval 1 22 v1 rfl rfl)
  have k0 := h0
  have k1 := h1
  have lt0 : ∀ x ∈ p0, x.block < W.heap.size := by obtain ⟨m, hm⟩ := k0; exact DataW.trod_lt m _ _ _ hm
  have lt1 : ∀ x ∈ p1, x.block < W.heap.size := by obtain ⟨m, hm⟩ := k1; exact DataW.trod_lt m _ _ _ hm
  have w0 : inI z0 := by
    obtain ⟨fuel, hf⟩ := h0
    obtain ⟨n, hn, _, hw⟩ := DataW.trod_int Tryd.underlying3 hf
    obtain rfl : z0 = n := by simpa [Value.cells] using hn
    exact bounds_i64 hw
  obtain ⟨l1, r1, c1, i1⟩ : ∃ ds : List SD, rdsl 40 (.slice a1 len1 cap1) (sdsL ds) W ∧ capOk (.slice a1 len1 cap1) ∧ ∀ d ∈ ds, d.At W := by
    obtain ⟨fuel, hf⟩ := h1
    exact in_sds hf
  clear hA0 hval0
  refine (walk z0 w0 l1 r1 c1 i1 (of_laid hL)).mono fun e W' ⟨he, bel⟩ => ?_
  subst he
  exact ⟨_, rfl, _, _, _, [], _, [], hW', trodAll_mk1 (shut_bool Tryd.underlying4 _), (trodAll_cons_mk (Below.trod laidOut (by kernel_rfl) (of_decide_eq_true (by kernel_rfl)) k0 bel lt0) (trodAll_cons_mk (Below.trod laidOut (by kernel_rfl) (of_decide_eq_true (by kernel_rfl)) k1 bel lt1) trodAll_mk0)), rfl, bel.frame _, fun h => by cases h⟩
theorem over : Rows.segsKeptRow.holds Tryd.pinned (OpenSpec.ofChange Rows.segsKeptSpec) :=
  OpenClaim.holds_of_wide 5 Tryd.f5 rfl rfl rfl rfl rfl rfl rfl ⟨rfl, rfl, rfl, rfl, rfl⟩ rfl rfl rfl rfl rfl (by kernel_rfl) Tryd.func5 (by kernel_rfl)
    (of_decide_eq_true (by kernel_rfl)) (by unfold Func.isWrapper; first | (rw [if_pos (by decide +kernel)]; kernel_rfl) | (rw [if_neg (by decide +kernel)]; exact ⟨rfl, rfl⟩))
    (fun os started H enc _ => lifted os started H enc)
/-- The statement: the tied card. -/
theorem proved : Rows.SegsKeptCardSaid :=
  Claim7.holds_tied_plain_at .later [] [.data] true (true, "6498177a5efb1324f5ed83f2f949a3e7c8e5c0d93f38d204e081d032c646de08") false
    over (fun _ h => by cases h) (by kernel_rfl) (fun _ h => by cases h) segsKept_row_tie rfl ⟨rfl, rfl⟩ (by kernel_rfl) rfl
    (fun f fn hf hfn => by
      obtain rfl : f = 5 := Option.some.inj ((show Tryd.prog.funcNamed "hoard/hoardlaw14.SegsKept" = some 5 by kernel_rfl).symm.trans hf) |>.symm
      obtain rfl : fn = Tryd.f5 := (Option.some.inj (Tryd.func5.symm.trans hfn)).symm
      exact ⟨by kernel_rfl, fun j t ht => by
        rw [Tryd.params5] at ht
        have h3 : t = 3 ∨ t = 22 := by
          rcases j with _ | _ | j
          · left; simpa using ht.symm
          · right; simpa using ht.symm
          · simp at ht
        rcases h3 with rfl | rfl
        · exact (show Tryd.prog.wantsStandIn 3 = false by kernel_rfl)
        · exact (show Tryd.prog.wantsStandIn 22 = false by kernel_rfl)⟩)
    (by kernel_rfl)
#print axioms proved
end Go.Proofs.YtjklhichekmdhaaDoor.keptS
