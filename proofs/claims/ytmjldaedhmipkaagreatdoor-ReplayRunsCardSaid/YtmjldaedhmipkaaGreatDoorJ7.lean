import Derived.Test.YtmjldaedhmipkaaGreatDoorJ6
import Derived.Laws.StructEq
set_option linter.unusedVariables false
namespace Go.Frm
theorem scanL_count : ∀ (k : Nat) (b : Bs) (at_ : Nat), (scanL k b at_).1.length ≤ k
  | 0, _, _ => Nat.le_refl 0
  | k + 1, b, at_ => by
    unfold scanL
    split
    · exact Nat.zero_le _
    split
    · exact Nat.zero_le _
    · simp only [List.length_cons]
      have := scanL_count k
      exact Nat.succ_le_succ (this _ _)
theorem scan_count (b : Bs) : (scan b).1.length ≤ b.length := by
  unfold scan
  split
  · exact scanL_count _ _ _
  · exact Nat.zero_le _
end Go.Frm
namespace Go.Proofs.YtmjldaedhmipkaaGreatDoor
open Go Go.Sl Go.Med Go.MapKept Go.RowKit
abbrev lbt (L : Seg.Log) (M : Med) : Rep.Told := fun n => L.bytes M n
section
variable {w0 w : World} {F : List HProp} {p m K : Nat} {L : Seg.Log} {M : Med} {sv : Value}
set_option maxRecDepth 20000 in
set_option maxHeartbeats 8000000 in
theorem split_c (hL : L.Ok) (hM : M.Ok K) (hH : Ro w0 F Half) (h : Sat w0 w (osl 3 1 sv (ints L.segs) :: LogRep p m L :: MedRep m M :: F)) :
    Calls Tryz.prog 110 #[ptr p, sv] w (Rtn fun v w' => v = .tuple #[.int .i64 (Rep.split (lbt L M) L.segs L.segs.length).1, errno (Rep.split (lbt L M) L.segs L.segs.length).2] ∧
      Sat w0 w' (osl 3 1 sv (ints L.segs) :: LogRep p m L :: MedRep m M :: F)) := by
  have HL := Lib.hid hL; have HM := Lib.hid hM; have HH := Lib.hid hH
  have Hlen := Lib.hid (show L.segs.length ≤ 1073741824 from by unfold Seg.Log.segs; rw [List.length_map]; have := hL.len; omega)
  obtain ⟨sa, sc, rfl⟩ : ∃ a c, sv = .slice a L.segs.length c := by
    obtain ⟨a, n, c, rfl, hl, _⟩ := Sat.rd h
    refine ⟨a, c, ?_⟩
    rw [show (ints L.segs).length = L.segs.length from List.length_map .., Nat.mul_one] at hl
    rw [hl]
  have w1 : IntKind.i64.wrap ((L.segs.length : Int) - 1) = (L.segs.length : Int) - 1 := IntWalk.i64_in _ (by have := Hlen.out; omega)
  clear hL hM hH
  go_enter Tryz.func110, Tryz.ntmps110
  go_wp2_with fail
  go_loopg [6] L.segs.length (fun g iq wr => ∃ k : Nat, g = 0 + k ∧ k ≤ L.segs.length ∧ iq = .int .i64 ((k : Int) - 1) ∧ Rep.split (lbt L M) L.segs L.segs.length = Rep.split (lbt L M) L.segs k ∧
    Sat w0 wr (osl 3 1 (.slice sa L.segs.length sc) (ints L.segs) :: LogRep p m L :: MedRep m M :: F))
  case atStart => exact ⟨L.segs.length, (Nat.zero_add _).symm, Nat.le_refl _, rfl, rfl, h⟩
  case round =>
    obtain ⟨k, rfl, hk, rfl, he, hS⟩ := hrel
    clear h
    cases k with
    | zero =>
      have c1 : ¬ (((0 : Nat) : Int) - 1) ≥ 0 := by decide
      have He := Lib.hid he
      clear he
      go_wp2_with fail
      go_ret2
      rw [He.out]
      exact ⟨_, rfl, rfl, hS⟩
    | succ k =>
      have e1 : ((k + 1 : Nat) : Int) - 1 = (k : Int) := by omega
      rw [e1]
      have c1 : (k : Int) ≥ 0 := by omega
      have c2 : (k : Int) < (L.segs.length : Int) := by omega
      have w2 : IntKind.i64.wrap ((k : Int) - 1) = (k : Int) - 1 := IntWalk.i64_in _ (by have := Hlen.out; omega)
      have w3 : IntKind.i64.wrap ((k : Int) + 1) = ((k + 1 : Nat) : Int) := by rw [IntWalk.i64_in _ (by have := Hlen.out; omega)]; omega
      obtain ⟨s, hs⟩ : ∃ s, L.segs[k]? = some s := ⟨_, List.getElem?_eq_getElem (by omega)⟩
      have hgd : L.segs.getD k 0 = s := by rw [List.getD, hs]; rfl
      have Hu := Lib.hid (show Rep.split (lbt L M) L.segs (k + 1) = if (L.bytes M s).2 ≠ 0 then (0, (L.bytes M s).2) else if (Frm.scan (L.bytes M s).1).2.2 = 0 ∧ Rep.endedF (Frm.scan (L.bytes M s).1).1 = true then (k + 1, 0) else Rep.split (lbt L M) L.segs k by
        rw [Rep.split, hgd])
      obtain ⟨bk, off, cc, hsv, hcell⟩ := osl_row (f := fun i : Int => [Value.int .i64 i]) (k := 1) (l := L.segs) (fun u _ => rfl) (by have := Sat.rd hS; rw [show ints L.segs = L.segs.flatMap fun i => [Value.int .i64 i] from by unfold ints; exact List.map_eq_flatMap] at this; exact this) hs (by decide)
      cases hsv
      have f0 := hcell 0 _ rfl
      rw [Nat.mul_one, Nat.add_zero] at f0
      have He := Lib.hid he
      have hb := lbytes_c HL.out HM.out s (hS.sb : Sat w0 wr (LogRep p m L :: MedRep m M :: osl 3 1 (.slice (some ⟨bk, off, none⟩) L.segs.length sc) (ints L.segs) :: F))
      have hk' := Lib.hid hk
      clear hcell hs hgd he hS hk
      go_wp2_with fail
      refine hb.mono ?_
      rintro ee w3 ⟨v, rfl, bv, rfl, hS3⟩
      clear hb
      obtain ⟨hcap, ca, cc, rfl⟩ := bsl_capL hS3
      by_cases h0 : (L.bytes M s).2 = 0
      rotate_left
      · have hb : ((L.bytes M s).2 != 0) = true := by rw [bne_iff_ne]; exact h0
        have Hf := Lib.hid (show Rep.split (lbt L M) L.segs (k + 1) = (0, (L.bytes M s).2) by rw [Hu.out, if_pos h0])
        clear h0
        go_wp2_with fail
        go_ret2
        rw [He.out, Hf.out]
        exact ⟨_, rfl, rfl, hS3.sb⟩
      have hb : ((L.bytes M s).2 != 0) = false := by rw [h0]; rfl
      have H0 := Lib.hid h0
      rw [h0]
      clear h0
      have hbl := Seg.bytes_len (L := L) HM.out s
      have hsc := fscan_c (w0 := w0) (w := w3) (L.bytes M s).1 (Ro.bsl _ _) hcap (Ro.os HH.out) (Nat.le_trans hbl (by decide)) hS3
      have Hbl := Lib.hid hbl
      clear hcap hbl
      go_wp2_with fail
      refine hsc.mono ?_
      rintro ee w4 ⟨v, rfl, fs, fv, hfs, hfk, rfl, hS4⟩
      clear hsc hS3
      obtain ⟨fa, fc, rfl⟩ := fnds_sl hfk hS4
      have hS5 : Sat w0 w4 (osl 3 1 (.slice (some ⟨bk, off, none⟩) L.segs.length sc) (ints L.segs) :: LogRep p m L :: MedRep m M :: F) := hS4.sb
      by_cases h1 : (Frm.scan (L.bytes M s).1).2.2 = 0
      rotate_left
      · have hb1 : ((Frm.scan (L.bytes M s).1).2.2 == 0) = false := by rw [beq_eq_false_iff_ne]; exact h1
        have Hf := Lib.hid (show Rep.split (lbt L M) L.segs (k + 1) = Rep.split (lbt L M) L.segs k by rw [Hu.out, if_neg (fun h => h H0.out), if_neg (fun h => h1 h.1)])
        clear h1 hS4 hfs hfk
        go_wp2_with fail
        go_roundg (0 + k)
        case measure => omega
        case rel => exact ⟨k, rfl, Nat.le_of_succ_le hk'.out, by first | rfl | go_num, He.out.trans Hf.out, hS5⟩
      have hb1 : ((Frm.scan (L.bytes M s).1).2.2 == 0) = true := beq_iff_eq.2 h1
      have hen := ended_c (w := w4) fs hfk (by
        have := Frm.scan_count (L.bytes M s).1
        rw [← hfs, List.length_map] at this
        have := Hbl.out; omega) (Sat.rd hS4)
      rw [hfs] at hen
      clear hS4 hfs hfk
      by_cases h2 : Rep.endedF (Frm.scan (L.bytes M s).1).1 = true
      · have Hf := Lib.hid (show Rep.split (lbt L M) L.segs (k + 1) = (k + 1, 0) by rw [Hu.out, if_neg (fun h => h H0.out), if_pos ⟨h1, h2⟩])
        rw [h2] at hen
        clear h1 h2
        go_wp2_with fail
        refine hen.mono ?_
        rintro ee w5 ⟨v, rfl, rfl, rfl⟩
        clear hen
        go_wp2_with fail
        go_ret2
        rw [He.out, Hf.out]
        exact ⟨_, rfl, rfl, hS5⟩
      · have Hf := Lib.hid (show Rep.split (lbt L M) L.segs (k + 1) = Rep.split (lbt L M) L.segs k by rw [Hu.out, if_neg (fun h => h H0.out), if_neg (fun h => h2 h.2)])
        rw [Bool.not_eq_true] at h2
        rw [h2] at hen
        clear h1 h2
        go_wp2_with fail
        refine hen.mono ?_
        rintro ee w5 ⟨v, rfl, rfl, rfl⟩
        clear hen
        go_wp2_with fail
        go_roundg (0 + k)
        case measure => omega
        case rel => exact ⟨k, rfl, Nat.le_of_succ_le hk'.out, by first | rfl | go_num, He.out.trans Hf.out, hS5⟩
end
end Go.Proofs.YtmjldaedhmipkaaGreatDoor
namespace Go.Rep
def lastOf (bt : Told) (ns : List Int) : Int × Int :=
  if (split bt ns ns.length).2 ≠ 0 then (0, (split bt ns ns.length).2) else if (split bt ns ns.length).1 = 0 then (-1, 0) else (ns.getD ((split bt ns ns.length).1 - 1) 0, 0)
end Go.Rep
namespace Go.Proofs.YtmjldaedhmipkaaGreatDoor
open Go Go.Sl Go.Med Go.MapKept Go.RowKit
section
variable {w0 w : World} {F : List HProp} {p m K : Nat} {L : Seg.Log} {M : Med} {sv : Value}
theorem ints_cell {sv : Value} {l : List Int} {i : Nat} {s : Int} (h : rdsl 1 sv (ints l) w) (hs : l[i]? = some s) : ∃ bk off c, sv = .slice (some ⟨bk, off, none⟩) l.length c ∧ w.cell? ⟨bk, off + i, none⟩ = some (.int .i64 s) := by
  obtain ⟨bk, off, cc, hsv, hcell⟩ := osl_row (f := fun i : Int => [Value.int .i64 i]) (k := 1) (l := l) (fun u _ => rfl) (by rw [show ints l = l.flatMap fun i => [Value.int .i64 i] from by unfold ints; exact List.map_eq_flatMap] at h; exact h) hs (by decide)
  have f0 := hcell 0 _ rfl
  rw [Nat.mul_one, Nat.add_zero] at f0
  exact ⟨bk, off, cc, hsv, f0⟩
set_option maxRecDepth 20000 in
set_option maxHeartbeats 8000000 in
theorem last_c (hL : L.Ok) (hM : M.Ok K) (hH : Ro w0 F Half) (h : Sat w0 w (LogRep p m L :: MedRep m M :: F)) :
    Calls Tryz.prog 39 #[ptr p] w (Rtn fun v w' => v = .tuple #[.int .i64 (Rep.lastOf (lbt L M) L.segs).1, errno (Rep.lastOf (lbt L M) L.segs).2] ∧ Sat w0 w' (LogRep p m L :: MedRep m M :: F)) := by
  have Hlen := Lib.hid (show L.segs.length ≤ 1073741824 from by unfold Seg.Log.segs; rw [List.length_map]; have := hL.len; omega)
  have hse := lsegs_c hL h
  have HL := Lib.hid hL; have HM := Lib.hid hM; have HH := Lib.hid hH
  clear hL hM hH h
  go_enter Tryz.func39, Tryz.ntmps39
  go_wp2_with fail
  refine hse.mono ?_
  rintro ee w1 ⟨v, rfl, hS⟩
  clear hse
  have hsp := split_c HL.out HM.out HH.out hS
  go_wp2_with fail
  refine hsp.mono ?_
  rintro ee w2 ⟨v', rfl, rfl, hS2⟩
  clear hsp hS
  have Hle := Lib.hid (Rep.split_le (lbt L M) L.segs L.segs.length)
  have HS := Lib.hid (hS2.sb : Sat w0 w2 (LogRep p m L :: MedRep m M :: F))
  have hrd := Sat.rd hS2
  clear hS2
  by_cases h0 : (Rep.split (lbt L M) L.segs L.segs.length).2 = 0
  · have hb : ((Rep.split (lbt L M) L.segs L.segs.length).2 != 0) = false := by rw [h0]; rfl
    by_cases h1 : (Rep.split (lbt L M) L.segs L.segs.length).1 = 0
    · have Hf := Lib.hid (show Rep.lastOf (lbt L M) L.segs = (-1, 0) by unfold Rep.lastOf; rw [if_neg (fun h => h h0), if_pos h1])
      have hb1 : (((Rep.split (lbt L M) L.segs L.segs.length).1 : Int) == 0) = true := by rw [h1]; rfl
      clear hrd h0 h1
      go_wp2_with fail
      go_ret2
      rw [Hf.out]
      exact ⟨_, rfl, rfl, HS.out⟩
    · have Hf := Lib.hid (show Rep.lastOf (lbt L M) L.segs = (L.segs.getD ((Rep.split (lbt L M) L.segs L.segs.length).1 - 1) 0, 0) by unfold Rep.lastOf; rw [if_neg (fun h => h h0), if_neg h1])
      have hle := Hle.out
      generalize (Rep.split (lbt L M) L.segs L.segs.length).1 = n at *
      have hb1 : ((n : Int) == 0) = false := by rw [beq_eq_false_iff_ne]; omega
      have w1 : IntKind.i64.wrap ((n : Int) - 1) = ((n - 1 : Nat) : Int) := by rw [IntWalk.i64_in _ (by have := Hlen.out; omega)]; omega
      have hlt : n - 1 < L.segs.length := by omega
      have hs : L.segs[n - 1]? = some (L.segs.getD (n - 1) 0) := by rw [List.getD, List.getElem?_eq_getElem hlt]; rfl
      generalize L.segs.getD (n - 1) 0 = s at *
      generalize n - 1 = j at *
      obtain ⟨bk, off, c, rfl, f0⟩ := ints_cell hrd hs
      have c1 : (0 : Int) ≤ (j : Int) := by omega
      have c2 : (j : Int) < (L.segs.length : Int) := by omega
      clear hrd h0 h1 hs hlt hle
      go_wp2_with fail
      go_ret2
      rw [Hf.out]
      exact ⟨_, rfl, rfl, HS.out⟩
  · have hb : ((Rep.split (lbt L M) L.segs L.segs.length).2 != 0) = true := by rw [bne_iff_ne]; exact h0
    have Hf := Lib.hid (show Rep.lastOf (lbt L M) L.segs = (0, (Rep.split (lbt L M) L.segs L.segs.length).2) by unfold Rep.lastOf; rw [if_pos h0])
    clear hrd h0
    go_wp2_with fail
    go_ret2
    rw [Hf.out]
    exact ⟨_, rfl, rfl, HS.out⟩
end
section
variable {P : Program} {w0 w : World} {ops : Array Oper} {rest : List Oper} {a : Act} {Q : Exit → Act → World → Prop} {dst : Option Tmp} {t ty : TypeId} {pos : String} {after : Array Edge} {x y : Operand} {v v1 v2 : Value} {i1 i2 : Nat}
theorem wl_build2 (h1 : a.eval x = v1) (h2 : a.eval y = v2) (hr : ∀ w, (Instr.build ty #[(i1, v1), (i2, v2)]).run P w = .ok v w) (h : wpList P ops Q rest (a.put dst v) w) :
    wpList P ops Q (⟨dst, .build ty #[(i1, x), (i2, y)], t, pos, after, none⟩ :: rest) a w :=
  wpList_plain rfl fun _ hK => by
    unfold Oper.wp execOp
    simp only [List.map_toArray, List.map_cons, List.map_nil, h1, h2, Sem.run_bind, hr, Result.andThen_ok, Sem.run_pure]
    exact hK _ _ h
theorem wl_build0 (hr : ∀ w, (Instr.build ty #[]).run P w = .ok v w) (h : wpList P ops Q rest (a.put dst v) w) : wpList P ops Q (⟨dst, .build ty #[], t, pos, after, none⟩ :: rest) a w :=
  wpList_plain rfl fun _ hK => by
    unfold Oper.wp execOp
    simp only [List.map_toArray, List.map_nil, Sem.run_bind, hr, Result.andThen_ok, Sem.run_pure]
    exact hK _ _ h
theorem res_cell {L R : List HProp} {b : Nat} {T : TypeId} {cs : Array Value} {fn : Func} {p : Tmp} {tmps : Array Value} {d : TypeDesc} (hf : fn.results = #[.cell p ty]) (hs : Sat w0 w L) (hp : tmps.getD p undef = .pointer (some ⟨b, 0, none⟩)) (k : Pick (pt b (.cells cs T (0,0))) L R)
    (hu : P.underlying ty = some d) (hd : d.isRow = true) (hi : (P.info? ty).map (·.size) = some cs.size) : (results fn tmps).run P w = .ok (.agg cs) w := by
  have hl := run_loadVar_row (P := P) w b T ty cs (0, 0) d (hs.pick k).at hu (by cases d <;> simp_all [TypeDesc.isRow]) hi
  have e : (results fn tmps).run P w = ((asAddr (tmps.getD p undef)).run P w).andThen fun a w₁ => (loadVar ty a).run P w₁ := by
    simp only [results, hf]
    simp [Sem.run_bind, Result.andThen]
  rw [e, hp]
  simp [asAddr, hl, Result.andThen]
theorem res_tct {L R : List HProp} {b : Nat} {T : TypeId} {cs : Array Value} {fn : Func} {t p u : Tmp} {tmps : Array Value} {d : TypeDesc} (hf : fn.results = #[.tmp t, .cell p ty, .tmp u]) (hs : Sat w0 w L) (hp : tmps.getD p undef = .pointer (some ⟨b, 0, none⟩)) (k : Pick (pt b (.cells cs T (0,0))) L R)
    (hu : P.underlying ty = some d) (hd : d.isRow = true) (hi : (P.info? ty).map (·.size) = some cs.size) : (results fn tmps).run P w = .ok (.tuple #[tmps.getD t undef, .agg cs, tmps.getD u undef]) w := by
  have hl := run_loadVar_row (P := P) w b T ty cs (0, 0) d (hs.pick k).at hu (by cases d <;> simp_all [TypeDesc.isRow]) hi
  have e : (results fn tmps).run P w = ((asAddr (tmps.getD p undef)).run P w).andThen fun a w₁ => ((loadVar ty a).run P w₁).andThen fun v w₂ => .ok (.tuple #[tmps.getD t undef, v, tmps.getD u undef]) w₂ := by
    simp only [results, hf]
    simp [Sem.run_bind, Result.andThen]
  rw [e, hp]
  simp [asAddr, hl, Result.andThen]
theorem at_build2 (h : Stop (wpList P ops Q (⟨dst, .build ty #[(i1, x), (i2, y)], t, pos, after, none⟩ :: rest) a w)) : wpList P ops Q (⟨dst, .build ty #[(i1, x), (i2, y)], t, pos, after, none⟩ :: rest) a w := h.out
theorem at_build0 (h : Stop (wpList P ops Q (⟨dst, .build ty #[], t, pos, after, none⟩ :: rest) a w)) : wpList P ops Q (⟨dst, .build ty #[], t, pos, after, none⟩ :: rest) a w := h.out
end
section
variable {w0 w : World} {F : List HProp}
theorem plFlt : placesB Tryz.prog 75 = some [(0, 1), (1, 1), (2, 1), (3, 32), (35, 1)] := by kernel_rfl
theorem run_flt2 (x y : Int) (w : World) : (Instr.build 75 #[(0, .int .i64 x), (1, .int .i64 y)]).run Tryz.prog w = .ok (.agg (fltA ⟨x, y, 0⟩)) w := by
  have h := run_build (P := Tryz.prog) [(0, .int .i64 x), (1, .int .i64 y)] plFlt zFlt (by
    intro p hp
    have hzz : (Value.agg (fltA Rep.Flt.zero)).cells.size = 36 := by rfl
    rw [hzz]
    rcases List.mem_cons.1 hp with rfl | hp
    · exact ⟨0, rfl, by show 0 + 1 ≤ 36; omega⟩
    · rw [List.mem_singleton.1 hp]
      exact ⟨1, rfl, by show 1 + 1 ≤ 36; omega⟩) w
  exact h
theorem run_flt3 (x y z : Int) (w : World) : (Instr.build 75 #[(0, .int .i64 x), (1, .int .i64 y), (2, .int .i64 z)]).run Tryz.prog w = .ok (.agg (fltA ⟨x, y, z⟩)) w := by
  have h := run_build (P := Tryz.prog) [(0, .int .i64 x), (1, .int .i64 y), (2, .int .i64 z)] plFlt zFlt (by
    intro p hp
    have hzz : (Value.agg (fltA Rep.Flt.zero)).cells.size = 36 := by rfl
    rw [hzz]
    rcases List.mem_cons.1 hp with rfl | hp
    · exact ⟨0, rfl, by show 0 + 1 ≤ 36; omega⟩
    rcases List.mem_cons.1 hp with rfl | hp
    · exact ⟨1, rfl, by show 1 + 1 ≤ 36; omega⟩
    · rw [List.mem_singleton.1 hp]
      exact ⟨2, rfl, by show 2 + 1 ≤ 36; omega⟩) w
  exact h
theorem run_flt0 (w : World) : (Instr.build 75 #[]).run Tryz.prog w = .ok (.agg (fltA Rep.Flt.zero)) w := run_build (P := Tryz.prog) [] plFlt zFlt (by simp) w
set_option maxRecDepth 20000 in
set_option maxHeartbeats 4000000 in
theorem fault_c (s : Int) (at_ : Nat) (h : Sat w0 w F) : Calls Tryz.prog 114 #[.int .i64 s, .int .i64 at_] w (Rtn fun v w' => v = .agg (fltA (Rep.fault s at_)) ∧ Sat w0 w' F) := by
  have hone : ∀ f, (fltA f).size = 36 := fun f => rfl
  by_cases h0 : at_ = 0
  · have hb : ((at_ : Int) == 0) = true := by rw [h0]; rfl
    have e := Lib.hid (show Rep.fault s at_ = ⟨1, s, 0⟩ from if_pos h0)
    clear h0
    go_enter Tryz.func114, Tryz.ntmps114
    go_wp2_with (with_reducible apply at_alloc)
    refine ⟨?_⟩
    refine wl_alloc zFlt h rfl ?_
    intro b4 w4 h4
    go_wp2_with (first
      | ((with_reducible apply at_build2); refine ⟨?_⟩; refine wl_build2 (by rfl) (by rfl) (fun w => run_flt2 1 s w) ?_)
      | ((with_reducible apply at_store); refine ⟨?_⟩; refine wl_storeA (fltA ⟨1, s, 0⟩) h4 (by rfl) (by rfl) (by rfl) upd0 (by kernel_rfl) (by rfl) ?_; intro w9 h9))
    refine ⟨rfl, _, res_cell rfl h9 (by rfl) pkD Tryz.underlying75 rfl (by kernel_rfl), ?_⟩
    exact ⟨_, rfl, by rw [e.out], h9.drop⟩
  · have hb : ((at_ : Int) == 0) = false := by rw [beq_eq_false_iff_ne]; omega
    have e := Lib.hid (show Rep.fault s at_ = ⟨2, s, at_⟩ from if_neg h0)
    clear h0
    go_enter Tryz.func114, Tryz.ntmps114
    go_wp2_with (with_reducible apply at_alloc)
    refine ⟨?_⟩
    refine wl_alloc zFlt h rfl ?_
    intro b4 w4 h4
    go_wp2_with (first
      | ((with_reducible apply at_build3); refine ⟨?_⟩; refine wl_build3 (by rfl) (by rfl) (by rfl) (fun w => run_flt3 2 s at_ w) ?_)
      | ((with_reducible apply at_store); refine ⟨?_⟩; refine wl_storeA (fltA ⟨2, s, at_⟩) h4 (by rfl) (by rfl) (by rfl) upd0 (by kernel_rfl) (by rfl) ?_; intro w9 h9))
    refine ⟨rfl, _, res_cell rfl h9 (by rfl) pkD Tryz.underlying75 rfl (by kernel_rfl), ?_⟩
    exact ⟨_, rfl, by rw [e.out], h9.drop⟩
end
end Go.Proofs.YtmjldaedhmipkaaGreatDoor
namespace Go.Rep
open Go.Frm (Bs)
def runAt (bt : Told) (ns : List Int) (n : Nat) : (Flt × Int) ⊕ Nat := match bad bt (ns.take n) with
  | some x => .inl x
  | none => .inr n
def run (bt : Told) (ns : List Int) : (Flt × Int) ⊕ Nat :=
  if (split bt ns ns.length).2 ≠ 0 then .inl (Flt.zero, (split bt ns ns.length).2) else runAt bt ns (split bt ns ns.length).1
theorem runAt_bad {bt : Told} {ns : List Int} {n : Nat} {x : Flt × Int} (h : bad bt (ns.take n) = some x) : runAt bt ns n = .inl x := by unfold runAt; rw [h]
theorem runAt_none {bt : Told} {ns : List Int} {n : Nat} (h : bad bt (ns.take n) = none) : runAt bt ns n = .inr n := by unfold runAt; rw [h]
def lastOfL (l : List Int) : Int := match l.getLast? with
  | some s => s
  | none => -1
theorem newest_mem : ∀ {l : List Row} {k : Bs} {r : Row}, newest l k = some r → r ∈ l
  | [], _, _, h => by cases h
  | x :: l, k, r, h => by
    unfold newest at h
    split at h
    · rename_i y hy
      cases h
      exact .tail _ (newest_mem hy)
    · split at h
      · cases h; exact .head _
      · cases h
theorem ledger_place {l : List Row} {k : Bs} {a : Abt} (h : ledger l k = some a) : ∃ r ∈ l, a.place = rplc r := by
  unfold ledger at h
  cases hn : newest l k with
  | none => rw [hn] at h; cases h
  | some r => rw [hn] at h; cases h; exact ⟨r, newest_mem hn, rfl⟩
theorem rowsOf_take (bt : Told) (ns : List Int) (n : Nat) : ∀ r ∈ rowsOf bt (ns.take n), r ∈ rowsOf bt ns := fun r hr => by
  unfold rowsOf at hr ⊢
  obtain ⟨s, hs, h⟩ := List.mem_flatMap.1 hr
  exact List.mem_flatMap.2 ⟨s, List.mem_of_mem_take hs, h⟩
theorem rowsOf_le (bt : Told) (ns : List Int) (n : Nat) : (rowsOf bt (ns.take n)).length ≤ (rowsOf bt ns).length := by
  have e : rowsOf bt ns = rowsOf bt (ns.take n) ++ rowsOf bt (ns.drop n) := by
    unfold rowsOf; rw [← List.flatMap_append, List.take_append_drop]
  rw [e, List.length_append]; omega
theorem lastOfL_snoc (l : List Int) (s : Int) : lastOfL (l ++ [s]) = s := by unfold lastOfL; rw [List.getLast?_append]; rfl
end Go.Rep
namespace Go.Proofs.YtmjldaedhmipkaaGreatDoor
open Go Go.Sl Go.Med Go.MapKept Go.RowKit
section
variable {P : Program} {w0 w : World} {L R : List HProp} {b : Nat} {ops : Array Oper} {a : Act} {Q : Exit → Act → World → Prop} {K : Act → World → Prop} {E : Prop} {dst : Option Tmp} {t ty : TypeId} {pos : String} {after : Array Edge} {y : Operand} {v : Value} {cs : Array Value}
theorem eff_box (hs : Sat w0 w L) (hy : a.eval y = v) (hcs : v.cells = cs)
    (hK : ∀ b w', Sat w0 w' (pt b (.cells cs ty (0,0)) :: L) → K (a.put dst (.pointer (some ⟨b, 0, none⟩))) w') :
    if Region.wanted ⟨dst, .box ty y, t, pos, after, none⟩ (yielded ops a.tmps) = true then Oper.wp P ⟨dst, .box ty y, t, pos, after, none⟩ a w K Q else E := by
  subst hcs
  refine eff_of rfl ?_
  have hS := hs.alloc (.cells v.cells ty)
  unfold Oper.wp execOp
  have hrun : (Instr.box ty v).run P w = .ok (.pointer (some ⟨w.heap.size, 0, none⟩)) (w.alloc (.cells v.cells ty)) := by
    simp [Instr.box, newVar, newRow, go_sem]
  simp only [hy, Sem.run_bind, Sem.run_pure, hrun, Result.andThen_ok]
  exact hK _ _ hS
end
section
variable {w0 w : World} {F R : List HProp} {sv : Value}
theorem tail_c {l : List Int} {n : Nat} (hn : n ≤ l.length) (h : Sat w0 w (osl 3 1 sv (ints l) :: R)) :
    ∃ tv, (∀ w, (Instr.sliceAt 45 sv (some (.int .i64 n)) none none).run Tryz.prog w = .ok tv w) ∧ (∃ a' c', tv = .slice a' (l.length - n) c') ∧ ∀ W, rdsl 1 sv (ints l) W → rdsl 1 tv (ints (l.drop n)) W := by
  rcases h.osl_cases with ⟨rfl, he, h'⟩ | ⟨g, k, cap, cs, rfl, hl, hk, hc, hcm, htk, hp⟩
  · obtain rfl : l = [] := by simpa [ints] using he
    obtain rfl : n = 0 := by simpa using hn
    refine ⟨.slice none 0 0, fun w => by go_simp, ⟨none, 0, rfl⟩, fun W hW => by simpa using hW⟩
  · obtain rfl : k = l.length := by simpa [ints] using hl.symm
    by_cases hce : cap = n
    · have hd : l.drop n = [] := List.drop_eq_nil_of_le (by omega)
      have e0 : l.length - n = 0 := by omega
      rw [hd, e0]
      have h1 : n ≤ cap := by omega
      have h2 : l.length = n := by omega
      refine ⟨.slice (some ⟨g, 0, none⟩) 0 0, fun w => ?_, ⟨_, _, rfl⟩, fun W hW => ⟨_, _, _, rfl, rfl, fun j x hj => by cases hj⟩⟩
      have h4 : (0 : Int) ≤ (n : Int) := by omega
      have h5 : (n : Int).toNat = n := by omega
      subst hce
      go_simp
    · refine ⟨.slice (some ⟨g, n, none⟩) (l.length - n) (cap - n), fun w => ?_, ⟨_, _, rfl⟩, fun W hW => ?_⟩
      · have h4 : (0 : Int) ≤ (n : Int) := by omega
        have h5 : (n : Int).toNat = n := by omega
        have h6 : n ≤ cap := by omega
        go_simp
      · obtain ⟨a, n', c, he, hl', hx⟩ := hW
        cases he
        refine ⟨_, _, _, rfl, by unfold ints; rw [List.length_map, List.length_drop, Nat.mul_one], fun j x hj => ⟨_, rfl, ?_⟩⟩
        have hj2 : (ints l)[n + j]? = some x := by
          unfold ints at hj ⊢
          rw [List.map_drop, List.getElem?_drop] at hj
          exact hj
        obtain ⟨ad, e, hc'⟩ := hx (n + j) x hj2
        cases e
        rw [adr_add, Nat.zero_add] at hc'
        rw [adr_add]
        exact hc'
theorem head_c {l : List Int} {n : Nat} (hn : n ≤ l.length) (h : Sat w0 w (osl 3 1 sv (ints l) :: R)) :
    ∃ a' c', (∀ w, (Instr.sliceAt 45 sv none (some (.int .i64 n)) none).run Tryz.prog w = .ok (.slice a' n c') w) ∧ ∀ W, rdsl 1 sv (ints l) W → rdsl 1 (.slice a' n c') (ints (l.take n)) W := by
  rcases h.osl_cases with ⟨rfl, he, h'⟩ | ⟨g, k, cap, cs, rfl, hl, hk, hc, hcm, htk, hp⟩
  · obtain rfl : l = [] := by simpa [ints] using he
    obtain rfl : n = 0 := by simpa using hn
    refine ⟨none, 0, fun w => by go_simp, fun W hW => by simpa using hW⟩
  · obtain rfl : k = l.length := by simpa [ints] using hl.symm
    refine ⟨some ⟨g, 0, none⟩, cap, fun w => ?_, fun W hW => ?_⟩
    · have h4 : (0 : Int) ≤ (n : Int) := by omega
      have h5 : (n : Int).toNat = n := by omega
      have h6 : n ≤ cap := by omega
      go_simp
    · obtain ⟨a, n', c, he, hl', hx⟩ := hW
      cases he
      refine ⟨_, _, _, rfl, by unfold ints; rw [List.length_map, List.length_take, Nat.mul_one]; omega, fun j x hj => ?_⟩
      refine hx j x ?_
      unfold ints at hj ⊢
      rw [List.map_take, List.getElem?_take] at hj
      split at hj
      · exact hj
      · cases hj
theorem TabMA.lists {p B : Nat} {m : Frm.Bs → Option Rep.Abt} (h : Sat w0 w (TabMA p m B :: R)) : ∃ kv, Tab.Lists m kv ∧ (∀ q ∈ kv, q.1.length = 32) ∧ kv.length ≤ B := by
  obtain ⟨t, sv', ⟨ok, is, hb⟩, hS⟩ := TabMA.open h
  have hp := List.mergeSort_perm (t.slots.filter fun x => decide (x.st = 1)) (fun a b : Tab.Slot Rep.Abt => decide (¬ b.key < a.key))
  have hw := List.pairwise_mergeSort (le := fun a b : Tab.Slot Rep.Abt => decide (¬ b.key < a.key)) (fun a b c h1 h2 => by
      rw [decide_eq_true_eq] at h1 h2 ⊢
      intro h3
      rcases Tab.bs_tri a.key b.key with q | q | q
      · exact h2 (List.lt_trans h3 q)
      · exact h2 (q ▸ h3)
      · exact h1 q) (fun a b => by
      rw [Bool.or_eq_true, decide_eq_true_eq, decide_eq_true_eq]
      by_cases q : b.key < a.key
      · exact .inr fun q2 => List.lt_irrefl _ (List.lt_trans q q2)
      · exact .inl q) (t.slots.filter fun x => decide (x.st = 1))
  obtain ⟨h1, h2⟩ := Tab.lists_of ok.good is hp (hw.imp fun {a b} q => by rwa [decide_eq_true_eq] at q)
  refine ⟨_, h1, fun q hq => ?_, ?_⟩
  · obtain ⟨x, hx, rfl⟩ := List.mem_map.1 hq
    exact (h2 x hx).2
  · rw [List.length_map, hp.length_eq, ← List.countP_eq_length_filter]
    have e : t.slots.countP (fun x => decide (x.st = 1)) = Tab.fulls t.slots := by
      unfold Tab.fulls
      refine List.countP_congr fun x _ => ?_
      simp
    have := ok.n; omega
end
def RunOut (w0 : World) (F : List HProp) (bt : Rep.Told) (ns : List Int) (p m : Nat) (L : Seg.Log) (M : Med) (v : Value) (w' : World) : Prop :=
  match Rep.run bt ns with
  | .inl (fl, e) => v = .tuple #[.pointer none, .agg (fltA fl), errno e] ∧ Sat w0 w' (LogRep p m L :: MedRep m M :: F)
  | .inr n => ∃ (ps pi : Nat) (uv tv av : Value) (kv : List (Frm.Bs × Rep.Abt)), v = .tuple #[ptr ps, .agg (fltA Rep.Flt.zero), errno 0] ∧
      (Tab.Lists (Rep.ledger (Rep.rowsOf bt (ns.take n))) kv ∧ (∀ q ∈ kv, q.1.length = 32) ∧ kv.length ≤ (Rep.rowsOf bt (ns.take n)).length) ∧
      ((∃ a' c', tv = .slice a' (ns.length - n) c') ∧ ∀ W, rdsl 1 av (ints ns) W → rdsl 1 tv (ints (ns.drop n)) W) ∧
      Sat w0 w' (stPt ps (Rep.lastOfL (ns.take n)) pi uv tv :: TabML pi (Tab.mapOf (Rep.puts kv)) kv.length :: osl 115 3 uv (((Rep.usesOf bt (ns.take n)).map (Rep.upd kv)).flatMap uenc) :: osl 3 1 av (ints ns) :: LogRep p m L :: MedRep m M :: F)
section
variable {w0 w : World} {F : List HProp} {p m K : Nat} {L : Seg.Log} {M : Med}
theorem zLed : zeroB Tryz.prog 197 = some (.agg #[.pointer none]) := by kernel_rfl
set_option maxRecDepth 20000 in
set_option maxHeartbeats 16000000 in
theorem run_c (hL : L.Ok) (hM : M.Ok K) (hH : Ro w0 F Half) (hrows : (Rep.rowsOf (lbt L M) L.segs).length ≤ 12000000) (hsz : ∀ r ∈ Rep.rowsOf (lbt L M) L.segs, (r.2.size : Int) ≤ 4294967296) (h : Sat w0 w (LogRep p m L :: MedRep m M :: F)) :
    Calls Tryz.prog 37 #[ptr p] w (Rtn fun v w' => RunOut w0 F (lbt L M) L.segs p m L M v w') := by
  have Hlen := Lib.hid (show L.segs.length ≤ 1048576 from by unfold Seg.Log.segs; rw [List.length_map]; have := hL.len; omega)
  have hse := lsegs_c hL h
  have Hnn := Lib.hid (show ∀ s ∈ L.segs, 0 ≤ s from fun s hs => by
    unfold Seg.Log.segs at hs
    obtain ⟨x, hx, rfl⟩ := List.mem_map.1 hs
    exact (hL.nums x hx).1)
  have HL := Lib.hid hL; have HM := Lib.hid hM; have HH := Lib.hid hH; have Hrows := Lib.hid hrows; have Hsz := Lib.hid hsz
  clear hL hM hH hrows hsz
  go_enter Tryz.func37, Tryz.ntmps37
  go_wp2_with (with_reducible apply at_alloc)
  refine ⟨?_⟩
  refine wl_alloc zFlt h rfl ?_
  intro b3 w3 h3
  clear hse h
  go_wp2_with fail
  refine (lsegs_c HL.out (h3.pick pick1)).mono ?_
  rintro ee w4 ⟨sv, rfl, h4⟩
  have hsp := split_c HL.out HM.out (Ro.os HH.out) (h4.sb : Sat w0 w4 (osl 3 1 sv (ints L.segs) :: LogRep p m L :: MedRep m M :: pt b3 (.cells (fltA Rep.Flt.zero) 75 (0,0)) :: F))
  clear h3 h4
  go_wp2_with fail
  refine hsp.mono ?_
  rintro ee w5 ⟨v, rfl, rfl, h5⟩
  clear hsp
  by_cases h0 : (Rep.split (lbt L M) L.segs L.segs.length).2 = 0
  rotate_left
  · have hb : ((Rep.split (lbt L M) L.segs L.segs.length).2 != 0) = true := by rw [bne_iff_ne]; exact h0
    have Hf := Lib.hid (show Rep.run (lbt L M) L.segs = .inl (Rep.Flt.zero, (Rep.split (lbt L M) L.segs L.segs.length).2) by unfold Rep.run; rw [if_pos h0])
    have h6 : Sat w0 w5 (pt b3 (.cells (fltA Rep.Flt.zero) 75 (0,0)) :: LogRep p m L :: MedRep m M :: F) := h5.sb
    clear h0 h5
    go_wp2_with (first
      | ((with_reducible apply at_build0); refine ⟨?_⟩; refine wl_build0 (fun w => run_flt0 w) ?_)
      | ((with_reducible apply at_store); refine ⟨?_⟩; refine wl_storeA (fltA Rep.Flt.zero) h6 (by rfl) (by rfl) (by rfl) upd0 (by kernel_rfl) (by rfl) ?_; intro w9 h9))
    refine ⟨rfl, _, res_tct rfl h9 (by rfl) pkD Tryz.underlying75 rfl (by kernel_rfl), _, rfl, ?_⟩
    unfold RunOut
    rw [Hf.out]
    exact ⟨rfl, h9.drop⟩
  have hb : ((Rep.split (lbt L M) L.segs L.segs.length).2 != 0) = false := by rw [h0]; rfl
  have Hle := Lib.hid (Rep.split_le (lbt L M) L.segs L.segs.length)
  have Hf := Lib.hid (show Rep.run (lbt L M) L.segs = Rep.runAt (lbt L M) L.segs (Rep.split (lbt L M) L.segs L.segs.length).1 by unfold Rep.run; rw [if_neg (fun h => h h0)])
  rw [h0]
  generalize (Rep.split (lbt L M) L.segs L.segs.length).1 = n at *
  clear h0
  obtain ⟨tv, htl, ⟨ta, tc, rfl⟩, htr⟩ := tail_c Hle.out h5
  have Htr := Lib.hid htr
  clear htr
  go_wp2_with fail
  have hG : True := trivial
  have h6 := h5.drew
  clear h5
  refine wpL_begin [] (fun w' => True) (by kernel_rfl) ?_
  refine rp 1 (hy := (yl_move evD)) (h := ?_)
  refine rp 2 (hy := (yl_move evD)) (h := ?_)
  refine rp 3 (hy := (yl_slice_lo evD evD htl)) (h := ?_)
  refine rg_eff 0 evD (by kernel_rfl) (fun K hK => ?_)
  refine eff_call [] (by kernel_rfl) (by simp) ?_
  refine (newL_c h6).mono ?_
  rintro ee w7 ⟨v, rfl, pi, rfl, h7⟩
  refine hK _ _ (.inr (.inl trivial)) ?_
  clear hK h6
  refine rp 4 (hy := (by (refine Or.inl ⟨by rfl, ?_⟩; ((intro wq; go_simp); first | done | (with_reducible rfl))))) (h := ?_)
  refine rg_eff 5 evD (by kernel_rfl) (fun K hK => ?_)
  refine eff_box (cs := #[.int .i64 (-1), ptr pi, .slice none 0 0, .slice ta (L.segs.length - n) tc]) h7 evD evD ?_
  intro ps w8 h8
  refine hK _ _ (.inr (.inl trivial)) ?_
  clear hK h7
  refine rp 6 (hy := (yl_assign evD)) (h := ?_)
  refine wpL_done (by kernel_rfl) ?_
  clear hG
  go_wp2_with fail
  refine (newA_c h8).mono ?_
  rintro ee w9 ⟨v, rfl, pg, rfl, h9⟩
  clear h8
  go_wp2_with (with_reducible apply at_alloc)
  refine ⟨?_⟩
  refine wl_alloc zLed h9 rfl ?_
  intro b9 w10 h10
  clear h9
  obtain ⟨ha, hc, hhl, hhr⟩ := head_c Hle.out (h10.sb : Sat w0 w10 (osl 3 1 sv (ints L.segs) :: F))
  go_wp2_with ((with_reducible apply at_store); refine ⟨?_⟩; refine wl_store (cs' := #[ptr pg]) h10 (by rfl) evD (by rfl) upd0 (Nat.le_of_ble_eq_true (by rfl)) (by kernel_rfl) (by rfl) ?_; intro w11 h11)
  have h12 : Sat w0 w11 (stPt ps (Rep.lastOfL (L.segs.take 0)) pi (.slice none 0 0) (.slice ta (L.segs.length - n) tc) :: osl 115 3 (.slice none 0 0) ((Rep.usesOf (lbt L M) (L.segs.take 0)).flatMap uenc) :: TabML pi (fun _ => none) 0 :: pt b9 (.cells #[ptr pg] 197 (0,0)) ::
    TabMA pg (Rep.ledger (Rep.rowsOf (lbt L M) (L.segs.take 0))) (Rep.rowsOf (lbt L M) (L.segs.take 0)).length :: pt b3 (.cells (fltA Rep.Flt.zero) 75 (0,0)) :: osl 3 1 sv (ints L.segs) :: LogRep p m L :: MedRep m M :: F) := (Sat.osl_nil.2 h11).sb
  clear h10 h11 htl
  go_loopg [45] n (fun g iq wr => ∃ (i : Nat) (uv : Value), g = n - i ∧ i ≤ n ∧ iq = .int .i64 i ∧ Rep.bad (lbt L M) (L.segs.take i) = none ∧ Sat w0 wr (stPt ps (Rep.lastOfL (L.segs.take i)) pi uv (.slice ta (L.segs.length - n) tc) :: osl 115 3 uv ((Rep.usesOf (lbt L M) (L.segs.take i)).flatMap uenc) :: TabML pi (fun _ => none) 0 :: pt b9 (.cells #[ptr pg] 197 (0,0)) ::
    TabMA pg (Rep.ledger (Rep.rowsOf (lbt L M) (L.segs.take i))) (Rep.rowsOf (lbt L M) (L.segs.take i)).length :: pt b3 (.cells (fltA Rep.Flt.zero) 75 (0,0)) :: osl 3 1 sv (ints L.segs) :: LogRep p m L :: MedRep m M :: F))
  case atStart => exact ⟨0, .slice none 0 0, rfl, Nat.zero_le _, rfl, rfl, h12⟩
  case round =>
    obtain ⟨i, uv, rfl, hi, rfl, hbad, hS⟩ := hrel
    clear h12
    have Hbad := Lib.hid hbad
    clear hbad
    by_cases hlt : i < n
    rotate_left
    · obtain rfl : i = n := by omega
      have c1 : ¬ (i : Int) < (i : Int) := by omega
      obtain ⟨kv, k1, k2, k3⟩ := TabMA.lists (hS.pk (A := TabMA pg (Rep.ledger (Rep.rowsOf (lbt L M) (L.segs.take i))) (Rep.rowsOf (lbt L M) (L.segs.take i)).length))
      have k4 := Nat.le_trans (Rep.rowsOf_le (lbt L M) L.segs i) Hrows.out
      have hks : ∀ q ∈ kv, q.1.length = 32 ∧ 0 ≤ q.2.place.size ∧ q.2.place.size ≤ 4294967296 := fun q hq => by
        obtain ⟨r, hr, e⟩ := Rep.ledger_place ((k1.mem q.1 q.2).1 hq)
        rw [e]
        exact ⟨k2 q hq, Int.natCast_nonneg _, Hsz.out r (Rep.rowsOf_take _ _ _ r hr)⟩
      have hfl := fill_c (us := Rep.usesOf (lbt L M) (L.segs.take i)) k1 (by omega) (by omega) hks (by unfold Rep.usesOf; rw [List.length_map, List.length_take]; have := Hlen.out; omega)
        (hS.sb : Sat w0 wr (stPt ps (Rep.lastOfL (L.segs.take i)) pi uv (.slice ta (L.segs.length - i) tc) :: TabML pi (fun _ => none) 0 :: TabMA pg (Rep.ledger (Rep.rowsOf (lbt L M) (L.segs.take i))) (Rep.rowsOf (lbt L M) (L.segs.take i)).length ::
          osl 115 3 uv ((Rep.usesOf (lbt L M) (L.segs.take i)).flatMap uenc) :: pt b3 (.cells (fltA Rep.Flt.zero) 75 (0,0)) :: osl 3 1 sv (ints L.segs) :: LogRep p m L :: MedRep m M :: F))
      have K := Lib.hid (And.intro k1 (And.intro k2 k3))
      have Hg := Lib.hid (Hf.out.trans (Rep.runAt_none Hbad.out))
      have Htv := Lib.hid Htr.out
      clear k1 k2 k3 k4 hks hlt hi
      go_wp2_with ((with_reducible apply at_load); refine ⟨?_⟩; refine wl_loadA (cs := #[ptr pg]) hS (by rfl) (pick_there (pick_there (pick_there pick0))) Tryz.underlying197 rfl (by kernel_rfl) ?_)
      refine hfl.mono ?_
      rintro ee w14 ⟨v, rfl, h14⟩
      clear hfl hS
      go_wp2_with (first
        | ((with_reducible apply at_build0); refine ⟨?_⟩; refine wl_build0 (fun w => run_flt0 w) ?_)
        | ((with_reducible apply at_store); refine ⟨?_⟩; refine wl_storeA (fltA Rep.Flt.zero) h14 (by rfl) (by rfl) (by rfl) (upd_there (upd_there (upd_there (upd_there upd0)))) (by kernel_rfl) (by rfl) ?_; intro w15 h15))
      refine ⟨rfl, _, res_tct rfl h15 (by rfl) (pick_there (pick_there (pick_there (pick_there pick0)))) Tryz.underlying75 rfl (by kernel_rfl), _, rfl, ?_⟩
      unfold RunOut
      rw [Hg.out]
      exact ⟨ps, pi, uv, .slice ta (L.segs.length - i) tc, sv, kv, rfl, K.out, ⟨⟨ta, tc, rfl⟩, Htv.out⟩, h15.sb⟩
    have c1 : (i : Int) < (n : Int) := by omega
    have hwi : IntKind.i64.wrap ((i : Int) + 1) = (i : Int) + 1 := IntWalk.i64_in _ (by have := Hle.out; have := Hlen.out; omega)
    have hni : (L.segs.take n).length = n := by rw [List.length_take]; have := Hle.out; omega
    obtain ⟨s, hs⟩ : ∃ s, (L.segs.take n)[i]? = some s := ⟨_, List.getElem?_eq_getElem (by omega)⟩
    have hs2 : L.segs[i]? = some s := by rw [List.getElem?_take] at hs; rw [if_pos hlt] at hs; exact hs
    have Htk := Lib.hid (show L.segs.take (i + 1) = L.segs.take i ++ [s] by rw [List.take_add_one, hs2, Option.toList_some])
    have Hspl := Lib.hid (show ∃ post, L.segs.take n = L.segs.take i ++ s :: post by
      obtain ⟨h1, e⟩ := List.getElem?_eq_some_iff.1 hs
      refine ⟨(L.segs.take n).drop (i + 1), ?_⟩
      have e2 : L.segs.take i = (L.segs.take n).take i := by rw [List.take_take, Nat.min_eq_left (Nat.le_of_lt hlt)]
      rw [e2, ← e, ← List.drop_eq_getElem_cons h1, List.take_append_drop])
    have Hs0 := Lib.hid (Hnn.out s (List.mem_of_getElem? hs2))
    obtain ⟨bk, off, c', hsv, f0⟩ := ints_cell (hhr _ (Sat.rd (hS.pk (A := osl 3 1 sv (ints L.segs))))) hs
    rw [hni] at hsv
    cases hsv
    have hb := lbytes_c HL.out HM.out s (hS.sb : Sat w0 wr (LogRep p m L :: MedRep m M :: stPt ps (Rep.lastOfL (L.segs.take i)) pi uv (.slice ta (L.segs.length - n) tc) :: osl 115 3 uv ((Rep.usesOf (lbt L M) (L.segs.take i)).flatMap uenc) :: TabML pi (fun _ => none) 0 :: pt b9 (.cells #[ptr pg] 197 (0,0)) ::
      TabMA pg (Rep.ledger (Rep.rowsOf (lbt L M) (L.segs.take i))) (Rep.rowsOf (lbt L M) (L.segs.take i)).length :: pt b3 (.cells (fltA Rep.Flt.zero) 75 (0,0)) :: osl 3 1 sv (ints L.segs) :: F))
    have Hlt := Lib.hid hlt
    clear hS hs hs2 hni hlt hi
    go_wp2_with fail
    refine hb.mono ?_
    rintro ee w20 ⟨v, rfl, bv, rfl, h20⟩
    clear hb f0
    obtain ⟨hcap, ca, cc, rfl⟩ := bsl_capL h20
    by_cases h0 : (L.bytes M s).2 = 0
    rotate_left
    · have hb1 : ((L.bytes M s).2 != 0) = true := by rw [bne_iff_ne]; exact h0
      have Hg := Lib.hid (show Rep.run (lbt L M) L.segs = .inl (Rep.Flt.zero, (L.bytes M s).2) by
        rw [Hf.out]
        obtain ⟨post, e⟩ := Hspl.out
        exact Rep.runAt_bad (by rw [e]; exact Rep.bad_power Hbad.out h0))
      have h21 : Sat w0 w20 (pt b3 (.cells (fltA Rep.Flt.zero) 75 (0,0)) :: LogRep p m L :: MedRep m M :: F) := h20.sb
      clear h20 h0 hcap
      go_wp2_with (first
        | ((with_reducible apply at_build0); refine ⟨?_⟩; refine wl_build0 (fun w => run_flt0 w) ?_)
        | ((with_reducible apply at_store); refine ⟨?_⟩; refine wl_storeA (fltA Rep.Flt.zero) h21 (by rfl) (by rfl) (by rfl) upd0 (by kernel_rfl) (by rfl) ?_; intro w22 h22))
      refine ⟨rfl, _, res_tct rfl h22 (by rfl) pkD Tryz.underlying75 rfl (by kernel_rfl), _, rfl, ?_⟩
      unfold RunOut
      rw [Hg.out]
      exact ⟨rfl, h22.drop⟩
    have hb1 : ((L.bytes M s).2 != 0) = false := by rw [h0]; rfl
    have H0 := Lib.hid h0
    rw [h0]
    clear h0
    have hbl := Seg.bytes_len (L := L) HM.out s
    have hsc := fscan_c (w0 := w0) (w := w20) (L.bytes M s).1 (Ro.bsl _ _) hcap (Ro.os HH.out) (Nat.le_trans hbl (by decide)) h20
    clear hcap
    go_wp2_with fail
    refine hsc.mono ?_
    rintro ee w21 ⟨v, rfl, fs, fv, hfs, hfk, rfl, h21⟩
    clear hsc h20
    obtain ⟨fa, fc, rfl⟩ := fnds_sl hfk h21
    by_cases h1 : (Frm.scan (L.bytes M s).1).2.2 = 0
    rotate_left
    · have hb2 : ((Frm.scan (L.bytes M s).1).2.2 != 0) = true := by rw [bne_iff_ne]; exact h1
      have Hg := Lib.hid (show Rep.run (lbt L M) L.segs = .inl (Rep.fault s (Frm.scan (L.bytes M s).1).2.1, 13) by
        rw [Hf.out]
        obtain ⟨post, e⟩ := Hspl.out
        exact Rep.runAt_bad (by rw [e]; exact Rep.bad_scan Hbad.out H0.out h1))
      have h22 : Sat w0 w21 (pt b3 (.cells (fltA Rep.Flt.zero) 75 (0,0)) :: LogRep p m L :: MedRep m M :: F) := h21.sb
      clear h21 h1 hfs hfk
      go_wp2_with fail
      refine (fault_c s (Frm.scan (L.bytes M s).1).2.1 h22).mono ?_
      rintro ee w23 ⟨v, rfl, rfl, h23⟩
      clear h22
      go_wp2_with ((with_reducible apply at_store); refine ⟨?_⟩; refine wl_storeA (fltA (Rep.fault s (Frm.scan (L.bytes M s).1).2.1)) h23 (by rfl) (by rfl) (by rfl) upd0 (by kernel_rfl) (by rfl) ?_; intro w24 h24)
      refine ⟨rfl, _, res_tct rfl h24 (by rfl) pkD Tryz.underlying75 rfl (by kernel_rfl), _, rfl, ?_⟩
      unfold RunOut
      rw [Hg.out]
      exact ⟨rfl, h24.drop⟩
    have hb2 : ((Frm.scan (L.bytes M s).1).2.2 != 0) = false := by rw [h1]; rfl
    have H1 := Lib.hid h1
    rw [h1]
    clear h1
    have h22 : Sat w0 w21 (TabMA pg (Rep.ledger (Rep.rowsOf (lbt L M) (L.segs.take i) ++ (fs.take 0).map fun q => (s, q.1))) ((Rep.rowsOf (lbt L M) (L.segs.take i)).length + 0) :: stPt ps (Rep.lastOfL (L.segs.take i)) pi uv (.slice ta (L.segs.length - n) tc) :: osl 115 3 uv ((Rep.usesOf (lbt L M) (L.segs.take i)).flatMap uenc) :: TabML pi (fun _ => none) 0 :: pt b9 (.cells #[ptr pg] 197 (0,0)) ::
      pt b3 (.cells (fltA Rep.Flt.zero) 75 (0,0)) :: osl 3 1 sv (ints L.segs) :: LogRep p m L :: MedRep m M :: osl 203 36 (.slice fa fs.length fc) (fndsL fs) :: dataF fs :: F) := by
      have q : Sat w0 w21 (TabMA pg (Rep.ledger (Rep.rowsOf (lbt L M) (L.segs.take i))) (Rep.rowsOf (lbt L M) (L.segs.take i)).length :: stPt ps (Rep.lastOfL (L.segs.take i)) pi uv (.slice ta (L.segs.length - n) tc) :: osl 115 3 uv ((Rep.usesOf (lbt L M) (L.segs.take i)).flatMap uenc) :: TabML pi (fun _ => none) 0 :: pt b9 (.cells #[ptr pg] 197 (0,0)) ::
      pt b3 (.cells (fltA Rep.Flt.zero) 75 (0,0)) :: osl 3 1 sv (ints L.segs) :: LogRep p m L :: MedRep m M :: osl 203 36 (.slice fa fs.length fc) (fndsL fs) :: dataF fs :: F) := h21.sb
      rw [List.take_zero, List.map_nil, List.append_nil, Nat.add_zero]
      exact q
    have Hcnt := Lib.hid (show (Rep.rowsOf (lbt L M) (L.segs.take i)).length + fs.length ≤ 12000000 by
      have q1 := Rep.rowsOf_le (lbt L M) L.segs (i + 1)
      rw [Htk.out, Rep.rowsOf_snoc, List.length_append, List.length_map, show (Frm.scan (lbt L M s).1).1 = fs.map (·.1) from hfs.symm, List.length_map] at q1
      exact Nat.le_trans q1 Hrows.out)
    have hfl : fs.length ≤ 16777216 := by
      have := Frm.scan_count (L.bytes M s).1
      rw [← hfs, List.length_map] at this; omega
    have Hfl := Lib.hid hfl; have Hfs := Lib.hid hfs; have Hfk := Lib.hid hfk
    clear h21 hbl hfs hfk
    go_wp2_with fail
    go_loopg [72] fs.length (fun g jq wr => ∃ j : Nat, g = fs.length - j ∧ j ≤ fs.length ∧ jq = .int .i64 j ∧ Sat w0 wr (TabMA pg (Rep.ledger (Rep.rowsOf (lbt L M) (L.segs.take i) ++ (fs.take j).map fun q => (s, q.1))) ((Rep.rowsOf (lbt L M) (L.segs.take i)).length + j) :: stPt ps (Rep.lastOfL (L.segs.take i)) pi uv (.slice ta (L.segs.length - n) tc) :: osl 115 3 uv ((Rep.usesOf (lbt L M) (L.segs.take i)).flatMap uenc) :: TabML pi (fun _ => none) 0 :: pt b9 (.cells #[ptr pg] 197 (0,0)) ::
      pt b3 (.cells (fltA Rep.Flt.zero) 75 (0,0)) :: osl 3 1 sv (ints L.segs) :: LogRep p m L :: MedRep m M :: osl 203 36 (.slice fa fs.length fc) (fndsL fs) :: dataF fs :: F))
    case atStart => exact ⟨0, rfl, Nat.zero_le _, rfl, h22⟩
    case round =>
      obtain ⟨j, rfl, hj, rfl, hS⟩ := hrel
      clear h22
      by_cases hjl : j < fs.length
      rotate_left
      · obtain rfl : j = fs.length := by omega
        have d1 : ¬ (fs.length : Int) < (fs.length : Int) := by omega
        rw [List.take_length] at hS
        clear hjl hj
        have hul : ((Rep.usesOf (lbt L M) (L.segs.take i)).flatMap uenc).length ≤ 2147483648 := by
          rw [rows_len (k := 3) fun u _ => rfl]
          unfold Rep.usesOf
          rw [List.length_map, List.length_take]
          have := Hlen.out; omega
        go_wp2_with (first
          | ((with_reducible apply at_store); refine ⟨?_⟩; refine wl_store (cs' := #[.int .i64 s, ptr pi, uv, .slice ta (L.segs.length - n) tc]) hS (by rfl) evD (by rfl) (upd_there upd0) (Nat.le_of_ble_eq_true (by rfl)) (by kernel_rfl) (by rfl) ?_; intro w40 h40)
          | ((with_reducible apply at_load); refine ⟨?_⟩; refine wl_load1 h40 (by rfl) (pick_there pick0) (Nat.le_of_ble_eq_true (by rfl)) evD (by kernel_rfl) ?_)
          | (with_reducible apply at_build1))
        refine ⟨?_⟩
        refine wl_build1 (e := 115) (sz := 3) (by' := 24) (by kernel_rfl) h40 (by rfl) (cs := #[.int .i64 s, .int .i64 ((L.bytes M s).1.length : Nat), .int .i64 0]) rfl rfl (by decide) ?_
        intro b41 w41 h41
        go_wp2_with (with_reducible apply at_append)
        refine ⟨?_⟩
        refine wl_app 115 3 24 (by kernel_rfl) h41 (by rfl) (by rfl) (pick_there (pick_there (pick_there pick0))) pick0 rfl (Nat.le_refl 1) (by rfl) hul (by show 3 ≤ 65536; decide) (by decide) rfl ?_
        intro bA nA cA w42 h42
        go_wp2_with ((with_reducible apply at_store); refine ⟨?_⟩; refine wl_store (cs' := #[.int .i64 s, ptr pi, .slice (some ⟨bA, 0, none⟩) nA cA, .slice ta (L.segs.length - n) tc]) h42 (by rfl) evD (by rfl) (upd_there (upd_there upd0)) (Nat.le_of_ble_eq_true (by rfl)) (by kernel_rfl) (by rfl) ?_; intro w43 h43)
        have h44 : Sat w0 w43 (stPt ps (Rep.lastOfL (L.segs.take (i + 1))) pi (.slice (some ⟨bA, 0, none⟩) nA cA) (.slice ta (L.segs.length - n) tc) :: osl 115 3 (.slice (some ⟨bA, 0, none⟩) nA cA) ((Rep.usesOf (lbt L M) (L.segs.take (i + 1))).flatMap uenc) :: TabML pi (fun _ => none) 0 :: pt b9 (.cells #[ptr pg] 197 (0,0)) ::
          TabMA pg (Rep.ledger (Rep.rowsOf (lbt L M) (L.segs.take (i + 1)))) (Rep.rowsOf (lbt L M) (L.segs.take (i + 1))).length :: pt b3 (.cells (fltA Rep.Flt.zero) 75 (0,0)) :: osl 3 1 sv (ints L.segs) :: LogRep p m L :: MedRep m M :: F) := by
          rw [Htk.out, Rep.lastOfL_snoc, Rep.usesOf_snoc, Rep.rowsOf_snoc, List.length_append, List.length_map, show (Frm.scan (lbt L M s).1).1 = fs.map (·.1) from Hfs.out.symm, List.length_map, List.map_map, List.flatMap_append]
          exact h43.sb
        clear h40 h41 h42 h43 hS
        go_roundg (n - (i + 1))
        case measure => have := Hlt.out; omega
        case rel => exact ⟨i + 1, .slice (some ⟨bA, 0, none⟩) nA cA, rfl, Hlt.out, by first | rfl | go_num, by rw [Htk.out]; exact Rep.bad_none Hbad.out H0.out H1.out, h44⟩
      have d1 : (j : Int) < (fs.length : Int) := by omega
      have hwj : IntKind.i64.wrap ((j : Int) + 1) = (j : Int) + 1 := IntWalk.i64_in _ (by omega)
      obtain ⟨⟨f, dv⟩, hq⟩ : ∃ q, fs[j]? = some q := ⟨_, List.getElem?_eq_getElem hjl⟩
      have hkf : f.e.key.length = 32 := Hfk.out _ (List.mem_of_getElem? hq)
      obtain ⟨da, dn, dc, rfl, _, _⟩ := dataF_ro hq wr (hS.pk (A := dataF fs))
      obtain ⟨bk2, off2, c2, e2, hcell⟩ := osl_row (f := fun q : Frm.Fnd × Value => fndL q.1 q.2) (k := 36) (fun q hq => fndL_len q.1 q.2 (Hfk.out q hq)) (Sat.rd (hS.pk (A := osl 203 36 (.slice fa fs.length fc) (fndsL fs)))) hq (by decide)
      cases e2
      have hl36 : (fndL f (.slice da dn dc)).length = 36 := fndL_len _ _ hkf
      have Htj := Lib.hid (show (fs.take (j + 1)).map (fun q => (s, q.1)) = (fs.take j).map (fun q => (s, q.1)) ++ [(s, f)] by rw [List.take_add_one, hq, Option.toList_some, List.map_append]; rfl)
      have Hjl := Lib.hid hjl; have Hkf := Lib.hid hkf
      clear hq hkf hj
      go_wp2_with (first
        | ((with_reducible apply at_load); refine ⟨?_⟩; refine wl_loadW (b := bk2) (o := off2 + j * 36) (fndL f (.slice da dn dc)) (by rfl) hcell Tryz.underlying203 rfl (by rw [hl36]; kernel_rfl) ?_)
        | (with_reducible apply at_alloc))
      refine ⟨?_⟩
      refine wl_alloc zFnd hS rfl ?_
      intro b17 w30 h30
      go_wp2_with (first
        | ((with_reducible apply at_store); refine ⟨?_⟩; refine wl_storeA (fndA f (.slice da dn dc)) h30 (by rfl) (by rfl) (by rw [fndA_size _ _ Hkf.out]; rfl) upd0 (by rw [fndA_size _ _ Hkf.out]; kernel_rfl) (fndA_ones _ _ _ _) ?_; intro w31 h31)
        | ((with_reducible apply at_load); refine ⟨?_⟩; refine wl_loadA (cs := fndA f (.slice da dn dc)) h31 (by rfl) pick0 Tryz.underlying203 rfl (by rw [fndA_size _ _ Hkf.out]; kernel_rfl) ?_)
        | ((with_reducible apply at_load); refine ⟨?_⟩; refine wl_loadA (cs := #[ptr pg]) h31 (by rfl) (pick_there (pick_there (pick_there (pick_there (pick_there pick0))))) Tryz.underlying197 rfl (by kernel_rfl) ?_))
      have hrl := Rep.rowsOf_le (lbt L M) L.segs i
      refine (take_c (p := pg) s f Hkf.out (by have := Hrows.out; have := Hfl.out; have := Hjl.out; have := Hcnt.out; omega) (h31.pick pick1)).mono ?_
      rintro ee w32 ⟨v, rfl, h32⟩
      clear h30 h31 hS hcell
      have hnn : ∀ x ∈ Rep.rowsOf (lbt L M) (L.segs.take i) ++ (fs.take j).map (fun q => (s, q.1)), 0 ≤ x.1 := fun x hx => by
        rcases List.mem_append.1 hx with hx | hx
        · unfold Rep.rowsOf at hx
          obtain ⟨u, hu, hx⟩ := List.mem_flatMap.1 hx
          obtain ⟨g, _, rfl⟩ := List.mem_map.1 hx
          exact Hnn.out u (List.mem_of_mem_take hu)
        · obtain ⟨g, _, rfl⟩ := List.mem_map.1 hx
          exact Hs0.out
      rw [← Rep.ledger_snoc _ _ hnn, List.append_assoc, ← Htj.out] at h32
      clear hnn
      go_wp2_with fail
      go_roundg (fs.length - (j + 1))
      case measure => have := Hjl.out; omega
      case rel => exact ⟨j + 1, rfl, Hjl.out, by first | rfl | go_num, h32.sb⟩
end
section
variable {w0 w : World} {F : List HProp} {p B : Nat} {m : Frm.Bs → Option (Seg.Plc)}
set_option maxRecDepth 20000 in
set_option maxHeartbeats 8000000 in
theorem keysL_c (hB : B ≤ 13000000) (h : Sat w0 w (TabML p m B :: F)) :
    Calls Tryz.prog 120 #[ptr p] w (Rtn fun v w' => ∃ kv : List (Frm.Bs × Seg.Plc), (Tab.Lists m kv ∧ (∀ q ∈ kv, q.1.length = 32) ∧ kv.length ≤ B) ∧ Sat w0 w' (osl 41 32 v (kv.flatMap fun q => bys q.1) :: TabML p m B :: F)) := by
  have hr := risingL_c hB h
  clear h
  go_enter Tryz.func120, Tryz.ntmps120
  go_wp2_with fail
  refine hr.mono ?_
  rintro ee w1 ⟨sv, rfl, s, ⟨hs1, hs2, hs3⟩, hS1⟩
  clear hr
  have Hs1 := Lib.hid hs1; have Hs2 := Lib.hid hs2; have Hs3 := Lib.hid hs3
  have Hkk := Lib.hid (show ∀ q ∈ s.map fun x => (x.key, x.val), q.1.length = 32 from fun q hq => by
    obtain ⟨x, hx, rfl⟩ := List.mem_map.1 hq
    exact (hs2 x hx).2)
  have Hlen := Lib.hid (show ∀ x ∈ s, (slotL penc x).length = 36 from fun x hx => slotL_len penc x (hs2 x hx).2 3 (penc_len _))
  obtain ⟨la, lc, rfl⟩ := osl_rows Hlen.out (Sat.rd hS1) (by decide)
  have hsb : s.length ≤ 13000000 := Nat.le_trans hs3 hB
  have hS2 : Sat w0 w1 (osl 41 32 (.slice none 0 0) (((s.take 0).map fun x => (x.key, x.val)).flatMap fun q => bys q.1) :: osl 220 36 (.slice la s.length lc) (s.flatMap (slotL penc)) :: TabML p m B :: F) := Sat.osl_nil.2 hS1
  clear hs1 hs2 hs3 hB hS1
  go_wp2_with fail
  go_loopg [3, 9] s.length (fun g oq iq wr => ∃ (i : Nat), g = s.length - i ∧ i ≤ s.length ∧ iq = .int .i64 i ∧
    Sat w0 wr (osl 41 32 oq (((s.take i).map fun x => (x.key, x.val)).flatMap fun q => bys q.1) :: osl 220 36 (.slice la s.length lc) (s.flatMap (slotL penc)) :: TabML p m B :: F))
  case atStart => exact ⟨0, rfl, Nat.zero_le _, rfl, hS2⟩
  case round =>
    obtain ⟨i, rfl, hi, rfl, hS⟩ := hrel
    clear hS2
    by_cases hlt : i < s.length
    rotate_left
    · obtain rfl : i = s.length := by omega
      have c1 : ¬ (s.length : Int) < (s.length : Int) := by omega
      rw [List.take_length] at hS
      clear hlt hi
      go_wp2_with fail
      go_ret
      refine ⟨_, rfl, s.map fun x => (x.key, x.val), ⟨Hs1.out, by intros; exact Hkk.out (_, _) (by assumption), by rw [List.length_map]; exact Hs3.out⟩, hS.sb⟩
    have c1 : (i : Int) < (s.length : Int) := by omega
    have hwi : IntKind.i64.wrap ((i : Int) + 1) = (i : Int) + 1 := IntWalk.i64_in _ (by omega)
    obtain ⟨x, hx⟩ : ∃ x, s[i]? = some x := ⟨_, List.getElem?_eq_getElem hlt⟩
    have hxm := List.mem_of_getElem? hx
    have Hxk := Lib.hid (Hs2.out x hxm).2
    obtain ⟨bk, off, c', hsv, hcell⟩ := osl_row Hlen.out (Sat.rd (hS.pick pick1)) hx (by decide)
    cases hsv
    have hl36 := Hlen.out x hxm
    have Htk := Lib.hid (show ((s.take (i + 1)).map fun x => (x.key, x.val)).flatMap (fun q => bys q.1) = ((s.take i).map fun x => (x.key, x.val)).flatMap (fun q => bys q.1) ++ bys x.key by
      rw [List.take_add_one, hx, Option.toList_some, List.map_append, List.flatMap_append]; simp)
    have Hlt := Lib.hid hlt
    have hle5 : (((s.take i).map fun x => (x.key, x.val)).flatMap fun q => bys q.1).length ≤ 2147483648 := by
      rw [rows_len (k := 32) fun q hq => by
        obtain ⟨y, hy, rfl⟩ := List.mem_map.1 hq
        rw [bys_len]; exact (Hs2.out y (List.mem_of_mem_take hy)).2]
      rw [List.length_map]
      have := List.length_take_le' i s
      omega
    clear hx hxm hlt hi
    go_wp2_with (first
      | ((with_reducible apply at_load); refine ⟨?_⟩; refine wl_loadW (b := bk) (o := off + i * 36) (slotL penc x) (by rfl) hcell Tryz.underlying220 rfl (by rw [hl36]; kernel_rfl) ?_)
      | (with_reducible apply at_alloc))
    refine ⟨?_⟩
    refine wl_alloc zSlotL hS rfl ?_
    intro b7 w7 hS7
    go_wp2_with (first
      | ((with_reducible apply at_store); refine ⟨?_⟩; refine wl_storeA (slotL penc x).toArray hS7 (by rfl) (by rfl) (by rw [List.size_toArray, hl36]; rfl) upd0 (by rw [List.size_toArray, hl36]; kernel_rfl) (by rw [List.toList_toArray]; exact slotL_ones penc x (penc_ones _)) ?_; intro w10 hS10)
      | (with_reducible apply at_load))
    refine ⟨?_⟩
    clear hS hS7 hcell
    have f1 : w10.rangeAt b7 1 (bys x.key) := slot_key (hS10.pick pick0)
    go_wp2_with (first
      | ((with_reducible apply at_load); refine ⟨?_⟩; refine wl_loadW (b := b7) (o := 1) (bys x.key) (by rfl) f1 Tryz.underlying41 rfl (by rw [bys_len, Hxk.out]; kernel_rfl) ?_)
      | (with_reducible apply at_build1))
    refine ⟨?_⟩
    refine wl_build1 (e := 41) (sz := 32) (by' := 32) (by kernel_rfl) hS10 (by rfl) (cs := (bys x.key).toArray) rfl (by rw [List.size_toArray, bys_len, Hxk.out]) (by decide) ?_
    intro bN wN hN
    go_wp2_with (with_reducible apply at_append)
    refine ⟨?_⟩
    refine wl_app 41 32 32 (by kernel_rfl) hN (by rfl) (by rfl) (pick_there (pick_there pick0)) pick0 (by rw [List.size_toArray, bys_len, Hxk.out]) (Nat.le_refl 1) (by rw [List.toList_toArray]; exact bys_ones _) hle5 (by rw [List.size_toArray, bys_len, Hxk.out]; decide) (by decide) (by rw [List.toList_toArray]) ?_
    intro bA nA cA wA hA
    go_wp2_with fail
    rw [← Htk.out] at hA
    go_roundg (s.length - (i + 1))
    case measure => have := Hlt.out; omega
    case rel => exact ⟨i + 1, rfl, Hlt.out, by first | rfl | go_num, hA.sb⟩
end
def kvL (q : Frm.Bs × Seg.Plc) : List Value := bys q.1 ++ penc q.2
theorem kvL_len (q : Frm.Bs × Seg.Plc) (hk : q.1.length = 32) : (kvL q).length = 35 := by unfold kvL; rw [List.length_append, bys_len, hk]; rfl
theorem kvL_ones (q : Frm.Bs × Seg.Plc) : (kvL q).all (·.oneCell') = true := by unfold kvL; rw [List.all_append, bys_ones]; rfl
theorem zPlc39 : zeroB Tryz.prog 39 = some (.agg (penc Seg.Plc.zero).toArray) := by kernel_rfl
theorem plKv : placesB Tryz.prog 117 = some [(0, 32), (32, 3)] := by kernel_rfl
theorem zKv : zeroB Tryz.prog 117 = some (.agg (kvL (Frm.zero32, Seg.Plc.zero)).toArray) := by kernel_rfl
theorem run_kv (k : Frm.Bs) (hk : k.length = 32) (v : Seg.Plc) (w : World) : (Instr.build 117 #[(0, .agg (bys k).toArray), (1, .agg (penc v).toArray)]).run Tryz.prog w = .ok (.agg (kvL (k, v)).toArray) w := by
  have h := run_build (P := Tryz.prog) [(0, .agg (bys k).toArray), (1, .agg (penc v).toArray)] plKv zKv (by
    intro p hp
    have hzz : (Value.agg (kvL (Frm.zero32, Seg.Plc.zero)).toArray).cells.size = 35 := by rfl
    rw [hzz]
    rcases List.mem_cons.1 hp with rfl | hp
    · refine ⟨0, ?_, ?_⟩
      · show some (0, 32) = some (0, (bys k).toArray.size); rw [List.size_toArray, bys_len, hk]
      · show 0 + (bys k).toArray.size ≤ 35
        rw [List.size_toArray, bys_len, hk]; decide
    · rw [List.mem_singleton.1 hp]
      exact ⟨32, rfl, by show 32 + 3 ≤ 35; omega⟩) w
  refine h.trans ?_
  have hz : Frm.zero32.length = 32 := rfl
  have hzl : (kvL (Frm.zero32, Seg.Plc.zero)).length = 35 := kvL_len _ hz
  have e : putsAt (putsAt (kvL (Frm.zero32, Seg.Plc.zero)).toArray 0 (bys k)) 32 (penc v) = (kvL (k, v)).toArray := by
    apply putsAt_eq
    rw [puts_putL _ _ _ (by rw [putsAt_size, List.size_toArray, hzl]; exact Nat.le_refl 35), puts_putL _ _ _ (by rw [List.size_toArray, hzl, bys_len, hk]; decide), List.toList_toArray]
    have e1 : putL (kvL (Frm.zero32, Seg.Plc.zero)) 0 (bys k) = bys k ++ penc Seg.Plc.zero := by
      unfold kvL
      rw [putL_app2 _ _ _ _ (by rw [bys_len, bys_len, hk, hz]; decide), putL_all (by rw [bys_len, bys_len, hk, hz])]
    have h0 := putL_app (bys k) (penc Seg.Plc.zero) (penc v) 0
    rw [bys_len, hk, putL_all (xs := penc Seg.Plc.zero) (vs := penc v) (by rfl)] at h0
    rw [e1]
    exact h0
  exact congrArg (fun x => Result.ok (Value.agg x) w) e
section
variable {P : Program} {d : Nat} {xs : Array Value}
theorem eqF_self : ∀ (fs : List Field), (∀ f ∈ fs, ∃ a, (∀ w, (part f.type xs f.offset).run P w = .ok a w) ∧ ∀ w, (Op.equalIn d f.type a a).run P w = .ok true w) → ∀ w, (Op.eqFields d xs xs fs).run P w = .ok true w
  | [], _, w => by simp [Op.eqFields]
  | f :: fs, h, w => by
    obtain ⟨a, h1, h2⟩ := h f (.head _)
    have ih := eqF_self fs (fun g hg => h g (.tail _ hg)) w
    unfold Op.eqFields
    split
    · simp only [Sem.run_bind, h1, h2, Result.andThen_ok, Bool.not_true, Bool.false_eq_true, if_false, ih]
    · exact ih
theorem eqS_self (T : TypeId) (l : List (TypeId × Nat)) (ht : P.underlying T = some (.struct (P.fieldsOf T))) (hp : P.stoodInHeld T = false) (hl : ((P.fieldsOf T).toList.map fun f => (f.type, f.offset)) = l)
    (h : ∀ q ∈ l, ∃ a, (∀ w, (part q.1 xs q.2).run P w = .ok a w) ∧ ∀ w, (Op.equalIn d q.1 a a).run P w = .ok true w) (w : World) : (Op.equalIn (d + 1) T (.agg xs) (.agg xs)).run P w = .ok true w := by
  rw [run_equalIn_struct w d T xs xs ht hp]
  refine eqF_self _ (fun f hf => ?_) w
  exact h (f.type, f.offset) (by rw [← hl]; exact List.mem_map.2 ⟨f, hf, rfl⟩)
theorem part_int {e : TypeId} {k : IntKind} (he : P.underlying e = some (.int k)) (i : Nat) (z : Int) (hv : xs[i]? = some (.int k z)) : ∃ a, (∀ w, (part e xs i).run P w = .ok a w) ∧ ∀ w, (Op.equalIn (d + 1) e a a).run P w = .ok true w :=
  ⟨_, fun w => run_part_int he xs i _ hv w, fun w => by rw [run_equalIn_int w d e k k z z he]; simp⟩
theorem part_string {e : TypeId} (he : P.underlying e = some .string) (i : Nat) (z : ByteArray) (hv : xs[i]? = some (.string z)) : ∃ a, (∀ w, (part e xs i).run P w = .ok a w) ∧ ∀ w, (Op.equalIn (d + 1) e a a).run P w = .ok true w :=
  ⟨.string z, fun w => by unfold part isAgg; simp [Sem.run_bind, run_underlying he, hv], fun w => by rw [run_equalIn_string w d e z z he]; simp⟩
theorem part_row {e : TypeId} {i : TypeInfo} {dd : TypeDesc} (he : P.underlying e = some dd) (hd : (match dd with | .struct _ | .array _ _ => true | _ => false) = true) (hi : P.info? e = some i) (off : Nat) (w : World) : (part e xs off).run P w = .ok (.agg (xs.extract off (off + i.size))) w := by
  have hc : P.cellsOf e = i.size := by unfold Program.cellsOf; simp [hi]
  unfold part isAgg
  cases dd <;> simp_all [Sem.run_bind, run_underlying he, run_sizeOf w hi]
end
set_option maxRecDepth 20000 in
theorem eqIn_keyD (d : Nat) (k : Frm.Bs) (hk : k.length = 32) (w : World) : (Op.equalIn (d + 2) 41 (.agg (bys k).toArray) (.agg (bys k).toArray)).run Tryz.prog w = .ok true w := by
  obtain ⟨i, hi, _⟩ := info8p
  have h := run_equalIn_array (P := Tryz.prog) w (d + 1) (bys k).toArray (bys k).toArray (t := 41) Tryz.underlying41 hi
  rw [bys_ints, show Tryz.prog.cellsOf 5 = 1 from by kernel_rfl, run_eqItems_int d (P := Tryz.prog) Tryz.underlying5 _ _ (List.range 32) (fun i hi => by have := List.mem_range.1 hi; simp; omega)] at h
  rw [bys_ints, h]
  simp
theorem info_id : ∃ i : TypeInfo, Tryz.prog.info? 41 = some i ∧ i.size = 32 := by
  have h : (Tryz.prog.info? 41).map (·.size) = some 32 := by kernel_rfl
  cases hq : Tryz.prog.info? 41 with
  | none => rw [hq] at h; cases h
  | some i => rw [hq] at h; exact ⟨i, rfl, by simpa using h⟩
theorem info_plc : ∃ i : TypeInfo, Tryz.prog.info? 39 = some i ∧ i.size = 3 := by
  have h : (Tryz.prog.info? 39).map (·.size) = some 3 := by kernel_rfl
  cases hq : Tryz.prog.info? 39 with
  | none => rw [hq] at h; cases h
  | some i => rw [hq] at h; exact ⟨i, rfl, by simpa using h⟩
theorem part_key {xs : Array Value} {d : Nat} (off : Nat) (k : Frm.Bs) (hk : k.length = 32) (hx : xs.extract off (off + 32) = (bys k).toArray) : ∃ a, (∀ w, (part 41 xs off).run Tryz.prog w = .ok a w) ∧ ∀ w, (Op.equalIn (d + 2) 41 a a).run Tryz.prog w = .ok true w := by
  obtain ⟨i, hi, hs⟩ := info_id
  exact ⟨.agg (bys k).toArray, fun w => by rw [part_row Tryz.underlying41 rfl hi off w, hs, hx], fun w => eqIn_keyD d k hk w⟩
theorem eqIn_use (a b c : Int) (w : World) : (Op.equalIn 10000 115 (.agg #[.int .i64 a, .int .i64 b, .int .i64 c]) (.agg #[.int .i64 a, .int .i64 b, .int .i64 c])).run Tryz.prog w = .ok true w := by
  refine eqS_self (d := 9999) 115 [(3, 0), (3, 1), (3, 2)] (by kernel_rfl) (by kernel_rfl) (by kernel_rfl) (fun q hq => ?_) w
  simp only [List.mem_cons, List.not_mem_nil, or_false] at hq
  rcases hq with rfl | rfl | rfl
  · exact part_int Tryz.underlying3 0 a rfl
  · exact part_int Tryz.underlying3 1 b rfl
  · exact part_int Tryz.underlying3 2 c rfl
theorem eqIn_plc (d : Nat) (q : Seg.Plc) (w : World) : (Op.equalIn (d + 2) 39 (.agg (penc q).toArray) (.agg (penc q).toArray)).run Tryz.prog w = .ok true w := by
  refine eqS_self (d := d + 1) 39 [(3, 0), (3, 1), (3, 2)] (by kernel_rfl) (by kernel_rfl) (by kernel_rfl) (fun q hq => ?_) w
  simp only [List.mem_cons, List.not_mem_nil, or_false] at hq
  rcases hq with rfl | rfl | rfl
  · exact part_int Tryz.underlying3 0 _ rfl
  · exact part_int Tryz.underlying3 1 _ rfl
  · exact part_int Tryz.underlying3 2 _ rfl
theorem kv_key (q : Frm.Bs × Seg.Plc) (hk : q.1.length = 32) : (kvL q).toArray.extract 0 (0 + 32) = (bys q.1).toArray := by
  apply Array.toList_inj.1
  rw [Array.toList_extract, List.toList_toArray, List.toList_toArray]
  unfold kvL
  simp only [List.extract, List.drop_zero, Nat.zero_add, Nat.sub_zero]
  rw [List.take_append_of_le_length (by rw [bys_len]; omega), List.take_of_length_le (by rw [bys_len]; omega)]
theorem kv_plc (q : Frm.Bs × Seg.Plc) (hk : q.1.length = 32) : (kvL q).toArray.extract 32 (32 + 3) = (penc q.2).toArray := by
  apply Array.toList_inj.1
  rw [Array.toList_extract, List.toList_toArray, List.toList_toArray]
  unfold kvL
  simp only [List.extract]
  rw [List.drop_append, List.drop_of_length_le (by rw [bys_len]; omega), bys_len, hk, List.nil_append]
  rfl
theorem eqIn_kv (q : Frm.Bs × Seg.Plc) (hk : q.1.length = 32) (w : World) : (Op.equalIn 10000 117 (.agg (kvL q).toArray) (.agg (kvL q).toArray)).run Tryz.prog w = .ok true w := by
  refine eqS_self (d := 9999) 117 [(41, 0), (39, 32)] (by kernel_rfl) (by kernel_rfl) (by kernel_rfl) (fun x hx => ?_) w
  simp only [List.mem_cons, List.not_mem_nil, or_false] at hx
  rcases hx with rfl | rfl
  · exact part_key 0 q.1 hk (kv_key q hk)
  · obtain ⟨i, hi, hs⟩ := info_plc
    exact ⟨.agg (penc q.2).toArray, fun w => by rw [part_row Tryz.underlying39 rfl hi 32 w, hs, kv_plc q hk], fun w => eqIn_plc 9997 q.2 w⟩
theorem flt_key (f : Rep.Flt) : (fltA f).extract 3 (3 + 32) = (bys Frm.zero32).toArray := by kernel_rfl
theorem eqIn_flt (f : Rep.Flt) (w : World) : (Op.equalIn 10000 75 (.agg (fltA f)) (.agg (fltA f))).run Tryz.prog w = .ok true w := by
  refine eqS_self (d := 9999) 75 [(3, 0), (3, 1), (3, 2), (41, 3), (9, 35)] (by kernel_rfl) (by kernel_rfl) (by kernel_rfl) (fun x hx => ?_) w
  simp only [List.mem_cons, List.not_mem_nil, or_false] at hx
  rcases hx with rfl | rfl | rfl | rfl | rfl
  · exact part_int Tryz.underlying3 0 _ rfl
  · exact part_int Tryz.underlying3 1 _ rfl
  · exact part_int Tryz.underlying3 2 _ rfl
  · exact part_key 3 Frm.zero32 rfl (flt_key f)
  · exact part_string Tryz.underlying9 35 ByteArray.empty rfl
section
variable {P : Program} {T : TypeId} {cs : Array Value}
theorem neq_self (h : ∀ w, (Op.equalIn 10000 T (.agg cs) (.agg cs)).run P w = .ok true w) (w : World) : (binOp .neq T (.agg cs) (.agg cs)).run P w = .ok (.bool false) w := by
  rw [run_neq_struct, h]; rfl
end
end Go.Proofs.YtmjldaedhmipkaaGreatDoor
namespace Go.Frm
theorem lt_take : ∀ {a b : Bs} {i : Nat} {x y : UInt8}, a.take i = b.take i → a[i]? = some x → b[i]? = some y → x ≠ y → (a < b ↔ x < y)
  | [], _, _, _, _, _, h, _, _ => by simp at h
  | _ :: _, [], _, _, _, _, _, h, _ => by simp at h
  | c :: a, d :: b, 0, x, y, _, h1, h2, hne => by
    obtain rfl : c = x := by simpa using h1
    obtain rfl : d = y := by simpa using h2
    rw [List.cons_lt_cons_iff]
    exact ⟨fun h => h.resolve_right fun e => hne e.1, .inl⟩
  | c :: a, d :: b, i + 1, x, y, ht, h1, h2, hne => by
    simp only [List.take_succ_cons, List.cons.injEq] at ht
    obtain ⟨rfl, ht⟩ := ht
    rw [List.cons_lt_cons_iff, ← lt_take ht (by simpa using h1) (by simpa using h2) hne]
    exact ⟨fun h => h.elim (fun h => absurd h (UInt8.lt_irrefl c)) (·.2), fun h => .inr ⟨rfl, h⟩⟩
end Go.Frm
namespace Go.Proofs.YtmjldaedhmipkaaGreatDoor
open Go Go.Sl Go.Med Go.MapKept Go.RowKit
section
variable {w0 w : World} {F : List HProp} {av bv v : Value}
theorem bys_at {l : Bs} {i : Nat} {x : UInt8} (h : l[i]? = some x) : (bys l)[i]? = some (.int .u8 x.toNat) := by unfold bys; rw [List.getElem?_map, h]; rfl
theorem bys_atA {l : Bs} {i : Nat} {x : UInt8} (h : l[i]? = some x) : (bys l).toArray[i]? = some (.int .u8 x.toNat) := by rw [List.getElem?_toArray]; exact bys_at h
theorem take_next {α : Type} {a b : List α} {i : Nat} {x : α} (h : a.take i = b.take i) (h1 : a[i]? = some x) (h2 : b[i]? = some x) : a.take (i + 1) = b.take (i + 1) := by
  rw [List.take_add_one, List.take_add_one, h, h1, h2]
set_option maxHeartbeats 4000000 in
theorem rless_c (a b : Bs) (ha : a.length = 32) (hb : b.length = 32) (h : Sat w0 w F) :
    Calls Tryz.prog 59 #[.agg (bys a).toArray, .agg (bys b).toArray] w (Rtn fun v w' => v = .bool (decide (a < b)) ∧ Sat w0 w' F) := by
  have Ha := Lib.hid ha; have Hb := Lib.hid hb
  clear ha hb
  go_enter Tryz.func59, Tryz.ntmps59
  go_wp2_with (with_reducible apply at_box)
  refine ⟨?_⟩
  refine wl_box h evD evD ?_
  intro b2 w2 h2
  go_wp2_with (with_reducible apply at_box)
  refine ⟨?_⟩
  refine wl_box h2 evD evD ?_
  intro b3 w3 h3
  clear h h2
  go_wp2_with fail
  go_loopg [5] 32 (fun g iq wr => ∃ i : Nat, g = 32 - i ∧ i ≤ 32 ∧ iq = .int .i64 i ∧ a.take i = b.take i ∧ Sat w0 wr (pt b3 (.cells (bys b).toArray 41 (0,0)) :: pt b2 (.cells (bys a).toArray 41 (0,0)) :: F))
  case atStart => exact ⟨0, rfl, Nat.zero_le _, rfl, rfl, h3⟩
  case round =>
    obtain ⟨i, rfl, hi, rfl, htk, hS⟩ := hrel
    clear h3
    by_cases hlt : i < 32
    · have c1 : (i : Int) < 32 := by omega
      have hwi : IntKind.i64.wrap ((i : Int) + 1) = (i : Int) + 1 := IntWalk.i64_in _ (by omega)
      obtain ⟨x, hx⟩ : ∃ x, a[i]? = some x := ⟨_, List.getElem?_eq_getElem (by have := Ha.out; omega)⟩
      obtain ⟨y, hy⟩ : ∃ y, b[i]? = some y := ⟨_, List.getElem?_eq_getElem (by have := Hb.out; omega)⟩
      have hG0 : World.cell? _ ⟨b2, i, none⟩ = some (.int .u8 x.toNat) ∧ World.cell? _ ⟨b3, i, none⟩ = some (.int .u8 y.toNat) := ⟨hS.drew.cellP pick1 i (bys_atA hx), hS.drew.cellP pick0 i (bys_atA hy)⟩
      have Hx := Lib.hid hx; have Hy := Lib.hid hy; have Htk := Lib.hid htk; have Hlt := Lib.hid hlt
      clear htk hi hlt hx hy
      have hS1 := hS.drew
      by_cases hxy : x = y
      · subst hxy
        have Hn := Lib.hid (take_next Htk.out Hx.out Hy.out)
        generalize (x.toNat : Int) = X at *
        go_wp2_with fail
        refine wpL_begin [6] (fun w' => w'.cell? ⟨b2, i, none⟩ = some (.int .u8 X) ∧ w'.cell? ⟨b3, i, none⟩ = some (.int .u8 X)) (by kernel_rfl) ?_
        have hG := hG0
        clear hG0
        refine rp 0 (hy := (yl_move evD)) (h := ?_)
        refine rp 1 (hy := (yl_index evD evD rnD)) (h := ?_)
        refine rt 2 (h := ?_)
        refine rp 3 (hy := (yl_move evD)) (h := ?_)
        refine rp 4 (hy := (yl_index evD evD rnD)) (h := ?_)
        refine rt 5 (h := ?_)
        refine rp 6 (hy := (yl_bin evD evD rnD)) (h := ?_)
        refine wpL_done (by kernel_rfl) ?_
        clear hG
        try simp only [List.getElem_toArray, List.getElem_cons_succ, List.getElem_cons_zero]
        try go_frame
        go_wp2_with fail
        go_roundg (32 - (i + 1))
        case measure => have := Hlt.out; omega
        case rel => exact ⟨i + 1, rfl, Hlt.out, by first | rfl | go_num, Hn.out, hS1⟩
      · have He := Lib.hid (show decide (a < b) = decide ((x.toNat : Int) < (y.toNat : Int)) by
          rw [decide_eq_decide, Frm.lt_take Htk.out Hx.out Hy.out hxy, UInt8.lt_iff_toNat_lt]; omega)
        have hne : ((x.toNat : Int) == (y.toNat : Int)) = false := by
          rw [beq_eq_false_iff_ne]; intro e; exact hxy (UInt8.toNat_inj.1 (by omega))
        have hne2 : ((x.toNat : Int) != (y.toNat : Int)) = true := by
          rw [bne_iff_ne]; intro e; exact hxy (UInt8.toNat_inj.1 (by omega))
        clear hxy
        generalize (x.toNat : Int) = X at *
        generalize (y.toNat : Int) = Y at *
        go_wp2_with fail
        refine wpL_begin [6] (fun w' => w'.cell? ⟨b2, i, none⟩ = some (.int .u8 X) ∧ w'.cell? ⟨b3, i, none⟩ = some (.int .u8 Y)) (by kernel_rfl) ?_
        have hG := hG0
        clear hG0
        refine rp 0 (hy := (yl_move evD)) (h := ?_)
        refine rp 1 (hy := (yl_index evD evD rnD)) (h := ?_)
        refine rt 2 (h := ?_)
        refine rp 3 (hy := (yl_move evD)) (h := ?_)
        refine rp 4 (hy := (yl_index evD evD rnD)) (h := ?_)
        refine rt 5 (h := ?_)
        refine rp 6 (hy := (yl_bin evD evD rnD)) (h := ?_)
        refine wpL_done (by kernel_rfl) ?_
        try simp only [List.getElem_toArray, List.getElem_cons_succ, List.getElem_cons_zero]
        try go_frame
        go_wp2_with fail
        have hG2 : World.cell? _ ⟨b2, i, none⟩ = some (.int .u8 X) ∧ World.cell? _ ⟨b3, i, none⟩ = some (.int .u8 Y) := hG
        have hS2 := hS1.drew
        clear hG
        refine wpL_begin [6, 7] (fun w' => w'.cell? ⟨b2, i, none⟩ = some (.int .u8 X) ∧ w'.cell? ⟨b3, i, none⟩ = some (.int .u8 Y)) (by kernel_rfl) ?_
        have hG : World.cell? _ ⟨b2, i, none⟩ = some (.int .u8 X) ∧ World.cell? _ ⟨b3, i, none⟩ = some (.int .u8 Y) := ⟨by first | exact hG2.1 | exact hS2.cellP pick1 i (by rw [bys_atA Hx.out]; rfl), by first | exact hG2.2 | exact hS2.cellP pick0 i (by rw [bys_atA Hy.out]; rfl)⟩
        refine rp 0 (hy := (yl_move evD)) (h := ?_)
        refine rp 1 (hy := (yl_index evD evD rnD)) (h := ?_)
        refine rt 2 (h := ?_)
        refine rp 3 (hy := (yl_move evD)) (h := ?_)
        refine rp 4 (hy := (yl_index evD evD rnD)) (h := ?_)
        refine rt 5 (h := ?_)
        refine rp 6 (hy := (yl_bin evD evD rnD)) (h := ?_)
        refine rp 7 (hy := (yl_assign evD)) (h := ?_)
        refine wpL_done (by kernel_rfl) ?_
        clear hG hG2
        try simp only [List.getElem_toArray, List.getElem_cons_succ, List.getElem_cons_zero]
        try go_frame
        go_wp2_with fail
        go_ret
        rw [He.out]
        exact ⟨_, rfl, rfl, hS2.sb⟩
    · obtain rfl : i = 32 := by omega
      have hab : a = b := by
        rw [List.take_of_length_le (by have := Ha.out; omega), List.take_of_length_le (by have := Hb.out; omega)] at htk
        exact htk
      have He := Lib.hid (show decide (a < b) = false by rw [hab]; exact decide_eq_false (List.lt_irrefl b))
      clear htk hlt hi hab
      go_wp2_with fail
      go_ret
      rw [He.out]
      exact ⟨_, rfl, rfl, hS.sb⟩
set_option maxHeartbeats 4000000 in
theorem rsame_c (la lb : Bs) (ha : Ro w0 F (rdsl 1 av (bys la))) (hb : Ro w0 F (rdsl 1 bv (bys lb))) (h : Sat w0 w F) (hlen : la.length ≤ 1099511627776) :
    Calls Tryz.prog 61 #[av, bv] w (Rtn fun v w' => v = .bool (decide (la = lb)) ∧ Sat w0 w' F) := by
  obtain ⟨aa, an, ac, rfl, hal, _⟩ := id (ha w h)
  obtain ⟨ba, bn, bc, rfl, hbl, _⟩ := id (hb w h)
  rw [bys_len, Nat.mul_one] at hal hbl
  subst hal; subst hbl
  have Ha := Lib.hid ha; have Hb := Lib.hid hb; have Hlen := Lib.hid hlen
  clear ha hb hlen
  by_cases hl : la.length = lb.length
  · have Hl := Lib.hid hl
    have hli : (la.length : Int) = (lb.length : Int) := by omega
    go_enter Tryz.func61, Tryz.ntmps61
    clear hl
    go_wp2_with fail
    clear hli
    go_loopg [5] la.length (fun g iq wr => ∃ i : Nat, g = la.length - i ∧ i ≤ la.length ∧ iq = .int .i64 i ∧ la.take i = lb.take i ∧ Sat w0 wr F)
    case atStart => exact ⟨0, rfl, Nat.zero_le _, rfl, rfl, h⟩
    case round =>
      obtain ⟨i, rfl, hiN, rfl, htk, hS⟩ := hrel
      clear h
      by_cases hi : i < la.length
      · obtain ⟨x, hx⟩ : ∃ x, la[i]? = some x := ⟨_, List.getElem?_eq_getElem hi⟩
        obtain ⟨y, hy⟩ : ∃ y, lb[i]? = some y := ⟨_, List.getElem?_eq_getElem (by have := Hl.out; omega)⟩
        have hS1 := hS.drew
        obtain ⟨bk, off, rfl, d1⟩ := rdsl_cell (Ha.out _ hS1) (bys_at hx)
        obtain ⟨bk2, off2, rfl, d2⟩ := rdsl_cell (Hb.out _ hS1) (bys_at hy)
        have hic : (i : Int) < (la.length : Int) := by omega
        have hil : (i : Int) < (lb.length : Int) := by have := Hl.out; omega
        have hwi : IntKind.i64.wrap ((i : Int) + 1) = (i : Int) + 1 := IntWalk.i64_in _ (by have := Hlen.out; omega)
        have Hi := Lib.hid hi
        by_cases hxy : x = y
        · subst hxy
          have Hn := Lib.hid (take_next htk hx hy)
          clear htk hx hy hi hiN
          generalize (x.toNat : Int) = X at *
          go_wp2_with fail
          refine wpL_begin [8] (fun w' => w'.cell? ⟨bk, off + i, none⟩ = some (.int .u8 X) ∧ w'.cell? ⟨bk2, off2 + i, none⟩ = some (.int .u8 X)) (by kernel_rfl) ?_
          have hG : _ ∧ _ := And.intro d1 d2
          refine rp 0 (hy := (yl_move evD)) (h := ?_)
          refine rp 1 (hy := (yl_move evD)) (h := ?_)
          refine rp 2 (hy := (yl_index evD evD rnD)) (h := ?_)
          refine rt 3 (h := ?_)
          refine rp 4 (hy := (yl_move evD)) (h := ?_)
          refine rp 5 (hy := (yl_move evD)) (h := ?_)
          refine rp 6 (hy := (yl_index evD evD rnD)) (h := ?_)
          refine rt 7 (h := ?_)
          refine rp 8 (hy := (yl_bin evD evD rnD)) (h := ?_)
          refine wpL_done (by kernel_rfl) ?_
          clear hG
          try simp only [List.getElem_toArray, List.getElem_cons_succ, List.getElem_cons_zero]
          try go_frame
          go_wp2_with fail
          go_roundg (la.length - (i + 1))
          case measure => have := Hi.out; omega
          case rel => exact ⟨i + 1, rfl, Nat.succ_le_of_lt Hi.out, by first | rfl | go_num, Hn.out, hS1⟩
        · have Hne := Lib.hid (show decide (la = lb) = false from decide_eq_false fun e => hxy (by rw [e, hy] at hx; exact (Option.some.inj hx).symm))
          have hne : ((x.toNat : Int) == (y.toNat : Int)) = false := by
            rw [beq_eq_false_iff_ne]; intro e; exact hxy (UInt8.toNat_inj.1 (by omega))
          have hne2 : ((x.toNat : Int) != (y.toNat : Int)) = true := by
            rw [bne_iff_ne]; intro e; exact hxy (UInt8.toNat_inj.1 (by omega))
          clear htk hx hy hi hiN hxy
          generalize (x.toNat : Int) = X at *
          generalize (y.toNat : Int) = Y at *
          go_wp2_with fail
          refine wpL_begin [8] (fun w' => w'.cell? ⟨bk, off + i, none⟩ = some (.int .u8 X) ∧ w'.cell? ⟨bk2, off2 + i, none⟩ = some (.int .u8 Y)) (by kernel_rfl) ?_
          have hG : _ ∧ _ := And.intro d1 d2
          refine rp 0 (hy := (yl_move evD)) (h := ?_)
          refine rp 1 (hy := (yl_move evD)) (h := ?_)
          refine rp 2 (hy := (yl_index evD evD rnD)) (h := ?_)
          refine rt 3 (h := ?_)
          refine rp 4 (hy := (yl_move evD)) (h := ?_)
          refine rp 5 (hy := (yl_move evD)) (h := ?_)
          refine rp 6 (hy := (yl_index evD evD rnD)) (h := ?_)
          refine rt 7 (h := ?_)
          refine rp 8 (hy := (yl_bin evD evD rnD)) (h := ?_)
          refine wpL_done (by kernel_rfl) ?_
          clear hG
          try simp only [List.getElem_toArray, List.getElem_cons_succ, List.getElem_cons_zero]
          try go_frame
          go_wp2_with fail
          go_ret
          rw [Hne.out]
          exact ⟨_, rfl, rfl, hS1⟩
      · obtain rfl : i = la.length := by omega
        have hic : ¬ (la.length : Int) < (la.length : Int) := by omega
        have Hfin := Lib.hid (show decide (la = lb) = true from decide_eq_true (by
          have h1 := Hl.out
          rw [List.take_length] at htk
          rw [h1, List.take_length] at htk
          exact htk))
        clear htk hi hiN
        go_wp2_with fail
        go_ret
        rw [Hfin.out]
        exact ⟨_, rfl, rfl, hS⟩
  · have hli : ¬ ((la.length : Int) = (lb.length : Int)) := by omega
    have hlb : ((la.length : Int) == (lb.length : Int)) = false := by rw [beq_eq_false_iff_ne]; exact hli
    have hlb2 : ((la.length : Int) != (lb.length : Int)) = true := by rw [bne_iff_ne]; exact hli
    have Hne := Lib.hid (show decide (la = lb) = false from decide_eq_false fun e => hl (by rw [e]))
    clear hl
    go_enter Tryz.func61, Tryz.ntmps61
    go_wp2_with fail
    go_ret
    rw [Hne.out]
    exact ⟨_, rfl, rfl, h⟩
set_option maxRecDepth 20000 in
set_option maxHeartbeats 4000000 in
theorem sameIndex_c (l : List (Bs × Seg.Plc)) (hk : ∀ q ∈ l, q.1.length = 32) (ha : Ro w0 F (rdsl 35 av (l.flatMap kvL))) (hb : Ro w0 F (rdsl 35 bv (l.flatMap kvL))) (h : Sat w0 w F) (hlen : l.length ≤ 1073741824) :
    Calls Tryz.prog 55 #[av, bv] w (Rtn fun v w' => v = .bool true ∧ Sat w0 w' F) := by
  have Hkl := Lib.hid (show ∀ q ∈ l, (kvL q).length = 35 from fun q hq => kvL_len q (hk q hq))
  obtain ⟨aa, ac, rfl⟩ := osl_rows Hkl.out (ha w h) (by decide)
  obtain ⟨ba, bc, rfl⟩ := osl_rows Hkl.out (hb w h) (by decide)
  have Ha := Lib.hid ha; have Hb := Lib.hid hb; have Hk := Lib.hid hk; have Hlen := Lib.hid hlen
  clear ha hb hk hlen
  go_enter Tryz.func55, Tryz.ntmps55
  go_wp2_with fail
  go_loopg [5] l.length (fun g iq wr => ∃ i : Nat, g = l.length - i ∧ i ≤ l.length ∧ iq = .int .i64 i ∧ Sat w0 wr F)
  case atStart => exact ⟨0, rfl, Nat.zero_le _, rfl, h⟩
  case round =>
    obtain ⟨i, rfl, hiN, rfl, hS⟩ := hrel
    clear h
    by_cases hi : i < l.length
    · have hic : (i : Int) < (l.length : Int) := by omega
      have hwi : IntKind.i64.wrap ((i : Int) + 1) = (i : Int) + 1 := IntWalk.i64_in _ (by have := Hlen.out; omega)
      obtain ⟨q, hq⟩ : ∃ q, l[i]? = some q := ⟨_, List.getElem?_eq_getElem hi⟩
      have hS1 := hS.drew
      obtain ⟨bk, off, c', e1, d1⟩ := osl_row Hkl.out (Ha.out _ hS1) hq (by decide)
      obtain ⟨bk2, off2, c2', e2, d2⟩ := osl_row Hkl.out (Hb.out _ hS1) hq (by decide)
      cases e1; cases e2
      have Hqk := Lib.hid (Hk.out q (List.mem_of_getElem? hq))
      have Hql := Lib.hid (Hkl.out q (List.mem_of_getElem? hq))
      have Hi := Lib.hid hi
      clear hq hi hiN
      go_wp2_with fail
      refine wpL_begin [8] (fun w' => w'.rangeAt bk (off + i * 35) (kvL q) ∧ w'.rangeAt bk2 (off2 + i * 35) (kvL q)) (by kernel_rfl) ?_
      have hG : World.rangeAt _ bk (off + i * 35) (kvL q) ∧ World.rangeAt _ bk2 (off2 + i * 35) (kvL q) := And.intro d1 d2
      refine rp 0 (hy := (yl_move evD)) (h := ?_)
      refine rp 1 (hy := (yl_move evD)) (h := ?_)
      refine rp 2 (hy := (yl_index evD evD rnD)) (h := ?_)
      refine rg_take 3 evD (by kernel_rfl) (by intro _ _ _ h; exact h) (tk_loadN (b := bk) (o := off + i * 35) (kvL q) (by rfl) Tryz.underlying117 rfl (by rw [Hql.out]; kernel_rfl) (fun w hw => hw.1)) (by assumption) (by go_frame; first | done | rfl) ?_
      refine rp 4 (hy := (yl_move evD)) (h := ?_)
      refine rp 5 (hy := (yl_move evD)) (h := ?_)
      refine rp 6 (hy := (yl_index evD evD rnD)) (h := ?_)
      refine rg_take 7 evD (by kernel_rfl) (by intro _ _ _ h; exact h) (tk_loadN (b := bk2) (o := off2 + i * 35) (kvL q) (by rfl) Tryz.underlying117 rfl (by rw [Hql.out]; kernel_rfl) (fun w hw => hw.2)) (by assumption) (by go_frame; first | done | rfl) ?_
      clear hG d1 d2
      refine rg_pure 8 evD (by kernel_rfl) (by intro _ _ _ h; exact h) (yl_bin evD evD (fun w => by
        have := neq_self (eqIn_kv q Hqk.out) w
        simp [eqGuard, Sem.run_bind, this]; rfl)) (by go_frame; first | done | rfl) ?_
      refine wpL_done (by kernel_rfl) ?_
      try simp only [List.getElem_toArray, List.getElem_cons_succ, List.getElem_cons_zero]
      try go_frame
      go_wp2_with fail
      go_roundg (l.length - (i + 1))
      case measure => have := Hi.out; omega
      case rel => exact ⟨i + 1, rfl, Nat.succ_le_of_lt Hi.out, by first | rfl | go_num, hS1⟩
    · obtain rfl : i = l.length := by omega
      have hic : ¬ (l.length : Int) < (l.length : Int) := by omega
      clear hi hiN
      go_wp2_with fail
      go_ret
      exact ⟨.bool true, rfl, rfl, hS⟩
set_option maxRecDepth 20000 in
set_option maxHeartbeats 4000000 in
theorem sameUses_c (l : List Rep.Use) (ha : Ro w0 F (rdsl 3 av (l.flatMap uenc))) (hb : Ro w0 F (rdsl 3 bv (l.flatMap uenc))) (h : Sat w0 w F) (hlen : l.length ≤ 1073741824) :
    Calls Tryz.prog 57 #[av, bv] w (Rtn fun v w' => v = .bool true ∧ Sat w0 w' F) := by
  have Hkl := Lib.hid (show ∀ q ∈ l, (uenc q).length = 3 from fun q hq => uenc_len q)
  obtain ⟨aa, ac, rfl⟩ := osl_rows Hkl.out (ha w h) (by decide)
  obtain ⟨ba, bc, rfl⟩ := osl_rows Hkl.out (hb w h) (by decide)
  have Ha := Lib.hid ha; have Hb := Lib.hid hb; have Hlen := Lib.hid hlen
  clear ha hb hlen
  go_enter Tryz.func57, Tryz.ntmps57
  go_wp2_with fail
  go_loopg [5] l.length (fun g iq wr => ∃ i : Nat, g = l.length - i ∧ i ≤ l.length ∧ iq = .int .i64 i ∧ Sat w0 wr F)
  case atStart => exact ⟨0, rfl, Nat.zero_le _, rfl, h⟩
  case round =>
    obtain ⟨i, rfl, hiN, rfl, hS⟩ := hrel
    clear h
    by_cases hi : i < l.length
    · have hic : (i : Int) < (l.length : Int) := by omega
      have hwi : IntKind.i64.wrap ((i : Int) + 1) = (i : Int) + 1 := IntWalk.i64_in _ (by have := Hlen.out; omega)
      obtain ⟨q, hq⟩ : ∃ q, l[i]? = some q := ⟨_, List.getElem?_eq_getElem hi⟩
      have hS1 := hS.drew
      obtain ⟨bk, off, c', e1, d1⟩ := osl_row Hkl.out (Ha.out _ hS1) hq (by decide)
      obtain ⟨bk2, off2, c2', e2, d2⟩ := osl_row Hkl.out (Hb.out _ hS1) hq (by decide)
      cases e1; cases e2
      have Hi := Lib.hid hi
      clear hq hi hiN
      go_wp2_with fail
      refine wpL_begin [8] (fun w' => w'.rangeAt bk (off + i * 3) (uenc q) ∧ w'.rangeAt bk2 (off2 + i * 3) (uenc q)) (by kernel_rfl) ?_
      have hG : World.rangeAt _ bk (off + i * 3) (uenc q) ∧ World.rangeAt _ bk2 (off2 + i * 3) (uenc q) := And.intro d1 d2
      refine rp 0 (hy := (yl_move evD)) (h := ?_)
      refine rp 1 (hy := (yl_move evD)) (h := ?_)
      refine rp 2 (hy := (yl_index evD evD rnD)) (h := ?_)
      refine rg_take 3 evD (by kernel_rfl) (by intro _ _ _ h; exact h) (tk_loadN (b := bk) (o := off + i * 3) (uenc q) (by rfl) Tryz.underlying115 rfl (by kernel_rfl) (fun w hw => hw.1)) (by assumption) (by go_frame; first | done | rfl) ?_
      refine rp 4 (hy := (yl_move evD)) (h := ?_)
      refine rp 5 (hy := (yl_move evD)) (h := ?_)
      refine rp 6 (hy := (yl_index evD evD rnD)) (h := ?_)
      refine rg_take 7 evD (by kernel_rfl) (by intro _ _ _ h; exact h) (tk_loadN (b := bk2) (o := off2 + i * 3) (uenc q) (by rfl) Tryz.underlying115 rfl (by kernel_rfl) (fun w hw => hw.2)) (by assumption) (by go_frame; first | done | rfl) ?_
      clear hG d1 d2
      refine rg_pure 8 evD (by kernel_rfl) (by intro _ _ _ h; exact h) (yl_bin evD evD (fun w => by
        have := neq_self (eqIn_use q.seg q.size q.live) w
        unfold uenc
        simp [eqGuard, Sem.run_bind, this]; rfl)) (by go_frame; first | done | rfl) ?_
      refine wpL_done (by kernel_rfl) ?_
      try simp only [List.getElem_toArray, List.getElem_cons_succ, List.getElem_cons_zero]
      try go_frame
      go_wp2_with fail
      go_roundg (l.length - (i + 1))
      case measure => have := Hi.out; omega
      case rel => exact ⟨i + 1, rfl, Nat.succ_le_of_lt Hi.out, by first | rfl | go_num, hS1⟩
    · obtain rfl : i = l.length := by omega
      have hic : ¬ (l.length : Int) < (l.length : Int) := by omega
      clear hi hiN
      go_wp2_with fail
      go_ret
      exact ⟨.bool true, rfl, rfl, hS⟩
end
end Go.Proofs.YtmjldaedhmipkaaGreatDoor
namespace Go.Frm
theorem read_tag {b : Bs} (h : (read b).2.2 = 0) : (read b).1.tag = 0 ∨ (read b).1.tag = 1 ∨ (read b).1.tag = 2 := by
  unfold read at *
  dsimp only at *
  split at h
  · simp at h
  rename_i h9
  rw [if_neg h9]
  split at h
  · simp at h
  rename_i hf
  rw [if_neg hf]
  split at h
  · simp at h
  rename_i hl
  rw [if_neg hl]
  split at h
  · simp at h
  rename_i hc
  rw [if_neg hc]
  have ht : b.getD 8 0 = 0 ∨ b.getD 8 0 = 1 ∨ b.getD 8 0 = 2 := by
    unfold fits at hf
    split at hf
    · exact .inl (by assumption)
    split at hf
    · exact .inr (.inl (by assumption))
    split at hf
    · exact .inr (.inr (by assumption))
    · exact absurd rfl hf
  split
  all_goals
    dsimp only
    rcases ht with e | e | e <;> rw [e]
    · exact .inl rfl
    · exact .inr (.inl rfl)
    · exact .inr (.inr rfl)
theorem scanL_ok : ∀ (k : Nat) (b : Bs) (at_ : Nat), ∀ f ∈ (scanL k b at_).1, (f.e.tag = 0 ∨ f.e.tag = 1 ∨ f.e.tag = 2) ∧ f.e.key.length = 32 ∧ 9 ≤ f.size ∧ f.size ≤ b.length
  | 0, _, _, f, hf => by cases hf
  | k + 1, b, at_, f, hf => by
    unfold scanL at hf
    split at hf
    · cases hf
    split at hf
    · cases hf
    rename_i he
    have he : (read b).2.2 = 0 := by simpa using he
    have h1 := read_ok he
    simp only at hf
    rcases List.mem_cons.1 hf with rfl | hf
    · exact ⟨read_tag he, h1.2.2, h1.1, h1.2.1⟩
    · have h2 := scanL_ok k _ _ f hf
      refine ⟨h2.1, h2.2.1, h2.2.2.1, Nat.le_trans h2.2.2.2 ?_⟩
      rw [List.length_drop]; omega
theorem scan_ok (b : Bs) : ∀ f ∈ (scan b).1, (f.e.tag = 0 ∨ f.e.tag = 1 ∨ f.e.tag = 2) ∧ f.e.key.length = 32 ∧ 9 ≤ f.size ∧ f.size ≤ b.length := fun f hf => by
  unfold scan at hf
  split at hf
  · have h := scanL_ok _ _ _ f hf
    refine ⟨h.1, h.2.1, h.2.2.1, Nat.le_trans h.2.2.2 ?_⟩
    rw [List.length_drop]; omega
  · cases hf
end Go.Frm
namespace Go.Rep
open Go.Frm (Bs Fnd)
open Go.Seg (Plc)
open Go.Tab
theorem rowsOf_mem {bt : Told} {ns : List Int} {r : Row} (h : r ∈ rowsOf bt ns) : r.1 ∈ ns ∧ r.2 ∈ (Frm.scan (bt r.1).1).1 := by
  unfold rowsOf at h
  obtain ⟨s, hs, h⟩ := List.mem_flatMap.1 h
  obtain ⟨f, hf, rfl⟩ := List.mem_map.1 h
  exact ⟨hs, hf⟩
theorem rowsOf_rows {bt : Told} {ns : List Int} (hr : ns.Pairwise (· < ·)) (h0 : ∀ s ∈ ns, 0 ≤ s) : Rows (rowsOf bt ns) := by
  refine ⟨fun r h => (Frm.scan_ok _ _ (rowsOf_mem h).2).1, fun r h => h0 _ (rowsOf_mem h).1, ?_⟩
  unfold rowsOf
  rw [List.pairwise_flatMap]
  refine ⟨fun s _ => ?_, hr.imp fun {a b} hab x hx y hy => ?_⟩
  · rw [List.pairwise_map]
    exact List.pairwise_of_forall fun _ _ => Int.le_refl s
  · obtain ⟨_, _, rfl⟩ := List.mem_map.1 hx
    obtain ⟨_, _, rfl⟩ := List.mem_map.1 hy
    exact Int.le_of_lt hab
theorem rowsOf_count {bt : Told} {c : Nat} : ∀ (ns : List Int), (∀ s ∈ ns, (bt s).1.length ≤ c) → (rowsOf bt ns).length ≤ ns.length * c
  | [], _ => Nat.zero_le _
  | s :: ns, h => by
    have e : rowsOf bt (s :: ns) = ((Frm.scan (bt s).1).1.map fun f => (s, f)) ++ rowsOf bt ns := rfl
    have h1 := Frm.scan_count (bt s).1
    have h2 := h s (.head _)
    have h3 := rowsOf_count ns fun x hx => h x (.tail _ hx)
    rw [e, List.length_append, List.length_map, List.length_cons, Nat.succ_mul]
    omega
theorem rowsOf_size {bt : Told} {ns : List Int} {c : Nat} (h : ∀ s ∈ ns, (bt s).1.length ≤ c) {r : Row} (hr : r ∈ rowsOf bt ns) : r.2.size ≤ c :=
  Nat.le_trans (Frm.scan_ok _ _ (rowsOf_mem hr).2).2.2.2 (h _ (rowsOf_mem hr).1)
def uAt (l : List Row) (us : List Use) (i : Nat) : List Use := us.map fun u => ⟨u.seg, u.size, u.live + live l u.seg i⟩
theorem live_le {l : List Row} {b : Int} (hb : 0 ≤ b) (h : ∀ r ∈ l, (r.2.size : Int) ≤ b) (s : Int) : ∀ i, 0 ≤ live l s i ∧ live l s i ≤ b * i
  | 0 => ⟨Int.le_refl 0, by simp [live]⟩
  | i + 1 => by
    have ih := live_le hb h s i
    have e : b * ((i + 1 : Nat) : Int) = b * i + b := by rw [Int.natCast_add, Int.mul_add]; simp
    unfold live
    split
    · rw [e]; omega
    · rename_i r hr
      have := h r (List.mem_of_getElem? hr)
      rw [e]
      split <;> omega
theorem uAt_zero (l : List Row) (us : List Use) : uAt l us 0 = us := by
  unfold uAt
  rw [List.map_congr_left (g := id)]
  · exact List.map_id _
  · intro u _; show (⟨u.seg, u.size, u.live + 0⟩ : Use) = u; rw [Int.add_zero]
theorem uAt_all {l : List Row} (hl : Rows l) {kv : List (Bs × Abt)} (hk : Lists (ledger l) kv) {us : List Use} (h0 : ∀ u ∈ us, u.live = 0) : uAt l us l.length = us.map (upd kv) := by
  unfold uAt upd
  refine List.map_congr_left fun u hu => ?_
  rw [live_eq hl hk, h0 u hu, Int.zero_add]
theorem uAt_len (l : List Row) (us : List Use) (i : Nat) : (uAt l us i).length = us.length := List.length_map ..
theorem usesOf_zero (bt : Told) (ns : List Int) : ∀ u ∈ usesOf bt ns, u.live = 0 := fun u hu => by
  unfold usesOf at hu
  obtain ⟨s, _, rfl⟩ := List.mem_map.1 hu
  rfl
theorem idx_len (l : List Row) : ∀ i, (idx l i).length ≤ i
  | 0 => Nat.le_refl 0
  | i + 1 => by
    have ih := idx_len l i
    unfold idx
    split
    · omega
    · split
      · rename_i r _ _
        have : ∀ (k : List (Bs × Plc)) (x : Bs × Plc), (ins k x).length = k.length + 1 := by
          intro k x
          induction k with
          | nil => rfl
          | cons y k ih => unfold ins; split <;> simp [ih]
        rw [this]; omega
      · omega
theorem idx_key {l : List Row} (h : ∀ r ∈ l, (rkey r).length = 32) {n : Nat} : ∀ q ∈ idx l n, q.1.length = 32 := fun q hq => by
  obtain ⟨i, r, _, hr, _, _, rfl⟩ := idx_mem.1 hq
  exact h r (List.mem_of_getElem? hr)
end Go.Rep
namespace Go.Rep
open Go.Frm (Bs Fnd)
open Go.Seg (Plc)
open Go.Tab
def hit (k : Bs) (r : Row) : Bool := decide (rtag r < 2) && decide (rkey r = k)
def newIdx (l : List Row) (k : Bs) : Nat → Int
  | 0 => -1
  | i + 1 => match l[i]? with
    | none => newIdx l k i
    | some r => if hit k r = true then (i : Int) else newIdx l k i
section
variable {l : List Row} {k : Bs} {i : Nat} {r : Row}
theorem newIdx_hit (hr : l[i]? = some r) (h : hit k r = true) : newIdx l k (i + 1) = i := by
  conv => lhs; unfold newIdx
  rw [hr]; simp only; rw [if_pos h]
theorem newIdx_miss (hr : l[i]? = some r) (h : hit k r = false) : newIdx l k (i + 1) = newIdx l k i := by
  conv => lhs; unfold newIdx
  rw [hr]; simp only; rw [if_neg (by rw [h]; decide)]
theorem newIdx_lt (l : List Row) (k : Bs) : ∀ n, newIdx l k n < n ∧ -1 ≤ newIdx l k n
  | 0 => ⟨by unfold newIdx; decide, by unfold newIdx; decide⟩
  | n + 1 => by
    have := newIdx_lt l k n
    unfold newIdx
    split
    · omega
    · split <;> omega
theorem newIdx_iff (l : List Row) (k : Bs) : ∀ (n i : Nat), n ≤ l.length → i < n → (newIdx l k n = i ↔ (∃ r, l[i]? = some r ∧ hit k r = true) ∧ ∀ j, i < j → j < n → ∀ x, l[j]? = some x → hit k x = false)
  | 0, i, _, h => by omega
  | n + 1, i, hn, hi => by
    obtain ⟨r, hr⟩ : ∃ r, l[n]? = some r := ⟨_, List.getElem?_eq_getElem (by omega)⟩
    cases hh : hit k r with
    | true =>
      rw [newIdx_hit hr hh]
      constructor
      · intro e
        obtain rfl : n = i := by omega
        exact ⟨⟨r, hr, hh⟩, fun j h1 h2 => by omega⟩
      · rintro ⟨_, h2⟩
        by_cases e : i = n
        · rw [e]
        · have := h2 n (by omega) (by omega) r hr
          rw [hh] at this; cases this
    | false =>
      rw [newIdx_miss hr hh]
      by_cases e : i = n
      · subst e
        constructor
        · intro e; have := (newIdx_lt l k i).1; omega
        · rintro ⟨⟨x, hx, hxx⟩, _⟩
          rw [hr] at hx; cases hx
          rw [hh] at hxx; cases hxx
      · rw [newIdx_iff l k n i (by omega) (by omega)]
        refine and_congr_right fun _ => ⟨fun h j h1 h2 x hx => ?_, fun h j h1 h2 x hx => h j h1 (by omega) x hx⟩
        by_cases ej : j = n
        · subst ej; rw [hr] at hx; cases hx; exact hh
        · exact h j h1 (by omega) x hx
theorem newIdx_new (hr : l[i]? = some r) : decide (newIdx l (rkey r) l.length = i) = isNew l i := by
  have hi := (List.getElem?_eq_some_iff.1 hr).1
  rw [Bool.eq_iff_iff, decide_eq_true_eq, newIdx_iff l _ l.length i (Nat.le_refl _) hi]
  unfold isNew
  rw [hr]
  simp only [Bool.and_eq_true, List.all_eq_true, decide_eq_true_eq]
  constructor
  · rintro ⟨⟨x, hx, hh⟩, h2⟩
    cases hx
    unfold hit at hh
    rw [Bool.and_eq_true, decide_eq_true_eq] at hh
    refine ⟨hh.1, fun x hx => ?_⟩
    obtain ⟨j, hj⟩ := List.getElem?_of_mem hx
    rw [List.getElem?_drop] at hj
    have := h2 (i + 1 + j) (by omega) (List.getElem?_eq_some_iff.1 hj).1 x hj
    unfold hit at this
    rw [this]; rfl
  · rintro ⟨h1, h2⟩
    refine ⟨⟨r, rfl, by unfold hit; simp [h1]⟩, fun j hj1 hj2 x hx => ?_⟩
    have hm : x ∈ l.drop (i + 1) := by
      refine List.mem_of_getElem? (i := j - (i + 1)) ?_
      rw [List.getElem?_drop, show i + 1 + (j - (i + 1)) = j by omega]; exact hx
    have := h2 x hm
    rw [Bool.not_eq_true'] at this
    exact this
def elder (r x : Row) : Bool := decide (rtag x = 0) && decide (rkey x = rkey r) && decide (x.1 < r.1)
theorem cnt_two (hr : l[i]? = some r) (h : rtag r = 2) : cnt l i = false := by unfold cnt; rw [hr]; simp [h]
theorem cnt_old (hr : l[i]? = some r) (h : isNew l i = false) : cnt l i = false := by unfold cnt; rw [hr]; simp [h]
theorem cnt_put (hr : l[i]? = some r) (h : isNew l i = true) (h0 : rtag r = 0) : cnt l i = true := by unfold cnt; rw [hr]; simp [h, h0]
theorem cnt_del (hr : l[i]? = some r) (h : isNew l i = true) (h2 : rtag r ≠ 2) (h0 : rtag r ≠ 0) : cnt l i = (l.take i).any (elder r) := by unfold cnt; rw [hr]; simp [h, h0, h2]; rfl
theorem any_hit {p : Row → Bool} {n k : Nat} {x : Row} (hk : k < n) (hx : l[k]? = some x) (h : p x = true) : (l.take n).any p = true := by
  rw [List.any_eq_true]
  refine ⟨x, List.mem_of_getElem? (i := k) ?_, h⟩
  rw [List.getElem?_take, if_pos hk]; exact hx
theorem any_miss {p : Row → Bool} {k : Nat} {x : Row} (hx : l[k]? = some x) (h0 : (l.take k).any p = false) (h : p x = false) : (l.take (k + 1)).any p = false := by
  rw [List.take_add_one, hx, List.any_append, h0]; simp [h]
end
section
variable {V : Type}
def insB (l : List (Bs × V)) (x : Bs × V) : Nat → List (Bs × V) × Bool
  | 0 => ([], false)
  | i + 1 => match l[i]? with
    | none => insB l x i
    | some y => if (insB l x i).2 = false ∧ x.1 < y.1 then ((insB l x i).1 ++ [x] ++ [y], true) else ((insB l x i).1 ++ [y], (insB l x i).2)
variable {l : List (Bs × V)} {x y : Bs × V} {i : Nat}
theorem insB_in (hy : l[i]? = some y) (h0 : (insB l x i).2 = false) (h : x.1 < y.1) : insB l x (i + 1) = ((insB l x i).1 ++ [x] ++ [y], true) := by
  conv => lhs; unfold insB
  rw [hy]; simp only; rw [if_pos ⟨h0, h⟩]
theorem insB_by (hy : l[i]? = some y) (h : ¬ ((insB l x i).2 = false ∧ x.1 < y.1)) : insB l x (i + 1) = ((insB l x i).1 ++ [y], (insB l x i).2) := by
  conv => lhs; unfold insB
  rw [hy]; simp only; rw [if_neg h]
theorem insB_len (l : List (Bs × V)) (x : Bs × V) : ∀ i, (insB l x i).1.length ≤ i + 1 ∧ ((insB l x i).2 = false → (insB l x i).1.length ≤ i)
  | 0 => ⟨Nat.zero_le _, fun _ => Nat.zero_le _⟩
  | i + 1 => by
    have ih := insB_len l x i
    unfold insB
    split
    · exact ⟨by omega, fun h => by have := ih.2 h; omega⟩
    · split
      · rename_i h
        have := ih.2 h.1
        exact ⟨by simp only [List.length_append, List.length_singleton]; omega, fun h => by cases h⟩
      · refine ⟨by simp only [List.length_append, List.length_singleton]; omega, fun h => ?_⟩
        have := ih.2 h
        simp only [List.length_append, List.length_singleton]; omega
theorem ins_split (x : Bs × V) : ∀ (l : List (Bs × V)) (i : Nat), i ≤ l.length → (insB l x i).1 ++ (if (insB l x i).2 = true then l.drop i else ins (l.drop i) x) = ins l x
  | l, 0, _ => by simp [insB]
  | l, i + 1, h => by
    have ih := ins_split x l i (by omega)
    obtain ⟨y, hy⟩ : ∃ y, l[i]? = some y := ⟨_, List.getElem?_eq_getElem (by omega)⟩
    have hd : l.drop i = y :: l.drop (i + 1) := by
      obtain ⟨h1, rfl⟩ := List.getElem?_eq_some_iff.1 hy
      exact List.drop_eq_getElem_cons h1
    rw [hd] at ih
    by_cases hc : (insB l x i).2 = false ∧ x.1 < y.1
    · rw [insB_in hy hc.1 hc.2]
      rw [if_neg (by rw [hc.1]; decide)] at ih
      simp only [if_true]
      rw [← ih]
      unfold ins
      rw [if_pos hc.2]
      simp
    · rw [insB_by hy hc]
      cases hb : (insB l x i).2 with
      | true =>
        rw [hb, if_pos rfl] at ih
        simp only [if_true]
        rw [← ih]; simp
      | false =>
        rw [hb, if_neg (by decide)] at ih
        simp only [Bool.false_eq_true, if_false]
        rw [← ih]
        have hn : ¬ x.1 < y.1 := fun h => hc ⟨hb, h⟩
        conv => rhs; unfold ins
        rw [if_neg hn]
        simp
theorem ins_done (h : (insB l x l.length).2 = true) : (insB l x l.length).1 = ins l x := by
  have := ins_split x l l.length (Nat.le_refl _)
  rw [if_pos h, List.drop_length, List.append_nil] at this
  exact this
theorem ins_not (h : (insB l x l.length).2 = false) : (insB l x l.length).1 ++ [x] = ins l x := by
  have := ins_split x l l.length (Nat.le_refl _)
  rw [if_neg (by rw [h]; decide), List.drop_length] at this
  exact this
end
section
variable {l : List Row} {us : List Use} {i k : Nat} {r : Row} {u : Use}
theorem idx_skip (hr : l[i]? = some r) (h : cnt l i = false) : idx l (i + 1) = idx l i := by
  conv => lhs; unfold idx
  rw [hr]; simp only; rw [if_neg (by rw [h]; exact fun h => Bool.false_ne_true h.1)]
theorem idx_del (hr : l[i]? = some r) (h : rtag r ≠ 0) : idx l (i + 1) = idx l i := by
  conv => lhs; unfold idx
  rw [hr]; simp only; rw [if_neg (fun hh => h hh.2)]
theorem idx_put (hr : l[i]? = some r) (h : cnt l i = true) (h0 : rtag r = 0) : idx l (i + 1) = ins (idx l i) (rkey r, rplc r) := by
  conv => lhs; unfold idx
  rw [hr]; simp only; rw [if_pos ⟨h, h0⟩]
theorem live_skip (hr : l[i]? = some r) (h : cnt l i = false) (s : Int) : live l s (i + 1) = live l s i := by
  conv => lhs; unfold live
  rw [hr]; simp only; rw [if_neg (by rw [h]; exact fun h => Bool.false_ne_true h.1)]
theorem live_add (hr : l[i]? = some r) (h : cnt l i = true) : live l r.1 (i + 1) = live l r.1 i + r.2.size := by
  conv => lhs; unfold live
  rw [hr]; simp only; rw [if_pos ⟨h, trivial⟩]
theorem live_other (hr : l[i]? = some r) {s : Int} (h : r.1 ≠ s) : live l s (i + 1) = live l s i := by
  conv => lhs; unfold live
  rw [hr]; simp only; rw [if_neg (fun hh => h hh.2)]
theorem uAt_skip (hr : l[i]? = some r) (h : cnt l i = false) : uAt l us (i + 1) = uAt l us i := by
  unfold uAt
  refine List.map_congr_left fun u _ => ?_
  rw [live_skip hr h]
def uMix (l : List Row) (us : List Use) (i k : Nat) : List Use := (uAt l us (i + 1)).take k ++ (uAt l us i).drop k
theorem uMix_zero : uMix l us i 0 = uAt l us i := by unfold uMix; simp
theorem uMix_all : uMix l us i us.length = uAt l us (i + 1) := by
  unfold uMix
  rw [List.take_of_length_le (by rw [uAt_len]; exact Nat.le_refl _), List.drop_of_length_le (by rw [uAt_len]; exact Nat.le_refl _), List.append_nil]
theorem uMix_len : (uMix l us i k).length = us.length := by
  unfold uMix
  rw [List.length_append, List.length_take, List.length_drop, uAt_len, uAt_len]; omega
theorem uMix_get (hu : us[k]? = some u) : (uMix l us i k)[k]? = some ⟨u.seg, u.size, u.live + live l u.seg i⟩ := by
  have hk := (List.getElem?_eq_some_iff.1 hu).1
  unfold uMix
  have h1 : ((uAt l us (i + 1)).take k).length = k := by rw [List.length_take, uAt_len]; omega
  rw [List.getElem?_append_right (by omega), h1, Nat.sub_self, List.getElem?_drop, Nat.add_zero]
  unfold uAt
  rw [List.getElem?_map, hu]; rfl
theorem uMix_next (hu : us[k]? = some u) : uMix l us i (k + 1) = (uMix l us i k).set k ⟨u.seg, u.size, u.live + live l u.seg (i + 1)⟩ := by
  have hk := (List.getElem?_eq_some_iff.1 hu).1
  unfold uMix
  have h1 : ((uAt l us (i + 1)).take k).length = k := by rw [List.length_take, uAt_len]; omega
  have h2 : (uAt l us (i + 1))[k]? = some ⟨u.seg, u.size, u.live + live l u.seg (i + 1)⟩ := by unfold uAt; rw [List.getElem?_map, hu]; rfl
  have h3 : (uAt l us i)[k]? = some ⟨u.seg, u.size, u.live + live l u.seg i⟩ := by unfold uAt; rw [List.getElem?_map, hu]; rfl
  have h4 : (uAt l us i).drop k = ⟨u.seg, u.size, u.live + live l u.seg i⟩ :: (uAt l us i).drop (k + 1) := by
    obtain ⟨a, b⟩ := List.getElem?_eq_some_iff.1 h3
    rw [← b]; exact List.drop_eq_getElem_cons a
  rw [List.take_add_one, h2, Option.toList_some, h4, List.set_append_right _ _ (by omega), h1, Nat.sub_self, List.set_cons_zero, List.append_assoc]
  rfl
theorem uMix_same (hu : us[k]? = some u) (hr : l[i]? = some r) (h : r.1 ≠ u.seg) : uMix l us i (k + 1) = uMix l us i k := by
  rw [uMix_next hu, live_other hr h]
  obtain ⟨h1, h2⟩ := List.getElem?_eq_some_iff.1 (uMix_get (l := l) (i := i) hu)
  rw [← h2]; exact List.set_getElem_self h1
theorem uMix_add (hu : us[k]? = some u) (hr : l[i]? = some r) (hc : cnt l i = true) (h : r.1 = u.seg) : uMix l us i (k + 1) = (uMix l us i k).set k ⟨u.seg, u.size, u.live + live l u.seg i + r.2.size⟩ := by
  rw [uMix_next hu, ← h, live_add hr hc, Int.add_assoc]
end
end Go.Rep
namespace Go.Proofs.YtmjldaedhmipkaaGreatDoor
open Go Go.Sl Go.Med Go.MapKept Go.RowKit
def rwL (q : Rep.Row × Value) : List Value := .int .i64 q.1.1 :: fndL q.1.2 q.2
theorem rwL_len (q : Rep.Row × Value) (hk : q.1.2.e.key.length = 32) : (rwL q).length = 37 := by unfold rwL; rw [List.length_cons, fndL_len _ _ hk]
theorem rwL_tag (q : Rep.Row × Value) : (rwL q)[1]? = some (.int .i64 q.1.2.e.tag) := rfl
theorem rwL_key (q : Rep.Row × Value) (hk : q.1.2.e.key.length = 32) : ∀ j v, (bys q.1.2.e.key)[j]? = some v → (rwL q)[2 + j]? = some v := fun j v hj => by
  have h := (fnd_cell q.1.2 q.2 hk).2.2 j v hj
  unfold fndA at h
  rw [List.getElem?_toArray] at h
  show (Value.int .i64 q.1.1 :: fndL q.1.2 q.2)[2 + j]? = some v
  rw [show 2 + j = (1 + j) + 1 by omega, List.getElem?_cons_succ]; exact h
theorem rwL_at (q : Rep.Row × Value) (hk : q.1.2.e.key.length = 32) : (rwL q)[35]? = some (.int .i64 q.1.2.at_) ∧ (rwL q)[36]? = some (.int .i64 q.1.2.size) := by
  obtain ⟨h1, h2, _⟩ := fnd_cell q.1.2 q.2 hk
  unfold fndA at h1 h2
  rw [List.getElem?_toArray] at h1 h2
  exact ⟨h1, h2⟩
theorem rwL_ones (q : Rep.Row × Value) {a : Option Addr} {n c : Nat} (h : q.2 = .slice a n c) : (rwL q).all (·.oneCell') = true := by
  have := fndA_ones q.1.2 a n c
  unfold fndA at this
  rw [List.toList_toArray] at this
  unfold rwL
  rw [List.all_cons, h, this]; rfl
def zeroR : Rep.Row × Value := ((0, zeroF), .slice none 0 0)
theorem zRow : zeroB Tryz.prog 212 = some (.agg (rwL zeroR).toArray) := by kernel_rfl
theorem infoRow : (Tryz.prog.info? 212).map (·.size) = some 37 := by kernel_rfl
theorem infoID : (Tryz.prog.info? 41).map (·.size) = some 32 := by kernel_rfl
set_option maxRecDepth 20000 in
theorem eql_key (k l : Frm.Bs) (hk : k.length = 32) (hl : l.length = 32) (w : World) : (binOp .eql 41 (.agg (bys k).toArray) (.agg (bys l).toArray)).run Tryz.prog w = .ok (.bool (decide (k = l))) w := by
  rw [run_eql_struct, eqIn_key k l hk hl]; rfl
theorem eqG_key (x y : Operand) (k l : Frm.Bs) (hk : k.length = 32) (hl : l.length = 32) (w : World) : ((do eqGuard .eql 41 x y (.agg (bys k).toArray) (.agg (bys l).toArray); binOp .eql 41 (.agg (bys k).toArray) (.agg (bys l).toArray)) : Sem Value).run Tryz.prog w = .ok (.bool (decide (k = l))) w := by
  simp [eqGuard, Sem.run_bind, eql_key k l hk hl w]
section
variable {w0 w : World} {F : List HProp} {rv : Value}
theorem row_at {rs : List (Rep.Row × Value)} (hk : ∀ q ∈ rs, q.1.2.e.key.length = 32) (h : rdsl 37 rv (rs.flatMap rwL) w) {i : Nat} {q : Rep.Row × Value} (hi : rs[i]? = some q) :
    ∃ bk off c, rv = .slice (some ⟨bk, off, none⟩) rs.length c ∧ (∀ j v, (rwL q)[j]? = some v → w.cell? ⟨bk, off + i * 37 + j, none⟩ = some v) :=
  osl_row (fun p hp => rwL_len p (hk p hp)) h hi (by decide)
set_option maxRecDepth 20000 in
set_option maxHeartbeats 8000000 in
theorem rnewest_c (rs : List (Rep.Row × Value)) (hk : ∀ q ∈ rs, q.1.2.e.key.length = 32) (k : Bs) (hkl : k.length = 32) (hlen : rs.length ≤ 1073741824) (hr : Ro w0 F (rdsl 37 rv (rs.flatMap rwL))) (h : Sat w0 w F) :
    Calls Tryz.prog 175 #[rv, .agg (bys k).toArray] w (Rtn fun v w' => v = .int .i64 (Rep.newIdx (rs.map (·.1)) k rs.length) ∧ Sat w0 w' F) := by
  obtain ⟨sa, sc, rfl⟩ := osl_rows (f := rwL) (fun p hp => rwL_len p (hk p hp)) (hr w h) (by decide)
  have Hk := Lib.hid hk; have Hkl := Lib.hid hkl; have Hlen := Lib.hid hlen; have Hr := Lib.hid hr
  have w1 : IntKind.i64.wrap ((rs.length : Int) - 1) = (rs.length : Int) - 1 := IntWalk.i64_in _ (by omega)
  clear hk hkl hlen hr
  go_enter Tryz.func175, Tryz.ntmps175
  go_wp2_with (with_reducible apply at_box)
  refine ⟨?_⟩
  refine wl_box h evD evD ?_
  intro b3 w3 h3
  clear h
  go_wp2_with fail
  go_loopg [5] rs.length (fun g iq wr => ∃ n : Nat, g = 0 + n ∧ n ≤ rs.length ∧ iq = .int .i64 ((n : Int) - 1) ∧ Rep.newIdx (rs.map (·.1)) k rs.length = Rep.newIdx (rs.map (·.1)) k n ∧
    Sat w0 wr (pt b3 (.cells (bys k).toArray 41 (0,0)) :: F))
  case atStart => exact ⟨rs.length, (Nat.zero_add _).symm, Nat.le_refl _, rfl, rfl, h3⟩
  case round =>
    obtain ⟨n, rfl, hn, rfl, he, hS⟩ := hrel
    clear h3
    cases n with
    | zero =>
      have c1 : ¬ (((0 : Nat) : Int) - 1) ≥ 0 := by decide
      have He := Lib.hid he
      clear he hn
      go_wp2_with fail
      go_ret
      rw [He.out]
      exact ⟨_, rfl, rfl, hS.drop⟩
    | succ i =>
      have e1 : ((i + 1 : Nat) : Int) - 1 = (i : Int) := by omega
      rw [e1]
      have c1 : (i : Int) ≥ 0 := by omega
      have c2 : (i : Int) < (rs.length : Int) := by omega
      have w2 : IntKind.i64.wrap ((i : Int) - 1) = (i : Int) - 1 := IntWalk.i64_in _ (by have := Hlen.out; omega)
      obtain ⟨q, hq⟩ : ∃ q, rs[i]? = some q := ⟨_, List.getElem?_eq_getElem (by omega)⟩
      have hS1 := hS.drew
      obtain ⟨bk, off, c', e2, hc⟩ := row_at Hk.out (Hr.out _ hS1.drop) hq
      cases e2
      have hqk := Hk.out q (List.mem_of_getElem? hq)
      have Hqk := Lib.hid hqk
      have hG0 : World.cell? _ ⟨bk, off + i * 37 + 1, none⟩ = some (.int .i64 q.1.2.e.tag) ∧ World.rangeAt _ bk (off + i * 37 + 2) (bys q.1.2.e.key) ∧ World.rangeAt _ b3 0 (bys k) :=
        ⟨hc 1 _ (rwL_tag q), fun j v hj => by have := hc (2 + j) v (rwL_key q hqk j v hj); rw [← Nat.add_assoc] at this; exact this, fun j v hj => by rw [Nat.zero_add]; exact hS1.cellP pick0 j (by rw [List.getElem?_toArray]; exact hj)⟩
      have hq1 : (rs.map (·.1))[i]? = some q.1 := by rw [List.getElem?_map, hq]; rfl
      have Hhit := Lib.hid (fun (hh : Rep.hit k q.1 = true) => Rep.newIdx_hit hq1 hh)
      have Hmiss := Lib.hid (fun (hh : Rep.hit k q.1 = false) => Rep.newIdx_miss hq1 hh)
      have He := Lib.hid he
      have Hn := Lib.hid hn
      clear hc hq hq1 he hn hS hqk
      by_cases ht : q.1.2.e.tag < 2
      · have hd2 : decide (q.1.2.e.tag < 2) = true := decide_eq_true ht
        by_cases hkk : q.1.2.e.key = k
        · have Hh := Lib.hid (Hhit.out (by unfold Rep.hit Rep.rtag Rep.rkey; rw [decide_eq_true ht, decide_eq_true hkk]; rfl))
          have hbin : ∀ x y w, ((do eqGuard .eql 41 x y (.agg (bys q.1.2.e.key).toArray) (.agg (bys k).toArray); binOp .eql 41 (.agg (bys q.1.2.e.key).toArray) (.agg (bys k).toArray)) : Sem Value).run Tryz.prog w = .ok (.bool true) w := fun x y w => by rw [eqG_key x y _ _ Hqk.out Hkl.out, decide_eq_true hkk]
          clear hkk
          generalize q.1.2.e.tag = t at *
          generalize hK2 : q.1.2.e.key = kk at *
          clear hK2
          go_wp2_with fail
          refine wpL_begin [17, 18] (fun w' => w'.cell? ⟨bk, off + i * 37 + 1, none⟩ = some (.int .i64 t) ∧ w'.rangeAt bk (off + i * 37 + 2) (bys kk) ∧ w'.rangeAt b3 0 (bys k)) (by kernel_rfl) ?_
          have hG := hG0
          clear hG0
          refine rp 0 (hy := (yl_move evD)) (h := ?_)
          refine rp 1 (hy := (yl_move evD)) (h := ?_)
          refine rp 2 (hy := (yl_index evD evD rnD)) (h := ?_)
          refine rp 3 (hy := (yl_field evD rnD)) (h := ?_)
          refine rp 4 (hy := (yl_field evD rnD)) (h := ?_)
          refine rp 5 (hy := (yl_field evD rnD)) (h := ?_)
          refine rt 6 (h := ?_)
          refine rp 7 (hy := (yl_bin evD evD rnD)) (h := ?_)
          refine rp 8 (hy := (yl_move evD)) (h := ?_)
          refine rp 9 (hy := (yg_move (by rfl) evD)) (h := ?_)
          refine rp 10 (hy := (yg_move (by rfl) evD)) (h := ?_)
          refine rp 11 (hy := (yg_index (by rfl) evD evD rnD)) (h := ?_)
          refine rp 12 (hy := (yg_field (by rfl) evD rnD)) (h := ?_)
          refine rp 13 (hy := (yg_field (by rfl) evD rnD)) (h := ?_)
          refine rp 14 (hy := (yg_field (by rfl) evD rnD)) (h := ?_)
          refine rg_take 15 evD (by kernel_rfl) (by intro _ _ _ h; exact h) (tg_loadN (b := bk) (o := off + i * 37 + 2) (bys kk) (by rfl) (by rfl) Tryz.underlying41 rfl (by rw [bys_len, Hqk.out]; exact infoID) (fun w hw => hw.2.1)) (by assumption) (by go_frame; first | done | rfl) ?_
          refine rg_take 16 evD (by kernel_rfl) (by intro _ _ _ h; exact h) (tg_loadN (b := b3) (o := 0) (bys k) (by rfl) (by rfl) Tryz.underlying41 rfl (by rw [bys_len, Hkl.out]; exact infoID) (fun w hw => hw.2.2)) (by assumption) (by go_frame; first | done | rfl) ?_
          clear hG
          refine rp 17 (hy := (yg_bin (by rfl) evD evD (hbin _ _))) (h := ?_)
          refine rp 18 (hy := (yg_pick (by rfl) evD evD)) (h := ?_)
          refine wpL_done (by kernel_rfl) ?_
          try simp only [List.getElem_toArray, List.getElem_cons_succ, List.getElem_cons_zero]
          try go_frame
          clear hbin
          go_wp2_with fail
          go_ret
          rw [He.out, Hh.out]
          exact ⟨_, rfl, rfl, hS1.drop⟩
        · have Hm := Lib.hid (Hmiss.out (by unfold Rep.hit Rep.rtag Rep.rkey; rw [decide_eq_false hkk]; simp))
          have hbin : ∀ x y w, ((do eqGuard .eql 41 x y (.agg (bys q.1.2.e.key).toArray) (.agg (bys k).toArray); binOp .eql 41 (.agg (bys q.1.2.e.key).toArray) (.agg (bys k).toArray)) : Sem Value).run Tryz.prog w = .ok (.bool false) w := fun x y w => by rw [eqG_key x y _ _ Hqk.out Hkl.out, decide_eq_false hkk]
          clear hkk
          generalize q.1.2.e.tag = t at *
          generalize hK2 : q.1.2.e.key = kk at *
          clear hK2
          go_wp2_with fail
          refine wpL_begin [17, 18] (fun w' => w'.cell? ⟨bk, off + i * 37 + 1, none⟩ = some (.int .i64 t) ∧ w'.rangeAt bk (off + i * 37 + 2) (bys kk) ∧ w'.rangeAt b3 0 (bys k)) (by kernel_rfl) ?_
          have hG := hG0
          clear hG0
          refine rp 0 (hy := (yl_move evD)) (h := ?_)
          refine rp 1 (hy := (yl_move evD)) (h := ?_)
          refine rp 2 (hy := (yl_index evD evD rnD)) (h := ?_)
          refine rp 3 (hy := (yl_field evD rnD)) (h := ?_)
          refine rp 4 (hy := (yl_field evD rnD)) (h := ?_)
          refine rp 5 (hy := (yl_field evD rnD)) (h := ?_)
          refine rt 6 (h := ?_)
          refine rp 7 (hy := (yl_bin evD evD rnD)) (h := ?_)
          refine rp 8 (hy := (yl_move evD)) (h := ?_)
          refine rp 9 (hy := (yg_move (by rfl) evD)) (h := ?_)
          refine rp 10 (hy := (yg_move (by rfl) evD)) (h := ?_)
          refine rp 11 (hy := (yg_index (by rfl) evD evD rnD)) (h := ?_)
          refine rp 12 (hy := (yg_field (by rfl) evD rnD)) (h := ?_)
          refine rp 13 (hy := (yg_field (by rfl) evD rnD)) (h := ?_)
          refine rp 14 (hy := (yg_field (by rfl) evD rnD)) (h := ?_)
          refine rg_take 15 evD (by kernel_rfl) (by intro _ _ _ h; exact h) (tg_loadN (b := bk) (o := off + i * 37 + 2) (bys kk) (by rfl) (by rfl) Tryz.underlying41 rfl (by rw [bys_len, Hqk.out]; exact infoID) (fun w hw => hw.2.1)) (by assumption) (by go_frame; first | done | rfl) ?_
          refine rg_take 16 evD (by kernel_rfl) (by intro _ _ _ h; exact h) (tg_loadN (b := b3) (o := 0) (bys k) (by rfl) (by rfl) Tryz.underlying41 rfl (by rw [bys_len, Hkl.out]; exact infoID) (fun w hw => hw.2.2)) (by assumption) (by go_frame; first | done | rfl) ?_
          clear hG
          refine rp 17 (hy := (yg_bin (by rfl) evD evD (hbin _ _))) (h := ?_)
          refine rp 18 (hy := (yg_pick (by rfl) evD evD)) (h := ?_)
          refine wpL_done (by kernel_rfl) ?_
          try simp only [List.getElem_toArray, List.getElem_cons_succ, List.getElem_cons_zero]
          try go_frame
          clear hbin
          go_wp2_with fail
          go_roundg (0 + i)
          case measure => omega
          case rel => exact ⟨i, rfl, Nat.le_of_succ_le Hn.out, by first | rfl | go_num, He.out.trans Hm.out, hS1⟩
      · have Hm := Lib.hid (Hmiss.out (by unfold Rep.hit Rep.rtag; rw [decide_eq_false ht]; rfl))
        have hG1 := hG0.1
        have hd2 : decide (q.1.2.e.tag < 2) = false := decide_eq_false ht
        clear hG0 ht
        generalize q.1.2.e.tag = t at *
        go_wp2_with fail
        refine wpL_begin [17, 18] (fun w' => w'.cell? ⟨bk, off + i * 37 + 1, none⟩ = some (.int .i64 t)) (by kernel_rfl) ?_
        have hG := hG1
        clear hG1
        refine rp 0 (hy := (yl_move evD)) (h := ?_)
        refine rp 1 (hy := (yl_move evD)) (h := ?_)
        refine rp 2 (hy := (yl_index evD evD rnD)) (h := ?_)
        refine rp 3 (hy := (yl_field evD rnD)) (h := ?_)
        refine rp 4 (hy := (yl_field evD rnD)) (h := ?_)
        refine rp 5 (hy := (yl_field evD rnD)) (h := ?_)
        refine rt 6 (h := ?_)
        clear hG
        refine rp 7 (hy := (yl_bin evD evD rnD)) (h := ?_)
        refine rp 8 (hy := (yl_move evD)) (h := ?_)
        refine rg_skip 9 evD (by kernel_rfl) (by intro _ _ _ h; exact h) (by rfl) (by go_frame; first | done | rfl) ?_
        refine rg_skip 10 evD (by kernel_rfl) (by intro _ _ _ h; exact h) (by rfl) (by go_frame; first | done | rfl) ?_
        refine rg_skip 11 evD (by kernel_rfl) (by intro _ _ _ h; exact h) (by rfl) (by go_frame; first | done | rfl) ?_
        refine rg_skip 12 evD (by kernel_rfl) (by intro _ _ _ h; exact h) (by rfl) (by go_frame; first | done | rfl) ?_
        refine rg_skip 13 evD (by kernel_rfl) (by intro _ _ _ h; exact h) (by rfl) (by go_frame; first | done | rfl) ?_
        refine rg_skip 14 evD (by kernel_rfl) (by intro _ _ _ h; exact h) (by rfl) (by go_frame; first | done | rfl) ?_
        refine rg_skip 15 evD (by kernel_rfl) (by intro _ _ _ h; exact h) (by rfl) (by go_frame; first | done | rfl) ?_
        refine rg_skip 16 evD (by kernel_rfl) (by intro _ _ _ h; exact h) (by rfl) (by go_frame; first | done | rfl) ?_
        refine rg_skip 17 evD (by kernel_rfl) (by intro _ _ _ h; exact h) (by rfl) (by go_frame; first | done | rfl) ?_
        refine rp 18 (hy := (yg_pick (by rfl) evD evD)) (h := ?_)
        refine wpL_done (by kernel_rfl) ?_
        try simp only [List.getElem_toArray, List.getElem_cons_succ, List.getElem_cons_zero]
        try go_frame
        go_wp2_with fail
        go_roundg (0 + i)
        case measure => omega
        case rel => exact ⟨i, rfl, Nat.le_of_succ_le Hn.out, by first | rfl | go_num, He.out.trans Hm.out, hS1⟩
end
section
variable {w0 w : World} {F : List HProp} {rv : Value}
set_option maxRecDepth 20000 in
set_option maxHeartbeats 16000000 in
theorem rcounts_c (rs : List (Rep.Row × Value)) (hk : ∀ q ∈ rs, q.1.2.e.key.length = 32) (hsl : ∀ q ∈ rs, ∃ a n c, q.2 = .slice a n c) (i : Nat) (hi : i < rs.length) (hlen : rs.length ≤ 1073741824) (hr : Ro w0 F (rdsl 37 rv (rs.flatMap rwL))) (h : Sat w0 w F) :
    Calls Tryz.prog 157 #[rv, .int .i64 i] w (Rtn fun v w' => v = .bool (Rep.cnt (rs.map (·.1)) i) ∧ Sat w0 w' F) := by
  obtain ⟨q, hq⟩ : ∃ q, rs[i]? = some q := ⟨_, List.getElem?_eq_getElem hi⟩
  obtain ⟨bk, off, sc, rfl, hc⟩ := row_at hk (hr w h) hq
  have hqm := List.mem_of_getElem? hq
  have Hqk := Lib.hid (hk q hqm)
  have Hql := Lib.hid (rwL_len q (hk q hqm))
  have Hqo := Lib.hid (show (rwL q).all (·.oneCell') = true by obtain ⟨a, n, c, e⟩ := hsl q hqm; exact rwL_ones q e)
  have hq1 : (rs.map (·.1))[i]? = some q.1 := by rw [List.getElem?_map, hq]; rfl
  have Hq1 := Lib.hid hq1
  have Hll := Lib.hid (show (rs.map (·.1)).length = rs.length from List.length_map ..)
  have hnw : ∀ (w' : World) (F' : List HProp), (∀ w, Sat w0 w F' → Sat w0 w F) → Sat w0 w' F' → Calls Tryz.prog 175 #[.slice (some ⟨bk, off, none⟩) rs.length sc, .agg (bys q.1.2.e.key).toArray] w' (Rtn fun v w'' => v = .int .i64 (Rep.newIdx (rs.map (·.1)) q.1.2.e.key rs.length) ∧ Sat w0 w'' F') := fun w' F' hF hw =>
    rnewest_c rs hk q.1.2.e.key (hk q hqm) hlen (fun w hw => hr w (hF w hw)) hw
  have Hnw := Lib.hid hnw
  have Hk := Lib.hid hk; have Hlen := Lib.hid hlen; have Hr := Lib.hid hr; have Hi := Lib.hid hi
  have c1 : (i : Int) < (rs.length : Int) := by omega
  have Hnew := Lib.hid (Rep.newIdx_new hq1)
  clear hk hsl hlen hr hq hqm hq1 hnw hi
  go_enter Tryz.func157, Tryz.ntmps157
  go_wp2_with (first
    | ((with_reducible apply at_load); refine ⟨?_⟩; refine wl_loadW (b := bk) (o := off + i * 37) (rwL q) (by rfl) hc Tryz.underlying212 rfl (by rw [Hql.out]; exact infoRow) ?_)
    | (with_reducible apply at_alloc))
  refine ⟨?_⟩
  refine wl_alloc zRow h rfl ?_
  intro b5 w5 h5
  go_wp2_with (first | ((with_reducible apply at_store); refine ⟨?_⟩; refine wl_storeA (rwL q).toArray h5 (by rfl) (by rfl) (by rw [List.size_toArray, Hql.out]; rfl) upd0 (by rw [List.size_toArray, Hql.out]; exact infoRow) (by rw [List.toList_toArray]; exact Hqo.out) ?_; intro w6 h6) | (with_reducible apply at_load))
  refine ⟨?_⟩
  clear h h5 hc
  have hkr : w6.rangeAt b5 2 (bys q.1.2.e.key) := fun j v hj => h6.cellP pick0 (2 + j) (by rw [List.getElem?_toArray]; exact rwL_key q Hqk.out j v hj)
  by_cases h2 : q.1.2.e.tag = 2
  · have hb : (q.1.2.e.tag == 2) = true := beq_iff_eq.2 h2
    have Hf := Lib.hid (Rep.cnt_two Hq1.out h2)
    clear h2 hkr
    refine wl_load1 (v := .int .i64 q.1.2.e.tag) h6 (by rfl) pick0 (by rw [List.size_toArray, Hql.out]; decide) (by rfl) (by kernel_rfl) ?_
    go_wp2_with fail
    go_ret
    rw [Hf.out]
    exact ⟨_, rfl, rfl, h6.drop⟩
  have hb : (q.1.2.e.tag == 2) = false := by rw [beq_eq_false_iff_ne]; exact h2
  have H2 := Lib.hid h2
  clear h2
  refine wl_load1 (v := .int .i64 q.1.2.e.tag) h6 (by rfl) pick0 (by rw [List.size_toArray, Hql.out]; decide) (by rfl) (by kernel_rfl) ?_
  go_wp2_with (first
    | ((with_reducible apply at_loadG); refine ⟨?_⟩; refine wl_loadGm (b := b5) (o := 2) (by rfl) (by rfl) (bys q.1.2.e.key) _ hkr Tryz.underlying41 rfl (by rw [bys_len, Hqk.out]; exact infoID) ?_))
  refine (Hnw.out _ _ (fun w hw => hw.drop) h6).mono ?_
  rintro ee w7 ⟨v, rfl, rfl, h7⟩
  clear hkr h6
  by_cases hn : Rep.newIdx (rs.map (·.1)) q.1.2.e.key rs.length = (i : Int)
  rotate_left
  · have hb2 : (Rep.newIdx (rs.map (·.1)) q.1.2.e.key rs.length == (i : Int)) = false := by rw [beq_eq_false_iff_ne]; exact hn
    have hb3 : (Rep.newIdx (rs.map (·.1)) q.1.2.e.key rs.length != (i : Int)) = true := by rw [bne_iff_ne]; exact hn
    have Hf := Lib.hid (Rep.cnt_old Hq1.out (by
      have := Hnew.out
      rw [Hll.out] at this
      rw [← this]; exact decide_eq_false hn))
    clear hn
    generalize Rep.newIdx (rs.map (·.1)) q.1.2.e.key rs.length = nx at *
    go_wp2_with fail
    go_ret
    rw [Hf.out]
    exact ⟨_, rfl, rfl, h7.drop⟩
  have Hisnew := Lib.hid (show Rep.isNew (rs.map (·.1)) i = true by
    have := Hnew.out
    rw [Hll.out] at this
    rw [← this]; exact decide_eq_true hn)
  rw [hn]
  clear hn
  by_cases h0 : q.1.2.e.tag = 0
  · have hb0 : (q.1.2.e.tag == 0) = true := beq_iff_eq.2 h0
    have Hf := Lib.hid (Rep.cnt_put Hq1.out Hisnew.out h0)
    clear h0
    go_wp2_with ((with_reducible apply at_load); refine ⟨?_⟩; refine wl_load1 (v := .int .i64 q.1.2.e.tag) h7 (by rfl) pick0 (by rw [List.size_toArray, Hql.out]; decide) (by rfl) (by kernel_rfl) ?_)
    go_ret
    rw [Hf.out]
    exact ⟨_, rfl, rfl, h7.drop⟩
  have hb0 : (q.1.2.e.tag == 0) = false := by rw [beq_eq_false_iff_ne]; exact h0
  have Hf := Lib.hid (Rep.cnt_del Hq1.out Hisnew.out H2.out h0)
  clear h0
  go_wp2_with ((with_reducible apply at_load); refine ⟨?_⟩; refine wl_load1 (v := .int .i64 q.1.2.e.tag) h7 (by rfl) pick0 (by rw [List.size_toArray, Hql.out]; decide) (by rfl) (by kernel_rfl) ?_)
  clear hb hb0
  go_loopg [6] i (fun g kq wr => ∃ k : Nat, g = i - k ∧ k ≤ i ∧ kq = .int .i64 k ∧ ((rs.map (·.1)).take k).any (Rep.elder q.1) = false ∧ Sat w0 wr (pt b5 (.cells (rwL q).toArray 212 (0,0)) :: F))
  case atStart => exact ⟨0, rfl, Nat.zero_le _, rfl, rfl, h7⟩
  case round =>
    obtain ⟨k, rfl, hki, rfl, hany, hS⟩ := hrel
    clear h7
    by_cases hlt : k < i
    rotate_left
    · obtain rfl : k = i := by omega
      have c2 : ¬ (k : Int) < (k : Int) := by omega
      have Hany := Lib.hid hany
      clear hlt hki hany
      go_wp2_with fail
      go_ret
      rw [Hf.out, Hany.out]
      exact ⟨_, rfl, rfl, hS.drop⟩
    have c2 : (k : Int) < (i : Int) := by omega
    have c3 : (k : Int) < (rs.length : Int) := by omega
    have hwk : IntKind.i64.wrap ((k : Int) + 1) = (k : Int) + 1 := IntWalk.i64_in _ (by have := Hlen.out; omega)
    obtain ⟨x, hx⟩ : ∃ x, rs[k]? = some x := ⟨_, List.getElem?_eq_getElem (by have := Hi.out; omega)⟩
    have hS1 := hS.drew
    obtain ⟨bk', off', c', e2, hc⟩ := row_at Hk.out (Hr.out _ hS1.drop) hx
    cases e2
    have hxk := Hk.out x (List.mem_of_getElem? hx)
    have Hxk := Lib.hid hxk
    have hx1 : (rs.map (·.1))[k]? = some x.1 := by rw [List.getElem?_map, hx]; rfl
    have hG0 : World.cell? _ ⟨bk, off + k * 37 + 1, none⟩ = some (.int .i64 x.1.2.e.tag) ∧ World.rangeAt _ bk (off + k * 37 + 2) (bys x.1.2.e.key) ∧ World.rangeAt _ b5 2 (bys q.1.2.e.key) ∧ World.cell? _ ⟨bk, off + k * 37, none⟩ = some (.int .i64 x.1.1) ∧ World.cell? _ ⟨b5, 0, none⟩ = some (.int .i64 q.1.1) :=
      ⟨hc 1 _ (rwL_tag x), fun j v hj => by have := hc (2 + j) v (rwL_key x hxk j v hj); rw [← Nat.add_assoc] at this; exact this, fun j v hj => hS1.cellP pick0 (2 + j) (by rw [List.getElem?_toArray]; exact rwL_key q Hqk.out j v hj), hc 0 _ rfl, hS1.cellP pick0 0 (by rw [List.getElem?_toArray]; rfl)⟩
    have Hhit := Lib.hid (fun (hh : Rep.elder q.1 x.1 = true) => Rep.any_hit (n := i) hlt hx1 hh)
    have Hmiss := Lib.hid (fun (hh : Rep.elder q.1 x.1 = false) => Rep.any_miss hx1 hany hh)
    have Hlt := Lib.hid hlt
    clear hc hx hx1 hany hS hxk hlt hki
    by_cases ht : x.1.2.e.tag = 0
    rotate_left
    · have Hm := Lib.hid (Hmiss.out (by unfold Rep.elder Rep.rtag; rw [decide_eq_false ht]; rfl))
      have hbt : (x.1.2.e.tag == 0) = false := by rw [beq_eq_false_iff_ne]; exact ht
      have hG1 := hG0.1
      clear hG0 ht
      generalize x.1.2.e.tag = t at *
      go_wp2_with fail
      refine wpL_begin [30, 31] (fun w' => w'.cell? ⟨bk, off + k * 37 + 1, none⟩ = some (.int .i64 t)) (by kernel_rfl) ?_
      have hG := hG1
      clear hG1
      refine rp 0 (hy := (yl_move evD)) (h := ?_)
      refine rp 1 (hy := (yl_move evD)) (h := ?_)
      refine rp 2 (hy := (yl_index evD evD rnD)) (h := ?_)
      refine rp 3 (hy := (yl_field evD rnD)) (h := ?_)
      refine rp 4 (hy := (yl_field evD rnD)) (h := ?_)
      refine rp 5 (hy := (yl_field evD rnD)) (h := ?_)
      refine rt 6 (h := ?_)
      clear hG
      refine rp 7 (hy := (yl_bin evD evD rnD)) (h := ?_)
      refine rp 8 (hy := (yl_move evD)) (h := ?_)
      refine rg_skip 9 evD (by kernel_rfl) (by intro _ _ _ h; exact h) (by rfl) (by go_frame; first | done | rfl) ?_
      refine rg_skip 10 evD (by kernel_rfl) (by intro _ _ _ h; exact h) (by rfl) (by go_frame; first | done | rfl) ?_
      refine rg_skip 11 evD (by kernel_rfl) (by intro _ _ _ h; exact h) (by rfl) (by go_frame; first | done | rfl) ?_
      refine rg_skip 12 evD (by kernel_rfl) (by intro _ _ _ h; exact h) (by rfl) (by go_frame; first | done | rfl) ?_
      refine rg_skip 13 evD (by kernel_rfl) (by intro _ _ _ h; exact h) (by rfl) (by go_frame; first | done | rfl) ?_
      refine rg_skip 14 evD (by kernel_rfl) (by intro _ _ _ h; exact h) (by rfl) (by go_frame; first | done | rfl) ?_
      refine rg_skip 15 evD (by kernel_rfl) (by intro _ _ _ h; exact h) (by rfl) (by go_frame; first | done | rfl) ?_
      refine rg_skip 16 evD (by kernel_rfl) (by intro _ _ _ h; exact h) (by rfl) (by go_frame; first | done | rfl) ?_
      refine rg_skip 17 evD (by kernel_rfl) (by intro _ _ _ h; exact h) (by rfl) (by go_frame; first | done | rfl) ?_
      refine rg_skip 18 evD (by kernel_rfl) (by intro _ _ _ h; exact h) (by rfl) (by go_frame; first | done | rfl) ?_
      refine rg_skip 19 evD (by kernel_rfl) (by intro _ _ _ h; exact h) (by rfl) (by go_frame; first | done | rfl) ?_
      refine rg_skip 20 evD (by kernel_rfl) (by intro _ _ _ h; exact h) (by rfl) (by go_frame; first | done | rfl) ?_
      refine rp 21 (hy := (yg_pick (by rfl) evD evD)) (h := ?_)
      refine rp 22 (hy := (yl_move evD)) (h := ?_)
      refine rg_skip 23 evD (by kernel_rfl) (by intro _ _ _ h; exact h) (by rfl) (by go_frame; first | done | rfl) ?_
      refine rg_skip 24 evD (by kernel_rfl) (by intro _ _ _ h; exact h) (by rfl) (by go_frame; first | done | rfl) ?_
      refine rg_skip 25 evD (by kernel_rfl) (by intro _ _ _ h; exact h) (by rfl) (by go_frame; first | done | rfl) ?_
      refine rg_skip 26 evD (by kernel_rfl) (by intro _ _ _ h; exact h) (by rfl) (by go_frame; first | done | rfl) ?_
      refine rg_skip 27 evD (by kernel_rfl) (by intro _ _ _ h; exact h) (by rfl) (by go_frame; first | done | rfl) ?_
      refine rg_skip 28 evD (by kernel_rfl) (by intro _ _ _ h; exact h) (by rfl) (by go_frame; first | done | rfl) ?_
      refine rg_skip 29 evD (by kernel_rfl) (by intro _ _ _ h; exact h) (by rfl) (by go_frame; first | done | rfl) ?_
      refine rg_skip 30 evD (by kernel_rfl) (by intro _ _ _ h; exact h) (by rfl) (by go_frame; first | done | rfl) ?_
      refine rp 31 (hy := (yg_pick (by rfl) evD evD)) (h := ?_)
      refine wpL_done (by kernel_rfl) ?_
      try simp only [List.getElem_toArray, List.getElem_cons_succ, List.getElem_cons_zero]
      try go_frame
      go_wp2_with fail
      go_roundg (i - (k + 1))
      case measure => have := Hlt.out; omega
      case rel => exact ⟨k + 1, rfl, Hlt.out, by first | rfl | go_num, Hm.out, hS1⟩
    have hbt : (x.1.2.e.tag == 0) = true := beq_iff_eq.2 ht
    by_cases hkk : x.1.2.e.key = q.1.2.e.key
    rotate_left
    · have Hm := Lib.hid (Hmiss.out (by unfold Rep.elder Rep.rkey; rw [decide_eq_false hkk]; simp))
      have hbin : ∀ y z w, ((do eqGuard .eql 41 y z (.agg (bys x.1.2.e.key).toArray) (.agg (bys q.1.2.e.key).toArray); binOp .eql 41 (.agg (bys x.1.2.e.key).toArray) (.agg (bys q.1.2.e.key).toArray)) : Sem Value).run Tryz.prog w = .ok (.bool false) w := fun y z w => by rw [eqG_key y z _ _ Hxk.out Hqk.out, decide_eq_false hkk]
      have hG1 := And.intro hG0.1 (And.intro hG0.2.1 hG0.2.2.1)
      clear hG0 ht hkk
      generalize x.1.2.e.tag = t at *
      generalize hK2 : x.1.2.e.key = kk at *
      clear hK2
      go_wp2_with fail
      refine wpL_begin [30, 31] (fun w' => w'.cell? ⟨bk, off + k * 37 + 1, none⟩ = some (.int .i64 t) ∧ w'.rangeAt bk (off + k * 37 + 2) (bys kk) ∧ w'.rangeAt b5 2 (bys q.1.2.e.key)) (by kernel_rfl) ?_
      have hG := hG1
      clear hG1
      refine rp 0 (hy := (yl_move evD)) (h := ?_)
      refine rp 1 (hy := (yl_move evD)) (h := ?_)
      refine rp 2 (hy := (yl_index evD evD rnD)) (h := ?_)
      refine rp 3 (hy := (yl_field evD rnD)) (h := ?_)
      refine rp 4 (hy := (yl_field evD rnD)) (h := ?_)
      refine rp 5 (hy := (yl_field evD rnD)) (h := ?_)
      refine rt 6 (h := ?_)
      refine rp 7 (hy := (yl_bin evD evD rnD)) (h := ?_)
      refine rp 8 (hy := (yl_move evD)) (h := ?_)
      refine rp 9 (hy := (yg_move (by rfl) evD)) (h := ?_)
      refine rp 10 (hy := (yg_move (by rfl) evD)) (h := ?_)
      refine rp 11 (hy := (yg_index (by rfl) evD evD rnD)) (h := ?_)
      refine rp 12 (hy := (yg_field (by rfl) evD rnD)) (h := ?_)
      refine rp 13 (hy := (yg_field (by rfl) evD rnD)) (h := ?_)
      refine rp 14 (hy := (yg_field (by rfl) evD rnD)) (h := ?_)
      refine rg_take 15 evD (by kernel_rfl) (by intro _ _ _ h; exact h) (tg_loadN (b := bk) (o := off + k * 37 + 2) (bys kk) (by rfl) (by rfl) Tryz.underlying41 rfl (by rw [bys_len, Hxk.out]; exact infoID) (fun w hw => hw.2.1)) (by assumption) (by go_frame; first | done | rfl) ?_
      refine rp 16 (hy := (yg_field (by rfl) evD rnD)) (h := ?_)
      refine rp 17 (hy := (yg_field (by rfl) evD rnD)) (h := ?_)
      refine rp 18 (hy := (yg_field (by rfl) evD rnD)) (h := ?_)
      refine rg_take 19 evD (by kernel_rfl) (by intro _ _ _ h; exact h) (tg_loadN (b := b5) (o := 2) (bys q.1.2.e.key) (by rfl) (by rfl) Tryz.underlying41 rfl (by rw [bys_len, Hqk.out]; exact infoID) (fun w hw => hw.2.2)) (by assumption) (by go_frame; first | done | rfl) ?_
      clear hG
      refine rp 20 (hy := (yg_bin (by rfl) evD evD (hbin _ _))) (h := ?_)
      refine rp 21 (hy := (yg_pick (by rfl) evD evD)) (h := ?_)
      refine rp 22 (hy := (yl_move evD)) (h := ?_)
      refine rg_skip 23 evD (by kernel_rfl) (by intro _ _ _ h; exact h) (by rfl) (by go_frame; first | done | rfl) ?_
      refine rg_skip 24 evD (by kernel_rfl) (by intro _ _ _ h; exact h) (by rfl) (by go_frame; first | done | rfl) ?_
      refine rg_skip 25 evD (by kernel_rfl) (by intro _ _ _ h; exact h) (by rfl) (by go_frame; first | done | rfl) ?_
      refine rg_skip 26 evD (by kernel_rfl) (by intro _ _ _ h; exact h) (by rfl) (by go_frame; first | done | rfl) ?_
      refine rg_skip 27 evD (by kernel_rfl) (by intro _ _ _ h; exact h) (by rfl) (by go_frame; first | done | rfl) ?_
      refine rg_skip 28 evD (by kernel_rfl) (by intro _ _ _ h; exact h) (by rfl) (by go_frame; first | done | rfl) ?_
      refine rg_skip 29 evD (by kernel_rfl) (by intro _ _ _ h; exact h) (by rfl) (by go_frame; first | done | rfl) ?_
      refine rg_skip 30 evD (by kernel_rfl) (by intro _ _ _ h; exact h) (by rfl) (by go_frame; first | done | rfl) ?_
      refine rp 31 (hy := (yg_pick (by rfl) evD evD)) (h := ?_)
      refine wpL_done (by kernel_rfl) ?_
      try simp only [List.getElem_toArray, List.getElem_cons_succ, List.getElem_cons_zero]
      try go_frame
      clear hbin
      go_wp2_with fail
      go_roundg (i - (k + 1))
      case measure => have := Hlt.out; omega
      case rel => exact ⟨k + 1, rfl, Hlt.out, by first | rfl | go_num, Hm.out, hS1⟩
    have hbin : ∀ y z w, ((do eqGuard .eql 41 y z (.agg (bys x.1.2.e.key).toArray) (.agg (bys q.1.2.e.key).toArray); binOp .eql 41 (.agg (bys x.1.2.e.key).toArray) (.agg (bys q.1.2.e.key).toArray)) : Sem Value).run Tryz.prog w = .ok (.bool true) w := fun y z w => by rw [eqG_key y z _ _ Hxk.out Hqk.out, decide_eq_true hkk]
    by_cases hsg : x.1.1 < q.1.1
    · have hds : decide (x.1.1 < q.1.1) = true := decide_eq_true hsg
      have Hh := Lib.hid (Hhit.out (by unfold Rep.elder Rep.rtag Rep.rkey; rw [decide_eq_true ht, decide_eq_true hkk, decide_eq_true hsg]; rfl))
      have hG1 := hG0
      clear hG0 ht hkk
      generalize x.1.2.e.tag = t at *
      generalize hK2 : x.1.2.e.key = kk at *
      clear hK2
      generalize x.1.1 = s1 at *
      generalize q.1.1 = s2 at *
      go_wp2_with fail
      refine wpL_begin [30, 31] (fun w' => w'.cell? ⟨bk, off + k * 37 + 1, none⟩ = some (.int .i64 t) ∧ w'.rangeAt bk (off + k * 37 + 2) (bys kk) ∧ w'.rangeAt b5 2 (bys q.1.2.e.key) ∧ w'.cell? ⟨bk, off + k * 37, none⟩ = some (.int .i64 s1) ∧ w'.cell? ⟨b5, 0, none⟩ = some (.int .i64 s2)) (by kernel_rfl) ?_
      have hG := hG1
      clear hG1
      refine rp 0 (hy := (yl_move evD)) (h := ?_)
      refine rp 1 (hy := (yl_move evD)) (h := ?_)
      refine rp 2 (hy := (yl_index evD evD rnD)) (h := ?_)
      refine rp 3 (hy := (yl_field evD rnD)) (h := ?_)
      refine rp 4 (hy := (yl_field evD rnD)) (h := ?_)
      refine rp 5 (hy := (yl_field evD rnD)) (h := ?_)
      refine rt 6 (h := ?_)
      refine rp 7 (hy := (yl_bin evD evD rnD)) (h := ?_)
      refine rp 8 (hy := (yl_move evD)) (h := ?_)
      refine rp 9 (hy := (yg_move (by rfl) evD)) (h := ?_)
      refine rp 10 (hy := (yg_move (by rfl) evD)) (h := ?_)
      refine rp 11 (hy := (yg_index (by rfl) evD evD rnD)) (h := ?_)
      refine rp 12 (hy := (yg_field (by rfl) evD rnD)) (h := ?_)
      refine rp 13 (hy := (yg_field (by rfl) evD rnD)) (h := ?_)
      refine rp 14 (hy := (yg_field (by rfl) evD rnD)) (h := ?_)
      refine rg_take 15 evD (by kernel_rfl) (by intro _ _ _ h; exact h) (tg_loadN (b := bk) (o := off + k * 37 + 2) (bys kk) (by rfl) (by rfl) Tryz.underlying41 rfl (by rw [bys_len, Hxk.out]; exact infoID) (fun w hw => hw.2.1)) (by assumption) (by go_frame; first | done | rfl) ?_
      refine rp 16 (hy := (yg_field (by rfl) evD rnD)) (h := ?_)
      refine rp 17 (hy := (yg_field (by rfl) evD rnD)) (h := ?_)
      refine rp 18 (hy := (yg_field (by rfl) evD rnD)) (h := ?_)
      refine rg_take 19 evD (by kernel_rfl) (by intro _ _ _ h; exact h) (tg_loadN (b := b5) (o := 2) (bys q.1.2.e.key) (by rfl) (by rfl) Tryz.underlying41 rfl (by rw [bys_len, Hqk.out]; exact infoID) (fun w hw => hw.2.2.1)) (by assumption) (by go_frame; first | done | rfl) ?_
      refine rp 20 (hy := (yg_bin (by rfl) evD evD (hbin _ _))) (h := ?_)
      refine rp 21 (hy := (yg_pick (by rfl) evD evD)) (h := ?_)
      refine rp 22 (hy := (yl_move evD)) (h := ?_)
      refine rp 23 (hy := (yg_move (by rfl) evD)) (h := ?_)
      refine rp 24 (hy := (yg_move (by rfl) evD)) (h := ?_)
      refine rp 25 (hy := (yg_index (by rfl) evD evD rnD)) (h := ?_)
      refine rp 26 (hy := (yg_field (by rfl) evD rnD)) (h := ?_)
      refine rg_take 27 evD (by kernel_rfl) (by intro _ _ _ h; exact h) (tg_load (by rfl) evD (by kernel_rfl) (by intro wq hq; first | exact hq | exact hq.1 | exact hq.2 | exact hq.2.1 | exact hq.2.2 | exact hq.2.2.1 | exact hq.2.2.2 | exact hq.2.2.2.1 | exact hq.2.2.2.2)) (by assumption) (by go_frame; first | done | rfl) ?_
      refine rp 28 (hy := (yg_field (by rfl) evD rnD)) (h := ?_)
      refine rg_take 29 evD (by kernel_rfl) (by intro _ _ _ h; exact h) (tg_load (by rfl) evD (by kernel_rfl) (by intro wq hq; first | exact hq | exact hq.1 | exact hq.2 | exact hq.2.1 | exact hq.2.2 | exact hq.2.2.1 | exact hq.2.2.2 | exact hq.2.2.2.1 | exact hq.2.2.2.2)) (by assumption) (by go_frame; first | done | rfl) ?_
      clear hG
      refine rp 30 (hy := (yg_bin (by rfl) evD evD rnD)) (h := ?_)
      refine rp 31 (hy := (yg_pick (by rfl) evD evD)) (h := ?_)
      refine wpL_done (by kernel_rfl) ?_
      try simp only [List.getElem_toArray, List.getElem_cons_succ, List.getElem_cons_zero]
      try go_frame
      clear hbin
      go_wp2_with fail
      go_ret
      rw [Hf.out, Hh.out]
      exact ⟨_, rfl, rfl, hS1.drop⟩
    · have hds : decide (x.1.1 < q.1.1) = false := decide_eq_false hsg
      have Hm := Lib.hid (Hmiss.out (by unfold Rep.elder; rw [decide_eq_false hsg]; simp))
      have hG1 := hG0
      clear hG0 ht hkk
      generalize x.1.2.e.tag = t at *
      generalize hK2 : x.1.2.e.key = kk at *
      clear hK2
      generalize x.1.1 = s1 at *
      generalize q.1.1 = s2 at *
      go_wp2_with fail
      refine wpL_begin [30, 31] (fun w' => w'.cell? ⟨bk, off + k * 37 + 1, none⟩ = some (.int .i64 t) ∧ w'.rangeAt bk (off + k * 37 + 2) (bys kk) ∧ w'.rangeAt b5 2 (bys q.1.2.e.key) ∧ w'.cell? ⟨bk, off + k * 37, none⟩ = some (.int .i64 s1) ∧ w'.cell? ⟨b5, 0, none⟩ = some (.int .i64 s2)) (by kernel_rfl) ?_
      have hG := hG1
      clear hG1
      refine rp 0 (hy := (yl_move evD)) (h := ?_)
      refine rp 1 (hy := (yl_move evD)) (h := ?_)
      refine rp 2 (hy := (yl_index evD evD rnD)) (h := ?_)
      refine rp 3 (hy := (yl_field evD rnD)) (h := ?_)
      refine rp 4 (hy := (yl_field evD rnD)) (h := ?_)
      refine rp 5 (hy := (yl_field evD rnD)) (h := ?_)
      refine rt 6 (h := ?_)
      refine rp 7 (hy := (yl_bin evD evD rnD)) (h := ?_)
      refine rp 8 (hy := (yl_move evD)) (h := ?_)
      refine rp 9 (hy := (yg_move (by rfl) evD)) (h := ?_)
      refine rp 10 (hy := (yg_move (by rfl) evD)) (h := ?_)
      refine rp 11 (hy := (yg_index (by rfl) evD evD rnD)) (h := ?_)
      refine rp 12 (hy := (yg_field (by rfl) evD rnD)) (h := ?_)
      refine rp 13 (hy := (yg_field (by rfl) evD rnD)) (h := ?_)
      refine rp 14 (hy := (yg_field (by rfl) evD rnD)) (h := ?_)
      refine rg_take 15 evD (by kernel_rfl) (by intro _ _ _ h; exact h) (tg_loadN (b := bk) (o := off + k * 37 + 2) (bys kk) (by rfl) (by rfl) Tryz.underlying41 rfl (by rw [bys_len, Hxk.out]; exact infoID) (fun w hw => hw.2.1)) (by assumption) (by go_frame; first | done | rfl) ?_
      refine rp 16 (hy := (yg_field (by rfl) evD rnD)) (h := ?_)
      refine rp 17 (hy := (yg_field (by rfl) evD rnD)) (h := ?_)
      refine rp 18 (hy := (yg_field (by rfl) evD rnD)) (h := ?_)
      refine rg_take 19 evD (by kernel_rfl) (by intro _ _ _ h; exact h) (tg_loadN (b := b5) (o := 2) (bys q.1.2.e.key) (by rfl) (by rfl) Tryz.underlying41 rfl (by rw [bys_len, Hqk.out]; exact infoID) (fun w hw => hw.2.2.1)) (by assumption) (by go_frame; first | done | rfl) ?_
      refine rp 20 (hy := (yg_bin (by rfl) evD evD (hbin _ _))) (h := ?_)
      refine rp 21 (hy := (yg_pick (by rfl) evD evD)) (h := ?_)
      refine rp 22 (hy := (yl_move evD)) (h := ?_)
      refine rp 23 (hy := (yg_move (by rfl) evD)) (h := ?_)
      refine rp 24 (hy := (yg_move (by rfl) evD)) (h := ?_)
      refine rp 25 (hy := (yg_index (by rfl) evD evD rnD)) (h := ?_)
      refine rp 26 (hy := (yg_field (by rfl) evD rnD)) (h := ?_)
      refine rg_take 27 evD (by kernel_rfl) (by intro _ _ _ h; exact h) (tg_load (by rfl) evD (by kernel_rfl) (by intro wq hq; first | exact hq | exact hq.1 | exact hq.2 | exact hq.2.1 | exact hq.2.2 | exact hq.2.2.1 | exact hq.2.2.2 | exact hq.2.2.2.1 | exact hq.2.2.2.2)) (by assumption) (by go_frame; first | done | rfl) ?_
      refine rp 28 (hy := (yg_field (by rfl) evD rnD)) (h := ?_)
      refine rg_take 29 evD (by kernel_rfl) (by intro _ _ _ h; exact h) (tg_load (by rfl) evD (by kernel_rfl) (by intro wq hq; first | exact hq | exact hq.1 | exact hq.2 | exact hq.2.1 | exact hq.2.2 | exact hq.2.2.1 | exact hq.2.2.2 | exact hq.2.2.2.1 | exact hq.2.2.2.2)) (by assumption) (by go_frame; first | done | rfl) ?_
      clear hG
      refine rp 30 (hy := (yg_bin (by rfl) evD evD rnD)) (h := ?_)
      refine rp 31 (hy := (yg_pick (by rfl) evD evD)) (h := ?_)
      refine wpL_done (by kernel_rfl) ?_
      try simp only [List.getElem_toArray, List.getElem_cons_succ, List.getElem_cons_zero]
      try go_frame
      clear hbin
      go_wp2_with fail
      go_roundg (i - (k + 1))
      case measure => have := Hlt.out; omega
      case rel => exact ⟨k + 1, rfl, Hlt.out, by first | rfl | go_num, Hm.out, hS1⟩
end
end Go.Proofs.YtmjldaedhmipkaaGreatDoor
