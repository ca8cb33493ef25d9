import Derived.Test.YtmjldaedhmipkaaGreatDoorJ6
import Derived.Laws.StructEq
set_option linter.unusedVariables false
namespace Go.Frm
theorem scanL_count : ∀ (k : Nat) (b : Bs) (at_ : Nat), (scanL k b at_).1.length ≤ k
  | 0, _, _ => Nat.le_refl 0
  | k + 1, b, at_ => by
    unfold scanL
    split
    · exact Nat.zero_le _
    split
    · exact Nat.zero_le _
    · simp only [List.length_cons]
      have := scanL_count k
      exact Nat.succ_le_succ (this _ _)
theorem scan_count (b : Bs) : (scan b).1.length ≤ b.length := by
  unfold scan
  split
  · exact scanL_count _ _ _
  · exact Nat.zero_le _
end Go.Frm
namespace Go.Proofs.YtmjldaedhmipkaaGreatDoor
open Go Go.Sl Go.Med Go.MapKept Go.RowKit
abbrev lbt (L : Seg.Log) (M : Med) : Rep.Told := fun n => L.bytes M n
section
variable {w0 w : World} {F : List HProp} {p m K : Nat} {L : Seg.Log} {M : Med} {sv : Value}
set_option maxRecDepth 20000 in
set_option maxHeartbeats 8000000 in
theorem split_c (hL : L.Ok) (hM : M.Ok K) (hH : Ro w0 F Half) (h : Sat w0 w (osl 3 1 sv (ints L.segs) :: LogRep p m L :: MedRep m M :: F)) :
    Calls Tryz.prog 110 #[ptr p, sv] w (Rtn fun v w' => v = .tuple #[.int .i64 (Rep.split (lbt L M) L.segs L.segs.length).1, errno (Rep.split (lbt L M) L.segs L.segs.length).2] ∧
      Sat w0 w' (osl 3 1 sv (ints L.segs) :: LogRep p m L :: MedRep m M :: F)) := by
  have HL := Lib.hid hL; have HM := Lib.hid hM; have HH := Lib.hid hH
  have Hlen := Lib.hid (show L.segs.length ≤ 1073741824 from by unfold Seg.Log.segs; rw [List.length_map]; have := hL.len; omega)
  obtain ⟨sa, sc, rfl⟩ : ∃ a c, sv = .slice a L.segs.length c := by
    obtain ⟨a, n, c, rfl, hl, _⟩ := Sat.rd h
    refine ⟨a, c, ?_⟩
    rw [show (ints L.segs).length = L.segs.length from List.length_map .., Nat.mul_one] at hl
    rw [hl]
  have w1 : IntKind.i64.wrap ((L.segs.length : Int) - 1) = (L.segs.length : Int) - 1 := IntWalk.i64_in _ (by have := Hlen.out; omega)
  clear hL hM hH
  go_enter Tryz.func110, Tryz.ntmps110
  go_wp2_with fail
  go_loopg [6] L.segs.length (fun g iq wr => ∃ k : Nat, g = 0 + k ∧ k ≤ L.segs.length ∧ iq = .int .i64 ((k : Int) - 1) ∧ Rep.split (lbt L M) L.segs L.segs.length = Rep.split (lbt L M) L.segs k ∧
    Sat w0 wr (osl 3 1 (.slice sa L.segs.length sc) (ints L.segs) :: LogRep p m L :: MedRep m M :: F))
  case atStart => exact ⟨L.segs.length, (Nat.zero_add _).symm, Nat.le_refl _, rfl, rfl, h⟩
  case round =>
    obtain ⟨k, rfl, hk, rfl, he, hS⟩ := hrel
    clear h
    cases k with
    | zero =>
      have c1 : ¬ (((0 : Nat) : Int) - 1) ≥ 0 := by decide
      have He := Lib.hid he
      clear he
      go_wp2_with fail
      go_ret2
      rw [He.out]
      exact ⟨_, rfl, rfl, hS⟩
    | succ k =>
      have e1 : ((k + 1 : Nat) : Int) - 1 = (k : Int) := by omega
      rw [e1]
      have c1 : (k : Int) ≥ 0 := by omega
      have c2 : (k : Int) < (L.segs.length : Int) := by omega
      have w2 : IntKind.i64.wrap ((k : Int) - 1) = (k : Int) - 1 := IntWalk.i64_in _ (by have := Hlen.out; omega)
      have w3 : IntKind.i64.wrap ((k : Int) + 1) = ((k + 1 : Nat) : Int) := by rw [IntWalk.i64_in _ (by have := Hlen.out; omega)]; omega
      obtain ⟨s, hs⟩ : ∃ s, L.segs[k]? = some s := ⟨_, List.getElem?_eq_getElem (by omega)⟩
      have hgd : L.segs.getD k 0 = s := by rw [List.getD, hs]; rfl
      have Hu := Lib.hid (show Rep.split (lbt L M) L.segs (k + 1) = if (L.bytes M s).2 ≠ 0 then (0, (L.bytes M s).2) else if (Frm.scan (L.bytes M s).1).2.2 = 0 ∧ Rep.endedF (Frm.scan (L.bytes M s).1).1 = true then (k + 1, 0) else Rep.split (lbt L M) L.segs k by
        rw [Rep.split, hgd])
      obtain ⟨bk, off, cc, hsv, hcell⟩ := osl_row (f := fun i : Int => [Value.int .i64 i]) (k := 1) (l := L.segs) (fun u _ => rfl) (by have := Sat.rd hS; rw [show ints L.segs = L.segs.flatMap fun i => [Value.int .i64 i] from by unfold ints; exact List.map_eq_flatMap] at this; exact this) hs (by decide)
      cases hsv
      have f0 := hcell 0 _ rfl
      rw [Nat.mul_one, Nat.add_zero] at f0
      have He := Lib.hid he
      have hb := lbytes_c HL.out HM.out s (hS.sb : Sat w0 wr (LogRep p m L :: MedRep m M :: osl 3 1 (.slice (some ⟨bk, off, none⟩) L.segs.length sc) (ints L.segs) :: F))
      have hk' := Lib.hid hk
      clear hcell hs hgd he hS hk
      go_wp2_with fail
      refine hb.mono ?_
      rintro ee w3 ⟨v, rfl, bv, rfl, hS3⟩
      clear hb
      obtain ⟨hcap, ca, cc, rfl⟩ := bsl_capL hS3
      by_cases h0 : (L.bytes M s).2 = 0
      rotate_left
      · have hb : ((L.bytes M s).2 != 0) = true := by rw [bne_iff_ne]; exact h0
        have Hf := Lib.hid (show Rep.split (lbt L M) L.segs (k + 1) = (0, (L.bytes M s).2) by rw [Hu.out, if_pos h0])
        clear h0
        go_wp2_with fail
        go_ret2
        rw [He.out, Hf.out]
        exact ⟨_, rfl, rfl, hS3.sb⟩
      have hb : ((L.bytes M s).2 != 0) = false := by rw [h0]; rfl
      have H0 := Lib.hid h0
      rw [h0]
      clear h0
      have hbl := Seg.bytes_len (L := L) HM.out s
      have hsc := fscan_c (w0 := w0) (w := w3) (L.bytes M s).1 (Ro.bsl _ _) hcap (Ro.os HH.out) (Nat.le_trans hbl (by decide)) hS3
      have Hbl := Lib.hid hbl
      clear hcap hbl
      go_wp2_with fail
      refine hsc.mono ?_
      rintro ee w4 ⟨v, rfl, fs, fv, hfs, hfk, rfl, hS4⟩
      clear hsc hS3
      obtain ⟨fa, fc, rfl⟩ := fnds_sl hfk hS4
      have hS5 : Sat w0 w4 (osl 3 1 (.slice (some ⟨bk, off, none⟩) L.segs.length sc) (ints L.segs) :: LogRep p m L :: MedRep m M :: F) := hS4.sb
      by_cases h1 : (Frm.scan (L.bytes M s).1).2.2 = 0
      rotate_left
      · have hb1 : ((Frm.scan (L.bytes M s).1).2.2 == 0) = false := by rw [beq_eq_false_iff_ne]; exact h1
        have Hf := Lib.hid (show Rep.split (lbt L M) L.segs (k + 1) = Rep.split (lbt L M) L.segs k by rw [Hu.out, if_neg (fun h => h H0.out), if_neg (fun h => h1 h.1)])
        clear h1 hS4 hfs hfk
        go_wp2_with fail
        go_roundg (0 + k)
        case measure => omega
        case rel => exact ⟨k, rfl, Nat.le_of_succ_le hk'.out, by first | rfl | go_num, He.out.trans Hf.out, hS5⟩
      have hb1 : ((Frm.scan (L.bytes M s).1).2.2 == 0) = true := beq_iff_eq.2 h1
      have hen := ended_c (w := w4) fs hfk (by
        have := Frm.scan_count (L.bytes M s).1
        rw [← hfs, List.length_map] at this
        have := Hbl.out; omega) (Sat.rd hS4)
      rw [hfs] at hen
      clear hS4 hfs hfk
      by_cases h2 : Rep.endedF (Frm.scan (L.bytes M s).1).1 = true
      · have Hf := Lib.hid (show Rep.split (lbt L M) L.segs (k + 1) = (k + 1, 0) by rw [Hu.out, if_neg (fun h => h H0.out), if_pos ⟨h1, h2⟩])
        rw [h2] at hen
        clear h1 h2
        go_wp2_with fail
        refine hen.mono ?_
        rintro ee w5 ⟨v, rfl, rfl, rfl⟩
        clear hen
        go_wp2_with fail
        go_ret2
        rw [He.out, Hf.out]
        exact ⟨_, rfl, rfl, hS5⟩
      · have Hf := Lib.hid (show Rep.split (lbt L M) L.segs (k + 1) = Rep.split (lbt L M) L.segs k by rw [Hu.out, if_neg (fun h => h H0.out), if_neg (fun h => h2 h.2)])
        rw [Bool.not_eq_true] at h2
        rw [h2] at hen
        clear h1 h2
        go_wp2_with fail
        refine hen.mono ?_
        rintro ee w5 ⟨v, rfl, rfl, rfl⟩
        clear hen
        go_wp2_with fail
        go_roundg (0 + k)
        case measure => omega
        case rel => exact ⟨k, rfl, Nat.le_of_succ_le hk'.out, by first | rfl | go_num, He.out.trans Hf.out, hS5⟩
end
end Go.Proofs.YtmjldaedhmipkaaGreatDoor
namespace Go.Rep
def lastOf (bt : Told) (ns : List Int) : Int × Int :=
  if (split bt ns ns.length).2 ≠ 0 then (0, (split bt ns ns.length).2) else if (split bt ns ns.length).1 = 0 then (-1, 0) else (ns.getD ((split bt ns ns.length).1 - 1) 0, 0)
end Go.Rep
namespace Go.Proofs.YtmjldaedhmipkaaGreatDoor
open Go Go.Sl Go.Med Go.MapKept Go.RowKit
section
variable {w0 w : World} {F : List HProp} {p m K : Nat} {L : Seg.Log} {M : Med} {sv : Value}
theorem ints_cell {sv : Value} {l : List Int} {i : Nat} {s : Int} (h : rdsl 1 sv (ints l) w) (hs : l[i]? = some s) : ∃ bk off c, sv = .slice (some ⟨bk, off, none⟩) l.length c ∧ w.cell? ⟨bk, off + i, none⟩ = some (.int .i64 s) := by
  obtain ⟨bk, off, cc, hsv, hcell⟩ := osl_row (f := fun i : Int => [Value.int .i64 i]) (k := 1) (l := l) (fun u _ => rfl) (by rw [show ints l = l.flatMap fun i => [Value.int .i64 i] from by unfold ints; exact List.map_eq_flatMap] at h; exact h) hs (by decide)
  have f0 := hcell 0 _ rfl
  rw [Nat.mul_one, Nat.add_zero] at f0
  exact ⟨bk, off, cc, hsv, f0⟩
end
section
variable {P : Program} {w0 w : World} {ops : Array Oper} {rest : List Oper} {a : Act} {Q : Exit → Act → World → Prop} {dst : Option Tmp} {t ty : TypeId} {pos : String} {after : Array Edge} {x y : Operand} {v v1 v2 : Value} {i1 i2 : Nat}
theorem wl_build2 (h1 : a.eval x = v1) (h2 : a.eval y = v2) (hr : ∀ w, (Instr.build ty #[(i1, v1), (i2, v2)]).run P w = .ok v w) (h : wpList P ops Q rest (a.put dst v) w) :
    wpList P ops Q (⟨dst, .build ty #[(i1, x), (i2, y)], t, pos, after, none⟩ :: rest) a w :=
  wpList_plain rfl fun _ hK => by
    unfold Oper.wp execOp
    simp only [List.map_toArray, List.map_cons, List.map_nil, h1, h2, Sem.run_bind, hr, Result.andThen_ok, Sem.run_pure]
    exact hK _ _ h
theorem wl_build0 (hr : ∀ w, (Instr.build ty #[]).run P w = .ok v w) (h : wpList P ops Q rest (a.put dst v) w) : wpList P ops Q (⟨dst, .build ty #[], t, pos, after, none⟩ :: rest) a w :=
  wpList_plain rfl fun _ hK => by
    unfold Oper.wp execOp
    simp only [List.map_toArray, List.map_nil, Sem.run_bind, hr, Result.andThen_ok, Sem.run_pure]
    exact hK _ _ h
theorem res_cell {L R : List HProp} {b : Nat} {T : TypeId} {cs : Array Value} {fn : Func} {p : Tmp} {tmps : Array Value} {d : TypeDesc} (hf : fn.results = #[.cell p ty]) (hs : Sat w0 w L) (hp : tmps.getD p undef = .pointer (some ⟨b, 0, none⟩)) (k : Pick (pt b (.cells cs T (0,0))) L R)
    (hu : P.underlying ty = some d) (hd : d.isRow = true) (hi : (P.info? ty).map (·.size) = some cs.size) : (results fn tmps).run P w = .ok (.agg cs) w := by
  have hl := run_loadVar_row (P := P) w b T ty cs (0, 0) d (hs.pick k).at hu (by cases d <;> simp_all [TypeDesc.isRow]) hi
  have e : (results fn tmps).run P w = ((asAddr (tmps.getD p undef)).run P w).andThen fun a w₁ => (loadVar ty a).run P w₁ := by
    simp only [results, hf]
    simp [Sem.run_bind, Result.andThen]
  rw [e, hp]
  simp [asAddr, hl, Result.andThen]
theorem res_tct {L R : List HProp} {b : Nat} {T : TypeId} {cs : Array Value} {fn : Func} {t p u : Tmp} {tmps : Array Value} {d : TypeDesc} (hf : fn.results = #[.tmp t, .cell p ty, .tmp u]) (hs : Sat w0 w L) (hp : tmps.getD p undef = .pointer (some ⟨b, 0, none⟩)) (k : Pick (pt b (.cells cs T (0,0))) L R)
    (hu : P.underlying ty = some d) (hd : d.isRow = true) (hi : (P.info? ty).map (·.size) = some cs.size) : (results fn tmps).run P w = .ok (.tuple #[tmps.getD t undef, .agg cs, tmps.getD u undef]) w := by
  have hl := run_loadVar_row (P := P) w b T ty cs (0, 0) d (hs.pick k).at hu (by cases d <;> simp_all [TypeDesc.isRow]) hi
  have e : (results fn tmps).run P w = ((asAddr (tmps.getD p undef)).run P w).andThen fun a w₁ => ((loadVar ty a).run P w₁).andThen fun v w₂ => .ok (.tuple #[tmps.getD t undef, v, tmps.getD u undef]) w₂ := by
    simp only [results, hf]
    simp [Sem.run_bind, Result.andThen]
  rw [e, hp]
  simp [asAddr, hl, Result.andThen]
theorem at_build2 (h : Stop (wpList P ops Q (⟨dst, .build ty #[(i1, x), (i2, y)], t, pos, after, none⟩ :: rest) a w)) : wpList P ops Q (⟨dst, .build ty #[(i1, x), (i2, y)], t, pos, after, none⟩ :: rest) a w := h.out
theorem at_build0 (h : Stop (wpList P ops Q (⟨dst, .build ty #[], t, pos, after, none⟩ :: rest) a w)) : wpList P ops Q (⟨dst, .build ty #[], t, pos, after, none⟩ :: rest) a w := h.out
end
section
variable {w0 w : World} {F : List HProp}
theorem plFlt : placesB Tryz.prog 75 = some [(0, 1), (1, 1), (2, 1), (3, 32), (35, 1)] := by kernel_rfl
theorem run_flt2 (x y : Int) (w : World) : (Instr.build 75 #[(0, .int .i64 x), (1, .int .i64 y)]).run Tryz.prog w = .ok (.agg (fltA ⟨x, y, 0⟩)) w := by
  have h := run_build (P := Tryz.prog) [(0, .int .i64 x), (1, .int .i64 y)] plFlt zFlt (by
    intro p hp
    have hzz : (Value.agg (fltA Rep.Flt.zero)).cells.size = 36 := by rfl
    rw [hzz]
    rcases List.mem_cons.1 hp with rfl | hp
    · exact ⟨0, rfl, by show 0 + 1 ≤ 36; omega⟩
    · rw [List.mem_singleton.1 hp]
      exact ⟨1, rfl, by show 1 + 1 ≤ 36; omega⟩) w
  exact h
theorem run_flt3 (x y z : Int) (w : World) : (Instr.build 75 #[(0, .int .i64 x), (1, .int .i64 y), (2, .int .i64 z)]).run Tryz.prog w = .ok (.agg (fltA ⟨x, y, z⟩)) w := by
  have h := run_build (P := Tryz.prog) [(0, .int .i64 x), (1, .int .i64 y), (2, .int .i64 z)] plFlt zFlt (by
    intro p hp
    have hzz : (Value.agg (fltA Rep.Flt.zero)).cells.size = 36 := by rfl
    rw [hzz]
    rcases List.mem_cons.1 hp with rfl | hp
    · exact ⟨0, rfl, by show 0 + 1 ≤ 36; omega⟩
    rcases List.mem_cons.1 hp with rfl | hp
    · exact ⟨1, rfl, by show 1 + 1 ≤ 36; omega⟩
    · rw [List.mem_singleton.1 hp]
      exact ⟨2, rfl, by show 2 + 1 ≤ 36; omega⟩) w
  exact h
theorem run_flt0 (w : World) : (Instr.build 75 #[]).run Tryz.prog w = .ok (.agg (fltA Rep.Flt.zero)) w := run_build (P := Tryz.prog) [] plFlt zFlt (by simp) w
set_option maxRecDepth 20000 in
set_option maxHeartbeats 4000000 in
theorem fault_c (s : Int) (at_ : Nat) (h : Sat w0 w F) : Calls Tryz.prog 114 #[.int .i64 s, .int .i64 at_] w (Rtn fun v w' => v = .agg (fltA (Rep.fault s at_)) ∧ Sat w0 w' F) := by
  have hone : ∀ f, (fltA f).size = 36 := fun f => rfl
  by_cases h0 : at_ = 0
  · have hb : ((at_ : Int) == 0) = true := by rw [h0]; rfl
    have e := Lib.hid (show Rep.fault s at_ = ⟨1, s, 0⟩ from if_pos h0)
    clear h0
    go_enter Tryz.func114, Tryz.ntmps114
    go_wp2_with (with_reducible apply at_alloc)
    refine ⟨?_⟩
    refine wl_alloc zFlt h rfl ?_
    intro b4 w4 h4
    go_wp2_with (first
      | ((with_reducible apply at_build2); refine ⟨?_⟩; refine wl_build2 (by rfl) (by rfl) (fun w => run_flt2 1 s w) ?_)
      | ((with_reducible apply at_store); refine ⟨?_⟩; refine wl_storeA (fltA ⟨1, s, 0⟩) h4 (by rfl) (by rfl) (by rfl) upd0 (by kernel_rfl) (by rfl) ?_; intro w9 h9))
    refine ⟨rfl, _, res_cell rfl h9 (by rfl) pkD Tryz.underlying75 rfl (by kernel_rfl), ?_⟩
    exact ⟨_, rfl, by rw [e.out], h9.drop⟩
  · have hb : ((at_ : Int) == 0) = false := by rw [beq_eq_false_iff_ne]; omega
    have e := Lib.hid (show Rep.fault s at_ = ⟨2, s, at_⟩ from if_neg h0)
    clear h0
    go_enter Tryz.func114, Tryz.ntmps114
    go_wp2_with (with_reducible apply at_alloc)
    refine ⟨?_⟩
    refine wl_alloc zFlt h rfl ?_
    intro b4 w4 h4
    go_wp2_with (first
      | ((with_reducible apply at_build3); refine ⟨?_⟩; refine wl_build3 (by rfl) (by rfl) (by rfl) (fun w => run_flt3 2 s at_ w) ?_)
      | ((with_reducible apply at_store); refine ⟨?_⟩; refine wl_storeA (fltA ⟨2, s, at_⟩) h4 (by rfl) (by rfl) (by rfl) upd0 (by kernel_rfl) (by rfl) ?_; intro w9 h9))
    refine ⟨rfl, _, res_cell rfl h9 (by rfl) pkD Tryz.underlying75 rfl (by kernel_rfl), ?_⟩
    exact ⟨_, rfl, by rw [e.out], h9.drop⟩
end
end Go.Proofs.YtmjldaedhmipkaaGreatDoor
namespace Go.Rep
open Go.Frm (Bs)
def runAt (bt : Told) (ns : List Int) (n : Nat) : (Flt × Int) ⊕ Nat := match bad bt (ns.take n) with
  | some x => .inl x
  | none => .inr n
def run (bt : Told) (ns : List Int) : (Flt × Int) ⊕ Nat :=
  if (split bt ns ns.length).2 ≠ 0 then .inl (Flt.zero, (split bt ns ns.length).2) else runAt bt ns (split bt ns ns.length).1
theorem runAt_bad {bt : Told} {ns : List Int} {n : Nat} {x : Flt × Int} (h : bad bt (ns.take n) = some x) : runAt bt ns n = .inl x := by unfold runAt; rw [h]
theorem runAt_none {bt : Told} {ns : List Int} {n : Nat} (h : bad bt (ns.take n) = none) : runAt bt ns n = .inr n := by unfold runAt; rw [h]
def lastOfL (l : List Int) : Int := match l.getLast? with
  | some s => s
  | none => -1
theorem newest_mem : ∀ {l : List Row} {k : Bs} {r : Row}, newest l k = some r → r ∈ l
  | [], _, _, h => by cases h
  | x :: l, k, r, h => by
    unfold newest at h
    split at h
    · rename_i y hy
      cases h
      exact .tail _ (newest_mem hy)
    · split at h
      · cases h; exact .head _
      · cases h
theorem ledger_place {l : List Row} {k : Bs} {a : Abt} (h : ledger l k = some a) : ∃ r ∈ l, a.place = rplc r := by
  unfold ledger at h
  cases hn : newest l k with
  | none => rw [hn] at h; cases h
  | some r => rw [hn] at h; cases h; exact ⟨r, newest_mem hn, rfl⟩
theorem rowsOf_take (bt : Told) (ns : List Int) (n : Nat) : ∀ r ∈ rowsOf bt (ns.take n), r ∈ rowsOf bt ns := fun r hr => by
  unfold rowsOf at hr ⊢
  obtain ⟨s, hs, h⟩ := List.mem_flatMap.1 hr
  exact List.mem_flatMap.2 ⟨s, List.mem_of_mem_take hs, h⟩
theorem rowsOf_le (bt : Told) (ns : List Int) (n : Nat) : (rowsOf bt (ns.take n)).length ≤ (rowsOf bt ns).length := by
  have e : rowsOf bt ns = rowsOf bt (ns.take n) ++ rowsOf bt (ns.drop n) := by
    unfold rowsOf; rw [← List.flatMap_append, List.take_append_drop]
  rw [e, List.length_append]; omega
theorem lastOfL_snoc (l : List Int) (s : Int) : lastOfL (l ++ [s]) = s := by unfold lastOfL; rw [List.getLast?_append]; rfl
end Go.Rep
namespace Go.Proofs.YtmjldaedhmipkaaGreatDoor
open Go Go.Sl Go.Med Go.MapKept Go.RowKit
section
variable {P : Program} {w0 w : World} {L R : List HProp} {b : Nat} {ops : Array Oper} {a : Act} {Q : Exit → Act → World → Prop} {K : Act → World → Prop} {E : Prop} {dst : Option Tmp} {t ty : TypeId} {pos : String} {after : Array Edge} {y : Operand} {v : Value} {cs : Array Value}
theorem eff_box (hs : Sat w0 w L) (hy : a.eval y = v) (hcs : v.cells = cs)
    (hK : ∀ b w', Sat w0 w' (pt b (.cells cs ty (0,0)) :: L) → K (a.put dst (.pointer (some ⟨b, 0, none⟩))) w') :
    if Region.wanted ⟨dst, .box ty y, t, pos, after, none⟩ (yielded ops a.tmps) = true then Oper.wp P ⟨dst, .box ty y, t, pos, after, none⟩ a w K Q else E := by
  subst hcs
  refine eff_of rfl ?_
  have hS := hs.alloc (.cells v.cells ty)
  unfold Oper.wp execOp
  have hrun : (Instr.box ty v).run P w = .ok (.pointer (some ⟨w.heap.size, 0, none⟩)) (w.alloc (.cells v.cells ty)) := by
    simp [Instr.box, newVar, newRow, go_sem]
  simp only [hy, Sem.run_bind, Sem.run_pure, hrun, Result.andThen_ok]
  exact hK _ _ hS
end
section
variable {w0 w : World} {F R : List HProp} {sv : Value}
theorem tail_c {l : List Int} {n : Nat} (hn : n ≤ l.length) (h : Sat w0 w (osl 3 1 sv (ints l) :: R)) :
    ∃ tv, (∀ w, (Instr.sliceAt 45 sv (some (.int .i64 n)) none none).run Tryz.prog w = .ok tv w) ∧ (∃ a' c', tv = .slice a' (l.length - n) c') ∧ ∀ W, rdsl 1 sv (ints l) W → rdsl 1 tv (ints (l.drop n)) W := by
  rcases h.osl_cases with ⟨rfl, he, h'⟩ | ⟨g, k, cap, cs, rfl, hl, hk, hc, hcm, htk, hp⟩
  · obtain rfl : l = [] := by simpa [ints] using he
    obtain rfl : n = 0 := by simpa using hn
    refine ⟨.slice none 0 0, fun w => by go_simp, ⟨none, 0, rfl⟩, fun W hW => by simpa using hW⟩
  · obtain rfl : k = l.length := by simpa [ints] using hl.symm
    by_cases hce : cap = n
    · have hd : l.drop n = [] := List.drop_eq_nil_of_le (by omega)
      have e0 : l.length - n = 0 := by omega
      rw [hd, e0]
      have h1 : n ≤ cap := by omega
      have h2 : l.length = n := by omega
      refine ⟨.slice (some ⟨g, 0, none⟩) 0 0, fun w => ?_, ⟨_, _, rfl⟩, fun W hW => ⟨_, _, _, rfl, rfl, fun j x hj => by cases hj⟩⟩
      have h4 : (0 : Int) ≤ (n : Int) := by omega
      have h5 : (n : Int).toNat = n := by omega
      subst hce
      go_simp
    · refine ⟨.slice (some ⟨g, n, none⟩) (l.length - n) (cap - n), fun w => ?_, ⟨_, _, rfl⟩, fun W hW => ?_⟩
      · have h4 : (0 : Int) ≤ (n : Int) := by omega
        have h5 : (n : Int).toNat = n := by omega
        have h6 : n ≤ cap := by omega
        go_simp
      · obtain ⟨a, n', c, he, hl', hx⟩ := hW
        cases he
        refine ⟨_, _, _, rfl, by unfold ints; rw [List.length_map, List.length_drop, Nat.mul_one], fun j x hj => ⟨_, rfl, ?_⟩⟩
        have hj2 : (ints l)[n + j]? = some x := by
          unfold ints at hj ⊢
          rw [List.map_drop, List.getElem?_drop] at hj
          exact hj
        obtain ⟨ad, e, hc'⟩ := hx (n + j) x hj2
        cases e
        rw [adr_add, Nat.zero_add] at hc'
        rw [adr_add]
        exact hc'
theorem head_c {l : List Int} {n : Nat} (hn : n ≤ l.length) (h : Sat w0 w (osl 3 1 sv (ints l) :: R)) :
    ∃ a' c', (∀ w, (Instr.sliceAt 45 sv none (some (.int .i64 n)) none).run Tryz.prog w = .ok (.slice a' n c') w) ∧ ∀ W, rdsl 1 sv (ints l) W → rdsl 1 (.slice a' n c') (ints (l.take n)) W := by
  rcases h.osl_cases with ⟨rfl, he, h'⟩ | ⟨g, k, cap, cs, rfl, hl, hk, hc, hcm, htk, hp⟩
  · obtain rfl : l = [] := by simpa [ints] using he
    obtain rfl : n = 0 := by simpa using hn
    refine ⟨none, 0, fun w => by go_simp, fun W hW => by simpa using hW⟩
  · obtain rfl : k = l.length := by simpa [ints] using hl.symm
    refine ⟨some ⟨g, 0, none⟩, cap, fun w => ?_, fun W hW => ?_⟩
    · have h4 : (0 : Int) ≤ (n : Int) := by omega
      have h5 : (n : Int).toNat = n := by omega
      have h6 : n ≤ cap := by omega
      go_simp
    · obtain ⟨a, n', c, he, hl', hx⟩ := hW
      cases he
      refine ⟨_, _, _, rfl, by unfold ints; rw [List.length_map, List.length_take, Nat.mul_one]; omega, fun j x hj => ?_⟩
      refine hx j x ?_
      unfold ints at hj ⊢
      rw [List.map_take, List.getElem?_take] at hj
      split at hj
      · exact hj
      · cases hj
theorem TabMA.lists {p B : Nat} {m : Frm.Bs → Option Rep.Abt} (h : Sat w0 w (TabMA p m B :: R)) : ∃ kv, Tab.Lists m kv ∧ (∀ q ∈ kv, q.1.length = 32) ∧ kv.length ≤ B := by
  obtain ⟨t, sv', ⟨ok, is, hb⟩, hS⟩ := TabMA.open h
  have hp := List.mergeSort_perm (t.slots.filter fun x => decide (x.st = 1)) (fun a b : Tab.Slot Rep.Abt => decide (¬ b.key < a.key))
  have hw := List.pairwise_mergeSort (le := fun a b : Tab.Slot Rep.Abt => decide (¬ b.key < a.key)) (fun a b c h1 h2 => by
      rw [decide_eq_true_eq] at h1 h2 ⊢
      intro h3
      rcases Tab.bs_tri a.key b.key with q | q | q
      · exact h2 (List.lt_trans h3 q)
      · exact h2 (q ▸ h3)
      · exact h1 q) (fun a b => by
      rw [Bool.or_eq_true, decide_eq_true_eq, decide_eq_true_eq]
      by_cases q : b.key < a.key
      · exact .inr fun q2 => List.lt_irrefl _ (List.lt_trans q q2)
      · exact .inl q) (t.slots.filter fun x => decide (x.st = 1))
  obtain ⟨h1, h2⟩ := Tab.lists_of ok.good is hp (hw.imp fun {a b} q => by rwa [decide_eq_true_eq] at q)
  refine ⟨_, h1, fun q hq => ?_, ?_⟩
  · obtain ⟨x, hx, rfl⟩ := List.mem_map.1 hq
    exact (h2 x hx).2
  · rw [List.length_map, hp.length_eq, ← List.countP_eq_length_filter]
    have e : t.slots.countP (fun x => decide (x.st = 1)) = Tab.fulls t.slots := by
      unfold Tab.fulls
      refine List.countP_congr fun x _ => ?_
      simp
    have := ok.n; omega
end
end Go.Proofs.YtmjldaedhmipkaaGreatDoor
namespace Go.Frm
end Go.Frm
namespace Go.Rep
open Go.Frm (Bs Fnd)
open Go.Seg (Plc)
open Go.Tab
def uAt (l : List Row) (us : List Use) (i : Nat) : List Use := us.map fun u => ⟨u.seg, u.size, u.live + live l u.seg i⟩
end Go.Rep
namespace Go.Rep
open Go.Frm (Bs Fnd Ent fnds encs GoodE)
open Go.Seg (Plc mag)
open Go.Tab
def rowsC : Nat → List (List Ent) → List Row
  | _, [] => []
  | k, es :: C => ((fnds es 8).map fun f => ((k : Int), f)) ++ rowsC (k + 1) C
section
variable {C : List (List Ent)} {bt : Told} {k n : Nat}
theorem rowsC_e : ∀ (k : Nat) (C : List (List Ent)), (rowsC k C).map (·.2.e) = C.flatten
  | _, [] => rfl
  | k, es :: C => by
    unfold rowsC
    rw [List.map_append, List.map_map, rowsC_e (k + 1) C, List.flatten_cons]
    congr 1
    exact Frm.fnds_e es 8
theorem rows_is : ∀ (C : List (List Ent)) (k : Nat), (∀ j es, C[j]? = some es → bt ((k + j : Nat) : Int) = (mag ++ encs es, 0) ∧ ∀ x ∈ es, GoodE x) → rowsOf bt ((List.range' k C.length).map fun i => ((i : Nat) : Int)) = rowsC k C
  | [], k, _ => rfl
  | es :: C, k, h => by
    have h0 := h 0 es rfl
    rw [Nat.add_zero] at h0
    have ih := rows_is C (k + 1) fun j fs hj => by
      have := h (j + 1) fs (by simpa using hj)
      rwa [show k + (j + 1) = k + 1 + j by omega] at this
    rw [List.length_cons, List.range'_succ, List.map_cons]
    show ((Frm.scan (bt (k : Int)).1).1.map fun f => ((k : Int), f)) ++ rowsOf bt ((List.range' (k + 1) C.length).map fun i => ((i : Nat) : Int)) = _
    rw [ih, h0.1, Frm.scan_encs es h0.2]
    rfl
def endsC (es : List Ent) : Bool := match es.getLast? with
  | some x => x.tag == 2
  | none => false
theorem ended_fnds (es : List Ent) (a : Nat) : endedF (fnds es a) = endsC es := by
  unfold endedF endsC
  have h : (fnds es a).getLast?.map (·.e) = es.getLast? := by rw [← List.getLast?_map, Frm.fnds_e]
  cases hl : (fnds es a).getLast? with
  | none => rw [hl] at h; rw [← h]; rfl
  | some f => rw [hl] at h; rw [← h]; rfl
theorem split_is {ns : List Int} (hl : ns.length = C.length) (h : ∀ j es, C[j]? = some es → bt (ns.getD j 0) = (mag ++ encs es, 0) ∧ ∀ x ∈ es, GoodE x) : ∀ i, i ≤ C.length →
    ∃ n, split bt ns i = (n, 0) ∧ n ≤ i ∧ (n ≠ 0 → ∃ es, C[n - 1]? = some es ∧ endsC es = true) ∧ ∀ j es, n ≤ j → j < i → C[j]? = some es → endsC es = false
  | 0, _ => ⟨0, rfl, Nat.le_refl _, fun h => absurd rfl h, fun j es h1 h2 => by omega⟩
  | i + 1, hi => by
    obtain ⟨es, he⟩ : ∃ es, C[i]? = some es := ⟨_, List.getElem?_eq_getElem (by omega)⟩
    obtain ⟨h1, h2⟩ := h i es he
    have hu : split bt ns (i + 1) = if endsC es = true then (i + 1, 0) else split bt ns i := by
      rw [split, h1, if_neg (by simp), Frm.scan_encs es h2]
      simp only [ended_fnds, true_and]
    rw [hu]
    cases hc : endsC es with
    | true => exact ⟨i + 1, rfl, Nat.le_refl _, fun _ => ⟨es, he, hc⟩, fun j fs a b => by omega⟩
    | false =>
      obtain ⟨n, a, b, c, d⟩ := split_is hl h i (by omega)
      refine ⟨n, a, by omega, c, fun j fs p q r => ?_⟩
      by_cases e : j = i
      · subst e; rw [he] at r; cases r; exact hc
      · exact d j fs p (by omega) r
theorem bad_is {ns : List Int} (h : ∀ (j : Nat) (s : Int), ns[j]? = some s → ∃ es, bt s = (mag ++ encs es, 0) ∧ ∀ x ∈ es, GoodE x) : bad bt ns = none := by
  induction ns with
  | nil => rfl
  | cons s ns ih =>
    obtain ⟨es, h1, h2⟩ := h 0 s rfl
    unfold bad
    rw [h1, if_neg (by simp), Frm.scan_encs es h2]
    simp only
    rw [if_neg (by simp)]
    exact ih fun j t hj => h (j + 1) t (by simpa using hj)
def lastE : List Ent → Bs → Option Ent
  | [], _ => none
  | x :: l, k => match lastE l k with
    | some y => some y
    | none => if x.tag ≠ 2 ∧ x.key = k then some x else none
theorem rowsC_mem : ∀ (C : List (List Ent)) (k : Nat) {r : Row}, r ∈ rowsC k C → ∃ j es, C[j]? = some es ∧ r.1 = ((k + j : Nat) : Int) ∧ r.2 ∈ fnds es 8
  | [], _, r, h => by cases h
  | es :: C, k, r, h => by
    unfold rowsC at h
    rcases List.mem_append.1 h with h | h
    · obtain ⟨f, hf, rfl⟩ := List.mem_map.1 h
      exact ⟨0, es, rfl, by simp, hf⟩
    · obtain ⟨j, fs, h1, h2, h3⟩ := rowsC_mem C (k + 1) h
      exact ⟨j + 1, fs, by simpa using h1, by rw [h2]; congr 1; omega, h3⟩
theorem fnds_mem : ∀ (es : List Ent) (a : Nat) {f : Fnd}, f ∈ fnds es a → ∃ u v, es = u ++ f.e :: v ∧ f.at_ = a + (encs u).length ∧ f.size = (Frm.encode f.e).1.length
  | [], _, f, h => by cases h
  | x :: es, a, f, h => by
    unfold fnds at h
    rcases List.mem_cons.1 h with rfl | h
    · exact ⟨[], es, rfl, rfl, rfl⟩
    · obtain ⟨u, v, h1, h2, h3⟩ := fnds_mem es _ h
      refine ⟨x :: u, v, by rw [h1]; rfl, ?_, h3⟩
      have e : encs (x :: u) = (Frm.encode x).1 ++ encs u := rfl
      rw [h2, e, List.length_append]; omega
end
end Go.Rep
namespace Go.Seg
open Go.Med
open Go.Frm (encs GoodE fnds)
section
variable {n : Nat} {M : Med} {L : Log} {C : List (List Frm.Ent)}
theorem Holds.ns (h : Holds n L M C) : L.segs = (List.range' 0 C.length).map fun i => ((i : Nat) : Int) := by
  obtain ⟨h1, h2⟩ := h.segs
  apply List.ext_getElem?
  intro i
  by_cases hi : i < C.length
  · rw [h2 i hi, List.getElem?_map, List.getElem?_range' hi]; simp
  · rw [List.getElem?_eq_none (by omega), List.getElem?_eq_none (by rw [List.length_map, List.length_range']; omega)]
theorem Holds.told (h : Holds n L M C) : ∀ j es, C[j]? = some es → L.bytes M (L.segs.getD j 0) = (mag ++ encs es, 0) ∧ ∀ x ∈ es, GoodE x := fun j es hj => by
  have hl := (List.getElem?_eq_some_iff.1 hj).1
  rw [List.getD, h.segs.2 j hl]
  exact ⟨h.bytes hj, (h.good es (List.mem_of_getElem? hj)).1⟩
theorem take_nums (n i : Nat) : ((List.range' 0 n).map fun i => ((i : Nat) : Int)).take i = (List.range' 0 (min i n)).map fun i => ((i : Nat) : Int) := by
  rw [← List.map_take]
  congr 1
  apply List.ext_getElem?
  intro j
  rw [List.getElem?_take]
  by_cases h1 : j < n
  · by_cases h2 : j < i
    · rw [if_pos h2, List.getElem?_range' h1, List.getElem?_range' (by omega)]
    · rw [if_neg h2, List.getElem?_eq_none (by rw [List.length_range']; omega)]
  · rw [List.getElem?_eq_none (by rw [List.length_range']; omega), List.getElem?_eq_none (by rw [List.length_range']; omega)]
    split <;> rfl
theorem Holds.rows (h : Holds n L M C) (i : Nat) : Rep.rowsOf (fun s => L.bytes M s) (L.segs.take i) = Rep.rowsC 0 (C.take i) := by
  have e : L.segs.take i = (List.range' 0 (C.take i).length).map fun i => ((i : Nat) : Int) := by
    rw [h.ns, take_nums, List.length_take]
  rw [e]
  refine Rep.rows_is (C.take i) 0 fun j es hj => ?_
  have hj' : C[j]? = some es := by
    rw [List.getElem?_take] at hj
    split at hj
    · exact hj
    · cases hj
  rw [Nat.zero_add]
  exact ⟨h.bytes hj', (h.good es (List.mem_of_getElem? hj')).1⟩
theorem Holds.bad (h : Holds n L M C) (i : Nat) : Rep.bad (fun s => L.bytes M s) (L.segs.take i) = none := by
  refine Rep.bad_is fun j s hs => ?_
  have hs' : L.segs[j]? = some s := by
    rw [List.getElem?_take] at hs
    split at hs
    · exact hs
    · cases hs
  have hl : j < C.length := by rw [← h.segs.1]; exact (List.getElem?_eq_some_iff.1 hs').1
  have := h.segs.2 j hl
  rw [hs'] at this
  cases this
  exact ⟨_, h.bytes (List.getElem?_eq_getElem hl), (h.good _ (List.getElem_mem hl)).1⟩
theorem Holds.split (h : Holds n L M C) : ∃ c, Rep.split (fun s => L.bytes M s) L.segs L.segs.length = (c, 0) ∧ c ≤ C.length ∧ (c ≠ 0 → ∃ es, C[c - 1]? = some es ∧ Rep.endsC es = true) ∧ ∀ j es, c ≤ j → C[j]? = some es → Rep.endsC es = false := by
  rw [h.segs.1]
  obtain ⟨c, h1, h2, h3, h4⟩ := Rep.split_is h.segs.1 h.told C.length (Nat.le_refl _)
  exact ⟨c, h1, h2, h3, fun j es a b => h4 j es a (List.getElem?_eq_some_iff.1 b).1 b⟩
theorem Holds.run (h : Holds n L M C) : ∃ c, Rep.run (fun s => L.bytes M s) L.segs = .inr c ∧ c ≤ C.length ∧ (c ≠ 0 → ∃ es, C[c - 1]? = some es ∧ Rep.endsC es = true) ∧ ∀ j es, c ≤ j → C[j]? = some es → Rep.endsC es = false := by
  obtain ⟨c, h1, h2⟩ := h.split
  refine ⟨c, ?_, h2⟩
  unfold Rep.run
  rw [h1, if_neg (by simp)]
  exact Rep.runAt_none (h.bad c)
end
end Go.Seg
namespace Go.Seg
open Go.Med
open Go.Frm (encs GoodE fnds Ent)
def toE (d : Ent) : Ent := if d.tag = 0 then ⟨0, d.key, d.data⟩ else if d.tag = 1 then ⟨1, d.key, []⟩ else comEnt
def isPut (d : Ent) : Prop := d.tag = 0 ∨ d.tag = 1
instance (d : Ent) : Decidable (isPut d) := by unfold isPut; infer_instance
def Log.play1 (L : Log) (M : Med) (d : Ent) : (Log × Med) × Int := if isPut d then ((L.append M (toE d)).1, (L.append M (toE d)).2.2) else ((L.commit M).1, (L.commit M).2.2)
def Log.playL : List Ent → Log → Med → Log × Med
  | [], L, M => (L, M)
  | d :: ds, L, M => Log.playL ds (L.play1 M d).1.1 (L.play1 M d).1.2
structure Pl (n : Nat) (ds : List Ent) (L : Log) (M : Med) (C : List (List Ent)) : Prop where
  holds : Holds n L M C
  tail : Tail L.on C
  flat : C.flatten = ds.map toE
  small : ∀ x ∈ C.flatten, x.data.length ≤ 300
section
variable {n : Nat} {ds : List Ent} {L : Log} {M : Med} {C C0 : List (List Ent)} {d : Ent}
theorem toE_key (hk : d.key.length = 32) : (toE d).key.length = 32 := by
  unfold toE
  split
  · exact hk
  split
  · exact hk
  · rfl
theorem toE_data {c : Nat} (hk : d.data.length ≤ c) : (toE d).data.length ≤ c := by
  unfold toE
  split
  · exact hk
  split
  · exact Nat.zero_le _
  · exact Nat.zero_le _
theorem toE_good (hk : d.key.length = 32) (hd : d.data.length ≤ 300) : (Frm.encode (toE d)).2 = 0 := by
  have hc : Frm.check (toE d) = 0 := by
    unfold toE
    split
    · unfold Frm.check
      simp only [if_true]
      rw [if_neg (by omega)]
    split
    · unfold Frm.check
      simp
    · decide
  unfold Frm.encode
  rw [if_neg (by simp [hc])]
theorem toE_tag : (toE d).tag = 2 ↔ ¬ isPut d := by
  unfold toE isPut
  split
  · rename_i h; simp [h]
  split
  · rename_i h0 h; simp [h]
  · rename_i h0 h1; simp [h0, h1, comEnt]
theorem put_eq (h : isPut d) : L.play1 M d = ((L.append M (toE d)).1, (L.append M (toE d)).2.2) := by unfold Log.play1; rw [if_pos h]
theorem com_eq (h : ¬ isPut d) : L.play1 M d = ((L.commit M).1, (L.commit M).2.2) := by unfold Log.play1; rw [if_neg h]
theorem toE_com (h : ¬ isPut d) : toE d = comEnt := by
  unfold isPut at h
  unfold toE
  rw [if_neg (fun e => h (.inl e)), if_neg (fun e => h (.inr e))]
theorem Pl.start (lim : Int) (h1 : 128 ≤ lim) (h2 : lim ≤ 1048576) : Pl 0 [] ⟨lim, [], false, 0⟩ (new 1048576) [] :=
  ⟨Holds.start lim h1 h2, ⟨(fun es he => by cases he), (fun h => by cases h)⟩, rfl, (fun x hx => by cases hx)⟩
theorem Pl.step (h : Pl n ds L M C) (hn : n < 100) (hk : d.key.length = 32) (hd : d.data.length ≤ 300) :
    (L.play1 M d).2 = 0 ∧ (L.play1 M d).1.1.limit = L.limit ∧ (L.play1 M d).1.1.on = decide (isPut d) ∧ Pl (n + 1) (ds ++ [d]) (L.play1 M d).1.1 (L.play1 M d).1.2 (put C (L.fits (Frm.encode (toE d)).1.length) (toE d)) := by
  have hgood := toE_good hk hd
  have hon : L.fits (Frm.encode (toE d)).1.length = true → C ≠ [] := fun hf => by
    have h1 := h.holds.keeps.log.on (fits_on' hf)
    intro e
    have := h.holds.len
    rw [e, List.length_nil] at this
    exact h1 (List.eq_nil_of_length_eq_zero this)
  have hflat : (put C (L.fits (Frm.encode (toE d)).1.length) (toE d)).flatten = (ds ++ [d]).map toE := by
    rw [put_flat C _ _ hon, h.flat, List.map_append]; rfl
  have hsm : ∀ x ∈ (put C (L.fits (Frm.encode (toE d)).1.length) (toE d)).flatten, x.data.length ≤ 300 := by
    rw [put_flat C _ _ hon]
    intro x hx
    rcases List.mem_append.1 hx with hx | hx
    · exact h.small x hx
    · rw [List.mem_singleton.1 hx]; exact toE_data hd
  by_cases hp : isPut d
  · obtain ⟨a1, a2, a3, a4, _, _⟩ := h.holds.append hn (toE d) (toE_key hk) (toE_data hd) hgood
    rw [put_eq hp]
    refine ⟨a1, a3, by rw [a2, decide_eq_true hp], a4, ?_, hflat, hsm⟩
    simp only
    rw [a2]
    exact h.tail.putOn fits_on' (toE d) (fun e => toE_tag.1 e hp)
  · obtain ⟨a1, a2, a3, a4⟩ := h.holds.commit hn
    rw [com_eq hp]
    have e := toE_com hp
    rw [e] at hflat hsm ⊢
    refine ⟨a1, a3, by rw [a2, decide_eq_false hp], a4, ?_, hflat, hsm⟩
    simp only
    rw [a2]
    exact h.tail.putOff fits_on' comEnt
theorem Pl.count (h : Pl n ds L M C) : C.flatten.length = ds.length := by rw [h.flat, List.length_map]
theorem Pl.rows_len (h : Pl n ds L M C) (c : Nat) : (Rep.rowsOf (fun s => L.bytes M s) (L.segs.take c)).length ≤ ds.length := by
  rw [h.holds.rows, ← List.length_map (f := fun r : Rep.Row => r.2.e), Rep.rowsC_e, ← h.count]
  conv => rhs; rw [← List.take_append_drop c C, List.flatten_append, List.length_append]
  omega
theorem Pl.rows_size (h : Pl n ds L M C) {r : Rep.Row} (hr : r ∈ Rep.rowsC 0 C) : r.2.size ≤ 341 := by
  obtain ⟨j, es, h1, h2, h3⟩ := Rep.rowsC_mem C 0 hr
  obtain ⟨u, v, h4, h5, h6⟩ := Rep.fnds_mem es 8 h3
  have hm : r.2.e ∈ es := by rw [h4]; simp
  have hes := List.mem_of_getElem? h1
  have hg := (h.holds.good es hes).1 _ hm
  rw [h6]
  exact enc_small hg.1 hg.2 (h.small _ (List.mem_flatten.2 ⟨es, hes, hm⟩))
structure Base (C0 : List (List Ent)) (on : Bool) (C : List (List Ent)) : Prop where
  pre : C.take C0.length = C0
  gt : on = true → C0.length < C.length
theorem Base.le {on : Bool} (h : Base C0 on C) : C0.length ≤ C.length := by
  have := congrArg List.length h.pre
  rw [List.length_take] at this; omega
theorem Base.start (C : List (List Ent)) : Base C false C := ⟨List.take_length, fun h => by cases h⟩
theorem Base.put {on b on' : Bool} (h : Base C0 on C) (hb : b = true → on = true) (x : Ent) : Base C0 on' (put C b x) := by
  unfold Seg.put
  cases b with
  | true =>
    have hg := h.gt (hb rfl)
    simp only [if_true]
    refine ⟨?_, fun _ => ?_⟩
    · rw [List.take_append_of_le_length (by rw [List.length_dropLast]; omega), List.dropLast_eq_take, List.take_take, Nat.min_eq_left (by omega)]
      exact h.pre
    · rw [List.length_append, List.length_dropLast, List.length_singleton]; omega
  | false =>
    simp only [Bool.false_eq_true, if_false]
    have := h.le
    refine ⟨by rw [List.take_append_of_le_length this]; exact h.pre, fun _ => by rw [List.length_append, List.length_singleton]; omega⟩
end
end Go.Seg
namespace Go.Proofs.YtmjldaedhmipkaaGreatDoor
open Go Go.Sl Go.Med Go.MapKept Go.RowKit
def RunOut (w0 : World) (F : List HProp) (bt : Rep.Told) (ns : List Int) (p m : Nat) (L : Seg.Log) (M : Med) (v : Value) (w' : World) : Prop :=
  match Rep.run bt ns with
  | .inl (fl, e) => v = .tuple #[.pointer none, .agg (fltA fl), errno e] ∧ Sat w0 w' (LogRep p m L :: MedRep m M :: F)
  | .inr n => ∃ (ps pi : Nat) (uv tv av : Value) (kv : List (Frm.Bs × Rep.Abt)), v = .tuple #[ptr ps, .agg (fltA Rep.Flt.zero), errno 0] ∧
      (Tab.Lists (Rep.ledger (Rep.rowsOf bt (ns.take n))) kv ∧ (∀ q ∈ kv, q.1.length = 32) ∧ kv.length ≤ (Rep.rowsOf bt (ns.take n)).length) ∧
      ((∃ a' c', tv = .slice a' (ns.length - n) c') ∧ ∀ W, rdsl 1 av (ints ns) W → rdsl 1 tv (ints (ns.drop n)) W) ∧
      Sat w0 w' (stPt ps (Rep.lastOfL (ns.take n)) pi uv tv :: TabML pi (Tab.mapOf (Rep.puts kv)) kv.length :: osl 115 3 uv (((Rep.usesOf bt (ns.take n)).map (Rep.upd kv)).flatMap uenc) :: osl 3 1 av (ints ns) :: LogRep p m L :: MedRep m M :: F)
section
variable {w0 w : World} {F : List HProp} {p m K : Nat} {L : Seg.Log} {M : Med}
theorem zLed : zeroB Tryz.prog 197 = some (.agg #[.pointer none]) := by kernel_rfl
set_option maxRecDepth 20000 in
set_option maxHeartbeats 16000000 in
theorem run_c (hL : L.Ok) (hM : M.Ok K) (hH : Ro w0 F Half) (hrows : (Rep.rowsOf (lbt L M) L.segs).length ≤ 12000000) (hsz : ∀ r ∈ Rep.rowsOf (lbt L M) L.segs, (r.2.size : Int) ≤ 4294967296) (h : Sat w0 w (LogRep p m L :: MedRep m M :: F)) :
    Calls Tryz.prog 37 #[ptr p] w (Rtn fun v w' => RunOut w0 F (lbt L M) L.segs p m L M v w') := by
  have Hlen := Lib.hid (show L.segs.length ≤ 1048576 from by unfold Seg.Log.segs; rw [List.length_map]; have := hL.len; omega)
  have hse := lsegs_c hL h
  have Hnn := Lib.hid (show ∀ s ∈ L.segs, 0 ≤ s from fun s hs => by
    unfold Seg.Log.segs at hs
    obtain ⟨x, hx, rfl⟩ := List.mem_map.1 hs
    exact (hL.nums x hx).1)
  have HL := Lib.hid hL; have HM := Lib.hid hM; have HH := Lib.hid hH; have Hrows := Lib.hid hrows; have Hsz := Lib.hid hsz
  clear hL hM hH hrows hsz
  go_enter Tryz.func37, Tryz.ntmps37
  go_wp2_with (with_reducible apply at_alloc)
  refine ⟨?_⟩
  refine wl_alloc zFlt h rfl ?_
  intro b3 w3 h3
  clear hse h
  go_wp2_with fail
  refine (lsegs_c HL.out (h3.pick pick1)).mono ?_
  rintro ee w4 ⟨sv, rfl, h4⟩
  have hsp := split_c HL.out HM.out (Ro.os HH.out) (h4.sb : Sat w0 w4 (osl 3 1 sv (ints L.segs) :: LogRep p m L :: MedRep m M :: pt b3 (.cells (fltA Rep.Flt.zero) 75 (0,0)) :: F))
  clear h3 h4
  go_wp2_with fail
  refine hsp.mono ?_
  rintro ee w5 ⟨v, rfl, rfl, h5⟩
  clear hsp
  by_cases h0 : (Rep.split (lbt L M) L.segs L.segs.length).2 = 0
  rotate_left
  · have hb : ((Rep.split (lbt L M) L.segs L.segs.length).2 != 0) = true := by rw [bne_iff_ne]; exact h0
    have Hf := Lib.hid (show Rep.run (lbt L M) L.segs = .inl (Rep.Flt.zero, (Rep.split (lbt L M) L.segs L.segs.length).2) by unfold Rep.run; rw [if_pos h0])
    have h6 : Sat w0 w5 (pt b3 (.cells (fltA Rep.Flt.zero) 75 (0,0)) :: LogRep p m L :: MedRep m M :: F) := h5.sb
    clear h0 h5
    go_wp2_with (first
      | ((with_reducible apply at_build0); refine ⟨?_⟩; refine wl_build0 (fun w => run_flt0 w) ?_)
      | ((with_reducible apply at_store); refine ⟨?_⟩; refine wl_storeA (fltA Rep.Flt.zero) h6 (by rfl) (by rfl) (by rfl) upd0 (by kernel_rfl) (by rfl) ?_; intro w9 h9))
    refine ⟨rfl, _, res_tct rfl h9 (by rfl) pkD Tryz.underlying75 rfl (by kernel_rfl), _, rfl, ?_⟩
    unfold RunOut
    rw [Hf.out]
    exact ⟨rfl, h9.drop⟩
  have hb : ((Rep.split (lbt L M) L.segs L.segs.length).2 != 0) = false := by rw [h0]; rfl
  have Hle := Lib.hid (Rep.split_le (lbt L M) L.segs L.segs.length)
  have Hf := Lib.hid (show Rep.run (lbt L M) L.segs = Rep.runAt (lbt L M) L.segs (Rep.split (lbt L M) L.segs L.segs.length).1 by unfold Rep.run; rw [if_neg (fun h => h h0)])
  rw [h0]
  generalize (Rep.split (lbt L M) L.segs L.segs.length).1 = n at *
  clear h0
  obtain ⟨tv, htl, ⟨ta, tc, rfl⟩, htr⟩ := tail_c Hle.out h5
  have Htr := Lib.hid htr
  clear htr
  go_wp2_with fail
  have hG : True := trivial
  have h6 := h5.drew
  clear h5
  refine wpL_begin [] (fun w' => True) (by kernel_rfl) ?_
  refine rp 1 (hy := (yl_move evD)) (h := ?_)
  refine rp 2 (hy := (yl_move evD)) (h := ?_)
  refine rp 3 (hy := (yl_slice_lo evD evD htl)) (h := ?_)
  refine rg_eff 0 evD (by kernel_rfl) (fun K hK => ?_)
  refine eff_call [] (by kernel_rfl) (by simp) ?_
  refine (newL_c h6).mono ?_
  rintro ee w7 ⟨v, rfl, pi, rfl, h7⟩
  refine hK _ _ (.inr (.inl trivial)) ?_
  clear hK h6
  refine rp 4 (hy := (by (refine Or.inl ⟨by rfl, ?_⟩; ((intro wq; go_simp); first | done | (with_reducible rfl))))) (h := ?_)
  refine rg_eff 5 evD (by kernel_rfl) (fun K hK => ?_)
  refine eff_box (cs := #[.int .i64 (-1), ptr pi, .slice none 0 0, .slice ta (L.segs.length - n) tc]) h7 evD evD ?_
  intro ps w8 h8
  refine hK _ _ (.inr (.inl trivial)) ?_
  clear hK h7
  refine rp 6 (hy := (yl_assign evD)) (h := ?_)
  refine wpL_done (by kernel_rfl) ?_
  clear hG
  go_wp2_with fail
  refine (newA_c h8).mono ?_
  rintro ee w9 ⟨v, rfl, pg, rfl, h9⟩
  clear h8
  go_wp2_with (with_reducible apply at_alloc)
  refine ⟨?_⟩
  refine wl_alloc zLed h9 rfl ?_
  intro b9 w10 h10
  clear h9
  obtain ⟨ha, hc, hhl, hhr⟩ := head_c Hle.out (h10.sb : Sat w0 w10 (osl 3 1 sv (ints L.segs) :: F))
  go_wp2_with ((with_reducible apply at_store); refine ⟨?_⟩; refine wl_store (cs' := #[ptr pg]) h10 (by rfl) evD (by rfl) upd0 (Nat.le_of_ble_eq_true (by rfl)) (by kernel_rfl) (by rfl) ?_; intro w11 h11)
  have h12 : Sat w0 w11 (stPt ps (Rep.lastOfL (L.segs.take 0)) pi (.slice none 0 0) (.slice ta (L.segs.length - n) tc) :: osl 115 3 (.slice none 0 0) ((Rep.usesOf (lbt L M) (L.segs.take 0)).flatMap uenc) :: TabML pi (fun _ => none) 0 :: pt b9 (.cells #[ptr pg] 197 (0,0)) ::
    TabMA pg (Rep.ledger (Rep.rowsOf (lbt L M) (L.segs.take 0))) (Rep.rowsOf (lbt L M) (L.segs.take 0)).length :: pt b3 (.cells (fltA Rep.Flt.zero) 75 (0,0)) :: osl 3 1 sv (ints L.segs) :: LogRep p m L :: MedRep m M :: F) := (Sat.osl_nil.2 h11).sb
  clear h10 h11 htl
  go_loopg [45] n (fun g iq wr => ∃ (i : Nat) (uv : Value), g = n - i ∧ i ≤ n ∧ iq = .int .i64 i ∧ Rep.bad (lbt L M) (L.segs.take i) = none ∧ Sat w0 wr (stPt ps (Rep.lastOfL (L.segs.take i)) pi uv (.slice ta (L.segs.length - n) tc) :: osl 115 3 uv ((Rep.usesOf (lbt L M) (L.segs.take i)).flatMap uenc) :: TabML pi (fun _ => none) 0 :: pt b9 (.cells #[ptr pg] 197 (0,0)) ::
    TabMA pg (Rep.ledger (Rep.rowsOf (lbt L M) (L.segs.take i))) (Rep.rowsOf (lbt L M) (L.segs.take i)).length :: pt b3 (.cells (fltA Rep.Flt.zero) 75 (0,0)) :: osl 3 1 sv (ints L.segs) :: LogRep p m L :: MedRep m M :: F))
  case atStart => exact ⟨0, .slice none 0 0, rfl, Nat.zero_le _, rfl, rfl, h12⟩
  case round =>
    obtain ⟨i, uv, rfl, hi, rfl, hbad, hS⟩ := hrel
    clear h12
    have Hbad := Lib.hid hbad
    clear hbad
    by_cases hlt : i < n
    rotate_left
    · obtain rfl : i = n := by omega
      have c1 : ¬ (i : Int) < (i : Int) := by omega
      obtain ⟨kv, k1, k2, k3⟩ := TabMA.lists (hS.pk (A := TabMA pg (Rep.ledger (Rep.rowsOf (lbt L M) (L.segs.take i))) (Rep.rowsOf (lbt L M) (L.segs.take i)).length))
      have k4 := Nat.le_trans (Rep.rowsOf_le (lbt L M) L.segs i) Hrows.out
      have hks : ∀ q ∈ kv, q.1.length = 32 ∧ 0 ≤ q.2.place.size ∧ q.2.place.size ≤ 4294967296 := fun q hq => by
        obtain ⟨r, hr, e⟩ := Rep.ledger_place ((k1.mem q.1 q.2).1 hq)
        rw [e]
        exact ⟨k2 q hq, Int.natCast_nonneg _, Hsz.out r (Rep.rowsOf_take _ _ _ r hr)⟩
      have hfl := fill_c (us := Rep.usesOf (lbt L M) (L.segs.take i)) k1 (by omega) (by omega) hks (by unfold Rep.usesOf; rw [List.length_map, List.length_take]; have := Hlen.out; omega)
        (hS.sb : Sat w0 wr (stPt ps (Rep.lastOfL (L.segs.take i)) pi uv (.slice ta (L.segs.length - i) tc) :: TabML pi (fun _ => none) 0 :: TabMA pg (Rep.ledger (Rep.rowsOf (lbt L M) (L.segs.take i))) (Rep.rowsOf (lbt L M) (L.segs.take i)).length ::
          osl 115 3 uv ((Rep.usesOf (lbt L M) (L.segs.take i)).flatMap uenc) :: pt b3 (.cells (fltA Rep.Flt.zero) 75 (0,0)) :: osl 3 1 sv (ints L.segs) :: LogRep p m L :: MedRep m M :: F))
      have K := Lib.hid (And.intro k1 (And.intro k2 k3))
      have Hg := Lib.hid (Hf.out.trans (Rep.runAt_none Hbad.out))
      have Htv := Lib.hid Htr.out
      clear k1 k2 k3 k4 hks hlt hi
      go_wp2_with ((with_reducible apply at_load); refine ⟨?_⟩; refine wl_loadA (cs := #[ptr pg]) hS (by rfl) (pick_there (pick_there (pick_there pick0))) Tryz.underlying197 rfl (by kernel_rfl) ?_)
      refine hfl.mono ?_
      rintro ee w14 ⟨v, rfl, h14⟩
      clear hfl hS
      go_wp2_with (first
        | ((with_reducible apply at_build0); refine ⟨?_⟩; refine wl_build0 (fun w => run_flt0 w) ?_)
        | ((with_reducible apply at_store); refine ⟨?_⟩; refine wl_storeA (fltA Rep.Flt.zero) h14 (by rfl) (by rfl) (by rfl) (upd_there (upd_there (upd_there (upd_there upd0)))) (by kernel_rfl) (by rfl) ?_; intro w15 h15))
      refine ⟨rfl, _, res_tct rfl h15 (by rfl) (pick_there (pick_there (pick_there (pick_there pick0)))) Tryz.underlying75 rfl (by kernel_rfl), _, rfl, ?_⟩
      unfold RunOut
      rw [Hg.out]
      exact ⟨ps, pi, uv, .slice ta (L.segs.length - i) tc, sv, kv, rfl, K.out, ⟨⟨ta, tc, rfl⟩, Htv.out⟩, h15.sb⟩
    have c1 : (i : Int) < (n : Int) := by omega
    have hwi : IntKind.i64.wrap ((i : Int) + 1) = (i : Int) + 1 := IntWalk.i64_in _ (by have := Hle.out; have := Hlen.out; omega)
    have hni : (L.segs.take n).length = n := by rw [List.length_take]; have := Hle.out; omega
    obtain ⟨s, hs⟩ : ∃ s, (L.segs.take n)[i]? = some s := ⟨_, List.getElem?_eq_getElem (by omega)⟩
    have hs2 : L.segs[i]? = some s := by rw [List.getElem?_take] at hs; rw [if_pos hlt] at hs; exact hs
    have Htk := Lib.hid (show L.segs.take (i + 1) = L.segs.take i ++ [s] by rw [List.take_add_one, hs2, Option.toList_some])
    have Hspl := Lib.hid (show ∃ post, L.segs.take n = L.segs.take i ++ s :: post by
      obtain ⟨h1, e⟩ := List.getElem?_eq_some_iff.1 hs
      refine ⟨(L.segs.take n).drop (i + 1), ?_⟩
      have e2 : L.segs.take i = (L.segs.take n).take i := by rw [List.take_take, Nat.min_eq_left (Nat.le_of_lt hlt)]
      rw [e2, ← e, ← List.drop_eq_getElem_cons h1, List.take_append_drop])
    have Hs0 := Lib.hid (Hnn.out s (List.mem_of_getElem? hs2))
    obtain ⟨bk, off, c', hsv, f0⟩ := ints_cell (hhr _ (Sat.rd (hS.pk (A := osl 3 1 sv (ints L.segs))))) hs
    rw [hni] at hsv
    cases hsv
    have hb := lbytes_c HL.out HM.out s (hS.sb : Sat w0 wr (LogRep p m L :: MedRep m M :: stPt ps (Rep.lastOfL (L.segs.take i)) pi uv (.slice ta (L.segs.length - n) tc) :: osl 115 3 uv ((Rep.usesOf (lbt L M) (L.segs.take i)).flatMap uenc) :: TabML pi (fun _ => none) 0 :: pt b9 (.cells #[ptr pg] 197 (0,0)) ::
      TabMA pg (Rep.ledger (Rep.rowsOf (lbt L M) (L.segs.take i))) (Rep.rowsOf (lbt L M) (L.segs.take i)).length :: pt b3 (.cells (fltA Rep.Flt.zero) 75 (0,0)) :: osl 3 1 sv (ints L.segs) :: F))
    have Hlt := Lib.hid hlt
    clear hS hs hs2 hni hlt hi
    go_wp2_with fail
    refine hb.mono ?_
    rintro ee w20 ⟨v, rfl, bv, rfl, h20⟩
    clear hb f0
    obtain ⟨hcap, ca, cc, rfl⟩ := bsl_capL h20
    by_cases h0 : (L.bytes M s).2 = 0
    rotate_left
    · have hb1 : ((L.bytes M s).2 != 0) = true := by rw [bne_iff_ne]; exact h0
      have Hg := Lib.hid (show Rep.run (lbt L M) L.segs = .inl (Rep.Flt.zero, (L.bytes M s).2) by
        rw [Hf.out]
        obtain ⟨post, e⟩ := Hspl.out
        exact Rep.runAt_bad (by rw [e]; exact Rep.bad_power Hbad.out h0))
      have h21 : Sat w0 w20 (pt b3 (.cells (fltA Rep.Flt.zero) 75 (0,0)) :: LogRep p m L :: MedRep m M :: F) := h20.sb
      clear h20 h0 hcap
      go_wp2_with (first
        | ((with_reducible apply at_build0); refine ⟨?_⟩; refine wl_build0 (fun w => run_flt0 w) ?_)
        | ((with_reducible apply at_store); refine ⟨?_⟩; refine wl_storeA (fltA Rep.Flt.zero) h21 (by rfl) (by rfl) (by rfl) upd0 (by kernel_rfl) (by rfl) ?_; intro w22 h22))
      refine ⟨rfl, _, res_tct rfl h22 (by rfl) pkD Tryz.underlying75 rfl (by kernel_rfl), _, rfl, ?_⟩
      unfold RunOut
      rw [Hg.out]
      exact ⟨rfl, h22.drop⟩
    have hb1 : ((L.bytes M s).2 != 0) = false := by rw [h0]; rfl
    have H0 := Lib.hid h0
    rw [h0]
    clear h0
    have hbl := Seg.bytes_len (L := L) HM.out s
    have hsc := fscan_c (w0 := w0) (w := w20) (L.bytes M s).1 (Ro.bsl _ _) hcap (Ro.os HH.out) (Nat.le_trans hbl (by decide)) h20
    clear hcap
    go_wp2_with fail
    refine hsc.mono ?_
    rintro ee w21 ⟨v, rfl, fs, fv, hfs, hfk, rfl, h21⟩
    clear hsc h20
    obtain ⟨fa, fc, rfl⟩ := fnds_sl hfk h21
    by_cases h1 : (Frm.scan (L.bytes M s).1).2.2 = 0
    rotate_left
    · have hb2 : ((Frm.scan (L.bytes M s).1).2.2 != 0) = true := by rw [bne_iff_ne]; exact h1
      have Hg := Lib.hid (show Rep.run (lbt L M) L.segs = .inl (Rep.fault s (Frm.scan (L.bytes M s).1).2.1, 13) by
        rw [Hf.out]
        obtain ⟨post, e⟩ := Hspl.out
        exact Rep.runAt_bad (by rw [e]; exact Rep.bad_scan Hbad.out H0.out h1))
      have h22 : Sat w0 w21 (pt b3 (.cells (fltA Rep.Flt.zero) 75 (0,0)) :: LogRep p m L :: MedRep m M :: F) := h21.sb
      clear h21 h1 hfs hfk
      go_wp2_with fail
      refine (fault_c s (Frm.scan (L.bytes M s).1).2.1 h22).mono ?_
      rintro ee w23 ⟨v, rfl, rfl, h23⟩
      clear h22
      go_wp2_with ((with_reducible apply at_store); refine ⟨?_⟩; refine wl_storeA (fltA (Rep.fault s (Frm.scan (L.bytes M s).1).2.1)) h23 (by rfl) (by rfl) (by rfl) upd0 (by kernel_rfl) (by rfl) ?_; intro w24 h24)
      refine ⟨rfl, _, res_tct rfl h24 (by rfl) pkD Tryz.underlying75 rfl (by kernel_rfl), _, rfl, ?_⟩
      unfold RunOut
      rw [Hg.out]
      exact ⟨rfl, h24.drop⟩
    have hb2 : ((Frm.scan (L.bytes M s).1).2.2 != 0) = false := by rw [h1]; rfl
    have H1 := Lib.hid h1
    rw [h1]
    clear h1
    have h22 : Sat w0 w21 (TabMA pg (Rep.ledger (Rep.rowsOf (lbt L M) (L.segs.take i) ++ (fs.take 0).map fun q => (s, q.1))) ((Rep.rowsOf (lbt L M) (L.segs.take i)).length + 0) :: stPt ps (Rep.lastOfL (L.segs.take i)) pi uv (.slice ta (L.segs.length - n) tc) :: osl 115 3 uv ((Rep.usesOf (lbt L M) (L.segs.take i)).flatMap uenc) :: TabML pi (fun _ => none) 0 :: pt b9 (.cells #[ptr pg] 197 (0,0)) ::
      pt b3 (.cells (fltA Rep.Flt.zero) 75 (0,0)) :: osl 3 1 sv (ints L.segs) :: LogRep p m L :: MedRep m M :: osl 203 36 (.slice fa fs.length fc) (fndsL fs) :: dataF fs :: F) := by
      have q : Sat w0 w21 (TabMA pg (Rep.ledger (Rep.rowsOf (lbt L M) (L.segs.take i))) (Rep.rowsOf (lbt L M) (L.segs.take i)).length :: stPt ps (Rep.lastOfL (L.segs.take i)) pi uv (.slice ta (L.segs.length - n) tc) :: osl 115 3 uv ((Rep.usesOf (lbt L M) (L.segs.take i)).flatMap uenc) :: TabML pi (fun _ => none) 0 :: pt b9 (.cells #[ptr pg] 197 (0,0)) ::
      pt b3 (.cells (fltA Rep.Flt.zero) 75 (0,0)) :: osl 3 1 sv (ints L.segs) :: LogRep p m L :: MedRep m M :: osl 203 36 (.slice fa fs.length fc) (fndsL fs) :: dataF fs :: F) := h21.sb
      rw [List.take_zero, List.map_nil, List.append_nil, Nat.add_zero]
      exact q
    have Hcnt := Lib.hid (show (Rep.rowsOf (lbt L M) (L.segs.take i)).length + fs.length ≤ 12000000 by
      have q1 := Rep.rowsOf_le (lbt L M) L.segs (i + 1)
      rw [Htk.out, Rep.rowsOf_snoc, List.length_append, List.length_map, show (Frm.scan (lbt L M s).1).1 = fs.map (·.1) from hfs.symm, List.length_map] at q1
      exact Nat.le_trans q1 Hrows.out)
    have hfl : fs.length ≤ 16777216 := by
      have := Frm.scan_count (L.bytes M s).1
      rw [← hfs, List.length_map] at this; omega
    have Hfl := Lib.hid hfl; have Hfs := Lib.hid hfs; have Hfk := Lib.hid hfk
    clear h21 hbl hfs hfk
    go_wp2_with fail
    go_loopg [72] fs.length (fun g jq wr => ∃ j : Nat, g = fs.length - j ∧ j ≤ fs.length ∧ jq = .int .i64 j ∧ Sat w0 wr (TabMA pg (Rep.ledger (Rep.rowsOf (lbt L M) (L.segs.take i) ++ (fs.take j).map fun q => (s, q.1))) ((Rep.rowsOf (lbt L M) (L.segs.take i)).length + j) :: stPt ps (Rep.lastOfL (L.segs.take i)) pi uv (.slice ta (L.segs.length - n) tc) :: osl 115 3 uv ((Rep.usesOf (lbt L M) (L.segs.take i)).flatMap uenc) :: TabML pi (fun _ => none) 0 :: pt b9 (.cells #[ptr pg] 197 (0,0)) ::
      pt b3 (.cells (fltA Rep.Flt.zero) 75 (0,0)) :: osl 3 1 sv (ints L.segs) :: LogRep p m L :: MedRep m M :: osl 203 36 (.slice fa fs.length fc) (fndsL fs) :: dataF fs :: F))
    case atStart => exact ⟨0, rfl, Nat.zero_le _, rfl, h22⟩
    case round =>
      obtain ⟨j, rfl, hj, rfl, hS⟩ := hrel
      clear h22
      by_cases hjl : j < fs.length
      rotate_left
      · obtain rfl : j = fs.length := by omega
        have d1 : ¬ (fs.length : Int) < (fs.length : Int) := by omega
        rw [List.take_length] at hS
        clear hjl hj
        have hul : ((Rep.usesOf (lbt L M) (L.segs.take i)).flatMap uenc).length ≤ 2147483648 := by
          rw [rows_len (k := 3) fun u _ => rfl]
          unfold Rep.usesOf
          rw [List.length_map, List.length_take]
          have := Hlen.out; omega
        go_wp2_with (first
          | ((with_reducible apply at_store); refine ⟨?_⟩; refine wl_store (cs' := #[.int .i64 s, ptr pi, uv, .slice ta (L.segs.length - n) tc]) hS (by rfl) evD (by rfl) (upd_there upd0) (Nat.le_of_ble_eq_true (by rfl)) (by kernel_rfl) (by rfl) ?_; intro w40 h40)
          | ((with_reducible apply at_load); refine ⟨?_⟩; refine wl_load1 h40 (by rfl) (pick_there pick0) (Nat.le_of_ble_eq_true (by rfl)) evD (by kernel_rfl) ?_)
          | (with_reducible apply at_build1))
        refine ⟨?_⟩
        refine wl_build1 (e := 115) (sz := 3) (by' := 24) (by kernel_rfl) h40 (by rfl) (cs := #[.int .i64 s, .int .i64 ((L.bytes M s).1.length : Nat), .int .i64 0]) rfl rfl (by decide) ?_
        intro b41 w41 h41
        go_wp2_with (with_reducible apply at_append)
        refine ⟨?_⟩
        refine wl_app 115 3 24 (by kernel_rfl) h41 (by rfl) (by rfl) (pick_there (pick_there (pick_there pick0))) pick0 rfl (Nat.le_refl 1) (by rfl) hul (by show 3 ≤ 65536; decide) (by decide) rfl ?_
        intro bA nA cA w42 h42
        go_wp2_with ((with_reducible apply at_store); refine ⟨?_⟩; refine wl_store (cs' := #[.int .i64 s, ptr pi, .slice (some ⟨bA, 0, none⟩) nA cA, .slice ta (L.segs.length - n) tc]) h42 (by rfl) evD (by rfl) (upd_there (upd_there upd0)) (Nat.le_of_ble_eq_true (by rfl)) (by kernel_rfl) (by rfl) ?_; intro w43 h43)
        have h44 : Sat w0 w43 (stPt ps (Rep.lastOfL (L.segs.take (i + 1))) pi (.slice (some ⟨bA, 0, none⟩) nA cA) (.slice ta (L.segs.length - n) tc) :: osl 115 3 (.slice (some ⟨bA, 0, none⟩) nA cA) ((Rep.usesOf (lbt L M) (L.segs.take (i + 1))).flatMap uenc) :: TabML pi (fun _ => none) 0 :: pt b9 (.cells #[ptr pg] 197 (0,0)) ::
          TabMA pg (Rep.ledger (Rep.rowsOf (lbt L M) (L.segs.take (i + 1)))) (Rep.rowsOf (lbt L M) (L.segs.take (i + 1))).length :: pt b3 (.cells (fltA Rep.Flt.zero) 75 (0,0)) :: osl 3 1 sv (ints L.segs) :: LogRep p m L :: MedRep m M :: F) := by
          rw [Htk.out, Rep.lastOfL_snoc, Rep.usesOf_snoc, Rep.rowsOf_snoc, List.length_append, List.length_map, show (Frm.scan (lbt L M s).1).1 = fs.map (·.1) from Hfs.out.symm, List.length_map, List.map_map, List.flatMap_append]
          exact h43.sb
        clear h40 h41 h42 h43 hS
        go_roundg (n - (i + 1))
        case measure => have := Hlt.out; omega
        case rel => exact ⟨i + 1, .slice (some ⟨bA, 0, none⟩) nA cA, rfl, Hlt.out, by first | rfl | go_num, by rw [Htk.out]; exact Rep.bad_none Hbad.out H0.out H1.out, h44⟩
      have d1 : (j : Int) < (fs.length : Int) := by omega
      have hwj : IntKind.i64.wrap ((j : Int) + 1) = (j : Int) + 1 := IntWalk.i64_in _ (by omega)
      obtain ⟨⟨f, dv⟩, hq⟩ : ∃ q, fs[j]? = some q := ⟨_, List.getElem?_eq_getElem hjl⟩
      have hkf : f.e.key.length = 32 := Hfk.out _ (List.mem_of_getElem? hq)
      obtain ⟨da, dn, dc, rfl, _, _⟩ := dataF_ro hq wr (hS.pk (A := dataF fs))
      obtain ⟨bk2, off2, c2, e2, hcell⟩ := osl_row (f := fun q : Frm.Fnd × Value => fndL q.1 q.2) (k := 36) (fun q hq => fndL_len q.1 q.2 (Hfk.out q hq)) (Sat.rd (hS.pk (A := osl 203 36 (.slice fa fs.length fc) (fndsL fs)))) hq (by decide)
      cases e2
      have hl36 : (fndL f (.slice da dn dc)).length = 36 := fndL_len _ _ hkf
      have Htj := Lib.hid (show (fs.take (j + 1)).map (fun q => (s, q.1)) = (fs.take j).map (fun q => (s, q.1)) ++ [(s, f)] by rw [List.take_add_one, hq, Option.toList_some, List.map_append]; rfl)
      have Hjl := Lib.hid hjl; have Hkf := Lib.hid hkf
      clear hq hkf hj
      go_wp2_with (first
        | ((with_reducible apply at_load); refine ⟨?_⟩; refine wl_loadW (b := bk2) (o := off2 + j * 36) (fndL f (.slice da dn dc)) (by rfl) hcell Tryz.underlying203 rfl (by rw [hl36]; kernel_rfl) ?_)
        | (with_reducible apply at_alloc))
      refine ⟨?_⟩
      refine wl_alloc zFnd hS rfl ?_
      intro b17 w30 h30
      go_wp2_with (first
        | ((with_reducible apply at_store); refine ⟨?_⟩; refine wl_storeA (fndA f (.slice da dn dc)) h30 (by rfl) (by rfl) (by rw [fndA_size _ _ Hkf.out]; rfl) upd0 (by rw [fndA_size _ _ Hkf.out]; kernel_rfl) (fndA_ones _ _ _ _) ?_; intro w31 h31)
        | ((with_reducible apply at_load); refine ⟨?_⟩; refine wl_loadA (cs := fndA f (.slice da dn dc)) h31 (by rfl) pick0 Tryz.underlying203 rfl (by rw [fndA_size _ _ Hkf.out]; kernel_rfl) ?_)
        | ((with_reducible apply at_load); refine ⟨?_⟩; refine wl_loadA (cs := #[ptr pg]) h31 (by rfl) (pick_there (pick_there (pick_there (pick_there (pick_there pick0))))) Tryz.underlying197 rfl (by kernel_rfl) ?_))
      have hrl := Rep.rowsOf_le (lbt L M) L.segs i
      refine (take_c (p := pg) s f Hkf.out (by have := Hrows.out; have := Hfl.out; have := Hjl.out; have := Hcnt.out; omega) (h31.pick pick1)).mono ?_
      rintro ee w32 ⟨v, rfl, h32⟩
      clear h30 h31 hS hcell
      have hnn : ∀ x ∈ Rep.rowsOf (lbt L M) (L.segs.take i) ++ (fs.take j).map (fun q => (s, q.1)), 0 ≤ x.1 := fun x hx => by
        rcases List.mem_append.1 hx with hx | hx
        · unfold Rep.rowsOf at hx
          obtain ⟨u, hu, hx⟩ := List.mem_flatMap.1 hx
          obtain ⟨g, _, rfl⟩ := List.mem_map.1 hx
          exact Hnn.out u (List.mem_of_mem_take hu)
        · obtain ⟨g, _, rfl⟩ := List.mem_map.1 hx
          exact Hs0.out
      rw [← Rep.ledger_snoc _ _ hnn, List.append_assoc, ← Htj.out] at h32
      clear hnn
      go_wp2_with fail
      go_roundg (fs.length - (j + 1))
      case measure => have := Hjl.out; omega
      case rel => exact ⟨j + 1, rfl, Hjl.out, by first | rfl | go_num, h32.sb⟩
end
section
variable {w0 w : World} {F : List HProp} {p B : Nat} {m : Frm.Bs → Option (Seg.Plc)}
set_option maxRecDepth 20000 in
set_option maxHeartbeats 8000000 in
theorem keysL_c (hB : B ≤ 13000000) (h : Sat w0 w (TabML p m B :: F)) :
    Calls Tryz.prog 120 #[ptr p] w (Rtn fun v w' => ∃ kv : List (Frm.Bs × Seg.Plc), (Tab.Lists m kv ∧ (∀ q ∈ kv, q.1.length = 32) ∧ kv.length ≤ B) ∧ Sat w0 w' (osl 41 32 v (kv.flatMap fun q => bys q.1) :: TabML p m B :: F)) := by
  have hr := risingL_c hB h
  clear h
  go_enter Tryz.func120, Tryz.ntmps120
  go_wp2_with fail
  refine hr.mono ?_
  rintro ee w1 ⟨sv, rfl, s, ⟨hs1, hs2, hs3⟩, hS1⟩
  clear hr
  have Hs1 := Lib.hid hs1; have Hs2 := Lib.hid hs2; have Hs3 := Lib.hid hs3
  have Hkk := Lib.hid (show ∀ q ∈ s.map fun x => (x.key, x.val), q.1.length = 32 from fun q hq => by
    obtain ⟨x, hx, rfl⟩ := List.mem_map.1 hq
    exact (hs2 x hx).2)
  have Hlen := Lib.hid (show ∀ x ∈ s, (slotL penc x).length = 36 from fun x hx => slotL_len penc x (hs2 x hx).2 3 (penc_len _))
  obtain ⟨la, lc, rfl⟩ := osl_rows Hlen.out (Sat.rd hS1) (by decide)
  have hsb : s.length ≤ 13000000 := Nat.le_trans hs3 hB
  have hS2 : Sat w0 w1 (osl 41 32 (.slice none 0 0) (((s.take 0).map fun x => (x.key, x.val)).flatMap fun q => bys q.1) :: osl 220 36 (.slice la s.length lc) (s.flatMap (slotL penc)) :: TabML p m B :: F) := Sat.osl_nil.2 hS1
  clear hs1 hs2 hs3 hB hS1
  go_wp2_with fail
  go_loopg [3, 9] s.length (fun g oq iq wr => ∃ (i : Nat), g = s.length - i ∧ i ≤ s.length ∧ iq = .int .i64 i ∧
    Sat w0 wr (osl 41 32 oq (((s.take i).map fun x => (x.key, x.val)).flatMap fun q => bys q.1) :: osl 220 36 (.slice la s.length lc) (s.flatMap (slotL penc)) :: TabML p m B :: F))
  case atStart => exact ⟨0, rfl, Nat.zero_le _, rfl, hS2⟩
  case round =>
    obtain ⟨i, rfl, hi, rfl, hS⟩ := hrel
    clear hS2
    by_cases hlt : i < s.length
    rotate_left
    · obtain rfl : i = s.length := by omega
      have c1 : ¬ (s.length : Int) < (s.length : Int) := by omega
      rw [List.take_length] at hS
      clear hlt hi
      go_wp2_with fail
      go_ret
      refine ⟨_, rfl, s.map fun x => (x.key, x.val), ⟨Hs1.out, by intros; exact Hkk.out (_, _) (by assumption), by rw [List.length_map]; exact Hs3.out⟩, hS.sb⟩
    have c1 : (i : Int) < (s.length : Int) := by omega
    have hwi : IntKind.i64.wrap ((i : Int) + 1) = (i : Int) + 1 := IntWalk.i64_in _ (by omega)
    obtain ⟨x, hx⟩ : ∃ x, s[i]? = some x := ⟨_, List.getElem?_eq_getElem hlt⟩
    have hxm := List.mem_of_getElem? hx
    have Hxk := Lib.hid (Hs2.out x hxm).2
    obtain ⟨bk, off, c', hsv, hcell⟩ := osl_row Hlen.out (Sat.rd (hS.pick pick1)) hx (by decide)
    cases hsv
    have hl36 := Hlen.out x hxm
    have Htk := Lib.hid (show ((s.take (i + 1)).map fun x => (x.key, x.val)).flatMap (fun q => bys q.1) = ((s.take i).map fun x => (x.key, x.val)).flatMap (fun q => bys q.1) ++ bys x.key by
      rw [List.take_add_one, hx, Option.toList_some, List.map_append, List.flatMap_append]; simp)
    have Hlt := Lib.hid hlt
    have hle5 : (((s.take i).map fun x => (x.key, x.val)).flatMap fun q => bys q.1).length ≤ 2147483648 := by
      rw [rows_len (k := 32) fun q hq => by
        obtain ⟨y, hy, rfl⟩ := List.mem_map.1 hq
        rw [bys_len]; exact (Hs2.out y (List.mem_of_mem_take hy)).2]
      rw [List.length_map]
      have := List.length_take_le' i s
      omega
    clear hx hxm hlt hi
    go_wp2_with (first
      | ((with_reducible apply at_load); refine ⟨?_⟩; refine wl_loadW (b := bk) (o := off + i * 36) (slotL penc x) (by rfl) hcell Tryz.underlying220 rfl (by rw [hl36]; kernel_rfl) ?_)
      | (with_reducible apply at_alloc))
    refine ⟨?_⟩
    refine wl_alloc zSlotL hS rfl ?_
    intro b7 w7 hS7
    go_wp2_with (first
      | ((with_reducible apply at_store); refine ⟨?_⟩; refine wl_storeA (slotL penc x).toArray hS7 (by rfl) (by rfl) (by rw [List.size_toArray, hl36]; rfl) upd0 (by rw [List.size_toArray, hl36]; kernel_rfl) (by rw [List.toList_toArray]; exact slotL_ones penc x (penc_ones _)) ?_; intro w10 hS10)
      | (with_reducible apply at_load))
    refine ⟨?_⟩
    clear hS hS7 hcell
    have f1 : w10.rangeAt b7 1 (bys x.key) := slot_key (hS10.pick pick0)
    go_wp2_with (first
      | ((with_reducible apply at_load); refine ⟨?_⟩; refine wl_loadW (b := b7) (o := 1) (bys x.key) (by rfl) f1 Tryz.underlying41 rfl (by rw [bys_len, Hxk.out]; kernel_rfl) ?_)
      | (with_reducible apply at_build1))
    refine ⟨?_⟩
    refine wl_build1 (e := 41) (sz := 32) (by' := 32) (by kernel_rfl) hS10 (by rfl) (cs := (bys x.key).toArray) rfl (by rw [List.size_toArray, bys_len, Hxk.out]) (by decide) ?_
    intro bN wN hN
    go_wp2_with (with_reducible apply at_append)
    refine ⟨?_⟩
    refine wl_app 41 32 32 (by kernel_rfl) hN (by rfl) (by rfl) (pick_there (pick_there pick0)) pick0 (by rw [List.size_toArray, bys_len, Hxk.out]) (Nat.le_refl 1) (by rw [List.toList_toArray]; exact bys_ones _) hle5 (by rw [List.size_toArray, bys_len, Hxk.out]; decide) (by decide) (by rw [List.toList_toArray]) ?_
    intro bA nA cA wA hA
    go_wp2_with fail
    rw [← Htk.out] at hA
    go_roundg (s.length - (i + 1))
    case measure => have := Hlt.out; omega
    case rel => exact ⟨i + 1, rfl, Hlt.out, by first | rfl | go_num, hA.sb⟩
end
def kvL (q : Frm.Bs × Seg.Plc) : List Value := bys q.1 ++ penc q.2
theorem kvL_len (q : Frm.Bs × Seg.Plc) (hk : q.1.length = 32) : (kvL q).length = 35 := by unfold kvL; rw [List.length_append, bys_len, hk]; rfl
theorem kvL_ones (q : Frm.Bs × Seg.Plc) : (kvL q).all (·.oneCell') = true := by unfold kvL; rw [List.all_append, bys_ones]; rfl
theorem zPlc39 : zeroB Tryz.prog 39 = some (.agg (penc Seg.Plc.zero).toArray) := by kernel_rfl
theorem plKv : placesB Tryz.prog 117 = some [(0, 32), (32, 3)] := by kernel_rfl
theorem zKv : zeroB Tryz.prog 117 = some (.agg (kvL (Frm.zero32, Seg.Plc.zero)).toArray) := by kernel_rfl
theorem run_kv (k : Frm.Bs) (hk : k.length = 32) (v : Seg.Plc) (w : World) : (Instr.build 117 #[(0, .agg (bys k).toArray), (1, .agg (penc v).toArray)]).run Tryz.prog w = .ok (.agg (kvL (k, v)).toArray) w := by
  have h := run_build (P := Tryz.prog) [(0, .agg (bys k).toArray), (1, .agg (penc v).toArray)] plKv zKv (by
    intro p hp
    have hzz : (Value.agg (kvL (Frm.zero32, Seg.Plc.zero)).toArray).cells.size = 35 := by rfl
    rw [hzz]
    rcases List.mem_cons.1 hp with rfl | hp
    · refine ⟨0, ?_, ?_⟩
      · show some (0, 32) = some (0, (bys k).toArray.size); rw [List.size_toArray, bys_len, hk]
      · show 0 + (bys k).toArray.size ≤ 35
        rw [List.size_toArray, bys_len, hk]; decide
    · rw [List.mem_singleton.1 hp]
      exact ⟨32, rfl, by show 32 + 3 ≤ 35; omega⟩) w
  refine h.trans ?_
  have hz : Frm.zero32.length = 32 := rfl
  have hzl : (kvL (Frm.zero32, Seg.Plc.zero)).length = 35 := kvL_len _ hz
  have e : putsAt (putsAt (kvL (Frm.zero32, Seg.Plc.zero)).toArray 0 (bys k)) 32 (penc v) = (kvL (k, v)).toArray := by
    apply putsAt_eq
    rw [puts_putL _ _ _ (by rw [putsAt_size, List.size_toArray, hzl]; exact Nat.le_refl 35), puts_putL _ _ _ (by rw [List.size_toArray, hzl, bys_len, hk]; decide), List.toList_toArray]
    have e1 : putL (kvL (Frm.zero32, Seg.Plc.zero)) 0 (bys k) = bys k ++ penc Seg.Plc.zero := by
      unfold kvL
      rw [putL_app2 _ _ _ _ (by rw [bys_len, bys_len, hk, hz]; decide), putL_all (by rw [bys_len, bys_len, hk, hz])]
    have h0 := putL_app (bys k) (penc Seg.Plc.zero) (penc v) 0
    rw [bys_len, hk, putL_all (xs := penc Seg.Plc.zero) (vs := penc v) (by rfl)] at h0
    rw [e1]
    exact h0
  exact congrArg (fun x => Result.ok (Value.agg x) w) e
section
variable {P : Program} {d : Nat} {xs : Array Value}
theorem eqF_self : ∀ (fs : List Field), (∀ f ∈ fs, ∃ a, (∀ w, (part f.type xs f.offset).run P w = .ok a w) ∧ ∀ w, (Op.equalIn d f.type a a).run P w = .ok true w) → ∀ w, (Op.eqFields d xs xs fs).run P w = .ok true w
  | [], _, w => by simp [Op.eqFields]
  | f :: fs, h, w => by
    obtain ⟨a, h1, h2⟩ := h f (.head _)
    have ih := eqF_self fs (fun g hg => h g (.tail _ hg)) w
    unfold Op.eqFields
    split
    · simp only [Sem.run_bind, h1, h2, Result.andThen_ok, Bool.not_true, Bool.false_eq_true, if_false, ih]
    · exact ih
theorem eqS_self (T : TypeId) (l : List (TypeId × Nat)) (ht : P.underlying T = some (.struct (P.fieldsOf T))) (hp : P.stoodInHeld T = false) (hl : ((P.fieldsOf T).toList.map fun f => (f.type, f.offset)) = l)
    (h : ∀ q ∈ l, ∃ a, (∀ w, (part q.1 xs q.2).run P w = .ok a w) ∧ ∀ w, (Op.equalIn d q.1 a a).run P w = .ok true w) (w : World) : (Op.equalIn (d + 1) T (.agg xs) (.agg xs)).run P w = .ok true w := by
  rw [run_equalIn_struct w d T xs xs ht hp]
  refine eqF_self _ (fun f hf => ?_) w
  exact h (f.type, f.offset) (by rw [← hl]; exact List.mem_map.2 ⟨f, hf, rfl⟩)
theorem part_int {e : TypeId} {k : IntKind} (he : P.underlying e = some (.int k)) (i : Nat) (z : Int) (hv : xs[i]? = some (.int k z)) : ∃ a, (∀ w, (part e xs i).run P w = .ok a w) ∧ ∀ w, (Op.equalIn (d + 1) e a a).run P w = .ok true w :=
  ⟨_, fun w => run_part_int he xs i _ hv w, fun w => by rw [run_equalIn_int w d e k k z z he]; simp⟩
theorem part_row {e : TypeId} {i : TypeInfo} {dd : TypeDesc} (he : P.underlying e = some dd) (hd : (match dd with | .struct _ | .array _ _ => true | _ => false) = true) (hi : P.info? e = some i) (off : Nat) (w : World) : (part e xs off).run P w = .ok (.agg (xs.extract off (off + i.size))) w := by
  have hc : P.cellsOf e = i.size := by unfold Program.cellsOf; simp [hi]
  unfold part isAgg
  cases dd <;> simp_all [Sem.run_bind, run_underlying he, run_sizeOf w hi]
end
set_option maxRecDepth 20000 in
theorem eqIn_keyD (d : Nat) (k : Frm.Bs) (hk : k.length = 32) (w : World) : (Op.equalIn (d + 2) 41 (.agg (bys k).toArray) (.agg (bys k).toArray)).run Tryz.prog w = .ok true w := by
  obtain ⟨i, hi, _⟩ := info8p
  have h := run_equalIn_array (P := Tryz.prog) w (d + 1) (bys k).toArray (bys k).toArray (t := 41) Tryz.underlying41 hi
  rw [bys_ints, show Tryz.prog.cellsOf 5 = 1 from by kernel_rfl, run_eqItems_int d (P := Tryz.prog) Tryz.underlying5 _ _ (List.range 32) (fun i hi => by have := List.mem_range.1 hi; simp; omega)] at h
  rw [bys_ints, h]
  simp
theorem info_id : ∃ i : TypeInfo, Tryz.prog.info? 41 = some i ∧ i.size = 32 := by
  have h : (Tryz.prog.info? 41).map (·.size) = some 32 := by kernel_rfl
  cases hq : Tryz.prog.info? 41 with
  | none => rw [hq] at h; cases h
  | some i => rw [hq] at h; exact ⟨i, rfl, by simpa using h⟩
theorem info_plc : ∃ i : TypeInfo, Tryz.prog.info? 39 = some i ∧ i.size = 3 := by
  have h : (Tryz.prog.info? 39).map (·.size) = some 3 := by kernel_rfl
  cases hq : Tryz.prog.info? 39 with
  | none => rw [hq] at h; cases h
  | some i => rw [hq] at h; exact ⟨i, rfl, by simpa using h⟩
theorem part_key {xs : Array Value} {d : Nat} (off : Nat) (k : Frm.Bs) (hk : k.length = 32) (hx : xs.extract off (off + 32) = (bys k).toArray) : ∃ a, (∀ w, (part 41 xs off).run Tryz.prog w = .ok a w) ∧ ∀ w, (Op.equalIn (d + 2) 41 a a).run Tryz.prog w = .ok true w := by
  obtain ⟨i, hi, hs⟩ := info_id
  exact ⟨.agg (bys k).toArray, fun w => by rw [part_row Tryz.underlying41 rfl hi off w, hs, hx], fun w => eqIn_keyD d k hk w⟩
theorem eqIn_use (a b c : Int) (w : World) : (Op.equalIn 10000 115 (.agg #[.int .i64 a, .int .i64 b, .int .i64 c]) (.agg #[.int .i64 a, .int .i64 b, .int .i64 c])).run Tryz.prog w = .ok true w := by
  refine eqS_self (d := 9999) 115 [(3, 0), (3, 1), (3, 2)] (by kernel_rfl) (by kernel_rfl) (by kernel_rfl) (fun q hq => ?_) w
  simp only [List.mem_cons, List.not_mem_nil, or_false] at hq
  rcases hq with rfl | rfl | rfl
  · exact part_int Tryz.underlying3 0 a rfl
  · exact part_int Tryz.underlying3 1 b rfl
  · exact part_int Tryz.underlying3 2 c rfl
theorem eqIn_plc (d : Nat) (q : Seg.Plc) (w : World) : (Op.equalIn (d + 2) 39 (.agg (penc q).toArray) (.agg (penc q).toArray)).run Tryz.prog w = .ok true w := by
  refine eqS_self (d := d + 1) 39 [(3, 0), (3, 1), (3, 2)] (by kernel_rfl) (by kernel_rfl) (by kernel_rfl) (fun q hq => ?_) w
  simp only [List.mem_cons, List.not_mem_nil, or_false] at hq
  rcases hq with rfl | rfl | rfl
  · exact part_int Tryz.underlying3 0 _ rfl
  · exact part_int Tryz.underlying3 1 _ rfl
  · exact part_int Tryz.underlying3 2 _ rfl
theorem kv_key (q : Frm.Bs × Seg.Plc) (hk : q.1.length = 32) : (kvL q).toArray.extract 0 (0 + 32) = (bys q.1).toArray := by
  apply Array.toList_inj.1
  rw [Array.toList_extract, List.toList_toArray, List.toList_toArray]
  unfold kvL
  simp only [List.extract, List.drop_zero, Nat.zero_add, Nat.sub_zero]
  rw [List.take_append_of_le_length (by rw [bys_len]; omega), List.take_of_length_le (by rw [bys_len]; omega)]
theorem kv_plc (q : Frm.Bs × Seg.Plc) (hk : q.1.length = 32) : (kvL q).toArray.extract 32 (32 + 3) = (penc q.2).toArray := by
  apply Array.toList_inj.1
  rw [Array.toList_extract, List.toList_toArray, List.toList_toArray]
  unfold kvL
  simp only [List.extract]
  rw [List.drop_append, List.drop_of_length_le (by rw [bys_len]; omega), bys_len, hk, List.nil_append]
  rfl
theorem eqIn_kv (q : Frm.Bs × Seg.Plc) (hk : q.1.length = 32) (w : World) : (Op.equalIn 10000 117 (.agg (kvL q).toArray) (.agg (kvL q).toArray)).run Tryz.prog w = .ok true w := by
  refine eqS_self (d := 9999) 117 [(41, 0), (39, 32)] (by kernel_rfl) (by kernel_rfl) (by kernel_rfl) (fun x hx => ?_) w
  simp only [List.mem_cons, List.not_mem_nil, or_false] at hx
  rcases hx with rfl | rfl
  · exact part_key 0 q.1 hk (kv_key q hk)
  · obtain ⟨i, hi, hs⟩ := info_plc
    exact ⟨.agg (penc q.2).toArray, fun w => by rw [part_row Tryz.underlying39 rfl hi 32 w, hs, kv_plc q hk], fun w => eqIn_plc 9997 q.2 w⟩
section
variable {P : Program} {T : TypeId} {cs : Array Value}
theorem neq_self (h : ∀ w, (Op.equalIn 10000 T (.agg cs) (.agg cs)).run P w = .ok true w) (w : World) : (binOp .neq T (.agg cs) (.agg cs)).run P w = .ok (.bool false) w := by
  rw [run_neq_struct, h]; rfl
end
end Go.Proofs.YtmjldaedhmipkaaGreatDoor
namespace Go.Frm
end Go.Frm
namespace Go.Proofs.YtmjldaedhmipkaaGreatDoor
open Go Go.Sl Go.Med Go.MapKept Go.RowKit
section
variable {w0 w : World} {F : List HProp} {av bv v : Value}
set_option maxRecDepth 20000 in
set_option maxHeartbeats 4000000 in
theorem sameIndex_c (l : List (Bs × Seg.Plc)) (hk : ∀ q ∈ l, q.1.length = 32) (ha : Ro w0 F (rdsl 35 av (l.flatMap kvL))) (hb : Ro w0 F (rdsl 35 bv (l.flatMap kvL))) (h : Sat w0 w F) (hlen : l.length ≤ 1073741824) :
    Calls Tryz.prog 55 #[av, bv] w (Rtn fun v w' => v = .bool true ∧ Sat w0 w' F) := by
  have Hkl := Lib.hid (show ∀ q ∈ l, (kvL q).length = 35 from fun q hq => kvL_len q (hk q hq))
  obtain ⟨aa, ac, rfl⟩ := osl_rows Hkl.out (ha w h) (by decide)
  obtain ⟨ba, bc, rfl⟩ := osl_rows Hkl.out (hb w h) (by decide)
  have Ha := Lib.hid ha; have Hb := Lib.hid hb; have Hk := Lib.hid hk; have Hlen := Lib.hid hlen
  clear ha hb hk hlen
  go_enter Tryz.func55, Tryz.ntmps55
  go_wp2_with fail
  go_loopg [5] l.length (fun g iq wr => ∃ i : Nat, g = l.length - i ∧ i ≤ l.length ∧ iq = .int .i64 i ∧ Sat w0 wr F)
  case atStart => exact ⟨0, rfl, Nat.zero_le _, rfl, h⟩
  case round =>
    obtain ⟨i, rfl, hiN, rfl, hS⟩ := hrel
    clear h
    by_cases hi : i < l.length
    · have hic : (i : Int) < (l.length : Int) := by omega
      have hwi : IntKind.i64.wrap ((i : Int) + 1) = (i : Int) + 1 := IntWalk.i64_in _ (by have := Hlen.out; omega)
      obtain ⟨q, hq⟩ : ∃ q, l[i]? = some q := ⟨_, List.getElem?_eq_getElem hi⟩
      have hS1 := hS.drew
      obtain ⟨bk, off, c', e1, d1⟩ := osl_row Hkl.out (Ha.out _ hS1) hq (by decide)
      obtain ⟨bk2, off2, c2', e2, d2⟩ := osl_row Hkl.out (Hb.out _ hS1) hq (by decide)
      cases e1; cases e2
      have Hqk := Lib.hid (Hk.out q (List.mem_of_getElem? hq))
      have Hql := Lib.hid (Hkl.out q (List.mem_of_getElem? hq))
      have Hi := Lib.hid hi
      clear hq hi hiN
      go_wp2_with fail
      refine wpL_begin [8] (fun w' => w'.rangeAt bk (off + i * 35) (kvL q) ∧ w'.rangeAt bk2 (off2 + i * 35) (kvL q)) (by kernel_rfl) ?_
      have hG : World.rangeAt _ bk (off + i * 35) (kvL q) ∧ World.rangeAt _ bk2 (off2 + i * 35) (kvL q) := And.intro d1 d2
      refine rp 0 (hy := (yl_move evD)) (h := ?_)
      refine rp 1 (hy := (yl_move evD)) (h := ?_)
      refine rp 2 (hy := (yl_index evD evD rnD)) (h := ?_)
      refine rg_take 3 evD (by kernel_rfl) (by intro _ _ _ h; exact h) (tk_loadN (b := bk) (o := off + i * 35) (kvL q) (by rfl) Tryz.underlying117 rfl (by rw [Hql.out]; kernel_rfl) (fun w hw => hw.1)) (by assumption) (by go_frame; first | done | rfl) ?_
      refine rp 4 (hy := (yl_move evD)) (h := ?_)
      refine rp 5 (hy := (yl_move evD)) (h := ?_)
      refine rp 6 (hy := (yl_index evD evD rnD)) (h := ?_)
      refine rg_take 7 evD (by kernel_rfl) (by intro _ _ _ h; exact h) (tk_loadN (b := bk2) (o := off2 + i * 35) (kvL q) (by rfl) Tryz.underlying117 rfl (by rw [Hql.out]; kernel_rfl) (fun w hw => hw.2)) (by assumption) (by go_frame; first | done | rfl) ?_
      clear hG d1 d2
      refine rg_pure 8 evD (by kernel_rfl) (by intro _ _ _ h; exact h) (yl_bin evD evD (fun w => by
        have := neq_self (eqIn_kv q Hqk.out) w
        simp [eqGuard, Sem.run_bind, this]; rfl)) (by go_frame; first | done | rfl) ?_
      refine wpL_done (by kernel_rfl) ?_
      try simp only [List.getElem_toArray, List.getElem_cons_succ, List.getElem_cons_zero]
      try go_frame
      go_wp2_with fail
      go_roundg (l.length - (i + 1))
      case measure => have := Hi.out; omega
      case rel => exact ⟨i + 1, rfl, Nat.succ_le_of_lt Hi.out, by first | rfl | go_num, hS1⟩
    · obtain rfl : i = l.length := by omega
      have hic : ¬ (l.length : Int) < (l.length : Int) := by omega
      clear hi hiN
      go_wp2_with fail
      go_ret
      exact ⟨.bool true, rfl, rfl, hS⟩
set_option maxRecDepth 20000 in
set_option maxHeartbeats 4000000 in
theorem sameUses_c (l : List Rep.Use) (ha : Ro w0 F (rdsl 3 av (l.flatMap uenc))) (hb : Ro w0 F (rdsl 3 bv (l.flatMap uenc))) (h : Sat w0 w F) (hlen : l.length ≤ 1073741824) :
    Calls Tryz.prog 57 #[av, bv] w (Rtn fun v w' => v = .bool true ∧ Sat w0 w' F) := by
  have Hkl := Lib.hid (show ∀ q ∈ l, (uenc q).length = 3 from fun q hq => uenc_len q)
  obtain ⟨aa, ac, rfl⟩ := osl_rows Hkl.out (ha w h) (by decide)
  obtain ⟨ba, bc, rfl⟩ := osl_rows Hkl.out (hb w h) (by decide)
  have Ha := Lib.hid ha; have Hb := Lib.hid hb; have Hlen := Lib.hid hlen
  clear ha hb hlen
  go_enter Tryz.func57, Tryz.ntmps57
  go_wp2_with fail
  go_loopg [5] l.length (fun g iq wr => ∃ i : Nat, g = l.length - i ∧ i ≤ l.length ∧ iq = .int .i64 i ∧ Sat w0 wr F)
  case atStart => exact ⟨0, rfl, Nat.zero_le _, rfl, h⟩
  case round =>
    obtain ⟨i, rfl, hiN, rfl, hS⟩ := hrel
    clear h
    by_cases hi : i < l.length
    · have hic : (i : Int) < (l.length : Int) := by omega
      have hwi : IntKind.i64.wrap ((i : Int) + 1) = (i : Int) + 1 := IntWalk.i64_in _ (by have := Hlen.out; omega)
      obtain ⟨q, hq⟩ : ∃ q, l[i]? = some q := ⟨_, List.getElem?_eq_getElem hi⟩
      have hS1 := hS.drew
      obtain ⟨bk, off, c', e1, d1⟩ := osl_row Hkl.out (Ha.out _ hS1) hq (by decide)
      obtain ⟨bk2, off2, c2', e2, d2⟩ := osl_row Hkl.out (Hb.out _ hS1) hq (by decide)
      cases e1; cases e2
      have Hi := Lib.hid hi
      clear hq hi hiN
      go_wp2_with fail
      refine wpL_begin [8] (fun w' => w'.rangeAt bk (off + i * 3) (uenc q) ∧ w'.rangeAt bk2 (off2 + i * 3) (uenc q)) (by kernel_rfl) ?_
      have hG : World.rangeAt _ bk (off + i * 3) (uenc q) ∧ World.rangeAt _ bk2 (off2 + i * 3) (uenc q) := And.intro d1 d2
      refine rp 0 (hy := (yl_move evD)) (h := ?_)
      refine rp 1 (hy := (yl_move evD)) (h := ?_)
      refine rp 2 (hy := (yl_index evD evD rnD)) (h := ?_)
      refine rg_take 3 evD (by kernel_rfl) (by intro _ _ _ h; exact h) (tk_loadN (b := bk) (o := off + i * 3) (uenc q) (by rfl) Tryz.underlying115 rfl (by kernel_rfl) (fun w hw => hw.1)) (by assumption) (by go_frame; first | done | rfl) ?_
      refine rp 4 (hy := (yl_move evD)) (h := ?_)
      refine rp 5 (hy := (yl_move evD)) (h := ?_)
      refine rp 6 (hy := (yl_index evD evD rnD)) (h := ?_)
      refine rg_take 7 evD (by kernel_rfl) (by intro _ _ _ h; exact h) (tk_loadN (b := bk2) (o := off2 + i * 3) (uenc q) (by rfl) Tryz.underlying115 rfl (by kernel_rfl) (fun w hw => hw.2)) (by assumption) (by go_frame; first | done | rfl) ?_
      clear hG d1 d2
      refine rg_pure 8 evD (by kernel_rfl) (by intro _ _ _ h; exact h) (yl_bin evD evD (fun w => by
        have := neq_self (eqIn_use q.seg q.size q.live) w
        unfold uenc
        simp [eqGuard, Sem.run_bind, this]; rfl)) (by go_frame; first | done | rfl) ?_
      refine wpL_done (by kernel_rfl) ?_
      try simp only [List.getElem_toArray, List.getElem_cons_succ, List.getElem_cons_zero]
      try go_frame
      go_wp2_with fail
      go_roundg (l.length - (i + 1))
      case measure => have := Hi.out; omega
      case rel => exact ⟨i + 1, rfl, Nat.succ_le_of_lt Hi.out, by first | rfl | go_num, hS1⟩
    · obtain rfl : i = l.length := by omega
      have hic : ¬ (l.length : Int) < (l.length : Int) := by omega
      clear hi hiN
      go_wp2_with fail
      go_ret
      exact ⟨.bool true, rfl, rfl, hS⟩
end
end Go.Proofs.YtmjldaedhmipkaaGreatDoor
namespace Go.Rep
open Go.Frm (Bs Fnd)
open Go.Seg (Plc)
open Go.Tab
def hit (k : Bs) (r : Row) : Bool := decide (rtag r < 2) && decide (rkey r = k)
def newIdx (l : List Row) (k : Bs) : Nat → Int
  | 0 => -1
  | i + 1 => match l[i]? with
    | none => newIdx l k i
    | some r => if hit k r = true then (i : Int) else newIdx l k i
section
variable {l : List Row} {k : Bs} {i : Nat} {r : Row}
def elder (r x : Row) : Bool := decide (rtag x = 0) && decide (rkey x = rkey r) && decide (x.1 < r.1)
end
section
variable {V : Type}
def insB (l : List (Bs × V)) (x : Bs × V) : Nat → List (Bs × V) × Bool
  | 0 => ([], false)
  | i + 1 => match l[i]? with
    | none => insB l x i
    | some y => if (insB l x i).2 = false ∧ x.1 < y.1 then ((insB l x i).1 ++ [x] ++ [y], true) else ((insB l x i).1 ++ [y], (insB l x i).2)
variable {l : List (Bs × V)} {x y : Bs × V} {i : Nat}
end
section
variable {l : List Row} {us : List Use} {i k : Nat} {r : Row} {u : Use}
def uMix (l : List Row) (us : List Use) (i k : Nat) : List Use := (uAt l us (i + 1)).take k ++ (uAt l us i).drop k
end
end Go.Rep
namespace Go.Proofs.YtmjldaedhmipkaaGreatDoor
open Go Go.Sl Go.Med Go.MapKept Go.RowKit
def rwL (q : Rep.Row × Value) : List Value := .int .i64 q.1.1 :: fndL q.1.2 q.2
def zeroR : Rep.Row × Value := ((0, zeroF), .slice none 0 0)
section
variable {w0 w : World} {F : List HProp} {rv : Value}
end
section
variable {w0 w : World} {F : List HProp} {rv : Value}
end
section
variable {w0 w : World} {F : List HProp} {lv : Value}
end
end Go.Proofs.YtmjldaedhmipkaaGreatDoor
namespace Go.Seg
open Go.Med
def Log.rbegin1 (L : Log) (D : Med) (b : Bs) : (Log × Med) × Plc × Int :=
  if 1048576 ≤ L.next then ((L, D), Plc.zero, 16)
  else if (D.create (name L.next)).2 ≠ 0 then ((L, (D.create (name L.next)).1), Plc.zero, (D.create (name L.next)).2)
  else if ((D.create (name L.next)).1.append (name L.next) (mag ++ b)).2 = 0 then
    (({ L with l := L.l ++ [(L.next, 8 + (b.length : Int))], on := true, fresh := L.fresh + 1 }, ((D.create (name L.next)).1.append (name L.next) (mag ++ b)).1), ⟨L.next, 8, b.length⟩, 0)
  else if ((D.create (name L.next)).1.append (name L.next) (mag ++ b)).2 = 11 then
    ((L, (((D.create (name L.next)).1.append (name L.next) (mag ++ b)).1.rmove (name L.next) ByteArray.empty true).1), Plc.zero,
      if (((D.create (name L.next)).1.append (name L.next) (mag ++ b)).1.rmove (name L.next) ByteArray.empty true).2 = 12 then 12 else 11)
  else ((L, ((D.create (name L.next)).1.append (name L.next) (mag ++ b)).1), Plc.zero, ((D.create (name L.next)).1.append (name L.next) (mag ++ b)).2)
def Log.rbegin (L : Log) (D : Med) (b : Bs) : (Log × Med) × Plc × Int :=
  if (L.shut D).2 = 0 then (L.shut D).1.1.rbegin1 (L.shut D).1.2 b else ((L.shut D).1, Plc.zero, (L.shut D).2)
def Log.rappend (L : Log) (D : Med) (x : Frm.Ent) : (Log × Med) × Plc × Int :=
  if (Frm.encode x).2 ≠ 0 then ((L, D), Plc.zero, (Frm.encode x).2)
  else if L.fits (Frm.encode x).1.length = true then L.grow D (Frm.encode x).1 else L.rbegin D (Frm.encode x).1
def Log.rcommit (L : Log) (M : Med) : (Log × Med) × Int × Int :=
  if (L.rappend M comEnt).2.2 ≠ 0 then ((L.rappend M comEnt).1, 0, (L.rappend M comEnt).2.2)
  else if ((L.rappend M comEnt).1.2.sync (name (L.rappend M comEnt).2.1.seg)).2 ≠ 0 then (((L.rappend M comEnt).1.1, ((L.rappend M comEnt).1.2.sync (name (L.rappend M comEnt).2.1.seg)).1), 0, ((L.rappend M comEnt).1.2.sync (name (L.rappend M comEnt).2.1.seg)).2)
  else if (((L.rappend M comEnt).1.2.sync (name (L.rappend M comEnt).2.1.seg)).1.syncDir).2 ≠ 0 then (((L.rappend M comEnt).1.1, (((L.rappend M comEnt).1.2.sync (name (L.rappend M comEnt).2.1.seg)).1.syncDir).1), 0, (((L.rappend M comEnt).1.2.sync (name (L.rappend M comEnt).2.1.seg)).1.syncDir).2)
  else (({ (L.rappend M comEnt).1.1 with on := false, fresh := 0 }, (((L.rappend M comEnt).1.2.sync (name (L.rappend M comEnt).2.1.seg)).1.syncDir).1), (L.rappend M comEnt).2.1.seg, 0)
def Log.rremove (L : Log) (D : Med) (n : Int) : (Log × Med) × Int :=
  match L.at n with
  | none => ((L, D), 9)
  | some i => if (D.rmove (name n) ByteArray.empty true).2 = 0 then ((L.without i, (D.rmove (name n) ByteArray.empty true).1), 0) else ((L, (D.rmove (name n) ByteArray.empty true).1), (D.rmove (name n) ByteArray.empty true).2)
def Agree {α : Type} (r q : (Log × Med) × α) : Prop := r.1.1 = q.1.1 ∧ r.2 = q.2 ∧ ∃ φ V, Side φ V r.1.2 q.1.2
section
variable {φ : Nat → Nat} {V : Nat → Prop} {M D : Med} {K : Nat} {L : Log}
end
end Go.Seg
namespace Go.Seg
open Go.Med
structure Fit (K : Nat) (D : Med) : Prop where
  ok : D.Ok K
  small : D.Small
  files : D.files.length ≤ 500 + K
section
variable {φ : Nat → Nat} {V : Nat → Prop} {M D : Med} {K : Nat} {L : Log}
theorem Fit.new (K r : Nat) (h : r ≤ 16777216) : Fit K (new r) := ⟨Med.Ok.new K r h, (fun f hf => by cases hf), Nat.zero_le _⟩
def Log.rback : Nat → Log → Med → (Log × Med) × Int
  | 0, L, M => (({ L with on := false }, M), 0)
  | k + 1, L, M =>
    match L.l.getLast? with
    | none => (({ L with on := false }, M), 0)
    | some s => if (L.rremove M s.1).2 = 0 then Log.rback k (L.rremove M s.1).1.1 (L.rremove M s.1).1.2 else L.rremove M s.1
def Log.rrollback (L : Log) (M : Med) : (Log × Med) × Int := L.rback L.fresh.toNat M
end
end Go.Seg
namespace Go.Frm
def bst (x : Nat) : Nat := (x / 2) ^^^ (if x % 2 = 1 then 3988292384 else 0)
def bitIn (x c k : Nat) : Nat := if x % 2 ≠ c / 2 ^ k % 2 then (x / 2) ^^^ 3988292384 else x / 2
def bitsIn (x c : Nat) : Nat → Nat
  | 0 => x
  | k + 1 => bitIn (bitsIn x c k) c k
end Go.Frm
namespace Go.Proofs.YtmjldaedhmipkaaGreatDoor
open Go Go.Sl Go.Med Go.MapKept Go.RowKit
section
variable {w0 w : World} {F : List HProp} {v bv : Value}
end
end Go.Proofs.YtmjldaedhmipkaaGreatDoor
namespace Go.Frm
end Go.Frm
namespace Go.Proofs.YtmjldaedhmipkaaGreatDoor
open Go Go.Sl Go.Med Go.MapKept Go.RowKit
section
variable {w0 w : World} {F : List HProp} {v bv : Value}
end
section
variable {w0 w : World} {F R : List HProp} {d : Nat} {D : Med} {fsv fv nv wv v lv : Value} {xs : List RF} {g : Bag} {K : Nat}
end
section
variable {w0 w : World} {F R : List HProp} {d : Nat} {D : Med} {fsv fv nv wv v lv : Value} {xs : List RF} {g : Bag} {K : Nat}
section
variable {ops : Array Oper} {rest : List Oper} {a : Act} {Q : Exit → Act → World → Prop} {dst : Option Tmp} {t : Nat} {pos : String} {after : Array Edge} {s y : Operand} {x : Value} {l k : Bs} {K : Act → World → Prop} {E : Prop}
end
end
section
variable {P : Program} {w0 w : World} {L L' : List HProp} {b o : Nat} {ops : Array Oper} {rest : List Oper} {a : Act} {Q : Exit → Act → World → Prop} {dst : Option Tmp} {t ty T sz n c : Nat} {pos : String} {after : Array Edge} {x y : Operand} {v : Value} {xs : List Value} {K : Act → World → Prop} {E : Prop}
end
section
variable {w0 w : World} {F R : List HProp} {d i : Nat} {D : Med} {fsv fv nv wv v lv bv : Value} {xs : List RF} {x : RF} {g : Bag} {K : Nat}
theorem DskIn.step (h : DskIn D fv nv xs g) : DskIn D.step.1 fv nv xs g := ⟨by rw [step_files]; exact h.files, h.ok, by rw [step_fast]; exact h.fast, by rw [step_now]; exact h.now⟩
end
section
variable {P : Program} {w0 w : World} {F R : List HProp} {ops : Array Oper} {rest : List Oper} {a : Act} {Q : Exit → Act → World → Prop} {dst : Option Tmp} {t ty T b o : Nat} {pos : String} {after : Array Edge} {x : Operand} {cs : Array Value} {g : Nat × Bool}
end
section
variable {w0 w : World} {F R : List HProp} {bE : Nat} {e : Frm.Ent} {dv : Value}
end
section
variable {w0 w : World} {F R : List HProp} {bE : Nat} {e : Frm.Ent} {dv : Value}
end
section
variable {w0 w : World} {F R : List HProp} {bE : Nat} {e : Frm.Ent} {dv : Value}
end
section
variable {w0 w : World} {F R : List HProp} {bE : Nat} {e : Frm.Ent} {dv : Value}
end
section
variable {w0 w : World} {F R : List HProp} {d : Nat} {D : Med} {fsv fv nv wv v lv bv : Value} {xs : List RF} {g : Bag} {K : Nat}
end
section
variable {w0 w : World} {F R : List HProp} {d : Nat} {D : Med} {fsv fv nv wv v lv bv : Value} {xs : List RF} {g : Bag} {K : Nat}
end
section
variable {P : Program} {w0 w : World} {L L' : List HProp} {b o : Nat} {ops : Array Oper} {a : Act} {Q : Exit → Act → World → Prop} {dst : Option Tmp} {t ty T : TypeId} {pos : String} {after : Array Edge} {x y : Operand} {cs : Array Value} {v : Value} {K : Act → World → Prop} {E : Prop}
end
section
variable {w0 w : World} {F R : List HProp} {d i : Nat} {D : Med} {fsv fv nv wv v lv bv : Value} {xs : List RF} {x : RF} {g : Bag} {K : Nat}
section
variable {P : Program} {b o : Nat} {ops : Array Oper} {rest : List Oper} {a : Act} {Q : Exit → Act → World → Prop} {dst : Option Tmp} {t ty : Nat} {pos : String} {after : Array Edge} {y : Operand}
end
end
section
variable {w0 w : World} {F R : List HProp} {v bv dv x lv : Value}
def keyTo (kk : Bs) (i : Nat) : Bs := kk.take i ++ Frm.zero32.drop i
end
section
variable {w0 w : World} {F R : List HProp} {v bv dv x lv : Value}
end
section
variable {w0 w : World} {F R : List HProp} {v bv dv x lv : Value}
end
section
variable {w0 w : World} {F R : List HProp} {v bv dv x lv : Value}
end
section
variable {w0 w : World} {F R : List HProp} {v bv dv x lv : Value}
end
section
variable {w0 w : World} {F R : List HProp} {v bv dv x lv : Value}
end
end Go.Proofs.YtmjldaedhmipkaaGreatDoor
namespace Go.Seg
end Go.Seg
namespace Go.Proofs.YtmjldaedhmipkaaGreatDoor
open Go Go.Sl Go.Med Go.MapKept Go.RowKit
abbrev rlogPt (p d : Nat) (L : Seg.Log) (lv : Value) : HProp := pt p (.cells #[ptr d, .int .i64 L.limit, lv, .bool L.on, .int .i64 L.fresh] 87 (0,0))
def RLogRaw (p d : Nat) (L : Seg.Log) (lv : Value) : List HProp := [rlogPt p d L lv, osl 84 2 lv (segw L.l)]
def RLogRep (p d : Nat) (L : Seg.Log) : HProp := fun h => ∃ lv, stars (RLogRaw p d L lv) h
section
variable {w0 w : World} {F R : List HProp} {p d : Nat} {L : Seg.Log} {lv v : Value} {D : Med} {K : Nat}
theorem RLogRep.open (h : Sat w0 w (RLogRep p d L :: F)) : ∃ lv, Sat w0 w (rlogPt p d L lv :: osl 84 2 lv (segw L.l) :: F) := by
  obtain ⟨ha, x, hx, q, r, dd, rfl, ⟨lv, hp⟩, hq⟩ := h
  refine ⟨lv, ha, _, hx, ?_⟩
  show stars (RLogRaw p d L lv ++ F) _
  rw [stars_append]
  exact ⟨q, r, dd, rfl, hp, hq⟩
theorem RLogRep.shut (h : Sat w0 w (rlogPt p d L lv :: osl 84 2 lv (segw L.l) :: F)) : Sat w0 w (RLogRep p d L :: F) :=
  Sat.join (M := RLogRaw p d L lv) h fun _ hx => ⟨lv, hx⟩
end
section
variable {P : Program} {w0 w : World} {F R : List HProp} {e : TypeId} {ops : Array Oper} {a : Act} {Q : Exit → Act → World → Prop} {dst : Option Tmp} {ty : TypeId} {t : Nat} {pos : String} {after : Array Edge} {s y : Operand} {v x : Value} {xs ys : List Value} {K : Act → World → Prop} {E : Prop}
end
section
variable {w0 w : World} {F R : List HProp} {p d : Nat} {L : Seg.Log} {lv v : Value} {D : Med} {K : Nat}
end
end Go.Proofs.YtmjldaedhmipkaaGreatDoor
namespace Go.Seg
open Go.Med
end Go.Seg
namespace Go.Seg
end Go.Seg
namespace Go.Proofs.YtmjldaedhmipkaaGreatDoor
open Go Go.Sl Go.Med Go.MapKept Go.RowKit
section
variable {w0 w : World} {F R : List HProp} {p d q : Nat} {L : Seg.Log} {lv v bv : Value} {D : Med} {K : Nat}
end
end Go.Proofs.YtmjldaedhmipkaaGreatDoor
namespace Go.Seg
open Go.Med
end Go.Seg
namespace Go.Proofs.YtmjldaedhmipkaaGreatDoor
open Go Go.Sl Go.Med Go.MapKept Go.RowKit
section
variable {w0 w : World} {F R : List HProp} {p d q : Nat} {L : Seg.Log} {lv v bv : Value} {D : Med} {K : Nat} {s : Int × Int}
end
section
variable {w0 w : World} {F R : List HProp} {p d q : Nat} {L : Seg.Log} {lv v bv : Value} {M : Med} {K : Nat}
end
end Go.Proofs.YtmjldaedhmipkaaGreatDoor
namespace Go.Seg
open Go.Med
end Go.Seg
namespace Go.Proofs.YtmjldaedhmipkaaGreatDoor
open Go Go.Sl Go.Med Go.MapKept Go.RowKit
section
variable {w0 w : World} {F R : List HProp} {p d q : Nat} {L : Seg.Log} {lv v bv : Value} {M : Med} {K : Nat} {s : Int × Int}
end
end Go.Proofs.YtmjldaedhmipkaaGreatDoor
namespace Go.Seg
open Go.Med
section
variable {K K' : Nat} {M M' : Med} {L : Log} {s t : ByteArray} {i : Nat} {sure opn : List (Plc × Frm.Ent)}
theorem app_lt : ∀ (x y u v : Bs), x.length = y.length → x < y → x ++ u < y ++ v
  | [], [], _, _, _, h => absurd h (List.not_lt_nil [])
  | [], _ :: _, _, _, h, _ => by simp at h
  | _ :: _, [], _, _, h, _ => by simp at h
  | a :: x, b :: y, u, v, hl, h => by
    rw [List.cons_append, List.cons_append, List.cons_lt_cons_iff]
    rcases List.cons_lt_cons_iff.1 h with h1 | ⟨e, h1⟩
    · exact .inl h1
    · exact .inr ⟨e, app_lt x y u v (by simpa using hl) h1⟩
theorem app_lt_r : ∀ (x u v : Bs), u < v → x ++ u < x ++ v
  | [], _, _, h => h
  | a :: x, u, v, h => by
    rw [List.cons_append, List.cons_append, List.cons_lt_cons_iff]
    exact .inr ⟨rfl, app_lt_r x u v h⟩
theorem digs_lt : ∀ (k a b : Nat), a < b → b < 10 ^ k → digs a k < digs b k
  | 0, a, b, h, hb => by simp at hb; omega
  | k + 1, a, b, h, hb => by
    show digs (a / 10) k ++ [UInt8.ofNat (48 + a % 10)] < digs (b / 10) k ++ [UInt8.ofNat (48 + b % 10)]
    have hb' : b / 10 < 10 ^ k := by rw [Nat.div_lt_iff_lt_mul (by omega)]; rw [Nat.pow_succ] at hb; exact hb
    rcases Nat.lt_or_ge (a / 10) (b / 10) with q | q
    · exact app_lt _ _ _ _ (by rw [digs_len, digs_len]) (digs_lt k _ _ q hb')
    · have e : a / 10 = b / 10 := by omega
      rw [e]
      refine app_lt_r _ _ _ ?_
      rw [List.cons_lt_cons_iff]
      left
      rw [UInt8.lt_iff_toNat_lt, UInt8.toNat_ofNat', UInt8.toNat_ofNat']
      omega
theorem name_lt {a b : Int} (h1 : 0 ≤ a) (h2 : a < b) (h3 : b < 1048576) : lt (name a) (name b) = true := by
  unfold name
  rw [if_neg (by omega), if_neg (by omega)]
  unfold lt
  rw [decide_eq_true_eq]
  show lead ++ digs a.toNat 8 < lead ++ digs b.toNat 8
  exact app_lt_r _ _ _ (digs_lt 8 _ _ (by omega) (by omega))
theorem number_is {s : ByteArray} (h : (number s).2 = true) : 0 ≤ (number s).1 ∧ (number s).1 < 1048576 ∧ name (number s).1 = s := by
  unfold number at h ⊢
  dsimp only at h ⊢
  split at h
  · rename_i hc
    rw [if_pos hc]
    obtain ⟨c1, c2, c3, c4⟩ := hc
    refine ⟨by simp only; omega, by simp only; omega, ?_⟩
    simp only
    unfold name
    rw [if_neg (by omega)]
    have hl : (s.data.toList.drop 4).length = 8 := by
      have : s.data.toList.length = 12 := by first | exact c1 | (rw [Array.length_toList]; exact c1)
      rw [List.length_drop, this]
    have hd := digs_val (s.data.toList.drop 4) c3
    rw [hl] at hd
    have e : lead ++ digs (Int.toNat ((val (s.data.toList.drop 4) : Nat) : Int)) 8 = s.data.toList := by
      rw [Int.toNat_natCast, hd, ← c2, List.take_append_drop]
    rw [e]
  · cases h
theorem found_mem {l : List ByteArray} {x : Int × Int} (h : x ∈ found M l) : ∃ t ∈ l, (number t).2 = true ∧ x = ((number t).1, (M.size t).1) := by
  unfold found at h
  obtain ⟨t, ht, he⟩ := List.mem_filterMap.1 h
  split at he
  · rename_i hn; exact ⟨t, ht, hn, (Option.some.inj he).symm⟩
  · cases he
theorem found_rise : ∀ (l : List ByteArray), l.Pairwise (fun a b => lt a b = true) → ((found M l).map (·.1)).Pairwise (· < ·)
  | [], _ => List.Pairwise.nil
  | t :: l, h => by
    obtain ⟨h1, h2⟩ := List.pairwise_cons.1 h
    have ih := found_rise l h2
    by_cases hn : (number t).2 = true
    · have e : found M (t :: l) = ((number t).1, (M.size t).1) :: found M l := by unfold found; rw [List.filterMap_cons]; simp [hn]
      rw [e, List.map_cons, List.pairwise_cons]
      refine ⟨fun x hx => ?_, ih⟩
      obtain ⟨y, hy, rfl⟩ := List.mem_map.1 hx
      obtain ⟨u, hu, hun, rfl⟩ := found_mem hy
      have hlt := h1 u hu
      obtain ⟨a1, a2, a3⟩ := number_is hn
      obtain ⟨b1, b2, b3⟩ := number_is hun
      rcases Int.lt_or_le (number t).1 (number u).1 with q | q
      · exact q
      · exfalso
        rcases Int.lt_or_eq_of_le q with q | q
        · have h3 := name_lt b1 q a2
          rw [a3, b3] at h3
          have := lt_trans hlt h3
          rw [lt_irrefl] at this; cases this
        · rw [← a3, ← q, b3, lt_irrefl] at hlt; cases hlt
    · have e : found M (t :: l) = found M l := by unfold found; rw [List.filterMap_cons]; simp [hn]
      rw [e]; exact ih
theorem fresh_ok (ok : M.Ok K) (limit : Int) (h1 : 128 ≤ limit) (h2 : limit ≤ 1048576) : (fresh M limit).Ok := by
  refine ⟨⟨h1, h2⟩, ?_, fun x hx => ?_, fun x hx => ?_, ⟨Int.le_refl _, by simp [fresh]⟩, fun hh => by cases hh⟩
  · refine found_rise M.list ?_
    unfold Med.list
    split
    · exact List.Pairwise.nil
    · rw [List.pairwise_map]; exact ok.nowOk.srt
  · obtain ⟨t, _, hn, rfl⟩ := found_mem hx
    have := number_is hn
    exact ⟨this.1, this.2.1⟩
  · obtain ⟨t, _, hn, rfl⟩ := found_mem hx
    unfold Med.size
    split
    · simp
    split
    · simp
    · have := (ok.file ‹Nat›).now_len
      simp only
      omega
end
end Go.Seg
namespace Go.Seg
open Go.Med
section
variable {φ : Nat → Nat} {V : Nat → Prop} {M D : Med} {K : Nat} {L : Log}
end
structure Two (i : Nat) (L : Log) (M D : Med) : Prop where
  log : L.Ok
  ok : M.Ok (i * 2000)
  fit : Fit (i * 2000) D
  side : ∃ φ V, Side φ V M D
  fresh : L.fresh ≤ i
structure Step {α : Type} (i : Nat) (a b : (Log × Med) × α) : Prop where
  log : b.1.1 = a.1.1
  res : b.2 = a.2
  two : Two i a.1.1 a.1.2 b.1.2
section
variable {i : Nat} {M D : Med} {L : Log}
theorem Two.first (r : Nat) (hr : r ≤ 16777216) (limit : Int) (h1 : 128 ≤ limit) (h2 : limit ≤ 1048576) : Two 0 (Seg.fresh (new r) limit) (new r) (new r) :=
  ⟨fresh_ok (Med.Ok.new 0 r hr) limit h1 h2, Med.Ok.new _ r hr, Fit.new _ r hr, ⟨_, _, Side.new r⟩, Int.le_refl _⟩
end
end Go.Seg
namespace Go.Seg
open Go.Med
open Go.Frm (encs GoodE)
section
variable {K : Nat} {M M' : Med} {L : Log} {s t : ByteArray} {i : Nat}
def Grow (M : Med) : Prop := ∀ j, ∀ c ∈ (M.file j).waits, c.cut = false
def Dur (s : ByteArray) (i : Nat) (M : Med) : Prop := nget M.fast s = some i ∧ ∀ w ∈ M.waits, w.fr ≠ s ∧ w.to ≠ s
structure Ext (s : ByteArray) (i : Nat) (M M' : Med) : Prop where
  now : nget M'.now s = some i
  dur : Dur s i M → Dur s i M'
  fast : ∀ j, (M.file j).fast <+: (M'.file j).fast
  bytes : ∀ j, (M.file j).now <+: (M'.file j).now
end
end Go.Seg
namespace Go.Seg
open Go.Med
open Go.Frm (encs GoodE)
section
variable {K : Nat} {M M' : Med} {L : Log} {s t : ByteArray} {i : Nat}
def nf (L : Log) : List Int := (L.l.map (·.1)).take (L.l.length - L.fresh.toNat)
def Slice (p : Plc) (x : Frm.Ent) (b : Bs) : Prop := ∃ a : Nat, p.at_ = a ∧ p.size = ((Frm.encode x).1.length : Int) ∧ (Frm.encode x).1 <+: b.drop a
structure Sure (L : Log) (M : Med) (p : Plc) (x : Frm.Ent) : Prop where
  good : GoodE x
  mem : p.seg ∈ nf L
  file : ∃ i, nget M.now (name p.seg) = some i ∧ Dur (name p.seg) i M ∧ Slice p x (M.file i).fast
structure Pend (L : Log) (M : Med) (p : Plc) (x : Frm.Ent) : Prop where
  good : GoodE x
  mem : p.seg ∈ L.l.map (·.1)
  file : ∃ i, nget M.now (name p.seg) = some i ∧ Slice p x (M.file i).now ∧ (Slice p x (M.file i).fast ∨ L.on = true ∧ ∃ s, L.l.getLast? = some s ∧ s.1 = p.seg)
structure St (K : Nat) (L : Log) (M : Med) (sure opn : List (Plc × Frm.Ent)) : Prop where
  log : L.Ok
  ok : M.Ok K
  grow : Grow M
  has : Has L M
  tail : L.on = true → ∃ s i, L.l.getLast? = some s ∧ nget M.now (name s.1) = some i ∧ s.2 = ((M.file i).now.length : Int)
  sure : ∀ q ∈ sure, Sure L M q.1 q.2
  opn : M.off = false → ∀ q ∈ opn, Pend L M q.1 q.2
variable {sure opn : List (Plc × Frm.Ent)}
end
end Go.Seg
namespace Go.Seg
open Go.Med
open Go.Frm (encs GoodE)
section
variable {K K' : Nat} {M M' : Med} {L : Log} {s t : ByteArray} {i : Nat} {sure opn : List (Plc × Frm.Ent)}
end
end Go.Seg
namespace Go.Med
def FCap (c : Nat) (f : Fil) : Prop := ∀ k, k ≤ f.waits.length → (f.at k).length ≤ c
section
variable {c c' K : Nat} {f : Fil} {M : Med}
theorem FCap.new (c : Nat) : FCap c Fil.new := fun k _ => by simp [Fil.new, Fil.at]
def Med.Cap (c : Nat) (M : Med) : Prop := ∀ f ∈ M.files, FCap c f
theorem Med.Cap.new (c room : Nat) : (Med.new room).Cap c := fun f hf => by cases hf
end
end Go.Med
namespace Go.Seg
open Go.Med
section
variable {c c' K n : Nat} {L : Log} {M : Med}
end
end Go.Seg
namespace Go.Seg
open Go.Med
end Go.Seg
namespace Go.Proofs.YtmjldaedhmipkaaGreatDoor
open Go Go.Sl Go.Med Go.MapKept Go.RowKit
section
variable {w0 w : World} {F R : List HProp} {p d q : Nat} {L : Seg.Log} {lv v bv : Value} {M : Med} {K : Nat} {s : Int × Int}
end
end Go.Proofs.YtmjldaedhmipkaaGreatDoor
namespace Go.Seg
open Go.Med
def Log.drop (t : List Int) : Nat → Log → Med → (Log × Med) × Int
  | 0, L, M => if t = [] then ((L, M), 0) else ((L, M.syncDir.1), M.syncDir.2)
  | k + 1, L, M => if (L.remove M (t.getD k 0)).2 = 0 then Log.drop t k (L.remove M (t.getD k 0)).1.1 (L.remove M (t.getD k 0)).1.2 else L.remove M (t.getD k 0)
def Log.rdrop (t : List Int) : Nat → Log → Med → (Log × Med) × Int
  | 0, L, M => if t = [] then ((L, M), 0) else ((L, M.syncDir.1), M.syncDir.2)
  | k + 1, L, M => if (L.rremove M (t.getD k 0)).2 = 0 then Log.rdrop t k (L.rremove M (t.getD k 0)).1.1 (L.rremove M (t.getD k 0)).1.2 else L.rremove M (t.getD k 0)
section
variable {t : List Int} {L : Log} {M D : Med} {K i : Nat}
end
end Go.Seg
namespace Go.Seg
open Go.Med
structure TwoM (i : Nat) (M D : Med) : Prop where
  ok : M.Ok (i * 2000)
  fit : Fit (i * 2000) D
  side : ∃ φ V, Side φ V M D
  quiet : Quiet M
  cap : M.Cap (i * 2000)
  now : M.now.length ≤ i
section
variable {i j K : Nat} {M D : Med}
theorem TwoM.first (r : Nat) (hr : r ≤ 16777216) : TwoM 0 (Med.new r) (Med.new r) :=
  ⟨Med.Ok.new _ r hr, Fit.new _ r hr, ⟨_, _, Side.new r⟩, Quiet.new r, Med.Cap.new _ r, Nat.le_refl 0⟩
end
section
variable {i n c K : Nat} {L : Log} {M D : Med}
end
end Go.Seg
namespace Go.Proofs.YtmjldaedhmipkaaGreatDoor
open Go Go.Sl Go.Med Go.MapKept Go.RowKit
section
variable {P : Program} {ops : Array Oper} {a : Act} {dst : Option Tmp} {t ty : TypeId} {pos : String} {after : Array Edge} {x y : Operand} {v v1 v2 : Value} {i1 i2 : Nat}
theorem yl_build2 (hx : a.eval x = v1) (hy : a.eval y = v2) (hr : ∀ w, (Instr.build ty #[(i1, v1), (i2, v2)]).run P w = .ok v w) : Yields P ops ⟨dst, .build ty #[(i1, x), (i2, y)], t, pos, after, none⟩ v a :=
  .inl ⟨want_none _ rfl, fun w => by simp only [execOp, List.map_toArray, List.map_cons, List.map_nil, hx, hy, Sem.run_bind, hr, Result.andThen_ok, Sem.run_pure]⟩
end
section
variable {w0 w : World} {F : List HProp} {p B : Nat} {m : Frm.Bs → Option (Seg.Plc)}
set_option maxRecDepth 20000 in
set_option maxHeartbeats 8000000 in
theorem rows_c (hB : B ≤ 13000000) (h : Sat w0 w (TabML p m B :: F)) :
    Calls Tryz.prog 56 #[ptr p] w (Rtn fun v w' => ∃ kv : List (Frm.Bs × Seg.Plc), (Tab.Lists m kv ∧ (∀ q ∈ kv, q.1.length = 32) ∧ kv.length ≤ B) ∧ Sat w0 w' (osl 117 35 v (kv.flatMap kvL) :: TabML p m B :: F)) := by
  have hr := keysL_c hB h
  clear h
  go_enter Tryz.func56, Tryz.ntmps56
  go_wp2_with fail
  refine hr.mono ?_
  rintro ee w1 ⟨sv, rfl, kv, hk, hS1⟩
  clear hr
  have Hk := Lib.hid hk
  have Hlen := Lib.hid (show ∀ q ∈ kv, (bys q.1).length = 32 from fun q hq => by rw [bys_len]; exact hk.2.1 q hq)
  obtain ⟨la, lc, rfl⟩ := osl_rows Hlen.out (Sat.rd hS1) (by decide)
  have hsb : kv.length ≤ 13000000 := Nat.le_trans hk.2.2 hB
  have hB2 : B ≤ 268435000 := by omega
  have HB := Lib.hid hB2
  have hS2 : Sat w0 w1 (osl 117 35 (.slice none 0 0) ((kv.take 0).flatMap kvL) :: osl 41 32 (.slice la kv.length lc) (kv.flatMap fun q => bys q.1) :: TabML p m B :: F) := Sat.osl_nil.2 hS1
  clear hk hB hS1 hB2
  go_wp2_with fail
  go_loopg [3, 5] kv.length (fun g oq iq wr => ∃ (i : Nat), g = kv.length - i ∧ i ≤ kv.length ∧ iq = .int .i64 i ∧
    Sat w0 wr (osl 117 35 oq ((kv.take i).flatMap kvL) :: osl 41 32 (.slice la kv.length lc) (kv.flatMap fun q => bys q.1) :: TabML p m B :: F))
  case atStart => exact ⟨0, rfl, Nat.zero_le _, rfl, hS2⟩
  case round =>
    obtain ⟨i, rfl, hi, rfl, hS⟩ := hrel
    clear hS2
    by_cases hlt : i < kv.length
    rotate_left
    · obtain rfl : i = kv.length := by omega
      have c1 : ¬ (kv.length : Int) < (kv.length : Int) := by omega
      rw [List.take_length] at hS
      clear hlt hi
      go_wp2_with fail
      go_ret
      exact ⟨_, rfl, kv, ⟨Hk.out.1, by intros; exact Hk.out.2.1 (_, _) (by assumption), Hk.out.2.2⟩, hS.sb⟩
    have c1 : (i : Int) < (kv.length : Int) := by omega
    have hwi : IntKind.i64.wrap ((i : Int) + 1) = (i : Int) + 1 := IntWalk.i64_in _ (by omega)
    obtain ⟨⟨k, pl⟩, hx⟩ : ∃ q, kv[i]? = some q := ⟨_, List.getElem?_eq_getElem hlt⟩
    have Hx := Lib.hid hx
    have hxm := List.mem_of_getElem? hx
    have Hxk := Lib.hid (Hk.out.2.1 _ hxm)
    have hmk : m k = some pl := (Hk.out.1.mem k pl).1 hxm
    obtain ⟨bk, off, c', hsv, hcell⟩ := osl_row (f := fun q : Frm.Bs × Seg.Plc => bys q.1) (k := 32) Hlen.out (Sat.rd (hS.pick pick1)) hx (by decide)
    cases hsv
    have Htk := Lib.hid (show (kv.take (i + 1)).flatMap kvL = (kv.take i).flatMap kvL ++ kvL (k, pl) by rw [List.take_add_one, hx, Option.toList_some, List.flatMap_append]; simp)
    have Hlt := Lib.hid hlt
    have hg := getL_c HB.out Hxk.out (hS.sb : Sat w0 wr (TabML p m B :: osl 117 35 u3 ((kv.take i).flatMap kvL) :: osl 41 32 (.slice (some ⟨bk, off, none⟩) kv.length lc) (kv.flatMap fun q => bys q.1) :: F))
    rw [hmk, Option.getD_some, Option.isSome_some] at hg
    clear hx hxm hlt hi hmk hS
    go_wp2_with ((with_reducible apply at_load); refine ⟨?_⟩; refine wl_loadW (b := bk) (o := off + i * 32) (bys k) (by rfl) hcell Tryz.underlying41 rfl (by rw [bys_len, Hxk.out]; kernel_rfl) ?_)
    refine hg.mono ?_
    rintro ee w5 ⟨v, rfl, rfl, hS5⟩
    clear hg hcell
    go_wp2_with (with_reducible apply at_alloc)
    refine ⟨?_⟩
    refine wl_alloc zPlc39 hS5 rfl ?_
    intro b6 w6 h6
    go_wp2_with ((with_reducible apply at_store); refine ⟨?_⟩; refine wl_storeA (penc pl).toArray h6 (by rfl) (by rfl) (by rfl) upd0 (by kernel_rfl) (by rfl) ?_; intro w7 h7)
    have h8 := h7.drew
    obtain ⟨bk2, off2, c2, e2, hcell⟩ := osl_row (f := fun q : Frm.Bs × Seg.Plc => bys q.1) (k := 32) Hlen.out (Sat.rd (h8.pick (pick_there (pick_there (pick_there pick0))))) Hx.out (by decide)
    cases e2
    have hG : (w7.drew).rangeAt bk (off + i * 32) (bys k) ∧ (w7.drew).rangeAt b6 0 (penc pl) := ⟨hcell, pt_rangeL (h8.pick pick0)⟩
    clear h7 h6 hS5 hcell
    have hle : ((kv.take i).flatMap kvL).length ≤ 2147483648 := by
      rw [rows_len (k := 35) fun q hq => kvL_len q (Hk.out.2.1 q (List.mem_of_mem_take hq)), List.length_take]; omega
    refine wpL_begin [6, 7, 8, 9] (fun w' => w'.rangeAt bk (off + i * 32) (bys k) ∧ w'.rangeAt b6 0 (penc pl)) (by kernel_rfl) ?_
    refine rp 0 (hy := (yl_move evD)) (h := ?_)
    refine rp 1 (hy := (yl_move evD)) (h := ?_)
    refine rp 2 (hy := (yl_move evD)) (h := ?_)
    refine rp 3 (hy := (yl_index evD evD rnD)) (h := ?_)
    refine rg_take 4 evD (by kernel_rfl) (by intro _ _ _ h; exact h) (tk_loadN (b := bk) (o := off + i * 32) (bys k) (by rfl) Tryz.underlying41 rfl (by rw [bys_len, Hxk.out]; kernel_rfl) (fun w hw => hw.1)) (by assumption) (by go_frame; first | done | rfl) ?_
    refine rg_take 5 evD (by kernel_rfl) (by intro _ _ _ h; exact h) (tk_loadN (b := b6) (o := 0) (penc pl) (by rfl) Tryz.underlying39 rfl (by kernel_rfl) (fun w hw => hw.2)) (by assumption) (by go_frame; first | done | rfl) ?_
    clear hG
    refine rp 6 (hy := (yl_build2 evD evD (fun w => run_kv k Hxk.out pl w))) (h := ?_)
    refine rg_eff 7 evD (by kernel_rfl) (fun K hK => ?_)
    refine eff_build1 (e := 117) (sz := 35) (by' := 56) (by kernel_rfl) h8 evD (cs := (kvL (k, pl)).toArray) rfl (by rw [List.size_toArray, kvL_len _ Hxk.out]) (by decide) ?_
    intro bN wN hN
    refine hK _ _ (.inl rfl) ?_
    clear hK h8
    refine rg_eff 8 evD (by kernel_rfl) (fun K hK => ?_)
    refine eff_app 117 35 56 (by kernel_rfl) hN evD evD (pick_there (pick_there (pick_there pick0))) pick0 (by rw [List.size_toArray, kvL_len _ Hxk.out]) (Nat.le_refl 1) (by rw [List.toList_toArray]; exact kvL_ones _) hle (by rw [List.size_toArray, kvL_len _ Hxk.out]; decide) (by decide) (by rw [List.toList_toArray]) ?_
    intro bA nA cA wA hA
    refine hK _ _ (.inl rfl) ?_
    clear hK hN
    refine rp 9 (hy := (yl_assign evD)) (h := ?_)
    refine wpL_done (by kernel_rfl) ?_
    rw [← Htk.out] at hA
    go_wp2_with fail
    go_roundg (kv.length - (i + 1))
    case measure => have := Hlt.out; omega
    case rel => exact ⟨i + 1, rfl, Hlt.out, by first | rfl | go_num, hA.sb⟩
end
abbrev rstPt (ps : Nat) (last : Int) (iv uv tv : Value) : HProp := pt ps (.cells #[.int .i64 last, iv, uv, tv] 207 (0,0))
section
variable {w0 w : World} {F : List HProp} {rv iv uv tv : Value}
end
section
variable {P : Program} {ops : Array Oper} {a : Act} {dst : Option Tmp} {t ty : TypeId} {pos : String} {after : Array Edge} {x y : Operand} {v vx vy : Value} {g : Option (Nat × Bool)}
end
section
variable {w0 w : World} {F R : List HProp} {v bv dv x lv : Value}
end
section
variable {w0 w : World} {F : List HProp} {q d K : Nat} {L : Seg.Log} {D : Med} {bt : Rep.Told}
end
end Go.Proofs.YtmjldaedhmipkaaGreatDoor
namespace Go.Rep
end Go.Rep
namespace Go.Proofs.YtmjldaedhmipkaaGreatDoor
open Go Go.Sl Go.Med Go.MapKept Go.RowKit
def RRunOut (w0 : World) (F : List HProp) (bt : Rep.Told) (ns : List Int) (q d : Nat) (L : Seg.Log) (D : Med) (v : Value) (w' : World) : Prop :=
  match Rep.run bt ns with
  | .inl (fl, e) => v = .tuple #[.pointer none, .agg (fltA fl), errno e] ∧ Sat w0 w' (RLogRep q d L :: DskRep d D :: F)
  | .inr n => ∃ (ps : Nat) (iv uv tv : Value), v = .tuple #[ptr ps, .agg (fltA Rep.Flt.zero), errno 0] ∧
      Sat w0 w' (rstPt ps (Rep.lastOfL (ns.take n)) iv uv tv :: osl 117 35 iv ((Rep.idx (Rep.rowsOf bt (ns.take n)) (Rep.rowsOf bt (ns.take n)).length).flatMap kvL) ::
        osl 115 3 uv ((Rep.uAt (Rep.rowsOf bt (ns.take n)) (Rep.usesOf bt (ns.take n)) (Rep.rowsOf bt (ns.take n)).length).flatMap uenc) :: osl 3 1 tv (ints (ns.drop n)) :: RLogRep q d L :: DskRep d D :: F)
section
variable {w0 w : World} {F : List HProp} {q d K : Nat} {L : Seg.Log} {D : Med} {bt : Rep.Told}
end
section
variable {w0 w : World} {F : List HProp}
set_option maxRecDepth 20000 in
set_option maxHeartbeats 8000000 in
theorem lives15_c (hH : Ro w0 F Half) (h : Sat w0 w F) :
    Calls Tryz.prog 42 #[] w (Rtn fun v w' => v = .bool true ∧ Sat w0 w' F) := by
  have hnew : Calls Tryz.prog 13 #[.int .i64 1000] w (Rtn fun v w' => ∃ m, v = .tuple #[ptr m, errno 0] ∧ Sat w0 w' (MedRep m (Med.new 1000) :: F)) := new_yes 1000 (by decide) h
  have HH := Lib.hid hH
  clear hH
  go_enter Tryz.func42, Tryz.ntmps42
  go_wp2_with fail
  refine hnew.mono ?_
  rintro e w1 ⟨v, rfl, m, rfl, hS⟩
  clear hnew
  have hop := open_c (K := 20) (Med.Ok.new 20 1000 (by decide)) 200 hS live_alive (by decide) (by decide)
  have hok := Seg.fresh_ok (Med.Ok.new 20 1000 (by decide)) 200 (by decide) (by decide)
  rw [show Seg.fresh (Med.new 1000) 200 = ⟨200, [], false, 0⟩ from live_fresh] at hop hok
  go_wp2_with fail
  refine hop.mono ?_
  rintro e w2 ⟨v, rfl, p, rfl, hS2⟩
  clear hop
  have hrn := run_c hok (Med.Ok.new 20 1000 (by decide)) HH.out (by show 0 ≤ 12000000; decide) (fun r hr => by cases hr) hS2
  go_wp2_with fail
  refine hrn.mono ?_
  rintro e w3 ⟨v, rfl, ho⟩
  clear hrn
  unfold RunOut at ho
  rw [show Rep.run (lbt ⟨200, [], false, 0⟩ (Med.new 1000)) (Seg.Log.segs ⟨200, [], false, 0⟩) = .inr 0 from rfl] at ho
  obtain ⟨ps, pi, uv, tv, av, kv, rfl, _, _, hS3⟩ := ho
  have hS4 : Sat w0 w3 (stPt ps (-1) pi uv tv :: F) := hS3.sb
  clear hS3 hS2 hS
  go_wp2_with (with_reducible apply at_alloc)
  refine ⟨?_⟩
  refine wl_alloc zFlt hS4 rfl ?_
  intro b6 w6 h6
  go_wp2_with (first
    | ((with_reducible apply at_store); refine ⟨?_⟩; refine wl_storeA (fltA Rep.Flt.zero) h6 (by rfl) (by rfl) (by rfl) upd0 (by kernel_rfl) (by rfl) ?_; intro w7 h7)
    | (with_reducible apply at_loadG))
  refine ⟨?_⟩
  refine wl_loadG1 (by rfl) h7 (by rfl) (pick_there pick0) (by show 0 + 1 ≤ 4; decide) (by rfl) (by kernel_rfl) ?_
  go_wp2_with (with_reducible apply at_loadG)
  refine ⟨?_⟩
  refine wl_loadG1 (by rfl) h7 (by rfl) (pick_there pick0) (by show 1 + 1 ≤ 4; decide) (by rfl) (by kernel_rfl) ?_
  go_wp2_with fail
  go_ret
  exact ⟨_, rfl, rfl, h7.drop.drop⟩
end
structure BO (v : Value) (l : Bs) (b o cap : Nat) (cs : Array Value) : Prop where
  eq : v = .slice (some ⟨b, o, none⟩) l.length cap
  le : l.length ≤ cap
  max : cap ≤ 9223372036854775807
  fit : o + cap ≤ cs.size
  rd : ∀ j y, (bys l)[j]? = some y → cs[o + j]? = some y
section
variable {w0 w : World} {R : List HProp} {v x : Value} {l k : Bs} {b o cap : Nat} {cs : Array Value}
theorem BO.rdsl (h : BO v l b o cap cs) (hS : Sat w0 w (pt b (.cells cs 5 (0,0)) :: R)) : rdsl 1 v (bys l) w :=
  ⟨_, _, _, h.eq, by rw [bys_len, Nat.mul_one], fun j y hj => ⟨_, rfl, by
    have hadd : (⟨b, o, none⟩ : Addr).add j = ⟨b, o + j, none⟩ := by unfold Addr.add; split <;> simp_all
    rw [hadd]; exact hS.cellAt (o + j) y (h.rd j y hj)⟩⟩
end
section
variable {w0 w : World} {F : List HProp} {lv : Value}
end
end Go.Proofs.YtmjldaedhmipkaaGreatDoor
namespace Go.Proofs.YtmjldaedhmipkaaGreatDoor
open Go Go.Sl Go.Med Go.ChangeShapes Go.WideShapes Go.RowKit
section
variable {H : Type} {enc : TypeId × Value → H} {W : World} {base : Nat} {spare : Nat → Bool} {held : Bool}
theorem open_key {t : TypeId} {fuel : Nat} {cs : List Value} {x : DataW H × List MemPlace} {k : Nat} (ht : Tryz.prog.underlying t = some (.array k 5)) (hk : Tryz.prog.cellsOf t = k) (h : DataW.trod enc Tryz.prog W base spare held fuel t cs = some x) :
    ∃ l : Bs, bys l = cs ∧ l.length = k := by
  obtain ⟨xs, m, _, _, hl, hxl, hf⟩ := DataW.trod_array ht h
  have e1 : Tryz.prog.cellsOf 5 = 1 := by kernel_rfl
  rw [hk] at hl
  have hz : ∀ i, i < k → ∃ z : Int, cs[i]? = some (.int .u8 z) ∧ (Lit.int .u8 z).wf = true := by
    intro i hi
    have h0 := hf i hi
    rw [List.getElem?_eq_getElem (by omega), e1, Nat.mul_one] at h0
    obtain ⟨z, q1, _, q3⟩ := DataW.trod_int Tryz.underlying5 h0
    refine ⟨z, ?_, q3⟩
    have : ((cs.drop i).take 1)[0]? = some (.int .u8 z) := by rw [q1]; rfl
    rw [List.getElem?_take, if_pos (by decide), List.getElem?_drop] at this
    exact this
  obtain ⟨zs, z1, z2⟩ := list_of_fun hz
  have hcs : cs = zs.map (.int .u8) := by
    apply List.ext_getElem? 
    intro i
    rw [List.getElem?_map]
    by_cases hi : i < k
    · have := (z2 i _ (List.getElem?_eq_getElem (by omega))).1
      rw [this, List.getElem?_eq_getElem (show i < zs.length by omega)]; rfl
    · rw [List.getElem?_eq_none (by omega), List.getElem?_eq_none (by omega)]; rfl
  refine ⟨toBs zs, ?_, by unfold toBs; rw [List.length_map]; exact z1⟩
  rw [bys_toBs, hcs]
  intro z hz
  obtain ⟨i, hi, rfl⟩ := List.getElem_of_mem hz
  exact (z2 i _ (List.getElem?_eq_getElem hi)).2
structure EntAt (W : World) (p : Frm.Ent × Value) : Prop where
  key : p.1.key.length = 32
  tag : inI p.1.tag
  rd : rdsl 1 p.2 (bys p.1.data) W
  cap : capOk p.2
theorem EntAt.ro {p : Frm.Ent × Value} (h : EntAt W p) : EntRo W [Sl.old W] p := ⟨h.key, rd_old h.rd, h.cap⟩
end
end Go.Proofs.YtmjldaedhmipkaaGreatDoor
namespace Go.Proofs.YtmjldaedhmipkaaGreatDoor
open Go Go.Sl Go.Med Go.ChangeShapes Go.WideShapes Go.RowKit
structure PC where
  n : Int
  es : List (Frm.Ent × Value)
  ev : Value
  rest : Bs
  rv : Value
  bad : Bool
  at_ : Int
  plain : Bool
def pcL (d : PC) : List Value := [.int .i64 d.n, d.ev, d.rv, .bool d.bad, .int .i64 d.at_, .bool d.plain]
structure PC.At (W : World) (d : PC) : Prop where
  n : inI d.n
  rd : rdsl 34 d.ev (entsL d.es) W
  cap : capOk d.ev
  ents : ∀ p ∈ d.es, EntAt W p
  rr : rdsl 1 d.rv (bys d.rest) W
  rc : capOk d.rv
  at_ : inI d.at_
structure PCRo (w0 : World) (F : List HProp) (d : PC) : Prop where
  rd : Ro w0 F (rdsl 34 d.ev (entsL d.es))
  cap : capOk d.ev
  ents : ∀ p ∈ d.es, EntRo w0 F p
  rr : Ro w0 F (rdsl 1 d.rv (bys d.rest))
  rc : capOk d.rv
section
variable {H : Type} {enc : TypeId × Value → H} {W : World} {base : Nat} {spare : Nat → Bool} {held : Bool}
end
end Go.Proofs.YtmjldaedhmipkaaGreatDoor
namespace Go.Proofs.YtmjldaedhmipkaaGreatDoor
open Go Go.Sl Go.Med Go.MapKept Go.RowKit
section
variable {w0 w : World} {F R : List HProp} {lv : Value}
theorem dataS_at : ∀ (fs : List (Frm.Ent × Value)) (i : Nat) (p : Frm.Ent × Value), fs[i]? = some p → ∃ G, dataS fs = star (bsl p.2 p.1.data) G
  | [], _, _, h => by cases h
  | x :: fs, 0, p, h => by
    obtain rfl : x = p := by simpa using h
    exact ⟨_, rfl⟩
  | x :: fs, i + 1, p, h => by
    obtain ⟨G, hG⟩ := dataS_at fs i p (by simpa using h)
    refine ⟨star (bsl x.2 x.1.data) G, ?_⟩
    show star (bsl x.2 x.1.data) (dataS fs) = _
    rw [hG, star_left_comm]
theorem dataS_ent {fs : List (Frm.Ent × Value)} (hk : ∀ p ∈ fs, p.1.key.length = 32) (h : Sat w0 w (dataS fs :: R)) : ∀ p ∈ fs, EntRo w0 (dataS fs :: R) p := fun p hp => by
  obtain ⟨i, hi⟩ := List.getElem?_of_mem hp
  obtain ⟨G, hG⟩ := dataS_at fs i p hi
  refine ⟨hk p hp, fun w' hw => ?_, ?_⟩
  · rw [hG] at hw
    exact Sat.rd (Sat.star.1 hw)
  · rw [hG] at h
    exact (bsl_capL (Sat.star.1 h)).1
end
end Go.Proofs.YtmjldaedhmipkaaGreatDoor
namespace Go.Seg
open Go.Med
open Go.Frm (encs GoodE)
section
variable {K K' : Nat} {M M' : Med} {L : Log} {s t : ByteArray} {i : Nat} {sure opn : List (Plc × Frm.Ent)}
theorem St.first (lim : Int) (h1 : 128 ≤ lim) (h2 : lim ≤ 1048576) : St 0 ⟨lim, [], false, 0⟩ (new 1048576) [] [] :=
  ⟨⟨⟨h1, h2⟩, List.Pairwise.nil, (fun s hs => by cases hs), (fun s hs => by cases hs), ⟨Int.le_refl _, by simp⟩, fun hh => by cases hh⟩, Med.Ok.new 0 1048576 (by decide),
    (fun j c hc => by simp [Med.file, new, Fil.new] at hc), (fun s hs => by cases hs), (fun hh => by cases hh), (fun q hq => by cases hq), fun _ q hq => by cases hq⟩
end
end Go.Seg
namespace Go.Proofs.YtmjldaedhmipkaaGreatDoor
open Go Go.Sl Go.Med Go.MapKept Go.RowKit
section
variable {w0 w : World} {F R : List HProp} {p d m : Nat} {v lv : Value} {D M : Med} {K : Nat}
end
end Go.Proofs.YtmjldaedhmipkaaGreatDoor
namespace Go.Rep
end Go.Rep
namespace Go.Seg
open Go.Med
end Go.Seg
namespace Go.Proofs.YtmjldaedhmipkaaGreatDoor
open Go Go.Sl Go.Med Go.MapKept Go.RowKit
section
variable {P : Program} {w0 w : World} {L L' R : List HProp} {ops : Array Oper} {rest : List Oper} {a : Act} {Q : Exit → Act → World → Prop} {dst : Option Tmp} {t ty T b : Nat} {pos : String} {after : Array Edge} {x : Operand} {cs : Array Value} {g : Nat × Bool}
end
section
variable {w0 w : World} {F : List HProp} {lv : Value}
end
theorem zDo15 : zeroB Tryz.prog 107 = some zeroEntV := by kernel_rfl
theorem infoDo15 : (Tryz.prog.info? 107).map (·.size) = some 34 := by kernel_rfl
theorem entA_put33 (x : Frm.Ent) (dv v : Value) (hk : x.key.length = 32) : putsAt (entA x dv) 33 [v] = entA x v := by
  apply putsAt_eq
  rw [putsAt_list _ _ _ (by rw [entA_size _ _ hk]; simp)]
  have h1 : (entA x dv).toList = (Value.int .i64 x.tag :: bys x.key) ++ [dv] := by unfold entA entL; simp
  have h2 : (entA x v).toList = (Value.int .i64 x.tag :: bys x.key) ++ [v] := by unfold entA entL; simp
  have hl : (Value.int .i64 x.tag :: bys x.key).length = 33 := by rw [List.length_cons, bys_len, hk]
  rw [h1, h2, List.take_append_of_le_length (by omega), List.take_of_length_le (by omega), List.drop_of_length_le (by rw [List.length_append, hl]; simp), List.append_nil]
section
variable {w0 w : World} {F R : List HProp} {v bv dv x lv : Value}
set_option maxRecDepth 20000 in
set_option maxHeartbeats 8000000 in
theorem few15_c (es : List (Frm.Ent × Value)) (n : Nat) (hn : n ≤ 1048576) (hr : Ro w0 F (rdsl 34 lv (entsL es))) (he : ∀ p ∈ es, EntRo w0 F p) (h : Sat w0 w F) :
    Calls Tryz.prog 52 #[lv, .int .i64 n] w (Rtn fun v w' => ∃ fs : List (Frm.Ent × Value), fs.map (·.1) = Frm.few (es.map (·.1)) n 100 ∧ Sat w0 w' (osl 107 34 v (entsL fs) :: dataS fs :: F)) := by
  obtain ⟨la, ln, lc, rfl, hl, _⟩ := hr w h
  rw [entsL_len (fun p hp => (he p hp).key)] at hl
  obtain rfl : ln = es.length := by omega
  have Hr := Lib.hid hr; have He := Lib.hid he; have Hn := Lib.hid hn
  clear hr he hl hn
  go_enter Tryz.func52, Tryz.ntmps52
  go_wp2_with fail
  go_loopg [6, 5] es.length (fun g iq ov wr => ∃ (i : Nat) (fs : List (Frm.Ent × Value)), g = es.length - i ∧ i ≤ es.length ∧ i ≤ n ∧ iq = .int .i64 i ∧ fs.map (·.1) = ((es.map (·.1)).take i).map (Frm.cutE 100) ∧
    Sat w0 wr (osl 107 34 ov (entsL fs) :: dataS fs :: F))
  case atStart => exact ⟨0, [], rfl, Nat.zero_le _, Nat.zero_le _, rfl, rfl, Sat.osl_nil.2 (Sat.emp.2 h)⟩
  case round =>
    obtain ⟨i, fs, rfl, hi, hin, rfl, hfs, hS⟩ := hrel
    have Hfs := Lib.hid hfs; have Hi := Lib.hid hi; have Hin := Lib.hid hin
    clear h hfs hi hin
    by_cases hlt : i < es.length ∧ i < n
    · obtain ⟨hl1, hl2⟩ := hlt
      have c1 : (i : Int) < (es.length : Int) := by omega
      have c2 : (i : Int) < (n : Int) := by omega
      have hwi : IntKind.i64.wrap ((i : Int) + 1) = (i : Int) + 1 := IntWalk.i64_in _ (by have := Hn.out; omega)
      have Hl1 := Lib.hid hl1; have Hl2 := Lib.hid hl2
      have Hfk := Lib.hid (few_keys Hfs.out (fun p hp => (He.out p hp).key))
      clear hl1 hl2
      obtain ⟨x, hx⟩ : ∃ x, es[i]? = some x := ⟨_, List.getElem?_eq_getElem Hl1.out⟩
      have hxe := He.out x (List.mem_of_getElem? hx)
      have hk : ∀ p ∈ es, p.1.key.length = 32 := fun p hp => (He.out p hp).key
      have hcut := Lib.hid (show fs.map (·.1) ++ [Frm.cutE 100 x.1] = ((es.map (·.1)).take (i + 1)).map (Frm.cutE 100) by
        rw [Hfs.out, List.take_add_one, List.map_append, List.getElem?_map, hx]; rfl)
      have hrF : Ro w0 (osl 107 34 u5 (entsL fs) :: dataS fs :: F) (rdsl 34 (.slice la es.length lc) (entsL es)) := Ro.os Hr.out
      obtain ⟨bk, off, rfl, _⟩ := rdsl_cells (hrF _ hS) (entsL_at hk hx (entL_at0 _ _))
      have HC := Lib.hid (show ∀ j v, (entL x.1 x.2)[j]? = some v → wr.cell? ⟨bk, off + i * 34 + j, none⟩ = some v by
        intro j v hj
        obtain ⟨bk', off', hbo, hcell⟩ := rdsl_cells (hrF _ hS) (entsL_at hk hx (entL_at0 _ _))
        cases hbo
        have := hcell _ _ (entsL_at hk hx hj)
        rw [show off + (i * 34 + j) = off + i * 34 + j by omega] at this
        exact this)
      obtain ⟨e, dv⟩ := x
      obtain ⟨da, dn, dc, rfl, hdn, hdc⟩ := hxe.cap
      have hdl : dn = e.data.length := by
        obtain ⟨a', n', c', he, hl, _⟩ := hxe.rd _ (hS.sb)
        cases he
        rw [bys_len, Nat.mul_one] at hl; exact hl.symm
      subst hdl
      have Hrd := Lib.hid hxe.rd; have Hkey := Lib.hid (show e.key.length = 32 from hxe.key)
      clear hx hxe hk hrF
      have k1 : (entA e (.slice da e.data.length dc)).size = (entA Frm.zeroE (.slice none 0 0)).size := (entA_size _ _ Hkey.out).trans (entA_size _ _ rfl).symm
      have k2 : (Tryz.prog.info? 107).map (·.size) = some (entA e (.slice da e.data.length dc)).size := by rw [entA_size _ _ Hkey.out]; exact infoDo15
      go_wp2_with (first
        | ((with_reducible apply at_load); refine ⟨?_⟩; refine wl_loadN' (b := bk) (o := off + i * 34) (entL e (.slice da e.data.length dc)) (by rfl) HC.out Tryz.underlying107 rfl (by rw [entL_len _ _ Hkey.out]; exact infoDo15) ?_)
        | ((with_reducible apply at_alloc); refine ⟨?_⟩; refine wl_alloc (cs := entA Frm.zeroE (.slice none 0 0)) zDo15 hS rfl ?_; intro bX wX hX)
        | ((with_reducible apply at_store); refine ⟨?_⟩; refine wl_storeA (entA e (.slice da e.data.length dc)) hX (by rfl) (by rfl) k1 upD k2 (entA_one _ _ _ _) ?_; intro wS hSS)
        | ((with_reducible apply at_load); refine ⟨?_⟩; refine wl_load1 hSS (by rfl) pkD (by rw [entA_size _ _ Hkey.out]; decide) (entA_g33 _ _ Hkey.out) (by kernel_rfl) ?_))
      refine (cut_c da e.data.length dc 100 hdn hdc _).mono ?_
      rintro e1 w3 ⟨v, rfl, rfl, rfl⟩
      go_wp2_with fail
      refine (copy_c hSS (e.data.take 100) (rdsl_cut ((Ro.os Hrd.out) _ hSS)) (by rw [List.length_take]; omega)).mono ?_
      rintro e2 w4 ⟨v, rfl, hS4, ca, cn, cc, rfl⟩
      clear HC
      have k3 : putsAt (entA e (.slice da e.data.length dc)) 33 (Value.slice ca cn cc).cells.toList = entA e (.slice ca cn cc) := entA_put33 _ _ _ Hkey.out
      have k4 : 33 + (Value.slice ca cn cc).cells.size ≤ (entA e (.slice da e.data.length dc)).size := by rw [entA_size _ _ Hkey.out]; exact Nat.le_refl _
      have k5 : (Tryz.prog.info? 107).map (·.size) = some (entA e (.slice ca cn cc)).size := by rw [entA_size _ _ Hkey.out]; exact infoDo15
      have k6 : (entA e (.slice ca cn cc)).size ≤ 65536 := by rw [entA_size _ _ Hkey.out]; decide
      have hlen : (entsL fs).length ≤ 2147483648 := by
        rw [entsL_len Hfk.out]
        have := congrArg List.length Hfs.out
        simp only [List.length_map, List.length_take] at this
        have := Hn.out; have := Hin.out; omega
      go_wp2_with (first
        | ((with_reducible apply at_store); refine ⟨?_⟩; refine wl_store hS4 (by rfl) (by rfl) k3 upD k4 (by kernel_rfl) (by rfl) ?_; intro wT hT)
        | ((with_reducible apply at_load); refine ⟨?_⟩; refine wl_loadA hT (by rfl) pkD Tryz.underlying107 rfl k5 ?_)
        | ((with_reducible apply at_build1); refine ⟨?_⟩; refine wl_build1 (e := 107) (sz := 34) (by' := 64) (cs := entA e (.slice ca cn cc)) (by kernel_rfl) hT (by rfl) rfl (entA_size _ _ Hkey.out) (Nat.le_of_ble_eq_true (by rfl)) ?_; intro bN wN hN)
        | ((with_reducible apply at_append); refine ⟨?_⟩; refine wl_app 107 34 64 (by kernel_rfl) hN (by rfl) (by rfl) pkD pkD ((entA_size _ _ Hkey.out).trans (by decide)) (Nat.le_refl 1) (entA_one _ _ _ _) hlen k6 (by decide) rfl ?_; intro bA nA cA w6 hA))
      go_roundg (es.length - (i + 1))
      case measure => have := Hl1.out; omega
      case rel =>
        refine ⟨i + 1, fs ++ [(⟨e.tag, e.key, e.data.take 100⟩, .slice ca cn cc)], rfl, Nat.succ_le_of_lt Hl1.out, Nat.succ_le_of_lt Hl2.out, by first | rfl | go_num, ?_, ?_⟩
        · rw [← hcut.out, List.map_append]; rfl
        · rw [entsL_app, dataS_snoc]
          have h9 : Sat w0 w6 (osl 107 34 (.slice (some ⟨bA, 0, none⟩) nA cA) (entsL fs ++ entsL [(⟨e.tag, e.key, e.data.take 100⟩, .slice ca cn cc)]) :: bsl (.slice ca cn cc) (e.data.take 100) :: dataS fs :: F) := by
            have e : entsL [((⟨e.tag, e.key, e.data.take 100⟩ : Frm.Ent), Value.slice ca cn cc)] = (entA e (.slice ca cn cc)).toList := by
              unfold entsL entA; simp [entL]
            rw [e]
            exact Sat.sb hA
          have h10 : Sat w0 w6 (bsl (.slice ca cn cc) (e.data.take 100) :: dataS fs :: osl 107 34 (.slice (some ⟨bA, 0, none⟩) nA cA) (entsL fs ++ entsL [(⟨e.tag, e.key, e.data.take 100⟩, .slice ca cn cc)]) :: F) := h9.sb
          exact (Sat.star.2 h10).pick1
    · have hfin : fs.map (·.1) = Frm.few (es.map (·.1)) n 100 := by
        rw [Hfs.out]
        unfold Frm.few
        congr 1
        have := Hi.out; have := Hin.out
        by_cases hh : i = n
        · rw [hh]
        · rw [List.take_of_length_le (by rw [List.length_map]; omega), List.take_of_length_le (by rw [List.length_map]; omega)]
      by_cases hl1 : i < es.length
      · have c1 : (i : Int) < (es.length : Int) := by omega
        have c2 : ¬ (i : Int) < (n : Int) := by omega
        have Hfin := Lib.hid hfin
        clear hfin hlt hl1
        go_wp2
        go_ret
        exact ⟨_, rfl, fs, Hfin.out, hS⟩
      · have c1 : ¬ (i : Int) < (es.length : Int) := by omega
        have Hfin := Lib.hid hfin
        clear hfin hlt hl1
        go_wp2
        go_ret
        exact ⟨_, rfl, fs, Hfin.out, hS⟩
end
end Go.Proofs.YtmjldaedhmipkaaGreatDoor
