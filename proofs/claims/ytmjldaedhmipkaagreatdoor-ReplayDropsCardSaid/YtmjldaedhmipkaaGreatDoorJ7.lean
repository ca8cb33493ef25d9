import Derived.Test.YtmjldaedhmipkaaGreatDoorJ6
import Derived.Laws.Slices
import Derived.Laws.StructEq
set_option linter.unusedVariables false
namespace Go.Proofs.YtmjldaedhmipkaaGreatDoor
open Go Go.Sl Go.Med Go.MapKept Go.RowKit
section
variable {w0 w : World} {F R : List HProp} {v bv dv x lv : Value}
theorem wl_slice1 {L : List HProp} {b : Nat} {ops : Array Oper} {rest : List Oper} {a : Act} {Q : Exit → Act → World → Prop} {dst : Option Tmp} {t : TypeId} {pos : String} {after : Array Edge} {P : Program} {ty : TypeId} {x y : Operand} {vx vy : Value} (hx : a.eval x = vx) (hy : a.eval y = vy) (hr : ∀ w, (Instr.sliceAt ty vx (some vy) none none).run P w = .ok v w)
    (h : wpList P ops Q rest (a.put dst v) w) : wpList P ops Q (⟨dst, .slice ty x (some y) none none, t, pos, after, none⟩ :: rest) a w :=
  wpList_plain rfl fun _ hK => by
    unfold Oper.wp execOp
    simp only [hx, hy, Option.map_some, Option.map_none, Sem.run_bind, hr, Result.andThen_ok, Sem.run_pure]
    exact hK _ _ h
theorem at_slice1 {ops : Array Oper} {rest : List Oper} {a : Act} {Q : Exit → Act → World → Prop} {dst : Option Tmp} {t : TypeId} {pos : String} {after : Array Edge} {P : Program} {ty : TypeId} {x y : Operand} (h : Stop (wpList P ops Q (⟨dst, .slice ty x (some y) none none, t, pos, after, none⟩ :: rest) a w)) : wpList P ops Q (⟨dst, .slice ty x (some y) none none, t, pos, after, none⟩ :: rest) a w := h.out
set_option maxRecDepth 20000 in
set_option maxHeartbeats 16000000 in
theorem fscan_c (l : Bs) (hr : Ro w0 F (rdsl 1 bv (bys l))) (hcap : capOk bv) (hH : Ro w0 F Half) (hl : l.length ≤ 268435456) (h : Sat w0 w F) :
    Calls Tryz.prog 113 #[bv] w (Rtn fun v w' => ∃ (fs : List (Frm.Fnd × Value)) (ov : Value), fs.map (·.1) = (Frm.scan l).1 ∧ (∀ p ∈ fs, p.1.e.key.length = 32) ∧ v = .tuple #[ov, .int .i64 (Frm.scan l).2.1, errno (Frm.scan l).2.2] ∧
      Sat w0 w' (osl 203 36 ov (fndsL fs) :: dataF fs :: F)) := by
  obtain ⟨ba, bn, bc, rfl, hbn, hbc⟩ := hcap
  have hln : bn = l.length := by
    obtain ⟨_, _, _, he, hl', _⟩ := hr w h
    cases he
    rw [bys_len, Nat.mul_one] at hl'; exact hl'.symm
  subst hln
  have hcv := Lib.run_convert_bytes_const (P := Tryz.prog) w 42 5 #[.int .u8 72, .int .u8 79, .int .u8 65, .int .u8 82, .int .u8 68, .int .u8 83, .int .u8 69, .int .u8 71] 8 8 Tryz.underlying42 Tryz.underlying5
  have hB : Sat w0 (w.alloc (.cells #[.int .u8 72, .int .u8 79, .int .u8 65, .int .u8 82, .int .u8 68, .int .u8 83, .int .u8 69, .int .u8 71] 5 (8, 9))) (mrow w.heap.size Frm.magicB :: F) := h.alloc _
  simp only [List.size_toArray, List.length_cons, List.length_nil, Nat.zero_add, Nat.reduceAdd] at hcv
  have hmr : rdsl 1 (.slice (some ⟨w.heap.size, 0, none⟩) 8 8) (bys Frm.magicB) (w.alloc (.cells #[.int .u8 72, .int .u8 79, .int .u8 65, .int .u8 82, .int .u8 68, .int .u8 83, .int .u8 69, .int .u8 71] 5 (8, 9))) := by
    refine ⟨_, 8, 8, rfl, rfl, fun j x hj => ⟨_, rfl, ?_⟩⟩
    rw [add_zero_lit]
    have hjl : j < Frm.magicB.length := by
      have := (List.getElem?_eq_some_iff.1 hj).1
      rw [bys_len] at this; exact this
    have hx := (mrow_set (l := Frm.magicB) hB hjl 0).1
    unfold bys at hj
    rw [List.getElem?_map, List.getElem?_eq_getElem hjl] at hj
    cases hj
    exact hx
  have hpre := hasPrefix_c l Frm.magicB ba l.length bc hbn hbc (hr _ hB.drop) _ 8 8 hmr
  have Hr := Lib.hid hr; have HH := Lib.hid hH; have Hl := Lib.hid hl; have Hbn := Lib.hid (show l.length ≤ bc ∧ bc ≤ 9223372036854775807 from ⟨hbn, hbc⟩)
  have hF := Lib.hid hB.drop
  clear hr hH hl hbn hbc hB hmr
  cases hm : decide (l.take Frm.magicB.length = Frm.magicB)
  · have Hf := Lib.hid (show Frm.scan l = ([], 0, 4) by
      unfold Frm.scan
      have : ¬ l.take 8 = Frm.magicB := of_decide_eq_false hm
      rw [if_neg this])
    rw [hm] at hpre
    clear hm
    go_enter Tryz.func113, Tryz.ntmps113
    go_wp2_with fail
    refine hpre.mono ?_
    rintro e w1 ⟨v, rfl, rfl, rfl⟩
    go_wp2
    go_ret3
    refine ⟨_, rfl, [], _, by rw [Hf.out]; rfl, by simp, ?_, Sat.osl_nil.2 (Sat.emp.2 hF.out)⟩
    rw [Hf.out]; rfl
  · have hlm : l.take 8 = Frm.magicB := of_decide_eq_true hm
    have hl8 : 8 ≤ l.length := by
      have := congrArg List.length hlm
      rw [List.length_take] at this
      have h8 : Frm.magicB.length = 8 := rfl
      omega
    have Hf := Lib.hid (show Frm.scan l = Frm.scanL l.length (l.drop 8) 8 by
      unfold Frm.scan
      rw [if_pos hlm])
    have H8 := Lib.hid hl8
    rw [hm] at hpre
    obtain ⟨bk, off, rfl⟩ : ∃ bk off, ba = some ⟨bk, off, none⟩ := by
      obtain ⟨b', o', hb, _⟩ := rdsl_cells (i := 0) (x := .int .u8 (l[0]'(by omega)).toNat) (Hr.out _ hF.out) (by unfold bys; rw [List.getElem?_map, List.getElem?_eq_getElem (by omega)]; rfl)
      exact ⟨_, _, hb⟩
    clear hm hlm hl8
    go_enter Tryz.func113, Tryz.ntmps113
    go_wp2_with fail
    refine hpre.mono ?_
    rintro e w1 ⟨v, rfl, rfl, rfl⟩
    go_wp2_with fail
    go_loopg [6, 5] (l.length - 8) (fun g aq ov wr => ∃ (at_ : Nat) (fs : List (Frm.Fnd × Value)), g = l.length - at_ ∧ 8 ≤ at_ ∧ at_ ≤ l.length ∧ 9 * fs.length ≤ at_ ∧ aq = .int .i64 at_ ∧ (∀ p ∈ fs, p.1.e.key.length = 32) ∧
      (∃ k, l.length - at_ ≤ k ∧ Frm.scan l = (fs.map (·.1) ++ (Frm.scanL k (l.drop at_) at_).1, (Frm.scanL k (l.drop at_) at_).2)) ∧
      Sat w0 wr (osl 203 36 ov (fndsL fs) :: dataF fs :: F))
    case atStart =>
      exact ⟨8, [], rfl, Nat.le_refl _, H8.out, Nat.zero_le _, rfl, by simp, ⟨l.length, by omega, by rw [Hf.out]; rfl⟩, Sat.osl_nil.2 (Sat.emp.2 hF.out)⟩
    case round =>
      obtain ⟨at_, fs, rfl, h8, hat, hfl, rfl, hfk, ⟨k, hk, hsc⟩, hS⟩ := hrel
      have Hk := Lib.hid hk; have Hsc := Lib.hid hsc; have Hfk := Lib.hid hfk; have Hat := Lib.hid (show at_ ≤ l.length ∧ 8 ≤ at_ ∧ 9 * fs.length ≤ at_ from ⟨hat, h8, hfl⟩)
      clear hk hsc hfk h8 hfl
      by_cases hlt : at_ < l.length
      · have c1 : (at_ : Int) < (l.length : Int) := by omega
        have c2 : (at_ : Int) ≤ (bc : Int) := by have := Hbn.out; omega
        have c3 : (l.length : Int) ≤ (bc : Int) := by have := Hbn.out; omega
        have c4 : (at_ : Int) ≤ (l.length : Int) := by omega
        have c5 : (0 : Int) ≤ (at_ : Int) := by omega
        have c6 : ¬ bc = at_ := by have := Hbn.out; omega
        have hsl : ∀ w, (Instr.sliceAt 42 (.slice (some ⟨bk, off, none⟩) l.length bc) (some (.int .i64 at_)) none none).run Tryz.prog w = .ok (.slice (some ⟨bk, off + at_, none⟩) (l.length - at_) (bc - at_)) w := by
          intro w
          go_simp
        have hrd := Lib.hid (fun w hw => rdsl_sub (Hr.out w hw) at_ l.length (bc - at_) hat (Nat.le_refl _))
        rw [List.take_length] at hrd
        have Hlt := Lib.hid hlt
        clear hlt hat
        go_wp2_with ((with_reducible apply at_slice1); refine ⟨?_⟩; refine wl_slice1 (by rfl) (by rfl) hsl ?_)
        refine (fread_c (l.drop at_) (Ro.os hrd.out) ⟨_, _, _, rfl, by have := Hbn.out; omega, by have := Hbn.out; omega⟩ (Ro.os HH.out) (by rw [List.length_drop]; have := Hl.out; omega) hS).mono ?_
        rintro ee w2 ⟨v, rfl, da, dc, rfl, hS2⟩
        have Hrk := Lib.hid (Frm.read_key (l.drop at_))
        obtain ⟨k, rfl⟩ : ∃ k', k = k' + 1 := ⟨k - 1, by have := Hk.out; have := Hlt.out; omega⟩
        have Hne := Lib.hid (show l.drop at_ ≠ [] by
          intro h0
          have := congrArg List.length h0
          rw [List.length_drop] at this
          have := Hlt.out
          simp only [List.length_nil] at *
          omega)
        by_cases hz : (Frm.read (l.drop at_)).2.2 = 0
        · have Hok := Lib.hid (Frm.read_ok hz)
          have Hsc2 := Lib.hid (show Frm.scan l = (fs.map (·.1) ++ (⟨(Frm.read (l.drop at_)).1, at_, (Frm.read (l.drop at_)).2.1⟩ :: (Frm.scanL k ((l.drop at_).drop (Frm.read (l.drop at_)).2.1) (at_ + (Frm.read (l.drop at_)).2.1)).1), (Frm.scanL k ((l.drop at_).drop (Frm.read (l.drop at_)).2.1) (at_ + (Frm.read (l.drop at_)).2.1)).2) by
            rw [Hsc.out]
            simp only [Frm.scanL]
            rw [if_neg Hne.out, if_neg (fun h => h hz)])
          have hN := Hok.out.2.1
          rw [List.length_drop] at hN
          rw [List.drop_drop] at Hsc2
          generalize Frm.read (l.drop at_) = r at *
          obtain ⟨e, n, er⟩ := r
          obtain rfl : er = 0 := hz
          have Hn := Lib.hid (show 9 ≤ n ∧ n ≤ l.length - at_ from ⟨Hok.out.1, hN⟩)
          have Hkey := Lib.hid (show e.key.length = 32 from Hrk.out)
          clear hN Hsc Hrk Hok
          try clear hz
          simp only at Hsc2 hS2
          have hw : IntKind.i64.wrap ((at_ : Int) + (n : Int)) = ((at_ + n : Nat) : Int) := by
            rw [IntWalk.i64_in _ (by have := Hn.out; have := Hl.out; omega)]; omega
          have hlen : (fndsL fs).length ≤ 2147483648 := by
            rw [fndsL_len Hfk.out]
            have := Hat.out; have := Hl.out; omega
          go_wp2_with (first
            | ((with_reducible apply at_allocE); refine ⟨?_⟩; refine wl_allocE (by assumption) ?_; intro bE wE hE) | ((with_reducible apply at_storeE); refine ⟨?_⟩; first | (refine wl_storeE (by assumption) (by rfl) (by rfl) (by first | rfl | assumption | exact Hid.out (by assumption)) upD (by first | assumption | exact entA_size _ _ rfl | exact entA_size _ _ (by assumption) | exact entA_size _ _ (Hid.out (by assumption))) ?_; intro wS hS) | (refine wl_storeE (e := Frm.zeroE) (da := none) (dn := 0) (dc := 0) (by assumption) (by rfl) (by rfl) rfl upD (by first | assumption | exact entA_size _ _ rfl | exact entA_size _ _ (by assumption) | exact entA_size _ _ (Hid.out (by assumption))) ?_; intro wS hS)) | ((with_reducible apply at_loadE); refine ⟨?_⟩; refine wl_loadE (by assumption) (by rfl) pkD (by first | rfl | assumption | exact Hid.out (by assumption)) ?_)
            | ((with_reducible apply at_build3); refine ⟨?_⟩; refine wl_build3 (by rfl) (by rfl) (by rfl) (fun w => run_buildFnd e Hkey.out da _ dc at_ n w) ?_)
            | ((with_reducible apply at_build1); refine ⟨?_⟩; refine wl_build1 (e := 203) (sz := 36) (by' := 80) (by kernel_rfl) (by assumption) evD (cs := fndA ⟨e, at_, n⟩ (.slice da e.data.length dc)) rfl (fndA_size _ _ Hkey.out) (Nat.le_of_ble_eq_true (by rfl)) ?_; intro bN wN hN)
            | ((with_reducible apply at_append); refine ⟨?_⟩; refine wl_app 203 36 80 (by kernel_rfl) (by assumption) (by rfl) (by rfl) pkD pkD ((fndA_size _ _ Hkey.out).trans (by decide)) (Nat.le_refl 1) (fndA_ones _ _ _ _) hlen (by rw [fndA_size _ _ Hkey.out]; decide) (by decide) rfl ?_; intro bA nA cA wA hA))
          go_roundg (l.length - (at_ + n))
          case measure => have := Hn.out; omega
          case rel =>
            refine ⟨at_ + n, fs ++ [(⟨e, at_, n⟩, .slice da e.data.length dc)], rfl, by have := Hat.out; omega, by have := Hn.out; have := Hat.out; omega, by rw [List.length_append, List.length_singleton]; have := Hat.out; have := Hn.out; omega, by first | rfl | go_num, ?_, ⟨k, by have := Hn.out; have := Hk.out; omega, ?_⟩, ?_⟩
            · intro p hp
              rw [List.mem_append] at hp
              rcases hp with hp | hp
              · exact Hfk.out p hp
              · rw [List.mem_singleton] at hp; subst hp; exact Hkey.out
            · rw [Hsc2.out, List.map_append, List.append_assoc]; rfl
            · rw [fndsL_app, dataF_snoc]
              have e9 : fndsL [((⟨e, at_, n⟩ : Frm.Fnd), Value.slice da e.data.length dc)] = (fndA ⟨e, at_, n⟩ (.slice da e.data.length dc)).toList := by
                unfold fndsL fndA; simp
              rw [e9]
              have h10 : Sat w0 wA (bsl (.slice da e.data.length dc) e.data :: dataF fs :: osl 203 36 (.slice (some ⟨bA, 0, none⟩) nA cA) (fndsL fs ++ (fndA ⟨e, at_, n⟩ (.slice da e.data.length dc)).toList) :: F) := hA.sb
              exact (Sat.star.2 h10).pick1
        · have hfin := Lib.hid (show Frm.scan l = (fs.map (·.1), at_, (Frm.read (l.drop at_)).2.2) by
            rw [Hsc.out]
            simp only [Frm.scanL]
            rw [if_neg Hne.out, if_pos hz, List.append_nil])
          have c9 : ((Frm.read (l.drop at_)).2.2 == 0) = false := by rw [beq_eq_false_iff_ne]; exact hz
          clear hz Hsc
          go_wp2_with (first | ((with_reducible apply at_allocE); refine ⟨?_⟩; refine wl_allocE (by assumption) ?_; intro bE wE hE) | ((with_reducible apply at_storeE); refine ⟨?_⟩; first | (refine wl_storeE (by assumption) (by rfl) (by rfl) (by first | rfl | assumption | exact Hid.out (by assumption)) upD (by first | assumption | exact entA_size _ _ rfl | exact entA_size _ _ (by assumption) | exact entA_size _ _ (Hid.out (by assumption))) ?_; intro wS hS) | (refine wl_storeE (e := Frm.zeroE) (da := none) (dn := 0) (dc := 0) (by assumption) (by rfl) (by rfl) rfl upD (by first | assumption | exact entA_size _ _ rfl | exact entA_size _ _ (by assumption) | exact entA_size _ _ (Hid.out (by assumption))) ?_; intro wS hS)) | ((with_reducible apply at_loadE); refine ⟨?_⟩; refine wl_loadE (by assumption) (by rfl) pkD (by first | rfl | assumption | exact Hid.out (by assumption)) ?_))
          go_ret3
          refine ⟨_, rfl, fs, u5, by rw [hfin.out], Hfk.out, ?_, Sat.sb (by assumption)⟩
          rw [hfin.out]; rfl
      · have c1 : ¬ (at_ : Int) < (l.length : Int) := by omega
        have hfin := Lib.hid (show Frm.scan l = (fs.map (·.1), at_, 0) by
          rw [Hsc.out, List.drop_of_length_le (by omega)]
          cases k <;> simp [Frm.scanL])
        clear hlt hat
        go_wp2
        go_ret3
        refine ⟨_, rfl, fs, by rw [hfin.out], fun a b hm => Hfk.out _ hm, u5, ?_, hS⟩
        rw [hfin.out]; rfl
end
def fltA (f : Rep.Flt) : Array Value := (.int .i64 f.what :: .int .i64 f.seg :: .int .i64 f.at_ :: (bys Frm.zero32 ++ [.string ByteArray.empty])).toArray
theorem zFlt : zeroB Tryz.prog 75 = some (.agg (fltA Rep.Flt.zero)) := by kernel_rfl
section
variable {w0 w : World} {F : List HProp} {ov : Value}
theorem tag_cell {fs : List (Frm.Fnd × Value)} (hk : ∀ p ∈ fs, p.1.e.key.length = 32) (h : rdsl 36 ov (fndsL fs) w) {i : Nat} {p : Frm.Fnd × Value} (hi : fs[i]? = some p) :
    ∃ bk off c, ov = .slice (some ⟨bk, off, none⟩) fs.length c ∧ w.cell? ⟨bk, off + i * 36, none⟩ = some (.int .i64 p.1.e.tag) := by
  obtain ⟨bk, off, c, e, hc⟩ := osl_row (f := fun p : Frm.Fnd × Value => fndL p.1 p.2) (k := 36) (fun p hp => fndL_len p.1 p.2 (hk p hp)) h hi (by decide)
  exact ⟨bk, off, c, e, hc 0 _ rfl⟩
set_option maxRecDepth 20000 in
set_option maxHeartbeats 2000000 in
theorem ended_c (fs : List (Frm.Fnd × Value)) (hk : ∀ p ∈ fs, p.1.e.key.length = 32) (hn : fs.length ≤ 1073741824) (h : rdsl 36 ov (fndsL fs) w) :
    Calls Tryz.prog 150 #[ov] w (Rtn fun v w' => v = .bool (Rep.endedF (fs.map (·.1))) ∧ w = w') := by
  cases hfs : fs.getLast? with
  | none =>
    obtain rfl : fs = [] := List.getLast?_eq_none_iff.1 hfs
    obtain ⟨a, n, c, rfl, hl, _⟩ := h
    obtain rfl : n = 0 := by have := hl; simp [fndsL] at this; omega
    go_enter Tryz.func150, Tryz.ntmps150
    go_wp2_with fail
    go_ret
    exact ⟨_, rfl, rfl, rfl⟩
  | some p =>
    have hne : fs ≠ [] := by intro e; rw [e] at hfs; cases hfs
    have hlen : 0 < fs.length := List.length_pos_iff.2 hne
    have hi : fs[fs.length - 1]? = some p := by rw [← List.getLast?_eq_getElem?]; exact hfs
    obtain ⟨bk, off, c, rfl, hc⟩ := tag_cell hk h hi
    have He := Lib.hid (show Rep.endedF (fs.map (·.1)) = (p.1.e.tag == 2) by unfold Rep.endedF; rw [List.getLast?_map, hfs]; rfl)
    rw [He.out]
    have c1 : (fs.length : Int) > 0 := by omega
    have c2 : (0 : Int) < (fs.length : Int) := by omega
    have w1 : IntKind.i64.wrap ((fs.length : Int) - 1) = ((fs.length - 1 : Nat) : Int) := by rw [IntWalk.i64_in _ (by omega)]; omega
    have c3 : (0 : Int) ≤ ((fs.length - 1 : Nat) : Int) := by omega
    have c4 : ((fs.length - 1 : Nat) : Int) < (fs.length : Int) := by omega
    clear hfs hne hlen hi h hk hn
    generalize fs.length - 1 = j at *
    go_enter Tryz.func150, Tryz.ntmps150
    go_wp2_with fail
    go_ret
    exact ⟨_, rfl, rfl, rfl⟩
end
section
variable {w0 w : World} {F R : List HProp} {p B B' : Nat} {m : Frm.Bs → Option Rep.Abt}
theorem TabMA.mono (hB : B ≤ B') (h : Sat w0 w (TabMA p m B :: R)) : Sat w0 w (TabMA p m B' :: R) := by
  obtain ⟨t, sv, ⟨ok, is, hb⟩, hS⟩ := TabMA.open h
  exact TabMA.shut ok is (Nat.le_trans hb hB) hS
variable {da : Option Addr} {dn dc : Nat}
theorem fnd_cell (f : Frm.Fnd) (dv : Value) (hk : f.e.key.length = 32) : (fndA f dv)[34]? = some (.int .i64 f.at_) ∧ (fndA f dv)[35]? = some (.int .i64 f.size) ∧ ∀ j v, (bys f.e.key)[j]? = some v → (fndA f dv)[1 + j]? = some v := by
  have hl : (entL f.e dv).length = 34 := entL_len _ _ hk
  refine ⟨?_, ?_, fun j v hj => ?_⟩
  · show (entL f.e dv ++ _).toArray[34]? = _
    rw [List.getElem?_toArray, List.getElem?_append_right (by omega), hl]; rfl
  · show (entL f.e dv ++ _).toArray[35]? = _
    rw [List.getElem?_toArray, List.getElem?_append_right (by omega), hl]; rfl
  · have hj1 := (List.getElem?_eq_some_iff.1 hj).1
    have hj2 := hj1
    rw [bys_len, hk] at hj2
    show (entL f.e dv ++ _).toArray[1 + j]? = _
    rw [List.getElem?_toArray, List.getElem?_append_left (by omega), Nat.add_comm]
    show (bys f.e.key ++ [dv])[j]? = _
    rw [List.getElem?_append_left hj1]; exact hj
set_option maxRecDepth 20000 in
set_option maxHeartbeats 8000000 in
theorem take_c (s : Int) (f : Frm.Fnd) (hk : f.e.key.length = 32) (hB : B ≤ 13000000) (h : Sat w0 w (TabMA p m B :: F)) :
    Calls Tryz.prog 115 #[.agg #[ptr p], .int .i64 s, .agg (fndA f (.slice da dn dc))] w (Rtn fun _ w' => Sat w0 w' (TabMA p (Rep.takeOne m (s, f)) (B + 1) :: F)) := by
  have Hk := Lib.hid hk; have HB := Lib.hid hB
  have e0 : (fndA f (.slice da dn dc))[0]? = some (.int .i64 f.e.tag) := rfl
  obtain ⟨e34, e35, ekey⟩ := fnd_cell f (.slice da dn dc) hk
  clear hk hB
  go_enter Tryz.func115, Tryz.ntmps115
  go_wp2_with (with_reducible apply at_box)
  refine ⟨?_⟩
  refine wl_box h evD evD ?_
  intro b3 w3 h3
  go_wp2_with (with_reducible apply at_box)
  refine ⟨?_⟩
  refine wl_box h3 evD evD ?_
  intro b5 w5 h5
  clear h h3
  have h6 : Sat w0 w5 (pt b5 (.cells (fndA f (.slice da dn dc)) 203 (0,0)) :: pt b3 (.cells #[ptr p] 197 (0,0)) :: TabMA p m B :: F) := h5
  clear h5
  have f0 : w5.cell? ⟨b5, 0, none⟩ = some (.int .i64 f.e.tag) := h6.cellP pick0 0 e0
  by_cases h2 : f.e.tag = 2
  · have hb : (f.e.tag == 2) = true := beq_iff_eq.2 h2
    have Hone := Lib.hid (show Rep.takeOne m (s, f) = m from if_pos h2)
    have h7 := Lib.hid (TabMA.mono (Nat.le_succ B) (h6.sb : Sat w0 w5 (TabMA p m B :: F)))
    clear h2 h6
    go_wp2_with fail
    (try simp only [Exit.inBlock, Exit.then]); refine bodyPost_ret (results_none rfl _ _ _) rfl ?_
    exact ⟨_, rfl, by rw [Hone.out]; exact h7.out⟩
  have hb : (f.e.tag == 2) = false := by rw [beq_eq_false_iff_ne]; exact h2
  have Hone := Lib.hid (show Rep.takeOne m (s, f) = Tab.put m f.e.key ⟨f.e.tag, ⟨s, f.at_, f.size⟩, Rep.first1 m (s, f)⟩ from if_neg h2)
  clear h2
  have hkr : w5.rangeAt b5 1 (bys f.e.key) := fun j v hj => h6.cellP pick0 (1 + j) (ekey j v hj)
  go_wp2_with (first
    | ((with_reducible apply at_load); refine ⟨?_⟩; refine wl_load1 h6 (by rfl) pkD (Nat.le_of_ble_eq_true (by rfl)) evD (by kernel_rfl) ?_)
    | ((with_reducible apply at_load); refine ⟨?_⟩; refine wl_loadW (b := b5) (o := 1) (bys f.e.key) (by rfl) hkr Tryz.underlying41 rfl (by rw [bys_len, Hk.out]; kernel_rfl) ?_))
  refine (getA_c (by have := HB.out; omega) Hk.out (h6.sb : Sat w0 w5 (TabMA p m B :: pt b5 (.cells (fndA f (.slice da dn dc)) 203 (0,0)) :: pt b3 (.cells #[ptr p] 197 (0,0)) :: F))).mono ?_
  rintro ee w7 ⟨v, rfl, hv, h7⟩
  clear h6 hkr f0
  cases hm : m f.e.key with
  | some a =>
    rw [hm, Option.getD_some, Option.isSome_some] at hv
    subst hv
    have hf0 : Rep.first0 m (s, f) = a.first := by unfold Rep.first0; show (match m f.e.key with | some a => a.first | none => -1) = a.first; rw [hm]
    obtain ⟨at0, ⟨ap1, ap2, ap3⟩, af⟩ := a
    have h7' := h7
    clear h7 hm
    have h7 := h7'
    clear h7'
    go_wp2_with (with_reducible apply at_alloc)
    refine ⟨?_⟩
    refine wl_alloc zValA h7 rfl ?_
    intro b6 w8 h8
    go_wp2_with (first | ((with_reducible apply at_store); refine ⟨?_⟩; refine wl_storeA (aenc ⟨at0, ⟨ap1, ap2, ap3⟩, af⟩).toArray h8 (by rfl) (by rfl) (by rfl) upd0 (by kernel_rfl) (by rfl) ?_; intro w9 h9) | (with_reducible apply at_load))
    refine ⟨?_⟩
    have f1 : w9.cell? ⟨b5, 0, none⟩ = some (.int .i64 f.e.tag) := h9.cellP (pick_there (pick_there pick0)) 0 e0
    have f2 : w9.cell? ⟨b6, 4, none⟩ = some (.int .i64 af) := h9.cellP pick0 4 rfl
    clear h7 h8
    by_cases hz : f.e.tag = 0
    · have hb0 : (f.e.tag == 0) = true := beq_iff_eq.2 hz
      by_cases hf : af < 0
      · have hE := Lib.hid (show Rep.first1 m (s, f) = s by unfold Rep.first1; rw [hf0]; exact if_pos ⟨hz, hf⟩)
        clear hz hf0
        go_wp2_with ((with_reducible apply at_store); refine ⟨?_⟩; refine wl_store (cs' := #[.int .i64 at0, .int .i64 ap1, .int .i64 ap2, .int .i64 ap3, .int .i64 s]) h9 (by rfl) evD (by rfl) upd0 (by show 4 + 1 ≤ 5; decide) (by kernel_rfl) (by rfl) ?_; intro wA hA)
        clear h9 f1 f2
        have hS9 : Sat w0 wA.drew (pt b6 (.cells #[.int .i64 at0, .int .i64 ap1, .int .i64 ap2, .int .i64 ap3, .int .i64 s] 195 (0,0)) :: TabMA p m B :: pt b5 (.cells (fndA f (.slice da dn dc)) 203 (0,0)) :: pt b3 (.cells #[ptr p] 197 (0,0)) :: F) := (hA).drew
        clear hA
        have hG := And.intro (hS9.cellP (pick_there (pick_there pick0)) 0 e0) (And.intro (hS9.cellP (pick_there (pick_there pick0)) 34 e34) (hS9.cellP (pick_there (pick_there pick0)) 35 e35))
        refine wpL_begin [11, 12] (fun w' => w'.cell? ⟨b5, 0, none⟩ = some (.int .i64 f.e.tag) ∧ w'.cell? ⟨b5, 34, none⟩ = some (.int .i64 f.at_) ∧ w'.cell? ⟨b5, 35, none⟩ = some (.int .i64 f.size)) (by kernel_rfl) ?_
        refine rp 0 (hy := (yl_field evD rnD)) (h := ?_)
        refine rp 1 (hy := (yl_field evD rnD)) (h := ?_)
        refine rt 2 (h := ?_)
        refine rp 3 (hy := (yl_move evD)) (h := ?_)
        refine rp 4 (hy := (yl_field evD rnD)) (h := ?_)
        refine rt 5 (h := ?_)
        refine rp 6 (hy := (yl_field evD rnD)) (h := ?_)
        refine rt 7 (h := ?_)
        refine rp 8 (hy := (by (refine Or.inl ⟨by rfl, ?_⟩; ((intro wq; go_simp); first | done | (with_reducible rfl))))) (h := ?_)
        refine rp 9 (hy := (yl_field evD rnD)) (h := ?_)
        refine rg_eff 10 evD (by kernel_rfl) (fun K hK => ?_)
        refine eff_store (cs' := #[.int .i64 f.e.tag, .int .i64 ap1, .int .i64 ap2, .int .i64 ap3, .int .i64 s]) hS9 evD evD (by rfl) upd0 (by show 0 + 1 ≤ 5; decide) (by kernel_rfl) (by rfl) ?_
        intro w10 hS10
        have hG2 := And.intro (hS10.cellP (pick_there (pick_there pick0)) 0 e0) (And.intro (hS10.cellP (pick_there (pick_there pick0)) 34 e34) (hS10.cellP (pick_there (pick_there pick0)) 35 e35))
        refine hK _ _ (.inr (.inl hG2)) ?_
        clear hK hS9 hG hG2
        refine rp 11 (hy := (yl_field evD rnD)) (h := ?_)
        refine rg_eff 12 evD (by kernel_rfl) (fun K hK => ?_)
        refine eff_store (cs' := #[.int .i64 f.e.tag, .int .i64 s, .int .i64 f.at_, .int .i64 f.size, .int .i64 s]) hS10 evD evD (by rfl) upd0 (by show 1 + 3 ≤ 5; decide) (by kernel_rfl) (by rfl) ?_
        intro w12 hS12
        refine hK _ _ (.inl rfl) ?_
        clear hK hS10
        refine wpL_done (by kernel_rfl) ?_
        have hS13 : Sat w0 w12 (pt b6 (.cells (aenc ⟨f.e.tag, ⟨s, f.at_, f.size⟩, Rep.first1 m (s, f)⟩).toArray 195 (0,0)) :: TabMA p m B :: pt b5 (.cells (fndA f (.slice da dn dc)) 203 (0,0)) :: pt b3 (.cells #[ptr p] 197 (0,0)) :: F) := by
          have := hS12
          rw [hE.out]
          exact this
        clear hS12
        have hkr : w12.rangeAt b5 1 (bys f.e.key) := fun j v hj => hS13.cellP (pick_there (pick_there pick0)) (1 + j) (ekey j v hj)
        go_wp2_with (first
          | ((with_reducible apply at_load); refine ⟨?_⟩; refine wl_loadW (b := b5) (o := 1) (bys f.e.key) (by rfl) hkr Tryz.underlying41 rfl (by rw [bys_len, Hk.out]; kernel_rfl) ?_)
          | ((with_reducible apply at_load); refine ⟨?_⟩; refine wl_loadA hS13 (by rfl) (pick0 (A := pt b6 (.cells (aenc ⟨f.e.tag, ⟨s, f.at_, f.size⟩, Rep.first1 m (s, f)⟩).toArray 195 (0,0)))) Tryz.underlying195 rfl (by kernel_rfl) ?_)
          | ((with_reducible apply at_load); refine ⟨?_⟩; refine wl_load1 hS13 (by rfl) pkD (Nat.le_of_ble_eq_true (by rfl)) evD (by kernel_rfl) ?_))
        refine (putA_c (p := p) (by have := HB.out; omega) Hk.out ⟨f.e.tag, ⟨s, f.at_, f.size⟩, Rep.first1 m (s, f)⟩ (hS13.sb : Sat w0 w12 (TabMA p m B :: F))).mono ?_
        rintro ee w14 ⟨v, rfl, hS14⟩
        go_wp2_with fail
        go_end0
        exact ⟨_, rfl, by rw [Hone.out]; exact hS14⟩
      · have hE := Lib.hid (show Rep.first1 m (s, f) = af by unfold Rep.first1; rw [hf0]; exact if_neg (fun h => hf h.2))
        clear hz hf0
        go_wp2_with fail
        clear f1 f2
        have hS9 : Sat w0 w9.drew (pt b6 (.cells #[.int .i64 at0, .int .i64 ap1, .int .i64 ap2, .int .i64 ap3, .int .i64 af] 195 (0,0)) :: TabMA p m B :: pt b5 (.cells (fndA f (.slice da dn dc)) 203 (0,0)) :: pt b3 (.cells #[ptr p] 197 (0,0)) :: F) := (h9).drew
        clear h9
        have hG := And.intro (hS9.cellP (pick_there (pick_there pick0)) 0 e0) (And.intro (hS9.cellP (pick_there (pick_there pick0)) 34 e34) (hS9.cellP (pick_there (pick_there pick0)) 35 e35))
        refine wpL_begin [11, 12] (fun w' => w'.cell? ⟨b5, 0, none⟩ = some (.int .i64 f.e.tag) ∧ w'.cell? ⟨b5, 34, none⟩ = some (.int .i64 f.at_) ∧ w'.cell? ⟨b5, 35, none⟩ = some (.int .i64 f.size)) (by kernel_rfl) ?_
        refine rp 0 (hy := (yl_field evD rnD)) (h := ?_)
        refine rp 1 (hy := (yl_field evD rnD)) (h := ?_)
        refine rt 2 (h := ?_)
        refine rp 3 (hy := (yl_move evD)) (h := ?_)
        refine rp 4 (hy := (yl_field evD rnD)) (h := ?_)
        refine rt 5 (h := ?_)
        refine rp 6 (hy := (yl_field evD rnD)) (h := ?_)
        refine rt 7 (h := ?_)
        refine rp 8 (hy := (by (refine Or.inl ⟨by rfl, ?_⟩; ((intro wq; go_simp); first | done | (with_reducible rfl))))) (h := ?_)
        refine rp 9 (hy := (yl_field evD rnD)) (h := ?_)
        refine rg_eff 10 evD (by kernel_rfl) (fun K hK => ?_)
        refine eff_store (cs' := #[.int .i64 f.e.tag, .int .i64 ap1, .int .i64 ap2, .int .i64 ap3, .int .i64 af]) hS9 evD evD (by rfl) upd0 (by show 0 + 1 ≤ 5; decide) (by kernel_rfl) (by rfl) ?_
        intro w10 hS10
        have hG2 := And.intro (hS10.cellP (pick_there (pick_there pick0)) 0 e0) (And.intro (hS10.cellP (pick_there (pick_there pick0)) 34 e34) (hS10.cellP (pick_there (pick_there pick0)) 35 e35))
        refine hK _ _ (.inr (.inl hG2)) ?_
        clear hK hS9 hG hG2
        refine rp 11 (hy := (yl_field evD rnD)) (h := ?_)
        refine rg_eff 12 evD (by kernel_rfl) (fun K hK => ?_)
        refine eff_store (cs' := #[.int .i64 f.e.tag, .int .i64 s, .int .i64 f.at_, .int .i64 f.size, .int .i64 af]) hS10 evD evD (by rfl) upd0 (by show 1 + 3 ≤ 5; decide) (by kernel_rfl) (by rfl) ?_
        intro w12 hS12
        refine hK _ _ (.inl rfl) ?_
        clear hK hS10
        refine wpL_done (by kernel_rfl) ?_
        have hS13 : Sat w0 w12 (pt b6 (.cells (aenc ⟨f.e.tag, ⟨s, f.at_, f.size⟩, Rep.first1 m (s, f)⟩).toArray 195 (0,0)) :: TabMA p m B :: pt b5 (.cells (fndA f (.slice da dn dc)) 203 (0,0)) :: pt b3 (.cells #[ptr p] 197 (0,0)) :: F) := by
          have := hS12
          rw [hE.out]
          exact this
        clear hS12
        have hkr : w12.rangeAt b5 1 (bys f.e.key) := fun j v hj => hS13.cellP (pick_there (pick_there pick0)) (1 + j) (ekey j v hj)
        go_wp2_with (first
          | ((with_reducible apply at_load); refine ⟨?_⟩; refine wl_loadW (b := b5) (o := 1) (bys f.e.key) (by rfl) hkr Tryz.underlying41 rfl (by rw [bys_len, Hk.out]; kernel_rfl) ?_)
          | ((with_reducible apply at_load); refine ⟨?_⟩; refine wl_loadA hS13 (by rfl) (pick0 (A := pt b6 (.cells (aenc ⟨f.e.tag, ⟨s, f.at_, f.size⟩, Rep.first1 m (s, f)⟩).toArray 195 (0,0)))) Tryz.underlying195 rfl (by kernel_rfl) ?_)
          | ((with_reducible apply at_load); refine ⟨?_⟩; refine wl_load1 hS13 (by rfl) pkD (Nat.le_of_ble_eq_true (by rfl)) evD (by kernel_rfl) ?_))
        refine (putA_c (p := p) (by have := HB.out; omega) Hk.out ⟨f.e.tag, ⟨s, f.at_, f.size⟩, Rep.first1 m (s, f)⟩ (hS13.sb : Sat w0 w12 (TabMA p m B :: F))).mono ?_
        rintro ee w14 ⟨v, rfl, hS14⟩
        go_wp2_with fail
        go_end0
        exact ⟨_, rfl, by rw [Hone.out]; exact hS14⟩
    · have hb0 : (f.e.tag == 0) = false := by rw [beq_eq_false_iff_ne]; exact hz
      have hE := Lib.hid (show Rep.first1 m (s, f) = af by unfold Rep.first1; rw [hf0]; exact if_neg (fun h => hz h.1))
      clear hz hf0
      go_wp2_with fail
      clear f1 f2
      have hS9 : Sat w0 w9.drew (pt b6 (.cells #[.int .i64 at0, .int .i64 ap1, .int .i64 ap2, .int .i64 ap3, .int .i64 af] 195 (0,0)) :: TabMA p m B :: pt b5 (.cells (fndA f (.slice da dn dc)) 203 (0,0)) :: pt b3 (.cells #[ptr p] 197 (0,0)) :: F) := (h9).drew
      clear h9
      have hG := And.intro (hS9.cellP (pick_there (pick_there pick0)) 0 e0) (And.intro (hS9.cellP (pick_there (pick_there pick0)) 34 e34) (hS9.cellP (pick_there (pick_there pick0)) 35 e35))
      refine wpL_begin [11, 12] (fun w' => w'.cell? ⟨b5, 0, none⟩ = some (.int .i64 f.e.tag) ∧ w'.cell? ⟨b5, 34, none⟩ = some (.int .i64 f.at_) ∧ w'.cell? ⟨b5, 35, none⟩ = some (.int .i64 f.size)) (by kernel_rfl) ?_
      refine rp 0 (hy := (yl_field evD rnD)) (h := ?_)
      refine rp 1 (hy := (yl_field evD rnD)) (h := ?_)
      refine rt 2 (h := ?_)
      refine rp 3 (hy := (yl_move evD)) (h := ?_)
      refine rp 4 (hy := (yl_field evD rnD)) (h := ?_)
      refine rt 5 (h := ?_)
      refine rp 6 (hy := (yl_field evD rnD)) (h := ?_)
      refine rt 7 (h := ?_)
      refine rp 8 (hy := (by (refine Or.inl ⟨by rfl, ?_⟩; ((intro wq; go_simp); first | done | (with_reducible rfl))))) (h := ?_)
      refine rp 9 (hy := (yl_field evD rnD)) (h := ?_)
      refine rg_eff 10 evD (by kernel_rfl) (fun K hK => ?_)
      refine eff_store (cs' := #[.int .i64 f.e.tag, .int .i64 ap1, .int .i64 ap2, .int .i64 ap3, .int .i64 af]) hS9 evD evD (by rfl) upd0 (by show 0 + 1 ≤ 5; decide) (by kernel_rfl) (by rfl) ?_
      intro w10 hS10
      have hG2 := And.intro (hS10.cellP (pick_there (pick_there pick0)) 0 e0) (And.intro (hS10.cellP (pick_there (pick_there pick0)) 34 e34) (hS10.cellP (pick_there (pick_there pick0)) 35 e35))
      refine hK _ _ (.inr (.inl hG2)) ?_
      clear hK hS9 hG hG2
      refine rp 11 (hy := (yl_field evD rnD)) (h := ?_)
      refine rg_eff 12 evD (by kernel_rfl) (fun K hK => ?_)
      refine eff_store (cs' := #[.int .i64 f.e.tag, .int .i64 s, .int .i64 f.at_, .int .i64 f.size, .int .i64 af]) hS10 evD evD (by rfl) upd0 (by show 1 + 3 ≤ 5; decide) (by kernel_rfl) (by rfl) ?_
      intro w12 hS12
      refine hK _ _ (.inl rfl) ?_
      clear hK hS10
      refine wpL_done (by kernel_rfl) ?_
      have hS13 : Sat w0 w12 (pt b6 (.cells (aenc ⟨f.e.tag, ⟨s, f.at_, f.size⟩, Rep.first1 m (s, f)⟩).toArray 195 (0,0)) :: TabMA p m B :: pt b5 (.cells (fndA f (.slice da dn dc)) 203 (0,0)) :: pt b3 (.cells #[ptr p] 197 (0,0)) :: F) := by
        have := hS12
        rw [hE.out]
        exact this
      clear hS12
      have hkr : w12.rangeAt b5 1 (bys f.e.key) := fun j v hj => hS13.cellP (pick_there (pick_there pick0)) (1 + j) (ekey j v hj)
      go_wp2_with (first
        | ((with_reducible apply at_load); refine ⟨?_⟩; refine wl_loadW (b := b5) (o := 1) (bys f.e.key) (by rfl) hkr Tryz.underlying41 rfl (by rw [bys_len, Hk.out]; kernel_rfl) ?_)
        | ((with_reducible apply at_load); refine ⟨?_⟩; refine wl_loadA hS13 (by rfl) (pick0 (A := pt b6 (.cells (aenc ⟨f.e.tag, ⟨s, f.at_, f.size⟩, Rep.first1 m (s, f)⟩).toArray 195 (0,0)))) Tryz.underlying195 rfl (by kernel_rfl) ?_)
        | ((with_reducible apply at_load); refine ⟨?_⟩; refine wl_load1 hS13 (by rfl) pkD (Nat.le_of_ble_eq_true (by rfl)) evD (by kernel_rfl) ?_))
      refine (putA_c (p := p) (by have := HB.out; omega) Hk.out ⟨f.e.tag, ⟨s, f.at_, f.size⟩, Rep.first1 m (s, f)⟩ (hS13.sb : Sat w0 w12 (TabMA p m B :: F))).mono ?_
      rintro ee w14 ⟨v, rfl, hS14⟩
      go_wp2_with fail
      go_end0
      exact ⟨_, rfl, by rw [Hone.out]; exact hS14⟩
  | none =>
    rw [hm, Option.getD_none, Option.isSome_none] at hv
    subst hv
    have hf0 : Rep.first0 m (s, f) = -1 := by unfold Rep.first0; show (match m f.e.key with | some a => a.first | none => -1) = -1; rw [hm]
    clear hm
    go_wp2_with (with_reducible apply at_alloc)
    refine ⟨?_⟩
    refine wl_alloc zValA h7 rfl ?_
    intro b6 w8 h8
    go_wp2_with (first | ((with_reducible apply at_store); refine ⟨?_⟩; refine wl_storeA (aenc ⟨0, Seg.Plc.zero, 0⟩).toArray h8 (by rfl) (by rfl) (by rfl) upd0 (by kernel_rfl) (by rfl) ?_; intro w9 h9) | ((with_reducible apply at_store); refine ⟨?_⟩; refine wl_store (cs' := #[.int .i64 0, .int .i64 0, .int .i64 0, .int .i64 0, .int .i64 (-1)]) h9 (by rfl) evD (by rfl) upd0 (by show 4 + 1 ≤ 5; decide) (by kernel_rfl) (by rfl) ?_; intro wB hB) | (with_reducible apply at_load))
    refine ⟨?_⟩
    have f1 : wB.cell? ⟨b5, 0, none⟩ = some (.int .i64 f.e.tag) := hB.cellP (pick_there (pick_there pick0)) 0 e0
    have f2 : wB.cell? ⟨b6, 4, none⟩ = some (.int .i64 (-1)) := hB.cellP pick0 4 rfl
    clear h7 h8 h9
    by_cases hz : f.e.tag = 0
    · have hb0 : (f.e.tag == 0) = true := beq_iff_eq.2 hz
      have hE := Lib.hid (show Rep.first1 m (s, f) = s by unfold Rep.first1; rw [hf0]; exact if_pos ⟨hz, by decide⟩)
      clear hz hf0
      go_wp2_with ((with_reducible apply at_store); refine ⟨?_⟩; refine wl_store (cs' := #[.int .i64 0, .int .i64 0, .int .i64 0, .int .i64 0, .int .i64 s]) hB (by rfl) evD (by rfl) upd0 (by show 4 + 1 ≤ 5; decide) (by kernel_rfl) (by rfl) ?_; intro wA hA)
      clear hB f1 f2
      have hS9 : Sat w0 wA.drew (pt b6 (.cells #[.int .i64 0, .int .i64 0, .int .i64 0, .int .i64 0, .int .i64 s] 195 (0,0)) :: TabMA p m B :: pt b5 (.cells (fndA f (.slice da dn dc)) 203 (0,0)) :: pt b3 (.cells #[ptr p] 197 (0,0)) :: F) := (hA).drew
      clear hA
      have hG := And.intro (hS9.cellP (pick_there (pick_there pick0)) 0 e0) (And.intro (hS9.cellP (pick_there (pick_there pick0)) 34 e34) (hS9.cellP (pick_there (pick_there pick0)) 35 e35))
      refine wpL_begin [11, 12] (fun w' => w'.cell? ⟨b5, 0, none⟩ = some (.int .i64 f.e.tag) ∧ w'.cell? ⟨b5, 34, none⟩ = some (.int .i64 f.at_) ∧ w'.cell? ⟨b5, 35, none⟩ = some (.int .i64 f.size)) (by kernel_rfl) ?_
      refine rp 0 (hy := (yl_field evD rnD)) (h := ?_)
      refine rp 1 (hy := (yl_field evD rnD)) (h := ?_)
      refine rt 2 (h := ?_)
      refine rp 3 (hy := (yl_move evD)) (h := ?_)
      refine rp 4 (hy := (yl_field evD rnD)) (h := ?_)
      refine rt 5 (h := ?_)
      refine rp 6 (hy := (yl_field evD rnD)) (h := ?_)
      refine rt 7 (h := ?_)
      refine rp 8 (hy := (by (refine Or.inl ⟨by rfl, ?_⟩; ((intro wq; go_simp); first | done | (with_reducible rfl))))) (h := ?_)
      refine rp 9 (hy := (yl_field evD rnD)) (h := ?_)
      refine rg_eff 10 evD (by kernel_rfl) (fun K hK => ?_)
      refine eff_store (cs' := #[.int .i64 f.e.tag, .int .i64 0, .int .i64 0, .int .i64 0, .int .i64 s]) hS9 evD evD (by rfl) upd0 (by show 0 + 1 ≤ 5; decide) (by kernel_rfl) (by rfl) ?_
      intro w10 hS10
      have hG2 := And.intro (hS10.cellP (pick_there (pick_there pick0)) 0 e0) (And.intro (hS10.cellP (pick_there (pick_there pick0)) 34 e34) (hS10.cellP (pick_there (pick_there pick0)) 35 e35))
      refine hK _ _ (.inr (.inl hG2)) ?_
      clear hK hS9 hG hG2
      refine rp 11 (hy := (yl_field evD rnD)) (h := ?_)
      refine rg_eff 12 evD (by kernel_rfl) (fun K hK => ?_)
      refine eff_store (cs' := #[.int .i64 f.e.tag, .int .i64 s, .int .i64 f.at_, .int .i64 f.size, .int .i64 s]) hS10 evD evD (by rfl) upd0 (by show 1 + 3 ≤ 5; decide) (by kernel_rfl) (by rfl) ?_
      intro w12 hS12
      refine hK _ _ (.inl rfl) ?_
      clear hK hS10
      refine wpL_done (by kernel_rfl) ?_
      have hS13 : Sat w0 w12 (pt b6 (.cells (aenc ⟨f.e.tag, ⟨s, f.at_, f.size⟩, Rep.first1 m (s, f)⟩).toArray 195 (0,0)) :: TabMA p m B :: pt b5 (.cells (fndA f (.slice da dn dc)) 203 (0,0)) :: pt b3 (.cells #[ptr p] 197 (0,0)) :: F) := by
        have := hS12
        rw [hE.out]
        exact this
      clear hS12
      have hkr : w12.rangeAt b5 1 (bys f.e.key) := fun j v hj => hS13.cellP (pick_there (pick_there pick0)) (1 + j) (ekey j v hj)
      go_wp2_with (first
        | ((with_reducible apply at_load); refine ⟨?_⟩; refine wl_loadW (b := b5) (o := 1) (bys f.e.key) (by rfl) hkr Tryz.underlying41 rfl (by rw [bys_len, Hk.out]; kernel_rfl) ?_)
        | ((with_reducible apply at_load); refine ⟨?_⟩; refine wl_loadA hS13 (by rfl) (pick0 (A := pt b6 (.cells (aenc ⟨f.e.tag, ⟨s, f.at_, f.size⟩, Rep.first1 m (s, f)⟩).toArray 195 (0,0)))) Tryz.underlying195 rfl (by kernel_rfl) ?_)
        | ((with_reducible apply at_load); refine ⟨?_⟩; refine wl_load1 hS13 (by rfl) pkD (Nat.le_of_ble_eq_true (by rfl)) evD (by kernel_rfl) ?_))
      refine (putA_c (p := p) (by have := HB.out; omega) Hk.out ⟨f.e.tag, ⟨s, f.at_, f.size⟩, Rep.first1 m (s, f)⟩ (hS13.sb : Sat w0 w12 (TabMA p m B :: F))).mono ?_
      rintro ee w14 ⟨v, rfl, hS14⟩
      go_wp2_with fail
      go_end0
      exact ⟨_, rfl, by rw [Hone.out]; exact hS14⟩
    · have hb0 : (f.e.tag == 0) = false := by rw [beq_eq_false_iff_ne]; exact hz
      have hE := Lib.hid (show Rep.first1 m (s, f) = -1 by unfold Rep.first1; rw [hf0]; exact if_neg (fun h => hz h.1))
      clear hz hf0
      go_wp2_with fail
      clear f1 f2
      have hS9 : Sat w0 wB.drew (pt b6 (.cells #[.int .i64 0, .int .i64 0, .int .i64 0, .int .i64 0, .int .i64 (-1)] 195 (0,0)) :: TabMA p m B :: pt b5 (.cells (fndA f (.slice da dn dc)) 203 (0,0)) :: pt b3 (.cells #[ptr p] 197 (0,0)) :: F) := (hB).drew
      clear hB
      have hG := And.intro (hS9.cellP (pick_there (pick_there pick0)) 0 e0) (And.intro (hS9.cellP (pick_there (pick_there pick0)) 34 e34) (hS9.cellP (pick_there (pick_there pick0)) 35 e35))
      refine wpL_begin [11, 12] (fun w' => w'.cell? ⟨b5, 0, none⟩ = some (.int .i64 f.e.tag) ∧ w'.cell? ⟨b5, 34, none⟩ = some (.int .i64 f.at_) ∧ w'.cell? ⟨b5, 35, none⟩ = some (.int .i64 f.size)) (by kernel_rfl) ?_
      refine rp 0 (hy := (yl_field evD rnD)) (h := ?_)
      refine rp 1 (hy := (yl_field evD rnD)) (h := ?_)
      refine rt 2 (h := ?_)
      refine rp 3 (hy := (yl_move evD)) (h := ?_)
      refine rp 4 (hy := (yl_field evD rnD)) (h := ?_)
      refine rt 5 (h := ?_)
      refine rp 6 (hy := (yl_field evD rnD)) (h := ?_)
      refine rt 7 (h := ?_)
      refine rp 8 (hy := (by (refine Or.inl ⟨by rfl, ?_⟩; ((intro wq; go_simp); first | done | (with_reducible rfl))))) (h := ?_)
      refine rp 9 (hy := (yl_field evD rnD)) (h := ?_)
      refine rg_eff 10 evD (by kernel_rfl) (fun K hK => ?_)
      refine eff_store (cs' := #[.int .i64 f.e.tag, .int .i64 0, .int .i64 0, .int .i64 0, .int .i64 (-1)]) hS9 evD evD (by rfl) upd0 (by show 0 + 1 ≤ 5; decide) (by kernel_rfl) (by rfl) ?_
      intro w10 hS10
      have hG2 := And.intro (hS10.cellP (pick_there (pick_there pick0)) 0 e0) (And.intro (hS10.cellP (pick_there (pick_there pick0)) 34 e34) (hS10.cellP (pick_there (pick_there pick0)) 35 e35))
      refine hK _ _ (.inr (.inl hG2)) ?_
      clear hK hS9 hG hG2
      refine rp 11 (hy := (yl_field evD rnD)) (h := ?_)
      refine rg_eff 12 evD (by kernel_rfl) (fun K hK => ?_)
      refine eff_store (cs' := #[.int .i64 f.e.tag, .int .i64 s, .int .i64 f.at_, .int .i64 f.size, .int .i64 (-1)]) hS10 evD evD (by rfl) upd0 (by show 1 + 3 ≤ 5; decide) (by kernel_rfl) (by rfl) ?_
      intro w12 hS12
      refine hK _ _ (.inl rfl) ?_
      clear hK hS10
      refine wpL_done (by kernel_rfl) ?_
      have hS13 : Sat w0 w12 (pt b6 (.cells (aenc ⟨f.e.tag, ⟨s, f.at_, f.size⟩, Rep.first1 m (s, f)⟩).toArray 195 (0,0)) :: TabMA p m B :: pt b5 (.cells (fndA f (.slice da dn dc)) 203 (0,0)) :: pt b3 (.cells #[ptr p] 197 (0,0)) :: F) := by
        have := hS12
        rw [hE.out]
        exact this
      clear hS12
      have hkr : w12.rangeAt b5 1 (bys f.e.key) := fun j v hj => hS13.cellP (pick_there (pick_there pick0)) (1 + j) (ekey j v hj)
      go_wp2_with (first
        | ((with_reducible apply at_load); refine ⟨?_⟩; refine wl_loadW (b := b5) (o := 1) (bys f.e.key) (by rfl) hkr Tryz.underlying41 rfl (by rw [bys_len, Hk.out]; kernel_rfl) ?_)
        | ((with_reducible apply at_load); refine ⟨?_⟩; refine wl_loadA hS13 (by rfl) (pick0 (A := pt b6 (.cells (aenc ⟨f.e.tag, ⟨s, f.at_, f.size⟩, Rep.first1 m (s, f)⟩).toArray 195 (0,0)))) Tryz.underlying195 rfl (by kernel_rfl) ?_)
        | ((with_reducible apply at_load); refine ⟨?_⟩; refine wl_load1 hS13 (by rfl) pkD (Nat.le_of_ble_eq_true (by rfl)) evD (by kernel_rfl) ?_))
      refine (putA_c (p := p) (by have := HB.out; omega) Hk.out ⟨f.e.tag, ⟨s, f.at_, f.size⟩, Rep.first1 m (s, f)⟩ (hS13.sb : Sat w0 w12 (TabMA p m B :: F))).mono ?_
      rintro ee w14 ⟨v, rfl, hS14⟩
      go_wp2_with fail
      go_end0
      exact ⟨_, rfl, by rw [Hone.out]; exact hS14⟩
end
section
variable {P : Program} {w0 w : World} {F R L : List HProp} {b : Nat} {ops : Array Oper} {rest : List Oper} {a : Act} {Q : Exit → Act → World → Prop}
variable {dst : Option Tmp} {t ty T e : TypeId} {pos : String} {after : Array Edge} {x y : Operand} {cs : Array Value} {v : Value} {o n c k cap sz by' : Nat} {ad : Addr} {ys : List Value}
theorem eff_app_in (sz by' : Nat) {K : Act → World → Prop} {E : Prop} (hb : appB P ty e sz by' = true) (hv : a.eval x = .slice (some ⟨b, 0, none⟩) k cap) (hy : a.eval y = .slice (some ad) n c)
    (h : Sat w0 w (pt b (.cells cs T (0,0)) :: F)) (hl : ys.length = n * sz) (hnews : ∀ j u, ys[j]? = some u → w.cell? (ad.add j) = some u) (h1 : ∀ u ∈ ys, u.oneCell' = true) (hroom : k + n ≤ cap) (hc : cap * sz ≤ cs.size)
    (hK : ∀ w', Sat w0 w' (pt b (.cells (putsAt cs (k * sz) ys) T (0,0)) :: F) → K (a.put dst (.slice (some ⟨b, 0, none⟩) (k + n) cap)) w') :
    if Region.wanted ⟨dst, .call { callee := .builtin .append, args := #[x, y], argTypes := #[ty, ty] }, t, pos, after, none⟩ (yielded ops a.tmps) = true then
      Oper.wp P ⟨dst, .call { callee := .builtin .append, args := #[x, y], argTypes := #[ty, ty] }, t, pos, after, none⟩ a w K Q else E := by
  rw [if_pos (want_none _ rfl)]
  obtain ⟨hu, i, z, hi, hz, e1, e2, e3, e4⟩ := appB_spec hb
  subst e1
  have hle : (k + n) * i.size ≤ cs.size := Nat.le_trans (Nat.mul_le_mul_right _ hroom) hc
  rw [Nat.add_mul] at hle
  have hr := run_append_room_cells (P := P) (w := w) ty t e i hu hi b 0 k cap ad n c ys hl hnews h1 hroom (fun j hj => by
      rw [Nat.zero_add, h.cellAt (k * i.size + j) _ (Array.getElem?_eq_getElem (show k * i.size + j < cs.size by omega))]; rfl) (fun j hj => h.freeAt _)
  rw [Nat.zero_add] at hr
  unfold Oper.wp execOp
  simp only [resolve, invoke, builtin, Sem.run_bind, Sem.run_pure, Result.andThen_ok, List.map_toArray, List.map_cons, List.map_nil, hv, hy, hr]
  exact hK _ (Sat.sets ys (k * i.size) h)
theorem yl_slice_lo {vx vy : Value} (hx : a.eval x = vx) (hy : a.eval y = vy) (hr : ∀ w, (Instr.sliceAt ty vx (some vy) none none).run P w = .ok v w) : Yields P ops ⟨dst, .slice ty x (some y) none none, t, pos, after, none⟩ v a :=
  .inl ⟨want_none _ rfl, fun w => by simp only [execOp, hx, hy, Option.map_some, Option.map_none, Sem.run_bind, hr, Result.andThen_ok, Sem.run_pure]⟩
theorem run_clear1 (sz : Nat) {z : Value} (hu : P.underlying ty = some (.slice e)) (hz : zeroB P e = some z) (hzs : z.cells.size = sz) (h1 : z.cells.toList.all (·.oneCell') = true) {o : Nat} (hfit : o + sz ≤ cs.size)
    (h : Sat w0 w (pt b (.cells cs T (0,0)) :: F)) :
    ∃ w', (Builtin.clear_ #[ty] t #[.slice (some ⟨b, o, none⟩) 1 c]).run P w = .ok (.tuple #[]) w' ∧ Sat w0 w' (pt b (.cells (putsAt cs o z.cells.toList) T (0,0)) :: F) := by
  refine ⟨w.setCells b o z.cells.toList, ?_, Sat.sets _ _ h⟩
  have hzc : (Builtin.zeroCells z.cells 1).toList = z.cells.toList := by
    unfold Builtin.zeroCells
    simp only [Array.toList_map, Array.toList_range, Nat.one_mul]
    apply List.ext_getElem (by simp)
    intro i q1 q2
    have hi : i < z.cells.size := by simpa using q2
    simp [Nat.mod_eq_of_lt hi, hi]
  have hst := run_storeCells_cells (P := P) b o z.cells.toList 0 w (fun j hj => by
      rw [Nat.add_zero, h.cellAt (o + j) _ (Array.getElem?_eq_getElem (show o + j < cs.size by simp at hj; omega))]; rfl) (fun j hj => h.freeAt _) (fun u hu => (List.all_eq_true.1 h1) u hu)
  simp only [Nat.add_zero] at hst
  simp [Builtin.clear_, run_underlying hu, run_zeroB hz w, hzc, hst]
theorem wl_clear1 (sz : Nat) {z : Value} (hu : P.underlying ty = some (.slice e)) (hz : zeroB P e = some z) (hzs : z.cells.size = sz) (h1 : z.cells.toList.all (·.oneCell') = true) (hx : a.eval x = .slice (some ⟨b, o, none⟩) 1 c) (hfit : o + sz ≤ cs.size)
    (h : Sat w0 w (pt b (.cells cs T (0,0)) :: F)) (hK : ∀ w', Sat w0 w' (pt b (.cells (putsAt cs o z.cells.toList) T (0,0)) :: F) → wpList P ops Q rest (a.put dst (.tuple #[])) w') :
    wpList P ops Q (⟨dst, .call { callee := .builtin .clear, args := #[x], argTypes := #[ty] }, t, pos, after, none⟩ :: rest) a w := by
  refine wpList_plain rfl fun _ hK' => ?_
  obtain ⟨w', hr, hS⟩ := run_clear1 (P := P) (t := t) (c := c) sz hu hz hzs h1 hfit h
  unfold Oper.wp execOp
  simp only [resolve, invoke, builtin, Sem.run_bind, Sem.run_pure, Result.andThen_ok, List.map_toArray, List.map_cons, List.map_nil, hx, hr]
  exact hK' _ _ (hK w' hS)
theorem at_clear (h : Stop (wpList P ops Q (⟨dst, .call { callee := .builtin .clear, args := #[x], argTypes := #[ty] }, t, pos, after, none⟩ :: rest) a w)) : wpList P ops Q (⟨dst, .call { callee := .builtin .clear, args := #[x], argTypes := #[ty] }, t, pos, after, none⟩ :: rest) a w := h.out
end
section
variable {w0 w : World} {F R : List HProp} {v bv dv x lv : Value} {q p m K : Nat}
theorem del_cells {l : List (Int × Int)} {i cap : Nat} {cs : Array Value} (hi : i < l.length) (hn : l.length ≤ cap) (hc : cap * 2 ≤ cs.size) (htk : cs.toList.take (l.length * 2) = segw l) (z : List Value) (hz : z.length = 2) :
    (putsAt (putsAt cs (i * 2) (segw (l.drop (i + 1)))) ((l.length - 1) * 2) z).toList.take ((l.length - 1) * 2) = segw (l.eraseIdx i) := by
  have hys : (segw (l.drop (i + 1))).length = (l.length - (i + 1)) * 2 := by rw [segw_len, List.length_drop, Nat.mul_comm]
  have hcl : cs.toList.length = cs.size := by simp
  rw [putsAt_list _ _ _ (by rw [putsAt_size]; omega), List.append_assoc, List.take_append, List.take_take, Nat.min_self]
  have hp2 : (putsAt cs (i * 2) (segw (l.drop (i + 1)))).toList.length = cs.size := (Array.length_toList).trans (putsAt_size _ _ _)
  have h1 : ((putsAt cs (i * 2) (segw (l.drop (i + 1)))).toList.take ((l.length - 1) * 2)).length = (l.length - 1) * 2 := by
    rw [List.length_take, hp2]; omega
  rw [h1, Nat.sub_self, List.take_zero, List.append_nil, putsAt_list _ _ _ (by omega), List.append_assoc]
  rw [List.take_append, List.length_take, hcl, Nat.min_eq_left (by omega), List.take_of_length_le (l := cs.toList.take (i * 2)) (by rw [List.length_take]; omega)]
  rw [List.take_append, hys, List.take_of_length_le (l := segw (l.drop (i + 1))) (by omega), show (l.length - 1) * 2 - i * 2 - (l.length - (i + 1)) * 2 = 0 by omega, List.take_zero, List.append_nil]
  have h2 : cs.toList.take (i * 2) = segw (l.take i) := by
    have := congrArg (List.take (i * 2)) htk
    rw [List.take_take, Nat.min_eq_left (by omega)] at this
    rw [this]
    conv => lhs; rw [← List.take_append_drop i l, segw_app]
    rw [List.take_append_of_le_length (by rw [segw_len, List.length_take]; omega), List.take_of_length_le (by rw [segw_len, List.length_take]; omega)]
  rw [h2, ← segw_app, List.eraseIdx_eq_take_drop_succ]
theorem segw_drop (l : List (Int × Int)) (i : Nat) : segw (l.drop i) = (segw l).drop (i * 2) := by
  rcases Nat.lt_or_ge i l.length with h | h
  · have h1 : segw l = segw (l.take i) ++ segw (l.drop i) := by rw [← segw_app, List.take_append_drop]
    have h2 : (segw (l.take i)).length = i * 2 := by rw [segw_len, List.length_take]; omega
    rw [h1, ← h2, List.drop_left]
  · rw [List.drop_of_length_le h, List.drop_of_length_le (by rw [segw_len]; omega)]; rfl
theorem segw_one (l : List (Int × Int)) : ∀ u ∈ segw l, u.oneCell' = true := by
  intro u hu
  unfold segw at hu
  rw [List.mem_flatMap] at hu
  obtain ⟨s, _, hs⟩ := hu
  simp only [List.mem_cons, List.not_mem_nil, or_false] at hs
  rcases hs with rfl | rfl <;> rfl
set_option maxRecDepth 20000 in
set_option maxHeartbeats 8000000 in
theorem sdelete_c (l : List (Int × Int)) (i : Nat) (hi : i < l.length) (hln : l.length ≤ 1048576) (h : Sat w0 w (osl 145 2 lv (segw l) :: F)) :
    Calls Tryz.prog 81 #[lv, .int .i64 i, .int .i64 ((i : Int) + 1)] w (Rtn fun v w' => ∃ a n c, v = .slice a n c ∧ Sat w0 w' (osl 145 2 v (segw (l.eraseIdx i)) :: F)) := by
  rcases h.osl_cases with ⟨rfl, hx, hF⟩ | ⟨b, n', cap, cs, rfl, hll, hn', hc, hcm, htk, hp⟩
  · exfalso
    have := congrArg List.length hx
    rw [segw_len] at this; simp at this; omega
  rw [segw_len] at hll
  obtain rfl : n' = l.length := by omega
  have hcm' : cap ≤ 9223372036854775807 := hcm
  have Hdel := Lib.hid (del_cells hi hn' hc htk [.int .i64 0, .int .i64 0] rfl)
  have h0 : (0 : Int) ≤ (i : Int) := by omega
  have h1 : (i : Int) ≤ (i : Int) + 1 := by omega
  have h2 : (i : Int) + 1 ≤ (l.length : Int) := by omega
  have h3 : (l.length : Int) ≤ (cap : Int) := by omega
  have hne : ((i : Int) == (i : Int) + 1) = false := by rw [beq_eq_false_iff_ne]; omega
  have Hp := Lib.hid hp; have Hcm := Lib.hid hcm; have Hc := Lib.hid hc; have Hn := Lib.hid hn'; have Htk := Lib.hid htk; have Hi := Lib.hid hi; have Hln := Lib.hid hln
  clear hn' hc hcm htk hi h hll hln
  go_enter Tryz.func81, Tryz.ntmps81
  go_wp2_with fail
  obtain ⟨ad, had, hsl⟩ : ∃ ad : Addr, (i + 1 < l.length → ad = ⟨b, (i + 1) * 2, none⟩) ∧ ∀ w, (Instr.sliceAt 138 (.slice (some ⟨b, 0, none⟩) l.length cap) (some (.int .i64 ((i : Int) + 1))) none none).run Tryz.prog w = .ok (.slice (some ad) (l.length - (i + 1)) (cap - (i + 1))) w := by
    by_cases hce : cap = i + 1
    · refine ⟨⟨b, 0, none⟩, fun hh => by have := Hn.out; omega, fun w => ?_⟩
      have h4 : (0 : Int) ≤ (i : Int) + 1 := by omega
      have h5 : ((i : Int) + 1).toNat = i + 1 := by omega
      go_simp
    · refine ⟨⟨b, (i + 1) * 2, none⟩, fun _ => rfl, fun w => ?_⟩
      have h4 : (0 : Int) ≤ (i : Int) + 1 := by omega
      have h5 : ((i : Int) + 1).toNat = i + 1 := by omega
      go_simp
  have hic : i ≤ cap := by omega
  refine wpL_begin [] (fun _ => True) (by kernel_rfl) ?_
  refine rp 0 (hy := (yl_move evD)) (h := ?_)
  refine rp 1 (hy := (yl_move evD)) (h := ?_)
  refine rp 2 (hy := (by (refine Or.inl ⟨by rfl, ?_⟩; ((intro wq; go_simp); first | done | (with_reducible rfl))))) (h := ?_)
  refine rp 3 (hy := (yl_move evD)) (h := ?_)
  refine rp 4 (hy := (yl_move evD)) (h := ?_)
  refine rp 5 (hy := (yl_slice_lo evD evD hsl)) (h := ?_)
  refine rg_eff 6 evD (by kernel_rfl) (fun K hK => ?_)
  refine eff_app_in (e := 145) (w0 := w0) (b := b) (cs := cs) (k := i) (ys := segw (l.drop (i + 1))) 2 16 (by kernel_rfl) (by rfl) (by rfl) Hp.out.drew (by rw [segw_len, List.length_drop, Nat.mul_comm]) ?_ (segw_one _) (by have := Hn.out; have := Hi.out; omega) Hc.out ?_
  · intro j u hj
    have hjl := (List.getElem?_eq_some_iff.1 hj).1
    rw [segw_len, List.length_drop] at hjl
    rw [had (by omega), Addr.add_mid]
    rw [segw_drop, List.getElem?_drop] at hj
    exact Hp.out.drew.cellAt _ _ (take_get Htk.out hj)
  intro w2 hS2
  refine hK _ _ (.inr (.inl trivial)) ?_
  clear hK K
  rw [show i + (l.length - (i + 1)) = l.length - 1 by have := Hi.out; omega]
  have hj0 : (0 : Int) ≤ ((l.length - 1 : Nat) : Int) := by omega
  have hj1 : ((l.length - 1 : Nat) : Int) ≤ (l.length : Int) := by omega
  have hj2 : ¬ cap = l.length - 1 := by have := Hn.out; have := Hi.out; omega
  have hj3 : l.length - (l.length - 1) = 1 := by have := Hi.out; omega
  have hfit := Lib.hid (show (l.length - 1) * 2 + 2 ≤ (putsAt cs (i * 2) (segw (l.drop (i + 1)))).size by rw [putsAt_size]; have := Hc.out; have := Hn.out; have := Hi.out; omega)
  have Hk := Lib.hid (show (segw (l.eraseIdx i)).length = (l.length - 1) * 2 by rw [segw_len, List.length_eraseIdx_of_lt Hi.out, Nat.mul_comm])
  generalize (l.length - 1) = N at *
  refine rp 7 (hy := (yl_assign evD)) (h := ?_)
  refine wpL_done (by kernel_rfl) ?_
  clear hp hsl had
  go_wp2_with ((with_reducible apply at_clear); refine ⟨?_⟩; refine wl_clear1 (o := N * 2) 2 Tryz.underlying138 zSeg (by rfl) (by rfl) (by rfl) hfit.out hS2 ?_; intro w3 hS3)
  go_ret
  refine ⟨_, rfl, _, _, _, rfl, ?_⟩
  exact Sat.osl_of_pt hS3 Hk.out (by have := Hn.out; omega) (by rw [putsAt_size, putsAt_size]; exact Hc.out) Hcm.out Hdel.out
end
section
variable {w0 w : World} {F R : List HProp} {v bv dv x lv : Value} {q p m K : Nat} {L : Seg.Log} {M : Med} {s : Int × Int}
set_option maxRecDepth 20000 in
set_option maxHeartbeats 16000000 in
theorem lremove_c (hL : L.Ok) (hM : M.Ok K) (hKK : K ≤ 1099511627776) (n : Int) (h : Sat w0 w (LogRep p m L :: MedRep m M :: F)) :
    Calls Tryz.prog 23 #[ptr p, .int .i64 n] w (Rtn fun v w' => v = errno (L.remove M n).2 ∧ Sat w0 w' (LogRep p m (L.remove M n).1.1 :: MedRep m (L.remove M n).1.2 :: F)) := by
  obtain ⟨lv, hR⟩ := LogRep.open2 h
  have hok := ok_c hR
  have hf := lfind_c hL n h
  clear hR lv
  rcases find_neg (L := L) n with ⟨ha, hb⟩ | ⟨i, ha, hb⟩
  · have Hfin := Lib.hid (show L.remove M n = ((L, M), 9) by unfold Seg.Log.remove; rw [ha])
    rw [hb] at hf
    clear ha hb hL h
    go_enter Tryz.func23, Tryz.ntmps23
    go_wp2_with fail
    refine hok.mono ?_
    rintro e w2 ⟨v, rfl, rfl, rfl⟩
    clear hok
    go_wp2_with fail
    refine hf.mono ?_
    rintro e w2 ⟨v, rfl, rfl, hS2⟩
    clear hf
    go_wp2
    go_ret
    rw [Hfin.out]
    exact ⟨_, rfl, rfl, hS2⟩
  · rw [hb] at hf
    have hlt := (Seg.Log.at_lt ha).1
    have Hg := Lib.hid (show L.remove M n = if (M.remove (Seg.name n)).2 = 0 then ((L.without i, (M.remove (Seg.name n)).1), 0) else ((L, (M.remove (Seg.name n)).1), (M.remove (Seg.name n)).2) by unfold Seg.Log.remove; rw [ha])
    have hi0 : (0 : Int) ≤ (i : Int) := by omega
    have hd : decide ((i : Int) < 0) = false := decide_eq_false (by omega)
    have Hlt := Lib.hid hlt; have Hln := Lib.hid hL.len; have Hfr := Lib.hid hL.fresh
    clear ha hb hL h hlt
    go_enter Tryz.func23, Tryz.ntmps23
    go_wp2_with fail
    refine hok.mono ?_
    rintro e w2 ⟨v, rfl, rfl, rfl⟩
    clear hok
    go_wp2_with fail
    refine hf.mono ?_
    rintro e w2 ⟨v, rfl, rfl, hS2⟩
    clear hf
    obtain ⟨lv, hR⟩ := LogRep.open2 hS2
    clear hS2
    go_wp2_with fail
    refine wpL_begin [6, 7] (fun w' => w'.cell? ⟨p, 0, none⟩ = some (ptr m)) (by kernel_rfl) ?_
    have hG : w2.drew.cell? ⟨p, 0, none⟩ = some (ptr m) := hR.drew.cellP pkD 0 rfl
    refine rp 0 (hy := (yl_move evD)) (h := ?_)
    refine rp 1 (hy := (yl_nil evD)) (h := ?_)
    refine rp 2 (hy := (yl_field evD rnD)) (h := ?_)
    refine rt 3 (h := ?_)
    refine rp 4 (hy := (yl_move evD)) (h := ?_)
    clear hG
    refine rg_eff 5 evD (by kernel_rfl) (fun K hK => ?_)
    (refine eff_call1 (by kernel_rfl) evD ?_)
    refine (sname_c n hR.drew).mono ?_
    rintro e w3 ⟨v, rfl, rfl, hS3⟩
    refine hK _ _ (.inr (.inl (hS3.cellP pkD 0 rfl))) ?_
    clear hK hR
    refine rg_eff 6 evD (by kernel_rfl) (fun K hK => ?_)
    (refine eff_call2 (by kernel_rfl) evD evD ?_)
    refine (remove_c hM hKK (Sat.pk (by assumption)) _).mono ?_
    rintro e w4 ⟨v, rfl, rfl, hS4⟩
    refine hK _ _ (.inl rfl) ?_
    clear hK hS3
    refine rp 7 (hy := (yl_assign evD)) (h := ?_)
    refine wpL_done (by kernel_rfl) ?_
    clear hM
    generalize M.remove (Seg.name n) = B at *
    obtain ⟨M2, e2⟩ := B
    by_cases he : e2 = 0
    rotate_left
    · have heb : (e2 == 0) = false := beq_false_of_ne he
      have hfin := Lib.hid (Hg.out.trans (if_neg he))
      clear he
      go_wp2_with fail
      go_ret
      rw [hfin.out]
      exact ⟨_, rfl, rfl, LogRep.shut2 (lv := lv) (Sat.sb hS4)⟩
    subst he
    have hfin := Lib.hid (Hg.out.trans (if_pos rfl))
    clear Hg
    obtain ⟨la, lc, rfl⟩ : ∃ la lc, lv = .slice la L.l.length lc := by
      obtain ⟨a, n', c, rfl, hn, _⟩ := Sat.rd (hS4.pk (A := osl 145 2 lv (segw L.l)))
      rw [segw_len] at hn
      exact ⟨a, c, by rw [show n' = L.l.length by omega]⟩
    have hw1 : IntKind.i64.wrap ((L.l.length : Int) - 1) = (L.l.length : Int) - 1 := by rw [IntKind.wrap_i64]; have := Hln.out; omega
    have hw2 : IntKind.i64.wrap ((L.l.length : Int) - L.fresh) = (L.l.length : Int) - L.fresh := by rw [IntKind.wrap_i64]; have := Hln.out; have := Hfr.out; omega
    have hw3 : IntKind.i64.wrap (L.fresh - 1) = L.fresh - 1 := by rw [IntKind.wrap_i64]; have := Hln.out; have := Hfr.out; omega
    have hw4 : IntKind.i64.wrap ((i : Int) + 1) = (i : Int) + 1 := by rw [IntKind.wrap_i64]; have := Hln.out; have := Hlt.out; omega
    have Hon := Lib.hid (show (L.without i).on = if ((i : Int) == (L.l.length : Int) - 1) = true then false else L.on by
      unfold Seg.Log.without
      simp only [beq_iff_eq]
      have := Hlt.out
      by_cases hh : i + 1 = L.l.length
      · rw [if_pos hh, if_pos (by omega)]
      · rw [if_neg hh, if_neg (by omega)])
    have Hfs := Lib.hid (show (L.without i).fresh = if decide ((L.l.length : Int) - L.fresh ≤ (i : Int)) = true then L.fresh - 1 else L.fresh by
      unfold Seg.Log.without
      simp only [decide_eq_true_eq])
    have Hll := Lib.hid (show (L.without i).l = L.l.eraseIdx i ∧ (L.without i).limit = L.limit from ⟨rfl, rfl⟩)
    generalize L.without i = LW at *
    obtain ⟨Wlim, Wl, Won, Wfr⟩ := LW
    obtain ⟨rfl, rfl⟩ := Hll.out
    obtain rfl := Hon.out
    obtain rfl := Hfs.out
    clear Hon Hfs Hll
    cases hb1 : ((i : Int) == (L.l.length : Int) - 1) <;> cases hb2 : (decide ((L.l.length : Int) - L.fresh ≤ (i : Int)))
    all_goals
      go_wp2_with (first | ((with_reducible apply at_load); refine ⟨?_⟩; refine wl_load1 (by assumption) (by rfl) pkD (Nat.le_of_ble_eq_true (by rfl)) evD (by kernel_rfl) ?_) | ((with_reducible apply at_store); refine ⟨?_⟩; refine wl_store (by assumption) (by rfl) evD (by first | (simp only [putsAt, Value.cells]; (try go_frame); first | done | rfl) | rfl) upD (Nat.le_of_ble_eq_true (by rfl)) (by kernel_rfl) (by rfl) ?_; intro wS hS))
      try have hS4 := hS
      have hG : (World.drew _).cell? ⟨p, 2, none⟩ = some (.slice la L.l.length lc) ∧ (World.drew _).cell? ⟨p, 4, none⟩ = some (.int .i64 L.fresh) := ⟨hS4.drew.cellP pkD 2 rfl, hS4.drew.cellP pkD 4 rfl⟩
      refine wpL_begin [10, 11] (fun w' => w'.cell? ⟨p, 2, none⟩ = some (.slice la L.l.length lc) ∧ w'.cell? ⟨p, 4, none⟩ = some (.int .i64 L.fresh)) (by kernel_rfl) ?_
      refine rp 0 (hy := (yl_move evD)) (h := ?_)
      refine rp 1 (hy := (yl_move evD)) (h := ?_)
      refine rp 2 (hy := (yl_nil evD)) (h := ?_)
      refine rp 3 (hy := (yl_field evD rnD)) (h := ?_)
      refine rt 4 (h := ?_)
      refine rp 5 (hy := (yl_len evD rnD)) (h := ?_)
      refine rp 6 (hy := (yl_move evD)) (h := ?_)
      refine rp 7 (hy := (yl_nil evD)) (h := ?_)
      refine rp 8 (hy := (yl_field evD rnD)) (h := ?_)
      refine rt 9 (h := ?_)
      refine rp 10 (hy := (yl_bin evD evD rnD)) (h := ?_)
      refine rp 11 (hy := (yl_bin evD evD rnD)) (h := ?_)
      refine wpL_done (by kernel_rfl) ?_
      clear hG
      have hS5 := hS4.drew
      clear hS4
      go_wp2_with (first | ((with_reducible apply at_load); refine ⟨?_⟩; refine wl_load1 (by assumption) (by rfl) pkD (Nat.le_of_ble_eq_true (by rfl)) evD (by kernel_rfl) ?_) | ((with_reducible apply at_store); refine ⟨?_⟩; refine wl_store (by assumption) (by rfl) evD (by first | (simp only [putsAt, Value.cells]; (try go_frame); first | done | rfl) | rfl) upD (Nat.le_of_ble_eq_true (by rfl)) (by kernel_rfl) (by rfl) ?_; intro wS hS))
      refine (sdelete_c (lv := .slice la L.l.length lc) L.l i Hlt.out Hln.out (Sat.pk (by assumption))).mono ?_
      rintro e w6 ⟨v, rfl, da, dn, dc, rfl, hS6⟩
      go_wp2_with ((with_reducible apply at_store); refine ⟨?_⟩; refine wl_store (by assumption) (by rfl) evD (by first | (simp only [putsAt, Value.cells]; (try go_frame); first | done | rfl) | rfl) upD (Nat.le_of_ble_eq_true (by rfl)) (by kernel_rfl) (by rfl) ?_; intro wS hS)
      go_ret
      rw [hfin.out, hb1, hb2]
      simp only [if_true, if_false, Bool.false_eq_true]
      exact ⟨_, rfl, rfl, LogRep.shut2 (lv := .slice da dn dc) (Sat.sb hS)⟩
theorem remove_med {L : Seg.Log} {M : Med} (h : M.Ok K) (n : Int) : (L.remove M n).1.2.Ok (K + 1) := by
  unfold Seg.Log.remove
  split; · exact h.mono (Nat.le_succ K)
  split <;> exact h.remove _
end
end Go.Proofs.YtmjldaedhmipkaaGreatDoor
namespace Go.Seg
open Go.Med
def Log.read (L : Log) (M : Med) (q : Plc) : Frm.Ent × Int :=
  match L.at q.seg with
  | none => (Frm.zeroE, 9)
  | some _ =>
    if (M.read (name q.seg) q.at_ q.size).2 ≠ 0 then (Frm.zeroE, (M.read (name q.seg) q.at_ q.size).2)
    else if (Frm.read (M.read (name q.seg) q.at_ q.size).1).2.2 ≠ 0 then (Frm.zeroE, (Frm.read (M.read (name q.seg) q.at_ q.size).1).2.2)
    else if (Frm.read (M.read (name q.seg) q.at_ q.size).1).2.1 ≠ (M.read (name q.seg) q.at_ q.size).1.length then (Frm.zeroE, 4)
    else ((Frm.read (M.read (name q.seg) q.at_ q.size).1).1, 0)
end Go.Seg
namespace Go.Proofs.YtmjldaedhmipkaaGreatDoor
open Go Go.Sl Go.Med Go.MapKept Go.RowKit
section
variable {w0 w : World} {F R : List HProp} {v bv dv x lv : Value} {q p m K : Nat} {L : Seg.Log} {M : Med} {s : Int × Int}
end
end Go.Proofs.YtmjldaedhmipkaaGreatDoor
namespace Go.Seg
open Go.Med
structure Alike (M M' : Med) : Prop where
  now : M'.now = M.now
  room : M'.room = M.room
  off : M'.off = M.off
  bytes : ∀ p ∈ M.now, (M'.file p.2).now = (M.file p.2).now
structure Calm (K room : Nat) (M : Med) : Prop where
  ok : M.Ok K
  quiet : Quiet M
  dst : Dst M
  used : M.used ≤ M.room
  room : M.room = room
section
variable {K r : Nat} {M : Med} {L : Log}
def Has (L : Log) (M : Med) : Prop := ∀ s ∈ L.l, ∃ i, nget M.now (name s.1) = some i
structure Keeps (K r : Nat) (L : Log) (M : Med) : Prop where
  log : L.Ok
  calm : Calm K r M
  has : Has L M
theorem size_enc {x : Frm.Ent} (h : (Frm.encode x).2 = 0) (hk : x.key.length = 32) : (Frm.encode x).1.length = Frm.size x := by
  unfold Frm.encode at *
  split at h
  · rename_i hc; exact absurd h hc
  · rename_i hc
    rw [if_neg hc]
    unfold Frm.body Frm.size
    simp only [List.length_append, Frm.le_len, List.length_singleton, if_neg hc]
    split
    · rename_i ht
      have : x.data.length = 0 := by
        simp only [Decidable.not_not] at hc
        unfold Frm.check at hc
        rw [ht] at hc
        simp only [show ¬ ((2 : Int) = 0) by decide, if_false, if_true] at hc
        split at hc
        · cases hc
        split at hc
        · cases hc
        omega
      simp; omega
    · omega
end
end Go.Seg
namespace Go.Proofs.YtmjldaedhmipkaaGreatDoor
open Go Go.Sl Go.Med Go.MapKept Go.RowKit
section
variable {w0 w : World} {F : List HProp} {v bv dv x lv : Value} {q p m K : Nat} {L : Seg.Log} {M M1 M2 : Med} {nm : ByteArray}
def magic : Bs := [72, 79, 65, 82, 68, 83, 69, 71]
end
section
variable {w0 w : World} {F : List HProp} {v bv dv x lv : Value} {q p m K : Nat} {lim fr : Int} {M M1 M2 : Med} {nm : ByteArray} {b : Bs}
end
def comE : Frm.Ent := ⟨2, Frm.zero32, []⟩
def comB : Bs := (Frm.encode comE).1
def liveM : Med := Med.new 1000
theorem live_alive : Seg.alive liveM = 0 := by kernel_rfl
theorem live_fresh : Seg.fresh liveM 200 = ⟨200, [], false, 0⟩ := by kernel_rfl
section
variable {w0 w : World} {F : List HProp}
end
end Go.Proofs.YtmjldaedhmipkaaGreatDoor
namespace Go.Seg
end Go.Seg
namespace Go.Proofs.YtmjldaedhmipkaaGreatDoor
open Go Go.Sl Go.Med Go.MapKept Go.RowKit
section
variable {w0 w : World} {F : List HProp}
end
end Go.Proofs.YtmjldaedhmipkaaGreatDoor
namespace Go.Frm
def encs (l : List Ent) : Bs := l.flatMap fun x => (encode x).1
def GoodE (x : Ent) : Prop := (encode x).2 = 0 ∧ x.key.length = 32
def fnds : List Ent → Nat → List Fnd
  | [], _ => []
  | x :: l, at_ => ⟨x, at_, (encode x).1.length⟩ :: fnds l (at_ + (encode x).1.length)
end Go.Frm
namespace Go.Seg
open Go.Med
open Go.Frm (encs GoodE)
section
variable {K r : Nat} {M : Med} {L : Log}
structure Holds (n : Nat) (L : Log) (M : Med) (C : List (List Frm.Ent)) : Prop where
  keeps : Keeps (n * 5) 1048576 L M
  len : L.l.length = C.length
  at_ : ∀ (k : Nat) (es : List Frm.Ent), C[k]? = some es → L.l[k]? = some ((k : Int), 8 + ((encs es).length : Int))
  file : ∀ (k : Nat) (es : List Frm.Ent), C[k]? = some es → M.all (name k) = (mag ++ encs es, 0)
  good : ∀ es ∈ C, (∀ x ∈ es, GoodE x) ∧ es ≠ []
  fit : ∀ es ∈ C, 8 + ((encs es).length : Int) ≤ L.limit ∨ es.length = 1
  count : C.length ≤ n
  used : M.used ≤ n * 400
  names : M.now.length ≤ n
  only : ∀ (s : ByteArray) (i : Nat), nget M.now s = some i → ∃ k : Nat, k < C.length ∧ s = name k
def put (C : List (List Frm.Ent)) (on : Bool) (x : Frm.Ent) : List (List Frm.Ent) := if on then C.dropLast ++ [C.getLastD [] ++ [x]] else C ++ [[x]]
variable {n : Nat} {C : List (List Frm.Ent)}
end
end Go.Seg
namespace Go.Seg
structure Cal where
  kind : Int
  e : Frm.Ent
  n : Int
  p : Plc
  l : List Int
def Cal.cut (c : Cal) : Cal := ⟨c.kind, Frm.cutE 300 c.e, c.n, c.p, c.l.take 60⟩
def fewC (l : List Cal) (n : Nat) : List Cal := (l.take n).map Cal.cut
end Go.Seg
namespace Go.Proofs.YtmjldaedhmipkaaGreatDoor
open Go Go.Sl Go.Med Go.MapKept Go.RowKit
structure SD where
  c : Seg.Cal
  dv : Value
  lv : Value
def sdL (d : SD) : List Value := .int .i64 d.c.kind :: (entL d.c.e d.dv ++ [.int .i64 d.c.n, .int .i64 d.c.p.seg, .int .i64 d.c.p.at_, .int .i64 d.c.p.size, d.lv])
def sdA (d : SD) : Array Value := (sdL d).toArray
def sdsL (ds : List SD) : List Value := ds.flatMap sdL
structure SDRo (w0 : World) (F : List HProp) (d : SD) : Prop where
  key : d.c.e.key.length = 32
  rd : Ro w0 F (rdsl 1 d.dv (bys d.c.e.data))
  cap : capOk d.dv
  rl : Ro w0 F (rdsl 1 d.lv (ints d.c.l))
  capl : capOk d.lv
def zeroD : SD := ⟨⟨0, Frm.zeroE, 0, Seg.Plc.zero, []⟩, .slice none 0 0, .slice none 0 0⟩
def dataD (ds : List SD) : HProp := stars (ds.map fun d => bsl d.dv d.c.e.data)
section
variable {w0 w : World} {F R : List HProp} {v bv dv x lv : Value}
theorem rdsl_cutI {k : Nat} {l : List Int} {a : Option Addr} {n c : Nat} (h : rdsl 1 (.slice a n c) (ints l) w) : rdsl 1 (.slice a (min n k) c) (ints (l.take k)) w := by
  obtain ⟨a', n', c', he, hl, hx⟩ := h
  cases he
  have hil : ∀ l : List Int, (ints l).length = l.length := fun l => List.length_map ..
  rw [hil, Nat.mul_one] at hl
  refine ⟨a, _, c, rfl, by rw [hil, List.length_take]; omega, fun j y hj => ?_⟩
  have hj' : (ints l)[j]? = some y := by
    unfold ints at hj ⊢
    rw [List.map_take, List.getElem?_take] at hj
    split at hj
    · exact hj
    · cases hj
  exact hx j y hj'
end
section
variable {w0 w : World} {F R : List HProp} {v bv dv x lv : Value}
end
end Go.Proofs.YtmjldaedhmipkaaGreatDoor
namespace Go.Seg
open Go.Med
theorem bytes_len {K : Nat} {L : Log} {M : Med} (h : M.Ok K) (n : Int) : (L.bytes M n).1.length ≤ 16777216 := by
  unfold Log.bytes
  split
  · simp
  · unfold Med.all
    split
    · simp
    split
    · simp
    · exact (h.file _).now_len
end Go.Seg
namespace Go.Seg
open Go.Med
open Go.Frm (encs GoodE)
section
variable {n : Nat} {M : Med} {L : Log} {C : List (List Frm.Ent)}
def comLast (C : List (List Frm.Ent)) : Prop := ∀ es ∈ C, ∀ (k : Nat) (x : Frm.Ent), es[k]? = some x → x.tag = 2 → k + 1 = es.length
def noCom (es : List Frm.Ent) : Prop := ∀ x ∈ es, x.tag ≠ 2
structure Tail (on : Bool) (C : List (List Frm.Ent)) : Prop where
  last : comLast C
  tail : on = true → noCom (C.getLastD [])
def committedB (l : List Cal) : Bool := l.all fun c => c.kind == 1 || !(c.e.tag == 2)
end
end Go.Seg
namespace Go.Proofs.YtmjldaedhmipkaaGreatDoor
open Go Go.Sl Go.Med Go.MapKept Go.RowKit
section
variable {w0 w : World} {F R : List HProp} {v bv dv x lv : Value}
end
end Go.Proofs.YtmjldaedhmipkaaGreatDoor
namespace Go.Seg
open Go.Med
end Go.Seg
namespace Go.Proofs.YtmjldaedhmipkaaGreatDoor
open Go Go.Sl Go.Med Go.MapKept Go.RowKit
section
variable {w0 w : World} {F R : List HProp} {v bv dv x lv : Value}
end
section
variable {w0 w : World} {F R : List HProp} {v bv dv x lv : Value}
theorem fndsL_at {fs : List (Frm.Fnd × Value)} (hk : ∀ p ∈ fs, p.1.e.key.length = 32) {i : Nat} {p : Frm.Fnd × Value} (hi : fs[i]? = some p) {j : Nat} {y : Value} (hj : (fndL p.1 p.2)[j]? = some y) : (fndsL fs)[i * 36 + j]? = some y := by
  induction fs generalizing i with
  | nil => simp at hi
  | cons x fs ih =>
    have hx := fndL_len x.1 x.2 (hk x (.head _))
    unfold fndsL at *
    rw [List.flatMap_cons]
    cases i with
    | zero =>
      obtain rfl : x = p := by simpa using hi
      rw [List.getElem?_append_left (by have := (List.getElem?_eq_some_iff.1 hj).1; omega), Nat.zero_mul, Nat.zero_add]
      exact hj
    | succ i =>
      rw [List.getElem?_append_right (by rw [hx]; omega), hx, show (i + 1) * 36 + j - 36 = i * 36 + j by omega]
      exact ih (fun d hd => hk d (.tail _ hd)) (by simpa using hi)
theorem fndL_ent (f : Frm.Fnd) (dv : Value) {j : Nat} {y : Value} (h : (entL f.e dv)[j]? = some y) : (fndL f dv)[j]? = some y := by
  unfold fndL
  rw [List.getElem?_append_left (List.getElem?_eq_some_iff.1 h).1]
  exact h
theorem fnds_at {fs : List (Frm.Fnd × Value)} {v : Value} {i : Nat} {p : Frm.Fnd × Value} (hk : ∀ p ∈ fs, p.1.e.key.length = 32) (hi : fs[i]? = some p) (h : Sat w0 w (osl 203 36 v (fndsL fs) :: R)) :
    ∃ bk off c, v = .slice (some ⟨bk, off, none⟩) fs.length c ∧ ∀ j y, (entL p.1.e p.2)[j]? = some y → w.cell? ⟨bk, off + i * 36 + j, none⟩ = some y := by
  have hr := Sat.rd h
  obtain ⟨a, n, c, rfl, hl, hx⟩ := id hr
  rw [fndsL_len hk] at hl
  obtain rfl : n = fs.length := by omega
  have hx0 : (fndsL fs)[i * 36 + 0]? = some (.int .i64 p.1.e.tag) := fndsL_at hk hi (fndL_ent _ _ rfl)
  obtain ⟨bk, off, rfl, hcell⟩ := rdsl_cells hr hx0
  refine ⟨bk, off, c, rfl, fun j y hj => ?_⟩
  have := hcell _ _ (fndsL_at hk hi (fndL_ent _ _ hj))
  rw [← Nat.add_assoc] at this
  exact this
theorem fnds_sl {fs : List (Frm.Fnd × Value)} {v : Value} (hk : ∀ p ∈ fs, p.1.e.key.length = 32) (h : Sat w0 w (osl 203 36 v (fndsL fs) :: R)) : ∃ a c, v = .slice a fs.length c := by
  obtain ⟨a, n, c, rfl, hl, hx⟩ := Sat.rd h
  rw [fndsL_len hk] at hl
  obtain rfl : n = fs.length := by omega
  exact ⟨a, c, rfl⟩
theorem dataF_at : ∀ (fs : List (Frm.Fnd × Value)) (i : Nat) (p : Frm.Fnd × Value), fs[i]? = some p → ∃ G, dataF fs = star (bsl p.2 p.1.e.data) G
  | [], _, _, h => by cases h
  | x :: fs, 0, p, h => by
    obtain rfl : x = p := by simpa using h
    exact ⟨_, rfl⟩
  | x :: fs, i + 1, p, h => by
    obtain ⟨G, hG⟩ := dataF_at fs i p (by simpa using h)
    refine ⟨star (bsl x.2 x.1.e.data) G, ?_⟩
    show star (bsl x.2 x.1.e.data) (dataF fs) = _
    rw [hG, star_left_comm]
theorem dataF_ro {fs : List (Frm.Fnd × Value)} {i : Nat} {p : Frm.Fnd × Value} (h : fs[i]? = some p) : Ro w0 (dataF fs :: R) (rdsl 1 p.2 (bys p.1.e.data)) := fun w hw => by
  obtain ⟨G, hG⟩ := dataF_at fs i p h
  rw [hG] at hw
  exact Sat.rd (Sat.star.1 hw)
theorem bsl_capL {l : Bs} (h : Sat w0 w (bsl v l :: R)) : capOk v ∧ ∃ a c, v = .slice a l.length c := by
  refine ⟨bsl_cap h, ?_⟩
  obtain ⟨a, n, c, rfl, _, _, rfl⟩ := bsl_cap' h
  exact ⟨a, c, rfl⟩
end
section
variable {w0 w : World} {F R : List HProp} {v bv dv x lv : Value}
def offs (C : List (List Frm.Ent)) (s : Nat) : Nat := ((C.take s).flatten).length
structure EntRd (w0 : World) (F : List HProp) (p : Frm.Ent × Value) : Prop where
  key : p.1.key.length = 32
  rd : Ro w0 F (rdsl 1 p.2 (bys p.1.data))
  sl : ∃ a n c, p.2 = .slice a n c
end
end Go.Proofs.YtmjldaedhmipkaaGreatDoor
namespace Go.Frm
theorem scanL_count : ∀ (k : Nat) (b : Bs) (at_ : Nat), (scanL k b at_).1.length ≤ k
  | 0, _, _ => Nat.le_refl 0
  | k + 1, b, at_ => by
    unfold scanL
    split
    · exact Nat.zero_le _
    split
    · exact Nat.zero_le _
    · simp only [List.length_cons]
      have := scanL_count k
      exact Nat.succ_le_succ (this _ _)
theorem scan_count (b : Bs) : (scan b).1.length ≤ b.length := by
  unfold scan
  split
  · exact scanL_count _ _ _
  · exact Nat.zero_le _
end Go.Frm
namespace Go.Proofs.YtmjldaedhmipkaaGreatDoor
open Go Go.Sl Go.Med Go.MapKept Go.RowKit
abbrev lbt (L : Seg.Log) (M : Med) : Rep.Told := fun n => L.bytes M n
section
variable {w0 w : World} {F : List HProp} {p m K : Nat} {L : Seg.Log} {M : Med} {sv : Value}
set_option maxRecDepth 20000 in
set_option maxHeartbeats 8000000 in
theorem split_c (hL : L.Ok) (hM : M.Ok K) (hH : Ro w0 F Half) (h : Sat w0 w (osl 3 1 sv (ints L.segs) :: LogRep p m L :: MedRep m M :: F)) :
    Calls Tryz.prog 110 #[ptr p, sv] w (Rtn fun v w' => v = .tuple #[.int .i64 (Rep.split (lbt L M) L.segs L.segs.length).1, errno (Rep.split (lbt L M) L.segs L.segs.length).2] ∧
      Sat w0 w' (osl 3 1 sv (ints L.segs) :: LogRep p m L :: MedRep m M :: F)) := by
  have HL := Lib.hid hL; have HM := Lib.hid hM; have HH := Lib.hid hH
  have Hlen := Lib.hid (show L.segs.length ≤ 1073741824 from by unfold Seg.Log.segs; rw [List.length_map]; have := hL.len; omega)
  obtain ⟨sa, sc, rfl⟩ : ∃ a c, sv = .slice a L.segs.length c := by
    obtain ⟨a, n, c, rfl, hl, _⟩ := Sat.rd h
    refine ⟨a, c, ?_⟩
    rw [show (ints L.segs).length = L.segs.length from List.length_map .., Nat.mul_one] at hl
    rw [hl]
  have w1 : IntKind.i64.wrap ((L.segs.length : Int) - 1) = (L.segs.length : Int) - 1 := IntWalk.i64_in _ (by have := Hlen.out; omega)
  clear hL hM hH
  go_enter Tryz.func110, Tryz.ntmps110
  go_wp2_with fail
  go_loopg [6] L.segs.length (fun g iq wr => ∃ k : Nat, g = 0 + k ∧ k ≤ L.segs.length ∧ iq = .int .i64 ((k : Int) - 1) ∧ Rep.split (lbt L M) L.segs L.segs.length = Rep.split (lbt L M) L.segs k ∧
    Sat w0 wr (osl 3 1 (.slice sa L.segs.length sc) (ints L.segs) :: LogRep p m L :: MedRep m M :: F))
  case atStart => exact ⟨L.segs.length, (Nat.zero_add _).symm, Nat.le_refl _, rfl, rfl, h⟩
  case round =>
    obtain ⟨k, rfl, hk, rfl, he, hS⟩ := hrel
    clear h
    cases k with
    | zero =>
      have c1 : ¬ (((0 : Nat) : Int) - 1) ≥ 0 := by decide
      have He := Lib.hid he
      clear he
      go_wp2_with fail
      go_ret2
      rw [He.out]
      exact ⟨_, rfl, rfl, hS⟩
    | succ k =>
      have e1 : ((k + 1 : Nat) : Int) - 1 = (k : Int) := by omega
      rw [e1]
      have c1 : (k : Int) ≥ 0 := by omega
      have c2 : (k : Int) < (L.segs.length : Int) := by omega
      have w2 : IntKind.i64.wrap ((k : Int) - 1) = (k : Int) - 1 := IntWalk.i64_in _ (by have := Hlen.out; omega)
      have w3 : IntKind.i64.wrap ((k : Int) + 1) = ((k + 1 : Nat) : Int) := by rw [IntWalk.i64_in _ (by have := Hlen.out; omega)]; omega
      obtain ⟨s, hs⟩ : ∃ s, L.segs[k]? = some s := ⟨_, List.getElem?_eq_getElem (by omega)⟩
      have hgd : L.segs.getD k 0 = s := by rw [List.getD, hs]; rfl
      have Hu := Lib.hid (show Rep.split (lbt L M) L.segs (k + 1) = if (L.bytes M s).2 ≠ 0 then (0, (L.bytes M s).2) else if (Frm.scan (L.bytes M s).1).2.2 = 0 ∧ Rep.endedF (Frm.scan (L.bytes M s).1).1 = true then (k + 1, 0) else Rep.split (lbt L M) L.segs k by
        rw [Rep.split, hgd])
      obtain ⟨bk, off, cc, hsv, hcell⟩ := osl_row (f := fun i : Int => [Value.int .i64 i]) (k := 1) (l := L.segs) (fun u _ => rfl) (by have := Sat.rd hS; rw [show ints L.segs = L.segs.flatMap fun i => [Value.int .i64 i] from by unfold ints; exact List.map_eq_flatMap] at this; exact this) hs (by decide)
      cases hsv
      have f0 := hcell 0 _ rfl
      rw [Nat.mul_one, Nat.add_zero] at f0
      have He := Lib.hid he
      have hb := lbytes_c HL.out HM.out s (hS.sb : Sat w0 wr (LogRep p m L :: MedRep m M :: osl 3 1 (.slice (some ⟨bk, off, none⟩) L.segs.length sc) (ints L.segs) :: F))
      have hk' := Lib.hid hk
      clear hcell hs hgd he hS hk
      go_wp2_with fail
      refine hb.mono ?_
      rintro ee w3 ⟨v, rfl, bv, rfl, hS3⟩
      clear hb
      obtain ⟨hcap, ca, cc, rfl⟩ := bsl_capL hS3
      by_cases h0 : (L.bytes M s).2 = 0
      rotate_left
      · have hb : ((L.bytes M s).2 != 0) = true := by rw [bne_iff_ne]; exact h0
        have Hf := Lib.hid (show Rep.split (lbt L M) L.segs (k + 1) = (0, (L.bytes M s).2) by rw [Hu.out, if_pos h0])
        clear h0
        go_wp2_with fail
        go_ret2
        rw [He.out, Hf.out]
        exact ⟨_, rfl, rfl, hS3.sb⟩
      have hb : ((L.bytes M s).2 != 0) = false := by rw [h0]; rfl
      have H0 := Lib.hid h0
      rw [h0]
      clear h0
      have hbl := Seg.bytes_len (L := L) HM.out s
      have hsc := fscan_c (w0 := w0) (w := w3) (L.bytes M s).1 (Ro.bsl _ _) hcap (Ro.os HH.out) (Nat.le_trans hbl (by decide)) hS3
      have Hbl := Lib.hid hbl
      clear hcap hbl
      go_wp2_with fail
      refine hsc.mono ?_
      rintro ee w4 ⟨v, rfl, fs, fv, hfs, hfk, rfl, hS4⟩
      clear hsc hS3
      obtain ⟨fa, fc, rfl⟩ := fnds_sl hfk hS4
      have hS5 : Sat w0 w4 (osl 3 1 (.slice (some ⟨bk, off, none⟩) L.segs.length sc) (ints L.segs) :: LogRep p m L :: MedRep m M :: F) := hS4.sb
      by_cases h1 : (Frm.scan (L.bytes M s).1).2.2 = 0
      rotate_left
      · have hb1 : ((Frm.scan (L.bytes M s).1).2.2 == 0) = false := by rw [beq_eq_false_iff_ne]; exact h1
        have Hf := Lib.hid (show Rep.split (lbt L M) L.segs (k + 1) = Rep.split (lbt L M) L.segs k by rw [Hu.out, if_neg (fun h => h H0.out), if_neg (fun h => h1 h.1)])
        clear h1 hS4 hfs hfk
        go_wp2_with fail
        go_roundg (0 + k)
        case measure => omega
        case rel => exact ⟨k, rfl, Nat.le_of_succ_le hk'.out, by first | rfl | go_num, He.out.trans Hf.out, hS5⟩
      have hb1 : ((Frm.scan (L.bytes M s).1).2.2 == 0) = true := beq_iff_eq.2 h1
      have hen := ended_c (w := w4) fs hfk (by
        have := Frm.scan_count (L.bytes M s).1
        rw [← hfs, List.length_map] at this
        have := Hbl.out; omega) (Sat.rd hS4)
      rw [hfs] at hen
      clear hS4 hfs hfk
      by_cases h2 : Rep.endedF (Frm.scan (L.bytes M s).1).1 = true
      · have Hf := Lib.hid (show Rep.split (lbt L M) L.segs (k + 1) = (k + 1, 0) by rw [Hu.out, if_neg (fun h => h H0.out), if_pos ⟨h1, h2⟩])
        rw [h2] at hen
        clear h1 h2
        go_wp2_with fail
        refine hen.mono ?_
        rintro ee w5 ⟨v, rfl, rfl, rfl⟩
        clear hen
        go_wp2_with fail
        go_ret2
        rw [He.out, Hf.out]
        exact ⟨_, rfl, rfl, hS5⟩
      · have Hf := Lib.hid (show Rep.split (lbt L M) L.segs (k + 1) = Rep.split (lbt L M) L.segs k by rw [Hu.out, if_neg (fun h => h H0.out), if_neg (fun h => h2 h.2)])
        rw [Bool.not_eq_true] at h2
        rw [h2] at hen
        clear h1 h2
        go_wp2_with fail
        refine hen.mono ?_
        rintro ee w5 ⟨v, rfl, rfl, rfl⟩
        clear hen
        go_wp2_with fail
        go_roundg (0 + k)
        case measure => omega
        case rel => exact ⟨k, rfl, Nat.le_of_succ_le hk'.out, by first | rfl | go_num, He.out.trans Hf.out, hS5⟩
end
end Go.Proofs.YtmjldaedhmipkaaGreatDoor
namespace Go.Rep
def lastOf (bt : Told) (ns : List Int) : Int × Int :=
  if (split bt ns ns.length).2 ≠ 0 then (0, (split bt ns ns.length).2) else if (split bt ns ns.length).1 = 0 then (-1, 0) else (ns.getD ((split bt ns ns.length).1 - 1) 0, 0)
end Go.Rep
namespace Go.Proofs.YtmjldaedhmipkaaGreatDoor
open Go Go.Sl Go.Med Go.MapKept Go.RowKit
section
variable {w0 w : World} {F : List HProp} {p m K : Nat} {L : Seg.Log} {M : Med} {sv : Value}
theorem ints_cell {sv : Value} {l : List Int} {i : Nat} {s : Int} (h : rdsl 1 sv (ints l) w) (hs : l[i]? = some s) : ∃ bk off c, sv = .slice (some ⟨bk, off, none⟩) l.length c ∧ w.cell? ⟨bk, off + i, none⟩ = some (.int .i64 s) := by
  obtain ⟨bk, off, cc, hsv, hcell⟩ := osl_row (f := fun i : Int => [Value.int .i64 i]) (k := 1) (l := l) (fun u _ => rfl) (by rw [show ints l = l.flatMap fun i => [Value.int .i64 i] from by unfold ints; exact List.map_eq_flatMap] at h; exact h) hs (by decide)
  have f0 := hcell 0 _ rfl
  rw [Nat.mul_one, Nat.add_zero] at f0
  exact ⟨bk, off, cc, hsv, f0⟩
theorem ints_sl {sv : Value} {l : List Int} (h : rdsl 1 sv (ints l) w) : ∃ a c, sv = .slice a l.length c := by
  obtain ⟨a, n, c, rfl, hl, _⟩ := h
  refine ⟨a, c, ?_⟩
  rw [show (ints l).length = l.length from List.length_map .., Nat.mul_one] at hl
  rw [hl]
end
section
variable {P : Program} {w0 w : World} {ops : Array Oper} {rest : List Oper} {a : Act} {Q : Exit → Act → World → Prop} {dst : Option Tmp} {t ty : TypeId} {pos : String} {after : Array Edge} {x y : Operand} {v v1 v2 : Value} {i1 i2 : Nat}
theorem wl_build2 (h1 : a.eval x = v1) (h2 : a.eval y = v2) (hr : ∀ w, (Instr.build ty #[(i1, v1), (i2, v2)]).run P w = .ok v w) (h : wpList P ops Q rest (a.put dst v) w) :
    wpList P ops Q (⟨dst, .build ty #[(i1, x), (i2, y)], t, pos, after, none⟩ :: rest) a w :=
  wpList_plain rfl fun _ hK => by
    unfold Oper.wp execOp
    simp only [List.map_toArray, List.map_cons, List.map_nil, h1, h2, Sem.run_bind, hr, Result.andThen_ok, Sem.run_pure]
    exact hK _ _ h
theorem wl_build0 (hr : ∀ w, (Instr.build ty #[]).run P w = .ok v w) (h : wpList P ops Q rest (a.put dst v) w) : wpList P ops Q (⟨dst, .build ty #[], t, pos, after, none⟩ :: rest) a w :=
  wpList_plain rfl fun _ hK => by
    unfold Oper.wp execOp
    simp only [List.map_toArray, List.map_nil, Sem.run_bind, hr, Result.andThen_ok, Sem.run_pure]
    exact hK _ _ h
theorem res_cell {L R : List HProp} {b : Nat} {T : TypeId} {cs : Array Value} {fn : Func} {p : Tmp} {tmps : Array Value} {d : TypeDesc} (hf : fn.results = #[.cell p ty]) (hs : Sat w0 w L) (hp : tmps.getD p undef = .pointer (some ⟨b, 0, none⟩)) (k : Pick (pt b (.cells cs T (0,0))) L R)
    (hu : P.underlying ty = some d) (hd : d.isRow = true) (hi : (P.info? ty).map (·.size) = some cs.size) : (results fn tmps).run P w = .ok (.agg cs) w := by
  have hl := run_loadVar_row (P := P) w b T ty cs (0, 0) d (hs.pick k).at hu (by cases d <;> simp_all [TypeDesc.isRow]) hi
  have e : (results fn tmps).run P w = ((asAddr (tmps.getD p undef)).run P w).andThen fun a w₁ => (loadVar ty a).run P w₁ := by
    simp only [results, hf]
    simp [Sem.run_bind, Result.andThen]
  rw [e, hp]
  simp [asAddr, hl, Result.andThen]
theorem res_tct {L R : List HProp} {b : Nat} {T : TypeId} {cs : Array Value} {fn : Func} {t p u : Tmp} {tmps : Array Value} {d : TypeDesc} (hf : fn.results = #[.tmp t, .cell p ty, .tmp u]) (hs : Sat w0 w L) (hp : tmps.getD p undef = .pointer (some ⟨b, 0, none⟩)) (k : Pick (pt b (.cells cs T (0,0))) L R)
    (hu : P.underlying ty = some d) (hd : d.isRow = true) (hi : (P.info? ty).map (·.size) = some cs.size) : (results fn tmps).run P w = .ok (.tuple #[tmps.getD t undef, .agg cs, tmps.getD u undef]) w := by
  have hl := run_loadVar_row (P := P) w b T ty cs (0, 0) d (hs.pick k).at hu (by cases d <;> simp_all [TypeDesc.isRow]) hi
  have e : (results fn tmps).run P w = ((asAddr (tmps.getD p undef)).run P w).andThen fun a w₁ => ((loadVar ty a).run P w₁).andThen fun v w₂ => .ok (.tuple #[tmps.getD t undef, v, tmps.getD u undef]) w₂ := by
    simp only [results, hf]
    simp [Sem.run_bind, Result.andThen]
  rw [e, hp]
  simp [asAddr, hl, Result.andThen]
theorem at_build2 (h : Stop (wpList P ops Q (⟨dst, .build ty #[(i1, x), (i2, y)], t, pos, after, none⟩ :: rest) a w)) : wpList P ops Q (⟨dst, .build ty #[(i1, x), (i2, y)], t, pos, after, none⟩ :: rest) a w := h.out
theorem at_build0 (h : Stop (wpList P ops Q (⟨dst, .build ty #[], t, pos, after, none⟩ :: rest) a w)) : wpList P ops Q (⟨dst, .build ty #[], t, pos, after, none⟩ :: rest) a w := h.out
end
section
variable {w0 w : World} {F : List HProp}
theorem plFlt : placesB Tryz.prog 75 = some [(0, 1), (1, 1), (2, 1), (3, 32), (35, 1)] := by kernel_rfl
theorem run_flt2 (x y : Int) (w : World) : (Instr.build 75 #[(0, .int .i64 x), (1, .int .i64 y)]).run Tryz.prog w = .ok (.agg (fltA ⟨x, y, 0⟩)) w := by
  have h := run_build (P := Tryz.prog) [(0, .int .i64 x), (1, .int .i64 y)] plFlt zFlt (by
    intro p hp
    have hzz : (Value.agg (fltA Rep.Flt.zero)).cells.size = 36 := by rfl
    rw [hzz]
    rcases List.mem_cons.1 hp with rfl | hp
    · exact ⟨0, rfl, by show 0 + 1 ≤ 36; omega⟩
    · rw [List.mem_singleton.1 hp]
      exact ⟨1, rfl, by show 1 + 1 ≤ 36; omega⟩) w
  exact h
theorem run_flt3 (x y z : Int) (w : World) : (Instr.build 75 #[(0, .int .i64 x), (1, .int .i64 y), (2, .int .i64 z)]).run Tryz.prog w = .ok (.agg (fltA ⟨x, y, z⟩)) w := by
  have h := run_build (P := Tryz.prog) [(0, .int .i64 x), (1, .int .i64 y), (2, .int .i64 z)] plFlt zFlt (by
    intro p hp
    have hzz : (Value.agg (fltA Rep.Flt.zero)).cells.size = 36 := by rfl
    rw [hzz]
    rcases List.mem_cons.1 hp with rfl | hp
    · exact ⟨0, rfl, by show 0 + 1 ≤ 36; omega⟩
    rcases List.mem_cons.1 hp with rfl | hp
    · exact ⟨1, rfl, by show 1 + 1 ≤ 36; omega⟩
    · rw [List.mem_singleton.1 hp]
      exact ⟨2, rfl, by show 2 + 1 ≤ 36; omega⟩) w
  exact h
theorem run_flt0 (w : World) : (Instr.build 75 #[]).run Tryz.prog w = .ok (.agg (fltA Rep.Flt.zero)) w := run_build (P := Tryz.prog) [] plFlt zFlt (by simp) w
set_option maxRecDepth 20000 in
set_option maxHeartbeats 4000000 in
theorem fault_c (s : Int) (at_ : Nat) (h : Sat w0 w F) : Calls Tryz.prog 114 #[.int .i64 s, .int .i64 at_] w (Rtn fun v w' => v = .agg (fltA (Rep.fault s at_)) ∧ Sat w0 w' F) := by
  have hone : ∀ f, (fltA f).size = 36 := fun f => rfl
  by_cases h0 : at_ = 0
  · have hb : ((at_ : Int) == 0) = true := by rw [h0]; rfl
    have e := Lib.hid (show Rep.fault s at_ = ⟨1, s, 0⟩ from if_pos h0)
    clear h0
    go_enter Tryz.func114, Tryz.ntmps114
    go_wp2_with (with_reducible apply at_alloc)
    refine ⟨?_⟩
    refine wl_alloc zFlt h rfl ?_
    intro b4 w4 h4
    go_wp2_with (first
      | ((with_reducible apply at_build2); refine ⟨?_⟩; refine wl_build2 (by rfl) (by rfl) (fun w => run_flt2 1 s w) ?_)
      | ((with_reducible apply at_store); refine ⟨?_⟩; refine wl_storeA (fltA ⟨1, s, 0⟩) h4 (by rfl) (by rfl) (by rfl) upd0 (by kernel_rfl) (by rfl) ?_; intro w9 h9))
    refine ⟨rfl, _, res_cell rfl h9 (by rfl) pkD Tryz.underlying75 rfl (by kernel_rfl), ?_⟩
    exact ⟨_, rfl, by rw [e.out], h9.drop⟩
  · have hb : ((at_ : Int) == 0) = false := by rw [beq_eq_false_iff_ne]; omega
    have e := Lib.hid (show Rep.fault s at_ = ⟨2, s, at_⟩ from if_neg h0)
    clear h0
    go_enter Tryz.func114, Tryz.ntmps114
    go_wp2_with (with_reducible apply at_alloc)
    refine ⟨?_⟩
    refine wl_alloc zFlt h rfl ?_
    intro b4 w4 h4
    go_wp2_with (first
      | ((with_reducible apply at_build3); refine ⟨?_⟩; refine wl_build3 (by rfl) (by rfl) (by rfl) (fun w => run_flt3 2 s at_ w) ?_)
      | ((with_reducible apply at_store); refine ⟨?_⟩; refine wl_storeA (fltA ⟨2, s, at_⟩) h4 (by rfl) (by rfl) (by rfl) upd0 (by kernel_rfl) (by rfl) ?_; intro w9 h9))
    refine ⟨rfl, _, res_cell rfl h9 (by rfl) pkD Tryz.underlying75 rfl (by kernel_rfl), ?_⟩
    exact ⟨_, rfl, by rw [e.out], h9.drop⟩
end
end Go.Proofs.YtmjldaedhmipkaaGreatDoor
namespace Go.Rep
open Go.Frm (Bs)
def runAt (bt : Told) (ns : List Int) (n : Nat) : (Flt × Int) ⊕ Nat := match bad bt (ns.take n) with
  | some x => .inl x
  | none => .inr n
def run (bt : Told) (ns : List Int) : (Flt × Int) ⊕ Nat :=
  if (split bt ns ns.length).2 ≠ 0 then .inl (Flt.zero, (split bt ns ns.length).2) else runAt bt ns (split bt ns ns.length).1
theorem runAt_bad {bt : Told} {ns : List Int} {n : Nat} {x : Flt × Int} (h : bad bt (ns.take n) = some x) : runAt bt ns n = .inl x := by unfold runAt; rw [h]
theorem runAt_none {bt : Told} {ns : List Int} {n : Nat} (h : bad bt (ns.take n) = none) : runAt bt ns n = .inr n := by unfold runAt; rw [h]
def lastOfL (l : List Int) : Int := match l.getLast? with
  | some s => s
  | none => -1
theorem newest_mem : ∀ {l : List Row} {k : Bs} {r : Row}, newest l k = some r → r ∈ l
  | [], _, _, h => by cases h
  | x :: l, k, r, h => by
    unfold newest at h
    split at h
    · rename_i y hy
      cases h
      exact .tail _ (newest_mem hy)
    · split at h
      · cases h; exact .head _
      · cases h
theorem ledger_place {l : List Row} {k : Bs} {a : Abt} (h : ledger l k = some a) : ∃ r ∈ l, a.place = rplc r := by
  unfold ledger at h
  cases hn : newest l k with
  | none => rw [hn] at h; cases h
  | some r => rw [hn] at h; cases h; exact ⟨r, newest_mem hn, rfl⟩
theorem rowsOf_take (bt : Told) (ns : List Int) (n : Nat) : ∀ r ∈ rowsOf bt (ns.take n), r ∈ rowsOf bt ns := fun r hr => by
  unfold rowsOf at hr ⊢
  obtain ⟨s, hs, h⟩ := List.mem_flatMap.1 hr
  exact List.mem_flatMap.2 ⟨s, List.mem_of_mem_take hs, h⟩
theorem rowsOf_le (bt : Told) (ns : List Int) (n : Nat) : (rowsOf bt (ns.take n)).length ≤ (rowsOf bt ns).length := by
  have e : rowsOf bt ns = rowsOf bt (ns.take n) ++ rowsOf bt (ns.drop n) := by
    unfold rowsOf; rw [← List.flatMap_append, List.take_append_drop]
  rw [e, List.length_append]; omega
theorem lastOfL_snoc (l : List Int) (s : Int) : lastOfL (l ++ [s]) = s := by unfold lastOfL; rw [List.getLast?_append]; rfl
end Go.Rep
namespace Go.Proofs.YtmjldaedhmipkaaGreatDoor
open Go Go.Sl Go.Med Go.MapKept Go.RowKit
section
variable {P : Program} {w0 w : World} {L R : List HProp} {b : Nat} {ops : Array Oper} {a : Act} {Q : Exit → Act → World → Prop} {K : Act → World → Prop} {E : Prop} {dst : Option Tmp} {t ty : TypeId} {pos : String} {after : Array Edge} {y : Operand} {v : Value} {cs : Array Value}
theorem eff_box (hs : Sat w0 w L) (hy : a.eval y = v) (hcs : v.cells = cs)
    (hK : ∀ b w', Sat w0 w' (pt b (.cells cs ty (0,0)) :: L) → K (a.put dst (.pointer (some ⟨b, 0, none⟩))) w') :
    if Region.wanted ⟨dst, .box ty y, t, pos, after, none⟩ (yielded ops a.tmps) = true then Oper.wp P ⟨dst, .box ty y, t, pos, after, none⟩ a w K Q else E := by
  subst hcs
  refine eff_of rfl ?_
  have hS := hs.alloc (.cells v.cells ty)
  unfold Oper.wp execOp
  have hrun : (Instr.box ty v).run P w = .ok (.pointer (some ⟨w.heap.size, 0, none⟩)) (w.alloc (.cells v.cells ty)) := by
    simp [Instr.box, newVar, newRow, go_sem]
  simp only [hy, Sem.run_bind, Sem.run_pure, hrun, Result.andThen_ok]
  exact hK _ _ hS
end
section
variable {w0 w : World} {F R : List HProp} {sv : Value}
theorem tail_c {l : List Int} {n : Nat} (hn : n ≤ l.length) (h : Sat w0 w (osl 3 1 sv (ints l) :: R)) :
    ∃ tv, (∀ w, (Instr.sliceAt 45 sv (some (.int .i64 n)) none none).run Tryz.prog w = .ok tv w) ∧ (∃ a' c', tv = .slice a' (l.length - n) c') ∧ ∀ W, rdsl 1 sv (ints l) W → rdsl 1 tv (ints (l.drop n)) W := by
  rcases h.osl_cases with ⟨rfl, he, h'⟩ | ⟨g, k, cap, cs, rfl, hl, hk, hc, hcm, htk, hp⟩
  · obtain rfl : l = [] := by simpa [ints] using he
    obtain rfl : n = 0 := by simpa using hn
    refine ⟨.slice none 0 0, fun w => by go_simp, ⟨none, 0, rfl⟩, fun W hW => by simpa using hW⟩
  · obtain rfl : k = l.length := by simpa [ints] using hl.symm
    by_cases hce : cap = n
    · have hd : l.drop n = [] := List.drop_eq_nil_of_le (by omega)
      have e0 : l.length - n = 0 := by omega
      rw [hd, e0]
      have h1 : n ≤ cap := by omega
      have h2 : l.length = n := by omega
      refine ⟨.slice (some ⟨g, 0, none⟩) 0 0, fun w => ?_, ⟨_, _, rfl⟩, fun W hW => ⟨_, _, _, rfl, rfl, fun j x hj => by cases hj⟩⟩
      have h4 : (0 : Int) ≤ (n : Int) := by omega
      have h5 : (n : Int).toNat = n := by omega
      subst hce
      go_simp
    · refine ⟨.slice (some ⟨g, n, none⟩) (l.length - n) (cap - n), fun w => ?_, ⟨_, _, rfl⟩, fun W hW => ?_⟩
      · have h4 : (0 : Int) ≤ (n : Int) := by omega
        have h5 : (n : Int).toNat = n := by omega
        have h6 : n ≤ cap := by omega
        go_simp
      · obtain ⟨a, n', c, he, hl', hx⟩ := hW
        cases he
        refine ⟨_, _, _, rfl, by unfold ints; rw [List.length_map, List.length_drop, Nat.mul_one], fun j x hj => ⟨_, rfl, ?_⟩⟩
        have hj2 : (ints l)[n + j]? = some x := by
          unfold ints at hj ⊢
          rw [List.map_drop, List.getElem?_drop] at hj
          exact hj
        obtain ⟨ad, e, hc'⟩ := hx (n + j) x hj2
        cases e
        rw [adr_add, Nat.zero_add] at hc'
        rw [adr_add]
        exact hc'
theorem head_c {l : List Int} {n : Nat} (hn : n ≤ l.length) (h : Sat w0 w (osl 3 1 sv (ints l) :: R)) :
    ∃ a' c', (∀ w, (Instr.sliceAt 45 sv none (some (.int .i64 n)) none).run Tryz.prog w = .ok (.slice a' n c') w) ∧ ∀ W, rdsl 1 sv (ints l) W → rdsl 1 (.slice a' n c') (ints (l.take n)) W := by
  rcases h.osl_cases with ⟨rfl, he, h'⟩ | ⟨g, k, cap, cs, rfl, hl, hk, hc, hcm, htk, hp⟩
  · obtain rfl : l = [] := by simpa [ints] using he
    obtain rfl : n = 0 := by simpa using hn
    refine ⟨none, 0, fun w => by go_simp, fun W hW => by simpa using hW⟩
  · obtain rfl : k = l.length := by simpa [ints] using hl.symm
    refine ⟨some ⟨g, 0, none⟩, cap, fun w => ?_, fun W hW => ?_⟩
    · have h4 : (0 : Int) ≤ (n : Int) := by omega
      have h5 : (n : Int).toNat = n := by omega
      have h6 : n ≤ cap := by omega
      go_simp
    · obtain ⟨a, n', c, he, hl', hx⟩ := hW
      cases he
      refine ⟨_, _, _, rfl, by unfold ints; rw [List.length_map, List.length_take, Nat.mul_one]; omega, fun j x hj => ?_⟩
      refine hx j x ?_
      unfold ints at hj ⊢
      rw [List.map_take, List.getElem?_take] at hj
      split at hj
      · exact hj
      · cases hj
theorem TabMA.lists {p B : Nat} {m : Frm.Bs → Option Rep.Abt} (h : Sat w0 w (TabMA p m B :: R)) : ∃ kv, Tab.Lists m kv ∧ (∀ q ∈ kv, q.1.length = 32) ∧ kv.length ≤ B := by
  obtain ⟨t, sv', ⟨ok, is, hb⟩, hS⟩ := TabMA.open h
  have hp := List.mergeSort_perm (t.slots.filter fun x => decide (x.st = 1)) (fun a b : Tab.Slot Rep.Abt => decide (¬ b.key < a.key))
  have hw := List.pairwise_mergeSort (le := fun a b : Tab.Slot Rep.Abt => decide (¬ b.key < a.key)) (fun a b c h1 h2 => by
      rw [decide_eq_true_eq] at h1 h2 ⊢
      intro h3
      rcases Tab.bs_tri a.key b.key with q | q | q
      · exact h2 (List.lt_trans h3 q)
      · exact h2 (q ▸ h3)
      · exact h1 q) (fun a b => by
      rw [Bool.or_eq_true, decide_eq_true_eq, decide_eq_true_eq]
      by_cases q : b.key < a.key
      · exact .inr fun q2 => List.lt_irrefl _ (List.lt_trans q q2)
      · exact .inl q) (t.slots.filter fun x => decide (x.st = 1))
  obtain ⟨h1, h2⟩ := Tab.lists_of ok.good is hp (hw.imp fun {a b} q => by rwa [decide_eq_true_eq] at q)
  refine ⟨_, h1, fun q hq => ?_, ?_⟩
  · obtain ⟨x, hx, rfl⟩ := List.mem_map.1 hq
    exact (h2 x hx).2
  · rw [List.length_map, hp.length_eq, ← List.countP_eq_length_filter]
    have e : t.slots.countP (fun x => decide (x.st = 1)) = Tab.fulls t.slots := by
      unfold Tab.fulls
      refine List.countP_congr fun x _ => ?_
      simp
    have := ok.n; omega
end
def RunOut (w0 : World) (F : List HProp) (bt : Rep.Told) (ns : List Int) (p m : Nat) (L : Seg.Log) (M : Med) (v : Value) (w' : World) : Prop :=
  match Rep.run bt ns with
  | .inl (fl, e) => v = .tuple #[.pointer none, .agg (fltA fl), errno e] ∧ Sat w0 w' (LogRep p m L :: MedRep m M :: F)
  | .inr n => ∃ (ps pi : Nat) (uv tv av : Value) (kv : List (Frm.Bs × Rep.Abt)), v = .tuple #[ptr ps, .agg (fltA Rep.Flt.zero), errno 0] ∧
      (Tab.Lists (Rep.ledger (Rep.rowsOf bt (ns.take n))) kv ∧ (∀ q ∈ kv, q.1.length = 32) ∧ kv.length ≤ (Rep.rowsOf bt (ns.take n)).length) ∧
      ((∃ a' c', tv = .slice a' (ns.length - n) c') ∧ ∀ W, rdsl 1 av (ints ns) W → rdsl 1 tv (ints (ns.drop n)) W) ∧
      Sat w0 w' (stPt ps (Rep.lastOfL (ns.take n)) pi uv tv :: TabML pi (Tab.mapOf (Rep.puts kv)) kv.length :: osl 115 3 uv (((Rep.usesOf bt (ns.take n)).map (Rep.upd kv)).flatMap uenc) :: osl 3 1 av (ints ns) :: LogRep p m L :: MedRep m M :: F)
section
variable {w0 w : World} {F : List HProp} {p m K : Nat} {L : Seg.Log} {M : Med}
theorem zLed : zeroB Tryz.prog 197 = some (.agg #[.pointer none]) := by kernel_rfl
set_option maxRecDepth 20000 in
set_option maxHeartbeats 16000000 in
theorem run_c (hL : L.Ok) (hM : M.Ok K) (hH : Ro w0 F Half) (hrows : (Rep.rowsOf (lbt L M) L.segs).length ≤ 12000000) (hsz : ∀ r ∈ Rep.rowsOf (lbt L M) L.segs, (r.2.size : Int) ≤ 4294967296) (h : Sat w0 w (LogRep p m L :: MedRep m M :: F)) :
    Calls Tryz.prog 37 #[ptr p] w (Rtn fun v w' => RunOut w0 F (lbt L M) L.segs p m L M v w') := by
  have Hlen := Lib.hid (show L.segs.length ≤ 1048576 from by unfold Seg.Log.segs; rw [List.length_map]; have := hL.len; omega)
  have hse := lsegs_c hL h
  have Hnn := Lib.hid (show ∀ s ∈ L.segs, 0 ≤ s from fun s hs => by
    unfold Seg.Log.segs at hs
    obtain ⟨x, hx, rfl⟩ := List.mem_map.1 hs
    exact (hL.nums x hx).1)
  have HL := Lib.hid hL; have HM := Lib.hid hM; have HH := Lib.hid hH; have Hrows := Lib.hid hrows; have Hsz := Lib.hid hsz
  clear hL hM hH hrows hsz
  go_enter Tryz.func37, Tryz.ntmps37
  go_wp2_with (with_reducible apply at_alloc)
  refine ⟨?_⟩
  refine wl_alloc zFlt h rfl ?_
  intro b3 w3 h3
  clear hse h
  go_wp2_with fail
  refine (lsegs_c HL.out (h3.pick pick1)).mono ?_
  rintro ee w4 ⟨sv, rfl, h4⟩
  have hsp := split_c HL.out HM.out (Ro.os HH.out) (h4.sb : Sat w0 w4 (osl 3 1 sv (ints L.segs) :: LogRep p m L :: MedRep m M :: pt b3 (.cells (fltA Rep.Flt.zero) 75 (0,0)) :: F))
  clear h3 h4
  go_wp2_with fail
  refine hsp.mono ?_
  rintro ee w5 ⟨v, rfl, rfl, h5⟩
  clear hsp
  by_cases h0 : (Rep.split (lbt L M) L.segs L.segs.length).2 = 0
  rotate_left
  · have hb : ((Rep.split (lbt L M) L.segs L.segs.length).2 != 0) = true := by rw [bne_iff_ne]; exact h0
    have Hf := Lib.hid (show Rep.run (lbt L M) L.segs = .inl (Rep.Flt.zero, (Rep.split (lbt L M) L.segs L.segs.length).2) by unfold Rep.run; rw [if_pos h0])
    have h6 : Sat w0 w5 (pt b3 (.cells (fltA Rep.Flt.zero) 75 (0,0)) :: LogRep p m L :: MedRep m M :: F) := h5.sb
    clear h0 h5
    go_wp2_with (first
      | ((with_reducible apply at_build0); refine ⟨?_⟩; refine wl_build0 (fun w => run_flt0 w) ?_)
      | ((with_reducible apply at_store); refine ⟨?_⟩; refine wl_storeA (fltA Rep.Flt.zero) h6 (by rfl) (by rfl) (by rfl) upd0 (by kernel_rfl) (by rfl) ?_; intro w9 h9))
    refine ⟨rfl, _, res_tct rfl h9 (by rfl) pkD Tryz.underlying75 rfl (by kernel_rfl), _, rfl, ?_⟩
    unfold RunOut
    rw [Hf.out]
    exact ⟨rfl, h9.drop⟩
  have hb : ((Rep.split (lbt L M) L.segs L.segs.length).2 != 0) = false := by rw [h0]; rfl
  have Hle := Lib.hid (Rep.split_le (lbt L M) L.segs L.segs.length)
  have Hf := Lib.hid (show Rep.run (lbt L M) L.segs = Rep.runAt (lbt L M) L.segs (Rep.split (lbt L M) L.segs L.segs.length).1 by unfold Rep.run; rw [if_neg (fun h => h h0)])
  rw [h0]
  generalize (Rep.split (lbt L M) L.segs L.segs.length).1 = n at *
  clear h0
  obtain ⟨tv, htl, ⟨ta, tc, rfl⟩, htr⟩ := tail_c Hle.out h5
  have Htr := Lib.hid htr
  clear htr
  go_wp2_with fail
  have hG : True := trivial
  have h6 := h5.drew
  clear h5
  refine wpL_begin [] (fun w' => True) (by kernel_rfl) ?_
  refine rp 1 (hy := (yl_move evD)) (h := ?_)
  refine rp 2 (hy := (yl_move evD)) (h := ?_)
  refine rp 3 (hy := (yl_slice_lo evD evD htl)) (h := ?_)
  refine rg_eff 0 evD (by kernel_rfl) (fun K hK => ?_)
  refine eff_call [] (by kernel_rfl) (by simp) ?_
  refine (newL_c h6).mono ?_
  rintro ee w7 ⟨v, rfl, pi, rfl, h7⟩
  refine hK _ _ (.inr (.inl trivial)) ?_
  clear hK h6
  refine rp 4 (hy := (by (refine Or.inl ⟨by rfl, ?_⟩; ((intro wq; go_simp); first | done | (with_reducible rfl))))) (h := ?_)
  refine rg_eff 5 evD (by kernel_rfl) (fun K hK => ?_)
  refine eff_box (cs := #[.int .i64 (-1), ptr pi, .slice none 0 0, .slice ta (L.segs.length - n) tc]) h7 evD evD ?_
  intro ps w8 h8
  refine hK _ _ (.inr (.inl trivial)) ?_
  clear hK h7
  refine rp 6 (hy := (yl_assign evD)) (h := ?_)
  refine wpL_done (by kernel_rfl) ?_
  clear hG
  go_wp2_with fail
  refine (newA_c h8).mono ?_
  rintro ee w9 ⟨v, rfl, pg, rfl, h9⟩
  clear h8
  go_wp2_with (with_reducible apply at_alloc)
  refine ⟨?_⟩
  refine wl_alloc zLed h9 rfl ?_
  intro b9 w10 h10
  clear h9
  obtain ⟨ha, hc, hhl, hhr⟩ := head_c Hle.out (h10.sb : Sat w0 w10 (osl 3 1 sv (ints L.segs) :: F))
  go_wp2_with ((with_reducible apply at_store); refine ⟨?_⟩; refine wl_store (cs' := #[ptr pg]) h10 (by rfl) evD (by rfl) upd0 (Nat.le_of_ble_eq_true (by rfl)) (by kernel_rfl) (by rfl) ?_; intro w11 h11)
  have h12 : Sat w0 w11 (stPt ps (Rep.lastOfL (L.segs.take 0)) pi (.slice none 0 0) (.slice ta (L.segs.length - n) tc) :: osl 115 3 (.slice none 0 0) ((Rep.usesOf (lbt L M) (L.segs.take 0)).flatMap uenc) :: TabML pi (fun _ => none) 0 :: pt b9 (.cells #[ptr pg] 197 (0,0)) ::
    TabMA pg (Rep.ledger (Rep.rowsOf (lbt L M) (L.segs.take 0))) (Rep.rowsOf (lbt L M) (L.segs.take 0)).length :: pt b3 (.cells (fltA Rep.Flt.zero) 75 (0,0)) :: osl 3 1 sv (ints L.segs) :: LogRep p m L :: MedRep m M :: F) := (Sat.osl_nil.2 h11).sb
  clear h10 h11 htl
  go_loopg [45] n (fun g iq wr => ∃ (i : Nat) (uv : Value), g = n - i ∧ i ≤ n ∧ iq = .int .i64 i ∧ Rep.bad (lbt L M) (L.segs.take i) = none ∧ Sat w0 wr (stPt ps (Rep.lastOfL (L.segs.take i)) pi uv (.slice ta (L.segs.length - n) tc) :: osl 115 3 uv ((Rep.usesOf (lbt L M) (L.segs.take i)).flatMap uenc) :: TabML pi (fun _ => none) 0 :: pt b9 (.cells #[ptr pg] 197 (0,0)) ::
    TabMA pg (Rep.ledger (Rep.rowsOf (lbt L M) (L.segs.take i))) (Rep.rowsOf (lbt L M) (L.segs.take i)).length :: pt b3 (.cells (fltA Rep.Flt.zero) 75 (0,0)) :: osl 3 1 sv (ints L.segs) :: LogRep p m L :: MedRep m M :: F))
  case atStart => exact ⟨0, .slice none 0 0, rfl, Nat.zero_le _, rfl, rfl, h12⟩
  case round =>
    obtain ⟨i, uv, rfl, hi, rfl, hbad, hS⟩ := hrel
    clear h12
    have Hbad := Lib.hid hbad
    clear hbad
    by_cases hlt : i < n
    rotate_left
    · obtain rfl : i = n := by omega
      have c1 : ¬ (i : Int) < (i : Int) := by omega
      obtain ⟨kv, k1, k2, k3⟩ := TabMA.lists (hS.pk (A := TabMA pg (Rep.ledger (Rep.rowsOf (lbt L M) (L.segs.take i))) (Rep.rowsOf (lbt L M) (L.segs.take i)).length))
      have k4 := Nat.le_trans (Rep.rowsOf_le (lbt L M) L.segs i) Hrows.out
      have hks : ∀ q ∈ kv, q.1.length = 32 ∧ 0 ≤ q.2.place.size ∧ q.2.place.size ≤ 4294967296 := fun q hq => by
        obtain ⟨r, hr, e⟩ := Rep.ledger_place ((k1.mem q.1 q.2).1 hq)
        rw [e]
        exact ⟨k2 q hq, Int.natCast_nonneg _, Hsz.out r (Rep.rowsOf_take _ _ _ r hr)⟩
      have hfl := fill_c (us := Rep.usesOf (lbt L M) (L.segs.take i)) k1 (by omega) (by omega) hks (by unfold Rep.usesOf; rw [List.length_map, List.length_take]; have := Hlen.out; omega)
        (hS.sb : Sat w0 wr (stPt ps (Rep.lastOfL (L.segs.take i)) pi uv (.slice ta (L.segs.length - i) tc) :: TabML pi (fun _ => none) 0 :: TabMA pg (Rep.ledger (Rep.rowsOf (lbt L M) (L.segs.take i))) (Rep.rowsOf (lbt L M) (L.segs.take i)).length ::
          osl 115 3 uv ((Rep.usesOf (lbt L M) (L.segs.take i)).flatMap uenc) :: pt b3 (.cells (fltA Rep.Flt.zero) 75 (0,0)) :: osl 3 1 sv (ints L.segs) :: LogRep p m L :: MedRep m M :: F))
      have K := Lib.hid (And.intro k1 (And.intro k2 k3))
      have Hg := Lib.hid (Hf.out.trans (Rep.runAt_none Hbad.out))
      have Htv := Lib.hid Htr.out
      clear k1 k2 k3 k4 hks hlt hi
      go_wp2_with ((with_reducible apply at_load); refine ⟨?_⟩; refine wl_loadA (cs := #[ptr pg]) hS (by rfl) (pick_there (pick_there (pick_there pick0))) Tryz.underlying197 rfl (by kernel_rfl) ?_)
      refine hfl.mono ?_
      rintro ee w14 ⟨v, rfl, h14⟩
      clear hfl hS
      go_wp2_with (first
        | ((with_reducible apply at_build0); refine ⟨?_⟩; refine wl_build0 (fun w => run_flt0 w) ?_)
        | ((with_reducible apply at_store); refine ⟨?_⟩; refine wl_storeA (fltA Rep.Flt.zero) h14 (by rfl) (by rfl) (by rfl) (upd_there (upd_there (upd_there (upd_there upd0)))) (by kernel_rfl) (by rfl) ?_; intro w15 h15))
      refine ⟨rfl, _, res_tct rfl h15 (by rfl) (pick_there (pick_there (pick_there (pick_there pick0)))) Tryz.underlying75 rfl (by kernel_rfl), _, rfl, ?_⟩
      unfold RunOut
      rw [Hg.out]
      exact ⟨ps, pi, uv, .slice ta (L.segs.length - i) tc, sv, kv, rfl, K.out, ⟨⟨ta, tc, rfl⟩, Htv.out⟩, h15.sb⟩
    have c1 : (i : Int) < (n : Int) := by omega
    have hwi : IntKind.i64.wrap ((i : Int) + 1) = (i : Int) + 1 := IntWalk.i64_in _ (by have := Hle.out; have := Hlen.out; omega)
    have hni : (L.segs.take n).length = n := by rw [List.length_take]; have := Hle.out; omega
    obtain ⟨s, hs⟩ : ∃ s, (L.segs.take n)[i]? = some s := ⟨_, List.getElem?_eq_getElem (by omega)⟩
    have hs2 : L.segs[i]? = some s := by rw [List.getElem?_take] at hs; rw [if_pos hlt] at hs; exact hs
    have Htk := Lib.hid (show L.segs.take (i + 1) = L.segs.take i ++ [s] by rw [List.take_add_one, hs2, Option.toList_some])
    have Hspl := Lib.hid (show ∃ post, L.segs.take n = L.segs.take i ++ s :: post by
      obtain ⟨h1, e⟩ := List.getElem?_eq_some_iff.1 hs
      refine ⟨(L.segs.take n).drop (i + 1), ?_⟩
      have e2 : L.segs.take i = (L.segs.take n).take i := by rw [List.take_take, Nat.min_eq_left (Nat.le_of_lt hlt)]
      rw [e2, ← e, ← List.drop_eq_getElem_cons h1, List.take_append_drop])
    have Hs0 := Lib.hid (Hnn.out s (List.mem_of_getElem? hs2))
    obtain ⟨bk, off, c', hsv, f0⟩ := ints_cell (hhr _ (Sat.rd (hS.pk (A := osl 3 1 sv (ints L.segs))))) hs
    rw [hni] at hsv
    cases hsv
    have hb := lbytes_c HL.out HM.out s (hS.sb : Sat w0 wr (LogRep p m L :: MedRep m M :: stPt ps (Rep.lastOfL (L.segs.take i)) pi uv (.slice ta (L.segs.length - n) tc) :: osl 115 3 uv ((Rep.usesOf (lbt L M) (L.segs.take i)).flatMap uenc) :: TabML pi (fun _ => none) 0 :: pt b9 (.cells #[ptr pg] 197 (0,0)) ::
      TabMA pg (Rep.ledger (Rep.rowsOf (lbt L M) (L.segs.take i))) (Rep.rowsOf (lbt L M) (L.segs.take i)).length :: pt b3 (.cells (fltA Rep.Flt.zero) 75 (0,0)) :: osl 3 1 sv (ints L.segs) :: F))
    have Hlt := Lib.hid hlt
    clear hS hs hs2 hni hlt hi
    go_wp2_with fail
    refine hb.mono ?_
    rintro ee w20 ⟨v, rfl, bv, rfl, h20⟩
    clear hb f0
    obtain ⟨hcap, ca, cc, rfl⟩ := bsl_capL h20
    by_cases h0 : (L.bytes M s).2 = 0
    rotate_left
    · have hb1 : ((L.bytes M s).2 != 0) = true := by rw [bne_iff_ne]; exact h0
      have Hg := Lib.hid (show Rep.run (lbt L M) L.segs = .inl (Rep.Flt.zero, (L.bytes M s).2) by
        rw [Hf.out]
        obtain ⟨post, e⟩ := Hspl.out
        exact Rep.runAt_bad (by rw [e]; exact Rep.bad_power Hbad.out h0))
      have h21 : Sat w0 w20 (pt b3 (.cells (fltA Rep.Flt.zero) 75 (0,0)) :: LogRep p m L :: MedRep m M :: F) := h20.sb
      clear h20 h0 hcap
      go_wp2_with (first
        | ((with_reducible apply at_build0); refine ⟨?_⟩; refine wl_build0 (fun w => run_flt0 w) ?_)
        | ((with_reducible apply at_store); refine ⟨?_⟩; refine wl_storeA (fltA Rep.Flt.zero) h21 (by rfl) (by rfl) (by rfl) upd0 (by kernel_rfl) (by rfl) ?_; intro w22 h22))
      refine ⟨rfl, _, res_tct rfl h22 (by rfl) pkD Tryz.underlying75 rfl (by kernel_rfl), _, rfl, ?_⟩
      unfold RunOut
      rw [Hg.out]
      exact ⟨rfl, h22.drop⟩
    have hb1 : ((L.bytes M s).2 != 0) = false := by rw [h0]; rfl
    have H0 := Lib.hid h0
    rw [h0]
    clear h0
    have hbl := Seg.bytes_len (L := L) HM.out s
    have hsc := fscan_c (w0 := w0) (w := w20) (L.bytes M s).1 (Ro.bsl _ _) hcap (Ro.os HH.out) (Nat.le_trans hbl (by decide)) h20
    clear hcap
    go_wp2_with fail
    refine hsc.mono ?_
    rintro ee w21 ⟨v, rfl, fs, fv, hfs, hfk, rfl, h21⟩
    clear hsc h20
    obtain ⟨fa, fc, rfl⟩ := fnds_sl hfk h21
    by_cases h1 : (Frm.scan (L.bytes M s).1).2.2 = 0
    rotate_left
    · have hb2 : ((Frm.scan (L.bytes M s).1).2.2 != 0) = true := by rw [bne_iff_ne]; exact h1
      have Hg := Lib.hid (show Rep.run (lbt L M) L.segs = .inl (Rep.fault s (Frm.scan (L.bytes M s).1).2.1, 13) by
        rw [Hf.out]
        obtain ⟨post, e⟩ := Hspl.out
        exact Rep.runAt_bad (by rw [e]; exact Rep.bad_scan Hbad.out H0.out h1))
      have h22 : Sat w0 w21 (pt b3 (.cells (fltA Rep.Flt.zero) 75 (0,0)) :: LogRep p m L :: MedRep m M :: F) := h21.sb
      clear h21 h1 hfs hfk
      go_wp2_with fail
      refine (fault_c s (Frm.scan (L.bytes M s).1).2.1 h22).mono ?_
      rintro ee w23 ⟨v, rfl, rfl, h23⟩
      clear h22
      go_wp2_with ((with_reducible apply at_store); refine ⟨?_⟩; refine wl_storeA (fltA (Rep.fault s (Frm.scan (L.bytes M s).1).2.1)) h23 (by rfl) (by rfl) (by rfl) upd0 (by kernel_rfl) (by rfl) ?_; intro w24 h24)
      refine ⟨rfl, _, res_tct rfl h24 (by rfl) pkD Tryz.underlying75 rfl (by kernel_rfl), _, rfl, ?_⟩
      unfold RunOut
      rw [Hg.out]
      exact ⟨rfl, h24.drop⟩
    have hb2 : ((Frm.scan (L.bytes M s).1).2.2 != 0) = false := by rw [h1]; rfl
    have H1 := Lib.hid h1
    rw [h1]
    clear h1
    have h22 : Sat w0 w21 (TabMA pg (Rep.ledger (Rep.rowsOf (lbt L M) (L.segs.take i) ++ (fs.take 0).map fun q => (s, q.1))) ((Rep.rowsOf (lbt L M) (L.segs.take i)).length + 0) :: stPt ps (Rep.lastOfL (L.segs.take i)) pi uv (.slice ta (L.segs.length - n) tc) :: osl 115 3 uv ((Rep.usesOf (lbt L M) (L.segs.take i)).flatMap uenc) :: TabML pi (fun _ => none) 0 :: pt b9 (.cells #[ptr pg] 197 (0,0)) ::
      pt b3 (.cells (fltA Rep.Flt.zero) 75 (0,0)) :: osl 3 1 sv (ints L.segs) :: LogRep p m L :: MedRep m M :: osl 203 36 (.slice fa fs.length fc) (fndsL fs) :: dataF fs :: F) := by
      have q : Sat w0 w21 (TabMA pg (Rep.ledger (Rep.rowsOf (lbt L M) (L.segs.take i))) (Rep.rowsOf (lbt L M) (L.segs.take i)).length :: stPt ps (Rep.lastOfL (L.segs.take i)) pi uv (.slice ta (L.segs.length - n) tc) :: osl 115 3 uv ((Rep.usesOf (lbt L M) (L.segs.take i)).flatMap uenc) :: TabML pi (fun _ => none) 0 :: pt b9 (.cells #[ptr pg] 197 (0,0)) ::
      pt b3 (.cells (fltA Rep.Flt.zero) 75 (0,0)) :: osl 3 1 sv (ints L.segs) :: LogRep p m L :: MedRep m M :: osl 203 36 (.slice fa fs.length fc) (fndsL fs) :: dataF fs :: F) := h21.sb
      rw [List.take_zero, List.map_nil, List.append_nil, Nat.add_zero]
      exact q
    have Hcnt := Lib.hid (show (Rep.rowsOf (lbt L M) (L.segs.take i)).length + fs.length ≤ 12000000 by
      have q1 := Rep.rowsOf_le (lbt L M) L.segs (i + 1)
      rw [Htk.out, Rep.rowsOf_snoc, List.length_append, List.length_map, show (Frm.scan (lbt L M s).1).1 = fs.map (·.1) from hfs.symm, List.length_map] at q1
      exact Nat.le_trans q1 Hrows.out)
    have hfl : fs.length ≤ 16777216 := by
      have := Frm.scan_count (L.bytes M s).1
      rw [← hfs, List.length_map] at this; omega
    have Hfl := Lib.hid hfl; have Hfs := Lib.hid hfs; have Hfk := Lib.hid hfk
    clear h21 hbl hfs hfk
    go_wp2_with fail
    go_loopg [72] fs.length (fun g jq wr => ∃ j : Nat, g = fs.length - j ∧ j ≤ fs.length ∧ jq = .int .i64 j ∧ Sat w0 wr (TabMA pg (Rep.ledger (Rep.rowsOf (lbt L M) (L.segs.take i) ++ (fs.take j).map fun q => (s, q.1))) ((Rep.rowsOf (lbt L M) (L.segs.take i)).length + j) :: stPt ps (Rep.lastOfL (L.segs.take i)) pi uv (.slice ta (L.segs.length - n) tc) :: osl 115 3 uv ((Rep.usesOf (lbt L M) (L.segs.take i)).flatMap uenc) :: TabML pi (fun _ => none) 0 :: pt b9 (.cells #[ptr pg] 197 (0,0)) ::
      pt b3 (.cells (fltA Rep.Flt.zero) 75 (0,0)) :: osl 3 1 sv (ints L.segs) :: LogRep p m L :: MedRep m M :: osl 203 36 (.slice fa fs.length fc) (fndsL fs) :: dataF fs :: F))
    case atStart => exact ⟨0, rfl, Nat.zero_le _, rfl, h22⟩
    case round =>
      obtain ⟨j, rfl, hj, rfl, hS⟩ := hrel
      clear h22
      by_cases hjl : j < fs.length
      rotate_left
      · obtain rfl : j = fs.length := by omega
        have d1 : ¬ (fs.length : Int) < (fs.length : Int) := by omega
        rw [List.take_length] at hS
        clear hjl hj
        have hul : ((Rep.usesOf (lbt L M) (L.segs.take i)).flatMap uenc).length ≤ 2147483648 := by
          rw [rows_len (k := 3) fun u _ => rfl]
          unfold Rep.usesOf
          rw [List.length_map, List.length_take]
          have := Hlen.out; omega
        go_wp2_with (first
          | ((with_reducible apply at_store); refine ⟨?_⟩; refine wl_store (cs' := #[.int .i64 s, ptr pi, uv, .slice ta (L.segs.length - n) tc]) hS (by rfl) evD (by rfl) (upd_there upd0) (Nat.le_of_ble_eq_true (by rfl)) (by kernel_rfl) (by rfl) ?_; intro w40 h40)
          | ((with_reducible apply at_load); refine ⟨?_⟩; refine wl_load1 h40 (by rfl) (pick_there pick0) (Nat.le_of_ble_eq_true (by rfl)) evD (by kernel_rfl) ?_)
          | (with_reducible apply at_build1))
        refine ⟨?_⟩
        refine wl_build1 (e := 115) (sz := 3) (by' := 24) (by kernel_rfl) h40 (by rfl) (cs := #[.int .i64 s, .int .i64 ((L.bytes M s).1.length : Nat), .int .i64 0]) rfl rfl (by decide) ?_
        intro b41 w41 h41
        go_wp2_with (with_reducible apply at_append)
        refine ⟨?_⟩
        refine wl_app 115 3 24 (by kernel_rfl) h41 (by rfl) (by rfl) (pick_there (pick_there (pick_there pick0))) pick0 rfl (Nat.le_refl 1) (by rfl) hul (by show 3 ≤ 65536; decide) (by decide) rfl ?_
        intro bA nA cA w42 h42
        go_wp2_with ((with_reducible apply at_store); refine ⟨?_⟩; refine wl_store (cs' := #[.int .i64 s, ptr pi, .slice (some ⟨bA, 0, none⟩) nA cA, .slice ta (L.segs.length - n) tc]) h42 (by rfl) evD (by rfl) (upd_there (upd_there upd0)) (Nat.le_of_ble_eq_true (by rfl)) (by kernel_rfl) (by rfl) ?_; intro w43 h43)
        have h44 : Sat w0 w43 (stPt ps (Rep.lastOfL (L.segs.take (i + 1))) pi (.slice (some ⟨bA, 0, none⟩) nA cA) (.slice ta (L.segs.length - n) tc) :: osl 115 3 (.slice (some ⟨bA, 0, none⟩) nA cA) ((Rep.usesOf (lbt L M) (L.segs.take (i + 1))).flatMap uenc) :: TabML pi (fun _ => none) 0 :: pt b9 (.cells #[ptr pg] 197 (0,0)) ::
          TabMA pg (Rep.ledger (Rep.rowsOf (lbt L M) (L.segs.take (i + 1)))) (Rep.rowsOf (lbt L M) (L.segs.take (i + 1))).length :: pt b3 (.cells (fltA Rep.Flt.zero) 75 (0,0)) :: osl 3 1 sv (ints L.segs) :: LogRep p m L :: MedRep m M :: F) := by
          rw [Htk.out, Rep.lastOfL_snoc, Rep.usesOf_snoc, Rep.rowsOf_snoc, List.length_append, List.length_map, show (Frm.scan (lbt L M s).1).1 = fs.map (·.1) from Hfs.out.symm, List.length_map, List.map_map, List.flatMap_append]
          exact h43.sb
        clear h40 h41 h42 h43 hS
        go_roundg (n - (i + 1))
        case measure => have := Hlt.out; omega
        case rel => exact ⟨i + 1, .slice (some ⟨bA, 0, none⟩) nA cA, rfl, Hlt.out, by first | rfl | go_num, by rw [Htk.out]; exact Rep.bad_none Hbad.out H0.out H1.out, h44⟩
      have d1 : (j : Int) < (fs.length : Int) := by omega
      have hwj : IntKind.i64.wrap ((j : Int) + 1) = (j : Int) + 1 := IntWalk.i64_in _ (by omega)
      obtain ⟨⟨f, dv⟩, hq⟩ : ∃ q, fs[j]? = some q := ⟨_, List.getElem?_eq_getElem hjl⟩
      have hkf : f.e.key.length = 32 := Hfk.out _ (List.mem_of_getElem? hq)
      obtain ⟨da, dn, dc, rfl, _, _⟩ := dataF_ro hq wr (hS.pk (A := dataF fs))
      obtain ⟨bk2, off2, c2, e2, hcell⟩ := osl_row (f := fun q : Frm.Fnd × Value => fndL q.1 q.2) (k := 36) (fun q hq => fndL_len q.1 q.2 (Hfk.out q hq)) (Sat.rd (hS.pk (A := osl 203 36 (.slice fa fs.length fc) (fndsL fs)))) hq (by decide)
      cases e2
      have hl36 : (fndL f (.slice da dn dc)).length = 36 := fndL_len _ _ hkf
      have Htj := Lib.hid (show (fs.take (j + 1)).map (fun q => (s, q.1)) = (fs.take j).map (fun q => (s, q.1)) ++ [(s, f)] by rw [List.take_add_one, hq, Option.toList_some, List.map_append]; rfl)
      have Hjl := Lib.hid hjl; have Hkf := Lib.hid hkf
      clear hq hkf hj
      go_wp2_with (first
        | ((with_reducible apply at_load); refine ⟨?_⟩; refine wl_loadW (b := bk2) (o := off2 + j * 36) (fndL f (.slice da dn dc)) (by rfl) hcell Tryz.underlying203 rfl (by rw [hl36]; kernel_rfl) ?_)
        | (with_reducible apply at_alloc))
      refine ⟨?_⟩
      refine wl_alloc zFnd hS rfl ?_
      intro b17 w30 h30
      go_wp2_with (first
        | ((with_reducible apply at_store); refine ⟨?_⟩; refine wl_storeA (fndA f (.slice da dn dc)) h30 (by rfl) (by rfl) (by rw [fndA_size _ _ Hkf.out]; rfl) upd0 (by rw [fndA_size _ _ Hkf.out]; kernel_rfl) (fndA_ones _ _ _ _) ?_; intro w31 h31)
        | ((with_reducible apply at_load); refine ⟨?_⟩; refine wl_loadA (cs := fndA f (.slice da dn dc)) h31 (by rfl) pick0 Tryz.underlying203 rfl (by rw [fndA_size _ _ Hkf.out]; kernel_rfl) ?_)
        | ((with_reducible apply at_load); refine ⟨?_⟩; refine wl_loadA (cs := #[ptr pg]) h31 (by rfl) (pick_there (pick_there (pick_there (pick_there (pick_there pick0))))) Tryz.underlying197 rfl (by kernel_rfl) ?_))
      have hrl := Rep.rowsOf_le (lbt L M) L.segs i
      refine (take_c (p := pg) s f Hkf.out (by have := Hrows.out; have := Hfl.out; have := Hjl.out; have := Hcnt.out; omega) (h31.pick pick1)).mono ?_
      rintro ee w32 ⟨v, rfl, h32⟩
      clear h30 h31 hS hcell
      have hnn : ∀ x ∈ Rep.rowsOf (lbt L M) (L.segs.take i) ++ (fs.take j).map (fun q => (s, q.1)), 0 ≤ x.1 := fun x hx => by
        rcases List.mem_append.1 hx with hx | hx
        · unfold Rep.rowsOf at hx
          obtain ⟨u, hu, hx⟩ := List.mem_flatMap.1 hx
          obtain ⟨g, _, rfl⟩ := List.mem_map.1 hx
          exact Hnn.out u (List.mem_of_mem_take hu)
        · obtain ⟨g, _, rfl⟩ := List.mem_map.1 hx
          exact Hs0.out
      rw [← Rep.ledger_snoc _ _ hnn, List.append_assoc, ← Htj.out] at h32
      clear hnn
      go_wp2_with fail
      go_roundg (fs.length - (j + 1))
      case measure => have := Hjl.out; omega
      case rel => exact ⟨j + 1, rfl, Hjl.out, by first | rfl | go_num, h32.sb⟩
end
section
variable {w0 w : World} {F : List HProp} {p B : Nat} {m : Frm.Bs → Option (Seg.Plc)}
end
def kvL (q : Frm.Bs × Seg.Plc) : List Value := bys q.1 ++ penc q.2
section
variable {P : Program} {d : Nat} {xs : Array Value}
end
section
variable {P : Program} {T : TypeId} {cs : Array Value}
end
end Go.Proofs.YtmjldaedhmipkaaGreatDoor
namespace Go.Frm
end Go.Frm
namespace Go.Proofs.YtmjldaedhmipkaaGreatDoor
open Go Go.Sl Go.Med Go.MapKept Go.RowKit
section
variable {w0 w : World} {F : List HProp} {av bv v : Value}
theorem bys_at {l : Bs} {i : Nat} {x : UInt8} (h : l[i]? = some x) : (bys l)[i]? = some (.int .u8 x.toNat) := by unfold bys; rw [List.getElem?_map, h]; rfl
end
end Go.Proofs.YtmjldaedhmipkaaGreatDoor
namespace Go.Frm
theorem read_tag {b : Bs} (h : (read b).2.2 = 0) : (read b).1.tag = 0 ∨ (read b).1.tag = 1 ∨ (read b).1.tag = 2 := by
  unfold read at *
  dsimp only at *
  split at h
  · simp at h
  rename_i h9
  rw [if_neg h9]
  split at h
  · simp at h
  rename_i hf
  rw [if_neg hf]
  split at h
  · simp at h
  rename_i hl
  rw [if_neg hl]
  split at h
  · simp at h
  rename_i hc
  rw [if_neg hc]
  have ht : b.getD 8 0 = 0 ∨ b.getD 8 0 = 1 ∨ b.getD 8 0 = 2 := by
    unfold fits at hf
    split at hf
    · exact .inl (by assumption)
    split at hf
    · exact .inr (.inl (by assumption))
    split at hf
    · exact .inr (.inr (by assumption))
    · exact absurd rfl hf
  split
  all_goals
    dsimp only
    rcases ht with e | e | e <;> rw [e]
    · exact .inl rfl
    · exact .inr (.inl rfl)
    · exact .inr (.inr rfl)
theorem scanL_ok : ∀ (k : Nat) (b : Bs) (at_ : Nat), ∀ f ∈ (scanL k b at_).1, (f.e.tag = 0 ∨ f.e.tag = 1 ∨ f.e.tag = 2) ∧ f.e.key.length = 32 ∧ 9 ≤ f.size ∧ f.size ≤ b.length
  | 0, _, _, f, hf => by cases hf
  | k + 1, b, at_, f, hf => by
    unfold scanL at hf
    split at hf
    · cases hf
    split at hf
    · cases hf
    rename_i he
    have he : (read b).2.2 = 0 := by simpa using he
    have h1 := read_ok he
    simp only at hf
    rcases List.mem_cons.1 hf with rfl | hf
    · exact ⟨read_tag he, h1.2.2, h1.1, h1.2.1⟩
    · have h2 := scanL_ok k _ _ f hf
      refine ⟨h2.1, h2.2.1, h2.2.2.1, Nat.le_trans h2.2.2.2 ?_⟩
      rw [List.length_drop]; omega
theorem scan_ok (b : Bs) : ∀ f ∈ (scan b).1, (f.e.tag = 0 ∨ f.e.tag = 1 ∨ f.e.tag = 2) ∧ f.e.key.length = 32 ∧ 9 ≤ f.size ∧ f.size ≤ b.length := fun f hf => by
  unfold scan at hf
  split at hf
  · have h := scanL_ok _ _ _ f hf
    refine ⟨h.1, h.2.1, h.2.2.1, Nat.le_trans h.2.2.2 ?_⟩
    rw [List.length_drop]; omega
  · cases hf
end Go.Frm
namespace Go.Rep
open Go.Frm (Bs Fnd)
open Go.Seg (Plc)
open Go.Tab
theorem rowsOf_mem {bt : Told} {ns : List Int} {r : Row} (h : r ∈ rowsOf bt ns) : r.1 ∈ ns ∧ r.2 ∈ (Frm.scan (bt r.1).1).1 := by
  unfold rowsOf at h
  obtain ⟨s, hs, h⟩ := List.mem_flatMap.1 h
  obtain ⟨f, hf, rfl⟩ := List.mem_map.1 h
  exact ⟨hs, hf⟩
theorem rowsOf_count {bt : Told} {c : Nat} : ∀ (ns : List Int), (∀ s ∈ ns, (bt s).1.length ≤ c) → (rowsOf bt ns).length ≤ ns.length * c
  | [], _ => Nat.zero_le _
  | s :: ns, h => by
    have e : rowsOf bt (s :: ns) = ((Frm.scan (bt s).1).1.map fun f => (s, f)) ++ rowsOf bt ns := rfl
    have h1 := Frm.scan_count (bt s).1
    have h2 := h s (.head _)
    have h3 := rowsOf_count ns fun x hx => h x (.tail _ hx)
    rw [e, List.length_append, List.length_map, List.length_cons, Nat.succ_mul]
    omega
theorem rowsOf_size {bt : Told} {ns : List Int} {c : Nat} (h : ∀ s ∈ ns, (bt s).1.length ≤ c) {r : Row} (hr : r ∈ rowsOf bt ns) : r.2.size ≤ c :=
  Nat.le_trans (Frm.scan_ok _ _ (rowsOf_mem hr).2).2.2.2 (h _ (rowsOf_mem hr).1)
def uAt (l : List Row) (us : List Use) (i : Nat) : List Use := us.map fun u => ⟨u.seg, u.size, u.live + live l u.seg i⟩
end Go.Rep
namespace Go.Rep
open Go.Frm (Bs Fnd)
open Go.Seg (Plc)
open Go.Tab
def hit (k : Bs) (r : Row) : Bool := decide (rtag r < 2) && decide (rkey r = k)
def newIdx (l : List Row) (k : Bs) : Nat → Int
  | 0 => -1
  | i + 1 => match l[i]? with
    | none => newIdx l k i
    | some r => if hit k r = true then (i : Int) else newIdx l k i
section
variable {l : List Row} {k : Bs} {i : Nat} {r : Row}
def elder (r x : Row) : Bool := decide (rtag x = 0) && decide (rkey x = rkey r) && decide (x.1 < r.1)
end
section
variable {V : Type}
def insB (l : List (Bs × V)) (x : Bs × V) : Nat → List (Bs × V) × Bool
  | 0 => ([], false)
  | i + 1 => match l[i]? with
    | none => insB l x i
    | some y => if (insB l x i).2 = false ∧ x.1 < y.1 then ((insB l x i).1 ++ [x] ++ [y], true) else ((insB l x i).1 ++ [y], (insB l x i).2)
variable {l : List (Bs × V)} {x y : Bs × V} {i : Nat}
end
section
variable {l : List Row} {us : List Use} {i k : Nat} {r : Row} {u : Use}
def uMix (l : List Row) (us : List Use) (i k : Nat) : List Use := (uAt l us (i + 1)).take k ++ (uAt l us i).drop k
end
end Go.Rep
namespace Go.Proofs.YtmjldaedhmipkaaGreatDoor
open Go Go.Sl Go.Med Go.MapKept Go.RowKit
def rwL (q : Rep.Row × Value) : List Value := .int .i64 q.1.1 :: fndL q.1.2 q.2
def zeroR : Rep.Row × Value := ((0, zeroF), .slice none 0 0)
section
variable {w0 w : World} {F : List HProp} {rv : Value}
end
section
variable {w0 w : World} {F : List HProp} {rv : Value}
end
section
variable {w0 w : World} {F : List HProp} {lv : Value}
end
end Go.Proofs.YtmjldaedhmipkaaGreatDoor
namespace Go.Seg
open Go.Med
def Log.rbegin1 (L : Log) (D : Med) (b : Bs) : (Log × Med) × Plc × Int :=
  if 1048576 ≤ L.next then ((L, D), Plc.zero, 16)
  else if (D.create (name L.next)).2 ≠ 0 then ((L, (D.create (name L.next)).1), Plc.zero, (D.create (name L.next)).2)
  else if ((D.create (name L.next)).1.append (name L.next) (mag ++ b)).2 = 0 then
    (({ L with l := L.l ++ [(L.next, 8 + (b.length : Int))], on := true, fresh := L.fresh + 1 }, ((D.create (name L.next)).1.append (name L.next) (mag ++ b)).1), ⟨L.next, 8, b.length⟩, 0)
  else if ((D.create (name L.next)).1.append (name L.next) (mag ++ b)).2 = 11 then
    ((L, (((D.create (name L.next)).1.append (name L.next) (mag ++ b)).1.rmove (name L.next) ByteArray.empty true).1), Plc.zero,
      if (((D.create (name L.next)).1.append (name L.next) (mag ++ b)).1.rmove (name L.next) ByteArray.empty true).2 = 12 then 12 else 11)
  else ((L, ((D.create (name L.next)).1.append (name L.next) (mag ++ b)).1), Plc.zero, ((D.create (name L.next)).1.append (name L.next) (mag ++ b)).2)
def Log.rbegin (L : Log) (D : Med) (b : Bs) : (Log × Med) × Plc × Int :=
  if (L.shut D).2 = 0 then (L.shut D).1.1.rbegin1 (L.shut D).1.2 b else ((L.shut D).1, Plc.zero, (L.shut D).2)
def Log.rappend (L : Log) (D : Med) (x : Frm.Ent) : (Log × Med) × Plc × Int :=
  if (Frm.encode x).2 ≠ 0 then ((L, D), Plc.zero, (Frm.encode x).2)
  else if L.fits (Frm.encode x).1.length = true then L.grow D (Frm.encode x).1 else L.rbegin D (Frm.encode x).1
def Log.rcommit (L : Log) (M : Med) : (Log × Med) × Int × Int :=
  if (L.rappend M comEnt).2.2 ≠ 0 then ((L.rappend M comEnt).1, 0, (L.rappend M comEnt).2.2)
  else if ((L.rappend M comEnt).1.2.sync (name (L.rappend M comEnt).2.1.seg)).2 ≠ 0 then (((L.rappend M comEnt).1.1, ((L.rappend M comEnt).1.2.sync (name (L.rappend M comEnt).2.1.seg)).1), 0, ((L.rappend M comEnt).1.2.sync (name (L.rappend M comEnt).2.1.seg)).2)
  else if (((L.rappend M comEnt).1.2.sync (name (L.rappend M comEnt).2.1.seg)).1.syncDir).2 ≠ 0 then (((L.rappend M comEnt).1.1, (((L.rappend M comEnt).1.2.sync (name (L.rappend M comEnt).2.1.seg)).1.syncDir).1), 0, (((L.rappend M comEnt).1.2.sync (name (L.rappend M comEnt).2.1.seg)).1.syncDir).2)
  else (({ (L.rappend M comEnt).1.1 with on := false, fresh := 0 }, (((L.rappend M comEnt).1.2.sync (name (L.rappend M comEnt).2.1.seg)).1.syncDir).1), (L.rappend M comEnt).2.1.seg, 0)
def Log.rremove (L : Log) (D : Med) (n : Int) : (Log × Med) × Int :=
  match L.at n with
  | none => ((L, D), 9)
  | some i => if (D.rmove (name n) ByteArray.empty true).2 = 0 then ((L.without i, (D.rmove (name n) ByteArray.empty true).1), 0) else ((L, (D.rmove (name n) ByteArray.empty true).1), (D.rmove (name n) ByteArray.empty true).2)
def Agree {α : Type} (r q : (Log × Med) × α) : Prop := r.1.1 = q.1.1 ∧ r.2 = q.2 ∧ ∃ φ V, Side φ V r.1.2 q.1.2
section
variable {φ : Nat → Nat} {V : Nat → Prop} {M D : Med} {K : Nat} {L : Log}
theorem Agree.same {α : Type} (h : Side φ V M D) (L : Log) (x : α) : Agree ((L, M), x) ((L, D), x) := ⟨rfl, rfl, φ, V, h⟩
theorem Agree.mk' {α : Type} {r q : Med} (h : ∃ φ V, Side φ V r q) (L : Log) (x : α) : Agree ((L, r), x) ((L, q), x) := ⟨rfl, rfl, h⟩
theorem side_lremove (h : Side φ V M D) (ok : M.Ok K) (n : Int) : Agree (L.remove M n) (L.rremove D n) := by
  unfold Log.remove Log.rremove
  cases L.at n with
  | none => exact .same h _ _
  | some i =>
    simp only
    obtain ⟨h1, h2⟩ := h.remove ok (name n) ByteArray.empty
    rw [← h1]
    split
    · exact .mk' h2 _ _
    · exact .mk' h2 _ _
end
end Go.Seg
namespace Go.Seg
open Go.Med
structure Fit (K : Nat) (D : Med) : Prop where
  ok : D.Ok K
  small : D.Small
  files : D.files.length ≤ 500 + K
section
variable {φ : Nat → Nat} {V : Nat → Prop} {M D : Med} {K : Nat} {L : Log}
theorem Fit.mono {K' : Nat} (h : Fit K D) (hk : K ≤ K') : Fit K' D := ⟨h.ok.mono hk, h.small, by have := h.files; omega⟩
theorem Fit.new (K r : Nat) (h : r ≤ 16777216) : Fit K (new r) := ⟨Med.Ok.new K r h, (fun f hf => by cases hf), Nat.zero_le _⟩
theorem Fit.told (h : Fit K D) (x : Med.Cal) (hn : x.n ≤ 9223372036854775807) : Fit (K + 1) (D.told x).1 := ⟨h.ok.told x hn, h.small.told h.ok x, told_files h.ok h.files x⟩
theorem Fit.create (h : Fit K D) (s : ByteArray) : Fit (K + 1) (D.create s).1 := h.told ⟨0, s, s, 0, 0, [], []⟩ (show (0 : Int) ≤ 9223372036854775807 by decide)
theorem Fit.append (h : Fit K D) (s : ByteArray) (b : Bs) : Fit (K + 1) (D.append s b).1 := h.told ⟨1, s, s, 0, 0, b, []⟩ (show (0 : Int) ≤ 9223372036854775807 by decide)
theorem Fit.gone (h : Fit K D) (s : ByteArray) : Fit (K + 1) (D.rmove s ByteArray.empty true).1 := h.told ⟨4, s, s, 0, 0, [], []⟩ (show (0 : Int) ≤ 9223372036854775807 by decide)
theorem Fit.syncDir (h : Fit K D) : Fit (K + 1) D.syncDir.1 := h.told ⟨6, ByteArray.empty, ByteArray.empty, 0, 0, [], []⟩ (show (0 : Int) ≤ 9223372036854775807 by decide)
theorem Fit.arm (h : Fit K D) (n : Int) (hn : n ≤ 9223372036854775807) : Fit (K + 1) (D.arm n).1 := h.told ⟨7, ByteArray.empty, ByteArray.empty, n, 0, [], []⟩ hn
theorem Fit.crash (h : Fit K D) (l : List Int) : Fit (K + 1) (D.rcrash l) := h.told ⟨8, ByteArray.empty, ByteArray.empty, 0, 0, [], l⟩ (show (0 : Int) ≤ 9223372036854775807 by decide)
theorem Fit.now (h : Fit K D) : D.now.length ≤ 500 := h.ok.nowOk.len
theorem Fit.len (h : Fit K D) {s : ByteArray} {i : Nat} (hi : nget D.now s = some i) : i < D.files.length ∧ (D.file i).now.length ≤ 1099511627776 := by
  refine ⟨h.ok.nowOk.ids _ (nget_mem hi), ?_⟩
  have := (h.ok.file i).now_len
  omega
theorem Fit.lremove (h : Fit K D) (n : Int) : Fit (K + 1) (L.rremove D n).1.2 := by
  unfold Log.rremove
  cases L.at n with
  | none => exact h.mono (Nat.le_succ K)
  | some i =>
    simp only
    split <;> exact h.gone _
def Log.rback : Nat → Log → Med → (Log × Med) × Int
  | 0, L, M => (({ L with on := false }, M), 0)
  | k + 1, L, M =>
    match L.l.getLast? with
    | none => (({ L with on := false }, M), 0)
    | some s => if (L.rremove M s.1).2 = 0 then Log.rback k (L.rremove M s.1).1.1 (L.rremove M s.1).1.2 else L.rremove M s.1
def Log.rrollback (L : Log) (M : Med) : (Log × Med) × Int := L.rback L.fresh.toNat M
theorem Log.remove_fresh_le (L : Log) (M : Med) (n : Int) : (L.remove M n).1.1.fresh ≤ L.fresh := by
  unfold Log.remove
  cases L.at n with
  | none => exact Int.le_refl _
  | some i =>
    simp only
    split
    · unfold Log.without; simp only; split <;> omega
    · exact Int.le_refl _
end
end Go.Seg
namespace Go.Frm
def bst (x : Nat) : Nat := (x / 2) ^^^ (if x % 2 = 1 then 3988292384 else 0)
theorem xor_half (a b : Nat) : (a ^^^ b) / 2 = a / 2 ^^^ b / 2 := by
  have h := Nat.shiftRight_xor_distrib (a := a) (b := b) (i := 1)
  simpa [Nat.shiftRight_eq_div_pow] using h
theorem xor_par (a b : Nat) : (a ^^^ b) % 2 = (a % 2 + b % 2) % 2 := by
  have h := Nat.testBit_xor a b 0
  rw [Nat.testBit_zero, Nat.testBit_zero, Nat.testBit_zero] at h
  rcases Nat.mod_two_eq_zero_or_one a with h1 | h1 <;> rcases Nat.mod_two_eq_zero_or_one b with h2 | h2 <;> rcases Nat.mod_two_eq_zero_or_one (a ^^^ b) with h3 | h3 <;> simp [h1, h2, h3] at h ⊢
theorem bst_x (u z : Nat) : bst (u ^^^ z) = (u / 2) ^^^ ((z / 2) ^^^ (if (u % 2 + z % 2) % 2 = 1 then 3988292384 else 0)) := by
  unfold bst
  rw [xor_half, xor_par, Nat.xor_assoc]
theorem bst4 (y : Nat) : bst (bst (bst (bst y))) = fold4 y := by
  have h0 : y = y ^^^ 0 := (Nat.xor_zero y).symm
  conv => lhs; rw [h0]
  rw [bst_x, bst_x, bst_x, bst_x]
  rw [show y / 2 / 2 / 2 / 2 = y / 16 by omega]
  unfold fold4
  congr 1
  have e0 : y % 2 = (y % 16) % 2 := by omega
  have e1 : y / 2 % 2 = (y % 16) / 2 % 2 := by omega
  have e2 : y / 2 / 2 % 2 = (y % 16) / 2 / 2 % 2 := by omega
  have e3 : y / 2 / 2 / 2 % 2 = (y % 16) / 2 / 2 / 2 % 2 := by omega
  rw [e0, e1, e2, e3]
  have hr : y % 16 < 16 := by omega
  clear e0 e1 e2 e3 h0
  generalize y % 16 = r at *
  revert r
  decide +kernel
def bitIn (x c k : Nat) : Nat := if x % 2 ≠ c / 2 ^ k % 2 then (x / 2) ^^^ 3988292384 else x / 2
theorem bitIn_eq (x c k : Nat) : bitIn x c k ^^^ (c / 2 ^ (k + 1)) = bst (x ^^^ (c / 2 ^ k)) := by
  rw [bst_x]
  unfold bitIn
  have e : c / 2 ^ (k + 1) = c / 2 ^ k / 2 := by rw [Nat.pow_succ, Nat.div_div_eq_div_mul]
  rw [e]
  have h1 : x % 2 < 2 := Nat.mod_lt _ (by decide)
  have h2 : c / 2 ^ k % 2 < 2 := Nat.mod_lt _ (by decide)
  by_cases h : x % 2 = c / 2 ^ k % 2
  · rw [if_neg (by omega), if_neg (by omega), Nat.xor_zero]
  · rw [if_pos h, if_pos (by omega), Nat.xor_assoc, Nat.xor_comm 3988292384]
def bitsIn (x c : Nat) : Nat → Nat
  | 0 => x
  | k + 1 => bitIn (bitsIn x c k) c k
theorem bitsIn_8 (x : Nat) (c : UInt8) : bitsIn x c.toNat 8 = crcStep x c := by
  have hc := c.toNat_lt
  have h0 : bitsIn x c.toNat 8 = bitsIn x c.toNat 8 ^^^ (c.toNat / 2 ^ 8) := by rw [show c.toNat / 2 ^ 8 = 0 by omega, Nat.xor_zero]
  rw [h0]
  show bitIn _ _ 7 ^^^ _ = _
  rw [bitIn_eq _ _ 7]
  show bst (bitIn _ _ 6 ^^^ _) = _
  rw [bitIn_eq _ _ 6]
  show bst (bst (bitIn _ _ 5 ^^^ _)) = _
  rw [bitIn_eq _ _ 5]
  show bst (bst (bst (bitIn _ _ 4 ^^^ _))) = _
  rw [bitIn_eq _ _ 4]
  show bst (bst (bst (bst (bitIn _ _ 3 ^^^ _)))) = _
  rw [bst4, bitIn_eq _ _ 3]
  show fold4 (bst (bitIn _ _ 2 ^^^ _)) = _
  rw [bitIn_eq _ _ 2]
  show fold4 (bst (bst (bitIn _ _ 1 ^^^ _))) = _
  rw [bitIn_eq _ _ 1]
  show fold4 (bst (bst (bst (bitIn _ _ 0 ^^^ _)))) = _
  rw [bitIn_eq _ _ 0, bst4]
  show fold4 (fold4 (x ^^^ c.toNat / 2 ^ 0)) = _
  rw [show c.toNat / 2 ^ 0 = c.toNat by rw [Nat.pow_zero, Nat.div_one]]
  rfl
theorem bitIn_lt {x : Nat} (h : x < 4294967296) (c k : Nat) : bitIn x c k < 4294967296 := by
  unfold bitIn
  split
  · exact xor_lt (by omega) (by decide)
  · omega
theorem bitsIn_lt {x : Nat} (h : x < 4294967296) (c : Nat) : ∀ k, bitsIn x c k < 4294967296
  | 0 => h
  | k + 1 => bitIn_lt (bitsIn_lt h c k) c k
theorem le_snoc (x : Nat) : ∀ n, le x (n + 1) = le x n ++ [UInt8.ofNat (x / 256 ^ n % 256)] := by
  intro n
  induction n generalizing x with
  | zero => simp [le]
  | succ n ih =>
    show UInt8.ofNat (x % 256) :: le (x / 256) (n + 1) = UInt8.ofNat (x % 256) :: le (x / 256) n ++ _
    rw [ih, Nat.div_div_eq_div_mul, Nat.mul_comm 256, ← Nat.pow_succ]; rfl
end Go.Frm
namespace Go.Proofs.YtmjldaedhmipkaaGreatDoor
open Go Go.Sl Go.Med Go.MapKept Go.RowKit
section
variable {w0 w : World} {F : List HProp} {v bv : Value}
set_option maxHeartbeats 2000000 in
theorem radd_c (l : Bs) (hr : rdsl 1 bv (bys l) w) (hl : l.length ≤ 1099511627776) :
    Calls Tryz.prog 162 #[.int .u32 0, bv] w (Rtn fun v w' => v = .int .u32 (Frm.crc l : Nat) ∧ w = w') := by
  obtain ⟨a, n, c, rfl, hn, _⟩ := id hr
  rw [bys_len, Nat.mul_one] at hn
  subst hn
  have hx0 : bits .xor .u32 0 4294967295 = 4294967295 := by decide +kernel
  have Hl := Lib.hid hl
  clear hl
  go_enter Tryz.func162, Tryz.ntmps162
  go_wp2_with fail
  clear hx0
  go_loopg [5, 6] l.length (fun g xv iq wr => ∃ i : Nat, g = l.length - i ∧ i ≤ l.length ∧ iq = .int .i64 i ∧ xv = .int .u32 ((l.take i).foldl Frm.crcStep 4294967295 : Nat) ∧ wr = w)
  case atStart => exact ⟨0, rfl, Nat.zero_le _, rfl, rfl, rfl⟩
  case round =>
    obtain ⟨i, rfl, hi, rfl, rfl, rfl⟩ := hrel
    have hxlt : (l.take i).foldl Frm.crcStep 4294967295 < 4294967296 := Frm.foldl_lt _ _ (by decide)
    by_cases hi' : i < l.length
    · have hb : (bys l)[i]? = some (.int .u8 (l[i]'hi').toNat) := by unfold bys; simp [hi']
      obtain ⟨bk, off, rfl, c1⟩ := rdsl_cell hr hb
      have hnext : (l.take (i + 1)).foldl Frm.crcStep 4294967295 = Frm.bitsIn ((l.take i).foldl Frm.crcStep 4294967295) (l[i]'hi').toNat 8 := by
        rw [List.take_succ_eq_append_getElem hi', List.foldl_append, Frm.bitsIn_8]; rfl
      have hic : (i : Int) < (l.length : Int) := by omega
      have hwi : IntKind.i64.wrap ((i : Int) + 1) = (i : Int) + 1 := IntWalk.i64_in _ (by have h1 := Hl.out; omega)
      have hcb := (l[i]'hi').toNat_lt
      have Hnext := Lib.hid hnext
      have Hi' := Lib.hid hi'
      clear hb hnext hr
      generalize (l[i]'hi').toNat = cb at *
      generalize (l.take i).foldl Frm.crcStep 4294967295 = x at *
      have Hx := Lib.hid hxlt; have Hcb := Lib.hid hcb
      clear hxlt hcb hi'
      go_wp2_with fail
      go_loopg [5, 7] 8 (fun g xv kq wq => ∃ k : Nat, g = 8 - k ∧ k ≤ 8 ∧ kq = .int .u64 k ∧ xv = .int .u32 (Frm.bitsIn x cb k : Nat) ∧ wq = wr)
      case atStart => exact ⟨0, rfl, Nat.zero_le _, rfl, rfl, rfl⟩
      case round =>
        obtain ⟨k, rfl, hk, rfl, rfl, rfl⟩ := hrel
        by_cases hk' : k < 8
        · have d1 : (k : Int) < 8 := by omega
          have hX := Frm.bitsIn_lt Hx.out cb k
          have hstep : Frm.bitsIn x cb (k + 1) = Frm.bitIn (Frm.bitsIn x cb k) cb k := rfl
          unfold Frm.bitIn at hstep
          generalize Frm.bitsIn x cb k = X at *
          have d2 : (X : Int) / 2 % 4294967296 = ((X / 2 : Nat) : Int) := by omega
          obtain ⟨p, hp⟩ : ∃ p, p = X % 2 := ⟨_, rfl⟩
          obtain ⟨q, hq⟩ : ∃ q, q = cb / 2 ^ k % 2 := ⟨_, rfl⟩
          rw [← hp, ← hq] at hstep
          have f1 : bits .and .u32 (X : Int) 1 = (p : Int) := by
            have := u32_and_nat X 1 hX (by decide)
            rw [Nat.and_one_is_mod, ← hp] at this
            exact this
          have hcb := Hcb.out
          have f2 : bits .and .u8 ((cb : Int) / 2 ^ k) 1 = (q : Int) := by
            have h1 : cb / 2 ^ k < 256 := Nat.lt_of_le_of_lt (Nat.div_le_self _ _) hcb
            have := u8_and_nat (cb / 2 ^ k) 1 h1 (by decide)
            rw [Nat.and_one_is_mod, ← hq] at this
            rw [← this, Int.natCast_ediv, Int.natCast_pow]; rfl
          have f4 : (q : Int) % 4294967296 = (q : Int) := by omega
          have f3 : bits .xor .u32 ((X : Int) / 2) 3988292384 = ((X / 2 ^^^ 3988292384 : Nat) : Int) := by
            have := u32_xor_nat (X / 2) 3988292384 (by omega) (by decide)
            rw [← this]; rfl
          have hwk : IntKind.u64.wrap ((k : Int) + 1) = (k : Int) + 1 := by show ((k : Int) + 1) % 18446744073709551616 = _; omega
          have Hstep := Lib.hid hstep
          clear hstep hp hq hcb hX
          by_cases hpq : p = q
          · subst hpq
            go_wp2_with fail
            go_roundg (8 - (k + 1))
            case measure => omega
            case rel => exact ⟨k + 1, rfl, by omega, by first | rfl | go_num, by rw [Hstep.out, if_neg (by simp)]; rfl, rfl⟩
          · have hne : ((p : Int) == (q : Int)) = false := by rw [beq_eq_false_iff_ne]; omega
            generalize X / 2 ^^^ 3988292384 = Y at *
            go_wp2_with fail
            go_roundg (8 - (k + 1))
            case measure => omega
            case rel => exact ⟨k + 1, rfl, by omega, by first | rfl | go_num, by rw [Hstep.out, if_pos hpq], rfl⟩
        · obtain rfl : k = 8 := by omega
          have d1 : ¬ ((8 : Nat) : Int) < 8 := by decide
          go_wp2_with fail
          go_roundg (l.length - (i + 1))
          case measure => have := Hi'.out; omega
          case rel => exact ⟨i + 1, rfl, Nat.succ_le_of_lt Hi'.out, by first | rfl | go_num, by rw [Hnext.out], rfl⟩
    · obtain rfl : i = l.length := by omega
      have hic : ¬ (l.length : Int) < (l.length : Int) := by omega
      rw [List.take_length] at *
      have hn2 : bits .xor .u32 ((l.foldl Frm.crcStep 4294967295 : Nat) : Int) 4294967295 = ((4294967295 - l.foldl Frm.crcStep 4294967295 : Nat) : Int) := by
        have h1 := not_u32 _ hxlt
        have h2 := u32_xor_nat (l.foldl Frm.crcStep 4294967295) 4294967295 hxlt (by decide)
        have h3 := u32_xor_nat 4294967295 (l.foldl Frm.crcStep 4294967295) (by decide) hxlt
        rw [← h1]
        show bits .xor .u32 _ ((4294967295 : Nat) : Int) = bits .xor .u32 ((4294967295 : Nat) : Int) _
        rw [h2, h3, Nat.xor_comm]
      have hfin : Frm.crc l = 4294967295 - l.foldl Frm.crcStep 4294967295 := rfl
      rw [← hfin] at hn2
      generalize l.foldl Frm.crcStep 4294967295 = x at *
      clear hi hi' hxlt hfin
      go_wp2
      go_ret
      exact ⟨_, rfl, rfl, rfl⟩
theorem rsum_c (l : Bs) (hr : rdsl 1 bv (bys l) w) (hl : l.length ≤ 1099511627776) :
    Calls Tryz.prog 130 #[bv] w (Rtn fun v w' => v = .int .u32 (Frm.crc l : Nat) ∧ w = w') := by
  have ha := radd_c l hr hl
  obtain ⟨a, n, c, rfl, hn, _⟩ := id hr
  clear hr hl
  go_enter Tryz.func130, Tryz.ntmps130
  go_wp2_with fail
  refine ha.mono ?_
  rintro e w1 ⟨v, rfl, rfl, rfl⟩
  clear ha
  go_wp2
  go_ret
  exact ⟨_, rfl, rfl, rfl⟩
end
end Go.Proofs.YtmjldaedhmipkaaGreatDoor
namespace Go.Frm
end Go.Frm
namespace Go.Proofs.YtmjldaedhmipkaaGreatDoor
open Go Go.Sl Go.Med Go.MapKept Go.RowKit
section
variable {w0 w : World} {F : List HProp} {v bv : Value}
set_option maxHeartbeats 2000000 in
theorem rput_c (x n : Nat) (hx : x < 18446744073709551616) (h1 : 1 ≤ n) (h8 : n ≤ 8) (h : Sat w0 w F) :
    Calls Tryz.prog 129 #[.int .u64 x, .int .i64 n] w (Rtn fun v w' => Sat w0 w' (bsl v (Frm.le x n) :: F) ∧ ∃ a n c, v = .slice a n c) := by
  have d1 : decide ((n : Int) < 1) = false := by rw [decide_eq_false_iff_not]; omega
  have d2 : decide (8 < (n : Int)) = false := by rw [decide_eq_false_iff_not]; omega
  have d1' : ¬ n < 1 := by omega
  have d2' : ¬ 8 < n := by omega
  have Hx := Lib.hid hx; have H8 := Lib.hid h8
  clear hx h1 h8
  go_enter Tryz.func129, Tryz.ntmps129
  go_wp2_with fail
  clear d1 d2 d1' d2'
  go_loopg [0, 5, 6] n (fun g xq bq iq wr => ∃ i : Nat, g = n - i ∧ i ≤ n ∧ iq = .int .i64 i ∧ xq = .int .u64 (x / 256 ^ i : Nat) ∧ Sat w0 wr (bsl bq (Frm.le x i) :: F))
  case atStart => exact ⟨0, rfl, Nat.zero_le _, rfl, by rw [Nat.pow_zero, Nat.div_one], Sat.osl_nil.2 h⟩
  case round =>
    obtain ⟨i, rfl, hi, rfl, rfl, hS⟩ := hrel
    clear h
    obtain ⟨ba, bn, bc, rfl, _⟩ := id (Sat.rd hS)
    by_cases hlt : i < n
    · have c1 : (i : Int) < (n : Int) := by omega
      have h8 := H8.out
      have hwi : IntKind.i64.wrap ((i : Int) + 1) = (i : Int) + 1 := IntWalk.i64_in _ (by omega)
      have hX : x / 256 ^ i < 18446744073709551616 := Nat.lt_of_le_of_lt (Nat.div_le_self _ _) Hx.out
      have hnx : x / 256 ^ (i + 1) = x / 256 ^ i / 256 := by rw [Nat.pow_succ, Nat.div_div_eq_div_mul]
      have hle := Frm.le_snoc x i
      have Hle := Lib.hid hle; have Hnx := Lib.hid hnx; have Hlt := Lib.hid hlt
      have hlen : (bys (Frm.le x i)).length ≤ 2147483648 := by rw [bys_len, Frm.le_len]; omega
      clear hle hnx hlt h8
      generalize x / 256 ^ i = X at *
      obtain ⟨cc, hcc⟩ : ∃ cc, cc = UInt8.ofNat (X % 256) := ⟨_, rfl⟩
      have hcv : (X : Int) % 256 = (cc.toNat : Int) := by rw [hcc, UInt8.toNat_ofNat']; omega
      have hcw : (cc.toNat : Int) % 256 = (cc.toNat : Int) := by have := cc.toNat_lt; omega
      have hdv : (X : Int) / 256 = ((X / 256 : Nat) : Int) := rfl
      have hdw : ((X / 256 : Nat) : Int) % 18446744073709551616 = ((X / 256 : Nat) : Int) := by omega
      rw [← hcc] at Hle
      clear hcc hX
      generalize X / 256 = Y at *
      have hSo : Sat w0 wr (osl 5 1 (.slice ba bn bc) (bys (Frm.le x i)) :: F) := hS
      generalize hB : bys (Frm.le x i) = B at *
      clear hS
      go_wp2_with (first
        | ((with_reducible apply at_build1); refine ⟨?_⟩; refine wl_build1 (e := 5) (sz := 1) (by' := 1) (by kernel_rfl) (by assumption) evD evD (by rfl) (Nat.le_of_ble_eq_true (by rfl)) ?_; intro bN wN hN)
        | ((with_reducible apply at_append); refine ⟨?_⟩; refine wl_app 5 1 1 (by kernel_rfl) hN (by rfl) (by rfl) (pick_there pick0) pick0 (by rfl) (Nat.le_refl 1) (by rfl) hlen (by show 1 ≤ 65536; decide) (by decide) evD ?_; intro bA nA cA wA hA))
      go_roundg (n - (i + 1))
      case measure => have := Hlt.out; omega
      case rel =>
        refine ⟨i + 1, rfl, Nat.succ_le_of_lt Hlt.out, by first | rfl | go_num, by rw [Hnx.out], ?_⟩
        rw [Hle.out]
        unfold bsl
        have e : bys (Frm.le x i ++ [cc]) = B ++ [Value.int .u8 cc.toNat] := by rw [← hB]; unfold bys; rw [List.map_append]; rfl
        rw [e]
        exact hA
    · obtain rfl : i = n := by omega
      have c1 : ¬ (i : Int) < (i : Int) := by omega
      clear hlt
      go_wp2
      go_ret
      exact ⟨_, rfl, hS, _, _, _, rfl⟩
set_option maxHeartbeats 2000000 in
theorem rmagic_c (h : Sat w0 w F) :
    Calls Tryz.prog 132 #[] w (Rtn fun v w' => ∃ b, v = .slice (some ⟨b, 0, none⟩) 8 8 ∧ Sat w0 w' (bsl v [72, 79, 65, 82, 68, 83, 69, 71] :: F)) := by
  have hA := h.alloc (.cells #[.int .u8 72, .int .u8 79, .int .u8 65, .int .u8 82, .int .u8 68, .int .u8 83, .int .u8 69, .int .u8 71] 5)
  go_enter Tryz.func132, Tryz.ntmps132
  go_wp2
  go_ret
  exact ⟨_, rfl, _, rfl, Sat.osl_of_pt hA rfl (Nat.le_refl _) (Nat.le_refl _) (by decide) rfl⟩
end
section
variable {w0 w : World} {F R : List HProp} {d : Nat} {D : Med} {fsv fv nv wv v lv : Value} {xs : List RF} {g : Bag} {K : Nat}
theorem step_file (D : Med) (i : Nat) : D.step.1.file i = D.file i := by unfold Med.file; rw [step_files]
end
end Go.Proofs.YtmjldaedhmipkaaGreatDoor
