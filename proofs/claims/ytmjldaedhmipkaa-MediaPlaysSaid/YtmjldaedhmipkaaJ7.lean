import Derived.Test.YtmjldaedhmipkaaJ6
set_option linter.unusedVariables false
/- hoardref06: Crash. -/
namespace Go.Proofs.Ytmjldaedhmipkaa
open Go Go.Sl Go.Med Go.MapKept Go.RowKit
set_option linter.unusedVariables false
section
variable {P : Program} {w0 w : World} {L L' : List HProp} {b o : Nat} {ops : Array Oper} {a : Act} {Q : Exit → Act → World → Prop} {dst : Option Tmp} {t ty T : TypeId} {pos : String} {after : Array Edge} {x y : Operand} {cs : Array Value} {v : Value} {K : Act → World → Prop} {E : Prop}
/-- A new variable, as an effect of a region that draws. -/
theorem eff_alloc (hz : zeroB P ty = some v) (hs : Sat w0 w L) (hcs : v.cells = cs)
    (hK : ∀ b w', Sat w0 w' (pt b (.cells cs ty (0,0)) :: L) → K (a.put dst (.pointer (some ⟨b, 0, none⟩))) w') :
    if Region.wanted ⟨dst, .alloc ty, t, pos, after, none⟩ (yielded ops a.tmps) = true then Oper.wp P ⟨dst, .alloc ty, t, pos, after, none⟩ a w K Q else E := by
  subst hcs
  refine eff_of rfl ?_
  have hS := hs.alloc (.cells v.cells ty)
  unfold Oper.wp execOp
  have hrun : (Instr.alloc ty true (.tuple #[])).run P w = .ok (.pointer (some ⟨w.heap.size, 0, none⟩)) (w.alloc (.cells v.cells ty)) := by
    simp [Instr.alloc, run_zeroB hz w, newVar, newRow, go_sem, Result.andThen]
  simp only [Sem.run_bind, Sem.run_pure, hrun, Result.andThen_ok]
  exact hK _ _ hS
end
theorem zFile : zeroB Try.prog 106 = some (.agg #[.slice none 0 0, .slice none 0 0, .slice none 0 0]) := by kernel_rfl
section
variable {w0 w : World} {F R : List HProp} {d i : Nat} {D : Med} {fsv fv nv wv v lv bv : Value} {xs : List RF} {x : RF} {g : Bag} {K : Nat}
theorem chgs_ro {ws : List (Chg × Value)} {p : Chg × Value} (hp : p ∈ ws) : Ro w0 (chgs ws :: R) (rdsl 1 p.2 (bys p.1.b)) := fun w hw => by
  obtain ⟨G, hG⟩ := stars_mem _ _ (List.mem_map.2 ⟨p, hp, rfl⟩ : bsl p.2 p.1.b ∈ ws.map fun p => bsl p.2 p.1.b)
  unfold chgs at hw
  rw [hG] at hw
  exact Sat.rd (Sat.star.1 hw)
theorem file_ro2 (h : x ∈ xs) : Ro w0 (stars (xs.map rfR) :: R) (rdsl 3 x.wv (x.ws.flatMap chgCells)) ∧ ∀ p ∈ x.ws, Ro w0 (stars (xs.map rfR) :: R) (rdsl 1 p.2 (bys p.1.b)) := by
  obtain ⟨i, hi⟩ := List.getElem?_of_mem h
  refine ⟨fun w hw => ?_, fun p hp w hw => ?_⟩
  · obtain ⟨G, _, hO⟩ := rf_out hi hw
    exact Sat.rd (hO.pick pick2)
  · obtain ⟨G, _, hO⟩ := rf_out hi hw
    exact chgs_ro hp _ (hO.pick pick3)
theorem file_pv (h : x ∈ xs) (hs : Sat w0 w (stars (xs.map rfR) :: R)) : ∀ p ∈ x.ws, ∃ a c, p.2 = .slice a p.1.b.length c ∧ p.1.b.length ≤ c := fun p hp => by
  obtain ⟨i, hi⟩ := List.getElem?_of_mem h
  obtain ⟨G, _, hO⟩ := rf_out hi hs
  have h1 := hO.pick pick3
  obtain ⟨G2, hG⟩ := stars_mem _ _ (List.mem_map.2 ⟨p, hp, rfl⟩ : bsl p.2 p.1.b ∈ x.ws.map fun p => bsl p.2 p.1.b)
  unfold chgs at h1
  rw [hG] at h1
  obtain ⟨a, c, e1, e2, _⟩ := bsl_sl (Sat.star.1 h1)
  exact ⟨a, c, e1, e2⟩
theorem bsl_of_rd {a : Option Addr} {n c k : Nat} {l : Bs} (h : rdsl 1 (.slice a n c) (bys l) w) (hk : k ≤ l.length) : rdsl 1 (.slice a k c) (bys (l.take k)) w := by
  have := rdsl_min h k
  obtain ⟨_, _, _, he, hl, _⟩ := h
  cases he
  rw [bys_len, Nat.mul_one] at hl
  subst hl
  rw [Nat.min_eq_right hk] at this
  unfold bys
  rw [List.map_take]
  exact this
theorem rf_add {ys : List RF} {B : Bs} {v1 v2 : Value} (h : Sat w0 w (bsl v1 B :: bsl v2 B :: stars (ys.map rfR) :: R)) : Sat w0 w (stars ((ys ++ [(⟨⟨B, B, []⟩, v1, v2, .slice none 0 0, []⟩ : RF)]).map rfR) :: R) := by
  rw [List.map_append, stars_append]
  refine Sat.star.2 ?_
  refine Sat.sub (L := stars ([(⟨⟨B, B, []⟩, v1, v2, .slice none 0 0, []⟩ : RF)].map rfR) :: stars (ys.map rfR) :: R) ?_ (sub_take pick1 (sub_take pick0 sub_refl))
  refine Sat.star.2 ?_
  have h1 : Sat w0 w (stars ([] : List HProp) :: bsl v1 B :: bsl v2 B :: stars (ys.map rfR) :: R) := Sat.emp.2 h
  have h2 : Sat w0 w (stars [] :: stars ([] : List HProp) :: bsl v1 B :: bsl v2 B :: stars (ys.map rfR) :: R) := Sat.emp.2 h1
  have h3 : Sat w0 w (chgs [] :: stars [] :: stars ([] : List HProp) :: bsl v1 B :: bsl v2 B :: stars (ys.map rfR) :: R) := Sat.emp.2 h2
  have h4 := Sat.star.2 h3
  have h5 : Sat w0 w (osl 71 3 (.slice none 0 0) [] :: stars [chgs []] :: stars ([] : List HProp) :: bsl v1 B :: bsl v2 B :: stars (ys.map rfR) :: R) := Sat.osl_nil.2 h4
  have h6 := Sat.star.2 h5
  have h7 := Sat.star.2 (h6.sub (sub_take pick3 (sub_take pick0 sub_refl)))
  have h8 := Sat.star.2 (h7.sub (sub_take pick2 (sub_take pick0 sub_refl)))
  exact h8.sub (sub_take pick0 (sub_take pick0 (sub_take pick0 sub_refl)))
theorem rfs_snoc (ys : List RF) (y : RF) : rfsL ys ++ [y.fv, y.nv, y.wv] = rfsL (ys ++ [y]) := by unfold rfsL; rw [List.flatMap_append]; simp [rfL]
theorem nms_snoc (l : Names) (s : ByteArray) (i : Nat) : nmsL l ++ [.string s, .int .i64 i] = nmsL (l ++ [(s, i)]) := by rw [nmsL_app]; rfl
theorem take_idx {α β : Type} (f : Nat → α → β) {l : List α} {i : Nat} {x : α} (h : l[i]? = some x) : (l.take (i + 1)).mapIdx f = (l.take i).mapIdx f ++ [f i x] := by
  obtain ⟨hlt, _⟩ := List.getElem?_eq_some_iff.1 h
  rw [List.take_add_one, h, Option.toList_some, List.mapIdx_concat, List.length_take, Nat.min_eq_left (by omega)]
section
variable {P : Program} {b o : Nat} {ops : Array Oper} {rest : List Oper} {a : Act} {Q : Exit → Act → World → Prop} {dst : Option Tmp} {t ty : Nat} {pos : String} {after : Array Edge} {y : Operand}
theorem wl_loadC (hx : a.eval y = .pointer (some ⟨b, o, none⟩)) (h1 : oneB P ty = true) (hc : w.cell? ⟨b, o, none⟩ = some v)
    (h : wpList P ops Q rest (a.put dst v) w) : wpList P ops Q (⟨dst, .load ty y, t, pos, after, none⟩ :: rest) a w :=
  wpList_plain rfl fun _ hK => by
    unfold Oper.wp execOp
    simp only [hx, Instr.loadAt, Instr.sureAddr, Sem.run_bind, Sem.run_pure, Result.andThen_ok, run_load1 h1 hc]
    exact hK _ _ h
end
set_option maxRecDepth 20000 in
set_option maxHeartbeats 16000000 in
theorem rcrash_c (l : List Int) (hl : Ro w0 F (rdsl 1 lv (ints l))) (ok : D.Ok K) (hK : K ≤ 1048576) (h : Sat w0 w (DskRep d D :: F)) :
    Calls Try.prog 35 #[ptr d, lv] w (Rtn fun _ w' => Sat w0 w' (DskRep d (D.rcrash l) :: F)) := by
  have Ok := Lib.hid ok; have HL := Lib.hid hl; have HK := Lib.hid hK
  obtain ⟨la, ln, lc, rfl, hln, _⟩ := id (hl _ h.drop)
  have hil : (ints l).length = l.length := List.length_map ..
  rw [hil, Nat.mul_one] at hln
  subst hln
  obtain ⟨fsv, fv, nv, wv, xs, g, hin, hR⟩ := DskRep.open h
  obtain ⟨fa, fn, fc, rfl, hfn, _⟩ := Sat.rd (hR.pick pick1)
  rw [rfsL_len] at hfn
  obtain rfl : fn = xs.length := by omega
  clear hfn
  obtain ⟨wa, wn, wc, rfl, hwn, _⟩ := Sat.rd (hR.pick pick4)
  rw [rlks_len] at hwn
  obtain rfl : wn = D.waits.length := by omega
  have hnu := rnum_c l la l.length lc 0 D.waits.length (hl _ h.drop)
  have hcl := clampN_le (num l 0) D.waits.length
  have hcr : D.rcrash l = { D with fast := (D.lastNames (clampN (num l 0) D.waits.length)).mapIdx fun i p => (p.1, i), now := (D.lastNames (clampN (num l 0) D.waits.length)).mapIdx fun i p => (p.1, i), waits := [], files := (D.lastNames (clampN (num l 0) D.waits.length)).mapIdx (D.rfile l), off := false, armed := false, left := 0 } := rfl
  have hns := rnamesn_c (clampN (num l 0) D.waits.length) hcl (Nat.le_trans ok.budget hK) (fun k hk => Nat.le_trans (ok.names k (Nat.le_trans hk hcl)).len (by decide)) hin.fast (hR.sub (sub_take pick0 (sub_take pick3 (sub_take pick2 sub_refl))))
  have hnk := ok.names _ hcl
  have e4 : w.cell? ⟨d, 4, none⟩ = some (.slice wa D.waits.length wc) := hR.cellP pick0 4 rfl
  generalize clampN (num l 0) D.waits.length = k0 at *
  generalize D.lastNames k0 = ns at *
  have Hin := Lib.hid hin; have Hcr := Lib.hid hcr; have Hnk := Lib.hid hnk
  clear ok hl hK h hin hR hwn hil hcl hcr hnk
  go_enter Try.func35, Try.ntmps35
  go_wp2_with fail
  refine hnu.mono ?_
  rintro ee w1 ⟨v, rfl, rfl, rfl⟩
  clear hnu
  go_wp2_with fail
  refine hns.mono ?_
  clear hns e4
  rintro ee w2 ⟨v, rfl, ov, g2, rfl, hon, hsub, hS⟩
  obtain ⟨na, nc, rfl⟩ := nms_sl (bag_ro (w0 := w0) hon w2 (hS.pick pick2))
  have Hon := Lib.hid hon
  clear hon hsub
  go_wp2_with fail
  go_loopg [5, 6, 7] ns.length (fun g' fq nq iq wr => ∃ (i : Nat) (ys : List RF), g' = ns.length - i ∧ i ≤ ns.length ∧ iq = .int .i64 i ∧ ys.map (·.f) = (ns.take i).mapIdx (D.rfile l) ∧ (∀ y ∈ ys, y.ws.map (·.1) = y.f.waits) ∧
    Sat w0 wr (osl 106 3 fq (rfsL ys) :: stars (ys.map rfR) :: osl 91 2 nq (nmsL ((ns.take i).mapIdx fun i p => (p.1, i))) :: dskPt d D (.slice fa xs.length fc) fv nv (.slice wa D.waits.length wc) :: bagR g2 :: osl 106 3 (.slice fa xs.length fc) (rfsL xs) :: stars (xs.map rfR) :: F))
  case atStart => exact ⟨0, [], rfl, Nat.zero_le _, rfl, rfl, by simp, Sat.osl_nil.2 (Sat.emp.2 (Sat.osl_nil.2 (hS.sub (sub_take pick0 (sub_take pick1 (sub_drop sub_refl))))))⟩
  case round =>
    obtain ⟨i, ys, rfl, hi, rfl, hys, hyo, hS⟩ := hrel
    by_cases hlt : i < ns.length
    · have hn500 := Hnk.out.len
      have c1 : (i : Int) < (ns.length : Int) := by omega
      have hwi : IntKind.i64.wrap ((i : Int) + 1) = (i : Int) + 1 := IntWalk.i64_in _ (by omega)
      have hwa : IntKind.i64.wrap (2 * (i : Int)) = 2 * (i : Int) := IntWalk.i64_in _ (by omega)
      have hwb : IntKind.i64.wrap (2 * (i : Int) + 1) = 2 * (i : Int) + 1 := IntWalk.i64_in _ (by omega)
      have hwc : IntKind.i64.wrap (2 * (i : Int) + 2) = 2 * (i : Int) + 2 := IntWalk.i64_in _ (by omega)
      obtain ⟨p, hp⟩ : ∃ p, ns[i]? = some p := ⟨_, List.getElem?_eq_getElem hlt⟩
      have hS2 := hS.drew
      have hpf := Hnk.out.ids p (List.mem_of_getElem? hp)
      obtain ⟨x, hx, hxf⟩ := Hin.out.file hpf
      have hok := Hin.out.ok x (List.mem_of_getElem? hx)
      have okf := Ok.out.file p.2
      rw [← hxf] at okf
      have hrf : D.rfile l i p = x.f.crash (num l (2 * i + 1)) (num l (2 * i + 2)) := by unfold Med.rfile; rw [hxf]
      have Hlx := Lib.hid (show xs.length = D.files.length by rw [← Hin.out.files, List.length_map])
      have c2 : (p.2 : Int) < (xs.length : Int) := by have := Hlx.out; omega
      obtain ⟨h0, h1, h2⟩ := rfsL_at hx
      obtain ⟨bk2, off2, hfe, hc⟩ := rdsl_cells (Sat.rd (hS2.pick pick5)) h0
      subst hfe
      obtain ⟨bk, off, c, hee, e0, e1⟩ := nms_cells (bag_ro (w0 := w0) Hon.out _ (hS2.pick pick4)) hp
      cases hee
      have HN : Hid (∀ R w', Sat w0 w' (bagR g2 :: R) → w'.cell? ⟨bk, off + i * 2 + 1, none⟩ = some (.int .i64 p.2)) := fun R w' hw' => by
        obtain ⟨_, _, _, hee, _, e1⟩ := nms_cells (bag_ro (w0 := w0) Hon.out _ hw') hp
        cases hee; exact e1
      have HN0 : Hid (∀ R w', Sat w0 w' (bagR g2 :: R) → w'.cell? ⟨bk, off + i * 2, none⟩ = some (.string p.1)) := fun R w' hw' => by
        obtain ⟨_, _, _, hee, e0, _⟩ := nms_cells (bag_ro (w0 := w0) Hon.out _ hw') hp
        cases hee; exact e0
      have r1 := (file_ro (w0 := w0) (R := F) (List.mem_of_getElem? hx)).2
      obtain ⟨r2, r3⟩ := file_ro2 (w0 := w0) (R := F) (List.mem_of_getElem? hx)
      obtain ⟨xna, xnc, hxn, _⟩ := file_nv (List.mem_of_getElem? hx) (hS2.pick pick6)
      have hpv := file_pv (List.mem_of_getElem? hx) (hS2.pick pick6)
      obtain ⟨xf, xfv, xnv, xwv, xws⟩ := x
      dsimp only at hxf hok okf hrf h0 h1 h2 r1 r2 r3 hxn hpv
      obtain ⟨xfa, xfn, xfc, rfl, _⟩ := id (r1 _ (hS2.sub (sub_drop (sub_drop (sub_drop (sub_drop (sub_drop (sub_drop sub_refl))))))))
      obtain ⟨xwa, xwc, rfl⟩ := chg_sl (r2 _ (hS2.sub (sub_drop (sub_drop (sub_drop (sub_drop (sub_drop (sub_drop sub_refl))))))))
      subst hxn
      have HF : Hid (∀ R w', Sat w0 w' (osl 106 3 (.slice (some ⟨bk2, off2, none⟩) xs.length fc) (rfsL xs) :: R) → w'.rangeAt bk2 (off2 + p.2 * 3) [.slice xfa xfn xfc, .slice xna xf.now.length xnc, .slice xwa xws.length xwc]) := fun R w' hw' => by
        obtain ⟨_, _, hfe, hc⟩ := rdsl_cells (Sat.rd hw') h0
        cases hfe
        intro j v hj
        match j, hj with
        | 0, hj => cases hj; exact hc _ _ h0
        | 1, hj => cases hj; rw [Nat.add_assoc]; exact hc _ _ h1
        | 2, hj => cases hj; rw [Nat.add_assoc]; exact hc _ _ h2
      have HPV := Lib.hid hpv; clear hpv
      have Hlt := Lib.hid hlt; have Hp := Lib.hid hp; have Hxf := Lib.hid hxf; have Hok := Lib.hid hok; have Okf := Lib.hid okf; have Hrf := Lib.hid hrf; have R1 := Lib.hid r1; have R2 := Lib.hid r2; have R3 := Lib.hid r3; have Hys := Lib.hid hys; have Hyo := Lib.hid hyo
      have hwb2 : xws.length ≤ 1048576 := by rw [← List.length_map (f := fun p : Chg × Value => p.1), hok]; exact Nat.le_trans okf.budget HK.out
      have hyl : ys.length = i := by rw [← List.length_map (f := fun r : RF => r.f), hys, List.length_mapIdx, List.length_take]; omega
      have hlen : (rfsL ys).length ≤ 2147483648 := by rw [rfsL_len]; omega
      have hlen2 : (nmsL ((ns.take i).mapIdx fun i p => (p.1, i))).length ≤ 2147483648 := by rw [nmsL_len, List.length_mapIdx, List.length_take]; omega
      clear hS hlt hp hx hxf hok okf hrf h0 h1 h2 hc r1 r2 r3 hys hyo hpf e0 e1 hyl
      go_wp2_with fail
      refine wpL_begin [12] (fun w' => w'.cell? ⟨d, 1, none⟩ = some (.slice (some ⟨bk2, off2, none⟩) xs.length fc) ∧ w'.cell? ⟨bk, off + i * 2 + 1, none⟩ = some (.int .i64 p.2) ∧ w'.rangeAt bk2 (off2 + p.2 * 3) [.slice xfa xfn xfc, .slice xna xf.now.length xnc, .slice xwa xws.length xwc]) (by kernel_rfl) ?_
      have hG : World.cell? _ ⟨d, 1, none⟩ = some (.slice (some ⟨bk2, off2, none⟩) xs.length fc) ∧ World.cell? _ ⟨bk, off + i * 2 + 1, none⟩ = some (.int .i64 p.2) ∧ World.rangeAt _ bk2 (off2 + p.2 * 3) [.slice xfa xfn xfc, .slice xna xf.now.length xnc, .slice xwa xws.length xwc] := ⟨hS2.cellP pick3 1 rfl, HN.out _ _ (hS2.pick pick4), HF.out _ _ (hS2.pick pick5)⟩
      refine rg_pure 0 (by conv => lhs; whnf) (by kernel_rfl) (by intro _ _ _ h; exact h) (yl_move (by conv => lhs; whnf)) (by go_frame; first | done | rfl) ?_
      refine rg_pure 1 (by conv => lhs; whnf) (by kernel_rfl) (by intro _ _ _ h; exact h) (yl_nil (by conv => lhs; whnf)) (by go_frame; first | done | rfl) ?_
      refine rg_pure 2 (by conv => lhs; whnf) (by kernel_rfl) (by intro _ _ _ h; exact h) (yl_field (by conv => lhs; whnf) (by ((intro wq; go_simp); first | done | (with_reducible rfl)))) (by go_frame; first | done | rfl) ?_
      refine rg_take 3 (by conv => lhs; whnf) (by kernel_rfl) (by intro _ _ _ h; exact h) (by first | exact tk_load (by conv => lhs; whnf) (by kernel_rfl) (by intro wq hq; first | exact hq | exact hq.1 | exact hq.2 | exact hq.2.1 | exact hq.2.2 | exact hq.2.2.1 | exact hq.2.2.2 | exact hq.2.2.2.1 | exact hq.2.2.2.2) | (refine Or.inl ⟨by rfl, ?_⟩; (intro wq hq; go_split_ands; go_simp); first | done | (with_reducible rfl))) (by assumption) (by go_frame; first | done | rfl) ?_
      refine rg_pure 4 (by conv => lhs; whnf) (by kernel_rfl) (by intro _ _ _ h; exact h) (yl_move (by conv => lhs; whnf)) (by go_frame; first | done | rfl) ?_
      refine rg_pure 5 (by conv => lhs; whnf) (by kernel_rfl) (by intro _ _ _ h; exact h) (yl_move (by conv => lhs; whnf)) (by go_frame; first | done | rfl) ?_
      refine rg_pure 6 (by conv => lhs; whnf) (by kernel_rfl) (by intro _ _ _ h; exact h) (yl_index (by conv => lhs; whnf) (by conv => lhs; whnf) (by ((intro wq; go_simp); first | done | (with_reducible rfl)))) (by go_frame; first | done | rfl) ?_
      refine rg_pure 7 (by conv => lhs; whnf) (by kernel_rfl) (by intro _ _ _ h; exact h) (yl_field (by conv => lhs; whnf) (by ((intro wq; go_simp); first | done | (with_reducible rfl)))) (by go_frame; first | done | rfl) ?_
      refine rg_take 8 (by conv => lhs; whnf) (by kernel_rfl) (by intro _ _ _ h; exact h) (by first | exact tk_load (by conv => lhs; whnf) (by kernel_rfl) (by intro wq hq; first | exact hq | exact hq.1 | exact hq.2 | exact hq.2.1 | exact hq.2.2 | exact hq.2.2.1 | exact hq.2.2.2 | exact hq.2.2.2.1 | exact hq.2.2.2.2) | (refine Or.inl ⟨by rfl, ?_⟩; (intro wq hq; go_split_ands; go_simp); first | done | (with_reducible rfl))) (by assumption) (by go_frame; first | done | rfl) ?_
      refine rg_pure 9 (by conv => lhs; whnf) (by kernel_rfl) (by intro _ _ _ h; exact h) (yl_index (by conv => lhs; whnf) (by conv => lhs; whnf) (by ((intro wq; go_simp); first | done | (with_reducible rfl)))) (by go_frame; first | done | rfl) ?_
      refine rg_take 10 (by conv => lhs; whnf) (by kernel_rfl) (by intro _ _ _ h; exact h) (tg_loadN (P := Try.prog) [.slice xfa xfn xfc, .slice xna xf.now.length xnc, .slice xwa xws.length xwc] (by rfl) (by conv => lhs; whnf) Try.underlying106 rfl (by kernel_rfl) (fun w hw => hw.2.2)) (by assumption) (by go_frame; first | done | rfl) ?_
      refine rg_eff 11 (by conv => lhs; whnf) (by kernel_rfl) (fun K hK => ?_)
      refine eff_alloc zFile hS2 rfl ?_
      intro bX w3 hS3
      refine hK _ _ (.inr (.inl ⟨hS3.cellP pick4 1 rfl, HN.out _ _ (hS3.pick pick5), HF.out _ _ (hS3.pick pick6)⟩)) ?_
      clear hK hG hS2
      refine rg_eff 12 (by conv => lhs; whnf) (by kernel_rfl) (fun K hK => ?_)
      refine eff_store hS3 (by conv => lhs; whnf) (by conv => lhs; whnf) (by first | (simp only [putsAt, Value.cells]; (try go_frame); first | done | rfl) | rfl) (by first | ((repeat (first | with_reducible apply upd0 | with_reducible apply upd_there)); done) | ((repeat (first | apply upd0 | apply upd_there)); done) | fail) (Nat.le_of_ble_eq_true (by rfl)) (by kernel_rfl) (by rfl) ?_
      intro w4 hS4
      refine hK _ _ (.inl rfl) ?_
      refine wpL_done (by kernel_rfl) ?_
      clear hK hS3
      have hnu := rnum_c l la l.length lc (2 * i + 1) xws.length (HL.out _ (hS4.sub (by repeat (first | (with_reducible apply sub_refl) | ((with_reducible apply sub_take); (· first | ((repeat (first | with_reducible apply pick0 | with_reducible apply pick_there)); done) | ((repeat (first | apply pick0 | apply pick_there)); done) | fail)) | (with_reducible apply sub_drop)))))
      rw [show ((2 * i + 1 : Nat) : Int) = 2 * (i : Int) + 1 by omega] at hnu
      have hnx := clampN_le (num l (2 * i + 1)) xws.length
      have hlw : xws.length = xf.waits.length := by rw [← Hok.out, List.length_map]
      have hleft : ∀ X : Bs, (match xf.waits[clampN (num l (2 * i + 1)) xws.length]? with | some c => if c.cut then xf.at (clampN (num l (2 * i + 1)) xws.length) else xf.at (clampN (num l (2 * i + 1)) xws.length) ++ c.b.take (clampN (num l (2 * i + 2)) c.b.length) | none => xf.at (clampN (num l (2 * i + 1)) xws.length)) = X → D.rfile l i p = ⟨X, X, []⟩ := by
        rintro X rfl
        rw [Hrf.out]
        unfold Fil.crash Fil.left
        rw [← hlw]
        rfl
      have HBlen : Hid (∀ X : Bs, D.rfile l i p = ⟨X, X, []⟩ → X.length ≤ 16777216) := fun X hX => by
        have h1 := Fil.left_len Okf.out (num l (2 * i + 1)) (num l (2 * i + 2))
        rw [Hrf.out] at hX
        unfold Fil.crash at hX
        injection hX with h2 h3 h4
        rw [← h2]; exact h1
      have Hleft := Lib.hid hleft
      generalize clampN (num l (2 * i + 1)) xws.length = n at *
      have hby := rbytes_c (fv := .slice xfa xfn xfc) (nv := .slice xna xf.now.length xnc) (wv := .slice xwa xws.length xwc) xf Okf.out xws Hok.out n (by omega) (by omega) (Ro.of_sub R1.out (sub_drop (sub_drop (sub_drop (sub_drop (sub_drop (sub_drop (sub_drop sub_refl)))))))) (Ro.of_sub R2.out (sub_drop (sub_drop (sub_drop (sub_drop (sub_drop (sub_drop (sub_drop sub_refl)))))))) (fun q hq => Ro.of_sub (R3.out q hq) (sub_drop (sub_drop (sub_drop (sub_drop (sub_drop (sub_drop (sub_drop sub_refl)))))))) hS4
      have Hnx := Lib.hid hnx; have Hlw := Lib.hid hlw
      clear hleft hnx hlw
      try simp only [List.getElem_toArray, List.getElem_cons_succ, List.getElem_cons_zero]
      try go_frame
      go_wp2_with ((with_reducible apply at_load); refine ⟨?_⟩; refine wl_load1 (by assumption) (by rfl) (by first | ((repeat (first | with_reducible apply pick0 | with_reducible apply pick_there)); done) | ((repeat (first | apply pick0 | apply pick_there)); done) | fail) (Nat.le_of_ble_eq_true (by rfl)) (by conv => lhs; whnf) (by kernel_rfl) ?_)
      refine hnu.mono ?_
      rintro ee w5 ⟨v, rfl, rfl, rfl⟩
      clear hnu
      go_wp2_with (first
        | ((with_reducible apply at_load); refine ⟨?_⟩; refine wl_loadA (b := bX) hS4 (by rfl) pick0 Try.underlying106 rfl (by kernel_rfl) ?_)
        | ((with_reducible apply at_load); refine ⟨?_⟩; refine wl_load1 (by assumption) (by rfl) (by first | ((repeat (first | with_reducible apply pick0 | with_reducible apply pick_there)); done) | ((repeat (first | apply pick0 | apply pick_there)); done) | fail) (Nat.le_of_ble_eq_true (by rfl)) (by conv => lhs; whnf) (by kernel_rfl) ?_))
      refine hby.mono ?_
      clear hby hS4
      rintro ee w5 ⟨v, rfl, hS5, b5, n5, c5, rfl⟩
      by_cases hnl : n < xws.length
      · obtain ⟨q, hq⟩ : ∃ q, xws[n]? = some q := ⟨_, List.getElem?_eq_getElem hnl⟩
        have hqw : xf.waits[n]? = some q.1 := by rw [← Hok.out, List.getElem?_map, hq]; rfl
        have c3 : (n : Int) < (xws.length : Int) := by omega
        obtain ⟨wbk, woff, wc2, hwe, q0, _, _⟩ := rchg_cells (R2.out _ (hS5.sub (sub_drop (sub_drop (sub_drop (sub_drop (sub_drop (sub_drop (sub_drop (sub_drop sub_refl)))))))))) hq
        cases hwe
        have HQ : Hid (∀ w', Sat w0 w' (stars (xs.map rfR) :: F) → w'.cell? ⟨wbk, woff + n * 3 + 2, none⟩ = some q.2) := fun w' hw' => by
          obtain ⟨_, _, _, hee, _, _, q2⟩ := rchg_cells (R2.out _ hw') hq
          cases hee; exact q2
        have Hq := Lib.hid hq; have Hqw := Lib.hid hqw
        clear hq hqw
        obtain ⟨⟨cut, cn, cb⟩, pv⟩ := q
        dsimp only at q0 HQ Hqw
        have f2 : World.cell? _ ⟨bX, 2, none⟩ = some (.slice (some ⟨wbk, woff, none⟩) xws.length xwc) := hS5.cellP pick1 2 rfl
        cases cut with
        | true =>
          have HB := Lib.hid (Hleft.out (xf.at n) (by rw [Hqw.out]; rfl))
          go_wp2_with ((with_reducible apply at_load); refine ⟨?_⟩; refine wl_load1 (by assumption) (by rfl) (by first | ((repeat (first | with_reducible apply pick0 | with_reducible apply pick_there)); done) | ((repeat (first | apply pick0 | apply pick_there)); done) | fail) (Nat.le_of_ble_eq_true (by rfl)) (by conv => lhs; whnf) (by kernel_rfl) ?_)
          clear q0 HQ c3 hnl f2
          go_wp2_with fail
          refine (copy_c hS5 (xf.at n) hS5.rd (Nat.le_trans (HBlen.out (xf.at n) HB.out) (by decide))).mono ?_
          rintro ee w6 ⟨v, rfl, hS6, a6, n6, c6, rfl⟩
          clear hS5
          go_wp2_with (first
            | ((with_reducible apply at_build1); refine ⟨?_⟩; refine wl_build1 (e := 106) (sz := 3) (by' := 72) (by kernel_rfl) hS6 (by rfl) (cs := #[.slice b5 n5 c5, .slice a6 n6 c6, .slice none 0 0]) rfl rfl (Nat.le_of_ble_eq_true (by rfl)) ?_; intro bN wN hN)
            | ((with_reducible apply at_append); refine ⟨?_⟩; refine wl_app 106 3 72 (by kernel_rfl) hN (by rfl) (by rfl) pick4 pick0 (by rfl) (Nat.le_refl 1) (by rfl) hlen (by show 3 ≤ 65536; decide) (by decide) rfl ?_; intro bA nA cA wA hA)
            | ((with_reducible apply at_load); refine ⟨?_⟩; refine wl_loadC (by rfl) (by kernel_rfl) (HN0.out _ _ (hA.pick (pick_there pick6))) ?_)
            | ((with_reducible apply at_build1); refine ⟨?_⟩; refine wl_build1 (e := 91) (sz := 2) (by' := 24) (by kernel_rfl) hA (by rfl) (cs := #[.string p.1, .int .i64 i]) rfl rfl (Nat.le_of_ble_eq_true (by rfl)) ?_; intro bM wM hM)
            | ((with_reducible apply at_append); refine ⟨?_⟩; refine wl_app 91 2 24 (by kernel_rfl) hM (by rfl) (by rfl) pick6 pick0 (by rfl) (Nat.le_refl 1) (by rfl) hlen2 (by show 2 ≤ 65536; decide) (by decide) rfl ?_; intro bC nC cC wC hC))
          go_roundg (ns.length - (i + 1))
          case measure => have := Hlt.out; omega
          case rel =>
            refine ⟨i + 1, ys ++ [⟨⟨(xf.at n), (xf.at n), []⟩, .slice b5 n5 c5, .slice a6 n6 c6, .slice none 0 0, []⟩], rfl, Nat.succ_le_of_lt Hlt.out, by first | rfl | go_num, ?_, ?_, ?_⟩
            · rw [List.map_append, Hys.out, take_idx _ Hp.out, HB.out]; rfl
            · intro y hy
              rcases List.mem_append.1 hy with hy | hy
              · exact Hyo.out y hy
              · rw [List.mem_singleton.1 hy]; rfl
            · rw [take_idx _ Hp.out, ← nms_snoc, ← rfs_snoc]
              have h7 := rf_add (hC.sub (sub_take pick3 (sub_take pick2 (sub_take pick3 sub_refl))))
              exact h7.sub (sub_take pick2 (sub_take pick0 (sub_take pick0 (sub_drop (sub_take pick0 (sub_take pick0 (sub_take pick0 (sub_take pick0 sub_refl))))))))
        | false =>
          have HB := Lib.hid (Hleft.out (xf.at n ++ cb.take (clampN (num l (2 * i + 2)) cb.length)) (by rw [Hqw.out]; rfl))
          go_wp2_with ((with_reducible apply at_load); refine ⟨?_⟩; refine wl_load1 (by assumption) (by rfl) (by first | ((repeat (first | with_reducible apply pick0 | with_reducible apply pick_there)); done) | ((repeat (first | apply pick0 | apply pick_there)); done) | fail) (Nat.le_of_ble_eq_true (by rfl)) (by conv => lhs; whnf) (by kernel_rfl) ?_)
          obtain ⟨pa, pc, hpe, hpc⟩ := HPV.out _ (List.mem_of_getElem? Hq.out)
          dsimp only at hpe hpc
          subst hpe
          have hkk := clampN_le (num l (2 * i + 2)) cb.length
          have hnu := fun w' (hw' : Sat w0 w' F) => rnum_c l la l.length lc (2 * i + 2) cb.length (HL.out w' hw')
          rw [show ((2 * i + 2 : Nat) : Int) = 2 * (i : Int) + 2 by omega] at hnu
          generalize clampN (num l (2 * i + 2)) cb.length = kk at *
          have hbl := HBlen.out _ HB.out
          rw [List.length_append] at hbl
          have Hrd := R3.out _ (List.mem_of_getElem? Hq.out)
          have c4 : (kk : Int) ≤ (pc : Int) := by omega
          dsimp only at Hrd
          have HRD := Lib.hid Hrd
          have Hbl := Lib.hid hbl; have Hkk := Lib.hid hkk
          clear Hrd hbl hkk hpc q0 f2 hnl
          have hS6 := hS5.drew
          refine wpL_begin [19, 20, 21] (fun w' => w'.cell? ⟨bX, 2, none⟩ = some (.slice (some ⟨wbk, woff, none⟩) xws.length xwc) ∧ w'.cell? ⟨wbk, woff + n * 3 + 2, none⟩ = some (.slice pa cb.length pc)) (by kernel_rfl) ?_
          have hG : World.cell? _ ⟨bX, 2, none⟩ = some (.slice (some ⟨wbk, woff, none⟩) xws.length xwc) ∧ World.cell? _ ⟨wbk, woff + n * 3 + 2, none⟩ = some (.slice pa cb.length pc) := ⟨hS6.cellP pick1 2 rfl, HQ.out _ (hS6.sub (sub_drop (sub_drop (sub_drop (sub_drop (sub_drop (sub_drop (sub_drop (sub_drop sub_refl)))))))))⟩
          refine rg_pure 0 (by conv => lhs; whnf) (by kernel_rfl) (by intro _ _ _ h; exact h) (yl_move (by conv => lhs; whnf)) (by go_frame; first | done | rfl) ?_
          refine rg_pure 1 (by conv => lhs; whnf) (by kernel_rfl) (by intro _ _ _ h; exact h) (yl_field (by conv => lhs; whnf) (by ((intro wq; go_simp); first | done | (with_reducible rfl)))) (by go_frame; first | done | rfl) ?_
          refine rg_take 2 (by conv => lhs; whnf) (by kernel_rfl) (by intro _ _ _ h; exact h) (by first | exact tk_load (by conv => lhs; whnf) (by kernel_rfl) (by intro wq hq; first | exact hq | exact hq.1 | exact hq.2 | exact hq.2.1 | exact hq.2.2 | exact hq.2.2.1 | exact hq.2.2.2 | exact hq.2.2.2.1 | exact hq.2.2.2.2) | (refine Or.inl ⟨by rfl, ?_⟩; (intro wq hq; go_split_ands; go_simp); first | done | (with_reducible rfl))) (by assumption) (by go_frame; first | done | rfl) ?_
          refine rg_pure 3 (by conv => lhs; whnf) (by kernel_rfl) (by intro _ _ _ h; exact h) (yl_move (by conv => lhs; whnf)) (by go_frame; first | done | rfl) ?_
          refine rg_pure 4 (by conv => lhs; whnf) (by kernel_rfl) (by intro _ _ _ h; exact h) (yl_index (by conv => lhs; whnf) (by conv => lhs; whnf) (by ((intro wq; go_simp); first | done | (with_reducible rfl)))) (by go_frame; first | done | rfl) ?_
          refine rg_pure 5 (by conv => lhs; whnf) (by kernel_rfl) (by intro _ _ _ h; exact h) (yl_field (by conv => lhs; whnf) (by ((intro wq; go_simp); first | done | (with_reducible rfl)))) (by go_frame; first | done | rfl) ?_
          refine rg_take 6 (by conv => lhs; whnf) (by kernel_rfl) (by intro _ _ _ h; exact h) (by first | exact tk_load (by conv => lhs; whnf) (by kernel_rfl) (by intro wq hq; first | exact hq | exact hq.1 | exact hq.2 | exact hq.2.1 | exact hq.2.2 | exact hq.2.2.1 | exact hq.2.2.2 | exact hq.2.2.2.1 | exact hq.2.2.2.2) | (refine Or.inl ⟨by rfl, ?_⟩; (intro wq hq; go_split_ands; go_simp); first | done | (with_reducible rfl))) (by assumption) (by go_frame; first | done | rfl) ?_
          refine rg_pure 7 (by conv => lhs; whnf) (by kernel_rfl) (by intro _ _ _ h; exact h) (yl_move (by conv => lhs; whnf)) (by go_frame; first | done | rfl) ?_
          refine rg_pure 8 (by conv => lhs; whnf) (by kernel_rfl) (by intro _ _ _ h; exact h) (yl_move (by conv => lhs; whnf)) (by go_frame; first | done | rfl) ?_
          refine rg_pure 9 (by conv => lhs; whnf) (by kernel_rfl) (by intro _ _ _ h; exact h) (yl_bin (by conv => lhs; whnf) (by conv => lhs; whnf) (by ((intro wq; go_simp); first | done | (with_reducible rfl)))) (by go_frame; first | done | rfl) ?_
          refine rg_pure 10 (by conv => lhs; whnf) (by kernel_rfl) (by intro _ _ _ h; exact h) (yl_bin (by conv => lhs; whnf) (by conv => lhs; whnf) (by ((intro wq; go_simp); first | done | (with_reducible rfl)))) (by go_frame; first | done | rfl) ?_
          refine rg_pure 11 (by conv => lhs; whnf) (by kernel_rfl) (by intro _ _ _ h; exact h) (yl_field (by conv => lhs; whnf) (by ((intro wq; go_simp); first | done | (with_reducible rfl)))) (by go_frame; first | done | rfl) ?_
          refine rg_take 12 (by conv => lhs; whnf) (by kernel_rfl) (by intro _ _ _ h; exact h) (by first | exact tk_load (by conv => lhs; whnf) (by kernel_rfl) (by intro wq hq; first | exact hq | exact hq.1 | exact hq.2 | exact hq.2.1 | exact hq.2.2 | exact hq.2.2.1 | exact hq.2.2.2 | exact hq.2.2.2.1 | exact hq.2.2.2.2) | (refine Or.inl ⟨by rfl, ?_⟩; (intro wq hq; go_split_ands; go_simp); first | done | (with_reducible rfl))) (by assumption) (by go_frame; first | done | rfl) ?_
          refine rg_pure 13 (by conv => lhs; whnf) (by kernel_rfl) (by intro _ _ _ h; exact h) (yl_move (by conv => lhs; whnf)) (by go_frame; first | done | rfl) ?_
          refine rg_pure 14 (by conv => lhs; whnf) (by kernel_rfl) (by intro _ _ _ h; exact h) (yl_index (by conv => lhs; whnf) (by conv => lhs; whnf) (by ((intro wq; go_simp); first | done | (with_reducible rfl)))) (by go_frame; first | done | rfl) ?_
          refine rg_pure 15 (by conv => lhs; whnf) (by kernel_rfl) (by intro _ _ _ h; exact h) (yl_field (by conv => lhs; whnf) (by ((intro wq; go_simp); first | done | (with_reducible rfl)))) (by go_frame; first | done | rfl) ?_
          refine rg_take 16 (by conv => lhs; whnf) (by kernel_rfl) (by intro _ _ _ h; exact h) (by first | exact tk_load (by conv => lhs; whnf) (by kernel_rfl) (by intro wq hq; first | exact hq | exact hq.1 | exact hq.2 | exact hq.2.1 | exact hq.2.2 | exact hq.2.2.1 | exact hq.2.2.2 | exact hq.2.2.2.1 | exact hq.2.2.2.2) | (refine Or.inl ⟨by rfl, ?_⟩; (intro wq hq; go_split_ands; go_simp); first | done | (with_reducible rfl))) (by assumption) (by go_frame; first | done | rfl) ?_
          refine rg_pure 17 (by conv => lhs; whnf) (by kernel_rfl) (by intro _ _ _ h; exact h) (yl_len (by conv => lhs; whnf) (by ((intro wq; go_simp); first | done | (with_reducible rfl)))) (by go_frame; first | done | rfl) ?_
          refine rg_eff 18 (by conv => lhs; whnf) (by kernel_rfl) (fun K hK => ?_)
          refine eff_call3 (by kernel_rfl) (by conv => lhs; whnf) (by conv => lhs; whnf) (by conv => lhs; whnf) ?_
          refine (hnu _ (hS6.sub (by repeat (first | (with_reducible apply sub_refl) | ((with_reducible apply sub_take); (· first | ((repeat (first | with_reducible apply pick0 | with_reducible apply pick_there)); done) | ((repeat (first | apply pick0 | apply pick_there)); done) | fail)) | (with_reducible apply sub_drop))))).mono ?_
          rintro ee w7 ⟨v, rfl, rfl, rfl⟩
          refine hK _ _ (.inr (.inr rfl)) ?_
          clear hK hnu
          refine rg_pure 19 (by conv => lhs; whnf) (by kernel_rfl) (by intro _ _ _ h; exact h) (by (refine Or.inl ⟨by rfl, ?_⟩; ((intro wq; go_simp); first | done | (with_reducible rfl)))) (by go_frame; first | done | rfl) ?_
          refine rg_eff 20 (by conv => lhs; whnf) (by kernel_rfl) (fun K hK => ?_)
          refine eff_appB hS6 (by conv => lhs; whnf) (by conv => lhs; whnf) (bsl_of_rd (HRD.out _ (hS6.sub (sub_drop (sub_drop (sub_drop (sub_drop (sub_drop (sub_drop (sub_drop (sub_drop sub_refl)))))))))) Hkk.out) (by have := Hbl.out; omega) ?_
          intro b9 n9 c9 w9 hS9
          generalize xf.at n ++ cb.take kk = BB at hS9 HB
          refine hK _ _ (.inl rfl) ?_
          refine rg_pure 21 (by conv => lhs; whnf) (by kernel_rfl) (by intro _ _ _ h; exact h) (yl_assign (by conv => lhs; whnf)) (by go_frame; first | done | rfl) ?_
          refine wpL_done (by kernel_rfl) ?_
          clear hS5 hS6 hG hK c3 c4 HQ
          have hS5 := hS9
          clear hS9
          try simp only [List.getElem_toArray, List.getElem_cons_succ, List.getElem_cons_zero]
          try go_frame
          go_wp2_with fail
          refine (copy_c hS5 BB hS5.rd (Nat.le_trans (HBlen.out BB HB.out) (by decide))).mono ?_
          rintro ee w6 ⟨v, rfl, hS6, a6, n6, c6, rfl⟩
          clear hS5
          go_wp2_with (first
            | ((with_reducible apply at_build1); refine ⟨?_⟩; refine wl_build1 (e := 106) (sz := 3) (by' := 72) (by kernel_rfl) hS6 (by rfl) (cs := #[.slice b9 n9 c9, .slice a6 n6 c6, .slice none 0 0]) rfl rfl (Nat.le_of_ble_eq_true (by rfl)) ?_; intro bN wN hN)
            | ((with_reducible apply at_append); refine ⟨?_⟩; refine wl_app 106 3 72 (by kernel_rfl) hN (by rfl) (by rfl) pick4 pick0 (by rfl) (Nat.le_refl 1) (by rfl) hlen (by show 3 ≤ 65536; decide) (by decide) rfl ?_; intro bA nA cA wA hA)
            | ((with_reducible apply at_load); refine ⟨?_⟩; refine wl_loadC (by rfl) (by kernel_rfl) (HN0.out _ _ (hA.pick (pick_there pick6))) ?_)
            | ((with_reducible apply at_build1); refine ⟨?_⟩; refine wl_build1 (e := 91) (sz := 2) (by' := 24) (by kernel_rfl) hA (by rfl) (cs := #[.string p.1, .int .i64 i]) rfl rfl (Nat.le_of_ble_eq_true (by rfl)) ?_; intro bM wM hM)
            | ((with_reducible apply at_append); refine ⟨?_⟩; refine wl_app 91 2 24 (by kernel_rfl) hM (by rfl) (by rfl) pick6 pick0 (by rfl) (Nat.le_refl 1) (by rfl) hlen2 (by show 2 ≤ 65536; decide) (by decide) rfl ?_; intro bC nC cC wC hC))
          go_roundg (ns.length - (i + 1))
          case measure => have := Hlt.out; omega
          case rel =>
            refine ⟨i + 1, ys ++ [⟨⟨BB, BB, []⟩, .slice b9 n9 c9, .slice a6 n6 c6, .slice none 0 0, []⟩], rfl, Nat.succ_le_of_lt Hlt.out, by first | rfl | go_num, ?_, ?_, ?_⟩
            · rw [List.map_append, Hys.out, take_idx _ Hp.out, HB.out]; rfl
            · intro y hy
              rcases List.mem_append.1 hy with hy | hy
              · exact Hyo.out y hy
              · rw [List.mem_singleton.1 hy]; rfl
            · rw [take_idx _ Hp.out, ← nms_snoc, ← rfs_snoc]
              have h7 := rf_add (hC.sub (sub_take pick3 (sub_take pick2 (sub_take pick3 sub_refl))))
              exact h7.sub (sub_take pick2 (sub_take pick0 (sub_take pick0 (sub_drop (sub_take pick0 (sub_take pick0 (sub_take pick0 (sub_take pick0 sub_refl))))))))
      · have HB := Lib.hid (Hleft.out (xf.at n) (by rw [List.getElem?_eq_none (by have := Hlw.out; omega)]))
        have c3 : ¬ (n : Int) < (xws.length : Int) := by omega
        have f2 : World.cell? _ ⟨bX, 2, none⟩ = some (.slice xwa xws.length xwc) := hS5.cellP pick1 2 rfl
        go_wp2_with ((with_reducible apply at_load); refine ⟨?_⟩; refine wl_load1 (by assumption) (by rfl) (by first | ((repeat (first | with_reducible apply pick0 | with_reducible apply pick_there)); done) | ((repeat (first | apply pick0 | apply pick_there)); done) | fail) (Nat.le_of_ble_eq_true (by rfl)) (by conv => lhs; whnf) (by kernel_rfl) ?_)
        clear f2
        clear c3 hnl
        go_wp2_with fail
        refine (copy_c hS5 (xf.at n) hS5.rd (Nat.le_trans (HBlen.out (xf.at n) HB.out) (by decide))).mono ?_
        rintro ee w6 ⟨v, rfl, hS6, a6, n6, c6, rfl⟩
        clear hS5
        go_wp2_with (first
          | ((with_reducible apply at_build1); refine ⟨?_⟩; refine wl_build1 (e := 106) (sz := 3) (by' := 72) (by kernel_rfl) hS6 (by rfl) (cs := #[.slice b5 n5 c5, .slice a6 n6 c6, .slice none 0 0]) rfl rfl (Nat.le_of_ble_eq_true (by rfl)) ?_; intro bN wN hN)
          | ((with_reducible apply at_append); refine ⟨?_⟩; refine wl_app 106 3 72 (by kernel_rfl) hN (by rfl) (by rfl) pick4 pick0 (by rfl) (Nat.le_refl 1) (by rfl) hlen (by show 3 ≤ 65536; decide) (by decide) rfl ?_; intro bA nA cA wA hA)
          | ((with_reducible apply at_load); refine ⟨?_⟩; refine wl_loadC (by rfl) (by kernel_rfl) (HN0.out _ _ (hA.pick (pick_there pick6))) ?_)
          | ((with_reducible apply at_build1); refine ⟨?_⟩; refine wl_build1 (e := 91) (sz := 2) (by' := 24) (by kernel_rfl) hA (by rfl) (cs := #[.string p.1, .int .i64 i]) rfl rfl (Nat.le_of_ble_eq_true (by rfl)) ?_; intro bM wM hM)
          | ((with_reducible apply at_append); refine ⟨?_⟩; refine wl_app 91 2 24 (by kernel_rfl) hM (by rfl) (by rfl) pick6 pick0 (by rfl) (Nat.le_refl 1) (by rfl) hlen2 (by show 2 ≤ 65536; decide) (by decide) rfl ?_; intro bC nC cC wC hC))
        go_roundg (ns.length - (i + 1))
        case measure => have := Hlt.out; omega
        case rel =>
          refine ⟨i + 1, ys ++ [⟨⟨(xf.at n), (xf.at n), []⟩, .slice b5 n5 c5, .slice a6 n6 c6, .slice none 0 0, []⟩], rfl, Nat.succ_le_of_lt Hlt.out, by first | rfl | go_num, ?_, ?_, ?_⟩
          · rw [List.map_append, Hys.out, take_idx _ Hp.out, HB.out]; rfl
          · intro y hy
            rcases List.mem_append.1 hy with hy | hy
            · exact Hyo.out y hy
            · rw [List.mem_singleton.1 hy]; rfl
          · rw [take_idx _ Hp.out, ← nms_snoc, ← rfs_snoc]
            have h7 := rf_add (hC.sub (sub_take pick3 (sub_take pick2 (sub_take pick3 sub_refl))))
            exact h7.sub (sub_take pick2 (sub_take pick0 (sub_take pick0 (sub_drop (sub_take pick0 (sub_take pick0 (sub_take pick0 (sub_take pick0 sub_refl))))))))
    · obtain rfl : i = ns.length := by omega
      have c1 : ¬ (ns.length : Int) < (ns.length : Int) := by omega
      rw [List.take_length] at hys hS
      obtain ⟨qa, qn, qc, rfl, _⟩ := Sat.rd (hS.pick pick0)
      obtain ⟨ma, mc, rfl⟩ := nms_sl (Sat.rd (hS.pick pick2))
      have Hys := Lib.hid hys; have Hyo := Lib.hid hyo
      clear hlt hys hyo
      go_wp2_with ((with_reducible apply at_store); refine ⟨?_⟩; refine wl_store (by assumption) (by rfl) (by conv => lhs; whnf) (by first | (simp only [putsAt, Value.cells]; (try go_frame); first | done | rfl) | rfl) (by first | ((repeat (first | with_reducible apply upd0 | with_reducible apply upd_there)); done) | ((repeat (first | apply upd0 | apply upd_there)); done) | fail) (Nat.le_of_ble_eq_true (by rfl)) (by kernel_rfl) (by rfl) ?_; intro wS hS)
      refine bodyPost_ret (results_none rfl _ _ _) rfl ?_
      refine ⟨_, rfl, ?_⟩
      rw [Hcr.out]
      have hS1 := hS
      clear hS
      rw [List.length_mapIdx] at hS1
      simp only [List.setIfInBounds_toArray, List.set_cons_zero, List.set_cons_succ] at hS1
      have hS2 : Sat w0 _ (osl 106 3 (.slice qa qn qc) (rfsL ys) :: stars (ys.map rfR) :: osl 91 2 (.slice ma ns.length mc) (nmsL (ns.mapIdx fun i p => (p.1, i))) :: dskPt d { D with fast := ns.mapIdx fun i p => (p.1, i), now := ns.mapIdx fun i p => (p.1, i), waits := [], files := ns.mapIdx (D.rfile l), off := false, armed := false, left := 0 } (.slice qa qn qc) (.slice ma ns.length mc) (.slice ma ns.length mc) (.slice none 0 0) :: F) :=
        hS1.sub (sub_take pick0 (sub_take pick0 (sub_take pick0 (sub_take pick0 (sub_drop (sub_drop (sub_drop sub_refl)))))))
      have h1 : Sat w0 _ (osl 109 3 (.slice none 0 0) [] :: _) := Sat.osl_nil.2 hS2
      have h2 : Sat w0 _ (stars [] :: osl 109 3 (.slice none 0 0) [] :: _) := Sat.emp.2 h1
      have h3 := bag_add (g := []) (h2.sub (sub_take pick4 (sub_take pick0 sub_refl)))
      have h4 := h3.sub (sub_take pick4 (sub_take pick2 (sub_take pick2 (sub_take pick0 (sub_take pick0 sub_refl)))))
      exact DskRep.shut (D := { D with fast := ns.mapIdx fun i p => (p.1, i), now := ns.mapIdx fun i p => (p.1, i), waits := [], files := ns.mapIdx (D.rfile l), off := false, armed := false, left := 0 }) ⟨Hys.out, Hyo.out, .head _, .head _⟩ h4
end
end Go.Proofs.Ytmjldaedhmipkaa
