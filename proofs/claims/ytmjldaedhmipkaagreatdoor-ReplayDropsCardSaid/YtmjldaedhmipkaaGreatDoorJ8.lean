import Derived.Test.YtmjldaedhmipkaaGreatDoorJ7
set_option linter.unusedVariables false
namespace Go.Proofs.YtmjldaedhmipkaaGreatDoor
open Go Go.Sl Go.Med Go.MapKept Go.RowKit
section
variable {w0 w : World} {F R : List HProp} {d : Nat} {D : Med} {fsv fv nv wv v lv : Value} {xs : List RF} {g : Bag} {K : Nat}
theorem osl_cut {T sz : Nat} {a : Option Addr} {n c k : Nat} {ks : List Value} (h : Sat w0 w (osl T sz (.slice a n c) ks :: R)) (hk : k ≤ n) (hsz : 0 < sz) : Sat w0 w (osl T sz (.slice a k c) (ks.take (k * sz)) :: R) := by
  rcases Sat.osl_cases h with ⟨he, hx, hR⟩ | ⟨b, n', cap', cs, he, h1, h2, h3, h4, h5, h6⟩
  · cases he
    obtain rfl : k = 0 := by omega
    rw [hx, List.take_nil]
    exact h.perm (by rw [hx])
  · cases he
    refine Sat.osl_of_pt h6 ?_ (by omega) h3 h4 ?_
    · rw [List.length_take, h1]
      exact Nat.min_eq_left (Nat.mul_le_mul_right _ hk)
    · rw [← h5, List.take_take, Nat.min_eq_left (Nat.mul_le_mul_right _ hk)]
theorem bsl_cut {a : Option Addr} {n c k : Nat} {l : Bs} (h : Sat w0 w (bsl (.slice a n c) l :: R)) (hk : k ≤ n) : Sat w0 w (bsl (.slice a k c) (l.take k) :: R) := by
  have := osl_cut h hk (by decide)
  rw [Nat.mul_one] at this
  unfold bsl bys
  rw [List.map_take]
  exact this
theorem bsl_sl {l : Bs} (h : Sat w0 w (bsl v l :: R)) : ∃ a c, v = .slice a l.length c ∧ l.length ≤ c ∧ c ≤ 9223372036854775807 ∧ ((a = none ∧ c = 0) ∨ ∃ g, a = some ⟨g, 0, none⟩) := by
  rcases Sat.osl_cases h with ⟨hv, hx, _⟩ | ⟨b, n', cap', cs, hv, hl, hn, hc, hcm, _, _⟩
  · have h5 : (bys l).length = 0 := by rw [hx]; rfl
    rw [bys_len] at h5
    exact ⟨none, 0, by rw [hv, h5], by omega, by omega, .inl ⟨rfl, rfl⟩⟩
  · rw [bys_len, Nat.mul_one] at hl
    exact ⟨_, _, by rw [hv, hl], by omega, hcm, .inr ⟨b, rfl⟩⟩
section
variable {ops : Array Oper} {rest : List Oper} {a : Act} {Q : Exit → Act → World → Prop} {dst : Option Tmp} {t : Nat} {pos : String} {after : Array Edge} {s y : Operand} {x : Value} {l k : Bs} {K : Act → World → Prop} {E : Prop}
theorem wl_appB (hs : Sat w0 w (bsl v l :: R)) (hv : a.eval s = v) (hy : a.eval y = x) (hx : rdsl 1 x (bys k) w) (hl : l.length + k.length ≤ 1099511627776)
    (hK : ∀ a' n' c' w', Sat w0 w' (bsl (.slice a' n' c') (l ++ k) :: R) → wpList Tryz.prog ops Q rest (a.put dst (.slice a' n' c')) w') :
    wpList Tryz.prog ops Q (⟨dst, .call { callee := .builtin .append, args := #[s, y], argTypes := #[42, 42] }, t, pos, after, none⟩ :: rest) a w := by
  obtain ⟨i, hi, hz0, hz1, hz2⟩ := info8p
  refine wpList_append (w0 := w0) (by rfl) s y 42 (by rfl) _ i _ Tryz.underlying42 hi hz0 hz1 (by rfl) (by omega) hv hy (bys_one _) hs hx ?_ ?_ ?_
  · rw [bys_len, bys_len]; unfold maxLen; omega
  · rw [bys_len, bys_len, hz2]; omega
  · intro v2 w2 hS2 _
    obtain ⟨a2, n2, c2, rfl, _⟩ := id hS2.rd
    refine hK _ _ _ _ ?_
    unfold bsl bys
    rw [List.map_append]
    exact hS2
theorem eff_appB (hs : Sat w0 w (bsl v l :: R)) (hv : a.eval s = v) (hy : a.eval y = x) (hx : rdsl 1 x (bys k) w) (hl : l.length + k.length ≤ 1099511627776)
    (hK : ∀ a' n' c' w', Sat w0 w' (bsl (.slice a' n' c') (l ++ k) :: R) → K (a.put dst (.slice a' n' c')) w') :
    if Region.wanted ⟨dst, .call { callee := .builtin .append, args := #[s, y], argTypes := #[42, 42] }, t, pos, after, none⟩ (yielded ops a.tmps) = true then
      Oper.wp Tryz.prog ⟨dst, .call { callee := .builtin .append, args := #[s, y], argTypes := #[42, 42] }, t, pos, after, none⟩ a w K Q else E := by
  obtain ⟨i, hi, hz0, hz1, hz2⟩ := info8p
  refine step_append (w0 := w0) (by rfl) s y 42 (by rfl) _ i _ Tryz.underlying42 hi hz0 hz1 (by rfl) (by omega) hv hy (bys_one _) hs hx ?_ ?_ ?_
  · rw [bys_len, bys_len]; unfold maxLen; omega
  · rw [bys_len, bys_len, hz2]; omega
  · intro v2 w2 hS2 _
    obtain ⟨a2, n2, c2, rfl, _⟩ := id hS2.rd
    refine hK _ _ _ _ ?_
    unfold bsl bys
    rw [List.map_append]
    exact hS2
end
theorem chg_at {ws : List (Chg × Value)} {i : Nat} {p : Chg × Value} (h : ws[i]? = some p) : (ws.flatMap chgCells)[i * 3]? = some (.bool p.1.cut) ∧ (ws.flatMap chgCells)[i * 3 + 1]? = some (.int .i64 p.1.n) ∧ (ws.flatMap chgCells)[i * 3 + 2]? = some p.2 :=
  ⟨flat_get chgCells 3 (fun _ => rfl) ws i p 0 h (by decide), flat_get chgCells 3 (fun _ => rfl) ws i p 1 h (by decide), flat_get chgCells 3 (fun _ => rfl) ws i p 2 h (by decide)⟩
theorem chg_len (ws : List (Chg × Value)) : (ws.flatMap chgCells).length = 3 * ws.length := by
  induction ws with
  | nil => rfl
  | cons x l ih => rw [List.flatMap_cons, List.length_append, ih, List.length_cons]; show 3 + 3 * l.length = _; omega
theorem rchg_cells {ws : List (Chg × Value)} {i : Nat} {p : Chg × Value} (h : rdsl 3 v (ws.flatMap chgCells) w) (hi : ws[i]? = some p) :
    ∃ bk off c, v = .slice (some ⟨bk, off, none⟩) ws.length c ∧ w.cell? ⟨bk, off + i * 3, none⟩ = some (.bool p.1.cut) ∧ w.cell? ⟨bk, off + i * 3 + 1, none⟩ = some (.int .i64 p.1.n) ∧ w.cell? ⟨bk, off + i * 3 + 2, none⟩ = some p.2 := by
  obtain ⟨a, n, c, rfl, hl, _⟩ := id h
  rw [chg_len] at hl
  obtain rfl : n = ws.length := by omega
  obtain ⟨h0, h1, h2⟩ := chg_at hi
  obtain ⟨bk, off, rfl, hc⟩ := rdsl_cells h h0
  exact ⟨bk, off, c, rfl, hc _ _ h0, by rw [Nat.add_assoc]; exact hc _ _ h1, by rw [Nat.add_assoc]; exact hc _ _ h2⟩
theorem chg_sl {ws : List (Chg × Value)} (h : rdsl 3 v (ws.flatMap chgCells) w) : ∃ a c, v = .slice a ws.length c := by
  obtain ⟨a, n, c, rfl, hl, _⟩ := h
  rw [chg_len] at hl
  obtain rfl : n = ws.length := by omega
  exact ⟨a, c, rfl⟩
set_option maxRecDepth 20000 in
set_option maxHeartbeats 8000000 in
theorem rbytes_c (f : Fil) (ok : f.Ok K) (ws : List (Chg × Value)) (hws : ws.map (·.1) = f.waits) (n : Nat) (hn : n ≤ f.waits.length) (hwl : f.waits.length ≤ 1048576)
    (r1 : Ro w0 F (rdsl 1 fv (bys f.fast))) (r2 : Ro w0 F (rdsl 3 wv (ws.flatMap chgCells))) (r3 : ∀ p ∈ ws, Ro w0 F (rdsl 1 p.2 (bys p.1.b))) (h : Sat w0 w F) :
    Calls Tryz.prog 95 #[.agg #[fv, nv, wv], .int .i64 n] w (Rtn fun v w' => Sat w0 w' (bsl v (f.at n) :: F) ∧ ∃ a n c, v = .slice a n c) := by
  have Ok := Lib.hid ok; have Hws := Lib.hid hws; have Hn := Lib.hid hn; have Hwl := Lib.hid hwl; have R1 := Lib.hid r1; have R2 := Lib.hid r2; have R3 := Lib.hid r3
  have Hlw := Lib.hid (show ws.length = f.waits.length by rw [← hws, List.length_map])
  obtain ⟨wa, wc, rfl⟩ := chg_sl (r2 _ h)
  obtain ⟨fa, fn, fc, rfl, _⟩ := id (r1 _ h)
  clear ok hws hn hwl r1 r2 r3
  go_enter Tryz.func95, Tryz.ntmps95
  go_wp2_with (first | ((with_reducible apply at_box); refine ⟨?_⟩; refine wl_box (by assumption) evD evD ?_; intro bB wB hB) | ((with_reducible apply at_load); refine ⟨?_⟩; refine wl_load1 (by assumption) (by rfl) pkD (Nat.le_of_ble_eq_true (by rfl)) evD (by kernel_rfl) ?_))
  refine (copy_c hB f.fast (R1.out _ hB.drop) (Nat.le_trans (Ok.out.size 0 (Nat.zero_le _)) (by decide))).mono ?_
  rintro ee w1 ⟨v, rfl, hS0, a0, n0, c0, rfl⟩
  clear hB h
  go_wp2_with fail
  go_loopg [5, 6] n (fun g' bq iq wr => ∃ i : Nat, g' = n - i ∧ i ≤ n ∧ iq = .int .i64 i ∧ Sat w0 wr (bsl bq (f.at i) :: pt bB (.cells #[.slice fa fn fc, nv, .slice wa ws.length wc] 164 (0,0)) :: F))
  case atStart => exact ⟨0, rfl, Nat.zero_le _, rfl, hS0⟩
  case round =>
    obtain ⟨i, rfl, hi, rfl, hS⟩ := hrel
    clear hS0
    obtain ⟨ba, bc, rfl, hbl, hbc, hba⟩ := bsl_sl hS
    by_cases hlt : i < n
    · have hlw := Hlw.out; have hnn := Hn.out; have hww := Hwl.out
      have c1 : (i : Int) < (n : Int) := by omega
      have c2 : (i : Int) < (ws.length : Int) := by omega
      have hwi : IntKind.i64.wrap ((i : Int) + 1) = (i : Int) + 1 := IntWalk.i64_in _ (by omega)
      obtain ⟨p, hp⟩ : ∃ p, ws[i]? = some p := ⟨_, List.getElem?_eq_getElem (show i < ws.length by omega)⟩
      have hpf : f.waits[i]? = some p.1 := by rw [← Hws.out, List.getElem?_map, hp]; rfl
      obtain ⟨bk, off, c, hwe, e0, e1, e2⟩ := rchg_cells (R2.out _ hS.drop.drop) hp
      cases hwe
      have Hlt := Lib.hid hlt; have Hp := Lib.hid hp
      have hsz := Ok.out.size i (by omega)
      have hcut := Ok.out.cuts i p.1 hpf
      have hrp := R3.out p (List.mem_of_getElem? hp)
      have Hrp := Lib.hid hrp
      have Hnx := Lib.hid (f.at_succ i p.1 hpf)
      have hszn := Ok.out.size (i + 1) (by omega)
      rw [Hnx.out] at hszn
      unfold Chg.on at hszn Hnx
      clear hlt hp hpf hrp hlw hnn hww
      obtain ⟨⟨cut, cn, cb⟩, pv⟩ := p
      dsimp only at e0 e1 e2 hcut Hrp Hnx hszn
      cases cut with
      | true =>
        have hcn := hcut rfl
        have c3 : (cn : Int) ≤ (bc : Int) := by omega
        simp only [if_true] at Hnx
        have hS2 := bsl_cut hS hcn
        rw [← Hnx.out] at hS2
        clear hcut hszn
        rcases hba with ⟨rfl, rfl⟩ | ⟨gb, rfl⟩
        · obtain rfl : cn = 0 := by omega
          go_wp2_with ((with_reducible apply at_load); refine ⟨?_⟩; refine wl_load1 (by assumption) (by rfl) pkD (Nat.le_of_ble_eq_true (by rfl)) evD (by kernel_rfl) ?_)
          go_roundg (n - (i + 1))
          case measure => have := Hlt.out; omega
          case rel => exact ⟨i + 1, rfl, Nat.succ_le_of_lt Hlt.out, by first | rfl | go_num, hS2⟩
        · go_wp2_with ((with_reducible apply at_load); refine ⟨?_⟩; refine wl_load1 (by assumption) (by rfl) pkD (Nat.le_of_ble_eq_true (by rfl)) evD (by kernel_rfl) ?_)
          go_roundg (n - (i + 1))
          case measure => have := Hlt.out; omega
          case rel => exact ⟨i + 1, rfl, Nat.succ_le_of_lt Hlt.out, by first | rfl | go_num, hS2⟩
      | false =>
        simp only [Bool.false_eq_true, if_false] at Hnx hszn
        rw [List.length_append] at hszn
        have Hcell := Lib.hid (show ∀ w', Sat w0 w' F → w'.cell? ⟨bk, off + i * 3 + 2, none⟩ = some pv from fun w' hw' => by
          obtain ⟨bk2, off2, c2, hwe2, _, _, e2⟩ := rchg_cells (R2.out _ hw') Hp.out
          cases hwe2
          exact e2)
        clear hcut
        go_wp2_with ((with_reducible apply at_load); refine ⟨?_⟩; refine wl_load1 (by assumption) (by rfl) pkD (Nat.le_of_ble_eq_true (by rfl)) evD (by kernel_rfl) ?_)
        have hS2 := hS.drew
        clear hS
        refine wpL_begin [8, 9] (fun w' => w'.cell? ⟨bB, 2, none⟩ = some (.slice (some ⟨bk, off, none⟩) ws.length wc) ∧ w'.cell? ⟨bk, off + i * 3 + 2, none⟩ = some pv) (by kernel_rfl) ?_
        have hG : World.cell? _ ⟨bB, 2, none⟩ = some (.slice (some ⟨bk, off, none⟩) ws.length wc) ∧ World.cell? _ ⟨bk, off + i * 3 + 2, none⟩ = some pv := ⟨hS2.cellP pick1 2 rfl, Hcell.out _ hS2.drop.drop⟩
        refine rp 0 (hy := (yl_move evD)) (h := ?_)
        refine rp 2 (hy := (yl_field evD rnD)) (h := ?_)
        refine rt 3 (h := ?_)
        refine rp 4 (hy := (yl_move evD)) (h := ?_)
        refine rp 5 (hy := (yl_index evD evD rnD)) (h := ?_)
        refine rp 6 (hy := (yl_field evD rnD)) (h := ?_)
        refine rt 7 (h := ?_)
        refine rg_eff 1 evD (by kernel_rfl) (fun K hK => ?_)
        refine eff_call1 (by kernel_rfl) evD ?_
        refine (copy_c hS2 (f.at i) hS2.rd (by omega)).mono ?_
        rintro e w4 ⟨v, rfl, hS4, a4, n4, c4, rfl⟩
        refine hK _ _ (.inr (.inl ⟨hS4.cellP pick2 2 rfl, Hcell.out _ hS4.drop.drop.drop⟩)) ?_
        clear hK hG
        refine rg_eff 8 evD (by kernel_rfl) (fun K hK => ?_)
        refine eff_appB hS4 evD evD (Hrp.out _ hS4.drop.drop.drop) (by omega) ?_
        intro a5 n5 c5 w5 hS5
        refine hK _ _ (.inl rfl) ?_
        refine rp 9 (hy := (yl_assign evD)) (h := ?_)
        refine wpL_done (by kernel_rfl) ?_
        clear hS4 hS2
        try go_frame
        go_wp2
        rw [← Hnx.out] at hS5
        go_roundg (n - (i + 1))
        case measure => have := Hlt.out; omega
        case rel => exact ⟨i + 1, rfl, Nat.succ_le_of_lt Hlt.out, by first | rfl | go_num, hS5.sub (sub_take pick0 (sub_drop sub_refl))⟩
    · obtain rfl : i = n := by omega
      have c1 : ¬ (i : Int) < (i : Int) := by omega
      clear hlt
      go_wp2
      go_ret
      exact ⟨_, rfl, hS.sub (sub_take pick0 (sub_drop sub_refl)), _, _, _, rfl⟩
end
section
variable {P : Program} {w0 w : World} {L L' : List HProp} {b o : Nat} {ops : Array Oper} {rest : List Oper} {a : Act} {Q : Exit → Act → World → Prop} {dst : Option Tmp} {t ty T sz n c : Nat} {pos : String} {after : Array Edge} {x y : Operand} {v : Value} {xs : List Value} {K : Act → World → Prop} {E : Prop}
theorem eff_storeS (i : Nat) (hs : Sat w0 w L) (hx : a.eval x = .pointer (some ⟨b, i, none⟩)) (hy : a.eval y = v) (u : Upd (osl T sz (.slice (some ⟨b, 0, none⟩) n c) xs) (osl T sz (.slice (some ⟨b, 0, none⟩) n c) (xs.set i v)) L L')
    (hi : i < xs.length) (hty : (P.info? ty).map (·.size) = some 1) (h0 : v.cells = #[v]) (h1 : v.oneCell' = true)
    (hK : ∀ w', Sat w0 w' L' → K (a.put dst undef) w') :
    if Region.wanted ⟨dst, .store ty x y, t, pos, after, none⟩ (yielded ops a.tmps) = true then Oper.wp P ⟨dst, .store ty x y, t, pos, after, none⟩ a w K Q else E := by
  obtain ⟨R', h2, h3⟩ := u
  have h := hs.perm h2
  rcases Sat.osl_cases h with ⟨he, _⟩ | ⟨g', n', cap', cs, he, k1, k2, k3, k4, k5, k6⟩
  · cases he
  · cases he
    have hlen : xs.length ≤ cs.size := by rw [← k5, List.length_take, Array.length_toList]; omega
    refine eff_store k6 hx hy (cs' := cs.setIfInBounds i v) (by rw [h0]; rfl) upd0 (by rw [h0]; show i + 1 ≤ cs.size; omega) (by rw [h0]; exact hty) (by rw [h0]; simpa using h1) fun w' hS => hK w' (Sat.perm ?_ h3.symm)
    refine Sat.osl_of_pt hS (by rw [List.length_set]; exact k1) k2 (by rw [Array.size_setIfInBounds]; exact k3) k4 ?_
    rw [Array.toList_setIfInBounds, List.take_set, k5]
end
section
variable {w0 w : World} {F R : List HProp} {d i : Nat} {D : Med} {fsv fv nv wv v lv bv : Value} {xs : List RF} {x : RF} {g : Bag} {K : Nat}
theorem rf_out (hx : xs[i]? = some x) (h : Sat w0 w (stars (xs.map rfR) :: R)) : ∃ G : HProp, (∀ x', stars ((xs.set i x').map rfR) = star (rfR x') G) ∧
    Sat w0 w (bsl x.fv x.f.fast :: bsl x.nv x.f.now :: osl 155 3 x.wv (x.ws.flatMap chgCells) :: chgs x.ws :: G :: R) := by
  obtain ⟨G, hG, hG'⟩ := stars_at xs i x hx
  refine ⟨G, hG', ?_⟩
  rw [hG] at h
  have h1 := Sat.star.1 h
  unfold rfR at h1
  have h2 := Sat.star.1 h1
  have h3 := Sat.star.1 (h2.pick pick1)
  have h4 := Sat.star.1 (h3.pick pick1)
  have h5 := Sat.star.1 (h4.pick pick1)
  have h6 := Sat.emp.1 (h5.pick pick1)
  exact h6.sub (sub_take pick3 (sub_take pick2 (sub_take pick1 (sub_take pick0 (sub_take pick0 sub_refl)))))
theorem rf_in {G : HProp} (hG : ∀ x', stars ((xs.set i x').map rfR) = star (rfR x') G) (h : Sat w0 w (bsl x.fv x.f.fast :: bsl x.nv x.f.now :: osl 155 3 x.wv (x.ws.flatMap chgCells) :: chgs x.ws :: G :: R)) :
    Sat w0 w (stars ((xs.set i x).map rfR) :: R) := by
  rw [hG x]
  refine Sat.star.2 ?_
  unfold rfR
  have h0 : Sat w0 w (stars [] :: bsl x.fv x.f.fast :: bsl x.nv x.f.now :: osl 155 3 x.wv (x.ws.flatMap chgCells) :: chgs x.ws :: G :: R) := Sat.emp.2 h
  have h1 : Sat w0 w (stars [chgs x.ws] :: bsl x.fv x.f.fast :: bsl x.nv x.f.now :: osl 155 3 x.wv (x.ws.flatMap chgCells) :: G :: R) := Sat.star.2 (h0.sub (sub_take pick4 (sub_take pick0 sub_refl)))
  have h2 := Sat.star.2 (h1.sub (sub_take pick3 (sub_take pick0 sub_refl)))
  have h3 := Sat.star.2 (h2.sub (sub_take pick2 (sub_take pick0 sub_refl)))
  exact Sat.star.2 (h3.sub (sub_take pick1 (sub_take pick0 sub_refl)))
theorem rfsL_fv : ∀ (xs : List RF) (i : Nat) (x : RF) (u : Value), xs[i]? = some x → (rfsL xs).set (i * 3) u = rfsL (xs.set i { x with fv := u })
  | [], _, _, _, h => by cases h
  | q :: xs, 0, x, u, h => by cases h; rfl
  | q :: xs, i + 1, x, u, h => by
    have e := rfsL_fv xs i x u (by simpa using h)
    show (q.fv :: q.nv :: q.wv :: rfsL xs).set ((i + 1) * 3) u = q.fv :: q.nv :: q.wv :: rfsL (xs.set i { x with fv := u })
    rw [← e, show (i + 1) * 3 = i * 3 + 1 + 1 + 1 by omega]; rfl
theorem rfsL_nv : ∀ (xs : List RF) (i : Nat) (x : RF) (u : Value), xs[i]? = some x → (rfsL xs).set (i * 3 + 1) u = rfsL (xs.set i { x with nv := u })
  | [], _, _, _, h => by cases h
  | q :: xs, 0, x, u, h => by cases h; rfl
  | q :: xs, i + 1, x, u, h => by
    have e := rfsL_nv xs i x u (by simpa using h)
    show (q.fv :: q.nv :: q.wv :: rfsL xs).set ((i + 1) * 3 + 1) u = q.fv :: q.nv :: q.wv :: rfsL (xs.set i { x with nv := u })
    rw [← e, show (i + 1) * 3 + 1 = i * 3 + 1 + 1 + 1 + 1 by omega]; rfl
theorem rfsL_wv : ∀ (xs : List RF) (i : Nat) (x : RF) (u : Value), xs[i]? = some x → (rfsL xs).set (i * 3 + 2) u = rfsL (xs.set i { x with wv := u })
  | [], _, _, _, h => by cases h
  | q :: xs, 0, x, u, h => by cases h; rfl
  | q :: xs, i + 1, x, u, h => by
    have e := rfsL_wv xs i x u (by simpa using h)
    show (q.fv :: q.nv :: q.wv :: rfsL xs).set ((i + 1) * 3 + 2) u = q.fv :: q.nv :: q.wv :: rfsL (xs.set i { x with wv := u })
    rw [← e, show (i + 1) * 3 + 2 = i * 3 + 2 + 1 + 1 + 1 by omega]; rfl
theorem rfsL_same {x x' : RF} (h1 : x'.fv = x.fv) (h2 : x'.nv = x.nv) (h3 : x'.wv = x.wv) : ∀ (xs : List RF) (i : Nat), rfsL (xs.set i x') = rfsL (xs.set i x)
  | [], _ => rfl
  | q :: xs, 0 => by
    show x'.fv :: x'.nv :: x'.wv :: rfsL xs = x.fv :: x.nv :: x.wv :: rfsL xs
    rw [h1, h2, h3]
  | q :: xs, i + 1 => by
    show q.fv :: q.nv :: q.wv :: rfsL (xs.set i x') = q.fv :: q.nv :: q.wv :: rfsL (xs.set i x)
    rw [rfsL_same h1 h2 h3 xs i]
theorem rfsL_alike (f f' : Fil) (fv nv wv : Value) (ws ws' : List (Chg × Value)) (xs : List RF) (i : Nat) : rfsL (xs.set i ⟨f, fv, nv, wv, ws⟩) = rfsL (xs.set i ⟨f', fv, nv, wv, ws'⟩) := rfsL_same (x := ⟨f', fv, nv, wv, ws'⟩) (x' := ⟨f, fv, nv, wv, ws⟩) rfl rfl rfl xs i
theorem chgs_add {ws : List (Chg × Value)} {p : Chg × Value} (h : Sat w0 w (bsl p.2 p.1.b :: chgs ws :: R)) : Sat w0 w (chgs (ws ++ [p]) :: R) := by
  rw [chgs_snoc]
  exact Sat.star.2 (h.sub (sub_take pick1 (sub_take pick0 sub_refl)))
theorem chg_snoc (ws : List (Chg × Value)) (p : Chg × Value) : ws.flatMap chgCells ++ chgCells p = (ws ++ [p]).flatMap chgCells := by rw [List.flatMap_append]; simp
theorem DskIn.set (h : DskIn D fv nv xs g) {i : Nat} {x' : RF} (hok : x'.ws.map (·.1) = x'.f.waits) : DskIn (D.setFile i x'.f) fv nv (xs.set i x') g :=
  ⟨by rw [List.map_set, h.files]; rfl, (fun y hy => by rcases List.mem_or_eq_of_mem_set hy with hy | rfl; exact h.ok y hy; exact hok), h.fast, h.now⟩
theorem DskIn.step (h : DskIn D fv nv xs g) : DskIn D.step.1 fv nv xs g := ⟨by rw [step_files]; exact h.files, h.ok, by rw [step_fast]; exact h.fast, by rw [step_now]; exact h.now⟩
end
section
variable {P : Program} {w0 w : World} {F R : List HProp} {ops : Array Oper} {rest : List Oper} {a : Act} {Q : Exit → Act → World → Prop} {dst : Option Tmp} {t ty T b o : Nat} {pos : String} {after : Array Edge} {x : Operand} {cs : Array Value} {g : Nat × Bool}
theorem wl_loadG (ks : List Value) (hw : Region.wanted ⟨dst, .load ty x, t, pos, after, some g⟩ (yielded ops a.tmps) = true) (hx : a.eval x = .pointer (some ⟨b, o, none⟩)) (hc : w.rangeAt b o ks)
    {d : TypeDesc} (hu : P.underlying ty = some d) (hd : d.isRow = true) (hi : (P.info? ty).map (·.size) = some ks.length)
    (h : wpList P ops Q rest (a.put dst (.agg ks.toArray)) w) : wpList P ops Q (⟨dst, .load ty x, t, pos, after, some g⟩ :: rest) a w :=
  BigFrame.wpList_want hw fun _ hK => wp_load_mid ty x rfl b o hx ks d hc hu hd hi (hK _ _ h)
theorem at_loadH (h : Stop (wpList P ops Q (⟨dst, .load ty x, t, pos, after, some g⟩ :: rest) a w)) : wpList P ops Q (⟨dst, .load ty x, t, pos, after, some g⟩ :: rest) a w := h.out
end
section
variable {w0 w : World} {F R : List HProp} {bE : Nat} {e : Frm.Ent} {dv : Value}
theorem ent_at0 (h : Sat w0 w (pt bE (.cells (entA e dv) 44 (0,0)) :: R)) : w.cell? ⟨bE, 0, none⟩ = some (.int .i64 e.tag) := h.cellAt 0 _ (entA_0 e _)
theorem ent_at33 (hk : e.key.length = 32) (h : Sat w0 w (pt bE (.cells (entA e dv) 44 (0,0)) :: R)) : w.cell? ⟨bE, 33, none⟩ = some dv := h.cellAt 33 _ (entA_33 e _ hk)
theorem ent_atk (hk : e.key.length = 32) (h : Sat w0 w (pt bE (.cells (entA e dv) 44 (0,0)) :: R)) : w.rangeAt bE 1 (bys e.key) := fun j v hj => h.cellAt (1 + j) v (entA_key e dv hk j v (by simpa using hj))
theorem ent_atkey {i : Nat} {c : UInt8} (hk : e.key.length = 32) (hi : e.key[i]? = some c) (h : Sat w0 w (pt bE (.cells (entA e dv) 44 (0,0)) :: R)) : w.cell? ⟨bE, 1 + i, none⟩ = some (.int .u8 c.toNat) :=
  ent_atk hk h i _ (by unfold bys; rw [List.getElem?_map, hi]; rfl)
set_option maxRecDepth 20000 in
set_option maxHeartbeats 4000000 in
theorem rencode2_c (e : Frm.Ent) (hk : e.key.length = 32) (da : Option Addr) (dc : Nat) (hd : Ro w0 F (rdsl 1 (.slice da e.data.length dc) (bys e.data))) (t2 : e.tag = 2) (hz : e.key = Frm.zero32) (h0e : e.data.length = 0) (h : Sat w0 w F) :
    Calls Tryz.prog 72 #[.agg (entA e (.slice da e.data.length dc))] w (Rtn fun v w' => ∃ bv, v = .tuple #[bv, errno (Frm.encode e).2] ∧ (∃ a n c, bv = .slice a n c) ∧ Sat w0 w' (bsl bv (Frm.encode e).1 :: F)) := by
  have Hk := Lib.hid hk; have Hd := Lib.hid hd
  have hnk := eqIn_zero e.key hk
  have hks : (bys e.key).length = 32 := by rw [bys_len, hk]
  have Hks := Lib.hid hks
  clear hd hks
  go_enter Tryz.func72, Tryz.ntmps72
  go_wp2_with (first | ((with_reducible apply at_boxE); refine ⟨?_⟩; refine wl_boxE (by assumption) (by rfl) ?_; intro bX wX hX) | (with_reducible apply at_load))
  refine ⟨?_⟩
  have f0 := ent_at0 hX
  have f33 := ent_at33 hk hX
  have fk := ent_atk hk hX
  have Fk := Lib.hid fk
  clear h hk fk
  have h0i : decide (0 < e.data.length) = false := by rw [decide_eq_false_iff_not]; omega
  have h0j : ¬ 0 < e.data.length := by omega
  rw [t2] at f0
  have hzd : decide (e.key = Frm.zero32) = true := decide_eq_true hz
  have Hch := Lib.hid (show Frm.check e = 0 by unfold Frm.check; simp [t2, hz, h0e])
  have Hdl := Lib.hid (show e.data.length ≤ 16384 by omega)
  have HFIN : Hid (∀ B0 N8, B0 = [(2 : UInt8)] ++ e.data → B0.length + 8 = N8 → Frm.le N8 4 ++ B0 = Frm.body e) := fun B0 N8 h1 h2 => by
    have h3 : Frm.size e = 9 := by unfold Frm.size; rw [Hch.out]; simp [t2]
    have h4 : N8 = 9 := by rw [← h2, h1]; simp [h0e]
    unfold Frm.body
    rw [h3, h4, h1, t2]; rfl
  have HR0l := Lib.hid (show [(2 : UInt8)].length ≤ 33 by decide)
  have h1i : decide (16384 < (e.data.length : Int)) = false := by rw [decide_eq_false_iff_not]; omega
  have Hz := Lib.hid hz
  clear hz h0e
  go_wp2_with (first
    | ((with_reducible apply at_loadH); refine ⟨?_⟩; refine wl_loadG (b := bX) (o := 1) (bys e.key) (by rfl) (by rfl) Fk.out Tryz.underlying41 rfl (by rw [Hks.out]; kernel_rfl) ?_)
    | ((with_reducible apply at_build1); refine ⟨?_⟩; refine wl_build1 (e := 5) (sz := 1) (by' := 1) (by kernel_rfl) hX (by rfl) (cs := #[.int .u8 2]) rfl rfl (Nat.le_of_ble_eq_true (by rfl)) ?_; intro bN wN hN))
  have f0 := ent_at0 (hN.pick pick1)
  rw [t2] at f0
  have Ht2 := Lib.hid t2
  clear t2
  have hS : Sat w0 _ (bsl (.slice (some ⟨bN, 0, none⟩) 1 1) [(2 : UInt8)] :: pt bX (.cells (entA e (.slice da e.data.length dc)) 44 (0,0)) :: F) := Sat.osl_of_pt hN rfl (Nat.le_refl _) (Nat.le_refl _) (by decide) rfl
  clear hX hN
  obtain ⟨R0, hR0⟩ : ∃ R0, R0 = [(2 : UInt8)] := ⟨_, rfl⟩
  rw [← hR0] at hS HFIN HR0l
  clear hR0
  go_wp2_with fail
  go_loopg [4, 5] 0 (fun g bq iq wr => bq = .slice (some ⟨bN, 0, none⟩) 1 1 ∧ iq = .int .i64 0 ∧ Sat w0 wr (bsl (.slice (some ⟨bN, 0, none⟩) 1 1) R0 :: pt bX (.cells (entA e (.slice da e.data.length dc)) 44 (0,0)) :: F))
  case atStart => exact ⟨rfl, rfl, hS⟩
  case round =>
    obtain ⟨rfl, rfl, hS⟩ := hrel
    have f0 := ent_at0 (hS.pick pick1)
    rw [Ht2.out] at f0
    have f33 := ent_at33 Hk.out (hS.pick pick1)
    have f33 := ent_at33 Hk.out (hS.pick pick1)
    go_wp2_with ((with_reducible apply at_append); refine ⟨?_⟩; refine wl_appB hS evD evD (Hd.out _ hS.drop.drop) (by have := HR0l.out; have := Hdl.out; omega) ?_; intro a1 n1 c1 w1 hS1)
    clear f33 hS
    have hb0 : ∃ B0, B0 = R0 ++ e.data := ⟨_, rfl⟩
    obtain ⟨B0, hb0⟩ := hb0
    rw [← hb0] at hS1
    have Hb0 := Lib.hid hb0
    have HB0l := Lib.hid (show B0.length ≤ 16417 by rw [hb0, List.length_append]; have := HR0l.out; have := Hdl.out; omega)
    clear hb0
    obtain ⟨a1', c1', hv1, _⟩ := bsl_sl hS1
    cases hv1
    have hput := rput_c (B0.length + 8) 4 (by have := HB0l.out; omega) (by decide) (by decide) hS1
    have hw8 : IntKind.i64.wrap ((B0.length : Int) + 8) = ((B0.length + 8 : Nat) : Int) := by have := HB0l.out; exact IntWalk.i64_in _ (by omega)
    have hw9 : ((B0.length + 8 : Nat) : Int) % 18446744073709551616 = ((B0.length + 8 : Nat) : Int) := by have := HB0l.out; omega
    have hw8b : wrap64 ((B0.length : Int) + 8) = ((B0.length + 8 : Nat) : Int) := by rw [← IntWalk.i64_left]; exact hw8
    have hw9b : IntKind.u64.wrap ((B0.length + 8 : Nat) : Int) = ((B0.length + 8 : Nat) : Int) := hw9
    rw [show ((4 : Nat) : Int) = 4 from rfl] at hput
    generalize hN8 : B0.length + 8 = N8 at *
    have HN8 := Lib.hid hN8
    clear hN8
    go_wp2_with fail
    simp only [hw8b, hw9b]
    refine hput.mono ?_
    clear hput hw8 hw9 hw8b hw9b
    rintro ee w2 ⟨v, rfl, hS2, a2, n2, c2, rfl⟩
    clear hS1
    go_wp2_with ((with_reducible apply at_append); refine ⟨?_⟩; refine wl_appB hS2 evD evD (Sat.rd (hS2.pick pick1)) (by rw [Frm.le_len]; have := HB0l.out; omega) ?_; intro a3 n3 c3 w3 hS3)
    clear hS2
    obtain ⟨B1, hb1⟩ : ∃ B1, B1 = Frm.le N8 4 ++ B0 := ⟨_, rfl⟩
    rw [← hb1] at hS3
    have HB1l := Lib.hid (show B1.length ≤ 16421 by rw [hb1, List.length_append, Frm.le_len]; have := HB0l.out; omega)
    have Hbody := Lib.hid (show B1 = Frm.body e by rw [hb1]; exact HFIN.out B0 N8 Hb0.out HN8.out)
    clear hb1
    have hsum := rsum_c B1 (Sat.rd hS3) (by have := HB1l.out; omega)
    have hcl := Frm.crc_lt B1
    have hput := rput_c (Frm.crc B1) 4 (by omega) (by decide) (by decide) hS3
    rw [show ((4 : Nat) : Int) = 4 from rfl] at hput
    generalize hC : Frm.crc B1 = C at *
    have HC := Lib.hid hC
    have hw9 : (C : Int) % 18446744073709551616 = (C : Int) := by omega
    have hw9b : IntKind.u64.wrap (C : Int) = (C : Int) := hw9
    clear hC hcl
    go_wp2_with fail
    refine hsum.mono ?_
    clear hsum
    rintro ee w4 ⟨v, rfl, rfl, rfl⟩
    go_wp2_with fail
    refine hput.mono ?_
    clear hput hw9 hw9b
    rintro ee w4 ⟨v, rfl, hS4, a4, n4, c4, rfl⟩
    clear hS3
    go_wp2_with ((with_reducible apply at_append); refine ⟨?_⟩; refine wl_appB hS4 evD evD (Sat.rd (hS4.pick pick1)) (by rw [Frm.le_len]; have := HB1l.out; omega) ?_; intro a5 n5 c5 w5 hS5)
    clear hS4
    go_ret2
    have hen : Frm.encode e = (Frm.le C 4 ++ B1, 0) := by unfold Frm.encode; rw [if_neg (by rw [Hch.out]; simp), ← Hbody.out, HC.out]
    exact ⟨_, rfl, .slice a5 n5 c5, by rw [hen]; rfl, ⟨_, _, _, rfl⟩, by rw [hen]; exact hS5.sub (sub_take pick0 (sub_drop (sub_drop (sub_drop sub_refl))))⟩
end
section
variable {w0 w : World} {F R : List HProp} {bE : Nat} {e : Frm.Ent} {dv : Value}
set_option maxRecDepth 20000 in
set_option maxHeartbeats 4000000 in
theorem rencode0_c (e : Frm.Ent) (hk : e.key.length = 32) (da : Option Addr) (dc : Nat) (hd : Ro w0 F (rdsl 1 (.slice da e.data.length dc) (bys e.data))) (hT : e.tag = 0) (hsz : ¬ 16384 < e.data.length) (h : Sat w0 w F) :
    Calls Tryz.prog 72 #[.agg (entA e (.slice da e.data.length dc))] w (Rtn fun v w' => ∃ bv, v = .tuple #[bv, errno (Frm.encode e).2] ∧ (∃ a n c, bv = .slice a n c) ∧ Sat w0 w' (bsl bv (Frm.encode e).1 :: F)) := by
  have Hk := Lib.hid hk; have Hd := Lib.hid hd
  have hnk := eqIn_zero e.key hk
  have hks : (bys e.key).length = 32 := by rw [bys_len, hk]
  have Hks := Lib.hid hks
  clear hd hks
  go_enter Tryz.func72, Tryz.ntmps72
  go_wp2_with (first | ((with_reducible apply at_boxE); refine ⟨?_⟩; refine wl_boxE (by assumption) (by rfl) ?_; intro bX wX hX) | (with_reducible apply at_load))
  refine ⟨?_⟩
  have f0 := ent_at0 hX
  have f33 := ent_at33 hk hX
  have fk := ent_atk hk hX
  have Fk := Lib.hid fk
  clear h hk fk
  rw [hT] at f0
  have HT := Lib.hid hT
  clear hT hnk
  have Hch := Lib.hid (show Frm.check e = 0 by unfold Frm.check; simp [HT.out, hsz])
  have Hdl := Lib.hid (show e.data.length ≤ 16384 by omega)
  have HFIN : Hid (∀ B0 N8, B0 = ([(0 : UInt8)] ++ e.key) ++ e.data → B0.length + 8 = N8 → Frm.le N8 4 ++ B0 = Frm.body e) := fun B0 N8 h1 h2 => by
    have h3 : Frm.size e = 41 + e.data.length := by unfold Frm.size; rw [Hch.out]; simp [HT.out]
    have h4 : N8 = 41 + e.data.length := by rw [← h2, h1]; simp [Hk.out]; omega
    unfold Frm.body
    rw [h3, h4, h1, HT.out]; simp
  have HR0l := Lib.hid (show ([(0 : UInt8)] ++ e.key).length ≤ 33 by simp [Hk.out])
  have h1i : decide (16384 < (e.data.length : Int)) = false := by rw [decide_eq_false_iff_not]; omega
  clear hsz
  go_wp2_with ((with_reducible apply at_build1); refine ⟨?_⟩; refine wl_build1 (e := 5) (sz := 1) (by' := 1) (by kernel_rfl) hX (by rfl) (cs := #[.int .u8 0]) rfl rfl (Nat.le_of_ble_eq_true (by rfl)) ?_; intro bN wN hN)
  have hS0 : Sat w0 wN (bsl (.slice (some ⟨bN, 0, none⟩) 1 1) ([(0 : UInt8)] ++ e.key.take 0) :: pt bX (.cells (entA e (.slice da e.data.length dc)) 44 (0,0)) :: F) := by rw [List.take_zero]; exact Sat.osl_of_pt hN rfl (Nat.le_refl _) (Nat.le_refl _) (by decide) rfl
  clear hX hN f0 f33
  go_wp2_with fail
  go_loopg [4, 5] 32 (fun g bq iq wr => ∃ i : Nat, g = 32 - i ∧ i ≤ 32 ∧ iq = .int .i64 i ∧ Sat w0 wr (bsl bq ([(0 : UInt8)] ++ e.key.take i) :: pt bX (.cells (entA e (.slice da e.data.length dc)) 44 (0,0)) :: F))
  case atStart => exact ⟨0, rfl, by decide, rfl, hS0⟩
  case round =>
    obtain ⟨i, rfl, hi, rfl, hS⟩ := hrel
    clear hS0
    obtain ⟨ba, bn, bc, rfl, _⟩ := id (Sat.rd hS)
    have f0 := ent_at0 (hS.pick pick1)
    rw [HT.out] at f0
    by_cases hlt : i < 32
    · have c1 : (i : Int) < 32 := by omega
      have hwi : IntKind.i64.wrap ((i : Int) + 1) = (i : Int) + 1 := IntWalk.i64_in _ (by omega)
      obtain ⟨cc, hcc⟩ : ∃ cc, e.key[i]? = some cc := ⟨_, List.getElem?_eq_getElem (by rw [Hk.out]; exact hlt)⟩
      have fk := ent_atkey Hk.out hcc (hS.pick pick1)
      have Hnx := Lib.hid (show [(0 : UInt8)] ++ e.key.take (i + 1) = ([(0 : UInt8)] ++ e.key.take i) ++ [cc] by rw [List.take_add_one, hcc]; simp)
      have hlen : (bys ([(0 : UInt8)] ++ e.key.take i)).length ≤ 2147483648 := by rw [bys_len, List.length_append, List.length_take]; simp; omega
      have Hlt := Lib.hid hlt
      clear hcc hlt
      have hSo : Sat w0 wr (osl 5 1 (.slice ba bn bc) (bys ([(0 : UInt8)] ++ e.key.take i)) :: pt bX (.cells (entA e (.slice da e.data.length dc)) 44 (0,0)) :: F) := hS
      generalize hB : [(0 : UInt8)] ++ e.key.take i = B at *
      clear hS
      go_wp2_with (first
        | ((with_reducible apply at_build1); refine ⟨?_⟩; refine wl_build1 (e := 5) (sz := 1) (by' := 1) (by kernel_rfl) hSo (by rfl) (cs := #[.int .u8 cc.toNat]) rfl rfl (Nat.le_of_ble_eq_true (by rfl)) ?_; intro bM wM hM)
        | ((with_reducible apply at_append); refine ⟨?_⟩; refine wl_app 5 1 1 (by kernel_rfl) hM (by rfl) (by rfl) (pick_there pick0) pick0 (by rfl) (Nat.le_refl 1) (by rfl) hlen (by show 1 ≤ 65536; decide) (by decide) evD ?_; intro bA nA cA wA hA))
      go_roundg (32 - (i + 1))
      case measure => have := Hlt.out; omega
      case rel =>
        refine ⟨i + 1, rfl, Nat.succ_le_of_lt Hlt.out, by first | rfl | go_num, ?_⟩
        rw [Hnx.out]
        have e1 : bys (B ++ [cc]) = bys B ++ [Value.int .u8 cc.toNat] := by unfold bys; rw [List.map_append]; rfl
        unfold bsl
        rw [e1]
        exact hA
    · obtain rfl : i = 32 := by omega
      have c1 : ¬ ((32 : Nat) : Int) < 32 := by decide
      rw [List.take_of_length_le (by rw [Hk.out]; exact Nat.le_refl _)] at hS
      clear hlt hi
      obtain ⟨R0, hR0⟩ : ∃ R0, R0 = [(0 : UInt8)] ++ e.key := ⟨_, rfl⟩
      rw [← hR0] at hS HFIN HR0l
      clear hR0
      have f33 := ent_at33 Hk.out (hS.pick pick1)
      go_wp2_with ((with_reducible apply at_append); refine ⟨?_⟩; refine wl_appB hS evD evD (Hd.out _ hS.drop.drop) (by have := HR0l.out; have := Hdl.out; omega) ?_; intro a1 n1 c1 w1 hS1)
      clear f33 hS
      have hb0 : ∃ B0, B0 = R0 ++ e.data := ⟨_, rfl⟩
      obtain ⟨B0, hb0⟩ := hb0
      rw [← hb0] at hS1
      have Hb0 := Lib.hid hb0
      have HB0l := Lib.hid (show B0.length ≤ 16417 by rw [hb0, List.length_append]; have := HR0l.out; have := Hdl.out; omega)
      clear hb0
      obtain ⟨a1', c1', hv1, _⟩ := bsl_sl hS1
      cases hv1
      have hput := rput_c (B0.length + 8) 4 (by have := HB0l.out; omega) (by decide) (by decide) hS1
      have hw8 : IntKind.i64.wrap ((B0.length : Int) + 8) = ((B0.length + 8 : Nat) : Int) := by have := HB0l.out; exact IntWalk.i64_in _ (by omega)
      have hw9 : ((B0.length + 8 : Nat) : Int) % 18446744073709551616 = ((B0.length + 8 : Nat) : Int) := by have := HB0l.out; omega
      have hw8b : wrap64 ((B0.length : Int) + 8) = ((B0.length + 8 : Nat) : Int) := by rw [← IntWalk.i64_left]; exact hw8
      have hw9b : IntKind.u64.wrap ((B0.length + 8 : Nat) : Int) = ((B0.length + 8 : Nat) : Int) := hw9
      rw [show ((4 : Nat) : Int) = 4 from rfl] at hput
      generalize hN8 : B0.length + 8 = N8 at *
      have HN8 := Lib.hid hN8
      clear hN8
      go_wp2_with fail
      simp only [hw8b, hw9b]
      refine hput.mono ?_
      clear hput hw8 hw9 hw8b hw9b
      rintro ee w2 ⟨v, rfl, hS2, a2, n2, c2, rfl⟩
      clear hS1
      go_wp2_with ((with_reducible apply at_append); refine ⟨?_⟩; refine wl_appB hS2 evD evD (Sat.rd (hS2.pick pick1)) (by rw [Frm.le_len]; have := HB0l.out; omega) ?_; intro a3 n3 c3 w3 hS3)
      clear hS2
      obtain ⟨B1, hb1⟩ : ∃ B1, B1 = Frm.le N8 4 ++ B0 := ⟨_, rfl⟩
      rw [← hb1] at hS3
      have HB1l := Lib.hid (show B1.length ≤ 16421 by rw [hb1, List.length_append, Frm.le_len]; have := HB0l.out; omega)
      have Hbody := Lib.hid (show B1 = Frm.body e by rw [hb1]; exact HFIN.out B0 N8 Hb0.out HN8.out)
      clear hb1
      have hsum := rsum_c B1 (Sat.rd hS3) (by have := HB1l.out; omega)
      have hcl := Frm.crc_lt B1
      have hput := rput_c (Frm.crc B1) 4 (by omega) (by decide) (by decide) hS3
      rw [show ((4 : Nat) : Int) = 4 from rfl] at hput
      generalize hC : Frm.crc B1 = C at *
      have HC := Lib.hid hC
      have hw9 : (C : Int) % 18446744073709551616 = (C : Int) := by omega
      have hw9b : IntKind.u64.wrap (C : Int) = (C : Int) := hw9
      clear hC hcl
      go_wp2_with fail
      refine hsum.mono ?_
      clear hsum
      rintro ee w4 ⟨v, rfl, rfl, rfl⟩
      go_wp2_with fail
      refine hput.mono ?_
      clear hput hw9 hw9b
      rintro ee w4 ⟨v, rfl, hS4, a4, n4, c4, rfl⟩
      clear hS3
      go_wp2_with ((with_reducible apply at_append); refine ⟨?_⟩; refine wl_appB hS4 evD evD (Sat.rd (hS4.pick pick1)) (by rw [Frm.le_len]; have := HB1l.out; omega) ?_; intro a5 n5 c5 w5 hS5)
      clear hS4
      go_ret2
      have hen : Frm.encode e = (Frm.le C 4 ++ B1, 0) := by unfold Frm.encode; rw [if_neg (by rw [Hch.out]; simp), ← Hbody.out, HC.out]
      exact ⟨_, rfl, .slice a5 n5 c5, by rw [hen]; rfl, ⟨_, _, _, rfl⟩, by rw [hen]; exact hS5.sub (sub_take pick0 (sub_drop (sub_drop (sub_drop sub_refl))))⟩
end
section
variable {w0 w : World} {F R : List HProp} {bE : Nat} {e : Frm.Ent} {dv : Value}
set_option maxRecDepth 20000 in
set_option maxHeartbeats 4000000 in
theorem rencode1_c (e : Frm.Ent) (hk : e.key.length = 32) (da : Option Addr) (dc : Nat) (hd : Ro w0 F (rdsl 1 (.slice da e.data.length dc) (bys e.data))) (hT : e.tag = 1) (hsz : e.data.length = 0) (h : Sat w0 w F) :
    Calls Tryz.prog 72 #[.agg (entA e (.slice da e.data.length dc))] w (Rtn fun v w' => ∃ bv, v = .tuple #[bv, errno (Frm.encode e).2] ∧ (∃ a n c, bv = .slice a n c) ∧ Sat w0 w' (bsl bv (Frm.encode e).1 :: F)) := by
  have Hk := Lib.hid hk; have Hd := Lib.hid hd
  have hnk := eqIn_zero e.key hk
  have hks : (bys e.key).length = 32 := by rw [bys_len, hk]
  have Hks := Lib.hid hks
  clear hd hks
  go_enter Tryz.func72, Tryz.ntmps72
  go_wp2_with (first | ((with_reducible apply at_boxE); refine ⟨?_⟩; refine wl_boxE (by assumption) (by rfl) ?_; intro bX wX hX) | (with_reducible apply at_load))
  refine ⟨?_⟩
  have f0 := ent_at0 hX
  have f33 := ent_at33 hk hX
  have fk := ent_atk hk hX
  have Fk := Lib.hid fk
  clear h hk fk
  rw [hT] at f0
  have HT := Lib.hid hT
  clear hT hnk
  have h0i : decide (0 < e.data.length) = false := by rw [decide_eq_false_iff_not]; omega
  have h0j : ¬ 0 < e.data.length := by omega
  have Hch := Lib.hid (show Frm.check e = 0 by unfold Frm.check; simp [HT.out, hsz])
  have Hdl := Lib.hid (show e.data.length ≤ 16384 by omega)
  have HFIN : Hid (∀ B0 N8, B0 = ([(1 : UInt8)] ++ e.key) ++ e.data → B0.length + 8 = N8 → Frm.le N8 4 ++ B0 = Frm.body e) := fun B0 N8 h1 h2 => by
    have h3 : Frm.size e = 41 + e.data.length := by unfold Frm.size; rw [Hch.out]; simp [HT.out]
    have h4 : N8 = 41 + e.data.length := by rw [← h2, h1]; simp [Hk.out]; omega
    unfold Frm.body
    rw [h3, h4, h1, HT.out]; simp
  have HR0l := Lib.hid (show ([(1 : UInt8)] ++ e.key).length ≤ 33 by simp [Hk.out])
  have h1i : decide (16384 < (e.data.length : Int)) = false := by rw [decide_eq_false_iff_not]; omega
  clear hsz
  go_wp2_with ((with_reducible apply at_build1); refine ⟨?_⟩; refine wl_build1 (e := 5) (sz := 1) (by' := 1) (by kernel_rfl) hX (by rfl) (cs := #[.int .u8 1]) rfl rfl (Nat.le_of_ble_eq_true (by rfl)) ?_; intro bN wN hN)
  have hS0 : Sat w0 wN (bsl (.slice (some ⟨bN, 0, none⟩) 1 1) ([(1 : UInt8)] ++ e.key.take 0) :: pt bX (.cells (entA e (.slice da e.data.length dc)) 44 (0,0)) :: F) := by rw [List.take_zero]; exact Sat.osl_of_pt hN rfl (Nat.le_refl _) (Nat.le_refl _) (by decide) rfl
  clear hX hN f0 f33
  go_wp2_with fail
  go_loopg [4, 5] 32 (fun g bq iq wr => ∃ i : Nat, g = 32 - i ∧ i ≤ 32 ∧ iq = .int .i64 i ∧ Sat w0 wr (bsl bq ([(1 : UInt8)] ++ e.key.take i) :: pt bX (.cells (entA e (.slice da e.data.length dc)) 44 (0,0)) :: F))
  case atStart => exact ⟨0, rfl, by decide, rfl, hS0⟩
  case round =>
    obtain ⟨i, rfl, hi, rfl, hS⟩ := hrel
    clear hS0
    obtain ⟨ba, bn, bc, rfl, _⟩ := id (Sat.rd hS)
    have f0 := ent_at0 (hS.pick pick1)
    rw [HT.out] at f0
    by_cases hlt : i < 32
    · have c1 : (i : Int) < 32 := by omega
      have hwi : IntKind.i64.wrap ((i : Int) + 1) = (i : Int) + 1 := IntWalk.i64_in _ (by omega)
      obtain ⟨cc, hcc⟩ : ∃ cc, e.key[i]? = some cc := ⟨_, List.getElem?_eq_getElem (by rw [Hk.out]; exact hlt)⟩
      have fk := ent_atkey Hk.out hcc (hS.pick pick1)
      have Hnx := Lib.hid (show [(1 : UInt8)] ++ e.key.take (i + 1) = ([(1 : UInt8)] ++ e.key.take i) ++ [cc] by rw [List.take_add_one, hcc]; simp)
      have hlen : (bys ([(1 : UInt8)] ++ e.key.take i)).length ≤ 2147483648 := by rw [bys_len, List.length_append, List.length_take]; simp; omega
      have Hlt := Lib.hid hlt
      clear hcc hlt
      have hSo : Sat w0 wr (osl 5 1 (.slice ba bn bc) (bys ([(1 : UInt8)] ++ e.key.take i)) :: pt bX (.cells (entA e (.slice da e.data.length dc)) 44 (0,0)) :: F) := hS
      generalize hB : [(1 : UInt8)] ++ e.key.take i = B at *
      clear hS
      go_wp2_with (first
        | ((with_reducible apply at_build1); refine ⟨?_⟩; refine wl_build1 (e := 5) (sz := 1) (by' := 1) (by kernel_rfl) hSo (by rfl) (cs := #[.int .u8 cc.toNat]) rfl rfl (Nat.le_of_ble_eq_true (by rfl)) ?_; intro bM wM hM)
        | ((with_reducible apply at_append); refine ⟨?_⟩; refine wl_app 5 1 1 (by kernel_rfl) hM (by rfl) (by rfl) (pick_there pick0) pick0 (by rfl) (Nat.le_refl 1) (by rfl) hlen (by show 1 ≤ 65536; decide) (by decide) evD ?_; intro bA nA cA wA hA))
      go_roundg (32 - (i + 1))
      case measure => have := Hlt.out; omega
      case rel =>
        refine ⟨i + 1, rfl, Nat.succ_le_of_lt Hlt.out, by first | rfl | go_num, ?_⟩
        rw [Hnx.out]
        have e1 : bys (B ++ [cc]) = bys B ++ [Value.int .u8 cc.toNat] := by unfold bys; rw [List.map_append]; rfl
        unfold bsl
        rw [e1]
        exact hA
    · obtain rfl : i = 32 := by omega
      have c1 : ¬ ((32 : Nat) : Int) < 32 := by decide
      rw [List.take_of_length_le (by rw [Hk.out]; exact Nat.le_refl _)] at hS
      clear hlt hi
      obtain ⟨R0, hR0⟩ : ∃ R0, R0 = [(1 : UInt8)] ++ e.key := ⟨_, rfl⟩
      rw [← hR0] at hS HFIN HR0l
      clear hR0
      have f33 := ent_at33 Hk.out (hS.pick pick1)
      go_wp2_with ((with_reducible apply at_append); refine ⟨?_⟩; refine wl_appB hS evD evD (Hd.out _ hS.drop.drop) (by have := HR0l.out; have := Hdl.out; omega) ?_; intro a1 n1 c1 w1 hS1)
      clear f33 hS
      have hb0 : ∃ B0, B0 = R0 ++ e.data := ⟨_, rfl⟩
      obtain ⟨B0, hb0⟩ := hb0
      rw [← hb0] at hS1
      have Hb0 := Lib.hid hb0
      have HB0l := Lib.hid (show B0.length ≤ 16417 by rw [hb0, List.length_append]; have := HR0l.out; have := Hdl.out; omega)
      clear hb0
      obtain ⟨a1', c1', hv1, _⟩ := bsl_sl hS1
      cases hv1
      have hput := rput_c (B0.length + 8) 4 (by have := HB0l.out; omega) (by decide) (by decide) hS1
      have hw8 : IntKind.i64.wrap ((B0.length : Int) + 8) = ((B0.length + 8 : Nat) : Int) := by have := HB0l.out; exact IntWalk.i64_in _ (by omega)
      have hw9 : ((B0.length + 8 : Nat) : Int) % 18446744073709551616 = ((B0.length + 8 : Nat) : Int) := by have := HB0l.out; omega
      have hw8b : wrap64 ((B0.length : Int) + 8) = ((B0.length + 8 : Nat) : Int) := by rw [← IntWalk.i64_left]; exact hw8
      have hw9b : IntKind.u64.wrap ((B0.length + 8 : Nat) : Int) = ((B0.length + 8 : Nat) : Int) := hw9
      rw [show ((4 : Nat) : Int) = 4 from rfl] at hput
      generalize hN8 : B0.length + 8 = N8 at *
      have HN8 := Lib.hid hN8
      clear hN8
      go_wp2_with fail
      simp only [hw8b, hw9b]
      refine hput.mono ?_
      clear hput hw8 hw9 hw8b hw9b
      rintro ee w2 ⟨v, rfl, hS2, a2, n2, c2, rfl⟩
      clear hS1
      go_wp2_with ((with_reducible apply at_append); refine ⟨?_⟩; refine wl_appB hS2 evD evD (Sat.rd (hS2.pick pick1)) (by rw [Frm.le_len]; have := HB0l.out; omega) ?_; intro a3 n3 c3 w3 hS3)
      clear hS2
      obtain ⟨B1, hb1⟩ : ∃ B1, B1 = Frm.le N8 4 ++ B0 := ⟨_, rfl⟩
      rw [← hb1] at hS3
      have HB1l := Lib.hid (show B1.length ≤ 16421 by rw [hb1, List.length_append, Frm.le_len]; have := HB0l.out; omega)
      have Hbody := Lib.hid (show B1 = Frm.body e by rw [hb1]; exact HFIN.out B0 N8 Hb0.out HN8.out)
      clear hb1
      have hsum := rsum_c B1 (Sat.rd hS3) (by have := HB1l.out; omega)
      have hcl := Frm.crc_lt B1
      have hput := rput_c (Frm.crc B1) 4 (by omega) (by decide) (by decide) hS3
      rw [show ((4 : Nat) : Int) = 4 from rfl] at hput
      generalize hC : Frm.crc B1 = C at *
      have HC := Lib.hid hC
      have hw9 : (C : Int) % 18446744073709551616 = (C : Int) := by omega
      have hw9b : IntKind.u64.wrap (C : Int) = (C : Int) := hw9
      clear hC hcl
      go_wp2_with fail
      refine hsum.mono ?_
      clear hsum
      rintro ee w4 ⟨v, rfl, rfl, rfl⟩
      go_wp2_with fail
      refine hput.mono ?_
      clear hput hw9 hw9b
      rintro ee w4 ⟨v, rfl, hS4, a4, n4, c4, rfl⟩
      clear hS3
      go_wp2_with ((with_reducible apply at_append); refine ⟨?_⟩; refine wl_appB hS4 evD evD (Sat.rd (hS4.pick pick1)) (by rw [Frm.le_len]; have := HB1l.out; omega) ?_; intro a5 n5 c5 w5 hS5)
      clear hS4
      go_ret2
      have hen : Frm.encode e = (Frm.le C 4 ++ B1, 0) := by unfold Frm.encode; rw [if_neg (by rw [Hch.out]; simp), ← Hbody.out, HC.out]
      exact ⟨_, rfl, .slice a5 n5 c5, by rw [hen]; rfl, ⟨_, _, _, rfl⟩, by rw [hen]; exact hS5.sub (sub_take pick0 (sub_drop (sub_drop (sub_drop sub_refl))))⟩
end
section
variable {w0 w : World} {F R : List HProp} {bE : Nat} {e : Frm.Ent} {dv : Value}
set_option maxRecDepth 20000 in
set_option maxHeartbeats 4000000 in
theorem rencode_c (e : Frm.Ent) (hk : e.key.length = 32) (da : Option Addr) (dc : Nat) (hd : Ro w0 F (rdsl 1 (.slice da e.data.length dc) (bys e.data)))  (h : Sat w0 w F) :
    Calls Tryz.prog 72 #[.agg (entA e (.slice da e.data.length dc))] w (Rtn fun v w' => ∃ bv, v = .tuple #[bv, errno (Frm.encode e).2] ∧ (∃ a n c, bv = .slice a n c) ∧ Sat w0 w' (bsl bv (Frm.encode e).1 :: F)) := by
  have hbad : ∀ n, Frm.check e = n → n ≠ 0 → Frm.encode e = ([], n) := fun n hn h0 => by unfold Frm.encode; rw [hn, if_pos h0]
  have Hbad := Lib.hid hbad
  clear hbad
  by_cases t2 : e.tag = 2
  · by_cases h0 : 0 < e.data.length
    · have Hf := Lib.hid (Hbad.out 4 (by unfold Frm.check; simp [t2, h0]) (by decide))
      have h0i : (0 : Int) < (e.data.length : Int) := by omega
      have Hk := Lib.hid hk
      clear hd hk
      go_enter Tryz.func72, Tryz.ntmps72
      go_wp2_with (first | ((with_reducible apply at_boxE); refine ⟨?_⟩; refine wl_boxE (by assumption) (by rfl) ?_; intro bX wX hX) | (with_reducible apply at_load))
      refine ⟨?_⟩
      have f0 := ent_at0 hX
      have f33 := ent_at33 Hk.out hX
      have fk := ent_atk Hk.out hX
      have Fk := Lib.hid fk
      clear h fk
      rw [t2] at f0
      go_wp2
      go_ret2
      exact ⟨_, rfl, .slice none 0 0, by rw [Hf.out]; rfl, ⟨_, _, _, rfl⟩, by rw [Hf.out]; exact Sat.osl_nil.2 hX.drop⟩
    · have h0e : e.data.length = 0 := by omega
      by_cases hz : e.key = Frm.zero32
      · exact rencode2_c e hk da dc hd t2 hz h0e h
      · have hzd : decide (e.key = Frm.zero32) = false := decide_eq_false hz
        have h0i : decide (0 < e.data.length) = false := decide_eq_false h0
        have Hf := Lib.hid (Hbad.out 4 (by unfold Frm.check; simp [t2, hz]) (by decide))
        have hnk := eqIn_zero e.key hk
        have Hks := Lib.hid (show (bys e.key).length = 32 by rw [bys_len, hk])
        have Hk := Lib.hid hk
        clear hz h0e hd hk
        go_enter Tryz.func72, Tryz.ntmps72
        go_wp2_with (first | ((with_reducible apply at_boxE); refine ⟨?_⟩; refine wl_boxE (by assumption) (by rfl) ?_; intro bX wX hX) | (with_reducible apply at_load))
        refine ⟨?_⟩
        have f0 := ent_at0 hX
        have f33 := ent_at33 Hk.out hX
        have fk := ent_atk Hk.out hX
        have Fk := Lib.hid fk
        clear h fk
        rw [t2] at f0
        go_wp2_with ((with_reducible apply at_loadH); refine ⟨?_⟩; refine wl_loadG (b := bX) (o := 1) (bys e.key) (by rfl) (by rfl) Fk.out Tryz.underlying41 rfl (by rw [Hks.out]; kernel_rfl) ?_)
        go_ret2
        exact ⟨_, rfl, .slice none 0 0, by rw [Hf.out]; rfl, ⟨_, _, _, rfl⟩, by rw [Hf.out]; exact Sat.osl_nil.2 hX.drop⟩
  · have t2b : (e.tag == 2) = false := by simpa using t2
    have Hk := Lib.hid hk
    by_cases t0 : e.tag = 0
    · by_cases hb : 16384 < e.data.length
      · have Hf := Lib.hid (Hbad.out 5 (by unfold Frm.check; simp [t0, hb]) (by decide))
        have hbi : (16384 : Int) < (e.data.length : Int) := by omega
        clear hb t2 t2b hd hk
        go_enter Tryz.func72, Tryz.ntmps72
        go_wp2_with (first | ((with_reducible apply at_boxE); refine ⟨?_⟩; refine wl_boxE (by assumption) (by rfl) ?_; intro bX wX hX) | (with_reducible apply at_load))
        refine ⟨?_⟩
        have f0 := ent_at0 hX
        have f33 := ent_at33 Hk.out hX
        have fk := ent_atk Hk.out hX
        have Fk := Lib.hid fk
        clear h fk
        rw [t0] at f0
        clear t0
        go_wp2
        go_ret2
        exact ⟨_, rfl, .slice none 0 0, by rw [Hf.out]; rfl, ⟨_, _, _, rfl⟩, by rw [Hf.out]; exact Sat.osl_nil.2 hX.drop⟩
      · exact rencode0_c e hk da dc hd t0 hb h
    · by_cases t1 : e.tag = 1
      · by_cases h0 : 0 < e.data.length
        · have Hf := Lib.hid (Hbad.out 4 (by unfold Frm.check; simp [t1, h0]) (by decide))
          have h0i : (0 : Int) < (e.data.length : Int) := by omega
          clear t2 t2b t0 hd hk
          go_enter Tryz.func72, Tryz.ntmps72
          go_wp2_with (first | ((with_reducible apply at_boxE); refine ⟨?_⟩; refine wl_boxE (by assumption) (by rfl) ?_; intro bX wX hX) | (with_reducible apply at_load))
          refine ⟨?_⟩
          have f0 := ent_at0 hX
          have f33 := ent_at33 Hk.out hX
          have fk := ent_atk Hk.out hX
          have Fk := Lib.hid fk
          clear h fk
          rw [t1] at f0
          clear t1
          go_wp2
          go_ret2
          exact ⟨_, rfl, .slice none 0 0, by rw [Hf.out]; rfl, ⟨_, _, _, rfl⟩, by rw [Hf.out]; exact Sat.osl_nil.2 hX.drop⟩
        · exact rencode1_c e hk da dc hd t1 (by omega) h
      · have Hf := Lib.hid (Hbad.out 4 (by unfold Frm.check; simp [t0, t1, t2]) (by decide))
        by_cases hneg : e.tag < 0
        · have g1 : decide (e.tag < 0) = true := decide_eq_true hneg
          clear t0 t1 t2 t2b hd hk
          go_enter Tryz.func72, Tryz.ntmps72
          go_wp2_with (first | ((with_reducible apply at_boxE); refine ⟨?_⟩; refine wl_boxE (by assumption) (by rfl) ?_; intro bX wX hX) | (with_reducible apply at_load))
          refine ⟨?_⟩
          have f0 := ent_at0 hX
          have f33 := ent_at33 Hk.out hX
          have fk := ent_atk Hk.out hX
          have Fk := Lib.hid fk
          clear h fk
          generalize e.tag = T at *
          go_wp2
          go_ret2
          exact ⟨_, rfl, .slice none 0 0, by rw [Hf.out]; rfl, ⟨_, _, _, rfl⟩, by rw [Hf.out]; exact Sat.osl_nil.2 hX.drop⟩
        · have g1 : decide (e.tag < 0) = false := decide_eq_false hneg
          have g2 : decide (2 < e.tag) = true := decide_eq_true (by omega)
          have g2' : 2 < e.tag := by omega
          clear t0 t1 t2 t2b hd hk
          go_enter Tryz.func72, Tryz.ntmps72
          go_wp2_with (first | ((with_reducible apply at_boxE); refine ⟨?_⟩; refine wl_boxE (by assumption) (by rfl) ?_; intro bX wX hX) | (with_reducible apply at_load))
          refine ⟨?_⟩
          have f0 := ent_at0 hX
          have f33 := ent_at33 Hk.out hX
          have fk := ent_atk Hk.out hX
          have Fk := Lib.hid fk
          clear h fk
          generalize e.tag = T at *
          go_wp2
          go_ret2
          exact ⟨_, rfl, .slice none 0 0, by rw [Hf.out]; rfl, ⟨_, _, _, rfl⟩, by rw [Hf.out]; exact Sat.osl_nil.2 hX.drop⟩
end
section
variable {w0 w : World} {F R : List HProp} {d : Nat} {D : Med} {fsv fv nv wv v lv bv : Value} {xs : List RF} {g : Bag} {K : Nat}
set_option maxRecDepth 20000 in
set_option maxHeartbeats 8000000 in
theorem rappend_c (s : ByteArray) (b : Bs) (hb : Ro w0 F (rdsl 1 bv (bys b))) (hbl : b.length ≤ 1048576) (ok : D.Ok K) (hK : K ≤ 1048576) (hus : D.used ≤ 1099511627776) (h : Sat w0 w (DskRep d D :: F)) :
    Calls Tryz.prog 73 #[ptr d, .string s, .agg #[.bool false, .int .i64 0, bv]] w (Rtn fun v w' => v = errno (D.append s b).2 ∧ Sat w0 w' (DskRep d (D.append s b).1 :: F)) := by
  have Ok := Lib.hid ok; have Hus := Lib.hid hus; have Hb := Lib.hid hb; have Hbl := Lib.hid hbl; have HK := Lib.hid hK
  have hl : D.now.length ≤ 1048576 := Nat.le_trans ok.nowOk.len (by decide)
  have Hl := Lib.hid hl
  obtain ⟨ba, bn, bc, rfl, hbn, _⟩ := id (hb _ h.drop)
  rw [bys_len, Nat.mul_one] at hbn
  subst hbn
  clear hb hbl hK hus ok hl
  go_enter Tryz.func73, Tryz.ntmps73
  go_wp2_with (first | ((with_reducible apply at_box); refine ⟨?_⟩; refine wl_box (by assumption) evD evD ?_; intro bB wB hB) | (with_reducible apply at_load))
  refine ⟨?_⟩
  have hO := hB.sub (sub_take pick1 (sub_take pick0 sub_refl))
  have hfd := rfind_c s Hl.out hO
  obtain ⟨fsv, fv, nv, wv, xs, g, hin, hR⟩ := DskRep.open hO
  have Hin := Lib.hid hin
  have e7 : World.cell? _ ⟨d, 7, none⟩ = some (.bool D.off) := hR.cellP pick0 7 rfl
  clear h hin hO
  cases ho : D.off with
  | true =>
    have Ha := Lib.hid (show D.append s b = (D, 12) by unfold Med.append; rw [ho]; rfl)
    rw [ho] at e7
    clear ho hfd
    go_wp2
    go_ret
    exact ⟨_, rfl, by rw [Ha.out]; rfl, by rw [Ha.out]; exact (DskRep.shut Hin.out hR).sub (sub_take pick0 (sub_drop sub_refl))⟩
  | false =>
    rw [ho] at e7
    have Ho := Lib.hid (show ¬ (D.off = true) by rw [ho]; decide)
    clear ho
    cases hg : nget D.now s with
    | none =>
      have Ha := Lib.hid (show D.append s b = (D, 9) by unfold Med.append; rw [if_neg Ho.out, hg])
      have hwh : D.which s = -1 := by unfold Med.which; rw [hg]
      rw [hwh] at hfd
      clear hg hwh
      go_wp2_with fail
      refine hfd.mono ?_
      rintro ee w1 ⟨v, rfl, rfl, rfl⟩
      clear hfd
      go_wp2
      go_ret
      exact ⟨_, rfl, by rw [Ha.out]; rfl, by rw [Ha.out]; exact (DskRep.shut Hin.out hR).sub (sub_take pick0 (sub_drop sub_refl))⟩
    | some i =>
      have hwh : D.which s = (i : Int) := by unfold Med.which; rw [hg]
      rw [hwh] at hfd
      have c1 : ¬ (i : Int) < 0 := by omega
      have hif : i < D.files.length := Ok.out.nowOk.ids _ (nget_mem hg)
      have Hif := Lib.hid hif
      have Hg := Lib.hid hg
      have hroom := Ok.out.room
      have hus := Hus.out
      have hbl := Hbl.out
      clear hg hwh hif
      go_wp2_with fail
      refine hfd.mono ?_
      rintro ee w1 ⟨v, rfl, rfl, rfl⟩
      clear hfd e7
      go_wp2_with fail
      have f0 : World.cell? (World.drew _) ⟨bB, 0, none⟩ = some (.bool false) := hB.drew.cellP pick0 0 rfl
      go_region
      clear f0
      have hBd := hB.drew.drew
      clear hB hR
      have hBd2 := hBd.sub (sub_take pick1 (sub_take pick0 sub_refl))
      have huc := rused_c Hl.out Hus.out Ok.out.nowOk.ids hBd2
      obtain ⟨fsv, fv, nv, wv, xs, g, hin, hR⟩ := DskRep.open hBd2
      clear hBd2
      go_wp2_with fail
      refine wpL_begin [14, 15] (fun w' => w'.cell? ⟨bB, 0, none⟩ = some (.bool false) ∧ w'.cell? ⟨bB, 2, none⟩ = some (.slice ba b.length bc) ∧ w'.cell? ⟨d, 0, none⟩ = some (.int .i64 D.room)) (by kernel_rfl) ?_
      have hG : World.cell? _ ⟨bB, 0, none⟩ = some (.bool false) ∧ World.cell? _ ⟨bB, 2, none⟩ = some (.slice ba b.length bc) ∧ World.cell? _ ⟨d, 0, none⟩ = some (.int .i64 D.room) := ⟨hBd.cellP pick0 0 rfl, hBd.cellP pick0 2 rfl, hR.cellP pick0 0 rfl⟩
      refine rp 0 (hy := (yl_field evD rnD)) (h := ?_)
      refine rt 1 (h := ?_)
      refine rp 2 (hy := (yl_un evD rnD)) (h := ?_)
      refine rp 3 (hy := (yl_move evD)) (h := ?_)
      refine rp 4 (hy := (yg_field (by rfl) evD rnD)) (h := ?_)
      refine rg_take 5 evD (by kernel_rfl) (by intro _ _ _ h; exact h) (tg_load (by rfl) evD (by kernel_rfl) (by intro wq hq; first | exact hq | exact hq.1 | exact hq.2 | exact hq.2.1 | exact hq.2.2 | exact hq.2.2.1 | exact hq.2.2.2 | exact hq.2.2.2.1 | exact hq.2.2.2.2)) (by assumption) (by go_frame; first | done | rfl) ?_
      refine rp 6 (hy := (yg_len (by rfl) evD rnD)) (h := ?_)
      refine rp 7 (hy := (yg_move (by rfl) evD)) (h := ?_)
      refine rp 8 (hy := (yg_nil (by rfl) evD)) (h := ?_)
      refine rp 9 (hy := (yg_field (by rfl) evD rnD)) (h := ?_)
      refine rg_take 10 evD (by kernel_rfl) (by intro _ _ _ h; exact h) (tg_load (by rfl) evD (by kernel_rfl) (by intro wq hq; first | exact hq | exact hq.1 | exact hq.2 | exact hq.2.1 | exact hq.2.2 | exact hq.2.2.1 | exact hq.2.2.2 | exact hq.2.2.2.1 | exact hq.2.2.2.2)) (by assumption) (by go_frame; first | done | rfl) ?_
      refine rp 11 (hy := (yg_move (by rfl) evD)) (h := ?_)
      refine rg_eff 12 evD (by kernel_rfl) (fun K hK => ?_)
      refine eg_call [ptr d] (by rfl) (by kernel_rfl) (by rfl) ?_
      refine huc.mono ?_
      clear huc hR hG hin fsv fv nv wv xs g
      rintro e w4 ⟨v, rfl, rfl, hS⟩
      obtain ⟨fsv, fv, nv, wv, xs, g, hin, hR⟩ := DskRep.open hS
      have Hin2 := Lib.hid hin
      have hst := rstep_c hR Ok.out.left
      have hw3 : IntKind.i64.wrap ((D.room : Int) - (D.used : Int)) = (D.room : Int) - (D.used : Int) := IntWalk.i64_in _ (by omega)
      refine hK _ _ (.inr (.inl ⟨hS.cellP pick1 0 rfl, hS.cellP pick1 2 rfl, hR.cellP pick0 0 rfl⟩)) ?_
      clear hK hin hBd
      by_cases hful : (D.room : Int) - D.used < b.length
      · have Ha := Lib.hid (show D.append s b = (D, 11) by unfold Med.append; rw [if_neg Ho.out, Hg.out]; simp only []; rw [if_pos hful])
        clear hst
        refine rp 13 (hy := (yg_bin (by rfl) evD evD rnD)) (h := ?_)
        refine rp 14 (hy := (yg_bin (by rfl) evD evD rnD)) (h := ?_)
        refine rp 15 (hy := (yg_pick (by rfl) evD evD)) (h := ?_)
        refine wpL_done (by kernel_rfl) ?_
        try simp only [List.getElem_toArray, List.getElem_cons_succ, List.getElem_cons_zero]
        try go_frame
        go_wp2
        go_ret
        exact ⟨_, rfl, by rw [Ha.out]; rfl, by rw [Ha.out]; exact hS.sub (sub_take pick0 (sub_drop sub_refl))⟩
      · have hstep : ∀ X : Med × Int, (if D.step.2 = false then (D.step.1, 12) else (D.step.1.setFile i ((D.file i).do ⟨false, 0, b⟩), 0)) = X → D.append s b = X := by
          rintro X rfl
          unfold Med.append
          rw [if_neg Ho.out, Hg.out]
          simp only []
          rw [if_neg hful]
        have Hstep := Lib.hid hstep
        clear hstep
        refine rp 13 (hy := (yg_bin (by rfl) evD evD rnD)) (h := ?_)
        refine rp 14 (hy := (yg_bin (by rfl) evD evD rnD)) (h := ?_)
        refine rp 15 (hy := (yg_pick (by rfl) evD evD)) (h := ?_)
        refine wpL_done (by kernel_rfl) ?_
        try simp only [List.getElem_toArray, List.getElem_cons_succ, List.getElem_cons_zero]
        try go_frame
        go_wp2_with fail
        refine hst.mono ?_
        clear hst hS hR hw3
        rintro ee w5 ⟨v, rfl, rfl, hS⟩
        rw [← step_waits] at hS
        have Hin3 := Lib.hid Hin2.out.step
        cases ht : D.step.2 with
        | false =>
          have Ha := Lib.hid (Hstep.out _ (if_pos ht))
          clear ht
          go_wp2
          go_ret
          exact ⟨_, rfl, by rw [Ha.out]; rfl, by rw [Ha.out]; exact (DskRep.shut Hin3.out hS).sub (sub_take pick0 (sub_drop sub_refl))⟩
        | true =>
          have Ha := Lib.hid (Hstep.out _ (if_neg (by rw [ht]; decide)))
          have hfile : D.file i = D.step.1.file i := (step_file D i).symm
          rw [hfile] at Ha
          have Hfl := Lib.hid (show i < D.step.1.files.length by rw [step_files]; exact Hif.out)
          have Ok1 := Lib.hid Ok.out.step
          clear ht hfile hful Hstep hus hroom
          generalize D.step.1 = D1 at *
          obtain ⟨x, hx, hxf⟩ := Hin3.out.file Hfl.out
          rw [← hxf] at Ha
          have hok := Hin3.out.ok x (List.mem_of_getElem? hx)
          have hxo := Ok1.out.file i
          rw [← hxf] at hxo
          have hnl := Nat.le_trans hxo.now_len (show 16777216 ≤ 1099511627776 by decide)
          have hwb : x.ws.length ≤ 1048576 := by rw [← List.length_map (f := fun p : Chg × Value => p.1), hok]; exact Nat.le_trans hxo.budget HK.out
          have hlx : xs.length = D1.files.length := by rw [← Hin3.out.files, List.length_map]
          rcases Sat.osl_cases (hS.pick pick1) with ⟨_, hxx, _⟩ | ⟨fb, fn, fc, cs, rfl, hfn, _⟩
          · have h1 := congrArg List.length hxx
            have h2 := Hfl.out
            rw [rfsL_len] at h1
            simp only [List.length_nil] at h1
            omega
          rw [rfsL_len] at hfn
          obtain rfl : fn = xs.length := by omega
          have c2 : (i : Int) < (xs.length : Int) := by have := Hfl.out; omega
          have hq : i * 3 + 2 < (rfsL xs).length := by have := Hfl.out; rw [rfsL_len]; omega
          have hq1 : ∀ xs' : List RF, xs'.length = xs.length → i * 3 + 1 < (rfsL xs').length := fun xs' e => by have := Hfl.out; rw [rfsL_len, e]; omega
          obtain ⟨G, hGx, hO⟩ := rf_out hx (hS.pick pick2)
          obtain ⟨_, _, hw2⟩ := rfsL_at hx
          have e2 := (osl_set (hS.pick pick1) (i * 3 + 2) (.slice none 0 0)).2.1 _ hw2
          obtain ⟨xf, xfv, xnv, xwv, xws⟩ := x
          dsimp only at hxo hok hwb hO e2 hnl
          obtain ⟨wa, wc, rfl⟩ := chg_sl (Sat.rd (hO.pick pick2))
          have e1 : World.cell? _ ⟨d, 1, none⟩ = some (.slice (some ⟨fb, 0, none⟩) xs.length fc) := hO.cellP pick5 1 rfl
          have Hx := Lib.hid hx; have Hxf := Lib.hid hxf; have Hok := Lib.hid hok; have HGx := Lib.hid hGx; have Hnl := Lib.hid hnl; have Hxn := Lib.hid hxo.now_len
          have hlen : (xws.flatMap chgCells).length ≤ 2147483648 := by rw [chg_len]; omega
          clear hx hxf hok hGx hw2 hxo hnl hwb hlx hS hfn
          go_wp2_with fail
          have hO2 := hO.drew
          clear hO e1 e2
          refine wpL_begin [16, 17, 18] (fun w' => w'.cell? ⟨d, 1, none⟩ = some (.slice (some ⟨fb, 0, none⟩) xs.length fc) ∧ w'.cell? ⟨bB, 0, none⟩ = some (.bool false) ∧ w'.cell? ⟨bB, 1, none⟩ = some (.int .i64 0) ∧ w'.cell? ⟨bB, 2, none⟩ = some (.slice ba b.length bc)) (by kernel_rfl) ?_
          have hG : World.cell? _ ⟨d, 1, none⟩ = some (.slice (some ⟨fb, 0, none⟩) xs.length fc) ∧ World.cell? _ ⟨bB, 0, none⟩ = some (.bool false) ∧ World.cell? _ ⟨bB, 1, none⟩ = some (.int .i64 0) ∧ World.cell? _ ⟨bB, 2, none⟩ = some (.slice ba b.length bc) := ⟨hO2.cellP pick5 1 rfl, hO2.cellP pick9 0 rfl, hO2.cellP pick9 1 rfl, hO2.cellP pick9 2 rfl⟩
          refine rp 0 (hy := (yl_move evD)) (h := ?_)
          refine rp 1 (hy := (yl_nil evD)) (h := ?_)
          refine rp 2 (hy := (yl_field evD rnD)) (h := ?_)
          refine rt 3 (h := ?_)
          refine rp 4 (hy := (yl_move evD)) (h := ?_)
          refine rp 5 (hy := (yl_move evD)) (h := ?_)
          refine rp 6 (hy := (yl_field evD rnD)) (h := ?_)
          refine rt 7 (h := ?_)
          refine rp 8 (hy := (yl_field evD rnD)) (h := ?_)
          refine rt 9 (h := ?_)
          refine rp 10 (hy := (yl_field evD rnD)) (h := ?_)
          refine rt 11 (h := ?_)
          refine rg_eff 12 evD (by kernel_rfl) (fun K hK => ?_)
          refine eff_call1 (by kernel_rfl) evD ?_
          refine (copy_c hO2 b (Hb.out _ (hO2.sb)) (by omega)).mono ?_
          rintro e w6 ⟨v, rfl, hS6, a6, n6, c6, rfl⟩
          refine hK _ _ (.inr (.inl ⟨hS6.cellP pick6 1 rfl, hS6.cellP pick10 0 rfl, hS6.cellP pick10 1 rfl, hS6.cellP pick10 2 rfl⟩)) ?_
          clear hK hG hO2
          refine rp 13 (hy := (by (refine Or.inl ⟨by rfl, ?_⟩; ((intro wq; go_simp); first | done | (with_reducible rfl))))) (h := ?_)
          refine rg_eff 14 evD (by kernel_rfl) (fun K hK => ?_)
          refine eff_build1 (e := 155) (sz := 3) (by' := 40) (by kernel_rfl) hS6 evD (cs := #[.bool false, .int .i64 0, .slice a6 n6 c6]) rfl rfl (Nat.le_of_ble_eq_true (by rfl)) ?_
          intro bN w7 hS7
          refine hK _ _ (.inr (.inl ⟨hS7.cellP (pick_there pick6) 1 rfl, hS7.cellP (pick_there pick10) 0 rfl, hS7.cellP (pick_there pick10) 1 rfl, hS7.cellP (pick_there pick10) 2 rfl⟩)) ?_
          clear hK hS6
          refine rg_eff 15 evD (by kernel_rfl) (fun K hK => ?_)
          refine eff_app 155 3 40 (by kernel_rfl) hS7 evD evD pick4 pick0 (by rfl) (Nat.le_refl 1) (by rfl) hlen (by show 3 ≤ 65536; decide) (by decide) rfl ?_
          intro bA nA cA w8 hS8
          refine hK _ _ (.inr (.inl ⟨hS8.cellP pick6 1 rfl, hS8.cellP pick10 0 rfl, hS8.cellP pick10 1 rfl, hS8.cellP pick10 2 rfl⟩)) ?_
          clear hK hS7
          refine rp 16 (hy := (yl_index evD evD rnD)) (h := ?_)
          refine rp 17 (hy := (yl_field evD rnD)) (h := ?_)
          refine rg_eff 18 evD (by kernel_rfl) (fun K hK => ?_)
          refine eff_storeS (b := fb) (i * 3 + 2) hS8 evD evD upD hq (by kernel_rfl) rfl rfl ?_
          intro w9 hS9
          refine hK _ _ (.inl rfl) ?_
          refine wpL_done (by kernel_rfl) ?_
          have ew : xws.flatMap chgCells ++ #[Value.bool false, Value.int .i64 0, .slice a6 n6 c6].toList = (xws ++ [((⟨false, 0, b⟩ : Chg), Value.slice a6 n6 c6)]).flatMap chgCells := chg_snoc xws (⟨false, 0, b⟩, .slice a6 n6 c6)
          rw [ew] at hS9
          have hx2 : (rfsL xs).set (i * 3 + 2) (.slice (some ⟨bA, 0, none⟩) nA cA) = rfsL (xs.set i ⟨⟨xf.fast, xf.now, xf.waits ++ [⟨false, 0, b⟩]⟩, xfv, xnv, .slice (some ⟨bA, 0, none⟩) nA cA, xws ++ [(⟨false, 0, b⟩, .slice a6 n6 c6)]⟩) :=
            (rfsL_wv xs i _ _ Hx.out).trans (rfsL_alike _ _ _ _ _ _ _ xs i)
          rw [hx2] at hS9
          clear hx2 ew hS8 hq
          have hx2 : ∃ x2 : RF, x2 = ⟨⟨xf.fast, xf.now, xf.waits ++ [⟨false, 0, b⟩]⟩, xfv, xnv, .slice (some ⟨bA, 0, none⟩) nA cA, xws ++ [(⟨false, 0, b⟩, .slice a6 n6 c6)]⟩ := ⟨_, rfl⟩
          obtain ⟨x2, hx2⟩ := hx2
          have hA1 := chgs_add (p := ((⟨false, 0, b⟩ : Chg), Value.slice a6 n6 c6)) (hS9.sub (sub_take pick1 (sub_take pick3 sub_refl)))
          have hA2 := rf_in (x := ⟨⟨xf.fast, xf.now, xf.waits ++ [⟨false, 0, b⟩]⟩, xfv, xnv, .slice (some ⟨bA, 0, none⟩) nA cA, xws ++ [(⟨false, 0, b⟩, .slice a6 n6 c6)]⟩) HGx.out (hA1.sub (sub_take pick2 (sub_take pick2 (sub_take pick1 (sub_take pick0 sub_refl)))))
          rw [← hx2] at hA2
          have hok2 : x2.ws.map (·.1) = x2.f.waits := by rw [hx2]; simp [Hok.out]
          have hin4 := Hin3.out.set (i := i) (x' := x2) hok2
          have e4 : (D1.setFile i x2.f).file i = x2.f := by rw [file_set Hfl.out, if_pos rfl]
          have e5 : x2.f.now = xf.now := by rw [hx2]
          have hh := rhere_c (D := D1.setFile i x2.f) i (by unfold Med.setFile; rw [List.length_set]; exact Hfl.out) hin4 (by rw [e4, e5]; exact Hnl.out) (hA2.sub (sub_take pick1 (sub_take pick1 (sub_take pick0 sub_refl))))
          rw [e4, e5] at hh
          have Hx2 := Lib.hid hx2; have Hok2 := Lib.hid hok2
          have hx2i : (xs.set i x2)[i]? = some x2 := by rw [List.getElem?_set_self (by rw [← List.length_map (f := fun r : RF => r.f), Hin3.out.files]; exact Hfl.out)]
          have Hx2i := Lib.hid hx2i
          clear hx2 hok2 hin4 e4 e5 hS9 hA1 hA2 hx2i
          clear hK
          go_wp2_with fail
          refine hh.mono ?_
          clear hh
          rintro ee w10 ⟨v, rfl, hS10, a7, n7, c7, rfl⟩
          go_wp2_with (first
            | ((with_reducible apply at_load); refine ⟨?_⟩; refine wl_load1 (by assumption) (by rfl) pkD (Nat.le_of_ble_eq_true (by rfl)) evD (by kernel_rfl) ?_)
            | ((with_reducible apply at_append); refine ⟨?_⟩; refine wl_appB hS10 evD evD (Hb.out _ (hS10.sb)) (by have := Hnl.out; have := Hxn.out; omega) ?_; intro a8 n8 c8 w11 hS11)
            | ((with_reducible apply at_store); refine ⟨?_⟩; refine wl_storeS (b := fb) (i * 3 + 1) hS11 (by rfl) evD upD (hq1 _ (List.length_set ..)) (by kernel_rfl) rfl rfl ?_; intro w12 hS12))
          clear hS10 hS11
          go_wp2
          go_ret
          refine ⟨_, rfl, by rw [Ha.out]; rfl, ?_⟩
          rw [Ha.out]
          have h2i := Hx2i.out
          have hx2 := Hx2.out
          subst hx2
          rw [rfsL_nv _ i _ _ h2i, List.set_set] at hS12
          obtain ⟨G2, hG2, hO3⟩ := rf_out h2i (hS12.pick pick3)
          have h3 := rf_in (x := ⟨xf.do ⟨false, 0, b⟩, xfv, .slice a8 n8 c8, .slice (some ⟨bA, 0, none⟩) nA cA, xws ++ [(⟨false, 0, b⟩, .slice a6 n6 c6)]⟩) hG2 (hO3.sub (sub_take pick0 (sub_take pick4 (sub_take pick1 (sub_take pick1 (sub_take pick1 (sub_drop sub_refl)))))))
          rw [List.set_set] at h3
          rw [rfsL_alike _ (xf.do ⟨false, 0, b⟩) _ _ _ _ (xws ++ [(⟨false, 0, b⟩, .slice a6 n6 c6)]) xs i] at h3
          refine (DskRep.shut (D := D1.setFile i (xf.do ⟨false, 0, b⟩)) (Hin3.out.set (x' := ⟨xf.do ⟨false, 0, b⟩, xfv, .slice a8 n8 c8, .slice (some ⟨bA, 0, none⟩) nA cA, xws ++ [(⟨false, 0, b⟩, .slice a6 n6 c6)]⟩) Hok2.out) (h3.sub (sub_take pick1 (sub_take pick1 (sub_take pick0 sub_refl))))).sub (sub_take pick0 (sub_drop sub_refl))
end
section
variable {w0 w : World} {F R : List HProp} {d : Nat} {D : Med} {fsv fv nv wv v lv bv : Value} {xs : List RF} {g : Bag} {K : Nat}
end
section
variable {P : Program} {w0 w : World} {L L' : List HProp} {b o : Nat} {ops : Array Oper} {a : Act} {Q : Exit → Act → World → Prop} {dst : Option Tmp} {t ty T : TypeId} {pos : String} {after : Array Edge} {x y : Operand} {cs : Array Value} {v : Value} {K : Act → World → Prop} {E : Prop}
theorem eff_alloc (hz : zeroB P ty = some v) (hs : Sat w0 w L) (hcs : v.cells = cs)
    (hK : ∀ b w', Sat w0 w' (pt b (.cells cs ty (0,0)) :: L) → K (a.put dst (.pointer (some ⟨b, 0, none⟩))) w') :
    if Region.wanted ⟨dst, .alloc ty, t, pos, after, none⟩ (yielded ops a.tmps) = true then Oper.wp P ⟨dst, .alloc ty, t, pos, after, none⟩ a w K Q else E := by
  subst hcs
  refine eff_of rfl ?_
  have hS := hs.alloc (.cells v.cells ty)
  unfold Oper.wp execOp
  have hrun : (Instr.alloc ty true (.tuple #[])).run P w = .ok (.pointer (some ⟨w.heap.size, 0, none⟩)) (w.alloc (.cells v.cells ty)) := by
    simp [Instr.alloc, run_zeroB hz w, newVar, newRow, go_sem, Result.andThen]
  simp only [Sem.run_bind, Sem.run_pure, hrun, Result.andThen_ok]
  exact hK _ _ hS
end
theorem zFile : zeroB Tryz.prog 164 = some (.agg #[.slice none 0 0, .slice none 0 0, .slice none 0 0]) := by kernel_rfl
section
variable {w0 w : World} {F R : List HProp} {d i : Nat} {D : Med} {fsv fv nv wv v lv bv : Value} {xs : List RF} {x : RF} {g : Bag} {K : Nat}
theorem chgs_ro {ws : List (Chg × Value)} {p : Chg × Value} (hp : p ∈ ws) : Ro w0 (chgs ws :: R) (rdsl 1 p.2 (bys p.1.b)) := fun w hw => by
  obtain ⟨G, hG⟩ := stars_mem _ _ (List.mem_map.2 ⟨p, hp, rfl⟩ : bsl p.2 p.1.b ∈ ws.map fun p => bsl p.2 p.1.b)
  unfold chgs at hw
  rw [hG] at hw
  exact Sat.rd (Sat.star.1 hw)
theorem file_ro2 (h : x ∈ xs) : Ro w0 (stars (xs.map rfR) :: R) (rdsl 3 x.wv (x.ws.flatMap chgCells)) ∧ ∀ p ∈ x.ws, Ro w0 (stars (xs.map rfR) :: R) (rdsl 1 p.2 (bys p.1.b)) := by
  obtain ⟨i, hi⟩ := List.getElem?_of_mem h
  refine ⟨fun w hw => ?_, fun p hp w hw => ?_⟩
  · obtain ⟨G, _, hO⟩ := rf_out hi hw
    exact Sat.rd (hO.pick pick2)
  · obtain ⟨G, _, hO⟩ := rf_out hi hw
    exact chgs_ro hp _ (hO.pick pick3)
theorem file_pv (h : x ∈ xs) (hs : Sat w0 w (stars (xs.map rfR) :: R)) : ∀ p ∈ x.ws, ∃ a c, p.2 = .slice a p.1.b.length c ∧ p.1.b.length ≤ c := fun p hp => by
  obtain ⟨i, hi⟩ := List.getElem?_of_mem h
  obtain ⟨G, _, hO⟩ := rf_out hi hs
  have h1 := hO.pick pick3
  obtain ⟨G2, hG⟩ := stars_mem _ _ (List.mem_map.2 ⟨p, hp, rfl⟩ : bsl p.2 p.1.b ∈ x.ws.map fun p => bsl p.2 p.1.b)
  unfold chgs at h1
  rw [hG] at h1
  obtain ⟨a, c, e1, e2, _⟩ := bsl_sl (Sat.star.1 h1)
  exact ⟨a, c, e1, e2⟩
theorem bsl_of_rd {a : Option Addr} {n c k : Nat} {l : Bs} (h : rdsl 1 (.slice a n c) (bys l) w) (hk : k ≤ l.length) : rdsl 1 (.slice a k c) (bys (l.take k)) w := by
  have := rdsl_min h k
  obtain ⟨_, _, _, he, hl, _⟩ := h
  cases he
  rw [bys_len, Nat.mul_one] at hl
  subst hl
  rw [Nat.min_eq_right hk] at this
  unfold bys
  rw [List.map_take]
  exact this
theorem rf_add {ys : List RF} {B : Bs} {v1 v2 : Value} (h : Sat w0 w (bsl v1 B :: bsl v2 B :: stars (ys.map rfR) :: R)) : Sat w0 w (stars ((ys ++ [(⟨⟨B, B, []⟩, v1, v2, .slice none 0 0, []⟩ : RF)]).map rfR) :: R) := by
  rw [List.map_append, stars_append]
  refine Sat.star.2 ?_
  refine Sat.sub (L := stars ([(⟨⟨B, B, []⟩, v1, v2, .slice none 0 0, []⟩ : RF)].map rfR) :: stars (ys.map rfR) :: R) ?_ (sub_take pick1 (sub_take pick0 sub_refl))
  refine Sat.star.2 ?_
  have h1 : Sat w0 w (stars ([] : List HProp) :: bsl v1 B :: bsl v2 B :: stars (ys.map rfR) :: R) := Sat.emp.2 h
  have h2 : Sat w0 w (stars [] :: stars ([] : List HProp) :: bsl v1 B :: bsl v2 B :: stars (ys.map rfR) :: R) := Sat.emp.2 h1
  have h3 : Sat w0 w (chgs [] :: stars [] :: stars ([] : List HProp) :: bsl v1 B :: bsl v2 B :: stars (ys.map rfR) :: R) := Sat.emp.2 h2
  have h4 := Sat.star.2 h3
  have h5 : Sat w0 w (osl 155 3 (.slice none 0 0) [] :: stars [chgs []] :: stars ([] : List HProp) :: bsl v1 B :: bsl v2 B :: stars (ys.map rfR) :: R) := Sat.osl_nil.2 h4
  have h6 := Sat.star.2 h5
  have h7 := Sat.star.2 (h6.sub (sub_take pick3 (sub_take pick0 sub_refl)))
  have h8 := Sat.star.2 (h7.sub (sub_take pick2 (sub_take pick0 sub_refl)))
  exact h8.sub (sub_take pick0 (sub_take pick0 (sub_take pick0 sub_refl)))
theorem rfs_snoc (ys : List RF) (y : RF) : rfsL ys ++ [y.fv, y.nv, y.wv] = rfsL (ys ++ [y]) := by unfold rfsL; rw [List.flatMap_append]; simp [rfL]
theorem nms_snoc (l : Names) (s : ByteArray) (i : Nat) : nmsL l ++ [.string s, .int .i64 i] = nmsL (l ++ [(s, i)]) := by rw [nmsL_app]; rfl
theorem take_idx {α β : Type} (f : Nat → α → β) {l : List α} {i : Nat} {x : α} (h : l[i]? = some x) : (l.take (i + 1)).mapIdx f = (l.take i).mapIdx f ++ [f i x] := by
  obtain ⟨hlt, _⟩ := List.getElem?_eq_some_iff.1 h
  rw [List.take_add_one, h, Option.toList_some, List.mapIdx_concat, List.length_take, Nat.min_eq_left (by omega)]
section
variable {P : Program} {b o : Nat} {ops : Array Oper} {rest : List Oper} {a : Act} {Q : Exit → Act → World → Prop} {dst : Option Tmp} {t ty : Nat} {pos : String} {after : Array Edge} {y : Operand}
theorem wl_loadC (hx : a.eval y = .pointer (some ⟨b, o, none⟩)) (h1 : oneB P ty = true) (hc : w.cell? ⟨b, o, none⟩ = some v)
    (h : wpList P ops Q rest (a.put dst v) w) : wpList P ops Q (⟨dst, .load ty y, t, pos, after, none⟩ :: rest) a w :=
  wpList_plain rfl fun _ hK => by
    unfold Oper.wp execOp
    simp only [hx, Instr.loadAt, Instr.sureAddr, Sem.run_bind, Sem.run_pure, Result.andThen_ok, run_load1 h1 hc]
    exact hK _ _ h
end
set_option maxRecDepth 20000 in
set_option maxHeartbeats 16000000 in
theorem rcrash_c (l : List Int) (hl : Ro w0 F (rdsl 1 lv (ints l))) (ok : D.Ok K) (hK : K ≤ 1048576) (h : Sat w0 w (DskRep d D :: F)) :
    Calls Tryz.prog 30 #[ptr d, lv] w (Rtn fun _ w' => Sat w0 w' (DskRep d (D.rcrash l) :: F)) := by
  have Ok := Lib.hid ok; have HL := Lib.hid hl; have HK := Lib.hid hK
  obtain ⟨la, ln, lc, rfl, hln, _⟩ := id (hl _ h.drop)
  have hil : (ints l).length = l.length := List.length_map ..
  rw [hil, Nat.mul_one] at hln
  subst hln
  obtain ⟨fsv, fv, nv, wv, xs, g, hin, hR⟩ := DskRep.open h
  obtain ⟨fa, fn, fc, rfl, hfn, _⟩ := Sat.rd (hR.pick pick1)
  rw [rfsL_len] at hfn
  obtain rfl : fn = xs.length := by omega
  clear hfn
  obtain ⟨wa, wn, wc, rfl, hwn, _⟩ := Sat.rd (hR.pick pick4)
  rw [rlks_len] at hwn
  obtain rfl : wn = D.waits.length := by omega
  have hnu := rnum_c l la l.length lc 0 D.waits.length (hl _ h.drop)
  have hcl := clampN_le (num l 0) D.waits.length
  have hcr : D.rcrash l = { D with fast := (D.lastNames (clampN (num l 0) D.waits.length)).mapIdx fun i p => (p.1, i), now := (D.lastNames (clampN (num l 0) D.waits.length)).mapIdx fun i p => (p.1, i), waits := [], files := (D.lastNames (clampN (num l 0) D.waits.length)).mapIdx (D.rfile l), off := false, armed := false, left := 0 } := rfl
  have hns := rnamesn_c (clampN (num l 0) D.waits.length) hcl (Nat.le_trans ok.budget hK) (fun k hk => Nat.le_trans (ok.names k (Nat.le_trans hk hcl)).len (by decide)) hin.fast (hR.sub (sub_take pick0 (sub_take pick3 (sub_take pick2 sub_refl))))
  have hnk := ok.names _ hcl
  have e4 : w.cell? ⟨d, 4, none⟩ = some (.slice wa D.waits.length wc) := hR.cellP pick0 4 rfl
  generalize clampN (num l 0) D.waits.length = k0 at *
  generalize D.lastNames k0 = ns at *
  have Hin := Lib.hid hin; have Hcr := Lib.hid hcr; have Hnk := Lib.hid hnk
  clear ok hl hK h hin hR hwn hil hcl hcr hnk
  go_enter Tryz.func30, Tryz.ntmps30
  go_wp2_with fail
  refine hnu.mono ?_
  rintro ee w1 ⟨v, rfl, rfl, rfl⟩
  clear hnu
  go_wp2_with fail
  refine hns.mono ?_
  clear hns e4
  rintro ee w2 ⟨v, rfl, ov, g2, rfl, hon, hsub, hS⟩
  obtain ⟨na, nc, rfl⟩ := nms_sl (bag_ro (w0 := w0) hon w2 (hS.pick pick2))
  have Hon := Lib.hid hon
  clear hon hsub
  go_wp2_with fail
  go_loopg [5, 6, 7] ns.length (fun g' fq nq iq wr => ∃ (i : Nat) (ys : List RF), g' = ns.length - i ∧ i ≤ ns.length ∧ iq = .int .i64 i ∧ ys.map (·.f) = (ns.take i).mapIdx (D.rfile l) ∧ (∀ y ∈ ys, y.ws.map (·.1) = y.f.waits) ∧
    Sat w0 wr (osl 164 3 fq (rfsL ys) :: stars (ys.map rfR) :: osl 175 2 nq (nmsL ((ns.take i).mapIdx fun i p => (p.1, i))) :: dskPt d D (.slice fa xs.length fc) fv nv (.slice wa D.waits.length wc) :: bagR g2 :: osl 164 3 (.slice fa xs.length fc) (rfsL xs) :: stars (xs.map rfR) :: F))
  case atStart => exact ⟨0, [], rfl, Nat.zero_le _, rfl, rfl, by simp, Sat.osl_nil.2 (Sat.emp.2 (Sat.osl_nil.2 (hS.sub (sub_take pick0 (sub_take pick1 (sub_drop sub_refl))))))⟩
  case round =>
    obtain ⟨i, ys, rfl, hi, rfl, hys, hyo, hS⟩ := hrel
    by_cases hlt : i < ns.length
    · have hn500 := Hnk.out.len
      have c1 : (i : Int) < (ns.length : Int) := by omega
      have hwi : IntKind.i64.wrap ((i : Int) + 1) = (i : Int) + 1 := IntWalk.i64_in _ (by omega)
      have hwa : IntKind.i64.wrap (2 * (i : Int)) = 2 * (i : Int) := IntWalk.i64_in _ (by omega)
      have hwb : IntKind.i64.wrap (2 * (i : Int) + 1) = 2 * (i : Int) + 1 := IntWalk.i64_in _ (by omega)
      have hwc : IntKind.i64.wrap (2 * (i : Int) + 2) = 2 * (i : Int) + 2 := IntWalk.i64_in _ (by omega)
      obtain ⟨p, hp⟩ : ∃ p, ns[i]? = some p := ⟨_, List.getElem?_eq_getElem hlt⟩
      have hS2 := hS.drew
      have hpf := Hnk.out.ids p (List.mem_of_getElem? hp)
      obtain ⟨x, hx, hxf⟩ := Hin.out.file hpf
      have hok := Hin.out.ok x (List.mem_of_getElem? hx)
      have okf := Ok.out.file p.2
      rw [← hxf] at okf
      have hrf : D.rfile l i p = x.f.crash (num l (2 * i + 1)) (num l (2 * i + 2)) := by unfold Med.rfile; rw [hxf]
      have Hlx := Lib.hid (show xs.length = D.files.length by rw [← Hin.out.files, List.length_map])
      have c2 : (p.2 : Int) < (xs.length : Int) := by have := Hlx.out; omega
      obtain ⟨h0, h1, h2⟩ := rfsL_at hx
      obtain ⟨bk2, off2, hfe, hc⟩ := rdsl_cells (Sat.rd (hS2.pick pick5)) h0
      subst hfe
      obtain ⟨bk, off, c, hee, e0, e1⟩ := nms_cells (bag_ro (w0 := w0) Hon.out _ (hS2.pick pick4)) hp
      cases hee
      have HN : Hid (∀ R w', Sat w0 w' (bagR g2 :: R) → w'.cell? ⟨bk, off + i * 2 + 1, none⟩ = some (.int .i64 p.2)) := fun R w' hw' => by
        obtain ⟨_, _, _, hee, _, e1⟩ := nms_cells (bag_ro (w0 := w0) Hon.out _ hw') hp
        cases hee; exact e1
      have HN0 : Hid (∀ R w', Sat w0 w' (bagR g2 :: R) → w'.cell? ⟨bk, off + i * 2, none⟩ = some (.string p.1)) := fun R w' hw' => by
        obtain ⟨_, _, _, hee, e0, _⟩ := nms_cells (bag_ro (w0 := w0) Hon.out _ hw') hp
        cases hee; exact e0
      have r1 := (file_ro (w0 := w0) (R := F) (List.mem_of_getElem? hx)).2
      obtain ⟨r2, r3⟩ := file_ro2 (w0 := w0) (R := F) (List.mem_of_getElem? hx)
      obtain ⟨xna, xnc, hxn, _⟩ := file_nv (List.mem_of_getElem? hx) (hS2.pick pick6)
      have hpv := file_pv (List.mem_of_getElem? hx) (hS2.pick pick6)
      obtain ⟨xf, xfv, xnv, xwv, xws⟩ := x
      dsimp only at hxf hok okf hrf h0 h1 h2 r1 r2 r3 hxn hpv
      obtain ⟨xfa, xfn, xfc, rfl, _⟩ := id (r1 _ (hS2.sub (sub_drop (sub_drop (sub_drop (sub_drop (sub_drop (sub_drop sub_refl))))))))
      obtain ⟨xwa, xwc, rfl⟩ := chg_sl (r2 _ (hS2.sub (sub_drop (sub_drop (sub_drop (sub_drop (sub_drop (sub_drop sub_refl))))))))
      subst hxn
      have HF : Hid (∀ R w', Sat w0 w' (osl 164 3 (.slice (some ⟨bk2, off2, none⟩) xs.length fc) (rfsL xs) :: R) → w'.rangeAt bk2 (off2 + p.2 * 3) [.slice xfa xfn xfc, .slice xna xf.now.length xnc, .slice xwa xws.length xwc]) := fun R w' hw' => by
        obtain ⟨_, _, hfe, hc⟩ := rdsl_cells (Sat.rd hw') h0
        cases hfe
        intro j v hj
        match j, hj with
        | 0, hj => cases hj; exact hc _ _ h0
        | 1, hj => cases hj; rw [Nat.add_assoc]; exact hc _ _ h1
        | 2, hj => cases hj; rw [Nat.add_assoc]; exact hc _ _ h2
      have HPV := Lib.hid hpv; clear hpv
      have Hlt := Lib.hid hlt; have Hp := Lib.hid hp; have Hxf := Lib.hid hxf; have Hok := Lib.hid hok; have Okf := Lib.hid okf; have Hrf := Lib.hid hrf; have R1 := Lib.hid r1; have R2 := Lib.hid r2; have R3 := Lib.hid r3; have Hys := Lib.hid hys; have Hyo := Lib.hid hyo
      have hwb2 : xws.length ≤ 1048576 := by rw [← List.length_map (f := fun p : Chg × Value => p.1), hok]; exact Nat.le_trans okf.budget HK.out
      have hyl : ys.length = i := by rw [← List.length_map (f := fun r : RF => r.f), hys, List.length_mapIdx, List.length_take]; omega
      have hlen : (rfsL ys).length ≤ 2147483648 := by rw [rfsL_len]; omega
      have hlen2 : (nmsL ((ns.take i).mapIdx fun i p => (p.1, i))).length ≤ 2147483648 := by rw [nmsL_len, List.length_mapIdx, List.length_take]; omega
      clear hS hlt hp hx hxf hok okf hrf h0 h1 h2 hc r1 r2 r3 hys hyo hpf e0 e1 hyl
      go_wp2_with fail
      refine wpL_begin [12] (fun w' => w'.cell? ⟨d, 1, none⟩ = some (.slice (some ⟨bk2, off2, none⟩) xs.length fc) ∧ w'.cell? ⟨bk, off + i * 2 + 1, none⟩ = some (.int .i64 p.2) ∧ w'.rangeAt bk2 (off2 + p.2 * 3) [.slice xfa xfn xfc, .slice xna xf.now.length xnc, .slice xwa xws.length xwc]) (by kernel_rfl) ?_
      have hG : World.cell? _ ⟨d, 1, none⟩ = some (.slice (some ⟨bk2, off2, none⟩) xs.length fc) ∧ World.cell? _ ⟨bk, off + i * 2 + 1, none⟩ = some (.int .i64 p.2) ∧ World.rangeAt _ bk2 (off2 + p.2 * 3) [.slice xfa xfn xfc, .slice xna xf.now.length xnc, .slice xwa xws.length xwc] := ⟨hS2.cellP pick3 1 rfl, HN.out _ _ (hS2.pick pick4), HF.out _ _ (hS2.pick pick5)⟩
      refine rp 0 (hy := (yl_move evD)) (h := ?_)
      refine rp 1 (hy := (yl_nil evD)) (h := ?_)
      refine rp 2 (hy := (yl_field evD rnD)) (h := ?_)
      refine rt 3 (h := ?_)
      refine rp 4 (hy := (yl_move evD)) (h := ?_)
      refine rp 5 (hy := (yl_move evD)) (h := ?_)
      refine rp 6 (hy := (yl_index evD evD rnD)) (h := ?_)
      refine rp 7 (hy := (yl_field evD rnD)) (h := ?_)
      refine rt 8 (h := ?_)
      refine rp 9 (hy := (yl_index evD evD rnD)) (h := ?_)
      refine rg_take 10 evD (by kernel_rfl) (by intro _ _ _ h; exact h) (tg_loadN (P := Tryz.prog) [.slice xfa xfn xfc, .slice xna xf.now.length xnc, .slice xwa xws.length xwc] (by rfl) evD Tryz.underlying164 rfl (by kernel_rfl) (fun w hw => hw.2.2)) (by assumption) (by go_frame; first | done | rfl) ?_
      refine rg_eff 11 evD (by kernel_rfl) (fun K hK => ?_)
      refine eff_alloc zFile hS2 rfl ?_
      intro bX w3 hS3
      refine hK _ _ (.inr (.inl ⟨hS3.cellP pick4 1 rfl, HN.out _ _ (hS3.pick pick5), HF.out _ _ (hS3.pick pick6)⟩)) ?_
      clear hK hG hS2
      refine rg_eff 12 evD (by kernel_rfl) (fun K hK => ?_)
      refine eff_store hS3 evD evD (by first | (simp only [putsAt, Value.cells]; (try go_frame); first | done | rfl) | rfl) upD (Nat.le_of_ble_eq_true (by rfl)) (by kernel_rfl) (by rfl) ?_
      intro w4 hS4
      refine hK _ _ (.inl rfl) ?_
      refine wpL_done (by kernel_rfl) ?_
      clear hK hS3
      have hnu := rnum_c l la l.length lc (2 * i + 1) xws.length (HL.out _ (hS4.sb))
      rw [show ((2 * i + 1 : Nat) : Int) = 2 * (i : Int) + 1 by omega] at hnu
      have hnx := clampN_le (num l (2 * i + 1)) xws.length
      have hlw : xws.length = xf.waits.length := by rw [← Hok.out, List.length_map]
      have hleft : ∀ X : Bs, (match xf.waits[clampN (num l (2 * i + 1)) xws.length]? with | some c => if c.cut then xf.at (clampN (num l (2 * i + 1)) xws.length) else xf.at (clampN (num l (2 * i + 1)) xws.length) ++ c.b.take (clampN (num l (2 * i + 2)) c.b.length) | none => xf.at (clampN (num l (2 * i + 1)) xws.length)) = X → D.rfile l i p = ⟨X, X, []⟩ := by
        rintro X rfl
        rw [Hrf.out]
        unfold Fil.crash Fil.left
        rw [← hlw]
        rfl
      have HBlen : Hid (∀ X : Bs, D.rfile l i p = ⟨X, X, []⟩ → X.length ≤ 16777216) := fun X hX => by
        have h1 := Fil.left_len Okf.out (num l (2 * i + 1)) (num l (2 * i + 2))
        rw [Hrf.out] at hX
        unfold Fil.crash at hX
        injection hX with h2 h3 h4
        rw [← h2]; exact h1
      have Hleft := Lib.hid hleft
      generalize clampN (num l (2 * i + 1)) xws.length = n at *
      have hby := rbytes_c (fv := .slice xfa xfn xfc) (nv := .slice xna xf.now.length xnc) (wv := .slice xwa xws.length xwc) xf Okf.out xws Hok.out n (by omega) (by omega) (Ro.of_sub R1.out (sub_drop (sub_drop (sub_drop (sub_drop (sub_drop (sub_drop (sub_drop sub_refl)))))))) (Ro.of_sub R2.out (sub_drop (sub_drop (sub_drop (sub_drop (sub_drop (sub_drop (sub_drop sub_refl)))))))) (fun q hq => Ro.of_sub (R3.out q hq) (sub_drop (sub_drop (sub_drop (sub_drop (sub_drop (sub_drop (sub_drop sub_refl)))))))) hS4
      have Hnx := Lib.hid hnx; have Hlw := Lib.hid hlw
      clear hleft hnx hlw
      try simp only [List.getElem_toArray, List.getElem_cons_succ, List.getElem_cons_zero]
      try go_frame
      go_wp2_with ((with_reducible apply at_load); refine ⟨?_⟩; refine wl_load1 (by assumption) (by rfl) pkD (Nat.le_of_ble_eq_true (by rfl)) evD (by kernel_rfl) ?_)
      refine hnu.mono ?_
      rintro ee w5 ⟨v, rfl, rfl, rfl⟩
      clear hnu
      go_wp2_with (first
        | ((with_reducible apply at_load); refine ⟨?_⟩; refine wl_loadA (b := bX) hS4 (by rfl) pick0 Tryz.underlying164 rfl (by kernel_rfl) ?_)
        | ((with_reducible apply at_load); refine ⟨?_⟩; refine wl_load1 (by assumption) (by rfl) pkD (Nat.le_of_ble_eq_true (by rfl)) evD (by kernel_rfl) ?_))
      refine hby.mono ?_
      clear hby hS4
      rintro ee w5 ⟨v, rfl, hS5, b5, n5, c5, rfl⟩
      by_cases hnl : n < xws.length
      · obtain ⟨q, hq⟩ : ∃ q, xws[n]? = some q := ⟨_, List.getElem?_eq_getElem hnl⟩
        have hqw : xf.waits[n]? = some q.1 := by rw [← Hok.out, List.getElem?_map, hq]; rfl
        have c3 : (n : Int) < (xws.length : Int) := by omega
        obtain ⟨wbk, woff, wc2, hwe, q0, _, _⟩ := rchg_cells (R2.out _ (hS5.sub (sub_drop (sub_drop (sub_drop (sub_drop (sub_drop (sub_drop (sub_drop (sub_drop sub_refl)))))))))) hq
        cases hwe
        have HQ : Hid (∀ w', Sat w0 w' (stars (xs.map rfR) :: F) → w'.cell? ⟨wbk, woff + n * 3 + 2, none⟩ = some q.2) := fun w' hw' => by
          obtain ⟨_, _, _, hee, _, _, q2⟩ := rchg_cells (R2.out _ hw') hq
          cases hee; exact q2
        have Hq := Lib.hid hq; have Hqw := Lib.hid hqw
        clear hq hqw
        obtain ⟨⟨cut, cn, cb⟩, pv⟩ := q
        dsimp only at q0 HQ Hqw
        have f2 : World.cell? _ ⟨bX, 2, none⟩ = some (.slice (some ⟨wbk, woff, none⟩) xws.length xwc) := hS5.cellP pick1 2 rfl
        cases cut with
        | true =>
          have HB := Lib.hid (Hleft.out (xf.at n) (by rw [Hqw.out]; rfl))
          go_wp2_with ((with_reducible apply at_load); refine ⟨?_⟩; refine wl_load1 (by assumption) (by rfl) pkD (Nat.le_of_ble_eq_true (by rfl)) evD (by kernel_rfl) ?_)
          clear q0 HQ c3 hnl f2
          go_wp2_with fail
          refine (copy_c hS5 (xf.at n) hS5.rd (Nat.le_trans (HBlen.out (xf.at n) HB.out) (by decide))).mono ?_
          rintro ee w6 ⟨v, rfl, hS6, a6, n6, c6, rfl⟩
          clear hS5
          go_wp2_with (first
            | ((with_reducible apply at_build1); refine ⟨?_⟩; refine wl_build1 (e := 164) (sz := 3) (by' := 72) (by kernel_rfl) hS6 (by rfl) (cs := #[.slice b5 n5 c5, .slice a6 n6 c6, .slice none 0 0]) rfl rfl (Nat.le_of_ble_eq_true (by rfl)) ?_; intro bN wN hN)
            | ((with_reducible apply at_append); refine ⟨?_⟩; refine wl_app 164 3 72 (by kernel_rfl) hN (by rfl) (by rfl) pick4 pick0 (by rfl) (Nat.le_refl 1) (by rfl) hlen (by show 3 ≤ 65536; decide) (by decide) rfl ?_; intro bA nA cA wA hA)
            | ((with_reducible apply at_load); refine ⟨?_⟩; refine wl_loadC (by rfl) (by kernel_rfl) (HN0.out _ _ (hA.pick (pick_there pick6))) ?_)
            | ((with_reducible apply at_build1); refine ⟨?_⟩; refine wl_build1 (e := 175) (sz := 2) (by' := 24) (by kernel_rfl) hA (by rfl) (cs := #[.string p.1, .int .i64 i]) rfl rfl (Nat.le_of_ble_eq_true (by rfl)) ?_; intro bM wM hM)
            | ((with_reducible apply at_append); refine ⟨?_⟩; refine wl_app 175 2 24 (by kernel_rfl) hM (by rfl) (by rfl) pick6 pick0 (by rfl) (Nat.le_refl 1) (by rfl) hlen2 (by show 2 ≤ 65536; decide) (by decide) rfl ?_; intro bC nC cC wC hC))
          go_roundg (ns.length - (i + 1))
          case measure => have := Hlt.out; omega
          case rel =>
            refine ⟨i + 1, ys ++ [⟨⟨(xf.at n), (xf.at n), []⟩, .slice b5 n5 c5, .slice a6 n6 c6, .slice none 0 0, []⟩], rfl, Nat.succ_le_of_lt Hlt.out, by first | rfl | go_num, ?_, ?_, ?_⟩
            · rw [List.map_append, Hys.out, take_idx _ Hp.out, HB.out]; rfl
            · intro y hy
              rcases List.mem_append.1 hy with hy | hy
              · exact Hyo.out y hy
              · rw [List.mem_singleton.1 hy]; rfl
            · rw [take_idx _ Hp.out, ← nms_snoc, ← rfs_snoc]
              have h7 := rf_add (hC.sub (sub_take pick3 (sub_take pick2 (sub_take pick3 sub_refl))))
              exact h7.sub (sub_take pick2 (sub_take pick0 (sub_take pick0 (sub_drop (sub_take pick0 (sub_take pick0 (sub_take pick0 (sub_take pick0 sub_refl))))))))
        | false =>
          have HB := Lib.hid (Hleft.out (xf.at n ++ cb.take (clampN (num l (2 * i + 2)) cb.length)) (by rw [Hqw.out]; rfl))
          go_wp2_with ((with_reducible apply at_load); refine ⟨?_⟩; refine wl_load1 (by assumption) (by rfl) pkD (Nat.le_of_ble_eq_true (by rfl)) evD (by kernel_rfl) ?_)
          obtain ⟨pa, pc, hpe, hpc⟩ := HPV.out _ (List.mem_of_getElem? Hq.out)
          dsimp only at hpe hpc
          subst hpe
          have hkk := clampN_le (num l (2 * i + 2)) cb.length
          have hnu := fun w' (hw' : Sat w0 w' F) => rnum_c l la l.length lc (2 * i + 2) cb.length (HL.out w' hw')
          rw [show ((2 * i + 2 : Nat) : Int) = 2 * (i : Int) + 2 by omega] at hnu
          generalize clampN (num l (2 * i + 2)) cb.length = kk at *
          have hbl := HBlen.out _ HB.out
          rw [List.length_append] at hbl
          have Hrd := R3.out _ (List.mem_of_getElem? Hq.out)
          have c4 : (kk : Int) ≤ (pc : Int) := by omega
          dsimp only at Hrd
          have HRD := Lib.hid Hrd
          have Hbl := Lib.hid hbl; have Hkk := Lib.hid hkk
          clear Hrd hbl hkk hpc q0 f2 hnl
          have hS6 := hS5.drew
          refine wpL_begin [19, 20, 21] (fun w' => w'.cell? ⟨bX, 2, none⟩ = some (.slice (some ⟨wbk, woff, none⟩) xws.length xwc) ∧ w'.cell? ⟨wbk, woff + n * 3 + 2, none⟩ = some (.slice pa cb.length pc)) (by kernel_rfl) ?_
          have hG : World.cell? _ ⟨bX, 2, none⟩ = some (.slice (some ⟨wbk, woff, none⟩) xws.length xwc) ∧ World.cell? _ ⟨wbk, woff + n * 3 + 2, none⟩ = some (.slice pa cb.length pc) := ⟨hS6.cellP pick1 2 rfl, HQ.out _ (hS6.sub (sub_drop (sub_drop (sub_drop (sub_drop (sub_drop (sub_drop (sub_drop (sub_drop sub_refl)))))))))⟩
          refine rp 0 (hy := (yl_move evD)) (h := ?_)
          refine rp 1 (hy := (yl_field evD rnD)) (h := ?_)
          refine rt 2 (h := ?_)
          refine rp 3 (hy := (yl_move evD)) (h := ?_)
          refine rp 4 (hy := (yl_index evD evD rnD)) (h := ?_)
          refine rp 5 (hy := (yl_field evD rnD)) (h := ?_)
          refine rt 6 (h := ?_)
          refine rp 7 (hy := (yl_move evD)) (h := ?_)
          refine rp 8 (hy := (yl_move evD)) (h := ?_)
          refine rp 9 (hy := (yl_bin evD evD rnD)) (h := ?_)
          refine rp 10 (hy := (yl_bin evD evD rnD)) (h := ?_)
          refine rp 11 (hy := (yl_field evD rnD)) (h := ?_)
          refine rt 12 (h := ?_)
          refine rp 13 (hy := (yl_move evD)) (h := ?_)
          refine rp 14 (hy := (yl_index evD evD rnD)) (h := ?_)
          refine rp 15 (hy := (yl_field evD rnD)) (h := ?_)
          refine rt 16 (h := ?_)
          refine rp 17 (hy := (yl_len evD rnD)) (h := ?_)
          refine rg_eff 18 evD (by kernel_rfl) (fun K hK => ?_)
          refine eff_call3 (by kernel_rfl) evD evD evD ?_
          refine (hnu _ (hS6.sb)).mono ?_
          rintro ee w7 ⟨v, rfl, rfl, rfl⟩
          refine hK _ _ (.inr (.inr rfl)) ?_
          clear hK hnu
          refine rp 19 (hy := (by (refine Or.inl ⟨by rfl, ?_⟩; ((intro wq; go_simp); first | done | (with_reducible rfl))))) (h := ?_)
          refine rg_eff 20 evD (by kernel_rfl) (fun K hK => ?_)
          refine eff_appB hS6 evD evD (bsl_of_rd (HRD.out _ (hS6.sub (sub_drop (sub_drop (sub_drop (sub_drop (sub_drop (sub_drop (sub_drop (sub_drop sub_refl)))))))))) Hkk.out) (by have := Hbl.out; omega) ?_
          intro b9 n9 c9 w9 hS9
          generalize xf.at n ++ cb.take kk = BB at hS9 HB
          refine hK _ _ (.inl rfl) ?_
          refine rp 21 (hy := (yl_assign evD)) (h := ?_)
          refine wpL_done (by kernel_rfl) ?_
          clear hS5 hS6 hG hK c3 c4 HQ
          have hS5 := hS9
          clear hS9
          try simp only [List.getElem_toArray, List.getElem_cons_succ, List.getElem_cons_zero]
          try go_frame
          go_wp2_with fail
          refine (copy_c hS5 BB hS5.rd (Nat.le_trans (HBlen.out BB HB.out) (by decide))).mono ?_
          rintro ee w6 ⟨v, rfl, hS6, a6, n6, c6, rfl⟩
          clear hS5
          go_wp2_with (first
            | ((with_reducible apply at_build1); refine ⟨?_⟩; refine wl_build1 (e := 164) (sz := 3) (by' := 72) (by kernel_rfl) hS6 (by rfl) (cs := #[.slice b9 n9 c9, .slice a6 n6 c6, .slice none 0 0]) rfl rfl (Nat.le_of_ble_eq_true (by rfl)) ?_; intro bN wN hN)
            | ((with_reducible apply at_append); refine ⟨?_⟩; refine wl_app 164 3 72 (by kernel_rfl) hN (by rfl) (by rfl) pick4 pick0 (by rfl) (Nat.le_refl 1) (by rfl) hlen (by show 3 ≤ 65536; decide) (by decide) rfl ?_; intro bA nA cA wA hA)
            | ((with_reducible apply at_load); refine ⟨?_⟩; refine wl_loadC (by rfl) (by kernel_rfl) (HN0.out _ _ (hA.pick (pick_there pick6))) ?_)
            | ((with_reducible apply at_build1); refine ⟨?_⟩; refine wl_build1 (e := 175) (sz := 2) (by' := 24) (by kernel_rfl) hA (by rfl) (cs := #[.string p.1, .int .i64 i]) rfl rfl (Nat.le_of_ble_eq_true (by rfl)) ?_; intro bM wM hM)
            | ((with_reducible apply at_append); refine ⟨?_⟩; refine wl_app 175 2 24 (by kernel_rfl) hM (by rfl) (by rfl) pick6 pick0 (by rfl) (Nat.le_refl 1) (by rfl) hlen2 (by show 2 ≤ 65536; decide) (by decide) rfl ?_; intro bC nC cC wC hC))
          go_roundg (ns.length - (i + 1))
          case measure => have := Hlt.out; omega
          case rel =>
            refine ⟨i + 1, ys ++ [⟨⟨BB, BB, []⟩, .slice b9 n9 c9, .slice a6 n6 c6, .slice none 0 0, []⟩], rfl, Nat.succ_le_of_lt Hlt.out, by first | rfl | go_num, ?_, ?_, ?_⟩
            · rw [List.map_append, Hys.out, take_idx _ Hp.out, HB.out]; rfl
            · intro y hy
              rcases List.mem_append.1 hy with hy | hy
              · exact Hyo.out y hy
              · rw [List.mem_singleton.1 hy]; rfl
            · rw [take_idx _ Hp.out, ← nms_snoc, ← rfs_snoc]
              have h7 := rf_add (hC.sub (sub_take pick3 (sub_take pick2 (sub_take pick3 sub_refl))))
              exact h7.sub (sub_take pick2 (sub_take pick0 (sub_take pick0 (sub_drop (sub_take pick0 (sub_take pick0 (sub_take pick0 (sub_take pick0 sub_refl))))))))
      · have HB := Lib.hid (Hleft.out (xf.at n) (by rw [List.getElem?_eq_none (by have := Hlw.out; omega)]))
        have c3 : ¬ (n : Int) < (xws.length : Int) := by omega
        have f2 : World.cell? _ ⟨bX, 2, none⟩ = some (.slice xwa xws.length xwc) := hS5.cellP pick1 2 rfl
        go_wp2_with ((with_reducible apply at_load); refine ⟨?_⟩; refine wl_load1 (by assumption) (by rfl) pkD (Nat.le_of_ble_eq_true (by rfl)) evD (by kernel_rfl) ?_)
        clear f2
        clear c3 hnl
        go_wp2_with fail
        refine (copy_c hS5 (xf.at n) hS5.rd (Nat.le_trans (HBlen.out (xf.at n) HB.out) (by decide))).mono ?_
        rintro ee w6 ⟨v, rfl, hS6, a6, n6, c6, rfl⟩
        clear hS5
        go_wp2_with (first
          | ((with_reducible apply at_build1); refine ⟨?_⟩; refine wl_build1 (e := 164) (sz := 3) (by' := 72) (by kernel_rfl) hS6 (by rfl) (cs := #[.slice b5 n5 c5, .slice a6 n6 c6, .slice none 0 0]) rfl rfl (Nat.le_of_ble_eq_true (by rfl)) ?_; intro bN wN hN)
          | ((with_reducible apply at_append); refine ⟨?_⟩; refine wl_app 164 3 72 (by kernel_rfl) hN (by rfl) (by rfl) pick4 pick0 (by rfl) (Nat.le_refl 1) (by rfl) hlen (by show 3 ≤ 65536; decide) (by decide) rfl ?_; intro bA nA cA wA hA)
          | ((with_reducible apply at_load); refine ⟨?_⟩; refine wl_loadC (by rfl) (by kernel_rfl) (HN0.out _ _ (hA.pick (pick_there pick6))) ?_)
          | ((with_reducible apply at_build1); refine ⟨?_⟩; refine wl_build1 (e := 175) (sz := 2) (by' := 24) (by kernel_rfl) hA (by rfl) (cs := #[.string p.1, .int .i64 i]) rfl rfl (Nat.le_of_ble_eq_true (by rfl)) ?_; intro bM wM hM)
          | ((with_reducible apply at_append); refine ⟨?_⟩; refine wl_app 175 2 24 (by kernel_rfl) hM (by rfl) (by rfl) pick6 pick0 (by rfl) (Nat.le_refl 1) (by rfl) hlen2 (by show 2 ≤ 65536; decide) (by decide) rfl ?_; intro bC nC cC wC hC))
        go_roundg (ns.length - (i + 1))
        case measure => have := Hlt.out; omega
        case rel =>
          refine ⟨i + 1, ys ++ [⟨⟨(xf.at n), (xf.at n), []⟩, .slice b5 n5 c5, .slice a6 n6 c6, .slice none 0 0, []⟩], rfl, Nat.succ_le_of_lt Hlt.out, by first | rfl | go_num, ?_, ?_, ?_⟩
          · rw [List.map_append, Hys.out, take_idx _ Hp.out, HB.out]; rfl
          · intro y hy
            rcases List.mem_append.1 hy with hy | hy
            · exact Hyo.out y hy
            · rw [List.mem_singleton.1 hy]; rfl
          · rw [take_idx _ Hp.out, ← nms_snoc, ← rfs_snoc]
            have h7 := rf_add (hC.sub (sub_take pick3 (sub_take pick2 (sub_take pick3 sub_refl))))
            exact h7.sub (sub_take pick2 (sub_take pick0 (sub_take pick0 (sub_drop (sub_take pick0 (sub_take pick0 (sub_take pick0 (sub_take pick0 sub_refl))))))))
    · obtain rfl : i = ns.length := by omega
      have c1 : ¬ (ns.length : Int) < (ns.length : Int) := by omega
      rw [List.take_length] at hys hS
      obtain ⟨qa, qn, qc, rfl, _⟩ := Sat.rd (hS.pick pick0)
      obtain ⟨ma, mc, rfl⟩ := nms_sl (Sat.rd (hS.pick pick2))
      have Hys := Lib.hid hys; have Hyo := Lib.hid hyo
      clear hlt hys hyo
      go_wp2_with ((with_reducible apply at_store); refine ⟨?_⟩; refine wl_store (by assumption) (by rfl) evD (by first | (simp only [putsAt, Value.cells]; (try go_frame); first | done | rfl) | rfl) upD (Nat.le_of_ble_eq_true (by rfl)) (by kernel_rfl) (by rfl) ?_; intro wS hS)
      refine bodyPost_ret (results_none rfl _ _ _) rfl ?_
      refine ⟨_, rfl, ?_⟩
      rw [Hcr.out]
      have hS1 := hS
      clear hS
      rw [List.length_mapIdx] at hS1
      simp only [List.setIfInBounds_toArray, List.set_cons_zero, List.set_cons_succ] at hS1
      have hS2 : Sat w0 _ (osl 164 3 (.slice qa qn qc) (rfsL ys) :: stars (ys.map rfR) :: osl 175 2 (.slice ma ns.length mc) (nmsL (ns.mapIdx fun i p => (p.1, i))) :: dskPt d { D with fast := ns.mapIdx fun i p => (p.1, i), now := ns.mapIdx fun i p => (p.1, i), waits := [], files := ns.mapIdx (D.rfile l), off := false, armed := false, left := 0 } (.slice qa qn qc) (.slice ma ns.length mc) (.slice ma ns.length mc) (.slice none 0 0) :: F) :=
        hS1.sub (sub_take pick0 (sub_take pick0 (sub_take pick0 (sub_take pick0 (sub_drop (sub_drop (sub_drop sub_refl)))))))
      have h1 : Sat w0 _ (osl 243 3 (.slice none 0 0) [] :: _) := Sat.osl_nil.2 hS2
      have h2 : Sat w0 _ (stars [] :: osl 243 3 (.slice none 0 0) [] :: _) := Sat.emp.2 h1
      have h3 := bag_add (g := []) (h2.sub (sub_take pick4 (sub_take pick0 sub_refl)))
      have h4 := h3.sub (sub_take pick4 (sub_take pick2 (sub_take pick2 (sub_take pick0 (sub_take pick0 sub_refl)))))
      exact DskRep.shut (D := { D with fast := ns.mapIdx fun i p => (p.1, i), now := ns.mapIdx fun i p => (p.1, i), waits := [], files := ns.mapIdx (D.rfile l), off := false, armed := false, left := 0 }) ⟨Hys.out, Hyo.out, .head _, .head _⟩ h4
end
section
variable {w0 w : World} {F R : List HProp} {v bv dv x lv : Value}
def keyTo (kk : Bs) (i : Nat) : Bs := kk.take i ++ Frm.zero32.drop i
end
section
variable {w0 w : World} {F R : List HProp} {v bv dv x lv : Value}
end
section
variable {w0 w : World} {F R : List HProp} {v bv dv x lv : Value}
end
section
variable {w0 w : World} {F R : List HProp} {v bv dv x lv : Value}
end
section
variable {w0 w : World} {F R : List HProp} {v bv dv x lv : Value}
end
section
variable {w0 w : World} {F R : List HProp} {v bv dv x lv : Value}
end
end Go.Proofs.YtmjldaedhmipkaaGreatDoor
namespace Go.Seg
theorem at_some {L : Log} {n : Int} {i : Nat} {s : Int × Int} (h1 : ∀ (j : Nat) (s : Int × Int), j < i → L.l[j]? = some s → s.1 ≠ n) (h2 : L.l[i]? = some s) (h3 : s.1 = n) : L.at n = some i := by
  unfold Log.at
  rw [List.findIdx?_eq_some_iff_getElem]
  obtain ⟨hi, he⟩ := List.getElem?_eq_some_iff.1 h2
  refine ⟨hi, by rw [he, h3]; simp, fun j hj => ?_⟩
  have := h1 j _ hj (List.getElem?_eq_getElem (by omega))
  simpa using this
theorem at_none {L : Log} {n : Int} (h1 : ∀ (j : Nat) (s : Int × Int), L.l[j]? = some s → s.1 ≠ n) : L.at n = none := by
  unfold Log.at
  rw [List.findIdx?_eq_none_iff]
  intro s hs
  obtain ⟨j, hj⟩ := List.getElem?_of_mem hs
  simpa using h1 j s hj
end Go.Seg
namespace Go.Proofs.YtmjldaedhmipkaaGreatDoor
open Go Go.Sl Go.Med Go.MapKept Go.RowKit
abbrev rlogPt (p d : Nat) (L : Seg.Log) (lv : Value) : HProp := pt p (.cells #[ptr d, .int .i64 L.limit, lv, .bool L.on, .int .i64 L.fresh] 87 (0,0))
def RLogRaw (p d : Nat) (L : Seg.Log) (lv : Value) : List HProp := [rlogPt p d L lv, osl 84 2 lv (segw L.l)]
def RLogRep (p d : Nat) (L : Seg.Log) : HProp := fun h => ∃ lv, stars (RLogRaw p d L lv) h
section
variable {w0 w : World} {F R : List HProp} {p d : Nat} {L : Seg.Log} {lv v : Value} {D : Med} {K : Nat}
theorem RLogRep.open (h : Sat w0 w (RLogRep p d L :: F)) : ∃ lv, Sat w0 w (rlogPt p d L lv :: osl 84 2 lv (segw L.l) :: F) := by
  obtain ⟨ha, x, hx, q, r, dd, rfl, ⟨lv, hp⟩, hq⟩ := h
  refine ⟨lv, ha, _, hx, ?_⟩
  show stars (RLogRaw p d L lv ++ F) _
  rw [stars_append]
  exact ⟨q, r, dd, rfl, hp, hq⟩
theorem RLogRep.shut (h : Sat w0 w (rlogPt p d L lv :: osl 84 2 lv (segw L.l) :: F)) : Sat w0 w (RLogRep p d L :: F) :=
  Sat.join (M := RLogRaw p d L lv) h fun _ hx => ⟨lv, hx⟩
theorem sgs_sl {l : List (Int × Int)} (h : rdsl 2 v (segw l) w) : ∃ a c, v = .slice a l.length c := by
  obtain ⟨a, n, c, rfl, hl, hx⟩ := h
  rw [segw_len] at hl
  obtain rfl : n = l.length := by omega
  exact ⟨a, c, rfl⟩
theorem segw_at' : ∀ {l : List (Int × Int)} {i : Nat} {s : Int × Int}, l[i]? = some s → (segw l)[i * 2]? = some (.int .i64 s.1) ∧ (segw l)[i * 2 + 1]? = some (.int .i64 s.2)
  | [], _, _, h => by simp at h
  | a :: l, 0, s, h => by
    obtain rfl : a = s := by simpa using h
    exact ⟨rfl, rfl⟩
  | a :: l, i + 1, s, h => by
    have e1 : segw (a :: l) = .int .i64 a.1 :: .int .i64 a.2 :: segw l := rfl
    have h' : l[i]? = some s := by simpa using h
    rw [e1, show (i + 1) * 2 = i * 2 + 1 + 1 by omega]
    exact segw_at' h'
theorem sgs_cells {l : List (Int × Int)} {i : Nat} {s : Int × Int} {a : Option Addr} {n c : Nat} (h : rdsl 2 (.slice a n c) (segw l) w) (hi : l[i]? = some s) :
    ∃ bk off, a = some ⟨bk, off, none⟩ ∧ w.cell? ⟨bk, off + i * 2, none⟩ = some (.int .i64 s.1) ∧ w.cell? ⟨bk, off + i * 2 + 1, none⟩ = some (.int .i64 s.2) := by
  obtain ⟨h0, h1⟩ := segw_at' hi
  obtain ⟨bk, off, rfl, hc⟩ := rdsl_cells h h0
  exact ⟨bk, off, rfl, hc _ _ h0, by rw [Nat.add_assoc]; exact hc _ _ h1⟩
set_option maxRecDepth 20000 in
set_option maxHeartbeats 2000000 in
theorem r14at_c (hL : L.Ok) (n : Int) (h : Sat w0 w (RLogRep p d L :: F)) :
    Calls Tryz.prog 82 #[ptr p, .int .i64 n] w (Rtn fun v w' => v = .int .i64 (L.find n) ∧ w = w') := by
  obtain ⟨lv, hR⟩ := RLogRep.open h
  obtain ⟨la, lc, rfl⟩ := sgs_sl (Sat.rd (hR.pick pick1))
  have hlen := hL.len
  have e2 : w.cell? ⟨p, 2, none⟩ = some (.slice la L.l.length lc) := hR.cellP pick0 2 rfl
  have hrd := Sat.rd (hR.pick pick1)
  clear h hL hR
  go_enter Tryz.func82, Tryz.ntmps82
  go_wp2_with fail
  go_loopg [5] L.l.length (fun g iq wr => ∃ i : Nat, g = L.l.length - i ∧ i ≤ L.l.length ∧ iq = .int .i64 i ∧ (∀ (j : Nat) (s : Int × Int), j < i → L.l[j]? = some s → s.1 ≠ n) ∧ wr = w)
  case atStart => exact ⟨0, rfl, Nat.zero_le _, rfl, fun j s hj => by omega, rfl⟩
  case round =>
    obtain ⟨i, rfl, hi, rfl, hno, rfl⟩ := hrel
    by_cases hlt : i < L.l.length
    · have c1 : (i : Int) < (L.l.length : Int) := by omega
      have hwi : IntKind.i64.wrap ((i : Int) + 1) = (i : Int) + 1 := IntWalk.i64_in _ (by omega)
      obtain ⟨s, hs⟩ : ∃ s, L.l[i]? = some s := ⟨_, List.getElem?_eq_getElem hlt⟩
      obtain ⟨bk, off, rfl, c0, _⟩ := sgs_cells hrd hs
      have Hlt := Lib.hid hlt; have Hs := Lib.hid hs; have Hno := Lib.hid hno
      clear hlt hs hno hlen
      by_cases hsn : s.1 = n
      · have hb : (s.1 == n) = true := by rw [hsn]; exact beq_self_eq_true _
        have Hf := Lib.hid (show L.find n = (i : Int) by unfold Seg.Log.find; rw [Seg.at_some Hno.out Hs.out hsn])
        subst hsn
        go_wp2
        go_ret
        exact ⟨_, rfl, by rw [Hf.out]; rfl, rfl⟩
      · have hb : (s.1 == n) = false := by rw [beq_eq_false_iff_ne]; exact hsn
        have Hsn := Lib.hid hsn
        clear hsn
        go_wp2_with fail
        go_roundg (L.l.length - (i + 1))
        case measure => have := Hlt.out; omega
        case rel => exact ⟨i + 1, rfl, Nat.succ_le_of_lt Hlt.out, by first | rfl | go_num, fun j s' hj hs' => by
          rcases Nat.lt_or_ge j i with h1 | h1
          · exact Hno.out j s' h1 hs'
          · obtain rfl : j = i := by omega
            rw [Hs.out] at hs'; cases hs'; exact Hsn.out, rfl⟩
    · obtain rfl : i = L.l.length := by omega
      have c1 : ¬ (L.l.length : Int) < (L.l.length : Int) := by omega
      have Hf := Lib.hid (show L.find n = -1 by unfold Seg.Log.find; rw [Seg.at_none fun j s hs => hno j s (List.getElem?_eq_some_iff.1 hs).1 hs])
      clear hlt hno
      go_wp2
      go_ret
      exact ⟨_, rfl, by rw [Hf.out]; rfl, rfl⟩
theorem int_snoc (l : List Int) (z : Int) : ints l ++ [.int .i64 z] = ints (l ++ [z]) := by unfold ints; rw [List.map_append]; rfl
set_option maxRecDepth 20000 in
set_option maxHeartbeats 2000000 in
theorem r14numbers_c (hL : L.Ok) (h : Sat w0 w (RLogRep p d L :: F)) :
    Calls Tryz.prog 47 #[ptr p] w (Rtn fun v w' => ∃ ov, v = ov ∧ Sat w0 w' (osl 3 1 ov (ints L.segs) :: RLogRep p d L :: F)) := by
  obtain ⟨lv, hR⟩ := RLogRep.open h
  obtain ⟨la, lc, rfl⟩ := sgs_sl (Sat.rd (hR.pick pick1))
  have hlen := hL.len
  have e2 : w.cell? ⟨p, 2, none⟩ = some (.slice la L.l.length lc) := hR.cellP pick0 2 rfl
  clear h hL
  go_enter Tryz.func47, Tryz.ntmps47
  go_wp2_with fail
  clear e2
  go_loopg [3, 4] L.l.length (fun g ov iq wr => ∃ i : Nat, g = L.l.length - i ∧ i ≤ L.l.length ∧ iq = .int .i64 i ∧ Sat w0 wr (osl 3 1 ov (ints (L.segs.take i)) :: rlogPt p d L (.slice la L.l.length lc) :: osl 84 2 (.slice la L.l.length lc) (segw L.l) :: F))
  case atStart => exact ⟨0, rfl, Nat.zero_le _, rfl, Sat.osl_nil.2 hR⟩
  case round =>
    obtain ⟨i, rfl, hi, rfl, hS⟩ := hrel
    clear hR
    have e2 : World.cell? _ ⟨p, 2, none⟩ = some (.slice la L.l.length lc) := hS.cellP pick1 2 rfl
    by_cases hlt : i < L.l.length
    · have c1 : (i : Int) < (L.l.length : Int) := by omega
      have hwi : IntKind.i64.wrap ((i : Int) + 1) = (i : Int) + 1 := IntWalk.i64_in _ (by omega)
      obtain ⟨s, hs⟩ : ∃ s, L.l[i]? = some s := ⟨_, List.getElem?_eq_getElem hlt⟩
      obtain ⟨bk, off, rfl, c0, _⟩ := sgs_cells (Sat.rd (hS.pick pick2)) hs
      have Hlt := Lib.hid hlt
      have Hnx := Lib.hid (show L.segs.take (i + 1) = L.segs.take i ++ [s.1] by unfold Seg.Log.segs; rw [List.take_add_one, List.getElem?_map, hs]; rfl)
      have hln : (ints (L.segs.take i)).length ≤ 2147483648 := by unfold ints Seg.Log.segs; rw [List.length_map, List.length_take, List.length_map]; omega
      clear hlt hs hlen
      generalize s.1 = z at *
      go_wp2_with (first
        | ((with_reducible apply at_build1); refine ⟨?_⟩; refine wl_build1 (e := 3) (sz := 1) (by' := 8) (by kernel_rfl) hS (by rfl) (cs := #[.int .i64 z]) rfl rfl (Nat.le_of_ble_eq_true (by rfl)) ?_; intro bN wN hN)
        | ((with_reducible apply at_append); refine ⟨?_⟩; refine wl_app 3 1 8 (by kernel_rfl) hN (by rfl) (by rfl) (pick_there pick0) pick0 (by rfl) (Nat.le_refl 1) (by rfl) hln (by show 1 ≤ 65536; decide) (by decide) rfl ?_; intro bA nA cA wA hA))
      go_roundg (L.l.length - (i + 1))
      case measure => have := Hlt.out; omega
      case rel => exact ⟨i + 1, rfl, Nat.succ_le_of_lt Hlt.out, by first | rfl | go_num, by rw [Hnx.out, ← int_snoc]; exact hA⟩
    · obtain rfl : i = L.l.length := by omega
      have c1 : ¬ (L.l.length : Int) < (L.l.length : Int) := by omega
      rw [List.take_of_length_le (by unfold Seg.Log.segs; rw [List.length_map]; exact Nat.le_refl _)] at hS
      clear hlt
      go_wp2
      go_ret
      exact ⟨_, rfl, (RLogRep.shut (hS.sub (sub_take pick1 (sub_take pick1 (sub_take pick0 sub_refl))))).sub (sub_take pick1 (sub_take pick0 sub_refl))⟩
end
section
variable {P : Program} {w0 w : World} {F R : List HProp} {e : TypeId} {ops : Array Oper} {a : Act} {Q : Exit → Act → World → Prop} {dst : Option Tmp} {ty : TypeId} {t : Nat} {pos : String} {after : Array Edge} {s y : Operand} {v x : Value} {xs ys : List Value} {K : Act → World → Prop} {E : Prop}
theorem eff_appG (sz by' : Nat) (hb : appB P ty e sz by' = true) (hs : Sat w0 w (osl e sz v xs :: R)) (hv : a.eval s = v) (hy : a.eval y = x) (hx : rdsl sz x ys w) (h1 : ∀ u ∈ ys, u.oneCell' = true)
    (hl : xs.length + ys.length ≤ 2147483648) (hby : by' ≤ 65000)
    (hK : ∀ v' w', Sat w0 w' (osl e sz v' (xs ++ ys) :: R) → K (a.put dst v') w') :
    if Region.wanted ⟨dst, .call { callee := .builtin .append, args := #[s, y], argTypes := #[ty, ty] }, t, pos, after, none⟩ (yielded ops a.tmps) = true then
      Oper.wp P ⟨dst, .call { callee := .builtin .append, args := #[s, y], argTypes := #[ty, ty] }, t, pos, after, none⟩ a w K Q else E := by
  obtain ⟨hu, i, z, hi, hz, e1, e2, e3, e4⟩ := appB_spec hb
  subst e2
  refine step_append (w0 := w0) (by rfl) s y ty (by rfl) _ i z hu hi hz e1 e3 e4 hv hy h1 hs hx (by unfold maxLen; omega) ?_ fun v' w' h2 _ => hK v' w' h2
  exact Nat.le_trans (Nat.mul_le_mul hl hby) (by decide)
end
theorem rd_cells {w0 w : World} {L R : List HProp} {b sz n c : Nat} {cs : Array Value} {T : TypeId} {ys : List Value} (h : Sat w0 w L) (p : Pick (pt b (.cells cs T (0,0))) L R) (hn : ys.length = n * sz) (hy : ∀ (j : Nat) (u : Value), ys[j]? = some u → cs[j]? = some u) :
    rdsl sz (.slice (some ⟨b, 0, none⟩) n c) ys w :=
  ⟨_, n, c, rfl, hn, fun j x hj => ⟨_, rfl, by rw [add_zero_lit]; exact (h.pick p).cellAt j x (hy j x hj)⟩⟩
theorem rd_cells' {w0 w : World} {L R : List HProp} {b sz n c o : Nat} {ad : Addr} {cs : Array Value} {T : TypeId} {ys : List Value} (h : Sat w0 w L) (p : Pick (pt b (.cells cs T (0,0))) L R) (hn : ys.length = n * sz) (had : 0 < n → ad = ⟨b, o, none⟩) (hy : ∀ (j : Nat) (u : Value), ys[j]? = some u → cs[o + j]? = some u) :
    rdsl sz (.slice (some ad) n c) ys w :=
  ⟨_, n, c, rfl, hn, fun j x hj => ⟨_, rfl, by
    have h0 : 0 < n := by
      rcases Nat.eq_zero_or_pos n with rfl | h0
      · rw [Nat.zero_mul] at hn
        rw [List.length_eq_zero_iff.1 hn] at hj; cases hj
      · exact h0
    rw [had h0, Addr.add_mid]; exact (h.pick p).cellAt _ x (hy j x hj)⟩⟩
theorem seg_drop {l : List (Int × Int)} {cs : Array Value} {i j : Nat} {u : Value} (h : cs.toList.take (l.length * 2) = segw l) (hj : (segw (l.drop i))[j]? = some u) : cs[i * 2 + j]? = some u := by
  refine take_get h ?_
  rw [segw_drop, List.getElem?_drop] at hj
  exact hj
theorem seg_take {l : List (Int × Int)} {cs : Array Value} {i j : Nat} {u : Value} (h : cs.toList.take (l.length * 2) = segw l) (hj : (segw (l.take i))[j]? = some u) : cs[j]? = some u := by
  have e : segw l = segw (l.take i) ++ segw (l.drop i) := by rw [← segw_app, List.take_append_drop]
  refine take_get h ?_
  rw [e, List.getElem?_append_left (List.getElem?_eq_some_iff.1 hj).1]
  exact hj
section
variable {w0 w : World} {F R : List HProp} {p d : Nat} {L : Seg.Log} {lv v : Value} {D : Med} {K : Nat}
set_option maxRecDepth 20000 in
set_option maxHeartbeats 8000000 in
theorem rlremove_c (hL : L.Ok) (hD : Seg.Fit K D) (hKK : K ≤ 1048000) (n : Int) (h : Sat w0 w (RLogRep p d L :: DskRep d D :: F)) :
    Calls Tryz.prog 24 #[ptr p, .int .i64 n] w (Rtn fun v w' => v = errno (L.rremove D n).2 ∧ Sat w0 w' (RLogRep p d (L.rremove D n).1.1 :: DskRep d (L.rremove D n).1.2 :: F)) := by
  have hf := r14at_c hL n h
  rcases find_neg (L := L) n with ⟨ha, hb⟩ | ⟨i, ha, hb⟩
  · have Hfin := Lib.hid (show L.rremove D n = ((L, D), 9) by unfold Seg.Log.rremove; rw [ha])
    rw [hb] at hf
    clear ha hb hL hD
    go_enter Tryz.func24, Tryz.ntmps24
    go_wp2_with fail
    refine hf.mono ?_
    rintro e w2 ⟨v, rfl, rfl, rfl⟩
    clear hf
    go_wp2
    go_ret
    rw [Hfin.out]
    exact ⟨_, rfl, rfl, h⟩
  · rw [hb] at hf
    have hlt := (Seg.Log.at_lt ha).1
    have Hg := Lib.hid (show L.rremove D n = if (D.rmove (Seg.name n) ByteArray.empty true).2 = 0 then ((L.without i, (D.rmove (Seg.name n) ByteArray.empty true).1), 0) else ((L, (D.rmove (Seg.name n) ByteArray.empty true).1), (D.rmove (Seg.name n) ByteArray.empty true).2) by unfold Seg.Log.rremove; rw [ha])
    have hi0 : (0 : Int) ≤ (i : Int) := by omega
    have hd : decide ((i : Int) < 0) = false := decide_eq_false (by omega)
    have Hlt := Lib.hid hlt; have Hln := Lib.hid hL.len; have Hfr := Lib.hid hL.fresh; have HD := Lib.hid hD
    have HKK := Lib.hid hKK
    obtain ⟨lv, hR⟩ := RLogRep.open h
    clear ha hb hL h hlt hD hKK
    go_enter Tryz.func24, Tryz.ntmps24
    go_wp2_with fail
    refine hf.mono ?_
    rintro e w2 ⟨v, rfl, rfl, rfl⟩
    clear hf
    go_wp2_with fail
    refine wpL_begin [6, 7] (fun w' => w'.cell? ⟨p, 0, none⟩ = some (ptr d)) (by kernel_rfl) ?_
    have hG : (World.drew _).cell? ⟨p, 0, none⟩ = some (ptr d) := hR.drew.cellP pkD 0 rfl
    refine rp 0 (hy := (yl_move evD)) (h := ?_)
    refine rp 1 (hy := (yl_nil evD)) (h := ?_)
    refine rp 2 (hy := (yl_field evD rnD)) (h := ?_)
    refine rt 3 (h := ?_)
    refine rp 4 (hy := (yl_move evD)) (h := ?_)
    refine rg_eff 5 evD (by kernel_rfl) (fun K hK => ?_)
    (refine eff_call1 (by kernel_rfl) evD ?_)
    refine (rname_c n _).mono ?_
    rintro e w3 ⟨v, rfl, rfl, rfl⟩
    refine hK _ _ (.inr (.inr rfl)) ?_
    clear hK
    refine rg_eff 6 evD (by kernel_rfl) (fun K hK => ?_)
    (refine eff_call4 (by kernel_rfl) evD evD evD evD ?_)
    have hRd := hR.drew
    refine (rmove_c (Seg.name n) ByteArray.empty true (by decide) (by have := HD.out.now; omega) (by have := HD.out.ok.budget; have := HKK.out; omega) HD.out.ok.left (Sat.pk (by assumption))).mono ?_
    rintro e w4 ⟨v, rfl, rfl, hS4⟩
    refine hK _ _ (.inl rfl) ?_
    clear hK hR hRd hG
    refine rp 7 (hy := (yl_assign evD)) (h := ?_)
    refine wpL_done (by kernel_rfl) ?_
    clear HD
    generalize D.rmove (Seg.name n) ByteArray.empty true = B at *
    obtain ⟨M2, e2⟩ := B
    by_cases he : e2 = 0
    rotate_left
    · have heb : (e2 == 0) = false := beq_false_of_ne he
      have hfin := Lib.hid (Hg.out.trans (if_neg he))
      clear he
      go_wp2_with fail
      go_ret
      rw [hfin.out]
      exact ⟨_, rfl, rfl, RLogRep.shut (lv := lv) (Sat.sb hS4)⟩
    subst he
    have hfin := Lib.hid (Hg.out.trans (if_pos rfl))
    clear Hg
    rcases (hS4.pk (A := osl 84 2 lv (segw L.l))).osl_cases with ⟨rfl, hx, hF⟩ | ⟨bk, n', cap, cs, rfl, hll, hn', hc, hcm, htk, hp⟩
    · exfalso
      have := congrArg List.length hx
      have := Hlt.out
      rw [segw_len] at *; simp at *; omega
    rw [segw_len] at hll
    obtain rfl : n' = L.l.length := by omega
    have hS5 : Sat w0 w4 (rlogPt p d L (.slice (some ⟨bk, 0, none⟩) L.l.length cap) :: pt bk (.cells cs 84 (0,0)) :: DskRep d M2 :: F) := hp.sb
    clear hp hS4
    have hc2 : (segw L.l).length = 2 * L.l.length := segw_len _
    have hic : i ≤ cap := by have := Hlt.out; omega
    have hiL : (i : Int) ≤ (cap : Int) := by omega
    have hw1 : IntKind.i64.wrap ((L.l.length : Int) - 1) = (L.l.length : Int) - 1 := by rw [IntKind.wrap_i64]; have := Hln.out; omega
    have hw2 : IntKind.i64.wrap ((L.l.length : Int) - L.fresh) = (L.l.length : Int) - L.fresh := by rw [IntKind.wrap_i64]; have := Hln.out; have := Hfr.out; omega
    have hw3 : IntKind.i64.wrap (L.fresh - 1) = L.fresh - 1 := by rw [IntKind.wrap_i64]; have := Hln.out; have := Hfr.out; omega
    have hw4 : IntKind.i64.wrap ((i : Int) + 1) = (i : Int) + 1 := by rw [IntKind.wrap_i64]; have := Hln.out; have := Hlt.out; omega
    have Htk := Lib.hid htk; have Hc := Lib.hid hc; have Hn := Lib.hid hn'
    obtain ⟨ad, Had, Hsl⟩ : ∃ ad : Addr, Hid (i + 1 < L.l.length → ad = ⟨bk, (i + 1) * 2, none⟩) ∧ Hid (∀ w, (Instr.sliceAt 85 (.slice (some ⟨bk, 0, none⟩) L.l.length cap) (some (.int .i64 ((i : Int) + 1))) none none).run Tryz.prog w = .ok (.slice (some ad) (L.l.length - (i + 1)) (cap - (i + 1))) w) := by
      have h1 : (i : Int) + 1 ≤ (L.l.length : Int) := by have := Hlt.out; omega
      have h3 : (L.l.length : Int) ≤ (cap : Int) := by omega
      have h4 : (0 : Int) ≤ (i : Int) + 1 := by omega
      have h5 : ((i : Int) + 1).toNat = i + 1 := by omega
      clear hw1 hw2 hw3 hw4 hfin
      by_cases hce : cap = i + 1
      · refine ⟨⟨bk, 0, none⟩, Lib.hid fun hh => by have := Hn.out; omega, Lib.hid fun w => ?_⟩
        go_simp
      · refine ⟨⟨bk, (i + 1) * 2, none⟩, Lib.hid fun _ => rfl, Lib.hid fun w => ?_⟩
        go_simp
    have Hon := Lib.hid (show (L.without i).on = if ((i : Int) == (L.l.length : Int) - 1) = true then false else L.on by
      unfold Seg.Log.without
      simp only [beq_iff_eq]
      have := Hlt.out
      by_cases hh : i + 1 = L.l.length
      · rw [if_pos hh, if_pos (by omega)]
      · rw [if_neg hh, if_neg (by omega)])
    have Hfs := Lib.hid (show (L.without i).fresh = if decide ((L.l.length : Int) - L.fresh ≤ (i : Int)) = true then L.fresh - 1 else L.fresh by
      unfold Seg.Log.without
      simp only [decide_eq_true_eq])
    have Hll := Lib.hid (show (L.without i).l = L.l.take i ++ L.l.drop (i + 1) ∧ (L.without i).limit = L.limit from ⟨List.eraseIdx_eq_take_drop_succ _ _, rfl⟩)
    generalize L.without i = LW at *
    obtain ⟨Wlim, Wl, Won, Wfr⟩ := LW
    obtain ⟨rfl, rfl⟩ := Hll.out
    obtain rfl := Hon.out
    obtain rfl := Hfs.out
    clear Hon Hfs Hll hn' hc hcm htk hc2
    cases hb1 : ((i : Int) == (L.l.length : Int) - 1) <;> cases hb2 : (decide ((L.l.length : Int) - L.fresh ≤ (i : Int)))
    all_goals
      have hS4 := hS5
      go_wp2_with (first | ((with_reducible apply at_load); refine ⟨?_⟩; refine wl_load1 (by assumption) (by rfl) pkD (Nat.le_of_ble_eq_true (by rfl)) evD (by kernel_rfl) ?_) | ((with_reducible apply at_store); refine ⟨?_⟩; refine wl_store (by assumption) (by rfl) evD (by first | (simp only [putsAt, Value.cells]; (try go_frame); first | done | rfl) | rfl) upD (Nat.le_of_ble_eq_true (by rfl)) (by kernel_rfl) (by rfl) ?_; intro wS hS))
      try (have hS4 := hS; clear hS)
      have hG : (World.drew _).cell? ⟨p, 2, none⟩ = some (.slice (some ⟨bk, 0, none⟩) L.l.length cap) ∧ (World.drew _).cell? ⟨p, 4, none⟩ = some (.int .i64 L.fresh) := ⟨hS4.drew.cellP pkD 2 rfl, hS4.drew.cellP pkD 4 rfl⟩
      refine wpL_begin [10, 11] (fun w' => w'.cell? ⟨p, 2, none⟩ = some (.slice (some ⟨bk, 0, none⟩) L.l.length cap) ∧ w'.cell? ⟨p, 4, none⟩ = some (.int .i64 L.fresh)) (by kernel_rfl) ?_
      refine rp 0 (hy := (yl_move evD)) (h := ?_)
      refine rp 1 (hy := (yl_move evD)) (h := ?_)
      refine rp 2 (hy := (yl_nil evD)) (h := ?_)
      refine rp 3 (hy := (yl_field evD rnD)) (h := ?_)
      refine rt 4 (h := ?_)
      refine rp 5 (hy := (yl_len evD rnD)) (h := ?_)
      refine rp 6 (hy := (yl_move evD)) (h := ?_)
      refine rp 7 (hy := (yl_nil evD)) (h := ?_)
      refine rp 8 (hy := (yl_field evD rnD)) (h := ?_)
      refine rt 9 (h := ?_)
      refine rp 10 (hy := (yl_bin evD evD rnD)) (h := ?_)
      refine rp 11 (hy := (yl_bin evD evD rnD)) (h := ?_)
      refine wpL_done (by kernel_rfl) ?_
      clear hG
      have hS6 := hS4.drew
      clear hS4
      go_wp2_with (first | ((with_reducible apply at_load); refine ⟨?_⟩; refine wl_load1 (by assumption) (by rfl) pkD (Nat.le_of_ble_eq_true (by rfl)) evD (by kernel_rfl) ?_) | ((with_reducible apply at_store); refine ⟨?_⟩; refine wl_store (by assumption) (by rfl) evD (by first | (simp only [putsAt, Value.cells]; (try go_frame); first | done | rfl) | rfl) upD (Nat.le_of_ble_eq_true (by rfl)) (by kernel_rfl) (by rfl) ?_; intro wS hS))
      try (have hS6 := hS; clear hS)
      have hG : (World.drew _).cell? ⟨p, 2, none⟩ = some (.slice (some ⟨bk, 0, none⟩) L.l.length cap) := hS6.drew.cellP pkD 2 rfl
      have hS7 := hS6.drew
      refine wpL_begin [15, 16] (fun w' => w'.cell? ⟨p, 2, none⟩ = some (.slice (some ⟨bk, 0, none⟩) L.l.length cap)) (by kernel_rfl) ?_
      refine rp 0 (hy := (yl_move evD)) (h := ?_)
      refine rp 1 (hy := (yl_move evD)) (h := ?_)
      refine rp 2 (hy := (yl_nil evD)) (h := ?_)
      refine rp 3 (hy := (yl_field evD rnD)) (h := ?_)
      refine rt 4 (h := ?_)
      refine rp 5 (hy := (yl_move evD)) (h := ?_)
      refine rp 6 (hy := (by (refine Or.inl ⟨by rfl, ?_⟩; ((intro wq; go_simp); first | done | (with_reducible rfl))))) (h := ?_)
      refine rp 8 (hy := (yl_move evD)) (h := ?_)
      refine rp 9 (hy := (yl_nil evD)) (h := ?_)
      refine rp 10 (hy := (yl_field evD rnD)) (h := ?_)
      refine rt 11 (h := ?_)
      refine rp 12 (hy := (yl_move evD)) (h := ?_)
      refine rp 13 (hy := (yl_bin evD evD rnD)) (h := ?_)
      refine rp 14 (hy := (yl_slice_lo evD evD Hsl.out)) (h := ?_)
      refine rg_eff 7 evD (by kernel_rfl) (fun K hK => ?_)
      refine eff_appG (e := 84) 2 16 (by kernel_rfl) (Sat.osl_nil.2 hS7) (by rfl) (by rfl) (ys := segw (L.l.take i)) (rd_cells hS7 pkD (by rw [segw_len, List.length_take]; have := Hlt.out; omega) fun j u hj => seg_take Htk.out hj) (segw_one _) (by rw [segw_len, List.length_take, List.length_nil]; have := Hln.out; omega) (by decide) ?_
      intro v1 w8 hS8
      rw [List.nil_append] at hS8
      refine hK _ _ (.inr (.inl (hS8.cellP pkD 2 rfl))) ?_
      clear hK K hG
      refine rg_eff 15 evD (by kernel_rfl) (fun K hK => ?_)
      refine eff_appG (e := 84) 2 16 (by kernel_rfl) hS8 evD evD (ys := segw (L.l.drop (i + 1))) (rd_cells' (n := L.l.length - (i + 1)) (o := (i + 1) * 2) hS8 pkD (by rw [segw_len, List.length_drop, Nat.mul_comm]) (fun hne => Had.out (by have := hne; omega)) fun j u hj => seg_drop Htk.out hj) (segw_one _) (by rw [segw_len, segw_len, List.length_take, List.length_drop]; have := Hln.out; omega) (by decide) ?_
      intro v2 w9 hS9
      obtain ⟨a2, n2, c2, rfl, _⟩ := id hS9.rd
      rw [← segw_app] at hS9
      refine hK _ _ (.inl rfl) ?_
      clear hK K
      refine rp 16 (hy := (yl_assign evD)) (h := ?_)
      refine wpL_done (by kernel_rfl) ?_
      clear hS5 hS6 hS7 hS8
      go_wp2_with (first | ((with_reducible apply at_load); refine ⟨?_⟩; refine wl_load1 (by assumption) (by rfl) pkD (Nat.le_of_ble_eq_true (by rfl)) evD (by kernel_rfl) ?_) | ((with_reducible apply at_store); refine ⟨?_⟩; refine wl_store (by assumption) (by rfl) evD (by first | (simp only [putsAt, Value.cells]; (try go_frame); first | done | rfl) | rfl) upD (Nat.le_of_ble_eq_true (by rfl)) (by kernel_rfl) (by rfl) ?_; intro wS hS))
      go_ret
      rw [hfin.out, hb1, hb2]
      simp only [List.setIfInBounds_toArray, List.set_cons_zero, List.set_cons_succ] at hS
      simp only [if_true, if_false, Bool.false_eq_true]
      exact ⟨_, rfl, rfl, RLogRep.shut (lv := .slice a2 n2 c2) (Sat.sb hS)⟩
end
end Go.Proofs.YtmjldaedhmipkaaGreatDoor
namespace Go.Seg
open Go.Med
end Go.Seg
namespace Go.Seg
end Go.Seg
namespace Go.Proofs.YtmjldaedhmipkaaGreatDoor
open Go Go.Sl Go.Med Go.MapKept Go.RowKit
section
variable {w0 w : World} {F R : List HProp} {p d q : Nat} {L : Seg.Log} {lv v bv : Value} {D : Med} {K : Nat}
end
end Go.Proofs.YtmjldaedhmipkaaGreatDoor
namespace Go.Seg
open Go.Med
end Go.Seg
namespace Go.Proofs.YtmjldaedhmipkaaGreatDoor
open Go Go.Sl Go.Med Go.MapKept Go.RowKit
section
variable {w0 w : World} {F R : List HProp} {p d q : Nat} {L : Seg.Log} {lv v bv : Value} {D : Med} {K : Nat} {s : Int × Int}
end
section
variable {w0 w : World} {F R : List HProp} {p d q : Nat} {L : Seg.Log} {lv v bv : Value} {M : Med} {K : Nat}
end
end Go.Proofs.YtmjldaedhmipkaaGreatDoor
namespace Go.Seg
open Go.Med
end Go.Seg
namespace Go.Proofs.YtmjldaedhmipkaaGreatDoor
open Go Go.Sl Go.Med Go.MapKept Go.RowKit
section
variable {w0 w : World} {F R : List HProp} {p d q : Nat} {L : Seg.Log} {lv v bv : Value} {M : Med} {K : Nat} {s : Int × Int}
end
end Go.Proofs.YtmjldaedhmipkaaGreatDoor
namespace Go.Seg
open Go.Med
section
variable {K K' : Nat} {M M' : Med} {L : Log} {s t : ByteArray} {i : Nat} {sure opn : List (Plc × Frm.Ent)}
theorem app_lt : ∀ (x y u v : Bs), x.length = y.length → x < y → x ++ u < y ++ v
  | [], [], _, _, _, h => absurd h (List.not_lt_nil [])
  | [], _ :: _, _, _, h, _ => by simp at h
  | _ :: _, [], _, _, h, _ => by simp at h
  | a :: x, b :: y, u, v, hl, h => by
    rw [List.cons_append, List.cons_append, List.cons_lt_cons_iff]
    rcases List.cons_lt_cons_iff.1 h with h1 | ⟨e, h1⟩
    · exact .inl h1
    · exact .inr ⟨e, app_lt x y u v (by simpa using hl) h1⟩
theorem app_lt_r : ∀ (x u v : Bs), u < v → x ++ u < x ++ v
  | [], _, _, h => h
  | a :: x, u, v, h => by
    rw [List.cons_append, List.cons_append, List.cons_lt_cons_iff]
    exact .inr ⟨rfl, app_lt_r x u v h⟩
theorem digs_lt : ∀ (k a b : Nat), a < b → b < 10 ^ k → digs a k < digs b k
  | 0, a, b, h, hb => by simp at hb; omega
  | k + 1, a, b, h, hb => by
    show digs (a / 10) k ++ [UInt8.ofNat (48 + a % 10)] < digs (b / 10) k ++ [UInt8.ofNat (48 + b % 10)]
    have hb' : b / 10 < 10 ^ k := by rw [Nat.div_lt_iff_lt_mul (by omega)]; rw [Nat.pow_succ] at hb; exact hb
    rcases Nat.lt_or_ge (a / 10) (b / 10) with q | q
    · exact app_lt _ _ _ _ (by rw [digs_len, digs_len]) (digs_lt k _ _ q hb')
    · have e : a / 10 = b / 10 := by omega
      rw [e]
      refine app_lt_r _ _ _ ?_
      rw [List.cons_lt_cons_iff]
      left
      rw [UInt8.lt_iff_toNat_lt, UInt8.toNat_ofNat', UInt8.toNat_ofNat']
      omega
theorem name_lt {a b : Int} (h1 : 0 ≤ a) (h2 : a < b) (h3 : b < 1048576) : lt (name a) (name b) = true := by
  unfold name
  rw [if_neg (by omega), if_neg (by omega)]
  unfold lt
  rw [decide_eq_true_eq]
  show lead ++ digs a.toNat 8 < lead ++ digs b.toNat 8
  exact app_lt_r _ _ _ (digs_lt 8 _ _ (by omega) (by omega))
theorem number_is {s : ByteArray} (h : (number s).2 = true) : 0 ≤ (number s).1 ∧ (number s).1 < 1048576 ∧ name (number s).1 = s := by
  unfold number at h ⊢
  dsimp only at h ⊢
  split at h
  · rename_i hc
    rw [if_pos hc]
    obtain ⟨c1, c2, c3, c4⟩ := hc
    refine ⟨by simp only; omega, by simp only; omega, ?_⟩
    simp only
    unfold name
    rw [if_neg (by omega)]
    have hl : (s.data.toList.drop 4).length = 8 := by
      have : s.data.toList.length = 12 := by first | exact c1 | (rw [Array.length_toList]; exact c1)
      rw [List.length_drop, this]
    have hd := digs_val (s.data.toList.drop 4) c3
    rw [hl] at hd
    have e : lead ++ digs (Int.toNat ((val (s.data.toList.drop 4) : Nat) : Int)) 8 = s.data.toList := by
      rw [Int.toNat_natCast, hd, ← c2, List.take_append_drop]
    rw [e]
  · cases h
theorem found_mem {l : List ByteArray} {x : Int × Int} (h : x ∈ found M l) : ∃ t ∈ l, (number t).2 = true ∧ x = ((number t).1, (M.size t).1) := by
  unfold found at h
  obtain ⟨t, ht, he⟩ := List.mem_filterMap.1 h
  split at he
  · rename_i hn; exact ⟨t, ht, hn, (Option.some.inj he).symm⟩
  · cases he
theorem found_rise : ∀ (l : List ByteArray), l.Pairwise (fun a b => lt a b = true) → ((found M l).map (·.1)).Pairwise (· < ·)
  | [], _ => List.Pairwise.nil
  | t :: l, h => by
    obtain ⟨h1, h2⟩ := List.pairwise_cons.1 h
    have ih := found_rise l h2
    by_cases hn : (number t).2 = true
    · have e : found M (t :: l) = ((number t).1, (M.size t).1) :: found M l := by unfold found; rw [List.filterMap_cons]; simp [hn]
      rw [e, List.map_cons, List.pairwise_cons]
      refine ⟨fun x hx => ?_, ih⟩
      obtain ⟨y, hy, rfl⟩ := List.mem_map.1 hx
      obtain ⟨u, hu, hun, rfl⟩ := found_mem hy
      have hlt := h1 u hu
      obtain ⟨a1, a2, a3⟩ := number_is hn
      obtain ⟨b1, b2, b3⟩ := number_is hun
      rcases Int.lt_or_le (number t).1 (number u).1 with q | q
      · exact q
      · exfalso
        rcases Int.lt_or_eq_of_le q with q | q
        · have h3 := name_lt b1 q a2
          rw [a3, b3] at h3
          have := lt_trans hlt h3
          rw [lt_irrefl] at this; cases this
        · rw [← a3, ← q, b3, lt_irrefl] at hlt; cases hlt
    · have e : found M (t :: l) = found M l := by unfold found; rw [List.filterMap_cons]; simp [hn]
      rw [e]; exact ih
theorem fresh_ok (ok : M.Ok K) (limit : Int) (h1 : 128 ≤ limit) (h2 : limit ≤ 1048576) : (fresh M limit).Ok := by
  refine ⟨⟨h1, h2⟩, ?_, fun x hx => ?_, fun x hx => ?_, ⟨Int.le_refl _, by simp [fresh]⟩, fun hh => by cases hh⟩
  · refine found_rise M.list ?_
    unfold Med.list
    split
    · exact List.Pairwise.nil
    · rw [List.pairwise_map]; exact ok.nowOk.srt
  · obtain ⟨t, _, hn, rfl⟩ := found_mem hx
    have := number_is hn
    exact ⟨this.1, this.2.1⟩
  · obtain ⟨t, _, hn, rfl⟩ := found_mem hx
    unfold Med.size
    split
    · simp
    split
    · simp
    · have := (ok.file ‹Nat›).now_len
      simp only
      omega
end
end Go.Seg
namespace Go.Seg
open Go.Med
theorem all_size (M : Med) (s : ByteArray) : (((M.all s).1.length : Nat) : Int) = (M.size s).1 := by
  unfold Med.all Med.size
  split; · rfl
  split
  · rfl
  · rfl
section
variable {φ : Nat → Nat} {V : Nat → Prop} {M D : Med} {K : Nat} {L : Log}
theorem side_fresh (h : Side φ V M D) (ok : M.Ok K) (limit : Int) : fresh D limit = fresh M limit := by
  have e : found D D.list = found M M.list := by
    rw [h.list]
    unfold found
    congr 1
    funext s
    rw [← all_size, ← all_size, h.all ok]
  unfold fresh
  rw [e]
theorem alive_yes (ok : M.Ok K) (hoff : M.off = false) : alive M = 0 := by
  unfold alive Med.size
  rw [hoff]
  simp only [Bool.false_eq_true, if_false]
  cases hg : nget M.now ByteArray.empty with
  | none => rfl
  | some i => exact absurd rfl (ok.nowOk.ne _ (nget_mem hg))
end
structure Two (i : Nat) (L : Log) (M D : Med) : Prop where
  log : L.Ok
  ok : M.Ok (i * 2000)
  fit : Fit (i * 2000) D
  side : ∃ φ V, Side φ V M D
  fresh : L.fresh ≤ i
structure Step {α : Type} (i : Nat) (a b : (Log × Med) × α) : Prop where
  log : b.1.1 = a.1.1
  res : b.2 = a.2
  two : Two i a.1.1 a.1.2 b.1.2
section
variable {i : Nat} {M D : Med} {L : Log}
theorem Step.of {α : Type} {a b : (Log × Med) × α} (h : Agree a b) (hl : a.1.1.Ok) (ok : a.1.2.Ok (i * 2000)) (fit : Fit (i * 2000) b.1.2) (hf : a.1.1.fresh ≤ i) : Step i a b :=
  ⟨h.1.symm, h.2.1.symm, hl, ok, fit, h.2.2, hf⟩
theorem Two.mono {j : Nat} (h : Two i L M D) (hj : i ≤ j) : Two j L M D :=
  ⟨h.log, h.ok.mono (by omega), h.fit.mono (by omega), h.side, by have := h.fresh; omega⟩
theorem Two.remove (h : Two i L M D) (n : Int) : Step (i + 1) (L.remove M n) (L.rremove D n) := by
  obtain ⟨φ, V, s⟩ := h.side
  have h1 : (L.remove M n).1.2.Ok (i * 2000 + 1) := by
    have h := h.ok
    unfold Log.remove
    cases L.at n with
    | none => exact h.mono (Nat.le_succ _)
    | some i => simp only; split <;> exact h.remove _
  exact .of (side_lremove s h.ok n) (h.log.remove M n) (h1.mono (by omega)) ((h.fit.lremove n).mono (by omega)) (by have := Log.remove_fresh_le L M n; have := h.fresh; omega)
theorem Two.sync (h : Two i L M D) : D.syncDir.2 = M.syncDir.2 ∧ Two (i + 1) L M.syncDir.1 D.syncDir.1 := by
  obtain ⟨φ, V, s⟩ := h.side
  obtain ⟨h1, h2⟩ := s.syncDir h.ok
  exact ⟨h1.symm, h.log, h.ok.syncDir.mono (by omega), h.fit.syncDir.mono (by omega), h2, by have := h.fresh; omega⟩
theorem Two.arm (h : Two i L M D) (n : Int) (hn : n ≤ 9223372036854775807) : (D.arm n).2 = (M.arm n).2 ∧ Two (i + 1) L (M.arm n).1 (D.arm n).1 := by
  obtain ⟨φ, V, s⟩ := h.side
  obtain ⟨h1, h2⟩ := s.arm n
  exact ⟨h1.symm, h.log, (h.ok.arm n hn).mono (by omega), (h.fit.arm n hn).mono (by omega), h2, by have := h.fresh; omega⟩
end
end Go.Seg
namespace Go.Seg
open Go.Med
open Go.Frm (encs GoodE)
section
variable {K : Nat} {M M' : Med} {L : Log} {s t : ByteArray} {i : Nat}
def Grow (M : Med) : Prop := ∀ j, ∀ c ∈ (M.file j).waits, c.cut = false
def Dur (s : ByteArray) (i : Nat) (M : Med) : Prop := nget M.fast s = some i ∧ ∀ w ∈ M.waits, w.fr ≠ s ∧ w.to ≠ s
structure Ext (s : ByteArray) (i : Nat) (M M' : Med) : Prop where
  now : nget M'.now s = some i
  dur : Dur s i M → Dur s i M'
  fast : ∀ j, (M.file j).fast <+: (M'.file j).fast
  bytes : ∀ j, (M.file j).now <+: (M'.file j).now
end
end Go.Seg
namespace Go.Seg
open Go.Med
open Go.Frm (encs GoodE)
section
variable {K : Nat} {M M' : Med} {L : Log} {s t : ByteArray} {i : Nat}
def nf (L : Log) : List Int := (L.l.map (·.1)).take (L.l.length - L.fresh.toNat)
def Slice (p : Plc) (x : Frm.Ent) (b : Bs) : Prop := ∃ a : Nat, p.at_ = a ∧ p.size = ((Frm.encode x).1.length : Int) ∧ (Frm.encode x).1 <+: b.drop a
structure Sure (L : Log) (M : Med) (p : Plc) (x : Frm.Ent) : Prop where
  good : GoodE x
  mem : p.seg ∈ nf L
  file : ∃ i, nget M.now (name p.seg) = some i ∧ Dur (name p.seg) i M ∧ Slice p x (M.file i).fast
structure Pend (L : Log) (M : Med) (p : Plc) (x : Frm.Ent) : Prop where
  good : GoodE x
  mem : p.seg ∈ L.l.map (·.1)
  file : ∃ i, nget M.now (name p.seg) = some i ∧ Slice p x (M.file i).now ∧ (Slice p x (M.file i).fast ∨ L.on = true ∧ ∃ s, L.l.getLast? = some s ∧ s.1 = p.seg)
structure St (K : Nat) (L : Log) (M : Med) (sure opn : List (Plc × Frm.Ent)) : Prop where
  log : L.Ok
  ok : M.Ok K
  grow : Grow M
  has : Has L M
  tail : L.on = true → ∃ s i, L.l.getLast? = some s ∧ nget M.now (name s.1) = some i ∧ s.2 = ((M.file i).now.length : Int)
  sure : ∀ q ∈ sure, Sure L M q.1 q.2
  opn : M.off = false → ∀ q ∈ opn, Pend L M q.1 q.2
variable {sure opn : List (Plc × Frm.Ent)}
end
end Go.Seg
namespace Go.Seg
open Go.Med
open Go.Frm (encs GoodE)
section
variable {K K' : Nat} {M M' : Med} {L : Log} {s t : ByteArray} {i : Nat} {sure opn : List (Plc × Frm.Ent)}
end
end Go.Seg
namespace Go.Med
def FCap (c : Nat) (f : Fil) : Prop := ∀ k, k ≤ f.waits.length → (f.at k).length ≤ c
section
variable {c c' K : Nat} {f : Fil} {M : Med}
theorem FCap.mono (h : FCap c f) (hc : c ≤ c') : FCap c' f := fun k hk => Nat.le_trans (h k hk) hc
theorem FCap.new (c : Nat) : FCap c Fil.new := fun k _ => by simp [Fil.new, Fil.at]
theorem FCap.now (h : FCap c f) (ok : f.Ok K) : f.now.length ≤ c := by rw [ok.now]; exact h _ (Nat.le_refl _)
theorem FCap.put (h : FCap c f) (ok : f.Ok K) (b : Bs) : FCap (c + b.length) (f.do ⟨false, 0, b⟩) := fun k hk => by
  have hw : (f.do ⟨false, 0, b⟩).waits.length = f.waits.length + 1 := by simp [Fil.do]
  rw [hw] at hk
  rcases Nat.lt_or_ge k (f.waits.length + 1) with hlt | hge
  · rw [f.at_do _ k (by omega)]; have := h k (by omega); omega
  · obtain rfl : k = f.waits.length + 1 := by omega
    rw [f.at_do_last _ ok.now]
    unfold Chg.on
    simp only [Bool.false_eq_true, if_false, List.length_append]
    have := h.now ok; omega
def Med.Cap (c : Nat) (M : Med) : Prop := ∀ f ∈ M.files, FCap c f
theorem Med.Cap.mono (h : M.Cap c) (hc : c ≤ c') : M.Cap c' := fun f hf => (h f hf).mono hc
theorem Med.Cap.like {M' : Med} (h : M.Cap c) (e : M'.files = M.files) : M'.Cap c := fun f hf => h f (e ▸ hf)
theorem Med.Cap.file (h : M.Cap c) (i : Nat) : FCap c (M.file i) := by
  unfold Med.file
  rcases Nat.lt_or_ge i M.files.length with hi | hi
  · rw [List.getD_eq_getElem?_getD, List.getElem?_eq_getElem hi]; exact h _ (List.getElem_mem hi)
  · rw [List.getD_eq_getElem?_getD, List.getElem?_eq_none hi]; exact FCap.new c
theorem Med.Cap.new (c room : Nat) : (Med.new room).Cap c := fun f hf => by cases hf
theorem Med.Cap.step (h : M.Cap c) : M.step.1.Cap c := h.like M.step_same.2.2.2.1
theorem Med.Cap.set (h : M.Cap c) (i : Nat) (hf : FCap c f) : (M.setFile i f).Cap c := fun g hg => by
  rcases List.mem_or_eq_of_mem_set hg with hg | rfl
  · exact h g hg
  · exact hf
theorem Med.Cap.create (h : M.Cap c) (s : ByteArray) : (M.create s).1.Cap c := by
  unfold Med.create
  split; · exact h
  split; · exact h
  split; · exact h
  split; · exact h
  split; · exact h.step
  intro f hf
  rcases List.mem_append.1 hf with hf | hf
  · exact h f hf
  · rw [List.mem_singleton.1 hf]; exact FCap.new c
theorem Med.Cap.append (h : M.Cap c) (ok : M.Ok K) (s : ByteArray) (b : Bs) : (M.append s b).1.Cap (c + b.length) := by
  have h' : M.Cap (c + b.length) := h.mono (Nat.le_add_right _ _)
  unfold Med.append
  split; · exact h'
  split; · exact h'
  split; · exact h'
  split; · exact h'.step
  exact h'.step.set _ ((h.file _).put (ok.file _) b)
theorem Med.Cap.all (h : M.Cap c) (ok : M.Ok K) (s : ByteArray) : (M.all s).1.length ≤ c := by
  unfold Med.all
  split; · exact Nat.zero_le _
  split; · exact Nat.zero_le _
  exact (h.file _).now (ok.file _)
end
end Go.Med
namespace Go.Seg
open Go.Med
section
variable {c c' K n : Nat} {L : Log} {M : Med}
theorem rows_cap (h : M.Cap c) (ok : M.Ok K) (hn : L.l.length ≤ n) : (Rep.rowsOf (fun s => L.bytes M s) L.segs).length ≤ n * c := by
  have hb : ∀ s, (L.bytes M s).1.length ≤ c := fun s => by
    unfold Log.bytes
    split
    · exact Nat.zero_le _
    · exact h.all ok _
  refine Nat.le_trans (Rep.rowsOf_count L.segs fun s _ => hb s) (Nat.mul_le_mul_right c ?_)
  unfold Log.segs
  rw [List.length_map]; exact hn
end
end Go.Seg
namespace Go.Seg
open Go.Med
end Go.Seg
namespace Go.Proofs.YtmjldaedhmipkaaGreatDoor
open Go Go.Sl Go.Med Go.MapKept Go.RowKit
section
variable {w0 w : World} {F R : List HProp} {p d q : Nat} {L : Seg.Log} {lv v bv : Value} {M : Med} {K : Nat} {s : Int × Int}
end
end Go.Proofs.YtmjldaedhmipkaaGreatDoor
namespace Go.Seg
open Go.Med
def Log.drop (t : List Int) : Nat → Log → Med → (Log × Med) × Int
  | 0, L, M => if t = [] then ((L, M), 0) else ((L, M.syncDir.1), M.syncDir.2)
  | k + 1, L, M => if (L.remove M (t.getD k 0)).2 = 0 then Log.drop t k (L.remove M (t.getD k 0)).1.1 (L.remove M (t.getD k 0)).1.2 else L.remove M (t.getD k 0)
def Log.rdrop (t : List Int) : Nat → Log → Med → (Log × Med) × Int
  | 0, L, M => if t = [] then ((L, M), 0) else ((L, M.syncDir.1), M.syncDir.2)
  | k + 1, L, M => if (L.rremove M (t.getD k 0)).2 = 0 then Log.rdrop t k (L.rremove M (t.getD k 0)).1.1 (L.rremove M (t.getD k 0)).1.2 else L.rremove M (t.getD k 0)
section
variable {t : List Int} {L : Log} {M D : Med} {K i : Nat}
theorem drop_nil (h : t = []) : Log.drop t 0 L M = ((L, M), 0) := by unfold Log.drop; rw [if_pos h]
theorem drop_end (h : t ≠ []) : Log.drop t 0 L M = ((L, M.syncDir.1), M.syncDir.2) := by unfold Log.drop; rw [if_neg h]
theorem drop_go {k : Nat} (h : (L.remove M (t.getD k 0)).2 = 0) : Log.drop t (k + 1) L M = Log.drop t k (L.remove M (t.getD k 0)).1.1 (L.remove M (t.getD k 0)).1.2 := by
  conv => lhs; unfold Log.drop
  rw [if_pos h]
theorem drop_no {k : Nat} (h : (L.remove M (t.getD k 0)).2 ≠ 0) : Log.drop t (k + 1) L M = L.remove M (t.getD k 0) := by
  conv => lhs; unfold Log.drop
  rw [if_neg h]
theorem rdrop_nil (h : t = []) : Log.rdrop t 0 L M = ((L, M), 0) := by unfold Log.rdrop; rw [if_pos h]
theorem rdrop_end (h : t ≠ []) : Log.rdrop t 0 L M = ((L, M.syncDir.1), M.syncDir.2) := by unfold Log.rdrop; rw [if_neg h]
theorem rdrop_go {k : Nat} (h : (L.rremove M (t.getD k 0)).2 = 0) : Log.rdrop t (k + 1) L M = Log.rdrop t k (L.rremove M (t.getD k 0)).1.1 (L.rremove M (t.getD k 0)).1.2 := by
  conv => lhs; unfold Log.rdrop
  rw [if_pos h]
theorem rdrop_no {k : Nat} (h : (L.rremove M (t.getD k 0)).2 ≠ 0) : Log.rdrop t (k + 1) L M = L.rremove M (t.getD k 0) := by
  conv => lhs; unfold Log.rdrop
  rw [if_neg h]
theorem remove_med (h : M.Ok K) (n : Int) : (L.remove M n).1.2.Ok (K + 1) := by
  unfold Log.remove
  cases L.at n with
  | none => exact h.mono (Nat.le_succ K)
  | some i => simp only; split <;> exact h.remove _
theorem Two.drop : ∀ (k : Nat) {i : Nat} {L : Log} {M D : Med}, Two i L M D → Step (i + k + 1) (Log.drop t k L M) (Log.rdrop t k L D)
  | 0, i, L, M, D, h => by
    by_cases ht : t = []
    · rw [drop_nil ht, rdrop_nil ht]
      exact ⟨rfl, rfl, h.mono (by omega)⟩
    · rw [drop_end ht, rdrop_end ht]
      exact ⟨rfl, h.sync.1, h.sync.2.mono (by omega)⟩
  | k + 1, i, L, M, D, h => by
    have h1 := h.remove (t.getD k 0)
    by_cases h0 : (L.remove M (t.getD k 0)).2 = 0
    · rw [drop_go h0, rdrop_go (by rw [h1.res]; exact h0), h1.log]
      have h2 := Two.drop k h1.two
      exact ⟨h2.log, h2.res, h2.two.mono (by omega)⟩
    · rw [drop_no h0, rdrop_no (by rw [h1.res]; exact h0)]
      exact ⟨h1.log, h1.res, h1.two.mono (by omega)⟩
end
end Go.Seg
namespace Go.Seg
open Go.Med
structure TwoM (i : Nat) (M D : Med) : Prop where
  ok : M.Ok (i * 2000)
  fit : Fit (i * 2000) D
  side : ∃ φ V, Side φ V M D
  quiet : Quiet M
  cap : M.Cap (i * 2000)
  now : M.now.length ≤ i
section
variable {i j K : Nat} {M D : Med}
theorem TwoM.first (r : Nat) (hr : r ≤ 16777216) : TwoM 0 (Med.new r) (Med.new r) :=
  ⟨Med.Ok.new _ r hr, Fit.new _ r hr, ⟨_, _, Side.new r⟩, Quiet.new r, Med.Cap.new _ r, Nat.le_refl 0⟩
theorem TwoM.mono (h : TwoM i M D) (hj : i ≤ j) : TwoM j M D :=
  ⟨h.ok.mono (by omega), h.fit.mono (by omega), h.side, h.quiet, h.cap.mono (by omega), by have := h.now; omega⟩
theorem create_now (M : Med) (s : ByteArray) : (M.create s).1.now.length ≤ M.now.length + 1 := by
  have e3 := M.step_same.2.2.1
  unfold Med.create
  split; · simp only; omega
  split; · simp only; omega
  split; · simp only; omega
  split; · simp only; omega
  split; · simp only; rw [e3]; omega
  show (Lnk.on _ M.step.1.now).length ≤ _
  rw [e3]
  unfold Lnk.on
  simp only [if_true]
  split
  · omega
  · rw [nput_len]
    have := ndel_len M.now s
    omega
theorem append_now (M : Med) (s : ByteArray) (b : Bs) : (M.append s b).1.now = M.now := by
  have e3 := M.step_same.2.2.1
  unfold Med.append
  split; · rfl
  split; · rfl
  split; · rfl
  split; · exact e3
  exact e3
theorem TwoM.create (h : TwoM i M D) (s : ByteArray) : (D.create s).2 = (M.create s).2 ∧ TwoM (i + 1) (M.create s).1 (D.create s).1 := by
  obtain ⟨φ, V, sd⟩ := h.side
  obtain ⟨h1, h2⟩ := sd.create h.ok s
  exact ⟨h1.symm, (h.ok.create s).mono (by omega), (h.fit.create s).mono (by omega), h2, h.quiet.create s, (h.cap.create s).mono (by omega), by have := create_now M s; have := h.now; omega⟩
theorem TwoM.append (h : TwoM i M D) (s : ByteArray) (b : Bs) (hb : b.length ≤ 2000) : (D.append s b).2 = (M.append s b).2 ∧ TwoM (i + 1) (M.append s b).1 (D.append s b).1 := by
  obtain ⟨φ, V, sd⟩ := h.side
  obtain ⟨h1, h2⟩ := sd.append h.ok s b
  exact ⟨h1.symm, (h.ok.append s b).mono (by omega), (h.fit.append s b).mono (by omega), h2, h.quiet.append s b, (h.cap.append h.ok s b).mono (by omega), by rw [append_now]; have := h.now; omega⟩
theorem fresh_now (M : Med) (limit : Int) : (Seg.fresh M limit).l.length ≤ M.now.length := by
  refine Nat.le_trans (found_len M M.list) ?_
  unfold Med.list
  split
  · exact Nat.zero_le _
  · rw [List.length_map]; exact Nat.le_refl _
theorem TwoM.open (h : TwoM i M D) (limit : Int) (h1 : 128 ≤ limit) (h2 : limit ≤ 1048576) :
    Two i (Seg.fresh M limit) M D ∧ Seg.fresh D limit = Seg.fresh M limit ∧ alive M = 0 ∧ D.off = false ∧ (Seg.fresh M limit).l.length ≤ i := by
  obtain ⟨φ, V, sd⟩ := h.side
  refine ⟨⟨fresh_ok h.ok limit h1 h2, h.ok, h.fit, h.side, ?_⟩, side_fresh sd h.ok limit, alive_yes h.ok h.quiet.off, by rw [sd.off]; exact h.quiet.off, Nat.le_trans (fresh_now M limit) h.now⟩
  show (0 : Int) ≤ i
  omega
end
section
variable {i n c K : Nat} {L : Log} {M D : Med}
theorem rows_size (h : M.Cap c) (ok : M.Ok K) (ns : List Int) : ∀ r ∈ Rep.rowsOf (fun s => L.bytes M s) ns, r.2.size ≤ c := fun r hr => by
  refine Rep.rowsOf_size (fun s _ => ?_) hr
  unfold Log.bytes
  split
  · exact Nat.zero_le _
  · exact h.all ok _
end
end Go.Seg
namespace Go.Proofs.YtmjldaedhmipkaaGreatDoor
open Go Go.Sl Go.Med Go.MapKept Go.RowKit
section
variable {P : Program} {ops : Array Oper} {a : Act} {dst : Option Tmp} {t ty : TypeId} {pos : String} {after : Array Edge} {x y : Operand} {v v1 v2 : Value} {i1 i2 : Nat}
end
section
variable {w0 w : World} {F : List HProp} {p B : Nat} {m : Frm.Bs → Option (Seg.Plc)}
end
abbrev rstPt (ps : Nat) (last : Int) (iv uv tv : Value) : HProp := pt ps (.cells #[.int .i64 last, iv, uv, tv] 207 (0,0))
section
variable {w0 w : World} {F : List HProp} {rv iv uv tv : Value}
end
end Go.Proofs.YtmjldaedhmipkaaGreatDoor
