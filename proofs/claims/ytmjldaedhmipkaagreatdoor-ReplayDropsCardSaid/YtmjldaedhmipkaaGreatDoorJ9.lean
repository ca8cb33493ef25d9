import Derived.Test.YtmjldaedhmipkaaGreatDoorJ8
import Derived.Test.YtmjldaedhmipkaaGreatDoorRows
import Derived.Test.YtmjldaedhmipkaaGreatDoorCards
import Derived.Test.YtmjldaedhmipkaaGreatDoorTie
import Derived.ProofKit
import Derived.LaidMore
import Derived.OpenShut
import Derived.ShutString
import Derived.SevenTiedAt
set_option linter.unusedVariables false
namespace Go.Proofs.YtmjldaedhmipkaaGreatDoor
open Go Go.Sl Go.Med Go.MapKept Go.RowKit
section
variable {P : Program} {ops : Array Oper} {a : Act} {dst : Option Tmp} {t ty : TypeId} {pos : String} {after : Array Edge} {x y : Operand} {v vx vy : Value} {g : Option (Nat × Bool)}
end
section
variable {w0 w : World} {F R : List HProp} {v bv dv x lv : Value}
end
section
variable {w0 w : World} {F : List HProp} {q d K : Nat} {L : Seg.Log} {D : Med} {bt : Rep.Told}
end
end Go.Proofs.YtmjldaedhmipkaaGreatDoor
namespace Go.Rep
end Go.Rep
namespace Go.Proofs.YtmjldaedhmipkaaGreatDoor
open Go Go.Sl Go.Med Go.MapKept Go.RowKit
def RRunOut (w0 : World) (F : List HProp) (bt : Rep.Told) (ns : List Int) (q d : Nat) (L : Seg.Log) (D : Med) (v : Value) (w' : World) : Prop :=
  match Rep.run bt ns with
  | .inl (fl, e) => v = .tuple #[.pointer none, .agg (fltA fl), errno e] ∧ Sat w0 w' (RLogRep q d L :: DskRep d D :: F)
  | .inr n => ∃ (ps : Nat) (iv uv tv : Value), v = .tuple #[ptr ps, .agg (fltA Rep.Flt.zero), errno 0] ∧
      Sat w0 w' (rstPt ps (Rep.lastOfL (ns.take n)) iv uv tv :: osl 117 35 iv ((Rep.idx (Rep.rowsOf bt (ns.take n)) (Rep.rowsOf bt (ns.take n)).length).flatMap kvL) ::
        osl 115 3 uv ((Rep.uAt (Rep.rowsOf bt (ns.take n)) (Rep.usesOf bt (ns.take n)) (Rep.rowsOf bt (ns.take n)).length).flatMap uenc) :: osl 3 1 tv (ints (ns.drop n)) :: RLogRep q d L :: DskRep d D :: F)
section
variable {w0 w : World} {F : List HProp} {q d K : Nat} {L : Seg.Log} {D : Med} {bt : Rep.Told}
end
section
variable {w0 w : World} {F : List HProp}
set_option maxRecDepth 20000 in
set_option maxHeartbeats 8000000 in
theorem lives15_c (hH : Ro w0 F Half) (h : Sat w0 w F) :
    Calls Tryz.prog 42 #[] w (Rtn fun v w' => v = .bool true ∧ Sat w0 w' F) := by
  have hnew : Calls Tryz.prog 13 #[.int .i64 1000] w (Rtn fun v w' => ∃ m, v = .tuple #[ptr m, errno 0] ∧ Sat w0 w' (MedRep m (Med.new 1000) :: F)) := new_yes 1000 (by decide) h
  have HH := Lib.hid hH
  clear hH
  go_enter Tryz.func42, Tryz.ntmps42
  go_wp2_with fail
  refine hnew.mono ?_
  rintro e w1 ⟨v, rfl, m, rfl, hS⟩
  clear hnew
  have hop := open_c (K := 20) (Med.Ok.new 20 1000 (by decide)) 200 hS live_alive (by decide) (by decide)
  have hok := Seg.fresh_ok (Med.Ok.new 20 1000 (by decide)) 200 (by decide) (by decide)
  rw [show Seg.fresh (Med.new 1000) 200 = ⟨200, [], false, 0⟩ from live_fresh] at hop hok
  go_wp2_with fail
  refine hop.mono ?_
  rintro e w2 ⟨v, rfl, p, rfl, hS2⟩
  clear hop
  have hrn := run_c hok (Med.Ok.new 20 1000 (by decide)) HH.out (by show 0 ≤ 12000000; decide) (fun r hr => by cases hr) hS2
  go_wp2_with fail
  refine hrn.mono ?_
  rintro e w3 ⟨v, rfl, ho⟩
  clear hrn
  unfold RunOut at ho
  rw [show Rep.run (lbt ⟨200, [], false, 0⟩ (Med.new 1000)) (Seg.Log.segs ⟨200, [], false, 0⟩) = .inr 0 from rfl] at ho
  obtain ⟨ps, pi, uv, tv, av, kv, rfl, _, _, hS3⟩ := ho
  have hS4 : Sat w0 w3 (stPt ps (-1) pi uv tv :: F) := hS3.sb
  clear hS3 hS2 hS
  go_wp2_with (with_reducible apply at_alloc)
  refine ⟨?_⟩
  refine wl_alloc zFlt hS4 rfl ?_
  intro b6 w6 h6
  go_wp2_with (first
    | ((with_reducible apply at_store); refine ⟨?_⟩; refine wl_storeA (fltA Rep.Flt.zero) h6 (by rfl) (by rfl) (by rfl) upd0 (by kernel_rfl) (by rfl) ?_; intro w7 h7)
    | (with_reducible apply at_loadG))
  refine ⟨?_⟩
  refine wl_loadG1 (by rfl) h7 (by rfl) (pick_there pick0) (by show 0 + 1 ≤ 4; decide) (by rfl) (by kernel_rfl) ?_
  go_wp2_with (with_reducible apply at_loadG)
  refine ⟨?_⟩
  refine wl_loadG1 (by rfl) h7 (by rfl) (pick_there pick0) (by show 1 + 1 ≤ 4; decide) (by rfl) (by kernel_rfl) ?_
  go_wp2_with fail
  go_ret
  exact ⟨_, rfl, rfl, h7.drop.drop⟩
end
structure BO (v : Value) (l : Bs) (b o cap : Nat) (cs : Array Value) : Prop where
  eq : v = .slice (some ⟨b, o, none⟩) l.length cap
  le : l.length ≤ cap
  max : cap ≤ 9223372036854775807
  fit : o + cap ≤ cs.size
  rd : ∀ j y, (bys l)[j]? = some y → cs[o + j]? = some y
section
variable {w0 w : World} {R : List HProp} {v x : Value} {l k : Bs} {b o cap : Nat} {cs : Array Value}
theorem BO.ofB (h : Sat w0 w (bsl v l :: R)) (hl : 0 < l.length) : ∃ b cap cs, BO v l b 0 cap cs ∧ Sat w0 w (pt b (.cells cs 5 (0,0)) :: R) := by
  rcases Sat.osl_cases h with ⟨_, hx, _⟩ | ⟨b, n, cap, cs, hv, h1, h2, h3, h4, h5, h6⟩
  · have := congrArg List.length hx
    rw [bys_len] at this
    simp only [List.length_nil] at this
    omega
  · rw [bys_len, Nat.mul_one] at h1
    subst h1
    refine ⟨b, cap, cs, ⟨hv, h2, h4, by omega, fun j y hj => ?_⟩, h6⟩
    rw [Nat.zero_add]
    exact take_get h5 hj
theorem BO.rdsl (h : BO v l b o cap cs) (hS : Sat w0 w (pt b (.cells cs 5 (0,0)) :: R)) : rdsl 1 v (bys l) w :=
  ⟨_, _, _, h.eq, by rw [bys_len, Nat.mul_one], fun j y hj => ⟨_, rfl, by
    have hadd : (⟨b, o, none⟩ : Addr).add j = ⟨b, o + j, none⟩ := by unfold Addr.add; split <;> simp_all
    rw [hadd]; exact hS.cellAt (o + j) y (h.rd j y hj)⟩⟩
theorem BO.drop4 (h : BO v l b 0 cap cs) (hl : 4 ≤ l.length) : BO (.slice (some ⟨b, 4, none⟩) (l.length - 4) (cap - 4)) (l.drop 4) b 4 (cap - 4) cs := by
  have := h.le; have := h.max; have := h.fit
  refine ⟨by rw [List.length_drop], by rw [List.length_drop]; omega, by omega, by omega, fun j y hj => ?_⟩
  have := h.rd (4 + j) y (by
    unfold bys at hj ⊢
    rw [List.map_drop, List.getElem?_drop] at hj; exact hj)
  rwa [Nat.zero_add] at this
set_option maxRecDepth 20000 in
theorem run_appO (h : BO v l b o cap cs) (hS : Sat w0 w (pt b (.cells cs 5 (0,0)) :: R)) (hx : rdsl 1 x (bys k) w) (hl : l.length + k.length ≤ 1099511627776) :
    ∃ v' w' b' o' cap' cs', (Builtin.append_ #[42, 42] 42 #[v, x]).run Tryz.prog w = .ok v' w' ∧ BO v' (l ++ k) b' o' cap' cs' ∧ Sat w0 w' (pt b' (.cells cs' 5 (0,0)) :: R) := by
  obtain ⟨i, hi, hz0, hz1, hz2⟩ := info8p
  have ht := Tryz.underlying42
  obtain ⟨xa, m, c, rfl, hyl, hyc⟩ := hx
  rw [bys_len, Nat.mul_one] at hyl
  subst hyl
  have hv := h.eq
  by_cases hm0 : k = []
  · subst hm0
    refine ⟨v, w, b, o, cap, cs, ?_, by rw [List.append_nil]; exact h, hS⟩
    rw [hv]
    cases xa <;> simp [Builtin.append_, run_underlying ht, sizeOf, typeInfo, hi, Builtin.lenOf, Builtin.firstCells, loadCells, loadCellsFrom, h.le, storeCells]
  obtain ⟨ad, rfl⟩ : ∃ ad, xa = some ad := by
    obtain ⟨y, hy⟩ : ∃ y, (bys k)[0]? = some y := by
      cases k with
      | nil => exact absurd rfl hm0
      | cons y _ => exact ⟨_, rfl⟩
    obtain ⟨b', hb, _⟩ := hyc 0 y hy
    exact ⟨b', hb⟩
  have hnews : ∀ j u, (bys k)[j]? = some u → w.cell? (ad.add j) = some u := fun j u hj => by
    obtain ⟨b', hb, hx⟩ := hyc j u hj
    cases hb; exact hx
  have hkl : (bys k).length = k.length * i.size := by rw [bys_len, hz1, Nat.mul_one]
  by_cases hroom : l.length + k.length ≤ cap
  · have hfit := h.fit
    have hr := run_append_room_cells (P := Tryz.prog) (w := w) 42 42 5 i ht hi b o l.length cap ad k.length c (bys k) hkl hnews (fun u hu => bys_one _ u hu) hroom (fun j hj => by
        rw [bys_len] at hj
        rw [hz1, Nat.mul_one, hS.cellAt (o + l.length + j) _ (Array.getElem?_eq_getElem (show o + l.length + j < cs.size by omega))]; rfl) (fun j hj => hS.freeAt _)
    rw [← hv, hz1, Nat.mul_one] at hr
    refine ⟨_, _, b, o, cap, putsAt cs (o + l.length) (bys k), hr, ⟨by rw [List.length_append], by rw [List.length_append]; exact hroom, h.max, by rw [putsAt_size]; exact hfit, fun j y hj => ?_⟩, Sat.sets (bys k) (o + l.length) hS⟩
    have hcl : cs.toList.length = cs.size := Array.length_toList
    have hin : (o + l.length) + (bys k).length ≤ cs.size := by rw [bys_len]; omega
    rw [← Array.getElem?_toList, putsAt_list _ _ _ hin]
    have htl : (cs.toList.take (o + l.length)).length = o + l.length := by rw [List.length_take, hcl]; omega
    by_cases hj2 : j < l.length
    · rw [List.append_assoc, List.getElem?_append_left (by omega), List.getElem?_take, if_pos (by omega), Array.getElem?_toList]
      refine h.rd j y ?_
      unfold bys at hj ⊢
      rw [List.map_append, List.getElem?_append_left (by rw [List.length_map]; exact hj2)] at hj
      exact hj
    · have hj3 := (List.getElem?_eq_some_iff.1 hj).1
      rw [bys_len, List.length_append] at hj3
      rw [List.append_assoc, List.getElem?_append_right (by omega), htl, List.getElem?_append_left (by rw [bys_len]; omega)]
      unfold bys at hj ⊢
      rw [List.map_append, List.getElem?_append_right (by rw [List.length_map]; omega), List.length_map] at hj
      rw [← hj]; congr 1; omega
  · have holds : ∀ j u, (bys l)[j]? = some u → w.cell? ((⟨b, o, none⟩ : Addr).add j) = some u := fun j u hj => by
      have hadd : (⟨b, o, none⟩ : Addr).add j = ⟨b, o + j, none⟩ := by unfold Addr.add; split <;> simp_all
      rw [hadd]; exact hS.cellAt (o + j) u (h.rd j u hj)
    have hz : i.zero = some (.int .u8 0) := hz0
    have hmx : maxLen = 9223372036854775807 := rfl
    have hr := run_append_grow (P := Tryz.prog) w 42 42 5 i _ ht hi hz ⟨b, o, none⟩ l.length cap (bys l) (by rw [bys_len, hz1, Nat.mul_one]) holds ad k.length c (bys k) hkl hnews (by omega) (by omega) (growslice_fits (by omega) (by rw [hz2]; omega))
    rw [← hv] at hr
    have hge := grownCap_ge w (l.length + k.length) cap 5
    have hcm := grownCap_le_maxLen w (l.length + k.length) cap 5 (by omega)
    have hA := (hS.drop.drew).alloc (.cells ((bys l).toArray ++ (bys k).toArray ++ Builtin.zeroCells (Value.int .u8 0).cells (grownCap w (l.length + k.length) cap 5 - (l.length + k.length))) 5)
    refine ⟨_, _, _, 0, _, _, hr, ⟨by rw [List.length_append]; rfl, by rw [List.length_append]; exact hge, hcm, ?_, fun j y hj => ?_⟩, hA⟩
    · simp only [Array.size_append, List.size_toArray, size_zeroCells, bys_len]
      have : (Value.int IntKind.u8 0).cells.size = 1 := rfl
      rw [this]; omega
    · rw [Nat.zero_add, ← Array.getElem?_toList]
      simp only [Array.toList_append]
      have e : bys (l ++ k) = bys l ++ bys k := by unfold bys; rw [List.map_append]
      rw [e] at hj
      rw [List.getElem?_append_left (List.getElem?_eq_some_iff.1 hj).1]; exact hj
theorem wl_appO {ops : Array Oper} {rest : List Oper} {a : Act} {Q : Exit → Act → World → Prop} {dst : Option Tmp} {pos : String} {after : Array Edge} {s y : Operand} (h : BO v l b o cap cs) (hS : Sat w0 w (pt b (.cells cs 5 (0,0)) :: R)) (hv : a.eval s = v) (hy : a.eval y = x) (hx : rdsl 1 x (bys k) w) (hl : l.length + k.length ≤ 1099511627776)
    (hK : ∀ v' b' o' cap' cs' w', BO v' (l ++ k) b' o' cap' cs' → Sat w0 w' (pt b' (.cells cs' 5 (0,0)) :: R) → wpList Tryz.prog ops Q rest (a.put dst v') w') :
    wpList Tryz.prog ops Q (⟨dst, .call { callee := .builtin .append, args := #[s, y], argTypes := #[42, 42] }, 42, pos, after, none⟩ :: rest) a w :=
  wpList_plain rfl fun _ hK' => by
    obtain ⟨v', w', b', o', cap', cs', hr, h2, h3⟩ := run_appO h hS hx hl
    unfold Oper.wp execOp
    simp only [resolve, invoke, builtin, Sem.run_bind, Sem.run_pure, Result.andThen_ok, List.map_toArray, List.map_cons, List.map_nil, hv, hy, hr]
    exact hK' _ _ (hK v' b' o' cap' cs' w' h2 h3)
theorem BO.set (h : BO v l b o cap cs) {i : Nat} (hi : i < l.length) (z : UInt8) : BO v (l.set i z) b o cap (cs.setIfInBounds (o + i) (.int .u8 z.toNat)) := by
  refine ⟨by rw [List.length_set]; exact h.eq, by rw [List.length_set]; exact h.le, h.max, by rw [Array.size_setIfInBounds]; exact h.fit, fun j y hj => ?_⟩
  have hfit := h.fit; have hle := h.le
  have e : bys (l.set i z) = (bys l).set i (.int .u8 z.toNat) := by unfold bys; rw [List.map_set]
  rw [e] at hj
  rw [← Array.getElem?_toList, Array.toList_setIfInBounds]
  by_cases hij : i = j
  · subst hij
    rw [List.getElem?_set_self (by rw [bys_len]; exact hi)] at hj
    rw [List.getElem?_set_self (by rw [Array.length_toList]; omega)]; exact hj
  · rw [List.getElem?_set_ne hij] at hj
    rw [List.getElem?_set_ne (by omega), Array.getElem?_toList]; exact h.rd j y hj
end
theorem enc_le {x : Frm.Ent} (h0 : (Frm.encode x).2 = 0) (hk : x.key.length = 32) : (Frm.encode x).1.length ≤ 41 + x.data.length := by
  rw [Seg.size_enc h0 hk]
  unfold Frm.size
  split
  · omega
  · split <;> omega
section
variable {w0 w : World} {F : List HProp} {lv : Value}
theorem ent_row {es : List (Frm.Ent × Value)} (hk : ∀ p ∈ es, p.1.key.length = 32) (h : rdsl 34 lv (entsL es) w) {i : Nat} {p : Frm.Ent × Value} (hi : es[i]? = some p) :
    ∃ bk off c, lv = .slice (some ⟨bk, off, none⟩) es.length c ∧ w.rangeAt bk (off + i * 34) (entL p.1 p.2) :=
  osl_row (f := fun p : Frm.Ent × Value => entL p.1 p.2) (fun p hp => entL_len p.1 p.2 (hk p hp)) h hi (by decide)
set_option maxRecDepth 20000 in
set_option maxHeartbeats 8000000 in
theorem rseg_c (es : List (Frm.Ent × Value)) (hn : es.length ≤ 1000) (hr : Ro w0 F (rdsl 34 lv (entsL es))) (he : ∀ p ∈ es, EntRo w0 F p) (hd : ∀ p ∈ es, p.1.data.length ≤ 100) (h : Sat w0 w F) :
    Calls Tryz.prog 105 #[lv] w (Rtn fun v w' => ∃ (bv gv : Value) (lb : Bs), v = .tuple #[bv, gv] ∧ 8 ≤ lb.length ∧ lb.length ≤ 8 + es.length * 141 ∧ Sat w0 w' (bsl bv lb :: F)) := by
  obtain ⟨la, lc, rfl⟩ := osl_rows (f := fun p : Frm.Ent × Value => entL p.1 p.2) (fun p hp => entL_len p.1 p.2 (he p hp).key) (hr w h) (by decide)
  have Hr := Lib.hid hr; have He := Lib.hid he; have Hd := Lib.hid hd; have Hn := Lib.hid hn
  clear hr he hd hn
  go_enter Tryz.func105, Tryz.ntmps105
  go_wp2_with fail
  refine (rmagic_c h).mono ?_
  rintro ee w1 ⟨v, rfl, mb, rfl, h1⟩
  clear h
  go_wp2_with fail
  go_loopg [4, 5, 6] es.length (fun g bq gq iq wr => ∃ (i : Nat) (lb : Bs) (gs : List Value), g = es.length - i ∧ i ≤ es.length ∧ iq = .int .i64 i ∧ 8 ≤ lb.length ∧ lb.length ≤ 8 + i * 141 ∧ gs.length ≤ 34 * i ∧
    Sat w0 wr (bsl bq lb :: osl 44 34 gq gs :: F))
  case atStart => exact ⟨0, [72, 79, 65, 82, 68, 83, 69, 71], [], rfl, Nat.zero_le _, rfl, by decide, by decide, Nat.zero_le _, (Sat.osl_nil.2 h1).sb⟩
  case round =>
    obtain ⟨i, lb, gs, rfl, hi, rfl, hb1, hb2, hg, hS⟩ := hrel
    clear h1
    have Hb := Lib.hid (And.intro hb1 (And.intro hb2 hg))
    clear hb1 hb2 hg
    by_cases hlt : i < es.length
    rotate_left
    · obtain rfl : i = es.length := by omega
      have c1 : ¬ (es.length : Int) < (es.length : Int) := by omega
      clear hlt hi
      go_wp2_with fail
      go_ret2
      exact ⟨_, rfl, _, ⟨_, rfl⟩, lb, Hb.out.1, Hb.out.2.1, hS.sb⟩
    have c1 : (i : Int) < (es.length : Int) := by omega
    have hwi : IntKind.i64.wrap ((i : Int) + 1) = (i : Int) + 1 := IntWalk.i64_in _ (by have := Hn.out; omega)
    obtain ⟨p, hp⟩ : ∃ p, es[i]? = some p := ⟨_, List.getElem?_eq_getElem hlt⟩
    have hpm := List.mem_of_getElem? hp
    have hpe := He.out p hpm
    have Hpd := Lib.hid (Hd.out p hpm)
    obtain ⟨bk, off, c', e0, hc⟩ := ent_row (fun p hp => (He.out p hp).key) (Hr.out _ hS.drop.drop) hp
    cases e0
    have HC := Lib.hid (fun (w' : World) (hw : Sat w0 w' F) => show w'.rangeAt bk (off + i * 34) (entL p.1 p.2) from by
      obtain ⟨bk', off', c'', e0, hc⟩ := ent_row (fun p hp => (He.out p hp).key) (Hr.out _ hw) hp
      cases e0
      exact hc)
    obtain ⟨e, dv⟩ := p
    obtain ⟨hkey, hrd, hcap⟩ := hpe
    obtain ⟨da, dn, dc, rfl, hdn, hdc⟩ := hcap
    obtain rfl : dn = e.data.length := by
      obtain ⟨a', n', c', he, hl, _⟩ := hrd _ hS.drop.drop
      cases he
      rw [bys_len, Nat.mul_one] at hl; exact hl.symm
    have Hkey := Lib.hid hkey; have Hrd := Lib.hid hrd; have Hlt := Lib.hid hlt
    clear hp hpm hkey hrd hlt hi
    dsimp only at Hpd HC hc
    go_wp2_with ((with_reducible apply at_load); refine ⟨?_⟩; refine wl_loadW (b := bk) (o := off + i * 34) (entL e (.slice da e.data.length dc)) (by rfl) hc Tryz.underlying44 rfl (by rw [entL_len e _ Hkey.out]; exact infoEntSize) ?_)
    refine (rencode_c e Hkey.out da dc (Ro.os Hrd.out) hS).mono ?_
    rintro ee w2 ⟨v, rfl, bv, rfl, ⟨ba, bn, bc, rfl⟩, h2⟩
    clear hS hc
    by_cases h0 : (Frm.encode e).2 = 0
    rotate_left
    · have hb : ((Frm.encode e).2 == 0) = false := by rw [beq_eq_false_iff_ne]; exact h0
      clear h0
      generalize (Frm.encode e).2 = er at *
      go_wp2_with fail
      go_roundg (es.length - (i + 1))
      case measure => have := Hlt.out; omega
      case rel => exact ⟨i + 1, lb, gs, rfl, Hlt.out, by first | rfl | go_num, Hb.out.1, by have := Hb.out.2.1; omega, by have := Hb.out.2.2; omega, h2.drop⟩
    have Hel := Lib.hid (enc_le h0 Hkey.out)
    rw [h0]
    clear h0
    generalize hE : (Frm.encode e).1 = E at *
    clear hE
    have hrE := Sat.rd h2
    have h3 : Sat w0 w2 (bsl u4 lb :: osl 44 34 u5 gs :: F) := h2.drop
    clear h2
    go_wp2_with (with_reducible apply at_append)
    refine ⟨?_⟩
    refine wl_appB h3 (by rfl) (by rfl) hrE (by have := Hel.out; have := Hpd.out; have := Hb.out.2.1; have := Hlt.out; have := Hn.out; omega) ?_
    intro ba2 bn2 bc2 w4 h4
    clear hrE h3
    have hc := HC.out _ h4.drop.drop
    have hgl : gs.length ≤ 2147483648 := by have := Hb.out.2.2; have := Hlt.out; have := Hn.out; omega
    generalize hLL : lb ++ E = LL at *
    have HLL := Lib.hid (show LL.length = lb.length + E.length by rw [← hLL, List.length_append])
    clear hLL
    go_wp2_with (first
      | ((with_reducible apply at_load); refine ⟨?_⟩; refine wl_loadW (b := bk) (o := off + i * 34) (entL e (.slice da e.data.length dc)) (by rfl) hc Tryz.underlying44 rfl (by rw [entL_len e _ Hkey.out]; exact infoEntSize) ?_)
      | ((with_reducible apply at_buildE); refine ⟨?_⟩; refine wl_buildE h4 (by rfl) Hkey.out ?_; intro bN wN hN)
      | (with_reducible apply at_append))
    refine ⟨?_⟩
    refine wl_app 44 34 64 (by kernel_rfl) hN (by rfl) (by rfl) (pick_there (pick_there pick0)) pick0 (by rw [entA_size _ _ Hkey.out]) (Nat.le_refl 1) (entA_one _ _ _ _) hgl (by rw [entA_size _ _ Hkey.out]; decide) (by decide) rfl ?_
    intro bA nA cA wA hA
    clear hN h4 hc
    go_wp2_with fail
    go_roundg (es.length - (i + 1))
    case measure => have := Hlt.out; omega
    case rel => exact ⟨i + 1, LL, gs ++ (entA e (.slice da e.data.length dc)).toList, rfl, Hlt.out, by first | rfl | go_num, by have := HLL.out; have := Hb.out.1; omega, by have := HLL.out; have := Hel.out; have := Hpd.out; have := Hb.out.2.1; omega, by have h34 : (entA e (.slice da e.data.length dc)).toList.length = 34 := (Array.length_toList).trans (entA_size _ _ Hkey.out); rw [List.length_append, h34]; have := Hb.out.2.2; omega, hA.sb⟩
end
end Go.Proofs.YtmjldaedhmipkaaGreatDoor
namespace Go.Proofs.YtmjldaedhmipkaaGreatDoor
open Go Go.Sl Go.Med Go.ChangeShapes Go.WideShapes Go.RowKit
section
variable {H : Type} {enc : TypeId × Value → H} {W : World} {base : Nat} {spare : Nat → Bool} {held : Bool}
theorem open_key {t : TypeId} {fuel : Nat} {cs : List Value} {x : DataW H × List MemPlace} {k : Nat} (ht : Tryz.prog.underlying t = some (.array k 5)) (hk : Tryz.prog.cellsOf t = k) (h : DataW.trod enc Tryz.prog W base spare held fuel t cs = some x) :
    ∃ l : Bs, bys l = cs ∧ l.length = k := by
  obtain ⟨xs, m, _, _, hl, hxl, hf⟩ := DataW.trod_array ht h
  have e1 : Tryz.prog.cellsOf 5 = 1 := by kernel_rfl
  rw [hk] at hl
  have hz : ∀ i, i < k → ∃ z : Int, cs[i]? = some (.int .u8 z) ∧ (Lit.int .u8 z).wf = true := by
    intro i hi
    have h0 := hf i hi
    rw [List.getElem?_eq_getElem (by omega), e1, Nat.mul_one] at h0
    obtain ⟨z, q1, _, q3⟩ := DataW.trod_int Tryz.underlying5 h0
    refine ⟨z, ?_, q3⟩
    have : ((cs.drop i).take 1)[0]? = some (.int .u8 z) := by rw [q1]; rfl
    rw [List.getElem?_take, if_pos (by decide), List.getElem?_drop] at this
    exact this
  obtain ⟨zs, z1, z2⟩ := list_of_fun hz
  have hcs : cs = zs.map (.int .u8) := by
    apply List.ext_getElem? 
    intro i
    rw [List.getElem?_map]
    by_cases hi : i < k
    · have := (z2 i _ (List.getElem?_eq_getElem (by omega))).1
      rw [this, List.getElem?_eq_getElem (show i < zs.length by omega)]; rfl
    · rw [List.getElem?_eq_none (by omega), List.getElem?_eq_none (by omega)]; rfl
  refine ⟨toBs zs, ?_, by unfold toBs; rw [List.length_map]; exact z1⟩
  rw [bys_toBs, hcs]
  intro z hz
  obtain ⟨i, hi, rfl⟩ := List.getElem_of_mem hz
  exact (z2 i _ (List.getElem?_eq_getElem hi)).2
structure EntAt (W : World) (p : Frm.Ent × Value) : Prop where
  key : p.1.key.length = 32
  tag : inI p.1.tag
  rd : rdsl 1 p.2 (bys p.1.data) W
  cap : capOk p.2
set_option maxRecDepth 100000 in
theorem open_ent {fuel : Nat} {cs : List Value} {x : DataW H × List MemPlace} (h : DataW.trod enc Tryz.prog W base spare held fuel 44 cs = some x) : ∃ p : Frm.Ent × Value, entL p.1 p.2 = cs ∧ EntAt W p := by
  obtain ⟨hl, hf⟩ := open_fields Tryz.underlying44 h
  have e34 : Tryz.prog.cellsOf 44 = 34 := by kernel_rfl
  have e1 : Tryz.prog.cellsOf 3 = 1 := by kernel_rfl
  have e2 : Tryz.prog.cellsOf 41 = 32 := by kernel_rfl
  have e3 : Tryz.prog.cellsOf 42 = 1 := by kernel_rfl
  have e5 : Tryz.prog.cellsOf 5 = 1 := by kernel_rfl
  rw [e34] at hl
  obtain ⟨n0, y0, h0⟩ := hf 0 _ rfl
  obtain ⟨n1, y1, h1⟩ := hf 1 _ rfl
  obtain ⟨n2, y2, h2⟩ := hf 2 _ rfl
  simp only [List.getElem_toArray, List.getElem_cons_zero, List.getElem_cons_succ, e1, e2, e3, List.drop_zero] at h0 h1 h2
  obtain ⟨z0, q0, _, w0⟩ := DataW.trod_int Tryz.underlying3 h0
  obtain ⟨kl, k1, k2⟩ := open_key Tryz.underlying41 e2 h1
  have hd : ∃ v, (cs.drop 33).take 1 = [v] := by
    have : ((cs.drop 33).take 1).length = 1 := by rw [List.length_take, List.length_drop]; omega
    exact List.length_eq_one_iff.1 this
  obtain ⟨dv, hdv⟩ := hd
  rw [hdv] at h2
  obtain ⟨l5, r5, c5⟩ := in_bys Tryz.underlying42 Tryz.underlying5 e5 h2
  refine ⟨(⟨z0, kl, l5⟩, dv), ?_, k2, bounds_i64 w0, r5, c5⟩
  show Value.int .i64 z0 :: (bys kl ++ [dv]) = cs
  have s1 : cs = cs.take 1 ++ ((cs.drop 1).take 32 ++ (cs.drop 33).take 1) := by
    have a1 : cs = cs.take 1 ++ cs.drop 1 := (List.take_append_drop 1 cs).symm
    have a2 : cs.drop 1 = (cs.drop 1).take 32 ++ (cs.drop 1).drop 32 := (List.take_append_drop 32 _).symm
    have a3 : (cs.drop 1).drop 32 = (cs.drop 33).take 1 := by rw [List.drop_drop, List.take_of_length_le (by rw [List.length_drop]; omega)]
    rw [a3] at a2
    rw [← a2]; exact a1
  rw [s1, q0, ← k1, hdv]; rfl
theorem EntAt.ro {p : Frm.Ent × Value} (h : EntAt W p) : EntRo W [Sl.old W] p := ⟨h.key, rd_old h.rd, h.cap⟩
end
end Go.Proofs.YtmjldaedhmipkaaGreatDoor
namespace Go.Proofs.YtmjldaedhmipkaaGreatDoor
open Go Go.Sl Go.Med Go.ChangeShapes Go.WideShapes Go.RowKit
structure PC where
  n : Int
  es : List (Frm.Ent × Value)
  ev : Value
  rest : Bs
  rv : Value
  bad : Bool
  at_ : Int
  plain : Bool
def pcL (d : PC) : List Value := [.int .i64 d.n, d.ev, d.rv, .bool d.bad, .int .i64 d.at_, .bool d.plain]
structure PC.At (W : World) (d : PC) : Prop where
  n : inI d.n
  rd : rdsl 34 d.ev (entsL d.es) W
  cap : capOk d.ev
  ents : ∀ p ∈ d.es, EntAt W p
  rr : rdsl 1 d.rv (bys d.rest) W
  rc : capOk d.rv
  at_ : inI d.at_
structure PCRo (w0 : World) (F : List HProp) (d : PC) : Prop where
  rd : Ro w0 F (rdsl 34 d.ev (entsL d.es))
  cap : capOk d.ev
  ents : ∀ p ∈ d.es, EntRo w0 F p
  rr : Ro w0 F (rdsl 1 d.rv (bys d.rest))
  rc : capOk d.rv
theorem PC.At.ro {W : World} {d : PC} (h : d.At W) : PCRo W [Sl.old W] d := ⟨rd_old h.rd, h.cap, fun p hp => (h.ents p hp).ro, rd_old h.rr, h.rc⟩
section
variable {H : Type} {enc : TypeId × Value → H} {W : World} {base : Nat} {spare : Nat → Bool} {held : Bool}
theorem in_ents {fuel : Nat} {v : Value} {x : DataW H × List MemPlace} (h : DataW.trod enc Tryz.prog W base spare held fuel 125 [v] = some x) :
    ∃ es : List (Frm.Ent × Value), rdsl 34 v (entsL es) W ∧ capOk v ∧ ∀ p ∈ es, EntAt W p := by
  obtain ⟨elems, h1, h2, h3⟩ := open_sl Tryz.underlying125 (k := 34) (by kernel_rfl) (by omega) h
  obtain ⟨ds, h4, h5⟩ := map_of (f := fun p : Frm.Ent × Value => entL p.1 p.2) (p := fun d => EntAt W d) elems fun cs hcs => by
    obtain ⟨_, n, y, h6⟩ := h3 cs hcs
    exact open_ent h6
  refine ⟨ds, ?_, h2, h5⟩
  unfold entsL
  rw [List.flatMap_def, h4]
  exact h1
set_option maxRecDepth 100000 in
theorem open_pc {fuel : Nat} {cs : List Value} {x : DataW H × List MemPlace} (h : DataW.trod enc Tryz.prog W base spare held fuel 185 cs = some x) : ∃ d : PC, pcL d = cs ∧ d.At W := by
  obtain ⟨hl, hf⟩ := open_fields Tryz.underlying185 h
  have e6 : Tryz.prog.cellsOf 185 = 6 := by kernel_rfl
  have e1 : Tryz.prog.cellsOf 3 = 1 := by kernel_rfl
  have e2 : Tryz.prog.cellsOf 125 = 1 := by kernel_rfl
  have e3 : Tryz.prog.cellsOf 42 = 1 := by kernel_rfl
  have e4 : Tryz.prog.cellsOf 4 = 1 := by kernel_rfl
  have e5 : Tryz.prog.cellsOf 5 = 1 := by kernel_rfl
  rw [e6] at hl
  match cs, hl with
  | [v0, v1, v2, v3, v4, v5], _ =>
    obtain ⟨n0, y0, h0⟩ := hf 0 _ rfl
    obtain ⟨n1, y1, h1⟩ := hf 1 _ rfl
    obtain ⟨n2, y2, h2⟩ := hf 2 _ rfl
    obtain ⟨n3, y3, h3⟩ := hf 3 _ rfl
    obtain ⟨n4, y4, h4⟩ := hf 4 _ rfl
    obtain ⟨n5, y5, h5⟩ := hf 5 _ rfl
    simp only [List.getElem_toArray, List.getElem_cons_zero, List.getElem_cons_succ, e1, e2, e3, e4, List.drop_zero, List.drop_succ_cons, List.take_succ_cons, List.take_zero] at h0 h1 h2 h3 h4 h5
    obtain ⟨z0, q0, _, w0⟩ := DataW.trod_int Tryz.underlying3 h0
    obtain ⟨l1, r1, c1, i1⟩ := in_ents h1
    obtain ⟨l2, r2, c2⟩ := in_bys Tryz.underlying42 Tryz.underlying5 e5 h2
    obtain ⟨b3, q3, _⟩ := DataW.trod_bool Tryz.underlying4 h3
    obtain ⟨z4, q4, _, w4⟩ := DataW.trod_int Tryz.underlying3 h4
    obtain ⟨b5, q5, _⟩ := DataW.trod_bool Tryz.underlying4 h5
    simp only [List.cons.injEq, and_true] at q0 q3 q4 q5
    subst q0; subst q3; subst q4; subst q5
    exact ⟨⟨z0, l1, v1, l2, v2, b3, z4, b5⟩, rfl, bounds_i64 w0, r1, c1, i1, r2, c2, bounds_i64 w4⟩
theorem in_pcs {fuel : Nat} {v : Value} {x : DataW H × List MemPlace} (h : DataW.trod enc Tryz.prog W base spare held fuel 70 [v] = some x) :
    ∃ ds : List PC, rdsl 6 v (ds.flatMap pcL) W ∧ capOk v ∧ ∀ d ∈ ds, d.At W := by
  obtain ⟨elems, h1, h2, h3⟩ := open_sl Tryz.underlying70 (k := 6) (by kernel_rfl) (by omega) h
  obtain ⟨ds, h4, h5⟩ := map_of (f := pcL) (p := fun d => d.At W) elems fun cs hcs => by
    obtain ⟨_, n, y, h6⟩ := h3 cs hcs
    exact open_pc h6
  refine ⟨ds, ?_, h2, h5⟩
  rw [List.flatMap_def, h4]
  exact h1
end
end Go.Proofs.YtmjldaedhmipkaaGreatDoor
namespace Go.Proofs.YtmjldaedhmipkaaGreatDoor
open Go Go.Sl Go.Med Go.MapKept Go.RowKit
section
variable {w0 w : World} {F R : List HProp} {lv : Value}
theorem dataS_at : ∀ (fs : List (Frm.Ent × Value)) (i : Nat) (p : Frm.Ent × Value), fs[i]? = some p → ∃ G, dataS fs = star (bsl p.2 p.1.data) G
  | [], _, _, h => by cases h
  | x :: fs, 0, p, h => by
    obtain rfl : x = p := by simpa using h
    exact ⟨_, rfl⟩
  | x :: fs, i + 1, p, h => by
    obtain ⟨G, hG⟩ := dataS_at fs i p (by simpa using h)
    refine ⟨star (bsl x.2 x.1.data) G, ?_⟩
    show star (bsl x.2 x.1.data) (dataS fs) = _
    rw [hG, star_left_comm]
theorem dataS_ent {fs : List (Frm.Ent × Value)} (hk : ∀ p ∈ fs, p.1.key.length = 32) (h : Sat w0 w (dataS fs :: R)) : ∀ p ∈ fs, EntRo w0 (dataS fs :: R) p := fun p hp => by
  obtain ⟨i, hi⟩ := List.getElem?_of_mem hp
  obtain ⟨G, hG⟩ := dataS_at fs i p hi
  refine ⟨hk p hp, fun w' hw => ?_, ?_⟩
  · rw [hG] at hw
    exact Sat.rd (Sat.star.1 hw)
  · rw [hG] at h
    exact (bsl_capL (Sat.star.1 h)).1
theorem pc_at {ds : List PC} {i : Nat} {d : PC} (h : rdsl 6 lv (ds.flatMap pcL) w) (hi : ds[i]? = some d) : ∃ bk off c, lv = .slice (some ⟨bk, off, none⟩) ds.length c ∧ ∀ j v, (pcL d)[j]? = some v → w.cell? ⟨bk, off + i * 6 + j, none⟩ = some v :=
  osl_row (f := pcL) (k := 6) (fun _ _ => rfl) h hi (by decide)
set_option maxRecDepth 20000 in
set_option maxHeartbeats 32000000 in
theorem laid_c (ds : List PC) (hr : Ro w0 F (rdsl 6 lv (ds.flatMap pcL))) (hd : ∀ d ∈ ds, PCRo w0 F d) (h : Sat w0 w F) :
    Calls Tryz.prog 36 #[lv] w (Rtn fun v w' => ∃ (m d : Nat) (M D : Med), v = .tuple #[ptr m, ptr d] ∧ Seg.TwoM 12 M D ∧ Sat w0 w' (MedRep m M :: DskRep d D :: F)) := by
  obtain ⟨la, lc, rfl⟩ := osl_rows (f := pcL) (k := 6) (fun _ _ => rfl) (hr w h) (by decide)
  have Hr := Lib.hid hr; have Hd := Lib.hid hd
  have hnew : Calls Tryz.prog 13 #[.int .i64 1048576] w (Rtn fun v w' => ∃ m, v = .tuple #[ptr m, errno 0] ∧ Sat w0 w' (MedRep m (Med.new 1048576) :: F)) := new_yes 1048576 (by decide) h
  clear hr hd h
  go_enter Tryz.func36, Tryz.ntmps36
  go_wp2_with fail
  refine hnew.mono ?_
  rintro ee w1 ⟨v, rfl, m, rfl, h1⟩
  clear hnew
  have hrnew : Calls Tryz.prog 14 #[.int .i64 1048576] w1 (Rtn fun v w' => ∃ d, v = .tuple #[ptr d, errno 0] ∧ Sat w0 w' (DskRep d (Med.new 1048576) :: MedRep m (Med.new 1048576) :: F)) := rnew_c 1048576 (by decide) h1
  go_wp2_with fail
  refine hrnew.mono ?_
  rintro ee w2 ⟨v, rfl, d, rfl, h2⟩
  clear hrnew h1
  have h3 : Sat w0 w2 (MedRep m (Med.new 1048576) :: DskRep d (Med.new 1048576) :: F) := h2.sb
  have T0 := Lib.hid (Seg.TwoM.first 1048576 (by decide))
  generalize Med.new 1048576 = M0 at *
  clear h2
  go_wp2_with fail
  go_loopg [8] ds.length (fun g iq wr => ∃ (i : Nat) (M D : Med), g = ds.length - i ∧ i ≤ ds.length ∧ i ≤ 6 ∧ iq = .int .i64 i ∧ Seg.TwoM (2 * i) M D ∧ Sat w0 wr (MedRep m M :: DskRep d D :: F))
  case atStart => exact ⟨0, M0, M0, rfl, Nat.zero_le _, Nat.zero_le _, rfl, T0.out, h3⟩
  case round =>
    obtain ⟨i, M, D, rfl, hi, hi6, rfl, hT, hS⟩ := hrel
    clear h3 T0
    have HT := Lib.hid hT
    clear hT
    by_cases hlt : i < ds.length
    rotate_left
    · have c1 : ¬ (i : Int) < (ds.length : Int) := by omega
      have HT2 := Lib.hid (HT.out.mono (show 2 * i ≤ 12 by omega))
      clear hlt hi hi6
      go_wp2_with fail
      go_ret2
      exact ⟨_, rfl, m, d, rfl, M, D, HT2.out, hS⟩
    have c1 : (i : Int) < (ds.length : Int) := by omega
    by_cases hl6 : i < 6
    rotate_left
    · have c2 : ¬ (i : Int) < 6 := by omega
      have HT2 := Lib.hid (HT.out.mono (show 2 * i ≤ 12 by omega))
      clear hlt hi hi6 hl6
      go_wp2_with fail
      go_ret2
      exact ⟨_, rfl, m, d, rfl, M, D, HT2.out, hS⟩
    have c2 : (i : Int) < 6 := by omega
    have hwi : IntKind.i64.wrap ((i : Int) + 1) = (i : Int) + 1 := IntWalk.i64_in _ (by omega)
    obtain ⟨p, hp⟩ : ∃ p, ds[i]? = some p := ⟨_, List.getElem?_eq_getElem hlt⟩
    have hpd := Hd.out p (List.mem_of_getElem? hp)
    obtain ⟨bk, off, c', e0, hc⟩ := pc_at (Hr.out _ hS.drop.drop) hp
    cases e0
    have HC := Lib.hid (fun (w' : World) (hw : Sat w0 w' F) => show ∀ j v, (pcL p)[j]? = some v → w'.cell? ⟨bk, off + i * 6 + j, none⟩ = some v from by
      obtain ⟨bk', off', c'', e0, hc⟩ := pc_at (Hr.out _ hw) hp
      cases e0
      exact hc)
    obtain ⟨pn, pes, ev, prest, rv, bad, pat, plain⟩ := p
    obtain ⟨hrd, ⟨ea, en, ec, rfl, hen⟩, hents, hrr, ⟨ra, rn, rc, rfl, hrn, hrc⟩⟩ := hpd
    dsimp only at hrd hents hrr HC
    obtain rfl : rn = prest.length := by
      obtain ⟨a', n', c', he, hl, _⟩ := hrr _ hS.drop.drop
      cases he
      rw [bys_len, Nat.mul_one] at hl; exact hl.symm
    have Hrd := Lib.hid hrd; have Hents := Lib.hid hents; have Hrr := Lib.hid hrr; have Hrn := Lib.hid (And.intro hrn hrc)
    have Hi := Lib.hid (And.intro hlt hl6)
    have f0 : World.cell? _ ⟨bk, off + i * 6, none⟩ = some (.int .i64 pn) := HC.out _ hS.drop.drop 0 _ rfl
    have f1 : World.cell? _ ⟨bk, off + i * 6 + 1, none⟩ = some (.slice ea en ec) := HC.out _ hS.drop.drop 1 _ rfl
    clear hp hc hrd hents hrr hrn hrc hen hlt hl6 hi hi6
    go_wp2_with fail
    refine (within_c pn 0 20 _).mono ?_
    rintro ee w4 ⟨v, rfl, rfl, rfl⟩
    generalize within pn 0 20 = z at *
    go_wp2_with fail
    refine (rname_c z _).mono ?_
    rintro ee w4 ⟨v, rfl, rfl, rfl⟩
    have Hns := Lib.hid (Seg.name_size z)
    have Hns2 := Lib.hid (show (Seg.name z).size ≤ 9223372036854775806 by
      unfold Seg.name
      split
      · decide
      · rename_i h
        have hl : (Seg.lead ++ Seg.digs z.toNat 8).length = 12 := by rw [List.length_append, Seg.digs_len]; rfl
        have : (⟨(Seg.lead ++ Seg.digs z.toNat 8).toArray⟩ : ByteArray).size = 12 := by show (Seg.lead ++ Seg.digs z.toNat 8).toArray.size = 12; simp [hl]
        rw [this]; decide)
    generalize Seg.name z = nm at *
    go_wp2_with fail
    refine (few_c pes 8 100 (by decide) (by decide) (Ro.os Hrd.out) (fun q hq => ⟨(Hents.out q hq).key, Ro.of_sub (Hents.out q hq).rd sbD, (Hents.out q hq).cap⟩) hS).mono ?_
    rintro ee w5 ⟨v, rfl, fs, hfs, h5⟩
    have hfk : ∀ q ∈ fs, q.1.key.length = 32 := few_keys (i := 8) hfs (fun q hq => (Hents.out q hq).key)
    have hfl : fs.length ≤ 8 := by
      have := congrArg List.length hfs
      unfold Frm.few at this
      rw [List.length_map, List.length_map, List.length_take] at this; omega
    have hfd : ∀ q ∈ fs, q.1.data.length ≤ 100 := fun q hq => by
      have h1 : q.1 ∈ fs.map (·.1) := List.mem_map.2 ⟨q, hq, rfl⟩
      rw [hfs] at h1
      unfold Frm.few at h1
      obtain ⟨x, _, e⟩ := List.mem_map.1 h1
      rw [← e]
      show (x.data.take 100).length ≤ 100
      rw [List.length_take]; exact Nat.min_le_left _ _
    have hen5 := dataS_ent hfk h5.drop
    have Hfl := Lib.hid hfl
    clear f0 f1 hS
    go_wp2_with fail
    refine (rseg_c fs (by omega) (fun w hw => Sat.rd hw) (fun q hq => ⟨hfk q hq, Ro.of_sub (hen5 q hq).rd sbD, (hen5 q hq).cap⟩) hfd h5).mono ?_
    rintro ee w6 ⟨v, rfl, bv, gv, lb, rfl, hb1, hb2, h6⟩
    have h7 : Sat w0 w6 (bsl bv lb :: MedRep m M :: DskRep d D :: F) := h6.sb
    clear h5 h6 hen5 hfd hfk hfs hfl
    obtain ⟨b, cap, cs, hB, h8⟩ := BO.ofB h7 (by omega)
    have Hlb := Lib.hid (show 8 ≤ lb.length ∧ lb.length ≤ 1136 by have := Hfl.out; omega)
    clear h7 hb1 hb2
    obtain rfl := hB.eq
    have f5 : World.cell? _ ⟨bk, off + i * 6 + 5, none⟩ = some (.bool plain) := HC.out _ h8.drop.drop.drop 5 _ rfl
    cases plain with
    | false =>
      have f2 : World.cell? _ ⟨bk, off + i * 6 + 2, none⟩ = some (.slice ra prest.length rc) := HC.out _ h8.drop.drop.drop 2 _ rfl
      have Hl2 := Lib.hid (show 1 ≤ lb.length ∧ lb.length ≤ 1136 from ⟨Nat.le_trans (by decide) Hlb.out.1, Hlb.out.2⟩)
      have HB := Lib.hid hB
      clear hB
      generalize lb = l2 at *
      try go_wp2_with fail
      clear f5
      refine (cut_c ra prest.length rc 30 Hrn.out.1 Hrn.out.2 _).mono ?_
      rintro ee w9 ⟨v, rfl, rfl, rfl⟩
      clear f2
      go_wp2_with (with_reducible apply at_append)
      refine ⟨?_⟩
      refine wl_appO HB.out h8 (by rfl) (by rfl) (rdsl_cut (k := 30) (Hrr.out _ h8.drop.drop.drop)) (by rw [List.length_take]; have := Hl2.out; omega) ?_
      intro v3 b3 o3 cap3 cs3 w10 hB3 h10
      clear h8 HB
      have Hl3 := Lib.hid (show 1 ≤ (l2 ++ prest.take 30).length ∧ (l2 ++ prest.take 30).length ≤ 1200 by rw [List.length_append, List.length_take]; have := Hl2.out; omega)
      generalize l2 ++ prest.take 30 = l3 at *
      obtain rfl := hB3.eq
      have f3 : World.cell? _ ⟨bk, off + i * 6 + 3, none⟩ = some (.bool bad) := HC.out _ h10.drop.drop.drop 3 _ rfl
      have f4 : World.cell? _ ⟨bk, off + i * 6 + 4, none⟩ = some (.int .i64 pat) := HC.out _ h10.drop.drop.drop 4 _ rfl
      have HB3 := Lib.hid hB3
      clear hB3
      cases bad with
      | false =>
        clear f4
        go_wp2_with fail
        have hT1 := HT.out.create nm
        refine (create_c HT.out.ok (by omega) (h10.sb : Sat w0 _ (MedRep m M :: pt b3 (.cells _ 5 (0,0)) :: DskRep d D :: F)) nm Hns.out).mono ?_
        rintro ee w20 ⟨v, rfl, rfl, h20⟩
        clear h10
        go_wp2_with fail
        refine (rcreate_c nm Hns2.out (Nat.le_trans HT.out.fit.now (by decide)) (by have := HT.out.fit.ok.budget; have := Hi.out; omega) (by have := HT.out.fit.files; have := Hi.out; omega) HT.out.fit.ok.left (h20.sb : Sat w0 w20 (DskRep d D :: pt b3 (.cells _ 5 (0,0)) :: MedRep m (M.create nm).1 :: F))).mono ?_
        rintro ee w21 ⟨v, rfl, rfl, h21⟩
        clear h20
        have HT1 := Lib.hid hT1.2
        clear hT1
        generalize (M.create nm).1 = M1 at *
        generalize (D.create nm).1 = D1 at *
        generalize (M.create nm).2 = ec1 at *
        generalize (D.create nm).2 = ec2 at *
        have hT2 := HT1.out.append nm l3 (by have := Hl3.out; omega)
        go_wp2_with fail
        refine (append_c HT1.out.ok (by omega) (h21.sb : Sat w0 w21 (MedRep m M1 :: pt b3 (.cells _ 5 (0,0)) :: DskRep d D1 :: F)) nm l3 (fun w hw => HB3.out.rdsl hw)).mono ?_
        rintro ee w22 ⟨v, rfl, rfl, h22⟩
        clear h21
        have HT2 := Lib.hid hT2.2
        clear hT2
        go_wp2_with fail
        refine (rappend_c nm l3 (fun w hw => HB3.out.rdsl hw) (by have := Hl3.out; omega) HT1.out.fit.ok (by have := Hi.out; omega) (by have := HT1.out.fit.ok.used_le; omega) (h22.sb : Sat w0 w22 (DskRep d D1 :: pt b3 (.cells _ 5 (0,0)) :: MedRep m (M1.append nm l3).1 :: F))).mono ?_
        rintro ee w23 ⟨v, rfl, rfl, h23⟩
        clear h22
        generalize (M1.append nm l3).1 = M2 at *
        generalize (D1.append nm l3).1 = D2 at *
        generalize (M1.append nm l3).2 = ec3 at *
        generalize (D1.append nm l3).2 = ec4 at *
        go_wp2_with fail
        go_roundg (ds.length - (i + 1))
        case measure => have := Hi.out; omega
        case rel => exact ⟨i + 1, M2, D2, rfl, Nat.succ_le_of_lt Hi.out.1, Nat.succ_le_of_lt Hi.out.2, by first | rfl | go_num, HT2.out, h23.sb⟩
      | true =>
        have hwl : IntKind.i64.wrap ((l3.length : Int) - 1) = ((l3.length - 1 : Nat) : Int) := by
          have := Hl3.out
          rw [IntWalk.i64_in _ (by omega)]; omega
        go_wp2_with fail
        refine (within_c pat 0 ((l3.length - 1 : Nat) : Int) _).mono ?_
        rintro ee w11 ⟨v, rfl, rfl, rfl⟩
        obtain ⟨za, hza, hzl⟩ := within_nat pat (l3.length - 1)
        rw [hza]
        have hzl3 : za < l3.length := by have := Hl3.out; omega
        have g1 : (za : Int) < (l3.length : Int) := by omega
        obtain ⟨x0, hx0⟩ : ∃ x, l3[za]? = some x := ⟨_, List.getElem?_eq_getElem hzl3⟩
        have g2 : World.cell? _ ⟨b3, o3 + za, none⟩ = some (.int .u8 x0.toNat) := h10.cellAt (o3 + za) _ (HB3.out.rd za _ (bys_at hx0))
        have hxr := xor_u8 x0 64
        have hset := HB3.out.set hzl3 (x0 ^^^ 64)
        have Hfit := Lib.hid (show o3 + za < cs3.size by have := HB3.out.fit; have := HB3.out.le; omega)
        clear hza hzl hwl hx0 f3 f4 HB3
        rw [show ((64 : UInt8).toNat : Int) = 64 from rfl] at hxr
        generalize ((x0 ^^^ 64).toNat : Int) = Y at *
        generalize (x0.toNat : Int) = X at *
        generalize hl4 : l3.set za (x0 ^^^ 64) = l4 at *
        have hll : l4.length = l3.length := by rw [← hl4, List.length_set]
        rw [← hll] at Hl3 g1
        have heq := hset.eq
        rw [hll] at heq
        have Hset := Lib.hid hset
        have Hll := Lib.hid hll
        clear hset heq hl4 hzl3
        rw [← hll]
        go_wp2_with ((with_reducible apply at_store); refine ⟨?_⟩; refine wl_store (cs' := cs3.setIfInBounds (o3 + za) (.int .u8 Y)) h10 (by rfl) evD (by rfl) upd0 Hfit.out (by kernel_rfl) (by rfl) ?_; intro w12 h12)
        clear h10 g2 hxr hll
        obtain ⟨l3, rfl⟩ : ∃ x, x = l4 := ⟨l4, rfl⟩
        obtain ⟨h10, HB3⟩ := And.intro h12 Hset
        clear h12 Hset
        go_wp2_with fail
        have hT1 := HT.out.create nm
        refine (create_c HT.out.ok (by omega) (h10.sb : Sat w0 _ (MedRep m M :: pt b3 (.cells _ 5 (0,0)) :: DskRep d D :: F)) nm Hns.out).mono ?_
        rintro ee w20 ⟨v, rfl, rfl, h20⟩
        clear h10
        go_wp2_with fail
        refine (rcreate_c nm Hns2.out (Nat.le_trans HT.out.fit.now (by decide)) (by have := HT.out.fit.ok.budget; have := Hi.out; omega) (by have := HT.out.fit.files; have := Hi.out; omega) HT.out.fit.ok.left (h20.sb : Sat w0 w20 (DskRep d D :: pt b3 (.cells _ 5 (0,0)) :: MedRep m (M.create nm).1 :: F))).mono ?_
        rintro ee w21 ⟨v, rfl, rfl, h21⟩
        clear h20
        have HT1 := Lib.hid hT1.2
        clear hT1
        generalize (M.create nm).1 = M1 at *
        generalize (D.create nm).1 = D1 at *
        generalize (M.create nm).2 = ec1 at *
        generalize (D.create nm).2 = ec2 at *
        have hT2 := HT1.out.append nm l3 (by have := Hl3.out; omega)
        go_wp2_with fail
        refine (append_c HT1.out.ok (by omega) (h21.sb : Sat w0 w21 (MedRep m M1 :: pt b3 (.cells _ 5 (0,0)) :: DskRep d D1 :: F)) nm l3 (fun w hw => HB3.out.rdsl hw)).mono ?_
        rintro ee w22 ⟨v, rfl, rfl, h22⟩
        clear h21
        have HT2 := Lib.hid hT2.2
        clear hT2
        go_wp2_with fail
        refine (rappend_c nm l3 (fun w hw => HB3.out.rdsl hw) (by have := Hl3.out; omega) HT1.out.fit.ok (by have := Hi.out; omega) (by have := HT1.out.fit.ok.used_le; omega) (h22.sb : Sat w0 w22 (DskRep d D1 :: pt b3 (.cells _ 5 (0,0)) :: MedRep m (M1.append nm l3).1 :: F))).mono ?_
        rintro ee w23 ⟨v, rfl, rfl, h23⟩
        clear h22
        generalize (M1.append nm l3).1 = M2 at *
        generalize (D1.append nm l3).1 = D2 at *
        generalize (M1.append nm l3).2 = ec3 at *
        generalize (D1.append nm l3).2 = ec4 at *
        go_wp2_with fail
        go_roundg (ds.length - (i + 1))
        case measure => have := Hi.out; omega
        case rel => exact ⟨i + 1, M2, D2, rfl, Nat.succ_le_of_lt Hi.out.1, Nat.succ_le_of_lt Hi.out.2, by first | rfl | go_num, HT2.out, h23.sb⟩
    | true =>
      have hB4 := hB.drop4 (by have := Hlb.out; omega)
      have hsl : ∀ w, (Instr.sliceAt 42 (.slice (some ⟨b, 0, none⟩) lb.length cap) (some (.int .i64 4)) none none).run Tryz.prog w = .ok (.slice (some ⟨b, 4, none⟩) (lb.length - 4) (cap - 4)) w := fun w => by
        have q1 := hB.le
        have q2 := Hlb.out.1
        have q3 : (4 : Int) ≤ (cap : Int) := by omega
        have q4 : (4 : Int) ≤ (lb.length : Int) := by omega
        have q5 : ¬ cap = 4 := by omega
        have q6 : 4 ≤ lb.length := by omega
        have q7 : 4 ≤ cap := by omega
        clear q1 q2
        go_simp
      have f2 : World.cell? _ ⟨bk, off + i * 6 + 2, none⟩ = some (.slice ra prest.length rc) := HC.out _ h8.drop.drop.drop 2 _ rfl
      have hl4 : (lb.drop 4).length = lb.length - 4 := List.length_drop
      have Hl2 := Lib.hid (show 1 ≤ (lb.drop 4).length ∧ (lb.drop 4).length ≤ 1136 by rw [hl4]; have := Hlb.out; omega)
      rw [← hl4] at hB4 hsl
      have HB := Lib.hid hB4
      clear hB hB4 hl4
      generalize lb.drop 4 = l2 at *
      go_wp2_with ((with_reducible apply at_slice1); refine ⟨?_⟩; refine wl_slice1 (by rfl) (by rfl) hsl ?_)
      clear hsl
      try go_wp2_with fail
      clear f5
      refine (cut_c ra prest.length rc 30 Hrn.out.1 Hrn.out.2 _).mono ?_
      rintro ee w9 ⟨v, rfl, rfl, rfl⟩
      clear f2
      go_wp2_with (with_reducible apply at_append)
      refine ⟨?_⟩
      refine wl_appO HB.out h8 (by rfl) (by rfl) (rdsl_cut (k := 30) (Hrr.out _ h8.drop.drop.drop)) (by rw [List.length_take]; have := Hl2.out; omega) ?_
      intro v3 b3 o3 cap3 cs3 w10 hB3 h10
      clear h8 HB
      have Hl3 := Lib.hid (show 1 ≤ (l2 ++ prest.take 30).length ∧ (l2 ++ prest.take 30).length ≤ 1200 by rw [List.length_append, List.length_take]; have := Hl2.out; omega)
      generalize l2 ++ prest.take 30 = l3 at *
      obtain rfl := hB3.eq
      have f3 : World.cell? _ ⟨bk, off + i * 6 + 3, none⟩ = some (.bool bad) := HC.out _ h10.drop.drop.drop 3 _ rfl
      have f4 : World.cell? _ ⟨bk, off + i * 6 + 4, none⟩ = some (.int .i64 pat) := HC.out _ h10.drop.drop.drop 4 _ rfl
      have HB3 := Lib.hid hB3
      clear hB3
      cases bad with
      | false =>
        clear f4
        go_wp2_with fail
        have hT1 := HT.out.create nm
        refine (create_c HT.out.ok (by omega) (h10.sb : Sat w0 _ (MedRep m M :: pt b3 (.cells _ 5 (0,0)) :: DskRep d D :: F)) nm Hns.out).mono ?_
        rintro ee w20 ⟨v, rfl, rfl, h20⟩
        clear h10
        go_wp2_with fail
        refine (rcreate_c nm Hns2.out (Nat.le_trans HT.out.fit.now (by decide)) (by have := HT.out.fit.ok.budget; have := Hi.out; omega) (by have := HT.out.fit.files; have := Hi.out; omega) HT.out.fit.ok.left (h20.sb : Sat w0 w20 (DskRep d D :: pt b3 (.cells _ 5 (0,0)) :: MedRep m (M.create nm).1 :: F))).mono ?_
        rintro ee w21 ⟨v, rfl, rfl, h21⟩
        clear h20
        have HT1 := Lib.hid hT1.2
        clear hT1
        generalize (M.create nm).1 = M1 at *
        generalize (D.create nm).1 = D1 at *
        generalize (M.create nm).2 = ec1 at *
        generalize (D.create nm).2 = ec2 at *
        have hT2 := HT1.out.append nm l3 (by have := Hl3.out; omega)
        go_wp2_with fail
        refine (append_c HT1.out.ok (by omega) (h21.sb : Sat w0 w21 (MedRep m M1 :: pt b3 (.cells _ 5 (0,0)) :: DskRep d D1 :: F)) nm l3 (fun w hw => HB3.out.rdsl hw)).mono ?_
        rintro ee w22 ⟨v, rfl, rfl, h22⟩
        clear h21
        have HT2 := Lib.hid hT2.2
        clear hT2
        go_wp2_with fail
        refine (rappend_c nm l3 (fun w hw => HB3.out.rdsl hw) (by have := Hl3.out; omega) HT1.out.fit.ok (by have := Hi.out; omega) (by have := HT1.out.fit.ok.used_le; omega) (h22.sb : Sat w0 w22 (DskRep d D1 :: pt b3 (.cells _ 5 (0,0)) :: MedRep m (M1.append nm l3).1 :: F))).mono ?_
        rintro ee w23 ⟨v, rfl, rfl, h23⟩
        clear h22
        generalize (M1.append nm l3).1 = M2 at *
        generalize (D1.append nm l3).1 = D2 at *
        generalize (M1.append nm l3).2 = ec3 at *
        generalize (D1.append nm l3).2 = ec4 at *
        go_wp2_with fail
        go_roundg (ds.length - (i + 1))
        case measure => have := Hi.out; omega
        case rel => exact ⟨i + 1, M2, D2, rfl, Nat.succ_le_of_lt Hi.out.1, Nat.succ_le_of_lt Hi.out.2, by first | rfl | go_num, HT2.out, h23.sb⟩
      | true =>
        have hwl : IntKind.i64.wrap ((l3.length : Int) - 1) = ((l3.length - 1 : Nat) : Int) := by
          have := Hl3.out
          rw [IntWalk.i64_in _ (by omega)]; omega
        go_wp2_with fail
        refine (within_c pat 0 ((l3.length - 1 : Nat) : Int) _).mono ?_
        rintro ee w11 ⟨v, rfl, rfl, rfl⟩
        obtain ⟨za, hza, hzl⟩ := within_nat pat (l3.length - 1)
        rw [hza]
        have hzl3 : za < l3.length := by have := Hl3.out; omega
        have g1 : (za : Int) < (l3.length : Int) := by omega
        obtain ⟨x0, hx0⟩ : ∃ x, l3[za]? = some x := ⟨_, List.getElem?_eq_getElem hzl3⟩
        have g2 : World.cell? _ ⟨b3, o3 + za, none⟩ = some (.int .u8 x0.toNat) := h10.cellAt (o3 + za) _ (HB3.out.rd za _ (bys_at hx0))
        have hxr := xor_u8 x0 64
        have hset := HB3.out.set hzl3 (x0 ^^^ 64)
        have Hfit := Lib.hid (show o3 + za < cs3.size by have := HB3.out.fit; have := HB3.out.le; omega)
        clear hza hzl hwl hx0 f3 f4 HB3
        rw [show ((64 : UInt8).toNat : Int) = 64 from rfl] at hxr
        generalize ((x0 ^^^ 64).toNat : Int) = Y at *
        generalize (x0.toNat : Int) = X at *
        generalize hl4 : l3.set za (x0 ^^^ 64) = l4 at *
        have hll : l4.length = l3.length := by rw [← hl4, List.length_set]
        rw [← hll] at Hl3 g1
        have heq := hset.eq
        rw [hll] at heq
        have Hset := Lib.hid hset
        have Hll := Lib.hid hll
        clear hset heq hl4 hzl3
        rw [← hll]
        go_wp2_with ((with_reducible apply at_store); refine ⟨?_⟩; refine wl_store (cs' := cs3.setIfInBounds (o3 + za) (.int .u8 Y)) h10 (by rfl) evD (by rfl) upd0 Hfit.out (by kernel_rfl) (by rfl) ?_; intro w12 h12)
        clear h10 g2 hxr hll
        obtain ⟨l3, rfl⟩ : ∃ x, x = l4 := ⟨l4, rfl⟩
        obtain ⟨h10, HB3⟩ := And.intro h12 Hset
        clear h12 Hset
        go_wp2_with fail
        have hT1 := HT.out.create nm
        refine (create_c HT.out.ok (by omega) (h10.sb : Sat w0 _ (MedRep m M :: pt b3 (.cells _ 5 (0,0)) :: DskRep d D :: F)) nm Hns.out).mono ?_
        rintro ee w20 ⟨v, rfl, rfl, h20⟩
        clear h10
        go_wp2_with fail
        refine (rcreate_c nm Hns2.out (Nat.le_trans HT.out.fit.now (by decide)) (by have := HT.out.fit.ok.budget; have := Hi.out; omega) (by have := HT.out.fit.files; have := Hi.out; omega) HT.out.fit.ok.left (h20.sb : Sat w0 w20 (DskRep d D :: pt b3 (.cells _ 5 (0,0)) :: MedRep m (M.create nm).1 :: F))).mono ?_
        rintro ee w21 ⟨v, rfl, rfl, h21⟩
        clear h20
        have HT1 := Lib.hid hT1.2
        clear hT1
        generalize (M.create nm).1 = M1 at *
        generalize (D.create nm).1 = D1 at *
        generalize (M.create nm).2 = ec1 at *
        generalize (D.create nm).2 = ec2 at *
        have hT2 := HT1.out.append nm l3 (by have := Hl3.out; omega)
        go_wp2_with fail
        refine (append_c HT1.out.ok (by omega) (h21.sb : Sat w0 w21 (MedRep m M1 :: pt b3 (.cells _ 5 (0,0)) :: DskRep d D1 :: F)) nm l3 (fun w hw => HB3.out.rdsl hw)).mono ?_
        rintro ee w22 ⟨v, rfl, rfl, h22⟩
        clear h21
        have HT2 := Lib.hid hT2.2
        clear hT2
        go_wp2_with fail
        refine (rappend_c nm l3 (fun w hw => HB3.out.rdsl hw) (by have := Hl3.out; omega) HT1.out.fit.ok (by have := Hi.out; omega) (by have := HT1.out.fit.ok.used_le; omega) (h22.sb : Sat w0 w22 (DskRep d D1 :: pt b3 (.cells _ 5 (0,0)) :: MedRep m (M1.append nm l3).1 :: F))).mono ?_
        rintro ee w23 ⟨v, rfl, rfl, h23⟩
        clear h22
        generalize (M1.append nm l3).1 = M2 at *
        generalize (D1.append nm l3).1 = D2 at *
        generalize (M1.append nm l3).2 = ec3 at *
        generalize (D1.append nm l3).2 = ec4 at *
        go_wp2_with fail
        go_roundg (ds.length - (i + 1))
        case measure => have := Hi.out; omega
        case rel => exact ⟨i + 1, M2, D2, rfl, Nat.succ_le_of_lt Hi.out.1, Nat.succ_le_of_lt Hi.out.2, by first | rfl | go_num, HT2.out, h23.sb⟩
end
end Go.Proofs.YtmjldaedhmipkaaGreatDoor
namespace Go.Seg
open Go.Med
open Go.Frm (encs GoodE)
section
variable {K K' : Nat} {M M' : Med} {L : Log} {s t : ByteArray} {i : Nat} {sure opn : List (Plc × Frm.Ent)}
end
end Go.Seg
namespace Go.Proofs.YtmjldaedhmipkaaGreatDoor
open Go Go.Sl Go.Med Go.MapKept Go.RowKit
section
variable {w0 w : World} {F R : List HProp} {p d m : Nat} {v lv : Value} {D M : Med} {K : Nat}
theorem lst_sl {l : List ByteArray} (h : rdsl 1 v (strs l) w) : ∃ a c, v = .slice a l.length c := by
  obtain ⟨a, n, c, rfl, hl, hx⟩ := h
  unfold strs at hl
  rw [List.length_map, Nat.mul_one] at hl
  exact ⟨a, c, by rw [hl]⟩
theorem lst_cell {l : List ByteArray} {i : Nat} {s : ByteArray} {a : Option Addr} {n c : Nat} (h : rdsl 1 (.slice a n c) (strs l) w) (hi : l[i]? = some s) : ∃ bk off, a = some ⟨bk, off, none⟩ ∧ w.cell? ⟨bk, off + i, none⟩ = some (.string s) := by
  have hx : (strs l)[i]? = some (.string s) := by unfold strs; rw [List.getElem?_map, hi]; rfl
  obtain ⟨bk, off, rfl, hc⟩ := rdsl_cells h hx
  exact ⟨bk, off, rfl, hc _ _ hx⟩
theorem med_list_len (ok : M.Ok K) : M.list.length ≤ 500 := by
  unfold Med.list
  split
  · exact Nat.zero_le _
  · rw [List.length_map]; exact ok.nowOk.len
set_option maxRecDepth 20000 in
set_option maxHeartbeats 8000000 in
theorem ropen_c (hD : Seg.Fit K D) (limit : Int) (ho : D.off = false) (h1 : 128 ≤ limit) (h2 : limit ≤ 1048576) (h : Sat w0 w (DskRep d D :: F)) :
    Calls Tryz.prog 16 #[ptr d, .int .i64 limit] w (Rtn fun v w' => ∃ q, v = .tuple #[ptr q, errno 0] ∧ Sat w0 w' (RLogRep q d (Seg.fresh D limit) :: DskRep d D :: F)) := by
  obtain ⟨fsv, fv, nv, wv, xs, g, hin, hR⟩ := DskRep.open h
  have e7 : w.cell? ⟨d, 7, none⟩ = some (.bool D.off) := hR.cellP pick0 7 rfl
  rw [ho] at e7
  have hd1 : decide (limit < 128) = false := decide_eq_false (by omega)
  have hd2 : decide (1048576 < limit) = false := decide_eq_false (by omega)
  have HD := Lib.hid hD
  have Hl := Lib.hid (show D.now.length ≤ 1048576 from Nat.le_trans hD.ok.nowOk.len (by decide))
  have Hll := Lib.hid (med_list_len hD.ok)
  clear hin hR ho h1 h2 hD
  go_enter Tryz.func16, Tryz.ntmps16
  go_wp2_with ((with_reducible apply at_box); refine ⟨?_⟩; refine wl_box (by assumption) evD evD ?_; intro bB wB hB)
  have hB1 := hB.pk (A := DskRep d D)
  refine (rlist_c Hl.out hB1).mono ?_
  rintro ee w1 ⟨v, rfl, ov, rfl, hS1⟩
  clear hB1 hB h e7
  have Hfr := Lib.hid (show Seg.fresh D limit = ⟨limit, Seg.found D D.list, false, 0⟩ from rfl)
  generalize D.list = l at *
  obtain ⟨na, nc, rfl⟩ := lst_sl (Sat.rd hS1)
  go_wp2_with fail
  go_loopg [8] l.length (fun g iq wr => ∃ (i : Nat) (lv : Value), g = l.length - i ∧ i ≤ l.length ∧ iq = .int .i64 i ∧
    Sat w0 wr (osl 84 2 lv (segw (Seg.found D (l.take i))) :: osl 9 1 (.slice na l.length nc) (strs l) :: rlogPt bB d ⟨limit, Seg.found D (l.take i), false, 0⟩ lv :: DskRep d D :: F))
  case atStart => exact ⟨0, .slice none 0 0, rfl, Nat.zero_le _, rfl, Sat.osl_nil.2 (hS1.sb)⟩
  case round =>
    obtain ⟨i, lv, rfl, hi, rfl, hS⟩ := hrel
    clear hS1
    by_cases hlt : i < l.length
    · have c1 : (i : Int) < (l.length : Int) := by omega
      obtain ⟨s, hs⟩ : ∃ s, l[i]? = some s := ⟨_, List.getElem?_eq_getElem hlt⟩
      obtain ⟨bk, off, rfl, e0⟩ := lst_cell (Sat.rd (hS.pick pick1)) hs
      have hll := Hll.out
      have hwi : IntKind.i64.wrap ((i : Int) + 1) = (i : Int) + 1 := IntWalk.i64_in _ (by omega)
      have Hfs := Lib.hid (show Seg.found D (l.take (i + 1)) = Seg.found D (l.take i) ++ (if (Seg.number s).2 = true then [((Seg.number s).1, (D.size s).1)] else []) by
        rw [List.take_add_one, hs]; exact Seg.found_snoc D _ s)
      have Hfl := Lib.hid (Seg.found_len D (l.take i))
      have Hlt := Lib.hid hlt; have Hs := Lib.hid hs
      have Hall := Lib.hid (Seg.all_size D s)
      clear hlt hs hll
      go_wp2_with fail
      refine (rnumber_c s _).mono ?_
      rintro ee w3 ⟨v, rfl, ⟨a, rfl, ha⟩, rfl⟩
      cases hb : (Seg.number s).2
      · have Hb := Lib.hid hb
        clear ha hb e0
        go_wp2_with fail
        go_roundg (l.length - (i + 1))
        case measure => have := Hlt.out; omega
        case rel =>
          refine ⟨i + 1, lv, rfl, Nat.succ_le_of_lt Hlt.out, by first | rfl | go_num, ?_⟩
          rw [Hfs.out, Hb.out, if_neg (by decide), List.append_nil]
          exact hS
      · have Hb := Lib.hid hb
        obtain rfl := ha hb
        clear ha hb
        have hra := rall_c s Hl.out (fun i hi => HD.out.len hi) (hS.pk (A := DskRep d D))
        generalize (Seg.number s).1 = nu at *
        generalize D.all s = A at *
        obtain ⟨b, e⟩ := A
        go_wp2_with fail
        refine hra.mono ?_
        rintro ee w4 ⟨v, rfl, bv, rfl, hS4⟩
        clear hra hS e0
        obtain ⟨ba, bc, rfl, _⟩ := bsl_sl hS4
        obtain ⟨la, lc, rfl⟩ := sgs_sl (Sat.rd (hS4.pk (A := osl 84 2 lv (segw (Seg.found D (l.take i))))))
        have hsl : (segw (Seg.found D (l.take i))).length ≤ 2147483648 := by rw [segw_len]; have := Hfl.out; rw [List.length_take] at this; have := Hll.out; omega
        have Hsz := Lib.hid (show (D.size s).1 = (b.length : Int) from Hall.out.symm)
        clear Hall
        go_wp2_with (first
          | ((with_reducible apply at_build1); refine ⟨?_⟩; refine wl_build1 (e := 84) (sz := 2) (by' := 16) (by kernel_rfl) hS4 (by rfl) (cs := #[.int .i64 nu, .int .i64 (b.length : Int)]) rfl rfl (Nat.le_of_ble_eq_true (by rfl)) ?_; intro bN wN hN)
          | ((with_reducible apply at_append); refine ⟨?_⟩; refine wl_app 84 2 16 (by kernel_rfl) hN (by rfl) (by rfl) pkD pkD (by rfl) (Nat.le_refl 1) (by rfl) hsl (by show 2 ≤ 65536; decide) (by decide) rfl ?_; intro bA nA cA wA hA; rw [segw_snoc] at hA; clear hS4 hN)
          | ((with_reducible apply at_load); refine ⟨?_⟩; refine wl_load1 (by assumption) (by rfl) pkD (Nat.le_of_ble_eq_true (by rfl)) evD (by kernel_rfl) ?_) | ((with_reducible apply at_store); refine ⟨?_⟩; refine wl_store (by assumption) (by rfl) evD (by first | (simp only [putsAt, Value.cells]; (try go_frame); first | done | rfl) | rfl) upD (Nat.le_of_ble_eq_true (by rfl)) (by kernel_rfl) (by rfl) ?_; intro wS hS))
        go_roundg (l.length - (i + 1))
        case measure => have := Hlt.out; omega
        case rel =>
          refine ⟨i + 1, .slice (some ⟨bA, 0, none⟩) nA cA, rfl, Nat.succ_le_of_lt Hlt.out, by first | rfl | go_num, ?_⟩
          rw [Hfs.out, Hb.out, if_pos rfl, Hsz.out]
          exact Sat.sb hS
    · obtain rfl : i = l.length := by omega
      have c1 : ¬ (l.length : Int) < (l.length : Int) := by omega
      rw [List.take_length] at hS
      clear hlt
      go_wp2_with fail
      go_ret2
      refine ⟨_, rfl, bB, rfl, ?_⟩
      rw [Hfr.out]
      exact RLogRep.shut (lv := lv) (hS.sb)
end
end Go.Proofs.YtmjldaedhmipkaaGreatDoor
namespace Go.Rep
end Go.Rep
namespace Go.Seg
open Go.Med
end Go.Seg
namespace Go.Proofs.YtmjldaedhmipkaaGreatDoor
open Go Go.Sl Go.Med Go.MapKept Go.RowKit
section
variable {P : Program} {w0 w : World} {L L' R : List HProp} {ops : Array Oper} {rest : List Oper} {a : Act} {Q : Exit → Act → World → Prop} {dst : Option Tmp} {t ty T b : Nat} {pos : String} {after : Array Edge} {x : Operand} {cs : Array Value} {g : Nat × Bool}
end
section
variable {w0 w : World} {F : List HProp} {lv : Value}
end
section
variable {w0 w : World} {F : List HProp} {p q m d K i : Nat} {L : Seg.Log} {M D : Med} {tv : Value}
set_option maxRecDepth 20000 in
set_option maxHeartbeats 8000000 in
theorem drop_c (t : List Int) (htl : t.length ≤ 1048576) (hL : L.Ok) (hM : M.Ok K) (hK : K ≤ 1048576) (hr : Ro w0 F (rdsl 1 tv (ints t))) (h : Sat w0 w (LogRep p m L :: MedRep m M :: F)) :
    Calls Tryz.prog 43 #[ptr p, tv] w (Rtn fun v w' => v = errno (Seg.Log.drop t t.length L M).2 ∧ Sat w0 w' (LogRep p m (Seg.Log.drop t t.length L M).1.1 :: MedRep m (Seg.Log.drop t t.length L M).1.2 :: F)) := by
  obtain ⟨ta, tc, rfl⟩ := ints_sl (hr w h.drop.drop)
  have Hr := Lib.hid hr; have Htl := Lib.hid htl; have HK := Lib.hid hK
  have w1 : IntKind.i64.wrap ((t.length : Int) - 1) = (t.length : Int) - 1 := IntWalk.i64_in _ (by omega)
  have H0 := Lib.hid (show L.Ok ∧ M.Ok K from ⟨hL, hM⟩)
  clear hr htl hK hL hM
  go_enter Tryz.func43, Tryz.ntmps43
  go_wp2_with fail
  go_loopg [5] t.length (fun g iq wr => ∃ (k : Nat) (L' : Seg.Log) (M' : Med), g = 0 + k ∧ k ≤ t.length ∧ iq = .int .i64 ((k : Int) - 1) ∧ Seg.Log.drop t t.length L M = Seg.Log.drop t k L' M' ∧ L'.Ok ∧ M'.Ok (K + (t.length - k)) ∧ Sat w0 wr (LogRep p m L' :: MedRep m M' :: F))
  case atStart => exact ⟨t.length, L, M, (Nat.zero_add _).symm, Nat.le_refl _, rfl, rfl, H0.out.1, H0.out.2.mono (Nat.le_add_right _ _), h⟩
  case round =>
    obtain ⟨k, L', M', rfl, hk, rfl, he, hL, hM, hS⟩ := hrel
    clear h
    cases k with
    | zero =>
      have c1 : ¬ (((0 : Nat) : Int) - 1) ≥ 0 := by decide
      have He := Lib.hid he; have HM := Lib.hid hM; have HL := Lib.hid hL
      clear he hL hM hk
      by_cases ht : t = []
      · have hb : ((t.length : Int) == 0) = true := by rw [ht]; rfl
        have Hf := Lib.hid (Seg.drop_nil (L := L') (M := M') ht)
        clear ht
        go_wp2_with fail
        go_ret
        rw [He.out, Hf.out]
        exact ⟨_, rfl, rfl, hS⟩
      · have hb : ((t.length : Int) == 0) = false := by
          rw [beq_eq_false_iff_ne]
          intro e
          exact ht (List.eq_nil_of_length_eq_zero (by omega))
        have Hf := Lib.hid (Seg.drop_end (L := L') (M := M') ht)
        clear ht
        go_wp2_with fail
        refine (lsync_c HM.out hS).mono ?_
        rintro ee w2 ⟨v, rfl, rfl, hS2⟩
        clear hS
        go_wp2_with fail
        go_ret
        rw [He.out, Hf.out]
        exact ⟨_, rfl, rfl, hS2⟩
    | succ k =>
      have e1 : ((k + 1 : Nat) : Int) - 1 = (k : Int) := by omega
      rw [e1]
      have c1 : (k : Int) ≥ 0 := by omega
      have c2 : (k : Int) < (t.length : Int) := by omega
      have w2 : IntKind.i64.wrap ((k : Int) - 1) = (k : Int) - 1 := IntWalk.i64_in _ (by have := Htl.out; omega)
      obtain ⟨s, hs⟩ : ∃ s, t[k]? = some s := ⟨_, List.getElem?_eq_getElem (by omega)⟩
      have hgd : t.getD k 0 = s := by rw [List.getD, hs]; rfl
      obtain ⟨bk, off, cc, e2, c0⟩ := ints_cell (Hr.out _ hS.drop.drop) hs
      cases e2
      have hrm := lremove_c hL hM (by have := HK.out; have := Htl.out; omega) s hS
      have He := Lib.hid he; have Hk := Lib.hid hk
      have hlog := hL.remove M' s
      have hmed := Seg.remove_med (L := L') hM s
      have Hgo := Lib.hid (fun (h0 : (L'.remove M' s).2 = 0) => Seg.drop_go (t := t) (L := L') (M := M') (k := k) (by rw [hgd]; exact h0))
      have Hno := Lib.hid (fun (h0 : (L'.remove M' s).2 ≠ 0) => Seg.drop_no (t := t) (L := L') (M := M') (k := k) (by rw [hgd]; exact h0))
      rw [hgd] at Hgo Hno
      clear he hk hs hgd hL hM hS
      generalize L'.remove M' s = r at *
      obtain ⟨⟨L2, M2⟩, e⟩ := r
      dsimp only at hrm hlog hmed Hgo Hno
      have Hlog := Lib.hid hlog; have Hmed := Lib.hid hmed
      clear hlog hmed
      go_wp2_with fail
      refine hrm.mono ?_
      rintro ee w3 ⟨v, rfl, rfl, hS3⟩
      clear hrm c0
      by_cases h0 : e = 0
      · subst h0
        have Hf := Lib.hid (Hgo.out rfl)
        go_wp2_with fail
        go_roundg (0 + k)
        case measure => omega
        case rel => exact ⟨k, L2, M2, rfl, Nat.le_of_succ_le Hk.out, by first | rfl | go_num, He.out.trans Hf.out, Hlog.out, Hmed.out.mono (by have := Hk.out; omega), hS3⟩
      · have hb : (e != 0) = true := by rw [bne_iff_ne]; exact h0
        have hb2 : (e == 0) = false := by rw [beq_eq_false_iff_ne]; exact h0
        have Hf := Lib.hid (Hno.out h0)
        clear h0
        go_wp2_with fail
        go_ret
        rw [He.out, Hf.out]
        exact ⟨_, rfl, rfl, hS3⟩
set_option maxRecDepth 20000 in
set_option maxHeartbeats 8000000 in
theorem rdrop_c (t : List Int) (htl : i + t.length ≤ 500) (hT : Seg.Two i L M D) (hr : Ro w0 F (rdsl 1 tv (ints t))) (h : Sat w0 w (RLogRep q d L :: DskRep d D :: F)) :
    Calls Tryz.prog 44 #[ptr q, tv] w (Rtn fun v w' => v = errno (Seg.Log.rdrop t t.length L D).2 ∧ Sat w0 w' (RLogRep q d (Seg.Log.rdrop t t.length L D).1.1 :: DskRep d (Seg.Log.rdrop t t.length L D).1.2 :: F)) := by
  obtain ⟨ta, tc, rfl⟩ := ints_sl (hr w h.drop.drop)
  have Hr := Lib.hid hr; have Htl := Lib.hid htl
  have w1 : IntKind.i64.wrap ((t.length : Int) - 1) = (t.length : Int) - 1 := IntWalk.i64_in _ (by omega)
  have H0 := Lib.hid hT
  clear hr htl hT
  go_enter Tryz.func44, Tryz.ntmps44
  go_wp2_with fail
  go_loopg [5] t.length (fun g iq wr => ∃ (k : Nat) (L' : Seg.Log) (M' D' : Med), g = 0 + k ∧ k ≤ t.length ∧ iq = .int .i64 ((k : Int) - 1) ∧ Seg.Log.rdrop t t.length L D = Seg.Log.rdrop t k L' D' ∧ Seg.Two (i + (t.length - k)) L' M' D' ∧ Sat w0 wr (RLogRep q d L' :: DskRep d D' :: F))
  case atStart => exact ⟨t.length, L, M, D, (Nat.zero_add _).symm, Nat.le_refl _, rfl, rfl, H0.out.mono (Nat.le_add_right _ _), h⟩
  case round =>
    obtain ⟨k, L', M', D', rfl, hk, rfl, he, hT, hS⟩ := hrel
    clear h
    have Htk := Lib.hid (show (i + (t.length - k)) * 2000 ≤ 1000000 by have := Htl.out; omega)
    cases k with
    | zero =>
      have c1 : ¬ (((0 : Nat) : Int) - 1) ≥ 0 := by decide
      have He := Lib.hid he; have HT := Lib.hid hT
      clear he hT hk
      by_cases ht : t = []
      · have hb0 : t.length = 0 := by rw [ht]; rfl
        have Hf := Lib.hid (Seg.rdrop_nil (L := L') (M := D') ht)
        clear ht
        generalize htn : t.length = tn at *
        have Htn := Lib.hid htn
        clear htn
        have hb : decide ((tn : Int) > 0) = false := decide_eq_false (by omega)
        have hbN : decide (0 < tn) = false := decide_eq_false (by omega)
        clear hb0
        go_wp2_with fail
        go_ret
        obtain rfl := Htn.out
        rw [He.out, Hf.out]
        exact ⟨_, rfl, rfl, hS⟩
      · have hb0 : 0 < t.length := List.length_pos_iff.2 ht
        have Hf := Lib.hid (Seg.rdrop_end (L := L') (M := D') ht)
        obtain ⟨lv, hR⟩ := RLogRep.open hS
        have e0 : World.cell? _ ⟨q, 0, none⟩ = some (ptr d) := hR.cellP pick0 0 rfl
        clear ht hS
        generalize htn : t.length = tn at *
        have Htn := Lib.hid htn
        clear htn
        have hb : decide ((tn : Int) > 0) = true := decide_eq_true (by omega)
        have hbN : decide (0 < tn) = true := decide_eq_true (by omega)
        clear hb0
        go_wp2_with fail
        refine (rsyncd_c ByteArray.empty (Nat.le_trans HT.out.fit.now (by decide)) HT.out.fit.ok.left (hR.pick (pick_there (pick_there pick0)))).mono ?_
        rintro ee w2 ⟨v, rfl, rfl, hS2⟩
        have hS3 : Sat w0 w2 (rlogPt q d L' lv :: osl 84 2 lv (segw L'.l) :: DskRep d D'.syncDir.1 :: F) := hS2.sb
        clear hR e0 hS2
        go_wp2_with fail
        go_ret
        obtain rfl := Htn.out
        rw [He.out, Hf.out]
        exact ⟨_, rfl, rfl, RLogRep.shut hS3⟩
    | succ k =>
      have e1 : ((k + 1 : Nat) : Int) - 1 = (k : Int) := by omega
      rw [e1]
      have c1 : (k : Int) ≥ 0 := by omega
      have c2 : (k : Int) < (t.length : Int) := by omega
      have w2 : IntKind.i64.wrap ((k : Int) - 1) = (k : Int) - 1 := IntWalk.i64_in _ (by have := Htl.out; omega)
      obtain ⟨s, hs⟩ : ∃ s, t[k]? = some s := ⟨_, List.getElem?_eq_getElem (by omega)⟩
      have hgd : t.getD k 0 = s := by rw [List.getD, hs]; rfl
      obtain ⟨bk, off, cc, e2, c0⟩ := ints_cell (Hr.out _ hS.drop.drop) hs
      cases e2
      have hrm := rlremove_c hT.log hT.fit (Nat.le_trans Htk.out (by decide)) s hS
      have He := Lib.hid he; have Hk := Lib.hid hk
      have hst := hT.remove s
      have Hgo := Lib.hid (fun (h0 : (L'.rremove D' s).2 = 0) => Seg.rdrop_go (t := t) (L := L') (M := D') (k := k) (by rw [hgd]; exact h0))
      have Hno := Lib.hid (fun (h0 : (L'.rremove D' s).2 ≠ 0) => Seg.rdrop_no (t := t) (L := L') (M := D') (k := k) (by rw [hgd]; exact h0))
      rw [hgd] at Hgo Hno
      have Htwo := Lib.hid hst.two
      rw [← hst.log] at Htwo
      clear he hk hs hgd hT hS hst
      generalize L'.rremove D' s = r at *
      obtain ⟨⟨L2, D2⟩, e⟩ := r
      dsimp only at hrm Hgo Hno Htwo
      go_wp2_with fail
      refine hrm.mono ?_
      rintro ee w3 ⟨v, rfl, rfl, hS3⟩
      clear hrm c0
      by_cases h0 : e = 0
      · subst h0
        have Hf := Lib.hid (Hgo.out rfl)
        go_wp2_with fail
        go_roundg (0 + k)
        case measure => omega
        case rel => exact ⟨k, L2, _, D2, rfl, Nat.le_of_succ_le Hk.out, by first | rfl | go_num, He.out.trans Hf.out, Htwo.out.mono (by have := Hk.out; omega), hS3⟩
      · have hb : (e != 0) = true := by rw [bne_iff_ne]; exact h0
        have hb2 : (e == 0) = false := by rw [beq_eq_false_iff_ne]; exact h0
        have Hf := Lib.hid (Hno.out h0)
        clear h0
        go_wp2_with fail
        go_ret
        rw [He.out, Hf.out]
        exact ⟨_, rfl, rfl, hS3⟩
end
end Go.Proofs.YtmjldaedhmipkaaGreatDoor
namespace Go.Rep
theorem bad_err {bt : Told} : ∀ (l : List Int) {x : Flt × Int}, bad bt l = some x → x.2 ≠ 0
  | [], _, h => by cases h
  | s :: l, x, h => by
    unfold bad at h
    split at h
    · rename_i h1; cases h; exact h1
    split at h
    · cases h; exact (by decide : (13 : Int) ≠ 0)
    · exact bad_err l h
theorem run_err {bt : Told} {ns : List Int} {fl : Flt} {e : Int} (h : run bt ns = .inl (fl, e)) : e ≠ 0 := by
  unfold run at h
  split at h
  · rename_i h1; cases h; exact h1
  · unfold runAt at h
    split at h
    · rename_i x hx; cases h; exact bad_err _ hx
    · cases h
theorem run_le {bt : Told} {ns : List Int} {n : Nat} (h : run bt ns = .inr n) : n ≤ ns.length := by
  unfold run at h
  split at h
  · cases h
  · unfold runAt at h
    split at h
    · cases h
    · cases h; exact split_le bt ns ns.length
end Go.Rep
namespace Go.Proofs.YtmjldaedhmipkaaGreatDoor
open Go Go.Sl Go.Med Go.MapKept Go.RowKit
section
variable {w0 w : World} {F : List HProp} {lv cv : Value}
set_option maxRecDepth 20000 in
set_option maxHeartbeats 32000000 in
theorem replay_drops_c (ds : List PC) (hr : Ro w0 F (rdsl 6 lv (ds.flatMap pcL))) (hd : ∀ d ∈ ds, PCRo w0 F d) (arm : Int) (harm : inI arm) (cl : List Int) (hcl : Ro w0 F (rdsl 1 cv (ints cl))) (hcc : capOk cv) (hci : ∀ x ∈ cl, inI x) (hH : Ro w0 F Half) (h : Sat w0 w F) :
    Calls Tryz.prog 5 #[lv, .int .i64 arm, cv] w (Rtn fun v w' => v = .bool true ∧ Sat w0 w' F) := by
  have HH := Lib.hid hH; have Harm := Lib.hid harm; have Hci := Lib.hid hci; have Hcl := Lib.hid hcl
  obtain ⟨ca, cn, cc, rfl, hcn, hcm⟩ := hcc
  have Hcn := Lib.hid (And.intro hcn hcm)
  have hla := laid_c ds hr hd h
  clear hr hd hH h harm hci hcl hcn hcm
  go_enter Tryz.func5, Tryz.ntmps5
  go_wp2_with fail
  refine hla.mono ?_
  rintro ee w1 ⟨v, rfl, m, d, M, D, rfl, hT, h1⟩
  clear hla
  obtain ⟨hT2, hfr, hal, hoff, hll⟩ := hT.open 500 (by decide) (by decide)
  have hop := open_c hT.ok 500 h1 hal (by decide) (by decide)
  go_wp2_with fail
  refine hop.mono ?_
  rintro ee w2 ⟨v, rfl, p, rfl, h2⟩
  clear hop h1
  have hrop := ropen_c hT.fit 500 hoff (by decide) (by decide) (h2.pk (A := DskRep d D))
  rw [hfr] at hrop
  go_wp2_with fail
  refine hrop.mono ?_
  rintro ee w3 ⟨v, rfl, q, rfl, h3⟩
  clear hrop h2
  have Hrows := Lib.hid (show (Rep.rowsOf (lbt (Seg.fresh M 500) M) (Seg.fresh M 500).segs).length ≤ 12000000 from Nat.le_trans (Seg.rows_cap hT.cap hT.ok hll) (by decide))
  have Hsz := Lib.hid (show ∀ r ∈ Rep.rowsOf (lbt (Seg.fresh M 500) M) (Seg.fresh M 500).segs, (r.2.size : Int) ≤ 4294967296 from fun r hr => by have := Seg.rows_size hT.cap hT.ok _ r hr; omega)
  have h4 : Sat w0 w3 (LogRep p m (Seg.fresh M 500) :: MedRep m M :: RLogRep q d (Seg.fresh M 500) :: DskRep d D :: F) := h3.sb
  have HT := Lib.hid hT2
  have Hll := Lib.hid hll
  clear h3 hT hT2 hfr hal hoff hll
  generalize Seg.fresh M 500 = L at *
  have hrn := run_c HT.out.log HT.out.ok (Ro.os HH.out) Hrows.out Hsz.out h4
  clear h4
  go_wp2_with fail
  refine hrn.mono ?_
  rintro ee w5 ⟨v, rfl, ho⟩
  clear hrn
  unfold RunOut at ho
  cases hrun : Rep.run (lbt L M) L.segs with
  | inl x =>
    obtain ⟨fl, e⟩ := x
    rw [hrun] at ho
    obtain ⟨rfl, h5⟩ := ho
    have he := Rep.run_err hrun
    have hb : (e != 0) = true := by rw [bne_iff_ne]; exact he
    have hb' : (e == 0) = false := by rw [beq_eq_false_iff_ne]; exact he
    have h6 : Sat w0 w5 F := h5.sb
    clear h5 hrun he
    go_wp2_with (with_reducible apply at_alloc)
    refine ⟨?_⟩
    refine wl_alloc zFlt h6 rfl ?_
    intro b14 w6 h7
    clear h6
    go_wp2_with ((with_reducible apply at_store); refine ⟨?_⟩; refine wl_storeA (fltA fl) h7 (by rfl) (by rfl) (by rfl) upd0 (by kernel_rfl) (by rfl) ?_; intro w7 h8)
    clear h7
    refine (lives15_c (Ro.os HH.out) h8).mono ?_
    rintro ee w9 ⟨v, rfl, rfl, h9⟩
    clear h8
    go_wp2_with fail
    go_ret
    exact ⟨_, rfl, rfl, h9.sb⟩
  | inr n =>
    rw [hrun] at ho
    obtain ⟨ps, pi, uv, tv, av, kv, rfl, _, ⟨⟨ta, tc, rfl⟩, htv⟩, h5⟩ := ho
    have Hnl := Lib.hid (Rep.run_le hrun)
    have Htv := Lib.hid htv
    have h6 : Sat w0 w5 (stPt ps (Rep.lastOfL (L.segs.take n)) pi uv (.slice ta (L.segs.length - n) tc) :: osl 3 1 av (ints L.segs) :: LogRep p m L :: MedRep m M :: RLogRep q d L :: DskRep d D :: F) := h5.sb
    clear h5 htv hrun
    have Htl := Lib.hid (show (L.segs.drop n).length ≤ 12 by
      rw [List.length_drop]
      have := Hll.out
      have e : L.segs.length = L.l.length := List.length_map ..
      omega)
    generalize L.segs.drop n = t at *
    generalize Rep.lastOfL (L.segs.take n) = last at *
    generalize L.segs.length - n = tn at *
    go_wp2_with (with_reducible apply at_alloc)
    refine ⟨?_⟩
    refine wl_alloc zFlt h6 rfl ?_
    intro b14 w6 h7
    clear h6
    have hkk : decide (arm ≥ 0) = true ∨ decide (arm ≥ 0) = false := by cases decide (arm ≥ 0) <;> simp
    have hMD : ∃ M2 D2, (arm ≥ 0 → M2 = (M.arm arm).1 ∧ D2 = (D.arm arm).1) ∧ (¬ arm ≥ 0 → M2 = M ∧ D2 = D) ∧ Seg.Two 13 L M2 D2 := by
      by_cases ha : arm ≥ 0
      · exact ⟨_, _, fun _ => ⟨rfl, rfl⟩, fun h => absurd ha h, (HT.out.arm arm Harm.out.2).2⟩
      · exact ⟨_, _, fun h => absurd h ha, fun _ => ⟨rfl, rfl⟩, HT.out.mono (by decide)⟩
    obtain ⟨M2, D2, hy, hn, hT3⟩ := hMD
    have HT3 := Lib.hid hT3; have Hy := Lib.hid hy; have Hn := Lib.hid hn
    clear hT3 hy hn hkk
    by_cases ha : arm ≥ 0
    · have d1 : decide (arm ≥ 0) = true := decide_eq_true ha
      have d2 : decide (0 ≤ arm) = true := decide_eq_true ha
      obtain ⟨e1, e2⟩ := Hy.out ha
      go_wp2_with ((with_reducible apply at_store); refine ⟨?_⟩; refine wl_storeA (fltA Rep.Flt.zero) h7 (by rfl) (by rfl) (by rfl) upd0 (by kernel_rfl) (by rfl) ?_; intro w7 h8)
      clear h7
      refine (arm_c (h8.pk (A := MedRep m M)) arm).mono ?_
      rintro ee w8 ⟨v, rfl, rfl, h9⟩
      clear h8
      go_wp2_with fail
      refine (rarm_c arm (h9.pk (A := DskRep d D))).mono ?_
      rintro ee w10 ⟨v, rfl, rfl, h10⟩
      clear h9
      rw [← e1, ← e2] at h10
      have h11 : Sat w0 w10 (stPt ps last pi uv (.slice ta tn tc) :: osl 3 1 av (ints L.segs) :: LogRep p m L :: MedRep m M2 :: RLogRep q d L :: DskRep d D2 :: F) := h10.sb
      clear h10 ha d1 d2 e1 e2
      try go_wp2_with fail
      have h12 := h11.drew
      clear h11
      have hst := Seg.Two.drop (t := t) t.length HT3.out
      refine wpL_begin [11, 12, 13, 14, 15, 16, 17, 18, 19, 20] (fun w' => w'.cell? ⟨ps, 3, none⟩ = some (.slice ta tn tc)) (by kernel_rfl) ?_
      have hG : World.cell? _ ⟨ps, 3, none⟩ = some (.slice ta tn tc) := h12.cellP pick0 3 rfl
      refine rp 0 (hy := (yl_move evD)) (h := ?_)
      refine rp 1 (hy := (yl_move evD)) (h := ?_)
      refine rp 2 (hy := (yl_nil evD)) (h := ?_)
      refine rp 3 (hy := (yl_field evD rnD)) (h := ?_)
      refine rt 4 (h := ?_)
      refine rp 6 (hy := (yl_move evD)) (h := ?_)
      refine rp 7 (hy := (yl_move evD)) (h := ?_)
      refine rp 8 (hy := (yl_nil evD)) (h := ?_)
      refine rp 9 (hy := (yl_field evD rnD)) (h := ?_)
      refine rt 10 (h := ?_)
      clear hG
      refine rg_eff 5 evD (by kernel_rfl) (fun K hK => ?_)
      (refine eff_call2 (by kernel_rfl) evD evD ?_)
      refine (drop_c t (Nat.le_trans Htl.out (by decide)) HT3.out.log HT3.out.ok (by decide) (Ro.of_pick (fun w hw => Htv.out w (Sat.rd hw)) (show Pick (osl 3 1 av (ints L.segs)) _ _ from pick0)) (h12.sb : Sat w0 _ (LogRep p m L :: MedRep m M2 :: osl 3 1 av (ints L.segs) :: stPt ps last pi uv (.slice ta tn tc) :: RLogRep q d L :: DskRep d D2 :: F))).mono ?_
      rintro ee w13 ⟨v, rfl, rfl, h13⟩
      refine hK _ _ (.inr (.inl (h13.cellP pkD 3 rfl))) ?_
      clear hK h12
      refine rg_eff 11 evD (by kernel_rfl) (fun K hK => ?_)
      (refine eff_call2 (by kernel_rfl) evD evD ?_)
      refine (rdrop_c t (by have := Htl.out; omega) HT3.out (Ro.of_pick (fun w hw => Htv.out w (Sat.rd hw)) (show Pick (osl 3 1 av (ints L.segs)) _ _ from pick0)) (h13.sb : Sat w0 w13 (RLogRep q d L :: DskRep d D2 :: osl 3 1 av (ints L.segs) :: LogRep p m (Seg.Log.drop t t.length L M2).1.1 :: MedRep m (Seg.Log.drop t t.length L M2).1.2 :: F))).mono ?_
      rintro ee w14 ⟨v, rfl, rfl, h14⟩
      refine hK _ _ (.inl rfl) ?_
      clear hK h13
      have hres := hst.res; have hlog := hst.log; have HT4 := Lib.hid hst.two
      rw [hlog] at h14
      rw [hres]
      clear hst hres hlog
      generalize (Seg.Log.drop t t.length L M2).1.1 = L3 at *
      generalize (Seg.Log.drop t t.length L M2).1.2 = M3 at *
      generalize (Seg.Log.rdrop t t.length L D2).1.2 = D3 at *
      generalize (Seg.Log.drop t t.length L M2).2 = ed at *
      have hbe : (ed == ed) = true := beq_self_eq_true _
      have hbn : (ed != ed) = false := by simp
      refine rp 12 (hy := (yl_bin evD evD rnD)) (h := ?_)
      refine rp 13 (hy := (yl_move evD)) (h := ?_)
      refine rp 14 (hy := (yg_move (by rfl) evD)) (h := ?_)
      refine rp 16 (hy := (yg_move (by rfl) evD)) (h := ?_)
      clear hbe hbn
      refine rg_eff 15 evD (by kernel_rfl) (fun K hK => ?_)
      refine eg_call [ptr p] (by rfl) (by kernel_rfl) (by rfl) ?_
      refine (lsegs_c HT4.out.log (h14.pk (A := LogRep p m L3))).mono ?_
      rintro ee w15 ⟨sv, rfl, h15⟩
      refine hK _ _ (.inl rfl) ?_
      clear hK h14
      obtain ⟨s1, s2, rfl⟩ := ints_sl (Sat.rd h15)
      refine rg_eff 17 evD (by kernel_rfl) (fun K hK => ?_)
      refine eg_call [ptr q] (by rfl) (by kernel_rfl) (by rfl) ?_
      refine (r14numbers_c HT4.out.log (h15.pk (A := RLogRep q d L3))).mono ?_
      rintro ee w16 ⟨v, rfl, ov, rfl, h16⟩
      refine hK _ _ (.inl rfl) ?_
      clear hK h15
      obtain ⟨o1, o2, rfl⟩ := ints_sl (Sat.rd h16)
      refine rg_eff 18 evD (by kernel_rfl) (fun K hK => ?_)
      refine eg_call [.slice s1 L3.segs.length s2, .slice o1 L3.segs.length o2] (by rfl) (by kernel_rfl) (by rfl) ?_
      refine (sameInts_c L3.segs (Ro.of_pick (fun w hw => Sat.rd hw) (A := osl 3 1 (.slice s1 L3.segs.length s2) (ints L3.segs)) pkD) (fun w hw => Sat.rd hw) h16 (by have := HT4.out.log.len; unfold Seg.Log.segs; rw [List.length_map]; omega)).mono ?_
      rintro ee w17 ⟨v, rfl, rfl, h17⟩
      refine hK _ _ (.inl rfl) ?_
      clear hK h16
      refine rp 19 (hy := (yg_un (by rfl) evD rnD)) (h := ?_)
      refine rp 20 (hy := (yg_pick (by rfl) evD evD)) (h := ?_)
      refine wpL_done (by kernel_rfl) ?_
      try simp only [List.getElem_toArray, List.getElem_cons_succ, List.getElem_cons_zero]
      try go_frame
      have h18 : Sat w0 w17 (MedRep m M3 :: DskRep d D3 :: F) := h17.sb
      clear h17
      have hrc : Ro w0 F (rdsl 1 (.slice ca (min cn 40) cc) (ints (cl.take 40))) := fun w hw => rdsl_cutI (Hcl.out w hw)
      have Hrc := Lib.hid hrc
      have Hc2 := Lib.hid (show capOk (.slice ca (min cn 40) cc) from ⟨_, _, _, rfl, Nat.le_trans (Nat.min_le_left _ _) Hcn.out.1, Hcn.out.2⟩)
      clear hrc
      obtain ⟨φ, V, sd⟩ := HT4.out.side
      have ht40 : (13 + t.length + 1) * 2000 ≤ 1048576 := by have := Htl.out; omega
      have Ht40 := Lib.hid ht40
      obtain ⟨φ', V', sd'⟩ := sd.crash (cl.take 40)
      have hlist := sd'.list
      have Hlist := Lib.hid hlist
      have Hok' := Lib.hid (HT4.out.ok.crash (cl.take 40))
      have Hfit' := Lib.hid (HT4.out.fit.crash (cl.take 40))
      clear sd sd' hlist ht40
      go_wp2_with fail
      refine (numbers_c ca cn cc 40 Hcn.out.1 Hcn.out.2 _).mono ?_
      rintro ee w19 ⟨v, rfl, rfl, rfl⟩
      go_wp2_with fail
      refine (crash_c HT4.out.ok (Nat.le_trans Ht40.out (by decide)) h18 (cl.take 40) (Ro.os Hrc.out) Hc2.out (fun x hx => Hci.out x (List.mem_of_mem_take hx))).mono ?_
      rintro ee w20 ⟨v, rfl, h20⟩
      clear h18
      go_wp2_with fail
      refine (numbers_c ca cn cc 40 Hcn.out.1 Hcn.out.2 _).mono ?_
      rintro ee w21 ⟨v, rfl, rfl, rfl⟩
      go_wp2_with fail
      refine (rcrash_c (cl.take 40) (Ro.os Hrc.out) HT4.out.fit.ok Ht40.out (h20.sb : Sat w0 w20 (DskRep d D3 :: MedRep m (M3.crash (cl.take 40)) :: F))).mono ?_
      rintro ee w22 ⟨v, rfl, h22⟩
      clear h20
      generalize M3.crash (cl.take 40) = M4 at *
      generalize D3.rcrash (cl.take 40) = D4 at *
      go_wp2_with fail
      refine (list_c Hok'.out (h22.pk (A := MedRep m M4))).mono ?_
      rintro ee w23 ⟨v, rfl, h23, m1, m2, m3, rfl⟩
      clear h22
      have hrl := rlist_c (Nat.le_trans Hfit'.out.now (by decide)) (h23.pk (A := DskRep d D4))
      rw [Hlist.out] at hrl
      go_wp2_with fail
      refine hrl.mono ?_
      rintro ee w24 ⟨v, rfl, ov, rfl, h24⟩
      clear hrl h23
      have hsm := strSame_c M4.list M4.list (fun w hw => Sat.rd (hw.pk (A := osl 9 1 (.slice m1 m2 m3) (strs M4.list)))) (fun w hw => Sat.rd hw) h24 (by have := med_list_len Hok'.out; omega)
      rw [show decide (M4.list = M4.list) = true from decide_eq_true rfl] at hsm
      go_wp2_with fail
      refine hsm.mono ?_
      rintro ee w25 ⟨v, rfl, rfl, h25⟩
      clear hsm h24
      go_wp2_with fail
      refine (lives15_c (Ro.os HH.out) h25).mono ?_
      rintro ee w26 ⟨v, rfl, rfl, h26⟩
      clear h25
      go_wp2_with fail
      go_ret
      exact ⟨_, rfl, rfl, h26.sb⟩
    · have d1 : decide (arm ≥ 0) = false := decide_eq_false ha
      have d2 : decide (0 ≤ arm) = false := decide_eq_false ha
      obtain ⟨rfl, rfl⟩ := Hn.out ha
      go_wp2_with ((with_reducible apply at_store); refine ⟨?_⟩; refine wl_storeA (fltA Rep.Flt.zero) h7 (by rfl) (by rfl) (by rfl) upd0 (by kernel_rfl) (by rfl) ?_; intro w7 h8)
      have h11 : Sat w0 w7 (stPt ps last pi uv (.slice ta tn tc) :: osl 3 1 av (ints L.segs) :: LogRep p m L :: MedRep m M2 :: RLogRep q d L :: DskRep d D2 :: F) := h8.sb
      clear h7 h8 ha d1 d2
      try go_wp2_with fail
      have h12 := h11.drew
      clear h11
      have hst := Seg.Two.drop (t := t) t.length HT3.out
      refine wpL_begin [11, 12, 13, 14, 15, 16, 17, 18, 19, 20] (fun w' => w'.cell? ⟨ps, 3, none⟩ = some (.slice ta tn tc)) (by kernel_rfl) ?_
      have hG : World.cell? _ ⟨ps, 3, none⟩ = some (.slice ta tn tc) := h12.cellP pick0 3 rfl
      refine rp 0 (hy := (yl_move evD)) (h := ?_)
      refine rp 1 (hy := (yl_move evD)) (h := ?_)
      refine rp 2 (hy := (yl_nil evD)) (h := ?_)
      refine rp 3 (hy := (yl_field evD rnD)) (h := ?_)
      refine rt 4 (h := ?_)
      refine rp 6 (hy := (yl_move evD)) (h := ?_)
      refine rp 7 (hy := (yl_move evD)) (h := ?_)
      refine rp 8 (hy := (yl_nil evD)) (h := ?_)
      refine rp 9 (hy := (yl_field evD rnD)) (h := ?_)
      refine rt 10 (h := ?_)
      clear hG
      refine rg_eff 5 evD (by kernel_rfl) (fun K hK => ?_)
      (refine eff_call2 (by kernel_rfl) evD evD ?_)
      refine (drop_c t (Nat.le_trans Htl.out (by decide)) HT3.out.log HT3.out.ok (by decide) (Ro.of_pick (fun w hw => Htv.out w (Sat.rd hw)) (show Pick (osl 3 1 av (ints L.segs)) _ _ from pick0)) (h12.sb : Sat w0 _ (LogRep p m L :: MedRep m M2 :: osl 3 1 av (ints L.segs) :: stPt ps last pi uv (.slice ta tn tc) :: RLogRep q d L :: DskRep d D2 :: F))).mono ?_
      rintro ee w13 ⟨v, rfl, rfl, h13⟩
      refine hK _ _ (.inr (.inl (h13.cellP pkD 3 rfl))) ?_
      clear hK h12
      refine rg_eff 11 evD (by kernel_rfl) (fun K hK => ?_)
      (refine eff_call2 (by kernel_rfl) evD evD ?_)
      refine (rdrop_c t (by have := Htl.out; omega) HT3.out (Ro.of_pick (fun w hw => Htv.out w (Sat.rd hw)) (show Pick (osl 3 1 av (ints L.segs)) _ _ from pick0)) (h13.sb : Sat w0 w13 (RLogRep q d L :: DskRep d D2 :: osl 3 1 av (ints L.segs) :: LogRep p m (Seg.Log.drop t t.length L M2).1.1 :: MedRep m (Seg.Log.drop t t.length L M2).1.2 :: F))).mono ?_
      rintro ee w14 ⟨v, rfl, rfl, h14⟩
      refine hK _ _ (.inl rfl) ?_
      clear hK h13
      have hres := hst.res; have hlog := hst.log; have HT4 := Lib.hid hst.two
      rw [hlog] at h14
      rw [hres]
      clear hst hres hlog
      generalize (Seg.Log.drop t t.length L M2).1.1 = L3 at *
      generalize (Seg.Log.drop t t.length L M2).1.2 = M3 at *
      generalize (Seg.Log.rdrop t t.length L D2).1.2 = D3 at *
      generalize (Seg.Log.drop t t.length L M2).2 = ed at *
      have hbe : (ed == ed) = true := beq_self_eq_true _
      have hbn : (ed != ed) = false := by simp
      refine rp 12 (hy := (yl_bin evD evD rnD)) (h := ?_)
      refine rp 13 (hy := (yl_move evD)) (h := ?_)
      refine rp 14 (hy := (yg_move (by rfl) evD)) (h := ?_)
      refine rp 16 (hy := (yg_move (by rfl) evD)) (h := ?_)
      clear hbe hbn
      refine rg_eff 15 evD (by kernel_rfl) (fun K hK => ?_)
      refine eg_call [ptr p] (by rfl) (by kernel_rfl) (by rfl) ?_
      refine (lsegs_c HT4.out.log (h14.pk (A := LogRep p m L3))).mono ?_
      rintro ee w15 ⟨sv, rfl, h15⟩
      refine hK _ _ (.inl rfl) ?_
      clear hK h14
      obtain ⟨s1, s2, rfl⟩ := ints_sl (Sat.rd h15)
      refine rg_eff 17 evD (by kernel_rfl) (fun K hK => ?_)
      refine eg_call [ptr q] (by rfl) (by kernel_rfl) (by rfl) ?_
      refine (r14numbers_c HT4.out.log (h15.pk (A := RLogRep q d L3))).mono ?_
      rintro ee w16 ⟨v, rfl, ov, rfl, h16⟩
      refine hK _ _ (.inl rfl) ?_
      clear hK h15
      obtain ⟨o1, o2, rfl⟩ := ints_sl (Sat.rd h16)
      refine rg_eff 18 evD (by kernel_rfl) (fun K hK => ?_)
      refine eg_call [.slice s1 L3.segs.length s2, .slice o1 L3.segs.length o2] (by rfl) (by kernel_rfl) (by rfl) ?_
      refine (sameInts_c L3.segs (Ro.of_pick (fun w hw => Sat.rd hw) (A := osl 3 1 (.slice s1 L3.segs.length s2) (ints L3.segs)) pkD) (fun w hw => Sat.rd hw) h16 (by have := HT4.out.log.len; unfold Seg.Log.segs; rw [List.length_map]; omega)).mono ?_
      rintro ee w17 ⟨v, rfl, rfl, h17⟩
      refine hK _ _ (.inl rfl) ?_
      clear hK h16
      refine rp 19 (hy := (yg_un (by rfl) evD rnD)) (h := ?_)
      refine rp 20 (hy := (yg_pick (by rfl) evD evD)) (h := ?_)
      refine wpL_done (by kernel_rfl) ?_
      try simp only [List.getElem_toArray, List.getElem_cons_succ, List.getElem_cons_zero]
      try go_frame
      have h18 : Sat w0 w17 (MedRep m M3 :: DskRep d D3 :: F) := h17.sb
      clear h17
      have hrc : Ro w0 F (rdsl 1 (.slice ca (min cn 40) cc) (ints (cl.take 40))) := fun w hw => rdsl_cutI (Hcl.out w hw)
      have Hrc := Lib.hid hrc
      have Hc2 := Lib.hid (show capOk (.slice ca (min cn 40) cc) from ⟨_, _, _, rfl, Nat.le_trans (Nat.min_le_left _ _) Hcn.out.1, Hcn.out.2⟩)
      clear hrc
      obtain ⟨φ, V, sd⟩ := HT4.out.side
      have ht40 : (13 + t.length + 1) * 2000 ≤ 1048576 := by have := Htl.out; omega
      have Ht40 := Lib.hid ht40
      obtain ⟨φ', V', sd'⟩ := sd.crash (cl.take 40)
      have hlist := sd'.list
      have Hlist := Lib.hid hlist
      have Hok' := Lib.hid (HT4.out.ok.crash (cl.take 40))
      have Hfit' := Lib.hid (HT4.out.fit.crash (cl.take 40))
      clear sd sd' hlist ht40
      go_wp2_with fail
      refine (numbers_c ca cn cc 40 Hcn.out.1 Hcn.out.2 _).mono ?_
      rintro ee w19 ⟨v, rfl, rfl, rfl⟩
      go_wp2_with fail
      refine (crash_c HT4.out.ok (Nat.le_trans Ht40.out (by decide)) h18 (cl.take 40) (Ro.os Hrc.out) Hc2.out (fun x hx => Hci.out x (List.mem_of_mem_take hx))).mono ?_
      rintro ee w20 ⟨v, rfl, h20⟩
      clear h18
      go_wp2_with fail
      refine (numbers_c ca cn cc 40 Hcn.out.1 Hcn.out.2 _).mono ?_
      rintro ee w21 ⟨v, rfl, rfl, rfl⟩
      go_wp2_with fail
      refine (rcrash_c (cl.take 40) (Ro.os Hrc.out) HT4.out.fit.ok Ht40.out (h20.sb : Sat w0 w20 (DskRep d D3 :: MedRep m (M3.crash (cl.take 40)) :: F))).mono ?_
      rintro ee w22 ⟨v, rfl, h22⟩
      clear h20
      generalize M3.crash (cl.take 40) = M4 at *
      generalize D3.rcrash (cl.take 40) = D4 at *
      go_wp2_with fail
      refine (list_c Hok'.out (h22.pk (A := MedRep m M4))).mono ?_
      rintro ee w23 ⟨v, rfl, h23, m1, m2, m3, rfl⟩
      clear h22
      have hrl := rlist_c (Nat.le_trans Hfit'.out.now (by decide)) (h23.pk (A := DskRep d D4))
      rw [Hlist.out] at hrl
      go_wp2_with fail
      refine hrl.mono ?_
      rintro ee w24 ⟨v, rfl, ov, rfl, h24⟩
      clear hrl h23
      have hsm := strSame_c M4.list M4.list (fun w hw => Sat.rd (hw.pk (A := osl 9 1 (.slice m1 m2 m3) (strs M4.list)))) (fun w hw => Sat.rd hw) h24 (by have := med_list_len Hok'.out; omega)
      rw [show decide (M4.list = M4.list) = true from decide_eq_true rfl] at hsm
      go_wp2_with fail
      refine hsm.mono ?_
      rintro ee w25 ⟨v, rfl, rfl, h25⟩
      clear hsm h24
      go_wp2_with fail
      refine (lives15_c (Ro.os HH.out) h25).mono ?_
      rintro ee w26 ⟨v, rfl, rfl, h26⟩
      clear h25
      go_wp2_with fail
      go_ret
      exact ⟨_, rfl, rfl, h26.sb⟩
end
end Go.Proofs.YtmjldaedhmipkaaGreatDoor
namespace Go.Proofs.YtmjldaedhmipkaaGreatDoor.card
open Go.ChangeShapes Go.WideShapes Go.ChangeAt Go.RowKit
open Go Go.Sl Go.Med
theorem gHalf : Tryz.prog.globalNamed "hoard/crc.half" = some 0 := by kernel_rfl
theorem tHalf : ((Tryz.prog.globals[0]?).map (·.type)) = some 284 := by kernel_rfl
theorem door_met (os : Os) (args : Array Value) : laidMetH Tryz.prog [("hoard/crc.half", Rows.laid_hoard_crc_half)] ((World.doorLaid Tryz.prog 400 os).forCall (fun _ _ => 0) ⟨#[], args, []⟩).memory :=
  laidMetH_of_parts3 (fuel := 8) (laidMet_of_run' 8 (by kernel_rfl) (by kernel_rfl)) (by kernel_rfl) (by kernel_rfl)
theorem of_laid {W : World} (h : laidMetH Tryz.prog [("hoard/crc.half", Rows.laid_hoard_crc_half)] W) : 0 < W.heap.size ∧ Half W := by
  rw [MakeChecks.laidMetH_plain _ _ _ (by kernel_rfl)] at h
  obtain ⟨ps, ⟨g0, t0, cs0, f0, p0, q0, hg0, ht0, hv0, hd0, hrest⟩, hrest2⟩ := h
  obtain rfl := Option.some.inj (gHalf.symm.trans hg0)
  obtain rfl := Option.some.inj (tHalf.symm.trans ht0)
  obtain ⟨xs, m1, rfl, hx1, hlen, hn3, hel⟩ := DataW.trod_array Tryz.underlying284 hd0
  have c3 : Tryz.prog.cellsOf 233 = 1 := by kernel_rfl
  simp only [Prod.mk.injEq, Rows.laid_hoard_crc_half, DataW.agg.injEq] at hx1
  have hH : Half W := by
    intro i hi
    have h0 := hel i hi
    have hxi : xs[i]? = some (xs[i]'(by omega)) := List.getElem?_eq_getElem (by omega)
    rw [hxi] at h0
    obtain ⟨k, e1, e2, _⟩ := DataW.trod_int Tryz.underlying233 h0
    rw [c3, Nat.mul_one] at e1
    have hc : cs0.toList[i]? = some (.int .u32 k) := by
      have : ((cs0.toList.drop i).take 1)[0]? = some (.int .u32 k) := by rw [e1]; rfl
      rw [List.getElem?_take, if_pos (by decide), List.getElem?_drop] at this
      exact this
    have hL := congrArg (fun l => l[i]?) hx1.1
    rw [List.getElem?_map, hxi] at hL
    have hk : k = ((Frm.half.getD i 0 : Nat) : Int) := by
      rw [e2] at hL
      rcases i with _ | _ | _ | _ | _ | _ | _ | _ | _ | _ | _ | _ | _ | _ | _ | _ | i
      all_goals first | omega | (simp at hL; rw [← hL]; rfl)
    subst hk
    have := World.var?_cell hg0 hv0 i
    rw [this, ← Array.getElem?_toList]
    exact hc
  refine ⟨?_, hH⟩
  by_cases hz : 0 < W.heap.size
  · exact hz
  · have h0 := hH 0 (by decide)
    have e : W.heap[0]? = none := Array.getElem?_eq_none (by omega)
    simp [World.cell?, e] at h0
end Go.Proofs.YtmjldaedhmipkaaGreatDoor.card
