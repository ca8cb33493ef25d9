import Derived.Test.YtlinnpehkfbnkaaGreatDoorJ6
import Derived.Test.YtlinnpehkfbnkaaGreatDoorRows
import Derived.Test.YtlinnpehkfbnkaaGreatDoorCards
import Derived.Test.YtlinnpehkfbnkaaGreatDoorTie
import Derived.ProofKit
import Derived.LaidMore
import Derived.OpenShut
import Derived.ShutString
import Derived.SevenTiedAt
set_option linter.unusedVariables false
namespace Go.Proofs.YtlinnpehkfbnkaaGreatDoor
open Go Go.Sl Go.Med Go.MapKept Go.RowKit
section
variable {w0 w : World} {F : List HProp} {p q m d K i : Nat} {L : Seg.Log} {M D : Med} {tv : Value}
set_option maxRecDepth 20000 in
set_option maxHeartbeats 8000000 in
theorem drop_c (t : List Int) (htl : t.length ≤ 1048576) (hL : L.Ok) (hM : M.Ok K) (hK : K ≤ 1048576) (hr : Ro w0 F (rdsl 1 tv (ints t))) (h : Sat w0 w (LogRep p m L :: MedRep m M :: F)) :
    Calls Tryz.prog 107 #[ptr p, tv] w (Rtn fun v w' => v = errno (Seg.Log.drop t t.length L M).2 ∧ Sat w0 w' (LogRep p m (Seg.Log.drop t t.length L M).1.1 :: MedRep m (Seg.Log.drop t t.length L M).1.2 :: F)) := by
  obtain ⟨ta, tc, rfl⟩ := ints_sl (hr w h.drop.drop)
  have Hr := Lib.hid hr; have Htl := Lib.hid htl; have HK := Lib.hid hK
  have w1 : IntKind.i64.wrap ((t.length : Int) - 1) = (t.length : Int) - 1 := IntWalk.i64_in _ (by omega)
  have H0 := Lib.hid (show L.Ok ∧ M.Ok K from ⟨hL, hM⟩)
  clear hr htl hK hL hM
  go_enter Tryz.func107, Tryz.ntmps107
  go_wp2_with fail
  go_loopg [5] t.length (fun g iq wr => ∃ (k : Nat) (L' : Seg.Log) (M' : Med), g = 0 + k ∧ k ≤ t.length ∧ iq = .int .i64 ((k : Int) - 1) ∧ Seg.Log.drop t t.length L M = Seg.Log.drop t k L' M' ∧ L'.Ok ∧ M'.Ok (K + (t.length - k)) ∧ Sat w0 wr (LogRep p m L' :: MedRep m M' :: F))
  case atStart => exact ⟨t.length, L, M, (Nat.zero_add _).symm, Nat.le_refl _, rfl, rfl, H0.out.1, H0.out.2.mono (Nat.le_add_right _ _), h⟩
  case round =>
    obtain ⟨k, L', M', rfl, hk, rfl, he, hL, hM, hS⟩ := hrel
    clear h
    cases k with
    | zero =>
      have c1 : ¬ (((0 : Nat) : Int) - 1) ≥ 0 := by decide
      have He := Lib.hid he; have HM := Lib.hid hM; have HL := Lib.hid hL
      clear he hL hM hk
      by_cases ht : t = []
      · have hb : ((t.length : Int) == 0) = true := by rw [ht]; rfl
        have Hf := Lib.hid (Seg.drop_nil (L := L') (M := M') ht)
        clear ht
        go_wp2_with fail
        go_ret
        rw [He.out, Hf.out]
        exact ⟨_, rfl, rfl, hS⟩
      · have hb : ((t.length : Int) == 0) = false := by
          rw [beq_eq_false_iff_ne]
          intro e
          exact ht (List.eq_nil_of_length_eq_zero (by omega))
        have Hf := Lib.hid (Seg.drop_end (L := L') (M := M') ht)
        clear ht
        go_wp2_with fail
        refine (lsync_c HM.out hS).mono ?_
        rintro ee w2 ⟨v, rfl, rfl, hS2⟩
        clear hS
        go_wp2_with fail
        go_ret
        rw [He.out, Hf.out]
        exact ⟨_, rfl, rfl, hS2⟩
    | succ k =>
      have e1 : ((k + 1 : Nat) : Int) - 1 = (k : Int) := by omega
      rw [e1]
      have c1 : (k : Int) ≥ 0 := by omega
      have c2 : (k : Int) < (t.length : Int) := by omega
      have w2 : IntKind.i64.wrap ((k : Int) - 1) = (k : Int) - 1 := IntWalk.i64_in _ (by have := Htl.out; omega)
      obtain ⟨s, hs⟩ : ∃ s, t[k]? = some s := ⟨_, List.getElem?_eq_getElem (by omega)⟩
      have hgd : t.getD k 0 = s := by rw [List.getD, hs]; rfl
      obtain ⟨bk, off, cc, e2, c0⟩ := ints_cell (Hr.out _ hS.drop.drop) hs
      cases e2
      have hrm := lremove_c hL hM (by have := HK.out; have := Htl.out; omega) s hS
      have He := Lib.hid he; have Hk := Lib.hid hk
      have hlog := hL.remove M' s
      have hmed := Seg.remove_med (L := L') hM s
      have Hgo := Lib.hid (fun (h0 : (L'.remove M' s).2 = 0) => Seg.drop_go (t := t) (L := L') (M := M') (k := k) (by rw [hgd]; exact h0))
      have Hno := Lib.hid (fun (h0 : (L'.remove M' s).2 ≠ 0) => Seg.drop_no (t := t) (L := L') (M := M') (k := k) (by rw [hgd]; exact h0))
      rw [hgd] at Hgo Hno
      clear he hk hs hgd hL hM hS
      generalize L'.remove M' s = r at *
      obtain ⟨⟨L2, M2⟩, e⟩ := r
      dsimp only at hrm hlog hmed Hgo Hno
      have Hlog := Lib.hid hlog; have Hmed := Lib.hid hmed
      clear hlog hmed
      go_wp2_with fail
      refine hrm.mono ?_
      rintro ee w3 ⟨v, rfl, rfl, hS3⟩
      clear hrm c0
      by_cases h0 : e = 0
      · subst h0
        have Hf := Lib.hid (Hgo.out rfl)
        go_wp2_with fail
        go_roundg (0 + k)
        case measure => omega
        case rel => exact ⟨k, L2, M2, rfl, Nat.le_of_succ_le Hk.out, by first | rfl | go_num, He.out.trans Hf.out, Hlog.out, Hmed.out.mono (by have := Hk.out; omega), hS3⟩
      · have hb : (e != 0) = true := by rw [bne_iff_ne]; exact h0
        have hb2 : (e == 0) = false := by rw [beq_eq_false_iff_ne]; exact h0
        have Hf := Lib.hid (Hno.out h0)
        clear h0
        go_wp2_with fail
        go_ret
        rw [He.out, Hf.out]
        exact ⟨_, rfl, rfl, hS3⟩
end
end Go.Proofs.YtlinnpehkfbnkaaGreatDoor
namespace Go.Sl
open Go
section
variable {P : Program} {ops : Array Oper} {Q : Exit → Act → World → Prop} {late : List Nat} {G : World → Prop} {n : Nat} {l : Array Bool} {a : Act} {w : World} {oi oj : Oper}
theorem rg_eff2 (i j : Nat) (hi : ops.toList[i]? = some oi) (hj : ops.toList[j]? = some oj) (hr : Region.ready .any ops l = [i, j])
    (h1 : ∀ K : Act → World → Prop, (∀ a' w', keeps late G i w w' → wpL P ops Q late G n (l.setIfInBounds i true) a' w' → K a' w') →
      if Region.wanted oi (yielded ops a.tmps) = true then Oper.wp P oi a w K Q else K (a.put oi.dst undef) w)
    (h2 : ∀ K : Act → World → Prop, (∀ a' w', keeps late G j w w' → wpL P ops Q late G n (l.setIfInBounds j true) a' w' → K a' w') →
      if Region.wanted oj (yielded ops a.tmps) = true then Oper.wp P oj a w K Q else K (a.put oj.dst undef) w) : wpL P ops Q late G (n + 1) l a w := by
  rw [Array.getElem?_toList] at hi hj
  refine ⟨(fun h0 => by rw [hr] at h0; cases h0), fun k hk => ?_⟩
  rw [hr] at hk
  have hk2 : k = i ∨ k = j := by simpa using hk
  rcases hk2 with rfl | rfl
  · have := h1 _ (fun a' w' h1 h2 => And.intro h1 h2)
    unfold wpOp
    rw [hi]
    show if Region.wanted oi (yielded ops a.tmps) = true then _ else _
    split
    · rename_i hw; rw [if_pos hw] at this; exact .inl this
    · rename_i hw; rw [if_neg hw] at this; exact this
  · have := h2 _ (fun a' w' h1 h2 => And.intro h1 h2)
    unfold wpOp
    rw [hj]
    show if Region.wanted oj (yielded ops a.tmps) = true then _ else _
    split
    · rename_i hw; rw [if_pos hw] at this; exact .inl this
    · rename_i hw; rw [if_neg hw] at this; exact this
end
end Go.Sl
namespace Go.Proofs.YtlinnpehkfbnkaaGreatDoor
open Go Go.Sl Go.Med Go.MapKept Go.RowKit
abbrev rpPt (r m : Nat) (seg : Int) (p ps pn : Nat) (d : Bool) : HProp := pt r (.cells #[ptr m, .int .i64 seg, ptr p, ptr ps, ptr pn, .bool d] 77 (0,0))
section
variable {w0 w : World} {F : List HProp} {p m K r ps pn : Nat} {L : Seg.Log} {M : Med} {limit : Int}
set_option maxHeartbeats 2000000 in
theorem newestE_c (hM : M.Ok K) (hl : M.list = []) (h : Sat w0 w (MedRep m M :: F)) : Calls Tryz.prog 20 #[ptr m] w (Rtn fun v w' => v = .int .i64 (-1) ∧ Sat w0 w' (MedRep m M :: F)) := by
  have hls := list_c hM h
  go_enter Tryz.func20, Tryz.ntmps20
  go_wp2_with fail
  refine hls.mono ?_
  rintro e w1 ⟨v, rfl, hS, a, n, c, rfl⟩
  clear hls
  have hn : n = 0 := by
    obtain ⟨_, _, _, he, hl2, _⟩ := Sat.rd hS
    cases he
    rw [hl] at hl2
    simpa [strs] using hl2.symm
  subst hn
  go_wp2_with fail
  go_loopg [3, 11] 0 (fun g lv iq wr => lv = .int .i64 (-1) ∧ iq = .int .i64 0 ∧ wr = w1)
  case atStart => exact ⟨rfl, rfl, rfl⟩
  case round =>
    obtain ⟨rfl, rfl, rfl⟩ := hrel
    go_wp2
    go_ret
    exact ⟨_, rfl, rfl, hS.drop⟩
theorem runOut0 {bt : Rep.Told} {v : Value} (h : RunOut w0 F bt [] p m L M v w) : ∃ (ps pi : Nat) (uv tv : Value), v = .tuple #[ptr ps, .agg (fltA Rep.Flt.zero), errno 0] ∧ (∃ a c, tv = .slice a 0 c) ∧
    Sat w0 w (stPt ps (-1) pi uv tv :: TabML pi (fun _ => none) 0 :: osl 121 3 uv [] :: LogRep p m L :: MedRep m M :: F) := by
  have hr : Rep.run bt [] = .inr 0 := rfl
  unfold RunOut at h
  rw [hr] at h
  obtain ⟨ps, pi, uv, tv, av, kv, rfl, ⟨_, _, hk⟩, ⟨⟨a', c', rfl⟩, _⟩, hS⟩ := h
  obtain rfl : kv = [] := List.length_eq_zero_iff.1 (Nat.le_zero.1 hk)
  exact ⟨ps, pi, uv, _, rfl, ⟨a', c', rfl⟩, hS.sb⟩
set_option maxRecDepth 20000 in
set_option maxHeartbeats 4000000 in
theorem found0_c (hL : L.Ok) (hs : L.segs = []) (hM : M.Ok K) (hl : M.list = []) (hH : Ro w0 F Half) (h : Sat w0 w (LogRep p m L :: MedRep m M :: F)) :
    Calls Tryz.prog 106 #[ptr p, ptr m] w (Rtn fun v w' => ∃ (ps pi : Nat) (uv tv : Value), v = .tuple #[ptr ps, .agg (fltA Rep.Flt.zero), errno 0] ∧ (∃ a c, tv = .slice a 0 c) ∧
      Sat w0 w' (stPt ps (-1) pi uv tv :: TabML pi (fun _ => none) 0 :: osl 121 3 uv [] :: LogRep p m L :: MedRep m M :: F)) := by
  have HL := Lib.hid hL; have Hs := Lib.hid hs; have HM := Lib.hid hM; have Hl := Lib.hid hl; have HH := Lib.hid hH
  clear hL hs hM hl hH
  go_enter Tryz.func106, Tryz.ntmps106
  go_wp2_with (with_reducible apply at_alloc)
  refine ⟨?_⟩
  refine wl_alloc zFlt h rfl ?_
  intro b5 w5 h5
  have hla := last_c (F := pt b5 (.cells (fltA Rep.Flt.zero) 37 (0,0)) :: F) HL.out HM.out (Ro.os HH.out) (h5.sb : Sat w0 w5 (LogRep p m L :: MedRep m M :: pt b5 (.cells (fltA Rep.Flt.zero) 37 (0,0)) :: F))
  rw [Hs.out, show Rep.lastOf (lbt L M) [] = (-1, 0) from rfl] at hla
  clear h h5
  go_wp2_with fail
  refine hla.mono ?_
  rintro ee w6 ⟨v, rfl, rfl, h6⟩
  clear hla
  go_wp2_with fail
  refine (newestE_c HM.out Hl.out (h6.sb : Sat w0 w6 (MedRep m M :: LogRep p m L :: pt b5 (.cells (fltA Rep.Flt.zero) 37 (0,0)) :: F))).mono ?_
  rintro ee w7 ⟨v, rfl, rfl, h7⟩
  clear h6
  have hru := run_c (F := pt b5 (.cells (fltA Rep.Flt.zero) 37 (0,0)) :: F) HL.out HM.out (Ro.os HH.out) (by rw [Hs.out]; exact Nat.zero_le _) (by rw [Hs.out]; intro r hr; cases hr) (h7.sb : Sat w0 w7 (LogRep p m L :: MedRep m M :: pt b5 (.cells (fltA Rep.Flt.zero) 37 (0,0)) :: F))
  clear h7
  go_wp2_with fail
  refine hru.mono ?_
  rintro ee w8 ⟨v, rfl, h8⟩
  clear hru
  rw [Hs.out] at h8
  obtain ⟨ps, pi, uv, tv, rfl, htv, h9⟩ := runOut0 h8
  clear h8
  have h10 : Sat w0 w8 (pt b5 (.cells (fltA Rep.Flt.zero) 37 (0,0)) :: stPt ps (-1) pi uv tv :: TabML pi (fun _ => none) 0 :: osl 121 3 uv [] :: LogRep p m L :: MedRep m M :: F) := h9.sb
  clear h9
  go_wp2_with ((with_reducible apply at_store); refine ⟨?_⟩; refine wl_storeA (fltA Rep.Flt.zero) h10 (by rfl) (by rfl) (by rfl) upd0 (by kernel_rfl) (by rfl) ?_; intro w11 h11)
  refine ⟨rfl, _, res_tct rfl h11 (by rfl) pick0 Tryz.underlying37 rfl (by kernel_rfl), _, rfl, ps, pi, uv, tv, rfl, htv, h11.drop⟩
theorem plRepo : placesB Tryz.prog 77 = some [(0, 1), (1, 1), (2, 1), (3, 1), (4, 1), (5, 1)] := by kernel_rfl
theorem zRepo : zeroB Tryz.prog 77 = some (.agg #[.pointer none, .int .i64 0, .pointer none, .pointer none, .pointer none, .bool false]) := by kernel_rfl
theorem run_repo5 (seg : Int) (w : World) : (Instr.build 77 #[(0, ptr m), (1, .int .i64 seg), (2, ptr p), (3, ptr ps), (4, ptr pn)]).run Tryz.prog w = .ok (.agg #[ptr m, .int .i64 seg, ptr p, ptr ps, ptr pn, .bool false]) w :=
  run_build (P := Tryz.prog) [(0, ptr m), (1, .int .i64 seg), (2, ptr p), (3, ptr ps), (4, ptr pn)] plRepo zRepo (by
    intro q hq
    simp only [List.mem_cons, List.not_mem_nil, or_false] at hq
    rcases hq with rfl | rfl | rfl | rfl | rfl
    · exact ⟨0, rfl, by show 0 + 1 ≤ 6; decide⟩
    · exact ⟨1, rfl, by show 1 + 1 ≤ 6; decide⟩
    · exact ⟨2, rfl, by show 2 + 1 ≤ 6; decide⟩
    · exact ⟨3, rfl, by show 3 + 1 ≤ 6; decide⟩
    · exact ⟨4, rfl, by show 4 + 1 ≤ 6; decide⟩) w
set_option maxRecDepth 20000 in
set_option maxHeartbeats 8000000 in
theorem ropen0_c (h1 : 128 ≤ limit) (h2 : limit ≤ 1048576) (hM : M.Ok K) (hK : K ≤ 1048576) (ha : Seg.alive M = 0) (hf : (Seg.fresh M limit).segs = []) (hl : M.list = []) (hH : Ro w0 F Half) (h : Sat w0 w (MedRep m M :: F)) :
    Calls Tryz.prog 44 #[ptr m, .int .i64 limit] w (Rtn fun v w' => ∃ (r p ps pi pn : Nat) (uv : Value), v = .tuple #[ptr r, .agg (fltA Rep.Flt.zero), errno 0] ∧
      Sat w0 w' (rpPt r m limit p ps pn false :: stPt ps (-1) pi uv (.slice none 0 0) :: TabML pn (fun _ => none) 0 :: TabML pi (fun _ => none) 0 :: osl 121 3 uv [] :: LogRep p m (Seg.fresh M limit) :: MedRep m M :: F)) := by
  have HL := Lib.hid (Seg.fresh_ok hM limit h1 h2)
  have hop := fun (w' : World) (R : List HProp) (hw : Sat w0 w' (MedRep m M :: R)) => open_c hM limit hw ha h1 h2
  have Hop := Lib.hid hop
  generalize Seg.fresh M limit = L at *
  have Hs := Lib.hid hf; have HM := Lib.hid hM; have HK := Lib.hid hK; have Hl := Lib.hid hl; have HH := Lib.hid hH
  clear h1 h2 hM hK ha hf hl hH hop
  go_enter Tryz.func44, Tryz.ntmps44
  go_wp2_with (with_reducible apply at_alloc)
  refine ⟨?_⟩
  refine wl_alloc zFlt h rfl ?_
  intro b5 w5 h5
  go_wp2_with fail
  refine (Hop.out _ _ (h5.sb : Sat w0 w5 (MedRep m M :: pt b5 (.cells (fltA Rep.Flt.zero) 37 (0,0)) :: F))).mono ?_
  rintro ee w6 ⟨v, rfl, p, rfl, h6⟩
  clear h h5
  go_wp2_with fail
  refine (found0_c HL.out Hs.out HM.out Hl.out (Ro.os HH.out) h6).mono ?_
  rintro ee w7 ⟨v, rfl, ps, pi, uv, tv, rfl, ⟨ta, tc, rfl⟩, h7⟩
  clear h6
  go_wp2_with (with_reducible apply at_alloc)
  refine ⟨?_⟩
  refine wl_alloc zFlt h7 rfl ?_
  intro b10 w8 h8
  clear h7
  go_wp2_with (with_reducible apply at_store)
  refine ⟨?_⟩
  refine wl_storeA (fltA Rep.Flt.zero) h8 (by rfl) (by rfl) (by rfl) upd0 (by kernel_rfl) (by rfl) ?_
  intro w9 h9
  clear h8
  replace h9 : Sat w0 w9 (LogRep p m L :: MedRep m M :: stPt ps (-1) pi uv (.slice ta 0 tc) :: TabML pi (fun _ => none) 0 :: osl 121 3 uv [] :: pt b5 (.cells (fltA Rep.Flt.zero) 37 (0,0)) :: F) := h9.sb
  go_wp2_with ((with_reducible apply at_load); refine ⟨?_⟩; refine wl_load1 (by assumption) (by rfl) pkD (Nat.le_of_ble_eq_true (by rfl)) evD (by kernel_rfl) ?_)
  have hdr := drop_c (tv := .slice ta 0 tc) [] (Nat.zero_le _) HL.out HM.out HK.out (fun w _ => rdsl_nil 1 0 w |> fun _ => ⟨ta, 0, tc, rfl, rfl, fun j x hj => by cases hj⟩) h9
  rw [show ([] : List Int).length = 0 from rfl, Seg.drop_nil rfl] at hdr
  refine hdr.mono ?_
  rintro ee w10 ⟨v, rfl, rfl, h10⟩
  clear hdr h9
  go_wp2_with (with_reducible apply at_store)
  refine ⟨?_⟩
  refine wl_store (cs' := #[.int .i64 (-1), ptr pi, uv, .slice none 0 0]) h10 (by rfl) (by rfl) (by rfl) upd2 (Nat.le_of_ble_eq_true (by rfl)) (by kernel_rfl) (by rfl) ?_
  intro w11 h11
  replace h11 : Sat w0 w11 (TabML pi (fun _ => none) 0 :: stPt ps (-1) pi uv (.slice none 0 0) :: LogRep p m L :: MedRep m M :: osl 121 3 uv [] :: pt b5 (.cells (fltA Rep.Flt.zero) 37 (0,0)) :: F) := h11.sb
  clear h10
  go_wp2_with ((with_reducible apply at_load); refine ⟨?_⟩; refine wl_load1 h11 (by rfl) pick1 (Nat.le_of_ble_eq_true (by rfl)) evD (by kernel_rfl) ?_)
  refine (copyL_c (by decide) h11).mono ?_
  rintro ee w12 ⟨v, rfl, pn, rfl, h12⟩
  clear h11
  go_wp2_with (first
    | ((with_reducible apply ug_at_build); refine ⟨?_⟩; first | refine wl_bld (by rfl) (run_repo5 limit) ?_ | refine wl_bld (by rfl) run_flt0 ?_)
    | ((with_reducible apply at_box); refine ⟨?_⟩; refine wl_box h12 (by rfl) (by rfl) ?_; intro r w13 h13)
    | (with_reducible apply at_store))
  refine ⟨?_⟩
  refine wl_storeA (fltA Rep.Flt.zero) (h13.sb : Sat w0 w13 (pt b5 (.cells (fltA Rep.Flt.zero) 37 (0,0)) :: rpPt r m limit p ps pn false :: stPt ps (-1) pi uv (.slice none 0 0) :: TabML pn (fun _ => none) 0 :: TabML pi (fun _ => none) 0 :: osl 121 3 uv [] :: LogRep p m L :: MedRep m M :: F)) (by rfl) (by rfl) (by rfl) upd0 (by kernel_rfl) (by rfl) ?_
  intro w14 h14
  go_wp2_with fail
  refine ⟨rfl, _, res_tct rfl h14 (by rfl) pick0 Tryz.underlying37 rfl (by kernel_rfl), _, rfl, r, rfl, p, ps, pi, pn, uv, h14.drop⟩
set_option maxHeartbeats 2000000 in
theorem rokY_c {seg : Int} {d : Bool} (h : Sat w0 w (rpPt r m seg p ps pn d :: F)) : Calls Tryz.prog 98 #[ptr r] w (Rtn fun v w' => v = .bool true ∧ w = w') := by
  have e2 : w.cell? ⟨r, 2, none⟩ = some (.pointer (some ⟨p, 0, none⟩)) := h.cellAt 2 _ rfl
  go_enter Tryz.func98, Tryz.ntmps98
  go_wp2
  go_ret
  exact ⟨_, rfl, rfl, rfl⟩
end
def NoLog (lv : Value) (w : World) : Prop := lv = .pointer none ∨ ∃ p, lv = ptr p ∧ w.cell? ⟨p, 0, none⟩ = some (.pointer none)
section
variable {w0 w : World} {F R : List HProp} {v bv dv x lv : Value}
end
section
variable {w0 w : World} {F R : List HProp} {v bv dv x lv : Value}
set_option maxHeartbeats 1000000 in
theorem deadNil_c (w : World) : Calls Tryz.prog 97 #[.pointer none] w (Rtn fun v w' => v = errno 1 ∧ w = w') := by
  go_enter Tryz.func97, Tryz.ntmps97
  go_wp2
  go_ret
  exact ⟨_, rfl, rfl, rfl⟩
set_option maxHeartbeats 1000000 in
theorem findNil_c (s : ByteArray) (w : World) : Calls Tryz.prog 136 #[.pointer none, .string s] w (Rtn fun v w' => v = .tuple #[.pointer none, errno 1] ∧ w = w') := by
  go_enter Tryz.func136, Tryz.ntmps136
  go_wp2_with (go_at_call 97; refine (deadNil_c _).mono ?_; rintro e w2 ⟨v, rfl, rfl, rfl⟩)
  go_ret2
  exact ⟨_, rfl, rfl, rfl⟩
set_option maxHeartbeats 1000000 in
theorem sizeNil_c (s : ByteArray) (w : World) : Calls Tryz.prog 75 #[.pointer none, .string s] w (Rtn fun v w' => v = .tuple #[.int .i64 0, errno 1] ∧ w = w') := by
  go_enter Tryz.func75, Tryz.ntmps75
  go_wp2_with (go_at_call 136; refine (findNil_c _ _).mono ?_; rintro e w2 ⟨v, rfl, rfl, rfl⟩)
  go_ret2
  exact ⟨_, rfl, rfl, rfl⟩
set_option maxHeartbeats 1000000 in
theorem aliveNil_c (w : World) : Calls Tryz.prog 93 #[.pointer none] w (Rtn fun v w' => v = errno 1 ∧ w = w') := by
  go_enter Tryz.func93, Tryz.ntmps93
  go_wp2_with (go_at_call 75; refine (sizeNil_c _ _).mono ?_; rintro e w2 ⟨v, rfl, rfl, rfl⟩)
  go_ret
  exact ⟨_, rfl, rfl, rfl⟩
set_option maxHeartbeats 1000000 in
theorem openNil_c (n : Int) (w : World) : Calls Tryz.prog 24 #[.pointer none, .int .i64 n] w (Rtn fun v w' => v = .tuple #[.pointer none, errno 1] ∧ w = w') := by
  go_enter Tryz.func24, Tryz.ntmps24
  go_wp2_with (go_at_call 93; refine (aliveNil_c _).mono ?_; rintro e w2 ⟨v, rfl, rfl, rfl⟩)
  go_ret2
  exact ⟨_, rfl, rfl, rfl⟩
end
end Go.Proofs.YtlinnpehkfbnkaaGreatDoor
namespace Go.Tab
theorem count_one {α : Type} (p : α → Bool) : ∀ (s : List α) (i : Nat), i < s.length → (∀ j x, s[j]? = some x → (p x = true ↔ j = i)) → s.countP p = 1
  | [], i, h, _ => absurd h (Nat.not_lt_zero _)
  | x :: s, 0, _, h => by
    have h0 : p x = true := (h 0 x rfl).2 rfl
    have h1 : s.countP p = 0 := List.countP_eq_zero.2 fun y hy hp => by
      obtain ⟨j, hj, rfl⟩ := List.getElem_of_mem hy
      have := (h (j + 1) s[j] (by rw [List.getElem?_cons_succ, List.getElem?_eq_getElem hj])).1 hp
      omega
    rw [List.countP_cons, h0, h1]; rfl
  | x :: s, i + 1, hl, h => by
    have h0 : p x = false := by
      cases hx : p x with
      | false => rfl
      | true => have := (h 0 x rfl).1 hx; omega
    rw [List.countP_cons, h0, count_one p s i (by simpa using hl) fun j y hy => by rw [h (j + 1) y (by rw [List.getElem?_cons_succ]; exact hy)]; omega]; rfl
theorem one_len {V : Type} {t : Tb V} {k : Frm.Bs} {v : V} (h : t.Ok) (hi : t.Is (put (fun _ => none) k v)) : t.n = 1 := by
  rw [h.n]
  have hk : Has t.slots k v := (hi k v).2 (by unfold put; rw [if_pos rfl])
  obtain ⟨i, x, hx, h1, hxk, _⟩ := hk
  refine count_one _ t.slots i (List.getElem?_eq_some_iff.1 hx).1 fun j y hy => ?_
  constructor
  · intro hp
    have hy1 : y.st = 1 := by simpa using hp
    have hyk : y.key = k := by
      have := (hi y.key y.val).1 ⟨j, y, hy, hy1, rfl, rfl⟩
      unfold put at this
      split at this
      · assumption
      · cases this
    exact h.good.one hy hx hy1 h1 (hyk.trans hxk.symm)
  · rintro rfl
    rw [hx] at hy
    cases hy
    simpa using h1
end Go.Tab
namespace Go.Proofs.YtlinnpehkfbnkaaGreatDoor
open Go Go.Sl Go.Med Go.MapKept Go.RowKit
section
variable {w0 w : World} {F : List HProp} {p m K r ps pn B : Nat} {L : Seg.Log} {M : Med} {seg : Int} {d : Bool} {k : Frm.Bs} {mp : Frm.Bs → Option Seg.Plc}
set_option maxHeartbeats 2000000 in
theorem rlen_c (h : Sat w0 w (rpPt r m seg p ps pn d :: TabML pn mp B :: F)) :
    Calls Tryz.prog 40 #[ptr r] w (Rtn fun v w' => ∃ t : Tab.Tb Seg.Plc, (t.Ok ∧ t.Is mp) ∧ v = .int .i64 t.n ∧ w = w') := by
  have hok := rokY_c h
  have hle := lenL_c (h.sb : Sat w0 w (TabML pn mp B :: rpPt r m seg p ps pn d :: F))
  have e4 : w.cell? ⟨r, 4, none⟩ = some (.pointer (some ⟨pn, 0, none⟩)) := h.cellAt 4 _ rfl
  clear h
  go_enter Tryz.func40, Tryz.ntmps40
  go_wp2_with fail
  refine hok.mono ?_
  rintro e w1 ⟨v, rfl, rfl, rfl⟩
  go_wp2_with fail
  refine hle.mono ?_
  rintro e w2 ⟨v, rfl, t, ht, rfl, rfl⟩
  go_wp2_with fail
  go_ret
  exact ⟨_, rfl, t, ht, rfl, rfl⟩
set_option maxRecDepth 20000 in
set_option maxHeartbeats 8000000 in
theorem rpput_c (hB : B ≤ 134217000) (hk : k.length = 32) (data : Frm.Bs) (da : Option Addr) (dc : Nat) (hd : Ro w0 F (rdsl 1 (.slice da data.length dc) (bys data))) (hLd : data.length ≤ 1099511627) (hL : L.Ok) (hM : M.Ok K) (hKK : K + 4 ≤ 1099511627776) (hH : Ro w0 F Half)
    (h0 : (L.append M ⟨0, k, data⟩).2.2 = 0) (h : Sat w0 w (rpPt r m seg p ps pn d :: TabML pn mp B :: LogRep p m L :: MedRep m M :: F)) :
    Calls Tryz.prog 34 #[ptr r, .agg (bys k).toArray, .slice da data.length dc] w (Rtn fun v w' => v = errno 0 ∧
      Sat w0 w' (rpPt r m seg p ps pn true :: TabML pn (Tab.put mp k (L.append M ⟨0, k, data⟩).2.1) (B + 1) :: LogRep p m (L.append M ⟨0, k, data⟩).1.1 :: MedRep m (L.append M ⟨0, k, data⟩).1.2 :: F)) := by
  have hks : (bys k).length = 32 := by rw [bys_len, hk]
  have hap := Lib.hid (fun (w' : World) (R : List HProp) (hh : Ro w0 R Half) (hr : Ro w0 R (rdsl 1 (.slice da data.length dc) (bys data))) (hw : Sat w0 w' (LogRep p m L :: MedRep m M :: R)) => lappend_c ⟨0, k, data⟩ hk da dc hr hh hLd hL hM hKK hw)
  generalize L.append M ⟨0, k, data⟩ = q at *
  obtain ⟨⟨L2, M2⟩, pc, e2⟩ := q
  dsimp only at h0 hap ⊢
  subst h0
  have HB := Lib.hid hB; have Hkey := Lib.hid hk; have Hks := Lib.hid hks; have Hd := Lib.hid hd; have HH := Lib.hid hH
  clear hB hk hks hd hLd hL hM hKK hH
  go_enter Tryz.func34, Tryz.ntmps34
  go_wp2_with (with_reducible apply at_box)
  refine ⟨?_⟩
  refine wl_box h evD evD ?_
  intro b4 w4 h4
  replace h4 : Sat w0 w4 (pt b4 (.cells (bys k).toArray 24 (0,0)) :: rpPt r m seg p ps pn d :: TabML pn mp B :: LogRep p m L :: MedRep m M :: F) := h4
  clear h
  go_wp2_with fail
  refine (rokY_c (h4.sb : Sat w0 w4 (rpPt r m seg p ps pn d :: pt b4 (.cells (bys k).toArray 24 (0,0)) :: TabML pn mp B :: LogRep p m L :: MedRep m M :: F))).mono ?_
  rintro ee w5 ⟨v, rfl, rfl, rfl⟩
  go_wp2_with fail
  have h5 := h4.drew
  clear h4
  refine wpL_begin [7, 8, 9, 10, 12, 13] (fun w' => w'.cell? ⟨r, 2, none⟩ = some (.pointer (some ⟨p, 0, none⟩)) ∧ w'.rangeAt b4 0 (bys k)) (by kernel_rfl) ?_
  have hGf : ∀ (w' : World) (R : List HProp) (dd : Bool), Sat w0 w' (pt b4 (.cells (bys k).toArray 24 (0,0)) :: rpPt r m seg p ps pn dd :: R) → w'.cell? ⟨r, 2, none⟩ = some (.pointer (some ⟨p, 0, none⟩)) ∧ w'.rangeAt b4 0 (bys k) := fun w' R dd hw => ⟨hw.cellP pick1 2 rfl, fun j z hj => by rw [Nat.zero_add]; exact hw.cellP pick0 j (by rw [List.getElem?_toArray]; exact hj)⟩
  have HGf := Lib.hid hGf
  have hG := hGf _ _ _ h5
  clear hGf
  refine rp 0 (hy := (yl_move evD)) (h := ?_)
  refine rp 1 (hy := (yl_nil evD)) (h := ?_)
  refine rp 2 (hy := (yl_field evD rnD)) (h := ?_)
  refine rt 3 (h := ?_)
  refine rg_take 4 evD (by kernel_rfl) (by intro _ _ _ h; exact h) (tk_loadN (b := b4) (o := 0) (bys k) (by rfl) Tryz.underlying24 rfl (by rw [Hks.out]; kernel_rfl) (fun w hw => hw.2)) (by assumption) (by go_frame; first | done | rfl) ?_
  clear hG
  refine rp 5 (hy := (yl_move evD)) (h := ?_)
  refine rp 6 (hy := (yl_build3 evD evD evD (fun w => run_buildEnt ⟨0, k, data⟩ Hkey.out da data.length dc w))) (h := ?_)
  refine rg_eff2 7 11 evD evD (by kernel_rfl) (fun K hK => ?_) (fun K hK => ?_)
  · (refine eff_call2 (by kernel_rfl) evD evD ?_)
    refine (hap.out _ _ (Ro.os HH.out) (Ro.os Hd.out) (h5.sb : Sat w0 _ (LogRep p m L :: MedRep m M :: pt b4 (.cells (bys k).toArray 24 (0,0)) :: rpPt r m seg p ps pn d :: TabML pn mp B :: F))).mono ?_
    rintro ee w6 ⟨v, rfl, rfl, h6⟩
    refine hK _ _ (.inl rfl) ?_
    clear hK hap h5
    refine rp 8 (hy := (yl_move evD)) (h := ?_)
    refine rp 9 (hy := (yl_extract evD rnD)) (h := ?_)
    refine rp 10 (hy := (yl_extract evD rnD)) (h := ?_)
    refine rg_eff 11 evD (by kernel_rfl) (fun K hK => ?_)
    refine eff_alloc (zValL) h6 rfl ?_
    intro b7 w7 h7
    refine hK _ _ (.inr (.inl (HGf.out _ _ _ (h7.sb : Sat w0 w7 (pt b4 (.cells (bys k).toArray 24 (0,0)) :: rpPt r m seg p ps pn d :: TabML pn mp B :: pt b7 (.cells (penc Seg.Plc.zero).toArray 54 (0,0)) :: LogRep p m L2 :: MedRep m M2 :: F))))) ?_
    clear hK h6
    have h8 : Sat w0 w7 (pt b7 (.cells (penc Seg.Plc.zero).toArray 54 (0,0)) :: pt b4 (.cells (bys k).toArray 24 (0,0)) :: rpPt r m seg p ps pn d :: TabML pn mp B :: LogRep p m L2 :: MedRep m M2 :: F) := h7.sb
    clear h7
    refine rg_eff 12 evD (by kernel_rfl) (fun K hK => ?_)
    refine eff_store (cs' := (penc pc).toArray) h8 evD evD (by rfl) upd0 (Nat.le_of_ble_eq_true (by rfl)) (by kernel_rfl) (by rfl) ?_
    intro w9 h9
    refine hK _ _ (.inl rfl) ?_
    clear hK h8
    refine rp 13 (hy := (yl_assign evD)) (h := ?_)
    refine wpL_done (by kernel_rfl) ?_
    go_wp2_with fail
    have h10 := h9.drew
    clear h9
    replace h10 : Sat w0 _ (pt b4 (.cells (bys k).toArray 24 (0,0)) :: rpPt r m seg p ps pn d :: TabML pn mp B :: pt b7 (.cells (penc pc).toArray 54 (0,0)) :: LogRep p m L2 :: MedRep m M2 :: F) := h10.sb
    refine wpL_begin [6] (fun w' => w'.cell? ⟨r, 4, none⟩ = some (.pointer (some ⟨pn, 0, none⟩)) ∧ w'.rangeAt b4 0 (bys k) ∧ w'.rangeAt b7 0 (penc pc)) (by kernel_rfl) ?_
    have hG : World.cell? _ ⟨r, 4, none⟩ = some (.pointer (some ⟨pn, 0, none⟩)) ∧ World.rangeAt _ b4 0 (bys k) ∧ World.rangeAt _ b7 0 (penc pc) := ⟨h10.cellP pick1 4 rfl, fun j z hj => by rw [Nat.zero_add]; exact h10.cellP pick0 j (by rw [List.getElem?_toArray]; exact hj), fun j z hj => by rw [Nat.zero_add]; exact h10.cellP pick3 j (by rw [List.getElem?_toArray]; exact hj)⟩
    refine rp 0 (hy := (yl_move evD)) (h := ?_)
    refine rp 1 (hy := (yl_nil evD)) (h := ?_)
    refine rp 2 (hy := (yl_field evD rnD)) (h := ?_)
    refine rt 3 (h := ?_)
    refine rg_take 4 evD (by kernel_rfl) (by intro _ _ _ h; exact h) (tk_loadN (b := b4) (o := 0) (bys k) (by rfl) Tryz.underlying24 rfl (by rw [Hks.out]; kernel_rfl) (fun w hw => hw.2.1)) (by assumption) (by go_frame; first | done | rfl) ?_
    refine rg_take 5 evD (by kernel_rfl) (by intro _ _ _ h; exact h) (tk_loadN (b := b7) (o := 0) (penc pc) (by rfl) Tryz.underlying54 rfl (by kernel_rfl) (fun w hw => hw.2.2)) (by assumption) (by go_frame; first | done | rfl) ?_
    clear hG
    refine rg_eff 6 evD (by kernel_rfl) (fun K hK => ?_)
    (refine eff_call3 (by kernel_rfl) evD evD evD ?_)
    refine (putL_c HB.out Hkey.out pc (h10.sb : Sat w0 _ (TabML pn mp B :: pt b4 (.cells (bys k).toArray 24 (0,0)) :: rpPt r m seg p ps pn d :: pt b7 (.cells (penc pc).toArray 54 (0,0)) :: LogRep p m L2 :: MedRep m M2 :: F))).mono ?_
    rintro ee w11 ⟨v, rfl, h11⟩
    refine hK _ _ (.inl rfl) ?_
    clear hK h10
    refine wpL_done (by kernel_rfl) ?_
    go_wp2_with (with_reducible apply at_store)
    refine ⟨?_⟩
    refine wl_store (cs' := #[ptr m, .int .i64 seg, ptr p, ptr ps, ptr pn, .bool true]) (h11.sb : Sat w0 w11 (rpPt r m seg p ps pn d :: TabML pn (Tab.put mp k pc) (B + 1) :: pt b4 (.cells (bys k).toArray 24 (0,0)) :: pt b7 (.cells (penc pc).toArray 54 (0,0)) :: LogRep p m L2 :: MedRep m M2 :: F)) (by rfl) (by rfl) (by rfl) upd0 (Nat.le_of_ble_eq_true (by rfl)) (by kernel_rfl) (by rfl) ?_
    intro w12 h12
    go_wp2_with fail
    go_ret
    exact ⟨_, rfl, rfl, h12.sb⟩
  · refine eff_alloc (zValL) h5 rfl ?_
    intro b7 w6 h6
    refine hK _ _ (.inr (.inl (HGf.out _ _ _ (h6.sb : Sat w0 w6 (pt b4 (.cells (bys k).toArray 24 (0,0)) :: rpPt r m seg p ps pn d :: pt b7 (.cells (penc Seg.Plc.zero).toArray 54 (0,0)) :: TabML pn mp B :: LogRep p m L :: MedRep m M :: F))))) ?_
    clear hK h5
    refine rg_eff 7 evD (by kernel_rfl) (fun K hK => ?_)
    (refine eff_call2 (by kernel_rfl) evD evD ?_)
    refine (hap.out _ _ (Ro.os HH.out) (Ro.os Hd.out) (h6.sb : Sat w0 _ (LogRep p m L :: MedRep m M :: pt b7 (.cells (penc Seg.Plc.zero).toArray 54 (0,0)) :: pt b4 (.cells (bys k).toArray 24 (0,0)) :: rpPt r m seg p ps pn d :: TabML pn mp B :: F))).mono ?_
    rintro ee w7 ⟨v, rfl, rfl, h7⟩
    refine hK _ _ (.inl rfl) ?_
    clear hK hap h6
    refine rp 8 (hy := (yl_move evD)) (h := ?_)
    refine rp 9 (hy := (yl_extract evD rnD)) (h := ?_)
    refine rp 10 (hy := (yl_extract evD rnD)) (h := ?_)
    have h8 : Sat w0 w7 (pt b7 (.cells (penc Seg.Plc.zero).toArray 54 (0,0)) :: pt b4 (.cells (bys k).toArray 24 (0,0)) :: rpPt r m seg p ps pn d :: TabML pn mp B :: LogRep p m L2 :: MedRep m M2 :: F) := h7.sb
    clear h7
    refine rg_eff 12 evD (by kernel_rfl) (fun K hK => ?_)
    refine eff_store (cs' := (penc pc).toArray) h8 evD evD (by rfl) upd0 (Nat.le_of_ble_eq_true (by rfl)) (by kernel_rfl) (by rfl) ?_
    intro w9 h9
    refine hK _ _ (.inl rfl) ?_
    clear hK h8
    refine rp 13 (hy := (yl_assign evD)) (h := ?_)
    refine wpL_done (by kernel_rfl) ?_
    go_wp2_with fail
    have h10 := h9.drew
    clear h9
    replace h10 : Sat w0 _ (pt b4 (.cells (bys k).toArray 24 (0,0)) :: rpPt r m seg p ps pn d :: TabML pn mp B :: pt b7 (.cells (penc pc).toArray 54 (0,0)) :: LogRep p m L2 :: MedRep m M2 :: F) := h10.sb
    refine wpL_begin [6] (fun w' => w'.cell? ⟨r, 4, none⟩ = some (.pointer (some ⟨pn, 0, none⟩)) ∧ w'.rangeAt b4 0 (bys k) ∧ w'.rangeAt b7 0 (penc pc)) (by kernel_rfl) ?_
    have hG : World.cell? _ ⟨r, 4, none⟩ = some (.pointer (some ⟨pn, 0, none⟩)) ∧ World.rangeAt _ b4 0 (bys k) ∧ World.rangeAt _ b7 0 (penc pc) := ⟨h10.cellP pick1 4 rfl, fun j z hj => by rw [Nat.zero_add]; exact h10.cellP pick0 j (by rw [List.getElem?_toArray]; exact hj), fun j z hj => by rw [Nat.zero_add]; exact h10.cellP pick3 j (by rw [List.getElem?_toArray]; exact hj)⟩
    refine rp 0 (hy := (yl_move evD)) (h := ?_)
    refine rp 1 (hy := (yl_nil evD)) (h := ?_)
    refine rp 2 (hy := (yl_field evD rnD)) (h := ?_)
    refine rt 3 (h := ?_)
    refine rg_take 4 evD (by kernel_rfl) (by intro _ _ _ h; exact h) (tk_loadN (b := b4) (o := 0) (bys k) (by rfl) Tryz.underlying24 rfl (by rw [Hks.out]; kernel_rfl) (fun w hw => hw.2.1)) (by assumption) (by go_frame; first | done | rfl) ?_
    refine rg_take 5 evD (by kernel_rfl) (by intro _ _ _ h; exact h) (tk_loadN (b := b7) (o := 0) (penc pc) (by rfl) Tryz.underlying54 rfl (by kernel_rfl) (fun w hw => hw.2.2)) (by assumption) (by go_frame; first | done | rfl) ?_
    clear hG
    refine rg_eff 6 evD (by kernel_rfl) (fun K hK => ?_)
    (refine eff_call3 (by kernel_rfl) evD evD evD ?_)
    refine (putL_c HB.out Hkey.out pc (h10.sb : Sat w0 _ (TabML pn mp B :: pt b4 (.cells (bys k).toArray 24 (0,0)) :: rpPt r m seg p ps pn d :: pt b7 (.cells (penc pc).toArray 54 (0,0)) :: LogRep p m L2 :: MedRep m M2 :: F))).mono ?_
    rintro ee w11 ⟨v, rfl, h11⟩
    refine hK _ _ (.inl rfl) ?_
    clear hK h10
    refine wpL_done (by kernel_rfl) ?_
    go_wp2_with (with_reducible apply at_store)
    refine ⟨?_⟩
    refine wl_store (cs' := #[ptr m, .int .i64 seg, ptr p, ptr ps, ptr pn, .bool true]) (h11.sb : Sat w0 w11 (rpPt r m seg p ps pn d :: TabML pn (Tab.put mp k pc) (B + 1) :: pt b4 (.cells (bys k).toArray 24 (0,0)) :: pt b7 (.cells (penc pc).toArray 54 (0,0)) :: LogRep p m L2 :: MedRep m M2 :: F)) (by rfl) (by rfl) (by rfl) upd0 (Nat.le_of_ble_eq_true (by rfl)) (by kernel_rfl) (by rfl) ?_
    intro w12 h12
    go_wp2_with fail
    go_ret
    exact ⟨_, rfl, rfl, h12.sb⟩
def oneK : Frm.Bs := 1 :: List.replicate 31 0
theorem oneK_len : oneK.length = 32 := rfl
theorem run_id1 (w : World) : (Instr.build 24 #[(0, .int .u8 1)]).run Tryz.prog w = .ok (.agg (bys oneK).toArray) w := by kernel_rfl
theorem live17_append : ((Seg.fresh liveM 200).append liveM ⟨0, oneK, []⟩).2.2 = 0 := by rw [live_fresh]; kernel_rfl
theorem live17_list : liveM.list = [] := by kernel_rfl
set_option maxRecDepth 20000 in
set_option maxHeartbeats 8000000 in
theorem lives17_c (hH : Ro w0 F Half) (h : Sat w0 w F) : Calls Tryz.prog 45 #[] w (Rtn fun v w' => v = .bool true ∧ Sat w0 w' F) := by
  have hnew : Calls Tryz.prog 46 #[.int .i64 1000] w (Rtn fun v w' => ∃ m, v = .tuple #[ptr m, errno 0] ∧ Sat w0 w' (MedRep m liveM :: F)) := new_yes 1000 (by decide) h
  have HH := Lib.hid hH
  have Hok : liveM.Ok 20 := Med.Ok.new 20 1000 (by decide)
  clear hH
  go_enter Tryz.func45, Tryz.ntmps45
  go_wp2_with fail
  refine hnew.mono ?_
  rintro e w1 ⟨v, rfl, m, rfl, hS⟩
  clear hnew h
  go_wp2_with fail
  refine (ropen0_c (K := 20) (limit := 200) (by decide) (by decide) Hok (by decide) live_alive (by rw [live_fresh]; rfl) live17_list HH.out hS).mono ?_
  rintro e w2 ⟨v, rfl, r, p, ps, pi, pn, uv, rfl, h2⟩
  clear hS
  go_wp2_with (with_reducible apply at_alloc)
  refine ⟨?_⟩
  refine wl_alloc zFlt h2 rfl ?_
  intro b4 w4 h4
  go_wp2_with ((with_reducible apply at_store); refine ⟨?_⟩; refine wl_storeA (fltA Rep.Flt.zero) h4 (by rfl) (by rfl) (by rfl) upd0 (by kernel_rfl) (by rfl) ?_; intro w5 h5)
  go_wp2_with (first
    | ((with_reducible apply ug_build); refine ⟨?_⟩; refine ug_op (by rfl) ?_)
    | ((with_reducible apply ug_at_build); refine ⟨?_⟩; refine wl_bld (by rfl) run_id1 ?_))
  have h6 : Sat w0 w5 (rpPt r m 200 p ps pn false :: TabML pn (fun _ => none) 0 :: LogRep p m (Seg.fresh liveM 200) :: MedRep m liveM :: pt b4 (.cells (fltA Rep.Flt.zero) 37 (0,0)) :: stPt ps (-1) pi uv (.slice none 0 0) :: TabML pi (fun _ => none) 0 :: osl 121 3 uv [] :: F) := h5.sb
  clear h2 h4 h5
  have hp := rpput_c (by decide) oneK_len [] none 0 (fun w _ => rdsl_nil 1 0 w) (Nat.zero_le _) (Seg.fresh_ok Hok 200 (by decide) (by decide)) Hok (by decide) (Ro.os HH.out) live17_append h6
  generalize (Seg.fresh liveM 200).append liveM ⟨0, oneK, []⟩ = q at *
  obtain ⟨⟨L2, M2⟩, pc, e2⟩ := q
  refine hp.mono ?_
  rintro e w7 ⟨v, rfl, rfl, h7⟩
  clear hp h6
  go_wp2_with fail
  refine (rlen_c h7).mono ?_
  rintro e w8 ⟨v, rfl, t, ⟨ok, is⟩, rfl, rfl⟩
  rw [Tab.one_len ok is]
  go_wp2_with fail
  go_ret
  exact ⟨_, rfl, rfl, h7.sb⟩
set_option maxHeartbeats 2000000 in
theorem ropenN_c (n : Int) (h : Sat w0 w F) : Calls Tryz.prog 44 #[.pointer none, .int .i64 n] w (Rtn fun v w' => v = .tuple #[.pointer none, .agg (fltA Rep.Flt.zero), errno 1] ∧ Sat w0 w' F) := by
  go_enter Tryz.func44, Tryz.ntmps44
  go_wp2_with (with_reducible apply at_alloc)
  refine ⟨?_⟩
  refine wl_alloc zFlt h rfl ?_
  intro b5 w5 h5
  go_wp2_with fail
  refine (openNil_c n _).mono ?_
  rintro e w6 ⟨v, rfl, rfl, rfl⟩
  go_wp2_with (first
    | ((with_reducible apply ug_at_build); refine ⟨?_⟩; refine wl_bld (by rfl) run_flt0 ?_)
    | ((with_reducible apply at_store); refine ⟨?_⟩; refine wl_storeA (fltA Rep.Flt.zero) h5 (by rfl) (by rfl) (by rfl) upd0 (by kernel_rfl) (by rfl) ?_; intro w7 h7))
  refine ⟨rfl, _, res_tct rfl h7 (by rfl) pick0 Tryz.underlying37 rfl (by kernel_rfl), _, rfl, rfl, h7.drop⟩
theorem run_repo0 (w : World) : (Instr.build 77 #[]).run Tryz.prog w = .ok (.agg #[.pointer none, .int .i64 0, .pointer none, .pointer none, .pointer none, .bool false]) w := run_build (P := Tryz.prog) [] plRepo zRepo (by simp) w
set_option maxRecDepth 20000 in
set_option maxHeartbeats 16000000 in
theorem repo_nobody_c (hk : k.length = 32) (a : Option Addr) (n c : Nat) (hnc : n ≤ c) (hc : c ≤ 9223372036854775807) (hH : Ro w0 F Half) (h : Sat w0 w F) : Calls Tryz.prog 6 #[.agg (bys k).toArray, .slice a n c] w (Rtn fun v w' => v = .bool true ∧ Sat w0 w' F) := by
  have hks : (bys k).length = 32 := by rw [bys_len, hk]
  have HH := Lib.hid hH; have Hkey := Lib.hid hk; have Hks := Lib.hid hks
  clear hH hk hks
  go_enter Tryz.func6, Tryz.ntmps6
  go_wp2_with (with_reducible apply at_box)
  refine ⟨?_⟩
  refine wl_box h evD evD ?_
  intro b2 w2 h2
  replace h2 : Sat w0 w2 (pt b2 (.cells (bys k).toArray 24 (0,0)) :: F) := h2
  clear h
  go_wp2_with fail
  refine (cut_c a n c 100 hnc hc _).mono ?_
  rintro ee w3 ⟨v, rfl, rfl, rfl⟩
  generalize Value.slice a (min n 100) c = bv at *
  go_wp2_with fail
  go_loopg [5] 2 (fun g iq wr => ∃ i : Nat, g = 2 - i ∧ i ≤ 2 ∧ iq = .int .i64 i ∧ Sat w0 wr (pt b2 (.cells (bys k).toArray 24 (0,0)) :: F))
  case atStart => exact ⟨0, rfl, by omega, rfl, h2⟩
  case round =>
    obtain ⟨i, rfl, hi, rfl, hS⟩ := hrel
    clear h2
    have h01 : i = 0 ∨ i = 1 ∨ i = 2 := by omega
    clear hi
    rcases h01 with rfl | rfl | rfl
    · have HN := Lib.hid (show NR w0 (pt b2 (.cells (bys k).toArray 24 (0,0)) :: F) (.pointer none) from .inl rfl)
      go_wp2_with (first | ((with_reducible apply at_load); refine ⟨?_⟩; refine wl_loadA hS (by rfl) pick0 Tryz.underlying24 rfl (by rw [List.size_toArray, Hks.out]; kernel_rfl) ?_) | ((with_reducible apply ug_load); refine ⟨?_⟩; refine ug_op (by first | rfl | kernel_rfl) ?_))
      refine (nget_c HN.out hS).mono ?_
      rintro ee w10 ⟨v, rfl, rfl, h10⟩
      go_wp2_with (first | ((with_reducible apply at_load); refine ⟨?_⟩; refine wl_loadA h10 (by rfl) pick0 Tryz.underlying24 rfl (by rw [List.size_toArray, Hks.out]; kernel_rfl) ?_) | ((with_reducible apply ug_load); refine ⟨?_⟩; refine ug_op (by first | rfl | kernel_rfl) ?_))
      refine (nplace_c HN.out h10).mono ?_
      rintro ee w11 ⟨v, rfl, rfl, h11⟩
      go_wp2_with (with_reducible apply at_alloc)
      refine ⟨?_⟩
      refine wl_alloc zValL h11 rfl ?_
      intro b9 w12 h12
      go_wp2_with (with_reducible apply at_store)
      refine ⟨?_⟩
      refine wl_storeA (penc Seg.Plc.zero).toArray h12 (by rfl) (by rfl) (by rfl) upd0 (by kernel_rfl) (by rfl) ?_
      intro w13 h13
      have h14 := h13.drop
      clear h10 h11 h12 h13
      (try dsimp only); repeat (first | (refine ug_load ?_; refine ⟨?_⟩; refine ug_op (by rfl) ?_; refine wl_loadA h14 (by rfl) pick0 Tryz.underlying24 rfl (by rw [List.size_toArray, Hks.out]; kernel_rfl) ?_) | go_values | go_skip | go_guarded | go_step | go_upon | go_back | (go_values <;> (try go_simp)))
      refine (nhas_c Hkey.out HN.out h14).mono ?_
      rintro ee w20 ⟨v, rfl, rfl, h20⟩
      clear h14
      go_wp2_with fail
      refine (ndirty_c HN.out h20).mono ?_
      rintro ee w21 ⟨v, rfl, rfl, rfl⟩
      (try dsimp only); repeat (first | (refine ug_load ?_; refine ⟨?_⟩; refine ug_op (by rfl) ?_; refine wl_loadA h20 (by rfl) pick0 Tryz.underlying24 rfl (by rw [List.size_toArray, Hks.out]; kernel_rfl) ?_) | go_values | go_skip | go_guarded | go_step | go_upon | go_back | (go_values <;> (try go_simp)))
      refine (nput_c HN.out h20).mono ?_
      rintro ee w22 ⟨v, rfl, rfl, h22⟩
      clear h20
      (try dsimp only); repeat (first | (refine ug_load ?_; refine ⟨?_⟩; refine ug_op (by rfl) ?_; refine wl_loadA h22 (by rfl) pick0 Tryz.underlying24 rfl (by rw [List.size_toArray, Hks.out]; kernel_rfl) ?_) | go_values | go_skip | go_guarded | go_step | go_upon | go_back | (go_values <;> (try go_simp)))
      refine (ndel_c HN.out h22).mono ?_
      rintro ee w23 ⟨v, rfl, rfl, h23⟩
      clear h22
      go_wp2_with fail
      refine (ncom_c HN.out h23).mono ?_
      rintro ee w24 ⟨v, rfl, rfl, rfl⟩
      go_wp2_with fail
      refine (nroll_c HN.out h23).mono ?_
      rintro ee w25 ⟨v, rfl, rfl, rfl⟩
      go_wp2_with fail
      refine (nrel_c HN.out h23).mono ?_
      rintro ee w26 ⟨v, rfl, rfl, rfl⟩
      go_wp2_with fail
      refine (nkeys_c HN.out h23).mono ?_
      rintro ee w27 ⟨v, rfl, rfl, rfl⟩
      go_wp2_with fail
      refine (nlen_c HN.out h23).mono ?_
      rintro ee w28 ⟨v, rfl, rfl, rfl⟩
      go_wp2_with fail
      refine (nstate_c HN.out h23).mono ?_
      rintro ee w29 ⟨v, rfl, rfl, rfl⟩
      go_wp2_with fail
      refine (nlog_c HN.out h23).mono ?_
      rintro ee w30 ⟨v, rfl, rfl, rfl⟩
      go_wp2_with fail
      refine (nmed_c HN.out h23).mono ?_
      rintro ee w31 ⟨v, rfl, rfl, rfl⟩
      go_wp2_with fail
      go_roundg (2 - (0 + 1))
      case measure => omega
      case rel => exact ⟨0 + 1, rfl, by omega, by first | rfl | go_num, h23.sb⟩
    · go_wp2_with (first
        | ((with_reducible apply ug_at_build); refine ⟨?_⟩; refine wl_bld (by rfl) run_repo0 ?_)
        | ((with_reducible apply at_box); refine ⟨?_⟩; refine wl_box hS (by rfl) (by rfl) ?_; intro rb w4 h4)
        | (with_reducible apply at_load))
      refine ⟨?_⟩
      have h5 : Sat w0 w4 (pt b2 (.cells (bys k).toArray 24 (0,0)) :: pt rb (.cells #[.pointer none, .int .i64 0, .pointer none, .pointer none, .pointer none, .bool false] 77 (0,0)) :: F) := h4.sb
      clear hS h4
      have HN := Lib.hid (show NR w0 (pt b2 (.cells (bys k).toArray 24 (0,0)) :: pt rb (.cells #[.pointer none, .int .i64 0, .pointer none, .pointer none, .pointer none, .bool false] 77 (0,0)) :: F) (ptr rb) from .inr ⟨rb, rfl, fun w hw => hw.cellP pick1 2 rfl⟩)
      refine wl_loadA h5 (by rfl) pick0 Tryz.underlying24 rfl (by rw [List.size_toArray, Hks.out]; kernel_rfl) ?_
      go_wp2_with (first | ((with_reducible apply at_load); refine ⟨?_⟩; refine wl_loadA h5 (by rfl) pick0 Tryz.underlying24 rfl (by rw [List.size_toArray, Hks.out]; kernel_rfl) ?_) | ((with_reducible apply ug_load); refine ⟨?_⟩; refine ug_op (by first | rfl | kernel_rfl) ?_))
      refine (nget_c HN.out h5).mono ?_
      rintro ee w10 ⟨v, rfl, rfl, h10⟩
      go_wp2_with (first | ((with_reducible apply at_load); refine ⟨?_⟩; refine wl_loadA h10 (by rfl) pick0 Tryz.underlying24 rfl (by rw [List.size_toArray, Hks.out]; kernel_rfl) ?_) | ((with_reducible apply ug_load); refine ⟨?_⟩; refine ug_op (by first | rfl | kernel_rfl) ?_))
      refine (nplace_c HN.out h10).mono ?_
      rintro ee w11 ⟨v, rfl, rfl, h11⟩
      go_wp2_with (with_reducible apply at_alloc)
      refine ⟨?_⟩
      refine wl_alloc zValL h11 rfl ?_
      intro b9 w12 h12
      go_wp2_with (with_reducible apply at_store)
      refine ⟨?_⟩
      refine wl_storeA (penc Seg.Plc.zero).toArray h12 (by rfl) (by rfl) (by rfl) upd0 (by kernel_rfl) (by rfl) ?_
      intro w13 h13
      have h14 := h13.drop
      clear h10 h11 h12 h13
      (try dsimp only); repeat (first | (refine ug_load ?_; refine ⟨?_⟩; refine ug_op (by rfl) ?_; refine wl_loadA h14 (by rfl) pick0 Tryz.underlying24 rfl (by rw [List.size_toArray, Hks.out]; kernel_rfl) ?_) | go_values | go_skip | go_guarded | go_step | go_upon | go_back | (go_values <;> (try go_simp)))
      refine (nhas_c Hkey.out HN.out h14).mono ?_
      rintro ee w20 ⟨v, rfl, rfl, h20⟩
      clear h14
      go_wp2_with fail
      refine (ndirty_c HN.out h20).mono ?_
      rintro ee w21 ⟨v, rfl, rfl, rfl⟩
      (try dsimp only); repeat (first | (refine ug_load ?_; refine ⟨?_⟩; refine ug_op (by rfl) ?_; refine wl_loadA h20 (by rfl) pick0 Tryz.underlying24 rfl (by rw [List.size_toArray, Hks.out]; kernel_rfl) ?_) | go_values | go_skip | go_guarded | go_step | go_upon | go_back | (go_values <;> (try go_simp)))
      refine (nput_c HN.out h20).mono ?_
      rintro ee w22 ⟨v, rfl, rfl, h22⟩
      clear h20
      (try dsimp only); repeat (first | (refine ug_load ?_; refine ⟨?_⟩; refine ug_op (by rfl) ?_; refine wl_loadA h22 (by rfl) pick0 Tryz.underlying24 rfl (by rw [List.size_toArray, Hks.out]; kernel_rfl) ?_) | go_values | go_skip | go_guarded | go_step | go_upon | go_back | (go_values <;> (try go_simp)))
      refine (ndel_c HN.out h22).mono ?_
      rintro ee w23 ⟨v, rfl, rfl, h23⟩
      clear h22
      go_wp2_with fail
      refine (ncom_c HN.out h23).mono ?_
      rintro ee w24 ⟨v, rfl, rfl, rfl⟩
      go_wp2_with fail
      refine (nroll_c HN.out h23).mono ?_
      rintro ee w25 ⟨v, rfl, rfl, rfl⟩
      go_wp2_with fail
      refine (nrel_c HN.out h23).mono ?_
      rintro ee w26 ⟨v, rfl, rfl, rfl⟩
      go_wp2_with fail
      refine (nkeys_c HN.out h23).mono ?_
      rintro ee w27 ⟨v, rfl, rfl, rfl⟩
      go_wp2_with fail
      refine (nlen_c HN.out h23).mono ?_
      rintro ee w28 ⟨v, rfl, rfl, rfl⟩
      go_wp2_with fail
      refine (nstate_c HN.out h23).mono ?_
      rintro ee w29 ⟨v, rfl, rfl, rfl⟩
      go_wp2_with fail
      refine (nlog_c HN.out h23).mono ?_
      rintro ee w30 ⟨v, rfl, rfl, rfl⟩
      go_wp2_with fail
      refine (nmed_c HN.out h23).mono ?_
      rintro ee w31 ⟨v, rfl, rfl, rfl⟩
      go_wp2_with fail
      go_roundg (2 - (1 + 1))
      case measure => omega
      case rel => exact ⟨1 + 1, rfl, by omega, by first | rfl | go_num, h23.sb⟩
    · go_wp2_with fail
      refine (ropenN_c 200 hS).mono ?_
      rintro ee w4 ⟨v, rfl, rfl, h4⟩
      go_wp2_with (with_reducible apply at_alloc)
      refine ⟨?_⟩
      refine wl_alloc zFlt h4 rfl ?_
      intro b5 w5 h5
      go_wp2_with ((with_reducible apply at_store); refine ⟨?_⟩; refine wl_storeA (fltA Rep.Flt.zero) h5 (by rfl) (by rfl) (by rfl) upd0 (by kernel_rfl) (by rfl) ?_; intro w6 h6)
      refine (lives17_c (Ro.os HH.out) h6).mono ?_
      rintro ee w7 ⟨v, rfl, rfl, h7⟩
      go_wp2_with fail
      go_ret
      exact ⟨_, rfl, rfl, h7.sb⟩
end
end Go.Proofs.YtlinnpehkfbnkaaGreatDoor
namespace Go.Proofs.YtlinnpehkfbnkaaGreatDoor.card
open Go.ChangeShapes Go.WideShapes Go.ChangeAt Go.RowKit
open Go Go.Sl Go.Med
theorem gHalf : Tryz.prog.globalNamed "hoard/crc.half" = some 0 := by kernel_rfl
theorem tHalf : ((Tryz.prog.globals[0]?).map (·.type)) = some 295 := by kernel_rfl
theorem door_met (os : Os) (args : Array Value) : laidMetH Tryz.prog [("hoard/crc.half", Rows.laid_hoard_crc_half)] ((World.doorLaid Tryz.prog 400 os).forCall (fun _ _ => 0) ⟨#[], args, []⟩).memory :=
  laidMetH_of_parts3 (fuel := 8) (laidMet_of_run' 8 (by kernel_rfl) (by kernel_rfl)) (by kernel_rfl) (by kernel_rfl)
theorem of_laid {W : World} (h : laidMetH Tryz.prog [("hoard/crc.half", Rows.laid_hoard_crc_half)] W) : 0 < W.heap.size ∧ Half W := by
  rw [MakeChecks.laidMetH_plain _ _ _ (by kernel_rfl)] at h
  obtain ⟨ps, ⟨g0, t0, cs0, f0, p0, q0, hg0, ht0, hv0, hd0, hrest⟩, hrest2⟩ := h
  obtain rfl := Option.some.inj (gHalf.symm.trans hg0)
  obtain rfl := Option.some.inj (tHalf.symm.trans ht0)
  obtain ⟨xs, m1, rfl, hx1, hlen, hn3, hel⟩ := DataW.trod_array Tryz.underlying295 hd0
  have c3 : Tryz.prog.cellsOf 236 = 1 := by kernel_rfl
  simp only [Prod.mk.injEq, Rows.laid_hoard_crc_half, DataW.agg.injEq] at hx1
  have hH : Half W := by
    intro i hi
    have h0 := hel i hi
    have hxi : xs[i]? = some (xs[i]'(by omega)) := List.getElem?_eq_getElem (by omega)
    rw [hxi] at h0
    obtain ⟨k, e1, e2, _⟩ := DataW.trod_int Tryz.underlying236 h0
    rw [c3, Nat.mul_one] at e1
    have hc : cs0.toList[i]? = some (.int .u32 k) := by
      have : ((cs0.toList.drop i).take 1)[0]? = some (.int .u32 k) := by rw [e1]; rfl
      rw [List.getElem?_take, if_pos (by decide), List.getElem?_drop] at this
      exact this
    have hL := congrArg (fun l => l[i]?) hx1.1
    rw [List.getElem?_map, hxi] at hL
    have hk : k = ((Frm.half.getD i 0 : Nat) : Int) := by
      rw [e2] at hL
      rcases i with _ | _ | _ | _ | _ | _ | _ | _ | _ | _ | _ | _ | _ | _ | _ | _ | i
      all_goals first | omega | (simp at hL; rw [← hL]; rfl)
    subst hk
    have := World.var?_cell hg0 hv0 i
    rw [this, ← Array.getElem?_toList]
    exact hc
  refine ⟨?_, hH⟩
  by_cases hz : 0 < W.heap.size
  · exact hz
  · have h0 := hH 0 (by decide)
    have e : W.heap[0]? = none := Array.getElem?_eq_none (by omega)
    simp [World.cell?, e] at h0
end Go.Proofs.YtlinnpehkfbnkaaGreatDoor.card
namespace Go.Proofs.YtlinnpehkfbnkaaGreatDoor
open Go Go.Sl Go.Med Go.ChangeShapes Go.WideShapes Go.RowKit
section
variable {H : Type} {enc : TypeId × Value → H} {W : World} {base : Nat} {spare : Nat → Bool} {held : Bool}
theorem open_key {t : TypeId} {fuel : Nat} {cs : List Value} {x : DataW H × List MemPlace} {k : Nat} (ht : Tryz.prog.underlying t = some (.array k 5)) (hk : Tryz.prog.cellsOf t = k) (h : DataW.trod enc Tryz.prog W base spare held fuel t cs = some x) :
    ∃ l : Bs, bys l = cs ∧ l.length = k := by
  obtain ⟨xs, m, _, _, hl, hxl, hf⟩ := DataW.trod_array ht h
  have e1 : Tryz.prog.cellsOf 5 = 1 := by kernel_rfl
  rw [hk] at hl
  have hz : ∀ i, i < k → ∃ z : Int, cs[i]? = some (.int .u8 z) ∧ (Lit.int .u8 z).wf = true := by
    intro i hi
    have h0 := hf i hi
    rw [List.getElem?_eq_getElem (by omega), e1, Nat.mul_one] at h0
    obtain ⟨z, q1, _, q3⟩ := DataW.trod_int Tryz.underlying5 h0
    refine ⟨z, ?_, q3⟩
    have : ((cs.drop i).take 1)[0]? = some (.int .u8 z) := by rw [q1]; rfl
    rw [List.getElem?_take, if_pos (by decide), List.getElem?_drop] at this
    exact this
  obtain ⟨zs, z1, z2⟩ := list_of_fun hz
  have hcs : cs = zs.map (.int .u8) := by
    apply List.ext_getElem? 
    intro i
    rw [List.getElem?_map]
    by_cases hi : i < k
    · have := (z2 i _ (List.getElem?_eq_getElem (by omega))).1
      rw [this, List.getElem?_eq_getElem (show i < zs.length by omega)]; rfl
    · rw [List.getElem?_eq_none (by omega), List.getElem?_eq_none (by omega)]; rfl
  refine ⟨toBs zs, ?_, by unfold toBs; rw [List.length_map]; exact z1⟩
  rw [bys_toBs, hcs]
  intro z hz
  obtain ⟨i, hi, rfl⟩ := List.getElem_of_mem hz
  exact (z2 i _ (List.getElem?_eq_getElem hi)).2
structure EntAt (W : World) (p : Frm.Ent × Value) : Prop where
  key : p.1.key.length = 32
  tag : inI p.1.tag
  rd : rdsl 1 p.2 (bys p.1.data) W
  cap : capOk p.2
end
end Go.Proofs.YtlinnpehkfbnkaaGreatDoor
