import Derived.Test.YtmjldaedhmipkaaGreatDoorJ8
import Derived.Test.YtmjldaedhmipkaaGreatDoorRows
import Derived.Test.YtmjldaedhmipkaaGreatDoorCards
import Derived.Test.YtmjldaedhmipkaaGreatDoorTie
import Derived.ProofKit
import Derived.LaidMore
import Derived.OpenShut
import Derived.ShutString
import Derived.SevenTiedAt
set_option linter.unusedVariables false
namespace Go.Seg
open Go.Med
theorem drop_med : ∀ (t : List Int) (k : Nat) {K : Nat} {L : Log} {M : Med}, M.Ok K → (Log.drop t k L M).1.2.Ok (K + k)
  | t, 0, K, L, M, h => by
    by_cases ht : t = []
    · rw [drop_nil ht]; exact h
    · rw [drop_end ht]; exact h.syncDir
  | t, k + 1, K, L, M, h => by
    have hr := remove_med (L := L) h (t.getD k 0)
    by_cases hz : (L.remove M (t.getD k 0)).2 = 0
    · rw [drop_go hz]
      have := drop_med t k (L := (L.remove M (t.getD k 0)).1.1) hr
      rw [show K + (k + 1) = K + 1 + k by omega]; exact this
    · rw [drop_no hz]; exact hr.mono (by omega)
end Go.Seg
namespace Go.Proofs.YtmjldaedhmipkaaGreatDoor
open Go Go.Sl Go.Med Go.MapKept Go.RowKit
section
variable {w0 w : World} {F : List HProp} {lv : Value} {ca : Option Addr} {cn cc : Nat}
def putD (b : Nat) : Frm.Ent × Value := (⟨0, Frm.zero32, [1]⟩, .slice (some ⟨b, 0, none⟩) 1 1)
theorem putD_ro {b : Nat} {R : List HProp} : EntRo w0 (pt b (.cells #[.int .u8 1] 5 (0,0)) :: R) (putD b) :=
  ⟨rfl, fun w hw => ⟨_, 1, 1, rfl, rfl, fun j y hj => ⟨_, rfl, by rw [add_zero_lit]; exact hw.cellAt j y (by rw [← Array.getElem?_toList]; exact hj)⟩⟩, ⟨_, _, _, rfl, Nat.le_refl 1, by decide⟩⟩
theorem two_eq (fs : List (Frm.Ent × Value)) (b : Nat) : entsL fs ++ (entA ⟨2, Frm.zero32, []⟩ (.slice none 0 0) ++ entA ⟨0, Frm.zero32, []⟩ (.slice (some ⟨b, 0, none⟩) 1 1)).toList = entsL (fs ++ [comD, putD b]) := by
  rw [entsL_app, Array.toList_append]
  congr 1
set_option maxRecDepth 20000 in
set_option maxHeartbeats 64000000 in
theorem replay_crash_c (es : List (Frm.Ent × Value)) (z : Int) (cl : List Int) (hcn : cn ≤ cc) (hcm : cc ≤ 9223372036854775807) (hci : ∀ x ∈ cl, inI x) (hcl : Ro w0 F (rdsl 1 (.slice ca cn cc) (ints cl))) (hr : Ro w0 F (rdsl 34 lv (entsL es))) (he : ∀ p ∈ es, EntRo w0 F p) (hH : Ro w0 F Half) (h : Sat w0 w F) :
    Calls Tryz.prog 9 #[.int .i64 z, lv, .slice ca cn cc] w (Rtn fun v w' => v = .bool true ∧ Sat w0 w' F) := by
  have HH := Lib.hid hH; have Hci := Lib.hid hci; have Hcl := Lib.hid hcl
  have Hcn := Lib.hid (And.intro hcn hcm)
  have Hek := Lib.hid (fun p hp => (he p hp).key)
  have Hr := Lib.hid hr; have He := Lib.hid he
  have hlim := within_mem z 128 3000 (by decide)
  have hnew : Calls Tryz.prog 13 #[.int .i64 1048576] w (Rtn fun v w' => ∃ m, v = .tuple #[ptr m, errno 0] ∧ Sat w0 w' (MedRep m (Med.new 1048576) :: F)) := new_yes 1048576 (by decide) h
  have hwi := within_c z 128 3000
  generalize within z 128 3000 = lim at *
  have Hlim := Lib.hid hlim
  clear hr he hH h hlim hcn hcm hci hcl
  go_enter Tryz.func9, Tryz.ntmps9
  go_wp2_with fail
  refine hnew.mono ?_
  rintro ee w1 ⟨v, rfl, m, rfl, h1⟩
  clear hnew
  go_wp2_with fail
  refine (hwi _).mono ?_
  rintro ee w2 ⟨v, rfl, rfl, rfl⟩
  clear hwi
  have hop := open_c (K := 0) (Med.Ok.new 0 1048576 (by decide)) lim h1 (by rfl) Hlim.out.1 (by have := Hlim.out.2; omega)
  rw [fresh_new] at hop
  go_wp2_with fail
  refine hop.mono ?_
  rintro ee w3 ⟨v, rfl, p, rfl, h3⟩
  clear hop h1
  have hfe := few15_c es 40 (by decide) (Ro.os Hr.out) (fun p hp => ⟨(He.out p hp).key, Ro.of_sub (He.out p hp).rd sbD, (He.out p hp).cap⟩) h3
  clear h3 Hr He
  go_wp2_with fail
  refine hfe.mono ?_
  rintro ee w4 ⟨v, rfl, fs, hfs, h4⟩
  clear hfe
  have hfk : ∀ q ∈ fs, q.1.key.length = 32 := few_keys (i := 40) hfs Hek.out
  obtain ⟨hfl, hfd⟩ := few_le hfs
  have Hfk := Lib.hid hfk; have Hfl := Lib.hid hfl; have Hfd := Lib.hid hfd
  have hlen : (entsL fs).length ≤ 2147483648 := by rw [entsL_len hfk]; omega
  have k5 : ∀ b : Nat, (entA ⟨2, Frm.zero32, []⟩ (.slice none 0 0) ++ entA ⟨0, Frm.zero32, []⟩ (.slice (some ⟨b, 0, none⟩) 1 1)).size = 2 * 34 := fun b => by rw [Array.size_append, entA_size _ _ rfl, entA_size _ _ rfl]
  have k6 : ∀ b : Nat, (entA ⟨2, Frm.zero32, []⟩ (.slice none 0 0) ++ entA ⟨0, Frm.zero32, []⟩ (.slice (some ⟨b, 0, none⟩) 1 1)).size ≤ 65536 := fun b => by rw [k5 b]; decide
  have k7 : ∀ b : Nat, (entA ⟨2, Frm.zero32, []⟩ (.slice none 0 0) ++ entA ⟨0, Frm.zero32, []⟩ (.slice (some ⟨b, 0, none⟩) 1 1)).toList.all (·.oneCell') = true := fun b => by
    rw [Array.toList_append, List.all_append, entA_one, entA_one]; rfl
  clear hfs hfk hfl hfd Hek
  go_wp2_with (first
    | ((with_reducible apply at_gbuild); refine ⟨?_⟩; refine wl_unguard (by rfl) ?_; refine wl_buildKind (by rfl) ?_)
    | ((with_reducible apply at_gbuild); refine ⟨?_⟩; refine wl_unguard (by rfl) ?_; refine wl_build2 (by rfl) (by rfl) (fun w => run_buildKD 0 (some ⟨bD, 0, none⟩) 1 1 w) ?_)
    | ((with_reducible apply at_gslice); refine ⟨?_⟩; refine wl_unguard (by rfl) ?_; refine wl_build1 (e := 5) (sz := 1) (by' := 1) (cs := #[.int .u8 1]) (by kernel_rfl) h4 (by rfl) rfl rfl (Nat.le_of_ble_eq_true (by rfl)) ?_; intro bD wD hD)
    | ((with_reducible apply at_gslice); refine ⟨?_⟩; refine wl_unguard (by rfl) ?_; refine wl_two (e := 107) (sz := 34) (by' := 64) (cs1 := entA ⟨2, Frm.zero32, []⟩ (.slice none 0 0)) (cs2 := entA ⟨0, Frm.zero32, []⟩ (.slice (some ⟨bD, 0, none⟩) 1 1)) (by kernel_rfl) hD (by rfl) (by rfl) rfl rfl (entA_size _ _ rfl) (entA_size _ _ rfl) (Nat.le_of_ble_eq_true (by rfl)) ?_; intro bN wN hN)
    | ((with_reducible apply at_gapp); refine ⟨?_⟩; refine wl_unguard (by rfl) ?_; refine wl_app 107 34 64 (by kernel_rfl) hN (by rfl) (by rfl) pkD pkD (k5 bD) (by decide) (k7 bD) hlen (k6 bD) (by decide) rfl ?_; intro bA nA cA w6 hA))
  rw [two_eq] at hA
  have h7 : Sat w0 w6 (LogRep p m ⟨lim, [], false, 0⟩ :: MedRep m (Med.new 1048576) :: dataS fs :: osl 107 34 (.slice (some ⟨bA, 0, none⟩) nA cA) (entsL (fs ++ [comD, putD bD])) :: pt bD (.cells #[.int .u8 1] 5 (0,0)) :: F) := hA.sb
  clear hA hN hD h4 hlen k5 k6 k7
  have hes := dataS_ent Hfk.out (h7.sb : Sat w0 w6 (dataS fs :: F))
  have hmo := more15_c (lv := .slice (some ⟨bA, 0, none⟩) nA cA) (fs ++ [comD, putD bD]) (Seg.Pl.start lim Hlim.out.1 (by have := Hlim.out.2; omega)) (by rw [List.length_append]; have := Hfl.out; simp only [List.length_cons, List.length_nil]; omega) (Ro.of_pick (fun w hw => Sat.rd hw) pick1)
    (fun q hq => by
      rcases List.mem_append.1 hq with hq | hq
      · exact ⟨(hes q hq).key, Ro.of_sub (hes q hq).rd sbD, (hes q hq).cap⟩
      · rcases List.mem_cons.1 hq with rfl | hq
        · exact comD_ro
        · rw [List.mem_singleton.1 hq]; exact ⟨rfl, Ro.of_sub (putD_ro (R := F)).rd sbD, putD_ro (w0 := w0) (R := F).cap⟩)
    (fun q hq => by
      rcases List.mem_append.1 hq with hq | hq
      · exact Nat.le_trans (Hfd.out q hq) (by decide)
      · rcases List.mem_cons.1 hq with rfl | hq
        · exact Nat.zero_le _
        · rw [List.mem_singleton.1 hq]; exact (show 1 ≤ 300 by decide)) (Ro.os HH.out) h7
  rw [show (fs ++ [comD, putD bD]).map (·.1) = (fs.map (·.1) ++ [comD.1]) ++ [(putD 0).1] by rw [List.map_append, List.append_assoc]; rfl, Seg.playL_snoc] at hmo
  have Hds := Lib.hid (show ∀ d ∈ fs.map (·.1) ++ [comD.1], d.key.length = 32 ∧ d.data.length ≤ 300 from fun d hd => by
    rcases List.mem_append.1 hd with hd | hd
    · obtain ⟨q, hq, rfl⟩ := List.mem_map.1 hd
      exact ⟨Hfk.out q hq, Nat.le_trans (Hfd.out q hq) (by decide)⟩
    · rw [List.mem_singleton.1 hd]; exact ⟨rfl, Nat.zero_le _⟩)
  have Hdl := Lib.hid (show (fs.map (·.1) ++ [comD.1]).length ≤ 41 by rw [List.length_append, List.length_map]; have := Hfl.out; simp only [List.length_cons, List.length_nil]; omega)
  have Hcd := Lib.hid (show ¬ Seg.isPut comD.1 by decide)
  have Hpe := Lib.hid (show Seg.isPut (putD 0).1 ∧ (putD 0).1.key.length = 32 ∧ (putD 0).1.data.length ≤ 300 ∧ (Seg.toE (putD 0).1).tag ≠ 2 from ⟨.inl rfl, rfl, (show 1 ≤ 300 by decide), (show (0 : Int) ≠ 2 by decide)⟩)
  clear hes h7 Hfk Hfl Hfd
  generalize fs.map (·.1) = ds at *
  generalize comD.1 = dc at *
  generalize (putD 0).1 = pe at *
  obtain ⟨C, hP0, hon, hll⟩ := Seg.Pl.playC ds dc _ _ _ (Seg.Pl.start lim Hlim.out.1 (by have := Hlim.out.2; omega)) Hds.out (by have := Hdl.out; omega) Hcd.out
  rw [Nat.zero_add, List.nil_append] at hP0
  have hs0 : Seg.ShutL (Seg.Log.playL (ds ++ [dc]) ⟨lim, [], false, 0⟩ (Med.new 1048576)).1 (Seg.Log.playL (ds ++ [dc]) ⟨lim, [], false, 0⟩ (Med.new 1048576)).2 :=
    Seg.ShutL.playL (ds ++ [dc]) _ _ _ (Seg.Pl.start lim Hlim.out.1 (by have := Hlim.out.2; omega)) (fun q hq => by cases hq) Hds.out (by have := Hdl.out; omega)
  generalize Seg.Log.playL (ds ++ [dc]) ⟨lim, [], false, 0⟩ (Med.new 1048576) = r0 at *
  obtain ⟨L0, M0⟩ := r0
  dsimp only at hmo hP0 hon hs0
  obtain ⟨_, _, _, hP1⟩ := hP0.step (d := pe) (by have := Hdl.out; omega) Hpe.out.2.1 Hpe.out.2.2.1
  have hs1 := hs0.play hP0 (by have := Hdl.out; omega) Hpe.out.2.1 Hpe.out.2.2.1
  have hfit : L0.fits (Frm.encode (Seg.toE pe)).1.length = false := by
    cases hf : L0.fits (Frm.encode (Seg.toE pe)).1.length with
    | false => rfl
    | true => have := Seg.fits_on' hf; rw [hon] at this; cases this
  rw [hfit, show Seg.put C false (Seg.toE pe) = C ++ [[Seg.toE pe]] from rfl] at hP1
  generalize L0.play1 M0 pe = r1 at *
  obtain ⟨⟨L, M⟩, e1⟩ := r1
  dsimp only at hmo hP1 hs1
  have hmk := Seg.drop_med (L := L) [(C.length : Int)] 1 hP1.holds.keeps.calm.ok
  have HA := Lib.hid (hP1.after (hP0.lastC Hcd.out) Hpe.out.2.2.2 hs1 lim Hlim.out.1 (by have := Hlim.out.2; omega) (by have := Hdl.out; omega) hmk)
  have Hmk := Lib.hid hmk
  have HP := Lib.hid hP1
  have HL := Lib.hid hP1.holds.keeps.log; have HM := Lib.hid hP1.holds.keeps.calm.ok
  have hcl : C.length ≤ 42 := by
    have := hP1.holds.count
    rw [List.length_append] at this
    have := Hdl.out
    simp only [List.length_cons, List.length_nil] at *; omega
  have Hcl2 := Lib.hid hcl
  clear hP0 hon hll hs0 hs1 hfit hP1 hmk hcl
  have hrl : (Rep.rowsOf (lbt L M) L.segs).length ≤ 51 := by
    have := HP.out.rows_len L.segs.length
    rw [List.take_length] at this
    exact Nat.le_trans this (by rw [List.length_append]; have := Hdl.out; simp only [List.length_cons, List.length_nil]; omega)
  have hrz : ∀ r ∈ Rep.rowsOf (lbt L M) L.segs, (r.2.size : Int) ≤ 4294967296 := fun r hr => by
    have e := HP.out.holds.rows L.segs.length
    rw [List.take_length, HP.out.holds.segs.1, List.take_length] at e
    have := HP.out.rows_size (r := r) (by rw [← e]; exact hr)
    omega
  go_wp2_with fail
  refine hmo.mono ?_
  rintro ee w8 ⟨v, rfl, rfl, h8⟩
  clear hmo
  have h9 : Sat w0 w8 (LogRep p m L :: MedRep m M :: F) := h8.sb
  clear h8
  have hrn := run_c HL.out HM.out (Ro.os HH.out) (Nat.le_trans hrl (by decide)) hrz h9
  clear h9 hrl hrz
  go_wp2_with fail
  refine hrn.mono ?_
  rintro ee w9 ⟨v, rfl, ho⟩
  clear hrn
  unfold RunOut at ho
  rw [show Rep.run (lbt L M) L.segs = .inr C.length from HA.out.run] at ho
  obtain ⟨ps, pi, uv, tv, av, kv, rfl, ⟨k1, k2, k3⟩, ⟨⟨ta, tc, rfl⟩, htv⟩, h10⟩ := ho
  have HK1 := Lib.hid k1; have Htv := Lib.hid htv
  have Hkb := Lib.hid (show kv.length ≤ 51 from Nat.le_trans k3 (Nat.le_trans (HP.out.rows_len C.length) (by rw [List.length_append]; have := Hdl.out; simp only [List.length_cons, List.length_nil]; omega)))
  clear k1 k2 k3 htv
  have h11 : Sat w0 w9 (stPt ps (Rep.lastOfL (L.segs.take C.length)) pi uv (.slice ta (L.segs.length - C.length) tc) :: TabML pi (Tab.mapOf (Rep.puts kv)) kv.length :: osl 115 3 uv (((Rep.usesOf (lbt L M) (L.segs.take C.length)).map (Rep.upd kv)).flatMap uenc) :: osl 3 1 av (ints L.segs) :: LogRep p m L :: MedRep m M :: F) := h10.sb
  clear h10
  go_wp2_with (with_reducible apply at_alloc)
  refine ⟨?_⟩
  refine wl_alloc zFlt h11 rfl ?_
  intro b12 w12 h12
  clear h11
  go_wp2_with (first | ((with_reducible apply at_store); refine ⟨?_⟩; refine wl_storeA (fltA Rep.Flt.zero) h12 (by rfl) (by rfl) (by rfl) upd0 (by kernel_rfl) (by rfl) ?_; intro w13 h13) | (with_reducible apply at_loadG))
  have h14 : Sat w0 w13 (LogRep p m L :: MedRep m M :: stPt ps (Rep.lastOfL (L.segs.take C.length)) pi uv (.slice ta (L.segs.length - C.length) tc) :: TabML pi (Tab.mapOf (Rep.puts kv)) kv.length :: osl 115 3 uv (((Rep.usesOf (lbt L M) (L.segs.take C.length)).map (Rep.upd kv)).flatMap uenc) :: osl 3 1 av (ints L.segs) :: F) := h13.sb
  clear h12 h13
  refine ⟨?_⟩
  refine wl_loadG1 (v := .slice ta (L.segs.length - C.length) tc) (by rfl) h14 (by rfl) pick2 (show 3 + 1 ≤ 4 by decide) (by rfl) (by kernel_rfl) ?_
  have hdr := drop_c [(C.length : Int)] (show 1 ≤ 1048576 by decide) HL.out HM.out (by have := Hdl.out; omega) (fun w hw => by
    have := Htv.out w (Sat.rd (hw.pk (A := osl 3 1 av (ints L.segs))))
    rw [HA.out.tail] at this; exact this) h14
  clear h14
  rw [show ([(C.length : Int)] : List Int).length = 1 from rfl, HA.out.zero] at hdr
  go_wp2_with fail
  refine hdr.mono ?_
  rintro ee w15 ⟨v, rfl, rfl, h15⟩
  clear hdr
  have hrows : Rep.rowsOf (lbt (Seg.fresh (Seg.Log.drop [(C.length : Int)] 1 L M).1.2 lim) (Seg.Log.drop [(C.length : Int)] 1 L M).1.2) (L.segs.take C.length) = Rep.rowsOf (lbt L M) (L.segs.take C.length) := HA.out.rows2
  have huses : Rep.usesOf (lbt (Seg.fresh (Seg.Log.drop [(C.length : Int)] 1 L M).1.2 lim) (Seg.Log.drop [(C.length : Int)] 1 L M).1.2) (L.segs.take C.length) = Rep.usesOf (lbt L M) (L.segs.take C.length) := HA.out.uses2
  have hrun2 : Rep.run (lbt (Seg.fresh (Seg.Log.drop [(C.length : Int)] 1 L M).1.2 lim) (Seg.Log.drop [(C.length : Int)] 1 L M).1.2) (Seg.fresh (Seg.Log.drop [(C.length : Int)] 1 L M).1.2 lim).segs = .inr C.length := HA.out.run2
  have hsg2 := HA.out.segs2; have hlen2 := HA.out.len; have hok2 := HA.out.ok2; have hfl := HA.out.flat
  have hrz : ∀ r ∈ Rep.rowsOf (lbt L M) (L.segs.take C.length), (r.2.size : Int) ≤ 4294967296 := fun r hr => by
    have e := HP.out.holds.rows C.length
    obtain ⟨_, _, _, _, _, _, _, _, hs⟩ := HP.out.row (c := C.length) (r := r) (by rw [← e]; exact hr)
    omega
  have hrl : (Rep.rowsOf (lbt L M) (L.segs.take C.length)).length ≤ 51 := Nat.le_trans (HP.out.rows_len C.length) (by rw [List.length_append]; have := Hdl.out; simp only [List.length_cons, List.length_nil]; omega)
  have hal := Seg.alive_yes Hmk.out hfl.quiet.off
  have Hul := Lib.hid (show ((Rep.usesOf (lbt L M) (L.segs.take C.length)).map (Rep.upd kv)).length ≤ 1073741824 by
    rw [List.length_map]; unfold Rep.usesOf; rw [List.length_map, hlen2]; have := Hcl2.out; omega)
  have Hrows := Lib.hid hrows; have Huses := Lib.hid huses; have Hrun2 := Lib.hid hrun2; have Hsg2 := Lib.hid hsg2; have Hlen2 := Lib.hid hlen2; have Hok2 := Lib.hid hok2; have Hfl := Lib.hid hfl; have Hal := Lib.hid hal; have Hrz := Lib.hid hrz; have Hrl := Lib.hid hrl
  have HKb := Lib.hid (show ((ds ++ [dc]).length + 1) * 5 + 1 ≤ 1099511627776 by have := Hdl.out; omega)
  clear hrows huses hrun2 hsg2 hlen2 hok2 hfl hal hrz hrl HA
  generalize (ds ++ [dc]).length + 1 = nn at *
  generalize Seg.Log.drop [(C.length : Int)] 1 L M = dr at *
  obtain ⟨⟨L', M2⟩, e2⟩ := dr
  dsimp only at h15 Hrows Huses Hrun2 Hsg2 Hok2 Hfl Hal Hmk
  generalize hL2 : Seg.fresh M2 lim = L2 at *
  have HL2e := Lib.hid hL2
  clear hL2
  have hrc : Ro w0 F (rdsl 1 (.slice ca (min cn 60) cc) (ints (cl.take 60))) := fun w hw => rdsl_cutI (Hcl.out w hw)
  have Hrc := Lib.hid hrc
  have Hc2 := Lib.hid (show capOk (.slice ca (min cn 60) cc) from ⟨_, _, _, rfl, Nat.le_trans (Nat.min_le_left _ _) Hcn.out.1, Hcn.out.2⟩)
  clear hrc
  have h16 : Sat w0 w15 (MedRep m M2 :: stPt ps (Rep.lastOfL (L.segs.take C.length)) pi uv (.slice ta (L.segs.length - C.length) tc) :: TabML pi (Tab.mapOf (Rep.puts kv)) kv.length :: osl 115 3 uv (((Rep.usesOf (lbt L M) (L.segs.take C.length)).map (Rep.upd kv)).flatMap uenc) :: F) := h15.sb
  clear h15
  go_wp2_with fail
  refine (numbers_c ca cn cc 60 Hcn.out.1 Hcn.out.2 _).mono ?_
  rintro ee w16 ⟨v, rfl, rfl, rfl⟩
  have hcr := crash_c Hmk.out HKb.out h16 (cl.take 60) (Ro.os Hrc.out) Hc2.out (fun x hx => Hci.out x (List.mem_of_mem_take hx))
  rw [Hfl.out.crash Hmk.out] at hcr
  clear h16
  go_wp2_with fail
  refine hcr.mono ?_
  rintro ee w17 ⟨v, rfl, h17⟩
  clear hcr
  have hop := open_c Hmk.out lim h17 Hal.out Hlim.out.1 (by have := Hlim.out.2; omega)
  rw [HL2e.out] at hop
  clear h17
  go_wp2_with fail
  refine hop.mono ?_
  rintro ee w18 ⟨v, rfl, p2, rfl, h18⟩
  clear hop
  have hrn := run_c Hok2.out Hmk.out (Ro.os HH.out) (by rw [Hsg2.out, Hrows.out]; exact Nat.le_trans Hrl.out (by decide)) (by rw [Hsg2.out, Hrows.out]; exact Hrz.out) h18
  clear h18
  go_wp2_with fail
  refine hrn.mono ?_
  rintro ee w19 ⟨v, rfl, ho⟩
  clear hrn
  unfold RunOut at ho
  rw [Hrun2.out] at ho
  obtain ⟨ps2, pi2, uv2, tv2, av2, kv2, rfl, ⟨k21, _, _⟩, ⟨⟨ta2, tc2, rfl⟩, _⟩, h20⟩ := ho
  have htt : L2.segs.take C.length = L.segs.take C.length := by rw [Hsg2.out, List.take_take, Nat.min_self]
  rw [htt, Hrows.out] at k21
  have ekv : kv2 = kv := k21.unique HK1.out
  have hz0 : L2.segs.length - C.length = 0 := by rw [Hsg2.out, Hlen2.out]; omega
  rw [ekv, htt, Huses.out, hz0] at h20
  clear k21 ekv htt hz0
  have Hlists := Lib.hid (Tab.mapOf_lists (Rep.puts_rise HK1.out.rise))
  have hbl : ∀ l : Int, (l == l) = true := fun l => beq_self_eq_true _
  clear HK1
  generalize ((Rep.usesOf (lbt L M) (L.segs.take C.length)).map (Rep.upd kv)) = us at *
  generalize Rep.lastOfL (L.segs.take C.length) = last at *
  have hbl := hbl last
  generalize kv.length = B at *
  generalize Rep.puts kv = ql at *
  generalize Tab.mapOf ql = mq at *
  generalize L.segs.length - C.length = t1 at *
  have h21 : Sat w0 w19 (stPt ps last pi uv (.slice ta t1 tc) :: stPt ps2 last pi2 uv2 (.slice ta2 0 tc2) :: TabML pi mq B :: TabML pi2 mq B :: osl 115 3 uv (us.flatMap uenc) :: osl 115 3 uv2 (us.flatMap uenc) :: F) := h20.sb
  clear h20
  go_wp2_with (with_reducible apply at_alloc)
  refine ⟨?_⟩
  refine wl_alloc zFlt h21 rfl ?_
  intro b15 w20 h22
  clear h21
  go_wp2_with ((with_reducible apply at_store); refine ⟨?_⟩; refine wl_storeA (fltA Rep.Flt.zero) h22 (by rfl) (by rfl) (by rfl) upd0 (by kernel_rfl) (by rfl) ?_; intro w21 h23)
  have hS : Sat w0 w21 (stPt ps last pi uv (.slice ta t1 tc) :: stPt ps2 last pi2 uv2 (.slice ta2 0 tc2) :: TabML pi mq B :: TabML pi2 mq B :: osl 115 3 uv (us.flatMap uenc) :: osl 115 3 uv2 (us.flatMap uenc) :: F) := h23.sb
  clear h22 h23
  have hSd := hS.drew
  clear hS
  refine wpL_begin [] (fun w' => w'.cell? ⟨ps, 0, none⟩ = some (.int .i64 last) ∧ w'.cell? ⟨ps2, 0, none⟩ = some (.int .i64 last) ∧ (w'.cell? ⟨ps, 1, none⟩ = some (ptr pi) ∧ w'.cell? ⟨ps2, 1, none⟩ = some (ptr pi2)) ∧ (w'.cell? ⟨ps, 2, none⟩ = some uv ∧ w'.cell? ⟨ps2, 2, none⟩ = some uv2) ∧ w'.cell? ⟨ps2, 3, none⟩ = some (.slice ta2 0 tc2)) (by kernel_rfl) ?_
  have HG := Lib.hid (fun (w' : World) (R' : List HProp) (hw : Sat w0 w' (stPt ps last pi uv (.slice ta t1 tc) :: stPt ps2 last pi2 uv2 (.slice ta2 0 tc2) :: R')) => show w'.cell? ⟨ps, 0, none⟩ = some (.int .i64 last) ∧ w'.cell? ⟨ps2, 0, none⟩ = some (.int .i64 last) ∧ (w'.cell? ⟨ps, 1, none⟩ = some (ptr pi) ∧ w'.cell? ⟨ps2, 1, none⟩ = some (ptr pi2)) ∧ (w'.cell? ⟨ps, 2, none⟩ = some uv ∧ w'.cell? ⟨ps2, 2, none⟩ = some uv2) ∧ w'.cell? ⟨ps2, 3, none⟩ = some (.slice ta2 0 tc2) from
    ⟨hw.cellP pick0 0 rfl, hw.cellP pick1 0 rfl, ⟨hw.cellP pick0 1 rfl, hw.cellP pick1 1 rfl⟩, ⟨hw.cellP pick0 2 rfl, hw.cellP pick1 2 rfl⟩, hw.cellP pick1 3 rfl⟩)
  have HX := Lib.hid (fun w' hw => HG.out w' (TabML pi mq B :: TabML pi2 mq B :: osl 115 3 uv (us.flatMap uenc) :: osl 115 3 uv2 (us.flatMap uenc) :: F) hw)
  have hG := HG.out _ _ hSd
  refine rp 0 (hy := (yl_move evD)) (h := ?_)
  refine rp 1 (hy := (yl_bin evD evD rnD)) (h := ?_)
  refine rp 2 (hy := (yl_move evD)) (h := ?_)
  refine rp 3 (hy := (yg_move (by rfl) evD)) (h := ?_)
  refine rp 4 (hy := (yg_bin (by rfl) evD evD rnD)) (h := ?_)
  refine rp 5 (hy := (yg_pick (by rfl) evD evD)) (h := ?_)
  refine rp 6 (hy := (yl_move evD)) (h := ?_)
  refine rp 7 (hy := (yg_move (by rfl) evD)) (h := ?_)
  refine rp 8 (hy := (yg_bin (by rfl) evD evD rnD)) (h := ?_)
  refine rp 9 (hy := (yg_pick (by rfl) evD evD)) (h := ?_)
  refine rp 10 (hy := (yl_move evD)) (h := ?_)
  refine rp 11 (hy := (yg_move (by rfl) evD)) (h := ?_)
  refine rp 12 (hy := (yg_nil (by rfl) evD)) (h := ?_)
  refine rp 13 (hy := (yg_field (by rfl) evD rnD)) (h := ?_)
  refine rg_take 14 evD (by kernel_rfl) (by intro _ _ _ h; exact h) (tg_load (by rfl) evD (by kernel_rfl) (fun w hw => hw.2.2.2.2)) (by assumption) (by go_frame; first | done | rfl) ?_
  refine rp 15 (hy := (yg_len (by rfl) evD rnD)) (h := ?_)
  refine rp 16 (hy := (yg_bin (by rfl) evD evD rnD)) (h := ?_)
  refine rp 17 (hy := (yg_pick (by rfl) evD evD)) (h := ?_)
  refine rp 18 (hy := (yl_move evD)) (h := ?_)
  refine rp 19 (hy := (yg_move (by rfl) evD)) (h := ?_)
  refine rp 20 (hy := (yg_nil (by rfl) evD)) (h := ?_)
  refine rp 21 (hy := (yg_field (by rfl) evD rnD)) (h := ?_)
  refine rg_take 22 evD (by kernel_rfl) (by intro _ _ _ h; exact h) (tg_load (by rfl) evD (by kernel_rfl) (fun w hw => hw.1)) (by assumption) (by go_frame; first | done | rfl) ?_
  refine rp 23 (hy := (yg_move (by rfl) evD)) (h := ?_)
  refine rp 24 (hy := (yg_nil (by rfl) evD)) (h := ?_)
  refine rp 25 (hy := (yg_field (by rfl) evD rnD)) (h := ?_)
  refine rg_take 26 evD (by kernel_rfl) (by intro _ _ _ h; exact h) (tg_load (by rfl) evD (by kernel_rfl) (fun w hw => hw.2.1)) (by assumption) (by go_frame; first | done | rfl) ?_
  refine rp 27 (hy := (yg_bin (by rfl) evD evD rnD)) (h := ?_)
  refine rp 28 (hy := (yg_pick (by rfl) evD evD)) (h := ?_)
  refine rp 29 (hy := (yl_move evD)) (h := ?_)
  refine rp 30 (hy := (yg_move (by rfl) evD)) (h := ?_)
  refine rp 31 (hy := (yg_nil (by rfl) evD)) (h := ?_)
  refine rp 32 (hy := (yg_field (by rfl) evD rnD)) (h := ?_)
  refine rg_take 33 evD (by kernel_rfl) (by intro _ _ _ h; exact h) (tg_load (by rfl) evD (by kernel_rfl) (fun w hw => hw.2.2.1.1)) (by assumption) (by go_frame; first | done | rfl) ?_
  refine rp 35 (hy := (yg_move (by rfl) evD)) (h := ?_)
  refine rp 36 (hy := (yg_nil (by rfl) evD)) (h := ?_)
  refine rp 37 (hy := (yg_field (by rfl) evD rnD)) (h := ?_)
  refine rg_take 38 evD (by kernel_rfl) (by intro _ _ _ h; exact h) (tg_load (by rfl) evD (by kernel_rfl) (fun w hw => hw.2.2.1.2)) (by assumption) (by go_frame; first | done | rfl) ?_
  clear hG
  refine rg_eff 34 evD (by kernel_rfl) (fun K hK => ?_)
  refine eg_call [ptr pi] (by rfl) (by kernel_rfl) (by rfl) ?_
  refine (rows_c (Nat.le_trans Hkb.out (by decide)) (hSd.sb : Sat w0 _ (TabML pi mq B :: stPt ps last pi uv (.slice ta t1 tc) :: stPt ps2 last pi2 uv2 (.slice ta2 0 tc2) :: TabML pi2 mq B :: osl 115 3 uv (us.flatMap uenc) :: osl 115 3 uv2 (us.flatMap uenc) :: F))).mono ?_
  rintro ee w30 ⟨va, rfl, kva, ⟨q1, q2, q3⟩, h30⟩
  rw [q1.unique Hlists.out] at h30 q2 q3
  have Hq2 := Lib.hid q2
  have Hq3 := Lib.hid (show ql.length ≤ 1073741824 from Nat.le_trans q3 (Nat.le_trans Hkb.out (by decide)))
  refine hK _ _ (.inr (.inl (HX.out _ (h30.sb)))) ?_
  clear hK hSd q1 q2 q3
  refine rg_eff 39 evD (by kernel_rfl) (fun K hK => ?_)
  refine eg_call [ptr pi2] (by rfl) (by kernel_rfl) (by rfl) ?_
  refine (rows_c (Nat.le_trans Hkb.out (by decide)) (h30.sb : Sat w0 _ (TabML pi2 mq B :: osl 117 35 va (ql.flatMap kvL) :: stPt ps last pi uv (.slice ta t1 tc) :: stPt ps2 last pi2 uv2 (.slice ta2 0 tc2) :: TabML pi mq B :: osl 115 3 uv (us.flatMap uenc) :: osl 115 3 uv2 (us.flatMap uenc) :: F))).mono ?_
  rintro ee w31 ⟨vb, rfl, kvb, ⟨q1, _, _⟩, h31⟩
  rw [q1.unique Hlists.out] at h31
  refine hK _ _ (.inr (.inl (HX.out _ (h31.sb)))) ?_
  clear hK h30 q1
  refine rg_eff 40 evD (by kernel_rfl) (fun K hK => ?_)
  refine eg_call [va, vb] (by rfl) (by kernel_rfl) (by rfl) ?_
  refine (sameIndex_c ql Hq2.out (Ro.of_pick (A := osl 117 35 va (ql.flatMap kvL)) (fun w hw => Sat.rd hw) pkD) (Ro.of_pick (A := osl 117 35 vb (ql.flatMap kvL)) (fun w hw => Sat.rd hw) pkD) h31 Hq3.out).mono ?_
  rintro ee w32 ⟨v, rfl, rfl, h32⟩
  have hSd : Sat w0 w32 (stPt ps last pi uv (.slice ta t1 tc) :: stPt ps2 last pi2 uv2 (.slice ta2 0 tc2) :: TabML pi mq B :: TabML pi2 mq B :: osl 115 3 uv (us.flatMap uenc) :: osl 115 3 uv2 (us.flatMap uenc) :: F) := h32.sb
  have hG := HG.out _ _ hSd
  refine hK _ _ (.inr (.inl hG)) ?_
  clear hK h31 h32
  refine rp 41 (hy := (yg_pick (by rfl) evD evD)) (h := ?_)
  refine rp 42 (hy := (yl_move evD)) (h := ?_)
  refine rp 43 (hy := (yg_move (by rfl) evD)) (h := ?_)
  refine rp 44 (hy := (yg_nil (by rfl) evD)) (h := ?_)
  refine rp 45 (hy := (yg_field (by rfl) evD rnD)) (h := ?_)
  refine rg_take 46 evD (by kernel_rfl) (by intro _ _ _ h; exact h) (tg_load (by rfl) evD (by kernel_rfl) (fun w hw => hw.2.2.2.1.1)) (by assumption) (by go_frame; first | done | rfl) ?_
  refine rp 47 (hy := (yg_move (by rfl) evD)) (h := ?_)
  refine rp 48 (hy := (yg_nil (by rfl) evD)) (h := ?_)
  refine rp 49 (hy := (yg_field (by rfl) evD rnD)) (h := ?_)
  refine rg_take 50 evD (by kernel_rfl) (by intro _ _ _ h; exact h) (tg_load (by rfl) evD (by kernel_rfl) (fun w hw => hw.2.2.2.1.2)) (by assumption) (by go_frame; first | done | rfl) ?_
  clear hG
  refine rg_eff 51 evD (by kernel_rfl) (fun K hK => ?_)
  refine eg_call [uv, uv2] (by rfl) (by kernel_rfl) (by rfl) ?_
  refine (sameUses_c us (Ro.of_pick (A := osl 115 3 uv (us.flatMap uenc)) (fun w hw => Sat.rd hw) pkD) (Ro.of_pick (A := osl 115 3 uv2 (us.flatMap uenc)) (fun w hw => Sat.rd hw) pkD) hSd Hul.out).mono ?_
  rintro ee w33 ⟨v, rfl, rfl, h33⟩
  refine hK _ _ (.inr (.inl (HG.out _ _ h33))) ?_
  clear hK hSd
  refine rp 52 (hy := (yg_pick (by rfl) evD evD)) (h := ?_)
  refine rp 53 (hy := (yl_move evD)) (h := ?_)
  refine rg_eff 54 evD (by kernel_rfl) (fun K hK => ?_)
  refine eg_call [] (by rfl) (by kernel_rfl) (by rfl) ?_
  refine (lives15_c (Ro.os HH.out) h33).mono ?_
  rintro ee w34 ⟨v, rfl, rfl, h34⟩
  refine hK _ _ (.inr (.inl (HG.out _ _ h34))) ?_
  clear hK h33
  refine rp 55 (hy := (yg_pick (by rfl) evD evD)) (h := ?_)
  refine rp 56 (hy := (yl_assign evD)) (h := ?_)
  refine wpL_done (by kernel_rfl) ?_
  try simp only [List.getElem_toArray, List.getElem_cons_succ, List.getElem_cons_zero]
  try go_frame
  go_wp2_with fail
  go_ret
  exact ⟨_, rfl, rfl, h34.sb⟩
end
end Go.Proofs.YtmjldaedhmipkaaGreatDoor
namespace Go.Proofs.YtmjldaedhmipkaaGreatDoor
open Go Go.Sl Go.Med Go.ChangeShapes Go.WideShapes Go.RowKit
section
variable {H : Type} {enc : TypeId × Value → H} {W : World} {base : Nat} {spare : Nat → Bool} {held : Bool}
set_option maxRecDepth 100000 in
theorem open_do15 {fuel : Nat} {cs : List Value} {x : DataW H × List MemPlace} (h : DataW.trod enc Tryz.prog W base spare held fuel 107 cs = some x) : ∃ p : Frm.Ent × Value, entL p.1 p.2 = cs ∧ EntAt W p := by
  obtain ⟨hl, hf⟩ := open_fields Tryz.underlying107 h
  have e34 : Tryz.prog.cellsOf 107 = 34 := by kernel_rfl
  have e1 : Tryz.prog.cellsOf 3 = 1 := by kernel_rfl
  have e2 : Tryz.prog.cellsOf 41 = 32 := by kernel_rfl
  have e3 : Tryz.prog.cellsOf 42 = 1 := by kernel_rfl
  have e5 : Tryz.prog.cellsOf 5 = 1 := by kernel_rfl
  rw [e34] at hl
  obtain ⟨n0, y0, h0⟩ := hf 0 _ rfl
  obtain ⟨n1, y1, h1⟩ := hf 1 _ rfl
  obtain ⟨n2, y2, h2⟩ := hf 2 _ rfl
  simp only [List.getElem_toArray, List.getElem_cons_zero, List.getElem_cons_succ, e1, e2, e3, List.drop_zero] at h0 h1 h2
  obtain ⟨z0, q0, _, w0⟩ := DataW.trod_int Tryz.underlying3 h0
  obtain ⟨kl, k1, k2⟩ := open_key Tryz.underlying41 e2 h1
  have hd : ∃ v, (cs.drop 33).take 1 = [v] := by
    have : ((cs.drop 33).take 1).length = 1 := by rw [List.length_take, List.length_drop]; omega
    exact List.length_eq_one_iff.1 this
  obtain ⟨dv, hdv⟩ := hd
  rw [hdv] at h2
  obtain ⟨l5, r5, c5⟩ := in_bys Tryz.underlying42 Tryz.underlying5 e5 h2
  refine ⟨(⟨z0, kl, l5⟩, dv), ?_, k2, bounds_i64 w0, r5, c5⟩
  show Value.int .i64 z0 :: (bys kl ++ [dv]) = cs
  have s1 : cs = cs.take 1 ++ ((cs.drop 1).take 32 ++ (cs.drop 33).take 1) := by
    have a1 : cs = cs.take 1 ++ cs.drop 1 := (List.take_append_drop 1 cs).symm
    have a2 : cs.drop 1 = (cs.drop 1).take 32 ++ (cs.drop 1).drop 32 := (List.take_append_drop 32 _).symm
    have a3 : (cs.drop 1).drop 32 = (cs.drop 33).take 1 := by rw [List.drop_drop, List.take_of_length_le (by rw [List.length_drop]; omega)]
    rw [a3] at a2
    rw [← a2]; exact a1
  rw [s1, q0, ← k1, hdv]; rfl
theorem in_dos15 {fuel : Nat} {v : Value} {x : DataW H × List MemPlace} (h : DataW.trod enc Tryz.prog W base spare held fuel 103 [v] = some x) :
    ∃ es : List (Frm.Ent × Value), rdsl 34 v (entsL es) W ∧ capOk v ∧ ∀ p ∈ es, EntAt W p := by
  obtain ⟨elems, h1, h2, h3⟩ := open_sl Tryz.underlying103 (k := 34) (by kernel_rfl) (by omega) h
  obtain ⟨ds, h4, h5⟩ := map_of (f := fun p : Frm.Ent × Value => entL p.1 p.2) (p := fun d => EntAt W d) elems fun cs hcs => by
    obtain ⟨_, n, y, h6⟩ := h3 cs hcs
    exact open_do15 h6
  refine ⟨ds, ?_, h2, h5⟩
  unfold entsL
  rw [List.flatMap_def, h4]
  exact h1
end
end Go.Proofs.YtmjldaedhmipkaaGreatDoor
namespace Go.Proofs.YtmjldaedhmipkaaGreatDoor.card
open Go.ChangeShapes Go.WideShapes Go.ChangeAt Go.RowKit
open Go Go.Sl Go.Med
theorem gHalf : Tryz.prog.globalNamed "hoard/crc.half" = some 0 := by kernel_rfl
theorem tHalf : ((Tryz.prog.globals[0]?).map (·.type)) = some 284 := by kernel_rfl
theorem door_met (os : Os) (args : Array Value) : laidMetH Tryz.prog [("hoard/crc.half", Rows.laid_hoard_crc_half)] ((World.doorLaid Tryz.prog 400 os).forCall (fun _ _ => 0) ⟨#[], args, []⟩).memory :=
  laidMetH_of_parts3 (fuel := 8) (laidMet_of_run' 8 (by kernel_rfl) (by kernel_rfl)) (by kernel_rfl) (by kernel_rfl)
theorem of_laid {W : World} (h : laidMetH Tryz.prog [("hoard/crc.half", Rows.laid_hoard_crc_half)] W) : 0 < W.heap.size ∧ Half W := by
  rw [MakeChecks.laidMetH_plain _ _ _ (by kernel_rfl)] at h
  obtain ⟨ps, ⟨g0, t0, cs0, f0, p0, q0, hg0, ht0, hv0, hd0, hrest⟩, hrest2⟩ := h
  obtain rfl := Option.some.inj (gHalf.symm.trans hg0)
  obtain rfl := Option.some.inj (tHalf.symm.trans ht0)
  obtain ⟨xs, m1, rfl, hx1, hlen, hn3, hel⟩ := DataW.trod_array Tryz.underlying284 hd0
  have c3 : Tryz.prog.cellsOf 233 = 1 := by kernel_rfl
  simp only [Prod.mk.injEq, Rows.laid_hoard_crc_half, DataW.agg.injEq] at hx1
  have hH : Half W := by
    intro i hi
    have h0 := hel i hi
    have hxi : xs[i]? = some (xs[i]'(by omega)) := List.getElem?_eq_getElem (by omega)
    rw [hxi] at h0
    obtain ⟨k, e1, e2, _⟩ := DataW.trod_int Tryz.underlying233 h0
    rw [c3, Nat.mul_one] at e1
    have hc : cs0.toList[i]? = some (.int .u32 k) := by
      have : ((cs0.toList.drop i).take 1)[0]? = some (.int .u32 k) := by rw [e1]; rfl
      rw [List.getElem?_take, if_pos (by decide), List.getElem?_drop] at this
      exact this
    have hL := congrArg (fun l => l[i]?) hx1.1
    rw [List.getElem?_map, hxi] at hL
    have hk : k = ((Frm.half.getD i 0 : Nat) : Int) := by
      rw [e2] at hL
      rcases i with _ | _ | _ | _ | _ | _ | _ | _ | _ | _ | _ | _ | _ | _ | _ | _ | i
      all_goals first | omega | (simp at hL; rw [← hL]; rfl)
    subst hk
    have := World.var?_cell hg0 hv0 i
    rw [this, ← Array.getElem?_toList]
    exact hc
  refine ⟨?_, hH⟩
  by_cases hz : 0 < W.heap.size
  · exact hz
  · have h0 := hH 0 (by decide)
    have e : W.heap[0]? = none := Array.getElem?_eq_none (by omega)
    simp [World.cell?, e] at h0
end Go.Proofs.YtmjldaedhmipkaaGreatDoor.card
