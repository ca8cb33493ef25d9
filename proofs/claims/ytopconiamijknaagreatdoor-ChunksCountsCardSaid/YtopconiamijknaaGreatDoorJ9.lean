import Derived.Test.YtopconiamijknaaGreatDoorJ8
import Derived.Test.YtopconiamijknaaGreatDoorRows
import Derived.Test.YtopconiamijknaaGreatDoorCards
import Derived.Test.YtopconiamijknaaGreatDoorTie
import Derived.ProofKit
import Derived.LaidMore
import Derived.OpenShut
import Derived.ShutString
import Derived.SevenTiedAt
set_option linter.unusedVariables false
set_option maxHeartbeats 128000000
namespace Go.Proofs.YtopconiamijknaaGreatDoor
open Go Go.Sl Go.Med Go.MapKept Go.RowKit
section
variable {P : Program} {w0 w : World} {R : List HProp} {ops : Array Oper} {a : Act} {Q : Exit → Act → World → Prop} {dst : Option Tmp} {t : TypeId} {pos : String} {after : Array Edge} {K : Act → World → Prop} {E : Prop} {d s : Operand}
theorem eff_copy {g off dLen dCap sLen sCap : Nat} {ad : Addr} {cur : Array Value} {T : TypeId} (cs : List Value) (hs : Sat w0 w (pt g (.cells cur T (0,0)) :: R)) (hd : a.eval d = .slice (some ⟨g, off, none⟩) dLen dCap) (hsv : a.eval s = .slice (some ad) sLen sCap) (hn : cs.length = Nat.min sLen dLen)
    (hsrc : ∀ j v, cs[j]? = some v → w.cell? (ad.add j) = some v) (hfit : off + cs.length ≤ cur.size) (h1 : ∀ v ∈ cs, v.oneCell' = true)
    (hK : ∀ w', Sat w0 w' (pt g (.cells (cur.toList.take off ++ (cs ++ cur.toList.drop (off + cs.length))).toArray T (0,0)) :: R) → K (a.put dst (goInt cs.length)) w') :
    if Region.wanted ⟨dst, .call { callee := .builtin .copy, args := #[d, s], argTypes := #[47, 47] }, t, pos, after, none⟩ (yielded ops a.tmps) = true then Oper.wp Tryz.prog ⟨dst, .call { callee := .builtin .copy, args := #[d, s], argTypes := #[47, 47] }, t, pos, after, none⟩ a w K Q else E := by
  refine eff_of rfl ?_
  obtain ⟨i, hi, hz0, hz1, hz2⟩ := info8p
  have hsz : (Tryz.prog.info? 5).map (·.size) = some 1 := by rw [hi]; simp [hz1]
  have hrun := run_copy_row (P := Tryz.prog) w 47 47 t 5 g off dLen dCap ad sLen sCap cur T cs Tryz.underlying47 hsz hs.at hn hsrc hfit h1
  have h2 := hs.turn (w' := w.setRow g (cur.toList.take off ++ (cs ++ cur.toList.drop (off + cs.length))).toArray) rfl rfl rfl (by simp) (setRow_heap w g cur _ _ _ hs.at) (fun j hj _ => setRow_other w g j _ hj)
  unfold Oper.wp
  simp [execOp, resolve, invoke, builtin, hd, hsv, hrun, Result.andThen]
  exact hK _ h2
end
theorem run_index8 (s : Sha.St) {i : Nat} (hi : i < 8) (w : World) : (Instr.index 162 (.agg (st8 s)) (.int .i64 (i : Int))).run Tryz.prog w = .ok (.int .u32 (Sha.at_ s.l i : Nat)) w := by
  rcases i with _ | _ | _ | _ | _ | _ | _ | _ | i
  all_goals first | omega | kernel_rfl
section
variable {P : Program} {w : World} {ops : Array Oper} {rest : List Oper} {a : Act} {Q : Exit → Act → World → Prop} {dst : Option Tmp} {t ty : TypeId} {pos : String} {after : Array Edge} {x y : Operand} {v vx vy : Value}
theorem wl_index (hx : a.eval x = vx) (hy : a.eval y = vy) (hr : ∀ w, (Instr.index ty vx vy).run P w = .ok v w) (h : wpList P ops Q rest (a.put dst v) w) : wpList P ops Q (⟨dst, .index ty x y, t, pos, after, none⟩ :: rest) a w :=
  wpList_plain rfl fun _ hK => by
    unfold Oper.wp execOp
    simp only [hx, hy, Sem.run_bind, hr, Result.andThen_ok, Sem.run_pure]
    exact hK _ _ h
theorem at_index (h : Stop (wpList P ops Q (⟨dst, .index ty x y, t, pos, after, none⟩ :: rest) a w)) : wpList P ops Q (⟨dst, .index ty x y, t, pos, after, none⟩ :: rest) a w := h.out
theorem yl_slP {y : Operand} (hx : a.eval x = vx) (hy : a.eval y = vy) (hr : ∀ w, (Instr.sliceAt ty vx (some vy) none none).run P w = .ok v w) : Yields P ops ⟨dst, .slice ty x (some y) none none, t, pos, after, none⟩ v a :=
  .inl ⟨want_none _ rfl, fun w => by simp only [execOp, hx, hy, Option.map_some, Option.map_none, Sem.run_bind, hr, Result.andThen_ok, Sem.run_pure]⟩
end
theorem flat4_len (f : Nat → Sha.Bs) (hf : ∀ x, (f x).length = 4) : ∀ l : List Nat, (l.flatMap f).length = 4 * l.length
  | [] => rfl
  | y :: l => by rw [List.flatMap_cons, List.length_append, hf, flat4_len f hf l, List.length_cons]; omega
theorem flat4 (f : Nat → Sha.Bs) (hf : ∀ x, (f x).length = 4) : ∀ (l : List Nat) (i : Nat) (x : Nat), l[i]? = some x → (l.flatMap f).take (4 * (i + 1)) = (l.flatMap f).take (4 * i) ++ f x
  | y :: l, 0, x, h => by
    cases h
    rw [List.flatMap_cons, List.take_append, List.take_of_length_le (by rw [hf]; decide), hf]
    simp
  | y :: l, i + 1, x, h => by
    have ih := flat4 f hf l i x h
    have e1 : (f y ++ l.flatMap f).take (4 * (i + 1 + 1)) = f y ++ (l.flatMap f).take (4 * (i + 1)) := by
      rw [List.take_append, List.take_of_length_le (by rw [hf]; omega), hf, show 4 * (i + 1 + 1) - 4 = 4 * (i + 1) by omega]
    have e2 : (f y ++ l.flatMap f).take (4 * (i + 1)) = f y ++ (l.flatMap f).take (4 * i) := by
      rw [List.take_append, List.take_of_length_le (by rw [hf]; omega), hf, show 4 * (i + 1) - 4 = 4 * i by omega]
    rw [List.flatMap_cons, e1, e2, ih, List.append_assoc]
theorem big4_len (x : Nat) : (Sha.bigL x 4).length = 4 := by unfold Sha.bigL; rw [List.length_reverse, Frm.le_len]
theorem id_step {D big : Frm.Bs} {lo : Nat} (hD : D.length = 32) (hlo : lo + 4 ≤ 32) (hb : big.length = 4) (htk : D.take (lo + 4) = D.take lo ++ big) : ((bys (D.take lo ++ List.replicate (32 - lo) 0)).toArray.toList.take lo ++ (bys big ++ (bys (D.take lo ++ List.replicate (32 - lo) 0)).toArray.toList.drop (lo + (bys big).length))).toArray = (bys (D.take (lo + 4) ++ List.replicate (32 - (lo + 4)) 0)).toArray := by
  have l1 : (bys (D.take lo)).length = lo := by rw [bys_len, List.length_take, hD]; omega
  have e : (bys (List.replicate (32 - lo) (0 : UInt8))).drop 4 = bys (List.replicate (32 - (lo + 4)) 0) := by
    unfold bys
    rw [List.map_replicate, List.map_replicate, List.drop_replicate, show 32 - lo - 4 = 32 - (lo + 4) by omega]
  congr 1
  rw [List.toList_toArray, bys_append, htk, bys_append, bys_append, List.take_left' l1, List.drop_append, List.drop_of_length_le (by rw [l1]; omega), List.nil_append, l1, bys_len big, hb, show lo + 4 - lo = 4 by omega, e, List.append_assoc]
theorem zID : zeroB Tryz.prog 24 = some (.agg (bys Frm.zero32).toArray) := by kernel_rfl
section
variable {w0 w : World} {F : List HProp} {p : Nat} {s : Sha.St} {r : Frm.Bs} {n : Nat}
set_option maxRecDepth 20000 in
theorem shasum_c {ra : Option Addr} {rn rc : Nat} (hrl : r.length < 64) (hn : n ≤ 1073741824) (hs : s.Ok) (hK : Ro w0 F ShaK) (h : Sat w0 w (bsl (.slice ra rn rc) r :: pt p (.cells (hs11 s (.slice ra rn rc) n) 165 (0,0)) :: F)) :
    Calls Tryz.prog 48 #[ptr p] w (Rtn fun v w' => v = .agg (bys ((Sha.blocks ((Sha.pad r ++ Sha.bigL (8 * n) 8).length / 64) s (Sha.pad r ++ Sha.bigL (8 * n) 8)).1.l.flatMap fun w => Sha.bigL w 4)).toArray ∧ Sat w0 w' F) := by
  obtain ⟨D, hD⟩ : ∃ D, ((Sha.blocks ((Sha.pad r ++ Sha.bigL (8 * n) 8).length / 64) s (Sha.pad r ++ Sha.bigL (8 * n) 8)).1.l.flatMap fun w => Sha.bigL w 4) = D := ⟨_, rfl⟩
  rw [hD]
  have HD := Lib.hid hD
  have Hrl := Lib.hid hrl; have Hn := Lib.hid hn; have Hs := Lib.hid hs; have HK := Lib.hid hK
  clear hD hrl hn hs hK
  go_enter Tryz.func48, Tryz.ntmps48
  go_wp2_with (with_reducible apply at_alloc)
  refine ⟨?_⟩
  refine wl_alloc zID h rfl ?_
  intro b2 w2 h2
  clear h
  have h2 : Sat w0 w2 (pt p (.cells (hs11 s (.slice ra rn rc) n) 165 (0,0)) :: bsl (.slice ra rn rc) r :: pt b2 (.cells (bys Frm.zero32).toArray 24 (0,0)) :: F) := h2.sb
  go_wp2_with fail
  refine (shaok_c h2).mono ?_
  rintro ee w3 ⟨v, rfl, rfl, rfl⟩
  have e9 : w2.cell? ⟨p, 9, none⟩ = some (.slice ra rn rc) := h2.cellP pick0 9 rfl
  have hcl := clone_c h2 (Sat.rd (h2.pick (A := bsl (.slice ra rn rc) r) pick1)) (by have := Hrl.out; omega)
  clear h2
  go_wp2_with fail
  refine hcl.mono ?_
  rintro ee w4 ⟨v, rfl, h4, ca, cn, cc, rfl⟩
  clear hcl e9
  go_wp2_with (first
    | ((with_reducible apply at_build1); refine ⟨?_⟩; refine wl_build1 (e := 5) (sz := 1) (by' := 1) kRz h4 rFz (cs := #[.int .u8 128]) rfl rfl nLz ?_; intro bN wN hN)
    | ((with_reducible apply at_append); refine ⟨?_⟩; refine wl_app 5 1 1 kRz hN rFz rFz (xs := bys r) pick1 pick0 rFz (Nat.le_refl 1) rFz (by rw [bys_len]; have := Hrl.out; omega) (by show 1 ≤ 65536; decide) dCz (ys := bys [128]) rfl ?_; intro bA nA cA wA hA))
  rw [← bys_append] at hA
  have h5 : Sat w0 wA (bsl (.slice (some ⟨bA, 0, none⟩) nA cA) (r ++ [128] ++ List.replicate 0 0) :: pt p (.cells (hs11 s (.slice ra rn rc) n) 165 (0,0)) :: pt b2 (.cells (bys Frm.zero32).toArray 24 (0,0)) :: F) := by
    rw [List.replicate_zero, List.append_nil]
    exact hA.sb
  clear h4 hN hA
  go_wp2_with fail
  obtain ⟨z, hz⟩ : ∃ z, (119 - r.length % 64) % 64 = z := ⟨_, rfl⟩
  have Hz := Lib.hid hz
  clear hz
  go_loopg [3] z (fun g tq wr => ∃ (k : Nat) (tv : Value), tv = tq ∧ g = z - k ∧ k ≤ z ∧ Sat w0 wr (bsl tv (r ++ [128] ++ List.replicate k 0) :: pt p (.cells (hs11 s (.slice ra rn rc) n) 165 (0,0)) :: pt b2 (.cells (bys Frm.zero32).toArray 24 (0,0)) :: F))
  case atStart => exact ⟨0, _, rfl, rfl, Nat.zero_le _, h5⟩
  case round =>
    obtain ⟨k, tv, rfl, rfl, hk, hS⟩ := hrel
    clear h5
    obtain ⟨ta, tn, tc, rfl, ht1, ht2, ht3⟩ := bsl_cap' hS
    have hlen : (r ++ [128] ++ List.replicate k 0).length = r.length + 1 + k := by
      rw [List.length_append, List.length_append, List.length_replicate]; rfl
    rw [hlen] at ht3
    have hrl := Hrl.out
    have hzz := Hz.out
    have hrem2 : (tn : Int) % 64 = ((tn % 64 : Nat) : Int) := rfl
    obtain ⟨q, hq⟩ : ∃ q, tn % 64 = q := ⟨_, rfl⟩
    rw [hq] at hrem2
    have hq2 : q = 56 ↔ k = z := by omega
    have htn : tn ≤ 200 := by omega
    by_cases hkz : k = z
    rotate_left
    · have c1 : ((q : Int) != 56) = true := bne_iff_ne.2 (fun e => hkz (hq2.1 (by omega)))
      have hkk : k < z := by omega
      have Hkk := Lib.hid hkk; have Htn := Lib.hid htn
      have hln : (bys (r ++ [128] ++ List.replicate k 0)).length ≤ 2147483648 := by rw [bys_len, hlen]; omega
      have Hln := Lib.hid hln
      clear ht1 ht2 ht3 hlen hrl hzz hq hq2 htn hkz hkk hk hln
      go_wp2_with (first
        | ((with_reducible apply at_build1); refine ⟨?_⟩; refine wl_build1 (e := 5) (sz := 1) (by' := 1) kRz hS rFz (cs := #[.int .u8 0]) rfl rfl nLz ?_; intro bM wM hM)
        | ((with_reducible apply at_append); refine ⟨?_⟩; refine wl_app 5 1 1 kRz hM rFz rFz (xs := bys (r ++ [128] ++ List.replicate k 0)) pick1 pick0 rFz (Nat.le_refl 1) rFz Hln.out (by show 1 ≤ 65536; decide) dCz (ys := bys [0]) rfl ?_; intro bB nB cB wB hB))
      rw [← bys_append, List.append_assoc, ← List.replicate_succ'] at hB
      have Hsh := Lib.hid (show Sat w0 wB (bsl (.slice (some ⟨bB, 0, none⟩) nB cB) (r ++ [128] ++ List.replicate (k + 1) 0) :: pt p (.cells (hs11 s (.slice ra rn rc) n) 165 (0,0)) :: pt b2 (.cells (bys Frm.zero32).toArray 24 (0,0)) :: F) from hB)
      clear hM hB
      go_wp2_with fail
      go_roundg (z - (k + 1))
      case measure => have := Hkk.out; omega
      case rel => exact ⟨k + 1, _, rfl, rfl, Nat.succ_le_of_lt Hkk.out, Hsh.out⟩
    · have c1 : ((q : Int) != 56) = false := by rw [hq2.2 hkz]; rfl
      have Hpad := Lib.hid (show Sha.pad r = r ++ [128] ++ List.replicate k 0 by unfold Sha.pad; rw [hzz, hkz])
      have e10 : wr.cell? ⟨p, 10, none⟩ = some (.int .i64 (n : Int)) := hS.cellP pick1 10 rfl
      have w1 : IntKind.u64.wrap (n : Int) = (n : Int) := by rw [IntKind.wrap_u64]; have := Hn.out; omega
      have w2' : (n : Int) % 18446744073709551616 = (n : Int) := by have := Hn.out; omega
      obtain ⟨m8, hm8⟩ : ∃ m8, 8 * n = m8 := ⟨_, rfl⟩
      have w3 : IntKind.u64.wrap (8 * (n : Int)) = (m8 : Int) := by rw [IntKind.wrap_u64]; have := Hn.out; omega
      have hbig : Calls Tryz.prog 81 #[.int .u64 m8, .int .i64 8] wr (Rtn fun v w' => ∃ g, v = .slice (some ⟨g, 0, none⟩) 8 8 ∧ Sat w0 w' (bsl v (Sha.bigL m8 8) :: bsl (.slice ta tn tc) (r ++ [128] ++ List.replicate k 0) :: pt p (.cells (hs11 s (.slice ra rn rc) n) 165 (0,0)) :: pt b2 (.cells (bys Frm.zero32).toArray 24 (0,0)) :: F)) := bigOf_c (.inr rfl) (put8_c m8 (by have := Hn.out; omega) hS)
      have Hm8 := Lib.hid hm8
      have hmod : (r ++ [128] ++ List.replicate k 0 ++ Sha.bigL m8 8).length % 64 = 0 := by
        rw [List.length_append, hlen]
        unfold Sha.bigL
        rw [List.length_reverse, Frm.le_len]
        omega
      have hTl : (r ++ [128] ++ List.replicate k 0 ++ Sha.bigL m8 8).length ≤ 300 := by
        rw [List.length_append, hlen]
        unfold Sha.bigL
        rw [List.length_reverse, Frm.le_len]
        omega
      have Hmod := Lib.hid hmod; have HTl := Lib.hid hTl
      have hln : (bys (r ++ [128] ++ List.replicate k 0)).length + (bys (Sha.bigL m8 8)).length ≤ 2147483648 := by rw [← List.length_append, ← bys_append, bys_len]; omega
      have Hln := Lib.hid hln
      have hDD := HD.out
      rw [Hm8.out, Hpad.out] at hDD
      have HD2 := Lib.hid hDD
      clear ht1 ht2 ht3 hlen hrl hzz hq hq2 htn hkz hk hm8 hmod hTl hln hS Hpad hDD HD
      generalize r ++ [128] ++ List.replicate k 0 = pd at *
      generalize Sha.bigL m8 8 = bg at *
      go_wp2_with fail
      refine hbig.mono ?_
      rintro ee w5 ⟨v, rfl, g, rfl, h6⟩
      clear hbig e10 w1 w2' w3 c1
      go_wp2_with (with_reducible apply at_append)
      refine ⟨?_⟩
      refine wl_appD 5 1 1 kRz h6 rFz rFz (xs := bys pd) (ys := bys bg) pick1 (Sat.rd h6) (bys_one _) Hln.out dCz ?_
      intro tv w6 h7
      rw [← bys_append] at h7
      obtain ⟨T, hT⟩ : ∃ T, pd ++ bg = T := ⟨_, rfl⟩
      rw [hT] at h7 Hmod HTl HD2
      clear h6 hT
      have h7 : Sat w0 w6 (pt p (.cells (hs11 s (.slice ra rn rc) n) 165 (0,0)) :: bsl tv T :: pt b2 (.cells (bys Frm.zero32).toArray 24 (0,0)) :: F) := (show Sat w0 w6 (bsl tv T :: _) from h7).sb
      have hrng : w6.rangeAt p 1 (st8 s).toList := fun k v hk => h7.cellP pick0 (1 + k) (by rcases k with _ | _ | _ | _ | _ | _ | _ | _ | k <;> first | exact hk | cases hk)
      obtain ⟨a0, m0, c0, rfl, _, _, hm0⟩ := bsl_cap' (h7.pick (A := bsl tv T) pick1)
      have Hm0 := Lib.hid hm0
      clear hm0
      go_wp2_with (first
        | ((with_reducible apply at_load); refine ⟨?_⟩; refine wl_loadW (b := p) (o := 1) (st8 s).toList rFz hrng Tryz.underlying162 rfl kRz ?_)
        | (with_reducible apply at_alloc))
      refine ⟨?_⟩
      refine wl_alloc zSt h7 rfl ?_
      intro b4 w7 h8
      clear h7 hrng
      go_wp2_with (with_reducible apply at_store)
      refine ⟨?_⟩
      refine wl_storeA (st8 s) h8 rFz rFz rFz upd0 kRz rFz ?_
      intro w8 h9
      clear h8
      obtain ⟨FF, hFF⟩ : ∃ FF, FF = bsl (.slice a0 m0 c0) T :: pt b2 (.cells (bys Frm.zero32).toArray 24 (0,0)) :: F := ⟨_, rfl⟩
      have h10 : Sat w0 w8 (pt b4 (.cells (st8 s) 162 (0,0)) :: FF) := by rw [hFF]; exact h9.sb
      have hrs0 : RS w0 FF (.slice a0 m0 c0) T := by
        rw [hFF]
        exact RS.of_bsl (F := pt b2 (.cells (bys Frm.zero32).toArray 24 (0,0)) :: F) (w := w8) (h9.sb)
      have HKF : Ro w0 FF ShaK := by rw [hFF]; exact Ro.os HK.out
      have HFF := Lib.hid hFF; have HKF := Lib.hid HKF
      clear h9 hFF HK
      go_wp2_with fail
      go_frame
      go_loopg [3] (m0 / 64) (fun g bq wr => ∃ (b' : Frm.Bs) (a' : Option Addr) (c' m : Nat) (s' : Sha.St), bq = .slice a' m c' ∧ b'.length = m ∧ g = m / 64 ∧ m ≤ 300 ∧ m % 64 = 0 ∧ s'.Ok ∧ RS w0 FF (.slice a' m c') b' ∧ ((Sha.blocks (b'.length / 64) s' b').1.l.flatMap fun w => Sha.bigL w 4) = D ∧ Sat w0 wr (pt b4 (.cells (st8 s') 162 (0,0)) :: FF))
      case atStart => exact ⟨T, a0, c0, m0, s, rfl, Hm0.out.symm, rfl, by rw [Hm0.out]; exact HTl.out, by rw [Hm0.out]; exact Hmod.out, Hs.out, hrs0, HD2.out, h10⟩
      case round =>
        obtain ⟨b', a', c', m, s', rfl, hm, rfl, hm2, hm3, hs', hrs, hbl, hS⟩ := hrel
        clear h10 hrs0
        by_cases h64 : 64 ≤ m
        rotate_left
        · obtain rfl : m = 0 := by omega
          rw [Sha.blocks_end (by omega)] at hbl
          have Hbl := Lib.hid hbl
          have hS : Sat w0 wr (pt b4 (.cells (st8 s') 162 (0,0)) :: pt b2 (.cells (bys Frm.zero32).toArray 24 (0,0)) :: F) := by
            rw [HFF.out] at hS
            exact hS.sb
          clear hm hm2 hm3 hrs hbl h64
          go_wp2_with (with_reducible apply at_alloc)
          refine ⟨?_⟩
          refine wl_alloc zID hS rfl ?_
          intro b5 w9 h11
          go_wp2_with ((with_reducible apply at_load); refine ⟨?_⟩; refine wl_loadA (cs := st8 s') h11 rFz pick1 Tryz.underlying162 rfl kRz ?_)
          have h12 : Sat w0 w9 (pt b5 (.cells (bys (D.take (4 * 0) ++ List.replicate (32 - 4 * 0) 0)).toArray 24 (0,0)) :: pt b2 (.cells (bys Frm.zero32).toArray 24 (0,0)) :: F) := h11.sb
          clear hS h11
          have hD8 : D = s'.l.flatMap fun w => Sha.bigL w 4 := Hbl.out.symm
          have hDl : D.length = 32 := by rw [hD8, flat4_len _ big4_len]; rfl
          have HD8 := Lib.hid hD8; have HDl := Lib.hid hDl; have Hs' := Lib.hid hs'
          clear hD8 hDl hs'
          go_wp2_with fail
          go_loopg [49] 8 (fun g iq wr => ∃ i : Nat, g = 8 - i ∧ i ≤ 8 ∧ iq = .int .i64 i ∧ Sat w0 wr (pt b5 (.cells (bys (D.take (4 * i) ++ List.replicate (32 - 4 * i) 0)).toArray 24 (0,0)) :: pt b2 (.cells (bys Frm.zero32).toArray 24 (0,0)) :: F))
          case atStart => exact ⟨0, rfl, Nat.zero_le _, rfl, h12⟩
          case round =>
            obtain ⟨i, rfl, hi, rfl, hS⟩ := hrel
            clear h12
            by_cases hil : i < 8
            rotate_left
            · obtain rfl : i = 8 := by omega
              have hS : Sat w0 wr (pt b5 (.cells (bys D).toArray 24 (0,0)) :: pt b2 (.cells (bys Frm.zero32).toArray 24 (0,0)) :: F) := by
                have e : D.take (4 * 8) ++ List.replicate (32 - 4 * 8) 0 = D := by
                  rw [List.take_of_length_le (by rw [HDl.out]; exact Nat.le_refl 32)]
                  exact List.append_nil _
                rw [e] at hS
                exact hS
              have Hsz := Lib.hid (show (bys D).toArray.size = 32 by rw [List.size_toArray, bys_len, HDl.out])
              have Hon := Lib.hid (show (bys D).toArray.toList.all (·.oneCell') = true by rw [List.all_eq_true]; exact bys_one _)
              clear hi hil
              obtain ⟨A, hA⟩ : ∃ A, (bys D).toArray = A := ⟨_, rfl⟩
              rw [hA] at hS Hsz Hon
              have HA := Lib.hid hA
              clear hA
              go_wp2_with (first
                | ((with_reducible apply at_load); refine ⟨?_⟩; refine wl_loadA (cs := A) hS rFz pick0 Tryz.underlying24 rfl (by rw [Hsz.out]; kernel_rfl) ?_)
                | (with_reducible apply at_store))
              refine ⟨?_⟩
              refine wl_storeA A (hS.sb : Sat w0 wr (pt b2 (.cells (bys Frm.zero32).toArray 24 (0,0)) :: F)) rFz rFz (Hsz.out.trans rFz) upd0 (by rw [Hsz.out]; kernel_rfl) Hon.out ?_
              intro w10 h13
              have hinf : (Tryz.prog.info? 24).map (·.size) = some A.size := by rw [Hsz.out]; kernel_rfl
              have hrc := fun tmps hp => res_cell (tmps := tmps) (fn := Tryz.f48) rfl h13 hp pick0 Tryz.underlying24 rfl hinf
              go_wp2_with fail
              refine ⟨rfl, _, hrc _ rFz, _, rfl, ?_, h13.drop⟩
              rw [HA.out]
            have hx : s'.l[i]? = some (Sha.at_ s'.l i) := by
              rcases i with _ | _ | _ | _ | _ | _ | _ | _ | i
              all_goals first | rfl | omega
            have hix := run_index8 s' hil
            have hlt : Sha.at_ s'.l i < 4294967296 := by
              have h := Hs'.out
              rcases i with _ | _ | _ | _ | _ | _ | _ | _ | i
              · exact h.a
              · exact h.b
              · exact h.c
              · exact h.d
              · exact h.e
              · exact h.f
              · exact h.g
              · exact h.h
              · omega
            have htk := flat4 (fun w => Sha.bigL w 4) big4_len s'.l i _ hx
            rw [← HD8.out] at htk
            generalize Sha.at_ s'.l i = x at *
            have c1 : (i : Int) < 8 := by omega
            have hwi : IntKind.i64.wrap ((i : Int) + 1) = (i : Int) + 1 := IntWalk.i64_in _ (by omega)
            have Hil := Lib.hid hil; have Htk := Lib.hid htk
            clear hx htk hi hil
            go_wp2_with ((with_reducible apply at_index); refine ⟨?_⟩; refine wl_index rFz rFz hix ?_)
            obtain ⟨lo, hlo⟩ : ∃ lo, 4 * i = lo := ⟨_, rfl⟩
            have e1 : IntKind.i64.wrap (4 * (i : Int)) = (lo : Int) := by rw [IntWalk.i64_in _ (by omega)]; omega
            have hl32 : lo + 4 ≤ 32 := by have := Hil.out; omega
            have c3 : (lo : Int) ≤ 32 := by omega
            have hslP : ∀ w, (Instr.sliceAt 24 (ptr b5) (some (.int .i64 (lo : Int))) none none).run Tryz.prog w = .ok (.slice (some ⟨b5, lo, none⟩) (32 - lo) (32 - lo)) w := fun w => by
              have c4 : ¬ 32 = lo := by omega
              go_simp
            rw [hlo] at hS
            have Hstep := Lib.hid (fun (hlo2 : True) => id_step (big := Sha.bigL x 4) HDl.out hl32 (big4_len x) (by have := Htk.out; rw [show 4 * (i + 1) = lo + 4 by omega, hlo] at this; exact this))
            have Hnx := Lib.hid (show lo + 4 = 4 * (i + 1) by omega)
            have hsz : (bys (D.take lo ++ List.replicate (32 - lo) 0)).toArray.size = 32 := by
              rw [List.size_toArray, bys_len, List.length_append, List.length_take, List.length_replicate, HDl.out]; omega
            have Hsz := Lib.hid hsz; have Hl32 := Lib.hid hl32
            have hbig : ∀ (w' : World) (G : List HProp), Sat w0 w' G → Calls Tryz.prog 81 #[.int .u64 x, .int .i64 4] w' (Rtn fun v w'' => ∃ g, v = .slice (some ⟨g, 0, none⟩) 4 4 ∧ Sat w0 w'' (bsl v (Sha.bigL x 4) :: G)) := fun w' G hw => bigOf_c (.inl rfl) (put4_c x (by omega) hw)
            have Hbig := Lib.hid hbig
            have x1 : IntKind.u64.wrap (x : Int) = (x : Int) := by rw [IntKind.wrap_u64]; omega
            have x2 : (x : Int) % 18446744073709551616 = (x : Int) := by omega
            generalize (bys (D.take lo ++ List.replicate (32 - lo) 0)).toArray = cur at *
            have h14 := hS.drew
            clear hS hlo hl32 c3 hlt hix c1 hsz hbig Htk
            have hG : True := trivial
            refine wpL_begin [] (fun w' => True) kRz ?_
            refine rp 0 (hy := (yl_move evD)) (h := ?_)
            refine rp 1 (hy := (yl_bin evD evD rnD)) (h := ?_)
            refine rp 2 (hy := (yl_slP evD evD hslP)) (h := ?_)
            refine rp 3 (hy := (yl_move evD)) (h := ?_)
            refine rp 4 (hy := (yl_conv evD rnD)) (h := ?_)
            refine rg_eff 5 evD kRz (fun K hK => ?_)
            (refine eff_call2 kRz evD evD ?_)
            refine (Hbig.out _ _ h14).mono ?_
            rintro ee w11 ⟨v, rfl, g2, rfl, h15⟩
            refine hK _ _ (.inr (.inl trivial)) ?_
            clear hK h14 hslP e1 x1 x2
            refine rg_eff 6 evD kRz (fun K hK => ?_)
            refine eff_copy (bys (Sha.bigL x 4)) (h15.sb : Sat w0 w11 (pt b5 (.cells cur 24 (0,0)) :: bsl (.slice (some ⟨g2, 0, none⟩) 4 4) (Sha.bigL x 4) :: pt b2 (.cells (bys Frm.zero32).toArray 24 (0,0)) :: F)) evD evD (by rw [bys_len, big4_len]; have := Hl32.out; show 4 = Nat.min 4 (32 - lo); exact (Nat.min_eq_left (by omega)).symm) (fun j v hj => by
              obtain ⟨a, n, c, he, _, hc⟩ := Sat.rd h15
              cases he
              obtain ⟨ad, h1, h2⟩ := hc j v hj
              cases h1
              exact h2) (by rw [bys_len, big4_len, Hsz.out]; exact Hl32.out) (bys_one _) ?_
            intro w12 h16
            refine hK _ _ (.inr (.inl trivial)) ?_
            clear hK h15
            rw [Hstep.out trivial, Hnx.out] at h16
            refine wpL_done kRz ?_
            go_wp2_with fail
            go_roundg (8 - (i + 1))
            case measure => have := Hil.out; omega
            case rel => exact ⟨i + 1, rfl, Nat.succ_le_of_lt Hil.out, by first | rfl | go_num, h16.sb⟩
        have c1 : (0 : Int) < (m : Int) := by omega
        have c1' : 0 < m := by omega
        obtain ⟨_, _, _, hce, q1, q2⟩ := hrs.cap
        cases hce
        have hslT := fun w => run_slT (a := a') (n := m) (c := c') (k := 64) (by omega) w
        have hslF := fun w => run_slF (a := a') (n := m) (c := c') (k := 64) h64 w
        have hrs1 : RS w0 FF (.slice a' b'.length c') b' := by rw [hm]; exact hrs
        have hT := hrs1.to (k := 64) (by omega) c' (by omega) (Nat.le_refl _)
        have hF := hrs1.from (k := 64) (by omega)
        rw [hm] at hF
        obtain ⟨ta, tc, htd⟩ : ∃ ta tc, sliced a' 0 64 c' 1 = .slice ta 64 tc := ⟨_, _, rfl⟩
        obtain ⟨fa, fc, hfd⟩ : ∃ fa fc, sliced a' 64 m c' 1 = .slice fa (m - 64) fc := ⟨_, _, rfl⟩
        rw [htd] at hslT hT
        rw [hfd] at hslF hF
        have hslT : ∀ w, (Instr.sliceAt 47 (.slice a' m c') none (some (.int .i64 64)) none).run Tryz.prog w = .ok (.slice ta 64 tc) w := hslT
        have hslF : ∀ w, (Instr.sliceAt 47 (.slice a' m c') (some (.int .i64 64)) none none).run Tryz.prog w = .ok (.slice fa (m - 64) fc) w := hslF
        have hmore := Sha.blocks_more (s := s') (b := b') (by omega)
        rw [hmore] at hbl
        have hln : (b'.drop 64).length = m - 64 := by rw [List.length_drop, hm]
        have h64b : (b'.take 64).length = 64 := by rw [List.length_take]; omega
        have Hbl := Lib.hid hbl; have Hln := Lib.hid hln; have HF := Lib.hid hF; have Hm2 := Lib.hid (And.intro h64 (And.intro hm2 hm3))
        have htk := Lib.hid (fun (w' : World) (hw : Sat w0 w' (pt b4 (.cells (st8 s') 162 (0,0)) :: FF)) => shatake_c h64b hs' (hT.more sbD) (Ro.os HKF.out) hw)
        have Hok := Lib.hid (Sha.take_ok s' (b'.take 64))
        obtain ⟨s2, hs2⟩ : ∃ s2, Sha.take s' (b'.take 64) = s2 := ⟨_, rfl⟩
        rw [hs2] at htk Hbl Hok
        have h3 := hS.drew
        have hG : World.rangeAt _ b4 0 (st8 s').toList := fun k v hk => h3.cellP pick0 (0 + k) (by rw [Nat.zero_add, ← Array.getElem?_toList]; exact hk)
        clear hmore hln hF hrs hrs1 hT hbl hs' hm q1 q2 htd hfd hs2 h64b hS h64 hm2 hm3
        go_wp2_with fail
        refine wpL_begin [3, 4] (fun w' => w'.rangeAt b4 0 (st8 s').toList) kRz ?_
        refine rg_take 0 evD kRz i3z (tk_loadN (b := b4) (o := 0) (st8 s').toList rFz Tryz.underlying162 rfl kRz (fun w hw => hw)) (by assumption) (by go_frame; first | done | rfl) ?_
        clear hG
        refine rp 1 (hy := (yl_move evD)) (h := ?_)
        refine rp 2 (hy := (yl_slT evD evD hslT)) (h := ?_)
        refine rg_eff 3 evD kRz (fun K hK => ?_)
        (refine eff_call2 kRz evD evD ?_)
        refine (htk.out _ h3).mono ?_
        rintro ee w4 ⟨v, rfl, rfl, h4⟩
        refine hK _ _ (.inl rfl) ?_
        clear hK h3 htk
        refine rg_eff 4 evD kRz (fun K hK => ?_)
        refine eff_store (cs' := st8 s2) h4 evD evD rFz upd0 nLz kRz rFz ?_
        intro w5 h5
        refine hK _ _ (.inl rfl) ?_
        clear hK h4
        refine wpL_done kRz ?_
        go_wp2_with ((with_reducible apply at_slF); refine ⟨?_⟩; refine wl_slF rFz rFz hslF ?_)
        go_roundg ((m - 64) / 64)
        case measure => have := Hm2.out; omega
        case rel => exact ⟨b'.drop 64, fa, fc, m - 64, s2, rfl, Hln.out, rfl, by have := Hm2.out; omega, by have := Hm2.out; omega, Hok.out, HF.out, Hbl.out, h5⟩
end
end Go.Proofs.YtopconiamijknaaGreatDoor
namespace Go.Sha
theorem sum_eq (b : Bs) : sum b = ((blocks ((pad (blocks (b.length / 64) begin b).2 ++ bigL (8 * b.length) 8).length / 64) (blocks (b.length / 64) begin b).1 (pad (blocks (b.length / 64) begin b).2 ++ bigL (8 * b.length) 8)).1.l.flatMap fun w => bigL w 4) := rfl
end Go.Sha
namespace Go.Proofs.YtopconiamijknaaGreatDoor
open Go Go.Sl Go.Med Go.MapKept Go.RowKit
theorem sha_len (b : Frm.Bs) : (Sha.sum b).length = 32 := by
  rw [Sha.sum_eq, flat4_len _ big4_len]; rfl
section
variable {w0 w : World} {F : List HProp} {bv : Value} {b : Frm.Bs}
set_option maxRecDepth 20000 in
theorem shaSum_c (hl : b.length ≤ 1073741824) (hr : RS w0 F bv b) (hK : Ro w0 F ShaK) (h : Sat w0 w F) :
    Calls Tryz.prog 27 #[bv] w (Rtn fun v w' => v = .agg (bys (Sha.sum b)).toArray ∧ Sat w0 w' F) := by
  obtain ⟨D, hD⟩ : ∃ D, Sha.sum b = D := ⟨_, rfl⟩
  rw [hD]
  have hDl : D.length = 32 := by rw [← hD, sha_len]
  rw [Sha.sum_eq] at hD
  have HD := Lib.hid hD; have Hr := Lib.hid hr; have HK := Lib.hid hK; have Hl := Lib.hid hl; have HDl := Lib.hid hDl
  clear hD hr hK hl hDl
  go_enter Tryz.func27, Tryz.ntmps27
  go_wp2_with (with_reducible apply at_alloc)
  refine ⟨?_⟩
  refine wl_alloc zID h rfl ?_
  intro b2 w2 h2
  clear h
  have h2 : Sat w0 w2 (pt b2 (.cells (bys Frm.zero32).toArray 24 (0,0)) :: F) := h2
  go_wp2_with fail
  refine (shanew_c h2).mono ?_
  rintro ee w3 ⟨v, rfl, p, rfl, h3⟩
  clear h2
  go_wp2_with fail
  refine (shawrite_c Hl.out (Hr.out.more sbD) (Ro.os HK.out) h3).mono ?_
  rintro ee w4 ⟨v, rfl, ra, rn, rc, h4, hr64, hok⟩
  clear h3
  have hs := shasum_c hr64 Hl.out hok (Ro.os HK.out) h4
  rw [HD.out] at hs
  clear h4 hr64 hok
  go_wp2_with fail
  refine hs.mono ?_
  rintro ee w5 ⟨v, rfl, rfl, h5⟩
  clear hs
  have hsz : (bys D).toArray.size = 32 := by rw [List.size_toArray, bys_len, HDl.out]
  have hon : (bys D).toArray.toList.all (·.oneCell') = true := by rw [List.all_eq_true]; exact bys_one _
  obtain ⟨A, hA⟩ : ∃ A, (bys D).toArray = A := ⟨_, rfl⟩
  rw [hA] at hsz hon ⊢
  have HA := Lib.hid hA; have Hsz := Lib.hid hsz; have Hon := Lib.hid hon
  clear hA hsz hon
  go_wp2_with (with_reducible apply at_store)
  refine ⟨?_⟩
  refine wl_storeA A h5 rFz rFz (Hsz.out.trans rFz) upd0 (by rw [Hsz.out]; kernel_rfl) Hon.out ?_
  intro w6 h6
  have hinf : (Tryz.prog.info? 24).map (·.size) = some A.size := by rw [Hsz.out]; kernel_rfl
  have hrc := fun tmps hp => res_cell (tmps := tmps) (fn := Tryz.f27) rfl h6 hp pick0 Tryz.underlying24 rfl hinf
  go_wp2_with fail
  refine ⟨rfl, _, hrc _ rFz, _, rfl, ?_, h6.drop⟩
  rw [HA.out]
end
end Go.Proofs.YtopconiamijknaaGreatDoor
namespace Go.Lz
abbrev Bs := List UInt8
def wrapS (b : Bs) : Bs := [0] ++ Frm.le b.length 4 ++ b
theorem wrapS_len (b : Bs) : (wrapS b).length = 5 + b.length := by
  unfold wrapS
  rw [List.length_append, List.length_append, Frm.le_len]; rfl
end Go.Lz
namespace Go.Proofs.YtopconiamijknaaGreatDoor
open Go Go.Sl Go.Med Go.MapKept Go.RowKit
section
variable {w0 w : World} {F : List HProp} {p : Nat} {bv ov : Value} {b out : Frm.Bs}
set_option maxRecDepth 20000 in
theorem lzseq3_c (hl : b.length = 3) (hr : RS w0 F bv b) (h : Sat w0 w (pt p (.cells #[.slice none 0 0] 230 (0,0)) :: F)) :
    Calls Tryz.prog 132 #[ptr p, bv, .int .i64 0, .int .i64 0] w (Rtn fun _ w' => ∃ ra rc, Sat w0 w' (bsl (.slice ra 4 rc) (48 :: b) :: pt p (.cells #[.slice ra 4 rc] 230 (0,0)) :: F)) := by
  obtain ⟨a, c, rfl, hc1, hc2⟩ := hr.len h.drop
  rw [hl] at hr hc1 ⊢
  have e0 : w.cell? ⟨p, 0, none⟩ = some (.slice none 0 0) := h.cellP pick0 0 rfl
  have Hr := Lib.hid hr; have Hl := Lib.hid hl
  have w2 : bits .or .i64 (48 : Int) 0 = 48 := by decide
  have h0 : Sat w0 w (bsl (.slice none 0 0) [] :: pt p (.cells #[.slice none 0 0] 230 (0,0)) :: F) := Sat.osl_nil.2 h
  clear hr hl h hc1 hc2
  go_enter Tryz.func132, Tryz.ntmps132
  go_wp2_with (first
    | ((with_reducible apply at_build1); refine ⟨?_⟩; refine wl_build1 (e := 5) (sz := 1) (by' := 1) kRz h0 rFz (cs := #[.int .u8 48]) rfl rfl nLz ?_; intro bN wN hN)
    | ((with_reducible apply at_append); refine ⟨?_⟩; refine wl_app 5 1 1 kRz hN rFz rFz (xs := bys []) pick1 pick0 rFz (Nat.le_refl 1) rFz dCz (by show 1 ≤ 65536; decide) dCz (ys := bys [48]) rfl ?_; intro bA nA cA wA hA)
    | (with_reducible apply at_store))
  refine ⟨?_⟩
  refine wl_store (cs' := #[.slice (some ⟨bA, 0, none⟩) nA cA]) (hA.sb : Sat w0 wA (pt p (.cells #[.slice none 0 0] 230 (0,0)) :: osl 5 1 (.slice (some ⟨bA, 0, none⟩) nA cA) (bys [] ++ bys [48]) :: F)) rFz evD rFz upd0 nLz kRz rFz ?_
  intro w3 h3
  have h4 : Sat w0 w3 (pt p (.cells #[.slice (some ⟨bA, 0, none⟩) nA cA] 230 (0,0)) :: bsl (.slice (some ⟨bA, 0, none⟩) nA cA) [48] :: F) := h3
  clear h0 e0 hN hA h3
  have e0 : w3.cell? ⟨p, 0, none⟩ = some (.slice (some ⟨bA, 0, none⟩) nA cA) := h4.cellP pick0 0 rfl
  go_wp2_with (with_reducible apply at_append)
  refine ⟨?_⟩
  refine wl_appD 5 1 1 kRz h4 rFz rFz (xs := bys [48]) (ys := bys b) pick1 (Hr.out.rd _ h4.drop.drop) (bys_one _) (by rw [bys_len, bys_len, Hl.out]; decide) dCz ?_
  intro v' w4 h5
  rw [← bys_append] at h5
  have h5 : Sat w0 w4 (bsl v' (48 :: b) :: pt p (.cells #[.slice (some ⟨bA, 0, none⟩) nA cA] 230 (0,0)) :: F) := h5
  obtain ⟨ra, rn, rc, rfl, _, _, hrn⟩ := bsl_cap' h5
  obtain rfl : rn = 4 := by rw [List.length_cons, Hl.out] at hrn; exact hrn
  clear hrn h4 e0
  go_wp2_with (with_reducible apply at_store)
  refine ⟨?_⟩
  refine wl_store (cs' := #[.slice ra 4 rc]) (h5.sb : Sat w0 w4 (pt p (.cells #[.slice (some ⟨bA, 0, none⟩) nA cA] 230 (0,0)) :: bsl (.slice ra 4 rc) (48 :: b) :: F)) rFz evD rFz upd0 nLz kRz rFz ?_
  intro w5 h6
  have Hsh := Lib.hid (h6.sb : Sat w0 w5 (bsl (.slice ra 4 rc) (48 :: b) :: pt p (.cells #[.slice ra 4 rc] 230 (0,0)) :: F))
  clear h5 h6
  go_wp2_with fail
  go_end0
  exact ⟨_, rfl, ra, rc, Hsh.out⟩
theorem zTab : zeroB Tryz.prog 227 = some (.agg (Array.replicate 4096 (.int .i64 0))) := by kernel_rfl
theorem run_blk (w : World) : (Instr.build 230 #[]).run Tryz.prog w = .ok (.agg #[.slice none 0 0]) w := by kernel_rfl
set_option maxRecDepth 20000 in
theorem squeeze3_c (hl : b.length = 3) (hr : RS w0 F bv b) (h : Sat w0 w F) :
    Calls Tryz.prog 84 #[bv] w (Rtn fun v w' => ∃ ra rc, v = .tuple #[.slice ra 4 rc, errno 0] ∧ Sat w0 w' F) := by
  obtain ⟨a, c, rfl, hc1, hc2⟩ := hr.len h
  rw [hl] at hr hc1 ⊢
  have hsl := fun w => run_slF (a := a) (n := 3) (c := c) (k := 0) dCz w
  have hsl : ∀ w, (Instr.sliceAt 47 (.slice a 3 c) (some (.int .i64 0)) none none).run Tryz.prog w = .ok (.slice a 3 c) w := fun w => by
    refine (hsl w).trans ?_
    unfold sliced
    rw [if_neg (by omega)]
    cases a with
    | none => rfl
    | some ad => obtain ⟨bk, off, path⟩ := ad; rfl
  have Hr := Lib.hid hr; have Hl := Lib.hid hl
  clear hr hl hc1 hc2
  go_enter Tryz.func84, Tryz.ntmps84
  go_wp2_with (with_reducible apply at_alloc)
  refine ⟨?_⟩
  refine wl_alloc zTab h rfl ?_
  intro b5 w5 h5
  have h6 : Sat w0 w5 F := h5.drop
  clear h h5
  go_wp2_with (first
    | ((with_reducible apply ug_at_build); refine ⟨?_⟩; refine wl_bld rFz run_blk ?_)
    | (with_reducible apply at_box))
  refine ⟨?_⟩
  refine wl_box h6 rFz rFz ?_
  intro p w7 h7
  have h7 : Sat w0 w7 (pt p (.cells #[.slice none 0 0] 230 (0,0)) :: F) := h7
  clear h6
  go_wp2_with fail
  try go_frame
  go_loopg [7, 8] 1 (fun g tq iq wr => g = 1 ∧ tq = .int .i64 0 ∧ iq = .int .i64 0 ∧ wr = w7)
  case atStart => exact ⟨rfl, rfl, rfl, rfl⟩
  case round =>
    obtain ⟨rfl, rfl, rfl, rfl⟩ := hrel
    go_wp2_with ((with_reducible apply at_slF); refine ⟨?_⟩; refine wl_slF rFz rFz hsl ?_)
    refine (lzseq3_c Hl.out Hr.out h7).mono ?_
    rintro ee w8 ⟨v, rfl, ra, rc, h8⟩
    have e0 : w8.cell? ⟨p, 0, none⟩ = some (.slice ra 4 rc) := h8.cellP pick1 0 rfl
    have Hsh := Lib.hid (h8.sb : Sat w0 w8 F)
    clear h7 h8
    go_wp2_with fail
    go_ret2
    exact ⟨_, rfl, ra, rc, rfl, Hsh.out⟩
set_option maxRecDepth 20000 in
theorem wput3_c (hl : b.length = 3) (hr : RS w0 F bv b) (h : Sat w0 w F) :
    Calls Tryz.prog 85 #[.int .u8 0, .int .i64 3, bv] w (Rtn fun v w' => Sat w0 w' (bsl v (Lz.wrapS b) :: F)) := by
  obtain ⟨a, c, rfl, hc1, hc2⟩ := hr.len h
  rw [hl] at hr hc1 ⊢
  have Hw := Lib.hid (show Lz.wrapS b = ([] ++ [0] ++ Frm.le 3 4) ++ b by unfold Lz.wrapS; rw [hl]; rfl)
  have Hr := Lib.hid hr; have Hl := Lib.hid hl
  have hmk : ∀ w, (Instr.makeSlice 47 (.int .i64 0) (.int .i64 8)).run Tryz.prog w = .ok (.slice (some ⟨w.heap.size, 0, none⟩) 0 8) (w.alloc (.cells (madeCells #[.int .u8 0] 8) 5)) := make_u8 0 8 dCz dCz
  have hA := h.alloc (.cells (madeCells #[.int .u8 0] 8) 5)
  have hB : Sat w0 _ (bsl (.slice (some ⟨w.heap.size, 0, none⟩) 0 8) [] :: F) := made_bsl (l := 0) (c := 8) dCz dCz hA
  clear hr hl hc1 hc2 hA
  go_enter Tryz.func85, Tryz.ntmps85
  go_wp2_with (first
    | ((with_reducible apply at_build1); refine ⟨?_⟩; refine wl_build1 (e := 5) (sz := 1) (by' := 1) kRz hB rFz (cs := #[.int .u8 0]) rfl rfl nLz ?_; intro bN wN hN)
    | ((with_reducible apply at_append); refine ⟨?_⟩; refine wl_app 5 1 1 kRz hN rFz rFz (xs := bys []) pick1 pick0 rFz (Nat.le_refl 1) rFz dCz (by show 1 ≤ 65536; decide) dCz (ys := bys [0]) rfl ?_; intro bA nA cA wA hA))
  have h2 : Sat w0 wA (bsl (.slice (some ⟨bA, 0, none⟩) nA cA) ([] ++ [0]) :: F) := hA
  have hput : Calls Tryz.prog 128 #[.int .u64 3, .int .i64 4] wA (Rtn fun v w' => Sat w0 w' (bsl v (Frm.le 3 4) :: bsl (.slice (some ⟨bA, 0, none⟩) nA cA) ([] ++ [0]) :: F) ∧ ∃ a, v = .slice a 4 4) := put4_c 3 dCz h2
  clear hB hN hA h2
  go_wp2_with fail
  refine hput.mono ?_
  rintro ee w4 ⟨v, rfl, h3, pa, rfl⟩
  clear hput
  go_wp2_with (with_reducible apply at_append)
  refine ⟨?_⟩
  refine wl_appD 5 1 1 kRz h3 rFz rFz (xs := bys ([] ++ [0])) (ys := bys (Frm.le 3 4)) pick1 (Sat.rd h3) (bys_one _) dCz dCz ?_
  intro v' w5 h4
  rw [← bys_append] at h4
  have h5 : Sat w0 w5 (bsl v' ([] ++ [0] ++ Frm.le 3 4) :: F) := (show Sat w0 w5 (bsl v' ([] ++ [0] ++ Frm.le 3 4) :: bsl (.slice pa 4 4) (Frm.le 3 4) :: F) from h4).sb
  clear h3 h4
  go_wp2_with (with_reducible apply at_append)
  refine ⟨?_⟩
  refine wl_appD 5 1 1 kRz h5 rFz rFz (xs := bys ([] ++ [0] ++ Frm.le 3 4)) (ys := bys b) pick0 (Hr.out.rd _ h5.drop) (bys_one _) (by rw [bys_len, bys_len, Hl.out]; decide) dCz ?_
  intro v2 w6 h6
  rw [← bys_append, ← Hw.out] at h6
  have Hsh := Lib.hid (show Sat w0 w6 (bsl v2 (Lz.wrapS b) :: F) from h6)
  clear h5 h6
  go_wp2_with fail
  go_ret
  exact ⟨_, rfl, Hsh.out⟩
theorem wrap3_c (hl : b.length = 3) (hr : RS w0 F bv b) (h : Sat w0 w F) :
    Calls Tryz.prog 53 #[bv, .bool false] w (Rtn fun v w' => ∃ ra rn rc, v = .tuple #[.slice ra rn rc, errno 0] ∧ Sat w0 w' (bsl (.slice ra rn rc) (Lz.wrapS b) :: F)) := by
  obtain ⟨a, c, rfl, hc1, hc2⟩ := hr.len h
  have hsq := squeeze3_c hl hr h
  rw [hl] at hr hc1 hsq ⊢
  have Hr := Lib.hid hr; have Hl := Lib.hid hl
  clear hr hl hc1 hc2
  go_enter Tryz.func53, Tryz.ntmps53
  go_wp2_with fail
  refine hsq.mono ?_
  rintro ee w1 ⟨v, rfl, ra, rc, rfl, h1⟩
  clear hsq h
  go_wp2_with fail
  refine (wput3_c Hl.out Hr.out h1).mono ?_
  rintro ee w2 ⟨v, rfl, h2⟩
  obtain ⟨va, vn, vc, rfl, q1, q2, q3⟩ := bsl_cap' h2
  have Hsh := Lib.hid h2
  clear q1 q2 q3
  clear h1 h2
  go_wp2_with fail
  go_ret2
  exact ⟨_, rfl, va, vn, vc, rfl, Hsh.out⟩
end
end Go.Proofs.YtopconiamijknaaGreatDoor
namespace Go.Tab
end Go.Tab
namespace Go.Proofs.YtopconiamijknaaGreatDoor
open Go Go.Sl Go.Med Go.MapKept Go.RowKit
section
variable {w0 w : World} {F : List HProp} {p m K r ps pn B : Nat} {L : Seg.Log} {M : Med} {seg : Int} {d : Bool} {k : Frm.Bs} {mp : Frm.Bs → Option Seg.Plc}
set_option maxRecDepth 20000 in
theorem rpput_c (hB : B ≤ 134217000) (hk : k.length = 32) (data : Frm.Bs) (da : Option Addr) (dc : Nat) (hd : Ro w0 F (rdsl 1 (.slice da data.length dc) (bys data))) (hLd : data.length ≤ 1099511627) (hL : L.Ok) (hM : M.Ok K) (hKK : K + 4 ≤ 1099511627776) (hH : Ro w0 F Half)
    (h0 : (L.append M ⟨0, k, data⟩).2.2 = 0) (h : Sat w0 w (rpPt r m seg p ps pn d :: TabML pn mp B :: LogRep p m L :: MedRep m M :: F)) :
    Calls Tryz.prog 54 #[ptr r, .agg (bys k).toArray, .slice da data.length dc] w (Rtn fun v w' => v = errno 0 ∧
      Sat w0 w' (rpPt r m seg p ps pn true :: TabML pn (Tab.put mp k (L.append M ⟨0, k, data⟩).2.1) (B + 1) :: LogRep p m (L.append M ⟨0, k, data⟩).1.1 :: MedRep m (L.append M ⟨0, k, data⟩).1.2 :: F)) := by
  have hks : (bys k).length = 32 := by rw [bys_len, hk]
  have hap := Lib.hid (fun (w' : World) (R : List HProp) (hh : Ro w0 R Half) (hr : Ro w0 R (rdsl 1 (.slice da data.length dc) (bys data))) (hw : Sat w0 w' (LogRep p m L :: MedRep m M :: R)) => lappend_c ⟨0, k, data⟩ hk da dc hr hh hLd hL hM hKK hw)
  generalize L.append M ⟨0, k, data⟩ = q at *
  obtain ⟨⟨L2, M2⟩, pc, e2⟩ := q
  dsimp only at h0 hap ⊢
  subst h0
  have HB := Lib.hid hB; have Hkey := Lib.hid hk; have Hks := Lib.hid hks; have Hd := Lib.hid hd; have HH := Lib.hid hH
  clear hB hk hks hd hLd hL hM hKK hH
  go_enter Tryz.func54, Tryz.ntmps54
  go_wp2_with (with_reducible apply at_box)
  refine ⟨?_⟩
  refine wl_box h evD evD ?_
  intro b4 w4 h4
  replace h4 : Sat w0 w4 (pt b4 (.cells (bys k).toArray 24 (0,0)) :: rpPt r m seg p ps pn d :: TabML pn mp B :: LogRep p m L :: MedRep m M :: F) := h4
  clear h
  go_wp2_with fail
  refine (rokY_c (h4.sb : Sat w0 w4 (rpPt r m seg p ps pn d :: pt b4 (.cells (bys k).toArray 24 (0,0)) :: TabML pn mp B :: LogRep p m L :: MedRep m M :: F))).mono ?_
  rintro ee w5 ⟨v, rfl, rfl, rfl⟩
  go_wp2_with fail
  have h5 := h4.drew
  clear h4
  refine wpL_begin [7, 8, 9, 10, 12, 13] (fun w' => w'.cell? ⟨r, 2, none⟩ = some (.pointer (some ⟨p, 0, none⟩)) ∧ w'.rangeAt b4 0 (bys k)) kRz ?_
  have hGf : ∀ (w' : World) (R : List HProp) (dd : Bool), Sat w0 w' (pt b4 (.cells (bys k).toArray 24 (0,0)) :: rpPt r m seg p ps pn dd :: R) → w'.cell? ⟨r, 2, none⟩ = some (.pointer (some ⟨p, 0, none⟩)) ∧ w'.rangeAt b4 0 (bys k) := fun w' R dd hw => ⟨hw.cellP pick1 2 rfl, fun j z hj => by rw [Nat.zero_add]; exact hw.cellP pick0 j (by rw [List.getElem?_toArray]; exact hj)⟩
  have HGf := Lib.hid hGf
  have hG := hGf _ _ _ h5
  clear hGf
  refine rp 0 (hy := (yl_move evD)) (h := ?_)
  refine rp 1 (hy := (yl_nil evD)) (h := ?_)
  refine rp 2 (hy := (yl_field evD rnD)) (h := ?_)
  refine rt 3 (h := ?_)
  refine rg_take 4 evD kRz i3z (tk_loadN (b := b4) (o := 0) (bys k) rFz Tryz.underlying24 rfl (by rw [Hks.out]; kernel_rfl) (fun w hw => hw.2)) (by assumption) (by go_frame; first | done | rfl) ?_
  clear hG
  refine rp 5 (hy := (yl_move evD)) (h := ?_)
  refine rp 6 (hy := (yl_build3 evD evD evD (fun w => run_buildEnt ⟨0, k, data⟩ Hkey.out da data.length dc w))) (h := ?_)
  refine rg_eff2 7 11 evD evD kRz (fun K hK => ?_) (fun K hK => ?_)
  · (refine eff_call2 kRz evD evD ?_)
    refine (hap.out _ _ (Ro.os HH.out) (Ro.os Hd.out) (h5.sb : Sat w0 _ (LogRep p m L :: MedRep m M :: pt b4 (.cells (bys k).toArray 24 (0,0)) :: rpPt r m seg p ps pn d :: TabML pn mp B :: F))).mono ?_
    rintro ee w6 ⟨v, rfl, rfl, h6⟩
    refine hK _ _ (.inl rfl) ?_
    clear hK hap h5
    refine rp 8 (hy := (yl_move evD)) (h := ?_)
    refine rp 9 (hy := (yl_extract evD rnD)) (h := ?_)
    refine rp 10 (hy := (yl_extract evD rnD)) (h := ?_)
    refine rg_eff 11 evD kRz (fun K hK => ?_)
    refine eff_alloc (zValL) h6 rfl ?_
    intro b7 w7 h7
    refine hK _ _ (.inr (.inl (HGf.out _ _ _ (h7.sb : Sat w0 w7 (pt b4 (.cells (bys k).toArray 24 (0,0)) :: rpPt r m seg p ps pn d :: TabML pn mp B :: pt b7 (.cells (penc Seg.Plc.zero).toArray 102 (0,0)) :: LogRep p m L2 :: MedRep m M2 :: F))))) ?_
    clear hK h6
    have h8 : Sat w0 w7 (pt b7 (.cells (penc Seg.Plc.zero).toArray 102 (0,0)) :: pt b4 (.cells (bys k).toArray 24 (0,0)) :: rpPt r m seg p ps pn d :: TabML pn mp B :: LogRep p m L2 :: MedRep m M2 :: F) := h7.sb
    clear h7
    refine rg_eff 12 evD kRz (fun K hK => ?_)
    refine eff_store (cs' := (penc pc).toArray) h8 evD evD rFz upd0 nLz kRz rFz ?_
    intro w9 h9
    refine hK _ _ (.inl rfl) ?_
    clear hK h8
    refine rp 13 (hy := (yl_assign evD)) (h := ?_)
    refine wpL_done kRz ?_
    go_wp2_with fail
    have h10 := h9.drew
    clear h9
    replace h10 : Sat w0 _ (pt b4 (.cells (bys k).toArray 24 (0,0)) :: rpPt r m seg p ps pn d :: TabML pn mp B :: pt b7 (.cells (penc pc).toArray 102 (0,0)) :: LogRep p m L2 :: MedRep m M2 :: F) := h10.sb
    refine wpL_begin [6] (fun w' => w'.cell? ⟨r, 4, none⟩ = some (.pointer (some ⟨pn, 0, none⟩)) ∧ w'.rangeAt b4 0 (bys k) ∧ w'.rangeAt b7 0 (penc pc)) kRz ?_
    have hG : World.cell? _ ⟨r, 4, none⟩ = some (.pointer (some ⟨pn, 0, none⟩)) ∧ World.rangeAt _ b4 0 (bys k) ∧ World.rangeAt _ b7 0 (penc pc) := ⟨h10.cellP pick1 4 rfl, fun j z hj => by rw [Nat.zero_add]; exact h10.cellP pick0 j (by rw [List.getElem?_toArray]; exact hj), fun j z hj => by rw [Nat.zero_add]; exact h10.cellP pick3 j (by rw [List.getElem?_toArray]; exact hj)⟩
    refine rp 0 (hy := (yl_move evD)) (h := ?_)
    refine rp 1 (hy := (yl_nil evD)) (h := ?_)
    refine rp 2 (hy := (yl_field evD rnD)) (h := ?_)
    refine rt 3 (h := ?_)
    refine rg_take 4 evD kRz i3z (tk_loadN (b := b4) (o := 0) (bys k) rFz Tryz.underlying24 rfl (by rw [Hks.out]; kernel_rfl) (fun w hw => hw.2.1)) (by assumption) (by go_frame; first | done | rfl) ?_
    refine rg_take 5 evD kRz i3z (tk_loadN (b := b7) (o := 0) (penc pc) rFz Tryz.underlying102 rfl kRz (fun w hw => hw.2.2)) (by assumption) (by go_frame; first | done | rfl) ?_
    clear hG
    refine rg_eff 6 evD kRz (fun K hK => ?_)
    (refine eff_call3 kRz evD evD evD ?_)
    refine (putL_c HB.out Hkey.out pc (h10.sb : Sat w0 _ (TabML pn mp B :: pt b4 (.cells (bys k).toArray 24 (0,0)) :: rpPt r m seg p ps pn d :: pt b7 (.cells (penc pc).toArray 102 (0,0)) :: LogRep p m L2 :: MedRep m M2 :: F))).mono ?_
    rintro ee w11 ⟨v, rfl, h11⟩
    refine hK _ _ (.inl rfl) ?_
    clear hK h10
    refine wpL_done kRz ?_
    go_wp2_with (with_reducible apply at_store)
    refine ⟨?_⟩
    refine wl_store (cs' := #[ptr m, .int .i64 seg, ptr p, ptr ps, ptr pn, .bool true]) (h11.sb : Sat w0 w11 (rpPt r m seg p ps pn d :: TabML pn (Tab.put mp k pc) (B + 1) :: pt b4 (.cells (bys k).toArray 24 (0,0)) :: pt b7 (.cells (penc pc).toArray 102 (0,0)) :: LogRep p m L2 :: MedRep m M2 :: F)) rFz rFz rFz upd0 nLz kRz rFz ?_
    intro w12 h12
    go_wp2_with fail
    go_ret
    exact ⟨_, rfl, rfl, h12.sb⟩
  · refine eff_alloc (zValL) h5 rfl ?_
    intro b7 w6 h6
    refine hK _ _ (.inr (.inl (HGf.out _ _ _ (h6.sb : Sat w0 w6 (pt b4 (.cells (bys k).toArray 24 (0,0)) :: rpPt r m seg p ps pn d :: pt b7 (.cells (penc Seg.Plc.zero).toArray 102 (0,0)) :: TabML pn mp B :: LogRep p m L :: MedRep m M :: F))))) ?_
    clear hK h5
    refine rg_eff 7 evD kRz (fun K hK => ?_)
    (refine eff_call2 kRz evD evD ?_)
    refine (hap.out _ _ (Ro.os HH.out) (Ro.os Hd.out) (h6.sb : Sat w0 _ (LogRep p m L :: MedRep m M :: pt b7 (.cells (penc Seg.Plc.zero).toArray 102 (0,0)) :: pt b4 (.cells (bys k).toArray 24 (0,0)) :: rpPt r m seg p ps pn d :: TabML pn mp B :: F))).mono ?_
    rintro ee w7 ⟨v, rfl, rfl, h7⟩
    refine hK _ _ (.inl rfl) ?_
    clear hK hap h6
    refine rp 8 (hy := (yl_move evD)) (h := ?_)
    refine rp 9 (hy := (yl_extract evD rnD)) (h := ?_)
    refine rp 10 (hy := (yl_extract evD rnD)) (h := ?_)
    have h8 : Sat w0 w7 (pt b7 (.cells (penc Seg.Plc.zero).toArray 102 (0,0)) :: pt b4 (.cells (bys k).toArray 24 (0,0)) :: rpPt r m seg p ps pn d :: TabML pn mp B :: LogRep p m L2 :: MedRep m M2 :: F) := h7.sb
    clear h7
    refine rg_eff 12 evD kRz (fun K hK => ?_)
    refine eff_store (cs' := (penc pc).toArray) h8 evD evD rFz upd0 nLz kRz rFz ?_
    intro w9 h9
    refine hK _ _ (.inl rfl) ?_
    clear hK h8
    refine rp 13 (hy := (yl_assign evD)) (h := ?_)
    refine wpL_done kRz ?_
    go_wp2_with fail
    have h10 := h9.drew
    clear h9
    replace h10 : Sat w0 _ (pt b4 (.cells (bys k).toArray 24 (0,0)) :: rpPt r m seg p ps pn d :: TabML pn mp B :: pt b7 (.cells (penc pc).toArray 102 (0,0)) :: LogRep p m L2 :: MedRep m M2 :: F) := h10.sb
    refine wpL_begin [6] (fun w' => w'.cell? ⟨r, 4, none⟩ = some (.pointer (some ⟨pn, 0, none⟩)) ∧ w'.rangeAt b4 0 (bys k) ∧ w'.rangeAt b7 0 (penc pc)) kRz ?_
    have hG : World.cell? _ ⟨r, 4, none⟩ = some (.pointer (some ⟨pn, 0, none⟩)) ∧ World.rangeAt _ b4 0 (bys k) ∧ World.rangeAt _ b7 0 (penc pc) := ⟨h10.cellP pick1 4 rfl, fun j z hj => by rw [Nat.zero_add]; exact h10.cellP pick0 j (by rw [List.getElem?_toArray]; exact hj), fun j z hj => by rw [Nat.zero_add]; exact h10.cellP pick3 j (by rw [List.getElem?_toArray]; exact hj)⟩
    refine rp 0 (hy := (yl_move evD)) (h := ?_)
    refine rp 1 (hy := (yl_nil evD)) (h := ?_)
    refine rp 2 (hy := (yl_field evD rnD)) (h := ?_)
    refine rt 3 (h := ?_)
    refine rg_take 4 evD kRz i3z (tk_loadN (b := b4) (o := 0) (bys k) rFz Tryz.underlying24 rfl (by rw [Hks.out]; kernel_rfl) (fun w hw => hw.2.1)) (by assumption) (by go_frame; first | done | rfl) ?_
    refine rg_take 5 evD kRz i3z (tk_loadN (b := b7) (o := 0) (penc pc) rFz Tryz.underlying102 rfl kRz (fun w hw => hw.2.2)) (by assumption) (by go_frame; first | done | rfl) ?_
    clear hG
    refine rg_eff 6 evD kRz (fun K hK => ?_)
    (refine eff_call3 kRz evD evD evD ?_)
    refine (putL_c HB.out Hkey.out pc (h10.sb : Sat w0 _ (TabML pn mp B :: pt b4 (.cells (bys k).toArray 24 (0,0)) :: rpPt r m seg p ps pn d :: pt b7 (.cells (penc pc).toArray 102 (0,0)) :: LogRep p m L2 :: MedRep m M2 :: F))).mono ?_
    rintro ee w11 ⟨v, rfl, h11⟩
    refine hK _ _ (.inl rfl) ?_
    clear hK h10
    refine wpL_done kRz ?_
    go_wp2_with (with_reducible apply at_store)
    refine ⟨?_⟩
    refine wl_store (cs' := #[ptr m, .int .i64 seg, ptr p, ptr ps, ptr pn, .bool true]) (h11.sb : Sat w0 w11 (rpPt r m seg p ps pn d :: TabML pn (Tab.put mp k pc) (B + 1) :: pt b4 (.cells (bys k).toArray 24 (0,0)) :: pt b7 (.cells (penc pc).toArray 102 (0,0)) :: LogRep p m L2 :: MedRep m M2 :: F)) rFz rFz rFz upd0 nLz kRz rFz ?_
    intro w12 h12
    go_wp2_with fail
    go_ret
    exact ⟨_, rfl, rfl, h12.sb⟩
theorem run_repo0 (w : World) : (Instr.build 61 #[]).run Tryz.prog w = .ok (.agg #[.pointer none, .int .i64 0, .pointer none, .pointer none, .pointer none, .bool false]) w := run_build (P := Tryz.prog) [] plRepo zRepo (by simp) w
end
section
variable {w0 w : World} {F : List HProp} {p m K r ps pn B : Nat} {L : Seg.Log} {M : Med} {seg : Int} {d : Bool} {k : Frm.Bs} {mp : Frm.Bs → Option Seg.Plc}
set_option maxRecDepth 20000 in
theorem rpplace_c (hB : B ≤ 268435000) (hk : k.length = 32) (h : Sat w0 w (rpPt r m seg p ps pn d :: TabML pn mp B :: F)) :
    Calls Tryz.prog 83 #[ptr r, .agg (bys k).toArray] w (Rtn fun v w' => v = .tuple #[.agg (penc ((mp k).getD Seg.Plc.zero)).toArray, .bool (mp k).isSome] ∧ Sat w0 w' (rpPt r m seg p ps pn d :: TabML pn mp B :: F)) := by
  have Hk := Lib.hid hk; have Hks := Lib.hid (show (bys k).length = 32 by rw [bys_len, hk]); have HB := Lib.hid hB
  clear hk hB
  go_enter Tryz.func83, Tryz.ntmps83
  go_wp2_with (with_reducible apply at_box)
  refine ⟨?_⟩
  refine wl_box h evD evD ?_
  intro b3 w3 h3
  go_wp2_with (with_reducible apply at_alloc)
  refine ⟨?_⟩
  refine wl_alloc zValL h3 rfl ?_
  intro b4 w4 h4
  replace h4 : Sat w0 w4 (rpPt r m seg p ps pn d :: pt b4 (.cells (penc Seg.Plc.zero).toArray 102 (0,0)) :: pt b3 (.cells (bys k).toArray 24 (0,0)) :: TabML pn mp B :: F) := h4.sb
  clear h h3
  go_wp2_with fail
  refine (rokY_c h4).mono ?_
  rintro ee w5 ⟨v, rfl, rfl, rfl⟩
  go_wp2_with fail
  have h5 := h4.drew
  clear h4
  refine wpL_begin [5, 6, 7, 8, 9] (fun w' => w'.cell? ⟨r, 4, none⟩ = some (.pointer (some ⟨pn, 0, none⟩)) ∧ w'.rangeAt b3 0 (bys k)) kRz ?_
  have hG : World.cell? _ ⟨r, 4, none⟩ = some (.pointer (some ⟨pn, 0, none⟩)) ∧ World.rangeAt _ b3 0 (bys k) := ⟨h5.cellP pick0 4 rfl, fun j z hj => by rw [Nat.zero_add]; exact h5.cellP pick2 j (by rw [List.getElem?_toArray]; exact hj)⟩
  refine rp 0 (hy := (yl_move evD)) (h := ?_)
  refine rp 1 (hy := (yl_nil evD)) (h := ?_)
  refine rp 2 (hy := (yl_field evD rnD)) (h := ?_)
  refine rt 3 (h := ?_)
  refine rg_take 4 evD kRz i3z (tk_loadN (b := b3) (o := 0) (bys k) rFz Tryz.underlying24 rfl (by rw [Hks.out]; kernel_rfl) (fun w hw => hw.2)) (by assumption) (by go_frame; first | done | rfl) ?_
  clear hG
  refine rg_eff 5 evD kRz (fun K hK => ?_)
  (refine eff_call2 kRz evD evD ?_)
  refine (getL_c HB.out Hk.out (h5.sb : Sat w0 _ (TabML pn mp B :: pt b4 (.cells (penc Seg.Plc.zero).toArray 102 (0,0)) :: rpPt r m seg p ps pn d :: pt b3 (.cells (bys k).toArray 24 (0,0)) :: F))).mono ?_
  rintro ee w6 ⟨v, rfl, rfl, h6⟩
  refine hK _ _ (.inl rfl) ?_
  clear hK h5
  generalize hpc : (mp k).getD Seg.Plc.zero = pc at *
  have Hpc := Lib.hid hpc
  clear hpc
  refine rp 6 (hy := (yl_extract evD rnD)) (h := ?_)
  refine rp 7 (hy := (yl_extract evD rnD)) (h := ?_)
  have h7 : Sat w0 w6 (pt b4 (.cells (penc Seg.Plc.zero).toArray 102 (0,0)) :: rpPt r m seg p ps pn d :: pt b3 (.cells (bys k).toArray 24 (0,0)) :: TabML pn mp B :: F) := h6.sb
  clear h6
  refine rg_eff 8 evD kRz (fun K hK => ?_)
  refine eff_store (cs' := (penc pc).toArray) h7 evD evD rFz upd0 nLz kRz rFz ?_
  intro w9 h9
  refine hK _ _ (.inl rfl) ?_
  clear hK h7
  refine rp 9 (hy := (yl_assign evD)) (h := ?_)
  refine wpL_done kRz ?_
  go_wp2_with fail
  refine ⟨rfl, _, res_cell_tmp rfl h9 rFz pick0 Tryz.underlying102 rfl kRz, _, rfl, ?_, h9.sb⟩
  rw [Hpc.out]; rfl
set_option maxRecDepth 20000 in
theorem rphas_c (hB : B ≤ 268435000) (hk : k.length = 32) (h : Sat w0 w (rpPt r m seg p ps pn d :: TabML pn mp B :: F)) :
    Calls Tryz.prog 51 #[ptr r, .agg (bys k).toArray] w (Rtn fun v w' => v = .bool (mp k).isSome ∧ Sat w0 w' (rpPt r m seg p ps pn d :: TabML pn mp B :: F)) := by
  have Hk := Lib.hid hk; have Hks := Lib.hid (show (bys k).length = 32 by rw [bys_len, hk]); have HB := Lib.hid hB
  clear hk hB
  go_enter Tryz.func51, Tryz.ntmps51
  go_wp2_with (with_reducible apply at_box)
  refine ⟨?_⟩
  refine wl_box h evD evD ?_
  intro b3 w3 h3
  replace h3 : Sat w0 w3 (pt b3 (.cells (bys k).toArray 24 (0,0)) :: rpPt r m seg p ps pn d :: TabML pn mp B :: F) := h3
  clear h
  go_wp2_with ((with_reducible apply at_load); refine ⟨?_⟩; refine wl_loadA h3 rFz pick0 Tryz.underlying24 rfl (by rw [List.size_toArray, Hks.out]; kernel_rfl) ?_)
  refine (rpplace_c HB.out Hk.out (h3.sb : Sat w0 w3 (rpPt r m seg p ps pn d :: TabML pn mp B :: pt b3 (.cells (bys k).toArray 24 (0,0)) :: F))).mono ?_
  rintro ee w4 ⟨v, rfl, rfl, h4⟩
  clear h3
  generalize (mp k).getD Seg.Plc.zero = pc at *
  go_wp2_with (with_reducible apply at_alloc)
  refine ⟨?_⟩
  refine wl_alloc zValL h4 rfl ?_
  intro b5 w5 h5
  go_wp2_with (with_reducible apply at_store)
  refine ⟨?_⟩
  refine wl_storeA (penc pc).toArray h5 rFz rFz rFz upd0 kRz rFz ?_
  intro w6 h6
  go_wp2_with fail
  go_ret
  exact ⟨_, rfl, rfl, h6.sb⟩
end
section
variable {w0 w : World} {F : List HProp}
set_option maxRecDepth 20000 in
theorem skeep_c {s r t m p ps pn B K : Nat} {d : Bool} {seg : Int} {mp : Frm.Bs → Option Seg.Plc} {k b : Frm.Bs} {bv : Value} {L : Seg.Log} {M : Med} (hB : B ≤ 134217000) (hk : k.length = 32) (hl : b.length = 3) (hr : RS w0 F bv b) (hmp : mp k = none) (hL : L.Ok) (hM : M.Ok K) (hKK : K + 4 ≤ 1099511627776) (hH : Ro w0 F Half)
    (h0 : (L.append M ⟨0, k, Lz.wrapS b⟩).2.2 = 0) (h : Sat w0 w (stoPt s r t false :: rpPt r m seg p ps pn d :: TabML pn mp B :: LogRep p m L :: MedRep m M :: F)) :
    Calls Tryz.prog 31 #[ptr s, .agg (bys k).toArray, bv] w (Rtn fun v w' => v = errno 0 ∧ Sat w0 w' (stoPt s r t false :: F)) := by
  have Hks := Lib.hid (show (bys k).length = 32 by rw [bys_len, hk])
  have hwl : (Lz.wrapS b).length = 8 := by rw [Lz.wrapS_len, hl]
  have Hhas := Lib.hid (fun (w' : World) (R : List HProp) (hw : Sat w0 w' (rpPt r m seg p ps pn d :: TabML pn mp B :: R)) => rphas_c (k := k) (Nat.le_trans hB dCz) hk hw)
  rw [hmp] at Hhas
  have Hwr := Lib.hid (fun (w' : World) (R : List HProp) (hs : RS w0 R bv b) (hw : Sat w0 w' R) => wrap3_c hl hs hw)
  have Hput := Lib.hid (fun (w' : World) (R : List HProp) (da : Option Addr) (dc : Nat) (hd : Ro w0 R (rdsl 1 (.slice da 8 dc) (bys (Lz.wrapS b)))) (hh : Ro w0 R Half) (hw : Sat w0 w' (rpPt r m seg p ps pn d :: TabML pn mp B :: LogRep p m L :: MedRep m M :: R)) =>
    rpput_c hB hk (Lz.wrapS b) da dc (by rw [hwl]; exact hd) (by rw [hwl]; decide) hL hM hKK hh h0 hw)
  rw [hwl] at Hput
  generalize L.append M ⟨0, k, Lz.wrapS b⟩ = q at *
  have Hwl := Lib.hid hwl
  generalize Lz.wrapS b = wb at *
  have HH := Lib.hid hH; have Hr := Lib.hid hr
  clear hB hk hl hr hmp hL hM hKK hH h0 hwl
  go_enter Tryz.func31, Tryz.ntmps31
  go_wp2_with (with_reducible apply at_box)
  refine ⟨?_⟩
  refine wl_box h evD evD ?_
  intro b4 w4 h4
  replace h4 : Sat w0 w4 (pt b4 (.cells (bys k).toArray 24 (0,0)) :: stoPt s r t false :: rpPt r m seg p ps pn d :: TabML pn mp B :: LogRep p m L :: MedRep m M :: F) := h4
  clear h
  go_wp2_with fail
  have h5 := h4.drew
  have hG : World.cell? _ ⟨s, 0, none⟩ = some (ptr r) ∧ World.rangeAt _ b4 0 (bys k) := ⟨h5.cellP pick1 0 rfl, fun j v hj => h5.cellP pick0 (0 + j) (by simpa using hj)⟩
  clear h4
  refine wpL_begin [5] (fun w' => w'.cell? ⟨s, 0, none⟩ = some (ptr r) ∧ w'.rangeAt b4 0 (bys k)) kRz ?_
  refine rp 0 (hy := (yl_move evD)) (h := ?_)
  refine rp 1 (hy := (yl_nil evD)) (h := ?_)
  refine rp 2 (hy := (yl_field evD rnD)) (h := ?_)
  refine rt 3 (h := ?_)
  refine rg_take 4 evD kRz i3z (tk_loadN (b := b4) (o := 0) (bys k) rFz Tryz.underlying24 rfl (by rw [Hks.out]; kernel_rfl) (fun w hw => hw.2)) (by assumption) (by go_frame; first | done | rfl) ?_
  clear hG
  refine rg_eff 5 evD kRz (fun K hK => ?_)
  (refine eff_call2 kRz evD evD ?_)
  refine (Hhas.out _ _ (h5.sb : Sat w0 _ (rpPt r m seg p ps pn d :: TabML pn mp B :: pt b4 (.cells (bys k).toArray 24 (0,0)) :: stoPt s r t false :: LogRep p m L :: MedRep m M :: F))).mono ?_
  rintro ee w6 ⟨v, rfl, rfl, h6'⟩
  refine hK _ _ (.inl rfl) ?_
  clear hK h5
  have h6 : Sat w0 w6 (stoPt s r t false :: pt b4 (.cells (bys k).toArray 24 (0,0)) :: rpPt r m seg p ps pn d :: TabML pn mp B :: LogRep p m L :: MedRep m M :: F) := h6'.sb
  clear h6'
  refine wpL_done kRz ?_
  have e2 : w6.cell? ⟨s, 2, none⟩ = some (.bool false) := h6.cellAt 2 _ rfl
  have hwr := Hwr.out w6 _ (Hr.out.more sbD) h6
  go_wp2_with fail
  refine hwr.mono ?_
  rintro ee w7 ⟨v, rfl, ra, rn, rc, rfl, h7⟩
  clear hwr h6 e2
  obtain ⟨va, vn, vc, q0, q1, q2, q3⟩ := bsl_cap' h7
  rw [Hwl.out] at q3
  subst q3
  cases q0
  clear q1 q2
  go_wp2_with fail
  have h8 := h7.drew
  have hG : World.cell? _ ⟨s, 0, none⟩ = some (ptr r) ∧ World.rangeAt _ b4 0 (bys k) := ⟨h8.cellP pick1 0 rfl, fun j v hj => h8.cellP pick2 (0 + j) (by simpa using hj)⟩
  clear h7
  refine wpL_begin [6, 7] (fun w' => w'.cell? ⟨s, 0, none⟩ = some (ptr r) ∧ w'.rangeAt b4 0 (bys k)) kRz ?_
  refine rp 0 (hy := (yl_move evD)) (h := ?_)
  refine rp 1 (hy := (yl_nil evD)) (h := ?_)
  refine rp 2 (hy := (yl_field evD rnD)) (h := ?_)
  refine rt 3 (h := ?_)
  refine rg_take 4 evD kRz i3z (tk_loadN (b := b4) (o := 0) (bys k) rFz Tryz.underlying24 rfl (by rw [Hks.out]; kernel_rfl) (fun w hw => hw.2)) (by assumption) (by go_frame; first | done | rfl) ?_
  clear hG
  refine rp 5 (hy := (yl_move evD)) (h := ?_)
  refine rg_eff 6 evD kRz (fun K hK => ?_)
  (refine eff_call3 kRz evD evD evD ?_)
  refine (Hput.out _ (bsl (.slice ra 8 rc) wb :: pt b4 (.cells (bys k).toArray 24 (0,0)) :: stoPt s r t false :: F) ra rc (Ro.of_pick (Ro.bsl _ _) pick0) (Ro.os HH.out) (h8.sb)).mono ?_
  rintro ee w9 ⟨v, rfl, rfl, h9⟩
  refine hK _ _ (.inl rfl) ?_
  clear hK h8
  refine rp 7 (hy := (yl_assign evD)) (h := ?_)
  refine wpL_done kRz ?_
  go_wp2_with fail
  go_ret
  exact ⟨_, rfl, rfl, h9.sb⟩
end
section
variable {w0 w : World} {F : List HProp}
theorem run_id0 (w : World) : (Instr.build 24 #[]).run Tryz.prog w = .ok (.agg (bys Frm.zero32).toArray) w := by kernel_rfl
theorem plCnt : placesB Tryz.prog 44 = some [(0, 1), (1, 1)] := by kernel_rfl
theorem run_cnt (a b : Int) (w : World) : (Instr.build 44 #[(0, .int .i64 a), (1, .int .i64 b)]).run Tryz.prog w = .ok (.agg (renc ⟨a, b⟩).toArray) w :=
  run_build (P := Tryz.prog) [(0, .int .i64 a), (1, .int .i64 b)] plCnt zValR (by
    intro q hq
    simp only [List.mem_cons, List.not_mem_nil, or_false] at hq
    rcases hq with rfl | rfl
    · exact ⟨0, rfl, by show 0 + 1 ≤ 2; decide⟩
    · exact ⟨1, rfl, by show 1 + 1 ≤ 2; decide⟩) w
set_option maxRecDepth 20000 in
theorem sput3_c {s r t m p ps pn B BR K : Nat} {d : Bool} {seg : Int} {mp : Frm.Bs → Option Seg.Plc} {mR : Frm.Bs → Option Rep.Rfc} {b : Frm.Bs} {bv : Value} {L : Seg.Log} {M : Med} (hB : B ≤ 134217000) (hBR : BR ≤ 134217000) (hl : b.length = 3) (hr : RS w0 F bv b) (hz : Sha.sum b ≠ Frm.zero32) (hmR : mR (Sha.sum b) = none) (hmp : mp (Sha.sum b) = none) (hL : L.Ok) (hM : M.Ok K) (hKK : K + 4 ≤ 1099511627776) (hH : Ro w0 F Half) (hSK : Ro w0 F ShaK)
    (h0 : (L.append M ⟨0, Sha.sum b, Lz.wrapS b⟩).2.2 = 0) (h : Sat w0 w (stoPt s r t false :: TabMR t mR BR :: rpPt r m seg p ps pn d :: TabML pn mp B :: LogRep p m L :: MedRep m M :: F)) :
    Calls Tryz.prog 16 #[ptr s, bv] w (Rtn fun v w' => v = .tuple #[.agg (bys (Sha.sum b)).toArray, errno 0] ∧ Sat w0 w' (stoPt s r t false :: TabMR t (Tab.put mR (Sha.sum b) ⟨1, 3⟩) (BR + 1) :: F)) := by
  have Hsha := Lib.hid (fun (w' : World) (R : List HProp) (hs : RS w0 R bv b) (hk : Ro w0 R ShaK) (hw : Sat w0 w' R) => shaSum_c (by omega) hs hk hw)
  have hk := sha_len b
  generalize Sha.sum b = k at *
  have Hks := Lib.hid (show (bys k).length = 32 by rw [bys_len, hk])
  have Hsz := Lib.hid (show (bys k).toArray.size = 32 by rw [List.size_toArray, bys_len, hk])
  have Hon := Lib.hid (show (bys k).toArray.toList.all (·.oneCell') = true by rw [List.all_eq_true]; exact bys_one _)
  have Hkeep := Lib.hid (fun (w' : World) (R : List HProp) (hs : RS w0 R bv b) (hh : Ro w0 R Half) (hw : Sat w0 w' (stoPt s r t false :: rpPt r m seg p ps pn d :: TabML pn mp B :: LogRep p m L :: MedRep m M :: R)) =>
    skeep_c hB hk hl hs hmp hL hM hKK hh h0 hw)
  have Hget := Lib.hid (fun (w' : World) (R : List HProp) (hw : Sat w0 w' (TabMR t mR BR :: R)) => getR_c (k := k) (Nat.le_trans hBR dCz) hk hw)
  have Hput := Lib.hid (fun (w' : World) (R : List HProp) (hw : Sat w0 w' (TabMR t mR BR :: R)) => putR_c hBR hk ⟨1, 3⟩ hw)
  rw [hmR] at Hget
  generalize Tab.put mR k ⟨1, 3⟩ = mR2 at *
  generalize rpPt r m seg p ps pn d = A1 at *
  generalize TabML pn mp B = A2 at *
  generalize LogRep p m L = A3 at *
  generalize MedRep m M = A4 at *
  have hbin : ∀ w, (Op.equalIn 10000 24 (.agg (bys k).toArray) (.agg (bys Frm.zero32).toArray)).run Tryz.prog w = .ok false w := fun w => by rw [eqIn_key k _ hk dCz, decide_eq_false hz]
  obtain ⟨ba, bc, rfl, q1, q2⟩ := hr.len (h.sb : Sat w0 w F)
  rw [hl] at *
  have HH := Lib.hid hH; have HSK := Lib.hid hSK; have Hr := Lib.hid hr
  clear hB hBR hl hr hz hmR hmp hL hM hKK hH hSK h0 hk q1 q2
  go_enter Tryz.func16, Tryz.ntmps16
  go_wp2_with (with_reducible apply at_alloc)
  refine ⟨?_⟩
  refine wl_alloc zID h rfl ?_
  intro b4 w4 h4
  replace h4 : Sat w0 w4 (stoPt s r t false :: TabMR t mR BR :: pt b4 (.cells (bys Frm.zero32).toArray 24 (0,0)) :: A1 :: A2 :: A3 :: A4 :: F) := h4.sb
  clear h
  have hok := sok_c h4
  go_wp2_with fail
  refine hok.mono ?_
  rintro ee w5 ⟨v, rfl, rfl, rfl⟩
  clear hok
  go_wp2_with fail
  refine (Hsha.out _ _ (Hr.out.more sbD) (Ro.os HSK.out) h4).mono ?_
  rintro ee w6 ⟨v, rfl, rfl, h6⟩
  clear h4
  go_wp2_with (with_reducible apply at_alloc)
  refine ⟨?_⟩
  refine wl_alloc zID h6 rfl ?_
  intro b6 w7 h7
  clear h6
  go_wp2_with (with_reducible apply at_store)
  refine ⟨?_⟩
  refine wl_storeA (bys k).toArray h7 rFz rFz (Hsz.out.trans rFz) upd0 (by rw [Hsz.out]; kernel_rfl) Hon.out ?_
  intro w8 h8
  clear h7
  have hinf : (Tryz.prog.info? 24).map (·.size) = some (bys k).toArray.size := by rw [Hsz.out]; kernel_rfl
  go_wp2_with (first
    | ((with_reducible apply at_load); refine ⟨?_⟩; refine wl_loadA (cs := (bys k).toArray) h8 rFz pick0 Tryz.underlying24 rfl hinf ?_)
    | ((with_reducible apply at_build0); refine ⟨?_⟩; refine wl_build0 run_id0 ?_))
  clear hbin
  have h9 := h8.drew
  have hG : World.cell? _ ⟨s, 1, none⟩ = some (ptr t) ∧ World.rangeAt _ b6 0 (bys k) := ⟨h9.cellP pick1 1 rfl, fun j v hj => h9.cellP pick0 (0 + j) (by simpa using hj)⟩
  clear h8
  refine wpL_begin [5, 6, 7, 8, 10, 11] (fun w' => w'.cell? ⟨s, 1, none⟩ = some (ptr t) ∧ w'.rangeAt b6 0 (bys k)) kRz ?_
  refine rp 0 (hy := (yl_move evD)) (h := ?_)
  refine rp 1 (hy := (yl_nil evD)) (h := ?_)
  refine rp 2 (hy := (yl_field evD rnD)) (h := ?_)
  refine rt 3 (h := ?_)
  refine rg_take 4 evD kRz i3z (tk_loadN (b := b6) (o := 0) (bys k) rFz Tryz.underlying24 rfl (by rw [Hks.out]; kernel_rfl) (fun w hw => hw.2)) (by assumption) (by go_frame; first | done | rfl) ?_
  clear hG
  refine rg_eff2 5 9 evD evD kRz (fun K hK => ?_) (fun K hK => ?_)
  focus
    (refine eff_call2 kRz evD evD ?_)
    refine (Hget.out _ _ (h9.sb : Sat w0 _ (TabMR t mR BR :: pt b6 (.cells (bys k).toArray 24 (0,0)) :: stoPt s r t false :: pt b4 (.cells (bys Frm.zero32).toArray 24 (0,0)) :: A1 :: A2 :: A3 :: A4 :: F))).mono ?_
    rintro ee w10 ⟨v, rfl, rfl, h10⟩
    refine hK _ _ (.inl rfl) ?_
    clear hK h9
    refine rp 6 (hy := (yl_move evD)) (h := ?_)
    refine rp 7 (hy := (yl_extract evD rnD)) (h := ?_)
    refine rp 8 (hy := (yl_extract evD rnD)) (h := ?_)
    refine rg_eff 9 evD kRz (fun K hK => ?_)
    refine eff_alloc (zValR) h10 rfl ?_
    intro b8 w11 h11
    refine hK _ _ (.inr (.inl ⟨h11.cellP pick3 1 rfl, fun j v hj => h11.cellP pick2 (0 + j) (by simpa using hj)⟩)) ?_
    clear hK h10
  rotate_left
  focus
    refine eff_alloc (zValR) h9 rfl ?_
    intro b8 w10 h10
    refine hK _ _ (.inr (.inl ⟨h10.cellP pick2 1 rfl, fun j v hj => h10.cellP pick1 (0 + j) (by simpa using hj)⟩)) ?_
    clear hK h9
    refine rg_eff 5 evD kRz (fun K hK => ?_)
    (refine eff_call2 kRz evD evD ?_)
    refine (Hget.out _ _ (h10.sb : Sat w0 _ (TabMR t mR BR :: pt b8 (.cells (renc zwR).toArray 44 (0,0)) :: pt b6 (.cells (bys k).toArray 24 (0,0)) :: stoPt s r t false :: pt b4 (.cells (bys Frm.zero32).toArray 24 (0,0)) :: A1 :: A2 :: A3 :: A4 :: F))).mono ?_
    rintro ee w11 ⟨v, rfl, rfl, h11'⟩
    refine hK _ _ (.inl rfl) ?_
    clear hK h10
    have h11 : Sat w0 w11 (pt b8 (.cells (renc zwR).toArray 44 (0,0)) :: TabMR t mR BR :: pt b6 (.cells (bys k).toArray 24 (0,0)) :: stoPt s r t false :: pt b4 (.cells (bys Frm.zero32).toArray 24 (0,0)) :: A1 :: A2 :: A3 :: A4 :: F) := h11'.sb
    clear h11'
    refine rp 6 (hy := (yl_move evD)) (h := ?_)
    refine rp 7 (hy := (yl_extract evD rnD)) (h := ?_)
    refine rp 8 (hy := (yl_extract evD rnD)) (h := ?_)
  all_goals
    refine rg_eff 10 evD kRz (fun K hK => ?_)
    refine eff_store (cs' := (renc zwR).toArray) h11 evD evD rFz upd0 nLz kRz rFz ?_
    intro w12 h12
    refine hK _ _ (.inl rfl) ?_
    clear hK h11
    refine rp 11 (hy := (yl_assign evD)) (h := ?_)
    refine wpL_done kRz ?_
    have h13 : Sat w0 w12 (stoPt s r t false :: A1 :: A2 :: A3 :: A4 :: pt b8 (.cells (renc zwR).toArray 44 (0,0)) :: TabMR t mR BR :: pt b6 (.cells (bys k).toArray 24 (0,0)) :: pt b4 (.cells (bys Frm.zero32).toArray 24 (0,0)) :: F) := h12.sb
    clear h12
    have e8 : w12.cell? ⟨b8, 0, none⟩ = some (.int .i64 0) := h13.cellP (pick_there (pick_there (pick_there (pick_there (pick_there pick0))))) 0 rfl
    go_wp2_with ((with_reducible apply at_load); refine ⟨?_⟩; refine wl_loadA (cs := (bys k).toArray) h13 rFz (pick_there (pick_there (pick_there (pick_there (pick_there (pick_there (pick_there pick0))))))) Tryz.underlying24 rfl hinf ?_)
    refine (Hkeep.out _ _ (Hr.out.more sbD) (Ro.os HH.out) h13).mono ?_
    rintro ee w14 ⟨v, rfl, rfl, h14⟩
    clear e8 h13
    go_wp2_with fail
    have h15 := h14.drew
    have hG : World.cell? _ ⟨s, 1, none⟩ = some (ptr t) ∧ World.cell? _ ⟨b8, 0, none⟩ = some (.int .i64 0) ∧ World.rangeAt _ b6 0 (bys k) := ⟨h15.cellP pick0 1 rfl, h15.cellP pick1 0 rfl, fun j v hj => h15.cellP pick3 (0 + j) (by simpa using hj)⟩
    clear h14
    refine wpL_begin [11] (fun w' => w'.cell? ⟨s, 1, none⟩ = some (ptr t) ∧ w'.cell? ⟨b8, 0, none⟩ = some (.int .i64 0) ∧ w'.rangeAt b6 0 (bys k)) kRz ?_
    refine rp 0 (hy := (yl_move evD)) (h := ?_)
    refine rp 1 (hy := (yl_nil evD)) (h := ?_)
    refine rp 2 (hy := (yl_field evD rnD)) (h := ?_)
    refine rt 3 (h := ?_)
    refine rg_take 4 evD kRz i3z (tk_loadN (b := b6) (o := 0) (bys k) rFz Tryz.underlying24 rfl (by rw [Hks.out]; kernel_rfl) (fun w hw => hw.2.2)) (by assumption) (by go_frame; first | done | rfl) ?_
    refine rp 5 (hy := (yl_field evD rnD)) (h := ?_)
    refine rt 6 (h := ?_)
    clear hG
    refine rp 7 (hy := (yl_bin evD evD rnD)) (h := ?_)
    refine rp 8 (hy := (yl_move evD)) (h := ?_)
    refine rp 9 (hy := (yl_len evD rnD)) (h := ?_)
    refine rp 10 (hy := (yl_build2 (by (conv => lhs; whnf); first | done | rfl | (exact congrArg _ dCz)) evD (fun w => run_cnt 1 3 w))) (h := ?_)
    refine rg_eff 11 evD kRz (fun K hK => ?_)
    (refine eff_call3 kRz evD evD evD ?_)
    refine (Hput.out _ _ (h15.sb : Sat w0 _ (TabMR t mR BR :: pt b4 (.cells (bys Frm.zero32).toArray 24 (0,0)) :: pt b6 (.cells (bys k).toArray 24 (0,0)) :: stoPt s r t false :: F))).mono ?_
    rintro ee w16 ⟨v, rfl, h16'⟩
    refine hK _ _ (.inl rfl) ?_
    clear hK h15
    have h16 : Sat w0 w16 (pt b4 (.cells (bys Frm.zero32).toArray 24 (0,0)) :: pt b6 (.cells (bys k).toArray 24 (0,0)) :: stoPt s r t false :: TabMR t mR2 (BR + 1) :: F) := h16'.sb
    clear h16'
    refine wpL_done kRz ?_
    go_wp2_with (first
      | ((with_reducible apply at_load); refine ⟨?_⟩; refine wl_loadA (cs := (bys k).toArray) h16 rFz pick1 Tryz.underlying24 rfl hinf ?_)
      | (with_reducible apply at_store))
    refine ⟨?_⟩
    refine wl_storeA (bys k).toArray h16 rFz rFz (Hsz.out.trans rFz) upd0 (by rw [Hsz.out]; kernel_rfl) Hon.out ?_
    intro w17 h17
    have hrc := fun tmps hp => res_cell_tmp (tmps := tmps) (fn := Tryz.f16) rfl h17 hp pick0 Tryz.underlying24 rfl hinf
    go_wp2_with fail
    refine ⟨rfl, _, hrc _ rFz, _, rfl, rfl, h17.sb⟩
end
def abcT : Frm.Bs := [97, 98, 99]
theorem abc_sum : Sha.sum abcT ≠ Frm.zero32 := by decide +kernel
def abcC : Array Value := #[.int .u8 97, .int .u8 98, .int .u8 99]
theorem run_fld1 (w : World) : (Instr.field 44 (.agg (renc ⟨1, 3⟩).toArray) 0).run Tryz.prog w = .ok (.int .i64 1) w := by kernel_rfl
theorem run_abc (w : World) : (Instr.buildSlice 47 3 #[(0, .int .u8 97), (1, .int .u8 98), (2, .int .u8 99)]).run Tryz.prog w = .ok (.slice (some ⟨w.heap.size, 0, none⟩) 3 3) (w.alloc (.cells abcC 5)) := by kernel_rfl
section
variable {w0 w : World} {L : List HProp} {ops : Array Oper} {rest : List Oper} {a : Act} {Q : Exit → Act → World → Prop} {dst : Option Tmp} {t ty : TypeId} {pos : String} {after : Array Edge}
theorem run_mark {b n c T : Nat} {cs : Array Value} (h : Sat w0 w (pt b (.cells cs T (0,0)) :: L)) : (convert 47 47 (.slice (some ⟨b, 0, none⟩) n c)).run Tryz.prog w = .ok (.slice (some ⟨b, 0, none⟩) n c) (w.freeze ⟨b, cs.size, none⟩ 1) := by
  have hsh : w.shape? b = some (T, cs.size) := by unfold World.shape?; rw [h.at]
  simp [convert, run_underlying Tryz.underlying47, run_underlying Tryz.underlying5, markStringish, hsh]
theorem sat_mark {b T : Nat} {cs : Array Value} (h : Sat w0 w (pt b (.cells cs T (0,0)) :: L)) : Sat w0 (w.freeze ⟨b, cs.size, none⟩ 1) (pt b (.cells cs T (cs.size, cs.size + 1)) :: L) := by
  have hb := h.at
  refine h.turn (by unfold World.freeze; rw [if_neg dCz]) (by unfold World.freeze; rw [if_neg dCz]) (by unfold World.freeze; rw [if_neg dCz]) (by unfold World.freeze; rw [if_neg dCz]; simp) ?_ (fun i hi _ => ?_)
  · unfold World.freeze
    rw [if_neg dCz]
    simp only [Array.getElem?_modify, if_true, hb]
    simp
  · unfold World.freeze
    rw [if_neg dCz]
    simp only [Array.getElem?_modify]
    rw [if_neg (Ne.symm hi)]
theorem RS.of_abl2 {v : Value} {l : Frm.Bs} {G : List HProp} (h : Sat w0 w (abl v l :: L)) : RS w0 (abl v l :: G) v l := by
  refine ⟨fun w hw => asl_rd hw, ?_⟩
  rcases asl_cases h with h | ⟨b, n, cap, cs, m, rfl, hl, hn, hc, hcm, htk, hmk, hp⟩
  · obtain ⟨a, n, c, e, h1, h2, h3⟩ := bsl_cap' h
    exact ⟨a, n, c, e, h1, h2⟩
  · exact ⟨_, n, cap, rfl, hn, hcm⟩
theorem wp_mark {K : Act → World → Prop} {g : Option (Nat × Bool)} {b : Nat} {x : Operand} (hx : a.eval x = .slice (some ⟨b, 0, none⟩) 3 3) (hs : Sat w0 w (pt b (.cells abcC 5 (0,0)) :: L)) (hK : ∀ w', Sat w0 w' (abl (.slice (some ⟨b, 0, none⟩) 3 3) abcT :: L) → K (a.put dst (.slice (some ⟨b, 0, none⟩) 3 3)) w') :
    Oper.wp Tryz.prog ⟨dst, .convert 47 47 x, t, pos, after, g⟩ a w K Q := by
  unfold Oper.wp execOp
  simp only [hx, Sem.run_bind, run_mark hs, Result.andThen_ok, Sem.run_pure]
  exact hK _ (asl_of_pt (sat_mark hs) rFz (Nat.le_refl _) dCz dCz rFz (Nat.le_refl _))
theorem at_cvt {P : Program} {t1 t2 : TypeId} {x : Operand} (h : Stop (wpList P ops Q (⟨dst, .convert t1 t2 x, t, pos, after, none⟩ :: rest) a w)) : wpList P ops Q (⟨dst, .convert t1 t2 x, t, pos, after, none⟩ :: rest) a w := h.out
set_option maxRecDepth 20000 in
theorem wl_mark {b : Nat} {x : Operand} (hx : a.eval x = .slice (some ⟨b, 0, none⟩) 3 3) (hs : Sat w0 w (pt b (.cells abcC 5 (0,0)) :: L)) (hK : ∀ w', Sat w0 w' (abl (.slice (some ⟨b, 0, none⟩) 3 3) abcT :: L) → wpList Tryz.prog ops Q rest (a.put dst (.slice (some ⟨b, 0, none⟩) 3 3)) w') :
    wpList Tryz.prog ops Q (⟨dst, .convert 47 47 x, t, pos, after, none⟩ :: rest) a w :=
  wpList_plain rfl fun _ hK' => wp_mark hx hs fun w' h => hK' _ _ (hK w' h)
theorem at_slc {P : Program} {n : Nat} {xs : Array (Nat × Operand)} (h : Stop (wpList P ops Q (⟨dst, .buildSlice ty n xs, t, pos, after, none⟩ :: rest) a w)) : wpList P ops Q (⟨dst, .buildSlice ty n xs, t, pos, after, none⟩ :: rest) a w := h.out
theorem yg_fld {P : Program} {x : Operand} {v vx : Value} {fl : Nat} {g : Option (Nat × Bool)} (hw : Region.wanted ⟨dst, .field ty x fl, t, pos, after, g⟩ (yielded ops a.tmps) = true) (hx : a.eval x = vx) (hr : ∀ w, (Instr.field ty vx fl).run P w = .ok v w) : Yields P ops ⟨dst, .field ty x fl, t, pos, after, g⟩ v a :=
  .inl ⟨hw, fun w => by simp only [execOp, hx, Sem.run_bind, hr, Result.andThen_ok, Sem.run_pure]⟩
theorem wp_abc {K : Act → World → Prop} {g : Option (Nat × Bool)} (hs : Sat w0 w L) (hK : ∀ b w', Sat w0 w' (pt b (.cells abcC 5 (0,0)) :: L) → K (a.put dst (.slice (some ⟨b, 0, none⟩) 3 3)) w') :
    Oper.wp Tryz.prog ⟨dst, .buildSlice 47 3 #[(0, .const (.int .u8 97)), (1, .const (.int .u8 98)), (2, .const (.int .u8 99))], t, pos, after, g⟩ a w K Q := by
  have hS := hs.alloc (.cells abcC 5)
  unfold Oper.wp execOp
  simp only [List.map_toArray, List.map_cons, List.map_nil, Sem.run_bind]
  have := run_abc w
  rw [show (Instr.buildSlice 47 3 #[(0, a.eval (.const (.int .u8 97))), (1, a.eval (.const (.int .u8 98))), (2, a.eval (.const (.int .u8 99)))]).run Tryz.prog w = _ from this]
  simp only [Result.andThen_ok, Sem.run_pure]
  exact hK _ _ hS
set_option maxRecDepth 20000 in
theorem wl_abc (hs : Sat w0 w L) (hK : ∀ b w', Sat w0 w' (pt b (.cells abcC 5 (0,0)) :: L) → wpList Tryz.prog ops Q rest (a.put dst (.slice (some ⟨b, 0, none⟩) 3 3)) w') :
    wpList Tryz.prog ops Q (⟨dst, .buildSlice 47 3 #[(0, .const (.int .u8 97)), (1, .const (.int .u8 98)), (2, .const (.int .u8 99))], t, pos, after, none⟩ :: rest) a w :=
  wpList_plain rfl fun _ hK' => wp_abc hs fun b w' h => hK' _ _ (hK b w' h)
end
section
variable {w0 w : World} {F : List HProp}
set_option maxRecDepth 20000 in
theorem lives22_c (hH : Ro w0 F Half) (hSK : Ro w0 F ShaK) (h : Sat w0 w F) :
    Calls Tryz.prog 11 #[] w (Rtn fun v w' => v = .bool true ∧ Sat w0 w' F) := by
  have hop := opened22_c 500 hH h
  have HH := Lib.hid hH; have HSK := Lib.hid hSK
  clear h hH hSK
  go_enter Tryz.func11, Tryz.ntmps11
  go_wp2_with fail
  refine hop.mono ?_
  rintro ee w1 ⟨v, rfl, s, t, r, m, p, ps, pi, pn, uv, limit, M, rfl, hl1, hl2, hl3, hM, hR, h1⟩
  clear hop
  have hkl := sha_len abcT
  have hz := abc_sum
  have Hsha := Lib.hid (fun (w' : World) (R : List HProp) (bv : Value) (hs : RS w0 R bv abcT) (hk : Ro w0 R ShaK) (hw : Sat w0 w' R) => shaSum_c dCz hs hk hw)
  have hap := (hR.put_first (x := ⟨0, Sha.sum abcT, Lz.wrapS abcT⟩) dCz dCz rfl hkl (by rw [Lz.wrapS_len]; decide) (Seg.good_put hkl _ (by rw [Lz.wrapS_len]; decide)) dCz).1
  have Hput := Lib.hid (fun (w' : World) (R : List HProp) (bv : Value) (hs : RS w0 R bv abcT) (hh : Ro w0 R Half) (hk : Ro w0 R ShaK) (hw : Sat w0 w' (stoPt s r t false :: TabMR t (fun _ => none) 0 :: rpPt r m limit p ps pn false :: TabML pn (fun _ => none) 0 :: LogRep p m ⟨limit, [], false, 0⟩ :: MedRep m M :: R)) =>
    sput3_c dCz dCz rfl hs hz rfl rfl hR.hg.keeps.log hR.hg.keeps.calm.ok dCz hh hk hap hw)
  generalize Sha.sum abcT = k at *
  have Hcnt := Lib.hid (fun (w' : World) (R : List HProp) (hw : Sat w0 w' (stoPt s r t false :: TabMR t (Tab.put (fun _ => none) k ⟨1, 3⟩) (0 + 1) :: R)) => scount_c dCz hkl hw)
  rw [show Tab.put (fun _ => none) k (⟨1, 3⟩ : Rep.Rfc) k = some ⟨1, 3⟩ by unfold Tab.put; rw [if_pos rfl], Option.getD_some] at Hcnt
  generalize Tab.put (fun _ => none) k (⟨1, 3⟩ : Rep.Rfc) = mR2 at *
  have Hks := Lib.hid (show (bys k).length = 32 by rw [bys_len, hkl])
  have Hsz := Lib.hid (show (bys k).toArray.size = 32 by rw [List.size_toArray, bys_len, hkl])
  have Hon := Lib.hid (show (bys k).toArray.toList.all (·.oneCell') = true by rw [List.all_eq_true]; exact bys_one _)
  have hbin : ∀ x y w, ((do eqGuard .eql 24 x y (.agg (bys k).toArray) (.agg (bys k).toArray); binOp .eql 24 (.agg (bys k).toArray) (.agg (bys k).toArray)) : Sem Value).run Tryz.prog w = .ok (.bool true) w := fun x y w => by rw [eqG_key x y _ _ hkl hkl, decide_eq_true rfl]
  clear hkl hz hap hR hl1 hl2 hl3 hM
  go_wp2_with (with_reducible apply at_slc)
  refine ⟨?_⟩
  refine wl_abc h1 ?_
  intro b1 w2 h2
  clear h1
  go_wp2_with (with_reducible apply at_cvt)
  refine ⟨?_⟩
  refine wl_mark rFz h2 ?_
  intro w3 h3
  clear h2
  have hpt := Hput.out _ _ _ (RS.of_abl2 h3) (Ro.os HH.out) (Ro.os HSK.out) (h3.sb : Sat w0 w3 (stoPt s r t false :: TabMR t (fun _ => none) 0 :: rpPt r m limit p ps pn false :: TabML pn (fun _ => none) 0 :: LogRep p m ⟨limit, [], false, 0⟩ :: MedRep m M :: abl (.slice (some ⟨b1, 0, none⟩) 3 3) abcT :: F))
  clear h3
  go_wp2_with fail
  refine hpt.mono ?_
  rintro ee w4 ⟨v, rfl, rfl, h4'⟩
  clear hpt
  have h4 : Sat w0 w4 (stoPt s r t false :: TabMR t mR2 (0 + 1) :: F) := h4'.sb
  clear h4'
  go_wp2_with (with_reducible apply at_alloc)
  refine ⟨?_⟩
  refine wl_alloc zID h4 rfl ?_
  intro b4 w5 h5
  clear h4
  go_wp2_with (with_reducible apply at_store)
  refine ⟨?_⟩
  refine wl_storeA (bys k).toArray h5 rFz rFz (Hsz.out.trans rFz) upd0 (by rw [Hsz.out]; kernel_rfl) Hon.out ?_
  intro w6 h6
  clear h5
  go_wp2_with fail
  have h7 := h6.drew
  have hG : World.rangeAt _ b4 0 (bys k) := fun j v hj => h7.cellP pick0 (0 + j) (by simpa using hj)
  clear h6
  refine wpL_begin [12, 13, 14, 15, 16] (fun w' => w'.rangeAt b4 0 (bys k)) kRz ?_
  refine rp 0 (hy := (yl_move evD)) (h := ?_)
  refine rp 1 (hy := (yl_bin evD evD rnD)) (h := ?_)
  refine rp 2 (hy := (yl_move evD)) (h := ?_)
  refine rg_take 3 evD kRz i3z (tg_loadN (b := b4) (o := 0) (bys k) rFz rFz Tryz.underlying24 rfl (by rw [Hks.out]; kernel_rfl) (fun w hw => hw)) (by assumption) (by go_frame; first | done | rfl) ?_
  clear hG
  refine rg_eff 4 evD kRz (fun K hK => ?_)
  refine eg_of rFz (wp_abc h7 fun b5 w8 h8 => ?_)
  refine hK _ _ (.inr (.inl (fun j v hj => h8.cellP pick1 (0 + j) (by simpa using hj)))) ?_
  clear hK h7
  refine rg_eff 5 evD kRz (fun K hK => ?_)
  refine eg_of rFz (wp_mark rFz h8 fun w9 h9 => ?_)
  refine hK _ _ (.inr (.inl (fun j v hj => h9.cellP pick1 (0 + j) (by simpa using hj)))) ?_
  clear hK h8
  refine rg_eff 6 evD kRz (fun K hK => ?_)
  refine eg_call [.slice (some ⟨b5, 0, none⟩) 3 3] rFz kRz rFz ?_
  refine (Hsha.out _ _ _ (RS.of_abl2 h9) (Ro.os HSK.out) h9).mono ?_
  rintro ee w10 ⟨v, rfl, rfl, h10⟩
  have hG : World.rangeAt _ b4 0 (bys k) := fun j v hj => h10.cellP pick1 (0 + j) (by simpa using hj)
  refine hK _ _ (.inr (.inl hG)) ?_
  clear hK h9
  refine rp 7 (hy := (yg_bin rFz evD evD (hbin _ _))) (h := ?_)
  refine rp 8 (hy := (yg_pick rFz evD evD)) (h := ?_)
  refine rp 9 (hy := (yl_move evD)) (h := ?_)
  refine rp 10 (hy := (yg_move rFz evD)) (h := ?_)
  refine rg_take 11 evD kRz i3z (tg_loadN (b := b4) (o := 0) (bys k) rFz rFz Tryz.underlying24 rfl (by rw [Hks.out]; kernel_rfl) (fun w hw => hw)) (by assumption) (by go_frame; first | done | rfl) ?_
  clear hG
  refine rg_eff 12 evD kRz (fun K hK => ?_)
  refine eg_call [ptr s, .agg (bys k).toArray] rFz kRz rFz ?_
  refine (Hcnt.out _ _ (h10.sb : Sat w0 _ (stoPt s r t false :: TabMR t mR2 (0 + 1) :: F))).mono ?_
  rintro ee w11 ⟨v, rfl, rfl, h11⟩
  refine hK _ _ (.inl rfl) ?_
  clear hK h10
  refine rp 13 (hy := (yg_fld rFz evD run_fld1)) (h := ?_)
  refine rp 14 (hy := (yg_bin rFz evD evD rnD)) (h := ?_)
  refine rp 15 (hy := (yg_pick rFz evD evD)) (h := ?_)
  refine rp 16 (hy := (yl_assign evD)) (h := ?_)
  refine wpL_done kRz ?_
  clear hbin
  go_wp2_with fail
  go_ret
  exact ⟨_, rfl, rfl, h11.drop.drop⟩
end
def NS (w0 : World) (F : List HProp) (rv : Value) : Prop := rv = .pointer none ∨ ∃ b, rv = ptr b ∧ ∀ w, Sat w0 w F → w.cell? ⟨b, 0, none⟩ = some (.pointer none)
section
variable {w0 w : World} {F : List HProp} {rv bv : Value} {k : Frm.Bs} {A : HProp}
theorem NS.one (hn : NS w0 F rv) : NS w0 (A :: F) rv := hn.imp id fun ⟨b, e, hc⟩ => ⟨b, e, fun w hw => hc w hw.drop⟩
theorem NS.more (hn : NS w0 F rv) (h : Sat w0 w (A :: F)) : rv = .pointer none ∨ ∃ b, rv = ptr b ∧ w.cell? ⟨b, 0, none⟩ = some (.pointer none) := hn.imp id fun ⟨b, e, hc⟩ => ⟨b, e, hc w h.drop⟩
theorem NS.now (hn : NS w0 F rv) (h : Sat w0 w F) : rv = .pointer none ∨ ∃ b, rv = ptr b ∧ w.cell? ⟨b, 0, none⟩ = some (.pointer none) := hn.imp id fun ⟨b, e, hc⟩ => ⟨b, e, hc w h⟩
theorem nsok_c (hn : rv = .pointer none ∨ ∃ b, rv = ptr b ∧ w.cell? ⟨b, 0, none⟩ = some (.pointer none)) : Calls Tryz.prog 24 #[rv] w (Rtn fun v w' => v = .bool false ∧ w = w') := by
  rcases hn with rfl | ⟨b, rfl, e2⟩
  · go_enter Tryz.func24, Tryz.ntmps24
    go_wp2
    go_ret
    exact ⟨_, rfl, rfl, rfl⟩
  · go_enter Tryz.func24, Tryz.ntmps24
    go_wp2
    go_ret
    exact ⟨_, rfl, rfl, rfl⟩
theorem nsget_c (hn : NS w0 F rv) (h : Sat w0 w F) : Calls Tryz.prog 17 #[rv, .agg (bys k).toArray] w (Rtn fun v w' => v = .tuple #[.slice none 0 0, errno 1] ∧ Sat w0 w' F) := by
  go_enter Tryz.func17, Tryz.ntmps17
  go_wp2_with ((with_reducible apply at_box); refine ⟨?_⟩; refine wl_box (by assumption) evD evD ?_; intro bB wB hB)
  refine (nsok_c (hn.more hB)).mono ?_
  rintro e w2 ⟨v, rfl, rfl, rfl⟩
  go_wp2
  go_ret2
  exact ⟨_, rfl, rfl, hB.drop⟩
theorem nsrel_c (hn : NS w0 F rv) (h : Sat w0 w F) : Calls Tryz.prog 18 #[rv, .agg (bys k).toArray] w (Rtn fun v w' => v = errno 1 ∧ Sat w0 w' F) := by
  go_enter Tryz.func18, Tryz.ntmps18
  go_wp2_with ((with_reducible apply at_box); refine ⟨?_⟩; refine wl_box (by assumption) evD evD ?_; intro bB wB hB)
  refine (nsok_c (hn.more hB)).mono ?_
  rintro e w2 ⟨v, rfl, rfl, rfl⟩
  go_wp2
  go_ret
  exact ⟨_, rfl, rfl, hB.drop⟩
theorem nsreset_c (hn : NS w0 F rv) (h : Sat w0 w F) : Calls Tryz.prog 8 #[rv, bv] w (Rtn fun v w' => v = errno 1 ∧ w = w') := by
  go_enter Tryz.func8, Tryz.ntmps8
  go_wp2_with fail
  refine (nsok_c (hn.now h)).mono ?_
  rintro e w2 ⟨v, rfl, rfl, rfl⟩
  go_wp2
  go_ret
  exact ⟨_, rfl, rfl, rfl⟩
theorem nsrepo_c (hn : NS w0 F rv) (h : Sat w0 w F) : Calls Tryz.prog 7 #[rv] w (Rtn fun v w' => v = .pointer none ∧ w = w') := by
  go_enter Tryz.func7, Tryz.ntmps7
  go_wp2_with fail
  refine (nsok_c (hn.now h)).mono ?_
  rintro e w2 ⟨v, rfl, rfl, rfl⟩
  go_wp2
  go_ret
  exact ⟨_, rfl, rfl, rfl⟩
theorem zCds : zeroB Tryz.prog 22 = some (.slice none 0 0) := by kernel_rfl
theorem nscounts_c (hn : NS w0 F rv) (h : Sat w0 w F) : Calls Tryz.prog 10 #[rv] w (Rtn fun v w' => v = .slice none 0 0 ∧ Sat w0 w' F) := by
  go_enter Tryz.func10, Tryz.ntmps10
  go_wp2_with (with_reducible apply at_alloc)
  refine ⟨?_⟩
  refine wl_alloc zCds h rfl ?_
  intro b3 w3 h3
  go_wp2_with fail
  refine (nsok_c (hn.more h3)).mono ?_
  rintro e w2 ⟨v, rfl, rfl, rfl⟩
  go_wp2
  go_ret
  exact ⟨_, rfl, rfl, h3.drop⟩
theorem run_cnt0 (w : World) : (Instr.build 44 #[]).run Tryz.prog w = .ok (.agg (renc ⟨0, 0⟩).toArray) w := run_build (P := Tryz.prog) [] plCnt zValR (by simp) w
theorem nscount_c (hn : NS w0 F rv) (h : Sat w0 w F) : Calls Tryz.prog 13 #[rv, .agg (bys k).toArray] w (Rtn fun v w' => v = .agg (renc ⟨0, 0⟩).toArray ∧ Sat w0 w' F) := by
  go_enter Tryz.func13, Tryz.ntmps13
  go_wp2_with (with_reducible apply at_box)
  refine ⟨?_⟩
  refine wl_box h evD evD ?_
  intro b3 w3 h3
  go_wp2_with (with_reducible apply at_alloc)
  refine ⟨?_⟩
  refine wl_alloc zValR h3 rfl ?_
  intro b4 w4 h4
  go_wp2_with fail
  refine (nsok_c (hn.one.more h4)).mono ?_
  rintro e w2 ⟨v, rfl, rfl, rfl⟩
  go_wp2_with (first
    | ((with_reducible apply at_build0); refine ⟨?_⟩; refine wl_build0 run_cnt0 ?_)
    | (with_reducible apply at_store))
  refine ⟨?_⟩
  refine wl_storeA (renc ⟨0, 0⟩).toArray h4 rFz rFz rFz upd0 kRz rFz ?_
  intro w5 h5
  go_wp2_with fail
  refine ⟨rfl, _, res_cell rfl h5 rFz pick0 Tryz.underlying44 rfl kRz, _, rfl, rfl, h5.drop.drop⟩
theorem nsput_c (hn : NS w0 F rv) (h : Sat w0 w F) : Calls Tryz.prog 16 #[rv, bv] w (Rtn fun v w' => v = .tuple #[.agg (bys Frm.zero32).toArray, errno 1] ∧ Sat w0 w' F) := by
  go_enter Tryz.func16, Tryz.ntmps16
  go_wp2_with (with_reducible apply at_alloc)
  refine ⟨?_⟩
  refine wl_alloc zID h rfl ?_
  intro b4 w4 h4
  go_wp2_with fail
  refine (nsok_c (hn.more h4)).mono ?_
  rintro e w2 ⟨v, rfl, rfl, rfl⟩
  go_wp2_with (first
    | ((with_reducible apply at_build0); refine ⟨?_⟩; refine wl_build0 run_id0 ?_)
    | (with_reducible apply at_store))
  refine ⟨?_⟩
  refine wl_storeA (bys Frm.zero32).toArray h4 rFz rFz rFz upd0 kRz rFz ?_
  intro w5 h5
  go_wp2_with fail
  refine ⟨rfl, _, res_cell_tmp rfl h5 rFz pick0 Tryz.underlying24 rfl kRz, _, rfl, rfl, h5.drop⟩
theorem nsnew_c {cv sv : Value} (hn : NR w0 F rv) (h : Sat w0 w F) : Calls Tryz.prog 6 #[rv, cv, sv] w (Rtn fun v w' => v = .tuple #[.pointer none, errno 1] ∧ w = w') := by
  go_enter Tryz.func6, Tryz.ntmps6
  go_wp2_with fail
  refine (nlog_c hn h).mono ?_
  rintro e w2 ⟨v, rfl, rfl, rfl⟩
  go_wp2
  go_ret2
  exact ⟨_, rfl, rfl, rfl⟩
theorem run_sto0 (w : World) : (Instr.build 51 #[]).run Tryz.prog w = .ok (.agg #[.pointer none, .pointer none, .bool false]) w := run_build (P := Tryz.prog) [] plSto zSto (by simp) w
end
section
variable {w0 w : World} {F : List HProp} {k : Frm.Bs}
theorem eq_id0 (w : World) : (Op.equalIn 10000 24 (.agg (bys Frm.zero32).toArray) (.agg (bys Frm.zero32).toArray)).run Tryz.prog w = .ok true w := by
  rw [eqIn_key _ _ dCz dCz, decide_eq_true rfl]
theorem eq_cnt0 (w : World) : (Op.equalIn 10000 44 (.agg (renc ⟨0, 0⟩).toArray) (.agg (renc ⟨0, 0⟩).toArray)).run Tryz.prog w = .ok true w := by kernel_rfl
set_option maxRecDepth 20000 in
theorem chunks_nobody_c (hk : k.length = 32) (a : Option Addr) (n c : Nat) (hnc : n ≤ c) (hc : c ≤ 9223372036854775807) (hH : Ro w0 F Half) (hSK : Ro w0 F ShaK) (h : Sat w0 w F) : Calls Tryz.prog 4 #[.slice a n c, .agg (bys k).toArray] w (Rtn fun v w' => v = .bool true ∧ Sat w0 w' F) := by
  have hks : (bys k).length = 32 := by rw [bys_len, hk]
  have HH := Lib.hid hH; have HSK := Lib.hid hSK; have Hkey := Lib.hid hk; have Hks := Lib.hid hks
  have hinf : (Tryz.prog.info? 24).map (·.size) = some (bys k).toArray.size := by rw [List.size_toArray, hks]; kernel_rfl
  have hinf0 : (Tryz.prog.info? 24).map (·.size) = some (bys Frm.zero32).toArray.size := by kernel_rfl
  have hq1 := eq_id0
  have hq2 := eq_cnt0
  clear hH hSK hk hks
  go_enter Tryz.func4, Tryz.ntmps4
  go_wp2_with (with_reducible apply at_box)
  refine ⟨?_⟩
  refine wl_box h evD evD ?_
  intro b2 w2 h2
  replace h2 : Sat w0 w2 (pt b2 (.cells (bys k).toArray 24 (0,0)) :: F) := h2
  clear h
  go_wp2_with fail
  refine (cut_c a n c 50 hnc hc _).mono ?_
  rintro ee w3 ⟨v, rfl, rfl, rfl⟩
  generalize Value.slice a (min n 50) c = bv at *
  go_wp2_with fail
  go_loopg [5] 2 (fun g iq wr => ∃ i : Nat, g = 2 - i ∧ i ≤ 2 ∧ iq = .int .i64 i ∧ Sat w0 wr (pt b2 (.cells (bys k).toArray 24 (0,0)) :: F))
  case atStart => exact ⟨0, rfl, by omega, rfl, h2⟩
  case round =>
    obtain ⟨i, rfl, hi, rfl, hS⟩ := hrel
    clear h2
    have h01 : i = 0 ∨ i = 1 ∨ i = 2 := by omega
    clear hi
    rcases h01 with rfl | rfl | rfl
    · have HN := Lib.hid (show NS w0 (pt b2 (.cells (bys k).toArray 24 (0,0)) :: F) (.pointer none) from .inl rfl)
      have h5 := hS
      clear hS
      go_wp2_with fail
      refine (nsput_c HN.out h5).mono ?_
      rintro ee w10 ⟨v, rfl, rfl, h10⟩
      clear h5
      go_wp2_with (with_reducible apply at_alloc)
      refine ⟨?_⟩
      refine wl_alloc zID h10 rfl ?_
      intro b9 w12 h12
      clear h10
      go_wp2_with (with_reducible apply at_store)
      refine ⟨?_⟩
      refine wl_storeA (bys Frm.zero32).toArray h12 rFz rFz rFz upd0 kRz rFz ?_
      intro w13 h13
      clear h12
      go_wp2_with ((with_reducible apply at_load); refine ⟨?_⟩; refine wl_loadA h13 rFz pick1 Tryz.underlying24 rfl hinf ?_)
      refine (nsget_c HN.out.one h13).mono ?_
      rintro ee w14 ⟨v, rfl, rfl, h14⟩
      clear h13
      (try dsimp only); repeat (first | (refine ug_load ?_; refine ⟨?_⟩; refine ug_op rFz ?_; first | refine wl_loadA h14 rFz pick0 Tryz.underlying24 rfl hinf0 ?_ | refine wl_loadA h14 rFz pick1 Tryz.underlying24 rfl hinf ?_) | ((with_reducible apply ug_build); refine ⟨?_⟩; refine ug_op rFz ?_; first | refine wl_build0 run_id0 ?_ | refine wl_build0 run_cnt0 ?_) | go_values | go_skip | go_guarded | go_step | go_upon | go_back | (go_values <;> (try go_simp)))
      refine (nsrel_c HN.out.one h14).mono ?_
      rintro ee w15 ⟨v, rfl, rfl, h15⟩
      clear h14
      go_wp2_with fail
      refine (nsreset_c HN.out.one h15).mono ?_
      rintro ee w16 ⟨v, rfl, rfl, rfl⟩
      (try dsimp only); repeat (first | (refine ug_load ?_; refine ⟨?_⟩; refine ug_op rFz ?_; first | refine wl_loadA h15 rFz pick0 Tryz.underlying24 rfl hinf0 ?_ | refine wl_loadA h15 rFz pick1 Tryz.underlying24 rfl hinf ?_) | ((with_reducible apply ug_build); refine ⟨?_⟩; refine ug_op rFz ?_; first | refine wl_build0 run_id0 ?_ | refine wl_build0 run_cnt0 ?_) | go_values | go_skip | go_guarded | go_step | go_upon | go_back | (go_values <;> (try go_simp)))
      refine (nscount_c HN.out.one h15).mono ?_
      rintro ee w17 ⟨v, rfl, rfl, h17⟩
      clear h15
      (try dsimp only); repeat (first | (refine ug_load ?_; refine ⟨?_⟩; refine ug_op rFz ?_; first | refine wl_loadA h17 rFz pick0 Tryz.underlying24 rfl hinf0 ?_ | refine wl_loadA h17 rFz pick1 Tryz.underlying24 rfl hinf ?_) | ((with_reducible apply ug_build); refine ⟨?_⟩; refine ug_op rFz ?_; first | refine wl_build0 run_id0 ?_ | refine wl_build0 run_cnt0 ?_) | go_values | go_skip | go_guarded | go_step | go_upon | go_back | (go_values <;> (try go_simp)))
      refine (nscounts_c HN.out.one h17).mono ?_
      rintro ee w18 ⟨v, rfl, rfl, h18⟩
      clear h17
      go_wp2_with fail
      refine (nsrepo_c HN.out.one h18).mono ?_
      rintro ee w19 ⟨v, rfl, rfl, rfl⟩
      go_wp2_with fail
      go_roundg (2 - (0 + 1))
      case measure => omega
      case rel => exact ⟨0 + 1, rfl, by omega, by first | rfl | go_num, h18.sb⟩
    · go_wp2_with (first
        | ((with_reducible apply ug_at_build); refine ⟨?_⟩; refine wl_bld rFz run_sto0 ?_)
        | (with_reducible apply at_box))
      refine ⟨?_⟩
      refine wl_box hS rFz rFz ?_
      intro rb w4 h4
      have h5 : Sat w0 w4 (pt b2 (.cells (bys k).toArray 24 (0,0)) :: pt rb (.cells #[.pointer none, .pointer none, .bool false] 51 (0,0)) :: F) := h4.sb
      clear hS h4
      have HN := Lib.hid (show NS w0 (pt b2 (.cells (bys k).toArray 24 (0,0)) :: pt rb (.cells #[.pointer none, .pointer none, .bool false] 51 (0,0)) :: F) (ptr rb) from .inr ⟨rb, rfl, fun w hw => hw.cellP pick1 0 rfl⟩)
      go_wp2_with fail
      refine (nsput_c HN.out h5).mono ?_
      rintro ee w10 ⟨v, rfl, rfl, h10⟩
      clear h5
      go_wp2_with (with_reducible apply at_alloc)
      refine ⟨?_⟩
      refine wl_alloc zID h10 rfl ?_
      intro b9 w12 h12
      clear h10
      go_wp2_with (with_reducible apply at_store)
      refine ⟨?_⟩
      refine wl_storeA (bys Frm.zero32).toArray h12 rFz rFz rFz upd0 kRz rFz ?_
      intro w13 h13
      clear h12
      go_wp2_with ((with_reducible apply at_load); refine ⟨?_⟩; refine wl_loadA h13 rFz pick1 Tryz.underlying24 rfl hinf ?_)
      refine (nsget_c HN.out.one h13).mono ?_
      rintro ee w14 ⟨v, rfl, rfl, h14⟩
      clear h13
      (try dsimp only); repeat (first | (refine ug_load ?_; refine ⟨?_⟩; refine ug_op rFz ?_; first | refine wl_loadA h14 rFz pick0 Tryz.underlying24 rfl hinf0 ?_ | refine wl_loadA h14 rFz pick1 Tryz.underlying24 rfl hinf ?_) | ((with_reducible apply ug_build); refine ⟨?_⟩; refine ug_op rFz ?_; first | refine wl_build0 run_id0 ?_ | refine wl_build0 run_cnt0 ?_) | go_values | go_skip | go_guarded | go_step | go_upon | go_back | (go_values <;> (try go_simp)))
      refine (nsrel_c HN.out.one h14).mono ?_
      rintro ee w15 ⟨v, rfl, rfl, h15⟩
      clear h14
      go_wp2_with fail
      refine (nsreset_c HN.out.one h15).mono ?_
      rintro ee w16 ⟨v, rfl, rfl, rfl⟩
      (try dsimp only); repeat (first | (refine ug_load ?_; refine ⟨?_⟩; refine ug_op rFz ?_; first | refine wl_loadA h15 rFz pick0 Tryz.underlying24 rfl hinf0 ?_ | refine wl_loadA h15 rFz pick1 Tryz.underlying24 rfl hinf ?_) | ((with_reducible apply ug_build); refine ⟨?_⟩; refine ug_op rFz ?_; first | refine wl_build0 run_id0 ?_ | refine wl_build0 run_cnt0 ?_) | go_values | go_skip | go_guarded | go_step | go_upon | go_back | (go_values <;> (try go_simp)))
      refine (nscount_c HN.out.one h15).mono ?_
      rintro ee w17 ⟨v, rfl, rfl, h17⟩
      clear h15
      (try dsimp only); repeat (first | (refine ug_load ?_; refine ⟨?_⟩; refine ug_op rFz ?_; first | refine wl_loadA h17 rFz pick0 Tryz.underlying24 rfl hinf0 ?_ | refine wl_loadA h17 rFz pick1 Tryz.underlying24 rfl hinf ?_) | ((with_reducible apply ug_build); refine ⟨?_⟩; refine ug_op rFz ?_; first | refine wl_build0 run_id0 ?_ | refine wl_build0 run_cnt0 ?_) | go_values | go_skip | go_guarded | go_step | go_upon | go_back | (go_values <;> (try go_simp)))
      refine (nscounts_c HN.out.one h17).mono ?_
      rintro ee w18 ⟨v, rfl, rfl, h18⟩
      clear h17
      go_wp2_with fail
      refine (nsrepo_c HN.out.one h18).mono ?_
      rintro ee w19 ⟨v, rfl, rfl, rfl⟩
      go_wp2_with fail
      go_roundg (2 - (1 + 1))
      case measure => omega
      case rel => exact ⟨1 + 1, rfl, by omega, by first | rfl | go_num, h18.sb⟩
    · go_wp2_with fail
      refine (nsnew_c (.inl rfl) hS).mono ?_
      rintro ee w4 ⟨v, rfl, rfl, rfl⟩
      go_wp2_with (first
        | ((with_reducible apply ug_at_build); refine ⟨?_⟩; refine wl_bld rFz run_repo0 ?_)
        | (with_reducible apply at_box))
      refine ⟨?_⟩
      refine wl_box hS rFz rFz ?_
      intro rb w5 h5
      clear hS
      go_wp2_with fail
      refine (nsnew_c (F := pt rb (.cells #[.pointer none, .int .i64 0, .pointer none, .pointer none, .pointer none, .bool false] 61 (0,0)) :: pt b2 (.cells (bys k).toArray 24 (0,0)) :: F) (.inr ⟨rb, rfl, fun w hw => hw.cellP pick0 2 rfl⟩) h5).mono ?_
      rintro ee w6 ⟨v, rfl, rfl, rfl⟩
      go_wp2_with fail
      refine (lives22_c (Ro.os HH.out) (Ro.os HSK.out) h5).mono ?_
      rintro ee w7 ⟨v, rfl, rfl, h7⟩
      go_wp2_with fail
      go_ret
      exact ⟨_, rfl, rfl, h7.sb⟩
end
end Go.Proofs.YtopconiamijknaaGreatDoor
namespace Go.Proofs.YtopconiamijknaaGreatDoor.card
open Go.ChangeShapes Go.WideShapes Go.ChangeAt Go.RowKit
open Go Go.Sl Go.Med
theorem gHalf : Tryz.prog.globalNamed "hoard/crc.half" = some 2 := by kernel_rfl
theorem tHalf : ((Tryz.prog.globals[2]?).map (·.type)) = some 314 := by kernel_rfl
theorem gShaK : Tryz.prog.globalNamed "hoard/sha.k" = some 0 := by kernel_rfl
theorem tShaK : ((Tryz.prog.globals[0]?).map (·.type)) = some 224 := by kernel_rfl
theorem door_met (os : Os) (args : Array Value) : laidMetH Tryz.prog [("hoard/crc.half", Rows.laid_hoard_crc_half), ("hoard/sha.k", Rows.laid_hoard_sha_k)] ((World.doorLaid Tryz.prog 400 os).forCall (fun _ _ => 0) ⟨#[], args, []⟩).memory :=
  laidMetH_of_parts3 (fuel := 8) (laidMet_of_run' 8 kRz kRz) kRz kRz
abbrev u32s (L : List Nat) : DataW Unit := .agg (L.map fun (x : Nat) => .lit (.int .u32 ((x : Nat) : Int)))
theorem lHalf : (Rows.laid_hoard_crc_half : DataW Unit) = u32s Frm.half := by kernel_rfl
theorem lShaK : (Rows.laid_hoard_sha_k : DataW Unit) = u32s Sha.K := by kernel_rfl
theorem laid_u32 {W : World} {t n base : Nat} {L : List Nat} {cs0 : Array Value} {enc : TypeId × Value → Unit} {fuel : Nat} {S : Nat → Bool} {b : Bool} {p0 : List MemPlace} (hLn : L.length = n)
    (hu : Tryz.prog.underlying t = some (.array n 160)) (hd0 : DataW.trod enc Tryz.prog W base S b fuel t cs0.toList = some (u32s L, p0)) : ∀ i, i < n → cs0[i]? = some (.int .u32 ((L.getD i 0 : Nat) : Int)) := by
  obtain ⟨xs, m1, rfl, hx1, hlen, hn3, hel⟩ := DataW.trod_array hu hd0
  have c3 : Tryz.prog.cellsOf 160 = 1 := by kernel_rfl
  simp only [Prod.mk.injEq, DataW.agg.injEq] at hx1
  intro i hi
  have h0 := hel i hi
  have hxi : xs[i]? = some (xs[i]'(by omega)) := List.getElem?_eq_getElem (by omega)
  rw [hxi] at h0
  obtain ⟨k, e1, e2, _⟩ := DataW.trod_int Tryz.underlying160 h0
  rw [c3, Nat.mul_one] at e1
  have hc : cs0.toList[i]? = some (.int .u32 k) := by
    have : ((cs0.toList.drop i).take 1)[0]? = some (.int .u32 k) := by rw [e1]; rfl
    rw [List.getElem?_take, if_pos dCz, List.getElem?_drop] at this
    exact this
  have hL := congrArg (fun l => l[i]?) hx1.1
  have hLi : L[i]? = some (L.getD i 0) := by
    rw [List.getD_eq_getElem?_getD, List.getElem?_eq_getElem (by omega)]; rfl
  simp only [List.getElem?_map, hxi, hLi, Option.map_some, e2, Option.some.injEq, DataW.lit.injEq, Lit.int.injEq] at hL
  rw [← Array.getElem?_toList, hc, hL.2]
theorem of_laid {W : World} (h : laidMetH Tryz.prog [("hoard/crc.half", Rows.laid_hoard_crc_half), ("hoard/sha.k", Rows.laid_hoard_sha_k)] W) : 2 < W.heap.size ∧ 0 < W.heap.size ∧ Half W ∧ ShaK W := by
  rw [MakeChecks.laidMetH_plain _ _ _ kRz] at h
  obtain ⟨ps, ⟨g0, t0, cs0, f0, p0, q0, hg0, ht0, hv0, hd0, ⟨g1, t1, cs1, f1, p1, q1, hg1, ht1, hv1, hd1, hrest⟩, hps⟩, hrest2⟩ := h
  obtain rfl := Option.some.inj (gHalf.symm.trans hg0)
  obtain rfl := Option.some.inj (tHalf.symm.trans ht0)
  obtain rfl := Option.some.inj (gShaK.symm.trans hg1)
  obtain rfl := Option.some.inj (tShaK.symm.trans ht1)
  rw [lHalf] at hd0
  rw [lShaK] at hd1
  have hH : Half W := by
    intro i hi
    have := World.var?_cell hg0 hv0 i
    rw [this]
    exact laid_u32 dCz Tryz.underlying314 hd0 i hi
  have hK : ShaK W := by
    intro i hi
    have := World.var?_cell hg1 hv1 i
    rw [this]
    exact laid_u32 dCz Tryz.underlying224 hd1 i hi
  refine ⟨?_, ?_, hH, hK⟩
  · by_cases hz : 2 < W.heap.size
    · exact hz
    · have h0 := hH 0 dCz
      have e : W.heap[2]? = none := Array.getElem?_eq_none (by omega)
      simp [World.cell?, e] at h0
  · by_cases hz : 0 < W.heap.size
    · exact hz
    · have h0 := hK 0 dCz
      have e : W.heap[0]? = none := Array.getElem?_eq_none (by omega)
      simp [World.cell?, e] at h0
end Go.Proofs.YtopconiamijknaaGreatDoor.card
