import Derived.Test.YtlinnpehkfbnkaaGreatDoorJ6
import Derived.Test.YtlinnpehkfbnkaaGreatDoorSort
set_option linter.unusedVariables false
set_option maxHeartbeats 128000000
namespace Go.Proofs.YtlinnpehkfbnkaaGreatDoor
open Go Go.Sl Go.Med Go.MapKept Go.RowKit
section
variable {P : Program} {w0 w : World} {L F : List HProp} {ops : Array Oper} {rest : List Oper} {a : Act} {Q : Exit → Act → World → Prop} {K : Act → World → Prop} {E : Prop} {dst : Option Tmp} {t ty : TypeId} {pos : String} {after : Array Edge} {x y s : Operand} {v vy : Value} {l m : Bs}
theorem wp_appA (hs : Sat w0 w (abl v l :: F)) (hv : a.eval s = v) (hy : a.eval y = vy) (hx : rdsl 1 vy (bys m) w) (hm : m ≠ []) (hlen : l.length + m.length ≤ 1099511627776) (hK : ∀ v' w', Sat w0 w' (abl v' (l ++ m) :: F) → K (a.put dst v') w') :
  Oper.wp Tryz.prog ⟨dst, .call { callee := .builtin .append, args := #[s, y], argTypes := #[25, 25] }, 25, pos, after, none⟩ a w K Q := by
 obtain ⟨i, hi, hz0, hz1, hz2⟩ := info8p
 have h63 : (bys l).length + (bys m).length ≤ maxLen := by rw [bys_len, bys_len]; unfold maxLen; omega
 have hby : ((bys l).length + (bys m).length) * i.bytes ≤ 140737488355328 := by rw [bys_len, bys_len, hz2]; omega
 obtain ⟨v', w', hr, hS⟩ := run_appendA (P := Tryz.prog) 25 25 5 i _ Tryz.underlying25 hi hz0 hz1 rFz (by omega) (bys_one _) (fun e => hm (by cases m with | nil => rfl | cons z r => cases e)) hs hx h63 hby
 rw [← bys_append] at hS
 unfold Oper.wp execOp
 simp only [resolve, invoke, builtin, Sem.run_bind, Sem.run_pure, Result.andThen_ok, List.map_toArray, List.map_cons, List.map_nil, hv, hy, hr]
 exact hK _ _ hS
theorem eff_appA (hs : Sat w0 w (abl v l :: F)) (hv : a.eval s = v) (hy : a.eval y = vy) (hx : rdsl 1 vy (bys m) w) (hm : m ≠ []) (hlen : l.length + m.length ≤ 1099511627776) (hK : ∀ v' w', Sat w0 w' (abl v' (l ++ m) :: F) → K (a.put dst v') w') :
  if Region.wanted ⟨dst, .call { callee := .builtin .append, args := #[s, y], argTypes := #[25, 25] }, 25, pos, after, none⟩ (yielded ops a.tmps) = true then
   Oper.wp Tryz.prog ⟨dst, .call { callee := .builtin .append, args := #[s, y], argTypes := #[25, 25] }, 25, pos, after, none⟩ a w K Q else E := eff_of rfl (wp_appA hs hv hy hx hm hlen hK)
theorem wl_appA (hs : Sat w0 w (abl v l :: F)) (hv : a.eval s = v) (hy : a.eval y = vy) (hx : rdsl 1 vy (bys m) w) (hm : m ≠ []) (hlen : l.length + m.length ≤ 1099511627776) (hK : ∀ v' w', Sat w0 w' (abl v' (l ++ m) :: F) → wpList Tryz.prog ops Q rest (a.put dst v') w') :
  wpList Tryz.prog ops Q (⟨dst, .call { callee := .builtin .append, args := #[s, y], argTypes := #[25, 25] }, 25, pos, after, none⟩ :: rest) a w :=
 wpList_plain rfl fun _ hK' => wp_appA hs hv hy hx hm hlen fun v' w' h => hK' _ _ (hK v' w' h)
theorem abl_eq (h : Sat w0 w (abl v l :: F)) (e : l = m) : Sat w0 w (abl v m :: F) := e ▸ h
theorem abl_nil (h : Sat w0 w (abl v l :: F)) : Sat w0 w (abl v (l ++ []) :: F) := by rw [List.append_nil]; exact h
theorem at_sl0 (h : Stop (wpList P ops Q (⟨dst, .slice ty x none none none, t, pos, after, none⟩ :: rest) a w)) : wpList P ops Q (⟨dst, .slice ty x none none none, t, pos, after, none⟩ :: rest) a w := h.out
theorem wl_sl0 (hx : a.eval x = v) (hr : ∀ w, (Instr.sliceAt ty v none none none).run P w = .ok vy w) (h : wpList P ops Q rest (a.put dst vy) w) : wpList P ops Q (⟨dst, .slice ty x none none none, t, pos, after, none⟩ :: rest) a w :=
 wpList_plain rfl fun _ hK => by
  unfold Oper.wp execOp
  simp only [hx, Option.map_none, Sem.run_bind, hr, Result.andThen_ok, Sem.run_pure]
  exact hK _ _ h
theorem at_appA (h : Stop (wpList P ops Q (⟨dst, .call { callee := .builtin .append, args := #[s, y], argTypes := #[25, 25] }, t, pos, after, none⟩ :: rest) a w)) : wpList P ops Q (⟨dst, .call { callee := .builtin .append, args := #[s, y], argTypes := #[25, 25] }, t, pos, after, none⟩ :: rest) a w := h.out
set_option maxRecDepth 20000 in
theorem eff_text (sb : ByteArray) (hl : sb.data.toList = l) (hle : l.length ≤ 1073741824) (hs : Sat w0 w F) (hx : a.eval x = .string sb) (hK : ∀ v' w', Sat w0 w' (abl v' l :: F) → K (a.put dst v') w') :
  if Region.wanted ⟨dst, .convert 9 25 x, t, pos, after, none⟩ (yielded ops a.tmps) = true then Oper.wp Tryz.prog ⟨dst, .convert 9 25 x, t, pos, after, none⟩ a w K Q else E := by
 refine eff_of rfl ?_
 have hr := Lib.run_convert_string_bytes (P := Tryz.prog) w 9 25 5 sb Tryz.underlying9 Tryz.underlying25 Tryz.underlying5
 unfold Oper.wp execOp
 simp only [hx, Sem.run_bind, hr, Result.andThen_ok, Sem.run_pure]
 exact hK _ _ (asl_text hs 5 sb l hl hle)
theorem RS.of_abl (h : Sat w0 w (abl v l :: F)) : RS w0 (abl v l :: F) v l := by
 refine ⟨fun w hw => asl_rd hw, ?_⟩
 rcases asl_cases h with h | ⟨b, n, cap, cs, m, rfl, hl, hn, hc, hcm, htk, hmk, hp⟩
 ·obtain ⟨a, n, c, e, h1, h2, h3⟩ := bsl_cap' h
  exact ⟨a, n, c, e, h1, h2⟩
 ·exact ⟨_, n, cap, rfl, hn, hcm⟩
end
section
variable {w0 w : World} {F : List HProp} {lv : Value}
theorem rvS (r : RV) (h : r.x.key.length = 32) : (rvL r).toArray.size = 33 := by rw [List.size_toArray]; exact rvL_len r h
theorem rvG (r : RV) (h : r.x.key.length = 32) : (rvL r).toArray.getD 32 undef = r.nv := by
 rw [Array.getD_eq_getD_getElem?, show (rvL r).toArray[32]? = some r.nv from rw_nums (x := r.x) (nv := r.nv) h]; rfl
theorem rvOnes {w : World} {r : RV} (h : rdsl 1 r.nv (ints r.x.nums) w) : (rvL r).toArray.toList.all (·.oneCell') = true := by
 obtain ⟨a, n, c, e, _⟩ := h
 unfold rvL
 rw [e]
 rw [List.toList_toArray, List.all_append, bys_ones]; rfl
def zeroRV : RV := ⟨⟨Frm.zero32, []⟩, .slice none 0 0⟩
theorem zBRow : zeroB Tryz.prog 202 = some (.agg (rvL zeroRV).toArray) := by kernel_rfl
theorem ints_cellB {w : World} {sv : Value} {l : List Int} {i : Nat} {s : Int} (h : rdsl 1 sv (ints l) w) (hs : l[i]? = some s) : ∃ bk off c, sv = .slice (some ⟨bk, off, none⟩) l.length c ∧ w.cell? ⟨bk, off + i, none⟩ = some (.int .i64 s) := by
 obtain ⟨bk, off, cc, hsv, hcell⟩ := osl_row (f := fun i : Int => [Value.int .i64 i]) (k := 1) (l := l) (fun u _ => rfl) (by rw [show ints l = l.flatMap fun i => [Value.int .i64 i] from by unfold ints; exact List.map_eq_flatMap] at h; exact h) hs dCz
 have f0 := hcell 0 _ rfl
 rw [Nat.mul_one, Nat.add_zero] at f0
 exact ⟨bk, off, cc, hsv, f0⟩
theorem ints_slB {w : World} {sv : Value} {l : List Int} (h : rdsl 1 sv (ints l) w) : ∃ a c, sv = .slice a l.length c :=
 osl_rows (f := fun i : Int => [Value.int .i64 i]) (k := 1) (l := l) (fun u _ => rfl) (by rw [show ints l = l.flatMap fun i => [Value.int .i64 i] from by unfold ints; exact List.map_eq_flatMap] at h; exact h) dCz
set_option maxRecDepth 20000 in
theorem bwrite_c (mgb : ByteArray) (mg : Bs) (hmb : mgb.data.toList = mg) (hm8 : mg.length = 8) (kd : Bool) (k : Nat) (hk : k ≤ 3) (rs : List RV) (hok : Bok.Ok k kd (rs.map (·.x))) (hr : Ro w0 F (rdsl 33 lv (rs.flatMap rvL))) (he : ∀ r ∈ rs, RVRo w0 F r) (h : Sat w0 w F) :
  Calls Tryz.prog 123 #[.agg (kndA mgb kd k), lv] w (Rtn fun v w' => ∃ bv, v = .tuple #[bv, errno 0] ∧ Sat w0 w' (abl bv (Bok.book Xx.sum mg kd (rs.map (·.x))) :: F)) := by
 obtain ⟨la, lc, rfl⟩ := osl_rows (fun r hr => rvL_len r (he r hr).key) (hr w h) dCz
 have hn : rs.length ≤ 65536 := by have := hok.len; rwa [List.length_map] at this
 have Hr := Lib.hid hr; have He := Lib.hid he; have Hn := Lib.hid hn; have Hok := Lib.hid hok; have Hmb := Lib.hid hmb; have Hm8 := Lib.hid hm8
 have c1 : ¬ (65536 : Int) < (rs.length : Int) := by omega
 have c2 : IntKind.u64.wrap (rs.length : Int) = (rs.length : Int) := by rw [IntKind.wrap_u64]; omega
 clear hr he hn hok hmb hm8
 go_enter Tryz.func123, Tryz.ntmps123
 go_wp2_with (with_reducible apply at_box)
 refine ⟨?_⟩
 refine wl_box h evD evD ?_
 intro b2 w2 hS0
 replace hS0 : Sat w0 w2 (pt b2 (.cells (kndA mgb kd k) 196 (0,0)) :: F) := hS0
 clear h
 go_wp2_with fail
 have hS1 := hS0.drew
 clear hS0
 have hG0 := hS1.cellAt 0 (.string mgb) rfl
 refine wpL_begin [2, 7, 8] (fun w' => w'.cell? ⟨b2, 0, none⟩ = some (.string mgb)) kRz ?_
 have hG := hG0
 refine rp 0 (hy := (yl_field evD rnD)) (h := ?_)
 refine rt 1 (h := ?_)
 clear hG
 refine rp 3 (hy := (yl_move evD)) (h := ?_)
 refine rp 4 (hy := (yl_len evD rnD)) (h := ?_)
 refine rp 5 (hy := (yl_conv evD rnD)) (h := ?_)
 refine rg_eff2 2 6 evD evD kRz (fun K hK => ?_) (fun K hK => ?_)
 ·refine eff_text mgb Hmb.out (by rw [Hm8.out]; decide) hS1 evD ?_
  intro v16 w3 h3
  refine hK _ _ (.inl rfl) ?_
  clear hK hS1 hG0
  refine rg_eff 6 evD kRz (fun K hK => ?_)
  (refine eff_call2 kRz evD evD ?_)
  refine (put4_c rs.length (by have := Hn.out; omega) h3).mono ?_
  rintro ee w4 ⟨v, rfl, h4, _⟩
  refine hK _ _ (.inr (.inl ((h4.drop.drop).cellAt 0 (.string mgb) rfl))) ?_
  clear hK h3
  refine rg_eff 7 evD kRz (fun K hK => ?_)
  refine eff_appA (h4.sb : Sat w0 _ (abl v16 mg :: bsl v (Frm.le rs.length 4) :: pt b2 (.cells (kndA mgb kd k) 196 (0,0)) :: F)) evD evD (Sat.rd h4) (fun e => by cases e) (by rw [Hm8.out, Frm.le_len]; decide) ?_
  intro v6 w5 h5
  refine hK _ _ (.inl rfl) ?_
  clear hK h4
  refine rp 8 (hy := (yl_assign evD)) (h := ?_)
  refine wpL_done kRz ?_
  try simp only [List.getElem_toArray, List.getElem_cons_succ, List.getElem_cons_zero]
  try go_frame
  have hB : Sat w0 w5 (abl v6 (mg ++ Frm.le rs.length 4) :: pt b2 (.cells (kndA mgb kd k) 196 (0,0)) :: F) := h5.sb
  clear h5
  as_aux_lemma =>
   have hX0 := Lib.hid hB
   go_wp2_with fail
   go_loopg [6, 24] rs.length (fun g bq iq wr => ∃ (i : Nat) (bv : Value), g = rs.length - i ∧ i ≤ rs.length ∧ bv = bq ∧ iq = .int .i64 i ∧ Sat w0 wr (abl bv (mg ++ Frm.le rs.length 4 ++ Bok.rowsB kd ((rs.map (·.x)).take i)) :: pt b2 (.cells (kndA mgb kd k) 196 (0,0)) :: F))
   case atStart => exact ⟨0, _, rfl, Nat.zero_le _, rfl, rfl, by rw [List.take_zero, Bok.rowsB_nil, List.append_nil]; exact hB⟩
   case round =>
    obtain ⟨i, bv, rfl, hi, rfl, rfl, hS⟩ := hrel
    clear hB hX0
    by_cases hlt : i < rs.length
    ·as_aux_lemma =>
     have c3 : (i : Int) < (rs.length : Int) := by omega
     have hwi : IntKind.i64.wrap ((i : Int) + 1) = (i : Int) + 1 := IntWalk.i64_in _ (by have := Hn.out; omega)
     obtain ⟨r, hx⟩ : ∃ q, rs[i]? = some q := ⟨_, List.getElem?_eq_getElem hlt⟩
     have H1 := Lib.hid (He.out r (List.mem_of_getElem? hx))
     have Hro := Lib.hid (Hok.out.row r.x (List.mem_map_of_mem (List.mem_of_getElem? hx)))
     have htk := Bok.rowsB_take (kd := kd) (show (rs.map (·.x))[i]? = some r.x by rw [List.getElem?_map, hx]; rfl)
     have hXl : (mg ++ Frm.le rs.length 4 ++ Bok.rowsB kd ((rs.map (·.x)).take i)).length ≤ 3000000 := by
      rw [List.length_append, List.length_append, Hm8.out, Frm.le_len, Bok.rowsB_len _ (fun q hq => Hok.out.row q (List.mem_of_mem_take hq)), List.length_take, List.length_map]
      have h1 := Hn.out
      have h2 : min i rs.length * Bok.rowSz kd k ≤ 65536 * 44 := Nat.mul_le_mul (by omega) (Bok.rowSz_le hk)
      omega
     obtain ⟨bk, off, c', hsv, hcell⟩ := osl_row (f := rvL) (k := 33) (fun r hr => rvL_len r (He.out r hr).key) (Hr.out _ hS.drop.drop) hx dCz
     cases hsv
     have htk2 : mg ++ Frm.le rs.length 4 ++ Bok.rowsB kd ((rs.map (·.x)).take (i + 1)) = (mg ++ Frm.le rs.length 4 ++ Bok.rowsB kd ((rs.map (·.x)).take i)) ++ (if kd then r.x.key else []) ++ Bok.numsB r.x.nums := by
      rw [htk]; unfold Bok.rowB; simp only [List.append_assoc]
     generalize mg ++ Frm.le rs.length 4 ++ Bok.rowsB kd ((rs.map (·.x)).take i) = X at *
     have Htk0 := Lib.hid htk2; have HX := Lib.hid hXl; have Hlt := Lib.hid hlt
     clear hx htk htk2 hXl hlt hi
     go_wp2_with (first
      | ((with_reducible apply at_load); refine ⟨?_⟩; refine wl_loadW (b := bk) (o := off + i * 33) (rvL r) rFz hcell Tryz.underlying202 rfl (by rw [rvL_len _ H1.out.key]; kernel_rfl) ?_)
      | (with_reducible apply at_alloc))
     refine ⟨?_⟩
     refine wl_alloc zBRow hS rfl ?_
     intro b8 w8 h8
     clear hS hcell
     go_wp2_with (with_reducible apply at_store)
     refine ⟨?_⟩
     refine wl_storeA (rvL r).toArray h8 rFz rFz (by rw [rvS _ H1.out.key]; rfl) upd0 (by rw [rvS _ H1.out.key]; kernel_rfl) (rvOnes (H1.out.rd _ h8.drop.drop.drop)) ?_
     intro w9 h9
     clear h8
     have hgd : (rvL r).toArray.getD 32 undef = r.nv := rvG _ H1.out.key
     cases kd
     ·have hQ := abl_nil (h9.pick pick1)
      have Htk := Lib.hid (show mg ++ Frm.le rs.length 4 ++ Bok.rowsB false ((rs.map (·.x)).take (i + 1)) = X ++ [] ++ Bok.numsB r.x.nums from Htk0.out)
      have HY := Lib.hid (show (X ++ ([] : Bs)).length ≤ 3000100 by rw [List.append_nil]; have := HX.out; omega)
      generalize X ++ ([] : Bs) = Y at *
      clear h9 Htk0 HX
      obtain ⟨na, nc, hnv⟩ := ints_slB (H1.out.rd _ (hQ.drop.drop.drop))
      rw [hnv] at hgd
      have Hnv := Lib.hid hnv
      go_wp2_with ((with_reducible apply at_load); refine ⟨?_⟩; first | refine wl_load1 (o := 32) hQ rFz pick1 (by rw [rvS _ H1.out.key]; decide) hgd kRz ?_ | refine wl_load1 hQ rFz (pick_there pick1) nLz evD kRz ?_)
      clear hgd
      go_loopg [6, 37] r.x.nums.length (fun g bq jq wr => ∃ (j : Nat) (cv : Value), g = r.x.nums.length - j ∧ j ≤ r.x.nums.length ∧ cv = bq ∧ jq = .int .i64 j ∧ Sat w0 wr (abl cv (Y ++ Bok.numsB (r.x.nums.take j)) :: pt b8 (.cells (rvL r).toArray 202 (0,0)) :: pt b2 (.cells (kndA mgb false k) 196 (0,0)) :: F))
      case atStart => exact ⟨0, _, rfl, Nat.zero_le _, rfl, rfl, by rw [List.take_zero, Bok.numsB_nil, List.append_nil]; exact hQ⟩
      case round =>
       obtain ⟨j, cv, rfl, hj, rfl, rfl, hSj⟩ := hrel
       clear hQ
       by_cases hjl : j < r.x.nums.length
       ·obtain ⟨n, hn⟩ : ∃ n, r.x.nums[j]? = some n := ⟨_, List.getElem?_eq_getElem hjl⟩
        have hnb := Hro.out.num n (List.mem_of_getElem? hn)
        obtain ⟨bk2, of2, cc2, e2, hcj⟩ := ints_cellB (H1.out.rd _ (hSj.drop.drop.drop)) hn
        rw [Hnv.out] at e2
        cases e2
        have Hnk := Lib.hid (Bok.numsB_take hn)
        obtain ⟨x, rfl⟩ : ∃ x : Nat, n = (x : Int) := ⟨n.toNat, by omega⟩
        have d1 : decide ((x : Int) < 0) = false := by rw [decide_eq_false_iff_not]; omega
        have d2 : decide ((4294967295 : Int) < (x : Int)) = false := by rw [decide_eq_false_iff_not]; omega
        have d3 : ¬ (x : Int) < 0 := by omega
        have d4 : ¬ (4294967295 : Int) < (x : Int) := by omega
        have d5 : IntKind.u64.wrap (x : Int) = (x : Int) := by rw [IntKind.wrap_u64]; omega
        have c4 : (j : Int) < (r.x.nums.length : Int) := by omega
        have hwj : IntKind.i64.wrap ((j : Int) + 1) = (j : Int) + 1 := IntWalk.i64_in _ (by have := Hro.out.len; omega)
        have Hpu := Lib.hid (fun (w' : World) (R : List HProp) (hw : Sat w0 w' R) => put4_c x (by omega) hw)
        have hyl : (Y ++ Bok.numsB (r.x.nums.take j)).length ≤ 4000000 := by rw [List.length_append, Bok.numsB_len, List.length_take]; have := Hro.out.len; have := HY.out; omega
        have Hyl := Lib.hid hyl; have Hjl := Lib.hid hjl
        clear hn hnb hjl hj hyl
        go_wp2_with fail
        refine (Hpu.out _ _ hSj).mono ?_
        rintro ee w5 ⟨v, rfl, h5, _⟩
        clear Hpu hcj hSj
        go_wp2_with (with_reducible apply at_appA)
        refine ⟨?_⟩
        refine wl_appA (m := Frm.le x 4) (h5.pick pick1) rFz rFz (Sat.rd h5) (fun e => by cases e) (by rw [Frm.le_len]; have := Hyl.out; omega) ?_
        intro v6 w6 h6
        go_wp2_with fail
        go_roundg (r.x.nums.length - (j + 1))
        case measure => have := Hjl.out; omega
        case rel => exact ⟨j + 1, _, rfl, Nat.succ_le_of_lt Hjl.out, rfl, by first | rfl | go_num, by rw [Hnk.out, ← List.append_assoc]; exact h6.sb⟩
       ·have c4 : ¬ (j : Int) < (r.x.nums.length : Int) := by omega
        obtain rfl : j = r.x.nums.length := by omega
        rw [List.take_length] at hSj
        clear hj hjl
        go_wp2_with fail
        go_roundg (rs.length - (i + 1))
        case measure => have := Hlt.out; omega
        case rel => exact ⟨i + 1, _, rfl, Nat.succ_le_of_lt Hlt.out, rfl, by first | rfl | go_num, by rw [Htk.out]; exact hSj.sb⟩
     ·have hrd : rdsl 1 (.slice (some ⟨b8, 0, none⟩) 32 32) (bys r.x.key) w9 := ⟨_, _, _, rfl, by rw [bys_len, H1.out.key], fun j z hj => ⟨_, rfl, by rw [adr_add, Nat.zero_add]; exact h9.cellP pick0 j (rw_key hj)⟩⟩
      have Htk := Lib.hid (show mg ++ Frm.le rs.length 4 ++ Bok.rowsB true ((rs.map (·.x)).take (i + 1)) = X ++ r.x.key ++ Bok.numsB r.x.nums from Htk0.out)
      have HY := Lib.hid (show (X ++ r.x.key).length ≤ 3000100 by rw [List.length_append, H1.out.key]; have := HX.out; omega)
      have hsl : ∀ w, (Instr.sliceAt 24 (.pointer (some ⟨b8, 0, none⟩)) none none none).run Tryz.prog w = .ok (.slice (some ⟨b8, 0, none⟩) 32 32) w := fun w => by kernel_rfl
      go_wp2_with (first
       | ((with_reducible apply at_load); refine ⟨?_⟩; refine wl_load1 h9 rFz (pick_there pick1) nLz evD kRz ?_)
       | (with_reducible apply at_sl0))
      refine ⟨?_⟩
      refine wl_sl0 rFz hsl ?_
      refine wl_appA (m := r.x.key) (h9.pick pick1) rFz rFz hrd (fun e => by have := H1.out.key; rw [e] at this; cases this) (by rw [H1.out.key]; have := HX.out; omega) ?_
      intro v33 w10 hQ
      generalize X ++ r.x.key = Y at *
      clear h9 Htk0 HX hrd
      obtain ⟨na, nc, hnv⟩ := ints_slB (H1.out.rd _ (hQ.drop.drop.drop))
      rw [hnv] at hgd
      have Hnv := Lib.hid hnv
      go_wp2_with ((with_reducible apply at_load); refine ⟨?_⟩; first | refine wl_load1 (o := 32) hQ rFz pick1 (by rw [rvS _ H1.out.key]; decide) hgd kRz ?_ | refine wl_load1 hQ rFz (pick_there pick1) nLz evD kRz ?_)
      clear hgd
      go_loopg [6, 37] r.x.nums.length (fun g bq jq wr => ∃ (j : Nat) (cv : Value), g = r.x.nums.length - j ∧ j ≤ r.x.nums.length ∧ cv = bq ∧ jq = .int .i64 j ∧ Sat w0 wr (abl cv (Y ++ Bok.numsB (r.x.nums.take j)) :: pt b8 (.cells (rvL r).toArray 202 (0,0)) :: pt b2 (.cells (kndA mgb true k) 196 (0,0)) :: F))
      case atStart => exact ⟨0, _, rfl, Nat.zero_le _, rfl, rfl, by rw [List.take_zero, Bok.numsB_nil, List.append_nil]; exact hQ⟩
      case round =>
       obtain ⟨j, cv, rfl, hj, rfl, rfl, hSj⟩ := hrel
       clear hQ
       by_cases hjl : j < r.x.nums.length
       ·obtain ⟨n, hn⟩ : ∃ n, r.x.nums[j]? = some n := ⟨_, List.getElem?_eq_getElem hjl⟩
        have hnb := Hro.out.num n (List.mem_of_getElem? hn)
        obtain ⟨bk2, of2, cc2, e2, hcj⟩ := ints_cellB (H1.out.rd _ (hSj.drop.drop.drop)) hn
        rw [Hnv.out] at e2
        cases e2
        have Hnk := Lib.hid (Bok.numsB_take hn)
        obtain ⟨x, rfl⟩ : ∃ x : Nat, n = (x : Int) := ⟨n.toNat, by omega⟩
        have d1 : decide ((x : Int) < 0) = false := by rw [decide_eq_false_iff_not]; omega
        have d2 : decide ((4294967295 : Int) < (x : Int)) = false := by rw [decide_eq_false_iff_not]; omega
        have d3 : ¬ (x : Int) < 0 := by omega
        have d4 : ¬ (4294967295 : Int) < (x : Int) := by omega
        have d5 : IntKind.u64.wrap (x : Int) = (x : Int) := by rw [IntKind.wrap_u64]; omega
        have c4 : (j : Int) < (r.x.nums.length : Int) := by omega
        have hwj : IntKind.i64.wrap ((j : Int) + 1) = (j : Int) + 1 := IntWalk.i64_in _ (by have := Hro.out.len; omega)
        have Hpu := Lib.hid (fun (w' : World) (R : List HProp) (hw : Sat w0 w' R) => put4_c x (by omega) hw)
        have hyl : (Y ++ Bok.numsB (r.x.nums.take j)).length ≤ 4000000 := by rw [List.length_append, Bok.numsB_len, List.length_take]; have := Hro.out.len; have := HY.out; omega
        have Hyl := Lib.hid hyl; have Hjl := Lib.hid hjl
        clear hn hnb hjl hj hyl
        go_wp2_with fail
        refine (Hpu.out _ _ hSj).mono ?_
        rintro ee w5 ⟨v, rfl, h5, _⟩
        clear Hpu hcj hSj
        go_wp2_with (with_reducible apply at_appA)
        refine ⟨?_⟩
        refine wl_appA (m := Frm.le x 4) (h5.pick pick1) rFz rFz (Sat.rd h5) (fun e => by cases e) (by rw [Frm.le_len]; have := Hyl.out; omega) ?_
        intro v6 w6 h6
        go_wp2_with fail
        go_roundg (r.x.nums.length - (j + 1))
        case measure => have := Hjl.out; omega
        case rel => exact ⟨j + 1, _, rfl, Nat.succ_le_of_lt Hjl.out, rfl, by first | rfl | go_num, by rw [Hnk.out, ← List.append_assoc]; exact h6.sb⟩
       ·have c4 : ¬ (j : Int) < (r.x.nums.length : Int) := by omega
        obtain rfl : j = r.x.nums.length := by omega
        rw [List.take_length] at hSj
        clear hj hjl
        go_wp2_with fail
        go_roundg (rs.length - (i + 1))
        case measure => have := Hlt.out; omega
        case rel => exact ⟨i + 1, _, rfl, Nat.succ_le_of_lt Hlt.out, rfl, by first | rfl | go_num, by rw [Htk.out]; exact hSj.sb⟩
    ·as_aux_lemma =>
     have c3 : ¬ (i : Int) < (rs.length : Int) := by omega
     obtain rfl : i = rs.length := by omega
     have eb : mg ++ Frm.le rs.length 4 ++ Bok.rowsB kd ((rs.map (·.x)).take rs.length) = Bok.body mg kd (rs.map (·.x)) := by
      unfold Bok.body
      rw [List.take_of_length_le (by rw [List.length_map]; exact Nat.le_refl _), List.length_map]
     have hSb := abl_eq hS eb
     have Hbl := Lib.hid (Bok.body_le (mg := mg) Hm8.out hk Hok.out)
     have Hne := Lib.hid (show Bok.body mg kd (rs.map (·.x)) ≠ [] from fun e => by
      have := Bok.body_len (mg := mg) (kd := kd) Hm8.out Hok.out.row
      rw [e] at this
      simp only [List.length_nil] at this
      omega)
     have hri := rises_c mgb kd k rs (by have := Hn.out; omega) (Ro.os Hr.out) (fun r hr => (He.out r hr).sub sbD) hSb
     clear hS hi hlt eb
     go_wp2_with ((with_reducible apply at_load); refine ⟨?_⟩; refine wl_loadA hSb rFz pick1 Tryz.underlying196 rfl kRz ?_)
     refine hri.mono ?_
     rintro ee w5 ⟨v, rfl, t, rfl, ht, h5⟩
     obtain rfl : t = true := ht.2 Hok.out.rise
     clear hri hSb ht
     go_wp2_with fail
     have hxs := xsum_c Hne.out (by have := Hbl.out; omega) (RS.of_abl h5) h5
     obtain ⟨S, HS⟩ : ∃ S, Hid (Xx.sum (Bok.body mg kd (rs.map (·.x))) = S) := ⟨_, Lib.hid rfl⟩
     have HSl := Lib.hid (show S < Xx.W by rw [← HS.out]; exact Xx.sum_lt _)
     rw [HS.out] at hxs
     refine hxs.mono ?_
     rintro ee w6 ⟨v, rfl, rfl, h6⟩
     clear h5 hxs
     go_wp2_with fail
     refine (put8_c S HSl.out h6).mono ?_
     rintro ee w7 ⟨v, rfl, h7, _⟩
     clear h6
     go_wp2_with (with_reducible apply at_appA)
     refine ⟨?_⟩
     refine wl_appA (m := Frm.le S 8) (h7.pick pick1) rFz rFz (Sat.rd h7) (fun e => by have k := congrArg List.length e; rw [Frm.le_len] at k; cases k) (by rw [Frm.le_len]; have := Hbl.out; omega) ?_
     intro v8 w8 h8
     have h9 : Sat w0 w8 (abl v8 (Bok.book Xx.sum mg kd (rs.map (·.x))) :: F) := by unfold Bok.book; rw [HS.out]; exact h8.sb
     clear h7 h8
     go_wp2_with fail
     go_ret2
     exact ⟨_, rfl, v8, rfl, h9⟩
 ·(refine eff_call2 kRz evD evD ?_)
  refine (put4_c rs.length (by have := Hn.out; omega) hS1).mono ?_
  rintro ee w4 ⟨v, rfl, h4, _⟩
  refine hK _ _ (.inr (.inl ((h4.drop).cellAt 0 (.string mgb) rfl))) ?_
  clear hK hS1 hG0
  refine rg_eff 2 evD kRz (fun K hK => ?_)
  refine eff_text mgb Hmb.out (by rw [Hm8.out]; decide) h4 evD ?_
  intro v16 w3 h3
  refine hK _ _ (.inl rfl) ?_
  clear hK h4
  refine rg_eff 7 evD kRz (fun K hK => ?_)
  refine eff_appA (h3.sb : Sat w0 _ (abl v16 mg :: bsl v (Frm.le rs.length 4) :: pt b2 (.cells (kndA mgb kd k) 196 (0,0)) :: F)) evD evD (Sat.rd h3.drop) (fun e => by cases e) (by rw [Hm8.out, Frm.le_len]; decide) ?_
  intro v6 w5 h5
  refine hK _ _ (.inl rfl) ?_
  clear hK h3
  refine rp 8 (hy := (yl_assign evD)) (h := ?_)
  refine wpL_done kRz ?_
  try simp only [List.getElem_toArray, List.getElem_cons_succ, List.getElem_cons_zero]
  try go_frame
  have hB : Sat w0 w5 (abl v6 (mg ++ Frm.le rs.length 4) :: pt b2 (.cells (kndA mgb kd k) 196 (0,0)) :: F) := h5.sb
  clear h5
  as_aux_lemma =>
   have hX0 := Lib.hid hB
   go_wp2_with fail
   go_loopg [6, 24] rs.length (fun g bq iq wr => ∃ (i : Nat) (bv : Value), g = rs.length - i ∧ i ≤ rs.length ∧ bv = bq ∧ iq = .int .i64 i ∧ Sat w0 wr (abl bv (mg ++ Frm.le rs.length 4 ++ Bok.rowsB kd ((rs.map (·.x)).take i)) :: pt b2 (.cells (kndA mgb kd k) 196 (0,0)) :: F))
   case atStart => exact ⟨0, _, rfl, Nat.zero_le _, rfl, rfl, by rw [List.take_zero, Bok.rowsB_nil, List.append_nil]; exact hB⟩
   case round =>
    obtain ⟨i, bv, rfl, hi, rfl, rfl, hS⟩ := hrel
    clear hB hX0
    by_cases hlt : i < rs.length
    ·as_aux_lemma =>
     have c3 : (i : Int) < (rs.length : Int) := by omega
     have hwi : IntKind.i64.wrap ((i : Int) + 1) = (i : Int) + 1 := IntWalk.i64_in _ (by have := Hn.out; omega)
     obtain ⟨r, hx⟩ : ∃ q, rs[i]? = some q := ⟨_, List.getElem?_eq_getElem hlt⟩
     have H1 := Lib.hid (He.out r (List.mem_of_getElem? hx))
     have Hro := Lib.hid (Hok.out.row r.x (List.mem_map_of_mem (List.mem_of_getElem? hx)))
     have htk := Bok.rowsB_take (kd := kd) (show (rs.map (·.x))[i]? = some r.x by rw [List.getElem?_map, hx]; rfl)
     have hXl : (mg ++ Frm.le rs.length 4 ++ Bok.rowsB kd ((rs.map (·.x)).take i)).length ≤ 3000000 := by
      rw [List.length_append, List.length_append, Hm8.out, Frm.le_len, Bok.rowsB_len _ (fun q hq => Hok.out.row q (List.mem_of_mem_take hq)), List.length_take, List.length_map]
      have h1 := Hn.out
      have h2 : min i rs.length * Bok.rowSz kd k ≤ 65536 * 44 := Nat.mul_le_mul (by omega) (Bok.rowSz_le hk)
      omega
     obtain ⟨bk, off, c', hsv, hcell⟩ := osl_row (f := rvL) (k := 33) (fun r hr => rvL_len r (He.out r hr).key) (Hr.out _ hS.drop.drop) hx dCz
     cases hsv
     have htk2 : mg ++ Frm.le rs.length 4 ++ Bok.rowsB kd ((rs.map (·.x)).take (i + 1)) = (mg ++ Frm.le rs.length 4 ++ Bok.rowsB kd ((rs.map (·.x)).take i)) ++ (if kd then r.x.key else []) ++ Bok.numsB r.x.nums := by
      rw [htk]; unfold Bok.rowB; simp only [List.append_assoc]
     generalize mg ++ Frm.le rs.length 4 ++ Bok.rowsB kd ((rs.map (·.x)).take i) = X at *
     have Htk0 := Lib.hid htk2; have HX := Lib.hid hXl; have Hlt := Lib.hid hlt
     clear hx htk htk2 hXl hlt hi
     go_wp2_with (first
      | ((with_reducible apply at_load); refine ⟨?_⟩; refine wl_loadW (b := bk) (o := off + i * 33) (rvL r) rFz hcell Tryz.underlying202 rfl (by rw [rvL_len _ H1.out.key]; kernel_rfl) ?_)
      | (with_reducible apply at_alloc))
     refine ⟨?_⟩
     refine wl_alloc zBRow hS rfl ?_
     intro b8 w8 h8
     clear hS hcell
     go_wp2_with (with_reducible apply at_store)
     refine ⟨?_⟩
     refine wl_storeA (rvL r).toArray h8 rFz rFz (by rw [rvS _ H1.out.key]; rfl) upd0 (by rw [rvS _ H1.out.key]; kernel_rfl) (rvOnes (H1.out.rd _ h8.drop.drop.drop)) ?_
     intro w9 h9
     clear h8
     have hgd : (rvL r).toArray.getD 32 undef = r.nv := rvG _ H1.out.key
     cases kd
     ·have hQ := abl_nil (h9.pick pick1)
      have Htk := Lib.hid (show mg ++ Frm.le rs.length 4 ++ Bok.rowsB false ((rs.map (·.x)).take (i + 1)) = X ++ [] ++ Bok.numsB r.x.nums from Htk0.out)
      have HY := Lib.hid (show (X ++ ([] : Bs)).length ≤ 3000100 by rw [List.append_nil]; have := HX.out; omega)
      generalize X ++ ([] : Bs) = Y at *
      clear h9 Htk0 HX
      obtain ⟨na, nc, hnv⟩ := ints_slB (H1.out.rd _ (hQ.drop.drop.drop))
      rw [hnv] at hgd
      have Hnv := Lib.hid hnv
      go_wp2_with ((with_reducible apply at_load); refine ⟨?_⟩; first | refine wl_load1 (o := 32) hQ rFz pick1 (by rw [rvS _ H1.out.key]; decide) hgd kRz ?_ | refine wl_load1 hQ rFz (pick_there pick1) nLz evD kRz ?_)
      clear hgd
      go_loopg [6, 37] r.x.nums.length (fun g bq jq wr => ∃ (j : Nat) (cv : Value), g = r.x.nums.length - j ∧ j ≤ r.x.nums.length ∧ cv = bq ∧ jq = .int .i64 j ∧ Sat w0 wr (abl cv (Y ++ Bok.numsB (r.x.nums.take j)) :: pt b8 (.cells (rvL r).toArray 202 (0,0)) :: pt b2 (.cells (kndA mgb false k) 196 (0,0)) :: F))
      case atStart => exact ⟨0, _, rfl, Nat.zero_le _, rfl, rfl, by rw [List.take_zero, Bok.numsB_nil, List.append_nil]; exact hQ⟩
      case round =>
       obtain ⟨j, cv, rfl, hj, rfl, rfl, hSj⟩ := hrel
       clear hQ
       by_cases hjl : j < r.x.nums.length
       ·obtain ⟨n, hn⟩ : ∃ n, r.x.nums[j]? = some n := ⟨_, List.getElem?_eq_getElem hjl⟩
        have hnb := Hro.out.num n (List.mem_of_getElem? hn)
        obtain ⟨bk2, of2, cc2, e2, hcj⟩ := ints_cellB (H1.out.rd _ (hSj.drop.drop.drop)) hn
        rw [Hnv.out] at e2
        cases e2
        have Hnk := Lib.hid (Bok.numsB_take hn)
        obtain ⟨x, rfl⟩ : ∃ x : Nat, n = (x : Int) := ⟨n.toNat, by omega⟩
        have d1 : decide ((x : Int) < 0) = false := by rw [decide_eq_false_iff_not]; omega
        have d2 : decide ((4294967295 : Int) < (x : Int)) = false := by rw [decide_eq_false_iff_not]; omega
        have d3 : ¬ (x : Int) < 0 := by omega
        have d4 : ¬ (4294967295 : Int) < (x : Int) := by omega
        have d5 : IntKind.u64.wrap (x : Int) = (x : Int) := by rw [IntKind.wrap_u64]; omega
        have c4 : (j : Int) < (r.x.nums.length : Int) := by omega
        have hwj : IntKind.i64.wrap ((j : Int) + 1) = (j : Int) + 1 := IntWalk.i64_in _ (by have := Hro.out.len; omega)
        have Hpu := Lib.hid (fun (w' : World) (R : List HProp) (hw : Sat w0 w' R) => put4_c x (by omega) hw)
        have hyl : (Y ++ Bok.numsB (r.x.nums.take j)).length ≤ 4000000 := by rw [List.length_append, Bok.numsB_len, List.length_take]; have := Hro.out.len; have := HY.out; omega
        have Hyl := Lib.hid hyl; have Hjl := Lib.hid hjl
        clear hn hnb hjl hj hyl
        go_wp2_with fail
        refine (Hpu.out _ _ hSj).mono ?_
        rintro ee w5 ⟨v, rfl, h5, _⟩
        clear Hpu hcj hSj
        go_wp2_with (with_reducible apply at_appA)
        refine ⟨?_⟩
        refine wl_appA (m := Frm.le x 4) (h5.pick pick1) rFz rFz (Sat.rd h5) (fun e => by cases e) (by rw [Frm.le_len]; have := Hyl.out; omega) ?_
        intro v6 w6 h6
        go_wp2_with fail
        go_roundg (r.x.nums.length - (j + 1))
        case measure => have := Hjl.out; omega
        case rel => exact ⟨j + 1, _, rfl, Nat.succ_le_of_lt Hjl.out, rfl, by first | rfl | go_num, by rw [Hnk.out, ← List.append_assoc]; exact h6.sb⟩
       ·have c4 : ¬ (j : Int) < (r.x.nums.length : Int) := by omega
        obtain rfl : j = r.x.nums.length := by omega
        rw [List.take_length] at hSj
        clear hj hjl
        go_wp2_with fail
        go_roundg (rs.length - (i + 1))
        case measure => have := Hlt.out; omega
        case rel => exact ⟨i + 1, _, rfl, Nat.succ_le_of_lt Hlt.out, rfl, by first | rfl | go_num, by rw [Htk.out]; exact hSj.sb⟩
     ·have hrd : rdsl 1 (.slice (some ⟨b8, 0, none⟩) 32 32) (bys r.x.key) w9 := ⟨_, _, _, rfl, by rw [bys_len, H1.out.key], fun j z hj => ⟨_, rfl, by rw [adr_add, Nat.zero_add]; exact h9.cellP pick0 j (rw_key hj)⟩⟩
      have Htk := Lib.hid (show mg ++ Frm.le rs.length 4 ++ Bok.rowsB true ((rs.map (·.x)).take (i + 1)) = X ++ r.x.key ++ Bok.numsB r.x.nums from Htk0.out)
      have HY := Lib.hid (show (X ++ r.x.key).length ≤ 3000100 by rw [List.length_append, H1.out.key]; have := HX.out; omega)
      have hsl : ∀ w, (Instr.sliceAt 24 (.pointer (some ⟨b8, 0, none⟩)) none none none).run Tryz.prog w = .ok (.slice (some ⟨b8, 0, none⟩) 32 32) w := fun w => by kernel_rfl
      go_wp2_with (first
       | ((with_reducible apply at_load); refine ⟨?_⟩; refine wl_load1 h9 rFz (pick_there pick1) nLz evD kRz ?_)
       | (with_reducible apply at_sl0))
      refine ⟨?_⟩
      refine wl_sl0 rFz hsl ?_
      refine wl_appA (m := r.x.key) (h9.pick pick1) rFz rFz hrd (fun e => by have := H1.out.key; rw [e] at this; cases this) (by rw [H1.out.key]; have := HX.out; omega) ?_
      intro v33 w10 hQ
      generalize X ++ r.x.key = Y at *
      clear h9 Htk0 HX hrd
      obtain ⟨na, nc, hnv⟩ := ints_slB (H1.out.rd _ (hQ.drop.drop.drop))
      rw [hnv] at hgd
      have Hnv := Lib.hid hnv
      go_wp2_with ((with_reducible apply at_load); refine ⟨?_⟩; first | refine wl_load1 (o := 32) hQ rFz pick1 (by rw [rvS _ H1.out.key]; decide) hgd kRz ?_ | refine wl_load1 hQ rFz (pick_there pick1) nLz evD kRz ?_)
      clear hgd
      go_loopg [6, 37] r.x.nums.length (fun g bq jq wr => ∃ (j : Nat) (cv : Value), g = r.x.nums.length - j ∧ j ≤ r.x.nums.length ∧ cv = bq ∧ jq = .int .i64 j ∧ Sat w0 wr (abl cv (Y ++ Bok.numsB (r.x.nums.take j)) :: pt b8 (.cells (rvL r).toArray 202 (0,0)) :: pt b2 (.cells (kndA mgb true k) 196 (0,0)) :: F))
      case atStart => exact ⟨0, _, rfl, Nat.zero_le _, rfl, rfl, by rw [List.take_zero, Bok.numsB_nil, List.append_nil]; exact hQ⟩
      case round =>
       obtain ⟨j, cv, rfl, hj, rfl, rfl, hSj⟩ := hrel
       clear hQ
       by_cases hjl : j < r.x.nums.length
       ·obtain ⟨n, hn⟩ : ∃ n, r.x.nums[j]? = some n := ⟨_, List.getElem?_eq_getElem hjl⟩
        have hnb := Hro.out.num n (List.mem_of_getElem? hn)
        obtain ⟨bk2, of2, cc2, e2, hcj⟩ := ints_cellB (H1.out.rd _ (hSj.drop.drop.drop)) hn
        rw [Hnv.out] at e2
        cases e2
        have Hnk := Lib.hid (Bok.numsB_take hn)
        obtain ⟨x, rfl⟩ : ∃ x : Nat, n = (x : Int) := ⟨n.toNat, by omega⟩
        have d1 : decide ((x : Int) < 0) = false := by rw [decide_eq_false_iff_not]; omega
        have d2 : decide ((4294967295 : Int) < (x : Int)) = false := by rw [decide_eq_false_iff_not]; omega
        have d3 : ¬ (x : Int) < 0 := by omega
        have d4 : ¬ (4294967295 : Int) < (x : Int) := by omega
        have d5 : IntKind.u64.wrap (x : Int) = (x : Int) := by rw [IntKind.wrap_u64]; omega
        have c4 : (j : Int) < (r.x.nums.length : Int) := by omega
        have hwj : IntKind.i64.wrap ((j : Int) + 1) = (j : Int) + 1 := IntWalk.i64_in _ (by have := Hro.out.len; omega)
        have Hpu := Lib.hid (fun (w' : World) (R : List HProp) (hw : Sat w0 w' R) => put4_c x (by omega) hw)
        have hyl : (Y ++ Bok.numsB (r.x.nums.take j)).length ≤ 4000000 := by rw [List.length_append, Bok.numsB_len, List.length_take]; have := Hro.out.len; have := HY.out; omega
        have Hyl := Lib.hid hyl; have Hjl := Lib.hid hjl
        clear hn hnb hjl hj hyl
        go_wp2_with fail
        refine (Hpu.out _ _ hSj).mono ?_
        rintro ee w5 ⟨v, rfl, h5, _⟩
        clear Hpu hcj hSj
        go_wp2_with (with_reducible apply at_appA)
        refine ⟨?_⟩
        refine wl_appA (m := Frm.le x 4) (h5.pick pick1) rFz rFz (Sat.rd h5) (fun e => by cases e) (by rw [Frm.le_len]; have := Hyl.out; omega) ?_
        intro v6 w6 h6
        go_wp2_with fail
        go_roundg (r.x.nums.length - (j + 1))
        case measure => have := Hjl.out; omega
        case rel => exact ⟨j + 1, _, rfl, Nat.succ_le_of_lt Hjl.out, rfl, by first | rfl | go_num, by rw [Hnk.out, ← List.append_assoc]; exact h6.sb⟩
       ·have c4 : ¬ (j : Int) < (r.x.nums.length : Int) := by omega
        obtain rfl : j = r.x.nums.length := by omega
        rw [List.take_length] at hSj
        clear hj hjl
        go_wp2_with fail
        go_roundg (rs.length - (i + 1))
        case measure => have := Hlt.out; omega
        case rel => exact ⟨i + 1, _, rfl, Nat.succ_le_of_lt Hlt.out, rfl, by first | rfl | go_num, by rw [Htk.out]; exact hSj.sb⟩
    ·as_aux_lemma =>
     have c3 : ¬ (i : Int) < (rs.length : Int) := by omega
     obtain rfl : i = rs.length := by omega
     have eb : mg ++ Frm.le rs.length 4 ++ Bok.rowsB kd ((rs.map (·.x)).take rs.length) = Bok.body mg kd (rs.map (·.x)) := by
      unfold Bok.body
      rw [List.take_of_length_le (by rw [List.length_map]; exact Nat.le_refl _), List.length_map]
     have hSb := abl_eq hS eb
     have Hbl := Lib.hid (Bok.body_le (mg := mg) Hm8.out hk Hok.out)
     have Hne := Lib.hid (show Bok.body mg kd (rs.map (·.x)) ≠ [] from fun e => by
      have := Bok.body_len (mg := mg) (kd := kd) Hm8.out Hok.out.row
      rw [e] at this
      simp only [List.length_nil] at this
      omega)
     have hri := rises_c mgb kd k rs (by have := Hn.out; omega) (Ro.os Hr.out) (fun r hr => (He.out r hr).sub sbD) hSb
     clear hS hi hlt eb
     go_wp2_with ((with_reducible apply at_load); refine ⟨?_⟩; refine wl_loadA hSb rFz pick1 Tryz.underlying196 rfl kRz ?_)
     refine hri.mono ?_
     rintro ee w5 ⟨v, rfl, t, rfl, ht, h5⟩
     obtain rfl : t = true := ht.2 Hok.out.rise
     clear hri hSb ht
     go_wp2_with fail
     have hxs := xsum_c Hne.out (by have := Hbl.out; omega) (RS.of_abl h5) h5
     obtain ⟨S, HS⟩ : ∃ S, Hid (Xx.sum (Bok.body mg kd (rs.map (·.x))) = S) := ⟨_, Lib.hid rfl⟩
     have HSl := Lib.hid (show S < Xx.W by rw [← HS.out]; exact Xx.sum_lt _)
     rw [HS.out] at hxs
     refine hxs.mono ?_
     rintro ee w6 ⟨v, rfl, rfl, h6⟩
     clear h5 hxs
     go_wp2_with fail
     refine (put8_c S HSl.out h6).mono ?_
     rintro ee w7 ⟨v, rfl, h7, _⟩
     clear h6
     go_wp2_with (with_reducible apply at_appA)
     refine ⟨?_⟩
     refine wl_appA (m := Frm.le S 8) (h7.pick pick1) rFz rFz (Sat.rd h7) (fun e => by have k := congrArg List.length e; rw [Frm.le_len] at k; cases k) (by rw [Frm.le_len]; have := Hbl.out; omega) ?_
     intro v8 w8 h8
     have h9 : Sat w0 w8 (abl v8 (Bok.book Xx.sum mg kd (rs.map (·.x))) :: F) := by unfold Bok.book; rw [HS.out]; exact h8.sb
     clear h7 h8
     go_wp2_with fail
     go_ret2
     exact ⟨_, rfl, v8, rfl, h9⟩
end
section
variable {P : Program} {w w' : World} {ops : Array Oper} {rest : List Oper} {a : Act} {Q : Exit → Act → World → Prop} {dst : Option Tmp} {t ty : TypeId} {pos : String} {after : Array Edge} {n : Nat} {xs : Array (Nat × Operand)} {v : Value}
theorem at_bsl (h : Stop (wpList P ops Q (⟨dst, .buildSlice ty n xs, t, pos, after, none⟩ :: rest) a w)) : wpList P ops Q (⟨dst, .buildSlice ty n xs, t, pos, after, none⟩ :: rest) a w := h.out
theorem wl_bsl (parts' : Array (Nat × Value)) (he : xs.map (fun p => (p.1, a.eval p.2)) = parts') (hr : (Instr.buildSlice ty n parts').run P w = .ok v w') (h : wpList P ops Q rest (a.put dst v) w') : wpList P ops Q (⟨dst, .buildSlice ty n xs, t, pos, after, none⟩ :: rest) a w :=
 wpList_plain rfl fun _ hK => by
  unfold Oper.wp execOp
  simp only [he, Sem.run_bind, hr, Result.andThen_ok, Sem.run_pure]
  exact hK _ _ h
end
section
variable {w0 w : World} {F : List HProp}
set_option maxRecDepth 20000 in
theorem useRow_c (a b c : Int) (h : Sat w0 w F) : Calls Tryz.prog 129 #[.agg #[.int .i64 a, .int .i64 b, .int .i64 c]] w
  (Rtn fun v w' => ∃ q, v = .agg (rvL ⟨⟨Frm.zero32, [a, b, c]⟩, .slice (some ⟨q, 0, none⟩) 3 3⟩).toArray ∧ Sat w0 w' (pt q (.cells #[.int .i64 a, .int .i64 b, .int .i64 c] 3 (0,0)) :: F)) := by
 have hbs : ∀ w, (Instr.buildSlice 42 3 #[(0, .int .i64 a), (1, .int .i64 b), (2, .int .i64 c)]).run Tryz.prog w = .ok (.slice (some ⟨w.heap.size, 0, none⟩) 3 3) (w.alloc (.cells #[.int .i64 a, .int .i64 b, .int .i64 c] 3)) := fun w => by kernel_rfl
 have hrow : ∀ w q, (Instr.build 202 #[(1, .slice (some ⟨q, 0, none⟩) 3 3)]).run Tryz.prog w = .ok (.agg (rvL ⟨⟨Frm.zero32, [a, b, c]⟩, .slice (some ⟨q, 0, none⟩) 3 3⟩).toArray) w := fun w q => by kernel_rfl
 go_enter Tryz.func129, Tryz.ntmps129
 go_wp2_with (with_reducible apply at_box)
 refine ⟨?_⟩
 refine wl_box h rFz rFz ?_
 intro b1 w1 h1
 go_wp2_with (with_reducible apply at_alloc)
 refine ⟨?_⟩
 refine wl_alloc zBRow h1 rfl ?_
 intro b2 w2 h2
 have hS := h2.alloc (.cells #[.int .i64 a, .int .i64 b, .int .i64 c] 3)
 generalize hq : w2.heap.size = q at *
 have hq2 := hq
 go_wp2_with (first
  | ((with_reducible apply at_load); refine ⟨?_⟩; refine wl_load1 h2 rFz pick1 nLz evD kRz ?_)
  | ((with_reducible apply at_store); refine ⟨?_⟩; refine wl_storeA (rvL ⟨⟨Frm.zero32, [a, b, c]⟩, .slice (some ⟨q, 0, none⟩) 3 3⟩).toArray hS rFz rFz rFz upd1 kRz rFz ?_; intro w9 h9))
 refine ⟨rfl, _, res_cell rfl h9 rFz pkD Tryz.underlying202 rfl kRz, ?_⟩
 exact ⟨_, rfl, q, rfl, h9.sb⟩
theorem plBRow : placesB Tryz.prog 202 = some [(0, 32), (32, 1)] := by kernel_rfl
theorem run_rowK (k : Frm.Bs) (hk : k.length = 32) (x : Bok.Rw) (hx : x.key = k) (nv : Value) (q : Nat) (hnv : nv = .slice (some ⟨q, 0, none⟩) 3 3) (w : World) : (Instr.build 202 #[(0, .agg (bys k).toArray), (1, nv)]).run Tryz.prog w = .ok (.agg (rvL ⟨x, nv⟩).toArray) w := by
 subst hnv; subst hx
 have h := run_build (P := Tryz.prog) [(0, .agg (bys x.key).toArray), (1, .slice (some ⟨q, 0, none⟩) 3 3)] plBRow zBRow (by
  intro p hp
  have hzz : (Value.agg (rvL zeroRV).toArray).cells.size = 33 := by rfl
  rw [hzz]
  rcases List.mem_cons.1 hp with rfl | hp
  ·refine ⟨0, ?_, ?_⟩
   ·show some (0, 32) = some (0, (bys x.key).toArray.size); rw [List.size_toArray, bys_len, hk]
   ·show 0 + (bys x.key).toArray.size ≤ 33
    rw [List.size_toArray, bys_len, hk]; decide
  ·rw [List.mem_singleton.1 hp]
   exact ⟨32, rfl, by show 32 + 1 ≤ 33; omega⟩) w
 refine h.trans ?_
 have hz : Frm.zero32.length = 32 := rfl
 have hzl : (rvL zeroRV).length = 33 := rvL_len _ hz
 have e : putsAt (putsAt (rvL zeroRV).toArray 0 (bys x.key)) 32 [.slice (some ⟨q, 0, none⟩) 3 3] = (rvL ⟨x, .slice (some ⟨q, 0, none⟩) 3 3⟩).toArray := by
  apply putsAt_eq
  rw [puts_putL _ _ _ (by rw [putsAt_size, List.size_toArray, hzl]; exact Nat.le_refl 33), puts_putL _ _ _ (by rw [List.size_toArray, hzl, bys_len, hk]; decide), List.toList_toArray]
  have e1 : putL (rvL zeroRV) 0 (bys x.key) = bys x.key ++ [.slice none 0 0] := by
   unfold rvL zeroRV
   rw [putL_app2 _ _ _ _ (by rw [bys_len, bys_len, hk, hz]; decide), putL_all (by rw [bys_len, bys_len, hk, hz])]
  have h0 := putL_app (bys x.key) [.slice none 0 0] [.slice (some ⟨q, 0, none⟩) 3 3] 0
  rw [bys_len, hk, putL_all (xs := [Value.slice none 0 0]) (vs := [Value.slice (some ⟨q, 0, none⟩) 3 3]) rFz] at h0
  rw [e1]
  exact h0
 exact congrArg (fun x => Result.ok (Value.agg x) w) e
set_option maxRecDepth 20000 in
theorem idxRow_c (k : Frm.Bs) (hk : k.length = 32) (a b c : Int) (h : Sat w0 w F) : Calls Tryz.prog 125 #[.agg (bys k ++ [Value.int .i64 a, Value.int .i64 b, Value.int .i64 c]).toArray] w
  (Rtn fun v w' => ∃ q, v = .agg (rvL ⟨⟨k, [a, b, c]⟩, .slice (some ⟨q, 0, none⟩) 3 3⟩).toArray ∧ Sat w0 w' (pt q (.cells #[.int .i64 a, .int .i64 b, .int .i64 c] 3 (0,0)) :: F)) := by
 have hbs : ∀ w, (Instr.buildSlice 42 3 #[(0, .int .i64 a), (1, .int .i64 b), (2, .int .i64 c)]).run Tryz.prog w = .ok (.slice (some ⟨w.heap.size, 0, none⟩) 3 3) (w.alloc (.cells #[.int .i64 a, .int .i64 b, .int .i64 c] 3)) := fun w => by kernel_rfl
 have hrow : ∀ w q, (Instr.build 202 #[(0, .agg (bys k).toArray), (1, .slice (some ⟨q, 0, none⟩) 3 3)]).run Tryz.prog w = .ok (.agg (rvL ⟨⟨k, [a, b, c]⟩, .slice (some ⟨q, 0, none⟩) 3 3⟩).toArray) w := fun w q => run_rowK k hk ⟨k, [a, b, c]⟩ rfl _ q rfl w
 have hsz : (bys k ++ [Value.int .i64 a, Value.int .i64 b, Value.int .i64 c]).toArray.size = 35 := by rw [List.size_toArray, List.length_append, bys_len, hk]; rfl
 have hat : ∀ j v, ([Value.int .i64 a, Value.int .i64 b, Value.int .i64 c] : List Value)[j]? = some v → (bys k ++ [Value.int .i64 a, Value.int .i64 b, Value.int .i64 c]).toArray.getD (32 + j) undef = v := fun j v hj => by
  rw [Array.getD_eq_getD_getElem?, List.getElem?_toArray, List.getElem?_append_right (by rw [bys_len, hk]; omega), bys_len, hk, Nat.add_sub_cancel_left, hj]; rfl
 have hki : (Tryz.prog.info? 24).map (·.size) = some (bys k).length := by rw [bys_len, hk]; kernel_rfl
 go_enter Tryz.func125, Tryz.ntmps125
 go_wp2_with (with_reducible apply at_box)
 refine ⟨?_⟩
 refine wl_box h rFz rFz ?_
 intro b1 w1 h1
 go_wp2_with (with_reducible apply at_alloc)
 refine ⟨?_⟩
 refine wl_alloc zBRow h1 rfl ?_
 intro b2 w2 h2
 replace h2 : Sat w0 w2 (pt b2 (.cells (rvL zeroRV).toArray 202 (0,0)) :: pt b1 (.cells (bys k ++ [Value.int .i64 a, Value.int .i64 b, Value.int .i64 c]).toArray 149 (0,0)) :: F) := h2
 have hS := h2.alloc (.cells #[.int .i64 a, .int .i64 b, .int .i64 c] 3)
 have hrs : ∀ q, (rvL ⟨⟨k, [a, b, c]⟩, .slice (some ⟨q, 0, none⟩) 3 3⟩).toArray.size = 33 := fun q => rvS _ hk
 go_wp2_with (first
  | ((with_reducible apply at_load); refine ⟨?_⟩; first
   | refine wl_loadN (o := 0) (bys k) h2 rFz pick1 (fun j v hj => by rw [Nat.zero_add, List.getElem?_toArray, List.getElem?_append_left (List.getElem?_eq_some_iff.1 hj).1]; exact hj) Tryz.underlying24 rfl hki ?_
   | refine wl_load1 (o := 32) h2 rFz pick1 (by show 33 ≤ (bys k ++ _).toArray.size; rw [hsz]; decide) (hat 0 _ rfl) kRz ?_
   | refine wl_load1 (o := 33) h2 rFz pick1 (by show 34 ≤ (bys k ++ _).toArray.size; rw [hsz]; decide) (hat 1 _ rfl) kRz ?_
   | refine wl_load1 (o := 34) h2 rFz pick1 (by show 35 ≤ (bys k ++ _).toArray.size; rw [hsz]; decide) (hat 2 _ rfl) kRz ?_)
  | (with_reducible apply at_bsl))
 refine ⟨?_⟩
 refine wl_bsl #[(0, .int .i64 a), (1, .int .i64 b), (2, .int .i64 c)] (by simp only [List.map_toArray, List.map_cons, List.map_nil]; rfl) (hbs _) ?_
 generalize hq : w2.heap.size = q at *
 go_wp2_with (with_reducible apply at_buildC)
 refine ⟨?_⟩
 refine wl_buildC #[(0, .agg (bys k).toArray), (1, .slice (some ⟨q, 0, none⟩) 3 3)] (by simp only [List.map_toArray, List.map_cons, List.map_nil]; rfl) (fun w => hrow w q) ?_
 go_wp2_with (with_reducible apply at_store)
 refine ⟨?_⟩
 refine wl_storeA (rvL ⟨⟨k, [a, b, c]⟩, .slice (some ⟨q, 0, none⟩) 3 3⟩).toArray hS rFz rFz (by rw [hrs q]; rfl) upd1 (by rw [hrs q]; kernel_rfl) (by unfold rvL; rw [List.toList_toArray, List.all_append, bys_ones]; rfl) ?_
 intro w9 h9
 go_wp2_with fail
 refine ⟨rfl, _, res_cell rfl h9 rFz pkD Tryz.underlying202 rfl (by rw [hrs q]; kernel_rfl), ?_⟩
 exact ⟨_, rfl, _, rfl, h9.sb⟩
end
def TabMA (p : Nat) (m : Frm.Bs → Option (Rep.Abt)) (B : Nat) : HProp := fun h => ∃ (t : Tab.Tb (Rep.Abt)) (sv : Value), (t.Ok ∧ t.Is m ∧ t.n + t.gone ≤ B) ∧ stars [tbPt p 184 sv t.n t.gone, osl 256 38 sv (t.slots.flatMap (slotL aenc))] h
theorem zValA : zeroB Tryz.prog 109 = some (.agg (aenc ⟨0, Seg.Plc.zero, 0⟩).toArray) := by kernel_rfl
section
variable {w0 w : World} {F R : List HProp} {p B : Nat} {sv v : Value} {k : Frm.Bs} {m : Frm.Bs → Option (Rep.Abt)} {t : Tab.Tb (Rep.Abt)}
theorem TabMA.open (h : Sat w0 w (TabMA p m B :: F)) : ∃ (t : Tab.Tb (Rep.Abt)) (sv : Value), (t.Ok ∧ t.Is m ∧ t.n + t.gone ≤ B) ∧ Sat w0 w (tbPt p 184 sv t.n t.gone :: osl 256 38 sv (t.slots.flatMap (slotL aenc)) :: F) := by
 obtain ⟨ha, x, hx, q, r, dd, rfl, ⟨t, sv, hin, hp⟩, hq⟩ := h
 refine ⟨t, sv, hin, ha, _, hx, ?_⟩
 show stars ([tbPt p 184 sv t.n t.gone, osl 256 38 sv (t.slots.flatMap (slotL aenc))] ++ F) _
 rw [stars_append]
 exact ⟨q, r, dd, rfl, hp, hq⟩
theorem TabMA.shut (h1 : t.Ok) (h2 : t.Is m) (h3 : t.n + t.gone ≤ B) (h : Sat w0 w (tbPt p 184 sv t.n t.gone :: osl 256 38 sv (t.slots.flatMap (slotL aenc)) :: F)) : Sat w0 w (TabMA p m B :: F) :=
 Sat.join (M := [tbPt p 184 sv t.n t.gone, osl 256 38 sv (t.slots.flatMap (slotL aenc))]) h fun _ hx => ⟨t, sv, ⟨h1, h2, h3⟩, hx⟩
theorem newA_c (h : Sat w0 w F) : Calls Tryz.prog 54 #[] w (Rtn fun v w' => ∃ p, v = ptr p ∧ Sat w0 w' (TabMA p (fun _ => none) 0 :: F)) := by
 go_enter Tryz.func54, Tryz.ntmps54
 go_wp2_with (first
  | ((with_reducible apply at_make); refine ⟨?_⟩; refine wl_makeN (e := 256) (sz := 38) (by' := 80) (n := 8) kRz zSlotA h rFz rFz dCz dCz ?_; intro bM wM hM)
  | ((with_reducible apply at_box); refine ⟨?_⟩; refine wl_box hM evD evD ?_; intro bB wB hB))
 go_ret
 refine ⟨_, rfl, bB, rfl, ?_⟩
 have e : (List.replicate 8 (slotL aenc ⟨0, Frm.zero32, ⟨0, Seg.Plc.zero, 0⟩⟩)).flatten = (List.replicate 8 (⟨0, Frm.zero32, ⟨0, Seg.Plc.zero, 0⟩⟩ : Tab.Slot (Rep.Abt))).flatMap (slotL aenc) := (rows_rep 8 _).symm
 rw [e] at hB
 exact TabMA.shut (t := ⟨List.replicate 8 ⟨0, Frm.zero32, ⟨0, Seg.Plc.zero, 0⟩⟩, 0, 0⟩) (Tab.new_ok dCz rfl) (Tab.new_is rfl 0 0) (Nat.le_refl 0) hB
set_option maxRecDepth 20000 in
theorem getA_c (hB : B ≤ 268435000) (hk : k.length = 32) (h : Sat w0 w (TabMA p m B :: F)) :
  Calls Tryz.prog 117 #[ptr p, .agg (bys k).toArray] w (Rtn fun v w' => v = .tuple #[.agg (aenc ((m k).getD ⟨0, Seg.Plc.zero, 0⟩)).toArray, .bool (m k).isSome] ∧ Sat w0 w' (TabMA p m B :: F)) := by
 obtain ⟨t, sv, ⟨ok, is, hb⟩, hR⟩ := TabMA.open h
 obtain ⟨d, he⟩ := ok.ends k
 have hsz : t.slots.length ≤ 1073741824 := by have := ok.size; omega
 have Hlen := Lib.hid (show ∀ x ∈ t.slots, (slotL aenc x).length = 38 from fun x hx => slotL_len aenc x (ok.good.key x hx) 5 (aenc_len _))
 obtain ⟨la, lc, rfl⟩ := osl_rows Hlen.out (Sat.rd (hR.pick pick1)) dCz
 have Hk := Lib.hid hk; have Hok := Lib.hid ok; have His := Lib.hid is; have Hb := Lib.hid hb; have He := Lib.hid he; have Hsz := Lib.hid hsz
 have Hp0 := Lib.hid ok.good.pos_len
 clear h hk ok is hb he hsz hB
 go_enter Tryz.func117, Tryz.ntmps117
 go_wp2_with (first | ((with_reducible apply at_box); refine ⟨?_⟩; refine wl_box (by assumption) evD evD ?_; intro bB wB hB) | (with_reducible apply at_alloc))
 refine ⟨?_⟩
 refine wl_alloc zValA hB rfl ?_
 intro b4 w4 hS4
 go_wp2_with (with_reducible apply at_alloc)
 refine ⟨?_⟩
 refine wl_alloc zValA hS4 rfl ?_
 intro b6 w6 hS6
 have hR6 : Sat w0 w6 (tbPt p 184 (.slice la t.slots.length lc) t.n t.gone :: pt b6 (.cells (aenc ⟨0, Seg.Plc.zero, 0⟩).toArray 109 (0,0)) :: pt b4 (.cells (aenc ⟨0, Seg.Plc.zero, 0⟩).toArray 109 (0,0)) :: pt bB (.cells (bys k).toArray 24 (0,0)) :: osl 256 38 (.slice la t.slots.length lc) (t.slots.flatMap (slotL aenc)) :: F) := hS6.sb
 clear hB hS4 hS6 hR
 go_wp2_with fail
 refine (okA_c Hp0.out hR6).mono ?_
 rintro ee w7 ⟨v, rfl, rfl, rfl⟩
 go_wp2_with ((with_reducible apply at_load); refine ⟨?_⟩; refine wl_loadA hR6 rFz (pick_there (pick_there (pick_there pick0))) Tryz.underlying24 rfl (by rw [List.size_toArray, bys_len, Hk.out]; kernel_rfl) ?_)
 have hf := findA_c Hok.out.good Hsz.out Hk.out He.out (hR6.sb : Sat w0 w6 (tbPt p 184 (.slice la t.slots.length lc) t.n t.gone :: osl 256 38 (.slice la t.slots.length lc) (t.slots.flatMap (slotL aenc)) :: pt b6 (.cells (aenc ⟨0, Seg.Plc.zero, 0⟩).toArray 109 (0,0)) :: pt b4 (.cells (aenc ⟨0, Seg.Plc.zero, 0⟩).toArray 109 (0,0)) :: F))
 clear hR6
 refine hf.mono ?_
 rintro ee w8 ⟨v, rfl, x, hx, rfl, hS8⟩
 clear hf
 obtain ⟨m1, m2⟩ := His.out.some Hok.out He.out hx
 have hxm := List.mem_of_getElem? hx
 have hxk := Hok.out.good.key x hxm
 obtain ⟨bk, off, c', hsv, hcell⟩ := osl_row Hlen.out (Sat.rd (hS8.pick pick1)) hx dCz
 cases hsv
 have hlt := Tab.pos_lt (k := k) (d := d) Hp0.out
 have hval : ∀ j v, (aenc x.val)[j]? = some v → w8.cell? ⟨bk, off + Tab.pos k t.slots.length d * 38 + 33 + j, none⟩ = some v := fun j v hj => by
  rw [Nat.add_assoc _ 33 j]
  exact hcell (33 + j) v (slotL_val aenc x hxk hj)
 clear hcell hx hxm
 generalize Tab.pos k t.slots.length d = P0 at *
 have c0 : (0 : Int) ≤ (P0 : Int) := by omega
 have c1 : (P0 : Int) < (t.slots.length : Int) := by omega
 have e0 : w8.cell? ⟨p, 0, none⟩ = some (.slice (some ⟨bk, off, none⟩) t.slots.length lc) := hS8.cellP pkD 0 rfl
 by_cases h1 : x.st = 1
 ·have hd : decide (x.st = 1) = true := decide_eq_true h1
  have Hm := Lib.hid (m1 h1)
  clear m1 m2 h1
  go_wp2_with (first
   | ((with_reducible apply at_load); refine ⟨?_⟩; refine wl_load1 hS8 rFz pkD nLz evD kRz ?_)
   | ((with_reducible apply at_load); refine ⟨?_⟩; refine wl_loadW (b := bk) (o := off + P0 * 38 + 33) (aenc x.val) rFz hval Tryz.underlying109 rfl kRz ?_)
   | ((with_reducible apply at_store); refine ⟨?_⟩; refine wl_storeA (aenc x.val).toArray hS8 rFz rFz rFz (upd_there (upd_there (upd_there upd0))) kRz rFz ?_; intro w10 hS10))
  refine ⟨rfl, _, res_cell_tmp rfl hS10 rFz pkD Tryz.underlying109 rfl kRz, _, rfl, ?_, TabMA.shut Hok.out His.out Hb.out (hS10.sb)⟩
  rw [Hm.out]; rfl
 ·have hd : decide (x.st = 1) = false := decide_eq_false h1
  have Hm := Lib.hid (m2 h1)
  clear m1 m2 h1
  go_wp2_with (first
   | ((with_reducible apply at_load); refine ⟨?_⟩; refine wl_loadA hS8 rFz (pick_there (pick_there (pick0 (A := pt b6 (.cells (aenc ⟨0, Seg.Plc.zero, 0⟩).toArray 109 (0,0)))))) Tryz.underlying109 rfl kRz ?_)
   | ((with_reducible apply at_store); refine ⟨?_⟩; refine wl_storeA (aenc ⟨0, Seg.Plc.zero, 0⟩).toArray hS8 rFz rFz rFz (upd_there (upd_there (upd_there upd0))) kRz rFz ?_; intro w10 hS10))
  refine ⟨rfl, _, res_cell_tmp rfl hS10 rFz (pick_there (pick_there (pick_there pick0))) Tryz.underlying109 rfl kRz, _, rfl, ?_, TabMA.shut Hok.out His.out Hb.out (hS10.sb)⟩
  rw [Hm.out]; rfl
end
section
variable {w0 w : World} {F R : List HProp} {p B N : Nat} {sv v : Value} {k : Frm.Bs} {m : Frm.Bs → Option (Rep.Abt)} {t : Tab.Tb (Rep.Abt)}
set_option maxRecDepth 20000 in
theorem renewA_c (ok : t.Ok) (hN : t.n ≤ N) (hNb : N ≤ 134217728) (hlen31 : t.slots.length ≤ 1073741824) (h : Sat w0 w (tbPt p 184 sv t.n t.gone :: osl 256 38 sv (t.slots.flatMap (slotL aenc)) :: F)) :
  Calls Tryz.prog 175 #[ptr p, .int .i64 N] w (Rtn fun _ w' => ∃ s' sv', Tab.Renewed t s' N ∧ Sat w0 w' (tbPt p 184 sv' t.n 0 :: osl 256 38 sv' (s'.flatMap (slotL aenc)) :: F)) := by
 have Hok := Lib.hid ok; have HN := Lib.hid hN; have HNb := Lib.hid hNb
 have Hlen := Lib.hid (show ∀ x ∈ t.slots, (slotL aenc x).length = 38 from fun x hx => slotL_len aenc x (ok.good.key x hx) 5 (aenc_len _))
 obtain ⟨la, lc, rfl⟩ := osl_rows Hlen.out (Sat.rd (h.pick pick1)) dCz
 have hw0 : IntKind.i64.wrap (2 * (N : Int)) = 2 * (N : Int) := IntWalk.i64_in _ (by omega)
 have hw0b : wrap64 (2 * (N : Int)) = 2 * (N : Int) := IntWalk.wrap64_in _ (by omega)
 clear ok hN
 go_enter Tryz.func175, Tryz.ntmps175
 go_wp2_with fail
 go_loopg [4] (4 * N) (fun g cq wr => ∃ c : Nat, g = 4 * N + 8 - c ∧ cq = .int .i64 c ∧ (∃ j, c = 2 ^ j ∧ 3 ≤ j) ∧ 8 ≤ c ∧ (c = 8 ∨ c < 4 * N) ∧ wr = w)
 case atStart => exact ⟨8, by omega, rfl, ⟨3, rfl, Nat.le_refl 3⟩, Nat.le_refl 8, .inl rfl, rfl⟩
 case round =>
  obtain ⟨c, rfl, rfl, ⟨j, hj, hj3⟩, hc8, hc, rfl⟩ := hrel
  by_cases hlt : c < 2 * N
  ·have c1 : (c : Int) < 2 * (N : Int) := by omega
   have hw1 : IntKind.i64.wrap ((c : Int) * 2) = (c : Int) * 2 := IntWalk.i64_in _ (by omega)
   have hw1b : wrap64 ((c : Int) * 2) = (c : Int) * 2 := IntWalk.wrap64_in _ (by omega)
   have Hj := Lib.hid hj; have Hj3 := Lib.hid hj3; have Hlt := Lib.hid hlt; have Hc8 := Lib.hid hc8
   clear hj hj3 hlt hc hc8
   go_wp2_with fail
   go_roundg (4 * N + 8 - c * 2)
   case measure => have := Hlt.out; have := Hc8.out; omega
   case rel => exact ⟨c * 2, rfl, by first | rfl | go_num, ⟨j + 1, by rw [Nat.pow_succ, Hj.out], by have := Hj3.out; omega⟩, by have := Hc8.out; omega, .inr (by have := Hlt.out; omega), rfl⟩
  ·have c1 : ¬ (c : Int) < 2 * (N : Int) := by omega
   have HC := Lib.hid (show (∃ j, c = 2 ^ j ∧ 3 ≤ j) ∧ 2 * N ≤ c ∧ 8 ≤ c ∧ (c = 8 ∨ c < 4 * N) from ⟨⟨j, hj, hj3⟩, by omega, hc8, hc⟩)
   have hcb : c ≤ 1073741824 := by omega
   have Hcb := Lib.hid hcb
   clear hj hj3 hlt hc hc8 hw0 hcb hNb
   go_wp2_with (first
    | ((with_reducible apply at_load); refine ⟨?_⟩; refine wl_load1 h rFz pkD nLz evD kRz ?_)
    | ((with_reducible apply at_make); refine ⟨?_⟩; refine wl_makeN (e := 256) (sz := 38) (by' := 80) (n := c) kRz zSlotA h rFz rFz (by have := Hcb.out; omega) (by have := Hcb.out; omega) ?_; intro bM wM hM)
    | ((with_reducible apply at_store); refine ⟨?_⟩; refine wl_store (by assumption) rFz evD (by first | (simp only [putsAt, Value.cells]; (try go_frame); first | done | rfl) | rfl) upD nLz kRz rFz ?_; intro wS hS))
   have e8 : (List.replicate c (slotL aenc ⟨0, Frm.zero32, ⟨0, Seg.Plc.zero, 0⟩⟩)).flatten = (List.replicate c (⟨0, Frm.zero32, ⟨0, Seg.Plc.zero, 0⟩⟩ : Tab.Slot (Rep.Abt))).flatMap (slotL aenc) := (rows_rep c _).symm
   rw [e8] at hS
   have hS0 : Sat w0 _ (tbPt p 184 (.slice (some ⟨bM, 0, none⟩) c c) t.n 0 :: osl 256 38 (.slice (some ⟨bM, 0, none⟩) c c) ((List.replicate c (⟨0, Frm.zero32, ⟨0, Seg.Plc.zero, 0⟩⟩ : Tab.Slot (Rep.Abt))).flatMap (slotL aenc)) :: osl 256 38 (.slice la t.slots.length lc) (t.slots.flatMap (slotL aenc)) :: F) := hS.sb
   clear hS hM h e8 c1
   go_wp2_with fail
   go_loopg [31] t.slots.length (fun g iq wr => ∃ (i : Nat) (cur : List (Tab.Slot (Rep.Abt))), g = t.slots.length - i ∧ i ≤ t.slots.length ∧ iq = .int .i64 i ∧ Tab.Half t.slots cur i ∧ cur.length = c ∧
    Sat w0 wr (tbPt p 184 (.slice (some ⟨bM, 0, none⟩) c c) t.n 0 :: osl 256 38 (.slice (some ⟨bM, 0, none⟩) c c) (cur.flatMap (slotL aenc)) :: osl 256 38 (.slice la t.slots.length lc) (t.slots.flatMap (slotL aenc)) :: F))
   case atStart => exact ⟨0, _, rfl, Nat.zero_le _, rfl, Tab.half_start HC.out.1 dCz rfl, List.length_replicate, hS0⟩
   case round =>
    obtain ⟨i, cur, rfl, hi, rfl, hH, hcl, hS⟩ := hrel
    clear hS0
    have HH := Lib.hid hH; have Hcl := Lib.hid hcl
    by_cases hlt : i < t.slots.length
    rotate_left
    ·obtain rfl : i = t.slots.length := by omega
     have c1 : ¬ (t.slots.length : Int) < (t.slots.length : Int) := by omega
     clear hlt hH hi
     go_wp2_with fail
     go_end0
     obtain ⟨q1, q2, q3, q4⟩ := HH.out.done
     exact ⟨_, rfl, cur, ⟨q1, q2, q3.trans Hok.out.n.symm, q4.trans Hok.out.n.symm, by rw [Hcl.out]; exact HC.out.2.1, by rw [Hcl.out]; exact HC.out.2.2.1, by rw [Hcl.out]; exact HC.out.2.2.2⟩, _, hS.sb⟩
    have c1 : (i : Int) < (t.slots.length : Int) := by omega
    have hwi : IntKind.i64.wrap ((i : Int) + 1) = (i : Int) + 1 := IntWalk.i64_in _ (by omega)
    obtain ⟨x, hx⟩ : ∃ x, t.slots[i]? = some x := ⟨_, List.getElem?_eq_getElem hlt⟩
    have hxm := List.mem_of_getElem? hx
    have hst := Hok.out.good.st x hxm
    have Hxk := Lib.hid (Hok.out.good.key x hxm)
    obtain ⟨bk, off, c', hsv, hcell⟩ := osl_row Hlen.out (Sat.rd (hS.pick pick2)) hx dCz
    cases hsv
    have hl38 := Hlen.out x hxm
    have Hx := Lib.hid hx; have Hlt := Lib.hid hlt
    clear hx hxm hlt hH hi
    go_wp2_with (first
     | ((with_reducible apply at_load); refine ⟨?_⟩; refine wl_loadW (b := bk) (o := off + i * 38) (slotL aenc x) rFz hcell Tryz.underlying256 rfl (by rw [hl38]; kernel_rfl) ?_)
     | (with_reducible apply at_alloc))
    refine ⟨?_⟩
    refine wl_alloc zSlotA hS rfl ?_
    intro b7 w7 hS7
    go_wp2_with (first | ((with_reducible apply at_store); refine ⟨?_⟩; refine wl_storeA (slotL aenc x).toArray hS7 rFz rFz (by rw [List.size_toArray, hl38]; rfl) upd0 (by rw [List.size_toArray, hl38]; kernel_rfl) (by rw [List.toList_toArray]; exact slotL_ones aenc x (aenc_ones _)) ?_; intro w10 hS10) | (with_reducible apply at_load))
    refine ⟨?_⟩
    clear hS hS7 hcell
    have f0 : w10.cell? ⟨b7, 0, none⟩ = some (.int .i64 x.st) := hS10.cellP pick0 0 (by rw [List.getElem?_toArray]; rfl)
    have f1 : w10.rangeAt b7 1 (bys x.key) := slot_key (hS10.pick pick0)
    by_cases h1 : x.st = 1
    rotate_left
    ·have hst1 : ((x.st : Int) == 1) = false := by rw [beq_eq_false_iff_ne]; omega
     have H1 := Lib.hid h1
     clear h1 f1
     go_wp2_with fail
     go_roundg (t.slots.length - (i + 1))
     case measure => have := Hlt.out; omega
     case rel => exact ⟨i + 1, cur, rfl, Hlt.out, by first | rfl | go_num, HH.out.skip Hx.out H1.out, Hcl.out, hS10.sb⟩
    ·have hus : Tab.used cur < cur.length := by
      have h2 := HH.out.nu
      have h3 := Tab.fulls_take_le t.slots i
      have h4 := Hok.out.n
      have h5 := HN.out
      have h6 := HC.out
      rw [Hcl.out]; omega
     obtain ⟨dd, hdd⟩ := Tab.ends_of (k := x.key) HH.out.good (Tab.free_of hus)
     have H1 := Lib.hid h1; have Hdd := Lib.hid hdd
     have hst1 : ((x.st : Int) == 1) = true := by rw [h1]; rfl
     have Hcl38 := Lib.hid (show ∀ y ∈ cur, (slotL aenc y).length = 38 from fun y hy => slotL_len aenc y (HH.out.good.key y hy) 5 (aenc_len _))
     clear h1 hus hdd
     go_wp2_with ((with_reducible apply at_load); refine ⟨?_⟩; refine wl_loadW (b := b7) (o := 1) (bys x.key) rFz f1 Tryz.underlying24 rfl (by rw [bys_len, Hxk.out]; kernel_rfl) ?_)
     have hf := findA_c HH.out.good (by rw [Hcl.out]; exact Hcb.out) Hxk.out Hdd.out (hS10.sb : Sat w0 w10 (tbPt p 184 (.slice (some ⟨bM, 0, none⟩) c c) t.n 0 :: osl 256 38 (.slice (some ⟨bM, 0, none⟩) c c) (cur.flatMap (slotL aenc)) :: pt b7 (.cells (slotL aenc x).toArray 256 (0,0)) :: osl 256 38 (.slice (some ⟨bk, off, none⟩) t.slots.length lc) (t.slots.flatMap (slotL aenc)) :: F))
     clear hS10 f0 f1
     refine hf.mono ?_
     rintro ee w11 ⟨v, rfl, y, hy, rfl, hS11⟩
     clear hf hy
     have hlt2 := Tab.pos_lt (k := x.key) (d := dd) HH.out.good.pos_len
     rw [Hcl.out] at hlt2
     have Hset := Lib.hid (rows_set (f := slotL aenc) (k := 38) (i := Tab.pos x.key cur.length dd) (x := x) Hcl38.out hl38 (Tab.pos_lt HH.out.good.pos_len))
     have Hst2 := Lib.hid (HH.out.step Hok.out.good Hx.out H1.out Hdd.out)
     rw [Hcl.out] at Hset Hst2
     rw [Hcl.out]
     have hrl : (cur.flatMap (slotL aenc)).length = 38 * c := by rw [rows_len Hcl38.out, Hcl.out]
     generalize Tab.pos x.key c dd = P0 at *
     have c2 : (0 : Int) ≤ (P0 : Int) := by omega
     have c3 : (P0 : Int) < (c : Int) := by omega
     go_wp2_with fail
     have hSd := hS11.drew
     clear hS11
     refine wpL_begin [6, 7] (fun w' => w'.cell? ⟨p, 0, none⟩ = some (.slice (some ⟨bM, 0, none⟩) c c) ∧ w'.rangeAt b7 0 (slotL aenc x)) kRz ?_
     have hG : World.cell? _ ⟨p, 0, none⟩ = some (.slice (some ⟨bM, 0, none⟩) c c) ∧ World.rangeAt _ b7 0 (slotL aenc x) := ⟨hSd.cellP pkD 0 rfl, pt_rangeL (hSd.pk (A := pt b7 (.cells (slotL aenc x).toArray 256 (0,0))))⟩
     refine rp 0 (hy := (yl_move evD)) (h := ?_)
     refine rp 1 (hy := (yl_nil evD)) (h := ?_)
     refine rp 2 (hy := (yl_field evD rnD)) (h := ?_)
     refine rt 3 (h := ?_)
     refine rp 4 (hy := (yl_move evD)) (h := ?_)
     refine rg_take 5 evD kRz i3z (tk_loadN (b := b7) (o := 0) (slotL aenc x) rFz Tryz.underlying256 rfl (by rw [hl38]; kernel_rfl) (fun w hw => hw.2)) (by assumption) (by go_frame; first | done | rfl) ?_
     refine rp 6 (hy := (yl_index evD evD rnD)) (h := ?_)
     clear hG
     refine rg_eff 7 evD kRz (fun K hK => ?_)
     refine eff_storeSN (vs := slotL aenc x) (P0 * 38) hSd evD evD rfl (upd_there upd0) (by rw [hl38, hrl]; omega) (by rw [hl38]; kernel_rfl) (slotL_ones aenc x (aenc_ones _)) ?_
     intro w12 hS12
     refine hK _ _ (.inl rfl) ?_
     clear hK hSd
     refine wpL_done kRz ?_
     try simp only [List.getElem_toArray, List.getElem_cons_succ, List.getElem_cons_zero]
     try go_frame
     rw [← Hset.out] at hS12
     go_wp2_with fail
     go_roundg (t.slots.length - (i + 1))
     case measure => have := Hlt.out; omega
     case rel => exact ⟨i + 1, _, rfl, Hlt.out, by first | rfl | go_num, Hst2.out, by rw [List.length_set]; exact Hcl.out, hS12.sb⟩
end
theorem run_slotA (k : Frm.Bs) (hk : k.length = 32) (v : Rep.Abt) (w : World) :
  (Instr.build 256 #[(0, .int .i64 1), (1, .agg (bys k).toArray), (2, .agg (aenc v).toArray)]).run Tryz.prog w = .ok (.agg (slotL aenc ⟨1, k, v⟩).toArray) w := by
 have hbk : (bys k).toArray.size = 32 := by rw [List.size_toArray, bys_len, hk]
 refine (run_build (P := Tryz.prog) [(0, .int .i64 1), (1, .agg (bys k).toArray), (2, .agg (aenc v).toArray)] plSlotA zSlotA (by
  intro p' hp
  simp only [List.mem_cons, List.not_mem_nil, or_false] at hp
  have hzz : (Value.agg (slotL aenc (⟨0, Frm.zero32, ⟨0, Seg.Plc.zero, 0⟩⟩ : Tab.Slot (Rep.Abt))).toArray).cells.size = 38 := by
   show (slotL aenc (⟨0, Frm.zero32, ⟨0, Seg.Plc.zero, 0⟩⟩ : Tab.Slot (Rep.Abt))).toArray.size = 38
   rw [List.size_toArray, slotL_len aenc _ dCz 5 rfl]
  rw [hzz]
  rcases hp with rfl | rfl | rfl
  ·exact ⟨0, rfl, by show 0 + 1 ≤ 38; omega⟩
  ·refine ⟨1, ?_, ?_⟩
   ·show some (1, 32) = some (1, (bys k).toArray.size); rw [hbk]
   ·show 1 + (bys k).toArray.size ≤ 38; omega
  ·exact ⟨33, rfl, by show 33 + 5 ≤ 38; omega⟩) w).trans ?_
 rw [show (Value.agg (slotL aenc (⟨0, Frm.zero32, ⟨0, Seg.Plc.zero, 0⟩⟩ : Tab.Slot (Rep.Abt))).toArray).cells = (slotL aenc (⟨0, Frm.zero32, ⟨0, Seg.Plc.zero, 0⟩⟩ : Tab.Slot (Rep.Abt))).toArray from rfl, put_slot aenc ⟨0, Frm.zero32, ⟨0, Seg.Plc.zero, 0⟩⟩ k v dCz hk rfl 5 rfl]
section
variable {w0 w : World} {F R : List HProp} {p B : Nat} {sv : Value} {k : Frm.Bs} {m : Frm.Bs → Option (Rep.Abt)}
set_option maxRecDepth 20000 in
theorem putA_c (hB : B ≤ 134217000) (hk : k.length = 32) (v : Rep.Abt) (h : Sat w0 w (TabMA p m B :: F)) :
  Calls Tryz.prog 118 #[ptr p, .agg (bys k).toArray, .agg (aenc v).toArray] w (Rtn fun _ w' => Sat w0 w' (TabMA p (Tab.put m k v) (B + 1) :: F)) := by
 obtain ⟨t, sv, ⟨ok, is, hb⟩, hR⟩ := TabMA.open h
 obtain ⟨d, he⟩ := ok.ends k
 have hsz : t.slots.length ≤ 1073741824 := by have := ok.size; omega
 have Hlen := Lib.hid (show ∀ x ∈ t.slots, (slotL aenc x).length = 38 from fun x hx => slotL_len aenc x (ok.good.key x hx) 5 (aenc_len _))
 obtain ⟨la, lc, rfl⟩ := osl_rows Hlen.out (Sat.rd (hR.pick pick1)) dCz
 have hrl : 0 < (t.slots.flatMap (slotL aenc)).length := by rw [rows_len Hlen.out]; have := ok.good.pos_len; omega
 obtain ⟨bk, rfl⟩ := osl_zero (hR.pick pick1) hrl
 have Hk := Lib.hid hk; have Hok := Lib.hid ok; have His := Lib.hid is; have Hb := Lib.hid hb; have He := Lib.hid he; have Hsz := Lib.hid hsz; have HB := Lib.hid hB
 have Hp0 := Lib.hid ok.good.pos_len
 have Hbs := Lib.hid (show (bys k).length = 32 by rw [bys_len, hk])
 clear h hk ok is hb he hsz hB hrl
 go_enter Tryz.func118, Tryz.ntmps118
 go_wp2_with (with_reducible apply at_box)
 refine ⟨?_⟩
 refine wl_box hR evD evD ?_
 intro b4 w4 hS4
 go_wp2_with (with_reducible apply at_box)
 refine ⟨?_⟩
 refine wl_box hS4 evD evD ?_
 intro b5 w5 hS5
 have hA : Sat w0 w5 (tbPt p 184 (.slice (some ⟨bk, 0, none⟩) t.slots.length lc) t.n t.gone :: osl 256 38 (.slice (some ⟨bk, 0, none⟩) t.slots.length lc) (t.slots.flatMap (slotL aenc)) :: pt b4 (.cells (bys k).toArray 24 (0,0)) :: pt b5 (.cells (aenc v).toArray 109 (0,0)) :: F) := hS5.sb
 clear hR hS4 hS5
 go_wp2_with fail
 refine (okA_c Hp0.out hA).mono ?_
 rintro ee w7 ⟨v', rfl, rfl, rfl⟩
 go_wp2_with ((with_reducible apply at_load); refine ⟨?_⟩; refine wl_loadA hA rFz (pick_there (pick_there (pick0 (A := pt b4 (.cells (bys k).toArray 24 (0,0)))))) Tryz.underlying24 rfl (by rw [List.size_toArray, Hbs.out]; kernel_rfl) ?_)
 have hf := findA_c Hok.out.good Hsz.out Hk.out He.out hA
 clear hA
 refine hf.mono ?_
 rintro ee w8 ⟨v', rfl, x, hx, rfl, hS8⟩
 clear hf
 have hlt := Tab.pos_lt (k := k) (d := d) Hp0.out
 by_cases h1 : x.st = 1
 ·have hd : decide (x.st = 1) = true := decide_eq_true h1
  have hxm := List.mem_of_getElem? hx
  have Hrow := Lib.hid (rows_part (f := slotL aenc) (k := 38) (o := 33) (x' := ⟨x.st, x.key, v⟩) (vs := aenc v) Hlen.out hx (slotL_setv aenc x v (Hok.out.good.key x hxm) rfl) (by show 33 + 5 ≤ 38; decide))
  have Hok2 := Lib.hid (Tab.put_old_ok Hok.out He.out hx h1 v)
  have His2 := Lib.hid (Tab.is_put His.out (Tab.put_found Hok.out.good He.out hx h1 v).2 t.n t.gone)
  have hrl : (t.slots.flatMap (slotL aenc)).length = 38 * t.slots.length := rows_len Hlen.out
  clear hx hxm h1
  generalize Tab.pos k t.slots.length d = P0 at *
  have c0 : (0 : Int) ≤ (P0 : Int) := by omega
  have c1 : (P0 : Int) < (t.slots.length : Int) := by omega
  go_wp2_with fail
  have hSd := hS8.drew
  clear hS8
  refine wpL_begin [6, 7, 8] (fun w' => w'.cell? ⟨p, 0, none⟩ = some (.slice (some ⟨bk, 0, none⟩) t.slots.length lc) ∧ w'.rangeAt b5 0 (aenc v)) kRz ?_
  have hG : World.cell? _ ⟨p, 0, none⟩ = some (.slice (some ⟨bk, 0, none⟩) t.slots.length lc) ∧ World.rangeAt _ b5 0 (aenc v) := ⟨hSd.cellP pkD 0 rfl, pt_rangeL (hSd.pk (A := pt b5 (.cells (aenc v).toArray 109 (0,0))))⟩
  refine rp 0 (hy := (yl_move evD)) (h := ?_)
  refine rp 1 (hy := (yl_nil evD)) (h := ?_)
  refine rp 2 (hy := (yl_field evD rnD)) (h := ?_)
  refine rt 3 (h := ?_)
  refine rp 4 (hy := (yl_move evD)) (h := ?_)
  refine rg_take 5 evD kRz i3z (tk_loadN (b := b5) (o := 0) (aenc v) rFz Tryz.underlying109 rfl kRz (fun w hw => hw.2)) (by assumption) (by go_frame; first | done | rfl) ?_
  refine rp 6 (hy := (yl_index evD evD rnD)) (h := ?_)
  refine rp 7 (hy := (yl_field evD rnD)) (h := ?_)
  clear hG
  refine rg_eff 8 evD kRz (fun K hK => ?_)
  refine eff_storeSN (vs := aenc v) (P0 * 38 + 33) hSd evD evD rfl (upd_there upd0) (by rw [hrl]; show P0 * 38 + 33 + 5 ≤ _; omega) kRz rFz ?_
  intro w12 hS12
  refine hK _ _ (.inl rfl) ?_
  clear hK hSd
  refine wpL_done kRz ?_
  try simp only [List.getElem_toArray, List.getElem_cons_succ, List.getElem_cons_zero]
  try go_frame
  rw [← Hrow.out] at hS12
  go_wp2_with fail
  go_end0
  exact ⟨_, rfl, TabMA.shut (sv := .slice (some ⟨bk, 0, none⟩) t.slots.length lc) Hok2.out His2.out (Nat.le_succ_of_le Hb.out) (hS12.sb)⟩
 have hd : decide (x.st = 1) = false := decide_eq_false h1
 have hb4 := Hb.out
 have hB4 := HB.out
 have hsz4 := Hsz.out
 obtain ⟨hA1, hA2, hA3, hA4, hA1b, hA2b, hA3b, hA4b, hA5⟩ := wraps4 t.n t.gone t.slots.length (by omega) hsz4
 have Hx := Lib.hid hx; have H1 := Lib.hid h1
 clear hx h1 hb4 hB4 hsz4
 go_wp2_with fail
 have hSd := hS8.drew
 clear hS8
 have e0 : World.cell? _ ⟨p, 0, none⟩ = some (.slice (some ⟨bk, 0, none⟩) t.slots.length lc) := hSd.cellP pkD 0 rfl
 have e1 : World.cell? _ ⟨p, 1, none⟩ = some (.int .i64 t.n) := hSd.cellP pkD 1 rfl
 have e2 : World.cell? _ ⟨p, 2, none⟩ = some (.int .i64 t.gone) := hSd.cellP pkD 2 rfl
 go_region
 have hcmp : 3 * t.slots.length < 4 * (t.n + t.gone + 1) ∨ 4 * (t.n + t.gone + 1) ≤ 3 * t.slots.length := by omega
 rcases hcmp with hcmp | hcmp
 focus
  have hci : (3 : Int) * (t.slots.length : Int) < 4 * ((t.n : Int) + (t.gone : Int) + 1) := by omega
  have hrn := renewA_c (N := t.n + 1) Hok.out (Nat.le_succ _) (by have := Hb.out; have := HB.out; omega) Hsz.out hSd
  rw [show (((t.n + 1 : Nat)) : Int) = (t.n : Int) + 1 by omega] at hrn
  clear hSd e0 e2
  go_wp2_with fail
  refine hrn.mono ?_
  rintro ee w9 ⟨v', rfl, s', sv', hren, hS9⟩
  clear hrn e1 hci hcmp
  have hok1 := hren.ok
  have his1 := hren.is His.out t.n 0
  have hld1 : 4 * ((⟨s', t.n, 0⟩ : Tab.Tb (Rep.Abt)).n + (⟨s', t.n, 0⟩ : Tab.Tb (Rep.Abt)).gone + 1) ≤ 3 * (⟨s', t.n, 0⟩ : Tab.Tb (Rep.Abt)).slots.length := by have := hren.lo; simp only; omega
  have hb1 : (⟨s', t.n, 0⟩ : Tab.Tb (Rep.Abt)).n + (⟨s', t.n, 0⟩ : Tab.Tb (Rep.Abt)).gone ≤ B := by have := Hb.out; simp only; omega
  have hS10 : Sat w0 w9 (tbPt p 184 sv' (⟨s', t.n, 0⟩ : Tab.Tb (Rep.Abt)).n (⟨s', t.n, 0⟩ : Tab.Tb (Rep.Abt)).gone :: osl 256 38 sv' ((⟨s', t.n, 0⟩ : Tab.Tb (Rep.Abt)).slots.flatMap (slotL aenc)) :: pt b4 (.cells (bys k).toArray 24 (0,0)) :: pt b5 (.cells (aenc v).toArray 109 (0,0)) :: F) := hS9
  clear hS9 hren hA1 hA2 hA3 hA4 hA1b hA2b hA3b hA4b hA5
  generalize (⟨s', t.n, 0⟩ : Tab.Tb (Rep.Abt)) = t1 at hok1 his1 hld1 hb1 hS10
  have Hlen1 := Lib.hid (show ∀ x ∈ t1.slots, (slotL aenc x).length = 38 from fun x hx => slotL_len aenc x (hok1.good.key x hx) 5 (aenc_len _))
  obtain ⟨la1, lc1, rfl⟩ := osl_rows Hlen1.out (Sat.rd (hS10.pick pick1)) dCz
  have Hok1 := Lib.hid hok1; have His1 := Lib.hid his1; have Hld1 := Lib.hid hld1; have Hb1 := Lib.hid hb1
  obtain ⟨d1, he1⟩ := hok1.ends k
  have He1 := Lib.hid he1
  have hno : m k = none := by
   obtain ⟨_, q2⟩ := His.out.some Hok.out He.out Hx.out
   exact q2 H1.out
  have hsz1 : t1.slots.length ≤ 1073741824 := by have := hok1.size; have := HB.out; omega
  clear hok1 his1 hld1 hb1 he1
  go_wp2_with ((with_reducible apply at_load); refine ⟨?_⟩; refine wl_loadA hS10 rFz (pick_there (pick_there (pick0 (A := pt b4 (.cells (bys k).toArray 24 (0,0)))))) Tryz.underlying24 rfl (by rw [List.size_toArray, Hbs.out]; kernel_rfl) ?_)
  have hf := findA_c Hok1.out.good hsz1 Hk.out He1.out hS10
  clear hS10 hsz1
  refine hf.mono ?_
  rintro ee w8b ⟨v', rfl, x1, hx1, rfl, hT⟩
  have Hx1 := Lib.hid hx1
  have H1f := Lib.hid (show x1.st ≠ 1 from fun h => by
   have := (His1.out.some Hok1.out He1.out hx1).1 h
   rw [hno] at this; cases this)
  clear hf hx1 hno Hx H1 He Hok His Hlen Hp0 Hb Hsz hlt hd
  go_wp2_with fail
 rotate_left
 focus
  have hci : ¬ (3 : Int) * (t.slots.length : Int) < 4 * ((t.n : Int) + (t.gone : Int) + 1) := by omega
  have Hld1 := Lib.hid hcmp
  clear e0 e1 e2 hcmp
  go_wp2_with fail
  clear hci hA1 hA2 hA3 hA4 hA1b hA2b hA3b hA4b hA5 hlt hd Hp0 Hsz
  obtain ⟨t1, rfl⟩ : ∃ y, y = t := ⟨t, rfl⟩
  obtain ⟨x1, rfl⟩ : ∃ y, y = x := ⟨x, rfl⟩
  obtain ⟨d1, rfl⟩ : ∃ y, y = d := ⟨d, rfl⟩
  obtain ⟨la1, hla1⟩ : ∃ y : Option Addr, y = some ⟨bk, 0, none⟩ := ⟨_, rfl⟩
  obtain ⟨lc1, rfl⟩ : ∃ y, y = lc := ⟨lc, rfl⟩
  rw [← hla1] at hSd
  have hT := hSd
  have Hok1 := Lib.hid Hok.out; have His1 := Lib.hid His.out; have Hb1 := Lib.hid Hb.out; have He1 := Lib.hid He.out; have Hx1 := Lib.hid Hx.out; have H1f := Lib.hid H1.out; have Hlen1 := Lib.hid Hlen.out
  clear hSd Hok His Hb He Hx H1 Hlen hla1
 all_goals
  have hrl : (t1.slots.flatMap (slotL aenc)).length = 38 * t1.slots.length := rows_len Hlen1.out
  obtain ⟨bk1, rfl⟩ := osl_zero (hT.pick pick1) (by rw [hrl]; have := Hok1.out.good.pos_len; omega)
  have Hrow := Lib.hid (rows_set (f := slotL aenc) (k := 38) (i := Tab.pos k t1.slots.length d1) (x := ⟨1, k, v⟩) Hlen1.out (slotL_len aenc _ Hk.out 5 rfl) (Tab.pos_lt Hok1.out.good.pos_len))
  have Hok2 := Lib.hid (Tab.put_new_ok Hok1.out Hld1.out He1.out Hx1.out H1f.out Hk.out v)
  have His2 := Lib.hid (Tab.is_put His1.out (Tab.put_new Hok1.out.good He1.out Hx1.out H1f.out Hk.out v).2 (t1.n + 1) t1.gone)
  have hlt1 := Tab.pos_lt (k := k) (d := d1) Hok1.out.good.pos_len
  have hls := slotL_len aenc (⟨1, k, v⟩ : Tab.Slot (Rep.Abt)) Hk.out 5 rfl
  have hwn : IntKind.i64.wrap ((t1.n : Int) + 1) = (t1.n : Int) + 1 := IntWalk.i64_in _ (by have := Hb1.out; have := HB.out; omega)
  clear Hx1 H1f He1 Hok1 His1 Hld1
  generalize Tab.pos k t1.slots.length d1 = P1 at *
  have c0 : (0 : Int) ≤ (P1 : Int) := by omega
  have c1 : (P1 : Int) < (t1.slots.length : Int) := by omega
  have hSd := hT.drew
  clear hT
  refine wpL_begin [8, 9] (fun w' => w'.cell? ⟨p, 0, none⟩ = some (.slice (some ⟨bk1, 0, none⟩) t1.slots.length lc1) ∧ w'.rangeAt b4 0 (bys k) ∧ w'.rangeAt b5 0 (aenc v)) kRz ?_
  have hG : World.cell? _ ⟨p, 0, none⟩ = some (.slice (some ⟨bk1, 0, none⟩) t1.slots.length lc1) ∧ World.rangeAt _ b4 0 (bys k) ∧ World.rangeAt _ b5 0 (aenc v) := ⟨hSd.cellP pkD 0 rfl, pt_rangeL (hSd.pk (A := pt b4 (.cells (bys k).toArray 24 (0,0)))), pt_rangeL (hSd.pk (A := pt b5 (.cells (aenc v).toArray 109 (0,0))))⟩
  refine rp 0 (hy := (yl_move evD)) (h := ?_)
  refine rp 1 (hy := (yl_nil evD)) (h := ?_)
  refine rp 2 (hy := (yl_field evD rnD)) (h := ?_)
  refine rt 3 (h := ?_)
  refine rp 4 (hy := (yl_move evD)) (h := ?_)
  refine rg_take 5 evD kRz i3z (tk_loadN (b := b4) (o := 0) (bys k) rFz Tryz.underlying24 rfl (by rw [Hbs.out]; kernel_rfl) (fun w hw => hw.2.1)) (by assumption) (by go_frame; first | done | rfl) ?_
  refine rg_take 6 evD kRz i3z (tk_loadN (b := b5) (o := 0) (aenc v) rFz Tryz.underlying109 rfl kRz (fun w hw => hw.2.2)) (by assumption) (by go_frame; first | done | rfl) ?_
  refine rp 7 (hy := (yl_build3 evD evD evD (fun w => run_slotA k Hk.out v w))) (h := ?_)
  refine rp 8 (hy := (yl_index evD evD rnD)) (h := ?_)
  clear hG
  refine rg_eff 9 evD kRz (fun K hK => ?_)
  refine eff_storeSN (vs := slotL aenc ⟨1, k, v⟩) (P1 * 38) hSd evD evD rfl (upd_there upd0) (by rw [hrl, hls]; omega) (by rw [hls]; kernel_rfl) (slotL_ones aenc _ rFz) ?_
  intro w12 hS12
  refine hK _ _ (.inl rfl) ?_
  clear hK hSd
  refine wpL_done kRz ?_
  try simp only [List.getElem_toArray, List.getElem_cons_succ, List.getElem_cons_zero]
  try go_frame
  rw [← Hrow.out] at hS12
  go_wp2_with (first
   | ((with_reducible apply at_load); refine ⟨?_⟩; refine wl_load1 hS12 rFz pkD nLz evD kRz ?_)
   | ((with_reducible apply at_store); refine ⟨?_⟩; refine wl_store (by assumption) rFz evD (by first | (simp only [putsAt, Value.cells]; (try go_frame); first | done | rfl) | rfl) upD nLz kRz rFz ?_; intro wS hS))
  go_end0
  exact ⟨_, rfl, TabMA.shut (sv := .slice (some ⟨bk1, 0, none⟩) t1.slots.length lc1) Hok2.out His2.out (by have := Hb1.out; simp only; omega) (hS.sb)⟩
end
set_option maxRecDepth 20000 in
theorem cmpA_c (x y : Tab.Slot (Rep.Abt)) (hx : x.key.length = 32) (hy : y.key.length = 32) (W : World) :
  Calls Tryz.prog 202 #[.agg (slotL aenc x).toArray, .agg (slotL aenc y).toArray] W fun e w' => e = .returned (.int .i64 (Lib.compareBytes x.key y.key)) ∧ ∃ q os', w' = Sort.grow (W.drewN q) os' := by
 have h0 := Sat.start W
 have h1 := h0.alloc (.cells (slotL aenc x).toArray 256)
 have h2 := (h1.alloc (.cells (slotL aenc y).toArray 256)).drew
 have hsz : (W.alloc (.cells (slotL aenc x).toArray 256)).heap.size = W.heap.size + 1 := Array.size_push ..
 rw [hsz] at h2
 have r1 : rdsl 1 (.slice (some ⟨W.heap.size, 1, none⟩) 32 32) (bys x.key) ((W.alloc (.cells (slotL aenc x).toArray 256)).alloc (.cells (slotL aenc y).toArray 256)).drew :=
  ⟨_, _, _, rfl, by rw [bys_len, hx], fun j z hj => ⟨_, rfl, by rw [adr_add]; exact slot_key (h2.pick pick1) j z hj⟩⟩
 have r2 : rdsl 1 (.slice (some ⟨W.heap.size + 1, 1, none⟩) 32 32) (bys y.key) ((W.alloc (.cells (slotL aenc x).toArray 256)).alloc (.cells (slotL aenc y).toArray 256)).drew :=
  ⟨_, _, _, rfl, by rw [bys_len, hy], fun j z hj => ⟨_, rfl, by rw [adr_add]; exact slot_key (h2.pick pick0) j z hj⟩⟩
 have hb := bcmp_c x.key y.key r1 r2
 clear h0 h1 h2 r1 r2 hsz
 generalize Lib.compareBytes x.key y.key = r at *
 go_enter Tryz.func202, Tryz.ntmps202
 go_wp2_with fail
 have hG : True := trivial
 refine wpL_begin [] (fun w' => True) kRz ?_
 refine rp 0 (hy := (yl_field evD rnD)) (h := ?_)
 refine rp 1 (hy := (by (refine Or.inl ⟨by rfl, ?_⟩; ((intro wq; go_simp); first | done | (with_reducible rfl))))) (h := ?_)
 refine rp 2 (hy := (yl_field evD rnD)) (h := ?_)
 refine rp 3 (hy := (by (refine Or.inl ⟨by rfl, ?_⟩; ((intro wq; go_simp); first | done | (with_reducible rfl))))) (h := ?_)
 refine rg_eff 4 evD kRz (fun K hK => ?_)
 (refine eff_call2 kRz evD evD ?_)
 refine hb.mono ?_
 rintro e w' ⟨rfl, rfl⟩
 refine hK _ _ (.inr (.inr rfl)) ?_
 clear hK hb
 refine rp 5 (hy := (yl_assign evD)) (h := ?_)
 refine wpL_done kRz ?_
 clear hG
 go_wp2_with fail
 go_ret
 exact ⟨rfl, 1, #[.cells (slotL aenc x).toArray 256, .cells (slotL aenc y).toArray 256], by rw [Sort.alloc_eq_grow, Sort.alloc_eq_grow, Sort.grow_grow, Sort.drew_grow]; rfl⟩
open Go.Sort
abbrev SlKA : Type := { x : Tab.Slot (Rep.Abt) // x.key.length = 32 }
instance : Inhabited SlKA := ⟨⟨⟨0, Frm.zero32, ⟨0, Seg.Plc.zero, 0⟩⟩, rfl⟩⟩
section
variable {w0 w : World} {F : List HProp} {v : Value}
theorem sortA_c (l : List (Tab.Slot (Rep.Abt))) (hk : ∀ x ∈ l, x.key.length = 32) (hn : l.length ≤ 1073741824) (h : Sat w0 w (osl 256 38 v (l.flatMap (slotL aenc)) :: F)) :
  Calls Tryz.prog 201 #[v, .func (.func 202) #[] #[]] w (Rtn fun _ w' => ∃ l' : List (Tab.Slot (Rep.Abt)), (l'.Perm l ∧ l'.Pairwise fun a b => ¬ b.key < a.key) ∧ Sat w0 w' (osl 256 38 v (l'.flatMap (slotL aenc)) :: F)) := by
 have hlen : ∀ x ∈ l, (slotL aenc x).length = 38 := fun x hx => slotL_len aenc x (hk x hx) 5 (aenc_len _)
 rcases h.osl_cases with ⟨rfl, hn', h'⟩ | ⟨g, n, cap, cs, rfl, hl, hn', hc, hcm, htk, hp⟩
 ·obtain rfl : l = [] := by
   cases l with
   | nil => rfl
   | cons x l => rw [List.flatMap_cons] at hn'; have := congrArg List.length hn'; rw [List.length_append, hlen x (.head _)] at this; simp at this
  refine (AnyF.slices_SortFunc_none Tryz.sortA none 0 (.func (.func 202) #[] #[]) w).mono ?_
  rintro e w1 ⟨rfl, rfl⟩
  exact ⟨_, rfl, [], ⟨.refl _, .nil⟩, h⟩
 ·rw [rows_len hlen, Nat.mul_comm] at hl
  obtain rfl : n = l.length := (Nat.eq_of_mul_eq_mul_right dCz hl).symm
  let d : Array SlKA := (l.attach.map fun x => (⟨x.1, hk x.1 x.2⟩ : SlKA)).toArray
  have hd : d.toList.map (·.1) = l := by
   show (l.attach.map fun x => (⟨x.1, hk x.1 x.2⟩ : SlKA)).map (·.1) = l
   rw [List.map_map]
   exact List.attach_map_subtype_val l
  have hds : d.size = l.length := by rw [← hd, List.length_map, Array.length_toList]
  have hke : ∀ x : SlKA, ((fun x : SlKA => slotL aenc x.1) x).length = 38 := fun x => slotL_len aenc x.1 x.2 5 (aenc_len _)
  have hfl : ∀ d : Array SlKA, (flatK (fun x : SlKA => slotL aenc x.1) 38 d).toList = (d.toList.map (·.1)).flatMap (slotL aenc) := fun d => by
   rw [flatK_list hke dCz, List.flatMap_map]
  have hH : HoldsK (fun x : SlKA => slotL aenc x.1) 38 w g 0 d := holds_blockV hp.at (by rw [size_flatK, hds, hfl, hd]; exact htk)
  refine (AnyQ.slices_SortFunc Tryz.sortA 38 Tryz.isAgg256 Tryz.sizeOf256 (fun x : SlKA => slotL aenc x.1) hke (fun x v hv => List.all_eq_true.1 (slotL_ones aenc x.1 (aenc_ones _)) v hv) (fun x y => Lib.compareBytes x.1.key y.1.key) (Tab.swo_key fun x : SlKA => x.1.key) 202 #[] g 0 cap d w (fun args w => by kernel_rfl) (fun m os dk _ x y => cmpA_c x.1 y.1 x.2 y.2 _) hH hp.lt (by omega) |> fun q => (by rw [hds] at q; exact q : Calls Tryz.prog 201 #[.slice (some ⟨g, 0, none⟩) l.length cap, .func (.func 202) #[] #[]] w _)).mono ?_
  rintro e w1 ⟨rfl, d', n', os, hpm, hst, rfl⟩
  obtain ⟨q1, q2⟩ := Tab.sorted_list (key := fun x : SlKA => x.1.key) (by rw [hds]; exact hpm) (by rw [hds]; exact hst)
  have hl' : d'.toList.length = l.length := by rw [q1.length_eq, Array.length_toList, hds]
  have hS := sat_sorted (n := n') (os := os) hp (flatK (fun x : SlKA => slotL aenc x.1) 38 d')
  have hsz' : (flatK (fun x : SlKA => slotL aenc x.1) 38 d').size = l.length * 38 := by rw [size_flatK, ← Array.length_toList, hl']
  refine ⟨_, rfl, d'.toList.map (·.1), ⟨by rw [← hd]; exact q1.map _, List.pairwise_map.2 q2⟩, ?_⟩
  refine hS.osl_of_pt ?_ hn' (by simpa [Sort.putCells] using hc) hcm ?_
  ·rw [← hfl, Array.length_toList, hsz']
  ·rw [← hfl, ← hsz']
   refine take_putCellsV _ ?_
   have : l.length * 38 ≤ cap * 38 := Nat.mul_le_mul_right _ hn'
   omega
end
end Go.Proofs.YtlinnpehkfbnkaaGreatDoor
namespace Go.Proofs.YtlinnpehkfbnkaaGreatDoor
open Go Go.Sl Go.Med Go.MapKept Go.RowKit
section
variable {w0 w : World} {F R : List HProp} {p B : Nat} {sv v : Value} {k : Frm.Bs} {m : Frm.Bs → Option (Rep.Abt)} {t : Tab.Tb (Rep.Abt)}
set_option maxRecDepth 20000 in
theorem risingA_c (hB : B ≤ 13000000) (h : Sat w0 w (TabMA p m B :: F)) :
  Calls Tryz.prog 177 #[ptr p] w (Rtn fun v w' => ∃ l : List (Tab.Slot (Rep.Abt)), (Tab.Lists m (l.map fun x => (x.key, x.val)) ∧ (∀ x ∈ l, x.st = 1 ∧ x.key.length = 32) ∧ l.length ≤ B) ∧ Sat w0 w' (osl 256 38 v (l.flatMap (slotL aenc)) :: TabMA p m B :: F)) := by
 obtain ⟨t, sv, ⟨ok, is, hb⟩, hR⟩ := TabMA.open h
 have hsz : t.slots.length ≤ 56000000 := by have := ok.size; omega
 have Hlen := Lib.hid (show ∀ x ∈ t.slots, (slotL aenc x).length = 38 from fun x hx => slotL_len aenc x (ok.good.key x hx) 5 (aenc_len _))
 obtain ⟨la, lc, rfl⟩ := osl_rows Hlen.out (Sat.rd (hR.pick pick1)) dCz
 have Hok := Lib.hid ok; have His := Lib.hid is; have Hb := Lib.hid hb; have Hsz := Lib.hid hsz; have Hp0 := Lib.hid ok.good.pos_len
 clear h ok is hb hB
 have hS0 : Sat w0 w (osl 256 38 (.slice none 0 0) [] :: tbPt p 184 (.slice la t.slots.length lc) t.n t.gone :: osl 256 38 (.slice la t.slots.length lc) (t.slots.flatMap (slotL aenc)) :: F) := Sat.osl_nil.2 hR
 clear hR
 go_enter Tryz.func177, Tryz.ntmps177
 go_wp2_with fail
 refine (okA_c Hp0.out (hS0.pick pick1)).mono ?_
 rintro ee w7 ⟨v, rfl, rfl, rfl⟩
 go_wp2_with ((with_reducible apply at_load); refine ⟨?_⟩; refine wl_load1 hS0 rFz pkD nLz evD kRz ?_)
 go_loopg [3, 14] t.slots.length (fun g oq iq wr => ∃ (i : Nat), g = t.slots.length - i ∧ i ≤ t.slots.length ∧ iq = .int .i64 i ∧
  Sat w0 wr (osl 256 38 oq (((t.slots.take i).filter fun x => decide (x.st = 1)).flatMap (slotL aenc)) :: tbPt p 184 (.slice la t.slots.length lc) t.n t.gone :: osl 256 38 (.slice la t.slots.length lc) (t.slots.flatMap (slotL aenc)) :: F))
 case atStart => exact ⟨0, rfl, Nat.zero_le _, rfl, hS0⟩
 case round =>
  obtain ⟨i, rfl, hi, rfl, hS⟩ := hrel
  clear hS0
  by_cases hlt : i < t.slots.length
  rotate_left
  ·obtain rfl : i = t.slots.length := by omega
   have c1 : ¬ (t.slots.length : Int) < (t.slots.length : Int) := by omega
   rw [List.take_length] at hS
   have hfk : ∀ x ∈ t.slots.filter fun x => decide (x.st = 1), x.key.length = 32 := fun x hx => Hok.out.good.key x (List.mem_filter.1 hx).1
   have hs := sortA_c (t.slots.filter fun x => decide (x.st = 1)) hfk (Nat.le_trans (List.length_filter_le _ _) (Nat.le_trans hsz dCz)) hS
   clear hlt hi hS hfk
   go_wp2_with fail
   refine hs.mono ?_
   rintro ee w8 ⟨v, rfl, l, ⟨h1, h2⟩, hS8⟩
   clear hs
   have Hl := Lib.hid (Tab.lists_of Hok.out.good His.out h1 h2)
   have Hll := Lib.hid (show l.length ≤ B from by
    rw [h1.length_eq, ← List.countP_eq_length_filter]
    have e : t.slots.countP (fun x => decide (x.st = 1)) = Tab.fulls t.slots := by
     unfold Tab.fulls
     refine List.countP_congr fun x _ => ?_
     simp
    have := Hok.out.n; have := Hb.out; omega)
   clear h1 h2
   go_wp2_with fail
   go_ret
   exact ⟨_, rfl, l, ⟨Hl.out.1, Hl.out.2, Hll.out⟩, Sat.put1 (TabMA.shut Hok.out His.out Hb.out (hS8.sb))⟩
  have c1 : (i : Int) < (t.slots.length : Int) := by omega
  have hwi : IntKind.i64.wrap ((i : Int) + 1) = (i : Int) + 1 := IntWalk.i64_in _ (by omega)
  obtain ⟨x, hx⟩ : ∃ x, t.slots[i]? = some x := ⟨_, List.getElem?_eq_getElem hlt⟩
  have hxm := List.mem_of_getElem? hx
  have hst := Hok.out.good.st x hxm
  have Hxk := Lib.hid (Hok.out.good.key x hxm)
  obtain ⟨bk, off, c', hsv, hcell⟩ := osl_row Hlen.out (Sat.rd (hS.pick pick2)) hx dCz
  cases hsv
  have hl38 := Hlen.out x hxm
  have htk : (t.slots.take (i + 1)).filter (fun x => decide (x.st = 1)) = (t.slots.take i).filter (fun x => decide (x.st = 1)) ++ [x].filter fun x => decide (x.st = 1) := by
   rw [List.take_add_one, hx, Option.toList_some, List.filter_append]
  have Htk := Lib.hid htk
  have Hlt := Lib.hid hlt
  have hle5 : (((t.slots.take i).filter fun x => decide (x.st = 1)).flatMap (slotL aenc)).length ≤ 2147483648 := by
   rw [rows_len fun y hy => Hlen.out y (List.mem_of_mem_take (List.mem_filter.1 hy).1)]
   have h1 := List.length_filter_le (fun x => decide (x.st = 1)) (t.slots.take i)
   have h2 := List.length_take_le' i t.slots
   have h3 := Hsz.out
   omega
  clear hx hxm hlt hi htk
  go_wp2_with (first
   | ((with_reducible apply at_load); refine ⟨?_⟩; refine wl_loadW (b := bk) (o := off + i * 38) (slotL aenc x) rFz hcell Tryz.underlying256 rfl (by rw [hl38]; kernel_rfl) ?_)
   | (with_reducible apply at_alloc))
  refine ⟨?_⟩
  refine wl_alloc zSlotA hS rfl ?_
  intro b7 w7 hS7
  go_wp2_with (first | ((with_reducible apply at_store); refine ⟨?_⟩; refine wl_storeA (slotL aenc x).toArray hS7 rFz rFz (by rw [List.size_toArray, hl38]; rfl) upd0 (by rw [List.size_toArray, hl38]; kernel_rfl) (by rw [List.toList_toArray]; exact slotL_ones aenc x (aenc_ones _)) ?_; intro w10 hS10) | (with_reducible apply at_load))
  refine ⟨?_⟩
  clear hS hS7 hcell
  have f0 : w10.cell? ⟨b7, 0, none⟩ = some (.int .i64 x.st) := hS10.cellP pick0 0 (by rw [List.getElem?_toArray]; rfl)
  by_cases h1 : x.st = 1
  rotate_left
  ·have hst1 : ((x.st : Int) == 1) = false := by rw [beq_eq_false_iff_ne]; omega
   have e9 : (t.slots.take (i + 1)).filter (fun x => decide (x.st = 1)) = (t.slots.take i).filter (fun x => decide (x.st = 1)) := by
    rw [Htk.out, List.filter_cons_of_neg (by rw [decide_eq_false h1]; decide), List.filter_nil, List.append_nil]
   have E9 := Lib.hid e9
   clear h1 e9
   go_wp2_with fail
   go_roundg (t.slots.length - (i + 1))
   case measure => have := Hlt.out; omega
   case rel => exact ⟨i + 1, rfl, Hlt.out, by first | rfl | go_num, by rw [E9.out]; exact hS10.sb⟩
  ·have hst1 : ((x.st : Int) == 1) = true := by rw [h1]; rfl
   have e9 : ((t.slots.take (i + 1)).filter (fun x => decide (x.st = 1))).flatMap (slotL aenc) = ((t.slots.take i).filter (fun x => decide (x.st = 1))).flatMap (slotL aenc) ++ slotL aenc x := by
    rw [Htk.out, List.filter_cons_of_pos (by rw [decide_eq_true h1]), List.filter_nil, List.flatMap_append, List.flatMap_cons, List.flatMap_nil, List.append_nil]
   have E9 := Lib.hid e9
   clear h1 e9
   go_wp2_with (first
    | ((with_reducible apply at_load); refine ⟨?_⟩; refine wl_loadA hS10 rFz pkD Tryz.underlying256 rfl (by rw [List.size_toArray, hl38]; kernel_rfl) ?_)
    | (with_reducible apply at_build1))
   refine ⟨?_⟩
   refine wl_build1 (e := 256) (sz := 38) (by' := 80) kRz hS10 rFz (cs := (slotL aenc x).toArray) rfl (by rw [List.size_toArray, hl38]) dCz ?_
   intro bN wN hN
   go_wp2_with (with_reducible apply at_append)
   refine ⟨?_⟩
   refine wl_app 256 38 80 kRz hN rFz rFz pkD pick0 (by rw [List.size_toArray, hl38]) (Nat.le_refl 1) (by rw [List.toList_toArray]; exact slotL_ones aenc x (aenc_ones _)) hle5 (by rw [List.size_toArray, hl38]; decide) dCz (by rw [List.toList_toArray]) ?_
   intro bA nA cA wA hA
   go_wp2_with fail
   rw [← E9.out] at hA
   go_roundg (t.slots.length - (i + 1))
   case measure => have := Hlt.out; omega
   case rel => exact ⟨i + 1, rfl, Hlt.out, by first | rfl | go_num, hA.sb⟩
end
def abA (x : Frm.Bs × Rep.Abt) : Array Value := #[.agg (bys x.1).toArray, .agg (aenc x.2).toArray]
section
variable {w0 w : World} {F : List HProp} {p B : Nat} {m : Frm.Bs → Option (Rep.Abt)}
theorem allA_c (h : Sat w0 w F) : Calls Tryz.prog 119 #[ptr p] w
  (Rtn fun v w' => ∃ b, v = .func (.func 176) #[] #[ptr b] ∧ Sat w0 w' (pt b (.cells #[ptr p] 106 (0,0)) :: F)) := by
 go_enter Tryz.func119, Tryz.ntmps119
 go_wp2_with (first | ((with_reducible apply at_box); refine ⟨?_⟩; refine wl_box (by assumption) evD evD ?_; intro bB wB hB) | (with_reducible apply at_alloc))
 go_ret
 exact ⟨_, rfl, bB, rfl, hB⟩
set_option maxRecDepth 20000 in
theorem allA1_c {b : Nat} {l : List (Frm.Bs × Rep.Abt)} (hB : B ≤ 13000000) (hl : Tab.Lists m l) :
  Iter Tryz.prog 176 #[ptr b] (l.map abA) w0 [TabMA p m B, pt b (.cells #[ptr p] 106 (0,0))] [TabMA p m B, pt b (.cells #[ptr p] 106 (0,0))] := by
 intro ly R hY W hW
 have Hl := Lib.hid hl
 have hW0 : Sat w0 W (TabMA p m B :: pt b (.cells #[ptr p] 106 (0,0)) :: R []) := hW
 clear hW hl
 show Calls Tryz.prog 176 #[.func (.yield ly) #[] #[], ptr b] W _
 go_enter Tryz.func176, Tryz.ntmps176
 have hr := risingA_c hB hW0
 go_wp2_with ((with_reducible apply at_load); refine ⟨?_⟩; refine wl_load1 hW0 rFz pkD nLz evD kRz ?_)
 clear hW0
 refine hr.mono ?_
 rintro ee w1 ⟨sv, rfl, s, ⟨hs1, hs2, hs3⟩, hS1⟩
 clear hr
 have e0 : l = s.map fun x => (x.key, x.val) := Hl.out.unique hs1
 clear hs1 Hl
 subst e0
 have Hs2 := Lib.hid hs2; have Hs3 := Lib.hid hs3
 have Hlen := Lib.hid (show ∀ x ∈ s, (slotL aenc x).length = 38 from fun x hx => slotL_len aenc x (hs2 x hx).2 5 (aenc_len _))
 obtain ⟨la, lc, rfl⟩ := osl_rows Hlen.out (Sat.rd hS1) dCz
 have hsb : s.length ≤ 13000000 := Nat.le_trans hs3 hB
 clear hs2 hs3 hB
 go_wp2_with fail
 go_loopg [8] s.length (fun g iq wr => ∃ (i : Nat), g = s.length - i ∧ i ≤ s.length ∧ iq = .int .i64 i ∧
  Sat w0 wr (osl 256 38 (.slice la s.length lc) (s.flatMap (slotL aenc)) :: TabMA p m B :: pt b (.cells #[ptr p] 106 (0,0)) :: R (((s.take i).map fun x => (x.key, x.val)).map abA)))
 case atStart => exact ⟨0, rfl, Nat.zero_le _, rfl, hS1⟩
 case round =>
  obtain ⟨i, rfl, hi, rfl, hS⟩ := hrel
  clear hS1
  by_cases hlt : i < s.length
  rotate_left
  ·obtain rfl : i = s.length := by omega
   have c1 : ¬ (s.length : Int) < (s.length : Int) := by omega
   rw [List.take_length] at hS
   clear hlt hi
   go_wp2_with fail
   go_end0
   exact ⟨_, rfl, by rw [← List.map_map]; exact hS.drop⟩
  have c1 : (i : Int) < (s.length : Int) := by omega
  have hwi : IntKind.i64.wrap ((i : Int) + 1) = (i : Int) + 1 := IntWalk.i64_in _ (by omega)
  obtain ⟨x, hx⟩ : ∃ x, s[i]? = some x := ⟨_, List.getElem?_eq_getElem hlt⟩
  have hxm := List.mem_of_getElem? hx
  have Hxk := Lib.hid (Hs2.out x hxm).2
  obtain ⟨bk, off, c', hsv, hcell⟩ := osl_row Hlen.out (Sat.rd (hS.pick pick0)) hx dCz
  cases hsv
  have hl38 := Hlen.out x hxm
  have Htk := Lib.hid (show s.take (i + 1) = s.take i ++ [x] by rw [List.take_add_one, hx, Option.toList_some])
  have Hlt := Lib.hid hlt
  have Hspl := Lib.hid (show (s.map fun x => (x.key, x.val)).map abA = ((s.take i).map fun x => (x.key, x.val)).map abA ++ abA (x.key, x.val) :: ((s.drop (i + 1)).map fun x => (x.key, x.val)).map abA by
   have e : s = s.take i ++ x :: s.drop (i + 1) := by
    obtain ⟨h1, rfl⟩ := List.getElem?_eq_some_iff.1 hx
    rw [← List.drop_eq_getElem_cons h1, List.take_append_drop]
   conv => lhs; rw [e]
   simp only [List.map_append, List.map_cons])
  clear hx hxm hlt hi
  go_wp2_with (first
   | ((with_reducible apply at_load); refine ⟨?_⟩; refine wl_loadW (b := bk) (o := off + i * 38) (slotL aenc x) rFz hcell Tryz.underlying256 rfl (by rw [hl38]; kernel_rfl) ?_)
   | (with_reducible apply at_alloc))
  refine ⟨?_⟩
  refine wl_alloc zSlotA hS rfl ?_
  intro b7 w7 hS7
  go_wp2_with ((with_reducible apply at_store))
  refine ⟨?_⟩
  refine wl_storeA (slotL aenc x).toArray hS7 rFz rFz (by rw [List.size_toArray, hl38]; rfl) upd0 (by rw [List.size_toArray, hl38]; kernel_rfl) (by rw [List.toList_toArray]; exact slotL_ones aenc x (aenc_ones _)) ?_
  intro w10 hS10
  clear hS hS7 hcell
  have f1 : w10.rangeAt b7 1 (bys x.key) := slot_key (hS10.pick pick0)
  have f2 : w10.rangeAt b7 33 (aenc x.val) := slot_val Hxk.out (hS10.pick pick0)
  have e1 := Tryz.underlying24
  have hS11 : Sat w0 w10 (R (((s.take i).map fun x => (x.key, x.val)).map abA) ++ [osl 256 38 (.slice (some ⟨bk, off, none⟩) s.length lc) (s.flatMap (slotL aenc)), TabMA p m B, pt b (.cells #[ptr p] 106 (0,0))]) :=
   (hS10.drop : Sat w0 w10 ([osl 256 38 (.slice (some ⟨bk, off, none⟩) s.length lc) (s.flatMap (slotL aenc)), TabMA p m B, pt b (.cells #[ptr p] 106 (0,0))] ++ R (((s.take i).map fun x => (x.key, x.val)).map abA))).appc
  obtain ⟨yf, yt, ya, yb, hy, hr⟩ := hY _ _ _ w10 _ Hspl.out hS11
  clear hS11 hS10 hY
  go_step
  go_step
  go_step
  refine region_yield6 rFz ?_
  intro K hK
  go_wp2_with (first
   | ((with_reducible apply at_load); refine ⟨?_⟩; refine wl_loadW (b := b7) (o := 1) (bys x.key) rFz f1 e1 rfl (by rw [bys_len, Hxk.out]; kernel_rfl) ?_)
   | ((with_reducible apply at_load); refine ⟨?_⟩; refine wl_loadW (b := b7) (o := 33) (aenc x.val) rFz f2 Tryz.underlying109 rfl kRz ?_))
  refine ⟨_, yf, yt, ya, yb, hy, hr.mono ?_⟩
  rintro ee w12 ⟨rfl, hS12⟩
  refine ⟨_, rfl, ?_⟩
  have hS13 : Sat w0 w12 (osl 256 38 (.slice (some ⟨bk, off, none⟩) s.length lc) (s.flatMap (slotL aenc)) :: TabMA p m B :: pt b (.cells #[ptr p] 106 (0,0)) :: R (((s.take (i + 1)).map fun x => (x.key, x.val)).map abA)) := by
   have := hS12.appc
   rw [Htk.out, List.map_append, List.map_append]
   exact this
  clear hS12 hr hy f1 f2
  go_wp2_with fail
  go_roundg (s.length - (i + 1))
  case measure => have := Hlt.out; omega
  case rel => exact ⟨i + 1, rfl, Hlt.out, by first | rfl | go_num, hS13⟩
end
end Go.Proofs.YtlinnpehkfbnkaaGreatDoor
namespace Go.Tab
open Go.Frm (Bs)
open Go.Seg (Plc)
open Go.Rep (Abt)
section
variable {V : Type}
def mapOf (l : List (Bs × V)) : Bs → Option V := l.foldl (fun m p => put m p.1 p.2) fun _ => none
theorem mapOf_snoc (l : List (Bs × V)) (p : Bs × V) : mapOf (l ++ [p]) = put (mapOf l) p.1 p.2 := by unfold mapOf; rw [List.foldl_append]; rfl
theorem mapOf_mem : ∀ (n : Nat) {l : List (Bs × V)}, l.length = n → l.Pairwise (fun a b => a.1 < b.1) → ∀ k v, (k, v) ∈ l ↔ mapOf l k = some v
 | 0, l, hn, _, k, v => by
  obtain rfl : l = [] := List.eq_nil_of_length_eq_zero hn
  exact ⟨(fun h => by cases h), (fun h => by cases h)⟩
 | n + 1, l, hn, hs, k, v => by
  obtain ⟨l', p, rfl⟩ : ∃ l' p, l = l' ++ [p] := ⟨l.dropLast, l.getLast (by intro e; rw [e] at hn; cases hn), (List.dropLast_concat_getLast _).symm⟩
  have hn' : l'.length = n := by rw [List.length_append] at hn; simpa using hn
  obtain ⟨s1, _, s3⟩ := List.pairwise_append.1 hs
  have ih := mapOf_mem n hn' s1 k v
  rw [mapOf_snoc, List.mem_append, List.mem_singleton]
  show _ ↔ (if k = p.1 then some p.2 else mapOf l' k) = some v
  by_cases hk : k = p.1
  ·rw [if_pos hk]
   constructor
   ·rintro (h | h)
    ·exact absurd (hk ▸ s3 _ h p (.head _)) (List.lt_irrefl _)
    ·rw [← h]
   ·intro h; exact .inr (by rw [hk, ← Option.some.inj h])
  ·rw [if_neg hk, ← ih]
   exact ⟨fun h => h.elim id fun e => absurd (congrArg Prod.fst e) hk, .inl⟩
theorem mapOf_lists {l : List (Bs × V)} (hs : l.Pairwise fun a b => a.1 < b.1) : Lists (mapOf l) l := ⟨hs, mapOf_mem _ rfl hs⟩
end
end Go.Tab
namespace Go.Rep
open Go.Frm (Bs)
open Go.Tab
theorem puts_snoc (l : List (Bs × Abt)) (p : Bs × Abt) : puts (l ++ [p]) = if p.2.tag = 0 then puts l ++ [(p.1, p.2.place)] else puts l := by
 unfold puts
 rw [List.filter_append]
 by_cases h : p.2.tag = 0
 ·rw [if_pos h, List.filter_cons_of_pos (by rw [decide_eq_true h]), List.filter_nil, List.map_append]; rfl
 ·rw [if_neg h, List.filter_cons_of_neg (by rw [decide_eq_false h]; decide), List.filter_nil, List.append_nil]
theorem puts_rise {l : List (Bs × Abt)} (h : l.Pairwise fun a b => a.1 < b.1) : (puts l).Pairwise fun a b => a.1 < b.1 := by
 unfold puts
 rw [List.pairwise_map]
 exact h.filter _
theorem liveL_snoc (s : Int) : ∀ (l : List (Bs × Abt)) (p : Bs × Abt), liveL s (l ++ [p]) = liveL s l + (if counts p.2 = true ∧ p.2.place.seg = s then p.2.place.size else 0)
 | [], p => by simp [liveL]
 | q :: l, p => by
  have := liveL_snoc s l p
  simp only [List.cons_append, liveL]
  omega
theorem liveL_le (s : Int) {b : Int} (hb : 0 ≤ b) : ∀ (l : List (Bs × Abt)), (∀ p ∈ l, 0 ≤ p.2.place.size ∧ p.2.place.size ≤ b) → 0 ≤ liveL s l ∧ liveL s l ≤ b * l.length
 | [], _ => by simp [liveL]
 | q :: l, h => by
  obtain ⟨i1, i2⟩ := liveL_le s hb l fun p hp => h p (.tail _ hp)
  obtain ⟨j1, j2⟩ := h q (.head _)
  have e : b * ((q :: l).length : Int) = b * l.length + b := by rw [List.length_cons, Int.natCast_succ, Int.mul_add, Int.mul_one]
  rw [e]
  simp only [liveL]
  split <;> omega
end Go.Rep
namespace Go.Proofs.YtlinnpehkfbnkaaGreatDoor
open Go Go.Sl Go.Med Go.MapKept Go.RowKit
def imap (b : Nat) (f : Int → Int) : HProp := fun h => ∃ l : List (Value × Value), ((∀ p ∈ l, ∃ k v : Int, p = (.int .i64 k, .int .i64 v) ∧ f k = v) ∧ ∀ k : Int, (∀ p ∈ l, p.1 ≠ .int .i64 k) → f k = 0) ∧ omap (.int .i64) b l h
section
variable {w0 w : World} {R : List HProp} {b : Nat} {f : Int → Int} {l : List (Value × Value)}
theorem imap_open (h : Sat w0 w (imap b f :: R)) : ∃ l : List (Value × Value), ((∀ p ∈ l, ∃ k v : Int, p = (.int .i64 k, .int .i64 v) ∧ f k = v) ∧ ∀ k : Int, (∀ p ∈ l, p.1 ≠ .int .i64 k) → f k = 0) ∧ Sat w0 w (omap (.int .i64) b l :: R) := by
 obtain ⟨ha, x, hx, p, q, dd, rfl, ⟨l, h1, h2⟩, hq⟩ := h
 exact ⟨l, h1, ha, _, hx, p, q, dd, rfl, h2, hq⟩
theorem imap_shut (h1 : ∀ p ∈ l, ∃ k v : Int, p = (.int .i64 k, .int .i64 v) ∧ f k = v) (h2 : ∀ k : Int, (∀ p ∈ l, p.1 ≠ .int .i64 k) → f k = 0) (h : Sat w0 w (omap (.int .i64) b l :: R)) : Sat w0 w (imap b f :: R) :=
 h.head fun _ hx => ⟨l, ⟨h1, h2⟩, hx⟩
theorem imap_new (h : Sat w0 w R) : Sat w0 (w.alloc (.map #[] 0)) (imap w.heap.size (fun _ => 0) :: R) := imap_shut (by simp) (fun _ _ => rfl) (h.omap_new (.int .i64))
theorem imap_look (k : Int) (h : Sat w0 w (imap b f :: R)) : (Instr.lookup 147 (.map (some b)) (.int .i64 k) false).run Tryz.prog w = .ok (.int .i64 (f k)) w := by
 obtain ⟨l, ⟨h1, h2⟩, hS⟩ := imap_open h
 rcases run_look (key := .int .i64 k) Tryz.underlying147 Tryz.underlying3 (z := .int .i64 0) kRz rfl hS with ⟨v, hm, e, _⟩ | ⟨hn, e, _⟩
 ·obtain ⟨k', v', hp, hf⟩ := h1 _ hm
  cases hp
  rw [e, hf]
 ·rw [e, h2 k hn]
theorem imap_store (k v : Int) (h : Sat w0 w (imap b f :: R)) : ∃ w', (Instr.mapUpdate 147 (.map (some b)) (.int .i64 k) (.int .i64 v)).run Tryz.prog w = .ok () w' ∧ Sat w0 w' (imap b (fun s => if s = k then v else f s) :: R) := by
 obtain ⟨l, ⟨h1, h2⟩, hS⟩ := imap_open h
 obtain ⟨w', hr, hs⟩ := Sl.run_store (key := .int .i64 k) Tryz.underlying147 Tryz.underlying3 rfl (.int .i64 v) hS
 refine ⟨w', hr, ?_⟩
 have hnd := hS.omap_keys
 obtain ⟨l0, hl0, hne, hin, hout⟩ : ∃ l0 : List (Value × Value), (l.Perm l0 ∧ (∀ p ∈ l0, p.1 ≠ .int .i64 k) ∨ ∃ v0, l.Perm ((.int .i64 k, v0) :: l0)) ∧ (∀ p ∈ l0, p.1 ≠ .int .i64 k) ∧ (∀ p ∈ l0, p ∈ l) ∧ ∀ p ∈ l, p.1 ≠ .int .i64 k → p ∈ l0 := by
  by_cases hk : ∃ p ∈ l, p.1 = .int .i64 k
  ·obtain ⟨⟨_, v0⟩, hm, rfl⟩ := hk
   obtain ⟨l1, l2, e12⟩ := List.append_of_mem hm
   have hp : l.Perm ((.int .i64 k, v0) :: (l1 ++ l2)) := by rw [e12]; exact List.perm_middle
   have hnd2 := (hp.map (·.1)).nodup_iff.1 hnd
   rw [List.map_cons, List.nodup_cons] at hnd2
   exact ⟨_, .inr ⟨v0, hp⟩, fun p hp' e => hnd2.1 (List.mem_map.2 ⟨p, hp', e⟩), fun p hp' => hp.mem_iff.2 (.tail _ hp'), fun p hp' hne => by
    rcases List.mem_cons.1 (hp.mem_iff.1 hp') with e | e
    ·exact absurd (by rw [e]) hne
    ·exact e⟩
  ·have hk' : ∀ p ∈ l, p.1 ≠ .int .i64 k := fun p hp e => hk ⟨p, hp, e⟩
   exact ⟨l, .inl ⟨.refl _, hk'⟩, hk', fun _ h => h, fun _ h _ => h⟩
 refine imap_shut (l := (.int .i64 k, .int .i64 v) :: l0) ?_ ?_ (hs l0 hl0)
 ·intro p hp
  rcases List.mem_cons.1 hp with rfl | hp
  ·exact ⟨k, v, rfl, if_pos rfl⟩
  ·obtain ⟨k', v', rfl, hf⟩ := h1 p (hin p hp)
   refine ⟨k', v', rfl, ?_⟩
   show (if k' = k then v else f k') = v'
   rw [if_neg (fun e => hne _ hp (by rw [e])), hf]
 ·intro k' hk'
  have hkk : k' ≠ k := fun e => hk' _ (.head _) (by rw [e])
  show (if k' = k then v else f k') = 0
  rw [if_neg hkk]
  refine h2 k' fun p hp e => ?_
  exact hk' p (.tail _ (hout p hp (fun e2 => hkk (by rw [e2] at e; cases e; rfl)))) e
end
section
variable {w0 w : World} {R : List HProp} {p B B' : Nat} {m : Frm.Bs → Option Seg.Plc}
theorem TabML.mono (hB : B ≤ B') (h : Sat w0 w (TabML p m B :: R)) : Sat w0 w (TabML p m B' :: R) := by
 obtain ⟨t, sv, ⟨ok, is, hb⟩, hS⟩ := TabML.open h
 exact TabML.shut ok is (Nat.le_trans hb hB) hS
end
section
variable {w0 w : World} {F : List HProp}
set_option maxRecDepth 20000 in
theorem counts_c (x : Rep.Abt) (h : Sat w0 w F) : Calls Tryz.prog 120 #[.agg (aenc x).toArray] w (Rtn fun v w' => v = .bool (Rep.counts x) ∧ Sat w0 w' F) := by
 obtain ⟨tag, ⟨seg, at_, size⟩, first⟩ := x
 show Calls Tryz.prog 120 #[.agg #[.int .i64 tag, .int .i64 seg, .int .i64 at_, .int .i64 size, .int .i64 first]] w _
 have Hc := Lib.hid (show ∀ c, c = (decide (tag = 0) || (decide (0 ≤ first) && decide (first < seg))) → c = Rep.counts ⟨tag, ⟨seg, at_, size⟩, first⟩ from fun c hc => hc)
 go_enter Tryz.func120, Tryz.ntmps120
 go_wp2_with (first | ((with_reducible apply at_box); refine ⟨?_⟩; refine wl_box (by assumption) evD evD ?_; intro bB wB hB) | (with_reducible apply at_load))
 refine ⟨?_⟩
 have f0 : wB.cell? ⟨bB, 0, none⟩ = some (.int .i64 tag) := hB.cellP pick0 0 rfl
 have f1 : wB.cell? ⟨bB, 1, none⟩ = some (.int .i64 seg) := hB.cellP pick0 1 rfl
 have f2 : wB.cell? ⟨bB, 4, none⟩ = some (.int .i64 first) := hB.cellP pick0 4 rfl
 have HB := Lib.hid hB.drop
 clear hB h
 by_cases h0 : tag = 0
 ·have hb : (tag == 0) = true := beq_iff_eq.2 h0
  have e := Hc.out true (by simp [h0])
  have He := Lib.hid e
  clear h0 e Hc
  go_wp2_with fail
  go_ret
  exact ⟨_, rfl, congrArg Value.bool He.out, HB.out⟩
 ·have hb : (tag == 0) = false := by rw [beq_eq_false_iff_ne]; exact h0
  by_cases h1 : 0 ≤ first
  ·by_cases h2 : first < seg
   ·have He := Lib.hid (Hc.out true (by simp [h0, h1, h2]))
    clear h0 Hc
    go_wp2_with fail
    go_ret
    exact ⟨_, rfl, congrArg Value.bool He.out, HB.out⟩
   ·have He := Lib.hid (Hc.out false (by simp [h0, h2]))
    clear h0 Hc
    go_wp2_with fail
    go_ret
    exact ⟨_, rfl, congrArg Value.bool He.out, HB.out⟩
  ·have He := Lib.hid (Hc.out false (by simp [h0, h1]))
   clear h0 Hc
   go_wp2_with fail
   go_ret
   exact ⟨_, rfl, congrArg Value.bool He.out, HB.out⟩
end
end Go.Proofs.YtlinnpehkfbnkaaGreatDoor
namespace Go.Rep
structure Use where
 seg : Int
 size : Int
 live : Int
def upd (kv : List (Frm.Bs × Abt)) (u : Use) : Use := ⟨u.seg, u.size, liveL u.seg kv⟩
def half (kv : List (Frm.Bs × Abt)) (us : List Use) (i : Nat) : List Use := (us.take i).map (upd kv) ++ us.drop i
section
variable {kv : List (Frm.Bs × Abt)} {us : List Use} {i : Nat} {u : Use}
theorem half_len : (half kv us i).length = us.length := by
 unfold half
 rw [List.length_append, List.length_map, ← List.length_append, List.take_append_drop]
theorem half_all : half kv us us.length = us.map (upd kv) := by unfold half; rw [List.take_length, List.drop_length, List.append_nil]
theorem half_get (h : us[i]? = some u) : (half kv us i)[i]? = some u := by
 unfold half
 have hi := (List.getElem?_eq_some_iff.1 h).1
 have e : ((us.take i).map (upd kv)).length = i := by rw [List.length_map, List.length_take]; omega
 rw [List.getElem?_append_right (by omega), e, Nat.sub_self, List.getElem?_drop, Nat.add_zero]; exact h
theorem half_set (h : us[i]? = some u) : (half kv us i).set i (upd kv u) = half kv us (i + 1) := by
 obtain ⟨hi, rfl⟩ := List.getElem?_eq_some_iff.1 h
 have e : ((us.take i).map (upd kv)).length = i := by rw [List.length_map, List.length_take]; omega
 unfold half
 rw [List.set_append_right _ _ (by omega), e, Nat.sub_self, List.drop_eq_getElem_cons hi, List.set_cons_zero, List.take_add_one, List.getElem?_eq_getElem hi, Option.toList_some, List.map_append, List.append_assoc]
 rfl
end
end Go.Rep
namespace Go.Proofs.YtlinnpehkfbnkaaGreatDoor
open Go Go.Sl Go.Med Go.MapKept Go.RowKit
def uenc (u : Rep.Use) : List Value := [.int .i64 u.seg, .int .i64 u.size, .int .i64 u.live]
theorem uenc_len (u : Rep.Use) : (uenc u).length = 3 := rfl
theorem zUse : zeroB Tryz.prog 121 = some (.agg (uenc ⟨0, 0, 0⟩).toArray) := by kernel_rfl
theorem zLmap : zeroB Tryz.prog 147 = some (.map none) := by kernel_rfl
theorem zKey : zeroB Tryz.prog 24 = some (.agg (bys Frm.zero32).toArray) := by kernel_rfl
abbrev stPt (ps : Nat) (last : Int) (pi : Nat) (uv tv : Value) : HProp := pt ps (.cells #[.int .i64 last, ptr pi, uv, tv] 51 (0,0))
def filR (F : List HProp) (ps b2 b3 b4 bm pi pg : Nat) (last : Int) (uv tv : Value) (us : List Rep.Use) (kv : List (Frm.Bs × Rep.Abt)) (pre : List (Array Value)) : List HProp :=
 stPt ps last pi uv tv :: pt b2 (.cells #[ptr ps] 35 (0,0)) :: pt b4 (.cells #[.map (some bm)] 147 (0,0)) :: imap bm (fun s => Rep.liveL s (kv.take pre.length)) ::
 TabML pi (Tab.mapOf (Rep.puts (kv.take pre.length))) pre.length :: osl 121 3 uv (us.flatMap uenc) :: pt b3 (.cells #[ptr pg] 111 (0,0)) :: F
section
variable {w0 w : World} {F : List HProp} {ps pi pg B : Nat} {last : Int} {uv tv : Value} {us : List Rep.Use} {m : Frm.Bs → Option Rep.Abt} {kv : List (Frm.Bs × Rep.Abt)}
set_option maxRecDepth 20000 in
theorem fill_c (hl : Tab.Lists m kv) (hB : B ≤ 13000000) (hkl : kv.length ≤ 13000000) (hks : ∀ p ∈ kv, p.1.length = 32 ∧ 0 ≤ p.2.place.size ∧ p.2.place.size ≤ 4294967296) (hu : us.length ≤ 13000000)
  (h : Sat w0 w (stPt ps last pi uv tv :: TabML pi (fun _ => none) 0 :: TabMA pg m B :: osl 121 3 uv (us.flatMap uenc) :: F)) :
  Calls Tryz.prog 59 #[ptr ps, .agg #[ptr pg]] w (Rtn fun _ w' => Sat w0 w' (stPt ps last pi uv tv :: TabML pi (Tab.mapOf (Rep.puts kv)) kv.length :: TabMA pg m B :: osl 121 3 uv ((us.map (Rep.upd kv)).flatMap uenc) :: F)) := by
 have Hl := Lib.hid hl; have HB := Lib.hid hB; have Hkl := Lib.hid hkl; have Hks := Lib.hid hks; have Hu := Lib.hid hu
 have Hlen := Lib.hid (show ∀ u ∈ us, (uenc u).length = 3 from fun u _ => rfl)
 clear hl hB hkl hks hu
 have hmm := @run_makeMap Tryz.prog
 refine calls_of_wp_marks Tryz.func59 rfl ?_
 simp only [Tryz.ntmps59, List.size_toArray, List.length_cons, List.length_nil, Nat.reduceAdd, Nat.reduceSub, Array.replicate_succ, Array.replicate_zero, List.push_toArray, List.append_toArray, List.nil_append, List.cons_append]
 go_wp2_with (with_reducible apply at_box)
 refine ⟨?_⟩
 refine wl_box h evD evD ?_
 intro b2 w2 h2
 go_wp2_with (with_reducible apply at_box)
 refine ⟨?_⟩
 refine wl_box h2 evD evD ?_
 intro b3 w3 h3
 have h3m := imap_new h3
 go_wp2_with (with_reducible apply at_alloc)
 refine ⟨?_⟩
 refine wl_alloc zLmap h3m rfl ?_
 intro b4 w4 h4
 generalize w3.heap.size = bm at *
 go_wp2_with (first
  | ((with_reducible apply at_store); refine ⟨?_⟩; refine wl_store h4 rFz evD rFz upd0 nLz kRz rFz ?_; intro w5 h5)
  | ((with_reducible apply at_load); refine ⟨?_⟩; refine wl_load1 h5 rFz pkD nLz evD kRz ?_))
 refine (allA_c h5).mono ?_
 rintro ee w6 ⟨v, rfl, bA, rfl, h6⟩
 go_wp2_with fail
 have h7 : Sat w0 w6 (TabMA pg m B :: pt bA (.cells #[ptr pg] 106 (0,0)) :: stPt ps last pi uv tv :: pt b2 (.cells #[ptr ps] 35 (0,0)) :: pt b4 (.cells #[.map (some bm)] 147 (0,0)) :: imap bm (fun _ => 0) ::
   TabML pi (fun _ => none) 0 :: osl 121 3 uv (us.flatMap uenc) :: pt b3 (.cells #[ptr pg] 111 (0,0)) :: F) := h6.sb
 clear h h2 h3 h3m h4 h5 h6 hmm
 refine wp_rangeFunc_sat (gf := 176) (lb := #[ptr bA]) rFz (fun args w => by kernel_rfl) (allA1_c HB.out Hl.out) ?_ (filR F ps b2 b3 b4 bm pi pg last uv tv us kv) h7 ?_ ?_
 ·intro x hx
  obtain ⟨p, _, rfl⟩ := List.mem_map.1 hx
  rfl
 ·clear h7
  intro l pre x post U W hkv hS T hT
  obtain ⟨i, hi⟩ : ∃ i, i = pre.length := ⟨_, rfl⟩
  have hlt : i < kv.length := by
   have := congrArg List.length hkv
   rw [List.length_map, List.length_append, List.length_cons] at this
   omega
  obtain ⟨⟨k, y⟩, hy⟩ : ∃ p, kv[i]? = some p := ⟨_, List.getElem?_eq_getElem hlt⟩
  obtain rfl : x = abA (k, y) := by
   have e1 : (kv.map abA)[i]? = some (abA (k, y)) := by rw [List.getElem?_map, hy]; rfl
   rw [hkv, hi, List.getElem?_append_right (Nat.le_refl _), Nat.sub_self, List.getElem?_cons_zero] at e1
   exact Option.some.inj e1
  have hmem := List.mem_of_getElem? hy
  obtain ⟨hk32, hs0, hs1⟩ := Hks.out _ hmem
  have htk : kv.take (i + 1) = kv.take i ++ [(k, y)] := by rw [List.take_add_one, hy, Option.toList_some]
  have hil : (pre ++ [abA (k, y)]).length = i + 1 := by rw [List.length_append, hi]; rfl
  have Htk := Lib.hid htk; have Hil := Lib.hid hil; have Hi := Lib.hid hi; have Hlt := Lib.hid hlt; have Hk32 := Lib.hid hk32; have Hs := Lib.hid (And.intro hs0 hs1)
  have hS0 : Sat w0 W (stPt ps last pi uv tv :: pt b2 (.cells #[ptr ps] 35 (0,0)) :: pt b4 (.cells #[.map (some bm)] 147 (0,0)) :: imap bm (fun s => Rep.liveL s (kv.take i)) ::
   TabML pi (Tab.mapOf (Rep.puts (kv.take i))) i :: osl 121 3 uv (us.flatMap uenc) :: pt b3 (.cells #[ptr pg] 111 (0,0)) :: (F ++ U)) := by rw [hi]; exact hS
  clear hkv hS hi hlt hy hmem hk32 hs0 hs1 htk hil
  simp [abA] at hT
  subst hT
  refine wpIn_seq_k fun K hK => ?_
  refine region_in_lit rFz fun K2 hK2 => ?_
  go_wp2_with (with_reducible apply at_alloc)
  refine ⟨?_⟩
  refine wl_alloc zKey hS0 rfl ?_
  intro b5 w5 h5
  go_wp2_with ((with_reducible apply at_store); refine ⟨?_⟩; refine wl_storeA (bys k).toArray h5 rFz rFz (by rw [List.size_toArray, bys_len, Hk32.out]; rfl) upd0 (by rw [List.size_toArray, bys_len, Hk32.out]; kernel_rfl) (by rw [List.toList_toArray]; exact bys_ones _) ?_; intro w6 h6)
  refine region_in_lit rFz fun K3 hK3 => ?_
  go_wp2_with (with_reducible apply at_alloc)
  refine ⟨?_⟩
  refine wl_alloc zValA h6 rfl ?_
  intro b6 w7 h7
  go_wp2_with ((with_reducible apply at_store); refine ⟨?_⟩; refine wl_storeA (aenc y).toArray h7 rFz rFz rFz upd0 kRz rFz ?_; intro w8 h8)
  -- the body
  refine ⟨pt b6 (.cells (aenc y).toArray 109 (0,0)) :: pt b5 (.cells (bys k).toArray 24 (0,0)) :: stPt ps last pi uv tv :: pt b2 (.cells #[ptr ps] 35 (0,0)) :: pt b4 (.cells #[.map (some bm)] 147 (0,0)) :: imap bm (fun s => Rep.liveL s (kv.take i)) ::
   TabML pi (Tab.mapOf (Rep.puts (kv.take i))) i :: osl 121 3 uv (us.flatMap uenc) :: pt b3 (.cells #[ptr pg] 111 (0,0)) :: F, h8, ?_⟩
  clear h8 h7 h6 h5 hS0
  intro U' w9 h9
  have h10 : Sat w0 w9 (pt b6 (.cells (aenc y).toArray 109 (0,0)) :: pt b5 (.cells (bys k).toArray 24 (0,0)) :: stPt ps last pi uv tv :: pt b2 (.cells #[ptr ps] 35 (0,0)) :: pt b4 (.cells #[.map (some bm)] 147 (0,0)) :: imap bm (fun s => Rep.liveL s (kv.take i)) ::
   TabML pi (Tab.mapOf (Rep.puts (kv.take i))) i :: osl 121 3 uv (us.flatMap uenc) :: pt b3 (.cells #[ptr pg] 111 (0,0)) :: (F ++ U')) := h9
  clear h9
  have f0 : w9.cell? ⟨b6, 0, none⟩ = some (.int .i64 y.tag) := h10.cellP pick0 0 rfl
  refine wpIn_block (wpIn_seq_k fun K4 hK4 => wpIn_seq_k fun K5 hK5 => region_in_lit rFz fun K6 hK6 => ?_)
  by_cases ht : y.tag = 0
  ·have hb : (y.tag == 0) = true := beq_iff_eq.2 ht
   have Hput := Lib.hid (show Tab.mapOf (Rep.puts (kv.take (i + 1))) = Tab.put (Tab.mapOf (Rep.puts (kv.take i))) k y.place by rw [Htk.out, Rep.puts_snoc, if_pos ht, Tab.mapOf_snoc])
   clear ht
   go_wp2_with fail
   refine wpIn_cond_true rFz ?_
   have h11 := h10.drew
   have hG : w9.drew.cell? ⟨b2, 0, none⟩ = some (ptr ps) ∧ w9.drew.cell? ⟨ps, 1, none⟩ = some (ptr pi) ∧ w9.drew.rangeAt b5 0 (bys k) ∧ w9.drew.rangeAt b6 1 (penc y.place) :=
    ⟨h11.cellP (pick_there (pick_there (pick_there pick0))) 0 rfl, h11.cellP (pick_there (pick_there pick0)) 1 rfl, pt_rangeL (h11.pick (pick_there pick0)), fun j v hj => by
     refine h11.cellP pick0 (1 + j) ?_
     rw [List.getElem?_toArray, Nat.add_comm]
     have hj3 : j < 3 := (List.getElem?_eq_some_iff.1 hj).1
     rcases j with _ | _ | _ | j
     ·exact hj
     ·exact hj
     ·exact hj
     ·omega⟩
   refine region_in_anyK [7] (fun w' => w'.cell? ⟨b2, 0, none⟩ = some (ptr ps) ∧ w'.cell? ⟨ps, 1, none⟩ = some (ptr pi) ∧ w'.rangeAt b5 0 (bys k) ∧ w'.rangeAt b6 1 (penc y.place)) rFz kRz fun K7 hK7 => ?_
   refine rt 0 (h := ?_)
   refine rp 1 (hy := (yl_nil evD)) (h := ?_)
   refine rp 2 (hy := (yl_field evD rnD)) (h := ?_)
   refine rt 3 (h := ?_)
   refine rg_take 4 evD kRz i3z (tk_loadN (b := b5) (o := 0) (bys k) rFz Tryz.underlying24 rfl (by rw [bys_len, Hk32.out]; kernel_rfl) (fun w hw => hw.2.2.1)) (by assumption) (by go_frame; first | done | rfl) ?_
   refine rp 5 (hy := (yl_field evD rnD)) (h := ?_)
   refine rg_take 6 evD kRz i3z (tk_loadN (b := b6) (o := 1) (penc y.place) rFz Tryz.underlying54 rfl kRz (fun w hw => hw.2.2.2)) (by assumption) (by go_frame; first | done | rfl) ?_
   clear hG
   have hp := putL_c (B := i) (p := pi) (by have := Hlt.out; have := Hkl.out; omega) Hk32.out y.place (h11.sb : Sat w0 w9.drew (TabML pi (Tab.mapOf (Rep.puts (kv.take i))) i :: pt b6 (.cells (aenc y).toArray 109 (0,0)) :: pt b5 (.cells (bys k).toArray 24 (0,0)) :: pt b2 (.cells #[ptr ps] 35 (0,0)) :: pt b4 (.cells #[.map (some bm)] 147 (0,0)) :: imap bm (fun s => Rep.liveL s (kv.take i)) :: stPt ps last pi uv tv :: osl 121 3 uv (us.flatMap uenc) :: pt b3 (.cells #[ptr pg] 111 (0,0)) :: (F ++ U')))
   clear h10 h11 f0
   refine rg_eff 7 evD kRz (fun K' hK' => ?_)
   (refine eff_call3 kRz evD evD evD ?_)
   refine hp.mono ?_
   rintro ee w11 ⟨v, rfl, h11⟩
   refine hK' _ _ (.inl rfl) ?_
   clear hK' hp
   refine wpL_done kRz ?_
   rw [← Hput.out] at h11
   have h12 : Sat w0 w11 (pt b6 (.cells (aenc y).toArray 109 (0,0)) :: pt b5 (.cells (bys k).toArray 24 (0,0)) :: pt b2 (.cells #[ptr ps] 35 (0,0)) :: pt b4 (.cells #[.map (some bm)] 147 (0,0)) :: imap bm (fun s => Rep.liveL s (kv.take i)) :: stPt ps last pi uv tv ::
    TabML pi (Tab.mapOf (Rep.puts (kv.take (i + 1)))) (i + 1) :: osl 121 3 uv (us.flatMap uenc) :: pt b3 (.cells #[ptr pg] 111 (0,0)) :: (F ++ U')) := h11.sb
   clear h11
   go_wp2_with fail
   -- what counts
   refine wpIn_seq_k fun K8 hK8 => ?_
   refine region_in_lit rFz fun K9 hK9 => ?_
   go_wp2_with ((with_reducible apply at_load); refine ⟨?_⟩; refine wl_loadA h12 rFz (pick0 (A := pt b6 (.cells (aenc y).toArray 109 (0,0)))) Tryz.underlying109 rfl kRz ?_)
   refine (counts_c y h12).mono ?_
   rintro ee w13 ⟨v, rfl, rfl, h13⟩
   clear h12
   by_cases hc : Rep.counts y = true
   ·have hlv : (fun s => Rep.liveL s (kv.take (i + 1))) = fun s => if s = y.place.seg then Rep.liveL y.place.seg (kv.take i) + y.place.size else Rep.liveL s (kv.take i) := by
     funext s
     rw [Htk.out, Rep.liveL_snoc]
     by_cases e : s = y.place.seg
     ·subst e; simp [hc]
     ·simp only [hc, true_and, if_neg e]; rw [if_neg (fun h => e h.symm), Int.add_zero]
    have Hlv := Lib.hid hlv
    have hlk := imap_look y.place.seg (h13.pick (pick_there (pick_there (pick_there (pick_there pick0)))))
    obtain ⟨w14, hup, h14⟩ := imap_store y.place.seg (Rep.liveL y.place.seg (kv.take i) + y.place.size) (h13.pick (pick_there (pick_there (pick_there (pick_there pick0)))))
    obtain ⟨q1, q2⟩ := Rep.liveL_le y.place.seg (b := 4294967296) dCz (kv.take i) fun p hp => (Hks.out p (List.mem_of_mem_take hp)).2
    have q3 : (kv.take i).length ≤ 13000000 := Nat.le_trans (List.length_take_le' i kv) Hkl.out
    have q4 := Hs.out
    have hwa : IntKind.i64.wrap (Rep.liveL y.place.seg (kv.take i) + y.place.size) = Rep.liveL y.place.seg (kv.take i) + y.place.size := IntWalk.i64_in _ (by omega)
    have hwb : wrap64 (Rep.liveL y.place.seg (kv.take i) + y.place.size) = Rep.liveL y.place.seg (kv.take i) + y.place.size := IntWalk.wrap64_in _ (by omega)
    clear q1 q2 q3 q4 hlv
    have e0 : w13.cell? ⟨b4, 0, none⟩ = some (.map (some bm)) := h13.cellP (pick_there (pick_there (pick_there pick0))) 0 rfl
    have e1 : w13.cell? ⟨b6, 1, none⟩ = some (.int .i64 y.place.seg) := h13.cellP pick0 1 rfl
    have e2 : w13.cell? ⟨b6, 3, none⟩ = some (.int .i64 y.place.size) := h13.cellP pick0 3 rfl
    rw [hc]
    clear h13 hc
    go_wp2_with fail
    refine wpIn_cond_true rFz ?_
    refine region_in_lit rFz fun K10 hK10 => ?_
    go_wp2_with fail
    rw [← Hlv.out] at h14
    refine ⟨trivial, ?_⟩
    have h15 : Sat w0 w14 (stPt ps last pi uv tv :: pt b2 (.cells #[ptr ps] 35 (0,0)) :: pt b4 (.cells #[.map (some bm)] 147 (0,0)) :: imap bm (fun s => Rep.liveL s (kv.take (i + 1))) ::
     TabML pi (Tab.mapOf (Rep.puts (kv.take (i + 1)))) (i + 1) :: osl 121 3 uv (us.flatMap uenc) :: pt b3 (.cells #[ptr pg] 111 (0,0)) :: (F ++ U')) := h14.sb
    rw [← Hil.out] at h15
    exact h15
   ·have hlv : (fun s => Rep.liveL s (kv.take (i + 1))) = fun s => Rep.liveL s (kv.take i) := by
     funext s
     rw [Htk.out, Rep.liveL_snoc, if_neg (fun h => hc h.1), Int.add_zero]
    have Hlv := Lib.hid hlv
    rw [Bool.not_eq_true] at hc
    rw [hc]
    clear hlv hc
    go_wp2_with fail
    refine wpIn_cond_false rFz ?_
    refine wpIn_skip ?_
    go_wp2_with fail
    rw [← Hlv.out] at h13
    refine ⟨trivial, ?_⟩
    have h15 : Sat w0 w13 (stPt ps last pi uv tv :: pt b2 (.cells #[ptr ps] 35 (0,0)) :: pt b4 (.cells #[.map (some bm)] 147 (0,0)) :: imap bm (fun s => Rep.liveL s (kv.take (i + 1))) ::
     TabML pi (Tab.mapOf (Rep.puts (kv.take (i + 1)))) (i + 1) :: osl 121 3 uv (us.flatMap uenc) :: pt b3 (.cells #[ptr pg] 111 (0,0)) :: (F ++ U')) := h13.sb
    rw [← Hil.out] at h15
    exact h15

  ·have hb : (y.tag == 0) = false := by rw [beq_eq_false_iff_ne]; exact ht
   have Hput := Lib.hid (show Tab.mapOf (Rep.puts (kv.take (i + 1))) = Tab.mapOf (Rep.puts (kv.take i)) by rw [Htk.out, Rep.puts_snoc, if_neg ht])
   clear ht
   go_wp2_with fail
   refine wpIn_cond_false rFz ?_
   refine wpIn_skip ?_
   go_wp2_with fail
   rw [← Hput.out] at h10
   have h11 := TabML.mono (Nat.le_succ i) (h10.pick (pick_there (pick_there (pick_there (pick_there (pick_there (pick_there pick0)))))))
   have h12 : Sat w0 w9 (pt b6 (.cells (aenc y).toArray 109 (0,0)) :: pt b5 (.cells (bys k).toArray 24 (0,0)) :: pt b2 (.cells #[ptr ps] 35 (0,0)) :: pt b4 (.cells #[.map (some bm)] 147 (0,0)) :: imap bm (fun s => Rep.liveL s (kv.take i)) :: stPt ps last pi uv tv ::
    TabML pi (Tab.mapOf (Rep.puts (kv.take (i + 1)))) (i + 1) :: osl 121 3 uv (us.flatMap uenc) :: pt b3 (.cells #[ptr pg] 111 (0,0)) :: (F ++ U')) := h11.sb
   clear h10 h11 f0
   -- what counts
   refine wpIn_seq_k fun K8 hK8 => ?_
   refine region_in_lit rFz fun K9 hK9 => ?_
   go_wp2_with ((with_reducible apply at_load); refine ⟨?_⟩; refine wl_loadA h12 rFz (pick0 (A := pt b6 (.cells (aenc y).toArray 109 (0,0)))) Tryz.underlying109 rfl kRz ?_)
   refine (counts_c y h12).mono ?_
   rintro ee w13 ⟨v, rfl, rfl, h13⟩
   clear h12
   by_cases hc : Rep.counts y = true
   ·have hlv : (fun s => Rep.liveL s (kv.take (i + 1))) = fun s => if s = y.place.seg then Rep.liveL y.place.seg (kv.take i) + y.place.size else Rep.liveL s (kv.take i) := by
     funext s
     rw [Htk.out, Rep.liveL_snoc]
     by_cases e : s = y.place.seg
     ·subst e; simp [hc]
     ·simp only [hc, true_and, if_neg e]; rw [if_neg (fun h => e h.symm), Int.add_zero]
    have Hlv := Lib.hid hlv
    have hlk := imap_look y.place.seg (h13.pick (pick_there (pick_there (pick_there (pick_there pick0)))))
    obtain ⟨w14, hup, h14⟩ := imap_store y.place.seg (Rep.liveL y.place.seg (kv.take i) + y.place.size) (h13.pick (pick_there (pick_there (pick_there (pick_there pick0)))))
    obtain ⟨q1, q2⟩ := Rep.liveL_le y.place.seg (b := 4294967296) dCz (kv.take i) fun p hp => (Hks.out p (List.mem_of_mem_take hp)).2
    have q3 : (kv.take i).length ≤ 13000000 := Nat.le_trans (List.length_take_le' i kv) Hkl.out
    have q4 := Hs.out
    have hwa : IntKind.i64.wrap (Rep.liveL y.place.seg (kv.take i) + y.place.size) = Rep.liveL y.place.seg (kv.take i) + y.place.size := IntWalk.i64_in _ (by omega)
    have hwb : wrap64 (Rep.liveL y.place.seg (kv.take i) + y.place.size) = Rep.liveL y.place.seg (kv.take i) + y.place.size := IntWalk.wrap64_in _ (by omega)
    clear q1 q2 q3 q4 hlv
    have e0 : w13.cell? ⟨b4, 0, none⟩ = some (.map (some bm)) := h13.cellP (pick_there (pick_there (pick_there pick0))) 0 rfl
    have e1 : w13.cell? ⟨b6, 1, none⟩ = some (.int .i64 y.place.seg) := h13.cellP pick0 1 rfl
    have e2 : w13.cell? ⟨b6, 3, none⟩ = some (.int .i64 y.place.size) := h13.cellP pick0 3 rfl
    rw [hc]
    clear h13 hc
    go_wp2_with fail
    refine wpIn_cond_true rFz ?_
    refine region_in_lit rFz fun K10 hK10 => ?_
    go_wp2_with fail
    rw [← Hlv.out] at h14
    refine ⟨trivial, ?_⟩
    have h15 : Sat w0 w14 (stPt ps last pi uv tv :: pt b2 (.cells #[ptr ps] 35 (0,0)) :: pt b4 (.cells #[.map (some bm)] 147 (0,0)) :: imap bm (fun s => Rep.liveL s (kv.take (i + 1))) ::
     TabML pi (Tab.mapOf (Rep.puts (kv.take (i + 1)))) (i + 1) :: osl 121 3 uv (us.flatMap uenc) :: pt b3 (.cells #[ptr pg] 111 (0,0)) :: (F ++ U')) := h14.sb
    rw [← Hil.out] at h15
    exact h15
   ·have hlv : (fun s => Rep.liveL s (kv.take (i + 1))) = fun s => Rep.liveL s (kv.take i) := by
     funext s
     rw [Htk.out, Rep.liveL_snoc, if_neg (fun h => hc h.1), Int.add_zero]
    have Hlv := Lib.hid hlv
    rw [Bool.not_eq_true] at hc
    rw [hc]
    clear hlv hc
    go_wp2_with fail
    refine wpIn_cond_false rFz ?_
    refine wpIn_skip ?_
    go_wp2_with fail
    rw [← Hlv.out] at h13
    refine ⟨trivial, ?_⟩
    have h15 : Sat w0 w13 (stPt ps last pi uv tv :: pt b2 (.cells #[ptr ps] 35 (0,0)) :: pt b4 (.cells #[.map (some bm)] 147 (0,0)) :: imap bm (fun s => Rep.liveL s (kv.take (i + 1))) ::
     TabML pi (Tab.mapOf (Rep.puts (kv.take (i + 1)))) (i + 1) :: osl 121 3 uv (us.flatMap uenc) :: pt b3 (.cells #[ptr pg] 111 (0,0)) :: (F ++ U')) := h13.sb
    rw [← Hil.out] at h15
    exact h15

 ·intro D w8 h8
  have h9 : Sat w0 w8 (TabMA pg m B :: pt bA (.cells #[ptr pg] 106 (0,0)) :: stPt ps last pi uv tv :: pt b2 (.cells #[ptr ps] 35 (0,0)) :: pt b4 (.cells #[.map (some bm)] 147 (0,0)) :: imap bm (fun s => Rep.liveL s kv) ::
   TabML pi (Tab.mapOf (Rep.puts kv)) kv.length :: osl 121 3 uv (us.flatMap uenc) :: pt b3 (.cells #[ptr pg] 111 (0,0)) :: (F ++ [pt D (.deferred (some []))])) := by
   have q := h8
   unfold filR at q
   rw [List.length_map, List.take_length] at q
   exact q
  have hA : Sat w0 w8 (pt D (.deferred (some [])) :: TabMA pg m B :: pt bA (.cells #[ptr pg] 106 (0,0)) :: stPt ps last pi uv tv :: pt b2 (.cells #[ptr ps] 35 (0,0)) :: pt b4 (.cells #[.map (some bm)] 147 (0,0)) :: imap bm (fun s => Rep.liveL s kv) ::
   TabML pi (Tab.mapOf (Rep.puts kv)) kv.length :: osl 121 3 uv (us.flatMap uenc) :: pt b3 (.cells #[ptr pg] 111 (0,0)) :: F) :=
   Sat.appc (L := TabMA pg m B :: pt bA (.cells #[ptr pg] 106 (0,0)) :: stPt ps last pi uv tv :: pt b2 (.cells #[ptr ps] 35 (0,0)) :: pt b4 (.cells #[.map (some bm)] 147 (0,0)) :: imap bm (fun s => Rep.liveL s kv) ::
    TabML pi (Tab.mapOf (Rep.puts kv)) kv.length :: osl 121 3 uv (us.flatMap uenc) :: pt b3 (.cells #[ptr pg] 111 (0,0)) :: F) (R := [pt D (.deferred (some []))]) h9
  clear h7 h8 h9
  have hB2 : Sat w0 w8 (osl 121 3 uv ((Rep.half kv us 0).flatMap uenc) :: stPt ps last pi uv tv :: pt b2 (.cells #[ptr ps] 35 (0,0)) :: pt b4 (.cells #[.map (some bm)] 147 (0,0)) :: imap bm (fun s => Rep.liveL s kv) :: pt D (.deferred (some [])) :: TabML pi (Tab.mapOf (Rep.puts kv)) kv.length :: TabMA pg m B :: F) := hA.sb
  clear hA
  obtain ⟨ua, uc, rfl⟩ := osl_rows (l := Rep.half kv us 0) (f := uenc) (k := 3) (fun u _ => rfl) (Sat.rd hB2) dCz
  rw [Rep.half_len] at hB2
  go_wp2_with ((with_reducible apply at_load); refine ⟨?_⟩; refine wl_load1 hB2 rFz pkD nLz evD kRz ?_)
  go_loopg [42] us.length (fun g iq wr => ∃ i : Nat, g = us.length - i ∧ i ≤ us.length ∧ iq = .int .i64 i ∧
   Sat w0 wr (osl 121 3 (.slice ua us.length uc) ((Rep.half kv us i).flatMap uenc) :: stPt ps last pi (.slice ua us.length uc) tv :: pt b2 (.cells #[ptr ps] 35 (0,0)) :: pt b4 (.cells #[.map (some bm)] 147 (0,0)) :: imap bm (fun s => Rep.liveL s kv) :: pt D (.deferred (some [])) :: TabML pi (Tab.mapOf (Rep.puts kv)) kv.length :: TabMA pg m B :: F))
  case atStart => exact ⟨0, rfl, Nat.zero_le _, rfl, hB2⟩
  case round =>
   obtain ⟨i, rfl, hi, rfl, hS⟩ := hrel
   clear hB2
   by_cases hlt : i < us.length
   rotate_left
   ·obtain rfl : i = us.length := by omega
    have c1 : ¬ (us.length : Int) < (us.length : Int) := by omega
    rw [Rep.half_all] at hS
    clear hlt hi
    go_wp2_with fail
    refine endsM_end rfl (hS.pick (pick_there (pick_there (pick_there (pick_there (pick_there pick0)))))) (fun w => results_none rfl _ _ _) ?_
    intro w9 h9
    exact ⟨_, rfl, h9.sb⟩
   have c1 : (i : Int) < (us.length : Int) := by omega
   have hwi : IntKind.i64.wrap ((i : Int) + 1) = (i : Int) + 1 := IntWalk.i64_in _ (by have := Hu.out; omega)
   obtain ⟨u, hu⟩ : ∃ u, us[i]? = some u := ⟨_, List.getElem?_eq_getElem hlt⟩
   have hx : (Rep.half kv us i)[i]? = some u := Rep.half_get hu
   have Hrow := Lib.hid (rows_part (f := uenc) (k := 3) (o := 2) (x' := Rep.upd kv u) (vs := [.int .i64 (Rep.liveL u.seg kv)]) (fun u _ => rfl) hx rFz (by show 2 + 1 ≤ 3; decide))
   rw [Rep.half_set hu] at Hrow
   have hrl : ((Rep.half kv us i).flatMap uenc).length = 3 * us.length := by rw [rows_len (k := 3) (f := uenc) fun u _ => rfl, Rep.half_len]
   obtain ⟨bk, off, c', hsv, hcell⟩ := osl_row (f := uenc) (k := 3) (fun u _ => rfl) (Sat.rd hS) hx dCz
   rw [Rep.half_len] at hsv
   cases hsv
   rcases Sat.osl_cases hS with ⟨e, _⟩ | ⟨g', n', cap', cs', e, _⟩
   ·cases e
   obtain rfl : off = 0 := by injection e with e1; injection e1 with e2; injection e2
   obtain ⟨g', rfl⟩ : ∃ g, g = bk := ⟨_, rfl⟩
   simp only [Nat.zero_add] at hcell
   have Hlt := Lib.hid hlt
   clear hlt hi hu hx
   go_wp2_with (first
    | ((with_reducible apply at_load); refine ⟨?_⟩; refine wl_loadW (o := i * 3) (uenc u) rFz hcell Tryz.underlying121 rfl kRz ?_)
    | (with_reducible apply at_alloc))
   refine ⟨?_⟩
   refine wl_alloc zUse hS rfl ?_
   intro b8 w9 hS9
   go_wp2_with ((with_reducible apply at_store); refine ⟨?_⟩; refine wl_storeA (uenc u).toArray hS9 rFz rFz rFz upd0 kRz rFz ?_; intro w10 hS10)
   have hSd := hS10.drew
   have hG : w10.drew.cell? ⟨b2, 0, none⟩ = some (ptr ps) ∧ w10.drew.cell? ⟨ps, 2, none⟩ = some (.slice (some ⟨g', 0, none⟩) us.length uc) ∧ w10.drew.cell? ⟨b4, 0, none⟩ = some (.map (some bm)) ∧ w10.drew.cell? ⟨b8, 0, none⟩ = some (.int .i64 u.seg) ∧
     (Instr.lookup 147 (.map (some bm)) (.int .i64 u.seg) false).run Tryz.prog w10.drew = .ok (.int .i64 (Rep.liveL u.seg kv)) w10.drew :=
    ⟨hSd.cellP (pick_there (pick_there (pick_there pick0))) 0 rfl, hSd.cellP (pick_there (pick_there pick0)) 2 rfl, hSd.cellP (pick_there (pick_there (pick_there (pick_there pick0)))) 0 rfl, hSd.cellP pick0 0 rfl, imap_look u.seg (hSd.pick (pick_there (pick_there (pick_there (pick_there (pick_there pick0))))))⟩
   clear hS hS9 hcell
   refine wpL_begin [9, 10, 11] (fun w' => w'.cell? ⟨b2, 0, none⟩ = some (ptr ps) ∧ w'.cell? ⟨ps, 2, none⟩ = some (.slice (some ⟨g', 0, none⟩) us.length uc) ∧ w'.cell? ⟨b4, 0, none⟩ = some (.map (some bm)) ∧ w'.cell? ⟨b8, 0, none⟩ = some (.int .i64 u.seg) ∧ (Instr.lookup 147 (.map (some bm)) (.int .i64 u.seg) false).run Tryz.prog w' = .ok (.int .i64 (Rep.liveL u.seg kv)) w') kRz ?_
   refine rt 0 (h := ?_)
   refine rp 1 (hy := (yl_nil evD)) (h := ?_)
   refine rp 2 (hy := (yl_field evD rnD)) (h := ?_)
   refine rt 3 (h := ?_)
   refine rp 4 (hy := (yl_move evD)) (h := ?_)
   refine rt 5 (h := ?_)
   refine rp 6 (hy := (yl_field evD rnD)) (h := ?_)
   refine rt 7 (h := ?_)
   refine rt 8 (h := ?_)
   refine rp 9 (hy := (yl_index evD evD rnD)) (h := ?_)
   refine rp 10 (hy := (yl_field evD rnD)) (h := ?_)
   clear hG
   refine rg_eff 11 evD kRz (fun K' hK' => ?_)
   refine eff_storeSN (vs := [.int .i64 (Rep.liveL u.seg kv)]) (i * 3 + 2) hSd evD evD rfl (upd_there upd0) (by rw [hrl]; have := Hlt.out; show i * 3 + 2 + 1 ≤ _; omega) kRz rFz ?_
   intro w12 hS12
   refine hK' _ _ (.inl rfl) ?_
   clear hK' hSd hS10
   refine wpL_done kRz ?_
   rw [← Hrow.out] at hS12
   go_wp2_with fail
   go_roundg (us.length - (i + 1))
   case measure => have := Hlt.out; omega
   case rel => exact ⟨i + 1, rfl, Hlt.out, by first | rfl | go_num, hS12.sb⟩
end
end Go.Proofs.YtlinnpehkfbnkaaGreatDoor
namespace Go.Rep
open Go.Frm (Bs Fnd)
def endedF (l : List Fnd) : Bool := match l.getLast? with
 | some f => f.e.tag == 2
 | none => false
abbrev Told : Type := Int → Bs × Int
def split (bt : Told) (ns : List Int) : Nat → Nat × Int
 | 0 => (0, 0)
 | i + 1 => if (bt (ns.getD i 0)).2 ≠ 0 then (0, (bt (ns.getD i 0)).2) else if (Frm.scan (bt (ns.getD i 0)).1).2.2 = 0 ∧ endedF (Frm.scan (bt (ns.getD i 0)).1).1 = true then (i + 1, 0) else split bt ns i
theorem split_le (bt : Told) (ns : List Int) : ∀ i, (split bt ns i).1 ≤ i
 | 0 => Nat.le_refl 0
 | i + 1 => by
  have := split_le bt ns i
  unfold split
  split
  ·exact Nat.zero_le _
  split
  ·exact Nat.le_refl _
  ·omega
structure Flt where
 what : Int
 seg : Int
 at_ : Int
def Flt.zero : Flt := ⟨0, 0, 0⟩
def fault (s : Int) (at_ : Nat) : Flt := if at_ = 0 then ⟨1, s, 0⟩ else ⟨2, s, at_⟩
def bad (bt : Told) : List Int → Option (Flt × Int)
 | [] => none
 | s :: l => if (bt s).2 ≠ 0 then some (Flt.zero, (bt s).2) else if (Frm.scan (bt s).1).2.2 ≠ 0 then some (fault s (Frm.scan (bt s).1).2.1, 13) else bad bt l
def rowsOf (bt : Told) (l : List Int) : List Row := l.flatMap fun s => (Frm.scan (bt s).1).1.map fun f => (s, f)
def usesOf (bt : Told) (l : List Int) : List Use := l.map fun s => ⟨s, ((bt s).1.length : Int), 0⟩
theorem bad_app (bt : Told) : ∀ (l k : List Int), bad bt l = none → bad bt (l ++ k) = bad bt k
 | [], _, _ => rfl
 | s :: l, k, h => by
  unfold bad at h
  rw [List.cons_append]
  show (if (bt s).2 ≠ 0 then _ else if (Frm.scan (bt s).1).2.2 ≠ 0 then _ else bad bt (l ++ k)) = _
  split at h
  ·cases h
  ·rename_i h1
   rw [if_neg h1]
   split at h
   ·cases h
   ·rename_i h2
    rw [if_neg h2]
    exact bad_app bt l k h
theorem bad_power {bt : Told} {s : Int} {pre post : List Int} (hp : bad bt pre = none) (h : (bt s).2 ≠ 0) : bad bt (pre ++ s :: post) = some (Flt.zero, (bt s).2) := by
 rw [bad_app bt _ _ hp]; unfold bad; rw [if_pos h]
theorem bad_scan {bt : Told} {s : Int} {pre post : List Int} (hp : bad bt pre = none) (h : (bt s).2 = 0) (h2 : (Frm.scan (bt s).1).2.2 ≠ 0) : bad bt (pre ++ s :: post) = some (fault s (Frm.scan (bt s).1).2.1, 13) := by
 rw [bad_app bt _ _ hp]; unfold bad; rw [if_neg (fun h3 => h3 h), if_pos h2]
theorem bad_none {bt : Told} {s : Int} {pre : List Int} (hp : bad bt pre = none) (h : (bt s).2 = 0) (h2 : (Frm.scan (bt s).1).2.2 = 0) : bad bt (pre ++ [s]) = none := by
 rw [bad_app bt _ _ hp]; unfold bad; rw [if_neg (fun h3 => h3 h), if_neg (fun h3 => h3 h2)]; rfl
theorem rowsOf_snoc (bt : Told) (l : List Int) (s : Int) : rowsOf bt (l ++ [s]) = rowsOf bt l ++ (Frm.scan (bt s).1).1.map fun f => (s, f) := by
 unfold rowsOf; rw [List.flatMap_append, List.flatMap_cons, List.flatMap_nil, List.append_nil]
theorem usesOf_snoc (bt : Told) (l : List Int) (s : Int) : usesOf bt (l ++ [s]) = usesOf bt l ++ [⟨s, ((bt s).1.length : Int), 0⟩] := by
 unfold usesOf; rw [List.map_append]; rfl
end Go.Rep
