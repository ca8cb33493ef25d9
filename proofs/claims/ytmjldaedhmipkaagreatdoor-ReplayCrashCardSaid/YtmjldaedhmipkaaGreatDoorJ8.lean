import Derived.Test.YtmjldaedhmipkaaGreatDoorJ7
import Derived.Laws.StructEq
set_option linter.unusedVariables false
namespace Go.Proofs.YtmjldaedhmipkaaGreatDoor
open Go Go.Sl Go.Med Go.MapKept Go.RowKit
section
variable {w0 w : World} {F : List HProp} {p B : Nat} {m : Frm.Bs → Option (Seg.Plc)}
set_option maxRecDepth 20000 in
set_option maxHeartbeats 8000000 in
theorem keysL_c (hB : B ≤ 13000000) (h : Sat w0 w (TabML p m B :: F)) :
    Calls Tryz.prog 120 #[ptr p] w (Rtn fun v w' => ∃ kv : List (Frm.Bs × Seg.Plc), (Tab.Lists m kv ∧ (∀ q ∈ kv, q.1.length = 32) ∧ kv.length ≤ B) ∧ Sat w0 w' (osl 41 32 v (kv.flatMap fun q => bys q.1) :: TabML p m B :: F)) := by
  have hr := risingL_c hB h
  clear h
  go_enter Tryz.func120, Tryz.ntmps120
  go_wp2_with fail
  refine hr.mono ?_
  rintro ee w1 ⟨sv, rfl, s, ⟨hs1, hs2, hs3⟩, hS1⟩
  clear hr
  have Hs1 := Lib.hid hs1; have Hs2 := Lib.hid hs2; have Hs3 := Lib.hid hs3
  have Hkk := Lib.hid (show ∀ q ∈ s.map fun x => (x.key, x.val), q.1.length = 32 from fun q hq => by
    obtain ⟨x, hx, rfl⟩ := List.mem_map.1 hq
    exact (hs2 x hx).2)
  have Hlen := Lib.hid (show ∀ x ∈ s, (slotL penc x).length = 36 from fun x hx => slotL_len penc x (hs2 x hx).2 3 (penc_len _))
  obtain ⟨la, lc, rfl⟩ := osl_rows Hlen.out (Sat.rd hS1) (by decide)
  have hsb : s.length ≤ 13000000 := Nat.le_trans hs3 hB
  have hS2 : Sat w0 w1 (osl 41 32 (.slice none 0 0) (((s.take 0).map fun x => (x.key, x.val)).flatMap fun q => bys q.1) :: osl 220 36 (.slice la s.length lc) (s.flatMap (slotL penc)) :: TabML p m B :: F) := Sat.osl_nil.2 hS1
  clear hs1 hs2 hs3 hB hS1
  go_wp2_with fail
  go_loopg [3, 9] s.length (fun g oq iq wr => ∃ (i : Nat), g = s.length - i ∧ i ≤ s.length ∧ iq = .int .i64 i ∧
    Sat w0 wr (osl 41 32 oq (((s.take i).map fun x => (x.key, x.val)).flatMap fun q => bys q.1) :: osl 220 36 (.slice la s.length lc) (s.flatMap (slotL penc)) :: TabML p m B :: F))
  case atStart => exact ⟨0, rfl, Nat.zero_le _, rfl, hS2⟩
  case round =>
    obtain ⟨i, rfl, hi, rfl, hS⟩ := hrel
    clear hS2
    by_cases hlt : i < s.length
    rotate_left
    · obtain rfl : i = s.length := by omega
      have c1 : ¬ (s.length : Int) < (s.length : Int) := by omega
      rw [List.take_length] at hS
      clear hlt hi
      go_wp2_with fail
      go_ret
      refine ⟨_, rfl, s.map fun x => (x.key, x.val), ⟨Hs1.out, by intros; exact Hkk.out (_, _) (by assumption), by rw [List.length_map]; exact Hs3.out⟩, hS.sb⟩
    have c1 : (i : Int) < (s.length : Int) := by omega
    have hwi : IntKind.i64.wrap ((i : Int) + 1) = (i : Int) + 1 := IntWalk.i64_in _ (by omega)
    obtain ⟨x, hx⟩ : ∃ x, s[i]? = some x := ⟨_, List.getElem?_eq_getElem hlt⟩
    have hxm := List.mem_of_getElem? hx
    have Hxk := Lib.hid (Hs2.out x hxm).2
    obtain ⟨bk, off, c', hsv, hcell⟩ := osl_row Hlen.out (Sat.rd (hS.pick pick1)) hx (by decide)
    cases hsv
    have hl36 := Hlen.out x hxm
    have Htk := Lib.hid (show ((s.take (i + 1)).map fun x => (x.key, x.val)).flatMap (fun q => bys q.1) = ((s.take i).map fun x => (x.key, x.val)).flatMap (fun q => bys q.1) ++ bys x.key by
      rw [List.take_add_one, hx, Option.toList_some, List.map_append, List.flatMap_append]; simp)
    have Hlt := Lib.hid hlt
    have hle5 : (((s.take i).map fun x => (x.key, x.val)).flatMap fun q => bys q.1).length ≤ 2147483648 := by
      rw [rows_len (k := 32) fun q hq => by
        obtain ⟨y, hy, rfl⟩ := List.mem_map.1 hq
        rw [bys_len]; exact (Hs2.out y (List.mem_of_mem_take hy)).2]
      rw [List.length_map]
      have := List.length_take_le' i s
      omega
    clear hx hxm hlt hi
    go_wp2_with (first
      | ((with_reducible apply at_load); refine ⟨?_⟩; refine wl_loadW (b := bk) (o := off + i * 36) (slotL penc x) (by rfl) hcell Tryz.underlying220 rfl (by rw [hl36]; kernel_rfl) ?_)
      | (with_reducible apply at_alloc))
    refine ⟨?_⟩
    refine wl_alloc zSlotL hS rfl ?_
    intro b7 w7 hS7
    go_wp2_with (first
      | ((with_reducible apply at_store); refine ⟨?_⟩; refine wl_storeA (slotL penc x).toArray hS7 (by rfl) (by rfl) (by rw [List.size_toArray, hl36]; rfl) upd0 (by rw [List.size_toArray, hl36]; kernel_rfl) (by rw [List.toList_toArray]; exact slotL_ones penc x (penc_ones _)) ?_; intro w10 hS10)
      | (with_reducible apply at_load))
    refine ⟨?_⟩
    clear hS hS7 hcell
    have f1 : w10.rangeAt b7 1 (bys x.key) := slot_key (hS10.pick pick0)
    go_wp2_with (first
      | ((with_reducible apply at_load); refine ⟨?_⟩; refine wl_loadW (b := b7) (o := 1) (bys x.key) (by rfl) f1 Tryz.underlying41 rfl (by rw [bys_len, Hxk.out]; kernel_rfl) ?_)
      | (with_reducible apply at_build1))
    refine ⟨?_⟩
    refine wl_build1 (e := 41) (sz := 32) (by' := 32) (by kernel_rfl) hS10 (by rfl) (cs := (bys x.key).toArray) rfl (by rw [List.size_toArray, bys_len, Hxk.out]) (by decide) ?_
    intro bN wN hN
    go_wp2_with (with_reducible apply at_append)
    refine ⟨?_⟩
    refine wl_app 41 32 32 (by kernel_rfl) hN (by rfl) (by rfl) (pick_there (pick_there pick0)) pick0 (by rw [List.size_toArray, bys_len, Hxk.out]) (Nat.le_refl 1) (by rw [List.toList_toArray]; exact bys_ones _) hle5 (by rw [List.size_toArray, bys_len, Hxk.out]; decide) (by decide) (by rw [List.toList_toArray]) ?_
    intro bA nA cA wA hA
    go_wp2_with fail
    rw [← Htk.out] at hA
    go_roundg (s.length - (i + 1))
    case measure => have := Hlt.out; omega
    case rel => exact ⟨i + 1, rfl, Hlt.out, by first | rfl | go_num, hA.sb⟩
end
def kvL (q : Frm.Bs × Seg.Plc) : List Value := bys q.1 ++ penc q.2
theorem kvL_len (q : Frm.Bs × Seg.Plc) (hk : q.1.length = 32) : (kvL q).length = 35 := by unfold kvL; rw [List.length_append, bys_len, hk]; rfl
theorem kvL_ones (q : Frm.Bs × Seg.Plc) : (kvL q).all (·.oneCell') = true := by unfold kvL; rw [List.all_append, bys_ones]; rfl
theorem zPlc39 : zeroB Tryz.prog 39 = some (.agg (penc Seg.Plc.zero).toArray) := by kernel_rfl
theorem plKv : placesB Tryz.prog 117 = some [(0, 32), (32, 3)] := by kernel_rfl
theorem zKv : zeroB Tryz.prog 117 = some (.agg (kvL (Frm.zero32, Seg.Plc.zero)).toArray) := by kernel_rfl
theorem run_kv (k : Frm.Bs) (hk : k.length = 32) (v : Seg.Plc) (w : World) : (Instr.build 117 #[(0, .agg (bys k).toArray), (1, .agg (penc v).toArray)]).run Tryz.prog w = .ok (.agg (kvL (k, v)).toArray) w := by
  have h := run_build (P := Tryz.prog) [(0, .agg (bys k).toArray), (1, .agg (penc v).toArray)] plKv zKv (by
    intro p hp
    have hzz : (Value.agg (kvL (Frm.zero32, Seg.Plc.zero)).toArray).cells.size = 35 := by rfl
    rw [hzz]
    rcases List.mem_cons.1 hp with rfl | hp
    · refine ⟨0, ?_, ?_⟩
      · show some (0, 32) = some (0, (bys k).toArray.size); rw [List.size_toArray, bys_len, hk]
      · show 0 + (bys k).toArray.size ≤ 35
        rw [List.size_toArray, bys_len, hk]; decide
    · rw [List.mem_singleton.1 hp]
      exact ⟨32, rfl, by show 32 + 3 ≤ 35; omega⟩) w
  refine h.trans ?_
  have hz : Frm.zero32.length = 32 := rfl
  have hzl : (kvL (Frm.zero32, Seg.Plc.zero)).length = 35 := kvL_len _ hz
  have e : putsAt (putsAt (kvL (Frm.zero32, Seg.Plc.zero)).toArray 0 (bys k)) 32 (penc v) = (kvL (k, v)).toArray := by
    apply putsAt_eq
    rw [puts_putL _ _ _ (by rw [putsAt_size, List.size_toArray, hzl]; exact Nat.le_refl 35), puts_putL _ _ _ (by rw [List.size_toArray, hzl, bys_len, hk]; decide), List.toList_toArray]
    have e1 : putL (kvL (Frm.zero32, Seg.Plc.zero)) 0 (bys k) = bys k ++ penc Seg.Plc.zero := by
      unfold kvL
      rw [putL_app2 _ _ _ _ (by rw [bys_len, bys_len, hk, hz]; decide), putL_all (by rw [bys_len, bys_len, hk, hz])]
    have h0 := putL_app (bys k) (penc Seg.Plc.zero) (penc v) 0
    rw [bys_len, hk, putL_all (xs := penc Seg.Plc.zero) (vs := penc v) (by rfl)] at h0
    rw [e1]
    exact h0
  exact congrArg (fun x => Result.ok (Value.agg x) w) e
section
variable {P : Program} {d : Nat} {xs : Array Value}
theorem eqF_self : ∀ (fs : List Field), (∀ f ∈ fs, ∃ a, (∀ w, (part f.type xs f.offset).run P w = .ok a w) ∧ ∀ w, (Op.equalIn d f.type a a).run P w = .ok true w) → ∀ w, (Op.eqFields d xs xs fs).run P w = .ok true w
  | [], _, w => by simp [Op.eqFields]
  | f :: fs, h, w => by
    obtain ⟨a, h1, h2⟩ := h f (.head _)
    have ih := eqF_self fs (fun g hg => h g (.tail _ hg)) w
    unfold Op.eqFields
    split
    · simp only [Sem.run_bind, h1, h2, Result.andThen_ok, Bool.not_true, Bool.false_eq_true, if_false, ih]
    · exact ih
theorem eqS_self (T : TypeId) (l : List (TypeId × Nat)) (ht : P.underlying T = some (.struct (P.fieldsOf T))) (hp : P.stoodInHeld T = false) (hl : ((P.fieldsOf T).toList.map fun f => (f.type, f.offset)) = l)
    (h : ∀ q ∈ l, ∃ a, (∀ w, (part q.1 xs q.2).run P w = .ok a w) ∧ ∀ w, (Op.equalIn d q.1 a a).run P w = .ok true w) (w : World) : (Op.equalIn (d + 1) T (.agg xs) (.agg xs)).run P w = .ok true w := by
  rw [run_equalIn_struct w d T xs xs ht hp]
  refine eqF_self _ (fun f hf => ?_) w
  exact h (f.type, f.offset) (by rw [← hl]; exact List.mem_map.2 ⟨f, hf, rfl⟩)
theorem part_int {e : TypeId} {k : IntKind} (he : P.underlying e = some (.int k)) (i : Nat) (z : Int) (hv : xs[i]? = some (.int k z)) : ∃ a, (∀ w, (part e xs i).run P w = .ok a w) ∧ ∀ w, (Op.equalIn (d + 1) e a a).run P w = .ok true w :=
  ⟨_, fun w => run_part_int he xs i _ hv w, fun w => by rw [run_equalIn_int w d e k k z z he]; simp⟩
theorem part_row {e : TypeId} {i : TypeInfo} {dd : TypeDesc} (he : P.underlying e = some dd) (hd : (match dd with | .struct _ | .array _ _ => true | _ => false) = true) (hi : P.info? e = some i) (off : Nat) (w : World) : (part e xs off).run P w = .ok (.agg (xs.extract off (off + i.size))) w := by
  have hc : P.cellsOf e = i.size := by unfold Program.cellsOf; simp [hi]
  unfold part isAgg
  cases dd <;> simp_all [Sem.run_bind, run_underlying he, run_sizeOf w hi]
end
set_option maxRecDepth 20000 in
theorem eqIn_keyD (d : Nat) (k : Frm.Bs) (hk : k.length = 32) (w : World) : (Op.equalIn (d + 2) 41 (.agg (bys k).toArray) (.agg (bys k).toArray)).run Tryz.prog w = .ok true w := by
  obtain ⟨i, hi, _⟩ := info8p
  have h := run_equalIn_array (P := Tryz.prog) w (d + 1) (bys k).toArray (bys k).toArray (t := 41) Tryz.underlying41 hi
  rw [bys_ints, show Tryz.prog.cellsOf 5 = 1 from by kernel_rfl, run_eqItems_int d (P := Tryz.prog) Tryz.underlying5 _ _ (List.range 32) (fun i hi => by have := List.mem_range.1 hi; simp; omega)] at h
  rw [bys_ints, h]
  simp
theorem info_id : ∃ i : TypeInfo, Tryz.prog.info? 41 = some i ∧ i.size = 32 := by
  have h : (Tryz.prog.info? 41).map (·.size) = some 32 := by kernel_rfl
  cases hq : Tryz.prog.info? 41 with
  | none => rw [hq] at h; cases h
  | some i => rw [hq] at h; exact ⟨i, rfl, by simpa using h⟩
theorem info_plc : ∃ i : TypeInfo, Tryz.prog.info? 39 = some i ∧ i.size = 3 := by
  have h : (Tryz.prog.info? 39).map (·.size) = some 3 := by kernel_rfl
  cases hq : Tryz.prog.info? 39 with
  | none => rw [hq] at h; cases h
  | some i => rw [hq] at h; exact ⟨i, rfl, by simpa using h⟩
theorem part_key {xs : Array Value} {d : Nat} (off : Nat) (k : Frm.Bs) (hk : k.length = 32) (hx : xs.extract off (off + 32) = (bys k).toArray) : ∃ a, (∀ w, (part 41 xs off).run Tryz.prog w = .ok a w) ∧ ∀ w, (Op.equalIn (d + 2) 41 a a).run Tryz.prog w = .ok true w := by
  obtain ⟨i, hi, hs⟩ := info_id
  exact ⟨.agg (bys k).toArray, fun w => by rw [part_row Tryz.underlying41 rfl hi off w, hs, hx], fun w => eqIn_keyD d k hk w⟩
theorem eqIn_use (a b c : Int) (w : World) : (Op.equalIn 10000 115 (.agg #[.int .i64 a, .int .i64 b, .int .i64 c]) (.agg #[.int .i64 a, .int .i64 b, .int .i64 c])).run Tryz.prog w = .ok true w := by
  refine eqS_self (d := 9999) 115 [(3, 0), (3, 1), (3, 2)] (by kernel_rfl) (by kernel_rfl) (by kernel_rfl) (fun q hq => ?_) w
  simp only [List.mem_cons, List.not_mem_nil, or_false] at hq
  rcases hq with rfl | rfl | rfl
  · exact part_int Tryz.underlying3 0 a rfl
  · exact part_int Tryz.underlying3 1 b rfl
  · exact part_int Tryz.underlying3 2 c rfl
theorem eqIn_plc (d : Nat) (q : Seg.Plc) (w : World) : (Op.equalIn (d + 2) 39 (.agg (penc q).toArray) (.agg (penc q).toArray)).run Tryz.prog w = .ok true w := by
  refine eqS_self (d := d + 1) 39 [(3, 0), (3, 1), (3, 2)] (by kernel_rfl) (by kernel_rfl) (by kernel_rfl) (fun q hq => ?_) w
  simp only [List.mem_cons, List.not_mem_nil, or_false] at hq
  rcases hq with rfl | rfl | rfl
  · exact part_int Tryz.underlying3 0 _ rfl
  · exact part_int Tryz.underlying3 1 _ rfl
  · exact part_int Tryz.underlying3 2 _ rfl
theorem kv_key (q : Frm.Bs × Seg.Plc) (hk : q.1.length = 32) : (kvL q).toArray.extract 0 (0 + 32) = (bys q.1).toArray := by
  apply Array.toList_inj.1
  rw [Array.toList_extract, List.toList_toArray, List.toList_toArray]
  unfold kvL
  simp only [List.extract, List.drop_zero, Nat.zero_add, Nat.sub_zero]
  rw [List.take_append_of_le_length (by rw [bys_len]; omega), List.take_of_length_le (by rw [bys_len]; omega)]
theorem kv_plc (q : Frm.Bs × Seg.Plc) (hk : q.1.length = 32) : (kvL q).toArray.extract 32 (32 + 3) = (penc q.2).toArray := by
  apply Array.toList_inj.1
  rw [Array.toList_extract, List.toList_toArray, List.toList_toArray]
  unfold kvL
  simp only [List.extract]
  rw [List.drop_append, List.drop_of_length_le (by rw [bys_len]; omega), bys_len, hk, List.nil_append]
  rfl
theorem eqIn_kv (q : Frm.Bs × Seg.Plc) (hk : q.1.length = 32) (w : World) : (Op.equalIn 10000 117 (.agg (kvL q).toArray) (.agg (kvL q).toArray)).run Tryz.prog w = .ok true w := by
  refine eqS_self (d := 9999) 117 [(41, 0), (39, 32)] (by kernel_rfl) (by kernel_rfl) (by kernel_rfl) (fun x hx => ?_) w
  simp only [List.mem_cons, List.not_mem_nil, or_false] at hx
  rcases hx with rfl | rfl
  · exact part_key 0 q.1 hk (kv_key q hk)
  · obtain ⟨i, hi, hs⟩ := info_plc
    exact ⟨.agg (penc q.2).toArray, fun w => by rw [part_row Tryz.underlying39 rfl hi 32 w, hs, kv_plc q hk], fun w => eqIn_plc 9997 q.2 w⟩
section
variable {P : Program} {T : TypeId} {cs : Array Value}
theorem neq_self (h : ∀ w, (Op.equalIn 10000 T (.agg cs) (.agg cs)).run P w = .ok true w) (w : World) : (binOp .neq T (.agg cs) (.agg cs)).run P w = .ok (.bool false) w := by
  rw [run_neq_struct, h]; rfl
end
end Go.Proofs.YtmjldaedhmipkaaGreatDoor
namespace Go.Frm
end Go.Frm
namespace Go.Proofs.YtmjldaedhmipkaaGreatDoor
open Go Go.Sl Go.Med Go.MapKept Go.RowKit
section
variable {w0 w : World} {F : List HProp} {av bv v : Value}
set_option maxRecDepth 20000 in
set_option maxHeartbeats 4000000 in
theorem sameIndex_c (l : List (Bs × Seg.Plc)) (hk : ∀ q ∈ l, q.1.length = 32) (ha : Ro w0 F (rdsl 35 av (l.flatMap kvL))) (hb : Ro w0 F (rdsl 35 bv (l.flatMap kvL))) (h : Sat w0 w F) (hlen : l.length ≤ 1073741824) :
    Calls Tryz.prog 55 #[av, bv] w (Rtn fun v w' => v = .bool true ∧ Sat w0 w' F) := by
  have Hkl := Lib.hid (show ∀ q ∈ l, (kvL q).length = 35 from fun q hq => kvL_len q (hk q hq))
  obtain ⟨aa, ac, rfl⟩ := osl_rows Hkl.out (ha w h) (by decide)
  obtain ⟨ba, bc, rfl⟩ := osl_rows Hkl.out (hb w h) (by decide)
  have Ha := Lib.hid ha; have Hb := Lib.hid hb; have Hk := Lib.hid hk; have Hlen := Lib.hid hlen
  clear ha hb hk hlen
  go_enter Tryz.func55, Tryz.ntmps55
  go_wp2_with fail
  go_loopg [5] l.length (fun g iq wr => ∃ i : Nat, g = l.length - i ∧ i ≤ l.length ∧ iq = .int .i64 i ∧ Sat w0 wr F)
  case atStart => exact ⟨0, rfl, Nat.zero_le _, rfl, h⟩
  case round =>
    obtain ⟨i, rfl, hiN, rfl, hS⟩ := hrel
    clear h
    by_cases hi : i < l.length
    · have hic : (i : Int) < (l.length : Int) := by omega
      have hwi : IntKind.i64.wrap ((i : Int) + 1) = (i : Int) + 1 := IntWalk.i64_in _ (by have := Hlen.out; omega)
      obtain ⟨q, hq⟩ : ∃ q, l[i]? = some q := ⟨_, List.getElem?_eq_getElem hi⟩
      have hS1 := hS.drew
      obtain ⟨bk, off, c', e1, d1⟩ := osl_row Hkl.out (Ha.out _ hS1) hq (by decide)
      obtain ⟨bk2, off2, c2', e2, d2⟩ := osl_row Hkl.out (Hb.out _ hS1) hq (by decide)
      cases e1; cases e2
      have Hqk := Lib.hid (Hk.out q (List.mem_of_getElem? hq))
      have Hql := Lib.hid (Hkl.out q (List.mem_of_getElem? hq))
      have Hi := Lib.hid hi
      clear hq hi hiN
      go_wp2_with fail
      refine wpL_begin [8] (fun w' => w'.rangeAt bk (off + i * 35) (kvL q) ∧ w'.rangeAt bk2 (off2 + i * 35) (kvL q)) (by kernel_rfl) ?_
      have hG : World.rangeAt _ bk (off + i * 35) (kvL q) ∧ World.rangeAt _ bk2 (off2 + i * 35) (kvL q) := And.intro d1 d2
      refine rp 0 (hy := (yl_move evD)) (h := ?_)
      refine rp 1 (hy := (yl_move evD)) (h := ?_)
      refine rp 2 (hy := (yl_index evD evD rnD)) (h := ?_)
      refine rg_take 3 evD (by kernel_rfl) (by intro _ _ _ h; exact h) (tk_loadN (b := bk) (o := off + i * 35) (kvL q) (by rfl) Tryz.underlying117 rfl (by rw [Hql.out]; kernel_rfl) (fun w hw => hw.1)) (by assumption) (by go_frame; first | done | rfl) ?_
      refine rp 4 (hy := (yl_move evD)) (h := ?_)
      refine rp 5 (hy := (yl_move evD)) (h := ?_)
      refine rp 6 (hy := (yl_index evD evD rnD)) (h := ?_)
      refine rg_take 7 evD (by kernel_rfl) (by intro _ _ _ h; exact h) (tk_loadN (b := bk2) (o := off2 + i * 35) (kvL q) (by rfl) Tryz.underlying117 rfl (by rw [Hql.out]; kernel_rfl) (fun w hw => hw.2)) (by assumption) (by go_frame; first | done | rfl) ?_
      clear hG d1 d2
      refine rg_pure 8 evD (by kernel_rfl) (by intro _ _ _ h; exact h) (yl_bin evD evD (fun w => by
        have := neq_self (eqIn_kv q Hqk.out) w
        simp [eqGuard, Sem.run_bind, this]; rfl)) (by go_frame; first | done | rfl) ?_
      refine wpL_done (by kernel_rfl) ?_
      try simp only [List.getElem_toArray, List.getElem_cons_succ, List.getElem_cons_zero]
      try go_frame
      go_wp2_with fail
      go_roundg (l.length - (i + 1))
      case measure => have := Hi.out; omega
      case rel => exact ⟨i + 1, rfl, Nat.succ_le_of_lt Hi.out, by first | rfl | go_num, hS1⟩
    · obtain rfl : i = l.length := by omega
      have hic : ¬ (l.length : Int) < (l.length : Int) := by omega
      clear hi hiN
      go_wp2_with fail
      go_ret
      exact ⟨.bool true, rfl, rfl, hS⟩
set_option maxRecDepth 20000 in
set_option maxHeartbeats 4000000 in
theorem sameUses_c (l : List Rep.Use) (ha : Ro w0 F (rdsl 3 av (l.flatMap uenc))) (hb : Ro w0 F (rdsl 3 bv (l.flatMap uenc))) (h : Sat w0 w F) (hlen : l.length ≤ 1073741824) :
    Calls Tryz.prog 57 #[av, bv] w (Rtn fun v w' => v = .bool true ∧ Sat w0 w' F) := by
  have Hkl := Lib.hid (show ∀ q ∈ l, (uenc q).length = 3 from fun q hq => uenc_len q)
  obtain ⟨aa, ac, rfl⟩ := osl_rows Hkl.out (ha w h) (by decide)
  obtain ⟨ba, bc, rfl⟩ := osl_rows Hkl.out (hb w h) (by decide)
  have Ha := Lib.hid ha; have Hb := Lib.hid hb; have Hlen := Lib.hid hlen
  clear ha hb hlen
  go_enter Tryz.func57, Tryz.ntmps57
  go_wp2_with fail
  go_loopg [5] l.length (fun g iq wr => ∃ i : Nat, g = l.length - i ∧ i ≤ l.length ∧ iq = .int .i64 i ∧ Sat w0 wr F)
  case atStart => exact ⟨0, rfl, Nat.zero_le _, rfl, h⟩
  case round =>
    obtain ⟨i, rfl, hiN, rfl, hS⟩ := hrel
    clear h
    by_cases hi : i < l.length
    · have hic : (i : Int) < (l.length : Int) := by omega
      have hwi : IntKind.i64.wrap ((i : Int) + 1) = (i : Int) + 1 := IntWalk.i64_in _ (by have := Hlen.out; omega)
      obtain ⟨q, hq⟩ : ∃ q, l[i]? = some q := ⟨_, List.getElem?_eq_getElem hi⟩
      have hS1 := hS.drew
      obtain ⟨bk, off, c', e1, d1⟩ := osl_row Hkl.out (Ha.out _ hS1) hq (by decide)
      obtain ⟨bk2, off2, c2', e2, d2⟩ := osl_row Hkl.out (Hb.out _ hS1) hq (by decide)
      cases e1; cases e2
      have Hi := Lib.hid hi
      clear hq hi hiN
      go_wp2_with fail
      refine wpL_begin [8] (fun w' => w'.rangeAt bk (off + i * 3) (uenc q) ∧ w'.rangeAt bk2 (off2 + i * 3) (uenc q)) (by kernel_rfl) ?_
      have hG : World.rangeAt _ bk (off + i * 3) (uenc q) ∧ World.rangeAt _ bk2 (off2 + i * 3) (uenc q) := And.intro d1 d2
      refine rp 0 (hy := (yl_move evD)) (h := ?_)
      refine rp 1 (hy := (yl_move evD)) (h := ?_)
      refine rp 2 (hy := (yl_index evD evD rnD)) (h := ?_)
      refine rg_take 3 evD (by kernel_rfl) (by intro _ _ _ h; exact h) (tk_loadN (b := bk) (o := off + i * 3) (uenc q) (by rfl) Tryz.underlying115 rfl (by kernel_rfl) (fun w hw => hw.1)) (by assumption) (by go_frame; first | done | rfl) ?_
      refine rp 4 (hy := (yl_move evD)) (h := ?_)
      refine rp 5 (hy := (yl_move evD)) (h := ?_)
      refine rp 6 (hy := (yl_index evD evD rnD)) (h := ?_)
      refine rg_take 7 evD (by kernel_rfl) (by intro _ _ _ h; exact h) (tk_loadN (b := bk2) (o := off2 + i * 3) (uenc q) (by rfl) Tryz.underlying115 rfl (by kernel_rfl) (fun w hw => hw.2)) (by assumption) (by go_frame; first | done | rfl) ?_
      clear hG d1 d2
      refine rg_pure 8 evD (by kernel_rfl) (by intro _ _ _ h; exact h) (yl_bin evD evD (fun w => by
        have := neq_self (eqIn_use q.seg q.size q.live) w
        unfold uenc
        simp [eqGuard, Sem.run_bind, this]; rfl)) (by go_frame; first | done | rfl) ?_
      refine wpL_done (by kernel_rfl) ?_
      try simp only [List.getElem_toArray, List.getElem_cons_succ, List.getElem_cons_zero]
      try go_frame
      go_wp2_with fail
      go_roundg (l.length - (i + 1))
      case measure => have := Hi.out; omega
      case rel => exact ⟨i + 1, rfl, Nat.succ_le_of_lt Hi.out, by first | rfl | go_num, hS1⟩
    · obtain rfl : i = l.length := by omega
      have hic : ¬ (l.length : Int) < (l.length : Int) := by omega
      clear hi hiN
      go_wp2_with fail
      go_ret
      exact ⟨.bool true, rfl, rfl, hS⟩
end
end Go.Proofs.YtmjldaedhmipkaaGreatDoor
namespace Go.Rep
open Go.Frm (Bs Fnd)
open Go.Seg (Plc)
open Go.Tab
def hit (k : Bs) (r : Row) : Bool := decide (rtag r < 2) && decide (rkey r = k)
def newIdx (l : List Row) (k : Bs) : Nat → Int
  | 0 => -1
  | i + 1 => match l[i]? with
    | none => newIdx l k i
    | some r => if hit k r = true then (i : Int) else newIdx l k i
section
variable {l : List Row} {k : Bs} {i : Nat} {r : Row}
def elder (r x : Row) : Bool := decide (rtag x = 0) && decide (rkey x = rkey r) && decide (x.1 < r.1)
end
section
variable {V : Type}
def insB (l : List (Bs × V)) (x : Bs × V) : Nat → List (Bs × V) × Bool
  | 0 => ([], false)
  | i + 1 => match l[i]? with
    | none => insB l x i
    | some y => if (insB l x i).2 = false ∧ x.1 < y.1 then ((insB l x i).1 ++ [x] ++ [y], true) else ((insB l x i).1 ++ [y], (insB l x i).2)
variable {l : List (Bs × V)} {x y : Bs × V} {i : Nat}
end
section
variable {l : List Row} {us : List Use} {i k : Nat} {r : Row} {u : Use}
def uMix (l : List Row) (us : List Use) (i k : Nat) : List Use := (uAt l us (i + 1)).take k ++ (uAt l us i).drop k
end
end Go.Rep
namespace Go.Proofs.YtmjldaedhmipkaaGreatDoor
open Go Go.Sl Go.Med Go.MapKept Go.RowKit
def rwL (q : Rep.Row × Value) : List Value := .int .i64 q.1.1 :: fndL q.1.2 q.2
def zeroR : Rep.Row × Value := ((0, zeroF), .slice none 0 0)
section
variable {w0 w : World} {F : List HProp} {rv : Value}
end
section
variable {w0 w : World} {F : List HProp} {rv : Value}
end
section
variable {w0 w : World} {F : List HProp} {lv : Value}
end
end Go.Proofs.YtmjldaedhmipkaaGreatDoor
namespace Go.Seg
open Go.Med
def Log.rbegin1 (L : Log) (D : Med) (b : Bs) : (Log × Med) × Plc × Int :=
  if 1048576 ≤ L.next then ((L, D), Plc.zero, 16)
  else if (D.create (name L.next)).2 ≠ 0 then ((L, (D.create (name L.next)).1), Plc.zero, (D.create (name L.next)).2)
  else if ((D.create (name L.next)).1.append (name L.next) (mag ++ b)).2 = 0 then
    (({ L with l := L.l ++ [(L.next, 8 + (b.length : Int))], on := true, fresh := L.fresh + 1 }, ((D.create (name L.next)).1.append (name L.next) (mag ++ b)).1), ⟨L.next, 8, b.length⟩, 0)
  else if ((D.create (name L.next)).1.append (name L.next) (mag ++ b)).2 = 11 then
    ((L, (((D.create (name L.next)).1.append (name L.next) (mag ++ b)).1.rmove (name L.next) ByteArray.empty true).1), Plc.zero,
      if (((D.create (name L.next)).1.append (name L.next) (mag ++ b)).1.rmove (name L.next) ByteArray.empty true).2 = 12 then 12 else 11)
  else ((L, ((D.create (name L.next)).1.append (name L.next) (mag ++ b)).1), Plc.zero, ((D.create (name L.next)).1.append (name L.next) (mag ++ b)).2)
def Log.rbegin (L : Log) (D : Med) (b : Bs) : (Log × Med) × Plc × Int :=
  if (L.shut D).2 = 0 then (L.shut D).1.1.rbegin1 (L.shut D).1.2 b else ((L.shut D).1, Plc.zero, (L.shut D).2)
def Log.rappend (L : Log) (D : Med) (x : Frm.Ent) : (Log × Med) × Plc × Int :=
  if (Frm.encode x).2 ≠ 0 then ((L, D), Plc.zero, (Frm.encode x).2)
  else if L.fits (Frm.encode x).1.length = true then L.grow D (Frm.encode x).1 else L.rbegin D (Frm.encode x).1
def Log.rcommit (L : Log) (M : Med) : (Log × Med) × Int × Int :=
  if (L.rappend M comEnt).2.2 ≠ 0 then ((L.rappend M comEnt).1, 0, (L.rappend M comEnt).2.2)
  else if ((L.rappend M comEnt).1.2.sync (name (L.rappend M comEnt).2.1.seg)).2 ≠ 0 then (((L.rappend M comEnt).1.1, ((L.rappend M comEnt).1.2.sync (name (L.rappend M comEnt).2.1.seg)).1), 0, ((L.rappend M comEnt).1.2.sync (name (L.rappend M comEnt).2.1.seg)).2)
  else if (((L.rappend M comEnt).1.2.sync (name (L.rappend M comEnt).2.1.seg)).1.syncDir).2 ≠ 0 then (((L.rappend M comEnt).1.1, (((L.rappend M comEnt).1.2.sync (name (L.rappend M comEnt).2.1.seg)).1.syncDir).1), 0, (((L.rappend M comEnt).1.2.sync (name (L.rappend M comEnt).2.1.seg)).1.syncDir).2)
  else (({ (L.rappend M comEnt).1.1 with on := false, fresh := 0 }, (((L.rappend M comEnt).1.2.sync (name (L.rappend M comEnt).2.1.seg)).1.syncDir).1), (L.rappend M comEnt).2.1.seg, 0)
def Log.rremove (L : Log) (D : Med) (n : Int) : (Log × Med) × Int :=
  match L.at n with
  | none => ((L, D), 9)
  | some i => if (D.rmove (name n) ByteArray.empty true).2 = 0 then ((L.without i, (D.rmove (name n) ByteArray.empty true).1), 0) else ((L, (D.rmove (name n) ByteArray.empty true).1), (D.rmove (name n) ByteArray.empty true).2)
def Agree {α : Type} (r q : (Log × Med) × α) : Prop := r.1.1 = q.1.1 ∧ r.2 = q.2 ∧ ∃ φ V, Side φ V r.1.2 q.1.2
section
variable {φ : Nat → Nat} {V : Nat → Prop} {M D : Med} {K : Nat} {L : Log}
end
end Go.Seg
namespace Go.Seg
open Go.Med
structure Fit (K : Nat) (D : Med) : Prop where
  ok : D.Ok K
  small : D.Small
  files : D.files.length ≤ 500 + K
section
variable {φ : Nat → Nat} {V : Nat → Prop} {M D : Med} {K : Nat} {L : Log}
theorem Fit.new (K r : Nat) (h : r ≤ 16777216) : Fit K (new r) := ⟨Med.Ok.new K r h, (fun f hf => by cases hf), Nat.zero_le _⟩
def Log.rback : Nat → Log → Med → (Log × Med) × Int
  | 0, L, M => (({ L with on := false }, M), 0)
  | k + 1, L, M =>
    match L.l.getLast? with
    | none => (({ L with on := false }, M), 0)
    | some s => if (L.rremove M s.1).2 = 0 then Log.rback k (L.rremove M s.1).1.1 (L.rremove M s.1).1.2 else L.rremove M s.1
def Log.rrollback (L : Log) (M : Med) : (Log × Med) × Int := L.rback L.fresh.toNat M
end
end Go.Seg
namespace Go.Frm
def bst (x : Nat) : Nat := (x / 2) ^^^ (if x % 2 = 1 then 3988292384 else 0)
def bitIn (x c k : Nat) : Nat := if x % 2 ≠ c / 2 ^ k % 2 then (x / 2) ^^^ 3988292384 else x / 2
def bitsIn (x c : Nat) : Nat → Nat
  | 0 => x
  | k + 1 => bitIn (bitsIn x c k) c k
end Go.Frm
namespace Go.Proofs.YtmjldaedhmipkaaGreatDoor
open Go Go.Sl Go.Med Go.MapKept Go.RowKit
section
variable {w0 w : World} {F : List HProp} {v bv : Value}
end
end Go.Proofs.YtmjldaedhmipkaaGreatDoor
namespace Go.Frm
end Go.Frm
namespace Go.Proofs.YtmjldaedhmipkaaGreatDoor
open Go Go.Sl Go.Med Go.MapKept Go.RowKit
section
variable {w0 w : World} {F : List HProp} {v bv : Value}
end
section
variable {w0 w : World} {F R : List HProp} {d : Nat} {D : Med} {fsv fv nv wv v lv : Value} {xs : List RF} {g : Bag} {K : Nat}
end
section
variable {w0 w : World} {F R : List HProp} {d : Nat} {D : Med} {fsv fv nv wv v lv : Value} {xs : List RF} {g : Bag} {K : Nat}
section
variable {ops : Array Oper} {rest : List Oper} {a : Act} {Q : Exit → Act → World → Prop} {dst : Option Tmp} {t : Nat} {pos : String} {after : Array Edge} {s y : Operand} {x : Value} {l k : Bs} {K : Act → World → Prop} {E : Prop}
end
end
section
variable {P : Program} {w0 w : World} {L L' : List HProp} {b o : Nat} {ops : Array Oper} {rest : List Oper} {a : Act} {Q : Exit → Act → World → Prop} {dst : Option Tmp} {t ty T sz n c : Nat} {pos : String} {after : Array Edge} {x y : Operand} {v : Value} {xs : List Value} {K : Act → World → Prop} {E : Prop}
end
section
variable {w0 w : World} {F R : List HProp} {d i : Nat} {D : Med} {fsv fv nv wv v lv bv : Value} {xs : List RF} {x : RF} {g : Bag} {K : Nat}
theorem DskIn.step (h : DskIn D fv nv xs g) : DskIn D.step.1 fv nv xs g := ⟨by rw [step_files]; exact h.files, h.ok, by rw [step_fast]; exact h.fast, by rw [step_now]; exact h.now⟩
end
section
variable {P : Program} {w0 w : World} {F R : List HProp} {ops : Array Oper} {rest : List Oper} {a : Act} {Q : Exit → Act → World → Prop} {dst : Option Tmp} {t ty T b o : Nat} {pos : String} {after : Array Edge} {x : Operand} {cs : Array Value} {g : Nat × Bool}
end
section
variable {w0 w : World} {F R : List HProp} {bE : Nat} {e : Frm.Ent} {dv : Value}
end
section
variable {w0 w : World} {F R : List HProp} {bE : Nat} {e : Frm.Ent} {dv : Value}
end
section
variable {w0 w : World} {F R : List HProp} {bE : Nat} {e : Frm.Ent} {dv : Value}
end
section
variable {w0 w : World} {F R : List HProp} {bE : Nat} {e : Frm.Ent} {dv : Value}
end
section
variable {w0 w : World} {F R : List HProp} {d : Nat} {D : Med} {fsv fv nv wv v lv bv : Value} {xs : List RF} {g : Bag} {K : Nat}
end
section
variable {w0 w : World} {F R : List HProp} {d : Nat} {D : Med} {fsv fv nv wv v lv bv : Value} {xs : List RF} {g : Bag} {K : Nat}
end
section
variable {P : Program} {w0 w : World} {L L' : List HProp} {b o : Nat} {ops : Array Oper} {a : Act} {Q : Exit → Act → World → Prop} {dst : Option Tmp} {t ty T : TypeId} {pos : String} {after : Array Edge} {x y : Operand} {cs : Array Value} {v : Value} {K : Act → World → Prop} {E : Prop}
end
section
variable {w0 w : World} {F R : List HProp} {d i : Nat} {D : Med} {fsv fv nv wv v lv bv : Value} {xs : List RF} {x : RF} {g : Bag} {K : Nat}
section
variable {P : Program} {b o : Nat} {ops : Array Oper} {rest : List Oper} {a : Act} {Q : Exit → Act → World → Prop} {dst : Option Tmp} {t ty : Nat} {pos : String} {after : Array Edge} {y : Operand}
end
end
section
variable {w0 w : World} {F R : List HProp} {v bv dv x lv : Value}
def keyTo (kk : Bs) (i : Nat) : Bs := kk.take i ++ Frm.zero32.drop i
end
section
variable {w0 w : World} {F R : List HProp} {v bv dv x lv : Value}
end
section
variable {w0 w : World} {F R : List HProp} {v bv dv x lv : Value}
end
section
variable {w0 w : World} {F R : List HProp} {v bv dv x lv : Value}
end
section
variable {w0 w : World} {F R : List HProp} {v bv dv x lv : Value}
end
section
variable {w0 w : World} {F R : List HProp} {v bv dv x lv : Value}
end
end Go.Proofs.YtmjldaedhmipkaaGreatDoor
namespace Go.Seg
end Go.Seg
namespace Go.Proofs.YtmjldaedhmipkaaGreatDoor
open Go Go.Sl Go.Med Go.MapKept Go.RowKit
abbrev rlogPt (p d : Nat) (L : Seg.Log) (lv : Value) : HProp := pt p (.cells #[ptr d, .int .i64 L.limit, lv, .bool L.on, .int .i64 L.fresh] 87 (0,0))
def RLogRaw (p d : Nat) (L : Seg.Log) (lv : Value) : List HProp := [rlogPt p d L lv, osl 84 2 lv (segw L.l)]
def RLogRep (p d : Nat) (L : Seg.Log) : HProp := fun h => ∃ lv, stars (RLogRaw p d L lv) h
section
variable {w0 w : World} {F R : List HProp} {p d : Nat} {L : Seg.Log} {lv v : Value} {D : Med} {K : Nat}
theorem RLogRep.open (h : Sat w0 w (RLogRep p d L :: F)) : ∃ lv, Sat w0 w (rlogPt p d L lv :: osl 84 2 lv (segw L.l) :: F) := by
  obtain ⟨ha, x, hx, q, r, dd, rfl, ⟨lv, hp⟩, hq⟩ := h
  refine ⟨lv, ha, _, hx, ?_⟩
  show stars (RLogRaw p d L lv ++ F) _
  rw [stars_append]
  exact ⟨q, r, dd, rfl, hp, hq⟩
theorem RLogRep.shut (h : Sat w0 w (rlogPt p d L lv :: osl 84 2 lv (segw L.l) :: F)) : Sat w0 w (RLogRep p d L :: F) :=
  Sat.join (M := RLogRaw p d L lv) h fun _ hx => ⟨lv, hx⟩
end
section
variable {P : Program} {w0 w : World} {F R : List HProp} {e : TypeId} {ops : Array Oper} {a : Act} {Q : Exit → Act → World → Prop} {dst : Option Tmp} {ty : TypeId} {t : Nat} {pos : String} {after : Array Edge} {s y : Operand} {v x : Value} {xs ys : List Value} {K : Act → World → Prop} {E : Prop}
end
section
variable {w0 w : World} {F R : List HProp} {p d : Nat} {L : Seg.Log} {lv v : Value} {D : Med} {K : Nat}
end
end Go.Proofs.YtmjldaedhmipkaaGreatDoor
namespace Go.Seg
open Go.Med
end Go.Seg
namespace Go.Seg
end Go.Seg
namespace Go.Proofs.YtmjldaedhmipkaaGreatDoor
open Go Go.Sl Go.Med Go.MapKept Go.RowKit
section
variable {w0 w : World} {F R : List HProp} {p d q : Nat} {L : Seg.Log} {lv v bv : Value} {D : Med} {K : Nat}
end
end Go.Proofs.YtmjldaedhmipkaaGreatDoor
namespace Go.Seg
open Go.Med
end Go.Seg
namespace Go.Proofs.YtmjldaedhmipkaaGreatDoor
open Go Go.Sl Go.Med Go.MapKept Go.RowKit
section
variable {w0 w : World} {F R : List HProp} {p d q : Nat} {L : Seg.Log} {lv v bv : Value} {D : Med} {K : Nat} {s : Int × Int}
end
section
variable {w0 w : World} {F R : List HProp} {p d q : Nat} {L : Seg.Log} {lv v bv : Value} {M : Med} {K : Nat}
end
end Go.Proofs.YtmjldaedhmipkaaGreatDoor
namespace Go.Seg
open Go.Med
end Go.Seg
namespace Go.Proofs.YtmjldaedhmipkaaGreatDoor
open Go Go.Sl Go.Med Go.MapKept Go.RowKit
section
variable {w0 w : World} {F R : List HProp} {p d q : Nat} {L : Seg.Log} {lv v bv : Value} {M : Med} {K : Nat} {s : Int × Int}
end
end Go.Proofs.YtmjldaedhmipkaaGreatDoor
namespace Go.Seg
open Go.Med
section
variable {K K' : Nat} {M M' : Med} {L : Log} {s t : ByteArray} {i : Nat} {sure opn : List (Plc × Frm.Ent)}
theorem app_lt : ∀ (x y u v : Bs), x.length = y.length → x < y → x ++ u < y ++ v
  | [], [], _, _, _, h => absurd h (List.not_lt_nil [])
  | [], _ :: _, _, _, h, _ => by simp at h
  | _ :: _, [], _, _, h, _ => by simp at h
  | a :: x, b :: y, u, v, hl, h => by
    rw [List.cons_append, List.cons_append, List.cons_lt_cons_iff]
    rcases List.cons_lt_cons_iff.1 h with h1 | ⟨e, h1⟩
    · exact .inl h1
    · exact .inr ⟨e, app_lt x y u v (by simpa using hl) h1⟩
theorem app_lt_r : ∀ (x u v : Bs), u < v → x ++ u < x ++ v
  | [], _, _, h => h
  | a :: x, u, v, h => by
    rw [List.cons_append, List.cons_append, List.cons_lt_cons_iff]
    exact .inr ⟨rfl, app_lt_r x u v h⟩
theorem digs_lt : ∀ (k a b : Nat), a < b → b < 10 ^ k → digs a k < digs b k
  | 0, a, b, h, hb => by simp at hb; omega
  | k + 1, a, b, h, hb => by
    show digs (a / 10) k ++ [UInt8.ofNat (48 + a % 10)] < digs (b / 10) k ++ [UInt8.ofNat (48 + b % 10)]
    have hb' : b / 10 < 10 ^ k := by rw [Nat.div_lt_iff_lt_mul (by omega)]; rw [Nat.pow_succ] at hb; exact hb
    rcases Nat.lt_or_ge (a / 10) (b / 10) with q | q
    · exact app_lt _ _ _ _ (by rw [digs_len, digs_len]) (digs_lt k _ _ q hb')
    · have e : a / 10 = b / 10 := by omega
      rw [e]
      refine app_lt_r _ _ _ ?_
      rw [List.cons_lt_cons_iff]
      left
      rw [UInt8.lt_iff_toNat_lt, UInt8.toNat_ofNat', UInt8.toNat_ofNat']
      omega
theorem name_lt {a b : Int} (h1 : 0 ≤ a) (h2 : a < b) (h3 : b < 1048576) : lt (name a) (name b) = true := by
  unfold name
  rw [if_neg (by omega), if_neg (by omega)]
  unfold lt
  rw [decide_eq_true_eq]
  show lead ++ digs a.toNat 8 < lead ++ digs b.toNat 8
  exact app_lt_r _ _ _ (digs_lt 8 _ _ (by omega) (by omega))
theorem number_is {s : ByteArray} (h : (number s).2 = true) : 0 ≤ (number s).1 ∧ (number s).1 < 1048576 ∧ name (number s).1 = s := by
  unfold number at h ⊢
  dsimp only at h ⊢
  split at h
  · rename_i hc
    rw [if_pos hc]
    obtain ⟨c1, c2, c3, c4⟩ := hc
    refine ⟨by simp only; omega, by simp only; omega, ?_⟩
    simp only
    unfold name
    rw [if_neg (by omega)]
    have hl : (s.data.toList.drop 4).length = 8 := by
      have : s.data.toList.length = 12 := by first | exact c1 | (rw [Array.length_toList]; exact c1)
      rw [List.length_drop, this]
    have hd := digs_val (s.data.toList.drop 4) c3
    rw [hl] at hd
    have e : lead ++ digs (Int.toNat ((val (s.data.toList.drop 4) : Nat) : Int)) 8 = s.data.toList := by
      rw [Int.toNat_natCast, hd, ← c2, List.take_append_drop]
    rw [e]
  · cases h
theorem found_mem {l : List ByteArray} {x : Int × Int} (h : x ∈ found M l) : ∃ t ∈ l, (number t).2 = true ∧ x = ((number t).1, (M.size t).1) := by
  unfold found at h
  obtain ⟨t, ht, he⟩ := List.mem_filterMap.1 h
  split at he
  · rename_i hn; exact ⟨t, ht, hn, (Option.some.inj he).symm⟩
  · cases he
theorem list_now (h : t ∈ M.list) : ∃ i, nget M.now t = some i := by
  unfold Med.list at h
  split at h
  · cases h
  · obtain ⟨p, hp, rfl⟩ := List.mem_map.1 h
    cases hg : nget M.now p.1 with
    | none => exact absurd rfl (nget_none hg p hp)
    | some i => exact ⟨i, rfl⟩
theorem found_rise : ∀ (l : List ByteArray), l.Pairwise (fun a b => lt a b = true) → ((found M l).map (·.1)).Pairwise (· < ·)
  | [], _ => List.Pairwise.nil
  | t :: l, h => by
    obtain ⟨h1, h2⟩ := List.pairwise_cons.1 h
    have ih := found_rise l h2
    by_cases hn : (number t).2 = true
    · have e : found M (t :: l) = ((number t).1, (M.size t).1) :: found M l := by unfold found; rw [List.filterMap_cons]; simp [hn]
      rw [e, List.map_cons, List.pairwise_cons]
      refine ⟨fun x hx => ?_, ih⟩
      obtain ⟨y, hy, rfl⟩ := List.mem_map.1 hx
      obtain ⟨u, hu, hun, rfl⟩ := found_mem hy
      have hlt := h1 u hu
      obtain ⟨a1, a2, a3⟩ := number_is hn
      obtain ⟨b1, b2, b3⟩ := number_is hun
      rcases Int.lt_or_le (number t).1 (number u).1 with q | q
      · exact q
      · exfalso
        rcases Int.lt_or_eq_of_le q with q | q
        · have h3 := name_lt b1 q a2
          rw [a3, b3] at h3
          have := lt_trans hlt h3
          rw [lt_irrefl] at this; cases this
        · rw [← a3, ← q, b3, lt_irrefl] at hlt; cases hlt
    · have e : found M (t :: l) = found M l := by unfold found; rw [List.filterMap_cons]; simp [hn]
      rw [e]; exact ih
theorem fresh_ok (ok : M.Ok K) (limit : Int) (h1 : 128 ≤ limit) (h2 : limit ≤ 1048576) : (fresh M limit).Ok := by
  refine ⟨⟨h1, h2⟩, ?_, fun x hx => ?_, fun x hx => ?_, ⟨Int.le_refl _, by simp [fresh]⟩, fun hh => by cases hh⟩
  · refine found_rise M.list ?_
    unfold Med.list
    split
    · exact List.Pairwise.nil
    · rw [List.pairwise_map]; exact ok.nowOk.srt
  · obtain ⟨t, _, hn, rfl⟩ := found_mem hx
    have := number_is hn
    exact ⟨this.1, this.2.1⟩
  · obtain ⟨t, _, hn, rfl⟩ := found_mem hx
    unfold Med.size
    split
    · simp
    split
    · simp
    · have := (ok.file ‹Nat›).now_len
      simp only
      omega
end
end Go.Seg
namespace Go.Seg
open Go.Med
section
variable {φ : Nat → Nat} {V : Nat → Prop} {M D : Med} {K : Nat} {L : Log}
theorem alive_yes (ok : M.Ok K) (hoff : M.off = false) : alive M = 0 := by
  unfold alive Med.size
  rw [hoff]
  simp only [Bool.false_eq_true, if_false]
  cases hg : nget M.now ByteArray.empty with
  | none => rfl
  | some i => exact absurd rfl (ok.nowOk.ne _ (nget_mem hg))
end
structure Two (i : Nat) (L : Log) (M D : Med) : Prop where
  log : L.Ok
  ok : M.Ok (i * 2000)
  fit : Fit (i * 2000) D
  side : ∃ φ V, Side φ V M D
  fresh : L.fresh ≤ i
structure Step {α : Type} (i : Nat) (a b : (Log × Med) × α) : Prop where
  log : b.1.1 = a.1.1
  res : b.2 = a.2
  two : Two i a.1.1 a.1.2 b.1.2
section
variable {i : Nat} {M D : Med} {L : Log}
theorem Two.first (r : Nat) (hr : r ≤ 16777216) (limit : Int) (h1 : 128 ≤ limit) (h2 : limit ≤ 1048576) : Two 0 (Seg.fresh (new r) limit) (new r) (new r) :=
  ⟨fresh_ok (Med.Ok.new 0 r hr) limit h1 h2, Med.Ok.new _ r hr, Fit.new _ r hr, ⟨_, _, Side.new r⟩, Int.le_refl _⟩
end
end Go.Seg
namespace Go.Seg
open Go.Med
open Go.Frm (encs GoodE)
section
variable {K : Nat} {M M' : Med} {L : Log} {s t : ByteArray} {i : Nat}
def Grow (M : Med) : Prop := ∀ j, ∀ c ∈ (M.file j).waits, c.cut = false
def Dur (s : ByteArray) (i : Nat) (M : Med) : Prop := nget M.fast s = some i ∧ ∀ w ∈ M.waits, w.fr ≠ s ∧ w.to ≠ s
structure Ext (s : ByteArray) (i : Nat) (M M' : Med) : Prop where
  now : nget M'.now s = some i
  dur : Dur s i M → Dur s i M'
  fast : ∀ j, (M.file j).fast <+: (M'.file j).fast
  bytes : ∀ j, (M.file j).now <+: (M'.file j).now
end
end Go.Seg
namespace Go.Seg
open Go.Med
open Go.Frm (encs GoodE)
section
variable {K : Nat} {M M' : Med} {L : Log} {s t : ByteArray} {i : Nat}
def nf (L : Log) : List Int := (L.l.map (·.1)).take (L.l.length - L.fresh.toNat)
def Slice (p : Plc) (x : Frm.Ent) (b : Bs) : Prop := ∃ a : Nat, p.at_ = a ∧ p.size = ((Frm.encode x).1.length : Int) ∧ (Frm.encode x).1 <+: b.drop a
structure Sure (L : Log) (M : Med) (p : Plc) (x : Frm.Ent) : Prop where
  good : GoodE x
  mem : p.seg ∈ nf L
  file : ∃ i, nget M.now (name p.seg) = some i ∧ Dur (name p.seg) i M ∧ Slice p x (M.file i).fast
structure Pend (L : Log) (M : Med) (p : Plc) (x : Frm.Ent) : Prop where
  good : GoodE x
  mem : p.seg ∈ L.l.map (·.1)
  file : ∃ i, nget M.now (name p.seg) = some i ∧ Slice p x (M.file i).now ∧ (Slice p x (M.file i).fast ∨ L.on = true ∧ ∃ s, L.l.getLast? = some s ∧ s.1 = p.seg)
structure St (K : Nat) (L : Log) (M : Med) (sure opn : List (Plc × Frm.Ent)) : Prop where
  log : L.Ok
  ok : M.Ok K
  grow : Grow M
  has : Has L M
  tail : L.on = true → ∃ s i, L.l.getLast? = some s ∧ nget M.now (name s.1) = some i ∧ s.2 = ((M.file i).now.length : Int)
  sure : ∀ q ∈ sure, Sure L M q.1 q.2
  opn : M.off = false → ∀ q ∈ opn, Pend L M q.1 q.2
variable {sure opn : List (Plc × Frm.Ent)}
end
end Go.Seg
namespace Go.Seg
open Go.Med
open Go.Frm (encs GoodE)
section
variable {K K' : Nat} {M M' : Med} {L : Log} {s t : ByteArray} {i : Nat} {sure opn : List (Plc × Frm.Ent)}
theorem syncDir_same (M : Med) : M.syncDir.1.now = M.now ∧ M.syncDir.1.files = M.files := by
  obtain ⟨_, sf, sn, sfi, sw⟩ := M.step_same
  unfold Med.syncDir
  split; · exact ⟨rfl, rfl⟩
  split
  · exact ⟨sn, sfi⟩
  · exact ⟨sn, sfi⟩
end
end Go.Seg
namespace Go.Med
def FCap (c : Nat) (f : Fil) : Prop := ∀ k, k ≤ f.waits.length → (f.at k).length ≤ c
section
variable {c c' K : Nat} {f : Fil} {M : Med}
theorem FCap.new (c : Nat) : FCap c Fil.new := fun k _ => by simp [Fil.new, Fil.at]
def Med.Cap (c : Nat) (M : Med) : Prop := ∀ f ∈ M.files, FCap c f
theorem Med.Cap.new (c room : Nat) : (Med.new room).Cap c := fun f hf => by cases hf
end
end Go.Med
namespace Go.Seg
open Go.Med
section
variable {c c' K n : Nat} {L : Log} {M : Med}
end
end Go.Seg
namespace Go.Seg
open Go.Med
end Go.Seg
namespace Go.Proofs.YtmjldaedhmipkaaGreatDoor
open Go Go.Sl Go.Med Go.MapKept Go.RowKit
section
variable {w0 w : World} {F R : List HProp} {p d q : Nat} {L : Seg.Log} {lv v bv : Value} {M : Med} {K : Nat} {s : Int × Int}
end
end Go.Proofs.YtmjldaedhmipkaaGreatDoor
namespace Go.Seg
open Go.Med
def Log.drop (t : List Int) : Nat → Log → Med → (Log × Med) × Int
  | 0, L, M => if t = [] then ((L, M), 0) else ((L, M.syncDir.1), M.syncDir.2)
  | k + 1, L, M => if (L.remove M (t.getD k 0)).2 = 0 then Log.drop t k (L.remove M (t.getD k 0)).1.1 (L.remove M (t.getD k 0)).1.2 else L.remove M (t.getD k 0)
def Log.rdrop (t : List Int) : Nat → Log → Med → (Log × Med) × Int
  | 0, L, M => if t = [] then ((L, M), 0) else ((L, M.syncDir.1), M.syncDir.2)
  | k + 1, L, M => if (L.rremove M (t.getD k 0)).2 = 0 then Log.rdrop t k (L.rremove M (t.getD k 0)).1.1 (L.rremove M (t.getD k 0)).1.2 else L.rremove M (t.getD k 0)
section
variable {t : List Int} {L : Log} {M D : Med} {K i : Nat}
theorem drop_nil (h : t = []) : Log.drop t 0 L M = ((L, M), 0) := by unfold Log.drop; rw [if_pos h]
theorem drop_end (h : t ≠ []) : Log.drop t 0 L M = ((L, M.syncDir.1), M.syncDir.2) := by unfold Log.drop; rw [if_neg h]
theorem drop_go {k : Nat} (h : (L.remove M (t.getD k 0)).2 = 0) : Log.drop t (k + 1) L M = Log.drop t k (L.remove M (t.getD k 0)).1.1 (L.remove M (t.getD k 0)).1.2 := by
  conv => lhs; unfold Log.drop
  rw [if_pos h]
theorem drop_no {k : Nat} (h : (L.remove M (t.getD k 0)).2 ≠ 0) : Log.drop t (k + 1) L M = L.remove M (t.getD k 0) := by
  conv => lhs; unfold Log.drop
  rw [if_neg h]
theorem remove_med (h : M.Ok K) (n : Int) : (L.remove M n).1.2.Ok (K + 1) := by
  unfold Log.remove
  cases L.at n with
  | none => exact h.mono (Nat.le_succ K)
  | some i => simp only; split <;> exact h.remove _
end
end Go.Seg
namespace Go.Seg
open Go.Med
structure TwoM (i : Nat) (M D : Med) : Prop where
  ok : M.Ok (i * 2000)
  fit : Fit (i * 2000) D
  side : ∃ φ V, Side φ V M D
  quiet : Quiet M
  cap : M.Cap (i * 2000)
  now : M.now.length ≤ i
section
variable {i j K : Nat} {M D : Med}
theorem TwoM.first (r : Nat) (hr : r ≤ 16777216) : TwoM 0 (Med.new r) (Med.new r) :=
  ⟨Med.Ok.new _ r hr, Fit.new _ r hr, ⟨_, _, Side.new r⟩, Quiet.new r, Med.Cap.new _ r, Nat.le_refl 0⟩
end
section
variable {i n c K : Nat} {L : Log} {M D : Med}
theorem segs_rise (h : L.Ok) : L.segs.Pairwise (· < ·) := h.rise
theorem bytes_all (h : L.Ok) (M : Med) {s : Int} (hs : s ∈ L.segs) : L.bytes M s = M.all (name s) := by
  unfold Log.segs at hs
  obtain ⟨x, hx, rfl⟩ := List.mem_map.1 hs
  obtain ⟨k, hk⟩ := List.getElem?_of_mem hx
  unfold Log.bytes
  cases hat : L.at x.1 with
  | none =>
    exfalso
    unfold Log.at at hat
    rw [List.findIdx?_eq_none_iff] at hat
    have := hat _ hx
    simp at this
  | some i => rfl
end
end Go.Seg
namespace Go.Proofs.YtmjldaedhmipkaaGreatDoor
open Go Go.Sl Go.Med Go.MapKept Go.RowKit
section
variable {P : Program} {ops : Array Oper} {a : Act} {dst : Option Tmp} {t ty : TypeId} {pos : String} {after : Array Edge} {x y : Operand} {v v1 v2 : Value} {i1 i2 : Nat}
theorem yl_build2 (hx : a.eval x = v1) (hy : a.eval y = v2) (hr : ∀ w, (Instr.build ty #[(i1, v1), (i2, v2)]).run P w = .ok v w) : Yields P ops ⟨dst, .build ty #[(i1, x), (i2, y)], t, pos, after, none⟩ v a :=
  .inl ⟨want_none _ rfl, fun w => by simp only [execOp, List.map_toArray, List.map_cons, List.map_nil, hx, hy, Sem.run_bind, hr, Result.andThen_ok, Sem.run_pure]⟩
end
section
variable {w0 w : World} {F : List HProp} {p B : Nat} {m : Frm.Bs → Option (Seg.Plc)}
set_option maxRecDepth 20000 in
set_option maxHeartbeats 8000000 in
theorem rows_c (hB : B ≤ 13000000) (h : Sat w0 w (TabML p m B :: F)) :
    Calls Tryz.prog 56 #[ptr p] w (Rtn fun v w' => ∃ kv : List (Frm.Bs × Seg.Plc), (Tab.Lists m kv ∧ (∀ q ∈ kv, q.1.length = 32) ∧ kv.length ≤ B) ∧ Sat w0 w' (osl 117 35 v (kv.flatMap kvL) :: TabML p m B :: F)) := by
  have hr := keysL_c hB h
  clear h
  go_enter Tryz.func56, Tryz.ntmps56
  go_wp2_with fail
  refine hr.mono ?_
  rintro ee w1 ⟨sv, rfl, kv, hk, hS1⟩
  clear hr
  have Hk := Lib.hid hk
  have Hlen := Lib.hid (show ∀ q ∈ kv, (bys q.1).length = 32 from fun q hq => by rw [bys_len]; exact hk.2.1 q hq)
  obtain ⟨la, lc, rfl⟩ := osl_rows Hlen.out (Sat.rd hS1) (by decide)
  have hsb : kv.length ≤ 13000000 := Nat.le_trans hk.2.2 hB
  have hB2 : B ≤ 268435000 := by omega
  have HB := Lib.hid hB2
  have hS2 : Sat w0 w1 (osl 117 35 (.slice none 0 0) ((kv.take 0).flatMap kvL) :: osl 41 32 (.slice la kv.length lc) (kv.flatMap fun q => bys q.1) :: TabML p m B :: F) := Sat.osl_nil.2 hS1
  clear hk hB hS1 hB2
  go_wp2_with fail
  go_loopg [3, 5] kv.length (fun g oq iq wr => ∃ (i : Nat), g = kv.length - i ∧ i ≤ kv.length ∧ iq = .int .i64 i ∧
    Sat w0 wr (osl 117 35 oq ((kv.take i).flatMap kvL) :: osl 41 32 (.slice la kv.length lc) (kv.flatMap fun q => bys q.1) :: TabML p m B :: F))
  case atStart => exact ⟨0, rfl, Nat.zero_le _, rfl, hS2⟩
  case round =>
    obtain ⟨i, rfl, hi, rfl, hS⟩ := hrel
    clear hS2
    by_cases hlt : i < kv.length
    rotate_left
    · obtain rfl : i = kv.length := by omega
      have c1 : ¬ (kv.length : Int) < (kv.length : Int) := by omega
      rw [List.take_length] at hS
      clear hlt hi
      go_wp2_with fail
      go_ret
      exact ⟨_, rfl, kv, ⟨Hk.out.1, by intros; exact Hk.out.2.1 (_, _) (by assumption), Hk.out.2.2⟩, hS.sb⟩
    have c1 : (i : Int) < (kv.length : Int) := by omega
    have hwi : IntKind.i64.wrap ((i : Int) + 1) = (i : Int) + 1 := IntWalk.i64_in _ (by omega)
    obtain ⟨⟨k, pl⟩, hx⟩ : ∃ q, kv[i]? = some q := ⟨_, List.getElem?_eq_getElem hlt⟩
    have Hx := Lib.hid hx
    have hxm := List.mem_of_getElem? hx
    have Hxk := Lib.hid (Hk.out.2.1 _ hxm)
    have hmk : m k = some pl := (Hk.out.1.mem k pl).1 hxm
    obtain ⟨bk, off, c', hsv, hcell⟩ := osl_row (f := fun q : Frm.Bs × Seg.Plc => bys q.1) (k := 32) Hlen.out (Sat.rd (hS.pick pick1)) hx (by decide)
    cases hsv
    have Htk := Lib.hid (show (kv.take (i + 1)).flatMap kvL = (kv.take i).flatMap kvL ++ kvL (k, pl) by rw [List.take_add_one, hx, Option.toList_some, List.flatMap_append]; simp)
    have Hlt := Lib.hid hlt
    have hg := getL_c HB.out Hxk.out (hS.sb : Sat w0 wr (TabML p m B :: osl 117 35 u3 ((kv.take i).flatMap kvL) :: osl 41 32 (.slice (some ⟨bk, off, none⟩) kv.length lc) (kv.flatMap fun q => bys q.1) :: F))
    rw [hmk, Option.getD_some, Option.isSome_some] at hg
    clear hx hxm hlt hi hmk hS
    go_wp2_with ((with_reducible apply at_load); refine ⟨?_⟩; refine wl_loadW (b := bk) (o := off + i * 32) (bys k) (by rfl) hcell Tryz.underlying41 rfl (by rw [bys_len, Hxk.out]; kernel_rfl) ?_)
    refine hg.mono ?_
    rintro ee w5 ⟨v, rfl, rfl, hS5⟩
    clear hg hcell
    go_wp2_with (with_reducible apply at_alloc)
    refine ⟨?_⟩
    refine wl_alloc zPlc39 hS5 rfl ?_
    intro b6 w6 h6
    go_wp2_with ((with_reducible apply at_store); refine ⟨?_⟩; refine wl_storeA (penc pl).toArray h6 (by rfl) (by rfl) (by rfl) upd0 (by kernel_rfl) (by rfl) ?_; intro w7 h7)
    have h8 := h7.drew
    obtain ⟨bk2, off2, c2, e2, hcell⟩ := osl_row (f := fun q : Frm.Bs × Seg.Plc => bys q.1) (k := 32) Hlen.out (Sat.rd (h8.pick (pick_there (pick_there (pick_there pick0))))) Hx.out (by decide)
    cases e2
    have hG : (w7.drew).rangeAt bk (off + i * 32) (bys k) ∧ (w7.drew).rangeAt b6 0 (penc pl) := ⟨hcell, pt_rangeL (h8.pick pick0)⟩
    clear h7 h6 hS5 hcell
    have hle : ((kv.take i).flatMap kvL).length ≤ 2147483648 := by
      rw [rows_len (k := 35) fun q hq => kvL_len q (Hk.out.2.1 q (List.mem_of_mem_take hq)), List.length_take]; omega
    refine wpL_begin [6, 7, 8, 9] (fun w' => w'.rangeAt bk (off + i * 32) (bys k) ∧ w'.rangeAt b6 0 (penc pl)) (by kernel_rfl) ?_
    refine rp 0 (hy := (yl_move evD)) (h := ?_)
    refine rp 1 (hy := (yl_move evD)) (h := ?_)
    refine rp 2 (hy := (yl_move evD)) (h := ?_)
    refine rp 3 (hy := (yl_index evD evD rnD)) (h := ?_)
    refine rg_take 4 evD (by kernel_rfl) (by intro _ _ _ h; exact h) (tk_loadN (b := bk) (o := off + i * 32) (bys k) (by rfl) Tryz.underlying41 rfl (by rw [bys_len, Hxk.out]; kernel_rfl) (fun w hw => hw.1)) (by assumption) (by go_frame; first | done | rfl) ?_
    refine rg_take 5 evD (by kernel_rfl) (by intro _ _ _ h; exact h) (tk_loadN (b := b6) (o := 0) (penc pl) (by rfl) Tryz.underlying39 rfl (by kernel_rfl) (fun w hw => hw.2)) (by assumption) (by go_frame; first | done | rfl) ?_
    clear hG
    refine rp 6 (hy := (yl_build2 evD evD (fun w => run_kv k Hxk.out pl w))) (h := ?_)
    refine rg_eff 7 evD (by kernel_rfl) (fun K hK => ?_)
    refine eff_build1 (e := 117) (sz := 35) (by' := 56) (by kernel_rfl) h8 evD (cs := (kvL (k, pl)).toArray) rfl (by rw [List.size_toArray, kvL_len _ Hxk.out]) (by decide) ?_
    intro bN wN hN
    refine hK _ _ (.inl rfl) ?_
    clear hK h8
    refine rg_eff 8 evD (by kernel_rfl) (fun K hK => ?_)
    refine eff_app 117 35 56 (by kernel_rfl) hN evD evD (pick_there (pick_there (pick_there pick0))) pick0 (by rw [List.size_toArray, kvL_len _ Hxk.out]) (Nat.le_refl 1) (by rw [List.toList_toArray]; exact kvL_ones _) hle (by rw [List.size_toArray, kvL_len _ Hxk.out]; decide) (by decide) (by rw [List.toList_toArray]) ?_
    intro bA nA cA wA hA
    refine hK _ _ (.inl rfl) ?_
    clear hK hN
    refine rp 9 (hy := (yl_assign evD)) (h := ?_)
    refine wpL_done (by kernel_rfl) ?_
    rw [← Htk.out] at hA
    go_wp2_with fail
    go_roundg (kv.length - (i + 1))
    case measure => have := Hlt.out; omega
    case rel => exact ⟨i + 1, rfl, Hlt.out, by first | rfl | go_num, hA.sb⟩
end
abbrev rstPt (ps : Nat) (last : Int) (iv uv tv : Value) : HProp := pt ps (.cells #[.int .i64 last, iv, uv, tv] 207 (0,0))
section
variable {w0 w : World} {F : List HProp} {rv iv uv tv : Value}
end
section
variable {P : Program} {ops : Array Oper} {a : Act} {dst : Option Tmp} {t ty : TypeId} {pos : String} {after : Array Edge} {x y : Operand} {v vx vy : Value} {g : Option (Nat × Bool)}
end
section
variable {w0 w : World} {F R : List HProp} {v bv dv x lv : Value}
end
section
variable {w0 w : World} {F : List HProp} {q d K : Nat} {L : Seg.Log} {D : Med} {bt : Rep.Told}
end
end Go.Proofs.YtmjldaedhmipkaaGreatDoor
namespace Go.Rep
end Go.Rep
namespace Go.Proofs.YtmjldaedhmipkaaGreatDoor
open Go Go.Sl Go.Med Go.MapKept Go.RowKit
def RRunOut (w0 : World) (F : List HProp) (bt : Rep.Told) (ns : List Int) (q d : Nat) (L : Seg.Log) (D : Med) (v : Value) (w' : World) : Prop :=
  match Rep.run bt ns with
  | .inl (fl, e) => v = .tuple #[.pointer none, .agg (fltA fl), errno e] ∧ Sat w0 w' (RLogRep q d L :: DskRep d D :: F)
  | .inr n => ∃ (ps : Nat) (iv uv tv : Value), v = .tuple #[ptr ps, .agg (fltA Rep.Flt.zero), errno 0] ∧
      Sat w0 w' (rstPt ps (Rep.lastOfL (ns.take n)) iv uv tv :: osl 117 35 iv ((Rep.idx (Rep.rowsOf bt (ns.take n)) (Rep.rowsOf bt (ns.take n)).length).flatMap kvL) ::
        osl 115 3 uv ((Rep.uAt (Rep.rowsOf bt (ns.take n)) (Rep.usesOf bt (ns.take n)) (Rep.rowsOf bt (ns.take n)).length).flatMap uenc) :: osl 3 1 tv (ints (ns.drop n)) :: RLogRep q d L :: DskRep d D :: F)
section
variable {w0 w : World} {F : List HProp} {q d K : Nat} {L : Seg.Log} {D : Med} {bt : Rep.Told}
end
section
variable {w0 w : World} {F : List HProp}
set_option maxRecDepth 20000 in
set_option maxHeartbeats 8000000 in
theorem lives15_c (hH : Ro w0 F Half) (h : Sat w0 w F) :
    Calls Tryz.prog 42 #[] w (Rtn fun v w' => v = .bool true ∧ Sat w0 w' F) := by
  have hnew : Calls Tryz.prog 13 #[.int .i64 1000] w (Rtn fun v w' => ∃ m, v = .tuple #[ptr m, errno 0] ∧ Sat w0 w' (MedRep m (Med.new 1000) :: F)) := new_yes 1000 (by decide) h
  have HH := Lib.hid hH
  clear hH
  go_enter Tryz.func42, Tryz.ntmps42
  go_wp2_with fail
  refine hnew.mono ?_
  rintro e w1 ⟨v, rfl, m, rfl, hS⟩
  clear hnew
  have hop := open_c (K := 20) (Med.Ok.new 20 1000 (by decide)) 200 hS live_alive (by decide) (by decide)
  have hok := Seg.fresh_ok (Med.Ok.new 20 1000 (by decide)) 200 (by decide) (by decide)
  rw [show Seg.fresh (Med.new 1000) 200 = ⟨200, [], false, 0⟩ from live_fresh] at hop hok
  go_wp2_with fail
  refine hop.mono ?_
  rintro e w2 ⟨v, rfl, p, rfl, hS2⟩
  clear hop
  have hrn := run_c hok (Med.Ok.new 20 1000 (by decide)) HH.out (by show 0 ≤ 12000000; decide) (fun r hr => by cases hr) hS2
  go_wp2_with fail
  refine hrn.mono ?_
  rintro e w3 ⟨v, rfl, ho⟩
  clear hrn
  unfold RunOut at ho
  rw [show Rep.run (lbt ⟨200, [], false, 0⟩ (Med.new 1000)) (Seg.Log.segs ⟨200, [], false, 0⟩) = .inr 0 from rfl] at ho
  obtain ⟨ps, pi, uv, tv, av, kv, rfl, _, _, hS3⟩ := ho
  have hS4 : Sat w0 w3 (stPt ps (-1) pi uv tv :: F) := hS3.sb
  clear hS3 hS2 hS
  go_wp2_with (with_reducible apply at_alloc)
  refine ⟨?_⟩
  refine wl_alloc zFlt hS4 rfl ?_
  intro b6 w6 h6
  go_wp2_with (first
    | ((with_reducible apply at_store); refine ⟨?_⟩; refine wl_storeA (fltA Rep.Flt.zero) h6 (by rfl) (by rfl) (by rfl) upd0 (by kernel_rfl) (by rfl) ?_; intro w7 h7)
    | (with_reducible apply at_loadG))
  refine ⟨?_⟩
  refine wl_loadG1 (by rfl) h7 (by rfl) (pick_there pick0) (by show 0 + 1 ≤ 4; decide) (by rfl) (by kernel_rfl) ?_
  go_wp2_with (with_reducible apply at_loadG)
  refine ⟨?_⟩
  refine wl_loadG1 (by rfl) h7 (by rfl) (pick_there pick0) (by show 1 + 1 ≤ 4; decide) (by rfl) (by kernel_rfl) ?_
  go_wp2_with fail
  go_ret
  exact ⟨_, rfl, rfl, h7.drop.drop⟩
end
structure BO (v : Value) (l : Bs) (b o cap : Nat) (cs : Array Value) : Prop where
  eq : v = .slice (some ⟨b, o, none⟩) l.length cap
  le : l.length ≤ cap
  max : cap ≤ 9223372036854775807
  fit : o + cap ≤ cs.size
  rd : ∀ j y, (bys l)[j]? = some y → cs[o + j]? = some y
section
variable {w0 w : World} {R : List HProp} {v x : Value} {l k : Bs} {b o cap : Nat} {cs : Array Value}
theorem BO.rdsl (h : BO v l b o cap cs) (hS : Sat w0 w (pt b (.cells cs 5 (0,0)) :: R)) : rdsl 1 v (bys l) w :=
  ⟨_, _, _, h.eq, by rw [bys_len, Nat.mul_one], fun j y hj => ⟨_, rfl, by
    have hadd : (⟨b, o, none⟩ : Addr).add j = ⟨b, o + j, none⟩ := by unfold Addr.add; split <;> simp_all
    rw [hadd]; exact hS.cellAt (o + j) y (h.rd j y hj)⟩⟩
end
section
variable {w0 w : World} {F : List HProp} {lv : Value}
end
end Go.Proofs.YtmjldaedhmipkaaGreatDoor
namespace Go.Proofs.YtmjldaedhmipkaaGreatDoor
open Go Go.Sl Go.Med Go.ChangeShapes Go.WideShapes Go.RowKit
section
variable {H : Type} {enc : TypeId × Value → H} {W : World} {base : Nat} {spare : Nat → Bool} {held : Bool}
theorem open_key {t : TypeId} {fuel : Nat} {cs : List Value} {x : DataW H × List MemPlace} {k : Nat} (ht : Tryz.prog.underlying t = some (.array k 5)) (hk : Tryz.prog.cellsOf t = k) (h : DataW.trod enc Tryz.prog W base spare held fuel t cs = some x) :
    ∃ l : Bs, bys l = cs ∧ l.length = k := by
  obtain ⟨xs, m, _, _, hl, hxl, hf⟩ := DataW.trod_array ht h
  have e1 : Tryz.prog.cellsOf 5 = 1 := by kernel_rfl
  rw [hk] at hl
  have hz : ∀ i, i < k → ∃ z : Int, cs[i]? = some (.int .u8 z) ∧ (Lit.int .u8 z).wf = true := by
    intro i hi
    have h0 := hf i hi
    rw [List.getElem?_eq_getElem (by omega), e1, Nat.mul_one] at h0
    obtain ⟨z, q1, _, q3⟩ := DataW.trod_int Tryz.underlying5 h0
    refine ⟨z, ?_, q3⟩
    have : ((cs.drop i).take 1)[0]? = some (.int .u8 z) := by rw [q1]; rfl
    rw [List.getElem?_take, if_pos (by decide), List.getElem?_drop] at this
    exact this
  obtain ⟨zs, z1, z2⟩ := list_of_fun hz
  have hcs : cs = zs.map (.int .u8) := by
    apply List.ext_getElem? 
    intro i
    rw [List.getElem?_map]
    by_cases hi : i < k
    · have := (z2 i _ (List.getElem?_eq_getElem (by omega))).1
      rw [this, List.getElem?_eq_getElem (show i < zs.length by omega)]; rfl
    · rw [List.getElem?_eq_none (by omega), List.getElem?_eq_none (by omega)]; rfl
  refine ⟨toBs zs, ?_, by unfold toBs; rw [List.length_map]; exact z1⟩
  rw [bys_toBs, hcs]
  intro z hz
  obtain ⟨i, hi, rfl⟩ := List.getElem_of_mem hz
  exact (z2 i _ (List.getElem?_eq_getElem hi)).2
structure EntAt (W : World) (p : Frm.Ent × Value) : Prop where
  key : p.1.key.length = 32
  tag : inI p.1.tag
  rd : rdsl 1 p.2 (bys p.1.data) W
  cap : capOk p.2
theorem EntAt.ro {p : Frm.Ent × Value} (h : EntAt W p) : EntRo W [Sl.old W] p := ⟨h.key, rd_old h.rd, h.cap⟩
end
end Go.Proofs.YtmjldaedhmipkaaGreatDoor
namespace Go.Proofs.YtmjldaedhmipkaaGreatDoor
open Go Go.Sl Go.Med Go.ChangeShapes Go.WideShapes Go.RowKit
structure PC where
  n : Int
  es : List (Frm.Ent × Value)
  ev : Value
  rest : Bs
  rv : Value
  bad : Bool
  at_ : Int
  plain : Bool
def pcL (d : PC) : List Value := [.int .i64 d.n, d.ev, d.rv, .bool d.bad, .int .i64 d.at_, .bool d.plain]
structure PC.At (W : World) (d : PC) : Prop where
  n : inI d.n
  rd : rdsl 34 d.ev (entsL d.es) W
  cap : capOk d.ev
  ents : ∀ p ∈ d.es, EntAt W p
  rr : rdsl 1 d.rv (bys d.rest) W
  rc : capOk d.rv
  at_ : inI d.at_
structure PCRo (w0 : World) (F : List HProp) (d : PC) : Prop where
  rd : Ro w0 F (rdsl 34 d.ev (entsL d.es))
  cap : capOk d.ev
  ents : ∀ p ∈ d.es, EntRo w0 F p
  rr : Ro w0 F (rdsl 1 d.rv (bys d.rest))
  rc : capOk d.rv
section
variable {H : Type} {enc : TypeId × Value → H} {W : World} {base : Nat} {spare : Nat → Bool} {held : Bool}
end
end Go.Proofs.YtmjldaedhmipkaaGreatDoor
namespace Go.Proofs.YtmjldaedhmipkaaGreatDoor
open Go Go.Sl Go.Med Go.MapKept Go.RowKit
section
variable {w0 w : World} {F R : List HProp} {lv : Value}
theorem dataS_at : ∀ (fs : List (Frm.Ent × Value)) (i : Nat) (p : Frm.Ent × Value), fs[i]? = some p → ∃ G, dataS fs = star (bsl p.2 p.1.data) G
  | [], _, _, h => by cases h
  | x :: fs, 0, p, h => by
    obtain rfl : x = p := by simpa using h
    exact ⟨_, rfl⟩
  | x :: fs, i + 1, p, h => by
    obtain ⟨G, hG⟩ := dataS_at fs i p (by simpa using h)
    refine ⟨star (bsl x.2 x.1.data) G, ?_⟩
    show star (bsl x.2 x.1.data) (dataS fs) = _
    rw [hG, star_left_comm]
theorem dataS_ent {fs : List (Frm.Ent × Value)} (hk : ∀ p ∈ fs, p.1.key.length = 32) (h : Sat w0 w (dataS fs :: R)) : ∀ p ∈ fs, EntRo w0 (dataS fs :: R) p := fun p hp => by
  obtain ⟨i, hi⟩ := List.getElem?_of_mem hp
  obtain ⟨G, hG⟩ := dataS_at fs i p hi
  refine ⟨hk p hp, fun w' hw => ?_, ?_⟩
  · rw [hG] at hw
    exact Sat.rd (Sat.star.1 hw)
  · rw [hG] at h
    exact (bsl_capL (Sat.star.1 h)).1
end
end Go.Proofs.YtmjldaedhmipkaaGreatDoor
namespace Go.Seg
open Go.Med
open Go.Frm (encs GoodE)
section
variable {K K' : Nat} {M M' : Med} {L : Log} {s t : ByteArray} {i : Nat} {sure opn : List (Plc × Frm.Ent)}
theorem fresh_has (M : Med) (limit : Int) : Has (fresh M limit) M := fun x hx => by
  obtain ⟨t, ht, hn, rfl⟩ := found_mem hx
  simp only
  rw [(number_is hn).2.2]
  exact list_now ht
theorem fresh_mem {n lim : Int} (hoff : M.off = false) (h1 : 0 ≤ n) (h2 : n < 1048576) (hi : nget M.now (name n) = some i) : n ∈ nf (fresh M lim) := by
  have hl : name n ∈ M.list := by
    unfold Med.list
    rw [hoff]
    exact List.mem_map.2 ⟨_, nget_mem hi, rfl⟩
  unfold nf fresh
  simp only
  rw [List.take_of_length_le (by rw [List.length_map]; simp)]
  refine List.mem_map.2 ⟨(n, (M.size (name n)).1), ?_, rfl⟩
  unfold found
  refine List.mem_filterMap.2 ⟨name n, hl, ?_⟩
  rw [number_name n h1 h2]
  rfl
theorem St.first (lim : Int) (h1 : 128 ≤ lim) (h2 : lim ≤ 1048576) : St 0 ⟨lim, [], false, 0⟩ (new 1048576) [] [] :=
  ⟨⟨⟨h1, h2⟩, List.Pairwise.nil, (fun s hs => by cases hs), (fun s hs => by cases hs), ⟨Int.le_refl _, by simp⟩, fun hh => by cases hh⟩, Med.Ok.new 0 1048576 (by decide),
    (fun j c hc => by simp [Med.file, new, Fil.new] at hc), (fun s hs => by cases hs), (fun hh => by cases hh), (fun q hq => by cases hq), fun _ q hq => by cases hq⟩
end
end Go.Seg
namespace Go.Proofs.YtmjldaedhmipkaaGreatDoor
open Go Go.Sl Go.Med Go.MapKept Go.RowKit
section
variable {w0 w : World} {F R : List HProp} {p d m : Nat} {v lv : Value} {D M : Med} {K : Nat}
end
end Go.Proofs.YtmjldaedhmipkaaGreatDoor
namespace Go.Rep
end Go.Rep
namespace Go.Seg
open Go.Med
end Go.Seg
namespace Go.Proofs.YtmjldaedhmipkaaGreatDoor
open Go Go.Sl Go.Med Go.MapKept Go.RowKit
section
variable {P : Program} {w0 w : World} {L L' R : List HProp} {ops : Array Oper} {rest : List Oper} {a : Act} {Q : Exit → Act → World → Prop} {dst : Option Tmp} {t ty T b : Nat} {pos : String} {after : Array Edge} {x : Operand} {cs : Array Value} {g : Nat × Bool}
end
section
variable {w0 w : World} {F : List HProp} {lv : Value}
end
theorem zDo15 : zeroB Tryz.prog 107 = some zeroEntV := by kernel_rfl
theorem infoDo15 : (Tryz.prog.info? 107).map (·.size) = some 34 := by kernel_rfl
theorem entA_put33 (x : Frm.Ent) (dv v : Value) (hk : x.key.length = 32) : putsAt (entA x dv) 33 [v] = entA x v := by
  apply putsAt_eq
  rw [putsAt_list _ _ _ (by rw [entA_size _ _ hk]; simp)]
  have h1 : (entA x dv).toList = (Value.int .i64 x.tag :: bys x.key) ++ [dv] := by unfold entA entL; simp
  have h2 : (entA x v).toList = (Value.int .i64 x.tag :: bys x.key) ++ [v] := by unfold entA entL; simp
  have hl : (Value.int .i64 x.tag :: bys x.key).length = 33 := by rw [List.length_cons, bys_len, hk]
  rw [h1, h2, List.take_append_of_le_length (by omega), List.take_of_length_le (by omega), List.drop_of_length_le (by rw [List.length_append, hl]; simp), List.append_nil]
section
variable {w0 w : World} {F R : List HProp} {v bv dv x lv : Value}
set_option maxRecDepth 20000 in
set_option maxHeartbeats 8000000 in
theorem few15_c (es : List (Frm.Ent × Value)) (n : Nat) (hn : n ≤ 1048576) (hr : Ro w0 F (rdsl 34 lv (entsL es))) (he : ∀ p ∈ es, EntRo w0 F p) (h : Sat w0 w F) :
    Calls Tryz.prog 52 #[lv, .int .i64 n] w (Rtn fun v w' => ∃ fs : List (Frm.Ent × Value), fs.map (·.1) = Frm.few (es.map (·.1)) n 100 ∧ Sat w0 w' (osl 107 34 v (entsL fs) :: dataS fs :: F)) := by
  obtain ⟨la, ln, lc, rfl, hl, _⟩ := hr w h
  rw [entsL_len (fun p hp => (he p hp).key)] at hl
  obtain rfl : ln = es.length := by omega
  have Hr := Lib.hid hr; have He := Lib.hid he; have Hn := Lib.hid hn
  clear hr he hl hn
  go_enter Tryz.func52, Tryz.ntmps52
  go_wp2_with fail
  go_loopg [6, 5] es.length (fun g iq ov wr => ∃ (i : Nat) (fs : List (Frm.Ent × Value)), g = es.length - i ∧ i ≤ es.length ∧ i ≤ n ∧ iq = .int .i64 i ∧ fs.map (·.1) = ((es.map (·.1)).take i).map (Frm.cutE 100) ∧
    Sat w0 wr (osl 107 34 ov (entsL fs) :: dataS fs :: F))
  case atStart => exact ⟨0, [], rfl, Nat.zero_le _, Nat.zero_le _, rfl, rfl, Sat.osl_nil.2 (Sat.emp.2 h)⟩
  case round =>
    obtain ⟨i, fs, rfl, hi, hin, rfl, hfs, hS⟩ := hrel
    have Hfs := Lib.hid hfs; have Hi := Lib.hid hi; have Hin := Lib.hid hin
    clear h hfs hi hin
    by_cases hlt : i < es.length ∧ i < n
    · obtain ⟨hl1, hl2⟩ := hlt
      have c1 : (i : Int) < (es.length : Int) := by omega
      have c2 : (i : Int) < (n : Int) := by omega
      have hwi : IntKind.i64.wrap ((i : Int) + 1) = (i : Int) + 1 := IntWalk.i64_in _ (by have := Hn.out; omega)
      have Hl1 := Lib.hid hl1; have Hl2 := Lib.hid hl2
      have Hfk := Lib.hid (few_keys Hfs.out (fun p hp => (He.out p hp).key))
      clear hl1 hl2
      obtain ⟨x, hx⟩ : ∃ x, es[i]? = some x := ⟨_, List.getElem?_eq_getElem Hl1.out⟩
      have hxe := He.out x (List.mem_of_getElem? hx)
      have hk : ∀ p ∈ es, p.1.key.length = 32 := fun p hp => (He.out p hp).key
      have hcut := Lib.hid (show fs.map (·.1) ++ [Frm.cutE 100 x.1] = ((es.map (·.1)).take (i + 1)).map (Frm.cutE 100) by
        rw [Hfs.out, List.take_add_one, List.map_append, List.getElem?_map, hx]; rfl)
      have hrF : Ro w0 (osl 107 34 u5 (entsL fs) :: dataS fs :: F) (rdsl 34 (.slice la es.length lc) (entsL es)) := Ro.os Hr.out
      obtain ⟨bk, off, rfl, _⟩ := rdsl_cells (hrF _ hS) (entsL_at hk hx (entL_at0 _ _))
      have HC := Lib.hid (show ∀ j v, (entL x.1 x.2)[j]? = some v → wr.cell? ⟨bk, off + i * 34 + j, none⟩ = some v by
        intro j v hj
        obtain ⟨bk', off', hbo, hcell⟩ := rdsl_cells (hrF _ hS) (entsL_at hk hx (entL_at0 _ _))
        cases hbo
        have := hcell _ _ (entsL_at hk hx hj)
        rw [show off + (i * 34 + j) = off + i * 34 + j by omega] at this
        exact this)
      obtain ⟨e, dv⟩ := x
      obtain ⟨da, dn, dc, rfl, hdn, hdc⟩ := hxe.cap
      have hdl : dn = e.data.length := by
        obtain ⟨a', n', c', he, hl, _⟩ := hxe.rd _ (hS.sb)
        cases he
        rw [bys_len, Nat.mul_one] at hl; exact hl.symm
      subst hdl
      have Hrd := Lib.hid hxe.rd; have Hkey := Lib.hid (show e.key.length = 32 from hxe.key)
      clear hx hxe hk hrF
      have k1 : (entA e (.slice da e.data.length dc)).size = (entA Frm.zeroE (.slice none 0 0)).size := (entA_size _ _ Hkey.out).trans (entA_size _ _ rfl).symm
      have k2 : (Tryz.prog.info? 107).map (·.size) = some (entA e (.slice da e.data.length dc)).size := by rw [entA_size _ _ Hkey.out]; exact infoDo15
      go_wp2_with (first
        | ((with_reducible apply at_load); refine ⟨?_⟩; refine wl_loadN' (b := bk) (o := off + i * 34) (entL e (.slice da e.data.length dc)) (by rfl) HC.out Tryz.underlying107 rfl (by rw [entL_len _ _ Hkey.out]; exact infoDo15) ?_)
        | ((with_reducible apply at_alloc); refine ⟨?_⟩; refine wl_alloc (cs := entA Frm.zeroE (.slice none 0 0)) zDo15 hS rfl ?_; intro bX wX hX)
        | ((with_reducible apply at_store); refine ⟨?_⟩; refine wl_storeA (entA e (.slice da e.data.length dc)) hX (by rfl) (by rfl) k1 upD k2 (entA_one _ _ _ _) ?_; intro wS hSS)
        | ((with_reducible apply at_load); refine ⟨?_⟩; refine wl_load1 hSS (by rfl) pkD (by rw [entA_size _ _ Hkey.out]; decide) (entA_g33 _ _ Hkey.out) (by kernel_rfl) ?_))
      refine (cut_c da e.data.length dc 100 hdn hdc _).mono ?_
      rintro e1 w3 ⟨v, rfl, rfl, rfl⟩
      go_wp2_with fail
      refine (copy_c hSS (e.data.take 100) (rdsl_cut ((Ro.os Hrd.out) _ hSS)) (by rw [List.length_take]; omega)).mono ?_
      rintro e2 w4 ⟨v, rfl, hS4, ca, cn, cc, rfl⟩
      clear HC
      have k3 : putsAt (entA e (.slice da e.data.length dc)) 33 (Value.slice ca cn cc).cells.toList = entA e (.slice ca cn cc) := entA_put33 _ _ _ Hkey.out
      have k4 : 33 + (Value.slice ca cn cc).cells.size ≤ (entA e (.slice da e.data.length dc)).size := by rw [entA_size _ _ Hkey.out]; exact Nat.le_refl _
      have k5 : (Tryz.prog.info? 107).map (·.size) = some (entA e (.slice ca cn cc)).size := by rw [entA_size _ _ Hkey.out]; exact infoDo15
      have k6 : (entA e (.slice ca cn cc)).size ≤ 65536 := by rw [entA_size _ _ Hkey.out]; decide
      have hlen : (entsL fs).length ≤ 2147483648 := by
        rw [entsL_len Hfk.out]
        have := congrArg List.length Hfs.out
        simp only [List.length_map, List.length_take] at this
        have := Hn.out; have := Hin.out; omega
      go_wp2_with (first
        | ((with_reducible apply at_store); refine ⟨?_⟩; refine wl_store hS4 (by rfl) (by rfl) k3 upD k4 (by kernel_rfl) (by rfl) ?_; intro wT hT)
        | ((with_reducible apply at_load); refine ⟨?_⟩; refine wl_loadA hT (by rfl) pkD Tryz.underlying107 rfl k5 ?_)
        | ((with_reducible apply at_build1); refine ⟨?_⟩; refine wl_build1 (e := 107) (sz := 34) (by' := 64) (cs := entA e (.slice ca cn cc)) (by kernel_rfl) hT (by rfl) rfl (entA_size _ _ Hkey.out) (Nat.le_of_ble_eq_true (by rfl)) ?_; intro bN wN hN)
        | ((with_reducible apply at_append); refine ⟨?_⟩; refine wl_app 107 34 64 (by kernel_rfl) hN (by rfl) (by rfl) pkD pkD ((entA_size _ _ Hkey.out).trans (by decide)) (Nat.le_refl 1) (entA_one _ _ _ _) hlen k6 (by decide) rfl ?_; intro bA nA cA w6 hA))
      go_roundg (es.length - (i + 1))
      case measure => have := Hl1.out; omega
      case rel =>
        refine ⟨i + 1, fs ++ [(⟨e.tag, e.key, e.data.take 100⟩, .slice ca cn cc)], rfl, Nat.succ_le_of_lt Hl1.out, Nat.succ_le_of_lt Hl2.out, by first | rfl | go_num, ?_, ?_⟩
        · rw [← hcut.out, List.map_append]; rfl
        · rw [entsL_app, dataS_snoc]
          have h9 : Sat w0 w6 (osl 107 34 (.slice (some ⟨bA, 0, none⟩) nA cA) (entsL fs ++ entsL [(⟨e.tag, e.key, e.data.take 100⟩, .slice ca cn cc)]) :: bsl (.slice ca cn cc) (e.data.take 100) :: dataS fs :: F) := by
            have e : entsL [((⟨e.tag, e.key, e.data.take 100⟩ : Frm.Ent), Value.slice ca cn cc)] = (entA e (.slice ca cn cc)).toList := by
              unfold entsL entA; simp [entL]
            rw [e]
            exact Sat.sb hA
          have h10 : Sat w0 w6 (bsl (.slice ca cn cc) (e.data.take 100) :: dataS fs :: osl 107 34 (.slice (some ⟨bA, 0, none⟩) nA cA) (entsL fs ++ entsL [(⟨e.tag, e.key, e.data.take 100⟩, .slice ca cn cc)]) :: F) := h9.sb
          exact (Sat.star.2 h10).pick1
    · have hfin : fs.map (·.1) = Frm.few (es.map (·.1)) n 100 := by
        rw [Hfs.out]
        unfold Frm.few
        congr 1
        have := Hi.out; have := Hin.out
        by_cases hh : i = n
        · rw [hh]
        · rw [List.take_of_length_le (by rw [List.length_map]; omega), List.take_of_length_le (by rw [List.length_map]; omega)]
      by_cases hl1 : i < es.length
      · have c1 : (i : Int) < (es.length : Int) := by omega
        have c2 : ¬ (i : Int) < (n : Int) := by omega
        have Hfin := Lib.hid hfin
        clear hfin hlt hl1
        go_wp2
        go_ret
        exact ⟨_, rfl, fs, Hfin.out, hS⟩
      · have c1 : ¬ (i : Int) < (es.length : Int) := by omega
        have Hfin := Lib.hid hfin
        clear hfin hlt hl1
        go_wp2
        go_ret
        exact ⟨_, rfl, fs, Hfin.out, hS⟩
end
end Go.Proofs.YtmjldaedhmipkaaGreatDoor
namespace Go.Seg
open Go.Med
open Go.Frm (encs GoodE fnds Ent)
theorem playL_snoc : ∀ (ds : List Ent) (L : Log) (M : Med) (d : Ent), Log.playL (ds ++ [d]) L M = ((Log.playL ds L M).1.play1 (Log.playL ds L M).2 d).1
  | [], L, M, d => rfl
  | x :: ds, L, M, d => by
    rw [List.cons_append, Log.playL, playL_snoc ds]; rfl
theorem Pl.playL {n : Nat} {ds0 : List Ent} : ∀ (ds : List Ent) (L : Log) (M : Med) (C : List (List Ent)), Pl n ds0 L M C → (∀ d ∈ ds, d.key.length = 32 ∧ d.data.length ≤ 300) → n + ds.length ≤ 100 →
    ∃ C', Pl (n + ds.length) (ds0 ++ ds) (Log.playL ds L M).1 (Log.playL ds L M).2 C' ∧ (Log.playL ds L M).1.limit = L.limit
  | ds, L, M, C, h, hd, hn => by
    induction ds generalizing n ds0 L M C with
    | nil => exact ⟨C, by simpa [Log.playL] using h, rfl⟩
    | cons d ds ih =>
      rw [List.length_cons] at hn
      obtain ⟨h1, h2, h3, h4⟩ := h.step (d := d) (by omega) (hd d List.mem_cons_self).1 (hd d List.mem_cons_self).2
      obtain ⟨C', h5, h6⟩ := ih _ _ _ h4 (fun x hx => hd x (List.mem_cons_of_mem _ hx)) (by omega)
      refine ⟨C', ?_, h6.trans h2⟩
      rw [List.length_cons, show n + (ds.length + 1) = n + 1 + ds.length by omega, show ds0 ++ d :: ds = ds0 ++ [d] ++ ds by simp]
      exact h5
end Go.Seg
namespace Go.Proofs.YtmjldaedhmipkaaGreatDoor
open Go Go.Sl Go.Med Go.MapKept Go.RowKit
theorem puts2 (cs : Array Value) (hs : cs.size = 34) (u : Value) (kl : List Value) (hk : kl.length = 32) : (putsAt (putsAt cs 0 [u]) 1 kl).toList = u :: (kl ++ cs.toList.drop 33) := by
  have hcl : cs.toList.length = 34 := by simpa using hs
  rw [putsAt_list _ _ _ (by rw [putsAt_size]; omega), putsAt_list _ _ _ (by simp; omega)]
  simp only [List.take_zero, List.nil_append, List.length_singleton, Nat.zero_add]
  rw [List.singleton_append, List.take_succ_cons, List.take_zero, hk, show 1 + 32 = 32 + 1 by omega, List.drop_succ_cons, List.drop_drop]
  simp
theorem entA_drop33 (x : Frm.Ent) (dv : Value) (hk : x.key.length = 32) : (entA x dv).toList.drop 33 = [dv] := by
  have h1 : (entA x dv).toList = (Value.int .i64 x.tag :: bys x.key) ++ [dv] := by unfold entA entL; simp
  rw [h1, List.drop_left' (by rw [List.length_cons, bys_len, hk])]
set_option maxRecDepth 20000 in
theorem run_buildEnt2 (t : Int) (k : Frm.Bs) (hk : k.length = 32) (w : World) :
    (Instr.build 44 #[(0, .int .i64 t), (1, .agg (bys k).toArray)]).run Tryz.prog w = .ok (.agg (entA ⟨t, k, []⟩ (.slice none 0 0))) w := by
  have hz : (entA Frm.zeroE (.slice none 0 0)).size = 34 := entA_size _ _ rfl
  have hks : (bys k).toArray.size = 32 := by simp [bys, hk]
  have h := run_build (P := Tryz.prog) [(0, .int .i64 t), (1, .agg (bys k).toArray)] plEnt zEnt (by
    intro p hp
    simp only [List.mem_cons, List.not_mem_nil, or_false] at hp
    have hzz : zeroEntV.cells.size = 34 := hz
    rw [hzz]
    rcases hp with rfl | rfl
    · exact ⟨0, rfl, by show 0 + 1 ≤ 34; omega⟩
    · refine ⟨1, ?_, ?_⟩
      · show some (1, 32) = some (1, (bys k).toArray.size); rw [hks]
      · show 1 + (bys k).toArray.size ≤ 34; rw [hks]; omega) w
  refine h.trans ?_
  congr 2
  have h1 : (entA ⟨t, k, []⟩ (.slice none 0 0)).toList = Value.int .i64 t :: (bys k ++ [.slice none 0 0]) := by unfold entA entL; simp
  have h3 : (entA Frm.zeroE (.slice none 0 0)).toList.drop 33 = [.slice none 0 0] := entA_drop33 Frm.zeroE _ rfl
  apply putsAt_eq
  rw [h1, ← h3]
  exact puts2 _ hz _ _ (show (bys k).toArray.toList.length = 32 by rw [List.toList_toArray, bys_len, hk])
section
variable {w0 w : World} {F R : List HProp} {v bv dv x lv : Value} {p m : Nat} {L : Seg.Log} {M : Med}
set_option maxRecDepth 20000 in
set_option maxHeartbeats 8000000 in
theorem more15_c (es : List (Frm.Ent × Value)) {n0 : Nat} {ds0 : List Frm.Ent} {C : List (List Frm.Ent)} (hP : Seg.Pl n0 ds0 L M C) (hn : n0 + es.length ≤ 100) (hr : Ro w0 F (rdsl 34 lv (entsL es))) (he : ∀ p ∈ es, EntRo w0 F p) (hd : ∀ p ∈ es, p.1.data.length ≤ 300) (hH : Ro w0 F Half) (h : Sat w0 w (LogRep p m L :: MedRep m M :: F)) :
    Calls Tryz.prog 54 #[ptr p, lv] w (Rtn fun v w' => v = ptr p ∧ Sat w0 w' (LogRep p m (Seg.Log.playL (es.map (·.1)) L M).1 :: MedRep m (Seg.Log.playL (es.map (·.1)) L M).2 :: F)) := by
  obtain ⟨la, ln, lc, rfl, hl, _⟩ := hr w (h.sb)
  rw [entsL_len (fun p hp => (he p hp).key)] at hl
  obtain rfl : ln = es.length := by omega
  have Hr := Lib.hid hr; have He := Lib.hid he; have Hn := Lib.hid hn; have Hd := Lib.hid hd; have HH := Lib.hid hH
  have HP := Lib.hid hP
  clear hr he hl hn hd hH hP
  go_enter Tryz.func54, Tryz.ntmps54
  go_wp2_with fail
  go_loopg [5] es.length (fun g iq wr => ∃ (i : Nat) (ds : List Frm.Ent), g = es.length - i ∧ i ≤ es.length ∧ iq = .int .i64 i ∧ ds = (es.map (·.1)).take i ∧
    Sat w0 wr (LogRep p m (Seg.Log.playL ds L M).1 :: MedRep m (Seg.Log.playL ds L M).2 :: F))
  case atStart => exact ⟨0, [], rfl, Nat.zero_le _, rfl, rfl, h⟩
  case round =>
    obtain ⟨i, ds, rfl, hi, rfl, hds, hS⟩ := hrel
    have Hds := Lib.hid hds; have Hi := Lib.hid hi
    clear h hds hi
    by_cases hlt : i < es.length
    · have c1 : (i : Int) < (es.length : Int) := by omega
      have hwi : IntKind.i64.wrap ((i : Int) + 1) = (i : Int) + 1 := IntWalk.i64_in _ (by have := Hn.out; omega)
      have Hl1 := Lib.hid hlt
      clear hlt
      obtain ⟨x, hx⟩ : ∃ x, es[i]? = some x := ⟨_, List.getElem?_eq_getElem Hl1.out⟩
      have hxe := He.out x (List.mem_of_getElem? hx)
      have hk : ∀ p ∈ es, p.1.key.length = 32 := fun p hp => (He.out p hp).key
      have Hsn := Lib.hid (show ds ++ [x.1] = (es.map (·.1)).take (i + 1) by
        rw [Hds.out, List.take_add_one, List.getElem?_map, hx]; rfl)
      have hdl0 := Hd.out x (List.mem_of_getElem? hx)
      have hpl : ∃ C', Seg.Pl (n0 + ds.length) (ds0 ++ ds) (Seg.Log.playL ds L M).1 (Seg.Log.playL ds L M).2 C' ∧ (Seg.Log.playL ds L M).1.limit = L.limit := by
        refine Seg.Pl.playL ds L M C HP.out (fun y hy => ?_) ?_
        · rw [Hds.out] at hy
          obtain ⟨q, hq, rfl⟩ := List.mem_map.1 (List.mem_of_mem_take hy)
          exact ⟨hk q hq, Hd.out q hq⟩
        · have := Hn.out
          rw [Hds.out, List.length_take, List.length_map]; omega
      obtain ⟨C', hpl, _⟩ := hpl
      have hst := hpl.step (d := x.1) (by have := Hn.out; have := Hl1.out; rw [Hds.out, List.length_take, List.length_map]; omega) hxe.key hdl0
      have Hpl := Lib.hid hpl
      have Hg := Lib.hid (Seg.playL_snoc ds L M x.1)
      have hrF : Ro w0 (LogRep p m (Seg.Log.playL ds L M).1 :: MedRep m (Seg.Log.playL ds L M).2 :: F) (rdsl 34 (.slice la es.length lc) (entsL es)) := Ro.os Hr.out
      obtain ⟨bk, off, rfl, _⟩ := rdsl_cells (hrF _ hS) (entsL_at hk hx (entL_at0 _ _))
      have HG := Lib.hid (show ∀ w' L, Ro w0 L (rdsl 34 (.slice (some ⟨bk, off, none⟩) es.length lc) (entsL es)) → Sat w0 w' L → w'.cell? ⟨bk, off + i * 34, none⟩ = some (.int .i64 x.1.tag) ∧ w'.rangeAt bk (off + i * 34 + 1) (bys x.1.key) ∧ w'.cell? ⟨bk, off + i * 34 + 33, none⟩ = some x.2 by
        intro w' L hL hw
        obtain ⟨bk', off', hbo, hcell⟩ := rdsl_cells (hL w' hw) (entsL_at hk hx (entL_at0 _ _))
        cases hbo
        refine ⟨hcell _ _ (entsL_at hk hx (entL_at0 _ _)), fun j y hj => ?_, ?_⟩
        · have := hcell _ _ (entsL_at hk hx (entL_key _ x.2 hj))
          rw [show off + (i * 34 + (1 + j)) = off + i * 34 + 1 + j by omega] at this
          exact this
        · have := hcell _ _ (entsL_at hk hx (entL_at33 _ _ hxe.key))
          rw [show off + (i * 34 + 33) = off + i * 34 + 33 by omega] at this
          exact this)
      obtain ⟨⟨tag, key, data⟩, dv⟩ := x
      obtain ⟨da, dn, dc, rfl, hdn, hdc⟩ := hxe.cap
      have hdl : dn = data.length := by
        obtain ⟨a', n', c', he, hl, _⟩ := hxe.rd _ (hS.sb)
        cases he
        rw [bys_len, Nat.mul_one] at hl; exact hl.symm
      subst hdl
      have Hrd := Lib.hid hxe.rd; have Hkey := Lib.hid (show key.length = 32 from hxe.key)
      have Hdl := Lib.hid (show data.length ≤ 300 from hdl0)
      have Hks := Lib.hid (show (bys key).length = 32 by rw [bys_len]; exact Hkey.out)
      have e0 := (HG.out _ _ hrF hS).1
      have Hok := Lib.hid Hpl.out.holds.keeps.log
      have Hmo := Lib.hid Hpl.out.holds.keeps.calm.ok
      have Hnb := Lib.hid (show (n0 + ds.length) * 5 ≤ 1000 by have := Hn.out; have := Hl1.out; rw [Hds.out, List.length_take, List.length_map]; omega)
      clear hx hxe hk hrF hdl0 hpl Hpl
      dsimp only at hst e0
      change Hid (ds ++ [(⟨tag, key, data⟩ : Frm.Ent)] = _) at Hsn
      have hkd : tag = 0 ∨ tag = 1 ∨ ((tag == 0) = false ∧ (tag == 1) = false ∧ ¬ Seg.isPut ⟨tag, key, data⟩) := by
        simp only [beq_eq_false_iff_ne, Seg.isPut]; omega
      rcases hkd with rfl | rfl | ⟨k0, k1, k2⟩
      · as_aux_lemma =>
          have hpe := Seg.put_eq (L := (Seg.Log.playL ds L M).1) (M := (Seg.Log.playL ds L M).2) (d := ⟨0, key, data⟩) (.inl rfl)
          rw [show Seg.toE ⟨0, key, data⟩ = ⟨0, key, data⟩ from rfl] at hpe
          have hap := Lib.hid (fun w' R' (hh : Ro w0 R' Half) (hr : Ro w0 R' (rdsl 1 (.slice da data.length dc) (bys data))) (hw : Sat w0 w' (LogRep p m (Seg.Log.playL ds L M).1 :: MedRep m (Seg.Log.playL ds L M).2 :: R')) => lappend_c ⟨0, key, data⟩ Hkey.out da dc hr hh (Nat.le_trans Hdl.out (by decide)) Hok.out Hmo.out (Nat.le_trans (Nat.add_le_add_right Hnb.out 4) (by decide)) hw)
          rw [hpe] at hst Hg
          clear hpe
          generalize Seg.Log.playL ds L M = lm at *
          obtain ⟨L1, M1⟩ := lm
          dsimp only at hst Hg hap hS
          generalize L1.append M1 ⟨0, key, data⟩ = r at *
          obtain ⟨⟨L2, M2⟩, pc, e2⟩ := r
          dsimp only at hst Hg hap
          obtain ⟨rfl, _⟩ := hst
          go_wp2_with fail
          have hAd := hS.drew
          refine wpL_begin [13, 14, 15, 16] (fun w' => w'.rangeAt bk (off + i * 34 + 1) (bys key) ∧ w'.cell? ⟨bk, off + i * 34 + 33, none⟩ = some (.slice da data.length dc)) (by kernel_rfl) ?_
          have hG := (HG.out _ _ (Ro.os Hr.out) hAd).2
          refine rp 0 (hy := (yl_move evD)) (h := ?_)
          refine rp 1 (hy := (yl_move evD)) (h := ?_)
          refine rp 2 (hy := (yl_move evD)) (h := ?_)
          refine rp 3 (hy := (yl_index evD evD rnD)) (h := ?_)
          refine rp 4 (hy := (yl_field evD rnD)) (h := ?_)
          refine rg_take 5 evD (by kernel_rfl) (by intro _ _ _ h; exact h) (tk_loadN (b := bk) (o := off + i * 34 + 1) (bys key) (by rfl) Tryz.underlying41 rfl (by rw [Hks.out]; kernel_rfl) (fun w hw => hw.1)) (by assumption) (by go_frame; first | done | rfl) ?_
          refine rp 6 (hy := (yl_move evD)) (h := ?_)
          refine rp 7 (hy := (yl_move evD)) (h := ?_)
          refine rp 8 (hy := (yl_index evD evD rnD)) (h := ?_)
          refine rp 9 (hy := (yl_field evD rnD)) (h := ?_)
          refine rt 10 (h := ?_)
          clear hG
          refine rp 11 (hy := (yl_build3 evD evD evD (fun w => run_buildEnt ⟨0, key, data⟩ Hkey.out da data.length dc w))) (h := ?_)
          refine rg_eff 12 evD (by kernel_rfl) (fun K hK => ?_)
          (refine eff_call2 (by kernel_rfl) evD evD ?_)
          refine (hap.out _ _ (Ro.os HH.out) (Ro.os Hrd.out) hAd).mono ?_
          rintro ee w21 ⟨v, rfl, rfl, hS21⟩
          refine hK _ _ (.inr (.inl (HG.out _ _ (Ro.os Hr.out) hS21).2)) ?_
          clear hK hap hAd
          refine rp 13 (hy := (yl_move evD)) (h := ?_)
          refine rp 14 (hy := (yl_extract evD rnD)) (h := ?_)
          refine rp 15 (hy := (yl_extract evD rnD)) (h := ?_)
          refine rp 16 (hy := (yl_assign evD)) (h := ?_)
          refine wpL_done (by kernel_rfl) ?_
          go_wp2_with fail
          go_roundg (es.length - (i + 1))
          case measure => have := Hl1.out; omega
          case rel => exact ⟨i + 1, _, rfl, Nat.succ_le_of_lt Hl1.out, by first | rfl | go_num, Hsn.out, by rw [Hg.out]; exact hS21⟩
      · as_aux_lemma =>
          have hpe := Seg.put_eq (L := (Seg.Log.playL ds L M).1) (M := (Seg.Log.playL ds L M).2) (d := ⟨1, key, data⟩) (.inr rfl)
          rw [show Seg.toE ⟨1, key, data⟩ = ⟨1, key, []⟩ from rfl] at hpe
          have hap := Lib.hid (fun w' R' (hh : Ro w0 R' Half) (hr : Ro w0 R' (rdsl 1 (.slice none ([] : Frm.Bs).length 0) (bys []))) (hw : Sat w0 w' (LogRep p m (Seg.Log.playL ds L M).1 :: MedRep m (Seg.Log.playL ds L M).2 :: R')) => lappend_c ⟨1, key, []⟩ Hkey.out none 0 hr hh (Nat.zero_le _) Hok.out Hmo.out (Nat.le_trans (Nat.add_le_add_right Hnb.out 4) (by decide)) hw)
          rw [hpe] at hst Hg
          clear hpe
          generalize Seg.Log.playL ds L M = lm at *
          obtain ⟨L1, M1⟩ := lm
          dsimp only at hst Hg hap hS
          generalize L1.append M1 ⟨1, key, []⟩ = r at *
          obtain ⟨⟨L2, M2⟩, pc, e2⟩ := r
          dsimp only at hst Hg hap
          obtain ⟨rfl, _⟩ := hst
          have HC := Lib.hid (HG.out _ _ (Ro.os Hr.out : Ro w0 (LogRep p m L1 :: MedRep m M1 :: F) _) hS).2.1
          go_wp2_with (first
            | ((with_reducible apply at_load); refine ⟨?_⟩; refine wl_loadW (b := bk) (o := off + i * 34 + 1) (bys key) (by rfl) HC.out Tryz.underlying41 rfl (by rw [Hks.out]; kernel_rfl) ?_)
            | ((with_reducible apply at_build2); refine ⟨?_⟩; refine wl_build2 (by rfl) (by rfl) (fun w => run_buildEnt2 1 key Hkey.out w) ?_))
          refine (hap.out _ _ (Ro.os HH.out) (fun w _ => rdsl_nil 1 0 w) hS).mono ?_
          rintro ee w21 ⟨v, rfl, rfl, hS21⟩
          clear hap hS HC e0
          go_wp2_with fail
          go_roundg (es.length - (i + 1))
          case measure => have := Hl1.out; omega
          case rel => exact ⟨i + 1, _, rfl, Nat.succ_le_of_lt Hl1.out, by first | rfl | go_num, Hsn.out, by rw [Hg.out]; exact hS21⟩
      · as_aux_lemma =>
          have hpe := Seg.com_eq (L := (Seg.Log.playL ds L M).1) (M := (Seg.Log.playL ds L M).2) (d := ⟨tag, key, data⟩) k2
          have hap := Lib.hid (fun w' R' (hh : Ro w0 R' Half) (hw : Sat w0 w' (LogRep p m (Seg.Log.playL ds L M).1 :: MedRep m (Seg.Log.playL ds L M).2 :: R')) => lcommit_c hh Hok.out Hmo.out (Nat.le_trans (Nat.add_le_add_right Hnb.out 6) (by decide)) hw)
          rw [hpe] at hst Hg
          clear hpe k2
          generalize Seg.Log.playL ds L M = lm at *
          obtain ⟨L1, M1⟩ := lm
          dsimp only at hst Hg hap hS
          generalize L1.commit M1 = r at *
          obtain ⟨⟨L2, M2⟩, pc, e2⟩ := r
          dsimp only at hst Hg hap
          obtain ⟨rfl, _⟩ := hst
          go_wp2_with fail
          refine (hap.out _ _ (Ro.os HH.out) hS).mono ?_
          rintro ee w21 ⟨v, rfl, rfl, hS21⟩
          clear hap hS e0
          go_wp2_with fail
          go_roundg (es.length - (i + 1))
          case measure => have := Hl1.out; omega
          case rel => exact ⟨i + 1, _, rfl, Nat.succ_le_of_lt Hl1.out, by first | rfl | go_num, Hsn.out, by rw [Hg.out]; exact hS21⟩
    · have c1 : ¬ (i : Int) < (es.length : Int) := by omega
      have hfin : ds = es.map (·.1) := by
        rw [Hds.out, List.take_of_length_le (by rw [List.length_map]; omega)]
      subst hfin
      clear hlt
      go_wp2
      go_ret
      exact ⟨_, rfl, rfl, hS⟩
end
theorem fresh_new (r : Nat) (limit : Int) : Seg.fresh (Med.new r) limit = ⟨limit, [], false, 0⟩ := rfl
theorem plDo15 : placesB Tryz.prog 107 = some [(0, 1), (1, 32), (33, 1)] := by kernel_rfl
set_option maxRecDepth 20000 in
theorem run_buildKind (tag : Int) (w : World) : (Instr.build 107 #[(0, .int .i64 tag)]).run Tryz.prog w = .ok (.agg (entA ⟨tag, Frm.zero32, []⟩ (.slice none 0 0))) w := by
  have hz : (entA Frm.zeroE (.slice none 0 0)).size = 34 := entA_size _ _ rfl
  have h := run_build (P := Tryz.prog) [(0, .int .i64 tag)] plDo15 zDo15 (by
    intro p hp
    rw [List.mem_singleton] at hp
    subst hp
    have hzz : zeroEntV.cells.size = 34 := hz
    rw [hzz]
    exact ⟨0, rfl, by show 0 + 1 ≤ 34; omega⟩) w
  exact h
section
variable {w0 w : World} {F R L L' : List HProp} {v bv dv x lv : Value} {p m : Nat}
variable {b : Nat} {ops : Array Oper} {rest : List Oper} {a : Act} {Q : Exit → Act → World → Prop} {dst : Option Tmp} {t T : TypeId} {pos : String} {after : Array Edge} {y : Operand}
theorem wl_buildKind {tag : Int} (hx : a.eval y = .int .i64 tag) (h : wpList Tryz.prog ops Q rest (a.put dst (.agg (entA ⟨tag, Frm.zero32, []⟩ (.slice none 0 0)))) w) : wpList Tryz.prog ops Q (⟨dst, .build 107 #[(0, y)], t, pos, after, none⟩ :: rest) a w :=
  wpList_plain rfl fun _ hK => by
    unfold Oper.wp execOp
    simp only [List.map_toArray, List.map_cons, List.map_nil, hx, Sem.run_bind, run_buildKind, Result.andThen_ok, Sem.run_pure]
    exact hK _ _ h
def comD : Frm.Ent × Value := (⟨2, Frm.zero32, []⟩, .slice none 0 0)
theorem comD_ro : EntRo w0 F comD := ⟨rfl, fun w _ => rdsl_nil 1 0 w, ⟨_, _, _, rfl, Nat.le_refl 0, Nat.zero_le _⟩⟩
theorem few_le {fs es : List (Frm.Ent × Value)} {n long : Nat} (h : fs.map (·.1) = Frm.few (es.map (·.1)) n long) : fs.length ≤ n ∧ ∀ q ∈ fs, q.1.data.length ≤ long := by
  refine ⟨?_, fun q hq => ?_⟩
  · have := congrArg List.length h
    unfold Frm.few at this
    rw [List.length_map, List.length_map, List.length_take] at this; omega
  · have h1 : q.1 ∈ fs.map (·.1) := List.mem_map.2 ⟨q, hq, rfl⟩
    rw [h] at h1
    unfold Frm.few at h1
    obtain ⟨x, _, e⟩ := List.mem_map.1 h1
    rw [← e]
    show (x.data.take long).length ≤ long
    rw [List.length_take]; omega
end
end Go.Proofs.YtmjldaedhmipkaaGreatDoor
namespace Go.Rep
open Go.Frm (Bs Fnd Ent fnds encs GoodE)
open Go.Seg (Plc mag)
open Go.Tab
def segSum (l : List Row) (s : Int) : Int := (l.map fun r => if r.1 = s then (r.2.size : Int) else 0).sum
def total (kv : List (Bs × Abt)) : Int := (kv.map fun p => if counts p.2 = true then p.2.place.size else 0).sum
def objs (kv : List (Bs × Abt)) : Int := (kv.map fun p => if p.2.tag = 0 then p.2.place.size else 0).sum
end Go.Rep
namespace Go.Rep
open Go.Frm (Bs Fnd Ent fnds encs GoodE)
open Go.Seg (Plc mag)
open Go.Tab
structure LiveOk (us : List Use) (ps : List (Bs × Plc)) (size : Int → Int) : Prop where
  each : ∀ u ∈ us, 0 ≤ u.live ∧ u.live ≤ u.size - 8 ∧ size u.seg = u.size ∧ u.size ≤ 33554432
  objs : ∀ q ∈ ps, 0 ≤ q.2.size ∧ q.2.size ≤ 341
  sum : ∃ m : Nat, (us.map (·.live)).sum = (ps.map (·.2.size)).sum + 41 * m
  ulen : us.length ≤ 100
  plen : ps.length ≤ 100
end Go.Rep
namespace Go.Seg
open Go.Med
open Go.Frm (Bs Fnd encs GoodE fnds Ent)
open Go.Rep
section
variable {n : Nat} {ds : List Ent} {L : Log} {M : Med} {C : List (List Ent)} {c : Nat}
theorem Pl.row (h : Pl n ds L M C) {r : Rep.Row} (hr : r ∈ Rep.rowsC 0 (C.take c)) : ∃ j es, C[j]? = some es ∧ j < c ∧ r.1 = (j : Int) ∧ r.2 ∈ fnds es 8 ∧ GoodE r.2.e ∧ r.2.size = (Frm.encode r.2.e).1.length ∧ r.2.size ≤ 341 := by
  obtain ⟨j, es, h1, h2, h3⟩ := Rep.rowsC_mem (C.take c) 0 hr
  have hj : j < c ∧ C[j]? = some es := by
    rw [List.getElem?_take] at h1
    split at h1
    · exact ⟨by assumption, h1⟩
    · cases h1
  obtain ⟨u, v, h4, h5, h6⟩ := Rep.fnds_mem es 8 h3
  have hm : r.2.e ∈ es := by rw [h4]; simp
  have hes := List.mem_of_getElem? hj.2
  have hg := (h.holds.good es hes).1 _ hm
  refine ⟨j, es, hj.2, hj.1, by rw [h2, Nat.zero_add], h3, hg, h6, ?_⟩
  rw [h6]
  exact enc_small hg.1 hg.2 (h.small _ (List.mem_flatten.2 ⟨es, hes, hm⟩))
end
end Go.Seg
namespace Go.Rep
open Go.Frm (Bs Fnd Ent fnds encs GoodE)
open Go.Seg (Plc mag toE isPut)
open Go.Tab
def endTo (ds : List Ent) : Nat → Nat
  | 0 => 0
  | i + 1 => match ds[i]? with
    | some d => if isPut d then endTo ds i else i
    | none => endTo ds i
end Go.Rep
namespace Go.Seg
open Go.Med
open Go.Frm (Bs Fnd encs GoodE fnds Ent)
open Go.Rep
section
variable {n : Nat} {ds : List Ent} {L : Log} {M : Med} {C : List (List Ent)} {c : Nat}
end
end Go.Seg
namespace Go.Seg
open Go.Med
open Go.Frm (Bs Fnd encs GoodE fnds Ent)
open Go.Rep
section
variable {n n2 : Nat} {ds ps : List Ent} {L L2 : Log} {M M2 : Med} {C C0 C2 : List (List Ent)} {c c2 : Nat} {d : Ent}
theorem Pl.playC {n : Nat} {ds0 : List Ent} (ds : List Ent) (d : Ent) (L : Log) (M : Med) (C : List (List Ent)) (h : Pl n ds0 L M C) (hd : ∀ x ∈ ds ++ [d], x.key.length = 32 ∧ x.data.length ≤ 300) (hn : n + (ds ++ [d]).length ≤ 100) (hp : ¬ isPut d) :
    ∃ C', Pl (n + (ds ++ [d]).length) (ds0 ++ (ds ++ [d])) (Log.playL (ds ++ [d]) L M).1 (Log.playL (ds ++ [d]) L M).2 C' ∧ (Log.playL (ds ++ [d]) L M).1.on = false ∧ (Log.playL (ds ++ [d]) L M).1.limit = L.limit := by
  rw [List.length_append, List.length_singleton] at hn ⊢
  obtain ⟨C1, h1, h2⟩ := Pl.playL ds L M C h (fun x hx => hd x (List.mem_append.2 (.inl hx))) (by omega)
  have hdd := hd d (List.mem_append.2 (.inr (List.mem_singleton.2 rfl)))
  obtain ⟨h3, h4, h5, h6⟩ := h1.step (d := d) (by omega) hdd.1 hdd.2
  rw [playL_snoc]
  refine ⟨put C1 ((Log.playL ds L M).1.fits (Frm.encode (toE d)).1.length) (toE d), ?_, by rw [h5, decide_eq_false hp], h4.trans h2⟩
  rw [show n + (ds.length + 1) = n + ds.length + 1 by omega, show ds0 ++ (ds ++ [d]) = ds0 ++ ds ++ [d] by simp]
  exact h6
theorem Pl.lastC (h : Pl n (ds ++ [d]) L M C) (hp : ¬ isPut d) : ∃ es, C ≠ [] ∧ C[C.length - 1]? = some es ∧ Rep.endsC es = true := by
  have hne : C ≠ [] := by
    intro e
    have := h.flat
    rw [e, List.map_append] at this
    simp at this
  have hl : C = C.dropLast ++ [C.getLast hne] := (List.dropLast_concat_getLast hne).symm
  generalize C.getLast hne = es at *
  have hfl := h.flat
  rw [hl, List.flatten_append, List.map_append] at hfl
  have hes : es ∈ C := by rw [hl]; simp
  have hn := (h.holds.good es hes).2
  refine ⟨es, hne, ?_, ?_⟩
  · conv => lhs; rw [hl]
    rw [List.length_append, List.length_singleton, Nat.add_sub_cancel, List.getElem?_append_right (Nat.le_refl _), Nat.sub_self]; rfl
  · have h1 : es = es.dropLast ++ [es.getLast hn] := (List.dropLast_concat_getLast hn).symm
    generalize hx : es.getLast hn = x at *
    have h2 : (C.dropLast.flatten ++ es.dropLast) ++ [x] = ds.map toE ++ [toE d] := by
      rw [List.append_assoc, ← h1]
      simpa using hfl
    have h3 : x = toE d := by
      have := congrArg List.getLast? h2
      simpa using this
    unfold Rep.endsC
    rw [h1, List.getLast?_concat]
    simp only
    rw [h3, toE_tag.2 hp]; rfl
structure Same (L L2 : Log) (M M2 : Med) (c c2 : Nat) : Prop where
  one : c = L.segs.length
  two : c2 = L.segs.length
  segs : L2.segs.take c2 = L.segs.take c
  rows : rowsOf (fun s => L2.bytes M2 s) (L2.segs.take c2) = rowsOf (fun s => L.bytes M s) (L.segs.take c)
  uses : usesOf (fun s => L2.bytes M2 s) (L2.segs.take c2) = usesOf (fun s => L.bytes M s) (L.segs.take c)
  le : L.segs.length ≤ L2.segs.length
end
end Go.Seg
namespace Go.Rep
def sumTo (xs : List Int) (i : Nat) : Int := (xs.take i).sum
end Go.Rep
namespace Go.Proofs.YtmjldaedhmipkaaGreatDoor
open Go Go.Sl Go.Med Go.MapKept Go.RowKit
section
variable {w0 w : World} {F : List HProp} {lv : Value}
end
section
variable {w0 w : World} {F : List HProp} {lv av : Value}
end
end Go.Proofs.YtmjldaedhmipkaaGreatDoor
namespace Go.Seg
open Go.Med
open Go.Frm (encs GoodE fnds Ent)
def AllBut (o : Option ByteArray) (M : Med) : Prop := ∀ p ∈ M.now, FFlat (M.file p.2) ∨ some p.1 = o
section
variable {o : Option ByteArray} {M : Med} {L : Log} {s : ByteArray} {i K r : Nat}
theorem AllBut.more (h : AllBut none M) (o : Option ByteArray) : AllBut o M := fun p hp => .inl ((h p hp).resolve_right (by simp))
theorem AllBut.append (h : AllBut (some s) M) (c : Calm K r M) (b : Bs) : AllBut (some s) (M.append s b).1 := by
  rcases append_cases c.quiet s b with ⟨_, e⟩ | ⟨j, hj, ⟨_, e⟩ | ⟨_, e⟩⟩
  · rw [e]; exact h
  · rw [e]; exact h
  · rw [e]
    intro p hp
    have hp' : p ∈ M.now := hp
    by_cases hps : p.1 = s
    · exact .inr (by rw [hps])
    · refine .inl ?_
      have hlt : j < M.files.length := c.ok.nowOk.ids _ (nget_mem hj)
      show FFlat ((M.setFile j _).file p.2)
      rw [file_set hlt, if_neg (fun e => hps (dst_inj c hj (by
        have : nget M.now p.1 = some p.2 := nget_of_mem c.ok.nowOk.srt.keys hp'
        rw [this, e])))]
      exact (h p hp').resolve_right (fun e => hps (Option.some.inj e))
theorem AllBut.sync (h : AllBut (some s) M) (c : Calm K r M) (hi : nget M.now s = some i) : AllBut none (M.sync s).1 := by
  rw [c.quiet.sync_eq hi]
  intro p hp
  have hp' : p ∈ M.now := hp
  have hlt : i < M.files.length := c.ok.nowOk.ids _ (nget_mem hi)
  refine .inl ?_
  show FFlat ((M.setFile i _).file p.2)
  rw [file_set hlt]
  split
  · exact ⟨rfl, rfl⟩
  · rename_i hne
    refine (h p hp').resolve_right fun e => hne ?_
    have : nget M.now p.1 = some p.2 := nget_of_mem c.ok.nowOk.srt.keys hp'
    rw [Option.some.inj e, hi] at this
    exact (Option.some.inj this).symm
theorem AllBut.create (h : AllBut none M) (c : Calm K r M) (s : ByteArray) : AllBut none (M.create s).1 := by
  rcases create_cases c.quiet s with ⟨_, _, e⟩ | ⟨_, _, _, e⟩
  · rw [e]; exact h
  · rw [e]
    intro p hp
    refine .inl ?_
    have hp' : p ∈ nput M.now s M.files.length := hp
    have hp2 := (nput_perm M.now s M.files.length).mem_iff.1 hp'
    show FFlat ((M.files ++ [Fil.new]).getD p.2 Fil.new)
    rcases List.mem_cons.1 hp2 with rfl | hp2
    · simp [FFlat, Fil.new]
    · have hm : p ∈ M.now := (List.mem_filter.1 hp2).1
      have hlt := c.ok.nowOk.ids p hm
      rw [List.getD_eq_getElem?_getD, List.getElem?_append_left hlt]
      have := (h p hm).resolve_right (by simp)
      unfold Med.file at this
      rwa [List.getD_eq_getElem?_getD] at this
theorem AllBut.syncDir (h : AllBut o M) : AllBut o M.syncDir.1 := fun p hp => by
  rw [(syncDir_same M).1] at hp
  have := h p hp
  unfold Med.file at this ⊢
  rwa [(syncDir_same M).2]
def ShutL (L : Log) (M : Med) : Prop := AllBut (if L.on = true then L.l.getLast?.map fun s => name s.1 else none) M
theorem ShutL.off (h : ShutL L M) (ho : L.on = false) : AllBut none M := by unfold ShutL at h; rwa [ho, if_neg (by decide)] at h
theorem ShutL.of_off (h : AllBut none M) (ho : L.on = false) : ShutL L M := by unfold ShutL; rwa [ho, if_neg (by decide)]
theorem ShutL.last (h : ShutL L M) {s : Int × Int} (hs : L.l.getLast? = some s) : AllBut (some (name s.1)) M := by
  unfold ShutL at h
  split at h
  · rw [hs] at h; exact h
  · exact h.more _
theorem ShutL.append (h : ShutL L M) (k : Keeps K r L M) (x : Ent) (h0 : (L.append M x).2.2 = 0) :
    (L.append M x).1.1.on = true ∧ AllBut (some (name (L.append M x).2.1.seg)) (L.append M x).1.2 ∧ ∃ s, (L.append M x).1.1.l.getLast? = some s ∧ s.1 = (L.append M x).2.1.seg := by
  unfold Log.append at h0 ⊢
  split at h0
  · rename_i hn; exact absurd h0 hn
  rename_i hn
  rw [if_neg hn]
  split at h0
  · rename_i hf
    rw [if_pos hf]
    have hon := fits_on' hf
    obtain ⟨s, hs⟩ := k.log.last hon
    unfold Log.grow at h0 ⊢
    rw [hs] at h0 ⊢
    simp only at h0 ⊢
    split at h0
    · rename_i ha
      rw [if_pos ha]
      exact ⟨hon, (h.last hs).append k.calm _, (s.1, s.2 + ((Frm.encode x).1.length : Int)), by simp, rfl⟩
    · rename_i ha; exact absurd h0 ha
  · rename_i hf
    rw [if_neg hf]
    obtain ⟨k1, e1, e2, e3, e4⟩ := k.shut
    unfold Log.begin at h0 ⊢
    rw [if_pos e1] at h0 ⊢
    have hall : AllBut none (L.shut M).1.2 := by
      unfold Log.shut
      cases hl : L.l.getLast? with
      | none =>
        unfold ShutL at h
        rw [hl] at h
        intro p hp
        refine .inl ((h p hp).resolve_right ?_)
        split <;> simp
      | some s =>
        simp only
        split
        · rename_i hon
          obtain ⟨i, hi⟩ := k.has s (List.mem_of_getLast? hl)
          split <;> exact (h.last hl).sync k.calm hi
        · rename_i hon
          exact h.off (by simpa using hon)
    generalize (L.shut M).1 = LM at *
    obtain ⟨L1, M1⟩ := LM
    simp only at *
    unfold Log.begin1 at h0 ⊢
    split at h0
    · cases h0
    rename_i g1
    rw [if_neg g1]
    split at h0
    · rename_i g2; exact absurd h0 g2
    rename_i g2
    rw [if_neg g2]
    split at h0
    · rename_i g3
      rw [if_pos g3]
      exact ⟨rfl, ((hall.create k1.calm _).more _).append (k1.calm.create _) _, (L1.next, 8 + ((Frm.encode x).1.length : Int)), by simp, rfl⟩
    · rename_i g3
      split at h0
      · rename_i g4
        simp only at h0
        split at h0
        · cases h0
        · rename_i g5; exact absurd h0 g5
      · exact absurd h0 g3
theorem ShutL.put (h : ShutL L M) (k : Keeps K r L M) (x : Ent) (h0 : (L.append M x).2.2 = 0) : ShutL (L.append M x).1.1 (L.append M x).1.2 := by
  obtain ⟨h1, h2, s, h3, h4⟩ := h.append k x h0
  unfold ShutL
  rw [h1, if_pos rfl, h3, Option.map_some, h4]
  exact h2
theorem ShutL.commit (h : ShutL L M) (k : Keeps K r L M) (h0 : (L.commit M).2.2 = 0) : ShutL (L.commit M).1.1 (L.commit M).1.2 := by
  unfold Log.commit at h0 ⊢
  split at h0
  · rename_i g; exact absurd h0 g
  rename_i g
  rw [if_neg g]
  have hz : (L.append M comEnt).2.2 = 0 := by simpa using g
  obtain ⟨h1, h2, s, h3, h4⟩ := h.append k comEnt hz
  obtain ⟨i, hi⟩ := append_place k comEnt rfl hz
  have k2 := (k.append comEnt rfl).1
  split at h0
  · rename_i g2; exact absurd h0 g2
  rename_i g2
  rw [if_neg g2]
  split at h0
  · rename_i g3; exact absurd h0 g3
  rename_i g3
  rw [if_neg g3]
  exact ShutL.of_off ((h2.sync k2.calm hi).syncDir) rfl
theorem remove_flat (k : Keeps K r L M) (h : AllBut (some s) M) (hi : nget M.now s = some i) : (M.remove s).2 = 0 ∧ (M.remove s).1.syncDir.2 = 0 ∧ Flat (M.remove s).1.syncDir.1 ∧ (M.remove s).1.syncDir.1.now = ndel M.now s ∧ (M.remove s).1.syncDir.1.files = M.files := by
  have q := k.calm.quiet
  have hne : s ≠ ByteArray.empty := k.calm.ok.nowOk.ne _ (nget_mem hi)
  have hr : M.remove s = (M.link ⟨s, ByteArray.empty, 0⟩, 0) := by
    unfold Med.remove
    rw [q.step, q.off, hi]
    simp
  have hl : (M.link ⟨s, ByteArray.empty, 0⟩).now = ndel M.now s := by
    unfold Med.link Lnk.on
    simp only [if_true, if_neg hne]
  have q2 : Quiet (M.remove s).1 := q.remove s
  rw [hr] at q2 ⊢
  simp only at q2 ⊢
  rw [q2.syncDir_eq]
  refine ⟨by first | rfl | trivial, by first | rfl | trivial, ⟨⟨q2.armed, q2.off, q2.left⟩, rfl, rfl, fun p hp => ?_⟩, hl, by first | rfl | trivial⟩
  have hp' : p ∈ ndel M.now s := by
    have hp2 : p ∈ (M.link ⟨s, ByteArray.empty, 0⟩).now := hp
    rwa [hl] at hp2
  obtain ⟨hm, hb⟩ := List.mem_filter.1 hp'
  exact (h p hm).resolve_right fun e => by
    have := Option.some.inj e
    subst this
    simp [bne, beq_ba] at hb
end
end Go.Seg
namespace Go.Seg
open Go.Med
open Go.Frm (Bs Fnd encs GoodE fnds Ent)
open Go.Rep
theorem int_ext : ∀ {l l' : List Int}, l.Pairwise (· < ·) → l'.Pairwise (· < ·) → (∀ p, p ∈ l ↔ p ∈ l') → l = l'
  | [], [], _, _, _ => rfl
  | [], b :: l', _, _, h => by have := (h b).2 (.head _); cases this
  | a :: l, [], _, _, h => by have := (h a).1 (.head _); cases this
  | a :: l, b :: l', h1, h2, h => by
    obtain ⟨a1, a2⟩ := List.pairwise_cons.1 h1
    obtain ⟨b1, b2⟩ := List.pairwise_cons.1 h2
    have hab : a = b := by
      rcases List.mem_cons.1 ((h a).1 (.head _)) with e | h3
      · exact e
      · rcases List.mem_cons.1 ((h b).2 (.head _)) with e | h4
        · exact e.symm
        · have := b1 a h3; have := a1 b h4; omega
    subst hab
    congr 1
    refine int_ext a2 b2 fun p => ?_
    have := h p
    rw [List.mem_cons, List.mem_cons] at this
    constructor
    · intro hp
      rcases this.1 (.inr hp) with e | h3
      · subst e; have := a1 p hp; omega
      · exact h3
    · intro hp
      rcases this.2 (.inr hp) with e | h3
      · subst e; have := b1 p hp; omega
      · exact h3
section
variable {n : Nat} {ds : List Ent} {L : Log} {M : Med} {C C0 : List (List Ent)} {c : Nat} {d x : Ent} {xe : Ent}
theorem ShutL.play (h : ShutL L M) (hp : Pl n ds L M C) (hn : n < 100) (hk : d.key.length = 32) (hd : d.data.length ≤ 300) : ShutL (L.play1 M d).1.1 (L.play1 M d).1.2 := by
  have hst := (hp.step hn hk hd).1
  by_cases hi : isPut d
  · rw [put_eq hi] at hst ⊢
    exact h.put hp.holds.keeps _ hst
  · rw [com_eq hi] at hst ⊢
    exact h.commit hp.holds.keeps hst
theorem ShutL.playL {n : Nat} {ds0 : List Ent} : ∀ (ds : List Ent) (L : Log) (M : Med) (C : List (List Ent)), Pl n ds0 L M C → ShutL L M → (∀ d ∈ ds, d.key.length = 32 ∧ d.data.length ≤ 300) → n + ds.length ≤ 100 → ShutL (Log.playL ds L M).1 (Log.playL ds L M).2
  | ds, L, M, C, h, hs, hd, hn => by
    induction ds generalizing n ds0 L M C with
    | nil => exact hs
    | cons d ds ih =>
      rw [List.length_cons] at hn
      obtain ⟨h1, h2, h3, h4⟩ := h.step (d := d) (by omega) (hd d List.mem_cons_self).1 (hd d List.mem_cons_self).2
      exact ih _ _ _ h4 (hs.play h (by omega) (hd d List.mem_cons_self).1 (hd d List.mem_cons_self).2) (fun x hx => hd x (List.mem_cons_of_mem _ hx)) (by omega)
structure After (L : Log) (M : Med) (lim : Int) (c : Nat) : Prop where
  run : Rep.run (fun s => L.bytes M s) L.segs = .inr c
  tail : L.segs.drop c = [(c : Int)]
  zero : (Log.drop [(c : Int)] 1 L M).2 = 0
  flat : Flat (Log.drop [(c : Int)] 1 L M).1.2
  run2 : Rep.run (fun s => (Seg.fresh (Log.drop [(c : Int)] 1 L M).1.2 lim).bytes (Log.drop [(c : Int)] 1 L M).1.2 s) (Seg.fresh (Log.drop [(c : Int)] 1 L M).1.2 lim).segs = .inr c
  ok2 : (Seg.fresh (Log.drop [(c : Int)] 1 L M).1.2 lim).Ok
  segs2 : (Seg.fresh (Log.drop [(c : Int)] 1 L M).1.2 lim).segs = L.segs.take c
  len : (L.segs.take c).length = c
  rows2 : rowsOf (fun s => (Seg.fresh (Log.drop [(c : Int)] 1 L M).1.2 lim).bytes (Log.drop [(c : Int)] 1 L M).1.2 s) (L.segs.take c) = rowsOf (fun s => L.bytes M s) (L.segs.take c)
  uses2 : usesOf (fun s => (Seg.fresh (Log.drop [(c : Int)] 1 L M).1.2 lim).bytes (Log.drop [(c : Int)] 1 L M).1.2 s) (L.segs.take c) = usesOf (fun s => L.bytes M s) (L.segs.take c)
theorem Pl.after {K : Nat} (h : Pl n ds L M (C0 ++ [[xe]])) (hne : ∃ es, C0 ≠ [] ∧ C0[C0.length - 1]? = some es ∧ Rep.endsC es = true) (hx : xe.tag ≠ 2) (hsh : ShutL L M) (lim : Int) (h1 : 128 ≤ lim) (h2 : lim ≤ 1048576) (hn : n ≤ 100)
    (hmok : (Log.drop [(C0.length : Int)] 1 L M).1.2.Ok K) : After L M lim C0.length := by
  obtain ⟨es, hne, he, hen⟩ := hne
  have hl : 0 < C0.length := List.length_pos_iff.2 hne
  have hlen : (C0 ++ [[xe]]).length = C0.length + 1 := by rw [List.length_append, List.length_singleton]
  have hC : ∀ j es, C0[j]? = some es → (C0 ++ [[xe]])[j]? = some es := fun j es hj => by
    rw [List.getElem?_append_left (List.getElem?_eq_some_iff.1 hj).1]; exact hj
  have hcnt := h.holds.count
  have hlast : (C0 ++ [[xe]])[C0.length]? = some [xe] := by rw [List.getElem?_append_right (Nat.le_refl _), Nat.sub_self]; rfl
  -- Run
  obtain ⟨c, hrun, hc, hc3, hc4⟩ := h.holds.run
  have hcc : c = C0.length := by
    by_cases hlt : c < C0.length
    · have := hc4 (C0.length - 1) es (by omega) (hC _ _ he)
      rw [hen] at this; cases this
    · by_cases hgt : C0.length < c
      · obtain ⟨e2, a1, a2⟩ := hc3 (by omega)
        rw [show c - 1 = C0.length by omega, hlast] at a1
        cases a1
        exact absurd (by simpa [Rep.endsC] using a2) hx
      · omega
  subst hcc
  have hns := h.holds.ns
  have htk : L.segs.take C0.length = (List.range' 0 C0.length).map fun i => ((i : Nat) : Int) := by
    rw [hns, take_nums, hlen, Nat.min_eq_left (by omega)]
  have hdrop : L.segs.drop C0.length = [(C0.length : Int)] := by
    rw [hns, hlen, ← List.map_drop, List.drop_range']
    simp
  -- Drop
  have hat := h.holds.at_k hlast
  obtain ⟨i, hi⟩ : ∃ i, nget M.now (name (C0.length : Int)) = some i := h.holds.keeps.has _ (List.mem_of_getElem? (h.holds.at_ _ _ hlast))
  have hll : L.l.getLast? = some ((C0.length : Int), 8 + ((encs [xe]).length : Int)) := by
    rw [List.getLast?_eq_getElem?, h.holds.len, hlen, Nat.add_sub_cancel]
    exact h.holds.at_ _ _ hlast
  obtain ⟨f1, f2, f3, f4, f5⟩ := remove_flat h.holds.keeps (hsh.last hll) hi
  have hrem : L.remove M (C0.length : Int) = ((L.without C0.length, (M.remove (name (C0.length : Int))).1), 0) := by
    unfold Log.remove
    rw [hat]
    simp only
    rw [if_pos f1]
  have hd0 : Log.drop [(C0.length : Int)] 1 L M = ((L.without C0.length, (M.remove (name (C0.length : Int))).1.syncDir.1), (M.remove (name (C0.length : Int))).1.syncDir.2) := by
    rw [drop_go (by show (L.remove M (C0.length : Int)).2 = 0; rw [hrem])]
    show Log.drop _ 0 (L.remove M (C0.length : Int)).1.1 (L.remove M (C0.length : Int)).1.2 = _
    rw [hrem, drop_end (by simp)]
  rw [hd0] at hmok
  simp only at hmok
  have hbig : (C0.length : Int) < 1048576 := by omega
  -- the log anew
  have hok2 := fresh_ok hmok lim h1 h2
  have hoff2 := f3.quiet.off
  have hget : ∀ j, j < C0.length → nget (M.remove (name (C0.length : Int))).1.syncDir.1.now (name (j : Int)) = nget M.now (name (j : Int)) := fun j hj => by
    rw [f4, nget_ne]
    intro e
    have := name_inj (by omega) (by omega) (by omega) hbig e
    omega
  have hall : ∀ (j : Nat) (es : List Ent), C0[j]? = some es → (M.remove (name (C0.length : Int))).1.syncDir.1.all (name (j : Int)) = (mag ++ encs es, 0) := fun j es hj => by
    have hlt := (List.getElem?_eq_some_iff.1 hj).1
    have hf := h.holds.file j es (hC j es hj)
    unfold Med.all at hf ⊢
    rw [hoff2, hget j hlt]
    rw [h.holds.keeps.calm.quiet.off] at hf
    have hfile : ∀ q, (M.remove (name (C0.length : Int))).1.syncDir.1.file q = M.file q := fun q => by unfold Med.file; rw [f5]
    simp only [hfile]
    exact hf
  have hsegs2 : (Seg.fresh (M.remove (name (C0.length : Int))).1.syncDir.1 lim).segs = L.segs.take C0.length := by
    rw [htk]
    refine int_ext (segs_rise hok2) ?_ fun p => ⟨fun hp => ?_, fun hp => ?_⟩
    · rw [List.pairwise_map]
      refine List.Pairwise.imp ?_ (List.pairwise_lt_range' (s := 0) (n := C0.length))
      intro a b hab
      omega
    · unfold Log.segs at hp
      obtain ⟨y, hy, rfl⟩ := List.mem_map.1 hp
      obtain ⟨q, hq⟩ := fresh_has _ lim y hy
      have hyn := hok2.nums y hy
      have hq2 : nget M.now (name y.1) = some q := by
        by_cases e : name y.1 = name (C0.length : Int)
        · rw [f4, e] at hq
          exfalso
          exact ndel_keys M.now (name (C0.length : Int)) _ (nget_mem hq) rfl
        · rw [f4, nget_ne e] at hq; exact hq
      obtain ⟨k, hk1, hk2⟩ := h.holds.only _ _ hq2
      have hk3 : y.1 = (k : Int) := name_inj hyn.1 hyn.2 (by omega) (by omega) hk2
      have hk4 : k ≠ C0.length := fun e => by
        subst e
        rw [f4, hk3] at hq
        exact ndel_keys M.now (name (C0.length : Int)) _ (nget_mem hq) rfl
      exact List.mem_map.2 ⟨k, by rw [List.mem_range']; exact ⟨k, by omega, by omega⟩, hk3.symm⟩
    · obtain ⟨k, hk1, rfl⟩ := List.mem_map.1 hp
      rw [List.mem_range'] at hk1
      obtain ⟨k', hk2, hk3⟩ := hk1
      have hkl : k < C0.length := by omega
      obtain ⟨q, hq⟩ : ∃ q, nget M.now (name (k : Int)) = some q := h.holds.keeps.has _ (List.mem_of_getElem? (h.holds.at_ _ _ (hC k _ (List.getElem?_eq_getElem hkl))))
      have := fresh_mem (lim := lim) hoff2 (n := (k : Int)) (by omega) (by omega) (by rw [hget k hkl]; exact hq)
      unfold nf at this
      exact List.mem_of_mem_take this
  have hlen2 : (L.segs.take C0.length).length = C0.length := by rw [htk, List.length_map, List.length_range']
  have hb2 : ∀ (j : Nat) (es : List Ent), C0[j]? = some es → (Seg.fresh (M.remove (name (C0.length : Int))).1.syncDir.1 lim).bytes (M.remove (name (C0.length : Int))).1.syncDir.1 (j : Int) = (mag ++ encs es, 0) := fun j es hj => by
    rw [bytes_all hok2, hall j es hj]
    rw [hsegs2, htk]
    exact List.mem_map.2 ⟨j, by rw [List.mem_range']; exact ⟨j, (List.getElem?_eq_some_iff.1 hj).1, by omega⟩, rfl⟩
  have hgood : ∀ (j : Nat) (es : List Ent), C0[j]? = some es → ∀ y ∈ es, GoodE y := fun j es hj => (h.holds.good es (List.mem_of_getElem? (hC j es hj))).1
  have htold : ∀ (j : Nat) (es : List Ent), C0[j]? = some es → (Seg.fresh (M.remove (name (C0.length : Int))).1.syncDir.1 lim).bytes (M.remove (name (C0.length : Int))).1.syncDir.1 ((L.segs.take C0.length).getD j 0) = (mag ++ encs es, 0) ∧ ∀ y ∈ es, GoodE y := fun j es hj => by
    have hlt := (List.getElem?_eq_some_iff.1 hj).1
    have : (L.segs.take C0.length).getD j 0 = (j : Int) := by
      rw [List.getD, htk, List.getElem?_map, List.getElem?_range' hlt]; simp
    rw [this]
    exact ⟨hb2 j es hj, hgood j es hj⟩
  refine ⟨hrun, hdrop, by rw [hd0]; exact f2, by rw [hd0]; exact f3, ?_, by rw [hd0]; exact hok2, by rw [hd0]; exact hsegs2, hlen2, ?_, ?_⟩
  · rw [hd0]
    simp only
    rw [hsegs2]
    obtain ⟨c2, b1, b2, b3, b4⟩ := Rep.split_is hlen2 htold C0.length (Nat.le_refl _)
    have hc2 : c2 = C0.length := by
      by_cases hlt : c2 < C0.length
      · have := b4 (C0.length - 1) es (by omega) (by omega) he
        rw [hen] at this; cases this
      · omega
    unfold Rep.run
    rw [hlen2, b1, if_neg (by simp), hc2]
    refine Rep.runAt_none (Rep.bad_is fun j s hs => ?_)
    have hs' : (L.segs.take C0.length)[j]? = some s := by
      rw [List.getElem?_take] at hs
      split at hs
      · exact hs
      · cases hs
    have hj : j < C0.length := by rw [← hlen2]; exact (List.getElem?_eq_some_iff.1 hs').1
    have := htold j _ (List.getElem?_eq_getElem hj)
    rw [List.getD, hs'] at this
    exact ⟨_, this.1, this.2⟩
  · rw [hd0]
    simp only
    rw [h.holds.rows, List.take_left, htk]
    refine Rep.rows_is C0 0 fun j es hj => ?_
    rw [Nat.zero_add]
    exact ⟨hb2 j es hj, hgood j es hj⟩
  · rw [hd0]
    simp only
    unfold usesOf
    refine List.map_congr_left fun s hs => ?_
    rw [htk] at hs
    obtain ⟨k, hk1, rfl⟩ := List.mem_map.1 hs
    rw [List.mem_range'] at hk1
    obtain ⟨k', hk2, hk3⟩ := hk1
    have hkl : k < C0.length := by omega
    have hj : C0[k]? = some C0[k] := List.getElem?_eq_getElem hkl
    simp only [hb2 k _ hj, h.holds.bytes (hC k _ hj)]
end
end Go.Seg
namespace Go.Proofs.YtmjldaedhmipkaaGreatDoor
open Go Go.Sl Go.Med Go.MapKept Go.RowKit
section
variable {P : Program} {w0 w : World} {L : List HProp} {ops : Array Oper} {rest : List Oper} {a : Act} {Q : Exit → Act → World → Prop} {dst : Option Tmp} {t ty e : TypeId} {pos : String} {after : Array Edge} {x y : Operand} {v1 v2 : Value} {cs1 cs2 : Array Value} {g : Nat × Bool} {op : Op} {sz by' : Nat}
theorem wl_unguard (hw : Region.wanted ⟨dst, op, t, pos, after, some g⟩ (yielded ops a.tmps) = true) (h : wpList P ops Q (⟨dst, op, t, pos, after, none⟩ :: rest) a w) : wpList P ops Q (⟨dst, op, t, pos, after, some g⟩ :: rest) a w := by
  unfold wpList at h ⊢
  rw [if_pos hw]
  rw [if_pos (want_none _ rfl)] at h
  exact h
theorem at_gbuild {xs : Array (Nat × Operand)} (h : Stop (wpList P ops Q (⟨dst, .build ty xs, t, pos, after, some g⟩ :: rest) a w)) : wpList P ops Q (⟨dst, .build ty xs, t, pos, after, some g⟩ :: rest) a w := h.out
theorem at_gslice {n : Nat} {xs : Array (Nat × Operand)} (h : Stop (wpList P ops Q (⟨dst, .buildSlice ty n xs, t, pos, after, some g⟩ :: rest) a w)) : wpList P ops Q (⟨dst, .buildSlice ty n xs, t, pos, after, some g⟩ :: rest) a w := h.out
theorem at_gapp {xs : Array Operand} {ts : Array TypeId} (h : Stop (wpList P ops Q (⟨dst, .call { callee := .builtin .append, args := xs, argTypes := ts }, t, pos, after, some g⟩ :: rest) a w)) : wpList P ops Q (⟨dst, .call { callee := .builtin .append, args := xs, argTypes := ts }, t, pos, after, some g⟩ :: rest) a w := h.out
theorem run_slice2 (hb : appB P t e sz by' = true) (h1 : v1.cells.size = sz) (h2 : v2.cells.size = sz) (hle : 2 * sz ≤ 16777216) (w : World) :
    (Instr.buildSlice t 2 #[(0, v1), (1, v2)]).run P w = .ok (.slice (some ⟨w.heap.size, 0, none⟩) 2 2) (w.alloc (.cells (v1.cells ++ v2.cells) e)) := by
  obtain ⟨hu, i, z, hi, hz, e1, e2, e3, e4⟩ := appB_spec hb
  subst e1
  have hzv : (zeroValue e).run P w = .ok z w := by simp [zeroValue, typeInfo, hi, hz]
  have hsz' : (sizeOf e).run P w = .ok i.size w := by simp [sizeOf, typeInfo, hi]
  have hnz : ¬ (2 * i.size = 0) := by omega
  have hle' : ¬ (2 * i.size > 2 ^ 24) := by omega
  unfold Instr.buildSlice
  simp only [Sem.run_bind, run_underlying hu, Result.andThen_ok, hsz', if_neg hle', if_neg hnz, hzv, Sem.run_pure]
  have hf : Instr.fill (fun i' => some (i' * i.size, i.size)) ((Array.range (2 * i.size)).map (z.cells[· % z.cells.size]!)) [(0, v1), (1, v2)] = some (v1.cells ++ v2.cells) := by
    generalize hz0 : (Array.range (2 * i.size)).map (z.cells[· % z.cells.size]!) = z0
    have hs1 : z0.size = 2 * i.size := by rw [← hz0]; simp
    have hf1 : ∀ (v : Value) (off : Nat) (cs : Array Value), v.cells.zipIdx.foldl (fun cs (c, j) => cs.setIfInBounds (off + j) c) cs = putsAt cs off v.cells.toList := fun v off cs => by
      have := foldl_puts v.cells.toList 0 off cs
      rw [Nat.add_zero] at this
      rw [← this, ← Array.foldl_toList, Array.toList_zipIdx]
    unfold Instr.fill
    simp only [Nat.zero_mul]
    have hc : ¬ ((v1.cells.size ≠ i.size || 0 + v1.cells.size > z0.size) = true) := by
      rw [hs1]; simp [h1]; omega
    simp only [if_neg hc]
    rw [hf1]
    unfold Instr.fill
    simp only [Nat.one_mul]
    have hc2 : ¬ ((v2.cells.size ≠ i.size || i.size + v2.cells.size > (putsAt z0 0 v1.cells.toList).size) = true) := by
      rw [putsAt_size, hs1]; simp [h2]; omega
    simp only [if_neg hc2]
    rw [hf1]
    unfold Instr.fill
    congr 1
    apply Array.toList_inj.1
    have hl1 : v1.cells.toList.length = i.size := by rw [Array.length_toList]; exact h1
    have hl2 : v2.cells.toList.length = i.size := by rw [Array.length_toList]; exact h2
    have hz1 : z0.toList.length = 2 * i.size := by rw [Array.length_toList]; exact hs1
    rw [putsAt_list _ _ _ (by rw [putsAt_size, hs1, hl2]; omega), putsAt_list _ _ _ (by rw [hs1, hl1]; omega), Array.toList_append]
    rw [List.take_zero, List.nil_append, Nat.zero_add, List.take_append_of_le_length (by omega), List.take_of_length_le (by omega), List.drop_of_length_le (by rw [List.length_append, List.length_drop, hl1, hl2, hz1]; omega), List.append_nil]
  simp only [hf]
  simp [newRow, go_sem]
theorem wl_two (hb : appB P ty e sz by' = true) (hs : Sat w0 w L) (hx : a.eval x = v1) (hy : a.eval y = v2) (hc1 : v1.cells = cs1) (hc2 : v2.cells = cs2) (h1 : cs1.size = sz) (h2 : cs2.size = sz) (hle : 2 * sz ≤ 16777216)
    (hK : ∀ b w', Sat w0 w' (pt b (.cells (cs1 ++ cs2) e (0,0)) :: L) → wpList P ops Q rest (a.put dst (.slice (some ⟨b, 0, none⟩) 2 2)) w') : wpList P ops Q (⟨dst, .buildSlice ty 2 #[(0, x), (1, y)], t, pos, after, none⟩ :: rest) a w := by
  subst hc1; subst hc2
  refine wpList_plain rfl fun _ hK' => ?_
  have hS := hs.alloc (.cells (v1.cells ++ v2.cells) e)
  unfold Oper.wp execOp
  simp only [hx, hy, List.map_toArray, List.map_cons, List.map_nil, Sem.run_bind, Sem.run_pure, run_slice2 hb h1 h2 hle w, Result.andThen_ok]
  exact hK' _ _ (hK _ _ hS)
end
set_option maxRecDepth 20000 in
theorem run_buildKD (tag : Int) (da : Option Addr) (dn dc : Nat) (w : World) : (Instr.build 107 #[(0, .int .i64 tag), (2, .slice da dn dc)]).run Tryz.prog w = .ok (.agg (entA ⟨tag, Frm.zero32, []⟩ (.slice da dn dc))) w := by
  have hz : (entA Frm.zeroE (.slice none 0 0)).size = 34 := entA_size _ _ rfl
  have h := run_build (P := Tryz.prog) [(0, .int .i64 tag), (2, .slice da dn dc)] plDo15 zDo15 (by
    intro p hp
    simp only [List.mem_cons, List.not_mem_nil, or_false] at hp
    have hzz : zeroEntV.cells.size = 34 := hz
    rw [hzz]
    rcases hp with rfl | rfl
    · exact ⟨0, rfl, by show 0 + 1 ≤ 34; omega⟩
    · exact ⟨33, rfl, by show 33 + 1 ≤ 34; omega⟩) w
  refine h.trans ?_
  congr 2
section
variable {w0 w : World} {F : List HProp} {p q m d K i : Nat} {L : Seg.Log} {M D : Med} {tv : Value}
set_option maxRecDepth 20000 in
set_option maxHeartbeats 8000000 in
theorem drop_c (t : List Int) (htl : t.length ≤ 1048576) (hL : L.Ok) (hM : M.Ok K) (hK : K ≤ 1048576) (hr : Ro w0 F (rdsl 1 tv (ints t))) (h : Sat w0 w (LogRep p m L :: MedRep m M :: F)) :
    Calls Tryz.prog 43 #[ptr p, tv] w (Rtn fun v w' => v = errno (Seg.Log.drop t t.length L M).2 ∧ Sat w0 w' (LogRep p m (Seg.Log.drop t t.length L M).1.1 :: MedRep m (Seg.Log.drop t t.length L M).1.2 :: F)) := by
  obtain ⟨ta, tc, rfl⟩ := ints_sl (hr w h.drop.drop)
  have Hr := Lib.hid hr; have Htl := Lib.hid htl; have HK := Lib.hid hK
  have w1 : IntKind.i64.wrap ((t.length : Int) - 1) = (t.length : Int) - 1 := IntWalk.i64_in _ (by omega)
  have H0 := Lib.hid (show L.Ok ∧ M.Ok K from ⟨hL, hM⟩)
  clear hr htl hK hL hM
  go_enter Tryz.func43, Tryz.ntmps43
  go_wp2_with fail
  go_loopg [5] t.length (fun g iq wr => ∃ (k : Nat) (L' : Seg.Log) (M' : Med), g = 0 + k ∧ k ≤ t.length ∧ iq = .int .i64 ((k : Int) - 1) ∧ Seg.Log.drop t t.length L M = Seg.Log.drop t k L' M' ∧ L'.Ok ∧ M'.Ok (K + (t.length - k)) ∧ Sat w0 wr (LogRep p m L' :: MedRep m M' :: F))
  case atStart => exact ⟨t.length, L, M, (Nat.zero_add _).symm, Nat.le_refl _, rfl, rfl, H0.out.1, H0.out.2.mono (Nat.le_add_right _ _), h⟩
  case round =>
    obtain ⟨k, L', M', rfl, hk, rfl, he, hL, hM, hS⟩ := hrel
    clear h
    cases k with
    | zero =>
      have c1 : ¬ (((0 : Nat) : Int) - 1) ≥ 0 := by decide
      have He := Lib.hid he; have HM := Lib.hid hM; have HL := Lib.hid hL
      clear he hL hM hk
      by_cases ht : t = []
      · have hb : ((t.length : Int) == 0) = true := by rw [ht]; rfl
        have Hf := Lib.hid (Seg.drop_nil (L := L') (M := M') ht)
        clear ht
        go_wp2_with fail
        go_ret
        rw [He.out, Hf.out]
        exact ⟨_, rfl, rfl, hS⟩
      · have hb : ((t.length : Int) == 0) = false := by
          rw [beq_eq_false_iff_ne]
          intro e
          exact ht (List.eq_nil_of_length_eq_zero (by omega))
        have Hf := Lib.hid (Seg.drop_end (L := L') (M := M') ht)
        clear ht
        go_wp2_with fail
        refine (lsync_c HM.out hS).mono ?_
        rintro ee w2 ⟨v, rfl, rfl, hS2⟩
        clear hS
        go_wp2_with fail
        go_ret
        rw [He.out, Hf.out]
        exact ⟨_, rfl, rfl, hS2⟩
    | succ k =>
      have e1 : ((k + 1 : Nat) : Int) - 1 = (k : Int) := by omega
      rw [e1]
      have c1 : (k : Int) ≥ 0 := by omega
      have c2 : (k : Int) < (t.length : Int) := by omega
      have w2 : IntKind.i64.wrap ((k : Int) - 1) = (k : Int) - 1 := IntWalk.i64_in _ (by have := Htl.out; omega)
      obtain ⟨s, hs⟩ : ∃ s, t[k]? = some s := ⟨_, List.getElem?_eq_getElem (by omega)⟩
      have hgd : t.getD k 0 = s := by rw [List.getD, hs]; rfl
      obtain ⟨bk, off, cc, e2, c0⟩ := ints_cell (Hr.out _ hS.drop.drop) hs
      cases e2
      have hrm := lremove_c hL hM (by have := HK.out; have := Htl.out; omega) s hS
      have He := Lib.hid he; have Hk := Lib.hid hk
      have hlog := hL.remove M' s
      have hmed := Seg.remove_med (L := L') hM s
      have Hgo := Lib.hid (fun (h0 : (L'.remove M' s).2 = 0) => Seg.drop_go (t := t) (L := L') (M := M') (k := k) (by rw [hgd]; exact h0))
      have Hno := Lib.hid (fun (h0 : (L'.remove M' s).2 ≠ 0) => Seg.drop_no (t := t) (L := L') (M := M') (k := k) (by rw [hgd]; exact h0))
      rw [hgd] at Hgo Hno
      clear he hk hs hgd hL hM hS
      generalize L'.remove M' s = r at *
      obtain ⟨⟨L2, M2⟩, e⟩ := r
      dsimp only at hrm hlog hmed Hgo Hno
      have Hlog := Lib.hid hlog; have Hmed := Lib.hid hmed
      clear hlog hmed
      go_wp2_with fail
      refine hrm.mono ?_
      rintro ee w3 ⟨v, rfl, rfl, hS3⟩
      clear hrm c0
      by_cases h0 : e = 0
      · subst h0
        have Hf := Lib.hid (Hgo.out rfl)
        go_wp2_with fail
        go_roundg (0 + k)
        case measure => omega
        case rel => exact ⟨k, L2, M2, rfl, Nat.le_of_succ_le Hk.out, by first | rfl | go_num, He.out.trans Hf.out, Hlog.out, Hmed.out.mono (by have := Hk.out; omega), hS3⟩
      · have hb : (e != 0) = true := by rw [bne_iff_ne]; exact h0
        have hb2 : (e == 0) = false := by rw [beq_eq_false_iff_ne]; exact h0
        have Hf := Lib.hid (Hno.out h0)
        clear h0
        go_wp2_with fail
        go_ret
        rw [He.out, Hf.out]
        exact ⟨_, rfl, rfl, hS3⟩
end
end Go.Proofs.YtmjldaedhmipkaaGreatDoor
