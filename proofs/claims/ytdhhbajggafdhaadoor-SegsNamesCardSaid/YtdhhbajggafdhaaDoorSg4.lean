import Derived.Test.YtdhhbajggafdhaaDoorSg3
import Derived.Test.YtdhhbajggafdhaaDoorRowS
/- A log of segments in memory; alive, Open. -/
namespace Go.Seg
open Go.Med
/-- A log: its limit, its segments (number, size), is the last one open, how many of the last are fresh. -/
structure Log where
  limit : Int
  l : List (Int × Int)
  on : Bool
  fresh : Int
def alive (M : Med) : Int := if (M.size ByteArray.empty).2 = 9 then 0 else (M.size ByteArray.empty).2
def found (M : Med) (l : List ByteArray) : List (Int × Int) := l.filterMap fun s => if (number s).2 = true then some ((number s).1, (M.size s).1) else none
def fresh (M : Med) (limit : Int) : Log := ⟨limit, found M M.list, false, 0⟩
theorem found_snoc (M : Med) (l : List ByteArray) (s : ByteArray) : found M (l ++ [s]) = found M l ++ (if (number s).2 = true then [((number s).1, (M.size s).1)] else []) := by
  unfold found
  rw [List.filterMap_append]
  congr 1
  by_cases h : (number s).2 = true <;> simp [h]
theorem found_len (M : Med) (l : List ByteArray) : (found M l).length ≤ l.length := List.length_filterMap_le _ _
end Go.Seg
namespace Go.Proofs.YtdhhbajggafdhaaDoor
open Go Go.Sl Go.Med Go.MapKept Go.RowKit
set_option linter.unusedVariables false
/-- The cells of segments. -/
def segw (l : List (Int × Int)) : List Value := l.flatMap fun s => [.int .i64 s.1, .int .i64 s.2]
def logPt (p m : Nat) (L : Seg.Log) (lv : Value) : HProp := pt p (.cells #[ptr m, .int .i64 L.limit, lv, .bool L.on, .int .i64 L.fresh] 86 (0,0))
def LogRaw (p m : Nat) (L : Seg.Log) (lv : Value) : List HProp := [logPt p m L lv, osl 98 2 lv (segw L.l)]
def LogRep (p m : Nat) (L : Seg.Log) : HProp := fun h => ∃ lv, stars (LogRaw p m L lv) h
theorem infoSeg : (Tryd.prog.info? 98).map (fun i => (i.zero, i.size, i.bytes)) = some (some (.agg #[.int .i64 0, .int .i64 0]), 2, 16) := by kernel_rfl
section
variable {w0 w : World} {F : List HProp} {v bv dv x lv : Value} {q p m K : Nat} {L : Seg.Log} {M : Med}
theorem LogRep.open (h : Sat w0 w (LogRep p m L :: F)) : ∃ lv, Sat w0 w (LogRaw p m L lv ++ F) := by
  obtain ⟨ha, x, hx, p, q, d, rfl, ⟨lv, hp⟩, hq⟩ := h
  refine ⟨lv, ha, _, hx, ?_⟩
  rw [stars_append]
  exact ⟨p, q, d, rfl, hp, hq⟩
theorem LogRep.shut (h : Sat w0 w (LogRaw p m L lv ++ F)) : Sat w0 w (LogRep p m L :: F) :=
  h.join fun _ hx => ⟨lv, hx⟩
theorem segw_len (l : List (Int × Int)) : (segw l).length = 2 * l.length := by
  unfold segw
  induction l with
  | nil => rfl
  | cons a l ih => rw [List.flatMap_cons, List.length_append, ih]; simp; omega
theorem segw_app (l k : List (Int × Int)) : segw (l ++ k) = segw l ++ segw k := by unfold segw; rw [List.flatMap_append]
set_option maxHeartbeats 1000000 in
theorem alive_c (hM : M.Ok K) (h : Sat w0 w (MedRep m M :: F)) :
    Calls Tryd.prog 47 #[ptr m] w (Rtn fun v w' => v = errno (Seg.alive M) ∧ w = w') := by
  have hs := size_c hM h ByteArray.empty
  have Hal := Lib.hid (show Seg.alive M = if (M.size ByteArray.empty).2 = 9 then 0 else (M.size ByteArray.empty).2 from rfl)
  generalize (M.size ByteArray.empty).2 = e at *
  generalize (M.size ByteArray.empty).1 = n at *
  by_cases he : e = 9
  · subst he
    go_enter Tryd.func47, Tryd.ntmps47
    go_wp2_with fail
    refine hs.mono ?_
    rintro e w1 ⟨v, rfl, rfl, rfl⟩
    clear hs
    go_wp2
    go_ret
    exact ⟨_, rfl, by rw [Hal.out]; rfl, rfl⟩
  · have hed : (e == 9) = false := beq_false_of_ne he
    have He := Lib.hid he
    clear he
    go_enter Tryd.func47, Tryd.ntmps47
    go_wp2_with fail
    refine hs.mono ?_
    rintro e w1 ⟨v, rfl, rfl, rfl⟩
    clear hs
    go_wp2
    go_ret
    exact ⟨_, rfl, by rw [Hal.out, if_neg He.out]; rfl, rfl⟩
set_option maxRecDepth 20000 in
set_option maxHeartbeats 4000000 in
theorem open_c (hM : M.Ok K) (limit : Int) (h : Sat w0 w (MedRep m M :: F)) (ha : Seg.alive M = 0) (h1 : 128 ≤ limit) (h2 : limit ≤ 1048576) :
    Calls Tryd.prog 18 #[ptr m, .int .i64 limit] w (Rtn fun v w' => ∃ p, v = .tuple #[ptr p, errno 0] ∧ Sat w0 w' (LogRep p m (Seg.fresh M limit) :: MedRep m M :: F)) := by
  have hal := alive_c hM h
  rw [ha] at hal
  have hd1 : decide (limit < 128) = false := decide_eq_false (by omega)
  have hd2 : decide (1048576 < limit) = false := decide_eq_false (by omega)
  obtain ⟨i, hi, hz0, hz1, hz2⟩ := info_parts infoSeg
  have hll := Lib.hid (show M.list.length ≤ 500 by
    unfold Med.list
    split
    · simp
    · rw [List.length_map]; exact hM.nowOk.len)
  clear h1 h2 ha
  go_enter Tryd.func18, Tryd.ntmps18
  go_wp2_with fail
  refine hal.mono ?_
  rintro e w1 ⟨v, rfl, rfl, rfl⟩
  clear hal
  have hB := h.alloc (.cells #[ptr m, .int .i64 limit, .slice none 0 0, .bool false, .int .i64 0] 86)
  have hL := list_c hM hB.pick1
  go_wp2_with fail
  refine hL.mono ?_
  rintro e w2 ⟨v, rfl, hS, ba, bn, bc, rfl⟩
  have hlen : bn = M.list.length := by
    obtain ⟨a', n', c', he, hl, _⟩ := Sat.rd hS
    cases he
    rw [strs_len, Nat.mul_one] at hl
    exact hl.symm
  clear hL hB
  subst hlen
  generalize w.heap.size = q at *
  go_wp2_with fail
  go_loopg [32] M.list.length (fun g iq wr => ∃ (i : Nat) (lv : Value), g = M.list.length - i ∧ i ≤ M.list.length ∧ iq = .int .i64 i ∧ Sat w0 wr (LogRaw q m ⟨limit, Seg.found M (M.list.take i), false, 0⟩ lv ++ osl 9 1 (.slice ba M.list.length bc) (strs M.list) :: MedRep m M :: F))
  case atStart => exact ⟨0, .slice none 0 0, rfl, Nat.zero_le _, rfl, by
    have := Sat.osl_nil (T := 98) (sz := 2) |>.2 hS
    exact this.sel 4 [3, 0, 1, 2] rfl rfl⟩
  case round =>
    obtain ⟨j, lv, rfl, hj, rfl, hR⟩ := hrel
    clear hS
    by_cases hj' : j < M.list.length
    · have hx : M.list[j]? = some (M.list[j]'hj') := List.getElem?_eq_getElem hj'
      have hcx := Sat.rd (hR.sel 3 [2] rfl rfl)
      obtain ⟨bk, off, hba, c1⟩ := rdsl_cell hcx (strs_at hx)
      have Hfs := Lib.hid (show Seg.found M (M.list.take (j + 1)) = Seg.found M (M.list.take j) ++ (if (Seg.number M.list[j]).2 = true then [((Seg.number M.list[j]).1, (M.size M.list[j]).1)] else []) by
        rw [List.take_succ_eq_append_getElem hj', Seg.found_snoc])
      have hnum := snumber_c M.list[j] hR
      have Hfl := Lib.hid (Seg.found_len M (M.list.take j))
      generalize M.list[j] = s at *
      have hic : (j : Int) < (M.list.length : Int) := by omega
      have hjl := Lib.hid hj'
      clear hx hcx hj'
      subst hba
      go_wp2_with fail
      refine hnum.mono ?_
      rintro e w3 ⟨v, rfl, rfl, hR3⟩
      clear hnum
      have hwi : IntKind.i64.wrap ((j : Int) + 1) = (j : Int) + 1 := IntWalk.i64_in _ (by have := hll.out; have := hjl.out; omega)
      cases hb : (Seg.number s).2
      · have Hb := Lib.hid hb
        clear hb
        go_wp2
        go_roundg (M.list.length - (j + 1))
        case measure => have := hjl.out; omega
        case rel =>
          refine ⟨j + 1, lv, rfl, Nat.succ_le_of_lt hjl.out, by first | rfl | go_num, ?_⟩
          rw [Hfs.out, Hb.out, if_neg (by decide), List.append_nil]
          exact hR3
      · have Hb := Lib.hid hb
        clear hb
        have hsz := size_c hM (hR3.sel 4 [3, 0, 1, 2] rfl rfl) s
        go_wp2_with fail
        refine hsz.mono ?_
        rintro e w4 ⟨v, rfl, rfl, rfl⟩
        clear hsz
        have c2 := hR3.cellAt 2 _ rfl
        generalize (M.size s).1 = sz at *
        generalize (M.size s).2 = se at *
        generalize (Seg.number s).1 = nu at *
        have h7 := hR3.alloc (.cells #[.int .i64 nu, .int .i64 sz] 98)
        have hoc : ∀ u ∈ (#[.int .i64 nu, .int .i64 sz] : Array Value).toList, u.oneCell' = true := by
          intro u hu
          simp only [List.mem_cons, List.not_mem_nil, or_false] at hu
          rcases hu with rfl | rfl <;> rfl
        have hlen : (segw (Seg.found M (M.list.take j))).length ≤ 2 * 500 := by
          rw [segw_len]; have := Hfl.out; have := hll.out; rw [List.length_take] at *; omega
        have h63 : (segw (Seg.found M (M.list.take j))).length + 2 ≤ maxLen := by unfold maxLen; omega
        have hby : ((segw (Seg.found M (M.list.take j))).length + 2) * i.bytes ≤ 140737488355328 := by rw [hz2]; omega
        have h8 : Sat w0 _ (osl 98 2 lv (segw (Seg.found M (M.list.take j))) :: logPt q m ⟨limit, Seg.found M (M.list.take j), false, 0⟩ lv :: osl 9 1 (.slice (some ⟨bk, off, none⟩) M.list.length bc) (strs M.list) :: MedRep m M :: F) := h7.sel 5 [2, 1, 3, 4] rfl rfl
        clear hlen
        go_wp2_with (at_builtin; go_must (refine wpList_append (w0 := w0) (by rfl) _ _ _ (by rfl) _ i _ Tryd.underlying84 hi hz0 hz1 (by rfl) (by omega) (by rfl) (by rfl) hoc h8 (rdsl_new _ _ _ 2 1 1 (by rfl)) h63 hby ?_); intro v2 w5 hS5 hne; obtain ⟨ab, an, ac, rfl⟩ := hne (by simp); have e2 := hS5.pick1.cellAt 2 _ rfl; have g2 := hS5.pick1.freeAt 2)
        have hS6 := hS5.pick1.set 2 (.slice (some ⟨ab, 0, none⟩) an ac)
        generalize w5.setCell _ _ = w6 at *
        go_roundg (M.list.length - (j + 1))
        case measure => have := hjl.out; omega
        case rel =>
          refine ⟨j + 1, .slice (some ⟨ab, 0, none⟩) an ac, rfl, Nat.succ_le_of_lt hjl.out, by first | rfl | go_num, ?_⟩
          rw [Hfs.out, Hb.out, if_pos rfl]
          unfold LogRaw
          rw [segw_app]
          exact hS6
    · obtain rfl : j = M.list.length := by omega
      have hic : ¬ (M.list.length : Int) < (M.list.length : Int) := by omega
      rw [List.take_length] at hR
      clear hj hj'
      go_wp2
      go_ret2
      refine ⟨_, rfl, q, rfl, ?_⟩
      exact LogRep.shut (hR.sel 4 [0, 1, 3] rfl rfl)
end
end Go.Proofs.YtdhhbajggafdhaaDoor
