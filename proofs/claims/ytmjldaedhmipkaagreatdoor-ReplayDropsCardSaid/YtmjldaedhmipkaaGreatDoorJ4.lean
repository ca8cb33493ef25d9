import Derived.Test.YtmjldaedhmipkaaGreatDoorJ3
set_option linter.unusedVariables false
namespace Go.Frm
def cutE (long : Nat) (x : Ent) : Ent := ⟨x.tag, x.key, x.data.take long⟩
def few (l : List Ent) (n long : Nat) : List Ent := (l.take n).map (cutE long)
end Go.Frm
namespace Go.Proofs.YtmjldaedhmipkaaGreatDoor
open Go Go.Sl Go.Med Go.MapKept Go.RowKit
section
variable {w0 w : World} {F R : List HProp} {v bv dv x lv : Value}
theorem rdsl_cut {k : Nat} {l : Bs} {a : Option Addr} {n c : Nat} (h : rdsl 1 (.slice a n c) (bys l) w) : rdsl 1 (.slice a (min n k) c) (bys (l.take k)) w := by
  obtain ⟨a', n', c', he, hl, hx⟩ := h
  cases he
  rw [bys_len, Nat.mul_one] at hl
  refine ⟨a, _, c, rfl, by rw [bys_len, List.length_take]; omega, fun j y hj => ?_⟩
  have hj' : (bys l)[j]? = some y := by
    unfold bys at hj ⊢
    rw [List.map_take, List.getElem?_take] at hj
    split at hj
    · exact hj
    · cases hj
  exact hx j y hj'
theorem dataS_snoc (es : List (Frm.Ent × Value)) (x : Frm.Ent) (dv : Value) : dataS (es ++ [(x, dv)]) = star (bsl dv x.data) (dataS es) := by
  unfold dataS
  rw [List.map_append, stars_append, star_comm]
  show star (stars [bsl dv x.data]) _ = _
  rw [stars_one]
theorem entA_one (e : Frm.Ent) (a : Option Addr) (n c : Nat) : (entA e (.slice a n c)).toList.all (·.oneCell') = true := by
  unfold entA entL
  rw [List.toList_toArray, List.all_cons, List.all_append]
  have : (bys e.key).all (·.oneCell') = true := List.all_eq_true.2 (bys_one _)
  rw [this]; rfl
structure EntRo (w0 : World) (F : List HProp) (p : Frm.Ent × Value) : Prop where
  key : p.1.key.length = 32
  rd : Ro w0 F (rdsl 1 p.2 (bys p.1.data))
  cap : capOk p.2
theorem few_keys {es fs : List (Frm.Ent × Value)} {i long : Nat} (h : fs.map (·.1) = ((es.map (·.1)).take i).map (Frm.cutE long)) (hk : ∀ p ∈ es, p.1.key.length = 32) : ∀ p ∈ fs, p.1.key.length = 32 := by
  intro p hp
  have h1 : p.1 ∈ fs.map (·.1) := List.mem_map.2 ⟨p, hp, rfl⟩
  rw [h, List.mem_map] at h1
  obtain ⟨x, hx, he⟩ := h1
  obtain ⟨q, hq, rfl⟩ := List.mem_map.1 (List.mem_of_mem_take hx)
  rw [← he]
  exact hk q hq
set_option maxRecDepth 20000 in
set_option maxHeartbeats 8000000 in
theorem few_c (es : List (Frm.Ent × Value)) (n long : Nat) (hlong : long ≤ 1099511627776) (hn : n ≤ 1048576) (hr : Ro w0 F (rdsl 34 lv (entsL es))) (he : ∀ p ∈ es, EntRo w0 F p) (h : Sat w0 w F) :
    Calls Tryz.prog 62 #[lv, .int .i64 n, .int .i64 long] w (Rtn fun v w' => ∃ fs : List (Frm.Ent × Value), fs.map (·.1) = Frm.few (es.map (·.1)) n long ∧ Sat w0 w' (osl 44 34 v (entsL fs) :: dataS fs :: F)) := by
  obtain ⟨la, ln, lc, rfl, hl, _⟩ := hr w h
  rw [entsL_len (fun p hp => (he p hp).key)] at hl
  obtain rfl : ln = es.length := by omega
  have Hr := Lib.hid hr; have He := Lib.hid he; have Hlong := Lib.hid hlong; have Hn := Lib.hid hn
  clear hr he hl hn
  go_enter Tryz.func62, Tryz.ntmps62
  go_wp2_with fail
  go_loopg [8, 7] es.length (fun g iq ov wr => ∃ (i : Nat) (fs : List (Frm.Ent × Value)), g = es.length - i ∧ i ≤ es.length ∧ i ≤ n ∧ iq = .int .i64 i ∧ fs.map (·.1) = ((es.map (·.1)).take i).map (Frm.cutE long) ∧
    Sat w0 wr (osl 44 34 ov (entsL fs) :: dataS fs :: F))
  case atStart => exact ⟨0, [], rfl, Nat.zero_le _, Nat.zero_le _, rfl, rfl, Sat.osl_nil.2 (Sat.emp.2 h)⟩
  case round =>
    obtain ⟨i, fs, rfl, hi, hin, rfl, hfs, hS⟩ := hrel
    have Hfs := Lib.hid hfs; have Hi := Lib.hid hi; have Hin := Lib.hid hin
    clear h hfs hi hin
    by_cases hlt : i < es.length ∧ i < n
    · obtain ⟨hl1, hl2⟩ := hlt
      have c1 : (i : Int) < (es.length : Int) := by omega
      have c2 : (i : Int) < (n : Int) := by omega
      have hwi : IntKind.i64.wrap ((i : Int) + 1) = (i : Int) + 1 := IntWalk.i64_in _ (by have := Hn.out; omega)
      have Hl1 := Lib.hid hl1; have Hl2 := Lib.hid hl2
      have Hfk := Lib.hid (few_keys Hfs.out (fun p hp => (He.out p hp).key))
      clear hl1 hl2
      obtain ⟨x, hx⟩ : ∃ x, es[i]? = some x := ⟨_, List.getElem?_eq_getElem Hl1.out⟩
      have hxe := He.out x (List.mem_of_getElem? hx)
      have hk : ∀ p ∈ es, p.1.key.length = 32 := fun p hp => (He.out p hp).key
      have hcut := Lib.hid (show fs.map (·.1) ++ [Frm.cutE long x.1] = ((es.map (·.1)).take (i + 1)).map (Frm.cutE long) by
        rw [Hfs.out, List.take_add_one, List.map_append, List.getElem?_map, hx]; rfl)
      have hrF : Ro w0 (osl 44 34 u7 (entsL fs) :: dataS fs :: F) (rdsl 34 (.slice la es.length lc) (entsL es)) := Ro.os Hr.out
      obtain ⟨bk, off, rfl, _⟩ := rdsl_cells (hrF _ hS) (entsL_at hk hx (entL_at0 _ _))
      have HG := Lib.hid (show ∀ w' L, Ro w0 L (rdsl 34 (.slice (some ⟨bk, off, none⟩) es.length lc) (entsL es)) → Sat w0 w' L → w'.cell? ⟨bk, off + i * 34, none⟩ = some (.int .i64 x.1.tag) ∧ w'.rangeAt bk (off + i * 34 + 1) (bys x.1.key) ∧ w'.cell? ⟨bk, off + i * 34 + 33, none⟩ = some x.2 by
        intro w' L hL hw
        obtain ⟨bk', off', hbo, hcell⟩ := rdsl_cells (hL w' hw) (entsL_at hk hx (entL_at0 _ _))
        cases hbo
        refine ⟨hcell _ _ (entsL_at hk hx (entL_at0 _ _)), fun j y hj => ?_, ?_⟩
        · have := hcell _ _ (entsL_at hk hx (entL_key _ x.2 hj))
          rw [show off + (i * 34 + (1 + j)) = off + i * 34 + 1 + j by omega] at this
          exact this
        · have := hcell _ _ (entsL_at hk hx (entL_at33 _ _ hxe.key))
          rw [show off + (i * 34 + 33) = off + i * 34 + 33 by omega] at this
          exact this)
      obtain ⟨⟨tag, key, data⟩, dv⟩ := x
      obtain ⟨da, dn, dc, rfl, hdn, hdc⟩ := hxe.cap
      have hdl : dn = data.length := by
        obtain ⟨a', n', c', he, hl, _⟩ := hxe.rd _ (hS.sb)
        cases he
        rw [bys_len, Nat.mul_one] at hl; exact hl.symm
      have Hrd := Lib.hid hxe.rd; have Hkey := Lib.hid (show key.length = 32 from hxe.key)
      have hks : (bys key).length = 32 := by rw [bys_len]; exact Hkey.out
      have Hks := Lib.hid hks
      have hcap : capOk (.slice da dn dc) := hxe.cap
      clear hx hxe hk hrF hks hcap
      go_wp2_with fail
      refine wpL_begin [19, 20, 21, 22] (fun w' => w'.cell? ⟨bk, off + i * 34, none⟩ = some (.int .i64 tag) ∧ w'.rangeAt bk (off + i * 34 + 1) (bys key) ∧ w'.cell? ⟨bk, off + i * 34 + 33, none⟩ = some (.slice da dn dc)) (by kernel_rfl) ?_
      have hG := HG.out _ _ (Ro.os Hr.out) hS.drew
      refine rp 0 (hy := (yl_move evD)) (h := ?_)
      refine rp 1 (hy := (yl_move evD)) (h := ?_)
      refine rp 2 (hy := (yl_move evD)) (h := ?_)
      refine rp 3 (hy := (yl_index evD evD rnD)) (h := ?_)
      refine rp 4 (hy := (yl_field evD rnD)) (h := ?_)
      refine rt 5 (h := ?_)
      refine rp 6 (hy := (yl_move evD)) (h := ?_)
      refine rp 7 (hy := (yl_move evD)) (h := ?_)
      refine rp 8 (hy := (yl_index evD evD rnD)) (h := ?_)
      refine rp 9 (hy := (yl_field evD rnD)) (h := ?_)
      refine rg_take 10 evD (by kernel_rfl) (by intro _ _ _ h; exact h) (tk_loadN (b := bk) (o := off + i * 34 + 1) (bys key) (by rfl) Tryz.underlying41 rfl (by rw [Hks.out]; kernel_rfl) (fun w hw => hw.2.1)) (by assumption) (by go_frame; first | done | rfl) ?_
      refine rp 11 (hy := (yl_move evD)) (h := ?_)
      refine rp 12 (hy := (yl_move evD)) (h := ?_)
      refine rp 13 (hy := (yl_index evD evD rnD)) (h := ?_)
      refine rp 14 (hy := (yl_field evD rnD)) (h := ?_)
      refine rt 15 (h := ?_)
      refine rp 16 (hy := (yl_move evD)) (h := ?_)
      clear hG
      refine rg_eff 17 evD (by kernel_rfl) (fun K hK => ?_)
      (refine eff_call2 (by kernel_rfl) evD evD ?_)
      refine (cut_c da dn dc long hdn hdc _).mono ?_
      rintro e w3 ⟨v, rfl, rfl, rfl⟩
      refine hK _ _ (.inr (.inr rfl)) ?_
      clear hK K
      refine rg_eff 18 evD (by kernel_rfl) (fun K hK => ?_)
      (refine eff_call1 (by kernel_rfl) evD ?_)
      refine (copy_c hS.drew (data.take long) (rdsl_cut ((Ro.os Hrd.out) _ hS.drew)) (by rw [List.length_take]; have := Hlong.out; omega)).mono ?_
      rintro e w4 ⟨v, rfl, hS4, ca, cn, cc, rfl⟩
      refine hK _ _ (.inr (.inl (HG.out _ _ (Ro.os Hr.out) hS4))) ?_
      clear hK K
      refine rp 19 (hy := (yl_build3 evD evD evD (fun w => run_buildEnt ⟨tag, key, data.take long⟩ Hkey.out ca cn cc w))) (h := ?_)
      refine rg_eff 20 evD (by kernel_rfl) (fun K hK => ?_)
      refine eff_build1 (e := 44) (sz := 34) (by' := 64) (by kernel_rfl) hS4 evD (cs := entA ⟨tag, key, data.take long⟩ (.slice ca cn cc)) rfl (entA_size _ _ Hkey.out) (Nat.le_of_ble_eq_true (by rfl)) ?_
      intro bN w5 hN
      refine hK _ _ (.inl rfl) ?_
      clear hK K hS4
      have hlen : (entsL fs).length ≤ 2147483648 := by
        rw [entsL_len Hfk.out]
        have := congrArg List.length Hfs.out
        simp only [List.length_map, List.length_take] at this
        have := Hn.out; have := Hin.out; omega
      refine rg_eff 21 evD (by kernel_rfl) (fun K hK => ?_)
      refine eff_app 44 34 64 (by kernel_rfl) hN (by rfl) (by rfl) pkD pkD ((entA_size _ _ Hkey.out).trans (by decide)) (Nat.le_refl 1) (entA_one _ _ _ _) hlen (by rw [entA_size _ _ Hkey.out]; decide) (by decide) rfl ?_
      intro bA nA cA w6 hA
      refine hK _ _ (.inl rfl) ?_
      clear hK K hN hlen
      refine rp 22 (hy := (yl_assign evD)) (h := ?_)
      refine wpL_done (by kernel_rfl) ?_
      go_wp2_with fail
      go_roundg (es.length - (i + 1))
      case measure => have := Hl1.out; omega
      case rel =>
        refine ⟨i + 1, fs ++ [(⟨tag, key, data.take long⟩, .slice ca cn cc)], rfl, Nat.succ_le_of_lt Hl1.out, Nat.succ_le_of_lt Hl2.out, by first | rfl | go_num, ?_, ?_⟩
        · rw [← hcut.out, List.map_append]; rfl
        · rw [entsL_app, dataS_snoc]
          have h9 : Sat w0 w6 (osl 44 34 (.slice (some ⟨bA, 0, none⟩) nA cA) (entsL fs ++ entsL [(⟨tag, key, data.take long⟩, .slice ca cn cc)]) :: bsl (.slice ca cn cc) (data.take long) :: dataS fs :: F) := by
            have e : entsL [((⟨tag, key, data.take long⟩ : Frm.Ent), Value.slice ca cn cc)] = (entA ⟨tag, key, data.take long⟩ (.slice ca cn cc)).toList := by
              unfold entsL entA; simp
            rw [e]
            exact Sat.sb hA
          have h10 : Sat w0 w6 (bsl (.slice ca cn cc) (data.take long) :: dataS fs :: osl 44 34 (.slice (some ⟨bA, 0, none⟩) nA cA) (entsL fs ++ entsL [(⟨tag, key, data.take long⟩, .slice ca cn cc)]) :: F) := h9.sb
          exact (Sat.star.2 h10).pick1
    · have hfin : fs.map (·.1) = Frm.few (es.map (·.1)) n long := by
        rw [Hfs.out]
        unfold Frm.few
        congr 1
        have := Hi.out; have := Hin.out
        by_cases hh : i = n
        · rw [hh]
        · rw [List.take_of_length_le (by rw [List.length_map]; omega), List.take_of_length_le (by rw [List.length_map]; omega)]
      by_cases hl1 : i < es.length
      · have c1 : (i : Int) < (es.length : Int) := by omega
        have c2 : ¬ (i : Int) < (n : Int) := by omega
        have Hfin := Lib.hid hfin
        clear hfin hlt hl1
        go_wp2
        go_ret
        exact ⟨_, rfl, fs, Hfin.out, hS⟩
      · have c1 : ¬ (i : Int) < (es.length : Int) := by omega
        have Hfin := Lib.hid hfin
        clear hfin hlt hl1
        go_wp2
        go_ret
        exact ⟨_, rfl, fs, Hfin.out, hS⟩
end
end Go.Proofs.YtmjldaedhmipkaaGreatDoor
namespace Go.Frm
theorem read_ok {b : Bs} (h : (read b).2.2 = 0) : 9 ≤ (read b).2.1 ∧ (read b).2.1 ≤ b.length ∧ (read b).1.key.length = 32 := by
  unfold read at *
  dsimp only at *
  split at h
  · simp at h
  rename_i h9
  rw [if_neg h9]
  split at h
  · simp at h
  rename_i hf
  rw [if_neg hf]
  split at h
  · simp at h
  rename_i hl
  rw [if_neg hl]
  split at h
  · simp at h
  rename_i hc
  rw [if_neg hc]
  have hfit : fits (b.getD 8 0) (num ((b.drop 4).take 4)) = true := by
    cases hh : fits (b.getD 8 0) (num ((b.drop 4).take 4)) with
    | true => rfl
    | false => exact absurd hh hf
  have h9' : 9 ≤ num ((b.drop 4).take 4) := by
    unfold fits at hfit
    split at hfit
    · have := of_decide_eq_true hfit; omega
    · split at hfit
      · have := of_decide_eq_true hfit; omega
      · split at hfit
        · have := of_decide_eq_true hfit; omega
        · cases hfit
  split
  · rename_i h41
    refine ⟨h9', Nat.not_lt.1 hl, ?_⟩
    simp only [List.length_take, List.length_drop]
    omega
  · exact ⟨h9', Nat.not_lt.1 hl, rfl⟩
theorem read_key (b : Bs) : (read b).1.key.length = 32 := by
  unfold read
  dsimp only
  split
  · rfl
  split
  · rfl
  split
  · rfl
  split
  · rfl
  rename_i h9 hf hl hc
  split
  · rename_i h41
    simp only [List.length_take, List.length_drop]
    omega
  · rfl
end Go.Frm
namespace Go.Proofs.YtmjldaedhmipkaaGreatDoor
open Go Go.Sl Go.Med Go.MapKept Go.RowKit
def fndL (f : Frm.Fnd) (dv : Value) : List Value := entL f.e dv ++ [.int .i64 f.at_, .int .i64 f.size]
def fndA (f : Frm.Fnd) (dv : Value) : Array Value := (fndL f dv).toArray
def fndsL (fs : List (Frm.Fnd × Value)) : List Value := fs.flatMap fun p => fndL p.1 p.2
def dataF (fs : List (Frm.Fnd × Value)) : HProp := stars (fs.map fun p => bsl p.2 p.1.e.data)
theorem fndL_len (f : Frm.Fnd) (dv : Value) (hk : f.e.key.length = 32) : (fndL f dv).length = 36 := by unfold fndL; rw [List.length_append, entL_len _ _ hk]; rfl
theorem fndA_size (f : Frm.Fnd) (dv : Value) (hk : f.e.key.length = 32) : (fndA f dv).size = 36 := by unfold fndA; rw [List.size_toArray, fndL_len _ _ hk]
theorem fndsL_len {fs : List (Frm.Fnd × Value)} (hk : ∀ p ∈ fs, p.1.e.key.length = 32) : (fndsL fs).length = 36 * fs.length := by
  unfold fndsL
  induction fs with
  | nil => rfl
  | cons p fs ih =>
    rw [List.flatMap_cons, List.length_append, ih (fun q hq => hk q (.tail _ hq)), fndL_len _ _ (hk p (.head _)), List.length_cons]; omega
theorem fndsL_app (es fs : List (Frm.Fnd × Value)) : fndsL (es ++ fs) = fndsL es ++ fndsL fs := by unfold fndsL; rw [List.flatMap_append]
theorem dataF_snoc (es : List (Frm.Fnd × Value)) (x : Frm.Fnd) (dv : Value) : dataF (es ++ [(x, dv)]) = star (bsl dv x.e.data) (dataF es) := by
  unfold dataF
  rw [List.map_append, stars_append, star_comm]
  show star (stars [bsl dv x.e.data]) _ = _
  rw [stars_one]
theorem plFnd : placesB Tryz.prog 203 = some [(0, 34), (34, 1), (35, 1)] := by kernel_rfl
def zeroF : Frm.Fnd := ⟨Frm.zeroE, 0, 0⟩
theorem zFnd : zeroB Tryz.prog 203 = some (.agg (fndA zeroF (.slice none 0 0))) := by kernel_rfl
theorem puts3f (cs : Array Value) (hs : cs.size = 36) (el : List Value) (u v : Value) (hk : el.length = 34) : (putsAt (putsAt (putsAt cs 0 el) 34 [u]) 35 [v]).toList = el ++ [u, v] := by
  have hcl : cs.toList.length = 36 := by simpa using hs
  have e1 : (putsAt cs 0 el).toList = el ++ cs.toList.drop 34 := by
    rw [putsAt_list _ _ _ (by omega), List.take_zero, List.nil_append, Nat.zero_add, hk]
  have e2 : (putsAt (putsAt cs 0 el) 34 [u]).toList = el ++ [u] ++ cs.toList.drop 35 := by
    rw [putsAt_list _ _ _ (by rw [putsAt_size]; simp; omega), e1, List.take_append_of_le_length (by omega), List.take_of_length_le (by omega), List.length_singleton, List.drop_append, hk, List.drop_of_length_le (l := el) (by omega), List.nil_append, List.drop_drop]
  have h3 : (el ++ [u]).length = 35 := by simp [hk]
  rw [putsAt_list _ _ _ (by rw [putsAt_size, putsAt_size]; simp; omega), e2, List.take_append_of_le_length (by omega), List.take_of_length_le (by omega), List.length_singleton, List.drop_of_length_le (by rw [List.length_append, h3, List.length_drop]; omega)]
  simp
set_option maxRecDepth 20000 in
theorem run_buildFnd (e : Frm.Ent) (hk : e.key.length = 32) (da : Option Addr) (dn dc : Nat) (at_ n : Nat) (w : World) :
    (Instr.build 203 #[(0, .agg (entA e (.slice da dn dc))), (1, .int .i64 at_), (2, .int .i64 n)]).run Tryz.prog w = .ok (.agg (fndA ⟨e, at_, n⟩ (.slice da dn dc))) w := by
  have hz : (fndA zeroF (.slice none 0 0)).size = 36 := fndA_size _ _ rfl
  have he : (entA e (.slice da dn dc)).size = 34 := entA_size _ _ hk
  have h := run_build (P := Tryz.prog) [(0, .agg (entA e (.slice da dn dc))), (1, .int .i64 at_), (2, .int .i64 n)] plFnd zFnd (by
    intro p hp
    simp only [List.mem_cons, List.not_mem_nil, or_false] at hp
    have hzz : (Value.agg (fndA zeroF (.slice none 0 0))).cells.size = 36 := hz
    rw [hzz]
    rcases hp with rfl | rfl | rfl
    · refine ⟨0, ?_, ?_⟩
      · show some (0, 34) = some (0, (entA e (.slice da dn dc)).size); rw [he]
      · show 0 + (entA e (.slice da dn dc)).size ≤ 36; omega
    · exact ⟨34, rfl, by show 34 + 1 ≤ 36; omega⟩
    · exact ⟨35, rfl, by show 35 + 1 ≤ 36; omega⟩) w
  refine h.trans ?_
  congr 2
  apply putsAt_eq
  exact puts3f _ hz _ _ _ (show (entA e (.slice da dn dc)).toList.length = 34 by rw [Array.length_toList, he])
section
variable {w0 w : World} {L L' R : List HProp} {b : Nat} {ops : Array Oper} {rest : List Oper} {a : Act} {Q : Exit → Act → World → Prop}
variable {dst : Option Tmp} {t T ty : TypeId} {pos : String} {after : Array Edge} {x y z : Operand} {cs : Array Value} {v v1 v2 v3 : Value} {i1 i2 i3 : Nat} {P : Program}
theorem wl_build3 (h1 : a.eval x = v1) (h2 : a.eval y = v2) (h3 : a.eval z = v3) (hr : ∀ w, (Instr.build ty #[(i1, v1), (i2, v2), (i3, v3)]).run P w = .ok v w) (h : wpList P ops Q rest (a.put dst v) w) :
    wpList P ops Q (⟨dst, .build ty #[(i1, x), (i2, y), (i3, z)], t, pos, after, none⟩ :: rest) a w :=
  wpList_plain rfl fun _ hK => by
    unfold Oper.wp execOp
    simp only [List.map_toArray, List.map_cons, List.map_nil, h1, h2, h3, Sem.run_bind, hr, Result.andThen_ok, Sem.run_pure]
    exact hK _ _ h
theorem at_build3 (h : Stop (wpList P ops Q (⟨dst, .build ty #[(i1, x), (i2, y), (i3, z)], t, pos, after, none⟩ :: rest) a w)) : wpList P ops Q (⟨dst, .build ty #[(i1, x), (i2, y), (i3, z)], t, pos, after, none⟩ :: rest) a w := h.out
theorem fndA_ones (f : Frm.Fnd) (a : Option Addr) (n c : Nat) : (fndA f (.slice a n c)).toList.all (·.oneCell') = true := by
  unfold fndA fndL
  rw [List.toList_toArray, List.all_append]
  have h1 : (entL f.e (.slice a n c)).all (·.oneCell') = true := by
    have := entA_one f.e a n c
    unfold entA at this
    rwa [List.toList_toArray] at this
  rw [h1]; rfl
end
end Go.Proofs.YtmjldaedhmipkaaGreatDoor
namespace Go.Seg
def Log.next (L : Log) : Int := match L.l.getLast? with
  | none => 0
  | some s => s.1 + 1
end Go.Seg
namespace Go.Proofs.YtmjldaedhmipkaaGreatDoor
open Go Go.Sl Go.Med Go.MapKept Go.RowKit
section
variable {w0 w : World} {F : List HProp} {v bv dv x lv : Value} {q p m K : Nat} {L : Seg.Log} {M : Med}
theorem segw_at (l : List (Int × Int)) (i : Nat) (s : Int × Int) (h : l[i]? = some s) : (segw l)[2 * i]? = some (.int .i64 s.1) ∧ (segw l)[2 * i + 1]? = some (.int .i64 s.2) := by
  induction l generalizing i with
  | nil => simp at h
  | cons a l ih =>
    cases i with
    | zero =>
      obtain rfl : a = s := by simpa using h
      exact ⟨rfl, rfl⟩
    | succ i =>
      have e1 : segw (a :: l) = .int .i64 a.1 :: .int .i64 a.2 :: segw l := rfl
      have h' : l[i]? = some s := by simpa using h
      rw [e1, show 2 * (i + 1) = 2 * i + 1 + 1 by omega]
      exact ih i h'
end
end Go.Proofs.YtmjldaedhmipkaaGreatDoor
namespace Go.Seg
open Go.Med
structure Plc where
  seg : Int
  at_ : Int
  size : Int
def Plc.zero : Plc := ⟨0, 0, 0⟩
def mag : Bs := [72, 79, 65, 82, 68, 83, 69, 71]
def Log.grow (L : Log) (M : Med) (b : Bs) : (Log × Med) × Plc × Int :=
  match L.l.getLast? with
  | none => ((L, M), Plc.zero, 0)
  | some s =>
    if (M.append (name s.1) b).2 = 0 then (({ L with l := L.l.dropLast ++ [(s.1, s.2 + (b.length : Int))] }, (M.append (name s.1) b).1), ⟨s.1, s.2, b.length⟩, 0)
    else ((L, (M.append (name s.1) b).1), Plc.zero, (M.append (name s.1) b).2)
def Log.shut (L : Log) (M : Med) : (Log × Med) × Int :=
  match L.l.getLast? with
  | none => ((L, M), 0)
  | some s =>
    if L.on = true then
      if (M.sync (name s.1)).2 = 0 then (({ L with on := false }, (M.sync (name s.1)).1), 0)
      else ((L, (M.sync (name s.1)).1), (M.sync (name s.1)).2)
    else ((L, M), 0)
def Log.begin1 (L : Log) (M : Med) (b : Bs) : (Log × Med) × Plc × Int :=
  if 1048576 ≤ L.next then ((L, M), Plc.zero, 16)
  else if (M.create (name L.next)).2 ≠ 0 then ((L, (M.create (name L.next)).1), Plc.zero, (M.create (name L.next)).2)
  else if ((M.create (name L.next)).1.append (name L.next) (mag ++ b)).2 = 0 then
    (({ L with l := L.l ++ [(L.next, 8 + (b.length : Int))], on := true, fresh := L.fresh + 1 }, ((M.create (name L.next)).1.append (name L.next) (mag ++ b)).1), ⟨L.next, 8, b.length⟩, 0)
  else if ((M.create (name L.next)).1.append (name L.next) (mag ++ b)).2 = 11 then
    ((L, (((M.create (name L.next)).1.append (name L.next) (mag ++ b)).1.remove (name L.next)).1), Plc.zero,
      if (((M.create (name L.next)).1.append (name L.next) (mag ++ b)).1.remove (name L.next)).2 = 0 then 11 else (((M.create (name L.next)).1.append (name L.next) (mag ++ b)).1.remove (name L.next)).2)
  else ((L, ((M.create (name L.next)).1.append (name L.next) (mag ++ b)).1), Plc.zero, ((M.create (name L.next)).1.append (name L.next) (mag ++ b)).2)
def Log.begin (L : Log) (M : Med) (b : Bs) : (Log × Med) × Plc × Int :=
  if (L.shut M).2 = 0 then (L.shut M).1.1.begin1 (L.shut M).1.2 b else ((L.shut M).1, Plc.zero, (L.shut M).2)
def Log.fits (L : Log) (n : Nat) : Bool := L.on && decide ((L.l.getLast?.map (·.2)).getD 0 + n ≤ L.limit)
def Log.append (L : Log) (M : Med) (x : Frm.Ent) : (Log × Med) × Plc × Int :=
  if (Frm.encode x).2 ≠ 0 then ((L, M), Plc.zero, (Frm.encode x).2)
  else if L.fits (Frm.encode x).1.length = true then L.grow M (Frm.encode x).1 else L.begin M (Frm.encode x).1
def comEnt : Frm.Ent := ⟨2, Frm.zero32, []⟩
def Log.commit (L : Log) (M : Med) : (Log × Med) × Int × Int :=
  if (L.append M comEnt).2.2 ≠ 0 then ((L.append M comEnt).1, 0, (L.append M comEnt).2.2)
  else if ((L.append M comEnt).1.2.sync (name (L.append M comEnt).2.1.seg)).2 ≠ 0 then (((L.append M comEnt).1.1, ((L.append M comEnt).1.2.sync (name (L.append M comEnt).2.1.seg)).1), 0, ((L.append M comEnt).1.2.sync (name (L.append M comEnt).2.1.seg)).2)
  else if (((L.append M comEnt).1.2.sync (name (L.append M comEnt).2.1.seg)).1.syncDir).2 ≠ 0 then (((L.append M comEnt).1.1, (((L.append M comEnt).1.2.sync (name (L.append M comEnt).2.1.seg)).1.syncDir).1), 0, (((L.append M comEnt).1.2.sync (name (L.append M comEnt).2.1.seg)).1.syncDir).2)
  else (({ (L.append M comEnt).1.1 with on := false, fresh := 0 }, (((L.append M comEnt).1.2.sync (name (L.append M comEnt).2.1.seg)).1.syncDir).1), (L.append M comEnt).2.1.seg, 0)
def Log.at (L : Log) (n : Int) : Option Nat := L.l.findIdx? (fun s => s.1 == n)
def Log.find (L : Log) (n : Int) : Int := match L.at n with
  | some i => i
  | none => -1
def Log.without (L : Log) (i : Nat) : Log :=
  ⟨L.limit, L.l.eraseIdx i, if i + 1 = L.l.length then false else L.on, if (L.l.length : Int) - L.fresh ≤ i then L.fresh - 1 else L.fresh⟩
def Log.remove (L : Log) (M : Med) (n : Int) : (Log × Med) × Int :=
  match L.at n with
  | none => ((L, M), 9)
  | some i => if (M.remove (name n)).2 = 0 then ((L.without i, (M.remove (name n)).1), 0) else ((L, (M.remove (name n)).1), (M.remove (name n)).2)
def Log.size (L : Log) (n : Int) : Int := match L.at n with
  | none => 0
  | some i => (L.l.getD i (0, 0)).2
def Log.bytes (L : Log) (M : Med) (n : Int) : Bs × Int := match L.at n with
  | none => ([], 9)
  | some _ => M.all (name n)
structure Log.Ok (L : Log) : Prop where
  limit : 128 ≤ L.limit ∧ L.limit ≤ 1048576
  rise : (L.l.map (·.1)).Pairwise (· < ·)
  nums : ∀ s ∈ L.l, 0 ≤ s.1 ∧ s.1 < 1048576
  sizes : ∀ s ∈ L.l, 0 ≤ s.2 ∧ s.2 ≤ 33554432
  fresh : 0 ≤ L.fresh ∧ L.fresh ≤ L.l.length
  on : L.on = true → L.l ≠ []
theorem rise_len : ∀ (l : List Int) (a : Int), l.Pairwise (· < ·) → (∀ x ∈ l, a ≤ x) → (∀ x ∈ l, x < 1048576) → a ≤ 1048576 → (l.length : Int) ≤ 1048576 - a
  | [], a, _, _, _, h => by simp; omega
  | x :: l, a, hp, h1, h2, h3 => by
    obtain ⟨hx, hp'⟩ := List.pairwise_cons.1 hp
    have e1 := h1 x (.head _)
    have e2 := h2 x (.head _)
    have := rise_len l (x + 1) hp' (fun y hy => by have := hx y hy; omega) (fun y hy => h2 y (.tail _ hy)) (by omega)
    rw [List.length_cons]; omega
theorem Log.Ok.len {L : Log} (h : L.Ok) : L.l.length ≤ 1048576 := by
  have := rise_len (L.l.map (·.1)) 0 h.rise (by intro x hx; obtain ⟨s, hs, rfl⟩ := List.mem_map.1 hx; exact (h.nums s hs).1) (by intro x hx; obtain ⟨s, hs, rfl⟩ := List.mem_map.1 hx; exact (h.nums s hs).2) (by omega)
  rw [List.length_map] at this
  omega
theorem Log.Ok.without {L : Log} (h : L.Ok) (i : Nat) (hi : i < L.l.length) : (L.without i).Ok := by
  have hsub : (L.l.eraseIdx i).Sublist L.l := List.eraseIdx_sublist _ _
  have hlen : (L.l.eraseIdx i).length = L.l.length - 1 := List.length_eraseIdx_of_lt hi
  have hf := h.fresh
  refine ⟨h.limit, h.rise.sublist (hsub.map _), fun s hs => h.nums s (hsub.mem hs), fun s hs => h.sizes s (hsub.mem hs), ?_, ?_⟩
  · unfold Log.without
    simp only [hlen]
    split <;> omega
  · unfold Log.without
    simp only
    split
    · intro hh; cases hh
    · intro _ e
      have := congrArg List.length e
      rw [hlen] at this
      simp at this
      omega
theorem Log.at_lt {L : Log} {n : Int} {i : Nat} (h : L.at n = some i) : i < L.l.length ∧ ∃ s, L.l[i]? = some s ∧ s.1 = n := by
  unfold Log.at at h
  rw [List.findIdx?_eq_some_iff_getElem] at h
  obtain ⟨h1, h2, _⟩ := h
  exact ⟨h1, _, List.getElem?_eq_getElem h1, by simpa using h2⟩
theorem Log.Ok.remove {L : Log} (h : L.Ok) (M : Med) (n : Int) : (L.remove M n).1.1.Ok := by
  unfold Log.remove
  split; · exact h
  rename_i i hi
  split
  · exact h.without i (Log.at_lt hi).1
  · exact h
def Log.back : Nat → Log → Med → (Log × Med) × Int
  | 0, L, M => (({ L with on := false }, M), 0)
  | k + 1, L, M =>
    match L.l.getLast? with
    | none => (({ L with on := false }, M), 0)
    | some s => if (L.remove M s.1).2 = 0 then Log.back k (L.remove M s.1).1.1 (L.remove M s.1).1.2 else L.remove M s.1
def Log.rollback (L : Log) (M : Med) : (Log × Med) × Int := L.back L.fresh.toNat M
end Go.Seg
namespace Go.Rep
open Go.Frm (Bs Fnd)
open Go.Seg (Plc)
open Go.Tab (put)
abbrev Row := Int × Fnd
def rkey (r : Row) : Bs := r.2.e.key
def rtag (r : Row) : Int := r.2.e.tag
def rplc (r : Row) : Plc := ⟨r.1, r.2.at_, r.2.size⟩
structure Abt where
  tag : Int
  place : Plc
  first : Int
def newest : List Row → Bs → Option Row
  | [], _ => none
  | r :: l, k => match newest l k with
    | some x => some x
    | none => if rtag r ≠ 2 ∧ rkey r = k then some r else none
def firstPut : List Row → Bs → Option Row
  | [], _ => none
  | r :: l, k => if rtag r = 0 ∧ rkey r = k then some r else firstPut l k
def first (l : List Row) (k : Bs) : Int := match firstPut l k with
  | some r => r.1
  | none => -1
def ledger (l : List Row) (k : Bs) : Option Abt := (newest l k).map fun r => ⟨rtag r, rplc r, first l k⟩
def first0 (m : Bs → Option Abt) (r : Row) : Int := match m (rkey r) with
  | some a => a.first
  | none => -1
def first1 (m : Bs → Option Abt) (r : Row) : Int := if rtag r = 0 ∧ first0 m r < 0 then r.1 else first0 m r
def takeOne (m : Bs → Option Abt) (r : Row) : Bs → Option Abt :=
  if rtag r = 2 then m else put m (rkey r) ⟨rtag r, rplc r, first1 m r⟩
theorem newest_snoc (l : List Row) (r : Row) (k : Bs) : newest (l ++ [r]) k = if rtag r ≠ 2 ∧ rkey r = k then some r else newest l k := by
  induction l with
  | nil => simp only [List.nil_append, newest]
  | cons x l ih =>
    simp only [List.cons_append, newest, ih]
    split
    · rename_i h; split at h
      · rename_i h2; rw [if_pos h2]; cases h; rfl
      · rename_i h2; rw [if_neg h2, h]
    · rename_i h; split at h
      · cases h
      · rename_i h2; rw [if_neg h2, h]
theorem firstPut_snoc (l : List Row) (r : Row) (k : Bs) : firstPut (l ++ [r]) k = match firstPut l k with
    | some x => some x
    | none => if rtag r = 0 ∧ rkey r = k then some r else none := by
  induction l with
  | nil => simp only [List.nil_append, firstPut]
  | cons x l ih =>
    simp only [List.cons_append, firstPut, ih]
    split
    · rename_i h; simp only
    · rfl
theorem newest_none {l : List Row} {k : Bs} (h : newest l k = none) : firstPut l k = none := by
  induction l with
  | nil => rfl
  | cons x l ih =>
    simp only [newest] at h
    split at h
    · cases h
    · rename_i h1
      split at h
      · cases h
      · rename_i h2
        simp only [firstPut]
        rw [if_neg fun h3 => h2 ⟨by rw [h3.1]; decide, h3.2⟩]
        exact ih h1
theorem firstPut_mem {l : List Row} {k : Bs} {r : Row} (h : firstPut l k = some r) : r ∈ l ∧ rtag r = 0 ∧ rkey r = k := by
  induction l with
  | nil => cases h
  | cons x l ih =>
    simp only [firstPut] at h
    split at h
    · cases h; exact ⟨.head _, by assumption⟩
    · exact ⟨.tail _ (ih h).1, (ih h).2⟩
theorem ledger_snoc (l : List Row) (r : Row) (h0 : ∀ x ∈ l, 0 ≤ x.1) : ledger (l ++ [r]) = takeOne (ledger l) r := by
  funext k
  unfold takeOne
  by_cases h2 : rtag r = 2
  · rw [if_pos h2]
    unfold ledger first
    rw [newest_snoc, if_neg (fun h => h.1 h2), firstPut_snoc]
    cases firstPut l k with
    | some x => rfl
    | none => simp only; rw [if_neg (fun h => by rw [h2] at h; exact absurd h.1 (by decide))]
  · rw [if_neg h2]
    unfold put
    by_cases hk : k = rkey r
    · subst hk
      rw [if_pos rfl]
      have e1 : ∀ k, ledger l k = (newest l k).map fun r => ⟨rtag r, rplc r, first l k⟩ := fun _ => rfl
      have e2 : ledger (l ++ [r]) (rkey r) = some ⟨rtag r, rplc r, first (l ++ [r]) (rkey r)⟩ := by
        unfold ledger
        rw [newest_snoc, if_pos ⟨h2, rfl⟩, Option.map_some]
      rw [e2]
      congr 2
      unfold first1 first0
      rw [e1]
      unfold first
      rw [firstPut_snoc]
      cases hn : newest l (rkey r) with
      | none =>
        rw [newest_none hn]
        simp only [Option.map_none]
        by_cases ht : rtag r = 0
        · rw [if_pos ⟨ht, trivial⟩, if_pos ⟨ht, by decide⟩]
        · rw [if_neg (fun h => ht h.1), if_neg (fun h => ht h.1)]
      | some x =>
        simp only [Option.map_some]
        cases hf : firstPut l (rkey r) with
        | some y =>
          simp only
          rw [if_neg (fun h => by have := h0 y (firstPut_mem hf).1; omega)]
        | none =>
          simp only
          by_cases ht : rtag r = 0
          · rw [if_pos ⟨ht, trivial⟩, if_pos ⟨ht, by decide⟩]
          · rw [if_neg (fun h => ht h.1), if_neg (fun h => ht h.1)]
    · rw [if_neg hk]
      unfold ledger first
      rw [newest_snoc, if_neg (fun h => hk h.2.symm), firstPut_snoc]
      cases firstPut l k with
      | some x => rfl
      | none => simp only; rw [if_neg (fun h => hk h.2.symm)]
def counts (a : Abt) : Bool := decide (a.tag = 0) || (decide (0 ≤ a.first) && decide (a.first < a.place.seg))
def isNew (l : List Row) (i : Nat) : Bool := match l[i]? with
  | none => false
  | some r => decide (rtag r < 2) && (l.drop (i + 1)).all fun x => !(decide (rtag x < 2) && decide (rkey x = rkey r))
def cnt (l : List Row) (i : Nat) : Bool := match l[i]? with
  | none => false
  | some r => !decide (rtag r = 2) && isNew l i && (decide (rtag r = 0) || (l.take i).any fun x => decide (rtag x = 0) && decide (rkey x = rkey r) && decide (x.1 < r.1))
structure Rows (l : List Row) : Prop where
  tag : ∀ r ∈ l, rtag r = 0 ∨ rtag r = 1 ∨ rtag r = 2
  seg : ∀ r ∈ l, 0 ≤ r.1
  rise : l.Pairwise fun a b => a.1 ≤ b.1
end Go.Rep
namespace Go.Tab
open Go.Frm (Bs)
theorem bs_tri (a b : Bs) : a < b ∨ a = b ∨ b < a := by
  by_cases h1 : a < b
  · exact .inl h1
  · rcases List.le_iff_lt_or_eq.1 (List.not_lt.1 h1) with h2 | h2
    · exact .inr (.inr h2)
    · exact .inr (.inl h2.symm)
structure Lists {V : Type} (m : Bs → Option V) (l : List (Bs × V)) : Prop where
  rise : l.Pairwise fun a b => a.1 < b.1
  mem : ∀ k v, (k, v) ∈ l ↔ m k = some v
theorem rise_ext {V : Type} : ∀ {l l' : List (Bs × V)}, l.Pairwise (fun a b => a.1 < b.1) → l'.Pairwise (fun a b => a.1 < b.1) → (∀ p, p ∈ l ↔ p ∈ l') → l = l'
  | [], [], _, _, _ => rfl
  | [], b :: l', _, _, h => by have := (h b).2 (.head _); cases this
  | a :: l, [], _, _, h => by have := (h a).1 (.head _); cases this
  | a :: l, b :: l', h1, h2, h => by
    obtain ⟨a1, a2⟩ := List.pairwise_cons.1 h1
    obtain ⟨b1, b2⟩ := List.pairwise_cons.1 h2
    have hab : a = b := by
      rcases List.mem_cons.1 ((h a).1 (.head _)) with e | h3
      · exact e
      · rcases List.mem_cons.1 ((h b).2 (.head _)) with e | h4
        · exact e.symm
        · exact absurd (List.lt_trans (b1 a h3) (a1 b h4)) (List.lt_irrefl _)
    subst hab
    congr 1
    refine rise_ext a2 b2 fun p => ?_
    have := h p
    rw [List.mem_cons, List.mem_cons] at this
    constructor
    · intro hp
      rcases this.1 (.inr hp) with e | h3
      · subst e; exact absurd (a1 p hp) (List.lt_irrefl _)
      · exact h3
    · intro hp
      rcases this.2 (.inr hp) with e | h3
      · subst e; exact absurd (b1 p hp) (List.lt_irrefl _)
      · exact h3
theorem Lists.unique {V : Type} {m : Bs → Option V} {l l' : List (Bs × V)} (h : Lists m l) (h' : Lists m l') : l = l' :=
  rise_ext h.rise h'.rise fun p => by rw [h.mem p.1 p.2, h'.mem p.1 p.2]
def ins {V : Type} : List (Bs × V) → Bs × V → List (Bs × V)
  | [], x => [x]
  | y :: l, x => if x.1 < y.1 then x :: y :: l else y :: ins l x
end Go.Tab
namespace Go.Rep
open Go.Frm (Bs Fnd)
open Go.Seg (Plc)
open Go.Tab
def idx (l : List Row) : Nat → List (Bs × Plc)
  | 0 => []
  | i + 1 => match l[i]? with
    | none => idx l i
    | some r => if cnt l i = true ∧ rtag r = 0 then ins (idx l i) (rkey r, rplc r) else idx l i
def live (l : List Row) (s : Int) : Nat → Int
  | 0 => 0
  | i + 1 => match l[i]? with
    | none => live l s i
    | some r => if cnt l i = true ∧ r.1 = s then live l s i + r.2.size else live l s i
def liveL (s : Int) : List (Bs × Abt) → Int
  | [] => 0
  | p :: l => (if counts p.2 = true ∧ p.2.place.seg = s then p.2.place.size else 0) + liveL s l
def puts (kv : List (Bs × Abt)) : List (Bs × Plc) := (kv.filter fun p => decide (p.2.tag = 0)).map fun p => (p.1, p.2.place)
def newKeys (l : List Row) : Nat → List Bs
  | 0 => []
  | i + 1 => match l[i]? with
    | none => newKeys l i
    | some r => if isNew l i = true then rkey r :: newKeys l i else newKeys l i
def adds (l : List Row) (s : Int) (k : Bs) : Int := match ledger l k with
  | some a => if counts a = true ∧ a.place.seg = s then a.place.size else 0
  | none => 0
end Go.Rep
namespace Go.Proofs.YtmjldaedhmipkaaGreatDoor
open Go Go.Sl Go.Med Go.MapKept Go.RowKit
section
variable {P : Program} {w0 w : World} {L L' R : List HProp} {b : Nat} {ops : Array Oper} {rest : List Oper} {a : Act} {Q : Exit → Act → World → Prop}
variable {dst : Option Tmp} {t ty T : TypeId} {pos : String} {after : Array Edge} {x y z : Operand} {cs : Array Value} {v : Value} {o : Nat}
variable {vx vy : Value} {ad : Addr} {fl : Nat} {bo : BinOp} {uo : UnOp} {tz : TypeId} {G : World → Prop}
theorem yg_move {g : Option (Nat × Bool)} (hw : Region.wanted ⟨dst, .move x, t, pos, after, g⟩ (yielded ops a.tmps) = true) (hx : a.eval x = v) : Yields P ops ⟨dst, .move x, t, pos, after, g⟩ v a :=
  .inl ⟨hw, fun w => by simp only [execOp, hx]; rfl⟩
theorem yg_nil {g : Option (Nat × Bool)} (hw : Region.wanted ⟨dst, .nilCheck x, t, pos, after, g⟩ (yielded ops a.tmps) = true) (hx : a.eval x = .pointer (some ad)) : Yields P ops ⟨dst, .nilCheck x, t, pos, after, g⟩ (.pointer (some ad)) a :=
  .inl ⟨hw, fun w => by simp only [execOp, hx]; rfl⟩
theorem yg_field {g : Option (Nat × Bool)} (hw : Region.wanted ⟨dst, .fieldAddr ty x fl, t, pos, after, g⟩ (yielded ops a.tmps) = true) (hx : a.eval x = vx) (hr : ∀ w, (Instr.fieldAt ty vx fl).run P w = .ok v w) : Yields P ops ⟨dst, .fieldAddr ty x fl, t, pos, after, g⟩ v a :=
  .inl ⟨hw, fun w => by simp only [execOp, hx, Sem.run_bind, hr, Result.andThen_ok, Sem.run_pure]⟩
theorem yg_index {g : Option (Nat × Bool)} (hw : Region.wanted ⟨dst, .indexAddr ty x y, t, pos, after, g⟩ (yielded ops a.tmps) = true) (hx : a.eval x = vx) (hy : a.eval y = vy) (hr : ∀ w, (Instr.indexAt ty vx vy).run P w = .ok v w) : Yields P ops ⟨dst, .indexAddr ty x y, t, pos, after, g⟩ v a :=
  .inl ⟨hw, fun w => by simp only [execOp, hx, hy, Sem.run_bind, hr, Result.andThen_ok, Sem.run_pure]⟩
theorem yg_bin {g : Option (Nat × Bool)} (hw : Region.wanted ⟨dst, .binOp bo ty x y tz, t, pos, after, g⟩ (yielded ops a.tmps) = true) (hx : a.eval x = vx) (hy : a.eval y = vy) (hr : ∀ w, ((do eqGuard bo ty x y vx vy; binOp bo ty vx vy) : Sem Value).run P w = .ok v w) : Yields P ops ⟨dst, .binOp bo ty x y tz, t, pos, after, g⟩ v a :=
  .inl ⟨hw, fun w => by simp only [execOp, hx, hy, Sem.run_bind (x := (do eqGuard bo ty x y vx vy; binOp bo ty vx vy)), hr, Result.andThen_ok, Sem.run_pure]⟩
theorem yg_un {g : Option (Nat × Bool)} (hw : Region.wanted ⟨dst, .unOp uo ty x, t, pos, after, g⟩ (yielded ops a.tmps) = true) (hx : a.eval x = vx) (hr : ∀ w, (Op.unary uo vx).run P w = .ok v w) : Yields P ops ⟨dst, .unOp uo ty x, t, pos, after, g⟩ v a :=
  .inl ⟨hw, fun w => by simp only [execOp, hx, Sem.run_bind, hr, Result.andThen_ok, Sem.run_pure]⟩
theorem yg_len {g : Option (Nat × Bool)} (hw : Region.wanted ⟨dst, .call { callee := .builtin .len, args := #[x], argTypes := #[ty] }, t, pos, after, g⟩ (yielded ops a.tmps) = true) (hx : a.eval x = vx) (hr : ∀ w, (Builtin.len_ #[ty] t #[vx]).run P w = .ok v w) : Yields P ops ⟨dst, .call { callee := .builtin .len, args := #[x], argTypes := #[ty] }, t, pos, after, g⟩ v a :=
  .inl ⟨hw, fun w => by
    rw [execOp_builtin_len, hx]
    simp only [Sem.run_bind, hr, Result.andThen_ok, Sem.run_pure]⟩
theorem tg_load {g : Option (Nat × Bool)} (hw : Region.wanted ⟨dst, .load ty x, t, pos, after, g⟩ (yielded ops a.tmps) = true) (hx : a.eval x = .pointer (some ad)) (h1 : oneB P ty = true) (hG : ∀ w, G w → w.cell? ad = some v) : YieldsIf P ops G ⟨dst, .load ty x, t, pos, after, g⟩ v a :=
  .inl ⟨hw, fun w hw => by
    obtain ⟨b, o, el⟩ := ad
    have hc := hG w hw
    simp only [execOp, hx, Instr.loadAt, Instr.sureAddr, Sem.run_bind, Sem.run_pure, Result.andThen_ok, run_load1A h1 hc]⟩
theorem yg_pick {g : Option (Nat × Bool)} {c : Bool} (hw : Region.wanted ⟨dst, .pick x y z, t, pos, after, g⟩ (yielded ops a.tmps) = true) (hx : a.eval x = .bool c) (hv : (if c then a.eval y else a.eval z) = v) : Yields P ops ⟨dst, .pick x y z, t, pos, after, g⟩ v a :=
  .inl ⟨hw, fun w => by
    subst hv
    simp only [execOp, hx]
    cases c <;> rfl⟩
theorem tg_loadN {g : Option (Nat × Bool)} (ks : List Value) (hw : Region.wanted ⟨dst, .load ty x, t, pos, after, g⟩ (yielded ops a.tmps) = true) (hx : a.eval x = .pointer (some ⟨b, o, none⟩)) {d : TypeDesc} (hu : P.underlying ty = some d) (hd : d.isRow = true) (hi : (P.info? ty).map (·.size) = some ks.length) (hG : ∀ w, G w → w.rangeAt b o ks) :
    YieldsIf P ops G ⟨dst, .load ty x, t, pos, after, g⟩ (.agg ks.toArray) a :=
  yieldsIf_load_mid hw ty x rfl b o hx ks d hG hu hd hi
theorem eg_call {g : Option (Nat × Bool)} {f : FuncId} {xs : Array Operand} {ts : Array TypeId} {K : Act → World → Prop} {E : Prop} (vs : List Value) (hw : Region.wanted ⟨dst, .call { callee := .value (.func f), args := xs, argTypes := ts }, t, pos, after, g⟩ (yielded ops a.tmps) = true) (hf : goB P f = true) (hv : xs.toList.map a.eval = vs)
    (h : Calls P f vs.toArray w (Upon K Q a dst)) : if Region.wanted ⟨dst, .call { callee := .value (.func f), args := xs, argTypes := ts }, t, pos, after, g⟩ (yielded ops a.tmps) = true then
      Oper.wp P ⟨dst, .call { callee := .value (.func f), args := xs, argTypes := ts }, t, pos, after, g⟩ a w K Q else E := by
  rw [if_pos hw]
  have h0 := eff_call (P := P) (ops := ops) (a := a) (w := w) (Q := Q) (dst := dst) (t := t) (pos := pos) (after := after) (K := K) (E := False) (xs := xs) (ts := ts) vs hf hv h
  rw [if_pos (want_none _ rfl)] at h0
  exact h0
theorem rg_skip {l : Array Bool} {n : Nat} {late : List Nat} {oi : Oper} (i : Nat) (hi : ops.toList[i]? = some oi) (hc : (Region.noSelect ops && Region.free .any ops l i && (Region.ready .any ops l).contains i && shutB ops l) = true)
    (hQ : ∀ c a w, Q (.panic c) (a.put oi.dst undef) w → Q (.panic c) a w) (hw : Region.wanted oi (yielded ops a.tmps) = false) {a' : Act} (ha : a.put oi.dst undef = a')
    (h : wpL P ops Q late G n (l.setIfInBounds i true) a' w) : wpL P ops Q late G (n + 1) l a w :=
  rg_pure i hi hc hQ (.inr ⟨hw, rfl⟩) ha h
end
end Go.Proofs.YtmjldaedhmipkaaGreatDoor
namespace Go.Med
def Med.which (D : Med) (s : ByteArray) : Int := match nget D.now s with
  | none => -1
  | some i => (i : Int)
end Go.Med
namespace Go.Proofs.YtmjldaedhmipkaaGreatDoor
open Go Go.Sl Go.Med Go.MapKept Go.RowKit
def nmL (p : ByteArray × Nat) : List Value := [.string p.1, .int .i64 p.2]
def nmsL (l : Names) : List Value := l.flatMap nmL
theorem nmsL_len (l : Names) : (nmsL l).length = 2 * l.length := by
  unfold nmsL
  induction l with
  | nil => rfl
  | cons x l ih => rw [List.flatMap_cons, List.length_append, ih, List.length_cons]; show 2 + 2 * l.length = _; omega
theorem nmsL_app (l k : Names) : nmsL (l ++ k) = nmsL l ++ nmsL k := by unfold nmsL; rw [List.flatMap_append]
theorem nmsL_at {l : Names} {i : Nat} {p : ByteArray × Nat} (h : l[i]? = some p) : (nmsL l)[i * 2]? = some (.string p.1) ∧ (nmsL l)[i * 2 + 1]? = some (.int .i64 p.2) := by
  induction l generalizing i with
  | nil => simp at h
  | cons a l ih =>
    cases i with
    | zero =>
      obtain rfl : a = p := by simpa using h
      exact ⟨rfl, rfl⟩
    | succ i =>
      have e1 : nmsL (a :: l) = .string a.1 :: .int .i64 a.2 :: nmsL l := rfl
      have h' : l[i]? = some p := by simpa using h
      rw [e1, show (i + 1) * 2 = i * 2 + 1 + 1 by omega]
      exact ih h'
abbrev Bag := List (Value × Names)
def bagR (g : Bag) : HProp := stars (g.map fun p => osl 175 2 p.1 (nmsL p.2))
structure RF where
  f : Fil
  fv : Value
  nv : Value
  wv : Value
  ws : List (Chg × Value)
def rfL (x : RF) : List Value := [x.fv, x.nv, x.wv]
def rfsL (xs : List RF) : List Value := xs.flatMap rfL
def rfR (x : RF) : HProp := stars [bsl x.fv x.f.fast, bsl x.nv x.f.now, osl 155 3 x.wv (x.ws.flatMap chgCells), chgs x.ws]
def rlkL (x : Lnk) : List Value := [.string x.fr, .string x.to, .int .i64 x.f]
abbrev dskPt (d : Nat) (D : Med) (fsv fv nv wv : Value) : HProp :=
  pt d (.cells #[.int .i64 D.room, fsv, fv, nv, wv, .bool D.armed, .int .i64 D.left, .bool D.off] 136 (0,0))
def DskRaw (d : Nat) (D : Med) (fsv fv nv wv : Value) (xs : List RF) (g : Bag) : List HProp :=
  [dskPt d D fsv fv nv wv, osl 164 3 fsv (rfsL xs), stars (xs.map rfR), bagR g, osl 243 3 wv (D.waits.flatMap rlkL)]
structure DskIn (D : Med) (fv nv : Value) (xs : List RF) (g : Bag) : Prop where
  files : xs.map (·.f) = D.files
  ok : ∀ x ∈ xs, x.ws.map (·.1) = x.f.waits
  fast : (fv, D.fast) ∈ g
  now : (nv, D.now) ∈ g
def DskRep (d : Nat) (D : Med) : HProp := fun h => ∃ fsv fv nv wv xs g, DskIn D fv nv xs g ∧ stars (DskRaw d D fsv fv nv wv xs g) h
section
variable {w0 w : World} {b o : Nat} {ops : Array Oper} {rest : List Oper} {a : Act} {Q : Exit → Act → World → Prop} {dst : Option Tmp} {t ty : TypeId} {pos : String} {after : Array Edge} {x : Operand} {P : Program}
theorem wl_loadN' (ks : List Value) (hx : a.eval x = .pointer (some ⟨b, o, none⟩)) (hc : ∀ j v, ks[j]? = some v → w.cell? ⟨b, o + j, none⟩ = some v)
    {d : TypeDesc} (hu : P.underlying ty = some d) (hd : d.isRow = true) (hi : (P.info? ty).map (·.size) = some ks.length)
    (h : wpList P ops Q rest (a.put dst (.agg ks.toArray)) w) : wpList P ops Q (⟨dst, .load ty x, t, pos, after, none⟩ :: rest) a w :=
  wpList_load_mid rfl ty x rfl b o hx ks d hc hu hd hi h
end
theorem rfsL_len (xs : List RF) : (rfsL xs).length = 3 * xs.length := by
  unfold rfsL
  induction xs with
  | nil => rfl
  | cons x l ih => rw [List.flatMap_cons, List.length_append, ih, List.length_cons]; show 3 + 3 * l.length = _; omega
theorem rfsL_at {xs : List RF} {i : Nat} {x : RF} (h : xs[i]? = some x) : (rfsL xs)[i * 3]? = some x.fv ∧ (rfsL xs)[i * 3 + 1]? = some x.nv ∧ (rfsL xs)[i * 3 + 2]? = some x.wv := by
  induction xs generalizing i with
  | nil => simp at h
  | cons a l ih =>
    cases i with
    | zero =>
      obtain rfl : a = x := by simpa using h
      exact ⟨rfl, rfl, rfl⟩
    | succ i =>
      have e1 : rfsL (a :: l) = a.fv :: a.nv :: a.wv :: rfsL l := rfl
      have h' : l[i]? = some x := by simpa using h
      rw [e1, show (i + 1) * 3 = i * 3 + 1 + 1 + 1 by omega]
      exact ih h'
section
variable {w0 w : World} {F R : List HProp} {d : Nat} {D : Med} {fsv fv nv wv v : Value} {xs : List RF} {g : Bag} {K : Nat}
theorem DskRep.open (h : Sat w0 w (DskRep d D :: F)) : ∃ fsv fv nv wv xs g, DskIn D fv nv xs g ∧ Sat w0 w (dskPt d D fsv fv nv wv :: osl 164 3 fsv (rfsL xs) :: stars (xs.map rfR) :: bagR g :: osl 243 3 wv (D.waits.flatMap rlkL) :: F) := by
  obtain ⟨ha, x, hx, p, q, dd, rfl, ⟨fsv, fv, nv, wv, xs, g, hin, hp⟩, hq⟩ := h
  refine ⟨fsv, fv, nv, wv, xs, g, hin, ha, _, hx, ?_⟩
  show stars (DskRaw d D fsv fv nv wv xs g ++ F) _
  rw [stars_append]
  exact ⟨p, q, dd, rfl, hp, hq⟩
theorem DskRep.shut (hin : DskIn D fv nv xs g) (h : Sat w0 w (dskPt d D fsv fv nv wv :: osl 164 3 fsv (rfsL xs) :: stars (xs.map rfR) :: bagR g :: osl 243 3 wv (D.waits.flatMap rlkL) :: F)) : Sat w0 w (DskRep d D :: F) :=
  Sat.join (M := DskRaw d D fsv fv nv wv xs g) h fun _ hx => ⟨fsv, fv, nv, wv, xs, g, hin, hx⟩
theorem stars_mem : ∀ (l : List HProp) (A : HProp), A ∈ l → ∃ G, stars l = star A G
  | B :: l, A, h => by
    rcases List.mem_cons.1 h with rfl | h
    · exact ⟨_, rfl⟩
    · obtain ⟨G, hG⟩ := stars_mem l A h
      refine ⟨star B G, ?_⟩
      show star B (stars l) = _
      rw [hG, star_left_comm]
theorem bag_ro {l : Names} (h : (v, l) ∈ g) : Ro w0 (bagR g :: R) (rdsl 2 v (nmsL l)) := fun w hw => by
  obtain ⟨G, hG⟩ := stars_mem _ _ (List.mem_map.2 ⟨(v, l), h, rfl⟩ : osl 175 2 v (nmsL l) ∈ g.map fun p => osl 175 2 p.1 (nmsL p.2))
  unfold bagR at hw
  rw [hG] at hw
  exact Sat.rd (Sat.star.1 hw)
theorem bag_add {l : Names} (h : Sat w0 w (osl 175 2 v (nmsL l) :: bagR g :: R)) : Sat w0 w (bagR ((v, l) :: g) :: R) := Sat.star.2 h
theorem file_ro {x : RF} (h : x ∈ xs) : Ro w0 (stars (xs.map rfR) :: R) (rdsl 1 x.nv (bys x.f.now)) ∧ Ro w0 (stars (xs.map rfR) :: R) (rdsl 1 x.fv (bys x.f.fast)) := by
  obtain ⟨G, hG⟩ := stars_mem _ _ (List.mem_map.2 ⟨x, h, rfl⟩ : rfR x ∈ xs.map rfR)
  refine ⟨fun w hw => ?_, fun w hw => ?_⟩
  · rw [hG] at hw
    have h2 := Sat.star.1 hw
    unfold rfR at h2
    have h3 := Sat.star.1 h2
    exact Sat.rd (Sat.star.1 (h3.pick pick1))
  · rw [hG] at hw
    have h2 := Sat.star.1 hw
    unfold rfR at h2
    exact Sat.rd (Sat.star.1 h2)
theorem DskIn.file (h : DskIn D fv nv xs g) {i : Nat} (hi : i < D.files.length) : ∃ x, xs[i]? = some x ∧ x.f = D.file i := by
  have hl : xs.length = D.files.length := by rw [← h.files, List.length_map]
  refine ⟨xs[i]'(by omega), List.getElem?_eq_getElem _, ?_⟩
  unfold Med.file
  rw [List.getD_eq_getElem?_getD, ← h.files, List.getElem?_map, List.getElem?_eq_getElem (by omega)]
  rfl
theorem nms_sl {l : Names} (h : rdsl 2 v (nmsL l) w) : ∃ a c, v = .slice a l.length c := by
  obtain ⟨a, n, c, rfl, hl, hx⟩ := h
  rw [nmsL_len] at hl
  obtain rfl : n = l.length := by omega
  exact ⟨a, c, rfl⟩
theorem nms_cells {l : Names} {i : Nat} {p : ByteArray × Nat} (h : rdsl 2 v (nmsL l) w) (hi : l[i]? = some p) :
    ∃ bk off c, v = .slice (some ⟨bk, off, none⟩) l.length c ∧ w.cell? ⟨bk, off + i * 2, none⟩ = some (.string p.1) ∧ w.cell? ⟨bk, off + i * 2 + 1, none⟩ = some (.int .i64 p.2) := by
  obtain ⟨a, c, rfl⟩ := nms_sl h
  obtain ⟨h0, h1⟩ := nmsL_at hi
  obtain ⟨bk, off, rfl, hc⟩ := rdsl_cells h h0
  exact ⟨bk, off, c, rfl, hc _ _ h0, by rw [Nat.add_assoc]; exact hc _ _ h1⟩
set_option maxHeartbeats 2000000 in
theorem rnames_c (h : Sat w0 w (dskPt d D fsv fv nv wv :: F)) : Calls Tryz.prog 119 #[ptr d] w (Rtn fun v w' => v = nv ∧ w = w') := by
  have e3 : w.cell? ⟨d, 3, none⟩ = some nv := h.cellAt 3 _ rfl
  go_enter Tryz.func119, Tryz.ntmps119
  go_wp2
  go_ret
  exact ⟨_, rfl, rfl, rfl⟩
set_option maxRecDepth 20000 in
set_option maxHeartbeats 4000000 in
theorem rfind_c (s : ByteArray) (hl : D.now.length ≤ 1048576) (h : Sat w0 w (DskRep d D :: F)) : Calls Tryz.prog 84 #[ptr d, .string s] w (Rtn fun v w' => v = .int .i64 (D.which s) ∧ w = w') := by
  obtain ⟨fsv, fv, nv, wv, xs, g, hin, hR⟩ := DskRep.open h
  have hrd := (bag_ro (w0 := w0) hin.now) w (hR.pick pick3)
  have hn := rnames_c hR
  have Hw := Lib.hid (show D.which s = match nget D.now s with | none => -1 | some i => (i : Int) from rfl)
  clear hin hR
  generalize D.now = l at *
  obtain ⟨la, lc, rfl⟩ := nms_sl hrd
  go_enter Tryz.func84, Tryz.ntmps84
  go_wp2_with fail
  refine hn.mono ?_
  rintro ee w1 ⟨v, rfl, rfl, rfl⟩
  clear hn
  go_wp2_with fail
  go_loopg [6] l.length (fun g iq wr => ∃ i : Nat, g = l.length - i ∧ i ≤ l.length ∧ iq = .int .i64 i ∧ nget l s = nget (l.drop i) s ∧ wr = w)
  case atStart => exact ⟨0, rfl, Nat.zero_le _, rfl, rfl, rfl⟩
  case round =>
    obtain ⟨i, rfl, hi, rfl, hg, rfl⟩ := hrel
    by_cases hlt : i < l.length
    · have c1 : (i : Int) < (l.length : Int) := by omega
      have hwi : IntKind.i64.wrap ((i : Int) + 1) = (i : Int) + 1 := IntWalk.i64_in _ (by omega)
      obtain ⟨p, hp⟩ : ∃ p, l[i]? = some p := ⟨_, List.getElem?_eq_getElem hlt⟩
      obtain ⟨bk, off, c, hee, e0, e1⟩ := nms_cells hrd hp
      cases hee
      have hdr : l.drop i = p :: l.drop (i + 1) := by
        obtain ⟨h1, h2⟩ := List.getElem?_eq_some_iff.1 hp
        rw [← h2]; exact List.drop_eq_getElem_cons h1
      have Hlt := Lib.hid hlt
      rw [hdr] at hg
      unfold nget at hg
      rw [List.find?_cons] at hg
      have Hg := Lib.hid hg
      clear hlt hp hdr hg
      obtain ⟨ps, pi⟩ := p
      dsimp only at Hg e0 e1
      by_cases hs : ps = s
      · subst hs
        have hb : (ps.toList == ps.toList) = true := beq_self_eq_true _
        have hgb : (ps == ps) = true := by rw [beq_ba]; exact decide_eq_true rfl
        have hfin := Hg.out
        rw [hgb] at hfin
        have Hfin := Lib.hid (show nget l ps = some pi from hfin)
        clear hfin Hg hgb
        go_wp2
        go_ret
        exact ⟨_, rfl, by rw [Hw.out, Hfin.out]; rfl, rfl⟩
      · have hb : (ps.toList == s.toList) = false := by
          rw [beq_eq_false_iff_ne]
          intro e
          apply hs
          rw [ByteArray.toList_eq, ByteArray.toList_eq] at e
          obtain ⟨⟨x⟩⟩ := ps; obtain ⟨⟨y⟩⟩ := s
          simp at e; subst e; rfl
        have hgb : (ps == s) = false := by rw [beq_ba]; exact decide_eq_false hs
        have hfin := Hg.out
        rw [hgb] at hfin
        have Hfin := Lib.hid (show nget l s = nget (l.drop (i + 1)) s from hfin)
        clear hfin Hg hgb hs
        go_wp2
        go_roundg (l.length - (i + 1))
        case measure => have := Hlt.out; omega
        case rel => exact ⟨i + 1, rfl, Nat.succ_le_of_lt Hlt.out, by first | rfl | go_num, Hfin.out, rfl⟩
    · obtain rfl : i = l.length := by omega
      have c1 : ¬ (l.length : Int) < (l.length : Int) := by omega
      rw [List.drop_length] at hg
      have Hg := Lib.hid hg
      clear hlt hg
      go_wp2
      go_ret
      exact ⟨_, rfl, by rw [Hw.out, Hg.out]; rfl, rfl⟩
end
section
variable {w0 w : World} {F R : List HProp} {d : Nat} {D : Med} {fsv fv nv wv v lv : Value} {xs : List RF} {g : Bag} {K : Nat}
theorem ba_eq {a b : ByteArray} (h : a ≠ b) : (a.toList == b.toList) = false := by
  rw [beq_eq_false_iff_ne]
  intro e
  apply h
  rw [ByteArray.toList_eq, ByteArray.toList_eq] at e
  obtain ⟨⟨x⟩⟩ := a; obtain ⟨⟨y⟩⟩ := b
  simp at e; subst e; rfl
theorem nm_pair {l : Names} {i : Nat} {p : ByteArray × Nat} (h : rdsl 2 v (nmsL l) w) (hi : l[i]? = some p) :
    ∃ bk off c, v = .slice (some ⟨bk, off, none⟩) l.length c ∧ ∀ j y, (nmL p)[j]? = some y → w.cell? ⟨bk, off + i * 2 + j, none⟩ = some y := by
  obtain ⟨bk, off, c, e, h0, h1⟩ := nms_cells h hi
  refine ⟨bk, off, c, e, fun j y hj => ?_⟩
  rcases j with _ | _ | j
  · cases hj; exact h0
  · cases hj; exact h1
  · simp [nmL] at hj
theorem infoNm : (Tryz.prog.info? 175).map (·.size) = some 2 := by kernel_rfl
theorem ndel_snoc (l : Names) (p : ByteArray × Nat) (s : ByteArray) : ndel (l ++ [p]) s = ndel l s ++ (if (p.1 != s) = true then [p] else []) := by
  unfold ndel
  rw [List.filter_append]
  congr 1
  simp only [List.filter_cons, List.filter_nil]
set_option maxRecDepth 20000 in
set_option maxHeartbeats 8000000 in
theorem rwithout_c (l : Names) (s : ByteArray) (hl : l.length ≤ 1048576) (hr : Ro w0 F (rdsl 2 lv (nmsL l))) (h : Sat w0 w F) :
    Calls Tryz.prog 165 #[lv, .string s] w (Rtn fun v w' => ∃ ov, v = ov ∧ Sat w0 w' (osl 175 2 ov (nmsL (ndel l s)) :: F)) := by
  obtain ⟨la, lc, rfl⟩ := nms_sl (hr w h)
  have Hr := Lib.hid hr; have Hl := Lib.hid hl
  clear hr hl
  go_enter Tryz.func165, Tryz.ntmps165
  go_wp2_with fail
  go_loopg [5, 6] l.length (fun g ov iq wr => ∃ i : Nat, g = l.length - i ∧ i ≤ l.length ∧ iq = .int .i64 i ∧ Sat w0 wr (osl 175 2 ov (nmsL (ndel (l.take i) s)) :: F))
  case atStart => exact ⟨0, rfl, Nat.zero_le _, rfl, Sat.osl_nil.2 h⟩
  case round =>
    obtain ⟨i, rfl, hi, rfl, hS⟩ := hrel
    clear h
    by_cases hlt : i < l.length
    · have Hlt := Lib.hid hlt
      have hl := Hl.out
      have c1 : (i : Int) < (l.length : Int) := by omega
      have hwi : IntKind.i64.wrap ((i : Int) + 1) = (i : Int) + 1 := IntWalk.i64_in _ (by omega)
      obtain ⟨p, hp⟩ : ∃ p, l[i]? = some p := ⟨_, List.getElem?_eq_getElem hlt⟩
      obtain ⟨bk, off, c, hee, hcells⟩ := nm_pair (Hr.out _ hS.drop) hp
      cases hee
      have e0 : wr.cell? ⟨bk, off + i * 2, none⟩ = some (.string p.1) := hcells 0 _ rfl
      have Hcells := Lib.hid hcells
      have Hnext := Lib.hid (show ndel (l.take (i + 1)) s = ndel (l.take i) s ++ (if (p.1 != s) = true then [p] else []) by
        rw [List.take_add_one, hp]; exact ndel_snoc _ _ _)
      have hlen : (nmsL (ndel (l.take i) s)).length ≤ 2147483648 := by
        rw [nmsL_len]
        have h1 := ndel_len (l.take i) s
        rw [List.length_take] at h1
        omega
      clear hlt hp hcells hl
      obtain ⟨ps, pi⟩ := p
      dsimp only at e0 Hnext
      by_cases hs : ps = s
      · subst hs
        have hb : (ps.toList == ps.toList) = true := beq_self_eq_true _
        have hbn : (ps.toList != ps.toList) = false := by rw [bne, hb]; rfl
        have hn2 := Hnext.out
        rw [if_neg (by simp [bne, beq_ba]), List.append_nil] at hn2
        have Hn2 := Lib.hid hn2
        clear hn2 Hnext
        go_wp2_with fail
        go_roundg (l.length - (i + 1))
        case measure => have := Hlt.out; omega
        case rel => exact ⟨i + 1, rfl, Nat.succ_le_of_lt Hlt.out, by first | rfl | go_num, by rw [Hn2.out]; exact hS⟩
      · have hb := ba_eq hs
        have hbn : (ps.toList != s.toList) = true := by rw [bne, hb]; rfl
        have hn2 := Hnext.out
        rw [if_pos (by simp [bne, beq_ba, hs])] at hn2
        have Hn2 := Lib.hid hn2
        clear hn2 Hnext hs
        go_wp2_with (first
          | ((with_reducible apply at_load); refine ⟨?_⟩; refine wl_loadN' (b := bk) (o := off + i * 2) (nmL (ps, pi)) (by rfl) Hcells.out Tryz.underlying175 rfl infoNm ?_)
          | ((with_reducible apply at_build1); refine ⟨?_⟩; refine wl_build1 (e := 175) (sz := 2) (by' := 24) (by kernel_rfl) hS (by rfl) (cs := (nmL (ps, pi)).toArray) rfl rfl (Nat.le_of_ble_eq_true (by rfl)) ?_; intro bN wN hN)
          | (with_reducible apply at_append))
        refine ⟨?_⟩
        refine wl_app 175 2 24 (by kernel_rfl) hN (by rfl) (by rfl) pkD pkD (by rfl) (Nat.le_refl 1) (by rfl) hlen (by show 2 ≤ 65536; decide) (by decide) rfl ?_
        intro bA nA cA wA hA
        go_wp2_with fail
        have e9 : nmsL (ndel (l.take i) s) ++ nmL (ps, pi) = nmsL (ndel (l.take (i + 1)) s) := by rw [Hn2.out, nmsL_app]; simp [nmsL]
        rw [e9] at hA
        go_roundg (l.length - (i + 1))
        case measure => have := Hlt.out; omega
        case rel => exact ⟨i + 1, rfl, Nat.succ_le_of_lt Hlt.out, by first | rfl | go_num, hA⟩
    · obtain rfl : i = l.length := by omega
      have c1 : ¬ (l.length : Int) < (l.length : Int) := by omega
      rw [List.take_length] at hS
      clear hlt
      go_wp2
      go_ret
      exact ⟨_, rfl, hS⟩
theorem gtr_lt (p s : ByteArray) : (!Op.bytesLess p.toList s.toList && !p.toList == s.toList) = lt s p := by
  rw [bytesLess_eq, ByteArray.toList_eq, ByteArray.toList_eq]
  by_cases e : p = s
  · subst e
    rw [lt_irrefl]
    simp
  · have he : (p.data.toList == s.data.toList) = false := by
      have := ba_eq e
      rw [ByteArray.toList_eq, ByteArray.toList_eq] at this
      exact this
    rw [he]
    rcases lt_or e with h | h
    · have h2 : lt s p = false := by
        cases h3 : lt s p with
        | false => rfl
        | true => have := lt_trans h h3; rw [lt_irrefl] at this; cases this
      rw [h2]
      unfold lt at h
      rw [h]; rfl
    · have h2 : lt p s = false := by
        cases h3 : lt p s with
        | false => rfl
        | true => have := lt_trans h h3; rw [lt_irrefl] at this; cases this
      rw [h]
      unfold lt at h2
      rw [h2]; rfl
theorem nins_lt {l : Names} {s : ByteArray} {i : Nat} {p : ByteArray × Nat} (h : lt s p.1 = true) : nins (p :: l) s i = (s, i) :: p :: l := by
  show (if lt s p.1 then (s, i) :: p :: l else p :: nins l s i) = _
  rw [if_pos h]
theorem nins_ge {l : Names} {s : ByteArray} {i : Nat} {p : ByteArray × Nat} (h : lt s p.1 = false) : nins (p :: l) s i = p :: nins l s i := by
  show (if lt s p.1 then (s, i) :: p :: l else p :: nins l s i) = _
  rw [if_neg (by rw [h]; decide)]
set_option maxRecDepth 20000 in
set_option maxHeartbeats 16000000 in
theorem rwith_c (l : Names) (s : ByteArray) (f : Nat) (hl : l.length ≤ 1048576) (hr : Ro w0 F (rdsl 2 lv (nmsL l))) (h : Sat w0 w F) :
    Calls Tryz.prog 166 #[lv, .agg #[.string s, .int .i64 f]] w (Rtn fun v w' => ∃ ov, v = ov ∧ Sat w0 w' (osl 175 2 ov (nmsL (nput l s f)) :: F)) := by
  have Hr := Lib.hid hr; have Hl := Lib.hid hl
  clear hr hl
  go_enter Tryz.func166, Tryz.ntmps166
  go_wp2_with (first | ((with_reducible apply at_box); refine ⟨?_⟩; refine wl_box (by assumption) evD evD ?_; intro bB wB hB) | ((with_reducible apply at_load); refine ⟨?_⟩; refine wl_load1 (by assumption) (by rfl) pkD (Nat.le_of_ble_eq_true (by rfl)) evD (by kernel_rfl) ?_))
  refine (rwithout_c l s Hl.out (Ro.os Hr.out) hB).mono ?_
  rintro ee w1 ⟨v, rfl, v1, rfl, hS1⟩
  have Hz := Lib.hid (Nat.le_trans (ndel_len l s) Hl.out)
  have Hfin := Lib.hid (show nput l s f = nins (ndel l s) s f from rfl)
  clear h hB
  generalize ndel l s = k at *
  obtain ⟨ka, kc, rfl⟩ := nms_sl (Sat.rd hS1)
  go_wp2_with fail
  have hS2 : Sat w0 w1 (osl 175 2 (.slice none 0 0) (nmsL []) :: osl 175 2 (.slice ka k.length kc) (nmsL k) :: pt bB (.cells #[.string s, .int .i64 f] 175 (0,0)) :: F) := Sat.osl_nil.2 hS1
  clear hS1
  go_loopg [5, 6, 7] k.length (fun g ov dv iq wr => ∃ (i : Nat) (b : Bool) (o : Names), g = k.length - i ∧ i ≤ k.length ∧ iq = .int .i64 i ∧ dv = .bool b ∧ o.length ≤ i + 1 ∧
    (b = false ∧ o = k.take i ∧ nins k s f = k.take i ++ nins (k.drop i) s f ∨ b = true ∧ nins k s f = o ++ k.drop i) ∧
    Sat w0 wr (osl 175 2 ov (nmsL o) :: osl 175 2 (.slice ka k.length kc) (nmsL k) :: pt bB (.cells #[.string s, .int .i64 f] 175 (0,0)) :: F))
  case atStart => exact ⟨0, false, [], rfl, Nat.zero_le _, rfl, rfl, Nat.zero_le _, .inl ⟨rfl, rfl, rfl⟩, hS2⟩
  case round =>
    obtain ⟨i, b, o, rfl, hi, rfl, rfl, hol, hcase, hS⟩ := hrel
    clear hS2
    by_cases hlt : i < k.length
    · have Hlt := Lib.hid hlt
      have hz := Hz.out
      have c1 : (i : Int) < (k.length : Int) := by omega
      have hwi : IntKind.i64.wrap ((i : Int) + 1) = (i : Int) + 1 := IntWalk.i64_in _ (by omega)
      obtain ⟨p, hp⟩ : ∃ p, k[i]? = some p := ⟨_, List.getElem?_eq_getElem hlt⟩
      obtain ⟨bk, off, c, hee, hcells⟩ := nm_pair (Sat.rd (hS.pick pick1)) hp
      cases hee
      have HCs := Lib.hid (show ∀ w' R, Sat w0 w' (osl 175 2 (.slice (some ⟨bk, off, none⟩) k.length kc) (nmsL k) :: R) → ∀ j y, (nmL p)[j]? = some y → w'.cell? ⟨bk, off + i * 2 + j, none⟩ = some y from fun w' R hw j y hj => by
        obtain ⟨_, _, _, hee, h0⟩ := nm_pair (Sat.rd hw) hp
        cases hee; exact h0 j y hj)
      have hdr : k.drop i = p :: k.drop (i + 1) := by
        obtain ⟨h1, h2⟩ := List.getElem?_eq_some_iff.1 hp
        rw [← h2]; exact List.drop_eq_getElem_cons h1
      have htk : k.take (i + 1) = k.take i ++ [p] := by rw [List.take_add_one, hp]; rfl
      have Hdr := Lib.hid hdr; have Htk := Lib.hid htk; have Hol := Lib.hid hol
      have hlen : (nmsL o).length ≤ 2147483648 := by rw [nmsL_len]; omega
      have hlen2 : (nmsL (o ++ [(s, f)])).length ≤ 2147483648 := by rw [nmsL_len, List.length_append]; simp only [List.length_singleton]; omega
      clear hlt hp hdr htk hcells hol
      obtain ⟨ps, pi⟩ := p
      have e1 : ∀ a : Names, nmsL a ++ nmL (ps, pi) = nmsL (a ++ [(ps, pi)]) := fun a => by rw [nmsL_app]; simp [nmsL]
      have e2 : ∀ a : Names, nmsL a ++ nmL (s, f) = nmsL (a ++ [(s, f)]) := fun a => by rw [nmsL_app]; simp [nmsL]
      have E1 := Lib.hid e1; have E2 := Lib.hid e2
      clear e1 e2
      cases b with
      | true =>
        have hcase2 : nins k s f = (o ++ [(ps, pi)]) ++ k.drop (i + 1) := by
          rcases hcase with ⟨h1, _⟩ | ⟨_, h1⟩
          · cases h1
          · rw [h1, Hdr.out]; simp
        have Hcase := Lib.hid hcase2
        clear hcase hcase2
        go_wp2_with fail
        have hS1 := hS.drew
        clear hS
        refine wpL_begin [10, 11] (fun _ => True) (by kernel_rfl) ?_
        have hG : True := trivial
        refine rp 0 (hy := (yl_move evD)) (h := ?_)
        refine rp 1 (hy := (yl_un evD rnD)) (h := ?_)
        refine rp 2 (hy := (yl_move evD)) (h := ?_)
        refine rg_skip 3 evD (by kernel_rfl) (by intro _ _ _ h; exact h) (by rfl) (by go_frame; first | done | rfl) ?_
        refine rg_skip 4 evD (by kernel_rfl) (by intro _ _ _ h; exact h) (by rfl) (by go_frame; first | done | rfl) ?_
        refine rg_skip 5 evD (by kernel_rfl) (by intro _ _ _ h; exact h) (by rfl) (by go_frame; first | done | rfl) ?_
        refine rg_skip 6 evD (by kernel_rfl) (by intro _ _ _ h; exact h) (by rfl) (by go_frame; first | done | rfl) ?_
        refine rg_skip 7 evD (by kernel_rfl) (by intro _ _ _ h; exact h) (by rfl) (by go_frame; first | done | rfl) ?_
        refine rg_skip 8 evD (by kernel_rfl) (by intro _ _ _ h; exact h) (by rfl) (by go_frame; first | done | rfl) ?_
        refine rg_skip 9 evD (by kernel_rfl) (by intro _ _ _ h; exact h) (by rfl) (by go_frame; first | done | rfl) ?_
        refine rg_skip 10 evD (by kernel_rfl) (by intro _ _ _ h; exact h) (by rfl) (by go_frame; first | done | rfl) ?_
        refine rp 11 (hy := (yg_pick (by rfl) evD evD)) (h := ?_)
        refine wpL_done (by kernel_rfl) ?_
        clear hG
        try simp only [List.getElem_toArray, List.getElem_cons_succ, List.getElem_cons_zero]
        try go_frame
        go_wp2_with (first
          | ((with_reducible apply at_load); refine ⟨?_⟩; refine wl_loadN' (b := bk) (o := off + i * 2) (nmL (ps, pi)) (by rfl) (HCs.out _ _ (hS1.pick pick1)) Tryz.underlying175 rfl infoNm ?_)
          | ((with_reducible apply at_build1); refine ⟨?_⟩; refine wl_build1 (e := 175) (sz := 2) (by' := 24) (by kernel_rfl) hS1 (by rfl) (cs := (nmL (ps, pi)).toArray) rfl rfl (Nat.le_of_ble_eq_true (by rfl)) ?_; intro bN wN hN)
          | ((with_reducible apply at_append); refine ⟨?_⟩; refine wl_app 175 2 24 (by kernel_rfl) hN (by rfl) (by rfl) (pick_there (pick0 (A := osl 175 2 u5 (nmsL o)))) pick0 (by rfl) (Nat.le_refl 1) (by rfl) hlen (by show 2 ≤ 65536; decide) (by decide) rfl ?_; intro bA nA cA wA hA))
        rw [E1.out] at hA
        go_roundg (k.length - (i + 1))
        case measure => have := Hlt.out; omega
        case rel => exact ⟨i + 1, true, o ++ [(ps, pi)], rfl, Nat.succ_le_of_lt Hlt.out, by first | rfl | go_num, rfl, by rw [List.length_append]; have := Hol.out; simp only [List.length_singleton]; omega, .inr ⟨rfl, Hcase.out⟩, hA.sub (sub_take pick0 (sub_take pick0 sub_refl))⟩
      | false =>
        have hc2 : o = k.take i ∧ nins k s f = k.take i ++ nins ((ps, pi) :: k.drop (i + 1)) s f := by
          rcases hcase with ⟨_, h1, h2⟩ | ⟨h1, _⟩
          · exact ⟨h1, by rw [h2, Hdr.out]⟩
          · cases h1
        obtain ⟨rfl, hc3⟩ := hc2
        have Hc3 := Lib.hid hc3
        go_wp2_with fail
        have hS1 := hS.drew
        clear hS hcase hc3
        have hgl := gtr_lt ps s
        cases hlp : lt s ps with
        | true =>
          rw [hlp] at hgl
          have hgt := hgl
          have Hc4 := Lib.hid (show nins k s f = (k.take i ++ [(s, f)] ++ [(ps, pi)]) ++ k.drop (i + 1) by rw [Hc3.out, nins_lt (p := (ps, pi)) hlp]; simp)
          clear hgl hlp Hc3
          refine wpL_begin [10, 11] (fun w' => w'.cell? ⟨bk, off + i * 2, none⟩ = some (.string ps) ∧ w'.cell? ⟨bB, 0, none⟩ = some (.string s)) (by kernel_rfl) ?_
          have hG : World.cell? _ ⟨bk, off + i * 2, none⟩ = some (.string ps) ∧ World.cell? _ ⟨bB, 0, none⟩ = some (.string s) := ⟨HCs.out _ _ (hS1.pick pick1) 0 _ rfl, hS1.cellP pick2 0 rfl⟩
          refine rp 0 (hy := (yl_move evD)) (h := ?_)
          refine rp 1 (hy := (yl_un evD rnD)) (h := ?_)
          refine rp 2 (hy := (yl_move evD)) (h := ?_)
          refine rp 3 (hy := (yg_move (by rfl) evD)) (h := ?_)
          refine rp 4 (hy := (yg_move (by rfl) evD)) (h := ?_)
          refine rp 5 (hy := (yg_index (by rfl) evD evD rnD)) (h := ?_)
          refine rp 6 (hy := (yg_field (by rfl) evD rnD)) (h := ?_)
          refine rg_take 7 evD (by kernel_rfl) (by intro _ _ _ h; exact h) (tg_load (by rfl) evD (by kernel_rfl) (fun w hw => hw.1)) (by assumption) (by go_frame; first | done | rfl) ?_
          refine rp 8 (hy := (yg_field (by rfl) evD rnD)) (h := ?_)
          refine rg_take 9 evD (by kernel_rfl) (by intro _ _ _ h; exact h) (tg_load (by rfl) evD (by kernel_rfl) (fun w hw => hw.2)) (by assumption) (by go_frame; first | done | rfl) ?_
          refine rp 10 (hy := (yg_bin (by rfl) evD evD rnD)) (h := ?_)
          refine rp 11 (hy := (yg_pick (by rfl) evD evD)) (h := ?_)
          refine wpL_done (by kernel_rfl) ?_
          clear hG
          try simp only [List.getElem_toArray, List.getElem_cons_succ, List.getElem_cons_zero]
          try go_frame
          try simp only [hgt]
          go_wp2_with (first
            | ((with_reducible apply at_load); refine ⟨?_⟩; refine wl_loadA (b := bB) hS1 (by rfl) pick2 Tryz.underlying175 rfl (by kernel_rfl) ?_)
            | ((with_reducible apply at_build1); refine ⟨?_⟩; refine wl_build1 (e := 175) (sz := 2) (by' := 24) (by kernel_rfl) hS1 (by rfl) (cs := (nmL (s, f)).toArray) rfl rfl (Nat.le_of_ble_eq_true (by rfl)) ?_; intro bM wM hM)
            | ((with_reducible apply at_append); refine ⟨?_⟩; refine wl_app 175 2 24 (by kernel_rfl) hM (by rfl) (by rfl) (pick_there (pick0 (A := osl 175 2 u5 (nmsL (k.take i))))) pick0 (by rfl) (Nat.le_refl 1) (by rfl) hlen (by show 2 ≤ 65536; decide) (by decide) rfl ?_; intro bA nA cA wA hA)
            | (with_reducible apply at_load))
          rw [E2.out] at hA
          have hS2 : Sat w0 wA (osl 175 2 (.slice (some ⟨bA, 0, none⟩) nA cA) (nmsL (k.take i ++ [(s, f)])) :: osl 175 2 (.slice (some ⟨bk, off, none⟩) k.length kc) (nmsL k) :: pt bB (.cells #[.string s, .int .i64 f] 175 (0,0)) :: F) := hA.sub (sub_take pick0 (sub_take pick0 (sub_take pick0 sub_refl)))
          clear hM hA
          refine ⟨?_⟩
          refine wl_loadN' (b := bk) (o := off + i * 2) (nmL (ps, pi)) (by rfl) (HCs.out _ _ (hS2.pick pick1)) Tryz.underlying175 rfl infoNm ?_
          go_wp2_with (first
            | ((with_reducible apply at_build1); refine ⟨?_⟩; refine wl_build1 (e := 175) (sz := 2) (by' := 24) (by kernel_rfl) hS2 (by rfl) (cs := (nmL (ps, pi)).toArray) rfl rfl (Nat.le_of_ble_eq_true (by rfl)) ?_; intro bN wN hN)
            | ((with_reducible apply at_append); refine ⟨?_⟩; refine wl_app 175 2 24 (by kernel_rfl) hN (by rfl) (by rfl) (pick_there (pick0 (A := osl 175 2 (.slice (some ⟨bA, 0, none⟩) nA cA) (nmsL (k.take i ++ [(s, f)]))))) pick0 (by rfl) (Nat.le_refl 1) (by rfl) hlen2 (by show 2 ≤ 65536; decide) (by decide) rfl ?_; intro bA2 nA2 cA2 wA2 hA2))
          rw [E1.out] at hA2
          go_roundg (k.length - (i + 1))
          case measure => have := Hlt.out; omega
          case rel => exact ⟨i + 1, true, _, rfl, Nat.succ_le_of_lt Hlt.out, by first | rfl | go_num, rfl, by rw [List.length_append, List.length_append, List.length_take]; simp only [List.length_singleton]; omega, .inr ⟨rfl, Hc4.out⟩, hA2.sub (sub_take pick0 (sub_take pick0 sub_refl))⟩
        | false =>
          rw [hlp] at hgl
          have hgt := hgl
          have Hc4 := Lib.hid (show nins k s f = k.take (i + 1) ++ nins (k.drop (i + 1)) s f by rw [Hc3.out, nins_ge (p := (ps, pi)) hlp, Htk.out]; simp)
          clear hgl hlp Hc3
          refine wpL_begin [10, 11] (fun w' => w'.cell? ⟨bk, off + i * 2, none⟩ = some (.string ps) ∧ w'.cell? ⟨bB, 0, none⟩ = some (.string s)) (by kernel_rfl) ?_
          have hG : World.cell? _ ⟨bk, off + i * 2, none⟩ = some (.string ps) ∧ World.cell? _ ⟨bB, 0, none⟩ = some (.string s) := ⟨HCs.out _ _ (hS1.pick pick1) 0 _ rfl, hS1.cellP pick2 0 rfl⟩
          refine rp 0 (hy := (yl_move evD)) (h := ?_)
          refine rp 1 (hy := (yl_un evD rnD)) (h := ?_)
          refine rp 2 (hy := (yl_move evD)) (h := ?_)
          refine rp 3 (hy := (yg_move (by rfl) evD)) (h := ?_)
          refine rp 4 (hy := (yg_move (by rfl) evD)) (h := ?_)
          refine rp 5 (hy := (yg_index (by rfl) evD evD rnD)) (h := ?_)
          refine rp 6 (hy := (yg_field (by rfl) evD rnD)) (h := ?_)
          refine rg_take 7 evD (by kernel_rfl) (by intro _ _ _ h; exact h) (tg_load (by rfl) evD (by kernel_rfl) (fun w hw => hw.1)) (by assumption) (by go_frame; first | done | rfl) ?_
          refine rp 8 (hy := (yg_field (by rfl) evD rnD)) (h := ?_)
          refine rg_take 9 evD (by kernel_rfl) (by intro _ _ _ h; exact h) (tg_load (by rfl) evD (by kernel_rfl) (fun w hw => hw.2)) (by assumption) (by go_frame; first | done | rfl) ?_
          refine rp 10 (hy := (yg_bin (by rfl) evD evD rnD)) (h := ?_)
          refine rp 11 (hy := (yg_pick (by rfl) evD evD)) (h := ?_)
          refine wpL_done (by kernel_rfl) ?_
          clear hG
          try simp only [List.getElem_toArray, List.getElem_cons_succ, List.getElem_cons_zero]
          try go_frame
          try simp only [hgt]
          go_wp2_with (first
            | ((with_reducible apply at_load); refine ⟨?_⟩; refine wl_loadN' (b := bk) (o := off + i * 2) (nmL (ps, pi)) (by rfl) (HCs.out _ _ (hS1.pick pick1)) Tryz.underlying175 rfl infoNm ?_)
            | ((with_reducible apply at_build1); refine ⟨?_⟩; refine wl_build1 (e := 175) (sz := 2) (by' := 24) (by kernel_rfl) hS1 (by rfl) (cs := (nmL (ps, pi)).toArray) rfl rfl (Nat.le_of_ble_eq_true (by rfl)) ?_; intro bN wN hN)
            | ((with_reducible apply at_append); refine ⟨?_⟩; refine wl_app 175 2 24 (by kernel_rfl) hN (by rfl) (by rfl) (pick_there (pick0 (A := osl 175 2 u5 (nmsL (k.take i))))) pick0 (by rfl) (Nat.le_refl 1) (by rfl) hlen (by show 2 ≤ 65536; decide) (by decide) rfl ?_; intro bA nA cA wA hA))
          rw [E1.out, ← Htk.out] at hA
          go_roundg (k.length - (i + 1))
          case measure => have := Hlt.out; omega
          case rel => exact ⟨i + 1, false, _, rfl, Nat.succ_le_of_lt Hlt.out, by first | rfl | go_num, rfl, by rw [List.length_take]; omega, .inl ⟨rfl, rfl, Hc4.out⟩, hA.sub (sub_take pick0 (sub_take pick0 sub_refl))⟩
    · obtain rfl : i = k.length := by omega
      have c1 : ¬ (k.length : Int) < (k.length : Int) := by omega
      rw [List.take_length, List.drop_length] at hcase
      have hz := Hz.out
      have hlen : (nmsL o).length ≤ 2147483648 := by rw [nmsL_len]; omega
      clear hlt
      cases b with
      | true =>
        have hc2 : nins k s f = o := by
          rcases hcase with ⟨h1, _⟩ | ⟨_, h1⟩
          · cases h1
          · rw [h1, List.append_nil]
        have Hc2 := Lib.hid hc2
        clear hcase hc2
        go_wp2
        go_ret
        exact ⟨_, rfl, by rw [Hfin.out, Hc2.out]; exact hS.sub (sub_take pick0 (sub_drop (sub_drop sub_refl)))⟩
      | false =>
        have hc2 : o = k ∧ nins k s f = k ++ [(s, f)] := by
          rcases hcase with ⟨_, h1, h2⟩ | ⟨h1, _⟩
          · exact ⟨h1, h2⟩
          · cases h1
        obtain ⟨rfl, hc3⟩ := hc2
        have Hc3 := Lib.hid hc3
        clear hcase hc3
        go_wp2_with (first
          | ((with_reducible apply at_load); refine ⟨?_⟩; refine wl_loadA (b := bB) hS (by rfl) pick2 Tryz.underlying175 rfl (by kernel_rfl) ?_)
          | ((with_reducible apply at_build1); refine ⟨?_⟩; refine wl_build1 (e := 175) (sz := 2) (by' := 24) (by kernel_rfl) hS (by rfl) (cs := (nmL (s, f)).toArray) rfl rfl (Nat.le_of_ble_eq_true (by rfl)) ?_; intro bM wM hM)
          | ((with_reducible apply at_append); refine ⟨?_⟩; refine wl_app 175 2 24 (by kernel_rfl) hM (by rfl) (by rfl) (pick_there (pick0 (A := osl 175 2 u5 (nmsL o)))) pick0 (by rfl) (Nat.le_refl 1) (by rfl) hlen (by show 2 ≤ 65536; decide) (by decide) rfl ?_; intro bA nA cA wA hA))
        go_ret
        have e2 : nmsL o ++ nmL (s, f) = nmsL (o ++ [(s, f)]) := by rw [nmsL_app]; simp [nmsL]
        rw [e2] at hA
        exact ⟨_, rfl, by rw [Hfin.out, Hc3.out]; exact hA.sub (sub_take pick0 (sub_drop (sub_drop sub_refl)))⟩
end
section
variable {w0 w : World} {F R : List HProp} {d : Nat} {D : Med} {fsv fv nv wv v lv : Value} {xs : List RF} {g : Bag} {K : Nat}
theorem ba_is {s : ByteArray} (h : s ≠ ByteArray.empty) : (s.toList == []) = false := by
  have := ba_eq h
  rw [ByteArray.toList_eq ByteArray.empty] at this
  exact this
set_option maxRecDepth 20000 in
set_option maxHeartbeats 8000000 in
theorem rlinked_c (l : Names) (x : Lnk) (hl : l.length ≤ 1048575) (hg : (lv, l) ∈ g) (h : Sat w0 w (bagR g :: F)) :
    Calls Tryz.prog 142 #[lv, .agg #[.string x.fr, .string x.to, .int .i64 x.f]] w (Rtn fun v w' => ∃ ov g', v = ov ∧ (ov, x.on l) ∈ g' ∧ (∀ q ∈ g, q ∈ g') ∧ Sat w0 w' (bagR g' :: F)) := by
  have Hg := Lib.hid hg; have Hl := Lib.hid hl
  obtain ⟨fr, to, f⟩ := x
  have Hon := Lib.hid (show (Lnk.mk fr to f).on l = if to = ByteArray.empty then (if fr = ByteArray.empty then l else ndel l fr) else nput (if fr = ByteArray.empty then l else ndel l fr) to f from rfl)
  clear hg hl
  go_enter Tryz.func142, Tryz.ntmps142
  by_cases hf : fr = ByteArray.empty
  · rw [if_pos hf] at Hon
    have e1 := ba_nil hf
    clear hf
    by_cases ht : to = ByteArray.empty
    · rw [if_pos ht] at Hon
      have e2 := ba_nil ht
      clear ht
      go_wp2_with (first | ((with_reducible apply at_box); refine ⟨?_⟩; refine wl_box (by assumption) evD evD ?_; intro bB wB hB) | ((with_reducible apply at_load); refine ⟨?_⟩; refine wl_load1 (by assumption) (by rfl) pkD (Nat.le_of_ble_eq_true (by rfl)) evD (by kernel_rfl) ?_))
      go_ret
      exact ⟨_, rfl, _, g, rfl, by rw [Hon.out]; exact Hg.out, fun q hq => hq, hB.drop⟩
    · rw [if_neg ht] at Hon
      have e2 := ba_is ht
      clear ht
      go_wp2_with (first | ((with_reducible apply at_box); refine ⟨?_⟩; refine wl_box (by assumption) evD evD ?_; intro bB wB hB) | ((with_reducible apply at_load); refine ⟨?_⟩; refine wl_load1 (by assumption) (by rfl) pkD (Nat.le_of_ble_eq_true (by rfl)) evD (by kernel_rfl) ?_))
      refine (rwith_c l to f (Nat.le_succ_of_le Hl.out) (Ro.of_pick (bag_ro Hg.out) pick1) hB).mono ?_
      rintro ee w1 ⟨v, rfl, v1, rfl, hS1⟩
      clear h hB
      go_wp2
      go_ret
      exact ⟨_, rfl, _, _, rfl, by rw [Hon.out]; exact .head _, fun q hq => .tail _ hq, bag_add (hS1.sub (sub_take pick0 (sub_drop (sub_take pick0 sub_refl))))⟩
  · rw [if_neg hf] at Hon
    have e1 := ba_is hf
    clear hf
    by_cases ht : to = ByteArray.empty
    · rw [if_pos ht] at Hon
      have e2 := ba_nil ht
      clear ht
      go_wp2_with (first | ((with_reducible apply at_box); refine ⟨?_⟩; refine wl_box (by assumption) evD evD ?_; intro bB wB hB) | ((with_reducible apply at_load); refine ⟨?_⟩; refine wl_load1 (by assumption) (by rfl) pkD (Nat.le_of_ble_eq_true (by rfl)) evD (by kernel_rfl) ?_))
      refine (rwithout_c l fr (Nat.le_succ_of_le Hl.out) (Ro.of_pick (bag_ro Hg.out) pick1) hB).mono ?_
      rintro ee w1 ⟨v, rfl, v1, rfl, hS1⟩
      clear h hB
      go_wp2_with ((with_reducible apply at_load); refine ⟨?_⟩; refine wl_load1 (by assumption) (by rfl) pkD (Nat.le_of_ble_eq_true (by rfl)) evD (by kernel_rfl) ?_)
      go_ret
      exact ⟨_, rfl, _, _, rfl, by rw [Hon.out]; exact .head _, fun q hq => .tail _ hq, bag_add (hS1.sub (sub_take pick0 (sub_drop (sub_take pick0 sub_refl))))⟩
    · rw [if_neg ht] at Hon
      have e2 := ba_is ht
      clear ht
      go_wp2_with (first | ((with_reducible apply at_box); refine ⟨?_⟩; refine wl_box (by assumption) evD evD ?_; intro bB wB hB) | ((with_reducible apply at_load); refine ⟨?_⟩; refine wl_load1 (by assumption) (by rfl) pkD (Nat.le_of_ble_eq_true (by rfl)) evD (by kernel_rfl) ?_))
      refine (rwithout_c l fr (Nat.le_succ_of_le Hl.out) (Ro.of_pick (bag_ro Hg.out) pick1) hB).mono ?_
      rintro ee w1 ⟨v, rfl, v1, rfl, hS1⟩
      clear h hB
      have hz : (ndel l fr).length ≤ 1048576 := Nat.le_trans (ndel_len l fr) (Nat.le_succ_of_le Hl.out)
      have Hz := Lib.hid hz
      clear hz
      go_wp2_with ((with_reducible apply at_load); refine ⟨?_⟩; refine wl_load1 (by assumption) (by rfl) pkD (Nat.le_of_ble_eq_true (by rfl)) evD (by kernel_rfl) ?_)
      refine (rwith_c (ndel l fr) to f Hz.out (fun w hw => Sat.rd (hw.pick pick0)) hS1).mono ?_
      rintro ee w2 ⟨v, rfl, v2, rfl, hS2⟩
      clear hS1
      go_wp2
      go_ret
      exact ⟨_, rfl, _, _, rfl, by rw [Hon.out]; exact .head _, fun q hq => .tail _ hq, bag_add (hS2.sub (sub_take pick0 (sub_drop (sub_drop (sub_take pick0 sub_refl)))))⟩
set_option maxHeartbeats 1000000 in
theorem rstep_c (h : Sat w0 w (dskPt d D fsv fv nv wv :: F)) (hl : D.left ≤ 9223372036854775807) :
    Calls Tryz.prog 85 #[ptr d] w (Rtn fun v w' => v = errno (bif D.step.2 then 0 else 12) ∧ Sat w0 w' (dskPt d D.step.1 fsv fv nv wv :: F)) := by
  obtain ⟨room, fast, now, files, waits, armed, left, off⟩ := D
  have c5 := h.cellAt 5 _ rfl
  have c6 := h.cellAt 6 _ rfl
  have f7 := h.freeAt 7
  have c7 := h.cellAt 7 _ rfl
  have f6 := h.freeAt 6
  simp only at hl
  go_enter Tryz.func85, Tryz.ntmps85
  cases armed
  · go_wp2
    go_ret
    exact ⟨_, rfl, by simp [Med.step], by simpa [Med.step] using h⟩
  · by_cases hz : left = 0
    · subst hz
      have c6' : w.cell? ⟨d, 6, none⟩ = some (.int .i64 0) := c6
      have c5' : w.cell? ⟨d, 5, none⟩ = some (.bool true) := c5
      clear c6 c5
      go_wp2
      go_ret
      exact ⟨_, rfl, rfl, h.set 7 (.bool true)⟩
    · have hz' : ((left : Int) == 0) = false := by simpa using hz
      have e1 : ((left - 1 : Nat) : Int) = (left : Int) - 1 := by omega
      go_wp2
      go_ret
      refine ⟨_, rfl, by simp [Med.step, hz], ?_⟩
      have := h.set 6 (.int .i64 ((left : Int) - 1))
      simp only [Med.step, hz, if_true, if_false, dskPt, e1]
      exact this
set_option maxRecDepth 20000 in
set_option maxHeartbeats 2000000 in
theorem rnum_c (l : List Int) (a : Option Addr) (n c : Nat) (i hi : Nat) (hr : rdsl 1 (.slice a n c) (ints l) w) :
    Calls Tryz.prog 94 #[.slice a n c, .int .i64 i, .int .i64 hi] w (Rtn fun v w' => v = .int .i64 (clampN (num l i) hi) ∧ w = w') := by
  obtain ⟨_, _, _, he, hl, _⟩ := id hr
  cases he
  have hil : (ints l).length = l.length := List.length_map ..
  rw [hil, Nat.mul_one] at hl
  subst hl
  by_cases hlt : i < l.length
  · have hx : (ints l)[i]? = some (.int .i64 (l[i]'hlt)) := by unfold ints; simp [hlt]
    obtain ⟨bk, off, rfl, c1⟩ := rdsl_cell hr hx
    have hnum : num l i = l[i]'hlt := by unfold num; simp [hlt]
    have Hn := Lib.hid (show within (l[i]'hlt) 0 hi = (clampN (num l i) hi : Nat) by
      rw [hnum]
      unfold within clampN
      split
      · omega
      · split <;> omega)
    have hd : ¬ l.length ≤ i := by omega
    have hic : (i : Int) < (l.length : Int) := by omega
    generalize l[i]'hlt = z at *
    clear hx hnum hlt hr
    go_enter Tryz.func94, Tryz.ntmps94
    go_wp2_with fail
    refine (within_c z 0 hi w).mono ?_
    rintro ee w1 ⟨v, rfl, rfl, rfl⟩
    go_wp2
    go_ret
    exact ⟨_, rfl, by rw [← Hn.out]; rfl, rfl⟩
  · have hd : l.length ≤ i := by omega
    have hnum : num l i = 0 := by unfold num; simp [hd]
    have Hn := Lib.hid (show clampN (num l i) hi = 0 by rw [hnum]; simp [clampN])
    clear hnum hlt hr
    go_enter Tryz.func94, Tryz.ntmps94
    go_wp2
    go_ret
    exact ⟨_, rfl, by rw [Hn.out]; rfl, rfl⟩
set_option maxRecDepth 20000 in
set_option maxHeartbeats 2000000 in
theorem rhere_c (i : Nat) (hi : i < D.files.length) (hin : DskIn D fv nv xs g) (hlen : (D.file i).now.length ≤ 1099511627776) (h : Sat w0 w (dskPt d D fsv fv nv wv :: osl 164 3 fsv (rfsL xs) :: stars (xs.map rfR) :: F)) :
    Calls Tryz.prog 86 #[ptr d, .int .i64 i] w (Rtn fun v w' => Sat w0 w' (bsl v (D.file i).now :: dskPt d D fsv fv nv wv :: osl 164 3 fsv (rfsL xs) :: stars (xs.map rfR) :: F) ∧ ∃ a n c, v = .slice a n c) := by
  obtain ⟨x, hx, hxf⟩ := hin.file hi
  have hl : xs.length = D.files.length := by rw [← hin.files, List.length_map]
  obtain ⟨h0, h1, h2⟩ := rfsL_at hx
  have hrd := Sat.rd (h.pick pick1)
  obtain ⟨fa, fn, fc, rfl, hfn, _⟩ := id hrd
  rw [rfsL_len] at hfn
  obtain rfl : fn = xs.length := by omega
  obtain ⟨bk, off, rfl, hc⟩ := rdsl_cells hrd h0
  have e1 : w.cell? ⟨bk, off + i * 3 + 1, none⟩ = some x.nv := by rw [Nat.add_assoc]; exact hc _ _ h1
  have e0 : w.cell? ⟨d, 1, none⟩ = some (.slice (some ⟨bk, off, none⟩) xs.length fc) := h.cellAt 1 _ rfl
  have c1 : (i : Int) < (xs.length : Int) := by omega
  have hcp := copy_c h (D.file i).now (by rw [← hxf]; exact (file_ro (List.mem_of_getElem? hx)).1 _ (h.pick pick2)) hlen
  generalize x.nv = xn at *
  clear hrd hc h0 h1 h2 hx
  go_enter Tryz.func86, Tryz.ntmps86
  go_wp2_with fail
  refine hcp.mono ?_
  rintro ee w1 ⟨v, rfl, hS, a, n, c, rfl⟩
  go_wp2
  go_ret
  exact ⟨_, rfl, hS, _, _, _, rfl⟩
end
section
variable {w0 w : World} {F R : List HProp} {d : Nat} {D : Med} {fsv fv nv wv v lv : Value} {xs : List RF} {g : Bag} {K : Nat}
set_option maxHeartbeats 4000000 in
theorem rgood_c (s : ByteArray) (w : World) (hs : s.size ≤ 9223372036854775806) :
    Calls Tryz.prog 138 #[.string s] w (Rtn fun v w' => v = .bool (good s) ∧ w = w') := by
  have Hs := Lib.hid hs
  clear hs
  go_enter Tryz.func138, Tryz.ntmps138
  go_wp2_with fail
  go_loopg [3] s.size (fun g iq wr => ∃ k : Nat, g = s.size - k ∧ k ≤ s.size ∧ iq = .int .i64 k ∧ (s.data.toList.take k).all goodC = true ∧ wr = w)
  case atStart => exact ⟨0, rfl, Nat.zero_le _, rfl, by simp, rfl⟩
  case round =>
    obtain ⟨k, rfl, hk, rfl, hall, rfl⟩ := hrel
    have Hall := Lib.hid hall; clear hall
    by_cases hlt : k < s.size
    · have hs := Hs.out
      have hwk : IntKind.i64.wrap ((k : Int) + 1) = (k : Int) + 1 := IntWalk.i64_in _ (by omega)
      have c1 : (k : Int) < (s.size : Int) := by omega
      have Hc := Lib.hid (goodC_iff s[k])
      have Hn := Lib.hid (all_take_succ s.data.toList k (by simpa using hlt))
      have Hbad := Lib.hid (show goodC s[k] = false → good s = false by
        intro hgc
        unfold good
        have : s.data.toList.all goodC = false := by
          rw [List.all_eq_false]
          exact ⟨s[k], by exact List.getElem_mem (by simpa using hlt), by simpa using hgc⟩
        rw [this]; simp)
      have Hgd := Lib.hid (show goodC s[k] = true → (s.data.toList.take (k + 1)).all goodC = true by
        intro hgc
        rw [Hn.out, Hall.out]
        exact hgc)
      have Hlt := Lib.hid hlt
      have hcls : (97 ≤ (s[k].toNat : Int) ∧ (s[k].toNat : Int) ≤ 122) ∨ (48 ≤ (s[k].toNat : Int) ∧ (s[k].toNat : Int) ≤ 57) ∨ (s[k].toNat : Int) = 46 ∨ (s[k].toNat : Int) = 45 ∨ ((s[k].toNat : Int) < 48 ∧ (s[k].toNat : Int) ≠ 46 ∧ (s[k].toNat : Int) ≠ 45) ∨ (58 ≤ (s[k].toNat : Int) ∧ (s[k].toNat : Int) ≤ 96) ∨ 123 ≤ (s[k].toNat : Int) := by omega
      rcases hcls with ⟨g1, g2⟩ | ⟨g1, g2⟩ | g1 | g1 | ⟨g1, g2, g3⟩ | ⟨g1, g2⟩ | g1
      · have d1 : decide ((s[k].toNat : Int) < 97) = false := decide_eq_false (by omega)
        have d2 : decide (122 < (s[k].toNat : Int)) = false := decide_eq_false (by omega)
        have Hg2 := Lib.hid (Hgd.out (by rw [Hc.out]; simp; omega))
        go_wp2
        go_roundg (s.size - (k + 1))
        case rel => exact ⟨k + 1, rfl, Nat.succ_le_of_lt Hlt.out, by first | rfl | go_num, Hg2.out, rfl⟩
        case measure => have := Hlt.out; omega
      · have d1 : decide ((s[k].toNat : Int) < 97) = true := decide_eq_true (by omega)
        have d3 : decide ((s[k].toNat : Int) < 48) = false := decide_eq_false (by omega)
        have d4 : decide (57 < (s[k].toNat : Int)) = false := decide_eq_false (by omega)
        have Hg2 := Lib.hid (Hgd.out (by rw [Hc.out]; simp; omega))
        go_wp2
        go_roundg (s.size - (k + 1))
        case rel => exact ⟨k + 1, rfl, Nat.succ_le_of_lt Hlt.out, by first | rfl | go_num, Hg2.out, rfl⟩
        case measure => have := Hlt.out; omega
      · have d1 : decide ((s[k].toNat : Int) < 97) = true := decide_eq_true (by omega)
        have d3 : decide ((s[k].toNat : Int) < 48) = true := decide_eq_true (by omega)
        have d5 : ((s[k].toNat : Int) != 46) = false := by rw [g1]; rfl
        have d5' : ((s[k].toNat : Int) == 46) = true := by rw [g1]; rfl
        have g2 : 46 ≤ (s[k].toNat : Int) ∧ (s[k].toNat : Int) ≤ 46 := by omega
        clear g1
        have Hg2 := Lib.hid (Hgd.out (by rw [Hc.out]; simp; omega))
        go_wp2
        go_roundg (s.size - (k + 1))
        case rel => exact ⟨k + 1, rfl, Nat.succ_le_of_lt Hlt.out, by first | rfl | go_num, Hg2.out, rfl⟩
        case measure => have := Hlt.out; omega
      · have d1 : decide ((s[k].toNat : Int) < 97) = true := decide_eq_true (by omega)
        have d3 : decide ((s[k].toNat : Int) < 48) = true := decide_eq_true (by omega)
        obtain ⟨b5, d5, t5⟩ : ∃ b, ((s[k].toNat : Int) != 46) = b ∧ b = true := ⟨_, rfl, by rw [g1]; rfl⟩
        have d5' : ((s[k].toNat : Int) == 46) = false := by rw [g1]; rfl
        have d6 : ((s[k].toNat : Int) != 45) = false := by rw [g1]; rfl
        have d6' : ((s[k].toNat : Int) == 45) = true := by rw [g1]; rfl
        have g2 : 45 ≤ (s[k].toNat : Int) ∧ (s[k].toNat : Int) ≤ 45 := by omega
        clear g1
        have Hg2 := Lib.hid (Hgd.out (by rw [Hc.out]; simp; omega))
        go_wp2
        · exfalso; simp only [bne_eq_false_iff_eq, bne_iff_ne] at *; omega
        go_roundg (s.size - (k + 1))
        case rel => exact ⟨k + 1, rfl, Nat.succ_le_of_lt Hlt.out, by first | rfl | go_num, Hg2.out, rfl⟩
        case measure => have := Hlt.out; omega
      · have d1 : decide ((s[k].toNat : Int) < 97) = true := decide_eq_true (by omega)
        have d3 : decide ((s[k].toNat : Int) < 48) = true := decide_eq_true (by omega)
        have d5' : ((s[k].toNat : Int) == 46) = false := beq_false_of_ne (by omega)
        have d6' : ((s[k].toNat : Int) == 45) = false := beq_false_of_ne (by omega)
        obtain ⟨b5, d5, t5⟩ : ∃ b, ((s[k].toNat : Int) != 46) = b ∧ b = true := ⟨_, rfl, by rw [bne, d5']; rfl⟩
        obtain ⟨b6, d6, t6⟩ : ∃ b, ((s[k].toNat : Int) != 45) = b ∧ b = true := ⟨_, rfl, by rw [bne, d6']; rfl⟩
        have Hb := Lib.hid (Hbad.out (by rw [Hc.out]; simp; omega))
        go_wp2
        go_ret
        exact ⟨_, rfl, by rw [Hb.out]; rfl, rfl⟩
        all_goals (exfalso; simp only [bne_eq_false_iff_eq] at *; omega)
      · have d1 : decide ((s[k].toNat : Int) < 97) = true := decide_eq_true (by omega)
        have d3 : decide ((s[k].toNat : Int) < 48) = false := decide_eq_false (by omega)
        have d4 : decide (57 < (s[k].toNat : Int)) = true := decide_eq_true (by omega)
        have d5' : ((s[k].toNat : Int) == 46) = false := beq_false_of_ne (by omega)
        have d6' : ((s[k].toNat : Int) == 45) = false := beq_false_of_ne (by omega)
        obtain ⟨b5, d5, t5⟩ : ∃ b, ((s[k].toNat : Int) != 46) = b ∧ b = true := ⟨_, rfl, by rw [bne, d5']; rfl⟩
        obtain ⟨b6, d6, t6⟩ : ∃ b, ((s[k].toNat : Int) != 45) = b ∧ b = true := ⟨_, rfl, by rw [bne, d6']; rfl⟩
        have Hb := Lib.hid (Hbad.out (by rw [Hc.out]; simp; omega))
        go_wp2
        go_ret
        exact ⟨_, rfl, by rw [Hb.out]; rfl, rfl⟩
        all_goals (exfalso; simp only [bne_eq_false_iff_eq] at *; omega)
      · have d1 : decide ((s[k].toNat : Int) < 97) = false := decide_eq_false (by omega)
        have d2 : decide (122 < (s[k].toNat : Int)) = true := decide_eq_true (by omega)
        have d3 : decide ((s[k].toNat : Int) < 48) = false := decide_eq_false (by omega)
        have d4 : decide (57 < (s[k].toNat : Int)) = true := decide_eq_true (by omega)
        have d5' : ((s[k].toNat : Int) == 46) = false := beq_false_of_ne (by omega)
        have d6' : ((s[k].toNat : Int) == 45) = false := beq_false_of_ne (by omega)
        obtain ⟨b5, d5, t5⟩ : ∃ b, ((s[k].toNat : Int) != 46) = b ∧ b = true := ⟨_, rfl, by rw [bne, d5']; rfl⟩
        obtain ⟨b6, d6, t6⟩ : ∃ b, ((s[k].toNat : Int) != 45) = b ∧ b = true := ⟨_, rfl, by rw [bne, d6']; rfl⟩
        have Hb := Lib.hid (Hbad.out (by rw [Hc.out]; simp; omega))
        go_wp2
        go_ret
        exact ⟨_, rfl, by rw [Hb.out]; rfl, rfl⟩
        all_goals (exfalso; simp only [bne_eq_false_iff_eq] at *; omega)
    · obtain rfl : k = s.size := by omega
      have hful : s.data.toList.all goodC = true := by
        have := Hall.out
        rw [List.take_of_length_le (by simp)] at this
        exact this
      have c1 : ¬ (s.size : Int) < (s.size : Int) := by omega
      have Hg := Lib.hid (show good s = (decide (1 ≤ s.size) && decide (s.size ≤ 24)) by unfold good; rw [hful, Bool.and_true])
      clear hlt hful
      by_cases h0 : 0 < s.size
      · have d0 : decide ((0 : Int) < (s.size : Int)) = true := decide_eq_true (by omega)
        by_cases h24 : s.size ≤ 24
        · have d24 : decide ((s.size : Int) ≤ 24) = true := decide_eq_true (by omega)
          have Hf := Lib.hid (Hg.out.trans (show _ = true by rw [decide_eq_true (show 1 ≤ s.size by omega), decide_eq_true h24]; rfl))
          go_wp2
          go_ret
          exact ⟨_, rfl, by rw [Hf.out]; rfl, rfl⟩
        · have d24 : decide ((s.size : Int) ≤ 24) = false := decide_eq_false (by omega)
          have Hf := Lib.hid (Hg.out.trans (show _ = false by rw [decide_eq_false h24, Bool.and_false]))
          go_wp2
          go_ret
          exact ⟨_, rfl, by rw [Hf.out]; rfl, rfl⟩
      · have d0 : decide ((0 : Int) < (s.size : Int)) = false := decide_eq_false (by omega)
        have Hf := Lib.hid (Hg.out.trans (show _ = false by rw [decide_eq_false (show ¬ 1 ≤ s.size by omega), Bool.false_and]))
        go_wp2
        go_ret
        exact ⟨_, rfl, by rw [Hf.out]; rfl, rfl⟩
end
section
variable {P : Program} {w0 w : World} {L L' : List HProp} {b o : Nat} {ops : Array Oper} {a : Act} {Q : Exit → Act → World → Prop} {dst : Option Tmp} {t ty T : TypeId} {pos : String} {after : Array Edge} {x y : Operand} {cs : Array Value} {v : Value} {K : Act → World → Prop} {E : Prop}
theorem eff_store (hs : Sat w0 w L) (hx : a.eval x = .pointer (some ⟨b, o, none⟩)) (hy : a.eval y = v) {cs' : Array Value} (hcs : putsAt cs o v.cells.toList = cs') (u : Upd (pt b (.cells cs T (0,0))) (pt b (.cells cs' T (0,0))) L L') (hfit : o + v.cells.size ≤ cs.size)
    (hi : (P.info? ty).map (·.size) = some v.cells.size) (h1 : v.cells.toList.all (·.oneCell') = true)
    (hK : ∀ w', Sat w0 w' L' → K (a.put dst undef) w') :
    if Region.wanted ⟨dst, .store ty x y, t, pos, after, none⟩ (yielded ops a.tmps) = true then Oper.wp P ⟨dst, .store ty x y, t, pos, after, none⟩ a w K Q else E := by
  subst hcs
  obtain ⟨R', h2, h3⟩ := u
  refine eff_of rfl ?_
  have h := hs.perm h2
  have hth : w.there b o v.cells.size := by
    intro j hj
    refine ⟨?_, h.freeAt _⟩
    rw [h.cellAt (o + j) _ (Array.getElem?_eq_getElem (show o + j < cs.size by omega))]
    rfl
  have hst := run_storeCells_cells (P := P) b o v.cells.toList 0 w (fun j hj => by simpa using (hth j (by simpa using hj)).1) (fun j hj => by simpa using (hth j (by simpa using hj)).2)
    (fun u hu => (List.all_eq_true.1 h1) u hu)
  have hrun : (storeVar ty ⟨b, o, none⟩ v).run P w = .ok () (w.setCells b o v.cells.toList) := by
    cases hq : P.info? ty with
    | none => simp [hq] at hi
    | some i =>
      have hs : v.cells.size = i.size := by simp [hq] at hi; omega
      simp only [Nat.add_zero] at hst
      simp [storeVar, sizeOf, typeInfo, hq, hs, hst]
  unfold Oper.wp execOp
  simp only [hx, hy, Instr.storeAt, Instr.sureAddr, Sem.run_bind, Sem.run_pure, Result.andThen_ok, hrun]
  exact hK _ ((Sat.sets _ _ h).perm h3.symm)
end
section
variable {w0 w : World} {F R : List HProp} {d : Nat} {D : Med} {fsv fv nv wv v lv : Value} {xs : List RF} {g : Bag} {K : Nat}
set_option maxHeartbeats 1000000 in
theorem rnew_c (room : Nat) (hr : room ≤ 16777216) (h : Sat w0 w F) :
    Calls Tryz.prog 14 #[.int .i64 room] w (Rtn fun v w' => ∃ d, v = .tuple #[ptr d, errno 0] ∧ Sat w0 w' (DskRep d (Med.new room) :: F)) := by
  have h2 : decide ((room : Int) < 0) = false := by rw [decide_eq_false_iff_not]; omega
  have h3 : decide (16777216 < (room : Int)) = false := by rw [decide_eq_false_iff_not]; omega
  have hr2 : ¬ 16777216 < room := by omega
  clear hr
  go_enter Tryz.func14, Tryz.ntmps14
  go_wp2_with ((with_reducible apply at_box); refine ⟨?_⟩; refine wl_box (by assumption) evD evD ?_; intro bB wB hB)
  go_ret2
  refine ⟨_, rfl, _, rfl, DskRep.shut (fsv := .slice none 0 0) (fv := .slice none 0 0) (nv := .slice none 0 0) (wv := .slice none 0 0) (xs := []) (g := [(.slice none 0 0, [])]) ⟨rfl, (fun x hx => by cases hx), .head _, .head _⟩ ?_⟩
  have h5 : Sat w0 _ (osl 243 3 (.slice none 0 0) [] :: dskPt _ (Med.new room) (.slice none 0 0) (.slice none 0 0) (.slice none 0 0) (.slice none 0 0) :: F) := Sat.osl_nil.2 hB
  have h6 := Sat.star.2 (Sat.osl_nil (T := 175) (sz := 2) |>.2 (Sat.emp.2 h5))
  have h7 := Sat.osl_nil (T := 164) (sz := 3) |>.2 (Sat.emp.2 h6)
  exact h7.sub (sub_take pick4 (sub_take pick0 (sub_take pick0 (sub_take pick0 (sub_take pick0 sub_refl)))))
theorem list_eq (D : Med) (h : D.off = false) : D.list = D.now.map (·.1) := by unfold Med.list; rw [h]; rfl
theorem strs_snoc (l : List ByteArray) (s : ByteArray) : strs l ++ [.string s] = strs (l ++ [s]) := by unfold strs; rw [List.map_append]; rfl
set_option maxRecDepth 20000 in
set_option maxHeartbeats 4000000 in
theorem rlist_c (hl : D.now.length ≤ 1048576) (h : Sat w0 w (DskRep d D :: F)) :
    Calls Tryz.prog 51 #[ptr d] w (Rtn fun v w' => ∃ ov, v = ov ∧ Sat w0 w' (osl 9 1 ov (strs D.list) :: DskRep d D :: F)) := by
  obtain ⟨fsv, fv, nv, wv, xs, g, hin, hR⟩ := DskRep.open h
  have Hin := Lib.hid hin; have Hl := Lib.hid hl
  have e7 : w.cell? ⟨d, 7, none⟩ = some (.bool D.off) := hR.cellP pick0 7 rfl
  clear h hin hl
  go_enter Tryz.func51, Tryz.ntmps51
  cases ho : D.off with
  | true =>
    have Hll := Lib.hid (show D.list = [] by unfold Med.list; rw [ho]; rfl)
    rw [ho] at e7
    clear ho
    go_wp2
    go_ret
    exact ⟨_, rfl, _, rfl, by rw [Hll.out]; exact Sat.osl_nil.2 (DskRep.shut Hin.out hR)⟩
  | false =>
    have Hll := Lib.hid (list_eq D ho)
    rw [ho] at e7
    clear ho
    have hn := rnames_c hR
    obtain ⟨na, nc, rfl⟩ := nms_sl (bag_ro (w0 := w0) Hin.out.now w (hR.pick pick3))
    go_wp2_with fail
    refine hn.mono ?_
    rintro ee w1 ⟨v, rfl, rfl, rfl⟩
    clear hn e7
    go_wp2_with fail
    go_loopg [3, 5] D.now.length (fun g' ov iq wr => ∃ i : Nat, g' = D.now.length - i ∧ i ≤ D.now.length ∧ iq = .int .i64 i ∧ Sat w0 wr (osl 9 1 ov (strs ((D.now.take i).map (·.1))) :: dskPt d D fsv fv (.slice na D.now.length nc) wv :: osl 164 3 fsv (rfsL xs) :: stars (xs.map rfR) :: bagR g :: osl 243 3 wv (D.waits.flatMap rlkL) :: F))
    case atStart => exact ⟨0, rfl, Nat.zero_le _, rfl, Sat.osl_nil.2 hR⟩
    case round =>
      obtain ⟨i, rfl, hi, rfl, hS⟩ := hrel
      clear hR
      by_cases hlt : i < D.now.length
      · have hl := Hl.out
        have c1 : (i : Int) < (D.now.length : Int) := by omega
        have hwi : IntKind.i64.wrap ((i : Int) + 1) = (i : Int) + 1 := IntWalk.i64_in _ (by omega)
        obtain ⟨p, hp⟩ : ∃ p, D.now[i]? = some p := ⟨_, List.getElem?_eq_getElem hlt⟩
        obtain ⟨bk, off, c, hee, e0, _⟩ := nms_cells (bag_ro (w0 := w0) Hin.out.now wr (hS.pick pick4)) hp
        cases hee
        have Hlt := Lib.hid hlt
        have Hnx := Lib.hid (show (D.now.take (i + 1)).map (·.1) = (D.now.take i).map (·.1) ++ [p.1] by rw [List.take_add_one, hp, List.map_append]; rfl)
        have hlen : (strs ((D.now.take i).map (·.1))).length ≤ 2147483648 := by unfold strs; rw [List.length_map, List.length_map, List.length_take]; omega
        generalize p.1 = ps at *
        clear hlt hp hl
        go_wp2_with (first
          | ((with_reducible apply at_build1); refine ⟨?_⟩; refine wl_build1 (e := 9) (sz := 1) (by' := 16) (by kernel_rfl) hS (by rfl) (cs := #[.string ps]) rfl rfl (Nat.le_of_ble_eq_true (by rfl)) ?_; intro bN wN hN)
          | ((with_reducible apply at_append); refine ⟨?_⟩; refine wl_app 9 1 16 (by kernel_rfl) hN (by rfl) (by rfl) (pick_there pick0) pick0 (by rfl) (Nat.le_refl 1) (by rfl) hlen (by show 1 ≤ 65536; decide) (by decide) rfl ?_; intro bA nA cA wA hA))
        rw [strs_snoc, ← Hnx.out] at hA
        go_roundg (D.now.length - (i + 1))
        case measure => have := Hlt.out; omega
        case rel => exact ⟨i + 1, rfl, Nat.succ_le_of_lt Hlt.out, by first | rfl | go_num, hA⟩
      · obtain rfl : i = D.now.length := by omega
        have c1 : ¬ (D.now.length : Int) < (D.now.length : Int) := by omega
        rw [List.take_length, ← Hll.out] at hS
        clear hlt
        go_wp2
        go_ret
        exact ⟨_, rfl, (DskRep.shut Hin.out (hS.sub (sub_take pick1 (sub_take pick1 (sub_take pick1 (sub_take pick1 (sub_take pick1 (sub_take pick0 sub_refl)))))))).sub (sub_take pick1 (sub_take pick0 sub_refl))⟩
theorem rlks_len (l : List Lnk) : (l.flatMap rlkL).length = 3 * l.length := by
  induction l with
  | nil => rfl
  | cons x l ih => rw [List.flatMap_cons, List.length_append, ih, List.length_cons]; show 3 + 3 * l.length = _; omega
theorem rlks_snoc (l : List Lnk) (x : Lnk) : l.flatMap rlkL ++ rlkL x = (l ++ [x]).flatMap rlkL := by rw [List.flatMap_append]; simp
set_option maxRecDepth 20000 in
set_option maxHeartbeats 8000000 in
theorem rwait_c (x : Lnk) (hl : D.now.length ≤ 1048575) (hw : D.waits.length ≤ 1048576) (h : Sat w0 w (DskRep d D :: F)) :
    Calls Tryz.prog 139 #[ptr d, .agg #[.string x.fr, .string x.to, .int .i64 x.f]] w (Rtn fun _ w' => Sat w0 w' (DskRep d (D.link x) :: F)) := by
  obtain ⟨fsv, fv, nv, wv, xs, g, hin, hR⟩ := DskRep.open h
  have Hin := Lib.hid hin; have Hl := Lib.hid hl
  have hlen : (D.waits.flatMap rlkL).length ≤ 2147483648 := by rw [rlks_len]; omega
  have hsl : ∃ a n c, wv = .slice a n c := by
    obtain ⟨a, n, c, e, _⟩ := Sat.rd (hR.pick pick4)
    exact ⟨a, n, c, e⟩
  obtain ⟨wa, wn, wc, rfl⟩ := hsl
  obtain ⟨na, nc, rfl⟩ := nms_sl (bag_ro (w0 := w0) hin.now w (hR.pick pick3))
  have e4 : w.cell? ⟨d, 4, none⟩ = some (.slice wa wn wc) := hR.cellP pick0 4 rfl
  clear h hin hl hw
  obtain ⟨fr, to, f⟩ := x
  go_enter Tryz.func139, Tryz.ntmps139
  go_wp2_with (first
    | ((with_reducible apply at_box); refine ⟨?_⟩; refine wl_box (by assumption) evD evD ?_; intro bB wB hB)
    | ((with_reducible apply at_load); refine ⟨?_⟩; refine wl_loadA (b := bB) hB (by rfl) pick0 Tryz.underlying243 rfl (by kernel_rfl) ?_)
    | ((with_reducible apply at_load); refine ⟨?_⟩; refine wl_load1 (by assumption) (by rfl) pkD (Nat.le_of_ble_eq_true (by rfl)) evD (by kernel_rfl) ?_)
    | ((with_reducible apply at_build1); refine ⟨?_⟩; refine wl_build1 (e := 243) (sz := 3) (by' := 40) (by kernel_rfl) hB (by rfl) (cs := #[.string fr, .string to, .int .i64 f]) rfl rfl (Nat.le_of_ble_eq_true (by rfl)) ?_; intro bN wN hN)
    | ((with_reducible apply at_append); refine ⟨?_⟩; refine wl_app 243 3 40 (by kernel_rfl) hN (by rfl) (by rfl) (pick_there (pick_there (pick_there (pick_there (pick_there (pick_there pick0)))))) pick0 (by rfl) (Nat.le_refl 1) (by rfl) hlen (by show 3 ≤ 65536; decide) (by decide) rfl ?_; intro bA nA cA wA hA)
    | ((with_reducible apply at_store); refine ⟨?_⟩; refine wl_store (by assumption) (by rfl) evD (by first | (simp only [putsAt, Value.cells]; (try go_frame); first | done | rfl) | rfl) upD (Nat.le_of_ble_eq_true (by rfl)) (by kernel_rfl) (by rfl) ?_; intro wS hS))
  have hS3 : Sat w0 _ (bagR g :: osl 243 3 (.slice (some ⟨bA, 0, none⟩) nA cA) (D.waits.flatMap rlkL ++ [.string fr, .string to, .int .i64 f]) :: pt bB (.cells #[.string fr, .string to, .int .i64 f] 243 (0,0)) :: pt d (.cells #[.int .i64 D.room, fsv, fv, .slice na D.now.length nc, .slice (some ⟨bA, 0, none⟩) nA cA, .bool D.armed, .int .i64 D.left, .bool D.off] 136 (0,0)) :: osl 164 3 fsv (rfsL xs) :: stars (xs.map rfR) :: F) := hS.drew.sel 6 [5, 0, 1, 2, 3, 4] rfl rfl
  have hlk := rlinked_c D.now ⟨fr, to, f⟩ Hl.out Hin.out.now hS3
  refine wpL_begin [6, 7, 8, 9] (fun w' => w'.cell? ⟨d, 3, none⟩ = some (.slice na D.now.length nc) ∧ w'.rangeAt bB 0 [.string fr, .string to, .int .i64 f]) (by kernel_rfl) ?_
  have hG : World.cell? _ ⟨d, 3, none⟩ = some (.slice na D.now.length nc) ∧ World.rangeAt _ bB 0 [.string fr, .string to, .int .i64 f] := ⟨hS3.cellP pick3 3 rfl, fun j u hj => by rw [Nat.zero_add]; exact (hS3.pick pick2).cellAt j u (by simpa using hj)⟩
  refine rp 0 (hy := (yl_move evD)) (h := ?_)
  refine rp 1 (hy := (yl_move evD)) (h := ?_)
  refine rp 2 (hy := (yl_nil evD)) (h := ?_)
  refine rp 3 (hy := (yl_field evD rnD)) (h := ?_)
  refine rg_take 4 evD (by kernel_rfl) (by intro _ _ _ h; exact h) (tk_load evD (by kernel_rfl) (fun w hw => hw.1)) (by assumption) (by go_frame; first | done | rfl) ?_
  refine rg_take 5 evD (by kernel_rfl) (by intro _ _ _ h; exact h) (tg_loadN (P := Tryz.prog) [.string fr, .string to, .int .i64 f] (by rfl) evD rfl rfl (by kernel_rfl) (fun w hw => hw.2)) (by assumption) (by go_frame; first | done | rfl) ?_
  clear hG
  refine rg_eff 6 evD (by kernel_rfl) (fun K hK => ?_)
  refine eff_call2 (by kernel_rfl) evD evD ?_
  refine hlk.mono ?_
  clear hlk
  rintro e w4 ⟨v, rfl, ov, g', rfl, hon, hsub, hS4⟩
  obtain ⟨oa, oc, rfl⟩ := nms_sl (bag_ro (w0 := w0) hon w4 (hS4.pick pick0))
  refine hK _ _ (.inl rfl) ?_
  clear hK
  refine rp 7 (hy := (yl_nil evD)) (h := ?_)
  refine rp 8 (hy := (yl_field evD rnD)) (h := ?_)
  refine rg_eff 9 evD (by kernel_rfl) (fun K hK => ?_)
  refine eff_store hS4 evD evD (by first | (simp only [putsAt, Value.cells]; (try go_frame); first | done | rfl) | rfl) upD (Nat.le_of_ble_eq_true (by rfl)) (by kernel_rfl) (by rfl) ?_
  intro w5 hS5
  refine hK _ _ (.inl rfl) ?_
  refine wpL_done (by kernel_rfl) ?_
  clear hS4 hS3 hS hA hN hB hR
  try go_frame
  go_wp2
  refine bodyPost_ret (results_none rfl _ _ _) rfl ?_
  refine ⟨_, rfl, DskRep.shut (D := D.link ⟨fr, to, f⟩) (fv := fv) (fsv := fsv) (wv := .slice (some ⟨bA, 0, none⟩) nA cA) ⟨Hin.out.files, Hin.out.ok, hsub _ Hin.out.fast, hon⟩ ?_⟩
  have e : D.waits.flatMap rlkL ++ [.string fr, .string to, .int .i64 f] = (D.link ⟨fr, to, f⟩).waits.flatMap rlkL := rlks_snoc D.waits ⟨fr, to, f⟩
  rw [e] at hS5
  exact hS5.sub (sub_take pick3 (sub_take pick3 (sub_take pick3 (sub_take pick0 (sub_take pick0 (sub_drop sub_refl))))))
end
section
variable {w0 w : World} {F R : List HProp} {d : Nat} {D : Med} {fsv fv nv wv v lv : Value} {xs : List RF} {g : Bag} {K : Nat}
set_option maxRecDepth 20000 in
set_option maxHeartbeats 2000000 in
theorem rarm_c (n : Int) (h : Sat w0 w (DskRep d D :: F)) :
    Calls Tryz.prog 28 #[ptr d, .int .i64 n] w (Rtn fun v w' => v = errno (D.arm n).2 ∧ Sat w0 w' (DskRep d (D.arm n).1 :: F)) := by
  obtain ⟨fsv, fv, nv, wv, xs, g, hin, hR⟩ := DskRep.open h
  have Hin := Lib.hid hin
  have e7 : w.cell? ⟨d, 7, none⟩ = some (.bool D.off) := hR.cellP pick0 7 rfl
  clear h hin
  cases ho : D.off with
  | true =>
    have Ha := Lib.hid (show D.arm n = (D, 12) by unfold Med.arm; rw [ho]; rfl)
    rw [ho] at e7
    clear ho
    go_enter Tryz.func28, Tryz.ntmps28
    go_wp2
    go_ret
    exact ⟨_, rfl, by rw [Ha.out]; rfl, by rw [Ha.out]; exact DskRep.shut Hin.out hR⟩
  | false =>
    by_cases hn : n < 0
    · have Ha := Lib.hid (show D.arm n = (D, 2) by unfold Med.arm; rw [ho, if_neg (by decide), if_pos hn])
      rw [ho] at e7
      clear ho
      go_enter Tryz.func28, Tryz.ntmps28
      go_wp2
      go_ret
      exact ⟨_, rfl, by rw [Ha.out]; rfl, by rw [Ha.out]; exact DskRep.shut Hin.out hR⟩
    · obtain ⟨k, rfl⟩ : ∃ k : Nat, n = k := ⟨n.toNat, by omega⟩
      have Ha := Lib.hid (show D.arm k = ({ D with armed := true, left := k }, 0) by unfold Med.arm; rw [ho, if_neg (by decide), if_neg hn]; rfl)
      have c1 : decide ((k : Int) < 0) = false := decide_eq_false hn
      have c2 : ¬ (k : Int) < 0 := hn
      rw [ho] at e7
      clear ho hn
      go_enter Tryz.func28, Tryz.ntmps28
      go_wp2_with ((with_reducible apply at_store); refine ⟨?_⟩; refine wl_store (by assumption) (by rfl) evD (by first | (simp only [putsAt, Value.cells]; (try go_frame); first | done | rfl) | rfl) upD (Nat.le_of_ble_eq_true (by rfl)) (by kernel_rfl) (by rfl) ?_; intro wS hS)
      go_ret
      exact ⟨_, rfl, by rw [Ha.out]; rfl, by rw [Ha.out]; exact DskRep.shut (D := { D with armed := true, left := k }) ⟨Hin.out.files, Hin.out.ok, Hin.out.fast, Hin.out.now⟩ hS⟩
set_option maxRecDepth 20000 in
set_option maxHeartbeats 4000000 in
theorem rall_c (s : ByteArray) (hl : D.now.length ≤ 1048576) (hf : ∀ i, nget D.now s = some i → i < D.files.length ∧ (D.file i).now.length ≤ 1099511627776) (h : Sat w0 w (DskRep d D :: F)) :
    Calls Tryz.prog 67 #[ptr d, .string s] w (Rtn fun v w' => ∃ ov, v = .tuple #[ov, errno (D.all s).2] ∧ Sat w0 w' (bsl ov (D.all s).1 :: DskRep d D :: F)) := by
  have hfd := rfind_c s hl h
  obtain ⟨fsv, fv, nv, wv, xs, g, hin, hR⟩ := DskRep.open h
  have Hin := Lib.hid hin; have Hf := Lib.hid hf
  have e7 : w.cell? ⟨d, 7, none⟩ = some (.bool D.off) := hR.cellP pick0 7 rfl
  clear h hin hf hl
  cases ho : D.off with
  | true =>
    have Ha := Lib.hid (show D.all s = ([], 12) by unfold Med.all; rw [ho]; rfl)
    rw [ho] at e7
    clear ho hfd
    go_enter Tryz.func67, Tryz.ntmps67
    go_wp2
    go_ret2
    refine ⟨_, rfl, .slice none 0 0, ?_, by rw [Ha.out]; exact Sat.osl_nil.2 (DskRep.shut Hin.out hR)⟩
    rw [Ha.out]; rfl
  | false =>
    cases hg : nget D.now s with
    | none =>
      have Ha := Lib.hid (show D.all s = ([], 9) by unfold Med.all; rw [ho, if_neg (by decide), hg])
      have Hw := Lib.hid (show D.which s = -1 by unfold Med.which; rw [hg])
      rw [Hw.out] at hfd
      rw [ho] at e7
      clear ho
      go_enter Tryz.func67, Tryz.ntmps67
      go_wp2_with fail
      refine hfd.mono ?_
      rintro ee w1 ⟨v, rfl, rfl, rfl⟩
      clear hfd
      go_wp2
      go_ret2
      refine ⟨_, rfl, .slice none 0 0, ?_, by rw [Ha.out]; exact Sat.osl_nil.2 (DskRep.shut Hin.out hR)⟩
      rw [Ha.out]; rfl
    | some i =>
      have Ha := Lib.hid (show D.all s = ((D.file i).now, 0) by unfold Med.all; rw [ho, if_neg (by decide), hg])
      have hw : D.which s = (i : Int) := by unfold Med.which; rw [hg]
      rw [hw] at hfd
      rw [ho] at e7
      have hh := rhere_c i (Hf.out i hg).1 Hin.out (Hf.out i hg).2 hR
      have c1 : decide ((i : Int) < 0) = false := by rw [decide_eq_false_iff_not]; omega
      have c2 : ¬ (i : Int) < 0 := by omega
      clear ho hw hg
      go_enter Tryz.func67, Tryz.ntmps67
      go_wp2_with fail
      refine hfd.mono ?_
      rintro ee w1 ⟨v, rfl, rfl, rfl⟩
      clear hfd
      go_wp2_with fail
      refine hh.mono ?_
      clear hh
      rintro ee w2 ⟨v, rfl, hS, a, n, c, rfl⟩
      clear e7 hR
      go_wp2
      go_ret2
      refine ⟨_, rfl, .slice a n c, ?_, ?_⟩
      · rw [Ha.out]; rfl
      · rw [Ha.out]; exact (DskRep.shut Hin.out (hS.sub (sub_take pick1 (sub_take pick1 (sub_take pick1 (sub_take pick1 (sub_take pick1 (sub_take pick0 sub_refl)))))))).sub (sub_take pick1 (sub_take pick0 sub_refl))
end
def usedOf (D : Med) (l : Names) : Nat := (l.map fun p => (D.file p.2).now.length).sum
theorem usedOf_snoc (D : Med) (l : Names) (p : ByteArray × Nat) : usedOf D (l ++ [p]) = usedOf D l + (D.file p.2).now.length := by unfold usedOf; simp
theorem usedOf_take (D : Med) {i : Nat} {p : ByteArray × Nat} (h : D.now[i]? = some p) : usedOf D (D.now.take (i + 1)) = usedOf D (D.now.take i) + (D.file p.2).now.length := by
  rw [List.take_add_one, h]; exact usedOf_snoc D _ p
theorem usedOf_le (D : Med) (i : Nat) : usedOf D (D.now.take i) ≤ D.used := by
  have e : D.used = usedOf D (D.now.take i ++ D.now.drop i) := by rw [List.take_append_drop]; rfl
  rw [e]; unfold usedOf; rw [List.map_append, List.sum_append]; omega
theorem last_succ (D : Med) {i : Nat} {x : Lnk} (h : D.waits[i]? = some x) : D.lastNames (i + 1) = x.on (D.lastNames i) := by
  unfold Med.lastNames; rw [List.take_add_one, h, List.foldl_append]; rfl
theorem rlks_at {l : List Lnk} {i : Nat} {x : Lnk} (h : l[i]? = some x) : (l.flatMap rlkL)[i * 3]? = some (.string x.fr) ∧ (l.flatMap rlkL)[i * 3 + 1]? = some (.string x.to) ∧ (l.flatMap rlkL)[i * 3 + 2]? = some (.int .i64 x.f) := by
  induction l generalizing i with
  | nil => simp at h
  | cons a l ih =>
    cases i with
    | zero =>
      obtain rfl : a = x := by simpa using h
      exact ⟨rfl, rfl, rfl⟩
    | succ i =>
      have e1 : (a :: l).flatMap rlkL = .string a.fr :: .string a.to :: .int .i64 a.f :: l.flatMap rlkL := rfl
      rw [e1, show (i + 1) * 3 = i * 3 + 1 + 1 + 1 by omega]
      exact ih (by simpa using h)
section
variable {w0 w : World} {F R : List HProp} {d : Nat} {D : Med} {fsv fv nv wv v lv : Value} {xs : List RF} {g : Bag} {K : Nat}
set_option maxRecDepth 20000 in
set_option maxHeartbeats 4000000 in
theorem rused_c (hl : D.now.length ≤ 1048576) (hu : D.used ≤ 1099511627776) (hv : ∀ p ∈ D.now, p.2 < D.files.length) (h : Sat w0 w (DskRep d D :: F)) :
    Calls Tryz.prog 131 #[ptr d] w (Rtn fun v w' => v = .int .i64 D.used ∧ Sat w0 w' (DskRep d D :: F)) := by
  obtain ⟨fsv, fv, nv, wv, xs, g, hin, hR⟩ := DskRep.open h
  have Hin := Lib.hid hin; have Hl := Lib.hid hl; have Hu := Lib.hid hu; have Hv := Lib.hid hv
  have Hlx := Lib.hid (show xs.length = D.files.length by rw [← hin.files, List.length_map])
  have hn := rnames_c hR
  obtain ⟨na, nc, rfl⟩ := nms_sl (bag_ro (w0 := w0) hin.now w (hR.pick pick3))
  obtain ⟨fa, fn, fc, rfl, hfn, _⟩ := Sat.rd (hR.pick pick1)
  rw [rfsL_len] at hfn
  obtain rfl : fn = xs.length := by omega
  clear h hin hl hu hv hfn
  go_enter Tryz.func131, Tryz.ntmps131
  go_wp2_with fail
  refine hn.mono ?_
  rintro ee w1 ⟨v, rfl, rfl, rfl⟩
  clear hn
  go_wp2_with fail
  go_loopg [4, 5] D.now.length (fun g' nq iq wr => ∃ i : Nat, g' = D.now.length - i ∧ i ≤ D.now.length ∧ nq = .int .i64 (usedOf D (D.now.take i) : Nat) ∧ iq = .int .i64 i ∧ Sat w0 wr (dskPt d D (.slice fa xs.length fc) fv (.slice na D.now.length nc) wv :: osl 164 3 (.slice fa xs.length fc) (rfsL xs) :: stars (xs.map rfR) :: bagR g :: osl 243 3 wv (D.waits.flatMap rlkL) :: F))
  case atStart => exact ⟨0, rfl, Nat.zero_le _, rfl, rfl, hR⟩
  case round =>
    obtain ⟨i, rfl, hi, rfl, rfl, hS⟩ := hrel
    clear hR
    by_cases hlt : i < D.now.length
    · have hl := Hl.out
      have c1 : (i : Int) < (D.now.length : Int) := by omega
      have hwi : IntKind.i64.wrap ((i : Int) + 1) = (i : Int) + 1 := IntWalk.i64_in _ (by omega)
      obtain ⟨p, hp⟩ : ∃ p, D.now[i]? = some p := ⟨_, List.getElem?_eq_getElem hlt⟩
      have hS2 := hS.drew
      obtain ⟨bk, off, c, hee, _, e1⟩ := nms_cells (bag_ro (w0 := w0) Hin.out.now _ (hS2.pick pick3)) hp
      cases hee
      have hpf := Hv.out p (List.mem_of_getElem? hp)
      obtain ⟨x, hx, hxf⟩ := Hin.out.file hpf
      have hlx := Hlx.out
      obtain ⟨_, h1, _⟩ := rfsL_at hx
      obtain ⟨bk2, off2, hfe, hc⟩ := rdsl_cells (Sat.rd (hS2.pick pick1)) h1
      subst hfe
      have e2 : (World.drew wr).cell? ⟨bk2, off2 + p.2 * 3 + 1, none⟩ = some x.nv := by rw [Nat.add_assoc]; exact hc _ _ h1
      obtain ⟨xa, xn, xc, hxe, hxl, _⟩ := (file_ro (w0 := w0) (List.mem_of_getElem? hx)).1 _ (hS2.pick pick2)
      rw [hxe] at e2
      have hxn : xn = (D.file p.2).now.length := by rw [← hxf]; unfold bys at hxl; rw [List.length_map] at hxl; omega
      subst hxn
      have e0 : (World.drew wr).cell? ⟨d, 1, none⟩ = some (.slice (some ⟨bk2, off2, none⟩) xs.length fc) := hS2.cellP pick0 1 rfl
      have c2 : (p.2 : Int) < (xs.length : Int) := by omega
      have Hus := Lib.hid (usedOf_take D hp)
      have hle := usedOf_le D (i + 1)
      rw [Hus.out] at hle
      have hu := Hu.out
      have hw2 : IntKind.i64.wrap ((usedOf D (D.now.take i) : Int) + ((D.file p.2).now.length : Int)) = (usedOf D (D.now.take i) : Int) + ((D.file p.2).now.length : Int) := IntWalk.i64_in _ (by omega)
      have Hlt := Lib.hid hlt
      have Hcast := Lib.hid (show ((usedOf D (D.now.take (i + 1)) : Nat) : Int) = (usedOf D (D.now.take i) : Int) + ((D.file p.2).now.length : Int) by rw [Hus.out]; omega)
      clear hlt hp hl hle hu Hus hx hxf hxe hxl hc h1 hpf hlx hS
      generalize usedOf D (D.now.take i) = U at *
      generalize (D.file p.2).now.length = V at *
      generalize p.2 = f at *
      go_wp2_with fail
      refine wpL_begin [13, 14, 15] (fun w' => w'.cell? ⟨d, 1, none⟩ = some (.slice (some ⟨bk2, off2, none⟩) xs.length fc) ∧ w'.cell? ⟨bk, off + i * 2 + 1, none⟩ = some (.int .i64 f) ∧ w'.cell? ⟨bk2, off2 + f * 3 + 1, none⟩ = some (.slice xa V xc)) (by kernel_rfl) ?_
      have hG := And.intro e0 (And.intro e1 e2)
      refine rp 0 (hy := (yl_move evD)) (h := ?_)
      refine rp 1 (hy := (yl_move evD)) (h := ?_)
      refine rp 2 (hy := (yl_nil evD)) (h := ?_)
      refine rp 3 (hy := (yl_field evD rnD)) (h := ?_)
      refine rt 4 (h := ?_)
      refine rp 5 (hy := (yl_move evD)) (h := ?_)
      refine rp 6 (hy := (yl_move evD)) (h := ?_)
      refine rp 7 (hy := (yl_index evD evD rnD)) (h := ?_)
      refine rp 8 (hy := (yl_field evD rnD)) (h := ?_)
      refine rt 9 (h := ?_)
      refine rp 10 (hy := (yl_index evD evD rnD)) (h := ?_)
      refine rp 11 (hy := (yl_field evD rnD)) (h := ?_)
      refine rt 12 (h := ?_)
      refine rp 13 (hy := (yl_len evD rnD)) (h := ?_)
      refine rp 14 (hy := (yl_bin evD evD rnD)) (h := ?_)
      refine rp 15 (hy := (yl_assign evD)) (h := ?_)
      refine wpL_done (by kernel_rfl) ?_
      clear hG
      try simp only [List.getElem_toArray, List.getElem_cons_succ, List.getElem_cons_zero]
      try go_frame
      go_wp2
      go_roundg (D.now.length - (i + 1))
      case measure => have := Hlt.out; omega
      case rel => exact ⟨i + 1, rfl, Nat.succ_le_of_lt Hlt.out, by rw [Hcast.out], by first | rfl | go_num, hS2⟩
    · obtain rfl : i = D.now.length := by omega
      have c1 : ¬ (D.now.length : Int) < (D.now.length : Int) := by omega
      rw [List.take_length]
      clear hlt
      go_wp2
      go_ret
      exact ⟨_, rfl, rfl, DskRep.shut Hin.out hS⟩
set_option maxRecDepth 20000 in
set_option maxHeartbeats 4000000 in
theorem rnamesn_c (n : Nat) (hn : n ≤ D.waits.length) (hw : D.waits.length ≤ 1048576) (hl : ∀ k, k ≤ n → (D.lastNames k).length ≤ 1048575) (hf : (fv, D.fast) ∈ g)
    (h : Sat w0 w (dskPt d D fsv fv nv wv :: osl 243 3 wv (D.waits.flatMap rlkL) :: bagR g :: F)) :
    Calls Tryz.prog 93 #[ptr d, .int .i64 n] w (Rtn fun v w' => ∃ ov g', v = ov ∧ (ov, D.lastNames n) ∈ g' ∧ (∀ q ∈ g, q ∈ g') ∧ Sat w0 w' (dskPt d D fsv fv nv wv :: osl 243 3 wv (D.waits.flatMap rlkL) :: bagR g' :: F)) := by
  obtain ⟨fa, fc, rfl⟩ := nms_sl (bag_ro (w0 := w0) hf w (h.pick pick2))
  obtain ⟨wa, wn, wc, rfl, hwn, _⟩ := Sat.rd (h.pick pick1)
  rw [rlks_len] at hwn
  obtain rfl : wn = D.waits.length := by omega
  have Hf := Lib.hid hf; have Hl := Lib.hid hl; have Hn := Lib.hid hn; have Hw := Lib.hid hw
  have e2 : w.cell? ⟨d, 2, none⟩ = some (.slice fa D.fast.length fc) := h.cellP pick0 2 rfl
  clear hf hl hn hw hwn
  go_enter Tryz.func93, Tryz.ntmps93
  go_wp2_with fail
  go_loopg [5, 6] n (fun g' ov iq wr => ∃ (i : Nat) (g2 : Bag), g' = n - i ∧ i ≤ n ∧ iq = .int .i64 i ∧ (ov, D.lastNames i) ∈ g2 ∧ (∀ q ∈ g, q ∈ g2) ∧ Sat w0 wr (dskPt d D fsv (.slice fa D.fast.length fc) nv (.slice wa D.waits.length wc) :: osl 243 3 (.slice wa D.waits.length wc) (D.waits.flatMap rlkL) :: bagR g2 :: F))
  case atStart => exact ⟨0, g, rfl, Nat.zero_le _, rfl, Hf.out, fun _ h => h, h⟩
  case round =>
    obtain ⟨i, g2, rfl, hi, rfl, hmem, hsub, hS⟩ := hrel
    clear h e2
    obtain ⟨oa, oc, rfl⟩ := nms_sl (bag_ro (w0 := w0) hmem _ (hS.pick pick2))
    by_cases hlt : i < n
    · have hnn := Hn.out
      have hww := Hw.out
      have c1 : (i : Int) < (n : Int) := by omega
      have c2 : (i : Int) < (D.waits.length : Int) := by omega
      have hwi : IntKind.i64.wrap ((i : Int) + 1) = (i : Int) + 1 := IntWalk.i64_in _ (by omega)
      obtain ⟨x, hx⟩ : ∃ x, D.waits[i]? = some x := ⟨_, List.getElem?_eq_getElem (show i < D.waits.length by omega)⟩
      obtain ⟨h0, h1, h2⟩ := rlks_at hx
      obtain ⟨bk, off, hwe, hc⟩ := rdsl_cells (Sat.rd (hS.pick pick1)) h0
      subst hwe
      have e4 := (hS.cellP pick0 4 rfl : World.cell? _ ⟨d, 4, none⟩ = some (.slice (some ⟨bk, off, none⟩) D.waits.length wc))
      have Hcells := Lib.hid (show ∀ j v, [Value.string x.fr, .string x.to, .int .i64 x.f][j]? = some v → World.cell? _ ⟨bk, off + i * 3 + j, none⟩ = some v from fun j v hj => by
        match j, hj with
        | 0, hj => cases hj; exact hc _ _ h0
        | 1, hj => cases hj; rw [Nat.add_assoc]; exact hc _ _ h1
        | 2, hj => cases hj; rw [Nat.add_assoc]; exact hc _ _ h2)
      have Hnx := Lib.hid (last_succ D hx)
      have hlk := rlinked_c (D.lastNames i) x (Hl.out i hi) hmem (hS.sub (sub_take pick2 (sub_take pick0 (sub_take pick0 sub_refl))))
      have Hlt := Lib.hid hlt
      clear hlt hx h0 h1 h2 hc hnn hww
      go_wp2_with ((with_reducible apply at_load); refine ⟨?_⟩; refine wl_loadN' (b := bk) (o := off + i * 3) [.string x.fr, .string x.to, .int .i64 x.f] (by rfl) Hcells.out Tryz.underlying243 rfl (by kernel_rfl) ?_)
      refine hlk.mono ?_
      clear hlk
      rintro ee w2 ⟨v, rfl, ov, g3, rfl, hon, hs3, hS3⟩
      rw [← Hnx.out] at hon
      have hsub3 : ∀ q ∈ g, q ∈ g3 := fun q hq => hs3 q (hsub q hq)
      have hS4 := hS3.sub (sub_take pick1 (sub_take pick1 (sub_take pick0 sub_refl)))
      clear hS hmem hsub hs3 e4 hS3 Hcells
      go_wp2
      go_roundg (n - (i + 1))
      case measure => have := Hlt.out; omega
      case rel => exact ⟨i + 1, g3, rfl, Nat.succ_le_of_lt Hlt.out, by first | rfl | go_num, hon, hsub3, hS4⟩
    · obtain rfl : i = n := by omega
      have c1 : ¬ (i : Int) < (i : Int) := by omega
      clear hlt
      go_wp2
      go_ret
      exact ⟨_, rfl, g2, hmem, fun a b hq => hsub _ hq, hS⟩
end
def nilV : Value := .slice none 0 0
def RF.zero : RF := ⟨Fil.new, .slice none 0 0, .slice none 0 0, .slice none 0 0, []⟩
theorem step_files (D : Med) : D.step.1.files = D.files := by unfold Med.step; split; (split <;> rfl); rfl
theorem step_now (D : Med) : D.step.1.now = D.now := by unfold Med.step; split; (split <;> rfl); rfl
theorem step_fast (D : Med) : D.step.1.fast = D.fast := by unfold Med.step; split; (split <;> rfl); rfl
theorem step_waits (D : Med) : D.step.1.waits = D.waits := by unfold Med.step; split; (split <;> rfl); rfl
section
variable {w0 w : World} {F R : List HProp} {d : Nat} {D : Med} {fsv fv nv wv v lv : Value} {xs : List RF} {g : Bag} {K : Nat}
theorem rf_zero (h : Sat w0 w (stars (xs.map rfR) :: F)) : Sat w0 w (stars ((xs ++ [RF.zero]).map rfR) :: F) := by
  rw [List.map_append, stars_append]
  refine Sat.star.2 ?_
  refine Sat.sub (L := stars ([RF.zero].map rfR) :: stars (xs.map rfR) :: F) ?_ (sub_take pick1 (sub_take pick0 sub_refl))
  refine Sat.star.2 ?_
  have h1 : Sat w0 w (stars ([] : List HProp) :: stars (xs.map rfR) :: F) := Sat.emp.2 h
  refine Sat.star.2 ?_
  exact Sat.osl_nil.2 (Sat.star.2 (Sat.osl_nil.2 (Sat.star.2 (Sat.osl_nil.2 (Sat.star.2 (Sat.emp.2 (Sat.emp.2 h1)))))))
theorem app_len {a : Option Addr} {n c : Nat} {ks : List Value} (hA : Sat w0 w (osl 164 3 (.slice a n c) (rfsL xs ++ ks) :: R)) (hk : ks.length = 3) : n = xs.length + 1 := by
  obtain ⟨_, _, _, he, hl, _⟩ := Sat.rd hA
  cases he
  rw [List.length_append, rfsL_len, hk] at hl
  omega
set_option maxRecDepth 20000 in
set_option maxHeartbeats 8000000 in
theorem rcreate_c (s : ByteArray) (hs : s.size ≤ 9223372036854775806) (hl : D.now.length ≤ 1048575) (hw : D.waits.length ≤ 1048576) (hfs : D.files.length ≤ 1048576) (hlf : D.left ≤ 9223372036854775807) (h : Sat w0 w (DskRep d D :: F)) :
    Calls Tryz.prog 108 #[ptr d, .string s] w (Rtn fun v w' => v = errno (D.create s).2 ∧ Sat w0 w' (DskRep d (D.create s).1 :: F)) := by
  have hfd := rfind_c s (by omega) h
  obtain ⟨fsv, fv, nv, wv, xs, g, hin, hR⟩ := DskRep.open h
  have Hin := Lib.hid hin; have Hl := Lib.hid hl; have Hw := Lib.hid hw; have Hfs := Lib.hid hfs; have Hlf := Lib.hid hlf
  have e7 : w.cell? ⟨d, 7, none⟩ = some (.bool D.off) := hR.cellP pick0 7 rfl
  clear h hin hl hw hfs hlf
  have hn := rnames_c hR
  obtain ⟨na, nc, rfl⟩ := nms_sl (bag_ro (w0 := w0) Hin.out.now w (hR.pick pick3))
  have hgd := rgood_c s w hs
  cases ho : D.off with
  | true =>
    have Ha := Lib.hid (show D.create s = (D, 12) by unfold Med.create; rw [ho]; rfl)
    rw [ho] at e7
    clear ho hfd hn hgd
    go_enter Tryz.func108, Tryz.ntmps108
    go_wp2
    go_ret
    exact ⟨_, rfl, by rw [Ha.out]; rfl, by rw [Ha.out]; exact DskRep.shut Hin.out hR⟩
  | false =>
    rw [ho] at e7
    have Ho := Lib.hid (show ¬ (D.off = true) by rw [ho]; decide)
    clear ho
    cases hg : good s with
    | false =>
      have Ha := Lib.hid (show D.create s = (D, 7) by unfold Med.create; rw [if_neg Ho.out, if_pos hg])
      rw [hg] at hgd
      clear hfd hn hg
      go_enter Tryz.func108, Tryz.ntmps108
      go_wp2_with fail
      refine hgd.mono ?_
      rintro ee w1 ⟨v, rfl, rfl, rfl⟩
      clear hgd
      go_wp2
      go_ret
      exact ⟨_, rfl, by rw [Ha.out]; rfl, by rw [Ha.out]; exact DskRep.shut Hin.out hR⟩
    | true =>
      have Hg := Lib.hid (show ¬ (good s = false) by rw [hg]; decide)
      rw [hg] at hgd
      clear hg
      cases hk : nget D.now s with
      | some i =>
        have Ha := Lib.hid (show D.create s = (D, 10) by unfold Med.create; rw [if_neg Ho.out, if_neg Hg.out, hk]; rfl)
        have hwh : D.which s = (i : Int) := by unfold Med.which; rw [hk]
        rw [hwh] at hfd
        have c1 : 0 ≤ (i : Int) := by omega
        clear hn hk hwh
        go_enter Tryz.func108, Tryz.ntmps108
        go_wp2_with fail
        refine hgd.mono ?_
        rintro ee w1 ⟨v, rfl, rfl, rfl⟩
        clear hgd
        go_wp2_with fail
        refine hfd.mono ?_
        rintro ee w1 ⟨v, rfl, rfl, rfl⟩
        clear hfd
        go_wp2
        go_ret
        exact ⟨_, rfl, by rw [Ha.out]; rfl, by rw [Ha.out]; exact DskRep.shut Hin.out hR⟩
      | none =>
        have hwh : D.which s = -1 := by unfold Med.which; rw [hk]
        rw [hwh] at hfd
        have Hk := Lib.hid (show ¬ ((nget D.now s).isSome = true) by rw [hk]; decide)
        clear hk hwh
        by_cases hb : 500 ≤ D.now.length
        · have Ha := Lib.hid (show D.create s = (D, 16) by unfold Med.create; rw [if_neg Ho.out, if_neg Hg.out, if_neg Hk.out, if_pos hb])
          have c1 : 500 ≤ (D.now.length : Int) := by omega
          clear hb
          go_enter Tryz.func108, Tryz.ntmps108
          go_wp2_with fail
          refine hgd.mono ?_
          rintro ee w1 ⟨v, rfl, rfl, rfl⟩
          clear hgd
          go_wp2_with fail
          refine hfd.mono ?_
          rintro ee w1 ⟨v, rfl, rfl, rfl⟩
          clear hfd
          go_wp2_with fail
          refine hn.mono ?_
          rintro ee w1 ⟨v, rfl, rfl, rfl⟩
          clear hn
          go_wp2
          go_ret
          exact ⟨_, rfl, by rw [Ha.out]; rfl, by rw [Ha.out]; exact DskRep.shut Hin.out hR⟩
        · have c1 : ¬ 500 ≤ (D.now.length : Int) := by omega
          have Hb := Lib.hid hb
          clear hb
          have hst := rstep_c hR Hlf.out
          go_enter Tryz.func108, Tryz.ntmps108
          go_wp2_with fail
          refine hgd.mono ?_
          rintro ee w1 ⟨v, rfl, rfl, rfl⟩
          clear hgd
          go_wp2_with fail
          refine hfd.mono ?_
          rintro ee w1 ⟨v, rfl, rfl, rfl⟩
          clear hfd
          go_wp2_with fail
          refine hn.mono ?_
          rintro ee w1 ⟨v, rfl, rfl, rfl⟩
          clear hn
          go_wp2_with fail
          refine hst.mono ?_
          clear hst
          rintro ee w2 ⟨v, rfl, rfl, hS⟩
          clear hR e7 c1
          have hin2 : DskIn D.step.1 fv (.slice na D.now.length nc) xs g := ⟨by rw [step_files]; exact Hin.out.files, Hin.out.ok, by rw [step_fast]; exact Hin.out.fast, by rw [step_now]; exact Hin.out.now⟩
          have Hin2 := Lib.hid hin2
          clear hin2
          cases ht : D.step.2 with
          | false =>
            have Ha := Lib.hid (show D.create s = (D.step.1, 12) by unfold Med.create; rw [if_neg Ho.out, if_neg Hg.out, if_neg Hk.out, if_neg Hb.out, if_pos ht])
            clear ht
            rw [← step_waits] at hS
            go_wp2
            go_ret
            exact ⟨_, rfl, by rw [Ha.out]; rfl, by rw [Ha.out]; exact DskRep.shut Hin2.out hS⟩
          | true =>
            have Ha := Lib.hid (show D.create s = ({ D.step.1 with files := D.files ++ [Fil.new] }.link ⟨ByteArray.empty, s, D.files.length⟩, 0) by unfold Med.create; rw [if_neg Ho.out, if_neg Hg.out, if_neg Hk.out, if_neg Hb.out, if_neg (by rw [ht]; decide)])
            clear ht Ho Hg Hk Hb
            have Hl1 := Lib.hid (show D.step.1.now.length ≤ 1048575 by rw [step_now]; exact Hl.out)
            have Hw1 := Lib.hid (show D.step.1.waits.length ≤ 1048576 by rw [step_waits]; exact Hw.out)
            have Hlx := Lib.hid (show xs.length = D.files.length by rw [← Hin.out.files, List.length_map])
            have hfs := Hfs.out
            have hlx := Hlx.out
            rw [← step_waits] at hS
            obtain ⟨fa, fn, fc, rfl, hfn, _⟩ := Sat.rd (hS.pick pick1)
            rw [rfsL_len] at hfn
            obtain rfl : fn = xs.length := by omega
            have hlen : (rfsL xs).length ≤ 2147483648 := by rw [rfsL_len]; omega
            have hw1 : IntKind.i64.wrap (xs.length : Int) = (xs.length : Int) := IntWalk.i64_in _ (by omega)
            have hw2 : IntKind.i64.wrap (((xs.length + 1 : Nat) : Int) - 1) = (xs.length : Int) := by rw [show ((xs.length + 1 : Nat) : Int) - 1 = (xs.length : Int) by omega]; exact hw1
            clear hfn hfs hlx
            generalize D.step.1 = D1 at *
            go_wp2_with (first
              | ((with_reducible apply at_load); refine ⟨?_⟩; refine wl_load1 (by assumption) (by rfl) pkD (Nat.le_of_ble_eq_true (by rfl)) evD (by kernel_rfl) ?_)
              | ((with_reducible apply at_build1); refine ⟨?_⟩; refine wl_build1 (e := 164) (sz := 3) (by' := 72) (by kernel_rfl) hS (by rfl) (cs := #[.slice none 0 0, .slice none 0 0, .slice none 0 0]) rfl rfl (Nat.le_of_ble_eq_true (by rfl)) ?_; intro bN wN hN)
              | ((with_reducible apply at_append); refine ⟨?_⟩; refine wl_app 164 3 72 (by kernel_rfl) hN (by rfl) (by rfl) (pick_there (pick_there pick0)) pick0 (by rfl) (Nat.le_refl 1) (by rfl) hlen (by show 3 ≤ 65536; decide) (by decide) rfl ?_; intro bA nA cA wA hA; obtain rfl := app_len hA rfl)
              | ((with_reducible apply at_store); refine ⟨?_⟩; refine wl_store (by assumption) (by rfl) evD (by first | (simp only [putsAt, Value.cells]; (try go_frame); first | done | rfl) | rfl) upD (Nat.le_of_ble_eq_true (by rfl)) (by kernel_rfl) (by rfl) ?_; intro wS hS))
            have h5 := rf_zero (hS.sub (sub_take pick2 (sub_take pick1 (sub_take pick0 (sub_take pick0 (sub_take pick0 sub_refl))))))
            rw [show rfsL xs ++ [Value.slice none 0 0, .slice none 0 0, .slice none 0 0] = rfsL (xs ++ [RF.zero]) by unfold rfsL; rw [List.flatMap_append]; rfl] at h5
            have h6 := DskRep.shut (D := { D1 with files := D.files ++ [Fil.new] }) (xs := xs ++ [RF.zero]) (fv := fv) ⟨by rw [List.map_append, Hin.out.files]; rfl, (fun x hx => by rcases List.mem_append.1 hx with hx | hx; exact Hin.out.ok x hx; rw [List.mem_singleton.1 hx]; rfl), Hin2.out.fast, Hin2.out.now⟩ (h5.sub (sub_take pick1 (sub_take pick1 (sub_take pick0 (sub_take pick0 (sub_take pick0 sub_refl))))))
            refine (rwait_c (D := { D1 with files := D.files ++ [Fil.new] }) ⟨ByteArray.empty, s, xs.length⟩ Hl1.out Hw1.out h6).mono ?_
            rintro ee w5 ⟨v, rfl, h7⟩
            clear hS hN hA h5 h6 hw1 hw2
            go_wp2
            go_ret
            exact ⟨_, rfl, by rw [Ha.out]; rfl, by rw [Ha.out, ← Hlx.out]; exact h7⟩
end
end Go.Proofs.YtmjldaedhmipkaaGreatDoor
namespace Go.Med
theorem xorAt_len (l : Bs) (i : Nat) (y : UInt8) : (xorAt l i y).length = l.length := by unfold xorAt; simp
def Alike (c d : Chg) : Prop := d.cut = c.cut ∧ d.n = c.n ∧ d.b.length = c.b.length
theorem on_len {c d : Chg} (h : Alike c d) {l l' : Bs} (hl : l'.length = l.length) : (d.on l').length = (c.on l).length := by
  obtain ⟨h1, h2, h3⟩ := h
  unfold Chg.on
  rw [h1]
  split
  · simp [h2, hl]
  · simp [h3, hl]
theorem at_len {f g : Fil} (h0 : g.fast.length = f.fast.length) (hw : g.waits.length = f.waits.length)
    (hc : ∀ (k : Nat) (c d : Chg), f.waits[k]? = some c → g.waits[k]? = some d → Alike c d) : ∀ k, k ≤ f.waits.length → (g.at k).length = (f.at k).length := by
  intro k
  induction k with
  | zero => intro _; exact h0
  | succ k ih =>
    intro hk
    have h1 : f.waits[k]? = some (f.waits[k]'(by omega)) := List.getElem?_eq_getElem _
    have h2 : g.waits[k]? = some (g.waits[k]'(by omega)) := List.getElem?_eq_getElem _
    rw [f.at_succ k _ h1, g.at_succ k _ h2]
    exact on_len (hc k _ _ h1 h2) (ih (by omega))
theorem xorAt_left {l : Bs} {i : Nat} (y : UInt8) (b : Bs) (h : i < l.length) : xorAt (l ++ b) i y = xorAt l i y ++ b := by
  unfold xorAt
  rw [List.set_append_left _ _ h, List.getD_eq_getElem?_getD, List.getElem?_append_left h, List.getD_eq_getElem?_getD]
theorem xorAt_right {l : Bs} {i : Nat} (y : UInt8) (b : Bs) (h : l.length ≤ i) : xorAt (l ++ b) i y = l ++ xorAt b (i - l.length) y := by
  unfold xorAt
  rw [List.set_append_right _ _ h, List.getD_eq_getElem?_getD, List.getElem?_append_right h, List.getD_eq_getElem?_getD]
theorem xorAt_take (l : Bs) (i n : Nat) (y : UInt8) : (xorAt l i y).take n = xorAt (l.take n) i y := by
  unfold xorAt
  rw [List.take_set]
  by_cases h : i < n
  · rw [List.getD_eq_getElem?_getD, List.getD_eq_getElem?_getD, List.getElem?_take_of_lt h]
  · rw [List.set_eq_of_length_le (by simp; omega), List.set_eq_of_length_le (by simp; omega)]
theorem on_xor (c : Chg) (l : Bs) (i : Nat) (y : UInt8) (h : c.cut = true ∨ i < l.length) : c.on (xorAt l i y) = xorAt (c.on l) i y := by
  unfold Chg.on
  cases hc : c.cut
  · simp only [Bool.false_eq_true, if_false]
    rcases h with h | h
    · rw [hc] at h; cases h
    · exact (xorAt_left y c.b h).symm
  · simp only [if_true]; exact xorAt_take l i c.n y
def Past (f : Fil) (i k n : Nat) : Prop := ∀ (j : Nat) (c : Chg), k ≤ j → j < n → f.waits[j]? = some c → c.cut = true ∨ i < (f.at j).length
theorem at_xor {f g : Fil} {i k : Nat} {y : UInt8} (h0 : g.at k = xorAt (f.at k) i y) (hw : ∀ j, k ≤ j → g.waits[j]? = f.waits[j]?) (hp : Past f i k f.waits.length) :
    ∀ j, k ≤ j → j ≤ f.waits.length → g.at j = xorAt (f.at j) i y := by
  intro j hj
  induction hj with
  | refl => intro _; exact h0
  | @step j hk ih =>
    intro hl
    have h1 : f.waits[j]? = some (f.waits[j]'(by omega)) := List.getElem?_eq_getElem _
    have h2 : g.waits[j]? = some (f.waits[j]'(by omega)) := by rw [hw j hk]; exact h1
    rw [f.at_succ j _ h1, g.at_succ j _ h2, ih (by omega)]
    exact on_xor _ _ _ _ (hp j _ hk (by omega) h1)
theorem rotWaits_spec (f : Fil) (i : Nat) (y : UInt8) : ∀ n, n ≤ f.waits.length →
    (rotWaits f i y n = none ∧ Past f i 0 n) ∨
    ∃ (k : Nat) (c : Chg), k < n ∧ f.waits[k]? = some c ∧ c.cut = false ∧ (f.at k).length ≤ i ∧ rotWaits f i y n = some (f.waits.set k { c with b := xorAt c.b (i - (f.at k).length) y }) ∧ Past f i (k + 1) n
  | 0, _ => .inl ⟨rfl, fun j c _ h => by omega⟩
  | n + 1, hn => by
    have h1 : f.waits[n]? = some (f.waits[n]'(by omega)) := List.getElem?_eq_getElem _
    generalize f.waits[n]'(by omega) = c at h1
    have step : (c.cut = true ∨ i < (f.at n).length) → rotWaits f i y (n + 1) = rotWaits f i y n := by
      intro h
      show (match f.waits[n]? with | none => _ | some c => _) = _
      rw [h1]
      simp only
      rcases h with h | h
      · rw [if_pos h]
      · split
        · rfl
        · rw [if_neg (by omega)]
    have past : ∀ k, (c.cut = true ∨ i < (f.at n).length) → Past f i k n → Past f i k (n + 1) := by
      intro k h hp j d hk hj hd
      rcases Nat.lt_or_ge j n with hlt | hge
      · exact hp j d hk hlt hd
      · obtain rfl : j = n := by omega
        rw [h1] at hd; cases hd; exact h
    by_cases h : c.cut = true ∨ i < (f.at n).length
    · rcases rotWaits_spec f i y n (by omega) with ⟨h2, h3⟩ | ⟨k, d, h2, h3, h4, h5, h6, h7⟩
      · exact .inl ⟨(step h).trans h2, past 0 h h3⟩
      · exact .inr ⟨k, d, by omega, h3, h4, h5, (step h).trans h6, past _ h h7⟩
    · have hc : c.cut = false := by cases hcc : c.cut; rfl; exact absurd (.inl hcc) h
      have hl : (f.at n).length ≤ i := Nat.le_of_not_lt fun h' => h (.inr h')
      refine .inr ⟨n, c, by omega, h1, hc, hl, ?_, fun j d hk hj => by omega⟩
      show (match f.waits[n]? with | none => _ | some c => _) = _
      rw [h1]
      simp only [hc, Bool.false_eq_true, if_false]
      rw [if_pos hl]
theorem rot_ok_of {f g : Fil} {K : Nat} (h : f.Ok K) (h0 : g.fast.length = f.fast.length) (hw : g.waits.length = f.waits.length)
    (hc : ∀ (k : Nat) (c d : Chg), f.waits[k]? = some c → g.waits[k]? = some d → Alike c d) (hn : g.now = g.at f.waits.length) : g.Ok K := by
  have hl := at_len h0 hw hc
  refine ⟨by rw [hw]; exact hn, ?_, ?_, by rw [hw]; exact h.budget⟩
  · intro k d hk hd
    have hlt : k < g.waits.length := (List.getElem?_eq_some_iff.1 hk).1
    obtain ⟨c, hcc⟩ : ∃ c, f.waits[k]? = some c := ⟨f.waits[k]'(by omega), List.getElem?_eq_getElem _⟩
    obtain ⟨a1, a2, a3⟩ := hc k c d hcc hk
    rw [hl k (by omega), a2]
    exact h.cuts k c hcc (by rw [← a1]; exact hd)
  · intro k hk
    rw [hl k (by omega)]
    exact h.size k (by omega)
theorem Fil.Ok.rot {f : Fil} {K : Nat} (h : f.Ok K) (i : Nat) (y : UInt8) : (f.rot i y).Ok K ∧ (f.rot i y).now = xorAt f.now i y := by
  rcases rotWaits_spec f i y f.waits.length (Nat.le_refl _) with ⟨h1, h2⟩ | ⟨k, c, hk, hc, hcut, hlen, h1, h2⟩
  · have e : f.rot i y = { f with now := xorAt f.now i y, fast := xorAt f.fast i y } := by unfold Fil.rot; rw [h1]
    rw [e]
    refine ⟨rot_ok_of h (xorAt_len _ _ _) rfl (fun k c d h3 h4 => ?_) ?_, rfl⟩
    · rw [h3] at h4; cases h4; exact ⟨rfl, rfl, rfl⟩
    · have := at_xor (f := f) (g := { f with now := xorAt f.now i y, fast := xorAt f.fast i y }) (i := i) (k := 0) (y := y) rfl (fun j _ => rfl) h2 f.waits.length (Nat.zero_le _) (Nat.le_refl _)
      rw [this, ← h.now]
  · have e : f.rot i y = { f with now := xorAt f.now i y, waits := f.waits.set k { c with b := xorAt c.b (i - (f.at k).length) y } } := by unfold Fil.rot; rw [h1]
    rw [e]
    have hset : (f.waits.set k { c with b := xorAt c.b (i - (f.at k).length) y })[k]? = some { c with b := xorAt c.b (i - (f.at k).length) y } := by rw [List.getElem?_set_self hk]
    refine ⟨rot_ok_of h rfl (by simp) (fun j c' d h3 h4 => ?_) ?_, rfl⟩
    · simp only at h4
      by_cases hj : k = j
      · subst hj
        rw [hset] at h4
        rw [hc] at h3
        cases h3; cases h4
        exact ⟨rfl, rfl, xorAt_len _ _ _⟩
      · rw [List.getElem?_set_ne hj, h3] at h4
        cases h4; exact ⟨rfl, rfl, rfl⟩
    · generalize hg : ({ f with now := xorAt f.now i y, waits := f.waits.set k { c with b := xorAt c.b (i - (f.at k).length) y } } : Fil) = g
      have hgw : g.waits = f.waits.set k { c with b := xorAt c.b (i - (f.at k).length) y } := by rw [← hg]
      have hgf : g.fast = f.fast := by rw [← hg]
      have hgn : g.now = xorAt f.now i y := by rw [← hg]
      have hk0 : g.at k = f.at k := by unfold Fil.at; rw [hgw, hgf, List.take_set_of_le (Nat.le_refl _)]
      have hk1 : g.at (k + 1) = xorAt (f.at (k + 1)) i y := by
        rw [g.at_succ k _ (by rw [hgw]; exact hset), hk0, f.at_succ k c hc]
        unfold Chg.on
        simp only [hcut, Bool.false_eq_true, if_false]
        rw [xorAt_right y c.b hlen]
      have := at_xor hk1 (fun j hj => by rw [hgw, List.getElem?_set_ne (by omega)]) h2 f.waits.length hk (Nat.le_refl _)
      rw [this, hgn, ← h.now]
theorem Med.Ok.rot {M : Med} {K : Nat} (h : M.Ok K) (s : ByteArray) (i : Int) (y : UInt8) : (M.rot s i y).1.Ok (K + 1) := by
  unfold Med.rot
  split
  · exact h.mono (Nat.le_succ _)
  · split
    · exact h.mono (Nat.le_succ _)
    · exact h.setFile _ _ (((h.file _).rot _ _).1.mono (Nat.le_succ _))
end Go.Med
namespace Go.Med
structure Cal where
  kind : Int
  name : ByteArray
  to : ByteArray
  n : Int
  m : Int
  b : Bs
  l : List Int
def lowByte (m : Int) : UInt8 := UInt8.ofNat (m % 256).toNat
def Med.does (M : Med) (x : Cal) : Med × (Bs × Int × Bool) :=
  if x.kind = 0 then ((M.create x.name).1, [], (M.create x.name).2, false)
  else if x.kind = 1 then ((M.append x.name x.b).1, [], (M.append x.name x.b).2, false)
  else if x.kind = 2 then ((M.truncate x.name x.n).1, [], (M.truncate x.name x.n).2, false)
  else if x.kind = 3 then ((M.rename x.name x.to).1, [], (M.rename x.name x.to).2, false)
  else if x.kind = 4 then ((M.remove x.name).1, [], (M.remove x.name).2, false)
  else if x.kind = 5 then ((M.sync x.name).1, [], (M.sync x.name).2, false)
  else if x.kind = 6 then (M.syncDir.1, [], M.syncDir.2, false)
  else if x.kind = 7 then ((M.arm x.n).1, [], (M.arm x.n).2, false)
  else if x.kind = 8 then (M.crash x.l, [], 0, false)
  else if x.kind = 9 then ((M.setRoom x.n).1, [], (M.setRoom x.n).2, false)
  else if x.kind = 10 then ((M.rot x.name x.n (lowByte x.m)).1, [], 0, (M.rot x.name x.n (lowByte x.m)).2)
  else (M, (M.read x.name x.n x.m).1, (M.read x.name x.n x.m).2, false)
structure Quiet (M : Med) : Prop where
  armed : M.armed = false
  off : M.off = false
  left : M.left = 0
theorem Quiet.new (r : Nat) : Quiet (new r) := ⟨rfl, rfl, rfl⟩
theorem Quiet.step {M : Med} (h : Quiet M) : M.step = (M, true) := by simp [Med.step, h.armed]
theorem Quiet.setFile {M : Med} (h : Quiet M) (i : Nat) (f : Fil) : Quiet (M.setFile i f) := ⟨h.armed, h.off, h.left⟩
theorem Quiet.create {M : Med} (h : Quiet M) (s : ByteArray) : Quiet (M.create s).1 := by
  unfold Med.create
  rw [h.step]
  split; · exact h
  split; · exact h
  split; · exact h
  split; · exact h
  split; · exact h
  exact ⟨h.armed, h.off, h.left⟩
theorem Quiet.append {M : Med} (h : Quiet M) (s : ByteArray) (b : Bs) : Quiet (M.append s b).1 := by
  unfold Med.append
  rw [h.step]
  split; · exact h
  split; · exact h
  split; · exact h
  split; · exact h
  exact h.setFile _ _
def Med.plays : Med → List Cal → Med
  | M, [] => M
  | M, x :: l => Med.plays (if x.kind = 7 then M else (M.does x).1) l
def FFlat (f : Fil) : Prop := f.now = f.fast ∧ f.waits = []
structure Flat (M : Med) : Prop where
  quiet : Quiet M
  fast : M.fast = M.now
  waits : M.waits = []
  files : ∀ p ∈ M.now, FFlat (M.file p.2)
def Med.syncs : Med → List ByteArray → Med
  | M, [] => M
  | M, s :: l => Med.syncs (M.sync s).1 l
structure Synced (M M' : Med) : Prop where
  room : M'.room = M.room
  fast : M'.fast = M.fast
  now : M'.now = M.now
  waits : M'.waits = M.waits
  quiet : Quiet M'
  bytes : ∀ i, (M'.file i).now = (M.file i).now
  len : M'.files.length = M.files.length
theorem file_set {M : Med} {i : Nat} {f : Fil} (hi : i < M.files.length) (j : Nat) : (M.setFile i f).file j = if j = i then f else M.file j := by
  unfold Med.setFile Med.file
  simp only [List.getD_eq_getElem?_getD]
  split
  · rename_i h; subst h; rw [List.getElem?_set_self hi]; rfl
  · rename_i h; rw [List.getElem?_set_ne (Ne.symm h)]
def Moms (M : Med) (l : List (List ByteArray)) : Prop := ∀ k, k ≤ M.waits.length → (M.lastNames k).map (·.1) ∈ l
def Ext (M M' : Med) : Prop := M'.fast = M.fast ∧ (M'.waits = M.waits ∨ ∃ y, M'.waits = M.waits ++ [y])
structure Armed (n : Nat) (M : Med) : Prop where
  armed : M.armed = true
  off : M.off = false
  left : M.left = n
def Dst (M : Med) : Prop := (M.now.map (·.2)).Nodup
theorem used_split {M : Med} (hs : Srt M.now) (hd : Dst M) {s : ByteArray} {i : Nat} (h : nget M.now s = some i) :
    (∀ p ∈ ndel M.now s, p.2 ≠ i) ∧ ∀ g : Nat → Nat, (M.now.map fun p => g p.2).sum = g i + ((ndel M.now s).map fun p => g p.2).sum := by
  have hp := ndel_perm hs.keys (nget_mem h)
  constructor
  · have hd' : (M.now.map fun p : ByteArray × Nat => p.2).Nodup := hd
    have := (hp.map (fun p : ByteArray × Nat => p.2)).nodup_iff.1 hd'
    simp only [List.map_cons, List.nodup_cons] at this
    intro p hp e
    exact this.1 (List.mem_map.2 ⟨p, hp, e⟩)
  · intro g
    have := (hp.map fun p => g p.2).sum_nat
    simpa using this
theorem nodup_put {l : Names} {s : ByteArray} {i : Nat} (h : (l.map (·.2)).Nodup) (hi : ∀ p ∈ l, p.2 ≠ i) : ((nput l s i).map (·.2)).Nodup := by
  refine ((nput_perm l s i).map (·.2)).nodup_iff.2 ?_
  simp only [List.map_cons, List.nodup_cons]
  refine ⟨fun hm => ?_, h.sublist (List.filter_sublist.map _)⟩
  obtain ⟨p, hp, e⟩ := List.mem_map.1 hm
  exact hi p (List.mem_filter.1 hp).1 e
structure Fits (M M' : Med) : Prop where
  room : M'.room = M.room
  dst : Dst M'
  used : M'.used ≤ M'.room
end Go.Med
