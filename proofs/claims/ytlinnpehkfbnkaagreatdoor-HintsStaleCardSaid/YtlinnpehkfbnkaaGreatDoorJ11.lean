import Derived.Test.YtlinnpehkfbnkaaGreatDoorJ10
import Derived.Test.YtlinnpehkfbnkaaGreatDoorRows
import Derived.Test.YtlinnpehkfbnkaaGreatDoorCards
import Derived.Test.YtlinnpehkfbnkaaGreatDoorTie
import Derived.ProofKit
import Derived.LaidMore
import Derived.OpenShut
import Derived.ShutString
import Derived.SevenTiedAt
set_option linter.unusedVariables false
set_option maxHeartbeats 128000000
namespace Go.Seg
open Go.Med
open Go.Frm (encs GoodE fnds)
structure HG (K r E B n : Nat) (L : Log) (M : Med) (C : List (List Frm.Ent)) : Prop where
 keeps : Keeps K r L M
 len : L.l.length = C.length
 at_ : ∀ (k : Nat) (es : List Frm.Ent), C[k]? = some es → L.l[k]? = some ((k : Int), 8 + ((encs es).length : Int))
 file : ∀ (k : Nat) (es : List Frm.Ent), C[k]? = some es → M.all (name k) = (mag ++ encs es, 0)
 good : ∀ es ∈ C, (∀ x ∈ es, GoodE x) ∧ es ≠ []
 count : C.length ≤ n
 used : M.used ≤ n * 400 + B
 names : M.now.length ≤ n + E
 cover : ∀ (k i : Nat), k < 1048576 → nget M.now (name (k : Int)) = some i → k < C.length
section
variable {K r E B n : Nat} {L : Log} {M : Med} {C : List (List Frm.Ent)}
theorem Holds.hg (h : Holds n L M C) (hn : n ≤ 1000) : HG (n * 5) 1048576 0 0 n L M C :=
 ⟨h.keeps, h.len, h.at_, h.file, h.good, h.count, by rw [Nat.add_zero]; exact h.used, h.names, fun k i hk hi => by
  obtain ⟨j, h1, h2⟩ := h.only _ _ hi
  have := h.count
  have := name_inj (by omega) (by omega) (by omega) (by omega) h2
  omega⟩
theorem HG.mono {K' E' B' n' : Nat} (h : HG K r E B n L M C) (h1 : K ≤ K') (h2 : E ≤ E') (h3 : B ≤ B') (h4 : n ≤ n') : HG K' r E' B' n' L M C :=
 ⟨h.keeps.mono h1, h.len, h.at_, h.file, h.good, Nat.le_trans h.count h4, Nat.le_trans h.used (Nat.add_le_add (Nat.mul_le_mul_right 400 h4) h3), Nat.le_trans h.names (by omega), h.cover⟩
theorem HG.next (h : HG K r E B n L M C) : L.next = C.length := by
 unfold Log.next
 cases hl : L.l.getLast? with
 | none =>
  have := List.getLast?_eq_none_iff.1 hl
  have h2 := h.len
  rw [this] at h2
  simp only [List.length_nil] at h2
  simp only; omega
 | some s =>
  rw [List.getLast?_eq_getElem?] at hl
  have hlt := (List.getElem?_eq_some_iff.1 hl).1
  have h2 := h.len
  have hc : C[L.l.length - 1]? = some (C[L.l.length - 1]'(by omega)) := List.getElem?_eq_getElem (by omega)
  have h3 := h.at_ _ _ hc
  rw [hl] at h3
  cases h3
  simp only; omega
theorem HG.segs (h : HG K r E B n L M C) : L.segs.length = C.length ∧ ∀ k, k < C.length → L.segs[k]? = some (k : Int) := by
 unfold Log.segs
 refine ⟨by rw [List.length_map]; exact h.len, fun k hk => ?_⟩
 rw [List.getElem?_map, h.at_ k _ (List.getElem?_eq_getElem hk)]; rfl
theorem HG.at_k (h : HG K r E B n L M C) {k : Nat} {es : List Frm.Ent} (hk : C[k]? = some es) : L.at (k : Int) = some k := by
 have h1 := h.at_ k es hk
 cases hat : L.at (k : Int) with
 | none =>
  exfalso
  unfold Log.at at hat
  rw [List.findIdx?_eq_none_iff] at hat
  have := hat _ (List.mem_of_getElem? h1)
  simp at this
 | some i =>
  obtain ⟨h2, s, h3, h4⟩ := Log.at_lt hat
  have h5 : i < C.length := by rw [← h.len]; exact h2
  have h6 := h.at_ i _ (List.getElem?_eq_getElem h5)
  rw [h6] at h3
  cases h3
  simp only at h4
  congr 1
  omega
theorem HG.bytes (h : HG K r E B n L M C) {k : Nat} {es : List Frm.Ent} (hk : C[k]? = some es) : L.bytes M (k : Int) = (mag ++ encs es, 0) := by
 unfold Log.bytes
 rw [h.at_k hk]
 exact h.file k es hk
theorem HG.size (h : HG K r E B n L M C) {k : Nat} {es : List Frm.Ent} (hk : C[k]? = some es) : L.size (k : Int) = ((mag ++ encs es).length : Nat) := by
 unfold Log.size
 rw [h.at_k hk]
 have h1 := h.at_ k es hk
 simp only [List.getD_eq_getElem?_getD, h1, Option.getD_some, List.length_append]
 have : mag.length = 8 := rfl
 omega
theorem HG.ns (h : HG K r E B n L M C) : L.segs = (List.range' 0 C.length).map fun i => ((i : Nat) : Int) := by
 obtain ⟨h1, h2⟩ := h.segs
 apply List.ext_getElem?
 intro i
 by_cases hi : i < C.length
 ·rw [h2 i hi, List.getElem?_map, List.getElem?_range' hi]; simp
 ·rw [List.getElem?_eq_none (by omega), List.getElem?_eq_none (by rw [List.length_map, List.length_range']; omega)]
theorem HG.rows (h : HG K r E B n L M C) (i : Nat) : Rep.rowsOf (fun s => L.bytes M s) (L.segs.take i) = Rep.rowsC 0 (C.take i) := by
 have e : L.segs.take i = (List.range' 0 (C.take i).length).map fun i => ((i : Nat) : Int) := by
  rw [h.ns, take_nums, List.length_take]
 rw [e]
 refine Rep.rows_is (C.take i) 0 fun j es hj => ?_
 have hj' : C[j]? = some es := by
  rw [List.getElem?_take] at hj
  split at hj
  ·exact hj
  ·cases hj
 rw [Nat.zero_add]
 exact ⟨h.bytes hj', (h.good es (List.mem_of_getElem? hj')).1⟩
theorem HG.append (h : HG K r E B n L M C) (hn : n < 1000) (x : Frm.Ent) (hk : x.key.length = 32) (hd : x.data.length ≤ 300) (h0 : (Frm.encode x).2 = 0) (hz : (L.append M x).2.2 = 0 ∨ M.used + 400 ≤ M.room ∧ M.now.length < 500) :
  (L.append M x).2.2 = 0 ∧ (L.append M x).1.1.on = true ∧ (L.append M x).1.1.limit = L.limit ∧ HG (K + 4) r E B (n + 1) (L.append M x).1.1 (L.append M x).1.2 (put C (L.fits (Frm.encode x).1.length) x) ∧
   (L.append M x).1.1.read (L.append M x).1.2 (L.append M x).2.1 = (x, 0) ∧ (L.append M x).2.1.seg = (put C (L.fits (Frm.encode x).1.length) x).length - 1 := by
 have hzz := enc_small h0 hk hd
 have hK := (h.keeps.append x hk).1
 have hu := h.used
 have hroom := h.keeps.calm.room
 have hcnt := h.count
 cases hf : L.fits (Frm.encode x).1.length with
 | true =>
  rw [Log.append_grow h0 hf] at hK hz ⊢
  have hf' := hf
  unfold Log.fits at hf'
  rw [Bool.and_eq_true, decide_eq_true_eq] at hf'
  obtain ⟨s, hl⟩ := h.keeps.log.last hf'.1
  rw [hl] at hf'
  have hl' := hl
  rw [List.getLast?_eq_getElem?] at hl'
  have hlt := (List.getElem?_eq_some_iff.1 hl').1
  have hlen := h.len
  have hne : C ≠ [] := by intro e; rw [e, List.length_nil] at hlen; omega
  obtain ⟨c, hc⟩ : ∃ c, C.length = c + 1 := ⟨C.length - 1, by omega⟩
  have hcl : C[c]? = some (C.getLastD []) := by
   conv => lhs; rw [last_of hne]
   rw [List.getElem?_append_right (by rw [List.length_dropLast]; omega), List.length_dropLast, show c - (C.length - 1) = 0 by omega]; rfl
  generalize hes : C.getLastD [] = es at *
  have hat := h.at_ _ _ hcl
  rw [show L.l.length - 1 = c by omega, hat] at hl'
  obtain rfl : ((c : Int), 8 + ((encs es).length : Int)) = s := by injection hl'
  obtain ⟨i, hi⟩ := h.keeps.has _ (List.mem_of_getLast? hl)
  simp only at hi
  have hall := h.file _ _ hcl
  have hrm : M.used + (Frm.encode x).1.length ≤ M.room := by
   rcases hz with hz | ⟨hz, _⟩
   ·rcases append_cases h.keeps.calm.quiet (name (c : Int)) (Frm.encode x).1 with ⟨q1, _⟩ | ⟨j, q1, ⟨q2, q3⟩ | ⟨q2, q3⟩⟩
    ·rw [hi] at q1; cases q1
    ·unfold Log.grow at hz
     rw [hl] at hz
     simp only [q3] at hz
     rw [if_neg dCz] at hz
     exact absurd (show (11 : Int) = 0 from hz) dCz
    ·omega
   ·omega
  obtain ⟨a1, a2, a3, a4, a5⟩ := append_full h.keeps.calm hi (Frm.encode x).1 hrm
  have hmem : es ∈ C := List.mem_of_getElem? hcl
  have hE : L.grow M (Frm.encode x).1 = (({ L with l := L.l.dropLast ++ [((c : Int), 8 + ((encs es).length : Int) + ((Frm.encode x).1.length : Int))] }, (M.append (name (c : Int)) (Frm.encode x).1).1), ⟨(c : Int), 8 + ((encs es).length : Int), (Frm.encode x).1.length⟩, 0) := by
   unfold Log.grow; rw [hl]; simp only [a1, if_true]
  rw [hE] at hK ⊢
  simp only at hK ⊢
  rw [hall] at a4
  have hsz : (encs (es ++ [x])).length = (encs es).length + (Frm.encode x).1.length := by rw [encs_app, encs_one, List.length_append]
  have hput : put C true x = C.dropLast ++ [es ++ [x]] := by unfold put; rw [if_pos rfl, hes]
  rw [hput]
  have hdl : C.dropLast.length = c := by rw [List.length_dropLast]; omega
  have a4' : (M.append (name (c : Int)) (Frm.encode x).1).1.all (name (c : Int)) = (mag ++ encs (es ++ [x]), 0) := by rw [a4, encs_app, encs_one]; simp
  refine ⟨by first | trivial | rfl, hf'.1, by first | trivial | rfl, ⟨hK, ?_, ?_, ?_, ?_, ?_, ?_, ?_, ?_⟩, ?_, ?_⟩
  ·simp only [List.length_append, List.length_dropLast, List.length_singleton]; omega
  ·intro k fs hk'
   have hcl' : C[k]? = some fs ∧ k < c ∨ k = c ∧ fs = es ++ [x] := by
    rcases Nat.lt_trichotomy k c with q | q | q
    ·rw [List.getElem?_append_left (by omega), List.getElem?_dropLast, if_pos (by omega)] at hk'
     exact .inl ⟨hk', q⟩
    ·subst q
     rw [List.getElem?_append_right (by omega), hdl, Nat.sub_self] at hk'
     simp at hk'
     exact .inr ⟨rfl, hk'.symm⟩
    ·rw [List.getElem?_eq_none (by simp only [List.length_append, List.length_singleton]; omega)] at hk'; cases hk'
   rcases hcl' with ⟨q1, q2⟩ | ⟨rfl, rfl⟩
   ·rw [List.getElem?_append_left (by rw [List.length_dropLast]; omega), List.getElem?_dropLast, if_pos (by omega)]
    exact h.at_ _ _ q1
   ·rw [List.getElem?_append_right (by rw [List.length_dropLast]; omega), List.length_dropLast, show k - (L.l.length - 1) = 0 by omega, hsz]
    simp only [List.getElem?_cons_zero, Option.some.injEq, Prod.mk.injEq, true_and]
    omega
  ·intro k fs hk'
   have hcl' : C[k]? = some fs ∧ k < c ∨ k = c ∧ fs = es ++ [x] := by
    rcases Nat.lt_trichotomy k c with q | q | q
    ·rw [List.getElem?_append_left (by omega), List.getElem?_dropLast, if_pos (by omega)] at hk'
     exact .inl ⟨hk', q⟩
    ·subst q
     rw [List.getElem?_append_right (by omega), hdl, Nat.sub_self] at hk'
     simp at hk'
     exact .inr ⟨rfl, hk'.symm⟩
    ·rw [List.getElem?_eq_none (by simp only [List.length_append, List.length_singleton]; omega)] at hk'; cases hk'
   rcases hcl' with ⟨q1, q2⟩ | ⟨rfl, rfl⟩
   ·rw [a5 _ (fun e => by have := name_inj (by omega) (by omega) (by omega) (by omega) e; omega)]
    exact h.file _ _ q1
   ·exact a4'
  ·intro fs hfs
   rcases List.mem_append.1 hfs with hfs | hfs
   ·exact h.good fs ((List.dropLast_subset _ hfs))
   ·rw [List.mem_singleton.1 hfs]
    refine ⟨fun y hy => ?_, by simp⟩
    rcases List.mem_append.1 hy with hy | hy
    ·exact (h.good es hmem).1 y hy
    ·rw [List.mem_singleton.1 hy]; exact ⟨h0, hk⟩
  ·simp only [List.length_append, List.length_singleton]; omega
  ·rw [a3]; omega
  ·rw [a2]; have := h.names; omega
  ·intro k j hkk hj
   rw [a2] at hj
   have := h.cover k j hkk hj
   simp only [List.length_append, List.length_singleton]; omega
  ·exact read_back (s := ((c : Int), 8 + ((encs es).length : Int) + ((Frm.encode x).1.length : Int))) hK (by simp) a4' ⟨h0, hk⟩
  ·simp only [List.length_append, List.length_singleton]; omega
 | false =>
  rw [Log.append_begin h0 hf] at hK hz ⊢
  obtain ⟨s1, s2, s3, s4, s5⟩ := h.keeps.shut
  have hlim := Log.shut_limit L M
  have hB : L.begin M (Frm.encode x).1 = (L.shut M).1.1.begin1 (L.shut M).1.2 (Frm.encode x).1 := by unfold Log.begin; rw [if_pos s2]
  rw [hB] at hK hz ⊢
  have hnx : (L.shut M).1.1.next = C.length := by rw [← h.next]; unfold Log.next; rw [s3]
  have hall2 := s5.all
  have hnow := s5.now
  have hused := s5.used
  have hroom2 := s1.calm.room
  generalize (L.shut M).1.1 = L1 at *
  generalize (L.shut M).1.2 = M1 at *
  have hnn : nget M1.now (name (C.length : Int)) = none := by
   cases hq : nget M1.now (name (C.length : Int)) with
   | none => rfl
   | some i =>
    exfalso
    rw [hnow] at hq
    have := h.cover C.length i (by omega) hq
    omega
  have hlt5 : M1.now.length < 500 := by
   rcases hz with hz | ⟨_, hz⟩
   ·rcases create_cases s1.calm.quiet (name (C.length : Int)) with ⟨q1, _, _⟩ | ⟨_, _, q3, _⟩
    ·unfold Log.begin1 at hz
     rw [hnx, if_neg (by omega), if_pos q1] at hz
     exact absurd hz q1
    ·exact q3
   ·rw [hnow]; exact hz
  obtain ⟨c1, c2, c3, c4, c5⟩ := create_full s1.calm (good_name (C.length : Int) (by omega) (by omega)) hnn hlt5
  have hc1 := s1.calm.create (name (C.length : Int))
  have hself : nget (M1.create (name (C.length : Int))).1.now (name (C.length : Int)) = some M1.files.length := by rw [c2]; exact nget_put_self s1.calm.ok.nowOk.srt _ _
  have hrm : (M1.create (name (C.length : Int))).1.used + (mag ++ (Frm.encode x).1).length ≤ (M1.create (name (C.length : Int))).1.room := by
   rcases hz with hz | ⟨hz, _⟩
   ·rcases append_cases hc1.quiet (name (C.length : Int)) (mag ++ (Frm.encode x).1) with ⟨q1, _⟩ | ⟨j, q1, ⟨q2, q3⟩ | ⟨q2, q3⟩⟩
    ·rw [hself] at q1; cases q1
    ·unfold Log.begin1 at hz
     rw [hnx, if_neg (by omega), if_neg (fun hh => hh c1)] at hz
     simp only [q3] at hz
     rw [if_neg dCz] at hz
     simp only [if_true] at hz
     split at hz
     ·exact absurd hz dCz
     ·rename_i g; exact absurd hz g
    ·omega
   ·rw [c3, hused, hc1.room, List.length_append]; have : mag.length = 8 := rfl; omega
  obtain ⟨a1, a2, a3, a4, a5⟩ := append_full hc1 hself (mag ++ (Frm.encode x).1) hrm
  have hE : L1.begin1 M1 (Frm.encode x).1 = (({ L1 with l := L1.l ++ [((C.length : Int), 8 + ((Frm.encode x).1.length : Int))], on := true, fresh := L1.fresh + 1 }, ((M1.create (name (C.length : Int))).1.append (name (C.length : Int)) (mag ++ (Frm.encode x).1)).1), ⟨(C.length : Int), 8, (Frm.encode x).1.length⟩, 0) := by
   unfold Log.begin1
   rw [hnx, if_neg (by omega), if_neg (fun hh => hh c1), if_pos a1]
  rw [hE] at hK ⊢
  simp only at hK ⊢
  rw [c4] at a4
  have a4' : ((M1.create (name (C.length : Int))).1.append (name (C.length : Int)) (mag ++ (Frm.encode x).1)).1.all (name (C.length : Int)) = (mag ++ encs ([] ++ [x]), 0) := by rw [a4, encs_app, encs_one]; simp [encs]
  have hput : put C false x = C ++ [[x]] := by unfold put; rw [if_neg dCz]
  rw [hput]
  have hlen := h.len
  refine ⟨by first | trivial | rfl, by first | trivial | rfl, hlim, ⟨hK, ?_, ?_, ?_, ?_, ?_, ?_, ?_, ?_⟩, ?_, ?_⟩
  ·simp only [s3, List.length_append, List.length_singleton]; omega
  ·intro k fs hk'
   rcases Nat.lt_trichotomy k C.length with q | q | q
   ·rw [List.getElem?_append_left q] at hk'
    rw [s3, List.getElem?_append_left (by omega)]
    exact h.at_ _ _ hk'
   ·subst q
    rw [List.getElem?_append_right (Nat.le_refl _), Nat.sub_self] at hk'
    simp at hk'
    subst hk'
    rw [s3, List.getElem?_append_right (by omega), hlen, Nat.sub_self, encs_one]
    rfl
   ·rw [List.getElem?_eq_none (by simp only [List.length_append, List.length_singleton]; omega)] at hk'; cases hk'
  ·intro k fs hk'
   rcases Nat.lt_trichotomy k C.length with q | q | q
   ·rw [List.getElem?_append_left q] at hk'
    have hne : name (k : Int) ≠ name (C.length : Int) := fun e => by have := name_inj (by omega) (by omega) (by omega) (by omega) e; omega
    rw [a5 _ hne, c5 _ hne, hall2]
    exact h.file _ _ hk'
   ·subst q
    rw [List.getElem?_append_right (Nat.le_refl _), Nat.sub_self] at hk'
    simp at hk'
    subst hk'
    exact a4'
   ·rw [List.getElem?_eq_none (by simp only [List.length_append, List.length_singleton]; omega)] at hk'; cases hk'
  ·intro fs hfs
   rcases List.mem_append.1 hfs with hfs | hfs
   ·exact h.good fs hfs
   ·rw [List.mem_singleton.1 hfs]
    exact ⟨fun y hy => by rw [List.mem_singleton.1 hy]; exact ⟨h0, hk⟩, by simp⟩
  ·simp only [List.length_append, List.length_singleton]; omega
  ·rw [a3, c3, hused, List.length_append]; have : mag.length = 8 := rfl; omega
  ·rw [a2, c2, nput_len]
   have := ndel_len M1.now (name (C.length : Int))
   rw [hnow] at this
   have := h.names
   rw [hnow]; omega
  ·intro k j hkk hj
   by_cases e : k = C.length
   ·subst e; simp
   ·rw [a2, c2, nget_put_ne (fun q => e (by have := name_inj (by omega) (by omega) (by omega) (by omega) q; omega)), hnow] at hj
    have := h.cover k j hkk hj
    simp only [List.length_append, List.length_singleton]; omega
  ·exact read_back (s := ((C.length : Int), 8 + ((Frm.encode x).1.length : Int))) (es := []) hK (by simp) a4' ⟨h0, hk⟩
  ·simp only [List.length_append, List.length_singleton]; omega
theorem HG.commit (h : HG K r E B n L M C) (hn : n < 1000) (hz : (L.append M comEnt).2.2 = 0 ∨ M.used + 400 ≤ M.room ∧ M.now.length < 500) :
  (L.commit M).2.2 = 0 ∧ (L.commit M).1.1.on = false ∧ (L.commit M).1.1.limit = L.limit ∧ HG (K + 5) r E B (n + 1) (L.commit M).1.1 (L.commit M).1.2 (put C (L.fits (Frm.encode comEnt).1.length) comEnt) := by
 obtain ⟨a1, a2, a3, a4, a5, a6⟩ := h.append hn comEnt rfl dCz rFz hz
 obtain ⟨i, hi⟩ := append_place h.keeps comEnt rfl a1
 have hlog := h.keeps.log.commit M
 have hcalm := h.keeps.commit
 rw [Log.commit_eq] at hlog hcalm ⊢
 rw [if_neg (fun hh => hh a1)] at hlog hcalm ⊢
 generalize L.append M comEnt = r at *
 obtain ⟨⟨L1, M1⟩, p1, e1⟩ := r
 simp only at *
 have hs := sync_alike a4.keeps.calm.ok a4.keeps.calm.quiet (name p1.seg)
 have hsc := a4.keeps.calm.sync (name p1.seg)
 have es := a4.keeps.calm.quiet.sync_eq hi
 have es2 : (M1.sync (name p1.seg)).2 = 0 := by rw [es]
 rw [if_neg (fun hh => hh es2)] at hlog hcalm ⊢
 generalize (M1.sync (name p1.seg)).1 = M2 at *
 have ed := hsc.quiet.syncDir_eq
 have ed2 : M2.syncDir.2 = 0 := by rw [ed]
 rw [if_neg (fun hh => hh ed2)] at hlog hcalm ⊢
 have had : Alike M2 M2.syncDir.1 := by rw [ed]; exact ⟨rfl, rfl, rfl, fun _ _ => rfl⟩
 have ha := hs.trans had
 refine ⟨rfl, rfl, a3, ⟨hcalm, a4.len, a4.at_, fun k es' hk => by rw [ha.all]; exact a4.file k es' hk, a4.good, a4.count, by rw [ha.used]; exact a4.used, by rw [ha.now]; exact a4.names, by rw [ha.now]; exact a4.cover⟩⟩
end
end Go.Seg
namespace Go.Seg
open Go.Med
open Go.Frm (Bs Fnd encs GoodE fnds Ent)
open Go.Rep
structure HintOk (L : Log) (c : Nat) (us : List Use) (ps : List (Bs × Plc)) : Prop where
 segs : us.map (·.seg) = L.segs.take c
 use : ∀ u ∈ us, 0 ≤ u.live ∧ u.live ≤ u.size ∧ u.size = L.size u.seg ∧ u.size ≤ 33554432
 key : ∀ q ∈ ps, q.1.length = 32
 rise : ps.Pairwise fun a b => a.1 < b.1
 plc : ∀ q ∈ ps, 8 ≤ q.2.at_ ∧ 41 ≤ q.2.size ∧ q.2.at_ + q.2.size ≤ L.size q.2.seg ∧ q.2.seg ∈ L.segs.take c
section
variable {K r E B n c : Nat} {L : Log} {M : Med} {C : List (List Ent)}
theorem HG.seg_at (h : HG K r E B n L M C) (hc : c ≤ C.length) : ∀ s ∈ L.segs.take c, ∃ (j : Nat) (es : List Ent), s = (j : Int) ∧ j < c ∧ C[j]? = some es := fun s hs => by
 obtain ⟨j, hj⟩ := List.getElem?_of_mem hs
 rw [List.getElem?_take] at hj
 split at hj
 ·rename_i hjc
  have hl : j < C.length := by omega
  have := h.segs.2 j hl
  rw [hj] at this
  cases this
  exact ⟨j, C[j], rfl, hjc, List.getElem?_eq_getElem hl⟩
 ·cases hj
theorem HG.hint (h : HG K r E B n L M C) (hc : c ≤ C.length) {kv : List (Bs × Abt)} (hk : Tab.Lists (ledger (rowsOf (fun s => L.bytes M s) (L.segs.take c))) kv) (h32 : ∀ q ∈ kv, q.1.length = 32) :
  HintOk L c ((usesOf (fun s => L.bytes M s) (L.segs.take c)).map (upd kv)) (puts kv) := by
 have hok := rows_ok h.keeps.log M c
 rw [h.rows c] at hok hk
 have hseg := h.seg_at hc
 have hrow : ∀ p ∈ kv, ∃ r, r ∈ Rep.rowsC 0 (C.take c) ∧ rtag r ≠ 2 ∧ p.2.tag = rtag r ∧ p.2.place = rplc r := fun p hp => by
  have h1 := (hk.mem p.1 p.2).1 hp
  unfold ledger at h1
  obtain ⟨r, h2, h3⟩ := Option.map_eq_some_iff.1 h1
  obtain ⟨h4, h5, _⟩ := newest_some h2
  exact ⟨r, h4, h5, by rw [← h3], by rw [← h3]⟩
 refine ⟨?_, fun u hu => ?_, fun q hq => ?_, Rep.puts_rise hk.rise, fun q hq => ?_⟩
 ·unfold usesOf
  rw [List.map_map, List.map_map]
  conv => rhs; rw [← List.map_id (L.segs.take c)]
  rfl
 ·obtain ⟨u0, h1, rfl⟩ := List.mem_map.1 hu
  unfold usesOf at h1
  obtain ⟨s, hs, rfl⟩ := List.mem_map.1 h1
  obtain ⟨j, es, rfl, hjc, hj⟩ := hseg s hs
  have hb := h.bytes hj
  have hz := h.size hj
  have hlv := live_eq hok hk (j : Int)
  have hls := live_seg (l := Rep.rowsC 0 (C.take c)) (j : Int) _ (Nat.le_refl _)
  have hsm := segSum_is (C.take c) 0 j es (by rw [List.getElem?_take, if_pos hjc]; exact hj)
  rw [List.take_length] at hls
  rw [Nat.zero_add] at hsm
  have hm : mag.length = 8 := rfl
  have hsz := h.keeps.log.sizes _ (List.mem_of_getElem? (h.at_ j es hj))
  unfold upd
  simp only [hb, hz, List.length_append]
  rw [hlv, hsm] at hls
  simp only at hsz
  refine ⟨hls.1, ?_, trivial, ?_⟩
  ·have := hls.2; omega
  ·omega
 ·unfold puts at hq
  obtain ⟨p, hp, rfl⟩ := List.mem_map.1 hq
  exact h32 p (List.mem_filter.1 hp).1
 ·unfold puts at hq
  obtain ⟨p, hp, rfl⟩ := List.mem_map.1 hq
  obtain ⟨hp1, hp2⟩ := List.mem_filter.1 hp
  obtain ⟨r, h1, _, h3, h4⟩ := hrow p hp1
  obtain ⟨j, es, h5, h6, h7⟩ := Rep.rowsC_mem (C.take c) 0 h1
  obtain ⟨u, v, h8, h9, h10⟩ := Rep.fnds_mem es 8 h7
  have hjc : j < c := by
   have := (List.getElem?_eq_some_iff.1 h5).1
   rw [List.length_take] at this; omega
  have hj : C[j]? = some es := by rw [List.getElem?_take, if_pos hjc] at h5; exact h5
  have hg : GoodE r.2.e := (h.good es (List.mem_of_getElem? hj)).1 _ (by rw [h8]; simp)
  have hz := h.size hj
  have ht : r.2.e.tag = 0 := by
   have : p.2.tag = 0 := by simpa using hp2
   rw [h3] at this; exact this
  have hl : r.2.size = 41 + r.2.e.data.length := by
   rw [h10, size_enc hg.1 hg.2]
   unfold Frm.size
   rw [if_neg (by simp [(Frm.encode_zero hg.1).1]), if_neg (by rw [ht]; decide)]
  have hes : encs es = encs u ++ ((Frm.encode r.2.e).1 ++ encs v) := by rw [h8, encs_app]; rfl
  have hm : mag.length = 8 := rfl
  have hr1 : r.1 = (j : Int) := by rw [h6, Nat.zero_add]
  simp only
  rw [h4]
  show 8 ≤ (r.2.at_ : Int) ∧ 41 ≤ (r.2.size : Int) ∧ (r.2.at_ : Int) + (r.2.size : Int) ≤ L.size r.1 ∧ r.1 ∈ L.segs.take c
  rw [hr1, hz, List.length_append, hes, List.length_append, List.length_append]
  refine ⟨by omega, by omega, by omega, ?_⟩
  have hl : j < C.length := (List.getElem?_eq_some_iff.1 hj).1
  exact List.mem_of_getElem? (i := j) (by rw [List.getElem?_take, if_pos hjc]; exact h.segs.2 j hl)
end
def Log.stepH (L : Log) (M : Med) (c : Cal) : Log × Med := if c.kind = 1 then (L.commit M).1 else (L.append M c.e).1
def Log.playH : List Cal → Log → Med → Log × Med
 | [], L, M => (L, M)
 | c :: cs, L, M => Log.playH cs (L.stepH M c).1 (L.stepH M c).2
theorem playH_snoc (cs : List Cal) (c : Cal) : ∀ (L : Log) (M : Med), Log.playH (cs ++ [c]) L M = (Log.playH cs L M).1.stepH (Log.playH cs L M).2 c := by
 induction cs with
 | nil => intro L M; rfl
 | cons d cs ih => intro L M; exact ih _ _
structure PlH (n : Nat) (L : Log) (M : Med) (C : List (List Ent)) : Prop where
 holds : Holds n L M C
 shut : ShutL L M
 few : C.flatten.length ≤ n
structure DoneH (n : Nat) (L : Log) (M : Med) (C : List (List Ent)) : Prop where
 holds : Holds n L M C
 off : L.on = false
 fresh : L.fresh = 0
 flat : Flat M
 last : ∃ es, C ≠ [] ∧ C[C.length - 1]? = some es ∧ Rep.endsC es = true
 few : C.flatten.length ≤ n
section
variable {n : Nat} {L : Log} {M : Med} {C : List (List Ent)} {c : Cal}
theorem Holds.on_ne (h : Holds n L M C) {k : Nat} : L.fits k = true → C ≠ [] := fun hf => by
 have h1 := h.keeps.log.on (fits_on' hf)
 intro e
 have := h.len
 rw [e, List.length_nil] at this
 exact h1 (List.eq_nil_of_length_eq_zero this)
theorem Holds.put_few (h : Holds n L M C) (hf : C.flatten.length ≤ n) (x : Ent) : (put C (L.fits (Frm.encode x).1.length) x).flatten.length ≤ n + 1 := by
 rw [put_flat C _ _ h.on_ne, List.length_append, List.length_singleton]; omega
theorem PlH.step (h : PlH n L M C) (hn : n < 100) (hk : c.e.key.length = 32) (hd : c.e.data.length ≤ 300) : ∃ C', PlH (n + 1) (L.stepH M c).1 (L.stepH M c).2 C' ∧ (L.stepH M c).1.limit = L.limit := by
 unfold Log.stepH
 split
 ·obtain ⟨a1, a2, a3, a4⟩ := h.holds.commit hn
  exact ⟨_, ⟨a4, h.shut.commit h.holds.keeps a1, h.holds.put_few h.few _⟩, a3⟩
 ·by_cases h0 : (Frm.encode c.e).2 = 0
  ·obtain ⟨a1, a2, a3, a4, _, _⟩ := h.holds.append hn c.e hk hd h0
   exact ⟨_, ⟨a4, h.shut.put h.holds.keeps c.e a1, h.holds.put_few h.few _⟩, a3⟩
  ·rw [Log.append_bad h0]
   exact ⟨C, ⟨h.holds.mono1, h.shut, Nat.le_succ_of_le h.few⟩, rfl⟩
theorem PlH.start (lim : Int) (h1 : 128 ≤ lim) (h2 : lim ≤ 1048576) : PlH 0 ⟨lim, [], false, 0⟩ (new 1048576) [] :=
 ⟨Holds.start lim h1 h2, (fun p hp => by cases hp), Nat.le_refl _⟩
theorem PlH.play : ∀ (cs : List Cal) (n : Nat) (L : Log) (M : Med) (C : List (List Ent)), PlH n L M C → (∀ c ∈ cs, c.e.key.length = 32 ∧ c.e.data.length ≤ 300) → n + cs.length ≤ 100 →
  ∃ C', PlH (n + cs.length) (Log.playH cs L M).1 (Log.playH cs L M).2 C' ∧ (Log.playH cs L M).1.limit = L.limit
 | [], n, L, M, C, h, _, _ => ⟨C, h, rfl⟩
 | c :: cs, n, L, M, C, h, hd, hn => by
  rw [List.length_cons] at hn
  obtain ⟨C1, h1, h2⟩ := h.step (c := c) (by omega) (hd c (.head _)).1 (hd c (.head _)).2
  obtain ⟨C2, h3, h4⟩ := PlH.play cs (n + 1) _ _ C1 h1 (fun x hx => hd x (.tail _ hx)) (by omega)
  refine ⟨C2, ?_, h4.trans h2⟩
  rw [List.length_cons, show n + (cs.length + 1) = n + 1 + cs.length by omega]
  exact h3
theorem endsC_put (C : List (List Ent)) (b : Bool) : ∃ es, put C b comEnt ≠ [] ∧ (put C b comEnt)[(put C b comEnt).length - 1]? = some es ∧ Rep.endsC es = true := by
 unfold put
 cases b with
 | true =>
  simp only [if_true]
  refine ⟨C.getLastD [] ++ [comEnt], by simp, ?_, ?_⟩
  ·rw [List.length_append, List.length_singleton, Nat.add_sub_cancel, List.getElem?_append_right (Nat.le_refl _), Nat.sub_self]; rfl
  ·unfold Rep.endsC; rw [List.getLast?_concat]; rfl
 | false =>
  simp only [Bool.false_eq_true, if_false]
  refine ⟨[comEnt], by simp, ?_, rfl⟩
  rw [List.length_append, List.length_singleton, Nat.add_sub_cancel, List.getElem?_append_right (Nat.le_refl _), Nat.sub_self]; rfl
theorem commit_waits {K r : Nat} (k : Keeps K r L M) (h0 : (L.commit M).2.2 = 0) : (L.commit M).1.2.waits = [] ∧ (L.commit M).1.2.fast = (L.commit M).1.2.now ∧ (L.commit M).1.1.fresh = 0 ∧ (L.commit M).2.1 = (L.append M comEnt).2.1.seg := by
 rw [Log.commit_eq] at h0 ⊢
 split at h0
 ·rename_i g; exact absurd h0 g
 rename_i g1
 rw [if_neg g1]
 split at h0
 ·rename_i g; exact absurd h0 g
 rename_i g2
 rw [if_neg g2]
 split at h0
 ·rename_i g; exact absurd h0 g
 rename_i g3
 rw [if_neg g3]
 have k1 := (k.append comEnt rfl).1
 have hc := k1.calm.sync (name (L.append M comEnt).2.1.seg)
 have hd := hc.quiet.syncDir_eq
 refine ⟨?_, ?_, rfl, rfl⟩
 ·show ((L.append M comEnt).1.2.sync (name (L.append M comEnt).2.1.seg)).1.syncDir.1.waits = _
  rw [hd]
 ·show ((L.append M comEnt).1.2.sync (name (L.append M comEnt).2.1.seg)).1.syncDir.1.fast = ((L.append M comEnt).1.2.sync (name (L.append M comEnt).2.1.seg)).1.syncDir.1.now
  rw [hd]
theorem PlH.done (h : PlH n L M C) (hn : n < 100) : (L.commit M).2.2 = 0 ∧ (L.commit M).1.1.limit = L.limit ∧ ∃ C', DoneH (n + 1) (L.commit M).1.1 (L.commit M).1.2 C' ∧ C'.length ≤ n + 1 := by
 obtain ⟨a1, a2, a3, a4⟩ := h.holds.commit hn
 obtain ⟨w1, w2, w3, _⟩ := commit_waits h.holds.keeps a1
 have hs := (h.shut.commit h.holds.keeps a1).off a2
 exact ⟨a1, a3, _, ⟨a4, a2, w3, ⟨a4.keeps.calm.quiet, w2, w1, fun p hp => (hs p hp).resolve_right (by simp)⟩, endsC_put C _, h.holds.put_few h.few _⟩, a4.count⟩
theorem DoneH.run (h : DoneH n L M C) : Rep.run (fun s => L.bytes M s) L.segs = .inr C.length ∧ L.segs.length = C.length ∧ 0 < C.length := by
 obtain ⟨es, hne, he, hen⟩ := h.last
 have hl : 0 < C.length := List.length_pos_iff.2 hne
 obtain ⟨c, h1, h2, h3, h4⟩ := h.holds.run
 have e1 : c = C.length := by
  by_cases hh : c = C.length
  ·exact hh
  ·have := h4 (C.length - 1) es (by omega) he
   rw [hen] at this; cases this
 rw [← e1]
 exact ⟨h1, by rw [e1]; exact h.holds.segs.1, by omega⟩
end
end Go.Seg
namespace Go.Hin
open Go.Med
open Go.Seg (Log Keeps Holds HG DoneH HintOk mag)
open Go.Frm (Fnd encs GoodE fnds Ent)
open Go.Rep (Use)
def keptOf (L : Log) (M : Med) : Kept := L.l.map fun s => (Seg.name s.1, (nget M.now (Seg.name s.1)).getD 0, M.file ((nget M.now (Seg.name s.1)).getD 0))
section
variable {n K r E B : Nat} {L : Log} {M : Med} {C : List (List Ent)} {N : Int} {b1 b2 : Frm.Bs}
theorem kept_mem {t : ByteArray × Nat × Fil} (ht : t ∈ keptOf L M) (hh : Seg.Has L M) : ∃ s ∈ L.l, ∃ i, nget M.now (Seg.name s.1) = some i ∧ t = (Seg.name s.1, i, M.file i) := by
 obtain ⟨s, hs, rfl⟩ := List.mem_map.1 ht
 obtain ⟨i, hi⟩ := hh s hs
 exact ⟨s, hs, i, hi, by rw [hi]; rfl⟩
theorem mem_kept {s : Int × Int} (hs : s ∈ L.l) {i : Nat} (hi : nget M.now (Seg.name s.1) = some i) : (Seg.name s.1, i, M.file i) ∈ keptOf L M := by
 refine List.mem_map.2 ⟨s, hs, ?_⟩
 rw [hi]; rfl
theorem kept_cf (hh : Seg.Has L M) (hne : ∀ p ∈ M.now, p.1 ≠ ByteArray.empty) (h1 : 0 ≤ N) (h2 : N < 1048576) : Cf (keptOf L M) (name idx N) (name use N) := by
 refine ⟨name_ne N h1 h2, idx_ne_tmp N h1 h2, use_ne_tmp N h1 h2, good_ne (name_good rfl dCz N h1 h2), good_ne (name_good rfl dCz N h1 h2), fun t ht => ?_⟩
 obtain ⟨s, hs, i, hi, rfl⟩ := kept_mem ht hh
 refine ⟨fun e => ?_, seg_ne_idx _ _ h1 h2, seg_ne_use _ _ h1 h2, hne _ (nget_mem hi)⟩
 have hb := list_num e
 exact hb
where
 list_num {s : Int × Int} (e : Seg.name s.1 = tmp) : False := by
  have h := seg_name s.1
  rw [e] at h
  rcases h with h | ⟨h, _⟩
  ·exact tmp_ne h
  ·exact absurd h dCz
theorem kept_other (hh : Seg.Has L M) (h1 : 0 ≤ N) (h2 : N < 1048576) : ∀ s, ((∃ t ∈ keptOf L M, s = t.1) ∨ s = tmp ∨ s = name idx N ∨ s = name use N) → other N s = false := by
 rintro s (⟨t, ht, rfl⟩ | rfl | rfl | rfl)
 ·obtain ⟨x, hx, i, hi, rfl⟩ := kept_mem ht hh
  exact other_no (by rw [number_seg])
 ·exact other_no (by rw [number_tmp])
 ·exact other_self (number_of (.inl idx_l) N h1 h2)
 ·exact other_self (number_of (.inr use_l) N h1 h2)
theorem DoneH.none (h : DoneH n L M C) (hn : n ≤ 1000) {s : ByteArray} (hs : ∀ k : Nat, s ≠ Seg.name (k : Int)) : nget M.now s = none := by
 cases hi : nget M.now s with
 | none => rfl
 | some i =>
  obtain ⟨k, _, hk⟩ := h.holds.only _ _ hi
  exact absurd hk (hs k)
theorem tmp_ne_seg (k : Int) : tmp ≠ Seg.name k := fun e => by
 rcases seg_name k with q | ⟨q, _⟩
 ·rw [q] at e; exact tmp_ne e
 ·rw [← e] at q; exact absurd q dCz
theorem DoneH.sv (h : DoneH n L M C) (hn : n ≤ 1000) (h1 : 0 ≤ N) (h2 : N < 1048576) (b1 b2 : Frm.Bs) :
  Sv (keptOf L M) (name idx N) b1 (name use N) b2 (n * 5) M ∧ ∀ t ∈ keptOf L M, FFlat t.2.2 := by
 have hh := h.holds.keeps.has
 have hw := h.flat.waits
 refine ⟨⟨h.holds.keeps.calm.ok, fun k hk => ?_, fun t ht => ?_⟩, fun t ht => ?_⟩
 ·rw [hw] at hk
  obtain rfl : k = 0 := Nat.le_zero.1 hk
  have e : M.lastNames 0 = M.now := by unfold Med.lastNames; simp [h.flat.fast]
  rw [e]
  refine ⟨fun t ht => ?_, fun i hi => ?_, fun i hi => ?_, fun p hp => ?_⟩
  ·obtain ⟨s, hs, i, hi, rfl⟩ := kept_mem ht hh
   exact hi
  ·rw [DoneH.none h hn (fun k e => seg_ne_idx k N h1 h2 e.symm)] at hi; cases hi
  ·rw [DoneH.none h hn (fun k e => seg_ne_use k N h1 h2 e.symm)] at hi; cases hi
  ·have hi := nget_of_mem h.holds.keeps.calm.ok.nowOk.srt.keys (show (p.1, p.2) ∈ M.now from hp)
   obtain ⟨k, k1, k2⟩ := h.holds.only _ _ hi
   left
   have hat := h.holds.at_ k _ (List.getElem?_eq_getElem k1)
   rw [k2] at hi
   exact ⟨_, mem_kept (List.mem_of_getElem? hat) hi, k2⟩
 ·obtain ⟨s, hs, i, hi, rfl⟩ := kept_mem ht hh
  rfl
 ·obtain ⟨s, hs, i, hi, rfl⟩ := kept_mem ht hh
  exact h.flat.files _ (nget_mem hi)
structure Saved (N : Int) (b1 b2 : Frm.Bs) (K : Nat) (L : Log) (M M' : Med) : Prop where
 zero : (save M N b1 b2).2 = 0
 med : (save M N b1 b2).1 = M'
 calm : Seg.Calm K 1048576 M'
 sv : Sv (keptOf L M) (name idx N) b1 (name use N) b2 K M'
 one : ∃ i, nget M'.now (name idx N) = some i
 two : ∃ i, nget M'.now (name use N) = some i
 waits : M'.waits = []
 used : M'.used ≤ M.used + b1.length + b2.length
 len : M'.now.length ≤ M.now.length + 2
 names : ∀ p ∈ M'.now, p ∈ M.now ∨ p.1 = name idx N ∨ p.1 = name use N
theorem DoneH.saved (h : DoneH n L M C) (hn : n ≤ 100) (h1 : 0 ≤ N) (h2 : N < 1048576) (hb : b1.length + b2.length ≤ 100000) : Saved N b1 b2 (n * 5 + 10) L M (save M N b1 b2).1 := by
 obtain ⟨sv, hfl⟩ := DoneH.sv h (by omega) h1 h2 b1 b2
 have hh := h.holds.keeps.has
 have hc := kept_cf (N := N) hh h.holds.keeps.calm.ok.nowOk.ne h1 h2
 have ho := kept_other (N := N) hh h1 h2
 have hu := h.holds.used
 have hnm := h.holds.names
 obtain ⟨z1, z2, z3, z4, z5⟩ := save_zero (n := N) (b1 := b1) (b2 := b2) h.holds.keeps.calm (DoneH.none h (by omega) fun k => tmp_ne_seg k) (by omega) (by omega) (name_good rfl dCz N h1 h2) (name_good rfl dCz N h1 h2) hc.t1 hc.t2
  (fun p hp => ho p.1 (sv.now.only p hp)) (ho _ (.inr (.inr (.inl rfl)))) (ho _ (.inr (.inr (.inr rfl))))
 obtain ⟨s1, s2⟩ := sv.save rfl rfl hc ho
 obtain ⟨t1, t2, t3⟩ := s2 z1
 exact ⟨z1, rfl, z2, s1, t1, t2, t3, z3, z4, z5⟩
theorem Saved.hg {M' : Med} (s : Saved N b1 b2 K L M M') (h : Holds n L M C) (hn : n ≤ 100) (h1 : 0 ≤ N) (h2 : N < 1048576) (hb : b1.length + b2.length ≤ B) : HG K 1048576 2 B n L M' C := by
 have hfile : ∀ x ∈ L.l, ∃ i, nget M'.now (Seg.name x.1) = some i ∧ nget M.now (Seg.name x.1) = some i ∧ M'.file i = M.file i := fun x hx => by
  obtain ⟨i, hi⟩ := h.keeps.has x hx
  have hm := mem_kept hx hi
  exact ⟨i, s.sv.now.seg _ hm, hi, s.sv.fil _ hm⟩
 refine ⟨⟨h.keeps.log, s.calm, fun x hx => (hfile x hx).imp fun i q => q.1⟩, h.len, h.at_, fun k es hk => ?_, h.good, h.count, by have := s.used; have := h.used; omega, by have := s.len; have := h.names; omega, fun k i hk hi => ?_⟩
 ·have hat := List.mem_of_getElem? (h.at_ k es hk)
  obtain ⟨i, q1, q2, q3⟩ := hfile _ hat
  have hf := h.file k es hk
  rw [Seg.all_some h.keeps.calm.quiet q2] at hf
  rw [Seg.all_some s.calm.quiet q1, q3]; exact hf
 ·rcases s.names _ (nget_mem hi) with q | q | q
  ·have hi2 := nget_of_mem h.keeps.calm.ok.nowOk.srt.keys q
   obtain ⟨j, j1, j2⟩ := h.only _ _ hi2
   have := h.count
   have := Seg.name_inj (by omega) (by omega) (by omega) (by omega) j2
   omega
  ·exact absurd q (seg_ne_idx _ _ h1 h2)
  ·exact absurd q (seg_ne_use _ _ h1 h2)
end
end Go.Hin
namespace Go.Hin
open Go.Med
open Go.Seg (Log Keeps Holds HG DoneH HintOk mag Plc)
open Go.Frm (Fnd encs GoodE fnds Ent)
open Go.Rep (Use)
theorem create_now {M : Med} {s : ByteArray} {p : ByteArray × Nat} (h : p ∈ (M.create s).1.now) : p ∈ M.now ∨ p.1 = s := by
 obtain ⟨_, e1, e2, e3, e4⟩ := M.step_same
 unfold Med.create at h
 split at h; · exact .inl h
 split at h; · exact .inl h
 rename_i hg
 split at h; · exact .inl h
 split at h; · exact .inl h
 split at h; · rw [e2] at h; exact .inl h
 have h2 : p ∈ Lnk.on ⟨ByteArray.empty, s, M.files.length⟩ M.step.1.now := h
 rw [e2] at h2
 unfold Lnk.on at h2
 simp only [if_true, if_neg (good_ne (by simpa using hg) : s ≠ ByteArray.empty)] at h2
 rcases List.mem_cons.1 ((nput_perm _ _ _).mem_iff.1 h2) with rfl | h3
 ·exact .inr rfl
 ·exact .inl (List.mem_filter.1 h3).1
theorem append_now (M : Med) (s : ByteArray) (b : Bs) : (M.append s b).1.now = M.now := by
 obtain ⟨_, e1, e2, e3, e4⟩ := M.step_same
 unfold Med.append
 split; · rfl
 split; · rfl
 split; · rfl
 split; · exact e2
 exact e2
theorem sync_now (M : Med) (s : ByteArray) : (M.sync s).1.now = M.now := by
 obtain ⟨_, e1, e2, e3, e4⟩ := M.step_same
 unfold Med.sync
 split; · rfl
 split; · rfl
 split; · exact e2
 exact e2
theorem syncDir_now (M : Med) : M.syncDir.1.now = M.now := by
 obtain ⟨_, e1, e2, e3, e4⟩ := M.step_same
 unfold Med.syncDir
 split; · rfl
 split; · exact e2
 exact e2
theorem remove_now {M : Med} {s : ByteArray} {p : ByteArray × Nat} (h : p ∈ (M.remove s).1.now) : p ∈ M.now := by
 obtain ⟨_, e1, e2, e3, e4⟩ := M.step_same
 unfold Med.remove at h
 split at h; · exact h
 split at h; · exact h
 split at h; · rw [e2] at h; exact h
 have h2 : p ∈ Lnk.on ⟨s, ByteArray.empty, 0⟩ M.step.1.now := h
 rw [e2] at h2
 unfold Lnk.on at h2
 simp only [if_true] at h2
 split at h2
 ·exact h2
 ·exact (List.mem_filter.1 h2).1
def Grown (M M' : Med) : Prop := ∀ p ∈ M'.now, p ∈ M.now ∨ ∃ k, p.1 = Seg.name k
theorem Grown.refl (M : Med) : Grown M M := fun p hp => .inl hp
theorem Grown.trans {A B D : Med} (h : Grown A B) (k : Grown B D) : Grown A D := fun p hp => by
 rcases k p hp with q | q
 ·exact h p q
 ·exact .inr q
theorem Grown.same {A B : Med} (h : B.now = A.now) : Grown A B := fun p hp => .inl (by rw [← h]; exact hp)
theorem shut_grown (L : Log) (M : Med) : Grown M (L.shut M).1.2 := by
 unfold Log.shut
 split; · exact Grown.refl M
 split
 ·split <;> exact Grown.same (sync_now M _)
 ·exact Grown.refl M
theorem begin1_grown (L : Log) (M : Med) (b : Bs) : Grown M (L.begin1 M b).1.2 := by
 have hc : Grown M (M.create (Seg.name L.next)).1 := fun p hp => (create_now hp).imp id fun e => ⟨_, e⟩
 have ha : Grown M ((M.create (Seg.name L.next)).1.append (Seg.name L.next) (mag ++ b)).1 := hc.trans (Grown.same (append_now _ _ _))
 unfold Log.begin1
 split; · exact Grown.refl M
 split; · exact hc
 split; · exact ha
 split
 ·exact ha.trans fun p hp => .inl (remove_now hp)
 ·exact ha
theorem lappend_grown (L : Log) (M : Med) (x : Ent) : Grown M (L.append M x).1.2 := by
 unfold Log.append
 split; · exact Grown.refl M
 split
 ·unfold Log.grow
  split
  ·exact Grown.refl M
  ·split <;> exact Grown.same (append_now _ _ _)
 ·unfold Log.begin
  split
  ·exact (shut_grown L M).trans (begin1_grown _ _ _)
  ·exact shut_grown L M
theorem lcommit_grown (L : Log) (M : Med) : Grown M (L.commit M).1.2 := by
 have h := lappend_grown L M Seg.comEnt
 rw [Seg.Log.commit_eq]
 split; · exact h
 split; · exact h.trans (Grown.same (sync_now _ _))
 split; · exact h.trans ((Grown.same (sync_now _ _)).trans (Grown.same (syncDir_now _)))
 exact h.trans ((Grown.same (sync_now _ _)).trans (Grown.same (syncDir_now _)))
section
variable {n K B c : Nat} {L : Log} {M M' : Med} {C : List (List Ent)} {N : Int} {b1 b2 : Frm.Bs} {us : List Use}
theorem Saved.removed (s : Saved N b1 b2 K L M M') (h : HG K 1048576 2 B n L M' C) (h1 : 0 ≤ N) (h2 : N < 1048576) {x : Int} (hx : x ∈ L.segs) (hu : us.length = L.segs.length) (hN : ∀ y ∈ L.segs, y ≤ N) :
  (L.remove M' x).2 = 0 ∧ (L.remove M' x).1.2.all (name idx N) = (b1, 0) ∧ (L.remove M' x).1.2.all (name use N) = (b2, 0) ∧ there (L.remove M' x).1.2 (name idx N) = true ∧ there (L.remove M' x).1.2 (name use N) = true ∧
   (L.remove M' x).1.2.off = false ∧ fits (L.remove M' x).1.1 us N = false := by
 obtain ⟨k, hk⟩ := Seg.at_mem h.keeps.log (n := x) hx
 obtain ⟨h3, y, h4, h5⟩ := Seg.Log.at_lt hk
 obtain ⟨i, hi⟩ := h.keeps.has y (List.mem_of_getElem? h4)
 rw [h5] at hi
 have hr := Seg.remove_quiet h.keeps.calm.quiet hi
 have hc := h.keeps.calm.remove (Seg.name x)
 have hrem : L.remove M' x = ((L.without k, (M'.remove (Seg.name x)).1), 0) := by
  unfold Log.remove
  rw [hk]
  simp only
  rw [if_pos (by rw [hr])]
 rw [hrem]
 simp only
 have hnow : ∀ t, t ≠ Seg.name x → t ≠ ByteArray.empty → nget (M'.remove (Seg.name x)).1.now t = nget M'.now t := fun t ht hte => by
  rw [hr]
  exact Seg.on_ne (x := ⟨Seg.name x, ByteArray.empty, 0⟩) (l := M'.now) (fun e => ht e.symm) (fun e => hte e.symm)
 have hfile : ∀ j, (M'.remove (Seg.name x)).1.file j = M'.file j := fun j => by rw [hr]; rfl
 obtain ⟨i1, j1⟩ := s.one
 obtain ⟨i2, j2⟩ := s.two
 have g1 := hnow (name idx N) (fun e => seg_ne_idx x N h1 h2 e.symm) (good_ne (name_good rfl dCz N h1 h2))
 have g2 := hnow (name use N) (fun e => seg_ne_use x N h1 h2 e.symm) (good_ne (name_good rfl dCz N h1 h2))
 rw [j1] at g1
 rw [j2] at g2
 refine ⟨trivial, ?_, ?_, there_some hc.quiet g1, there_some hc.quiet g2, hc.quiet.off, ?_⟩
 ·rw [Seg.all_some hc.quiet g1, hfile, s.sv.now.one i1 j1]
 ·rw [Seg.all_some hc.quiet g2, hfile, s.sv.now.two i2 j2]
 ·cases hf : fits (L.without k) us N with
  | false => rfl
  | true =>
   exfalso
   have hl : (L.without k).segs.length = L.segs.length - 1 := by
    unfold Log.segs Log.without
    rw [List.length_map, List.length_map, List.length_eraseIdx, if_pos h3]
   have := fits_len (L.without k).segs 0 (fun y hy => hN y (by
    unfold Log.segs Log.without at hy
    obtain ⟨z, hz, rfl⟩ := List.mem_map.1 hy
    exact List.mem_map.2 ⟨z, List.mem_of_mem_eraseIdx hz, rfl⟩)) hf
   have hpos : 0 < L.segs.length := List.length_pos_of_mem hx
   omega
theorem Saved.commits (s : Saved N b1 b2 K L M M') (h : HG K 1048576 2 B n L M' C) (hn : n ≤ 100) (hB : B ≤ 500000) (hoff : L.on = false) (hN : N = (C.length : Int) - 1) (hN0 : 0 ≤ N) (hnm : ∀ p ∈ M'.now, (∃ k, p.1 = Seg.name k) ∨ p.1 = name idx N ∨ p.1 = name use N)
  (x : Ent) (hk : x.key.length = 32) (hd : x.data.length ≤ 300) : ((L.append M' x).1.1.commit (L.append M' x).1.2).2.2 = 0 ∧
   (C.length : Int) ≤ ((L.append M' x).1.1.commit (L.append M' x).1.2).2.1 ∧ ((L.append M' x).1.1.commit (L.append M' x).1.2).2.1 < 1048576 ∧
   nget ((L.append M' x).1.1.commit (L.append M' x).1.2).1.2.now (name idx ((L.append M' x).1.1.commit (L.append M' x).1.2).2.1) = none ∧ Seg.Calm (K + 9) 1048576 ((L.append M' x).1.1.commit (L.append M' x).1.2).1.2 := by
 have hg : ∃ C1 n1, HG (K + 4) 1048576 2 B n1 (L.append M' x).1.1 (L.append M' x).1.2 C1 ∧ n1 ≤ 101 ∧ C.length ≤ C1.length ∧ ((L.append M' x).1.1.on = true → C.length < C1.length) := by
  by_cases h0 : (Frm.encode x).2 = 0
  ·obtain ⟨a1, a2, a3, a4, _⟩ := h.append (by omega) x hk hd h0 (.inr ⟨by have := h.used; have := h.keeps.calm.room; omega, by have := h.names; omega⟩)
   have hf : L.fits (Frm.encode x).1.length = false := by unfold Log.fits; rw [hoff]; rfl
   rw [hf] at a4
   refine ⟨_, n + 1, a4, by omega, ?_, fun _ => ?_⟩
   ·unfold Seg.put; simp
   ·unfold Seg.put; simp
  ·refine ⟨C, n, ?_, by omega, Nat.le_refl _, fun e => ?_⟩
   ·rw [Seg.Log.append_bad h0]; exact h.mono (by omega) (Nat.le_refl _) (Nat.le_refl _) (Nat.le_refl _)
   ·rw [Seg.Log.append_bad h0] at e
    rw [hoff] at e; cases e
 have hgr := (lappend_grown L M' x).trans (lcommit_grown (L.append M' x).1.1 (L.append M' x).1.2)
 obtain ⟨C1, n1, g1, g2, g3, g4⟩ := hg
 generalize (L.append M' x).1.1 = L1 at *
 generalize (L.append M' x).1.2 = M1 at *
 have hz : M1.used + 400 ≤ M1.room ∧ M1.now.length < 500 := ⟨by have := g1.used; have := g1.keeps.calm.room; omega, by have := g1.names; omega⟩
 obtain ⟨c1, c2, c3, c4⟩ := g1.commit (by omega) (.inr hz)
 obtain ⟨_, _, _, w4⟩ := Seg.commit_waits g1.keeps c1
 obtain ⟨_, _, _, _, _, a6⟩ := g1.append (by omega) Seg.comEnt rfl dCz rFz (.inr hz)
 have hlen : C.length + 1 ≤ (Seg.put C1 (L1.fits (Frm.encode Seg.comEnt).1.length) Seg.comEnt).length := by
  unfold Seg.put
  split
  ·rename_i hf
   have := g4 (Seg.fits_on' hf)
   rw [List.length_append, List.length_dropLast, List.length_singleton]; omega
  ·rw [List.length_append, List.length_singleton]; omega
 have hcnt := c4.count
 have hpos : (L1.commit M1).2.1 = ((Seg.put C1 (L1.fits (Frm.encode Seg.comEnt).1.length) Seg.comEnt).length : Int) - 1 := by rw [w4, a6]
 refine ⟨c1, by omega, by omega, ?_, c4.keeps.calm⟩
 generalize (L1.commit M1).2.1 = P at *
 cases hi : nget (L1.commit M1).1.2.now (name idx P) with
 | none => rfl
 | some i =>
  exfalso
  have hP1 : 0 ≤ P := by omega
  have hP2 : P < 1048576 := by omega
  have hnum := number_of (.inl idx_l) P hP1 hP2
  rcases hgr _ (nget_mem hi) with q | ⟨k, q⟩
  ·rcases hnm _ q with ⟨k, q⟩ | q | q
   ·simp only at q
    rw [q, number_seg] at hnum; simp at hnum
   ·simp only at q
    rw [q, number_of (.inl idx_l) N hN0 (by have := h.count; omega)] at hnum
    have := congrArg Prod.fst hnum
    simp only at this
    omega
   ·simp only at q
    rw [q, number_of (.inr use_l) N hN0 (by have := h.count; omega)] at hnum
    have := congrArg Prod.fst hnum
    simp only at this
    omega
  ·simp only at q
   rw [q, number_seg] at hnum; simp at hnum
end
end Go.Hin
namespace Go.Hin
open Go.Med
open Go.Seg (Log Keeps Holds HG DoneH HintOk mag Plc)
open Go.Frm (Fnd encs GoodE fnds Ent)
open Go.Rep (Use)
structure Hd (T : Kept) (P : ByteArray → Prop) (K : Nat) (M : Med) : Prop where
 ok : M.Ok K
 nm : ∀ k, k ≤ M.waits.length → (∀ t ∈ T, nget (M.lastNames k) t.1 = some t.2.1) ∧ ∀ p ∈ M.lastNames k, (∃ t ∈ T, p.1 = t.1) ∨ P p.1
 fil : ∀ t ∈ T, M.file t.2.1 = t.2.2
section
variable {T : Kept} {P : ByteArray → Prop} {K K' r : Nat} {M : Med} {s : ByteArray} {L : Log} {N : Int}
end
section
variable {T : Kept} {P : ByteArray → Prop} {n K K' E B c : Nat} {L : Log} {M M' : Med} {C : List (List Ent)} {N : Int} {b1 b2 : Frm.Bs} {us : List Use}
end
end Go.Hin
namespace Go.Seg
def Cal.cutH (c : Cal) : Cal := ⟨c.kind, Frm.cutE 120 c.e, c.n, c.p, c.l.take 40⟩
def fewCH (l : List Cal) (n : Nat) : List Cal := (l.take n).map Cal.cutH
end Go.Seg
namespace Go.Proofs.YtlinnpehkfbnkaaGreatDoor
open Go Go.Sl Go.Med Go.MapKept Go.RowKit
section
variable {w0 w : World} {F R : List HProp} {v bv dv x lv : Value}
theorem fewH_keys {ds es : List SD} {i : Nat} (h : es.map (·.c) = ((ds.map (·.c)).take i).map Seg.Cal.cutH) (hk : ∀ p ∈ ds, p.c.e.key.length = 32) : ∀ p ∈ es, p.c.e.key.length = 32 := by
 intro p hp
 have h1 : p.c ∈ es.map (·.c) := List.mem_map.2 ⟨p, hp, rfl⟩
 rw [h, List.mem_map] at h1
 obtain ⟨x, hx, he⟩ := h1
 obtain ⟨q, hq, rfl⟩ := List.mem_map.1 (List.mem_of_mem_take hx)
 rw [← he]
 exact hk q hq
set_option maxRecDepth 20000 in
theorem fewH_c (ds : List SD) (n : Nat) (hn : n ≤ 1048576) (hr : Ro w0 F (rdsl 40 lv (sdsL ds))) (he : ∀ d ∈ ds, SDRo w0 F d) (h : Sat w0 w F) :
  Calls Tryz.prog 9 #[lv, .int .i64 n] w (Rtn fun v w' => ∃ (es : List SD) (ov : Value), v = ov ∧ es.map (·.c) = Seg.fewCH (ds.map (·.c)) n ∧ (∀ d ∈ es, Ro w0 F (rdsl 1 d.lv (ints d.c.l)) ∧ capOk d.lv) ∧
   Sat w0 w' (osl 63 40 ov (sdsL es) :: dataD es :: F)) := by
 obtain ⟨la, ln, lc, rfl, hl, _⟩ := hr w h
 rw [sdsL_len (fun p hp => (he p hp).key)] at hl
 obtain rfl : ln = ds.length := by omega
 have Hr := Lib.hid hr; have He := Lib.hid he; have Hn := Lib.hid hn
 clear hr he hl hn
 go_enter Tryz.func9, Tryz.ntmps9
 go_wp2_with fail
 go_loopg [5, 6] ds.length (fun g ov iq wr => ∃ (i : Nat) (es : List SD), g = ds.length - i ∧ i ≤ ds.length ∧ i ≤ n ∧ iq = .int .i64 i ∧ es.map (·.c) = ((ds.map (·.c)).take i).map Seg.Cal.cutH ∧ (∀ d ∈ es, Ro w0 F (rdsl 1 d.lv (ints d.c.l)) ∧ capOk d.lv) ∧
  Sat w0 wr (osl 63 40 ov (sdsL es) :: dataD es :: F))
 case atStart => exact ⟨0, [], rfl, Nat.zero_le _, Nat.zero_le _, rfl, rfl, (fun d hd => by cases hd), Sat.osl_nil.2 (Sat.emp.2 h)⟩
 case round =>
  obtain ⟨i, es, rfl, hi, hin, rfl, hfs, hls, hS⟩ := hrel
  have Hfs := Lib.hid hfs; have Hi := Lib.hid hi; have Hin := Lib.hid hin; have Hls := Lib.hid hls
  clear h hfs hi hin hls
  by_cases hlt : i < ds.length ∧ i < n
  ·obtain ⟨hl1, hl2⟩ := hlt
   have c1 : (i : Int) < (ds.length : Int) := by omega
   have c2 : (i : Int) < (n : Int) := by omega
   have hwi : IntKind.i64.wrap ((i : Int) + 1) = (i : Int) + 1 := IntWalk.i64_in _ (by have := Hn.out; omega)
   have Hl1 := Lib.hid hl1; have Hl2 := Lib.hid hl2
   have Hfk := Lib.hid (fewH_keys Hfs.out (fun p hp => (He.out p hp).key))
   clear hl1 hl2
   obtain ⟨x, hx⟩ : ∃ x, ds[i]? = some x := ⟨_, List.getElem?_eq_getElem Hl1.out⟩
   have hxe := He.out x (List.mem_of_getElem? hx)
   have hk : ∀ p ∈ ds, p.c.e.key.length = 32 := fun p hp => (He.out p hp).key
   have hcut := Lib.hid (show es.map (·.c) ++ [x.c.cutH] = ((ds.map (·.c)).take (i + 1)).map Seg.Cal.cutH by
    rw [Hfs.out, List.take_add_one, List.map_append, List.getElem?_map, hx]; rfl)
   have hrF : Ro w0 (osl 63 40 u5 (sdsL es) :: dataD es :: F) (rdsl 40 (.slice la ds.length lc) (sdsL ds)) := Ro.os Hr.out
   have hx0 : (sdsL ds)[i * 40 + 0]? = some (.int .i64 x.c.kind) := sdsL_at hk hx rfl
   obtain ⟨bk, off, rfl, _⟩ := rdsl_cells (hrF _ hS) hx0
   have HG := Lib.hid (show ∀ w' L, Ro w0 L (rdsl 40 (.slice (some ⟨bk, off, none⟩) ds.length lc) (sdsL ds)) → Sat w0 w' L → ∀ j v, (sdL x)[j]? = some v → w'.cell? ⟨bk, off + i * 40 + j, none⟩ = some v by
    intro w' L hL hw j v hj
    obtain ⟨bk', off', hbo, hcell⟩ := rdsl_cells (hL w' hw) hx0
    cases hbo
    have := hcell _ _ (sdsL_at hk hx hj)
    rw [← Nat.add_assoc] at this
    exact this)
   obtain ⟨⟨kind, e, xn, xp, xl⟩, dv, lv⟩ := x
   obtain ⟨hkey, hrd, hcap, hrl, hcapl⟩ := hxe
   obtain ⟨da, dn, dc, rfl, hdn, hdc⟩ := hcap
   obtain ⟨la2, ln2, lc2, rfl, hln2, hlc2⟩ := hcapl
   have hdl : dn = e.data.length := by
    obtain ⟨a', n', c', he, hl, _⟩ := hrd _ (hS.sb)
    cases he
    rw [bys_len, Nat.mul_one] at hl; exact hl.symm
   subst hdl
   have Hrd := Lib.hid hrd; have Hrl := Lib.hid hrl; have Hkey := Lib.hid hkey
   have Hones := Lib.hid (sdA_ones ⟨⟨kind, e, xn, xp, xl⟩, .slice da e.data.length dc, .slice la2 ln2 lc2⟩ rfl rfl)
   have Hsize := Lib.hid (sdA_size ⟨⟨kind, e, xn, xp, xl⟩, .slice da e.data.length dc, .slice la2 ln2 lc2⟩ hkey)
   clear hx hk hrF hx0 hrd hrl hkey
   go_wp2_with (first
    | ((with_reducible apply at_load); refine ⟨?_⟩; refine wl_loadW (b := bk) (o := off + i * 40) (sdL ⟨⟨kind, e, xn, xp, xl⟩, .slice da e.data.length dc, .slice la2 ln2 lc2⟩) rFz (HG.out _ _ (Ro.os Hr.out) hS) Tryz.underlying63 rfl (by rw [sdL_len _ Hkey.out]; exact infoDo) ?_)
    | ((with_reducible apply at_alloc); refine ⟨?_⟩; refine wl_alloc zDo (by assumption) rfl ?_; intro q w1 hS1)
    | ((with_reducible apply at_store); refine ⟨?_⟩; refine wl_storeA (sdA ⟨⟨kind, e, xn, xp, xl⟩, .slice da e.data.length dc, .slice la2 ln2 lc2⟩) hS1 (cs := sdA zeroD) rFz rFz (Hsize.out.trans (sdA_size zeroD rfl).symm) upD (by rw [Hsize.out]; exact infoDo) Hones.out ?_; intro w2 hS2)
    | ((with_reducible apply at_load); refine ⟨?_⟩; refine wl_loadN (b := q) (o := 1) (entL e (.slice da e.data.length dc)) hS2 rFz pkD (sdA_ent _ Hkey.out) Tryz.underlying27 rfl (by rw [entL_len e _ Hkey.out]; exact infoEntSize) ?_)
    | ((with_reducible apply at_buildE); refine ⟨?_⟩; refine wl_buildE hS2 rFz Hkey.out ?_; intro bN wN hN))
   refine (few_c (lv := .slice (some ⟨bN, 0, none⟩) 1 1) [(e, .slice da e.data.length dc)] 1 120 dCz dCz (ro_one Hkey.out) (fun p hp => by
    rw [List.mem_singleton] at hp
    subst hp
    exact ⟨Hkey.out, Ro.os Hrd.out, ⟨_, _, _, rfl, hdn, hdc⟩⟩) hN).mono ?_
   rintro ee w3 ⟨v, rfl, fs, hfs, hS3⟩
   obtain ⟨dv2, rfl⟩ := few_one hfs
   have hk2 : (Frm.cutE 120 e).key.length = 32 := Hkey.out
   obtain ⟨b2, c2, cs2, da2, dc2, rfl, rfl, hcs, hS4⟩ := few_open hk2 hS3
   have Hk2 := Lib.hid hk2
   have Hcut2 := Lib.hid (show (⟨kind, Frm.cutE 120 e, xn, xp, xl.take 40⟩ : Seg.Cal) = Seg.Cal.cutH ⟨kind, e, xn, xp, xl⟩ from rfl)
   generalize Frm.cutE 120 e = f at *
   have Hcs := Lib.hid hcs
   have Hones2 := Lib.hid (sdA_ones ⟨⟨kind, f, xn, xp, xl⟩, .slice da2 f.data.length dc2, .slice la2 ln2 lc2⟩ rfl rfl)
   clear hcs hS3 hfs hN hS2 hS1 hS hk2 Hones
   go_wp2_with (first
    | ((with_reducible apply at_load); refine ⟨?_⟩; refine wl_loadEs (b := b2) (o := 0) (by assumption) rFz pkD Hk2.out Hcs.out ?_)
    | ((with_reducible apply at_store); refine ⟨?_⟩; refine wl_store (b := q) (o := 1) (v := .agg (entA f (.slice da2 f.data.length dc2))) (by assumption) rFz rFz (puts_ent _ Hkey.out f (.slice da2 f.data.length dc2) Hk2.out) upD (by rw [Hsize.out]; show 1 + (entA f _).size ≤ 40; rw [entA_size _ _ Hk2.out]; decide) (by show _ = some (entA f _).size; rw [entA_size _ _ Hk2.out]; exact infoEntSize) (entA_one _ _ _ _) ?_; intro w5 hS5)
    | (with_reducible apply at_load))
   generalize hd2 : (⟨⟨kind, f, xn, xp, xl⟩, .slice da2 f.data.length dc2, .slice la2 ln2 lc2⟩ : SD) = d2 at hS5
   have hd2k : d2.c.e.key.length = 32 := by rw [← hd2]; exact Hk2.out
   have hd2l : d2.lv = .slice la2 ln2 lc2 := by rw [← hd2]
   have Hd2k := Lib.hid hd2k
   refine ⟨?_⟩
   refine wl_load1 (b := q) (o := 39) (v := .slice la2 ln2 lc2) hS5 rFz pkD (by rw [sdA_size _ hd2k]; decide) (by rw [sdA_l _ hd2k, hd2l]) kRz ?_
   go_wp2_with fail
   have hnu := numbers_c la2 ln2 lc2 40 hln2 hlc2
   refine (hnu _).mono ?_
   rintro ee w6 ⟨v, rfl, rfl, rfl⟩
   clear hnu
   generalize hd3 : (⟨⟨kind, f, xn, xp, xl.take 40⟩, .slice da2 f.data.length dc2, .slice la2 (min ln2 40) lc2⟩ : SD) = d3
   have hput : putsAt (sdA d2) 39 [.slice la2 (min ln2 40) lc2] = sdA d3 := by rw [puts_l _ hd2k (xl.take 40), ← hd2, ← hd3]
   have hd3k : d3.c.e.key.length = 32 := by rw [← hd3]; exact Hk2.out
   have Hd3k := Lib.hid hd3k
   have Hones3 := Lib.hid (show (sdA d3).toList.all (·.oneCell') = true by rw [← hd3]; exact sdA_ones _ rfl rfl)
   have hlen : (sdsL es).length ≤ 2147483648 := by
    rw [sdsL_len Hfk.out]
    have := congrArg List.length Hfs.out
    simp only [List.length_map, List.length_take] at this
    have := Hn.out; have := Hin.out; omega
   have Hput := Lib.hid hput
   clear hput hd2l
   go_wp2_with (first
    | ((with_reducible apply at_store); refine ⟨?_⟩; refine wl_store (b := q) (o := 39) (v := .slice la2 (min ln2 40) lc2) hS5 rFz rFz Hput.out upD (by rw [sdA_size _ Hd2k.out]; exact Nat.le_refl 40) kRz rFz ?_; intro w7 hS7)
    | ((with_reducible apply at_load); refine ⟨?_⟩; refine wl_loadA (b := q) hS7 rFz pkD Tryz.underlying63 rfl (by rw [sdA_size _ Hd3k.out]; exact infoDo) ?_)
    | ((with_reducible apply at_build1); refine ⟨?_⟩; refine wl_build1 (e := 63) (sz := 40) (by' := 128) kRz hS7 rFz (cs := sdA d3) rfl (sdA_size _ Hd3k.out) nLz ?_; intro bN wN hN)
    | ((with_reducible apply at_append); refine ⟨?_⟩; refine wl_app 63 40 128 kRz hN rFz rFz pkD pkD ((sdA_size _ Hd3k.out).trans dCz) (Nat.le_refl 1) Hones3.out hlen (by rw [sdA_size _ Hd3k.out]; decide) dCz rfl ?_; intro bA nA cA wA hA))
   go_roundg (ds.length - (i + 1))
   case measure => have := Hl1.out; omega
   case rel =>
    refine ⟨i + 1, es ++ [d3], rfl, Nat.succ_le_of_lt Hl1.out, Nat.succ_le_of_lt Hl2.out, by first | rfl | go_num, ?_, ?_, ?_⟩
    ·rw [← hcut.out, List.map_append, ← Hcut2.out, ← hd3]; rfl
    ·intro d hd
     rcases List.mem_append.1 hd with hd | hd
     ·exact Hls.out d hd
     ·rw [List.mem_singleton.1 hd, ← hd3]
      exact ⟨fun w hw => rdsl_cutI (Hrl.out w hw), ⟨_, _, _, rfl, Nat.le_trans (Nat.min_le_left _ _) hln2, hlc2⟩⟩
    ·rw [sdsL_snoc, dataD_snoc]
     have e4 : bsl d3.dv d3.c.e.data = bsl (.slice da2 f.data.length dc2) f.data := by rw [← hd3]
     rw [e4]
     have h10 : Sat w0 wA (bsl (.slice da2 f.data.length dc2) f.data :: dataD es :: osl 63 40 (.slice (some ⟨bA, 0, none⟩) nA cA) (sdsL es ++ (sdA d3).toList) :: F) := hA.sb
     exact (Sat.star.2 h10).pick1
  ·have hfin : es.map (·.c) = Seg.fewCH (ds.map (·.c)) n := by
    rw [Hfs.out]
    unfold Seg.fewCH
    congr 1
    have := Hi.out; have := Hin.out
    by_cases hh : i = n
    ·rw [hh]
    ·rw [List.take_of_length_le (by rw [List.length_map]; omega), List.take_of_length_le (by rw [List.length_map]; omega)]
   have Hfin := Lib.hid hfin
   by_cases hl1 : i < ds.length
   ·have c1 : (i : Int) < (ds.length : Int) := by omega
    have c2 : ¬ (i : Int) < (n : Int) := by omega
    clear hfin hlt hl1
    go_wp2
    go_ret
    exact ⟨_, rfl, es, Hfin.out, Hls.out, hS⟩
   ·have c1 : ¬ (i : Int) < (ds.length : Int) := by omega
    clear hfin hlt hl1
    go_wp2
    go_ret
    exact ⟨_, rfl, es, Hfin.out, Hls.out, hS⟩
end
theorem res3H {fn : Func} {t u v : Tmp} (h : fn.results = #[.tmp t, .tmp u, .tmp v]) (tmps : Array Value) (P : Program) (w : World) :
  (results fn tmps).run P w = .ok (.tuple #[tmps.getD t undef, tmps.getD u undef, tmps.getD v undef]) w := by
 simp [results, h]
section
variable {w0 w : World} {F : List HProp} {lv : Value}
set_option maxRecDepth 20000 in
theorem played16_c (z : Int) (ds : List SD) (hr : Ro w0 F (rdsl 40 lv (sdsL ds))) (he : ∀ d ∈ ds, d.c.e.key.length = 32 ∧ Ro w0 F (rdsl 1 d.dv (bys d.c.e.data))) (hn : ds.length ≤ 30) (hd : ∀ d ∈ ds, d.c.e.data.length ≤ 300) (hH : Ro w0 F Half) (h : Sat w0 w F) :
  Calls Tryz.prog 8 #[.int .i64 z, lv] w (Rtn fun v w' => ∃ (p m : Nat) (L : Seg.Log) (M : Med) (C : List (List Frm.Ent)), v = .tuple #[ptr p, ptr m, .bool true] ∧ (Seg.DoneH (ds.length + 1) L M C ∧ C.length ≤ ds.length + 1 ∧ L.limit = within z 128 2000) ∧ Sat w0 w' (LogRep p m L :: MedRep m M :: F)) := by
 obtain ⟨la, ln, lc, rfl, hl, _⟩ := hr w h
 rw [sdsL_len (fun p hp => (he p hp).1)] at hl
 obtain rfl : ln = ds.length := by omega
 have HH := Lib.hid hH; have Hr := Lib.hid hr; have He := Lib.hid he; have Hn := Lib.hid hn; have Hd := Lib.hid hd
 have hlim := within_mem z 128 2000 dCz
 have hwi := within_c z 128 2000
 generalize within z 128 2000 = lim at *
 have Hlim := Lib.hid (show 128 ≤ lim ∧ lim ≤ 1048576 by omega)
 have P0 := Lib.hid (Seg.PlH.start lim Hlim.out.1 Hlim.out.2)
 clear hr he hn hd hH hlim hl
 go_enter Tryz.func8, Tryz.ntmps8
 have hnew : Calls Tryz.prog 46 #[.int .i64 1048576] w (Rtn fun v w' => ∃ m, v = .tuple #[ptr m, errno 0] ∧ Sat w0 w' (MedRep m (Med.new 1048576) :: F)) := new_yes 1048576 dCz h
 go_wp2_with fail
 refine hnew.mono ?_
 rintro ee w2 ⟨v, rfl, m, rfl, h2⟩
 clear hnew h
 go_wp2_with fail
 refine (hwi _).mono ?_
 rintro ee w1 ⟨v, rfl, rfl, rfl⟩
 clear hwi
 have hop := open_c (K := 0) (Med.Ok.new 0 1048576 dCz) lim h2 rFz Hlim.out.1 Hlim.out.2
 rw [show Seg.fresh (Med.new 1048576) lim = ⟨lim, [], false, 0⟩ from rfl] at hop
 go_wp2_with fail
 refine hop.mono ?_
 rintro ee w4 ⟨v, rfl, p, rfl, h4⟩
 clear hop h2
 have Hl0 := Lib.hid (show (⟨lim, [], false, 0⟩ : Seg.Log).limit = lim from rfl)
 generalize (⟨lim, [], false, 0⟩ : Seg.Log) = L0 at *
 generalize Med.new 1048576 = M0 at *
 go_wp2_with fail
 go_loopg [11] ds.length (fun g iq wr => ∃ (i : Nat) (cs : List Seg.Cal), g = ds.length - i ∧ i ≤ ds.length ∧ iq = .int .i64 i ∧ cs = (ds.map (·.c)).take i ∧
  Sat w0 wr (LogRep p m (Seg.Log.playH cs L0 M0).1 :: MedRep m (Seg.Log.playH cs L0 M0).2 :: F))
 case atStart => exact ⟨0, [], rfl, Nat.zero_le _, rfl, rfl, h4⟩
 case round =>
  obtain ⟨i, cs, rfl, hi, rfl, hcs, hS⟩ := hrel
  clear h4
  have hcl : cs.length = i := by rw [hcs, List.length_take, List.length_map]; omega
  have hpl := Seg.PlH.play cs 0 L0 M0 [] P0.out (fun c hc => by
   rw [hcs] at hc
   obtain ⟨d, hd, rfl⟩ := List.mem_map.1 (List.mem_of_mem_take hc)
   exact ⟨(He.out d hd).1, Hd.out d hd⟩) (by rw [hcl]; have := Hn.out; omega)
  rw [hcl, Nat.zero_add] at hpl
  obtain ⟨C, hpl, hlim⟩ := hpl
  have Hpl := Lib.hid hpl; have Hlm := Lib.hid (hlim.trans Hl0.out)
  have Hcs := Lib.hid hcs
  clear hpl hlim hcl hcs
  by_cases hlt : i < ds.length
  rotate_left
  ·as_aux_lemma =>
    have c1 : ¬ (i : Int) < (ds.length : Int) := by omega
    obtain rfl : i = ds.length := by omega
    clear hlt hi
    generalize Seg.Log.playH cs L0 M0 = q at *
    obtain ⟨L, M⟩ := q
    have hdn := Hpl.out.done (by have := Hn.out; omega)
    have hcm := lcommit_c (Ro.os HH.out) Hpl.out.holds.keeps.log Hpl.out.holds.keeps.calm.ok (by have := Hn.out; omega) hS
    obtain ⟨d1, d2, C', d3, d4⟩ := hdn
    have Hdn := Lib.hid (And.intro d3 (And.intro d4 (d2.trans Hlm.out)))
    generalize L.commit M = r at *
    obtain ⟨⟨L2, M2⟩, n2, e2⟩ := r
    dsimp only at d1 hcm Hdn
    subst d1
    clear hS d2 d3 d4 Hpl Hlm
    go_wp2_with fail
    refine hcm.mono ?_
    rintro ee w5 ⟨v, rfl, rfl, h5⟩
    clear hcm
    go_wp2_with fail
    refine ⟨rfl, _, res3H rfl _ _ _, ?_⟩
    exact ⟨_, rfl, p, m, L2, M2, C', rfl, Hdn.out, h5⟩
  have c1 : (i : Int) < (ds.length : Int) := by omega
  have hwi : IntKind.i64.wrap ((i : Int) + 1) = (i : Int) + 1 := IntWalk.i64_in _ (by have := Hn.out; omega)
  have Hlt := Lib.hid hlt
  clear hlt hi
  obtain ⟨x, hx⟩ : ∃ x, ds[i]? = some x := ⟨_, List.getElem?_eq_getElem Hlt.out⟩
  have hxe := He.out x (List.mem_of_getElem? hx)
  have hk : ∀ p ∈ ds, p.c.e.key.length = 32 := fun p hp => (He.out p hp).1
  have Hsn := Lib.hid (show cs ++ [x.c] = (ds.map (·.c)).take (i + 1) by rw [Hcs.out, List.take_add_one, List.getElem?_map, hx]; rfl)
  have Hps := Lib.hid (Seg.playH_snoc cs x.c L0 M0)
  have hx0 : (sdsL ds)[i * 40 + 0]? = some (.int .i64 x.c.kind) := sdsL_at hk hx rfl
  obtain ⟨bk, off, rfl, _⟩ := rdsl_cells ((Ro.os Hr.out) _ hS) hx0
  have HG := Lib.hid (show ∀ w' L, Ro w0 L (rdsl 40 (.slice (some ⟨bk, off, none⟩) ds.length lc) (sdsL ds)) → Sat w0 w' L → ∀ j v, (sdL x)[j]? = some v → w'.cell? ⟨bk, off + i * 40 + j, none⟩ = some v by
   intro w' L hL hw j v hj
   obtain ⟨bk', off', hbo, hcell⟩ := rdsl_cells (hL w' hw) hx0
   cases hbo
   have := hcell _ _ (sdsL_at hk hx hj)
   rw [← Nat.add_assoc] at this
   exact this)
  obtain ⟨⟨kind, e, xn, xp, xl⟩, dv, lv⟩ := x
  obtain ⟨hkey, hrd⟩ := hxe
  obtain ⟨da, dn, dc, rfl, hdl, _⟩ := hrd _ (hS.sb)
  rw [bys_len, Nat.mul_one] at hdl
  obtain rfl : dn = e.data.length := hdl.symm
  clear hdl
  have Hrd := Lib.hid hrd; have Hkey := Lib.hid (show e.key.length = 32 from hkey)
  have Hde := Lib.hid (show e.data.length ≤ 300 from Hd.out _ (List.mem_of_getElem? hx))
  have e0 : wr.cell? ⟨bk, off + i * 40, none⟩ = some (.int .i64 kind) := HG.out wr _ (Ro.os Hr.out : Ro w0 (LogRep p m (Seg.Log.playH cs L0 M0).1 :: MedRep m (Seg.Log.playH cs L0 M0).2 :: F) _) hS 0 _ rfl
  have HCE := Lib.hid (show ∀ j v, (entL e (.slice da e.data.length dc))[j]? = some v → wr.cell? ⟨bk, off + i * 40 + 1 + j, none⟩ = some v from fun j v hj => by
   have := HG.out wr _ (Ro.os Hr.out : Ro w0 (LogRep p m (Seg.Log.playH cs L0 M0).1 :: MedRep m (Seg.Log.playH cs L0 M0).2 :: F) _) hS (1 + j) v (sdL_ent ⟨⟨kind, e, xn, xp, xl⟩, .slice da e.data.length dc, lv⟩ Hkey.out hj)
   rw [← Nat.add_assoc] at this; exact this)
  clear hx hk hx0 hrd hkey
  have hok := Hpl.out.holds.keeps.log
  have hmo := Hpl.out.holds.keeps.calm.ok
  have hnb : i * 5 ≤ 1000 := by have := Hn.out; have := Hlt.out; omega
  clear Hpl
  by_cases hkd : kind = 1
  ·as_aux_lemma =>
    subst hkd
    have hb : ((1 : Int) == 1) = true := rfl
    have hap := lcommit_c (Ro.os HH.out) hok hmo (by omega) hS
    have Hst := Lib.hid (show (Seg.Log.playH cs L0 M0).1.stepH (Seg.Log.playH cs L0 M0).2 ⟨1, e, xn, xp, xl⟩ = ((Seg.Log.playH cs L0 M0).1.commit (Seg.Log.playH cs L0 M0).2).1 from by unfold Seg.Log.stepH; rw [if_pos rfl])
    rw [Hst.out] at Hps
    generalize Seg.Log.playH cs L0 M0 = lm at *
    generalize lm.1.commit lm.2 = r at *
    obtain ⟨⟨L2, M2⟩, n2, e2⟩ := r
    dsimp only at hap
    clear hok hmo hnb hS HCE HG Hst
    go_wp2_with fail
    refine hap.mono ?_
    rintro ee w5 ⟨v, rfl, rfl, h5⟩
    clear hap
    go_wp2_with fail
    go_roundg (ds.length - (i + 1))
    case measure => have := Hlt.out; omega
    case rel => exact ⟨i + 1, _, rfl, Nat.succ_le_of_lt Hlt.out, by first | rfl | go_num, Hsn.out, by rw [Hps.out]; exact h5⟩
  ·as_aux_lemma =>
    have hb : (kind == 1) = false := by rw [beq_eq_false_iff_ne]; exact hkd
    have hap := lappend_c e Hkey.out da dc (Ro.os Hrd.out) (Ro.os HH.out) (Nat.le_trans Hde.out dCz) hok hmo (by omega) hS
    have Hst := Lib.hid (show (Seg.Log.playH cs L0 M0).1.stepH (Seg.Log.playH cs L0 M0).2 ⟨kind, e, xn, xp, xl⟩ = ((Seg.Log.playH cs L0 M0).1.append (Seg.Log.playH cs L0 M0).2 e).1 from by unfold Seg.Log.stepH; rw [if_neg hkd])
    rw [Hst.out] at Hps
    generalize Seg.Log.playH cs L0 M0 = lm at *
    generalize lm.1.append lm.2 e = r at *
    obtain ⟨⟨L2, M2⟩, n2, e2⟩ := r
    dsimp only at hap
    clear hok hmo hnb hS HG Hst hkd
    go_wp2_with ((with_reducible apply at_load); refine ⟨?_⟩; first
     | refine wl_loadW (b := bk) (o := off + i * 40 + 1) (entL e (.slice da e.data.length dc)) rFz HCE.out Tryz.underlying27 rfl (by rw [entL_len _ _ Hkey.out]; exact infoEntSize) ?_
     | refine wl_loadC (b := bk) (o := off + i * 40) rFz kRz e0 ?_)
    refine hap.mono ?_
    rintro ee w5 ⟨v, rfl, rfl, h5⟩
    clear hap
    go_wp2_with fail
    go_roundg (ds.length - (i + 1))
    case measure => have := Hlt.out; omega
    case rel => exact ⟨i + 1, _, rfl, Nat.succ_le_of_lt Hlt.out, by first | rfl | go_num, Hsn.out, by rw [Hps.out]; exact h5⟩
end
end Go.Proofs.YtlinnpehkfbnkaaGreatDoor
namespace Go.Hin
open Go.Med
open Go.Seg (Log Keeps Holds HG DoneH HintOk mag Plc)
open Go.Frm (Fnd encs GoodE fnds Ent)
open Go.Rep (Use)
section
variable {n K r E B c : Nat} {L : Log} {M : Med} {C : List (List Ent)} {N : Int} {us : List Use} {ps : List (Bs × Plc)}
theorem DoneH.taken (h : DoneH n L M C) : L.segs.take C.length = L.segs := by
 rw [← h.holds.segs.1]; exact List.take_length
theorem DoneH.rowsC (h : DoneH n L M C) : Rep.rowsOf (fun s => L.bytes M s) L.segs = Rep.rowsC 0 C := by
 have e := h.holds.rows C.length
 rw [DoneH.taken h, List.take_length] at e
 exact e
theorem DoneH.rows_len (h : DoneH n L M C) : (Rep.rowsOf (fun s => L.bytes M s) L.segs).length ≤ n := by
 rw [DoneH.rowsC h, ← List.length_map (f := fun r : Rep.Row => r.2.e), Rep.rowsC_e]
 exact h.few
theorem DoneH.rows_size (h : DoneH n L M C) : ∀ r ∈ Rep.rowsOf (fun s => L.bytes M s) L.segs, (r.2.size : Int) ≤ 4294967296 := fun r hr => by
 rw [DoneH.rowsC h] at hr
 obtain ⟨j, es, h5, h6, h7⟩ := Rep.rowsC_mem C 0 hr
 obtain ⟨u, v, h8, h9, h10⟩ := Rep.fnds_mem es 8 h7
 have hat := List.mem_of_getElem? (h.holds.at_ j es h5)
 have hsz := h.holds.keeps.log.sizes _ hat
 have he : (encs es).length = (encs u).length + ((Frm.encode r.2.e).1.length + (encs v).length) := by
  conv => lhs; rw [h8]
  rw [Seg.encs_app, List.length_append]
  congr 1
  exact List.length_append
 simp only at hsz
 omega
theorem DoneH.lastOf (h : DoneH n L M C) : Rep.lastOfL L.segs = (C.length : Int) - 1 ∧ L.segs.getLast? = some ((C.length : Int) - 1) := by
 obtain ⟨h1, h2⟩ := h.holds.segs
 have h3 := DoneH.run h
 have e : L.segs.getLast? = some ((C.length : Int) - 1) := by
  rw [List.getLast?_eq_getElem?, h1, h2 _ (by omega)]
  congr 1; omega
 refine ⟨?_, e⟩
 unfold Rep.lastOfL
 rw [e]
theorem DoneH.hint (h : DoneH n L M C) (hn : n ≤ 1000) {kv : List (Bs × Rep.Abt)} (hk : Tab.Lists (Rep.ledger (Rep.rowsOf (fun s => L.bytes M s) L.segs)) kv) (h32 : ∀ q ∈ kv, q.1.length = 32) :
  HintOk L C.length ((Rep.usesOf (fun s => L.bytes M s) L.segs).map (Rep.upd kv)) (Rep.puts kv) := by
 have e := DoneH.taken h
 have := (h.holds.hg hn).hint (Nat.le_refl _) (kv := kv) (by rw [e]; exact hk) h32
 rw [e] at this
 exact this
theorem HintOk.size (h : HintOk L c us ps) {s : Int} (hs : s ∈ L.segs.take c) : L.size s ≤ 33554432 := by
 rw [← h.segs] at hs
 obtain ⟨u, hu, rfl⟩ := List.mem_map.1 hs
 obtain ⟨_, _, h3, h4⟩ := h.use u hu
 omega
theorem HintOk.idx (h : HintOk L c us ps) (hL : L.Ok) (hl : ps.length ≤ 65536) : Bok.Ok 3 true (ps.map Rep.idxRw) := by
 refine ⟨by rw [List.length_map]; exact hl, fun r hr => ?_, fun i a b ha hb => ?_⟩
 ·obtain ⟨q, hq, rfl⟩ := List.mem_map.1 hr
  obtain ⟨p1, p2, p3, p4⟩ := h.plc q hq
  have hz := HintOk.size h p4
  have hsg := List.mem_of_mem_take p4
  obtain ⟨x, hx, hxe⟩ := List.mem_map.1 hsg
  have hnm := hL.nums x hx
  refine ⟨h.key q hq, rfl, fun m hm => ?_⟩
  simp only [Rep.idxRw, List.mem_cons, List.not_mem_nil, or_false] at hm
  rcases hm with rfl | rfl | rfl <;> omega
 ·rw [List.getElem?_map] at ha hb
  obtain ⟨x, hx, rfl⟩ := Option.map_eq_some_iff.1 ha
  obtain ⟨y, hy, rfl⟩ := Option.map_eq_some_iff.1 hb
  obtain ⟨i1, rfl⟩ := List.getElem?_eq_some_iff.1 hx
  obtain ⟨i2, rfl⟩ := List.getElem?_eq_some_iff.1 hy
  unfold Bok.ahead
  rw [if_pos rfl]
  exact List.pairwise_iff_getElem.1 h.rise i (i + 1) i1 i2 (by omega)
theorem HintOk.uses (h : HintOk L c us ps) (hL : L.Ok) (hl : us.length ≤ 65536) : Bok.Ok 3 false (us.map Rep.useRw) := by
 have hri : (us.map (·.seg)).Pairwise (· < ·) := by
  rw [h.segs]; exact (Seg.segs_rise hL).sublist (List.take_sublist _ _)
 refine ⟨by rw [List.length_map]; exact hl, fun r hr => ?_, fun i a b ha hb => ?_⟩
 ·obtain ⟨u, hu, rfl⟩ := List.mem_map.1 hr
  obtain ⟨p1, p2, p3, p4⟩ := h.use u hu
  have hsg : u.seg ∈ L.segs := List.mem_of_mem_take (by rw [← h.segs]; exact List.mem_map.2 ⟨u, hu, rfl⟩)
  obtain ⟨x, hx, hxe⟩ := List.mem_map.1 hsg
  have hnm := hL.nums x hx
  refine ⟨rfl, rfl, fun m hm => ?_⟩
  simp only [Rep.useRw, List.mem_cons, List.not_mem_nil, or_false] at hm
  rcases hm with rfl | rfl | rfl <;> omega
 ·rw [List.getElem?_map] at ha hb
  obtain ⟨x, hx, rfl⟩ := Option.map_eq_some_iff.1 ha
  obtain ⟨y, hy, rfl⟩ := Option.map_eq_some_iff.1 hb
  obtain ⟨i1, rfl⟩ := List.getElem?_eq_some_iff.1 hx
  obtain ⟨i2, rfl⟩ := List.getElem?_eq_some_iff.1 hy
  unfold Bok.ahead
  rw [if_neg dCz]
  have := List.pairwise_iff_getElem.1 hri i (i + 1) (by rw [List.length_map]; exact i1) (by rw [List.length_map]; exact i2) (by omega)
  rw [List.getElem_map, List.getElem_map] at this
  exact this
theorem books_len {X : Bs → Nat} (hi : Bok.Ok 3 true (ps.map Rep.idxRw)) (hu : Bok.Ok 3 false (us.map Rep.useRw)) (h1 : ps.length ≤ 1000) (h2 : us.length ≤ 1000) :
  (Bok.book X Bok.mgIdx true (ps.map Rep.idxRw)).length + (Bok.book X Bok.mgUse false (us.map Rep.useRw)).length ≤ 100000 := by
 rw [Bok.book_len (k := 3) rfl hi.row, Bok.book_len (k := 3) rfl hu.row, List.length_map, List.length_map, show Bok.rowSz true 3 = 44 from rfl, show Bok.rowSz false 3 = 12 from rfl]
 omega
theorem DoneH.others (h : DoneH n L M C) (hn : n ≤ 100) (h1 : 0 ≤ N) (h2 : N < 1048576) (b1 b2 : Bs) (hb : b1.length + b2.length ≤ 100000) :
  ∀ f ∈ (write (write M (name idx N) b1).1 (name use N) b2).1.syncDir.1.list, other N f = false ∧ f.size ≤ 4000000000 := by
 have hh := h.holds.keeps.has
 have ho := kept_other (N := N) hh h1 h2
 have hu := h.holds.used
 have hnm := h.holds.names
 have hc := kept_cf (N := N) hh h.holds.keeps.calm.ok.nowOk.ne h1 h2
 obtain ⟨a1, a2, a3, a4, a5, a6⟩ := write_zero (b := b1) h.holds.keeps.calm (DoneH.none h (by omega) fun k => tmp_ne_seg k) (by omega) (by omega) (name_good rfl dCz N h1 h2) hc.t1
 obtain ⟨c1, c2, c3, c4, c5, c6⟩ := write_zero (b := b2) a2 a3 (by omega) (by omega) (name_good rfl dCz N h1 h2) hc.t2
 have hd := c2.quiet.syncDir_eq
 have hds := c2.syncDir
 have hno : (write (write M (name idx N) b1).1 (name use N) b2).1.syncDir.1.now = (write (write M (name idx N) b1).1 (name use N) b2).1.now := by rw [hd]
 have hsz : ∀ ld : ByteArray, ld.data.toList.length = 4 → (name ld N).size = 12 := fun ld hl => by
  show (name ld N).data.size = 12
  rw [← Array.length_toList, name_eq ld N h1 h2, List.length_append, hl, Seg.digs_len]
 intro f hf
 rw [hds.quiet.list, hno] at hf
 obtain ⟨p, hp, rfl⟩ := List.mem_map.1 hf
 rcases c6 p hp with q | q
 ·rcases a6 p q with q | q
  ·have hi := nget_of_mem h.holds.keeps.calm.ok.nowOk.srt.keys (show (p.1, p.2) ∈ M.now from q)
   obtain ⟨k, k1, k2⟩ := h.holds.only _ _ hi
   have hat := h.holds.at_ k _ (List.getElem?_eq_getElem k1)
   rw [k2] at hi
   refine ⟨ho _ (.inl ⟨_, mem_kept (List.mem_of_getElem? hat) hi, k2⟩), ?_⟩
   rw [k2]
   rcases seg_name (k : Int) with z | ⟨z, _⟩
   ·rw [z]; decide
   ·rw [z]; decide
  ·rw [q]; exact ⟨ho _ (.inr (.inr (.inl rfl))), by rw [hsz idx rfl]; decide⟩
 ·rw [q]; exact ⟨ho _ (.inr (.inr (.inr rfl))), by rw [hsz use rfl]; decide⟩
end
end Go.Hin
namespace Go.Proofs.YtlinnpehkfbnkaaGreatDoor
open Go Go.Sl Go.Med Go.MapKept Go.RowKit
section
variable {w0 w : World} {F : List HProp} {lv : Value}
theorem SDRo.of_sub {F G : List HProp} {d : SD} (h : SDRo w0 F d) (hs : ∀ w, Sat w0 w G → Sat w0 w F) : SDRo w0 G d :=
 ⟨h.key, fun w hw => h.rd w (hs w hw), h.cap, fun w hw => h.rl w (hs w hw), h.capl⟩
theorem few_played {ds es : List SD} {ov : Value} {n : Nat} (hes : es.map (·.c) = Seg.fewCH (ds.map (·.c)) n) (hk : ∀ d ∈ ds, d.c.e.key.length = 32) :
  (∀ d ∈ es, d.c.e.key.length = 32) ∧ es.length ≤ n ∧ (∀ d ∈ es, d.c.e.data.length ≤ 300) ∧ Ro w0 (osl 63 40 ov (sdsL es) :: dataD es :: F) (rdsl 40 ov (sdsL es)) ∧
   (∀ d ∈ es, d.c.e.key.length = 32 ∧ Ro w0 (osl 63 40 ov (sdsL es) :: dataD es :: F) (rdsl 1 d.dv (bys d.c.e.data))) := by
 have hm : ∀ d ∈ es, ∃ x ∈ ds, d.c = x.c.cutH := fun d hd => by
  have h1 : d.c ∈ es.map (·.c) := List.mem_map.2 ⟨d, hd, rfl⟩
  rw [hes] at h1
  unfold Seg.fewCH at h1
  obtain ⟨c, hc, he⟩ := List.mem_map.1 h1
  obtain ⟨x, hx, rfl⟩ := List.mem_map.1 (List.mem_of_mem_take hc)
  exact ⟨x, hx, he.symm⟩
 have hkey : ∀ d ∈ es, d.c.e.key.length = 32 := fun d hd => by
  obtain ⟨x, hx, e⟩ := hm d hd
  rw [e]; exact hk x hx
 refine ⟨hkey, ?_, fun d hd => ?_, fun w hw => Sat.rd hw, fun d hd => ⟨hkey d hd, fun w hw => ?_⟩⟩
 ·have := congrArg List.length hes
  unfold Seg.fewCH at this
  rw [List.length_map, List.length_map, List.length_take] at this
  omega
 ·obtain ⟨x, hx, e⟩ := hm d hd
  rw [e]
  show (x.c.e.data.take 120).length ≤ 300
  rw [List.length_take]; omega
 ·obtain ⟨i, hi⟩ := List.getElem?_of_mem hd
  exact dataD_ro (R := F) hi w (hw.sb)
theorem size_empty {K : Nat} {M : Med} (h : M.Ok K) (ho : M.off = false) : M.size ByteArray.empty = (0, 9) := by
 have hn : nget M.now ByteArray.empty = none := by
  cases hi : nget M.now ByteArray.empty with
  | none => rfl
  | some i => exact absurd rfl (h.nowOk.ne _ (nget_mem hi))
 unfold Med.size
 rw [ho, hn]; rfl
set_option maxRecDepth 20000 in
theorem hints_stale_c (z : Int) (ds : List SD) (hr : Ro w0 F (rdsl 40 lv (sdsL ds))) (he : ∀ d ∈ ds, SDRo w0 F d) (e : Frm.Ent) (hk : e.key.length = 32) (da : Option Addr) (dc : Nat) (hd : Ro w0 F (rdsl 1 (.slice da e.data.length dc) (bys e.data))) (hcap : capOk (.slice da e.data.length dc)) (n : Int) (rm : Bool) (hH : Ro w0 F Half) (h : Sat w0 w F) :
  Calls Tryz.prog 3 #[.int .i64 z, lv, .agg (entA e (.slice da e.data.length dc)), .int .i64 n, .bool rm] w (Rtn fun v w' => v = .bool true ∧ Sat w0 w' F) := by
 have Hr := Lib.hid hr; have He := Lib.hid he; have Hk := Lib.hid hk; have HH := Lib.hid hH; have Hd := Lib.hid hd; have Hcap := Lib.hid hcap
 clear hr he hk hH hd hcap
 go_enter Tryz.func3, Tryz.ntmps3
 go_wp2_with ((with_reducible apply at_boxE); refine ⟨?_⟩; refine wl_boxE (by assumption) rFz ?_; intro bX wX hX)
 refine (fewH_c ds 20 dCz (Ro.os Hr.out) (fun d hd => (He.out d hd).of_sub (fun w hw => hw.sb)) hX).mono ?_
 rintro ee w1 ⟨v, rfl, es, ov, rfl, hes, _, h1⟩
 obtain ⟨p1, p2, p3, p4, p5⟩ := few_played (w0 := w0) (F := pt bX (.cells (entA e (.slice da e.data.length dc)) 27 (0,0)) :: F) (ov := v) hes (fun d hd => (He.out d hd).key)
 have hpl := played16_c z es p4 p5 (by omega) p3 (Ro.os HH.out) h1
 have Hn := Lib.hid p2
 clear p1 p2 p3 p4 p5 hes h1 hX h
 go_wp2_with fail
 refine hpl.mono ?_
 rintro ee w2 ⟨v, rfl, p, m, L, M, C, rfl, ⟨hD, hC, hlm⟩, h2⟩
 have HD := Lib.hid hD
 clear hpl hlm hC hD
 replace h2 : Sat w0 w2 (pt bX (.cells (entA e (.slice da e.data.length dc)) 27 (0,0)) :: LogRep p m L :: MedRep m M :: F) := h2.sb
 go_wp2_with (first | ((with_reducible apply at_loadE); refine ⟨?_⟩; refine wl_loadE (by assumption) rFz pkD (by first | rfl | assumption | exact Hid.out (by assumption)) ?_) | ((with_reducible apply at_buildE); refine ⟨?_⟩; refine wl_buildE (by assumption) rFz Hk.out ?_; intro bN wN hN))
 refine (few_c (lv := .slice (some ⟨bN, 0, none⟩) 1 1) [(e, .slice da e.data.length dc)] 1 100 dCz dCz (ro_one Hk.out) (fun p hp => by
  rw [List.mem_singleton] at hp
  subst hp
  exact ⟨Hk.out, Ro.os Hd.out, Hcap.out⟩) hN).mono ?_
 rintro ee w3 ⟨v, rfl, fs, hfs, hS2⟩
 obtain ⟨dv, rfl⟩ := few_one hfs
 have hk2 : (Frm.cutE 100 e).key.length = 32 := Hk.out
 have hd2 : (Frm.cutE 100 e).data.length ≤ 300 := by show (e.data.take 100).length ≤ 300; rw [List.length_take]; omega
 obtain ⟨b2, c2, cs2, da2, dc2, rfl, rfl, hcs, hS3⟩ := few_open hk2 hS2
 have Hk2 := Lib.hid hk2; have Hd2 := Lib.hid hd2
 generalize Frm.cutE 100 e = f at *
 have Hcs := Lib.hid hcs
 clear hcs hS2 hfs hN h2 hk2 hd2
 go_wp2_with (first
  | ((with_reducible apply at_loadE); refine ⟨?_⟩; refine wl_loadEs (b := b2) (o := 0) (by assumption) rFz pkD Hk2.out Hcs.out ?_)
  | ((with_reducible apply at_storeE); refine ⟨?_⟩; first | (refine wl_storeE (by assumption) rFz rFz (by first | rfl | assumption | exact Hid.out (by assumption)) upD (by first | assumption | exact entA_size _ _ rfl | exact entA_size _ _ (by assumption) | exact entA_size _ _ (Hid.out (by assumption))) ?_; intro wS hS) | (refine wl_storeE (e := Frm.zeroE) (da := none) (dn := 0) (dc := 0) (by assumption) rFz rFz rfl upD (by first | assumption | exact entA_size _ _ rfl | exact entA_size _ _ (by assumption) | exact entA_size _ _ (Hid.out (by assumption))) ?_; intro wS hS)))
 have h4 : Sat w0 _ (LogRep p m L :: MedRep m M :: pt bX (.cells (entA f (.slice da2 f.data.length dc2)) 27 (0,0)) :: bsl (.slice da2 f.data.length dc2) f.data :: F) := hS.sb
 clear hS hS3
 have hn100 : es.length + 1 ≤ 100 := by have := Hn.out; omega
 have Hn1 := Lib.hid hn100
 have HL := Lib.hid HD.out.holds.keeps.log; have HC := Lib.hid HD.out.holds.keeps.calm
 have hrl := Hin.DoneH.rows_len HD.out
 have hrn := run_c HL.out HC.out.ok (Ro.os HH.out) (Nat.le_trans hrl (Nat.le_trans hn100 dCz)) (Hin.DoneH.rows_size HD.out) h4
 clear h4 hn100 hrl
 refine hrn.mono ?_
 rintro ee w5 ⟨v, rfl, ho⟩
 clear hrn
 obtain ⟨hrun, hsl, hpos⟩ := HD.out.run
 have hrun' : Rep.run (lbt L M) L.segs = .inr C.length := hrun
 unfold RunOut at ho
 rw [hrun'] at ho
 obtain ⟨ps, pi, uv, tv, av, kv, rfl, ⟨hk1, hk3, hk4⟩, _, h5⟩ := ho
 rw [Hin.DoneH.taken HD.out] at hk1 hk4 h5
 obtain ⟨hlast, hlast2⟩ := Hin.DoneH.lastOf HD.out
 rw [hlast] at h5
 have Hho := Lib.hid (Hin.DoneH.hint HD.out (by have := Hn1.out; omega) hk1 hk3)
 have Hpl := Lib.hid (show (Rep.puts kv).length ≤ 100 from Nat.le_trans (by unfold Rep.puts; rw [List.length_map]; exact List.length_filter_le _ _) (Nat.le_trans hk4 (Nat.le_trans (Hin.DoneH.rows_len HD.out) Hn1.out)))
 have Hkl := Lib.hid (show kv.length ≤ 13000000 from Nat.le_trans hk4 (Nat.le_trans (Hin.DoneH.rows_len HD.out) (Nat.le_trans Hn1.out dCz)))
 have Hul := Lib.hid (show ((Rep.usesOf (lbt L M) L.segs).map (Rep.upd kv)).length = C.length by unfold Rep.usesOf; rw [List.length_map, List.length_map, hsl])
 have Hli := Lib.hid (show Tab.Lists (Tab.mapOf (Rep.puts kv)) (Rep.puts kv) from Tab.mapOf_lists (Rep.puts_rise hk1.rise))
 have Hsl := Lib.hid hsl
 have Hc0 := Lib.hid hpos
 have Hc1 := Lib.hid (show C.length ≤ 100 from Nat.le_trans HD.out.holds.count Hn1.out)
 have Hl2 := Lib.hid hlast2
 clear hrun hrun' hk1 hk3 hk4 hlast hlast2 hsl hpos
 replace Hho := Lib.hid (show Seg.HintOk L C.length ((Rep.usesOf (lbt L M) L.segs).map (Rep.upd kv)) (Rep.puts kv) from Hho.out)
 generalize (Rep.usesOf (lbt L M) L.segs).map (Rep.upd kv) = us at *
 generalize Tab.mapOf (Rep.puts kv) = mp at *
 generalize kv.length = B at *
 generalize Rep.puts kv = pl at *
 have Hoi := Lib.hid (Hin.HintOk.idx Hho.out HL.out (Nat.le_trans Hpl.out dCz))
 have Hou := Lib.hid (Hin.HintOk.uses Hho.out HL.out (by rw [Hul.out]; exact Nat.le_trans Hc1.out dCz))
 have HB := Lib.hid (Hin.books_len (X := Xx.sum) Hoi.out Hou.out (Nat.le_trans Hpl.out dCz) (by rw [Hul.out]; exact Nat.le_trans Hc1.out dCz))
 have HN := Lib.hid (show 0 ≤ (C.length : Int) - 1 ∧ (C.length : Int) - 1 < 1048576 by have := Hc0.out; have := Hc1.out; omega)
 obtain ⟨N, hN⟩ : ∃ N, N = (C.length : Int) - 1 := ⟨_, rfl⟩
 rw [← hN] at h5
 have HNe := Lib.hid hN
 rw [← hN] at HN
 clear hN
 go_wp2_with (with_reducible apply at_alloc)
 refine ⟨?_⟩
 refine wl_alloc zFlt h5 rfl ?_
 intro b10 w6 h6
 clear h5
 go_wp2_with (with_reducible apply at_store)
 refine ⟨?_⟩
 refine wl_storeA (fltA Rep.Flt.zero) h6 rFz rFz rFz upd0 kRz rFz ?_
 intro w7 h7
 clear h6
 obtain ⟨bi, hbi⟩ : ∃ bi, bi = Bok.book Xx.sum Bok.mgIdx true (pl.map Rep.idxRw) := ⟨_, rfl⟩
 obtain ⟨bu, hbu⟩ : ∃ bu, bu = Bok.book Xx.sum Bok.mgUse false (us.map Rep.useRw) := ⟨_, rfl⟩
 have hB := HB.out
 rw [← hbi, ← hbu] at hB
 have hsv := hsave_c HC.out.ok (by have := Hn1.out; omega) HN.out.1 HN.out.2 pl Hli.out Hkl.out Hho.out.key us Hoi.out Hou.out bi bu hbi hbu (Hin.DoneH.others HD.out Hn1.out HN.out.1 HN.out.2 bi bu hB)
  (h7.sb : Sat w0 w7 (stPt ps N pi uv tv :: TabML pi mp B :: osl 121 3 uv (us.flatMap uenc) :: MedRep m M :: LogRep p m L :: pt bX (.cells (entA f (.slice da2 f.data.length dc2)) 27 (0,0)) :: bsl (.slice da2 f.data.length dc2) f.data :: F))
 have hS0 := Hin.DoneH.saved HD.out Hn1.out HN.out.1 HN.out.2 hB
 have HS := Lib.hid hS0; have Hbi := Lib.hid hbi; have Hbu := Lib.hid hbu; have HBl := Lib.hid hB
 rw [HS.out.zero] at hsv
 obtain ⟨MS, hMS⟩ : ∃ MS, MS = (Hin.save M N bi bu).1 := ⟨_, rfl⟩
 rw [← hMS] at hsv HS
 clear h7 hbi hbu hB hS0 hMS
 go_wp2_with fail
 refine hsv.mono ?_
 rintro ee w8 ⟨v, rfl, rfl, h8⟩
 clear hsv
 have hg := HS.out.hg HD.out.holds Hn1.out HN.out.1 HN.out.2 HBl.out
 have HG := Lib.hid hg
 have hok := HL.out
 have hcm := HS.out.calm
 clear hg
 cases rm with
 | true =>
  as_aux_lemma =>
   have hse := lsegs_c hok (h8.sb : Sat w0 w8 (LogRep p m L :: MedRep m MS :: stPt ps N pi uv tv :: F))
   clear h8
   go_wp2_with fail
   refine hse.mono ?_
   rintro ee w9 ⟨v, rfl, h9⟩
   clear hse
   obtain ⟨a9, n9, c9, rfl, hl9, _⟩ := Sat.rd h9
   have hlen9 : n9 = C.length := by
    rw [show (ints L.segs).length = L.segs.length from List.length_map .., Hsl.out] at hl9; omega
   subst hlen9
   clear hl9
   have hw := within_c n 0 ((C.length : Int) - 1) w9
   have hm := within_mem n 0 ((C.length : Int) - 1) (by have := Hc0.out; omega)
   have c1 : ((C.length : Int) == 0) = false := by rw [beq_eq_false_iff_ne]; have := Hc0.out; omega
   have c2 : IntKind.i64.wrap ((C.length : Int) - 1) = (C.length : Int) - 1 := IntWalk.i64_in _ (by have := Hc1.out; omega)
   obtain ⟨i, hi⟩ : ∃ i : Nat, within n 0 ((C.length : Int) - 1) = (i : Int) := ⟨(within n 0 ((C.length : Int) - 1)).toNat, by omega⟩
   rw [hi] at hw hm
   have hil : i < C.length := by omega
   clear hm hi
   go_wp2_with fail
   refine hw.mono ?_
   rintro ee w10 ⟨v, rfl, rfl, rfl⟩
   clear hw
   have hsi : L.segs[i]? = some (i : Int) := HD.out.holds.segs.2 i hil
   obtain ⟨bk, off, rfl, hcell⟩ := rdsl_cells (Sat.rd h9) (show (ints L.segs)[i]? = some (.int .i64 i) by unfold ints; rw [List.getElem?_map, hsi]; rfl)
   have e0 : w9.cell? ⟨bk, off + i, none⟩ = some (.int .i64 i) := hcell i _ (show (ints L.segs)[i]? = some (.int .i64 i) by unfold ints; rw [List.getElem?_map, hsi]; rfl)
   have c3 : (i : Int) < (C.length : Int) := by omega
   have hrm := lremove_c hok hcm.ok (by have := Hn1.out; omega) (i : Int) (h9.sb : Sat w0 w9 (LogRep p m L :: MedRep m MS :: stPt ps N pi uv tv :: F))
   obtain ⟨r1, r2, r3, r4, r5, r6, r7⟩ := HS.out.removed HG.out HN.out.1 HN.out.2 (List.mem_of_getElem? hsi) (us := us) (by rw [Hul.out, Hsl.out]) (fun y hy => by
    obtain ⟨j, hj⟩ := List.getElem?_of_mem hy
    have hjl : j < C.length := by rw [← Hsl.out]; exact (List.getElem?_eq_some_iff.1 hj).1
    have hj2 := HD.out.holds.segs.2 j hjl
    rw [hj] at hj2
    cases hj2
    have := HNe.out; omega)
   have ok1 := hok.remove MS (i : Int)
   have ok2 := remove_med (L := L) hcm.ok (i : Int)
   rw [r1] at hrm
   generalize (L.remove MS (i : Int)).1.1 = L2 at *
   generalize (L.remove MS (i : Int)).1.2 = M2 at *
   have R2 := Lib.hid (r2.trans (by rw [Hbi.out])); have R3 := Lib.hid (r3.trans (by rw [Hbu.out])); have R4 := Lib.hid r4; have R5 := Lib.hid r5; have R6 := Lib.hid (size_empty ok2 r6); have R7 := Lib.hid r7; have O1 := Lib.hid ok1; have O2 := Lib.hid ok2
   clear r1 r2 r3 r4 r5 r6 r7 ok1 ok2 hcell h9 hsi hil hok hcm
   go_wp2_with fail
   refine hrm.mono ?_
   rintro ee w11 ⟨v, rfl, rfl, h11⟩
   clear hrm e0
   have e1 : w11.cell? ⟨ps, 0, none⟩ = some (.int .i64 N) := h11.cellP pick2 0 rfl
   have hld := hloadF_c O1.out O2.out R6.out R4.out R5.out pl Hho.out.key us Hoi.out Hou.out R2.out R3.out R7.out h11
   go_wp2_with fail
   refine hld.mono ?_
   rintro ee w12 ⟨v, rfl, rfl, h12⟩
   clear hld e1 h11
   go_wp2_with fail
   refine (hlives_c (h12.sb : Sat w0 w12 F)).mono ?_
   rintro ee w13 ⟨v, rfl, rfl, h13⟩
   go_wp2_with fail
   go_ret
   exact ⟨_, rfl, rfl, h13⟩
 | false =>
  as_aux_lemma =>
   have hcom := HS.out.commits HG.out (by have := Hn1.out; omega) dCz HD.out.off HNe.out HN.out.1 (fun p hp => by
    rcases HS.out.names p hp with q | q | q
    ·have hi := nget_of_mem HD.out.holds.keeps.calm.ok.nowOk.srt.keys (show (p.1, p.2) ∈ M.now from q)
     obtain ⟨k, _, k2⟩ := HD.out.holds.only _ _ hi
     exact .inl ⟨_, k2⟩
    ·exact .inr (.inl q)
    ·exact .inr (.inr q)) f Hk2.out Hd2.out
   have Hrd := Lib.hid (fun R => (fun w hw => Sat.rd hw : Ro w0 (bsl (.slice da2 f.data.length dc2) f.data :: R) (rdsl 1 (.slice da2 f.data.length dc2) (bys f.data))))
   have h9 : Sat w0 w8 (pt bX (.cells (entA f (.slice da2 f.data.length dc2)) 27 (0,0)) :: bsl (.slice da2 f.data.length dc2) f.data :: LogRep p m L :: MedRep m MS :: F) := h8.sb
   clear h8
   go_wp2_with ((with_reducible apply at_loadE); refine ⟨?_⟩; refine wl_loadE (by assumption) rFz pkD (by first | rfl | assumption | exact Hid.out (by assumption)) ?_)
   have hap := lappend_c f Hk2.out da2 dc2 (Ro.op (Hrd.out _)) (Ro.os HH.out) (Nat.le_trans Hd2.out dCz) hok hcm.ok (by have := Hn1.out; omega) (h9.sb : Sat w0 w8 (LogRep p m L :: MedRep m MS :: bsl (.slice da2 f.data.length dc2) f.data :: F))
   have ok1 := hok.append MS f Hk2.out
   have ok2 := Seg.Log.append_med (L := L) hcm.ok f
   generalize L.append MS f = q at *
   obtain ⟨⟨L2, M2⟩, n2, e2⟩ := q
   dsimp only at hap ok1 ok2 hcom
   have hco := fun (w' : World) (hw : Sat w0 w' (LogRep p m L2 :: MedRep m M2 :: bsl (.slice da2 f.data.length dc2) f.data :: F)) => lcommit_c (Ro.os HH.out) ok1 ok2 (by have := Hn1.out; omega) hw
   generalize L2.commit M2 = q at *
   obtain ⟨⟨L3, M3⟩, n3, e3⟩ := q
   dsimp only at hco hcom
   obtain ⟨z1, z2, z3, z4, z5⟩ := hcom
   subst z1
   have Hco := Lib.hid hco; have Z5 := Lib.hid z5; have Z4 := Lib.hid (Hin.there_none z5.quiet z4)
   clear h9 hco z2 z3 z4 z5 ok1 ok2 hok hcm
   refine hap.mono ?_
   rintro ee w10 ⟨v, rfl, rfl, h10⟩
   clear hap
   go_wp2_with fail
   refine (Hco.out _ h10).mono ?_
   rintro ee w11 ⟨v, rfl, rfl, h11⟩
   clear h10
   have hld := hloadN_c (p := p) (n := n3) Z5.out.ok (size_empty Z5.out.ok Z5.out.quiet.off) (.inl Z4.out) (h11.sb : Sat w0 w11 (MedRep m M3 :: F))
   clear h11
   go_wp2_with fail
   refine hld.mono ?_
   rintro ee w12 ⟨v, rfl, rfl, h12⟩
   clear hld
   go_wp2_with fail
   refine (hlives_c (h12.sb : Sat w0 w12 F)).mono ?_
   rintro ee w13 ⟨v, rfl, rfl, h13⟩
   go_wp2_with fail
   go_ret
   exact ⟨_, rfl, rfl, h13⟩
end
end Go.Proofs.YtlinnpehkfbnkaaGreatDoor
namespace Go.Proofs.YtlinnpehkfbnkaaGreatDoor
open Go Go.Sl Go.Med Go.ChangeShapes Go.WideShapes Go.RowKit
structure SD.At (W : World) (d : SD) : Prop where
 kind : inI d.c.kind
 e : EntAt W (d.c.e, d.dv)
 n : inI d.c.n
 p1 : inI d.c.p.seg
 p2 : inI d.c.p.at_
 p3 : inI d.c.p.size
 rd : rdsl 1 d.lv (ints d.c.l) W
 cap : capOk d.lv
 ins : ∀ i ∈ d.c.l, inI i
section
variable {H : Type} {enc : TypeId × Value → H} {W : World} {base : Nat} {spare : Nat → Bool} {held : Bool}
set_option maxRecDepth 100000 in
theorem open_sd {fuel : Nat} {cs : List Value} {x : DataW H × List MemPlace} (h : DataW.trod enc Tryz.prog W base spare held fuel 63 cs = some x) : ∃ d : SD, sdL d = cs ∧ d.At W := by
 obtain ⟨hl, hf⟩ := open_fields Tryz.underlying63 h
 have e40 : Tryz.prog.cellsOf 63 = 40 := by kernel_rfl
 have e1 : Tryz.prog.cellsOf 3 = 1 := by kernel_rfl
 have e34 : Tryz.prog.cellsOf 27 = 34 := by kernel_rfl
 have e3 : Tryz.prog.cellsOf 54 = 3 := by kernel_rfl
 have e4 : Tryz.prog.cellsOf 42 = 1 := by kernel_rfl
 rw [e40] at hl
 obtain ⟨n0, y0, h0⟩ := hf 0 _ rfl
 obtain ⟨n1, y1, h1⟩ := hf 1 _ rfl
 obtain ⟨n2, y2, h2⟩ := hf 2 _ rfl
 obtain ⟨n3, y3, h3⟩ := hf 3 _ rfl
 obtain ⟨n4, y4, h4⟩ := hf 4 _ rfl
 simp only [List.getElem_toArray, List.getElem_cons_zero, List.getElem_cons_succ, e1, e34, e3, e4, List.drop_zero] at h0 h1 h2 h3 h4
 obtain ⟨z0, q0, _, w0⟩ := DataW.trod_int Tryz.underlying3 h0
 obtain ⟨⟨ex, dv⟩, k1, k2⟩ := open_ent h1
 obtain ⟨z2, q2, _, w2⟩ := DataW.trod_int Tryz.underlying3 h2
 obtain ⟨a, b, c, q3, wa, wb, wc⟩ := open_plc h3
 have hd : ∃ v, (cs.drop 39).take 1 = [v] := by
  have : ((cs.drop 39).take 1).length = 1 := by rw [List.length_take, List.length_drop]; omega
  exact List.length_eq_one_iff.1 this
 obtain ⟨lv, hlv⟩ := hd
 rw [hlv] at h4
 obtain ⟨l6, r6, c6, i6⟩ := in_nums Tryz.underlying42 Tryz.underlying3 e1 h4
 refine ⟨⟨⟨z0, ex, z2, ⟨a, b, c⟩, l6⟩, dv, lv⟩, ?_, bounds_i64 w0, k2, bounds_i64 w2, wa, wb, wc, r6, c6, i6⟩
 show Value.int .i64 z0 :: (entL ex dv ++ [.int .i64 z2, .int .i64 a, .int .i64 b, .int .i64 c, lv]) = cs
 have s1 : cs = cs.take 1 ++ ((cs.drop 1).take 34 ++ ((cs.drop 35).take 1 ++ ((cs.drop 36).take 3 ++ (cs.drop 39).take 1))) := by
  have a4 : (cs.drop 39).take 1 = cs.drop 39 := List.take_of_length_le (by rw [List.length_drop]; omega)
  have a3 : (cs.drop 36).take 3 ++ cs.drop 39 = cs.drop 36 := by
   rw [show cs.drop 39 = (cs.drop 36).drop 3 by rw [List.drop_drop]]; exact List.take_append_drop 3 _
  have a2 : (cs.drop 35).take 1 ++ cs.drop 36 = cs.drop 35 := by
   rw [show cs.drop 36 = (cs.drop 35).drop 1 by rw [List.drop_drop]]; exact List.take_append_drop 1 _
  have a1 : (cs.drop 1).take 34 ++ cs.drop 35 = cs.drop 1 := by
   rw [show cs.drop 35 = (cs.drop 1).drop 34 by rw [List.drop_drop]]; exact List.take_append_drop 34 _
  rw [a4, a3, a2, a1]
  exact (List.take_append_drop 1 cs).symm
 rw [s1, q0, ← k1, q2, q3, hlv]; rfl
theorem in_sds {fuel : Nat} {v : Value} {x : DataW H × List MemPlace} (h : DataW.trod enc Tryz.prog W base spare held fuel 22 [v] = some x) :
  ∃ ds : List SD, rdsl 40 v (sdsL ds) W ∧ capOk v ∧ ∀ d ∈ ds, d.At W := by
 obtain ⟨elems, h1, h2, h3⟩ := open_sl Tryz.underlying22 (k := 40) kRz (by omega) h
 obtain ⟨ds, h4, h5⟩ := map_of (f := sdL) (p := fun d => d.At W) elems fun cs hcs => by
  obtain ⟨_, n, y, h6⟩ := h3 cs hcs
  exact open_sd h6
 refine ⟨ds, ?_, h2, h5⟩
 unfold sdsL
 rw [List.flatMap_def, h4]
 exact h1
theorem SD.At.ro {d : SD} (h : d.At W) : SDRo W [Sl.old W] d := ⟨h.e.key, rd_old h.e.rd, h.e.cap, rd_old h.rd, h.cap⟩
end
end Go.Proofs.YtlinnpehkfbnkaaGreatDoor
namespace Go.Proofs.YtlinnpehkfbnkaaGreatDoor.card
open Go.ChangeShapes Go.WideShapes Go.ChangeAt Go.RowKit
open Go Go.Sl Go.Med
theorem gHalf : Tryz.prog.globalNamed "hoard/crc.half" = some 0 := by kernel_rfl
theorem tHalf : ((Tryz.prog.globals[0]?).map (·.type)) = some 295 := by kernel_rfl
theorem door_met (os : Os) (args : Array Value) : laidMetH Tryz.prog [("hoard/crc.half", Rows.laid_hoard_crc_half)] ((World.doorLaid Tryz.prog 400 os).forCall (fun _ _ => 0) ⟨#[], args, []⟩).memory :=
 laidMetH_of_parts3 (fuel := 8) (laidMet_of_run' 8 kRz kRz) kRz kRz
theorem of_laid {W : World} (h : laidMetH Tryz.prog [("hoard/crc.half", Rows.laid_hoard_crc_half)] W) : 0 < W.heap.size ∧ Half W := by
 rw [MakeChecks.laidMetH_plain _ _ _ kRz] at h
 obtain ⟨ps, ⟨g0, t0, cs0, f0, p0, q0, hg0, ht0, hv0, hd0, hrest⟩, hrest2⟩ := h
 obtain rfl := Option.some.inj (gHalf.symm.trans hg0)
 obtain rfl := Option.some.inj (tHalf.symm.trans ht0)
 obtain ⟨xs, m1, rfl, hx1, hlen, hn3, hel⟩ := DataW.trod_array Tryz.underlying295 hd0
 have c3 : Tryz.prog.cellsOf 236 = 1 := by kernel_rfl
 simp only [Prod.mk.injEq, Rows.laid_hoard_crc_half, DataW.agg.injEq] at hx1
 have hH : Half W := by
  intro i hi
  have h0 := hel i hi
  have hxi : xs[i]? = some (xs[i]'(by omega)) := List.getElem?_eq_getElem (by omega)
  rw [hxi] at h0
  obtain ⟨k, e1, e2, _⟩ := DataW.trod_int Tryz.underlying236 h0
  rw [c3, Nat.mul_one] at e1
  have hc : cs0.toList[i]? = some (.int .u32 k) := by
   have : ((cs0.toList.drop i).take 1)[0]? = some (.int .u32 k) := by rw [e1]; rfl
   rw [List.getElem?_take, if_pos dCz, List.getElem?_drop] at this
   exact this
  have hL := congrArg (fun l => l[i]?) hx1.1
  rw [List.getElem?_map, hxi] at hL
  have hk : k = ((Frm.half.getD i 0 : Nat) : Int) := by
   rw [e2] at hL
   rcases i with _ | _ | _ | _ | _ | _ | _ | _ | _ | _ | _ | _ | _ | _ | _ | _ | i
   all_goals first | omega | (simp at hL; rw [← hL]; rfl)
  subst hk
  have := World.var?_cell hg0 hv0 i
  rw [this, ← Array.getElem?_toList]
  exact hc
 refine ⟨?_, hH⟩
 by_cases hz : 0 < W.heap.size
 ·exact hz
 ·have h0 := hH 0 dCz
  have e : W.heap[0]? = none := Array.getElem?_eq_none (by omega)
  simp [World.cell?, e] at h0
end Go.Proofs.YtlinnpehkfbnkaaGreatDoor.card
