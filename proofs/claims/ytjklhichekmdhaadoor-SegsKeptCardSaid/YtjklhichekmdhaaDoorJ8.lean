import Derived.Test.YtjklhichekmdhaaDoorJ7
set_option linter.unusedVariables false
/- Plain: what is encoded is read back; the segments have just what was put. No walk here. -/
namespace Go.Frm
set_option linter.unusedVariables false
theorem fourB {l : Bs} (h : l.length = 4) : ∃ c0 c1 c2 c3, l = [c0, c1, c2, c3] := by
  match l, h with
  | [c0, c1, c2, c3], _ => exact ⟨c0, c1, c2, c3, rfl⟩
theorem encode_zero {x : Ent} (h : (encode x).2 = 0) : check x = 0 ∧ (encode x).1 = le (crc (body x)) 4 ++ body x := by
  unfold encode at *
  split at h
  · rename_i hc; exact absurd h hc
  · rename_i hc
    rw [if_neg hc]
    exact ⟨by simpa using hc, rfl⟩
theorem check_cases {x : Ent} (h : check x = 0) : x.tag = 0 ∧ x.data.length ≤ 16384 ∨ x.tag = 2 ∧ x.key = zero32 ∧ x.data = [] ∨ x.tag = 1 ∧ x.data = [] := by
  unfold check at h
  split at h
  · rename_i t; split at h
    · cases h
    · exact .inl ⟨t, by omega⟩
  split at h
  · rename_i t
    split at h
    · cases h
    rename_i hk
    split at h
    · cases h
    rename_i hd
    exact .inr (.inl ⟨t, by simpa using hk, List.eq_nil_of_length_eq_zero (by omega)⟩)
  split at h
  · rename_i t
    split at h
    · cases h
    rename_i hd
    exact .inr (.inr ⟨t, List.eq_nil_of_length_eq_zero (by omega)⟩)
  · cases h
/-- What was encoded is read back, whatever comes behind. -/
theorem read_encode {x : Ent} (h : (encode x).2 = 0) (hk : x.key.length = 32) (rest : Bs) : read ((encode x).1 ++ rest) = (x, (encode x).1.length, 0) := by
  have hz := Seg.size_enc h hk
  obtain ⟨hc, he⟩ := encode_zero h
  have hs : size x = 9 ∨ 41 ≤ size x := by
    unfold size
    rw [if_neg (by simp [hc])]
    by_cases ht : x.tag = 2
    · rw [if_pos ht]; omega
    · rw [if_neg ht]; omega
  have hs2 : size x ≤ 16425 := by
    rcases check_cases hc with ⟨t, d⟩ | ⟨t, k, d⟩ | ⟨t, d⟩
    all_goals
      unfold size
      rw [if_neg (by simp [hc])]
      by_cases ht : x.tag = 2
      · rw [if_pos ht]; omega
      · rw [if_neg ht]
        first | omega | (rw [d]; simp)
  obtain ⟨c0, c1, c2, c3, hC⟩ := fourB (le_len (crc (body x)) 4)
  obtain ⟨s0, s1, s2, s3, hS⟩ := fourB (le_len (size x) 4)
  have hnum : num [s0, s1, s2, s3] = size x := by rw [← hS]; exact num_le 4 _ (by omega)
  have hcrc : num [c0, c1, c2, c3] = crc (body x) := by rw [← hC]; exact num_le 4 _ (crc_lt _)
  have hb : body x = [s0, s1, s2, s3] ++ (UInt8.ofNat x.tag.toNat :: ((if x.tag = 2 then [] else x.key) ++ x.data)) := by unfold body; rw [hS]; simp
  have hE : (encode x).1 = c0 :: c1 :: c2 :: c3 :: s0 :: s1 :: s2 :: s3 :: UInt8.ofNat x.tag.toNat :: ((if x.tag = 2 then [] else x.key) ++ x.data) := by rw [he, hC, hb]; rfl
  have hlen : ((if x.tag = 2 then [] else x.key) ++ x.data).length + 9 = size x := by rw [← hz, hE]; simp
  have hT : UInt8.ofNat x.tag.toNat = 0 ∧ x.tag = 0 ∧ 41 ≤ size x ∨ UInt8.ofNat x.tag.toNat = 1 ∧ x.tag = 1 ∧ size x = 41 ∨ UInt8.ofNat x.tag.toNat = 2 ∧ x.tag = 2 ∧ size x = 9 := by
    rcases check_cases hc with ⟨t, d⟩ | ⟨t, k, d⟩ | ⟨t, d⟩
    · left; rw [t]; refine ⟨rfl, rfl, ?_⟩
      unfold size; rw [if_neg (by simp [hc]), if_neg (by rw [t]; decide)]; omega
    · right; right; rw [t]; refine ⟨rfl, rfl, ?_⟩
      unfold size; rw [if_neg (by simp [hc]), if_pos t]
    · right; left; rw [t]; refine ⟨rfl, rfl, ?_⟩
      unfold size; rw [if_neg (by simp [hc]), if_neg (by rw [t]; decide), d]; rfl
  have hfit : fits (UInt8.ofNat x.tag.toNat) (size x) = true := by
    rcases hT with ⟨a, _, b⟩ | ⟨a, _, b⟩ | ⟨a, _, b⟩
    · rw [a]; unfold fits; rw [if_pos rfl, decide_eq_true_eq]; omega
    · rw [a]; unfold fits; rw [if_neg (by decide), if_pos rfl, decide_eq_true_eq]; omega
    · rw [a]; unfold fits; rw [if_neg (by decide), if_neg (by decide), if_pos rfl, decide_eq_true_eq]; omega
  generalize hP : (if x.tag = 2 then [] else x.key) ++ x.data = P at *
  generalize hG : UInt8.ofNat x.tag.toNat = T at *
  have hL : ((encode x).1 ++ rest) = c0 :: c1 :: c2 :: c3 :: s0 :: s1 :: s2 :: s3 :: T :: (P ++ rest) := by rw [hE]; rfl
  have hll : (c0 :: c1 :: c2 :: c3 :: s0 :: s1 :: s2 :: s3 :: T :: (P ++ rest)).length = size x + rest.length := by simp; omega
  have htk : (c0 :: c1 :: c2 :: c3 :: s0 :: s1 :: s2 :: s3 :: T :: (P ++ rest)).take (size x) = c0 :: c1 :: c2 :: c3 :: s0 :: s1 :: s2 :: s3 :: T :: P := by
    have : c0 :: c1 :: c2 :: c3 :: s0 :: s1 :: s2 :: s3 :: T :: (P ++ rest) = (c0 :: c1 :: c2 :: c3 :: s0 :: s1 :: s2 :: s3 :: T :: P) ++ rest := rfl
    rw [this, List.take_append_of_le_length (by simp; omega), List.take_of_length_le (by simp; omega)]
  rw [hz, hL]
  unfold read
  dsimp only
  rw [if_neg (by rw [hll]; omega)]
  have hn : num (((c0 :: c1 :: c2 :: c3 :: s0 :: s1 :: s2 :: s3 :: T :: (P ++ rest)).drop 4).take 4) = size x := hnum
  have h8 : (c0 :: c1 :: c2 :: c3 :: s0 :: s1 :: s2 :: s3 :: T :: (P ++ rest)).getD 8 0 = T := rfl
  have h4 : num ((c0 :: c1 :: c2 :: c3 :: s0 :: s1 :: s2 :: s3 :: T :: (P ++ rest)).take 4) = crc (body x) := hcrc
  rw [hn, h8, hfit, if_neg (by decide), if_neg (by rw [hll]; omega), htk, h4]
  have hdr : (c0 :: c1 :: c2 :: c3 :: s0 :: s1 :: s2 :: s3 :: T :: P).drop 4 = body x := by rw [hb]; rfl
  rw [hdr, if_neg (by simp)]
  have h9 : (c0 :: c1 :: c2 :: c3 :: s0 :: s1 :: s2 :: s3 :: T :: (P ++ rest)).drop 9 = P ++ rest := rfl
  have h41 : (c0 :: c1 :: c2 :: c3 :: s0 :: s1 :: s2 :: s3 :: T :: P).drop 41 = P.drop 32 := rfl
  rw [h9, h41]
  rcases hT with ⟨a, t, b⟩ | ⟨a, t, b⟩ | ⟨a, t, b⟩
  · rw [if_pos b]
    rw [if_neg (by rw [t]; decide)] at hP
    have e1 : (P ++ rest).take 32 = x.key := by rw [← hP, List.append_assoc, List.take_append_of_le_length (by omega), List.take_of_length_le (by omega)]
    have e2 : P.drop 32 = x.data := by rw [← hP, List.drop_append, List.drop_of_length_le (by omega), hk]; simp
    rw [e1, e2, a]
    obtain ⟨tag, key, data⟩ := x
    simp only at t ⊢
    rw [t]; rfl
  · rw [if_pos (by omega)]
    rw [if_neg (by rw [t]; decide)] at hP
    have e1 : (P ++ rest).take 32 = x.key := by rw [← hP, List.append_assoc, List.take_append_of_le_length (by omega), List.take_of_length_le (by omega)]
    have e2 : P.drop 32 = x.data := by rw [← hP, List.drop_append, List.drop_of_length_le (by omega), hk]; simp
    rw [e1, e2, a]
    obtain ⟨tag, key, data⟩ := x
    simp only at t ⊢
    rw [t]; rfl
  · rw [if_neg (by omega), a]
    rcases check_cases hc with ⟨t', d⟩ | ⟨t', k, d⟩ | ⟨t', d⟩
    · rw [t] at t'; cases t'
    · obtain ⟨tag, key, data⟩ := x
      simp only at t k d ⊢
      rw [t, k, d]; rfl
    · rw [t] at t'; cases t'
/-- Entries, one behind the other. -/
def encs (l : List Ent) : Bs := l.flatMap fun x => (encode x).1
def GoodE (x : Ent) : Prop := (encode x).2 = 0 ∧ x.key.length = 32
/-- What Scan finds of them. -/
def fnds : List Ent → Nat → List Fnd
  | [], _ => []
  | x :: l, at_ => ⟨x, at_, (encode x).1.length⟩ :: fnds l (at_ + (encode x).1.length)
theorem fnds_e : ∀ (l : List Ent) (at_ : Nat), (fnds l at_).map (·.e) = l
  | [], _ => rfl
  | x :: l, at_ => by rw [fnds, List.map_cons, fnds_e l]
theorem fnds_len (l : List Ent) (at_ : Nat) : (fnds l at_).length = l.length := by rw [← List.length_map (f := fun f : Fnd => f.e), fnds_e]
theorem encs_pos {x : Ent} (h : GoodE x) : 0 < (encode x).1.length := List.length_pos_iff.2 (Seg.encode_ne x h.1)
theorem scanL_encs : ∀ (l : List Ent) (k at_ : Nat), (∀ x ∈ l, GoodE x) → (encs l).length ≤ k → scanL k (encs l) at_ = (fnds l at_, at_ + (encs l).length, 0)
  | [], k, at_, _, _ => by
    cases k with
    | zero => rfl
    | succ k => rfl
  | x :: l, k, at_, hg, hk => by
    have h1 := hg x (.head _)
    have e : encs (x :: l) = (encode x).1 ++ encs l := rfl
    have hp := encs_pos h1
    rw [e, List.length_append] at hk
    cases k with
    | zero => omega
    | succ k =>
      have hr := read_encode h1.1 h1.2 (encs l)
      have hd : ((encode x).1 ++ encs l).drop (encode x).1.length = encs l := by simp
      rw [e]
      unfold scanL
      rw [if_neg (by intro hh; have := congrArg List.length hh; rw [List.length_append] at this; simp only [List.length_nil] at this; omega), hr]
      simp only [ne_eq, not_true_eq_false, if_false, hd]
      rw [scanL_encs l k (at_ + (encode x).1.length) (fun y hy => hg y (.tail _ hy)) (by omega)]
      simp only [fnds, List.length_append, Nat.add_assoc]
theorem scan_encs (l : List Ent) (hg : ∀ x ∈ l, GoodE x) : scan (Seg.mag ++ encs l) = (fnds l 8, (Seg.mag ++ encs l).length, 0) := by
  unfold scan
  rw [if_pos (by rfl)]
  have e : (Seg.mag ++ encs l).drop 8 = encs l := rfl
  rw [e, scanL_encs l _ 8 hg (by rw [List.length_append]; omega), List.length_append]
  rfl
end Go.Frm
namespace Go.Seg
open Go.Med
set_option linter.unusedVariables false
open Go.Frm (encs GoodE)
theorem name_inj {a b : Int} (ha : 0 ≤ a) (ha2 : a < 1048576) (hb : 0 ≤ b) (hb2 : b < 1048576) (h : name a = name b) : a = b := by
  have h1 := number_name a ha ha2
  have h2 := number_name b hb hb2
  rw [h] at h1
  rw [h1] at h2
  exact congrArg Prod.fst h2
theorem good_name (n : Int) (h1 : 0 ≤ n) (h2 : n < 1048576) : good (name n) = true := by
  unfold name
  rw [if_neg (by omega)]
  unfold good
  have hl : (lead ++ digs n.toNat 8).length = 12 := by rw [List.length_append, digs_len]; rfl
  have hs : (⟨(lead ++ digs n.toNat 8).toArray⟩ : ByteArray).size = 12 := by show (lead ++ digs n.toNat 8).toArray.size = 12; simp [hl]
  rw [hs]
  simp only [List.all_append]
  have hd : (digs n.toNat 8).all goodC = true := by
    rw [List.all_eq_true]
    intro c hc
    have := (List.all_eq_true.1 (digs_dig 8 n.toNat)) c hc
    unfold isDig at this
    rw [Bool.and_eq_true, decide_eq_true_eq, decide_eq_true_eq] at this
    unfold goodC
    have e1 : (48 : UInt8) ≤ c := UInt8.le_iff_toNat_le.2 this.1
    have e2 : c ≤ 57 := UInt8.le_iff_toNat_le.2 this.2
    simp [e1, e2]
  rw [hd]
  rfl
theorem dst_inj {M : Med} {K r : Nat} (h : Calm K r M) {s t : ByteArray} {i : Nat} (h1 : nget M.now s = some i) (h2 : nget M.now t = some i) : t = s := by
  by_cases e : t = s
  · exact e
  · exfalso
    have := (used_split h.ok.nowOk.srt h.dst h1).1 (t, i) (List.mem_filter.2 ⟨nget_mem h2, by simpa [bne, beq_ba] using e⟩)
    exact this rfl
theorem all_some {M : Med} (q : Quiet M) {s : ByteArray} {i : Nat} (h : nget M.now s = some i) : M.all s = ((M.file i).now, 0) := by
  unfold Med.all; rw [q.off, h]; rfl
theorem all_none {M : Med} (q : Quiet M) {s : ByteArray} (h : nget M.now s = none) : M.all s = ([], 9) := by
  unfold Med.all; rw [q.off, h]; rfl
section
variable {K r : Nat} {M : Med} {L : Log}
theorem append_full (h : Calm K r M) {s : ByteArray} {i : Nat} (hi : nget M.now s = some i) (b : Bs) (hr : M.used + b.length ≤ M.room) :
    (M.append s b).2 = 0 ∧ (M.append s b).1.now = M.now ∧ (M.append s b).1.used = M.used + b.length ∧ (M.append s b).1.all s = ((M.all s).1 ++ b, 0) ∧ ∀ t, t ≠ s → (M.append s b).1.all t = M.all t := by
  have hlt : i < M.files.length := h.ok.nowOk.ids _ (nget_mem hi)
  rcases append_cases h.quiet s b with ⟨a1, _⟩ | ⟨j, a1, ⟨a2, a3⟩ | ⟨a2, a3⟩⟩
  · rw [hi] at a1; cases a1
  · exfalso; omega
  rw [hi] at a1
  cases a1
  have hq := (h.append s b).quiet
  rw [a3] at hq ⊢
  refine ⟨rfl, rfl, ?_, ?_, fun t ht => ?_⟩
  · have := used_set h.ok h.dst hi ((M.file i).do ⟨false, 0, b⟩)
    have e : ((M.file i).do ⟨false, 0, b⟩).now.length = (M.file i).now.length + b.length := by simp [Fil.do, Chg.on]
    rw [e] at this
    show (M.setFile i _).used = _
    omega
  · rw [all_some hq (show nget (M.setFile i _).now s = some i from hi), all_some h.quiet hi]
    show (((M.setFile i _).file i).now, (0 : Int)) = _
    rw [file_set hlt, if_pos rfl]; rfl
  · cases hj : nget M.now t with
    | none => rw [all_none hq (show nget (M.setFile i _).now t = none from hj), all_none h.quiet hj]
    | some j =>
      rw [all_some hq (show nget (M.setFile i _).now t = some j from hj), all_some h.quiet hj]
      show (((M.setFile i _).file j).now, (0 : Int)) = _
      rw [file_set hlt, if_neg (fun e => ht (dst_inj h hi (by rw [← e]; exact hj)))]
theorem create_full (h : Calm K r M) {s : ByteArray} (hg : good s = true) (hn : nget M.now s = none) (hl : M.now.length < 500) :
    (M.create s).2 = 0 ∧ (M.create s).1.now = nput M.now s M.files.length ∧ (M.create s).1.used = M.used ∧ (M.create s).1.all s = ([], 0) ∧ ∀ t, t ≠ s → (M.create s).1.all t = M.all t := by
  rcases create_cases h.quiet s with ⟨c1, c2, c3⟩ | ⟨_, _, _, c⟩
  · exfalso
    apply c1
    unfold Med.create
    rw [h.quiet.off, h.quiet.step, hg, hn]
    simp only [Bool.false_eq_true, if_false, Bool.true_eq_false, Option.isSome_none]
    rw [if_neg (by omega)]
  have hq := (h.create s).quiet
  rw [c] at hq ⊢
  refine ⟨rfl, rfl, ?_, ?_, fun t ht => ?_⟩
  · show ((nput M.now s M.files.length).map fun p => ((M.files ++ [Fil.new]).getD p.2 Fil.new).now.length).sum = _
    rw [sum_put _ _ _ (fun j => ((M.files ++ [Fil.new]).getD j Fil.new).now.length), ndel_none hn]
    have e0 : ((M.files ++ [Fil.new]).getD M.files.length Fil.new).now.length = 0 := by simp [Fil.new]
    rw [e0, Nat.zero_add]
    refine Med.sum_congr (g := fun j => ((M.files ++ [Fil.new]).getD j Fil.new).now.length) (h := fun j => (M.file j).now.length) fun p hp => ?_
    have := h.ok.nowOk.ids p hp
    simp only [Med.file, List.getD_eq_getElem?_getD]
    rw [List.getElem?_append_left this]
  · refine (all_some hq (i := M.files.length) (nget_put_self h.ok.nowOk.srt _ _)).trans ?_
    simp [Med.file, Fil.new]
  · have e := nget_put_ne (l := M.now) (i := M.files.length) ht
    cases hj : nget M.now t with
    | none => rw [hj] at e; exact (all_none hq e).trans (all_none h.quiet hj).symm
    | some j =>
      rw [hj] at e
      refine (all_some hq e).trans ?_
      rw [all_some h.quiet hj]
      have := h.ok.nowOk.ids _ (nget_mem hj)
      simp only [Med.file, List.getD_eq_getElem?_getD]
      rw [List.getElem?_append_left this]
theorem read_all (q : Quiet M) {s : ByteArray} {l : Bs} (h : M.all s = (l, 0)) {a n : Nat} (hn : a + n ≤ l.length) : M.read s a n = ((l.drop a).take n, 0) := by
  unfold Med.all at h
  unfold Med.read
  rw [q.off] at h ⊢
  simp only [Bool.false_eq_true, if_false] at h ⊢
  split at h
  · cases h
  · rename_i i hi
    cases h
    rw [if_neg (by omega), if_neg (by omega)]
    simp
theorem Log.shut_limit (L : Log) (M : Med) : (L.shut M).1.1.limit = L.limit := by
  unfold Log.shut
  split
  · rfl
  split
  · split <;> rfl
  · rfl
/-- The segments have just these entries. -/
structure Holds (n : Nat) (L : Log) (M : Med) (C : List (List Frm.Ent)) : Prop where
  keeps : Keeps (n * 5) 1048576 L M
  len : L.l.length = C.length
  at_ : ∀ (k : Nat) (es : List Frm.Ent), C[k]? = some es → L.l[k]? = some ((k : Int), 8 + ((encs es).length : Int))
  file : ∀ (k : Nat) (es : List Frm.Ent), C[k]? = some es → M.all (name k) = (mag ++ encs es, 0)
  good : ∀ es ∈ C, (∀ x ∈ es, GoodE x) ∧ es ≠ []
  fit : ∀ es ∈ C, 8 + ((encs es).length : Int) ≤ L.limit ∨ es.length = 1
  count : C.length ≤ n
  used : M.used ≤ n * 400
  names : M.now.length ≤ n
  only : ∀ (s : ByteArray) (i : Nat), nget M.now s = some i → ∃ k : Nat, k < C.length ∧ s = name k
/-- How an entry is put behind. -/
def put (C : List (List Frm.Ent)) (on : Bool) (x : Frm.Ent) : List (List Frm.Ent) := if on then C.dropLast ++ [C.getLastD [] ++ [x]] else C ++ [[x]]
theorem last_of {C : List (List Frm.Ent)} (h : C ≠ []) : C = C.dropLast ++ [C.getLastD []] := by
  conv => lhs; rw [← List.dropLast_concat_getLast h]
  rw [List.getLastD_eq_getLast?, List.getLast?_eq_some_getLast h]; rfl
theorem put_flat (C : List (List Frm.Ent)) (on : Bool) (x : Frm.Ent) (h : on = true → C ≠ []) : (put C on x).flatten = C.flatten ++ [x] := by
  unfold put
  cases on with
  | false => simp
  | true =>
    have e := last_of (h rfl)
    simp only [if_true]
    conv => rhs; rw [e]
    simp only [List.flatten_append, List.flatten_cons, List.flatten_nil, List.append_nil, List.append_assoc]
theorem encs_app (a b : List Frm.Ent) : encs (a ++ b) = encs a ++ encs b := by unfold encs; rw [List.flatMap_append]
theorem encs_one (x : Frm.Ent) : encs [x] = (Frm.encode x).1 := by unfold encs; simp
variable {n : Nat} {C : List (List Frm.Ent)}
theorem Holds.next (h : Holds n L M C) : L.next = C.length := by
  unfold Log.next
  cases hl : L.l.getLast? with
  | none =>
    have := List.getLast?_eq_none_iff.1 hl
    have h2 := h.len
    rw [this] at h2
    simp only [List.length_nil] at h2
    simp only; omega
  | some s =>
    rw [List.getLast?_eq_getElem?] at hl
    have hlt := (List.getElem?_eq_some_iff.1 hl).1
    have h2 := h.len
    have hc : C[L.l.length - 1]? = some (C[L.l.length - 1]'(by omega)) := List.getElem?_eq_getElem (by omega)
    have h3 := h.at_ _ _ hc
    rw [hl] at h3
    cases h3
    simp only; omega
theorem enc_small {x : Frm.Ent} (h0 : (Frm.encode x).2 = 0) (hk : x.key.length = 32) (hd : x.data.length ≤ 300) : (Frm.encode x).1.length ≤ 341 := by
  rw [size_enc h0 hk]
  unfold Frm.size
  split
  · omega
  · split <;> omega
theorem Holds.mono1 (h : Holds n L M C) : Holds (n + 1) L M C :=
  ⟨h.keeps.mono (by omega), h.len, h.at_, h.file, h.good, h.fit, Nat.le_succ_of_le h.count, Nat.le_trans h.used (Nat.mul_le_mul_right _ (Nat.le_succ n)), Nat.le_succ_of_le h.names, h.only⟩
theorem read_back {s : Int × Int} {x : Frm.Ent} {es : List Frm.Ent} (hK : Keeps K r L M) (hl : L.l.getLast? = some s) (hall : M.all (name s.1) = (mag ++ encs (es ++ [x]), 0)) (hg : GoodE x) :
    L.read M ⟨s.1, 8 + ((encs es).length : Int), ((Frm.encode x).1.length : Int)⟩ = (x, 0) := by
  unfold Log.read
  have hat := hK.log.at_last hl
  simp only [hat]
  have hr := read_all hK.calm.quiet hall (a := 8 + (encs es).length) (n := (Frm.encode x).1.length) (by rw [encs_app, encs_one]; simp only [List.length_append]; have : mag.length = 8 := rfl; omega)
  have hd : ((mag ++ encs (es ++ [x])).drop (8 + (encs es).length)).take (Frm.encode x).1.length = (Frm.encode x).1 := by
    rw [encs_app, encs_one, ← List.append_assoc, List.drop_append, List.drop_of_length_le (by simp only [List.length_append]; have : mag.length = 8 := rfl; omega)]
    have : 8 + (encs es).length - (mag ++ encs es).length = 0 := by simp only [List.length_append]; have : mag.length = 8 := rfl; omega
    rw [this, List.drop_zero, List.nil_append, List.take_length]
  rw [hd] at hr
  have hz : ((8 + (encs es).length : Nat) : Int) = 8 + ((encs es).length : Int) := by omega
  rw [hz] at hr
  have hre := Frm.read_encode hg.1 hg.2 []
  rw [List.append_nil] at hre
  rw [hr]
  simp only [hre]
  rw [if_neg (by decide), if_neg (by decide), if_neg (by simp)]
set_option maxHeartbeats 2000000 in
/-- An entry that can be is put behind. -/
theorem Holds.append (h : Holds n L M C) (hn : n < 100) (x : Frm.Ent) (hk : x.key.length = 32) (hd : x.data.length ≤ 300) (h0 : (Frm.encode x).2 = 0) :
    (L.append M x).2.2 = 0 ∧ (L.append M x).1.1.on = true ∧ (L.append M x).1.1.limit = L.limit ∧ Holds (n + 1) (L.append M x).1.1 (L.append M x).1.2 (put C (L.fits (Frm.encode x).1.length) x) ∧
      (L.append M x).1.1.read (L.append M x).1.2 (L.append M x).2.1 = (x, 0) ∧ (L.append M x).2.1.seg = (put C (L.fits (Frm.encode x).1.length) x).length - 1 := by
  have hz := enc_small h0 hk hd
  have hK := (h.keeps.append x hk).1
  have hu := h.used
  have hroom := h.keeps.calm.room
  have hcnt := h.count
  cases hf : L.fits (Frm.encode x).1.length with
  | true =>
    rw [Log.append_grow h0 hf] at hK ⊢
    have hf' := hf
    unfold Log.fits at hf'
    rw [Bool.and_eq_true, decide_eq_true_eq] at hf'
    obtain ⟨s, hl⟩ := h.keeps.log.last hf'.1
    rw [hl] at hf'
    have hl' := hl
    rw [List.getLast?_eq_getElem?] at hl'
    have hlt := (List.getElem?_eq_some_iff.1 hl').1
    have hlen := h.len
    have hne : C ≠ [] := by intro e; rw [e, List.length_nil] at hlen; omega
    obtain ⟨c, hc⟩ : ∃ c, C.length = c + 1 := ⟨C.length - 1, by omega⟩
    have hcl : C[c]? = some (C.getLastD []) := by
      conv => lhs; rw [last_of hne]
      rw [List.getElem?_append_right (by rw [List.length_dropLast]; omega), List.length_dropLast, show c - (C.length - 1) = 0 by omega]; rfl
    generalize hes : C.getLastD [] = es at *
    have hat := h.at_ _ _ hcl
    rw [show L.l.length - 1 = c by omega, hat] at hl'
    obtain rfl : ((c : Int), 8 + ((encs es).length : Int)) = s := by injection hl'
    obtain ⟨i, hi⟩ := h.keeps.has _ (List.mem_of_getLast? hl)
    simp only at hi
    have hall := h.file _ _ hcl
    obtain ⟨a1, a2, a3, a4, a5⟩ := append_full h.keeps.calm hi (Frm.encode x).1 (by omega)
    have hmem : es ∈ C := List.mem_of_getElem? hcl
    have hE : L.grow M (Frm.encode x).1 = (({ L with l := L.l.dropLast ++ [((c : Int), 8 + ((encs es).length : Int) + ((Frm.encode x).1.length : Int))] }, (M.append (name (c : Int)) (Frm.encode x).1).1), ⟨(c : Int), 8 + ((encs es).length : Int), (Frm.encode x).1.length⟩, 0) := by
      unfold Log.grow; rw [hl]; simp only [a1, if_true]
    rw [hE] at hK ⊢
    simp only at hK ⊢
    rw [hall] at a4
    have hsz : (encs (es ++ [x])).length = (encs es).length + (Frm.encode x).1.length := by rw [encs_app, encs_one, List.length_append]
    have hput : put C true x = C.dropLast ++ [es ++ [x]] := by unfold put; rw [if_pos rfl, hes]
    rw [hput]
    have hdl : C.dropLast.length = c := by rw [List.length_dropLast]; omega
    have a4' : (M.append (name (c : Int)) (Frm.encode x).1).1.all (name (c : Int)) = (mag ++ encs (es ++ [x]), 0) := by rw [a4, encs_app, encs_one]; simp
    refine ⟨by first | trivial | rfl, hf'.1, by first | trivial | rfl, ⟨hK.mono (by omega), ?_, ?_, ?_, ?_, ?_, ?_, ?_, ?_, ?_⟩, ?_, ?_⟩
    · simp only [List.length_append, List.length_dropLast, List.length_singleton]; omega
    · intro k fs hk'
      have hcl' : C[k]? = some fs ∧ k < c ∨ k = c ∧ fs = es ++ [x] := by
        rcases Nat.lt_trichotomy k c with q | q | q
        · rw [List.getElem?_append_left (by omega), List.getElem?_dropLast, if_pos (by omega)] at hk'
          exact .inl ⟨hk', q⟩
        · subst q
          rw [List.getElem?_append_right (by omega), hdl, Nat.sub_self] at hk'
          simp at hk'
          exact .inr ⟨rfl, hk'.symm⟩
        · rw [List.getElem?_eq_none (by simp only [List.length_append, List.length_singleton]; omega)] at hk'; cases hk'
      rcases hcl' with ⟨q1, q2⟩ | ⟨rfl, rfl⟩
      · rw [List.getElem?_append_left (by rw [List.length_dropLast]; omega), List.getElem?_dropLast, if_pos (by omega)]
        exact h.at_ _ _ q1
      · rw [List.getElem?_append_right (by rw [List.length_dropLast]; omega), List.length_dropLast, show k - (L.l.length - 1) = 0 by omega, hsz]
        simp only [List.getElem?_cons_zero, Option.some.injEq, Prod.mk.injEq, true_and]
        omega
    · intro k fs hk'
      have hcl' : C[k]? = some fs ∧ k < c ∨ k = c ∧ fs = es ++ [x] := by
        rcases Nat.lt_trichotomy k c with q | q | q
        · rw [List.getElem?_append_left (by omega), List.getElem?_dropLast, if_pos (by omega)] at hk'
          exact .inl ⟨hk', q⟩
        · subst q
          rw [List.getElem?_append_right (by omega), hdl, Nat.sub_self] at hk'
          simp at hk'
          exact .inr ⟨rfl, hk'.symm⟩
        · rw [List.getElem?_eq_none (by simp only [List.length_append, List.length_singleton]; omega)] at hk'; cases hk'
      rcases hcl' with ⟨q1, q2⟩ | ⟨rfl, rfl⟩
      · rw [a5 _ (fun e => by have := name_inj (by omega) (by omega) (by omega) (by omega) e; omega)]
        exact h.file _ _ q1
      · exact a4'
    · intro fs hfs
      rcases List.mem_append.1 hfs with hfs | hfs
      · exact h.good fs ((List.dropLast_subset _ hfs))
      · rw [List.mem_singleton.1 hfs]
        refine ⟨fun y hy => ?_, by simp⟩
        rcases List.mem_append.1 hy with hy | hy
        · exact (h.good es hmem).1 y hy
        · rw [List.mem_singleton.1 hy]; exact ⟨h0, hk⟩
    · intro fs hfs
      rcases List.mem_append.1 hfs with hfs | hfs
      · exact h.fit fs ((List.dropLast_subset _ hfs))
      · rw [List.mem_singleton.1 hfs, hsz]
        left
        have h2 : 8 + ((encs es).length : Int) + ((Frm.encode x).1.length : Int) ≤ L.limit := hf'.2
        show 8 + (((encs es).length + (Frm.encode x).1.length : Nat) : Int) ≤ L.limit
        omega
    · simp only [List.length_append, List.length_singleton]; omega
    · rw [a3]; omega
    · rw [a2]; have := h.names; omega
    · intro s' j hj
      rw [a2] at hj
      obtain ⟨k, k1, k2⟩ := h.only s' j hj
      exact ⟨k, by simp only [List.length_append, List.length_singleton]; omega, k2⟩
    · exact read_back (s := ((c : Int), 8 + ((encs es).length : Int) + ((Frm.encode x).1.length : Int))) hK (by simp) a4' ⟨h0, hk⟩
    · simp only [List.length_append, List.length_singleton]; omega
  | false =>
    rw [Log.append_begin h0 hf] at hK ⊢
    obtain ⟨s1, s2, s3, s4, s5⟩ := h.keeps.shut
    have hlim := Log.shut_limit L M
    have hB : L.begin M (Frm.encode x).1 = (L.shut M).1.1.begin1 (L.shut M).1.2 (Frm.encode x).1 := by unfold Log.begin; rw [if_pos s2]
    rw [hB] at hK ⊢
    have hnx : (L.shut M).1.1.next = C.length := by rw [← h.next]; unfold Log.next; rw [s3]
    have hall2 := s5.all
    have hnow := s5.now
    have hused := s5.used
    have hroom2 := s1.calm.room
    generalize (L.shut M).1.1 = L1 at *
    generalize (L.shut M).1.2 = M1 at *
    have hnn : nget M1.now (name (C.length : Int)) = none := by
      cases hq : nget M1.now (name (C.length : Int)) with
      | none => rfl
      | some i =>
        exfalso
        rw [hnow] at hq
        obtain ⟨k, k1, k2⟩ := h.only _ _ hq
        have := name_inj (by omega) (by omega) (by omega) (by omega) k2
        omega
    obtain ⟨c1, c2, c3, c4, c5⟩ := create_full s1.calm (good_name (C.length : Int) (by omega) (by omega)) hnn (by rw [hnow]; have := h.names; omega)
    have hc1 := s1.calm.create (name (C.length : Int))
    have hself : nget (M1.create (name (C.length : Int))).1.now (name (C.length : Int)) = some M1.files.length := by rw [c2]; exact nget_put_self s1.calm.ok.nowOk.srt _ _
    obtain ⟨a1, a2, a3, a4, a5⟩ := append_full hc1 hself (mag ++ (Frm.encode x).1) (by rw [c3, hused, hc1.room, List.length_append]; have : mag.length = 8 := rfl; omega)
    have hE : L1.begin1 M1 (Frm.encode x).1 = (({ L1 with l := L1.l ++ [((C.length : Int), 8 + ((Frm.encode x).1.length : Int))], on := true, fresh := L1.fresh + 1 }, ((M1.create (name (C.length : Int))).1.append (name (C.length : Int)) (mag ++ (Frm.encode x).1)).1), ⟨(C.length : Int), 8, (Frm.encode x).1.length⟩, 0) := by
      unfold Log.begin1
      rw [hnx, if_neg (by omega), if_neg (fun hh => hh c1), if_pos a1]
    rw [hE] at hK ⊢
    simp only at hK ⊢
    rw [c4] at a4
    have a4' : ((M1.create (name (C.length : Int))).1.append (name (C.length : Int)) (mag ++ (Frm.encode x).1)).1.all (name (C.length : Int)) = (mag ++ encs ([] ++ [x]), 0) := by rw [a4, encs_app, encs_one]; simp [encs]
    have hput : put C false x = C ++ [[x]] := by unfold put; rw [if_neg (by decide)]
    rw [hput]
    have hlen := h.len
    refine ⟨by first | trivial | rfl, by first | trivial | rfl, hlim, ⟨hK.mono (by omega), ?_, ?_, ?_, ?_, ?_, ?_, ?_, ?_, ?_⟩, ?_, ?_⟩
    · simp only [s3, List.length_append, List.length_singleton]; omega
    · intro k fs hk'
      rcases Nat.lt_trichotomy k C.length with q | q | q
      · rw [List.getElem?_append_left q] at hk'
        rw [s3, List.getElem?_append_left (by omega)]
        exact h.at_ _ _ hk'
      · subst q
        rw [List.getElem?_append_right (Nat.le_refl _), Nat.sub_self] at hk'
        simp at hk'
        subst hk'
        rw [s3, List.getElem?_append_right (by omega), hlen, Nat.sub_self, encs_one]
        rfl
      · rw [List.getElem?_eq_none (by simp only [List.length_append, List.length_singleton]; omega)] at hk'; cases hk'
    · intro k fs hk'
      rcases Nat.lt_trichotomy k C.length with q | q | q
      · rw [List.getElem?_append_left q] at hk'
        have hne : name (k : Int) ≠ name (C.length : Int) := fun e => by have := name_inj (by omega) (by omega) (by omega) (by omega) e; omega
        rw [a5 _ hne, c5 _ hne, hall2]
        exact h.file _ _ hk'
      · subst q
        rw [List.getElem?_append_right (Nat.le_refl _), Nat.sub_self] at hk'
        simp at hk'
        subst hk'
        exact a4'
      · rw [List.getElem?_eq_none (by simp only [List.length_append, List.length_singleton]; omega)] at hk'; cases hk'
    · intro fs hfs
      rcases List.mem_append.1 hfs with hfs | hfs
      · exact h.good fs hfs
      · rw [List.mem_singleton.1 hfs]
        exact ⟨fun y hy => by rw [List.mem_singleton.1 hy]; exact ⟨h0, hk⟩, by simp⟩
    · intro fs hfs
      rcases List.mem_append.1 hfs with hfs | hfs
      · have := h.fit fs hfs; rw [hlim]; exact this
      · rw [List.mem_singleton.1 hfs]; right; rfl
    · simp only [List.length_append, List.length_singleton]; omega
    · rw [a3, c3, hused, List.length_append]; have : mag.length = 8 := rfl; omega
    · rw [a2, c2, nput_len]
      have := ndel_len M1.now (name (C.length : Int))
      rw [hnow] at this
      have := h.names
      rw [hnow]; omega
    · intro s' j hj
      by_cases e : s' = name (C.length : Int)
      · exact ⟨C.length, by simp, e⟩
      · rw [a2, c2, nget_put_ne e, hnow] at hj
        obtain ⟨k, k1, k2⟩ := h.only s' j hj
        exact ⟨k, by simp only [List.length_append, List.length_singleton]; omega, k2⟩
    · exact read_back (s := ((C.length : Int), 8 + ((Frm.encode x).1.length : Int))) (es := []) hK (by simp) a4' ⟨h0, hk⟩
    · simp only [List.length_append, List.length_singleton]; omega
end
end Go.Seg
/- Plain: commits; where commits stand; what the segments show. No walk here. -/
namespace Go.Seg
open Go.Med
set_option linter.unusedVariables false
open Go.Frm (encs GoodE)
section
variable {n : Nat} {M : Med} {L : Log} {C : List (List Frm.Ent)}
/-- A commit goes well, and shuts the segment. -/
theorem Holds.commit (h : Holds n L M C) (hn : n < 100) :
    (L.commit M).2.2 = 0 ∧ (L.commit M).1.1.on = false ∧ (L.commit M).1.1.limit = L.limit ∧ Holds (n + 1) (L.commit M).1.1 (L.commit M).1.2 (put C (L.fits (Frm.encode comEnt).1.length) comEnt) := by
  obtain ⟨a1, a2, a3, a4, a5, a6⟩ := h.append hn comEnt rfl (by decide) (by rfl)
  obtain ⟨i, hi⟩ := append_place h.keeps comEnt rfl a1
  have hlog := h.keeps.log.commit M
  have hcalm := h.keeps.commit
  rw [Log.commit_eq] at hlog hcalm ⊢
  rw [if_neg (fun hh => hh a1)] at hlog hcalm ⊢
  generalize L.append M comEnt = r at *
  obtain ⟨⟨L1, M1⟩, p1, e1⟩ := r
  simp only at *
  have hs := sync_alike a4.keeps.calm.ok a4.keeps.calm.quiet (name p1.seg)
  have hsc := a4.keeps.calm.sync (name p1.seg)
  have es := a4.keeps.calm.quiet.sync_eq hi
  have es2 : (M1.sync (name p1.seg)).2 = 0 := by rw [es]
  rw [if_neg (fun hh => hh es2)] at hlog hcalm ⊢
  generalize (M1.sync (name p1.seg)).1 = M2 at *
  have ed := hsc.quiet.syncDir_eq
  have ed2 : M2.syncDir.2 = 0 := by rw [ed]
  rw [if_neg (fun hh => hh ed2)] at hlog hcalm ⊢
  have had : Alike M2 M2.syncDir.1 := by rw [ed]; exact ⟨rfl, rfl, rfl, fun _ _ => rfl⟩
  have ha := hs.trans had
  refine ⟨rfl, rfl, a3, ⟨?_, a4.len, a4.at_, fun k es' hk => by rw [ha.all]; exact a4.file k es' hk, a4.good, a4.fit, a4.count, by rw [ha.used]; exact a4.used, by rw [ha.now]; exact a4.names, by rw [ha.now]; exact a4.only⟩⟩
  rw [show (n + 1) * 5 = n * 5 + 5 by omega]
  exact hcalm
/-- Commits stand last. -/
def comLast (C : List (List Frm.Ent)) : Prop := ∀ es ∈ C, ∀ (k : Nat) (x : Frm.Ent), es[k]? = some x → x.tag = 2 → k + 1 = es.length
def noCom (es : List Frm.Ent) : Prop := ∀ x ∈ es, x.tag ≠ 2
structure Tail (on : Bool) (C : List (List Frm.Ent)) : Prop where
  last : comLast C
  tail : on = true → noCom (C.getLastD [])
theorem put_last (C : List (List Frm.Ent)) (x : Frm.Ent) (b : Bool) : (put C b x).getLastD [] = (if b then C.getLastD [] else []) ++ [x] := by
  unfold put
  cases b <;> simp
theorem Tail.put {on b : Bool} (h : Tail on C) (hb : b = true → on = true) (x : Frm.Ent) : comLast (put C b x) := by
  intro es hes k y hk hy
  have hold : ∀ l, noCom l → ∀ (k : Nat) (y : Frm.Ent), (l ++ [x])[k]? = some y → y.tag = 2 → k + 1 = (l ++ [x]).length := by
    intro l hl k y hk hy
    rcases Nat.lt_trichotomy k l.length with q | q | q
    · rw [List.getElem?_append_left q] at hk
      exact absurd hy (hl y (List.mem_of_getElem? hk))
    · rw [List.length_append, q]; rfl
    · rw [List.getElem?_eq_none (by simp only [List.length_append, List.length_singleton]; omega)] at hk; cases hk
  unfold Seg.put at hes
  cases b with
  | true =>
    simp only [if_true] at hes
    rcases List.mem_append.1 hes with hes | hes
    · exact h.last es (List.dropLast_subset _ hes) k y hk hy
    · rw [List.mem_singleton.1 hes] at hk ⊢
      exact hold _ (h.tail (hb rfl)) k y hk hy
  | false =>
    simp only [Bool.false_eq_true, if_false] at hes
    rcases List.mem_append.1 hes with hes | hes
    · exact h.last es hes k y hk hy
    · rw [List.mem_singleton.1 hes] at hk ⊢
      exact hold [] (fun x hx => by cases hx) k y hk hy
theorem Tail.putOn {on b : Bool} (h : Tail on C) (hb : b = true → on = true) (x : Frm.Ent) (hx : x.tag ≠ 2) : Tail true (Seg.put C b x) := by
  refine ⟨h.put hb x, fun _ => ?_⟩
  rw [put_last]
  intro y hy
  rcases List.mem_append.1 hy with hy | hy
  · cases b with
    | true => simp only [if_true] at hy; exact h.tail (hb rfl) y hy
    | false => simp at hy
  · rw [List.mem_singleton.1 hy]; exact hx
theorem Tail.putOff {on b : Bool} (h : Tail on C) (hb : b = true → on = true) (x : Frm.Ent) : Tail false (Seg.put C b x) := ⟨h.put hb x, fun hh => by cases hh⟩
theorem fits_on' {k : Nat} (h : L.fits k = true) : L.on = true := by
  unfold Log.fits at h
  rw [Bool.and_eq_true] at h
  exact h.1
/-- Which commits are no calls. -/
def committedB (l : List Cal) : Bool := l.all fun c => c.kind == 1 || !(c.e.tag == 2)
theorem committed_tag {l : List Cal} (h : committedB l = true) {c : Cal} (hc : c ∈ l) (hk : c.kind ≠ 1) : c.e.tag ≠ 2 := by
  have := List.all_eq_true.1 h c hc
  rw [beq_false_of_ne hk, Bool.false_or] at this
  simpa using this
/-! ### what is shown -/
theorem Holds.segs (h : Holds n L M C) : L.segs.length = C.length ∧ ∀ k, k < C.length → L.segs[k]? = some (k : Int) := by
  unfold Log.segs
  refine ⟨by rw [List.length_map]; exact h.len, fun k hk => ?_⟩
  rw [List.getElem?_map, h.at_ k _ (List.getElem?_eq_getElem hk)]; rfl
theorem Holds.at_k (h : Holds n L M C) {k : Nat} {es : List Frm.Ent} (hk : C[k]? = some es) : L.at (k : Int) = some k := by
  have h1 := h.at_ k es hk
  cases hat : L.at (k : Int) with
  | none =>
    exfalso
    unfold Log.at at hat
    rw [List.findIdx?_eq_none_iff] at hat
    have := hat _ (List.mem_of_getElem? h1)
    simp at this
  | some i =>
    obtain ⟨h2, s, h3, h4⟩ := Log.at_lt hat
    have h5 : i < C.length := by rw [← h.len]; exact h2
    have h6 := h.at_ i _ (List.getElem?_eq_getElem h5)
    rw [h6] at h3
    cases h3
    simp only at h4
    congr 1
    omega
theorem Holds.bytes (h : Holds n L M C) {k : Nat} {es : List Frm.Ent} (hk : C[k]? = some es) : L.bytes M (k : Int) = (mag ++ encs es, 0) := by
  unfold Log.bytes
  rw [h.at_k hk]
  exact h.file k es hk
theorem Holds.size (h : Holds n L M C) {k : Nat} {es : List Frm.Ent} (hk : C[k]? = some es) : L.size (k : Int) = ((mag ++ encs es).length : Nat) := by
  unfold Log.size
  rw [h.at_k hk]
  have h1 := h.at_ k es hk
  simp only [List.getD_eq_getElem?_getD, h1, Option.getD_some, List.length_append]
  have : mag.length = 8 := rfl
  omega
theorem Holds.scan (h : Holds n L M C) {k : Nat} {es : List Frm.Ent} (hk : C[k]? = some es) : Frm.scan (mag ++ encs es) = (Frm.fnds es 8, (mag ++ encs es).length, 0) :=
  Frm.scan_encs es (h.good es (List.mem_of_getElem? hk)).1
theorem Holds.small (h : Holds n L M C) (hn : n ≤ 100) {k : Nat} {es : List Frm.Ent} (hk : C[k]? = some es) : (mag ++ encs es).length ≤ 16777216 := by
  have h1 := h.file k es hk
  have h2 := bytes_len (L := L) h.keeps.calm.ok (k : Int)
  rw [h.bytes hk] at h2
  exact h2
/-- The k-th entry of the i-th segment, among all. -/
theorem flat_at : ∀ (C : List (List Frm.Ent)) (i : Nat) (es : List Frm.Ent) (k : Nat), C[i]? = some es → k < es.length → C.flatten[((C.take i).flatten).length + k]? = es[k]?
  | [], i, es, k, h, _ => by cases h
  | e :: C, 0, es, k, h, hk => by
    obtain rfl : e = es := by simpa using h
    simp only [List.take_zero, List.flatten_nil, List.length_nil, Nat.zero_add, List.flatten_cons]
    rw [List.getElem?_append_left hk]
  | e :: C, i + 1, es, k, h, hk => by
    have h' : C[i]? = some es := by simpa using h
    have := flat_at C i es k h' hk
    simp only [List.take_succ_cons, List.flatten_cons, List.length_append]
    rw [List.getElem?_append_right (by omega), ← this]
    congr 1
    omega
theorem flat_next {C : List (List Frm.Ent)} {i : Nat} {es : List Frm.Ent} (h : C[i]? = some es) : ((C.take (i + 1)).flatten).length = ((C.take i).flatten).length + es.length := by
  rw [List.take_add_one, h, List.flatten_append]
  simp
theorem flat_le {C : List (List Frm.Ent)} {i : Nat} {es : List Frm.Ent} (h : C[i]? = some es) : ((C.take i).flatten).length + es.length ≤ C.flatten.length := by
  rw [← flat_next h]
  conv => rhs; rw [← List.take_append_drop (i + 1) C, List.flatten_append, List.length_append]
  omega
theorem Holds.start (lim : Int) (h1 : 128 ≤ lim) (h2 : lim ≤ 1048576) : Holds 0 ⟨lim, [], false, 0⟩ (new 1048576) [] := by
  refine ⟨⟨⟨⟨h1, h2⟩, List.Pairwise.nil, (fun s hs => by cases hs), (fun s hs => by cases hs), ⟨Int.le_refl _, by simp⟩, fun hh => by cases hh⟩, Calm.new 0 1048576 (by decide), fun s hs => by cases hs⟩, rfl, (fun k es hk => by simp at hk), (fun k es hk => by simp at hk), (fun es hes => by cases hes), (fun es hes => by cases hes), Nat.le_refl _, Nat.le_refl _, Nat.le_refl _, fun s i hs => by cases hs⟩
end
end Go.Seg
/- What an operation yields, whatever its guard. -/
namespace Go.Proofs.YtjklhichekmdhaaDoor
open Go Go.Sl Go.Med Go.MapKept Go.RowKit
set_option linter.unusedVariables false
section
variable {P : Program} {w0 w : World} {L L' R : List HProp} {b : Nat} {ops : Array Oper} {rest : List Oper} {a : Act} {Q : Exit → Act → World → Prop}
variable {dst : Option Tmp} {t ty T : TypeId} {pos : String} {after : Array Edge} {x y z : Operand} {cs : Array Value} {v : Value} {o : Nat}
variable {vx vy : Value} {ad : Addr} {fl : Nat} {bo : BinOp} {uo : UnOp} {tz : TypeId} {G : World → Prop}
theorem yg_move {g : Option (Nat × Bool)} (hw : Region.wanted ⟨dst, .move x, t, pos, after, g⟩ (yielded ops a.tmps) = true) (hx : a.eval x = v) : Yields P ops ⟨dst, .move x, t, pos, after, g⟩ v a :=
  .inl ⟨hw, fun w => by simp only [execOp, hx]; rfl⟩
theorem yg_assign {g : Option (Nat × Bool)} (hw : Region.wanted ⟨dst, .assign x, t, pos, after, g⟩ (yielded ops a.tmps) = true) (hx : a.eval x = v) : Yields P ops ⟨dst, .assign x, t, pos, after, g⟩ v a :=
  .inl ⟨hw, fun w => by simp only [execOp, hx]; rfl⟩
theorem yg_nil {g : Option (Nat × Bool)} (hw : Region.wanted ⟨dst, .nilCheck x, t, pos, after, g⟩ (yielded ops a.tmps) = true) (hx : a.eval x = .pointer (some ad)) : Yields P ops ⟨dst, .nilCheck x, t, pos, after, g⟩ (.pointer (some ad)) a :=
  .inl ⟨hw, fun w => by simp only [execOp, hx]; rfl⟩
theorem yg_field {g : Option (Nat × Bool)} (hw : Region.wanted ⟨dst, .fieldAddr ty x fl, t, pos, after, g⟩ (yielded ops a.tmps) = true) (hx : a.eval x = vx) (hr : ∀ w, (Instr.fieldAt ty vx fl).run P w = .ok v w) : Yields P ops ⟨dst, .fieldAddr ty x fl, t, pos, after, g⟩ v a :=
  .inl ⟨hw, fun w => by simp only [execOp, hx, Sem.run_bind, hr, Result.andThen_ok, Sem.run_pure]⟩
theorem yg_index {g : Option (Nat × Bool)} (hw : Region.wanted ⟨dst, .indexAddr ty x y, t, pos, after, g⟩ (yielded ops a.tmps) = true) (hx : a.eval x = vx) (hy : a.eval y = vy) (hr : ∀ w, (Instr.indexAt ty vx vy).run P w = .ok v w) : Yields P ops ⟨dst, .indexAddr ty x y, t, pos, after, g⟩ v a :=
  .inl ⟨hw, fun w => by simp only [execOp, hx, hy, Sem.run_bind, hr, Result.andThen_ok, Sem.run_pure]⟩
theorem yg_bin {g : Option (Nat × Bool)} (hw : Region.wanted ⟨dst, .binOp bo ty x y tz, t, pos, after, g⟩ (yielded ops a.tmps) = true) (hx : a.eval x = vx) (hy : a.eval y = vy) (hr : ∀ w, ((do eqGuard bo ty x y vx vy; binOp bo ty vx vy) : Sem Value).run P w = .ok v w) : Yields P ops ⟨dst, .binOp bo ty x y tz, t, pos, after, g⟩ v a :=
  .inl ⟨hw, fun w => by simp only [execOp, hx, hy, Sem.run_bind (x := (do eqGuard bo ty x y vx vy; binOp bo ty vx vy)), hr, Result.andThen_ok, Sem.run_pure]⟩
theorem yg_un {g : Option (Nat × Bool)} (hw : Region.wanted ⟨dst, .unOp uo ty x, t, pos, after, g⟩ (yielded ops a.tmps) = true) (hx : a.eval x = vx) (hr : ∀ w, (Op.unary uo vx).run P w = .ok v w) : Yields P ops ⟨dst, .unOp uo ty x, t, pos, after, g⟩ v a :=
  .inl ⟨hw, fun w => by simp only [execOp, hx, Sem.run_bind, hr, Result.andThen_ok, Sem.run_pure]⟩
theorem yg_conv {g : Option (Nat × Bool)} (hw : Region.wanted ⟨dst, .convert ty tz x, t, pos, after, g⟩ (yielded ops a.tmps) = true) (hx : a.eval x = vx) (hr : ∀ w, (convert ty tz vx).run P w = .ok v w) : Yields P ops ⟨dst, .convert ty tz x, t, pos, after, g⟩ v a :=
  .inl ⟨hw, fun w => by simp only [execOp, hx, Sem.run_bind, hr, Result.andThen_ok, Sem.run_pure]⟩
theorem yg_extract {g : Option (Nat × Bool)} (hw : Region.wanted ⟨dst, .extract x fl, t, pos, after, g⟩ (yielded ops a.tmps) = true) (hx : a.eval x = vx) (hr : ∀ w, (Instr.extract vx fl).run P w = .ok v w) : Yields P ops ⟨dst, .extract x fl, t, pos, after, g⟩ v a :=
  .inl ⟨hw, fun w => by simp only [execOp, hx, Sem.run_bind, hr, Result.andThen_ok, Sem.run_pure]⟩
theorem yg_len {g : Option (Nat × Bool)} (hw : Region.wanted ⟨dst, .call { callee := .builtin .len, args := #[x], argTypes := #[ty] }, t, pos, after, g⟩ (yielded ops a.tmps) = true) (hx : a.eval x = vx) (hr : ∀ w, (Builtin.len_ #[ty] t #[vx]).run P w = .ok v w) : Yields P ops ⟨dst, .call { callee := .builtin .len, args := #[x], argTypes := #[ty] }, t, pos, after, g⟩ v a :=
  .inl ⟨hw, fun w => by
    rw [execOp_builtin_len, hx]
    simp only [Sem.run_bind, hr, Result.andThen_ok, Sem.run_pure]⟩
theorem tg_load {g : Option (Nat × Bool)} (hw : Region.wanted ⟨dst, .load ty x, t, pos, after, g⟩ (yielded ops a.tmps) = true) (hx : a.eval x = .pointer (some ad)) (h1 : oneB P ty = true) (hG : ∀ w, G w → w.cell? ad = some v) : YieldsIf P ops G ⟨dst, .load ty x, t, pos, after, g⟩ v a :=
  .inl ⟨hw, fun w hw => by
    obtain ⟨b, o, el⟩ := ad
    have hc := hG w hw
    simp only [execOp, hx, Instr.loadAt, Instr.sureAddr, Sem.run_bind, Sem.run_pure, Result.andThen_ok, run_load1A h1 hc]⟩
theorem yg_pick {g : Option (Nat × Bool)} {c : Bool} (hw : Region.wanted ⟨dst, .pick x y z, t, pos, after, g⟩ (yielded ops a.tmps) = true) (hx : a.eval x = .bool c) (hv : (if c then a.eval y else a.eval z) = v) : Yields P ops ⟨dst, .pick x y z, t, pos, after, g⟩ v a :=
  .inl ⟨hw, fun w => by
    subst hv
    simp only [execOp, hx]
    cases c <;> rfl⟩
theorem tg_loadN {g : Option (Nat × Bool)} (ks : List Value) (hw : Region.wanted ⟨dst, .load ty x, t, pos, after, g⟩ (yielded ops a.tmps) = true) (hx : a.eval x = .pointer (some ⟨b, o, none⟩)) {d : TypeDesc} (hu : P.underlying ty = some d) (hd : d.isRow = true) (hi : (P.info? ty).map (·.size) = some ks.length) (hG : ∀ w, G w → w.rangeAt b o ks) :
    YieldsIf P ops G ⟨dst, .load ty x, t, pos, after, g⟩ (.agg ks.toArray) a :=
  yieldsIf_load_mid hw ty x rfl b o hx ks d hG hu hd hi
theorem eg_of {op : Oper} {K : Act → World → Prop} {E : Prop} (hw : Region.wanted op (yielded ops a.tmps) = true) (h : Oper.wp P op a w K Q) : if Region.wanted op (yielded ops a.tmps) = true then Oper.wp P op a w K Q else E := by
  rw [if_pos hw]; exact h
theorem eg_call {g : Option (Nat × Bool)} {f : FuncId} {xs : Array Operand} {ts : Array TypeId} {K : Act → World → Prop} {E : Prop} (vs : List Value) (hw : Region.wanted ⟨dst, .call { callee := .value (.func f), args := xs, argTypes := ts }, t, pos, after, g⟩ (yielded ops a.tmps) = true) (hf : goB P f = true) (hv : xs.toList.map a.eval = vs)
    (h : Calls P f vs.toArray w (Upon K Q a dst)) : if Region.wanted ⟨dst, .call { callee := .value (.func f), args := xs, argTypes := ts }, t, pos, after, g⟩ (yielded ops a.tmps) = true then
      Oper.wp P ⟨dst, .call { callee := .value (.func f), args := xs, argTypes := ts }, t, pos, after, g⟩ a w K Q else E := by
  rw [if_pos hw]
  have h0 := eff_call (P := P) (ops := ops) (a := a) (w := w) (Q := Q) (dst := dst) (t := t) (pos := pos) (after := after) (K := K) (E := False) (xs := xs) (ts := ts) vs hf hv h
  rw [if_pos (want_none _ rfl)] at h0
  exact h0
theorem rg_skip {l : Array Bool} {n : Nat} {late : List Nat} {oi : Oper} (i : Nat) (hi : ops.toList[i]? = some oi) (hc : (Region.noSelect ops && Region.free .any ops l i && (Region.ready .any ops l).contains i && shutB ops l) = true)
    (hQ : ∀ c a w, Q (.panic c) (a.put oi.dst undef) w → Q (.panic c) a w) (hw : Region.wanted oi (yielded ops a.tmps) = false) {a' : Act} (ha : a.put oi.dst undef = a')
    (h : wpL P ops Q late G n (l.setIfInBounds i true) a' w) : wpL P ops Q late G (n + 1) l a w :=
  rg_pure i hi hc hQ (.inr ⟨hw, rfl⟩) ha h
end
end Go.Proofs.YtjklhichekmdhaaDoor
/- hoardlaw14.SegsFull. -/
namespace Go.Proofs.YtjklhichekmdhaaDoor
open Go Go.Sl Go.Med Go.MapKept Go.RowKit
set_option linter.unusedVariables false
section
variable {w0 w : World} {F R : List HProp} {v bv dv x lv : Value}
theorem within_mem (x lo hi : Int) (h : lo ≤ hi) : lo ≤ within x lo hi ∧ within x lo hi ≤ hi := by
  unfold within
  split
  · exact ⟨Int.le_refl _, h⟩
  · split <;> omega
theorem few_len {es : List SD} {l : List Seg.Cal} {n : Nat} (h : es.map (·.c) = Seg.fewC l n) : es.length ≤ n := by
  have := congrArg List.length h
  unfold Seg.fewC at this
  rw [List.length_map, List.length_map, List.length_take] at this
  omega
theorem few_key {es : List SD} {ds : List SD} {n : Nat} (h : es.map (·.c) = Seg.fewC (ds.map (·.c)) n) (hk : ∀ d ∈ ds, d.c.e.key.length = 32) : ∀ d ∈ es, d.c.e.key.length = 32 ∧ d.c.e.data.length ≤ 300 := by
  intro d hd
  have h1 : d.c ∈ es.map (·.c) := List.mem_map.2 ⟨d, hd, rfl⟩
  rw [h] at h1
  unfold Seg.fewC at h1
  obtain ⟨x, hx, e⟩ := List.mem_map.1 h1
  obtain ⟨y, hy, rfl⟩ := List.mem_map.1 (List.mem_of_mem_take hx)
  rw [← e]
  exact ⟨hk y hy, by show (y.c.e.data.take 300).length ≤ 300; rw [List.length_take]; omega⟩
set_option maxRecDepth 20000 in
set_option maxHeartbeats 32000000 in
theorem segs_full_c (limit room : Int) (ds : List SD) (hr : Ro w0 F (rdsl 40 lv (sdsL ds))) (hds : ∀ d ∈ ds, SDRo w0 F d) (e : Frm.Ent) (hk : e.key.length = 32) (da : Option Addr) (dc : Nat) (hd : Ro w0 F (rdsl 1 (.slice da e.data.length dc) (bys e.data))) (hcap : capOk (.slice da e.data.length dc)) (hH : Ro w0 F Half) (h : Sat w0 w F) :
    Calls Tryd.prog 3 #[.int .i64 limit, .int .i64 room, lv, .agg (entA e (.slice da e.data.length dc))] w (Rtn fun v w' => v = .bool true ∧ Sat w0 w' F) := by
  have Hk := Lib.hid hk; have HH := Lib.hid hH; have Hd := Lib.hid hd; have Hcap := Lib.hid hcap; have Hr := Lib.hid hr; have Hds := Lib.hid hds
  clear hk hH hd hcap hr hds
  go_enter Tryd.func3, Tryd.ntmps3
  go_wp2_with ((with_reducible apply at_boxE); refine ⟨?_⟩; refine wl_boxE (by assumption) (by rfl) ?_; intro bX wX hX)
  refine (fewD_c ds 30 (by decide) (Ro.of_sub Hr.out (by repeat (first | (with_reducible apply sub_refl) | ((with_reducible apply sub_take); (· first | ((repeat (first | with_reducible apply pick0 | with_reducible apply pick_there)); done) | ((repeat (first | apply pick0 | apply pick_there)); done) | fail)) | (with_reducible apply sub_drop)))) (fun d hd => ⟨(Hds.out d hd).key, Ro.of_sub (Hds.out d hd).rd (by repeat (first | (with_reducible apply sub_refl) | ((with_reducible apply sub_take); (· first | ((repeat (first | with_reducible apply pick0 | with_reducible apply pick_there)); done) | ((repeat (first | apply pick0 | apply pick_there)); done) | fail)) | (with_reducible apply sub_drop))), (Hds.out d hd).cap, Ro.of_sub (Hds.out d hd).rl (by repeat (first | (with_reducible apply sub_refl) | ((with_reducible apply sub_take); (· first | ((repeat (first | with_reducible apply pick0 | with_reducible apply pick_there)); done) | ((repeat (first | apply pick0 | apply pick_there)); done) | fail)) | (with_reducible apply sub_drop))), (Hds.out d hd).capl⟩) hX).mono ?_
  rintro ee w1 ⟨v, rfl, es, ov, rfl, hes, _, hS1⟩
  have Hel := Lib.hid (few_len hes)
  have Hek := Lib.hid (few_key hes (fun d hd => (Hds.out d hd).key))
  obtain ⟨oa, oc, rfl⟩ := sds_len (fun d hd => (Hek.out d hd).1) hS1
  clear h hX hes
  go_wp2_with (first | ((with_reducible apply at_loadE); refine ⟨?_⟩; refine wl_loadE (by assumption) (by rfl) (by first | ((repeat (first | with_reducible apply pick0 | with_reducible apply pick_there)); done) | ((repeat (first | apply pick0 | apply pick_there)); done) | fail) (by first | rfl | assumption | exact Hid.out (by assumption)) ?_) | ((with_reducible apply at_buildE); refine ⟨?_⟩; refine wl_buildE (by assumption) (by rfl) Hk.out ?_; intro bN wN hN))
  refine (few_c (lv := .slice (some ⟨bN, 0, none⟩) 1 1) [(e, .slice da e.data.length dc)] 1 300 (by decide) (by decide) (ro_one Hk.out) (fun p hp => by
    rw [List.mem_singleton] at hp
    subst hp
    exact ⟨Hk.out, Ro.of_sub Hd.out (by repeat (first | (with_reducible apply sub_refl) | ((with_reducible apply sub_take); (· first | ((repeat (first | with_reducible apply pick0 | with_reducible apply pick_there)); done) | ((repeat (first | apply pick0 | apply pick_there)); done) | fail)) | (with_reducible apply sub_drop))), Hcap.out⟩) hN).mono ?_
  rintro ee w2 ⟨v, rfl, fs, hfs, hS2⟩
  obtain ⟨dv, rfl⟩ := few_one hfs
  have hk2 : (Frm.cutE 300 e).key.length = 32 := Hk.out
  obtain ⟨b2, c2, cs2, da2, dc2, rfl, rfl, hcs, hS3⟩ := few_open hk2 hS2
  have Hk2 := Lib.hid hk2
  have Hd2 := Lib.hid (show (Frm.cutE 300 e).data.length ≤ 300 by show (e.data.take 300).length ≤ 300; rw [List.length_take]; omega)
  generalize Frm.cutE 300 e = f at *
  have Hcs := Lib.hid hcs
  clear hcs hS2 hfs hN hk2 hS1
  go_wp2_with (first
    | ((with_reducible apply at_loadE); refine ⟨?_⟩; refine wl_loadEs (b := b2) (o := 0) (by assumption) (by rfl) (by first | ((repeat (first | with_reducible apply pick0 | with_reducible apply pick_there)); done) | ((repeat (first | apply pick0 | apply pick_there)); done) | fail) Hk2.out Hcs.out ?_)
    | ((with_reducible apply at_storeE); refine ⟨?_⟩; first | (refine wl_storeE (by assumption) (by rfl) (by rfl) (by first | rfl | assumption | exact Hid.out (by assumption)) (by first | ((repeat (first | with_reducible apply upd0 | with_reducible apply upd_there)); done) | ((repeat (first | apply upd0 | apply upd_there)); done) | fail) (by first | assumption | exact entA_size _ _ rfl | exact entA_size _ _ (by assumption) | exact entA_size _ _ (Hid.out (by assumption))) ?_; intro wS hS) | (refine wl_storeE (e := Frm.zeroE) (da := none) (dn := 0) (dc := 0) (by assumption) (by rfl) (by rfl) rfl (by first | ((repeat (first | with_reducible apply upd0 | with_reducible apply upd_there)); done) | ((repeat (first | apply upd0 | apply upd_there)); done) | fail) (by first | assumption | exact entA_size _ _ rfl | exact entA_size _ _ (by assumption) | exact entA_size _ _ (Hid.out (by assumption))) ?_; intro wS hS)))
  have hS4 : Sat w0 _ (pt bX (.cells (entA f (.slice da2 f.data.length dc2)) 27 (0,0)) :: bsl (.slice da2 f.data.length dc2) f.data :: osl 43 40 (.slice oa es.length oc) (sdsL es) :: dataD es :: F) := hS.sub (by repeat (first | (with_reducible apply sub_refl) | ((with_reducible apply sub_take); (· first | ((repeat (first | with_reducible apply pick0 | with_reducible apply pick_there)); done) | ((repeat (first | apply pick0 | apply pick_there)); done) | fail)) | (with_reducible apply sub_drop)))
  clear hS hS3
  refine (within_c limit 128 1000 _).mono ?_
  rintro ee w4 ⟨v, rfl, rfl, rfl⟩
  have hlim := within_mem limit 128 1000 (by decide)
  generalize within limit 128 1000 = lim at *
  go_wp2_with fail
  refine (new_yes 1048576 (by decide) hS4).mono ?_
  rintro ee w5 ⟨v, rfl, m, rfl, hS5⟩
  have hop := open_c (K := 0) (Med.Ok.new 0 1048576 (by decide)) lim hS5 (by rfl) (by omega) (by omega)
  have hfr : Seg.fresh (Med.new 1048576) lim = ⟨lim, [], false, 0⟩ := rfl
  rw [hfr] at hop
  go_wp2_with fail
  refine hop.mono ?_
  rintro ee w6 ⟨v, rfl, p, rfl, hS6⟩
  clear hop hfr hS5 hS4
  have hK0 : Seg.Keeps (0 * 5) 1048576 ⟨lim, [], false, 0⟩ (Med.new 1048576) := ⟨⟨⟨hlim.1, (by show lim ≤ 1048576; omega)⟩, List.Pairwise.nil, (fun s hs => by cases hs), (fun s hs => by cases hs), ⟨Int.le_refl _, by simp⟩, fun hh => by cases hh⟩, Seg.Calm.new 0 1048576 (by decide), fun s hs => by cases hs⟩
  have HK0 := Lib.hid hK0
  clear hK0 hlim
  go_wp2_with fail
  go_loopg [13] es.length (fun g iq wr => ∃ (i : Nat) (L : Seg.Log) (M : Med), g = es.length - i ∧ i ≤ es.length ∧ iq = .int .i64 i ∧ Seg.Keeps (i * 5) 1048576 L M ∧
    Sat w0 wr (LogRep p m L :: MedRep m M :: osl 43 40 (.slice oa es.length oc) (sdsL es) :: dataD es :: pt bX (.cells (entA f (.slice da2 f.data.length dc2)) 27 (0,0)) :: bsl (.slice da2 f.data.length dc2) f.data :: F))
  case atStart => exact ⟨0, _, _, rfl, Nat.zero_le _, rfl, HK0.out, Sat.sub hS6 (by repeat (first | (with_reducible apply sub_refl) | ((with_reducible apply sub_take); (· first | ((repeat (first | with_reducible apply pick0 | with_reducible apply pick_there)); done) | ((repeat (first | apply pick0 | apply pick_there)); done) | fail)) | (with_reducible apply sub_drop)))⟩
  case round =>
    obtain ⟨i, L, M, rfl, hi, rfl, hK, hS⟩ := hrel
    clear hS6 HK0
    have HK := Lib.hid hK
    have hel := Hel.out
    clear hK
    by_cases hlt : i < es.length
    · have c1 : (i : Int) < (es.length : Int) := by omega
      have hwi : IntKind.i64.wrap ((i : Int) + 1) = (i : Int) + 1 := IntWalk.i64_in _ (by omega)
      obtain ⟨d, hdi⟩ : ∃ d, es[i]? = some d := ⟨_, List.getElem?_eq_getElem hlt⟩
      have Hlt := Lib.hid hlt
      have Hro := Lib.hid (fun R => dataD_ro (w0 := w0) (R := R) hdi)
      obtain ⟨bk, off, c, hov, hcells⟩ := sds_at (fun d hd => (Hek.out d hd).1) hdi (hS.pick (by first | ((repeat (first | with_reducible apply pick0 | with_reducible apply pick_there)); done) | ((repeat (first | apply pick0 | apply pick_there)); done) | fail))
      cases hov
      have hdk := Hek.out d (List.mem_of_getElem? hdi)
      obtain ⟨⟨kind, xe, xn, xp, xl⟩, xdv, xlv⟩ := d
      obtain ⟨xda, xdn, xdc, rfl, hxl, _⟩ := (Hro.out _) _ (hS.pick (by first | ((repeat (first | with_reducible apply pick0 | with_reducible apply pick_there)); done) | ((repeat (first | apply pick0 | apply pick_there)); done) | fail))
      rw [bys_len, Nat.mul_one] at hxl
      dsimp only at hxl
      subst hxl
      have e0 : wr.cell? ⟨bk, off + i * 40, none⟩ = some (.int .i64 kind) := hcells 0 _ rfl
      have Hent := Lib.hid (show ∀ j v, (entL xe (.slice xda xe.data.length xdc))[j]? = some v → wr.cell? ⟨bk, off + i * 40 + 1 + j, none⟩ = some v from fun j v hj => by
        have := hcells (1 + j) v (sdL_ent ⟨⟨kind, xe, xn, xp, xl⟩, .slice xda xe.data.length xdc, xlv⟩ hdk.1 hj)
        rw [← Nat.add_assoc] at this; exact this)
      have Hdk := Lib.hid hdk
      clear hcells hdk hdi hlt
      by_cases hk1 : kind = 1
      · subst hk1
        go_wp2_with fail
        refine (lcommit_c (Ro.of_sub HH.out (by repeat (first | (with_reducible apply sub_refl) | ((with_reducible apply sub_take); (· first | ((repeat (first | with_reducible apply pick0 | with_reducible apply pick_there)); done) | ((repeat (first | apply pick0 | apply pick_there)); done) | fail)) | (with_reducible apply sub_drop)))) HK.out.log HK.out.calm.ok (by omega) hS).mono ?_
        rintro ee w7 ⟨v, rfl, rfl, hS7⟩
        go_wp2_with fail
        go_roundg (es.length - (i + 1))
        case measure => have := Hlt.out; omega
        case rel => exact ⟨i + 1, _, _, rfl, Nat.succ_le_of_lt Hlt.out, by first | rfl | go_num, by rw [show (i + 1) * 5 = i * 5 + 5 by omega]; exact HK.out.commit, hS7⟩
      · have hk1d : (kind == 1) = false := beq_false_of_ne hk1
        clear hk1
        go_wp2_with ((with_reducible apply at_load); refine ⟨?_⟩; refine wl_loadW (b := bk) (o := off + i * 40 + 1) (entL xe (.slice xda xe.data.length xdc)) (by rfl) Hent.out Tryd.underlying27 rfl (by rw [entL_len xe _ Hdk.out.1]; exact infoEntSize) ?_)
        refine (lappend_c xe Hdk.out.1 xda xdc (Ro.of_pick (Hro.out _) (by first | ((repeat (first | with_reducible apply pick0 | with_reducible apply pick_there)); done) | ((repeat (first | apply pick0 | apply pick_there)); done) | fail)) (Ro.of_sub HH.out (by repeat (first | (with_reducible apply sub_refl) | ((with_reducible apply sub_take); (· first | ((repeat (first | with_reducible apply pick0 | with_reducible apply pick_there)); done) | ((repeat (first | apply pick0 | apply pick_there)); done) | fail)) | (with_reducible apply sub_drop)))) (Nat.le_trans Hdk.out.2 (by decide)) HK.out.log HK.out.calm.ok (by omega) hS).mono ?_
        rintro ee w7 ⟨v, rfl, rfl, hS7⟩
        go_wp2_with fail
        go_roundg (es.length - (i + 1))
        case measure => have := Hlt.out; omega
        case rel => exact ⟨i + 1, _, _, rfl, Nat.succ_le_of_lt Hlt.out, by first | rfl | go_num, (HK.out.append xe Hdk.out.1).1.mono (by omega), hS7⟩
    · obtain rfl : i = es.length := by omega
      have c1 : ¬ (es.length : Int) < (es.length : Int) := by omega
      have hq := HK.out.calm.quiet
      have hut : M.usedTold = M.used := by unfold Med.usedTold; rw [hq.off]; rfl
      have hu := HK.out.calm.used
      have hrm := HK.out.calm.room
      have hwu : IntKind.i64.wrap ((M.used : Int) + 40) = (M.used : Int) + 40 := IntWalk.i64_in _ (by omega)
      have hur := used_rep HK.out.calm.ok (hS.pick (by first | ((repeat (first | with_reducible apply pick0 | with_reducible apply pick_there)); done) | ((repeat (first | apply pick0 | apply pick_there)); done) | fail))
      have hur2 := fun w h => used_rep (w0 := w0) (w := w) (m := m) (F := LogRep p m L :: osl 43 40 (.slice oa es.length oc) (sdsL es) :: dataD es :: pt bX (.cells (entA f (.slice da2 f.data.length dc2)) 27 (0,0)) :: bsl (.slice da2 f.data.length dc2) f.data :: F) HK.out.calm.ok h
      rw [hut] at hur hur2
      go_wp2_with fail
      refine hur.mono ?_
      rintro ee w7 ⟨v, rfl, rfl, hS7⟩
      clear hur hS
      go_wp2_with fail
      refine (hur2 _ (hS7.sub (by repeat (first | (with_reducible apply sub_refl) | ((with_reducible apply sub_take); (· first | ((repeat (first | with_reducible apply pick0 | with_reducible apply pick_there)); done) | ((repeat (first | apply pick0 | apply pick_there)); done) | fail)) | (with_reducible apply sub_drop))))).mono ?_
      rintro ee w8 ⟨v, rfl, rfl, hS8⟩
      clear hur2 hS7
      go_wp2_with fail
      refine (within_c room M.used (M.used + 40) _).mono ?_
      rintro ee w9 ⟨v, rfl, rfl, rfl⟩
      have hin := within_mem room M.used (M.used + 40) (by omega)
      obtain ⟨r, hrr⟩ := Int.eq_ofNat_of_zero_le (show 0 ≤ within room M.used (M.used + 40) by omega)
      rw [hrr] at hin
      obtain ⟨hsr, hC⟩ := Seg.setRoom_calm HK.out.calm r (by omega) (by omega)
      have hset := setRoom_c hS8 (within room M.used (M.used + 40))
      rw [hrr] at hset
      rw [hrr]
      simp only [Int.ofNat_eq_natCast] at hset hin ⊢
      rw [hsr] at hset
      go_wp2_with fail
      refine hset.mono ?_
      rintro ee w10 ⟨v, rfl, rfl, hS10⟩
      have HK2 := Lib.hid (show Seg.Keeps (es.length * 5) r L { M with room := r } from ⟨HK.out.log, hC, HK.out.has⟩)
      generalize ({ M with room := r } : Med) = M2 at *
      clear hset hS8 hC hsr hin hrr hut hu hrm hwu hq HK
      go_wp2_with fail
      refine (lsegs_c HK2.out.log (hS10.pick (by first | ((repeat (first | with_reducible apply pick0 | with_reducible apply pick_there)); done) | ((repeat (first | apply pick0 | apply pick_there)); done) | fail))).mono ?_
      rintro ee w11 ⟨v, rfl, hS11⟩
      obtain ⟨wa, wn, wc, rfl, hwl, _⟩ := Sat.rd hS11
      have hil : ∀ l : List Int, (ints l).length = l.length := fun l => List.length_map ..
      rw [hil, Nat.mul_one] at hwl
      subst hwl
      go_wp2_with fail
      refine (list_c HK2.out.calm.ok (hS11.pick (by first | ((repeat (first | with_reducible apply pick0 | with_reducible apply pick_there)); done) | ((repeat (first | apply pick0 | apply pick_there)); done) | fail))).mono ?_
      rintro ee w12 ⟨v, rfl, hS12, na, nn, nc, rfl⟩
      clear hS10 hS11
      go_wp2_with fail
      refine (lfresh_c (hS12.pick (by first | ((repeat (first | with_reducible apply pick0 | with_reducible apply pick_there)); done) | ((repeat (first | apply pick0 | apply pick_there)); done) | fail))).mono ?_
      rintro ee w13 ⟨v, rfl, rfl, rfl⟩
      have hsl := Lib.hid (show L.segs.length ≤ 1048576 by unfold Seg.Log.segs; rw [List.length_map]; exact HK2.out.log.len)
      go_wp2_with fail
      have hS13 : Sat w0 w12 (osl 25 1 (.slice none 0 0) [] :: bsz [] [] :: osl 3 1 (.slice wa L.segs.length wc) (ints L.segs) :: osl 9 1 (.slice na nn nc) (strs M2.list) :: LogRep p m L :: MedRep m M2 :: osl 43 40 (.slice oa es.length oc) (sdsL es) :: dataD es :: pt bX (.cells (entA f (.slice da2 f.data.length dc2)) 27 (0,0)) :: bsl (.slice da2 f.data.length dc2) f.data :: F) := Sat.osl_nil.2 (Sat.emp.2 (hS12.sub (by repeat (first | (with_reducible apply sub_refl) | ((with_reducible apply sub_take); (· first | ((repeat (first | with_reducible apply pick0 | with_reducible apply pick_there)); done) | ((repeat (first | apply pick0 | apply pick_there)); done) | fail)) | (with_reducible apply sub_drop)))))
      clear hS12
      go_loopg [17, 18] L.segs.length (fun g bv iq wr => ∃ (j : Nat) (vs : List Value) (ba : Option Addr) (bc : Nat), g = L.segs.length - j ∧ j ≤ L.segs.length ∧ iq = .int .i64 j ∧ bv = .slice ba vs.length bc ∧ vs.length = j ∧
        Sat w0 wr (osl 25 1 (.slice ba vs.length bc) vs :: bsz vs ((L.segs.take j).map fun n => (L.bytes M2 n).1) :: osl 3 1 (.slice wa L.segs.length wc) (ints L.segs) :: osl 9 1 (.slice na nn nc) (strs M2.list) :: LogRep p m L :: MedRep m M2 :: osl 43 40 (.slice oa es.length oc) (sdsL es) :: dataD es :: pt bX (.cells (entA f (.slice da2 f.data.length dc2)) 27 (0,0)) :: bsl (.slice da2 f.data.length dc2) f.data :: F))
      case atStart => exact ⟨0, [], none, 0, rfl, Nat.zero_le _, rfl, rfl, rfl, hS13⟩
      case round =>
        obtain ⟨j, vs, ba, bc, rfl, hj, rfl, rfl, hvs, hS⟩ := hrel
        clear hS13
        have Hvs := Lib.hid hvs
        clear hvs
        by_cases hjl : j < L.segs.length
        · have Hjl := Lib.hid hjl
          have hsl' := hsl.out
          have c1 : (j : Int) < (L.segs.length : Int) := by omega
          have hwj : IntKind.i64.wrap ((j : Int) + 1) = (j : Int) + 1 := IntWalk.i64_in _ (by omega)
          obtain ⟨s, hs⟩ : ∃ s, L.segs[j]? = some s := ⟨_, List.getElem?_eq_getElem hjl⟩
          have hx : (ints L.segs)[j]? = some (.int .i64 s) := by unfold ints; rw [List.getElem?_map, hs]; rfl
          obtain ⟨bk, off, rfl, e0⟩ := rdsl_cell (Sat.rd (hS.pick (by first | ((repeat (first | with_reducible apply pick0 | with_reducible apply pick_there)); done) | ((repeat (first | apply pick0 | apply pick_there)); done) | fail))) hx
          have Hs := Lib.hid hs
          clear hjl hx hs
          go_wp2_with fail
          refine (lbytes_c HK2.out.log HK2.out.calm.ok s (Sat.sub (by assumption) (by repeat (first | (with_reducible apply sub_refl) | ((with_reducible apply sub_take); (· first | ((repeat (first | with_reducible apply pick0 | with_reducible apply pick_there)); done) | ((repeat (first | apply pick0 | apply pick_there)); done) | fail)) | (with_reducible apply sub_drop))))).mono ?_
          rintro ee w14 ⟨v, rfl, cv, rfl, hS14⟩
          obtain ⟨ca, cn, cc, rfl, _⟩ := Sat.rd hS14
          have hvl : vs.length ≤ 2147483648 := by rw [Hvs.out]; omega
          clear hS
          go_wp2_with (first | ((with_reducible apply at_build1); refine ⟨?_⟩; refine wl_build1 (e := 25) (sz := 1) (by' := 24) (by kernel_rfl) (by assumption) (by conv => lhs; whnf) (by conv => lhs; whnf) (by rfl) (Nat.le_of_ble_eq_true (by rfl)) ?_; intro bN wN hN) | ((with_reducible apply at_append); refine ⟨?_⟩; refine wl_app 25 1 24 (by kernel_rfl) (by assumption) (by rfl) (by rfl) (by first | ((repeat (first | with_reducible apply pick0 | with_reducible apply pick_there)); done) | ((repeat (first | apply pick0 | apply pick_there)); done) | fail) (by first | ((repeat (first | with_reducible apply pick0 | with_reducible apply pick_there)); done) | ((repeat (first | apply pick0 | apply pick_there)); done) | fail) (by rfl) (Nat.le_of_ble_eq_true (by rfl)) (by rfl) (by assumption) (Nat.le_of_ble_eq_true (by rfl)) (Nat.le_of_ble_eq_true (by rfl)) (by conv => lhs; whnf) ?_; intro bA nA cA wA hA))
          obtain ⟨_, _, _, hee, hnA, _⟩ := Sat.rd hA
          cases hee
          rw [Nat.mul_one] at hnA
          subst hnA
          clear hN hS14 hsl' hvl
          go_roundg (L.segs.length - (j + 1))
          case measure => have := Hjl.out; omega
          case rel =>
            have htk : (L.segs.take (j + 1)).map (fun n => (L.bytes M2 n).1) = (L.segs.take j).map (fun n => (L.bytes M2 n).1) ++ [(L.bytes M2 s).1] := by
              rw [List.take_add_one, Hs.out, List.map_append]; rfl
            have hlen2 : vs.length = ((L.segs.take j).map fun n => (L.bytes M2 n).1).length := by
              rw [List.length_map, List.length_take, Hvs.out]; have := Hjl.out; omega
            refine ⟨j + 1, vs ++ [.slice ca cn cc], _, _, rfl, Nat.succ_le_of_lt Hjl.out, by first | rfl | go_num, rfl, by rw [List.length_append, Hvs.out]; rfl, ?_⟩
            rw [htk, bsz_snoc _ _ _ _ hlen2]
            have h10 : Sat w0 wA (bsl (.slice ca cn cc) (L.bytes M2 s).1 :: bsz vs ((L.segs.take j).map fun n => (L.bytes M2 n).1) :: osl 25 1 (.slice (some ⟨bA, 0, none⟩) (vs ++ [Value.slice ca cn cc]).length cA) (vs ++ [.slice ca cn cc]) :: osl 3 1 (.slice (some ⟨bk, off, none⟩) L.segs.length wc) (ints L.segs) :: osl 9 1 (.slice na nn nc) (strs M2.list) :: LogRep p m L :: MedRep m M2 :: osl 43 40 (.slice oa es.length oc) (sdsL es) :: dataD es :: pt bX (.cells (entA f (.slice da2 f.data.length dc2)) 27 (0,0)) :: bsl (.slice da2 f.data.length dc2) f.data :: F) := hA.sub (by repeat (first | (with_reducible apply sub_refl) | ((with_reducible apply sub_take); (· first | ((repeat (first | with_reducible apply pick0 | with_reducible apply pick_there)); done) | ((repeat (first | apply pick0 | apply pick_there)); done) | fail)) | (with_reducible apply sub_drop)))
            exact (Sat.star.2 h10).pick1
        · obtain rfl : j = L.segs.length := by omega
          have c1 : ¬ (L.segs.length : Int) < (L.segs.length : Int) := by omega
          rw [List.take_length] at hS
          clear hjl hj
          go_wp2_with ((with_reducible apply at_loadE); refine ⟨?_⟩; refine wl_loadE (by assumption) (by rfl) (by first | ((repeat (first | with_reducible apply pick0 | with_reducible apply pick_there)); done) | ((repeat (first | apply pick0 | apply pick_there)); done) | fail) (by first | rfl | assumption | exact Hid.out (by assumption)) ?_)
          have hdat : Ro w0 (bsl (.slice da2 f.data.length dc2) f.data :: osl 25 1 (.slice ba vs.length bc) vs :: bsz vs (L.segs.map fun n => (L.bytes M2 n).1) :: osl 3 1 (.slice wa L.segs.length wc) (ints L.segs) :: osl 9 1 (.slice na nn nc) (strs M2.list) :: osl 43 40 (.slice oa es.length oc) (sdsL es) :: dataD es :: pt bX (.cells (entA f (.slice da2 f.data.length dc2)) 27 (0,0)) :: F) (rdsl 1 (.slice da2 f.data.length dc2) (bys f.data)) := Ro.bsl _ _
          have hS15 : Sat w0 wr (LogRep p m L :: MedRep m M2 :: bsl (.slice da2 f.data.length dc2) f.data :: osl 25 1 (.slice ba vs.length bc) vs :: bsz vs (L.segs.map fun n => (L.bytes M2 n).1) :: osl 3 1 (.slice wa L.segs.length wc) (ints L.segs) :: osl 9 1 (.slice na nn nc) (strs M2.list) :: osl 43 40 (.slice oa es.length oc) (sdsL es) :: dataD es :: pt bX (.cells (entA f (.slice da2 f.data.length dc2)) 27 (0,0)) :: F) := hS.sub (by repeat (first | (with_reducible apply sub_refl) | ((with_reducible apply sub_take); (· first | ((repeat (first | with_reducible apply pick0 | with_reducible apply pick_there)); done) | ((repeat (first | apply pick0 | apply pick_there)); done) | fail)) | (with_reducible apply sub_drop)))
          clear hS
          refine (lappend_c f Hk2.out da2 dc2 hdat (Ro.of_sub HH.out (by repeat (first | (with_reducible apply sub_refl) | ((with_reducible apply sub_take); (· first | ((repeat (first | with_reducible apply pick0 | with_reducible apply pick_there)); done) | ((repeat (first | apply pick0 | apply pick_there)); done) | fail)) | (with_reducible apply sub_drop)))) (Nat.le_trans Hd2.out (by decide)) HK2.out.log HK2.out.calm.ok (by have := Hel.out; omega) hS15).mono ?_
          rintro ee w16 ⟨v, rfl, rfl, hS16⟩
          obtain ⟨hK3, hbad⟩ := HK2.out.append f Hk2.out
          have HK3 := Lib.hid hK3
          have Hbad := Lib.hid hbad
          clear hdat hS15 hK3 hbad
          generalize L.append M2 f = r3 at *
          obtain ⟨⟨L3, M3⟩, p3, e3⟩ := r3
          change Hid (Seg.Keeps (es.length * 5 + 4) r L3 M3) at HK3
          by_cases he0 : e3 = 0
          · subst he0
            go_wp2_with fail
            refine (lives_c (Ro.of_sub HH.out (by repeat (first | (with_reducible apply sub_refl) | ((with_reducible apply sub_take); (· first | ((repeat (first | with_reducible apply pick0 | with_reducible apply pick_there)); done) | ((repeat (first | apply pick0 | apply pick_there)); done) | fail)) | (with_reducible apply sub_drop)))) hS16).mono ?_
            rintro ee w17 ⟨v, rfl, rfl, hS17⟩
            go_wp2
            go_ret
            exact ⟨_, rfl, rfl, hS17.sub (by repeat (first | (with_reducible apply sub_refl) | ((with_reducible apply sub_take); (· first | ((repeat (first | with_reducible apply pick0 | with_reducible apply pick_there)); done) | ((repeat (first | apply pick0 | apply pick_there)); done) | fail)) | (with_reducible apply sub_drop)))⟩
          · have he0d : (e3 == 0) = false := beq_false_of_ne he0
            obtain ⟨b1, b2, b3, b4⟩ := Hbad.out he0
            by_cases h11 : e3 = 11
            · subst h11
              have hfull := b4 rfl
              have hut : M3.usedTold = M3.used := by unfold Med.usedTold; rw [HK3.out.calm.quiet.off]; rfl
              have hdec : decide ((Frm.size f : Int) + 8 ≤ (M3.room : Int) - (M3.used : Int)) = false := by rw [b3.room, b3.used]; exact decide_eq_false (by omega)
              have hu2 := HK3.out.calm.used
              have hr2 := HK3.out.calm.ok.room
              have hsz : Frm.size f ≤ 16777216 := by
                have := Hd2.out
                unfold Frm.size
                split
                · omega
                · split <;> omega
              have hw1 : IntKind.i64.wrap ((Frm.size f : Int) + 8) = (Frm.size f : Int) + 8 := IntWalk.i64_in _ (by omega)
              have hw2 : IntKind.i64.wrap ((M3.room : Int) - (M3.used : Int)) = (M3.room : Int) - (M3.used : Int) := IntWalk.i64_in _ (by omega)
              clear hfull hu2 hr2 hsz he0
              go_wp2_with ((with_reducible apply at_loadE); refine ⟨?_⟩; refine wl_loadE (by assumption) (by rfl) (by first | ((repeat (first | with_reducible apply pick0 | with_reducible apply pick_there)); done) | ((repeat (first | apply pick0 | apply pick_there)); done) | fail) (by first | rfl | assumption | exact Hid.out (by assumption)) ?_)
              refine (fsize_c f Hk2.out da2 dc2 hS16 (Nat.le_trans Hd2.out (by decide))).mono ?_
              rintro ee w17 ⟨v, rfl, rfl, hS17⟩
              clear hS16
              go_wp2_with fail
              refine (room_c (hS17.pick (by first | ((repeat (first | with_reducible apply pick0 | with_reducible apply pick_there)); done) | ((repeat (first | apply pick0 | apply pick_there)); done) | fail))).mono ?_
              rintro ee w18 ⟨v, rfl, rfl, rfl⟩
              have hur := used_rep HK3.out.calm.ok (hS17.pick (by first | ((repeat (first | with_reducible apply pick0 | with_reducible apply pick_there)); done) | ((repeat (first | apply pick0 | apply pick_there)); done) | fail))
              rw [hut] at hur
              go_wp2_with fail
              refine hur.mono ?_
              rintro ee w19 ⟨v, rfl, rfl, hS19⟩
              clear hur hS17 hut
              have hfr2 := b2
              go_wp2_with fail
              refine (lfresh_c (hS19.pick (by first | ((repeat (first | with_reducible apply pick0 | with_reducible apply pick_there)); done) | ((repeat (first | apply pick0 | apply pick_there)); done) | fail))).mono ?_
              rintro ee w20 ⟨v, rfl, rfl, rfl⟩
              rw [hfr2]
              have hfe : (L.fresh == L.fresh) = true := beq_self_eq_true _
              clear hdec hw1 hw2
              have HSS : Sat w0 _ (LogRep p m L3 :: MedRep m M3 :: bsl (.slice da2 f.data.length dc2) f.data :: osl 25 1 (.slice ba vs.length bc) vs :: bsz vs (L.segs.map fun n => (L.bytes M2 n).1) :: osl 3 1 (.slice wa L.segs.length wc) (ints L.segs) :: osl 9 1 (.slice na nn nc) (strs M2.list) :: osl 43 40 (.slice oa es.length oc) (sdsL es) :: dataD es :: pt bX (.cells (entA f (.slice da2 f.data.length dc2)) 27 (0,0)) :: F) := hS19.sub (by repeat (first | (with_reducible apply sub_refl) | ((with_reducible apply sub_take); (· first | ((repeat (first | with_reducible apply pick0 | with_reducible apply pick_there)); done) | ((repeat (first | apply pick0 | apply pick_there)); done) | fail)) | (with_reducible apply sub_drop)))
              clear hS19
              have hres : ∀ n ∈ L.segs, L3.bytes M3 n = ((L.bytes M2 n).1, 0) := fun n hn => by
                rw [Seg.bytes_same b1 b3 n, ← Seg.bytes_ok HK2.out hn]
              have hsg : L3.segs = L.segs := by unfold Seg.Log.segs; rw [b1]
              have hli := b3.list
              have Hres := Lib.hid hres; have Hsg := Lib.hid hsg; have Hli := Lib.hid hli
              clear b1 b2 b3 b4 hres hsg hli Hbad
              go_wp2_with fail
              go_loopg [21] L.segs.length (fun g iq wr => ∃ (j : Nat), g = L.segs.length - j ∧ j ≤ L.segs.length ∧ iq = .int .i64 j ∧
                Sat w0 wr (LogRep p m L3 :: MedRep m M3 :: bsl (.slice da2 f.data.length dc2) f.data :: osl 25 1 (.slice ba vs.length bc) vs :: bsz vs (L.segs.map fun n => (L.bytes M2 n).1) :: osl 3 1 (.slice wa L.segs.length wc) (ints L.segs) :: osl 9 1 (.slice na nn nc) (strs M2.list) :: osl 43 40 (.slice oa es.length oc) (sdsL es) :: dataD es :: pt bX (.cells (entA f (.slice da2 f.data.length dc2)) 27 (0,0)) :: F))
              case atStart => exact ⟨0, rfl, Nat.zero_le _, rfl, HSS⟩
              case round =>
                obtain ⟨j, rfl, hj, rfl, hS⟩ := hrel
                clear HSS
                by_cases hjl : j < L.segs.length
                · have Hjl := Lib.hid hjl
                  have hsl' := hsl.out
                  have c1 : (j : Int) < (L.segs.length : Int) := by omega
                  have c2 : (j : Int) < (vs.length : Int) := by rw [Hvs.out]; exact c1
                  have hwj : IntKind.i64.wrap ((j : Int) + 1) = (j : Int) + 1 := IntWalk.i64_in _ (by omega)
                  obtain ⟨s, hs⟩ : ∃ s, L.segs[j]? = some s := ⟨_, List.getElem?_eq_getElem hjl⟩
                  obtain ⟨xv, hxv⟩ : ∃ xv, vs[j]? = some xv := ⟨_, List.getElem?_eq_getElem (by rw [Hvs.out]; exact hjl)⟩
                  have hx : (ints L.segs)[j]? = some (.int .i64 s) := by unfold ints; rw [List.getElem?_map, hs]; rfl
                  obtain ⟨bk, off, rfl, e0⟩ := rdsl_cell (Sat.rd (hS.pick (by first | ((repeat (first | with_reducible apply pick0 | with_reducible apply pick_there)); done) | ((repeat (first | apply pick0 | apply pick_there)); done) | fail))) hx
                  have hbs : (L.segs.map fun n => (L.bytes M2 n).1)[j]? = some (L.bytes M2 s).1 := by rw [List.getElem?_map, hs]; rfl
                  have Hbr := Lib.hid (fun R => bsz_ro (w0 := w0) (R := R) hxv hbs)
                  have Hmem := Lib.hid (Hres.out s (List.mem_of_getElem? hs))
                  have Hxv := Lib.hid hxv
                  have Hbl := Lib.hid (show (L.bytes M2 s).1.length ≤ 9223372036854775807 by
                    have := Seg.bytes_len (L := L) HK2.out.calm.ok s; omega)
                  have hby := lbytes_c HK3.out.log HK3.out.calm.ok s hS
                  rw [Hmem.out] at hby
                  clear hjl hx hs hxv hbs
                  go_wp2_with fail
                  refine hby.mono ?_
                  rintro ee w20 ⟨v, rfl, cv, rfl, hS20⟩
                  clear hby hS
                  obtain ⟨bk2, off2, hba, e2⟩ := rdsl_cell (Sat.rd (hS20.pick (by first | ((repeat (first | with_reducible apply pick0 | with_reducible apply pick_there)); done) | ((repeat (first | apply pick0 | apply pick_there)); done) | fail))) Hxv.out
                  cases hba
                  go_wp2_with fail
                  refine (same_c (L.bytes M2 s).1 (Ro.bsl _ _) (Ro.of_pick (Hbr.out _) (by first | ((repeat (first | with_reducible apply pick0 | with_reducible apply pick_there)); done) | ((repeat (first | apply pick0 | apply pick_there)); done) | fail)) hS20 Hbl.out).mono ?_
                  rintro ee w21 ⟨v, rfl, rfl, hS21⟩
                  clear hS20 e2 e0
                  go_wp2_with fail
                  go_roundg (L.segs.length - (j + 1))
                  case measure => have := Hjl.out; omega
                  case rel => exact ⟨j + 1, rfl, Nat.succ_le_of_lt Hjl.out, by first | rfl | go_num, hS21.sub (by repeat (first | (with_reducible apply sub_refl) | ((with_reducible apply sub_take); (· first | ((repeat (first | with_reducible apply pick0 | with_reducible apply pick_there)); done) | ((repeat (first | apply pick0 | apply pick_there)); done) | fail)) | (with_reducible apply sub_drop)))⟩
                · obtain rfl : j = L.segs.length := by omega
                  have c1 : ¬ (L.segs.length : Int) < (L.segs.length : Int) := by omega
                  clear hjl hj
                  go_wp2_with fail
                  refine (lsegs_c HK3.out.log hS).mono ?_
                  rintro ee w22 ⟨v, rfl, hS22⟩
                  rw [Hsg.out] at hS22
                  clear hS
                  go_wp2_with fail
                  refine (sameInts_c L.segs (fun w hw => Sat.rd (hw.pick (by first | ((repeat (first | with_reducible apply pick0 | with_reducible apply pick_there)); done) | ((repeat (first | apply pick0 | apply pick_there)); done) | fail))) (fun w hw => Sat.rd (hw.pick (by first | ((repeat (first | with_reducible apply pick0 | with_reducible apply pick_there)); done) | ((repeat (first | apply pick0 | apply pick_there)); done) | fail))) hS22 (by have := hsl.out; omega)).mono ?_
                  rintro ee w23 ⟨v, rfl, rfl, hS23⟩
                  clear hS22
                  go_wp2_with fail
                  refine (list_c HK3.out.calm.ok (hS23.pick (by first | ((repeat (first | with_reducible apply pick0 | with_reducible apply pick_there)); done) | ((repeat (first | apply pick0 | apply pick_there)); done) | fail))).mono ?_
                  rintro ee w24 ⟨v, rfl, hS24, la, ln, lc2', rfl⟩
                  rw [Hli.out] at hS24
                  clear hS23
                  have hll : M2.list.length ≤ 500 := by
                    unfold Med.list
                    split
                    · simp
                    · rw [List.length_map]; exact HK2.out.calm.ok.nowOk.len
                  go_wp2_with fail
                  refine (strSame_c M2.list M2.list (fun w hw => Sat.rd (hw.pick (by first | ((repeat (first | with_reducible apply pick0 | with_reducible apply pick_there)); done) | ((repeat (first | apply pick0 | apply pick_there)); done) | fail))) (fun w hw => Sat.rd (hw.pick (by first | ((repeat (first | with_reducible apply pick0 | with_reducible apply pick_there)); done) | ((repeat (first | apply pick0 | apply pick_there)); done) | fail))) hS24 (by omega)).mono ?_
                  rintro ee w25 ⟨v, rfl, rfl, hS25⟩
                  clear hS24
                  have hdt : decide (M2.list = M2.list) = true := decide_eq_true rfl
                  rw [hdt]
                  go_wp2_with fail
                  refine (lives_c (Ro.of_sub HH.out (by repeat (first | (with_reducible apply sub_refl) | ((with_reducible apply sub_take); (· first | ((repeat (first | with_reducible apply pick0 | with_reducible apply pick_there)); done) | ((repeat (first | apply pick0 | apply pick_there)); done) | fail)) | (with_reducible apply sub_drop)))) hS25).mono ?_
                  rintro ee w26 ⟨v, rfl, rfl, hS26⟩
                  go_wp2
                  go_ret
                  exact ⟨_, rfl, rfl, hS26.sub (by repeat (first | (with_reducible apply sub_refl) | ((with_reducible apply sub_take); (· first | ((repeat (first | with_reducible apply pick0 | with_reducible apply pick_there)); done) | ((repeat (first | apply pick0 | apply pick_there)); done) | fail)) | (with_reducible apply sub_drop)))⟩
            · have he11 : (e3 == 11) = false := beq_false_of_ne h11
              clear h11 he0
              have HSS := hS16
              clear hS16
              have hres : ∀ n ∈ L.segs, L3.bytes M3 n = ((L.bytes M2 n).1, 0) := fun n hn => by
                rw [Seg.bytes_same b1 b3 n, ← Seg.bytes_ok HK2.out hn]
              have hsg : L3.segs = L.segs := by unfold Seg.Log.segs; rw [b1]
              have hli := b3.list
              have Hres := Lib.hid hres; have Hsg := Lib.hid hsg; have Hli := Lib.hid hli
              clear b1 b2 b3 b4 hres hsg hli Hbad
              go_wp2_with fail
              go_loopg [21] L.segs.length (fun g iq wr => ∃ (j : Nat), g = L.segs.length - j ∧ j ≤ L.segs.length ∧ iq = .int .i64 j ∧
                Sat w0 wr (LogRep p m L3 :: MedRep m M3 :: bsl (.slice da2 f.data.length dc2) f.data :: osl 25 1 (.slice ba vs.length bc) vs :: bsz vs (L.segs.map fun n => (L.bytes M2 n).1) :: osl 3 1 (.slice wa L.segs.length wc) (ints L.segs) :: osl 9 1 (.slice na nn nc) (strs M2.list) :: osl 43 40 (.slice oa es.length oc) (sdsL es) :: dataD es :: pt bX (.cells (entA f (.slice da2 f.data.length dc2)) 27 (0,0)) :: F))
              case atStart => exact ⟨0, rfl, Nat.zero_le _, rfl, HSS⟩
              case round =>
                obtain ⟨j, rfl, hj, rfl, hS⟩ := hrel
                clear HSS
                by_cases hjl : j < L.segs.length
                · have Hjl := Lib.hid hjl
                  have hsl' := hsl.out
                  have c1 : (j : Int) < (L.segs.length : Int) := by omega
                  have c2 : (j : Int) < (vs.length : Int) := by rw [Hvs.out]; exact c1
                  have hwj : IntKind.i64.wrap ((j : Int) + 1) = (j : Int) + 1 := IntWalk.i64_in _ (by omega)
                  obtain ⟨s, hs⟩ : ∃ s, L.segs[j]? = some s := ⟨_, List.getElem?_eq_getElem hjl⟩
                  obtain ⟨xv, hxv⟩ : ∃ xv, vs[j]? = some xv := ⟨_, List.getElem?_eq_getElem (by rw [Hvs.out]; exact hjl)⟩
                  have hx : (ints L.segs)[j]? = some (.int .i64 s) := by unfold ints; rw [List.getElem?_map, hs]; rfl
                  obtain ⟨bk, off, rfl, e0⟩ := rdsl_cell (Sat.rd (hS.pick (by first | ((repeat (first | with_reducible apply pick0 | with_reducible apply pick_there)); done) | ((repeat (first | apply pick0 | apply pick_there)); done) | fail))) hx
                  have hbs : (L.segs.map fun n => (L.bytes M2 n).1)[j]? = some (L.bytes M2 s).1 := by rw [List.getElem?_map, hs]; rfl
                  have Hbr := Lib.hid (fun R => bsz_ro (w0 := w0) (R := R) hxv hbs)
                  have Hmem := Lib.hid (Hres.out s (List.mem_of_getElem? hs))
                  have Hxv := Lib.hid hxv
                  have Hbl := Lib.hid (show (L.bytes M2 s).1.length ≤ 9223372036854775807 by
                    have := Seg.bytes_len (L := L) HK2.out.calm.ok s; omega)
                  have hby := lbytes_c HK3.out.log HK3.out.calm.ok s hS
                  rw [Hmem.out] at hby
                  clear hjl hx hs hxv hbs
                  go_wp2_with fail
                  refine hby.mono ?_
                  rintro ee w20 ⟨v, rfl, cv, rfl, hS20⟩
                  clear hby hS
                  obtain ⟨bk2, off2, hba, e2⟩ := rdsl_cell (Sat.rd (hS20.pick (by first | ((repeat (first | with_reducible apply pick0 | with_reducible apply pick_there)); done) | ((repeat (first | apply pick0 | apply pick_there)); done) | fail))) Hxv.out
                  cases hba
                  go_wp2_with fail
                  refine (same_c (L.bytes M2 s).1 (Ro.bsl _ _) (Ro.of_pick (Hbr.out _) (by first | ((repeat (first | with_reducible apply pick0 | with_reducible apply pick_there)); done) | ((repeat (first | apply pick0 | apply pick_there)); done) | fail)) hS20 Hbl.out).mono ?_
                  rintro ee w21 ⟨v, rfl, rfl, hS21⟩
                  clear hS20 e2 e0
                  go_wp2_with fail
                  go_roundg (L.segs.length - (j + 1))
                  case measure => have := Hjl.out; omega
                  case rel => exact ⟨j + 1, rfl, Nat.succ_le_of_lt Hjl.out, by first | rfl | go_num, hS21.sub (by repeat (first | (with_reducible apply sub_refl) | ((with_reducible apply sub_take); (· first | ((repeat (first | with_reducible apply pick0 | with_reducible apply pick_there)); done) | ((repeat (first | apply pick0 | apply pick_there)); done) | fail)) | (with_reducible apply sub_drop)))⟩
                · obtain rfl : j = L.segs.length := by omega
                  have c1 : ¬ (L.segs.length : Int) < (L.segs.length : Int) := by omega
                  clear hjl hj
                  go_wp2_with fail
                  refine (lsegs_c HK3.out.log hS).mono ?_
                  rintro ee w22 ⟨v, rfl, hS22⟩
                  rw [Hsg.out] at hS22
                  clear hS
                  go_wp2_with fail
                  refine (sameInts_c L.segs (fun w hw => Sat.rd (hw.pick (by first | ((repeat (first | with_reducible apply pick0 | with_reducible apply pick_there)); done) | ((repeat (first | apply pick0 | apply pick_there)); done) | fail))) (fun w hw => Sat.rd (hw.pick (by first | ((repeat (first | with_reducible apply pick0 | with_reducible apply pick_there)); done) | ((repeat (first | apply pick0 | apply pick_there)); done) | fail))) hS22 (by have := hsl.out; omega)).mono ?_
                  rintro ee w23 ⟨v, rfl, rfl, hS23⟩
                  clear hS22
                  go_wp2_with fail
                  refine (list_c HK3.out.calm.ok (hS23.pick (by first | ((repeat (first | with_reducible apply pick0 | with_reducible apply pick_there)); done) | ((repeat (first | apply pick0 | apply pick_there)); done) | fail))).mono ?_
                  rintro ee w24 ⟨v, rfl, hS24, la, ln, lc2', rfl⟩
                  rw [Hli.out] at hS24
                  clear hS23
                  have hll : M2.list.length ≤ 500 := by
                    unfold Med.list
                    split
                    · simp
                    · rw [List.length_map]; exact HK2.out.calm.ok.nowOk.len
                  go_wp2_with fail
                  refine (strSame_c M2.list M2.list (fun w hw => Sat.rd (hw.pick (by first | ((repeat (first | with_reducible apply pick0 | with_reducible apply pick_there)); done) | ((repeat (first | apply pick0 | apply pick_there)); done) | fail))) (fun w hw => Sat.rd (hw.pick (by first | ((repeat (first | with_reducible apply pick0 | with_reducible apply pick_there)); done) | ((repeat (first | apply pick0 | apply pick_there)); done) | fail))) hS24 (by omega)).mono ?_
                  rintro ee w25 ⟨v, rfl, rfl, hS25⟩
                  clear hS24
                  have hdt : decide (M2.list = M2.list) = true := decide_eq_true rfl
                  rw [hdt]
                  go_wp2_with fail
                  refine (lives_c (Ro.of_sub HH.out (by repeat (first | (with_reducible apply sub_refl) | ((with_reducible apply sub_take); (· first | ((repeat (first | with_reducible apply pick0 | with_reducible apply pick_there)); done) | ((repeat (first | apply pick0 | apply pick_there)); done) | fail)) | (with_reducible apply sub_drop)))) hS25).mono ?_
                  rintro ee w26 ⟨v, rfl, rfl, hS26⟩
                  go_wp2
                  go_ret
                  exact ⟨_, rfl, rfl, hS26.sub (by repeat (first | (with_reducible apply sub_refl) | ((with_reducible apply sub_take); (· first | ((repeat (first | with_reducible apply pick0 | with_reducible apply pick_there)); done) | ((repeat (first | apply pick0 | apply pick_there)); done) | fail)) | (with_reducible apply sub_drop)))⟩
end
end Go.Proofs.YtjklhichekmdhaaDoor
/- hoardlaw14.committed; entries among all; places. -/
namespace Go.Seg
open Go.Med
/-- A place that was told is one of numbers. -/
theorem place_ok {L : Log} (hL : L.Ok) (M : Med) (x : Frm.Ent) (hk : x.key.length = 32) : (0 ≤ (L.append M x).2.1.at_ ∧ (L.append M x).2.1.at_ ≤ 33554432) ∧ (0 ≤ (L.append M x).2.1.size ∧ (L.append M x).2.1.size ≤ 16425) := by
  have he := encode_len x hk
  have hz : (0 ≤ Plc.zero.at_ ∧ Plc.zero.at_ ≤ 33554432) ∧ (0 ≤ Plc.zero.size ∧ Plc.zero.size ≤ 16425) := by decide
  unfold Log.append
  split; · exact hz
  split
  · unfold Log.grow
    split; · exact hz
    rename_i s hs
    split
    · exact ⟨hL.sizes s (List.mem_of_getLast? hs), by simp only; omega⟩
    · exact hz
  · unfold Log.begin
    split
    · unfold Log.begin1
      split; · exact hz
      split; · exact hz
      split; · exact ⟨by simp only; omega, by simp only; omega⟩
      split <;> exact hz
    · exact hz
end Go.Seg
namespace Go.Proofs.YtjklhichekmdhaaDoor
open Go Go.Sl Go.Med Go.MapKept Go.RowKit
set_option linter.unusedVariables false
section
variable {w0 w : World} {F R : List HProp} {v bv dv x lv : Value}
set_option maxRecDepth 20000 in
set_option maxHeartbeats 8000000 in
theorem committed_c (es : List SD) (oa : Option Addr) (oc : Nat) (hk : ∀ d ∈ es, d.c.e.key.length = 32) (hr : Ro w0 F (rdsl 40 (.slice oa es.length oc) (sdsL es))) (hl : es.length ≤ 1048576) (h : Sat w0 w F) :
    Calls Tryd.prog 29 #[.slice oa es.length oc] w (Rtn fun v w' => v = .bool (Seg.committedB (es.map (·.c))) ∧ Sat w0 w' F) := by
  have Hr := Lib.hid hr; have Hk := Lib.hid hk
  clear hr hk
  go_enter Tryd.func29, Tryd.ntmps29
  go_wp2_with fail
  go_loopg [3] es.length (fun g iq wr => ∃ i : Nat, g = es.length - i ∧ i ≤ es.length ∧ iq = .int .i64 i ∧ Seg.committedB ((es.take i).map (·.c)) = true ∧ Sat w0 wr F)
  case atStart => exact ⟨0, rfl, Nat.zero_le _, rfl, rfl, h⟩
  case round =>
    obtain ⟨i, rfl, hi, rfl, hall, hS⟩ := hrel
    have Hall := Lib.hid hall
    clear h hall
    by_cases hlt : i < es.length
    · have Hlt := Lib.hid hlt
      have c1 : (i : Int) < (es.length : Int) := by omega
      have hwi : IntKind.i64.wrap ((i : Int) + 1) = (i : Int) + 1 := IntWalk.i64_in _ (by omega)
      obtain ⟨d, hd⟩ : ∃ d, es[i]? = some d := ⟨_, List.getElem?_eq_getElem hlt⟩
      have hx0 : (sdsL es)[i * 40 + 0]? = some (.int .i64 d.c.kind) := sdsL_at Hk.out hd rfl
      have hx1 : (sdsL es)[i * 40 + 1]? = some (.int .i64 d.c.e.tag) := sdsL_at Hk.out hd rfl
      obtain ⟨bk, off, rfl, hcell⟩ := rdsl_cells (Hr.out _ hS) hx0
      have e0 : wr.cell? ⟨bk, off + i * 40, none⟩ = some (.int .i64 d.c.kind) := hcell _ _ hx0
      have e1 : wr.cell? ⟨bk, off + i * 40 + 1, none⟩ = some (.int .i64 d.c.e.tag) := by rw [Nat.add_assoc]; exact hcell _ _ hx1
      have Hnext := Lib.hid (show Seg.committedB ((es.take (i + 1)).map (·.c)) = (d.c.kind == 1 || !(d.c.e.tag == 2)) by
        rw [List.take_add_one, hd, List.map_append]
        unfold Seg.committedB at *
        rw [List.all_append, Hall.out, Bool.true_and]
        simp)
      have Hbad := Lib.hid (show (d.c.kind == 1 || !(d.c.e.tag == 2)) = false → Seg.committedB (es.map (·.c)) = false from fun hb => by
        cases hc : Seg.committedB (es.map (·.c)) with
        | false => rfl
        | true =>
          unfold Seg.committedB at hc
          have := List.all_eq_true.1 hc d.c (List.mem_map.2 ⟨d, List.mem_of_getElem? hd, rfl⟩)
          rw [hb] at this; cases this)
      generalize d.c.kind = kind at *
      generalize d.c.e.tag = tag at *
      clear hlt hd hx0 hx1 hcell
      by_cases hk1 : kind = 1
      · subst hk1
        go_wp2
        go_roundg (es.length - (i + 1))
        case measure => have := Hlt.out; omega
        case rel => exact ⟨i + 1, rfl, Nat.succ_le_of_lt Hlt.out, by first | rfl | go_num, Hnext.out, hS⟩
      · have hk1d : (kind == 1) = false := beq_false_of_ne hk1
        have hk1n : (kind != 1) = true := by rw [bne, hk1d]; rfl
        by_cases ht : tag = 2
        · subst ht
          have Hfin := Lib.hid (Hbad.out (by rw [hk1d]; rfl))
          clear hk1 Hbad Hnext
          go_wp2
          go_ret
          exact ⟨_, rfl, by rw [Hfin.out]; rfl, hS⟩
        · have htd : (tag == 2) = false := beq_false_of_ne ht
          have Hn2 := Lib.hid (Hnext.out.trans (show (kind == 1 || !(tag == 2)) = true by rw [hk1d, htd]; decide))
          clear hk1 Hbad Hnext ht
          go_wp2
          go_roundg (es.length - (i + 1))
          case measure => have := Hlt.out; omega
          case rel => exact ⟨i + 1, rfl, Nat.succ_le_of_lt Hlt.out, by first | rfl | go_num, Hn2.out, hS⟩
    · obtain rfl : i = es.length := by omega
      have c1 : ¬ (es.length : Int) < (es.length : Int) := by omega
      have Hfin := Lib.hid (by have := Hall.out; rw [List.take_length] at this; exact this)
      clear hlt
      go_wp2
      go_ret
      exact ⟨_, rfl, by rw [Hfin.out]; rfl, hS⟩
end
end Go.Proofs.YtjklhichekmdhaaDoor
/- Entries that were found, and entries, in the memory of their slices. -/
namespace Go.Proofs.YtjklhichekmdhaaDoor
open Go Go.Sl Go.Med Go.MapKept Go.RowKit
set_option linter.unusedVariables false
section
variable {w0 w : World} {F R : List HProp} {v bv dv x lv : Value}
theorem fndsL_at {fs : List (Frm.Fnd × Value)} (hk : ∀ p ∈ fs, p.1.e.key.length = 32) {i : Nat} {p : Frm.Fnd × Value} (hi : fs[i]? = some p) {j : Nat} {y : Value} (hj : (fndL p.1 p.2)[j]? = some y) : (fndsL fs)[i * 36 + j]? = some y := by
  induction fs generalizing i with
  | nil => simp at hi
  | cons x fs ih =>
    have hx := fndL_len x.1 x.2 (hk x (.head _))
    unfold fndsL at *
    rw [List.flatMap_cons]
    cases i with
    | zero =>
      obtain rfl : x = p := by simpa using hi
      rw [List.getElem?_append_left (by have := (List.getElem?_eq_some_iff.1 hj).1; omega), Nat.zero_mul, Nat.zero_add]
      exact hj
    | succ i =>
      rw [List.getElem?_append_right (by rw [hx]; omega), hx, show (i + 1) * 36 + j - 36 = i * 36 + j by omega]
      exact ih (fun d hd => hk d (.tail _ hd)) (by simpa using hi)
theorem fndL_ent (f : Frm.Fnd) (dv : Value) {j : Nat} {y : Value} (h : (entL f.e dv)[j]? = some y) : (fndL f dv)[j]? = some y := by
  unfold fndL
  rw [List.getElem?_append_left (List.getElem?_eq_some_iff.1 h).1]
  exact h
theorem fnds_at {fs : List (Frm.Fnd × Value)} {v : Value} {i : Nat} {p : Frm.Fnd × Value} (hk : ∀ p ∈ fs, p.1.e.key.length = 32) (hi : fs[i]? = some p) (h : Sat w0 w (osl 70 36 v (fndsL fs) :: R)) :
    ∃ bk off c, v = .slice (some ⟨bk, off, none⟩) fs.length c ∧ ∀ j y, (entL p.1.e p.2)[j]? = some y → w.cell? ⟨bk, off + i * 36 + j, none⟩ = some y := by
  have hr := Sat.rd h
  obtain ⟨a, n, c, rfl, hl, hx⟩ := id hr
  rw [fndsL_len hk] at hl
  obtain rfl : n = fs.length := by omega
  have hx0 : (fndsL fs)[i * 36 + 0]? = some (.int .i64 p.1.e.tag) := fndsL_at hk hi (fndL_ent _ _ rfl)
  obtain ⟨bk, off, rfl, hcell⟩ := rdsl_cells hr hx0
  refine ⟨bk, off, c, rfl, fun j y hj => ?_⟩
  have := hcell _ _ (fndsL_at hk hi (fndL_ent _ _ hj))
  rw [← Nat.add_assoc] at this
  exact this
theorem fnds_sl {fs : List (Frm.Fnd × Value)} {v : Value} (hk : ∀ p ∈ fs, p.1.e.key.length = 32) (h : Sat w0 w (osl 70 36 v (fndsL fs) :: R)) : ∃ a c, v = .slice a fs.length c := by
  obtain ⟨a, n, c, rfl, hl, hx⟩ := Sat.rd h
  rw [fndsL_len hk] at hl
  obtain rfl : n = fs.length := by omega
  exact ⟨a, c, rfl⟩
theorem ents_at {al : List (Frm.Ent × Value)} {v : Value} {i : Nat} {p : Frm.Ent × Value} (hk : ∀ p ∈ al, p.1.key.length = 32) (hi : al[i]? = some p) (h : Sat w0 w (osl 27 34 v (entsL al) :: R)) :
    ∃ bk off c, v = .slice (some ⟨bk, off, none⟩) al.length c ∧ ∀ j y, (entL p.1 p.2)[j]? = some y → w.cell? ⟨bk, off + i * 34 + j, none⟩ = some y := by
  have hr := Sat.rd h
  obtain ⟨a, n, c, rfl, hl, hx⟩ := id hr
  rw [entsL_len hk] at hl
  obtain rfl : n = al.length := by omega
  have hx0 : (entsL al)[i * 34 + 0]? = some (.int .i64 p.1.tag) := entsL_at hk hi (entL_at0 _ _)
  obtain ⟨bk, off, rfl, hcell⟩ := rdsl_cells hr hx0
  refine ⟨bk, off, c, rfl, fun j y hj => ?_⟩
  have := hcell _ _ (entsL_at hk hi hj)
  rw [← Nat.add_assoc] at this
  exact this
theorem dataF_at : ∀ (fs : List (Frm.Fnd × Value)) (i : Nat) (p : Frm.Fnd × Value), fs[i]? = some p → ∃ G, dataF fs = star (bsl p.2 p.1.e.data) G
  | [], _, _, h => by cases h
  | x :: fs, 0, p, h => by
    obtain rfl : x = p := by simpa using h
    exact ⟨_, rfl⟩
  | x :: fs, i + 1, p, h => by
    obtain ⟨G, hG⟩ := dataF_at fs i p (by simpa using h)
    refine ⟨star (bsl x.2 x.1.e.data) G, ?_⟩
    show star (bsl x.2 x.1.e.data) (dataF fs) = _
    rw [hG, star_left_comm]
theorem dataF_ro {fs : List (Frm.Fnd × Value)} {i : Nat} {p : Frm.Fnd × Value} (h : fs[i]? = some p) : Ro w0 (dataF fs :: R) (rdsl 1 p.2 (bys p.1.e.data)) := fun w hw => by
  obtain ⟨G, hG⟩ := dataF_at fs i p h
  rw [hG] at hw
  exact Sat.rd (Sat.star.1 hw)
theorem bsl_capL {l : Bs} (h : Sat w0 w (bsl v l :: R)) : capOk v ∧ ∃ a c, v = .slice a l.length c := by
  refine ⟨bsl_cap h, ?_⟩
  obtain ⟨a, n, c, rfl, _, _, rfl⟩ := bsl_cap' h
  exact ⟨a, c, rfl⟩
end
end Go.Proofs.YtjklhichekmdhaaDoor
/- Plain: what was committed is read at its place behind any crash. No walk here. -/
namespace Go.Seg
open Go.Med
set_option linter.unusedVariables false
open Go.Frm (encs GoodE)
section
variable {K : Nat} {M M' : Med} {L : Log} {s t : ByteArray} {i : Nat}
/-- Files only grow. -/
def Grow (M : Med) : Prop := ∀ j, ∀ c ∈ (M.file j).waits, c.cut = false
theorem at_pre {f : Fil} (h : ∀ c ∈ f.waits, c.cut = false) : ∀ k, k ≤ f.waits.length → f.fast <+: f.at k
  | 0, _ => by rw [Fil.at_zero]; exact List.prefix_refl _
  | k + 1, hk => by
    have hc : f.waits[k]? = some (f.waits[k]'(by omega)) := List.getElem?_eq_getElem _
    rw [Fil.at_succ f k _ hc]
    have h2 := h _ (List.mem_of_getElem? hc)
    unfold Chg.on
    rw [h2]
    exact (at_pre h k (by omega)).trans (List.prefix_append _ _)
theorem now_pre {f : Fil} (ok : f.Ok K) (h : ∀ c ∈ f.waits, c.cut = false) : f.fast <+: f.now := by rw [ok.now]; exact at_pre h _ (Nat.le_refl _)
theorem left_pre {f : Fil} (h : ∀ c ∈ f.waits, c.cut = false) (a b : Int) : f.fast <+: f.left a b := by
  unfold Fil.left
  simp only
  split
  · split
    · exact at_pre h _ (clampN_le _ _)
    · exact (at_pre h _ (clampN_le _ _)).trans (List.prefix_append _ _)
  · exact at_pre h _ (clampN_le _ _)
/-- The name lasts, whatever links wait. -/
def Dur (s : ByteArray) (i : Nat) (M : Med) : Prop := nget M.fast s = some i ∧ ∀ w ∈ M.waits, w.fr ≠ s ∧ w.to ≠ s
theorem on_ne {x : Lnk} {l : Names} (h1 : x.fr ≠ s) (h2 : x.to ≠ s) : nget (x.on l) s = nget l s := by
  have e1 : s ≠ x.fr := fun e => h1 e.symm
  have e2 : s ≠ x.to := fun e => h2 e.symm
  unfold Lnk.on
  simp only
  by_cases a : x.fr = ByteArray.empty
  · by_cases b : x.to = ByteArray.empty
    · rw [if_pos a, if_pos b]
    · rw [if_pos a, if_neg b, nget_put_ne e2]
  · by_cases b : x.to = ByteArray.empty
    · rw [if_neg a, if_pos b, nget_ne e1]
    · rw [if_neg a, if_neg b, nget_put_ne e2, nget_ne e1]
theorem foldl_ne : ∀ (ws : List Lnk) (l : Names), (∀ w ∈ ws, w.fr ≠ s ∧ w.to ≠ s) → nget (ws.foldl (fun l x => x.on l) l) s = nget l s
  | [], _, _ => rfl
  | w :: ws, l, h => by
    rw [List.foldl_cons, foldl_ne ws _ (fun x hx => h x (.tail _ hx)), on_ne (h w (.head _)).1 (h w (.head _)).2]
theorem Dur.last (h : Dur s i M) (k : Nat) : nget (M.lastNames k) s = some i := by
  unfold Med.lastNames
  rw [foldl_ne _ _ (fun w hw => h.2 w (List.mem_of_mem_take hw))]
  exact h.1
theorem Dur.now (ok : M.Ok K) (h : Dur s i M) : nget M.now s = some i := by rw [ok.now]; exact h.last _
/-- A name that stands keeps its file; all files only grow. -/
structure Ext (s : ByteArray) (i : Nat) (M M' : Med) : Prop where
  now : nget M'.now s = some i
  dur : Dur s i M → Dur s i M'
  fast : ∀ j, (M.file j).fast <+: (M'.file j).fast
  bytes : ∀ j, (M.file j).now <+: (M'.file j).now
theorem Ext.refl (h : nget M.now s = some i) : Ext s i M M := ⟨h, fun h => h, fun _ => List.prefix_refl _, fun _ => List.prefix_refl _⟩
theorem Ext.trans {M2 : Med} (h : Ext s i M M') (k : Ext s i M' M2) : Ext s i M M2 :=
  ⟨k.now, fun d => k.dur (h.dur d), fun j => (h.fast j).trans (k.fast j), fun j => (h.bytes j).trans (k.bytes j)⟩
theorem Ext.like (h : nget M.now s = some i) (e1 : M'.now = M.now) (e2 : M'.fast = M.fast) (e3 : M'.files = M.files) (e4 : M'.waits = M.waits) : Ext s i M M' :=
  ⟨by rw [e1]; exact h, fun d => by unfold Dur; rw [e2, e4]; exact d, fun j => by unfold Med.file; rw [e3]; exact List.prefix_refl _, fun j => by unfold Med.file; rw [e3]; exact List.prefix_refl _⟩
theorem Grow.like (g : Grow M) (e : M'.files = M.files) : Grow M' := fun j c hc => g j c (by unfold Med.file at *; rw [e] at hc; exact hc)
theorem file_snoc (M : Med) (j : Nat) : (M.files ++ [Fil.new]).getD j Fil.new = M.file j := by
  unfold Med.file
  rw [List.getD_eq_getElem?_getD, List.getD_eq_getElem?_getD]
  rcases Nat.lt_trichotomy j M.files.length with q | q | q
  · rw [List.getElem?_append_left q]
  · subst q; simp
  · rw [List.getElem?_eq_none (by simp; omega), List.getElem?_eq_none (by omega)]
theorem step_ext (h : nget M.now s = some i) : Ext s i M M.step.1 := by
  obtain ⟨_, sf, sn, sfi, sw⟩ := M.step_same
  exact Ext.like h sn sf sfi sw
theorem Grow.step (g : Grow M) : Grow M.step.1 := g.like M.step_same.2.2.2.1
theorem create_ext (hs : nget M.now s = some i) (hse : s ≠ ByteArray.empty) (t : ByteArray) : Ext s i M (M.create t).1 := by
  obtain ⟨_, sf, sn, sfi, sw⟩ := M.step_same
  have r := Ext.refl hs
  have rs := step_ext hs
  unfold Med.create
  split; · exact r
  split; · exact r
  rename_i hg
  split; · exact r
  rename_i hn
  split; · exact r
  split; · exact rs
  have ht : s ≠ t := by rintro rfl; rw [hs] at hn; simp at hn
  have hte : t ≠ ByteArray.empty := good_ne (by simpa using hg)
  refine ⟨?_, fun hd => ⟨?_, ?_⟩, fun j => ?_, fun j => ?_⟩
  · show nget (Lnk.on _ M.step.1.now) s = _
    rw [sn]; unfold Lnk.on; simp only [if_true, if_neg hte]; rw [nget_put_ne ht]; exact hs
  · show nget M.step.1.fast s = _; rw [sf]; exact hd.1
  · intro w hw
    have h2 : w ∈ M.step.1.waits ++ [⟨ByteArray.empty, t, M.files.length⟩] := hw
    rw [sw] at h2
    rcases List.mem_append.1 h2 with h | h
    · exact hd.2 w h
    · rw [List.mem_singleton.1 h]; exact ⟨fun e => hse e.symm, fun e => ht e.symm⟩
  · show _ <+: ((M.files ++ [Fil.new]).getD j Fil.new).fast
    rw [file_snoc]; exact List.prefix_refl _
  · show _ <+: ((M.files ++ [Fil.new]).getD j Fil.new).now
    rw [file_snoc]; exact List.prefix_refl _
theorem Grow.create (g : Grow M) (t : ByteArray) : Grow (M.create t).1 := by
  unfold Med.create
  split; · exact g
  split; · exact g
  split; · exact g
  split; · exact g
  split; · exact g.step
  intro j c hc
  have h2 : c ∈ ((M.files ++ [Fil.new]).getD j Fil.new).waits := hc
  rw [file_snoc] at h2
  exact g j c h2
theorem file_stepSet (ok : M.Ok K) (hi : nget M.now t = some i) (f : Fil) (j : Nat) : (M.step.1.setFile i f).file j = if j = i then f else M.file j := by
  have h2 : (M.step.1.setFile i f).file j = (M.setFile i f).file j := by unfold Med.file Med.setFile; rw [M.step_same.2.2.2.1]
  rw [h2, file_set (ok.nowOk.ids _ (nget_mem hi))]
theorem setFile_ext (ok : M.Ok K) (hs : nget M.now s = some i) {k : Nat} (hk : nget M.now t = some k) {f : Fil} (h1 : (M.file k).fast <+: f.fast) (h2 : (M.file k).now <+: f.now) : Ext s i M (M.step.1.setFile k f) := by
  obtain ⟨_, sf, sn, sfi, sw⟩ := M.step_same
  refine ⟨?_, fun hd => ⟨?_, ?_⟩, fun j => ?_, fun j => ?_⟩
  · show nget M.step.1.now s = _; rw [sn]; exact hs
  · show nget M.step.1.fast s = _; rw [sf]; exact hd.1
  · intro w hw
    have hw' : w ∈ M.step.1.waits := hw
    rw [sw] at hw'; exact hd.2 w hw'
  · rw [file_stepSet ok hk]; split
    · rename_i e; subst e; exact h1
    · exact List.prefix_refl _
  · rw [file_stepSet ok hk]; split
    · rename_i e; subst e; exact h2
    · exact List.prefix_refl _
theorem append_ext (ok : M.Ok K) (hs : nget M.now s = some i) (t : ByteArray) (b : Bs) : Ext s i M (M.append t b).1 := by
  have r := Ext.refl hs
  unfold Med.append
  split; · exact r
  split; · exact r
  rename_i k hk
  split; · exact r
  split; · exact step_ext hs
  exact setFile_ext ok hs hk (List.prefix_refl _) (List.prefix_append _ _)
theorem Grow.append (ok : M.Ok K) (g : Grow M) (t : ByteArray) (b : Bs) : Grow (M.append t b).1 := by
  unfold Med.append
  split; · exact g
  split; · exact g
  rename_i k hk
  split; · exact g
  split; · exact g.step
  intro j c hc
  rw [file_stepSet ok hk] at hc
  split at hc
  · rcases List.mem_append.1 hc with hc | hc
    · exact g _ c hc
    · rw [List.mem_singleton.1 hc]
  · exact g _ c hc
theorem remove_ext (hs : nget M.now s = some i) (hse : s ≠ ByteArray.empty) (ht : t ≠ s) : Ext s i M (M.remove t).1 := by
  obtain ⟨_, sf, sn, sfi, sw⟩ := M.step_same
  have r := Ext.refl hs
  unfold Med.remove
  split; · exact r
  split; · exact r
  split; · exact step_ext hs
  have hl : ∀ j, (M.step.1.link ⟨t, ByteArray.empty, 0⟩).file j = M.file j := fun j => by unfold Med.file Med.link; rw [sfi]
  refine ⟨?_, fun hd => ⟨?_, ?_⟩, fun j => ?_, fun j => ?_⟩
  · show nget (Lnk.on ⟨t, ByteArray.empty, 0⟩ M.step.1.now) s = _
    rw [sn, on_ne ht (fun e => hse e.symm)]; exact hs
  · show nget M.step.1.fast s = _; rw [sf]; exact hd.1
  · intro w hw
    have h2 : w ∈ M.step.1.waits ++ [⟨t, ByteArray.empty, 0⟩] := hw
    rw [sw] at h2
    rcases List.mem_append.1 h2 with h | h
    · exact hd.2 w h
    · rw [List.mem_singleton.1 h]; exact ⟨ht, fun e => hse e.symm⟩
  · rw [hl]; exact List.prefix_refl _
  · rw [hl]; exact List.prefix_refl _
theorem Grow.remove (g : Grow M) (t : ByteArray) : Grow (M.remove t).1 := by
  unfold Med.remove
  split; · exact g
  split; · exact g
  split; · exact g.step
  exact g.like M.step_same.2.2.2.1
theorem sync_ext (ok : M.Ok K) (g : Grow M) (hs : nget M.now s = some i) (t : ByteArray) : Ext s i M (M.sync t).1 := by
  have r := Ext.refl hs
  unfold Med.sync
  split; · exact r
  split; · exact r
  rename_i k hk
  split; · exact step_ext hs
  exact setFile_ext ok hs hk (now_pre (ok.file k) (g k)) (List.prefix_refl _)
theorem Grow.sync (ok : M.Ok K) (g : Grow M) (t : ByteArray) : Grow (M.sync t).1 := by
  unfold Med.sync
  split; · exact g
  split; · exact g
  rename_i k hk
  split; · exact g.step
  intro j c hc
  rw [file_stepSet ok hk] at hc
  split at hc
  · cases hc
  · exact g _ c hc
theorem syncDir_ext (hs : nget M.now s = some i) : Ext s i M M.syncDir.1 := by
  obtain ⟨_, sf, sn, sfi, sw⟩ := M.step_same
  unfold Med.syncDir
  split; · exact Ext.refl hs
  split; · exact step_ext hs
  have hl : ∀ j, ({ M.step.1 with fast := M.now, waits := [] } : Med).file j = M.file j := fun j => by unfold Med.file; rw [← sfi]
  refine ⟨by show nget M.step.1.now s = _; rw [sn]; exact hs, fun _ => ⟨hs, fun w hw => by cases hw⟩, fun j => ?_, fun j => ?_⟩
  · rw [hl]; exact List.prefix_refl _
  · rw [hl]; exact List.prefix_refl _
theorem syncDir_dur (hs : nget M.now s = some i) (h0 : M.syncDir.2 = 0) : Dur s i M.syncDir.1 := by
  unfold Med.syncDir at h0 ⊢
  split at h0
  · cases h0
  rename_i e
  rw [if_neg e]
  split at h0
  · cases h0
  rename_i e2
  rw [if_neg e2]
  exact ⟨hs, fun w hw => by cases hw⟩
theorem Grow.syncDir (g : Grow M) : Grow M.syncDir.1 := by
  unfold Med.syncDir
  split; · exact g
  split; · exact g.step
  exact g.like M.step_same.2.2.2.1
theorem arm_ext (hs : nget M.now s = some i) (n : Int) : Ext s i M (M.arm n).1 := by
  unfold Med.arm
  split; · exact Ext.refl hs
  split; · exact Ext.refl hs
  exact Ext.like hs rfl rfl rfl rfl
theorem Grow.arm (g : Grow M) (n : Int) : Grow (M.arm n).1 := by
  unfold Med.arm
  split; · exact g
  split; · exact g
  exact g.like rfl
theorem arm_now (M : Med) (n : Int) : (M.arm n).1.now = M.now ∧ (M.arm n).1.files = M.files := by
  unfold Med.arm
  split; · exact ⟨rfl, rfl⟩
  split <;> exact ⟨rfl, rfl⟩
theorem arm_off (M : Med) (n : Int) : (M.arm n).1.off = M.off := by
  unfold Med.arm
  split; · rfl
  split <;> rfl
/-- A file behind a crash. -/
theorem crashFiles_at (l : List Int) : ∀ (ns : Names) (j : Nat) (fs : List Fil), (∀ k, ∀ c ∈ (fs.getD k Fil.new).waits, c.cut = false) → (∀ k, (fs.getD k Fil.new).fast <+: (fs.getD k Fil.new).now) →
    ∀ k, (fs.getD k Fil.new).fast <+: ((crashFiles l ns j fs).getD k Fil.new).fast ∧ (fs.getD k Fil.new).fast <+: ((crashFiles l ns j fs).getD k Fil.new).now ∧ ∀ c ∈ ((crashFiles l ns j fs).getD k Fil.new).waits, c.cut = false
  | [], j, fs, hc, hp, k => ⟨List.prefix_refl _, hp k, hc k⟩
  | p :: ns, j, fs, hc, hp, k => by
    have hset : ∀ k, (fs.set p.2 ((fs.getD p.2 Fil.new).crash (num l j) (num l (j + 1)))).getD k Fil.new = fs.getD k Fil.new ∨ k = p.2 ∧ (fs.set p.2 ((fs.getD p.2 Fil.new).crash (num l j) (num l (j + 1)))).getD k Fil.new = (fs.getD p.2 Fil.new).crash (num l j) (num l (j + 1)) := by
      intro k
      rw [List.getD_eq_getElem?_getD, List.getElem?_set]
      split
      · rename_i e; subst e
        split
        · right; exact ⟨rfl, rfl⟩
        · rename_i hlt; left; rw [List.getD_eq_getElem?_getD, List.getElem?_eq_none (by omega)]
      · left; rw [List.getD_eq_getElem?_getD]
    have hc' : ∀ k, ∀ c ∈ ((fs.set p.2 ((fs.getD p.2 Fil.new).crash (num l j) (num l (j + 1)))).getD k Fil.new).waits, c.cut = false := by
      intro k c hcc
      rcases hset k with e | ⟨_, e⟩
      · rw [e] at hcc; exact hc k c hcc
      · rw [e] at hcc; cases hcc
    have hp' : ∀ k, ((fs.set p.2 ((fs.getD p.2 Fil.new).crash (num l j) (num l (j + 1)))).getD k Fil.new).fast <+: ((fs.set p.2 ((fs.getD p.2 Fil.new).crash (num l j) (num l (j + 1)))).getD k Fil.new).now := by
      intro k
      rcases hset k with e | ⟨_, e⟩
      · rw [e]; exact hp k
      · rw [e]; exact List.prefix_refl _
    have hq : (fs.getD k Fil.new).fast <+: ((fs.set p.2 ((fs.getD p.2 Fil.new).crash (num l j) (num l (j + 1)))).getD k Fil.new).fast := by
      rcases hset k with e | ⟨e1, e⟩
      · rw [e]; exact List.prefix_refl _
      · rw [e, e1]; exact left_pre (hc p.2) _ _
    obtain ⟨r1, r2, r3⟩ := crashFiles_at l ns (j + 2) _ hc' hp' k
    exact ⟨hq.trans r1, hq.trans r2, r3⟩
theorem crash_file (ok : M.Ok K) (g : Grow M) (l : List Int) (j : Nat) : (M.file j).fast <+: ((M.crash l).file j).fast ∧ (M.file j).fast <+: ((M.crash l).file j).now ∧ ∀ c ∈ ((M.crash l).file j).waits, c.cut = false :=
  crashFiles_at l _ 1 M.files g (fun k => now_pre (ok.file k) (g k)) j
/-! ### off -/
theorem off_append (h : M.off = true) (t : ByteArray) (b : Bs) : M.append t b = (M, 12) := by unfold Med.append; rw [if_pos h]
theorem off_create (h : M.off = true) (t : ByteArray) : M.create t = (M, 12) := by unfold Med.create; rw [if_pos h]
theorem off_remove (h : M.off = true) (t : ByteArray) : M.remove t = (M, 12) := by unfold Med.remove; rw [if_pos h]
theorem off_sync (h : M.off = true) (t : ByteArray) : M.sync t = (M, 12) := by unfold Med.sync; rw [if_pos h]
theorem off_shut (h : M.off = true) (L : Log) : (L.shut M).1.2 = M ∧ ((L.shut M).2 = 0 ∨ (L.shut M).2 = 12) := by
  unfold Log.shut
  split; · exact ⟨rfl, .inl rfl⟩
  split
  · rw [off_sync h]; exact ⟨rfl, .inr rfl⟩
  · exact ⟨rfl, .inl rfl⟩
theorem off_begin1 (h : M.off = true) (L : Log) (b : Bs) : (L.begin1 M b).1.2 = M ∧ (L.begin1 M b).2.2 ≠ 0 := by
  unfold Log.begin1
  split; · exact ⟨rfl, by simp⟩
  rw [off_create h]
  simp
theorem off_grow (h : M.off = true) (L : Log) (b : Bs) (hf : L.fits b.length = true) (hL : L.Ok) : (L.grow M b).1.2 = M ∧ (L.grow M b).2.2 ≠ 0 := by
  unfold Log.fits at hf
  rw [Bool.and_eq_true] at hf
  obtain ⟨s, hl⟩ := hL.last hf.1
  unfold Log.grow
  rw [hl]
  simp only
  rw [off_append h]
  simp
theorem off_lappend (h : M.off = true) (hL : L.Ok) (x : Frm.Ent) : (L.append M x).1.2 = M ∧ (L.append M x).2.2 ≠ 0 := by
  by_cases h0 : (Frm.encode x).2 = 0
  · cases hf : L.fits (Frm.encode x).1.length with
    | true => rw [Log.append_grow h0 hf]; exact off_grow h L _ hf hL
    | false =>
      rw [Log.append_begin h0 hf]
      unfold Log.begin
      obtain ⟨e1, e2⟩ := off_shut h L
      split
      · rw [e1]; exact off_begin1 h _ _
      · rename_i e; exact ⟨e1, e⟩
  · rw [Log.append_bad h0]; exact ⟨rfl, h0⟩
theorem off_lremove (h : M.off = true) (L : Log) (n : Int) : (L.remove M n).1.2 = M := by
  unfold Log.remove
  split; · rfl
  rw [off_remove h]
  rfl
/-! ### calls that fail change no file -/
theorem append_fail {b : Bs} (h : (M.append t b).2 ≠ 0) : (M.append t b).1.now = M.now ∧ (M.append t b).1.files = M.files := by
  obtain ⟨_, sf, sn, sfi, sw⟩ := M.step_same
  unfold Med.append at h ⊢
  split at h
  · rename_i e; rw [if_pos e]; exact ⟨rfl, rfl⟩
  rename_i e
  rw [if_neg e]
  cases hk : nget M.now t with
  | none => exact ⟨rfl, rfl⟩
  | some k =>
    rw [hk] at h
    simp only at h ⊢
    split at h
    · rename_i e1; rw [if_pos e1]; exact ⟨rfl, rfl⟩
    rename_i e1
    rw [if_neg e1]
    split at h
    · rename_i e2; rw [if_pos e2]; exact ⟨sn, sfi⟩
    · exact absurd rfl h
theorem sync_fail (h : (M.sync t).2 ≠ 0) : (M.sync t).1.now = M.now ∧ (M.sync t).1.files = M.files := by
  obtain ⟨_, sf, sn, sfi, sw⟩ := M.step_same
  unfold Med.sync at h ⊢
  split at h
  · rename_i e; rw [if_pos e]; exact ⟨rfl, rfl⟩
  rename_i e
  rw [if_neg e]
  cases hk : nget M.now t with
  | none => exact ⟨rfl, rfl⟩
  | some k =>
    rw [hk] at h
    simp only at h ⊢
    split at h
    · rename_i e2; rw [if_pos e2]; exact ⟨sn, sfi⟩
    · exact absurd rfl h
theorem sync_good (ok : M.Ok K) (h : (M.sync t).2 = 0) (hk : nget M.now t = some i) : (M.sync t).1.now = M.now ∧ ((M.sync t).1.file i).fast = (M.file i).now ∧ ((M.sync t).1.file i).now = (M.file i).now := by
  obtain ⟨_, sf, sn, sfi, sw⟩ := M.step_same
  unfold Med.sync at h ⊢
  split at h
  · cases h
  rename_i e
  rw [if_neg e]
  rw [hk] at h ⊢
  simp only at h ⊢
  split at h
  · cases h
  rename_i e2
  rw [if_neg e2]
  have hf := file_stepSet ok hk (M.file i).sync i
  rw [if_pos rfl] at hf
  exact ⟨sn, by rw [hf]; rfl, by rw [hf]; rfl⟩
theorem sync_zero (h : (M.sync t).2 = 0) : ∃ k, nget M.now t = some k := by
  unfold Med.sync at h
  split at h
  · cases h
  cases hk : nget M.now t with
  | none => rw [hk] at h; cases h
  | some k => exact ⟨k, rfl⟩
theorem append_good {b : Bs} (ok : M.Ok K) (h : (M.append t b).2 = 0) : ∃ k, nget M.now t = some k ∧ (M.append t b).1.now = M.now ∧ ((M.append t b).1.file k).now = (M.file k).now ++ b := by
  obtain ⟨_, sf, sn, sfi, sw⟩ := M.step_same
  unfold Med.append at h ⊢
  split at h
  · cases h
  rename_i e
  rw [if_neg e]
  cases hk : nget M.now t with
  | none => rw [hk] at h; cases h
  | some k =>
    rw [hk] at h
    simp only at h ⊢
    split at h
    · cases h
    rename_i e1
    rw [if_neg e1]
    split at h
    · cases h
    rename_i e2
    rw [if_neg e2]
    have hf := file_stepSet ok hk ((M.file k).do ⟨false, 0, b⟩) k
    rw [if_pos rfl] at hf
    exact ⟨k, rfl, sn, by rw [hf]; rfl⟩
theorem create_good (ok : M.Ok K) (h : (M.create t).2 = 0) : nget M.now t = none ∧ nget (M.create t).1.now t = some M.files.length ∧ ((M.create t).1.file M.files.length).now = [] ∧ good t = true := by
  obtain ⟨_, sf, sn, sfi, sw⟩ := M.step_same
  unfold Med.create at h ⊢
  split at h
  · cases h
  rename_i e
  rw [if_neg e]
  split at h
  · cases h
  rename_i hg
  rw [if_neg hg]
  split at h
  · cases h
  rename_i hn
  rw [if_neg hn]
  split at h
  · cases h
  rename_i e1
  rw [if_neg e1]
  split at h
  · cases h
  rename_i e2
  rw [if_neg e2]
  have hgt : good t = true := by simpa using hg
  refine ⟨by simpa using hn, ?_, ?_, hgt⟩
  · show nget (Lnk.on _ M.step.1.now) t = _
    rw [sn]; unfold Lnk.on; simp only [if_true, if_neg (good_ne hgt)]
    exact nget_put_self ok.nowOk.srt _ _
  · show ((M.files ++ [Fil.new]).getD M.files.length Fil.new).now = []
    simp [Fil.new]
end
end Go.Seg
/- Plain: what was committed is read at its place behind any crash: logs. No walk here. -/
namespace Go.Seg
open Go.Med
set_option linter.unusedVariables false
open Go.Frm (encs GoodE)
section
variable {K : Nat} {M M' : Med} {L : Log} {s t : ByteArray} {i : Nat}
theorem shut_ext (ok : M.Ok K) (g : Grow M) (hs : nget M.now s = some i) : Ext s i M (L.shut M).1.2 := by
  unfold Log.shut
  split; · exact Ext.refl hs
  split
  · split <;> exact sync_ext ok g hs _
  · exact Ext.refl hs
theorem shut_grow (ok : M.Ok K) (g : Grow M) : Grow (L.shut M).1.2 := by
  unfold Log.shut
  split; · exact g
  split
  · split <;> exact g.sync ok _
  · exact g
theorem begin1_ext (ok : M.Ok K) (g : Grow M) (hs : nget M.now s = some i) (hse : s ≠ ByteArray.empty) (b : Bs) : Ext s i M (L.begin1 M b).1.2 := by
  have e1 := create_ext hs hse (name L.next)
  have ok1 := ok.create (name L.next)
  have e2 := append_ext ok1 e1.now (name L.next) (mag ++ b)
  unfold Log.begin1
  split; · exact Ext.refl hs
  split; · exact e1
  rename_i h0
  simp only [ne_eq, Decidable.not_not] at h0
  split; · exact e1.trans e2
  split
  · have hne : name L.next ≠ s := fun e => by
      have := (create_good ok h0).1
      rw [e, hs] at this; cases this
    exact e1.trans (e2.trans (remove_ext e2.now hse hne))
  · exact e1.trans e2
theorem begin1_grow (ok : M.Ok K) (g : Grow M) (b : Bs) : Grow (L.begin1 M b).1.2 := by
  have g1 := g.create (name L.next)
  have ok1 := ok.create (name L.next)
  have g2 := g1.append ok1 (name L.next) (mag ++ b)
  unfold Log.begin1
  split; · exact g
  split; · exact g1
  split; · exact g2
  split
  · exact g2.remove _
  · exact g2
theorem lappend_ext (ok : M.Ok K) (g : Grow M) (hs : nget M.now s = some i) (hse : s ≠ ByteArray.empty) (x : Frm.Ent) : Ext s i M (L.append M x).1.2 := by
  unfold Log.append
  split; · exact Ext.refl hs
  split
  · unfold Log.grow
    split; · exact Ext.refl hs
    split <;> exact append_ext ok hs _ _
  · have e1 := shut_ext (L := L) ok g hs
    unfold Log.begin
    split
    · exact e1.trans (begin1_ext (Log.shut_med ok) (shut_grow ok g) e1.now hse _)
    · exact e1
theorem lappend_grow (ok : M.Ok K) (g : Grow M) (x : Frm.Ent) : Grow (L.append M x).1.2 := by
  unfold Log.append
  split; · exact g
  split
  · unfold Log.grow
    split; · exact g
    split <;> exact g.append ok _ _
  · unfold Log.begin
    split
    · exact begin1_grow (Log.shut_med ok) (shut_grow ok g) _
    · exact shut_grow ok g
/-- The numbers of the segments that are not fresh. -/
def nf (L : Log) : List Int := (L.l.map (·.1)).take (L.l.length - L.fresh.toNat)
theorem shut_same (L : Log) (M : Med) : (L.shut M).1.1.l = L.l ∧ (L.shut M).1.1.fresh = L.fresh := by
  unfold Log.shut
  split; · exact ⟨rfl, rfl⟩
  split
  · split <;> exact ⟨rfl, rfl⟩
  · exact ⟨rfl, rfl⟩
theorem begin1_nf (h : L.Ok) (b : Bs) : nf (L.begin1 M b).1.1 = nf L := by
  unfold Log.begin1
  split; · rfl
  split; · rfl
  split
  · have hf := h.fresh
    unfold nf
    simp only [List.map_append, List.length_append, List.length_singleton]
    rw [show L.l.length + 1 - (L.fresh + 1).toNat = L.l.length - L.fresh.toNat by omega, List.take_append_of_le_length (by rw [List.length_map]; omega)]
  split <;> rfl
theorem grow_nums (L : Log) (M : Med) (b : Bs) : (L.grow M b).1.1.l.map (·.1) = L.l.map (·.1) ∧ (L.grow M b).1.1.fresh = L.fresh ∧ (L.grow M b).1.1.on = L.on := by
  unfold Log.grow
  split; · exact ⟨rfl, rfl, rfl⟩
  rename_i s hl
  split
  · refine ⟨?_, rfl, rfl⟩
    have e := last_split hl
    conv => rhs; rw [e]
    simp
  · exact ⟨rfl, rfl, rfl⟩
theorem lappend_nf (h : L.Ok) (x : Frm.Ent) : nf (L.append M x).1.1 = nf L := by
  unfold Log.append
  split; · rfl
  split
  · obtain ⟨e1, e2, _⟩ := grow_nums L M (Frm.encode x).1
    have e3 := congrArg List.length e1
    rw [List.length_map, List.length_map] at e3
    unfold nf
    rw [e1, e2, e3]
  · obtain ⟨e1, e2⟩ := shut_same L M
    have e3 : nf (L.shut M).1.1 = nf L := by unfold nf; rw [e1, e2]
    unfold Log.begin
    split
    · rw [begin1_nf (h.shut M), e3]
    · exact e3
/-- The bytes of an entry stand at a place. -/
def Slice (p : Plc) (x : Frm.Ent) (b : Bs) : Prop := ∃ a : Nat, p.at_ = a ∧ p.size = ((Frm.encode x).1.length : Int) ∧ (Frm.encode x).1 <+: b.drop a
theorem Slice.mono {p : Plc} {x : Frm.Ent} {b c : Bs} (h : Slice p x b) (hx : GoodE x) (k : b <+: c) : Slice p x c := by
  obtain ⟨a, h1, h2, h3⟩ := h
  obtain ⟨d, rfl⟩ := k
  refine ⟨a, h1, h2, h3.trans ?_⟩
  rw [List.drop_append]
  exact List.prefix_append _ _
structure Sure (L : Log) (M : Med) (p : Plc) (x : Frm.Ent) : Prop where
  good : GoodE x
  mem : p.seg ∈ nf L
  file : ∃ i, nget M.now (name p.seg) = some i ∧ Dur (name p.seg) i M ∧ Slice p x (M.file i).fast
structure Pend (L : Log) (M : Med) (p : Plc) (x : Frm.Ent) : Prop where
  good : GoodE x
  mem : p.seg ∈ L.l.map (·.1)
  file : ∃ i, nget M.now (name p.seg) = some i ∧ Slice p x (M.file i).now ∧ (Slice p x (M.file i).fast ∨ L.on = true ∧ ∃ s, L.l.getLast? = some s ∧ s.1 = p.seg)
theorem nf_mem {n : Int} (h : n ∈ nf L) : n ∈ L.l.map (·.1) := List.mem_of_mem_take h
theorem num_of {L : Log} (hL : L.Ok) {n : Int} (h : n ∈ L.l.map (·.1)) : 0 ≤ n ∧ n < 1048576 ∧ name n ≠ ByteArray.empty := by
  obtain ⟨s, hs, rfl⟩ := List.mem_map.1 h
  have := hL.nums s hs
  exact ⟨this.1, this.2, good_ne (good_name s.1 this.1 this.2)⟩
theorem Sure.ext {L' : Log} {p : Plc} {x : Frm.Ent} (h : Sure L M p x) (hm : p.seg ∈ nf L') (e : ∀ i, nget M.now (name p.seg) = some i → Ext (name p.seg) i M M') : Sure L' M' p x := by
  obtain ⟨i, h1, h2, h3⟩ := h.file
  have e := e i h1
  exact ⟨h.good, hm, i, e.now, e.dur h2, h3.mono h.good (e.fast i)⟩
/-- What holds of a log, its medium, the entries that were committed, and those that were put. -/
structure St (K : Nat) (L : Log) (M : Med) (sure opn : List (Plc × Frm.Ent)) : Prop where
  log : L.Ok
  ok : M.Ok K
  grow : Grow M
  has : Has L M
  tail : L.on = true → ∃ s i, L.l.getLast? = some s ∧ nget M.now (name s.1) = some i ∧ s.2 = ((M.file i).now.length : Int)
  sure : ∀ q ∈ sure, Sure L M q.1 q.2
  opn : M.off = false → ∀ q ∈ opn, Pend L M q.1 q.2
variable {sure opn : List (Plc × Frm.Ent)}
/-- What shut leaves. -/
theorem St.shut (h : St K L M sure opn) :
    (L.shut M).2 = 0 ∧ (L.shut M).1.1.on = false ∧ (M.off = false → ∀ q ∈ opn, ∃ i, nget (L.shut M).1.2.now (name q.1.seg) = some i ∧ Slice q.1 q.2 ((L.shut M).1.2.file i).fast ∧ Slice q.1 q.2 ((L.shut M).1.2.file i).now) ∨
    (L.shut M).2 ≠ 0 ∧ (L.shut M).1.1 = L ∧ (L.shut M).1.2.now = M.now ∧ (L.shut M).1.2.files = M.files := by
  have hext : ∀ s i, nget M.now s = some i → Ext s i M (L.shut M).1.2 := fun s i hs => shut_ext h.ok h.grow hs
  cases hon : L.on with
  | false =>
    left
    rw [Log.shut_off M hon] at hext ⊢
    refine ⟨rfl, hon, fun ho q hq => ?_⟩
    obtain ⟨i, h1, h2, h3⟩ := (h.opn ho q hq).file
    rcases h3 with h3 | ⟨h3, _⟩
    · exact ⟨i, h1, h3, h2⟩
    · rw [hon] at h3; cases h3
  | true =>
    obtain ⟨s, hl⟩ := h.log.last hon
    have es := Log.shut_on M hl hon
    by_cases h0 : (M.sync (name s.1)).2 = 0
    · left
      rw [if_pos h0] at es
      obtain ⟨k, hk⟩ := sync_zero h0
      obtain ⟨g1, g2, g3⟩ := sync_good h.ok h0 hk
      rw [es] at hext ⊢
      refine ⟨rfl, rfl, fun ho q hq => ?_⟩
      have hp := h.opn ho q hq
      obtain ⟨i, h1, h2, h3⟩ := hp.file
      have e := hext _ _ h1
      refine ⟨i, e.now, ?_, h2.mono hp.good (e.bytes i)⟩
      rcases h3 with h3 | ⟨_, s', hs', e2⟩
      · exact h3.mono hp.good (e.fast i)
      · rw [hl] at hs'
        cases hs'
        rw [← e2, hk] at h1
        cases h1
        show Slice q.1 q.2 ((M.sync (name s.1)).1.file k).fast
        rw [g2]; exact h2
    · right
      rw [if_neg h0] at es
      rw [es]
      exact ⟨h0, rfl, (sync_fail h0).1, (sync_fail h0).2⟩
theorem has_ext {L' : Log} (hL : L.Ok) (h : Has L M) (e : ∀ s i, nget M.now s = some i → s ≠ ByteArray.empty → Ext s i M M') (hm : ∀ s ∈ L'.l, s ∈ L.l ∨ ∃ i, nget M'.now (name s.1) = some i) : Has L' M' := by
  intro s hs
  rcases hm s hs with h1 | h1
  · obtain ⟨i, hi⟩ := h s h1
    exact ⟨i, (e _ _ hi (num_of hL (List.mem_map.2 ⟨s, h1, rfl⟩)).2.2).now⟩
  · exact h1
theorem has_nums {L' : Log} (e : L'.l.map (·.1) = L.l.map (·.1)) (h : Has L M) : Has L' M := by
  intro s hs
  have : s.1 ∈ L.l.map (·.1) := by rw [← e]; exact List.mem_map.2 ⟨s, hs, rfl⟩
  obtain ⟨t, ht, e2⟩ := List.mem_map.1 this
  rw [← e2]; exact h t ht
theorem St.append (h : St K L M sure opn) (x : Frm.Ent) (hk : x.key.length = 32) :
    St (K + 4) (L.append M x).1.1 (L.append M x).1.2 sure (if (L.append M x).2.2 = 0 then opn ++ [((L.append M x).2.1, x)] else opn) ∧
    ((L.append M x).2.2 = 0 → (L.append M x).1.1.on = true ∧ ∃ s, (L.append M x).1.1.l.getLast? = some s ∧ s.1 = (L.append M x).2.1.seg) := by
  have hLog := h.log.append M x hk
  have hOk := Log.append_med (L := L) h.ok x
  have hGrow := lappend_grow (L := L) h.ok h.grow x
  have hNf := lappend_nf (M := M) h.log x
  have hSure : ∀ q ∈ sure, Sure (L.append M x).1.1 (L.append M x).1.2 q.1 q.2 := fun q hq => by
    have hq' := h.sure q hq
    refine hq'.ext (by rw [hNf]; exact hq'.mem) fun i hi => lappend_ext h.ok h.grow hi (num_of h.log (nf_mem hq'.mem)).2.2 x
  have hOff : (L.append M x).1.2.off = false → M.off = false := fun ho => by
    cases hm : M.off with
    | false => rfl
    | true => rw [(off_lappend hm h.log x).1, hm] at ho; cases ho
  have hExt : ∀ s i, nget M.now s = some i → s ≠ ByteArray.empty → Ext s i M (L.append M x).1.2 := fun s i hs hse => lappend_ext h.ok h.grow hs hse x
  by_cases h0 : (Frm.encode x).2 = 0
  · cases hf : L.fits (Frm.encode x).1.length with
    | true =>
      have hgn := grow_nums L M (Frm.encode x).1
      rw [Log.append_grow h0 hf] at *
      obtain ⟨hn1, hn2, hn3⟩ := hgn
      have hf' := hf
      unfold Log.fits at hf'
      rw [Bool.and_eq_true] at hf'
      obtain ⟨s, k, hl, hk1, hk2⟩ := h.tail hf'.1
      have hE : L.grow M (Frm.encode x).1 = if (M.append (name s.1) (Frm.encode x).1).2 = 0 then (({ L with l := L.l.dropLast ++ [(s.1, s.2 + ((Frm.encode x).1.length : Int))] }, (M.append (name s.1) (Frm.encode x).1).1), ⟨s.1, s.2, (Frm.encode x).1.length⟩, 0) else ((L, (M.append (name s.1) (Frm.encode x).1).1), Plc.zero, (M.append (name s.1) (Frm.encode x).1).2) := by
        unfold Log.grow; rw [hl]
      by_cases ha : (M.append (name s.1) (Frm.encode x).1).2 = 0
      · obtain ⟨k', a1, a2, a3⟩ := append_good h.ok ha
        rw [hk1] at a1
        cases a1
        rw [if_pos ha] at hE
        have hG : GoodE x := ⟨h0, hk⟩
        have hPend : M.off = false → ∀ q ∈ opn, Pend (L.grow M (Frm.encode x).1).1.1 (L.grow M (Frm.encode x).1).1.2 q.1 q.2 := fun ho q hq => by
          have hp := h.opn ho q hq
          obtain ⟨i, h1, h2, h3⟩ := hp.file
          have e := hExt _ _ h1 (num_of h.log hp.mem).2.2
          refine ⟨hp.good, by rw [hn1]; exact hp.mem, i, e.now, h2.mono hp.good (e.bytes i), ?_⟩
          rcases h3 with h3 | ⟨c1, s', hs', e2⟩
          · exact .inl (h3.mono hp.good (e.fast i))
          · right
            rw [hl] at hs'
            cases hs'
            rw [hn3]
            refine ⟨c1, (s.1, s.2 + ((Frm.encode x).1.length : Int)), ?_, e2⟩
            rw [hE]; simp
        have hHas : Has (L.grow M (Frm.encode x).1).1.1 (L.grow M (Frm.encode x).1).1.2 := by
          refine has_nums (L := L) hn1 ?_
          exact has_ext h.log h.has hExt fun s hs => .inl hs
        rw [hE] at hLog hOk hGrow hSure hOff hExt hHas hPend ⊢
        simp only [if_true] at hLog hOk hGrow hSure hOff hExt hHas hPend ⊢
        refine ⟨⟨hLog, hOk, hGrow, hHas, fun _ => ⟨(s.1, s.2 + ((Frm.encode x).1.length : Int)), k, by simp, by show nget (M.append _ _).1.now _ = _; rw [a2]; exact hk1, ?_⟩, hSure, fun ho q hq => ?_⟩, fun _ => ⟨hf'.1, (s.1, s.2 + ((Frm.encode x).1.length : Int)), by simp, rfl⟩⟩
        · show s.2 + ((Frm.encode x).1.length : Int) = (((M.append (name s.1) (Frm.encode x).1).1.file k).now.length : Int)
          rw [a3, List.length_append]; omega
        · rcases List.mem_append.1 hq with hq | hq
          · exact hPend (hOff ho) q hq
          · rw [List.mem_singleton.1 hq]
            refine ⟨hG, by simp, k, by show nget (M.append _ _).1.now _ = _; rw [a2]; exact hk1, ⟨(M.file k).now.length, hk2, rfl, ?_⟩, .inr ⟨hf'.1, (s.1, s.2 + ((Frm.encode x).1.length : Int)), by simp, rfl⟩⟩
            show _ <+: ((M.append (name s.1) (Frm.encode x).1).1.file k).now.drop _
            rw [a3, List.drop_append, List.drop_length, Nat.sub_self]
            exact List.prefix_refl _
      · rw [if_neg ha] at hE
        obtain ⟨a1, a2⟩ := append_fail ha
        rw [hE] at hLog hOk hGrow hSure hOff hExt ⊢
        simp only [if_neg ha] at hLog hOk hGrow hSure hOff hExt ⊢
        refine ⟨⟨hLog, hOk, hGrow, fun s hs => by show ∃ i, nget (M.append _ _).1.now _ = _; rw [a1]; exact h.has s hs, fun _ => ⟨s, k, hl, by show nget (M.append _ _).1.now _ = _; rw [a1]; exact hk1, by unfold Med.file; rw [a2]; exact hk2⟩, hSure, fun ho q hq => ?_⟩, fun hh => absurd hh ha⟩
        have hp := h.opn (hOff ho) q hq
        obtain ⟨i, h1, h2, h3⟩ := hp.file
        have e := hExt _ _ h1 (num_of h.log hp.mem).2.2
        refine ⟨hp.good, hp.mem, i, e.now, h2.mono hp.good (e.bytes i), ?_⟩
        rcases h3 with h3 | h3
        · exact .inl (h3.mono hp.good (e.fast i))
        · exact .inr h3
    | false =>
      rw [Log.append_begin h0 hf] at *
      have hsh := h.shut
      have hsame := shut_same L M
      have hshok := Log.shut_med (L := L) h.ok
      have hshg := shut_grow (L := L) h.ok h.grow
      have hshlog := h.log.shut M
      have hshext : ∀ s i, nget M.now s = some i → Ext s i M (L.shut M).1.2 := fun s i hs => shut_ext h.ok h.grow hs
      have hB : L.begin M (Frm.encode x).1 = if (L.shut M).2 = 0 then (L.shut M).1.1.begin1 (L.shut M).1.2 (Frm.encode x).1 else ((L.shut M).1, Plc.zero, (L.shut M).2) := rfl
      rcases hsh with ⟨b1, b2, b3⟩ | ⟨b1, b2, b3, b4⟩
      · rw [if_pos b1] at hB
        have hb1ext : ∀ s i, nget (L.shut M).1.2.now s = some i → s ≠ ByteArray.empty → Ext s i (L.shut M).1.2 ((L.shut M).1.1.begin1 (L.shut M).1.2 (Frm.encode x).1).1.2 := fun s i hs hse => begin1_ext hshok hshg hs hse _
        have hHas1 : Has (L.shut M).1.1 (L.shut M).1.2 := by
          intro s hs
          rw [hsame.1] at hs
          obtain ⟨i, hi⟩ := h.has s hs
          exact ⟨i, (hshext _ _ hi).now⟩
        obtain ⟨hsl, hsf⟩ := hsame
        generalize (L.shut M).1.1 = L1 at *
        generalize (L.shut M).1.2 = M1 at *
        have hC : ∀ (r : (Log × Med) × Plc × Int), r = L1.begin1 M1 (Frm.encode x).1 → (r.2.2 ≠ 0 ∧ r.1.1 = L1) ∨ (r.2.2 = 0 ∧ r.1.1 = { L1 with l := L1.l ++ [(L1.next, 8 + ((Frm.encode x).1.length : Int))], on := true, fresh := L1.fresh + 1 } ∧ r.2.1 = ⟨L1.next, 8, (Frm.encode x).1.length⟩ ∧
            nget r.1.2.now (name L1.next) = some M1.files.length ∧ (r.1.2.file M1.files.length).now = mag ++ (Frm.encode x).1) := by
          rintro r rfl
          unfold Log.begin1
          split; · exact .inl ⟨(by decide : (16 : Int) ≠ 0), rfl⟩
          split; · rename_i e; exact .inl ⟨e, rfl⟩
          rename_i e1
          simp only [ne_eq, Decidable.not_not] at e1
          obtain ⟨d1, d2, d3, d4⟩ := create_good hshok e1
          split
          · rename_i e2
            obtain ⟨k', a1, a2, a3⟩ := append_good (hshok.create _) e2
            rw [d2] at a1
            cases a1
            refine .inr ⟨rfl, rfl, rfl, ?_, ?_⟩
            · show nget (Med.append _ _ _).1.now _ = _; rw [a2]; exact d2
            · show (Med.file (Med.append _ _ _).1 _).now = _; rw [a3, d3]; rfl
          split
          · left
            refine ⟨?_, rfl⟩
            simp only
            split
            · decide
            · rename_i e3 e4 e5; exact e5
          · rename_i e2 e3
            exact .inl ⟨e2, rfl⟩
        have hC := hC _ rfl
        rw [hB] at hLog hOk hGrow hSure hOff ⊢
        generalize L1.begin1 M1 (Frm.encode x).1 = r at *
        obtain ⟨⟨L2, M2⟩, p2, ee⟩ := r
        simp only at *
        have hPend : ∀ L', (∀ n ∈ L.l.map (·.1), n ∈ L'.l.map (·.1)) → M.off = false → ∀ q ∈ opn, Pend L' M2 q.1 q.2 := fun L' hm ho q hq => by
          have hp := h.opn ho q hq
          obtain ⟨i, h1, h2, h3⟩ := b3 ho q hq
          have e := hb1ext _ _ h1 (num_of h.log hp.mem).2.2
          exact ⟨hp.good, hm _ hp.mem, i, e.now, h3.mono hp.good (e.bytes i), .inl (h2.mono hp.good (e.fast i))⟩
        rcases hC with ⟨c1, c2⟩ | ⟨c1, c2, c3, c4, c5⟩
        · subst c2
          simp only [if_neg c1]
          refine ⟨⟨hLog, hOk, hGrow, fun s hs => ?_, fun ho => (by rw [b2] at ho; cases ho), hSure, fun ho => hPend _ (fun n hn => by rw [hsl]; exact hn) (hOff ho)⟩, fun hh => absurd hh c1⟩
          obtain ⟨i, hi⟩ := hHas1 s hs
          exact ⟨i, (hb1ext _ _ hi (num_of hshlog (List.mem_map.2 ⟨s, hs, rfl⟩)).2.2).now⟩
        · subst c1
          simp only [if_true]
          subst c2
          subst c3
          have hG : GoodE x := ⟨h0, hk⟩
          refine ⟨⟨hLog, hOk, hGrow, fun s hs => ?_, fun _ => ⟨(L1.next, 8 + ((Frm.encode x).1.length : Int)), M1.files.length, by simp, c4, ?_⟩, hSure, fun ho q hq => ?_⟩, fun _ => ⟨rfl, (L1.next, 8 + ((Frm.encode x).1.length : Int)), by simp, rfl⟩⟩
          · rcases List.mem_append.1 hs with hs | hs
            · obtain ⟨i, hi⟩ := hHas1 s hs
              exact ⟨i, (hb1ext _ _ hi (num_of hshlog (List.mem_map.2 ⟨s, hs, rfl⟩)).2.2).now⟩
            · rw [List.mem_singleton.1 hs]; exact ⟨_, c4⟩
          · show 8 + ((Frm.encode x).1.length : Int) = _
            rw [c5, List.length_append]; have : mag.length = 8 := rfl; omega
          · rcases List.mem_append.1 hq with hq | hq
            · refine hPend _ (fun n hn => ?_) (hOff ho) q hq
              simp only [List.map_append]
              exact List.mem_append_left _ (by rw [hsl]; exact hn)
            · rw [List.mem_singleton.1 hq]
              refine ⟨hG, by simp, M1.files.length, c4, ⟨8, rfl, rfl, ?_⟩, .inr ⟨rfl, (L1.next, 8 + ((Frm.encode x).1.length : Int)), by simp, rfl⟩⟩
              simp only
              rw [c5]
              exact List.prefix_refl _
      · rw [if_neg b1] at hB
        rw [hB] at hLog hOk hGrow hSure hOff ⊢
        simp only [if_neg b1] at hLog hOk hGrow hSure hOff ⊢
        rw [b2] at hLog hSure ⊢
        refine ⟨⟨hLog, hOk, hGrow, fun s hs => by rw [b3]; exact h.has s hs, fun hon => ?_, hSure, fun ho q hq => ?_⟩, fun hh => absurd hh b1⟩
        · obtain ⟨s, k, q1, q2, q3⟩ := h.tail hon
          exact ⟨s, k, q1, by rw [b3]; exact q2, by unfold Med.file; rw [b4]; exact q3⟩
        · have hp := h.opn (hOff ho) q hq
          obtain ⟨i, h1, h2, h3⟩ := hp.file
          have e := hshext _ _ h1
          refine ⟨hp.good, hp.mem, i, e.now, h2.mono hp.good (e.bytes i), ?_⟩
          rcases h3 with h3 | h3
          · exact .inl (h3.mono hp.good (e.fast i))
          · exact .inr h3
  · rw [Log.append_bad h0] at *
    simp only [if_neg h0] at *
    exact ⟨⟨hLog, hOk, hGrow, h.has, h.tail, hSure, h.opn⟩, fun hh => absurd hh h0⟩
end
end Go.Seg
/- Plain: commits, removals, rollbacks of logs; what was committed stays. No walk here. -/
namespace Go.Seg
open Go.Med
set_option linter.unusedVariables false
open Go.Frm (encs GoodE)
section
variable {K K' : Nat} {M M' : Med} {L : Log} {s t : ByteArray} {i : Nat} {sure opn : List (Plc × Frm.Ent)}
theorem St.mono (h : St K L M sure opn) (hk : K ≤ K') : St K' L M sure opn := ⟨h.log, h.ok.mono hk, h.grow, h.has, h.tail, h.sure, h.opn⟩
theorem St.sub {sure' opn' : List (Plc × Frm.Ent)} (h : St K L M sure opn) (h1 : ∀ q ∈ sure', q ∈ sure) (h2 : ∀ q ∈ opn', q ∈ opn) : St K L M sure' opn' :=
  ⟨h.log, h.ok, h.grow, h.has, h.tail, fun q hq => h.sure q (h1 q hq), fun ho q hq => h.opn ho q (h2 q hq)⟩
/-- The log is the same; the medium only grows. -/
theorem St.ext (h : St K L M sure opn) (ok' : M'.Ok K') (g' : Grow M') (e : ∀ s i, nget M.now s = some i → s ≠ ByteArray.empty → Ext s i M M')
    (ht : L.on = true → ∃ s i, L.l.getLast? = some s ∧ nget M'.now (name s.1) = some i ∧ s.2 = ((M'.file i).now.length : Int)) (ho : M'.off = false → M.off = false) : St K' L M' sure opn := by
  refine ⟨h.log, ok', g', has_ext h.log h.has e fun s hs => .inl hs, ht, fun q hq => ?_, fun hoff q hq => ?_⟩
  · have hq' := h.sure q hq
    exact hq'.ext hq'.mem fun i hi => e _ _ hi (num_of h.log (nf_mem hq'.mem)).2.2
  · have hp := h.opn (ho hoff) q hq
    obtain ⟨i, h1, h2, h3⟩ := hp.file
    have e' := e _ _ h1 (num_of h.log hp.mem).2.2
    refine ⟨hp.good, hp.mem, i, e'.now, h2.mono hp.good (e'.bytes i), ?_⟩
    rcases h3 with h3 | h3
    · exact .inl (h3.mono hp.good (e'.fast i))
    · exact .inr h3
theorem tail_like (h : St K L M sure opn) (e1 : M'.now = M.now) (e2 : M'.files = M.files) : L.on = true → ∃ s i, L.l.getLast? = some s ∧ nget M'.now (name s.1) = some i ∧ s.2 = ((M'.file i).now.length : Int) := fun hon => by
  obtain ⟨s, k, q1, q2, q3⟩ := h.tail hon
  exact ⟨s, k, q1, by rw [e1]; exact q2, by unfold Med.file; rw [e2]; exact q3⟩
theorem St.arm (h : St K L M sure opn) (n : Int) (hn : n ≤ 9223372036854775807) : St K L (M.arm n).1 sure opn :=
  h.ext (h.ok.arm n hn) (h.grow.arm n) (fun s i hs _ => arm_ext hs n) (tail_like h (arm_now M n).1 (arm_now M n).2) (fun ho => by rw [arm_off] at ho; exact ho)
theorem step_off (h : M.step.2 = false) : M.step.1.off = true := by
  unfold Med.step at h ⊢
  split at h
  · rename_i e; rw [if_pos e]
    split at h
    · rename_i e2; rw [if_pos e2]
    · cases h
  · cases h
theorem off_step (h : M.step.1.off = false) : M.off = false := by
  unfold Med.step at h
  split at h
  · split at h
    · cases h
    · exact h
  · exact h
theorem sync_off' (h : (M.sync t).1.off = false) : M.off = false := by
  cases hm : M.off with
  | false => rfl
  | true => rw [off_sync hm, hm] at h; cases h
theorem syncDir_off (h : M.syncDir.1.off = false) : M.off = false := by
  unfold Med.syncDir at h
  split at h
  · exact h
  split at h
  · exact off_step h
  · exact off_step h
theorem remove_off' (h : (M.remove t).1.off = false) : M.off = false := by
  cases hm : M.off with
  | false => rfl
  | true => rw [off_remove hm, hm] at h; cases h
theorem syncDir_same (M : Med) : M.syncDir.1.now = M.now ∧ M.syncDir.1.files = M.files := by
  obtain ⟨_, sf, sn, sfi, sw⟩ := M.step_same
  unfold Med.syncDir
  split; · exact ⟨rfl, rfl⟩
  split
  · exact ⟨sn, sfi⟩
  · exact ⟨sn, sfi⟩
theorem remove_fail (hi : nget M.now t = some i) (h : (M.remove t).2 ≠ 0) : (M.remove t).1.off = true ∧ (M.remove t).1.now = M.now ∧ (M.remove t).1.files = M.files := by
  obtain ⟨_, sf, sn, sfi, sw⟩ := M.step_same
  unfold Med.remove at h ⊢
  split at h
  · rename_i e; rw [if_pos e]; exact ⟨e, rfl, rfl⟩
  rename_i e
  rw [if_neg e]
  rw [hi] at h ⊢
  simp only at h ⊢
  split at h
  · rename_i e2; rw [if_pos e2]; exact ⟨step_off e2, sn, sfi⟩
  · exact absurd rfl h
theorem remove_same (M : Med) (t : ByteArray) : (M.remove t).1.files = M.files := by
  obtain ⟨_, sf, sn, sfi, sw⟩ := M.step_same
  unfold Med.remove
  split; · rfl
  split; · rfl
  split
  · exact sfi
  · exact sfi
/-- A commit. -/
theorem St.commit (h : St K L M sure opn) : St (K + 5) (L.commit M).1.1 (L.commit M).1.2 (if (L.commit M).2.2 = 0 then sure ++ opn else sure) (if (L.commit M).2.2 = 0 then [] else opn) := by
  obtain ⟨h1, hlast⟩ := h.append comEnt rfl
  have hlog := h.log.commit M
  rw [Log.commit_eq] at hlog ⊢
  generalize L.append M comEnt = r at *
  obtain ⟨⟨L1, M1⟩, p1, e1⟩ := r
  simp only at h1 hlast hlog ⊢
  by_cases he : e1 = 0
  · subst he
    simp only [if_true] at h1
    obtain ⟨hon, s, hs, hs1⟩ := hlast rfl
    have h2 : St (K + 4) L1 M1 sure opn := h1.sub (fun q hq => hq) (fun q hq => List.mem_append_left _ hq)
    obtain ⟨s', k, hs', hk, hsz⟩ := h2.tail hon
    rw [hs] at hs'
    cases hs'
    rw [hs1] at hk
    simp only [ne_eq, not_true_eq_false, if_false] at hlog ⊢
    have ok2 := h2.ok.sync (name p1.seg)
    have g2 := h2.grow.sync h2.ok (name p1.seg)
    have e2 : ∀ s i, nget M1.now s = some i → s ≠ ByteArray.empty → Ext s i M1 (M1.sync (name p1.seg)).1 := fun s i hs _ => sync_ext h2.ok h2.grow hs _
    by_cases hsy : (M1.sync (name p1.seg)).2 = 0
    · obtain ⟨n1, n2, n3⟩ := sync_good h2.ok hsy hk
      have h3 : St (K + 5) L1 (M1.sync (name p1.seg)).1 sure opn := h2.ext ok2 g2 e2 (fun _ => ⟨s, k, hs, by rw [n1, hs1]; exact hk, by rw [n3]; exact hsz⟩) sync_off'
      have hoff1 : M1.off = false := by
        cases hm : M1.off with
        | false => rfl
        | true => rw [off_sync hm] at hsy; cases hsy
      have hfast : ∀ q ∈ opn, ∃ i, nget (M1.sync (name p1.seg)).1.now (name q.1.seg) = some i ∧ Slice q.1 q.2 ((M1.sync (name p1.seg)).1.file i).fast ∧ GoodE q.2 ∧ q.1.seg ∈ L1.l.map (·.1) := by
        intro q hq
        have hp := h2.opn hoff1 q hq
        obtain ⟨i, i1, i2, i3⟩ := hp.file
        have e := e2 _ _ i1 (num_of h2.log hp.mem).2.2
        refine ⟨i, e.now, ?_, hp.good, hp.mem⟩
        rcases i3 with i3 | ⟨_, s2, hs2, e3⟩
        · exact i3.mono hp.good (e.fast i)
        · rw [hs] at hs2
          cases hs2
          rw [← e3, hs1, hk] at i1
          cases i1
          rw [n2]; exact i2
      simp only [hsy, not_true_eq_false, if_false] at hlog ⊢
      generalize (M1.sync (name p1.seg)).1 = M2 at *
      have ok3 := h3.ok.syncDir
      have g3 := h3.grow.syncDir
      have e3 : ∀ s i, nget M2.now s = some i → s ≠ ByteArray.empty → Ext s i M2 M2.syncDir.1 := fun s i hs _ => syncDir_ext hs
      by_cases hd : M2.syncDir.2 = 0
      · simp only [hd, not_true_eq_false, if_false, if_true] at hlog ⊢
        have hnf : ∀ n ∈ L1.l.map (·.1), n ∈ nf ({ L1 with on := false, fresh := 0 } : Log) := fun n hn => by
          unfold nf
          rw [List.take_of_length_le (by rw [List.length_map]; exact Nat.le_refl _)]
          exact hn
        refine ⟨hlog, ok3, g3, has_ext h3.log h3.has e3 fun s hs => .inl hs, fun hh => (by cases hh), fun q hq => ?_, fun _ q hq => by cases hq⟩
        rcases List.mem_append.1 hq with hq | hq
        · have hq' := h3.sure q hq
          exact hq'.ext (hnf _ (nf_mem hq'.mem)) fun i hi => e3 _ _ hi (num_of h3.log (nf_mem hq'.mem)).2.2
        · obtain ⟨i, i1, i2, i3, i4⟩ := hfast q hq
          have e := e3 _ _ i1 (num_of h3.log i4).2.2
          exact ⟨i3, hnf _ i4, i, e.now, syncDir_dur i1 hd, i2.mono i3 (e.fast i)⟩
      · simp only [hd, not_false_eq_true, if_true, if_false] at hlog ⊢
        exact h3.ext ok3 g3 e3 (tail_like h3 (syncDir_same M2).1 (syncDir_same M2).2) syncDir_off
    · simp only [hsy, not_false_eq_true, if_true, if_false] at hlog ⊢
      exact h2.ext ok2 g2 e2 (tail_like h2 (sync_fail hsy).1 (sync_fail hsy).2) sync_off'
  · simp only [ne_eq, he, not_false_eq_true, if_true, if_false] at h1 hlog ⊢
    exact h1.mono (by omega)
theorem rise_inj (hL : L.Ok) {a b : Nat} {x : Int} (ha : (L.l.map (·.1))[a]? = some x) (hb : (L.l.map (·.1))[b]? = some x) : a = b := by
  obtain ⟨h1, e1⟩ := List.getElem?_eq_some_iff.1 ha
  obtain ⟨h2, e2⟩ := List.getElem?_eq_some_iff.1 hb
  have hp := List.pairwise_iff_getElem.1 hL.rise
  rcases Nat.lt_trichotomy a b with q | q | q
  · have := hp a b h1 h2 q; omega
  · exact q
  · have := hp b a h2 h1 q; omega
theorem at_num {n : Int} {k : Nat} (h : L.at n = some k) : (L.l.map (·.1))[k]? = some n := by
  obtain ⟨h1, s, h2, h3⟩ := Log.at_lt h
  rw [List.getElem?_map, h2, ← h3]; rfl
theorem erase_num {n : Int} {k : Nat} (hL : L.Ok) (h : L.at n = some k) {s : Int × Int} (hs : s ∈ L.l.eraseIdx k) : s ∈ L.l ∧ s.1 ≠ n := by
  refine ⟨(List.eraseIdx_sublist _ _).mem hs, fun e => ?_⟩
  obtain ⟨j, hj⟩ := List.getElem?_of_mem hs
  rw [List.getElem?_eraseIdx] at hj
  have hn := at_num h
  split at hj
  · rename_i hlt
    have : (L.l.map (·.1))[j]? = some n := by rw [List.getElem?_map, hj, ← e]; rfl
    have := rise_inj hL this hn
    omega
  · rename_i hlt
    have : (L.l.map (·.1))[j + 1]? = some n := by rw [List.getElem?_map, hj, ← e]; rfl
    have := rise_inj hL this hn
    omega
theorem nf_without {n : Int} {k : Nat} (hL : L.Ok) (h : L.at n = some k) {x : Int} (hx : x ∈ nf L) (hne : x ≠ n) : x ∈ nf (L.without k) := by
  have hkl := (Log.at_lt h).1
  have hn := at_num h
  have hf := hL.fresh
  obtain ⟨j, hj⟩ := List.getElem?_of_mem hx
  unfold nf at hj
  rw [List.getElem?_take] at hj
  split at hj
  · rename_i hjt
    have hjk : j ≠ k := fun e => by rw [e, hn] at hj; exact hne (Option.some.inj hj).symm
    have hlen : (L.l.eraseIdx k).length = L.l.length - 1 := List.length_eraseIdx_of_lt hkl
    obtain ⟨j', hj1, hj2⟩ : ∃ j', ((L.without k).l.map (·.1))[j']? = some x ∧ (j < k ∧ j' = j ∨ k < j ∧ j' = j - 1) := by
      rcases Nat.lt_or_ge j k with q | q
      · refine ⟨j, ?_, .inl ⟨q, rfl⟩⟩
        show ((L.l.eraseIdx k).map (·.1))[j]? = some x
        rw [List.getElem?_map, List.getElem?_eraseIdx, if_pos q, ← List.getElem?_map]; exact hj
      · refine ⟨j - 1, ?_, .inr ⟨by omega, rfl⟩⟩
        show ((L.l.eraseIdx k).map (·.1))[j - 1]? = some x
        rw [List.getElem?_map, List.getElem?_eraseIdx, if_neg (by omega), show j - 1 + 1 = j by omega, ← List.getElem?_map]; exact hj
    unfold nf
    refine List.mem_of_getElem? (i := j') ?_
    rw [List.getElem?_take, if_pos]
    · exact hj1
    · show j' < (L.l.eraseIdx k).length - (if (L.l.length : Int) - L.fresh ≤ k then L.fresh - 1 else L.fresh).toNat
      rw [hlen]
      split <;> omega
  · cases hj
theorem last_erase {α : Type} (l : List α) (k : Nat) (h : k + 1 < l.length) : (l.eraseIdx k).getLast? = l.getLast? := by
  rw [List.getLast?_eq_getElem?, List.getLast?_eq_getElem?, List.length_eraseIdx_of_lt (by omega), List.getElem?_eraseIdx, if_neg (by omega)]
  congr 1
  omega
/-- A removal, of what no kept entry stands in. -/
theorem St.remove (h : St K L M sure opn) (n : Int) (hs : ∀ q ∈ sure, q.1.seg ≠ n) (ho : ∀ q ∈ opn, q.1.seg ≠ n) : St (K + 1) (L.remove M n).1.1 (L.remove M n).1.2 sure opn := by
  have hlog := h.log.remove M n
  unfold Log.remove at hlog ⊢
  cases hat : L.at n with
  | none => exact h.mono (Nat.le_succ K)
  | some k =>
    rw [hat] at hlog
    simp only at hlog ⊢
    obtain ⟨hkl, sk, hsk, hskn⟩ := Log.at_lt hat
    have hnn : 0 ≤ n ∧ n < 1048576 := by have := h.log.nums sk (List.mem_of_getElem? hsk); omega
    obtain ⟨i0, hi0⟩ := h.has sk (List.mem_of_getElem? hsk)
    rw [hskn] at hi0
    have hne : ∀ x : Int, x ∈ L.l.map (·.1) → x ≠ n → name n ≠ name x := fun x hx hxn e => by
      have := num_of h.log hx
      exact hxn (name_inj this.1 this.2.1 hnn.1 hnn.2 e.symm)
    have okr := h.ok.remove (name n)
    have gr := h.grow.remove (name n)
    by_cases he : (M.remove (name n)).2 = 0
    · simp only [he, if_true] at hlog ⊢
      have ext : ∀ x : Int, x ∈ L.l.map (·.1) → x ≠ n → ∀ i, nget M.now (name x) = some i → Ext (name x) i M (M.remove (name n)).1 := fun x hx hxn i hi => remove_ext hi (num_of h.log hx).2.2 (hne x hx hxn)
      refine ⟨hlog, okr, gr, fun s hs' => ?_, fun hon => ?_, fun q hq => ?_, fun hoff q hq => ?_⟩
      · obtain ⟨m1, m2⟩ := erase_num h.log hat hs'
        obtain ⟨i, hi⟩ := h.has s m1
        exact ⟨i, (ext s.1 (List.mem_map.2 ⟨s, m1, rfl⟩) m2 i hi).now⟩
      · have hon' : (if k + 1 = L.l.length then false else L.on) = true := hon
        split at hon'
        · cases hon'
        rename_i hk1
        obtain ⟨s, j, q1, q2, q3⟩ := h.tail hon'
        have hle := last_erase L.l k (by omega)
        have hs2 : (L.l.eraseIdx k).getLast? = some s := by rw [hle]; exact q1
        obtain ⟨m1, m2⟩ := erase_num h.log hat (List.mem_of_getLast? hs2)
        refine ⟨s, j, hs2, (ext s.1 (List.mem_map.2 ⟨s, m1, rfl⟩) m2 j q2).now, ?_⟩
        unfold Med.file
        rw [remove_same]; exact q3
      · have hq' := h.sure q hq
        exact hq'.ext (nf_without h.log hat hq'.mem (hs q hq)) fun i hi => ext _ (nf_mem hq'.mem) (hs q hq) i hi
      · have hp := h.opn (remove_off' hoff) q hq
        obtain ⟨i, i1, i2, i3⟩ := hp.file
        have e := ext _ hp.mem (ho q hq) i i1
        obtain ⟨s, hs1, hs2⟩ := List.mem_map.1 hp.mem
        have hsm : s ∈ L.l.eraseIdx k := by
          obtain ⟨j, hj⟩ := List.getElem?_of_mem hs1
          have hjk : j ≠ k := fun e => by
            rw [e, hsk] at hj
            cases hj
            exact ho q hq (by rw [← hs2]; exact hskn)
          rcases Nat.lt_or_ge j k with q' | q'
          · exact List.mem_of_getElem? (i := j) (by rw [List.getElem?_eraseIdx, if_pos q']; exact hj)
          · exact List.mem_of_getElem? (i := j - 1) (by rw [List.getElem?_eraseIdx, if_neg (by omega), show j - 1 + 1 = j by omega]; exact hj)
        refine ⟨hp.good, List.mem_map.2 ⟨s, hsm, hs2⟩, i, e.now, i2.mono hp.good (e.bytes i), ?_⟩
        rcases i3 with i3 | ⟨c1, s', c2, c3⟩
        · exact .inl (i3.mono hp.good (e.fast i))
        · right
          have hk1 : k + 1 ≠ L.l.length := fun e => by
            rw [List.getLast?_eq_getElem?, ← e, Nat.add_sub_cancel, hsk] at c2
            cases c2
            exact ho q hq (by rw [← c3]; exact hskn)
          refine ⟨?_, s', ?_, c3⟩
          · show (if k + 1 = L.l.length then false else L.on) = true
            rw [if_neg hk1]; exact c1
          · show (L.l.eraseIdx k).getLast? = some s'
            rw [last_erase _ _ (by omega)]; exact c2
    · simp only [he, if_false] at hlog ⊢
      obtain ⟨f1, f2, f3⟩ := remove_fail hi0 he
      refine h.ext okr gr (fun s i hs' hse => ?_) (tail_like h f2 f3) remove_off'
      unfold Med.remove at he ⊢
      split at he
      · rename_i e; rw [if_pos e]; exact Ext.refl hs'
      rename_i e
      rw [if_neg e, hi0] at *
      simp only at he ⊢
      split at he
      · rename_i e2; rw [if_pos e2]; exact step_ext hs'
      · exact absurd rfl he
theorem nf_last (hL : L.Ok) {s : Int × Int} (hs : L.l.getLast? = some s) (hf : 1 ≤ L.fresh) : s.1 ∉ nf L := by
  intro hm
  obtain ⟨j, hj⟩ := List.getElem?_of_mem hm
  unfold nf at hj
  rw [List.getElem?_take] at hj
  split at hj
  · rename_i hlt
    rw [List.getLast?_eq_getElem?] at hs
    have h2 : (L.l.map (·.1))[L.l.length - 1]? = some s.1 := by rw [List.getElem?_map, hs]; rfl
    have := rise_inj hL hj h2
    have := hL.fresh
    omega
  · cases hj
/-- A rollback, round for round. -/
theorem St.back : ∀ (k : Nat) {K : Nat} {L : Log} {M : Med}, St K L M sure [] → L.fresh = k → St (K + k) (L.back k M).1.1 (L.back k M).1.2 sure [] ∧ ((L.back k M).2 ≠ 0 → (L.back k M).1.2.off = true)
  | 0, K, L, M, h, hf => ⟨⟨h.log.shutOff, h.ok, h.grow, h.has, fun hh => (by cases hh), fun q hq => (h.sure q hq).ext (L' := { L with on := false }) (h.sure q hq).mem (fun i hi => Ext.refl hi), fun _ q hq => by cases hq⟩, fun hh => absurd rfl hh⟩
  | k + 1, K, L, M, h, hf => by
    have hfr := h.log.fresh
    unfold Log.back
    cases hl : L.l.getLast? with
    | none =>
      exfalso
      have := List.getLast?_eq_none_iff.1 hl
      rw [this] at hfr
      simp only [List.length_nil] at hfr
      omega
    | some s =>
      simp only
      have hat := h.log.at_last hl
      have hrm := h.remove s.1 (fun q hq e => nf_last h.log hl (by omega) (by rw [← e]; exact (h.sure q hq).mem)) (fun q hq => by cases hq)
      obtain ⟨i0, hi0⟩ := h.has s (List.mem_of_getLast? hl)
      by_cases he : (L.remove M s.1).2 = 0
      · rw [if_pos he]
        have hfr2 : (L.remove M s.1).1.1.fresh = k := by
          unfold Log.remove at he ⊢
          rw [hat] at he ⊢
          simp only at he ⊢
          split at he
          · rename_i e; rw [if_pos e]
            show (if (L.l.length : Int) - L.fresh ≤ ((L.l.length - 1 : Nat) : Int) then L.fresh - 1 else L.fresh) = k
            rw [if_pos (by omega)]; omega
          · rename_i e; exact absurd he e
        have := St.back k hrm hfr2
        rw [show K + (k + 1) = K + 1 + k by omega]
        exact this
      · rw [if_neg he]
        refine ⟨hrm.mono (by omega), fun _ => ?_⟩
        unfold Log.remove at he ⊢
        rw [hat] at he ⊢
        simp only at he ⊢
        split at he
        · exact absurd rfl he
        · rename_i e; rw [if_neg e]; exact (remove_fail hi0 e).1
theorem St.rollback (h : St K L M sure opn) : St (K + 1048576) (L.rollback M).1.1 (L.rollback M).1.2 sure (if (L.rollback M).2 = 0 then [] else opn) := by
  have h0 := h.sub (sure' := sure) (opn' := []) (fun q hq => hq) (fun q hq => by cases hq)
  have hf := h.log.fresh
  have hlen := h.log.len
  obtain ⟨h1, h2⟩ := h0.back L.fresh.toNat (by omega)
  have h3 := h1.mono (K' := K + 1048576) (by omega)
  unfold Log.rollback
  by_cases he : (L.back L.fresh.toNat M).2 = 0
  · rw [if_pos he]; exact h3
  · rw [if_neg he]
    exact ⟨h3.log, h3.ok, h3.grow, h3.has, h3.tail, h3.sure, fun ho => by rw [h2 he] at ho; cases ho⟩
end
end Go.Seg
/- Plain: a log opened again behind a crash. No walk here. -/
namespace Go.Seg
open Go.Med
set_option linter.unusedVariables false
open Go.Frm (encs GoodE)
section
variable {K K' : Nat} {M M' : Med} {L : Log} {s t : ByteArray} {i : Nat} {sure opn : List (Plc × Frm.Ent)}
/-! ### the names rise as their numbers do -/
theorem app_lt : ∀ (x y u v : Bs), x.length = y.length → x < y → x ++ u < y ++ v
  | [], [], _, _, _, h => absurd h (List.not_lt_nil [])
  | [], _ :: _, _, _, h, _ => by simp at h
  | _ :: _, [], _, _, h, _ => by simp at h
  | a :: x, b :: y, u, v, hl, h => by
    rw [List.cons_append, List.cons_append, List.cons_lt_cons_iff]
    rcases List.cons_lt_cons_iff.1 h with h1 | ⟨e, h1⟩
    · exact .inl h1
    · exact .inr ⟨e, app_lt x y u v (by simpa using hl) h1⟩
theorem app_lt_r : ∀ (x u v : Bs), u < v → x ++ u < x ++ v
  | [], _, _, h => h
  | a :: x, u, v, h => by
    rw [List.cons_append, List.cons_append, List.cons_lt_cons_iff]
    exact .inr ⟨rfl, app_lt_r x u v h⟩
theorem digs_lt : ∀ (k a b : Nat), a < b → b < 10 ^ k → digs a k < digs b k
  | 0, a, b, h, hb => by simp at hb; omega
  | k + 1, a, b, h, hb => by
    show digs (a / 10) k ++ [UInt8.ofNat (48 + a % 10)] < digs (b / 10) k ++ [UInt8.ofNat (48 + b % 10)]
    have hb' : b / 10 < 10 ^ k := by rw [Nat.div_lt_iff_lt_mul (by omega)]; rw [Nat.pow_succ] at hb; exact hb
    rcases Nat.lt_or_ge (a / 10) (b / 10) with q | q
    · exact app_lt _ _ _ _ (by rw [digs_len, digs_len]) (digs_lt k _ _ q hb')
    · have e : a / 10 = b / 10 := by omega
      rw [e]
      refine app_lt_r _ _ _ ?_
      rw [List.cons_lt_cons_iff]
      left
      rw [UInt8.lt_iff_toNat_lt, UInt8.toNat_ofNat', UInt8.toNat_ofNat']
      omega
theorem name_lt {a b : Int} (h1 : 0 ≤ a) (h2 : a < b) (h3 : b < 1048576) : lt (name a) (name b) = true := by
  unfold name
  rw [if_neg (by omega), if_neg (by omega)]
  unfold lt
  rw [decide_eq_true_eq]
  show lead ++ digs a.toNat 8 < lead ++ digs b.toNat 8
  exact app_lt_r _ _ _ (digs_lt 8 _ _ (by omega) (by omega))
theorem number_is {s : ByteArray} (h : (number s).2 = true) : 0 ≤ (number s).1 ∧ (number s).1 < 1048576 ∧ name (number s).1 = s := by
  unfold number at h ⊢
  dsimp only at h ⊢
  split at h
  · rename_i hc
    rw [if_pos hc]
    obtain ⟨c1, c2, c3, c4⟩ := hc
    refine ⟨by simp only; omega, by simp only; omega, ?_⟩
    simp only
    unfold name
    rw [if_neg (by omega)]
    have hl : (s.data.toList.drop 4).length = 8 := by
      have : s.data.toList.length = 12 := by first | exact c1 | (rw [Array.length_toList]; exact c1)
      rw [List.length_drop, this]
    have hd := digs_val (s.data.toList.drop 4) c3
    rw [hl] at hd
    have e : lead ++ digs (Int.toNat ((val (s.data.toList.drop 4) : Nat) : Int)) 8 = s.data.toList := by
      rw [Int.toNat_natCast, hd, ← c2, List.take_append_drop]
    rw [e]
  · cases h
theorem found_mem {l : List ByteArray} {x : Int × Int} (h : x ∈ found M l) : ∃ t ∈ l, (number t).2 = true ∧ x = ((number t).1, (M.size t).1) := by
  unfold found at h
  obtain ⟨t, ht, he⟩ := List.mem_filterMap.1 h
  split at he
  · rename_i hn; exact ⟨t, ht, hn, (Option.some.inj he).symm⟩
  · cases he
theorem list_now (h : t ∈ M.list) : ∃ i, nget M.now t = some i := by
  unfold Med.list at h
  split at h
  · cases h
  · obtain ⟨p, hp, rfl⟩ := List.mem_map.1 h
    cases hg : nget M.now p.1 with
    | none => exact absurd rfl (nget_none hg p hp)
    | some i => exact ⟨i, rfl⟩
theorem found_rise : ∀ (l : List ByteArray), l.Pairwise (fun a b => lt a b = true) → ((found M l).map (·.1)).Pairwise (· < ·)
  | [], _ => List.Pairwise.nil
  | t :: l, h => by
    obtain ⟨h1, h2⟩ := List.pairwise_cons.1 h
    have ih := found_rise l h2
    by_cases hn : (number t).2 = true
    · have e : found M (t :: l) = ((number t).1, (M.size t).1) :: found M l := by unfold found; rw [List.filterMap_cons]; simp [hn]
      rw [e, List.map_cons, List.pairwise_cons]
      refine ⟨fun x hx => ?_, ih⟩
      obtain ⟨y, hy, rfl⟩ := List.mem_map.1 hx
      obtain ⟨u, hu, hun, rfl⟩ := found_mem hy
      have hlt := h1 u hu
      obtain ⟨a1, a2, a3⟩ := number_is hn
      obtain ⟨b1, b2, b3⟩ := number_is hun
      rcases Int.lt_or_le (number t).1 (number u).1 with q | q
      · exact q
      · exfalso
        rcases Int.lt_or_eq_of_le q with q | q
        · have h3 := name_lt b1 q a2
          rw [a3, b3] at h3
          have := lt_trans hlt h3
          rw [lt_irrefl] at this; cases this
        · rw [← a3, ← q, b3, lt_irrefl] at hlt; cases hlt
    · have e : found M (t :: l) = found M l := by unfold found; rw [List.filterMap_cons]; simp [hn]
      rw [e]; exact ih
theorem fresh_ok (ok : M.Ok K) (limit : Int) (h1 : 128 ≤ limit) (h2 : limit ≤ 1048576) : (fresh M limit).Ok := by
  refine ⟨⟨h1, h2⟩, ?_, fun x hx => ?_, fun x hx => ?_, ⟨Int.le_refl _, by simp [fresh]⟩, fun hh => by cases hh⟩
  · refine found_rise M.list ?_
    unfold Med.list
    split
    · exact List.Pairwise.nil
    · rw [List.pairwise_map]; exact ok.nowOk.srt
  · obtain ⟨t, _, hn, rfl⟩ := found_mem hx
    have := number_is hn
    exact ⟨this.1, this.2.1⟩
  · obtain ⟨t, _, hn, rfl⟩ := found_mem hx
    unfold Med.size
    split
    · simp
    split
    · simp
    · have := (ok.file ‹Nat›).now_len
      simp only
      omega
theorem fresh_has (M : Med) (limit : Int) : Has (fresh M limit) M := fun x hx => by
  obtain ⟨t, ht, hn, rfl⟩ := found_mem hx
  simp only
  rw [(number_is hn).2.2]
  exact list_now ht
theorem fresh_mem {n lim : Int} (hoff : M.off = false) (h1 : 0 ≤ n) (h2 : n < 1048576) (hi : nget M.now (name n) = some i) : n ∈ nf (fresh M lim) := by
  have hl : name n ∈ M.list := by
    unfold Med.list
    rw [hoff]
    exact List.mem_map.2 ⟨_, nget_mem hi, rfl⟩
  unfold nf fresh
  simp only
  rw [List.take_of_length_le (by rw [List.length_map]; simp)]
  refine List.mem_map.2 ⟨(n, (M.size (name n)).1), ?_, rfl⟩
  unfold found
  refine List.mem_filterMap.2 ⟨name n, hl, ?_⟩
  rw [number_name n h1 h2]
  rfl
theorem at_mem (hL : L.Ok) {n : Int} (h : n ∈ L.l.map (·.1)) : ∃ k, L.at n = some k := by
  obtain ⟨s, hs, rfl⟩ := List.mem_map.1 h
  cases hat : L.at s.1 with
  | some k => exact ⟨k, rfl⟩
  | none =>
    exfalso
    unfold Log.at at hat
    rw [List.findIdx?_eq_none_iff] at hat
    have := hat s hs
    simp at this
/-- What stands at a place is read there. -/
theorem sure_read (hL : L.Ok) (hoff : M.off = false) {p : Plc} {x : Frm.Ent} (hg : GoodE x) (hm : p.seg ∈ L.l.map (·.1)) (hi : nget M.now (name p.seg) = some i) (hsl : Slice p x (M.file i).now) : L.read M p = (x, 0) := by
  obtain ⟨k, hk⟩ := at_mem hL hm
  obtain ⟨a, h1, h2, h3⟩ := hsl
  have hlen := h3.length_le
  rw [List.length_drop] at hlen
  have hpos := Frm.encs_pos hg
  have hrd : M.read (name p.seg) p.at_ p.size = ((Frm.encode x).1, 0) := by
    unfold Med.read
    rw [hoff, hi, h1, h2]
    simp only [Bool.false_eq_true, if_false]
    rw [if_neg (by omega), if_neg (by omega)]
    have e : (((M.file i).now.drop a).take (Frm.encode x).1.length) = (Frm.encode x).1 := (List.prefix_iff_eq_take.1 h3).symm
    simp only [Int.toNat_natCast]
    rw [e]
  have hre := Frm.read_encode hg.1 hg.2 []
  rw [List.append_nil] at hre
  unfold Log.read
  rw [hk]
  simp only [hrd, hre]
  rw [if_neg (by decide), if_neg (by decide), if_neg (by simp)]
/-- Behind a crash. -/
theorem St.crash (h : St K L M sure opn) (l : List Int) (limit : Int) (h1 : 128 ≤ limit) (h2 : limit ≤ 1048576) :
    St K (fresh (M.crash l) limit) (M.crash l) sure [] ∧ (∀ q ∈ sure, (fresh (M.crash l) limit).read (M.crash l) q.1 = (q.2, 0)) ∧ alive (M.crash l) = 0 := by
  have ok' := h.ok.crash l
  have hoff : (M.crash l).off = false := rfl
  have hlog := fresh_ok ok' limit h1 h2
  have hS : ∀ q ∈ sure, Sure (fresh (M.crash l) limit) (M.crash l) q.1 q.2 ∧ ∃ i, nget (M.crash l).now (name q.1.seg) = some i ∧ Slice q.1 q.2 ((M.crash l).file i).now := fun q hq => by
    have hs := h.sure q hq
    obtain ⟨i, i1, i2, i3⟩ := hs.file
    have hn := num_of h.log (nf_mem hs.mem)
    obtain ⟨c1, c2, c3⟩ := crash_file h.ok h.grow l i
    have hnow : nget (M.crash l).now (name q.1.seg) = some i := i2.last _
    exact ⟨⟨hs.good, fresh_mem hoff hn.1 hn.2.1 hnow, i, hnow, ⟨i2.last _, fun w hw => by cases hw⟩, i3.mono hs.good c1⟩, i, hnow, i3.mono hs.good c2⟩
  refine ⟨⟨hlog, ok', fun j => (crash_file h.ok h.grow l j).2.2, fresh_has _ _, fun hh => (by cases hh), fun q hq => (hS q hq).1, fun _ q hq => by cases hq⟩, fun q hq => ?_, ?_⟩
  · obtain ⟨a, i, b, c⟩ := hS q hq
    exact sure_read hlog hoff a.good (nf_mem a.mem) b c
  · unfold alive Med.size
    rw [hoff]
    simp only [Bool.false_eq_true, if_false]
    cases hg : nget (M.crash l).now ByteArray.empty with
    | none => rfl
    | some i => exact absurd rfl (ok'.nowOk.ne _ (nget_mem hg))
theorem St.first (lim : Int) (h1 : 128 ≤ lim) (h2 : lim ≤ 1048576) : St 0 ⟨lim, [], false, 0⟩ (new 1048576) [] [] :=
  ⟨⟨⟨h1, h2⟩, List.Pairwise.nil, (fun s hs => by cases hs), (fun s hs => by cases hs), ⟨Int.le_refl _, by simp⟩, fun hh => by cases hh⟩, Med.Ok.new 0 1048576 (by decide),
    (fun j c hc => by simp [Med.file, new, Fil.new] at hc), (fun s hs => by cases hs), (fun hh => by cases hh), (fun q hq => by cases hq), fun _ q hq => by cases hq⟩
end
end Go.Seg
/- hoardlaw14.SegsWhole. -/
namespace Go.Proofs.YtjklhichekmdhaaDoor
open Go Go.Sl Go.Med Go.MapKept Go.RowKit
set_option linter.unusedVariables false
section
variable {w0 w : World} {F R : List HProp} {v bv dv x lv : Value}
/-- How many entries stand ahead of the s-th segment. -/
def offs (C : List (List Frm.Ent)) (s : Nat) : Nat := ((C.take s).flatten).length
/-- An entry that may be read, its slice known. -/
structure EntRd (w0 : World) (F : List HProp) (p : Frm.Ent × Value) : Prop where
  key : p.1.key.length = 32
  rd : Ro w0 F (rdsl 1 p.2 (bys p.1.data))
  sl : ∃ a n c, p.2 = .slice a n c
theorem app_bad {L : Seg.Log} {M : Med} {x : Frm.Ent} (h : ¬ (Frm.encode x).2 = 0) : L.append M x = ((L, M), Seg.Plc.zero, (Frm.encode x).2) := Seg.Log.append_bad h
theorem ents_flat (al : List (Frm.Ent × Value)) (e : Frm.Ent) (a : Option Addr) (n c : Nat) : entsL al ++ (entA e (.slice a n c)).toList = entsL (al ++ [(e, .slice a n c)]) := by
  rw [entsL_app, entsL_one]
set_option maxRecDepth 20000 in
set_option maxHeartbeats 64000000 in
theorem segs_whole_c (limit : Int) (ds : List SD) (hr : Ro w0 F (rdsl 40 lv (sdsL ds))) (hds : ∀ d ∈ ds, SDRo w0 F d) (hH : Ro w0 F Half) (h : Sat w0 w F) :
    Calls Tryd.prog 4 #[.int .i64 limit, lv] w (Rtn fun v w' => v = .bool true ∧ Sat w0 w' F) := by
  have HH := Lib.hid hH; have Hr := Lib.hid hr; have Hds := Lib.hid hds
  clear hH hr hds
  go_enter Tryd.func4, Tryd.ntmps4
  go_wp2_with fail
  refine (fewD_c ds 40 (by decide) Hr.out Hds.out h).mono ?_
  rintro ee w1 ⟨v, rfl, es, ov, rfl, hes, _, hS1⟩
  have Hel := Lib.hid (few_len hes)
  have Hek := Lib.hid (few_key hes (fun d hd => (Hds.out d hd).key))
  obtain ⟨oa, oc, rfl⟩ := sds_len (fun d hd => (Hek.out d hd).1) hS1
  clear h hes
  go_wp2_with fail
  refine (within_c limit 128 2000 _).mono ?_
  rintro ee w4 ⟨v, rfl, rfl, rfl⟩
  have hlim := within_mem limit 128 2000 (by decide)
  generalize within limit 128 2000 = lim at *
  go_wp2_with fail
  refine (new_yes 1048576 (by decide) hS1).mono ?_
  rintro ee w5 ⟨v, rfl, m, rfl, hS5⟩
  have hop := open_c (K := 0) (Med.Ok.new 0 1048576 (by decide)) lim hS5 (by rfl) (by omega) (by omega)
  have hfr : Seg.fresh (Med.new 1048576) lim = ⟨lim, [], false, 0⟩ := rfl
  rw [hfr] at hop
  go_wp2_with fail
  refine hop.mono ?_
  rintro ee w6 ⟨v, rfl, p, rfl, hS6⟩
  clear hop hfr hS5 hS1
  have HK0 := Lib.hid (Seg.Holds.start lim hlim.1 (by omega))
  have Hlim := Lib.hid hlim
  clear hlim
  go_wp2_with fail
  have hS7 : Sat w0 w6 (osl 27 34 (.slice none 0 0) (entsL []) :: LogRep p m ⟨lim, [], false, 0⟩ :: MedRep m (Med.new 1048576) :: osl 43 40 (.slice oa es.length oc) (sdsL es) :: dataD es :: F) := Sat.osl_nil.2 (hS6.sub (by repeat (first | (with_reducible apply sub_refl) | ((with_reducible apply sub_take); (· first | ((repeat (first | with_reducible apply pick0 | with_reducible apply pick_there)); done) | ((repeat (first | apply pick0 | apply pick_there)); done) | fail)) | (with_reducible apply sub_drop))))
  clear hS6
  go_loopg [9, 10] es.length (fun g av iq wr => ∃ (i : Nat) (L : Seg.Log) (M : Med) (C : List (List Frm.Ent)) (al : List (Frm.Ent × Value)), g = es.length - i ∧ i ≤ es.length ∧ iq = .int .i64 i ∧
    (Seg.Holds i L M C ∧ L.limit = lim ∧ (Seg.committedB (es.map (·.c)) = true → Seg.Tail L.on C) ∧ al.map (·.1) = C.flatten ∧ al.length ≤ i ∧ (∀ q ∈ al, EntRd w0 (dataD es :: F) q)) ∧
    Sat w0 wr (osl 27 34 av (entsL al) :: LogRep p m L :: MedRep m M :: osl 43 40 (.slice oa es.length oc) (sdsL es) :: dataD es :: F))
  case atStart => exact ⟨0, _, _, [], [], rfl, Nat.zero_le _, rfl, ⟨HK0.out, rfl, fun _ => ⟨(fun es hes => by cases hes), fun hh => by cases hh⟩, rfl, Nat.le_refl _, fun q hq => by cases hq⟩, hS7⟩
  case round =>
    obtain ⟨i, L, M, C, al, rfl, hi, rfl, hK, hS⟩ := hrel
    clear hS7 HK0
    have HK := Lib.hid hK
    have hel := Hel.out
    clear hK
    by_cases hlt : i < es.length
    · have c1 : (i : Int) < (es.length : Int) := by omega
      have hwi : IntKind.i64.wrap ((i : Int) + 1) = (i : Int) + 1 := IntWalk.i64_in _ (by omega)
      obtain ⟨d, hdi⟩ : ∃ d, es[i]? = some d := ⟨_, List.getElem?_eq_getElem hlt⟩
      have Hlt := Lib.hid hlt
      have Hro := Lib.hid (fun R => dataD_ro (w0 := w0) (R := R) hdi)
      obtain ⟨bk, off, c, hov, hcells⟩ := sds_at (fun d hd => (Hek.out d hd).1) hdi (hS.pick (by first | ((repeat (first | with_reducible apply pick0 | with_reducible apply pick_there)); done) | ((repeat (first | apply pick0 | apply pick_there)); done) | fail))
      cases hov
      have hdk := Hek.out d (List.mem_of_getElem? hdi)
      have hmem : d.c ∈ es.map (·.c) := List.mem_map.2 ⟨d, List.mem_of_getElem? hdi, rfl⟩
      obtain ⟨⟨kind, xe, xn, xp, xl⟩, xdv, xlv⟩ := d
      obtain ⟨xda, xdn, xdc, rfl, hxl, _⟩ := (Hro.out _) _ (hS.pick (by first | ((repeat (first | with_reducible apply pick0 | with_reducible apply pick_there)); done) | ((repeat (first | apply pick0 | apply pick_there)); done) | fail))
      rw [bys_len, Nat.mul_one] at hxl
      dsimp only at hxl
      subst hxl
      have Htag := Lib.hid (show Seg.committedB (es.map (·.c)) = true → kind ≠ 1 → xe.tag ≠ 2 from fun h1 h2 => Seg.committed_tag h1 hmem h2)
      have e0 : wr.cell? ⟨bk, off + i * 40, none⟩ = some (.int .i64 kind) := hcells 0 _ rfl
      have HC := Lib.hid (show ∀ w' R, Sat w0 w' (osl 43 40 (.slice (some ⟨bk, off, none⟩) es.length oc) (sdsL es) :: R) → ∀ j v, (entL xe (.slice xda xe.data.length xdc))[j]? = some v → w'.cell? ⟨bk, off + i * 40 + 1 + j, none⟩ = some v from fun w' R hw j v hj => by
        obtain ⟨bk', off', c', hov', hcells'⟩ := sds_at (fun d hd => (Hek.out d hd).1) hdi hw
        cases hov'
        have := hcells' (1 + j) v (sdL_ent ⟨⟨kind, xe, xn, xp, xl⟩, .slice xda xe.data.length xdc, xlv⟩ hdk.1 hj)
        rw [← Nat.add_assoc] at this; exact this)
      have Hdk := Lib.hid hdk
      have Hxk := Lib.hid (show xe.key.length = 32 from hdk.1)
      have hall : (entsL al).length ≤ 2147483648 := by
        rw [entsL_len (fun p hp => (HK.out.2.2.2.2.2 p hp).key)]
        have := HK.out.2.2.2.2.1; omega
      clear hcells hdk hdi hlt hmem
      by_cases hk1 : kind = 1
      · subst hk1
        go_wp2_with fail
        refine (lcommit_c (Ro.of_sub HH.out (by repeat (first | (with_reducible apply sub_refl) | ((with_reducible apply sub_take); (· first | ((repeat (first | with_reducible apply pick0 | with_reducible apply pick_there)); done) | ((repeat (first | apply pick0 | apply pick_there)); done) | fail)) | (with_reducible apply sub_drop)))) HK.out.1.keeps.log HK.out.1.keeps.calm.ok (by omega) (hS.sub (by repeat (first | (with_reducible apply sub_refl) | ((with_reducible apply sub_take); (· first | ((repeat (first | with_reducible apply pick0 | with_reducible apply pick_there)); done) | ((repeat (first | apply pick0 | apply pick_there)); done) | fail)) | (with_reducible apply sub_drop))) : Sat w0 wr (LogRep p m L :: MedRep m M :: osl 27 34 u9 (entsL al) :: osl 43 40 (.slice (some ⟨bk, off, none⟩) es.length oc) (sdsL es) :: dataD es :: F))).mono ?_
        rintro ee w7 ⟨v, rfl, rfl, hS7⟩
        obtain ⟨k1, k2, k3, k4⟩ := HK.out.1.commit (by omega)
        rw [k1]
        have HK2 := Lib.hid (show Seg.Holds (i + 1) (L.commit M).1.1 (L.commit M).1.2 (Seg.put C (L.fits (Frm.encode Seg.comEnt).1.length) Seg.comEnt) ∧ (L.commit M).1.1.limit = lim ∧ (Seg.committedB (es.map (·.c)) = true → Seg.Tail (L.commit M).1.1.on (Seg.put C (L.fits (Frm.encode Seg.comEnt).1.length) Seg.comEnt)) ∧ (al ++ [(Seg.comEnt, Value.slice none 0 0)]).map (·.1) = (Seg.put C (L.fits (Frm.encode Seg.comEnt).1.length) Seg.comEnt).flatten ∧ (al ++ [(Seg.comEnt, Value.slice none 0 0)]).length ≤ i + 1 ∧ (∀ q ∈ al ++ [(Seg.comEnt, Value.slice none 0 0)], EntRd w0 (dataD es :: F) q) by
          obtain ⟨q1, q2, q3, q4, q5, q6⟩ := HK.out
          refine ⟨k4, k3.trans q2, fun hc => by rw [k2]; exact (q3 hc).putOff Seg.fits_on' _, ?_, by rw [List.length_append]; simpa using q5, ?_⟩
          · rw [Seg.put_flat _ _ _ (fun hf => by
              have h1 := q1.keeps.log.on (Seg.fits_on' hf)
              intro e; have := q1.len; rw [e] at this; exact h1 (List.eq_nil_of_length_eq_zero this)), List.map_append, q4]; rfl
          · intro q hq
            rcases List.mem_append.1 hq with hq | hq
            · exact q6 q hq
            · rw [List.mem_singleton.1 hq]
              exact ⟨rfl, fun w _ => rdsl_nil 1 0 w, ⟨_, _, _, rfl⟩⟩)
        clear k1 k2 k3 k4 hS HK
        generalize Seg.put C (L.fits (Frm.encode Seg.comEnt).1.length) Seg.comEnt = C2 at *
        generalize (L.commit M).1.1 = L2 at *
        generalize (L.commit M).1.2 = M2 at *
        go_wp2_with (first
          | ((with_reducible apply at_buildTag); refine ⟨?_⟩; refine wl_buildTag (tag := 2) (by rfl) ?_)
          | ((with_reducible apply at_buildE); refine ⟨?_⟩; refine wl_buildE (e := Seg.comEnt) (da := none) (dn := 0) (dc := 0) hS7 (by rfl) rfl ?_; intro bN wN hN)
          | ((with_reducible apply at_append); refine ⟨?_⟩; refine wl_app 27 34 64 (by kernel_rfl) hN (by rfl) (by rfl) (by first | ((repeat (first | with_reducible apply pick0 | with_reducible apply pick_there)); done) | ((repeat (first | apply pick0 | apply pick_there)); done) | fail) (by first | ((repeat (first | with_reducible apply pick0 | with_reducible apply pick_there)); done) | ((repeat (first | apply pick0 | apply pick_there)); done) | fail) ((entA_size _ _ rfl).trans (by decide)) (Nat.le_refl 1) (entA_one _ _ _ _) hall (by rw [entA_size _ _ rfl]; decide) (by decide) rfl ?_; intro bA nA cA wA hA))
        rw [ents_flat] at hA
        clear hN hS7
        go_roundg (es.length - (i + 1))
        case measure => have := Hlt.out; omega
        case rel => exact ⟨i + 1, _, _, _, _, rfl, Nat.succ_le_of_lt Hlt.out, by first | rfl | go_num, HK2.out, hA.sub (by repeat (first | (with_reducible apply sub_refl) | ((with_reducible apply sub_take); (· first | ((repeat (first | with_reducible apply pick0 | with_reducible apply pick_there)); done) | ((repeat (first | apply pick0 | apply pick_there)); done) | fail)) | (with_reducible apply sub_drop)))⟩
      · have hk1d : (kind == 1) = false := beq_false_of_ne hk1
        have hap := lappend_c (w0 := w0) xe Hdk.out.1 xda xdc (Ro.of_pick (Hro.out _) (by first | ((repeat (first | with_reducible apply pick0 | with_reducible apply pick_there)); done) | ((repeat (first | apply pick0 | apply pick_there)); done) | fail)) (Ro.of_sub HH.out (by repeat (first | (with_reducible apply sub_refl) | ((with_reducible apply sub_take); (· first | ((repeat (first | with_reducible apply pick0 | with_reducible apply pick_there)); done) | ((repeat (first | apply pick0 | apply pick_there)); done) | fail)) | (with_reducible apply sub_drop)))) (Nat.le_trans Hdk.out.2 (by decide)) HK.out.1.keeps.log HK.out.1.keeps.calm.ok (by omega) (hS.sub (by repeat (first | (with_reducible apply sub_refl) | ((with_reducible apply sub_take); (· first | ((repeat (first | with_reducible apply pick0 | with_reducible apply pick_there)); done) | ((repeat (first | apply pick0 | apply pick_there)); done) | fail)) | (with_reducible apply sub_drop))) : Sat w0 wr (LogRep p m L :: MedRep m M :: osl 27 34 u9 (entsL al) :: osl 43 40 (.slice (some ⟨bk, off, none⟩) es.length oc) (sdsL es) :: dataD es :: F))
        have Hk1 := Lib.hid hk1
        clear hk1
        by_cases h0 : (Frm.encode xe).2 = 0
        · obtain ⟨k1, k2, k3, k4, k5, k6⟩ := HK.out.1.append (by omega) xe Hdk.out.1 Hdk.out.2 h0
          have hpl := Seg.place_ok HK.out.1.keeps.log M xe Hdk.out.1
          have HK2 := Lib.hid (show Seg.Holds (i + 1) (L.append M xe).1.1 (L.append M xe).1.2 (Seg.put C (L.fits (Frm.encode xe).1.length) xe) ∧ (L.append M xe).1.1.limit = lim ∧ (Seg.committedB (es.map (·.c)) = true → Seg.Tail (L.append M xe).1.1.on (Seg.put C (L.fits (Frm.encode xe).1.length) xe)) ∧ (al ++ [(xe, Value.slice xda xe.data.length xdc)]).map (·.1) = (Seg.put C (L.fits (Frm.encode xe).1.length) xe).flatten ∧ (al ++ [(xe, Value.slice xda xe.data.length xdc)]).length ≤ i + 1 ∧ (∀ q ∈ al ++ [(xe, Value.slice xda xe.data.length xdc)], EntRd w0 (dataD es :: F) q) by
            obtain ⟨q1, q2, q3, q4, q5, q6⟩ := HK.out
            refine ⟨k4, k3.trans q2, fun hc => by rw [k2]; exact (q3 hc).putOn Seg.fits_on' _ (Htag.out hc Hk1.out), ?_, by rw [List.length_append]; simpa using q5, ?_⟩
            · rw [Seg.put_flat _ _ _ (fun hf => by
                have h1 := q1.keeps.log.on (Seg.fits_on' hf)
                intro e; have := q1.len; rw [e] at this; exact h1 (List.eq_nil_of_length_eq_zero this)), List.map_append, q4]; rfl
            · intro q hq
              rcases List.mem_append.1 hq with hq | hq
              · exact q6 q hq
              · rw [List.mem_singleton.1 hq]
                exact ⟨Hdk.out.1, Hro.out F, ⟨_, _, _, rfl⟩⟩)
          rw [k1] at hap
          have hS0 : Sat w0 wr (osl 43 40 (.slice (some ⟨bk, off, none⟩) es.length oc) (sdsL es) :: dataD es :: F) := hS.sub (by repeat (first | (with_reducible apply sub_refl) | ((with_reducible apply sub_take); (· first | ((repeat (first | with_reducible apply pick0 | with_reducible apply pick_there)); done) | ((repeat (first | apply pick0 | apply pick_there)); done) | fail)) | (with_reducible apply sub_drop)))
          clear k1 k2 k3 k4 k6 HK hS h0
          generalize Seg.put C (L.fits (Frm.encode xe).1.length) xe = C2 at *
          generalize L.append M xe = r2 at *
          obtain ⟨⟨L2, M2⟩, p2, e2⟩ := r2
          have Hr5 := Lib.hid k5
          have Hpl := Lib.hid hpl
          clear k5 hpl
          simp only at hap Hr5 Hpl
          change Hid (Seg.Holds (i + 1) L2 M2 C2 ∧ L2.limit = lim ∧ (Seg.committedB (es.map (·.c)) = true → Seg.Tail L2.on C2) ∧ (al ++ [(xe, Value.slice xda xe.data.length xdc)]).map (·.1) = C2.flatten ∧ (al ++ [(xe, Value.slice xda xe.data.length xdc)]).length ≤ i + 1 ∧ (∀ q ∈ al ++ [(xe, Value.slice xda xe.data.length xdc)], EntRd w0 (dataD es :: F) q)) at HK2
          go_wp2_with ((with_reducible apply at_load); refine ⟨?_⟩; refine wl_loadW (b := bk) (o := off + i * 40 + 1) (entL xe (.slice xda xe.data.length xdc)) (by rfl) (HC.out _ _ hS0) Tryd.underlying27 rfl (by rw [entL_len xe _ Hdk.out.1]; exact infoEntSize) ?_)
          refine hap.mono ?_
          rintro ee w7 ⟨v, rfl, rfl, hS7⟩
          clear hap hS0
          obtain ⟨ps, pat, psz⟩ := p2
          dsimp only at Hpl Hr5 hS7
          have hrd := lread_c (w0 := w0) (w := w7) (Ro.of_sub HH.out (by repeat (first | (with_reducible apply sub_refl) | ((with_reducible apply sub_take); (· first | ((repeat (first | with_reducible apply pick0 | with_reducible apply pick_there)); done) | ((repeat (first | apply pick0 | apply pick_there)); done) | fail)) | (with_reducible apply sub_drop)))) HK2.out.1.keeps.log HK2.out.1.keeps.calm.ok ⟨ps, pat, psz⟩ (by have := Hpl.out; dsimp only; omega) (by have := Hpl.out; dsimp only; omega) hS7
          clear hrd
          go_wp2_with (first
            | ((with_reducible apply at_alloc); refine ⟨?_⟩; refine wl_alloc zPlace hS7 rfl ?_; intro q w8 hS8)
            | ((with_reducible apply at_load); refine ⟨?_⟩; refine wl_loadA (b := q) hS (by rfl) (by first | ((repeat (first | with_reducible apply pick0 | with_reducible apply pick_there)); done) | ((repeat (first | apply pick0 | apply pick_there)); done) | fail) Tryd.underlying40 rfl (by kernel_rfl) ?_)
            | ((with_reducible apply at_store); refine ⟨?_⟩; refine wl_store (by assumption) (by rfl) (by conv => lhs; whnf) (by first | (simp only [putsAt, Value.cells]; (try go_frame); first | done | rfl) | rfl) (by first | ((repeat (first | with_reducible apply upd0 | with_reducible apply upd_there)); done) | ((repeat (first | apply upd0 | apply upd_there)); done) | fail) (Nat.le_of_ble_eq_true (by rfl)) (by kernel_rfl) (by rfl) ?_; intro wS hS))
          have hS9 : Sat w0 wS (LogRep p m L2 :: MedRep m M2 :: pt q (.cells #[.int .i64 ps, .int .i64 pat, .int .i64 psz] 40 (0,0)) :: osl 27 34 u9 (entsL al) :: osl 43 40 (.slice (some ⟨bk, off, none⟩) es.length oc) (sdsL es) :: dataD es :: F) := hS.sub (by repeat (first | (with_reducible apply sub_refl) | ((with_reducible apply sub_take); (· first | ((repeat (first | with_reducible apply pick0 | with_reducible apply pick_there)); done) | ((repeat (first | apply pick0 | apply pick_there)); done) | fail)) | (with_reducible apply sub_drop)))
          have hrd := lread_c (w0 := w0) (w := wS) (Ro.of_sub HH.out (by repeat (first | (with_reducible apply sub_refl) | ((with_reducible apply sub_take); (· first | ((repeat (first | with_reducible apply pick0 | with_reducible apply pick_there)); done) | ((repeat (first | apply pick0 | apply pick_there)); done) | fail)) | (with_reducible apply sub_drop)))) HK2.out.1.keeps.log HK2.out.1.keeps.calm.ok ⟨ps, pat, psz⟩ (by have := Hpl.out; dsimp only at this ⊢; omega) (by have := Hpl.out; dsimp only at this ⊢; omega) hS9
          rw [Hr5.out] at hrd
          dsimp only at hrd
          clear hS7 hS8 hS
          refine hrd.mono ?_
          rintro ee w10 ⟨v, rfl, da3, dc3, rfl, hS10⟩
          clear hrd hS9
          go_wp2_with (first | ((with_reducible apply at_allocE); refine ⟨?_⟩; refine wl_allocE (by assumption) ?_; intro bE wE hE) | ((with_reducible apply at_storeE); refine ⟨?_⟩; first | (refine wl_storeE (by assumption) (by rfl) (by rfl) (by first | rfl | assumption | exact Hid.out (by assumption)) (by first | ((repeat (first | with_reducible apply upd0 | with_reducible apply upd_there)); done) | ((repeat (first | apply upd0 | apply upd_there)); done) | fail) (by first | assumption | exact entA_size _ _ rfl | exact entA_size _ _ (by assumption) | exact entA_size _ _ (Hid.out (by assumption))) ?_; intro wS hS) | (refine wl_storeE (e := Frm.zeroE) (da := none) (dn := 0) (dc := 0) (by assumption) (by rfl) (by rfl) rfl (by first | ((repeat (first | with_reducible apply upd0 | with_reducible apply upd_there)); done) | ((repeat (first | apply upd0 | apply upd_there)); done) | fail) (by first | assumption | exact entA_size _ _ rfl | exact entA_size _ _ (by assumption) | exact entA_size _ _ (Hid.out (by assumption))) ?_; intro wS hS)))
          have hS11 : Sat w0 _ (pt bE (.cells (entA xe (.slice da3 xe.data.length dc3)) 27 (0,0)) :: bsl (.slice da3 xe.data.length dc3) xe.data :: LogRep p m L2 :: MedRep m M2 :: osl 27 34 u9 (entsL al) :: osl 43 40 (.slice (some ⟨bk, off, none⟩) es.length oc) (sdsL es) :: dataD es :: F) := hS.sub (by repeat (first | (with_reducible apply sub_refl) | ((with_reducible apply sub_take); (· first | ((repeat (first | with_reducible apply pick0 | with_reducible apply pick_there)); done) | ((repeat (first | apply pick0 | apply pick_there)); done) | fail)) | (with_reducible apply sub_drop)))
          clear hS10 hE hS
          have hS12 := hS11.drew
          clear hS11
          have hne0 : ((0 : Int) != 0) = false := rfl
          refine wpL_begin [9, 10, 11] (fun w' => w'.rangeAt bE 0 (entL xe (.slice da3 xe.data.length dc3)) ∧ w'.rangeAt bk (off + i * 40 + 1) (entL xe (.slice xda xe.data.length xdc))) (by kernel_rfl) ?_
          have hG1 := fun (j : Nat) (v : Value) (hj : (entL xe (.slice da3 xe.data.length dc3))[j]? = some v) => hS12.cellP (b := bE) (cs := entA xe (.slice da3 xe.data.length dc3)) (T := 27) (by first | ((repeat (first | with_reducible apply pick0 | with_reducible apply pick_there)); done) | ((repeat (first | apply pick0 | apply pick_there)); done) | fail) j (show (entA xe (.slice da3 xe.data.length dc3))[j]? = some v by unfold entA; rw [List.getElem?_toArray]; exact hj)
          have hG2 := HC.out _ _ (hS12.pick (by first | ((repeat (first | with_reducible apply pick0 | with_reducible apply pick_there)); done) | ((repeat (first | apply pick0 | apply pick_there)); done) | fail))
          have hG : World.rangeAt _ bE 0 (entL xe (.slice da3 xe.data.length dc3)) ∧ World.rangeAt _ bk (off + i * 40 + 1) (entL xe (.slice xda xe.data.length xdc)) := And.intro (fun j v hj => (Nat.zero_add j).symm ▸ hG1 j v hj) hG2
          clear hG1 hG2
          refine rg_pure 0 (by conv => lhs; whnf) (by kernel_rfl) (by intro _ _ _ h; exact h) (yl_move (by conv => lhs; whnf)) (by go_frame; first | done | rfl) ?_
          refine rg_pure 1 (by conv => lhs; whnf) (by kernel_rfl) (by intro _ _ _ h; exact h) (yl_bin (by conv => lhs; whnf) (by conv => lhs; whnf) (by ((intro wq; go_simp); first | done | (with_reducible rfl)))) (by go_frame; first | done | rfl) ?_
          refine rg_pure 2 (by conv => lhs; whnf) (by kernel_rfl) (by intro _ _ _ h; exact h) (yl_move (by conv => lhs; whnf)) (by go_frame; first | done | rfl) ?_
          refine rg_take 3 (by conv => lhs; whnf) (by kernel_rfl) (by intro _ _ _ h; exact h) (tg_loadN (b := bE) (o := 0) (entL xe (.slice da3 xe.data.length dc3)) (by rfl) (by rfl) Tryd.underlying27 rfl (by rw [entL_len xe _ Hxk.out]; exact infoEntSize) (fun w hw => hw.1)) (by assumption) (by go_frame; first | done | rfl) ?_
          refine rg_pure 4 (by conv => lhs; whnf) (by kernel_rfl) (by intro _ _ _ h; exact h) (yg_move (by rfl) (by conv => lhs; whnf)) (by go_frame; first | done | rfl) ?_
          refine rg_pure 5 (by conv => lhs; whnf) (by kernel_rfl) (by intro _ _ _ h; exact h) (yg_move (by rfl) (by conv => lhs; whnf)) (by go_frame; first | done | rfl) ?_
          refine rg_pure 6 (by conv => lhs; whnf) (by kernel_rfl) (by intro _ _ _ h; exact h) (yg_index (by rfl) (by conv => lhs; whnf) (by conv => lhs; whnf) (by ((intro wq; go_simp); first | done | (with_reducible rfl)))) (by go_frame; first | done | rfl) ?_
          refine rg_pure 7 (by conv => lhs; whnf) (by kernel_rfl) (by intro _ _ _ h; exact h) (yg_field (by rfl) (by conv => lhs; whnf) (by ((intro wq; go_simp); first | done | (with_reducible rfl)))) (by go_frame; first | done | rfl) ?_
          refine rg_take 8 (by conv => lhs; whnf) (by kernel_rfl) (by intro _ _ _ h; exact h) (tg_loadN (b := bk) (o := off + i * 40 + 1) (entL xe (.slice xda xe.data.length xdc)) (by rfl) (by rfl) Tryd.underlying27 rfl (by rw [entL_len xe _ Hxk.out]; exact infoEntSize) (fun w hw => hw.2)) (by assumption) (by go_frame; first | done | rfl) ?_
          clear hG
          refine rg_eff 9 (by conv => lhs; whnf) (by kernel_rfl) (fun K hK => ?_)
          refine eg_call [.agg (entA xe (.slice da3 xe.data.length dc3)), .agg (entA xe (.slice xda xe.data.length xdc))] (by rfl) (by kernel_rfl) (by rfl) ?_
          refine (sameEntry_c xe Hxk.out da3 xda _ _ dc3 xdc (Ro.of_pick (Ro.bsl _ _) (by first | ((repeat (first | with_reducible apply pick0 | with_reducible apply pick_there)); done) | ((repeat (first | apply pick0 | apply pick_there)); done) | fail)) (Ro.of_pick (Hro.out _) (by first | ((repeat (first | with_reducible apply pick0 | with_reducible apply pick_there)); done) | ((repeat (first | apply pick0 | apply pick_there)); done) | fail)) hS12 (Nat.le_trans Hdk.out.2 (by decide))).mono ?_
          rintro ee w13 ⟨v, rfl, rfl, hS13⟩
          refine hK _ _ (.inl rfl) ?_
          clear hK K hS12
          refine rg_pure 10 (by conv => lhs; whnf) (by kernel_rfl) (by intro _ _ _ h; exact h) (yg_un (by rfl) (by conv => lhs; whnf) (by ((intro wq; go_simp); first | done | (with_reducible rfl)))) (by go_frame; first | done | rfl) ?_
          refine rg_pure 11 (by conv => lhs; whnf) (by kernel_rfl) (by intro _ _ _ h; exact h) (yg_pick (by rfl) (by conv => lhs; whnf) (by conv => lhs; whnf)) (by go_frame; first | done | rfl) ?_
          refine wpL_done (by kernel_rfl) ?_
          try simp only [List.getElem_toArray, List.getElem_cons_succ, List.getElem_cons_zero]
          try go_frame
          go_wp2_with (first
            | ((with_reducible apply at_load); refine ⟨?_⟩; refine wl_loadW (b := bk) (o := off + i * 40 + 1) (entL xe (.slice xda xe.data.length xdc)) (by rfl) (HC.out _ _ (hS13.pick (by first | ((repeat (first | with_reducible apply pick0 | with_reducible apply pick_there)); done) | ((repeat (first | apply pick0 | apply pick_there)); done) | fail))) Tryd.underlying27 rfl (by rw [entL_len xe _ Hxk.out]; exact infoEntSize) ?_)
            | ((with_reducible apply at_buildE); refine ⟨?_⟩; refine wl_buildE (e := xe) (da := xda) (dn := xe.data.length) (dc := xdc) hS13 (by rfl) Hxk.out ?_; intro bN wN hN)
            | ((with_reducible apply at_append); refine ⟨?_⟩; refine wl_app 27 34 64 (by kernel_rfl) hN (by rfl) (by rfl) (by first | ((repeat (first | with_reducible apply pick0 | with_reducible apply pick_there)); done) | ((repeat (first | apply pick0 | apply pick_there)); done) | fail) (by first | ((repeat (first | with_reducible apply pick0 | with_reducible apply pick_there)); done) | ((repeat (first | apply pick0 | apply pick_there)); done) | fail) ((entA_size _ _ Hxk.out).trans (by decide)) (Nat.le_refl 1) (entA_one _ _ _ _) hall (by rw [entA_size _ _ Hxk.out]; decide) (by decide) rfl ?_; intro bA nA cA wA hA))
          rw [ents_flat] at hA
          clear hN hS13
          go_roundg (es.length - (i + 1))
          case measure => have := Hlt.out; omega
          case rel => exact ⟨i + 1, _, _, _, _, rfl, Nat.succ_le_of_lt Hlt.out, by first | rfl | go_num, HK2.out, hA.sub (by repeat (first | (with_reducible apply sub_refl) | ((with_reducible apply sub_take); (· first | ((repeat (first | with_reducible apply pick0 | with_reducible apply pick_there)); done) | ((repeat (first | apply pick0 | apply pick_there)); done) | fail)) | (with_reducible apply sub_drop)))⟩
        · have HK2 := Lib.hid (show Seg.Holds (i + 1) L M C ∧ L.limit = lim ∧ (Seg.committedB (es.map (·.c)) = true → Seg.Tail L.on C) ∧ al.map (·.1) = C.flatten ∧ al.length ≤ i + 1 ∧ (∀ q ∈ al, EntRd w0 (dataD es :: F) q) by
            obtain ⟨q1, q2, q3, q4, q5, q6⟩ := HK.out
            exact ⟨q1.mono1, q2, q3, q4, Nat.le_succ_of_le q5, q6⟩)
          rw [app_bad h0] at hap
          dsimp only at hap
          have he0d : ((Frm.encode xe).2 == 0) = false := beq_false_of_ne h0
          have hS0 : Sat w0 wr (osl 43 40 (.slice (some ⟨bk, off, none⟩) es.length oc) (sdsL es) :: dataD es :: F) := hS.sub (by repeat (first | (with_reducible apply sub_refl) | ((with_reducible apply sub_take); (· first | ((repeat (first | with_reducible apply pick0 | with_reducible apply pick_there)); done) | ((repeat (first | apply pick0 | apply pick_there)); done) | fail)) | (with_reducible apply sub_drop)))
          clear HK hS h0
          generalize (Frm.encode xe).2 = er at *
          go_wp2_with ((with_reducible apply at_load); refine ⟨?_⟩; refine wl_loadW (b := bk) (o := off + i * 40 + 1) (entL xe (.slice xda xe.data.length xdc)) (by rfl) (HC.out _ _ hS0) Tryd.underlying27 rfl (by rw [entL_len xe _ Hxk.out]; exact infoEntSize) ?_)
          refine hap.mono ?_
          rintro ee w7 ⟨v, rfl, rfl, hS7⟩
          clear hap hS0
          go_wp2_with (first
            | ((with_reducible apply at_alloc); refine ⟨?_⟩; refine wl_alloc zPlace hS7 rfl ?_; intro q w8 hS8)
            | ((with_reducible apply at_store); refine ⟨?_⟩; refine wl_store (by assumption) (by rfl) (by conv => lhs; whnf) (by first | (simp only [putsAt, Value.cells]; (try go_frame); first | done | rfl) | rfl) (by first | ((repeat (first | with_reducible apply upd0 | with_reducible apply upd_there)); done) | ((repeat (first | apply upd0 | apply upd_there)); done) | fail) (Nat.le_of_ble_eq_true (by rfl)) (by kernel_rfl) (by rfl) ?_; intro wS hS))
          go_roundg (es.length - (i + 1))
          case measure => have := Hlt.out; omega
          case rel => exact ⟨i + 1, _, _, _, _, rfl, Nat.succ_le_of_lt Hlt.out, by first | rfl | go_num, HK2.out, hS.sub (by repeat (first | (with_reducible apply sub_refl) | ((with_reducible apply sub_take); (· first | ((repeat (first | with_reducible apply pick0 | with_reducible apply pick_there)); done) | ((repeat (first | apply pick0 | apply pick_there)); done) | fail)) | (with_reducible apply sub_drop)))⟩
    · obtain rfl : i = es.length := by omega
      have c1 : ¬ (es.length : Int) < (es.length : Int) := by omega
      obtain ⟨q1, q2, q3, q4, q5, q6⟩ := HK.out
      obtain ⟨g1, g2⟩ := q1.segs
      go_wp2_with fail
      refine (lsegs_c q1.keeps.log (hS.pick (by first | ((repeat (first | with_reducible apply pick0 | with_reducible apply pick_there)); done) | ((repeat (first | apply pick0 | apply pick_there)); done) | fail))).mono ?_
      rintro ee w11 ⟨v, rfl, hS11⟩
      obtain ⟨wa, wn, wc, rfl, hwl, _⟩ := Sat.rd hS11
      have hil : ∀ l : List Int, (ints l).length = l.length := fun l => List.length_map ..
      rw [hil, Nat.mul_one, g1] at hwl
      subst hwl
      obtain ⟨ava, avn, avc, rfl, havl, _⟩ := Sat.rd (hS11.pick (A := osl 27 34 u9 (entsL al)) (by first | ((repeat (first | with_reducible apply pick0 | with_reducible apply pick_there)); done) | ((repeat (first | apply pick0 | apply pick_there)); done) | fail))
      rw [entsL_len (fun p hp => (q6 p hp).key)] at havl
      obtain rfl : avn = al.length := by omega
      have Hq1 := Lib.hid q1; have Hq2 := Lib.hid q2; have Hq3 := Lib.hid q3; have Hq4 := Lib.hid q4; have Hq5 := Lib.hid q5; have Hq6 := Lib.hid q6; have Hg2 := Lib.hid g2
      have Hcl := Lib.hid (show C.length ≤ 40 by have := q1.count; have := Hel.out; omega)
      have Hfl' := Lib.hid (show C.flatten.length = al.length by rw [← q4, List.length_map])
      clear q1 q2 q3 q4 q5 q6 g1 g2 hS HK hlt havl
      go_wp2_with fail
      go_loopg [17, 19] C.length (fun g atv sv wr => ∃ (s : Nat), g = C.length - s ∧ s ≤ C.length ∧ sv = .int .i64 s ∧ atv = .int .i64 (offs C s : Nat) ∧
        Sat w0 wr (osl 3 1 (.slice wa C.length wc) (ints L.segs) :: LogRep p m L :: MedRep m M :: osl 27 34 (.slice ava al.length avc) (entsL al) :: osl 43 40 (.slice oa es.length oc) (sdsL es) :: dataD es :: F))
      case atStart => exact ⟨0, rfl, Nat.zero_le _, rfl, rfl, hS11.sub (by repeat (first | (with_reducible apply sub_refl) | ((with_reducible apply sub_take); (· first | ((repeat (first | with_reducible apply pick0 | with_reducible apply pick_there)); done) | ((repeat (first | apply pick0 | apply pick_there)); done) | fail)) | (with_reducible apply sub_drop)))⟩
      case round =>
        obtain ⟨s, rfl, hs, rfl, rfl, hS⟩ := hrel
        clear hS11
        by_cases hsl : s < C.length
        · have c2 : (s : Int) < (C.length : Int) := by omega
          have hcl := Hcl.out
          have hws : IntKind.i64.wrap ((s : Int) + 1) = (s : Int) + 1 := IntWalk.i64_in _ (by omega)
          obtain ⟨es2, hes2⟩ : ∃ es2, C[s]? = some es2 := ⟨_, List.getElem?_eq_getElem hsl⟩
          have Hsl := Lib.hid hsl
          have hx : (ints L.segs)[s]? = some (.int .i64 (s : Int)) := by unfold ints; rw [List.getElem?_map, Hg2.out s hsl]; rfl
          have Hx := Lib.hid hx
          obtain ⟨bk, off, rfl, e0⟩ := rdsl_cell (Sat.rd (hS.pick (by first | ((repeat (first | with_reducible apply pick0 | with_reducible apply pick_there)); done) | ((repeat (first | apply pick0 | apply pick_there)); done) | fail))) hx
          have hby := lbytes_c Hq1.out.keeps.log Hq1.out.keeps.calm.ok (s : Int) (hS.sub (by repeat (first | (with_reducible apply sub_refl) | ((with_reducible apply sub_take); (· first | ((repeat (first | with_reducible apply pick0 | with_reducible apply pick_there)); done) | ((repeat (first | apply pick0 | apply pick_there)); done) | fail)) | (with_reducible apply sub_drop))) : Sat w0 wr (LogRep p m L :: MedRep m M :: osl 3 1 (.slice (some ⟨bk, off, none⟩) C.length wc) (ints L.segs) :: osl 27 34 (.slice ava al.length avc) (entsL al) :: osl 43 40 (.slice oa es.length oc) (sdsL es) :: dataD es :: F))
          rw [Hq1.out.bytes hes2] at hby
          dsimp only at hby
          have Hsc := Lib.hid (Hq1.out.scan hes2)
          have Hszz := Lib.hid (Hq1.out.size hes2)
          have Hbl := Lib.hid (show (((Seg.mag ++ Frm.encs es2).length : Nat) : Int) = 8 + ((Frm.encs es2).length : Int) by rw [List.length_append]; have : Seg.mag.length = 8 := rfl; omega)
          have Hes2 := Lib.hid hes2
          have Hsm := Lib.hid (Hq1.out.small (by have := Hel.out; omega) hes2)
          generalize Seg.mag ++ Frm.encs es2 = B at *
          clear hsl hx hes2
          go_wp2_with fail
          refine hby.mono ?_
          rintro ee w20 ⟨v, rfl, cv, rfl, hS20⟩
          clear hby hS
          obtain ⟨hcap, ca, cc, rfl⟩ := bsl_capL hS20
          have hsc := fscan_c (w0 := w0) (w := w20) B (Ro.bsl _ _) hcap (Ro.of_sub HH.out (by repeat (first | (with_reducible apply sub_refl) | ((with_reducible apply sub_take); (· first | ((repeat (first | with_reducible apply pick0 | with_reducible apply pick_there)); done) | ((repeat (first | apply pick0 | apply pick_there)); done) | fail)) | (with_reducible apply sub_drop)))) (Nat.le_trans Hsm.out (by decide)) hS20
          rw [Hsc.out] at hsc
          dsimp only at hsc
          clear hcap
          go_wp2_with fail
          refine hsc.mono ?_
          rintro ee w21 ⟨v, rfl, fs, fv, hfs, hfk, rfl, hS21⟩
          clear hsc hS20
          obtain ⟨fa, fc, rfl⟩ := fnds_sl hfk hS21
          have hfe : fs.map (fun q => q.1.e) = es2 := by
            have := congrArg (List.map (·.e)) hfs
            rw [Frm.fnds_e, List.map_map] at this
            exact this
          have hfl : fs.length = es2.length := by rw [← hfe, List.length_map]
          have Hfe := Lib.hid hfe; have Hfk := Lib.hid hfk
          have Hfl := Lib.hid hfl
          clear hfs hfk hfe hfl
          have e1 : w21.cell? ⟨bk, off + s, none⟩ = some (.int .i64 (s : Int)) := by
            obtain ⟨bk', off', hee, hc⟩ := rdsl_cell (Sat.rd (hS21.pick (A := osl 3 1 (.slice (some ⟨bk, off, none⟩) C.length wc) (ints L.segs)) (by first | ((repeat (first | with_reducible apply pick0 | with_reducible apply pick_there)); done) | ((repeat (first | apply pick0 | apply pick_there)); done) | fail))) Hx.out
            cases hee; exact hc
          have hgood := Hq1.out.good es2 (List.mem_of_getElem? Hes2.out)
          have hfit := Hq1.out.fit es2 (List.mem_of_getElem? Hes2.out)
          have hpos : 0 < fs.length := by rw [Hfl.out]; exact List.length_pos_iff.2 hgood.2
          have hss : ((s : Int) != (s : Int)) = false := by simp
          have hz0 : ((fs.length : Int) == 0) = false := beq_false_of_ne (by omega)
          have hsz := lsize_c Hq1.out.keeps.log (s : Int) (hS21.pick (A := LogRep p m L) (by first | ((repeat (first | with_reducible apply pick0 | with_reducible apply pick_there)); done) | ((repeat (first | apply pick0 | apply pick_there)); done) | fail))
          rw [Hszz.out] at hsz
          rw [← Hbl.out, Hq2.out] at hfit
          generalize B.length = bl at *
          have hbb : ((bl : Int) != (bl : Int)) = false := by simp
          have hfit2 : decide (lim < (bl : Int)) = false ∨ decide (lim < (bl : Int)) = true ∧ decide (1 < (fs.length : Int)) = false := by
            have hfl := Hfl.out
            by_cases hh : lim < (bl : Int)
            · right
              refine ⟨decide_eq_true hh, decide_eq_false ?_⟩
              rcases hfit with h1 | h1 <;> omega
            · left; exact decide_eq_false hh
          have Hfit2 := Lib.hid hfit2
          have Hcom := Lib.hid (show Seg.committedB (es.map (·.c)) = true → ∀ (k : Nat) (x : Frm.Ent), es2[k]? = some x → x.tag = 2 → k + 1 = es2.length from fun hc => (Hq3.out hc).last es2 (List.mem_of_getElem? Hes2.out))
          have Hfa := Lib.hid (show ∀ k, k < es2.length → C.flatten[offs C s + k]? = es2[k]? from fun k hk => Seg.flat_at C s es2 k Hes2.out hk)
          have Hle := Lib.hid (show offs C s + es2.length ≤ al.length by rw [← Hfl'.out]; exact Seg.flat_le Hes2.out)
          have Hnx := Lib.hid (show offs C (s + 1) = offs C s + es2.length from Seg.flat_next Hes2.out)
          clear hgood hfit hfit2
          go_wp2_with fail
          refine hsz.mono ?_
          rintro ee w22 ⟨v, rfl, rfl, hS22⟩
          clear hsz hS21 e0 e1
          have hS23 : Sat w0 w22 (osl 70 36 (.slice fa fs.length fc) (fndsL fs) :: dataF fs :: osl 27 34 (.slice ava al.length avc) (entsL al) :: osl 43 40 (.slice oa es.length oc) (sdsL es) :: dataD es :: osl 3 1 (.slice (some ⟨bk, off, none⟩) C.length wc) (ints L.segs) :: LogRep p m L :: MedRep m M :: F) := hS22.sub (by repeat (first | (with_reducible apply sub_refl) | ((with_reducible apply sub_take); (· first | ((repeat (first | with_reducible apply pick0 | with_reducible apply pick_there)); done) | ((repeat (first | apply pick0 | apply pick_there)); done) | fail)) | (with_reducible apply sub_drop)))
          clear hS22
          rcases Hfit2.out with hd1 | ⟨hd1, hd2⟩
          · clear Hfit2
            go_wp2_with fail
            generalize hA : offs C s = A at *
            go_loopg [17, 25] fs.length (fun g atv kv wr => ∃ (k T : Nat), g = fs.length - k ∧ k ≤ fs.length ∧ kv = .int .i64 k ∧ T = A + k ∧ atv = .int .i64 T ∧
              Sat w0 wr (osl 70 36 (.slice fa fs.length fc) (fndsL fs) :: dataF fs :: osl 27 34 (.slice ava al.length avc) (entsL al) :: osl 43 40 (.slice oa es.length oc) (sdsL es) :: dataD es :: osl 3 1 (.slice (some ⟨bk, off, none⟩) C.length wc) (ints L.segs) :: LogRep p m L :: MedRep m M :: F))
            case atStart => exact ⟨0, A, rfl, Nat.zero_le _, rfl, rfl, rfl, hS23⟩
            case round =>
              obtain ⟨k, T, rfl, hk, rfl, hT, rfl, hS⟩ := hrel
              clear hS23
              by_cases hkl : k < fs.length
              · have hle := Hle.out
                have hfl := Hfl.out
                have hal := Hq5.out
                have hel := Hel.out
                obtain ⟨q, hq⟩ : ∃ q, fs[k]? = some q := ⟨_, List.getElem?_eq_getElem hkl⟩
                obtain ⟨q2, hq2⟩ : ∃ q2, al[T]? = some q2 := ⟨_, List.getElem?_eq_getElem (by omega)⟩
                have hx1 : es2[k]? = some q.1.e := by rw [← Hfe.out, List.getElem?_map, hq]; rfl
                have hx2 : q2.1 = q.1.e := by
                  have h1 := Hfa.out k (by omega)
                  rw [← hT, ← Hq4.out, List.getElem?_map, hq2, hx1] at h1
                  exact Option.some.inj h1
                have Hrf := Lib.hid (fun R => dataF_ro (w0 := w0) (R := R) hq)
                have Hen := Hq6.out q2 (List.mem_of_getElem? hq2)
                have HCk := Lib.hid (fun hc ht => Hcom.out hc k q.1.e hx1 ht)
                obtain ⟨fb, fo, fc', hee, hf0⟩ := fnds_at Hfk.out hq (hS.pick (by first | ((repeat (first | with_reducible apply pick0 | with_reducible apply pick_there)); done) | ((repeat (first | apply pick0 | apply pick_there)); done) | fail))
                cases hee
                obtain ⟨ab, ao, ac', hee, ha0⟩ := ents_at (fun p hp => (Hq6.out p hp).key) hq2 (hS.pick (by first | ((repeat (first | with_reducible apply pick0 | with_reducible apply pick_there)); done) | ((repeat (first | apply pick0 | apply pick_there)); done) | fail))
                cases hee
                have HF := Lib.hid (show ∀ w' R, Sat w0 w' (osl 70 36 (.slice (some ⟨fb, fo, none⟩) fs.length fc) (fndsL fs) :: R) → ∀ j y, (entL q.1.e q.2)[j]? = some y → w'.cell? ⟨fb, fo + k * 36 + j, none⟩ = some y from fun w' R hw j y hj => by
                  obtain ⟨_, _, _, hee, h0⟩ := fnds_at Hfk.out hq hw
                  cases hee; exact h0 j y hj)
                have HA := Lib.hid (show ∀ w' R, Sat w0 w' (osl 27 34 (.slice (some ⟨ab, ao, none⟩) al.length avc) (entsL al) :: R) → ∀ j y, (entL q2.1 q2.2)[j]? = some y → w'.cell? ⟨ab, ao + T * 34 + j, none⟩ = some y from fun w' R hw j y hj => by
                  obtain ⟨_, _, _, hee, h0⟩ := ents_at (fun p hp => (Hq6.out p hp).key) hq2 hw
                  cases hee; exact h0 j y hj)
                obtain ⟨q2e, q2v⟩ := q2
                obtain ⟨⟨xe, xat, xsz⟩, xv⟩ := q
                dsimp only at hx1 hx2 Hrf HCk HF HA
                subst hx2
                obtain ⟨hkey, hrd, ada, adn, adc, hadv⟩ := Hen
                dsimp only at hkey hrd hadv
                subst hadv
                obtain ⟨fda, fdn, fdc, rfl, hfdl, _⟩ := (Hrf.out _) _ (hS.pick (by first | ((repeat (first | with_reducible apply pick0 | with_reducible apply pick_there)); done) | ((repeat (first | apply pick0 | apply pick_there)); done) | fail))
                have Hxk := Lib.hid hkey
                have Hrd := Lib.hid hrd
                have hdl : q2e.data.length ≤ 16384 := by
                  have hg := (Hq1.out.good es2 (List.mem_of_getElem? Hes2.out)).1 q2e (List.mem_of_getElem? hx1)
                  rcases Frm.check_cases (Frm.encode_zero hg.1).1 with ⟨_, d⟩ | ⟨_, _, d⟩ | ⟨_, d⟩
                  · exact d
                  · rw [d]; decide
                  · rw [d]; decide
                have Hdl := Lib.hid hdl
                have hT1 : ¬ al.length ≤ T := by omega
                have hT2 : (T : Int) < (al.length : Int) := by omega
                have hT3 : decide ((al.length : Int) ≤ (T : Int)) = false := decide_eq_false (by omega)
                have c3 : (k : Int) < (fs.length : Int) := by omega
                have hwT : IntKind.i64.wrap ((T : Int) + 1) = (T : Int) + 1 := IntWalk.i64_in _ (by omega)
                have hwk : IntKind.i64.wrap ((k : Int) + 1) = (k : Int) + 1 := IntWalk.i64_in _ (by omega)
                have hwm : IntKind.i64.wrap ((fs.length : Int) - 1) = (fs.length : Int) - 1 := IntWalk.i64_in _ (by omega)
                have Hkl := Lib.hid hkl
                have HT := Lib.hid hT
                have Hflk := Lib.hid hfl
                clear hq hq2 hx1 hkey hrd hdl hfdl hf0 ha0 hle hfl hal hT
                go_wp2_with fail
                have hS24 := hS.drew
                clear hS
                refine wpL_begin [24, 25, 26, 27, 28, 29, 30, 31, 32, 33, 34, 35, 36] (fun w' => w'.rangeAt fb (fo + k * 36) (entL q2e (.slice fda fdn fdc)) ∧ w'.rangeAt ab (ao + T * 34) (entL q2e (.slice ada adn adc)) ∧ w'.cell? ⟨fb, fo + k * 36, none⟩ = some (.int .i64 q2e.tag)) (by kernel_rfl) ?_
                have hG1 := HF.out _ _ (hS24.pick (by first | ((repeat (first | with_reducible apply pick0 | with_reducible apply pick_there)); done) | ((repeat (first | apply pick0 | apply pick_there)); done) | fail))
                have hG2 := HA.out _ _ (hS24.pick (by first | ((repeat (first | with_reducible apply pick0 | with_reducible apply pick_there)); done) | ((repeat (first | apply pick0 | apply pick_there)); done) | fail))
                have hG : World.rangeAt _ fb (fo + k * 36) (entL q2e (.slice fda fdn fdc)) ∧ World.rangeAt _ ab (ao + T * 34) (entL q2e (.slice ada adn adc)) ∧ World.cell? _ ⟨fb, fo + k * 36, none⟩ = some (.int .i64 q2e.tag) := ⟨hG1, hG2, hG1 0 _ rfl⟩
                clear hG1 hG2
                refine rg_pure 0 (by conv => lhs; whnf) (by kernel_rfl) (by intro _ _ _ h; exact h) (yl_move (by conv => lhs; whnf)) (by go_frame; first | done | rfl) ?_
                refine rg_pure 1 (by conv => lhs; whnf) (by kernel_rfl) (by intro _ _ _ h; exact h) (yl_move (by conv => lhs; whnf)) (by go_frame; first | done | rfl) ?_
                refine rg_pure 2 (by conv => lhs; whnf) (by kernel_rfl) (by intro _ _ _ h; exact h) (yl_len (by conv => lhs; whnf) (by ((intro wq; go_simp); first | done | (with_reducible rfl)))) (by go_frame; first | done | rfl) ?_
                refine rg_pure 3 (by conv => lhs; whnf) (by kernel_rfl) (by intro _ _ _ h; exact h) (yl_bin (by conv => lhs; whnf) (by conv => lhs; whnf) (by ((intro wq; go_simp); first | done | (with_reducible rfl)))) (by go_frame; first | done | rfl) ?_
                refine rg_pure 4 (by conv => lhs; whnf) (by kernel_rfl) (by intro _ _ _ h; exact h) (yl_move (by conv => lhs; whnf)) (by go_frame; first | done | rfl) ?_
                refine rg_pure 5 (by conv => lhs; whnf) (by kernel_rfl) (by intro _ _ _ h; exact h) (yg_move (by rfl) (by conv => lhs; whnf)) (by go_frame; first | done | rfl) ?_
                refine rg_pure 6 (by conv => lhs; whnf) (by kernel_rfl) (by intro _ _ _ h; exact h) (yg_move (by rfl) (by conv => lhs; whnf)) (by go_frame; first | done | rfl) ?_
                refine rg_pure 7 (by conv => lhs; whnf) (by kernel_rfl) (by intro _ _ _ h; exact h) (yg_index (by rfl) (by conv => lhs; whnf) (by conv => lhs; whnf) (by ((intro wq; go_simp); first | done | (with_reducible rfl)))) (by go_frame; first | done | rfl) ?_
                refine rg_pure 8 (by conv => lhs; whnf) (by kernel_rfl) (by intro _ _ _ h; exact h) (yg_field (by rfl) (by conv => lhs; whnf) (by ((intro wq; go_simp); first | done | (with_reducible rfl)))) (by go_frame; first | done | rfl) ?_
                refine rg_take 9 (by conv => lhs; whnf) (by kernel_rfl) (by intro _ _ _ h; exact h) (tg_loadN (b := fb) (o := fo + k * 36) (entL q2e (.slice fda fdn fdc)) (by rfl) (by rfl) Tryd.underlying27 rfl (by rw [entL_len q2e _ Hxk.out]; exact infoEntSize) (fun w hw => hw.1)) (by assumption) (by go_frame; first | done | rfl) ?_
                refine rg_pure 10 (by conv => lhs; whnf) (by kernel_rfl) (by intro _ _ _ h; exact h) (yg_move (by rfl) (by conv => lhs; whnf)) (by go_frame; first | done | rfl) ?_
                refine rg_pure 11 (by conv => lhs; whnf) (by kernel_rfl) (by intro _ _ _ h; exact h) (yg_move (by rfl) (by conv => lhs; whnf)) (by go_frame; first | done | rfl) ?_
                refine rg_pure 12 (by conv => lhs; whnf) (by kernel_rfl) (by intro _ _ _ h; exact h) (yg_index (by rfl) (by conv => lhs; whnf) (by conv => lhs; whnf) (by ((intro wq; go_simp); first | done | (with_reducible rfl)))) (by go_frame; first | done | rfl) ?_
                refine rg_take 13 (by conv => lhs; whnf) (by kernel_rfl) (by intro _ _ _ h; exact h) (tg_loadN (b := ab) (o := ao + T * 34) (entL q2e (.slice ada adn adc)) (by rfl) (by rfl) Tryd.underlying27 rfl (by rw [entL_len q2e _ Hxk.out]; exact infoEntSize) (fun w hw => hw.2.1)) (by assumption) (by go_frame; first | done | rfl) ?_
                clear hG
                refine rg_eff 14 (by conv => lhs; whnf) (by kernel_rfl) (fun K hK => ?_)
                refine eg_call [.agg (entA q2e (.slice fda fdn fdc)), .agg (entA q2e (.slice ada adn adc))] (by rfl) (by kernel_rfl) (by rfl) ?_
                refine (sameEntry_c q2e Hxk.out fda ada fdn adn fdc adc (Ro.of_pick (Hrf.out _) (by first | ((repeat (first | with_reducible apply pick0 | with_reducible apply pick_there)); done) | ((repeat (first | apply pick0 | apply pick_there)); done) | fail)) (Ro.of_sub Hrd.out (by repeat (first | (with_reducible apply sub_refl) | ((with_reducible apply sub_take); (· first | ((repeat (first | with_reducible apply pick0 | with_reducible apply pick_there)); done) | ((repeat (first | apply pick0 | apply pick_there)); done) | fail)) | (with_reducible apply sub_drop)))) hS24 (Nat.le_trans Hdl.out (by decide))).mono ?_
                rintro ee w25 ⟨v, rfl, rfl, hS25⟩
                clear hS24
                have hG1 := HF.out _ _ (hS25.pick (by first | ((repeat (first | with_reducible apply pick0 | with_reducible apply pick_there)); done) | ((repeat (first | apply pick0 | apply pick_there)); done) | fail))
                have hG2 := HA.out _ _ (hS25.pick (by first | ((repeat (first | with_reducible apply pick0 | with_reducible apply pick_there)); done) | ((repeat (first | apply pick0 | apply pick_there)); done) | fail))
                have hG : w25.rangeAt fb (fo + k * 36) (entL q2e (.slice fda fdn fdc)) ∧ w25.rangeAt ab (ao + T * 34) (entL q2e (.slice ada adn adc)) ∧ w25.cell? ⟨fb, fo + k * 36, none⟩ = some (.int .i64 q2e.tag) := ⟨hG1, hG2, hG1 0 _ rfl⟩
                clear hG1 hG2
                refine hK _ _ (.inr (.inl hG)) ?_
                clear hK K
                refine rg_pure 15 (by conv => lhs; whnf) (by kernel_rfl) (by intro _ _ _ h; exact h) (yg_un (by rfl) (by conv => lhs; whnf) (by ((intro wq; go_simp); first | done | (with_reducible rfl)))) (by go_frame; first | done | rfl) ?_
                refine rg_pure 16 (by conv => lhs; whnf) (by kernel_rfl) (by intro _ _ _ h; exact h) (yg_pick (by rfl) (by conv => lhs; whnf) (by conv => lhs; whnf)) (by go_frame; first | done | rfl) ?_
                refine rg_pure 17 (by conv => lhs; whnf) (by kernel_rfl) (by intro _ _ _ h; exact h) (yl_move (by conv => lhs; whnf)) (by go_frame; first | done | rfl) ?_
                refine rg_pure 18 (by conv => lhs; whnf) (by kernel_rfl) (by intro _ _ _ h; exact h) (yg_move (by rfl) (by conv => lhs; whnf)) (by go_frame; first | done | rfl) ?_
                refine rg_pure 19 (by conv => lhs; whnf) (by kernel_rfl) (by intro _ _ _ h; exact h) (yg_move (by rfl) (by conv => lhs; whnf)) (by go_frame; first | done | rfl) ?_
                refine rg_pure 20 (by conv => lhs; whnf) (by kernel_rfl) (by intro _ _ _ h; exact h) (yg_index (by rfl) (by conv => lhs; whnf) (by conv => lhs; whnf) (by ((intro wq; go_simp); first | done | (with_reducible rfl)))) (by go_frame; first | done | rfl) ?_
                refine rg_pure 21 (by conv => lhs; whnf) (by kernel_rfl) (by intro _ _ _ h; exact h) (yg_field (by rfl) (by conv => lhs; whnf) (by ((intro wq; go_simp); first | done | (with_reducible rfl)))) (by go_frame; first | done | rfl) ?_
                refine rg_pure 22 (by conv => lhs; whnf) (by kernel_rfl) (by intro _ _ _ h; exact h) (yg_field (by rfl) (by conv => lhs; whnf) (by ((intro wq; go_simp); first | done | (with_reducible rfl)))) (by go_frame; first | done | rfl) ?_
                refine rg_take 23 (by conv => lhs; whnf) (by kernel_rfl) (by intro _ _ _ h; exact h) (tg_load (by rfl) (by conv => lhs; whnf) (by kernel_rfl) (fun w hw => hw.2.2)) (by assumption) (by go_frame; first | done | rfl) ?_
                clear hG
                by_cases ht : q2e.tag = 2
                · have htd : (q2e.tag == 2) = true := by rw [ht]; rfl
                  by_cases hkm : k + 1 < fs.length
                  · have hkd : decide ((k : Int) < (fs.length : Int) - 1) = true := decide_eq_true (by omega)
                    have hcf : Seg.committedB (es.map (·.c)) = false := by
                      cases hc : Seg.committedB (es.map (·.c)) with
                      | false => rfl
                      | true => have := HCk.out hc ht; have := Hflk.out; omega
                    clear ht hkm
                    refine rg_pure 24 (by conv => lhs; whnf) (by kernel_rfl) (by intro _ _ _ h; exact h) (yg_bin (by rfl) (by conv => lhs; whnf) (by conv => lhs; whnf) (by ((intro wq; go_simp); first | done | (with_reducible rfl)))) (by go_frame; first | done | rfl) ?_
                    refine rg_pure 25 (by conv => lhs; whnf) (by kernel_rfl) (by intro _ _ _ h; exact h) (yg_move (by rfl) (by conv => lhs; whnf)) (by go_frame; first | done | rfl) ?_
                    refine rg_pure 26 (by conv => lhs; whnf) (by kernel_rfl) (by intro _ _ _ h; exact h) (yg_move (by rfl) (by conv => lhs; whnf)) (by go_frame; first | done | rfl) ?_
                    refine rg_pure 27 (by conv => lhs; whnf) (by kernel_rfl) (by intro _ _ _ h; exact h) (yg_move (by rfl) (by conv => lhs; whnf)) (by go_frame; first | done | rfl) ?_
                    refine rg_pure 28 (by conv => lhs; whnf) (by kernel_rfl) (by intro _ _ _ h; exact h) (yg_len (by rfl) (by conv => lhs; whnf) (by ((intro wq; go_simp); first | done | (with_reducible rfl)))) (by go_frame; first | done | rfl) ?_
                    refine rg_pure 29 (by conv => lhs; whnf) (by kernel_rfl) (by intro _ _ _ h; exact h) (yg_bin (by rfl) (by conv => lhs; whnf) (by conv => lhs; whnf) (by ((intro wq; go_simp); first | done | (with_reducible rfl)))) (by go_frame; first | done | rfl) ?_
                    refine rg_pure 30 (by conv => lhs; whnf) (by kernel_rfl) (by intro _ _ _ h; exact h) (yg_bin (by rfl) (by conv => lhs; whnf) (by conv => lhs; whnf) (by ((intro wq; go_simp); first | done | (with_reducible rfl)))) (by go_frame; first | done | rfl) ?_
                    refine rg_pure 31 (by conv => lhs; whnf) (by kernel_rfl) (by intro _ _ _ h; exact h) (yg_pick (by rfl) (by conv => lhs; whnf) (by conv => lhs; whnf)) (by go_frame; first | done | rfl) ?_
                    refine rg_pure 32 (by conv => lhs; whnf) (by kernel_rfl) (by intro _ _ _ h; exact h) (yg_move (by rfl) (by conv => lhs; whnf)) (by go_frame; first | done | rfl) ?_
                    refine rg_pure 33 (by conv => lhs; whnf) (by kernel_rfl) (by intro _ _ _ h; exact h) (yg_move (by rfl) (by conv => lhs; whnf)) (by go_frame; first | done | rfl) ?_
                    refine rg_eff 34 (by conv => lhs; whnf) (by kernel_rfl) (fun K hK => ?_)
                    refine eg_call [.slice oa es.length oc] (by rfl) (by kernel_rfl) (by rfl) ?_
                    refine (committed_c es oa oc (fun d hd => (Hek.out d hd).1) (fun w hw => Sat.rd (hw.pick (by first | ((repeat (first | with_reducible apply pick0 | with_reducible apply pick_there)); done) | ((repeat (first | apply pick0 | apply pick_there)); done) | fail))) (by have := Hel.out; omega) hS25).mono ?_
                    rintro ee w26 ⟨v, rfl, rfl, hS26⟩
                    rw [hcf]
                    refine hK _ _ (.inl rfl) ?_
                    clear hK K hS25
                    refine rg_pure 35 (by conv => lhs; whnf) (by kernel_rfl) (by intro _ _ _ h; exact h) (yg_pick (by rfl) (by conv => lhs; whnf) (by conv => lhs; whnf)) (by go_frame; first | done | rfl) ?_
                    refine rg_pure 36 (by conv => lhs; whnf) (by kernel_rfl) (by intro _ _ _ h; exact h) (yg_pick (by rfl) (by conv => lhs; whnf) (by conv => lhs; whnf)) (by go_frame; first | done | rfl) ?_
                    refine wpL_done (by kernel_rfl) ?_
                    try simp only [List.getElem_toArray, List.getElem_cons_succ, List.getElem_cons_zero]
                    try go_frame
                    go_wp2_with fail
                    go_roundg (fs.length - (k + 1))
                    case measure => have := Hkl.out; omega
                    case rel => exact ⟨k + 1, T + 1, rfl, Nat.succ_le_of_lt Hkl.out, by first | rfl | go_num, by have := HT.out; omega, by first | rfl | go_num, hS26.sub (by repeat (first | (with_reducible apply sub_refl) | ((with_reducible apply sub_take); (· first | ((repeat (first | with_reducible apply pick0 | with_reducible apply pick_there)); done) | ((repeat (first | apply pick0 | apply pick_there)); done) | fail)) | (with_reducible apply sub_drop)))⟩
                  · have hkd : decide ((k : Int) < (fs.length : Int) - 1) = false := decide_eq_false (by omega)
                    clear ht hkm
                    refine rg_pure 24 (by conv => lhs; whnf) (by kernel_rfl) (by intro _ _ _ h; exact h) (yg_bin (by rfl) (by conv => lhs; whnf) (by conv => lhs; whnf) (by ((intro wq; go_simp); first | done | (with_reducible rfl)))) (by go_frame; first | done | rfl) ?_
                    refine rg_pure 25 (by conv => lhs; whnf) (by kernel_rfl) (by intro _ _ _ h; exact h) (yg_move (by rfl) (by conv => lhs; whnf)) (by go_frame; first | done | rfl) ?_
                    refine rg_pure 26 (by conv => lhs; whnf) (by kernel_rfl) (by intro _ _ _ h; exact h) (yg_move (by rfl) (by conv => lhs; whnf)) (by go_frame; first | done | rfl) ?_
                    refine rg_pure 27 (by conv => lhs; whnf) (by kernel_rfl) (by intro _ _ _ h; exact h) (yg_move (by rfl) (by conv => lhs; whnf)) (by go_frame; first | done | rfl) ?_
                    refine rg_pure 28 (by conv => lhs; whnf) (by kernel_rfl) (by intro _ _ _ h; exact h) (yg_len (by rfl) (by conv => lhs; whnf) (by ((intro wq; go_simp); first | done | (with_reducible rfl)))) (by go_frame; first | done | rfl) ?_
                    refine rg_pure 29 (by conv => lhs; whnf) (by kernel_rfl) (by intro _ _ _ h; exact h) (yg_bin (by rfl) (by conv => lhs; whnf) (by conv => lhs; whnf) (by ((intro wq; go_simp); first | done | (with_reducible rfl)))) (by go_frame; first | done | rfl) ?_
                    refine rg_pure 30 (by conv => lhs; whnf) (by kernel_rfl) (by intro _ _ _ h; exact h) (yg_bin (by rfl) (by conv => lhs; whnf) (by conv => lhs; whnf) (by ((intro wq; go_simp); first | done | (with_reducible rfl)))) (by go_frame; first | done | rfl) ?_
                    refine rg_pure 31 (by conv => lhs; whnf) (by kernel_rfl) (by intro _ _ _ h; exact h) (yg_pick (by rfl) (by conv => lhs; whnf) (by conv => lhs; whnf)) (by go_frame; first | done | rfl) ?_
                    refine rg_pure 32 (by conv => lhs; whnf) (by kernel_rfl) (by intro _ _ _ h; exact h) (yg_move (by rfl) (by conv => lhs; whnf)) (by go_frame; first | done | rfl) ?_
                    refine rg_skip 33 (by conv => lhs; whnf) (by kernel_rfl) (by intro _ _ _ h; exact h) (by rfl) (by go_frame; first | done | rfl) ?_
                    refine rg_skip 34 (by conv => lhs; whnf) (by kernel_rfl) (by intro _ _ _ h; exact h) (by rfl) (by go_frame; first | done | rfl) ?_
                    refine rg_pure 35 (by conv => lhs; whnf) (by kernel_rfl) (by intro _ _ _ h; exact h) (yg_pick (by rfl) (by conv => lhs; whnf) (by conv => lhs; whnf)) (by go_frame; first | done | rfl) ?_
                    refine rg_pure 36 (by conv => lhs; whnf) (by kernel_rfl) (by intro _ _ _ h; exact h) (yg_pick (by rfl) (by conv => lhs; whnf) (by conv => lhs; whnf)) (by go_frame; first | done | rfl) ?_
                    refine wpL_done (by kernel_rfl) ?_
                    try simp only [List.getElem_toArray, List.getElem_cons_succ, List.getElem_cons_zero]
                    try go_frame
                    go_wp2_with fail
                    go_roundg (fs.length - (k + 1))
                    case measure => have := Hkl.out; omega
                    case rel => exact ⟨k + 1, T + 1, rfl, Nat.succ_le_of_lt Hkl.out, by first | rfl | go_num, by have := HT.out; omega, by first | rfl | go_num, hS25.sub (by repeat (first | (with_reducible apply sub_refl) | ((with_reducible apply sub_take); (· first | ((repeat (first | with_reducible apply pick0 | with_reducible apply pick_there)); done) | ((repeat (first | apply pick0 | apply pick_there)); done) | fail)) | (with_reducible apply sub_drop)))⟩
                · have htd : (q2e.tag == 2) = false := beq_false_of_ne ht
                  clear ht
                  refine rg_pure 24 (by conv => lhs; whnf) (by kernel_rfl) (by intro _ _ _ h; exact h) (yg_bin (by rfl) (by conv => lhs; whnf) (by conv => lhs; whnf) (by ((intro wq; go_simp); first | done | (with_reducible rfl)))) (by go_frame; first | done | rfl) ?_
                  refine rg_pure 25 (by conv => lhs; whnf) (by kernel_rfl) (by intro _ _ _ h; exact h) (yg_move (by rfl) (by conv => lhs; whnf)) (by go_frame; first | done | rfl) ?_
                  refine rg_skip 26 (by conv => lhs; whnf) (by kernel_rfl) (by intro _ _ _ h; exact h) (by rfl) (by go_frame; first | done | rfl) ?_
                  refine rg_skip 27 (by conv => lhs; whnf) (by kernel_rfl) (by intro _ _ _ h; exact h) (by rfl) (by go_frame; first | done | rfl) ?_
                  refine rg_skip 28 (by conv => lhs; whnf) (by kernel_rfl) (by intro _ _ _ h; exact h) (by rfl) (by go_frame; first | done | rfl) ?_
                  refine rg_skip 29 (by conv => lhs; whnf) (by kernel_rfl) (by intro _ _ _ h; exact h) (by rfl) (by go_frame; first | done | rfl) ?_
                  refine rg_skip 30 (by conv => lhs; whnf) (by kernel_rfl) (by intro _ _ _ h; exact h) (by rfl) (by go_frame; first | done | rfl) ?_
                  refine rg_pure 31 (by conv => lhs; whnf) (by kernel_rfl) (by intro _ _ _ h; exact h) (yg_pick (by rfl) (by conv => lhs; whnf) (by conv => lhs; whnf)) (by go_frame; first | done | rfl) ?_
                  refine rg_pure 32 (by conv => lhs; whnf) (by kernel_rfl) (by intro _ _ _ h; exact h) (yg_move (by rfl) (by conv => lhs; whnf)) (by go_frame; first | done | rfl) ?_
                  refine rg_skip 33 (by conv => lhs; whnf) (by kernel_rfl) (by intro _ _ _ h; exact h) (by rfl) (by go_frame; first | done | rfl) ?_
                  refine rg_skip 34 (by conv => lhs; whnf) (by kernel_rfl) (by intro _ _ _ h; exact h) (by rfl) (by go_frame; first | done | rfl) ?_
                  refine rg_pure 35 (by conv => lhs; whnf) (by kernel_rfl) (by intro _ _ _ h; exact h) (yg_pick (by rfl) (by conv => lhs; whnf) (by conv => lhs; whnf)) (by go_frame; first | done | rfl) ?_
                  refine rg_pure 36 (by conv => lhs; whnf) (by kernel_rfl) (by intro _ _ _ h; exact h) (yg_pick (by rfl) (by conv => lhs; whnf) (by conv => lhs; whnf)) (by go_frame; first | done | rfl) ?_
                  refine wpL_done (by kernel_rfl) ?_
                  try simp only [List.getElem_toArray, List.getElem_cons_succ, List.getElem_cons_zero]
                  try go_frame
                  go_wp2_with fail
                  go_roundg (fs.length - (k + 1))
                  case measure => have := Hkl.out; omega
                  case rel => exact ⟨k + 1, T + 1, rfl, Nat.succ_le_of_lt Hkl.out, by first | rfl | go_num, by have := HT.out; omega, by first | rfl | go_num, hS25.sub (by repeat (first | (with_reducible apply sub_refl) | ((with_reducible apply sub_take); (· first | ((repeat (first | with_reducible apply pick0 | with_reducible apply pick_there)); done) | ((repeat (first | apply pick0 | apply pick_there)); done) | fail)) | (with_reducible apply sub_drop)))⟩
              · obtain rfl : k = fs.length := by omega
                have c3 : ¬ (fs.length : Int) < (fs.length : Int) := by omega
                clear hkl hk
                go_wp2_with fail
                go_roundg (C.length - (s + 1))
                case measure => have := Hsl.out; omega
                case rel => exact ⟨s + 1, rfl, Nat.succ_le_of_lt Hsl.out, by first | rfl | go_num, by rw [Hnx.out]; congr 1; have := Hfl.out; omega, hS.sub (by repeat (first | (with_reducible apply sub_refl) | ((with_reducible apply sub_take); (· first | ((repeat (first | with_reducible apply pick0 | with_reducible apply pick_there)); done) | ((repeat (first | apply pick0 | apply pick_there)); done) | fail)) | (with_reducible apply sub_drop)))⟩
          · clear Hfit2
            go_wp2_with fail
            generalize hA : offs C s = A at *
            go_loopg [17, 25] fs.length (fun g atv kv wr => ∃ (k T : Nat), g = fs.length - k ∧ k ≤ fs.length ∧ kv = .int .i64 k ∧ T = A + k ∧ atv = .int .i64 T ∧
              Sat w0 wr (osl 70 36 (.slice fa fs.length fc) (fndsL fs) :: dataF fs :: osl 27 34 (.slice ava al.length avc) (entsL al) :: osl 43 40 (.slice oa es.length oc) (sdsL es) :: dataD es :: osl 3 1 (.slice (some ⟨bk, off, none⟩) C.length wc) (ints L.segs) :: LogRep p m L :: MedRep m M :: F))
            case atStart => exact ⟨0, A, rfl, Nat.zero_le _, rfl, rfl, rfl, hS23⟩
            case round =>
              obtain ⟨k, T, rfl, hk, rfl, hT, rfl, hS⟩ := hrel
              clear hS23
              by_cases hkl : k < fs.length
              · have hle := Hle.out
                have hfl := Hfl.out
                have hal := Hq5.out
                have hel := Hel.out
                obtain ⟨q, hq⟩ : ∃ q, fs[k]? = some q := ⟨_, List.getElem?_eq_getElem hkl⟩
                obtain ⟨q2, hq2⟩ : ∃ q2, al[T]? = some q2 := ⟨_, List.getElem?_eq_getElem (by omega)⟩
                have hx1 : es2[k]? = some q.1.e := by rw [← Hfe.out, List.getElem?_map, hq]; rfl
                have hx2 : q2.1 = q.1.e := by
                  have h1 := Hfa.out k (by omega)
                  rw [← hT, ← Hq4.out, List.getElem?_map, hq2, hx1] at h1
                  exact Option.some.inj h1
                have Hrf := Lib.hid (fun R => dataF_ro (w0 := w0) (R := R) hq)
                have Hen := Hq6.out q2 (List.mem_of_getElem? hq2)
                have HCk := Lib.hid (fun hc ht => Hcom.out hc k q.1.e hx1 ht)
                obtain ⟨fb, fo, fc', hee, hf0⟩ := fnds_at Hfk.out hq (hS.pick (by first | ((repeat (first | with_reducible apply pick0 | with_reducible apply pick_there)); done) | ((repeat (first | apply pick0 | apply pick_there)); done) | fail))
                cases hee
                obtain ⟨ab, ao, ac', hee, ha0⟩ := ents_at (fun p hp => (Hq6.out p hp).key) hq2 (hS.pick (by first | ((repeat (first | with_reducible apply pick0 | with_reducible apply pick_there)); done) | ((repeat (first | apply pick0 | apply pick_there)); done) | fail))
                cases hee
                have HF := Lib.hid (show ∀ w' R, Sat w0 w' (osl 70 36 (.slice (some ⟨fb, fo, none⟩) fs.length fc) (fndsL fs) :: R) → ∀ j y, (entL q.1.e q.2)[j]? = some y → w'.cell? ⟨fb, fo + k * 36 + j, none⟩ = some y from fun w' R hw j y hj => by
                  obtain ⟨_, _, _, hee, h0⟩ := fnds_at Hfk.out hq hw
                  cases hee; exact h0 j y hj)
                have HA := Lib.hid (show ∀ w' R, Sat w0 w' (osl 27 34 (.slice (some ⟨ab, ao, none⟩) al.length avc) (entsL al) :: R) → ∀ j y, (entL q2.1 q2.2)[j]? = some y → w'.cell? ⟨ab, ao + T * 34 + j, none⟩ = some y from fun w' R hw j y hj => by
                  obtain ⟨_, _, _, hee, h0⟩ := ents_at (fun p hp => (Hq6.out p hp).key) hq2 hw
                  cases hee; exact h0 j y hj)
                obtain ⟨q2e, q2v⟩ := q2
                obtain ⟨⟨xe, xat, xsz⟩, xv⟩ := q
                dsimp only at hx1 hx2 Hrf HCk HF HA
                subst hx2
                obtain ⟨hkey, hrd, ada, adn, adc, hadv⟩ := Hen
                dsimp only at hkey hrd hadv
                subst hadv
                obtain ⟨fda, fdn, fdc, rfl, hfdl, _⟩ := (Hrf.out _) _ (hS.pick (by first | ((repeat (first | with_reducible apply pick0 | with_reducible apply pick_there)); done) | ((repeat (first | apply pick0 | apply pick_there)); done) | fail))
                have Hxk := Lib.hid hkey
                have Hrd := Lib.hid hrd
                have hdl : q2e.data.length ≤ 16384 := by
                  have hg := (Hq1.out.good es2 (List.mem_of_getElem? Hes2.out)).1 q2e (List.mem_of_getElem? hx1)
                  rcases Frm.check_cases (Frm.encode_zero hg.1).1 with ⟨_, d⟩ | ⟨_, _, d⟩ | ⟨_, d⟩
                  · exact d
                  · rw [d]; decide
                  · rw [d]; decide
                have Hdl := Lib.hid hdl
                have hT1 : ¬ al.length ≤ T := by omega
                have hT2 : (T : Int) < (al.length : Int) := by omega
                have hT3 : decide ((al.length : Int) ≤ (T : Int)) = false := decide_eq_false (by omega)
                have c3 : (k : Int) < (fs.length : Int) := by omega
                have hwT : IntKind.i64.wrap ((T : Int) + 1) = (T : Int) + 1 := IntWalk.i64_in _ (by omega)
                have hwk : IntKind.i64.wrap ((k : Int) + 1) = (k : Int) + 1 := IntWalk.i64_in _ (by omega)
                have hwm : IntKind.i64.wrap ((fs.length : Int) - 1) = (fs.length : Int) - 1 := IntWalk.i64_in _ (by omega)
                have Hkl := Lib.hid hkl
                have HT := Lib.hid hT
                have Hflk := Lib.hid hfl
                clear hq hq2 hx1 hkey hrd hdl hfdl hf0 ha0 hle hfl hal hT
                go_wp2_with fail
                have hS24 := hS.drew
                clear hS
                refine wpL_begin [24, 25, 26, 27, 28, 29, 30, 31, 32, 33, 34, 35, 36] (fun w' => w'.rangeAt fb (fo + k * 36) (entL q2e (.slice fda fdn fdc)) ∧ w'.rangeAt ab (ao + T * 34) (entL q2e (.slice ada adn adc)) ∧ w'.cell? ⟨fb, fo + k * 36, none⟩ = some (.int .i64 q2e.tag)) (by kernel_rfl) ?_
                have hG1 := HF.out _ _ (hS24.pick (by first | ((repeat (first | with_reducible apply pick0 | with_reducible apply pick_there)); done) | ((repeat (first | apply pick0 | apply pick_there)); done) | fail))
                have hG2 := HA.out _ _ (hS24.pick (by first | ((repeat (first | with_reducible apply pick0 | with_reducible apply pick_there)); done) | ((repeat (first | apply pick0 | apply pick_there)); done) | fail))
                have hG : World.rangeAt _ fb (fo + k * 36) (entL q2e (.slice fda fdn fdc)) ∧ World.rangeAt _ ab (ao + T * 34) (entL q2e (.slice ada adn adc)) ∧ World.cell? _ ⟨fb, fo + k * 36, none⟩ = some (.int .i64 q2e.tag) := ⟨hG1, hG2, hG1 0 _ rfl⟩
                clear hG1 hG2
                refine rg_pure 0 (by conv => lhs; whnf) (by kernel_rfl) (by intro _ _ _ h; exact h) (yl_move (by conv => lhs; whnf)) (by go_frame; first | done | rfl) ?_
                refine rg_pure 1 (by conv => lhs; whnf) (by kernel_rfl) (by intro _ _ _ h; exact h) (yl_move (by conv => lhs; whnf)) (by go_frame; first | done | rfl) ?_
                refine rg_pure 2 (by conv => lhs; whnf) (by kernel_rfl) (by intro _ _ _ h; exact h) (yl_len (by conv => lhs; whnf) (by ((intro wq; go_simp); first | done | (with_reducible rfl)))) (by go_frame; first | done | rfl) ?_
                refine rg_pure 3 (by conv => lhs; whnf) (by kernel_rfl) (by intro _ _ _ h; exact h) (yl_bin (by conv => lhs; whnf) (by conv => lhs; whnf) (by ((intro wq; go_simp); first | done | (with_reducible rfl)))) (by go_frame; first | done | rfl) ?_
                refine rg_pure 4 (by conv => lhs; whnf) (by kernel_rfl) (by intro _ _ _ h; exact h) (yl_move (by conv => lhs; whnf)) (by go_frame; first | done | rfl) ?_
                refine rg_pure 5 (by conv => lhs; whnf) (by kernel_rfl) (by intro _ _ _ h; exact h) (yg_move (by rfl) (by conv => lhs; whnf)) (by go_frame; first | done | rfl) ?_
                refine rg_pure 6 (by conv => lhs; whnf) (by kernel_rfl) (by intro _ _ _ h; exact h) (yg_move (by rfl) (by conv => lhs; whnf)) (by go_frame; first | done | rfl) ?_
                refine rg_pure 7 (by conv => lhs; whnf) (by kernel_rfl) (by intro _ _ _ h; exact h) (yg_index (by rfl) (by conv => lhs; whnf) (by conv => lhs; whnf) (by ((intro wq; go_simp); first | done | (with_reducible rfl)))) (by go_frame; first | done | rfl) ?_
                refine rg_pure 8 (by conv => lhs; whnf) (by kernel_rfl) (by intro _ _ _ h; exact h) (yg_field (by rfl) (by conv => lhs; whnf) (by ((intro wq; go_simp); first | done | (with_reducible rfl)))) (by go_frame; first | done | rfl) ?_
                refine rg_take 9 (by conv => lhs; whnf) (by kernel_rfl) (by intro _ _ _ h; exact h) (tg_loadN (b := fb) (o := fo + k * 36) (entL q2e (.slice fda fdn fdc)) (by rfl) (by rfl) Tryd.underlying27 rfl (by rw [entL_len q2e _ Hxk.out]; exact infoEntSize) (fun w hw => hw.1)) (by assumption) (by go_frame; first | done | rfl) ?_
                refine rg_pure 10 (by conv => lhs; whnf) (by kernel_rfl) (by intro _ _ _ h; exact h) (yg_move (by rfl) (by conv => lhs; whnf)) (by go_frame; first | done | rfl) ?_
                refine rg_pure 11 (by conv => lhs; whnf) (by kernel_rfl) (by intro _ _ _ h; exact h) (yg_move (by rfl) (by conv => lhs; whnf)) (by go_frame; first | done | rfl) ?_
                refine rg_pure 12 (by conv => lhs; whnf) (by kernel_rfl) (by intro _ _ _ h; exact h) (yg_index (by rfl) (by conv => lhs; whnf) (by conv => lhs; whnf) (by ((intro wq; go_simp); first | done | (with_reducible rfl)))) (by go_frame; first | done | rfl) ?_
                refine rg_take 13 (by conv => lhs; whnf) (by kernel_rfl) (by intro _ _ _ h; exact h) (tg_loadN (b := ab) (o := ao + T * 34) (entL q2e (.slice ada adn adc)) (by rfl) (by rfl) Tryd.underlying27 rfl (by rw [entL_len q2e _ Hxk.out]; exact infoEntSize) (fun w hw => hw.2.1)) (by assumption) (by go_frame; first | done | rfl) ?_
                clear hG
                refine rg_eff 14 (by conv => lhs; whnf) (by kernel_rfl) (fun K hK => ?_)
                refine eg_call [.agg (entA q2e (.slice fda fdn fdc)), .agg (entA q2e (.slice ada adn adc))] (by rfl) (by kernel_rfl) (by rfl) ?_
                refine (sameEntry_c q2e Hxk.out fda ada fdn adn fdc adc (Ro.of_pick (Hrf.out _) (by first | ((repeat (first | with_reducible apply pick0 | with_reducible apply pick_there)); done) | ((repeat (first | apply pick0 | apply pick_there)); done) | fail)) (Ro.of_sub Hrd.out (by repeat (first | (with_reducible apply sub_refl) | ((with_reducible apply sub_take); (· first | ((repeat (first | with_reducible apply pick0 | with_reducible apply pick_there)); done) | ((repeat (first | apply pick0 | apply pick_there)); done) | fail)) | (with_reducible apply sub_drop)))) hS24 (Nat.le_trans Hdl.out (by decide))).mono ?_
                rintro ee w25 ⟨v, rfl, rfl, hS25⟩
                clear hS24
                have hG1 := HF.out _ _ (hS25.pick (by first | ((repeat (first | with_reducible apply pick0 | with_reducible apply pick_there)); done) | ((repeat (first | apply pick0 | apply pick_there)); done) | fail))
                have hG2 := HA.out _ _ (hS25.pick (by first | ((repeat (first | with_reducible apply pick0 | with_reducible apply pick_there)); done) | ((repeat (first | apply pick0 | apply pick_there)); done) | fail))
                have hG : w25.rangeAt fb (fo + k * 36) (entL q2e (.slice fda fdn fdc)) ∧ w25.rangeAt ab (ao + T * 34) (entL q2e (.slice ada adn adc)) ∧ w25.cell? ⟨fb, fo + k * 36, none⟩ = some (.int .i64 q2e.tag) := ⟨hG1, hG2, hG1 0 _ rfl⟩
                clear hG1 hG2
                refine hK _ _ (.inr (.inl hG)) ?_
                clear hK K
                refine rg_pure 15 (by conv => lhs; whnf) (by kernel_rfl) (by intro _ _ _ h; exact h) (yg_un (by rfl) (by conv => lhs; whnf) (by ((intro wq; go_simp); first | done | (with_reducible rfl)))) (by go_frame; first | done | rfl) ?_
                refine rg_pure 16 (by conv => lhs; whnf) (by kernel_rfl) (by intro _ _ _ h; exact h) (yg_pick (by rfl) (by conv => lhs; whnf) (by conv => lhs; whnf)) (by go_frame; first | done | rfl) ?_
                refine rg_pure 17 (by conv => lhs; whnf) (by kernel_rfl) (by intro _ _ _ h; exact h) (yl_move (by conv => lhs; whnf)) (by go_frame; first | done | rfl) ?_
                refine rg_pure 18 (by conv => lhs; whnf) (by kernel_rfl) (by intro _ _ _ h; exact h) (yg_move (by rfl) (by conv => lhs; whnf)) (by go_frame; first | done | rfl) ?_
                refine rg_pure 19 (by conv => lhs; whnf) (by kernel_rfl) (by intro _ _ _ h; exact h) (yg_move (by rfl) (by conv => lhs; whnf)) (by go_frame; first | done | rfl) ?_
                refine rg_pure 20 (by conv => lhs; whnf) (by kernel_rfl) (by intro _ _ _ h; exact h) (yg_index (by rfl) (by conv => lhs; whnf) (by conv => lhs; whnf) (by ((intro wq; go_simp); first | done | (with_reducible rfl)))) (by go_frame; first | done | rfl) ?_
                refine rg_pure 21 (by conv => lhs; whnf) (by kernel_rfl) (by intro _ _ _ h; exact h) (yg_field (by rfl) (by conv => lhs; whnf) (by ((intro wq; go_simp); first | done | (with_reducible rfl)))) (by go_frame; first | done | rfl) ?_
                refine rg_pure 22 (by conv => lhs; whnf) (by kernel_rfl) (by intro _ _ _ h; exact h) (yg_field (by rfl) (by conv => lhs; whnf) (by ((intro wq; go_simp); first | done | (with_reducible rfl)))) (by go_frame; first | done | rfl) ?_
                refine rg_take 23 (by conv => lhs; whnf) (by kernel_rfl) (by intro _ _ _ h; exact h) (tg_load (by rfl) (by conv => lhs; whnf) (by kernel_rfl) (fun w hw => hw.2.2)) (by assumption) (by go_frame; first | done | rfl) ?_
                clear hG
                by_cases ht : q2e.tag = 2
                · have htd : (q2e.tag == 2) = true := by rw [ht]; rfl
                  by_cases hkm : k + 1 < fs.length
                  · have hkd : decide ((k : Int) < (fs.length : Int) - 1) = true := decide_eq_true (by omega)
                    have hcf : Seg.committedB (es.map (·.c)) = false := by
                      cases hc : Seg.committedB (es.map (·.c)) with
                      | false => rfl
                      | true => have := HCk.out hc ht; have := Hflk.out; omega
                    clear ht hkm
                    refine rg_pure 24 (by conv => lhs; whnf) (by kernel_rfl) (by intro _ _ _ h; exact h) (yg_bin (by rfl) (by conv => lhs; whnf) (by conv => lhs; whnf) (by ((intro wq; go_simp); first | done | (with_reducible rfl)))) (by go_frame; first | done | rfl) ?_
                    refine rg_pure 25 (by conv => lhs; whnf) (by kernel_rfl) (by intro _ _ _ h; exact h) (yg_move (by rfl) (by conv => lhs; whnf)) (by go_frame; first | done | rfl) ?_
                    refine rg_pure 26 (by conv => lhs; whnf) (by kernel_rfl) (by intro _ _ _ h; exact h) (yg_move (by rfl) (by conv => lhs; whnf)) (by go_frame; first | done | rfl) ?_
                    refine rg_pure 27 (by conv => lhs; whnf) (by kernel_rfl) (by intro _ _ _ h; exact h) (yg_move (by rfl) (by conv => lhs; whnf)) (by go_frame; first | done | rfl) ?_
                    refine rg_pure 28 (by conv => lhs; whnf) (by kernel_rfl) (by intro _ _ _ h; exact h) (yg_len (by rfl) (by conv => lhs; whnf) (by ((intro wq; go_simp); first | done | (with_reducible rfl)))) (by go_frame; first | done | rfl) ?_
                    refine rg_pure 29 (by conv => lhs; whnf) (by kernel_rfl) (by intro _ _ _ h; exact h) (yg_bin (by rfl) (by conv => lhs; whnf) (by conv => lhs; whnf) (by ((intro wq; go_simp); first | done | (with_reducible rfl)))) (by go_frame; first | done | rfl) ?_
                    refine rg_pure 30 (by conv => lhs; whnf) (by kernel_rfl) (by intro _ _ _ h; exact h) (yg_bin (by rfl) (by conv => lhs; whnf) (by conv => lhs; whnf) (by ((intro wq; go_simp); first | done | (with_reducible rfl)))) (by go_frame; first | done | rfl) ?_
                    refine rg_pure 31 (by conv => lhs; whnf) (by kernel_rfl) (by intro _ _ _ h; exact h) (yg_pick (by rfl) (by conv => lhs; whnf) (by conv => lhs; whnf)) (by go_frame; first | done | rfl) ?_
                    refine rg_pure 32 (by conv => lhs; whnf) (by kernel_rfl) (by intro _ _ _ h; exact h) (yg_move (by rfl) (by conv => lhs; whnf)) (by go_frame; first | done | rfl) ?_
                    refine rg_pure 33 (by conv => lhs; whnf) (by kernel_rfl) (by intro _ _ _ h; exact h) (yg_move (by rfl) (by conv => lhs; whnf)) (by go_frame; first | done | rfl) ?_
                    refine rg_eff 34 (by conv => lhs; whnf) (by kernel_rfl) (fun K hK => ?_)
                    refine eg_call [.slice oa es.length oc] (by rfl) (by kernel_rfl) (by rfl) ?_
                    refine (committed_c es oa oc (fun d hd => (Hek.out d hd).1) (fun w hw => Sat.rd (hw.pick (by first | ((repeat (first | with_reducible apply pick0 | with_reducible apply pick_there)); done) | ((repeat (first | apply pick0 | apply pick_there)); done) | fail))) (by have := Hel.out; omega) hS25).mono ?_
                    rintro ee w26 ⟨v, rfl, rfl, hS26⟩
                    rw [hcf]
                    refine hK _ _ (.inl rfl) ?_
                    clear hK K hS25
                    refine rg_pure 35 (by conv => lhs; whnf) (by kernel_rfl) (by intro _ _ _ h; exact h) (yg_pick (by rfl) (by conv => lhs; whnf) (by conv => lhs; whnf)) (by go_frame; first | done | rfl) ?_
                    refine rg_pure 36 (by conv => lhs; whnf) (by kernel_rfl) (by intro _ _ _ h; exact h) (yg_pick (by rfl) (by conv => lhs; whnf) (by conv => lhs; whnf)) (by go_frame; first | done | rfl) ?_
                    refine wpL_done (by kernel_rfl) ?_
                    try simp only [List.getElem_toArray, List.getElem_cons_succ, List.getElem_cons_zero]
                    try go_frame
                    go_wp2_with fail
                    go_roundg (fs.length - (k + 1))
                    case measure => have := Hkl.out; omega
                    case rel => exact ⟨k + 1, T + 1, rfl, Nat.succ_le_of_lt Hkl.out, by first | rfl | go_num, by have := HT.out; omega, by first | rfl | go_num, hS26.sub (by repeat (first | (with_reducible apply sub_refl) | ((with_reducible apply sub_take); (· first | ((repeat (first | with_reducible apply pick0 | with_reducible apply pick_there)); done) | ((repeat (first | apply pick0 | apply pick_there)); done) | fail)) | (with_reducible apply sub_drop)))⟩
                  · have hkd : decide ((k : Int) < (fs.length : Int) - 1) = false := decide_eq_false (by omega)
                    clear ht hkm
                    refine rg_pure 24 (by conv => lhs; whnf) (by kernel_rfl) (by intro _ _ _ h; exact h) (yg_bin (by rfl) (by conv => lhs; whnf) (by conv => lhs; whnf) (by ((intro wq; go_simp); first | done | (with_reducible rfl)))) (by go_frame; first | done | rfl) ?_
                    refine rg_pure 25 (by conv => lhs; whnf) (by kernel_rfl) (by intro _ _ _ h; exact h) (yg_move (by rfl) (by conv => lhs; whnf)) (by go_frame; first | done | rfl) ?_
                    refine rg_pure 26 (by conv => lhs; whnf) (by kernel_rfl) (by intro _ _ _ h; exact h) (yg_move (by rfl) (by conv => lhs; whnf)) (by go_frame; first | done | rfl) ?_
                    refine rg_pure 27 (by conv => lhs; whnf) (by kernel_rfl) (by intro _ _ _ h; exact h) (yg_move (by rfl) (by conv => lhs; whnf)) (by go_frame; first | done | rfl) ?_
                    refine rg_pure 28 (by conv => lhs; whnf) (by kernel_rfl) (by intro _ _ _ h; exact h) (yg_len (by rfl) (by conv => lhs; whnf) (by ((intro wq; go_simp); first | done | (with_reducible rfl)))) (by go_frame; first | done | rfl) ?_
                    refine rg_pure 29 (by conv => lhs; whnf) (by kernel_rfl) (by intro _ _ _ h; exact h) (yg_bin (by rfl) (by conv => lhs; whnf) (by conv => lhs; whnf) (by ((intro wq; go_simp); first | done | (with_reducible rfl)))) (by go_frame; first | done | rfl) ?_
                    refine rg_pure 30 (by conv => lhs; whnf) (by kernel_rfl) (by intro _ _ _ h; exact h) (yg_bin (by rfl) (by conv => lhs; whnf) (by conv => lhs; whnf) (by ((intro wq; go_simp); first | done | (with_reducible rfl)))) (by go_frame; first | done | rfl) ?_
                    refine rg_pure 31 (by conv => lhs; whnf) (by kernel_rfl) (by intro _ _ _ h; exact h) (yg_pick (by rfl) (by conv => lhs; whnf) (by conv => lhs; whnf)) (by go_frame; first | done | rfl) ?_
                    refine rg_pure 32 (by conv => lhs; whnf) (by kernel_rfl) (by intro _ _ _ h; exact h) (yg_move (by rfl) (by conv => lhs; whnf)) (by go_frame; first | done | rfl) ?_
                    refine rg_skip 33 (by conv => lhs; whnf) (by kernel_rfl) (by intro _ _ _ h; exact h) (by rfl) (by go_frame; first | done | rfl) ?_
                    refine rg_skip 34 (by conv => lhs; whnf) (by kernel_rfl) (by intro _ _ _ h; exact h) (by rfl) (by go_frame; first | done | rfl) ?_
                    refine rg_pure 35 (by conv => lhs; whnf) (by kernel_rfl) (by intro _ _ _ h; exact h) (yg_pick (by rfl) (by conv => lhs; whnf) (by conv => lhs; whnf)) (by go_frame; first | done | rfl) ?_
                    refine rg_pure 36 (by conv => lhs; whnf) (by kernel_rfl) (by intro _ _ _ h; exact h) (yg_pick (by rfl) (by conv => lhs; whnf) (by conv => lhs; whnf)) (by go_frame; first | done | rfl) ?_
                    refine wpL_done (by kernel_rfl) ?_
                    try simp only [List.getElem_toArray, List.getElem_cons_succ, List.getElem_cons_zero]
                    try go_frame
                    go_wp2_with fail
                    go_roundg (fs.length - (k + 1))
                    case measure => have := Hkl.out; omega
                    case rel => exact ⟨k + 1, T + 1, rfl, Nat.succ_le_of_lt Hkl.out, by first | rfl | go_num, by have := HT.out; omega, by first | rfl | go_num, hS25.sub (by repeat (first | (with_reducible apply sub_refl) | ((with_reducible apply sub_take); (· first | ((repeat (first | with_reducible apply pick0 | with_reducible apply pick_there)); done) | ((repeat (first | apply pick0 | apply pick_there)); done) | fail)) | (with_reducible apply sub_drop)))⟩
                · have htd : (q2e.tag == 2) = false := beq_false_of_ne ht
                  clear ht
                  refine rg_pure 24 (by conv => lhs; whnf) (by kernel_rfl) (by intro _ _ _ h; exact h) (yg_bin (by rfl) (by conv => lhs; whnf) (by conv => lhs; whnf) (by ((intro wq; go_simp); first | done | (with_reducible rfl)))) (by go_frame; first | done | rfl) ?_
                  refine rg_pure 25 (by conv => lhs; whnf) (by kernel_rfl) (by intro _ _ _ h; exact h) (yg_move (by rfl) (by conv => lhs; whnf)) (by go_frame; first | done | rfl) ?_
                  refine rg_skip 26 (by conv => lhs; whnf) (by kernel_rfl) (by intro _ _ _ h; exact h) (by rfl) (by go_frame; first | done | rfl) ?_
                  refine rg_skip 27 (by conv => lhs; whnf) (by kernel_rfl) (by intro _ _ _ h; exact h) (by rfl) (by go_frame; first | done | rfl) ?_
                  refine rg_skip 28 (by conv => lhs; whnf) (by kernel_rfl) (by intro _ _ _ h; exact h) (by rfl) (by go_frame; first | done | rfl) ?_
                  refine rg_skip 29 (by conv => lhs; whnf) (by kernel_rfl) (by intro _ _ _ h; exact h) (by rfl) (by go_frame; first | done | rfl) ?_
                  refine rg_skip 30 (by conv => lhs; whnf) (by kernel_rfl) (by intro _ _ _ h; exact h) (by rfl) (by go_frame; first | done | rfl) ?_
                  refine rg_pure 31 (by conv => lhs; whnf) (by kernel_rfl) (by intro _ _ _ h; exact h) (yg_pick (by rfl) (by conv => lhs; whnf) (by conv => lhs; whnf)) (by go_frame; first | done | rfl) ?_
                  refine rg_pure 32 (by conv => lhs; whnf) (by kernel_rfl) (by intro _ _ _ h; exact h) (yg_move (by rfl) (by conv => lhs; whnf)) (by go_frame; first | done | rfl) ?_
                  refine rg_skip 33 (by conv => lhs; whnf) (by kernel_rfl) (by intro _ _ _ h; exact h) (by rfl) (by go_frame; first | done | rfl) ?_
                  refine rg_skip 34 (by conv => lhs; whnf) (by kernel_rfl) (by intro _ _ _ h; exact h) (by rfl) (by go_frame; first | done | rfl) ?_
                  refine rg_pure 35 (by conv => lhs; whnf) (by kernel_rfl) (by intro _ _ _ h; exact h) (yg_pick (by rfl) (by conv => lhs; whnf) (by conv => lhs; whnf)) (by go_frame; first | done | rfl) ?_
                  refine rg_pure 36 (by conv => lhs; whnf) (by kernel_rfl) (by intro _ _ _ h; exact h) (yg_pick (by rfl) (by conv => lhs; whnf) (by conv => lhs; whnf)) (by go_frame; first | done | rfl) ?_
                  refine wpL_done (by kernel_rfl) ?_
                  try simp only [List.getElem_toArray, List.getElem_cons_succ, List.getElem_cons_zero]
                  try go_frame
                  go_wp2_with fail
                  go_roundg (fs.length - (k + 1))
                  case measure => have := Hkl.out; omega
                  case rel => exact ⟨k + 1, T + 1, rfl, Nat.succ_le_of_lt Hkl.out, by first | rfl | go_num, by have := HT.out; omega, by first | rfl | go_num, hS25.sub (by repeat (first | (with_reducible apply sub_refl) | ((with_reducible apply sub_take); (· first | ((repeat (first | with_reducible apply pick0 | with_reducible apply pick_there)); done) | ((repeat (first | apply pick0 | apply pick_there)); done) | fail)) | (with_reducible apply sub_drop)))⟩
              · obtain rfl : k = fs.length := by omega
                have c3 : ¬ (fs.length : Int) < (fs.length : Int) := by omega
                clear hkl hk
                go_wp2_with fail
                go_roundg (C.length - (s + 1))
                case measure => have := Hsl.out; omega
                case rel => exact ⟨s + 1, rfl, Nat.succ_le_of_lt Hsl.out, by first | rfl | go_num, by rw [Hnx.out]; congr 1; have := Hfl.out; omega, hS.sub (by repeat (first | (with_reducible apply sub_refl) | ((with_reducible apply sub_take); (· first | ((repeat (first | with_reducible apply pick0 | with_reducible apply pick_there)); done) | ((repeat (first | apply pick0 | apply pick_there)); done) | fail)) | (with_reducible apply sub_drop)))⟩
        · obtain rfl : s = C.length := by omega
          have c2 : ¬ (C.length : Int) < (C.length : Int) := by omega
          have hoff : offs C C.length = al.length := by unfold offs; rw [List.take_length]; exact Hfl'.out
          rw [hoff]
          have hll : ((al.length : Int) == (al.length : Int)) = true := by simp
          clear hsl
          go_wp2_with fail
          refine (lives_c (Ro.of_sub HH.out (by repeat (first | (with_reducible apply sub_refl) | ((with_reducible apply sub_take); (· first | ((repeat (first | with_reducible apply pick0 | with_reducible apply pick_there)); done) | ((repeat (first | apply pick0 | apply pick_there)); done) | fail)) | (with_reducible apply sub_drop)))) hS).mono ?_
          rintro ee w26 ⟨v, rfl, rfl, hS26⟩
          go_wp2
          go_ret
          exact ⟨_, rfl, rfl, hS26.sub (by repeat (first | (with_reducible apply sub_refl) | ((with_reducible apply sub_take); (· first | ((repeat (first | with_reducible apply pick0 | with_reducible apply pick_there)); done) | ((repeat (first | apply pick0 | apply pick_there)); done) | fail)) | (with_reducible apply sub_drop)))⟩
end
end Go.Proofs.YtjklhichekmdhaaDoor
