import Derived.Test.YtlinnpehkfbnkaaGreatDoorJ5
set_option linter.unusedVariables false
namespace Go.Frm
theorem fourB {l : Bs} (h : l.length = 4) : ∃ c0 c1 c2 c3, l = [c0, c1, c2, c3] := by
  match l, h with
  | [c0, c1, c2, c3], _ => exact ⟨c0, c1, c2, c3, rfl⟩
theorem encode_zero {x : Ent} (h : (encode x).2 = 0) : check x = 0 ∧ (encode x).1 = le (crc (body x)) 4 ++ body x := by
  unfold encode at *
  split at h
  · rename_i hc; exact absurd h hc
  · rename_i hc
    rw [if_neg hc]
    exact ⟨by simpa using hc, rfl⟩
theorem check_cases {x : Ent} (h : check x = 0) : x.tag = 0 ∧ x.data.length ≤ 16384 ∨ x.tag = 2 ∧ x.key = zero32 ∧ x.data = [] ∨ x.tag = 1 ∧ x.data = [] := by
  unfold check at h
  split at h
  · rename_i t; split at h
    · cases h
    · exact .inl ⟨t, by omega⟩
  split at h
  · rename_i t
    split at h
    · cases h
    rename_i hk
    split at h
    · cases h
    rename_i hd
    exact .inr (.inl ⟨t, by simpa using hk, List.eq_nil_of_length_eq_zero (by omega)⟩)
  split at h
  · rename_i t
    split at h
    · cases h
    rename_i hd
    exact .inr (.inr ⟨t, List.eq_nil_of_length_eq_zero (by omega)⟩)
  · cases h
theorem read_encode {x : Ent} (h : (encode x).2 = 0) (hk : x.key.length = 32) (rest : Bs) : read ((encode x).1 ++ rest) = (x, (encode x).1.length, 0) := by
  have hz := Seg.size_enc h hk
  obtain ⟨hc, he⟩ := encode_zero h
  have hs : size x = 9 ∨ 41 ≤ size x := by
    unfold size
    rw [if_neg (by simp [hc])]
    by_cases ht : x.tag = 2
    · rw [if_pos ht]; omega
    · rw [if_neg ht]; omega
  have hs2 : size x ≤ 16425 := by
    rcases check_cases hc with ⟨t, d⟩ | ⟨t, k, d⟩ | ⟨t, d⟩
    all_goals
      unfold size
      rw [if_neg (by simp [hc])]
      by_cases ht : x.tag = 2
      · rw [if_pos ht]; omega
      · rw [if_neg ht]
        first | omega | (rw [d]; simp)
  obtain ⟨c0, c1, c2, c3, hC⟩ := fourB (le_len (crc (body x)) 4)
  obtain ⟨s0, s1, s2, s3, hS⟩ := fourB (le_len (size x) 4)
  have hnum : num [s0, s1, s2, s3] = size x := by rw [← hS]; exact num_le 4 _ (by omega)
  have hcrc : num [c0, c1, c2, c3] = crc (body x) := by rw [← hC]; exact num_le 4 _ (crc_lt _)
  have hb : body x = [s0, s1, s2, s3] ++ (UInt8.ofNat x.tag.toNat :: ((if x.tag = 2 then [] else x.key) ++ x.data)) := by unfold body; rw [hS]; simp
  have hE : (encode x).1 = c0 :: c1 :: c2 :: c3 :: s0 :: s1 :: s2 :: s3 :: UInt8.ofNat x.tag.toNat :: ((if x.tag = 2 then [] else x.key) ++ x.data) := by rw [he, hC, hb]; rfl
  have hlen : ((if x.tag = 2 then [] else x.key) ++ x.data).length + 9 = size x := by rw [← hz, hE]; simp
  have hT : UInt8.ofNat x.tag.toNat = 0 ∧ x.tag = 0 ∧ 41 ≤ size x ∨ UInt8.ofNat x.tag.toNat = 1 ∧ x.tag = 1 ∧ size x = 41 ∨ UInt8.ofNat x.tag.toNat = 2 ∧ x.tag = 2 ∧ size x = 9 := by
    rcases check_cases hc with ⟨t, d⟩ | ⟨t, k, d⟩ | ⟨t, d⟩
    · left; rw [t]; refine ⟨rfl, rfl, ?_⟩
      unfold size; rw [if_neg (by simp [hc]), if_neg (by rw [t]; decide)]; omega
    · right; right; rw [t]; refine ⟨rfl, rfl, ?_⟩
      unfold size; rw [if_neg (by simp [hc]), if_pos t]
    · right; left; rw [t]; refine ⟨rfl, rfl, ?_⟩
      unfold size; rw [if_neg (by simp [hc]), if_neg (by rw [t]; decide), d]; rfl
  have hfit : fits (UInt8.ofNat x.tag.toNat) (size x) = true := by
    rcases hT with ⟨a, _, b⟩ | ⟨a, _, b⟩ | ⟨a, _, b⟩
    · rw [a]; unfold fits; rw [if_pos rfl, decide_eq_true_eq]; omega
    · rw [a]; unfold fits; rw [if_neg (by decide), if_pos rfl, decide_eq_true_eq]; omega
    · rw [a]; unfold fits; rw [if_neg (by decide), if_neg (by decide), if_pos rfl, decide_eq_true_eq]; omega
  generalize hP : (if x.tag = 2 then [] else x.key) ++ x.data = P at *
  generalize hG : UInt8.ofNat x.tag.toNat = T at *
  have hL : ((encode x).1 ++ rest) = c0 :: c1 :: c2 :: c3 :: s0 :: s1 :: s2 :: s3 :: T :: (P ++ rest) := by rw [hE]; rfl
  have hll : (c0 :: c1 :: c2 :: c3 :: s0 :: s1 :: s2 :: s3 :: T :: (P ++ rest)).length = size x + rest.length := by simp; omega
  have htk : (c0 :: c1 :: c2 :: c3 :: s0 :: s1 :: s2 :: s3 :: T :: (P ++ rest)).take (size x) = c0 :: c1 :: c2 :: c3 :: s0 :: s1 :: s2 :: s3 :: T :: P := by
    have : c0 :: c1 :: c2 :: c3 :: s0 :: s1 :: s2 :: s3 :: T :: (P ++ rest) = (c0 :: c1 :: c2 :: c3 :: s0 :: s1 :: s2 :: s3 :: T :: P) ++ rest := rfl
    rw [this, List.take_append_of_le_length (by simp; omega), List.take_of_length_le (by simp; omega)]
  rw [hz, hL]
  unfold read
  dsimp only
  rw [if_neg (by rw [hll]; omega)]
  have hn : num (((c0 :: c1 :: c2 :: c3 :: s0 :: s1 :: s2 :: s3 :: T :: (P ++ rest)).drop 4).take 4) = size x := hnum
  have h8 : (c0 :: c1 :: c2 :: c3 :: s0 :: s1 :: s2 :: s3 :: T :: (P ++ rest)).getD 8 0 = T := rfl
  have h4 : num ((c0 :: c1 :: c2 :: c3 :: s0 :: s1 :: s2 :: s3 :: T :: (P ++ rest)).take 4) = crc (body x) := hcrc
  rw [hn, h8, hfit, if_neg (by decide), if_neg (by rw [hll]; omega), htk, h4]
  have hdr : (c0 :: c1 :: c2 :: c3 :: s0 :: s1 :: s2 :: s3 :: T :: P).drop 4 = body x := by rw [hb]; rfl
  rw [hdr, if_neg (by simp)]
  have h9 : (c0 :: c1 :: c2 :: c3 :: s0 :: s1 :: s2 :: s3 :: T :: (P ++ rest)).drop 9 = P ++ rest := rfl
  have h41 : (c0 :: c1 :: c2 :: c3 :: s0 :: s1 :: s2 :: s3 :: T :: P).drop 41 = P.drop 32 := rfl
  rw [h9, h41]
  rcases hT with ⟨a, t, b⟩ | ⟨a, t, b⟩ | ⟨a, t, b⟩
  · rw [if_pos b]
    rw [if_neg (by rw [t]; decide)] at hP
    have e1 : (P ++ rest).take 32 = x.key := by rw [← hP, List.append_assoc, List.take_append_of_le_length (by omega), List.take_of_length_le (by omega)]
    have e2 : P.drop 32 = x.data := by rw [← hP, List.drop_append, List.drop_of_length_le (by omega), hk]; simp
    rw [e1, e2, a]
    obtain ⟨tag, key, data⟩ := x
    simp only at t ⊢
    rw [t]; rfl
  · rw [if_pos (by omega)]
    rw [if_neg (by rw [t]; decide)] at hP
    have e1 : (P ++ rest).take 32 = x.key := by rw [← hP, List.append_assoc, List.take_append_of_le_length (by omega), List.take_of_length_le (by omega)]
    have e2 : P.drop 32 = x.data := by rw [← hP, List.drop_append, List.drop_of_length_le (by omega), hk]; simp
    rw [e1, e2, a]
    obtain ⟨tag, key, data⟩ := x
    simp only at t ⊢
    rw [t]; rfl
  · rw [if_neg (by omega), a]
    rcases check_cases hc with ⟨t', d⟩ | ⟨t', k, d⟩ | ⟨t', d⟩
    · rw [t] at t'; cases t'
    · obtain ⟨tag, key, data⟩ := x
      simp only at t k d ⊢
      rw [t, k, d]; rfl
    · rw [t] at t'; cases t'
def encs (l : List Ent) : Bs := l.flatMap fun x => (encode x).1
def GoodE (x : Ent) : Prop := (encode x).2 = 0 ∧ x.key.length = 32
def fnds : List Ent → Nat → List Fnd
  | [], _ => []
  | x :: l, at_ => ⟨x, at_, (encode x).1.length⟩ :: fnds l (at_ + (encode x).1.length)
end Go.Frm
namespace Go.Seg
open Go.Med
open Go.Frm (encs GoodE)
theorem name_inj {a b : Int} (ha : 0 ≤ a) (ha2 : a < 1048576) (hb : 0 ≤ b) (hb2 : b < 1048576) (h : name a = name b) : a = b := by
  have h1 := number_name a ha ha2
  have h2 := number_name b hb hb2
  rw [h] at h1
  rw [h1] at h2
  exact congrArg Prod.fst h2
theorem good_name (n : Int) (h1 : 0 ≤ n) (h2 : n < 1048576) : good (name n) = true := by
  unfold name
  rw [if_neg (by omega)]
  unfold good
  have hl : (lead ++ digs n.toNat 8).length = 12 := by rw [List.length_append, digs_len]; rfl
  have hs : (⟨(lead ++ digs n.toNat 8).toArray⟩ : ByteArray).size = 12 := by show (lead ++ digs n.toNat 8).toArray.size = 12; simp [hl]
  rw [hs]
  simp only [List.all_append]
  have hd : (digs n.toNat 8).all goodC = true := by
    rw [List.all_eq_true]
    intro c hc
    have := (List.all_eq_true.1 (digs_dig 8 n.toNat)) c hc
    unfold isDig at this
    rw [Bool.and_eq_true, decide_eq_true_eq, decide_eq_true_eq] at this
    unfold goodC
    have e1 : (48 : UInt8) ≤ c := UInt8.le_iff_toNat_le.2 this.1
    have e2 : c ≤ 57 := UInt8.le_iff_toNat_le.2 this.2
    simp [e1, e2]
  rw [hd]
  rfl
theorem dst_inj {M : Med} {K r : Nat} (h : Calm K r M) {s t : ByteArray} {i : Nat} (h1 : nget M.now s = some i) (h2 : nget M.now t = some i) : t = s := by
  by_cases e : t = s
  · exact e
  · exfalso
    have := (used_split h.ok.nowOk.srt h.dst h1).1 (t, i) (List.mem_filter.2 ⟨nget_mem h2, by simpa [bne, beq_ba] using e⟩)
    exact this rfl
theorem all_some {M : Med} (q : Quiet M) {s : ByteArray} {i : Nat} (h : nget M.now s = some i) : M.all s = ((M.file i).now, 0) := by
  unfold Med.all; rw [q.off, h]; rfl
theorem all_none {M : Med} (q : Quiet M) {s : ByteArray} (h : nget M.now s = none) : M.all s = ([], 9) := by
  unfold Med.all; rw [q.off, h]; rfl
section
variable {K r : Nat} {M : Med} {L : Log}
theorem append_full (h : Calm K r M) {s : ByteArray} {i : Nat} (hi : nget M.now s = some i) (b : Bs) (hr : M.used + b.length ≤ M.room) :
    (M.append s b).2 = 0 ∧ (M.append s b).1.now = M.now ∧ (M.append s b).1.used = M.used + b.length ∧ (M.append s b).1.all s = ((M.all s).1 ++ b, 0) ∧ ∀ t, t ≠ s → (M.append s b).1.all t = M.all t := by
  have hlt : i < M.files.length := h.ok.nowOk.ids _ (nget_mem hi)
  rcases append_cases h.quiet s b with ⟨a1, _⟩ | ⟨j, a1, ⟨a2, a3⟩ | ⟨a2, a3⟩⟩
  · rw [hi] at a1; cases a1
  · exfalso; omega
  rw [hi] at a1
  cases a1
  have hq := (h.append s b).quiet
  rw [a3] at hq ⊢
  refine ⟨rfl, rfl, ?_, ?_, fun t ht => ?_⟩
  · have := used_set h.ok h.dst hi ((M.file i).do ⟨false, 0, b⟩)
    have e : ((M.file i).do ⟨false, 0, b⟩).now.length = (M.file i).now.length + b.length := by simp [Fil.do, Chg.on]
    rw [e] at this
    show (M.setFile i _).used = _
    omega
  · rw [all_some hq (show nget (M.setFile i _).now s = some i from hi), all_some h.quiet hi]
    show (((M.setFile i _).file i).now, (0 : Int)) = _
    rw [file_set hlt, if_pos rfl]; rfl
  · cases hj : nget M.now t with
    | none => rw [all_none hq (show nget (M.setFile i _).now t = none from hj), all_none h.quiet hj]
    | some j =>
      rw [all_some hq (show nget (M.setFile i _).now t = some j from hj), all_some h.quiet hj]
      show (((M.setFile i _).file j).now, (0 : Int)) = _
      rw [file_set hlt, if_neg (fun e => ht (dst_inj h hi (by rw [← e]; exact hj)))]
theorem create_full (h : Calm K r M) {s : ByteArray} (hg : good s = true) (hn : nget M.now s = none) (hl : M.now.length < 500) :
    (M.create s).2 = 0 ∧ (M.create s).1.now = nput M.now s M.files.length ∧ (M.create s).1.used = M.used ∧ (M.create s).1.all s = ([], 0) ∧ ∀ t, t ≠ s → (M.create s).1.all t = M.all t := by
  rcases create_cases h.quiet s with ⟨c1, c2, c3⟩ | ⟨_, _, _, c⟩
  · exfalso
    apply c1
    unfold Med.create
    rw [h.quiet.off, h.quiet.step, hg, hn]
    simp only [Bool.false_eq_true, if_false, Bool.true_eq_false, Option.isSome_none]
    rw [if_neg (by omega)]
  have hq := (h.create s).quiet
  rw [c] at hq ⊢
  refine ⟨rfl, rfl, ?_, ?_, fun t ht => ?_⟩
  · show ((nput M.now s M.files.length).map fun p => ((M.files ++ [Fil.new]).getD p.2 Fil.new).now.length).sum = _
    rw [sum_put _ _ _ (fun j => ((M.files ++ [Fil.new]).getD j Fil.new).now.length), ndel_none hn]
    have e0 : ((M.files ++ [Fil.new]).getD M.files.length Fil.new).now.length = 0 := by simp [Fil.new]
    rw [e0, Nat.zero_add]
    refine Med.sum_congr (g := fun j => ((M.files ++ [Fil.new]).getD j Fil.new).now.length) (h := fun j => (M.file j).now.length) fun p hp => ?_
    have := h.ok.nowOk.ids p hp
    simp only [Med.file, List.getD_eq_getElem?_getD]
    rw [List.getElem?_append_left this]
  · refine (all_some hq (i := M.files.length) (nget_put_self h.ok.nowOk.srt _ _)).trans ?_
    simp [Med.file, Fil.new]
  · have e := nget_put_ne (l := M.now) (i := M.files.length) ht
    cases hj : nget M.now t with
    | none => rw [hj] at e; exact (all_none hq e).trans (all_none h.quiet hj).symm
    | some j =>
      rw [hj] at e
      refine (all_some hq e).trans ?_
      rw [all_some h.quiet hj]
      have := h.ok.nowOk.ids _ (nget_mem hj)
      simp only [Med.file, List.getD_eq_getElem?_getD]
      rw [List.getElem?_append_left this]
theorem read_all (q : Quiet M) {s : ByteArray} {l : Bs} (h : M.all s = (l, 0)) {a n : Nat} (hn : a + n ≤ l.length) : M.read s a n = ((l.drop a).take n, 0) := by
  unfold Med.all at h
  unfold Med.read
  rw [q.off] at h ⊢
  simp only [Bool.false_eq_true, if_false] at h ⊢
  split at h
  · cases h
  · rename_i i hi
    cases h
    rw [if_neg (by omega), if_neg (by omega)]
    simp
theorem Log.shut_limit (L : Log) (M : Med) : (L.shut M).1.1.limit = L.limit := by
  unfold Log.shut
  split
  · rfl
  split
  · split <;> rfl
  · rfl
structure Holds (n : Nat) (L : Log) (M : Med) (C : List (List Frm.Ent)) : Prop where
  keeps : Keeps (n * 5) 1048576 L M
  len : L.l.length = C.length
  at_ : ∀ (k : Nat) (es : List Frm.Ent), C[k]? = some es → L.l[k]? = some ((k : Int), 8 + ((encs es).length : Int))
  file : ∀ (k : Nat) (es : List Frm.Ent), C[k]? = some es → M.all (name k) = (mag ++ encs es, 0)
  good : ∀ es ∈ C, (∀ x ∈ es, GoodE x) ∧ es ≠ []
  fit : ∀ es ∈ C, 8 + ((encs es).length : Int) ≤ L.limit ∨ es.length = 1
  count : C.length ≤ n
  used : M.used ≤ n * 400
  names : M.now.length ≤ n
  only : ∀ (s : ByteArray) (i : Nat), nget M.now s = some i → ∃ k : Nat, k < C.length ∧ s = name k
def put (C : List (List Frm.Ent)) (on : Bool) (x : Frm.Ent) : List (List Frm.Ent) := if on then C.dropLast ++ [C.getLastD [] ++ [x]] else C ++ [[x]]
theorem last_of {C : List (List Frm.Ent)} (h : C ≠ []) : C = C.dropLast ++ [C.getLastD []] := by
  conv => lhs; rw [← List.dropLast_concat_getLast h]
  rw [List.getLastD_eq_getLast?, List.getLast?_eq_some_getLast h]; rfl
theorem encs_app (a b : List Frm.Ent) : encs (a ++ b) = encs a ++ encs b := by unfold encs; rw [List.flatMap_append]
theorem encs_one (x : Frm.Ent) : encs [x] = (Frm.encode x).1 := by unfold encs; simp
variable {n : Nat} {C : List (List Frm.Ent)}
theorem Holds.next (h : Holds n L M C) : L.next = C.length := by
  unfold Log.next
  cases hl : L.l.getLast? with
  | none =>
    have := List.getLast?_eq_none_iff.1 hl
    have h2 := h.len
    rw [this] at h2
    simp only [List.length_nil] at h2
    simp only; omega
  | some s =>
    rw [List.getLast?_eq_getElem?] at hl
    have hlt := (List.getElem?_eq_some_iff.1 hl).1
    have h2 := h.len
    have hc : C[L.l.length - 1]? = some (C[L.l.length - 1]'(by omega)) := List.getElem?_eq_getElem (by omega)
    have h3 := h.at_ _ _ hc
    rw [hl] at h3
    cases h3
    simp only; omega
theorem enc_small {x : Frm.Ent} (h0 : (Frm.encode x).2 = 0) (hk : x.key.length = 32) (hd : x.data.length ≤ 300) : (Frm.encode x).1.length ≤ 341 := by
  rw [size_enc h0 hk]
  unfold Frm.size
  split
  · omega
  · split <;> omega
theorem read_back {s : Int × Int} {x : Frm.Ent} {es : List Frm.Ent} (hK : Keeps K r L M) (hl : L.l.getLast? = some s) (hall : M.all (name s.1) = (mag ++ encs (es ++ [x]), 0)) (hg : GoodE x) :
    L.read M ⟨s.1, 8 + ((encs es).length : Int), ((Frm.encode x).1.length : Int)⟩ = (x, 0) := by
  unfold Log.read
  have hat := hK.log.at_last hl
  simp only [hat]
  have hr := read_all hK.calm.quiet hall (a := 8 + (encs es).length) (n := (Frm.encode x).1.length) (by rw [encs_app, encs_one]; simp only [List.length_append]; have : mag.length = 8 := rfl; omega)
  have hd : ((mag ++ encs (es ++ [x])).drop (8 + (encs es).length)).take (Frm.encode x).1.length = (Frm.encode x).1 := by
    rw [encs_app, encs_one, ← List.append_assoc, List.drop_append, List.drop_of_length_le (by simp only [List.length_append]; have : mag.length = 8 := rfl; omega)]
    have : 8 + (encs es).length - (mag ++ encs es).length = 0 := by simp only [List.length_append]; have : mag.length = 8 := rfl; omega
    rw [this, List.drop_zero, List.nil_append, List.take_length]
  rw [hd] at hr
  have hz : ((8 + (encs es).length : Nat) : Int) = 8 + ((encs es).length : Int) := by omega
  rw [hz] at hr
  have hre := Frm.read_encode hg.1 hg.2 []
  rw [List.append_nil] at hre
  rw [hr]
  simp only [hre]
  rw [if_neg (by decide), if_neg (by decide), if_neg (by simp)]
set_option maxHeartbeats 2000000 in
theorem Holds.append (h : Holds n L M C) (hn : n < 100) (x : Frm.Ent) (hk : x.key.length = 32) (hd : x.data.length ≤ 300) (h0 : (Frm.encode x).2 = 0) :
    (L.append M x).2.2 = 0 ∧ (L.append M x).1.1.on = true ∧ (L.append M x).1.1.limit = L.limit ∧ Holds (n + 1) (L.append M x).1.1 (L.append M x).1.2 (put C (L.fits (Frm.encode x).1.length) x) ∧
      (L.append M x).1.1.read (L.append M x).1.2 (L.append M x).2.1 = (x, 0) ∧ (L.append M x).2.1.seg = (put C (L.fits (Frm.encode x).1.length) x).length - 1 := by
  have hz := enc_small h0 hk hd
  have hK := (h.keeps.append x hk).1
  have hu := h.used
  have hroom := h.keeps.calm.room
  have hcnt := h.count
  cases hf : L.fits (Frm.encode x).1.length with
  | true =>
    rw [Log.append_grow h0 hf] at hK ⊢
    have hf' := hf
    unfold Log.fits at hf'
    rw [Bool.and_eq_true, decide_eq_true_eq] at hf'
    obtain ⟨s, hl⟩ := h.keeps.log.last hf'.1
    rw [hl] at hf'
    have hl' := hl
    rw [List.getLast?_eq_getElem?] at hl'
    have hlt := (List.getElem?_eq_some_iff.1 hl').1
    have hlen := h.len
    have hne : C ≠ [] := by intro e; rw [e, List.length_nil] at hlen; omega
    obtain ⟨c, hc⟩ : ∃ c, C.length = c + 1 := ⟨C.length - 1, by omega⟩
    have hcl : C[c]? = some (C.getLastD []) := by
      conv => lhs; rw [last_of hne]
      rw [List.getElem?_append_right (by rw [List.length_dropLast]; omega), List.length_dropLast, show c - (C.length - 1) = 0 by omega]; rfl
    generalize hes : C.getLastD [] = es at *
    have hat := h.at_ _ _ hcl
    rw [show L.l.length - 1 = c by omega, hat] at hl'
    obtain rfl : ((c : Int), 8 + ((encs es).length : Int)) = s := by injection hl'
    obtain ⟨i, hi⟩ := h.keeps.has _ (List.mem_of_getLast? hl)
    simp only at hi
    have hall := h.file _ _ hcl
    obtain ⟨a1, a2, a3, a4, a5⟩ := append_full h.keeps.calm hi (Frm.encode x).1 (by omega)
    have hmem : es ∈ C := List.mem_of_getElem? hcl
    have hE : L.grow M (Frm.encode x).1 = (({ L with l := L.l.dropLast ++ [((c : Int), 8 + ((encs es).length : Int) + ((Frm.encode x).1.length : Int))] }, (M.append (name (c : Int)) (Frm.encode x).1).1), ⟨(c : Int), 8 + ((encs es).length : Int), (Frm.encode x).1.length⟩, 0) := by
      unfold Log.grow; rw [hl]; simp only [a1, if_true]
    rw [hE] at hK ⊢
    simp only at hK ⊢
    rw [hall] at a4
    have hsz : (encs (es ++ [x])).length = (encs es).length + (Frm.encode x).1.length := by rw [encs_app, encs_one, List.length_append]
    have hput : put C true x = C.dropLast ++ [es ++ [x]] := by unfold put; rw [if_pos rfl, hes]
    rw [hput]
    have hdl : C.dropLast.length = c := by rw [List.length_dropLast]; omega
    have a4' : (M.append (name (c : Int)) (Frm.encode x).1).1.all (name (c : Int)) = (mag ++ encs (es ++ [x]), 0) := by rw [a4, encs_app, encs_one]; simp
    refine ⟨by first | trivial | rfl, hf'.1, by first | trivial | rfl, ⟨hK.mono (by omega), ?_, ?_, ?_, ?_, ?_, ?_, ?_, ?_, ?_⟩, ?_, ?_⟩
    · simp only [List.length_append, List.length_dropLast, List.length_singleton]; omega
    · intro k fs hk'
      have hcl' : C[k]? = some fs ∧ k < c ∨ k = c ∧ fs = es ++ [x] := by
        rcases Nat.lt_trichotomy k c with q | q | q
        · rw [List.getElem?_append_left (by omega), List.getElem?_dropLast, if_pos (by omega)] at hk'
          exact .inl ⟨hk', q⟩
        · subst q
          rw [List.getElem?_append_right (by omega), hdl, Nat.sub_self] at hk'
          simp at hk'
          exact .inr ⟨rfl, hk'.symm⟩
        · rw [List.getElem?_eq_none (by simp only [List.length_append, List.length_singleton]; omega)] at hk'; cases hk'
      rcases hcl' with ⟨q1, q2⟩ | ⟨rfl, rfl⟩
      · rw [List.getElem?_append_left (by rw [List.length_dropLast]; omega), List.getElem?_dropLast, if_pos (by omega)]
        exact h.at_ _ _ q1
      · rw [List.getElem?_append_right (by rw [List.length_dropLast]; omega), List.length_dropLast, show k - (L.l.length - 1) = 0 by omega, hsz]
        simp only [List.getElem?_cons_zero, Option.some.injEq, Prod.mk.injEq, true_and]
        omega
    · intro k fs hk'
      have hcl' : C[k]? = some fs ∧ k < c ∨ k = c ∧ fs = es ++ [x] := by
        rcases Nat.lt_trichotomy k c with q | q | q
        · rw [List.getElem?_append_left (by omega), List.getElem?_dropLast, if_pos (by omega)] at hk'
          exact .inl ⟨hk', q⟩
        · subst q
          rw [List.getElem?_append_right (by omega), hdl, Nat.sub_self] at hk'
          simp at hk'
          exact .inr ⟨rfl, hk'.symm⟩
        · rw [List.getElem?_eq_none (by simp only [List.length_append, List.length_singleton]; omega)] at hk'; cases hk'
      rcases hcl' with ⟨q1, q2⟩ | ⟨rfl, rfl⟩
      · rw [a5 _ (fun e => by have := name_inj (by omega) (by omega) (by omega) (by omega) e; omega)]
        exact h.file _ _ q1
      · exact a4'
    · intro fs hfs
      rcases List.mem_append.1 hfs with hfs | hfs
      · exact h.good fs ((List.dropLast_subset _ hfs))
      · rw [List.mem_singleton.1 hfs]
        refine ⟨fun y hy => ?_, by simp⟩
        rcases List.mem_append.1 hy with hy | hy
        · exact (h.good es hmem).1 y hy
        · rw [List.mem_singleton.1 hy]; exact ⟨h0, hk⟩
    · intro fs hfs
      rcases List.mem_append.1 hfs with hfs | hfs
      · exact h.fit fs ((List.dropLast_subset _ hfs))
      · rw [List.mem_singleton.1 hfs, hsz]
        left
        have h2 : 8 + ((encs es).length : Int) + ((Frm.encode x).1.length : Int) ≤ L.limit := hf'.2
        show 8 + (((encs es).length + (Frm.encode x).1.length : Nat) : Int) ≤ L.limit
        omega
    · simp only [List.length_append, List.length_singleton]; omega
    · rw [a3]; omega
    · rw [a2]; have := h.names; omega
    · intro s' j hj
      rw [a2] at hj
      obtain ⟨k, k1, k2⟩ := h.only s' j hj
      exact ⟨k, by simp only [List.length_append, List.length_singleton]; omega, k2⟩
    · exact read_back (s := ((c : Int), 8 + ((encs es).length : Int) + ((Frm.encode x).1.length : Int))) hK (by simp) a4' ⟨h0, hk⟩
    · simp only [List.length_append, List.length_singleton]; omega
  | false =>
    rw [Log.append_begin h0 hf] at hK ⊢
    obtain ⟨s1, s2, s3, s4, s5⟩ := h.keeps.shut
    have hlim := Log.shut_limit L M
    have hB : L.begin M (Frm.encode x).1 = (L.shut M).1.1.begin1 (L.shut M).1.2 (Frm.encode x).1 := by unfold Log.begin; rw [if_pos s2]
    rw [hB] at hK ⊢
    have hnx : (L.shut M).1.1.next = C.length := by rw [← h.next]; unfold Log.next; rw [s3]
    have hall2 := s5.all
    have hnow := s5.now
    have hused := s5.used
    have hroom2 := s1.calm.room
    generalize (L.shut M).1.1 = L1 at *
    generalize (L.shut M).1.2 = M1 at *
    have hnn : nget M1.now (name (C.length : Int)) = none := by
      cases hq : nget M1.now (name (C.length : Int)) with
      | none => rfl
      | some i =>
        exfalso
        rw [hnow] at hq
        obtain ⟨k, k1, k2⟩ := h.only _ _ hq
        have := name_inj (by omega) (by omega) (by omega) (by omega) k2
        omega
    obtain ⟨c1, c2, c3, c4, c5⟩ := create_full s1.calm (good_name (C.length : Int) (by omega) (by omega)) hnn (by rw [hnow]; have := h.names; omega)
    have hc1 := s1.calm.create (name (C.length : Int))
    have hself : nget (M1.create (name (C.length : Int))).1.now (name (C.length : Int)) = some M1.files.length := by rw [c2]; exact nget_put_self s1.calm.ok.nowOk.srt _ _
    obtain ⟨a1, a2, a3, a4, a5⟩ := append_full hc1 hself (mag ++ (Frm.encode x).1) (by rw [c3, hused, hc1.room, List.length_append]; have : mag.length = 8 := rfl; omega)
    have hE : L1.begin1 M1 (Frm.encode x).1 = (({ L1 with l := L1.l ++ [((C.length : Int), 8 + ((Frm.encode x).1.length : Int))], on := true, fresh := L1.fresh + 1 }, ((M1.create (name (C.length : Int))).1.append (name (C.length : Int)) (mag ++ (Frm.encode x).1)).1), ⟨(C.length : Int), 8, (Frm.encode x).1.length⟩, 0) := by
      unfold Log.begin1
      rw [hnx, if_neg (by omega), if_neg (fun hh => hh c1), if_pos a1]
    rw [hE] at hK ⊢
    simp only at hK ⊢
    rw [c4] at a4
    have a4' : ((M1.create (name (C.length : Int))).1.append (name (C.length : Int)) (mag ++ (Frm.encode x).1)).1.all (name (C.length : Int)) = (mag ++ encs ([] ++ [x]), 0) := by rw [a4, encs_app, encs_one]; simp [encs]
    have hput : put C false x = C ++ [[x]] := by unfold put; rw [if_neg (by decide)]
    rw [hput]
    have hlen := h.len
    refine ⟨by first | trivial | rfl, by first | trivial | rfl, hlim, ⟨hK.mono (by omega), ?_, ?_, ?_, ?_, ?_, ?_, ?_, ?_, ?_⟩, ?_, ?_⟩
    · simp only [s3, List.length_append, List.length_singleton]; omega
    · intro k fs hk'
      rcases Nat.lt_trichotomy k C.length with q | q | q
      · rw [List.getElem?_append_left q] at hk'
        rw [s3, List.getElem?_append_left (by omega)]
        exact h.at_ _ _ hk'
      · subst q
        rw [List.getElem?_append_right (Nat.le_refl _), Nat.sub_self] at hk'
        simp at hk'
        subst hk'
        rw [s3, List.getElem?_append_right (by omega), hlen, Nat.sub_self, encs_one]
        rfl
      · rw [List.getElem?_eq_none (by simp only [List.length_append, List.length_singleton]; omega)] at hk'; cases hk'
    · intro k fs hk'
      rcases Nat.lt_trichotomy k C.length with q | q | q
      · rw [List.getElem?_append_left q] at hk'
        have hne : name (k : Int) ≠ name (C.length : Int) := fun e => by have := name_inj (by omega) (by omega) (by omega) (by omega) e; omega
        rw [a5 _ hne, c5 _ hne, hall2]
        exact h.file _ _ hk'
      · subst q
        rw [List.getElem?_append_right (Nat.le_refl _), Nat.sub_self] at hk'
        simp at hk'
        subst hk'
        exact a4'
      · rw [List.getElem?_eq_none (by simp only [List.length_append, List.length_singleton]; omega)] at hk'; cases hk'
    · intro fs hfs
      rcases List.mem_append.1 hfs with hfs | hfs
      · exact h.good fs hfs
      · rw [List.mem_singleton.1 hfs]
        exact ⟨fun y hy => by rw [List.mem_singleton.1 hy]; exact ⟨h0, hk⟩, by simp⟩
    · intro fs hfs
      rcases List.mem_append.1 hfs with hfs | hfs
      · have := h.fit fs hfs; rw [hlim]; exact this
      · rw [List.mem_singleton.1 hfs]; right; rfl
    · simp only [List.length_append, List.length_singleton]; omega
    · rw [a3, c3, hused, List.length_append]; have : mag.length = 8 := rfl; omega
    · rw [a2, c2, nput_len]
      have := ndel_len M1.now (name (C.length : Int))
      rw [hnow] at this
      have := h.names
      rw [hnow]; omega
    · intro s' j hj
      by_cases e : s' = name (C.length : Int)
      · exact ⟨C.length, by simp, e⟩
      · rw [a2, c2, nget_put_ne e, hnow] at hj
        obtain ⟨k, k1, k2⟩ := h.only s' j hj
        exact ⟨k, by simp only [List.length_append, List.length_singleton]; omega, k2⟩
    · exact read_back (s := ((C.length : Int), 8 + ((Frm.encode x).1.length : Int))) (es := []) hK (by simp) a4' ⟨h0, hk⟩
    · simp only [List.length_append, List.length_singleton]; omega
end
end Go.Seg
namespace Go.Seg
structure Cal where
  kind : Int
  e : Frm.Ent
  n : Int
  p : Plc
  l : List Int
def Cal.cut (c : Cal) : Cal := ⟨c.kind, Frm.cutE 300 c.e, c.n, c.p, c.l.take 60⟩
def fewC (l : List Cal) (n : Nat) : List Cal := (l.take n).map Cal.cut
end Go.Seg
namespace Go.Proofs.YtlinnpehkfbnkaaGreatDoor
open Go Go.Sl Go.Med Go.MapKept Go.RowKit
structure SD where
  c : Seg.Cal
  dv : Value
  lv : Value
def sdL (d : SD) : List Value := .int .i64 d.c.kind :: (entL d.c.e d.dv ++ [.int .i64 d.c.n, .int .i64 d.c.p.seg, .int .i64 d.c.p.at_, .int .i64 d.c.p.size, d.lv])
def sdA (d : SD) : Array Value := (sdL d).toArray
def sdsL (ds : List SD) : List Value := ds.flatMap sdL
structure SDRo (w0 : World) (F : List HProp) (d : SD) : Prop where
  key : d.c.e.key.length = 32
  rd : Ro w0 F (rdsl 1 d.dv (bys d.c.e.data))
  cap : capOk d.dv
  rl : Ro w0 F (rdsl 1 d.lv (ints d.c.l))
  capl : capOk d.lv
def zeroD : SD := ⟨⟨0, Frm.zeroE, 0, Seg.Plc.zero, []⟩, .slice none 0 0, .slice none 0 0⟩
def dataD (ds : List SD) : HProp := stars (ds.map fun d => bsl d.dv d.c.e.data)
section
variable {w0 w : World} {F R : List HProp} {v bv dv x lv : Value}
end
section
variable {w0 w : World} {F R : List HProp} {v bv dv x lv : Value}
end
end Go.Proofs.YtlinnpehkfbnkaaGreatDoor
namespace Go.Seg
open Go.Med
theorem bytes_len {K : Nat} {L : Log} {M : Med} (h : M.Ok K) (n : Int) : (L.bytes M n).1.length ≤ 16777216 := by
  unfold Log.bytes
  split
  · simp
  · unfold Med.all
    split
    · simp
    split
    · simp
    · exact (h.file _).now_len
end Go.Seg
namespace Go.Seg
open Go.Med
open Go.Frm (encs GoodE)
section
variable {n : Nat} {M : Med} {L : Log} {C : List (List Frm.Ent)}
def comLast (C : List (List Frm.Ent)) : Prop := ∀ es ∈ C, ∀ (k : Nat) (x : Frm.Ent), es[k]? = some x → x.tag = 2 → k + 1 = es.length
def noCom (es : List Frm.Ent) : Prop := ∀ x ∈ es, x.tag ≠ 2
structure Tail (on : Bool) (C : List (List Frm.Ent)) : Prop where
  last : comLast C
  tail : on = true → noCom (C.getLastD [])
theorem Tail.put {on b : Bool} (h : Tail on C) (hb : b = true → on = true) (x : Frm.Ent) : comLast (put C b x) := by
  intro es hes k y hk hy
  have hold : ∀ l, noCom l → ∀ (k : Nat) (y : Frm.Ent), (l ++ [x])[k]? = some y → y.tag = 2 → k + 1 = (l ++ [x]).length := by
    intro l hl k y hk hy
    rcases Nat.lt_trichotomy k l.length with q | q | q
    · rw [List.getElem?_append_left q] at hk
      exact absurd hy (hl y (List.mem_of_getElem? hk))
    · rw [List.length_append, q]; rfl
    · rw [List.getElem?_eq_none (by simp only [List.length_append, List.length_singleton]; omega)] at hk; cases hk
  unfold Seg.put at hes
  cases b with
  | true =>
    simp only [if_true] at hes
    rcases List.mem_append.1 hes with hes | hes
    · exact h.last es (List.dropLast_subset _ hes) k y hk hy
    · rw [List.mem_singleton.1 hes] at hk ⊢
      exact hold _ (h.tail (hb rfl)) k y hk hy
  | false =>
    simp only [Bool.false_eq_true, if_false] at hes
    rcases List.mem_append.1 hes with hes | hes
    · exact h.last es hes k y hk hy
    · rw [List.mem_singleton.1 hes] at hk ⊢
      exact hold [] (fun x hx => by cases hx) k y hk hy
def committedB (l : List Cal) : Bool := l.all fun c => c.kind == 1 || !(c.e.tag == 2)
theorem Holds.at_k (h : Holds n L M C) {k : Nat} {es : List Frm.Ent} (hk : C[k]? = some es) : L.at (k : Int) = some k := by
  have h1 := h.at_ k es hk
  cases hat : L.at (k : Int) with
  | none =>
    exfalso
    unfold Log.at at hat
    rw [List.findIdx?_eq_none_iff] at hat
    have := hat _ (List.mem_of_getElem? h1)
    simp at this
  | some i =>
    obtain ⟨h2, s, h3, h4⟩ := Log.at_lt hat
    have h5 : i < C.length := by rw [← h.len]; exact h2
    have h6 := h.at_ i _ (List.getElem?_eq_getElem h5)
    rw [h6] at h3
    cases h3
    simp only at h4
    congr 1
    omega
theorem Holds.bytes (h : Holds n L M C) {k : Nat} {es : List Frm.Ent} (hk : C[k]? = some es) : L.bytes M (k : Int) = (mag ++ encs es, 0) := by
  unfold Log.bytes
  rw [h.at_k hk]
  exact h.file k es hk
theorem Holds.size (h : Holds n L M C) {k : Nat} {es : List Frm.Ent} (hk : C[k]? = some es) : L.size (k : Int) = ((mag ++ encs es).length : Nat) := by
  unfold Log.size
  rw [h.at_k hk]
  have h1 := h.at_ k es hk
  simp only [List.getD_eq_getElem?_getD, h1, Option.getD_some, List.length_append]
  have : mag.length = 8 := rfl
  omega
theorem Holds.small (h : Holds n L M C) (hn : n ≤ 100) {k : Nat} {es : List Frm.Ent} (hk : C[k]? = some es) : (mag ++ encs es).length ≤ 16777216 := by
  have h1 := h.file k es hk
  have h2 := bytes_len (L := L) h.keeps.calm.ok (k : Int)
  rw [h.bytes hk] at h2
  exact h2
theorem Holds.start (lim : Int) (h1 : 128 ≤ lim) (h2 : lim ≤ 1048576) : Holds 0 ⟨lim, [], false, 0⟩ (new 1048576) [] := by
  refine ⟨⟨⟨⟨h1, h2⟩, List.Pairwise.nil, (fun s hs => by cases hs), (fun s hs => by cases hs), ⟨Int.le_refl _, by simp⟩, fun hh => by cases hh⟩, Calm.new 0 1048576 (by decide), fun s hs => by cases hs⟩, rfl, (fun k es hk => by simp at hk), (fun k es hk => by simp at hk), (fun es hes => by cases hes), (fun es hes => by cases hes), Nat.le_refl _, Nat.le_refl _, Nat.le_refl _, fun s i hs => by cases hs⟩
end
end Go.Seg
namespace Go.Proofs.YtlinnpehkfbnkaaGreatDoor
open Go Go.Sl Go.Med Go.MapKept Go.RowKit
section
variable {w0 w : World} {F R : List HProp} {v bv dv x lv : Value}
end
end Go.Proofs.YtlinnpehkfbnkaaGreatDoor
namespace Go.Seg
open Go.Med
end Go.Seg
namespace Go.Proofs.YtlinnpehkfbnkaaGreatDoor
open Go Go.Sl Go.Med Go.MapKept Go.RowKit
section
variable {w0 w : World} {F R : List HProp} {v bv dv x lv : Value}
end
section
variable {w0 w : World} {F R : List HProp} {v bv dv x lv : Value}
theorem fndsL_at {fs : List (Frm.Fnd × Value)} (hk : ∀ p ∈ fs, p.1.e.key.length = 32) {i : Nat} {p : Frm.Fnd × Value} (hi : fs[i]? = some p) {j : Nat} {y : Value} (hj : (fndL p.1 p.2)[j]? = some y) : (fndsL fs)[i * 36 + j]? = some y := by
  induction fs generalizing i with
  | nil => simp at hi
  | cons x fs ih =>
    have hx := fndL_len x.1 x.2 (hk x (.head _))
    unfold fndsL at *
    rw [List.flatMap_cons]
    cases i with
    | zero =>
      obtain rfl : x = p := by simpa using hi
      rw [List.getElem?_append_left (by have := (List.getElem?_eq_some_iff.1 hj).1; omega), Nat.zero_mul, Nat.zero_add]
      exact hj
    | succ i =>
      rw [List.getElem?_append_right (by rw [hx]; omega), hx, show (i + 1) * 36 + j - 36 = i * 36 + j by omega]
      exact ih (fun d hd => hk d (.tail _ hd)) (by simpa using hi)
theorem fndL_ent (f : Frm.Fnd) (dv : Value) {j : Nat} {y : Value} (h : (entL f.e dv)[j]? = some y) : (fndL f dv)[j]? = some y := by
  unfold fndL
  rw [List.getElem?_append_left (List.getElem?_eq_some_iff.1 h).1]
  exact h
theorem fnds_at {fs : List (Frm.Fnd × Value)} {v : Value} {i : Nat} {p : Frm.Fnd × Value} (hk : ∀ p ∈ fs, p.1.e.key.length = 32) (hi : fs[i]? = some p) (h : Sat w0 w (osl 118 36 v (fndsL fs) :: R)) :
    ∃ bk off c, v = .slice (some ⟨bk, off, none⟩) fs.length c ∧ ∀ j y, (entL p.1.e p.2)[j]? = some y → w.cell? ⟨bk, off + i * 36 + j, none⟩ = some y := by
  have hr := Sat.rd h
  obtain ⟨a, n, c, rfl, hl, hx⟩ := id hr
  rw [fndsL_len hk] at hl
  obtain rfl : n = fs.length := by omega
  have hx0 : (fndsL fs)[i * 36 + 0]? = some (.int .i64 p.1.e.tag) := fndsL_at hk hi (fndL_ent _ _ rfl)
  obtain ⟨bk, off, rfl, hcell⟩ := rdsl_cells hr hx0
  refine ⟨bk, off, c, rfl, fun j y hj => ?_⟩
  have := hcell _ _ (fndsL_at hk hi (fndL_ent _ _ hj))
  rw [← Nat.add_assoc] at this
  exact this
theorem fnds_sl {fs : List (Frm.Fnd × Value)} {v : Value} (hk : ∀ p ∈ fs, p.1.e.key.length = 32) (h : Sat w0 w (osl 118 36 v (fndsL fs) :: R)) : ∃ a c, v = .slice a fs.length c := by
  obtain ⟨a, n, c, rfl, hl, hx⟩ := Sat.rd h
  rw [fndsL_len hk] at hl
  obtain rfl : n = fs.length := by omega
  exact ⟨a, c, rfl⟩
theorem dataF_at : ∀ (fs : List (Frm.Fnd × Value)) (i : Nat) (p : Frm.Fnd × Value), fs[i]? = some p → ∃ G, dataF fs = star (bsl p.2 p.1.e.data) G
  | [], _, _, h => by cases h
  | x :: fs, 0, p, h => by
    obtain rfl : x = p := by simpa using h
    exact ⟨_, rfl⟩
  | x :: fs, i + 1, p, h => by
    obtain ⟨G, hG⟩ := dataF_at fs i p (by simpa using h)
    refine ⟨star (bsl x.2 x.1.e.data) G, ?_⟩
    show star (bsl x.2 x.1.e.data) (dataF fs) = _
    rw [hG, star_left_comm]
theorem dataF_ro {fs : List (Frm.Fnd × Value)} {i : Nat} {p : Frm.Fnd × Value} (h : fs[i]? = some p) : Ro w0 (dataF fs :: R) (rdsl 1 p.2 (bys p.1.e.data)) := fun w hw => by
  obtain ⟨G, hG⟩ := dataF_at fs i p h
  rw [hG] at hw
  exact Sat.rd (Sat.star.1 hw)
theorem bsl_capL {l : Bs} (h : Sat w0 w (bsl v l :: R)) : capOk v ∧ ∃ a c, v = .slice a l.length c := by
  refine ⟨bsl_cap h, ?_⟩
  obtain ⟨a, n, c, rfl, _, _, rfl⟩ := bsl_cap' h
  exact ⟨a, c, rfl⟩
end
section
variable {w0 w : World} {F R : List HProp} {v bv dv x lv : Value}
def offs (C : List (List Frm.Ent)) (s : Nat) : Nat := ((C.take s).flatten).length
structure EntRd (w0 : World) (F : List HProp) (p : Frm.Ent × Value) : Prop where
  key : p.1.key.length = 32
  rd : Ro w0 F (rdsl 1 p.2 (bys p.1.data))
  sl : ∃ a n c, p.2 = .slice a n c
end
end Go.Proofs.YtlinnpehkfbnkaaGreatDoor
namespace Go.Frm
theorem scanL_count : ∀ (k : Nat) (b : Bs) (at_ : Nat), (scanL k b at_).1.length ≤ k
  | 0, _, _ => Nat.le_refl 0
  | k + 1, b, at_ => by
    unfold scanL
    split
    · exact Nat.zero_le _
    split
    · exact Nat.zero_le _
    · simp only [List.length_cons]
      have := scanL_count k
      exact Nat.succ_le_succ (this _ _)
theorem scan_count (b : Bs) : (scan b).1.length ≤ b.length := by
  unfold scan
  split
  · exact scanL_count _ _ _
  · exact Nat.zero_le _
end Go.Frm
namespace Go.Proofs.YtlinnpehkfbnkaaGreatDoor
open Go Go.Sl Go.Med Go.MapKept Go.RowKit
abbrev lbt (L : Seg.Log) (M : Med) : Rep.Told := fun n => L.bytes M n
section
variable {w0 w : World} {F : List HProp} {p m K : Nat} {L : Seg.Log} {M : Med} {sv : Value}
set_option maxRecDepth 20000 in
set_option maxHeartbeats 8000000 in
theorem split_c (hL : L.Ok) (hM : M.Ok K) (hH : Ro w0 F Half) (h : Sat w0 w (osl 3 1 sv (ints L.segs) :: LogRep p m L :: MedRep m M :: F)) :
    Calls Tryz.prog 52 #[ptr p, sv] w (Rtn fun v w' => v = .tuple #[.int .i64 (Rep.split (lbt L M) L.segs L.segs.length).1, errno (Rep.split (lbt L M) L.segs L.segs.length).2] ∧
      Sat w0 w' (osl 3 1 sv (ints L.segs) :: LogRep p m L :: MedRep m M :: F)) := by
  have HL := Lib.hid hL; have HM := Lib.hid hM; have HH := Lib.hid hH
  have Hlen := Lib.hid (show L.segs.length ≤ 1073741824 from by unfold Seg.Log.segs; rw [List.length_map]; have := hL.len; omega)
  obtain ⟨sa, sc, rfl⟩ : ∃ a c, sv = .slice a L.segs.length c := by
    obtain ⟨a, n, c, rfl, hl, _⟩ := Sat.rd h
    refine ⟨a, c, ?_⟩
    rw [show (ints L.segs).length = L.segs.length from List.length_map .., Nat.mul_one] at hl
    rw [hl]
  have w1 : IntKind.i64.wrap ((L.segs.length : Int) - 1) = (L.segs.length : Int) - 1 := IntWalk.i64_in _ (by have := Hlen.out; omega)
  clear hL hM hH
  go_enter Tryz.func52, Tryz.ntmps52
  go_wp2_with fail
  go_loopg [6] L.segs.length (fun g iq wr => ∃ k : Nat, g = 0 + k ∧ k ≤ L.segs.length ∧ iq = .int .i64 ((k : Int) - 1) ∧ Rep.split (lbt L M) L.segs L.segs.length = Rep.split (lbt L M) L.segs k ∧
    Sat w0 wr (osl 3 1 (.slice sa L.segs.length sc) (ints L.segs) :: LogRep p m L :: MedRep m M :: F))
  case atStart => exact ⟨L.segs.length, (Nat.zero_add _).symm, Nat.le_refl _, rfl, rfl, h⟩
  case round =>
    obtain ⟨k, rfl, hk, rfl, he, hS⟩ := hrel
    clear h
    cases k with
    | zero =>
      have c1 : ¬ (((0 : Nat) : Int) - 1) ≥ 0 := by decide
      have He := Lib.hid he
      clear he
      go_wp2_with fail
      go_ret2
      rw [He.out]
      exact ⟨_, rfl, rfl, hS⟩
    | succ k =>
      have e1 : ((k + 1 : Nat) : Int) - 1 = (k : Int) := by omega
      rw [e1]
      have c1 : (k : Int) ≥ 0 := by omega
      have c2 : (k : Int) < (L.segs.length : Int) := by omega
      have w2 : IntKind.i64.wrap ((k : Int) - 1) = (k : Int) - 1 := IntWalk.i64_in _ (by have := Hlen.out; omega)
      have w3 : IntKind.i64.wrap ((k : Int) + 1) = ((k + 1 : Nat) : Int) := by rw [IntWalk.i64_in _ (by have := Hlen.out; omega)]; omega
      obtain ⟨s, hs⟩ : ∃ s, L.segs[k]? = some s := ⟨_, List.getElem?_eq_getElem (by omega)⟩
      have hgd : L.segs.getD k 0 = s := by rw [List.getD, hs]; rfl
      have Hu := Lib.hid (show Rep.split (lbt L M) L.segs (k + 1) = if (L.bytes M s).2 ≠ 0 then (0, (L.bytes M s).2) else if (Frm.scan (L.bytes M s).1).2.2 = 0 ∧ Rep.endedF (Frm.scan (L.bytes M s).1).1 = true then (k + 1, 0) else Rep.split (lbt L M) L.segs k by
        rw [Rep.split, hgd])
      obtain ⟨bk, off, cc, hsv, hcell⟩ := osl_row (f := fun i : Int => [Value.int .i64 i]) (k := 1) (l := L.segs) (fun u _ => rfl) (by have := Sat.rd hS; rw [show ints L.segs = L.segs.flatMap fun i => [Value.int .i64 i] from by unfold ints; exact List.map_eq_flatMap] at this; exact this) hs (by decide)
      cases hsv
      have f0 := hcell 0 _ rfl
      rw [Nat.mul_one, Nat.add_zero] at f0
      have He := Lib.hid he
      have hb := lbytes_c HL.out HM.out s (hS.sb : Sat w0 wr (LogRep p m L :: MedRep m M :: osl 3 1 (.slice (some ⟨bk, off, none⟩) L.segs.length sc) (ints L.segs) :: F))
      have hk' := Lib.hid hk
      clear hcell hs hgd he hS hk
      go_wp2_with fail
      refine hb.mono ?_
      rintro ee w3 ⟨v, rfl, bv, rfl, hS3⟩
      clear hb
      obtain ⟨hcap, ca, cc, rfl⟩ := bsl_capL hS3
      by_cases h0 : (L.bytes M s).2 = 0
      rotate_left
      · have hb : ((L.bytes M s).2 != 0) = true := by rw [bne_iff_ne]; exact h0
        have Hf := Lib.hid (show Rep.split (lbt L M) L.segs (k + 1) = (0, (L.bytes M s).2) by rw [Hu.out, if_pos h0])
        clear h0
        go_wp2_with fail
        go_ret2
        rw [He.out, Hf.out]
        exact ⟨_, rfl, rfl, hS3.sb⟩
      have hb : ((L.bytes M s).2 != 0) = false := by rw [h0]; rfl
      have H0 := Lib.hid h0
      rw [h0]
      clear h0
      have hbl := Seg.bytes_len (L := L) HM.out s
      have hsc := fscan_c (w0 := w0) (w := w3) (L.bytes M s).1 (Ro.bsl _ _) hcap (Ro.os HH.out) (Nat.le_trans hbl (by decide)) hS3
      have Hbl := Lib.hid hbl
      clear hcap hbl
      go_wp2_with fail
      refine hsc.mono ?_
      rintro ee w4 ⟨v, rfl, fs, fv, hfs, hfk, rfl, hS4⟩
      clear hsc hS3
      obtain ⟨fa, fc, rfl⟩ := fnds_sl hfk hS4
      have hS5 : Sat w0 w4 (osl 3 1 (.slice (some ⟨bk, off, none⟩) L.segs.length sc) (ints L.segs) :: LogRep p m L :: MedRep m M :: F) := hS4.sb
      by_cases h1 : (Frm.scan (L.bytes M s).1).2.2 = 0
      rotate_left
      · have hb1 : ((Frm.scan (L.bytes M s).1).2.2 == 0) = false := by rw [beq_eq_false_iff_ne]; exact h1
        have Hf := Lib.hid (show Rep.split (lbt L M) L.segs (k + 1) = Rep.split (lbt L M) L.segs k by rw [Hu.out, if_neg (fun h => h H0.out), if_neg (fun h => h1 h.1)])
        clear h1 hS4 hfs hfk
        go_wp2_with fail
        go_roundg (0 + k)
        case measure => omega
        case rel => exact ⟨k, rfl, Nat.le_of_succ_le hk'.out, by first | rfl | go_num, He.out.trans Hf.out, hS5⟩
      have hb1 : ((Frm.scan (L.bytes M s).1).2.2 == 0) = true := beq_iff_eq.2 h1
      have hen := ended_c (w := w4) fs hfk (by
        have := Frm.scan_count (L.bytes M s).1
        rw [← hfs, List.length_map] at this
        have := Hbl.out; omega) (Sat.rd hS4)
      rw [hfs] at hen
      clear hS4 hfs hfk
      by_cases h2 : Rep.endedF (Frm.scan (L.bytes M s).1).1 = true
      · have Hf := Lib.hid (show Rep.split (lbt L M) L.segs (k + 1) = (k + 1, 0) by rw [Hu.out, if_neg (fun h => h H0.out), if_pos ⟨h1, h2⟩])
        rw [h2] at hen
        clear h1 h2
        go_wp2_with fail
        refine hen.mono ?_
        rintro ee w5 ⟨v, rfl, rfl, rfl⟩
        clear hen
        go_wp2_with fail
        go_ret2
        rw [He.out, Hf.out]
        exact ⟨_, rfl, rfl, hS5⟩
      · have Hf := Lib.hid (show Rep.split (lbt L M) L.segs (k + 1) = Rep.split (lbt L M) L.segs k by rw [Hu.out, if_neg (fun h => h H0.out), if_neg (fun h => h2 h.2)])
        rw [Bool.not_eq_true] at h2
        rw [h2] at hen
        clear h1 h2
        go_wp2_with fail
        refine hen.mono ?_
        rintro ee w5 ⟨v, rfl, rfl, rfl⟩
        clear hen
        go_wp2_with fail
        go_roundg (0 + k)
        case measure => omega
        case rel => exact ⟨k, rfl, Nat.le_of_succ_le hk'.out, by first | rfl | go_num, He.out.trans Hf.out, hS5⟩
end
section
variable {P : Program} {w0 w : World} {t ty : TypeId}
theorem res_cell {L R : List HProp} {b : Nat} {T : TypeId} {cs : Array Value} {fn : Func} {p : Tmp} {tmps : Array Value} {d : TypeDesc} (hf : fn.results = #[.cell p ty]) (hs : Sat w0 w L) (hp : tmps.getD p undef = .pointer (some ⟨b, 0, none⟩)) (k : Pick (pt b (.cells cs T (0,0))) L R)
    (hu : P.underlying ty = some d) (hd : d.isRow = true) (hi : (P.info? ty).map (·.size) = some cs.size) : (results fn tmps).run P w = .ok (.agg cs) w := by
  have hl := run_loadVar_row (P := P) w b T ty cs (0, 0) d (hs.pick k).at hu (by cases d <;> simp_all [TypeDesc.isRow]) hi
  have e : (results fn tmps).run P w = ((asAddr (tmps.getD p undef)).run P w).andThen fun a w₁ => (loadVar ty a).run P w₁ := by
    simp only [results, hf]
    simp [Sem.run_bind, Result.andThen]
  rw [e, hp]
  simp [asAddr, hl, Result.andThen]
end
end Go.Proofs.YtlinnpehkfbnkaaGreatDoor
namespace Go.Rep
def lastOf (bt : Told) (ns : List Int) : Int × Int :=
  if (split bt ns ns.length).2 ≠ 0 then (0, (split bt ns ns.length).2) else if (split bt ns ns.length).1 = 0 then (-1, 0) else (ns.getD ((split bt ns ns.length).1 - 1) 0, 0)
end Go.Rep
namespace Go.Proofs.YtlinnpehkfbnkaaGreatDoor
open Go Go.Sl Go.Med Go.MapKept Go.RowKit
section
variable {w0 w : World} {F : List HProp} {p m K : Nat} {L : Seg.Log} {M : Med} {sv : Value}
theorem ints_cell {sv : Value} {l : List Int} {i : Nat} {s : Int} (h : rdsl 1 sv (ints l) w) (hs : l[i]? = some s) : ∃ bk off c, sv = .slice (some ⟨bk, off, none⟩) l.length c ∧ w.cell? ⟨bk, off + i, none⟩ = some (.int .i64 s) := by
  obtain ⟨bk, off, cc, hsv, hcell⟩ := osl_row (f := fun i : Int => [Value.int .i64 i]) (k := 1) (l := l) (fun u _ => rfl) (by rw [show ints l = l.flatMap fun i => [Value.int .i64 i] from by unfold ints; exact List.map_eq_flatMap] at h; exact h) hs (by decide)
  have f0 := hcell 0 _ rfl
  rw [Nat.mul_one, Nat.add_zero] at f0
  exact ⟨bk, off, cc, hsv, f0⟩
theorem ints_sl {sv : Value} {l : List Int} (h : rdsl 1 sv (ints l) w) : ∃ a c, sv = .slice a l.length c := by
  obtain ⟨a, n, c, rfl, hl, _⟩ := h
  refine ⟨a, c, ?_⟩
  rw [show (ints l).length = l.length from List.length_map .., Nat.mul_one] at hl
  rw [hl]
set_option maxRecDepth 20000 in
set_option maxHeartbeats 8000000 in
theorem last_c (hL : L.Ok) (hM : M.Ok K) (hH : Ro w0 F Half) (h : Sat w0 w (LogRep p m L :: MedRep m M :: F)) :
    Calls Tryz.prog 158 #[ptr p] w (Rtn fun v w' => v = .tuple #[.int .i64 (Rep.lastOf (lbt L M) L.segs).1, errno (Rep.lastOf (lbt L M) L.segs).2] ∧ Sat w0 w' (LogRep p m L :: MedRep m M :: F)) := by
  have Hlen := Lib.hid (show L.segs.length ≤ 1073741824 from by unfold Seg.Log.segs; rw [List.length_map]; have := hL.len; omega)
  have hse := lsegs_c hL h
  have HL := Lib.hid hL; have HM := Lib.hid hM; have HH := Lib.hid hH
  clear hL hM hH h
  go_enter Tryz.func158, Tryz.ntmps158
  go_wp2_with fail
  refine hse.mono ?_
  rintro ee w1 ⟨v, rfl, hS⟩
  clear hse
  have hsp := split_c HL.out HM.out HH.out hS
  go_wp2_with fail
  refine hsp.mono ?_
  rintro ee w2 ⟨v', rfl, rfl, hS2⟩
  clear hsp hS
  have Hle := Lib.hid (Rep.split_le (lbt L M) L.segs L.segs.length)
  have HS := Lib.hid (hS2.sb : Sat w0 w2 (LogRep p m L :: MedRep m M :: F))
  have hrd := Sat.rd hS2
  clear hS2
  by_cases h0 : (Rep.split (lbt L M) L.segs L.segs.length).2 = 0
  · have hb : ((Rep.split (lbt L M) L.segs L.segs.length).2 != 0) = false := by rw [h0]; rfl
    by_cases h1 : (Rep.split (lbt L M) L.segs L.segs.length).1 = 0
    · have Hf := Lib.hid (show Rep.lastOf (lbt L M) L.segs = (-1, 0) by unfold Rep.lastOf; rw [if_neg (fun h => h h0), if_pos h1])
      have hb1 : (((Rep.split (lbt L M) L.segs L.segs.length).1 : Int) == 0) = true := by rw [h1]; rfl
      clear hrd h0 h1
      go_wp2_with fail
      go_ret2
      rw [Hf.out]
      exact ⟨_, rfl, rfl, HS.out⟩
    · have Hf := Lib.hid (show Rep.lastOf (lbt L M) L.segs = (L.segs.getD ((Rep.split (lbt L M) L.segs L.segs.length).1 - 1) 0, 0) by unfold Rep.lastOf; rw [if_neg (fun h => h h0), if_neg h1])
      have hle := Hle.out
      generalize (Rep.split (lbt L M) L.segs L.segs.length).1 = n at *
      have hb1 : ((n : Int) == 0) = false := by rw [beq_eq_false_iff_ne]; omega
      have w1 : IntKind.i64.wrap ((n : Int) - 1) = ((n - 1 : Nat) : Int) := by rw [IntWalk.i64_in _ (by have := Hlen.out; omega)]; omega
      have hlt : n - 1 < L.segs.length := by omega
      have hs : L.segs[n - 1]? = some (L.segs.getD (n - 1) 0) := by rw [List.getD, List.getElem?_eq_getElem hlt]; rfl
      generalize L.segs.getD (n - 1) 0 = s at *
      generalize n - 1 = j at *
      obtain ⟨bk, off, c, rfl, f0⟩ := ints_cell hrd hs
      have c1 : (0 : Int) ≤ (j : Int) := by omega
      have c2 : (j : Int) < (L.segs.length : Int) := by omega
      clear hrd h0 h1 hs hlt hle
      go_wp2_with fail
      go_ret2
      rw [Hf.out]
      exact ⟨_, rfl, rfl, HS.out⟩
  · have hb : ((Rep.split (lbt L M) L.segs L.segs.length).2 != 0) = true := by rw [bne_iff_ne]; exact h0
    have Hf := Lib.hid (show Rep.lastOf (lbt L M) L.segs = (0, (Rep.split (lbt L M) L.segs L.segs.length).2) by unfold Rep.lastOf; rw [if_pos h0])
    clear hrd h0
    go_wp2_with fail
    go_ret2
    rw [Hf.out]
    exact ⟨_, rfl, rfl, HS.out⟩
end
section
variable {P : Program} {w0 w : World} {ops : Array Oper} {rest : List Oper} {a : Act} {Q : Exit → Act → World → Prop} {dst : Option Tmp} {t ty : TypeId} {pos : String} {after : Array Edge} {x y : Operand} {v v1 v2 : Value} {i1 i2 : Nat}
theorem wl_build2 (h1 : a.eval x = v1) (h2 : a.eval y = v2) (hr : ∀ w, (Instr.build ty #[(i1, v1), (i2, v2)]).run P w = .ok v w) (h : wpList P ops Q rest (a.put dst v) w) :
    wpList P ops Q (⟨dst, .build ty #[(i1, x), (i2, y)], t, pos, after, none⟩ :: rest) a w :=
  wpList_plain rfl fun _ hK => by
    unfold Oper.wp execOp
    simp only [List.map_toArray, List.map_cons, List.map_nil, h1, h2, Sem.run_bind, hr, Result.andThen_ok, Sem.run_pure]
    exact hK _ _ h
theorem wl_build0 (hr : ∀ w, (Instr.build ty #[]).run P w = .ok v w) (h : wpList P ops Q rest (a.put dst v) w) : wpList P ops Q (⟨dst, .build ty #[], t, pos, after, none⟩ :: rest) a w :=
  wpList_plain rfl fun _ hK => by
    unfold Oper.wp execOp
    simp only [List.map_toArray, List.map_nil, Sem.run_bind, hr, Result.andThen_ok, Sem.run_pure]
    exact hK _ _ h
theorem res_tct {L R : List HProp} {b : Nat} {T : TypeId} {cs : Array Value} {fn : Func} {t p u : Tmp} {tmps : Array Value} {d : TypeDesc} (hf : fn.results = #[.tmp t, .cell p ty, .tmp u]) (hs : Sat w0 w L) (hp : tmps.getD p undef = .pointer (some ⟨b, 0, none⟩)) (k : Pick (pt b (.cells cs T (0,0))) L R)
    (hu : P.underlying ty = some d) (hd : d.isRow = true) (hi : (P.info? ty).map (·.size) = some cs.size) : (results fn tmps).run P w = .ok (.tuple #[tmps.getD t undef, .agg cs, tmps.getD u undef]) w := by
  have hl := run_loadVar_row (P := P) w b T ty cs (0, 0) d (hs.pick k).at hu (by cases d <;> simp_all [TypeDesc.isRow]) hi
  have e : (results fn tmps).run P w = ((asAddr (tmps.getD p undef)).run P w).andThen fun a w₁ => ((loadVar ty a).run P w₁).andThen fun v w₂ => .ok (.tuple #[tmps.getD t undef, v, tmps.getD u undef]) w₂ := by
    simp only [results, hf]
    simp [Sem.run_bind, Result.andThen]
  rw [e, hp]
  simp [asAddr, hl, Result.andThen]
theorem at_build2 (h : Stop (wpList P ops Q (⟨dst, .build ty #[(i1, x), (i2, y)], t, pos, after, none⟩ :: rest) a w)) : wpList P ops Q (⟨dst, .build ty #[(i1, x), (i2, y)], t, pos, after, none⟩ :: rest) a w := h.out
theorem at_build0 (h : Stop (wpList P ops Q (⟨dst, .build ty #[], t, pos, after, none⟩ :: rest) a w)) : wpList P ops Q (⟨dst, .build ty #[], t, pos, after, none⟩ :: rest) a w := h.out
end
section
variable {w0 w : World} {F : List HProp}
theorem plFlt : placesB Tryz.prog 37 = some [(0, 1), (1, 1), (2, 1), (3, 32), (35, 1)] := by kernel_rfl
theorem run_flt2 (x y : Int) (w : World) : (Instr.build 37 #[(0, .int .i64 x), (1, .int .i64 y)]).run Tryz.prog w = .ok (.agg (fltA ⟨x, y, 0⟩)) w := by
  have h := run_build (P := Tryz.prog) [(0, .int .i64 x), (1, .int .i64 y)] plFlt zFlt (by
    intro p hp
    have hzz : (Value.agg (fltA Rep.Flt.zero)).cells.size = 36 := by rfl
    rw [hzz]
    rcases List.mem_cons.1 hp with rfl | hp
    · exact ⟨0, rfl, by show 0 + 1 ≤ 36; omega⟩
    · rw [List.mem_singleton.1 hp]
      exact ⟨1, rfl, by show 1 + 1 ≤ 36; omega⟩) w
  exact h
theorem run_flt3 (x y z : Int) (w : World) : (Instr.build 37 #[(0, .int .i64 x), (1, .int .i64 y), (2, .int .i64 z)]).run Tryz.prog w = .ok (.agg (fltA ⟨x, y, z⟩)) w := by
  have h := run_build (P := Tryz.prog) [(0, .int .i64 x), (1, .int .i64 y), (2, .int .i64 z)] plFlt zFlt (by
    intro p hp
    have hzz : (Value.agg (fltA Rep.Flt.zero)).cells.size = 36 := by rfl
    rw [hzz]
    rcases List.mem_cons.1 hp with rfl | hp
    · exact ⟨0, rfl, by show 0 + 1 ≤ 36; omega⟩
    rcases List.mem_cons.1 hp with rfl | hp
    · exact ⟨1, rfl, by show 1 + 1 ≤ 36; omega⟩
    · rw [List.mem_singleton.1 hp]
      exact ⟨2, rfl, by show 2 + 1 ≤ 36; omega⟩) w
  exact h
theorem run_flt0 (w : World) : (Instr.build 37 #[]).run Tryz.prog w = .ok (.agg (fltA Rep.Flt.zero)) w := run_build (P := Tryz.prog) [] plFlt zFlt (by simp) w
set_option maxRecDepth 20000 in
set_option maxHeartbeats 4000000 in
theorem fault_c (s : Int) (at_ : Nat) (h : Sat w0 w F) : Calls Tryz.prog 57 #[.int .i64 s, .int .i64 at_] w (Rtn fun v w' => v = .agg (fltA (Rep.fault s at_)) ∧ Sat w0 w' F) := by
  have hone : ∀ f, (fltA f).size = 36 := fun f => rfl
  by_cases h0 : at_ = 0
  · have hb : ((at_ : Int) == 0) = true := by rw [h0]; rfl
    have e := Lib.hid (show Rep.fault s at_ = ⟨1, s, 0⟩ from if_pos h0)
    clear h0
    go_enter Tryz.func57, Tryz.ntmps57
    go_wp2_with (with_reducible apply at_alloc)
    refine ⟨?_⟩
    refine wl_alloc zFlt h rfl ?_
    intro b4 w4 h4
    go_wp2_with (first
      | ((with_reducible apply at_build2); refine ⟨?_⟩; refine wl_build2 (by rfl) (by rfl) (fun w => run_flt2 1 s w) ?_)
      | ((with_reducible apply at_store); refine ⟨?_⟩; refine wl_storeA (fltA ⟨1, s, 0⟩) h4 (by rfl) (by rfl) (by rfl) upd0 (by kernel_rfl) (by rfl) ?_; intro w9 h9))
    refine ⟨rfl, _, res_cell rfl h9 (by rfl) pkD Tryz.underlying37 rfl (by kernel_rfl), ?_⟩
    exact ⟨_, rfl, by rw [e.out], h9.drop⟩
  · have hb : ((at_ : Int) == 0) = false := by rw [beq_eq_false_iff_ne]; omega
    have e := Lib.hid (show Rep.fault s at_ = ⟨2, s, at_⟩ from if_neg h0)
    clear h0
    go_enter Tryz.func57, Tryz.ntmps57
    go_wp2_with (with_reducible apply at_alloc)
    refine ⟨?_⟩
    refine wl_alloc zFlt h rfl ?_
    intro b4 w4 h4
    go_wp2_with (first
      | ((with_reducible apply at_build3); refine ⟨?_⟩; refine wl_build3 (by rfl) (by rfl) (by rfl) (fun w => run_flt3 2 s at_ w) ?_)
      | ((with_reducible apply at_store); refine ⟨?_⟩; refine wl_storeA (fltA ⟨2, s, at_⟩) h4 (by rfl) (by rfl) (by rfl) upd0 (by kernel_rfl) (by rfl) ?_; intro w9 h9))
    refine ⟨rfl, _, res_cell rfl h9 (by rfl) pkD Tryz.underlying37 rfl (by kernel_rfl), ?_⟩
    exact ⟨_, rfl, by rw [e.out], h9.drop⟩
end
def NR (w0 : World) (F : List HProp) (rv : Value) : Prop := rv = .pointer none ∨ ∃ b, rv = ptr b ∧ ∀ w, Sat w0 w F → w.cell? ⟨b, 2, none⟩ = some (.pointer none)
section
variable {w0 w : World} {F : List HProp} {rv bv : Value} {k : Frm.Bs} {A : HProp}
theorem NR.one (hn : NR w0 F rv) : NR w0 (A :: F) rv := hn.imp id fun ⟨b, e, hc⟩ => ⟨b, e, fun w hw => hc w hw.drop⟩
theorem NR.more (hn : NR w0 F rv) (h : Sat w0 w (A :: F)) : rv = .pointer none ∨ ∃ b, rv = ptr b ∧ w.cell? ⟨b, 2, none⟩ = some (.pointer none) := hn.imp id fun ⟨b, e, hc⟩ => ⟨b, e, hc w h.drop⟩
theorem NR.now (hn : NR w0 F rv) (h : Sat w0 w F) : rv = .pointer none ∨ ∃ b, rv = ptr b ∧ w.cell? ⟨b, 2, none⟩ = some (.pointer none) := hn.imp id fun ⟨b, e, hc⟩ => ⟨b, e, hc w h⟩
end
end Go.Proofs.YtlinnpehkfbnkaaGreatDoor
namespace Go.Rep
open Go.Frm (Bs)
def runAt (bt : Told) (ns : List Int) (n : Nat) : (Flt × Int) ⊕ Nat := match bad bt (ns.take n) with
  | some x => .inl x
  | none => .inr n
def run (bt : Told) (ns : List Int) : (Flt × Int) ⊕ Nat :=
  if (split bt ns ns.length).2 ≠ 0 then .inl (Flt.zero, (split bt ns ns.length).2) else runAt bt ns (split bt ns ns.length).1
theorem runAt_bad {bt : Told} {ns : List Int} {n : Nat} {x : Flt × Int} (h : bad bt (ns.take n) = some x) : runAt bt ns n = .inl x := by unfold runAt; rw [h]
theorem runAt_none {bt : Told} {ns : List Int} {n : Nat} (h : bad bt (ns.take n) = none) : runAt bt ns n = .inr n := by unfold runAt; rw [h]
def lastOfL (l : List Int) : Int := match l.getLast? with
  | some s => s
  | none => -1
theorem newest_mem : ∀ {l : List Row} {k : Bs} {r : Row}, newest l k = some r → r ∈ l
  | [], _, _, h => by cases h
  | x :: l, k, r, h => by
    unfold newest at h
    split at h
    · rename_i y hy
      cases h
      exact .tail _ (newest_mem hy)
    · split at h
      · cases h; exact .head _
      · cases h
theorem ledger_place {l : List Row} {k : Bs} {a : Abt} (h : ledger l k = some a) : ∃ r ∈ l, a.place = rplc r := by
  unfold ledger at h
  cases hn : newest l k with
  | none => rw [hn] at h; cases h
  | some r => rw [hn] at h; cases h; exact ⟨r, newest_mem hn, rfl⟩
theorem rowsOf_take (bt : Told) (ns : List Int) (n : Nat) : ∀ r ∈ rowsOf bt (ns.take n), r ∈ rowsOf bt ns := fun r hr => by
  unfold rowsOf at hr ⊢
  obtain ⟨s, hs, h⟩ := List.mem_flatMap.1 hr
  exact List.mem_flatMap.2 ⟨s, List.mem_of_mem_take hs, h⟩
theorem rowsOf_le (bt : Told) (ns : List Int) (n : Nat) : (rowsOf bt (ns.take n)).length ≤ (rowsOf bt ns).length := by
  have e : rowsOf bt ns = rowsOf bt (ns.take n) ++ rowsOf bt (ns.drop n) := by
    unfold rowsOf; rw [← List.flatMap_append, List.take_append_drop]
  rw [e, List.length_append]; omega
theorem lastOfL_snoc (l : List Int) (s : Int) : lastOfL (l ++ [s]) = s := by unfold lastOfL; rw [List.getLast?_append]; rfl
end Go.Rep
namespace Go.Proofs.YtlinnpehkfbnkaaGreatDoor
open Go Go.Sl Go.Med Go.MapKept Go.RowKit
section
variable {P : Program} {w0 w : World} {L R : List HProp} {b : Nat} {ops : Array Oper} {a : Act} {Q : Exit → Act → World → Prop} {K : Act → World → Prop} {E : Prop} {dst : Option Tmp} {t ty : TypeId} {pos : String} {after : Array Edge} {y : Operand} {v : Value} {cs : Array Value}
theorem eff_box (hs : Sat w0 w L) (hy : a.eval y = v) (hcs : v.cells = cs)
    (hK : ∀ b w', Sat w0 w' (pt b (.cells cs ty (0,0)) :: L) → K (a.put dst (.pointer (some ⟨b, 0, none⟩))) w') :
    if Region.wanted ⟨dst, .box ty y, t, pos, after, none⟩ (yielded ops a.tmps) = true then Oper.wp P ⟨dst, .box ty y, t, pos, after, none⟩ a w K Q else E := by
  subst hcs
  refine eff_of rfl ?_
  have hS := hs.alloc (.cells v.cells ty)
  unfold Oper.wp execOp
  have hrun : (Instr.box ty v).run P w = .ok (.pointer (some ⟨w.heap.size, 0, none⟩)) (w.alloc (.cells v.cells ty)) := by
    simp [Instr.box, newVar, newRow, go_sem]
  simp only [hy, Sem.run_bind, Sem.run_pure, hrun, Result.andThen_ok]
  exact hK _ _ hS
end
section
variable {w0 w : World} {F R : List HProp} {sv : Value}
theorem tail_c {l : List Int} {n : Nat} (hn : n ≤ l.length) (h : Sat w0 w (osl 3 1 sv (ints l) :: R)) :
    ∃ tv, (∀ w, (Instr.sliceAt 42 sv (some (.int .i64 n)) none none).run Tryz.prog w = .ok tv w) ∧ (∃ a' c', tv = .slice a' (l.length - n) c') ∧ ∀ W, rdsl 1 sv (ints l) W → rdsl 1 tv (ints (l.drop n)) W := by
  rcases h.osl_cases with ⟨rfl, he, h'⟩ | ⟨g, k, cap, cs, rfl, hl, hk, hc, hcm, htk, hp⟩
  · obtain rfl : l = [] := by simpa [ints] using he
    obtain rfl : n = 0 := by simpa using hn
    refine ⟨.slice none 0 0, fun w => by go_simp, ⟨none, 0, rfl⟩, fun W hW => by simpa using hW⟩
  · obtain rfl : k = l.length := by simpa [ints] using hl.symm
    by_cases hce : cap = n
    · have hd : l.drop n = [] := List.drop_eq_nil_of_le (by omega)
      have e0 : l.length - n = 0 := by omega
      rw [hd, e0]
      have h1 : n ≤ cap := by omega
      have h2 : l.length = n := by omega
      refine ⟨.slice (some ⟨g, 0, none⟩) 0 0, fun w => ?_, ⟨_, _, rfl⟩, fun W hW => ⟨_, _, _, rfl, rfl, fun j x hj => by cases hj⟩⟩
      have h4 : (0 : Int) ≤ (n : Int) := by omega
      have h5 : (n : Int).toNat = n := by omega
      subst hce
      go_simp
    · refine ⟨.slice (some ⟨g, n, none⟩) (l.length - n) (cap - n), fun w => ?_, ⟨_, _, rfl⟩, fun W hW => ?_⟩
      · have h4 : (0 : Int) ≤ (n : Int) := by omega
        have h5 : (n : Int).toNat = n := by omega
        have h6 : n ≤ cap := by omega
        go_simp
      · obtain ⟨a, n', c, he, hl', hx⟩ := hW
        cases he
        refine ⟨_, _, _, rfl, by unfold ints; rw [List.length_map, List.length_drop, Nat.mul_one], fun j x hj => ⟨_, rfl, ?_⟩⟩
        have hj2 : (ints l)[n + j]? = some x := by
          unfold ints at hj ⊢
          rw [List.map_drop, List.getElem?_drop] at hj
          exact hj
        obtain ⟨ad, e, hc'⟩ := hx (n + j) x hj2
        cases e
        rw [adr_add, Nat.zero_add] at hc'
        rw [adr_add]
        exact hc'
theorem head_c {l : List Int} {n : Nat} (hn : n ≤ l.length) (h : Sat w0 w (osl 3 1 sv (ints l) :: R)) :
    ∃ a' c', (∀ w, (Instr.sliceAt 42 sv none (some (.int .i64 n)) none).run Tryz.prog w = .ok (.slice a' n c') w) ∧ ∀ W, rdsl 1 sv (ints l) W → rdsl 1 (.slice a' n c') (ints (l.take n)) W := by
  rcases h.osl_cases with ⟨rfl, he, h'⟩ | ⟨g, k, cap, cs, rfl, hl, hk, hc, hcm, htk, hp⟩
  · obtain rfl : l = [] := by simpa [ints] using he
    obtain rfl : n = 0 := by simpa using hn
    refine ⟨none, 0, fun w => by go_simp, fun W hW => by simpa using hW⟩
  · obtain rfl : k = l.length := by simpa [ints] using hl.symm
    refine ⟨some ⟨g, 0, none⟩, cap, fun w => ?_, fun W hW => ?_⟩
    · have h4 : (0 : Int) ≤ (n : Int) := by omega
      have h5 : (n : Int).toNat = n := by omega
      have h6 : n ≤ cap := by omega
      go_simp
    · obtain ⟨a, n', c, he, hl', hx⟩ := hW
      cases he
      refine ⟨_, _, _, rfl, by unfold ints; rw [List.length_map, List.length_take, Nat.mul_one]; omega, fun j x hj => ?_⟩
      refine hx j x ?_
      unfold ints at hj ⊢
      rw [List.map_take, List.getElem?_take] at hj
      split at hj
      · exact hj
      · cases hj
theorem TabMA.lists {p B : Nat} {m : Frm.Bs → Option Rep.Abt} (h : Sat w0 w (TabMA p m B :: R)) : ∃ kv, Tab.Lists m kv ∧ (∀ q ∈ kv, q.1.length = 32) ∧ kv.length ≤ B := by
  obtain ⟨t, sv', ⟨ok, is, hb⟩, hS⟩ := TabMA.open h
  have hp := List.mergeSort_perm (t.slots.filter fun x => decide (x.st = 1)) (fun a b : Tab.Slot Rep.Abt => decide (¬ b.key < a.key))
  have hw := List.pairwise_mergeSort (le := fun a b : Tab.Slot Rep.Abt => decide (¬ b.key < a.key)) (fun a b c h1 h2 => by
      rw [decide_eq_true_eq] at h1 h2 ⊢
      intro h3
      rcases Tab.bs_tri a.key b.key with q | q | q
      · exact h2 (List.lt_trans h3 q)
      · exact h2 (q ▸ h3)
      · exact h1 q) (fun a b => by
      rw [Bool.or_eq_true, decide_eq_true_eq, decide_eq_true_eq]
      by_cases q : b.key < a.key
      · exact .inr fun q2 => List.lt_irrefl _ (List.lt_trans q q2)
      · exact .inl q) (t.slots.filter fun x => decide (x.st = 1))
  obtain ⟨h1, h2⟩ := Tab.lists_of ok.good is hp (hw.imp fun {a b} q => by rwa [decide_eq_true_eq] at q)
  refine ⟨_, h1, fun q hq => ?_, ?_⟩
  · obtain ⟨x, hx, rfl⟩ := List.mem_map.1 hq
    exact (h2 x hx).2
  · rw [List.length_map, hp.length_eq, ← List.countP_eq_length_filter]
    have e : t.slots.countP (fun x => decide (x.st = 1)) = Tab.fulls t.slots := by
      unfold Tab.fulls
      refine List.countP_congr fun x _ => ?_
      simp
    have := ok.n; omega
end
section
variable {P : Program} {w0 w : World} {L R : List HProp} {ops : Array Oper} {rest : List Oper} {a : Act} {Q : Exit → Act → World → Prop} {dst : Option Tmp} {t ty e : TypeId} {pos : String} {after : Array Edge} {x y s : Operand} {sz by' : Nat} {v v1 : Value}
theorem run_slice0 (hb : appB P t e sz by' = true) (w : World) : (Instr.buildSlice t 0 #[]).run P w = .ok (.slice (some ⟨w.heap.size, 0, none⟩) 0 0) (w.alloc (.cells #[] e)) := by
  obtain ⟨hu, i, z, hi, hz, e1, e2, e3, e4⟩ := appB_spec hb
  have hsz' : (sizeOf e).run P w = .ok i.size w := by simp [sizeOf, typeInfo, hi]
  have hf : Instr.fill (fun i' => some (i' * i.size, i.size)) ((Array.range 0).map ((#[] : Array Value)[· % (#[] : Array Value).size]!)) [] = some #[] := by unfold Instr.fill; simp
  unfold Instr.buildSlice
  simp only [Sem.run_bind, run_underlying hu, Result.andThen_ok, hsz', Nat.zero_mul, if_neg (show ¬ (0 > 2 ^ 24) by omega), if_pos (show (0 : Nat) = 0 from rfl), Sem.run_pure, hf]
  simp [newRow, go_sem]
theorem at_slice0 (h : Stop (wpList P ops Q (⟨dst, .buildSlice ty 0 #[], t, pos, after, none⟩ :: rest) a w)) : wpList P ops Q (⟨dst, .buildSlice ty 0 #[], t, pos, after, none⟩ :: rest) a w := h.out
theorem wl_slice0 (hb : appB P ty e sz by' = true) (hs : Sat w0 w L)
    (hK : ∀ b w', Sat w0 w' (osl e sz (.slice (some ⟨b, 0, none⟩) 0 0) [] :: L) → wpList P ops Q rest (a.put dst (.slice (some ⟨b, 0, none⟩) 0 0)) w') : wpList P ops Q (⟨dst, .buildSlice ty 0 #[], t, pos, after, none⟩ :: rest) a w := by
  refine wpList_plain rfl fun _ hK' => ?_
  have hS := hs.alloc (.cells #[] e)
  unfold Oper.wp execOp
  simp only [List.map_toArray, List.map_nil, Sem.run_bind, Sem.run_pure, run_slice0 hb w, Result.andThen_ok]
  exact hK' _ _ (hK _ _ (Sat.osl_of_pt hS (by simp) (Nat.le_refl _) (by simp) (by decide) (by simp)))
theorem wl_appD (e : TypeId) (sz by' : Nat) {xs ys : List Value} (hb : appB P ty e sz by' = true) (hs : Sat w0 w L) (hv : a.eval s = v) (hy : a.eval y = v1) (p : Pick (osl e sz v xs) L R) (hrd : rdsl sz v1 ys w) (h1 : ∀ u ∈ ys, u.oneCell' = true)
    (h63 : xs.length + ys.length ≤ 2147483648) (hby : by' ≤ 65000)
    (hK : ∀ v' w', Sat w0 w' (osl e sz v' (xs ++ ys) :: R) → wpList P ops Q rest (a.put dst v') w') :
    wpList P ops Q (⟨dst, .call { callee := .builtin .append, args := #[s, y], argTypes := #[ty, ty] }, t, pos, after, none⟩ :: rest) a w := by
  obtain ⟨hu, i, z, hi, hz, e1, e2, e3, e4⟩ := appB_spec hb
  subst e2
  refine wpList_append (w0 := w0) rfl s y ty rfl e i z hu hi hz e1 e3 e4 hv hy h1 (hs.pick p) hrd (by unfold maxLen; omega) ?_ fun v' w' hS _ => hK v' w' hS
  calc (xs.length + ys.length) * i.bytes ≤ 2147483648 * 65000 := Nat.mul_le_mul h63 hby
    _ ≤ 140737488355328 := by decide
end
section
variable {w0 w : World} {F : List HProp} {p b n c B : Nat} {m : Frm.Bs → Option Seg.Plc} {xs : List Value}
set_option maxRecDepth 20000 in
set_option maxHeartbeats 4000000 in
theorem cloneL_c (h1 : ∀ u ∈ xs, u.oneCell' = true) (hl : xs.length ≤ 2147483648) (h : Sat w0 w (osl 230 36 (.slice (some ⟨b, 0, none⟩) n c) xs :: F)) :
    Calls Tryz.prog 157 #[.slice (some ⟨b, 0, none⟩) n c] w (Rtn fun v w' => Sat w0 w' (osl 230 36 v xs :: osl 230 36 (.slice (some ⟨b, 0, none⟩) n c) xs :: F)) := by
  have H1 := Lib.hid h1; have Hl := Lib.hid hl
  have he : ∀ w, (binOp .eql 179 (.slice (some ⟨b, 0, none⟩) n c) (.slice none 0 0)).run Tryz.prog w = .ok (.bool false) w := fun w => by first | kernel_rfl | rfl
  clear h1 hl
  go_enter Tryz.func157, Tryz.ntmps157
  go_wp2_with (first
    | ((with_reducible apply at_slice0); refine ⟨?_⟩; refine wl_slice0 (e := 230) (sz := 36) (by' := 64) (by kernel_rfl) h ?_; intro bN wN hN)
    | (with_reducible apply at_append))
  refine ⟨?_⟩
  refine wl_appD 230 36 64 (by kernel_rfl) hN (by rfl) (by rfl) pick0 (Sat.rd hN.drop) H1.out (by have := Hl.out; simp only [List.length_nil]; omega) (by decide) ?_
  intro v' w' hS
  rw [List.nil_append] at hS
  go_wp2_with fail
  go_ret
  exact ⟨_, rfl, hS⟩
theorem slots_one (s : List (Tab.Slot Seg.Plc)) : ∀ u ∈ s.flatMap (slotL penc), u.oneCell' = true := fun u hu => by
  obtain ⟨x, _, hx⟩ := List.mem_flatMap.1 hu
  have := (List.all_eq_true.1 (slotL_ones penc x (penc_ones _))) u hx
  exact this
set_option maxRecDepth 20000 in
set_option maxHeartbeats 8000000 in
theorem copyL_c (hB : B ≤ 14000000) (h : Sat w0 w (TabML p m B :: F)) :
    Calls Tryz.prog 103 #[ptr p] w (Rtn fun v w' => ∃ q, v = ptr q ∧ Sat w0 w' (TabML q m B :: TabML p m B :: F)) := by
  obtain ⟨t, sv, ⟨ok, is, hb⟩, hR⟩ := TabML.open h
  have hsz : t.slots.length ≤ 56000008 := by have := ok.size; omega
  have Hlen := Lib.hid (show ∀ x ∈ t.slots, (slotL penc x).length = 36 from fun x hx => slotL_len penc x (ok.good.key x hx) 3 (penc_len _))
  have Hp0 := Lib.hid ok.good.pos_len
  have Hxl := Lib.hid (show (t.slots.flatMap (slotL penc)).length = t.slots.length * 36 from (rows_len Hlen.out).trans (Nat.mul_comm _ _))
  obtain ⟨la, lc, rfl⟩ := osl_rows Hlen.out (Sat.rd (hR.pick pick1)) (by decide)
  obtain ⟨bs, rfl⟩ : ∃ bs, la = some ⟨bs, 0, none⟩ := by
    rcases Sat.osl_cases (hR.pick pick1) with ⟨_, he, _⟩ | ⟨b, n, cap, cs, he, _⟩
    · have := congrArg List.length he
      have := Hxl.out
      have := Hp0.out
      simp only [List.length_nil] at *; omega
    · cases he; exact ⟨b, rfl⟩
  have hok := okL_c Hp0.out hR
  have Hok := Lib.hid ok; have His := Lib.hid is; have Hb := Lib.hid hb; have Hsz := Lib.hid hsz
  clear h ok is hb hsz hB
  go_enter Tryz.func103, Tryz.ntmps103
  go_wp2_with fail
  refine hok.mono ?_
  rintro ee w1 ⟨v, rfl, rfl, rfl⟩
  clear hok
  go_wp2_with fail
  have hR1 := hR.drew
  clear hR
  refine wpL_begin [13, 14, 15] (fun w' => w'.cell? ⟨p, 0, none⟩ = some (.slice (some ⟨bs, 0, none⟩) t.slots.length lc) ∧ w'.cell? ⟨p, 1, none⟩ = some (.int .i64 t.n) ∧ w'.cell? ⟨p, 2, none⟩ = some (.int .i64 t.gone)) (by kernel_rfl) ?_
  have hG : World.cell? _ ⟨p, 0, none⟩ = some (.slice (some ⟨bs, 0, none⟩) t.slots.length lc) ∧ World.cell? _ ⟨p, 1, none⟩ = some (.int .i64 t.n) ∧ World.cell? _ ⟨p, 2, none⟩ = some (.int .i64 t.gone) := ⟨hR1.cellAt 0 _ rfl, hR1.cellAt 1 _ rfl, hR1.cellAt 2 _ rfl⟩
  refine rp 0 (hy := (yl_move evD)) (h := ?_)
  refine rp 1 (hy := (yl_nil evD)) (h := ?_)
  refine rp 2 (hy := (yl_field evD rnD)) (h := ?_)
  refine rt 3 (h := ?_)
  refine rp 5 (hy := (yl_move evD)) (h := ?_)
  refine rp 6 (hy := (yl_nil evD)) (h := ?_)
  refine rp 7 (hy := (yl_field evD rnD)) (h := ?_)
  refine rt 8 (h := ?_)
  refine rp 9 (hy := (yl_move evD)) (h := ?_)
  refine rp 10 (hy := (yl_nil evD)) (h := ?_)
  refine rp 11 (hy := (yl_field evD rnD)) (h := ?_)
  refine rt 12 (h := ?_)
  clear hG
  refine rg_eff 4 evD (by kernel_rfl) (fun K hK => ?_)
  (refine eff_call1 (by kernel_rfl) evD ?_)
  refine (cloneL_c (slots_one _) (by rw [Hxl.out]; have := Hsz.out; omega) (hR1.sb : Sat w0 _ (osl 230 36 (.slice (some ⟨bs, 0, none⟩) t.slots.length lc) (t.slots.flatMap (slotL penc)) :: tbPt p 181 (.slice (some ⟨bs, 0, none⟩) t.slots.length lc) t.n t.gone :: F))).mono ?_
  rintro ee w2 ⟨v, rfl, h2⟩
  refine hK _ _ (.inr (.inl ⟨h2.cellP pick2 0 rfl, h2.cellP pick2 1 rfl, h2.cellP pick2 2 rfl⟩)) ?_
  clear hK hR1
  obtain ⟨a2, c2, rfl⟩ := osl_rows Hlen.out (Sat.rd h2) (by decide)
  refine rp 13 (hy := (by (refine Or.inl ⟨by rfl, ?_⟩; ((intro wq; go_simp); first | done | (with_reducible rfl))))) (h := ?_)
  refine rg_eff 14 evD (by kernel_rfl) (fun K hK => ?_)
  refine eff_box (cs := #[.slice a2 t.slots.length c2, .int .i64 t.n, .int .i64 t.gone]) h2 evD evD ?_
  intro q w3 h3
  refine hK _ _ (.inl rfl) ?_
  clear hK h2
  refine rp 15 (hy := (yl_assign evD)) (h := ?_)
  refine wpL_done (by kernel_rfl) ?_
  try simp only [List.getElem_toArray, List.getElem_cons_succ, List.getElem_cons_zero]
  try go_frame
  go_wp2_with fail
  go_ret
  have h4 := TabML.shut Hok.out His.out Hb.out (h3.sb : Sat w0 w3 (tbPt p 181 (.slice (some ⟨bs, 0, none⟩) t.slots.length lc) t.n t.gone :: osl 230 36 (.slice (some ⟨bs, 0, none⟩) t.slots.length lc) (t.slots.flatMap (slotL penc)) :: tbPt q 181 (.slice a2 t.slots.length c2) t.n t.gone :: osl 230 36 (.slice a2 t.slots.length c2) (t.slots.flatMap (slotL penc)) :: F))
  exact ⟨_, rfl, q, rfl, TabML.shut Hok.out His.out Hb.out (h4.sb)⟩
end
def RunOut (w0 : World) (F : List HProp) (bt : Rep.Told) (ns : List Int) (p m : Nat) (L : Seg.Log) (M : Med) (v : Value) (w' : World) : Prop :=
  match Rep.run bt ns with
  | .inl (fl, e) => v = .tuple #[.pointer none, .agg (fltA fl), errno e] ∧ Sat w0 w' (LogRep p m L :: MedRep m M :: F)
  | .inr n => ∃ (ps pi : Nat) (uv tv av : Value) (kv : List (Frm.Bs × Rep.Abt)), v = .tuple #[ptr ps, .agg (fltA Rep.Flt.zero), errno 0] ∧
      (Tab.Lists (Rep.ledger (Rep.rowsOf bt (ns.take n))) kv ∧ (∀ q ∈ kv, q.1.length = 32) ∧ kv.length ≤ (Rep.rowsOf bt (ns.take n)).length) ∧
      ((∃ a' c', tv = .slice a' (ns.length - n) c') ∧ ∀ W, rdsl 1 av (ints ns) W → rdsl 1 tv (ints (ns.drop n)) W) ∧
      Sat w0 w' (stPt ps (Rep.lastOfL (ns.take n)) pi uv tv :: TabML pi (Tab.mapOf (Rep.puts kv)) kv.length :: osl 121 3 uv (((Rep.usesOf bt (ns.take n)).map (Rep.upd kv)).flatMap uenc) :: osl 3 1 av (ints ns) :: LogRep p m L :: MedRep m M :: F)
section
variable {w0 w : World} {F : List HProp} {p m K : Nat} {L : Seg.Log} {M : Med}
theorem zLed : zeroB Tryz.prog 111 = some (.agg #[.pointer none]) := by kernel_rfl
set_option maxRecDepth 20000 in
set_option maxHeartbeats 16000000 in
theorem run_c (hL : L.Ok) (hM : M.Ok K) (hH : Ro w0 F Half) (hrows : (Rep.rowsOf (lbt L M) L.segs).length ≤ 12000000) (hsz : ∀ r ∈ Rep.rowsOf (lbt L M) L.segs, (r.2.size : Int) ≤ 4294967296) (h : Sat w0 w (LogRep p m L :: MedRep m M :: F)) :
    Calls Tryz.prog 11 #[ptr p] w (Rtn fun v w' => RunOut w0 F (lbt L M) L.segs p m L M v w') := by
  have Hlen := Lib.hid (show L.segs.length ≤ 1048576 from by unfold Seg.Log.segs; rw [List.length_map]; have := hL.len; omega)
  have hse := lsegs_c hL h
  have Hnn := Lib.hid (show ∀ s ∈ L.segs, 0 ≤ s from fun s hs => by
    unfold Seg.Log.segs at hs
    obtain ⟨x, hx, rfl⟩ := List.mem_map.1 hs
    exact (hL.nums x hx).1)
  have HL := Lib.hid hL; have HM := Lib.hid hM; have HH := Lib.hid hH; have Hrows := Lib.hid hrows; have Hsz := Lib.hid hsz
  clear hL hM hH hrows hsz
  go_enter Tryz.func11, Tryz.ntmps11
  go_wp2_with (with_reducible apply at_alloc)
  refine ⟨?_⟩
  refine wl_alloc zFlt h rfl ?_
  intro b3 w3 h3
  clear hse h
  go_wp2_with fail
  refine (lsegs_c HL.out (h3.pick pick1)).mono ?_
  rintro ee w4 ⟨sv, rfl, h4⟩
  have hsp := split_c HL.out HM.out (Ro.os HH.out) (h4.sb : Sat w0 w4 (osl 3 1 sv (ints L.segs) :: LogRep p m L :: MedRep m M :: pt b3 (.cells (fltA Rep.Flt.zero) 37 (0,0)) :: F))
  clear h3 h4
  go_wp2_with fail
  refine hsp.mono ?_
  rintro ee w5 ⟨v, rfl, rfl, h5⟩
  clear hsp
  by_cases h0 : (Rep.split (lbt L M) L.segs L.segs.length).2 = 0
  rotate_left
  · have hb : ((Rep.split (lbt L M) L.segs L.segs.length).2 != 0) = true := by rw [bne_iff_ne]; exact h0
    have Hf := Lib.hid (show Rep.run (lbt L M) L.segs = .inl (Rep.Flt.zero, (Rep.split (lbt L M) L.segs L.segs.length).2) by unfold Rep.run; rw [if_pos h0])
    have h6 : Sat w0 w5 (pt b3 (.cells (fltA Rep.Flt.zero) 37 (0,0)) :: LogRep p m L :: MedRep m M :: F) := h5.sb
    clear h0 h5
    go_wp2_with (first
      | ((with_reducible apply at_build0); refine ⟨?_⟩; refine wl_build0 (fun w => run_flt0 w) ?_)
      | ((with_reducible apply at_store); refine ⟨?_⟩; refine wl_storeA (fltA Rep.Flt.zero) h6 (by rfl) (by rfl) (by rfl) upd0 (by kernel_rfl) (by rfl) ?_; intro w9 h9))
    refine ⟨rfl, _, res_tct rfl h9 (by rfl) pkD Tryz.underlying37 rfl (by kernel_rfl), _, rfl, ?_⟩
    unfold RunOut
    rw [Hf.out]
    exact ⟨rfl, h9.drop⟩
  have hb : ((Rep.split (lbt L M) L.segs L.segs.length).2 != 0) = false := by rw [h0]; rfl
  have Hle := Lib.hid (Rep.split_le (lbt L M) L.segs L.segs.length)
  have Hf := Lib.hid (show Rep.run (lbt L M) L.segs = Rep.runAt (lbt L M) L.segs (Rep.split (lbt L M) L.segs L.segs.length).1 by unfold Rep.run; rw [if_neg (fun h => h h0)])
  rw [h0]
  generalize (Rep.split (lbt L M) L.segs L.segs.length).1 = n at *
  clear h0
  obtain ⟨tv, htl, ⟨ta, tc, rfl⟩, htr⟩ := tail_c Hle.out h5
  have Htr := Lib.hid htr
  clear htr
  go_wp2_with fail
  have hG : True := trivial
  have h6 := h5.drew
  clear h5
  refine wpL_begin [] (fun w' => True) (by kernel_rfl) ?_
  refine rp 1 (hy := (yl_move evD)) (h := ?_)
  refine rp 2 (hy := (yl_move evD)) (h := ?_)
  refine rp 3 (hy := (yl_slice_lo evD evD htl)) (h := ?_)
  refine rg_eff 0 evD (by kernel_rfl) (fun K hK => ?_)
  refine eff_call [] (by kernel_rfl) (by simp) ?_
  refine (newL_c h6).mono ?_
  rintro ee w7 ⟨v, rfl, pi, rfl, h7⟩
  refine hK _ _ (.inr (.inl trivial)) ?_
  clear hK h6
  refine rp 4 (hy := (by (refine Or.inl ⟨by rfl, ?_⟩; ((intro wq; go_simp); first | done | (with_reducible rfl))))) (h := ?_)
  refine rg_eff 5 evD (by kernel_rfl) (fun K hK => ?_)
  refine eff_box (cs := #[.int .i64 (-1), ptr pi, .slice none 0 0, .slice ta (L.segs.length - n) tc]) h7 evD evD ?_
  intro ps w8 h8
  refine hK _ _ (.inr (.inl trivial)) ?_
  clear hK h7
  refine rp 6 (hy := (yl_assign evD)) (h := ?_)
  refine wpL_done (by kernel_rfl) ?_
  clear hG
  go_wp2_with fail
  refine (newA_c h8).mono ?_
  rintro ee w9 ⟨v, rfl, pg, rfl, h9⟩
  clear h8
  go_wp2_with (with_reducible apply at_alloc)
  refine ⟨?_⟩
  refine wl_alloc zLed h9 rfl ?_
  intro b9 w10 h10
  clear h9
  obtain ⟨ha, hc, hhl, hhr⟩ := head_c Hle.out (h10.sb : Sat w0 w10 (osl 3 1 sv (ints L.segs) :: F))
  go_wp2_with ((with_reducible apply at_store); refine ⟨?_⟩; refine wl_store (cs' := #[ptr pg]) h10 (by rfl) evD (by rfl) upd0 (Nat.le_of_ble_eq_true (by rfl)) (by kernel_rfl) (by rfl) ?_; intro w11 h11)
  have h12 : Sat w0 w11 (stPt ps (Rep.lastOfL (L.segs.take 0)) pi (.slice none 0 0) (.slice ta (L.segs.length - n) tc) :: osl 121 3 (.slice none 0 0) ((Rep.usesOf (lbt L M) (L.segs.take 0)).flatMap uenc) :: TabML pi (fun _ => none) 0 :: pt b9 (.cells #[ptr pg] 111 (0,0)) ::
    TabMA pg (Rep.ledger (Rep.rowsOf (lbt L M) (L.segs.take 0))) (Rep.rowsOf (lbt L M) (L.segs.take 0)).length :: pt b3 (.cells (fltA Rep.Flt.zero) 37 (0,0)) :: osl 3 1 sv (ints L.segs) :: LogRep p m L :: MedRep m M :: F) := (Sat.osl_nil.2 h11).sb
  clear h10 h11 htl
  go_loopg [45] n (fun g iq wr => ∃ (i : Nat) (uv : Value), g = n - i ∧ i ≤ n ∧ iq = .int .i64 i ∧ Rep.bad (lbt L M) (L.segs.take i) = none ∧ Sat w0 wr (stPt ps (Rep.lastOfL (L.segs.take i)) pi uv (.slice ta (L.segs.length - n) tc) :: osl 121 3 uv ((Rep.usesOf (lbt L M) (L.segs.take i)).flatMap uenc) :: TabML pi (fun _ => none) 0 :: pt b9 (.cells #[ptr pg] 111 (0,0)) ::
    TabMA pg (Rep.ledger (Rep.rowsOf (lbt L M) (L.segs.take i))) (Rep.rowsOf (lbt L M) (L.segs.take i)).length :: pt b3 (.cells (fltA Rep.Flt.zero) 37 (0,0)) :: osl 3 1 sv (ints L.segs) :: LogRep p m L :: MedRep m M :: F))
  case atStart => exact ⟨0, .slice none 0 0, rfl, Nat.zero_le _, rfl, rfl, h12⟩
  case round =>
    obtain ⟨i, uv, rfl, hi, rfl, hbad, hS⟩ := hrel
    clear h12
    have Hbad := Lib.hid hbad
    clear hbad
    by_cases hlt : i < n
    rotate_left
    · obtain rfl : i = n := by omega
      have c1 : ¬ (i : Int) < (i : Int) := by omega
      obtain ⟨kv, k1, k2, k3⟩ := TabMA.lists (hS.pk (A := TabMA pg (Rep.ledger (Rep.rowsOf (lbt L M) (L.segs.take i))) (Rep.rowsOf (lbt L M) (L.segs.take i)).length))
      have k4 := Nat.le_trans (Rep.rowsOf_le (lbt L M) L.segs i) Hrows.out
      have hks : ∀ q ∈ kv, q.1.length = 32 ∧ 0 ≤ q.2.place.size ∧ q.2.place.size ≤ 4294967296 := fun q hq => by
        obtain ⟨r, hr, e⟩ := Rep.ledger_place ((k1.mem q.1 q.2).1 hq)
        rw [e]
        exact ⟨k2 q hq, Int.natCast_nonneg _, Hsz.out r (Rep.rowsOf_take _ _ _ r hr)⟩
      have hfl := fill_c (us := Rep.usesOf (lbt L M) (L.segs.take i)) k1 (by omega) (by omega) hks (by unfold Rep.usesOf; rw [List.length_map, List.length_take]; have := Hlen.out; omega)
        (hS.sb : Sat w0 wr (stPt ps (Rep.lastOfL (L.segs.take i)) pi uv (.slice ta (L.segs.length - i) tc) :: TabML pi (fun _ => none) 0 :: TabMA pg (Rep.ledger (Rep.rowsOf (lbt L M) (L.segs.take i))) (Rep.rowsOf (lbt L M) (L.segs.take i)).length ::
          osl 121 3 uv ((Rep.usesOf (lbt L M) (L.segs.take i)).flatMap uenc) :: pt b3 (.cells (fltA Rep.Flt.zero) 37 (0,0)) :: osl 3 1 sv (ints L.segs) :: LogRep p m L :: MedRep m M :: F))
      have K := Lib.hid (And.intro k1 (And.intro k2 k3))
      have Hg := Lib.hid (Hf.out.trans (Rep.runAt_none Hbad.out))
      have Htv := Lib.hid Htr.out
      clear k1 k2 k3 k4 hks hlt hi
      go_wp2_with ((with_reducible apply at_load); refine ⟨?_⟩; refine wl_loadA (cs := #[ptr pg]) hS (by rfl) (pick_there (pick_there (pick_there pick0))) Tryz.underlying111 rfl (by kernel_rfl) ?_)
      refine hfl.mono ?_
      rintro ee w14 ⟨v, rfl, h14⟩
      clear hfl hS
      go_wp2_with (first
        | ((with_reducible apply at_build0); refine ⟨?_⟩; refine wl_build0 (fun w => run_flt0 w) ?_)
        | ((with_reducible apply at_store); refine ⟨?_⟩; refine wl_storeA (fltA Rep.Flt.zero) h14 (by rfl) (by rfl) (by rfl) (upd_there (upd_there (upd_there (upd_there upd0)))) (by kernel_rfl) (by rfl) ?_; intro w15 h15))
      refine ⟨rfl, _, res_tct rfl h15 (by rfl) (pick_there (pick_there (pick_there (pick_there pick0)))) Tryz.underlying37 rfl (by kernel_rfl), _, rfl, ?_⟩
      unfold RunOut
      rw [Hg.out]
      exact ⟨ps, pi, uv, .slice ta (L.segs.length - i) tc, sv, kv, rfl, K.out, ⟨⟨ta, tc, rfl⟩, Htv.out⟩, h15.sb⟩
    have c1 : (i : Int) < (n : Int) := by omega
    have hwi : IntKind.i64.wrap ((i : Int) + 1) = (i : Int) + 1 := IntWalk.i64_in _ (by have := Hle.out; have := Hlen.out; omega)
    have hni : (L.segs.take n).length = n := by rw [List.length_take]; have := Hle.out; omega
    obtain ⟨s, hs⟩ : ∃ s, (L.segs.take n)[i]? = some s := ⟨_, List.getElem?_eq_getElem (by omega)⟩
    have hs2 : L.segs[i]? = some s := by rw [List.getElem?_take] at hs; rw [if_pos hlt] at hs; exact hs
    have Htk := Lib.hid (show L.segs.take (i + 1) = L.segs.take i ++ [s] by rw [List.take_add_one, hs2, Option.toList_some])
    have Hspl := Lib.hid (show ∃ post, L.segs.take n = L.segs.take i ++ s :: post by
      obtain ⟨h1, e⟩ := List.getElem?_eq_some_iff.1 hs
      refine ⟨(L.segs.take n).drop (i + 1), ?_⟩
      have e2 : L.segs.take i = (L.segs.take n).take i := by rw [List.take_take, Nat.min_eq_left (Nat.le_of_lt hlt)]
      rw [e2, ← e, ← List.drop_eq_getElem_cons h1, List.take_append_drop])
    have Hs0 := Lib.hid (Hnn.out s (List.mem_of_getElem? hs2))
    obtain ⟨bk, off, c', hsv, f0⟩ := ints_cell (hhr _ (Sat.rd (hS.pk (A := osl 3 1 sv (ints L.segs))))) hs
    rw [hni] at hsv
    cases hsv
    have hb := lbytes_c HL.out HM.out s (hS.sb : Sat w0 wr (LogRep p m L :: MedRep m M :: stPt ps (Rep.lastOfL (L.segs.take i)) pi uv (.slice ta (L.segs.length - n) tc) :: osl 121 3 uv ((Rep.usesOf (lbt L M) (L.segs.take i)).flatMap uenc) :: TabML pi (fun _ => none) 0 :: pt b9 (.cells #[ptr pg] 111 (0,0)) ::
      TabMA pg (Rep.ledger (Rep.rowsOf (lbt L M) (L.segs.take i))) (Rep.rowsOf (lbt L M) (L.segs.take i)).length :: pt b3 (.cells (fltA Rep.Flt.zero) 37 (0,0)) :: osl 3 1 sv (ints L.segs) :: F))
    have Hlt := Lib.hid hlt
    clear hS hs hs2 hni hlt hi
    go_wp2_with fail
    refine hb.mono ?_
    rintro ee w20 ⟨v, rfl, bv, rfl, h20⟩
    clear hb f0
    obtain ⟨hcap, ca, cc, rfl⟩ := bsl_capL h20
    by_cases h0 : (L.bytes M s).2 = 0
    rotate_left
    · have hb1 : ((L.bytes M s).2 != 0) = true := by rw [bne_iff_ne]; exact h0
      have Hg := Lib.hid (show Rep.run (lbt L M) L.segs = .inl (Rep.Flt.zero, (L.bytes M s).2) by
        rw [Hf.out]
        obtain ⟨post, e⟩ := Hspl.out
        exact Rep.runAt_bad (by rw [e]; exact Rep.bad_power Hbad.out h0))
      have h21 : Sat w0 w20 (pt b3 (.cells (fltA Rep.Flt.zero) 37 (0,0)) :: LogRep p m L :: MedRep m M :: F) := h20.sb
      clear h20 h0 hcap
      go_wp2_with (first
        | ((with_reducible apply at_build0); refine ⟨?_⟩; refine wl_build0 (fun w => run_flt0 w) ?_)
        | ((with_reducible apply at_store); refine ⟨?_⟩; refine wl_storeA (fltA Rep.Flt.zero) h21 (by rfl) (by rfl) (by rfl) upd0 (by kernel_rfl) (by rfl) ?_; intro w22 h22))
      refine ⟨rfl, _, res_tct rfl h22 (by rfl) pkD Tryz.underlying37 rfl (by kernel_rfl), _, rfl, ?_⟩
      unfold RunOut
      rw [Hg.out]
      exact ⟨rfl, h22.drop⟩
    have hb1 : ((L.bytes M s).2 != 0) = false := by rw [h0]; rfl
    have H0 := Lib.hid h0
    rw [h0]
    clear h0
    have hbl := Seg.bytes_len (L := L) HM.out s
    have hsc := fscan_c (w0 := w0) (w := w20) (L.bytes M s).1 (Ro.bsl _ _) hcap (Ro.os HH.out) (Nat.le_trans hbl (by decide)) h20
    clear hcap
    go_wp2_with fail
    refine hsc.mono ?_
    rintro ee w21 ⟨v, rfl, fs, fv, hfs, hfk, rfl, h21⟩
    clear hsc h20
    obtain ⟨fa, fc, rfl⟩ := fnds_sl hfk h21
    by_cases h1 : (Frm.scan (L.bytes M s).1).2.2 = 0
    rotate_left
    · have hb2 : ((Frm.scan (L.bytes M s).1).2.2 != 0) = true := by rw [bne_iff_ne]; exact h1
      have Hg := Lib.hid (show Rep.run (lbt L M) L.segs = .inl (Rep.fault s (Frm.scan (L.bytes M s).1).2.1, 13) by
        rw [Hf.out]
        obtain ⟨post, e⟩ := Hspl.out
        exact Rep.runAt_bad (by rw [e]; exact Rep.bad_scan Hbad.out H0.out h1))
      have h22 : Sat w0 w21 (pt b3 (.cells (fltA Rep.Flt.zero) 37 (0,0)) :: LogRep p m L :: MedRep m M :: F) := h21.sb
      clear h21 h1 hfs hfk
      go_wp2_with fail
      refine (fault_c s (Frm.scan (L.bytes M s).1).2.1 h22).mono ?_
      rintro ee w23 ⟨v, rfl, rfl, h23⟩
      clear h22
      go_wp2_with ((with_reducible apply at_store); refine ⟨?_⟩; refine wl_storeA (fltA (Rep.fault s (Frm.scan (L.bytes M s).1).2.1)) h23 (by rfl) (by rfl) (by rfl) upd0 (by kernel_rfl) (by rfl) ?_; intro w24 h24)
      refine ⟨rfl, _, res_tct rfl h24 (by rfl) pkD Tryz.underlying37 rfl (by kernel_rfl), _, rfl, ?_⟩
      unfold RunOut
      rw [Hg.out]
      exact ⟨rfl, h24.drop⟩
    have hb2 : ((Frm.scan (L.bytes M s).1).2.2 != 0) = false := by rw [h1]; rfl
    have H1 := Lib.hid h1
    rw [h1]
    clear h1
    have h22 : Sat w0 w21 (TabMA pg (Rep.ledger (Rep.rowsOf (lbt L M) (L.segs.take i) ++ (fs.take 0).map fun q => (s, q.1))) ((Rep.rowsOf (lbt L M) (L.segs.take i)).length + 0) :: stPt ps (Rep.lastOfL (L.segs.take i)) pi uv (.slice ta (L.segs.length - n) tc) :: osl 121 3 uv ((Rep.usesOf (lbt L M) (L.segs.take i)).flatMap uenc) :: TabML pi (fun _ => none) 0 :: pt b9 (.cells #[ptr pg] 111 (0,0)) ::
      pt b3 (.cells (fltA Rep.Flt.zero) 37 (0,0)) :: osl 3 1 sv (ints L.segs) :: LogRep p m L :: MedRep m M :: osl 118 36 (.slice fa fs.length fc) (fndsL fs) :: dataF fs :: F) := by
      have q : Sat w0 w21 (TabMA pg (Rep.ledger (Rep.rowsOf (lbt L M) (L.segs.take i))) (Rep.rowsOf (lbt L M) (L.segs.take i)).length :: stPt ps (Rep.lastOfL (L.segs.take i)) pi uv (.slice ta (L.segs.length - n) tc) :: osl 121 3 uv ((Rep.usesOf (lbt L M) (L.segs.take i)).flatMap uenc) :: TabML pi (fun _ => none) 0 :: pt b9 (.cells #[ptr pg] 111 (0,0)) ::
      pt b3 (.cells (fltA Rep.Flt.zero) 37 (0,0)) :: osl 3 1 sv (ints L.segs) :: LogRep p m L :: MedRep m M :: osl 118 36 (.slice fa fs.length fc) (fndsL fs) :: dataF fs :: F) := h21.sb
      rw [List.take_zero, List.map_nil, List.append_nil, Nat.add_zero]
      exact q
    have Hcnt := Lib.hid (show (Rep.rowsOf (lbt L M) (L.segs.take i)).length + fs.length ≤ 12000000 by
      have q1 := Rep.rowsOf_le (lbt L M) L.segs (i + 1)
      rw [Htk.out, Rep.rowsOf_snoc, List.length_append, List.length_map, show (Frm.scan (lbt L M s).1).1 = fs.map (·.1) from hfs.symm, List.length_map] at q1
      exact Nat.le_trans q1 Hrows.out)
    have hfl : fs.length ≤ 16777216 := by
      have := Frm.scan_count (L.bytes M s).1
      rw [← hfs, List.length_map] at this; omega
    have Hfl := Lib.hid hfl; have Hfs := Lib.hid hfs; have Hfk := Lib.hid hfk
    clear h21 hbl hfs hfk
    go_wp2_with fail
    go_loopg [72] fs.length (fun g jq wr => ∃ j : Nat, g = fs.length - j ∧ j ≤ fs.length ∧ jq = .int .i64 j ∧ Sat w0 wr (TabMA pg (Rep.ledger (Rep.rowsOf (lbt L M) (L.segs.take i) ++ (fs.take j).map fun q => (s, q.1))) ((Rep.rowsOf (lbt L M) (L.segs.take i)).length + j) :: stPt ps (Rep.lastOfL (L.segs.take i)) pi uv (.slice ta (L.segs.length - n) tc) :: osl 121 3 uv ((Rep.usesOf (lbt L M) (L.segs.take i)).flatMap uenc) :: TabML pi (fun _ => none) 0 :: pt b9 (.cells #[ptr pg] 111 (0,0)) ::
      pt b3 (.cells (fltA Rep.Flt.zero) 37 (0,0)) :: osl 3 1 sv (ints L.segs) :: LogRep p m L :: MedRep m M :: osl 118 36 (.slice fa fs.length fc) (fndsL fs) :: dataF fs :: F))
    case atStart => exact ⟨0, rfl, Nat.zero_le _, rfl, h22⟩
    case round =>
      obtain ⟨j, rfl, hj, rfl, hS⟩ := hrel
      clear h22
      by_cases hjl : j < fs.length
      rotate_left
      · obtain rfl : j = fs.length := by omega
        have d1 : ¬ (fs.length : Int) < (fs.length : Int) := by omega
        rw [List.take_length] at hS
        clear hjl hj
        have hul : ((Rep.usesOf (lbt L M) (L.segs.take i)).flatMap uenc).length ≤ 2147483648 := by
          rw [rows_len (k := 3) fun u _ => rfl]
          unfold Rep.usesOf
          rw [List.length_map, List.length_take]
          have := Hlen.out; omega
        go_wp2_with (first
          | ((with_reducible apply at_store); refine ⟨?_⟩; refine wl_store (cs' := #[.int .i64 s, ptr pi, uv, .slice ta (L.segs.length - n) tc]) hS (by rfl) evD (by rfl) (upd_there upd0) (Nat.le_of_ble_eq_true (by rfl)) (by kernel_rfl) (by rfl) ?_; intro w40 h40)
          | ((with_reducible apply at_load); refine ⟨?_⟩; refine wl_load1 h40 (by rfl) (pick_there pick0) (Nat.le_of_ble_eq_true (by rfl)) evD (by kernel_rfl) ?_)
          | (with_reducible apply at_build1))
        refine ⟨?_⟩
        refine wl_build1 (e := 121) (sz := 3) (by' := 24) (by kernel_rfl) h40 (by rfl) (cs := #[.int .i64 s, .int .i64 ((L.bytes M s).1.length : Nat), .int .i64 0]) rfl rfl (by decide) ?_
        intro b41 w41 h41
        go_wp2_with (with_reducible apply at_append)
        refine ⟨?_⟩
        refine wl_app 121 3 24 (by kernel_rfl) h41 (by rfl) (by rfl) (pick_there (pick_there (pick_there pick0))) pick0 rfl (Nat.le_refl 1) (by rfl) hul (by show 3 ≤ 65536; decide) (by decide) rfl ?_
        intro bA nA cA w42 h42
        go_wp2_with ((with_reducible apply at_store); refine ⟨?_⟩; refine wl_store (cs' := #[.int .i64 s, ptr pi, .slice (some ⟨bA, 0, none⟩) nA cA, .slice ta (L.segs.length - n) tc]) h42 (by rfl) evD (by rfl) (upd_there (upd_there upd0)) (Nat.le_of_ble_eq_true (by rfl)) (by kernel_rfl) (by rfl) ?_; intro w43 h43)
        have h44 : Sat w0 w43 (stPt ps (Rep.lastOfL (L.segs.take (i + 1))) pi (.slice (some ⟨bA, 0, none⟩) nA cA) (.slice ta (L.segs.length - n) tc) :: osl 121 3 (.slice (some ⟨bA, 0, none⟩) nA cA) ((Rep.usesOf (lbt L M) (L.segs.take (i + 1))).flatMap uenc) :: TabML pi (fun _ => none) 0 :: pt b9 (.cells #[ptr pg] 111 (0,0)) ::
          TabMA pg (Rep.ledger (Rep.rowsOf (lbt L M) (L.segs.take (i + 1)))) (Rep.rowsOf (lbt L M) (L.segs.take (i + 1))).length :: pt b3 (.cells (fltA Rep.Flt.zero) 37 (0,0)) :: osl 3 1 sv (ints L.segs) :: LogRep p m L :: MedRep m M :: F) := by
          rw [Htk.out, Rep.lastOfL_snoc, Rep.usesOf_snoc, Rep.rowsOf_snoc, List.length_append, List.length_map, show (Frm.scan (lbt L M s).1).1 = fs.map (·.1) from Hfs.out.symm, List.length_map, List.map_map, List.flatMap_append]
          exact h43.sb
        clear h40 h41 h42 h43 hS
        go_roundg (n - (i + 1))
        case measure => have := Hlt.out; omega
        case rel => exact ⟨i + 1, .slice (some ⟨bA, 0, none⟩) nA cA, rfl, Hlt.out, by first | rfl | go_num, by rw [Htk.out]; exact Rep.bad_none Hbad.out H0.out H1.out, h44⟩
      have d1 : (j : Int) < (fs.length : Int) := by omega
      have hwj : IntKind.i64.wrap ((j : Int) + 1) = (j : Int) + 1 := IntWalk.i64_in _ (by omega)
      obtain ⟨⟨f, dv⟩, hq⟩ : ∃ q, fs[j]? = some q := ⟨_, List.getElem?_eq_getElem hjl⟩
      have hkf : f.e.key.length = 32 := Hfk.out _ (List.mem_of_getElem? hq)
      obtain ⟨da, dn, dc, rfl, _, _⟩ := dataF_ro hq wr (hS.pk (A := dataF fs))
      obtain ⟨bk2, off2, c2, e2, hcell⟩ := osl_row (f := fun q : Frm.Fnd × Value => fndL q.1 q.2) (k := 36) (fun q hq => fndL_len q.1 q.2 (Hfk.out q hq)) (Sat.rd (hS.pk (A := osl 118 36 (.slice fa fs.length fc) (fndsL fs)))) hq (by decide)
      cases e2
      have hl36 : (fndL f (.slice da dn dc)).length = 36 := fndL_len _ _ hkf
      have Htj := Lib.hid (show (fs.take (j + 1)).map (fun q => (s, q.1)) = (fs.take j).map (fun q => (s, q.1)) ++ [(s, f)] by rw [List.take_add_one, hq, Option.toList_some, List.map_append]; rfl)
      have Hjl := Lib.hid hjl; have Hkf := Lib.hid hkf
      clear hq hkf hj
      go_wp2_with (first
        | ((with_reducible apply at_load); refine ⟨?_⟩; refine wl_loadW (b := bk2) (o := off2 + j * 36) (fndL f (.slice da dn dc)) (by rfl) hcell Tryz.underlying118 rfl (by rw [hl36]; kernel_rfl) ?_)
        | (with_reducible apply at_alloc))
      refine ⟨?_⟩
      refine wl_alloc zFnd hS rfl ?_
      intro b17 w30 h30
      go_wp2_with (first
        | ((with_reducible apply at_store); refine ⟨?_⟩; refine wl_storeA (fndA f (.slice da dn dc)) h30 (by rfl) (by rfl) (by rw [fndA_size _ _ Hkf.out]; rfl) upd0 (by rw [fndA_size _ _ Hkf.out]; kernel_rfl) (fndA_ones _ _ _ _) ?_; intro w31 h31)
        | ((with_reducible apply at_load); refine ⟨?_⟩; refine wl_loadA (cs := fndA f (.slice da dn dc)) h31 (by rfl) pick0 Tryz.underlying118 rfl (by rw [fndA_size _ _ Hkf.out]; kernel_rfl) ?_)
        | ((with_reducible apply at_load); refine ⟨?_⟩; refine wl_loadA (cs := #[ptr pg]) h31 (by rfl) (pick_there (pick_there (pick_there (pick_there (pick_there pick0))))) Tryz.underlying111 rfl (by kernel_rfl) ?_))
      have hrl := Rep.rowsOf_le (lbt L M) L.segs i
      refine (take_c (p := pg) s f Hkf.out (by have := Hrows.out; have := Hfl.out; have := Hjl.out; have := Hcnt.out; omega) (h31.pick pick1)).mono ?_
      rintro ee w32 ⟨v, rfl, h32⟩
      clear h30 h31 hS hcell
      have hnn : ∀ x ∈ Rep.rowsOf (lbt L M) (L.segs.take i) ++ (fs.take j).map (fun q => (s, q.1)), 0 ≤ x.1 := fun x hx => by
        rcases List.mem_append.1 hx with hx | hx
        · unfold Rep.rowsOf at hx
          obtain ⟨u, hu, hx⟩ := List.mem_flatMap.1 hx
          obtain ⟨g, _, rfl⟩ := List.mem_map.1 hx
          exact Hnn.out u (List.mem_of_mem_take hu)
        · obtain ⟨g, _, rfl⟩ := List.mem_map.1 hx
          exact Hs0.out
      rw [← Rep.ledger_snoc _ _ hnn, List.append_assoc, ← Htj.out] at h32
      clear hnn
      go_wp2_with fail
      go_roundg (fs.length - (j + 1))
      case measure => have := Hjl.out; omega
      case rel => exact ⟨j + 1, rfl, Hjl.out, by first | rfl | go_num, h32.sb⟩
end
end Go.Proofs.YtlinnpehkfbnkaaGreatDoor
namespace Go.Frm
end Go.Frm
namespace Go.Rep
open Go.Frm (Bs Fnd)
open Go.Seg (Plc)
open Go.Tab
def uAt (l : List Row) (us : List Use) (i : Nat) : List Use := us.map fun u => ⟨u.seg, u.size, u.live + live l u.seg i⟩
end Go.Rep
namespace Go.Seg
open Go.Med
def Log.rbegin1 (L : Log) (D : Med) (b : Bs) : (Log × Med) × Plc × Int :=
  if 1048576 ≤ L.next then ((L, D), Plc.zero, 16)
  else if (D.create (name L.next)).2 ≠ 0 then ((L, (D.create (name L.next)).1), Plc.zero, (D.create (name L.next)).2)
  else if ((D.create (name L.next)).1.append (name L.next) (mag ++ b)).2 = 0 then
    (({ L with l := L.l ++ [(L.next, 8 + (b.length : Int))], on := true, fresh := L.fresh + 1 }, ((D.create (name L.next)).1.append (name L.next) (mag ++ b)).1), ⟨L.next, 8, b.length⟩, 0)
  else if ((D.create (name L.next)).1.append (name L.next) (mag ++ b)).2 = 11 then
    ((L, (((D.create (name L.next)).1.append (name L.next) (mag ++ b)).1.rmove (name L.next) ByteArray.empty true).1), Plc.zero,
      if (((D.create (name L.next)).1.append (name L.next) (mag ++ b)).1.rmove (name L.next) ByteArray.empty true).2 = 12 then 12 else 11)
  else ((L, ((D.create (name L.next)).1.append (name L.next) (mag ++ b)).1), Plc.zero, ((D.create (name L.next)).1.append (name L.next) (mag ++ b)).2)
def Log.rbegin (L : Log) (D : Med) (b : Bs) : (Log × Med) × Plc × Int :=
  if (L.shut D).2 = 0 then (L.shut D).1.1.rbegin1 (L.shut D).1.2 b else ((L.shut D).1, Plc.zero, (L.shut D).2)
def Log.rappend (L : Log) (D : Med) (x : Frm.Ent) : (Log × Med) × Plc × Int :=
  if (Frm.encode x).2 ≠ 0 then ((L, D), Plc.zero, (Frm.encode x).2)
  else if L.fits (Frm.encode x).1.length = true then L.grow D (Frm.encode x).1 else L.rbegin D (Frm.encode x).1
def Log.rcommit (L : Log) (M : Med) : (Log × Med) × Int × Int :=
  if (L.rappend M comEnt).2.2 ≠ 0 then ((L.rappend M comEnt).1, 0, (L.rappend M comEnt).2.2)
  else if ((L.rappend M comEnt).1.2.sync (name (L.rappend M comEnt).2.1.seg)).2 ≠ 0 then (((L.rappend M comEnt).1.1, ((L.rappend M comEnt).1.2.sync (name (L.rappend M comEnt).2.1.seg)).1), 0, ((L.rappend M comEnt).1.2.sync (name (L.rappend M comEnt).2.1.seg)).2)
  else if (((L.rappend M comEnt).1.2.sync (name (L.rappend M comEnt).2.1.seg)).1.syncDir).2 ≠ 0 then (((L.rappend M comEnt).1.1, (((L.rappend M comEnt).1.2.sync (name (L.rappend M comEnt).2.1.seg)).1.syncDir).1), 0, (((L.rappend M comEnt).1.2.sync (name (L.rappend M comEnt).2.1.seg)).1.syncDir).2)
  else (({ (L.rappend M comEnt).1.1 with on := false, fresh := 0 }, (((L.rappend M comEnt).1.2.sync (name (L.rappend M comEnt).2.1.seg)).1.syncDir).1), (L.rappend M comEnt).2.1.seg, 0)
def Log.rremove (L : Log) (D : Med) (n : Int) : (Log × Med) × Int :=
  match L.at n with
  | none => ((L, D), 9)
  | some i => if (D.rmove (name n) ByteArray.empty true).2 = 0 then ((L.without i, (D.rmove (name n) ByteArray.empty true).1), 0) else ((L, (D.rmove (name n) ByteArray.empty true).1), (D.rmove (name n) ByteArray.empty true).2)
def Agree {α : Type} (r q : (Log × Med) × α) : Prop := r.1.1 = q.1.1 ∧ r.2 = q.2 ∧ ∃ φ V, Side φ V r.1.2 q.1.2
section
variable {φ : Nat → Nat} {V : Nat → Prop} {M D : Med} {K : Nat} {L : Log}
theorem Agree.same {α : Type} (h : Side φ V M D) (L : Log) (x : α) : Agree ((L, M), x) ((L, D), x) := ⟨rfl, rfl, φ, V, h⟩
theorem Agree.mk' {α : Type} {r q : Med} (h : ∃ φ V, Side φ V r q) (L : Log) (x : α) : Agree ((L, r), x) ((L, q), x) := ⟨rfl, rfl, h⟩
theorem side_grow (h : Side φ V M D) (ok : M.Ok K) (b : Bs) : Agree (L.grow M b) (L.grow D b) := by
  unfold Log.grow
  split
  · exact .same h _ _
  · rename_i s _
    obtain ⟨h1, h2⟩ := h.append ok (name s.1) b
    rw [← h1]
    split
    · exact .mk' h2 _ _
    · exact .mk' h2 _ _
theorem side_shut (h : Side φ V M D) (ok : M.Ok K) : Agree (L.shut M) (L.shut D) := by
  unfold Log.shut
  split
  · exact .same h _ _
  · rename_i s _
    obtain ⟨h1, h2⟩ := h.sync ok (name s.1)
    rw [← h1]
    split
    · split
      · exact .mk' h2 _ _
      · exact .mk' h2 _ _
    · exact .same h _ _
theorem remove_said {s : ByteArray} (hoff : M.off = false) (hs : (nget M.now s).isSome = true) : (M.remove s).2 = 0 ∨ (M.remove s).2 = 12 := by
  unfold Med.remove
  rw [hoff, if_neg (by decide)]
  cases hg : nget M.now s with
  | none => rw [hg] at hs; cases hs
  | some i =>
    simp only
    split
    · exact .inr rfl
    · exact .inl rfl
theorem full_same {s : ByteArray} {b : Bs} (h : (M.append s b).2 = 11) : (M.append s b).1 = M ∧ M.off = false ∧ (nget M.now s).isSome = true := by
  unfold Med.append at h ⊢
  revert h
  split
  · simp
  rename_i ho
  split
  · simp
  rename_i i hi
  split
  · intro _; exact ⟨rfl, by simpa using ho, by rw [hi]; rfl⟩
  split
  · simp
  · simp
theorem side_begin1 (h : Side φ V M D) (ok : M.Ok K) (b : Bs) : Agree (L.begin1 M b) (L.rbegin1 D b) := by
  unfold Log.begin1 Log.rbegin1
  split; · exact .same h _ _
  obtain ⟨h1, φ1, V1, s1⟩ := h.create ok (name L.next)
  have ok1 := ok.create (name L.next)
  rw [← h1]
  split; · exact .mk' ⟨φ1, V1, s1⟩ _ _
  generalize (M.create (name L.next)).1 = M1 at *
  generalize (D.create (name L.next)).1 = D1 at *
  obtain ⟨h2, φ2, V2, s2⟩ := s1.append ok1 (name L.next) (mag ++ b)
  have ok2 := ok1.append (name L.next) (mag ++ b)
  rw [← h2]
  split; · exact .mk' ⟨φ2, V2, s2⟩ _ _
  split
  · rename_i h11
    obtain ⟨e1, e2, e3⟩ := full_same h11
    obtain ⟨h3, h4⟩ := s2.remove ok2 (name L.next) ByteArray.empty
    rw [← h3]
    have h5 := remove_said (M := (M1.append (name L.next) (mag ++ b)).1) (s := name L.next) (by rw [e1]; exact e2) (by rw [e1]; exact e3)
    refine ⟨rfl, ?_, h4⟩
    simp only [Prod.mk.injEq, true_and]
    rcases h5 with h5 | h5
    · rw [h5]; rfl
    · rw [h5]; rfl
  · exact .mk' ⟨φ2, V2, s2⟩ _ _
theorem shut_ok (ok : M.Ok K) : (L.shut M).1.2.Ok (K + 1) := by
  unfold Log.shut
  split; · exact ok.mono (Nat.le_succ K)
  split
  · split
    · exact ok.sync _
    · exact ok.sync _
  · exact ok.mono (Nat.le_succ K)
theorem side_begin (h : Side φ V M D) (ok : M.Ok K) (b : Bs) : Agree (L.begin M b) (L.rbegin D b) := by
  unfold Log.begin Log.rbegin
  obtain ⟨h1, h2, φ1, V1, s1⟩ := side_shut (L := L) h ok
  have ok1 := shut_ok (L := L) ok
  rw [← h2]
  split
  · rw [← h1]; exact side_begin1 s1 ok1 b
  · exact ⟨h1, rfl, φ1, V1, s1⟩
theorem side_lappend (h : Side φ V M D) (ok : M.Ok K) (x : Frm.Ent) : Agree (L.append M x) (L.rappend D x) := by
  unfold Log.append Log.rappend
  split; · exact .same h _ _
  split
  · exact side_grow h ok _
  · exact side_begin h ok _
theorem side_lremove (h : Side φ V M D) (ok : M.Ok K) (n : Int) : Agree (L.remove M n) (L.rremove D n) := by
  unfold Log.remove Log.rremove
  cases L.at n with
  | none => exact .same h _ _
  | some i =>
    simp only
    obtain ⟨h1, h2⟩ := h.remove ok (name n) ByteArray.empty
    rw [← h1]
    split
    · exact .mk' h2 _ _
    · exact .mk' h2 _ _
end
end Go.Seg
namespace Go.Seg
open Go.Med
structure Fit (K : Nat) (D : Med) : Prop where
  ok : D.Ok K
  small : D.Small
  files : D.files.length ≤ 500 + K
section
variable {φ : Nat → Nat} {V : Nat → Prop} {M D : Med} {K : Nat} {L : Log}
theorem Fit.mono {K' : Nat} (h : Fit K D) (hk : K ≤ K') : Fit K' D := ⟨h.ok.mono hk, h.small, by have := h.files; omega⟩
theorem Fit.new (K r : Nat) (h : r ≤ 16777216) : Fit K (new r) := ⟨Med.Ok.new K r h, (fun f hf => by cases hf), Nat.zero_le _⟩
theorem Fit.told (h : Fit K D) (x : Med.Cal) (hn : x.n ≤ 9223372036854775807) : Fit (K + 1) (D.told x).1 := ⟨h.ok.told x hn, h.small.told h.ok x, told_files h.ok h.files x⟩
theorem Fit.create (h : Fit K D) (s : ByteArray) : Fit (K + 1) (D.create s).1 := h.told ⟨0, s, s, 0, 0, [], []⟩ (show (0 : Int) ≤ 9223372036854775807 by decide)
theorem Fit.append (h : Fit K D) (s : ByteArray) (b : Bs) : Fit (K + 1) (D.append s b).1 := h.told ⟨1, s, s, 0, 0, b, []⟩ (show (0 : Int) ≤ 9223372036854775807 by decide)
theorem Fit.gone (h : Fit K D) (s : ByteArray) : Fit (K + 1) (D.rmove s ByteArray.empty true).1 := h.told ⟨4, s, s, 0, 0, [], []⟩ (show (0 : Int) ≤ 9223372036854775807 by decide)
theorem Fit.sync (h : Fit K D) (s : ByteArray) : Fit (K + 1) (D.sync s).1 := h.told ⟨5, s, s, 0, 0, [], []⟩ (show (0 : Int) ≤ 9223372036854775807 by decide)
theorem Fit.syncDir (h : Fit K D) : Fit (K + 1) D.syncDir.1 := h.told ⟨6, ByteArray.empty, ByteArray.empty, 0, 0, [], []⟩ (show (0 : Int) ≤ 9223372036854775807 by decide)
theorem Fit.arm (h : Fit K D) (n : Int) (hn : n ≤ 9223372036854775807) : Fit (K + 1) (D.arm n).1 := h.told ⟨7, ByteArray.empty, ByteArray.empty, n, 0, [], []⟩ hn
theorem Fit.crash (h : Fit K D) (l : List Int) : Fit (K + 1) (D.rcrash l) := h.told ⟨8, ByteArray.empty, ByteArray.empty, 0, 0, [], l⟩ (show (0 : Int) ≤ 9223372036854775807 by decide)
theorem Fit.now (h : Fit K D) : D.now.length ≤ 500 := h.ok.nowOk.len
theorem Fit.len (h : Fit K D) {s : ByteArray} {i : Nat} (hi : nget D.now s = some i) : i < D.files.length ∧ (D.file i).now.length ≤ 1099511627776 := by
  refine ⟨h.ok.nowOk.ids _ (nget_mem hi), ?_⟩
  have := (h.ok.file i).now_len
  omega
theorem Fit.grow (h : Fit K D) (b : Bs) : Fit (K + 1) (L.grow D b).1.2 := by
  unfold Log.grow
  split; · exact h.mono (Nat.le_succ K)
  split <;> exact h.append _ _
theorem Fit.shut (h : Fit K D) : Fit (K + 1) (L.shut D).1.2 := by
  unfold Log.shut
  split; · exact h.mono (Nat.le_succ K)
  split
  · split <;> exact h.sync _
  · exact h.mono (Nat.le_succ K)
theorem Fit.begin1 (h : Fit K D) (b : Bs) : Fit (K + 3) (L.rbegin1 D b).1.2 := by
  unfold Log.rbegin1
  split; · exact h.mono (by omega)
  split; · exact (h.create _).mono (by omega)
  split; · exact ((h.create _).append _ _).mono (by omega)
  split; · exact (((h.create _).append _ _).gone _)
  exact ((h.create _).append _ _).mono (by omega)
theorem Fit.begin (h : Fit K D) (b : Bs) : Fit (K + 4) (L.rbegin D b).1.2 := by
  unfold Log.rbegin
  split
  · exact (h.shut).begin1 _
  · exact h.shut.mono (by omega)
theorem Fit.lappend (h : Fit K D) (x : Frm.Ent) : Fit (K + 4) (L.rappend D x).1.2 := by
  unfold Log.rappend
  split; · exact h.mono (by omega)
  split
  · exact (h.grow _).mono (by omega)
  · exact h.begin _
theorem Fit.lremove (h : Fit K D) (n : Int) : Fit (K + 1) (L.rremove D n).1.2 := by
  unfold Log.rremove
  cases L.at n with
  | none => exact h.mono (Nat.le_succ K)
  | some i =>
    simp only
    split <;> exact h.gone _
def Log.rback : Nat → Log → Med → (Log × Med) × Int
  | 0, L, M => (({ L with on := false }, M), 0)
  | k + 1, L, M =>
    match L.l.getLast? with
    | none => (({ L with on := false }, M), 0)
    | some s => if (L.rremove M s.1).2 = 0 then Log.rback k (L.rremove M s.1).1.1 (L.rremove M s.1).1.2 else L.rremove M s.1
def Log.rrollback (L : Log) (M : Med) : (Log × Med) × Int := L.rback L.fresh.toNat M
theorem Fit.back : ∀ (k : Nat) {K : Nat} {L : Log} {D : Med}, Fit K D → Fit (K + k) (L.rback k D).1.2
  | 0, K, L, D, h => h
  | k + 1, K, L, D, h => by
    unfold Log.rback
    split; · exact h.mono (by omega)
    split
    · exact (Fit.back k (h.lremove _)).mono (by omega)
    · exact (h.lremove _).mono (by omega)
theorem side_back : ∀ (k : Nat) {K : Nat} {L : Log} {φ : Nat → Nat} {V : Nat → Prop} {M D : Med}, Side φ V M D → M.Ok K → Agree (L.back k M) (L.rback k D)
  | 0, K, L, φ, V, M, D, h, ok => .same h _ _
  | k + 1, K, L, φ, V, M, D, h, ok => by
    unfold Log.back Log.rback
    cases L.l.getLast? with
    | none => exact .same h _ _
    | some s =>
      simp only
      obtain ⟨h1, h2, φ1, V1, s1⟩ := side_lremove (L := L) h ok s.1
      have ok1 : (L.remove M s.1).1.2.Ok (K + 1) := by
        unfold Log.remove
        cases L.at s.1 with
        | none => exact ok.mono (Nat.le_succ K)
        | some i => simp only; split <;> exact ok.remove _
      rw [← h2]
      split
      · rw [← h1]; exact side_back k s1 ok1
      · exact ⟨h1, h2, φ1, V1, s1⟩
theorem side_lrollback (h : Side φ V M D) (ok : M.Ok K) : Agree (L.rollback M) (L.rrollback D) := side_back _ h ok
theorem side_lread (h : Side φ V M D) (ok : M.Ok K) (q : Plc) : L.read M q = L.read D q := by
  unfold Log.read
  rw [h.read ok]
theorem Log.shut_fresh (L : Log) (M : Med) : (L.shut M).1.1.fresh = L.fresh := by
  unfold Log.shut
  split; · rfl
  split
  · split <;> rfl
  · rfl
theorem Log.append_fresh (L : Log) (M : Med) (x : Frm.Ent) : (L.append M x).1.1.fresh ≤ L.fresh + 1 := by
  unfold Log.append
  split; · simp only; omega
  split
  · unfold Log.grow
    split; · simp only; omega
    split <;> (simp only; omega)
  · unfold Log.begin
    have h1 := Log.shut_fresh L M
    split
    · unfold Log.begin1
      split; · simp only; omega
      split; · simp only; omega
      split; · simp only; omega
      split <;> (simp only; omega)
    · simp only; omega
theorem Log.remove_fresh_le (L : Log) (M : Med) (n : Int) : (L.remove M n).1.1.fresh ≤ L.fresh := by
  unfold Log.remove
  cases L.at n with
  | none => exact Int.le_refl _
  | some i =>
    simp only
    split
    · unfold Log.without; simp only; split <;> omega
    · exact Int.le_refl _
theorem Log.back_fresh : ∀ (k : Nat) (L : Log) (M : Med), (L.back k M).1.1.fresh ≤ L.fresh
  | 0, L, M => Int.le_refl _
  | k + 1, L, M => by
    unfold Log.back
    cases L.l.getLast? with
    | none => exact Int.le_refl _
    | some s =>
      simp only
      split
      · exact Int.le_trans (Log.back_fresh k _ _) (Log.remove_fresh_le L M s.1)
      · exact Log.remove_fresh_le L M s.1
end
end Go.Seg
namespace Go.Frm
def bst (x : Nat) : Nat := (x / 2) ^^^ (if x % 2 = 1 then 3988292384 else 0)
def bitIn (x c k : Nat) : Nat := if x % 2 ≠ c / 2 ^ k % 2 then (x / 2) ^^^ 3988292384 else x / 2
def bitsIn (x c : Nat) : Nat → Nat
  | 0 => x
  | k + 1 => bitIn (bitsIn x c k) c k
end Go.Frm
namespace Go.Proofs.YtlinnpehkfbnkaaGreatDoor
open Go Go.Sl Go.Med Go.MapKept Go.RowKit
section
variable {w0 w : World} {F : List HProp} {v bv : Value}
end
end Go.Proofs.YtlinnpehkfbnkaaGreatDoor
namespace Go.Frm
end Go.Frm
namespace Go.Proofs.YtlinnpehkfbnkaaGreatDoor
open Go Go.Sl Go.Med Go.MapKept Go.RowKit
section
variable {w0 w : World} {F : List HProp} {v bv : Value}
end
section
variable {w0 w : World} {F R : List HProp} {d : Nat} {D : Med} {fsv fv nv wv v lv : Value} {xs : List RF} {g : Bag} {K : Nat}
end
section
variable {w0 w : World} {F R : List HProp} {d : Nat} {D : Med} {fsv fv nv wv v lv : Value} {xs : List RF} {g : Bag} {K : Nat}
section
variable {ops : Array Oper} {rest : List Oper} {a : Act} {Q : Exit → Act → World → Prop} {dst : Option Tmp} {t : Nat} {pos : String} {after : Array Edge} {s y : Operand} {x : Value} {l k : Bs} {K : Act → World → Prop} {E : Prop}
end
end
section
variable {P : Program} {w0 w : World} {L L' : List HProp} {b o : Nat} {ops : Array Oper} {rest : List Oper} {a : Act} {Q : Exit → Act → World → Prop} {dst : Option Tmp} {t ty T sz n c : Nat} {pos : String} {after : Array Edge} {x y : Operand} {v : Value} {xs : List Value} {K : Act → World → Prop} {E : Prop}
end
section
variable {w0 w : World} {F R : List HProp} {d i : Nat} {D : Med} {fsv fv nv wv v lv bv : Value} {xs : List RF} {x : RF} {g : Bag} {K : Nat}
theorem DskIn.set (h : DskIn D fv nv xs g) {i : Nat} {x' : RF} (hok : x'.ws.map (·.1) = x'.f.waits) : DskIn (D.setFile i x'.f) fv nv (xs.set i x') g :=
  ⟨by rw [List.map_set, h.files]; rfl, (fun y hy => by rcases List.mem_or_eq_of_mem_set hy with hy | rfl; exact h.ok y hy; exact hok), h.fast, h.now⟩
theorem DskIn.step (h : DskIn D fv nv xs g) : DskIn D.step.1 fv nv xs g := ⟨by rw [step_files]; exact h.files, h.ok, by rw [step_fast]; exact h.fast, by rw [step_now]; exact h.now⟩
end
section
variable {P : Program} {w0 w : World} {F R : List HProp} {ops : Array Oper} {rest : List Oper} {a : Act} {Q : Exit → Act → World → Prop} {dst : Option Tmp} {t ty T b o : Nat} {pos : String} {after : Array Edge} {x : Operand} {cs : Array Value} {g : Nat × Bool}
end
section
variable {w0 w : World} {F R : List HProp} {bE : Nat} {e : Frm.Ent} {dv : Value}
end
section
variable {w0 w : World} {F R : List HProp} {bE : Nat} {e : Frm.Ent} {dv : Value}
end
section
variable {w0 w : World} {F R : List HProp} {bE : Nat} {e : Frm.Ent} {dv : Value}
end
section
variable {w0 w : World} {F R : List HProp} {bE : Nat} {e : Frm.Ent} {dv : Value}
end
section
variable {w0 w : World} {F R : List HProp} {d : Nat} {D : Med} {fsv fv nv wv v lv bv : Value} {xs : List RF} {g : Bag} {K : Nat}
end
section
variable {w0 w : World} {F R : List HProp} {d : Nat} {D : Med} {fsv fv nv wv v lv bv : Value} {xs : List RF} {g : Bag} {K : Nat}
end
section
variable {P : Program} {w0 w : World} {L L' : List HProp} {b o : Nat} {ops : Array Oper} {a : Act} {Q : Exit → Act → World → Prop} {dst : Option Tmp} {t ty T : TypeId} {pos : String} {after : Array Edge} {x y : Operand} {cs : Array Value} {v : Value} {K : Act → World → Prop} {E : Prop}
end
section
variable {w0 w : World} {F R : List HProp} {d i : Nat} {D : Med} {fsv fv nv wv v lv bv : Value} {xs : List RF} {x : RF} {g : Bag} {K : Nat}
section
variable {P : Program} {b o : Nat} {ops : Array Oper} {rest : List Oper} {a : Act} {Q : Exit → Act → World → Prop} {dst : Option Tmp} {t ty : Nat} {pos : String} {after : Array Edge} {y : Operand}
end
end
section
variable {w0 w : World} {F R : List HProp} {v bv dv x lv : Value}
def keyTo (kk : Bs) (i : Nat) : Bs := kk.take i ++ Frm.zero32.drop i
end
section
variable {w0 w : World} {F R : List HProp} {v bv dv x lv : Value}
end
section
variable {w0 w : World} {F R : List HProp} {v bv dv x lv : Value}
end
section
variable {w0 w : World} {F R : List HProp} {v bv dv x lv : Value}
end
section
variable {w0 w : World} {F R : List HProp} {v bv dv x lv : Value}
end
section
variable {w0 w : World} {F R : List HProp} {v bv dv x lv : Value}
end
end Go.Proofs.YtlinnpehkfbnkaaGreatDoor
namespace Go.Seg
end Go.Seg
namespace Go.Proofs.YtlinnpehkfbnkaaGreatDoor
open Go Go.Sl Go.Med Go.MapKept Go.RowKit
section
variable {w0 w : World} {F R : List HProp} {p d : Nat} {L : Seg.Log} {lv v : Value} {D : Med} {K : Nat}
end
section
variable {P : Program} {w0 w : World} {F R : List HProp} {e : TypeId} {ops : Array Oper} {a : Act} {Q : Exit → Act → World → Prop} {dst : Option Tmp} {ty : TypeId} {t : Nat} {pos : String} {after : Array Edge} {s y : Operand} {v x : Value} {xs ys : List Value} {K : Act → World → Prop} {E : Prop}
end
section
variable {w0 w : World} {F R : List HProp} {p d : Nat} {L : Seg.Log} {lv v : Value} {D : Med} {K : Nat}
end
end Go.Proofs.YtlinnpehkfbnkaaGreatDoor
namespace Go.Seg
open Go.Med
end Go.Seg
namespace Go.Seg
end Go.Seg
namespace Go.Proofs.YtlinnpehkfbnkaaGreatDoor
open Go Go.Sl Go.Med Go.MapKept Go.RowKit
section
variable {w0 w : World} {F R : List HProp} {p d q : Nat} {L : Seg.Log} {lv v bv : Value} {D : Med} {K : Nat}
end
end Go.Proofs.YtlinnpehkfbnkaaGreatDoor
namespace Go.Seg
open Go.Med
end Go.Seg
namespace Go.Proofs.YtlinnpehkfbnkaaGreatDoor
open Go Go.Sl Go.Med Go.MapKept Go.RowKit
section
variable {w0 w : World} {F R : List HProp} {p d q : Nat} {L : Seg.Log} {lv v bv : Value} {D : Med} {K : Nat} {s : Int × Int}
end
section
variable {w0 w : World} {F R : List HProp} {p d q : Nat} {L : Seg.Log} {lv v bv : Value} {M : Med} {K : Nat}
end
end Go.Proofs.YtlinnpehkfbnkaaGreatDoor
namespace Go.Seg
open Go.Med
end Go.Seg
namespace Go.Proofs.YtlinnpehkfbnkaaGreatDoor
open Go Go.Sl Go.Med Go.MapKept Go.RowKit
section
variable {w0 w : World} {F R : List HProp} {p d q : Nat} {L : Seg.Log} {lv v bv : Value} {M : Med} {K : Nat} {s : Int × Int}
end
end Go.Proofs.YtlinnpehkfbnkaaGreatDoor
namespace Go.Seg
open Go.Med
section
variable {K K' : Nat} {M M' : Med} {L : Log} {s t : ByteArray} {i : Nat} {sure opn : List (Plc × Frm.Ent)}
theorem app_lt : ∀ (x y u v : Bs), x.length = y.length → x < y → x ++ u < y ++ v
  | [], [], _, _, _, h => absurd h (List.not_lt_nil [])
  | [], _ :: _, _, _, h, _ => by simp at h
  | _ :: _, [], _, _, h, _ => by simp at h
  | a :: x, b :: y, u, v, hl, h => by
    rw [List.cons_append, List.cons_append, List.cons_lt_cons_iff]
    rcases List.cons_lt_cons_iff.1 h with h1 | ⟨e, h1⟩
    · exact .inl h1
    · exact .inr ⟨e, app_lt x y u v (by simpa using hl) h1⟩
theorem app_lt_r : ∀ (x u v : Bs), u < v → x ++ u < x ++ v
  | [], _, _, h => h
  | a :: x, u, v, h => by
    rw [List.cons_append, List.cons_append, List.cons_lt_cons_iff]
    exact .inr ⟨rfl, app_lt_r x u v h⟩
theorem digs_lt : ∀ (k a b : Nat), a < b → b < 10 ^ k → digs a k < digs b k
  | 0, a, b, h, hb => by simp at hb; omega
  | k + 1, a, b, h, hb => by
    show digs (a / 10) k ++ [UInt8.ofNat (48 + a % 10)] < digs (b / 10) k ++ [UInt8.ofNat (48 + b % 10)]
    have hb' : b / 10 < 10 ^ k := by rw [Nat.div_lt_iff_lt_mul (by omega)]; rw [Nat.pow_succ] at hb; exact hb
    rcases Nat.lt_or_ge (a / 10) (b / 10) with q | q
    · exact app_lt _ _ _ _ (by rw [digs_len, digs_len]) (digs_lt k _ _ q hb')
    · have e : a / 10 = b / 10 := by omega
      rw [e]
      refine app_lt_r _ _ _ ?_
      rw [List.cons_lt_cons_iff]
      left
      rw [UInt8.lt_iff_toNat_lt, UInt8.toNat_ofNat', UInt8.toNat_ofNat']
      omega
theorem name_lt {a b : Int} (h1 : 0 ≤ a) (h2 : a < b) (h3 : b < 1048576) : lt (name a) (name b) = true := by
  unfold name
  rw [if_neg (by omega), if_neg (by omega)]
  unfold lt
  rw [decide_eq_true_eq]
  show lead ++ digs a.toNat 8 < lead ++ digs b.toNat 8
  exact app_lt_r _ _ _ (digs_lt 8 _ _ (by omega) (by omega))
theorem number_is {s : ByteArray} (h : (number s).2 = true) : 0 ≤ (number s).1 ∧ (number s).1 < 1048576 ∧ name (number s).1 = s := by
  unfold number at h ⊢
  dsimp only at h ⊢
  split at h
  · rename_i hc
    rw [if_pos hc]
    obtain ⟨c1, c2, c3, c4⟩ := hc
    refine ⟨by simp only; omega, by simp only; omega, ?_⟩
    simp only
    unfold name
    rw [if_neg (by omega)]
    have hl : (s.data.toList.drop 4).length = 8 := by
      have : s.data.toList.length = 12 := by first | exact c1 | (rw [Array.length_toList]; exact c1)
      rw [List.length_drop, this]
    have hd := digs_val (s.data.toList.drop 4) c3
    rw [hl] at hd
    have e : lead ++ digs (Int.toNat ((val (s.data.toList.drop 4) : Nat) : Int)) 8 = s.data.toList := by
      rw [Int.toNat_natCast, hd, ← c2, List.take_append_drop]
    rw [e]
  · cases h
theorem found_mem {l : List ByteArray} {x : Int × Int} (h : x ∈ found M l) : ∃ t ∈ l, (number t).2 = true ∧ x = ((number t).1, (M.size t).1) := by
  unfold found at h
  obtain ⟨t, ht, he⟩ := List.mem_filterMap.1 h
  split at he
  · rename_i hn; exact ⟨t, ht, hn, (Option.some.inj he).symm⟩
  · cases he
theorem found_rise : ∀ (l : List ByteArray), l.Pairwise (fun a b => lt a b = true) → ((found M l).map (·.1)).Pairwise (· < ·)
  | [], _ => List.Pairwise.nil
  | t :: l, h => by
    obtain ⟨h1, h2⟩ := List.pairwise_cons.1 h
    have ih := found_rise l h2
    by_cases hn : (number t).2 = true
    · have e : found M (t :: l) = ((number t).1, (M.size t).1) :: found M l := by unfold found; rw [List.filterMap_cons]; simp [hn]
      rw [e, List.map_cons, List.pairwise_cons]
      refine ⟨fun x hx => ?_, ih⟩
      obtain ⟨y, hy, rfl⟩ := List.mem_map.1 hx
      obtain ⟨u, hu, hun, rfl⟩ := found_mem hy
      have hlt := h1 u hu
      obtain ⟨a1, a2, a3⟩ := number_is hn
      obtain ⟨b1, b2, b3⟩ := number_is hun
      rcases Int.lt_or_le (number t).1 (number u).1 with q | q
      · exact q
      · exfalso
        rcases Int.lt_or_eq_of_le q with q | q
        · have h3 := name_lt b1 q a2
          rw [a3, b3] at h3
          have := lt_trans hlt h3
          rw [lt_irrefl] at this; cases this
        · rw [← a3, ← q, b3, lt_irrefl] at hlt; cases hlt
    · have e : found M (t :: l) = found M l := by unfold found; rw [List.filterMap_cons]; simp [hn]
      rw [e]; exact ih
theorem fresh_ok (ok : M.Ok K) (limit : Int) (h1 : 128 ≤ limit) (h2 : limit ≤ 1048576) : (fresh M limit).Ok := by
  refine ⟨⟨h1, h2⟩, ?_, fun x hx => ?_, fun x hx => ?_, ⟨Int.le_refl _, by simp [fresh]⟩, fun hh => by cases hh⟩
  · refine found_rise M.list ?_
    unfold Med.list
    split
    · exact List.Pairwise.nil
    · rw [List.pairwise_map]; exact ok.nowOk.srt
  · obtain ⟨t, _, hn, rfl⟩ := found_mem hx
    have := number_is hn
    exact ⟨this.1, this.2.1⟩
  · obtain ⟨t, _, hn, rfl⟩ := found_mem hx
    unfold Med.size
    split
    · simp
    split
    · simp
    · have := (ok.file ‹Nat›).now_len
      simp only
      omega
end
end Go.Seg
namespace Go.Seg
open Go.Med
theorem all_size (M : Med) (s : ByteArray) : (((M.all s).1.length : Nat) : Int) = (M.size s).1 := by
  unfold Med.all Med.size
  split; · rfl
  split
  · rfl
  · rfl
section
variable {φ : Nat → Nat} {V : Nat → Prop} {M D : Med} {K : Nat} {L : Log}
theorem side_fresh (h : Side φ V M D) (ok : M.Ok K) (limit : Int) : fresh D limit = fresh M limit := by
  have e : found D D.list = found M M.list := by
    rw [h.list]
    unfold found
    congr 1
    funext s
    rw [← all_size, ← all_size, h.all ok]
  unfold fresh
  rw [e]
theorem back_med : ∀ (k : Nat) {K : Nat} {L : Log} {M : Med}, M.Ok K → (L.back k M).1.2.Ok (K + k)
  | 0, K, L, M, h => h
  | k + 1, K, L, M, h => by
    have h1 : ∀ n, (L.remove M n).1.2.Ok (K + 1) := fun n => by
      unfold Log.remove
      cases L.at n with
      | none => exact h.mono (Nat.le_succ K)
      | some i => simp only; split <;> exact h.remove _
    unfold Log.back
    split; · exact h.mono (by omega)
    split
    · exact (back_med k (h1 _)).mono (by omega)
    · exact (h1 _).mono (by omega)
theorem alive_yes (ok : M.Ok K) (hoff : M.off = false) : alive M = 0 := by
  unfold alive Med.size
  rw [hoff]
  simp only [Bool.false_eq_true, if_false]
  cases hg : nget M.now ByteArray.empty with
  | none => rfl
  | some i => exact absurd rfl (ok.nowOk.ne _ (nget_mem hg))
end
structure Two (i : Nat) (L : Log) (M D : Med) : Prop where
  log : L.Ok
  ok : M.Ok (i * 2000)
  fit : Fit (i * 2000) D
  side : ∃ φ V, Side φ V M D
  fresh : L.fresh ≤ i
structure Step {α : Type} (i : Nat) (a b : (Log × Med) × α) : Prop where
  log : b.1.1 = a.1.1
  res : b.2 = a.2
  two : Two i a.1.1 a.1.2 b.1.2
section
variable {i : Nat} {M D : Med} {L : Log}
theorem Step.of {α : Type} {a b : (Log × Med) × α} (h : Agree a b) (hl : a.1.1.Ok) (ok : a.1.2.Ok (i * 2000)) (fit : Fit (i * 2000) b.1.2) (hf : a.1.1.fresh ≤ i) : Step i a b :=
  ⟨h.1.symm, h.2.1.symm, hl, ok, fit, h.2.2, hf⟩
theorem Two.first (r : Nat) (hr : r ≤ 16777216) (limit : Int) (h1 : 128 ≤ limit) (h2 : limit ≤ 1048576) : Two 0 (Seg.fresh (new r) limit) (new r) (new r) :=
  ⟨fresh_ok (Med.Ok.new 0 r hr) limit h1 h2, Med.Ok.new _ r hr, Fit.new _ r hr, ⟨_, _, Side.new r⟩, Int.le_refl _⟩
theorem Two.mono {j : Nat} (h : Two i L M D) (hj : i ≤ j) : Two j L M D :=
  ⟨h.log, h.ok.mono (by omega), h.fit.mono (by omega), h.side, by have := h.fresh; omega⟩
theorem Two.append (h : Two i L M D) (x : Frm.Ent) (hk : x.key.length = 32) : Step (i + 1) (L.append M x) (L.rappend D x) := by
  obtain ⟨φ, V, s⟩ := h.side
  exact .of (side_lappend s h.ok x) (h.log.append M x hk) ((Log.append_med h.ok x).mono (by omega)) ((h.fit.lappend x).mono (by omega)) (by have := Log.append_fresh L M x; have := h.fresh; omega)
theorem Two.remove (h : Two i L M D) (n : Int) : Step (i + 1) (L.remove M n) (L.rremove D n) := by
  obtain ⟨φ, V, s⟩ := h.side
  have h1 : (L.remove M n).1.2.Ok (i * 2000 + 1) := by
    have h := h.ok
    unfold Log.remove
    cases L.at n with
    | none => exact h.mono (Nat.le_succ _)
    | some i => simp only; split <;> exact h.remove _
  exact .of (side_lremove s h.ok n) (h.log.remove M n) (h1.mono (by omega)) ((h.fit.lremove n).mono (by omega)) (by have := Log.remove_fresh_le L M n; have := h.fresh; omega)
theorem Two.rollback (h : Two i L M D) (hi : i ≤ 1000) : Step (i + 1) (L.rollback M) (L.rrollback D) := by
  obtain ⟨φ, V, s⟩ := h.side
  have hf := h.fresh
  exact .of (side_lrollback s h.ok) (Log.Ok.back _ M h.log) ((back_med _ h.ok).mono (by omega)) ((Fit.back _ h.fit).mono (by omega)) (by have := Log.back_fresh L.fresh.toNat L M; unfold Log.rollback; omega)
theorem Two.sync (h : Two i L M D) : D.syncDir.2 = M.syncDir.2 ∧ Two (i + 1) L M.syncDir.1 D.syncDir.1 := by
  obtain ⟨φ, V, s⟩ := h.side
  obtain ⟨h1, h2⟩ := s.syncDir h.ok
  exact ⟨h1.symm, h.log, h.ok.syncDir.mono (by omega), h.fit.syncDir.mono (by omega), h2, by have := h.fresh; omega⟩
theorem Two.arm (h : Two i L M D) (n : Int) (hn : n ≤ 9223372036854775807) : (D.arm n).2 = (M.arm n).2 ∧ Two (i + 1) L (M.arm n).1 (D.arm n).1 := by
  obtain ⟨φ, V, s⟩ := h.side
  obtain ⟨h1, h2⟩ := s.arm n
  exact ⟨h1.symm, h.log, (h.ok.arm n hn).mono (by omega), (h.fit.arm n hn).mono (by omega), h2, by have := h.fresh; omega⟩
theorem Two.crash (h : Two i L M D) (l : List Int) (limit : Int) (h1 : 128 ≤ limit) (h2 : limit ≤ 1048576) :
    Two (i + 1) (Seg.fresh (M.crash l) limit) (M.crash l) (D.rcrash l) ∧ Seg.fresh (D.rcrash l) limit = Seg.fresh (M.crash l) limit ∧ alive (M.crash l) = 0 ∧ (D.rcrash l).off = false := by
  obtain ⟨φ, V, s⟩ := h.side
  obtain ⟨φ', V', s'⟩ := s.crash l
  have ok' := h.ok.crash l
  refine ⟨⟨fresh_ok ok' limit h1 h2, ok'.mono (by omega), (h.fit.crash l).mono (by omega), ⟨_, _, s'⟩, by unfold Seg.fresh; simp only; omega⟩, side_fresh s' ok' limit, alive_yes ok' rfl, rfl⟩
theorem Two.read (h : Two i L M D) (q : Plc) : L.read D q = L.read M q := by
  obtain ⟨φ, V, s⟩ := h.side
  exact (side_lread s h.ok q).symm
end
end Go.Seg
namespace Go.Seg
open Go.Med
open Go.Frm (encs GoodE)
section
variable {K : Nat} {M M' : Med} {L : Log} {s t : ByteArray} {i : Nat}
def Grow (M : Med) : Prop := ∀ j, ∀ c ∈ (M.file j).waits, c.cut = false
theorem at_pre {f : Fil} (h : ∀ c ∈ f.waits, c.cut = false) : ∀ k, k ≤ f.waits.length → f.fast <+: f.at k
  | 0, _ => by rw [Fil.at_zero]; exact List.prefix_refl _
  | k + 1, hk => by
    have hc : f.waits[k]? = some (f.waits[k]'(by omega)) := List.getElem?_eq_getElem _
    rw [Fil.at_succ f k _ hc]
    have h2 := h _ (List.mem_of_getElem? hc)
    unfold Chg.on
    rw [h2]
    exact (at_pre h k (by omega)).trans (List.prefix_append _ _)
theorem now_pre {f : Fil} (ok : f.Ok K) (h : ∀ c ∈ f.waits, c.cut = false) : f.fast <+: f.now := by rw [ok.now]; exact at_pre h _ (Nat.le_refl _)
def Dur (s : ByteArray) (i : Nat) (M : Med) : Prop := nget M.fast s = some i ∧ ∀ w ∈ M.waits, w.fr ≠ s ∧ w.to ≠ s
theorem on_ne {x : Lnk} {l : Names} (h1 : x.fr ≠ s) (h2 : x.to ≠ s) : nget (x.on l) s = nget l s := by
  have e1 : s ≠ x.fr := fun e => h1 e.symm
  have e2 : s ≠ x.to := fun e => h2 e.symm
  unfold Lnk.on
  simp only
  by_cases a : x.fr = ByteArray.empty
  · by_cases b : x.to = ByteArray.empty
    · rw [if_pos a, if_pos b]
    · rw [if_pos a, if_neg b, nget_put_ne e2]
  · by_cases b : x.to = ByteArray.empty
    · rw [if_neg a, if_pos b, nget_ne e1]
    · rw [if_neg a, if_neg b, nget_put_ne e2, nget_ne e1]
theorem foldl_ne : ∀ (ws : List Lnk) (l : Names), (∀ w ∈ ws, w.fr ≠ s ∧ w.to ≠ s) → nget (ws.foldl (fun l x => x.on l) l) s = nget l s
  | [], _, _ => rfl
  | w :: ws, l, h => by
    rw [List.foldl_cons, foldl_ne ws _ (fun x hx => h x (.tail _ hx)), on_ne (h w (.head _)).1 (h w (.head _)).2]
theorem Dur.last (h : Dur s i M) (k : Nat) : nget (M.lastNames k) s = some i := by
  unfold Med.lastNames
  rw [foldl_ne _ _ (fun w hw => h.2 w (List.mem_of_mem_take hw))]
  exact h.1
theorem Dur.now (ok : M.Ok K) (h : Dur s i M) : nget M.now s = some i := by rw [ok.now]; exact h.last _
structure Ext (s : ByteArray) (i : Nat) (M M' : Med) : Prop where
  now : nget M'.now s = some i
  dur : Dur s i M → Dur s i M'
  fast : ∀ j, (M.file j).fast <+: (M'.file j).fast
  bytes : ∀ j, (M.file j).now <+: (M'.file j).now
theorem Ext.refl (h : nget M.now s = some i) : Ext s i M M := ⟨h, fun h => h, fun _ => List.prefix_refl _, fun _ => List.prefix_refl _⟩
theorem Ext.trans {M2 : Med} (h : Ext s i M M') (k : Ext s i M' M2) : Ext s i M M2 :=
  ⟨k.now, fun d => k.dur (h.dur d), fun j => (h.fast j).trans (k.fast j), fun j => (h.bytes j).trans (k.bytes j)⟩
theorem Ext.like (h : nget M.now s = some i) (e1 : M'.now = M.now) (e2 : M'.fast = M.fast) (e3 : M'.files = M.files) (e4 : M'.waits = M.waits) : Ext s i M M' :=
  ⟨by rw [e1]; exact h, fun d => by unfold Dur; rw [e2, e4]; exact d, fun j => by unfold Med.file; rw [e3]; exact List.prefix_refl _, fun j => by unfold Med.file; rw [e3]; exact List.prefix_refl _⟩
theorem Grow.like (g : Grow M) (e : M'.files = M.files) : Grow M' := fun j c hc => g j c (by unfold Med.file at *; rw [e] at hc; exact hc)
theorem file_snoc (M : Med) (j : Nat) : (M.files ++ [Fil.new]).getD j Fil.new = M.file j := by
  unfold Med.file
  rw [List.getD_eq_getElem?_getD, List.getD_eq_getElem?_getD]
  rcases Nat.lt_trichotomy j M.files.length with q | q | q
  · rw [List.getElem?_append_left q]
  · subst q; simp
  · rw [List.getElem?_eq_none (by simp; omega), List.getElem?_eq_none (by omega)]
theorem step_ext (h : nget M.now s = some i) : Ext s i M M.step.1 := by
  obtain ⟨_, sf, sn, sfi, sw⟩ := M.step_same
  exact Ext.like h sn sf sfi sw
theorem Grow.step (g : Grow M) : Grow M.step.1 := g.like M.step_same.2.2.2.1
theorem create_ext (hs : nget M.now s = some i) (hse : s ≠ ByteArray.empty) (t : ByteArray) : Ext s i M (M.create t).1 := by
  obtain ⟨_, sf, sn, sfi, sw⟩ := M.step_same
  have r := Ext.refl hs
  have rs := step_ext hs
  unfold Med.create
  split; · exact r
  split; · exact r
  rename_i hg
  split; · exact r
  rename_i hn
  split; · exact r
  split; · exact rs
  have ht : s ≠ t := by rintro rfl; rw [hs] at hn; simp at hn
  have hte : t ≠ ByteArray.empty := good_ne (by simpa using hg)
  refine ⟨?_, fun hd => ⟨?_, ?_⟩, fun j => ?_, fun j => ?_⟩
  · show nget (Lnk.on _ M.step.1.now) s = _
    rw [sn]; unfold Lnk.on; simp only [if_true, if_neg hte]; rw [nget_put_ne ht]; exact hs
  · show nget M.step.1.fast s = _; rw [sf]; exact hd.1
  · intro w hw
    have h2 : w ∈ M.step.1.waits ++ [⟨ByteArray.empty, t, M.files.length⟩] := hw
    rw [sw] at h2
    rcases List.mem_append.1 h2 with h | h
    · exact hd.2 w h
    · rw [List.mem_singleton.1 h]; exact ⟨fun e => hse e.symm, fun e => ht e.symm⟩
  · show _ <+: ((M.files ++ [Fil.new]).getD j Fil.new).fast
    rw [file_snoc]; exact List.prefix_refl _
  · show _ <+: ((M.files ++ [Fil.new]).getD j Fil.new).now
    rw [file_snoc]; exact List.prefix_refl _
theorem Grow.create (g : Grow M) (t : ByteArray) : Grow (M.create t).1 := by
  unfold Med.create
  split; · exact g
  split; · exact g
  split; · exact g
  split; · exact g
  split; · exact g.step
  intro j c hc
  have h2 : c ∈ ((M.files ++ [Fil.new]).getD j Fil.new).waits := hc
  rw [file_snoc] at h2
  exact g j c h2
theorem file_stepSet (ok : M.Ok K) (hi : nget M.now t = some i) (f : Fil) (j : Nat) : (M.step.1.setFile i f).file j = if j = i then f else M.file j := by
  have h2 : (M.step.1.setFile i f).file j = (M.setFile i f).file j := by unfold Med.file Med.setFile; rw [M.step_same.2.2.2.1]
  rw [h2, file_set (ok.nowOk.ids _ (nget_mem hi))]
theorem setFile_ext (ok : M.Ok K) (hs : nget M.now s = some i) {k : Nat} (hk : nget M.now t = some k) {f : Fil} (h1 : (M.file k).fast <+: f.fast) (h2 : (M.file k).now <+: f.now) : Ext s i M (M.step.1.setFile k f) := by
  obtain ⟨_, sf, sn, sfi, sw⟩ := M.step_same
  refine ⟨?_, fun hd => ⟨?_, ?_⟩, fun j => ?_, fun j => ?_⟩
  · show nget M.step.1.now s = _; rw [sn]; exact hs
  · show nget M.step.1.fast s = _; rw [sf]; exact hd.1
  · intro w hw
    have hw' : w ∈ M.step.1.waits := hw
    rw [sw] at hw'; exact hd.2 w hw'
  · rw [file_stepSet ok hk]; split
    · rename_i e; subst e; exact h1
    · exact List.prefix_refl _
  · rw [file_stepSet ok hk]; split
    · rename_i e; subst e; exact h2
    · exact List.prefix_refl _
theorem append_ext (ok : M.Ok K) (hs : nget M.now s = some i) (t : ByteArray) (b : Bs) : Ext s i M (M.append t b).1 := by
  have r := Ext.refl hs
  unfold Med.append
  split; · exact r
  split; · exact r
  rename_i k hk
  split; · exact r
  split; · exact step_ext hs
  exact setFile_ext ok hs hk (List.prefix_refl _) (List.prefix_append _ _)
theorem Grow.append (ok : M.Ok K) (g : Grow M) (t : ByteArray) (b : Bs) : Grow (M.append t b).1 := by
  unfold Med.append
  split; · exact g
  split; · exact g
  rename_i k hk
  split; · exact g
  split; · exact g.step
  intro j c hc
  rw [file_stepSet ok hk] at hc
  split at hc
  · rcases List.mem_append.1 hc with hc | hc
    · exact g _ c hc
    · rw [List.mem_singleton.1 hc]
  · exact g _ c hc
theorem remove_ext (hs : nget M.now s = some i) (hse : s ≠ ByteArray.empty) (ht : t ≠ s) : Ext s i M (M.remove t).1 := by
  obtain ⟨_, sf, sn, sfi, sw⟩ := M.step_same
  have r := Ext.refl hs
  unfold Med.remove
  split; · exact r
  split; · exact r
  split; · exact step_ext hs
  have hl : ∀ j, (M.step.1.link ⟨t, ByteArray.empty, 0⟩).file j = M.file j := fun j => by unfold Med.file Med.link; rw [sfi]
  refine ⟨?_, fun hd => ⟨?_, ?_⟩, fun j => ?_, fun j => ?_⟩
  · show nget (Lnk.on ⟨t, ByteArray.empty, 0⟩ M.step.1.now) s = _
    rw [sn, on_ne ht (fun e => hse e.symm)]; exact hs
  · show nget M.step.1.fast s = _; rw [sf]; exact hd.1
  · intro w hw
    have h2 : w ∈ M.step.1.waits ++ [⟨t, ByteArray.empty, 0⟩] := hw
    rw [sw] at h2
    rcases List.mem_append.1 h2 with h | h
    · exact hd.2 w h
    · rw [List.mem_singleton.1 h]; exact ⟨ht, fun e => hse e.symm⟩
  · rw [hl]; exact List.prefix_refl _
  · rw [hl]; exact List.prefix_refl _
theorem Grow.remove (g : Grow M) (t : ByteArray) : Grow (M.remove t).1 := by
  unfold Med.remove
  split; · exact g
  split; · exact g
  split; · exact g.step
  exact g.like M.step_same.2.2.2.1
theorem sync_ext (ok : M.Ok K) (g : Grow M) (hs : nget M.now s = some i) (t : ByteArray) : Ext s i M (M.sync t).1 := by
  have r := Ext.refl hs
  unfold Med.sync
  split; · exact r
  split; · exact r
  rename_i k hk
  split; · exact step_ext hs
  exact setFile_ext ok hs hk (now_pre (ok.file k) (g k)) (List.prefix_refl _)
theorem Grow.sync (ok : M.Ok K) (g : Grow M) (t : ByteArray) : Grow (M.sync t).1 := by
  unfold Med.sync
  split; · exact g
  split; · exact g
  rename_i k hk
  split; · exact g.step
  intro j c hc
  rw [file_stepSet ok hk] at hc
  split at hc
  · cases hc
  · exact g _ c hc
theorem Grow.syncDir (g : Grow M) : Grow M.syncDir.1 := by
  unfold Med.syncDir
  split; · exact g
  split; · exact g.step
  exact g.like M.step_same.2.2.2.1
theorem arm_ext (hs : nget M.now s = some i) (n : Int) : Ext s i M (M.arm n).1 := by
  unfold Med.arm
  split; · exact Ext.refl hs
  split; · exact Ext.refl hs
  exact Ext.like hs rfl rfl rfl rfl
theorem Grow.arm (g : Grow M) (n : Int) : Grow (M.arm n).1 := by
  unfold Med.arm
  split; · exact g
  split; · exact g
  exact g.like rfl
theorem arm_now (M : Med) (n : Int) : (M.arm n).1.now = M.now ∧ (M.arm n).1.files = M.files := by
  unfold Med.arm
  split; · exact ⟨rfl, rfl⟩
  split <;> exact ⟨rfl, rfl⟩
theorem arm_off (M : Med) (n : Int) : (M.arm n).1.off = M.off := by
  unfold Med.arm
  split; · rfl
  split <;> rfl
theorem off_append (h : M.off = true) (t : ByteArray) (b : Bs) : M.append t b = (M, 12) := by unfold Med.append; rw [if_pos h]
theorem off_create (h : M.off = true) (t : ByteArray) : M.create t = (M, 12) := by unfold Med.create; rw [if_pos h]
theorem off_remove (h : M.off = true) (t : ByteArray) : M.remove t = (M, 12) := by unfold Med.remove; rw [if_pos h]
theorem off_sync (h : M.off = true) (t : ByteArray) : M.sync t = (M, 12) := by unfold Med.sync; rw [if_pos h]
theorem off_shut (h : M.off = true) (L : Log) : (L.shut M).1.2 = M ∧ ((L.shut M).2 = 0 ∨ (L.shut M).2 = 12) := by
  unfold Log.shut
  split; · exact ⟨rfl, .inl rfl⟩
  split
  · rw [off_sync h]; exact ⟨rfl, .inr rfl⟩
  · exact ⟨rfl, .inl rfl⟩
theorem off_begin1 (h : M.off = true) (L : Log) (b : Bs) : (L.begin1 M b).1.2 = M ∧ (L.begin1 M b).2.2 ≠ 0 := by
  unfold Log.begin1
  split; · exact ⟨rfl, by simp⟩
  rw [off_create h]
  simp
theorem off_grow (h : M.off = true) (L : Log) (b : Bs) (hf : L.fits b.length = true) (hL : L.Ok) : (L.grow M b).1.2 = M ∧ (L.grow M b).2.2 ≠ 0 := by
  unfold Log.fits at hf
  rw [Bool.and_eq_true] at hf
  obtain ⟨s, hl⟩ := hL.last hf.1
  unfold Log.grow
  rw [hl]
  simp only
  rw [off_append h]
  simp
theorem off_lappend (h : M.off = true) (hL : L.Ok) (x : Frm.Ent) : (L.append M x).1.2 = M ∧ (L.append M x).2.2 ≠ 0 := by
  by_cases h0 : (Frm.encode x).2 = 0
  · cases hf : L.fits (Frm.encode x).1.length with
    | true => rw [Log.append_grow h0 hf]; exact off_grow h L _ hf hL
    | false =>
      rw [Log.append_begin h0 hf]
      unfold Log.begin
      obtain ⟨e1, e2⟩ := off_shut h L
      split
      · rw [e1]; exact off_begin1 h _ _
      · rename_i e; exact ⟨e1, e⟩
  · rw [Log.append_bad h0]; exact ⟨rfl, h0⟩
theorem append_fail {b : Bs} (h : (M.append t b).2 ≠ 0) : (M.append t b).1.now = M.now ∧ (M.append t b).1.files = M.files := by
  obtain ⟨_, sf, sn, sfi, sw⟩ := M.step_same
  unfold Med.append at h ⊢
  split at h
  · rename_i e; rw [if_pos e]; exact ⟨rfl, rfl⟩
  rename_i e
  rw [if_neg e]
  cases hk : nget M.now t with
  | none => exact ⟨rfl, rfl⟩
  | some k =>
    rw [hk] at h
    simp only at h ⊢
    split at h
    · rename_i e1; rw [if_pos e1]; exact ⟨rfl, rfl⟩
    rename_i e1
    rw [if_neg e1]
    split at h
    · rename_i e2; rw [if_pos e2]; exact ⟨sn, sfi⟩
    · exact absurd rfl h
theorem sync_fail (h : (M.sync t).2 ≠ 0) : (M.sync t).1.now = M.now ∧ (M.sync t).1.files = M.files := by
  obtain ⟨_, sf, sn, sfi, sw⟩ := M.step_same
  unfold Med.sync at h ⊢
  split at h
  · rename_i e; rw [if_pos e]; exact ⟨rfl, rfl⟩
  rename_i e
  rw [if_neg e]
  cases hk : nget M.now t with
  | none => exact ⟨rfl, rfl⟩
  | some k =>
    rw [hk] at h
    simp only at h ⊢
    split at h
    · rename_i e2; rw [if_pos e2]; exact ⟨sn, sfi⟩
    · exact absurd rfl h
theorem sync_good (ok : M.Ok K) (h : (M.sync t).2 = 0) (hk : nget M.now t = some i) : (M.sync t).1.now = M.now ∧ ((M.sync t).1.file i).fast = (M.file i).now ∧ ((M.sync t).1.file i).now = (M.file i).now := by
  obtain ⟨_, sf, sn, sfi, sw⟩ := M.step_same
  unfold Med.sync at h ⊢
  split at h
  · cases h
  rename_i e
  rw [if_neg e]
  rw [hk] at h ⊢
  simp only at h ⊢
  split at h
  · cases h
  rename_i e2
  rw [if_neg e2]
  have hf := file_stepSet ok hk (M.file i).sync i
  rw [if_pos rfl] at hf
  exact ⟨sn, by rw [hf]; rfl, by rw [hf]; rfl⟩
theorem sync_zero (h : (M.sync t).2 = 0) : ∃ k, nget M.now t = some k := by
  unfold Med.sync at h
  split at h
  · cases h
  cases hk : nget M.now t with
  | none => rw [hk] at h; cases h
  | some k => exact ⟨k, rfl⟩
theorem append_good {b : Bs} (ok : M.Ok K) (h : (M.append t b).2 = 0) : ∃ k, nget M.now t = some k ∧ (M.append t b).1.now = M.now ∧ ((M.append t b).1.file k).now = (M.file k).now ++ b := by
  obtain ⟨_, sf, sn, sfi, sw⟩ := M.step_same
  unfold Med.append at h ⊢
  split at h
  · cases h
  rename_i e
  rw [if_neg e]
  cases hk : nget M.now t with
  | none => rw [hk] at h; cases h
  | some k =>
    rw [hk] at h
    simp only at h ⊢
    split at h
    · cases h
    rename_i e1
    rw [if_neg e1]
    split at h
    · cases h
    rename_i e2
    rw [if_neg e2]
    have hf := file_stepSet ok hk ((M.file k).do ⟨false, 0, b⟩) k
    rw [if_pos rfl] at hf
    exact ⟨k, rfl, sn, by rw [hf]; rfl⟩
theorem create_good (ok : M.Ok K) (h : (M.create t).2 = 0) : nget M.now t = none ∧ nget (M.create t).1.now t = some M.files.length ∧ ((M.create t).1.file M.files.length).now = [] ∧ good t = true := by
  obtain ⟨_, sf, sn, sfi, sw⟩ := M.step_same
  unfold Med.create at h ⊢
  split at h
  · cases h
  rename_i e
  rw [if_neg e]
  split at h
  · cases h
  rename_i hg
  rw [if_neg hg]
  split at h
  · cases h
  rename_i hn
  rw [if_neg hn]
  split at h
  · cases h
  rename_i e1
  rw [if_neg e1]
  split at h
  · cases h
  rename_i e2
  rw [if_neg e2]
  have hgt : good t = true := by simpa using hg
  refine ⟨by simpa using hn, ?_, ?_, hgt⟩
  · show nget (Lnk.on _ M.step.1.now) t = _
    rw [sn]; unfold Lnk.on; simp only [if_true, if_neg (good_ne hgt)]
    exact nget_put_self ok.nowOk.srt _ _
  · show ((M.files ++ [Fil.new]).getD M.files.length Fil.new).now = []
    simp [Fil.new]
end
end Go.Seg
