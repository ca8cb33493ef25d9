import Derived.Test.YtlinnpehkfbnkaaGreatDoorJ3
import Derived.Laws.IdiomStrings
import Derived.Lib.BufferRead
set_option linter.unusedVariables false
set_option maxHeartbeats 128000000
namespace Go.Seg
open Go.Med
structure Plc where
 seg : Int
 at_ : Int
 size : Int
def Plc.zero : Plc := ⟨0, 0, 0⟩
def mag : Bs := [72, 79, 65, 82, 68, 83, 69, 71]
def Log.grow (L : Log) (M : Med) (b : Bs) : (Log × Med) × Plc × Int :=
 match L.l.getLast? with
 | none => ((L, M), Plc.zero, 0)
 | some s =>
  if (M.append (name s.1) b).2 = 0 then (({ L with l := L.l.dropLast ++ [(s.1, s.2 + (b.length : Int))] }, (M.append (name s.1) b).1), ⟨s.1, s.2, b.length⟩, 0)
  else ((L, (M.append (name s.1) b).1), Plc.zero, (M.append (name s.1) b).2)
def Log.shut (L : Log) (M : Med) : (Log × Med) × Int :=
 match L.l.getLast? with
 | none => ((L, M), 0)
 | some s =>
  if L.on = true then
   if (M.sync (name s.1)).2 = 0 then (({ L with on := false }, (M.sync (name s.1)).1), 0)
   else ((L, (M.sync (name s.1)).1), (M.sync (name s.1)).2)
  else ((L, M), 0)
def Log.begin1 (L : Log) (M : Med) (b : Bs) : (Log × Med) × Plc × Int :=
 if 1048576 ≤ L.next then ((L, M), Plc.zero, 16)
 else if (M.create (name L.next)).2 ≠ 0 then ((L, (M.create (name L.next)).1), Plc.zero, (M.create (name L.next)).2)
 else if ((M.create (name L.next)).1.append (name L.next) (mag ++ b)).2 = 0 then
  (({ L with l := L.l ++ [(L.next, 8 + (b.length : Int))], on := true, fresh := L.fresh + 1 }, ((M.create (name L.next)).1.append (name L.next) (mag ++ b)).1), ⟨L.next, 8, b.length⟩, 0)
 else if ((M.create (name L.next)).1.append (name L.next) (mag ++ b)).2 = 11 then
  ((L, (((M.create (name L.next)).1.append (name L.next) (mag ++ b)).1.remove (name L.next)).1), Plc.zero,
   if (((M.create (name L.next)).1.append (name L.next) (mag ++ b)).1.remove (name L.next)).2 = 0 then 11 else (((M.create (name L.next)).1.append (name L.next) (mag ++ b)).1.remove (name L.next)).2)
 else ((L, ((M.create (name L.next)).1.append (name L.next) (mag ++ b)).1), Plc.zero, ((M.create (name L.next)).1.append (name L.next) (mag ++ b)).2)
def Log.begin (L : Log) (M : Med) (b : Bs) : (Log × Med) × Plc × Int :=
 if (L.shut M).2 = 0 then (L.shut M).1.1.begin1 (L.shut M).1.2 b else ((L.shut M).1, Plc.zero, (L.shut M).2)
def Log.fits (L : Log) (n : Nat) : Bool := L.on && decide ((L.l.getLast?.map (·.2)).getD 0 + n ≤ L.limit)
def Log.append (L : Log) (M : Med) (x : Frm.Ent) : (Log × Med) × Plc × Int :=
 if (Frm.encode x).2 ≠ 0 then ((L, M), Plc.zero, (Frm.encode x).2)
 else if L.fits (Frm.encode x).1.length = true then L.grow M (Frm.encode x).1 else L.begin M (Frm.encode x).1
def comEnt : Frm.Ent := ⟨2, Frm.zero32, []⟩
def Log.commit (L : Log) (M : Med) : (Log × Med) × Int × Int :=
 if (L.append M comEnt).2.2 ≠ 0 then ((L.append M comEnt).1, 0, (L.append M comEnt).2.2)
 else if ((L.append M comEnt).1.2.sync (name (L.append M comEnt).2.1.seg)).2 ≠ 0 then (((L.append M comEnt).1.1, ((L.append M comEnt).1.2.sync (name (L.append M comEnt).2.1.seg)).1), 0, ((L.append M comEnt).1.2.sync (name (L.append M comEnt).2.1.seg)).2)
 else if (((L.append M comEnt).1.2.sync (name (L.append M comEnt).2.1.seg)).1.syncDir).2 ≠ 0 then (((L.append M comEnt).1.1, (((L.append M comEnt).1.2.sync (name (L.append M comEnt).2.1.seg)).1.syncDir).1), 0, (((L.append M comEnt).1.2.sync (name (L.append M comEnt).2.1.seg)).1.syncDir).2)
 else (({ (L.append M comEnt).1.1 with on := false, fresh := 0 }, (((L.append M comEnt).1.2.sync (name (L.append M comEnt).2.1.seg)).1.syncDir).1), (L.append M comEnt).2.1.seg, 0)
def Log.at (L : Log) (n : Int) : Option Nat := L.l.findIdx? (fun s => s.1 == n)
def Log.find (L : Log) (n : Int) : Int := match L.at n with
 | some i => i
 | none => -1
def Log.without (L : Log) (i : Nat) : Log :=
 ⟨L.limit, L.l.eraseIdx i, if i + 1 = L.l.length then false else L.on, if (L.l.length : Int) - L.fresh ≤ i then L.fresh - 1 else L.fresh⟩
def Log.remove (L : Log) (M : Med) (n : Int) : (Log × Med) × Int :=
 match L.at n with
 | none => ((L, M), 9)
 | some i => if (M.remove (name n)).2 = 0 then ((L.without i, (M.remove (name n)).1), 0) else ((L, (M.remove (name n)).1), (M.remove (name n)).2)
def Log.size (L : Log) (n : Int) : Int := match L.at n with
 | none => 0
 | some i => (L.l.getD i (0, 0)).2
def Log.bytes (L : Log) (M : Med) (n : Int) : Bs × Int := match L.at n with
 | none => ([], 9)
 | some _ => M.all (name n)
structure Log.Ok (L : Log) : Prop where
 limit : 128 ≤ L.limit ∧ L.limit ≤ 1048576
 rise : (L.l.map (·.1)).Pairwise (· < ·)
 nums : ∀ s ∈ L.l, 0 ≤ s.1 ∧ s.1 < 1048576
 sizes : ∀ s ∈ L.l, 0 ≤ s.2 ∧ s.2 ≤ 33554432
 fresh : 0 ≤ L.fresh ∧ L.fresh ≤ L.l.length
 on : L.on = true → L.l ≠ []
theorem rise_len : ∀ (l : List Int) (a : Int), l.Pairwise (· < ·) → (∀ x ∈ l, a ≤ x) → (∀ x ∈ l, x < 1048576) → a ≤ 1048576 → (l.length : Int) ≤ 1048576 - a
 | [], a, _, _, _, h => by simp; omega
 | x :: l, a, hp, h1, h2, h3 => by
  obtain ⟨hx, hp'⟩ := List.pairwise_cons.1 hp
  have e1 := h1 x (.head _)
  have e2 := h2 x (.head _)
  have := rise_len l (x + 1) hp' (fun y hy => by have := hx y hy; omega) (fun y hy => h2 y (.tail _ hy)) (by omega)
  rw [List.length_cons]; omega
theorem Log.Ok.len {L : Log} (h : L.Ok) : L.l.length ≤ 1048576 := by
 have := rise_len (L.l.map (·.1)) 0 h.rise (by intro x hx; obtain ⟨s, hs, rfl⟩ := List.mem_map.1 hx; exact (h.nums s hs).1) (by intro x hx; obtain ⟨s, hs, rfl⟩ := List.mem_map.1 hx; exact (h.nums s hs).2) (by omega)
 rw [List.length_map] at this
 omega
theorem Log.Ok.shut {L : Log} (h : L.Ok) (M : Med) : (L.shut M).1.1.Ok := by
 unfold Log.shut
 split; · exact h
 split
 ·split
  ·exact ⟨h.limit, h.rise, h.nums, h.sizes, h.fresh, fun hh => by cases hh⟩
  ·exact h
 ·exact h
theorem last_split {L : Log} {s : Int × Int} (h : L.l.getLast? = some s) : L.l = L.l.dropLast ++ [s] := by
 have hne : L.l ≠ [] := by intro e; rw [e] at h; cases h
 have h2 := List.dropLast_concat_getLast hne
 rw [List.getLast?_eq_some_getLast hne] at h
 cases h
 exact h2.symm
theorem last_len {L : Log} {s : Int × Int} (h : L.l.getLast? = some s) : L.l.length = L.l.dropLast.length + 1 := by
 have := congrArg List.length (last_split h)
 rw [List.length_append, List.length_singleton] at this
 exact this
theorem Log.Ok.next {L : Log} (h : L.Ok) : 0 ≤ L.next ∧ L.next ≤ 1048576 ∧ ∀ s ∈ L.l, s.1 < L.next := by
 unfold Log.next
 cases hl : L.l.getLast? with
 | none =>
  have := List.getLast?_eq_none_iff.1 hl
  simp [this]
 | some s =>
  have hs := h.nums s (List.mem_of_getLast? hl)
  refine ⟨by simp only; omega, by simp only; omega, ?_⟩
  have e := last_split hl
  have hr := h.rise
  rw [e, List.map_append, List.pairwise_append] at hr
  intro t ht
  rw [e] at ht
  rcases List.mem_append.1 ht with ht | ht
  ·have := hr.2.2 t.1 (List.mem_map.2 ⟨t, ht, rfl⟩) s.1 (by simp)
   simp only; omega
  ·rw [List.mem_singleton.1 ht]; simp only; omega
theorem Log.Ok.snoc {L : Log} (h : L.Ok) (hn : L.next < 1048576) (z : Nat) (hz : z ≤ 16777216) : ({ L with l := L.l ++ [(L.next, 8 + (z : Int))], on := true, fresh := L.fresh + 1 } : Log).Ok := by
 obtain ⟨n1, n2, n3⟩ := h.next
 have hf := h.fresh
 refine ⟨h.limit, ?_, ?_, ?_, ⟨by simp only; omega, by simp only [List.length_append, List.length_singleton]; omega⟩, fun _ => by simp⟩
 ·simp only
  rw [List.map_append, List.pairwise_append]
  refine ⟨h.rise, by simp, ?_⟩
  intro a ha b hb
  obtain ⟨s, hs, rfl⟩ := List.mem_map.1 ha
  simp only [List.map_cons, List.map_nil, List.mem_singleton] at hb
  subst hb
  exact n3 s hs
 ·intro s hs
  rcases List.mem_append.1 hs with hs | hs
  ·exact h.nums s hs
  ·rw [List.mem_singleton.1 hs]; exact ⟨n1, hn⟩
 ·intro s hs
  rcases List.mem_append.1 hs with hs | hs
  ·exact h.sizes s hs
  ·rw [List.mem_singleton.1 hs]; exact ⟨by simp only; omega, by simp only; omega⟩
theorem Log.Ok.begin1 {L : Log} (h : L.Ok) (M : Med) (b : Bs) (hb : b.length ≤ 16777216) : (L.begin1 M b).1.1.Ok := by
 unfold Log.begin1
 split; · exact h
 rename_i hn
 split; · exact h
 split; · exact h.snoc (by omega) _ hb
 split; · exact h
 exact h
theorem Log.Ok.begin {L : Log} (h : L.Ok) (M : Med) (b : Bs) (hb : b.length ≤ 16777216) : (L.begin M b).1.1.Ok := by
 unfold Log.begin
 split
 ·exact (h.shut M).begin1 _ _ hb
 ·exact h.shut M
theorem Log.Ok.grow {L : Log} (h : L.Ok) (M : Med) (b : Bs) (hf : L.fits b.length = true) : (L.grow M b).1.1.Ok := by
 unfold Log.grow
 split; · exact h
 rename_i s hl
 split
 ·have e := last_split hl
  have hr := h.rise
  have hlen : L.l.length = L.l.dropLast.length + 1 := last_len hl
  unfold Log.fits at hf
  rw [Bool.and_eq_true, decide_eq_true_eq, hl] at hf
  have hlim := h.limit
  refine ⟨h.limit, ?_, ?_, ?_, ?_, fun _ => by simp⟩
  ·rw [e] at hr; simpa using hr
  ·intro t ht
   rcases List.mem_append.1 ht with ht | ht
   ·exact h.nums t (by rw [e]; exact List.mem_append_left _ ht)
   ·rw [List.mem_singleton.1 ht]
    exact h.nums s (List.mem_of_getLast? hl)
  ·intro t ht
   rcases List.mem_append.1 ht with ht | ht
   ·exact h.sizes t (by rw [e]; exact List.mem_append_left _ ht)
   ·rw [List.mem_singleton.1 ht]
    have := h.sizes s (List.mem_of_getLast? hl)
    have h2 : s.2 + (b.length : Int) ≤ L.limit := hf.2
    simp only; omega
  ·have := h.fresh
   simp only [List.length_append, List.length_singleton]
   omega
 ·exact h
theorem encode_len (x : Frm.Ent) (hk : x.key.length = 32) : (Frm.encode x).1.length ≤ 16425 := by
 unfold Frm.encode
 split; · simp
 rename_i hc
 have hd : x.data.length ≤ 16384 := by
  unfold Frm.check at hc
  repeat' split at hc
  all_goals first | omega | simp at hc
 unfold Frm.body
 simp only [List.length_append, Frm.le_len, List.length_singleton]
 split
 ·simp; omega
 ·omega
theorem Log.Ok.append {L : Log} (h : L.Ok) (M : Med) (x : Frm.Ent) (hk : x.key.length = 32) : (L.append M x).1.1.Ok := by
 have hl := encode_len x hk
 unfold Log.append
 split; · exact h
 split
 ·rename_i hf; exact h.grow M _ hf
 ·exact h.begin M _ (by omega)
theorem Log.Ok.commit {L : Log} (h : L.Ok) (M : Med) : (L.commit M).1.1.Ok := by
 have h1 := h.append M comEnt rfl
 unfold Log.commit
 split; · exact h1
 split; · exact h1
 split; · exact h1
 exact ⟨h1.limit, h1.rise, h1.nums, h1.sizes, ⟨Int.le_refl _, by simp⟩, fun hh => by cases hh⟩
theorem Log.Ok.without {L : Log} (h : L.Ok) (i : Nat) (hi : i < L.l.length) : (L.without i).Ok := by
 have hsub : (L.l.eraseIdx i).Sublist L.l := List.eraseIdx_sublist _ _
 have hlen : (L.l.eraseIdx i).length = L.l.length - 1 := List.length_eraseIdx_of_lt hi
 have hf := h.fresh
 refine ⟨h.limit, h.rise.sublist (hsub.map _), fun s hs => h.nums s (hsub.mem hs), fun s hs => h.sizes s (hsub.mem hs), ?_, ?_⟩
 ·unfold Log.without
  simp only [hlen]
  split <;> omega
 ·unfold Log.without
  simp only
  split
  ·intro hh; cases hh
  ·intro _ e
   have := congrArg List.length e
   rw [hlen] at this
   simp at this
   omega
theorem Log.at_lt {L : Log} {n : Int} {i : Nat} (h : L.at n = some i) : i < L.l.length ∧ ∃ s, L.l[i]? = some s ∧ s.1 = n := by
 unfold Log.at at h
 rw [List.findIdx?_eq_some_iff_getElem] at h
 obtain ⟨h1, h2, _⟩ := h
 exact ⟨h1, _, List.getElem?_eq_getElem h1, by simpa using h2⟩
theorem Log.Ok.remove {L : Log} (h : L.Ok) (M : Med) (n : Int) : (L.remove M n).1.1.Ok := by
 unfold Log.remove
 split; · exact h
 rename_i i hi
 split
 ·exact h.without i (Log.at_lt hi).1
 ·exact h
theorem Log.Ok.at_last {L : Log} (h : L.Ok) {s : Int × Int} (hl : L.l.getLast? = some s) : L.at s.1 = some (L.l.length - 1) := by
 have e := last_split hl
 have hlen : L.l.length = L.l.dropLast.length + 1 := last_len hl
 have hr := h.rise
 rw [e, List.map_append, List.pairwise_append] at hr
 unfold Log.at
 rw [List.findIdx?_eq_some_iff_getElem]
 refine ⟨by omega, ?_, ?_⟩
 ·have : L.l[L.l.length - 1]? = some s := by rw [← List.getLast?_eq_getElem?]; exact hl
  obtain ⟨h1, h2⟩ := List.getElem?_eq_some_iff.1 this
  rw [h2]; simp
 ·intro j hj
  have hj' : j < L.l.dropLast.length := by omega
  have hx : L.l[j]'(by omega) = L.l.dropLast[j] := by rw [List.getElem_dropLast]
  have h3 : (L.l.dropLast[j]).1 < s.1 := hr.2.2 (L.l.dropLast[j]).1 (List.mem_map.2 ⟨_, List.getElem_mem hj', rfl⟩) s.1 (by simp)
  rw [hx]
  rw [Bool.not_eq_true, beq_eq_false_iff_ne]
  omega
def Log.back : Nat → Log → Med → (Log × Med) × Int
 | 0, L, M => (({ L with on := false }, M), 0)
 | k + 1, L, M =>
  match L.l.getLast? with
  | none => (({ L with on := false }, M), 0)
  | some s => if (L.remove M s.1).2 = 0 then Log.back k (L.remove M s.1).1.1 (L.remove M s.1).1.2 else L.remove M s.1
end Go.Seg
namespace Go.Proofs.YtlinnpehkfbnkaaGreatDoor
open Go Go.Sl Go.Med Go.MapKept Go.RowKit
section
variable {w0 w : World} {L L' R : List HProp} {b : Nat} {ops : Array Oper} {rest : List Oper} {a : Act} {Q : Exit → Act → World → Prop}
variable {dst : Option Tmp} {t T : TypeId} {pos : String} {after : Array Edge} {x y : Operand} {cs : Array Value} {v : Value} {e : Frm.Ent} {da : Option Addr} {dn dc : Nat}
theorem run_buildTag (tag : Int) (w : World) : (Instr.build 27 #[(0, .int .i64 tag)]).run Tryz.prog w = .ok (.agg (entA ⟨tag, Frm.zero32, []⟩ (.slice none 0 0))) w := by
 have hz : (entA Frm.zeroE (.slice none 0 0)).size = 34 := entA_size _ _ rfl
 have h := run_build (P := Tryz.prog) [(0, .int .i64 tag)] plEnt zEnt (by
  intro p hp
  rw [List.mem_singleton] at hp
  subst hp
  have hzz : zeroEntV.cells.size = 34 := hz
  rw [hzz]
  exact ⟨0, rfl, by show 0 + 1 ≤ 34; omega⟩) w
 exact h
theorem wl_buildTag {tag : Int} (hx : a.eval x = .int .i64 tag) (h : wpList Tryz.prog ops Q rest (a.put dst (.agg (entA ⟨tag, Frm.zero32, []⟩ (.slice none 0 0)))) w) : wpList Tryz.prog ops Q (⟨dst, .build 27 #[(0, x)], t, pos, after, none⟩ :: rest) a w :=
 wpList_plain rfl fun _ hK => by
  unfold Oper.wp execOp
  simp only [List.map_toArray, List.map_cons, List.map_nil, hx, Sem.run_bind, run_buildTag, Result.andThen_ok, Sem.run_pure]
  exact hK _ _ h
theorem wl_buildZ (h : wpList Tryz.prog ops Q rest (a.put dst (.agg (entA Frm.zeroE (.slice none 0 0)))) w) : wpList Tryz.prog ops Q (⟨dst, .build 27 #[], t, pos, after, none⟩ :: rest) a w :=
 wpList_plain rfl fun _ hK => by
  unfold Oper.wp execOp
  simp only [List.map_toArray, List.map_nil, Sem.run_bind, run_zeroEnt, Result.andThen_ok, Sem.run_pure]
  exact hK _ _ h
theorem at_buildTag (h : Stop (wpList Tryz.prog ops Q (⟨dst, .build 27 #[(0, x)], t, pos, after, none⟩ :: rest) a w)) : wpList Tryz.prog ops Q (⟨dst, .build 27 #[(0, x)], t, pos, after, none⟩ :: rest) a w := h.out
theorem at_buildZ (h : Stop (wpList Tryz.prog ops Q (⟨dst, .build 27 #[], t, pos, after, none⟩ :: rest) a w)) : wpList Tryz.prog ops Q (⟨dst, .build 27 #[], t, pos, after, none⟩ :: rest) a w := h.out
theorem wl_slice2 {P : Program} {ty : TypeId} {z : Operand} {vx vy vz : Value} (hx : a.eval x = vx) (hy : a.eval y = vy) (hz : a.eval z = vz) (hr : ∀ w, (Instr.sliceAt ty vx (some vy) (some vz) none).run P w = .ok v w)
  (h : wpList P ops Q rest (a.put dst v) w) : wpList P ops Q (⟨dst, .slice ty x (some y) (some z) none, t, pos, after, none⟩ :: rest) a w :=
 wpList_plain rfl fun _ hK => by
  unfold Oper.wp execOp
  simp only [hx, hy, hz, Option.map_some, Option.map_none, Sem.run_bind, hr, Result.andThen_ok, Sem.run_pure]
  exact hK _ _ h
theorem at_slice2 {P : Program} {ty : TypeId} {z : Operand} (h : Stop (wpList P ops Q (⟨dst, .slice ty x (some y) (some z) none, t, pos, after, none⟩ :: rest) a w)) : wpList P ops Q (⟨dst, .slice ty x (some y) (some z) none, t, pos, after, none⟩ :: rest) a w := h.out
theorem run_arrKey (ad : Addr) (c : Nat) (w : World) : (Instr.arrayAt 24 (.slice (some ad) 32 c)).run Tryz.prog w = .ok (.pointer (some ad)) w := by
 simp [Instr.arrayAt, run_underlying (P := Tryz.prog) Tryz.underlying24]
theorem puts_key {e : Frm.Ent} {dv : Value} (hk : e.key.length = 32) (key : Bs) (hk2 : key.length = 32) : putsAt (entA e dv) 1 (bys key) = entA ⟨e.tag, key, e.data⟩ dv := by
 apply putsAt_eq
 have hz := entA_size e dv hk
 have h1 : (bys key).length = 32 := by rw [bys_len, hk2]
 have h2 : (bys e.key).length = 32 := by rw [bys_len, hk]
 rw [putsAt_list _ _ _ (by omega)]
 unfold entA entL
 rw [List.toList_toArray, List.toList_toArray, h1, show 1 + 32 = 32 + 1 by omega, List.drop_succ_cons, List.take_succ_cons, List.take_zero, List.drop_append_of_le_length (by omega), List.drop_of_length_le (by omega)]
 simp
theorem puts_data {e : Frm.Ent} {dv : Value} (hk : e.key.length = 32) (data : Bs) (dv2 : Value) : putsAt (entA e dv) 33 [dv2] = entA ⟨e.tag, e.key, data⟩ dv2 := by
 apply putsAt_eq
 have hz := entA_size e dv hk
 have h2 : (bys e.key).length = 32 := by rw [bys_len, hk]
 rw [putsAt_list _ _ _ (by simp; omega)]
 unfold entA entL
 rw [List.toList_toArray, List.toList_toArray, List.length_singleton, show 33 + 1 = 33 + 1 from rfl, List.drop_succ_cons, List.take_succ_cons, List.take_append_of_le_length (by omega), List.take_of_length_le (by omega), List.drop_of_length_le (by simp; omega)]
 simp
theorem infoKey : (Tryz.prog.info? 24).map (·.size) = some 32 := by kernel_rfl
theorem infoSl : (Tryz.prog.info? 25).map (·.size) = some 1 := by kernel_rfl
theorem wl_storeK {dv : Value} {key : Bs} (hs : Sat w0 w L) (hx : a.eval x = .pointer (some ⟨b, 1, none⟩)) (hy : a.eval y = .agg (bys key).toArray) (hk : e.key.length = 32) (hk2 : key.length = 32) (u : Upd (pt b (.cells (entA e dv) T (0,0))) (pt b (.cells (entA ⟨e.tag, key, e.data⟩ dv) T (0,0))) L L')
  (hK : ∀ w', Sat w0 w' L' → wpList Tryz.prog ops Q rest (a.put dst undef) w') : wpList Tryz.prog ops Q (⟨dst, .store 24 x y, t, pos, after, none⟩ :: rest) a w := by
 obtain ⟨R', h2, h3⟩ := u
 have hz := entA_size e dv hk
 have hb : (bys key).toArray.size = 32 := by simp [bys, hk2]
 refine wpList_store_sat (w0 := w0) rfl 24 x y rfl 1 (.agg (bys key).toArray) hx hy (show 1 + (bys key).toArray.size ≤ (entA e dv).size by omega) (show _ = some (bys key).toArray.size by rw [hb]; exact infoKey) ?_ (hs.perm h2) fun w' hS => hK w' ?_
 ·show (bys key).toArray.all _ = true
  rw [← Array.all_toList]
  exact List.all_eq_true.2 (bys_one _)
 ·have he : putsAt (entA e dv) 1 (Value.agg (bys key).toArray).cells.toList = entA ⟨e.tag, key, e.data⟩ dv := puts_key hk key hk2
  rw [he] at hS
  exact hS.perm h3.symm
theorem wl_storeD {dv : Value} {data : Bs} (hs : Sat w0 w L) (hx : a.eval x = .pointer (some ⟨b, 33, none⟩)) (hy : a.eval y = .slice da dn dc) (hk : e.key.length = 32) (u : Upd (pt b (.cells (entA e dv) T (0,0))) (pt b (.cells (entA ⟨e.tag, e.key, data⟩ (.slice da dn dc)) T (0,0))) L L')
  (hK : ∀ w', Sat w0 w' L' → wpList Tryz.prog ops Q rest (a.put dst undef) w') : wpList Tryz.prog ops Q (⟨dst, .store 25 x y, t, pos, after, none⟩ :: rest) a w := by
 obtain ⟨R', h2, h3⟩ := u
 have hz := entA_size e dv hk
 refine wpList_store_sat (w0 := w0) rfl 25 x y rfl 33 (.slice da dn dc) hx hy (show 33 + 1 ≤ (entA e dv).size by omega) infoSl (by simp [Value.cells, Value.oneCell']) (hs.perm h2) fun w' hS => hK w' ?_
 have he : putsAt (entA e dv) 33 (Value.slice da dn dc).cells.toList = entA ⟨e.tag, e.key, data⟩ (.slice da dn dc) := puts_data hk data _
 rw [he] at hS
 exact hS.perm h3.symm
theorem res_entE3 {fn : Func} {p u q : Tmp} {tmps : Array Value} (hf : fn.results = #[.cell p 27, .tmp u, .tmp q]) (hs : Sat w0 w L) (hp : tmps.getD p undef = .pointer (some ⟨b, 0, none⟩)) (k : Pick (pt b (.cells (entA e (.slice da dn dc)) T (0,0))) L R) (hk : e.key.length = 32) :
  (results fn tmps).run Tryz.prog w = .ok (.tuple #[.agg (entA e (.slice da dn dc)), tmps.getD u undef, tmps.getD q undef]) w := by
 have hl := run_loadVar_row (P := Tryz.prog) w b T 27 (entA e (.slice da dn dc)) (0, 0) _ (hs.pick k).at Tryz.underlying27 rFz (by rw [entA_size e _ hk]; exact infoEntSize)
 have hp' : tmps[p]?.getD undef = .pointer (some ⟨b, 0, none⟩) := by simpa using hp
 simp [results, hf, hp', asAddr, hl, Result.andThen]
end
section
variable {w0 w : World} {F R : List HProp} {v bv dv x lv : Value}
theorem rdsl_sub {l : Bs} {bk off n c : Nat} (h : rdsl 1 (.slice (some ⟨bk, off, none⟩) n c) (bys l) w) (i j c' : Nat) (hij : i ≤ j) (hj : j ≤ l.length) : rdsl 1 (.slice (some ⟨bk, off + i, none⟩) (j - i) c') (bys ((l.take j).drop i)) w := by
 obtain ⟨a', n', c'', he, hl, hx⟩ := h
 cases he
 refine ⟨_, _, _, rfl, by rw [bys_len, List.length_drop, List.length_take]; omega, fun k y hk => ⟨_, rfl, ?_⟩⟩
 have hk' : (bys l)[i + k]? = some y := by
  unfold bys at hk ⊢
  rw [List.map_drop, List.map_take, List.getElem?_drop, List.getElem?_take] at hk
  split at hk
  ·exact hk
  ·cases hk
 obtain ⟨b', hb', hc⟩ := hx _ _ hk'
 cases hb'
 rw [Addr.add_mid] at hc ⊢
 rw [Nat.add_assoc]; exact hc
end
section
variable {w0 w : World} {F R : List HProp} {v bv dv x lv : Value}
set_option maxRecDepth 20000 in
theorem fread_c (l : Bs) (hr : Ro w0 F (rdsl 1 bv (bys l))) (hcap : capOk bv) (hH : Ro w0 F Half) (hl : l.length ≤ 1099511627776) (h : Sat w0 w F) :
  Calls Tryz.prog 116 #[bv] w (Rtn fun v w' => ∃ da dc, v = .tuple #[.agg (entA (Frm.read l).1 (.slice da (Frm.read l).1.data.length dc)), .int .i64 (Frm.read l).2.1, errno (Frm.read l).2.2] ∧ Sat w0 w' (bsl (.slice da (Frm.read l).1.data.length dc) (Frm.read l).1.data :: F)) := by
 obtain ⟨ba, bn, bc, rfl, hbn, hbc⟩ := hcap
 have hln : bn = l.length := by
  obtain ⟨_, _, _, he, hl', _⟩ := hr w h
  cases he
  rw [bys_len, Nat.mul_one] at hl'; exact hl'.symm
 subst hln
 by_cases h9 : l.length < 9
 ·have Hf := Lib.hid (show Frm.read l = (Frm.zeroE, 0, 3) by unfold Frm.read; rw [if_pos h9])
  have c1 : (l.length : Int) < 9 := by omega
  clear hr hH h9 hl
  go_enter Tryz.func116, Tryz.ntmps116
  go_wp2_with (first | ((with_reducible apply at_allocE); refine ⟨?_⟩; refine wl_allocE (by assumption) ?_; intro bE wE hE) | ((with_reducible apply at_buildZ); refine ⟨?_⟩; refine wl_buildZ ?_) | ((with_reducible apply at_storeE); refine ⟨?_⟩; first | (refine wl_storeE (by assumption) rFz rFz (by first | rfl | assumption | exact Hid.out (by assumption)) upD (by first | assumption | exact entA_size _ _ rfl | exact entA_size _ _ (by assumption) | exact entA_size _ _ (Hid.out (by assumption))) ?_; intro wS hS) | (refine wl_storeE (e := Frm.zeroE) (da := none) (dn := 0) (dc := 0) (by assumption) rFz rFz rfl upD (by first | assumption | exact entA_size _ _ rfl | exact entA_size _ _ (by assumption) | exact entA_size _ _ (Hid.out (by assumption))) ?_; intro wS hS)))
  rw [Hf.out]
  refine ⟨rfl, _, res_entE3 rfl (by assumption) rFz pkD rfl, _, rfl, none, 0, rfl, Sat.osl_nil.2 (Sat.sb hS)⟩
 obtain ⟨bk, off, rfl, hcell⟩ : ∃ bk off, ba = some ⟨bk, off, none⟩ ∧ True := by
  have hx : (bys l)[0]? = some (.int .u8 (l[0]'(by omega)).toNat) := by
   unfold bys; rw [List.getElem?_map, List.getElem?_eq_getElem (by omega)]; rfl
  obtain ⟨bk, off, hb, _⟩ := rdsl_cells (hr w h) hx
  exact ⟨bk, off, hb, trivial⟩
 clear hcell
 have hrd := hr w h
 have Hsub := Lib.hid (show ∀ (i j : Nat), i ≤ j → j ≤ l.length → ∀ w, Sat w0 w F → rdsl 1 (.slice (some ⟨bk, off + i, none⟩) (j - i) (bc - i)) (bys ((l.take j).drop i)) w from fun i j h1 h2 w hw => rdsl_sub (hr w hw) i j (bc - i) h1 h2)
 have Hnum := Lib.hid (show ∀ w, Sat w0 w F → Calls Tryz.prog 171 #[.slice (some ⟨bk, off + 4, none⟩) (l.length - 4) (bc - 4)] w (Rtn fun v w' => v = .int .u32 (Frm.num ((l.drop 4).take 4) : Nat) ∧ w = w') from fun w hw => number_c (l.drop 4) (by rw [List.length_drop]; omega) _ (l.length - 4) (bc - 4) (by omega) (by omega) (by
  have := Hsub.out 4 l.length (by omega) (Nat.le_refl _) w hw
  rw [List.take_length] at this
  exact this))
 have Hnum0 := Lib.hid (show ∀ w, Sat w0 w F → Calls Tryz.prog 171 #[.slice (some ⟨bk, off, none⟩) l.length bc] w (Rtn fun v w' => v = .int .u32 (Frm.num (l.take 4) : Nat) ∧ w = w') from fun w hw => number_c l (by omega) _ l.length bc hbn hbc (hr w hw))
 have Hread := Lib.hid (show Frm.read l = if Frm.fits (l.getD 8 0) (Frm.num ((l.drop 4).take 4)) = false then (Frm.zeroE, 0, 4)
  else if l.length < Frm.num ((l.drop 4).take 4) then (Frm.zeroE, 0, 3)
  else if Frm.crc ((l.take (Frm.num ((l.drop 4).take 4))).drop 4) ≠ Frm.num (l.take 4) then (Frm.zeroE, 0, 13)
  else if 41 ≤ Frm.num ((l.drop 4).take 4) then (⟨(l.getD 8 0).toNat, (l.drop 9).take 32, (l.take (Frm.num ((l.drop 4).take 4))).drop 41⟩, Frm.num ((l.drop 4).take 4), 0)
  else (⟨(l.getD 8 0).toNat, Frm.zero32, []⟩, Frm.num ((l.drop 4).take 4), 0) by unfold Frm.read; rw [if_neg h9])
 have hN : Frm.num ((l.drop 4).take 4) < 4294967296 := by
  have := Frm.num_lt ((l.drop 4).take 4)
  rw [List.length_take, List.length_drop] at this
  have h4 : min 4 (l.length - 4) = 4 := by omega
  rw [h4] at this
  omega
 generalize hNN : Frm.num ((l.drop 4).take 4) = N at *
 have hfits := fun w => fits_c (l.getD 8 0) N hN w
 have hfg : Frm.fits (l.getD 8 0) N = true → 9 ≤ N := by
  unfold Frm.fits
  intro hh
  split at hh
  ·have := of_decide_eq_true hh; omega
  ·split at hh
   ·have := of_decide_eq_true hh; omega
   ·split at hh
    ·have := of_decide_eq_true hh; omega
    ·cases hh
 have hc8 : ∀ w, Sat w0 w F → w.cell? ⟨bk, off + 8, none⟩ = some (.int .u8 (l.getD 8 0).toNat) := fun w hw => by
  have hx : (bys l)[8]? = some (.int .u8 (l.getD 8 0).toNat) := by
   unfold bys; rw [List.getElem?_map, List.getD_eq_getElem?_getD, List.getElem?_eq_getElem (by omega)]; rfl
  obtain ⟨bk', off', hb, hc⟩ := rdsl_cells (hr w hw) hx
  cases hb
  exact hc _ _ hx
 have Hc8 := Lib.hid hc8; have Hr := Lib.hid hr; have HH := Lib.hid hH; have Hl := Lib.hid hl; have Hfg := Lib.hid hfg; have Hfits := Lib.hid hfits
 have c1 : ¬ (l.length : Int) < 9 := by omega
 have c2 : ¬ bc = 4 := by omega
 have c3 : (4 : Int) ≤ (l.length : Int) := by omega
 have c4 : (l.length : Int) ≤ (bc : Int) := by omega
 have c5 : (8 : Int) < (l.length : Int) := by omega
 have Hbn := Lib.hid (show l.length ≤ bc ∧ bc ≤ 9223372036854775807 ∧ 9 ≤ l.length ∧ N < 4294967296 from ⟨hbn, hbc, by omega, hN⟩)
 have hcv : IntKind.i64.wrap (N : Int) = (N : Int) := by rw [IntKind.wrap_i64]; omega
 clear hrd hNN hc8 hr hH hl h9 hbn hbc hfg hfits hN
 generalize l.getD 8 0 = tg at *
 have htg := tg.toNat_lt
 have hct : IntKind.i64.wrap (tg.toNat : Int) = (tg.toNat : Int) := by rw [IntKind.wrap_i64]; omega
 have htb : (tg.toNat : Int) < 256 := by omega
 go_enter Tryz.func116, Tryz.ntmps116
 go_wp2_with ((with_reducible apply at_allocE); refine ⟨?_⟩; refine wl_allocE (by assumption) ?_; intro bE wE hE)
 refine (Hnum.out _ hE.drop).mono ?_
 rintro ee w2 ⟨v, rfl, rfl, rfl⟩
 have e8 := Hc8.out _ hE.drop
 go_wp2_with fail
 refine (Hfits.out _).mono ?_
 rintro ee w2 ⟨v, rfl, rfl, rfl⟩
 cases hft : Frm.fits tg N
 ·have Hf := Lib.hid (Hread.out.trans (if_pos hft))
  clear hft
  go_wp2_with (first | ((with_reducible apply at_buildZ); refine ⟨?_⟩; refine wl_buildZ ?_) | ((with_reducible apply at_storeE); refine ⟨?_⟩; first | (refine wl_storeE (by assumption) rFz rFz (by first | rfl | assumption | exact Hid.out (by assumption)) upD (by first | assumption | exact entA_size _ _ rfl | exact entA_size _ _ (by assumption) | exact entA_size _ _ (Hid.out (by assumption))) ?_; intro wS hS) | (refine wl_storeE (e := Frm.zeroE) (da := none) (dn := 0) (dc := 0) (by assumption) rFz rFz rfl upD (by first | assumption | exact entA_size _ _ rfl | exact entA_size _ _ (by assumption) | exact entA_size _ _ (Hid.out (by assumption))) ?_; intro wS hS)))
  rw [Hf.out]
  refine ⟨rfl, _, res_entE3 rfl (by assumption) rFz pkD rfl, _, rfl, none, 0, rfl, Sat.osl_nil.2 (Sat.sb hS)⟩
 have Hf := Lib.hid (Hread.out.trans (if_neg (by rw [hft]; decide)))
 have hN9 := Hfg.out hft
 clear hft
 by_cases hlN : l.length < N
 ·have Hf2 := Lib.hid (Hf.out.trans (if_pos hlN))
  have c6 : (l.length : Int) < (N : Int) := by omega
  clear hlN hN9
  go_wp2_with (first | ((with_reducible apply at_buildZ); refine ⟨?_⟩; refine wl_buildZ ?_) | ((with_reducible apply at_storeE); refine ⟨?_⟩; first | (refine wl_storeE (by assumption) rFz rFz (by first | rfl | assumption | exact Hid.out (by assumption)) upD (by first | assumption | exact entA_size _ _ rfl | exact entA_size _ _ (by assumption) | exact entA_size _ _ (Hid.out (by assumption))) ?_; intro wS hS) | (refine wl_storeE (e := Frm.zeroE) (da := none) (dn := 0) (dc := 0) (by assumption) rFz rFz rfl upD (by first | assumption | exact entA_size _ _ rfl | exact entA_size _ _ (by assumption) | exact entA_size _ _ (Hid.out (by assumption))) ?_; intro wS hS)))
  rw [Hf2.out]
  refine ⟨rfl, _, res_entE3 rfl (by assumption) rFz pkD rfl, _, rfl, none, 0, rfl, Sat.osl_nil.2 (Sat.sb hS)⟩
 have Hf2 := Lib.hid (Hf.out.trans (if_neg hlN))
 clear Hf Hread
 have c6 : ¬ (l.length : Int) < (N : Int) := by omega
 have c7 : (4 : Int) ≤ (N : Int) := by omega
 have c8 : (N : Int) ≤ (bc : Int) := by omega
 have HlN := Lib.hid (show N ≤ l.length ∧ 9 ≤ N by omega)
 clear hlN hN9
 go_wp2_with fail
 refine (crc_c ((l.take N).drop 4) (Ro.os HH.out) (fun w hw => Hsub.out 4 N (by have := HlN.out; omega) HlN.out.1 w (hw.sb)) hE (by rw [List.length_drop, List.length_take]; have := Hl.out; omega)).mono ?_
 rintro ee w2 ⟨v, rfl, rfl, rfl⟩
 go_wp2_with fail
 refine (Hnum0.out _ hE.drop).mono ?_
 rintro ee w2 ⟨v, rfl, rfl, rfl⟩
 generalize Frm.crc ((l.take N).drop 4) = A at *
 generalize Frm.num (l.take 4) = B at *
 by_cases hAB : A = B
 rotate_left
 ·have Hf3 := Lib.hid (Hf2.out.trans (if_pos hAB))
  have c9 : ((A : Int) == (B : Int)) = false := by rw [beq_eq_false_iff_ne]; omega
  clear hAB
  go_wp2_with (first | ((with_reducible apply at_buildZ); refine ⟨?_⟩; refine wl_buildZ ?_) | ((with_reducible apply at_storeE); refine ⟨?_⟩; first | (refine wl_storeE (by assumption) rFz rFz (by first | rfl | assumption | exact Hid.out (by assumption)) upD (by first | assumption | exact entA_size _ _ rfl | exact entA_size _ _ (by assumption) | exact entA_size _ _ (Hid.out (by assumption))) ?_; intro wS hS) | (refine wl_storeE (e := Frm.zeroE) (da := none) (dn := 0) (dc := 0) (by assumption) rFz rFz rfl upD (by first | assumption | exact entA_size _ _ rfl | exact entA_size _ _ (by assumption) | exact entA_size _ _ (Hid.out (by assumption))) ?_; intro wS hS)))
  rw [Hf3.out]
  refine ⟨rfl, _, res_entE3 rfl (by assumption) rFz pkD rfl, _, rfl, none, 0, rfl, Sat.osl_nil.2 (Sat.sb hS)⟩
 subst hAB
 have Hf3 := Lib.hid (Hf2.out.trans (if_neg (fun h => h rfl)))
 clear Hf2
 by_cases h41 : 41 ≤ N
 rotate_left
 ·have Hf4 := Lib.hid (Hf3.out.trans (if_neg h41))
  have c9 : ¬ (41 : Int) ≤ (N : Int) := by omega
  clear h41
  go_wp2_with (first | ((with_reducible apply at_buildTag); refine ⟨?_⟩; refine wl_buildTag rFz ?_) | ((with_reducible apply at_allocE); refine ⟨?_⟩; refine wl_allocE (by assumption) ?_; intro bE wE hE) | ((with_reducible apply at_storeE); refine ⟨?_⟩; first | (refine wl_storeE (by assumption) rFz rFz (by first | rfl | assumption | exact Hid.out (by assumption)) upD (by first | assumption | exact entA_size _ _ rfl | exact entA_size _ _ (by assumption) | exact entA_size _ _ (Hid.out (by assumption))) ?_; intro wS hS) | (refine wl_storeE (e := Frm.zeroE) (da := none) (dn := 0) (dc := 0) (by assumption) rFz rFz rfl upD (by first | assumption | exact entA_size _ _ rfl | exact entA_size _ _ (by assumption) | exact entA_size _ _ (Hid.out (by assumption))) ?_; intro wS hS)) | ((with_reducible apply at_loadE); refine ⟨?_⟩; refine wl_loadE (by assumption) rFz pkD (by first | rfl | assumption | exact Hid.out (by assumption)) ?_))
  rw [Hf4.out]
  simp only [List.length_nil]
  refine ⟨rfl, _, res_entE3 rfl (by assumption) rFz pkD rfl, _, rfl, none, 0, rfl, Sat.osl_nil.2 (Sat.sb hS)⟩
 have Hf4 := Lib.hid (Hf3.out.trans (if_pos h41))
 have Hkl := Lib.hid (show ((l.drop 9).take 32).length = 32 by rw [List.length_take, List.length_drop]; have := HlN.out; omega)
 have Hkb := Lib.hid (show (bys ((l.drop 9).take 32)).length = 32 by rw [bys_len]; exact Hkl.out)
 have Hrange := Lib.hid (show ∀ w, Sat w0 w F → w.rangeAt bk (off + 9) (bys ((l.drop 9).take 32)) from fun w hw => by
  intro j y hj
  have hsb := Hsub.out 9 41 dCz (by have := HlN.out; omega) w hw
  have e : (l.take 41).drop 9 = (l.drop 9).take 32 := by rw [List.drop_take]
  rw [e] at hsb
  obtain ⟨b', o', hb, hc⟩ := rdsl_cells hsb hj
  cases hb
  exact hc _ _ hj)
 have c9 : (41 : Int) ≤ (N : Int) := by omega
 have c10 : ¬ bc = 9 := by have := HlN.out; have := Hbn.out; omega
 have c11 : (41 : Int) ≤ (bc : Int) := by omega
 obtain ⟨ad, had, hsl⟩ : ∃ ad : Addr, (41 < N → ad = ⟨bk, off + 41, none⟩) ∧ ∀ w, (Instr.sliceAt 25 (.slice (some ⟨bk, off, none⟩) l.length bc) (some (.int .i64 41)) (some (.int .i64 N)) none).run Tryz.prog w = .ok (.slice (some ad) (N - 41) (bc - 41)) w := by
  by_cases hce : bc = 41
  ·refine ⟨⟨bk, off, none⟩, fun hh => by have := HlN.out; have := Hbn.out; omega, fun w => ?_⟩
   have c12 : (N : Int) ≤ 41 := by omega
   have c13 : ¬ (41 : Int) < (N : Int) := by omega
   go_simp
  ·refine ⟨⟨bk, off + 41, none⟩, fun _ => rfl, fun w => ?_⟩
   go_simp
 have Had := Lib.hid had
 have Hdat := Lib.hid (show ∀ w, Sat w0 w F → rdsl 1 (.slice (some ad) (N - 41) (bc - 41)) (bys ((l.take N).drop 41)) w from fun w hw => by
  by_cases h2 : 41 < N
  ·rw [Had.out h2]; exact Hsub.out 41 N (by omega) HlN.out.1 w hw
  ·have : (l.take N).drop 41 = [] := List.drop_of_length_le (by rw [List.length_take]; omega)
   rw [this, show N - 41 = 0 by omega]
   exact ⟨_, 0, _, rfl, rfl, by simp [bys]⟩)
 clear h41 had
 have hat := fun w => run_arrKey ⟨bk, off + 9, none⟩ (bc - 9) w
 go_wp2_with (first
  | ((with_reducible apply at_buildTag); refine ⟨?_⟩; refine wl_buildTag rFz ?_) | ((with_reducible apply at_allocE); refine ⟨?_⟩; refine wl_allocE (by assumption) ?_; intro bE wE hE) | ((with_reducible apply at_storeE); refine ⟨?_⟩; first | (refine wl_storeE (by assumption) rFz rFz (by first | rfl | assumption | exact Hid.out (by assumption)) upD (by first | assumption | exact entA_size _ _ rfl | exact entA_size _ _ (by assumption) | exact entA_size _ _ (Hid.out (by assumption))) ?_; intro wS hS) | (refine wl_storeE (e := Frm.zeroE) (da := none) (dn := 0) (dc := 0) (by assumption) rFz rFz rfl upD (by first | assumption | exact entA_size _ _ rfl | exact entA_size _ _ (by assumption) | exact entA_size _ _ (Hid.out (by assumption))) ?_; intro wS hS))
  | ((with_reducible apply at_load); refine ⟨?_⟩; refine wpList_load_mid rFz 24 _ rFz bk (off + 9) rFz (bys ((l.drop 9).take 32)) _ (Hrange.out _ (Sat.sb (by assumption))) Tryz.underlying24 rfl (by rw [Hkb.out]; kernel_rfl) ?_)
  | ((with_reducible apply at_store); refine ⟨?_⟩; refine wl_storeK (key := (l.drop 9).take 32) (by assumption) rFz rFz rfl Hkl.out upD ?_; intro wK hK)
  | ((with_reducible apply at_slice2); refine ⟨?_⟩; refine wl_slice2 rFz rFz rFz hsl ?_))
 refine (clone_c hK (Hdat.out _ (hK.sb)) (by rw [List.length_drop, List.length_take]; have := Hl.out; omega)).mono ?_
 rintro ee w3 ⟨v, rfl, hS3, ca, cn, cc, rfl⟩
 have hcn : cn = ((l.take N).drop 41).length := by
  obtain ⟨_, _, _, he, hl', _⟩ := Sat.rd hS3
  cases he
  rw [bys_len, Nat.mul_one] at hl'; exact hl'.symm
 subst hcn
 have Hkl2 := Hkl.out
 generalize (l.drop 9).take 32 = key at *
 generalize (l.take N).drop 41 = data at *
 go_wp2_with (first
  | ((with_reducible apply at_store); refine ⟨?_⟩; refine wl_storeD (e := ⟨(tg.toNat : Int), key, []⟩) (data := data) (by assumption) rFz rFz Hkl2 upD ?_; intro wD hD)
  | ((with_reducible apply at_loadE); refine ⟨?_⟩; refine wl_loadE (by assumption) rFz pkD (by first | rfl | assumption | exact Hid.out (by assumption)) ?_) | ((with_reducible apply at_storeE); refine ⟨?_⟩; first | (refine wl_storeE (by assumption) rFz rFz (by first | rfl | assumption | exact Hid.out (by assumption)) upD (by first | assumption | exact entA_size _ _ rfl | exact entA_size _ _ (by assumption) | exact entA_size _ _ (Hid.out (by assumption))) ?_; intro wS hS) | (refine wl_storeE (e := Frm.zeroE) (da := none) (dn := 0) (dc := 0) (by assumption) rFz rFz rfl upD (by first | assumption | exact entA_size _ _ rfl | exact entA_size _ _ (by assumption) | exact entA_size _ _ (Hid.out (by assumption))) ?_; intro wS hS)))
 rw [Hf4.out]
 simp only
 refine ⟨rfl, _, res_entE3 rfl (by assumption) rFz pkD Hkl2, _, rfl, ca, cc, rfl, Sat.sb hS⟩
end
end Go.Proofs.YtlinnpehkfbnkaaGreatDoor
namespace Go.Frm
structure Fnd where
 e : Ent
 at_ : Nat
 size : Nat
def scanL : Nat → Bs → Nat → List Fnd × Nat × Int
 | 0, _, at_ => ([], at_, 0)
 | k + 1, b, at_ =>
  if b = [] then ([], at_, 0)
  else if (read b).2.2 ≠ 0 then ([], at_, (read b).2.2)
  else (⟨(read b).1, at_, (read b).2.1⟩ :: (scanL k (b.drop (read b).2.1) (at_ + (read b).2.1)).1, (scanL k (b.drop (read b).2.1) (at_ + (read b).2.1)).2)
def magicB : Bs := [72, 79, 65, 82, 68, 83, 69, 71]
def scan (b : Bs) : List Fnd × Nat × Int := if b.take 8 = magicB then scanL b.length (b.drop 8) 8 else ([], 0, 4)
end Go.Frm
namespace Go.Proofs.YtlinnpehkfbnkaaGreatDoor
open Go Go.Sl Go.Med Go.MapKept Go.RowKit
section
variable {w0 w : World} {F R : List HProp} {v bv dv x lv av : Value}
theorem rdsl_text {l : Bs} (h : rdsl 1 v (bys l) w) : (convert 25 9 v).run Tryz.prog w = .ok (.string ⟨l.toArray⟩) w := by
 obtain ⟨a, n, c, rfl, hl, hx⟩ := h
 rw [bys_len, Nat.mul_one] at hl
 subst hl
 cases a with
 | none =>
  obtain rfl : l = [] := by
   cases l with
   | nil => rfl
   | cons d l => obtain ⟨b, hb, _⟩ := hx 0 _ rfl; cases hb
  exact Lib.run_convert_nil_bytes (P := Tryz.prog) w _ _ 5 c Tryz.underlying25 Tryz.underlying5 Tryz.underlying9
 | some ad =>
  refine run_convert_bytes_back (P := Tryz.prog) w _ _ 5 ad c l Tryz.underlying25 Tryz.underlying5 Tryz.underlying9 (fun j hj => ?_)
  have hy : (bys l)[j]? = some (.int .u8 (l[j]'hj).toNat) := by unfold bys; rw [List.getElem?_map, List.getElem?_eq_getElem hj]; rfl
  obtain ⟨b, hb, hc⟩ := hx _ _ hy
  cases hb
  simpa using hc
theorem bequal_c (la lb : Bs) (ha : rdsl 1 av (bys la) w) (hb : rdsl 1 bv (bys lb) w) :
  Calls Tryz.prog 170 #[av, bv] w (Rtn fun v w' => v = .bool (decide (la = lb)) ∧ w = w') := by
 have h1 := rdsl_text ha
 have h2 := rdsl_text hb
 have He := Lib.hid (show ((la.toArray.toList : List UInt8) == lb.toArray.toList) = decide (la = lb) by
  rw [Bool.eq_iff_iff, beq_iff_eq, decide_eq_true_eq])
 clear ha hb
 go_enter Tryz.func170, Tryz.ntmps170
 go_wp2
 go_ret
 rw [← He.out]
 exact ⟨_, rfl, rfl, rfl⟩
theorem hasPrefix_c (l lp : Bs) (a : Option Addr) (n c : Nat) (hn : n ≤ c) (hc : c ≤ 9223372036854775807) (ha : rdsl 1 (.slice a n c) (bys l) w) (pa : Option Addr) (pn pc : Nat) (hp : rdsl 1 (.slice pa pn pc) (bys lp) w) :
  Calls Tryz.prog 115 #[.slice a n c, .slice pa pn pc] w (Rtn fun v w' => v = .bool (decide (l.take lp.length = lp)) ∧ w = w') := by
 have hln : n = l.length := by
  obtain ⟨_, _, _, he, hl', _⟩ := ha
  cases he
  rw [bys_len, Nat.mul_one] at hl'; exact hl'.symm
 have hpn : pn = lp.length := by
  obtain ⟨_, _, _, he, hl', _⟩ := hp
  cases he
  rw [bys_len, Nat.mul_one] at hl'; exact hl'.symm
 subst hln hpn
 by_cases hle : lp.length ≤ l.length
 ·have h4 := rdsl_cut4 (k := lp.length) ha
  rw [show min l.length lp.length = lp.length by omega] at h4
  have hq := bequal_c _ _ h4 hp
  have c1 : (lp.length : Int) ≤ (l.length : Int) := by omega
  have c2 : (lp.length : Int) ≤ (c : Int) := by omega
  have c3 : lp.length ≤ l.length := hle
  clear h4 ha hp
  go_enter Tryz.func115, Tryz.ntmps115
  go_wp2_with (go_at_call 170; refine hq.mono ?_; rintro e w1 ⟨v, rfl, rfl, rfl⟩)
  go_ret
  exact ⟨_, rfl, rfl, rfl⟩
 ·have c1 : ¬ lp.length ≤ l.length := hle
  have c2 : decide ((lp.length : Int) ≤ (l.length : Int)) = false := decide_eq_false (by omega)
  have He := Lib.hid (show decide (l.take lp.length = lp) = false by
   apply decide_eq_false
   intro hh
   have := congrArg List.length hh
   rw [List.length_take] at this
   omega)
  clear ha hp
  go_enter Tryz.func115, Tryz.ntmps115
  go_wp2
  go_ret
  rw [He.out]
  exact ⟨_, rfl, rfl, rfl⟩
end
end Go.Proofs.YtlinnpehkfbnkaaGreatDoor
namespace Go.Frm
theorem read_ok {b : Bs} (h : (read b).2.2 = 0) : 9 ≤ (read b).2.1 ∧ (read b).2.1 ≤ b.length ∧ (read b).1.key.length = 32 := by
 unfold read at *
 dsimp only at *
 split at h
 ·simp at h
 rename_i h9
 rw [if_neg h9]
 split at h
 ·simp at h
 rename_i hf
 rw [if_neg hf]
 split at h
 ·simp at h
 rename_i hl
 rw [if_neg hl]
 split at h
 ·simp at h
 rename_i hc
 rw [if_neg hc]
 have hfit : fits (b.getD 8 0) (num ((b.drop 4).take 4)) = true := by
  cases hh : fits (b.getD 8 0) (num ((b.drop 4).take 4)) with
  | true => rfl
  | false => exact absurd hh hf
 have h9' : 9 ≤ num ((b.drop 4).take 4) := by
  unfold fits at hfit
  split at hfit
  ·have := of_decide_eq_true hfit; omega
  ·split at hfit
   ·have := of_decide_eq_true hfit; omega
   ·split at hfit
    ·have := of_decide_eq_true hfit; omega
    ·cases hfit
 split
 ·rename_i h41
  refine ⟨h9', Nat.not_lt.1 hl, ?_⟩
  simp only [List.length_take, List.length_drop]
  omega
 ·exact ⟨h9', Nat.not_lt.1 hl, rfl⟩
theorem read_key (b : Bs) : (read b).1.key.length = 32 := by
 unfold read
 dsimp only
 split
 ·rfl
 split
 ·rfl
 split
 ·rfl
 split
 ·rfl
 rename_i h9 hf hl hc
 split
 ·rename_i h41
  simp only [List.length_take, List.length_drop]
  omega
 ·rfl
end Go.Frm
namespace Go.Proofs.YtlinnpehkfbnkaaGreatDoor
open Go Go.Sl Go.Med Go.MapKept Go.RowKit
def fndL (f : Frm.Fnd) (dv : Value) : List Value := entL f.e dv ++ [.int .i64 f.at_, .int .i64 f.size]
def fndA (f : Frm.Fnd) (dv : Value) : Array Value := (fndL f dv).toArray
def fndsL (fs : List (Frm.Fnd × Value)) : List Value := fs.flatMap fun p => fndL p.1 p.2
def dataF (fs : List (Frm.Fnd × Value)) : HProp := stars (fs.map fun p => bsl p.2 p.1.e.data)
theorem fndL_len (f : Frm.Fnd) (dv : Value) (hk : f.e.key.length = 32) : (fndL f dv).length = 36 := by unfold fndL; rw [List.length_append, entL_len _ _ hk]; rfl
theorem fndA_size (f : Frm.Fnd) (dv : Value) (hk : f.e.key.length = 32) : (fndA f dv).size = 36 := by unfold fndA; rw [List.size_toArray, fndL_len _ _ hk]
theorem fndsL_len {fs : List (Frm.Fnd × Value)} (hk : ∀ p ∈ fs, p.1.e.key.length = 32) : (fndsL fs).length = 36 * fs.length := by
 unfold fndsL
 induction fs with
 | nil => rfl
 | cons p fs ih =>
  rw [List.flatMap_cons, List.length_append, ih (fun q hq => hk q (.tail _ hq)), fndL_len _ _ (hk p (.head _)), List.length_cons]; omega
theorem fndsL_app (es fs : List (Frm.Fnd × Value)) : fndsL (es ++ fs) = fndsL es ++ fndsL fs := by unfold fndsL; rw [List.flatMap_append]
theorem dataF_snoc (es : List (Frm.Fnd × Value)) (x : Frm.Fnd) (dv : Value) : dataF (es ++ [(x, dv)]) = star (bsl dv x.e.data) (dataF es) := by
 unfold dataF
 rw [List.map_append, stars_append, star_comm]
 show star (stars [bsl dv x.e.data]) _ = _
 rw [stars_one]
theorem plFnd : placesB Tryz.prog 118 = some [(0, 34), (34, 1), (35, 1)] := by kernel_rfl
def zeroF : Frm.Fnd := ⟨Frm.zeroE, 0, 0⟩
theorem zFnd : zeroB Tryz.prog 118 = some (.agg (fndA zeroF (.slice none 0 0))) := by kernel_rfl
theorem puts3f (cs : Array Value) (hs : cs.size = 36) (el : List Value) (u v : Value) (hk : el.length = 34) : (putsAt (putsAt (putsAt cs 0 el) 34 [u]) 35 [v]).toList = el ++ [u, v] := by
 have hcl : cs.toList.length = 36 := by simpa using hs
 have e1 : (putsAt cs 0 el).toList = el ++ cs.toList.drop 34 := by
  rw [putsAt_list _ _ _ (by omega), List.take_zero, List.nil_append, Nat.zero_add, hk]
 have e2 : (putsAt (putsAt cs 0 el) 34 [u]).toList = el ++ [u] ++ cs.toList.drop 35 := by
  rw [putsAt_list _ _ _ (by rw [putsAt_size]; simp; omega), e1, List.take_append_of_le_length (by omega), List.take_of_length_le (by omega), List.length_singleton, List.drop_append, hk, List.drop_of_length_le (l := el) (by omega), List.nil_append, List.drop_drop]
 have h3 : (el ++ [u]).length = 35 := by simp [hk]
 rw [putsAt_list _ _ _ (by rw [putsAt_size, putsAt_size]; simp; omega), e2, List.take_append_of_le_length (by omega), List.take_of_length_le (by omega), List.length_singleton, List.drop_of_length_le (by rw [List.length_append, h3, List.length_drop]; omega)]
 simp
set_option maxRecDepth 20000 in
theorem run_buildFnd (e : Frm.Ent) (hk : e.key.length = 32) (da : Option Addr) (dn dc : Nat) (at_ n : Nat) (w : World) :
  (Instr.build 118 #[(0, .agg (entA e (.slice da dn dc))), (1, .int .i64 at_), (2, .int .i64 n)]).run Tryz.prog w = .ok (.agg (fndA ⟨e, at_, n⟩ (.slice da dn dc))) w := by
 have hz : (fndA zeroF (.slice none 0 0)).size = 36 := fndA_size _ _ rfl
 have he : (entA e (.slice da dn dc)).size = 34 := entA_size _ _ hk
 have h := run_build (P := Tryz.prog) [(0, .agg (entA e (.slice da dn dc))), (1, .int .i64 at_), (2, .int .i64 n)] plFnd zFnd (by
  intro p hp
  simp only [List.mem_cons, List.not_mem_nil, or_false] at hp
  have hzz : (Value.agg (fndA zeroF (.slice none 0 0))).cells.size = 36 := hz
  rw [hzz]
  rcases hp with rfl | rfl | rfl
  ·refine ⟨0, ?_, ?_⟩
   ·show some (0, 34) = some (0, (entA e (.slice da dn dc)).size); rw [he]
   ·show 0 + (entA e (.slice da dn dc)).size ≤ 36; omega
  ·exact ⟨34, rfl, by show 34 + 1 ≤ 36; omega⟩
  ·exact ⟨35, rfl, by show 35 + 1 ≤ 36; omega⟩) w
 refine h.trans ?_
 congr 2
 apply putsAt_eq
 exact puts3f _ hz _ _ _ (show (entA e (.slice da dn dc)).toList.length = 34 by rw [Array.length_toList, he])
section
variable {w0 w : World} {L L' R : List HProp} {b : Nat} {ops : Array Oper} {rest : List Oper} {a : Act} {Q : Exit → Act → World → Prop}
variable {dst : Option Tmp} {t T ty : TypeId} {pos : String} {after : Array Edge} {x y z : Operand} {cs : Array Value} {v v1 v2 v3 : Value} {i1 i2 i3 : Nat} {P : Program}
theorem wl_build3 (h1 : a.eval x = v1) (h2 : a.eval y = v2) (h3 : a.eval z = v3) (hr : ∀ w, (Instr.build ty #[(i1, v1), (i2, v2), (i3, v3)]).run P w = .ok v w) (h : wpList P ops Q rest (a.put dst v) w) :
  wpList P ops Q (⟨dst, .build ty #[(i1, x), (i2, y), (i3, z)], t, pos, after, none⟩ :: rest) a w :=
 wpList_plain rfl fun _ hK => by
  unfold Oper.wp execOp
  simp only [List.map_toArray, List.map_cons, List.map_nil, h1, h2, h3, Sem.run_bind, hr, Result.andThen_ok, Sem.run_pure]
  exact hK _ _ h
theorem at_build3 (h : Stop (wpList P ops Q (⟨dst, .build ty #[(i1, x), (i2, y), (i3, z)], t, pos, after, none⟩ :: rest) a w)) : wpList P ops Q (⟨dst, .build ty #[(i1, x), (i2, y), (i3, z)], t, pos, after, none⟩ :: rest) a w := h.out
theorem fndA_ones (f : Frm.Fnd) (a : Option Addr) (n c : Nat) : (fndA f (.slice a n c)).toList.all (·.oneCell') = true := by
 unfold fndA fndL
 rw [List.toList_toArray, List.all_append]
 have h1 : (entL f.e (.slice a n c)).all (·.oneCell') = true := by
  have := entA_one f.e a n c
  unfold entA at this
  rwa [List.toList_toArray] at this
 rw [h1]; rfl
end
end Go.Proofs.YtlinnpehkfbnkaaGreatDoor
namespace Go.Rep
open Go.Frm (Bs Fnd)
open Go.Seg (Plc)
open Go.Tab (put)
abbrev Row := Int × Fnd
def rkey (r : Row) : Bs := r.2.e.key
def rtag (r : Row) : Int := r.2.e.tag
def rplc (r : Row) : Plc := ⟨r.1, r.2.at_, r.2.size⟩
structure Abt where
 tag : Int
 place : Plc
 first : Int
def newest : List Row → Bs → Option Row
 | [], _ => none
 | r :: l, k => match newest l k with
  | some x => some x
  | none => if rtag r ≠ 2 ∧ rkey r = k then some r else none
def firstPut : List Row → Bs → Option Row
 | [], _ => none
 | r :: l, k => if rtag r = 0 ∧ rkey r = k then some r else firstPut l k
def first (l : List Row) (k : Bs) : Int := match firstPut l k with
 | some r => r.1
 | none => -1
def ledger (l : List Row) (k : Bs) : Option Abt := (newest l k).map fun r => ⟨rtag r, rplc r, first l k⟩
def first0 (m : Bs → Option Abt) (r : Row) : Int := match m (rkey r) with
 | some a => a.first
 | none => -1
def first1 (m : Bs → Option Abt) (r : Row) : Int := if rtag r = 0 ∧ first0 m r < 0 then r.1 else first0 m r
def takeOne (m : Bs → Option Abt) (r : Row) : Bs → Option Abt :=
 if rtag r = 2 then m else put m (rkey r) ⟨rtag r, rplc r, first1 m r⟩
theorem newest_snoc (l : List Row) (r : Row) (k : Bs) : newest (l ++ [r]) k = if rtag r ≠ 2 ∧ rkey r = k then some r else newest l k := by
 induction l with
 | nil => simp only [List.nil_append, newest]
 | cons x l ih =>
  simp only [List.cons_append, newest, ih]
  split
  ·rename_i h; split at h
   ·rename_i h2; rw [if_pos h2]; cases h; rfl
   ·rename_i h2; rw [if_neg h2, h]
  ·rename_i h; split at h
   ·cases h
   ·rename_i h2; rw [if_neg h2, h]
theorem firstPut_snoc (l : List Row) (r : Row) (k : Bs) : firstPut (l ++ [r]) k = match firstPut l k with
  | some x => some x
  | none => if rtag r = 0 ∧ rkey r = k then some r else none := by
 induction l with
 | nil => simp only [List.nil_append, firstPut]
 | cons x l ih =>
  simp only [List.cons_append, firstPut, ih]
  split
  ·rename_i h; simp only
  ·rfl
theorem newest_none {l : List Row} {k : Bs} (h : newest l k = none) : firstPut l k = none := by
 induction l with
 | nil => rfl
 | cons x l ih =>
  simp only [newest] at h
  split at h
  ·cases h
  ·rename_i h1
   split at h
   ·cases h
   ·rename_i h2
    simp only [firstPut]
    rw [if_neg fun h3 => h2 ⟨by rw [h3.1]; decide, h3.2⟩]
    exact ih h1
theorem firstPut_mem {l : List Row} {k : Bs} {r : Row} (h : firstPut l k = some r) : r ∈ l ∧ rtag r = 0 ∧ rkey r = k := by
 induction l with
 | nil => cases h
 | cons x l ih =>
  simp only [firstPut] at h
  split at h
  ·cases h; exact ⟨.head _, by assumption⟩
  ·exact ⟨.tail _ (ih h).1, (ih h).2⟩
theorem ledger_snoc (l : List Row) (r : Row) (h0 : ∀ x ∈ l, 0 ≤ x.1) : ledger (l ++ [r]) = takeOne (ledger l) r := by
 funext k
 unfold takeOne
 by_cases h2 : rtag r = 2
 ·rw [if_pos h2]
  unfold ledger first
  rw [newest_snoc, if_neg (fun h => h.1 h2), firstPut_snoc]
  cases firstPut l k with
  | some x => rfl
  | none => simp only; rw [if_neg (fun h => by rw [h2] at h; exact absurd h.1 dCz)]
 ·rw [if_neg h2]
  unfold put
  by_cases hk : k = rkey r
  ·subst hk
   rw [if_pos rfl]
   have e1 : ∀ k, ledger l k = (newest l k).map fun r => ⟨rtag r, rplc r, first l k⟩ := fun _ => rfl
   have e2 : ledger (l ++ [r]) (rkey r) = some ⟨rtag r, rplc r, first (l ++ [r]) (rkey r)⟩ := by
    unfold ledger
    rw [newest_snoc, if_pos ⟨h2, rfl⟩, Option.map_some]
   rw [e2]
   congr 2
   unfold first1 first0
   rw [e1]
   unfold first
   rw [firstPut_snoc]
   cases hn : newest l (rkey r) with
   | none =>
    rw [newest_none hn]
    simp only [Option.map_none]
    by_cases ht : rtag r = 0
    ·rw [if_pos ⟨ht, trivial⟩, if_pos ⟨ht, by decide⟩]
    ·rw [if_neg (fun h => ht h.1), if_neg (fun h => ht h.1)]
   | some x =>
    simp only [Option.map_some]
    cases hf : firstPut l (rkey r) with
    | some y =>
     simp only
     rw [if_neg (fun h => by have := h0 y (firstPut_mem hf).1; omega)]
    | none =>
     simp only
     by_cases ht : rtag r = 0
     ·rw [if_pos ⟨ht, trivial⟩, if_pos ⟨ht, by decide⟩]
     ·rw [if_neg (fun h => ht h.1), if_neg (fun h => ht h.1)]
  ·rw [if_neg hk]
   unfold ledger first
   rw [newest_snoc, if_neg (fun h => hk h.2.symm), firstPut_snoc]
   cases firstPut l k with
   | some x => rfl
   | none => simp only; rw [if_neg (fun h => hk h.2.symm)]
def counts (a : Abt) : Bool := decide (a.tag = 0) || (decide (0 ≤ a.first) && decide (a.first < a.place.seg))
def isNew (l : List Row) (i : Nat) : Bool := match l[i]? with
 | none => false
 | some r => decide (rtag r < 2) && (l.drop (i + 1)).all fun x => !(decide (rtag x < 2) && decide (rkey x = rkey r))
def cnt (l : List Row) (i : Nat) : Bool := match l[i]? with
 | none => false
 | some r => !decide (rtag r = 2) && isNew l i && (decide (rtag r = 0) || (l.take i).any fun x => decide (rtag x = 0) && decide (rkey x = rkey r) && decide (x.1 < r.1))
structure Rows (l : List Row) : Prop where
 tag : ∀ r ∈ l, rtag r = 0 ∨ rtag r = 1 ∨ rtag r = 2
 seg : ∀ r ∈ l, 0 ≤ r.1
 rise : l.Pairwise fun a b => a.1 ≤ b.1
theorem new_none {l : List Row} {k : Bs} (ht : ∀ r ∈ l, rtag r = 0 ∨ rtag r = 1 ∨ rtag r = 2) : newest l k = none ↔ (l.all fun x => !(decide (rtag x < 2) && decide (rkey x = k))) = true := by
 induction l with
 | nil => exact ⟨fun _ => rfl, fun _ => rfl⟩
 | cons y l ih =>
  rw [List.all_cons, Bool.and_eq_true, ← ih (fun r h => ht r (.tail _ h))]
  have hy := ht y (.head _)
  simp only [newest]
  cases hn : newest l k with
  | some x => simp
  | none =>
   simp only [and_true]
   by_cases hc : rtag y ≠ 2 ∧ rkey y = k
   ·rw [if_pos hc]
    have : rtag y < 2 := by omega
    simp [this, hc.2]
   ·rw [if_neg hc]
    simp only [true_iff, Bool.not_eq_true', Bool.and_eq_false_iff, decide_eq_false_iff_not]
    by_cases h2 : rtag y < 2
    ·exact .inr fun h => hc ⟨by omega, h⟩
    ·exact .inl h2
theorem newest_at : ∀ {l : List Row} {i : Nat} {r : Row}, (∀ r ∈ l, rtag r = 0 ∨ rtag r = 1 ∨ rtag r = 2) → l[i]? = some r → isNew l i = true → newest l (rkey r) = some r
 | [], _, _, _, hi, _ => by simp at hi
 | x :: l, 0, r, ht, hi, hn => by
  obtain rfl : x = r := by simpa using hi
  unfold isNew at hn
  rw [hi] at hn
  simp only [Bool.and_eq_true, decide_eq_true_eq] at hn
  have h2 : newest l (rkey x) = none := (new_none fun r h => ht r (.tail _ h)).2 hn.2
  have := hn.1
  simp only [newest, h2]
  rw [if_pos ⟨by omega, trivial⟩]
 | x :: l, i + 1, r, ht, hi, hn => by
  have hi' : l[i]? = some r := by simpa using hi
  have hn' : isNew l i = true := by
   unfold isNew at hn ⊢
   rw [hi] at hn; rw [hi']
   exact hn
  simp only [newest, newest_at (fun r h => ht r (.tail _ h)) hi' hn']
theorem newest_is : ∀ {l : List Row} {k : Bs} {r : Row}, (∀ r ∈ l, rtag r = 0 ∨ rtag r = 1 ∨ rtag r = 2) → newest l k = some r → ∃ i, l[i]? = some r ∧ isNew l i = true ∧ rkey r = k ∧ rtag r ≠ 2
 | [], _, _, _, h => by cases h
 | x :: l, k, r, ht, h => by
  simp only [newest] at h
  cases hn : newest l k with
  | some y =>
   rw [hn] at h
   obtain rfl : y = r := by simpa using h
   obtain ⟨i, a, b, c, d⟩ := newest_is (fun r h => ht r (.tail _ h)) hn
   refine ⟨i + 1, by simpa using a, ?_, c, d⟩
   unfold isNew at b ⊢
   rw [a] at b
   rw [show (x :: l)[i + 1]? = some y by simpa using a]
   exact b
  | none =>
   rw [hn] at h
   simp only at h
   split at h
   ·rename_i hc
    obtain rfl : x = r := by simpa using h
    refine ⟨0, rfl, ?_, hc.2, hc.1⟩
    have hx := ht x (.head _)
    unfold isNew
    simp only [List.getElem?_cons_zero, Nat.zero_add, List.drop_one, List.tail_cons, Bool.and_eq_true, decide_eq_true_eq]
    refine ⟨by omega, ?_⟩
    rw [← new_none fun r h => ht r (.tail _ h), hc.2]; exact hn
   ·cases h
theorem firstPut_le : ∀ {l : List Row} {k : Bs} {r x : Row}, l.Pairwise (fun a b => a.1 ≤ b.1) → firstPut l k = some r → x ∈ l → rtag x = 0 → rkey x = k → r.1 ≤ x.1
 | [], _, _, _, _, h, _, _, _ => by cases h
 | y :: l, k, r, x, hp, h, hx, h0, hk => by
  obtain ⟨p1, p2⟩ := List.pairwise_cons.1 hp
  simp only [firstPut] at h
  split at h
  ·obtain rfl : y = r := by simpa using h
   rcases List.mem_cons.1 hx with rfl | hx
   ·exact Int.le_refl _
   ·exact p1 x hx
  ·rename_i hc
   rcases List.mem_cons.1 hx with rfl | hx
   ·exact absurd ⟨h0, hk⟩ hc
   ·exact firstPut_le p2 h hx h0 hk
theorem firstPut_none {l : List Row} {k : Bs} (h : firstPut l k = none) : ∀ x ∈ l, ¬ (rtag x = 0 ∧ rkey x = k) := by
 induction l with
 | nil => intro x hx; cases hx
 | cons y l ih =>
  simp only [firstPut] at h
  split at h
  ·cases h
  ·rename_i hc
   intro x hx
   rcases List.mem_cons.1 hx with rfl | hx
   ·exact hc
   ·exact ih h x hx
theorem cnt_eq {l : List Row} {i : Nat} {r : Row} (hl : Rows l) (hi : l[i]? = some r) (hn : isNew l i = true) : ∃ a, ledger l (rkey r) = some a ∧ a.tag = rtag r ∧ a.place = rplc r ∧ counts a = cnt l i := by
 have h1 := newest_at hl.tag hi hn
 refine ⟨⟨rtag r, rplc r, first l (rkey r)⟩, by unfold ledger; rw [h1]; rfl, rfl, rfl, ?_⟩
 have hmem := List.mem_of_getElem? hi
 have h2 : rtag r ≠ 2 := by
  unfold isNew at hn
  rw [hi] at hn
  simp only [Bool.and_eq_true, decide_eq_true_eq] at hn
  have := hn.1
  omega
 unfold cnt
 rw [hi]
 simp only [hn, h2, decide_false, Bool.not_false, Bool.true_and]
 unfold counts
 simp only
 by_cases h0 : rtag r = 0
 ·simp [h0]
 ·simp only [h0, decide_false, Bool.false_or]
  rw [Bool.eq_iff_iff]
  simp only [Bool.and_eq_true, decide_eq_true_eq, List.any_eq_true]
  unfold first rplc
  simp only
  cases hf : firstPut l (rkey r) with
  | none =>
   simp only
   constructor
   ·intro h; omega
   ·rintro ⟨x, hx, ⟨h3, h4⟩, _⟩
    exact absurd ⟨h3, h4⟩ (firstPut_none hf x (List.mem_of_mem_take hx))
  | some y =>
   obtain ⟨m1, m2, m3⟩ := firstPut_mem hf
   simp only
   constructor
   ·rintro ⟨_, h5⟩
    obtain ⟨j, hj, he⟩ := List.getElem_of_mem m1
    have hij : j < i := by
     rcases Nat.lt_trichotomy j i with q | q | q
     ·exact q
     ·subst q
      rw [List.getElem?_eq_getElem hj, he] at hi; cases hi
      exact absurd m2 h0
     ·obtain ⟨hi', he'⟩ := List.getElem?_eq_some_iff.1 hi
      have := List.pairwise_iff_getElem.1 hl.rise i j hi' hj q
      rw [he, he'] at this; omega
    refine ⟨y, ?_, ⟨m2, m3⟩, h5⟩
    rw [List.mem_take_iff_getElem]
    exact ⟨j, by omega, he⟩
   ·rintro ⟨x, hx, ⟨h3, h4⟩, h5⟩
    have := firstPut_le hl.rise hf (List.mem_of_mem_take hx) h3 h4
    exact ⟨hl.seg y m1, by omega⟩
theorem cnt_new {l : List Row} {i : Nat} (h : cnt l i = true) : isNew l i = true := by
 unfold cnt at h
 split at h
 ·cases h
 ·simp only [Bool.and_eq_true] at h
  exact h.1.2
end Go.Rep
namespace Go.Proofs.YtlinnpehkfbnkaaGreatDoor
open Go Go.Sl Go.Med Go.MapKept Go.RowKit
def putL (xs : List Value) (i : Nat) (vs : List Value) : List Value := xs.take i ++ (vs ++ xs.drop (i + vs.length))
theorem putL_app (A B vs : List Value) (i : Nat) : putL (A ++ B) (A.length + i) vs = A ++ putL B i vs := by
 unfold putL
 rw [List.take_length_add_append, Nat.add_assoc, List.drop_length_add_append, List.append_assoc]
theorem putL_len {xs vs : List Value} {i : Nat} (h : i + vs.length ≤ xs.length) : (putL xs i vs).length = xs.length := by
 unfold putL
 simp only [List.length_append, List.length_take, List.length_drop]; omega
section
variable {P : Program} {w0 w : World} {L L' : List HProp} {b o : Nat} {ops : Array Oper} {rest : List Oper} {a : Act} {Q : Exit → Act → World → Prop} {dst : Option Tmp} {t ty T sz n c : Nat} {pos : String} {after : Array Edge} {x y : Operand} {v : Value} {xs vs : List Value} {K : Act → World → Prop} {E : Prop}
theorem putsAt_take {cs : Array Value} {i m : Nat} (hx : cs.toList.take m = xs) (hm : m ≤ cs.size) (hi : i + vs.length ≤ m) : (putsAt cs i vs).toList.take m = putL xs i vs := by
 subst hx
 rw [putsAt_list _ _ _ (by omega)]
 have hl : (cs.toList.take i ++ vs).length = i + vs.length := by rw [List.length_append, List.length_take, Array.length_toList]; omega
 unfold putL
 rw [List.take_append, hl, List.take_of_length_le (by omega), List.take_take, Nat.min_eq_left (by omega), List.drop_take, List.append_assoc]
theorem eff_storeSN (i : Nat) (hs : Sat w0 w L) (hx : a.eval x = .pointer (some ⟨b, i, none⟩)) (hy : a.eval y = v) (hv : v.cells.toList = vs) (u : Upd (osl T sz (.slice (some ⟨b, 0, none⟩) n c) xs) (osl T sz (.slice (some ⟨b, 0, none⟩) n c) (putL xs i vs)) L L')
  (hi : i + vs.length ≤ xs.length) (hty : (P.info? ty).map (·.size) = some vs.length) (h1 : vs.all (·.oneCell') = true)
  (hK : ∀ w', Sat w0 w' L' → K (a.put dst undef) w') :
  if Region.wanted ⟨dst, .store ty x y, t, pos, after, none⟩ (yielded ops a.tmps) = true then Oper.wp P ⟨dst, .store ty x y, t, pos, after, none⟩ a w K Q else E := by
 have hvs : v.cells.size = vs.length := by rw [← hv, Array.length_toList]
 obtain ⟨R', h2, h3⟩ := u
 have h := hs.perm h2
 rcases Sat.osl_cases h with ⟨he, _⟩ | ⟨g', n', cap', cs, he, k1, k2, k3, k4, k5, k6⟩
 ·cases he
 ·cases he
  have hlen : xs.length ≤ cs.size := by rw [← k5, List.length_take, Array.length_toList]; omega
  have hm : n * sz ≤ cs.size := Nat.le_trans (Nat.mul_le_mul_right _ k2) k3
  refine eff_store k6 hx hy (cs' := putsAt cs i vs) (by rw [hv]) upd0 (by rw [hvs]; omega) (by rw [hvs]; exact hty) (by rw [hv]; exact h1) fun w' hS => hK w' (Sat.perm ?_ h3.symm)
  refine Sat.osl_of_pt hS (by rw [putL_len hi]; exact k1) k2 (by rw [putsAt_size]; exact k3) k4 ?_
  exact putsAt_take k5 hm (by rw [← k1]; exact hi)
end
section
variable {α : Type} {f : α → List Value} {k : Nat}
theorem rows_len : ∀ {l : List α}, (∀ x ∈ l, (f x).length = k) → (l.flatMap f).length = k * l.length
 | [], _ => rfl
 | x :: l, h => by rw [List.flatMap_cons, List.length_append, h x (.head _), rows_len fun y hy => h y (.tail _ hy), List.length_cons, Nat.mul_succ]; omega
theorem rows_at : ∀ {l : List α} {i : Nat} {x : α} {j : Nat} {v : Value}, (∀ x ∈ l, (f x).length = k) → l[i]? = some x → (f x)[j]? = some v → (l.flatMap f)[i * k + j]? = some v
 | [], _, _, _, _, _, h, _ => by cases h
 | y :: l, 0, x, j, v, hk, h, hj => by
  obtain rfl : y = x := by simpa using h
  rw [List.flatMap_cons, Nat.zero_mul, Nat.zero_add, List.getElem?_append_left (List.getElem?_eq_some_iff.1 hj).1]; exact hj
 | y :: l, i + 1, x, j, v, hk, h, hj => by
  have h0 := hk y (.head _)
  rw [List.flatMap_cons, Nat.succ_mul, List.getElem?_append_right (by omega), h0, show i * k + k + j - k = i * k + j by omega]
  exact rows_at (fun z hz => hk z (.tail _ hz)) (by simpa using h) hj
theorem rows_set : ∀ {l : List α} {i : Nat} {x : α}, (∀ x ∈ l, (f x).length = k) → (f x).length = k → i < l.length → (l.set i x).flatMap f = putL (l.flatMap f) (i * k) (f x)
 | [], _, _, _, _, h => by simp at h
 | y :: l, 0, x, hk, hx, h => by
  have h0 := hk y (.head _)
  rw [List.set_cons_zero, List.flatMap_cons, List.flatMap_cons]
  unfold putL
  rw [Nat.zero_mul, List.take_zero, List.nil_append, Nat.zero_add, hx, ← h0, List.drop_left]
 | y :: l, i + 1, x, hk, hx, h => by
  have h0 := hk y (.head _)
  rw [List.set_cons_succ, List.flatMap_cons, List.flatMap_cons, rows_set (fun z hz => hk z (.tail _ hz)) hx (by simpa using h), Nat.succ_mul, Nat.add_comm (i * k) k, ← h0, putL_app]
theorem rows_rep (n : Nat) (x : α) : (List.replicate n x).flatMap f = (List.replicate n (f x)).flatten := by
 induction n with
 | zero => rfl
 | succ n ih => rw [List.replicate_succ, List.flatMap_cons, ih, List.replicate_succ, List.flatten_cons]
end
section
variable {w0 w : World} {F R : List HProp} {α : Type} {f : α → List Value} {k : Nat} {T : TypeId} {v : Value}
theorem osl_row {l : List α} {i : Nat} {x : α} (hk : ∀ x ∈ l, (f x).length = k) (h : rdsl k v (l.flatMap f) w) (hi : l[i]? = some x) (h0 : 0 < k) :
  ∃ bk off c, v = .slice (some ⟨bk, off, none⟩) l.length c ∧ ∀ j y, (f x)[j]? = some y → w.cell? ⟨bk, off + i * k + j, none⟩ = some y := by
 obtain ⟨a, n, c, rfl, hl, hx⟩ := id h
 rw [rows_len hk] at hl
 have hfx := hk x (List.mem_of_getElem? hi)
 obtain rfl : n = l.length := by
  rw [Nat.mul_comm] at hl
  exact (Nat.eq_of_mul_eq_mul_right h0 hl).symm
 obtain ⟨y0, hy0⟩ : ∃ y, (f x)[0]? = some y := ⟨_, List.getElem?_eq_getElem (by omega)⟩
 have h1 := rows_at hk hi hy0
 obtain ⟨bk, off, rfl, hc⟩ := rdsl_cells h h1
 exact ⟨bk, off, c, rfl, fun j y hj => by rw [Nat.add_assoc]; exact hc _ _ (rows_at hk hi hj)⟩
theorem osl_rows {l : List α} (hk : ∀ x ∈ l, (f x).length = k) (h : rdsl k v (l.flatMap f) w) (h0 : 0 < k) : ∃ a c, v = .slice a l.length c := by
 obtain ⟨a, n, c, rfl, hl, hx⟩ := id h
 rw [rows_len hk, Nat.mul_comm] at hl
 exact ⟨a, c, by rw [Nat.eq_of_mul_eq_mul_right h0 hl]⟩
end
theorem and_mask (x j : Nat) (hx : x < 9223372036854775808) (hj : j < 63) : bits .and .i64 (x : Int) ((2 ^ j - 1 : Nat) : Int) = ((x % 2 ^ j : Nat) : Int) := by
 have h2 : 2 ^ j ≤ 2 ^ 62 := Nat.pow_le_pow_right dCz (by omega)
 have h3 : (2 : Nat) ^ 62 = 4611686018427387904 := by decide
 have h4 : 0 < 2 ^ j := Nat.two_pow_pos j
 have hm : (BitVec.ofInt 64 ((2 ^ j - 1 : Nat) : Int)).toNat = 2 ^ j - 1 := by
  rw [BitVec.toNat_ofInt]
  have : ((2 ^ 64 : Nat) : Int) = 18446744073709551616 := by decide
  rw [this]
  omega
 have hn : (BitVec.ofInt 64 (x : Int)).toNat = x := by
  rw [BitVec.toNat_ofInt]
  have : ((2 ^ 64 : Nat) : Int) = 18446744073709551616 := by decide
  rw [this]
  omega
 show IntKind.i64.wrap ((BitVec.ofInt 64 (x : Int) &&& BitVec.ofInt 64 ((2 ^ j - 1 : Nat) : Int)).toNat : Nat) = _
 rw [BitVec.toNat_and, hm, hn, Nat.and_two_pow_sub_one_eq_mod, IntKind.wrap_i64]
 have := Nat.mod_lt x h4
 omega
theorem or_num32 (l : Bs) (c : UInt8) (k : Nat) (hl : l.length = k) (hk : k < 4) : bits .or .u32 ((Frm.num l : Nat) : Int) ((c.toNat : Int) * ((256 ^ k : Nat) : Int)) = ((Frm.num (l ++ [c]) : Nat) : Int) := by
 subst hl
 have h1 := Frm.num_lt l
 have h2 := c.toNat_lt
 have h3 : 256 ^ l.length ≤ 256 ^ 3 := Nat.pow_le_pow_right dCz (by omega)
 have h4 : c.toNat * 256 ^ l.length ≤ 255 * 256 ^ 3 := Nat.mul_le_mul (by omega) h3
 have h5 : (256 : Nat) ^ 3 = 16777216 := by decide
 have e : (c.toNat : Int) * ((256 ^ l.length : Nat) : Int) = ((c.toNat * 256 ^ l.length : Nat) : Int) := by rw [Int.natCast_mul]
 rw [e, u32_or_nat _ _ (by omega) (by omega), Frm.num_snoc]
 congr 1
 have hp : (256 : Nat) ^ l.length = 2 ^ (8 * l.length) := by rw [Nat.pow_mul]
 rw [hp] at h1 ⊢
 have := Nat.two_pow_add_eq_or_of_lt h1 c.toNat
 rw [Nat.or_comm, Nat.mul_comm c.toNat, ← this, Nat.add_comm]
section
variable {w0 w : World} {F R : List HProp}
set_option maxRecDepth 20000 in
theorem home_c (k : Bs) (hk : k.length = 32) (j : Nat) (hj : j < 40) (h : Sat w0 w F) :
  Calls Tryz.prog 190 #[.agg (bys k).toArray, .int .i64 (2 ^ j : Nat)] w (Rtn fun v w' => v = .int .i64 (Tab.home k (2 ^ j) : Nat) ∧ Sat w0 w' F) := by
 obtain ⟨c0, c1, c2, c3, t, rfl⟩ : ∃ c0 c1 c2 c3 t, k = c0 :: c1 :: c2 :: c3 :: t := by
  match k, hk with
  | c0 :: c1 :: c2 :: c3 :: t, _ => exact ⟨c0, c1, c2, c3, t, rfl⟩
 have Hh := Lib.hid (show Tab.home (c0 :: c1 :: c2 :: c3 :: t) (2 ^ j) = Frm.num [c0, c1, c2, c3] % 2 ^ j from rfl)
 have hB := h.alloc (.cells (bys (c0 :: c1 :: c2 :: c3 :: t)).toArray 24)
 have e0 : (w.alloc (.cells (bys (c0 :: c1 :: c2 :: c3 :: t)).toArray 24)).cell? ⟨w.heap.size, 0, none⟩ = some (.int .u8 c0.toNat) := hB.cellAt 0 _ rfl
 have e1 : (w.alloc (.cells (bys (c0 :: c1 :: c2 :: c3 :: t)).toArray 24)).cell? ⟨w.heap.size, 1, none⟩ = some (.int .u8 c1.toNat) := hB.cellAt 1 _ rfl
 have e2 : (w.alloc (.cells (bys (c0 :: c1 :: c2 :: c3 :: t)).toArray 24)).cell? ⟨w.heap.size, 2, none⟩ = some (.int .u8 c2.toNat) := hB.cellAt 2 _ rfl
 have e3 : (w.alloc (.cells (bys (c0 :: c1 :: c2 :: c3 :: t)).toArray 24)).cell? ⟨w.heap.size, 3, none⟩ = some (.int .u8 c3.toNat) := hB.cellAt 3 _ rfl
 have b0 := c0.toNat_lt; have b1 := c1.toNat_lt; have b2 := c2.toNat_lt; have b3 := c3.toNat_lt
 have q1 : bits .or .u32 (c0.toNat : Int) ((c1.toNat : Int) * 256) = ((Frm.num [c0, c1] : Nat) : Int) := by
  have := or_num32 [c0] c1 1 rfl dCz
  simpa [Frm.num] using this
 have q2 : bits .or .u32 ((Frm.num [c0, c1] : Nat) : Int) ((c2.toNat : Int) * 65536) = ((Frm.num [c0, c1, c2] : Nat) : Int) := or_num32 [c0, c1] c2 2 rfl dCz
 have q3 : bits .or .u32 ((Frm.num [c0, c1, c2] : Nat) : Int) ((c3.toNat : Int) * 16777216) = ((Frm.num [c0, c1, c2, c3] : Nat) : Int) := or_num32 [c0, c1, c2] c3 3 rfl dCz
 have hn := Frm.num_lt [c0, c1, c2, c3]
 rw [show [c0, c1, c2, c3].length = 4 from rfl, show (256 : Nat) ^ 4 = 4294967296 by decide] at hn
 have hp : (2 : Nat) ^ j ≤ 2 ^ 40 := Nat.pow_le_pow_right dCz (by omega)
 have hp1 : (2 : Nat) ^ 40 = 1099511627776 := by decide
 have hp0 : 0 < 2 ^ j := Nat.two_pow_pos j
 have q4 := and_mask (Frm.num [c0, c1, c2, c3]) j (by omega) (by omega)
 generalize Frm.num [c0, c1, c2, c3] = N at *
 generalize hC : 2 ^ j = C at *
 have hw1 : IntKind.i64.wrap ((C : Int) - 1) = ((C - 1 : Nat) : Int) := by rw [IntKind.wrap_i64]; omega
 have hw2 : IntKind.i64.wrap (N : Int) = (N : Int) := IntWalk.i64_in _ (by omega)
 have hm2 : N % C < C := Nat.mod_lt _ hp0
 clear h hk hC hp hp1
 go_enter Tryz.func190, Tryz.ntmps190
 go_wp2_with fail
 go_ret
 refine ⟨_, rfl, ?_, hB.drop⟩
 rw [Hh.out, Int.natCast_emod]; rfl
end
section
variable {w0 w : World} {L L' R F : List HProp} {b o : Nat} {ops : Array Oper} {rest : List Oper} {a : Act} {Q : Exit → Act → World → Prop}
variable {dst : Option Tmp} {t T ty : TypeId} {pos : String} {after : Array Edge} {x y : Operand} {cs : Array Value} {v : Value} {P : Program}
theorem wl_loadW (ks : List Value) (hx : a.eval x = .pointer (some ⟨b, o, none⟩)) (hc : ∀ j v, ks[j]? = some v → w.cell? ⟨b, o + j, none⟩ = some v)
  {d : TypeDesc} (hu : P.underlying ty = some d) (hd : d.isRow = true) (hi : (P.info? ty).map (·.size) = some ks.length)
  (h : wpList P ops Q rest (a.put dst (.agg ks.toArray)) w) : wpList P ops Q (⟨dst, .load ty x, t, pos, after, none⟩ :: rest) a w :=
 wpList_load_mid rfl ty x rfl b o hx ks d hc hu hd hi h
theorem wl_storeA (ks : Array Value) (hs : Sat w0 w L) (hx : a.eval x = .pointer (some ⟨b, 0, none⟩)) (hy : a.eval y = .agg ks) (hsz : ks.size = cs.size) (u : Upd (pt b (.cells cs T (0,0))) (pt b (.cells ks T (0,0))) L L')
  (hi : (P.info? ty).map (·.size) = some ks.size) (h1 : ks.toList.all (·.oneCell') = true)
  (hK : ∀ w', Sat w0 w' L' → wpList P ops Q rest (a.put dst undef) w') : wpList P ops Q (⟨dst, .store ty x y, t, pos, after, none⟩ :: rest) a w :=
 wl_store hs hx hy (putsAt_eq (by
  show (putsAt cs 0 ks.toList).toList = _
  rw [putsAt_list _ _ _ (by rw [Array.length_toList]; omega), List.take_zero, List.nil_append, Nat.zero_add, List.drop_of_length_le (by rw [Array.length_toList, Array.length_toList]; omega), List.append_nil])) u (by show 0 + ks.size ≤ cs.size; omega) hi h1 hK
end
section
variable {w0 w : World} {L L' R F : List HProp} {b : Nat} {ops : Array Oper} {rest : List Oper} {a : Act} {Q : Exit → Act → World → Prop}
variable {dst : Option Tmp} {t T : TypeId} {pos : String} {after : Array Edge} {x y : Operand} {cs : Array Value} {v : Value} {e : Frm.Ent} {da : Option Addr} {dn dc : Nat}
theorem wl_buildE (hs : Sat w0 w L) (hy : a.eval x = .agg (entA e (.slice da dn dc))) (hk : e.key.length = 32)
  (hK : ∀ b w', Sat w0 w' (pt b (.cells (entA e (.slice da dn dc)) 27 (0,0)) :: L) → wpList Tryz.prog ops Q rest (a.put dst (.slice (some ⟨b, 0, none⟩) 1 1)) w') :
  wpList Tryz.prog ops Q (⟨dst, .buildSlice 33 1 #[(0, x)], t, pos, after, none⟩ :: rest) a w :=
 wl_build1 (e := 27) (sz := 34) (by' := 64) kRz hs hy rfl (entA_size _ _ hk) dCz hK
theorem at_buildE (h : Stop (wpList Tryz.prog ops Q (⟨dst, .buildSlice 33 1 #[(0, x)], t, pos, after, none⟩ :: rest) a w)) : wpList Tryz.prog ops Q (⟨dst, .buildSlice 33 1 #[(0, x)], t, pos, after, none⟩ :: rest) a w := h.out
theorem wl_loadEs {o : Nat} (hs : Sat w0 w L) (hx : a.eval x = .pointer (some ⟨b, o, none⟩)) (p : Pick (pt b (.cells cs T (0,0))) L R) (hk : e.key.length = 32) (hv : ∀ j v, (entL e (.slice da dn dc))[j]? = some v → cs[o + j]? = some v)
  (h : wpList Tryz.prog ops Q rest (a.put dst (.agg (entA e (.slice da dn dc)))) w) : wpList Tryz.prog ops Q (⟨dst, .load 27 x, t, pos, after, none⟩ :: rest) a w :=
 wl_loadN (entL e (.slice da dn dc)) hs hx p hv Tryz.underlying27 rfl (by rw [entL_len e _ hk]; exact infoEntSize) h
theorem entsL_one (e : Frm.Ent) (dv : Value) : entsL [(e, dv)] = (entA e dv).toList := by unfold entsL entA; simp
theorem ro_one (h : e.key.length = 32) : Ro w0 (pt b (.cells (entA e (.slice da dn dc)) T (0,0)) :: F) (rdsl 34 (.slice (some ⟨b, 0, none⟩) 1 1) (entsL [(e, .slice da dn dc)])) := fun w hw => by
 rw [entsL_one]
 exact ⟨_, 1, 1, rfl, by rw [Array.length_toList, entA_size _ _ h], fun j y hj => ⟨_, rfl, by rw [add_zero_lit]; exact hw.cellAt j y (by simpa using hj)⟩⟩
theorem few_one {fs : List (Frm.Ent × Value)} {n long : Nat} (h : fs.map (·.1) = Frm.few [e] (n + 1) long) : ∃ dv, fs = [(Frm.cutE long e, dv)] := by
 have h1 : fs.map (·.1) = [Frm.cutE long e] := by rw [h]; simp [Frm.few]
 cases fs with
 | nil => cases h1
 | cons f fs =>
  cases fs with
  | nil =>
   obtain ⟨x, dv⟩ := f
   simp only [List.map_cons, List.map_nil, List.cons.injEq, and_true] at h1
   exact ⟨dv, by rw [h1]⟩
  | cons g fs => simp at h1
theorem few_open {dv v : Value} (hk : e.key.length = 32) (h : Sat w0 w (osl 27 34 v (entsL [(e, dv)]) :: dataS [(e, dv)] :: F)) :
  ∃ b c cs da dc, v = .slice (some ⟨b, 0, none⟩) 1 c ∧ dv = .slice da e.data.length dc ∧ (∀ j y, (entL e dv)[j]? = some y → cs[0 + j]? = some y) ∧ Sat w0 w (pt b (.cells cs 27 (0,0)) :: bsl dv e.data :: F) := by
 have e1 : dataS [(e, dv)] = bsl dv e.data := by unfold dataS; exact stars_one _
 rw [e1] at h
 obtain ⟨da, dn, dc, rfl, hdn, _⟩ := Sat.rd h.pick1
 rw [bys_len, Nat.mul_one] at hdn
 subst hdn
 rcases h.osl_cases with ⟨rfl, hx, hF⟩ | ⟨b, n', cap, cs, rfl, hll, hn', hc, hcm, htk, hp⟩
 ·rw [entsL_one] at hx
  have := congrArg List.length hx
  rw [Array.length_toList, entA_size _ _ hk] at this
  cases this
 ·rw [entsL_one, Array.length_toList, entA_size _ _ hk] at hll
  obtain rfl : n' = 1 := by omega
  refine ⟨b, cap, cs, da, dc, rfl, rfl, fun j y hj => ?_, hp⟩
  rw [Nat.zero_add]
  refine take_get htk ?_
  rw [entsL_one]
  unfold entA
  exact hj
end
abbrev plcA (q : Seg.Plc) : Value := .agg #[.int .i64 q.seg, .int .i64 q.at_, .int .i64 q.size]
theorem zPlace : zeroB Tryz.prog 54 = some (.agg #[.int .i64 0, .int .i64 0, .int .i64 0]) := by kernel_rfl
structure SegBlk (l : List (Int × Int)) (n cap : Nat) (cs : Array Value) : Prop where
 len : l.length = n + 1
 le : n + 1 ≤ cap
 size : cap * 2 ≤ cs.size
 max : cap ≤ maxLen
 take : cs.toList.take ((n + 1) * 2) = segw l
theorem segw_set (l : List (Int × Int)) (s : Int × Int) (z : Int) : (segw (l ++ [s])).set (l.length * 2 + 1) (.int .i64 z) = segw (l ++ [(s.1, z)]) := by
 rw [segw_app, segw_app]
 rw [List.set_append_right _ _ (by rw [segw_len]; omega), segw_len, show l.length * 2 + 1 - 2 * l.length = 1 by omega]
 rfl
theorem set_take {α : Type} (l : List α) (k i : Nat) (x : α) (h : i < k) : (l.set i x).take k = (l.take k).set i x := by
 rw [List.take_set]
section
variable {w0 w : World} {F R : List HProp} {v bv dv x lv : Value} {q p m K : Nat} {L : Seg.Log} {M : Med} {s : Int × Int}
theorem seg_block (hl : L.l.getLast? = some s) (h : Sat w0 w (LogRaw p m L lv ++ F)) :
  ∃ bk n cap cs, lv = .slice (some ⟨bk, 0, none⟩) (n + 1) cap ∧ SegBlk L.l n cap cs ∧ cs[n * 2]? = some (.int .i64 s.1) ∧ cs[n * 2 + 1]? = some (.int .i64 s.2) ∧
   Sat w0 w (logPt p m L (.slice (some ⟨bk, 0, none⟩) (n + 1) cap) :: pt bk (.cells cs 135 (0,0)) :: F) := by
 rw [List.getLast?_eq_getElem?] at hl
 have hlt := (List.getElem?_eq_some_iff.1 hl).1
 obtain ⟨n, hn⟩ : ∃ n, L.l.length = n + 1 := ⟨L.l.length - 1, by omega⟩
 rw [hn, Nat.add_sub_cancel] at hl
 obtain ⟨h1, h2⟩ := segw_at _ _ _ hl
 have hS : Sat w0 w (osl 135 2 lv (segw L.l) :: logPt p m L lv :: F) := h.pick1
 rcases hS.osl_cases with ⟨rfl, hx, _⟩ | ⟨b, n', cap, cs, rfl, hll, hn', hc, hcm, htk, hp⟩
 ·rw [hx] at h1; simp at h1
 ·rw [segw_len, hn] at hll
  obtain rfl : n' = n + 1 := by omega
  refine ⟨b, n, cap, cs, rfl, ⟨hn, hn', hc, hcm, htk⟩, ?_, ?_, hp.pick1⟩
  ·rw [Nat.mul_comm]; exact take_get htk h1
  ·rw [Nat.mul_comm]; exact take_get htk h2
theorem seg_keep {bk n cap : Nat} {cs : Array Value} (hb : SegBlk L.l n cap cs) (h : Sat w0 w (pt bk (.cells cs 135 (0,0)) :: R)) :
  Sat w0 w (osl 135 2 (.slice (some ⟨bk, 0, none⟩) (n + 1) cap) (segw L.l) :: R) :=
 Sat.osl_of_pt h (by rw [segw_len, hb.len]; omega) hb.le hb.size hb.max hb.take
theorem seg_close {bk n cap : Nat} {cs : Array Value} (hl : L.l.getLast? = some s) (hb : SegBlk L.l n cap cs) (z : Int)
  (h : Sat w0 w (pt bk (.cells (putsAt cs (n * 2 + 1) [.int .i64 z]) 135 (0,0)) :: R)) :
  Sat w0 w (osl 135 2 (.slice (some ⟨bk, 0, none⟩) (n + 1) cap) (segw (L.l.dropLast ++ [(s.1, z)])) :: R) := by
 have e := Seg.last_split hl
 have hlen := Seg.last_len hl
 have hn := hb.len
 refine Sat.osl_of_pt h ?_ hb.le ?_ hb.max ?_
 ·rw [segw_len, List.length_append, List.length_singleton]; omega
 ·rw [putsAt_size]; exact hb.size
 ·simp only [putsAt, Array.toList_setIfInBounds]
  rw [set_take _ _ _ _ (by omega), hb.take, e, List.dropLast_append_cons, show n = L.l.dropLast.length by omega]
  simp only [List.dropLast_singleton, List.append_nil]
  exact segw_set _ _ _
set_option maxRecDepth 20000 in
theorem grow_c (hl : L.l.getLast? = some s) (hs : 0 ≤ s.2 ∧ s.2 ≤ 33554432) (hM : M.Ok K) (hKK : K ≤ 1099511627776) (hlen : L.l.length ≤ 1048576) (b : Bs) (hbl : b.length ≤ 1073741824) (hr : Ro w0 F (rdsl 1 bv (bys b)))
  (h : Sat w0 w (LogRep p m L :: MedRep m M :: F)) :
  Calls Tryz.prog 84 #[ptr p, bv] w (Rtn fun v w' => v = .tuple #[plcA (L.grow M b).2.1, errno (L.grow M b).2.2] ∧
   Sat w0 w' (LogRep p m (L.grow M b).1.1 :: MedRep m (L.grow M b).1.2 :: F)) := by
 obtain ⟨lv, hR⟩ := LogRep.open h
 clear h
 obtain ⟨bk, n, cap, cs, rfl, hb, c0, c1, hS⟩ := seg_block hl hR
 clear hR
 obtain ⟨ba, bn, bc, rfl, hbn⟩ := ro_len hr (A := emp) (Sat.emp.2 (hS.sel 3 [] rfl rfl))
 subst hbn
 have Hg := Lib.hid (show L.grow M b = if (M.append (Seg.name s.1) b).2 = 0 then (({ L with l := L.l.dropLast ++ [(s.1, s.2 + (b.length : Int))] }, (M.append (Seg.name s.1) b).1), ⟨s.1, s.2, b.length⟩, 0)
  else ((L, (M.append (Seg.name s.1) b).1), Seg.Plc.zero, (M.append (Seg.name s.1) b).2) by unfold Seg.Log.grow; rw [hl])
 have hn := hb.len
 have Hb := Lib.hid hb; have Hr := Lib.hid hr; have Hl := Lib.hid hl; have Hs := Lib.hid hs; have Hc0 := Lib.hid c0; have Hc1 := Lib.hid c1; have Hbl := Lib.hid hbl
 have hn0 : (n : Int) < (n : Int) + 1 := by omega
 have hwn : IntKind.i64.wrap (n : Int) = (n : Int) := by rw [IntKind.wrap_i64]; omega
 have hwz : IntKind.i64.wrap (s.2 + (b.length : Int)) = s.2 + (b.length : Int) := by rw [IntKind.wrap_i64]; omega
 have Hwz := Lib.hid hwz
 clear hn hb hr hl hs c0 c1 hbl hlen hwz
 go_enter Tryz.func84, Tryz.ntmps84
 go_wp2_with (refine wl_alloc zPlace (by assumption) rfl ?_; intro q w1 hS1)
 refine wpL_begin [10, 11] (fun w' => w'.cell? ⟨p, 2, none⟩ = some (.slice (some ⟨bk, 0, none⟩) (n + 1) cap)) kRz ?_
 have hG : w1.drew.cell? ⟨p, 2, none⟩ = some (.slice (some ⟨bk, 0, none⟩) (n + 1) cap) := hS1.drew.cellP pkD 2 rfl
 refine rp 0 (hy := (yl_move evD)) (h := ?_)
 refine rp 1 (hy := (yl_nil evD)) (h := ?_)
 refine rp 2 (hy := (yl_field evD rnD)) (h := ?_)
 refine rt 3 (h := ?_)
 refine rp 4 (hy := (yl_move evD)) (h := ?_)
 refine rp 5 (hy := (yl_nil evD)) (h := ?_)
 refine rp 6 (hy := (yl_field evD rnD)) (h := ?_)
 refine rt 7 (h := ?_)
 refine rp 8 (hy := (yl_len evD rnD)) (h := ?_)
 refine rp 9 (hy := (yl_bin evD evD rnD)) (h := ?_)
 refine rp 10 (hy := (yl_index evD evD rnD)) (h := ?_)
 refine rp 11 (hy := (yl_assign evD)) (h := ?_)
 refine wpL_done kRz ?_
 clear hG
 have hS2 := hS1.drew
 generalize w1.drew = w2 at *
 clear hS1 hS
 go_wp2_with fail
 refine wpL_begin [10, 11] (fun w' => w'.cell? ⟨p, 0, none⟩ = some (ptr m) ∧ w'.cell? ⟨bk, n * 2, none⟩ = some (.int .i64 s.1)) kRz ?_
 have hG : w2.drew.cell? ⟨p, 0, none⟩ = some (ptr m) ∧ w2.drew.cell? ⟨bk, n * 2, none⟩ = some (.int .i64 s.1) := ⟨hS2.drew.cellP pkD 0 rfl, hS2.drew.cellP pkD _ Hc0.out⟩
 refine rp 0 (hy := (yl_move evD)) (h := ?_)
 refine rp 1 (hy := (yl_nil evD)) (h := ?_)
 refine rp 2 (hy := (yl_field evD rnD)) (h := ?_)
 refine rt 3 (h := ?_)
 refine rp 4 (hy := (yl_move evD)) (h := ?_)
 refine rp 5 (hy := (yl_nil evD)) (h := ?_)
 refine rp 6 (hy := (yl_field evD rnD)) (h := ?_)
 refine rt 7 (h := ?_)
 refine rp 9 (hy := (yl_move evD)) (h := ?_)
 refine rg_eff 8 evD kRz (fun K hK => ?_)
 clear hG
 (refine eff_call1 kRz evD ?_)
 refine (sname_c s.1 hS2.drew).mono ?_
 rintro e w3 ⟨v, rfl, rfl, hS3⟩
 refine hK _ _ (.inr (.inl ⟨hS3.cellP pkD 0 rfl, hS3.cellP pkD _ Hc0.out⟩)) ?_
 clear hK K
 refine rg_eff 10 evD kRz (fun K hK => ?_)
 (refine eff_call3 kRz evD evD evD ?_)
 refine (append_c hM hKK (Sat.pk (by assumption)) _ b (by first | assumption | exact Ro.op (Ro.bsl _ _) | exact Ro.os (by assumption))).mono ?_
 rintro e w4 ⟨v, rfl, rfl, hS4⟩
 refine hK _ _ (.inl rfl) ?_
 clear hK K
 refine rp 11 (hy := (yl_assign evD)) (h := ?_)
 refine wpL_done kRz ?_
 clear hS3 hS2 Hr
 generalize M.append (Seg.name s.1) b = r at *
 obtain ⟨M2, ee⟩ := r
 by_cases he : ee = 0
 ·subst he
  have hfin := Lib.hid (Hg.out.trans (if_pos rfl))
  have e1 : w4.cell? ⟨bk, n * 2 + 1, none⟩ = some (.int .i64 s.2) := hS4.cellP pkD _ Hc1.out
  have hfit := Hb.out.size; have hle := Hb.out.le
  have hst := Lib.hid (show n * 2 + 1 + (Value.int .i64 (s.2 + (b.length : Int))).cells.size ≤ cs.size by show n * 2 + 1 + 1 ≤ cs.size; omega)
  have hwz := Hwz.out
  clear hfit hle
  go_wp2_with (refine wpList_stop rFz ?_)
  refine ⟨?_⟩
  refine wl_store (b := bk) (o := n * 2 + 1) (v := .int .i64 (s.2 + (b.length : Int))) (by assumption) rFz rFz rfl upD hst.out kRz rFz ?_
  intro w5 hS5
  have e0 : w5.cell? ⟨bk, n * 2, none⟩ = some (.int .i64 s.1) := hS5.cellP pkD _ (by
   show (cs.setIfInBounds (n * 2 + 1) _)[n * 2]? = _
   rw [Array.getElem?_setIfInBounds_ne (by omega)]; exact Hc0.out)
  clear e1 hst hwz
  go_wp2_with ((with_reducible apply at_store); refine ⟨?_⟩; refine wl_store (by assumption) rFz evD (by first | (simp only [putsAt, Value.cells]; (try go_frame); first | done | rfl) | rfl) upD nLz kRz rFz ?_; intro wS hS)
  refine ⟨rfl, _, res_cell_tmp rfl (by assumption) rFz pkD Tryz.underlying54 rfl kRz, _, rfl, ?_, ?_⟩
  ·rw [hfin.out]; rfl
  ·rw [hfin.out]
   have h6 := seg_close Hl.out Hb.out _ (Sat.pk hS)
   exact LogRep.shut2 (lv := .slice (some ⟨bk, 0, none⟩) (n + 1) cap) (Sat.sb h6)
 ·have heb : (ee == 0) = false := beq_false_of_ne he
  have hfin := Lib.hid (Hg.out.trans (if_neg he))
  clear he
  go_wp2_with ((with_reducible apply at_store); refine ⟨?_⟩; refine wl_store (by assumption) rFz evD (by first | (simp only [putsAt, Value.cells]; (try go_frame); first | done | rfl) | rfl) upD nLz kRz rFz ?_; intro wS hS)
  refine ⟨rfl, _, res_cell_tmp rfl (by assumption) rFz pkD Tryz.underlying54 rfl kRz, _, rfl, ?_, ?_⟩
  ·rw [hfin.out]; rfl
  ·rw [hfin.out]
   have h6 := seg_keep Hb.out (Sat.pk hS)
   exact LogRep.shut2 (lv := .slice (some ⟨bk, 0, none⟩) (n + 1) cap) (Sat.sb h6)
end
end Go.Proofs.YtlinnpehkfbnkaaGreatDoor
namespace Go.Seg
open Go.Med
theorem Log.shut_off {L : Log} (M : Med) (h : L.on = false) : L.shut M = ((L, M), 0) := by
 unfold Log.shut
 split
 ·rfl
 ·rw [if_neg (by rw [h]; decide)]
theorem Log.Ok.last {L : Log} (h : L.Ok) (hon : L.on = true) : ∃ s, L.l.getLast? = some s := by
 cases hl : L.l.getLast? with
 | none => exact absurd (List.getLast?_eq_none_iff.1 hl) (h.on hon)
 | some s => exact ⟨s, rfl⟩
theorem Log.shut_on {L : Log} (M : Med) {s : Int × Int} (hl : L.l.getLast? = some s) (h : L.on = true) :
  L.shut M = if (M.sync (name s.1)).2 = 0 then (({ L with on := false }, (M.sync (name s.1)).1), 0) else ((L, (M.sync (name s.1)).1), (M.sync (name s.1)).2) := by
 unfold Log.shut
 rw [hl]
 simp only [h, if_true]
end Go.Seg
namespace Go.Proofs.YtlinnpehkfbnkaaGreatDoor
open Go Go.Sl Go.Med Go.MapKept Go.RowKit
section
variable {w0 w : World} {F R : List HProp} {v bv dv x lv : Value} {q p m K : Nat} {L : Seg.Log} {M : Med} {s : Int × Int}
set_option maxRecDepth 20000 in
theorem shut_c (hL : L.Ok) (hM : M.Ok K) (h : Sat w0 w (LogRep p m L :: MedRep m M :: F)) :
  Calls Tryz.prog 151 #[ptr p] w (Rtn fun v w' => v = errno (L.shut M).2 ∧ Sat w0 w' (LogRep p m (L.shut M).1.1 :: MedRep m (L.shut M).1.2 :: F)) := by
 cases hon : L.on
 ·obtain ⟨lv, hR⟩ := LogRep.open h
  refine (shut0_c hon hR).mono ?_
  rintro e w1 ⟨v, rfl, rfl, rfl⟩
  rw [Seg.Log.shut_off M hon]
  exact ⟨_, rfl, rfl, h⟩
 ·obtain ⟨s, hl⟩ := hL.last hon
  obtain ⟨lv, hR⟩ := LogRep.open h
  clear h
  have hlen := hL.len
  obtain ⟨bk, n, cap, cs, rfl, hb, c0, c1, hS⟩ := seg_block hl hR
  clear hR c1
  have hn := hb.len
  have Hg := Lib.hid (Seg.Log.shut_on M hl hon)
  have Hb := Lib.hid hb; have Hl := Lib.hid hl; have Hc0 := Lib.hid c0
  have hn0 : (n : Int) < (n : Int) + 1 := by omega
  have hwn : IntKind.i64.wrap (n : Int) = (n : Int) := by rw [IntKind.wrap_i64]; omega
  have e3 : w.cell? ⟨p, 3, none⟩ = some (.bool true) := hS.cellP pkD 3 (by rw [← hon]; rfl)
  clear hn hb hl c0 hlen hon
  go_enter Tryz.func151, Tryz.ntmps151
  go_wp2_with fail
  refine wpL_begin [18, 19] (fun w' => w'.cell? ⟨p, 0, none⟩ = some (ptr m) ∧ w'.cell? ⟨p, 2, none⟩ = some (.slice (some ⟨bk, 0, none⟩) (n + 1) cap) ∧ w'.cell? ⟨bk, n * 2, none⟩ = some (.int .i64 s.1)) kRz ?_
  have hG : w.drew.cell? ⟨p, 0, none⟩ = some (ptr m) ∧ w.drew.cell? ⟨p, 2, none⟩ = some (.slice (some ⟨bk, 0, none⟩) (n + 1) cap) ∧ w.drew.cell? ⟨bk, n * 2, none⟩ = some (.int .i64 s.1) := ⟨hS.drew.cellP pkD 0 rfl, hS.drew.cellP pkD 2 rfl, hS.drew.cellP pkD _ Hc0.out⟩
  refine rp 0 (hy := (yl_move evD)) (h := ?_)
  refine rp 1 (hy := (yl_nil evD)) (h := ?_)
  refine rp 2 (hy := (yl_field evD rnD)) (h := ?_)
  refine rt 3 (h := ?_)
  refine rp 4 (hy := (yl_move evD)) (h := ?_)
  refine rp 5 (hy := (yl_nil evD)) (h := ?_)
  refine rp 6 (hy := (yl_field evD rnD)) (h := ?_)
  refine rt 7 (h := ?_)
  refine rp 8 (hy := (yl_move evD)) (h := ?_)
  refine rp 9 (hy := (yl_nil evD)) (h := ?_)
  refine rp 10 (hy := (yl_field evD rnD)) (h := ?_)
  refine rt 11 (h := ?_)
  refine rp 12 (hy := (yl_len evD rnD)) (h := ?_)
  refine rp 13 (hy := (yl_bin evD evD rnD)) (h := ?_)
  refine rp 14 (hy := (yl_index evD evD rnD)) (h := ?_)
  refine rp 15 (hy := (yl_field evD rnD)) (h := ?_)
  refine rt 16 (h := ?_)
  clear hG e3
  refine rg_eff 17 evD kRz (fun K hK => ?_)
  (refine eff_call1 kRz evD ?_)
  refine (sname_c s.1 hS.drew).mono ?_
  rintro e w3 ⟨v, rfl, rfl, hS3⟩
  refine hK _ _ (.inr (.inl ⟨hS3.cellP pkD 0 rfl, hS3.cellP pkD 2 rfl, hS3.cellP pkD _ Hc0.out⟩)) ?_
  clear hK K
  refine rg_eff 18 evD kRz (fun K hK => ?_)
  (refine eff_call2 kRz evD evD ?_)
  refine (sync_c hM (Sat.pk (by assumption)) _).mono ?_
  rintro e w4 ⟨v, rfl, rfl, hS4⟩
  refine hK _ _ (.inl rfl) ?_
  clear hK K
  refine rp 19 (hy := (yl_assign evD)) (h := ?_)
  refine wpL_done kRz ?_
  clear hS3 hS
  generalize M.sync (Seg.name s.1) = r at *
  obtain ⟨M2, ee⟩ := r
  by_cases he : ee = 0
  ·subst he
   have hfin := Lib.hid (Hg.out.trans (if_pos rfl))
   go_wp2_with ((with_reducible apply at_store); refine ⟨?_⟩; refine wl_store (by assumption) rFz evD (by first | (simp only [putsAt, Value.cells]; (try go_frame); first | done | rfl) | rfl) upD nLz kRz rFz ?_; intro wS hS)
   go_ret
   refine ⟨errno 0, rfl, by rw [hfin.out], ?_⟩
   rw [hfin.out]
   have h6 := seg_keep Hb.out (Sat.pk hS)
   exact LogRep.shut2 (lv := .slice (some ⟨bk, 0, none⟩) (n + 1) cap) (Sat.sb h6)
  ·have heb : (ee == 0) = false := beq_false_of_ne he
   have hfin := Lib.hid (Hg.out.trans (if_neg he))
   clear he
   go_wp2_with ((with_reducible apply at_store); refine ⟨?_⟩; refine wl_store (by assumption) rFz evD (by first | (simp only [putsAt, Value.cells]; (try go_frame); first | done | rfl) | rfl) upD nLz kRz rFz ?_; intro wS hS)
   go_ret
   refine ⟨errno ee, rfl, by rw [hfin.out], ?_⟩
   rw [hfin.out]
   have h6 := seg_keep Hb.out (Sat.pk hS4)
   exact LogRep.shut2 (lv := .slice (some ⟨bk, 0, none⟩) (n + 1) cap) (Sat.sb h6)
end
end Go.Proofs.YtlinnpehkfbnkaaGreatDoor
namespace Go.Seg
open Go.Med
theorem Log.shut_med {L : Log} {M : Med} {K : Nat} (h : M.Ok K) : (L.shut M).1.2.Ok (K + 1) := by
 unfold Log.shut
 split; · exact h.mono (Nat.le_succ K)
 split
 ·split <;> exact h.sync _
 ·exact h.mono (Nat.le_succ K)
theorem Log.begin_eq (L : Log) (M : Med) (b : Bs) : L.begin M b = if (L.shut M).2 = 0 then (L.shut M).1.1.begin1 (L.shut M).1.2 b else ((L.shut M).1, Plc.zero, (L.shut M).2) := rfl
theorem name_size (n : Int) : (name n).size ≤ 9223372036854775807 := by
 unfold name
 split
 ·decide
 ·show (lead ++ digs n.toNat 8).toArray.size ≤ _
  rw [List.size_toArray, List.length_append, digs_len]; decide
end Go.Seg
namespace Go.Proofs.YtlinnpehkfbnkaaGreatDoor
open Go Go.Sl Go.Med Go.MapKept Go.RowKit
section
variable {w0 w : World} {F R : List HProp} {v bv dv x lv : Value} {q p m K : Nat} {L : Seg.Log} {M : Med} {s : Int × Int}
theorem lnext_c (hL : L.Ok) (h : Sat w0 w (LogRep p m L :: F)) :
  Calls Tryz.prog 152 #[ptr p] w (Rtn fun v w' => v = .int .i64 L.next ∧ Sat w0 w' (LogRep p m L :: F)) := by
 obtain ⟨lv, hR⟩ := LogRep.open h
 refine (snext_c hL.len hL.nums hR).mono ?_
 rintro e w1 ⟨v, rfl, rfl, hS⟩
 exact ⟨_, rfl, rfl, LogRep.shut2 hS⟩
theorem segw_snoc (l : List (Int × Int)) (n z : Int) : segw l ++ [.int .i64 n, .int .i64 z] = segw (l ++ [(n, z)]) := by rw [segw_app]; rfl
set_option maxRecDepth 20000 in
theorem begin_c (hL : L.Ok) (hM : M.Ok K) (hKK : K + 4 ≤ 1099511627776) (b : Bs) (hb0 : b ≠ []) (hbl : b.length ≤ 16777216) (hr : Ro w0 F (rdsl 1 bv (bys b)))
  (h : Sat w0 w (LogRep p m L :: MedRep m M :: F)) :
  Calls Tryz.prog 85 #[ptr p, bv] w (Rtn fun v w' => v = .tuple #[plcA (L.begin M b).2.1, errno (L.begin M b).2.2] ∧
   Sat w0 w' (LogRep p m (L.begin M b).1.1 :: MedRep m (L.begin M b).1.2 :: F)) := by
 obtain ⟨ba, bn, bc, rfl, hbn⟩ := ro_len hr (A := emp) (Sat.emp.2 (h.sel 2 [] rfl rfl))
 subst hbn
 obtain ⟨i, hi, hz0, hz1, hz2⟩ := info8p
 have Hg := Lib.hid (Seg.Log.begin_eq L M b)
 have HM := Lib.hid (Seg.Log.shut_med (L := L) hM)
 have HL := Lib.hid (hL.shut M)
 have Hr := Lib.hid hr; have Hb0 := Lib.hid hb0; have Hbl := Lib.hid hbl
 clear hr hb0 hbl
 go_enter Tryz.func85, Tryz.ntmps85
 go_wp2_with (refine wl_alloc zPlace (by assumption) rfl ?_; intro q w1 hS1)
 refine (shut_c hL hM (Sat.sb (by assumption))).mono ?_
 rintro e w2 ⟨v, rfl, rfl, hS2⟩
 clear hS1 h hL hM
 generalize L.shut M = S at *
 obtain ⟨⟨L1, M1⟩, e1⟩ := S
 by_cases he : e1 = 0
 rotate_left
 ·have heb : (e1 == 0) = false := beq_false_of_ne he
  have hfin := Lib.hid (Hg.out.trans (if_neg he))
  clear he
  go_wp2_with ((with_reducible apply at_store); refine ⟨?_⟩; refine wl_store (by assumption) rFz evD (by first | (simp only [putsAt, Value.cells]; (try go_frame); first | done | rfl) | rfl) upD nLz kRz rFz ?_; intro wS hS)
  refine ⟨rfl, _, res_cell_tmp rfl (by assumption) rFz pkD Tryz.underlying54 rfl kRz, _, rfl, ?_, ?_⟩
  ·rw [hfin.out]; rfl
  ·rw [hfin.out]; exact Sat.sb hS
 subst he
 have H1 := Lib.hid (Hg.out.trans (if_pos rfl))
 clear Hg
 go_wp2_with fail
 refine (lnext_c HL.out (Sat.pk (by assumption))).mono ?_
 rintro e w3 ⟨v, rfl, rfl, hS3⟩
 clear hS2
 have hs1 := Lib.hid HL.out.next
 have hfr := Lib.hid HL.out.fresh
 have hln := Lib.hid HL.out.len
 unfold Seg.Log.begin1 at H1
 have Hnm := Lib.hid (Seg.name_size L1.next)
 by_cases hn : 1048576 ≤ L1.next
 ·have hfin := Lib.hid (H1.out.trans (if_pos hn))
  generalize L1.next = n at *
  go_wp2_with ((with_reducible apply at_store); refine ⟨?_⟩; refine wl_store (by assumption) rFz evD (by first | (simp only [putsAt, Value.cells]; (try go_frame); first | done | rfl) | rfl) upD nLz kRz rFz ?_; intro wS hS)
  refine ⟨rfl, _, res_cell_tmp rfl (by assumption) rFz pkD Tryz.underlying54 rfl kRz, _, rfl, ?_, ?_⟩
  ·rw [hfin.out]; rfl
  ·rw [hfin.out]; exact Sat.sb hS
 have H2 := Lib.hid (H1.out.trans (if_neg hn))
 clear H1
 have Hn := Lib.hid hn
 have hnd : ¬ 1048576 ≤ L1.next := hn
 clear hn
 have hnm := sname_c L1.next hS3
 generalize hnn : L1.next = n at *
 have Hnn := Lib.hid hnn
 clear hnn
 go_wp2_with fail
 refine hnm.mono ?_
 rintro e w4 ⟨v, rfl, rfl, hS4⟩
 clear hnm hS3 hnd
 generalize Seg.name n = nm at *
 obtain ⟨lv, hR⟩ := LogRep.open2 (Sat.pk (by assumption))
 have e0 : w4.cell? ⟨p, 0, none⟩ = some (ptr m) := hR.cellP pkD 0 rfl
 go_wp2_with fail
 refine (create_c HM.out (by omega) (Sat.pk (by assumption)) nm Hnm.out).mono ?_
 rintro e w5 ⟨v, rfl, rfl, hS5⟩
 have HM2 := Lib.hid (HM.out.create nm)
 clear hS4 hR e0
 generalize M1.create nm = C at *
 obtain ⟨M2, e2⟩ := C
 by_cases he : e2 = 0
 rotate_left
 ·have heb : (e2 == 0) = false := beq_false_of_ne he
  have hfin := Lib.hid (H2.out.trans (if_pos he))
  clear he
  go_wp2_with ((with_reducible apply at_store); refine ⟨?_⟩; refine wl_store (by assumption) rFz evD (by first | (simp only [putsAt, Value.cells]; (try go_frame); first | done | rfl) | rfl) upD nLz kRz rFz ?_; intro wS hS)
  refine ⟨rfl, _, res_cell_tmp rfl (by assumption) rFz pkD Tryz.underlying54 rfl kRz, _, rfl, ?_, ?_⟩
  ·rw [hfin.out]; rfl
  ·rw [hfin.out]; exact LogRep.shut2 (lv := lv) (Sat.sb hS)
 subst he
 have H3 := Lib.hid (H2.out.trans (if_neg (fun h => h rfl)))
 clear H2
 go_wp2_with fail
 refine wpL_begin [9, 10] (fun w' => w'.cell? ⟨p, 0, none⟩ = some (ptr m)) kRz ?_
 have hG : w5.drew.cell? ⟨p, 0, none⟩ = some (ptr m) := hS5.drew.cellP pkD 0 rfl
 refine rp 0 (hy := (yl_move evD)) (h := ?_)
 refine rp 1 (hy := (yl_nil evD)) (h := ?_)
 refine rp 2 (hy := (yl_field evD rnD)) (h := ?_)
 refine rt 3 (h := ?_)
 refine rp 4 (hy := (yl_move evD)) (h := ?_)
 refine rp 7 (hy := (yl_move evD)) (h := ?_)
 refine rg_eff 5 evD kRz (fun K hK => ?_)
 go_simp
 have hB1 := hS5.drew.alloc (.cells #[.int .u8 72, .int .u8 79, .int .u8 65, .int .u8 82, .int .u8 68, .int .u8 83, .int .u8 69, .int .u8 71] 5)
 refine hK _ _ (.inr (.inl (hB1.cellP pkD 0 rfl))) ?_
 clear hK K hG hB1
 refine rg_eff 6 evD kRz (fun K hK => ?_)
 have hcv : (convert 25 25 (.slice (some ⟨w5.heap.size, 0, none⟩) 8 8)).run Tryz.prog ((w5.alloc (.cells #[.int .u8 72, .int .u8 79, .int .u8 65, .int .u8 82, .int .u8 68, .int .u8 83, .int .u8 69, .int .u8 71] 5)).drew) = .ok (.slice (some ⟨w5.heap.size, 0, none⟩) 8 8) ((w5.alloc (.cells #[.int .u8 72, .int .u8 79, .int .u8 65, .int .u8 82, .int .u8 68, .int .u8 83, .int .u8 69, .int .u8 71] 5 (8, 9))).drew) :=
  Lib.run_convert_bytes_const (P := Tryz.prog) w5.drew 25 5 #[.int .u8 72, .int .u8 79, .int .u8 65, .int .u8 82, .int .u8 68, .int .u8 83, .int .u8 69, .int .u8 71] 8 8 Tryz.underlying25 Tryz.underlying5
 have hB := (hS5.alloc (.cells #[.int .u8 72, .int .u8 79, .int .u8 65, .int .u8 82, .int .u8 68, .int .u8 83, .int .u8 69, .int .u8 71] 5 (8, 9))).drew
 go_simp
 refine hK _ _ (.inr (.inl (hB.cellP pkD 0 rfl))) ?_
 clear hK K
 have hrd := Hr.out _ (hB.sb)
 have hold : rdsl 1 (.slice (some ⟨w5.heap.size, 0, none⟩) 8 8) (bys Seg.mag) ((w5.alloc (.cells #[.int .u8 72, .int .u8 79, .int .u8 65, .int .u8 82, .int .u8 68, .int .u8 83, .int .u8 69, .int .u8 71] 5 (8, 9))).drew) := by
  refine ⟨_, 8, 8, rfl, rfl, fun j x hj => ⟨_, rfl, ?_⟩⟩
  rw [add_zero_lit]
  have hjl : j < Seg.mag.length := by
   have := (List.getElem?_eq_some_iff.1 hj).1
   rw [bys_len] at this; exact this
  have hx := (mrow_set (l := Seg.mag) hB hjl 0).1
  unfold bys at hj
  rw [List.getElem?_map, List.getElem?_eq_getElem hjl] at hj
  cases hj
  exact hx
 have hy0 : bys b ≠ [] := by
  intro h
  apply Hb0.out
  unfold bys at h
  exact List.map_eq_nil_iff.1 h
 have h63 : (bys Seg.mag).length + (bys b).length ≤ maxLen := by rw [bys_len, bys_len]; have := Hbl.out; unfold maxLen Seg.mag; simp; omega
 have hby : ((bys Seg.mag).length + (bys b).length) * i.bytes ≤ 140737488355328 := by rw [bys_len, bys_len, hz2]; have := Hbl.out; unfold Seg.mag; simp; omega
 refine rg_eff 8 evD kRz (fun K hK => ?_)
 refine step_append_fresh (w0 := w0) (xs := bys Seg.mag) (b := w5.heap.size) (n := 8) (cap := 8) rFz _ _ _ rFz _ i _ Tryz.underlying25 hi hz0 hz1 rFz rfl (Nat.le_refl _) hold hB.drop rFz rFz hrd hy0 h63 hby ?_
 intro b4 n4 k4 w6 hS6
 clear hcv hrd hold hy0 h63 hby hB
 have hS6 : Sat w0 w6 (bsl (.slice (some ⟨b4, 0, none⟩) n4 k4) (Seg.mag ++ b) :: MedRep m M2 :: pt q (.cells #[.int .i64 0, .int .i64 0, .int .i64 0] 54) :: logPt p m L1 lv :: osl 135 2 lv (segw L1.l) :: F) := by
  have e : bys Seg.mag ++ bys b = bys (Seg.mag ++ b) := by unfold bys; rw [List.map_append]
  rw [e] at hS6
  exact Sat.sb hS6
 refine hK _ _ (.inr (.inl (hS6.cellP pkD 0 rfl))) ?_
 clear hK K hS5
 refine rg_eff 9 evD kRz (fun K hK => ?_)
 (refine eff_call3 kRz evD evD evD ?_)
 refine (append_c HM2.out (by omega) (Sat.pk (by assumption)) nm (Seg.mag ++ b) (by first | assumption | exact Ro.op (Ro.bsl _ _) | exact Ro.os (by assumption))).mono ?_
 rintro e w7 ⟨v, rfl, rfl, hS7⟩
 refine hK _ _ (.inl rfl) ?_
 clear hK K
 refine rp 10 (hy := (yl_assign evD)) (h := ?_)
 refine wpL_done kRz ?_
 clear hS6
 have HM3 := Lib.hid (HM2.out.append nm (Seg.mag ++ b))
 generalize M2.append nm (Seg.mag ++ b) = D at *
 obtain ⟨M3, e3⟩ := D
 by_cases he : e3 = 0
 ·subst he
  have hfin := Lib.hid (H3.out.trans (if_pos rfl))
  have c2 : w7.cell? ⟨p, 2, none⟩ = some lv := hS7.cellP pkD 2 rfl
  have hwl : IntKind.i64.wrap (8 + (b.length : Int)) = 8 + (b.length : Int) := by rw [IntKind.wrap_i64]; have := Hbl.out; omega
  obtain ⟨ii, hii, hy0, hy1, hy2⟩ := info_parts infoSeg
  have h7 := hS7.alloc (.cells #[.int .i64 n, .int .i64 (8 + (b.length : Int))] 135)
  have hoc : ∀ u ∈ (#[.int .i64 n, .int .i64 (8 + (b.length : Int))] : Array Value).toList, u.oneCell' = true := by
   intro u hu
   simp only [List.mem_cons, List.not_mem_nil, or_false] at hu
   rcases hu with rfl | rfl <;> rfl
  have h63 : (segw L1.l).length + 2 ≤ maxLen := by rw [segw_len]; have := hln.out; unfold maxLen; omega
  have hby : ((segw L1.l).length + 2) * ii.bytes ≤ 140737488355328 := by rw [segw_len, hy2]; have := hln.out; omega
  have h8 : Sat w0 _ (osl 135 2 lv (segw L1.l) :: logPt p m L1 lv :: pt q (.cells #[.int .i64 0, .int .i64 0, .int .i64 0] 54) :: MedRep m M3 :: F) := h7.sb
  have hwf : IntKind.i64.wrap (L1.fresh + 1) = L1.fresh + 1 := by rw [IntKind.wrap_i64]; have := hfr.out; have := hln.out; omega
  go_wp2_with (first
   | (at_builtin; refine wpList_append (w0 := w0) rFz _ _ _ rFz _ ii _ Tryz.underlying131 hii hy0 hy1 rFz (by omega) rFz rFz hoc h8 (rdsl_new _ _ _ 2 1 1 rFz) h63 hby ?_; intro v2 w8 hS8 hne; obtain ⟨ab, an, ac, rfl⟩ := hne (by simp); clear h8 h7 hS7 c2 hoc h63 hby hne)
   | ((with_reducible apply at_load); refine ⟨?_⟩; refine wl_load1 (by assumption) rFz pkD nLz evD kRz ?_) | ((with_reducible apply at_store); refine ⟨?_⟩; refine wl_store (by assumption) rFz evD (by first | (simp only [putsAt, Value.cells]; (try go_frame); first | done | rfl) | rfl) upD nLz kRz rFz ?_; intro wS hS))
  refine ⟨rfl, _, res_cell_tmp rfl (by assumption) rFz pkD Tryz.underlying54 rfl kRz, _, rfl, ?_, ?_⟩
  ·rw [hfin.out]; rfl
  ·rw [hfin.out]
   have e : segw L1.l ++ [.int .i64 n, .int .i64 (8 + (b.length : Int))] = segw (L1.l ++ [(n, 8 + (b.length : Int))]) := segw_snoc _ _ _
   rw [e] at hS
   exact LogRep.shut2 (lv := .slice (some ⟨ab, 0, none⟩) an ac) (Sat.sb hS)
 have H4 := Lib.hid (H3.out.trans (if_neg he))
 have heb : (e3 == 0) = false := beq_false_of_ne he
 clear he H3
 by_cases he : e3 = 11
 ·subst he
  have H5 := Lib.hid (H4.out.trans (if_pos rfl))
  have e0 : w7.cell? ⟨p, 0, none⟩ = some (ptr m) := hS7.cellP pkD 0 rfl
  go_wp2_with fail
  refine (remove_c HM3.out (by omega) (Sat.pk (by assumption)) nm).mono ?_
  rintro e w8 ⟨v, rfl, rfl, hS8⟩
  clear hS7 e0
  generalize M3.remove nm = E at *
  obtain ⟨M4, e4⟩ := E
  by_cases he : e4 = 0
  ·subst he
   go_wp2_with ((with_reducible apply at_store); refine ⟨?_⟩; refine wl_store (by assumption) rFz evD (by first | (simp only [putsAt, Value.cells]; (try go_frame); first | done | rfl) | rfl) upD nLz kRz rFz ?_; intro wS hS)
   refine ⟨rfl, _, res_cell_tmp rfl (by assumption) rFz pkD Tryz.underlying54 rfl kRz, _, rfl, ?_, ?_⟩
   ·rw [H5.out]; rfl
   ·rw [H5.out]; exact LogRep.shut2 (lv := lv) (Sat.sb hS)
  ·have heb : (e4 == 0) = false := beq_false_of_ne he
   have H6 := Lib.hid (H5.out.trans (by rw [if_neg he]))
   clear he
   go_wp2_with ((with_reducible apply at_store); refine ⟨?_⟩; refine wl_store (by assumption) rFz evD (by first | (simp only [putsAt, Value.cells]; (try go_frame); first | done | rfl) | rfl) upD nLz kRz rFz ?_; intro wS hS)
   refine ⟨rfl, _, res_cell_tmp rfl (by assumption) rFz pkD Tryz.underlying54 rfl kRz, _, rfl, ?_, ?_⟩
   ·rw [H6.out]; rfl
   ·rw [H6.out]; exact LogRep.shut2 (lv := lv) (Sat.sb hS)
 ·have hfin := Lib.hid (H4.out.trans (if_neg he))
  have heb2 : (e3 == 11) = false := beq_false_of_ne he
  clear he H4
  go_wp2_with ((with_reducible apply at_store); refine ⟨?_⟩; refine wl_store (by assumption) rFz evD (by first | (simp only [putsAt, Value.cells]; (try go_frame); first | done | rfl) | rfl) upD nLz kRz rFz ?_; intro wS hS)
  refine ⟨rfl, _, res_cell_tmp rfl (by assumption) rFz pkD Tryz.underlying54 rfl kRz, _, rfl, ?_, ?_⟩
  ·rw [hfin.out]; rfl
  ·rw [hfin.out]; exact LogRep.shut2 (lv := lv) (Sat.sb hS)
end
end Go.Proofs.YtlinnpehkfbnkaaGreatDoor
namespace Go.Seg
open Go.Med
theorem encode_ne (x : Frm.Ent) (h : (Frm.encode x).2 = 0) : (Frm.encode x).1 ≠ [] := by
 unfold Frm.encode at *
 split at h
 ·rename_i hc; exact absurd h hc
 ·rename_i hc
  rw [if_neg hc]
  intro e
  have := congrArg List.length e
  simp [Frm.le_len] at this
theorem Log.append_bad {L : Log} {M : Med} {x : Frm.Ent} (h : (Frm.encode x).2 ≠ 0) : L.append M x = ((L, M), Plc.zero, (Frm.encode x).2) := by
 unfold Log.append; rw [if_pos h]
theorem Log.append_grow {L : Log} {M : Med} {x : Frm.Ent} (h : (Frm.encode x).2 = 0) (hf : L.fits (Frm.encode x).1.length = true) : L.append M x = L.grow M (Frm.encode x).1 := by
 unfold Log.append; rw [if_neg (fun hh => hh h), if_pos hf]
theorem Log.append_begin {L : Log} {M : Med} {x : Frm.Ent} (h : (Frm.encode x).2 = 0) (hf : L.fits (Frm.encode x).1.length = false) : L.append M x = L.begin M (Frm.encode x).1 := by
 unfold Log.append; rw [if_neg (fun hh => hh h), if_neg (by rw [hf]; decide)]
theorem Log.fits_off {L : Log} (n : Nat) (h : L.on = false) : L.fits n = false := by unfold Log.fits; rw [h]; rfl
theorem Log.fits_on {L : Log} {s : Int × Int} (n : Nat) (h : L.on = true) (hl : L.l.getLast? = some s) : L.fits n = decide (s.2 + n ≤ L.limit) := by
 unfold Log.fits; rw [h, hl]; rfl
end Go.Seg
namespace Go.Proofs.YtlinnpehkfbnkaaGreatDoor
open Go Go.Sl Go.Med Go.MapKept Go.RowKit
section
variable {w0 w : World} {F R : List HProp} {v bv dv x lv : Value} {q p m K : Nat} {L : Seg.Log} {M : Med} {s : Int × Int}
theorem seg_block2 (hl : L.l.getLast? = some s) (h : Sat w0 w (logPt p m L lv :: osl 135 2 lv (segw L.l) :: F)) :
  ∃ bk n cap cs, lv = .slice (some ⟨bk, 0, none⟩) (n + 1) cap ∧ SegBlk L.l n cap cs ∧ cs[n * 2]? = some (.int .i64 s.1) ∧ cs[n * 2 + 1]? = some (.int .i64 s.2) ∧
   Sat w0 w (logPt p m L (.slice (some ⟨bk, 0, none⟩) (n + 1) cap) :: pt bk (.cells cs 135 (0,0)) :: F) := seg_block hl h
set_option maxRecDepth 20000 in
theorem lappend_c (e : Frm.Ent) (hk : e.key.length = 32) (da : Option Addr) (dc : Nat) (hd : Ro w0 F (rdsl 1 (.slice da e.data.length dc) (bys e.data))) (hH : Ro w0 F Half) (hLd : e.data.length ≤ 1099511627)
  (hL : L.Ok) (hM : M.Ok K) (hKK : K + 4 ≤ 1099511627776) (h : Sat w0 w (LogRep p m L :: MedRep m M :: F)) :
  Calls Tryz.prog 18 #[ptr p, .agg (entA e (.slice da e.data.length dc))] w (Rtn fun v w' => v = .tuple #[plcA (L.append M e).2.1, errno (L.append M e).2.2] ∧
   Sat w0 w' (LogRep p m (L.append M e).1.1 :: MedRep m (L.append M e).1.2 :: F)) := by
 obtain ⟨lv, hR⟩ := LogRep.open2 h
 clear h
 have hsz := entA_size e (.slice da e.data.length dc) hk
 have Hsz := Lib.hid hsz
 have Hd := Lib.hid hd; have HH := Lib.hid hH; have Hk := Lib.hid hk; have HLd := Lib.hid hLd
 have HL := Lib.hid hL; have HM := Lib.hid hM
 have Hln := Lib.hid hL.len
 have Hel := Lib.hid (show (Frm.encode e).1.length ≤ 16425 from Seg.encode_len e hk)
 have Hne := Lib.hid (Seg.encode_ne e)
 have A0 := Lib.hid (Seg.Log.append_bad (L := L) (M := M) (x := e))
 have A1 := Lib.hid (Seg.Log.append_grow (L := L) (M := M) (x := e))
 have A2 := Lib.hid (Seg.Log.append_begin (L := L) (M := M) (x := e))
 clear hsz hd hH hk hLd hL hM
 go_enter Tryz.func18, Tryz.ntmps18
 go_wp2_with (first
  | ((with_reducible apply at_box); refine ⟨?_⟩; refine wl_box (by assumption) rFz (cs := entA e (.slice da e.data.length dc)) rfl ?_; intro q3 w1 hS1)
  | (refine wl_alloc zPlace (by assumption) rfl ?_; intro q w2 hS2))
 refine (ok_c (Sat.pk (by assumption))).mono ?_
 rintro ee w3 ⟨v, rfl, rfl, rfl⟩
 clear hS1 hR
 go_wp2_with ((with_reducible apply at_load); refine ⟨?_⟩; refine wl_loadA (by assumption) rFz pkD Tryz.underlying27 rFz (by rw [Hsz.out]; kernel_rfl) ?_)
 refine (encode_c e Hk.out da dc (by first | assumption | exact Ro.op (Ro.bsl _ _) | exact Ro.os (by assumption)) (by first | assumption | exact Ro.op (Ro.bsl _ _) | exact Ro.os (by assumption)) hS2 HLd.out).mono ?_
 rintro ee w3 ⟨v, rfl, bv, rfl, ⟨ba, bn, bc, rfl⟩, hS3⟩
 clear hS2
 generalize hE : Frm.encode e = E at *
 have HE := Lib.hid hE
 clear hE
 obtain ⟨b, e1⟩ := E
 have Hel2 : Hid (b.length ≤ 16425) := Hel
 by_cases he : e1 = 0
 rotate_left
 ·have heb : (e1 == 0) = false := beq_false_of_ne he
  have hfin := Lib.hid (A0.out he)
  clear he
  go_wp2_with ((with_reducible apply at_store); refine ⟨?_⟩; refine wl_store (by assumption) rFz evD (by first | (simp only [putsAt, Value.cells]; (try go_frame); first | done | rfl) | rfl) upD nLz kRz rFz ?_; intro wS hS)
  refine ⟨rfl, _, res_cell_tmp rfl (by assumption) rFz pkD Tryz.underlying54 rfl kRz, _, rfl, ?_, ?_⟩
  ·rw [hfin.out]; rfl
  ·rw [hfin.out]; exact LogRep.shut2 (lv := lv) (Sat.sb hS)
 subst he
 have hbn : bn = b.length := by
  obtain ⟨a', n', c', he, hl, _⟩ := Sat.rd hS3
  cases he
  rw [bys_len, Nat.mul_one] at hl
  exact hl.symm
 subst hbn
 have Hb0 := Lib.hid (Hne.out rfl)
 clear A0 Hne
 cases hon : L.on
 ·have hf := Seg.Log.fits_off b.length hon
  have hfin := Lib.hid (A2.out rfl hf)
  have c3 : w3.cell? ⟨p, 3, none⟩ = some (.bool false) := hS3.cellP pkD 3 (by rw [← hon]; rfl)
  clear hf A1 A2 hon
  go_wp2_with fail
  have hS4 := hS3.drew
  have c3' : w3.drew.cell? ⟨p, 3, none⟩ = some (.bool false) := c3
  go_region
  clear c3 c3'
  have hS5 : Sat w0 _ (LogRep p m L :: MedRep m M :: _) := LogRep.shut2 (lv := lv) (hS4.sb)
  go_wp2_with fail
  refine (begin_c HL.out HM.out hKK b Hb0.out (by have := Hel2.out; omega) (by first | assumption | exact Ro.op (Ro.bsl _ _) | exact Ro.os (by assumption)) hS5).mono ?_
  rintro ee w5 ⟨v, rfl, rfl, hS6⟩
  clear hS4 hS5 hS3
  go_wp2_with ((with_reducible apply at_store); refine ⟨?_⟩; refine wl_store (by assumption) rFz evD (by first | (simp only [putsAt, Value.cells]; (try go_frame); first | done | rfl) | rfl) upD nLz kRz rFz ?_; intro wS hS)
  refine ⟨rfl, _, res_cell_tmp rfl (by assumption) rFz pkD Tryz.underlying54 rfl kRz, _, rfl, ?_, ?_⟩
  ·rw [hfin.out]; rfl
  ·rw [hfin.out]; exact Sat.sb hS
 ·obtain ⟨s, hl⟩ := HL.out.last hon
  obtain ⟨bk, n, cap, cs, rfl, hb, c0, c1, hB⟩ := seg_block2 hl (hS3.sb)
  have hf := Seg.Log.fits_on b.length hon hl
  have hs := HL.out.sizes s (List.mem_of_getLast? hl)
  have hlim := HL.out.limit
  have hn := hb.len
  have hln := Hln.out
  have hn0 : (n : Int) < (n : Int) + 1 := by omega
  have hwn : IntKind.i64.wrap (n : Int) = (n : Int) := by rw [IntKind.wrap_i64]; omega
  have hwz : IntKind.i64.wrap (s.2 + (b.length : Int)) = s.2 + (b.length : Int) := by rw [IntKind.wrap_i64]; have := Hel2.out; omega
  have g1 : w3.drew.cell? ⟨p, 1, none⟩ = some (.int .i64 L.limit) := hB.drew.cellP pkD 1 rfl
  have g2 : w3.drew.cell? ⟨p, 2, none⟩ = some (.slice (some ⟨bk, 0, none⟩) (n + 1) cap) := hB.drew.cellP pkD 2 rfl
  have g3 : w3.drew.cell? ⟨p, 3, none⟩ = some (.bool true) := hB.drew.cellP pkD 3 (by rw [← hon]; rfl)
  have g4 : w3.drew.cell? ⟨bk, n * 2 + 1, none⟩ = some (.int .i64 s.2) := hB.drew.cellP pkD _ c1
  have Hl := Lib.hid hl; have Hb := Lib.hid hb; have Hs := Lib.hid hs
  clear hs hlim hn hln hl hb c0 c1 hon hB
  by_cases hfit : s.2 + (b.length : Int) ≤ L.limit
  ·have hfd : decide (s.2 + (b.length : Int) ≤ L.limit) = true := decide_eq_true hfit
   have hfin := Lib.hid (A1.out rfl (hf.trans hfd))
   clear hf hfd A1 A2
   go_wp2_with fail
   have hS4 := hS3.drew
   go_region
   clear g1 g2 g3 g4
   have hS5 : Sat w0 _ (LogRep p m L :: MedRep m M :: _) := LogRep.shut2 (lv := .slice (some ⟨bk, 0, none⟩) (n + 1) cap) (hS4.sb)
   go_wp2_with fail
   refine (grow_c Hl.out Hs.out HM.out (by omega) Hln.out b (by have := Hel2.out; omega) (by first | assumption | exact Ro.op (Ro.bsl _ _) | exact Ro.os (by assumption)) hS5).mono ?_
   rintro ee w5 ⟨v, rfl, rfl, hS6⟩
   clear hS4 hS5 hS3
   go_wp2_with ((with_reducible apply at_store); refine ⟨?_⟩; refine wl_store (by assumption) rFz evD (by first | (simp only [putsAt, Value.cells]; (try go_frame); first | done | rfl) | rfl) upD nLz kRz rFz ?_; intro wS hS)
   refine ⟨rfl, _, res_cell_tmp rfl (by assumption) rFz pkD Tryz.underlying54 rfl kRz, _, rfl, ?_, ?_⟩
   ·rw [hfin.out]; rfl
   ·rw [hfin.out]; exact Sat.sb hS
  ·have hfd : decide (s.2 + (b.length : Int) ≤ L.limit) = false := decide_eq_false hfit
   have hfin := Lib.hid (A2.out rfl (hf.trans hfd))
   clear hf hfd A1 A2
   go_wp2_with fail
   have hS4 := hS3.drew
   go_region
   clear g1 g2 g3 g4
   have hS5 : Sat w0 _ (LogRep p m L :: MedRep m M :: _) := LogRep.shut2 (lv := .slice (some ⟨bk, 0, none⟩) (n + 1) cap) (hS4.sb)
   go_wp2_with fail
   refine (begin_c HL.out HM.out hKK b Hb0.out (by have := Hel2.out; omega) (by first | assumption | exact Ro.op (Ro.bsl _ _) | exact Ro.os (by assumption)) hS5).mono ?_
   rintro ee w5 ⟨v, rfl, rfl, hS6⟩
   clear hS4 hS5 hS3
   go_wp2_with ((with_reducible apply at_store); refine ⟨?_⟩; refine wl_store (by assumption) rFz evD (by first | (simp only [putsAt, Value.cells]; (try go_frame); first | done | rfl) | rfl) upD nLz kRz rFz ?_; intro wS hS)
   refine ⟨rfl, _, res_cell_tmp rfl (by assumption) rFz pkD Tryz.underlying54 rfl kRz, _, rfl, ?_, ?_⟩
   ·rw [hfin.out]; rfl
   ·rw [hfin.out]; exact Sat.sb hS
end
end Go.Proofs.YtlinnpehkfbnkaaGreatDoor
namespace Go.Seg
open Go.Med
theorem Log.grow_med {L : Log} {M : Med} {K : Nat} (h : M.Ok K) (b : Bs) : (L.grow M b).1.2.Ok (K + 1) := by
 unfold Log.grow
 split; · exact h.mono (Nat.le_succ K)
 split <;> exact h.append _ _
theorem Log.begin1_med {L : Log} {M : Med} {K : Nat} (h : M.Ok K) (b : Bs) : (L.begin1 M b).1.2.Ok (K + 3) := by
 have h1 := h.create (name L.next)
 have h2 := h1.append (name L.next) (mag ++ b)
 have h3 := h2.remove (name L.next)
 unfold Log.begin1
 split; · exact h.mono (by omega)
 split; · exact h1.mono (by omega)
 split; · exact h2.mono (by omega)
 split; · exact h3
 exact h2.mono (by omega)
theorem Log.append_med {L : Log} {M : Med} {K : Nat} (h : M.Ok K) (x : Frm.Ent) : (L.append M x).1.2.Ok (K + 4) := by
 unfold Log.append
 split; · exact h.mono (by omega)
 split; · exact (Log.grow_med h _).mono (by omega)
 unfold Log.begin
 split
 ·exact Log.begin1_med (Log.shut_med h) _
 ·exact (Log.shut_med h).mono (by omega)
theorem Log.commit_eq (L : Log) (M : Med) : L.commit M = if (L.append M comEnt).2.2 ≠ 0 then ((L.append M comEnt).1, 0, (L.append M comEnt).2.2)
 else if ((L.append M comEnt).1.2.sync (name (L.append M comEnt).2.1.seg)).2 ≠ 0 then (((L.append M comEnt).1.1, ((L.append M comEnt).1.2.sync (name (L.append M comEnt).2.1.seg)).1), 0, ((L.append M comEnt).1.2.sync (name (L.append M comEnt).2.1.seg)).2)
 else if (((L.append M comEnt).1.2.sync (name (L.append M comEnt).2.1.seg)).1.syncDir).2 ≠ 0 then (((L.append M comEnt).1.1, (((L.append M comEnt).1.2.sync (name (L.append M comEnt).2.1.seg)).1.syncDir).1), 0, (((L.append M comEnt).1.2.sync (name (L.append M comEnt).2.1.seg)).1.syncDir).2)
 else (({ (L.append M comEnt).1.1 with on := false, fresh := 0 }, (((L.append M comEnt).1.2.sync (name (L.append M comEnt).2.1.seg)).1.syncDir).1), (L.append M comEnt).2.1.seg, 0) := rfl
end Go.Seg
namespace Go.Proofs.YtlinnpehkfbnkaaGreatDoor
open Go Go.Sl Go.Med Go.MapKept Go.RowKit
section
variable {w0 w : World} {F R : List HProp} {v bv dv x lv : Value} {q p m K : Nat} {L : Seg.Log} {M : Med} {s : Int × Int}
set_option maxRecDepth 20000 in
theorem lcommit_c (hH : Ro w0 F Half) (hL : L.Ok) (hM : M.Ok K) (hKK : K + 6 ≤ 1099511627776) (h : Sat w0 w (LogRep p m L :: MedRep m M :: F)) :
  Calls Tryz.prog 19 #[ptr p] w (Rtn fun v w' => v = .tuple #[.int .i64 (L.commit M).2.1, errno (L.commit M).2.2] ∧
   Sat w0 w' (LogRep p m (L.commit M).1.1 :: MedRep m (L.commit M).1.2 :: F)) := by
 have hap := lappend_c Seg.comEnt rfl none 0 (fun w _ => rdsl_nil 1 0 w) hH dCz hL hM (by omega) h
 have Hg := Lib.hid (Seg.Log.commit_eq L M)
 have HL := Lib.hid (hL.append M Seg.comEnt rfl)
 have HM := Lib.hid (Seg.Log.append_med (L := L) hM Seg.comEnt)
 have HH := Lib.hid hH
 clear hL hM h hH
 generalize L.append M Seg.comEnt = A at *
 obtain ⟨⟨L1, M1⟩, pl, e1⟩ := A
 go_enter Tryz.func19, Tryz.ntmps19
 go_wp2_with fail
 refine hap.mono ?_
 rintro e w1 ⟨v, rfl, rfl, hS1⟩
 clear hap
 by_cases he : e1 = 0
 rotate_left
 ·have heb : (e1 == 0) = false := beq_false_of_ne he
  have hfin := Lib.hid (Hg.out.trans (if_pos he))
  clear he
  go_wp2_with (first | (refine wl_alloc zPlace (by assumption) rfl ?_; intro q w2 hS2) | ((with_reducible apply at_store); refine ⟨?_⟩; refine wl_store (by assumption) rFz evD (by first | (simp only [putsAt, Value.cells]; (try go_frame); first | done | rfl) | rfl) upD nLz kRz rFz ?_; intro wS hS))
  go_ret2
  refine ⟨.tuple #[.int .i64 0, errno e1], rfl, ?_, ?_⟩
  ·rw [hfin.out]
  ·rw [hfin.out]; exact Sat.sb hS
 subst he
 have H1 := Lib.hid (Hg.out.trans (if_neg (fun h => h rfl)))
 clear Hg
 go_wp2_with (first | (refine wl_alloc zPlace (by assumption) rfl ?_; intro q w2 hS2) | ((with_reducible apply at_store); refine ⟨?_⟩; refine wl_store (by assumption) rFz evD (by first | (simp only [putsAt, Value.cells]; (try go_frame); first | done | rfl) | rfl) upD nLz kRz rFz ?_; intro wS hS))
 have hS1 := hS
 clear hS hS2
 obtain ⟨lv, hR⟩ := LogRep.open2 (Sat.pk (by assumption))
 clear hS1
 go_wp2_with fail
 refine wpL_begin [7, 8] (fun w' => w'.cell? ⟨p, 0, none⟩ = some (ptr m) ∧ w'.cell? ⟨q, 0, none⟩ = some (.int .i64 pl.seg)) kRz ?_
 have hG : (World.drew _).cell? ⟨p, 0, none⟩ = some (ptr m) ∧ (World.drew _).cell? ⟨q, 0, none⟩ = some (.int .i64 pl.seg) := ⟨hR.drew.cellP pkD 0 rfl, hR.drew.cellP pkD 0 rfl⟩
 refine rp 0 (hy := (yl_move evD)) (h := ?_)
 refine rp 1 (hy := (yl_nil evD)) (h := ?_)
 refine rp 2 (hy := (yl_field evD rnD)) (h := ?_)
 refine rt 3 (h := ?_)
 refine rp 4 (hy := (yl_field evD rnD)) (h := ?_)
 refine rt 5 (h := ?_)
 clear hG
 refine rg_eff 6 evD kRz (fun K hK => ?_)
 (refine eff_call1 kRz evD ?_)
 refine (sname_c pl.seg hR.drew).mono ?_
 rintro e w3 ⟨v, rfl, rfl, hS3⟩
 refine hK _ _ (.inr (.inl ⟨hS3.cellP pkD 0 rfl, hS3.cellP pkD 0 rfl⟩)) ?_
 clear hK K
 refine rg_eff 7 evD kRz (fun K hK => ?_)
 (refine eff_call2 kRz evD evD ?_)
 refine (sync_c HM.out (Sat.pk (by assumption)) _).mono ?_
 rintro e w4 ⟨v, rfl, rfl, hS4⟩
 refine hK _ _ (.inl rfl) ?_
 clear hK K hS3 hR
 refine rp 8 (hy := (yl_assign evD)) (h := ?_)
 refine wpL_done kRz ?_
 have HM2 := Lib.hid (HM.out.sync (Seg.name pl.seg))
 generalize M1.sync (Seg.name pl.seg) = B at *
 obtain ⟨M2, e2⟩ := B
 by_cases he : e2 = 0
 rotate_left
 ·have heb : (e2 == 0) = false := beq_false_of_ne he
  have hfin := Lib.hid (H1.out.trans (if_pos he))
  clear he
  go_wp2_with fail
  go_ret2
  refine ⟨.tuple #[.int .i64 0, errno e2], rfl, ?_, ?_⟩
  ·rw [hfin.out]
  ·rw [hfin.out]; exact LogRep.shut2 (lv := lv) (Sat.sb hS4)
 subst he
 have H2 := Lib.hid (H1.out.trans (if_neg (fun h => h rfl)))
 clear H1
 have e0 : w4.cell? ⟨p, 0, none⟩ = some (ptr m) := hS4.cellP pkD 0 rfl
 go_wp2_with fail
 refine (syncDir_c HM2.out (Sat.pk (by assumption))).mono ?_
 rintro e w5 ⟨v, rfl, rfl, hS5⟩
 clear hS4 e0
 generalize M2.syncDir = C at *
 obtain ⟨M3, e3⟩ := C
 by_cases he : e3 = 0
 rotate_left
 ·have heb : (e3 == 0) = false := beq_false_of_ne he
  have hfin := Lib.hid (H2.out.trans (if_pos he))
  clear he
  go_wp2_with fail
  go_ret2
  refine ⟨.tuple #[.int .i64 0, errno e3], rfl, ?_, ?_⟩
  ·rw [hfin.out]
  ·rw [hfin.out]; exact LogRep.shut2 (lv := lv) (Sat.sb hS5)
 subst he
 have hfin := Lib.hid (H2.out.trans (if_neg (fun h => h rfl)))
 clear H2
 go_wp2_with (first | ((with_reducible apply at_load); refine ⟨?_⟩; refine wl_load1 (by assumption) rFz pkD nLz evD kRz ?_) | ((with_reducible apply at_store); refine ⟨?_⟩; refine wl_store (by assumption) rFz evD (by first | (simp only [putsAt, Value.cells]; (try go_frame); first | done | rfl) | rfl) upD nLz kRz rFz ?_; intro wS hS))
 go_ret2
 refine ⟨.tuple #[.int .i64 pl.seg, errno 0], rfl, ?_, ?_⟩
 ·rw [hfin.out]
 ·rw [hfin.out]; exact LogRep.shut2 (lv := lv) (Sat.sb hS)
end
end Go.Proofs.YtlinnpehkfbnkaaGreatDoor
namespace Go.Seg
def idx (l : List (Int × Int)) (n : Int) : Int := match l.findIdx? (fun s => s.1 == n) with
 | some i => i
 | none => -1
theorem find_idx (L : Log) (n : Int) : L.find n = idx L.l n := rfl
theorem idx_at {l : List (Int × Int)} {n : Int} {i : Nat} {s : Int × Int} (hs : l[i]? = some s) (hn : s.1 = n) (hp : ∀ (j : Nat) (t : Int × Int), j < i → l[j]? = some t → t.1 ≠ n) : idx l n = i := by
 unfold idx
 have : l.findIdx? (fun s => s.1 == n) = some i := by
  rw [List.findIdx?_eq_some_iff_getElem]
  obtain ⟨h1, h2⟩ := List.getElem?_eq_some_iff.1 hs
  refine ⟨h1, by rw [h2]; simpa using hn, fun j hj => ?_⟩
  have := hp j _ hj (List.getElem?_eq_getElem (by omega))
  simpa using this
 rw [this]
theorem idx_no {l : List (Int × Int)} {n : Int} (hp : ∀ (j : Nat) (t : Int × Int), j < l.length → l[j]? = some t → t.1 ≠ n) : idx l n = -1 := by
 unfold idx
 have : l.findIdx? (fun s => s.1 == n) = none := by
  rw [List.findIdx?_eq_none_iff]
  intro t ht
  obtain ⟨j, hj, rfl⟩ := List.getElem_of_mem ht
  have := hp j _ hj (List.getElem?_eq_getElem hj)
  simpa using this
 rw [this]
end Go.Seg
namespace Go.Proofs.YtlinnpehkfbnkaaGreatDoor
open Go Go.Sl Go.Med Go.MapKept Go.RowKit
section
variable {w0 w : World} {F R : List HProp} {v bv dv x lv : Value} {q p m K : Nat} {L : Seg.Log} {M : Med} {s : Int × Int}
theorem find1_c (s : Int × Int) (n : Int) (h : Sat w0 w F) (hq : Ro w0 F fun w => w.cell? ⟨q, 0, none⟩ = some (.int .i64 n)) :
  Calls Tryz.prog 135 #[.agg #[.int .i64 s.1, .int .i64 s.2], ptr q] w (Rtn fun v w' => v = .bool (s.1 == n) ∧ Sat w0 w' F) := by
 go_enter Tryz.func135, Tryz.ntmps135
 go_wp2_with (first | (((with_reducible apply at_box); refine ⟨?_⟩; refine wl_box (by assumption) evD evD ?_; intro bB wB hB); have c0 : wB.cell? ⟨q, 0, none⟩ = some (.int .i64 n) := hq _ hB.drop) | ((with_reducible apply at_load); refine ⟨?_⟩; refine wl_load1 (by assumption) rFz pkD nLz evD kRz ?_))
 go_ret
 exact ⟨_, rfl, rfl, hB.drop⟩
theorem idxf_c (l : List (Int × Int)) (n : Int) (hln : l.length ≤ 1048576) (h : Sat w0 w (osl 135 2 lv (segw l) :: F)) (hq : Ro w0 F fun w => w.cell? ⟨q, 0, none⟩ = some (.int .i64 n)) :
  Calls Tryz.prog 134 #[lv, .func (.func 135) #[] #[ptr q]] w (Rtn fun v w' => v = .int .i64 (Seg.idx l n) ∧ Sat w0 w' (osl 135 2 lv (segw l) :: F)) := by
 rcases h.osl_cases with ⟨rfl, hx, hF⟩ | ⟨b, n', cap, cs, rfl, hll, hn', hc, hcm, htk, hp⟩
 ·have hl : l = [] := by
   cases l with
   | nil => rfl
   | cons a l => simp [segw] at hx
  subst hl
  go_enter Tryz.func134, Tryz.ntmps134
  go_wp2_with fail
  go_loopg [8] 0 (fun g iq wr => iq = .int .i64 0 ∧ wr = w)
  case atStart => exact ⟨rfl, rfl⟩
  case round =>
   obtain ⟨rfl, rfl⟩ := hrel
   go_wp2
   go_ret
   exact ⟨_, rfl, rfl, h⟩
 ·rw [segw_len] at hll
  obtain rfl : n' = l.length := by omega
  have hcl : ∀ (i : Nat) (s : Int × Int), l[i]? = some s → cs[i * 2]? = some (.int .i64 s.1) ∧ cs[i * 2 + 1]? = some (.int .i64 s.2) := by
   intro i s hs
   obtain ⟨h1, h2⟩ := segw_at _ _ _ hs
   rw [Nat.mul_comm i 2]
   exact ⟨take_get htk h1, take_get htk h2⟩
  have Hcl := Lib.hid hcl
  have Hend := Lib.hid (show ∀ wr, Sat w0 wr (pt b (.cells cs 135 (0,0)) :: F) → Sat w0 wr (osl 135 2 (.slice (some ⟨b, 0, none⟩) l.length cap) (segw l) :: F) from fun wr hS => Sat.osl_of_pt hS (by rw [segw_len]; omega) hn' hc hcm htk)
  have Hq := Lib.hid hq
  clear hcl hn' hc hcm htk h hq hll
  go_enter Tryz.func134, Tryz.ntmps134
  go_wp2_with fail
  go_loopg [8] l.length (fun g iq wr => ∃ i : Nat, g = l.length - i ∧ i ≤ l.length ∧ iq = .int .i64 i ∧ Sat w0 wr (pt b (.cells cs 135 (0,0)) :: F) ∧ Hid (∀ (j : Nat) (t : Int × Int), j < i → l[j]? = some t → t.1 ≠ n))
  case atStart => exact ⟨0, rfl, Nat.zero_le _, rfl, hp, Lib.hid fun j t hj => absurd hj (Nat.not_lt_zero j)⟩
  case round =>
   obtain ⟨i, rfl, hi, rfl, hS, Hp⟩ := hrel
   clear hp
   by_cases hlt : i < l.length
   ·obtain ⟨s, hs⟩ : ∃ s, l[i]? = some s := ⟨_, List.getElem?_eq_getElem hlt⟩
    obtain ⟨d0, d1⟩ := Hcl.out i s hs
    have Hs := Lib.hid hs; have Hd0 := Lib.hid d0; have Hd1 := Lib.hid d1; have Hlt := Lib.hid hlt
    have hic : (i : Int) < (l.length : Int) := by omega
    have hwi : IntKind.i64.wrap ((i : Int) + 1) = (i : Int) + 1 := IntWalk.i64_in _ (by omega)
    clear hs d0 d1 hlt
    have hfn := find1_c (q := q) s n hS (Ro.os Hq.out)
    go_wp2_with ((with_reducible apply at_load); refine ⟨?_⟩; refine wl_loadN (b := b) (o := i * 2) [.int .i64 s.1, .int .i64 s.2] (by assumption) rFz pkD (fun j v hj => by
     rcases j with _ | _ | j
     ·cases hj; exact Hd0.out
     ·cases hj; exact Hd1.out
     ·simp at hj) Tryz.underlying135 rfl kRz ?_)
    refine hfn.mono ?_
    rintro e w2 ⟨v, rfl, rfl, hS2⟩
    clear hfn hS
    by_cases hsn : s.1 = n
    ·have hsb : (s.1 == n) = true := by simpa using hsn
     have Hfin := Lib.hid (Seg.idx_at Hs.out hsn Hp.out)
     clear hsn
     go_wp2
     go_ret
     exact ⟨.int .i64 i, rfl, by rw [Hfin.out], Hend.out _ hS2⟩
    ·have hsb : (s.1 == n) = false := by simpa using hsn
     have Hp2 := Lib.hid (show ∀ (j : Nat) (t : Int × Int), j < i + 1 → l[j]? = some t → t.1 ≠ n by
      intro j t hj ht
      by_cases hji : j < i
      ·exact Hp.out j t hji ht
      ·obtain rfl : j = i := by omega
       rw [Hs.out] at ht; cases ht; exact hsn)
     clear hsn Hp
     go_wp2
     go_roundg (l.length - (i + 1))
     case measure => have := Hlt.out; omega
     case rel => exact ⟨i + 1, rfl, Nat.succ_le_of_lt Hlt.out, by first | rfl | go_num, hS2, Hp2⟩
   ·obtain rfl : i = l.length := by omega
    have hic : ¬ (l.length : Int) < (l.length : Int) := by omega
    have Hfin := Lib.hid (Seg.idx_no Hp.out)
    clear hi hlt Hp
    go_wp2
    go_ret
    exact ⟨.int .i64 (-1), rfl, by rw [Hfin.out], Hend.out _ hS⟩
theorem lfind_c (hL : L.Ok) (n : Int) (h : Sat w0 w (LogRep p m L :: F)) :
  Calls Tryz.prog 71 #[ptr p, .int .i64 n] w (Rtn fun v w' => v = .int .i64 (L.find n) ∧ Sat w0 w' (LogRep p m L :: F)) := by
 obtain ⟨lv, hR⟩ := LogRep.open2 h
 clear h
 have Hln := Lib.hid hL.len
 rw [Seg.find_idx]
 clear hL
 go_enter Tryz.func71, Tryz.ntmps71
 go_wp2_with ((with_reducible apply at_box); refine ⟨?_⟩; refine wl_box (by assumption) evD evD ?_; intro bB wB hB)
 refine (ok_c (Sat.pk (by assumption))).mono ?_
 rintro e w2 ⟨v, rfl, rfl, rfl⟩
 clear hR
 go_wp2_with ((with_reducible apply at_load); refine ⟨?_⟩; refine wl_load1 (by assumption) rFz pkD nLz evD kRz ?_)
 refine (idxf_c (q := bB) (lv := lv) L.l n Hln.out (Sat.pk (by assumption)) (fun w hw => hw.cellP pkD 0 rfl)).mono ?_
 rintro e w3 ⟨v, rfl, rfl, hS3⟩
 clear hB
 go_wp2
 go_ret
 exact ⟨_, rfl, rfl, LogRep.shut2 (lv := lv) (Sat.sb hS3)⟩
theorem find_neg (n : Int) : (L.at n = none ∧ L.find n = -1) ∨ ∃ i, L.at n = some i ∧ L.find n = i := by
 unfold Seg.Log.find
 cases L.at n with
 | none => exact .inl ⟨rfl, rfl⟩
 | some i => exact .inr ⟨i, rfl, rfl⟩
theorem lsize_c (hL : L.Ok) (n : Int) (h : Sat w0 w (LogRep p m L :: F)) :
  Calls Tryz.prog 143 #[ptr p, .int .i64 n] w (Rtn fun v w' => v = .int .i64 (L.size n) ∧ Sat w0 w' (LogRep p m L :: F)) := by
 have hf := lfind_c hL n h
 have Hln := Lib.hid hL.len
 rcases find_neg (L := L) n with ⟨ha, hb⟩ | ⟨i, ha, hb⟩
 ·have Hfin := Lib.hid (show L.size n = 0 by unfold Seg.Log.size; rw [ha])
  rw [hb] at hf
  clear ha hb hL h
  go_enter Tryz.func143, Tryz.ntmps143
  go_wp2_with fail
  refine hf.mono ?_
  rintro e w2 ⟨v, rfl, rfl, hS2⟩
  clear hf
  go_wp2
  go_ret
  rw [Hfin.out]
  exact ⟨_, rfl, rfl, hS2⟩
 ·rw [hb] at hf
  obtain ⟨hlt, s, hs, hsn⟩ := Seg.Log.at_lt ha
  have Hfin := Lib.hid (show L.size n = s.2 by unfold Seg.Log.size; rw [ha]; simp only; rw [List.getD_eq_getElem?_getD, hs]; rfl)
  have Hs := Lib.hid hs
  have hi0 : (0 : Int) ≤ (i : Int) := by omega
  have hil : (i : Int) < (L.l.length : Int) := by omega
  have hd : decide ((i : Int) < 0) = false := decide_eq_false (by omega)
  clear ha hb hL h hs hsn hlt
  go_enter Tryz.func143, Tryz.ntmps143
  go_wp2_with fail
  refine hf.mono ?_
  rintro e w2 ⟨v, rfl, rfl, hS2⟩
  clear hf
  obtain ⟨lv, hR⟩ := LogRep.open2 hS2
  rcases (hR.pk).osl_cases with ⟨hl, hx, hF⟩ | ⟨b, n', cap, cs, rfl, hll, hn', hc, hcm, htk, hp⟩
  ·exfalso
   have := (segw_at _ _ _ Hs.out).1
   rw [hx] at this; simp at this
  ·rw [segw_len] at hll
   obtain rfl : n' = L.l.length := by omega
   have e2 : w2.cell? ⟨b, i * 2 + 1, none⟩ = some (.int .i64 s.2) := by
    have := take_get htk (segw_at _ _ _ Hs.out).2
    rw [Nat.mul_comm 2 i] at this
    exact hp.cellP pkD _ this
   clear hp htk hc hn' hll hcm
   go_wp2_with ((with_reducible apply at_load); refine ⟨?_⟩; refine wl_load1 (by assumption) rFz pkD nLz evD kRz ?_)
   go_ret
   rw [Hfin.out]
   exact ⟨_, rfl, rfl, hS2⟩
set_option maxRecDepth 20000 in
theorem lbytes_c (hL : L.Ok) (hM : M.Ok K) (n : Int) (h : Sat w0 w (LogRep p m L :: MedRep m M :: F)) :
  Calls Tryz.prog 55 #[ptr p, .int .i64 n] w (Rtn fun v w' => ∃ bv, v = .tuple #[bv, errno (L.bytes M n).2] ∧ Sat w0 w' (bsl bv (L.bytes M n).1 :: LogRep p m L :: MedRep m M :: F)) := by
 obtain ⟨lv, hR⟩ := LogRep.open2 h
 have hok := ok_c hR
 have hf := lfind_c hL n h
 rcases find_neg (L := L) n with ⟨ha, hb⟩ | ⟨i, ha, hb⟩
 ·have Hfin := Lib.hid (show L.bytes M n = ([], 9) by unfold Seg.Log.bytes; rw [ha])
  rw [hb] at hf
  clear ha hb hL h hR
  go_enter Tryz.func55, Tryz.ntmps55
  go_wp2_with fail
  refine hok.mono ?_
  rintro e w2 ⟨v, rfl, rfl, rfl⟩
  clear hok
  go_wp2_with fail
  refine hf.mono ?_
  rintro e w2 ⟨v, rfl, rfl, hS2⟩
  clear hf
  go_wp2
  go_ret2
  rw [Hfin.out]
  exact ⟨_, rfl, .slice none 0 0, rfl, Sat.osl_nil.2 hS2⟩
 ·rw [hb] at hf
  have Hfin := Lib.hid (show L.bytes M n = M.all (Seg.name n) by unfold Seg.Log.bytes; rw [ha])
  have hi0 : (0 : Int) ≤ (i : Int) := by omega
  have hd : decide ((i : Int) < 0) = false := decide_eq_false (by omega)
  clear ha hb hL h hR lv
  go_enter Tryz.func55, Tryz.ntmps55
  go_wp2_with fail
  refine hok.mono ?_
  rintro e w2 ⟨v, rfl, rfl, rfl⟩
  clear hok
  go_wp2_with fail
  refine hf.mono ?_
  rintro e w2 ⟨v, rfl, rfl, hS2⟩
  clear hf
  obtain ⟨lv, hR⟩ := LogRep.open2 hS2
  clear hS2
  go_wp2_with fail
  refine wpL_begin [6, 7, 8, 9, 10] (fun w' => w'.cell? ⟨p, 0, none⟩ = some (ptr m)) kRz ?_
  have hG : w2.drew.cell? ⟨p, 0, none⟩ = some (ptr m) := hR.drew.cellP pkD 0 rfl
  refine rp 0 (hy := (yl_move evD)) (h := ?_)
  refine rp 1 (hy := (yl_nil evD)) (h := ?_)
  refine rp 2 (hy := (yl_field evD rnD)) (h := ?_)
  refine rt 3 (h := ?_)
  refine rp 4 (hy := (yl_move evD)) (h := ?_)
  clear hG
  refine rg_eff 5 evD kRz (fun K hK => ?_)
  (refine eff_call1 kRz evD ?_)
  refine (sname_c n hR.drew).mono ?_
  rintro e w3 ⟨v, rfl, rfl, hS3⟩
  refine hK _ _ (.inr (.inl (hS3.cellP pkD 0 rfl))) ?_
  clear hK K hR
  refine rg_eff 6 evD kRz (fun K hK => ?_)
  (refine eff_call2 kRz evD evD ?_)
  refine (all_c hM (Sat.pk (by assumption)) _).mono ?_
  rintro e w4 ⟨v, rfl, bv, rfl, hS4⟩
  refine hK _ _ (.inl rfl) ?_
  clear hK K hS3
  refine rp 7 (hy := (yl_extract evD rnD)) (h := ?_)
  refine rp 8 (hy := (yl_extract evD rnD)) (h := ?_)
  refine rp 9 (hy := (yl_assign evD)) (h := ?_)
  refine rp 10 (hy := (yl_assign evD)) (h := ?_)
  refine wpL_done kRz ?_
  go_wp2
  go_ret2
  rw [Hfin.out]
  exact ⟨_, rfl, bv, rfl, Sat.sub (LogRep.shut2 (lv := lv) (hS4.sb)) sbD⟩
end
end Go.Proofs.YtlinnpehkfbnkaaGreatDoor
namespace Go.Seg
def Log.segs (L : Log) : List Int := L.l.map (·.1)
end Go.Seg
namespace Go.Proofs.YtlinnpehkfbnkaaGreatDoor
open Go Go.Sl Go.Med Go.MapKept Go.RowKit
theorem zSeg : zeroB Tryz.prog 135 = some (.agg #[.int .i64 0, .int .i64 0]) := by kernel_rfl
section
variable {w0 w : World} {F R : List HProp} {v bv dv x lv : Value} {q p m K : Nat} {L : Seg.Log} {M : Med} {s : Int × Int}
theorem ints_app (l k : List Int) : ints (l ++ k) = ints l ++ ints k := by unfold ints; rw [List.map_append]
theorem ints_length (l : List Int) : (ints l).length = l.length := by unfold ints; rw [List.length_map]
theorem segs_open (hln : L.l.length ≤ 1048576) (h : Sat w0 w (logPt p m L lv :: osl 135 2 lv (segw L.l) :: F)) :
  (L.l = [] ∧ lv = .slice none 0 0) ∨ ∃ b cap cs, lv = .slice (some ⟨b, 0, none⟩) L.l.length cap ∧ (∀ (i : Nat) (s : Int × Int), L.l[i]? = some s → cs[i * 2]? = some (.int .i64 s.1) ∧ cs[i * 2 + 1]? = some (.int .i64 s.2)) ∧
   Sat w0 w (pt b (.cells cs 135 (0,0)) :: logPt p m L lv :: F) ∧ ∀ w1 G, Sat w0 w1 (pt b (.cells cs 135 (0,0)) :: G) → Sat w0 w1 (osl 135 2 lv (segw L.l) :: G) := by
 have h' := h.pick1
 rcases h'.osl_cases with ⟨rfl, hx, hF⟩ | ⟨b, n', cap, cs, rfl, hll, hn', hc, hcm, htk, hp⟩
 ·left
  refine ⟨?_, rfl⟩
  cases hl : L.l with
  | nil => rfl
  | cons a l => rw [hl] at hx; simp [segw] at hx
 ·right
  rw [segw_len] at hll
  obtain rfl : n' = L.l.length := by omega
  refine ⟨b, cap, cs, rfl, ?_, hp, fun w1 G hS => Sat.osl_of_pt hS (by rw [segw_len]; omega) hn' hc hcm htk⟩
  intro i s hs
  obtain ⟨h1, h2⟩ := segw_at _ _ _ hs
  rw [Nat.mul_comm i 2]
  exact ⟨take_get htk h1, take_get htk h2⟩
set_option maxRecDepth 20000 in
theorem lsegs_c (hL : L.Ok) (h : Sat w0 w (LogRep p m L :: F)) :
  Calls Tryz.prog 13 #[ptr p] w (Rtn fun v w' => Sat w0 w' (osl 3 1 v (ints L.segs) :: LogRep p m L :: F)) := by
 obtain ⟨lv, hR⟩ := LogRep.open2 h
 clear h
 have hok := ok_c hR
 rcases segs_open hL.len hR with ⟨hnil, rfl⟩ | ⟨b, cap, cs, rfl, hcl, hp, hend⟩
 ·have Hfin := Lib.hid (show L.segs = [] by unfold Seg.Log.segs; rw [hnil]; rfl)
  clear hnil hL
  go_enter Tryz.func13, Tryz.ntmps13
  go_wp2_with fail
  refine hok.mono ?_
  rintro e w2 ⟨v, rfl, rfl, rfl⟩
  clear hok
  go_wp2_with ((with_reducible apply at_load); refine ⟨?_⟩; refine wl_load1 (by assumption) rFz pkD nLz evD kRz ?_)
  go_loopg [14, 3] 0 (fun g iq ov wr => iq = .int .i64 0 ∧ ov = .slice none 0 0 ∧ wr = w)
  case atStart => exact ⟨rfl, rfl, rfl⟩
  case round =>
   obtain ⟨rfl, rfl, rfl⟩ := hrel
   go_wp2
   go_ret
   rw [Hfin.out]
   exact ⟨_, rfl, Sat.osl_nil.2 (LogRep.shut2 hR)⟩
 ·have Hcl := Lib.hid hcl
  have Hend := Lib.hid hend
  have Hln := Lib.hid hL.len
  clear hcl hend hL hR
  go_enter Tryz.func13, Tryz.ntmps13
  go_wp2_with fail
  refine hok.mono ?_
  rintro e w2 ⟨v, rfl, rfl, rfl⟩
  clear hok
  go_wp2_with ((with_reducible apply at_load); refine ⟨?_⟩; refine wl_load1 (by assumption) rFz pkD nLz evD kRz ?_)
  go_loopg [14, 3] L.l.length (fun g iq ov wr => ∃ i : Nat, g = L.l.length - i ∧ i ≤ L.l.length ∧ iq = .int .i64 i ∧
   Sat w0 wr (osl 3 1 ov (ints ((L.l.take i).map (·.1))) :: pt b (.cells cs 135 (0,0)) :: logPt p m L (.slice (some ⟨b, 0, none⟩) L.l.length cap) :: F))
  case atStart => exact ⟨0, rfl, Nat.zero_le _, rfl, Sat.osl_nil.2 hp⟩
  case round =>
   obtain ⟨i, rfl, hi, rfl, hS⟩ := hrel
   clear hp
   by_cases hlt : i < L.l.length
   ·obtain ⟨s, hs⟩ : ∃ s, L.l[i]? = some s := ⟨_, List.getElem?_eq_getElem hlt⟩
    have Htk := Lib.hid (show ints ((L.l.take i).map (·.1)) ++ [.int .i64 s.1] = ints ((L.l.take (i + 1)).map (·.1)) by
     rw [List.take_add_one, hs, List.map_append, ints_app]; rfl)
    have hlen : (ints ((L.l.take i).map (·.1))).length ≤ 2147483648 := by
     rw [ints_length, List.length_map, List.length_take]; have := Hln.out; omega
    obtain ⟨d0, d1⟩ := Hcl.out i s hs
    have Hd0 := Lib.hid d0; have Hd1 := Lib.hid d1; have Hlt := Lib.hid hlt
    have hic : (i : Int) < (L.l.length : Int) := by omega
    have hwi : IntKind.i64.wrap ((i : Int) + 1) = (i : Int) + 1 := IntWalk.i64_in _ (by have := Hln.out; omega)
    clear hs d0 d1 hlt
    go_wp2_with (first
     | ((with_reducible apply at_load); refine ⟨?_⟩; refine wl_loadN (b := b) (o := i * 2) [.int .i64 s.1, .int .i64 s.2] (by assumption) rFz pkD (fun j v hj => by
       rcases j with _ | _ | j
       ·cases hj; exact Hd0.out
       ·cases hj; exact Hd1.out
       ·simp at hj) Tryz.underlying135 rfl kRz ?_)
     | (refine wl_alloc zSeg (by assumption) rfl ?_; intro q3 w3 hS3)
     | ((with_reducible apply at_store); refine ⟨?_⟩; refine wl_store (by assumption) rFz evD (by first | (simp only [putsAt, Value.cells]; (try go_frame); first | done | rfl) | rfl) upD nLz kRz rFz ?_; intro wS hS) | ((with_reducible apply at_load); refine ⟨?_⟩; refine wl_load1 (by assumption) rFz pkD nLz evD kRz ?_) | ((with_reducible apply at_build1); refine ⟨?_⟩; refine wl_build1 (e := 3) (sz := 1) (by' := 8) kRz (by assumption) evD evD rFz nLz ?_; intro bN wN hN) | ((with_reducible apply at_append); refine ⟨?_⟩; refine wl_app 3 1 8 kRz (by assumption) rFz rFz pkD pkD rFz nLz rFz (by assumption) nLz nLz evD ?_; intro bA nA cA wA hA))
    go_roundg (L.l.length - (i + 1))
    case measure => have := Hlt.out; omega
    case rel =>
     refine ⟨i + 1, rfl, Nat.succ_le_of_lt Hlt.out, by first | rfl | go_num, ?_⟩
     rw [Htk.out] at hA
     exact Sat.sb hA
   ·obtain rfl : i = L.l.length := by omega
    have hic : ¬ (L.l.length : Int) < (L.l.length : Int) := by omega
    rw [List.take_length] at hS
    clear hi hlt
    go_wp2
    go_ret
    refine ⟨_, rfl, ?_⟩
    have h7 := Hend.out _ _ (hS.pk)
    exact Sat.sub (LogRep.shut2 (lv := .slice (some ⟨b, 0, none⟩) L.l.length cap) (Sat.sb h7)) sbD
end
section
variable {w0 w : World} {F : List HProp} {av bv v : Value}
section
variable {L R : List HProp} {b o : Nat} {ops : Array Oper} {rest : List Oper} {a : Act} {Q : Exit → Act → World → Prop} {dst : Option Tmp} {t ty T : TypeId} {pos : String} {after : Array Edge} {P : Program} {x : Operand} {cs : Array Value} {g : Nat × Bool}
theorem at_loadG (h : Stop (wpList P ops Q (⟨dst, .load ty x, t, pos, after, some g⟩ :: rest) a w)) : wpList P ops Q (⟨dst, .load ty x, t, pos, after, some g⟩ :: rest) a w := h.out
theorem wl_loadGm (hw : Region.wanted ⟨dst, .load ty x, t, pos, after, some g⟩ (yielded ops a.tmps) = true) (hx : a.eval x = .pointer (some ⟨b, o, none⟩)) (cl : List Value) (d : TypeDesc) (hc : w.rangeAt b o cl)
  (hu : P.underlying ty = some d) (hd : d.isRow = true) (hi : (P.info? ty).map (·.size) = some cl.length)
  (h : wpList P ops Q rest (a.put dst (.agg cl.toArray)) w) : wpList P ops Q (⟨dst, .load ty x, t, pos, after, some g⟩ :: rest) a w :=
 wpList_step fun _ hK => by
  rw [if_pos hw]
  exact wp_load_mid ty x rfl b o hx cl d hc hu hd hi (hK _ _ h)
end
end
def penc (p : Seg.Plc) : List Value := [.int .i64 p.seg, .int .i64 p.at_, .int .i64 p.size]
def aenc (a : Rep.Abt) : List Value := [.int .i64 a.tag, .int .i64 a.place.seg, .int .i64 a.place.at_, .int .i64 a.place.size, .int .i64 a.first]
theorem penc_len (p : Seg.Plc) : (penc p).length = 3 := rfl
theorem aenc_len (a : Rep.Abt) : (aenc a).length = 5 := rfl
theorem penc_ones (p : Seg.Plc) : (penc p).all (·.oneCell') = true := rfl
theorem aenc_ones (a : Rep.Abt) : (aenc a).all (·.oneCell') = true := rfl
def slotL {V : Type} (enc : V → List Value) (x : Tab.Slot V) : List Value := .int .i64 x.st :: (bys x.key ++ enc x.val)
abbrev tbPt (p : Nat) (T : TypeId) (sv : Value) (n g : Nat) : HProp := pt p (.cells #[sv, .int .i64 n, .int .i64 g] T (0,0))
theorem slotL_len {V : Type} (enc : V → List Value) (x : Tab.Slot V) (hk : x.key.length = 32) (m : Nat) (he : (enc x.val).length = m) : (slotL enc x).length = 33 + m := by
 unfold slotL
 rw [List.length_cons, List.length_append, bys_len, hk, he]; omega
theorem bys_ones (b : Frm.Bs) : (bys b).all (·.oneCell') = true := by
 rw [List.all_eq_true]
 intro v hv
 unfold bys at hv
 obtain ⟨c, _, rfl⟩ := List.mem_map.1 hv
 rfl
theorem slotL_ones {V : Type} (enc : V → List Value) (x : Tab.Slot V) (he : (enc x.val).all (·.oneCell') = true) : (slotL enc x).all (·.oneCell') = true := by
 unfold slotL
 rw [List.all_cons, List.all_append, bys_ones, he]; rfl
theorem slotL_key {V : Type} (enc : V → List Value) (x : Tab.Slot V) {j : Nat} {v : Value} (h : (bys x.key)[j]? = some v) : (slotL enc x)[1 + j]? = some v := by
 unfold slotL
 rw [Nat.add_comm, List.getElem?_cons_succ, List.getElem?_append_left (List.getElem?_eq_some_iff.1 h).1]; exact h
theorem slotL_val {V : Type} (enc : V → List Value) (x : Tab.Slot V) (hk : x.key.length = 32) {j : Nat} {v : Value} (h : (enc x.val)[j]? = some v) : (slotL enc x)[33 + j]? = some v := by
 unfold slotL
 rw [show 33 + j = 32 + j + 1 by omega, List.getElem?_cons_succ, List.getElem?_append_right (by rw [bys_len, hk]; omega), bys_len, hk, Nat.add_sub_cancel_left]; exact h
theorem zSlotA : zeroB Tryz.prog 256 = some (.agg (slotL aenc ⟨0, Frm.zero32, ⟨0, Seg.Plc.zero, 0⟩⟩).toArray) := by kernel_rfl
theorem zSlotL : zeroB Tryz.prog 230 = some (.agg (slotL penc ⟨0, Frm.zero32, Seg.Plc.zero⟩).toArray) := by kernel_rfl
section
variable {w0 w : World} {L R : List HProp} {b : Nat} {T : TypeId} {V : Type} {enc : V → List Value} {x : Tab.Slot V} {l : List Value}
theorem pt_rangeL (h : Sat w0 w (pt b (.cells l.toArray T (0,0)) :: R)) : w.rangeAt b 0 l := fun j v hj => by
 have := h.cellP pick0 j (by rw [List.getElem?_toArray]; exact hj)
 rw [Nat.zero_add]; exact this
theorem slot_key (h : Sat w0 w (pt b (.cells (slotL enc x).toArray T (0,0)) :: R)) : w.rangeAt b 1 (bys x.key) := fun j v hj =>
 h.cellP pick0 (1 + j) (by rw [List.getElem?_toArray]; exact slotL_key enc x hj)
theorem slot_val (hk : x.key.length = 32) (h : Sat w0 w (pt b (.cells (slotL enc x).toArray T (0,0)) :: R)) : w.rangeAt b 33 (enc x.val) := fun j v hj =>
 h.cellP pick0 (33 + j) (by rw [List.getElem?_toArray]; exact slotL_val enc x hk hj)
end
end Go.Proofs.YtlinnpehkfbnkaaGreatDoor
