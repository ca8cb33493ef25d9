import Derived.Test.YtlinnpehkfbnkaaGreatDoorJ6
import Derived.Test.YtlinnpehkfbnkaaGreatDoorShelf
import Derived.Test.YtlinnpehkfbnkaaGreatDoorRows
import Derived.Test.YtlinnpehkfbnkaaGreatDoorCards
import Derived.Test.YtlinnpehkfbnkaaGreatDoorTie
import Derived.ProofKit
import Derived.LaidMore
import Derived.OpenShut
import Derived.ShutString
import Derived.SevenTiedAt
set_option linter.unusedVariables false
namespace Go.Seg
open Go.Med
open Go.Frm (encs GoodE)
section
variable {K : Nat} {M M' : Med} {L : Log} {s t : ByteArray} {i : Nat}
theorem shut_ext (ok : M.Ok K) (g : Grow M) (hs : nget M.now s = some i) : Ext s i M (L.shut M).1.2 := by
  unfold Log.shut
  split; · exact Ext.refl hs
  split
  · split <;> exact sync_ext ok g hs _
  · exact Ext.refl hs
theorem shut_grow (ok : M.Ok K) (g : Grow M) : Grow (L.shut M).1.2 := by
  unfold Log.shut
  split; · exact g
  split
  · split <;> exact g.sync ok _
  · exact g
theorem begin1_ext (ok : M.Ok K) (g : Grow M) (hs : nget M.now s = some i) (hse : s ≠ ByteArray.empty) (b : Bs) : Ext s i M (L.begin1 M b).1.2 := by
  have e1 := create_ext hs hse (name L.next)
  have ok1 := ok.create (name L.next)
  have e2 := append_ext ok1 e1.now (name L.next) (mag ++ b)
  unfold Log.begin1
  split; · exact Ext.refl hs
  split; · exact e1
  rename_i h0
  simp only [ne_eq, Decidable.not_not] at h0
  split; · exact e1.trans e2
  split
  · have hne : name L.next ≠ s := fun e => by
      have := (create_good ok h0).1
      rw [e, hs] at this; cases this
    exact e1.trans (e2.trans (remove_ext e2.now hse hne))
  · exact e1.trans e2
theorem begin1_grow (ok : M.Ok K) (g : Grow M) (b : Bs) : Grow (L.begin1 M b).1.2 := by
  have g1 := g.create (name L.next)
  have ok1 := ok.create (name L.next)
  have g2 := g1.append ok1 (name L.next) (mag ++ b)
  unfold Log.begin1
  split; · exact g
  split; · exact g1
  split; · exact g2
  split
  · exact g2.remove _
  · exact g2
theorem lappend_ext (ok : M.Ok K) (g : Grow M) (hs : nget M.now s = some i) (hse : s ≠ ByteArray.empty) (x : Frm.Ent) : Ext s i M (L.append M x).1.2 := by
  unfold Log.append
  split; · exact Ext.refl hs
  split
  · unfold Log.grow
    split; · exact Ext.refl hs
    split <;> exact append_ext ok hs _ _
  · have e1 := shut_ext (L := L) ok g hs
    unfold Log.begin
    split
    · exact e1.trans (begin1_ext (Log.shut_med ok) (shut_grow ok g) e1.now hse _)
    · exact e1
theorem lappend_grow (ok : M.Ok K) (g : Grow M) (x : Frm.Ent) : Grow (L.append M x).1.2 := by
  unfold Log.append
  split; · exact g
  split
  · unfold Log.grow
    split; · exact g
    split <;> exact g.append ok _ _
  · unfold Log.begin
    split
    · exact begin1_grow (Log.shut_med ok) (shut_grow ok g) _
    · exact shut_grow ok g
def nf (L : Log) : List Int := (L.l.map (·.1)).take (L.l.length - L.fresh.toNat)
theorem shut_same (L : Log) (M : Med) : (L.shut M).1.1.l = L.l ∧ (L.shut M).1.1.fresh = L.fresh := by
  unfold Log.shut
  split; · exact ⟨rfl, rfl⟩
  split
  · split <;> exact ⟨rfl, rfl⟩
  · exact ⟨rfl, rfl⟩
theorem begin1_nf (h : L.Ok) (b : Bs) : nf (L.begin1 M b).1.1 = nf L := by
  unfold Log.begin1
  split; · rfl
  split; · rfl
  split
  · have hf := h.fresh
    unfold nf
    simp only [List.map_append, List.length_append, List.length_singleton]
    rw [show L.l.length + 1 - (L.fresh + 1).toNat = L.l.length - L.fresh.toNat by omega, List.take_append_of_le_length (by rw [List.length_map]; omega)]
  split <;> rfl
theorem grow_nums (L : Log) (M : Med) (b : Bs) : (L.grow M b).1.1.l.map (·.1) = L.l.map (·.1) ∧ (L.grow M b).1.1.fresh = L.fresh ∧ (L.grow M b).1.1.on = L.on := by
  unfold Log.grow
  split; · exact ⟨rfl, rfl, rfl⟩
  rename_i s hl
  split
  · refine ⟨?_, rfl, rfl⟩
    have e := last_split hl
    conv => rhs; rw [e]
    simp
  · exact ⟨rfl, rfl, rfl⟩
theorem lappend_nf (h : L.Ok) (x : Frm.Ent) : nf (L.append M x).1.1 = nf L := by
  unfold Log.append
  split; · rfl
  split
  · obtain ⟨e1, e2, _⟩ := grow_nums L M (Frm.encode x).1
    have e3 := congrArg List.length e1
    rw [List.length_map, List.length_map] at e3
    unfold nf
    rw [e1, e2, e3]
  · obtain ⟨e1, e2⟩ := shut_same L M
    have e3 : nf (L.shut M).1.1 = nf L := by unfold nf; rw [e1, e2]
    unfold Log.begin
    split
    · rw [begin1_nf (h.shut M), e3]
    · exact e3
def Slice (p : Plc) (x : Frm.Ent) (b : Bs) : Prop := ∃ a : Nat, p.at_ = a ∧ p.size = ((Frm.encode x).1.length : Int) ∧ (Frm.encode x).1 <+: b.drop a
theorem Slice.mono {p : Plc} {x : Frm.Ent} {b c : Bs} (h : Slice p x b) (hx : GoodE x) (k : b <+: c) : Slice p x c := by
  obtain ⟨a, h1, h2, h3⟩ := h
  obtain ⟨d, rfl⟩ := k
  refine ⟨a, h1, h2, h3.trans ?_⟩
  rw [List.drop_append]
  exact List.prefix_append _ _
structure Sure (L : Log) (M : Med) (p : Plc) (x : Frm.Ent) : Prop where
  good : GoodE x
  mem : p.seg ∈ nf L
  file : ∃ i, nget M.now (name p.seg) = some i ∧ Dur (name p.seg) i M ∧ Slice p x (M.file i).fast
structure Pend (L : Log) (M : Med) (p : Plc) (x : Frm.Ent) : Prop where
  good : GoodE x
  mem : p.seg ∈ L.l.map (·.1)
  file : ∃ i, nget M.now (name p.seg) = some i ∧ Slice p x (M.file i).now ∧ (Slice p x (M.file i).fast ∨ L.on = true ∧ ∃ s, L.l.getLast? = some s ∧ s.1 = p.seg)
theorem nf_mem {n : Int} (h : n ∈ nf L) : n ∈ L.l.map (·.1) := List.mem_of_mem_take h
theorem num_of {L : Log} (hL : L.Ok) {n : Int} (h : n ∈ L.l.map (·.1)) : 0 ≤ n ∧ n < 1048576 ∧ name n ≠ ByteArray.empty := by
  obtain ⟨s, hs, rfl⟩ := List.mem_map.1 h
  have := hL.nums s hs
  exact ⟨this.1, this.2, good_ne (good_name s.1 this.1 this.2)⟩
theorem Sure.ext {L' : Log} {p : Plc} {x : Frm.Ent} (h : Sure L M p x) (hm : p.seg ∈ nf L') (e : ∀ i, nget M.now (name p.seg) = some i → Ext (name p.seg) i M M') : Sure L' M' p x := by
  obtain ⟨i, h1, h2, h3⟩ := h.file
  have e := e i h1
  exact ⟨h.good, hm, i, e.now, e.dur h2, h3.mono h.good (e.fast i)⟩
structure St (K : Nat) (L : Log) (M : Med) (sure opn : List (Plc × Frm.Ent)) : Prop where
  log : L.Ok
  ok : M.Ok K
  grow : Grow M
  has : Has L M
  tail : L.on = true → ∃ s i, L.l.getLast? = some s ∧ nget M.now (name s.1) = some i ∧ s.2 = ((M.file i).now.length : Int)
  sure : ∀ q ∈ sure, Sure L M q.1 q.2
  opn : M.off = false → ∀ q ∈ opn, Pend L M q.1 q.2
variable {sure opn : List (Plc × Frm.Ent)}
theorem St.shut (h : St K L M sure opn) :
    (L.shut M).2 = 0 ∧ (L.shut M).1.1.on = false ∧ (M.off = false → ∀ q ∈ opn, ∃ i, nget (L.shut M).1.2.now (name q.1.seg) = some i ∧ Slice q.1 q.2 ((L.shut M).1.2.file i).fast ∧ Slice q.1 q.2 ((L.shut M).1.2.file i).now) ∨
    (L.shut M).2 ≠ 0 ∧ (L.shut M).1.1 = L ∧ (L.shut M).1.2.now = M.now ∧ (L.shut M).1.2.files = M.files := by
  have hext : ∀ s i, nget M.now s = some i → Ext s i M (L.shut M).1.2 := fun s i hs => shut_ext h.ok h.grow hs
  cases hon : L.on with
  | false =>
    left
    rw [Log.shut_off M hon] at hext ⊢
    refine ⟨rfl, hon, fun ho q hq => ?_⟩
    obtain ⟨i, h1, h2, h3⟩ := (h.opn ho q hq).file
    rcases h3 with h3 | ⟨h3, _⟩
    · exact ⟨i, h1, h3, h2⟩
    · rw [hon] at h3; cases h3
  | true =>
    obtain ⟨s, hl⟩ := h.log.last hon
    have es := Log.shut_on M hl hon
    by_cases h0 : (M.sync (name s.1)).2 = 0
    · left
      rw [if_pos h0] at es
      obtain ⟨k, hk⟩ := sync_zero h0
      obtain ⟨g1, g2, g3⟩ := sync_good h.ok h0 hk
      rw [es] at hext ⊢
      refine ⟨rfl, rfl, fun ho q hq => ?_⟩
      have hp := h.opn ho q hq
      obtain ⟨i, h1, h2, h3⟩ := hp.file
      have e := hext _ _ h1
      refine ⟨i, e.now, ?_, h2.mono hp.good (e.bytes i)⟩
      rcases h3 with h3 | ⟨_, s', hs', e2⟩
      · exact h3.mono hp.good (e.fast i)
      · rw [hl] at hs'
        cases hs'
        rw [← e2, hk] at h1
        cases h1
        show Slice q.1 q.2 ((M.sync (name s.1)).1.file k).fast
        rw [g2]; exact h2
    · right
      rw [if_neg h0] at es
      rw [es]
      exact ⟨h0, rfl, (sync_fail h0).1, (sync_fail h0).2⟩
theorem has_ext {L' : Log} (hL : L.Ok) (h : Has L M) (e : ∀ s i, nget M.now s = some i → s ≠ ByteArray.empty → Ext s i M M') (hm : ∀ s ∈ L'.l, s ∈ L.l ∨ ∃ i, nget M'.now (name s.1) = some i) : Has L' M' := by
  intro s hs
  rcases hm s hs with h1 | h1
  · obtain ⟨i, hi⟩ := h s h1
    exact ⟨i, (e _ _ hi (num_of hL (List.mem_map.2 ⟨s, h1, rfl⟩)).2.2).now⟩
  · exact h1
theorem has_nums {L' : Log} (e : L'.l.map (·.1) = L.l.map (·.1)) (h : Has L M) : Has L' M := by
  intro s hs
  have : s.1 ∈ L.l.map (·.1) := by rw [← e]; exact List.mem_map.2 ⟨s, hs, rfl⟩
  obtain ⟨t, ht, e2⟩ := List.mem_map.1 this
  rw [← e2]; exact h t ht
theorem St.append (h : St K L M sure opn) (x : Frm.Ent) (hk : x.key.length = 32) :
    St (K + 4) (L.append M x).1.1 (L.append M x).1.2 sure (if (L.append M x).2.2 = 0 then opn ++ [((L.append M x).2.1, x)] else opn) ∧
    ((L.append M x).2.2 = 0 → (L.append M x).1.1.on = true ∧ ∃ s, (L.append M x).1.1.l.getLast? = some s ∧ s.1 = (L.append M x).2.1.seg) := by
  have hLog := h.log.append M x hk
  have hOk := Log.append_med (L := L) h.ok x
  have hGrow := lappend_grow (L := L) h.ok h.grow x
  have hNf := lappend_nf (M := M) h.log x
  have hSure : ∀ q ∈ sure, Sure (L.append M x).1.1 (L.append M x).1.2 q.1 q.2 := fun q hq => by
    have hq' := h.sure q hq
    refine hq'.ext (by rw [hNf]; exact hq'.mem) fun i hi => lappend_ext h.ok h.grow hi (num_of h.log (nf_mem hq'.mem)).2.2 x
  have hOff : (L.append M x).1.2.off = false → M.off = false := fun ho => by
    cases hm : M.off with
    | false => rfl
    | true => rw [(off_lappend hm h.log x).1, hm] at ho; cases ho
  have hExt : ∀ s i, nget M.now s = some i → s ≠ ByteArray.empty → Ext s i M (L.append M x).1.2 := fun s i hs hse => lappend_ext h.ok h.grow hs hse x
  by_cases h0 : (Frm.encode x).2 = 0
  · cases hf : L.fits (Frm.encode x).1.length with
    | true =>
      have hgn := grow_nums L M (Frm.encode x).1
      rw [Log.append_grow h0 hf] at *
      obtain ⟨hn1, hn2, hn3⟩ := hgn
      have hf' := hf
      unfold Log.fits at hf'
      rw [Bool.and_eq_true] at hf'
      obtain ⟨s, k, hl, hk1, hk2⟩ := h.tail hf'.1
      have hE : L.grow M (Frm.encode x).1 = if (M.append (name s.1) (Frm.encode x).1).2 = 0 then (({ L with l := L.l.dropLast ++ [(s.1, s.2 + ((Frm.encode x).1.length : Int))] }, (M.append (name s.1) (Frm.encode x).1).1), ⟨s.1, s.2, (Frm.encode x).1.length⟩, 0) else ((L, (M.append (name s.1) (Frm.encode x).1).1), Plc.zero, (M.append (name s.1) (Frm.encode x).1).2) := by
        unfold Log.grow; rw [hl]
      by_cases ha : (M.append (name s.1) (Frm.encode x).1).2 = 0
      · obtain ⟨k', a1, a2, a3⟩ := append_good h.ok ha
        rw [hk1] at a1
        cases a1
        rw [if_pos ha] at hE
        have hG : GoodE x := ⟨h0, hk⟩
        have hPend : M.off = false → ∀ q ∈ opn, Pend (L.grow M (Frm.encode x).1).1.1 (L.grow M (Frm.encode x).1).1.2 q.1 q.2 := fun ho q hq => by
          have hp := h.opn ho q hq
          obtain ⟨i, h1, h2, h3⟩ := hp.file
          have e := hExt _ _ h1 (num_of h.log hp.mem).2.2
          refine ⟨hp.good, by rw [hn1]; exact hp.mem, i, e.now, h2.mono hp.good (e.bytes i), ?_⟩
          rcases h3 with h3 | ⟨c1, s', hs', e2⟩
          · exact .inl (h3.mono hp.good (e.fast i))
          · right
            rw [hl] at hs'
            cases hs'
            rw [hn3]
            refine ⟨c1, (s.1, s.2 + ((Frm.encode x).1.length : Int)), ?_, e2⟩
            rw [hE]; simp
        have hHas : Has (L.grow M (Frm.encode x).1).1.1 (L.grow M (Frm.encode x).1).1.2 := by
          refine has_nums (L := L) hn1 ?_
          exact has_ext h.log h.has hExt fun s hs => .inl hs
        rw [hE] at hLog hOk hGrow hSure hOff hExt hHas hPend ⊢
        simp only [if_true] at hLog hOk hGrow hSure hOff hExt hHas hPend ⊢
        refine ⟨⟨hLog, hOk, hGrow, hHas, fun _ => ⟨(s.1, s.2 + ((Frm.encode x).1.length : Int)), k, by simp, by show nget (M.append _ _).1.now _ = _; rw [a2]; exact hk1, ?_⟩, hSure, fun ho q hq => ?_⟩, fun _ => ⟨hf'.1, (s.1, s.2 + ((Frm.encode x).1.length : Int)), by simp, rfl⟩⟩
        · show s.2 + ((Frm.encode x).1.length : Int) = (((M.append (name s.1) (Frm.encode x).1).1.file k).now.length : Int)
          rw [a3, List.length_append]; omega
        · rcases List.mem_append.1 hq with hq | hq
          · exact hPend (hOff ho) q hq
          · rw [List.mem_singleton.1 hq]
            refine ⟨hG, by simp, k, by show nget (M.append _ _).1.now _ = _; rw [a2]; exact hk1, ⟨(M.file k).now.length, hk2, rfl, ?_⟩, .inr ⟨hf'.1, (s.1, s.2 + ((Frm.encode x).1.length : Int)), by simp, rfl⟩⟩
            show _ <+: ((M.append (name s.1) (Frm.encode x).1).1.file k).now.drop _
            rw [a3, List.drop_append, List.drop_length, Nat.sub_self]
            exact List.prefix_refl _
      · rw [if_neg ha] at hE
        obtain ⟨a1, a2⟩ := append_fail ha
        rw [hE] at hLog hOk hGrow hSure hOff hExt ⊢
        simp only [if_neg ha] at hLog hOk hGrow hSure hOff hExt ⊢
        refine ⟨⟨hLog, hOk, hGrow, fun s hs => by show ∃ i, nget (M.append _ _).1.now _ = _; rw [a1]; exact h.has s hs, fun _ => ⟨s, k, hl, by show nget (M.append _ _).1.now _ = _; rw [a1]; exact hk1, by unfold Med.file; rw [a2]; exact hk2⟩, hSure, fun ho q hq => ?_⟩, fun hh => absurd hh ha⟩
        have hp := h.opn (hOff ho) q hq
        obtain ⟨i, h1, h2, h3⟩ := hp.file
        have e := hExt _ _ h1 (num_of h.log hp.mem).2.2
        refine ⟨hp.good, hp.mem, i, e.now, h2.mono hp.good (e.bytes i), ?_⟩
        rcases h3 with h3 | h3
        · exact .inl (h3.mono hp.good (e.fast i))
        · exact .inr h3
    | false =>
      rw [Log.append_begin h0 hf] at *
      have hsh := h.shut
      have hsame := shut_same L M
      have hshok := Log.shut_med (L := L) h.ok
      have hshg := shut_grow (L := L) h.ok h.grow
      have hshlog := h.log.shut M
      have hshext : ∀ s i, nget M.now s = some i → Ext s i M (L.shut M).1.2 := fun s i hs => shut_ext h.ok h.grow hs
      have hB : L.begin M (Frm.encode x).1 = if (L.shut M).2 = 0 then (L.shut M).1.1.begin1 (L.shut M).1.2 (Frm.encode x).1 else ((L.shut M).1, Plc.zero, (L.shut M).2) := rfl
      rcases hsh with ⟨b1, b2, b3⟩ | ⟨b1, b2, b3, b4⟩
      · rw [if_pos b1] at hB
        have hb1ext : ∀ s i, nget (L.shut M).1.2.now s = some i → s ≠ ByteArray.empty → Ext s i (L.shut M).1.2 ((L.shut M).1.1.begin1 (L.shut M).1.2 (Frm.encode x).1).1.2 := fun s i hs hse => begin1_ext hshok hshg hs hse _
        have hHas1 : Has (L.shut M).1.1 (L.shut M).1.2 := by
          intro s hs
          rw [hsame.1] at hs
          obtain ⟨i, hi⟩ := h.has s hs
          exact ⟨i, (hshext _ _ hi).now⟩
        obtain ⟨hsl, hsf⟩ := hsame
        generalize (L.shut M).1.1 = L1 at *
        generalize (L.shut M).1.2 = M1 at *
        have hC : ∀ (r : (Log × Med) × Plc × Int), r = L1.begin1 M1 (Frm.encode x).1 → (r.2.2 ≠ 0 ∧ r.1.1 = L1) ∨ (r.2.2 = 0 ∧ r.1.1 = { L1 with l := L1.l ++ [(L1.next, 8 + ((Frm.encode x).1.length : Int))], on := true, fresh := L1.fresh + 1 } ∧ r.2.1 = ⟨L1.next, 8, (Frm.encode x).1.length⟩ ∧
            nget r.1.2.now (name L1.next) = some M1.files.length ∧ (r.1.2.file M1.files.length).now = mag ++ (Frm.encode x).1) := by
          rintro r rfl
          unfold Log.begin1
          split; · exact .inl ⟨(by decide : (16 : Int) ≠ 0), rfl⟩
          split; · rename_i e; exact .inl ⟨e, rfl⟩
          rename_i e1
          simp only [ne_eq, Decidable.not_not] at e1
          obtain ⟨d1, d2, d3, d4⟩ := create_good hshok e1
          split
          · rename_i e2
            obtain ⟨k', a1, a2, a3⟩ := append_good (hshok.create _) e2
            rw [d2] at a1
            cases a1
            refine .inr ⟨rfl, rfl, rfl, ?_, ?_⟩
            · show nget (Med.append _ _ _).1.now _ = _; rw [a2]; exact d2
            · show (Med.file (Med.append _ _ _).1 _).now = _; rw [a3, d3]; rfl
          split
          · left
            refine ⟨?_, rfl⟩
            simp only
            split
            · decide
            · rename_i e3 e4 e5; exact e5
          · rename_i e2 e3
            exact .inl ⟨e2, rfl⟩
        have hC := hC _ rfl
        rw [hB] at hLog hOk hGrow hSure hOff ⊢
        generalize L1.begin1 M1 (Frm.encode x).1 = r at *
        obtain ⟨⟨L2, M2⟩, p2, ee⟩ := r
        simp only at *
        have hPend : ∀ L', (∀ n ∈ L.l.map (·.1), n ∈ L'.l.map (·.1)) → M.off = false → ∀ q ∈ opn, Pend L' M2 q.1 q.2 := fun L' hm ho q hq => by
          have hp := h.opn ho q hq
          obtain ⟨i, h1, h2, h3⟩ := b3 ho q hq
          have e := hb1ext _ _ h1 (num_of h.log hp.mem).2.2
          exact ⟨hp.good, hm _ hp.mem, i, e.now, h3.mono hp.good (e.bytes i), .inl (h2.mono hp.good (e.fast i))⟩
        rcases hC with ⟨c1, c2⟩ | ⟨c1, c2, c3, c4, c5⟩
        · subst c2
          simp only [if_neg c1]
          refine ⟨⟨hLog, hOk, hGrow, fun s hs => ?_, fun ho => (by rw [b2] at ho; cases ho), hSure, fun ho => hPend _ (fun n hn => by rw [hsl]; exact hn) (hOff ho)⟩, fun hh => absurd hh c1⟩
          obtain ⟨i, hi⟩ := hHas1 s hs
          exact ⟨i, (hb1ext _ _ hi (num_of hshlog (List.mem_map.2 ⟨s, hs, rfl⟩)).2.2).now⟩
        · subst c1
          simp only [if_true]
          subst c2
          subst c3
          have hG : GoodE x := ⟨h0, hk⟩
          refine ⟨⟨hLog, hOk, hGrow, fun s hs => ?_, fun _ => ⟨(L1.next, 8 + ((Frm.encode x).1.length : Int)), M1.files.length, by simp, c4, ?_⟩, hSure, fun ho q hq => ?_⟩, fun _ => ⟨rfl, (L1.next, 8 + ((Frm.encode x).1.length : Int)), by simp, rfl⟩⟩
          · rcases List.mem_append.1 hs with hs | hs
            · obtain ⟨i, hi⟩ := hHas1 s hs
              exact ⟨i, (hb1ext _ _ hi (num_of hshlog (List.mem_map.2 ⟨s, hs, rfl⟩)).2.2).now⟩
            · rw [List.mem_singleton.1 hs]; exact ⟨_, c4⟩
          · show 8 + ((Frm.encode x).1.length : Int) = _
            rw [c5, List.length_append]; have : mag.length = 8 := rfl; omega
          · rcases List.mem_append.1 hq with hq | hq
            · refine hPend _ (fun n hn => ?_) (hOff ho) q hq
              simp only [List.map_append]
              exact List.mem_append_left _ (by rw [hsl]; exact hn)
            · rw [List.mem_singleton.1 hq]
              refine ⟨hG, by simp, M1.files.length, c4, ⟨8, rfl, rfl, ?_⟩, .inr ⟨rfl, (L1.next, 8 + ((Frm.encode x).1.length : Int)), by simp, rfl⟩⟩
              simp only
              rw [c5]
              exact List.prefix_refl _
      · rw [if_neg b1] at hB
        rw [hB] at hLog hOk hGrow hSure hOff ⊢
        simp only [if_neg b1] at hLog hOk hGrow hSure hOff ⊢
        rw [b2] at hLog hSure ⊢
        refine ⟨⟨hLog, hOk, hGrow, fun s hs => by rw [b3]; exact h.has s hs, fun hon => ?_, hSure, fun ho q hq => ?_⟩, fun hh => absurd hh b1⟩
        · obtain ⟨s, k, q1, q2, q3⟩ := h.tail hon
          exact ⟨s, k, q1, by rw [b3]; exact q2, by unfold Med.file; rw [b4]; exact q3⟩
        · have hp := h.opn (hOff ho) q hq
          obtain ⟨i, h1, h2, h3⟩ := hp.file
          have e := hshext _ _ h1
          refine ⟨hp.good, hp.mem, i, e.now, h2.mono hp.good (e.bytes i), ?_⟩
          rcases h3 with h3 | h3
          · exact .inl (h3.mono hp.good (e.fast i))
          · exact .inr h3
  · rw [Log.append_bad h0] at *
    simp only [if_neg h0] at *
    exact ⟨⟨hLog, hOk, hGrow, h.has, h.tail, hSure, h.opn⟩, fun hh => absurd hh h0⟩
end
end Go.Seg
namespace Go.Seg
open Go.Med
open Go.Frm (encs GoodE)
section
variable {K K' : Nat} {M M' : Med} {L : Log} {s t : ByteArray} {i : Nat} {sure opn : List (Plc × Frm.Ent)}
theorem St.mono (h : St K L M sure opn) (hk : K ≤ K') : St K' L M sure opn := ⟨h.log, h.ok.mono hk, h.grow, h.has, h.tail, h.sure, h.opn⟩
theorem St.sub {sure' opn' : List (Plc × Frm.Ent)} (h : St K L M sure opn) (h1 : ∀ q ∈ sure', q ∈ sure) (h2 : ∀ q ∈ opn', q ∈ opn) : St K L M sure' opn' :=
  ⟨h.log, h.ok, h.grow, h.has, h.tail, fun q hq => h.sure q (h1 q hq), fun ho q hq => h.opn ho q (h2 q hq)⟩
theorem St.ext (h : St K L M sure opn) (ok' : M'.Ok K') (g' : Grow M') (e : ∀ s i, nget M.now s = some i → s ≠ ByteArray.empty → Ext s i M M')
    (ht : L.on = true → ∃ s i, L.l.getLast? = some s ∧ nget M'.now (name s.1) = some i ∧ s.2 = ((M'.file i).now.length : Int)) (ho : M'.off = false → M.off = false) : St K' L M' sure opn := by
  refine ⟨h.log, ok', g', has_ext h.log h.has e fun s hs => .inl hs, ht, fun q hq => ?_, fun hoff q hq => ?_⟩
  · have hq' := h.sure q hq
    exact hq'.ext hq'.mem fun i hi => e _ _ hi (num_of h.log (nf_mem hq'.mem)).2.2
  · have hp := h.opn (ho hoff) q hq
    obtain ⟨i, h1, h2, h3⟩ := hp.file
    have e' := e _ _ h1 (num_of h.log hp.mem).2.2
    refine ⟨hp.good, hp.mem, i, e'.now, h2.mono hp.good (e'.bytes i), ?_⟩
    rcases h3 with h3 | h3
    · exact .inl (h3.mono hp.good (e'.fast i))
    · exact .inr h3
theorem tail_like (h : St K L M sure opn) (e1 : M'.now = M.now) (e2 : M'.files = M.files) : L.on = true → ∃ s i, L.l.getLast? = some s ∧ nget M'.now (name s.1) = some i ∧ s.2 = ((M'.file i).now.length : Int) := fun hon => by
  obtain ⟨s, k, q1, q2, q3⟩ := h.tail hon
  exact ⟨s, k, q1, by rw [e1]; exact q2, by unfold Med.file; rw [e2]; exact q3⟩
theorem St.arm (h : St K L M sure opn) (n : Int) (hn : n ≤ 9223372036854775807) : St K L (M.arm n).1 sure opn :=
  h.ext (h.ok.arm n hn) (h.grow.arm n) (fun s i hs _ => arm_ext hs n) (tail_like h (arm_now M n).1 (arm_now M n).2) (fun ho => by rw [arm_off] at ho; exact ho)
theorem step_off (h : M.step.2 = false) : M.step.1.off = true := by
  unfold Med.step at h ⊢
  split at h
  · rename_i e; rw [if_pos e]
    split at h
    · rename_i e2; rw [if_pos e2]
    · cases h
  · cases h
theorem remove_off' (h : (M.remove t).1.off = false) : M.off = false := by
  cases hm : M.off with
  | false => rfl
  | true => rw [off_remove hm, hm] at h; cases h
theorem syncDir_same (M : Med) : M.syncDir.1.now = M.now ∧ M.syncDir.1.files = M.files := by
  obtain ⟨_, sf, sn, sfi, sw⟩ := M.step_same
  unfold Med.syncDir
  split; · exact ⟨rfl, rfl⟩
  split
  · exact ⟨sn, sfi⟩
  · exact ⟨sn, sfi⟩
theorem remove_fail (hi : nget M.now t = some i) (h : (M.remove t).2 ≠ 0) : (M.remove t).1.off = true ∧ (M.remove t).1.now = M.now ∧ (M.remove t).1.files = M.files := by
  obtain ⟨_, sf, sn, sfi, sw⟩ := M.step_same
  unfold Med.remove at h ⊢
  split at h
  · rename_i e; rw [if_pos e]; exact ⟨e, rfl, rfl⟩
  rename_i e
  rw [if_neg e]
  rw [hi] at h ⊢
  simp only at h ⊢
  split at h
  · rename_i e2; rw [if_pos e2]; exact ⟨step_off e2, sn, sfi⟩
  · exact absurd rfl h
theorem remove_same (M : Med) (t : ByteArray) : (M.remove t).1.files = M.files := by
  obtain ⟨_, sf, sn, sfi, sw⟩ := M.step_same
  unfold Med.remove
  split; · rfl
  split; · rfl
  split
  · exact sfi
  · exact sfi
theorem rise_inj (hL : L.Ok) {a b : Nat} {x : Int} (ha : (L.l.map (·.1))[a]? = some x) (hb : (L.l.map (·.1))[b]? = some x) : a = b := by
  obtain ⟨h1, e1⟩ := List.getElem?_eq_some_iff.1 ha
  obtain ⟨h2, e2⟩ := List.getElem?_eq_some_iff.1 hb
  have hp := List.pairwise_iff_getElem.1 hL.rise
  rcases Nat.lt_trichotomy a b with q | q | q
  · have := hp a b h1 h2 q; omega
  · exact q
  · have := hp b a h2 h1 q; omega
theorem at_num {n : Int} {k : Nat} (h : L.at n = some k) : (L.l.map (·.1))[k]? = some n := by
  obtain ⟨h1, s, h2, h3⟩ := Log.at_lt h
  rw [List.getElem?_map, h2, ← h3]; rfl
theorem erase_num {n : Int} {k : Nat} (hL : L.Ok) (h : L.at n = some k) {s : Int × Int} (hs : s ∈ L.l.eraseIdx k) : s ∈ L.l ∧ s.1 ≠ n := by
  refine ⟨(List.eraseIdx_sublist _ _).mem hs, fun e => ?_⟩
  obtain ⟨j, hj⟩ := List.getElem?_of_mem hs
  rw [List.getElem?_eraseIdx] at hj
  have hn := at_num h
  split at hj
  · rename_i hlt
    have : (L.l.map (·.1))[j]? = some n := by rw [List.getElem?_map, hj, ← e]; rfl
    have := rise_inj hL this hn
    omega
  · rename_i hlt
    have : (L.l.map (·.1))[j + 1]? = some n := by rw [List.getElem?_map, hj, ← e]; rfl
    have := rise_inj hL this hn
    omega
theorem nf_without {n : Int} {k : Nat} (hL : L.Ok) (h : L.at n = some k) {x : Int} (hx : x ∈ nf L) (hne : x ≠ n) : x ∈ nf (L.without k) := by
  have hkl := (Log.at_lt h).1
  have hn := at_num h
  have hf := hL.fresh
  obtain ⟨j, hj⟩ := List.getElem?_of_mem hx
  unfold nf at hj
  rw [List.getElem?_take] at hj
  split at hj
  · rename_i hjt
    have hjk : j ≠ k := fun e => by rw [e, hn] at hj; exact hne (Option.some.inj hj).symm
    have hlen : (L.l.eraseIdx k).length = L.l.length - 1 := List.length_eraseIdx_of_lt hkl
    obtain ⟨j', hj1, hj2⟩ : ∃ j', ((L.without k).l.map (·.1))[j']? = some x ∧ (j < k ∧ j' = j ∨ k < j ∧ j' = j - 1) := by
      rcases Nat.lt_or_ge j k with q | q
      · refine ⟨j, ?_, .inl ⟨q, rfl⟩⟩
        show ((L.l.eraseIdx k).map (·.1))[j]? = some x
        rw [List.getElem?_map, List.getElem?_eraseIdx, if_pos q, ← List.getElem?_map]; exact hj
      · refine ⟨j - 1, ?_, .inr ⟨by omega, rfl⟩⟩
        show ((L.l.eraseIdx k).map (·.1))[j - 1]? = some x
        rw [List.getElem?_map, List.getElem?_eraseIdx, if_neg (by omega), show j - 1 + 1 = j by omega, ← List.getElem?_map]; exact hj
    unfold nf
    refine List.mem_of_getElem? (i := j') ?_
    rw [List.getElem?_take, if_pos]
    · exact hj1
    · show j' < (L.l.eraseIdx k).length - (if (L.l.length : Int) - L.fresh ≤ k then L.fresh - 1 else L.fresh).toNat
      rw [hlen]
      split <;> omega
  · cases hj
theorem last_erase {α : Type} (l : List α) (k : Nat) (h : k + 1 < l.length) : (l.eraseIdx k).getLast? = l.getLast? := by
  rw [List.getLast?_eq_getElem?, List.getLast?_eq_getElem?, List.length_eraseIdx_of_lt (by omega), List.getElem?_eraseIdx, if_neg (by omega)]
  congr 1
  omega
theorem St.remove (h : St K L M sure opn) (n : Int) (hs : ∀ q ∈ sure, q.1.seg ≠ n) (ho : ∀ q ∈ opn, q.1.seg ≠ n) : St (K + 1) (L.remove M n).1.1 (L.remove M n).1.2 sure opn := by
  have hlog := h.log.remove M n
  unfold Log.remove at hlog ⊢
  cases hat : L.at n with
  | none => exact h.mono (Nat.le_succ K)
  | some k =>
    rw [hat] at hlog
    simp only at hlog ⊢
    obtain ⟨hkl, sk, hsk, hskn⟩ := Log.at_lt hat
    have hnn : 0 ≤ n ∧ n < 1048576 := by have := h.log.nums sk (List.mem_of_getElem? hsk); omega
    obtain ⟨i0, hi0⟩ := h.has sk (List.mem_of_getElem? hsk)
    rw [hskn] at hi0
    have hne : ∀ x : Int, x ∈ L.l.map (·.1) → x ≠ n → name n ≠ name x := fun x hx hxn e => by
      have := num_of h.log hx
      exact hxn (name_inj this.1 this.2.1 hnn.1 hnn.2 e.symm)
    have okr := h.ok.remove (name n)
    have gr := h.grow.remove (name n)
    by_cases he : (M.remove (name n)).2 = 0
    · simp only [he, if_true] at hlog ⊢
      have ext : ∀ x : Int, x ∈ L.l.map (·.1) → x ≠ n → ∀ i, nget M.now (name x) = some i → Ext (name x) i M (M.remove (name n)).1 := fun x hx hxn i hi => remove_ext hi (num_of h.log hx).2.2 (hne x hx hxn)
      refine ⟨hlog, okr, gr, fun s hs' => ?_, fun hon => ?_, fun q hq => ?_, fun hoff q hq => ?_⟩
      · obtain ⟨m1, m2⟩ := erase_num h.log hat hs'
        obtain ⟨i, hi⟩ := h.has s m1
        exact ⟨i, (ext s.1 (List.mem_map.2 ⟨s, m1, rfl⟩) m2 i hi).now⟩
      · have hon' : (if k + 1 = L.l.length then false else L.on) = true := hon
        split at hon'
        · cases hon'
        rename_i hk1
        obtain ⟨s, j, q1, q2, q3⟩ := h.tail hon'
        have hle := last_erase L.l k (by omega)
        have hs2 : (L.l.eraseIdx k).getLast? = some s := by rw [hle]; exact q1
        obtain ⟨m1, m2⟩ := erase_num h.log hat (List.mem_of_getLast? hs2)
        refine ⟨s, j, hs2, (ext s.1 (List.mem_map.2 ⟨s, m1, rfl⟩) m2 j q2).now, ?_⟩
        unfold Med.file
        rw [remove_same]; exact q3
      · have hq' := h.sure q hq
        exact hq'.ext (nf_without h.log hat hq'.mem (hs q hq)) fun i hi => ext _ (nf_mem hq'.mem) (hs q hq) i hi
      · have hp := h.opn (remove_off' hoff) q hq
        obtain ⟨i, i1, i2, i3⟩ := hp.file
        have e := ext _ hp.mem (ho q hq) i i1
        obtain ⟨s, hs1, hs2⟩ := List.mem_map.1 hp.mem
        have hsm : s ∈ L.l.eraseIdx k := by
          obtain ⟨j, hj⟩ := List.getElem?_of_mem hs1
          have hjk : j ≠ k := fun e => by
            rw [e, hsk] at hj
            cases hj
            exact ho q hq (by rw [← hs2]; exact hskn)
          rcases Nat.lt_or_ge j k with q' | q'
          · exact List.mem_of_getElem? (i := j) (by rw [List.getElem?_eraseIdx, if_pos q']; exact hj)
          · exact List.mem_of_getElem? (i := j - 1) (by rw [List.getElem?_eraseIdx, if_neg (by omega), show j - 1 + 1 = j by omega]; exact hj)
        refine ⟨hp.good, List.mem_map.2 ⟨s, hsm, hs2⟩, i, e.now, i2.mono hp.good (e.bytes i), ?_⟩
        rcases i3 with i3 | ⟨c1, s', c2, c3⟩
        · exact .inl (i3.mono hp.good (e.fast i))
        · right
          have hk1 : k + 1 ≠ L.l.length := fun e => by
            rw [List.getLast?_eq_getElem?, ← e, Nat.add_sub_cancel, hsk] at c2
            cases c2
            exact ho q hq (by rw [← c3]; exact hskn)
          refine ⟨?_, s', ?_, c3⟩
          · show (if k + 1 = L.l.length then false else L.on) = true
            rw [if_neg hk1]; exact c1
          · show (L.l.eraseIdx k).getLast? = some s'
            rw [last_erase _ _ (by omega)]; exact c2
    · simp only [he, if_false] at hlog ⊢
      obtain ⟨f1, f2, f3⟩ := remove_fail hi0 he
      refine h.ext okr gr (fun s i hs' hse => ?_) (tail_like h f2 f3) remove_off'
      unfold Med.remove at he ⊢
      split at he
      · rename_i e; rw [if_pos e]; exact Ext.refl hs'
      rename_i e
      rw [if_neg e, hi0] at *
      simp only at he ⊢
      split at he
      · rename_i e2; rw [if_pos e2]; exact step_ext hs'
      · exact absurd rfl he
theorem nf_last (hL : L.Ok) {s : Int × Int} (hs : L.l.getLast? = some s) (hf : 1 ≤ L.fresh) : s.1 ∉ nf L := by
  intro hm
  obtain ⟨j, hj⟩ := List.getElem?_of_mem hm
  unfold nf at hj
  rw [List.getElem?_take] at hj
  split at hj
  · rename_i hlt
    rw [List.getLast?_eq_getElem?] at hs
    have h2 : (L.l.map (·.1))[L.l.length - 1]? = some s.1 := by rw [List.getElem?_map, hs]; rfl
    have := rise_inj hL hj h2
    have := hL.fresh
    omega
  · cases hj
theorem St.back : ∀ (k : Nat) {K : Nat} {L : Log} {M : Med}, St K L M sure [] → L.fresh = k → St (K + k) (L.back k M).1.1 (L.back k M).1.2 sure [] ∧ ((L.back k M).2 ≠ 0 → (L.back k M).1.2.off = true)
  | 0, K, L, M, h, hf => ⟨⟨h.log.shutOff, h.ok, h.grow, h.has, fun hh => (by cases hh), fun q hq => (h.sure q hq).ext (L' := { L with on := false }) (h.sure q hq).mem (fun i hi => Ext.refl hi), fun _ q hq => by cases hq⟩, fun hh => absurd rfl hh⟩
  | k + 1, K, L, M, h, hf => by
    have hfr := h.log.fresh
    unfold Log.back
    cases hl : L.l.getLast? with
    | none =>
      exfalso
      have := List.getLast?_eq_none_iff.1 hl
      rw [this] at hfr
      simp only [List.length_nil] at hfr
      omega
    | some s =>
      simp only
      have hat := h.log.at_last hl
      have hrm := h.remove s.1 (fun q hq e => nf_last h.log hl (by omega) (by rw [← e]; exact (h.sure q hq).mem)) (fun q hq => by cases hq)
      obtain ⟨i0, hi0⟩ := h.has s (List.mem_of_getLast? hl)
      by_cases he : (L.remove M s.1).2 = 0
      · rw [if_pos he]
        have hfr2 : (L.remove M s.1).1.1.fresh = k := by
          unfold Log.remove at he ⊢
          rw [hat] at he ⊢
          simp only at he ⊢
          split at he
          · rename_i e; rw [if_pos e]
            show (if (L.l.length : Int) - L.fresh ≤ ((L.l.length - 1 : Nat) : Int) then L.fresh - 1 else L.fresh) = k
            rw [if_pos (by omega)]; omega
          · rename_i e; exact absurd he e
        have := St.back k hrm hfr2
        rw [show K + (k + 1) = K + 1 + k by omega]
        exact this
      · rw [if_neg he]
        refine ⟨hrm.mono (by omega), fun _ => ?_⟩
        unfold Log.remove at he ⊢
        rw [hat] at he ⊢
        simp only at he ⊢
        split at he
        · exact absurd rfl he
        · rename_i e; rw [if_neg e]; exact (remove_fail hi0 e).1
theorem St.rollback (h : St K L M sure opn) : St (K + 1048576) (L.rollback M).1.1 (L.rollback M).1.2 sure (if (L.rollback M).2 = 0 then [] else opn) := by
  have h0 := h.sub (sure' := sure) (opn' := []) (fun q hq => hq) (fun q hq => by cases hq)
  have hf := h.log.fresh
  have hlen := h.log.len
  obtain ⟨h1, h2⟩ := h0.back L.fresh.toNat (by omega)
  have h3 := h1.mono (K' := K + 1048576) (by omega)
  unfold Log.rollback
  by_cases he : (L.back L.fresh.toNat M).2 = 0
  · rw [if_pos he]; exact h3
  · rw [if_neg he]
    exact ⟨h3.log, h3.ok, h3.grow, h3.has, h3.tail, h3.sure, fun ho => by rw [h2 he] at ho; cases ho⟩
end
end Go.Seg
namespace Go.Med
def FCap (c : Nat) (f : Fil) : Prop := ∀ k, k ≤ f.waits.length → (f.at k).length ≤ c
section
variable {c c' K : Nat} {f : Fil} {M : Med}
theorem FCap.mono (h : FCap c f) (hc : c ≤ c') : FCap c' f := fun k hk => Nat.le_trans (h k hk) hc
theorem FCap.new (c : Nat) : FCap c Fil.new := fun k _ => by simp [Fil.new, Fil.at]
theorem FCap.flat {b : Bs} (h : b.length ≤ c) : FCap c ⟨b, b, []⟩ := fun k _ => by simpa [Fil.at] using h
theorem FCap.now (h : FCap c f) (ok : f.Ok K) : f.now.length ≤ c := by rw [ok.now]; exact h _ (Nat.le_refl _)
theorem FCap.put (h : FCap c f) (ok : f.Ok K) (b : Bs) : FCap (c + b.length) (f.do ⟨false, 0, b⟩) := fun k hk => by
  have hw : (f.do ⟨false, 0, b⟩).waits.length = f.waits.length + 1 := by simp [Fil.do]
  rw [hw] at hk
  rcases Nat.lt_or_ge k (f.waits.length + 1) with hlt | hge
  · rw [f.at_do _ k (by omega)]; have := h k (by omega); omega
  · obtain rfl : k = f.waits.length + 1 := by omega
    rw [f.at_do_last _ ok.now]
    unfold Chg.on
    simp only [Bool.false_eq_true, if_false, List.length_append]
    have := h.now ok; omega
theorem FCap.sync (h : FCap c f) (ok : f.Ok K) : FCap c f.sync := fun k _ => by
  simp only [Fil.sync, Fil.at, List.take_nil, List.foldl_nil]; exact h.now ok
theorem FCap.left (h : FCap c f) (a b : Int) : (f.left a b).length ≤ c := by
  unfold Fil.left
  have hk := clampN_le a f.waits.length
  generalize clampN a f.waits.length = k at *
  simp only
  cases hc : f.waits[k]? with
  | none => exact h k hk
  | some d =>
    simp only
    split
    · exact h k hk
    · rename_i hcut
      have hlt := (List.getElem?_eq_some_iff.1 hc).1
      have := h (k + 1) hlt
      rw [f.at_succ k d hc] at this
      unfold Chg.on at this
      rw [if_neg hcut] at this
      simp at this ⊢
      have : min (clampN b d.b.length) d.b.length ≤ d.b.length := Nat.min_le_right _ _
      omega
theorem FCap.crash (h : FCap c f) (a b : Int) : FCap c (f.crash a b) := FCap.flat (h.left a b)
def Med.Cap (c : Nat) (M : Med) : Prop := ∀ f ∈ M.files, FCap c f
theorem Med.Cap.mono (h : M.Cap c) (hc : c ≤ c') : M.Cap c' := fun f hf => (h f hf).mono hc
theorem Med.Cap.like {M' : Med} (h : M.Cap c) (e : M'.files = M.files) : M'.Cap c := fun f hf => h f (e ▸ hf)
theorem Med.Cap.file (h : M.Cap c) (i : Nat) : FCap c (M.file i) := by
  unfold Med.file
  rcases Nat.lt_or_ge i M.files.length with hi | hi
  · rw [List.getD_eq_getElem?_getD, List.getElem?_eq_getElem hi]; exact h _ (List.getElem_mem hi)
  · rw [List.getD_eq_getElem?_getD, List.getElem?_eq_none hi]; exact FCap.new c
theorem Med.Cap.new (c room : Nat) : (Med.new room).Cap c := fun f hf => by cases hf
theorem Med.Cap.step (h : M.Cap c) : M.step.1.Cap c := h.like M.step_same.2.2.2.1
theorem Med.Cap.set (h : M.Cap c) (i : Nat) (hf : FCap c f) : (M.setFile i f).Cap c := fun g hg => by
  rcases List.mem_or_eq_of_mem_set hg with hg | rfl
  · exact h g hg
  · exact hf
theorem Med.Cap.create (h : M.Cap c) (s : ByteArray) : (M.create s).1.Cap c := by
  unfold Med.create
  split; · exact h
  split; · exact h
  split; · exact h
  split; · exact h
  split; · exact h.step
  intro f hf
  rcases List.mem_append.1 hf with hf | hf
  · exact h f hf
  · rw [List.mem_singleton.1 hf]; exact FCap.new c
theorem Med.Cap.append (h : M.Cap c) (ok : M.Ok K) (s : ByteArray) (b : Bs) : (M.append s b).1.Cap (c + b.length) := by
  have h' : M.Cap (c + b.length) := h.mono (Nat.le_add_right _ _)
  unfold Med.append
  split; · exact h'
  split; · exact h'
  split; · exact h'
  split; · exact h'.step
  exact h'.step.set _ ((h.file _).put (ok.file _) b)
theorem Med.Cap.remove (h : M.Cap c) (s : ByteArray) : (M.remove s).1.Cap c := h.like (Seg.remove_same M s)
theorem Med.Cap.sync (h : M.Cap c) (ok : M.Ok K) (s : ByteArray) : (M.sync s).1.Cap c := by
  unfold Med.sync
  split; · exact h
  split; · exact h
  split; · exact h.step
  exact h.step.set _ ((h.file _).sync (ok.file _))
theorem Med.Cap.syncDir (h : M.Cap c) : M.syncDir.1.Cap c := h.like (Seg.syncDir_same M).2
theorem Med.Cap.arm (h : M.Cap c) (n : Int) : (M.arm n).1.Cap c := h.like (Seg.arm_now M n).2
theorem crashFiles_cap (l : List Int) : ∀ (ns : Names) (j : Nat) (fs : List Fil), (∀ f ∈ fs, FCap c f) → ∀ f ∈ crashFiles l ns j fs, FCap c f
  | [], _, _, h => h
  | p :: ns, j, fs, h => by
    unfold crashFiles
    refine crashFiles_cap l ns _ _ ?_
    intro f hf
    rcases List.mem_or_eq_of_mem_set hf with hf | rfl
    · exact h f hf
    · refine FCap.crash ?_ _ _
      rcases Nat.lt_or_ge p.2 fs.length with hi | hi
      · rw [List.getD_eq_getElem?_getD, List.getElem?_eq_getElem hi]; exact h _ (List.getElem_mem hi)
      · rw [List.getD_eq_getElem?_getD, List.getElem?_eq_none hi]; exact FCap.new c
theorem Med.Cap.crash (h : M.Cap c) (l : List Int) : (M.crash l).Cap c := crashFiles_cap l _ 1 M.files h
theorem Med.Cap.all (h : M.Cap c) (ok : M.Ok K) (s : ByteArray) : (M.all s).1.length ≤ c := by
  unfold Med.all
  split; · exact Nat.zero_le _
  split; · exact Nat.zero_le _
  exact (h.file _).now (ok.file _)
end
end Go.Med
namespace Go.Seg
open Go.Med
section
variable {c c' K n : Nat} {L : Log} {M : Med}
end
end Go.Seg
namespace Go.Seg
open Go.Med
end Go.Seg
namespace Go.Proofs.YtlinnpehkfbnkaaGreatDoor
open Go Go.Sl Go.Med Go.MapKept Go.RowKit
section
variable {w0 w : World} {F R : List HProp} {p d q : Nat} {L : Seg.Log} {lv v bv : Value} {M : Med} {K : Nat} {s : Int × Int}
end
end Go.Proofs.YtlinnpehkfbnkaaGreatDoor
namespace Go.Seg
open Go.Med
def Log.drop (t : List Int) : Nat → Log → Med → (Log × Med) × Int
  | 0, L, M => if t = [] then ((L, M), 0) else ((L, M.syncDir.1), M.syncDir.2)
  | k + 1, L, M => if (L.remove M (t.getD k 0)).2 = 0 then Log.drop t k (L.remove M (t.getD k 0)).1.1 (L.remove M (t.getD k 0)).1.2 else L.remove M (t.getD k 0)
def Log.rdrop (t : List Int) : Nat → Log → Med → (Log × Med) × Int
  | 0, L, M => if t = [] then ((L, M), 0) else ((L, M.syncDir.1), M.syncDir.2)
  | k + 1, L, M => if (L.rremove M (t.getD k 0)).2 = 0 then Log.rdrop t k (L.rremove M (t.getD k 0)).1.1 (L.rremove M (t.getD k 0)).1.2 else L.rremove M (t.getD k 0)
section
variable {t : List Int} {L : Log} {M D : Med} {K i : Nat}
theorem drop_nil (h : t = []) : Log.drop t 0 L M = ((L, M), 0) := by unfold Log.drop; rw [if_pos h]
theorem drop_end (h : t ≠ []) : Log.drop t 0 L M = ((L, M.syncDir.1), M.syncDir.2) := by unfold Log.drop; rw [if_neg h]
theorem drop_go {k : Nat} (h : (L.remove M (t.getD k 0)).2 = 0) : Log.drop t (k + 1) L M = Log.drop t k (L.remove M (t.getD k 0)).1.1 (L.remove M (t.getD k 0)).1.2 := by
  conv => lhs; unfold Log.drop
  rw [if_pos h]
theorem drop_no {k : Nat} (h : (L.remove M (t.getD k 0)).2 ≠ 0) : Log.drop t (k + 1) L M = L.remove M (t.getD k 0) := by
  conv => lhs; unfold Log.drop
  rw [if_neg h]
theorem rdrop_nil (h : t = []) : Log.rdrop t 0 L M = ((L, M), 0) := by unfold Log.rdrop; rw [if_pos h]
theorem rdrop_end (h : t ≠ []) : Log.rdrop t 0 L M = ((L, M.syncDir.1), M.syncDir.2) := by unfold Log.rdrop; rw [if_neg h]
theorem rdrop_go {k : Nat} (h : (L.rremove M (t.getD k 0)).2 = 0) : Log.rdrop t (k + 1) L M = Log.rdrop t k (L.rremove M (t.getD k 0)).1.1 (L.rremove M (t.getD k 0)).1.2 := by
  conv => lhs; unfold Log.rdrop
  rw [if_pos h]
theorem rdrop_no {k : Nat} (h : (L.rremove M (t.getD k 0)).2 ≠ 0) : Log.rdrop t (k + 1) L M = L.rremove M (t.getD k 0) := by
  conv => lhs; unfold Log.rdrop
  rw [if_neg h]
theorem remove_med (h : M.Ok K) (n : Int) : (L.remove M n).1.2.Ok (K + 1) := by
  unfold Log.remove
  cases L.at n with
  | none => exact h.mono (Nat.le_succ K)
  | some i => simp only; split <;> exact h.remove _
theorem Two.drop : ∀ (k : Nat) {i : Nat} {L : Log} {M D : Med}, Two i L M D → Step (i + k + 1) (Log.drop t k L M) (Log.rdrop t k L D)
  | 0, i, L, M, D, h => by
    by_cases ht : t = []
    · rw [drop_nil ht, rdrop_nil ht]
      exact ⟨rfl, rfl, h.mono (by omega)⟩
    · rw [drop_end ht, rdrop_end ht]
      exact ⟨rfl, h.sync.1, h.sync.2.mono (by omega)⟩
  | k + 1, i, L, M, D, h => by
    have h1 := h.remove (t.getD k 0)
    by_cases h0 : (L.remove M (t.getD k 0)).2 = 0
    · rw [drop_go h0, rdrop_go (by rw [h1.res]; exact h0), h1.log]
      have h2 := Two.drop k h1.two
      exact ⟨h2.log, h2.res, h2.two.mono (by omega)⟩
    · rw [drop_no h0, rdrop_no (by rw [h1.res]; exact h0)]
      exact ⟨h1.log, h1.res, h1.two.mono (by omega)⟩
end
end Go.Seg
namespace Go.Proofs.YtlinnpehkfbnkaaGreatDoor
open Go Go.Sl Go.Med Go.MapKept Go.RowKit
section
variable {w0 w : World} {F : List HProp} {p q m d K i : Nat} {L : Seg.Log} {M D : Med} {tv : Value}
set_option maxRecDepth 20000 in
set_option maxHeartbeats 8000000 in
theorem drop_c (t : List Int) (htl : t.length ≤ 1048576) (hL : L.Ok) (hM : M.Ok K) (hK : K ≤ 1048576) (hr : Ro w0 F (rdsl 1 tv (ints t))) (h : Sat w0 w (LogRep p m L :: MedRep m M :: F)) :
    Calls Tryz.prog 107 #[ptr p, tv] w (Rtn fun v w' => v = errno (Seg.Log.drop t t.length L M).2 ∧ Sat w0 w' (LogRep p m (Seg.Log.drop t t.length L M).1.1 :: MedRep m (Seg.Log.drop t t.length L M).1.2 :: F)) := by
  obtain ⟨ta, tc, rfl⟩ := ints_sl (hr w h.drop.drop)
  have Hr := Lib.hid hr; have Htl := Lib.hid htl; have HK := Lib.hid hK
  have w1 : IntKind.i64.wrap ((t.length : Int) - 1) = (t.length : Int) - 1 := IntWalk.i64_in _ (by omega)
  have H0 := Lib.hid (show L.Ok ∧ M.Ok K from ⟨hL, hM⟩)
  clear hr htl hK hL hM
  go_enter Tryz.func107, Tryz.ntmps107
  go_wp2_with fail
  go_loopg [5] t.length (fun g iq wr => ∃ (k : Nat) (L' : Seg.Log) (M' : Med), g = 0 + k ∧ k ≤ t.length ∧ iq = .int .i64 ((k : Int) - 1) ∧ Seg.Log.drop t t.length L M = Seg.Log.drop t k L' M' ∧ L'.Ok ∧ M'.Ok (K + (t.length - k)) ∧ Sat w0 wr (LogRep p m L' :: MedRep m M' :: F))
  case atStart => exact ⟨t.length, L, M, (Nat.zero_add _).symm, Nat.le_refl _, rfl, rfl, H0.out.1, H0.out.2.mono (Nat.le_add_right _ _), h⟩
  case round =>
    obtain ⟨k, L', M', rfl, hk, rfl, he, hL, hM, hS⟩ := hrel
    clear h
    cases k with
    | zero =>
      have c1 : ¬ (((0 : Nat) : Int) - 1) ≥ 0 := by decide
      have He := Lib.hid he; have HM := Lib.hid hM; have HL := Lib.hid hL
      clear he hL hM hk
      by_cases ht : t = []
      · have hb : ((t.length : Int) == 0) = true := by rw [ht]; rfl
        have Hf := Lib.hid (Seg.drop_nil (L := L') (M := M') ht)
        clear ht
        go_wp2_with fail
        go_ret
        rw [He.out, Hf.out]
        exact ⟨_, rfl, rfl, hS⟩
      · have hb : ((t.length : Int) == 0) = false := by
          rw [beq_eq_false_iff_ne]
          intro e
          exact ht (List.eq_nil_of_length_eq_zero (by omega))
        have Hf := Lib.hid (Seg.drop_end (L := L') (M := M') ht)
        clear ht
        go_wp2_with fail
        refine (lsync_c HM.out hS).mono ?_
        rintro ee w2 ⟨v, rfl, rfl, hS2⟩
        clear hS
        go_wp2_with fail
        go_ret
        rw [He.out, Hf.out]
        exact ⟨_, rfl, rfl, hS2⟩
    | succ k =>
      have e1 : ((k + 1 : Nat) : Int) - 1 = (k : Int) := by omega
      rw [e1]
      have c1 : (k : Int) ≥ 0 := by omega
      have c2 : (k : Int) < (t.length : Int) := by omega
      have w2 : IntKind.i64.wrap ((k : Int) - 1) = (k : Int) - 1 := IntWalk.i64_in _ (by have := Htl.out; omega)
      obtain ⟨s, hs⟩ : ∃ s, t[k]? = some s := ⟨_, List.getElem?_eq_getElem (by omega)⟩
      have hgd : t.getD k 0 = s := by rw [List.getD, hs]; rfl
      obtain ⟨bk, off, cc, e2, c0⟩ := ints_cell (Hr.out _ hS.drop.drop) hs
      cases e2
      have hrm := lremove_c hL hM (by have := HK.out; have := Htl.out; omega) s hS
      have He := Lib.hid he; have Hk := Lib.hid hk
      have hlog := hL.remove M' s
      have hmed := Seg.remove_med (L := L') hM s
      have Hgo := Lib.hid (fun (h0 : (L'.remove M' s).2 = 0) => Seg.drop_go (t := t) (L := L') (M := M') (k := k) (by rw [hgd]; exact h0))
      have Hno := Lib.hid (fun (h0 : (L'.remove M' s).2 ≠ 0) => Seg.drop_no (t := t) (L := L') (M := M') (k := k) (by rw [hgd]; exact h0))
      rw [hgd] at Hgo Hno
      clear he hk hs hgd hL hM hS
      generalize L'.remove M' s = r at *
      obtain ⟨⟨L2, M2⟩, e⟩ := r
      dsimp only at hrm hlog hmed Hgo Hno
      have Hlog := Lib.hid hlog; have Hmed := Lib.hid hmed
      clear hlog hmed
      go_wp2_with fail
      refine hrm.mono ?_
      rintro ee w3 ⟨v, rfl, rfl, hS3⟩
      clear hrm c0
      by_cases h0 : e = 0
      · subst h0
        have Hf := Lib.hid (Hgo.out rfl)
        go_wp2_with fail
        go_roundg (0 + k)
        case measure => omega
        case rel => exact ⟨k, L2, M2, rfl, Nat.le_of_succ_le Hk.out, by first | rfl | go_num, He.out.trans Hf.out, Hlog.out, Hmed.out.mono (by have := Hk.out; omega), hS3⟩
      · have hb : (e != 0) = true := by rw [bne_iff_ne]; exact h0
        have hb2 : (e == 0) = false := by rw [beq_eq_false_iff_ne]; exact h0
        have Hf := Lib.hid (Hno.out h0)
        clear h0
        go_wp2_with fail
        go_ret
        rw [He.out, Hf.out]
        exact ⟨_, rfl, rfl, hS3⟩
end
end Go.Proofs.YtlinnpehkfbnkaaGreatDoor
namespace Go.Sl
open Go
section
variable {P : Program} {ops : Array Oper} {Q : Exit → Act → World → Prop} {late : List Nat} {G : World → Prop} {n : Nat} {l : Array Bool} {a : Act} {w : World} {oi oj : Oper}
end
end Go.Sl
namespace Go.Proofs.YtlinnpehkfbnkaaGreatDoor
open Go Go.Sl Go.Med Go.MapKept Go.RowKit
abbrev rpPt (r m : Nat) (seg : Int) (p ps pn : Nat) (d : Bool) : HProp := pt r (.cells #[ptr m, .int .i64 seg, ptr p, ptr ps, ptr pn, .bool d] 77 (0,0))
section
variable {w0 w : World} {F : List HProp} {p m K r ps pn : Nat} {L : Seg.Log} {M : Med} {limit : Int}
set_option maxHeartbeats 2000000 in
theorem newestE_c (hM : M.Ok K) (hl : M.list = []) (h : Sat w0 w (MedRep m M :: F)) : Calls Tryz.prog 20 #[ptr m] w (Rtn fun v w' => v = .int .i64 (-1) ∧ Sat w0 w' (MedRep m M :: F)) := by
  have hls := list_c hM h
  go_enter Tryz.func20, Tryz.ntmps20
  go_wp2_with fail
  refine hls.mono ?_
  rintro e w1 ⟨v, rfl, hS, a, n, c, rfl⟩
  clear hls
  have hn : n = 0 := by
    obtain ⟨_, _, _, he, hl2, _⟩ := Sat.rd hS
    cases he
    rw [hl] at hl2
    simpa [strs] using hl2.symm
  subst hn
  go_wp2_with fail
  go_loopg [3, 11] 0 (fun g lv iq wr => lv = .int .i64 (-1) ∧ iq = .int .i64 0 ∧ wr = w1)
  case atStart => exact ⟨rfl, rfl, rfl⟩
  case round =>
    obtain ⟨rfl, rfl, rfl⟩ := hrel
    go_wp2
    go_ret
    exact ⟨_, rfl, rfl, hS.drop⟩
theorem runOut0 {bt : Rep.Told} {v : Value} (h : RunOut w0 F bt [] p m L M v w) : ∃ (ps pi : Nat) (uv tv : Value), v = .tuple #[ptr ps, .agg (fltA Rep.Flt.zero), errno 0] ∧ (∃ a c, tv = .slice a 0 c) ∧
    Sat w0 w (stPt ps (-1) pi uv tv :: TabML pi (fun _ => none) 0 :: osl 121 3 uv [] :: LogRep p m L :: MedRep m M :: F) := by
  have hr : Rep.run bt [] = .inr 0 := rfl
  unfold RunOut at h
  rw [hr] at h
  obtain ⟨ps, pi, uv, tv, av, kv, rfl, ⟨_, _, hk⟩, ⟨⟨a', c', rfl⟩, _⟩, hS⟩ := h
  obtain rfl : kv = [] := List.length_eq_zero_iff.1 (Nat.le_zero.1 hk)
  exact ⟨ps, pi, uv, _, rfl, ⟨a', c', rfl⟩, hS.sb⟩
set_option maxRecDepth 20000 in
set_option maxHeartbeats 4000000 in
theorem found0_c (hL : L.Ok) (hs : L.segs = []) (hM : M.Ok K) (hl : M.list = []) (hH : Ro w0 F Half) (h : Sat w0 w (LogRep p m L :: MedRep m M :: F)) :
    Calls Tryz.prog 106 #[ptr p, ptr m] w (Rtn fun v w' => ∃ (ps pi : Nat) (uv tv : Value), v = .tuple #[ptr ps, .agg (fltA Rep.Flt.zero), errno 0] ∧ (∃ a c, tv = .slice a 0 c) ∧
      Sat w0 w' (stPt ps (-1) pi uv tv :: TabML pi (fun _ => none) 0 :: osl 121 3 uv [] :: LogRep p m L :: MedRep m M :: F)) := by
  have HL := Lib.hid hL; have Hs := Lib.hid hs; have HM := Lib.hid hM; have Hl := Lib.hid hl; have HH := Lib.hid hH
  clear hL hs hM hl hH
  go_enter Tryz.func106, Tryz.ntmps106
  go_wp2_with (with_reducible apply at_alloc)
  refine ⟨?_⟩
  refine wl_alloc zFlt h rfl ?_
  intro b5 w5 h5
  have hla := last_c (F := pt b5 (.cells (fltA Rep.Flt.zero) 37 (0,0)) :: F) HL.out HM.out (Ro.os HH.out) (h5.sb : Sat w0 w5 (LogRep p m L :: MedRep m M :: pt b5 (.cells (fltA Rep.Flt.zero) 37 (0,0)) :: F))
  rw [Hs.out, show Rep.lastOf (lbt L M) [] = (-1, 0) from rfl] at hla
  clear h h5
  go_wp2_with fail
  refine hla.mono ?_
  rintro ee w6 ⟨v, rfl, rfl, h6⟩
  clear hla
  go_wp2_with fail
  refine (newestE_c HM.out Hl.out (h6.sb : Sat w0 w6 (MedRep m M :: LogRep p m L :: pt b5 (.cells (fltA Rep.Flt.zero) 37 (0,0)) :: F))).mono ?_
  rintro ee w7 ⟨v, rfl, rfl, h7⟩
  clear h6
  have hru := run_c (F := pt b5 (.cells (fltA Rep.Flt.zero) 37 (0,0)) :: F) HL.out HM.out (Ro.os HH.out) (by rw [Hs.out]; exact Nat.zero_le _) (by rw [Hs.out]; intro r hr; cases hr) (h7.sb : Sat w0 w7 (LogRep p m L :: MedRep m M :: pt b5 (.cells (fltA Rep.Flt.zero) 37 (0,0)) :: F))
  clear h7
  go_wp2_with fail
  refine hru.mono ?_
  rintro ee w8 ⟨v, rfl, h8⟩
  clear hru
  rw [Hs.out] at h8
  obtain ⟨ps, pi, uv, tv, rfl, htv, h9⟩ := runOut0 h8
  clear h8
  have h10 : Sat w0 w8 (pt b5 (.cells (fltA Rep.Flt.zero) 37 (0,0)) :: stPt ps (-1) pi uv tv :: TabML pi (fun _ => none) 0 :: osl 121 3 uv [] :: LogRep p m L :: MedRep m M :: F) := h9.sb
  clear h9
  go_wp2_with ((with_reducible apply at_store); refine ⟨?_⟩; refine wl_storeA (fltA Rep.Flt.zero) h10 (by rfl) (by rfl) (by rfl) upd0 (by kernel_rfl) (by rfl) ?_; intro w11 h11)
  refine ⟨rfl, _, res_tct rfl h11 (by rfl) pick0 Tryz.underlying37 rfl (by kernel_rfl), _, rfl, ps, pi, uv, tv, rfl, htv, h11.drop⟩
theorem plRepo : placesB Tryz.prog 77 = some [(0, 1), (1, 1), (2, 1), (3, 1), (4, 1), (5, 1)] := by kernel_rfl
theorem zRepo : zeroB Tryz.prog 77 = some (.agg #[.pointer none, .int .i64 0, .pointer none, .pointer none, .pointer none, .bool false]) := by kernel_rfl
theorem run_repo5 (seg : Int) (w : World) : (Instr.build 77 #[(0, ptr m), (1, .int .i64 seg), (2, ptr p), (3, ptr ps), (4, ptr pn)]).run Tryz.prog w = .ok (.agg #[ptr m, .int .i64 seg, ptr p, ptr ps, ptr pn, .bool false]) w :=
  run_build (P := Tryz.prog) [(0, ptr m), (1, .int .i64 seg), (2, ptr p), (3, ptr ps), (4, ptr pn)] plRepo zRepo (by
    intro q hq
    simp only [List.mem_cons, List.not_mem_nil, or_false] at hq
    rcases hq with rfl | rfl | rfl | rfl | rfl
    · exact ⟨0, rfl, by show 0 + 1 ≤ 6; decide⟩
    · exact ⟨1, rfl, by show 1 + 1 ≤ 6; decide⟩
    · exact ⟨2, rfl, by show 2 + 1 ≤ 6; decide⟩
    · exact ⟨3, rfl, by show 3 + 1 ≤ 6; decide⟩
    · exact ⟨4, rfl, by show 4 + 1 ≤ 6; decide⟩) w
set_option maxRecDepth 20000 in
set_option maxHeartbeats 8000000 in
theorem ropen0_c (h1 : 128 ≤ limit) (h2 : limit ≤ 1048576) (hM : M.Ok K) (hK : K ≤ 1048576) (ha : Seg.alive M = 0) (hf : (Seg.fresh M limit).segs = []) (hl : M.list = []) (hH : Ro w0 F Half) (h : Sat w0 w (MedRep m M :: F)) :
    Calls Tryz.prog 44 #[ptr m, .int .i64 limit] w (Rtn fun v w' => ∃ (r p ps pi pn : Nat) (uv : Value), v = .tuple #[ptr r, .agg (fltA Rep.Flt.zero), errno 0] ∧
      Sat w0 w' (rpPt r m limit p ps pn false :: stPt ps (-1) pi uv (.slice none 0 0) :: TabML pn (fun _ => none) 0 :: TabML pi (fun _ => none) 0 :: osl 121 3 uv [] :: LogRep p m (Seg.fresh M limit) :: MedRep m M :: F)) := by
  have HL := Lib.hid (Seg.fresh_ok hM limit h1 h2)
  have hop := fun (w' : World) (R : List HProp) (hw : Sat w0 w' (MedRep m M :: R)) => open_c hM limit hw ha h1 h2
  have Hop := Lib.hid hop
  generalize Seg.fresh M limit = L at *
  have Hs := Lib.hid hf; have HM := Lib.hid hM; have HK := Lib.hid hK; have Hl := Lib.hid hl; have HH := Lib.hid hH
  clear h1 h2 hM hK ha hf hl hH hop
  go_enter Tryz.func44, Tryz.ntmps44
  go_wp2_with (with_reducible apply at_alloc)
  refine ⟨?_⟩
  refine wl_alloc zFlt h rfl ?_
  intro b5 w5 h5
  go_wp2_with fail
  refine (Hop.out _ _ (h5.sb : Sat w0 w5 (MedRep m M :: pt b5 (.cells (fltA Rep.Flt.zero) 37 (0,0)) :: F))).mono ?_
  rintro ee w6 ⟨v, rfl, p, rfl, h6⟩
  clear h h5
  go_wp2_with fail
  refine (found0_c HL.out Hs.out HM.out Hl.out (Ro.os HH.out) h6).mono ?_
  rintro ee w7 ⟨v, rfl, ps, pi, uv, tv, rfl, ⟨ta, tc, rfl⟩, h7⟩
  clear h6
  go_wp2_with (with_reducible apply at_alloc)
  refine ⟨?_⟩
  refine wl_alloc zFlt h7 rfl ?_
  intro b10 w8 h8
  clear h7
  go_wp2_with (with_reducible apply at_store)
  refine ⟨?_⟩
  refine wl_storeA (fltA Rep.Flt.zero) h8 (by rfl) (by rfl) (by rfl) upd0 (by kernel_rfl) (by rfl) ?_
  intro w9 h9
  clear h8
  replace h9 : Sat w0 w9 (LogRep p m L :: MedRep m M :: stPt ps (-1) pi uv (.slice ta 0 tc) :: TabML pi (fun _ => none) 0 :: osl 121 3 uv [] :: pt b5 (.cells (fltA Rep.Flt.zero) 37 (0,0)) :: F) := h9.sb
  go_wp2_with ((with_reducible apply at_load); refine ⟨?_⟩; refine wl_load1 (by assumption) (by rfl) pkD (Nat.le_of_ble_eq_true (by rfl)) evD (by kernel_rfl) ?_)
  have hdr := drop_c (tv := .slice ta 0 tc) [] (Nat.zero_le _) HL.out HM.out HK.out (fun w _ => rdsl_nil 1 0 w |> fun _ => ⟨ta, 0, tc, rfl, rfl, fun j x hj => by cases hj⟩) h9
  rw [show ([] : List Int).length = 0 from rfl, Seg.drop_nil rfl] at hdr
  refine hdr.mono ?_
  rintro ee w10 ⟨v, rfl, rfl, h10⟩
  clear hdr h9
  go_wp2_with (with_reducible apply at_store)
  refine ⟨?_⟩
  refine wl_store (cs' := #[.int .i64 (-1), ptr pi, uv, .slice none 0 0]) h10 (by rfl) (by rfl) (by rfl) upd2 (Nat.le_of_ble_eq_true (by rfl)) (by kernel_rfl) (by rfl) ?_
  intro w11 h11
  replace h11 : Sat w0 w11 (TabML pi (fun _ => none) 0 :: stPt ps (-1) pi uv (.slice none 0 0) :: LogRep p m L :: MedRep m M :: osl 121 3 uv [] :: pt b5 (.cells (fltA Rep.Flt.zero) 37 (0,0)) :: F) := h11.sb
  clear h10
  go_wp2_with ((with_reducible apply at_load); refine ⟨?_⟩; refine wl_load1 h11 (by rfl) pick1 (Nat.le_of_ble_eq_true (by rfl)) evD (by kernel_rfl) ?_)
  refine (copyL_c (by decide) h11).mono ?_
  rintro ee w12 ⟨v, rfl, pn, rfl, h12⟩
  clear h11
  go_wp2_with (first
    | ((with_reducible apply ug_at_build); refine ⟨?_⟩; first | refine wl_bld (by rfl) (run_repo5 limit) ?_ | refine wl_bld (by rfl) run_flt0 ?_)
    | ((with_reducible apply at_box); refine ⟨?_⟩; refine wl_box h12 (by rfl) (by rfl) ?_; intro r w13 h13)
    | (with_reducible apply at_store))
  refine ⟨?_⟩
  refine wl_storeA (fltA Rep.Flt.zero) (h13.sb : Sat w0 w13 (pt b5 (.cells (fltA Rep.Flt.zero) 37 (0,0)) :: rpPt r m limit p ps pn false :: stPt ps (-1) pi uv (.slice none 0 0) :: TabML pn (fun _ => none) 0 :: TabML pi (fun _ => none) 0 :: osl 121 3 uv [] :: LogRep p m L :: MedRep m M :: F)) (by rfl) (by rfl) (by rfl) upd0 (by kernel_rfl) (by rfl) ?_
  intro w14 h14
  go_wp2_with fail
  refine ⟨rfl, _, res_tct rfl h14 (by rfl) pick0 Tryz.underlying37 rfl (by kernel_rfl), _, rfl, r, rfl, p, ps, pi, pn, uv, h14.drop⟩
set_option maxHeartbeats 2000000 in
theorem rokY_c {seg : Int} {d : Bool} (h : Sat w0 w (rpPt r m seg p ps pn d :: F)) : Calls Tryz.prog 98 #[ptr r] w (Rtn fun v w' => v = .bool true ∧ w = w') := by
  have e2 : w.cell? ⟨r, 2, none⟩ = some (.pointer (some ⟨p, 0, none⟩)) := h.cellAt 2 _ rfl
  go_enter Tryz.func98, Tryz.ntmps98
  go_wp2
  go_ret
  exact ⟨_, rfl, rfl, rfl⟩
end
def NoLog (lv : Value) (w : World) : Prop := lv = .pointer none ∨ ∃ p, lv = ptr p ∧ w.cell? ⟨p, 0, none⟩ = some (.pointer none)
section
variable {w0 w : World} {F R : List HProp} {v bv dv x lv : Value}
end
section
variable {w0 w : World} {F R : List HProp} {v bv dv x lv : Value}
set_option maxHeartbeats 1000000 in
theorem deadNil_c (w : World) : Calls Tryz.prog 97 #[.pointer none] w (Rtn fun v w' => v = errno 1 ∧ w = w') := by
  go_enter Tryz.func97, Tryz.ntmps97
  go_wp2
  go_ret
  exact ⟨_, rfl, rfl, rfl⟩
set_option maxHeartbeats 1000000 in
theorem findNil_c (s : ByteArray) (w : World) : Calls Tryz.prog 136 #[.pointer none, .string s] w (Rtn fun v w' => v = .tuple #[.pointer none, errno 1] ∧ w = w') := by
  go_enter Tryz.func136, Tryz.ntmps136
  go_wp2_with (go_at_call 97; refine (deadNil_c _).mono ?_; rintro e w2 ⟨v, rfl, rfl, rfl⟩)
  go_ret2
  exact ⟨_, rfl, rfl, rfl⟩
set_option maxHeartbeats 1000000 in
theorem sizeNil_c (s : ByteArray) (w : World) : Calls Tryz.prog 75 #[.pointer none, .string s] w (Rtn fun v w' => v = .tuple #[.int .i64 0, errno 1] ∧ w = w') := by
  go_enter Tryz.func75, Tryz.ntmps75
  go_wp2_with (go_at_call 136; refine (findNil_c _ _).mono ?_; rintro e w2 ⟨v, rfl, rfl, rfl⟩)
  go_ret2
  exact ⟨_, rfl, rfl, rfl⟩
set_option maxHeartbeats 1000000 in
theorem aliveNil_c (w : World) : Calls Tryz.prog 93 #[.pointer none] w (Rtn fun v w' => v = errno 1 ∧ w = w') := by
  go_enter Tryz.func93, Tryz.ntmps93
  go_wp2_with (go_at_call 75; refine (sizeNil_c _ _).mono ?_; rintro e w2 ⟨v, rfl, rfl, rfl⟩)
  go_ret
  exact ⟨_, rfl, rfl, rfl⟩
set_option maxHeartbeats 1000000 in
theorem openNil_c (n : Int) (w : World) : Calls Tryz.prog 24 #[.pointer none, .int .i64 n] w (Rtn fun v w' => v = .tuple #[.pointer none, errno 1] ∧ w = w') := by
  go_enter Tryz.func24, Tryz.ntmps24
  go_wp2_with (go_at_call 93; refine (aliveNil_c _).mono ?_; rintro e w2 ⟨v, rfl, rfl, rfl⟩)
  go_ret2
  exact ⟨_, rfl, rfl, rfl⟩
end
end Go.Proofs.YtlinnpehkfbnkaaGreatDoor
namespace Go.Tab
end Go.Tab
namespace Go.Proofs.YtlinnpehkfbnkaaGreatDoor
open Go Go.Sl Go.Med Go.MapKept Go.RowKit
section
variable {w0 w : World} {F : List HProp} {p m K r ps pn B : Nat} {L : Seg.Log} {M : Med} {seg : Int} {d : Bool} {k : Frm.Bs} {mp : Frm.Bs → Option Seg.Plc}
def oneK : Frm.Bs := 1 :: List.replicate 31 0
theorem live17_list : liveM.list = [] := by kernel_rfl
end
section
variable {w0 w : World} {F : List HProp} {m K : Nat} {M : Med}
set_option maxHeartbeats 1000000 in
theorem openbad_c (hM : M.Ok K) (limit : Int) (h : Sat w0 w (MedRep m M :: F)) (ha : Seg.alive M = 0) (h1 : limit < 128 ∨ 1048576 < limit) :
    Calls Tryz.prog 24 #[ptr m, .int .i64 limit] w (Rtn fun v w' => v = .tuple #[.pointer none, errno 2] ∧ w = w') := by
  have hal := alive_c hM h
  rw [ha] at hal
  clear h ha
  by_cases hb : limit < 128
  · go_enter Tryz.func24, Tryz.ntmps24
    go_wp2_with fail
    refine hal.mono ?_
    rintro e w1 ⟨v, rfl, rfl, rfl⟩
    clear hal
    go_wp2
    go_ret2
    exact ⟨_, rfl, rfl, rfl⟩
  · have hd1 : decide (limit < 128) = false := decide_eq_false hb
    have hd2 : 1048576 < limit := by omega
    clear h1
    go_enter Tryz.func24, Tryz.ntmps24
    go_wp2_with fail
    refine hal.mono ?_
    rintro e w1 ⟨v, rfl, rfl, rfl⟩
    clear hal
    go_wp2
    go_ret2
    exact ⟨_, rfl, rfl, rfl⟩
end
end Go.Proofs.YtlinnpehkfbnkaaGreatDoor
namespace Go.Hin
open Go.Med
def name (lead : ByteArray) (n : Int) : ByteArray := if Seg.name n = ByteArray.empty then ByteArray.empty else lead ++ (Seg.name n).extract 4 12
def idx : ByteArray := ⟨#[105, 100, 120, 46]⟩
def use : ByteArray := ⟨#[117, 115, 101, 46]⟩
end Go.Hin
namespace Go.Proofs.YtlinnpehkfbnkaaGreatDoor
open Go Go.Sl Go.Med Go.MapKept Go.RowKit
section
variable {w0 w : World} {F : List HProp} {v bv dv x : Value} {q m : Nat}
def hM : Med := Med.new 100
end
end Go.Proofs.YtlinnpehkfbnkaaGreatDoor
namespace Go.Hin
open Go.Med
def number (s : ByteArray) : Int × Bool :=
  if s.data.toList.take 4 = [105, 100, 120, 46] ∨ s.data.toList.take 4 = [117, 115, 101, 46] then Seg.number ⟨(Seg.lead ++ s.data.toList.drop 4).toArray⟩ else (0, false)
def newestL : List ByteArray → Int → Int
  | [], m => m
  | f :: l, m => newestL l (if (number f).2 = true then max m (number f).1 else m)
def newest (M : Med) : Int := newestL M.list (-1)
end Go.Hin
namespace Go.Proofs.YtlinnpehkfbnkaaGreatDoor
open Go Go.Sl Go.Med Go.MapKept Go.RowKit
section
variable {P : Program} {w0 w : World} {L : List HProp} {ops : Array Oper} {rest : List Oper} {a : Act} {Q : Exit → Act → World → Prop} {dst : Option Tmp} {t ty e : TypeId} {pos : String} {after : Array Edge} {x y : Operand} {v1 v2 : Value} {cs1 cs2 : Array Value} {g : Nat × Bool} {op : Op} {sz by' : Nat}
theorem run_slice2 (hb : appB P t e sz by' = true) (h1 : v1.cells.size = sz) (h2 : v2.cells.size = sz) (hle : 2 * sz ≤ 16777216) (w : World) :
    (Instr.buildSlice t 2 #[(0, v1), (1, v2)]).run P w = .ok (.slice (some ⟨w.heap.size, 0, none⟩) 2 2) (w.alloc (.cells (v1.cells ++ v2.cells) e)) := by
  obtain ⟨hu, i, z, hi, hz, e1, e2, e3, e4⟩ := appB_spec hb
  subst e1
  have hzv : (zeroValue e).run P w = .ok z w := by simp [zeroValue, typeInfo, hi, hz]
  have hsz' : (sizeOf e).run P w = .ok i.size w := by simp [sizeOf, typeInfo, hi]
  have hnz : ¬ (2 * i.size = 0) := by omega
  have hle' : ¬ (2 * i.size > 2 ^ 24) := by omega
  unfold Instr.buildSlice
  simp only [Sem.run_bind, run_underlying hu, Result.andThen_ok, hsz', if_neg hle', if_neg hnz, hzv, Sem.run_pure]
  have hf : Instr.fill (fun i' => some (i' * i.size, i.size)) ((Array.range (2 * i.size)).map (z.cells[· % z.cells.size]!)) [(0, v1), (1, v2)] = some (v1.cells ++ v2.cells) := by
    generalize hz0 : (Array.range (2 * i.size)).map (z.cells[· % z.cells.size]!) = z0
    have hs1 : z0.size = 2 * i.size := by rw [← hz0]; simp
    have hf1 : ∀ (v : Value) (off : Nat) (cs : Array Value), v.cells.zipIdx.foldl (fun cs (c, j) => cs.setIfInBounds (off + j) c) cs = putsAt cs off v.cells.toList := fun v off cs => by
      have := foldl_puts v.cells.toList 0 off cs
      rw [Nat.add_zero] at this
      rw [← this, ← Array.foldl_toList, Array.toList_zipIdx]
    unfold Instr.fill
    simp only [Nat.zero_mul]
    have hc : ¬ ((v1.cells.size ≠ i.size || 0 + v1.cells.size > z0.size) = true) := by
      rw [hs1]; simp [h1]; omega
    simp only [if_neg hc]
    rw [hf1]
    unfold Instr.fill
    simp only [Nat.one_mul]
    have hc2 : ¬ ((v2.cells.size ≠ i.size || i.size + v2.cells.size > (putsAt z0 0 v1.cells.toList).size) = true) := by
      rw [putsAt_size, hs1]; simp [h2]; omega
    simp only [if_neg hc2]
    rw [hf1]
    unfold Instr.fill
    congr 1
    apply Array.toList_inj.1
    have hl1 : v1.cells.toList.length = i.size := by rw [Array.length_toList]; exact h1
    have hl2 : v2.cells.toList.length = i.size := by rw [Array.length_toList]; exact h2
    have hz1 : z0.toList.length = 2 * i.size := by rw [Array.length_toList]; exact hs1
    rw [putsAt_list _ _ _ (by rw [putsAt_size, hs1, hl2]; omega), putsAt_list _ _ _ (by rw [hs1, hl1]; omega), Array.toList_append]
    rw [List.take_zero, List.nil_append, Nat.zero_add, List.take_append_of_le_length (by omega), List.take_of_length_le (by omega), List.drop_of_length_le (by rw [List.length_append, List.length_drop, hl1, hl2, hz1]; omega), List.append_nil]
  simp only [hf]
  simp [newRow, go_sem]
theorem wl_two (hb : appB P ty e sz by' = true) (hs : Sat w0 w L) (hx : a.eval x = v1) (hy : a.eval y = v2) (hc1 : v1.cells = cs1) (hc2 : v2.cells = cs2) (h1 : cs1.size = sz) (h2 : cs2.size = sz) (hle : 2 * sz ≤ 16777216)
    (hK : ∀ b w', Sat w0 w' (pt b (.cells (cs1 ++ cs2) e (0,0)) :: L) → wpList P ops Q rest (a.put dst (.slice (some ⟨b, 0, none⟩) 2 2)) w') : wpList P ops Q (⟨dst, .buildSlice ty 2 #[(0, x), (1, y)], t, pos, after, none⟩ :: rest) a w := by
  subst hc1; subst hc2
  refine wpList_plain rfl fun _ hK' => ?_
  have hS := hs.alloc (.cells (v1.cells ++ v2.cells) e)
  unfold Oper.wp execOp
  simp only [hx, hy, List.map_toArray, List.map_cons, List.map_nil, Sem.run_bind, Sem.run_pure, run_slice2 hb h1 h2 hle w, Result.andThen_ok]
  exact hK' _ _ (hK _ _ hS)
end
end Go.Proofs.YtlinnpehkfbnkaaGreatDoor
namespace Go.Hin
open Go.Frm (Bs)
theorem pre_take (l p : List UInt8) : Lib.hasPrefix l p = decide (l.take p.length = p) := by
  rw [Bool.eq_iff_iff, decide_eq_true_iff]
  unfold Lib.hasPrefix
  rw [List.isPrefixOf_iff_prefix, List.prefix_iff_eq_take]
  exact eq_comm
theorem cut_yes {l p : List UInt8} (h : l.take p.length = p) : Lib.trimPrefix l p = l.drop p.length := by
  unfold Lib.trimPrefix
  rw [if_pos (by rw [pre_take, decide_eq_true_iff]; exact h)]
theorem num_yes {s : ByteArray} (h : s.data.toList.take 4 = [105, 100, 120, 46] ∨ s.data.toList.take 4 = [117, 115, 101, 46]) : number s = Seg.number ⟨(Seg.lead ++ s.data.toList.drop 4).toArray⟩ := by unfold number; rw [if_pos h]
theorem num_no {s : ByteArray} (h : ¬ (s.data.toList.take 4 = [105, 100, 120, 46] ∨ s.data.toList.take 4 = [117, 115, 101, 46])) : number s = (0, false) := by unfold number; rw [if_neg h]
end Go.Hin
namespace Go.Proofs.YtlinnpehkfbnkaaGreatDoor
open Go Go.Sl Go.Med Go.MapKept Go.RowKit
section
variable {P : Program} {w : World} {ops : Array Oper} {rest : List Oper} {a : Act} {Q : Exit → Act → World → Prop} {dst : Option Tmp} {t ty : TypeId} {pos : String} {after : Array Edge} {x y : Operand}
theorem at_two (h : Stop (wpList P ops Q (⟨dst, .buildSlice ty 2 #[(0, x), (1, y)], t, pos, after, none⟩ :: rest) a w)) : wpList P ops Q (⟨dst, .buildSlice ty 2 #[(0, x), (1, y)], t, pos, after, none⟩ :: rest) a w := h.out
end
section
variable {w0 w : World} {F : List HProp} {m K : Nat} {M : Med}
theorem cutpre_c (s p : ByteArray) (w : World) : Calls Tryz.prog 133 #[.string s, .string p] w (Rtn fun v w' => v = .tuple #[.string ⟨(Lib.trimPrefix s.data.toList p.data.toList).toArray⟩, .bool (Lib.hasPrefix s.data.toList p.data.toList)] ∧ w = w') :=
  (Tryz.strings_CutPrefix s p w).mono fun e w' ⟨he, hw⟩ => ⟨_, he, rfl, hw.symm⟩
theorem cutyes_c (s p : ByteArray) (k : Nat) (hk : p.data.toList.length = k) (h : s.data.toList.take k = p.data.toList) (w : World) : Calls Tryz.prog 133 #[.string s, .string p] w (Rtn fun v w' => v = .tuple #[.string ⟨(s.data.toList.drop k).toArray⟩, .bool true] ∧ w = w') := by
  subst hk
  have hc := cutpre_c s p w
  rw [Hin.cut_yes h, Hin.pre_take, decide_eq_true h] at hc
  exact hc
theorem cutno_c (s p : ByteArray) (k : Nat) (hk : p.data.toList.length = k) (h : ¬ s.data.toList.take k = p.data.toList) (w : World) : Calls Tryz.prog 133 #[.string s, .string p] w (Rtn fun v w' => (∃ r : ByteArray, v = .tuple #[.string r, .bool false]) ∧ w = w') := by
  subst hk
  have hc := cutpre_c s p w
  rw [Hin.pre_take, decide_eq_false h] at hc
  exact hc.mono fun e w' ⟨v, he, hv, hw⟩ => ⟨v, he, ⟨_, hv⟩, hw⟩
theorem lead_add (r : List UInt8) : (⟨#[115, 101, 103, 46]⟩ : ByteArray) ++ (⟨r.toArray⟩ : ByteArray) = ⟨(Seg.lead ++ r).toArray⟩ := by
  apply ByteArray.ext
  rw [ByteArray.data_append]
  apply Array.toList_inj.1
  simp [Seg.lead]
set_option maxRecDepth 20000 in
set_option maxHeartbeats 8000000 in
theorem hnumber_c (s : ByteArray) (hs : s.size ≤ 4000000000) (h : Sat w0 w F) :
    Calls Tryz.prog 69 #[.string s] w (Rtn fun v w' => v = .tuple #[.int .i64 (Hin.number s).1, .bool (Hin.number s).2] ∧ Sat w0 w' F) := by
  have Hs := Lib.hid hs
  have hsz : ∀ r : List UInt8, r.length ≤ 4000000000 → ¬ 9223372036854775807 < (⟨#[115, 101, 103, 46]⟩ : ByteArray).size + (⟨r.toArray⟩ : ByteArray).size := fun r hr => by
    have : (⟨r.toArray⟩ : ByteArray).size = r.length := by show r.toArray.size = _; exact List.size_toArray ..
    have h4 : (⟨#[115, 101, 103, 46]⟩ : ByteArray).size = 4 := rfl
    omega
  have Hsz := Lib.hid hsz
  have Hl := Lib.hid (show s.data.toList.length ≤ 4000000000 from by rw [Array.length_toList]; exact hs)
  clear hs hsz
  go_enter Tryz.func69, Tryz.ntmps69
  go_wp2_with ((with_reducible apply at_two); refine ⟨?_⟩; refine wl_two (e := 9) (sz := 1) (by' := 16) (cs1 := #[.string ⟨#[105, 100, 120, 46]⟩]) (cs2 := #[.string ⟨#[117, 115, 101, 46]⟩]) (by kernel_rfl) h (by rfl) (by rfl) rfl rfl rfl rfl (Nat.le_of_ble_eq_true (by rfl)) ?_; intro b w1 h1)
  replace h1 : Sat w0 w1 (pt b (.cells #[.string ⟨#[105, 100, 120, 46]⟩, .string ⟨#[117, 115, 101, 46]⟩] 9 (0,0)) :: F) := h1
  go_loopg [10] 3 (fun g iq wr => ∃ i : Nat, g = 3 - i ∧ i ≤ 2 ∧ iq = .int .i64 i ∧ wr = w1 ∧ (1 ≤ i → ¬ s.data.toList.take 4 = [105, 100, 120, 46]) ∧ (2 ≤ i → ¬ s.data.toList.take 4 = [117, 115, 101, 46]))
  case atStart => exact ⟨0, rfl, by omega, rfl, rfl, fun h => by omega, fun h => by omega⟩
  case round =>
    obtain ⟨i, rfl, hi, rfl, rfl, hn1, hn2⟩ := hrel
    have h01 : i = 0 ∨ i = 1 ∨ i = 2 := by omega
    clear hi h
    have c0 := h1.cellAt 0 (.string ⟨#[105, 100, 120, 46]⟩) rfl
    have c1 := h1.cellAt 1 (.string ⟨#[117, 115, 101, 46]⟩) rfl
    rcases h01 with rfl | rfl | rfl
    · clear hn1 hn2 c1
      go_wp2_with fail
      by_cases ht : s.data.toList.take 4 = [105, 100, 120, 46]
      · refine (cutyes_c s ⟨#[105, 100, 120, 46]⟩ 4 rfl ht _).mono ?_
        rintro e w2 ⟨v, rfl, rfl, rfl⟩
        have hz := Hsz.out (s.data.toList.drop 4) (by rw [List.length_drop]; have := Hl.out; omega)
        have Hy := Lib.hid (Hin.num_yes (s := s) (.inl ht))
        clear ht Hsz
        go_wp2_with fail
        rw [show (⟨#[115, 101, 103, 46]⟩ : ByteArray) ++ (⟨(s.data.toList.drop 4).toArray⟩ : ByteArray) = ⟨(Seg.lead ++ s.data.toList.drop 4).toArray⟩ from lead_add _]
        refine (snumber_c _ h1).mono ?_
        rintro e w3 ⟨v, rfl, rfl, h3⟩
        go_wp2_with fail
        go_ret2
        exact ⟨_, rfl, by rw [Hy.out]; rfl, h3.drop⟩
      · refine (cutno_c s ⟨#[105, 100, 120, 46]⟩ 4 rfl ht _).mono ?_
        rintro e w2 ⟨v, rfl, ⟨r, rfl⟩, rfl⟩
        clear c0
        go_wp2_with fail
        go_roundg 2
        case measure => omega
        case rel => exact ⟨1, rfl, by omega, rfl, rfl, fun _ => ht, fun h => by omega⟩
    · have ht1 := hn1 (by omega)
      clear hn1 hn2 c0
      go_wp2_with fail
      by_cases ht : s.data.toList.take 4 = [117, 115, 101, 46]
      · refine (cutyes_c s ⟨#[117, 115, 101, 46]⟩ 4 rfl ht _).mono ?_
        rintro e w2 ⟨v, rfl, rfl, rfl⟩
        have hz := Hsz.out (s.data.toList.drop 4) (by rw [List.length_drop]; have := Hl.out; omega)
        have Hy := Lib.hid (Hin.num_yes (s := s) (.inr ht))
        clear ht ht1 Hsz
        go_wp2_with fail
        rw [show (⟨#[115, 101, 103, 46]⟩ : ByteArray) ++ (⟨(s.data.toList.drop 4).toArray⟩ : ByteArray) = ⟨(Seg.lead ++ s.data.toList.drop 4).toArray⟩ from lead_add _]
        refine (snumber_c _ h1).mono ?_
        rintro e w3 ⟨v, rfl, rfl, h3⟩
        go_wp2_with fail
        go_ret2
        exact ⟨_, rfl, by rw [Hy.out]; rfl, h3.drop⟩
      · refine (cutno_c s ⟨#[117, 115, 101, 46]⟩ 4 rfl ht _).mono ?_
        rintro e w2 ⟨v, rfl, ⟨r, rfl⟩, rfl⟩
        clear c1
        go_wp2_with fail
        go_roundg 1
        case measure => omega
        case rel => exact ⟨2, rfl, by omega, rfl, rfl, fun _ => ht1, fun _ => ht⟩
    · have Hy := Lib.hid (Hin.num_no (s := s) (fun h => h.elim (hn1 (by omega)) (hn2 (by omega))))
      clear hn1 hn2 c0 c1
      go_wp2_with fail
      go_ret2
      exact ⟨_, rfl, by rw [Hy.out]; rfl, h1.drop⟩
end
section
variable {w0 w : World} {F : List HProp} {p m K : Nat} {L : Seg.Log} {M : Med} {limit : Int}
abbrev nilS : Value := .slice none 0 0
theorem ints0 {v : Value} {w : World} (h : rdsl 1 v (ints []) w) : ∃ a c, v = .slice a 0 c := by
  obtain ⟨a, c, e⟩ := ints_sl h
  exact ⟨a, c, e⟩
set_option maxHeartbeats 2000000 in
theorem pieces0_c (hL : L.Ok) (hs : L.segs = []) (h : Sat w0 w (LogRep p m L :: F)) : Calls Tryz.prog 108 #[ptr p] w (Rtn fun v w' => v = .tuple #[nilS, errno 0] ∧ Sat w0 w' (LogRep p m L :: F)) := by
  have hse := lsegs_c hL h
  rw [hs] at hse
  go_enter Tryz.func108, Tryz.ntmps108
  go_wp2_with fail
  refine hse.mono ?_
  rintro e w1 ⟨v, rfl, hS⟩
  clear hse h
  obtain ⟨a, c, rfl⟩ := ints0 (Sat.rd hS)
  go_wp2_with fail
  go_loopg [4, 13] 0 (fun g ov iq wr => ov = nilS ∧ iq = .int .i64 0 ∧ wr = w1)
  case atStart => exact ⟨rfl, rfl, rfl⟩
  case round =>
    obtain ⟨rfl, rfl, rfl⟩ := hrel
    go_wp2
    go_ret2
    exact ⟨_, rfl, rfl, hS.drop⟩
set_option maxHeartbeats 1000000 in
theorem committed0_c (w : World) : Calls Tryz.prog 162 #[nilS] w (Rtn fun v w' => v = .int .i64 (-1) ∧ w = w') := by
  go_enter Tryz.func162, Tryz.ntmps162
  go_wp2_with fail
  go_loopg [3, 8] 0 (fun g ov iq wr => ov = .int .i64 (-1) ∧ iq = .int .i64 0 ∧ wr = w)
  case atStart => exact ⟨rfl, rfl, rfl⟩
  case round =>
    obtain ⟨rfl, rfl, rfl⟩ := hrel
    go_wp2
    go_ret
    exact ⟨_, rfl, rfl, rfl⟩
set_option maxHeartbeats 2000000 in
theorem faults0_c (lv : Value) (hM : M.Ok K) (hl : M.list = []) (h : Sat w0 w (MedRep m M :: F)) : Calls Tryz.prog 109 #[ptr m, lv, nilS] w (Rtn fun v w' => v = .tuple #[nilS, errno 0] ∧ Sat w0 w' (MedRep m M :: F)) := by
  have hne := newestE_c hM hl h
  go_enter Tryz.func109, Tryz.ntmps109
  go_wp2_with fail
  go_loopg [8, 21] 0 (fun g ov iq wr => ov = nilS ∧ iq = .int .i64 0 ∧ wr = w)
  case atStart => exact ⟨rfl, rfl, rfl⟩
  case round =>
    obtain ⟨rfl, rfl, rfl⟩ := hrel
    go_wp2_with fail
    refine (committed0_c _).mono ?_
    rintro e w1 ⟨v, rfl, rfl, rfl⟩
    go_wp2_with fail
    go_loopg [8, 38] 0 (fun g ov iq wr2 => ov = nilS ∧ iq = .int .i64 0 ∧ wr2 = wr)
    case atStart => exact ⟨rfl, rfl, rfl⟩
    case round =>
      obtain ⟨rfl, rfl, rfl⟩ := hrel
      go_wp2_with fail
      refine hne.mono ?_
      rintro e w2 ⟨v, rfl, rfl, hS⟩
      go_wp2_with fail
      go_ret2
      exact ⟨_, rfl, rfl, hS⟩
set_option maxHeartbeats 2000000 in
theorem known0_c (hM : M.Ok K) (hl : M.list = []) (h : Sat w0 w (MedRep m M :: F)) : Calls Tryz.prog 164 #[nilS, ptr m] w (Rtn fun v w' => v = .int .i64 (-1) ∧ Sat w0 w' (MedRep m M :: F)) := by
  have hne := newestE_c hM hl h
  go_enter Tryz.func164, Tryz.ntmps164
  go_wp2_with fail
  refine hne.mono ?_
  rintro e w1 ⟨v, rfl, rfl, hS⟩
  clear hne h
  go_wp2_with fail
  go_loopg [5, 12] 0 (fun g ov iq wr => ov = .int .i64 (-1) ∧ iq = .int .i64 0 ∧ wr = w1)
  case atStart => exact ⟨rfl, rfl, rfl⟩
  case round =>
    obtain ⟨rfl, rfl, rfl⟩ := hrel
    go_wp2
    go_ret
    exact ⟨_, rfl, rfl, hS⟩
set_option maxHeartbeats 2000000 in
theorem cleared0_c (hM : M.Ok K) (hl : M.list = []) (h : Sat w0 w (MedRep m M :: F)) : Calls Tryz.prog 110 #[ptr m, nilS] w (Rtn fun v w' => v = errno M.syncDir.2 ∧ Sat w0 w' (MedRep m M.syncDir.1 :: F)) := by
  have hkn := known0_c hM hl h
  have HM := Lib.hid hM
  clear hM hl
  go_enter Tryz.func110, Tryz.ntmps110
  go_wp2_with fail
  refine hkn.mono ?_
  rintro e w1 ⟨v, rfl, rfl, hS⟩
  clear hkn h
  go_wp2_with fail
  go_loopg [16] 0 (fun g iq wr => iq = .int .i64 0 ∧ wr = w1)
  case atStart => exact ⟨rfl, rfl⟩
  case round =>
    obtain ⟨rfl, rfl⟩ := hrel
    go_wp2_with fail
    go_loopg [9] 0 (fun g iq wr2 => iq = .int .i64 (-1) ∧ wr2 = wr)
    case atStart => exact ⟨by first | rfl | go_num, rfl⟩
    case round =>
      obtain ⟨rfl, rfl⟩ := hrel
      go_wp2_with fail
      refine (syncDir_c HM.out hS).mono ?_
      rintro e w2 ⟨v, rfl, rfl, hS2⟩
      go_wp2_with fail
      go_ret
      exact ⟨_, rfl, rfl, hS2⟩
set_option maxHeartbeats 2000000 in
theorem closed0_c (h1 : 128 ≤ limit) (h2 : limit ≤ 1048576) (hM : M.Ok K) (ha : Seg.alive M = 0) (hf : (Seg.fresh M limit).segs = []) (h : Sat w0 w (MedRep m M :: F)) : Calls Tryz.prog 111 #[ptr m, .int .i64 limit] w (Rtn fun v w' => v = errno 0 ∧ Sat w0 w' (MedRep m M :: F)) := by
  have HL := Lib.hid (Seg.fresh_ok hM limit h1 h2)
  have hop := open_c hM limit h ha h1 h2
  generalize Seg.fresh M limit = L at *
  have Hf := Lib.hid hf
  clear h1 h2 hM ha hf
  go_enter Tryz.func111, Tryz.ntmps111
  go_wp2_with fail
  refine hop.mono ?_
  rintro e w1 ⟨v, rfl, p, rfl, hS⟩
  clear hop h
  go_wp2_with fail
  refine (pieces0_c HL.out Hf.out hS).mono ?_
  rintro e w2 ⟨v, rfl, rfl, hS2⟩
  go_wp2_with fail
  go_ret
  exact ⟨_, rfl, rfl, hS2.drop⟩
set_option maxHeartbeats 2000000 in
theorem sweep0_c (cv : Value) (hM : M.Ok K) (hl : M.list = []) (h : Sat w0 w (MedRep m M :: F)) : Calls Tryz.prog 67 #[ptr m, cv] w (Rtn fun v w' => v = errno 0 ∧ Sat w0 w' (MedRep m M :: F)) := by
  have hls := list_c hM h
  go_enter Tryz.func67, Tryz.ntmps67
  go_wp2_with fail
  refine hls.mono ?_
  rintro e w1 ⟨v, rfl, hS, a, n, c, rfl⟩
  clear hls h
  have hn : n = 0 := by
    obtain ⟨_, _, _, he, hl2, _⟩ := Sat.rd hS
    cases he
    rw [hl] at hl2
    simpa [strs] using hl2.symm
  subst hn
  go_wp2_with fail
  go_loopg [11] 0 (fun g iq wr => iq = .int .i64 0 ∧ wr = w1)
  case atStart => exact ⟨rfl, rfl⟩
  case round =>
    obtain ⟨rfl, rfl⟩ := hrel
    go_wp2_with fail
    go_ret
    exact ⟨_, rfl, rfl, hS.drop⟩
set_option maxHeartbeats 2000000 in
theorem clean0_c (hM : M.Ok K) (hl : M.list = []) (hz : M.size ByteArray.empty = (0, 9)) (h : Sat w0 w (MedRep m M :: F)) : Calls Tryz.prog 112 #[ptr m] w (Rtn fun v w' => v = errno 0 ∧ Sat w0 w' (MedRep m M :: F)) := by
  have hsi := size_c hM h ByteArray.empty
  rw [hz] at hsi
  have HM := Lib.hid hM; have Hl := Lib.hid hl
  clear hM hl hz
  go_enter Tryz.func112, Tryz.ntmps112
  go_wp2_with fail
  refine hsi.mono ?_
  rintro e w1 ⟨v, rfl, rfl, rfl⟩
  clear hsi
  go_wp2_with fail
  refine (sweep0_c _ HM.out Hl.out h).mono ?_
  rintro e w2 ⟨v, rfl, rfl, hS2⟩
  go_wp2_with fail
  go_ret
  exact ⟨_, rfl, rfl, hS2⟩
set_option maxHeartbeats 4000000 in
theorem cloneU0_c {uv : Value} (h : Sat w0 w (osl 121 3 uv [] :: F)) :
    Calls Tryz.prog 105 #[uv] w (Rtn fun v w' => Sat w0 w' (osl 121 3 v [] :: osl 121 3 uv [] :: F)) := by
  obtain ⟨a, n, c, rfl, hl, _⟩ := Sat.rd h
  have hn : n = 0 := by simp only [List.length_nil] at hl; omega
  subst hn
  clear hl
  cases a with
  | none =>
    have he : ∀ w, (binOp .eql 49 (.slice none 0 c) (.slice none 0 0)).run Tryz.prog w = .ok (.bool true) w := fun w => by first | kernel_rfl | rfl
    go_enter Tryz.func105, Tryz.ntmps105
    go_wp2_with fail
    go_ret
    exact ⟨_, rfl, Sat.osl_nil.2 h⟩
  | some ad =>
    have he : ∀ w, (binOp .eql 49 (.slice (some ad) 0 c) (.slice none 0 0)).run Tryz.prog w = .ok (.bool false) w := fun w => by first | kernel_rfl | rfl
    go_enter Tryz.func105, Tryz.ntmps105
    go_wp2_with (first
      | ((with_reducible apply at_slice0); refine ⟨?_⟩; refine wl_slice0 (e := 121) (sz := 3) (by' := 24) (by kernel_rfl) h ?_; intro bN wN hN)
      | (with_reducible apply at_append))
    refine ⟨?_⟩
    refine wl_appD 121 3 24 (by kernel_rfl) hN (by rfl) (by rfl) pick0 (Sat.rd hN.drop) (fun u hu => by cases hu) (by decide) (by decide) ?_
    intro v' w' hS
    go_wp2_with fail
    go_ret
    exact ⟨_, rfl, hS⟩
end
theorem plState : placesB Tryz.prog 51 = some [(0, 1), (1, 1), (2, 1), (3, 1)] := by kernel_rfl
theorem zState : zeroB Tryz.prog 51 = some (.agg #[.int .i64 0, .pointer none, .slice none 0 0, .slice none 0 0]) := by kernel_rfl
section
variable {w0 w : World} {F : List HProp} {p m K r ps pn pi B : Nat} {L : Seg.Log} {M : Med} {limit seg : Int} {d : Bool} {uv tv : Value} {mp : Frm.Bs → Option Seg.Plc}
theorem run_state3 (n : Int) (q : Nat) (a : Option Addr) (l c : Nat) (w : World) : (Instr.build 51 #[(0, .int .i64 n), (1, ptr q), (2, .slice a l c)]).run Tryz.prog w = .ok (.agg #[.int .i64 n, ptr q, .slice a l c, .slice none 0 0]) w :=
  run_build (P := Tryz.prog) [(0, .int .i64 n), (1, ptr q), (2, .slice a l c)] plState zState (by
    intro x hx
    simp only [List.mem_cons, List.not_mem_nil, or_false] at hx
    rcases hx with rfl | rfl | rfl
    · exact ⟨0, rfl, by show 0 + 1 ≤ 4; decide⟩
    · exact ⟨1, rfl, by show 1 + 1 ≤ 4; decide⟩
    · exact ⟨2, rfl, by show 2 + 1 ≤ 4; decide⟩) w
set_option maxRecDepth 20000 in
set_option maxHeartbeats 8000000 in
theorem rstate0_c (hB : B ≤ 14000000) (h : Sat w0 w (rpPt r m seg p ps pn d :: stPt ps (-1) pi uv tv :: TabML pi mp B :: osl 121 3 uv [] :: F)) :
    Calls Tryz.prog 41 #[ptr r] w (Rtn fun v w' => ∃ (q : Nat) (pq : Nat) (vu : Value), v = ptr q ∧ Sat w0 w' (stPt q (-1) pq vu (.slice none 0 0) :: F)) := by
  have HB := Lib.hid hB
  clear hB
  go_enter Tryz.func41, Tryz.ntmps41
  go_wp2_with fail
  refine (rokY_c h).mono ?_
  rintro ee w1 ⟨v, rfl, rfl, rfl⟩
  go_wp2_with fail
  have h1 := h.drew
  clear h
  refine wpL_begin [23, 24, 25] (fun w' => w'.cell? ⟨r, 3, none⟩ = some (.pointer (some ⟨ps, 0, none⟩)) ∧ w'.cell? ⟨ps, 0, none⟩ = some (.int .i64 (-1)) ∧ w'.cell? ⟨ps, 1, none⟩ = some (.pointer (some ⟨pi, 0, none⟩)) ∧ w'.cell? ⟨ps, 2, none⟩ = some uv) (by kernel_rfl) ?_
  have HG := Lib.hid (fun (w' : World) (R : List HProp) (hw : Sat w0 w' (rpPt r m seg p ps pn d :: stPt ps (-1) pi uv tv :: R)) => And.intro (show w'.cell? ⟨r, 3, none⟩ = some (.pointer (some ⟨ps, 0, none⟩)) from hw.cellP pick0 3 rfl) (And.intro (show w'.cell? ⟨ps, 0, none⟩ = some (.int .i64 (-1)) from hw.cellP pick1 0 rfl) (And.intro (show w'.cell? ⟨ps, 1, none⟩ = some (.pointer (some ⟨pi, 0, none⟩)) from hw.cellP pick1 1 rfl) (show w'.cell? ⟨ps, 2, none⟩ = some uv from hw.cellP pick1 2 rfl))))
  have hG := HG.out _ _ h1
  refine rp 0 (hy := (yl_move evD)) (h := ?_)
  refine rp 1 (hy := (yl_nil evD)) (h := ?_)
  refine rp 2 (hy := (yl_field evD rnD)) (h := ?_)
  refine rt 3 (h := ?_)
  refine rp 4 (hy := (yl_nil evD)) (h := ?_)
  refine rp 5 (hy := (yl_field evD rnD)) (h := ?_)
  refine rt 6 (h := ?_)
  refine rp 7 (hy := (yl_move evD)) (h := ?_)
  refine rp 8 (hy := (yl_nil evD)) (h := ?_)
  refine rp 9 (hy := (yl_field evD rnD)) (h := ?_)
  refine rt 10 (h := ?_)
  refine rp 11 (hy := (yl_nil evD)) (h := ?_)
  refine rp 12 (hy := (yl_field evD rnD)) (h := ?_)
  refine rt 13 (h := ?_)
  refine rp 15 (hy := (yl_move evD)) (h := ?_)
  refine rp 16 (hy := (yl_nil evD)) (h := ?_)
  refine rp 17 (hy := (yl_field evD rnD)) (h := ?_)
  refine rt 18 (h := ?_)
  refine rp 19 (hy := (yl_nil evD)) (h := ?_)
  refine rp 20 (hy := (yl_field evD rnD)) (h := ?_)
  refine rt 21 (h := ?_)
  clear hG
  refine rg_eff 14 evD (by kernel_rfl) (fun K hK => ?_)
  (refine eff_call1 (by kernel_rfl) evD ?_)
  refine (copyL_c HB.out (h1.sb : Sat w0 _ (TabML pi mp B :: rpPt r m seg p ps pn d :: stPt ps (-1) pi uv tv :: osl 121 3 uv [] :: F))).mono ?_
  rintro ee w2 ⟨v, rfl, pq, rfl, h2⟩
  refine hK _ _ (.inr (.inl (HG.out _ _ (h2.sb)))) ?_
  clear hK h1
  refine rg_eff 22 evD (by kernel_rfl) (fun K hK => ?_)
  (refine eff_call1 (by kernel_rfl) evD ?_)
  refine (cloneU0_c (h2.sb : Sat w0 _ (osl 121 3 uv [] :: rpPt r m seg p ps pn d :: stPt ps (-1) pi uv tv :: F))).mono ?_
  rintro ee w3 ⟨vu, rfl, h3⟩
  refine hK _ _ (.inr (.inl (HG.out _ _ (h3.sb)))) ?_
  clear hK h2
  obtain ⟨ua, un, uc, rfl, _, _⟩ := Sat.rd h3
  refine rp 23 (hy := (yl_build3 evD evD evD (fun w => run_state3 (-1) pq ua un uc w))) (h := ?_)
  refine rg_eff 24 evD (by kernel_rfl) (fun K hK => ?_)
  refine eff_box (cs := #[.int .i64 (-1), ptr pq, .slice ua un uc, .slice none 0 0]) h3 evD evD ?_
  intro q w4 h4
  refine hK _ _ (.inl rfl) ?_
  clear hK h3
  refine rp 25 (hy := (yl_assign evD)) (h := ?_)
  refine wpL_done (by kernel_rfl) ?_
  go_wp2_with fail
  go_ret
  exact ⟨_, rfl, q, pq, _, rfl, h4.sb⟩
set_option maxHeartbeats 2000000 in
theorem check0_c (h1 : 128 ≤ limit) (h2 : limit ≤ 1048576) (hM : M.Ok K) (ha : Seg.alive M = 0) (hf : (Seg.fresh M limit).segs = []) (hl : M.list = []) (h : Sat w0 w (MedRep m M :: F)) :
    Calls Tryz.prog 47 #[ptr m, .int .i64 limit] w (Rtn fun v w' => v = .tuple #[nilS, errno 0] ∧ Sat w0 w' (MedRep m M :: F)) := by
  have HL := Lib.hid (Seg.fresh_ok hM limit h1 h2)
  have hop := open_c hM limit h ha h1 h2
  generalize Seg.fresh M limit = L at *
  have Hf := Lib.hid hf; have HM := Lib.hid hM; have Hl := Lib.hid hl
  clear h1 h2 hM ha hf hl
  go_enter Tryz.func47, Tryz.ntmps47
  go_wp2_with fail
  refine hop.mono ?_
  rintro e w1 ⟨v, rfl, p, rfl, hS⟩
  clear hop h
  go_wp2_with fail
  refine (pieces0_c HL.out Hf.out hS).mono ?_
  rintro e w2 ⟨v, rfl, rfl, hS2⟩
  clear hS
  go_wp2_with fail
  refine (faults0_c _ HM.out Hl.out hS2.drop).mono ?_
  rintro e w3 ⟨v, rfl, rfl, hS3⟩
  go_wp2_with fail
  go_ret2
  exact ⟨_, rfl, rfl, hS3⟩
set_option maxHeartbeats 1000000 in
theorem checkE_c (e0 : Int) (mv : Value) (hb : (e0 != 0) = true) (hop : Calls Tryz.prog 24 #[mv, .int .i64 limit] w (Rtn fun v w' => v = .tuple #[.pointer none, errno e0] ∧ w = w')) :
    Calls Tryz.prog 47 #[mv, .int .i64 limit] w (Rtn fun v w' => v = .tuple #[nilS, errno e0] ∧ w = w') := by
  go_enter Tryz.func47, Tryz.ntmps47
  go_wp2_with fail
  refine hop.mono ?_
  rintro e w1 ⟨v, rfl, rfl, rfl⟩
  clear hop
  go_wp2_with fail
  go_ret2
  exact ⟨_, rfl, rfl, rfl⟩
set_option maxHeartbeats 1000000 in
theorem repairE_c (e0 : Int) (mv : Value) (hb : (e0 != 0) = true) (hop : Calls Tryz.prog 24 #[mv, .int .i64 limit] w (Rtn fun v w' => v = .tuple #[.pointer none, errno e0] ∧ w = w')) :
    Calls Tryz.prog 48 #[mv, .int .i64 limit] w (Rtn fun v w' => v = .tuple #[nilS, errno e0] ∧ w = w') := by
  go_enter Tryz.func48, Tryz.ntmps48
  go_wp2_with fail
  refine hop.mono ?_
  rintro e w1 ⟨v, rfl, rfl, rfl⟩
  clear hop
  go_wp2_with fail
  go_ret2
  exact ⟨_, rfl, rfl, rfl⟩
set_option maxRecDepth 20000 in
set_option maxHeartbeats 8000000 in
theorem repair0_c (h1 : 128 ≤ limit) (h2 : limit ≤ 1048576) (hM : M.Ok K) (hK : K ≤ 1048576) (ha : Seg.alive M = 0) (hf : (Seg.fresh M limit).segs = []) (hl : M.list = []) (hsd : M.syncDir = (M, 0)) (hz : M.size ByteArray.empty = (0, 9)) (hH : Ro w0 F Half) (h : Sat w0 w (MedRep m M :: F)) :
    Calls Tryz.prog 48 #[ptr m, .int .i64 limit] w (Rtn fun v w' => v = .tuple #[nilS, errno 0] ∧ Sat w0 w' (MedRep m M :: F)) := by
  have HL := Lib.hid (Seg.fresh_ok hM limit h1 h2)
  have hop := open_c hM limit h ha h1 h2
  have Hcl := Lib.hid (fun (w' : World) (R : List HProp) (hw : Sat w0 w' (MedRep m M :: R)) => closed0_c h1 h2 hM ha hf hw)
  have Hro := Lib.hid (fun (w' : World) (hw : Sat w0 w' (MedRep m M :: F)) => ropen0_c h1 h2 hM hK ha hf hl hH hw)
  generalize Seg.fresh M limit = L at *
  have Hf := Lib.hid hf; have HM := Lib.hid hM; have Hl := Lib.hid hl; have Hsd := Lib.hid hsd; have Hz := Lib.hid hz
  clear h1 h2 hM ha hf hl hsd hz hK hH
  go_enter Tryz.func48, Tryz.ntmps48
  go_wp2_with fail
  refine hop.mono ?_
  rintro e w1 ⟨v, rfl, p, rfl, hS⟩
  clear hop h
  go_wp2_with fail
  refine (pieces0_c HL.out Hf.out hS).mono ?_
  rintro e w2 ⟨v, rfl, rfl, hS2⟩
  clear hS
  go_wp2_with fail
  refine (faults0_c _ HM.out Hl.out hS2.drop).mono ?_
  rintro e w3 ⟨v, rfl, rfl, hS3⟩
  clear hS2
  have hcd := cleared0_c HM.out Hl.out hS3
  rw [Hsd.out] at hcd
  go_wp2_with fail
  refine hcd.mono ?_
  rintro e w4 ⟨v, rfl, rfl, hS4⟩
  clear hcd hS3
  go_wp2_with fail
  refine (Hcl.out _ _ hS4).mono ?_
  rintro e w5 ⟨v, rfl, rfl, hS5⟩
  clear hS4
  go_wp2_with fail
  refine (clean0_c HM.out Hl.out Hz.out hS5).mono ?_
  rintro e w6 ⟨v, rfl, rfl, hS6⟩
  clear hS5
  go_wp2_with fail
  refine (Hro.out _ hS6).mono ?_
  rintro e w7 ⟨v, rfl, r, p2, ps, pi, pn, uv, rfl, hS7⟩
  clear hS6
  go_wp2_with (with_reducible apply at_alloc)
  refine ⟨?_⟩
  refine wl_alloc zFlt hS7 rfl ?_
  intro b14 w8 hS8
  clear hS7
  go_wp2_with ((with_reducible apply at_store); refine ⟨?_⟩; refine wl_storeA (fltA Rep.Flt.zero) hS8 (by rfl) (by rfl) (by rfl) upd0 (by kernel_rfl) (by rfl) ?_; intro w9 hS9)
  refine (rstate0_c (by decide) (hS9.sb : Sat w0 w9 (rpPt r m limit p2 ps pn false :: stPt ps (-1) pi uv (.slice none 0 0) :: TabML pi (fun _ => none) 0 :: osl 121 3 uv [] :: MedRep m M :: F))).mono ?_
  rintro e w10 ⟨v, rfl, q, pq, vu, rfl, hS10⟩
  clear hS9 hS8
  have e0 : w10.cell? ⟨q, 0, none⟩ = some (.int .i64 (-1)) := hS10.cellP pick0 0 rfl
  go_wp2_with fail
  go_ret2
  exact ⟨_, rfl, rfl, hS10.drop⟩
end
section
variable {w0 w : World} {F : List HProp} {m K : Nat} {M : Med}
theorem nm_sl {v : Value} {l : List ByteArray} (h : rdsl 1 v (strs l) w) : ∃ a c, v = .slice a l.length c := by
  obtain ⟨a, n, c, rfl, hl, hx⟩ := h
  unfold strs at hl
  rw [List.length_map, Nat.mul_one] at hl
  exact ⟨a, c, by rw [hl]⟩
theorem nm_cell {l : List ByteArray} {i : Nat} {s : ByteArray} {a : Option Addr} {n c : Nat} (h : rdsl 1 (.slice a n c) (strs l) w) (hi : l[i]? = some s) : ∃ bk off, a = some ⟨bk, off, none⟩ ∧ w.cell? ⟨bk, off + i, none⟩ = some (.string s) := by
  have hx : (strs l)[i]? = some (.string s) := by unfold strs; rw [List.getElem?_map, hi]; rfl
  obtain ⟨bk, off, rfl, hc⟩ := rdsl_cells h hx
  exact ⟨bk, off, rfl, hc _ _ hx⟩
theorem list_len (ok : M.Ok K) : M.list.length ≤ 500 := by
  unfold Med.list
  split
  · exact Nat.zero_le _
  · rw [List.length_map]; exact ok.nowOk.len
theorem newestL_step {l : List ByteArray} {i : Nat} {s : ByteArray} (h : l[i]? = some s) (x : Int) : Hin.newestL (l.drop i) x = Hin.newestL (l.drop (i + 1)) (if (Hin.number s).2 = true then max x (Hin.number s).1 else x) := by
  obtain ⟨hi, rfl⟩ := List.getElem?_eq_some_iff.1 h
  rw [List.drop_eq_getElem_cons hi]
  rfl
set_option maxRecDepth 20000 in
set_option maxHeartbeats 4000000 in
theorem newest_c (hM : M.Ok K) (hn : ∀ f ∈ M.list, f.size ≤ 4000000000) (h : Sat w0 w (MedRep m M :: F)) : Calls Tryz.prog 20 #[ptr m] w (Rtn fun v w' => v = .int .i64 (Hin.newest M) ∧ Sat w0 w' (MedRep m M :: F)) := by
  have hls := list_c hM h
  have Hlen := Lib.hid (list_len hM)
  have Hn := Lib.hid hn
  have Hw := Lib.hid (show Hin.newestL M.list (-1) = Hin.newest M from rfl)
  clear hn hM
  generalize M.list = l at *
  generalize Hin.newest M = W at *
  go_enter Tryz.func20, Tryz.ntmps20
  go_wp2_with fail
  refine hls.mono ?_
  rintro e w1 ⟨v, rfl, hS, _⟩
  clear hls h
  obtain ⟨a, c, rfl⟩ := nm_sl (Sat.rd hS)
  go_wp2_with fail
  go_loopg [3, 11] l.length (fun g lv iq wr => ∃ (i : Nat) (x : Int), g = l.length - i ∧ i ≤ l.length ∧ lv = .int .i64 x ∧ iq = .int .i64 i ∧ Hin.newestL (l.drop i) x = W ∧ Sat w0 wr (osl 9 1 (.slice a l.length c) (strs l) :: MedRep m M :: F))
  case atStart => exact ⟨0, -1, rfl, Nat.zero_le _, rfl, rfl, Hw.out, hS⟩
  case round =>
    obtain ⟨i, x, rfl, hi, rfl, rfl, hx, hS2⟩ := hrel
    clear hS
    by_cases hlt : i < l.length
    · have c1 : (i : Int) < (l.length : Int) := by omega
      have hwi : IntKind.i64.wrap ((i : Int) + 1) = (i : Int) + 1 := IntWalk.i64_in _ (by have := Hlen.out; omega)
      obtain ⟨s, hs⟩ : ∃ s, l[i]? = some s := ⟨_, List.getElem?_eq_getElem hlt⟩
      obtain ⟨bk, off, rfl, hc⟩ := nm_cell (Sat.rd hS2) hs
      have Hx := Lib.hid (hx.symm.trans (newestL_step hs x))
      have hsz := Hn.out s (List.mem_of_getElem? hs)
      have Hlt := Lib.hid hlt
      clear hx hs hlt hi
      go_wp2_with fail
      refine (hnumber_c s hsz hS2).mono ?_
      rintro e w2 ⟨v, rfl, rfl, hS3⟩
      clear hS2 hc
      generalize (Hin.number s).1 = n at *
      generalize (Hin.number s).2 = b at *
      cases b with
      | true =>
        go_wp2_with fail
        go_roundg (l.length - (i + 1))
        case measure => have := Hlt.out; omega
        case rel => exact ⟨i + 1, max x n, rfl, Nat.succ_le_of_lt Hlt.out, by first | rfl | (congr 1), by first | rfl | go_num, Hx.out.symm, hS3⟩
      | false =>
        go_wp2_with fail
        go_roundg (l.length - (i + 1))
        case measure => have := Hlt.out; omega
        case rel => exact ⟨i + 1, x, rfl, Nat.succ_le_of_lt Hlt.out, rfl, by first | rfl | go_num, Hx.out.symm, hS3⟩
    · have c1 : ¬ (i : Int) < (l.length : Int) := by omega
      have Hx := Lib.hid (show x = W by rw [List.drop_of_length_le (by omega)] at hx; exact hx)
      clear hx hlt hi
      go_wp2_with fail
      go_ret
      exact ⟨_, rfl, by rw [Hx.out]; rfl, hS2.drop⟩
end
section
variable {w0 w : World} {F : List HProp} {p m K : Nat} {L : Seg.Log} {M : Med} {limit : Int}
def pcA (n : Int) (sv : Value) (e : Int) : Array Value := #[.int .i64 n, sv, .int .i64 0, .int .i64 e]
theorem plPc : placesB Tryz.prog 247 = some [(0, 1), (1, 1), (2, 1), (3, 1)] := by kernel_rfl
theorem zPc : zeroB Tryz.prog 247 = some (.agg (pcA 0 nilS 0)) := by kernel_rfl
theorem run_pc1 (n : Int) (w : World) : (Instr.build 247 #[(0, .int .i64 n)]).run Tryz.prog w = .ok (.agg (pcA n nilS 0)) w :=
  run_build (P := Tryz.prog) [(0, .int .i64 n)] plPc zPc (by
    intro x hx
    rw [List.mem_singleton.1 hx]
    exact ⟨0, rfl, by show 0 + 1 ≤ 4; decide⟩) w
set_option maxHeartbeats 1000000 in
theorem salvage0_c (a : Option Addr) (c : Nat) (w : World) : Calls Tryz.prog 160 #[.slice a 0 c] w (Rtn fun v w' => v = nilS ∧ w = w') := by
  go_enter Tryz.func160, Tryz.ntmps160
  go_wp2_with fail
  go_loopg [3, 4] 0 (fun g ov iq wr => ov = nilS ∧ iq = .int .i64 0 ∧ wr = w)
  case atStart => exact ⟨rfl, rfl, rfl⟩
  case round =>
    obtain ⟨rfl, rfl, rfl⟩ := hrel
    go_wp2
    go_ret
    exact ⟨_, rfl, rfl, rfl⟩
theorem at_b1 {P : Program} {ops : Array Oper} {rest : List Oper} {a : Act} {Q : Exit → Act → World → Prop} {dst : Option Tmp} {t ty : TypeId} {pos : String} {after : Array Edge} {x : Operand} (h : Stop (wpList P ops Q (⟨dst, .build ty #[(0, x)], t, pos, after, none⟩ :: rest) a w)) : wpList P ops Q (⟨dst, .build ty #[(0, x)], t, pos, after, none⟩ :: rest) a w := h.out
set_option maxRecDepth 20000 in
set_option maxHeartbeats 8000000 in
theorem pieces1_c (n : Int) (hL : L.Ok) (hM : M.Ok K) (hs : L.segs = [n]) (hb : L.bytes M n = ([], 0)) (hH : Ro w0 F Half) (h : Sat w0 w (LogRep p m L :: MedRep m M :: F)) :
    Calls Tryz.prog 108 #[ptr p] w (Rtn fun v w' => ∃ (b c : Nat), v = .tuple #[.slice (some ⟨b, 0, none⟩) 1 c, errno 0] ∧ Sat w0 w' (osl 247 4 (.slice (some ⟨b, 0, none⟩) 1 c) (pcA n nilS 4).toList :: LogRep p m L :: MedRep m M :: F)) := by
  have hse := lsegs_c hL h
  rw [hs] at hse
  have hby := fun (w' : World) (R : List HProp) (hw : Sat w0 w' (LogRep p m L :: MedRep m M :: R)) => lbytes_c hL hM n hw
  rw [hb] at hby
  have Hby := Lib.hid hby; have HH := Lib.hid hH
  clear hL hM hs hb hby hH
  go_enter Tryz.func108, Tryz.ntmps108
  go_wp2_with fail
  refine hse.mono ?_
  rintro e w1 ⟨v, rfl, hS⟩
  clear hse h
  obtain ⟨a, c, rfl⟩ := ints_sl (Sat.rd hS)
  obtain ⟨bk, off, cc, hsv, hc0⟩ := ints_cell (Sat.rd hS) (i := 0) rfl
  cases hsv
  have hc1 : w1.cell? ⟨bk, off, none⟩ = some (.int .i64 n) := hc0
  clear hc0
  go_wp2_with fail
  go_loopg [4, 13] 2 (fun g ov iq wr => (g = 2 ∧ ov = nilS ∧ iq = .int .i64 0 ∧ wr = w1) ∨ ∃ b c : Nat, g = 1 ∧ ov = .slice (some ⟨b, 0, none⟩) 1 c ∧ iq = .int .i64 1 ∧ Sat w0 wr (osl 247 4 (.slice (some ⟨b, 0, none⟩) 1 c) (pcA n nilS 4).toList :: LogRep p m L :: MedRep m M :: F))
  case atStart => exact .inl ⟨rfl, rfl, rfl, rfl⟩
  case round =>
    rcases hrel with ⟨rfl, rfl, rfl, rfl⟩ | ⟨b, c, rfl, rfl, rfl, hS2⟩
    · go_wp2_with fail
      refine (Hby.out _ _ (hS.sb : Sat w0 wr (LogRep p m L :: MedRep m M :: F))).mono ?_
      rintro e w2 ⟨v, rfl, bv, rfl, h2⟩
      clear hS hc1
      obtain ⟨ba, bn, bc, rfl, hn, hcap, hl⟩ := bsl_cap' h2
      obtain rfl : bn = 0 := hl
      go_wp2_with (first
        | ((with_reducible apply at_b1); refine ⟨?_⟩; refine wl_bld (by rfl) (run_pc1 n) ?_)
        | (with_reducible apply at_alloc))
      refine ⟨?_⟩
      refine wl_alloc zPc h2 rfl ?_
      intro b9 w3 h3
      go_wp2_with (with_reducible apply at_store)
      refine ⟨?_⟩
      refine wl_storeA (pcA n nilS 0) h3 (by rfl) (by rfl) (by rfl) upd0 (by kernel_rfl) (by rfl) ?_
      intro w4 h4
      clear h2 h3
      have h5 : Sat w0 w4 (bsl (.slice ba 0 bc) [] :: pt b9 (.cells (pcA n nilS 0) 247 (0,0)) :: LogRep p m L :: MedRep m M :: F) := h4.sb
      clear h4
      go_wp2_with fail
      refine (fscan_c [] (Ro.bsl _ _) ⟨_, _, _, rfl, hn, hcap⟩ (Ro.os HH.out) (Nat.zero_le _) h5).mono ?_
      rintro e w6 ⟨v, rfl, fs, ov, hfs, _, rfl, h6⟩
      have hf0 : fs = [] := List.map_eq_nil_iff.1 hfs
      subst hf0
      obtain ⟨oa, on, oc, rfl, _, _⟩ := Sat.rd h6
      have h7 : Sat w0 w6 (pt b9 (.cells (pcA n nilS 0) 247 (0,0)) :: LogRep p m L :: MedRep m M :: F) := h6.sb
      clear h5 h6 hfs
      rw [show (Frm.scan []).2.1 = 0 from rfl, show (Frm.scan []).2.2 = 4 from rfl]
      go_wp2_with (with_reducible apply at_store)
      refine ⟨?_⟩
      refine wl_store (cs' := pcA n (.slice oa on oc) 0) h7 (by rfl) (by rfl) (by rfl) upd0 (Nat.le_of_ble_eq_true (by rfl)) (by kernel_rfl) (by rfl) ?_
      intro w8 h8
      clear h7
      go_wp2_with (with_reducible apply at_store)
      refine ⟨?_⟩
      refine wl_store (cs' := pcA n (.slice oa on oc) 0) h8 (by rfl) (by rfl) (by rfl) upd0 (Nat.le_of_ble_eq_true (by rfl)) (by kernel_rfl) (by rfl) ?_
      intro w9 h9
      clear h8
      go_wp2_with (with_reducible apply at_store)
      refine ⟨?_⟩
      refine wl_store (cs' := pcA n (.slice oa on oc) 4) h9 (by rfl) (by rfl) (by rfl) upd0 (Nat.le_of_ble_eq_true (by rfl)) (by kernel_rfl) (by rfl) ?_
      intro w10 h10
      clear h9
      replace h10 : Sat w0 w10 (pt b9 (.cells #[.int .i64 n, .slice oa on oc, .int .i64 0, .int .i64 4] 247 (0,0)) :: LogRep p m L :: MedRep m M :: F) := h10
      have e3 : w10.cell? ⟨b9, 3, none⟩ = some (.int .i64 4) := h10.cellP pick0 3 rfl
      go_wp2_with fail
      refine (salvage0_c _ _ _).mono ?_
      rintro e w11 ⟨v, rfl, rfl, rfl⟩
      clear e3
      go_wp2_with (with_reducible apply at_store)
      refine ⟨?_⟩
      refine wl_store (cs' := pcA n nilS 4) h10 (by rfl) (by rfl) (by rfl) upd0 (Nat.le_of_ble_eq_true (by rfl)) (by kernel_rfl) (by rfl) ?_
      intro w12 h12
      clear h10
      have h13 : Sat w0 w12 (osl 247 4 nilS [] :: pt b9 (.cells (pcA n nilS 4) 247 (0,0)) :: LogRep p m L :: MedRep m M :: F) := Sat.osl_nil.2 h12
      clear h12
      go_wp2_with (first
        | ((with_reducible apply at_load); refine ⟨?_⟩; refine wl_loadA h13 (by rfl) pick1 Tryz.underlying247 rfl (by kernel_rfl) ?_)
        | ((with_reducible apply at_build1); refine ⟨?_⟩; refine wl_build1 (e := 247) (sz := 4) (by' := 48) (by kernel_rfl) h13 (by rfl) rfl (by rfl) (Nat.le_of_ble_eq_true (by rfl)) ?_; intro bN wN hN)
        | (with_reducible apply at_append))
      refine ⟨?_⟩
      refine wl_app 247 4 48 (by kernel_rfl) hN (by rfl) (by rfl) pick1 pick0 (by rfl) (Nat.le_of_ble_eq_true (by rfl)) (by rfl) (by decide) (Nat.le_of_ble_eq_true (by rfl)) (Nat.le_of_ble_eq_true (by rfl)) (ys := (pcA n nilS 4).toList) rfl ?_
      intro b' n' c' w14 h14
      have hn' : n' = 1 := by
        obtain ⟨_, _, _, he, hl2, _⟩ := Sat.rd h14
        cases he
        rw [List.nil_append, show (pcA n nilS 4).toList.length = 4 from rfl] at hl2
        omega
      subst hn'
      go_wp2_with fail
      go_roundg 1
      case measure => omega
      case rel => exact .inr ⟨b', c', rfl, rfl, by first | rfl | go_num, h14.sb⟩
    · clear hS hc1
      go_wp2_with fail
      go_ret2
      exact ⟨_, rfl, b, c, rfl, hS2⟩
set_option maxHeartbeats 4000000 in
theorem pfault_c (n : Int) (sv : Value) (e : Int) (h : Sat w0 w F) : Calls Tryz.prog 161 #[.agg (pcA n sv e)] w (Rtn fun v w' => v = .agg (fltA ⟨1, n, 0⟩) ∧ Sat w0 w' F) := by
  go_enter Tryz.func161, Tryz.ntmps161
  go_wp2_with (with_reducible apply at_box)
  refine ⟨?_⟩
  refine wl_box h (by rfl) (by rfl) ?_
  intro b1 w1 h1
  replace h1 : Sat w0 w1 (pt b1 (.cells #[.int .i64 n, sv, .int .i64 0, .int .i64 e] 247 (0,0)) :: F) := h1
  go_wp2_with (with_reducible apply at_alloc)
  refine ⟨?_⟩
  refine wl_alloc zFlt h1 rfl ?_
  intro b2 w2 h2
  have e0 : w2.cell? ⟨b1, 0, none⟩ = some (.int .i64 n) := h2.cellP pick1 0 rfl
  have e2 : w2.cell? ⟨b1, 2, none⟩ = some (.int .i64 0) := h2.cellP pick1 2 rfl
  go_wp2_with (first
    | ((with_reducible apply at_build2); refine ⟨?_⟩; refine wl_build2 (by rfl) (by rfl) (fun w => run_flt2 1 n w) ?_)
    | ((with_reducible apply at_store); refine ⟨?_⟩; refine wl_storeA (fltA ⟨1, n, 0⟩) h2 (by rfl) (by rfl) (by rfl) upd0 (by kernel_rfl) (by rfl) ?_; intro w9 h9))
  refine ⟨rfl, _, res_cell rfl h9 (by rfl) pkD Tryz.underlying37 rfl (by kernel_rfl), ?_⟩
  exact ⟨_, rfl, rfl, h9.drop.drop⟩
set_option maxRecDepth 20000 in
set_option maxHeartbeats 4000000 in
theorem committed1_c (n : Int) (b c : Nat) (h : Sat w0 w (osl 247 4 (.slice (some ⟨b, 0, none⟩) 1 c) (pcA n nilS 4).toList :: F)) :
    Calls Tryz.prog 162 #[.slice (some ⟨b, 0, none⟩) 1 c] w (Rtn fun v w' => v = .int .i64 (-1) ∧ Sat w0 w' (osl 247 4 (.slice (some ⟨b, 0, none⟩) 1 c) (pcA n nilS 4).toList :: F)) := by
  go_enter Tryz.func162, Tryz.ntmps162
  go_wp2_with fail
  go_loopg [3, 8] 2 (fun g ov iq wr => ov = .int .i64 (-1) ∧ (g = 2 ∧ iq = .int .i64 0 ∨ g = 1 ∧ iq = .int .i64 1) ∧ Sat w0 wr (osl 247 4 (.slice (some ⟨b, 0, none⟩) 1 c) (pcA n nilS 4).toList :: F))
  case atStart => exact ⟨rfl, .inl ⟨rfl, rfl⟩, h⟩
  case round =>
    obtain ⟨rfl, hq, hS⟩ := hrel
    clear h
    rcases hq with ⟨rfl, rfl⟩ | ⟨rfl, rfl⟩
    · obtain ⟨bk, off, he, hcell⟩ := rdsl_cells (Sat.rd hS) (i := 0) (x := .int .i64 n) rfl
      cases he
      go_wp2_with (first
        | ((with_reducible apply at_load); refine ⟨?_⟩; refine wl_loadW (b := b) (o := 0) (pcA n nilS 4).toList (by rfl) hcell Tryz.underlying247 rfl (by kernel_rfl) ?_)
        | (with_reducible apply at_alloc))
      refine ⟨?_⟩
      refine wl_alloc zPc hS rfl ?_
      intro b5 w3 h3
      go_wp2_with (with_reducible apply at_store)
      refine ⟨?_⟩
      refine wl_storeA (pcA n nilS 4) h3 (by rfl) (by rfl) (by rfl) upd0 (by kernel_rfl) (by rfl) ?_
      intro w4 h4
      clear h3 hS hcell
      have e3 : w4.cell? ⟨b5, 3, none⟩ = some (.int .i64 4) := h4.cellP pick0 3 rfl
      go_wp2_with ((with_reducible apply ug_load); refine ⟨?_⟩; refine ug_op (by rfl) ?_)
      go_roundg 1
      case measure => omega
      case rel => exact ⟨rfl, .inr ⟨rfl, by first | rfl | go_num⟩, h4.drop⟩
    · go_wp2_with fail
      go_ret
      exact ⟨_, rfl, rfl, hS⟩
end
section
variable {w0 w : World} {F : List HProp} {p m K : Nat} {L : Seg.Log} {M : Med} {limit : Int}
abbrev pcS (n : Int) (b c : Nat) : HProp := osl 247 4 (.slice (some ⟨b, 0, none⟩) 1 c) (pcA n nilS 4).toList
def fl1 (n : Int) : List Value := (fltA ⟨1, n, 0⟩).toList
def fl3 (n : Int) : List Value := (fltA ⟨3, n, 0⟩).toList
set_option maxRecDepth 20000 in
set_option maxHeartbeats 16000000 in
theorem faults1_c (n : Int) (hn : 0 ≤ n) (b c : Nat) (lv : Value) (hM : M.Ok K) (hne : ∀ f ∈ M.list, f.size ≤ 4000000000) (hnw : Hin.newest M = -1) (h : Sat w0 w (pcS n b c :: MedRep m M :: F)) :
    Calls Tryz.prog 109 #[ptr m, lv, .slice (some ⟨b, 0, none⟩) 1 c] w (Rtn fun v w' => ∃ (q l k : Nat), l = 2 ∧ v = .tuple #[.slice (some ⟨q, 0, none⟩) l k, errno 0] ∧ Sat w0 w' (osl 37 36 (.slice (some ⟨q, 0, none⟩) l k) (fl1 n ++ fl3 n) :: MedRep m M :: F)) := by
  have Hnw := Lib.hid (fun (w' : World) (R : List HProp) (hw : Sat w0 w' (MedRep m M :: R)) => newest_c hM hne hw)
  have Hn := Lib.hid hnw
  have c0 : (-1 : Int) < n := by omega
  clear hM hne hnw hn
  go_enter Tryz.func109, Tryz.ntmps109
  go_wp2_with fail
  go_loopg [8, 21] 2 (fun g ov iq wr => (g = 2 ∧ ov = nilS ∧ iq = .int .i64 0 ∧ Sat w0 wr (pcS n b c :: MedRep m M :: F)) ∨ ∃ q l k : Nat, g = 1 ∧ l = 1 ∧ ov = .slice (some ⟨q, 0, none⟩) l k ∧ iq = .int .i64 1 ∧ Sat w0 wr (osl 37 36 (.slice (some ⟨q, 0, none⟩) l k) (fl1 n) :: pcS n b c :: MedRep m M :: F))
  case atStart => exact .inl ⟨rfl, rfl, rfl, h⟩
  case round =>
    clear h
    rcases hrel with ⟨rfl, rfl, rfl, hS⟩ | ⟨q, l, k, rfl, rfl, rfl, rfl, hS⟩
    · as_aux_lemma =>
      obtain ⟨bk, off, he, hcell⟩ := rdsl_cells (Sat.rd hS) (i := 0) (x := .int .i64 n) rfl
      cases he
      go_wp2_with (first
        | ((with_reducible apply at_load); refine ⟨?_⟩; refine wl_loadW (b := b) (o := 0) (pcA n nilS 4).toList (by rfl) hcell Tryz.underlying247 rfl (by kernel_rfl) ?_)
        | (with_reducible apply at_alloc))
      refine ⟨?_⟩
      refine wl_alloc zPc hS rfl ?_
      intro b5 w3 h3
      go_wp2_with (with_reducible apply at_store)
      refine ⟨?_⟩
      refine wl_storeA (pcA n nilS 4) h3 (by rfl) (by rfl) (by rfl) upd0 (by kernel_rfl) (by rfl) ?_
      intro w4 h4
      clear h3 hS hcell
      have e3 : w4.cell? ⟨b5, 3, none⟩ = some (.int .i64 4) := h4.cellP pick0 3 rfl
      go_wp2_with ((with_reducible apply at_load); refine ⟨?_⟩; refine wl_loadA h4 (by rfl) pick0 Tryz.underlying247 rfl (by kernel_rfl) ?_)
      refine (pfault_c n nilS 4 h4).mono ?_
      rintro e w5 ⟨v, rfl, rfl, h5⟩
      clear h4 e3
      have h6 : Sat w0 w5 (osl 37 36 nilS [] :: pcS n b c :: MedRep m M :: F) := Sat.osl_nil.2 (h5.sb)
      clear h5
      go_wp2_with (first
        | ((with_reducible apply at_build1); refine ⟨?_⟩; refine wl_build1 (e := 37) (sz := 36) (by' := 72) (by kernel_rfl) h6 (by rfl) rfl (by rfl) (Nat.le_of_ble_eq_true (by rfl)) ?_; intro bN wN hN)
        | (with_reducible apply at_append))
      refine ⟨?_⟩
      refine wl_app 37 36 72 (by kernel_rfl) hN (by rfl) (by rfl) pick1 pick0 (by rfl) (Nat.le_of_ble_eq_true (by rfl)) (by rfl) (by decide) (Nat.le_of_ble_eq_true (by rfl)) (Nat.le_of_ble_eq_true (by rfl)) (ys := fl1 n) rfl ?_
      intro b' n' c' w14 h14
      have hn' : n' = 1 := by
        obtain ⟨_, _, _, he, hl2, _⟩ := Sat.rd h14
        cases he
        rw [List.nil_append, show (fl1 n).length = 36 from rfl] at hl2
        omega
      subst hn'
      go_wp2_with fail
      go_roundg 1
      case measure => omega
      case rel => exact .inr ⟨b', _, c', rfl, rfl, rfl, by first | rfl | go_num, h14.sb⟩
    · have hS1 : Sat w0 wr (pcS n b c :: osl 37 36 (.slice (some ⟨q, 0, none⟩) 1 k) (fl1 n) :: MedRep m M :: F) := hS.sb
      clear hS
      go_wp2_with fail
      refine (committed1_c n b c hS1).mono ?_
      rintro e w2 ⟨v, rfl, rfl, hS2⟩
      clear hS1
      go_wp2_with fail
      go_loopg [8, 38] 2 (fun g ov iq wr => (g = 2 ∧ ov = .slice (some ⟨q, 0, none⟩) 1 k ∧ iq = .int .i64 0 ∧ Sat w0 wr (pcS n b c :: osl 37 36 (.slice (some ⟨q, 0, none⟩) 1 k) (fl1 n) :: MedRep m M :: F)) ∨ ∃ q2 l2 k2 : Nat, g = 1 ∧ l2 = 2 ∧ ov = .slice (some ⟨q2, 0, none⟩) l2 k2 ∧ iq = .int .i64 1 ∧ Sat w0 wr (osl 37 36 (.slice (some ⟨q2, 0, none⟩) l2 k2) (fl1 n ++ fl3 n) :: MedRep m M :: F))
      case atStart => exact .inl ⟨rfl, rfl, rfl, hS2⟩
      case round =>
        clear hS2
        rcases hrel with ⟨rfl, rfl, rfl, hS⟩ | ⟨q2, l2, k2, rfl, rfl, rfl, rfl, hS⟩
        · as_aux_lemma =>
          obtain ⟨bk, off, he, hcell⟩ := rdsl_cells (Sat.rd hS) (i := 0) (x := .int .i64 n) rfl
          cases he
          go_wp2_with (first
            | ((with_reducible apply at_load); refine ⟨?_⟩; refine wl_loadW (b := b) (o := 0) (pcA n nilS 4).toList (by rfl) hcell Tryz.underlying247 rfl (by kernel_rfl) ?_)
            | (with_reducible apply at_alloc))
          refine ⟨?_⟩
          refine wl_alloc zPc hS rfl ?_
          intro b5 w3 h3
          go_wp2_with (with_reducible apply at_store)
          refine ⟨?_⟩
          refine wl_storeA (pcA n nilS 4) h3 (by rfl) (by rfl) (by rfl) upd0 (by kernel_rfl) (by rfl) ?_
          intro w4 h4
          clear h3 hS hcell
          have e0 : w4.cell? ⟨b5, 0, none⟩ = some (.int .i64 n) := h4.cellP pick0 0 rfl
          have h6 : Sat w0 w4 (osl 37 36 (.slice (some ⟨q, 0, none⟩) 1 k) (fl1 n) :: pcS n b c :: MedRep m M :: F) := h4.sb
          clear h4
          go_wp2_with (first
            | ((with_reducible apply at_build2); refine ⟨?_⟩; refine wl_build2 (by rfl) (by rfl) (fun w => run_flt2 3 n w) ?_)
            | ((with_reducible apply at_build1); refine ⟨?_⟩; refine wl_build1 (e := 37) (sz := 36) (by' := 72) (by kernel_rfl) h6 (by rfl) rfl (by rfl) (Nat.le_of_ble_eq_true (by rfl)) ?_; intro bN wN hN)
            | (with_reducible apply at_append))
          refine ⟨?_⟩
          refine wl_app 37 36 72 (by kernel_rfl) hN (by rfl) (by rfl) pick1 pick0 (by rfl) (Nat.le_of_ble_eq_true (by rfl)) (by rfl) (by show 36 ≤ 2147483648; decide) (Nat.le_of_ble_eq_true (by rfl)) (Nat.le_of_ble_eq_true (by rfl)) (ys := fl3 n) rfl ?_
          intro b' n' c' w14 h14
          have hn' : n' = 2 := by
            obtain ⟨_, _, _, he, hl2, _⟩ := Sat.rd h14
            cases he
            rw [List.length_append, show (fl1 n).length = 36 from rfl, show (fl3 n).length = 36 from rfl] at hl2
            omega
          subst hn'
          go_wp2_with fail
          go_roundg 1
          case measure => omega
          case rel => exact .inr ⟨b', _, c', rfl, rfl, rfl, by first | rfl | go_num, h14.sb⟩
        · have hS1 : Sat w0 wr (MedRep m M :: osl 37 36 (.slice (some ⟨q2, 0, none⟩) 2 k2) (fl1 n ++ fl3 n) :: F) := hS.sb
          clear hS
          have hne := Hnw.out _ _ hS1
          rw [Hn.out] at hne
          clear hS1
          go_wp2_with fail
          refine hne.mono ?_
          rintro e w3 ⟨v, rfl, rfl, hS3⟩
          clear hne
          go_wp2_with fail
          go_ret2
          exact ⟨_, rfl, q2, 2, k2, rfl, rfl, hS3.sb⟩
set_option maxHeartbeats 2000000 in
theorem check1_c (n : Int) (hn : 0 ≤ n) (h1 : 128 ≤ limit) (h2 : limit ≤ 1048576) (hM : M.Ok K) (ha : Seg.alive M = 0) (hf : (Seg.fresh M limit).segs = [n]) (hb : (Seg.fresh M limit).bytes M n = ([], 0)) (hne : ∀ f ∈ M.list, f.size ≤ 4000000000) (hnw : Hin.newest M = -1) (hH : Ro w0 F Half) (h : Sat w0 w (MedRep m M :: F)) :
    Calls Tryz.prog 47 #[ptr m, .int .i64 limit] w (Rtn fun v w' => ∃ (q l k : Nat), l = 2 ∧ v = .tuple #[.slice (some ⟨q, 0, none⟩) l k, errno 0] ∧ Sat w0 w' (osl 37 36 (.slice (some ⟨q, 0, none⟩) l k) (fl1 n ++ fl3 n) :: MedRep m M :: F)) := by
  have HL := Lib.hid (Seg.fresh_ok hM limit h1 h2)
  have hop := open_c hM limit h ha h1 h2
  generalize Seg.fresh M limit = L at *
  have Hf := Lib.hid hf; have Hb := Lib.hid hb; have HM := Lib.hid hM; have Hne := Lib.hid hne; have Hnw := Lib.hid hnw; have Hn := Lib.hid hn; have HH := Lib.hid hH
  clear h1 h2 hM ha hf hb hne hnw hn hH
  go_enter Tryz.func47, Tryz.ntmps47
  go_wp2_with fail
  refine hop.mono ?_
  rintro e w1 ⟨v, rfl, p, rfl, hS⟩
  clear hop h
  go_wp2_with fail
  refine (pieces1_c n HL.out HM.out Hf.out Hb.out HH.out hS).mono ?_
  rintro e w2 ⟨v, rfl, b, c, rfl, hS2⟩
  clear hS
  go_wp2_with fail
  refine (faults1_c n Hn.out b c _ HM.out Hne.out Hnw.out (hS2.sb : Sat w0 w2 (pcS n b c :: MedRep m M :: F))).mono ?_
  rintro e w3 ⟨v, rfl, q, l, k, rfl, rfl, hS3⟩
  go_wp2_with fail
  go_ret2
  exact ⟨_, rfl, q, 2, k, rfl, rfl, hS3⟩
def live19M : Med := (liveM.create (Seg.name 0)).1
theorem live19_name : (⟨#[115, 101, 103, 46, 48, 48, 48, 48, 48, 48, 48, 48]⟩ : ByteArray) = Seg.name 0 := by decide +kernel
theorem live19_alive : Seg.alive live19M = 0 := by decide +kernel
theorem live19_segs : (Seg.fresh live19M 200).segs = [0] := by decide +kernel
theorem live19_bytes : (Seg.fresh live19M 200).bytes live19M 0 = ([], 0) := by decide +kernel
theorem live19_list : live19M.list = [Seg.name 0] := by decide +kernel
theorem live19_newest : Hin.newest live19M = -1 := by decide +kernel
theorem live19_ok : live19M.Ok 21 := (Med.Ok.new 20 1000 (by decide)).create _
theorem live19_names : ∀ f ∈ live19M.list, f.size ≤ 4000000000 := fun f hf => by
  rw [live19_list, List.mem_singleton] at hf
  subst hf
  decide +kernel
set_option maxRecDepth 20000 in
set_option maxHeartbeats 4000000 in
theorem lives19_c (hH : Ro w0 F Half) (h : Sat w0 w F) : Calls Tryz.prog 50 #[] w (Rtn fun v w' => v = .bool true ∧ Sat w0 w' F) := by
  have hnew : Calls Tryz.prog 46 #[.int .i64 1000] w (Rtn fun v w' => ∃ m, v = .tuple #[ptr m, errno 0] ∧ Sat w0 w' (MedRep m liveM :: F)) := new_yes 1000 (by decide) h
  have HH := Lib.hid hH
  clear hH
  go_enter Tryz.func50, Tryz.ntmps50
  go_wp2_with fail
  refine hnew.mono ?_
  rintro e w1 ⟨v, rfl, m, rfl, hS⟩
  clear hnew h
  have hcr := create_c (Med.Ok.new 20 1000 (by decide)) (by decide) hS ⟨#[115, 101, 103, 46, 48, 48, 48, 48, 48, 48, 48, 48]⟩ (by decide)
  rw [live19_name] at hcr
  change Calls _ _ _ _ (Rtn fun v w' => v = errno (liveM.create (Seg.name 0)).2 ∧ Sat w0 w' (MedRep m live19M :: F)) at hcr
  rw [show (liveM.create (Seg.name 0)).2 = 0 from by rw [live_create]] at hcr
  go_wp2_with fail
  rw [live19_name]
  refine hcr.mono ?_
  rintro e w2 ⟨v, rfl, rfl, hS2⟩
  clear hcr hS
  go_wp2_with fail
  refine (check1_c 0 (by decide) (by decide) (by decide) live19_ok live19_alive live19_segs live19_bytes live19_names live19_newest HH.out hS2).mono ?_
  rintro e w3 ⟨v, rfl, q, l, k, rfl, rfl, hS3⟩
  clear hS2
  obtain ⟨bk, off, he, hcell⟩ := rdsl_cells (Sat.rd hS3) (i := 0) (x := .int .i64 1) rfl
  cases he
  have e0 : w3.cell? ⟨q, 0, none⟩ = some (.int .i64 1) := hcell 0 _ rfl
  clear hcell
  go_wp2_with fail
  go_ret
  exact ⟨_, rfl, rfl, hS3.drop.drop⟩
theorem liveM_sync : liveM.syncDir = (liveM, 0) := by kernel_rfl
theorem liveM_size : liveM.size ByteArray.empty = (0, 9) := by decide +kernel
theorem liveM_segs (limit : Int) : (Seg.fresh liveM limit).segs = [] := rfl
theorem ln0 {v : Value} {w : World} (h : rdsl 1 v (strs []) w) : ∃ a c, v = .slice a 0 c := by
  obtain ⟨a, c, e⟩ := nm_sl h
  exact ⟨a, c, e⟩
set_option maxRecDepth 20000 in
set_option maxHeartbeats 8000000 in
theorem mend_refuses_c (s : Int) (hH : Ro w0 F Half) (h : Sat w0 w F) : Calls Tryz.prog 7 #[.int .i64 s] w (Rtn fun v w' => v = .bool true ∧ Sat w0 w' F) := by
  have hnew : Calls Tryz.prog 46 #[.int .i64 1000] w (Rtn fun v w' => ∃ m, v = .tuple #[ptr m, errno 0] ∧ Sat w0 w' (MedRep m liveM :: F)) := new_yes 1000 (by decide) h
  have hok : liveM.Ok 20 := Med.Ok.new 20 1000 (by decide)
  have HH := Lib.hid hH; have Hok := Lib.hid hok
  have Hli := Lib.hid (fun (w' : World) (m : Nat) (hw : Sat w0 w' (MedRep m liveM :: F)) => list_c hok hw)
  rw [live17_list] at Hli
  have hbs : s < 128 ∨ (¬ s < 128 ∧ 1048576 < s) ∨ (128 ≤ s ∧ s ≤ 1048576) := by omega
  clear hH hok
  by_cases hg : 128 ≤ s ∧ s ≤ 1048576
  · have g1 : ¬ s < 128 := by omega
    have g2 : ¬ 1048576 < s := by omega
    have Hg := Lib.hid hg
    clear hg hbs
    go_enter Tryz.func7, Tryz.ntmps7
    go_wp2_with fail
    refine hnew.mono ?_
    rintro e w1 ⟨v, rfl, m, rfl, hS⟩
    clear hnew h
    go_wp2_with fail
    refine (checkE_c 1 (.pointer none) (by rfl) (openNil_c s _)).mono ?_
    rintro e w2 ⟨v, rfl, rfl, rfl⟩
    go_wp2_with fail
    refine (repairE_c 1 (.pointer none) (by rfl) (openNil_c s _)).mono ?_
    rintro e w3 ⟨v, rfl, rfl, rfl⟩
    go_wp2_with fail
    refine (check0_c Hg.out.1 Hg.out.2 Hok.out live_alive (liveM_segs s) live17_list hS).mono ?_
    rintro e w4 ⟨v, rfl, rfl, hS4⟩
    clear hS
    go_wp2_with fail
    refine (repair0_c Hg.out.1 Hg.out.2 Hok.out (by decide) live_alive (liveM_segs s) live17_list liveM_sync liveM_size HH.out hS4).mono ?_
    rintro e w5 ⟨v, rfl, rfl, hS5⟩
    clear hS4
    go_wp2_with fail
    refine (Hli.out _ _ hS5).mono ?_
    rintro e w6 ⟨v, rfl, hS6, _⟩
    obtain ⟨a, c, rfl⟩ := ln0 (Sat.rd hS6)
    clear hS5 Hli
    go_wp2_with fail
    refine (lives19_c HH.out hS6.drop.drop).mono ?_
    rintro e w7 ⟨v, rfl, rfl, hS7⟩
    go_wp2_with fail
    go_ret
    exact ⟨_, rfl, rfl, hS7⟩
  · have hb : s < 128 ∨ 1048576 < s := by omega
    have Hb := Lib.hid hb
    by_cases g1 : s < 128
    · clear hg hbs hb
      go_enter Tryz.func7, Tryz.ntmps7
      go_wp2_with fail
      refine hnew.mono ?_
      rintro e w1 ⟨v, rfl, m, rfl, hS⟩
      clear hnew h
      go_wp2_with fail
      refine (checkE_c 1 (.pointer none) (by rfl) (openNil_c s _)).mono ?_
      rintro e w2 ⟨v, rfl, rfl, rfl⟩
      go_wp2_with fail
      refine (repairE_c 1 (.pointer none) (by rfl) (openNil_c s _)).mono ?_
      rintro e w3 ⟨v, rfl, rfl, rfl⟩
      go_wp2_with fail
      refine (checkE_c 2 (ptr m) (by rfl) (openbad_c Hok.out s hS live_alive Hb.out)).mono ?_
      rintro e w4 ⟨v, rfl, rfl, rfl⟩
      go_wp2_with fail
      refine (repairE_c 2 (ptr m) (by rfl) (openbad_c Hok.out s hS live_alive Hb.out)).mono ?_
      rintro e w5 ⟨v, rfl, rfl, rfl⟩
      go_wp2_with fail
      refine (Hli.out _ _ hS).mono ?_
      rintro e w6 ⟨v, rfl, hS6, _⟩
      obtain ⟨a, c, rfl⟩ := ln0 (Sat.rd hS6)
      clear hS Hli
      go_wp2_with fail
      refine (lives19_c HH.out hS6.drop.drop).mono ?_
      rintro e w7 ⟨v, rfl, rfl, hS7⟩
      go_wp2_with fail
      go_ret
      exact ⟨_, rfl, rfl, hS7⟩
    · have g2 : 1048576 < s := by omega
      clear hg hbs hb
      go_enter Tryz.func7, Tryz.ntmps7
      go_wp2_with fail
      refine hnew.mono ?_
      rintro e w1 ⟨v, rfl, m, rfl, hS⟩
      clear hnew h
      go_wp2_with fail
      refine (checkE_c 1 (.pointer none) (by rfl) (openNil_c s _)).mono ?_
      rintro e w2 ⟨v, rfl, rfl, rfl⟩
      go_wp2_with fail
      refine (repairE_c 1 (.pointer none) (by rfl) (openNil_c s _)).mono ?_
      rintro e w3 ⟨v, rfl, rfl, rfl⟩
      go_wp2_with fail
      refine (checkE_c 2 (ptr m) (by rfl) (openbad_c Hok.out s hS live_alive Hb.out)).mono ?_
      rintro e w4 ⟨v, rfl, rfl, rfl⟩
      go_wp2_with fail
      refine (repairE_c 2 (ptr m) (by rfl) (openbad_c Hok.out s hS live_alive Hb.out)).mono ?_
      rintro e w5 ⟨v, rfl, rfl, rfl⟩
      go_wp2_with fail
      refine (Hli.out _ _ hS).mono ?_
      rintro e w6 ⟨v, rfl, hS6, _⟩
      obtain ⟨a, c, rfl⟩ := ln0 (Sat.rd hS6)
      clear hS Hli
      go_wp2_with fail
      refine (lives19_c HH.out hS6.drop.drop).mono ?_
      rintro e w7 ⟨v, rfl, rfl, hS7⟩
      go_wp2_with fail
      go_ret
      exact ⟨_, rfl, rfl, hS7⟩
end
end Go.Proofs.YtlinnpehkfbnkaaGreatDoor
namespace Go.Proofs.YtlinnpehkfbnkaaGreatDoor.card
open Go.ChangeShapes Go.WideShapes Go.ChangeAt Go.RowKit
open Go Go.Sl Go.Med
theorem gHalf : Tryz.prog.globalNamed "hoard/crc.half" = some 0 := by kernel_rfl
theorem tHalf : ((Tryz.prog.globals[0]?).map (·.type)) = some 295 := by kernel_rfl
theorem door_met (os : Os) (args : Array Value) : laidMetH Tryz.prog [("hoard/crc.half", Rows.laid_hoard_crc_half)] ((World.doorLaid Tryz.prog 400 os).forCall (fun _ _ => 0) ⟨#[], args, []⟩).memory :=
  laidMetH_of_parts3 (fuel := 8) (laidMet_of_run' 8 (by kernel_rfl) (by kernel_rfl)) (by kernel_rfl) (by kernel_rfl)
theorem of_laid {W : World} (h : laidMetH Tryz.prog [("hoard/crc.half", Rows.laid_hoard_crc_half)] W) : 0 < W.heap.size ∧ Half W := by
  rw [MakeChecks.laidMetH_plain _ _ _ (by kernel_rfl)] at h
  obtain ⟨ps, ⟨g0, t0, cs0, f0, p0, q0, hg0, ht0, hv0, hd0, hrest⟩, hrest2⟩ := h
  obtain rfl := Option.some.inj (gHalf.symm.trans hg0)
  obtain rfl := Option.some.inj (tHalf.symm.trans ht0)
  obtain ⟨xs, m1, rfl, hx1, hlen, hn3, hel⟩ := DataW.trod_array Tryz.underlying295 hd0
  have c3 : Tryz.prog.cellsOf 236 = 1 := by kernel_rfl
  simp only [Prod.mk.injEq, Rows.laid_hoard_crc_half, DataW.agg.injEq] at hx1
  have hH : Half W := by
    intro i hi
    have h0 := hel i hi
    have hxi : xs[i]? = some (xs[i]'(by omega)) := List.getElem?_eq_getElem (by omega)
    rw [hxi] at h0
    obtain ⟨k, e1, e2, _⟩ := DataW.trod_int Tryz.underlying236 h0
    rw [c3, Nat.mul_one] at e1
    have hc : cs0.toList[i]? = some (.int .u32 k) := by
      have : ((cs0.toList.drop i).take 1)[0]? = some (.int .u32 k) := by rw [e1]; rfl
      rw [List.getElem?_take, if_pos (by decide), List.getElem?_drop] at this
      exact this
    have hL := congrArg (fun l => l[i]?) hx1.1
    rw [List.getElem?_map, hxi] at hL
    have hk : k = ((Frm.half.getD i 0 : Nat) : Int) := by
      rw [e2] at hL
      rcases i with _ | _ | _ | _ | _ | _ | _ | _ | _ | _ | _ | _ | _ | _ | _ | _ | i
      all_goals first | omega | (simp at hL; rw [← hL]; rfl)
    subst hk
    have := World.var?_cell hg0 hv0 i
    rw [this, ← Array.getElem?_toList]
    exact hc
  refine ⟨?_, hH⟩
  by_cases hz : 0 < W.heap.size
  · exact hz
  · have h0 := hH 0 (by decide)
    have e : W.heap[0]? = none := Array.getElem?_eq_none (by omega)
    simp [World.cell?, e] at h0
end Go.Proofs.YtlinnpehkfbnkaaGreatDoor.card
namespace Go.Proofs.YtlinnpehkfbnkaaGreatDoor
open Go Go.Sl Go.Med Go.ChangeShapes Go.WideShapes Go.RowKit
section
variable {H : Type} {enc : TypeId × Value → H} {W : World} {base : Nat} {spare : Nat → Bool} {held : Bool}
structure EntAt (W : World) (p : Frm.Ent × Value) : Prop where
  key : p.1.key.length = 32
  tag : inI p.1.tag
  rd : rdsl 1 p.2 (bys p.1.data) W
  cap : capOk p.2
end
end Go.Proofs.YtlinnpehkfbnkaaGreatDoor
