import Derived.Test.YtlinnpehkfbnkaaGreatDoorJ9
import Derived.Laws.StructEq
set_option linter.unusedVariables false
set_option maxHeartbeats 128000000
namespace Go.Hin
open Go.Med
def tmp : ByteArray := ⟨#[116, 109, 112]⟩
def there (M : Med) (s : ByteArray) : Bool := decide ((M.size s).2 = 0)
def remTmp (M : Med) : Med × Int := if there M tmp = true then M.remove tmp else (M, 0)
def fill (M : Med) (s : ByteArray) (b : Bs) : Med × Int :=
 if (M.append tmp b).2 = 0 then
  (if ((M.append tmp b).1.sync tmp).2 = 0 then ((M.append tmp b).1.sync tmp).1.rename tmp s else (M.append tmp b).1.sync tmp)
 else if (M.append tmp b).2 = 11 then
  (if ((M.append tmp b).1.remove tmp).2 = 0 then (((M.append tmp b).1.remove tmp).1, 11) else (M.append tmp b).1.remove tmp)
 else M.append tmp b
def write (M : Med) (s : ByteArray) (b : Bs) : Med × Int :=
 if (remTmp M).2 = 0 then (if ((remTmp M).1.create tmp).2 = 0 then fill ((remTmp M).1.create tmp).1 s b else (remTmp M).1.create tmp) else remTmp M
def sweep (p : ByteArray → Bool) : List ByteArray → Med → Med × Int
 | [], M => (M, 0)
 | f :: l, M => if p f = true then (if (M.remove f).2 = 0 then sweep p l (M.remove f).1 else M.remove f) else sweep p l M
def other (n : Int) (s : ByteArray) : Bool := (number s).2 && (number s).1 != n
def save2 (M : Med) (n : Int) : Med × Int := if M.syncDir.2 = 0 then sweep (other n) M.syncDir.1.list M.syncDir.1 else M.syncDir
def save1 (M : Med) (n : Int) (bu : Bs) : Med × Int := if (write M (name use n) bu).2 = 0 then save2 (write M (name use n) bu).1 n else write M (name use n) bu
def save (M : Med) (n : Int) (bi bu : Bs) : Med × Int := if (write M (name idx n) bi).2 = 0 then save1 (write M (name idx n) bi).1 n bu else write M (name idx n) bi
abbrev Kept : Type := List (ByteArray × Nat × Fil)
structure Nm (T : Kept) (s1 : ByteArray) (b1 : Bs) (s2 : ByteArray) (b2 : Bs) (fs : Nat → Fil) (l : Names) : Prop where
 seg : ∀ t ∈ T, nget l t.1 = some t.2.1
 one : ∀ i, nget l s1 = some i → fs i = ⟨b1, b1, []⟩
 two : ∀ i, nget l s2 = some i → fs i = ⟨b2, b2, []⟩
 only : ∀ p ∈ l, (∃ t ∈ T, p.1 = t.1) ∨ p.1 = tmp ∨ p.1 = s1 ∨ p.1 = s2
structure Cf (T : Kept) (s1 s2 : ByteArray) : Prop where
 ne : s1 ≠ s2
 t1 : s1 ≠ tmp
 t2 : s2 ≠ tmp
 e1 : s1 ≠ ByteArray.empty
 e2 : s2 ≠ ByteArray.empty
 seg : ∀ t ∈ T, t.1 ≠ tmp ∧ t.1 ≠ s1 ∧ t.1 ≠ s2 ∧ t.1 ≠ ByteArray.empty
structure Sv (T : Kept) (s1 : ByteArray) (b1 : Bs) (s2 : ByteArray) (b2 : Bs) (K : Nat) (M : Med) : Prop where
 ok : M.Ok K
 nm : ∀ k, k ≤ M.waits.length → Nm T s1 b1 s2 b2 M.file (M.lastNames k)
 fil : ∀ t ∈ T, M.file t.2.1 = t.2.2
def Lone (j : Nat) (M : Med) : Prop := ∀ k, k ≤ M.waits.length → ∀ s, s ≠ tmp → nget (M.lastNames k) s ≠ some j
section
variable {T : Kept} {s1 s2 s : ByteArray} {b1 b2 b : Bs} {K j : Nat} {M M' : Med} {l : Names} {fs fs' : Nat → Fil}
theorem tmp_ne : tmp ≠ ByteArray.empty := by decide
theorem lastNames_congr (e1 : M'.fast = M.fast) (e2 : M'.waits = M.waits) (k : Nat) : M'.lastNames k = M.lastNames k := by unfold Med.lastNames; rw [e1, e2]
theorem file_congr (e : M'.files = M.files) : M'.file = M.file := by funext i; unfold Med.file; rw [e]
theorem Nm.files (h : Nm T s1 b1 s2 b2 fs l) (h1 : ∀ i, nget l s1 = some i → fs' i = fs i) (h2 : ∀ i, nget l s2 = some i → fs' i = fs i) : Nm T s1 b1 s2 b2 fs' l :=
 ⟨h.seg, fun i hi => (h1 i hi).trans (h.one i hi), fun i hi => (h2 i hi).trans (h.two i hi), h.only⟩
theorem Sv.now (h : Sv T s1 b1 s2 b2 K M) : Nm T s1 b1 s2 b2 M.file M.now := by rw [h.ok.now]; exact h.nm _ (Nat.le_refl _)
theorem Sv.mono {K' : Nat} (h : Sv T s1 b1 s2 b2 K M) (hk : K ≤ K') : Sv T s1 b1 s2 b2 K' M := ⟨h.ok.mono hk, h.nm, h.fil⟩
theorem Sv.like (h : Sv T s1 b1 s2 b2 K M) (ok : M'.Ok K) (e1 : M'.fast = M.fast) (e2 : M'.waits = M.waits) (e3 : M'.files = M.files) : Sv T s1 b1 s2 b2 K M' := by
 refine ⟨ok, fun k hk => ?_, fun t ht => ?_⟩
 ·rw [lastNames_congr e1 e2, file_congr e3]; rw [e2] at hk; exact h.nm k hk
 ·rw [file_congr e3]; exact h.fil t ht
theorem Lone.like (h : Lone j M) (e1 : M'.fast = M.fast) (e2 : M'.waits = M.waits) : Lone j M' := fun k hk s hs => by
 rw [lastNames_congr e1 e2]; rw [e2] at hk; exact h k hk s hs
theorem Sv.step (h : Sv T s1 b1 s2 b2 K M) : Sv T s1 b1 s2 b2 K M.step.1 := by
 obtain ⟨_, e1, e2, e3, e4⟩ := M.step_same
 exact h.like h.ok.step e1 e4 e3
theorem Lone.step (h : Lone j M) : Lone j M.step.1 := by
 obtain ⟨_, e1, e2, e3, e4⟩ := M.step_same
 exact h.like e1 e4
theorem Sv.link (h : Sv T s1 b1 s2 b2 K M) (x : Lnk) (ok : (M.link x).Ok (K + 1)) (hx : Nm T s1 b1 s2 b2 M.file (x.on M.now)) : Sv T s1 b1 s2 b2 (K + 1) (M.link x) := by
 have hf : (M.link x).file = M.file := file_congr rfl
 refine ⟨ok, fun k hk => ?_, fun t ht => ?_⟩
 ·have hw : (M.link x).waits.length = M.waits.length + 1 := by simp [Med.link]
  rw [hw] at hk
  rw [hf]
  rcases Nat.lt_or_ge k (M.waits.length + 1) with q | q
  ·rw [M.lastNames_link x k (by omega)]; exact h.nm k (by omega)
  ·obtain rfl : k = M.waits.length + 1 := by omega
   rw [M.lastNames_last x h.ok.now]; exact hx
 ·rw [hf]; exact h.fil t ht
theorem Lone.link (h : Lone j M) (ok : M.Ok K) (x : Lnk) (hx : ∀ s, s ≠ tmp → nget (x.on M.now) s ≠ some j) : Lone j (M.link x) := fun k hk s hs => by
 have hw : (M.link x).waits.length = M.waits.length + 1 := by simp [Med.link]
 rw [hw] at hk
 rcases Nat.lt_or_ge k (M.waits.length + 1) with q | q
 ·rw [M.lastNames_link x k (by omega)]; exact h k (by omega) s hs
 ·obtain rfl : k = M.waits.length + 1 := by omega
  rw [M.lastNames_last x ok.now]; exact hx s hs
theorem Nm.draft (c : Cf T s1 s2) (h : Nm T s1 b1 s2 b2 fs l) (x : Lnk) (h1 : x.fr = tmp ∨ x.fr = ByteArray.empty) (h2 : x.to = tmp ∨ x.to = ByteArray.empty) : Nm T s1 b1 s2 b2 fs (x.on l) := by
 have ne : ∀ {s : ByteArray}, s ≠ tmp → s ≠ ByteArray.empty → nget (x.on l) s = nget l s := fun {s} a b =>
  Seg.on_ne (fun e => by rcases h1 with q | q <;> rw [q] at e <;> first | exact a e.symm | exact b e.symm) (fun e => by rcases h2 with q | q <;> rw [q] at e <;> first | exact a e.symm | exact b e.symm)
 refine ⟨fun t ht => ?_, fun i hi => ?_, fun i hi => ?_, fun p hp => ?_⟩
 ·obtain ⟨a, _, _, d⟩ := c.seg t ht
  rw [ne a d]; exact h.seg t ht
 ·rw [ne c.t1 c.e1] at hi; exact h.one i hi
 ·rw [ne c.t2 c.e2] at hi; exact h.two i hi
 ·by_cases hpt : p.1 = tmp
  ·exact .inr (.inl hpt)
  ·refine h.only p ?_
   unfold Lnk.on at hp
   simp only at hp
   have hd : ∀ {q : ByteArray × Nat} {l : Names} {u : ByteArray}, q ∈ ndel l u → q ∈ l := fun hq => (List.mem_filter.1 hq).1
   have hpu : ∀ {l : Names}, p ∈ (if x.to = ByteArray.empty then l else nput l x.to x.f) → p ∈ l := fun {l} hq => by
    split at hq
    ·exact hq
    ·rename_i hto
     rcases List.mem_cons.1 ((nput_perm l x.to x.f).mem_iff.1 hq) with rfl | hq
     ·exact absurd (h2.resolve_right hto) hpt
     ·exact hd hq
   have hp := hpu hp
   split at hp
   ·exact hp
   ·exact hd hp
theorem Sv.remove (c : Cf T s1 s2) (h : Sv T s1 b1 s2 b2 K M) : Sv T s1 b1 s2 b2 (K + 1) (M.remove tmp).1 := by
 have ok := h.ok.remove tmp
 unfold Med.remove at ok ⊢
 split; · exact h.mono (Nat.le_succ K)
 rename_i ho
 rw [if_neg ho] at ok
 cases hn : nget M.now tmp with
 | none => exact h.mono (Nat.le_succ K)
 | some i =>
  rw [hn] at ok
  simp only at ok ⊢
  split
  ·exact h.step.mono (Nat.le_succ K)
  ·rename_i hs
   rw [if_neg hs] at ok
   refine h.step.link _ ok ?_
   exact h.step.now.draft c _ (.inl rfl) (.inr rfl)
theorem Sv.remTmp (c : Cf T s1 s2) (h : Sv T s1 b1 s2 b2 K M) : Sv T s1 b1 s2 b2 (K + 1) (remTmp M).1 := by
 unfold Hin.remTmp
 split
 ·exact h.remove c
 ·exact h.mono (Nat.le_succ K)
theorem Sv.newFile (h : Sv T s1 b1 s2 b2 K M) : Sv T s1 b1 s2 b2 K { M with files := M.files ++ [Fil.new] } ∧ Lone M.files.length { M with files := M.files ++ [Fil.new] } := by
 have hf : ∀ i, ({ M with files := M.files ++ [Fil.new] } : Med).file i = M.file i := fun i => Seg.file_snoc M i
 have hl : ∀ k, ({ M with files := M.files ++ [Fil.new] } : Med).lastNames k = M.lastNames k := fun k => lastNames_congr rfl rfl k
 refine ⟨⟨h.ok.newFile, fun k hk => ?_, fun t ht => ?_⟩, fun k hk s hs e => ?_⟩
 ·rw [hl]; exact (h.nm k hk).files (fun i _ => hf i) (fun i _ => hf i)
 ·rw [hf]; exact h.fil t ht
 ·rw [hl] at e
  have := (h.ok.names k hk).ids _ (nget_mem e)
  simp at this
theorem Sv.create (c : Cf T s1 s2) (h : Sv T s1 b1 s2 b2 K M) : Sv T s1 b1 s2 b2 (K + 1) (M.create tmp).1 ∧
  ((M.create tmp).2 = 0 → ∃ j, nget (M.create tmp).1.now tmp = some j ∧ Lone j (M.create tmp).1 ∧ (M.create tmp).1.file j = Fil.new) := by
 have ok := h.ok.create tmp
 have hk := h.mono (Nat.le_succ K)
 unfold Med.create at ok ⊢
 split; · exact ⟨hk, fun e => by cases e⟩
 rename_i c0; rw [if_neg c0] at ok
 split; · exact ⟨hk, fun e => by cases e⟩
 rename_i c1; rw [if_neg c1] at ok
 split; · exact ⟨hk, fun e => by cases e⟩
 rename_i c2; rw [if_neg c2] at ok
 split; · exact ⟨hk, fun e => by cases e⟩
 rename_i c3; rw [if_neg c3] at ok
 split; · exact ⟨h.step.mono (Nat.le_succ K), fun e => by cases e⟩
 rename_i c4; rw [if_neg c4] at ok
 obtain ⟨_, e1, e2, e3, e4⟩ := M.step_same
 obtain ⟨n1, n2⟩ := h.step.newFile
 rw [e3] at n1 n2
 have hnow : ({ M.step.1 with files := M.files ++ [Fil.new] } : Med).now = M.now := e2
 have hon : ∀ k, nget (Lnk.on ⟨ByteArray.empty, tmp, k⟩ M.now) tmp = some k := fun k => by
  unfold Lnk.on; simp only [if_true, if_neg tmp_ne]
  exact Seg.nget_put_self h.ok.nowOk.srt _ _
 refine ⟨n1.link _ ok (by rw [hnow]; have := h.now.draft c ⟨ByteArray.empty, tmp, M.files.length⟩ (.inr rfl) (.inl rfl); exact this.files (fun i hi => Seg.file_snoc M i) (fun i hi => Seg.file_snoc M i)), fun _ => ⟨M.files.length, ?_, ?_, ?_⟩⟩
 ·show nget (Lnk.on ⟨ByteArray.empty, tmp, M.files.length⟩ M.step.1.now) tmp = _
  rw [e2]; exact hon _
 ·refine n2.link n1.ok _ fun s hs e => ?_
  rw [hnow] at e
  have h2 : nget M.now s = some M.files.length := by
   rw [← e]
   exact (Seg.on_ne (fun q => by
    have := ok.nowOk.ne (s, M.files.length) (nget_mem (show nget (Lnk.on ⟨ByteArray.empty, tmp, M.files.length⟩ M.step.1.now) s = _ by rw [e2]; exact e))
    exact this q.symm) (fun q => hs q.symm)).symm
  have := h.ok.nowOk.ids _ (nget_mem h2)
  simp at this
 ·show (M.files ++ [Fil.new]).getD M.files.length Fil.new = _
  simp
theorem Sv.setFile (c : Cf T s1 s2) (h : Sv T s1 b1 s2 b2 K M) (hl : Lone j M) (hj : j < M.files.length) (f : Fil) (ok : (M.setFile j f).Ok (K + 1)) : Sv T s1 b1 s2 b2 (K + 1) (M.setFile j f) ∧ Lone j (M.setFile j f) := by
 have hn : ∀ k, (M.setFile j f).lastNames k = M.lastNames k := fun k => lastNames_congr rfl rfl k
 have hf : ∀ i, i ≠ j → (M.setFile j f).file i = M.file i := fun i hi => by rw [file_set hj, if_neg hi]
 refine ⟨⟨ok, fun k hk => ?_, fun t ht => ?_⟩, hl.like rfl rfl⟩
 ·rw [hn]
  exact (h.nm k hk).files (fun i hi => hf i fun e => hl k hk s1 c.t1 (by rw [← e]; exact hi)) (fun i hi => hf i fun e => hl k hk s2 c.t2 (by rw [← e]; exact hi))
 ·rw [hf _ fun e => hl M.waits.length (Nat.le_refl _) t.1 (c.seg t ht).1 (by rw [← e]; exact (h.nm _ (Nat.le_refl _)).seg t ht)]
  exact h.fil t ht
theorem Sv.append (c : Cf T s1 s2) (h : Sv T s1 b1 s2 b2 K M) (hl : Lone j M) (hj : nget M.now tmp = some j) (b : Bs) :
  Sv T s1 b1 s2 b2 (K + 1) (M.append tmp b).1 ∧ Lone j (M.append tmp b).1 ∧ nget (M.append tmp b).1.now tmp = some j ∧ ((M.append tmp b).2 = 0 → (M.append tmp b).1.file j = (M.file j).do ⟨false, 0, b⟩) := by
 have ok := h.ok.append tmp b
 have hk := h.mono (Nat.le_succ K)
 obtain ⟨_, e1, e2, e3, e4⟩ := M.step_same
 unfold Med.append at ok ⊢
 split; · exact ⟨hk, hl, hj, fun e => by cases e⟩
 rename_i c0; rw [if_neg c0] at ok
 rw [hj] at ok ⊢
 simp only at ok ⊢
 split; · exact ⟨hk, hl, hj, fun e => by cases e⟩
 rename_i c1; rw [if_neg c1] at ok
 split; · exact ⟨h.step.mono (Nat.le_succ K), hl.step, by rw [e2]; exact hj, fun e => by cases e⟩
 rename_i c2; rw [if_neg c2] at ok
 have hlt : j < M.step.1.files.length := by rw [e3]; exact h.ok.nowOk.ids _ (nget_mem hj)
 obtain ⟨q1, q2⟩ := h.step.setFile c hl.step hlt _ ok
 exact ⟨q1, q2, by show nget M.step.1.now tmp = _; rw [e2]; exact hj, fun _ => by rw [file_set hlt, if_pos rfl]⟩
theorem Sv.sync (c : Cf T s1 s2) (h : Sv T s1 b1 s2 b2 K M) (hl : Lone j M) (hj : nget M.now tmp = some j) :
  Sv T s1 b1 s2 b2 (K + 1) (M.sync tmp).1 ∧ Lone j (M.sync tmp).1 ∧ nget (M.sync tmp).1.now tmp = some j ∧ ((M.sync tmp).2 = 0 → (M.sync tmp).1.file j = (M.file j).sync) := by
 have ok := h.ok.sync tmp
 have hk := h.mono (Nat.le_succ K)
 obtain ⟨_, e1, e2, e3, e4⟩ := M.step_same
 unfold Med.sync at ok ⊢
 split; · exact ⟨hk, hl, hj, fun e => by cases e⟩
 rename_i c0; rw [if_neg c0] at ok
 rw [hj] at ok ⊢
 simp only at ok ⊢
 split; · exact ⟨h.step.mono (Nat.le_succ K), hl.step, by rw [e2]; exact hj, fun e => by cases e⟩
 rename_i c2; rw [if_neg c2] at ok
 have hlt : j < M.step.1.files.length := by rw [e3]; exact h.ok.nowOk.ids _ (nget_mem hj)
 obtain ⟨q1, q2⟩ := h.step.setFile c hl.step hlt _ ok
 exact ⟨q1, q2, by show nget M.step.1.now tmp = _; rw [e2]; exact hj, fun _ => by rw [file_set hlt, if_pos rfl]⟩
theorem Sv.rename (c : Cf T s1 s2) (h : Sv T s1 b1 s2 b2 K M) (hl : Lone j M) (hj : nget M.now tmp = some j) (hs : s = s1 ∧ M.file j = ⟨b1, b1, []⟩ ∨ s = s2 ∧ M.file j = ⟨b2, b2, []⟩) :
  Sv T s1 b1 s2 b2 (K + 1) (M.rename tmp s).1 ∧ ((M.rename tmp s).2 = 0 → nget (M.rename tmp s).1.now s = some j) ∧ (∀ t, t ≠ tmp → t ≠ s → t ≠ ByteArray.empty → nget (M.rename tmp s).1.now t = nget M.now t) := by
 have ok := h.ok.rename tmp s
 have hk := h.mono (Nat.le_succ K)
 obtain ⟨_, e1, e2, e3, e4⟩ := M.step_same
 have hse : s ≠ ByteArray.empty := by rcases hs with ⟨rfl, _⟩ | ⟨rfl, _⟩; exact c.e1; exact c.e2
 unfold Med.rename at ok ⊢
 split; · exact ⟨hk, fun e => (by cases e), fun _ _ _ _ => rfl⟩
 rename_i c0; rw [if_neg c0] at ok
 rw [hj] at ok ⊢
 simp only at ok ⊢
 split; · exact ⟨hk, fun e => (by cases e), fun _ _ _ _ => rfl⟩
 rename_i c1; rw [if_neg c1] at ok
 split; · exact ⟨h.step.mono (Nat.le_succ K), fun e => (by cases e), fun _ _ _ _ => by rw [e2]⟩
 rename_i c2; rw [if_neg c2] at ok
 have hself : nget (Lnk.on ⟨tmp, s, j⟩ M.now) s = some j := by
  unfold Lnk.on
  simp only [if_neg tmp_ne, if_neg hse]
  exact Seg.nget_put_self (h.ok.nowOk.srt.del tmp) _ _
 have ne : ∀ {t : ByteArray}, t ≠ tmp → t ≠ s → nget (Lnk.on ⟨tmp, s, j⟩ M.now) t = nget M.now t := fun a b => Seg.on_ne (fun e => a e.symm) (fun e => b e.symm)
 have hnm : Nm T s1 b1 s2 b2 M.file (Lnk.on ⟨tmp, s, j⟩ M.now) := by
  have hw := h.now
  refine ⟨fun t ht => ?_, fun i hi => ?_, fun i hi => ?_, fun p hp => ?_⟩
  ·obtain ⟨a, b, d, _⟩ := c.seg t ht
   rw [ne a (by rcases hs with ⟨rfl, _⟩ | ⟨rfl, _⟩; exact b; exact d)]; exact hw.seg t ht
  ·rcases hs with ⟨rfl, hb⟩ | ⟨rfl, hb⟩
   ·rw [hself] at hi; cases hi; exact hb
   ·rw [ne c.t1 c.ne] at hi; exact hw.one i hi
  ·rcases hs with ⟨rfl, hb⟩ | ⟨rfl, hb⟩
   ·rw [ne c.t2 c.ne.symm] at hi; exact hw.two i hi
   ·rw [hself] at hi; cases hi; exact hb
  ·unfold Lnk.on at hp
   simp only [if_neg tmp_ne, if_neg hse] at hp
   rcases List.mem_cons.1 ((nput_perm _ s j).mem_iff.1 hp) with rfl | hp
   ·rcases hs with ⟨rfl, _⟩ | ⟨rfl, _⟩
    ·exact .inr (.inr (.inl rfl))
    ·exact .inr (.inr (.inr rfl))
   ·exact hw.only p (List.mem_filter.1 (List.mem_filter.1 hp).1).1
 refine ⟨h.step.link _ ok (by rw [e2, file_congr e3]; exact hnm), fun _ => ?_, fun t a b _ => ?_⟩
 ·show nget (Lnk.on _ M.step.1.now) s = _
  rw [e2]; exact hself
 ·show nget (Lnk.on _ M.step.1.now) t = _
  rw [e2]; exact ne a b
theorem Sv.syncDir (h : Sv T s1 b1 s2 b2 K M) : Sv T s1 b1 s2 b2 K M.syncDir.1 ∧ M.syncDir.1.now = M.now ∧ (M.syncDir.2 = 0 → M.syncDir.1.waits = []) := by
 have ok := h.ok.syncDir
 obtain ⟨_, e1, e2, e3, e4⟩ := M.step_same
 unfold Med.syncDir at ok ⊢
 split; · exact ⟨h, rfl, fun e => by cases e⟩
 rename_i c0; rw [if_neg c0] at ok
 split; · exact ⟨h.step, e2, fun e => by cases e⟩
 rename_i c1; rw [if_neg c1] at ok
 have hf : ({ M.step.1 with fast := M.now, waits := [] } : Med).file = M.file := file_congr e3
 refine ⟨⟨ok, fun k hk => ?_, fun t ht => by rw [hf]; exact h.fil t ht⟩, e2, fun _ => rfl⟩
 have h0 : ({ M.step.1 with fast := M.now, waits := [] } : Med).lastNames k = M.now := by unfold Med.lastNames; simp
 rw [h0, hf]; exact h.now
theorem Sv.fill (c : Cf T s1 s2) (h : Sv T s1 b1 s2 b2 K M) (hl : Lone j M) (hj : nget M.now tmp = some j) (hnew : M.file j = Fil.new) (hs : s = s1 ∧ b = b1 ∨ s = s2 ∧ b = b2) :
  Sv T s1 b1 s2 b2 (K + 3) (fill M s b).1 ∧ ((fill M s b).2 = 0 → nget (fill M s b).1.now s = some j ∧ ∀ t, t ≠ tmp → t ≠ s → t ≠ ByteArray.empty → nget (fill M s b).1.now t = nget M.now t) := by
 have hnowA : (M.append tmp b).1.now = M.now := by
  obtain ⟨_, e1, e2, e3, e4⟩ := M.step_same
  unfold Med.append
  split; · rfl
  split; · rfl
  split; · rfl
  split; · exact e2
  exact e2
 obtain ⟨a1, a2, a3, a4⟩ := h.append c hl hj b
 unfold Hin.fill
 split
 ·rename_i g1
  have hA := a4 g1
  rw [hnew] at hA
  have hnowS : ((M.append tmp b).1.sync tmp).1.now = (M.append tmp b).1.now := by
   generalize (M.append tmp b).1 = M2
   obtain ⟨_, e1, e2, e3, e4⟩ := M2.step_same
   unfold Med.sync
   split; · rfl
   split; · rfl
   split; · exact e2
   exact e2
  obtain ⟨q1, q2, q3, q4⟩ := a1.sync c a2 a3
  split
  ·rename_i g2
   have hS := q4 g2
   rw [hA] at hS
   have hfile : ((M.append tmp b).1.sync tmp).1.file j = ⟨b, b, []⟩ := hS
   obtain ⟨r1, r2, r3⟩ := q1.rename c q2 q3 (s := s) (by
    rcases hs with ⟨rfl, rfl⟩ | ⟨rfl, rfl⟩
    ·exact .inl ⟨rfl, hfile⟩
    ·exact .inr ⟨rfl, hfile⟩)
   exact ⟨r1, fun e => ⟨r2 e, fun t x y z => by rw [r3 t x y z, hnowS, hnowA]⟩⟩
  ·rename_i g2
   exact ⟨q1.mono (by omega), fun e => absurd e g2⟩
 ·rename_i g1
  split
  ·split
   ·exact ⟨(a1.remove c).mono (by omega), fun e => by cases e⟩
   ·rename_i g2; exact ⟨(a1.remove c).mono (by omega), fun e => absurd e g2⟩
  ·exact ⟨a1.mono (by omega), fun e => absurd e g1⟩
theorem Sv.write (c : Cf T s1 s2) (h : Sv T s1 b1 s2 b2 K M) (hs : s = s1 ∧ b = b1 ∨ s = s2 ∧ b = b2) :
  Sv T s1 b1 s2 b2 (K + 5) (write M s b).1 ∧ ((write M s b).2 = 0 → (∃ j, nget (write M s b).1.now s = some j) ∧ ∀ t, t ≠ tmp → t ≠ s → t ≠ ByteArray.empty → nget (write M s b).1.now t = nget M.now t) := by
 have hnowR : ∀ t, t ≠ tmp → t ≠ ByteArray.empty → nget (Hin.remTmp M).1.now t = nget M.now t := fun t ht hte => by
  unfold Hin.remTmp
  split
  ·obtain ⟨_, e1, e2, e3, e4⟩ := M.step_same
   unfold Med.remove
   split; · rfl
   split; · rfl
   split; · rw [e2]
   show nget (Lnk.on ⟨tmp, ByteArray.empty, 0⟩ M.step.1.now) t = _
   rw [e2]
   exact Seg.on_ne (fun e => ht e.symm) (fun e => hte e.symm)
  ·rfl
 have r := h.remTmp c
 unfold Hin.write
 split
 ·rename_i g1
  obtain ⟨a1, a2⟩ := r.create c
  split
  ·rename_i g2
   obtain ⟨j, j1, j2, j3⟩ := a2 g2
   obtain ⟨f1, f2⟩ := a1.fill c j2 j1 j3 hs
   refine ⟨f1, fun e => ?_⟩
   obtain ⟨k1, k2⟩ := f2 e
   refine ⟨⟨j, k1⟩, fun t x y z => ?_⟩
   rw [k2 t x y z, ← hnowR t x z]
   have hg := Seg.create_good r.ok g2
   generalize (Hin.remTmp M).1 = M2 at *
   obtain ⟨_, e1, e2, e3, e4⟩ := M2.step_same
   unfold Med.create
   split; · rfl
   split; · rfl
   split; · rfl
   split; · rfl
   split; · rw [e2]
   show nget (Lnk.on ⟨ByteArray.empty, tmp, M2.files.length⟩ M2.step.1.now) t = _
   rw [e2]
   exact Seg.on_ne (fun e => z e.symm) (fun e => x e.symm)
  ·rename_i g2; exact ⟨a1.mono (by omega), fun e => absurd e g2⟩
 ·rename_i g1; exact ⟨r.mono (by omega), fun e => absurd e g1⟩
theorem sweep_none (p : ByteArray → Bool) : ∀ (l : List ByteArray) (M : Med), (∀ f ∈ l, p f = false) → sweep p l M = (M, 0)
 | [], M, h => rfl
 | f :: l, M, h => by
  unfold sweep
  rw [if_neg (by rw [h f (.head _)]; decide)]
  exact sweep_none p l M fun x hx => h x (.tail _ hx)
theorem Sv.sweep {n : Int} (h : Sv T s1 b1 s2 b2 K M) (hp : ∀ p ∈ M.now, other n p.1 = false) : sweep (other n) M.list M = (M, 0) :=
 sweep_none _ _ _ fun f hf => by
  unfold Med.list at hf
  split at hf
  ·cases hf
  ·obtain ⟨p, hp2, rfl⟩ := List.mem_map.1 hf; exact hp p hp2
theorem Sv.save {n : Int} (hs1 : s1 = name idx n) (hs2 : s2 = name use n) (c : Cf T s1 s2) (ho : ∀ s, ((∃ t ∈ T, s = t.1) ∨ s = tmp ∨ s = s1 ∨ s = s2) → other n s = false) (h : Sv T s1 b1 s2 b2 K M) :
  Sv T s1 b1 s2 b2 (K + 10) (save M n b1 b2).1 ∧ ((save M n b1 b2).2 = 0 → (∃ i, nget (save M n b1 b2).1.now s1 = some i) ∧ (∃ i, nget (save M n b1 b2).1.now s2 = some i) ∧ (save M n b1 b2).1.waits = []) := by
 obtain ⟨w1, w2⟩ := h.write c (.inl ⟨rfl, rfl⟩)
 unfold Hin.save
 rw [← hs1]
 split
 ·rename_i g1
  obtain ⟨⟨j1, k1⟩, _⟩ := w2 g1
  obtain ⟨v1, v2⟩ := w1.write c (.inr ⟨rfl, rfl⟩)
  unfold Hin.save1
  rw [← hs2]
  split
  ·rename_i g2
   obtain ⟨⟨j2, k2⟩, k3⟩ := v2 g2
   obtain ⟨d1, d2, d3⟩ := v1.syncDir
   have hsw := d1.sweep (n := n) fun p hp => ho p.1 (d1.now.only p hp)
   unfold Hin.save2
   split
   ·rename_i g3
    rw [hsw]
    refine ⟨d1.mono (by omega), fun _ => ⟨⟨j1, ?_⟩, ⟨j2, ?_⟩, d3 g3⟩⟩
    ·show nget _ s1 = _
     rw [d2, k3 s1 c.t1 c.ne c.e1]; exact k1
    ·show nget _ s2 = _
     rw [d2]; exact k2
   ·rename_i g3; exact ⟨d1.mono (by omega), fun e => absurd e g3⟩
  ·rename_i g2; exact ⟨v1.mono (by omega), fun e => absurd e g2⟩
 ·rename_i g1; exact ⟨w1.mono (by omega), fun e => absurd e g1⟩
end
end Go.Hin
namespace Go.Proofs.YtlinnpehkfbnkaaGreatDoor
open Go Go.Sl Go.Med Go.MapKept Go.RowKit
section
variable {w0 w : World} {F : List HProp} {m fb nb b r : Nat} {M : Med} {bs : List Nat} {wv v bv : Value} {s : ByteArray} {l : Names} {fs : List Fil} {K : Nat}
theorem rename_c (hM : M.Ok K) (hK : K ≤ 1099511627776) (h : Sat w0 w (MedRep m M :: F)) (s t : ByteArray) (ht : t.size ≤ 9223372036854775807) :
  Calls Tryz.prog 131 #[ptr m, .string s, .string t] w (Rtn fun v w' => v = errno (M.rename s t).2 ∧ Sat w0 w' (MedRep m (M.rename s t).1 :: F)) := by
 obtain ⟨bs, fb, nb, wv, hl, hR⟩ := MedRep.open h
 have hg := good_c t w ht
 cases ho : M.off
 ·cases hn : nget M.now s with
  | none =>
   have hf := find_none (s := s) hR ho hn
   have Hfin : Hid (M.rename s t = (M, 9)) := by show _ = _; simp [Med.rename, ho, hn]
   clear ho hn
   go_enter Tryz.func131, Tryz.ntmps131
   go_wp2_with (first | (go_at_call 136; refine hf.mono ?_; rintro e w1 ⟨v, rfl, rfl, rfl⟩))
   go_ret
   exact ⟨errno 9, rfl, by rw [Hfin.out], by rw [Hfin.out]; exact h⟩
  | some i =>
   have hf := find_some (s := s) hR ho hn
   cases hgs : good t
   ·rw [hgs] at hg
    have Hfin : Hid (M.rename s t = (M, 7)) := by show _ = _; simp [Med.rename, ho, hn, hgs]
    clear ho hn hgs
    go_enter Tryz.func131, Tryz.ntmps131
    go_wp2_with (first | (go_at_call 136; refine hf.mono ?_; rintro e w1 ⟨v, rfl, rfl, rfl⟩) | (go_at_call 169; refine hg.mono ?_; rintro e w1 ⟨v, rfl, rfl, rfl⟩))
    go_ret
    exact ⟨errno 7, rfl, by rw [Hfin.out], by rw [Hfin.out]; exact h⟩
   rw [hgs] at hg
   have hst := step_c hR hM.left
   cases hstep : M.step.2
   ·rw [hstep] at hst
    have Hfin : Hid (M.rename s t = (M.step.1, 12)) := by show _ = _; simp [Med.rename, ho, hn, hgs, hstep]
    clear ho hn hstep hgs
    go_enter Tryz.func131, Tryz.ntmps131
    go_wp2_with (first | (go_at_call 136; refine hf.mono ?_; rintro e w1 ⟨v, rfl, rfl, rfl⟩) | (go_at_call 169; refine hg.mono ?_; rintro e w1 ⟨v, rfl, rfl, rfl⟩) | (go_at_call 132; refine hst.mono ?_; rintro e w1 ⟨v, rfl, rfl, hS1⟩))
    go_ret
    refine ⟨errno 12, rfl, by rw [Hfin.out], ?_⟩
    rw [Hfin.out]
    exact MedRep.shut (bs := bs) (fb := fb) (nb := nb) (wv := wv) (by rw [M.step_same.2.2.2.1]; exact hl) (raw_step hS1)
   ·rw [hstep] at hst
    have Hfin : Hid (M.rename s t = (M.step.1.link ⟨s, t, i⟩, 0)) := by show _ = _; simp [Med.rename, ho, hn, hgs, hstep]
    have hne := good_ne hgs
    have hl' : bs.length = M.step.1.files.length := by rw [M.step_same.2.2.2.1]; exact hl
    have hlp : lnkPtr bs ⟨s, t, i⟩ = ptr (bs.getD i 0) := by unfold lnkPtr; rw [if_neg hne]
    have Hl' := Lib.hid hl'; have Hlp := Lib.hid hlp
    clear ho hn hstep hgs hne hl' hlp
    generalize hq : bs.getD i 0 = q at hf
    have Hq := Lib.hid hq; clear hq
    go_enter Tryz.func131, Tryz.ntmps131
    go_wp2_with (first | (go_at_call 136; refine hf.mono ?_; rintro e w1 ⟨v, rfl, rfl, rfl⟩) | (go_at_call 169; refine hg.mono ?_; rintro e w1 ⟨v, rfl, rfl, rfl⟩) | (go_at_call 132; fail))
    refine hst.mono ?_
    rintro e w1 ⟨v, rfl, rfl, hS1⟩
    have hlk := link_rep hM.step hK Hl'.out ⟨s, t, i⟩ (raw_step hS1)
    rw [Hlp.out, Hq.out] at hlk
    go_wp2_with (go_at_call 137; go_must (refine hlk.mono ?_); rintro e w2 ⟨v2, rfl, hS2⟩)
    go_ret
    refine ⟨errno 0, rfl, by rw [Hfin.out], ?_⟩
    rw [Hfin.out]
    exact hS2
 ·have hf := find_off (s := s) hR ho
  have Hfin : Hid (M.rename s t = (M, 12)) := by show _ = _; simp [Med.rename, ho]
  clear ho
  go_enter Tryz.func131, Tryz.ntmps131
  go_wp2_with (first | (go_at_call 136; refine hf.mono ?_; rintro e w1 ⟨v, rfl, rfl, rfl⟩))
  go_ret
  exact ⟨errno 12, rfl, by rw [Hfin.out], by rw [Hfin.out]; exact h⟩
end
section
variable {w0 w : World} {F : List HProp} {v bv : Value} {q m K : Nat} {M : Med}
theorem hthere_c (hM : M.Ok K) (s : ByteArray) (h : Sat w0 w (MedRep m M :: F)) : Calls Tryz.prog 76 #[ptr m, .string s] w (Rtn fun v w' => v = .bool (Hin.there M s) ∧ w = w') := by
 have hs := size_c hM h s
 have Hf := Lib.hid (show Hin.there M s = decide ((M.size s).2 = 0) from rfl)
 generalize M.size s = r at *
 obtain ⟨n, e⟩ := r
 dsimp only at hs
 have hb : (e == 0) = decide (e = 0) := by rw [Bool.eq_iff_iff, beq_iff_eq, decide_eq_true_eq]
 go_enter Tryz.func76, Tryz.ntmps76
 go_wp2_with fail
 refine hs.mono ?_
 rintro ee w1 ⟨v, rfl, rfl, rfl⟩
 clear hs
 go_wp2
 go_ret
 rw [Hf.out]
 exact ⟨_, rfl, by first | rfl | (rw [← hb]; rfl) | simp, rfl⟩
set_option maxRecDepth 20000 in
theorem hwrite_c (hM : M.Ok K) (hK : K + 4 ≤ 1099511627776) (s : ByteArray) (hs : s.size ≤ 9223372036854775807) (b : Bs) (hr : Ro w0 F (rdsl 1 bv (bys b))) (hbv : ∃ a n c, bv = .slice a n c) (h : Sat w0 w (MedRep m M :: F)) :
  Calls Tryz.prog 64 #[ptr m, .string s, bv] w (Rtn fun v w' => v = errno (Hin.write M s b).2 ∧ Sat w0 w' (MedRep m (Hin.write M s b).1 :: F)) := by
 obtain ⟨ba, bn, bc, rfl⟩ := hbv
 have Hr := Lib.hid hr; have Hs := Lib.hid hs
 have hth := hthere_c hM Hin.tmp h
 clear hr hs
 cases ht : Hin.there M Hin.tmp with
 | false =>
  have HX := Lib.hid (show Hin.write M s b = (if (M.create Hin.tmp).2 = 0 then Hin.fill (M.create Hin.tmp).1 s b else M.create Hin.tmp) by unfold Hin.write Hin.remTmp; rw [ht]; rfl)
  rw [ht] at hth
  clear ht
  go_enter Tryz.func64, Tryz.ntmps64
  go_wp2_with fail
  refine hth.mono ?_
  rintro ee w1 ⟨v, rfl, rfl, rfl⟩
  clear hth
  have hcr := create_c hM (by omega) h Hin.tmp dCz
  have ok1 := hM.create Hin.tmp
  generalize M.create Hin.tmp = r1 at *
  obtain ⟨M1, e1⟩ := r1
  dsimp only at hcr ok1
  clear h
  go_wp2_with fail
  refine hcr.mono ?_
  rintro ee w3 ⟨v, rfl, rfl, h3⟩
  clear hcr
  by_cases c1 : e1 = 0
  rotate_left
  ·have hb1 : (e1 != 0) = true := bne_iff_ne.2 c1
   have HF := Lib.hid (show Hin.write M s b = (M1, e1) from HX.out.trans (if_neg c1))
   clear c1
   go_wp2
   go_ret
   rw [HF.out]
   exact ⟨_, rfl, rfl, h3⟩
  subst c1
  have HY := Lib.hid (show Hin.write M s b = Hin.fill M1 s b from HX.out.trans (if_pos rfl))
  clear HX
  have hap := append_c ok1 (by omega) h3 Hin.tmp b Hr.out
  have ok2 := ok1.append Hin.tmp b
  have HE := Lib.hid (show Hin.fill M1 s b = (if (M1.append Hin.tmp b).2 = 0 then
    (if ((M1.append Hin.tmp b).1.sync Hin.tmp).2 = 0 then ((M1.append Hin.tmp b).1.sync Hin.tmp).1.rename Hin.tmp s else (M1.append Hin.tmp b).1.sync Hin.tmp)
   else if (M1.append Hin.tmp b).2 = 11 then
    (if ((M1.append Hin.tmp b).1.remove Hin.tmp).2 = 0 then (((M1.append Hin.tmp b).1.remove Hin.tmp).1, 11) else (M1.append Hin.tmp b).1.remove Hin.tmp)
   else M1.append Hin.tmp b) from rfl)
  generalize M1.append Hin.tmp b = r2 at *
  obtain ⟨M2, e2⟩ := r2
  dsimp only at hap ok2
  clear h3
  go_wp2_with fail
  refine hap.mono ?_
  rintro ee w4 ⟨v, rfl, rfl, h4⟩
  clear hap
  by_cases c2 : e2 = 0
  rotate_left
  ·have hb2 : (e2 != 0) = true := bne_iff_ne.2 c2
   by_cases c3 : e2 = 11
   ·subst c3
    have hrm := remove_c ok2 (by omega) h4 Hin.tmp
    have HG := Lib.hid (show Hin.write M s b = (if (M2.remove Hin.tmp).2 = 0 then ((M2.remove Hin.tmp).1, 11) else M2.remove Hin.tmp) from HY.out.trans (HE.out.trans ((if_neg c2).trans (if_pos rfl))))
    generalize M2.remove Hin.tmp = r3 at *
    obtain ⟨M3, e3⟩ := r3
    dsimp only at hrm
    clear h4 c2 HY HE
    go_wp2_with fail
    refine hrm.mono ?_
    rintro ee w5 ⟨v, rfl, rfl, h5⟩
    clear hrm
    by_cases c4 : e3 = 0
    ·have hb3 : (e3 != 0) = false := by rw [c4]; rfl
     have HF := Lib.hid (HG.out.trans (if_pos c4))
     clear c4
     go_wp2
     go_ret
     rw [HF.out]
     exact ⟨_, rfl, rfl, h5⟩
    ·have hb3 : (e3 != 0) = true := bne_iff_ne.2 c4
     have HF := Lib.hid (HG.out.trans (if_neg c4))
     clear c4
     go_wp2
     go_ret
     rw [HF.out]
     exact ⟨_, rfl, rfl, h5⟩
   ·have hb3 : (e2 == 11) = false := beq_eq_false_iff_ne.2 c3
    have HF := Lib.hid (show Hin.write M s b = (M2, e2) from HY.out.trans (HE.out.trans ((if_neg c2).trans (if_neg c3))))
    clear c2 c3
    go_wp2
    go_ret
    rw [HF.out]
    exact ⟨_, rfl, rfl, h4⟩
  subst c2
  have hsy := sync_c ok2 h4 Hin.tmp
  have ok3 := ok2.sync Hin.tmp
  have HG := Lib.hid (show Hin.write M s b = (if (M2.sync Hin.tmp).2 = 0 then (M2.sync Hin.tmp).1.rename Hin.tmp s else M2.sync Hin.tmp) from HY.out.trans (HE.out.trans (if_pos rfl)))
  generalize M2.sync Hin.tmp = r3 at *
  obtain ⟨M3, e3⟩ := r3
  dsimp only at hsy ok3
  clear h4 HY HE
  go_wp2_with fail
  refine hsy.mono ?_
  rintro ee w5 ⟨v, rfl, rfl, h5⟩
  clear hsy
  by_cases c4 : e3 = 0
  rotate_left
  ·have hb3 : (e3 != 0) = true := bne_iff_ne.2 c4
   have HF := Lib.hid (show Hin.write M s b = (M3, e3) from HG.out.trans (if_neg c4))
   clear c4
   go_wp2
   go_ret
   rw [HF.out]
   exact ⟨_, rfl, rfl, h5⟩
  subst c4
  have hre := rename_c ok3 (by omega) h5 Hin.tmp s Hs.out
  have HF := Lib.hid (show Hin.write M s b = M3.rename Hin.tmp s from HG.out.trans (if_pos rfl))
  generalize M3.rename Hin.tmp s = r4 at *
  obtain ⟨M4, e4⟩ := r4
  dsimp only at hre
  clear h5
  go_wp2_with fail
  refine hre.mono ?_
  rintro ee w6 ⟨v, rfl, rfl, h6⟩
  clear hre
  go_wp2
  go_ret
  rw [HF.out]
  exact ⟨_, rfl, rfl, h6⟩
 | true =>
  rw [ht] at hth
  have hrm := remove_c hM (by omega) h Hin.tmp
  have okR := hM.remove Hin.tmp
  have HR := Lib.hid (show Hin.write M s b = (if (M.remove Hin.tmp).2 = 0 then (if ((M.remove Hin.tmp).1.create Hin.tmp).2 = 0 then Hin.fill ((M.remove Hin.tmp).1.create Hin.tmp).1 s b else (M.remove Hin.tmp).1.create Hin.tmp) else M.remove Hin.tmp) by unfold Hin.write Hin.remTmp; rw [ht]; rfl)
  generalize M.remove Hin.tmp = r0 at *
  obtain ⟨M0, e0⟩ := r0
  dsimp only at hrm okR
  clear ht
  go_enter Tryz.func64, Tryz.ntmps64
  go_wp2_with fail
  refine hth.mono ?_
  rintro ee w1 ⟨v, rfl, rfl, rfl⟩
  clear hth
  go_wp2_with fail
  refine hrm.mono ?_
  rintro ee w2 ⟨v, rfl, rfl, h2⟩
  clear hrm h
  by_cases c0 : e0 = 0
  rotate_left
  ·have hb0 : (e0 != 0) = true := bne_iff_ne.2 c0
   have HF := Lib.hid (show Hin.write M s b = (M0, e0) from HR.out.trans (if_neg c0))
   clear c0
   go_wp2
   go_ret
   rw [HF.out]
   exact ⟨_, rfl, rfl, h2⟩
  subst c0
  have HX := Lib.hid (show Hin.write M s b = (if (M0.create Hin.tmp).2 = 0 then Hin.fill (M0.create Hin.tmp).1 s b else M0.create Hin.tmp) from HR.out.trans (if_pos rfl))
  clear HR
  have hcr := create_c okR (by omega) h2 Hin.tmp dCz
  have ok1 := okR.create Hin.tmp
  generalize M0.create Hin.tmp = r1 at *
  obtain ⟨M1, e1⟩ := r1
  dsimp only at hcr ok1
  clear h2
  go_wp2_with fail
  refine hcr.mono ?_
  rintro ee w3 ⟨v, rfl, rfl, h3⟩
  clear hcr
  by_cases c1 : e1 = 0
  rotate_left
  ·have hb1 : (e1 != 0) = true := bne_iff_ne.2 c1
   have HF := Lib.hid (show Hin.write M s b = (M1, e1) from HX.out.trans (if_neg c1))
   clear c1
   go_wp2
   go_ret
   rw [HF.out]
   exact ⟨_, rfl, rfl, h3⟩
  subst c1
  have HY := Lib.hid (show Hin.write M s b = Hin.fill M1 s b from HX.out.trans (if_pos rfl))
  clear HX
  have hap := append_c ok1 (by omega) h3 Hin.tmp b Hr.out
  have ok2 := ok1.append Hin.tmp b
  have HE := Lib.hid (show Hin.fill M1 s b = (if (M1.append Hin.tmp b).2 = 0 then
    (if ((M1.append Hin.tmp b).1.sync Hin.tmp).2 = 0 then ((M1.append Hin.tmp b).1.sync Hin.tmp).1.rename Hin.tmp s else (M1.append Hin.tmp b).1.sync Hin.tmp)
   else if (M1.append Hin.tmp b).2 = 11 then
    (if ((M1.append Hin.tmp b).1.remove Hin.tmp).2 = 0 then (((M1.append Hin.tmp b).1.remove Hin.tmp).1, 11) else (M1.append Hin.tmp b).1.remove Hin.tmp)
   else M1.append Hin.tmp b) from rfl)
  generalize M1.append Hin.tmp b = r2 at *
  obtain ⟨M2, e2⟩ := r2
  dsimp only at hap ok2
  clear h3
  go_wp2_with fail
  refine hap.mono ?_
  rintro ee w4 ⟨v, rfl, rfl, h4⟩
  clear hap
  by_cases c2 : e2 = 0
  rotate_left
  ·have hb2 : (e2 != 0) = true := bne_iff_ne.2 c2
   by_cases c3 : e2 = 11
   ·subst c3
    have hrm := remove_c ok2 (by omega) h4 Hin.tmp
    have HG := Lib.hid (show Hin.write M s b = (if (M2.remove Hin.tmp).2 = 0 then ((M2.remove Hin.tmp).1, 11) else M2.remove Hin.tmp) from HY.out.trans (HE.out.trans ((if_neg c2).trans (if_pos rfl))))
    generalize M2.remove Hin.tmp = r3 at *
    obtain ⟨M3, e3⟩ := r3
    dsimp only at hrm
    clear h4 c2 HY HE
    go_wp2_with fail
    refine hrm.mono ?_
    rintro ee w5 ⟨v, rfl, rfl, h5⟩
    clear hrm
    by_cases c4 : e3 = 0
    ·have hb3 : (e3 != 0) = false := by rw [c4]; rfl
     have HF := Lib.hid (HG.out.trans (if_pos c4))
     clear c4
     go_wp2
     go_ret
     rw [HF.out]
     exact ⟨_, rfl, rfl, h5⟩
    ·have hb3 : (e3 != 0) = true := bne_iff_ne.2 c4
     have HF := Lib.hid (HG.out.trans (if_neg c4))
     clear c4
     go_wp2
     go_ret
     rw [HF.out]
     exact ⟨_, rfl, rfl, h5⟩
   ·have hb3 : (e2 == 11) = false := beq_eq_false_iff_ne.2 c3
    have HF := Lib.hid (show Hin.write M s b = (M2, e2) from HY.out.trans (HE.out.trans ((if_neg c2).trans (if_neg c3))))
    clear c2 c3
    go_wp2
    go_ret
    rw [HF.out]
    exact ⟨_, rfl, rfl, h4⟩
  subst c2
  have hsy := sync_c ok2 h4 Hin.tmp
  have ok3 := ok2.sync Hin.tmp
  have HG := Lib.hid (show Hin.write M s b = (if (M2.sync Hin.tmp).2 = 0 then (M2.sync Hin.tmp).1.rename Hin.tmp s else M2.sync Hin.tmp) from HY.out.trans (HE.out.trans (if_pos rfl)))
  generalize M2.sync Hin.tmp = r3 at *
  obtain ⟨M3, e3⟩ := r3
  dsimp only at hsy ok3
  clear h4 HY HE
  go_wp2_with fail
  refine hsy.mono ?_
  rintro ee w5 ⟨v, rfl, rfl, h5⟩
  clear hsy
  by_cases c4 : e3 = 0
  rotate_left
  ·have hb3 : (e3 != 0) = true := bne_iff_ne.2 c4
   have HF := Lib.hid (show Hin.write M s b = (M3, e3) from HG.out.trans (if_neg c4))
   clear c4
   go_wp2
   go_ret
   rw [HF.out]
   exact ⟨_, rfl, rfl, h5⟩
  subst c4
  have hre := rename_c ok3 (by omega) h5 Hin.tmp s Hs.out
  have HF := Lib.hid (show Hin.write M s b = M3.rename Hin.tmp s from HG.out.trans (if_pos rfl))
  generalize M3.rename Hin.tmp s = r4 at *
  obtain ⟨M4, e4⟩ := r4
  dsimp only at hre
  clear h5
  go_wp2_with fail
  refine hre.mono ?_
  rintro ee w6 ⟨v, rfl, rfl, h6⟩
  clear hre
  go_wp2
  go_ret
  rw [HF.out]
  exact ⟨_, rfl, rfl, h6⟩
end
end Go.Proofs.YtlinnpehkfbnkaaGreatDoor
namespace Go.Hin
open Go.Med
section
variable {s : ByteArray} {b b1 b2 : Bs} {K r : Nat} {M : Med}
theorem _root_.Go.Seg.Calm.rename (h : Seg.Calm K r M) (s t : ByteArray) : Seg.Calm (K + 1) r (M.rename s t).1 := by
 have f := (Fits.does h.ok h.dst h.used ⟨3, s, t, 0, 0, [], []⟩ (show (3 : Int) ≠ 8 by decide) (show (3 : Int) ≠ 9 by decide)).1
 exact ⟨h.ok.rename s t, h.quiet.rename s t, f.dst, f.used, f.room.trans h.room⟩
theorem good_tmp : good tmp = true := by decide +kernel
theorem size_none (q : Quiet M) (h : nget M.now s = none) : M.size s = (0, 9) := by unfold Med.size; rw [q.off, h]; rfl
theorem size_some (q : Quiet M) {i : Nat} (h : nget M.now s = some i) : M.size s = ((((M.file i).now.length : Nat) : Int), 0) := by unfold Med.size; rw [q.off, h]; rfl
theorem there_none (q : Quiet M) (h : nget M.now s = none) : there M s = false := by unfold there; rw [size_none q h]; rfl
theorem there_some (q : Quiet M) {i : Nat} (h : nget M.now s = some i) : there M s = true := by unfold there; rw [size_some q h]; rfl
theorem nput_le (l : Names) (s : ByteArray) (i : Nat) : (nput l s i).length ≤ l.length + 1 := by rw [nput_len]; have := ndel_len l s; omega
theorem write_zero (h : Seg.Calm K r M) (ht : nget M.now tmp = none) (hl : M.now.length < 500) (hr : M.used + b.length ≤ r) (hg : good s = true) (hst : s ≠ tmp) :
  (write M s b).2 = 0 ∧ Seg.Calm (K + 5) r (write M s b).1 ∧ nget (write M s b).1.now tmp = none ∧ (write M s b).1.now.length ≤ M.now.length + 1 ∧ (write M s b).1.used ≤ M.used + b.length ∧
   (∀ p ∈ (write M s b).1.now, p ∈ M.now ∨ p.1 = s) := by
 have e0 : remTmp M = (M, 0) := by unfold remTmp; rw [there_none h.quiet ht]; rfl
 obtain ⟨c1, c2, c3, c4, c5⟩ := Seg.create_full h good_tmp ht hl
 have hc := h.create tmp
 have hi : nget (M.create tmp).1.now tmp = some M.files.length := by rw [c2]; exact Seg.nget_put_self h.ok.nowOk.srt _ _
 have hroom : (M.create tmp).1.room = r := hc.room
 obtain ⟨a1, a2, a3, _, _⟩ := Seg.append_full hc hi b (by rw [c3, hroom]; exact hr)
 have ha := hc.append tmp b
 have hi2 : nget ((M.create tmp).1.append tmp b).1.now tmp = some M.files.length := by rw [a2]; exact hi
 have es := ha.quiet.sync_eq hi2
 have hsy := ha.sync tmp
 have hs0 : (((M.create tmp).1.append tmp b).1.sync tmp).2 = 0 := by rw [es]
 have hal := Seg.sync_alike ha.ok ha.quiet tmp
 have hi3 : nget (((M.create tmp).1.append tmp b).1.sync tmp).1.now tmp = some M.files.length := by rw [hal.now]; exact hi2
 have hre := Seg.Calm.rename hsy tmp s
 have er : (((M.create tmp).1.append tmp b).1.sync tmp).1.rename tmp s = ((((M.create tmp).1.append tmp b).1.sync tmp).1.link ⟨tmp, s, M.files.length⟩, 0) := by
  unfold Med.rename
  rw [hsy.quiet.off, hsy.quiet.step, hi3, hg]
  simp
 have hw : write M s b = (((M.create tmp).1.append tmp b).1.sync tmp).1.rename tmp s := by
  unfold write
  rw [e0, if_pos rfl]
  show (if (M.create tmp).2 = 0 then _ else _) = _
  rw [if_pos c1]
  unfold fill
  rw [if_pos a1, if_pos hs0]
 have hse : s ≠ ByteArray.empty := good_ne hg
 have hnow : (write M s b).1.now = nput (ndel (nput M.now tmp M.files.length) tmp) s M.files.length := by
  rw [hw, er]
  show Lnk.on _ _ = _
  rw [hal.now, a2, c2]
  unfold Lnk.on
  simp only [if_neg tmp_ne, if_neg hse]
 rw [Seg.ndel_put ht] at hnow
 refine ⟨by rw [hw, er], by rw [hw]; exact hre.mono (by omega), ?_, ?_, ?_, ?_⟩
 ·rw [hnow, Seg.nget_put_ne (Ne.symm hst)]; exact ht
 ·rw [hnow]; exact nput_le _ _ _
 ·have hu : (((M.create tmp).1.append tmp b).1.sync tmp).1.used = M.used + b.length := by rw [hal.used, a3, c3]
  rw [← hu, hw, er]
  generalize (((M.create tmp).1.append tmp b).1.sync tmp).1 = M2 at *
  show ((Lnk.on _ M2.now).map fun p => (M2.file p.2).now.length).sum ≤ (M2.now.map fun p => (M2.file p.2).now.length).sum
  unfold Lnk.on
  simp only [if_neg tmp_ne, if_neg hse]
  rw [sum_put _ _ _ (fun j => (M2.file j).now.length)]
  have h1 := (used_split hsy.ok.nowOk.srt hsy.dst hi3).2 (fun j => (M2.file j).now.length)
  have h2 := sum_del_le (ndel M2.now tmp) s (fun j => (M2.file j).now.length)
  rw [h1]; omega
 ·intro p hp
  rw [hnow] at hp
  rcases List.mem_cons.1 ((nput_perm _ _ _).mem_iff.1 hp) with rfl | hp
  ·exact .inr rfl
  ·exact .inl (List.mem_filter.1 hp).1
theorem save_zero {n : Int} (h : Seg.Calm K r M) (ht : nget M.now tmp = none) (hl : M.now.length ≤ 490) (hr : M.used + b1.length + b2.length ≤ r) (hg1 : good (name idx n) = true) (hg2 : good (name use n) = true)
  (n1 : name idx n ≠ tmp) (n2 : name use n ≠ tmp) (ho : ∀ p ∈ M.now, other n p.1 = false) (o1 : other n (name idx n) = false) (o2 : other n (name use n) = false) : (save M n b1 b2).2 = 0 ∧ Seg.Calm (K + 10) r (save M n b1 b2).1 ∧ (save M n b1 b2).1.used ≤ M.used + b1.length + b2.length ∧ (save M n b1 b2).1.now.length ≤ M.now.length + 2 ∧
   (∀ p ∈ (save M n b1 b2).1.now, p ∈ M.now ∨ p.1 = name idx n ∨ p.1 = name use n) := by
 obtain ⟨a1, a2, a3, a4, a5, a6⟩ := write_zero (b := b1) h ht (by omega) (by omega) hg1 n1
 obtain ⟨c1, c2, c3, c4, c5, c6⟩ := write_zero (b := b2) a2 a3 (by omega) (by omega) hg2 n2
 have hd := c2.quiet.syncDir_eq
 have hds := c2.syncDir
 have hno : (write (write M (name idx n) b1).1 (name use n) b2).1.syncDir.1.now = (write (write M (name idx n) b1).1 (name use n) b2).1.now := by rw [hd]
 have hsw : sweep (other n) (write (write M (name idx n) b1).1 (name use n) b2).1.syncDir.1.list (write (write M (name idx n) b1).1 (name use n) b2).1.syncDir.1 = ((write (write M (name idx n) b1).1 (name use n) b2).1.syncDir.1, 0) := sweep_none _ _ _ fun f hf => by
  rw [hds.quiet.list, hno] at hf
  obtain ⟨p, hp, rfl⟩ := List.mem_map.1 hf
  rcases c6 p hp with h1 | h1
  ·rcases a6 p h1 with h2 | h2
   ·exact ho p h2
   ·rw [h2]; exact o1
  ·rw [h1]; exact o2
 unfold save
 rw [if_pos a1]
 unfold save1
 rw [if_pos c1]
 unfold save2
 rw [if_pos (by rw [hd]), hsw]
 have hu : (write (write M (name idx n) b1).1 (name use n) b2).1.syncDir.1.used = (write (write M (name idx n) b1).1 (name use n) b2).1.used := by rw [hd]; rfl
 refine ⟨rfl, hds.mono (by omega), ?_, ?_, fun p hp => ?_⟩
 ·show (write (write M (name idx n) b1).1 (name use n) b2).1.syncDir.1.used ≤ _
  rw [hu]; omega
 ·show (write (write M (name idx n) b1).1 (name use n) b2).1.syncDir.1.now.length ≤ _
  rw [hno]; omega
 ·have hp' : p ∈ (write (write M (name idx n) b1).1 (name use n) b2).1.now := by rw [← hno]; exact hp
  rcases c6 p hp' with h1 | h1
  ·rcases a6 p h1 with h2 | h2
   ·exact .inl h2
   ·exact .inr (.inl h2)
  ·exact .inr (.inr h1)
theorem name_eq (ld : ByteArray) (n : Int) (h1 : 0 ≤ n) (h2 : n < 1048576) : (name ld n).data.toList = ld.data.toList ++ Seg.digs n.toNat 8 := by
 have hs := Seg.good_name n h1 h2
 have hne := good_ne hs
 unfold name
 rw [if_neg hne]
 have e : Seg.name n = ⟨(Seg.lead ++ Seg.digs n.toNat 8).toArray⟩ := by unfold Seg.name; rw [if_neg (by omega)]
 rw [e]
 rw [ByteArray.data_append, Array.toList_append, ByteArray.data_extract, Array.toList_extract]
 show _ ++ (List.extract (Seg.lead ++ Seg.digs n.toNat 8) 4 12) = _
 congr 1
theorem digs_goodC (n k : Nat) : (Seg.digs n k).all goodC = true := by
 rw [List.all_eq_true]
 intro c hc
 have := (List.all_eq_true.1 (Seg.digs_dig k n)) c hc
 unfold Seg.isDig at this
 rw [Bool.and_eq_true, decide_eq_true_eq, decide_eq_true_eq] at this
 unfold goodC
 have e1 : (48 : UInt8) ≤ c := UInt8.le_iff_toNat_le.2 this.1
 have e2 : c ≤ 57 := UInt8.le_iff_toNat_le.2 this.2
 simp [e1, e2]
theorem name_good {ld : ByteArray} (hl : ld.data.toList.length = 4) (hg : ld.data.toList.all goodC = true) (n : Int) (h1 : 0 ≤ n) (h2 : n < 1048576) : good (name ld n) = true := by
 have e := name_eq ld n h1 h2
 have hs : (name ld n).size = 12 := by
  show (name ld n).data.size = 12
  rw [← Array.length_toList, e, List.length_append, hl, Seg.digs_len]
 unfold good
 rw [hs, e, List.all_append, hg, digs_goodC]
 rfl
theorem number_of {ld : ByteArray} (hl : ld.data.toList = [105, 100, 120, 46] ∨ ld.data.toList = [117, 115, 101, 46]) (n : Int) (h1 : 0 ≤ n) (h2 : n < 1048576) : number (name ld n) = (n, true) := by
 have e := name_eq ld n h1 h2
 have hs := Seg.number_name n h1 h2
 have e2 : Seg.name n = ⟨(Seg.lead ++ Seg.digs n.toNat 8).toArray⟩ := by unfold Seg.name; rw [if_neg (by omega)]
 rw [e2] at hs
 unfold number
 rw [e]
 rcases hl with hl | hl
 ·rw [hl, if_pos (.inl rfl)]; exact hs
 ·rw [hl, if_pos (.inr rfl)]; exact hs
theorem number_seg (n : Int) : number (Seg.name n) = (0, false) := by
 unfold number
 rcases seg_name n with h | ⟨_, h⟩
 ·rw [h, if_neg dCz]
 ·rw [h, if_neg dCz]
theorem number_tmp : number tmp = (0, false) := by
 unfold number
 rw [if_neg dCz]
theorem other_no {n : Int} {s : ByteArray} (h : (number s).2 = false) : other n s = false := by unfold other; rw [h]; rfl
theorem other_self {n : Int} {s : ByteArray} (h : number s = (n, true)) : other n s = false := by unfold other; rw [h]; simp
theorem idx_l : idx.data.toList = [105, 100, 120, 46] := rfl
theorem use_l : use.data.toList = [117, 115, 101, 46] := rfl
theorem name_ne (n : Int) (h1 : 0 ≤ n) (h2 : n < 1048576) : name idx n ≠ name use n := fun e => by
 have a := name_eq idx n h1 h2
 rw [e, name_eq use n h1 h2, idx_l, use_l] at a
 simp at a
theorem seg_ne_idx (m n : Int) (h1 : 0 ≤ n) (h2 : n < 1048576) : Seg.name m ≠ name idx n := fun e => by
 have a := number_of (.inl idx_l) n h1 h2
 rw [← e, number_seg] at a
 simp at a
theorem seg_ne_use (m n : Int) (h1 : 0 ≤ n) (h2 : n < 1048576) : Seg.name m ≠ name use n := fun e => by
 have a := number_of (.inr use_l) n h1 h2
 rw [← e, number_seg] at a
 simp at a
theorem idx_ne_tmp (n : Int) (h1 : 0 ≤ n) (h2 : n < 1048576) : name idx n ≠ tmp := fun e => by
 have a := number_of (.inl idx_l) n h1 h2
 rw [e, number_tmp] at a
 simp at a
theorem use_ne_tmp (n : Int) (h1 : 0 ≤ n) (h2 : n < 1048576) : name use n ≠ tmp := fun e => by
 have a := number_of (.inr use_l) n h1 h2
 rw [e, number_tmp] at a
 simp at a
end
end Go.Hin
namespace Go.Proofs.YtlinnpehkfbnkaaGreatDoor
open Go Go.Sl Go.Med Go.MapKept Go.RowKit
abbrev capPt (b ps : Nat) : HProp := pt b (.cells #[ptr ps] 35 (0,0))
section
variable {w0 w : World} {F : List HProp} {m K b3 ps pi B : Nat} {M : Med} {n : Int} {uv tv : Value} {mp : Frm.Bs → Option Seg.Plc}
theorem hsave1_c (f : ByteArray) (hf : f.size ≤ 4000000000) (h : Sat w0 w (capPt b3 ps :: stPt ps n pi uv tv :: F)) :
  Calls Tryz.prog 68 #[.string f, ptr b3] w (Rtn fun v w' => v = .bool (Hin.other n f) ∧ Sat w0 w' (capPt b3 ps :: stPt ps n pi uv tv :: F)) := by
 have Ho := Lib.hid (show Hin.other n f = ((Hin.number f).2 && (Hin.number f).1 != n) from rfl)
 have hn := hnumber_c f hf h
 generalize Hin.number f = q at *
 obtain ⟨x, t⟩ := q
 dsimp only at hn
 clear h
 go_enter Tryz.func68, Tryz.ntmps68
 go_wp2_with fail
 refine hn.mono ?_
 rintro ee w1 ⟨v, rfl, rfl, h1⟩
 clear hn
 cases t with
 | false =>
  go_wp2_with fail
  go_ret
  exact ⟨_, rfl, by rw [Ho.out]; rfl, h1⟩
 | true =>
  have e1 : w1.cell? ⟨b3, 0, none⟩ = some (.pointer (some ⟨ps, 0, none⟩)) := h1.cellP pick0 0 rfl
  have e2 : w1.cell? ⟨ps, 0, none⟩ = some (.int .i64 n) := h1.cellP pick1 0 rfl
  go_wp2_with fail
  go_ret
  exact ⟨_, rfl, by rw [Ho.out]; rfl, h1⟩
set_option maxRecDepth 20000 in
theorem sweepS_c (hM : M.Ok K) (hno : ∀ f ∈ M.list, Hin.other n f = false ∧ f.size ≤ 4000000000) (h : Sat w0 w (MedRep m M :: capPt b3 ps :: stPt ps n pi uv tv :: F)) :
  Calls Tryz.prog 67 #[ptr m, .func (.func 68) #[] #[ptr b3]] w (Rtn fun v w' => v = errno 0 ∧ Sat w0 w' (MedRep m M :: capPt b3 ps :: stPt ps n pi uv tv :: F)) := by
 have hls := list_c hM h
 have Hlen := Lib.hid (list_len hM)
 have Hn := Lib.hid hno
 clear hno hM
 generalize M.list = l at *
 go_enter Tryz.func67, Tryz.ntmps67
 go_wp2_with fail
 refine hls.mono ?_
 rintro e w1 ⟨v, rfl, hS, _⟩
 clear hls h
 obtain ⟨a, c, rfl⟩ := nm_sl (Sat.rd hS)
 go_wp2_with fail
 go_loopg [11] l.length (fun g iq wr => ∃ i : Nat, g = l.length - i ∧ i ≤ l.length ∧ iq = .int .i64 i ∧ Sat w0 wr (osl 9 1 (.slice a l.length c) (strs l) :: MedRep m M :: capPt b3 ps :: stPt ps n pi uv tv :: F))
 case atStart => exact ⟨0, rfl, Nat.zero_le _, rfl, hS⟩
 case round =>
  obtain ⟨i, rfl, hi, rfl, hS2⟩ := hrel
  clear hS
  by_cases hlt : i < l.length
  ·have c1 : (i : Int) < (l.length : Int) := by omega
   have hwi : IntKind.i64.wrap ((i : Int) + 1) = (i : Int) + 1 := IntWalk.i64_in _ (by have := Hlen.out; omega)
   obtain ⟨s, hs⟩ : ∃ s, l[i]? = some s := ⟨_, List.getElem?_eq_getElem hlt⟩
   obtain ⟨bk, off, rfl, hc⟩ := nm_cell (Sat.rd hS2) hs
   obtain ⟨hso, hsz⟩ := Hn.out s (List.mem_of_getElem? hs)
   have Hlt := Lib.hid hlt
   have hcl := hsave1_c s hsz (hS2.sb : Sat w0 wr (capPt b3 ps :: stPt ps n pi uv tv :: osl 9 1 (.slice (some ⟨bk, off, none⟩) l.length c) (strs l) :: MedRep m M :: F))
   rw [hso] at hcl
   clear hs hlt hi hso
   go_wp2_with fail
   refine hcl.mono ?_
   rintro e w2 ⟨v, rfl, rfl, hS3⟩
   clear hS2 hc hcl
   go_wp2_with fail
   go_roundg (l.length - (i + 1))
   case measure => have := Hlt.out; omega
   case rel => exact ⟨i + 1, rfl, Nat.succ_le_of_lt Hlt.out, by first | rfl | go_num, hS3.sb⟩
  ·have c1 : ¬ (i : Int) < (l.length : Int) := by omega
   clear hlt hi
   go_wp2_with fail
   go_ret
   exact ⟨_, rfl, rfl, hS2.drop⟩
theorem ok_fill (hM : M.Ok K) (s : ByteArray) (b : Frm.Bs) : (Hin.fill M s b).1.Ok (K + 3) := by
 unfold Hin.fill
 split
 ·split
  ·exact ((hM.append _ _).sync _).rename _ _
  ·exact ((hM.append _ _).sync _).mono (by omega)
 ·split
  ·split
   ·exact ((hM.append _ _).remove _).mono (by omega)
   ·exact ((hM.append _ _).remove _).mono (by omega)
  ·exact (hM.append _ _).mono (by omega)
theorem ok_write (hM : M.Ok K) (s : ByteArray) (b : Frm.Bs) : (Hin.write M s b).1.Ok (K + 5) := by
 have hr : (Hin.remTmp M).1.Ok (K + 1) := by
  unfold Hin.remTmp
  split
  ·exact hM.remove _
  ·exact hM.mono (by omega)
 unfold Hin.write
 split
 ·split
  ·exact ok_fill (hr.create _) _ _
  ·exact (hr.create _).mono (by omega)
 ·exact hr.mono (by omega)
theorem name_size {ld : ByteArray} (hl : ld.data.toList.length = 4) (hg : ld.data.toList.all goodC = true) (h1 : 0 ≤ n) (h2 : n < 1048576) : (Hin.name ld n).size ≤ 24 ∧ ((Hin.name ld n).toList == []) = false := by
 have h := Hin.name_good hl hg n h1 h2
 unfold good at h
 simp only [Bool.and_eq_true, decide_eq_true_eq] at h
 refine ⟨h.1.2, ?_⟩
 rw [beq_eq_false_iff_ne, ByteArray.toList_eq]
 intro e
 have := congrArg List.length e
 rw [Array.length_toList] at this
 have h3 : (Hin.name ld n).size = 0 := this
 omega
set_option maxRecDepth 20000 in
theorem hsave_c (hM : M.Ok K) (hK : K + 20 ≤ 1099511627776) (hn0 : 0 ≤ n) (hn1 : n < 1048576) (kv : List (Frm.Bs × Seg.Plc)) (hl : Tab.Lists mp kv) (hB : B ≤ 13000000) (hk : ∀ q ∈ kv, q.1.length = 32) (us : List Rep.Use) (hoi : Bok.Ok 3 true (kv.map Rep.idxRw)) (hou : Bok.Ok 3 false (us.map Rep.useRw))
  (bi bu : Frm.Bs) (hbi : bi = Bok.book Xx.sum Bok.mgIdx true (kv.map Rep.idxRw)) (hbu : bu = Bok.book Xx.sum Bok.mgUse false (us.map Rep.useRw))
  (hno : ∀ f ∈ (Hin.write (Hin.write M (Hin.name Hin.idx n) bi).1 (Hin.name Hin.use n) bu).1.syncDir.1.list, Hin.other n f = false ∧ f.size ≤ 4000000000)
  (h : Sat w0 w (stPt ps n pi uv tv :: TabML pi mp B :: osl 121 3 uv (us.flatMap uenc) :: MedRep m M :: F)) :
  Calls Tryz.prog 12 #[ptr m, ptr ps] w (Rtn fun v w' => v = errno (Hin.save M n bi bu).2 ∧ Sat w0 w' (stPt ps n pi uv tv :: TabML pi mp B :: osl 121 3 uv (us.flatMap uenc) :: MedRep m (Hin.save M n bi bu).1 :: F)) := by
 obtain ⟨z1, z2⟩ := name_size (ld := Hin.idx) rfl dCz hn0 hn1
 obtain ⟨z3, _⟩ := name_size (ld := Hin.use) rfl dCz hn0 hn1
 have hkl : kv.length ≤ 13000000 := by have := hoi.len; rw [List.length_map] at this; omega
 have HM := Lib.hid hM; have HK := Lib.hid hK; have Hl := Lib.hid hl; have HB := Lib.hid hB; have Hk := Lib.hid hk; have Hoi := Lib.hid hoi; have Hou := Lib.hid hou; have Hno := Lib.hid hno; have Hkl := Lib.hid hkl
 have Hbi := Lib.hid hbi; have Hbu := Lib.hid hbu; have Hz1 := Lib.hid z1; have Hz3 := Lib.hid z3
 have Hnm := Lib.hid (fun (w' : World) (R : List HProp) (hw : Sat w0 w' R) => iname_c n hw)
 have Hum := Lib.hid (fun (w' : World) (R : List HProp) (hw : Sat w0 w' R) => uname_c n hw)
 have HS := Lib.hid (show Hin.save M n bi bu = if (Hin.write M (Hin.name Hin.idx n) bi).2 = 0 then Hin.save1 (Hin.write M (Hin.name Hin.idx n) bi).1 n bu else Hin.write M (Hin.name Hin.idx n) bi from rfl)
 clear hM hK hl hB hk hoi hou hno hbi hbu hkl z1 z3
 generalize hni : Hin.name Hin.idx n = ni at *
 generalize hnu : Hin.name Hin.use n = nu at *
 have Hnu := Lib.hid hnu
 clear hni hnu
 go_enter Tryz.func12, Tryz.ntmps12
 go_wp2_with (with_reducible apply at_box)
 refine ⟨?_⟩
 refine wl_box h rFz rFz ?_
 intro b3 w3 h3
 replace h3 : Sat w0 w3 (capPt b3 ps :: stPt ps n pi uv tv :: TabML pi mp B :: osl 121 3 uv (us.flatMap uenc) :: MedRep m M :: F) := h3
 clear h
 have e1 : w3.cell? ⟨b3, 0, none⟩ = some (.pointer (some ⟨ps, 0, none⟩)) := h3.cellP pick0 0 rfl
 have e2 : w3.cell? ⟨ps, 1, none⟩ = some (.pointer (some ⟨pi, 0, none⟩)) := h3.cellP pick1 1 rfl
 have e3 : w3.cell? ⟨ps, 0, none⟩ = some (.int .i64 n) := h3.cellP pick1 0 rfl
 go_wp2_with fail
 refine (Hnm.out _ _ h3).mono ?_
 rintro ee w4 ⟨v, rfl, rfl, h4⟩
 clear h3 e1 e2 e3
 have e1 : w4.cell? ⟨b3, 0, none⟩ = some (.pointer (some ⟨ps, 0, none⟩)) := h4.cellP pick0 0 rfl
 have e2 : w4.cell? ⟨ps, 1, none⟩ = some (.pointer (some ⟨pi, 0, none⟩)) := h4.cellP pick1 1 rfl
 go_wp2_with fail
 refine (hrows_c Hl.out HB.out Hkl.out Hk.out (h4.sb : Sat w0 w4 (TabML pi mp B :: capPt b3 ps :: stPt ps n pi uv tv :: osl 121 3 uv (us.flatMap uenc) :: MedRep m M :: F))).mono ?_
 rintro ee w5 ⟨rv, rfl, h5⟩
 clear h4 e1 e2
 go_wp2_with fail
 refine (bindex_c kv Hk.out Hoi.out (fun w hw => Sat.rd hw) h5).mono ?_
 rintro ee w6 ⟨v, rfl, iv, rfl, h6⟩
 clear h5
 rw [← Hbi.out] at h6
 replace h6 : Sat w0 w6 (abl iv bi :: capPt b3 ps :: stPt ps n pi uv tv :: TabML pi mp B :: osl 121 3 uv (us.flatMap uenc) :: MedRep m M :: F) := h6.sb
 have e1 : w6.cell? ⟨b3, 0, none⟩ = some (.pointer (some ⟨ps, 0, none⟩)) := h6.cellP pick1 0 rfl
 have e2 : w6.cell? ⟨ps, 2, none⟩ = some uv := h6.cellP pick2 2 rfl
 go_wp2_with fail
 refine (buses_c us Hou.out (fun w hw => Sat.rd (hw.sb : Sat w0 w (osl 121 3 uv (us.flatMap uenc) :: abl iv bi :: capPt b3 ps :: stPt ps n pi uv tv :: TabML pi mp B :: MedRep m M :: F))) h6).mono ?_
 rintro ee w7 ⟨v, rfl, uw, rfl, h7⟩
 clear h6 e1 e2
 rw [← Hbu.out] at h7
 have e1 : w7.cell? ⟨b3, 0, none⟩ = some (.pointer (some ⟨ps, 0, none⟩)) := h7.cellP pick2 0 rfl
 have e3 : w7.cell? ⟨ps, 0, none⟩ = some (.int .i64 n) := h7.cellP pick3 0 rfl
 go_wp2_with fail
 refine (Hnm.out _ _ h7).mono ?_
 rintro ee w8 ⟨v, rfl, rfl, h8⟩
 clear h7 e1 e3
 replace h8 : Sat w0 w8 (MedRep m M :: abl uw bu :: abl iv bi :: capPt b3 ps :: stPt ps n pi uv tv :: TabML pi mp B :: osl 121 3 uv (us.flatMap uenc) :: F) := h8.sb
 have hri := (RS.of_abl (h8.sb : Sat w0 w8 (abl iv bi :: MedRep m M :: abl uw bu :: capPt b3 ps :: stPt ps n pi uv tv :: TabML pi mp B :: osl 121 3 uv (us.flatMap uenc) :: F)))
 obtain ⟨ia, il, ic, rfl, _, _⟩ := hri.cap
 have hw1 := hwrite_c HM.out (by have := HK.out; omega) ni (by have := Hz1.out; omega) bi (bv := .slice ia il ic) (fun w hw => asl_rd (hw.sb : Sat w0 w (abl (.slice ia il ic) bi :: abl uw bu :: capPt b3 ps :: stPt ps n pi uv tv :: TabML pi mp B :: osl 121 3 uv (us.flatMap uenc) :: F))) ⟨_, _, _, rfl⟩ h8
 have ok1 := ok_write HM.out ni bi
 clear hri
 generalize Hin.write M ni bi = r1 at *
 obtain ⟨M1, q1⟩ := r1
 dsimp only at hw1 ok1 HS Hno
 go_wp2_with fail
 refine hw1.mono ?_
 rintro ee w9 ⟨v, rfl, rfl, h9⟩
 clear hw1 h8
 by_cases c1 : q1 = 0
 rotate_left
 ·have hb1 : (q1 != 0) = true := bne_iff_ne.2 c1
  have HF := Lib.hid (show Hin.save M n bi bu = (M1, q1) from HS.out.trans (if_neg c1))
  clear c1
  go_wp2_with fail
  go_ret
  exact ⟨_, rfl, by rw [HF.out]; rfl, by rw [HF.out]; exact h9.sb⟩
 ·have HS1 := Lib.hid (show Hin.save M n bi bu = (if (Hin.write M1 (Hin.name Hin.use n) bu).2 = 0 then Hin.save2 (Hin.write M1 (Hin.name Hin.use n) bu).1 n else Hin.write M1 (Hin.name Hin.use n) bu) from HS.out.trans (if_pos c1))
  rw [Hnu.out] at HS1
  subst c1
  have e1 : w9.cell? ⟨b3, 0, none⟩ = some (.pointer (some ⟨ps, 0, none⟩)) := h9.cellP pick3 0 rfl
  have e3 : w9.cell? ⟨ps, 0, none⟩ = some (.int .i64 n) := h9.cellP (pick_there pick3) 0 rfl
  go_wp2_with fail
  refine (Hum.out _ _ h9).mono ?_
  rintro ee w10 ⟨v, rfl, rfl, h10⟩
  clear h9 e1 e3
  replace h10 : Sat w0 w10 (MedRep m M1 :: abl uw bu :: capPt b3 ps :: stPt ps n pi uv tv :: TabML pi mp B :: osl 121 3 uv (us.flatMap uenc) :: F) := h10.sb
  have hri := (RS.of_abl (h10.sb : Sat w0 w10 (abl uw bu :: MedRep m M1 :: capPt b3 ps :: stPt ps n pi uv tv :: TabML pi mp B :: osl 121 3 uv (us.flatMap uenc) :: F)))
  obtain ⟨ua, ul, uc, rfl, _, _⟩ := hri.cap
  have hw2 := hwrite_c ok1 (by have := HK.out; omega) nu (by have := Hz3.out; omega) bu (bv := .slice ua ul uc) (fun w hw => asl_rd (hw.sb : Sat w0 w (abl (.slice ua ul uc) bu :: capPt b3 ps :: stPt ps n pi uv tv :: TabML pi mp B :: osl 121 3 uv (us.flatMap uenc) :: F))) ⟨_, _, _, rfl⟩ h10
  have ok2 := ok_write ok1 nu bu
  clear hri HS
  generalize Hin.write M1 nu bu = r2 at *
  obtain ⟨M2, q2⟩ := r2
  dsimp only at hw2 ok2 HS1 Hno
  go_wp2_with fail
  refine hw2.mono ?_
  rintro ee w11 ⟨v, rfl, rfl, h11⟩
  clear hw2 h10
  by_cases c2 : q2 = 0
  rotate_left
  ·have hb1 : (q2 != 0) = true := bne_iff_ne.2 c2
   have HF := Lib.hid (show Hin.save M n bi bu = (M2, q2) from HS1.out.trans (if_neg c2))
   clear c2
   go_wp2_with fail
   go_ret
   exact ⟨_, rfl, by rw [HF.out]; rfl, by rw [HF.out]; exact h11.sb⟩
  ·have HS2 := Lib.hid (show Hin.save M n bi bu = (if M2.syncDir.2 = 0 then Hin.sweep (Hin.other n) M2.syncDir.1.list M2.syncDir.1 else M2.syncDir) from HS1.out.trans (if_pos c2))
   subst c2
   have hsd := syncDir_c ok2 h11
   have ok3 := ok2.syncDir
   clear HS1
   generalize M2.syncDir = r3 at *
   obtain ⟨M3, q3⟩ := r3
   dsimp only at hsd ok3 HS2 Hno
   go_wp2_with fail
   refine hsd.mono ?_
   rintro ee w12 ⟨v, rfl, rfl, h12⟩
   clear hsd h11
   by_cases c3 : q3 = 0
   rotate_left
   ·have hb1 : (q3 != 0) = true := bne_iff_ne.2 c3
    have HF := Lib.hid (show Hin.save M n bi bu = (M3, q3) from HS2.out.trans (if_neg c3))
    clear c3
    go_wp2_with fail
    go_ret
    exact ⟨_, rfl, by rw [HF.out]; rfl, by rw [HF.out]; exact h12.sb⟩
   ·have HF := Lib.hid (show Hin.save M n bi bu = (M3, 0) from HS2.out.trans ((if_pos c3).trans (Hin.sweep_none _ _ _ fun f hf => (Hno.out f hf).1)))
    subst c3
    have hsw := sweepS_c ok3 Hno.out (h12.sb : Sat w0 w12 (MedRep m M3 :: capPt b3 ps :: stPt ps n pi uv tv :: TabML pi mp B :: osl 121 3 uv (us.flatMap uenc) :: F))
    go_wp2_with fail
    refine hsw.mono ?_
    rintro ee w13 ⟨v, rfl, rfl, h13⟩
    go_wp2_with fail
    go_ret
    exact ⟨_, rfl, by rw [HF.out]; rfl, by rw [HF.out]; exact h13.sb⟩
end
end Go.Proofs.YtlinnpehkfbnkaaGreatDoor
namespace Go.Frm
theorem read_tag {b : Bs} (h : (read b).2.2 = 0) : (read b).1.tag = 0 ∨ (read b).1.tag = 1 ∨ (read b).1.tag = 2 := by
 unfold read at *
 dsimp only at *
 split at h
 ·simp at h
 rename_i h9
 rw [if_neg h9]
 split at h
 ·simp at h
 rename_i hf
 rw [if_neg hf]
 split at h
 ·simp at h
 rename_i hl
 rw [if_neg hl]
 split at h
 ·simp at h
 rename_i hc
 rw [if_neg hc]
 have ht : b.getD 8 0 = 0 ∨ b.getD 8 0 = 1 ∨ b.getD 8 0 = 2 := by
  unfold fits at hf
  split at hf
  ·exact .inl (by assumption)
  split at hf
  ·exact .inr (.inl (by assumption))
  split at hf
  ·exact .inr (.inr (by assumption))
  ·exact absurd rfl hf
 split
 all_goals
  dsimp only
  rcases ht with e | e | e <;> rw [e]
  ·exact .inl rfl
  ·exact .inr (.inl rfl)
  ·exact .inr (.inr rfl)
theorem scanL_ok : ∀ (k : Nat) (b : Bs) (at_ : Nat), ∀ f ∈ (scanL k b at_).1, (f.e.tag = 0 ∨ f.e.tag = 1 ∨ f.e.tag = 2) ∧ f.e.key.length = 32 ∧ 9 ≤ f.size ∧ f.size ≤ b.length
 | 0, _, _, f, hf => by cases hf
 | k + 1, b, at_, f, hf => by
  unfold scanL at hf
  split at hf
  ·cases hf
  split at hf
  ·cases hf
  rename_i he
  have he : (read b).2.2 = 0 := by simpa using he
  have h1 := read_ok he
  simp only at hf
  rcases List.mem_cons.1 hf with rfl | hf
  ·exact ⟨read_tag he, h1.2.2, h1.1, h1.2.1⟩
  ·have h2 := scanL_ok k _ _ f hf
   refine ⟨h2.1, h2.2.1, h2.2.2.1, Nat.le_trans h2.2.2.2 ?_⟩
   rw [List.length_drop]; omega
theorem scan_ok (b : Bs) : ∀ f ∈ (scan b).1, (f.e.tag = 0 ∨ f.e.tag = 1 ∨ f.e.tag = 2) ∧ f.e.key.length = 32 ∧ 9 ≤ f.size ∧ f.size ≤ b.length := fun f hf => by
 unfold scan at hf
 split at hf
 ·have h := scanL_ok _ _ _ f hf
  refine ⟨h.1, h.2.1, h.2.2.1, Nat.le_trans h.2.2.2 ?_⟩
  rw [List.length_drop]; omega
 ·cases hf
end Go.Frm
namespace Go.Rep
open Go.Frm (Bs Fnd)
open Go.Seg (Plc)
open Go.Tab
theorem rowsOf_mem {bt : Told} {ns : List Int} {r : Row} (h : r ∈ rowsOf bt ns) : r.1 ∈ ns ∧ r.2 ∈ (Frm.scan (bt r.1).1).1 := by
 unfold rowsOf at h
 obtain ⟨s, hs, h⟩ := List.mem_flatMap.1 h
 obtain ⟨f, hf, rfl⟩ := List.mem_map.1 h
 exact ⟨hs, hf⟩
theorem rowsOf_rows {bt : Told} {ns : List Int} (hr : ns.Pairwise (· < ·)) (h0 : ∀ s ∈ ns, 0 ≤ s) : Rows (rowsOf bt ns) := by
 refine ⟨fun r h => (Frm.scan_ok _ _ (rowsOf_mem h).2).1, fun r h => h0 _ (rowsOf_mem h).1, ?_⟩
 unfold rowsOf
 rw [List.pairwise_flatMap]
 refine ⟨fun s _ => ?_, hr.imp fun {a b} hab x hx y hy => ?_⟩
 ·rw [List.pairwise_map]
  exact List.pairwise_of_forall fun _ _ => Int.le_refl s
 ·obtain ⟨_, _, rfl⟩ := List.mem_map.1 hx
  obtain ⟨_, _, rfl⟩ := List.mem_map.1 hy
  exact Int.le_of_lt hab
end Go.Rep
namespace Go.Rep
open Go.Frm (Bs Fnd Ent fnds encs GoodE)
open Go.Seg (Plc mag)
open Go.Tab
def rowsC : Nat → List (List Ent) → List Row
 | _, [] => []
 | k, es :: C => ((fnds es 8).map fun f => ((k : Int), f)) ++ rowsC (k + 1) C
section
variable {C : List (List Ent)} {bt : Told} {k n : Nat}
theorem rowsC_e : ∀ (k : Nat) (C : List (List Ent)), (rowsC k C).map (·.2.e) = C.flatten
 | _, [] => rfl
 | k, es :: C => by
  unfold rowsC
  rw [List.map_append, List.map_map, rowsC_e (k + 1) C, List.flatten_cons]
  congr 1
  exact Frm.fnds_e es 8
theorem rows_is : ∀ (C : List (List Ent)) (k : Nat), (∀ j es, C[j]? = some es → bt ((k + j : Nat) : Int) = (mag ++ encs es, 0) ∧ ∀ x ∈ es, GoodE x) → rowsOf bt ((List.range' k C.length).map fun i => ((i : Nat) : Int)) = rowsC k C
 | [], k, _ => rfl
 | es :: C, k, h => by
  have h0 := h 0 es rfl
  rw [Nat.add_zero] at h0
  have ih := rows_is C (k + 1) fun j fs hj => by
   have := h (j + 1) fs (by simpa using hj)
   rwa [show k + (j + 1) = k + 1 + j by omega] at this
  rw [List.length_cons, List.range'_succ, List.map_cons]
  show ((Frm.scan (bt (k : Int)).1).1.map fun f => ((k : Int), f)) ++ rowsOf bt ((List.range' (k + 1) C.length).map fun i => ((i : Nat) : Int)) = _
  rw [ih, h0.1, Frm.scan_encs es h0.2]
  rfl
def endsC (es : List Ent) : Bool := match es.getLast? with
 | some x => x.tag == 2
 | none => false
theorem ended_fnds (es : List Ent) (a : Nat) : endedF (fnds es a) = endsC es := by
 unfold endedF endsC
 have h : (fnds es a).getLast?.map (·.e) = es.getLast? := by rw [← List.getLast?_map, Frm.fnds_e]
 cases hl : (fnds es a).getLast? with
 | none => rw [hl] at h; rw [← h]; rfl
 | some f => rw [hl] at h; rw [← h]; rfl
theorem split_is {ns : List Int} (hl : ns.length = C.length) (h : ∀ j es, C[j]? = some es → bt (ns.getD j 0) = (mag ++ encs es, 0) ∧ ∀ x ∈ es, GoodE x) : ∀ i, i ≤ C.length →
  ∃ n, split bt ns i = (n, 0) ∧ n ≤ i ∧ (n ≠ 0 → ∃ es, C[n - 1]? = some es ∧ endsC es = true) ∧ ∀ j es, n ≤ j → j < i → C[j]? = some es → endsC es = false
 | 0, _ => ⟨0, rfl, Nat.le_refl _, fun h => absurd rfl h, fun j es h1 h2 => by omega⟩
 | i + 1, hi => by
  obtain ⟨es, he⟩ : ∃ es, C[i]? = some es := ⟨_, List.getElem?_eq_getElem (by omega)⟩
  obtain ⟨h1, h2⟩ := h i es he
  have hu : split bt ns (i + 1) = if endsC es = true then (i + 1, 0) else split bt ns i := by
   rw [split, h1, if_neg (by simp), Frm.scan_encs es h2]
   simp only [ended_fnds, true_and]
  rw [hu]
  cases hc : endsC es with
  | true => exact ⟨i + 1, rfl, Nat.le_refl _, fun _ => ⟨es, he, hc⟩, fun j fs a b => by omega⟩
  | false =>
   obtain ⟨n, a, b, c, d⟩ := split_is hl h i (by omega)
   refine ⟨n, a, by omega, c, fun j fs p q r => ?_⟩
   by_cases e : j = i
   ·subst e; rw [he] at r; cases r; exact hc
   ·exact d j fs p (by omega) r
theorem bad_is {ns : List Int} (h : ∀ (j : Nat) (s : Int), ns[j]? = some s → ∃ es, bt s = (mag ++ encs es, 0) ∧ ∀ x ∈ es, GoodE x) : bad bt ns = none := by
 induction ns with
 | nil => rfl
 | cons s ns ih =>
  obtain ⟨es, h1, h2⟩ := h 0 s rfl
  unfold bad
  rw [h1, if_neg (by simp), Frm.scan_encs es h2]
  simp only
  rw [if_neg (by simp)]
  exact ih fun j t hj => h (j + 1) t (by simpa using hj)
theorem rowsC_mem : ∀ (C : List (List Ent)) (k : Nat) {r : Row}, r ∈ rowsC k C → ∃ j es, C[j]? = some es ∧ r.1 = ((k + j : Nat) : Int) ∧ r.2 ∈ fnds es 8
 | [], _, r, h => by cases h
 | es :: C, k, r, h => by
  unfold rowsC at h
  rcases List.mem_append.1 h with h | h
  ·obtain ⟨f, hf, rfl⟩ := List.mem_map.1 h
   exact ⟨0, es, rfl, by simp, hf⟩
  ·obtain ⟨j, fs, h1, h2, h3⟩ := rowsC_mem C (k + 1) h
   exact ⟨j + 1, fs, by simpa using h1, by rw [h2]; congr 1; omega, h3⟩
theorem fnds_mem : ∀ (es : List Ent) (a : Nat) {f : Fnd}, f ∈ fnds es a → ∃ u v, es = u ++ f.e :: v ∧ f.at_ = a + (encs u).length ∧ f.size = (Frm.encode f.e).1.length
 | [], _, f, h => by cases h
 | x :: es, a, f, h => by
  unfold fnds at h
  rcases List.mem_cons.1 h with rfl | h
  ·exact ⟨[], es, rfl, rfl, rfl⟩
  ·obtain ⟨u, v, h1, h2, h3⟩ := fnds_mem es _ h
   refine ⟨x :: u, v, by rw [h1]; rfl, ?_, h3⟩
   have e : encs (x :: u) = (Frm.encode x).1 ++ encs u := rfl
   rw [h2, e, List.length_append]; omega
end
end Go.Rep
namespace Go.Seg
open Go.Med
open Go.Frm (encs GoodE fnds)
section
variable {n : Nat} {M : Med} {L : Log} {C : List (List Frm.Ent)}
theorem Holds.ns (h : Holds n L M C) : L.segs = (List.range' 0 C.length).map fun i => ((i : Nat) : Int) := by
 obtain ⟨h1, h2⟩ := h.segs
 apply List.ext_getElem?
 intro i
 by_cases hi : i < C.length
 ·rw [h2 i hi, List.getElem?_map, List.getElem?_range' hi]; simp
 ·rw [List.getElem?_eq_none (by omega), List.getElem?_eq_none (by rw [List.length_map, List.length_range']; omega)]
theorem Holds.told (h : Holds n L M C) : ∀ j es, C[j]? = some es → L.bytes M (L.segs.getD j 0) = (mag ++ encs es, 0) ∧ ∀ x ∈ es, GoodE x := fun j es hj => by
 have hl := (List.getElem?_eq_some_iff.1 hj).1
 rw [List.getD, h.segs.2 j hl]
 exact ⟨h.bytes hj, (h.good es (List.mem_of_getElem? hj)).1⟩
theorem take_nums (n i : Nat) : ((List.range' 0 n).map fun i => ((i : Nat) : Int)).take i = (List.range' 0 (min i n)).map fun i => ((i : Nat) : Int) := by
 rw [← List.map_take]
 congr 1
 apply List.ext_getElem?
 intro j
 rw [List.getElem?_take]
 by_cases h1 : j < n
 ·by_cases h2 : j < i
  ·rw [if_pos h2, List.getElem?_range' h1, List.getElem?_range' (by omega)]
  ·rw [if_neg h2, List.getElem?_eq_none (by rw [List.length_range']; omega)]
 ·rw [List.getElem?_eq_none (by rw [List.length_range']; omega), List.getElem?_eq_none (by rw [List.length_range']; omega)]
  split <;> rfl
theorem Holds.rows (h : Holds n L M C) (i : Nat) : Rep.rowsOf (fun s => L.bytes M s) (L.segs.take i) = Rep.rowsC 0 (C.take i) := by
 have e : L.segs.take i = (List.range' 0 (C.take i).length).map fun i => ((i : Nat) : Int) := by
  rw [h.ns, take_nums, List.length_take]
 rw [e]
 refine Rep.rows_is (C.take i) 0 fun j es hj => ?_
 have hj' : C[j]? = some es := by
  rw [List.getElem?_take] at hj
  split at hj
  ·exact hj
  ·cases hj
 rw [Nat.zero_add]
 exact ⟨h.bytes hj', (h.good es (List.mem_of_getElem? hj')).1⟩
theorem Holds.bad (h : Holds n L M C) (i : Nat) : Rep.bad (fun s => L.bytes M s) (L.segs.take i) = none := by
 refine Rep.bad_is fun j s hs => ?_
 have hs' : L.segs[j]? = some s := by
  rw [List.getElem?_take] at hs
  split at hs
  ·exact hs
  ·cases hs
 have hl : j < C.length := by rw [← h.segs.1]; exact (List.getElem?_eq_some_iff.1 hs').1
 have := h.segs.2 j hl
 rw [hs'] at this
 cases this
 exact ⟨_, h.bytes (List.getElem?_eq_getElem hl), (h.good _ (List.getElem_mem hl)).1⟩
theorem Holds.split (h : Holds n L M C) : ∃ c, Rep.split (fun s => L.bytes M s) L.segs L.segs.length = (c, 0) ∧ c ≤ C.length ∧ (c ≠ 0 → ∃ es, C[c - 1]? = some es ∧ Rep.endsC es = true) ∧ ∀ j es, c ≤ j → C[j]? = some es → Rep.endsC es = false := by
 rw [h.segs.1]
 obtain ⟨c, h1, h2, h3, h4⟩ := Rep.split_is h.segs.1 h.told C.length (Nat.le_refl _)
 exact ⟨c, h1, h2, h3, fun j es a b => h4 j es a (List.getElem?_eq_some_iff.1 b).1 b⟩
theorem Holds.run (h : Holds n L M C) : ∃ c, Rep.run (fun s => L.bytes M s) L.segs = .inr c ∧ c ≤ C.length ∧ (c ≠ 0 → ∃ es, C[c - 1]? = some es ∧ Rep.endsC es = true) ∧ ∀ j es, c ≤ j → C[j]? = some es → Rep.endsC es = false := by
 obtain ⟨c, h1, h2⟩ := h.split
 refine ⟨c, ?_, h2⟩
 unfold Rep.run
 rw [h1, if_neg (by simp)]
 exact Rep.runAt_none (h.bad c)
end
end Go.Seg
namespace Go.Seg
open Go.Med
open Go.Frm (encs GoodE fnds Ent)
def toE (d : Ent) : Ent := if d.tag = 0 then ⟨0, d.key, d.data⟩ else if d.tag = 1 then ⟨1, d.key, []⟩ else comEnt
def isPut (d : Ent) : Prop := d.tag = 0 ∨ d.tag = 1
instance (d : Ent) : Decidable (isPut d) := by unfold isPut; infer_instance
structure Pl (n : Nat) (ds : List Ent) (L : Log) (M : Med) (C : List (List Ent)) : Prop where
 holds : Holds n L M C
 tail : Tail L.on C
 flat : C.flatten = ds.map toE
 small : ∀ x ∈ C.flatten, x.data.length ≤ 300
section
variable {n : Nat} {ds : List Ent} {L : Log} {M : Med} {C C0 : List (List Ent)} {d : Ent}
end
end Go.Seg
namespace Go.Rep
open Go.Frm (Bs Fnd)
open Go.Seg (Plc)
open Go.Tab
def hit (k : Bs) (r : Row) : Bool := decide (rtag r < 2) && decide (rkey r = k)
section
variable {l : List Row} {k : Bs} {i : Nat} {r : Row}
end
section
variable {V : Type}
variable {l : List (Bs × V)} {x y : Bs × V} {i : Nat}
end
section
variable {l : List Row} {us : List Use} {i k : Nat} {r : Row} {u : Use}
end
end Go.Rep
namespace Go.Proofs.YtlinnpehkfbnkaaGreatDoor
open Go Go.Sl Go.Med Go.MapKept Go.RowKit
section
variable {P : Program} {w0 w : World} {L L' : List HProp} {b o : Nat} {ops : Array Oper} {a : Act} {Q : Exit → Act → World → Prop} {dst : Option Tmp} {t ty T : TypeId} {pos : String} {after : Array Edge} {x y : Operand} {cs : Array Value} {v : Value} {K : Act → World → Prop} {E : Prop}
end
section
variable {w0 w : World} {F R : List HProp} {d i : Nat} {D : Med} {fsv fv nv wv v lv bv : Value} {xs : List RF} {x : RF} {g : Bag} {K : Nat}
section
variable {P : Program} {b o : Nat} {ops : Array Oper} {rest : List Oper} {a : Act} {Q : Exit → Act → World → Prop} {dst : Option Tmp} {t ty : Nat} {pos : String} {after : Array Edge} {y : Operand}
theorem wl_loadC (hx : a.eval y = .pointer (some ⟨b, o, none⟩)) (h1 : oneB P ty = true) (hc : w.cell? ⟨b, o, none⟩ = some v)
  (h : wpList P ops Q rest (a.put dst v) w) : wpList P ops Q (⟨dst, .load ty y, t, pos, after, none⟩ :: rest) a w :=
 wpList_plain rfl fun _ hK => by
  unfold Oper.wp execOp
  simp only [hx, Instr.loadAt, Instr.sureAddr, Sem.run_bind, Sem.run_pure, Result.andThen_ok, run_load1 h1 hc]
  exact hK _ _ h
end
end
end Go.Proofs.YtlinnpehkfbnkaaGreatDoor
namespace Go.Seg
open Go.Med
def Log.drop (t : List Int) : Nat → Log → Med → (Log × Med) × Int
 | 0, L, M => if t = [] then ((L, M), 0) else ((L, M.syncDir.1), M.syncDir.2)
 | k + 1, L, M => if (L.remove M (t.getD k 0)).2 = 0 then Log.drop t k (L.remove M (t.getD k 0)).1.1 (L.remove M (t.getD k 0)).1.2 else L.remove M (t.getD k 0)
section
variable {t : List Int} {L : Log} {M D : Med} {K i : Nat}
end
end Go.Seg
namespace Go.Seg
open Go.Med
section
variable {i j K : Nat} {M D : Med}
end
section
variable {i n c K : Nat} {L : Log} {M D : Med}
theorem segs_rise (h : L.Ok) : L.segs.Pairwise (· < ·) := h.rise
theorem segs_pos (h : L.Ok) : ∀ s ∈ L.segs, 0 ≤ s := fun s hs => by
 unfold Log.segs at hs
 obtain ⟨x, hx, rfl⟩ := List.mem_map.1 hs
 exact (h.nums x hx).1
theorem rows_ok (h : L.Ok) (M : Med) (n : Nat) : Rep.Rows (Rep.rowsOf (fun s => L.bytes M s) (L.segs.take n)) :=
 Rep.rowsOf_rows ((segs_rise h).sublist (List.take_sublist _ _)) fun s hs => segs_pos h s (List.mem_of_mem_take hs)
end
end Go.Seg
namespace Go.Proofs.YtlinnpehkfbnkaaGreatDoor
open Go Go.Sl Go.Med Go.ChangeShapes Go.WideShapes Go.RowKit
section
variable {H : Type} {enc : TypeId × Value → H} {W : World} {base : Nat} {spare : Nat → Bool} {held : Bool}
theorem open_key {t : TypeId} {fuel : Nat} {cs : List Value} {x : DataW H × List MemPlace} {k : Nat} (ht : Tryz.prog.underlying t = some (.array k 5)) (hk : Tryz.prog.cellsOf t = k) (h : DataW.trod enc Tryz.prog W base spare held fuel t cs = some x) :
  ∃ l : Bs, bys l = cs ∧ l.length = k := by
 obtain ⟨xs, m, _, _, hl, hxl, hf⟩ := DataW.trod_array ht h
 have e1 : Tryz.prog.cellsOf 5 = 1 := by kernel_rfl
 rw [hk] at hl
 have hz : ∀ i, i < k → ∃ z : Int, cs[i]? = some (.int .u8 z) ∧ (Lit.int .u8 z).wf = true := by
  intro i hi
  have h0 := hf i hi
  rw [List.getElem?_eq_getElem (by omega), e1, Nat.mul_one] at h0
  obtain ⟨z, q1, _, q3⟩ := DataW.trod_int Tryz.underlying5 h0
  refine ⟨z, ?_, q3⟩
  have : ((cs.drop i).take 1)[0]? = some (.int .u8 z) := by rw [q1]; rfl
  rw [List.getElem?_take, if_pos dCz, List.getElem?_drop] at this
  exact this
 obtain ⟨zs, z1, z2⟩ := list_of_fun hz
 have hcs : cs = zs.map (.int .u8) := by
  apply List.ext_getElem? 
  intro i
  rw [List.getElem?_map]
  by_cases hi : i < k
  ·have := (z2 i _ (List.getElem?_eq_getElem (by omega))).1
   rw [this, List.getElem?_eq_getElem (show i < zs.length by omega)]; rfl
  ·rw [List.getElem?_eq_none (by omega), List.getElem?_eq_none (by omega)]; rfl
 refine ⟨toBs zs, ?_, by unfold toBs; rw [List.length_map]; exact z1⟩
 rw [bys_toBs, hcs]
 intro z hz
 obtain ⟨i, hi, rfl⟩ := List.getElem_of_mem hz
 exact (z2 i _ (List.getElem?_eq_getElem hi)).2
structure EntAt (W : World) (p : Frm.Ent × Value) : Prop where
 key : p.1.key.length = 32
 tag : inI p.1.tag
 rd : rdsl 1 p.2 (bys p.1.data) W
 cap : capOk p.2
set_option maxRecDepth 100000 in
theorem open_ent {fuel : Nat} {cs : List Value} {x : DataW H × List MemPlace} (h : DataW.trod enc Tryz.prog W base spare held fuel 27 cs = some x) : ∃ p : Frm.Ent × Value, entL p.1 p.2 = cs ∧ EntAt W p := by
 obtain ⟨hl, hf⟩ := open_fields Tryz.underlying27 h
 have e34 : Tryz.prog.cellsOf 27 = 34 := by kernel_rfl
 have e1 : Tryz.prog.cellsOf 3 = 1 := by kernel_rfl
 have e2 : Tryz.prog.cellsOf 24 = 32 := by kernel_rfl
 have e3 : Tryz.prog.cellsOf 25 = 1 := by kernel_rfl
 have e5 : Tryz.prog.cellsOf 5 = 1 := by kernel_rfl
 rw [e34] at hl
 obtain ⟨n0, y0, h0⟩ := hf 0 _ rfl
 obtain ⟨n1, y1, h1⟩ := hf 1 _ rfl
 obtain ⟨n2, y2, h2⟩ := hf 2 _ rfl
 simp only [List.getElem_toArray, List.getElem_cons_zero, List.getElem_cons_succ, e1, e2, e3, List.drop_zero] at h0 h1 h2
 obtain ⟨z0, q0, _, w0⟩ := DataW.trod_int Tryz.underlying3 h0
 obtain ⟨kl, k1, k2⟩ := open_key Tryz.underlying24 e2 h1
 have hd : ∃ v, (cs.drop 33).take 1 = [v] := by
  have : ((cs.drop 33).take 1).length = 1 := by rw [List.length_take, List.length_drop]; omega
  exact List.length_eq_one_iff.1 this
 obtain ⟨dv, hdv⟩ := hd
 rw [hdv] at h2
 obtain ⟨l5, r5, c5⟩ := in_bys Tryz.underlying25 Tryz.underlying5 e5 h2
 refine ⟨(⟨z0, kl, l5⟩, dv), ?_, k2, bounds_i64 w0, r5, c5⟩
 show Value.int .i64 z0 :: (bys kl ++ [dv]) = cs
 have s1 : cs = cs.take 1 ++ ((cs.drop 1).take 32 ++ (cs.drop 33).take 1) := by
  have a1 : cs = cs.take 1 ++ cs.drop 1 := (List.take_append_drop 1 cs).symm
  have a2 : cs.drop 1 = (cs.drop 1).take 32 ++ (cs.drop 1).drop 32 := (List.take_append_drop 32 _).symm
  have a3 : (cs.drop 1).drop 32 = (cs.drop 33).take 1 := by rw [List.drop_drop, List.take_of_length_le (by rw [List.length_drop]; omega)]
  rw [a3] at a2
  rw [← a2]; exact a1
 rw [s1, q0, ← k1, hdv]; rfl
set_option maxRecDepth 100000 in
theorem open_plc {fuel : Nat} {cs : List Value} {x : DataW H × List MemPlace} (h : DataW.trod enc Tryz.prog W base spare held fuel 54 cs = some x) : ∃ a b c : Int, cs = [.int .i64 a, .int .i64 b, .int .i64 c] ∧ inI a ∧ inI b ∧ inI c := by
 obtain ⟨hl, hf⟩ := open_fields Tryz.underlying54 h
 have e3 : Tryz.prog.cellsOf 54 = 3 := by kernel_rfl
 have e1 : Tryz.prog.cellsOf 3 = 1 := by kernel_rfl
 rw [e3] at hl
 match cs, hl with
 | [v0, v1, v2], _ =>
  obtain ⟨n0, y0, h0⟩ := hf 0 _ rfl
  obtain ⟨n1, y1, h1⟩ := hf 1 _ rfl
  obtain ⟨n2, y2, h2⟩ := hf 2 _ rfl
  simp only [List.getElem_toArray, List.getElem_cons_zero, List.getElem_cons_succ, e1, List.drop_zero, List.drop_succ_cons, List.take_succ_cons, List.take_zero] at h0 h1 h2
  obtain ⟨z0, q0, _, w0⟩ := DataW.trod_int Tryz.underlying3 h0
  obtain ⟨z1, q1, _, w1⟩ := DataW.trod_int Tryz.underlying3 h1
  obtain ⟨z2, q2, _, w2⟩ := DataW.trod_int Tryz.underlying3 h2
  simp only [List.cons.injEq, and_true] at q0 q1 q2
  subst q0; subst q1; subst q2
  exact ⟨z0, z1, z2, rfl, bounds_i64 w0, bounds_i64 w1, bounds_i64 w2⟩
end
end Go.Proofs.YtlinnpehkfbnkaaGreatDoor
namespace Go.Proofs.YtlinnpehkfbnkaaGreatDoor
open Go Go.Sl Go.Med Go.ChangeShapes Go.WideShapes Go.RowKit
structure PC where
 n : Int
 es : List (Frm.Ent × Value)
 ev : Value
 rest : Bs
 rv : Value
 bad : Bool
 at_ : Int
 plain : Bool
structure PC.At (W : World) (d : PC) : Prop where
 n : inI d.n
 rd : rdsl 34 d.ev (entsL d.es) W
 cap : capOk d.ev
 ents : ∀ p ∈ d.es, EntAt W p
 rr : rdsl 1 d.rv (bys d.rest) W
 rc : capOk d.rv
 at_ : inI d.at_
section
variable {H : Type} {enc : TypeId × Value → H} {W : World} {base : Nat} {spare : Nat → Bool} {held : Bool}
end
end Go.Proofs.YtlinnpehkfbnkaaGreatDoor
namespace Go.Rep
open Go.Frm (Bs Fnd Ent fnds encs GoodE)
open Go.Seg (Plc mag)
open Go.Tab
def segSum (l : List Row) (s : Int) : Int := (l.map fun r => if r.1 = s then (r.2.size : Int) else 0).sum
theorem segSum_app (a b : List Row) (s : Int) : segSum (a ++ b) s = segSum a s + segSum b s := by unfold segSum; rw [List.map_append, List.sum_append]
theorem live_seg {l : List Row} (s : Int) : ∀ i, i ≤ l.length → 0 ≤ live l s i ∧ live l s i ≤ segSum (l.take i) s
 | 0, _ => ⟨Int.le_refl 0, by simp [live, segSum]⟩
 | i + 1, hi => by
  have ih := live_seg (l := l) s i (by omega)
  obtain ⟨r, hr⟩ : ∃ r, l[i]? = some r := ⟨_, List.getElem?_eq_getElem (by omega)⟩
  rw [List.take_add_one, hr, Option.toList_some, segSum_app]
  have e : segSum [r] s = if r.1 = s then (r.2.size : Int) else 0 := by unfold segSum; simp
  rw [e]
  unfold live
  rw [hr]
  simp only
  by_cases h : r.1 = s
  ·rw [if_pos h]
   split <;> omega
  ·rw [if_neg h, if_neg (fun hh => h hh.2)]; omega
theorem fnds_sum : ∀ (es : List Ent) (a : Nat), ((fnds es a).map fun f => (f.size : Int)).sum = (encs es).length
 | [], _ => rfl
 | x :: es, a => by
  have e : encs (x :: es) = (Frm.encode x).1 ++ encs es := rfl
  unfold fnds
  rw [List.map_cons, List.sum_cons, fnds_sum es, e, List.length_append]; simp
theorem segSum_row (l : List Fnd) (k s : Int) : segSum (l.map fun f => (k, f)) s = if k = s then (l.map fun f => (f.size : Int)).sum else 0 := by
 unfold segSum
 rw [List.map_map]
 by_cases h : k = s
 ·rw [if_pos h]
  congr 1
  refine List.map_congr_left fun f _ => ?_
  simp [h]
 ·rw [if_neg h]
  induction l with
  | nil => rfl
  | cons f l ih => rw [List.map_cons, List.sum_cons, ih]; simp [h]
theorem segSum_lt : ∀ (C : List (List Ent)) (k : Nat) (s : Int), s < k → segSum (rowsC k C) s = 0
 | [], _, _, _ => rfl
 | es :: C, k, s, h => by
  unfold rowsC
  rw [segSum_app, segSum_lt C (k + 1) s (by omega), segSum_row, if_neg (by omega)]; rfl
theorem segSum_is : ∀ (C : List (List Ent)) (k j : Nat) (es : List Ent), C[j]? = some es → segSum (rowsC k C) ((k + j : Nat) : Int) = (encs es).length
 | [], _, _, _, h => by simp at h
 | fs :: C, k, 0, es, h => by
  obtain rfl : fs = es := by simpa using h
  unfold rowsC
  rw [segSum_app, segSum_lt C (k + 1) _ (by omega), segSum_row, if_pos (by simp), fnds_sum]; simp
 | fs :: C, k, j + 1, es, h => by
  unfold rowsC
  rw [segSum_app, segSum_row, if_neg (by omega)]
  have := segSum_is C (k + 1) j es (by simpa using h)
  rw [show k + (j + 1) = k + 1 + j by omega, this]; simp
end Go.Rep
namespace Go.Rep
open Go.Frm (Bs Fnd Ent fnds encs GoodE)
open Go.Seg (Plc mag)
open Go.Tab
theorem newest_some : ∀ {l : List Row} {k : Bs} {r : Row}, newest l k = some r → r ∈ l ∧ rtag r ≠ 2 ∧ rkey r = k
 | [], _, _, h => by cases h
 | x :: l, k, r, h => by
  unfold newest at h
  split at h
  ·rename_i y hy
   cases h
   obtain ⟨h1, h2⟩ := newest_some hy
   exact ⟨.tail _ h1, h2⟩
  ·split at h
   ·rename_i hh
    cases h
    exact ⟨.head _, hh⟩
   ·cases h
end Go.Rep
namespace Go.Seg
open Go.Med
open Go.Frm (Bs Fnd encs GoodE fnds Ent)
open Go.Rep
section
variable {n : Nat} {ds : List Ent} {L : Log} {M : Med} {C : List (List Ent)} {c : Nat}
end
end Go.Seg
namespace Go.Seg
open Go.Med
open Go.Frm (Bs Fnd encs GoodE fnds Ent)
open Go.Rep
section
variable {n n2 : Nat} {ds ps : List Ent} {L L2 : Log} {M M2 : Med} {C C0 C2 : List (List Ent)} {c c2 : Nat} {d : Ent}
structure Same (L L2 : Log) (M M2 : Med) (c c2 : Nat) : Prop where
 one : c = L.segs.length
 two : c2 = L.segs.length
 segs : L2.segs.take c2 = L.segs.take c
 rows : rowsOf (fun s => L2.bytes M2 s) (L2.segs.take c2) = rowsOf (fun s => L.bytes M s) (L.segs.take c)
 uses : usesOf (fun s => L2.bytes M2 s) (L2.segs.take c2) = usesOf (fun s => L.bytes M s) (L.segs.take c)
 le : L.segs.length ≤ L2.segs.length
end
end Go.Seg
namespace Go.Seg
open Go.Med
open Go.Frm (encs GoodE fnds Ent)
def AllBut (o : Option ByteArray) (M : Med) : Prop := ∀ p ∈ M.now, FFlat (M.file p.2) ∨ some p.1 = o
section
variable {o : Option ByteArray} {M : Med} {L : Log} {s : ByteArray} {i K r : Nat}
theorem AllBut.more (h : AllBut none M) (o : Option ByteArray) : AllBut o M := fun p hp => .inl ((h p hp).resolve_right (by simp))
theorem AllBut.append (h : AllBut (some s) M) (c : Calm K r M) (b : Bs) : AllBut (some s) (M.append s b).1 := by
 rcases append_cases c.quiet s b with ⟨_, e⟩ | ⟨j, hj, ⟨_, e⟩ | ⟨_, e⟩⟩
 ·rw [e]; exact h
 ·rw [e]; exact h
 ·rw [e]
  intro p hp
  have hp' : p ∈ M.now := hp
  by_cases hps : p.1 = s
  ·exact .inr (by rw [hps])
  ·refine .inl ?_
   have hlt : j < M.files.length := c.ok.nowOk.ids _ (nget_mem hj)
   show FFlat ((M.setFile j _).file p.2)
   rw [file_set hlt, if_neg (fun e => hps (dst_inj c hj (by
    have : nget M.now p.1 = some p.2 := nget_of_mem c.ok.nowOk.srt.keys hp'
    rw [this, e])))]
   exact (h p hp').resolve_right (fun e => hps (Option.some.inj e))
theorem AllBut.sync (h : AllBut (some s) M) (c : Calm K r M) (hi : nget M.now s = some i) : AllBut none (M.sync s).1 := by
 rw [c.quiet.sync_eq hi]
 intro p hp
 have hp' : p ∈ M.now := hp
 have hlt : i < M.files.length := c.ok.nowOk.ids _ (nget_mem hi)
 refine .inl ?_
 show FFlat ((M.setFile i _).file p.2)
 rw [file_set hlt]
 split
 ·exact ⟨rfl, rfl⟩
 ·rename_i hne
  refine (h p hp').resolve_right fun e => hne ?_
  have : nget M.now p.1 = some p.2 := nget_of_mem c.ok.nowOk.srt.keys hp'
  rw [Option.some.inj e, hi] at this
  exact (Option.some.inj this).symm
theorem AllBut.create (h : AllBut none M) (c : Calm K r M) (s : ByteArray) : AllBut none (M.create s).1 := by
 rcases create_cases c.quiet s with ⟨_, _, e⟩ | ⟨_, _, _, e⟩
 ·rw [e]; exact h
 ·rw [e]
  intro p hp
  refine .inl ?_
  have hp' : p ∈ nput M.now s M.files.length := hp
  have hp2 := (nput_perm M.now s M.files.length).mem_iff.1 hp'
  show FFlat ((M.files ++ [Fil.new]).getD p.2 Fil.new)
  rcases List.mem_cons.1 hp2 with rfl | hp2
  ·simp [FFlat, Fil.new]
  ·have hm : p ∈ M.now := (List.mem_filter.1 hp2).1
   have hlt := c.ok.nowOk.ids p hm
   rw [List.getD_eq_getElem?_getD, List.getElem?_append_left hlt]
   have := (h p hm).resolve_right (by simp)
   unfold Med.file at this
   rwa [List.getD_eq_getElem?_getD] at this
theorem AllBut.syncDir (h : AllBut o M) : AllBut o M.syncDir.1 := fun p hp => by
 rw [(syncDir_same M).1] at hp
 have := h p hp
 unfold Med.file at this ⊢
 rwa [(syncDir_same M).2]
def ShutL (L : Log) (M : Med) : Prop := AllBut (if L.on = true then L.l.getLast?.map fun s => name s.1 else none) M
theorem ShutL.off (h : ShutL L M) (ho : L.on = false) : AllBut none M := by unfold ShutL at h; rwa [ho, if_neg dCz] at h
theorem ShutL.of_off (h : AllBut none M) (ho : L.on = false) : ShutL L M := by unfold ShutL; rwa [ho, if_neg dCz]
theorem ShutL.last (h : ShutL L M) {s : Int × Int} (hs : L.l.getLast? = some s) : AllBut (some (name s.1)) M := by
 unfold ShutL at h
 split at h
 ·rw [hs] at h; exact h
 ·exact h.more _
theorem ShutL.append (h : ShutL L M) (k : Keeps K r L M) (x : Ent) (h0 : (L.append M x).2.2 = 0) :
  (L.append M x).1.1.on = true ∧ AllBut (some (name (L.append M x).2.1.seg)) (L.append M x).1.2 ∧ ∃ s, (L.append M x).1.1.l.getLast? = some s ∧ s.1 = (L.append M x).2.1.seg := by
 unfold Log.append at h0 ⊢
 split at h0
 ·rename_i hn; exact absurd h0 hn
 rename_i hn
 rw [if_neg hn]
 split at h0
 ·rename_i hf
  rw [if_pos hf]
  have hon := fits_on' hf
  obtain ⟨s, hs⟩ := k.log.last hon
  unfold Log.grow at h0 ⊢
  rw [hs] at h0 ⊢
  simp only at h0 ⊢
  split at h0
  ·rename_i ha
   rw [if_pos ha]
   exact ⟨hon, (h.last hs).append k.calm _, (s.1, s.2 + ((Frm.encode x).1.length : Int)), by simp, rfl⟩
  ·rename_i ha; exact absurd h0 ha
 ·rename_i hf
  rw [if_neg hf]
  obtain ⟨k1, e1, e2, e3, e4⟩ := k.shut
  unfold Log.begin at h0 ⊢
  rw [if_pos e1] at h0 ⊢
  have hall : AllBut none (L.shut M).1.2 := by
   unfold Log.shut
   cases hl : L.l.getLast? with
   | none =>
    unfold ShutL at h
    rw [hl] at h
    intro p hp
    refine .inl ((h p hp).resolve_right ?_)
    split <;> simp
   | some s =>
    simp only
    split
    ·rename_i hon
     obtain ⟨i, hi⟩ := k.has s (List.mem_of_getLast? hl)
     split <;> exact (h.last hl).sync k.calm hi
    ·rename_i hon
     exact h.off (by simpa using hon)
  generalize (L.shut M).1 = LM at *
  obtain ⟨L1, M1⟩ := LM
  simp only at *
  unfold Log.begin1 at h0 ⊢
  split at h0
  ·cases h0
  rename_i g1
  rw [if_neg g1]
  split at h0
  ·rename_i g2; exact absurd h0 g2
  rename_i g2
  rw [if_neg g2]
  split at h0
  ·rename_i g3
   rw [if_pos g3]
   exact ⟨rfl, ((hall.create k1.calm _).more _).append (k1.calm.create _) _, (L1.next, 8 + ((Frm.encode x).1.length : Int)), by simp, rfl⟩
  ·rename_i g3
   split at h0
   ·rename_i g4
    simp only at h0
    split at h0
    ·cases h0
    ·rename_i g5; exact absurd h0 g5
   ·exact absurd h0 g3
theorem ShutL.put (h : ShutL L M) (k : Keeps K r L M) (x : Ent) (h0 : (L.append M x).2.2 = 0) : ShutL (L.append M x).1.1 (L.append M x).1.2 := by
 obtain ⟨h1, h2, s, h3, h4⟩ := h.append k x h0
 unfold ShutL
 rw [h1, if_pos rfl, h3, Option.map_some, h4]
 exact h2
theorem ShutL.commit (h : ShutL L M) (k : Keeps K r L M) (h0 : (L.commit M).2.2 = 0) : ShutL (L.commit M).1.1 (L.commit M).1.2 := by
 unfold Log.commit at h0 ⊢
 split at h0
 ·rename_i g; exact absurd h0 g
 rename_i g
 rw [if_neg g]
 have hz : (L.append M comEnt).2.2 = 0 := by simpa using g
 obtain ⟨h1, h2, s, h3, h4⟩ := h.append k comEnt hz
 obtain ⟨i, hi⟩ := append_place k comEnt rfl hz
 have k2 := (k.append comEnt rfl).1
 split at h0
 ·rename_i g2; exact absurd h0 g2
 rename_i g2
 rw [if_neg g2]
 split at h0
 ·rename_i g3; exact absurd h0 g3
 rename_i g3
 rw [if_neg g3]
 exact ShutL.of_off ((h2.sync k2.calm hi).syncDir) rfl
end
end Go.Seg
namespace Go.Hin
open Go.Med
open Go.Rep (Use)
open Go.Seg (Plc)
def fin (n : Int) (us : List Use) (i : Nat) : Bool := decide (i = us.length) && (decide (0 < i) && decide ((us.getD (i - 1) ⟨0, 0, 0⟩).seg = n))
def fitU (sz : Int → Int) (s : Int) (u : Use) : Bool := decide (u.seg = s) && (decide (u.size = sz s) && decide (u.live ≤ u.size))
def fitsL (sz : Int → Int) (n : Int) (us : List Use) : List Int → Nat → Bool
 | [], i => fin n us i
 | s :: ss, i => if n < s then fin n us i else match us[i]? with
  | none => false
  | some u => if fitU sz s u = true then fitsL sz n us ss (i + 1) else false
def fits (L : Seg.Log) (us : List Use) (n : Int) : Bool := fitsL L.size n us L.segs 0
theorem fits_len {sz : Int → Int} {n : Int} {us : List Use} : ∀ (ss : List Int) (i : Nat), (∀ s ∈ ss, s ≤ n) → fitsL sz n us ss i = true → i + ss.length = us.length
 | [], i, h, e => by
  unfold fitsL fin at e
  rw [Bool.and_eq_true, decide_eq_true_eq] at e
  simpa using e.1
 | s :: ss, i, h, e => by
  unfold fitsL at e
  have := h s (.head _)
  rw [if_neg (by omega)] at e
  split at e
  ·cases e
  ·split at e
   ·have := fits_len ss (i + 1) (fun x hx => h x (.tail _ hx)) e
    rw [List.length_cons]; omega
   ·cases e
def lies (p : Plc) (sz : Int → Int) : Bool := decide (8 ≤ p.at_) && (decide (41 ≤ p.size) && decide (p.size ≤ sz p.seg - p.at_))
def sizes (us : List Use) : Int → Int := us.foldl (fun f u => fun s => if s = u.seg then u.size else f s) fun _ => 0
section
variable {T : Kept} {s1 s2 s : ByteArray} {b1 b2 b : Bs} {K : Nat} {M : Med}
end
end Go.Hin
namespace Go.Proofs.YtlinnpehkfbnkaaGreatDoor
open Go Go.Sl Go.Med Go.MapKept Go.RowKit
section
variable {w0 w : World} {F : List HProp} {m K p bm : Nat} {M : Med} {L : Seg.Log} {n : Int} {lv : Value} {f : Int → Int}
theorem hfits_step {sz : Int → Int} {us : List Rep.Use} {ss : List Int} {i : Nat} {s : Int} (h : ss[i]? = some s) : Hin.fitsL sz n us (ss.drop i) i = (if n < s then Hin.fin n us i else match us[i]? with
  | none => false
  | some u => if Hin.fitU sz s u = true then Hin.fitsL sz n us (ss.drop (i + 1)) (i + 1) else false) := by
 obtain ⟨hi, rfl⟩ := List.getElem?_eq_some_iff.1 h
 rw [List.drop_eq_getElem_cons hi]
 rfl
set_option maxRecDepth 20000 in
theorem hfits_c (us : List Rep.Use) (hul : us.length ≤ 1073741824) (hL : L.Ok) (hr : Ro w0 F (rdsl 3 lv (us.flatMap uenc))) (h : Sat w0 w (LogRep p m L :: F)) :
  Calls Tryz.prog 80 #[ptr p, lv, .int .i64 n] w (Rtn fun v w' => v = .bool (Hin.fits L us n) ∧ Sat w0 w' (LogRep p m L :: F)) := by
 obtain ⟨la, lc, rfl⟩ := osl_rows (fun u _ => uenc_len u) (hr w h.drop) dCz
 have hse := lsegs_c hL h
 have Hsl := Lib.hid (show L.segs.length ≤ 1073741824 from by unfold Seg.Log.segs; rw [List.length_map]; have := hL.len; omega)
 have HLs := Lib.hid (fun (w' : World) (R : List HProp) (hw : Sat w0 w' (LogRep p m L :: R)) => fun (s : Int) => lsize_c hL s hw)
 have Hr := Lib.hid hr; have Hul := Lib.hid hul
 have HW0 := Lib.hid (show Hin.fitsL L.size n us (L.segs.drop 0) 0 = Hin.fits L us n from rfl)
 generalize Hin.fits L us n = W at *
 clear hr hul hL
 go_enter Tryz.func80, Tryz.ntmps80
 go_wp2_with fail
 refine hse.mono ?_
 rintro ee w1 ⟨v, rfl, h1⟩
 clear hse h
 obtain ⟨sa, sc, rfl⟩ := ints_sl (Sat.rd h1)
 go_wp2_with fail
 go_loopg [7, 13] L.segs.length (fun g kq iq wr => ∃ i : Nat, g = L.segs.length - i ∧ i ≤ L.segs.length ∧ kq = .int .i64 i ∧ iq = .int .i64 i ∧ Hin.fitsL L.size n us (L.segs.drop i) i = W ∧ Sat w0 wr (osl 3 1 (.slice sa L.segs.length sc) (ints L.segs) :: LogRep p m L :: F))
 case atStart => exact ⟨0, rfl, Nat.zero_le _, rfl, rfl, HW0.out, h1⟩
 case round =>
  obtain ⟨i, rfl, hi, rfl, rfl, hW, hS⟩ := hrel
  clear h1 HW0
  by_cases hlt : i < L.segs.length
  rotate_left
  ·as_aux_lemma =>
   have c1 : ¬ (i : Int) < (L.segs.length : Int) := by omega
   have HW := Lib.hid (show W = Hin.fin n us i from by rw [List.drop_of_length_le (by omega)] at hW; exact hW.symm)
   clear hW hlt hi
   by_cases e1 : i = us.length
   rotate_left
   ·have hb : ((i : Int) == (us.length : Int)) = false := by rw [beq_eq_false_iff_ne]; omega
    have Hr := Lib.hid (HW.out.trans (by unfold Hin.fin; rw [decide_eq_false e1]; rfl : _ = false))
    clear e1
    go_wp2_with fail
    go_ret
    exact ⟨_, rfl, by rw [Hr.out]; rfl, hS.drop⟩
   ·rcases i with _ | k
    ·have hb : ((0 : Int) == (us.length : Int)) = true := by rw [beq_iff_eq]; omega
     have hbz : ¬ (0 : Int) < 0 := by decide
     (try have hsc0 := (show wr.cell? ⟨sb, so, none⟩ = some (.int .i64 s) from hsc))
     (try have c10 : (0 : Int) < (L.segs.length : Int) := c1)
     have Hr := Lib.hid (HW.out.trans (by unfold Hin.fin; rw [decide_eq_true e1]; rfl : _ = false))
     clear e1
     go_wp2_with fail
     go_ret
     exact ⟨_, rfl, by rw [Hr.out]; rfl, hS.drop⟩
    ·have hb : ((k : Int) + 1 == (us.length : Int)) = true := by rw [beq_iff_eq]; omega
     have ck : k < us.length := by omega
     have hck : (k : Int) < (us.length : Int) := by omega
     have hc0 : (0 : Int) < (k : Int) + 1 := by omega
     have hwk : IntKind.i64.wrap ((k : Int) + 1 - 1) = (k : Int) := by rw [Int.add_sub_cancel]; exact IntWalk.i64_in _ (by have := Hul.out; omega)
     have hwk2 : IntKind.i64.wrap (k : Int) = (k : Int) := IntWalk.i64_in _ (by have := Hul.out; omega)
     obtain ⟨u, hu⟩ : ∃ u, us[k]? = some u := ⟨_, List.getElem?_eq_getElem ck⟩
     have hgd : us.getD k ⟨0, 0, 0⟩ = u := by rw [List.getD_eq_getElem?_getD, hu]; rfl
     obtain ⟨bk, off, c', hsv, hcell⟩ := osl_row (f := uenc) (k := 3) (fun u _ => rfl) (Hr.out _ hS.drop.drop) hu dCz
     cases hsv
     have e0 := hcell 0 _ rfl
     rw [Nat.add_zero] at e0
     by_cases c2 : u.seg = n
     ·have Hr2 := Lib.hid (HW.out.trans (by unfold Hin.fin; rw [decide_eq_true e1, Nat.add_sub_cancel, hgd, decide_eq_true c2, decide_eq_true (Nat.succ_pos k)]; rfl : _ = true))
      have hb2 : (u.seg == n) = true := beq_iff_eq.2 c2
      clear e1 c2 hgd hu hcell ck
      go_wp2_with fail
      go_ret
      exact ⟨_, rfl, by rw [Hr2.out]; rfl, hS.drop⟩
     ·have Hr2 := Lib.hid (HW.out.trans (by unfold Hin.fin; rw [decide_eq_true e1, Nat.add_sub_cancel, hgd, decide_eq_false c2, decide_eq_true (Nat.succ_pos k)]; rfl : _ = false))
      have hb2 : (u.seg == n) = false := beq_eq_false_iff_ne.2 c2
      clear e1 c2 hgd hu hcell ck
      go_wp2_with fail
      go_ret
      exact ⟨_, rfl, by rw [Hr2.out]; rfl, hS.drop⟩
  have c1 : (i : Int) < (L.segs.length : Int) := by omega
  have hwi : IntKind.i64.wrap ((i : Int) + 1) = (i : Int) + 1 := IntWalk.i64_in _ (by have := Hsl.out; omega)
  obtain ⟨s, hs⟩ : ∃ s, L.segs[i]? = some s := ⟨_, List.getElem?_eq_getElem hlt⟩
  obtain ⟨sb, so, scc, hsv, hsc⟩ := ints_cell (Sat.rd hS) hs
  cases hsv
  have hstep := hfits_step (n := n) (sz := L.size) (us := us) hs
  rw [hW] at hstep
  have Hlt := Lib.hid hlt
  clear hW hs hlt hi
  by_cases cn : n < s
  ·as_aux_lemma =>
   have HW := Lib.hid (show W = Hin.fin n us i from by rw [if_pos cn] at hstep; exact hstep)
   clear hstep
   by_cases e1 : i = us.length
   rotate_left
   ·have hb : ((i : Int) == (us.length : Int)) = false := by rw [beq_eq_false_iff_ne]; omega
    have Hr := Lib.hid (HW.out.trans (by unfold Hin.fin; rw [decide_eq_false e1]; rfl : _ = false))
    clear e1
    go_wp2_with fail
    go_ret
    exact ⟨_, rfl, by rw [Hr.out]; rfl, hS.drop⟩
   ·rcases i with _ | k
    ·have hb : ((0 : Int) == (us.length : Int)) = true := by rw [beq_iff_eq]; omega
     have hbz : ¬ (0 : Int) < 0 := by decide
     (try have hsc0 := (show wr.cell? ⟨sb, so, none⟩ = some (.int .i64 s) from hsc))
     (try have c10 : (0 : Int) < (L.segs.length : Int) := c1)
     have Hr := Lib.hid (HW.out.trans (by unfold Hin.fin; rw [decide_eq_true e1]; rfl : _ = false))
     clear e1
     go_wp2_with fail
     go_ret
     exact ⟨_, rfl, by rw [Hr.out]; rfl, hS.drop⟩
    ·have hb : ((k : Int) + 1 == (us.length : Int)) = true := by rw [beq_iff_eq]; omega
     have ck : k < us.length := by omega
     have hck : (k : Int) < (us.length : Int) := by omega
     have hc0 : (0 : Int) < (k : Int) + 1 := by omega
     have hwk : IntKind.i64.wrap ((k : Int) + 1 - 1) = (k : Int) := by rw [Int.add_sub_cancel]; exact IntWalk.i64_in _ (by have := Hul.out; omega)
     have hwk2 : IntKind.i64.wrap (k : Int) = (k : Int) := IntWalk.i64_in _ (by have := Hul.out; omega)
     obtain ⟨u, hu⟩ : ∃ u, us[k]? = some u := ⟨_, List.getElem?_eq_getElem ck⟩
     have hgd : us.getD k ⟨0, 0, 0⟩ = u := by rw [List.getD_eq_getElem?_getD, hu]; rfl
     obtain ⟨bk, off, c', hsv, hcell⟩ := osl_row (f := uenc) (k := 3) (fun u _ => rfl) (Hr.out _ hS.drop.drop) hu dCz
     cases hsv
     have e0 := hcell 0 _ rfl
     rw [Nat.add_zero] at e0
     by_cases c2 : u.seg = n
     ·have Hr2 := Lib.hid (HW.out.trans (by unfold Hin.fin; rw [decide_eq_true e1, Nat.add_sub_cancel, hgd, decide_eq_true c2, decide_eq_true (Nat.succ_pos k)]; rfl : _ = true))
      have hb2 : (u.seg == n) = true := beq_iff_eq.2 c2
      clear e1 c2 hgd hu hcell ck
      go_wp2_with fail
      go_ret
      exact ⟨_, rfl, by rw [Hr2.out]; rfl, hS.drop⟩
     ·have Hr2 := Lib.hid (HW.out.trans (by unfold Hin.fin; rw [decide_eq_true e1, Nat.add_sub_cancel, hgd, decide_eq_false c2, decide_eq_true (Nat.succ_pos k)]; rfl : _ = false))
      have hb2 : (u.seg == n) = false := beq_eq_false_iff_ne.2 c2
      clear e1 c2 hgd hu hcell ck
      go_wp2_with fail
      go_ret
      exact ⟨_, rfl, by rw [Hr2.out]; rfl, hS.drop⟩
  rw [if_neg cn] at hstep
  by_cases hu : i < us.length
  rotate_left
  ·as_aux_lemma =>
   have Hr2 := Lib.hid (show W = false from by rw [List.getElem?_eq_none (by omega)] at hstep; exact hstep)
   have cu : (us.length : Int) ≤ (i : Int) := by omega
   have cuN : us.length ≤ i := by omega
   clear hstep hu
   go_wp2_with fail
   have hSd := hS.drew
   have hG : True := trivial
   refine wpL_begin [35, 36] (fun w' => True) kRz ?_
   refine rp 0 (hy := (yl_move evD)) (h := ?_)
   refine rp 1 (hy := (yl_move evD)) (h := ?_)
   refine rp 2 (hy := (yl_len evD rnD)) (h := ?_)
   refine rp 3 (hy := (yl_bin evD evD rnD)) (h := ?_)
   refine rp 4 (hy := (yl_move evD)) (h := ?_)
   refine rg_skip 5 evD kRz i3z rFz (by go_frame; first | done | rfl) ?_
   refine rg_skip 6 evD kRz i3z rFz (by go_frame; first | done | rfl) ?_
   refine rg_skip 7 evD kRz i3z rFz (by go_frame; first | done | rfl) ?_
   refine rg_skip 8 evD kRz i3z rFz (by go_frame; first | done | rfl) ?_
   refine rg_skip 9 evD kRz i3z rFz (by go_frame; first | done | rfl) ?_
   refine rg_skip 10 evD kRz i3z rFz (by go_frame; first | done | rfl) ?_
   refine rg_skip 11 evD kRz i3z rFz (by go_frame; first | done | rfl) ?_
   refine rp 12 (hy := (yg_pick rFz evD evD)) (h := ?_)
   refine rp 13 (hy := (yl_move evD)) (h := ?_)
   refine rg_skip 14 evD kRz i3z rFz (by go_frame; first | done | rfl) ?_
   refine rg_skip 15 evD kRz i3z rFz (by go_frame; first | done | rfl) ?_
   refine rg_skip 16 evD kRz i3z rFz (by go_frame; first | done | rfl) ?_
   refine rg_skip 17 evD kRz i3z rFz (by go_frame; first | done | rfl) ?_
   refine rg_skip 18 evD kRz i3z rFz (by go_frame; first | done | rfl) ?_
   refine rg_skip 19 evD kRz i3z rFz (by go_frame; first | done | rfl) ?_
   refine rg_skip 20 evD kRz i3z rFz (by go_frame; first | done | rfl) ?_
   refine rg_skip 21 evD kRz i3z rFz (by go_frame; first | done | rfl) ?_
   refine rg_skip 22 evD kRz i3z rFz (by go_frame; first | done | rfl) ?_
   refine rp 23 (hy := (yg_pick rFz evD evD)) (h := ?_)
   refine rp 24 (hy := (yl_move evD)) (h := ?_)
   refine rg_skip 25 evD kRz i3z rFz (by go_frame; first | done | rfl) ?_
   refine rg_skip 26 evD kRz i3z rFz (by go_frame; first | done | rfl) ?_
   refine rg_skip 27 evD kRz i3z rFz (by go_frame; first | done | rfl) ?_
   refine rg_skip 28 evD kRz i3z rFz (by go_frame; first | done | rfl) ?_
   refine rg_skip 29 evD kRz i3z rFz (by go_frame; first | done | rfl) ?_
   refine rg_skip 30 evD kRz i3z rFz (by go_frame; first | done | rfl) ?_
   refine rg_skip 31 evD kRz i3z rFz (by go_frame; first | done | rfl) ?_
   refine rg_skip 32 evD kRz i3z rFz (by go_frame; first | done | rfl) ?_
   refine rg_skip 33 evD kRz i3z rFz (by go_frame; first | done | rfl) ?_
   refine rg_skip 34 evD kRz i3z rFz (by go_frame; first | done | rfl) ?_
   refine rg_skip 35 evD kRz i3z rFz (by go_frame; first | done | rfl) ?_
   refine rp 36 (hy := (yg_pick rFz evD evD)) (h := ?_)
   refine wpL_done kRz ?_
   try simp only [List.getElem_toArray, List.getElem_cons_succ, List.getElem_cons_zero]
   try go_frame
   go_wp2_with fail
   go_ret
   exact ⟨_, rfl, by rw [Hr2.out]; rfl, hSd.drop⟩
  have cu : ¬ (us.length : Int) ≤ (i : Int) := by omega
  have cuN : ¬ us.length ≤ i := by omega
  have cuD : decide (us.length ≤ i) = false := decide_eq_false cuN
  have cuD2 : decide ((us.length : Int) ≤ (i : Int)) = false := decide_eq_false cu
  have cu2 : (i : Int) < (us.length : Int) := by omega
  obtain ⟨u, hx⟩ : ∃ u, us[i]? = some u := ⟨_, List.getElem?_eq_getElem hu⟩
  rw [hx] at hstep
  dsimp only at hstep
  obtain ⟨bk, off, c', hlv, hcell⟩ := osl_row (f := uenc) (k := 3) (fun u _ => rfl) (Hr.out _ hS.drop.drop) hx dCz
  cases hlv
  have HG := Lib.hid (fun (w' : World) (hw : Sat w0 w' (osl 3 1 (.slice (some ⟨sb, so, none⟩) L.segs.length sc) (ints L.segs) :: LogRep p m L :: F)) => show w'.cell? ⟨bk, off + i * 3, none⟩ = some (.int .i64 u.seg) ∧ w'.cell? ⟨bk, off + i * 3 + 1, none⟩ = some (.int .i64 u.size) ∧ w'.cell? ⟨bk, off + i * 3 + 2, none⟩ = some (.int .i64 u.live) from by
   obtain ⟨_, _, _, e, hc⟩ := osl_row (f := uenc) (k := 3) (fun u _ => rfl) (Hr.out _ hw.drop.drop) hx dCz
   cases e
   exact ⟨hc 0 _ rfl, hc 1 _ rfl, hc 2 _ rfl⟩)
  have hfu : Hin.fitU L.size s u = (decide (u.seg = s) && (decide (u.size = L.size s) && decide (u.live ≤ u.size))) := rfl
  clear hcell hx hu
  by_cases c2 : u.seg = s
  rotate_left
  ·as_aux_lemma =>
   have Hr2 := Lib.hid (show W = false from by rw [hfu, decide_eq_false c2] at hstep; exact hstep)
   have hb : (u.seg != s) = true := bne_iff_ne.2 c2
   clear hstep hfu c2
   go_wp2_with fail
   have hSd := hS.drew
   refine wpL_begin [35, 36] (fun w' => w'.cell? ⟨bk, off + i * 3, none⟩ = some (.int .i64 u.seg) ∧ w'.cell? ⟨bk, off + i * 3 + 1, none⟩ = some (.int .i64 u.size) ∧ w'.cell? ⟨bk, off + i * 3 + 2, none⟩ = some (.int .i64 u.live)) kRz ?_
   have hG := HG.out _ hSd
   refine rp 0 (hy := (yl_move evD)) (h := ?_)
   refine rp 1 (hy := (yl_move evD)) (h := ?_)
   refine rp 2 (hy := (yl_len evD rnD)) (h := ?_)
   refine rp 3 (hy := (yl_bin evD evD rnD)) (h := ?_)
   refine rp 4 (hy := (yl_move evD)) (h := ?_)
   refine rp 5 (hy := (yg_move rFz evD)) (h := ?_)
   refine rp 6 (hy := (yg_move rFz evD)) (h := ?_)
   refine rp 7 (hy := (yg_index rFz evD evD rnD)) (h := ?_)
   refine rp 8 (hy := (yg_field rFz evD rnD)) (h := ?_)
   refine rg_take 9 evD kRz i3z (tg_load rFz evD kRz (by intro wq hq; first | exact hq | exact hq.1 | exact hq.2 | exact hq.2.1 | exact hq.2.2 | exact hq.2.2.1 | exact hq.2.2.2 | exact hq.2.2.2.1 | exact hq.2.2.2.2)) (by assumption) (by go_frame; first | done | rfl) ?_
   refine rp 10 (hy := (yg_move rFz evD)) (h := ?_)
   refine rp 11 (hy := (yg_bin rFz evD evD rnD)) (h := ?_)
   refine rp 12 (hy := (yg_pick rFz evD evD)) (h := ?_)
   refine rp 13 (hy := (yl_move evD)) (h := ?_)
   refine rg_skip 14 evD kRz i3z rFz (by go_frame; first | done | rfl) ?_
   refine rg_skip 15 evD kRz i3z rFz (by go_frame; first | done | rfl) ?_
   refine rg_skip 16 evD kRz i3z rFz (by go_frame; first | done | rfl) ?_
   refine rg_skip 17 evD kRz i3z rFz (by go_frame; first | done | rfl) ?_
   refine rg_skip 18 evD kRz i3z rFz (by go_frame; first | done | rfl) ?_
   refine rg_skip 19 evD kRz i3z rFz (by go_frame; first | done | rfl) ?_
   refine rg_skip 20 evD kRz i3z rFz (by go_frame; first | done | rfl) ?_
   refine rg_skip 21 evD kRz i3z rFz (by go_frame; first | done | rfl) ?_
   refine rg_skip 22 evD kRz i3z rFz (by go_frame; first | done | rfl) ?_
   refine rp 23 (hy := (yg_pick rFz evD evD)) (h := ?_)
   refine rp 24 (hy := (yl_move evD)) (h := ?_)
   refine rg_skip 25 evD kRz i3z rFz (by go_frame; first | done | rfl) ?_
   refine rg_skip 26 evD kRz i3z rFz (by go_frame; first | done | rfl) ?_
   refine rg_skip 27 evD kRz i3z rFz (by go_frame; first | done | rfl) ?_
   refine rg_skip 28 evD kRz i3z rFz (by go_frame; first | done | rfl) ?_
   refine rg_skip 29 evD kRz i3z rFz (by go_frame; first | done | rfl) ?_
   refine rg_skip 30 evD kRz i3z rFz (by go_frame; first | done | rfl) ?_
   refine rg_skip 31 evD kRz i3z rFz (by go_frame; first | done | rfl) ?_
   refine rg_skip 32 evD kRz i3z rFz (by go_frame; first | done | rfl) ?_
   refine rg_skip 33 evD kRz i3z rFz (by go_frame; first | done | rfl) ?_
   refine rg_skip 34 evD kRz i3z rFz (by go_frame; first | done | rfl) ?_
   refine rg_skip 35 evD kRz i3z rFz (by go_frame; first | done | rfl) ?_
   clear hG
   refine rp 36 (hy := (yg_pick rFz evD evD)) (h := ?_)
   refine wpL_done kRz ?_
   try simp only [List.getElem_toArray, List.getElem_cons_succ, List.getElem_cons_zero]
   try go_frame
   go_wp2_with fail
   go_ret
   exact ⟨_, rfl, by rw [Hr2.out]; rfl, hSd.drop⟩
  have hb1 : (u.seg != s) = false := by rw [c2]; exact bne_self_eq_false ..
  rw [decide_eq_true c2, Bool.true_and] at hfu
  clear c2
  by_cases c3 : u.size = L.size s
  rotate_left
  ·as_aux_lemma =>
   have Hr2 := Lib.hid (show W = false from by rw [hfu, decide_eq_false c3] at hstep; exact hstep)
   have hb : (u.size != L.size s) = true := bne_iff_ne.2 c3
   clear hstep hfu c3
   go_wp2_with fail
   have hSd := hS.drew
   refine wpL_begin [35, 36] (fun w' => w'.cell? ⟨bk, off + i * 3, none⟩ = some (.int .i64 u.seg) ∧ w'.cell? ⟨bk, off + i * 3 + 1, none⟩ = some (.int .i64 u.size) ∧ w'.cell? ⟨bk, off + i * 3 + 2, none⟩ = some (.int .i64 u.live)) kRz ?_
   have hG := HG.out _ hSd
   refine rp 0 (hy := (yl_move evD)) (h := ?_)
   refine rp 1 (hy := (yl_move evD)) (h := ?_)
   refine rp 2 (hy := (yl_len evD rnD)) (h := ?_)
   refine rp 3 (hy := (yl_bin evD evD rnD)) (h := ?_)
   refine rp 4 (hy := (yl_move evD)) (h := ?_)
   refine rp 5 (hy := (yg_move rFz evD)) (h := ?_)
   refine rp 6 (hy := (yg_move rFz evD)) (h := ?_)
   refine rp 7 (hy := (yg_index rFz evD evD rnD)) (h := ?_)
   refine rp 8 (hy := (yg_field rFz evD rnD)) (h := ?_)
   refine rg_take 9 evD kRz i3z (tg_load rFz evD kRz (by intro wq hq; first | exact hq | exact hq.1 | exact hq.2 | exact hq.2.1 | exact hq.2.2 | exact hq.2.2.1 | exact hq.2.2.2 | exact hq.2.2.2.1 | exact hq.2.2.2.2)) (by assumption) (by go_frame; first | done | rfl) ?_
   refine rp 10 (hy := (yg_move rFz evD)) (h := ?_)
   refine rp 11 (hy := (yg_bin rFz evD evD rnD)) (h := ?_)
   refine rp 12 (hy := (yg_pick rFz evD evD)) (h := ?_)
   refine rp 13 (hy := (yl_move evD)) (h := ?_)
   refine rp 14 (hy := (yg_move rFz evD)) (h := ?_)
   refine rp 15 (hy := (yg_move rFz evD)) (h := ?_)
   refine rp 16 (hy := (yg_index rFz evD evD rnD)) (h := ?_)
   refine rp 17 (hy := (yg_field rFz evD rnD)) (h := ?_)
   refine rg_take 18 evD kRz i3z (tg_load rFz evD kRz (by intro wq hq; first | exact hq | exact hq.1 | exact hq.2 | exact hq.2.1 | exact hq.2.2 | exact hq.2.2.1 | exact hq.2.2.2 | exact hq.2.2.2.1 | exact hq.2.2.2.2)) (by assumption) (by go_frame; first | done | rfl) ?_
   refine rp 19 (hy := (yg_move rFz evD)) (h := ?_)
   refine rp 20 (hy := (yg_move rFz evD)) (h := ?_)
   refine rg_eff 21 evD kRz (fun K hK => ?_)
   refine eg_call [ptr p, .int .i64 s] rFz kRz rFz ?_
   refine (HLs.out _ _ (hSd.sb : Sat w0 _ (LogRep p m L :: osl 3 1 (.slice (some ⟨sb, so, none⟩) L.segs.length sc) (ints L.segs) :: F)) s).mono ?_
   rintro e w22 ⟨v, rfl, rfl, h22⟩
   have h23 : Sat w0 w22 (osl 3 1 (.slice (some ⟨sb, so, none⟩) L.segs.length sc) (ints L.segs) :: LogRep p m L :: F) := h22.sb
   refine hK _ _ (.inr (.inl (HG.out _ h23))) ?_
   clear hK hSd
   generalize L.size s = z at *
   refine rp 22 (hy := (yg_bin rFz evD evD rnD)) (h := ?_)
   refine rp 23 (hy := (yg_pick rFz evD evD)) (h := ?_)
   refine rp 24 (hy := (yl_move evD)) (h := ?_)
   refine rg_skip 25 evD kRz i3z rFz (by go_frame; first | done | rfl) ?_
   refine rg_skip 26 evD kRz i3z rFz (by go_frame; first | done | rfl) ?_
   refine rg_skip 27 evD kRz i3z rFz (by go_frame; first | done | rfl) ?_
   refine rg_skip 28 evD kRz i3z rFz (by go_frame; first | done | rfl) ?_
   refine rg_skip 29 evD kRz i3z rFz (by go_frame; first | done | rfl) ?_
   refine rg_skip 30 evD kRz i3z rFz (by go_frame; first | done | rfl) ?_
   refine rg_skip 31 evD kRz i3z rFz (by go_frame; first | done | rfl) ?_
   refine rg_skip 32 evD kRz i3z rFz (by go_frame; first | done | rfl) ?_
   refine rg_skip 33 evD kRz i3z rFz (by go_frame; first | done | rfl) ?_
   refine rg_skip 34 evD kRz i3z rFz (by go_frame; first | done | rfl) ?_
   refine rg_skip 35 evD kRz i3z rFz (by go_frame; first | done | rfl) ?_
   refine rp 36 (hy := (yg_pick rFz evD evD)) (h := ?_)
   refine wpL_done kRz ?_
   try simp only [List.getElem_toArray, List.getElem_cons_succ, List.getElem_cons_zero]
   try go_frame
   go_wp2_with fail
   go_ret
   exact ⟨_, rfl, by rw [Hr2.out]; rfl, h23.drop⟩
  have hb2 : (u.size != L.size s) = false := by rw [c3]; exact bne_self_eq_false ..
  rw [decide_eq_true c3, Bool.true_and] at hfu
  by_cases c4 : u.live ≤ u.size
  rotate_left
  ·as_aux_lemma =>
   have Hr2 := Lib.hid (show W = false from by rw [hfu, decide_eq_false c4] at hstep; exact hstep)
   have c5 : u.size < u.live := by omega
   clear hstep hfu c3 c4
   go_wp2_with fail
   have hSd := hS.drew
   refine wpL_begin [35, 36] (fun w' => w'.cell? ⟨bk, off + i * 3, none⟩ = some (.int .i64 u.seg) ∧ w'.cell? ⟨bk, off + i * 3 + 1, none⟩ = some (.int .i64 u.size) ∧ w'.cell? ⟨bk, off + i * 3 + 2, none⟩ = some (.int .i64 u.live)) kRz ?_
   have hG := HG.out _ hSd
   refine rp 0 (hy := (yl_move evD)) (h := ?_)
   refine rp 1 (hy := (yl_move evD)) (h := ?_)
   refine rp 2 (hy := (yl_len evD rnD)) (h := ?_)
   refine rp 3 (hy := (yl_bin evD evD rnD)) (h := ?_)
   refine rp 4 (hy := (yl_move evD)) (h := ?_)
   refine rp 5 (hy := (yg_move rFz evD)) (h := ?_)
   refine rp 6 (hy := (yg_move rFz evD)) (h := ?_)
   refine rp 7 (hy := (yg_index rFz evD evD rnD)) (h := ?_)
   refine rp 8 (hy := (yg_field rFz evD rnD)) (h := ?_)
   refine rg_take 9 evD kRz i3z (tg_load rFz evD kRz (by intro wq hq; first | exact hq | exact hq.1 | exact hq.2 | exact hq.2.1 | exact hq.2.2 | exact hq.2.2.1 | exact hq.2.2.2 | exact hq.2.2.2.1 | exact hq.2.2.2.2)) (by assumption) (by go_frame; first | done | rfl) ?_
   refine rp 10 (hy := (yg_move rFz evD)) (h := ?_)
   refine rp 11 (hy := (yg_bin rFz evD evD rnD)) (h := ?_)
   refine rp 12 (hy := (yg_pick rFz evD evD)) (h := ?_)
   refine rp 13 (hy := (yl_move evD)) (h := ?_)
   refine rp 14 (hy := (yg_move rFz evD)) (h := ?_)
   refine rp 15 (hy := (yg_move rFz evD)) (h := ?_)
   refine rp 16 (hy := (yg_index rFz evD evD rnD)) (h := ?_)
   refine rp 17 (hy := (yg_field rFz evD rnD)) (h := ?_)
   refine rg_take 18 evD kRz i3z (tg_load rFz evD kRz (by intro wq hq; first | exact hq | exact hq.1 | exact hq.2 | exact hq.2.1 | exact hq.2.2 | exact hq.2.2.1 | exact hq.2.2.2 | exact hq.2.2.2.1 | exact hq.2.2.2.2)) (by assumption) (by go_frame; first | done | rfl) ?_
   refine rp 19 (hy := (yg_move rFz evD)) (h := ?_)
   refine rp 20 (hy := (yg_move rFz evD)) (h := ?_)
   refine rg_eff 21 evD kRz (fun K hK => ?_)
   refine eg_call [ptr p, .int .i64 s] rFz kRz rFz ?_
   refine (HLs.out _ _ (hSd.sb : Sat w0 _ (LogRep p m L :: osl 3 1 (.slice (some ⟨sb, so, none⟩) L.segs.length sc) (ints L.segs) :: F)) s).mono ?_
   rintro e w22 ⟨v, rfl, rfl, h22⟩
   have h23 : Sat w0 w22 (osl 3 1 (.slice (some ⟨sb, so, none⟩) L.segs.length sc) (ints L.segs) :: LogRep p m L :: F) := h22.sb
   refine hK _ _ (.inr (.inl (HG.out _ h23))) ?_
   clear hK hSd
   generalize L.size s = z at *
   have hG2 := HG.out _ h23
   refine rp 22 (hy := (yg_bin rFz evD evD rnD)) (h := ?_)
   refine rp 23 (hy := (yg_pick rFz evD evD)) (h := ?_)
   refine rp 24 (hy := (yl_move evD)) (h := ?_)
   refine rp 25 (hy := (yg_move rFz evD)) (h := ?_)
   refine rp 26 (hy := (yg_move rFz evD)) (h := ?_)
   refine rp 27 (hy := (yg_index rFz evD evD rnD)) (h := ?_)
   refine rp 28 (hy := (yg_field rFz evD rnD)) (h := ?_)
   refine rg_take 29 evD kRz i3z (tg_load rFz evD kRz (by intro wq hq; first | exact hq | exact hq.1 | exact hq.2 | exact hq.2.1 | exact hq.2.2 | exact hq.2.2.1 | exact hq.2.2.2 | exact hq.2.2.2.1 | exact hq.2.2.2.2)) (by assumption) (by go_frame; first | done | rfl) ?_
   refine rp 30 (hy := (yg_move rFz evD)) (h := ?_)
   refine rp 31 (hy := (yg_move rFz evD)) (h := ?_)
   refine rp 32 (hy := (yg_index rFz evD evD rnD)) (h := ?_)
   refine rp 33 (hy := (yg_field rFz evD rnD)) (h := ?_)
   refine rg_take 34 evD kRz i3z (tg_load rFz evD kRz (by intro wq hq; first | exact hq | exact hq.1 | exact hq.2 | exact hq.2.1 | exact hq.2.2 | exact hq.2.2.1 | exact hq.2.2.2 | exact hq.2.2.2.1 | exact hq.2.2.2.2)) (by assumption) (by go_frame; first | done | rfl) ?_
   clear hG hG2
   refine rp 35 (hy := (yg_bin rFz evD evD rnD)) (h := ?_)
   refine rp 36 (hy := (yg_pick rFz evD evD)) (h := ?_)
   refine wpL_done kRz ?_
   try simp only [List.getElem_toArray, List.getElem_cons_succ, List.getElem_cons_zero]
   try go_frame
   go_wp2_with fail
   go_ret
   exact ⟨_, rfl, by rw [Hr2.out]; rfl, h23.drop⟩
  ·as_aux_lemma =>
   have HW := Lib.hid (show Hin.fitsL L.size n us (L.segs.drop (i + 1)) (i + 1) = W from by rw [hfu, decide_eq_true c4] at hstep; exact hstep.symm)
   have c5 : ¬ u.size < u.live := by omega
   clear hstep hfu c3 c4
   go_wp2_with fail
   have hSd := hS.drew
   refine wpL_begin [35, 36] (fun w' => w'.cell? ⟨bk, off + i * 3, none⟩ = some (.int .i64 u.seg) ∧ w'.cell? ⟨bk, off + i * 3 + 1, none⟩ = some (.int .i64 u.size) ∧ w'.cell? ⟨bk, off + i * 3 + 2, none⟩ = some (.int .i64 u.live)) kRz ?_
   have hG := HG.out _ hSd
   refine rp 0 (hy := (yl_move evD)) (h := ?_)
   refine rp 1 (hy := (yl_move evD)) (h := ?_)
   refine rp 2 (hy := (yl_len evD rnD)) (h := ?_)
   refine rp 3 (hy := (yl_bin evD evD rnD)) (h := ?_)
   refine rp 4 (hy := (yl_move evD)) (h := ?_)
   refine rp 5 (hy := (yg_move rFz evD)) (h := ?_)
   refine rp 6 (hy := (yg_move rFz evD)) (h := ?_)
   refine rp 7 (hy := (yg_index rFz evD evD rnD)) (h := ?_)
   refine rp 8 (hy := (yg_field rFz evD rnD)) (h := ?_)
   refine rg_take 9 evD kRz i3z (tg_load rFz evD kRz (by intro wq hq; first | exact hq | exact hq.1 | exact hq.2 | exact hq.2.1 | exact hq.2.2 | exact hq.2.2.1 | exact hq.2.2.2 | exact hq.2.2.2.1 | exact hq.2.2.2.2)) (by assumption) (by go_frame; first | done | rfl) ?_
   refine rp 10 (hy := (yg_move rFz evD)) (h := ?_)
   refine rp 11 (hy := (yg_bin rFz evD evD rnD)) (h := ?_)
   refine rp 12 (hy := (yg_pick rFz evD evD)) (h := ?_)
   refine rp 13 (hy := (yl_move evD)) (h := ?_)
   refine rp 14 (hy := (yg_move rFz evD)) (h := ?_)
   refine rp 15 (hy := (yg_move rFz evD)) (h := ?_)
   refine rp 16 (hy := (yg_index rFz evD evD rnD)) (h := ?_)
   refine rp 17 (hy := (yg_field rFz evD rnD)) (h := ?_)
   refine rg_take 18 evD kRz i3z (tg_load rFz evD kRz (by intro wq hq; first | exact hq | exact hq.1 | exact hq.2 | exact hq.2.1 | exact hq.2.2 | exact hq.2.2.1 | exact hq.2.2.2 | exact hq.2.2.2.1 | exact hq.2.2.2.2)) (by assumption) (by go_frame; first | done | rfl) ?_
   refine rp 19 (hy := (yg_move rFz evD)) (h := ?_)
   refine rp 20 (hy := (yg_move rFz evD)) (h := ?_)
   refine rg_eff 21 evD kRz (fun K hK => ?_)
   refine eg_call [ptr p, .int .i64 s] rFz kRz rFz ?_
   refine (HLs.out _ _ (hSd.sb : Sat w0 _ (LogRep p m L :: osl 3 1 (.slice (some ⟨sb, so, none⟩) L.segs.length sc) (ints L.segs) :: F)) s).mono ?_
   rintro e w22 ⟨v, rfl, rfl, h22⟩
   have h23 : Sat w0 w22 (osl 3 1 (.slice (some ⟨sb, so, none⟩) L.segs.length sc) (ints L.segs) :: LogRep p m L :: F) := h22.sb
   refine hK _ _ (.inr (.inl (HG.out _ h23))) ?_
   clear hK hSd
   have hG2 := HG.out _ h23
   refine rp 22 (hy := (yg_bin rFz evD evD rnD)) (h := ?_)
   refine rp 23 (hy := (yg_pick rFz evD evD)) (h := ?_)
   refine rp 24 (hy := (yl_move evD)) (h := ?_)
   refine rp 25 (hy := (yg_move rFz evD)) (h := ?_)
   refine rp 26 (hy := (yg_move rFz evD)) (h := ?_)
   refine rp 27 (hy := (yg_index rFz evD evD rnD)) (h := ?_)
   refine rp 28 (hy := (yg_field rFz evD rnD)) (h := ?_)
   refine rg_take 29 evD kRz i3z (tg_load rFz evD kRz (by intro wq hq; first | exact hq | exact hq.1 | exact hq.2 | exact hq.2.1 | exact hq.2.2 | exact hq.2.2.1 | exact hq.2.2.2 | exact hq.2.2.2.1 | exact hq.2.2.2.2)) (by assumption) (by go_frame; first | done | rfl) ?_
   refine rp 30 (hy := (yg_move rFz evD)) (h := ?_)
   refine rp 31 (hy := (yg_move rFz evD)) (h := ?_)
   refine rp 32 (hy := (yg_index rFz evD evD rnD)) (h := ?_)
   refine rp 33 (hy := (yg_field rFz evD rnD)) (h := ?_)
   refine rg_take 34 evD kRz i3z (tg_load rFz evD kRz (by intro wq hq; first | exact hq | exact hq.1 | exact hq.2 | exact hq.2.1 | exact hq.2.2 | exact hq.2.2.1 | exact hq.2.2.2 | exact hq.2.2.2.1 | exact hq.2.2.2.2)) (by assumption) (by go_frame; first | done | rfl) ?_
   clear hG hG2
   refine rp 35 (hy := (yg_bin rFz evD evD rnD)) (h := ?_)
   refine rp 36 (hy := (yg_pick rFz evD evD)) (h := ?_)
   refine wpL_done kRz ?_
   try simp only [List.getElem_toArray, List.getElem_cons_succ, List.getElem_cons_zero]
   try go_frame
   go_wp2_with fail
   go_roundg (L.segs.length - (i + 1))
   case measure => have := Hlt.out; omega
   case rel => exact ⟨i + 1, rfl, Nat.succ_le_of_lt Hlt.out, by first | rfl | go_num, by first | rfl | go_num, HW.out, h23⟩
end
section
variable {w0 w : World} {F : List HProp} {m K p : Nat} {M : Med} {L : Seg.Log} {n : Int}
set_option maxRecDepth 20000 in
theorem hloadN_c (hM : M.Ok K) (hz : M.size ByteArray.empty = (0, 9)) (ht : Hin.there M (Hin.name Hin.idx n) = false ∨ Hin.there M (Hin.name Hin.use n) = false) (h : Sat w0 w (MedRep m M :: F)) :
  Calls Tryz.prog 16 #[ptr p, ptr m, .int .i64 n] w (Rtn fun v w' => v = .tuple #[.pointer none, errno 9] ∧ Sat w0 w' (MedRep m M :: F)) := by
 have hsz := size_c hM h ByteArray.empty
 rw [hz] at hsz
 have HM := Lib.hid hM; have Ht := Lib.hid ht
 clear hM hz ht
 go_enter Tryz.func16, Tryz.ntmps16
 go_wp2_with fail
 refine hsz.mono ?_
 rintro e w1 ⟨v, rfl, rfl, rfl⟩
 clear hsz
 go_wp2_with fail
 refine (iname_c n h).mono ?_
 rintro e w2 ⟨v, rfl, rfl, h2⟩
 clear h
 have hth := hthere_c HM.out (Hin.name Hin.idx n) h2
 cases ht : Hin.there M (Hin.name Hin.idx n) with
 | false =>
  rw [ht] at hth
  clear ht
  go_wp2_with fail
  refine hth.mono ?_
  rintro e w3 ⟨v, rfl, rfl, rfl⟩
  clear hth
  go_wp2_with fail
  go_ret2
  exact ⟨_, rfl, rfl, h2⟩
 | true =>
  rw [ht] at hth
  have Ht2 := Lib.hid (Ht.out.resolve_left (by rw [ht]; decide))
  clear ht
  go_wp2_with fail
  refine hth.mono ?_
  rintro e w3 ⟨v, rfl, rfl, rfl⟩
  clear hth
  go_wp2_with fail
  refine (uname_c n h2).mono ?_
  rintro e w4 ⟨v, rfl, rfl, h4⟩
  have hth2 := hthere_c HM.out (Hin.name Hin.use n) h4
  rw [Ht2.out] at hth2
  go_wp2_with fail
  refine hth2.mono ?_
  rintro e w5 ⟨v, rfl, rfl, rfl⟩
  go_wp2_with fail
  go_ret2
  exact ⟨_, rfl, rfl, h4⟩
set_option maxRecDepth 20000 in
theorem hloadF_c (hL : L.Ok) (hM : M.Ok K) (hz : M.size ByteArray.empty = (0, 9)) (ht1 : Hin.there M (Hin.name Hin.idx n) = true) (ht2 : Hin.there M (Hin.name Hin.use n) = true)
  (kv : List (Frm.Bs × Seg.Plc)) (hk : ∀ q ∈ kv, q.1.length = 32) (us : List Rep.Use) (hoi : Bok.Ok 3 true (kv.map Rep.idxRw)) (hou : Bok.Ok 3 false (us.map Rep.useRw))
  (ha1 : M.all (Hin.name Hin.idx n) = (Bok.book Xx.sum Bok.mgIdx true (kv.map Rep.idxRw), 0)) (ha2 : M.all (Hin.name Hin.use n) = (Bok.book Xx.sum Bok.mgUse false (us.map Rep.useRw), 0))
  (hf : Hin.fits L us n = false) (h : Sat w0 w (LogRep p m L :: MedRep m M :: F)) :
  Calls Tryz.prog 16 #[ptr p, ptr m, .int .i64 n] w (Rtn fun v w' => v = .tuple #[.pointer none, errno 4] ∧ Sat w0 w' (LogRep p m L :: MedRep m M :: F)) := by
 have h0 : Sat w0 w (MedRep m M :: LogRep p m L :: F) := h.sb
 have hsz := size_c hM h0 ByteArray.empty
 rw [hz] at hsz
 have hul : us.length ≤ 1073741824 := by have := hou.len; rw [List.length_map] at this; omega
 have HM := Lib.hid hM; have Ht1 := Lib.hid ht1; have Ht2 := Lib.hid ht2; have HL := Lib.hid hL; have Hk := Lib.hid hk; have Hoi := Lib.hid hoi; have Hou := Lib.hid hou; have Ha1 := Lib.hid ha1; have Ha2 := Lib.hid ha2; have Hf := Lib.hid hf; have Hul := Lib.hid hul
 clear hM hz ht1 ht2 hL hk hoi hou ha1 ha2 hf hul h
 go_enter Tryz.func16, Tryz.ntmps16
 go_wp2_with fail
 refine hsz.mono ?_
 rintro e w1 ⟨v, rfl, rfl, rfl⟩
 clear hsz
 go_wp2_with fail
 refine (iname_c n h0).mono ?_
 rintro e w2 ⟨v, rfl, rfl, h2⟩
 clear h0
 have hth := hthere_c HM.out (Hin.name Hin.idx n) h2
 rw [Ht1.out] at hth
 go_wp2_with fail
 refine hth.mono ?_
 rintro e w3 ⟨v, rfl, rfl, rfl⟩
 clear hth
 go_wp2_with fail
 refine (uname_c n h2).mono ?_
 rintro e w4 ⟨v, rfl, rfl, h4⟩
 clear h2
 have hth2 := hthere_c HM.out (Hin.name Hin.use n) h4
 rw [Ht2.out] at hth2
 go_wp2_with fail
 refine hth2.mono ?_
 rintro e w5 ⟨v, rfl, rfl, rfl⟩
 clear hth2
 go_wp2_with fail
 refine (iname_c n h4).mono ?_
 rintro e w6 ⟨v, rfl, rfl, h6⟩
 clear h4
 have ha := all_c HM.out h6 (Hin.name Hin.idx n)
 rw [Ha1.out] at ha
 go_wp2_with fail
 refine ha.mono ?_
 rintro e w7 ⟨v, rfl, bv, rfl, h7⟩
 clear ha h6
 go_wp2_with fail
 refine (uname_c n h7).mono ?_
 rintro e w8 ⟨v, rfl, rfl, h8⟩
 clear h7
 have h8' : Sat w0 w8 (MedRep m M :: bsl bv (Bok.book Xx.sum Bok.mgIdx true (kv.map Rep.idxRw)) :: LogRep p m L :: F) := h8.sb
 have hb := all_c HM.out h8' (Hin.name Hin.use n)
 rw [Ha2.out] at hb
 clear h8
 go_wp2_with fail
 refine hb.mono ?_
 rintro e w9 ⟨v, rfl, cv, rfl, h9⟩
 clear hb h8'
 have h9' : Sat w0 w9 (bsl bv (Bok.book Xx.sum Bok.mgIdx true (kv.map Rep.idxRw)) :: bsl cv (Bok.book Xx.sum Bok.mgUse false (us.map Rep.useRw)) :: MedRep m M :: LogRep p m L :: F) := h9.sb
 clear h9
 have hri := RS.of_bsl h9'
 obtain ⟨ba, bn, bc, rfl, _, _⟩ := hri.cap
 go_wp2_with fail
 refine (breadI_c kv Hk.out Hoi.out hri h9').mono ?_
 rintro e w10 ⟨v, rfl, iv, rfl, h10⟩
 clear h9' hri
 have h10' : Sat w0 w10 (bsl cv (Bok.book Xx.sum Bok.mgUse false (us.map Rep.useRw)) :: osl 149 35 iv (kv.flatMap kvL) :: MedRep m M :: LogRep p m L :: F) := h10.sb
 clear h10
 have hru := RS.of_bsl h10'
 obtain ⟨ca, cn, cc, rfl, _, _⟩ := hru.cap
 go_wp2_with fail
 refine (breadU_c us Hou.out hru h10').mono ?_
 rintro e w11 ⟨v, rfl, uv, rfl, h11⟩
 clear h10' hru
 have h12 : Sat w0 w11 (LogRep p m L :: osl 121 3 uv (us.flatMap uenc) :: MedRep m M :: F) := h11.sb
 clear h11
 go_wp2_with fail
 have hft := hfits_c (n := n) us Hul.out HL.out (fun w hw => Sat.rd hw) h12
 rw [Hf.out] at hft
 refine hft.mono ?_
 rintro e w13 ⟨v, rfl, rfl, h13⟩
 clear hft h12
 go_wp2_with fail
 go_ret2
 exact ⟨_, rfl, rfl, h13.sb⟩
end
end Go.Proofs.YtlinnpehkfbnkaaGreatDoor
