import Derived.Test.YtmjldaedhmipkaaGreatDoorJ1
import Derived.Sort.OwnSorted
import Derived.Laws.BitsAllLaws
import Derived.Laws.Strings
import Derived.Deep.Slices
import Derived.WalkKit
import Derived.ProofKit
import Derived.OpenShut
import Derived.ShutString
import Derived.ChangeOld
import Derived.Below
import Derived.ChangeKeysEq
import Derived.Laws.Rows
import Derived.Laws.OwnMore
import Derived.Laws.CopyOwn
import Derived.Lib.SlBytesConst
import Derived.Laws.IdiomStrings
import Derived.Deep.MidRow
set_option linter.unusedVariables false
namespace Go.Med
structure Fil.Ok (K : Nat) (f : Fil) : Prop where
  now : f.now = f.at f.waits.length
  cuts : ∀ k c, f.waits[k]? = some c → c.cut = true → c.n ≤ (f.at k).length
  size : ∀ k, k ≤ f.waits.length → (f.at k).length ≤ 16777216
  budget : f.waits.length ≤ K
theorem Fil.at_do (f : Fil) (c : Chg) (k : Nat) (h : k ≤ f.waits.length) : (f.do c).at k = f.at k := by
  unfold Fil.at Fil.do
  simp only
  rw [List.take_append_of_le_length h]
theorem Fil.at_succ (f : Fil) (k : Nat) (c : Chg) (h : f.waits[k]? = some c) : f.at (k + 1) = c.on (f.at k) := by
  unfold Fil.at
  obtain ⟨hlt, rfl⟩ := List.getElem?_eq_some_iff.1 h
  rw [List.take_succ_eq_append_getElem hlt, List.foldl_append]
  rfl
theorem Fil.at_do_last (f : Fil) (c : Chg) (hn : f.now = f.at f.waits.length) : (f.do c).at (f.waits.length + 1) = c.on f.now := by
  rw [Fil.at_succ _ _ c (by simp [Fil.do]), Fil.at_do _ _ _ (Nat.le_refl _), hn]
theorem Fil.Ok.now_len {K : Nat} {f : Fil} (h : f.Ok K) : f.now.length ≤ 16777216 := by
  rw [h.now]; exact h.size _ (Nat.le_refl _)
theorem Fil.Ok.mono {K K' : Nat} {f : Fil} (h : f.Ok K) (hk : K ≤ K') : f.Ok K' := ⟨h.now, h.cuts, h.size, Nat.le_trans h.budget hk⟩
theorem Fil.Ok.new (K : Nat) : Fil.new.Ok K := ⟨rfl, by simp [Fil.new], by simp [Fil.new, Fil.at], by simp [Fil.new]⟩
theorem Fil.Ok.do {K : Nat} {f : Fil} (h : f.Ok K) (c : Chg) (h1 : c.cut = true → c.n ≤ f.now.length) (h2 : c.cut = false → f.now.length + c.b.length ≤ 16777216) : (f.do c).Ok (K + 1) := by
  have hw : (f.do c).waits.length = f.waits.length + 1 := by simp [Fil.do]
  refine ⟨?_, ?_, ?_, by rw [hw]; exact Nat.succ_le_succ h.budget⟩
  · rw [hw, f.at_do_last c h.now]; rfl
  · intro k c' hk hc
    simp only [Fil.do] at hk
    rcases Nat.lt_trichotomy k f.waits.length with hlt | rfl | hgt
    · rw [List.getElem?_append_left hlt] at hk
      rw [f.at_do c k (Nat.le_of_lt hlt)]
      exact h.cuts k c' hk hc
    · rw [List.getElem?_append_right (Nat.le_refl _), Nat.sub_self] at hk
      simp at hk; subst hk
      rw [f.at_do c _ (Nat.le_refl _), ← h.now]; exact h1 hc
    · rw [List.getElem?_append_right (Nat.le_of_lt hgt)] at hk
      have : k - f.waits.length ≠ 0 := by omega
      obtain ⟨j, hj⟩ : ∃ j, k - f.waits.length = j + 1 := ⟨k - f.waits.length - 1, by omega⟩
      rw [hj] at hk; simp at hk
  · intro k hk
    rw [hw] at hk
    rcases Nat.lt_or_ge k (f.waits.length + 1) with hlt | hge
    · rw [f.at_do c k (by omega)]; exact h.size k (by omega)
    · obtain rfl : k = f.waits.length + 1 := by omega
      rw [f.at_do_last c h.now]
      unfold Chg.on
      cases hc : c.cut
      · simpa using h2 hc
      · simp; have := h.now_len; omega
theorem Fil.Ok.sync {K : Nat} {f : Fil} (h : f.Ok K) : f.sync.Ok K :=
  ⟨rfl, by simp [Fil.sync], (by simp only [Fil.sync, Fil.at]; intro k _; simpa using h.now_len), by simp [Fil.sync]⟩
theorem Fil.Ok.flat (K : Nat) (b : Bs) (h : b.length ≤ 16777216) : (⟨b, b, []⟩ : Fil).Ok K := ⟨rfl, by simp, by intro k _; simpa [Fil.at] using h, by simp⟩
theorem clampN_le (x : Int) (n : Nat) : clampN x n ≤ n := Nat.min_le_right _ _
theorem Fil.left_len {K : Nat} {f : Fil} (h : f.Ok K) (a b : Int) : (f.left a b).length ≤ 16777216 := by
  unfold Fil.left
  have hk := clampN_le a f.waits.length
  generalize clampN a f.waits.length = k at *
  simp only
  cases hc : f.waits[k]? with
  | none => exact h.size k hk
  | some c =>
    simp only
    split
    · exact h.size k hk
    · rename_i hcut
      have hlt := (List.getElem?_eq_some_iff.1 hc).1
      have := h.size (k + 1) hlt
      rw [f.at_succ k c hc] at this
      unfold Chg.on at this
      rw [if_neg hcut] at this
      simp at this ⊢
      have : min (clampN b c.b.length) c.b.length ≤ c.b.length := Nat.min_le_right _ _
      omega
theorem Fil.Ok.crash {K : Nat} {f : Fil} (h : f.Ok K) (a b : Int) : (f.crash a b).Ok K := Fil.Ok.flat K _ (f.left_len h a b)

def Srt (l : Names) : Prop := l.Pairwise fun a b => lt a.1 b.1 = true
theorem lt_trans {a b c : ByteArray} (h : lt a b = true) (k : lt b c = true) : lt a c = true := by
  simp only [lt, decide_eq_true_eq] at *; exact List.lt_trans h k
theorem lt_irrefl (a : ByteArray) : lt a a = false := by simp [lt, List.lt_irrefl]
theorem lt_or {a b : ByteArray} (h : a ≠ b) : lt a b = true ∨ lt b a = true := by
  simp only [lt, decide_eq_true_eq]
  by_cases h1 : a.data.toList < b.data.toList
  · exact .inl h1
  · right
    have h2 : b.data.toList ≤ a.data.toList := List.not_lt.1 h1
    rcases List.le_iff_lt_or_eq.1 h2 with h3 | h3
    · exact h3
    · exfalso; apply h
      obtain ⟨⟨x⟩⟩ := a; obtain ⟨⟨y⟩⟩ := b
      simp at h3; subst h3; rfl
theorem Srt.keys {l : Names} (h : Srt l) : (l.map (·.1)).Nodup := by
  rw [List.nodup_iff_pairwise_ne, List.pairwise_map]
  refine h.imp fun {a b} hab e => ?_
  rw [e, lt_irrefl] at hab; cases hab
theorem Srt.del {l : Names} (h : Srt l) (s : ByteArray) : Srt (ndel l s) := h.sublist List.filter_sublist
theorem Srt.ins : ∀ {l : Names}, Srt l → ∀ {s : ByteArray} (i : Nat), (∀ p ∈ l, p.1 ≠ s) → Srt (nins l s i)
  | [], _, _, _, _ => List.pairwise_singleton _ _
  | p :: l, h, s, i, hs => by
    unfold nins
    obtain ⟨h1, h2⟩ := List.pairwise_cons.1 h
    split
    · rename_i hlt
      refine List.pairwise_cons.2 ⟨fun q hq => ?_, h⟩
      rcases List.mem_cons.1 hq with rfl | hq
      · exact hlt
      · exact lt_trans hlt (h1 q hq)
    · rename_i hlt
      have hps : lt p.1 s = true := (lt_or (hs p (.head _))).resolve_right (by simpa using hlt)
      refine List.pairwise_cons.2 ⟨fun q hq => ?_, Srt.ins h2 i (fun q hq => hs q (.tail _ hq))⟩
      have := (nins_perm l s i).mem_iff.1 hq
      rcases List.mem_cons.1 this with rfl | hq
      · exact hps
      · exact h1 q hq
theorem Srt.put {l : Names} (h : Srt l) (s : ByteArray) (i : Nat) : Srt (nput l s i) := (h.del s).ins i (ndel_keys l s)
structure NOk (n : Nat) (l : Names) : Prop where
  srt : Srt l
  len : l.length ≤ 500
  ids : ∀ p ∈ l, p.2 < n
  ne : ∀ p ∈ l, p.1 ≠ ByteArray.empty
theorem NOk.mono {n n' : Nat} {l : Names} (h : NOk n l) (hn : n ≤ n') : NOk n' l := ⟨h.srt, h.len, fun p hp => Nat.lt_of_lt_of_le (h.ids p hp) hn, h.ne⟩
theorem ndel_len (l : Names) (s : ByteArray) : (ndel l s).length ≤ l.length := List.length_filter_le _ _
theorem NOk.del {n : Nat} {l : Names} (h : NOk n l) (s : ByteArray) : NOk n (ndel l s) :=
  ⟨h.srt.del s, Nat.le_trans (ndel_len l s) h.len, fun p hp => h.ids p (List.mem_filter.1 hp).1, fun p hp => h.ne p (List.mem_filter.1 hp).1⟩
theorem nput_len (l : Names) (s : ByteArray) (i : Nat) : (nput l s i).length = (ndel l s).length + 1 := (nput_perm l s i).length_eq
theorem NOk.put {n : Nat} {l : Names} (h : NOk n l) (s : ByteArray) (i : Nat) (hi : i < n) (hl : (ndel l s).length < 500) (hs : s ≠ ByteArray.empty) : NOk n (nput l s i) := by
  refine ⟨h.srt.put s i, by rw [nput_len]; omega, fun p hp => ?_, fun p hp => ?_⟩
  rotate_left
  · rcases List.mem_cons.1 ((nput_perm l s i).mem_iff.1 hp) with rfl | hp
    · exact hs
    · exact h.ne p (List.mem_filter.1 hp).1
  rcases List.mem_cons.1 ((nput_perm l s i).mem_iff.1 hp) with rfl | hp
  · exact hi
  · exact h.ids p (List.mem_filter.1 hp).1
theorem ndel_lt {l : Names} (hs : Srt l) {s : ByteArray} {i : Nat} (h : nget l s = some i) : (ndel l s).length + 1 = l.length := by
  have := (ndel_perm hs.keys (nget_mem h)).length_eq
  simp at this; omega

structure Med.Ok (K : Nat) (m : Med) : Prop where
  room : m.room ≤ 16777216
  left : m.left ≤ 9223372036854775807
  links : ∀ x ∈ m.waits, x.to ≠ ByteArray.empty → x.f < m.files.length
  names : ∀ k, k ≤ m.waits.length → NOk m.files.length (m.lastNames k)
  now : m.now = m.lastNames m.waits.length
  files : ∀ f ∈ m.files, f.Ok K
  budget : m.waits.length ≤ K
theorem Med.Ok.nowOk {K : Nat} {m : Med} (h : m.Ok K) : NOk m.files.length m.now := by rw [h.now]; exact h.names _ (Nat.le_refl _)
theorem Med.Ok.fastOk {K : Nat} {m : Med} (h : m.Ok K) : NOk m.files.length m.fast := h.names 0 (Nat.zero_le _)
theorem Med.Ok.file {K : Nat} {m : Med} (h : m.Ok K) (i : Nat) : (m.file i).Ok K := by
  unfold Med.file
  rcases Nat.lt_or_ge i m.files.length with hi | hi
  · rw [List.getD_eq_getElem?_getD, List.getElem?_eq_getElem hi]; exact h.files _ (List.getElem_mem hi)
  · rw [List.getD_eq_getElem?_getD, List.getElem?_eq_none hi]; exact Fil.Ok.new K
theorem Med.Ok.mono {K K' : Nat} {m : Med} (h : m.Ok K) (hk : K ≤ K') : m.Ok K' :=
  ⟨h.room, h.left, h.links, h.names, h.now, fun f hf => (h.files f hf).mono hk, Nat.le_trans h.budget hk⟩
theorem Med.Ok.new (K room : Nat) (h : room ≤ 16777216) : (new room).Ok K :=
  ⟨h, by simp [Med.new], by simp [Med.new], (by intro k _; simp [Med.new, Med.lastNames]; exact ⟨List.Pairwise.nil, by simp, by simp, by simp⟩), by simp [Med.new, Med.lastNames], by simp [Med.new], by simp [Med.new]⟩
theorem Med.Ok.step {K : Nat} {m : Med} (h : m.Ok K) : m.step.1.Ok K := by
  unfold Med.step
  split
  · split
    · exact ⟨h.room, h.left, h.links, h.names, h.now, h.files, h.budget⟩
    · exact ⟨h.room, Nat.le_trans (Nat.sub_le _ _) h.left, h.links, h.names, h.now, h.files, h.budget⟩
  · exact h
theorem Med.step_same (m : Med) : m.step.1.room = m.room ∧ m.step.1.fast = m.fast ∧ m.step.1.now = m.now ∧ m.step.1.files = m.files ∧ m.step.1.waits = m.waits := by
  unfold Med.step
  split
  · split <;> exact ⟨rfl, rfl, rfl, rfl, rfl⟩
  · exact ⟨rfl, rfl, rfl, rfl, rfl⟩
theorem Med.lastNames_link (m : Med) (x : Lnk) (k : Nat) (h : k ≤ m.waits.length) : (m.link x).lastNames k = m.lastNames k := by
  unfold Med.lastNames Med.link
  simp only
  rw [List.take_append_of_le_length h]
theorem Med.lastNames_last (m : Med) (x : Lnk) (h : m.now = m.lastNames m.waits.length) : (m.link x).lastNames (m.waits.length + 1) = x.on m.now := by
  rw [h]
  unfold Med.lastNames Med.link
  simp only
  rw [List.take_of_length_le (by simp), List.take_of_length_le (Nat.le_refl _), List.foldl_append]
  rfl
theorem Med.Ok.link {K : Nat} {m : Med} (h : m.Ok K) (x : Lnk) (hf : x.to ≠ ByteArray.empty → x.f < m.files.length) (hn : NOk m.files.length (x.on m.now)) : (m.link x).Ok (K + 1) := by
  have hw : (m.link x).waits.length = m.waits.length + 1 := by simp [Med.link]
  refine ⟨h.room, h.left, ?_, ?_, ?_, fun f hf => (h.files f hf).mono (Nat.le_succ _), by rw [hw]; exact Nat.succ_le_succ h.budget⟩
  · intro y hy
    simp only [Med.link, List.mem_append, List.mem_singleton] at hy
    rcases hy with hy | rfl
    · exact h.links y hy
    · exact hf
  · intro k hk
    rw [hw] at hk
    rcases Nat.lt_or_ge k (m.waits.length + 1) with hlt | hge
    · rw [m.lastNames_link x k (by omega)]; exact h.names k (by omega)
    · obtain rfl : k = m.waits.length + 1 := by omega
      rw [m.lastNames_last x h.now]; exact hn
  · rw [hw, m.lastNames_last x h.now]; rfl
theorem Med.Ok.setFile {K : Nat} {m : Med} (h : m.Ok K) (i : Nat) (f : Fil) (hf : f.Ok (K + 1)) : (m.setFile i f).Ok (K + 1) := by
  have hl : (m.setFile i f).files.length = m.files.length := by simp [Med.setFile]
  refine ⟨h.room, h.left, (by rw [hl]; exact h.links), (by rw [hl]; exact h.names), h.now, ?_, Nat.le_succ_of_le h.budget⟩
  intro g hg
  rcases List.mem_or_eq_of_mem_set hg with hg | rfl
  · exact (h.files g hg).mono (Nat.le_succ _)
  · exact hf
theorem Med.Ok.newFile {K : Nat} {m : Med} (h : m.Ok K) : ({ m with files := m.files ++ [Fil.new] } : Med).Ok K := by
  have hl : (m.files ++ [Fil.new]).length = m.files.length + 1 := by simp
  refine ⟨h.room, h.left, fun x hx ht => (by have := h.links x hx ht; simp only [hl]; omega), fun k hk => (h.names k hk).mono (by simp), h.now, ?_, h.budget⟩
  intro f hf
  rcases List.mem_append.1 hf with hf | hf
  · exact h.files f hf
  · rw [List.mem_singleton.1 hf]; exact Fil.Ok.new K
theorem good_ne {s : ByteArray} (h : good s = true) : s ≠ ByteArray.empty := by
  intro e; subst e; simp [good] at h
theorem Med.Ok.create {K : Nat} {m : Med} (h : m.Ok K) (s : ByteArray) : (m.create s).1.Ok (K + 1) := by
  unfold Med.create
  have h' := h.mono (Nat.le_succ K)
  split; · exact h'
  split; · exact h'
  rename_i hg
  split; · exact h'
  rename_i hn
  split; · exact h'
  rename_i hl
  split; · exact h'.step
  have hst := h.step
  obtain ⟨e1, e2, e3, e4, e5⟩ := m.step_same
  have hg' : good s = true := by simpa using hg
  have hn' : nget m.now s = none := by simpa using hn
  have h1 := hst.newFile
  rw [e4] at h1
  refine h1.link _ (fun _ => by simp) ?_
  show NOk _ (Lnk.on _ m.step.1.now)
  rw [e3]
  unfold Lnk.on
  simp only [if_true, if_neg (good_ne hg')]
  exact (h.nowOk.mono (by simp)).put s _ (by simp) (by rw [ndel_none hn']; omega) (good_ne hg')
theorem le_sum : ∀ (l : List Nat) (n : Nat), n ∈ l → n ≤ l.sum
  | [], _, h => by cases h
  | x :: l, n, h => by
    rcases List.mem_cons.1 h with rfl | h
    · simp
    · have := le_sum l n h; simp; omega
theorem Med.Ok.append {K : Nat} {m : Med} (h : m.Ok K) (s : ByteArray) (b : Bs) : (m.append s b).1.Ok (K + 1) := by
  unfold Med.append
  have h' := h.mono (Nat.le_succ K)
  split; · exact h'
  split; · exact h'
  rename_i i hi
  split; · exact h'
  rename_i hroom
  split; · exact h'.step
  refine h.step.setFile _ _ ((h.file i).do _ (by simp) ?_)
  intro _
  have hu : (m.file i).now.length ≤ m.used := by
    unfold Med.used
    have : (s, i) ∈ m.now := nget_mem hi
    exact le_sum _ _ (List.mem_map.2 ⟨(s, i), this, rfl⟩)
  have := h.room
  simp only
  omega
theorem Med.Ok.truncate {K : Nat} {m : Med} (h : m.Ok K) (s : ByteArray) (n : Int) : (m.truncate s n).1.Ok (K + 1) := by
  unfold Med.truncate
  have h' := h.mono (Nat.le_succ K)
  split; · exact h'
  split; · exact h'
  rename_i i hi
  split; · exact h'
  rename_i hn
  split; · exact h'.step
  exact h.step.setFile _ _ ((h.file i).do _ (by intro _; simp only; omega) (by simp))
theorem Med.Ok.rename {K : Nat} {m : Med} (h : m.Ok K) (s t : ByteArray) : (m.rename s t).1.Ok (K + 1) := by
  unfold Med.rename
  have h' := h.mono (Nat.le_succ K)
  split; · exact h'
  split; · exact h'
  rename_i i hi
  split; · exact h'
  rename_i hg
  split; · exact h'.step
  obtain ⟨e1, e2, e3, e4, e5⟩ := m.step_same
  have hg' : good t = true := by simpa using hg
  have hid : i < m.files.length := h.nowOk.ids _ (nget_mem hi)
  refine h.step.link _ (fun _ => by rw [e4]; exact hid) ?_
  rw [e3, e4]
  unfold Lnk.on
  simp only [if_neg (good_ne hg')]
  have hd := ndel_lt h.nowOk.srt hi
  have hl := h.nowOk.len
  have hs : s ≠ ByteArray.empty := h.nowOk.ne _ (nget_mem hi)
  rw [if_neg hs]
  refine (h.nowOk.del s).put t i hid ?_ (good_ne hg')
  have := ndel_len (ndel m.now s) t
  omega
theorem Med.Ok.sync {K : Nat} {m : Med} (h : m.Ok K) (s : ByteArray) : (m.sync s).1.Ok (K + 1) := by
  unfold Med.sync
  have h' := h.mono (Nat.le_succ K)
  split; · exact h'
  split; · exact h'
  rename_i i hi
  split; · exact h'.step
  exact h.step.setFile _ _ ((h.file i).sync.mono (Nat.le_succ _))
theorem Med.Ok.syncDir {K : Nat} {m : Med} (h : m.Ok K) : m.syncDir.1.Ok K := by
  unfold Med.syncDir
  split; · exact h
  split; · exact h.step
  obtain ⟨e1, e2, e3, e4, e5⟩ := m.step_same
  have hs := h.step
  refine ⟨hs.room, hs.left, by simp, ?_, ?_, hs.files, by simp⟩
  · intro k _
    show NOk _ _
    simp only [Med.lastNames, List.take_nil, List.foldl_nil]
    rw [e4]; exact h.nowOk
  · simp only [Med.lastNames, List.take_nil, List.foldl_nil]
    exact e3
theorem Med.Ok.setRoom {K : Nat} {m : Med} (h : m.Ok K) (n : Int) : (m.setRoom n).1.Ok K := by
  unfold Med.setRoom
  split; · exact h
  split; · exact h
  exact ⟨by simp only; omega, h.left, h.links, h.names, h.now, h.files, h.budget⟩
theorem Med.Ok.arm {K : Nat} {m : Med} (h : m.Ok K) (n : Int) (hn : n ≤ 9223372036854775807) : (m.arm n).1.Ok K := by
  unfold Med.arm
  split; · exact h
  split; · exact h
  exact ⟨h.room, by simp only; omega, h.links, h.names, h.now, h.files, h.budget⟩
theorem sum_le (l : List Nat) (b : Nat) (h : ∀ x ∈ l, x ≤ b) : l.sum ≤ l.length * b := by
  induction l with
  | nil => simp
  | cons x l ih =>
    have h1 := h x (.head _)
    have h2 := ih fun y hy => h y (.tail _ hy)
    simp only [List.sum_cons, List.length_cons, Nat.add_mul]
    omega
theorem Med.Ok.used_le {K : Nat} {m : Med} (h : m.Ok K) : m.used ≤ 8388608000 := by
  unfold Med.used
  have h1 := sum_le (m.now.map fun p => (m.file p.2).now.length) 16777216 (by
    intro x hx
    obtain ⟨p, _, rfl⟩ := List.mem_map.1 hx
    exact (h.file p.2).now_len)
  have := h.nowOk.len
  rw [List.length_map] at h1
  have := Nat.mul_le_mul_right 16777216 this
  omega
end Go.Med
namespace Go.Proofs.YtmjldaedhmipkaaGreatDoor
open Go Go.Sl Go.Med Go.MapKept Go.RowKit
section
variable {w0 w : World} {F : List HProp} {m fb nb b r : Nat} {M : Med} {bs : List Nat} {wv v bv : Value} {s : ByteArray} {l : Names} {fs : List Fil}

theorem file_cells (h : Sat w0 w (filesRep bs fs :: F)) (hl : bs.length = fs.length) {i : Nat} (hi : i < fs.length) :
    ∃ fa fn fc na nc wv, w.cell? ⟨bs.getD i 0, 0, none⟩ = some (.slice fa fn fc) ∧ w.cell? ⟨bs.getD i 0, 1, none⟩ = some (.slice na (fs.getD i Fil.new).now.length nc) ∧ w.cell? ⟨bs.getD i 0, 2, none⟩ = some wv ∧
      rdsl 1 (.slice na (fs.getD i Fil.new).now.length nc) (bys (fs.getD i Fil.new).now) w ∧ (fs.getD i Fil.new).now.length ≤ nc ∧ nc ≤ 9223372036854775807 ∧ (na = none ∧ nc = 0 ∨ ∃ g, na = some ⟨g, 0, none⟩) := by
  obtain ⟨G, h1, _⟩ := files_take bs fs i hl hi
  rw [h1] at h
  obtain ⟨fv, nv, wv, ws, hws, h⟩ := FilRep.open (Sat.star.1 h)
  obtain ⟨fa, fn, fc, rfl, _⟩ := (h.sel 2 [1] rfl rfl).rd
  have hN := h.sel 3 [2] rfl rfl
  have hr := hN.rd
  rcases Sat.osl_cases hN with ⟨rfl, hx, _⟩ | ⟨g, n, cap, cs, rfl, hx, h1, _, h3, _, _⟩
  · have hx0 : (fs.getD i Fil.new).now.length = 0 := by rw [← bys_len]; exact congrArg List.length hx
    rw [hx0]
    exact ⟨fa, fn, fc, none, 0, wv, h.cellAt 0 _ rfl, h.cellAt 1 _ rfl, h.cellAt 2 _ rfl, hr, Nat.le_refl _, by omega, .inl ⟨rfl, rfl⟩⟩
  · rw [bys_len, Nat.mul_one] at hx
    subst hx
    exact ⟨fa, fn, fc, _, cap, wv, h.cellAt 0 _ rfl, h.cellAt 1 _ rfl, h.cellAt 2 _ rfl, hr, h1, h3, .inr ⟨g, rfl⟩⟩
theorem mapL_pick {todo : Names} {k v : Value} {left : List (Value × Value)} (h : (mapL bs todo).Perm ((k, v) :: left)) :
    ∃ p todo', todo.Perm (p :: todo') ∧ k = .string p.1 ∧ v = ptr (bs.getD p.2 0) ∧ left.Perm (mapL bs todo') := by
  have hm : (k, v) ∈ mapL bs todo := h.mem_iff.2 (.head _)
  obtain ⟨p, hp, e⟩ := List.mem_map.1 hm
  simp only [Prod.mk.injEq] at e
  obtain ⟨t1, t2, rfl⟩ := List.append_of_mem hp
  have h1 : (t1 ++ p :: t2).Perm (p :: (t1 ++ t2)) := List.perm_middle
  refine ⟨p, t1 ++ t2, h1, e.1.symm, e.2.symm, ?_⟩
  have h2 : ((k, v) :: left).Perm ((k, v) :: mapL bs (t1 ++ t2)) := by
    refine h.symm.trans ((mapL_perm h1).trans ?_)
    show List.Perm ((Value.string p.1, ptr (bs.getD p.2 0)) :: mapL bs (t1 ++ t2)) _
    rw [e.1, e.2]
  exact (List.Perm.cons_inv h2)

def sumOf (M : Med) (l : Names) : Nat := (l.map fun p => (M.file p.2).now.length).sum
theorem sumOf_perm {l l' : Names} (h : l.Perm l') : sumOf M l = sumOf M l' := (h.map _).sum_nat

abbrev usedCon (m : Nat) (M : Med) (fb nb : Nat) (wv : Value) (bs : List Nat) (F : List HProp) : List HProp := medPt m M fb nb wv :: omap .string nb (mapL bs M.now) :: filesRep bs M.files :: F
set_option maxHeartbeats 1000000 in
theorem used_c (h : Sat w0 w (usedCon m M fb nb wv bs F)) (hl : bs.length = M.files.length) (hid : ∀ p ∈ M.now, p.2 < M.files.length) (hu : M.used ≤ 9223372036854775807) :
    Calls Tryz.prog 148 #[ptr m] w (Rtn fun v w' => v = .int .i64 M.usedTold ∧ Sat w0 w' (usedCon m M fb nb wv bs F)) := by
  have hd := dead_c h
  have c2 := h.cellAt 2 _ rfl
  cases ho : M.off
  · rw [ho] at hd
    have Hu : Hid (M.usedTold = M.used) := by show _ = _; unfold Med.usedTold; rw [ho]; rfl
    clear ho
    go_enter Tryz.func148, Tryz.ntmps148
    go_wp2_with (first
      | (go_at_call 87; refine hd.mono ?_; rintro e w1 ⟨v, rfl, rfl, rfl⟩)
      | (at_range; go_must (refine wpList_range_sl (by rfl) _ _ _ _ (by rfl) Tryz.underlying128 (by rfl) h.pick1 ?_); intro r w1 hS))
    go_frame
    go_loopg [3] M.now.length (fun g n wr => ∃ (acc : Nat) (todo : Names) (left : List (Value × Value)), n = .int .i64 acc ∧ g = todo.length ∧ left.Perm (mapL bs todo) ∧ (∀ p ∈ todo, p ∈ M.now) ∧ acc + sumOf M todo = M.used ∧
      Sat w0 wr (rng .string nb r (mapL bs M.now) left :: medPt m M fb nb wv :: filesRep bs M.files :: F))
    case atStart => exact ⟨0, M.now, _, rfl, rfl, List.Perm.refl _, fun _ h => h, by simp [Med.used, sumOf], hS⟩
    case round =>
      obtain ⟨acc, todo, left, rfl, rfl, hleft, hsub, hacc, hS⟩ := hrel
      have Hacc := Lib.hid hacc
      have Hsub := Lib.hid hsub
      have hb : acc ≤ M.used := by omega
      clear hacc hsub
      go_wp2_with (first
        | (at_next; go_must (refine wpList_next_sl (by rfl) _ (by rfl) (by rfl) hS ?_ ?_)))
      · intro hnil
        have Hnil := Lib.hid hnil; clear hnil
        go_wp2
        go_ret
        refine ⟨.int .i64 acc, rfl, ?_, ?_⟩
        · have h0 : todo = [] := by
            have := hleft
            rw [Hnil.out] at this
            simpa [mapL] using this.symm
          subst h0
          have := Hacc.out
          simp only [sumOf, List.map_nil, List.sum_nil, Nat.add_zero] at this
          rw [Hu.out, this]
        · exact (hS.rng_done).pick1
      · intro k v left' w1 hp hS1 hen
        obtain ⟨p, todo', hp', rfl, rfl, hl'⟩ := mapL_pick (hleft.symm.trans hp)
        have hpi : p.2 < M.files.length := hid p (Hsub.out p (hp'.mem_iff.2 (.head _)))
        obtain ⟨fa, fn, fc, na, nc, wv', f0, f1, f2, _, _, _, hna⟩ := file_cells (hS1.sel 3 [2] rfl rfl) hl hpi
        have hsum : Hid (sumOf M todo = (M.file p.2).now.length + sumOf M todo') := by
          show _ = _
          rw [sumOf_perm hp']; simp [sumOf]
        have hb2 : acc + (M.file p.2).now.length ≤ M.used := by
          have h1 := Hacc.out
          have h2 := hsum.out
          omega
        have Hp := Lib.hid hp'
        have Hl := Lib.hid hl'
        clear hp hp' hl' hleft
        clear hna
        change w1.cell? ⟨bs.getD p.2 0, 1, none⟩ = some (.slice na (M.file p.2).now.length nc) at f1
        generalize bs.getD p.2 0 = q at *
        generalize hL : (M.file p.2).now.length = L at *
        have HL := Lib.hid hL; clear hL
        go_wp2
        go_roundg todo'.length
        case measure => have := Hp.out.length_eq; simp at this; omega
        case rel =>
          refine ⟨acc + L, todo', left', by go_num, rfl, Hl.out, fun x hx => Hsub.out x (Hp.out.mem_iff.2 (.tail _ hx)), ?_, hS1⟩
          have h1 := Hacc.out
          have h2 := hsum.out
          omega
  · rw [ho] at hd
    have Hu : Hid (M.usedTold = 0) := by show _ = _; unfold Med.usedTold; rw [ho]; rfl
    clear ho
    go_enter Tryz.func148, Tryz.ntmps148
    go_wp2_with (go_at_call 87; refine hd.mono ?_; rintro e w1 ⟨v, rfl, rfl, rfl⟩)
    go_ret
    exact ⟨.int .i64 0, rfl, by rw [Hu.out]; rfl, h⟩
end
section
variable {w0 w : World} {F : List HProp} {m fb nb b r : Nat} {M : Med} {bs : List Nat} {wv v bv : Value} {s : ByteArray} {l : Names} {fs : List Fil}
open Go.Sort in
theorem sort_c (ss : List (List UInt8)) (h : Sat w0 w (osl 9 1 v (ss.map encStr) :: F)) (hsz : ss.length < 4611686018427387904) :
    Calls Tryz.prog 140 #[v] w (Rtn fun _ w' => Sat w0 w' (osl 9 1 v ((ss.mergeSort fun x y => decide (x ≤ y)).map encStr) :: F)) := by
  rcases h.osl_cases with ⟨rfl, hn, h'⟩ | ⟨g, n, cap, cs, rfl, hl, hn, hc, hcm, htk, hp⟩
  · have hn' : ss = [] := by simpa using hn
    subst hn'
    refine (Tryz.slices_Sort_string_none none 0 w).mono ?_
    rintro e w1 ⟨rfl, rfl⟩
    exact ⟨_, rfl, by simpa using h⟩
  · have hl' : n = ss.length := by simpa using hl.symm
    subst hl'
    rw [Nat.mul_one] at htk
    refine (Tryz.slices_Sort_string g 0 cap ss w (holds_of_block hp.at htk) hp.lt hsz).mono ?_
    rintro e w1 ⟨rfl, n, os, rfl⟩
    refine ⟨_, rfl, ?_⟩
    have hg := grownBy_sorted (w := w) (g := g) (n := n) (os := os) (ss.mergeSort fun x y => decide (x ≤ y)).toArray
    have := hp.turn hg.os hg.tape hg.output hg.size (heap_sorted (n := n) (os := os) (ss.mergeSort fun x y => decide (x ≤ y)).toArray hp.at) (fun i hi hlt => hg.block i hlt (by simpa using hi))
    refine this.osl_of_pt (by simp) hn (by simpa [Sort.putCells] using hc) hcm ?_
    have h1 := take_putCells cs (ss.mergeSort fun x y => decide (x ≤ y)) (by rw [List.length_mergeSort]; omega)
    rw [List.length_mergeSort] at h1
    rw [Nat.mul_one]; exact h1
theorem encStr_ba (s : ByteArray) : encStr s.data.toList = .string s := by simp [encStr]
theorem sorted_keys {l : Names} (hs : Srt l) {ks : List ByteArray} (hp : ks.Perm (l.map (·.1))) :
    ((ks.map fun s => s.data.toList).mergeSort fun x y => decide (x ≤ y)).map encStr = l.map fun p => .string p.1 := by
  have h1 : ((ks.map fun s => s.data.toList).mergeSort fun x y => decide (x ≤ y)) = l.map fun p => p.1.data.toList := by
    refine List.Perm.eq_of_pairwise (le := fun x y => decide (x ≤ y) = true) ?_ ?_ ?_ ?_
    · intro a b _ _ h1 h2
      simp only [decide_eq_true_eq] at h1 h2
      exact List.le_antisymm h1 h2
    · refine List.pairwise_mergeSort ?_ ?_ _
      · intro a b c h1 h2
        simp only [decide_eq_true_eq] at *
        exact List.le_trans h1 h2
      · intro a b
        simp only [Bool.or_eq_true, decide_eq_true_eq]
        exact List.le_total a b
    · rw [List.pairwise_map]
      refine hs.imp fun {a b} hab => ?_
      simp only [lt, decide_eq_true_eq] at hab ⊢
      exact List.le_of_lt hab
    · refine (List.mergeSort_perm _ _).trans ?_
      have := hp.map fun s : ByteArray => s.data.toList
      rw [List.map_map] at this
      exact this
  rw [h1, List.map_map]
  apply List.map_congr_left
  intro p _
  exact encStr_ba p.1
theorem infoStr : (Tryz.prog.info? 9).map (fun i => (i.zero, i.size, i.bytes)) = some (some (.string ByteArray.empty), 1, 16) := by kernel_rfl
def strs (l : List ByteArray) : List Value := l.map Value.string
theorem strs_enc (l : List ByteArray) : strs l = (l.map fun s => s.data.toList).map encStr := by
  unfold strs; rw [List.map_map]; apply List.map_congr_left; intro s _; exact (encStr_ba s).symm
set_option maxHeartbeats 2000000 in
theorem names_c (h : Sat w0 w (omap .string b (mapL bs l) :: F)) (hs : Srt l) (hl : l.length ≤ 1099511627776) :
    Calls Tryz.prog 91 #[.map (some b)] w (Rtn fun v w' => Sat w0 w' (osl 9 1 v (strs (l.map (·.1))) :: omap .string b (mapL bs l) :: F) ∧ ∃ a n c, v = .slice a n c) := by
  obtain ⟨i, hi, hz0, hz1, hz2⟩ := info_parts infoStr
  have Hs := Lib.hid hs; clear hs
  go_enter Tryz.func91, Tryz.ntmps91
  go_wp2_with (at_range; go_must (refine wpList_range_sl (by rfl) _ _ _ _ (by rfl) Tryz.underlying128 (by rfl) h ?_); intro r w1 hS)
  go_frame
  go_loopg [3] l.length (fun g n wr => ∃ (ks : List ByteArray) (todo : Names) (left : List (Value × Value)), g = todo.length ∧ left.Perm (mapL bs todo) ∧ (ks ++ todo.map (·.1)).Perm (l.map (·.1)) ∧
      Sat w0 wr (osl 9 1 n (strs ks) :: rng .string b r (mapL bs l) left :: F))
  case atStart => exact ⟨[], l, _, rfl, List.Perm.refl _, List.Perm.refl _, by unfold strs; exact Sat.osl_nil.2 hS⟩
  case round =>
    obtain ⟨ks, todo, left, rfl, hleft, hperm, hS⟩ := hrel
    have hlen : ks.length + todo.length = l.length := by have := hperm.length_eq; simpa using this
    obtain ⟨oa, on, oc, rfl, hoc, _⟩ := hS.rd
    clear hoc
    have Hleft := Lib.hid hleft
    have Hperm := Lib.hid hperm
    clear hleft hperm
    go_wp2_with (at_next; go_must (refine wpList_next_sl (by rfl) _ (by rfl) (by rfl) hS.pick1 ?_ ?_))
    · intro hnil
      have Hnil := Lib.hid hnil; clear hnil
      have h0 : todo = [] := by
        have := Hleft.out
        rw [Hnil.out] at this
        simpa [mapL] using this.symm
      subst h0
      have hk : ks.Perm (l.map (·.1)) := by simpa using Hperm.out
      have hsort := sort_c (ks.map fun s => s.data.toList) (by rw [← strs_enc]; exact hS) (by simp at hlen ⊢; omega)
      rw [sorted_keys Hs.out hk] at hsort
      have Hk := Lib.hid hk; clear hk
      go_wp2_with (go_at_call 140; refine hsort.mono ?_; rintro e w2 ⟨v, rfl, hS2⟩)
      go_ret
      refine ⟨_, rfl, ?_, _, _, _, rfl⟩
      have h9 := (hS2.pick1.rng_done).pick1
      have e1 : strs (l.map (·.1)) = l.map fun p => Value.string p.1 := by unfold strs; rw [List.map_map]; rfl
      rw [e1]; exact h9
    · intro k v left' w1 hp hS1 hen
      obtain ⟨p, todo', hp', rfl, rfl, hl'⟩ := mapL_pick (Hleft.out.symm.trans hp)
      have hlen2 : todo.length = todo'.length + 1 := by have := hp'.length_eq; simpa using this
      have Hp := Lib.hid hp'
      have Hl := Lib.hid hl'
      clear hp hp' hl'
      have hb1 := hS1.pick1.alloc (.cells #[.string p.1] 9)
      have h63 : (strs ks).length + 1 ≤ maxLen := by unfold strs maxLen; rw [List.length_map]; omega
      have hby : ((strs ks).length + 1) * i.bytes ≤ 140737488355328 := by unfold strs; rw [List.length_map, hz2]; omega
      have hoc : ∀ u ∈ (#[.string p.1] : Array Value).toList, u.oneCell' = true := by
        intro u hu
        simp only [List.mem_cons, List.not_mem_nil, or_false] at hu
        subst hu; rfl
      go_wp2_with (at_builtin; go_must (refine wpList_append (w0 := w0) (by rfl) _ _ _ (by rfl) _ i _ Tryz.underlying100 hi hz0 hz1 (by rfl) (by omega) (by rfl) (by rfl) hoc hb1.pick1 (rdsl_new _ _ _ 1 1 1 (by rfl)) h63 hby ?_); intro v2 w2 hS2 hne)
      go_roundg todo'.length
      case measure => omega
      case rel =>
        refine ⟨ks ++ [p.1], todo', left', rfl, Hl.out, ?_, ?_⟩
        · refine List.Perm.trans ?_ Hperm.out
          rw [List.append_assoc]
          exact List.Perm.append_left ks (show List.Perm ((p :: todo').map (·.1)) _ from (Hp.out.map (·.1)).symm)
        · have : strs (ks ++ [p.1]) = strs ks ++ [.string p.1] := by simp [strs]
          rw [this]
          exact hS2.sel 3 [0, 2] rfl rfl
end
end Go.Proofs.YtmjldaedhmipkaaGreatDoor
namespace Go.Proofs.YtmjldaedhmipkaaGreatDoor
open Go Go.Sl Go.Med Go.MapKept Go.RowKit
section
variable {w0 w : World} {F : List HProp} {m fb nb b r : Nat} {M : Med} {bs : List Nat} {wv v bv : Value} {s : ByteArray} {l : Names} {fs : List Fil} {K : Nat}
set_option maxHeartbeats 1000000 in
theorem size_c (hM : M.Ok K) (h : Sat w0 w (MedRep m M :: F)) (s : ByteArray) :
    Calls Tryz.prog 65 #[ptr m, .string s] w (Rtn fun v w' => v = .tuple #[.int .i64 (M.size s).1, errno (M.size s).2] ∧ w = w') := by
  obtain ⟨bs, fb, nb, wv, hl, hR⟩ := MedRep.open h
  cases ho : M.off
  · cases hn : nget M.now s with
    | none =>
      have hf := find_none (s := s) hR ho hn
      have Hfin : Hid (M.size s = (0, 9)) := by show _ = _; simp [Med.size, ho, hn]
      clear ho hn
      go_enter Tryz.func65, Tryz.ntmps65
      go_wp2_with (go_at_call 123; refine hf.mono ?_; rintro e w1 ⟨v, rfl, rfl, rfl⟩)
      go_ret2
      exact ⟨_, rfl, by rw [Hfin.out]; rfl, rfl⟩
    | some i =>
      have hf := find_some (s := s) hR ho hn
      have hid : i < M.files.length := hM.nowOk.ids (s, i) (nget_mem hn)
      obtain ⟨fa, fn, fc, na, nc, wv', f0, f1, f2, _, _, _, hna⟩ := file_cells (hR.sel 3 [2] rfl rfl) hl hid
      have Hfin : Hid (M.size s = (((M.file i).now.length : Int), 0)) := by show _ = _; simp [Med.size, ho, hn]
      clear ho hn hna
      change w.cell? ⟨bs.getD i 0, 1, none⟩ = some (.slice na (M.file i).now.length nc) at f1
      generalize bs.getD i 0 = q at *
      go_enter Tryz.func65, Tryz.ntmps65
      go_wp2_with (go_at_call 123; refine hf.mono ?_; rintro e w1 ⟨v, rfl, rfl, rfl⟩)
      go_ret2
      refine ⟨.tuple #[.int .i64 (M.file i).now.length, errno 0], rfl, ?_, rfl⟩
      rw [Hfin.out]
  · have hf := find_off (s := s) hR ho
    have Hfin : Hid (M.size s = (0, 12)) := by show _ = _; simp [Med.size, ho]
    clear ho
    go_enter Tryz.func65, Tryz.ntmps65
    go_wp2_with (go_at_call 123; refine hf.mono ?_; rintro e w1 ⟨v, rfl, rfl, rfl⟩)
    go_ret2
    exact ⟨_, rfl, by rw [Hfin.out]; rfl, rfl⟩
set_option maxHeartbeats 1000000 in
theorem all_c (hM : M.Ok K) (h : Sat w0 w (MedRep m M :: F)) (s : ByteArray) :
    Calls Tryz.prog 146 #[ptr m, .string s] w (Rtn fun v w' => ∃ bv, v = .tuple #[bv, errno (M.all s).2] ∧ Sat w0 w' (bsl bv (M.all s).1 :: MedRep m M :: F)) := by
  obtain ⟨bs, fb, nb, wv, hl, hR⟩ := MedRep.open h
  cases ho : M.off
  · cases hn : nget M.now s with
    | none =>
      have hf := find_none (s := s) hR ho hn
      have Hfin : Hid (M.all s = ([], 9)) := by show _ = _; simp [Med.all, ho, hn]
      clear ho hn
      go_enter Tryz.func146, Tryz.ntmps146
      go_wp2_with (go_at_call 123; refine hf.mono ?_; rintro e w1 ⟨v, rfl, rfl, rfl⟩)
      go_ret2
      exact ⟨_, rfl, .slice none 0 0, by rw [Hfin.out]; rfl, by rw [Hfin.out]; exact Sat.osl_nil.2 h⟩
    | some i =>
      have hf := find_some (s := s) hR ho hn
      have hid : i < M.files.length := hM.nowOk.ids (s, i) (nget_mem hn)
      obtain ⟨fa, fn, fc, na, nc, wv', f0, f1, f2, hrd, hcap, hnc, hna⟩ := file_cells (hR.sel 3 [2] rfl rfl) hl hid
      have hcl := clone_c h hrd (by have := (hM.file i).now_len; unfold Med.file at this; omega)
      have Hfin : Hid (M.all s = ((M.file i).now, 0)) := by show _ = _; simp [Med.all, ho, hn]
      clear ho hn hrd hcap hnc hna
      change w.cell? ⟨bs.getD i 0, 1, none⟩ = some (.slice na (M.file i).now.length nc) at f1
      change Calls _ _ #[.slice na (M.file i).now.length nc] _ _ at hcl
      generalize bs.getD i 0 = q at *
      go_enter Tryz.func146, Tryz.ntmps146
      go_wp2_with (first
        | (go_at_call 123; refine hf.mono ?_; rintro e w1 ⟨v, rfl, rfl, rfl⟩)
        | (go_at_call 134; refine hcl.mono ?_; rintro e w1 ⟨v, rfl, hS, _⟩))
      go_ret2
      exact ⟨_, rfl, v, by rw [Hfin.out]; rfl, by rw [Hfin.out]; exact hS⟩
  · have hf := find_off (s := s) hR ho
    have Hfin : Hid (M.all s = ([], 12)) := by show _ = _; simp [Med.all, ho]
    clear ho
    go_enter Tryz.func146, Tryz.ntmps146
    go_wp2_with (go_at_call 123; refine hf.mono ?_; rintro e w1 ⟨v, rfl, rfl, rfl⟩)
    go_ret2
    exact ⟨_, rfl, .slice none 0 0, by rw [Hfin.out]; rfl, by rw [Hfin.out]; exact Sat.osl_nil.2 h⟩
end
section
variable {w0 w : World} {F : List HProp} {m fb nb b r : Nat} {M : Med} {bs : List Nat} {wv v bv : Value} {s : ByteArray} {l : Names} {fs : List Fil} {K : Nat}
set_option maxHeartbeats 1000000 in
theorem new_yes (room : Nat) (hr : room ≤ 16777216) (h : Sat w0 w F) :
    Calls Tryz.prog 13 #[.int .i64 room] w (Rtn fun v w' => ∃ m, v = .tuple #[ptr m, errno 0] ∧ Sat w0 w' (MedRep m (Med.new room) :: F)) := by
  have h2 : decide ((room : Int) < 0) = false := by rw [decide_eq_false_iff_not]; omega
  have h3 : decide (16777216 < (room : Int)) = false := by rw [decide_eq_false_iff_not]; omega
  have hmm := @run_makeMap Tryz.prog
  have hA := ((h.omap_new .string).omap_new .string)
  have hB := hA.alloc (.cells #[.int .i64 room, .map (some w.heap.size), .map (some (w.heap.size + 1)), .slice none 0 0, .bool false, .int .i64 0, .bool false] 131)
  go_enter Tryz.func13, Tryz.ntmps13
  go_wp2
  go_ret2
  refine ⟨_, rfl, _, rfl, ?_⟩
  refine MedRep.shut (bs := []) (fb := w.heap.size) (nb := w.heap.size + 1) (wv := .slice none 0 0) rfl ?_
  have h5 : Sat w0 _ (osl 168 3 (.slice none 0 0) [] :: Sl.emp :: _ :: _ :: _ :: F) := Sat.osl_nil.2 (Sat.emp.2 hB)
  simp only [World.size_alloc] at h5
  exact h5.sel 5 [2, 3, 1, 4, 0] rfl rfl
set_option maxHeartbeats 1000000 in
theorem list_c (hM : M.Ok K) (h : Sat w0 w (MedRep m M :: F)) :
    Calls Tryz.prog 50 #[ptr m] w (Rtn fun v w' => Sat w0 w' (osl 9 1 v (strs M.list) :: MedRep m M :: F) ∧ ∃ a n c, v = .slice a n c) := by
  obtain ⟨bs, fb, nb, wv, hl, hR⟩ := MedRep.open h
  have hd := dead_c hR
  have c2 := hR.cellAt 2 _ rfl
  cases ho : M.off
  · rw [ho] at hd
    have hnm := names_c (hR.sel 5 [1, 0, 2, 3, 4] rfl rfl) hM.nowOk.srt (by have := hM.nowOk.len; omega)
    have Hfin : Hid (M.list = M.now.map (·.1)) := by show _ = _; simp [Med.list, ho]
    clear ho
    go_enter Tryz.func50, Tryz.ntmps50
    go_wp2_with (first | (go_at_call 87; refine hd.mono ?_; rintro e w1 ⟨v, rfl, rfl, rfl⟩) | (go_at_call 91; go_must (refine hnm.mono ?_); rintro e w1 ⟨v, rfl, hS, a1, n1, k1, rfl⟩))
    go_ret
    refine ⟨_, rfl, ?_, _, _, _, rfl⟩
    rw [Hfin.out]
    exact (MedRep.shut hl (hS.sel 6 [2, 1, 3, 4, 5, 0] rfl rfl)).pick1
  · rw [ho] at hd
    have Hfin : Hid (M.list = []) := by show _ = _; simp [Med.list, ho]
    clear ho
    go_enter Tryz.func50, Tryz.ntmps50
    go_wp2_with (go_at_call 87; refine hd.mono ?_; rintro e w1 ⟨v, rfl, rfl, rfl⟩)
    go_ret
    refine ⟨.slice none 0 0, rfl, ?_, _, _, _, rfl⟩
    rw [Hfin.out]
    exact Sat.osl_nil.2 h
end
section
variable {w0 w : World} {F : List HProp} {m fb nb b r : Nat} {M : Med} {bs : List Nat} {wv v bv : Value} {s : ByteArray} {l : Names} {fs : List Fil} {K : Nat}
theorem getD_ext (bs : List Nat) (b i : Nat) (h : i < bs.length) : (bs ++ [b]).getD i 0 = bs.getD i 0 := by
  simp [List.getD_eq_getElem?_getD, List.getElem?_append_left h]
theorem mapL_ext (h : ∀ p ∈ l, p.2 < bs.length) (b : Nat) : mapL (bs ++ [b]) l = mapL bs l := by
  unfold mapL
  apply List.map_congr_left
  intro p hp
  rw [getD_ext bs b p.2 (h p hp)]
theorem lnks_ext {ws : List Lnk} (h : ∀ x ∈ ws, x.to ≠ ByteArray.empty → x.f < bs.length) (b : Nat) : ws.flatMap (lnkCells (bs ++ [b])) = ws.flatMap (lnkCells bs) := by
  induction ws with
  | nil => rfl
  | cons x ws ih =>
    rw [List.flatMap_cons, List.flatMap_cons, ih fun y hy => h y (.tail _ hy)]
    congr 1
    unfold lnkCells
    by_cases ht : x.to = ByteArray.empty
    · simp [ht]
    · simp only [if_neg ht]
      rw [getD_ext bs b x.f (h x (.head _) ht)]
theorem len_names (h : Sat w0 w (omap .string b (mapL bs l) :: F)) (ty : TypeId) : (Builtin.len_ #[128] ty #[.map (some b)]).run Tryz.prog w = .ok (.int .i64 l.length) w := by
  have := run_maplen (P := Tryz.prog) Tryz.underlying128 ty h
  simpa [mapL] using this
theorem raw_step (h : Sat w0 w (medPt m M.step.1 fb nb wv :: [omap .string nb (mapL bs M.now), filesRep bs M.files, omap .string fb (mapL bs M.fast), osl 168 3 wv (M.waits.flatMap (lnkCells bs))] ++ F)) : Sat w0 w (MedRaw m M.step.1 bs fb nb wv ++ F) := by
  obtain ⟨e1, e2, e3, e4, e5⟩ := M.step_same
  unfold MedRaw
  rw [e2, e3, e4, e5]
  exact h
theorem FilRep_new (h : Sat w0 w (filPt b (.slice none 0 0) (.slice none 0 0) (.slice none 0 0) :: F)) : Sat w0 w (FilRep b Fil.new :: F) := by
  refine FilRep.shut (fv := .slice none 0 0) (nv := .slice none 0 0) (wv := .slice none 0 0) (ws := []) rfl ?_
  have h1 : Sat w0 w (bsl (.slice none 0 0) [] :: bsl (.slice none 0 0) [] :: osl 246 3 (.slice none 0 0) [] :: chgs [] :: _) := Sat.osl_nil.2 (Sat.osl_nil.2 (Sat.osl_nil.2 (Sat.emp.2 h)))
  exact h1.sel 5 [4, 0, 1, 2, 3] rfl rfl
theorem create_link (hM : M.Ok K) (hK : K ≤ 1099511627776) (hl : bs.length = M.files.length) (hs : s ≠ ByteArray.empty) (h : Sat w0 w (MedRaw m M bs fb nb wv ++ F)) :
    Calls Tryz.prog 137 #[ptr m, .agg #[.string { data := #[] }, .string s, ptr w.heap.size]] (w.alloc (.cells #[.slice none 0 0, .slice none 0 0, .slice none 0 0] 228))
      (Rtn fun _ w' => Sat w0 w' (MedRep m (({ M with files := M.files ++ [Fil.new] } : Med).link ⟨ByteArray.empty, s, M.files.length⟩) :: F)) := by
  have h1 := h.alloc (.cells #[.slice none 0 0, .slice none 0 0, .slice none 0 0] 228)
  have h2 := FilRep_new h1
  generalize w.heap.size = q at *
  have e1 : mapL (bs ++ [q]) M.now = mapL bs M.now := mapL_ext (fun p hp => by rw [hl]; exact hM.nowOk.ids p hp) q
  have e2 : mapL (bs ++ [q]) M.fast = mapL bs M.fast := mapL_ext (fun p hp => by rw [hl]; exact hM.fastOk.ids p hp) q
  have e3 : M.waits.flatMap (lnkCells (bs ++ [q])) = M.waits.flatMap (lnkCells bs) := lnks_ext (fun x hx ht => by rw [hl]; exact hM.links x hx ht) q
  have e4 : filesRep (bs ++ [q]) (M.files ++ [Fil.new]) = star (FilRep q Fil.new) (filesRep bs M.files) := files_snoc _ _ _ _ hl
  have h3 : Sat w0 _ (FilRep q Fil.new :: filesRep bs M.files :: medPt m M fb nb wv :: omap .string nb (mapL bs M.now) :: osl 168 3 wv (M.waits.flatMap (lnkCells bs)) :: omap .string fb (mapL bs M.fast) :: F) := h2.sel 6 [0, 3, 1, 2, 5, 4] rfl rfl
  have h4 := Sat.star.2 h3
  rw [← e4, ← e1, ← e2, ← e3] at h4
  have h5 := h4.sel 5 [1, 2, 3, 0, 4] rfl rfl
  have hlk := link_c (M := { M with files := M.files ++ [Fil.new] }) (bs := bs ++ [q]) ⟨ByteArray.empty, s, M.files.length⟩ h5 (Nat.le_trans hM.budget hK)
  have e5 : lnkPtr (bs ++ [q]) ⟨ByteArray.empty, s, M.files.length⟩ = ptr q := by
    unfold lnkPtr
    rw [if_neg hs]
    simp [List.getD_eq_getElem?_getD, ← hl]
  rw [e5] at hlk
  refine hlk.mono ?_
  rintro e w1 ⟨v, rfl, wv', hS⟩
  refine ⟨v, rfl, MedRep.shut (bs := bs ++ [q]) (fb := fb) (nb := nb) (wv := wv') (by simp [Med.link, hl]) ?_⟩
  exact hS.sel 5 [0, 1, 3, 4, 2] rfl rfl
set_option maxHeartbeats 2000000 in
theorem create_c (hM : M.Ok K) (hK : K ≤ 1099511627776) (h : Sat w0 w (MedRep m M :: F)) (s : ByteArray) (hs : s.size ≤ 9223372036854775807) :
    Calls Tryz.prog 107 #[ptr m, .string s] w (Rtn fun v w' => v = errno (M.create s).2 ∧ Sat w0 w' (MedRep m (M.create s).1 :: F)) := by
  obtain ⟨bs, fb, nb, wv, hl, hR⟩ := MedRep.open h
  have hd := dead_c hR
  have hg := good_c s w hs
  have c2 := hR.cellAt 2 _ rfl
  cases ho : M.off
  · rw [ho] at hd
    cases hgs : good s
    · rw [hgs] at hg
      have Hfin : Hid (M.create s = (M, 7)) := by show _ = _; simp [Med.create, ho, hgs]
      clear ho hgs
      go_enter Tryz.func107, Tryz.ntmps107
      go_wp2_with (first | (go_at_call 87; refine hd.mono ?_; rintro e w1 ⟨v, rfl, rfl, rfl⟩) | (go_at_call 147; refine hg.mono ?_; rintro e w1 ⟨v, rfl, rfl, rfl⟩))
      go_ret
      exact ⟨errno 7, rfl, by rw [Hfin.out], by rw [Hfin.out]; exact h⟩
    rw [hgs] at hg
    have hlk := look_names (s := s) (hR.pick1)
    cases hn : nget M.now s with
    | some i =>
      have Hfin : Hid (M.create s = (M, 10)) := by show _ = _; simp [Med.create, ho, hgs, hn]
      rw [fptr, hn] at hlk
      clear ho hgs hn
      simp only at hlk
      generalize bs.getD i 0 = q at hlk
      go_enter Tryz.func107, Tryz.ntmps107
      go_wp2_with (first | (go_at_call 87; refine hd.mono ?_; rintro e w1 ⟨v, rfl, rfl, rfl⟩) | (go_at_call 147; refine hg.mono ?_; rintro e w1 ⟨v, rfl, rfl, rfl⟩))
      go_ret
      exact ⟨errno 10, rfl, by rw [Hfin.out], by rw [Hfin.out]; exact h⟩
    | none =>
      rw [fptr, hn] at hlk
      simp only at hlk
      have hlen := fun ty => len_names (hR.pick1) ty
      by_cases h500 : 500 ≤ (M.now.length : Int)
      · have Hfin : Hid (M.create s = (M, 16)) := by
          show _ = _
          have : 500 ≤ M.now.length := by omega
          simp [Med.create, ho, hgs, hn, this]
        clear ho hgs hn
        go_enter Tryz.func107, Tryz.ntmps107
        go_wp2_with (first | (go_at_call 87; refine hd.mono ?_; rintro e w1 ⟨v, rfl, rfl, rfl⟩) | (go_at_call 147; refine hg.mono ?_; rintro e w1 ⟨v, rfl, rfl, rfl⟩))
        go_ret
        exact ⟨errno 16, rfl, by rw [Hfin.out], by rw [Hfin.out]; exact h⟩
      have h500' : ¬ 500 ≤ M.now.length := by omega
      have hb5 : decide ((500 : Int) ≤ (M.now.length : Int)) = false := by rw [decide_eq_false_iff_not]; exact h500
      have hst := step_c hR hM.left
      cases hstep : M.step.2
      · rw [hstep] at hst
        have Hfin : Hid (M.create s = (M.step.1, 12)) := by show _ = _; simp [Med.create, ho, hgs, hn, h500', hstep]
        clear ho hgs hn hstep h500 h500'
        go_enter Tryz.func107, Tryz.ntmps107
        go_wp2_with (first | (go_at_call 87; refine hd.mono ?_; rintro e w1 ⟨v, rfl, rfl, rfl⟩) | (go_at_call 147; refine hg.mono ?_; rintro e w1 ⟨v, rfl, rfl, rfl⟩) | (go_at_call 133; refine hst.mono ?_; rintro e w1 ⟨v, rfl, rfl, hS1⟩))
        go_ret
        refine ⟨errno 12, rfl, by rw [Hfin.out], ?_⟩
        rw [Hfin.out]
        exact MedRep.shut (bs := bs) (fb := fb) (nb := nb) (wv := wv) (by rw [M.step_same.2.2.2.1]; exact hl) (raw_step hS1)
      · rw [hstep] at hst
        have Hfin : Hid (M.create s = (({ M.step.1 with files := M.files ++ [Fil.new] } : Med).link ⟨ByteArray.empty, s, M.files.length⟩, 0)) := by show _ = _; simp [Med.create, ho, hgs, hn, h500', hstep]
        have hne := good_ne hgs
        clear ho hgs hn hstep h500 h500'
        have hl' : bs.length = M.step.1.files.length := by rw [M.step_same.2.2.2.1]; exact hl
        have Hl' := Lib.hid hl'; clear hl'
        go_enter Tryz.func107, Tryz.ntmps107
        go_wp2_with (first | (go_at_call 87; refine hd.mono ?_; rintro e w1 ⟨v, rfl, rfl, rfl⟩) | (go_at_call 147; refine hg.mono ?_; rintro e w1 ⟨v, rfl, rfl, rfl⟩) | (go_at_call 133; refine hst.mono ?_; rintro e w1 ⟨v, rfl, rfl, hS1⟩) | (go_at_call 137; go_must (refine (create_link hM.step hK Hl'.out hne (raw_step hS1)).mono ?_); rintro e w2 ⟨v2, rfl, hS2⟩))
        go_ret
        refine ⟨errno 0, rfl, by rw [Hfin.out], ?_⟩
        rw [Hfin.out]
        have e4 := M.step_same.2.2.2.1
        rw [e4] at hS2
        exact hS2
  · rw [ho] at hd
    have Hfin : Hid (M.create s = (M, 12)) := by show _ = _; simp [Med.create, ho]
    clear ho
    go_enter Tryz.func107, Tryz.ntmps107
    go_wp2_with (go_at_call 87; refine hd.mono ?_; rintro e w1 ⟨v, rfl, rfl, rfl⟩)
    go_ret
    exact ⟨errno 12, rfl, by rw [Hfin.out], by rw [Hfin.out]; exact h⟩
end
section
variable {w0 w : World} {F : List HProp} {m fb nb b r : Nat} {M : Med} {bs : List Nat} {wv v bv : Value} {s : ByteArray} {l : Names} {fs : List Fil} {K : Nat}
theorem raw_file (hl : bs.length = M.files.length) {i : Nat} (hi : i < M.files.length) (h : Sat w0 w (MedRaw m M bs fb nb wv ++ F)) :
    ∃ G : HProp, Sat w0 w (FilRep (bs.getD i 0) (M.file i) :: medPt m M fb nb wv :: omap .string nb (mapL bs M.now) :: omap .string fb (mapL bs M.fast) :: osl 168 3 wv (M.waits.flatMap (lnkCells bs)) :: G :: F) ∧
      ∀ (w' : World) (f' : Fil), Sat w0 w' (FilRep (bs.getD i 0) f' :: medPt m M fb nb wv :: omap .string nb (mapL bs M.now) :: omap .string fb (mapL bs M.fast) :: osl 168 3 wv (M.waits.flatMap (lnkCells bs)) :: G :: F) → Sat w0 w' (MedRep m (M.setFile i f') :: F) := by
  obtain ⟨G, h1, h2⟩ := files_take bs M.files i hl hi
  refine ⟨G, ?_, fun w' f' h' => ?_⟩
  · have h3 := h.sel 5 [2, 0, 1, 3, 4] rfl rfl
    have h4 : Sat w0 w (filesRep bs M.files :: medPt m M fb nb wv :: omap .string nb (mapL bs M.now) :: omap .string fb (mapL bs M.fast) :: osl 168 3 wv (M.waits.flatMap (lnkCells bs)) :: F) := h3
    rw [h1] at h4
    exact (Sat.star.1 h4).sel 6 [0, 2, 3, 4, 5, 1] rfl rfl
  · refine MedRep.shut (bs := bs) (fb := fb) (nb := nb) (wv := wv) (by simp [Med.setFile, hl]) ?_
    have h4 : Sat w0 w' (FilRep (bs.getD i 0) f' :: G :: medPt m M fb nb wv :: omap .string nb (mapL bs M.now) :: omap .string fb (mapL bs M.fast) :: osl 168 3 wv (M.waits.flatMap (lnkCells bs)) :: F) := h'.sel 6 [0, 5, 1, 2, 3, 4] rfl rfl
    have h5 := Sat.star.2 h4
    rw [← h2] at h5
    exact h5.sel 5 [1, 2, 0, 3, 4] rfl rfl
end
section
variable {w0 w : World} {F : List HProp} {m fb nb b r : Nat} {M : Med} {bs : List Nat} {wv v bv : Value} {s : ByteArray} {l : Names} {fs : List Fil} {K : Nat}
theorem ro_len {lb : Bs} (hr : Ro w0 F (rdsl 1 bv (bys lb))) {A : HProp} (h : Sat w0 w (A :: F)) : ∃ a n c, bv = .slice a n c ∧ n = lb.length := by
  obtain ⟨a, n, c, rfl, hl, _⟩ := hr w h.drop
  rw [bys_len, Nat.mul_one] at hl
  exact ⟨a, n, c, rfl, hl.symm⟩
set_option maxHeartbeats 4000000 in
theorem append_c (hM : M.Ok K) (hK : K ≤ 1099511627776) (h : Sat w0 w (MedRep m M :: F)) (s : ByteArray) (lb : Bs) (hr : Ro w0 F (rdsl 1 bv (bys lb))) :
    Calls Tryz.prog 109 #[ptr m, .string s, bv] w (Rtn fun v w' => v = errno (M.append s lb).2 ∧ Sat w0 w' (MedRep m (M.append s lb).1 :: F)) := by
  obtain ⟨bs, fb, nb, wv, hl, hR⟩ := MedRep.open h
  cases ho : M.off
  · cases hn : nget M.now s with
    | none =>
      obtain ⟨ba, bn, bc, rfl, hbn⟩ := ro_len hr h
      clear hbn
      have hf := find_none (s := s) hR ho hn
      have Hfin : Hid (M.append s lb = (M, 9)) := by show _ = _; simp [Med.append, ho, hn]
      clear ho hn hr
      go_enter Tryz.func109, Tryz.ntmps109
      go_wp2_with (go_at_call 123; refine hf.mono ?_; rintro e w1 ⟨v, rfl, rfl, rfl⟩)
      go_ret
      exact ⟨errno 9, rfl, by rw [Hfin.out], by rw [Hfin.out]; exact h⟩
    | some i =>
      have hf := find_some (s := s) hR ho hn
      have hid : i < M.files.length := hM.nowOk.ids (s, i) (nget_mem hn)
      obtain ⟨ba, bn, bc, rfl, hbn⟩ := ro_len hr h
      have hu := used_c (w := w.drew) (m := m) (M := M) (fb := fb) (nb := nb) (wv := wv) (bs := bs) hR.drew hl hM.nowOk.ids (by have := hM.used_le; omega)
      have hut : M.usedTold = M.used := by simp [Med.usedTold, ho]
      rw [hut] at hu
      have hu2 := hM.used_le
      have hr2 := hM.room
      have c0 := hR.cellAt 0 _ rfl
      have Hr := Lib.hid hr; clear hr
      clear hut
      by_cases hfull : (M.room : Int) - M.used < lb.length
      · have Hfin : Hid (M.append s lb = (M, 11)) := by show _ = _; simp [Med.append, ho, hn, hfull]
        clear ho hn
        subst hbn
        have hwr : IntKind.i64.wrap ((M.room : Int) - (M.used : Int)) = (M.room : Int) - (M.used : Int) := IntWalk.i64_in _ (by omega)
        go_enter Tryz.func109, Tryz.ntmps109
        go_wp2_with (go_at_call 123; refine hf.mono ?_; rintro e w1 ⟨v, rfl, rfl, rfl⟩)
        refine wpL_begin [8, 9] (fun w' => w'.cell? ⟨m, 0, none⟩ = some (.int .i64 M.room)) (by kernel_rfl) ?_
        have hG := c0
        refine wpL_pure (i := 0) (v := ?_) rfl (by kernel_rfl) (fun _ _ _ h => h) (Or.inl ⟨by rfl, ?_⟩) ?_; rotate_left; focus ((intro wq; go_simp); first | done | (with_reducible rfl))
        refine wpL_pure (i := 1) (v := ?_) rfl (by kernel_rfl) (fun _ _ _ h => h) (Or.inl ⟨by rfl, ?_⟩) ?_; rotate_left; focus ((intro wq; go_simp); first | done | (with_reducible rfl))
        refine wpL_pure (i := 2) (v := ?_) rfl (by kernel_rfl) (fun _ _ _ h => h) (Or.inl ⟨by rfl, ?_⟩) ?_; rotate_left; focus ((intro wq; go_simp); first | done | (with_reducible rfl))
        refine wpL_pure (i := 3) (v := ?_) rfl (by kernel_rfl) (fun _ _ _ h => h) (Or.inl ⟨by rfl, ?_⟩) ?_; rotate_left; focus ((intro wq; go_simp); first | done | (with_reducible rfl))
        refine wpL_pure (i := 4) (v := ?_) rfl (by kernel_rfl) (fun _ _ _ h => h) (Or.inl ⟨by rfl, ?_⟩) ?_; rotate_left; focus ((intro wq; go_simp); first | done | (with_reducible rfl))
        refine wpL_take (i := 5) (v := ?_) rfl (by kernel_rfl) (fun _ _ _ h => h) (Or.inl ⟨by rfl, ?_⟩) (by assumption) ?_; rotate_left; focus ((intro wq hq; go_split_ands; go_simp); first | done | (with_reducible rfl))
        refine wpL_pure (i := 6) (v := ?_) rfl (by kernel_rfl) (fun _ _ _ h => h) (Or.inl ⟨by rfl, ?_⟩) ?_; rotate_left; focus ((intro wq; go_simp); first | done | (with_reducible rfl))
        refine wpL_eff (i := 7) rfl (by kernel_rfl) (fun K hK => ?_)
        go_simp
        refine hu.mono ?_
        rintro e w1 ⟨v, rfl, rfl, hSu⟩
        refine hK _ _ (.inr (.inl (hSu.cellAt 0 _ rfl))) ?_
        clear hK K hG
        refine wpL_pure (i := 8) (v := ?_) rfl (by kernel_rfl) (fun _ _ _ h => h) (Or.inl ⟨by rfl, ?_⟩) ?_; rotate_left; focus ((intro wq; go_simp); first | done | (with_reducible rfl))
        refine wpL_pure (i := 9) (v := ?_) rfl (by kernel_rfl) (fun _ _ _ h => h) (Or.inl ⟨by rfl, ?_⟩) ?_; rotate_left; focus ((intro wq; go_simp); first | done | (with_reducible rfl))
        refine wpL_done (by kernel_rfl) ?_
        clear hwr
        go_wp2
        go_ret
        exact ⟨errno 11, rfl, by rw [Hfin.out], by rw [Hfin.out]; exact MedRep.shut hl hSu⟩
      have hfull' : decide ((M.room : Int) - M.used < lb.length) = false := by rw [decide_eq_false_iff_not]; exact hfull
      cases hstep : M.step.2
      · have Hfin : Hid (M.append s lb = (M.step.1, 12)) := by show _ = _; simp [Med.append, ho, hn, hfull, hstep]
        have Hs := Lib.hid hstep
        clear ho hn hstep hfull
        subst hbn
        have hwr : IntKind.i64.wrap ((M.room : Int) - (M.used : Int)) = (M.room : Int) - (M.used : Int) := IntWalk.i64_in _ (by omega)
        go_enter Tryz.func109, Tryz.ntmps109
        go_wp2_with (go_at_call 123; refine hf.mono ?_; rintro e w1 ⟨v, rfl, rfl, rfl⟩)
        refine wpL_begin [8, 9] (fun w' => w'.cell? ⟨m, 0, none⟩ = some (.int .i64 M.room)) (by kernel_rfl) ?_
        have hG := c0
        refine wpL_pure (i := 0) (v := ?_) rfl (by kernel_rfl) (fun _ _ _ h => h) (Or.inl ⟨by rfl, ?_⟩) ?_; rotate_left; focus ((intro wq; go_simp); first | done | (with_reducible rfl))
        refine wpL_pure (i := 1) (v := ?_) rfl (by kernel_rfl) (fun _ _ _ h => h) (Or.inl ⟨by rfl, ?_⟩) ?_; rotate_left; focus ((intro wq; go_simp); first | done | (with_reducible rfl))
        refine wpL_pure (i := 2) (v := ?_) rfl (by kernel_rfl) (fun _ _ _ h => h) (Or.inl ⟨by rfl, ?_⟩) ?_; rotate_left; focus ((intro wq; go_simp); first | done | (with_reducible rfl))
        refine wpL_pure (i := 3) (v := ?_) rfl (by kernel_rfl) (fun _ _ _ h => h) (Or.inl ⟨by rfl, ?_⟩) ?_; rotate_left; focus ((intro wq; go_simp); first | done | (with_reducible rfl))
        refine wpL_pure (i := 4) (v := ?_) rfl (by kernel_rfl) (fun _ _ _ h => h) (Or.inl ⟨by rfl, ?_⟩) ?_; rotate_left; focus ((intro wq; go_simp); first | done | (with_reducible rfl))
        refine wpL_take (i := 5) (v := ?_) rfl (by kernel_rfl) (fun _ _ _ h => h) (Or.inl ⟨by rfl, ?_⟩) (by assumption) ?_; rotate_left; focus ((intro wq hq; go_split_ands; go_simp); first | done | (with_reducible rfl))
        refine wpL_pure (i := 6) (v := ?_) rfl (by kernel_rfl) (fun _ _ _ h => h) (Or.inl ⟨by rfl, ?_⟩) ?_; rotate_left; focus ((intro wq; go_simp); first | done | (with_reducible rfl))
        refine wpL_eff (i := 7) rfl (by kernel_rfl) (fun K hK => ?_)
        go_simp
        refine hu.mono ?_
        rintro e w1 ⟨v, rfl, rfl, hSu⟩
        refine hK _ _ (.inr (.inl (hSu.cellAt 0 _ rfl))) ?_
        clear hK K hG
        refine wpL_pure (i := 8) (v := ?_) rfl (by kernel_rfl) (fun _ _ _ h => h) (Or.inl ⟨by rfl, ?_⟩) ?_; rotate_left; focus ((intro wq; go_simp); first | done | (with_reducible rfl))
        refine wpL_pure (i := 9) (v := ?_) rfl (by kernel_rfl) (fun _ _ _ h => h) (Or.inl ⟨by rfl, ?_⟩) ?_; rotate_left; focus ((intro wq; go_simp); first | done | (with_reducible rfl))
        refine wpL_done (by kernel_rfl) ?_
        clear hwr
        have hst := step_c hSu hM.left
        rw [Hs.out] at hst
        go_wp2_with (go_at_call 133; refine hst.mono ?_; rintro e w2 ⟨v, rfl, rfl, hS1⟩)
        go_ret
        refine ⟨errno 12, rfl, by rw [Hfin.out], ?_⟩
        rw [Hfin.out]
        exact MedRep.shut (bs := bs) (fb := fb) (nb := nb) (wv := wv) (by rw [M.step_same.2.2.2.1]; exact hl) (raw_step hS1)
      · have Hfin : Hid (M.append s lb = (M.step.1.setFile i ((M.file i).do ⟨false, 0, lb⟩), 0)) := by show _ = _; simp [Med.append, ho, hn, hfull, hstep]
        have Hs := Lib.hid hstep
        have hfe : M.step.1.file i = M.file i := by unfold Med.file; rw [M.step_same.2.2.2.1]
        have hokf := hM.file i
        have hbig : lb.length ≤ 16777216 := by omega
        clear ho hn hstep hfull
        subst hbn
        generalize hq : bs.getD i 0 = q at hf
        have Hq := Lib.hid hq; clear hq
        have Hfe := Lib.hid hfe; clear hfe
        have Hok := Lib.hid hokf; clear hokf
        have hwr : IntKind.i64.wrap ((M.room : Int) - (M.used : Int)) = (M.room : Int) - (M.used : Int) := IntWalk.i64_in _ (by omega)
        go_enter Tryz.func109, Tryz.ntmps109
        go_wp2_with (go_at_call 123; refine hf.mono ?_; rintro e w1 ⟨v, rfl, rfl, rfl⟩)
        refine wpL_begin [8, 9] (fun w' => w'.cell? ⟨m, 0, none⟩ = some (.int .i64 M.room)) (by kernel_rfl) ?_
        have hG := c0
        refine wpL_pure (i := 0) (v := ?_) rfl (by kernel_rfl) (fun _ _ _ h => h) (Or.inl ⟨by rfl, ?_⟩) ?_; rotate_left; focus ((intro wq; go_simp); first | done | (with_reducible rfl))
        refine wpL_pure (i := 1) (v := ?_) rfl (by kernel_rfl) (fun _ _ _ h => h) (Or.inl ⟨by rfl, ?_⟩) ?_; rotate_left; focus ((intro wq; go_simp); first | done | (with_reducible rfl))
        refine wpL_pure (i := 2) (v := ?_) rfl (by kernel_rfl) (fun _ _ _ h => h) (Or.inl ⟨by rfl, ?_⟩) ?_; rotate_left; focus ((intro wq; go_simp); first | done | (with_reducible rfl))
        refine wpL_pure (i := 3) (v := ?_) rfl (by kernel_rfl) (fun _ _ _ h => h) (Or.inl ⟨by rfl, ?_⟩) ?_; rotate_left; focus ((intro wq; go_simp); first | done | (with_reducible rfl))
        refine wpL_pure (i := 4) (v := ?_) rfl (by kernel_rfl) (fun _ _ _ h => h) (Or.inl ⟨by rfl, ?_⟩) ?_; rotate_left; focus ((intro wq; go_simp); first | done | (with_reducible rfl))
        refine wpL_take (i := 5) (v := ?_) rfl (by kernel_rfl) (fun _ _ _ h => h) (Or.inl ⟨by rfl, ?_⟩) (by assumption) ?_; rotate_left; focus ((intro wq hq; go_split_ands; go_simp); first | done | (with_reducible rfl))
        refine wpL_pure (i := 6) (v := ?_) rfl (by kernel_rfl) (fun _ _ _ h => h) (Or.inl ⟨by rfl, ?_⟩) ?_; rotate_left; focus ((intro wq; go_simp); first | done | (with_reducible rfl))
        refine wpL_eff (i := 7) rfl (by kernel_rfl) (fun K hK => ?_)
        go_simp
        refine hu.mono ?_
        rintro e w1 ⟨v, rfl, rfl, hSu⟩
        refine hK _ _ (.inr (.inl (hSu.cellAt 0 _ rfl))) ?_
        clear hK K hG
        refine wpL_pure (i := 8) (v := ?_) rfl (by kernel_rfl) (fun _ _ _ h => h) (Or.inl ⟨by rfl, ?_⟩) ?_; rotate_left; focus ((intro wq; go_simp); first | done | (with_reducible rfl))
        refine wpL_pure (i := 9) (v := ?_) rfl (by kernel_rfl) (fun _ _ _ h => h) (Or.inl ⟨by rfl, ?_⟩) ?_; rotate_left; focus ((intro wq; go_simp); first | done | (with_reducible rfl))
        refine wpL_done (by kernel_rfl) ?_
        clear hwr
        have hst := step_c hSu hM.left
        rw [Hs.out] at hst
        go_wp2_with (go_at_call 133; fail)
        refine hst.mono ?_
        rintro e w2 ⟨v, rfl, rfl, hS1⟩
        have hl' : bs.length = M.step.1.files.length := by rw [M.step_same.2.2.2.1]; exact hl
        have hid' : i < M.step.1.files.length := by rw [M.step_same.2.2.2.1]; exact hid
        obtain ⟨G, h1, h2⟩ := raw_file hl' hid' (raw_step hS1)
        rw [Hfe.out, Hq.out] at h1
        rw [Hq.out] at h2
        have hrd := Hr.out w2 (h1.sel 6 [] rfl rfl)
        have hcl := clone_c h1 hrd (by omega)
        go_wp2_with (go_at_call 134; fail)
        refine hcl.mono ?_
        rintro e w3 ⟨v2, rfl, hS2, a2, n2, k2, rfl⟩
        obtain ⟨fv, nv, wv', ws, hws, h3⟩ := FilRep.open hS2.pick1
        have hdo := do_c (bv := .slice a2 n2 k2) ⟨false, 0, lb⟩ (h3.sel 6 [0, 1, 2, 3, 4, 5] rfl rfl) hws ⟨(fun h => by cases h), fun _ => by have := Hok.out.now_len; simp only; omega⟩ (Nat.le_trans Hok.out.budget hK)
        clear h3 hws hst hcl hrd h1 hu
        go_wp2_with (go_at_call 149; go_must (refine hdo.mono ?_); rintro e w4 ⟨v4, rfl, hS4⟩)
        go_ret
        refine ⟨errno 0, rfl, by rw [Hfin.out], ?_⟩
        rw [Hfin.out]
        exact h2 _ _ hS4
  · obtain ⟨ba, bn, bc, rfl, hbn⟩ := ro_len hr h
    clear hbn
    have hf := find_off (s := s) hR ho
    have Hfin : Hid (M.append s lb = (M, 12)) := by show _ = _; simp [Med.append, ho]
    clear ho hr
    go_enter Tryz.func109, Tryz.ntmps109
    go_wp2_with (go_at_call 123; refine hf.mono ?_; rintro e w1 ⟨v, rfl, rfl, rfl⟩)
    go_ret
    exact ⟨errno 12, rfl, by rw [Hfin.out], by rw [Hfin.out]; exact h⟩
end
section
variable {w0 w : World} {F : List HProp} {m fb nb b r : Nat} {M : Med} {bs : List Nat} {wv v bv : Value} {s : ByteArray} {l : Names} {fs : List Fil} {K : Nat} {f : Fil}
end
section
variable {w0 w : World} {F : List HProp} {m fb nb b r : Nat} {M : Med} {bs : List Nat} {wv v bv lv : Value} {s : ByteArray} {fs : List Fil} {K : Nat} {f : Fil}
def ints (l : List Int) : List Value := l.map (.int .i64)
def inI (x : Int) : Prop := -9223372036854775808 ≤ x ∧ x ≤ 9223372036854775807
def nxs : Value → Value
  | .slice a (n + 1) c => .slice (if c = 1 then a else a.map (·.add 1)) n (c - 1)
  | v => v
def nxv (v : Value) : Nat → Value
  | 0 => v
  | j + 1 => nxs (nxv v j)
def capOk (v : Value) : Prop := ∃ a n c, v = .slice a n c ∧ n ≤ c ∧ c ≤ 9223372036854775807
theorem capOk.nxs {v : Value} (h : capOk v) : capOk (nxs v) := by
  obtain ⟨a, n, c, rfl, h1, h2⟩ := h
  cases n with
  | zero => exact ⟨a, 0, c, rfl, h1, h2⟩
  | succ n => exact ⟨_, n, c - 1, rfl, by omega, by omega⟩
theorem capOk.nxv {v : Value} (h : capOk v) : ∀ j, capOk (nxv v j)
  | 0 => h
  | j + 1 => (h.nxv j).nxs
theorem num_drop (l : List Int) (j : Nat) : num (l.drop j) 0 = num l j := by
  unfold num
  rw [List.getD_eq_getElem?_getD, List.getElem?_drop, List.getD_eq_getElem?_getD]; rfl
end
section
variable {w0 w : World} {F : List HProp} {m fb nb b r : Nat} {M : Med} {bs : List Nat} {wv v bv lv : Value} {s : ByteArray} {fs : List Fil} {f : Fil}
end
section
variable {w0 w : World} {F : List HProp} {m fb nb b r : Nat} {M : Med} {bs : List Nat} {wv v bv lv av : Value} {s : ByteArray} {fs : List Fil} {K : Nat} {f : Fil}
theorem rdsl_cell {a : Option Addr} {n c : Nat} {xs : List Value} (h : rdsl 1 (.slice a n c) xs w) {i : Nat} {x : Value} (hi : xs[i]? = some x) :
    ∃ bk off, a = some ⟨bk, off, none⟩ ∧ w.cell? ⟨bk, off + i, none⟩ = some x := by
  obtain ⟨a', n', c', he, hl, hx⟩ := h
  cases he
  obtain ⟨b, rfl, hc⟩ := hx i x hi
  have hlt : i < xs.length := (List.getElem?_eq_some_iff.1 hi).1
  obtain ⟨y, hy⟩ : ∃ y, xs[0]? = some y := ⟨xs[0]'(by omega), List.getElem?_eq_getElem _⟩
  obtain ⟨b', hb', hc0⟩ := hx 0 y hy
  cases hb'
  obtain ⟨bk, off, spot⟩ := b
  have hs : spot = none := by simpa [Addr.add] using World.cell?_spot hc0
  subst hs
  refine ⟨bk, off, rfl, ?_⟩
  unfold Addr.add at hc
  split at hc
  · rename_i h0; subst h0; exact hc
  · exact hc
theorem cut_c (a : Option Addr) (n c k : Nat) (h1 : n ≤ c) (h2 : c ≤ 9223372036854775807) (w : World) :
    Calls Tryz.prog 106 #[.slice a n c, .int .i64 k] w (Rtn fun v w' => v = .slice a (min n k) c ∧ w = w') := by
  by_cases hk : k < n
  · have hk1 : (k : Int) < (n : Int) := by omega
    have hk2 : (k : Int) ≤ (c : Int) := by omega
    have e := Lib.hid (show min n k = k by omega)
    go_enter Tryz.func106, Tryz.ntmps106
    go_wp2
    go_ret
    exact ⟨.slice a k c, rfl, by rw [e.out], rfl⟩
  · have hk1 : ¬ (k : Int) < (n : Int) := by omega
    have e := Lib.hid (show min n k = n by omega)
    go_enter Tryz.func106, Tryz.ntmps106
    go_wp2
    go_ret
    exact ⟨.slice a n c, rfl, by rw [e.out], rfl⟩
theorem rdsl_min {a : Option Addr} {n c : Nat} {xs : List Value} (h : rdsl 1 (.slice a n c) xs w) (k : Nat) : rdsl 1 (.slice a (min n k) c) (xs.take k) w := by
  obtain ⟨a', n', c', he, hl, hx⟩ := h
  cases he
  refine ⟨a, min n k, c, rfl, by rw [List.length_take]; omega, fun i x hi => ?_⟩
  rw [List.getElem?_take] at hi
  split at hi
  · exact hx i x hi
  · cases hi
end
section
variable {w0 w : World} {F : List HProp} {m fb nb b r : Nat} {M : Med} {bs : List Nat} {wv v bv : Value} {s : ByteArray} {fs : List Fil} {K : Nat}
def within (x lo hi : Int) : Int := if x < lo then lo else if hi < x then hi else x
theorem within_c (x lo hi : Int) (w : World) : Calls Tryz.prog 12 #[.int .i64 x, .int .i64 lo, .int .i64 hi] w (Rtn fun v w' => v = .int .i64 (within x lo hi) ∧ w = w') := by
  by_cases h1 : x < lo
  · have e := Lib.hid (show within x lo hi = lo by simp [within, h1])
    go_enter Tryz.func12, Tryz.ntmps12
    go_wp2
    go_ret
    exact ⟨.int .i64 lo, rfl, by rw [e.out], rfl⟩
  · by_cases h2 : hi < x
    · have e := Lib.hid (show within x lo hi = hi by simp [within, h1, h2])
      go_enter Tryz.func12, Tryz.ntmps12
      go_wp2
      go_ret
      exact ⟨.int .i64 hi, rfl, by rw [e.out], rfl⟩
    · have e := Lib.hid (show within x lo hi = x by simp [within, h1, h2])
      go_enter Tryz.func12, Tryz.ntmps12
      go_wp2
      go_ret
      exact ⟨.int .i64 x, rfl, by rw [e.out], rfl⟩
set_option maxHeartbeats 1000000 in
theorem copy_c (h : Sat w0 w F) (l : Bs) (hr : rdsl 1 bv (bys l) w) (hl : l.length ≤ 1099511627776) :
    Calls Tryz.prog 96 #[bv] w (Rtn fun v w' => Sat w0 w' (bsl v l :: F) ∧ ∃ a n c, v = .slice a n c) := by
  obtain ⟨i, hi, hz0, hz1, hz2⟩ := info8p
  obtain ⟨a, n, c, rfl, hn, _⟩ := id hr
  rw [bys_len, Nat.mul_one] at hn
  have h0 : Sat w0 w (osl 5 1 (.slice none 0 0) [] :: F) := Sat.osl_nil.2 h
  have h63 : ([] : List Value).length + (bys l).length ≤ maxLen := by rw [bys_len]; unfold maxLen; simp; omega
  have hby : (([] : List Value).length + (bys l).length) * i.bytes ≤ 140737488355328 := by rw [bys_len, hz2]; simp; omega
  have Hn := Lib.hid hn; clear hn
  go_enter Tryz.func96, Tryz.ntmps96
  go_wp2_with (at_builtin; go_must (refine wpList_append (w0 := w0) (by rfl) _ _ _ (by rfl) _ i _ Tryz.underlying42 hi hz0 hz1 (by rfl) (by omega) (by rfl) (by rfl) (bys_one _) h0 hr h63 hby ?_); intro v2 w2 hS2 hne)
  obtain ⟨a2, n2, c2, rfl, _⟩ := id hS2.rd
  go_wp2
  go_ret
  exact ⟨_, rfl, hS2, _, _, _, rfl⟩
end
section
variable {w0 w : World} {F : List HProp} {v bv : Value}
def Half (w : World) : Prop := ∀ i, i < 16 → w.cell? ⟨0, i, none⟩ = some (.int .u32 (Frm.half.getD i 0 : Nat))
theorem not_u32 (s : Nat) (hs : s < 4294967296) : bits .xor .u32 IntKind.u32.max (s : Int) = ((4294967295 - s : Nat) : Int) := by
  have h1 : IntKind.u32.max = ((4294967295 : Nat) : Int) := by decide
  rw [h1, u32_xor_nat _ _ (by omega) hs]
  congr 1
  have h2 : (4294967295 ^^^ s) = (BitVec.allOnes 32 ^^^ BitVec.ofNat 32 s).toNat := by
    rw [BitVec.toNat_xor, BitVec.toNat_allOnes, BitVec.toNat_ofNat, Nat.mod_eq_of_lt hs]
  rw [h2, BitVec.allOnes_xor, BitVec.toNat_not, BitVec.toNat_ofNat, Nat.mod_eq_of_lt hs]
theorem and15 (y : Nat) (hy : y < 4294967296) : bits .and .u32 (y : Int) 15 = ((y % 16 : Nat) : Int) := by
  have := u32_and_nat y 15 hy (by omega)
  rw [nat_mask4] at this
  exact this
theorem xor_half (y h : Nat) (hy : y < 4294967296) (hh : h < 4294967296) : bits .xor .u32 ((y : Int) / 16) (h : Int) = ((y / 16 ^^^ h : Nat) : Int) := by
  have := u32_xor_nat (y / 16) h (by omega) hh
  rw [← this]
  rfl
set_option maxHeartbeats 1000000 in
theorem crcAdd_c (s : Nat) (hs : s < 4294967296) (l : Bs) (hH : Ro w0 F Half) (hr : Ro w0 F (rdsl 1 bv (bys l))) (h : Sat w0 w F) (hl : l.length ≤ 1099511627776) :
    Calls Tryz.prog 161 #[.int .u32 s, bv] w (Rtn fun v w' => v = .int .u32 (Frm.crcAdd s l : Nat) ∧ w = w') := by
  obtain ⟨a, n, c, rfl, hn, _⟩ := id (hr w h)
  rw [bys_len, Nat.mul_one] at hn
  subst hn
  have hnot := not_u32 s hs
  obtain ⟨t0, ht0⟩ : ∃ t0, t0 = 4294967295 - s := ⟨_, rfl⟩
  rw [← ht0] at hnot
  have ht : t0 < 4294967296 := by omega
  have Hr := Lib.hid hr; have hHw := Lib.hid (hH w h); have Hl := Lib.hid hl; have Ht := Lib.hid ht; have Ht0 := Lib.hid ht0
  clear hr hH hl hs ht ht0
  go_enter Tryz.func161, Tryz.ntmps161
  go_wp2_with fail
  clear hnot
  go_loopg [5, 12] l.length (fun g xv iq wr => ∃ (i : Nat), g = l.length - i ∧ i ≤ l.length ∧ iq = .int .i64 i ∧ xv = .int .u32 ((l.take i).foldl Frm.crcStep t0 : Nat) ∧ wr = w)
  case atStart => exact ⟨0, rfl, Nat.zero_le _, rfl, rfl, rfl⟩
  case round =>
    obtain ⟨i, rfl, hi, rfl, rfl, rfl⟩ := hrel
    have hxlt : (l.take i).foldl Frm.crcStep t0 < 4294967296 := Frm.foldl_lt _ _ Ht.out
    by_cases hi' : i < l.length
    · have hb : (bys l)[i]? = some (.int .u8 (l[i]'hi').toNat) := by unfold bys; simp [hi']
      obtain ⟨bk, off, rfl, c1⟩ := rdsl_cell (Hr.out _ h) hb
      have hnext : (l.take (i + 1)).foldl Frm.crcStep t0 = Frm.fold4 (Frm.fold4 ((l.take i).foldl Frm.crcStep t0 ^^^ (l[i]'hi').toNat)) := by
        rw [List.take_succ_eq_append_getElem hi', List.foldl_append]; rfl
      have hic : (i : Int) < (l.length : Int) := by omega
      have hwi : IntKind.i64.wrap ((i : Int) + 1) = (i : Int) + 1 := IntWalk.i64_in _ (by have h1 := Hl.out; omega)
      have hcb := (l[i]'hi').toNat_lt
      have Hnext := Lib.hid hnext
      clear hb hnext
      generalize (l[i]'hi').toNat = cb at *
      generalize (l.take i).foldl Frm.crcStep t0 = x at *
      have e1 := u32_xor_nat x cb hxlt (by omega)
      have hy1 : x ^^^ cb < 4294967296 := Frm.xor_lt hxlt (by omega)
      unfold Frm.fold4 at Hnext
      generalize x ^^^ cb = y1 at *
      have e2 := and15 y1 hy1
      have hz1 : y1 % 16 < 16 := Nat.mod_lt _ (by omega)
      have g1 := hHw.out (y1 % 16) hz1
      have e3 := xor_half y1 _ hy1 (Frm.half_lt (y1 % 16))
      have hy2 : y1 / 16 ^^^ Frm.half.getD (y1 % 16) 0 < 4294967296 := Frm.xor_lt (by omega) (Frm.half_lt _)
      generalize Frm.half.getD (y1 % 16) 0 = h1 at *
      generalize y1 % 16 = z1 at *
      generalize y1 / 16 ^^^ h1 = y2 at *
      have e4 := and15 y2 hy2
      have hz2 : y2 % 16 < 16 := Nat.mod_lt _ (by omega)
      have g2 := hHw.out (y2 % 16) hz2
      have e5 := xor_half y2 _ hy2 (Frm.half_lt (y2 % 16))
      generalize Frm.half.getD (y2 % 16) 0 = h2 at *
      generalize y2 % 16 = z2 at *
      generalize y2 / 16 ^^^ h2 = y3 at *
      have hcm : (cb : Int) % 4294967296 = (cb : Int) := by omega
      have hz1i : (z1 : Int) < 16 := by omega
      have hz2i : (z2 : Int) < 16 := by omega
      clear hxlt hy1 hy2 hcb
      go_wp2
      go_roundg (l.length - (i + 1))
      case measure => omega
      case rel => exact ⟨i + 1, rfl, Nat.succ_le_of_lt hi', by first | rfl | go_num, by rw [Hnext.out], rfl⟩
    · obtain rfl : i = l.length := by omega
      have hic : ¬ (l.length : Int) < (l.length : Int) := by omega
      rw [List.take_length] at *
      have hn2 := not_u32 _ hxlt
      have hfin : Frm.crcAdd s l = 4294967295 - l.foldl Frm.crcStep t0 := by unfold Frm.crcAdd; rw [Ht0.out]
      rw [← hfin] at hn2
      generalize l.foldl Frm.crcStep t0 = x at *
      clear hi hi' hxlt hfin
      go_wp2
      go_ret
      exact ⟨_, rfl, rfl, rfl⟩
theorem crc_c (l : Bs) (hH : Ro w0 F Half) (hr : Ro w0 F (rdsl 1 bv (bys l))) (h : Sat w0 w F) (hl : l.length ≤ 1099511627776) :
    Calls Tryz.prog 127 #[bv] w (Rtn fun v w' => v = .int .u32 (Frm.crc l : Nat) ∧ w = w') := by
  have ha := crcAdd_c 0 (by omega) l hH hr h hl
  have hcast : ((0 : Nat) : Int) = 0 := rfl
  rw [hcast] at ha
  clear hcast
  obtain ⟨a, n, c, rfl, hn, _⟩ := id (hr w h)
  go_enter Tryz.func127, Tryz.ntmps127
  go_wp2_with fail
  refine ha.mono ?_
  rintro e w1 ⟨v, rfl, rfl, rfl⟩
  clear ha
  go_wp2
  go_ret
  exact ⟨_, rfl, rfl, rfl⟩
end
section
variable {w0 w : World} {F : List HProp} {m fb nb b r : Nat} {M : Med} {bs : List Nat} {wv v bv : Value} {s : ByteArray} {l : Names} {fs : List Fil} {K : Nat}
end
section
variable {w0 w W : World} {F : List HProp} {m fb nb b r : Nat} {M P : Med} {bs : List Nat} {wv v bv dv av cv nv ov lv : Value} {s : ByteArray} {fs : List Fil} {K : Nat} {f : Fil}
theorem bsl_cap {l : Bs} (h : Sat w0 w (bsl v l :: F)) : capOk v := by
  rcases Sat.osl_cases h with ⟨rfl, _⟩ | ⟨b, n', cap', cs, rfl, _, hn, _, hcm, _, _⟩
  · exact ⟨_, 0, 0, rfl, Nat.le_refl _, by omega⟩
  · exact ⟨_, _, _, rfl, hn, hcm⟩
theorem flat_get {α β : Type} (f : α → List β) (k : Nat) (hk : ∀ x, (f x).length = k) : ∀ (xs : List α) (i : Nat) (x : α) (j : Nat), xs[i]? = some x → j < k → (xs.flatMap f)[i * k + j]? = (f x)[j]?
  | [], _, _, _, h, _ => by cases h
  | y :: xs, 0, x, j, h, hj => by
    simp at h; subst h
    rw [List.flatMap_cons, Nat.zero_mul, Nat.zero_add, List.getElem?_append_left (by rw [hk]; exact hj)]
  | y :: xs, i + 1, x, j, h, hj => by
    rw [List.flatMap_cons, List.getElem?_append_right (by rw [hk, Nat.succ_mul]; omega), hk]
    have : (i + 1) * k + j - k = i * k + j := by rw [Nat.succ_mul]; omega
    rw [this]
    exact flat_get f k hk xs i x j (by simpa using h) hj
def shortS (s : ByteArray) (n : Nat) : ByteArray := if n < s.size then s.extract 0 n else s
theorem xor_u8 (x y : UInt8) : bits .xor .u8 (x.toNat : Int) (y.toNat : Int) = ((x ^^^ y).toNat : Int) := by
  rw [u8_xor_nat _ _ x.toNat_lt y.toNat_lt, UInt8.toNat_xor]
theorem osl_set {T sz : Nat} {g n c : Nat} {xs : List Value} (h : Sat w0 w (osl T sz (.slice (some ⟨g, 0, none⟩) n c) xs :: F)) (i : Nat) (x : Value) :
    w.frozen? ⟨g, i, none⟩ = false ∧ (∀ y, xs[i]? = some y → w.cell? ⟨g, i, none⟩ = some y) ∧ Sat w0 (w.setCell ⟨g, i, none⟩ x) (osl T sz (.slice (some ⟨g, 0, none⟩) n c) (xs.set i x) :: F) := by
  rcases Sat.osl_cases h with ⟨he, _⟩ | ⟨g', n', cap', cs, he, h1, h2, h3, h4, h5, h6⟩
  · cases he
  · cases he
    refine ⟨h6.freeAt i, fun y hy => h6.cellAt i _ (take_get h5 hy), ?_⟩
    refine Sat.osl_of_pt (h6.set i x) (by rw [List.length_set]; exact h1) h2 (by simpa using h3) h4 ?_
    rw [Array.toList_setIfInBounds, List.take_set, h5]
theorem bsl_cap' {l : Bs} (h : Sat w0 w (bsl v l :: F)) : ∃ a n c, v = .slice a n c ∧ n ≤ c ∧ c ≤ 9223372036854775807 ∧ n = l.length := by
  rcases Sat.osl_cases h with ⟨rfl, hx, _⟩ | ⟨b, n', cap', cs, rfl, hl, hn, hc, hcm, _, _⟩
  · refine ⟨_, 0, 0, rfl, Nat.le_refl _, by omega, ?_⟩
    have : (bys l).length = 0 := by rw [hx]; rfl
    rw [bys_len] at this; exact this.symm
  · refine ⟨_, _, _, rfl, hn, hcm, ?_⟩
    rw [bys_len, Nat.mul_one] at hl; exact hl.symm
theorem strs_at {l : List ByteArray} {i : Nat} {x : ByteArray} (h : l[i]? = some x) : (strs l)[i]? = some (.string x) := by
  unfold strs
  rw [List.getElem?_map, h]; rfl
theorem strs_len (l : List ByteArray) : (strs l).length = l.length := by unfold strs; simp
def bsz (vs : List Value) (bs : List Bs) : HProp := stars (List.zipWith bsl vs bs)
theorem Ro.more {p : World → Prop} {L : List HProp} (h : Ro w0 F p) : Ro w0 (L ++ F) p := by
  induction L with
  | nil => exact h
  | cons A L ih => exact ih.cons
theorem all_len (hM : P.Ok K) (s : ByteArray) : (P.all s).1.length ≤ 16777216 := by
  unfold Med.all
  split
  · simp
  · split
    · simp
    · exact (hM.file _).now_len
theorem within_nat (z : Int) (hi : Nat) : ∃ R : Nat, within z 0 hi = (R : Int) ∧ R ≤ hi := by
  unfold within
  split
  · exact ⟨0, rfl, Nat.zero_le _⟩
  · split
    · exact ⟨hi, rfl, Nat.le_refl _⟩
    · exact ⟨z.toNat, by omega, by omega⟩
end
section
variable {w0 w : World} {F : List HProp} {v bv : Value}
end
end Go.Proofs.YtmjldaedhmipkaaGreatDoor
namespace Go.Proofs.YtmjldaedhmipkaaGreatDoor
open Go Go.Sl Go.Med Go.ChangeShapes Go.WideShapes Go.RowKit
section
variable {H : Type} {enc : TypeId × Value → H} {P : Program} {W : World} {base : Nat} {spare : Nat → Bool} {held : Bool}
theorem flatten_idx {α : Type} (k : Nat) (hk : 0 < k) : ∀ (xs : List (List α)) (_ : ∀ x ∈ xs, x.length = k) (i : Nat) (y : α), xs.flatten[i]? = some y → ∃ x, xs[i / k]? = some x ∧ x[i % k]? = some y
  | [], _, _, _, h => by simp at h
  | x :: xs, hl, i, y, h => by
    have hx := hl x (.head _)
    rw [List.flatten_cons] at h
    rcases Nat.lt_or_ge i k with hi | hi
    · rw [List.getElem?_append_left (by omega)] at h
      refine ⟨x, ?_, ?_⟩
      · rw [Nat.div_eq_of_lt hi]; rfl
      · rw [Nat.mod_eq_of_lt hi]; exact h
    · rw [List.getElem?_append_right (by omega), hx] at h
      obtain ⟨z, h1, h2⟩ := flatten_idx k hk xs (fun q hq => hl q (.tail _ hq)) (i - k) y h
      have e1 : i / k = (i - k) / k + 1 := by
        conv => lhs; rw [show i = (i - k) + k by omega]
        rw [Nat.add_div_right _ hk]
      have e2 : i % k = (i - k) % k := Nat.mod_eq_sub_mod hi
      exact ⟨z, by rw [e1]; exact h1, by rw [e2]; exact h2⟩
theorem flatten_len {α : Type} (k : Nat) : ∀ (xs : List (List α)) (_ : ∀ x ∈ xs, x.length = k), xs.flatten.length = xs.length * k
  | [], _ => by simp
  | x :: xs, hl => by
    rw [List.flatten_cons, List.length_append, flatten_len k xs (fun q hq => hl q (.tail _ hq)), hl x (.head _), List.length_cons, Nat.succ_mul]; omega
theorem list_of_fun {α : Type} {n : Nat} {p : Nat → α → Prop} (h : ∀ i, i < n → ∃ x, p i x) : ∃ l : List α, l.length = n ∧ ∀ i x, l[i]? = some x → p i x := by
  induction n with
  | zero => exact ⟨[], rfl, fun i x h => by simp at h⟩
  | succ n ih =>
    obtain ⟨l, h1, h2⟩ := ih fun i hi => h i (Nat.lt_succ_of_lt hi)
    obtain ⟨x, hx⟩ := h n (Nat.lt_succ_self n)
    refine ⟨l ++ [x], by simp [h1], fun i y hy => ?_⟩
    rcases Nat.lt_trichotomy i n with hlt | rfl | hgt
    · rw [List.getElem?_append_left (by omega)] at hy; exact h2 i y hy
    · rw [List.getElem?_append_right (by omega), h1, Nat.sub_self] at hy
      cases hy; exact hx
    · rw [List.getElem?_eq_none (by simp; omega)] at hy; cases hy
theorem open_sl {t e : TypeId} {k fuel : Nat} {v : Value} {x : DataW H × List MemPlace} (ht : P.underlying t = some (.slice e)) (hc : P.cellsOf e = k) (hk : 0 < k) (h : DataW.trod enc P W base spare held fuel t [v] = some x) :
    ∃ elems : List (List Value), rdsl k v elems.flatten W ∧ capOk v ∧ ∀ cs ∈ elems, cs.length = k ∧ ∃ n y, DataW.trod enc P W base spare held n e cs = some y := by
  rcases Go.Deep.open_slice ht h with ⟨hcs, _⟩ | ⟨a, len, cap, m, n, D, Pl, hcs, hb, hl, hm, hmm, _, hx⟩
  · obtain rfl : v = .slice none 0 0 := by simpa using hcs
    exact ⟨[], rdsl_nil _ _ _, ⟨_, _, _, rfl, Nat.le_refl _, by omega⟩, by simp⟩
  · obtain rfl : v = .slice (some a) len cap := by simpa using hcs
    have hlm : len ≤ m := by rw [hmm]; split <;> omega
    rw [hc] at hx
    obtain ⟨l, l1, l2⟩ := list_of_fun (n := len) fun i hi => hx i (by omega)
    have hlen : ∀ cs ∈ l, cs.length = k := by
      intro cs hcs
      obtain ⟨i, hi, rfl⟩ := List.getElem_of_mem hcs
      obtain ⟨h1, _⟩ := l2 i _ (List.getElem?_eq_getElem hi)
      exact (World.cells?_some h1).2.1
    refine ⟨l, ⟨some a, len, cap, rfl, by rw [flatten_len k l hlen, l1], fun i y hy => ⟨a, rfl, ?_⟩⟩, ⟨_, _, _, rfl, hl, by unfold maxLen at hm; omega⟩, fun cs hcs => ⟨hlen cs hcs, ?_⟩⟩
    · obtain ⟨cs, h1, h2⟩ := flatten_idx k hk l hlen i y hy
      obtain ⟨h3, _⟩ := l2 _ _ h1
      have h4 := (World.cells?_some h3).2.2 (i % k) (Nat.mod_lt _ hk)
      rw [Go.Deep.add_add, h2] at h4
      rw [← h4]
      congr 2
      rw [Nat.mul_comm]; exact (Nat.div_add_mod i k).symm
    · obtain ⟨i, hi, rfl⟩ := List.getElem_of_mem hcs
      obtain ⟨_, h2⟩ := l2 i _ (List.getElem?_eq_getElem hi)
      exact ⟨n, _, h2⟩
theorem open_fields {t : TypeId} {fs : Array Field} {fuel : Nat} {cs : List Value} {x : DataW H × List MemPlace} (ht : P.underlying t = some (.struct fs)) (h : DataW.trod enc P W base spare held fuel t cs = some x) :
    cs.length = P.cellsOf t ∧ ∀ (i : Nat) (f : Field), fs[i]? = some f → ∃ n y, DataW.trod enc P W base spare held n f.type ((cs.drop f.offset).take (P.cellsOf f.type)) = some y := by
  obtain ⟨xs, n, _, _, hl, hxl, hf⟩ := DataW.trod_struct ht h
  refine ⟨hl, fun i f hi => ⟨n, ?_⟩⟩
  have hlt : i < xs.length := by rw [hxl]; exact (Array.getElem?_eq_some_iff.1 hi).1
  exact ⟨xs[i], by rw [hf i f hi]; exact List.getElem?_eq_getElem hlt⟩
theorem map_of {α β : Type} {f : α → β} {p : α → Prop} : ∀ (l : List β) (_ : ∀ y ∈ l, ∃ x, f x = y ∧ p x), ∃ xs : List α, xs.map f = l ∧ ∀ x ∈ xs, p x
  | [], _ => ⟨[], rfl, by simp⟩
  | y :: l, h => by
    obtain ⟨x, h1, h2⟩ := h y (.head _)
    obtain ⟨xs, h3, h4⟩ := map_of l fun z hz => h z (.tail _ hz)
    refine ⟨x :: xs, by simp [h1, h3], fun z hz => ?_⟩
    rcases List.mem_cons.1 hz with rfl | hz
    · exact h2
    · exact h4 z hz
def toBs (zs : List Int) : Bs := zs.map fun z => UInt8.ofNat z.toNat
theorem bys_toBs {zs : List Int} (h : ∀ z ∈ zs, (Lit.int .u8 z).wf = true) : bys (toBs zs) = zs.map (.int .u8) := by
  unfold bys toBs
  rw [List.map_map]
  apply List.map_congr_left
  intro z hz
  have hb := bounds_u8 (h z hz)
  simp only [Function.comp, Value.int.injEq, true_and]
  rw [UInt8.toNat_ofNat']
  omega
theorem in_kind {t e : TypeId} {k : IntKind} {fuel : Nat} {v : Value} {x : DataW H × List MemPlace} (ht : P.underlying t = some (.slice e)) (he : P.underlying e = some (.int k)) (hc : P.cellsOf e = 1) (h : DataW.trod enc P W base spare held fuel t [v] = some x) :
    ∃ l : List Int, rdsl 1 v (l.map (.int k)) W ∧ capOk v ∧ ∀ z ∈ l, (Lit.int k z).wf = true := by
  obtain ⟨elems, h1, h2, h3⟩ := open_sl ht hc (by omega) h
  obtain ⟨l, h4, h5⟩ := map_of (f := fun z : Int => [Value.int k z]) (p := fun z => (Lit.int k z).wf = true) elems fun cs hcs => by
    obtain ⟨_, n, y, h6⟩ := h3 cs hcs
    obtain ⟨z, hz, _, hw⟩ := DataW.trod_int he h6
    exact ⟨z, hz.symm, hw⟩
  refine ⟨l, ?_, h2, h5⟩
  rw [← h4] at h1
  have : (l.map fun z : Int => [Value.int k z]).flatten = l.map (.int k) := by
    clear h1 h4 h5
    induction l with
    | nil => rfl
    | cons z l ih => simp only [List.map_cons, List.flatten_cons, ih]; rfl
  rw [this] at h1
  exact h1
theorem in_bys {t e : TypeId} {fuel : Nat} {v : Value} {x : DataW H × List MemPlace} (ht : P.underlying t = some (.slice e)) (he : P.underlying e = some (.int .u8)) (hc : P.cellsOf e = 1) (h : DataW.trod enc P W base spare held fuel t [v] = some x) :
    ∃ l : Bs, rdsl 1 v (bys l) W ∧ capOk v := by
  obtain ⟨l, h1, h2, h3⟩ := in_kind ht he hc h
  exact ⟨toBs l, by rw [bys_toBs h3]; exact h1, h2⟩
theorem cell_old {w : World} {a : Addr} {v : Value} (h : Sat W w [Sl.old W]) (hc : W.cell? a = some v) : w.cell? a = some v := by
  have hlt : a.block < W.heap.size := by
    rcases Nat.lt_or_ge a.block W.heap.size with h1 | h1
    · exact h1
    · unfold World.cell? at hc
      rw [Array.getElem?_eq_none h1] at hc
      simp at hc
  unfold World.cell? at hc ⊢
  rw [h.old hlt]; exact hc
theorem rd_old {v : Value} {k : Nat} {xs : List Value} (h : rdsl k v xs W) : Ro W [Sl.old W] (rdsl k v xs) := by
  intro w hw
  obtain ⟨a, n, c, he, hl, hx⟩ := h
  refine ⟨a, n, c, he, hl, fun i x hi => ?_⟩
  obtain ⟨b, hb, hc⟩ := hx i x hi
  exact ⟨b, hb, cell_old hw hc⟩
theorem own : ownKnob Tryz.prog.godebug = none := by kernel_rfl
theorem laidOut : laidOutB Tryz.prog = true := by kernel_rfl
end
end Go.Proofs.YtmjldaedhmipkaaGreatDoor
namespace Go.Proofs.YtmjldaedhmipkaaGreatDoor
open Go Go.Sl Go.Med Go.MapKept Go.RowKit
section
variable {w0 w : World} {F : List HProp} {v bv dv : Value} {q : Nat}
section
variable {P : Program}
theorem run_part_int {e : TypeId} {k : IntKind} (he : P.underlying e = some (.int k)) (xs : Array Value) (i : Nat) (v : Value) (hv : xs[i]? = some v) (w : World) : (part e xs i).run P w = .ok v w := by
  unfold part isAgg
  simp [Sem.run_bind, run_underlying he, hv]
theorem run_eqItems_int (d : Nat) {e : TypeId} {k : IntKind} (he : P.underlying e = some (.int k)) (ks ls : List Int) : ∀ (is : List Nat), (∀ i ∈ is, i < ks.length ∧ i < ls.length) → ∀ w,
    (Op.eqItems (d + 1) e 1 (ks.map (.int k)).toArray (ls.map (.int k)).toArray is).run P w = .ok (is.all fun i => ks.getD i 0 == ls.getD i 0) w
  | [], _, w => by simp [Op.eqItems]
  | i :: is, h, w => by
    obtain ⟨h1, h2⟩ := h i (.head _)
    have a1 : ((ks.map (Value.int k)).toArray)[i * 1]? = some (.int k (ks.getD i 0)) := by
      rw [Nat.mul_one, List.getElem?_toArray, List.getElem?_map, List.getElem?_eq_getElem h1, List.getD_eq_getElem?_getD, List.getElem?_eq_getElem h1]; rfl
    have a2 : ((ls.map (Value.int k)).toArray)[i * 1]? = some (.int k (ls.getD i 0)) := by
      rw [Nat.mul_one, List.getElem?_toArray, List.getElem?_map, List.getElem?_eq_getElem h2, List.getD_eq_getElem?_getD, List.getElem?_eq_getElem h2]; rfl
    unfold Op.eqItems
    simp only [Sem.run_bind, run_part_int he _ _ _ a1, run_part_int he _ _ _ a2, Result.andThen_ok, run_equalIn_int w d e k k _ _ he]
    have ih := run_eqItems_int d he ks ls is (fun j hj => h j (.tail _ hj)) w
    cases hb : (ks.getD i 0 == ls.getD i 0)
    · simp only [List.all_cons, hb, Bool.not_false, if_true, Sem.run_pure, Bool.false_and]
    · simp only [List.all_cons, hb, Bool.not_true, Bool.false_eq_true, if_false, ih, Bool.true_and]
theorem all_eq (ks ls : List Int) (h : ks.length = ls.length) : ((List.range ks.length).all fun i => ks.getD i 0 == ls.getD i 0) = decide (ks = ls) := by
  rw [Bool.eq_iff_iff, List.all_eq_true, decide_eq_true_eq]
  constructor
  · intro hh
    apply List.ext_getElem h
    intro i h1 h2
    have := hh i (List.mem_range.2 h1)
    rw [beq_iff_eq, List.getD_eq_getElem?_getD, List.getD_eq_getElem?_getD, List.getElem?_eq_getElem h1, List.getElem?_eq_getElem h2] at this
    exact this
  · rintro rfl i _
    simp
theorem run_neq_ints {t e : TypeId} {n : Nat} {k : IntKind} {i : TypeInfo} (hu : P.underlying t = some (.array n e)) (he : P.underlying e = some (.int k)) (hi : P.info? e = some i) (hc : P.cellsOf e = 1) (ks ls : List Int) (h1 : ks.length = n) (h2 : ls.length = n) (w : World) :
    (binOp .neq t (.agg (ks.map (.int k)).toArray) (.agg (ls.map (.int k)).toArray)).run P w = .ok (.bool (!decide (ks = ls))) w := by
  have h := run_equalIn_array (P := P) w 9999 (ks.map (.int k)).toArray (ls.map (.int k)).toArray hu hi
  rw [hc, run_eqItems_int 9998 he ks ls (List.range n) (fun i hi => by have := List.mem_range.1 hi; omega)] at h
  rw [run_neq_struct, h, ← h1, all_eq ks ls (by omega)]
  rfl
theorem run_eqIn_ints {t e : TypeId} {n : Nat} {k : IntKind} {i : TypeInfo} (hu : P.underlying t = some (.array n e)) (he : P.underlying e = some (.int k)) (hi : P.info? e = some i) (hc : P.cellsOf e = 1) (ks ls : List Int) (h1 : ks.length = n) (h2 : ls.length = n) (w : World) :
    (Op.equalIn 10000 t (.agg (ks.map (.int k)).toArray) (.agg (ls.map (.int k)).toArray)).run P w = .ok (decide (ks = ls)) w := by
  have h := run_equalIn_array (P := P) w 9999 (ks.map (.int k)).toArray (ls.map (.int k)).toArray hu hi
  rw [hc, run_eqItems_int 9998 he ks ls (List.range n) (fun i hi => by have := List.mem_range.1 hi; omega)] at h
  rw [h, ← h1, all_eq ks ls (by omega)]
end
def entL (x : Frm.Ent) (dv : Value) : List Value := .int .i64 x.tag :: (bys x.key ++ [dv])
def entA (x : Frm.Ent) (dv : Value) : Array Value := (entL x dv).toArray
theorem entA_size (x : Frm.Ent) (dv : Value) (hk : x.key.length = 32) : (entA x dv).size = 34 := by unfold entA entL; simp [bys, hk]
theorem entA_0 (x : Frm.Ent) (dv : Value) : (entA x dv)[0]? = some (.int .i64 x.tag) := rfl
theorem entA_33 (x : Frm.Ent) (dv : Value) (hk : x.key.length = 32) : (entA x dv)[33]? = some dv := by
  unfold entA entL
  rw [List.getElem?_toArray, List.getElem?_cons_succ, List.getElem?_append_right (by rw [bys_len]; omega), bys_len, hk]; rfl
theorem entA_key (x : Frm.Ent) (dv : Value) (hk : x.key.length = 32) : ∀ j v, (bys x.key).toArray[j]? = some v → (entA x dv)[1 + j]? = some v := by
  intro j v h
  rw [List.getElem?_toArray] at h
  have hj : j < (bys x.key).length := (List.getElem?_eq_some_iff.1 h).1
  unfold entA entL
  rw [List.getElem?_toArray, Nat.add_comm, List.getElem?_cons_succ, List.getElem?_append_left hj]; exact h
theorem bys_ints (k : Bs) : bys k = (k.map fun b => (b.toNat : Int)).map (.int .u8) := by unfold bys; rw [List.map_map]; rfl
theorem ints_inj {k l : Bs} (h : (k.map fun b => (b.toNat : Int)) = l.map fun b => (b.toNat : Int)) : k = l := by
  induction k generalizing l with
  | nil => cases l with
    | nil => rfl
    | cons => simp at h
  | cons a k ih => cases l with
    | nil => simp at h
    | cons b l =>
      simp only [List.map_cons, List.cons.injEq] at h
      rw [ih h.2]
      congr 1
      exact UInt8.toNat_inj.1 (by omega)
set_option maxRecDepth 20000 in
theorem eqIn_key (k l : Bs) (hk : k.length = 32) (hl : l.length = 32) (w : World) : (Op.equalIn 10000 41 (.agg (bys k).toArray) (.agg (bys l).toArray)).run Tryz.prog w = .ok (decide (k = l)) w := by
  obtain ⟨i, hi, _⟩ := info8p
  have := run_eqIn_ints (P := Tryz.prog) Tryz.underlying41 Tryz.underlying5 hi (by kernel_rfl) (k.map fun b => (b.toNat : Int)) (l.map fun b => (b.toNat : Int)) (by simpa using hk) (by simpa using hl) w
  rw [bys_ints, bys_ints, this]
  congr 2
  rw [eq_iff_iff]
  exact ⟨fun h => ints_inj h, fun h => by rw [h]⟩
set_option maxRecDepth 20000 in
theorem zero_lit : (bys Frm.zero32).toArray = #[.int .u8 0, .int .u8 0, .int .u8 0, .int .u8 0, .int .u8 0, .int .u8 0, .int .u8 0, .int .u8 0, .int .u8 0, .int .u8 0, .int .u8 0, .int .u8 0, .int .u8 0, .int .u8 0, .int .u8 0, .int .u8 0, .int .u8 0, .int .u8 0, .int .u8 0, .int .u8 0, .int .u8 0, .int .u8 0, .int .u8 0, .int .u8 0, .int .u8 0, .int .u8 0, .int .u8 0, .int .u8 0, .int .u8 0, .int .u8 0, .int .u8 0, .int .u8 0] := rfl
set_option maxRecDepth 20000 in
theorem eqIn_zero (k : Bs) (hk : k.length = 32) (w : World) : (Op.equalIn 10000 41 (.agg (bys k).toArray) (.agg #[.int .u8 0, .int .u8 0, .int .u8 0, .int .u8 0, .int .u8 0, .int .u8 0, .int .u8 0, .int .u8 0, .int .u8 0, .int .u8 0, .int .u8 0, .int .u8 0, .int .u8 0, .int .u8 0, .int .u8 0, .int .u8 0, .int .u8 0, .int .u8 0, .int .u8 0, .int .u8 0, .int .u8 0, .int .u8 0, .int .u8 0, .int .u8 0, .int .u8 0, .int .u8 0, .int .u8 0, .int .u8 0, .int .u8 0, .int .u8 0, .int .u8 0, .int .u8 0])).run Tryz.prog w = .ok (decide (k = Frm.zero32)) w := by
  rw [← zero_lit]
  exact eqIn_key k _ hk rfl w
end
section
variable {w0 w : World} {F : List HProp} {v bv dv : Value} {q : Nat}
end
section
variable {w0 w : World} {F : List HProp} {v bv dv : Value} {q : Nat}
section
variable {ops : Array Oper} {rest : List Oper} {o : Oper} {a : Act} {Q : Exit → Act → World → Prop} {sv : Value}
end
end
section
variable {w0 w : World} {F : List HProp} {v bv dv x : Value} {q : Nat}
section
variable {ops : Array Oper} {rest : List Oper} {o : Oper} {a : Act} {Q : Exit → Act → World → Prop}
end
end
end Go.Proofs.YtmjldaedhmipkaaGreatDoor
namespace Go.Seg
abbrev Bs := List UInt8
def digs (n : Nat) : Nat → Bs
  | 0 => []
  | k + 1 => digs (n / 10) k ++ [UInt8.ofNat (48 + n % 10)]
def lead : Bs := [115, 101, 103, 46]
def name (n : Int) : ByteArray := if n < 0 ∨ 1048576 ≤ n then ByteArray.empty else ⟨(lead ++ digs n.toNat 8).toArray⟩
theorem digs_zero : ∀ k, digs 0 k = List.replicate k 48
  | 0 => rfl
  | k + 1 => by
    show digs (0 / 10) k ++ [UInt8.ofNat (48 + 0 % 10)] = _
    rw [Nat.zero_div, digs_zero k, List.replicate_succ', show UInt8.ofNat (48 + 0 % 10) = 48 from rfl]
theorem digs_len (n k : Nat) : (digs n k).length = k := by
  induction k generalizing n with
  | zero => rfl
  | succ k ih => simp [digs, ih]
def isDig (c : UInt8) : Bool := decide (48 ≤ c.toNat) && decide (c.toNat ≤ 57)
def val (b : Bs) : Nat := b.foldl (fun n c => 10 * n + (c.toNat - 48)) 0
theorem val_snoc (b : Bs) (c : UInt8) : val (b ++ [c]) = 10 * val b + (c.toNat - 48) := by unfold val; rw [List.foldl_append]; rfl
theorem digs_val (b : Bs) (h : b.all isDig = true) : digs (val b) b.length = b := by
  rw [← List.reverse_reverse b] at *
  generalize b.reverse = r at *
  induction r with
  | nil => rfl
  | cons c r ih =>
    rw [List.reverse_cons] at h ⊢
    rw [List.all_append, Bool.and_eq_true] at h
    have hc : isDig c = true := by simpa using h.2
    unfold isDig at hc
    rw [Bool.and_eq_true, decide_eq_true_eq, decide_eq_true_eq] at hc
    rw [val_snoc, List.length_append, List.length_singleton]
    show digs ((10 * val r.reverse + (c.toNat - 48)) / 10) r.reverse.length ++ [UInt8.ofNat (48 + (10 * val r.reverse + (c.toNat - 48)) % 10)] = _
    have e1 : (10 * val r.reverse + (c.toNat - 48)) / 10 = val r.reverse := by omega
    have e2 : 48 + (10 * val r.reverse + (c.toNat - 48)) % 10 = c.toNat := by omega
    rw [e1, e2, ih h.1, UInt8.ofNat_toNat]
theorem val_lt (b : Bs) (h : b.all isDig = true) : val b < 10 ^ b.length := by
  rw [← List.reverse_reverse b] at *
  generalize b.reverse = r at *
  induction r with
  | nil => simp [val]
  | cons c r ih =>
    rw [List.reverse_cons] at h ⊢
    rw [List.all_append, Bool.and_eq_true] at h
    have hc : isDig c = true := by simpa using h.2
    unfold isDig at hc
    rw [Bool.and_eq_true, decide_eq_true_eq, decide_eq_true_eq] at hc
    rw [val_snoc, List.length_append, List.length_singleton, Nat.pow_succ]
    have := ih h.1
    omega
def number (s : ByteArray) : Int × Bool :=
  let l := s.data.toList
  if l.length = 12 ∧ l.take 4 = lead ∧ (l.drop 4).all isDig = true ∧ val (l.drop 4) < 1048576 then (val (l.drop 4), true) else (0, false)
end Go.Seg
namespace Go.Proofs.YtmjldaedhmipkaaGreatDoor
open Go Go.Sl Go.Med Go.MapKept Go.RowKit
section
variable {w0 w : World} {F : List HProp} {v bv dv x : Value} {q : Nat}
def mrow (q : Nat) (l : Bs) : HProp := pt q (.cells (bys l).toArray 5 (l.length, l.length + 1))
theorem mrow_set {l : Bs} (h : Sat w0 w (mrow q l :: F)) {i : Nat} (hi : i < l.length) (x : UInt8) :
    w.cell? ⟨q, i, none⟩ = some (.int .u8 (l[i]'hi).toNat) ∧ w.frozen? ⟨q, i, none⟩ = false ∧ Sat w0 (w.setCell ⟨q, i, none⟩ (.int .u8 x.toNat)) (mrow q (l.set i x) :: F) := by
  have hb := h.at
  refine ⟨?_, ?_, ?_⟩
  · simp only [World.cell?, hb]
    rw [List.getElem?_toArray]
    unfold bys
    rw [List.getElem?_map, List.getElem?_eq_getElem hi]; rfl
  · simp only [World.frozen?, hb]
    simp; omega
  · refine h.turn rfl rfl rfl (by simp) ?_ ?_
    · simp only [World.setCell, Array.getElem?_modify, if_true, hb]
      simp only [Option.map_some, Option.some.injEq]
      rw [List.length_set]
      congr 1
      unfold bys
      rw [List.setIfInBounds_toArray, List.map_set, if_neg (by simp)]
    · intro j hj _
      simp only [World.setCell, Array.getElem?_modify]
      rw [if_neg (Ne.symm hj)]
theorem mrow_text {l : Bs} (h : Sat w0 w (mrow q l :: F)) (c : Nat) : (convert 42 9 (.slice (some ⟨q, 0, none⟩) l.length c)).run Tryz.prog w = .ok (.string ⟨l.toArray⟩) w := by
  refine run_convert_bytes_back (P := Tryz.prog) w _ _ 5 _ c l Tryz.underlying42 Tryz.underlying5 Tryz.underlying9 (fun j hj => ?_)
  rw [add_zero_lit]
  exact (mrow_set h hj 0).1
set_option maxRecDepth 20000 in
set_option maxHeartbeats 1000000 in
theorem sname_c (n : Int) (h : Sat w0 w F) :
    Calls Tryz.prog 77 #[.int .i64 n] w (Rtn fun v w' => v = .string (Seg.name n) ∧ Sat w0 w' F) := by
  by_cases h1 : n < 0
  · have Hf := Lib.hid (show Seg.name n = ByteArray.empty by unfold Seg.name; rw [if_pos (.inl h1)])
    go_enter Tryz.func77, Tryz.ntmps77
    go_wp2
    go_ret
    exact ⟨_, rfl, by rw [Hf.out]; rfl, h⟩
  have h1d : decide (n < 0) = false := decide_eq_false h1
  by_cases h2 : 1048576 ≤ n
  · have Hf := Lib.hid (show Seg.name n = ByteArray.empty by unfold Seg.name; rw [if_pos (.inr h2)])
    go_enter Tryz.func77, Tryz.ntmps77
    go_wp2
    go_ret
    exact ⟨_, rfl, by rw [Hf.out]; rfl, h⟩
  have h2d : decide (1048576 ≤ n) = false := decide_eq_false h2
  obtain ⟨m0, rfl⟩ := Int.eq_ofNat_of_zero_le (show 0 ≤ n by omega)
  have Hf := Lib.hid (show Seg.name (m0 : Int) = ⟨(Seg.lead ++ Seg.digs m0 8).toArray⟩ by unfold Seg.name; rw [if_neg (by omega)]; rfl)
  have hm0 : m0 < 10 ^ 8 := by omega
  have Hm := Lib.hid hm0
  have hcv := Lib.run_convert_bytes_const (P := Tryz.prog) w 42 5 #[.int .u8 115, .int .u8 101, .int .u8 103, .int .u8 46, .int .u8 48, .int .u8 48, .int .u8 48, .int .u8 48, .int .u8 48, .int .u8 48, .int .u8 48, .int .u8 48] 12 12 Tryz.underlying42 Tryz.underlying5
  have hB : Sat w0 (w.alloc (.cells #[.int .u8 115, .int .u8 101, .int .u8 103, .int .u8 46, .int .u8 48, .int .u8 48, .int .u8 48, .int .u8 48, .int .u8 48, .int .u8 48, .int .u8 48, .int .u8 48] 5 (12, 13))) (mrow w.heap.size (Seg.lead ++ List.replicate 8 48) :: F) := h.alloc _
  simp only [List.size_toArray, List.length_cons, List.length_nil, Nat.zero_add, Nat.reduceAdd] at hcv
  clear hm0
  go_enter Tryz.func77, Tryz.ntmps77
  go_wp2_with fail
  clear h1 h2 h1d h2d
  generalize w.heap.size = q at *
  go_loopg [0, 4] 8 (fun g nv iq wr => ∃ (k m : Nat) (tail : Bs), g = k ∧ k ≤ 8 ∧ nv = .int .i64 m ∧ iq = .int .i64 ((k : Int) + 3) ∧ m < 10 ^ k ∧ Seg.lead ++ Seg.digs m0 8 = Seg.lead ++ Seg.digs m k ++ tail ∧ tail.length = 8 - k ∧
    Sat w0 wr (mrow q (Seg.lead ++ List.replicate k 48 ++ tail) :: F))
  case atStart => exact ⟨8, m0, [], rfl, Nat.le_refl _, rfl, rfl, Hm.out, by simp, rfl, by simpa using hB⟩
  case round =>
    obtain ⟨k, m, tail, hgk, hk, rfl, rfl, hm, hfin, htl, hS⟩ := hrel
    have hgk' := hgk.symm
    subst hgk'
    have Hfin := Lib.hid hfin; have Htl := Lib.hid htl
    clear hB hfin htl
    by_cases hp : 0 < m
    · obtain ⟨k', rfl⟩ : ∃ k', k = k' + 1 := by
        cases k with
        | zero => simp at hm; omega
        | succ k' => exact ⟨k', rfl⟩
      have hlen : (Seg.lead ++ List.replicate (k' + 1) 48 ++ tail).length = 12 := by
        have := Htl.out
        simp [Seg.lead]; omega
      have hidx : k' + 4 < (Seg.lead ++ List.replicate (k' + 1) 48 ++ tail).length := by omega
      obtain ⟨e0, e1, hS5⟩ := mrow_set hS hidx (UInt8.ofNat (48 + m % 10))
      generalize (Seg.lead ++ List.replicate (k' + 1) 48 ++ tail)[k' + 4]'hidx = old at e0
      have hpi : (0 : Int) < (m : Int) := by omega
      have hki : (k' : Int) + 4 < 12 := by omega
      have hdg : 48 + (m : Int) % 10 = ((UInt8.ofNat (48 + m % 10)).toNat : Int) := by rw [UInt8.toNat_ofNat']; omega
      have hm2 : m < 10 * 10 ^ k' := by rw [Nat.pow_succ] at hm; omega
      have hbig : 10 ^ (k' + 1) ≤ 10 ^ 8 := Nat.pow_le_pow_right (by decide) hk
      have hw1 : IntKind.i64.wrap ((m : Int) / 10) = (m : Int) / 10 := by rw [IntKind.wrap_i64]; omega
      have Hm2 := Lib.hid hm2
      have Hdg := Lib.hid (show Seg.digs m (k' + 1) = Seg.digs (m / 10) k' ++ [UInt8.ofNat (48 + m % 10)] by rfl)
      have hc3 : ((k' + 1 : Nat) : Int) + 3 = (k' : Int) + 4 := by omega
      rw [hc3]
      clear hm hm2 hlen hidx hbig
      generalize UInt8.ofNat (48 + m % 10) = dg at *
      go_wp2_with fail
      go_roundg k'
      case rel =>
        refine ⟨k', m / 10, dg :: tail, rfl, by omega, ?_, ?_, ?_, ?_, ?_, ?_⟩
        · congr 1
        · congr 1; omega
        · have := Hm2.out; omega
        · rw [Hfin.out, Hdg.out]; simp
        · have := Htl.out; simp; omega
        · have e : (Seg.lead ++ List.replicate (k' + 1) 48 ++ tail).set (k' + 4) dg = Seg.lead ++ List.replicate k' 48 ++ dg :: tail := by
            have hl : (Seg.lead ++ List.replicate k' (48 : UInt8)).length = k' + 4 := by simp only [Seg.lead, List.length_append, List.length_replicate, List.length_cons, List.length_nil]; omega
            rw [List.replicate_succ', ← List.append_assoc, List.append_assoc (Seg.lead ++ List.replicate k' 48), List.set_append_right _ _ (by omega), hl, Nat.sub_self]
            rfl
          rw [← e]; exact hS5
      case measure => omega
    · have hm0 : m = 0 := by omega
      subst hm0
      have htx := mrow_text hS 12
      have hlen : (Seg.lead ++ List.replicate k 48 ++ tail).length = 12 := by
        have := Htl.out
        simp [Seg.lead]; omega
      rw [hlen] at htx
      clear hm
      go_wp2
      go_ret
      refine ⟨_, rfl, ?_, hS.drop⟩
      rw [Hf.out, Hfin.out, Seg.digs_zero]; simp
end
section
variable {w0 w : World} {F : List HProp} {v bv dv x : Value} {q : Nat}
theorem ba_take (s : ByteArray) : (s.extract 0 4).toList = s.data.toList.take 4 := by
  rw [Go.Lib.extract_toList]; simp
theorem ba_drop (s : ByteArray) (h : s.size = 12) : (s.extract 4 12).data.toList = s.data.toList.drop 4 := by
  rw [Go.Lib.extract_data]
  refine List.take_of_length_le ?_
  have : s.data.toList.length = 12 := by rw [Array.length_toList]; exact h
  rw [List.length_drop]; omega
set_option maxRecDepth 20000 in
set_option maxHeartbeats 1000000 in
theorem snumber_c (s : ByteArray) (h : Sat w0 w F) :
    Calls Tryz.prog 64 #[.string s] w (Rtn fun v w' => v = .tuple #[.int .i64 (Seg.number s).1, .bool (Seg.number s).2] ∧ Sat w0 w' F) := by
  by_cases h1 : s.size = 12
  · have hs : ((s.size : Int) = 12) := by omega
    have h1d : decide ((s.size : Int) = 12) = true := decide_eq_true hs
    by_cases h2 : s.data.toList.take 4 = Seg.lead
    · have h2d : ((s.extract 0 4).toList == [115, 101, 103, 46]) = true := by rw [ba_take s, h2]; rfl
      have hN := Lib.hid (show Seg.number s = if (s.data.toList.drop 4).all Seg.isDig = true ∧ Seg.val (s.data.toList.drop 4) < 1048576 then ((Seg.val (s.data.toList.drop 4) : Int), true) else (0, false) by
        unfold Seg.number
        simp only [Array.length_toList, show s.data.size = 12 from h1, h2, true_and])
      have Hb := Lib.hid (ba_drop s h1)
      have hcv := run_bytes_of_string (P := Tryz.prog) w 9 42 5 (s.extract 4 12) Tryz.underlying9 Tryz.underlying42 Tryz.underlying5
      have hz : (s.extract 4 12).size = 8 := by simp [ByteArray.size_extract, h1]
      have hcell : ∀ (i : Nat) (hi : i < 8), ((w.alloc (.cells (bytesRow (s.extract 4 12) (grownCap w (s.extract 4 12).size 0 5)) 5 ((bytesRow (s.extract 4 12) (grownCap w (s.extract 4 12).size 0 5)).size, (bytesRow (s.extract 4 12) (grownCap w (s.extract 4 12).size 0 5)).size + 1))).drew).cell? ⟨w.heap.size, 0 + i, none⟩ = some (.int .u8 ((s.extract 4 12).data[i]'(by have : (s.extract 4 12).data.size = 8 := hz; omega)).toNat) := by
        intro i hi
        rw [Nat.zero_add]
        exact (World.cell?_alloc_mark w.drew _ _ _ _).trans (bytesRow_at _ _ _ _)
      have hB : Sat w0 ((w.alloc (.cells (bytesRow (s.extract 4 12) (grownCap w (s.extract 4 12).size 0 5)) 5 ((bytesRow (s.extract 4 12) (grownCap w (s.extract 4 12).size 0 5)).size, (bytesRow (s.extract 4 12) (grownCap w (s.extract 4 12).size 0 5)).size + 1))).drew) F := (h.drew.alloc _).drop
      rw [hz] at hcv hcell hB
      have Hlen := Lib.hid (show (s.data.toList.drop 4).length = 8 by rw [List.length_drop, Array.length_toList, show s.data.size = 12 from h1])
      have hcell' : ∀ (i : Nat) (hi : i < (s.data.toList.drop 4).length), ((w.alloc (.cells (bytesRow (s.extract 4 12) (grownCap w 8 0 5)) 5 ((bytesRow (s.extract 4 12) (grownCap w 8 0 5)).size, (bytesRow (s.extract 4 12) (grownCap w 8 0 5)).size + 1))).drew).cell? ⟨w.heap.size, 0 + i, none⟩ = some (.int .u8 ((s.data.toList.drop 4)[i]'hi).toNat) := by
        intro i hi
        rw [hcell i (by rw [← Hlen.out]; exact hi)]
        congr 4
        have := Hb.out
        rw [← Array.getElem_toList]
        exact getElem_congr this rfl _
      clear hcell
      generalize grownCap w 8 0 5 = cap at *
      generalize s.data.toList.drop 4 = l at *
      go_enter Tryz.func64, Tryz.ntmps64
      go_wp2_with fail
      clear hcv h1d h2d hs h1 h2
      generalize World.drew _ = wb at *
      generalize w.heap.size = q at *
      go_loopg [4, 19] 8 (fun g nv iq wr => ∃ i : Nat, g = 8 - i ∧ i ≤ 8 ∧ nv = .int .i64 (Seg.val (l.take i)) ∧ iq = .int .i64 i ∧ (l.take i).all Seg.isDig = true ∧ wr = wb)
      case atStart => exact ⟨0, rfl, by omega, rfl, rfl, rfl, rfl⟩
      case round =>
        obtain ⟨i, rfl, hi, rfl, rfl, hall, rfl⟩ := hrel
        have Hall := Lib.hid hall
        clear hall
        by_cases hi' : i < 8
        · have hil : i < l.length := by have := Hlen.out; omega
          have hc := hcell' i hil
          rw [Nat.zero_add] at hc
          have Hc := Lib.hid (List.getElem_mem hil)
          have hii : (i : Int) < 8 := by omega
          have Hn := Lib.hid (show Seg.val (l.take (i + 1)) = 10 * Seg.val (l.take i) + (l[i].toNat - 48) by rw [List.take_succ_eq_append_getElem hil, Seg.val_snoc])
          have Hd := Lib.hid (show (l.take (i + 1)).all Seg.isDig = Seg.isDig l[i] by rw [List.take_succ_eq_append_getElem hil, List.all_append, Hall.out, Bool.true_and]; simp)
          have Hv := Lib.hid (Seg.val_lt _ Hall.out)
          generalize l[i] = c at *
          by_cases hd : Seg.isDig c = true
          · have hd' := hd
            unfold Seg.isDig at hd'
            rw [Bool.and_eq_true, decide_eq_true_eq, decide_eq_true_eq] at hd'
            have b1 : ¬ c.toNat < 48 := by omega
            have b2 : ¬ 57 < c.toNat := by omega
            have b3 : (c.toNat : Int) - 48 = ((c.toNat - 48 : Nat) : Int) := by omega
            have hv10 : Seg.val (l.take i) < 100000000 := by
              have := Hv.out
              rw [List.length_take] at this
              exact Nat.lt_of_lt_of_le this (Nat.pow_le_pow_right (by decide) (by omega) : _ ≤ 10 ^ 8)
            have Hdd := Lib.hid hd'
            have b4 : IntKind.i64.wrap (10 * (Seg.val (l.take i) : Int)) = 10 * (Seg.val (l.take i) : Int) := by rw [IntKind.wrap_i64]; omega
            have b5 : IntKind.i64.wrap (10 * (Seg.val (l.take i) : Int) + ((c.toNat - 48 : Nat) : Int)) = 10 * (Seg.val (l.take i) : Int) + ((c.toNat - 48 : Nat) : Int) := by rw [IntKind.wrap_i64]; omega
            have b6 : IntKind.i64.wrap ((i : Int) + 1) = (i : Int) + 1 := by rw [IntKind.wrap_i64]; omega
            clear hv10 hd' hcell'
            generalize c.toNat - 48 = d at *
            go_wp2_with fail
            go_roundg (8 - (i + 1))
            case measure => omega
            case rel =>
              refine ⟨i + 1, rfl, by omega, ?_, rfl, by rw [Hd.out, hd], rfl⟩
              rw [Hn.out]; rfl
          · have hno : ¬ (l.all Seg.isDig = true ∧ Seg.val l < 1048576) := fun hh => hd (List.all_eq_true.1 hh.1 _ Hc.out)
            have hN2 := Lib.hid (hN.out.trans (if_neg hno))
            have hd' := hd
            unfold Seg.isDig at hd'
            rw [Bool.and_eq_true, decide_eq_true_eq, decide_eq_true_eq] at hd'
            clear hcell' hno Hn Hd
            by_cases b1 : c.toNat < 48
            · clear hd'
              go_wp2
              go_ret2
              exact ⟨_, rfl, by rw [hN2.out]; rfl, hB⟩
            · have b2 : 57 < c.toNat := by omega
              clear hd'
              go_wp2
              go_ret2
              exact ⟨_, rfl, by rw [hN2.out]; rfl, hB⟩
        · obtain rfl : i = 8 := by omega
          have hc8 : ((8 : Nat) : Int) = 8 := rfl
          rw [hc8]
          clear hc8 hi
          have htk := Lib.hid (show l.take 8 = l from List.take_of_length_le (by have := Hlen.out; omega))
          have hN3 := Lib.hid (show Seg.number s = if Seg.val l < 1048576 then ((Seg.val l : Int), true) else (0, false) by
            have := Hall.out
            rw [htk.out] at this
            rw [hN.out]; simp only [this, true_and])
          rw [htk.out]
          clear hcell' hi'
          obtain ⟨V, hV⟩ : ∃ V : Int, V = (Seg.val l : Int) := ⟨_, rfl⟩
          have HV := Lib.hid hV
          rw [← hV]
          by_cases hv : 1048576 ≤ V
          · have hvd : decide (1048576 ≤ V) = true := decide_eq_true hv
            have Hv := Lib.hid hv
            clear hv hV
            go_wp2
            go_ret2
            exact ⟨_, rfl, by rw [hN3.out, if_neg (by have := Hv.out; have := HV.out; omega)]; rfl, hB⟩
          · have hvd : decide (1048576 ≤ V) = false := decide_eq_false hv
            have Hv := Lib.hid hv
            clear hv hV
            go_wp2
            go_ret2
            exact ⟨_, rfl, by rw [hN3.out, if_pos (by have := Hv.out; have := HV.out; omega), ← HV.out]; rfl, hB⟩
    · have h2d : ((s.extract 0 4).toList == [115, 101, 103, 46]) = false := by rw [ba_take s]; exact beq_false_of_ne h2
      have hN := Lib.hid (show Seg.number s = (0, false) by
        unfold Seg.number
        simp only [h2, false_and, and_false, if_false])
      go_enter Tryz.func64, Tryz.ntmps64
      go_wp2
      go_ret2
      exact ⟨_, rfl, by rw [hN.out]; rfl, h⟩
  · have hs : ¬ ((s.size : Int) = 12) := by omega
    have h1d : decide ((s.size : Int) = 12) = false := decide_eq_false hs
    have hN := Lib.hid (show Seg.number s = (0, false) by
        unfold Seg.number
        simp only [Array.length_toList, show ¬ s.data.size = 12 from h1, false_and, if_false])
    go_enter Tryz.func64, Tryz.ntmps64
    go_wp2
    go_ret2
    exact ⟨_, rfl, by rw [hN.out]; rfl, h⟩
end
section
variable {w0 w : World} {F : List HProp} {v bv dv x : Value} {q : Nat}
theorem dig_ext : ∀ d : Nat, d < 10 → (ByteArray.mk #[48, 49, 50, 51, 52, 53, 54, 55, 56, 57]).extract d (d + 1) = ⟨#[UInt8.ofNat (48 + d)]⟩ := by
  intro d hd
  rcases d with _ | _ | _ | _ | _ | _ | _ | _ | _ | _ | d
  all_goals first | rfl | omega
theorem ba_cons (c : UInt8) (l : Seg.Bs) : (ByteArray.mk #[c]) ++ ⟨l.toArray⟩ = ⟨(c :: l).toArray⟩ := by
  apply ByteArray.ext
  simp
theorem ba_lead (l : Seg.Bs) : (ByteArray.mk #[115, 101, 103, 46]) ++ ⟨l.toArray⟩ = ⟨(Seg.lead ++ l).toArray⟩ := by
  apply ByteArray.ext
  simp [Seg.lead]
set_option maxRecDepth 20000 in
set_option maxHeartbeats 1000000 in
theorem rname_c (n : Int) (w : World) :
    Calls Tryz.prog 74 #[.int .i64 n] w (Rtn fun v w' => v = .string (Seg.name n) ∧ w = w') := by
  by_cases h1 : n < 0
  · have Hf := Lib.hid (show Seg.name n = ByteArray.empty by unfold Seg.name; rw [if_pos (.inl h1)])
    go_enter Tryz.func74, Tryz.ntmps74
    go_wp2
    go_ret
    exact ⟨_, rfl, by rw [Hf.out]; rfl, rfl⟩
  have h1d : decide (n < 0) = false := decide_eq_false h1
  by_cases h2 : 1048576 ≤ n
  · have Hf := Lib.hid (show Seg.name n = ByteArray.empty by unfold Seg.name; rw [if_pos (.inr h2)])
    go_enter Tryz.func74, Tryz.ntmps74
    go_wp2
    go_ret
    exact ⟨_, rfl, by rw [Hf.out]; rfl, rfl⟩
  have h2d : decide (1048576 ≤ n) = false := decide_eq_false h2
  obtain ⟨m0, rfl⟩ := Int.eq_ofNat_of_zero_le (show 0 ≤ n by omega)
  have Hf := Lib.hid (show Seg.name (m0 : Int) = ⟨(Seg.lead ++ Seg.digs m0 8).toArray⟩ by unfold Seg.name; rw [if_neg (by omega)]; rfl)
  have hm0 : m0 < 1048576 := by omega
  have Hm := Lib.hid hm0
  clear hm0
  go_enter Tryz.func74, Tryz.ntmps74
  go_wp2_with fail
  clear h1 h2 h1d h2d
  go_loopg [0, 3, 4] 8 (fun g nv sv iv wr => ∃ (i m : Nat) (tail : Bs), g = 8 - i ∧ i ≤ 8 ∧ nv = .int .i64 m ∧ sv = .string ⟨tail.toArray⟩ ∧ iv = .int .i64 i ∧ m < 1048576 ∧ Seg.digs m0 8 = Seg.digs m (8 - i) ++ tail ∧ wr = w)
  case atStart => exact ⟨0, m0, [], rfl, by omega, rfl, rfl, rfl, Hm.out, by simp, rfl⟩
  case round =>
    obtain ⟨i, m, tail, rfl, hi, rfl, rfl, rfl, hm, hfin, rfl⟩ := hrel
    have Hfin := Lib.hid hfin; have Hm1 := Lib.hid hm
    clear hfin hm
    by_cases hi' : i < 8
    · have hii : (i : Int) < 8 := by omega
      have hx := dig_ext (m % 10) (Nat.mod_lt _ (by omega))
      have hcc := ba_cons (UInt8.ofNat (48 + m % 10)) tail
      have hnx : Seg.digs m (8 - i) = Seg.digs (m / 10) (8 - (i + 1)) ++ [UInt8.ofNat (48 + m % 10)] := by
        rw [show 8 - i = (8 - (i + 1)) + 1 by omega]; rfl
      have Hnx := Lib.hid hnx
      have htl : tail.length = i := by
        have := congrArg List.length Hfin.out
        rw [List.length_append, Seg.digs_len, Seg.digs_len] at this
        omega
      have hsz : ¬ 9223372036854775807 < 1 + tail.length := by omega
      have hq : IntKind.i64.wrap ((m : Int) / 10) = (m : Int) / 10 := by rw [IntKind.wrap_i64]; have := Hm1.out; omega
      clear htl hnx
      have Hx := Lib.hid hx; have Hcc := Lib.hid hcc
      clear hx hcc
      go_wp2_with fail
      go_roundg (8 - (i + 1))
      case measure => omega
      case rel =>
        refine ⟨i + 1, m / 10, UInt8.ofNat (48 + m % 10) :: tail, rfl, by omega, rfl, by rw [Hx.out, Hcc.out], rfl, by have := Hm1.out; omega, ?_, rfl⟩
        rw [Hfin.out, Hnx.out]; simp
    · obtain rfl : i = 8 := by omega
      have hc8 : ((8 : Nat) : Int) = 8 := rfl
      rw [hc8]
      clear hc8 hi' hi
      have hcc := ba_lead tail
      have htl : tail.length = 8 := by
        have := congrArg List.length Hfin.out
        rw [List.length_append, Seg.digs_len, Seg.digs_len] at this
        omega
      go_wp2
      go_ret
      refine ⟨_, rfl, ?_, rfl⟩
      rw [Hf.out, Hfin.out]; rfl
set_option maxRecDepth 20000 in
set_option maxHeartbeats 1000000 in
theorem rnumber_c (s : ByteArray) (w : World) :
    Calls Tryz.prog 66 #[.string s] w (Rtn fun v w' => (∃ a, v = .tuple #[.int .i64 a, .bool (Seg.number s).2] ∧ ((Seg.number s).2 = true → a = (Seg.number s).1)) ∧ w = w') := by
  by_cases h1 : s.size = 12
  · have hs : ((s.size : Int) = 12) := by omega
    have Hlen := Lib.hid (show s.data.toList.length = 12 by rw [Array.length_toList]; exact h1)
    have hcell : ∀ (j : Nat) (hj : j < (s.data.toList.drop 4).length) (h : j + 4 < s.size), s[j + 4]'h = (s.data.toList.drop 4)[j]'hj := by
      intro j hj h
      rw [List.getElem_drop]
      simp only [Nat.add_comm 4 j]
      rfl
    have Hlen8 := Lib.hid (show (s.data.toList.drop 4).length = 8 by rw [List.length_drop, Hlen.out])
    have HN := Lib.hid (show Seg.number s = if s.data.toList.take 4 = Seg.lead ∧ (s.data.toList.drop 4).all Seg.isDig = true ∧ Seg.val (s.data.toList.drop 4) < 1048576 then ((Seg.val (s.data.toList.drop 4) : Int), true) else (0, false) by
        unfold Seg.number
        simp only [Hlen.out, true_and])
    have HS := Lib.hid (show s.data.toList.take 4 ++ s.data.toList.drop 4 = s.data.toList from List.take_append_drop _ _)
    generalize s.data.toList.drop 4 = l at *
    go_enter Tryz.func66, Tryz.ntmps66
    go_wp2_with fail
    go_loopg [4, 5] 8 (fun g nv iv wr => ∃ j : Nat, g = 8 - j ∧ j ≤ 8 ∧ nv = .int .i64 (Seg.val (l.take j)) ∧ iv = .int .i64 ((j : Int) + 4) ∧ (l.take j).all Seg.isDig = true ∧ wr = w)
    case atStart => exact ⟨0, rfl, by omega, rfl, rfl, rfl, rfl⟩
    case round =>
      obtain ⟨j, rfl, hi, rfl, rfl, hall, rfl⟩ := hrel
      have Hall := Lib.hid hall
      have Hcell := Lib.hid hcell
      clear hall hcell
      by_cases hi' : j < 8
      · have hlt : (j : Int) + 4 < 12 := by omega
        have hil : j < l.length := by have := Hlen8.out; omega
        have hc := Hcell.out j hil (by omega)
        have Hc := Lib.hid (List.getElem_mem hil)
        have Hn := Lib.hid (show Seg.val (l.take (j + 1)) = 10 * Seg.val (l.take j) + (l[j].toNat - 48) by rw [List.take_succ_eq_append_getElem hil, Seg.val_snoc])
        have Hd := Lib.hid (show (l.take (j + 1)).all Seg.isDig = Seg.isDig l[j] by rw [List.take_succ_eq_append_getElem hil, List.all_append, Hall.out, Bool.true_and]; simp)
        have Hv := Lib.hid (Seg.val_lt _ Hall.out)
        generalize l[j] = c at *
        by_cases hd : Seg.isDig c = true
        · have hd' := hd
          unfold Seg.isDig at hd'
          rw [Bool.and_eq_true, decide_eq_true_eq, decide_eq_true_eq] at hd'
          have b1 : ¬ c.toNat < 48 := by omega
          have b2 : ¬ 57 < c.toNat := by omega
          have hv10 : Seg.val (l.take j) < 100000000 := by
            have := Hv.out
            rw [List.length_take] at this
            exact Nat.lt_of_lt_of_le this (Nat.pow_le_pow_right (by decide) (by omega) : _ ≤ 10 ^ 8)
          have b3 : (Seg.val (l.take j) : Int) * 10 + (c.toNat : Int) - 48 = ((10 * Seg.val (l.take j) + (c.toNat - 48) : Nat) : Int) := by omega
          have b4 : IntKind.i64.wrap ((Seg.val (l.take j) : Int) * 10) = (Seg.val (l.take j) : Int) * 10 := by rw [IntKind.wrap_i64]; omega
          have b5 : IntKind.i64.wrap ((Seg.val (l.take j) : Int) * 10 + (c.toNat : Int)) = (Seg.val (l.take j) : Int) * 10 + (c.toNat : Int) := by rw [IntKind.wrap_i64]; omega
          have b7 : IntKind.i64.wrap (((10 * Seg.val (l.take j) + (c.toNat - 48) : Nat) : Int)) = ((10 * Seg.val (l.take j) + (c.toNat - 48) : Nat) : Int) := by rw [IntKind.wrap_i64]; omega
          have b6 : IntKind.i64.wrap ((j : Int) + 4 + 1) = (j : Int) + 4 + 1 := by rw [IntKind.wrap_i64]; omega
          clear hv10 hd'
          rw [← Hn.out] at b3 b7
          go_wp2_with fail
          go_roundg (8 - (j + 1))
          case measure => omega
          case rel =>
            refine ⟨j + 1, rfl, by omega, ?_, ?_, by rw [Hd.out, hd], rfl⟩
            · rfl
            · congr 1
        · have hno : ¬ (s.data.toList.take 4 = Seg.lead ∧ l.all Seg.isDig = true ∧ Seg.val l < 1048576) := fun hh => hd (List.all_eq_true.1 hh.2.1 _ Hc.out)
          have hN2 := Lib.hid (HN.out.trans (if_neg hno))
          have hd' := hd
          unfold Seg.isDig at hd'
          rw [Bool.and_eq_true, decide_eq_true_eq, decide_eq_true_eq] at hd'
          clear hno Hn Hd
          by_cases b1 : c.toNat < 48
          · clear hd'
            go_wp2
            go_ret2
            exact ⟨_, rfl, ⟨0, by rw [hN2.out]; rfl, fun h => by rw [hN2.out]⟩, rfl⟩
          · have b2 : 57 < c.toNat := by omega
            clear hd'
            go_wp2
            go_ret2
            exact ⟨_, rfl, ⟨0, by rw [hN2.out]; rfl, fun h => by rw [hN2.out]⟩, rfl⟩
      · obtain rfl : j = 8 := by omega
        have hc8 : ((8 : Nat) : Int) = 8 := rfl
        rw [hc8]
        clear hc8 hi
        have htk := Lib.hid (show l.take 8 = l from List.take_of_length_le (by have := Hlen8.out; omega))
        have hall := Hall.out
        rw [htk.out] at hall ⊢
        have hv := Seg.val_lt l hall
        rw [Hlen8.out] at hv
        have hname : (Seg.name (Seg.val l) = s) ↔ (Seg.number s).2 = true := by
          rw [HN.out]
          have hdv := Seg.digs_val l hall
          rw [Hlen8.out] at hdv
          by_cases hb : Seg.val l < 1048576
          · have e1 : Seg.name (Seg.val l) = ⟨(Seg.lead ++ l).toArray⟩ := by
              unfold Seg.name
              rw [if_neg (by omega), Int.toNat_natCast, hdv]
            rw [e1]
            constructor
            · intro h
              have h' : Seg.lead ++ l = s.data.toList := by rw [← h]
              rw [← HS.out] at h'
              have := List.append_cancel_right h'
              rw [if_pos ⟨this.symm, hall, hb⟩]
            · intro h
              split at h
              · next hh =>
                apply ByteArray.ext
                show (Seg.lead ++ l).toArray = s.data
                rw [← hh.1, HS.out]
              · cases h
          · have e1 : Seg.name (Seg.val l) = ByteArray.empty := by
              unfold Seg.name
              rw [if_pos (by omega)]
            rw [e1, if_neg (fun h => hb h.2.2)]
            constructor
            · intro h
              rw [← h] at h1
              cases h1
            · intro h; cases h
        have Hname := Lib.hid (show ((Seg.name (Seg.val l)).toList == s.toList) = (Seg.number s).2 by
          rw [Bool.eq_iff_iff, beq_iff_eq, ← hname, ByteArray.toList_eq, ByteArray.toList_eq]
          constructor
          · intro h
            apply ByteArray.ext
            exact Array.toList_inj.1 h
          · intro h; rw [h])
        have Hval := Lib.hid (show (Seg.number s).2 = true → within (Seg.val l) 0 1048575 = (Seg.number s).1 by
          rw [HN.out]
          split
          · next h => intro _; have := h.2.2; simp only [within]; rw [if_neg (by omega), if_neg (by omega)]
          · intro h; cases h)
        clear hv hname hall hi'
        have hw := within_c (Seg.val l) 0 1048575 wr
        go_wp2_with fail
        refine hw.mono ?_
        rintro e w1 ⟨v, rfl, rfl, rfl⟩
        clear hw
        have hr := rname_c (Seg.val l) wr
        go_wp2_with fail
        refine hr.mono ?_
        rintro e w1 ⟨v, rfl, rfl, rfl⟩
        clear hr
        go_wp2
        go_ret2
        exact ⟨_, rfl, ⟨within (Seg.val l) 0 1048575, by rw [← Hname.out]; rfl, Hval.out⟩, rfl⟩
  · have hs : ¬ ((s.size : Int) = 12) := by omega
    have h1d : decide ((s.size : Int) = 12) = false := decide_eq_false hs
    have hN := Lib.hid (show Seg.number s = (0, false) by
        unfold Seg.number
        simp only [Array.length_toList, show ¬ s.data.size = 12 from h1, false_and, if_false])
    go_enter Tryz.func66, Tryz.ntmps66
    go_wp2
    go_ret2
    exact ⟨_, rfl, ⟨0, by rw [hN.out]; rfl, fun h => by rw [hN.out]⟩, rfl⟩
end
end Go.Proofs.YtmjldaedhmipkaaGreatDoor
namespace Go.Seg
open Go.Med
structure Log where
  limit : Int
  l : List (Int × Int)
  on : Bool
  fresh : Int
def alive (M : Med) : Int := if (M.size ByteArray.empty).2 = 9 then 0 else (M.size ByteArray.empty).2
def found (M : Med) (l : List ByteArray) : List (Int × Int) := l.filterMap fun s => if (number s).2 = true then some ((number s).1, (M.size s).1) else none
def fresh (M : Med) (limit : Int) : Log := ⟨limit, found M M.list, false, 0⟩
theorem found_snoc (M : Med) (l : List ByteArray) (s : ByteArray) : found M (l ++ [s]) = found M l ++ (if (number s).2 = true then [((number s).1, (M.size s).1)] else []) := by
  unfold found
  rw [List.filterMap_append]
  congr 1
  by_cases h : (number s).2 = true <;> simp [h]
theorem found_len (M : Med) (l : List ByteArray) : (found M l).length ≤ l.length := List.length_filterMap_le _ _
end Go.Seg
namespace Go.Proofs.YtmjldaedhmipkaaGreatDoor
open Go Go.Sl Go.Med Go.MapKept Go.RowKit
def segw (l : List (Int × Int)) : List Value := l.flatMap fun s => [.int .i64 s.1, .int .i64 s.2]
abbrev logPt (p m : Nat) (L : Seg.Log) (lv : Value) : HProp := pt p (.cells #[ptr m, .int .i64 L.limit, lv, .bool L.on, .int .i64 L.fresh] 140 (0,0))
def LogRaw (p m : Nat) (L : Seg.Log) (lv : Value) : List HProp := [logPt p m L lv, osl 145 2 lv (segw L.l)]
def LogRep (p m : Nat) (L : Seg.Log) : HProp := fun h => ∃ lv, stars (LogRaw p m L lv) h
theorem infoSeg : (Tryz.prog.info? 145).map (fun i => (i.zero, i.size, i.bytes)) = some (some (.agg #[.int .i64 0, .int .i64 0]), 2, 16) := by kernel_rfl
section
variable {w0 w : World} {F : List HProp} {v bv dv x lv : Value} {q p m K : Nat} {L : Seg.Log} {M : Med}
theorem LogRep.open (h : Sat w0 w (LogRep p m L :: F)) : ∃ lv, Sat w0 w (LogRaw p m L lv ++ F) := by
  obtain ⟨ha, x, hx, p, q, d, rfl, ⟨lv, hp⟩, hq⟩ := h
  refine ⟨lv, ha, _, hx, ?_⟩
  rw [stars_append]
  exact ⟨p, q, d, rfl, hp, hq⟩
theorem LogRep.shut (h : Sat w0 w (LogRaw p m L lv ++ F)) : Sat w0 w (LogRep p m L :: F) :=
  h.join fun _ hx => ⟨lv, hx⟩
theorem segw_len (l : List (Int × Int)) : (segw l).length = 2 * l.length := by
  unfold segw
  induction l with
  | nil => rfl
  | cons a l ih => rw [List.flatMap_cons, List.length_append, ih]; simp; omega
theorem segw_app (l k : List (Int × Int)) : segw (l ++ k) = segw l ++ segw k := by unfold segw; rw [List.flatMap_append]
set_option maxHeartbeats 1000000 in
theorem alive_c (hM : M.Ok K) (h : Sat w0 w (MedRep m M :: F)) :
    Calls Tryz.prog 63 #[ptr m] w (Rtn fun v w' => v = errno (Seg.alive M) ∧ w = w') := by
  have hs := size_c hM h ByteArray.empty
  have Hal := Lib.hid (show Seg.alive M = if (M.size ByteArray.empty).2 = 9 then 0 else (M.size ByteArray.empty).2 from rfl)
  generalize (M.size ByteArray.empty).2 = e at *
  generalize (M.size ByteArray.empty).1 = n at *
  by_cases he : e = 9
  · subst he
    go_enter Tryz.func63, Tryz.ntmps63
    go_wp2_with fail
    refine hs.mono ?_
    rintro e w1 ⟨v, rfl, rfl, rfl⟩
    clear hs
    go_wp2
    go_ret
    exact ⟨_, rfl, by rw [Hal.out]; rfl, rfl⟩
  · have hed : (e == 9) = false := beq_false_of_ne he
    have He := Lib.hid he
    clear he
    go_enter Tryz.func63, Tryz.ntmps63
    go_wp2_with fail
    refine hs.mono ?_
    rintro e w1 ⟨v, rfl, rfl, rfl⟩
    clear hs
    go_wp2
    go_ret
    exact ⟨_, rfl, by rw [Hal.out, if_neg He.out]; rfl, rfl⟩
set_option maxRecDepth 20000 in
set_option maxHeartbeats 4000000 in
theorem open_c (hM : M.Ok K) (limit : Int) (h : Sat w0 w (MedRep m M :: F)) (ha : Seg.alive M = 0) (h1 : 128 ≤ limit) (h2 : limit ≤ 1048576) :
    Calls Tryz.prog 15 #[ptr m, .int .i64 limit] w (Rtn fun v w' => ∃ p, v = .tuple #[ptr p, errno 0] ∧ Sat w0 w' (LogRep p m (Seg.fresh M limit) :: MedRep m M :: F)) := by
  have hal := alive_c hM h
  rw [ha] at hal
  have hd1 : decide (limit < 128) = false := decide_eq_false (by omega)
  have hd2 : decide (1048576 < limit) = false := decide_eq_false (by omega)
  obtain ⟨i, hi, hz0, hz1, hz2⟩ := info_parts infoSeg
  have hll := Lib.hid (show M.list.length ≤ 500 by
    unfold Med.list
    split
    · simp
    · rw [List.length_map]; exact hM.nowOk.len)
  clear h1 h2 ha
  go_enter Tryz.func15, Tryz.ntmps15
  go_wp2_with fail
  refine hal.mono ?_
  rintro e w1 ⟨v, rfl, rfl, rfl⟩
  clear hal
  have hB := h.alloc (.cells #[ptr m, .int .i64 limit, .slice none 0 0, .bool false, .int .i64 0] 140)
  have hL := list_c hM hB.pick1
  go_wp2_with fail
  refine hL.mono ?_
  rintro e w2 ⟨v, rfl, hS, ba, bn, bc, rfl⟩
  have hlen : bn = M.list.length := by
    obtain ⟨a', n', c', he, hl, _⟩ := Sat.rd hS
    cases he
    rw [strs_len, Nat.mul_one] at hl
    exact hl.symm
  clear hL hB
  subst hlen
  generalize w.heap.size = q at *
  go_wp2_with fail
  go_loopg [32] M.list.length (fun g iq wr => ∃ (i : Nat) (lv : Value), g = M.list.length - i ∧ i ≤ M.list.length ∧ iq = .int .i64 i ∧ Sat w0 wr (LogRaw q m ⟨limit, Seg.found M (M.list.take i), false, 0⟩ lv ++ osl 9 1 (.slice ba M.list.length bc) (strs M.list) :: MedRep m M :: F))
  case atStart => exact ⟨0, .slice none 0 0, rfl, Nat.zero_le _, rfl, by
    have := Sat.osl_nil (T := 145) (sz := 2) |>.2 hS
    exact this.sel 4 [3, 0, 1, 2] rfl rfl⟩
  case round =>
    obtain ⟨j, lv, rfl, hj, rfl, hR⟩ := hrel
    clear hS
    by_cases hj' : j < M.list.length
    · have hx : M.list[j]? = some (M.list[j]'hj') := List.getElem?_eq_getElem hj'
      have hcx := Sat.rd (hR.sel 3 [2] rfl rfl)
      obtain ⟨bk, off, hba, c1⟩ := rdsl_cell hcx (strs_at hx)
      have Hfs := Lib.hid (show Seg.found M (M.list.take (j + 1)) = Seg.found M (M.list.take j) ++ (if (Seg.number M.list[j]).2 = true then [((Seg.number M.list[j]).1, (M.size M.list[j]).1)] else []) by
        rw [List.take_succ_eq_append_getElem hj', Seg.found_snoc])
      have hnum := snumber_c M.list[j] hR
      have Hfl := Lib.hid (Seg.found_len M (M.list.take j))
      generalize M.list[j] = s at *
      have hic : (j : Int) < (M.list.length : Int) := by omega
      have hjl := Lib.hid hj'
      clear hx hcx hj'
      subst hba
      go_wp2_with fail
      refine hnum.mono ?_
      rintro e w3 ⟨v, rfl, rfl, hR3⟩
      clear hnum
      have hwi : IntKind.i64.wrap ((j : Int) + 1) = (j : Int) + 1 := IntWalk.i64_in _ (by have := hll.out; have := hjl.out; omega)
      cases hb : (Seg.number s).2
      · have Hb := Lib.hid hb
        clear hb
        go_wp2
        go_roundg (M.list.length - (j + 1))
        case measure => have := hjl.out; omega
        case rel =>
          refine ⟨j + 1, lv, rfl, Nat.succ_le_of_lt hjl.out, by first | rfl | go_num, ?_⟩
          rw [Hfs.out, Hb.out, if_neg (by decide), List.append_nil]
          exact hR3
      · have Hb := Lib.hid hb
        clear hb
        have hsz := size_c hM (hR3.sel 4 [3, 0, 1, 2] rfl rfl) s
        go_wp2_with fail
        refine hsz.mono ?_
        rintro e w4 ⟨v, rfl, rfl, rfl⟩
        clear hsz
        have c2 := hR3.cellAt 2 _ rfl
        generalize (M.size s).1 = sz at *
        generalize (M.size s).2 = se at *
        generalize (Seg.number s).1 = nu at *
        have h7 := hR3.alloc (.cells #[.int .i64 nu, .int .i64 sz] 145)
        have hoc : ∀ u ∈ (#[.int .i64 nu, .int .i64 sz] : Array Value).toList, u.oneCell' = true := by
          intro u hu
          simp only [List.mem_cons, List.not_mem_nil, or_false] at hu
          rcases hu with rfl | rfl <;> rfl
        have hlen : (segw (Seg.found M (M.list.take j))).length ≤ 2 * 500 := by
          rw [segw_len]; have := Hfl.out; have := hll.out; rw [List.length_take] at *; omega
        have h63 : (segw (Seg.found M (M.list.take j))).length + 2 ≤ maxLen := by unfold maxLen; omega
        have hby : ((segw (Seg.found M (M.list.take j))).length + 2) * i.bytes ≤ 140737488355328 := by rw [hz2]; omega
        have h8 : Sat w0 _ (osl 145 2 lv (segw (Seg.found M (M.list.take j))) :: logPt q m ⟨limit, Seg.found M (M.list.take j), false, 0⟩ lv :: osl 9 1 (.slice (some ⟨bk, off, none⟩) M.list.length bc) (strs M.list) :: MedRep m M :: F) := h7.sel 5 [2, 1, 3, 4] rfl rfl
        clear hlen
        go_wp2_with (at_builtin; go_must (refine wpList_append (w0 := w0) (by rfl) _ _ _ (by rfl) _ i _ Tryz.underlying138 hi hz0 hz1 (by rfl) (by omega) (by rfl) (by rfl) hoc h8 (rdsl_new _ _ _ 2 1 1 (by rfl)) h63 hby ?_); intro v2 w5 hS5 hne; obtain ⟨ab, an, ac, rfl⟩ := hne (by simp); have e2 := hS5.pick1.cellAt 2 _ rfl; have g2 := hS5.pick1.freeAt 2)
        have hS6 := hS5.pick1.set 2 (.slice (some ⟨ab, 0, none⟩) an ac)
        generalize w5.setCell _ _ = w6 at *
        go_roundg (M.list.length - (j + 1))
        case measure => have := hjl.out; omega
        case rel =>
          refine ⟨j + 1, .slice (some ⟨ab, 0, none⟩) an ac, rfl, Nat.succ_le_of_lt hjl.out, by first | rfl | go_num, ?_⟩
          rw [Hfs.out, Hb.out, if_pos rfl]
          unfold LogRaw
          rw [segw_app]
          exact hS6
    · obtain rfl : j = M.list.length := by omega
      have hic : ¬ (M.list.length : Int) < (M.list.length : Int) := by omega
      rw [List.take_length] at hR
      clear hj hj'
      go_wp2
      go_ret2
      refine ⟨_, rfl, q, rfl, ?_⟩
      exact LogRep.shut (hR.sel 4 [0, 1, 3] rfl rfl)
end
section
variable {P : Program} {w0 w : World} {R : List HProp} {v x : Value} {xs ys : List Value}
end
section
variable {w0 w : World} {F : List HProp} {v bv dv x lv : Value} {q p m K : Nat} {L : Seg.Log} {M : Med}
set_option maxHeartbeats 1000000 in
theorem ok_c (h : Sat w0 w (logPt p m L lv :: F)) :
    Calls Tryz.prog 68 #[ptr p] w (Rtn fun v w' => v = .bool true ∧ w = w') := by
  have c0 := h.cellAt 0 _ rfl
  go_enter Tryz.func68, Tryz.ntmps68
  go_wp2
  go_ret
  exact ⟨_, rfl, rfl, rfl⟩
end
section
variable {P : Program} {w0 w : World} {R : List HProp} {b : Nat}
def putsAt (cs : Array Value) : Nat → List Value → Array Value
  | _, [] => cs
  | o, v :: r => putsAt (cs.setIfInBounds o v) (o + 1) r
theorem putsAt_size : ∀ (vs : List Value) (cs : Array Value) (o : Nat), (putsAt cs o vs).size = cs.size
  | [], _, _ => rfl
  | v :: r, cs, o => by rw [putsAt, putsAt_size r, Array.size_setIfInBounds]
theorem Sat.sets : ∀ (vs : List Value) {cs : Array Value} {T : TypeId} {w : World} (o : Nat), Sat w0 w (pt b (.cells cs T (0,0)) :: R) → Sat w0 (w.setCells b o vs) (pt b (.cells (putsAt cs o vs) T (0,0)) :: R)
  | [], _, _, _, _, h => h
  | v :: r, _, _, _, o, h => Sat.sets r (o + 1) (h.set o v)
theorem wpList_store_sat {ops : Array Oper} {rest : List Oper} {op : Oper} {a : Act} {Q : Exit → Act → World → Prop} {cs : Array Value} {T : TypeId} (hgd : op.guard = none) (ty : TypeId) (x y : Operand) (ho : op.op = .store ty x y)
    (o : Nat) (v : Value) (hx : a.eval x = .pointer (some ⟨b, o, none⟩)) (hy : a.eval y = v) (hfit : o + v.cells.size ≤ cs.size)
    (hi : (P.info? ty).map (·.size) = some v.cells.size) (h1 : v.cells.all (·.oneCell') = true) (h : Sat w0 w (pt b (.cells cs T (0,0)) :: R))
    (hK : ∀ w', Sat w0 w' (pt b (.cells (putsAt cs o v.cells.toList) T (0,0)) :: R) → wpList P ops Q rest (a.put op.dst undef) w') : wpList P ops Q (op :: rest) a w := by
  have hth : w.there b o v.cells.size := by
    intro j hj
    refine ⟨?_, h.freeAt _⟩
    rw [h.cellAt (o + j) _ (Array.getElem?_eq_getElem (show o + j < cs.size by omega))]
    rfl
  refine wpList_plain hgd fun _ hK' => ?_
  have hst := run_storeCells_cells (P := P) b o v.cells.toList 0 w (fun j hj => by simpa using (hth j (by simpa using hj)).1) (fun j hj => by simpa using (hth j (by simpa using hj)).2)
    (fun u hu => (Array.all_eq_true_iff_forall_mem.1 h1) u (by simpa using hu))
  have hrun : (storeVar ty ⟨b, o, none⟩ v).run P w = .ok () (w.setCells b o v.cells.toList) := by
    cases hq : P.info? ty with
    | none => simp [hq] at hi
    | some i =>
      have hs : v.cells.size = i.size := by simp [hq] at hi; omega
      simp only [Nat.add_zero] at hst
      simp [storeVar, sizeOf, typeInfo, hq, hs, hst]
  unfold Oper.wp execOp
  simp only [ho, hx, hy, Instr.storeAt, Instr.sureAddr, Sem.run_bind, Sem.run_pure, Result.andThen_ok, hrun]
  exact hK' _ _ (hK _ (Sat.sets _ _ h))
structure Stop (p : Prop) : Prop where
  out : p
theorem wpList_stop {ops : Array Oper} {rest : List Oper} {op : Oper} {a : Act} {Q : Exit → Act → World → Prop} {ty : TypeId} {x y : Operand} (ho : op.op = .store ty x y)
    (h : Stop (wpList P ops Q (op :: rest) a w)) : wpList P ops Q (op :: rest) a w := h.out
end
end Go.Proofs.YtmjldaedhmipkaaGreatDoor
