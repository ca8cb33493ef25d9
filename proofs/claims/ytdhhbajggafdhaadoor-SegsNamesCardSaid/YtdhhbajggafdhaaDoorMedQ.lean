import Derived.Test.YtdhhbajggafdhaaDoorMedP
/- What holds of every medium that calls made. -/
namespace Go.Med
structure Fil.Ok (K : Nat) (f : Fil) : Prop where
  now : f.now = f.at f.waits.length
  cuts : ∀ k c, f.waits[k]? = some c → c.cut = true → c.n ≤ (f.at k).length
  size : ∀ k, k ≤ f.waits.length → (f.at k).length ≤ 16777216
  budget : f.waits.length ≤ K
theorem Fil.at_zero (f : Fil) : f.at 0 = f.fast := rfl
theorem Fil.at_do (f : Fil) (c : Chg) (k : Nat) (h : k ≤ f.waits.length) : (f.do c).at k = f.at k := by
  unfold Fil.at Fil.do
  simp only
  rw [List.take_append_of_le_length h]
theorem Fil.at_succ (f : Fil) (k : Nat) (c : Chg) (h : f.waits[k]? = some c) : f.at (k + 1) = c.on (f.at k) := by
  unfold Fil.at
  obtain ⟨hlt, rfl⟩ := List.getElem?_eq_some_iff.1 h
  rw [List.take_succ_eq_append_getElem hlt, List.foldl_append]
  rfl
theorem Fil.at_do_last (f : Fil) (c : Chg) (hn : f.now = f.at f.waits.length) : (f.do c).at (f.waits.length + 1) = c.on f.now := by
  rw [Fil.at_succ _ _ c (by simp [Fil.do]), Fil.at_do _ _ _ (Nat.le_refl _), hn]
theorem Fil.Ok.now_len {K : Nat} {f : Fil} (h : f.Ok K) : f.now.length ≤ 16777216 := by
  rw [h.now]; exact h.size _ (Nat.le_refl _)
theorem Fil.Ok.mono {K K' : Nat} {f : Fil} (h : f.Ok K) (hk : K ≤ K') : f.Ok K' := ⟨h.now, h.cuts, h.size, Nat.le_trans h.budget hk⟩
theorem Fil.Ok.new (K : Nat) : Fil.new.Ok K := ⟨rfl, by simp [Fil.new], by simp [Fil.new, Fil.at], by simp [Fil.new]⟩
theorem Fil.Ok.do {K : Nat} {f : Fil} (h : f.Ok K) (c : Chg) (h1 : c.cut = true → c.n ≤ f.now.length) (h2 : c.cut = false → f.now.length + c.b.length ≤ 16777216) : (f.do c).Ok (K + 1) := by
  have hw : (f.do c).waits.length = f.waits.length + 1 := by simp [Fil.do]
  refine ⟨?_, ?_, ?_, by rw [hw]; exact Nat.succ_le_succ h.budget⟩
  · rw [hw, f.at_do_last c h.now]; rfl
  · intro k c' hk hc
    simp only [Fil.do] at hk
    rcases Nat.lt_trichotomy k f.waits.length with hlt | rfl | hgt
    · rw [List.getElem?_append_left hlt] at hk
      rw [f.at_do c k (Nat.le_of_lt hlt)]
      exact h.cuts k c' hk hc
    · rw [List.getElem?_append_right (Nat.le_refl _), Nat.sub_self] at hk
      simp at hk; subst hk
      rw [f.at_do c _ (Nat.le_refl _), ← h.now]; exact h1 hc
    · rw [List.getElem?_append_right (Nat.le_of_lt hgt)] at hk
      have : k - f.waits.length ≠ 0 := by omega
      obtain ⟨j, hj⟩ : ∃ j, k - f.waits.length = j + 1 := ⟨k - f.waits.length - 1, by omega⟩
      rw [hj] at hk; simp at hk
  · intro k hk
    rw [hw] at hk
    rcases Nat.lt_or_ge k (f.waits.length + 1) with hlt | hge
    · rw [f.at_do c k (by omega)]; exact h.size k (by omega)
    · obtain rfl : k = f.waits.length + 1 := by omega
      rw [f.at_do_last c h.now]
      unfold Chg.on
      cases hc : c.cut
      · simpa using h2 hc
      · simp; have := h.now_len; omega
theorem Fil.Ok.sync {K : Nat} {f : Fil} (h : f.Ok K) : f.sync.Ok K :=
  ⟨rfl, by simp [Fil.sync], (by simp only [Fil.sync, Fil.at]; intro k _; simpa using h.now_len), by simp [Fil.sync]⟩
theorem Fil.Ok.flat (K : Nat) (b : Bs) (h : b.length ≤ 16777216) : (⟨b, b, []⟩ : Fil).Ok K := ⟨rfl, by simp, by intro k _; simpa [Fil.at] using h, by simp⟩
theorem clampN_le (x : Int) (n : Nat) : clampN x n ≤ n := Nat.min_le_right _ _
theorem Fil.left_len {K : Nat} {f : Fil} (h : f.Ok K) (a b : Int) : (f.left a b).length ≤ 16777216 := by
  unfold Fil.left
  have hk := clampN_le a f.waits.length
  generalize clampN a f.waits.length = k at *
  simp only
  cases hc : f.waits[k]? with
  | none => exact h.size k hk
  | some c =>
    simp only
    split
    · exact h.size k hk
    · rename_i hcut
      have hlt := (List.getElem?_eq_some_iff.1 hc).1
      have := h.size (k + 1) hlt
      rw [f.at_succ k c hc] at this
      unfold Chg.on at this
      rw [if_neg hcut] at this
      simp at this ⊢
      have : min (clampN b c.b.length) c.b.length ≤ c.b.length := Nat.min_le_right _ _
      omega
theorem Fil.Ok.crash {K : Nat} {f : Fil} (h : f.Ok K) (a b : Int) : (f.crash a b).Ok K := Fil.Ok.flat K _ (f.left_len h a b)

/-! ### names -/
def Srt (l : Names) : Prop := l.Pairwise fun a b => lt a.1 b.1 = true
theorem lt_trans {a b c : ByteArray} (h : lt a b = true) (k : lt b c = true) : lt a c = true := by
  simp only [lt, decide_eq_true_eq] at *; exact List.lt_trans h k
theorem lt_irrefl (a : ByteArray) : lt a a = false := by simp [lt, List.lt_irrefl]
theorem lt_or {a b : ByteArray} (h : a ≠ b) : lt a b = true ∨ lt b a = true := by
  simp only [lt, decide_eq_true_eq]
  by_cases h1 : a.data.toList < b.data.toList
  · exact .inl h1
  · right
    have h2 : b.data.toList ≤ a.data.toList := List.not_lt.1 h1
    rcases List.le_iff_lt_or_eq.1 h2 with h3 | h3
    · exact h3
    · exfalso; apply h
      obtain ⟨⟨x⟩⟩ := a; obtain ⟨⟨y⟩⟩ := b
      simp at h3; subst h3; rfl
theorem Srt.keys {l : Names} (h : Srt l) : (l.map (·.1)).Nodup := by
  rw [List.nodup_iff_pairwise_ne, List.pairwise_map]
  refine h.imp fun {a b} hab e => ?_
  rw [e, lt_irrefl] at hab; cases hab
theorem Srt.del {l : Names} (h : Srt l) (s : ByteArray) : Srt (ndel l s) := h.sublist List.filter_sublist
theorem Srt.ins : ∀ {l : Names}, Srt l → ∀ {s : ByteArray} (i : Nat), (∀ p ∈ l, p.1 ≠ s) → Srt (nins l s i)
  | [], _, _, _, _ => List.pairwise_singleton _ _
  | p :: l, h, s, i, hs => by
    unfold nins
    obtain ⟨h1, h2⟩ := List.pairwise_cons.1 h
    split
    · rename_i hlt
      refine List.pairwise_cons.2 ⟨fun q hq => ?_, h⟩
      rcases List.mem_cons.1 hq with rfl | hq
      · exact hlt
      · exact lt_trans hlt (h1 q hq)
    · rename_i hlt
      have hps : lt p.1 s = true := (lt_or (hs p (.head _))).resolve_right (by simpa using hlt)
      refine List.pairwise_cons.2 ⟨fun q hq => ?_, Srt.ins h2 i (fun q hq => hs q (.tail _ hq))⟩
      have := (nins_perm l s i).mem_iff.1 hq
      rcases List.mem_cons.1 this with rfl | hq
      · exact hps
      · exact h1 q hq
theorem Srt.put {l : Names} (h : Srt l) (s : ByteArray) (i : Nat) : Srt (nput l s i) := (h.del s).ins i (ndel_keys l s)
structure NOk (n : Nat) (l : Names) : Prop where
  srt : Srt l
  len : l.length ≤ 500
  ids : ∀ p ∈ l, p.2 < n
  ne : ∀ p ∈ l, p.1 ≠ ByteArray.empty
theorem NOk.mono {n n' : Nat} {l : Names} (h : NOk n l) (hn : n ≤ n') : NOk n' l := ⟨h.srt, h.len, fun p hp => Nat.lt_of_lt_of_le (h.ids p hp) hn, h.ne⟩
theorem ndel_len (l : Names) (s : ByteArray) : (ndel l s).length ≤ l.length := List.length_filter_le _ _
theorem NOk.del {n : Nat} {l : Names} (h : NOk n l) (s : ByteArray) : NOk n (ndel l s) :=
  ⟨h.srt.del s, Nat.le_trans (ndel_len l s) h.len, fun p hp => h.ids p (List.mem_filter.1 hp).1, fun p hp => h.ne p (List.mem_filter.1 hp).1⟩
theorem nput_len (l : Names) (s : ByteArray) (i : Nat) : (nput l s i).length = (ndel l s).length + 1 := (nput_perm l s i).length_eq
theorem NOk.put {n : Nat} {l : Names} (h : NOk n l) (s : ByteArray) (i : Nat) (hi : i < n) (hl : (ndel l s).length < 500) (hs : s ≠ ByteArray.empty) : NOk n (nput l s i) := by
  refine ⟨h.srt.put s i, by rw [nput_len]; omega, fun p hp => ?_, fun p hp => ?_⟩
  rotate_left
  · rcases List.mem_cons.1 ((nput_perm l s i).mem_iff.1 hp) with rfl | hp
    · exact hs
    · exact h.ne p (List.mem_filter.1 hp).1
  rcases List.mem_cons.1 ((nput_perm l s i).mem_iff.1 hp) with rfl | hp
  · exact hi
  · exact h.ids p (List.mem_filter.1 hp).1
theorem ndel_lt {l : Names} (hs : Srt l) {s : ByteArray} {i : Nat} (h : nget l s = some i) : (ndel l s).length + 1 = l.length := by
  have := (ndel_perm hs.keys (nget_mem h)).length_eq
  simp at this; omega

/-! ### the medium -/
structure Med.Ok (K : Nat) (m : Med) : Prop where
  room : m.room ≤ 16777216
  left : m.left ≤ 9223372036854775807
  links : ∀ x ∈ m.waits, x.to ≠ ByteArray.empty → x.f < m.files.length
  names : ∀ k, k ≤ m.waits.length → NOk m.files.length (m.lastNames k)
  now : m.now = m.lastNames m.waits.length
  files : ∀ f ∈ m.files, f.Ok K
  budget : m.waits.length ≤ K
theorem Med.Ok.nowOk {K : Nat} {m : Med} (h : m.Ok K) : NOk m.files.length m.now := by rw [h.now]; exact h.names _ (Nat.le_refl _)
theorem Med.Ok.fastOk {K : Nat} {m : Med} (h : m.Ok K) : NOk m.files.length m.fast := h.names 0 (Nat.zero_le _)
theorem Med.Ok.file {K : Nat} {m : Med} (h : m.Ok K) (i : Nat) : (m.file i).Ok K := by
  unfold Med.file
  rcases Nat.lt_or_ge i m.files.length with hi | hi
  · rw [List.getD_eq_getElem?_getD, List.getElem?_eq_getElem hi]; exact h.files _ (List.getElem_mem hi)
  · rw [List.getD_eq_getElem?_getD, List.getElem?_eq_none hi]; exact Fil.Ok.new K
theorem Med.Ok.mono {K K' : Nat} {m : Med} (h : m.Ok K) (hk : K ≤ K') : m.Ok K' :=
  ⟨h.room, h.left, h.links, h.names, h.now, fun f hf => (h.files f hf).mono hk, Nat.le_trans h.budget hk⟩
theorem Med.Ok.new (K room : Nat) (h : room ≤ 16777216) : (new room).Ok K :=
  ⟨h, by simp [Med.new], by simp [Med.new], (by intro k _; simp [Med.new, Med.lastNames]; exact ⟨List.Pairwise.nil, by simp, by simp, by simp⟩), by simp [Med.new, Med.lastNames], by simp [Med.new], by simp [Med.new]⟩
theorem Med.Ok.step {K : Nat} {m : Med} (h : m.Ok K) : m.step.1.Ok K := by
  unfold Med.step
  split
  · split
    · exact ⟨h.room, h.left, h.links, h.names, h.now, h.files, h.budget⟩
    · exact ⟨h.room, Nat.le_trans (Nat.sub_le _ _) h.left, h.links, h.names, h.now, h.files, h.budget⟩
  · exact h
theorem Med.step_same (m : Med) : m.step.1.room = m.room ∧ m.step.1.fast = m.fast ∧ m.step.1.now = m.now ∧ m.step.1.files = m.files ∧ m.step.1.waits = m.waits := by
  unfold Med.step
  split
  · split <;> exact ⟨rfl, rfl, rfl, rfl, rfl⟩
  · exact ⟨rfl, rfl, rfl, rfl, rfl⟩
theorem Med.lastNames_link (m : Med) (x : Lnk) (k : Nat) (h : k ≤ m.waits.length) : (m.link x).lastNames k = m.lastNames k := by
  unfold Med.lastNames Med.link
  simp only
  rw [List.take_append_of_le_length h]
theorem Med.lastNames_last (m : Med) (x : Lnk) (h : m.now = m.lastNames m.waits.length) : (m.link x).lastNames (m.waits.length + 1) = x.on m.now := by
  rw [h]
  unfold Med.lastNames Med.link
  simp only
  rw [List.take_of_length_le (by simp), List.take_of_length_le (Nat.le_refl _), List.foldl_append]
  rfl
theorem Med.Ok.link {K : Nat} {m : Med} (h : m.Ok K) (x : Lnk) (hf : x.to ≠ ByteArray.empty → x.f < m.files.length) (hn : NOk m.files.length (x.on m.now)) : (m.link x).Ok (K + 1) := by
  have hw : (m.link x).waits.length = m.waits.length + 1 := by simp [Med.link]
  refine ⟨h.room, h.left, ?_, ?_, ?_, fun f hf => (h.files f hf).mono (Nat.le_succ _), by rw [hw]; exact Nat.succ_le_succ h.budget⟩
  · intro y hy
    simp only [Med.link, List.mem_append, List.mem_singleton] at hy
    rcases hy with hy | rfl
    · exact h.links y hy
    · exact hf
  · intro k hk
    rw [hw] at hk
    rcases Nat.lt_or_ge k (m.waits.length + 1) with hlt | hge
    · rw [m.lastNames_link x k (by omega)]; exact h.names k (by omega)
    · obtain rfl : k = m.waits.length + 1 := by omega
      rw [m.lastNames_last x h.now]; exact hn
  · rw [hw, m.lastNames_last x h.now]; rfl
theorem Med.Ok.setFile {K : Nat} {m : Med} (h : m.Ok K) (i : Nat) (f : Fil) (hf : f.Ok (K + 1)) : (m.setFile i f).Ok (K + 1) := by
  have hl : (m.setFile i f).files.length = m.files.length := by simp [Med.setFile]
  refine ⟨h.room, h.left, (by rw [hl]; exact h.links), (by rw [hl]; exact h.names), h.now, ?_, Nat.le_succ_of_le h.budget⟩
  intro g hg
  rcases List.mem_or_eq_of_mem_set hg with hg | rfl
  · exact (h.files g hg).mono (Nat.le_succ _)
  · exact hf
theorem Med.Ok.newFile {K : Nat} {m : Med} (h : m.Ok K) : ({ m with files := m.files ++ [Fil.new] } : Med).Ok K := by
  have hl : (m.files ++ [Fil.new]).length = m.files.length + 1 := by simp
  refine ⟨h.room, h.left, fun x hx ht => (by have := h.links x hx ht; simp only [hl]; omega), fun k hk => (h.names k hk).mono (by simp), h.now, ?_, h.budget⟩
  intro f hf
  rcases List.mem_append.1 hf with hf | hf
  · exact h.files f hf
  · rw [List.mem_singleton.1 hf]; exact Fil.Ok.new K
theorem good_ne {s : ByteArray} (h : good s = true) : s ≠ ByteArray.empty := by
  intro e; subst e; simp [good] at h
theorem Med.Ok.create {K : Nat} {m : Med} (h : m.Ok K) (s : ByteArray) : (m.create s).1.Ok (K + 1) := by
  unfold Med.create
  have h' := h.mono (Nat.le_succ K)
  split; · exact h'
  split; · exact h'
  rename_i hg
  split; · exact h'
  rename_i hn
  split; · exact h'
  rename_i hl
  split; · exact h'.step
  have hst := h.step
  obtain ⟨e1, e2, e3, e4, e5⟩ := m.step_same
  have hg' : good s = true := by simpa using hg
  have hn' : nget m.now s = none := by simpa using hn
  have h1 := hst.newFile
  rw [e4] at h1
  refine h1.link _ (fun _ => by simp) ?_
  show NOk _ (Lnk.on _ m.step.1.now)
  rw [e3]
  unfold Lnk.on
  simp only [if_true, if_neg (good_ne hg')]
  exact (h.nowOk.mono (by simp)).put s _ (by simp) (by rw [ndel_none hn']; omega) (good_ne hg')
theorem le_sum : ∀ (l : List Nat) (n : Nat), n ∈ l → n ≤ l.sum
  | [], _, h => by cases h
  | x :: l, n, h => by
    rcases List.mem_cons.1 h with rfl | h
    · simp
    · have := le_sum l n h; simp; omega
theorem Med.Ok.append {K : Nat} {m : Med} (h : m.Ok K) (s : ByteArray) (b : Bs) : (m.append s b).1.Ok (K + 1) := by
  unfold Med.append
  have h' := h.mono (Nat.le_succ K)
  split; · exact h'
  split; · exact h'
  rename_i i hi
  split; · exact h'
  rename_i hroom
  split; · exact h'.step
  refine h.step.setFile _ _ ((h.file i).do _ (by simp) ?_)
  intro _
  have hu : (m.file i).now.length ≤ m.used := by
    unfold Med.used
    have : (s, i) ∈ m.now := nget_mem hi
    exact le_sum _ _ (List.mem_map.2 ⟨(s, i), this, rfl⟩)
  have := h.room
  simp only
  omega
theorem Med.Ok.truncate {K : Nat} {m : Med} (h : m.Ok K) (s : ByteArray) (n : Int) : (m.truncate s n).1.Ok (K + 1) := by
  unfold Med.truncate
  have h' := h.mono (Nat.le_succ K)
  split; · exact h'
  split; · exact h'
  rename_i i hi
  split; · exact h'
  rename_i hn
  split; · exact h'.step
  exact h.step.setFile _ _ ((h.file i).do _ (by intro _; simp only; omega) (by simp))
theorem Med.Ok.rename {K : Nat} {m : Med} (h : m.Ok K) (s t : ByteArray) : (m.rename s t).1.Ok (K + 1) := by
  unfold Med.rename
  have h' := h.mono (Nat.le_succ K)
  split; · exact h'
  split; · exact h'
  rename_i i hi
  split; · exact h'
  rename_i hg
  split; · exact h'.step
  obtain ⟨e1, e2, e3, e4, e5⟩ := m.step_same
  have hg' : good t = true := by simpa using hg
  have hid : i < m.files.length := h.nowOk.ids _ (nget_mem hi)
  refine h.step.link _ (fun _ => by rw [e4]; exact hid) ?_
  rw [e3, e4]
  unfold Lnk.on
  simp only [if_neg (good_ne hg')]
  have hd := ndel_lt h.nowOk.srt hi
  have hl := h.nowOk.len
  have hs : s ≠ ByteArray.empty := h.nowOk.ne _ (nget_mem hi)
  rw [if_neg hs]
  refine (h.nowOk.del s).put t i hid ?_ (good_ne hg')
  have := ndel_len (ndel m.now s) t
  omega
theorem Med.Ok.remove {K : Nat} {m : Med} (h : m.Ok K) (s : ByteArray) : (m.remove s).1.Ok (K + 1) := by
  unfold Med.remove
  have h' := h.mono (Nat.le_succ K)
  split; · exact h'
  split; · exact h'
  rename_i i hi
  split; · exact h'.step
  obtain ⟨e1, e2, e3, e4, e5⟩ := m.step_same
  refine h.step.link _ (fun hh => absurd rfl hh) ?_
  rw [e3, e4]
  unfold Lnk.on
  have hs : s ≠ ByteArray.empty := h.nowOk.ne _ (nget_mem hi)
  simp only [if_true, if_neg hs]
  exact h.nowOk.del s
theorem Med.Ok.sync {K : Nat} {m : Med} (h : m.Ok K) (s : ByteArray) : (m.sync s).1.Ok (K + 1) := by
  unfold Med.sync
  have h' := h.mono (Nat.le_succ K)
  split; · exact h'
  split; · exact h'
  rename_i i hi
  split; · exact h'.step
  exact h.step.setFile _ _ ((h.file i).sync.mono (Nat.le_succ _))
theorem Med.Ok.syncDir {K : Nat} {m : Med} (h : m.Ok K) : m.syncDir.1.Ok K := by
  unfold Med.syncDir
  split; · exact h
  split; · exact h.step
  obtain ⟨e1, e2, e3, e4, e5⟩ := m.step_same
  have hs := h.step
  refine ⟨hs.room, hs.left, by simp, ?_, ?_, hs.files, by simp⟩
  · intro k _
    show NOk _ _
    simp only [Med.lastNames, List.take_nil, List.foldl_nil]
    rw [e4]; exact h.nowOk
  · simp only [Med.lastNames, List.take_nil, List.foldl_nil]
    exact e3
theorem Med.Ok.setRoom {K : Nat} {m : Med} (h : m.Ok K) (n : Int) : (m.setRoom n).1.Ok K := by
  unfold Med.setRoom
  split; · exact h
  split; · exact h
  exact ⟨by simp only; omega, h.left, h.links, h.names, h.now, h.files, h.budget⟩
theorem Med.Ok.arm {K : Nat} {m : Med} (h : m.Ok K) (n : Int) (hn : n ≤ 9223372036854775807) : (m.arm n).1.Ok K := by
  unfold Med.arm
  split; · exact h
  split; · exact h
  exact ⟨h.room, by simp only; omega, h.links, h.names, h.now, h.files, h.budget⟩
theorem crashFiles_len (l : List Int) : ∀ (ns : Names) (j : Nat) (fs : List Fil), (crashFiles l ns j fs).length = fs.length
  | [], _, _ => rfl
  | p :: ns, j, fs => by unfold crashFiles; rw [crashFiles_len l ns]; simp
theorem crashFiles_ok (l : List Int) (K : Nat) : ∀ (ns : Names) (j : Nat) (fs : List Fil), (∀ f ∈ fs, f.Ok K) → ∀ f ∈ crashFiles l ns j fs, f.Ok K
  | [], _, _, h => h
  | p :: ns, j, fs, h => by
    unfold crashFiles
    refine crashFiles_ok l K ns _ _ ?_
    intro f hf
    rcases List.mem_or_eq_of_mem_set hf with hf | rfl
    · exact h f hf
    · refine Fil.Ok.crash ?_ _ _
      rcases Nat.lt_or_ge p.2 fs.length with hi | hi
      · rw [List.getD_eq_getElem?_getD, List.getElem?_eq_getElem hi]; exact h _ (List.getElem_mem hi)
      · rw [List.getD_eq_getElem?_getD, List.getElem?_eq_none hi]; exact Fil.Ok.new K
theorem Med.Ok.crash {K : Nat} {m : Med} (h : m.Ok K) (l : List Int) : (m.crash l).Ok K := by
  unfold Med.crash
  have hn := h.names _ (clampN_le (num l 0) m.waits.length)
  generalize m.lastNames (clampN (num l 0) m.waits.length) = ns at *
  refine ⟨h.room, by simp, by simp, ?_, ?_, crashFiles_ok l K ns 1 m.files h.files, by simp⟩
  · intro k _
    simp only [Med.lastNames, List.take_nil, List.foldl_nil, crashFiles_len]
    exact hn
  · simp only [Med.lastNames, List.take_nil, List.foldl_nil]
theorem sum_le (l : List Nat) (b : Nat) (h : ∀ x ∈ l, x ≤ b) : l.sum ≤ l.length * b := by
  induction l with
  | nil => simp
  | cons x l ih =>
    have h1 := h x (.head _)
    have h2 := ih fun y hy => h y (.tail _ hy)
    simp only [List.sum_cons, List.length_cons, Nat.add_mul]
    omega
theorem Med.Ok.used_le {K : Nat} {m : Med} (h : m.Ok K) : m.used ≤ 8388608000 := by
  unfold Med.used
  have h1 := sum_le (m.now.map fun p => (m.file p.2).now.length) 16777216 (by
    intro x hx
    obtain ⟨p, _, rfl⟩ := List.mem_map.1 hx
    exact (h.file p.2).now_len)
  have := h.nowOk.len
  rw [List.length_map] at h1
  have := Nat.mul_le_mul_right 16777216 this
  omega
end Go.Med
