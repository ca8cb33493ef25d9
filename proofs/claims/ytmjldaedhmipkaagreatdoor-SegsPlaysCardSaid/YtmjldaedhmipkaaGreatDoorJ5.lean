import Derived.Test.YtmjldaedhmipkaaGreatDoorJ4
set_option linter.unusedVariables false
/- A call on a medium, plain; what rows of calls keep. No program in sight. -/
namespace Go.Med
set_option linter.unusedVariables false
structure Cal where
  kind : Int
  name : ByteArray
  to : ByteArray
  n : Int
  m : Int
  b : Bs
  l : List Int
def lowByte (m : Int) : UInt8 := UInt8.ofNat (m % 256).toNat
def Med.does (M : Med) (x : Cal) : Med × (Bs × Int × Bool) :=
  if x.kind = 0 then ((M.create x.name).1, [], (M.create x.name).2, false)
  else if x.kind = 1 then ((M.append x.name x.b).1, [], (M.append x.name x.b).2, false)
  else if x.kind = 2 then ((M.truncate x.name x.n).1, [], (M.truncate x.name x.n).2, false)
  else if x.kind = 3 then ((M.rename x.name x.to).1, [], (M.rename x.name x.to).2, false)
  else if x.kind = 4 then ((M.remove x.name).1, [], (M.remove x.name).2, false)
  else if x.kind = 5 then ((M.sync x.name).1, [], (M.sync x.name).2, false)
  else if x.kind = 6 then (M.syncDir.1, [], M.syncDir.2, false)
  else if x.kind = 7 then ((M.arm x.n).1, [], (M.arm x.n).2, false)
  else if x.kind = 8 then (M.crash x.l, [], 0, false)
  else if x.kind = 9 then ((M.setRoom x.n).1, [], (M.setRoom x.n).2, false)
  else if x.kind = 10 then ((M.rot x.name x.n (lowByte x.m)).1, [], 0, (M.rot x.name x.n (lowByte x.m)).2)
  else (M, (M.read x.name x.n x.m).1, (M.read x.name x.n x.m).2, false)
theorem Med.does_ind {P : Med × Bs × Int × Bool → Prop} {M : Med} {x : Cal}
    (h0 : x.kind = 0 → P ((M.create x.name).1, [], (M.create x.name).2, false))
    (h1 : x.kind = 1 → P ((M.append x.name x.b).1, [], (M.append x.name x.b).2, false))
    (h2 : x.kind = 2 → P ((M.truncate x.name x.n).1, [], (M.truncate x.name x.n).2, false))
    (h3 : x.kind = 3 → P ((M.rename x.name x.to).1, [], (M.rename x.name x.to).2, false))
    (h4 : x.kind = 4 → P ((M.remove x.name).1, [], (M.remove x.name).2, false))
    (h5 : x.kind = 5 → P ((M.sync x.name).1, [], (M.sync x.name).2, false))
    (h6 : x.kind = 6 → P (M.syncDir.1, [], M.syncDir.2, false))
    (h7 : x.kind = 7 → P ((M.arm x.n).1, [], (M.arm x.n).2, false))
    (h8 : x.kind = 8 → P (M.crash x.l, [], 0, false))
    (h9 : x.kind = 9 → P ((M.setRoom x.n).1, [], (M.setRoom x.n).2, false))
    (h10 : x.kind = 10 → P ((M.rot x.name x.n (lowByte x.m)).1, [], 0, (M.rot x.name x.n (lowByte x.m)).2))
    (hz : x.kind ≠ 0 ∧ x.kind ≠ 1 ∧ x.kind ≠ 2 ∧ x.kind ≠ 3 ∧ x.kind ≠ 4 ∧ x.kind ≠ 5 ∧ x.kind ≠ 6 ∧ x.kind ≠ 7 ∧ x.kind ≠ 8 ∧ x.kind ≠ 9 ∧ x.kind ≠ 10 → P (M, (M.read x.name x.n x.m).1, (M.read x.name x.n x.m).2, false)) : P (M.does x) := by
  unfold Med.does
  by_cases c0 : x.kind = 0; · rw [if_pos c0]; exact h0 c0
  rw [if_neg c0]
  by_cases c1 : x.kind = 1; · rw [if_pos c1]; exact h1 c1
  rw [if_neg c1]
  by_cases c2 : x.kind = 2; · rw [if_pos c2]; exact h2 c2
  rw [if_neg c2]
  by_cases c3 : x.kind = 3; · rw [if_pos c3]; exact h3 c3
  rw [if_neg c3]
  by_cases c4 : x.kind = 4; · rw [if_pos c4]; exact h4 c4
  rw [if_neg c4]
  by_cases c5 : x.kind = 5; · rw [if_pos c5]; exact h5 c5
  rw [if_neg c5]
  by_cases c6 : x.kind = 6; · rw [if_pos c6]; exact h6 c6
  rw [if_neg c6]
  by_cases c7 : x.kind = 7; · rw [if_pos c7]; exact h7 c7
  rw [if_neg c7]
  by_cases c8 : x.kind = 8; · rw [if_pos c8]; exact h8 c8
  rw [if_neg c8]
  by_cases c9 : x.kind = 9; · rw [if_pos c9]; exact h9 c9
  rw [if_neg c9]
  by_cases c10 : x.kind = 10; · rw [if_pos c10]; exact h10 c10
  rw [if_neg c10]
  exact hz ⟨c0, c1, c2, c3, c4, c5, c6, c7, c8, c9, c10⟩
theorem Med.Ok.does {K : Nat} {M : Med} (h : M.Ok K) (x : Cal) (hn : x.n ≤ 9223372036854775807) : (M.does x).1.Ok (K + 1) := by
  have h' := h.mono (Nat.le_succ K)
  refine Med.does_ind (P := fun r => r.1.Ok (K + 1)) ?_ ?_ ?_ ?_ ?_ ?_ ?_ ?_ ?_ ?_ ?_ ?_
  · exact fun _ => h.create _
  · exact fun _ => h.append _ _
  · exact fun _ => h.truncate _ _
  · exact fun _ => h.rename _ _
  · exact fun _ => h.remove _
  · exact fun _ => h.sync _
  · exact fun _ => h.syncDir.mono (Nat.le_succ K)
  · exact fun _ => (h.arm _ hn).mono (Nat.le_succ K)
  · exact fun _ => (h.crash _).mono (Nat.le_succ K)
  · exact fun _ => (h.setRoom _).mono (Nat.le_succ K)
  · exact fun _ => h.rot _ _ _
  · exact fun _ => h'
/-- The power is on, and nothing is armed. -/
structure Quiet (M : Med) : Prop where
  armed : M.armed = false
  off : M.off = false
  left : M.left = 0
theorem Quiet.new (r : Nat) : Quiet (new r) := ⟨rfl, rfl, rfl⟩
theorem Quiet.step {M : Med} (h : Quiet M) : M.step = (M, true) := by simp [Med.step, h.armed]
theorem Quiet.link {M : Med} (h : Quiet M) (x : Lnk) : Quiet (M.link x) := ⟨h.armed, h.off, h.left⟩
theorem Quiet.setFile {M : Med} (h : Quiet M) (i : Nat) (f : Fil) : Quiet (M.setFile i f) := ⟨h.armed, h.off, h.left⟩
theorem Quiet.crash (M : Med) (l : List Int) : Quiet (M.crash l) := ⟨rfl, rfl, rfl⟩
theorem Quiet.create {M : Med} (h : Quiet M) (s : ByteArray) : Quiet (M.create s).1 := by
  unfold Med.create
  rw [h.step]
  split; · exact h
  split; · exact h
  split; · exact h
  split; · exact h
  split; · exact h
  exact ⟨h.armed, h.off, h.left⟩
theorem Quiet.append {M : Med} (h : Quiet M) (s : ByteArray) (b : Bs) : Quiet (M.append s b).1 := by
  unfold Med.append
  rw [h.step]
  split; · exact h
  split; · exact h
  split; · exact h
  split; · exact h
  exact h.setFile _ _
theorem Quiet.truncate {M : Med} (h : Quiet M) (s : ByteArray) (n : Int) : Quiet (M.truncate s n).1 := by
  unfold Med.truncate
  rw [h.step]
  split; · exact h
  split; · exact h
  split; · exact h
  split; · exact h
  exact h.setFile _ _
theorem Quiet.rename {M : Med} (h : Quiet M) (s t : ByteArray) : Quiet (M.rename s t).1 := by
  unfold Med.rename
  rw [h.step]
  split; · exact h
  split; · exact h
  split; · exact h
  split; · exact h
  exact h.link _
theorem Quiet.remove {M : Med} (h : Quiet M) (s : ByteArray) : Quiet (M.remove s).1 := by
  unfold Med.remove
  rw [h.step]
  split; · exact h
  split; · exact h
  split; · exact h
  exact h.link _
theorem Quiet.sync {M : Med} (h : Quiet M) (s : ByteArray) : Quiet (M.sync s).1 := by
  unfold Med.sync
  rw [h.step]
  split; · exact h
  split; · exact h
  split; · exact h
  exact h.setFile _ _
theorem Quiet.syncDir {M : Med} (h : Quiet M) : Quiet M.syncDir.1 := by
  unfold Med.syncDir
  rw [h.step]
  split; · exact h
  split; · exact h
  exact ⟨h.armed, h.off, h.left⟩
theorem Quiet.setRoom {M : Med} (h : Quiet M) (n : Int) : Quiet (M.setRoom n).1 := by
  unfold Med.setRoom
  split; · exact h
  split; · exact h
  exact ⟨h.armed, h.off, h.left⟩
theorem Quiet.rot {M : Med} (h : Quiet M) (s : ByteArray) (i : Int) (y : UInt8) : Quiet (M.rot s i y).1 := by
  unfold Med.rot
  split; · exact h
  split; · exact h
  exact h.setFile _ _
theorem Quiet.does {M : Med} (h : Quiet M) (x : Cal) (hk : x.kind ≠ 7) : Quiet (M.does x).1 := by
  refine Med.does_ind (P := fun r => Quiet r.1) ?_ ?_ ?_ ?_ ?_ ?_ ?_ ?_ ?_ ?_ ?_ ?_
  · exact fun _ => h.create _
  · exact fun _ => h.append _ _
  · exact fun _ => h.truncate _ _
  · exact fun _ => h.rename _ _
  · exact fun _ => h.remove _
  · exact fun _ => h.sync _
  · exact fun _ => h.syncDir
  · exact fun h7 => absurd h7 hk
  · exact fun _ => .crash _ _
  · exact fun _ => h.setRoom _
  · exact fun _ => h.rot _ _ _
  · exact fun _ => h
/-- A row of calls but for those that arm. -/
def Med.plays : Med → List Cal → Med
  | M, [] => M
  | M, x :: l => Med.plays (if x.kind = 7 then M else (M.does x).1) l
theorem Med.plays_snoc (M : Med) (l : List Cal) (x : Cal) : M.plays (l ++ [x]) = (if x.kind = 7 then M.plays l else ((M.plays l).does x).1) := by
  induction l generalizing M with
  | nil => rfl
  | cons y l ih => exact ih _
theorem Quiet.plays {M : Med} (h : Quiet M) (l : List Cal) : Quiet (M.plays l) := by
  induction l generalizing M with
  | nil => exact h
  | cons x l ih =>
    refine ih ?_
    split
    · exact h
    · rename_i h7; exact h.does x h7
theorem Med.Ok.plays {K : Nat} {M : Med} (h : M.Ok K) (l : List Cal) (hl : ∀ x ∈ l, x.n ≤ 9223372036854775807) : (M.plays l).Ok (K + l.length) := by
  induction l generalizing M K with
  | nil => exact h
  | cons x l ih =>
    have : (M.plays (x :: l)).Ok (K + 1 + l.length) := by
      refine ih ?_ (fun y hy => hl y (.tail _ hy))
      split
      · exact h.mono (Nat.le_succ K)
      · exact h.does x (hl x (.head _))
    refine this.mono ?_
    simp only [List.length_cons]; omega

/-! ### nothing waits -/
def FFlat (f : Fil) : Prop := f.now = f.fast ∧ f.waits = []
theorem FFlat.crash {f : Fil} (h : FFlat f) (a b : Int) : f.crash a b = f := by
  obtain ⟨fast, now, waits⟩ := f
  obtain ⟨h1, h2⟩ := h
  simp only at h1 h2
  subst h1; subst h2
  simp [Fil.crash, Fil.left, Fil.at]
theorem crashFiles_flat (l : List Int) : ∀ (ns : Names) (j : Nat) (fs : List Fil), (∀ p ∈ ns, p.2 < fs.length ∧ FFlat (fs.getD p.2 Fil.new)) → crashFiles l ns j fs = fs
  | [], _, _, _ => rfl
  | p :: ns, j, fs, h => by
    obtain ⟨h1, h2⟩ := h p (.head _)
    have e : fs.set p.2 ((fs.getD p.2 Fil.new).crash (num l j) (num l (j + 1))) = fs := by
      rw [h2.crash]
      rw [List.getD_eq_getElem?_getD, List.getElem?_eq_getElem h1]
      exact List.set_getElem_self h1
    unfold crashFiles
    rw [e]
    exact crashFiles_flat l ns _ fs fun q hq => h q (.tail _ hq)
structure Flat (M : Med) : Prop where
  quiet : Quiet M
  fast : M.fast = M.now
  waits : M.waits = []
  files : ∀ p ∈ M.now, FFlat (M.file p.2)
theorem Flat.crash {M : Med} {K : Nat} (h : Flat M) (ok : M.Ok K) (l : List Int) : M.crash l = M := by
  obtain ⟨⟨q1, q2, q3⟩, h2, h3, h4⟩ := h
  have hid := ok.nowOk.ids
  obtain ⟨room, fast, now, files, waits, armed, left, off⟩ := M
  simp only at q1 q2 q3 h2 h3
  subst q1; subst q2; subst q3; subst h2; subst h3
  have e := crashFiles_flat l fast 1 files (fun p hp => ⟨hid p hp, h4 p hp⟩)
  simp only [Med.crash, Med.lastNames, List.take_nil, List.foldl_nil, e]
/-- The first n names are synced. -/
def Med.syncs : Med → List ByteArray → Med
  | M, [] => M
  | M, s :: l => Med.syncs (M.sync s).1 l
theorem Med.syncs_snoc (M : Med) (l : List ByteArray) (s : ByteArray) : M.syncs (l ++ [s]) = ((M.syncs l).sync s).1 := by
  induction l generalizing M with
  | nil => rfl
  | cons y l ih => exact ih _
theorem Quiet.sync_eq {M : Med} (h : Quiet M) {s : ByteArray} {i : Nat} (hs : nget M.now s = some i) : M.sync s = (M.setFile i (M.file i).sync, 0) := by
  unfold Med.sync
  rw [h.step, h.off, hs]
  rfl
/-- M' is M, some files of it synced. -/
structure Synced (M M' : Med) : Prop where
  room : M'.room = M.room
  fast : M'.fast = M.fast
  now : M'.now = M.now
  waits : M'.waits = M.waits
  quiet : Quiet M'
  bytes : ∀ i, (M'.file i).now = (M.file i).now
  len : M'.files.length = M.files.length
theorem file_set {M : Med} {i : Nat} {f : Fil} (hi : i < M.files.length) (j : Nat) : (M.setFile i f).file j = if j = i then f else M.file j := by
  unfold Med.setFile Med.file
  simp only [List.getD_eq_getElem?_getD]
  split
  · rename_i h; subst h; rw [List.getElem?_set_self hi]; rfl
  · rename_i h; rw [List.getElem?_set_ne (Ne.symm h)]
theorem Synced.start {M : Med} (h : Quiet M) : Synced M M := ⟨rfl, rfl, rfl, rfl, h, fun _ => rfl, rfl⟩
theorem Synced.next {M M' : Med} (h : Synced M M') {s : ByteArray} {i : Nat} (hs : nget M.now s = some i) (hi : i < M.files.length) (done : List Nat) (hd : ∀ j ∈ done, FFlat (M'.file j)) :
    (M'.sync s).2 = 0 ∧ Synced M (M'.sync s).1 ∧ ∀ j ∈ done ++ [i], FFlat ((M'.sync s).1.file j) := by
  have e := h.quiet.sync_eq (s := s) (i := i) (by rw [h.now]; exact hs)
  have hi' : i < M'.files.length := by rw [h.len]; exact hi
  rw [e]
  refine ⟨rfl, ⟨h.room, h.fast, h.now, h.waits, h.quiet.setFile _ _, fun j => ?_, by simp [Med.setFile, h.len]⟩, fun j hj => ?_⟩
  · simp only
    rw [file_set hi']
    split
    · rename_i hh; subst hh; exact h.bytes j
    · exact h.bytes j
  · simp only
    rw [file_set hi']
    split
    · exact ⟨rfl, rfl⟩
    · rename_i hne
      rcases List.mem_append.1 hj with hj | hj
      · exact hd j hj
      · exact absurd (List.mem_singleton.1 hj) hne
theorem Synced.all {M M' : Med} (hq : Quiet M) (h : Synced M M') (s : ByteArray) : M'.all s = M.all s := by
  unfold Med.all
  rw [h.now, h.quiet.off, hq.off]
  cases hn : nget M.now s with
  | none => rfl
  | some i => simp only [Bool.false_eq_true, if_false, h.bytes]
theorem Quiet.syncDir_eq {M : Med} (h : Quiet M) : M.syncDir = ({ M with fast := M.now, waits := [] }, 0) := by
  unfold Med.syncDir
  rw [h.step, if_neg (by rw [h.off]; exact Bool.false_ne_true)]
  simp
theorem Quiet.list {M : Med} (h : Quiet M) : M.list = M.now.map (·.1) := by unfold Med.list; rw [h.off]; rfl
theorem Synced.flat {M M' : Med} (hq : Quiet M) (h : Synced M M') (hf : ∀ j ∈ M.now.map (·.2), FFlat (M'.file j)) :
    M'.syncDir.2 = 0 ∧ Flat M'.syncDir.1 ∧ M'.syncDir.1.list = M.list ∧ ∀ s, M'.syncDir.1.all s = M.all s := by
  rw [h.quiet.syncDir_eq]
  refine ⟨rfl, ⟨⟨h.quiet.armed, h.quiet.off, h.quiet.left⟩, rfl, rfl, fun p hp => ?_⟩, ?_, fun s => ?_⟩
  · have hp' : p ∈ M.now := by simp only at hp; rw [h.now] at hp; exact hp
    exact hf _ (List.mem_map.2 ⟨p, hp', rfl⟩)
  · rw [hq.list, ← h.now]
    simp only [Med.list, h.quiet.off]
    rfl
  · rw [← h.all hq]
    rfl

/-! ### names of some moment -/
/-- All names that a crash may leave are in a list of moments. -/
def Moms (M : Med) (l : List (List ByteArray)) : Prop := ∀ k, k ≤ M.waits.length → (M.lastNames k).map (·.1) ∈ l
theorem Moms.start {M : Med} {K : Nat} (ok : M.Ok K) (hw : M.waits = []) (hq : Quiet M) : Moms M [M.list] := by
  intro k hk
  rw [hw] at hk
  have hn := ok.now
  rw [hw] at hn
  obtain rfl : k = 0 := by simpa using hk
  rw [hq.list, hn]
  exact .head _
/-- What links did: the same changes, or one more. -/
def Ext (M M' : Med) : Prop := M'.fast = M.fast ∧ (M'.waits = M.waits ∨ ∃ y, M'.waits = M.waits ++ [y])
theorem Ext.same {M M' : Med} (h1 : M'.fast = M.fast) (h2 : M'.waits = M.waits) : Ext M M' := ⟨h1, .inl h2⟩
theorem Moms.next {M M' : Med} {K : Nat} {l : List (List ByteArray)} (h : Moms M l) (e : Ext M M') (ok : M'.Ok K) (hq : Quiet M') : Moms M' (l ++ [M'.list]) := by
  intro k hk
  obtain ⟨e1, e2⟩ := e
  have old : k ≤ M.waits.length → (M'.lastNames k).map (·.1) ∈ l ++ [M'.list] := fun hk' => by
    have : M'.lastNames k = M.lastNames k := by
      unfold Med.lastNames
      rw [e1]
      rcases e2 with e2 | ⟨y, e2⟩
      · rw [e2]
      · rw [e2, List.take_append_of_le_length hk']
    rw [this]
    exact List.mem_append_left _ (h k hk')
  rcases Nat.lt_or_ge M.waits.length k with hgt | hle
  · rcases e2 with e2 | ⟨y, e2⟩
    · rw [e2] at hk; exact old hk
    · have : k = M'.waits.length := by rw [e2] at hk ⊢; simp at hk ⊢; omega
      rw [this, ← ok.now, hq.list]
      exact List.mem_append_right _ (.head _)
  · exact old hle
theorem Ext.does {M : Med} (h : Quiet M) (x : Cal) (h0 : 0 ≤ x.kind) (h5 : x.kind ≤ 5) : Ext M (M.does x).1 := by
  have r : Ext M M := .same rfl rfl
  refine Med.does_ind (P := fun q => Ext M q.1) ?_ ?_ ?_ ?_ ?_ ?_ ?_ ?_ ?_ ?_ ?_ ?_
  · intro _
    show Ext M (M.create x.name).1
    unfold Med.create
    rw [h.step]
    split; · exact r
    split; · exact r
    split; · exact r
    split; · exact r
    exact ⟨rfl, .inr ⟨_, rfl⟩⟩
  · intro _
    show Ext M (M.append x.name x.b).1
    unfold Med.append
    rw [h.step]
    split; · exact r
    split; · exact r
    split; · exact r
    exact .same rfl rfl
  · intro _
    show Ext M (M.truncate x.name x.n).1
    unfold Med.truncate
    rw [h.step]
    split; · exact r
    split; · exact r
    split; · exact r
    exact .same rfl rfl
  · intro _
    show Ext M (M.rename x.name x.to).1
    unfold Med.rename
    rw [h.step]
    split; · exact r
    split; · exact r
    split; · exact r
    exact ⟨rfl, .inr ⟨_, rfl⟩⟩
  · intro _
    show Ext M (M.remove x.name).1
    unfold Med.remove
    rw [h.step]
    split; · exact r
    split; · exact r
    exact ⟨rfl, .inr ⟨_, rfl⟩⟩
  · intro _
    show Ext M (M.sync x.name).1
    unfold Med.sync
    rw [h.step]
    split; · exact r
    split; · exact r
    exact .same rfl rfl
  all_goals (intro hk; exfalso; omega)
theorem Moms.does {M : Med} {K : Nat} {l : List (List ByteArray)} (h : Moms M l) (ok : M.Ok K) (hq : Quiet M) (x : Cal) (hn : x.n ≤ 9223372036854775807) (h0 : 0 ≤ x.kind) (h6 : x.kind ≤ 6) :
    Moms (M.does x).1 ((if x.kind = 6 then [] else l) ++ [(M.does x).1.list]) := by
  have ok' := ok.does x hn
  have hq' := hq.does x (by omega)
  split
  · rename_i h
    have e : (M.does x).1 = M.syncDir.1 := by unfold Med.does; simp [h]
    refine Moms.start ok' ?_ hq'
    rw [e, hq.syncDir_eq]
  · exact h.next (Ext.does hq x h0 (by omega)) ok' hq'
theorem Moms.crash {M : Med} {l : List (List ByteArray)} (h : Moms M l) (n : List Int) : (M.crash n).list ∈ l := h _ (clampN_le _ _)

/-! ### no power -/
theorem dead_does {M : Med} (h : M.off = true) (x : Cal) (h8 : x.kind ≠ 8) (h10 : x.kind ≠ 10) : M.does x = (M, [], 12, false) := by
  refine Med.does_ind (P := fun q => q = (M, [], 12, false)) ?_ ?_ ?_ ?_ ?_ ?_ ?_ ?_ ?_ ?_ ?_ ?_
  · intro _; unfold Med.create; simp only [h, if_true]
  · intro _; unfold Med.append; simp only [h, if_true]
  · intro _; unfold Med.truncate; simp only [h, if_true]
  · intro _; unfold Med.rename; simp only [h, if_true]
  · intro _; unfold Med.remove; simp only [h, if_true]
  · intro _; unfold Med.sync; simp only [h, if_true]
  · intro _; unfold Med.syncDir; simp only [h, if_true]
  · intro _; unfold Med.arm; simp only [h, if_true]
  · exact fun h => absurd h h8
  · intro _; unfold Med.setRoom; simp only [h, if_true]
  · exact fun h => absurd h h10
  · intro _; unfold Med.read; simp only [h, if_true]
theorem dead_list {M : Med} (h : M.off = true) : M.list = [] := by unfold Med.list; rw [h]; rfl
theorem dead_used {M : Med} (h : M.off = true) : M.usedTold = 0 := by unfold Med.usedTold; rw [h]; rfl
theorem Quiet.arm_eq {M : Med} (h : Quiet M) (n : Nat) : M.arm n = ({ M with armed := true, left := n }, 0) := by
  unfold Med.arm
  rw [h.off]
  simp
/-- Armed: n steps more. -/
structure Armed (n : Nat) (M : Med) : Prop where
  armed : M.armed = true
  off : M.off = false
  left : M.left = n
theorem Armed.syncDir {M : Med} {n : Nat} (h : Armed (n + 1) M) : M.syncDir.2 = 0 ∧ Armed n M.syncDir.1 ∧ M.syncDir.1.now = M.now := by
  unfold Med.syncDir Med.step
  simp [h.armed, h.off, h.left]
  exact ⟨rfl, rfl, rfl⟩
theorem Armed.last {M : Med} (h : Armed 0 M) : M.syncDir.2 = 12 ∧ M.syncDir.1.off = true ∧ M.syncDir.1.now = M.now := by
  unfold Med.syncDir Med.step
  simp [h.armed, h.off, h.left]
theorem crash_all {M : Med} {K : Nat} (ok : M.Ok K) (l : List Int) (h : (M.waits.length : Int) ≤ num l 0) : (M.crash l).now = M.now := by
  have e : clampN (num l 0) M.waits.length = M.waits.length := by unfold clampN; omega
  show M.lastNames (clampN (num l 0) M.waits.length) = _
  rw [e, ← ok.now]

/-! ### room -/
/-- No file has two names. -/
def Dst (M : Med) : Prop := (M.now.map (·.2)).Nodup
theorem used_split {M : Med} (hs : Srt M.now) (hd : Dst M) {s : ByteArray} {i : Nat} (h : nget M.now s = some i) :
    (∀ p ∈ ndel M.now s, p.2 ≠ i) ∧ ∀ g : Nat → Nat, (M.now.map fun p => g p.2).sum = g i + ((ndel M.now s).map fun p => g p.2).sum := by
  have hp := ndel_perm hs.keys (nget_mem h)
  constructor
  · have hd' : (M.now.map fun p : ByteArray × Nat => p.2).Nodup := hd
    have := (hp.map (fun p : ByteArray × Nat => p.2)).nodup_iff.1 hd'
    simp only [List.map_cons, List.nodup_cons] at this
    intro p hp e
    exact this.1 (List.mem_map.2 ⟨p, hp, e⟩)
  · intro g
    have := (hp.map fun p => g p.2).sum_nat
    simpa using this
theorem sum_congr {l : Names} {g h : Nat → Nat} (e : ∀ p ∈ l, g p.2 = h p.2) : (l.map fun p => g p.2).sum = (l.map fun p => h p.2).sum := by
  rw [List.map_congr_left e]
theorem used_set {M : Med} {K : Nat} (ok : M.Ok K) (hd : Dst M) {s : ByteArray} {i : Nat} (h : nget M.now s = some i) (f : Fil) :
    (M.setFile i f).used + (M.file i).now.length = M.used + f.now.length := by
  obtain ⟨h1, h2⟩ := used_split ok.nowOk.srt hd h
  have hi : i < M.files.length := ok.nowOk.ids _ (nget_mem h)
  have e1 := h2 fun j => (M.file j).now.length
  have e2 := h2 fun j => ((M.setFile i f).file j).now.length
  have e3 : ((ndel M.now s).map fun p => ((M.setFile i f).file p.2).now.length).sum = ((ndel M.now s).map fun p => (M.file p.2).now.length).sum :=
    sum_congr (g := fun j => ((M.setFile i f).file j).now.length) (h := fun j => (M.file j).now.length) fun p hp => by rw [file_set hi, if_neg (h1 p hp)]
  have e4 : (M.setFile i f).file i = f := by rw [file_set hi, if_pos rfl]
  simp only [e4, e3] at e2
  show (M.now.map fun p => ((M.setFile i f).file p.2).now.length).sum + _ = (M.now.map fun p => (M.file p.2).now.length).sum + _
  rw [e1, e2]
  omega
theorem sum_del_le (l : Names) (s : ByteArray) (g : Nat → Nat) : ((ndel l s).map fun p => g p.2).sum ≤ (l.map fun p => g p.2).sum := by
  induction l with
  | nil => exact Nat.le_refl _
  | cons p l ih =>
    unfold ndel at ih ⊢
    rw [List.filter_cons]
    split
    · simp only [List.map_cons, List.sum_cons]; omega
    · simp only [List.map_cons, List.sum_cons]; omega
theorem sum_put (l : Names) (s : ByteArray) (i : Nat) (g : Nat → Nat) : ((nput l s i).map fun p => g p.2).sum = g i + ((ndel l s).map fun p => g p.2).sum := by
  have := ((nput_perm l s i).map fun p => g p.2).sum_nat
  simpa using this
theorem nodup_put {l : Names} {s : ByteArray} {i : Nat} (h : (l.map (·.2)).Nodup) (hi : ∀ p ∈ l, p.2 ≠ i) : ((nput l s i).map (·.2)).Nodup := by
  refine ((nput_perm l s i).map (·.2)).nodup_iff.2 ?_
  simp only [List.map_cons, List.nodup_cons]
  refine ⟨fun hm => ?_, h.sublist (List.filter_sublist.map _)⟩
  obtain ⟨p, hp, e⟩ := List.mem_map.1 hm
  exact hi p (List.mem_filter.1 hp).1 e
structure Fits (M M' : Med) : Prop where
  room : M'.room = M.room
  dst : Dst M'
  used : M'.used ≤ M'.room
theorem step_alike (M : Med) : M.step.1.room = M.room ∧ M.step.1.now = M.now ∧ M.step.1.files = M.files := ⟨M.step_same.1, M.step_same.2.2.1, M.step_same.2.2.2.1⟩
theorem Fits.self {M : Med} (hd : Dst M) (hu : M.used ≤ M.room) : Fits M M := ⟨rfl, hd, hu⟩
theorem used_of {M M' : Med} (h1 : M'.now = M.now) (h2 : M'.files = M.files) : M'.used = M.used := by unfold Med.used Med.file; rw [h1, h2]
theorem Fits.alike {M M' : Med} (hd : Dst M) (hu : M.used ≤ M.room) (hr : M'.room = M.room) (h1 : M'.now = M.now) (h2 : M'.files = M.files) : Fits M M' :=
  ⟨hr, by unfold Dst; rw [h1]; exact hd, by rw [used_of h1 h2, hr]; exact hu⟩
theorem Fits.set {M M' : Med} {K : Nat} (ok : M.Ok K) (hd : Dst M) (hu : M.used ≤ M.room) (hr : M'.room = M.room) (h1 : M'.now = M.now) (h2 : M'.files = M.files) {s : ByteArray} {i : Nat} (h : nget M.now s = some i) (f : Fil)
    (hf : M.used + f.now.length ≤ M.room + (M.file i).now.length) : Fits M (M'.setFile i f) := by
  have e : (M'.setFile i f).used = (M.setFile i f).used := used_of (by exact h1) (by show M'.files.set i f = M.files.set i f; rw [h2])
  have := used_set ok hd h f
  refine ⟨hr, by show (M'.now.map (·.2)).Nodup; rw [h1]; exact hd, ?_⟩
  rw [e]
  show _ ≤ M'.room
  rw [hr]
  omega
theorem Fits.does {M : Med} {K : Nat} (ok : M.Ok K) (hd : Dst M) (hu : M.used ≤ M.room) (x : Cal) (h8 : x.kind ≠ 8) (h9 : x.kind ≠ 9) :
    Fits M (M.does x).1 ∧ ((M.does x).2.2.1 = 11 → x.kind = 1 ∧ M.room < M.usedTold + x.b.length) := by
  have r := Fits.self hd hu
  obtain ⟨s1, s2, s3⟩ := step_alike M
  have rs : Fits M M.step.1 := Fits.alike hd hu s1 s2 s3
  refine Med.does_ind (P := fun q => Fits M q.1 ∧ (q.2.2.1 = 11 → x.kind = 1 ∧ M.room < M.usedTold + x.b.length)) ?_ ?_ ?_ ?_ ?_ ?_ ?_ ?_ ?_ ?_ ?_ ?_
  · intro _
    show Fits M (M.create x.name).1 ∧ ((M.create x.name).2 = 11 → _)
    unfold Med.create
    split; · exact ⟨r, by simp⟩
    split; · exact ⟨r, by simp⟩
    rename_i hg
    split; · exact ⟨r, by simp⟩
    rename_i hn
    split; · exact ⟨r, by simp⟩
    split; · exact ⟨rs, by simp⟩
    refine ⟨?_, by simp⟩
    have hnn : nget M.now x.name = none := by simpa using hn
    have hlt := ok.nowOk.ids
    have hne : x.name ≠ ByteArray.empty := good_ne (by simpa using hg)
    have enow : (({ M.step.1 with files := M.files ++ [Fil.new] } : Med).link ⟨ByteArray.empty, x.name, M.files.length⟩).now = nput M.now x.name M.files.length := by
      show Lnk.on _ M.step.1.now = _
      rw [s2]
      unfold Lnk.on
      simp only [if_true, if_neg hne]
    have hdel := ndel_none hnn
    refine ⟨s1, ?_, ?_⟩
    · unfold Dst
      rw [enow]
      exact nodup_put hd fun p hp e => by have := hlt p hp; omega
    · have : (({ M.step.1 with files := M.files ++ [Fil.new] } : Med).link ⟨ByteArray.empty, x.name, M.files.length⟩).used = M.used := by
        show ((Med.now _).map fun p => (Med.file _ p.2).now.length).sum = _
        rw [enow, sum_put _ _ _ (fun j => (Med.file _ j).now.length), hdel]
        have e0 : ((({ M.step.1 with files := M.files ++ [Fil.new] } : Med).link ⟨ByteArray.empty, x.name, M.files.length⟩).file M.files.length).now.length = 0 := by
          simp [Med.file, Med.link, Fil.new]
        rw [e0, Nat.zero_add]
        refine sum_congr (g := fun j => (Med.file _ j).now.length) (h := fun j => (M.file j).now.length) fun p hp => ?_
        have := hlt p hp
        simp only [Med.file, Med.link, List.getD_eq_getElem?_getD]
        rw [List.getElem?_append_left this]
      rw [this]
      show _ ≤ M.step.1.room
      rw [s1]; exact hu
  · intro hk1
    show Fits M (M.append x.name x.b).1 ∧ ((M.append x.name x.b).2 = 11 → _)
    unfold Med.append
    split; · exact ⟨r, by simp⟩
    rename_i hoff
    split; · exact ⟨r, by simp⟩
    rename_i i hi
    split
    · rename_i hfull
      refine ⟨r, fun _ => ⟨hk1, ?_⟩⟩
      have : M.usedTold = M.used := by unfold Med.usedTold; rw [if_neg hoff]
      rw [this]; omega
    rename_i hfull
    split; · exact ⟨rs, by simp⟩
    refine ⟨Fits.set ok hd hu s1 s2 s3 hi _ ?_, by simp⟩
    simp only [Fil.do, Chg.on, Bool.false_eq_true, if_false, List.length_append]
    omega
  · intro _
    show Fits M (M.truncate x.name x.n).1 ∧ ((M.truncate x.name x.n).2 = 11 → _)
    unfold Med.truncate
    split; · exact ⟨r, by simp⟩
    split; · exact ⟨r, by simp⟩
    rename_i i hi
    split; · exact ⟨r, by simp⟩
    split; · exact ⟨rs, by simp⟩
    refine ⟨Fits.set ok hd hu s1 s2 s3 hi _ ?_, by simp⟩
    simp only [Fil.do, Chg.on, if_true, List.length_take]
    omega
  · intro _
    show Fits M (M.rename x.name x.to).1 ∧ ((M.rename x.name x.to).2 = 11 → _)
    unfold Med.rename
    split; · exact ⟨r, by simp⟩
    split; · exact ⟨r, by simp⟩
    rename_i i hi
    split; · exact ⟨r, by simp⟩
    rename_i hg
    split; · exact ⟨rs, by simp⟩
    refine ⟨?_, by simp⟩
    have hne : x.to ≠ ByteArray.empty := good_ne (by simpa using hg)
    have hs : x.name ≠ ByteArray.empty := ok.nowOk.ne _ (nget_mem hi)
    obtain ⟨h1, h2⟩ := used_split ok.nowOk.srt hd hi
    have enow : (M.step.1.link ⟨x.name, x.to, i⟩).now = nput (ndel M.now x.name) x.to i := by
      show Lnk.on _ M.step.1.now = _
      rw [s2]
      unfold Lnk.on
      simp only [if_neg hs, if_neg hne]
    refine ⟨s1, ?_, ?_⟩
    · unfold Dst
      rw [enow]
      exact nodup_put (hd.sublist (List.filter_sublist.map _)) h1
    · have e1 := h2 fun j => (M.file j).now.length
      have e2 := sum_del_le (ndel M.now x.name) x.to fun j => (M.file j).now.length
      have : (M.step.1.link ⟨x.name, x.to, i⟩).used = ((nput (ndel M.now x.name) x.to i).map fun p => (M.file p.2).now.length).sum := by
        show ((Med.now _).map fun p => (Med.file _ p.2).now.length).sum = _
        rw [enow]
        unfold Med.file Med.link
        simp only [s3]
      rw [this, sum_put _ _ _ (fun j => (M.file j).now.length)]
      show _ ≤ M.step.1.room
      rw [s1]
      unfold Med.used at hu
      omega
  · intro _
    show Fits M (M.remove x.name).1 ∧ ((M.remove x.name).2 = 11 → _)
    unfold Med.remove
    split; · exact ⟨r, by simp⟩
    split; · exact ⟨r, by simp⟩
    rename_i i hi
    split; · exact ⟨rs, by simp⟩
    refine ⟨?_, by simp⟩
    have hs : x.name ≠ ByteArray.empty := ok.nowOk.ne _ (nget_mem hi)
    have enow : (M.step.1.link ⟨x.name, ByteArray.empty, 0⟩).now = ndel M.now x.name := by
      show Lnk.on ⟨x.name, ByteArray.empty, 0⟩ M.step.1.now = _
      rw [s2]
      unfold Lnk.on
      simp only [if_neg hs, if_true]
    refine ⟨s1, ?_, ?_⟩
    · unfold Dst
      rw [enow]
      exact hd.sublist (List.filter_sublist.map _)
    · have e2 := sum_del_le M.now x.name fun j => (M.file j).now.length
      have : (M.step.1.link ⟨x.name, ByteArray.empty, 0⟩).used = ((ndel M.now x.name).map fun p => (M.file p.2).now.length).sum := by
        show ((Med.now _).map fun p => (Med.file _ p.2).now.length).sum = _
        rw [enow]
        unfold Med.file Med.link
        simp only [s3]
      rw [this]
      show _ ≤ M.step.1.room
      rw [s1]
      unfold Med.used at hu
      omega
  · intro _
    show Fits M (M.sync x.name).1 ∧ ((M.sync x.name).2 = 11 → _)
    unfold Med.sync
    split; · exact ⟨r, by simp⟩
    split; · exact ⟨r, by simp⟩
    rename_i i hi
    split; · exact ⟨rs, by simp⟩
    refine ⟨Fits.set ok hd hu s1 s2 s3 hi _ ?_, by simp⟩
    simp only [Fil.sync]
    omega
  · intro _
    show Fits M M.syncDir.1 ∧ (M.syncDir.2 = 11 → _)
    unfold Med.syncDir
    split; · exact ⟨r, by simp⟩
    split; · exact ⟨rs, by simp⟩
    exact ⟨Fits.alike hd hu s1 s2 s3, by simp⟩
  · intro _
    show Fits M (M.arm x.n).1 ∧ ((M.arm x.n).2 = 11 → _)
    unfold Med.arm
    split; · exact ⟨r, by simp⟩
    split; · exact ⟨r, by simp⟩
    exact ⟨Fits.alike hd hu rfl rfl rfl, by simp⟩
  · exact fun h => absurd h h8
  · exact fun h => absurd h h9
  · intro _
    refine ⟨?_, fun h => by simp at h⟩
    show Fits M (M.rot x.name x.n (lowByte x.m)).1
    unfold Med.rot
    split; · exact r
    rename_i i hi
    split; · exact r
    refine Fits.set ok hd hu rfl rfl rfl hi _ ?_
    rw [((ok.file i).rot _ _).2, xorAt_len]
    omega
  · intro _
    refine ⟨r, fun h => ?_⟩
    exfalso
    have h' : (M.read x.name x.n x.m).2 = 11 := h
    unfold Med.read at h'
    revert h'
    split
    · simp
    split
    · simp
    simp only
    split
    · simp
    split
    · simp
    · simp
end Go.Med
/- Both media side by side, plain: media's, and the reference's, whose files stand in another order. No program in sight. -/
namespace Go.Med
set_option linter.unusedVariables false
/-- The reference's Move: a new name, or none (gone). -/
def Med.rmove (m : Med) (s t : ByteArray) (gone : Bool) : Med × Int :=
  if m.off then (m, 12)
  else match nget m.now s with
  | none => (m, 9)
  | some i =>
    if gone = false ∧ good t = false then (m, 7)
    else if m.step.2 = false then (m.step.1, 12)
    else (m.step.1.link ⟨s, if gone then ByteArray.empty else t, i⟩, 0)
/-- The file of the i-th name that lasts. -/
def Med.rfile (D : Med) (l : List Int) (i : Nat) (p : ByteArray × Nat) : Fil := (D.file p.2).crash (num l (2 * i + 1)) (num l (2 * i + 2))
/-- The reference's Crash: files anew. -/
def Med.rcrash (D : Med) (l : List Int) : Med :=
  let ns := D.lastNames (clampN (num l 0) D.waits.length)
  { D with fast := ns.mapIdx fun i p => (p.1, i), now := ns.mapIdx fun i p => (p.1, i), waits := [], files := ns.mapIdx (D.rfile l), off := false, armed := false, left := 0 }
/-- A call, as the document tells it. -/
def Med.told (D : Med) (x : Cal) : Med × (Bs × Int × Bool) :=
  if x.kind = 0 then ((D.create x.name).1, [], (D.create x.name).2, false)
  else if x.kind = 1 then ((D.append x.name x.b).1, [], (D.append x.name x.b).2, false)
  else if x.kind = 2 then ((D.truncate x.name x.n).1, [], (D.truncate x.name x.n).2, false)
  else if x.kind = 3 then ((D.rmove x.name x.to false).1, [], (D.rmove x.name x.to false).2, false)
  else if x.kind = 4 then ((D.rmove x.name ByteArray.empty true).1, [], (D.rmove x.name ByteArray.empty true).2, false)
  else if x.kind = 5 then ((D.sync x.name).1, [], (D.sync x.name).2, false)
  else if x.kind = 6 then (D.syncDir.1, [], D.syncDir.2, false)
  else if x.kind = 7 then ((D.arm x.n).1, [], (D.arm x.n).2, false)
  else if x.kind = 8 then (D.rcrash x.l, [], 0, false)
  else if x.kind = 9 then ((D.setRoom x.n).1, [], (D.setRoom x.n).2, false)
  else if x.kind = 10 then ((D.rot x.name x.n (lowByte x.m)).1, [], 0, (D.rot x.name x.n (lowByte x.m)).2)
  else (D, (D.read x.name x.n x.m).1, (D.read x.name x.n x.m).2, false)
/-- Names, their files told by φ. -/
def ren (φ : Nat → Nat) (l : Names) : Names := l.map fun p => (p.1, φ p.2)
theorem ren_len (φ : Nat → Nat) (l : Names) : (ren φ l).length = l.length := by unfold ren; rw [List.length_map]
theorem ren_keys (φ : Nat → Nat) (l : Names) : (ren φ l).map (·.1) = l.map (·.1) := by unfold ren; rw [List.map_map]; rfl
theorem ren_get (φ : Nat → Nat) (l : Names) (s : ByteArray) : nget (ren φ l) s = (nget l s).map φ := by
  unfold nget ren
  rw [List.find?_map, Option.map_map, Option.map_map]
  rfl
theorem ren_del (φ : Nat → Nat) (l : Names) (s : ByteArray) : ndel (ren φ l) s = ren φ (ndel l s) := by
  unfold ndel ren
  rw [List.filter_map]
  rfl
theorem ren_ins (φ : Nat → Nat) (s : ByteArray) (i : Nat) : ∀ l : Names, nins (ren φ l) s (φ i) = ren φ (nins l s i)
  | [] => rfl
  | p :: l => by
    show nins ((p.1, φ p.2) :: ren φ l) s (φ i) = ren φ (nins (p :: l) s i)
    unfold nins
    dsimp only
    split
    · rfl
    · rw [ren_ins φ s i l]; rfl
theorem ren_put (φ : Nat → Nat) (l : Names) (s : ByteArray) (i : Nat) : nput (ren φ l) s (φ i) = ren φ (nput l s i) := by
  unfold nput
  rw [ren_del, ren_ins]
theorem ren_on {φ : Nat → Nat} {x y : Lnk} (h1 : y.fr = x.fr) (h2 : y.to = x.to) (h3 : x.to ≠ ByteArray.empty → y.f = φ x.f) (l : Names) : y.on (ren φ l) = ren φ (x.on l) := by
  unfold Lnk.on
  rw [h1, h2]
  have e : (if x.fr = ByteArray.empty then ren φ l else ndel (ren φ l) x.fr) = ren φ (if x.fr = ByteArray.empty then l else ndel l x.fr) := by
    split
    · rfl
    · exact ren_del _ _ _
  dsimp only
  rw [e]
  split
  · rfl
  · rename_i ht
    rw [h3 ht, ren_put]
theorem ren_congr {φ ψ : Nat → Nat} {l : Names} (h : ∀ p ∈ l, φ p.2 = ψ p.2) : ren φ l = ren ψ l := by
  unfold ren
  exact List.map_congr_left fun p hp => by rw [h p hp]
/-- M is media's, D the document's; φ: which file of D a file of M is; L: the files that may lie under a name. -/
structure Side (φ : Nat → Nat) (L : Nat → Prop) (M D : Med) : Prop where
  room : D.room = M.room
  armed : D.armed = M.armed
  left : D.left = M.left
  off : D.off = M.off
  wl : D.waits.length = M.waits.length
  now : D.now = ren φ M.now
  names : ∀ k, k ≤ M.waits.length → D.lastNames k = ren φ (M.lastNames k)
  live : ∀ k, k ≤ M.waits.length → ∀ p ∈ M.lastNames k, L p.2
  once : ∀ k, k ≤ M.waits.length → ((M.lastNames k).map (·.2)).Nodup
  inj : ∀ i j, L i → L j → φ i = φ j → i = j
  file : ∀ i, L i → D.file (φ i) = M.file i
  lt : ∀ i, L i → φ i < D.files.length
  ml : ∀ i, L i → i < M.files.length
theorem Side.new (r : Nat) : Side id (fun _ => False) (new r) (new r) :=
  ⟨rfl, rfl, rfl, rfl, rfl, rfl, (fun k hk => by simp [Med.new] at hk; subst hk; rfl), (fun k hk p hp => by simp [Med.new] at hk; subst hk; simp [Med.new, Med.lastNames] at hp), (fun k hk => by simp [Med.new] at hk; subst hk; exact List.nodup_nil), fun _ _ h => h.elim, fun _ h => h.elim, fun _ h => h.elim, fun _ h => h.elim⟩
theorem step_bits {M D : Med} (h1 : D.armed = M.armed) (h2 : D.left = M.left) (h3 : D.off = M.off) : D.step.1.armed = M.step.1.armed ∧ D.step.1.left = M.step.1.left ∧ D.step.1.off = M.step.1.off := by
  obtain ⟨room, fast, now, files, waits, armed, left, off⟩ := M
  obtain ⟨room', fast', now', files', waits', armed', left', off'⟩ := D
  simp only at h1 h2 h3
  subst h1; subst h2; subst h3
  unfold Med.step
  dsimp only
  cases armed'
  · exact ⟨rfl, rfl, rfl⟩
  · simp only [if_true]
    by_cases hz : left' = 0
    · simp only [hz, if_true]; exact ⟨trivial, trivial, trivial⟩
    · simp only [hz, if_false]; exact ⟨trivial, trivial, trivial⟩
section
variable {φ : Nat → Nat} {L : Nat → Prop} {M D : Med} {K : Nat}
theorem Side.step2 (h : Side φ L M D) : D.step.2 = M.step.2 := by
  unfold Med.step
  rw [h.armed, h.left]
  split
  · split <;> rfl
  · rfl
theorem Side.step (h : Side φ L M D) : Side φ L M.step.1 D.step.1 := by
  have hM := M.step_same; have hD := D.step_same
  obtain ⟨a1, a2, a3, a4, a5⟩ := hM
  obtain ⟨b1, b2, b3, b4, b5⟩ := hD
  have f1 : ∀ k, M.step.1.lastNames k = M.lastNames k := fun k => by unfold Med.lastNames; rw [a5, a2]
  have f2 : ∀ k, D.step.1.lastNames k = D.lastNames k := fun k => by unfold Med.lastNames; rw [b5, b2]
  have g1 : ∀ k, M.step.1.file k = M.file k := fun k => by unfold Med.file; rw [a4]
  have g2 : ∀ k, D.step.1.file k = D.file k := fun k => by unfold Med.file; rw [b4]
  have hal := step_bits h.armed h.left h.off
  exact ⟨by rw [a1, b1]; exact h.room, hal.1, hal.2.1, hal.2.2, by rw [a5, b5]; exact h.wl, by rw [a3, b3]; exact h.now, fun k hk => by rw [f1, f2]; rw [a5] at hk; exact h.names k hk, fun k hk => by rw [f1]; rw [a5] at hk; exact h.live k hk, fun k hk => by rw [f1]; rw [a5] at hk; exact h.once k hk, h.inj, fun i hi => by rw [g1, g2]; exact h.file i hi, fun i hi => by rw [b4]; exact h.lt i hi, fun i hi => by rw [a4]; exact h.ml i hi⟩
theorem Side.setFile (h : Side φ L M D) {i : Nat} (hi : L i) (f : Fil) : Side φ L (M.setFile i f) (D.setFile (φ i) f) := by
  have hD : (D.setFile (φ i) f).files.length = D.files.length := by simp [Med.setFile]
  have hM : (M.setFile i f).files.length = M.files.length := by simp [Med.setFile]
  refine ⟨h.room, h.armed, h.left, h.off, h.wl, h.now, h.names, h.live, h.once, h.inj, fun j hj => ?_, fun j hj => by rw [hD]; exact h.lt j hj, fun j hj => by rw [hM]; exact h.ml j hj⟩
  rw [file_set (h.lt i hi), file_set (h.ml i hi)]
  by_cases e : j = i
  · subst e; rw [if_pos rfl, if_pos rfl]
  · rw [if_neg e, if_neg fun e2 => e (h.inj j i hj hi e2)]
    exact h.file j hj
theorem Side.link (h : Side φ L M D) (ok : M.now = M.lastNames M.waits.length) {x y : Lnk} (h1 : y.fr = x.fr) (h2 : y.to = x.to) (h3 : x.to ≠ ByteArray.empty → y.f = φ x.f) (hl : ∀ p ∈ x.on M.now, L p.2) (hn : ((x.on M.now).map (·.2)).Nodup) :
    Side φ L (M.link x) (D.link y) := by
  have hM : (M.link x).waits.length = M.waits.length + 1 := by simp [Med.link]
  have hD : (D.link y).waits.length = D.waits.length + 1 := by simp [Med.link]
  have okD : D.now = D.lastNames D.waits.length := by rw [h.now, h.wl, h.names _ (Nat.le_refl _), ok]
  have hon : y.on D.now = ren φ (x.on M.now) := by rw [h.now]; exact ren_on h1 h2 h3 _
  have key : ∀ k, k ≤ (M.link x).waits.length → (k ≤ M.waits.length ∧ (M.link x).lastNames k = M.lastNames k ∧ (D.link y).lastNames k = D.lastNames k) ∨ ((M.link x).lastNames k = x.on M.now ∧ (D.link y).lastNames k = y.on D.now) := by
    intro k hk
    rw [hM] at hk
    rcases Nat.lt_or_ge k (M.waits.length + 1) with hlt | hge
    · exact .inl ⟨by omega, M.lastNames_link x k (by omega), D.lastNames_link y k (by rw [h.wl]; omega)⟩
    · obtain rfl : k = M.waits.length + 1 := by omega
      refine .inr ⟨M.lastNames_last x ok, ?_⟩
      rw [← h.wl]; exact D.lastNames_last y okD
  refine ⟨h.room, h.armed, h.left, h.off, by rw [hM, hD, h.wl], hon, fun k hk => ?_, fun k hk => ?_, fun k hk => ?_, h.inj, h.file, h.lt, h.ml⟩
  · rcases key k hk with ⟨a, b, c⟩ | ⟨a, b⟩
    · rw [b, c]; exact h.names k a
    · rw [a, b]; exact hon
  · rcases key k hk with ⟨a, b, c⟩ | ⟨a, b⟩
    · rw [b]; exact h.live k a
    · rw [a]; exact hl
  · rcases key k hk with ⟨a, b, c⟩ | ⟨a, b⟩
    · rw [b]; exact h.once k a
    · rw [a]; exact hn
/-- A file more. -/
theorem Side.newFile (h : Side φ L M D) (ok : M.now = M.lastNames M.waits.length) : Side (fun i => if i = M.files.length then D.files.length else φ i) (fun i => L i ∨ i = M.files.length) { M with files := M.files ++ [Fil.new] } { D with files := D.files ++ [Fil.new] } := by
  have hne : ∀ i, L i → i ≠ M.files.length := fun i hi => Nat.ne_of_lt (h.ml i hi)
  have hr : ∀ l : Names, (∀ p ∈ l, L p.2) → ren (fun i => if i = M.files.length then D.files.length else φ i) l = ren φ l := fun l hl => ren_congr fun p hp => if_neg (hne _ (hl p hp))
  have hlM : ∀ k, ({ M with files := M.files ++ [Fil.new] } : Med).lastNames k = M.lastNames k := fun _ => rfl
  have hlD : ∀ k, ({ D with files := D.files ++ [Fil.new] } : Med).lastNames k = D.lastNames k := fun _ => rfl
  have fM : ∀ i, i ≠ M.files.length → ({ M with files := M.files ++ [Fil.new] } : Med).file i = M.file i := by
    intro i hi
    unfold Med.file
    dsimp only
    rw [List.getD_eq_getElem?_getD, List.getD_eq_getElem?_getD]
    rcases Nat.lt_or_ge i M.files.length with a | a
    · rw [List.getElem?_append_left a]
    · rw [List.getElem?_eq_none (by simp; omega), List.getElem?_eq_none a]
  have fD : ∀ i, i < D.files.length → ({ D with files := D.files ++ [Fil.new] } : Med).file i = D.file i := by
    intro i hi
    unfold Med.file
    dsimp only
    rw [List.getD_eq_getElem?_getD, List.getD_eq_getElem?_getD, List.getElem?_append_left hi]
  refine ⟨h.room, h.armed, h.left, h.off, h.wl, ?_, fun k hk => ?_, fun k hk p hp => .inl (h.live k hk p hp), h.once, ?_, ?_, ?_, ?_⟩
  · show D.now = ren _ M.now
    rw [hr _ (by rw [ok]; exact h.live _ (Nat.le_refl _))]; exact h.now
  · rw [hlD, hlM, hr _ (h.live k hk)]; exact h.names k hk
  · intro i j hi hj e
    rcases hi with hi | rfl
    · rw [if_neg (hne i hi)] at e
      rcases hj with hj | rfl
      · rw [if_neg (hne j hj)] at e; exact h.inj i j hi hj e
      · rw [if_pos rfl] at e; have := h.lt i hi; omega
    · rw [if_pos rfl] at e
      rcases hj with hj | rfl
      · rw [if_neg (hne j hj)] at e; have := h.lt j hj; omega
      · rfl
  · intro i hi
    rcases hi with hi | rfl
    · rw [if_neg (hne i hi), fM i (hne i hi), fD _ (h.lt i hi)]; exact h.file i hi
    · rw [if_pos rfl]
      unfold Med.file
      simp
  · intro i hi
    dsimp only
    rcases hi with hi | rfl
    · rw [if_neg (hne i hi)]; have := h.lt i hi; simp; omega
    · rw [if_pos rfl]; simp
  · intro i hi
    rcases hi with hi | rfl
    · have := h.ml i hi; simp; omega
    · simp
end
end Go.Med
/- Both media side by side, plain: crashes, all calls, what is shown. -/
namespace Go.Med
set_option linter.unusedVariables false
theorem idx_at : ∀ {l : List Nat} {k x : Nat}, l.Nodup → l[k]? = some x → l.idxOf x = k
  | [], k, x, _, h => by simp at h
  | a :: l, 0, x, _, h => by
    obtain rfl : a = x := by simpa using h
    exact List.idxOf_cons_self
  | a :: l, k + 1, x, hn, h => by
    have h' : l[k]? = some x := by simpa using h
    obtain ⟨h1, h2⟩ := List.nodup_cons.1 hn
    have hne : a ≠ x := fun e => h1 (by rw [e]; exact List.mem_of_getElem? h')
    rw [List.idxOf_cons, show (a == x) = false by simpa using hne, idx_at h2 h']; rfl
theorem crash_get (l : List Int) : ∀ (ns : Names) (j : Nat) (fs : List Fil), (ns.map (·.2)).Nodup → (∀ p ∈ ns, p.2 < fs.length) →
    (∀ (k : Nat) p, ns[k]? = some p → (crashFiles l ns j fs).getD p.2 Fil.new = (fs.getD p.2 Fil.new).crash (num l (j + 2 * k)) (num l (j + 2 * k + 1))) ∧ ∀ i, i ∉ ns.map (·.2) → (crashFiles l ns j fs).getD i Fil.new = fs.getD i Fil.new
  | [], _, _, _, _ => ⟨fun k p h => by simp at h, fun _ _ => rfl⟩
  | q :: ns, j, fs, hn, hl => by
    obtain ⟨h1, h2⟩ := List.nodup_cons.1 hn
    have hq := hl q (.head _)
    obtain ⟨a, b⟩ := crash_get l ns (j + 2) (fs.set q.2 ((fs.getD q.2 Fil.new).crash (num l j) (num l (j + 1)))) h2 (fun p hp => by rw [List.length_set]; exact hl p (.tail _ hp))
    have hset : ∀ i, i ≠ q.2 → (fs.set q.2 ((fs.getD q.2 Fil.new).crash (num l j) (num l (j + 1)))).getD i Fil.new = fs.getD i Fil.new := by
      intro i hi
      simp only [List.getD_eq_getElem?_getD]
      rw [List.getElem?_set_ne (Ne.symm hi)]
    refine ⟨fun k p hk => ?_, fun i hi => ?_⟩
    · cases k with
      | zero =>
        obtain rfl : q = p := by simpa using hk
        show (crashFiles l ns (j + 2) _).getD q.2 Fil.new = _
        rw [b _ h1]
        show List.getD _ _ _ = (fs.getD q.2 Fil.new).crash (num l (j + 0)) (num l (j + 0 + 1))
        rw [List.getD_eq_getElem?_getD, List.getElem?_set_self hq]
        rfl
      | succ k =>
        have hk' : ns[k]? = some p := by simpa using hk
        show (crashFiles l ns (j + 2) _).getD p.2 Fil.new = _
        rw [a k p hk', hset p.2 fun e => h1 (List.mem_map.2 ⟨p, List.mem_of_getElem? hk', e⟩)]
        rw [show j + 2 + 2 * k = j + 2 * (k + 1) by omega]
    · simp only [List.map_cons, List.mem_cons, not_or] at hi
      show (crashFiles l ns (j + 2) _).getD i Fil.new = _
      rw [b i hi.2, hset i hi.1]
theorem ren_idx (φ : Nat → Nat) {ns : Names} (hn : (ns.map (·.2)).Nodup) : ((ren φ ns).mapIdx fun i p => (p.1, i)) = ren (fun i => (ns.map (·.2)).idxOf i) ns := by
  apply List.ext_getElem?
  intro k
  rw [List.getElem?_mapIdx]
  unfold ren
  rw [List.getElem?_map, List.getElem?_map]
  cases hk : ns[k]? with
  | none => rfl
  | some p =>
    simp only [Option.map_some]
    rw [idx_at hn (by rw [List.getElem?_map, hk]; rfl)]
section
variable {φ : Nat → Nat} {L : Nat → Prop} {M D : Med} {K : Nat}
theorem Side.crash (h : Side φ L M D) (l : List Int) : ∃ φ' L', Side φ' L' (M.crash l) (D.rcrash l) := by
  have hk := clampN_le (num l 0) M.waits.length
  unfold Med.crash Med.rcrash
  rw [h.wl]
  generalize clampN (num l 0) M.waits.length = k at *
  rw [h.names k hk]
  have hn := h.once k hk
  have hl := h.live k hk
  generalize M.lastNames k = ns at *
  dsimp only
  obtain ⟨c1, _⟩ := crash_get l ns 1 M.files hn fun p hp => h.ml _ (hl p hp)
  refine ⟨fun i => (ns.map (·.2)).idxOf i, fun i => i ∈ ns.map (·.2), h.room, rfl, rfl, rfl, rfl, ren_idx φ hn, fun j hj => ?_, fun j hj p hp => ?_, fun j hj => ?_, fun i j hi hj e => ?_, fun i hi => ?_, fun i hi => ?_, fun i hi => ?_⟩
  · have hj0 : j = 0 := by simpa using hj
    subst hj0
    exact ren_idx φ hn
  · have hj0 : j = 0 := by simpa using hj
    subst hj0
    exact List.mem_map.2 ⟨p, hp, rfl⟩
  · have hj0 : j = 0 := by simpa using hj
    subst hj0
    exact hn
  · obtain ⟨a, ha⟩ := List.getElem?_of_mem hi
    obtain ⟨b, hb⟩ := List.getElem?_of_mem hj
    rw [idx_at hn ha, idx_at hn hb] at e
    subst e
    rw [ha] at hb
    exact Option.some.inj hb
  · obtain ⟨a, ha⟩ := List.getElem?_of_mem hi
    rw [idx_at hn ha]
    rw [List.getElem?_map] at ha
    obtain ⟨p, hp, rfl⟩ := Option.map_eq_some_iff.1 ha
    unfold Med.file
    dsimp only
    rw [c1 a p hp, List.getD_eq_getElem?_getD, List.getElem?_mapIdx]
    unfold ren
    rw [List.getElem?_map, hp]
    have := h.file _ (hl p (List.mem_of_getElem? hp))
    show (D.file (φ p.2)).crash (num l (2 * a + 1)) (num l (2 * a + 2)) = (M.file p.2).crash _ _
    rw [this, show 1 + 2 * a = 2 * a + 1 by omega]
  · obtain ⟨a, ha⟩ := List.getElem?_of_mem hi
    dsimp only
    rw [idx_at hn ha, List.length_mapIdx, ren_len]
    rw [List.getElem?_map] at ha
    obtain ⟨p, hp, _⟩ := Option.map_eq_some_iff.1 ha
    exact (List.getElem?_eq_some_iff.1 hp).1
  · obtain ⟨p, hp, rfl⟩ := List.mem_map.1 hi
    dsimp only
    rw [crashFiles_len]
    exact h.ml _ (hl p hp)
theorem Side.get (h : Side φ L M D) (s : ByteArray) : nget D.now s = (nget M.now s).map φ := by rw [h.now, ren_get]
theorem Side.nowLive (h : Side φ L M D) (ok : M.Ok K) : ∀ p ∈ M.now, L p.2 := by rw [ok.now]; exact h.live _ (Nat.le_refl _)
theorem Side.getLive (h : Side φ L M D) (ok : M.Ok K) {s : ByteArray} {i : Nat} (hi : nget M.now s = some i) : L i := h.nowLive ok _ (nget_mem hi)
theorem Side.nowOnce (h : Side φ L M D) (ok : M.Ok K) : (M.now.map (·.2)).Nodup := by rw [ok.now]; exact h.once _ (Nat.le_refl _)
theorem Side.used (h : Side φ L M D) (ok : M.Ok K) : D.used = M.used := by
  unfold Med.used
  rw [h.now]
  unfold ren
  rw [List.map_map]
  congr 1
  refine List.map_congr_left fun p hp => ?_
  show (D.file (φ p.2)).now.length = _
  rw [h.file _ (h.nowLive ok p hp)]
/-- Both answer the same, and stay alike. -/
def Both (r q : Med × Int) : Prop := r.2 = q.2 ∧ ∃ φ L, Side φ L r.1 q.1
theorem Both.same (h : Side φ L M D) (e : Int) : Both (M, e) (D, e) := ⟨rfl, φ, L, h⟩
theorem Side.create (h : Side φ L M D) (ok : M.Ok K) (s : ByteArray) : Both (M.create s) (D.create s) := by
  unfold Med.create
  rw [h.off, h.get, Option.isSome_map, h.step2, h.now, ren_len]
  split; · exact .same h _
  split; · exact .same h _
  rename_i hg
  split; · exact .same h _
  rename_i hn
  split; · exact .same h _
  split; · exact .same h.step _
  have hg' : good s = true := by simpa using hg
  have hn' : nget M.now s = none := by simpa using hn
  have hst := h.step
  have okst := ok.step
  obtain ⟨e1, e2, e3, e4, e5⟩ := M.step_same
  obtain ⟨_, _, _, d4, _⟩ := D.step_same
  have h1 := hst.newFile okst.now
  rw [e4, d4] at h1
  refine ⟨rfl, _, _, h1.link (x := ⟨ByteArray.empty, s, M.files.length⟩) (y := ⟨ByteArray.empty, s, D.files.length⟩) okst.now rfl rfl (fun _ => (if_pos rfl).symm) ?_ ?_⟩
  · intro p hp
    have hp' : p ∈ nput M.step.1.now s M.files.length := by
      have : (Lnk.mk ByteArray.empty s M.files.length).on M.step.1.now = nput M.step.1.now s M.files.length := by
        unfold Lnk.on
        simp only [if_true, if_neg (good_ne hg')]
      rw [← this]; exact hp
    rcases List.mem_cons.1 ((nput_perm _ _ _).mem_iff.1 hp') with rfl | hp
    · exact .inr rfl
    · exact .inl (hst.nowLive okst p (List.mem_filter.1 hp).1)
  · show (((Lnk.mk ByteArray.empty s M.files.length).on M.step.1.now).map (·.2)).Nodup
    unfold Lnk.on
    simp only [if_true, if_neg (good_ne hg')]
    refine nodup_put (hst.nowOnce okst) fun p hp e => ?_
    have := hst.ml _ (hst.nowLive okst p hp)
    rw [e4, e] at this
    exact Nat.lt_irrefl _ this
theorem Side.append (h : Side φ L M D) (ok : M.Ok K) (s : ByteArray) (b : Bs) : Both (M.append s b) (D.append s b) := by
  unfold Med.append
  rw [h.off, h.get, h.step2, h.room, h.used ok]
  split; · exact .same h _
  cases hi : nget M.now s with
  | none => exact .same h _
  | some i =>
    simp only [Option.map_some]
    split; · exact .same h _
    split; · exact .same h.step _
    have hL := h.getLive ok hi
    rw [h.file i hL]
    exact .same (h.step.setFile hL _) _
theorem Side.truncate (h : Side φ L M D) (ok : M.Ok K) (s : ByteArray) (n : Int) : Both (M.truncate s n) (D.truncate s n) := by
  unfold Med.truncate
  rw [h.off, h.get, h.step2]
  split; · exact .same h _
  cases hi : nget M.now s with
  | none => exact .same h _
  | some i =>
    have hL := h.getLive ok hi
    simp only [Option.map_some]
    rw [h.file i hL]
    split; · exact .same h _
    split; · exact .same h.step _
    exact .same (h.step.setFile hL _) _
theorem Side.sync (h : Side φ L M D) (ok : M.Ok K) (s : ByteArray) : Both (M.sync s) (D.sync s) := by
  unfold Med.sync
  rw [h.off, h.get, h.step2]
  split; · exact .same h _
  cases hi : nget M.now s with
  | none => exact .same h _
  | some i =>
    have hL := h.getLive ok hi
    simp only [Option.map_some]
    rw [h.file i hL]
    split; · exact .same h.step _
    exact .same (h.step.setFile hL _) _
theorem Side.syncDir (h : Side φ L M D) (ok : M.Ok K) : Both M.syncDir D.syncDir := by
  unfold Med.syncDir
  rw [h.off, h.step2]
  split; · exact .same h _
  split; · exact .same h.step _
  have hs := h.step
  refine ⟨rfl, φ, L, hs.room, hs.armed, hs.left, hs.off, rfl, hs.now, fun k hk => ?_, fun k hk => ?_, fun k hk => ?_, hs.inj, hs.file, hs.lt, hs.ml⟩
  · obtain rfl : k = 0 := by simpa using hk
    exact h.now
  · obtain rfl : k = 0 := by simpa using hk
    exact h.nowLive ok
  · obtain rfl : k = 0 := by simpa using hk
    exact h.nowOnce ok
theorem Side.arm (h : Side φ L M D) (n : Int) : Both (M.arm n) (D.arm n) := by
  unfold Med.arm
  rw [h.off]
  split; · exact .same h _
  split; · exact .same h _
  exact ⟨rfl, φ, L, h.room, rfl, rfl, rfl, h.wl, h.now, h.names, h.live, h.once, h.inj, h.file, h.lt, h.ml⟩
theorem Side.setRoom (h : Side φ L M D) (n : Int) : Both (M.setRoom n) (D.setRoom n) := by
  unfold Med.setRoom
  rw [h.off]
  split; · exact .same h _
  split; · exact .same h _
  exact ⟨rfl, φ, L, rfl, h.armed, h.left, rfl, h.wl, h.now, h.names, h.live, h.once, h.inj, h.file, h.lt, h.ml⟩
theorem Side.rot (h : Side φ L M D) (ok : M.Ok K) (s : ByteArray) (i : Int) (y : UInt8) : (M.rot s i y).2 = (D.rot s i y).2 ∧ ∃ φ L, Side φ L (M.rot s i y).1 (D.rot s i y).1 := by
  unfold Med.rot
  rw [h.get]
  cases hi : nget M.now s with
  | none => exact ⟨rfl, φ, L, h⟩
  | some k =>
    have hL := h.getLive ok hi
    simp only [Option.map_some]
    rw [h.file k hL]
    split
    · exact ⟨rfl, φ, L, h⟩
    · exact ⟨rfl, φ, L, h.setFile hL _⟩
theorem Side.read (h : Side φ L M D) (ok : M.Ok K) (s : ByteArray) (a n : Int) : M.read s a n = D.read s a n := by
  unfold Med.read
  rw [h.off, h.get]
  split; · rfl
  cases hi : nget M.now s with
  | none => rfl
  | some i =>
    simp only [Option.map_some]
    rw [h.file i (h.getLive ok hi)]
theorem Side.all (h : Side φ L M D) (ok : M.Ok K) (s : ByteArray) : D.all s = M.all s := by
  unfold Med.all
  rw [h.off, h.get]
  split; · rfl
  cases hi : nget M.now s with
  | none => rfl
  | some i =>
    simp only [Option.map_some]
    rw [h.file i (h.getLive ok hi)]
theorem Side.list (h : Side φ L M D) : D.list = M.list := by
  unfold Med.list
  rw [h.off, h.now, ren_keys]
theorem Side.rename (h : Side φ L M D) (ok : M.Ok K) (s t : ByteArray) : Both (M.rename s t) (D.rmove s t false) := by
  unfold Med.rename Med.rmove
  rw [h.off, h.get, h.step2]
  split; · exact .same h _
  cases hi : nget M.now s with
  | none => exact .same h _
  | some i =>
    simp only [Option.map_some, true_and, Bool.false_eq_true, if_false]
    split; · exact .same h _
    rename_i hg
    split; · exact .same h.step _
    have hg' : good t = true := by simpa using hg
    have hst := h.step
    have okst := ok.step
    obtain ⟨e1, e2, e3, e4, e5⟩ := M.step_same
    have hi' : nget M.step.1.now s = some i := by rw [e3]; exact hi
    have hL := hst.getLive okst hi'
    have hs : s ≠ ByteArray.empty := ok.nowOk.ne _ (nget_mem hi)
    have hon : (Lnk.mk s t i).on M.step.1.now = nput (ndel M.step.1.now s) t i := by
      unfold Lnk.on
      simp only [if_neg hs, if_neg (good_ne hg')]
    obtain ⟨u1, _⟩ := used_split okst.nowOk.srt (hst.nowOnce okst) hi'
    refine ⟨rfl, φ, L, hst.link okst.now rfl rfl (fun _ => rfl) ?_ ?_⟩
    · rw [hon]
      intro p hp
      rcases List.mem_cons.1 ((nput_perm _ _ _).mem_iff.1 hp) with rfl | hp
      · exact hL
      · exact hst.nowLive okst p (List.mem_filter.1 (List.mem_filter.1 hp).1).1
    · rw [hon]
      exact nodup_put ((hst.nowOnce okst).sublist (List.filter_sublist.map _)) u1
theorem Side.remove (h : Side φ L M D) (ok : M.Ok K) (s t : ByteArray) : Both (M.remove s) (D.rmove s t true) := by
  unfold Med.remove Med.rmove
  rw [h.off, h.get, h.step2]
  split; · exact .same h _
  cases hi : nget M.now s with
  | none => exact .same h _
  | some i =>
    simp only [Option.map_some, Bool.true_eq_false, false_and, if_false, if_true]
    split; · exact .same h.step _
    have hst := h.step
    have okst := ok.step
    have hs : s ≠ ByteArray.empty := ok.nowOk.ne _ (nget_mem hi)
    have hon : (Lnk.mk s ByteArray.empty 0).on M.step.1.now = ndel M.step.1.now s := by
      unfold Lnk.on
      simp only [if_neg hs, if_true]
    refine ⟨rfl, φ, L, hst.link okst.now rfl rfl (fun hh => absurd rfl hh) ?_ ?_⟩
    · rw [hon]
      exact fun p hp => hst.nowLive okst p (List.mem_filter.1 hp).1
    · rw [hon]
      exact (hst.nowOnce okst).sublist (List.filter_sublist.map _)
theorem Side.does (h : Side φ L M D) (ok : M.Ok K) (x : Cal) : (M.does x).2 = (D.told x).2 ∧ ∃ φ L, Side φ L (M.does x).1 (D.told x).1 := by
  have lift : ∀ {r q : Med × Int}, Both r q → ((r.1, (([], r.2, false) : Bs × Int × Bool)) : Med × (Bs × Int × Bool)).2 = ((q.1, (([], q.2, false) : Bs × Int × Bool)) : Med × (Bs × Int × Bool)).2 ∧ ∃ φ L, Side φ L r.1 q.1 :=
    fun hb => ⟨by rw [hb.1], hb.2⟩
  unfold Med.does Med.told
  by_cases c0 : x.kind = 0; · rw [if_pos c0, if_pos c0]; exact lift (h.create ok _)
  rw [if_neg c0, if_neg c0]
  by_cases c1 : x.kind = 1; · rw [if_pos c1, if_pos c1]; exact lift (h.append ok _ _)
  rw [if_neg c1, if_neg c1]
  by_cases c2 : x.kind = 2; · rw [if_pos c2, if_pos c2]; exact lift (h.truncate ok _ _)
  rw [if_neg c2, if_neg c2]
  by_cases c3 : x.kind = 3; · rw [if_pos c3, if_pos c3]; exact lift (h.rename ok _ _)
  rw [if_neg c3, if_neg c3]
  by_cases c4 : x.kind = 4; · rw [if_pos c4, if_pos c4]; exact lift (h.remove ok _ _)
  rw [if_neg c4, if_neg c4]
  by_cases c5 : x.kind = 5; · rw [if_pos c5, if_pos c5]; exact lift (h.sync ok _)
  rw [if_neg c5, if_neg c5]
  by_cases c6 : x.kind = 6; · rw [if_pos c6, if_pos c6]; exact lift (h.syncDir ok)
  rw [if_neg c6, if_neg c6]
  by_cases c7 : x.kind = 7; · rw [if_pos c7, if_pos c7]; exact lift (h.arm _)
  rw [if_neg c7, if_neg c7]
  by_cases c8 : x.kind = 8; · rw [if_pos c8, if_pos c8]; exact ⟨rfl, h.crash _⟩
  rw [if_neg c8, if_neg c8]
  by_cases c9 : x.kind = 9; · rw [if_pos c9, if_pos c9]; exact lift (h.setRoom _)
  rw [if_neg c9, if_neg c9]
  by_cases c10 : x.kind = 10
  · rw [if_pos c10, if_pos c10]
    obtain ⟨a, b⟩ := h.rot ok x.name x.n (lowByte x.m)
    exact ⟨by rw [a], b⟩
  rw [if_neg c10, if_neg c10]
  exact ⟨by rw [h.read ok], φ, L, h⟩
end
/-! ### the reference's medium stays well made -/
theorem Med.Ok.rmove {K : Nat} {m : Med} (h : m.Ok K) (s t : ByteArray) (gone : Bool) : (m.rmove s t gone).1.Ok (K + 1) := by
  cases gone with
  | false =>
    have e : m.rmove s t false = m.rename s t := by
      unfold Med.rmove Med.rename
      cases m.off
      · cases nget m.now s
        · rfl
        · simp
      · rfl
    rw [e]; exact h.rename s t
  | true =>
    unfold Med.rmove
    have h' := h.mono (Nat.le_succ K)
    split; · exact h'
    split; · exact h'
    rename_i i hi
    simp only [Bool.true_eq_false, false_and, if_false, if_true]
    split; · exact h'.step
    obtain ⟨e1, e2, e3, e4, e5⟩ := m.step_same
    refine h.step.link _ (fun hh => absurd rfl hh) ?_
    rw [e3, e4]
    unfold Lnk.on
    have hs : s ≠ ByteArray.empty := h.nowOk.ne _ (nget_mem hi)
    simp only [if_neg hs, if_true]
    exact h.nowOk.del s
theorem Med.Ok.rcrash {K : Nat} {m : Med} (h : m.Ok K) (l : List Int) : (m.rcrash l).Ok K := by
  unfold Med.rcrash
  have hk := clampN_le (num l 0) m.waits.length
  generalize clampN (num l 0) m.waits.length = k at *
  have hn := h.names k hk
  generalize m.lastNames k = ns at *
  have hlast : NOk ns.length (ns.mapIdx fun i p => (p.1, i)) := by
    have hkeys : (ns.mapIdx fun i p => (p.1, i)).map (·.1) = ns.map (·.1) := by
      apply List.ext_getElem?
      intro j
      rw [List.getElem?_map, List.getElem?_mapIdx, List.getElem?_map]
      cases ns[j]? <;> rfl
    have hmem : ∀ p ∈ (ns.mapIdx fun i p => (p.1, i)), p.2 < ns.length ∧ ∃ q ∈ ns, q.1 = p.1 := by
      intro p hp
      obtain ⟨i, hi, rfl⟩ := List.mem_mapIdx.1 hp
      exact ⟨hi, _, List.getElem_mem hi, rfl⟩
    refine ⟨?_, by rw [List.length_mapIdx]; exact hn.len, fun p hp => (hmem p hp).1, fun p hp => ?_⟩
    · have h1 : (ns.map (·.1)).Pairwise fun a b => lt a b = true := by rw [List.pairwise_map]; exact hn.srt
      rw [← hkeys, List.pairwise_map] at h1
      exact h1
    · obtain ⟨_, q, hq, e⟩ := hmem p hp
      rw [← e]; exact hn.ne q hq
  dsimp only
  refine ⟨h.room, Nat.zero_le _, (fun x hx => by cases hx), fun j hj => ?_, rfl, fun f hf => ?_, Nat.zero_le _⟩
  · have hj0 : j = 0 := by simpa using hj
    subst hj0
    show NOk (ns.mapIdx _).length (ns.mapIdx fun i p => (p.1, i))
    rw [List.length_mapIdx]; exact hlast
  · obtain ⟨i, hi, rfl⟩ := List.mem_mapIdx.1 hf
    exact (h.file _).crash _ _
theorem Med.told_ind {P : Med × Bs × Int × Bool → Prop} {M : Med} {x : Cal}
    (h0 : x.kind = 0 → P ((M.create x.name).1, [], (M.create x.name).2, false))
    (h1 : x.kind = 1 → P ((M.append x.name x.b).1, [], (M.append x.name x.b).2, false))
    (h2 : x.kind = 2 → P ((M.truncate x.name x.n).1, [], (M.truncate x.name x.n).2, false))
    (h3 : x.kind = 3 → P ((M.rmove x.name x.to false).1, [], (M.rmove x.name x.to false).2, false))
    (h4 : x.kind = 4 → P ((M.rmove x.name ByteArray.empty true).1, [], (M.rmove x.name ByteArray.empty true).2, false))
    (h5 : x.kind = 5 → P ((M.sync x.name).1, [], (M.sync x.name).2, false))
    (h6 : x.kind = 6 → P (M.syncDir.1, [], M.syncDir.2, false))
    (h7 : x.kind = 7 → P ((M.arm x.n).1, [], (M.arm x.n).2, false))
    (h8 : x.kind = 8 → P (M.rcrash x.l, [], 0, false))
    (h9 : x.kind = 9 → P ((M.setRoom x.n).1, [], (M.setRoom x.n).2, false))
    (h10 : x.kind = 10 → P ((M.rot x.name x.n (lowByte x.m)).1, [], 0, (M.rot x.name x.n (lowByte x.m)).2))
    (hz : x.kind ≠ 0 ∧ x.kind ≠ 1 ∧ x.kind ≠ 2 ∧ x.kind ≠ 3 ∧ x.kind ≠ 4 ∧ x.kind ≠ 5 ∧ x.kind ≠ 6 ∧ x.kind ≠ 7 ∧ x.kind ≠ 8 ∧ x.kind ≠ 9 ∧ x.kind ≠ 10 → P (M, (M.read x.name x.n x.m).1, (M.read x.name x.n x.m).2, false)) : P (M.told x) := by
  unfold Med.told
  by_cases c0 : x.kind = 0; · rw [if_pos c0]; exact h0 c0
  rw [if_neg c0]
  by_cases c1 : x.kind = 1; · rw [if_pos c1]; exact h1 c1
  rw [if_neg c1]
  by_cases c2 : x.kind = 2; · rw [if_pos c2]; exact h2 c2
  rw [if_neg c2]
  by_cases c3 : x.kind = 3; · rw [if_pos c3]; exact h3 c3
  rw [if_neg c3]
  by_cases c4 : x.kind = 4; · rw [if_pos c4]; exact h4 c4
  rw [if_neg c4]
  by_cases c5 : x.kind = 5; · rw [if_pos c5]; exact h5 c5
  rw [if_neg c5]
  by_cases c6 : x.kind = 6; · rw [if_pos c6]; exact h6 c6
  rw [if_neg c6]
  by_cases c7 : x.kind = 7; · rw [if_pos c7]; exact h7 c7
  rw [if_neg c7]
  by_cases c8 : x.kind = 8; · rw [if_pos c8]; exact h8 c8
  rw [if_neg c8]
  by_cases c9 : x.kind = 9; · rw [if_pos c9]; exact h9 c9
  rw [if_neg c9]
  by_cases c10 : x.kind = 10; · rw [if_pos c10]; exact h10 c10
  rw [if_neg c10]
  exact hz ⟨c0, c1, c2, c3, c4, c5, c6, c7, c8, c9, c10⟩
theorem Med.Ok.told {K : Nat} {M : Med} (h : M.Ok K) (x : Cal) (hn : x.n ≤ 9223372036854775807) : (M.told x).1.Ok (K + 1) := by
  have h' := h.mono (Nat.le_succ K)
  refine Med.told_ind (P := fun r => r.1.Ok (K + 1)) ?_ ?_ ?_ ?_ ?_ ?_ ?_ ?_ ?_ ?_ ?_ ?_
  · exact fun _ => h.create _
  · exact fun _ => h.append _ _
  · exact fun _ => h.truncate _ _
  · exact fun _ => h.rmove _ _ _
  · exact fun _ => h.rmove _ _ _
  · exact fun _ => h.sync _
  · exact fun _ => h.syncDir.mono (Nat.le_succ K)
  · exact fun _ => (h.arm _ hn).mono (Nat.le_succ K)
  · exact fun _ => (h.rcrash _).mono (Nat.le_succ K)
  · exact fun _ => (h.setRoom _).mono (Nat.le_succ K)
  · exact fun _ => h.rot _ _ _
  · exact fun _ => h'
/-- No change holds too many bytes. -/
def Fil.Small (f : Fil) : Prop := ∀ c ∈ f.waits, c.b.length ≤ 16777216
def Med.Small (m : Med) : Prop := ∀ f ∈ m.files, f.Small
theorem Med.Small.file {m : Med} (h : m.Small) (i : Nat) : (m.file i).Small := by
  unfold Med.file
  rcases Nat.lt_or_ge i m.files.length with hi | hi
  · rw [List.getD_eq_getElem?_getD, List.getElem?_eq_getElem hi]; exact h _ (List.getElem_mem hi)
  · rw [List.getD_eq_getElem?_getD, List.getElem?_eq_none hi]; intro c hc; cases hc
theorem Med.Small.step {m : Med} (h : m.Small) : m.step.1.Small := by
  intro f hf
  rw [m.step_same.2.2.2.1] at hf
  exact h f hf
theorem Med.Small.setFile {m : Med} (h : m.Small) (i : Nat) {f : Fil} (hf : f.Small) : (m.setFile i f).Small := by
  intro g hg
  rcases List.mem_or_eq_of_mem_set hg with hg | rfl
  · exact h g hg
  · exact hf
theorem Fil.Small.do {f : Fil} (h : f.Small) {c : Chg} (hc : c.b.length ≤ 16777216) : (f.do c).Small := by
  intro d hd
  rcases List.mem_append.1 hd with hd | hd
  · exact h d hd
  · rw [List.mem_singleton.1 hd]; exact hc
theorem Fil.Small.rot {f : Fil} (h : f.Small) (i : Nat) (y : UInt8) : (f.rot i y).Small := by
  unfold Fil.rot
  rcases rotWaits_spec f i y f.waits.length (Nat.le_refl _) with ⟨h1, h2⟩ | ⟨j, c, hj, hc, hcut, hl, h1, h2⟩
  · rw [h1]; exact h
  · rw [h1]
    intro d hd
    rcases List.mem_or_eq_of_mem_set hd with hd | rfl
    · exact h d hd
    · rw [xorAt_len]; exact h c (List.mem_of_getElem? hc)
theorem Med.Small.told {K : Nat} {M : Med} (h : M.Small) (ok : M.Ok K) (x : Cal) : (M.told x).1.Small := by
  have hst := h.step
  have hmv : ∀ s t g, (M.rmove s t g).1.Small := by
    intro s t g
    unfold Med.rmove
    split; · exact h
    split; · exact h
    split; · exact h
    split; · exact hst
    exact hst
  refine Med.told_ind (P := fun r => r.1.Small) ?_ ?_ ?_ ?_ ?_ ?_ ?_ ?_ ?_ ?_ ?_ ?_
  · intro _
    show (M.create x.name).1.Small
    unfold Med.create
    split; · exact h
    split; · exact h
    split; · exact h
    split; · exact h
    split; · exact hst
    intro f hf
    rcases List.mem_append.1 (show f ∈ M.files ++ [Fil.new] from hf) with hf | hf
    · exact h f hf
    · rw [List.mem_singleton.1 hf]; intro c hc; cases hc
  · intro _
    show (M.append x.name x.b).1.Small
    unfold Med.append
    split; · exact h
    split; · exact h
    split; · exact h
    rename_i hf
    split; · exact hst
    refine hst.setFile _ ((h.file _).do ?_)
    have := ok.room
    simp only
    omega
  · intro _
    show (M.truncate x.name x.n).1.Small
    unfold Med.truncate
    split; · exact h
    split; · exact h
    split; · exact h
    split; · exact hst
    exact hst.setFile _ ((h.file _).do (by simp))
  · exact fun _ => hmv _ _ _
  · exact fun _ => hmv _ _ _
  · intro _
    show (M.sync x.name).1.Small
    unfold Med.sync
    split; · exact h
    split; · exact h
    split; · exact hst
    exact hst.setFile _ (fun c hc => by cases hc)
  · intro _
    show M.syncDir.1.Small
    unfold Med.syncDir
    split; · exact h
    split; · exact hst
    exact hst
  · intro _
    show (M.arm x.n).1.Small
    unfold Med.arm
    split; · exact h
    split; · exact h
    exact h
  · intro _
    show (M.rcrash x.l).Small
    intro f hf
    obtain ⟨i, hi, rfl⟩ := List.mem_mapIdx.1 (show f ∈ _ from hf)
    intro c hc; cases hc
  · intro _
    show (M.setRoom x.n).1.Small
    unfold Med.setRoom
    split; · exact h
    split; · exact h
    exact h
  · intro _
    show (M.rot x.name x.n (lowByte x.m)).1.Small
    unfold Med.rot
    split; · exact h
    split; · exact h
    exact h.setFile _ ((h.file _).rot _ _)
  · exact fun _ => h
/-- Files are made one by one. -/
theorem step_fl (m : Med) : m.step.1.files.length = m.files.length := by rw [m.step_same.2.2.2.1]
theorem told_files {K J : Nat} {M : Med} (h : M.Ok K) (hf : M.files.length ≤ 500 + J) (x : Cal) : (M.told x).1.files.length ≤ 500 + (J + 1) := by
  have hs := step_fl M
  have h' : M.files.length ≤ 500 + (J + 1) := by omega
  have h'' : M.step.1.files.length ≤ 500 + (J + 1) := by omega
  have hset : ∀ i f, (M.step.1.setFile i f).files.length ≤ 500 + (J + 1) := fun i f => by unfold Med.setFile; simp; omega
  have hmv : ∀ s t g, (M.rmove s t g).1.files.length ≤ 500 + (J + 1) := by
    intro s t g
    unfold Med.rmove
    split; · exact h'
    split; · exact h'
    split; · exact h'
    split; · exact h''
    exact h''
  refine Med.told_ind (P := fun r => r.1.files.length ≤ 500 + (J + 1)) ?_ ?_ ?_ ?_ ?_ ?_ ?_ ?_ ?_ ?_ ?_ ?_
  · intro _
    show (M.create x.name).1.files.length ≤ _
    unfold Med.create
    split; · exact h'
    split; · exact h'
    split; · exact h'
    split; · exact h'
    split; · exact h''
    simp only [Med.link, List.length_append, List.length_singleton]; omega
  · intro _
    show (M.append x.name x.b).1.files.length ≤ _
    unfold Med.append
    split; · exact h'
    split; · exact h'
    split; · exact h'
    split; · exact h''
    exact hset _ _
  · intro _
    show (M.truncate x.name x.n).1.files.length ≤ _
    unfold Med.truncate
    split; · exact h'
    split; · exact h'
    split; · exact h'
    split; · exact h''
    exact hset _ _
  · exact fun _ => hmv _ _ _
  · exact fun _ => hmv _ _ _
  · intro _
    show (M.sync x.name).1.files.length ≤ _
    unfold Med.sync
    split; · exact h'
    split; · exact h'
    split; · exact h''
    exact hset _ _
  · intro _
    show M.syncDir.1.files.length ≤ _
    unfold Med.syncDir
    split; · exact h'
    split; · exact h''
    exact h''
  · intro _
    show (M.arm x.n).1.files.length ≤ _
    unfold Med.arm
    split; · exact h'
    split; · exact h'
    exact h'
  · intro _
    show (M.rcrash x.l).files.length ≤ _
    unfold Med.rcrash
    simp only [List.length_mapIdx]
    have := (h.names _ (clampN_le (num x.l 0) M.waits.length)).len
    omega
  · intro _
    show (M.setRoom x.n).1.files.length ≤ _
    unfold Med.setRoom
    split; · exact h'
    split; · exact h'
    exact h'
  · intro _
    show (M.rot x.name x.n (lowByte x.m)).1.files.length ≤ _
    unfold Med.rot
    split; · exact h'
    split; · exact h'
    simp only [Med.setFile, List.length_set]; exact h'
  · exact fun _ => h'
end Go.Med
/- hoardref06: Move. -/
namespace Go.Proofs.YtmjldaedhmipkaaGreatDoor
open Go Go.Sl Go.Med Go.MapKept Go.RowKit
set_option linter.unusedVariables false
section
variable {w0 w : World} {F R : List HProp} {d : Nat} {D : Med} {fsv fv nv wv v lv : Value} {xs : List RF} {g : Bag} {K : Nat}
set_option maxRecDepth 20000 in
set_option maxHeartbeats 8000000 in
theorem rmove_c (s t : ByteArray) (gone : Bool) (hs : t.size ≤ 9223372036854775806) (hl : D.now.length ≤ 1048575) (hw : D.waits.length ≤ 1048576) (hlf : D.left ≤ 9223372036854775807) (h : Sat w0 w (DskRep d D :: F)) :
    Calls Tryz.prog 83 #[ptr d, .string s, .string t, .bool gone] w (Rtn fun v w' => v = errno (D.rmove s t gone).2 ∧ Sat w0 w' (DskRep d (D.rmove s t gone).1 :: F)) := by
  have hfd := rfind_c s (by omega) h
  obtain ⟨fsv, fv, nv, wv, xs, g, hin, hR⟩ := DskRep.open h
  have Hin := Lib.hid hin; have Hl := Lib.hid hl; have Hw := Lib.hid hw; have Hlf := Lib.hid hlf
  have e7 : w.cell? ⟨d, 7, none⟩ = some (.bool D.off) := hR.cellP pick0 7 rfl
  clear h hin hl hw hlf
  have hgd := rgood_c t w hs
  cases ho : D.off with
  | true =>
    have Ha := Lib.hid (show D.rmove s t gone = (D, 12) by unfold Med.rmove; rw [ho]; rfl)
    rw [ho] at e7
    clear ho hfd hgd
    go_enter Tryz.func83, Tryz.ntmps83
    go_wp2
    go_ret
    exact ⟨_, rfl, by rw [Ha.out]; rfl, by rw [Ha.out]; exact DskRep.shut Hin.out hR⟩
  | false =>
    rw [ho] at e7
    have Ho := Lib.hid (show ¬ (D.off = true) by rw [ho]; decide)
    clear ho
    cases hk : nget D.now s with
    | none =>
      have Ha := Lib.hid (show D.rmove s t gone = (D, 9) by unfold Med.rmove; rw [if_neg Ho.out, hk])
      have hwh : D.which s = -1 := by unfold Med.which; rw [hk]
      rw [hwh] at hfd
      clear hk hwh hgd
      go_enter Tryz.func83, Tryz.ntmps83
      go_wp2_with fail
      refine hfd.mono ?_
      rintro ee w1 ⟨v, rfl, rfl, rfl⟩
      clear hfd
      go_wp2
      go_ret
      exact ⟨_, rfl, by rw [Ha.out]; rfl, by rw [Ha.out]; exact DskRep.shut Hin.out hR⟩
    | some i =>
      have hwh : D.which s = (i : Int) := by unfold Med.which; rw [hk]
      rw [hwh] at hfd
      have Hk := Lib.hid hk
      have c1 : ¬ (i : Int) < 0 := by omega
      clear hk hwh
      have hst := rstep_c hR Hlf.out
      have hin2 : DskIn D.step.1 fv nv xs g := ⟨by rw [step_files]; exact Hin.out.files, Hin.out.ok, by rw [step_fast]; exact Hin.out.fast, by rw [step_now]; exact Hin.out.now⟩
      have Hin2 := Lib.hid hin2
      clear hin2
      have Hl1 := Lib.hid (show D.step.1.now.length ≤ 1048575 by rw [step_now]; exact Hl.out)
      have Hw1 := Lib.hid (show D.step.1.waits.length ≤ 1048576 by rw [step_waits]; exact Hw.out)
      cases gone with
      | true =>
        clear hgd
        go_enter Tryz.func83, Tryz.ntmps83
        go_wp2_with fail
        refine hfd.mono ?_
        rintro ee w1 ⟨v, rfl, rfl, rfl⟩
        clear hfd
        go_wp2_with fail
        refine hst.mono ?_
        clear hst
        rintro ee w2 ⟨v, rfl, rfl, hS⟩
        clear hR e7 c1
        rw [← step_waits] at hS
        cases ht : D.step.2 with
        | false =>
          have Ha := Lib.hid (show D.rmove s t true = (D.step.1, 12) by unfold Med.rmove; rw [if_neg Ho.out, Hk.out]; simp only []; rw [if_neg (by simp), if_pos ht])
          clear ht
          go_wp2
          go_ret
          exact ⟨_, rfl, by rw [Ha.out]; rfl, by rw [Ha.out]; exact DskRep.shut Hin2.out hS⟩
        | true =>
          have Ha := Lib.hid (show D.rmove s t true = (D.step.1.link ⟨s, ByteArray.empty, i⟩, 0) by unfold Med.rmove; rw [if_neg Ho.out, Hk.out]; simp only []; rw [if_neg (by simp), if_neg (by rw [ht]; decide)]; rfl)
          clear ht
          have h6 := DskRep.shut Hin2.out hS
          clear hS
          go_wp2_with fail
          refine (rwait_c ⟨s, ByteArray.empty, i⟩ Hl1.out Hw1.out h6).mono ?_
          rintro ee w5 ⟨v, rfl, h7⟩
          clear h6
          go_wp2
          go_ret
          exact ⟨_, rfl, by rw [Ha.out]; rfl, by rw [Ha.out]; exact h7⟩
      | false =>
        cases hg : good t with
        | false =>
          have Ha := Lib.hid (show D.rmove s t false = (D, 7) by unfold Med.rmove; rw [if_neg Ho.out, Hk.out]; simp only []; rw [if_pos (by simp [hg])])
          rw [hg] at hgd
          clear hg hst
          go_enter Tryz.func83, Tryz.ntmps83
          go_wp2_with fail
          refine hfd.mono ?_
          rintro ee w1 ⟨v, rfl, rfl, rfl⟩
          clear hfd
          go_wp2_with fail
          refine hgd.mono ?_
          rintro ee w1 ⟨v, rfl, rfl, rfl⟩
          clear hgd
          go_wp2
          go_ret
          exact ⟨_, rfl, by rw [Ha.out]; rfl, by rw [Ha.out]; exact DskRep.shut Hin.out hR⟩
        | true =>
          have Hg := Lib.hid (show ¬ (false = false ∧ good t = false) by rw [hg]; decide)
          rw [hg] at hgd
          clear hg
          go_enter Tryz.func83, Tryz.ntmps83
          go_wp2_with fail
          refine hfd.mono ?_
          rintro ee w1 ⟨v, rfl, rfl, rfl⟩
          clear hfd
          go_wp2_with fail
          refine hgd.mono ?_
          rintro ee w1 ⟨v, rfl, rfl, rfl⟩
          clear hgd
          go_wp2_with fail
          refine hst.mono ?_
          clear hst
          rintro ee w2 ⟨v, rfl, rfl, hS⟩
          clear hR e7 c1
          rw [← step_waits] at hS
          cases ht : D.step.2 with
          | false =>
            have Ha := Lib.hid (show D.rmove s t false = (D.step.1, 12) by unfold Med.rmove; rw [if_neg Ho.out, Hk.out]; simp only []; rw [if_neg Hg.out, if_pos ht])
            clear ht
            go_wp2
            go_ret
            exact ⟨_, rfl, by rw [Ha.out]; rfl, by rw [Ha.out]; exact DskRep.shut Hin2.out hS⟩
          | true =>
            have Ha := Lib.hid (show D.rmove s t false = (D.step.1.link ⟨s, t, i⟩, 0) by unfold Med.rmove; rw [if_neg Ho.out, Hk.out]; simp only []; rw [if_neg Hg.out, if_neg (by rw [ht]; decide)]; rfl)
            clear ht
            have h6 := DskRep.shut Hin2.out hS
            clear hS
            go_wp2_with fail
            refine (rwait_c ⟨s, t, i⟩ Hl1.out Hw1.out h6).mono ?_
            rintro ee w5 ⟨v, rfl, h7⟩
            clear h6
            go_wp2
            go_ret
            exact ⟨_, rfl, by rw [Ha.out]; rfl, by rw [Ha.out]; exact h7⟩
end
end Go.Proofs.YtmjldaedhmipkaaGreatDoor
/- hoardref06: Read. -/
namespace Go.Proofs.YtmjldaedhmipkaaGreatDoor
open Go Go.Sl Go.Med Go.MapKept Go.RowKit
set_option linter.unusedVariables false
section
variable {w0 w : World} {F R : List HProp} {d : Nat} {D : Med} {fsv fv nv wv v lv : Value} {xs : List RF} {g : Bag} {K : Nat}
theorem file_nv {x : RF} (h : x ∈ xs) (hs : Sat w0 w (stars (xs.map rfR) :: R)) : ∃ na nc, x.nv = .slice na x.f.now.length nc ∧ x.f.now.length ≤ nc ∧ nc ≤ 9223372036854775807 ∧ ((na = none ∧ nc = 0) ∨ ∃ g, na = some ⟨g, 0, none⟩) := by
  obtain ⟨G, hG⟩ := stars_mem _ _ (List.mem_map.2 ⟨x, h, rfl⟩ : rfR x ∈ xs.map rfR)
  rw [hG] at hs
  have h2 := Sat.star.1 hs
  unfold rfR at h2
  have h3 := Sat.star.1 h2
  have h4 := Sat.star.1 (h3.pick pick1)
  rcases Sat.osl_cases h4 with ⟨hv, hx, _⟩ | ⟨b, n', cap', cs, hv, hl, hn, hc, hcm, _, _⟩
  · have h5 : (bys x.f.now).length = 0 := by rw [hx]; rfl
    rw [bys_len] at h5
    exact ⟨none, 0, by rw [hv, h5], by omega, by omega, .inl ⟨rfl, rfl⟩⟩
  · rw [bys_len, Nat.mul_one] at hl
    exact ⟨_, _, by rw [hv, hl], by omega, hcm, .inr ⟨b, rfl⟩⟩
set_option maxRecDepth 20000 in
set_option maxHeartbeats 8000000 in
theorem rread_c (s : ByteArray) (at_ n : Int) (ha : -9223372036854775808 ≤ at_ ∧ at_ ≤ 9223372036854775807) (hn : -9223372036854775808 ≤ n ∧ n ≤ 9223372036854775807) (hl : D.now.length ≤ 1048576)
    (hf : ∀ i, nget D.now s = some i → i < D.files.length ∧ (D.file i).now.length ≤ 1099511627776) (h : Sat w0 w (DskRep d D :: F)) :
    Calls Tryz.prog 99 #[ptr d, .string s, .int .i64 at_, .int .i64 n] w (Rtn fun v w' => ∃ bv, v = .tuple #[bv, errno (D.read s at_ n).2] ∧ Sat w0 w' (bsl bv (D.read s at_ n).1 :: DskRep d D :: F)) := by
  have hfd := rfind_c s hl h
  obtain ⟨fsv, fv, nv, wv, xs, g, hin, hR⟩ := DskRep.open h
  have Hin := Lib.hid hin; have Hf := Lib.hid hf; have Hh := Lib.hid h
  have e7 : w.cell? ⟨d, 7, none⟩ = some (.bool D.off) := hR.cellP pick0 7 rfl
  obtain ⟨ha1, ha2⟩ := ha
  obtain ⟨hn1, hn2⟩ := hn
  clear h hin hf hl
  cases ho : D.off with
  | true =>
    have Ha := Lib.hid (show D.read s at_ n = ([], 12) by unfold Med.read; rw [ho]; rfl)
    rw [ho] at e7
    clear ho hfd
    go_enter Tryz.func99, Tryz.ntmps99
    go_wp2
    go_ret2
    exact ⟨_, rfl, .slice none 0 0, by rw [Ha.out]; rfl, by rw [Ha.out]; exact Sat.osl_nil.2 Hh.out⟩
  | false =>
    rw [ho] at e7
    cases hg : nget D.now s with
    | none =>
      have Ha := Lib.hid (show D.read s at_ n = ([], 9) by unfold Med.read; rw [ho, if_neg (by decide), hg])
      have Hw := Lib.hid (show D.which s = -1 by unfold Med.which; rw [hg])
      rw [Hw.out] at hfd
      clear ho hg
      go_enter Tryz.func99, Tryz.ntmps99
      go_wp2_with fail
      refine hfd.mono ?_
      rintro ee w1 ⟨v, rfl, rfl, rfl⟩
      clear hfd
      go_wp2
      go_ret2
      exact ⟨_, rfl, .slice none 0 0, by rw [Ha.out]; rfl, by rw [Ha.out]; exact Sat.osl_nil.2 Hh.out⟩
    | some i =>
      have hwh : D.which s = (i : Int) := by unfold Med.which; rw [hg]
      rw [hwh] at hfd
      have c1 : ¬ (i : Int) < 0 := by omega
      obtain ⟨hif, hnl⟩ := Hf.out i hg
      obtain ⟨x, hx, hxf⟩ := Hin.out.file hif
      have hlx : xs.length = D.files.length := by rw [← Hin.out.files, List.length_map]
      obtain ⟨_, h1, _⟩ := rfsL_at hx
      obtain ⟨fa, fn, fc, rfl, hfn, _⟩ := Sat.rd (hR.pick pick1)
      rw [rfsL_len] at hfn
      obtain rfl : fn = xs.length := by omega
      obtain ⟨bk, off, hfe, hc⟩ := rdsl_cells (Sat.rd (hR.pick pick1)) h1
      subst hfe
      have e1 : w.cell? ⟨bk, off + i * 3 + 1, none⟩ = some x.nv := by rw [Nat.add_assoc]; exact hc _ _ h1
      have e0 : w.cell? ⟨d, 1, none⟩ = some (.slice (some ⟨bk, off, none⟩) xs.length fc) := hR.cellP pick0 1 rfl
      have c2 : (i : Int) < (xs.length : Int) := by omega
      have hrd := (file_ro (w0 := w0) (List.mem_of_getElem? hx)).1 _ (hR.pick pick2)
      obtain ⟨na, nc, hxe, hcap, hnc, hna⟩ := file_nv (List.mem_of_getElem? hx) (hR.pick pick2)
      rw [hxe] at e1 hrd
      rw [hxf] at e1 hrd hcap
      clear hxe hxf hx h1 hc hfn hif hwh hlx
      have hread : ∀ y : Bs × Int, y = (if at_ < 0 ∨ n < 0 then ([], 2) else if ((D.file i).now.length : Int) < at_ ∨ ((D.file i).now.length : Int) - at_ < n then ([], 3) else (((D.file i).now.drop at_.toNat).take n.toNat, 0)) → D.read s at_ n = y := by
        rintro y rfl
        unfold Med.read
        rw [ho, if_neg (by decide), hg]
      have Hread := Lib.hid hread
      clear hread ho hg
      generalize (D.file i).now = L at *
      by_cases h1 : at_ < 0
      · clear hR
        go_enter Tryz.func99, Tryz.ntmps99
        go_wp2_with fail
        refine hfd.mono ?_
        rintro ee w1 ⟨v, rfl, rfl, rfl⟩
        clear hfd
        go_wp2
        go_ret2
        have := Hread.out _ (if_pos (.inl h1)).symm
        exact ⟨_, rfl, .slice none 0 0, by rw [this]; rfl, by rw [this]; exact Sat.osl_nil.2 Hh.out⟩
      have h1' : decide (at_ < 0) = false := by simpa using h1
      by_cases h2 : n < 0
      · clear hR
        go_enter Tryz.func99, Tryz.ntmps99
        go_wp2_with fail
        refine hfd.mono ?_
        rintro ee w1 ⟨v, rfl, rfl, rfl⟩
        clear hfd
        go_wp2
        go_ret2
        have := Hread.out _ (if_pos (.inr h2)).symm
        exact ⟨_, rfl, .slice none 0 0, by rw [this]; rfl, by rw [this]; exact Sat.osl_nil.2 Hh.out⟩
      have h2' : decide (n < 0) = false := by simpa using h2
      obtain ⟨a, rfl⟩ := Int.eq_ofNat_of_zero_le (show 0 ≤ at_ by omega)
      obtain ⟨k, rfl⟩ := Int.eq_ofNat_of_zero_le (show 0 ≤ n by omega)
      have h12 : ¬ ((a : Int) < 0 ∨ (k : Int) < 0) := by omega
      by_cases h3 : (L.length : Int) < a
      · clear hR
        go_enter Tryz.func99, Tryz.ntmps99
        go_wp2_with fail
        refine hfd.mono ?_
        rintro ee w1 ⟨v, rfl, rfl, rfl⟩
        clear hfd
        go_wp2
        go_ret2
        have := Hread.out _ ((if_neg h12).trans (if_pos (.inl h3))).symm
        exact ⟨_, rfl, .slice none 0 0, by rw [this]; rfl, by rw [this]; exact Sat.osl_nil.2 Hh.out⟩
      have h3' : decide ((L.length : Int) < a) = false := by simpa using h3
      by_cases h4 : (L.length : Int) - a < k
      · clear hR
        go_enter Tryz.func99, Tryz.ntmps99
        go_wp2_with fail
        refine hfd.mono ?_
        rintro ee w1 ⟨v, rfl, rfl, rfl⟩
        clear hfd
        go_wp2
        go_ret2
        have := Hread.out _ ((if_neg h12).trans (if_pos (.inr h4))).symm
        exact ⟨_, rfl, .slice none 0 0, by rw [this]; rfl, by rw [this]; exact Sat.osl_nil.2 Hh.out⟩
      have h4' : decide ((L.length : Int) - a < k) = false := by simpa using h4
      have h34 : ¬ ((L.length : Int) < a ∨ (L.length : Int) - a < k) := by omega
      have hfin := Hread.out _ ((if_neg h12).trans (if_neg h34)).symm
      have Hfin := Lib.hid hfin; clear hfin
      have hcl : ∀ y, y = (if nc = a then na else na.map (·.add a)) → Calls Tryz.prog 96 #[.slice y k (nc - a)] w (Rtn fun v' w' => Sat w0 w' (bsl v' ((L.drop a).take k) :: DskRep d D :: F) ∧ ∃ a n c, v' = .slice a n c) := by
        intro y hy
        refine copy_c Hh.out _ ?_ (by simp; omega)
        have := rdsl_slice (lo := a) (k := k) hrd (by omega) y hy hcap (nc - a)
        simpa [bys, List.map_take, List.map_drop] using this
      have Hcl := Lib.hid hcl
      clear hcl hrd hR
      have e5 : (a : Int) + k ≤ nc := by omega
      have hw5 : IntKind.i64.wrap ((a : Int) + k) = (a : Int) + k := IntWalk.i64_in _ (by omega)
      rcases hna with ⟨rfl, rfl⟩ | ⟨g, rfl⟩
      · obtain rfl : a = 0 := by omega
        obtain rfl : k = 0 := by omega
        have hcl := Hcl.out none (by simp)
        simp only [Nat.sub_self] at hcl
        clear Hread Hcl
        go_enter Tryz.func99, Tryz.ntmps99
        go_wp2_with fail
        refine hfd.mono ?_
        rintro ee w1 ⟨v, rfl, rfl, rfl⟩
        clear hfd
        go_wp2_with fail
        refine hcl.mono ?_
        rintro ee w1 ⟨v, rfl, hS, a, n, c, rfl⟩
        go_wp2
        go_ret2
        exact ⟨_, rfl, .slice a n c, by rw [Hfin.out]; rfl, by rw [Hfin.out]; exact hS⟩
      · clear Hread
        by_cases hca : nc = a
        · subst hca
          obtain rfl : k = 0 := by omega
          have hcl := Hcl.out (some ⟨g, 0, none⟩) (by simp)
          simp only [Nat.sub_self] at hcl
          clear Hcl
          go_enter Tryz.func99, Tryz.ntmps99
          go_wp2_with fail
          refine hfd.mono ?_
          rintro ee w1 ⟨v, rfl, rfl, rfl⟩
          clear hfd
          go_wp2_with fail
          refine hcl.mono ?_
          rintro ee w1 ⟨v, rfl, hS, a, n, c, rfl⟩
          go_wp2
          go_ret2
          exact ⟨_, rfl, .slice a n c, by rw [Hfin.out]; rfl, by rw [Hfin.out]; exact hS⟩
        · have hcl := Hcl.out (some ⟨g, a, none⟩) (by rw [if_neg hca]; simp [add_zero_lit])
          clear Hcl
          go_enter Tryz.func99, Tryz.ntmps99
          go_wp2_with fail
          refine hfd.mono ?_
          rintro ee w1 ⟨v, rfl, rfl, rfl⟩
          clear hfd
          go_wp2_with fail
          refine hcl.mono ?_
          rintro ee w1 ⟨v, rfl, hS, a, n, c, rfl⟩
          go_wp2
          go_ret2
          exact ⟨_, rfl, .slice a n c, by rw [Hfin.out]; rfl, by rw [Hfin.out]; exact hS⟩
end
end Go.Proofs.YtmjldaedhmipkaaGreatDoor
/- hoardref06: Sync of names. -/
namespace Go.Proofs.YtmjldaedhmipkaaGreatDoor
open Go Go.Sl Go.Med Go.MapKept Go.RowKit
set_option linter.unusedVariables false
section
variable {w0 w : World} {F R : List HProp} {d : Nat} {D : Med} {fsv fv nv wv v lv : Value} {xs : List RF} {g : Bag} {K : Nat}
set_option maxRecDepth 20000 in
set_option maxHeartbeats 8000000 in
theorem rsyncd_c (s : ByteArray) (hl : D.now.length ≤ 1048576) (hlf : D.left ≤ 9223372036854775807) (h : Sat w0 w (DskRep d D :: F)) :
    Calls Tryz.prog 26 #[ptr d, .string s, .bool true] w (Rtn fun v w' => v = errno D.syncDir.2 ∧ Sat w0 w' (DskRep d D.syncDir.1 :: F)) := by
  have hfd := rfind_c s hl h
  obtain ⟨fsv, fv, nv, wv, xs, g, hin, hR⟩ := DskRep.open h
  have Hin := Lib.hid hin; have Hlf := Lib.hid hlf
  have e7 : w.cell? ⟨d, 7, none⟩ = some (.bool D.off) := hR.cellP pick0 7 rfl
  clear h hin hl hlf
  generalize D.which s = q at *
  cases ho : D.off with
  | true =>
    have Ha := Lib.hid (show D.syncDir = (D, 12) by unfold Med.syncDir; rw [ho]; rfl)
    rw [ho] at e7
    clear ho hfd
    go_enter Tryz.func26, Tryz.ntmps26
    go_wp2
    go_ret
    exact ⟨_, rfl, by rw [Ha.out]; rfl, by rw [Ha.out]; exact DskRep.shut Hin.out hR⟩
  | false =>
    rw [ho] at e7
    have Ho := Lib.hid (show ¬ (D.off = true) by rw [ho]; decide)
    clear ho
    have hst := rstep_c hR Hlf.out
    have hin2 : DskIn D.step.1 fv nv xs g := ⟨by rw [step_files]; exact Hin.out.files, Hin.out.ok, by rw [step_fast]; exact Hin.out.fast, by rw [step_now]; exact Hin.out.now⟩
    have Hin2 := Lib.hid hin2
    clear hin2
    have Hnw := Lib.hid (step_now D)
    obtain ⟨na, nc, rfl⟩ := nms_sl (bag_ro (w0 := w0) Hin.out.now w (hR.pick pick3))
    go_enter Tryz.func26, Tryz.ntmps26
    go_wp2_with fail
    refine hfd.mono ?_
    rintro ee w1 ⟨v, rfl, rfl, rfl⟩
    clear hfd
    go_wp2_with fail
    refine hst.mono ?_
    clear hst
    rintro ee w2 ⟨v, rfl, rfl, hS⟩
    clear hR e7
    rw [← step_waits] at hS
    cases ht : D.step.2 with
    | false =>
      have Ha := Lib.hid (show D.syncDir = (D.step.1, 12) by unfold Med.syncDir; rw [if_neg Ho.out, if_pos ht])
      clear ht
      go_wp2
      go_ret
      exact ⟨_, rfl, by rw [Ha.out]; rfl, by rw [Ha.out]; exact DskRep.shut Hin2.out hS⟩
    | true =>
      have Ha := Lib.hid (show D.syncDir = ({ D.step.1 with fast := D.now, waits := [] }, 0) by unfold Med.syncDir; rw [if_neg Ho.out, if_neg (by rw [ht]; decide)])
      clear ht
      generalize D.step.1 = D1 at *
      go_wp2_with (first
        | ((with_reducible apply at_load); refine ⟨?_⟩; refine wl_load1 (by assumption) (by rfl) (by first | ((repeat (first | with_reducible apply pick0 | with_reducible apply pick_there)); done) | ((repeat (first | apply pick0 | apply pick_there)); done) | fail) (Nat.le_of_ble_eq_true (by rfl)) (by conv => lhs; whnf) (by kernel_rfl) ?_)
        | ((with_reducible apply at_store); refine ⟨?_⟩; refine wl_store (by assumption) (by rfl) (by conv => lhs; whnf) (by first | (simp only [putsAt, Value.cells]; (try go_frame); first | done | rfl) | rfl) (by first | ((repeat (first | with_reducible apply upd0 | with_reducible apply upd_there)); done) | ((repeat (first | apply upd0 | apply upd_there)); done) | fail) (Nat.le_of_ble_eq_true (by rfl)) (by kernel_rfl) (by rfl) ?_; intro wS hS))
      go_ret
      refine ⟨_, rfl, by rw [Ha.out]; rfl, ?_⟩
      rw [Ha.out]
      have h4 : Sat w0 _ (osl 243 3 (.slice none 0 0) [] :: _) := Sat.osl_nil.2 hS
      exact DskRep.shut (D := { D1 with fast := D.now, waits := [] }) ⟨Hin2.out.files, Hin2.out.ok, Hin.out.now, Hin2.out.now⟩ (h4.sub (sub_take pick1 (sub_take pick1 (sub_take pick1 (sub_take pick1 (sub_take pick0 (sub_drop sub_refl)))))))
end
end Go.Proofs.YtmjldaedhmipkaaGreatDoor
/- hoardref06: a store into an owned slice; a file's bytes made fast. -/
namespace Go.Proofs.YtmjldaedhmipkaaGreatDoor
open Go Go.Sl Go.Med Go.MapKept Go.RowKit
set_option linter.unusedVariables false
section
variable {P : Program} {w0 w : World} {L L' : List HProp} {b o : Nat} {ops : Array Oper} {rest : List Oper} {a : Act} {Q : Exit → Act → World → Prop} {dst : Option Tmp} {t ty T sz n c : Nat} {pos : String} {after : Array Edge} {x y : Operand} {v : Value} {xs : List Value}
/-- A cell of an owned slice is stored. -/
theorem wl_storeS (i : Nat) (hs : Sat w0 w L) (hx : a.eval x = .pointer (some ⟨b, i, none⟩)) (hy : a.eval y = v) (u : Upd (osl T sz (.slice (some ⟨b, 0, none⟩) n c) xs) (osl T sz (.slice (some ⟨b, 0, none⟩) n c) (xs.set i v)) L L')
    (hi : i < xs.length) (hty : (P.info? ty).map (·.size) = some 1) (h0 : v.cells = #[v]) (h1 : v.oneCell' = true)
    (hK : ∀ w', Sat w0 w' L' → wpList P ops Q rest (a.put dst undef) w') : wpList P ops Q (⟨dst, .store ty x y, t, pos, after, none⟩ :: rest) a w := by
  obtain ⟨R', h2, h3⟩ := u
  have h := hs.perm h2
  rcases Sat.osl_cases h with ⟨he, _⟩ | ⟨g', n', cap', cs, he, k1, k2, k3, k4, k5, k6⟩
  · cases he
  · cases he
    have hlen : xs.length ≤ cs.size := by rw [← k5, List.length_take, Array.length_toList]; omega
    refine wpList_store_sat rfl ty x y rfl i v hx hy (by rw [h0]; show i + 1 ≤ cs.size; omega) (by rw [h0]; exact hty) (by rw [h0]; simpa using h1) k6 fun w' hS => hK w' (Sat.perm ?_ h3.symm)
    rw [h0] at hS
    refine Sat.osl_of_pt hS (by rw [List.length_set]; exact k1) k2 (by rw [putsAt_size]; exact k3) k4 ?_
    show (cs.setIfInBounds i v).toList.take _ = _
    rw [Array.toList_setIfInBounds, List.take_set, k5]
end
theorem rfsL_set : ∀ (xs : List RF) (i : Nat) (x x' : RF), xs[i]? = some x → x'.nv = x.nv → ((rfsL xs).set (i * 3) x'.fv).set (i * 3 + 2) x'.wv = rfsL (xs.set i x')
  | [], _, _, _, h, _ => by cases h
  | q :: xs, 0, x, x', h, hn => by
    cases h
    show x'.fv :: q.nv :: x'.wv :: rfsL xs = x'.fv :: x'.nv :: x'.wv :: rfsL xs
    rw [hn]
  | q :: xs, i + 1, x, x', h, hn => by
    have e := rfsL_set xs i x x' (by simpa using h) hn
    show ((q.fv :: q.nv :: q.wv :: rfsL xs).set ((i + 1) * 3) x'.fv).set ((i + 1) * 3 + 2) x'.wv = q.fv :: q.nv :: q.wv :: rfsL (xs.set i x')
    rw [← e, show (i + 1) * 3 = i * 3 + 1 + 1 + 1 by omega, show i * 3 + 1 + 1 + 1 + 2 = i * 3 + 2 + 1 + 1 + 1 by omega]
    rfl
theorem stars_at : ∀ (xs : List RF) (i : Nat) (x : RF), xs[i]? = some x → ∃ G, stars (xs.map rfR) = star (rfR x) G ∧ ∀ x', stars ((xs.set i x').map rfR) = star (rfR x') G
  | [], _, _, h => by cases h
  | q :: xs, 0, x, h => by
    cases h
    exact ⟨stars (xs.map rfR), rfl, fun x' => rfl⟩
  | q :: xs, i + 1, x, h => by
    obtain ⟨G, h1, h2⟩ := stars_at xs i x (by simpa using h)
    refine ⟨star (rfR q) G, ?_, fun x' => ?_⟩
    · show star (rfR q) (stars (xs.map rfR)) = _
      rw [h1, star_left_comm]
    · show star (rfR q) (stars ((xs.set i x').map rfR)) = _
      rw [h2 x', star_left_comm]
section
variable {w0 w : World} {F R : List HProp} {d i : Nat} {D : Med} {fsv fv nv wv v lv bv : Value} {xs : List RF} {x : RF} {g : Bag} {K : Nat}
theorem rf_sync (hx : xs[i]? = some x) (h : Sat w0 w (bsl bv x.f.now :: stars (xs.map rfR) :: R)) : Sat w0 w (stars ((xs.set i ⟨x.f.sync, bv, x.nv, .slice none 0 0, []⟩).map rfR) :: R) := by
  obtain ⟨G, hG, hG'⟩ := stars_at xs i x hx
  rw [hG] at h
  rw [hG' ⟨x.f.sync, bv, x.nv, .slice none 0 0, []⟩]
  have h1 := Sat.star.1 (h.pick pick1)
  unfold rfR at h1
  have h2 := Sat.star.1 h1
  have h3 := Sat.star.1 (h2.pick pick1)
  have h4 : Sat w0 w (bsl x.nv x.f.now :: bsl bv x.f.now :: G :: R) := h3.sub (sub_take pick0 (sub_take pick3 (sub_take pick2 (sub_drop (sub_drop sub_refl)))))
  have t0 : Sat w0 w (stars [] :: bsl x.nv x.f.now :: bsl bv x.f.now :: G :: R) := Sat.emp.2 h4
  have t1 : Sat w0 w (chgs [] :: stars [] :: bsl x.nv x.f.now :: bsl bv x.f.now :: G :: R) := Sat.emp.2 t0
  have t2 : Sat w0 w (stars [chgs []] :: bsl x.nv x.f.now :: bsl bv x.f.now :: G :: R) := Sat.star.2 t1
  have t3 : Sat w0 w (osl 155 3 (.slice none 0 0) [] :: stars [chgs []] :: bsl x.nv x.f.now :: bsl bv x.f.now :: G :: R) := Sat.osl_nil.2 t2
  have t4 : Sat w0 w (stars [osl 155 3 (.slice none 0 0) [], chgs []] :: bsl x.nv x.f.now :: bsl bv x.f.now :: G :: R) := Sat.star.2 t3
  have t5 : Sat w0 w (bsl x.nv x.f.now :: stars [osl 155 3 (.slice none 0 0) [], chgs []] :: bsl bv x.f.now :: G :: R) := t4.sub (sub_take pick1 (sub_take pick0 sub_refl))
  have t6 : Sat w0 w (stars [bsl x.nv x.f.now, osl 155 3 (.slice none 0 0) [], chgs []] :: bsl bv x.f.now :: G :: R) := Sat.star.2 t5
  have t7 : Sat w0 w (bsl bv x.f.now :: stars [bsl x.nv x.f.now, osl 155 3 (.slice none 0 0) [], chgs []] :: G :: R) := t6.sub (sub_take pick1 (sub_take pick0 sub_refl))
  have t8 : Sat w0 w (rfR ⟨x.f.sync, bv, x.nv, .slice none 0 0, []⟩ :: G :: R) := Sat.star.2 t7
  exact Sat.star.2 t8
end
end Go.Proofs.YtmjldaedhmipkaaGreatDoor
/- hoardref06: Sync of a file. -/
namespace Go.Proofs.YtmjldaedhmipkaaGreatDoor
open Go Go.Sl Go.Med Go.MapKept Go.RowKit
set_option linter.unusedVariables false
section
variable {w0 w : World} {F R : List HProp} {d : Nat} {D : Med} {fsv fv nv wv v lv : Value} {xs : List RF} {g : Bag} {K : Nat}
theorem step_file (D : Med) (i : Nat) : D.step.1.file i = D.file i := by unfold Med.file; rw [step_files]
set_option maxRecDepth 20000 in
set_option maxHeartbeats 8000000 in
theorem rsync_c (s : ByteArray) (hl : D.now.length ≤ 1048576) (hlf : D.left ≤ 9223372036854775807) (hf : ∀ i, nget D.now s = some i → i < D.files.length ∧ (D.file i).now.length ≤ 1099511627776) (h : Sat w0 w (DskRep d D :: F)) :
    Calls Tryz.prog 26 #[ptr d, .string s, .bool false] w (Rtn fun v w' => v = errno (D.sync s).2 ∧ Sat w0 w' (DskRep d (D.sync s).1 :: F)) := by
  have hfd := rfind_c s hl h
  obtain ⟨fsv, fv, nv, wv, xs, g, hin, hR⟩ := DskRep.open h
  have Hin := Lib.hid hin; have Hlf := Lib.hid hlf; have Hf := Lib.hid hf
  have e7 : w.cell? ⟨d, 7, none⟩ = some (.bool D.off) := hR.cellP pick0 7 rfl
  clear h hin hl hlf hf
  cases ho : D.off with
  | true =>
    have Ha := Lib.hid (show D.sync s = (D, 12) by unfold Med.sync; rw [ho]; rfl)
    rw [ho] at e7
    clear ho hfd
    go_enter Tryz.func26, Tryz.ntmps26
    go_wp2
    go_ret
    exact ⟨_, rfl, by rw [Ha.out]; rfl, by rw [Ha.out]; exact DskRep.shut Hin.out hR⟩
  | false =>
    rw [ho] at e7
    have Ho := Lib.hid (show ¬ (D.off = true) by rw [ho]; decide)
    clear ho
    cases hg : nget D.now s with
    | none =>
      have Ha := Lib.hid (show D.sync s = (D, 9) by unfold Med.sync; rw [if_neg Ho.out, hg])
      have hwh : D.which s = -1 := by unfold Med.which; rw [hg]
      rw [hwh] at hfd
      clear hg hwh
      go_enter Tryz.func26, Tryz.ntmps26
      go_wp2_with fail
      refine hfd.mono ?_
      rintro ee w1 ⟨v, rfl, rfl, rfl⟩
      clear hfd
      go_wp2
      go_ret
      exact ⟨_, rfl, by rw [Ha.out]; rfl, by rw [Ha.out]; exact DskRep.shut Hin.out hR⟩
    | some i =>
      have hwh : D.which s = (i : Int) := by unfold Med.which; rw [hg]
      rw [hwh] at hfd
      have c1 : ¬ (i : Int) < 0 := by omega
      obtain ⟨hif, hnl⟩ := Hf.out i hg
      have Hg := Lib.hid hg
      clear hg hwh
      have hin2 : DskIn D.step.1 fv nv xs g := ⟨by rw [step_files]; exact Hin.out.files, Hin.out.ok, by rw [step_fast]; exact Hin.out.fast, by rw [step_now]; exact Hin.out.now⟩
      have Hin2 := Lib.hid hin2
      clear hin2
      have hlx : xs.length = D.files.length := by rw [← Hin.out.files, List.length_map]
      rcases Sat.osl_cases (hR.pick pick1) with ⟨_, hx, _⟩ | ⟨fb, fn, fc, cs, rfl, hfn, _⟩
      · have := congrArg List.length hx
        rw [rfsL_len] at this
        simp only [List.length_nil] at this
        omega
      rw [rfsL_len] at hfn
      obtain rfl : fn = xs.length := by omega
      have c2 : (i : Int) < (xs.length : Int) := by omega
      have hq1 : i * 3 < (rfsL xs).length := by rw [rfsL_len]; omega
      have hq2 : ∀ u : Value, i * 3 + 2 < ((rfsL xs).set (i * 3) u).length := fun u => by rw [List.length_set, rfsL_len]; omega
      have Hfl := Lib.hid (show i < D.step.1.files.length by rw [step_files]; exact hif)
      have Hnl := Lib.hid (show (D.step.1.file i).now.length ≤ 1099511627776 by rw [step_file]; exact hnl)
      have Hsf := Lib.hid (step_file D i)
      have hst := rstep_c hR Hlf.out
      clear hlx hfn hif hnl
      go_enter Tryz.func26, Tryz.ntmps26
      go_wp2_with fail
      refine hfd.mono ?_
      rintro ee w1 ⟨v, rfl, rfl, rfl⟩
      clear hfd
      go_wp2_with fail
      refine hst.mono ?_
      clear hst
      rintro ee w2 ⟨v, rfl, rfl, hS⟩
      clear hR e7 c1
      rw [← step_waits] at hS
      cases ht : D.step.2 with
      | false =>
        have Ha := Lib.hid (show D.sync s = (D.step.1, 12) by unfold Med.sync; rw [if_neg Ho.out, Hg.out]; simp only []; rw [if_pos ht])
        clear ht
        go_wp2
        go_ret
        exact ⟨_, rfl, by rw [Ha.out]; rfl, by rw [Ha.out]; exact DskRep.shut Hin2.out hS⟩
      | true =>
        have Ha := Lib.hid (show D.sync s = (D.step.1.setFile i (D.step.1.file i).sync, 0) by unfold Med.sync; rw [if_neg Ho.out, Hg.out]; simp only []; rw [if_neg (by rw [ht]; decide), Hsf.out])
        clear ht Hsf
        generalize D.step.1 = D1 at *
        obtain ⟨x, hx, hxf⟩ := Hin2.out.file Hfl.out
        have Hx := Lib.hid hx; have Hxf := Lib.hid hxf
        have hh := rhere_c i Hfl.out Hin2.out Hnl.out hS
        clear hx hxf
        go_wp2_with fail
        refine hh.mono ?_
        clear hh hS
        rintro ee w3 ⟨v, rfl, hS2, a, n, c, rfl⟩
        go_wp2_with (first
          | ((with_reducible apply at_load); refine ⟨?_⟩; refine wl_load1 (by assumption) (by rfl) (by first | ((repeat (first | with_reducible apply pick0 | with_reducible apply pick_there)); done) | ((repeat (first | apply pick0 | apply pick_there)); done) | fail) (Nat.le_of_ble_eq_true (by rfl)) (by conv => lhs; whnf) (by kernel_rfl) ?_)
          | ((with_reducible apply at_store); refine ⟨?_⟩; refine wl_storeS (b := fb) (i * 3) hS2 (by rfl) (by conv => lhs; whnf) (by first | ((repeat (first | with_reducible apply upd0 | with_reducible apply upd_there)); done) | ((repeat (first | apply upd0 | apply upd_there)); done) | fail) hq1 (by kernel_rfl) rfl rfl ?_; intro w4 hS3)
          | ((with_reducible apply at_store); refine ⟨?_⟩; refine wl_storeS (b := fb) (i * 3 + 2) hS3 (by rfl) (by conv => lhs; whnf) (by first | ((repeat (first | with_reducible apply upd0 | with_reducible apply upd_there)); done) | ((repeat (first | apply upd0 | apply upd_there)); done) | fail) (hq2 _) (by kernel_rfl) rfl rfl ?_; intro w5 hS4))
        go_ret
        refine ⟨_, rfl, by rw [Ha.out]; rfl, ?_⟩
        rw [Ha.out]
        have e : ((rfsL xs).set (i * 3) (.slice a n c)).set (i * 3 + 2) (.slice none 0 0) = rfsL (xs.set i ⟨x.f.sync, .slice a n c, x.nv, .slice none 0 0, []⟩) := rfsL_set xs i x ⟨x.f.sync, .slice a n c, x.nv, .slice none 0 0, []⟩ Hx.out rfl
        rw [e, ← Hxf.out] at hS4
        have h5 := rf_sync Hx.out (hS4.sub (sub_take pick0 (sub_take pick2 (sub_take pick0 (sub_take pick0 (sub_take pick0 (sub_take pick0 sub_refl)))))))
        exact DskRep.shut (D := D1.setFile i (D1.file i).sync) ⟨by rw [List.map_set, Hin2.out.files, ← Hxf.out]; rfl, (fun y hy => by rcases List.mem_or_eq_of_mem_set hy with hy | rfl; exact Hin2.out.ok y hy; rfl), Hin2.out.fast, Hin2.out.now⟩ (h5.sub (sub_take pick1 (sub_take pick1 (sub_take pick0 (sub_take pick0 (sub_take pick0 sub_refl))))))
end
end Go.Proofs.YtmjldaedhmipkaaGreatDoor
/- hoardref06: a file's bytes behind so many changes. -/
namespace Go.Proofs.YtmjldaedhmipkaaGreatDoor
open Go Go.Sl Go.Med Go.MapKept Go.RowKit
set_option linter.unusedVariables false
section
variable {w0 w : World} {F R : List HProp} {d : Nat} {D : Med} {fsv fv nv wv v lv : Value} {xs : List RF} {g : Bag} {K : Nat}
/-- An owned slice, cut. -/
theorem osl_cut {T sz : Nat} {a : Option Addr} {n c k : Nat} {ks : List Value} (h : Sat w0 w (osl T sz (.slice a n c) ks :: R)) (hk : k ≤ n) (hsz : 0 < sz) : Sat w0 w (osl T sz (.slice a k c) (ks.take (k * sz)) :: R) := by
  rcases Sat.osl_cases h with ⟨he, hx, hR⟩ | ⟨b, n', cap', cs, he, h1, h2, h3, h4, h5, h6⟩
  · cases he
    obtain rfl : k = 0 := by omega
    rw [hx, List.take_nil]
    exact h.perm (by rw [hx])
  · cases he
    refine Sat.osl_of_pt h6 ?_ (by omega) h3 h4 ?_
    · rw [List.length_take, h1]
      exact Nat.min_eq_left (Nat.mul_le_mul_right _ hk)
    · rw [← h5, List.take_take, Nat.min_eq_left (Nat.mul_le_mul_right _ hk)]
theorem bsl_cut {a : Option Addr} {n c k : Nat} {l : Bs} (h : Sat w0 w (bsl (.slice a n c) l :: R)) (hk : k ≤ n) : Sat w0 w (bsl (.slice a k c) (l.take k) :: R) := by
  have := osl_cut h hk (by decide)
  rw [Nat.mul_one] at this
  unfold bsl bys
  rw [List.map_take]
  exact this
theorem bsl_sl {l : Bs} (h : Sat w0 w (bsl v l :: R)) : ∃ a c, v = .slice a l.length c ∧ l.length ≤ c ∧ c ≤ 9223372036854775807 ∧ ((a = none ∧ c = 0) ∨ ∃ g, a = some ⟨g, 0, none⟩) := by
  rcases Sat.osl_cases h with ⟨hv, hx, _⟩ | ⟨b, n', cap', cs, hv, hl, hn, hc, hcm, _, _⟩
  · have h5 : (bys l).length = 0 := by rw [hx]; rfl
    rw [bys_len] at h5
    exact ⟨none, 0, by rw [hv, h5], by omega, by omega, .inl ⟨rfl, rfl⟩⟩
  · rw [bys_len, Nat.mul_one] at hl
    exact ⟨_, _, by rw [hv, hl], by omega, hcm, .inr ⟨b, rfl⟩⟩
section
variable {ops : Array Oper} {rest : List Oper} {a : Act} {Q : Exit → Act → World → Prop} {dst : Option Tmp} {t : Nat} {pos : String} {after : Array Edge} {s y : Operand} {x : Value} {l k : Bs} {K : Act → World → Prop} {E : Prop}
/-- Bytes that may be read are put behind bytes of one's own. -/
theorem wl_appB (hs : Sat w0 w (bsl v l :: R)) (hv : a.eval s = v) (hy : a.eval y = x) (hx : rdsl 1 x (bys k) w) (hl : l.length + k.length ≤ 1099511627776)
    (hK : ∀ a' n' c' w', Sat w0 w' (bsl (.slice a' n' c') (l ++ k) :: R) → wpList Tryz.prog ops Q rest (a.put dst (.slice a' n' c')) w') :
    wpList Tryz.prog ops Q (⟨dst, .call { callee := .builtin .append, args := #[s, y], argTypes := #[42, 42] }, t, pos, after, none⟩ :: rest) a w := by
  obtain ⟨i, hi, hz0, hz1, hz2⟩ := info8p
  refine wpList_append (w0 := w0) (by rfl) s y 42 (by rfl) _ i _ Tryz.underlying42 hi hz0 hz1 (by rfl) (by omega) hv hy (bys_one _) hs hx ?_ ?_ ?_
  · rw [bys_len, bys_len]; unfold maxLen; omega
  · rw [bys_len, bys_len, hz2]; omega
  · intro v2 w2 hS2 _
    obtain ⟨a2, n2, c2, rfl, _⟩ := id hS2.rd
    refine hK _ _ _ _ ?_
    unfold bsl bys
    rw [List.map_append]
    exact hS2
theorem eff_appB (hs : Sat w0 w (bsl v l :: R)) (hv : a.eval s = v) (hy : a.eval y = x) (hx : rdsl 1 x (bys k) w) (hl : l.length + k.length ≤ 1099511627776)
    (hK : ∀ a' n' c' w', Sat w0 w' (bsl (.slice a' n' c') (l ++ k) :: R) → K (a.put dst (.slice a' n' c')) w') :
    if Region.wanted ⟨dst, .call { callee := .builtin .append, args := #[s, y], argTypes := #[42, 42] }, t, pos, after, none⟩ (yielded ops a.tmps) = true then
      Oper.wp Tryz.prog ⟨dst, .call { callee := .builtin .append, args := #[s, y], argTypes := #[42, 42] }, t, pos, after, none⟩ a w K Q else E := by
  obtain ⟨i, hi, hz0, hz1, hz2⟩ := info8p
  refine step_append (w0 := w0) (by rfl) s y 42 (by rfl) _ i _ Tryz.underlying42 hi hz0 hz1 (by rfl) (by omega) hv hy (bys_one _) hs hx ?_ ?_ ?_
  · rw [bys_len, bys_len]; unfold maxLen; omega
  · rw [bys_len, bys_len, hz2]; omega
  · intro v2 w2 hS2 _
    obtain ⟨a2, n2, c2, rfl, _⟩ := id hS2.rd
    refine hK _ _ _ _ ?_
    unfold bsl bys
    rw [List.map_append]
    exact hS2
end
theorem chg_at {ws : List (Chg × Value)} {i : Nat} {p : Chg × Value} (h : ws[i]? = some p) : (ws.flatMap chgCells)[i * 3]? = some (.bool p.1.cut) ∧ (ws.flatMap chgCells)[i * 3 + 1]? = some (.int .i64 p.1.n) ∧ (ws.flatMap chgCells)[i * 3 + 2]? = some p.2 :=
  ⟨flat_get chgCells 3 (fun _ => rfl) ws i p 0 h (by decide), flat_get chgCells 3 (fun _ => rfl) ws i p 1 h (by decide), flat_get chgCells 3 (fun _ => rfl) ws i p 2 h (by decide)⟩
theorem chg_len (ws : List (Chg × Value)) : (ws.flatMap chgCells).length = 3 * ws.length := by
  induction ws with
  | nil => rfl
  | cons x l ih => rw [List.flatMap_cons, List.length_append, ih, List.length_cons]; show 3 + 3 * l.length = _; omega
theorem rchg_cells {ws : List (Chg × Value)} {i : Nat} {p : Chg × Value} (h : rdsl 3 v (ws.flatMap chgCells) w) (hi : ws[i]? = some p) :
    ∃ bk off c, v = .slice (some ⟨bk, off, none⟩) ws.length c ∧ w.cell? ⟨bk, off + i * 3, none⟩ = some (.bool p.1.cut) ∧ w.cell? ⟨bk, off + i * 3 + 1, none⟩ = some (.int .i64 p.1.n) ∧ w.cell? ⟨bk, off + i * 3 + 2, none⟩ = some p.2 := by
  obtain ⟨a, n, c, rfl, hl, _⟩ := id h
  rw [chg_len] at hl
  obtain rfl : n = ws.length := by omega
  obtain ⟨h0, h1, h2⟩ := chg_at hi
  obtain ⟨bk, off, rfl, hc⟩ := rdsl_cells h h0
  exact ⟨bk, off, c, rfl, hc _ _ h0, by rw [Nat.add_assoc]; exact hc _ _ h1, by rw [Nat.add_assoc]; exact hc _ _ h2⟩
theorem chg_sl {ws : List (Chg × Value)} (h : rdsl 3 v (ws.flatMap chgCells) w) : ∃ a c, v = .slice a ws.length c := by
  obtain ⟨a, n, c, rfl, hl, _⟩ := h
  rw [chg_len] at hl
  obtain rfl : n = ws.length := by omega
  exact ⟨a, c, rfl⟩
set_option maxRecDepth 20000 in
set_option maxHeartbeats 8000000 in
theorem rbytes_c (f : Fil) (ok : f.Ok K) (ws : List (Chg × Value)) (hws : ws.map (·.1) = f.waits) (n : Nat) (hn : n ≤ f.waits.length) (hwl : f.waits.length ≤ 1048576)
    (r1 : Ro w0 F (rdsl 1 fv (bys f.fast))) (r2 : Ro w0 F (rdsl 3 wv (ws.flatMap chgCells))) (r3 : ∀ p ∈ ws, Ro w0 F (rdsl 1 p.2 (bys p.1.b))) (h : Sat w0 w F) :
    Calls Tryz.prog 95 #[.agg #[fv, nv, wv], .int .i64 n] w (Rtn fun v w' => Sat w0 w' (bsl v (f.at n) :: F) ∧ ∃ a n c, v = .slice a n c) := by
  have Ok := Lib.hid ok; have Hws := Lib.hid hws; have Hn := Lib.hid hn; have Hwl := Lib.hid hwl; have R1 := Lib.hid r1; have R2 := Lib.hid r2; have R3 := Lib.hid r3
  have Hlw := Lib.hid (show ws.length = f.waits.length by rw [← hws, List.length_map])
  obtain ⟨wa, wc, rfl⟩ := chg_sl (r2 _ h)
  obtain ⟨fa, fn, fc, rfl, _⟩ := id (r1 _ h)
  clear ok hws hn hwl r1 r2 r3
  go_enter Tryz.func95, Tryz.ntmps95
  go_wp2_with (first | ((with_reducible apply at_box); refine ⟨?_⟩; refine wl_box (by assumption) (by conv => lhs; whnf) (by conv => lhs; whnf) ?_; intro bB wB hB) | ((with_reducible apply at_load); refine ⟨?_⟩; refine wl_load1 (by assumption) (by rfl) (by first | ((repeat (first | with_reducible apply pick0 | with_reducible apply pick_there)); done) | ((repeat (first | apply pick0 | apply pick_there)); done) | fail) (Nat.le_of_ble_eq_true (by rfl)) (by conv => lhs; whnf) (by kernel_rfl) ?_))
  refine (copy_c hB f.fast (R1.out _ hB.drop) (Nat.le_trans (Ok.out.size 0 (Nat.zero_le _)) (by decide))).mono ?_
  rintro ee w1 ⟨v, rfl, hS0, a0, n0, c0, rfl⟩
  clear hB h
  go_wp2_with fail
  go_loopg [5, 6] n (fun g' bq iq wr => ∃ i : Nat, g' = n - i ∧ i ≤ n ∧ iq = .int .i64 i ∧ Sat w0 wr (bsl bq (f.at i) :: pt bB (.cells #[.slice fa fn fc, nv, .slice wa ws.length wc] 164 (0,0)) :: F))
  case atStart => exact ⟨0, rfl, Nat.zero_le _, rfl, hS0⟩
  case round =>
    obtain ⟨i, rfl, hi, rfl, hS⟩ := hrel
    clear hS0
    obtain ⟨ba, bc, rfl, hbl, hbc, hba⟩ := bsl_sl hS
    by_cases hlt : i < n
    · have hlw := Hlw.out; have hnn := Hn.out; have hww := Hwl.out
      have c1 : (i : Int) < (n : Int) := by omega
      have c2 : (i : Int) < (ws.length : Int) := by omega
      have hwi : IntKind.i64.wrap ((i : Int) + 1) = (i : Int) + 1 := IntWalk.i64_in _ (by omega)
      obtain ⟨p, hp⟩ : ∃ p, ws[i]? = some p := ⟨_, List.getElem?_eq_getElem (show i < ws.length by omega)⟩
      have hpf : f.waits[i]? = some p.1 := by rw [← Hws.out, List.getElem?_map, hp]; rfl
      obtain ⟨bk, off, c, hwe, e0, e1, e2⟩ := rchg_cells (R2.out _ hS.drop.drop) hp
      cases hwe
      have Hlt := Lib.hid hlt; have Hp := Lib.hid hp
      have hsz := Ok.out.size i (by omega)
      have hcut := Ok.out.cuts i p.1 hpf
      have hrp := R3.out p (List.mem_of_getElem? hp)
      have Hrp := Lib.hid hrp
      have Hnx := Lib.hid (f.at_succ i p.1 hpf)
      have hszn := Ok.out.size (i + 1) (by omega)
      rw [Hnx.out] at hszn
      unfold Chg.on at hszn Hnx
      clear hlt hp hpf hrp hlw hnn hww
      obtain ⟨⟨cut, cn, cb⟩, pv⟩ := p
      dsimp only at e0 e1 e2 hcut Hrp Hnx hszn
      cases cut with
      | true =>
        have hcn := hcut rfl
        have c3 : (cn : Int) ≤ (bc : Int) := by omega
        simp only [if_true] at Hnx
        have hS2 := bsl_cut hS hcn
        rw [← Hnx.out] at hS2
        clear hcut hszn
        rcases hba with ⟨rfl, rfl⟩ | ⟨gb, rfl⟩
        · obtain rfl : cn = 0 := by omega
          go_wp2_with ((with_reducible apply at_load); refine ⟨?_⟩; refine wl_load1 (by assumption) (by rfl) (by first | ((repeat (first | with_reducible apply pick0 | with_reducible apply pick_there)); done) | ((repeat (first | apply pick0 | apply pick_there)); done) | fail) (Nat.le_of_ble_eq_true (by rfl)) (by conv => lhs; whnf) (by kernel_rfl) ?_)
          go_roundg (n - (i + 1))
          case measure => have := Hlt.out; omega
          case rel => exact ⟨i + 1, rfl, Nat.succ_le_of_lt Hlt.out, by first | rfl | go_num, hS2⟩
        · go_wp2_with ((with_reducible apply at_load); refine ⟨?_⟩; refine wl_load1 (by assumption) (by rfl) (by first | ((repeat (first | with_reducible apply pick0 | with_reducible apply pick_there)); done) | ((repeat (first | apply pick0 | apply pick_there)); done) | fail) (Nat.le_of_ble_eq_true (by rfl)) (by conv => lhs; whnf) (by kernel_rfl) ?_)
          go_roundg (n - (i + 1))
          case measure => have := Hlt.out; omega
          case rel => exact ⟨i + 1, rfl, Nat.succ_le_of_lt Hlt.out, by first | rfl | go_num, hS2⟩
      | false =>
        simp only [Bool.false_eq_true, if_false] at Hnx hszn
        rw [List.length_append] at hszn
        have Hcell := Lib.hid (show ∀ w', Sat w0 w' F → w'.cell? ⟨bk, off + i * 3 + 2, none⟩ = some pv from fun w' hw' => by
          obtain ⟨bk2, off2, c2, hwe2, _, _, e2⟩ := rchg_cells (R2.out _ hw') Hp.out
          cases hwe2
          exact e2)
        clear hcut
        go_wp2_with ((with_reducible apply at_load); refine ⟨?_⟩; refine wl_load1 (by assumption) (by rfl) (by first | ((repeat (first | with_reducible apply pick0 | with_reducible apply pick_there)); done) | ((repeat (first | apply pick0 | apply pick_there)); done) | fail) (Nat.le_of_ble_eq_true (by rfl)) (by conv => lhs; whnf) (by kernel_rfl) ?_)
        have hS2 := hS.drew
        clear hS
        refine wpL_begin [8, 9] (fun w' => w'.cell? ⟨bB, 2, none⟩ = some (.slice (some ⟨bk, off, none⟩) ws.length wc) ∧ w'.cell? ⟨bk, off + i * 3 + 2, none⟩ = some pv) (by kernel_rfl) ?_
        have hG : World.cell? _ ⟨bB, 2, none⟩ = some (.slice (some ⟨bk, off, none⟩) ws.length wc) ∧ World.cell? _ ⟨bk, off + i * 3 + 2, none⟩ = some pv := ⟨hS2.cellP pick1 2 rfl, Hcell.out _ hS2.drop.drop⟩
        refine rp 0 (hy := (yl_move (by conv => lhs; whnf))) (h := ?_)
        refine rp 2 (hy := (yl_field (by conv => lhs; whnf) (by ((intro wq; go_simp); first | done | (with_reducible rfl))))) (h := ?_)
        refine rt 3 (h := ?_)
        refine rp 4 (hy := (yl_move (by conv => lhs; whnf))) (h := ?_)
        refine rp 5 (hy := (yl_index (by conv => lhs; whnf) (by conv => lhs; whnf) (by ((intro wq; go_simp); first | done | (with_reducible rfl))))) (h := ?_)
        refine rp 6 (hy := (yl_field (by conv => lhs; whnf) (by ((intro wq; go_simp); first | done | (with_reducible rfl))))) (h := ?_)
        refine rt 7 (h := ?_)
        refine rg_eff 1 (by conv => lhs; whnf) (by kernel_rfl) (fun K hK => ?_)
        refine eff_call1 (by kernel_rfl) (by conv => lhs; whnf) ?_
        refine (copy_c hS2 (f.at i) hS2.rd (by omega)).mono ?_
        rintro e w4 ⟨v, rfl, hS4, a4, n4, c4, rfl⟩
        refine hK _ _ (.inr (.inl ⟨hS4.cellP pick2 2 rfl, Hcell.out _ hS4.drop.drop.drop⟩)) ?_
        clear hK hG
        refine rg_eff 8 (by conv => lhs; whnf) (by kernel_rfl) (fun K hK => ?_)
        refine eff_appB hS4 (by conv => lhs; whnf) (by conv => lhs; whnf) (Hrp.out _ hS4.drop.drop.drop) (by omega) ?_
        intro a5 n5 c5 w5 hS5
        refine hK _ _ (.inl rfl) ?_
        refine rp 9 (hy := (yl_assign (by conv => lhs; whnf))) (h := ?_)
        refine wpL_done (by kernel_rfl) ?_
        clear hS4 hS2
        try go_frame
        go_wp2
        rw [← Hnx.out] at hS5
        go_roundg (n - (i + 1))
        case measure => have := Hlt.out; omega
        case rel => exact ⟨i + 1, rfl, Nat.succ_le_of_lt Hlt.out, by first | rfl | go_num, hS5.sub (sub_take pick0 (sub_drop sub_refl))⟩
    · obtain rfl : i = n := by omega
      have c1 : ¬ (i : Int) < (i : Int) := by omega
      clear hlt
      go_wp2
      go_ret
      exact ⟨_, rfl, hS.sub (sub_take pick0 (sub_drop sub_refl)), _, _, _, rfl⟩
end
end Go.Proofs.YtmjldaedhmipkaaGreatDoor
/- hoardref06: what Byte wants: one file taken out, and put back; a store into an owned slice as an effect. -/
namespace Go.Proofs.YtmjldaedhmipkaaGreatDoor
open Go Go.Sl Go.Med Go.MapKept Go.RowKit
set_option linter.unusedVariables false
section
variable {P : Program} {w0 w : World} {L L' : List HProp} {b o : Nat} {ops : Array Oper} {rest : List Oper} {a : Act} {Q : Exit → Act → World → Prop} {dst : Option Tmp} {t ty T sz n c : Nat} {pos : String} {after : Array Edge} {x y : Operand} {v : Value} {xs : List Value} {K : Act → World → Prop} {E : Prop}
/-- A cell of an owned slice is stored, as an effect of a region that draws. -/
theorem eff_storeS (i : Nat) (hs : Sat w0 w L) (hx : a.eval x = .pointer (some ⟨b, i, none⟩)) (hy : a.eval y = v) (u : Upd (osl T sz (.slice (some ⟨b, 0, none⟩) n c) xs) (osl T sz (.slice (some ⟨b, 0, none⟩) n c) (xs.set i v)) L L')
    (hi : i < xs.length) (hty : (P.info? ty).map (·.size) = some 1) (h0 : v.cells = #[v]) (h1 : v.oneCell' = true)
    (hK : ∀ w', Sat w0 w' L' → K (a.put dst undef) w') :
    if Region.wanted ⟨dst, .store ty x y, t, pos, after, none⟩ (yielded ops a.tmps) = true then Oper.wp P ⟨dst, .store ty x y, t, pos, after, none⟩ a w K Q else E := by
  obtain ⟨R', h2, h3⟩ := u
  have h := hs.perm h2
  rcases Sat.osl_cases h with ⟨he, _⟩ | ⟨g', n', cap', cs, he, k1, k2, k3, k4, k5, k6⟩
  · cases he
  · cases he
    have hlen : xs.length ≤ cs.size := by rw [← k5, List.length_take, Array.length_toList]; omega
    refine eff_store k6 hx hy (cs' := cs.setIfInBounds i v) (by rw [h0]; rfl) upd0 (by rw [h0]; show i + 1 ≤ cs.size; omega) (by rw [h0]; exact hty) (by rw [h0]; simpa using h1) fun w' hS => hK w' (Sat.perm ?_ h3.symm)
    refine Sat.osl_of_pt hS (by rw [List.length_set]; exact k1) k2 (by rw [Array.size_setIfInBounds]; exact k3) k4 ?_
    rw [Array.toList_setIfInBounds, List.take_set, k5]
end
section
variable {w0 w : World} {F R : List HProp} {d i : Nat} {D : Med} {fsv fv nv wv v lv bv : Value} {xs : List RF} {x : RF} {g : Bag} {K : Nat}
/-- One file's memory, taken out. -/
theorem rf_out (hx : xs[i]? = some x) (h : Sat w0 w (stars (xs.map rfR) :: R)) : ∃ G : HProp, (∀ x', stars ((xs.set i x').map rfR) = star (rfR x') G) ∧
    Sat w0 w (bsl x.fv x.f.fast :: bsl x.nv x.f.now :: osl 155 3 x.wv (x.ws.flatMap chgCells) :: chgs x.ws :: G :: R) := by
  obtain ⟨G, hG, hG'⟩ := stars_at xs i x hx
  refine ⟨G, hG', ?_⟩
  rw [hG] at h
  have h1 := Sat.star.1 h
  unfold rfR at h1
  have h2 := Sat.star.1 h1
  have h3 := Sat.star.1 (h2.pick pick1)
  have h4 := Sat.star.1 (h3.pick pick1)
  have h5 := Sat.star.1 (h4.pick pick1)
  have h6 := Sat.emp.1 (h5.pick pick1)
  exact h6.sub (sub_take pick3 (sub_take pick2 (sub_take pick1 (sub_take pick0 (sub_take pick0 sub_refl)))))
theorem rf_in {G : HProp} (hG : ∀ x', stars ((xs.set i x').map rfR) = star (rfR x') G) (h : Sat w0 w (bsl x.fv x.f.fast :: bsl x.nv x.f.now :: osl 155 3 x.wv (x.ws.flatMap chgCells) :: chgs x.ws :: G :: R)) :
    Sat w0 w (stars ((xs.set i x).map rfR) :: R) := by
  rw [hG x]
  refine Sat.star.2 ?_
  unfold rfR
  have h0 : Sat w0 w (stars [] :: bsl x.fv x.f.fast :: bsl x.nv x.f.now :: osl 155 3 x.wv (x.ws.flatMap chgCells) :: chgs x.ws :: G :: R) := Sat.emp.2 h
  have h1 : Sat w0 w (stars [chgs x.ws] :: bsl x.fv x.f.fast :: bsl x.nv x.f.now :: osl 155 3 x.wv (x.ws.flatMap chgCells) :: G :: R) := Sat.star.2 (h0.sub (sub_take pick4 (sub_take pick0 sub_refl)))
  have h2 := Sat.star.2 (h1.sub (sub_take pick3 (sub_take pick0 sub_refl)))
  have h3 := Sat.star.2 (h2.sub (sub_take pick2 (sub_take pick0 sub_refl)))
  exact Sat.star.2 (h3.sub (sub_take pick1 (sub_take pick0 sub_refl)))
theorem rfsL_fv : ∀ (xs : List RF) (i : Nat) (x : RF) (u : Value), xs[i]? = some x → (rfsL xs).set (i * 3) u = rfsL (xs.set i { x with fv := u })
  | [], _, _, _, h => by cases h
  | q :: xs, 0, x, u, h => by cases h; rfl
  | q :: xs, i + 1, x, u, h => by
    have e := rfsL_fv xs i x u (by simpa using h)
    show (q.fv :: q.nv :: q.wv :: rfsL xs).set ((i + 1) * 3) u = q.fv :: q.nv :: q.wv :: rfsL (xs.set i { x with fv := u })
    rw [← e, show (i + 1) * 3 = i * 3 + 1 + 1 + 1 by omega]; rfl
theorem rfsL_nv : ∀ (xs : List RF) (i : Nat) (x : RF) (u : Value), xs[i]? = some x → (rfsL xs).set (i * 3 + 1) u = rfsL (xs.set i { x with nv := u })
  | [], _, _, _, h => by cases h
  | q :: xs, 0, x, u, h => by cases h; rfl
  | q :: xs, i + 1, x, u, h => by
    have e := rfsL_nv xs i x u (by simpa using h)
    show (q.fv :: q.nv :: q.wv :: rfsL xs).set ((i + 1) * 3 + 1) u = q.fv :: q.nv :: q.wv :: rfsL (xs.set i { x with nv := u })
    rw [← e, show (i + 1) * 3 + 1 = i * 3 + 1 + 1 + 1 + 1 by omega]; rfl
theorem rfsL_wv : ∀ (xs : List RF) (i : Nat) (x : RF) (u : Value), xs[i]? = some x → (rfsL xs).set (i * 3 + 2) u = rfsL (xs.set i { x with wv := u })
  | [], _, _, _, h => by cases h
  | q :: xs, 0, x, u, h => by cases h; rfl
  | q :: xs, i + 1, x, u, h => by
    have e := rfsL_wv xs i x u (by simpa using h)
    show (q.fv :: q.nv :: q.wv :: rfsL xs).set ((i + 1) * 3 + 2) u = q.fv :: q.nv :: q.wv :: rfsL (xs.set i { x with wv := u })
    rw [← e, show (i + 1) * 3 + 2 = i * 3 + 2 + 1 + 1 + 1 by omega]; rfl
theorem rfsL_same {x x' : RF} (h1 : x'.fv = x.fv) (h2 : x'.nv = x.nv) (h3 : x'.wv = x.wv) : ∀ (xs : List RF) (i : Nat), rfsL (xs.set i x') = rfsL (xs.set i x)
  | [], _ => rfl
  | q :: xs, 0 => by
    show x'.fv :: x'.nv :: x'.wv :: rfsL xs = x.fv :: x.nv :: x.wv :: rfsL xs
    rw [h1, h2, h3]
  | q :: xs, i + 1 => by
    show q.fv :: q.nv :: q.wv :: rfsL (xs.set i x') = q.fv :: q.nv :: q.wv :: rfsL (xs.set i x)
    rw [rfsL_same h1 h2 h3 xs i]
theorem rfsL_alike (f f' : Fil) (fv nv wv : Value) (ws ws' : List (Chg × Value)) (xs : List RF) (i : Nat) : rfsL (xs.set i ⟨f, fv, nv, wv, ws⟩) = rfsL (xs.set i ⟨f', fv, nv, wv, ws'⟩) := rfsL_same (x := ⟨f', fv, nv, wv, ws'⟩) (x' := ⟨f, fv, nv, wv, ws⟩) rfl rfl rfl xs i
theorem chgs_add {ws : List (Chg × Value)} {p : Chg × Value} (h : Sat w0 w (bsl p.2 p.1.b :: chgs ws :: R)) : Sat w0 w (chgs (ws ++ [p]) :: R) := by
  rw [chgs_snoc]
  exact Sat.star.2 (h.sub (sub_take pick1 (sub_take pick0 sub_refl)))
theorem chg_snoc (ws : List (Chg × Value)) (p : Chg × Value) : ws.flatMap chgCells ++ chgCells p = (ws ++ [p]).flatMap chgCells := by rw [List.flatMap_append]; simp
theorem DskIn.set (h : DskIn D fv nv xs g) {i : Nat} {x' : RF} (hok : x'.ws.map (·.1) = x'.f.waits) : DskIn (D.setFile i x'.f) fv nv (xs.set i x') g :=
  ⟨by rw [List.map_set, h.files]; rfl, (fun y hy => by rcases List.mem_or_eq_of_mem_set hy with hy | rfl; exact h.ok y hy; exact hok), h.fast, h.now⟩
theorem DskIn.step (h : DskIn D fv nv xs g) : DskIn D.step.1 fv nv xs g := ⟨by rw [step_files]; exact h.files, h.ok, by rw [step_fast]; exact h.fast, by rw [step_now]; exact h.now⟩
end
end Go.Proofs.YtmjldaedhmipkaaGreatDoor
/- hoardref07.Encode. -/
namespace Go.Proofs.YtmjldaedhmipkaaGreatDoor
open Go Go.Sl Go.Med Go.MapKept Go.RowKit
set_option linter.unusedVariables false
section
variable {P : Program} {w0 w : World} {F R : List HProp} {ops : Array Oper} {rest : List Oper} {a : Act} {Q : Exit → Act → World → Prop} {dst : Option Tmp} {t ty T b o : Nat} {pos : String} {after : Array Edge} {x : Operand} {cs : Array Value} {g : Nat × Bool}
/-- A part of a row is read, whatever the guard. -/
theorem wl_loadG (ks : List Value) (hw : Region.wanted ⟨dst, .load ty x, t, pos, after, some g⟩ (yielded ops a.tmps) = true) (hx : a.eval x = .pointer (some ⟨b, o, none⟩)) (hc : w.rangeAt b o ks)
    {d : TypeDesc} (hu : P.underlying ty = some d) (hd : d.isRow = true) (hi : (P.info? ty).map (·.size) = some ks.length)
    (h : wpList P ops Q rest (a.put dst (.agg ks.toArray)) w) : wpList P ops Q (⟨dst, .load ty x, t, pos, after, some g⟩ :: rest) a w :=
  BigFrame.wpList_want hw fun _ hK => wp_load_mid ty x rfl b o hx ks d hc hu hd hi (hK _ _ h)
theorem at_loadH (h : Stop (wpList P ops Q (⟨dst, .load ty x, t, pos, after, some g⟩ :: rest) a w)) : wpList P ops Q (⟨dst, .load ty x, t, pos, after, some g⟩ :: rest) a w := h.out
end
section
variable {w0 w : World} {F R : List HProp} {bE : Nat} {e : Frm.Ent} {dv : Value}
/-- The cells of an entry in a block. -/
theorem ent_at0 (h : Sat w0 w (pt bE (.cells (entA e dv) 44 (0,0)) :: R)) : w.cell? ⟨bE, 0, none⟩ = some (.int .i64 e.tag) := h.cellAt 0 _ (entA_0 e _)
theorem ent_at33 (hk : e.key.length = 32) (h : Sat w0 w (pt bE (.cells (entA e dv) 44 (0,0)) :: R)) : w.cell? ⟨bE, 33, none⟩ = some dv := h.cellAt 33 _ (entA_33 e _ hk)
theorem ent_atk (hk : e.key.length = 32) (h : Sat w0 w (pt bE (.cells (entA e dv) 44 (0,0)) :: R)) : w.rangeAt bE 1 (bys e.key) := fun j v hj => h.cellAt (1 + j) v (entA_key e dv hk j v (by simpa using hj))
theorem ent_atkey {i : Nat} {c : UInt8} (hk : e.key.length = 32) (hi : e.key[i]? = some c) (h : Sat w0 w (pt bE (.cells (entA e dv) 44 (0,0)) :: R)) : w.cell? ⟨bE, 1 + i, none⟩ = some (.int .u8 c.toNat) :=
  ent_atk hk h i _ (by unfold bys; rw [List.getElem?_map, hi]; rfl)
set_option maxRecDepth 20000 in
set_option maxHeartbeats 4000000 in
theorem rencode2_c (e : Frm.Ent) (hk : e.key.length = 32) (da : Option Addr) (dc : Nat) (hd : Ro w0 F (rdsl 1 (.slice da e.data.length dc) (bys e.data))) (t2 : e.tag = 2) (hz : e.key = Frm.zero32) (h0e : e.data.length = 0) (h : Sat w0 w F) :
    Calls Tryz.prog 72 #[.agg (entA e (.slice da e.data.length dc))] w (Rtn fun v w' => ∃ bv, v = .tuple #[bv, errno (Frm.encode e).2] ∧ (∃ a n c, bv = .slice a n c) ∧ Sat w0 w' (bsl bv (Frm.encode e).1 :: F)) := by
  have Hk := Lib.hid hk; have Hd := Lib.hid hd
  have hnk := eqIn_zero e.key hk
  have hks : (bys e.key).length = 32 := by rw [bys_len, hk]
  have Hks := Lib.hid hks
  clear hd hks
  go_enter Tryz.func72, Tryz.ntmps72
  go_wp2_with (first | ((with_reducible apply at_boxE); refine ⟨?_⟩; refine wl_boxE (by assumption) (by rfl) ?_; intro bX wX hX) | (with_reducible apply at_load))
  refine ⟨?_⟩
  have f0 := ent_at0 hX
  have f33 := ent_at33 hk hX
  have fk := ent_atk hk hX
  have Fk := Lib.hid fk
  clear h hk fk
  have h0i : decide (0 < e.data.length) = false := by rw [decide_eq_false_iff_not]; omega
  have h0j : ¬ 0 < e.data.length := by omega
  rw [t2] at f0
  have hzd : decide (e.key = Frm.zero32) = true := decide_eq_true hz
  have Hch := Lib.hid (show Frm.check e = 0 by unfold Frm.check; simp [t2, hz, h0e])
  have Hdl := Lib.hid (show e.data.length ≤ 16384 by omega)
  have HFIN : Hid (∀ B0 N8, B0 = [(2 : UInt8)] ++ e.data → B0.length + 8 = N8 → Frm.le N8 4 ++ B0 = Frm.body e) := fun B0 N8 h1 h2 => by
    have h3 : Frm.size e = 9 := by unfold Frm.size; rw [Hch.out]; simp [t2]
    have h4 : N8 = 9 := by rw [← h2, h1]; simp [h0e]
    unfold Frm.body
    rw [h3, h4, h1, t2]; rfl
  have HR0l := Lib.hid (show [(2 : UInt8)].length ≤ 33 by decide)
  have h1i : decide (16384 < (e.data.length : Int)) = false := by rw [decide_eq_false_iff_not]; omega
  have Hz := Lib.hid hz
  clear hz h0e
  go_wp2_with (first
    | ((with_reducible apply at_loadH); refine ⟨?_⟩; refine wl_loadG (b := bX) (o := 1) (bys e.key) (by rfl) (by rfl) Fk.out Tryz.underlying41 rfl (by rw [Hks.out]; kernel_rfl) ?_)
    | ((with_reducible apply at_build1); refine ⟨?_⟩; refine wl_build1 (e := 5) (sz := 1) (by' := 1) (by kernel_rfl) hX (by rfl) (cs := #[.int .u8 2]) rfl rfl (Nat.le_of_ble_eq_true (by rfl)) ?_; intro bN wN hN))
  have f0 := ent_at0 (hN.pick pick1)
  rw [t2] at f0
  have Ht2 := Lib.hid t2
  clear t2
  have hS : Sat w0 _ (bsl (.slice (some ⟨bN, 0, none⟩) 1 1) [(2 : UInt8)] :: pt bX (.cells (entA e (.slice da e.data.length dc)) 44 (0,0)) :: F) := Sat.osl_of_pt hN rfl (Nat.le_refl _) (Nat.le_refl _) (by decide) rfl
  clear hX hN
  obtain ⟨R0, hR0⟩ : ∃ R0, R0 = [(2 : UInt8)] := ⟨_, rfl⟩
  rw [← hR0] at hS HFIN HR0l
  clear hR0
  go_wp2_with fail
  go_loopg [4, 5] 0 (fun g bq iq wr => bq = .slice (some ⟨bN, 0, none⟩) 1 1 ∧ iq = .int .i64 0 ∧ Sat w0 wr (bsl (.slice (some ⟨bN, 0, none⟩) 1 1) R0 :: pt bX (.cells (entA e (.slice da e.data.length dc)) 44 (0,0)) :: F))
  case atStart => exact ⟨rfl, rfl, hS⟩
  case round =>
    obtain ⟨rfl, rfl, hS⟩ := hrel
    have f0 := ent_at0 (hS.pick pick1)
    rw [Ht2.out] at f0
    have f33 := ent_at33 Hk.out (hS.pick pick1)
    have f33 := ent_at33 Hk.out (hS.pick pick1)
    go_wp2_with ((with_reducible apply at_append); refine ⟨?_⟩; refine wl_appB hS (by conv => lhs; whnf) (by conv => lhs; whnf) (Hd.out _ hS.drop.drop) (by have := HR0l.out; have := Hdl.out; omega) ?_; intro a1 n1 c1 w1 hS1)
    clear f33 hS
    have hb0 : ∃ B0, B0 = R0 ++ e.data := ⟨_, rfl⟩
    obtain ⟨B0, hb0⟩ := hb0
    rw [← hb0] at hS1
    have Hb0 := Lib.hid hb0
    have HB0l := Lib.hid (show B0.length ≤ 16417 by rw [hb0, List.length_append]; have := HR0l.out; have := Hdl.out; omega)
    clear hb0
    obtain ⟨a1', c1', hv1, _⟩ := bsl_sl hS1
    cases hv1
    have hput := rput_c (B0.length + 8) 4 (by have := HB0l.out; omega) (by decide) (by decide) hS1
    have hw8 : IntKind.i64.wrap ((B0.length : Int) + 8) = ((B0.length + 8 : Nat) : Int) := by have := HB0l.out; exact IntWalk.i64_in _ (by omega)
    have hw9 : ((B0.length + 8 : Nat) : Int) % 18446744073709551616 = ((B0.length + 8 : Nat) : Int) := by have := HB0l.out; omega
    have hw8b : wrap64 ((B0.length : Int) + 8) = ((B0.length + 8 : Nat) : Int) := by rw [← IntWalk.i64_left]; exact hw8
    have hw9b : IntKind.u64.wrap ((B0.length + 8 : Nat) : Int) = ((B0.length + 8 : Nat) : Int) := hw9
    rw [show ((4 : Nat) : Int) = 4 from rfl] at hput
    generalize hN8 : B0.length + 8 = N8 at *
    have HN8 := Lib.hid hN8
    clear hN8
    go_wp2_with fail
    simp only [hw8b, hw9b]
    refine hput.mono ?_
    clear hput hw8 hw9 hw8b hw9b
    rintro ee w2 ⟨v, rfl, hS2, a2, n2, c2, rfl⟩
    clear hS1
    go_wp2_with ((with_reducible apply at_append); refine ⟨?_⟩; refine wl_appB hS2 (by conv => lhs; whnf) (by conv => lhs; whnf) (Sat.rd (hS2.pick pick1)) (by rw [Frm.le_len]; have := HB0l.out; omega) ?_; intro a3 n3 c3 w3 hS3)
    clear hS2
    obtain ⟨B1, hb1⟩ : ∃ B1, B1 = Frm.le N8 4 ++ B0 := ⟨_, rfl⟩
    rw [← hb1] at hS3
    have HB1l := Lib.hid (show B1.length ≤ 16421 by rw [hb1, List.length_append, Frm.le_len]; have := HB0l.out; omega)
    have Hbody := Lib.hid (show B1 = Frm.body e by rw [hb1]; exact HFIN.out B0 N8 Hb0.out HN8.out)
    clear hb1
    have hsum := rsum_c B1 (Sat.rd hS3) (by have := HB1l.out; omega)
    have hcl := Frm.crc_lt B1
    have hput := rput_c (Frm.crc B1) 4 (by omega) (by decide) (by decide) hS3
    rw [show ((4 : Nat) : Int) = 4 from rfl] at hput
    generalize hC : Frm.crc B1 = C at *
    have HC := Lib.hid hC
    have hw9 : (C : Int) % 18446744073709551616 = (C : Int) := by omega
    have hw9b : IntKind.u64.wrap (C : Int) = (C : Int) := hw9
    clear hC hcl
    go_wp2_with fail
    refine hsum.mono ?_
    clear hsum
    rintro ee w4 ⟨v, rfl, rfl, rfl⟩
    go_wp2_with fail
    refine hput.mono ?_
    clear hput hw9 hw9b
    rintro ee w4 ⟨v, rfl, hS4, a4, n4, c4, rfl⟩
    clear hS3
    go_wp2_with ((with_reducible apply at_append); refine ⟨?_⟩; refine wl_appB hS4 (by conv => lhs; whnf) (by conv => lhs; whnf) (Sat.rd (hS4.pick pick1)) (by rw [Frm.le_len]; have := HB1l.out; omega) ?_; intro a5 n5 c5 w5 hS5)
    clear hS4
    go_ret2
    have hen : Frm.encode e = (Frm.le C 4 ++ B1, 0) := by unfold Frm.encode; rw [if_neg (by rw [Hch.out]; simp), ← Hbody.out, HC.out]
    exact ⟨_, rfl, .slice a5 n5 c5, by rw [hen]; rfl, ⟨_, _, _, rfl⟩, by rw [hen]; exact hS5.sub (sub_take pick0 (sub_drop (sub_drop (sub_drop sub_refl))))⟩
end
end Go.Proofs.YtmjldaedhmipkaaGreatDoor
/- hoardref07.Encode: an entry with a key. -/
namespace Go.Proofs.YtmjldaedhmipkaaGreatDoor
open Go Go.Sl Go.Med Go.MapKept Go.RowKit
set_option linter.unusedVariables false
section
variable {w0 w : World} {F R : List HProp} {bE : Nat} {e : Frm.Ent} {dv : Value}
set_option maxRecDepth 20000 in
set_option maxHeartbeats 4000000 in
theorem rencode0_c (e : Frm.Ent) (hk : e.key.length = 32) (da : Option Addr) (dc : Nat) (hd : Ro w0 F (rdsl 1 (.slice da e.data.length dc) (bys e.data))) (hT : e.tag = 0) (hsz : ¬ 16384 < e.data.length) (h : Sat w0 w F) :
    Calls Tryz.prog 72 #[.agg (entA e (.slice da e.data.length dc))] w (Rtn fun v w' => ∃ bv, v = .tuple #[bv, errno (Frm.encode e).2] ∧ (∃ a n c, bv = .slice a n c) ∧ Sat w0 w' (bsl bv (Frm.encode e).1 :: F)) := by
  have Hk := Lib.hid hk; have Hd := Lib.hid hd
  have hnk := eqIn_zero e.key hk
  have hks : (bys e.key).length = 32 := by rw [bys_len, hk]
  have Hks := Lib.hid hks
  clear hd hks
  go_enter Tryz.func72, Tryz.ntmps72
  go_wp2_with (first | ((with_reducible apply at_boxE); refine ⟨?_⟩; refine wl_boxE (by assumption) (by rfl) ?_; intro bX wX hX) | (with_reducible apply at_load))
  refine ⟨?_⟩
  have f0 := ent_at0 hX
  have f33 := ent_at33 hk hX
  have fk := ent_atk hk hX
  have Fk := Lib.hid fk
  clear h hk fk
  rw [hT] at f0
  have HT := Lib.hid hT
  clear hT hnk
  have Hch := Lib.hid (show Frm.check e = 0 by unfold Frm.check; simp [HT.out, hsz])
  have Hdl := Lib.hid (show e.data.length ≤ 16384 by omega)
  have HFIN : Hid (∀ B0 N8, B0 = ([(0 : UInt8)] ++ e.key) ++ e.data → B0.length + 8 = N8 → Frm.le N8 4 ++ B0 = Frm.body e) := fun B0 N8 h1 h2 => by
    have h3 : Frm.size e = 41 + e.data.length := by unfold Frm.size; rw [Hch.out]; simp [HT.out]
    have h4 : N8 = 41 + e.data.length := by rw [← h2, h1]; simp [Hk.out]; omega
    unfold Frm.body
    rw [h3, h4, h1, HT.out]; simp
  have HR0l := Lib.hid (show ([(0 : UInt8)] ++ e.key).length ≤ 33 by simp [Hk.out])
  have h1i : decide (16384 < (e.data.length : Int)) = false := by rw [decide_eq_false_iff_not]; omega
  clear hsz
  go_wp2_with ((with_reducible apply at_build1); refine ⟨?_⟩; refine wl_build1 (e := 5) (sz := 1) (by' := 1) (by kernel_rfl) hX (by rfl) (cs := #[.int .u8 0]) rfl rfl (Nat.le_of_ble_eq_true (by rfl)) ?_; intro bN wN hN)
  have hS0 : Sat w0 wN (bsl (.slice (some ⟨bN, 0, none⟩) 1 1) ([(0 : UInt8)] ++ e.key.take 0) :: pt bX (.cells (entA e (.slice da e.data.length dc)) 44 (0,0)) :: F) := by rw [List.take_zero]; exact Sat.osl_of_pt hN rfl (Nat.le_refl _) (Nat.le_refl _) (by decide) rfl
  clear hX hN f0 f33
  go_wp2_with fail
  go_loopg [4, 5] 32 (fun g bq iq wr => ∃ i : Nat, g = 32 - i ∧ i ≤ 32 ∧ iq = .int .i64 i ∧ Sat w0 wr (bsl bq ([(0 : UInt8)] ++ e.key.take i) :: pt bX (.cells (entA e (.slice da e.data.length dc)) 44 (0,0)) :: F))
  case atStart => exact ⟨0, rfl, by decide, rfl, hS0⟩
  case round =>
    obtain ⟨i, rfl, hi, rfl, hS⟩ := hrel
    clear hS0
    obtain ⟨ba, bn, bc, rfl, _⟩ := id (Sat.rd hS)
    have f0 := ent_at0 (hS.pick pick1)
    rw [HT.out] at f0
    by_cases hlt : i < 32
    · have c1 : (i : Int) < 32 := by omega
      have hwi : IntKind.i64.wrap ((i : Int) + 1) = (i : Int) + 1 := IntWalk.i64_in _ (by omega)
      obtain ⟨cc, hcc⟩ : ∃ cc, e.key[i]? = some cc := ⟨_, List.getElem?_eq_getElem (by rw [Hk.out]; exact hlt)⟩
      have fk := ent_atkey Hk.out hcc (hS.pick pick1)
      have Hnx := Lib.hid (show [(0 : UInt8)] ++ e.key.take (i + 1) = ([(0 : UInt8)] ++ e.key.take i) ++ [cc] by rw [List.take_add_one, hcc]; simp)
      have hlen : (bys ([(0 : UInt8)] ++ e.key.take i)).length ≤ 2147483648 := by rw [bys_len, List.length_append, List.length_take]; simp; omega
      have Hlt := Lib.hid hlt
      clear hcc hlt
      have hSo : Sat w0 wr (osl 5 1 (.slice ba bn bc) (bys ([(0 : UInt8)] ++ e.key.take i)) :: pt bX (.cells (entA e (.slice da e.data.length dc)) 44 (0,0)) :: F) := hS
      generalize hB : [(0 : UInt8)] ++ e.key.take i = B at *
      clear hS
      go_wp2_with (first
        | ((with_reducible apply at_build1); refine ⟨?_⟩; refine wl_build1 (e := 5) (sz := 1) (by' := 1) (by kernel_rfl) hSo (by rfl) (cs := #[.int .u8 cc.toNat]) rfl rfl (Nat.le_of_ble_eq_true (by rfl)) ?_; intro bM wM hM)
        | ((with_reducible apply at_append); refine ⟨?_⟩; refine wl_app 5 1 1 (by kernel_rfl) hM (by rfl) (by rfl) (pick_there pick0) pick0 (by rfl) (Nat.le_refl 1) (by rfl) hlen (by show 1 ≤ 65536; decide) (by decide) (by conv => lhs; whnf) ?_; intro bA nA cA wA hA))
      go_roundg (32 - (i + 1))
      case measure => have := Hlt.out; omega
      case rel =>
        refine ⟨i + 1, rfl, Nat.succ_le_of_lt Hlt.out, by first | rfl | go_num, ?_⟩
        rw [Hnx.out]
        have e1 : bys (B ++ [cc]) = bys B ++ [Value.int .u8 cc.toNat] := by unfold bys; rw [List.map_append]; rfl
        unfold bsl
        rw [e1]
        exact hA
    · obtain rfl : i = 32 := by omega
      have c1 : ¬ ((32 : Nat) : Int) < 32 := by decide
      rw [List.take_of_length_le (by rw [Hk.out]; exact Nat.le_refl _)] at hS
      clear hlt hi
      obtain ⟨R0, hR0⟩ : ∃ R0, R0 = [(0 : UInt8)] ++ e.key := ⟨_, rfl⟩
      rw [← hR0] at hS HFIN HR0l
      clear hR0
      have f33 := ent_at33 Hk.out (hS.pick pick1)
      go_wp2_with ((with_reducible apply at_append); refine ⟨?_⟩; refine wl_appB hS (by conv => lhs; whnf) (by conv => lhs; whnf) (Hd.out _ hS.drop.drop) (by have := HR0l.out; have := Hdl.out; omega) ?_; intro a1 n1 c1 w1 hS1)
      clear f33 hS
      have hb0 : ∃ B0, B0 = R0 ++ e.data := ⟨_, rfl⟩
      obtain ⟨B0, hb0⟩ := hb0
      rw [← hb0] at hS1
      have Hb0 := Lib.hid hb0
      have HB0l := Lib.hid (show B0.length ≤ 16417 by rw [hb0, List.length_append]; have := HR0l.out; have := Hdl.out; omega)
      clear hb0
      obtain ⟨a1', c1', hv1, _⟩ := bsl_sl hS1
      cases hv1
      have hput := rput_c (B0.length + 8) 4 (by have := HB0l.out; omega) (by decide) (by decide) hS1
      have hw8 : IntKind.i64.wrap ((B0.length : Int) + 8) = ((B0.length + 8 : Nat) : Int) := by have := HB0l.out; exact IntWalk.i64_in _ (by omega)
      have hw9 : ((B0.length + 8 : Nat) : Int) % 18446744073709551616 = ((B0.length + 8 : Nat) : Int) := by have := HB0l.out; omega
      have hw8b : wrap64 ((B0.length : Int) + 8) = ((B0.length + 8 : Nat) : Int) := by rw [← IntWalk.i64_left]; exact hw8
      have hw9b : IntKind.u64.wrap ((B0.length + 8 : Nat) : Int) = ((B0.length + 8 : Nat) : Int) := hw9
      rw [show ((4 : Nat) : Int) = 4 from rfl] at hput
      generalize hN8 : B0.length + 8 = N8 at *
      have HN8 := Lib.hid hN8
      clear hN8
      go_wp2_with fail
      simp only [hw8b, hw9b]
      refine hput.mono ?_
      clear hput hw8 hw9 hw8b hw9b
      rintro ee w2 ⟨v, rfl, hS2, a2, n2, c2, rfl⟩
      clear hS1
      go_wp2_with ((with_reducible apply at_append); refine ⟨?_⟩; refine wl_appB hS2 (by conv => lhs; whnf) (by conv => lhs; whnf) (Sat.rd (hS2.pick pick1)) (by rw [Frm.le_len]; have := HB0l.out; omega) ?_; intro a3 n3 c3 w3 hS3)
      clear hS2
      obtain ⟨B1, hb1⟩ : ∃ B1, B1 = Frm.le N8 4 ++ B0 := ⟨_, rfl⟩
      rw [← hb1] at hS3
      have HB1l := Lib.hid (show B1.length ≤ 16421 by rw [hb1, List.length_append, Frm.le_len]; have := HB0l.out; omega)
      have Hbody := Lib.hid (show B1 = Frm.body e by rw [hb1]; exact HFIN.out B0 N8 Hb0.out HN8.out)
      clear hb1
      have hsum := rsum_c B1 (Sat.rd hS3) (by have := HB1l.out; omega)
      have hcl := Frm.crc_lt B1
      have hput := rput_c (Frm.crc B1) 4 (by omega) (by decide) (by decide) hS3
      rw [show ((4 : Nat) : Int) = 4 from rfl] at hput
      generalize hC : Frm.crc B1 = C at *
      have HC := Lib.hid hC
      have hw9 : (C : Int) % 18446744073709551616 = (C : Int) := by omega
      have hw9b : IntKind.u64.wrap (C : Int) = (C : Int) := hw9
      clear hC hcl
      go_wp2_with fail
      refine hsum.mono ?_
      clear hsum
      rintro ee w4 ⟨v, rfl, rfl, rfl⟩
      go_wp2_with fail
      refine hput.mono ?_
      clear hput hw9 hw9b
      rintro ee w4 ⟨v, rfl, hS4, a4, n4, c4, rfl⟩
      clear hS3
      go_wp2_with ((with_reducible apply at_append); refine ⟨?_⟩; refine wl_appB hS4 (by conv => lhs; whnf) (by conv => lhs; whnf) (Sat.rd (hS4.pick pick1)) (by rw [Frm.le_len]; have := HB1l.out; omega) ?_; intro a5 n5 c5 w5 hS5)
      clear hS4
      go_ret2
      have hen : Frm.encode e = (Frm.le C 4 ++ B1, 0) := by unfold Frm.encode; rw [if_neg (by rw [Hch.out]; simp), ← Hbody.out, HC.out]
      exact ⟨_, rfl, .slice a5 n5 c5, by rw [hen]; rfl, ⟨_, _, _, rfl⟩, by rw [hen]; exact hS5.sub (sub_take pick0 (sub_drop (sub_drop (sub_drop sub_refl))))⟩
end
end Go.Proofs.YtmjldaedhmipkaaGreatDoor
/- hoardref07.Encode: an entry with a key, without data. -/
namespace Go.Proofs.YtmjldaedhmipkaaGreatDoor
open Go Go.Sl Go.Med Go.MapKept Go.RowKit
set_option linter.unusedVariables false
section
variable {w0 w : World} {F R : List HProp} {bE : Nat} {e : Frm.Ent} {dv : Value}
set_option maxRecDepth 20000 in
set_option maxHeartbeats 4000000 in
theorem rencode1_c (e : Frm.Ent) (hk : e.key.length = 32) (da : Option Addr) (dc : Nat) (hd : Ro w0 F (rdsl 1 (.slice da e.data.length dc) (bys e.data))) (hT : e.tag = 1) (hsz : e.data.length = 0) (h : Sat w0 w F) :
    Calls Tryz.prog 72 #[.agg (entA e (.slice da e.data.length dc))] w (Rtn fun v w' => ∃ bv, v = .tuple #[bv, errno (Frm.encode e).2] ∧ (∃ a n c, bv = .slice a n c) ∧ Sat w0 w' (bsl bv (Frm.encode e).1 :: F)) := by
  have Hk := Lib.hid hk; have Hd := Lib.hid hd
  have hnk := eqIn_zero e.key hk
  have hks : (bys e.key).length = 32 := by rw [bys_len, hk]
  have Hks := Lib.hid hks
  clear hd hks
  go_enter Tryz.func72, Tryz.ntmps72
  go_wp2_with (first | ((with_reducible apply at_boxE); refine ⟨?_⟩; refine wl_boxE (by assumption) (by rfl) ?_; intro bX wX hX) | (with_reducible apply at_load))
  refine ⟨?_⟩
  have f0 := ent_at0 hX
  have f33 := ent_at33 hk hX
  have fk := ent_atk hk hX
  have Fk := Lib.hid fk
  clear h hk fk
  rw [hT] at f0
  have HT := Lib.hid hT
  clear hT hnk
  have h0i : decide (0 < e.data.length) = false := by rw [decide_eq_false_iff_not]; omega
  have h0j : ¬ 0 < e.data.length := by omega
  have Hch := Lib.hid (show Frm.check e = 0 by unfold Frm.check; simp [HT.out, hsz])
  have Hdl := Lib.hid (show e.data.length ≤ 16384 by omega)
  have HFIN : Hid (∀ B0 N8, B0 = ([(1 : UInt8)] ++ e.key) ++ e.data → B0.length + 8 = N8 → Frm.le N8 4 ++ B0 = Frm.body e) := fun B0 N8 h1 h2 => by
    have h3 : Frm.size e = 41 + e.data.length := by unfold Frm.size; rw [Hch.out]; simp [HT.out]
    have h4 : N8 = 41 + e.data.length := by rw [← h2, h1]; simp [Hk.out]; omega
    unfold Frm.body
    rw [h3, h4, h1, HT.out]; simp
  have HR0l := Lib.hid (show ([(1 : UInt8)] ++ e.key).length ≤ 33 by simp [Hk.out])
  have h1i : decide (16384 < (e.data.length : Int)) = false := by rw [decide_eq_false_iff_not]; omega
  clear hsz
  go_wp2_with ((with_reducible apply at_build1); refine ⟨?_⟩; refine wl_build1 (e := 5) (sz := 1) (by' := 1) (by kernel_rfl) hX (by rfl) (cs := #[.int .u8 1]) rfl rfl (Nat.le_of_ble_eq_true (by rfl)) ?_; intro bN wN hN)
  have hS0 : Sat w0 wN (bsl (.slice (some ⟨bN, 0, none⟩) 1 1) ([(1 : UInt8)] ++ e.key.take 0) :: pt bX (.cells (entA e (.slice da e.data.length dc)) 44 (0,0)) :: F) := by rw [List.take_zero]; exact Sat.osl_of_pt hN rfl (Nat.le_refl _) (Nat.le_refl _) (by decide) rfl
  clear hX hN f0 f33
  go_wp2_with fail
  go_loopg [4, 5] 32 (fun g bq iq wr => ∃ i : Nat, g = 32 - i ∧ i ≤ 32 ∧ iq = .int .i64 i ∧ Sat w0 wr (bsl bq ([(1 : UInt8)] ++ e.key.take i) :: pt bX (.cells (entA e (.slice da e.data.length dc)) 44 (0,0)) :: F))
  case atStart => exact ⟨0, rfl, by decide, rfl, hS0⟩
  case round =>
    obtain ⟨i, rfl, hi, rfl, hS⟩ := hrel
    clear hS0
    obtain ⟨ba, bn, bc, rfl, _⟩ := id (Sat.rd hS)
    have f0 := ent_at0 (hS.pick pick1)
    rw [HT.out] at f0
    by_cases hlt : i < 32
    · have c1 : (i : Int) < 32 := by omega
      have hwi : IntKind.i64.wrap ((i : Int) + 1) = (i : Int) + 1 := IntWalk.i64_in _ (by omega)
      obtain ⟨cc, hcc⟩ : ∃ cc, e.key[i]? = some cc := ⟨_, List.getElem?_eq_getElem (by rw [Hk.out]; exact hlt)⟩
      have fk := ent_atkey Hk.out hcc (hS.pick pick1)
      have Hnx := Lib.hid (show [(1 : UInt8)] ++ e.key.take (i + 1) = ([(1 : UInt8)] ++ e.key.take i) ++ [cc] by rw [List.take_add_one, hcc]; simp)
      have hlen : (bys ([(1 : UInt8)] ++ e.key.take i)).length ≤ 2147483648 := by rw [bys_len, List.length_append, List.length_take]; simp; omega
      have Hlt := Lib.hid hlt
      clear hcc hlt
      have hSo : Sat w0 wr (osl 5 1 (.slice ba bn bc) (bys ([(1 : UInt8)] ++ e.key.take i)) :: pt bX (.cells (entA e (.slice da e.data.length dc)) 44 (0,0)) :: F) := hS
      generalize hB : [(1 : UInt8)] ++ e.key.take i = B at *
      clear hS
      go_wp2_with (first
        | ((with_reducible apply at_build1); refine ⟨?_⟩; refine wl_build1 (e := 5) (sz := 1) (by' := 1) (by kernel_rfl) hSo (by rfl) (cs := #[.int .u8 cc.toNat]) rfl rfl (Nat.le_of_ble_eq_true (by rfl)) ?_; intro bM wM hM)
        | ((with_reducible apply at_append); refine ⟨?_⟩; refine wl_app 5 1 1 (by kernel_rfl) hM (by rfl) (by rfl) (pick_there pick0) pick0 (by rfl) (Nat.le_refl 1) (by rfl) hlen (by show 1 ≤ 65536; decide) (by decide) (by conv => lhs; whnf) ?_; intro bA nA cA wA hA))
      go_roundg (32 - (i + 1))
      case measure => have := Hlt.out; omega
      case rel =>
        refine ⟨i + 1, rfl, Nat.succ_le_of_lt Hlt.out, by first | rfl | go_num, ?_⟩
        rw [Hnx.out]
        have e1 : bys (B ++ [cc]) = bys B ++ [Value.int .u8 cc.toNat] := by unfold bys; rw [List.map_append]; rfl
        unfold bsl
        rw [e1]
        exact hA
    · obtain rfl : i = 32 := by omega
      have c1 : ¬ ((32 : Nat) : Int) < 32 := by decide
      rw [List.take_of_length_le (by rw [Hk.out]; exact Nat.le_refl _)] at hS
      clear hlt hi
      obtain ⟨R0, hR0⟩ : ∃ R0, R0 = [(1 : UInt8)] ++ e.key := ⟨_, rfl⟩
      rw [← hR0] at hS HFIN HR0l
      clear hR0
      have f33 := ent_at33 Hk.out (hS.pick pick1)
      go_wp2_with ((with_reducible apply at_append); refine ⟨?_⟩; refine wl_appB hS (by conv => lhs; whnf) (by conv => lhs; whnf) (Hd.out _ hS.drop.drop) (by have := HR0l.out; have := Hdl.out; omega) ?_; intro a1 n1 c1 w1 hS1)
      clear f33 hS
      have hb0 : ∃ B0, B0 = R0 ++ e.data := ⟨_, rfl⟩
      obtain ⟨B0, hb0⟩ := hb0
      rw [← hb0] at hS1
      have Hb0 := Lib.hid hb0
      have HB0l := Lib.hid (show B0.length ≤ 16417 by rw [hb0, List.length_append]; have := HR0l.out; have := Hdl.out; omega)
      clear hb0
      obtain ⟨a1', c1', hv1, _⟩ := bsl_sl hS1
      cases hv1
      have hput := rput_c (B0.length + 8) 4 (by have := HB0l.out; omega) (by decide) (by decide) hS1
      have hw8 : IntKind.i64.wrap ((B0.length : Int) + 8) = ((B0.length + 8 : Nat) : Int) := by have := HB0l.out; exact IntWalk.i64_in _ (by omega)
      have hw9 : ((B0.length + 8 : Nat) : Int) % 18446744073709551616 = ((B0.length + 8 : Nat) : Int) := by have := HB0l.out; omega
      have hw8b : wrap64 ((B0.length : Int) + 8) = ((B0.length + 8 : Nat) : Int) := by rw [← IntWalk.i64_left]; exact hw8
      have hw9b : IntKind.u64.wrap ((B0.length + 8 : Nat) : Int) = ((B0.length + 8 : Nat) : Int) := hw9
      rw [show ((4 : Nat) : Int) = 4 from rfl] at hput
      generalize hN8 : B0.length + 8 = N8 at *
      have HN8 := Lib.hid hN8
      clear hN8
      go_wp2_with fail
      simp only [hw8b, hw9b]
      refine hput.mono ?_
      clear hput hw8 hw9 hw8b hw9b
      rintro ee w2 ⟨v, rfl, hS2, a2, n2, c2, rfl⟩
      clear hS1
      go_wp2_with ((with_reducible apply at_append); refine ⟨?_⟩; refine wl_appB hS2 (by conv => lhs; whnf) (by conv => lhs; whnf) (Sat.rd (hS2.pick pick1)) (by rw [Frm.le_len]; have := HB0l.out; omega) ?_; intro a3 n3 c3 w3 hS3)
      clear hS2
      obtain ⟨B1, hb1⟩ : ∃ B1, B1 = Frm.le N8 4 ++ B0 := ⟨_, rfl⟩
      rw [← hb1] at hS3
      have HB1l := Lib.hid (show B1.length ≤ 16421 by rw [hb1, List.length_append, Frm.le_len]; have := HB0l.out; omega)
      have Hbody := Lib.hid (show B1 = Frm.body e by rw [hb1]; exact HFIN.out B0 N8 Hb0.out HN8.out)
      clear hb1
      have hsum := rsum_c B1 (Sat.rd hS3) (by have := HB1l.out; omega)
      have hcl := Frm.crc_lt B1
      have hput := rput_c (Frm.crc B1) 4 (by omega) (by decide) (by decide) hS3
      rw [show ((4 : Nat) : Int) = 4 from rfl] at hput
      generalize hC : Frm.crc B1 = C at *
      have HC := Lib.hid hC
      have hw9 : (C : Int) % 18446744073709551616 = (C : Int) := by omega
      have hw9b : IntKind.u64.wrap (C : Int) = (C : Int) := hw9
      clear hC hcl
      go_wp2_with fail
      refine hsum.mono ?_
      clear hsum
      rintro ee w4 ⟨v, rfl, rfl, rfl⟩
      go_wp2_with fail
      refine hput.mono ?_
      clear hput hw9 hw9b
      rintro ee w4 ⟨v, rfl, hS4, a4, n4, c4, rfl⟩
      clear hS3
      go_wp2_with ((with_reducible apply at_append); refine ⟨?_⟩; refine wl_appB hS4 (by conv => lhs; whnf) (by conv => lhs; whnf) (Sat.rd (hS4.pick pick1)) (by rw [Frm.le_len]; have := HB1l.out; omega) ?_; intro a5 n5 c5 w5 hS5)
      clear hS4
      go_ret2
      have hen : Frm.encode e = (Frm.le C 4 ++ B1, 0) := by unfold Frm.encode; rw [if_neg (by rw [Hch.out]; simp), ← Hbody.out, HC.out]
      exact ⟨_, rfl, .slice a5 n5 c5, by rw [hen]; rfl, ⟨_, _, _, rfl⟩, by rw [hen]; exact hS5.sub (sub_take pick0 (sub_drop (sub_drop (sub_drop sub_refl))))⟩
end
end Go.Proofs.YtmjldaedhmipkaaGreatDoor
