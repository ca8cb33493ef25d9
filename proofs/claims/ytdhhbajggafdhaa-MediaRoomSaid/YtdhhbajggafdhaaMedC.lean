import Derived.Test.YtdhhbajggafdhaaMed25
/- A call on a medium, plain; what rows of calls keep. No program in sight. -/
namespace Go.Med
set_option linter.unusedVariables false
structure Cal where
  kind : Int
  name : ByteArray
  to : ByteArray
  n : Int
  m : Int
  b : Bs
  l : List Int
def lowByte (m : Int) : UInt8 := UInt8.ofNat (m % 256).toNat
def Med.does (M : Med) (x : Cal) : Med × (Bs × Int × Bool) :=
  if x.kind = 0 then ((M.create x.name).1, [], (M.create x.name).2, false)
  else if x.kind = 1 then ((M.append x.name x.b).1, [], (M.append x.name x.b).2, false)
  else if x.kind = 2 then ((M.truncate x.name x.n).1, [], (M.truncate x.name x.n).2, false)
  else if x.kind = 3 then ((M.rename x.name x.to).1, [], (M.rename x.name x.to).2, false)
  else if x.kind = 4 then ((M.remove x.name).1, [], (M.remove x.name).2, false)
  else if x.kind = 5 then ((M.sync x.name).1, [], (M.sync x.name).2, false)
  else if x.kind = 6 then (M.syncDir.1, [], M.syncDir.2, false)
  else if x.kind = 7 then ((M.arm x.n).1, [], (M.arm x.n).2, false)
  else if x.kind = 8 then (M.crash x.l, [], 0, false)
  else if x.kind = 9 then ((M.setRoom x.n).1, [], (M.setRoom x.n).2, false)
  else if x.kind = 10 then ((M.rot x.name x.n (lowByte x.m)).1, [], 0, (M.rot x.name x.n (lowByte x.m)).2)
  else (M, (M.read x.name x.n x.m).1, (M.read x.name x.n x.m).2, false)
theorem Med.does_ind {P : Med × Bs × Int × Bool → Prop} {M : Med} {x : Cal}
    (h0 : x.kind = 0 → P ((M.create x.name).1, [], (M.create x.name).2, false))
    (h1 : x.kind = 1 → P ((M.append x.name x.b).1, [], (M.append x.name x.b).2, false))
    (h2 : x.kind = 2 → P ((M.truncate x.name x.n).1, [], (M.truncate x.name x.n).2, false))
    (h3 : x.kind = 3 → P ((M.rename x.name x.to).1, [], (M.rename x.name x.to).2, false))
    (h4 : x.kind = 4 → P ((M.remove x.name).1, [], (M.remove x.name).2, false))
    (h5 : x.kind = 5 → P ((M.sync x.name).1, [], (M.sync x.name).2, false))
    (h6 : x.kind = 6 → P (M.syncDir.1, [], M.syncDir.2, false))
    (h7 : x.kind = 7 → P ((M.arm x.n).1, [], (M.arm x.n).2, false))
    (h8 : x.kind = 8 → P (M.crash x.l, [], 0, false))
    (h9 : x.kind = 9 → P ((M.setRoom x.n).1, [], (M.setRoom x.n).2, false))
    (h10 : x.kind = 10 → P ((M.rot x.name x.n (lowByte x.m)).1, [], 0, (M.rot x.name x.n (lowByte x.m)).2))
    (hz : x.kind ≠ 0 ∧ x.kind ≠ 1 ∧ x.kind ≠ 2 ∧ x.kind ≠ 3 ∧ x.kind ≠ 4 ∧ x.kind ≠ 5 ∧ x.kind ≠ 6 ∧ x.kind ≠ 7 ∧ x.kind ≠ 8 ∧ x.kind ≠ 9 ∧ x.kind ≠ 10 → P (M, (M.read x.name x.n x.m).1, (M.read x.name x.n x.m).2, false)) : P (M.does x) := by
  unfold Med.does
  by_cases c0 : x.kind = 0; · rw [if_pos c0]; exact h0 c0
  rw [if_neg c0]
  by_cases c1 : x.kind = 1; · rw [if_pos c1]; exact h1 c1
  rw [if_neg c1]
  by_cases c2 : x.kind = 2; · rw [if_pos c2]; exact h2 c2
  rw [if_neg c2]
  by_cases c3 : x.kind = 3; · rw [if_pos c3]; exact h3 c3
  rw [if_neg c3]
  by_cases c4 : x.kind = 4; · rw [if_pos c4]; exact h4 c4
  rw [if_neg c4]
  by_cases c5 : x.kind = 5; · rw [if_pos c5]; exact h5 c5
  rw [if_neg c5]
  by_cases c6 : x.kind = 6; · rw [if_pos c6]; exact h6 c6
  rw [if_neg c6]
  by_cases c7 : x.kind = 7; · rw [if_pos c7]; exact h7 c7
  rw [if_neg c7]
  by_cases c8 : x.kind = 8; · rw [if_pos c8]; exact h8 c8
  rw [if_neg c8]
  by_cases c9 : x.kind = 9; · rw [if_pos c9]; exact h9 c9
  rw [if_neg c9]
  by_cases c10 : x.kind = 10; · rw [if_pos c10]; exact h10 c10
  rw [if_neg c10]
  exact hz ⟨c0, c1, c2, c3, c4, c5, c6, c7, c8, c9, c10⟩
theorem Med.Ok.does {K : Nat} {M : Med} (h : M.Ok K) (x : Cal) (hn : x.n ≤ 9223372036854775807) : (M.does x).1.Ok (K + 1) := by
  have h' := h.mono (Nat.le_succ K)
  refine Med.does_ind (P := fun r => r.1.Ok (K + 1)) ?_ ?_ ?_ ?_ ?_ ?_ ?_ ?_ ?_ ?_ ?_ ?_
  · exact fun _ => h.create _
  · exact fun _ => h.append _ _
  · exact fun _ => h.truncate _ _
  · exact fun _ => h.rename _ _
  · exact fun _ => h.remove _
  · exact fun _ => h.sync _
  · exact fun _ => h.syncDir.mono (Nat.le_succ K)
  · exact fun _ => (h.arm _ hn).mono (Nat.le_succ K)
  · exact fun _ => (h.crash _).mono (Nat.le_succ K)
  · exact fun _ => (h.setRoom _).mono (Nat.le_succ K)
  · exact fun _ => h.rot _ _ _
  · exact fun _ => h'
/-- The power is on, and nothing is armed. -/
structure Quiet (M : Med) : Prop where
  armed : M.armed = false
  off : M.off = false
  left : M.left = 0
theorem Quiet.new (r : Nat) : Quiet (new r) := ⟨rfl, rfl, rfl⟩
theorem Quiet.step {M : Med} (h : Quiet M) : M.step = (M, true) := by simp [Med.step, h.armed]
theorem Quiet.link {M : Med} (h : Quiet M) (x : Lnk) : Quiet (M.link x) := ⟨h.armed, h.off, h.left⟩
theorem Quiet.setFile {M : Med} (h : Quiet M) (i : Nat) (f : Fil) : Quiet (M.setFile i f) := ⟨h.armed, h.off, h.left⟩
theorem Quiet.crash (M : Med) (l : List Int) : Quiet (M.crash l) := ⟨rfl, rfl, rfl⟩
theorem Quiet.create {M : Med} (h : Quiet M) (s : ByteArray) : Quiet (M.create s).1 := by
  unfold Med.create
  rw [h.step]
  split; · exact h
  split; · exact h
  split; · exact h
  split; · exact h
  split; · exact h
  exact ⟨h.armed, h.off, h.left⟩
theorem Quiet.append {M : Med} (h : Quiet M) (s : ByteArray) (b : Bs) : Quiet (M.append s b).1 := by
  unfold Med.append
  rw [h.step]
  split; · exact h
  split; · exact h
  split; · exact h
  split; · exact h
  exact h.setFile _ _
theorem Quiet.truncate {M : Med} (h : Quiet M) (s : ByteArray) (n : Int) : Quiet (M.truncate s n).1 := by
  unfold Med.truncate
  rw [h.step]
  split; · exact h
  split; · exact h
  split; · exact h
  split; · exact h
  exact h.setFile _ _
theorem Quiet.rename {M : Med} (h : Quiet M) (s t : ByteArray) : Quiet (M.rename s t).1 := by
  unfold Med.rename
  rw [h.step]
  split; · exact h
  split; · exact h
  split; · exact h
  split; · exact h
  exact h.link _
theorem Quiet.remove {M : Med} (h : Quiet M) (s : ByteArray) : Quiet (M.remove s).1 := by
  unfold Med.remove
  rw [h.step]
  split; · exact h
  split; · exact h
  split; · exact h
  exact h.link _
theorem Quiet.sync {M : Med} (h : Quiet M) (s : ByteArray) : Quiet (M.sync s).1 := by
  unfold Med.sync
  rw [h.step]
  split; · exact h
  split; · exact h
  split; · exact h
  exact h.setFile _ _
theorem Quiet.syncDir {M : Med} (h : Quiet M) : Quiet M.syncDir.1 := by
  unfold Med.syncDir
  rw [h.step]
  split; · exact h
  split; · exact h
  exact ⟨h.armed, h.off, h.left⟩
theorem Quiet.setRoom {M : Med} (h : Quiet M) (n : Int) : Quiet (M.setRoom n).1 := by
  unfold Med.setRoom
  split; · exact h
  split; · exact h
  exact ⟨h.armed, h.off, h.left⟩
theorem Quiet.rot {M : Med} (h : Quiet M) (s : ByteArray) (i : Int) (y : UInt8) : Quiet (M.rot s i y).1 := by
  unfold Med.rot
  split; · exact h
  split; · exact h
  exact h.setFile _ _
theorem Quiet.does {M : Med} (h : Quiet M) (x : Cal) (hk : x.kind ≠ 7) : Quiet (M.does x).1 := by
  refine Med.does_ind (P := fun r => Quiet r.1) ?_ ?_ ?_ ?_ ?_ ?_ ?_ ?_ ?_ ?_ ?_ ?_
  · exact fun _ => h.create _
  · exact fun _ => h.append _ _
  · exact fun _ => h.truncate _ _
  · exact fun _ => h.rename _ _
  · exact fun _ => h.remove _
  · exact fun _ => h.sync _
  · exact fun _ => h.syncDir
  · exact fun h7 => absurd h7 hk
  · exact fun _ => .crash _ _
  · exact fun _ => h.setRoom _
  · exact fun _ => h.rot _ _ _
  · exact fun _ => h
/-- A row of calls but for those that arm. -/
def Med.plays : Med → List Cal → Med
  | M, [] => M
  | M, x :: l => Med.plays (if x.kind = 7 then M else (M.does x).1) l
theorem Med.plays_snoc (M : Med) (l : List Cal) (x : Cal) : M.plays (l ++ [x]) = (if x.kind = 7 then M.plays l else ((M.plays l).does x).1) := by
  induction l generalizing M with
  | nil => rfl
  | cons y l ih => exact ih _
theorem Quiet.plays {M : Med} (h : Quiet M) (l : List Cal) : Quiet (M.plays l) := by
  induction l generalizing M with
  | nil => exact h
  | cons x l ih =>
    refine ih ?_
    split
    · exact h
    · rename_i h7; exact h.does x h7
theorem Med.Ok.plays {K : Nat} {M : Med} (h : M.Ok K) (l : List Cal) (hl : ∀ x ∈ l, x.n ≤ 9223372036854775807) : (M.plays l).Ok (K + l.length) := by
  induction l generalizing M K with
  | nil => exact h
  | cons x l ih =>
    have : (M.plays (x :: l)).Ok (K + 1 + l.length) := by
      refine ih ?_ (fun y hy => hl y (.tail _ hy))
      split
      · exact h.mono (Nat.le_succ K)
      · exact h.does x (hl x (.head _))
    refine this.mono ?_
    simp only [List.length_cons]; omega

/-! ### nothing waits -/
def FFlat (f : Fil) : Prop := f.now = f.fast ∧ f.waits = []
theorem FFlat.crash {f : Fil} (h : FFlat f) (a b : Int) : f.crash a b = f := by
  obtain ⟨fast, now, waits⟩ := f
  obtain ⟨h1, h2⟩ := h
  simp only at h1 h2
  subst h1; subst h2
  simp [Fil.crash, Fil.left, Fil.at]
theorem crashFiles_flat (l : List Int) : ∀ (ns : Names) (j : Nat) (fs : List Fil), (∀ p ∈ ns, p.2 < fs.length ∧ FFlat (fs.getD p.2 Fil.new)) → crashFiles l ns j fs = fs
  | [], _, _, _ => rfl
  | p :: ns, j, fs, h => by
    obtain ⟨h1, h2⟩ := h p (.head _)
    have e : fs.set p.2 ((fs.getD p.2 Fil.new).crash (num l j) (num l (j + 1))) = fs := by
      rw [h2.crash]
      rw [List.getD_eq_getElem?_getD, List.getElem?_eq_getElem h1]
      exact List.set_getElem_self h1
    unfold crashFiles
    rw [e]
    exact crashFiles_flat l ns _ fs fun q hq => h q (.tail _ hq)
structure Flat (M : Med) : Prop where
  quiet : Quiet M
  fast : M.fast = M.now
  waits : M.waits = []
  files : ∀ p ∈ M.now, FFlat (M.file p.2)
theorem Flat.crash {M : Med} {K : Nat} (h : Flat M) (ok : M.Ok K) (l : List Int) : M.crash l = M := by
  obtain ⟨⟨q1, q2, q3⟩, h2, h3, h4⟩ := h
  have hid := ok.nowOk.ids
  obtain ⟨room, fast, now, files, waits, armed, left, off⟩ := M
  simp only at q1 q2 q3 h2 h3
  subst q1; subst q2; subst q3; subst h2; subst h3
  have e := crashFiles_flat l fast 1 files (fun p hp => ⟨hid p hp, h4 p hp⟩)
  simp only [Med.crash, Med.lastNames, List.take_nil, List.foldl_nil, e]
/-- The first n names are synced. -/
def Med.syncs : Med → List ByteArray → Med
  | M, [] => M
  | M, s :: l => Med.syncs (M.sync s).1 l
theorem Med.syncs_snoc (M : Med) (l : List ByteArray) (s : ByteArray) : M.syncs (l ++ [s]) = ((M.syncs l).sync s).1 := by
  induction l generalizing M with
  | nil => rfl
  | cons y l ih => exact ih _
theorem Quiet.sync_eq {M : Med} (h : Quiet M) {s : ByteArray} {i : Nat} (hs : nget M.now s = some i) : M.sync s = (M.setFile i (M.file i).sync, 0) := by
  unfold Med.sync
  rw [h.step, h.off, hs]
  rfl
/-- M' is M, some files of it synced. -/
structure Synced (M M' : Med) : Prop where
  room : M'.room = M.room
  fast : M'.fast = M.fast
  now : M'.now = M.now
  waits : M'.waits = M.waits
  quiet : Quiet M'
  bytes : ∀ i, (M'.file i).now = (M.file i).now
  len : M'.files.length = M.files.length
theorem file_set {M : Med} {i : Nat} {f : Fil} (hi : i < M.files.length) (j : Nat) : (M.setFile i f).file j = if j = i then f else M.file j := by
  unfold Med.setFile Med.file
  simp only [List.getD_eq_getElem?_getD]
  split
  · rename_i h; subst h; rw [List.getElem?_set_self hi]; rfl
  · rename_i h; rw [List.getElem?_set_ne (Ne.symm h)]
theorem Synced.start {M : Med} (h : Quiet M) : Synced M M := ⟨rfl, rfl, rfl, rfl, h, fun _ => rfl, rfl⟩
theorem Synced.next {M M' : Med} (h : Synced M M') {s : ByteArray} {i : Nat} (hs : nget M.now s = some i) (hi : i < M.files.length) (done : List Nat) (hd : ∀ j ∈ done, FFlat (M'.file j)) :
    (M'.sync s).2 = 0 ∧ Synced M (M'.sync s).1 ∧ ∀ j ∈ done ++ [i], FFlat ((M'.sync s).1.file j) := by
  have e := h.quiet.sync_eq (s := s) (i := i) (by rw [h.now]; exact hs)
  have hi' : i < M'.files.length := by rw [h.len]; exact hi
  rw [e]
  refine ⟨rfl, ⟨h.room, h.fast, h.now, h.waits, h.quiet.setFile _ _, fun j => ?_, by simp [Med.setFile, h.len]⟩, fun j hj => ?_⟩
  · simp only
    rw [file_set hi']
    split
    · rename_i hh; subst hh; exact h.bytes j
    · exact h.bytes j
  · simp only
    rw [file_set hi']
    split
    · exact ⟨rfl, rfl⟩
    · rename_i hne
      rcases List.mem_append.1 hj with hj | hj
      · exact hd j hj
      · exact absurd (List.mem_singleton.1 hj) hne
theorem Synced.all {M M' : Med} (hq : Quiet M) (h : Synced M M') (s : ByteArray) : M'.all s = M.all s := by
  unfold Med.all
  rw [h.now, h.quiet.off, hq.off]
  cases hn : nget M.now s with
  | none => rfl
  | some i => simp only [Bool.false_eq_true, if_false, h.bytes]
theorem Quiet.syncDir_eq {M : Med} (h : Quiet M) : M.syncDir = ({ M with fast := M.now, waits := [] }, 0) := by
  unfold Med.syncDir
  rw [h.step, if_neg (by rw [h.off]; exact Bool.false_ne_true)]
  simp
theorem Quiet.list {M : Med} (h : Quiet M) : M.list = M.now.map (·.1) := by unfold Med.list; rw [h.off]; rfl
theorem Synced.flat {M M' : Med} (hq : Quiet M) (h : Synced M M') (hf : ∀ j ∈ M.now.map (·.2), FFlat (M'.file j)) :
    M'.syncDir.2 = 0 ∧ Flat M'.syncDir.1 ∧ M'.syncDir.1.list = M.list ∧ ∀ s, M'.syncDir.1.all s = M.all s := by
  rw [h.quiet.syncDir_eq]
  refine ⟨rfl, ⟨⟨h.quiet.armed, h.quiet.off, h.quiet.left⟩, rfl, rfl, fun p hp => ?_⟩, ?_, fun s => ?_⟩
  · have hp' : p ∈ M.now := by simp only at hp; rw [h.now] at hp; exact hp
    exact hf _ (List.mem_map.2 ⟨p, hp', rfl⟩)
  · rw [hq.list, ← h.now]
    simp only [Med.list, h.quiet.off]
    rfl
  · rw [← h.all hq]
    rfl

/-! ### names of some moment -/
/-- All names that a crash may leave are in a list of moments. -/
def Moms (M : Med) (l : List (List ByteArray)) : Prop := ∀ k, k ≤ M.waits.length → (M.lastNames k).map (·.1) ∈ l
theorem Moms.start {M : Med} {K : Nat} (ok : M.Ok K) (hw : M.waits = []) (hq : Quiet M) : Moms M [M.list] := by
  intro k hk
  rw [hw] at hk
  have hn := ok.now
  rw [hw] at hn
  obtain rfl : k = 0 := by simpa using hk
  rw [hq.list, hn]
  exact .head _
/-- What links did: the same changes, or one more. -/
def Ext (M M' : Med) : Prop := M'.fast = M.fast ∧ (M'.waits = M.waits ∨ ∃ y, M'.waits = M.waits ++ [y])
theorem Ext.same {M M' : Med} (h1 : M'.fast = M.fast) (h2 : M'.waits = M.waits) : Ext M M' := ⟨h1, .inl h2⟩
theorem Moms.next {M M' : Med} {K : Nat} {l : List (List ByteArray)} (h : Moms M l) (e : Ext M M') (ok : M'.Ok K) (hq : Quiet M') : Moms M' (l ++ [M'.list]) := by
  intro k hk
  obtain ⟨e1, e2⟩ := e
  have old : k ≤ M.waits.length → (M'.lastNames k).map (·.1) ∈ l ++ [M'.list] := fun hk' => by
    have : M'.lastNames k = M.lastNames k := by
      unfold Med.lastNames
      rw [e1]
      rcases e2 with e2 | ⟨y, e2⟩
      · rw [e2]
      · rw [e2, List.take_append_of_le_length hk']
    rw [this]
    exact List.mem_append_left _ (h k hk')
  rcases Nat.lt_or_ge M.waits.length k with hgt | hle
  · rcases e2 with e2 | ⟨y, e2⟩
    · rw [e2] at hk; exact old hk
    · have : k = M'.waits.length := by rw [e2] at hk ⊢; simp at hk ⊢; omega
      rw [this, ← ok.now, hq.list]
      exact List.mem_append_right _ (.head _)
  · exact old hle
theorem Ext.does {M : Med} (h : Quiet M) (x : Cal) (h0 : 0 ≤ x.kind) (h5 : x.kind ≤ 5) : Ext M (M.does x).1 := by
  have r : Ext M M := .same rfl rfl
  refine Med.does_ind (P := fun q => Ext M q.1) ?_ ?_ ?_ ?_ ?_ ?_ ?_ ?_ ?_ ?_ ?_ ?_
  · intro _
    show Ext M (M.create x.name).1
    unfold Med.create
    rw [h.step]
    split; · exact r
    split; · exact r
    split; · exact r
    split; · exact r
    exact ⟨rfl, .inr ⟨_, rfl⟩⟩
  · intro _
    show Ext M (M.append x.name x.b).1
    unfold Med.append
    rw [h.step]
    split; · exact r
    split; · exact r
    split; · exact r
    exact .same rfl rfl
  · intro _
    show Ext M (M.truncate x.name x.n).1
    unfold Med.truncate
    rw [h.step]
    split; · exact r
    split; · exact r
    split; · exact r
    exact .same rfl rfl
  · intro _
    show Ext M (M.rename x.name x.to).1
    unfold Med.rename
    rw [h.step]
    split; · exact r
    split; · exact r
    split; · exact r
    exact ⟨rfl, .inr ⟨_, rfl⟩⟩
  · intro _
    show Ext M (M.remove x.name).1
    unfold Med.remove
    rw [h.step]
    split; · exact r
    split; · exact r
    exact ⟨rfl, .inr ⟨_, rfl⟩⟩
  · intro _
    show Ext M (M.sync x.name).1
    unfold Med.sync
    rw [h.step]
    split; · exact r
    split; · exact r
    exact .same rfl rfl
  all_goals (intro hk; exfalso; omega)
theorem Moms.does {M : Med} {K : Nat} {l : List (List ByteArray)} (h : Moms M l) (ok : M.Ok K) (hq : Quiet M) (x : Cal) (hn : x.n ≤ 9223372036854775807) (h0 : 0 ≤ x.kind) (h6 : x.kind ≤ 6) :
    Moms (M.does x).1 ((if x.kind = 6 then [] else l) ++ [(M.does x).1.list]) := by
  have ok' := ok.does x hn
  have hq' := hq.does x (by omega)
  split
  · rename_i h
    have e : (M.does x).1 = M.syncDir.1 := by unfold Med.does; simp [h]
    refine Moms.start ok' ?_ hq'
    rw [e, hq.syncDir_eq]
  · exact h.next (Ext.does hq x h0 (by omega)) ok' hq'
theorem Moms.crash {M : Med} {l : List (List ByteArray)} (h : Moms M l) (n : List Int) : (M.crash n).list ∈ l := h _ (clampN_le _ _)

/-! ### no power -/
theorem dead_does {M : Med} (h : M.off = true) (x : Cal) (h8 : x.kind ≠ 8) (h10 : x.kind ≠ 10) : M.does x = (M, [], 12, false) := by
  refine Med.does_ind (P := fun q => q = (M, [], 12, false)) ?_ ?_ ?_ ?_ ?_ ?_ ?_ ?_ ?_ ?_ ?_ ?_
  · intro _; unfold Med.create; simp only [h, if_true]
  · intro _; unfold Med.append; simp only [h, if_true]
  · intro _; unfold Med.truncate; simp only [h, if_true]
  · intro _; unfold Med.rename; simp only [h, if_true]
  · intro _; unfold Med.remove; simp only [h, if_true]
  · intro _; unfold Med.sync; simp only [h, if_true]
  · intro _; unfold Med.syncDir; simp only [h, if_true]
  · intro _; unfold Med.arm; simp only [h, if_true]
  · exact fun h => absurd h h8
  · intro _; unfold Med.setRoom; simp only [h, if_true]
  · exact fun h => absurd h h10
  · intro _; unfold Med.read; simp only [h, if_true]
theorem dead_list {M : Med} (h : M.off = true) : M.list = [] := by unfold Med.list; rw [h]; rfl
theorem dead_used {M : Med} (h : M.off = true) : M.usedTold = 0 := by unfold Med.usedTold; rw [h]; rfl
theorem Quiet.arm_eq {M : Med} (h : Quiet M) (n : Nat) : M.arm n = ({ M with armed := true, left := n }, 0) := by
  unfold Med.arm
  rw [h.off]
  simp
/-- Armed: n steps more. -/
structure Armed (n : Nat) (M : Med) : Prop where
  armed : M.armed = true
  off : M.off = false
  left : M.left = n
theorem Armed.syncDir {M : Med} {n : Nat} (h : Armed (n + 1) M) : M.syncDir.2 = 0 ∧ Armed n M.syncDir.1 ∧ M.syncDir.1.now = M.now := by
  unfold Med.syncDir Med.step
  simp [h.armed, h.off, h.left]
  exact ⟨rfl, rfl, rfl⟩
theorem Armed.last {M : Med} (h : Armed 0 M) : M.syncDir.2 = 12 ∧ M.syncDir.1.off = true ∧ M.syncDir.1.now = M.now := by
  unfold Med.syncDir Med.step
  simp [h.armed, h.off, h.left]
theorem crash_all {M : Med} {K : Nat} (ok : M.Ok K) (l : List Int) (h : (M.waits.length : Int) ≤ num l 0) : (M.crash l).now = M.now := by
  have e : clampN (num l 0) M.waits.length = M.waits.length := by unfold clampN; omega
  show M.lastNames (clampN (num l 0) M.waits.length) = _
  rw [e, ← ok.now]

/-! ### room -/
/-- No file has two names. -/
def Dst (M : Med) : Prop := (M.now.map (·.2)).Nodup
theorem used_split {M : Med} (hs : Srt M.now) (hd : Dst M) {s : ByteArray} {i : Nat} (h : nget M.now s = some i) :
    (∀ p ∈ ndel M.now s, p.2 ≠ i) ∧ ∀ g : Nat → Nat, (M.now.map fun p => g p.2).sum = g i + ((ndel M.now s).map fun p => g p.2).sum := by
  have hp := ndel_perm hs.keys (nget_mem h)
  constructor
  · have hd' : (M.now.map fun p : ByteArray × Nat => p.2).Nodup := hd
    have := (hp.map (fun p : ByteArray × Nat => p.2)).nodup_iff.1 hd'
    simp only [List.map_cons, List.nodup_cons] at this
    intro p hp e
    exact this.1 (List.mem_map.2 ⟨p, hp, e⟩)
  · intro g
    have := (hp.map fun p => g p.2).sum_nat
    simpa using this
theorem sum_congr {l : Names} {g h : Nat → Nat} (e : ∀ p ∈ l, g p.2 = h p.2) : (l.map fun p => g p.2).sum = (l.map fun p => h p.2).sum := by
  rw [List.map_congr_left e]
theorem used_set {M : Med} {K : Nat} (ok : M.Ok K) (hd : Dst M) {s : ByteArray} {i : Nat} (h : nget M.now s = some i) (f : Fil) :
    (M.setFile i f).used + (M.file i).now.length = M.used + f.now.length := by
  obtain ⟨h1, h2⟩ := used_split ok.nowOk.srt hd h
  have hi : i < M.files.length := ok.nowOk.ids _ (nget_mem h)
  have e1 := h2 fun j => (M.file j).now.length
  have e2 := h2 fun j => ((M.setFile i f).file j).now.length
  have e3 : ((ndel M.now s).map fun p => ((M.setFile i f).file p.2).now.length).sum = ((ndel M.now s).map fun p => (M.file p.2).now.length).sum :=
    sum_congr (g := fun j => ((M.setFile i f).file j).now.length) (h := fun j => (M.file j).now.length) fun p hp => by rw [file_set hi, if_neg (h1 p hp)]
  have e4 : (M.setFile i f).file i = f := by rw [file_set hi, if_pos rfl]
  simp only [e4, e3] at e2
  show (M.now.map fun p => ((M.setFile i f).file p.2).now.length).sum + _ = (M.now.map fun p => (M.file p.2).now.length).sum + _
  rw [e1, e2]
  omega
theorem sum_del_le (l : Names) (s : ByteArray) (g : Nat → Nat) : ((ndel l s).map fun p => g p.2).sum ≤ (l.map fun p => g p.2).sum := by
  induction l with
  | nil => exact Nat.le_refl _
  | cons p l ih =>
    unfold ndel at ih ⊢
    rw [List.filter_cons]
    split
    · simp only [List.map_cons, List.sum_cons]; omega
    · simp only [List.map_cons, List.sum_cons]; omega
theorem sum_put (l : Names) (s : ByteArray) (i : Nat) (g : Nat → Nat) : ((nput l s i).map fun p => g p.2).sum = g i + ((ndel l s).map fun p => g p.2).sum := by
  have := ((nput_perm l s i).map fun p => g p.2).sum_nat
  simpa using this
theorem nodup_put {l : Names} {s : ByteArray} {i : Nat} (h : (l.map (·.2)).Nodup) (hi : ∀ p ∈ l, p.2 ≠ i) : ((nput l s i).map (·.2)).Nodup := by
  refine ((nput_perm l s i).map (·.2)).nodup_iff.2 ?_
  simp only [List.map_cons, List.nodup_cons]
  refine ⟨fun hm => ?_, h.sublist (List.filter_sublist.map _)⟩
  obtain ⟨p, hp, e⟩ := List.mem_map.1 hm
  exact hi p (List.mem_filter.1 hp).1 e
structure Fits (M M' : Med) : Prop where
  room : M'.room = M.room
  dst : Dst M'
  used : M'.used ≤ M'.room
theorem step_alike (M : Med) : M.step.1.room = M.room ∧ M.step.1.now = M.now ∧ M.step.1.files = M.files := ⟨M.step_same.1, M.step_same.2.2.1, M.step_same.2.2.2.1⟩
theorem Fits.self {M : Med} (hd : Dst M) (hu : M.used ≤ M.room) : Fits M M := ⟨rfl, hd, hu⟩
theorem used_of {M M' : Med} (h1 : M'.now = M.now) (h2 : M'.files = M.files) : M'.used = M.used := by unfold Med.used Med.file; rw [h1, h2]
theorem Fits.alike {M M' : Med} (hd : Dst M) (hu : M.used ≤ M.room) (hr : M'.room = M.room) (h1 : M'.now = M.now) (h2 : M'.files = M.files) : Fits M M' :=
  ⟨hr, by unfold Dst; rw [h1]; exact hd, by rw [used_of h1 h2, hr]; exact hu⟩
theorem Fits.set {M M' : Med} {K : Nat} (ok : M.Ok K) (hd : Dst M) (hu : M.used ≤ M.room) (hr : M'.room = M.room) (h1 : M'.now = M.now) (h2 : M'.files = M.files) {s : ByteArray} {i : Nat} (h : nget M.now s = some i) (f : Fil)
    (hf : M.used + f.now.length ≤ M.room + (M.file i).now.length) : Fits M (M'.setFile i f) := by
  have e : (M'.setFile i f).used = (M.setFile i f).used := used_of (by exact h1) (by show M'.files.set i f = M.files.set i f; rw [h2])
  have := used_set ok hd h f
  refine ⟨hr, by show (M'.now.map (·.2)).Nodup; rw [h1]; exact hd, ?_⟩
  rw [e]
  show _ ≤ M'.room
  rw [hr]
  omega
theorem Fits.does {M : Med} {K : Nat} (ok : M.Ok K) (hd : Dst M) (hu : M.used ≤ M.room) (x : Cal) (h8 : x.kind ≠ 8) (h9 : x.kind ≠ 9) :
    Fits M (M.does x).1 ∧ ((M.does x).2.2.1 = 11 → x.kind = 1 ∧ M.room < M.usedTold + x.b.length) := by
  have r := Fits.self hd hu
  obtain ⟨s1, s2, s3⟩ := step_alike M
  have rs : Fits M M.step.1 := Fits.alike hd hu s1 s2 s3
  refine Med.does_ind (P := fun q => Fits M q.1 ∧ (q.2.2.1 = 11 → x.kind = 1 ∧ M.room < M.usedTold + x.b.length)) ?_ ?_ ?_ ?_ ?_ ?_ ?_ ?_ ?_ ?_ ?_ ?_
  · intro _
    show Fits M (M.create x.name).1 ∧ ((M.create x.name).2 = 11 → _)
    unfold Med.create
    split; · exact ⟨r, by simp⟩
    split; · exact ⟨r, by simp⟩
    rename_i hg
    split; · exact ⟨r, by simp⟩
    rename_i hn
    split; · exact ⟨r, by simp⟩
    split; · exact ⟨rs, by simp⟩
    refine ⟨?_, by simp⟩
    have hnn : nget M.now x.name = none := by simpa using hn
    have hlt := ok.nowOk.ids
    have hne : x.name ≠ ByteArray.empty := good_ne (by simpa using hg)
    have enow : (({ M.step.1 with files := M.files ++ [Fil.new] } : Med).link ⟨ByteArray.empty, x.name, M.files.length⟩).now = nput M.now x.name M.files.length := by
      show Lnk.on _ M.step.1.now = _
      rw [s2]
      unfold Lnk.on
      simp only [if_true, if_neg hne]
    have hdel := ndel_none hnn
    refine ⟨s1, ?_, ?_⟩
    · unfold Dst
      rw [enow]
      exact nodup_put hd fun p hp e => by have := hlt p hp; omega
    · have : (({ M.step.1 with files := M.files ++ [Fil.new] } : Med).link ⟨ByteArray.empty, x.name, M.files.length⟩).used = M.used := by
        show ((Med.now _).map fun p => (Med.file _ p.2).now.length).sum = _
        rw [enow, sum_put _ _ _ (fun j => (Med.file _ j).now.length), hdel]
        have e0 : ((({ M.step.1 with files := M.files ++ [Fil.new] } : Med).link ⟨ByteArray.empty, x.name, M.files.length⟩).file M.files.length).now.length = 0 := by
          simp [Med.file, Med.link, Fil.new]
        rw [e0, Nat.zero_add]
        refine sum_congr (g := fun j => (Med.file _ j).now.length) (h := fun j => (M.file j).now.length) fun p hp => ?_
        have := hlt p hp
        simp only [Med.file, Med.link, List.getD_eq_getElem?_getD]
        rw [List.getElem?_append_left this]
      rw [this]
      show _ ≤ M.step.1.room
      rw [s1]; exact hu
  · intro hk1
    show Fits M (M.append x.name x.b).1 ∧ ((M.append x.name x.b).2 = 11 → _)
    unfold Med.append
    split; · exact ⟨r, by simp⟩
    rename_i hoff
    split; · exact ⟨r, by simp⟩
    rename_i i hi
    split
    · rename_i hfull
      refine ⟨r, fun _ => ⟨hk1, ?_⟩⟩
      have : M.usedTold = M.used := by unfold Med.usedTold; rw [if_neg hoff]
      rw [this]; omega
    rename_i hfull
    split; · exact ⟨rs, by simp⟩
    refine ⟨Fits.set ok hd hu s1 s2 s3 hi _ ?_, by simp⟩
    simp only [Fil.do, Chg.on, Bool.false_eq_true, if_false, List.length_append]
    omega
  · intro _
    show Fits M (M.truncate x.name x.n).1 ∧ ((M.truncate x.name x.n).2 = 11 → _)
    unfold Med.truncate
    split; · exact ⟨r, by simp⟩
    split; · exact ⟨r, by simp⟩
    rename_i i hi
    split; · exact ⟨r, by simp⟩
    split; · exact ⟨rs, by simp⟩
    refine ⟨Fits.set ok hd hu s1 s2 s3 hi _ ?_, by simp⟩
    simp only [Fil.do, Chg.on, if_true, List.length_take]
    omega
  · intro _
    show Fits M (M.rename x.name x.to).1 ∧ ((M.rename x.name x.to).2 = 11 → _)
    unfold Med.rename
    split; · exact ⟨r, by simp⟩
    split; · exact ⟨r, by simp⟩
    rename_i i hi
    split; · exact ⟨r, by simp⟩
    rename_i hg
    split; · exact ⟨rs, by simp⟩
    refine ⟨?_, by simp⟩
    have hne : x.to ≠ ByteArray.empty := good_ne (by simpa using hg)
    have hs : x.name ≠ ByteArray.empty := ok.nowOk.ne _ (nget_mem hi)
    obtain ⟨h1, h2⟩ := used_split ok.nowOk.srt hd hi
    have enow : (M.step.1.link ⟨x.name, x.to, i⟩).now = nput (ndel M.now x.name) x.to i := by
      show Lnk.on _ M.step.1.now = _
      rw [s2]
      unfold Lnk.on
      simp only [if_neg hs, if_neg hne]
    refine ⟨s1, ?_, ?_⟩
    · unfold Dst
      rw [enow]
      exact nodup_put (hd.sublist (List.filter_sublist.map _)) h1
    · have e1 := h2 fun j => (M.file j).now.length
      have e2 := sum_del_le (ndel M.now x.name) x.to fun j => (M.file j).now.length
      have : (M.step.1.link ⟨x.name, x.to, i⟩).used = ((nput (ndel M.now x.name) x.to i).map fun p => (M.file p.2).now.length).sum := by
        show ((Med.now _).map fun p => (Med.file _ p.2).now.length).sum = _
        rw [enow]
        unfold Med.file Med.link
        simp only [s3]
      rw [this, sum_put _ _ _ (fun j => (M.file j).now.length)]
      show _ ≤ M.step.1.room
      rw [s1]
      unfold Med.used at hu
      omega
  · intro _
    show Fits M (M.remove x.name).1 ∧ ((M.remove x.name).2 = 11 → _)
    unfold Med.remove
    split; · exact ⟨r, by simp⟩
    split; · exact ⟨r, by simp⟩
    rename_i i hi
    split; · exact ⟨rs, by simp⟩
    refine ⟨?_, by simp⟩
    have hs : x.name ≠ ByteArray.empty := ok.nowOk.ne _ (nget_mem hi)
    have enow : (M.step.1.link ⟨x.name, ByteArray.empty, 0⟩).now = ndel M.now x.name := by
      show Lnk.on ⟨x.name, ByteArray.empty, 0⟩ M.step.1.now = _
      rw [s2]
      unfold Lnk.on
      simp only [if_neg hs, if_true]
    refine ⟨s1, ?_, ?_⟩
    · unfold Dst
      rw [enow]
      exact hd.sublist (List.filter_sublist.map _)
    · have e2 := sum_del_le M.now x.name fun j => (M.file j).now.length
      have : (M.step.1.link ⟨x.name, ByteArray.empty, 0⟩).used = ((ndel M.now x.name).map fun p => (M.file p.2).now.length).sum := by
        show ((Med.now _).map fun p => (Med.file _ p.2).now.length).sum = _
        rw [enow]
        unfold Med.file Med.link
        simp only [s3]
      rw [this]
      show _ ≤ M.step.1.room
      rw [s1]
      unfold Med.used at hu
      omega
  · intro _
    show Fits M (M.sync x.name).1 ∧ ((M.sync x.name).2 = 11 → _)
    unfold Med.sync
    split; · exact ⟨r, by simp⟩
    split; · exact ⟨r, by simp⟩
    rename_i i hi
    split; · exact ⟨rs, by simp⟩
    refine ⟨Fits.set ok hd hu s1 s2 s3 hi _ ?_, by simp⟩
    simp only [Fil.sync]
    omega
  · intro _
    show Fits M M.syncDir.1 ∧ (M.syncDir.2 = 11 → _)
    unfold Med.syncDir
    split; · exact ⟨r, by simp⟩
    split; · exact ⟨rs, by simp⟩
    exact ⟨Fits.alike hd hu s1 s2 s3, by simp⟩
  · intro _
    show Fits M (M.arm x.n).1 ∧ ((M.arm x.n).2 = 11 → _)
    unfold Med.arm
    split; · exact ⟨r, by simp⟩
    split; · exact ⟨r, by simp⟩
    exact ⟨Fits.alike hd hu rfl rfl rfl, by simp⟩
  · exact fun h => absurd h h8
  · exact fun h => absurd h h9
  · intro _
    refine ⟨?_, fun h => by simp at h⟩
    show Fits M (M.rot x.name x.n (lowByte x.m)).1
    unfold Med.rot
    split; · exact r
    rename_i i hi
    split; · exact r
    refine Fits.set ok hd hu rfl rfl rfl hi _ ?_
    rw [((ok.file i).rot _ _).2, xorAt_len]
    omega
  · intro _
    refine ⟨r, fun h => ?_⟩
    exfalso
    have h' : (M.read x.name x.n x.m).2 = 11 := h
    unfold Med.read at h'
    revert h'
    split
    · simp
    split
    · simp
    simp only
    split
    · simp
    split
    · simp
    · simp
end Go.Med
