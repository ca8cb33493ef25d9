import Derived.Test.YtmjldaedhmipkaaGreatDoorJ4
import Derived.Lib.Bytealg
import Derived.Lib.BytesEntry
import Derived.Sort.Grow
import Derived.Sort.OwnSorted
import Derived.Shelf.SlSortCmp.WholeK
import Derived.Shelf.SlSortCmp.NoneTotal
set_option linter.unusedVariables false
namespace Go.Med
def Med.rmove (m : Med) (s t : ByteArray) (gone : Bool) : Med × Int :=
  if m.off then (m, 12)
  else match nget m.now s with
  | none => (m, 9)
  | some i =>
    if gone = false ∧ good t = false then (m, 7)
    else if m.step.2 = false then (m.step.1, 12)
    else (m.step.1.link ⟨s, if gone then ByteArray.empty else t, i⟩, 0)
def Med.rfile (D : Med) (l : List Int) (i : Nat) (p : ByteArray × Nat) : Fil := (D.file p.2).crash (num l (2 * i + 1)) (num l (2 * i + 2))
def Med.rcrash (D : Med) (l : List Int) : Med :=
  let ns := D.lastNames (clampN (num l 0) D.waits.length)
  { D with fast := ns.mapIdx fun i p => (p.1, i), now := ns.mapIdx fun i p => (p.1, i), waits := [], files := ns.mapIdx (D.rfile l), off := false, armed := false, left := 0 }
def Med.told (D : Med) (x : Cal) : Med × (Bs × Int × Bool) :=
  if x.kind = 0 then ((D.create x.name).1, [], (D.create x.name).2, false)
  else if x.kind = 1 then ((D.append x.name x.b).1, [], (D.append x.name x.b).2, false)
  else if x.kind = 2 then ((D.truncate x.name x.n).1, [], (D.truncate x.name x.n).2, false)
  else if x.kind = 3 then ((D.rmove x.name x.to false).1, [], (D.rmove x.name x.to false).2, false)
  else if x.kind = 4 then ((D.rmove x.name ByteArray.empty true).1, [], (D.rmove x.name ByteArray.empty true).2, false)
  else if x.kind = 5 then ((D.sync x.name).1, [], (D.sync x.name).2, false)
  else if x.kind = 6 then (D.syncDir.1, [], D.syncDir.2, false)
  else if x.kind = 7 then ((D.arm x.n).1, [], (D.arm x.n).2, false)
  else if x.kind = 8 then (D.rcrash x.l, [], 0, false)
  else if x.kind = 9 then ((D.setRoom x.n).1, [], (D.setRoom x.n).2, false)
  else if x.kind = 10 then ((D.rot x.name x.n (lowByte x.m)).1, [], 0, (D.rot x.name x.n (lowByte x.m)).2)
  else (D, (D.read x.name x.n x.m).1, (D.read x.name x.n x.m).2, false)
def ren (φ : Nat → Nat) (l : Names) : Names := l.map fun p => (p.1, φ p.2)
theorem ren_len (φ : Nat → Nat) (l : Names) : (ren φ l).length = l.length := by unfold ren; rw [List.length_map]
theorem ren_keys (φ : Nat → Nat) (l : Names) : (ren φ l).map (·.1) = l.map (·.1) := by unfold ren; rw [List.map_map]; rfl
theorem ren_get (φ : Nat → Nat) (l : Names) (s : ByteArray) : nget (ren φ l) s = (nget l s).map φ := by
  unfold nget ren
  rw [List.find?_map, Option.map_map, Option.map_map]
  rfl
theorem ren_del (φ : Nat → Nat) (l : Names) (s : ByteArray) : ndel (ren φ l) s = ren φ (ndel l s) := by
  unfold ndel ren
  rw [List.filter_map]
  rfl
theorem ren_ins (φ : Nat → Nat) (s : ByteArray) (i : Nat) : ∀ l : Names, nins (ren φ l) s (φ i) = ren φ (nins l s i)
  | [] => rfl
  | p :: l => by
    show nins ((p.1, φ p.2) :: ren φ l) s (φ i) = ren φ (nins (p :: l) s i)
    unfold nins
    dsimp only
    split
    · rfl
    · rw [ren_ins φ s i l]; rfl
theorem ren_put (φ : Nat → Nat) (l : Names) (s : ByteArray) (i : Nat) : nput (ren φ l) s (φ i) = ren φ (nput l s i) := by
  unfold nput
  rw [ren_del, ren_ins]
theorem ren_on {φ : Nat → Nat} {x y : Lnk} (h1 : y.fr = x.fr) (h2 : y.to = x.to) (h3 : x.to ≠ ByteArray.empty → y.f = φ x.f) (l : Names) : y.on (ren φ l) = ren φ (x.on l) := by
  unfold Lnk.on
  rw [h1, h2]
  have e : (if x.fr = ByteArray.empty then ren φ l else ndel (ren φ l) x.fr) = ren φ (if x.fr = ByteArray.empty then l else ndel l x.fr) := by
    split
    · rfl
    · exact ren_del _ _ _
  dsimp only
  rw [e]
  split
  · rfl
  · rename_i ht
    rw [h3 ht, ren_put]
theorem ren_congr {φ ψ : Nat → Nat} {l : Names} (h : ∀ p ∈ l, φ p.2 = ψ p.2) : ren φ l = ren ψ l := by
  unfold ren
  exact List.map_congr_left fun p hp => by rw [h p hp]
structure Side (φ : Nat → Nat) (L : Nat → Prop) (M D : Med) : Prop where
  room : D.room = M.room
  armed : D.armed = M.armed
  left : D.left = M.left
  off : D.off = M.off
  wl : D.waits.length = M.waits.length
  now : D.now = ren φ M.now
  names : ∀ k, k ≤ M.waits.length → D.lastNames k = ren φ (M.lastNames k)
  live : ∀ k, k ≤ M.waits.length → ∀ p ∈ M.lastNames k, L p.2
  once : ∀ k, k ≤ M.waits.length → ((M.lastNames k).map (·.2)).Nodup
  inj : ∀ i j, L i → L j → φ i = φ j → i = j
  file : ∀ i, L i → D.file (φ i) = M.file i
  lt : ∀ i, L i → φ i < D.files.length
  ml : ∀ i, L i → i < M.files.length
theorem Side.new (r : Nat) : Side id (fun _ => False) (new r) (new r) :=
  ⟨rfl, rfl, rfl, rfl, rfl, rfl, (fun k hk => by simp [Med.new] at hk; subst hk; rfl), (fun k hk p hp => by simp [Med.new] at hk; subst hk; simp [Med.new, Med.lastNames] at hp), (fun k hk => by simp [Med.new] at hk; subst hk; exact List.nodup_nil), fun _ _ h => h.elim, fun _ h => h.elim, fun _ h => h.elim, fun _ h => h.elim⟩
theorem step_bits {M D : Med} (h1 : D.armed = M.armed) (h2 : D.left = M.left) (h3 : D.off = M.off) : D.step.1.armed = M.step.1.armed ∧ D.step.1.left = M.step.1.left ∧ D.step.1.off = M.step.1.off := by
  obtain ⟨room, fast, now, files, waits, armed, left, off⟩ := M
  obtain ⟨room', fast', now', files', waits', armed', left', off'⟩ := D
  simp only at h1 h2 h3
  subst h1; subst h2; subst h3
  unfold Med.step
  dsimp only
  cases armed'
  · exact ⟨rfl, rfl, rfl⟩
  · simp only [if_true]
    by_cases hz : left' = 0
    · simp only [hz, if_true]; exact ⟨trivial, trivial, trivial⟩
    · simp only [hz, if_false]; exact ⟨trivial, trivial, trivial⟩
section
variable {φ : Nat → Nat} {L : Nat → Prop} {M D : Med} {K : Nat}
theorem Side.step2 (h : Side φ L M D) : D.step.2 = M.step.2 := by
  unfold Med.step
  rw [h.armed, h.left]
  split
  · split <;> rfl
  · rfl
theorem Side.step (h : Side φ L M D) : Side φ L M.step.1 D.step.1 := by
  have hM := M.step_same; have hD := D.step_same
  obtain ⟨a1, a2, a3, a4, a5⟩ := hM
  obtain ⟨b1, b2, b3, b4, b5⟩ := hD
  have f1 : ∀ k, M.step.1.lastNames k = M.lastNames k := fun k => by unfold Med.lastNames; rw [a5, a2]
  have f2 : ∀ k, D.step.1.lastNames k = D.lastNames k := fun k => by unfold Med.lastNames; rw [b5, b2]
  have g1 : ∀ k, M.step.1.file k = M.file k := fun k => by unfold Med.file; rw [a4]
  have g2 : ∀ k, D.step.1.file k = D.file k := fun k => by unfold Med.file; rw [b4]
  have hal := step_bits h.armed h.left h.off
  exact ⟨by rw [a1, b1]; exact h.room, hal.1, hal.2.1, hal.2.2, by rw [a5, b5]; exact h.wl, by rw [a3, b3]; exact h.now, fun k hk => by rw [f1, f2]; rw [a5] at hk; exact h.names k hk, fun k hk => by rw [f1]; rw [a5] at hk; exact h.live k hk, fun k hk => by rw [f1]; rw [a5] at hk; exact h.once k hk, h.inj, fun i hi => by rw [g1, g2]; exact h.file i hi, fun i hi => by rw [b4]; exact h.lt i hi, fun i hi => by rw [a4]; exact h.ml i hi⟩
theorem Side.setFile (h : Side φ L M D) {i : Nat} (hi : L i) (f : Fil) : Side φ L (M.setFile i f) (D.setFile (φ i) f) := by
  have hD : (D.setFile (φ i) f).files.length = D.files.length := by simp [Med.setFile]
  have hM : (M.setFile i f).files.length = M.files.length := by simp [Med.setFile]
  refine ⟨h.room, h.armed, h.left, h.off, h.wl, h.now, h.names, h.live, h.once, h.inj, fun j hj => ?_, fun j hj => by rw [hD]; exact h.lt j hj, fun j hj => by rw [hM]; exact h.ml j hj⟩
  rw [file_set (h.lt i hi), file_set (h.ml i hi)]
  by_cases e : j = i
  · subst e; rw [if_pos rfl, if_pos rfl]
  · rw [if_neg e, if_neg fun e2 => e (h.inj j i hj hi e2)]
    exact h.file j hj
theorem Side.link (h : Side φ L M D) (ok : M.now = M.lastNames M.waits.length) {x y : Lnk} (h1 : y.fr = x.fr) (h2 : y.to = x.to) (h3 : x.to ≠ ByteArray.empty → y.f = φ x.f) (hl : ∀ p ∈ x.on M.now, L p.2) (hn : ((x.on M.now).map (·.2)).Nodup) :
    Side φ L (M.link x) (D.link y) := by
  have hM : (M.link x).waits.length = M.waits.length + 1 := by simp [Med.link]
  have hD : (D.link y).waits.length = D.waits.length + 1 := by simp [Med.link]
  have okD : D.now = D.lastNames D.waits.length := by rw [h.now, h.wl, h.names _ (Nat.le_refl _), ok]
  have hon : y.on D.now = ren φ (x.on M.now) := by rw [h.now]; exact ren_on h1 h2 h3 _
  have key : ∀ k, k ≤ (M.link x).waits.length → (k ≤ M.waits.length ∧ (M.link x).lastNames k = M.lastNames k ∧ (D.link y).lastNames k = D.lastNames k) ∨ ((M.link x).lastNames k = x.on M.now ∧ (D.link y).lastNames k = y.on D.now) := by
    intro k hk
    rw [hM] at hk
    rcases Nat.lt_or_ge k (M.waits.length + 1) with hlt | hge
    · exact .inl ⟨by omega, M.lastNames_link x k (by omega), D.lastNames_link y k (by rw [h.wl]; omega)⟩
    · obtain rfl : k = M.waits.length + 1 := by omega
      refine .inr ⟨M.lastNames_last x ok, ?_⟩
      rw [← h.wl]; exact D.lastNames_last y okD
  refine ⟨h.room, h.armed, h.left, h.off, by rw [hM, hD, h.wl], hon, fun k hk => ?_, fun k hk => ?_, fun k hk => ?_, h.inj, h.file, h.lt, h.ml⟩
  · rcases key k hk with ⟨a, b, c⟩ | ⟨a, b⟩
    · rw [b, c]; exact h.names k a
    · rw [a, b]; exact hon
  · rcases key k hk with ⟨a, b, c⟩ | ⟨a, b⟩
    · rw [b]; exact h.live k a
    · rw [a]; exact hl
  · rcases key k hk with ⟨a, b, c⟩ | ⟨a, b⟩
    · rw [b]; exact h.once k a
    · rw [a]; exact hn
theorem Side.newFile (h : Side φ L M D) (ok : M.now = M.lastNames M.waits.length) : Side (fun i => if i = M.files.length then D.files.length else φ i) (fun i => L i ∨ i = M.files.length) { M with files := M.files ++ [Fil.new] } { D with files := D.files ++ [Fil.new] } := by
  have hne : ∀ i, L i → i ≠ M.files.length := fun i hi => Nat.ne_of_lt (h.ml i hi)
  have hr : ∀ l : Names, (∀ p ∈ l, L p.2) → ren (fun i => if i = M.files.length then D.files.length else φ i) l = ren φ l := fun l hl => ren_congr fun p hp => if_neg (hne _ (hl p hp))
  have hlM : ∀ k, ({ M with files := M.files ++ [Fil.new] } : Med).lastNames k = M.lastNames k := fun _ => rfl
  have hlD : ∀ k, ({ D with files := D.files ++ [Fil.new] } : Med).lastNames k = D.lastNames k := fun _ => rfl
  have fM : ∀ i, i ≠ M.files.length → ({ M with files := M.files ++ [Fil.new] } : Med).file i = M.file i := by
    intro i hi
    unfold Med.file
    dsimp only
    rw [List.getD_eq_getElem?_getD, List.getD_eq_getElem?_getD]
    rcases Nat.lt_or_ge i M.files.length with a | a
    · rw [List.getElem?_append_left a]
    · rw [List.getElem?_eq_none (by simp; omega), List.getElem?_eq_none a]
  have fD : ∀ i, i < D.files.length → ({ D with files := D.files ++ [Fil.new] } : Med).file i = D.file i := by
    intro i hi
    unfold Med.file
    dsimp only
    rw [List.getD_eq_getElem?_getD, List.getD_eq_getElem?_getD, List.getElem?_append_left hi]
  refine ⟨h.room, h.armed, h.left, h.off, h.wl, ?_, fun k hk => ?_, fun k hk p hp => .inl (h.live k hk p hp), h.once, ?_, ?_, ?_, ?_⟩
  · show D.now = ren _ M.now
    rw [hr _ (by rw [ok]; exact h.live _ (Nat.le_refl _))]; exact h.now
  · rw [hlD, hlM, hr _ (h.live k hk)]; exact h.names k hk
  · intro i j hi hj e
    rcases hi with hi | rfl
    · rw [if_neg (hne i hi)] at e
      rcases hj with hj | rfl
      · rw [if_neg (hne j hj)] at e; exact h.inj i j hi hj e
      · rw [if_pos rfl] at e; have := h.lt i hi; omega
    · rw [if_pos rfl] at e
      rcases hj with hj | rfl
      · rw [if_neg (hne j hj)] at e; have := h.lt j hj; omega
      · rfl
  · intro i hi
    rcases hi with hi | rfl
    · rw [if_neg (hne i hi), fM i (hne i hi), fD _ (h.lt i hi)]; exact h.file i hi
    · rw [if_pos rfl]
      unfold Med.file
      simp
  · intro i hi
    dsimp only
    rcases hi with hi | rfl
    · rw [if_neg (hne i hi)]; have := h.lt i hi; simp; omega
    · rw [if_pos rfl]; simp
  · intro i hi
    rcases hi with hi | rfl
    · have := h.ml i hi; simp; omega
    · simp
end
end Go.Med
namespace Go.Med
theorem idx_at : ∀ {l : List Nat} {k x : Nat}, l.Nodup → l[k]? = some x → l.idxOf x = k
  | [], k, x, _, h => by simp at h
  | a :: l, 0, x, _, h => by
    obtain rfl : a = x := by simpa using h
    exact List.idxOf_cons_self
  | a :: l, k + 1, x, hn, h => by
    have h' : l[k]? = some x := by simpa using h
    obtain ⟨h1, h2⟩ := List.nodup_cons.1 hn
    have hne : a ≠ x := fun e => h1 (by rw [e]; exact List.mem_of_getElem? h')
    rw [List.idxOf_cons, show (a == x) = false by simpa using hne, idx_at h2 h']; rfl
theorem crash_get (l : List Int) : ∀ (ns : Names) (j : Nat) (fs : List Fil), (ns.map (·.2)).Nodup → (∀ p ∈ ns, p.2 < fs.length) →
    (∀ (k : Nat) p, ns[k]? = some p → (crashFiles l ns j fs).getD p.2 Fil.new = (fs.getD p.2 Fil.new).crash (num l (j + 2 * k)) (num l (j + 2 * k + 1))) ∧ ∀ i, i ∉ ns.map (·.2) → (crashFiles l ns j fs).getD i Fil.new = fs.getD i Fil.new
  | [], _, _, _, _ => ⟨fun k p h => by simp at h, fun _ _ => rfl⟩
  | q :: ns, j, fs, hn, hl => by
    obtain ⟨h1, h2⟩ := List.nodup_cons.1 hn
    have hq := hl q (.head _)
    obtain ⟨a, b⟩ := crash_get l ns (j + 2) (fs.set q.2 ((fs.getD q.2 Fil.new).crash (num l j) (num l (j + 1)))) h2 (fun p hp => by rw [List.length_set]; exact hl p (.tail _ hp))
    have hset : ∀ i, i ≠ q.2 → (fs.set q.2 ((fs.getD q.2 Fil.new).crash (num l j) (num l (j + 1)))).getD i Fil.new = fs.getD i Fil.new := by
      intro i hi
      simp only [List.getD_eq_getElem?_getD]
      rw [List.getElem?_set_ne (Ne.symm hi)]
    refine ⟨fun k p hk => ?_, fun i hi => ?_⟩
    · cases k with
      | zero =>
        obtain rfl : q = p := by simpa using hk
        show (crashFiles l ns (j + 2) _).getD q.2 Fil.new = _
        rw [b _ h1]
        show List.getD _ _ _ = (fs.getD q.2 Fil.new).crash (num l (j + 0)) (num l (j + 0 + 1))
        rw [List.getD_eq_getElem?_getD, List.getElem?_set_self hq]
        rfl
      | succ k =>
        have hk' : ns[k]? = some p := by simpa using hk
        show (crashFiles l ns (j + 2) _).getD p.2 Fil.new = _
        rw [a k p hk', hset p.2 fun e => h1 (List.mem_map.2 ⟨p, List.mem_of_getElem? hk', e⟩)]
        rw [show j + 2 + 2 * k = j + 2 * (k + 1) by omega]
    · simp only [List.map_cons, List.mem_cons, not_or] at hi
      show (crashFiles l ns (j + 2) _).getD i Fil.new = _
      rw [b i hi.2, hset i hi.1]
theorem ren_idx (φ : Nat → Nat) {ns : Names} (hn : (ns.map (·.2)).Nodup) : ((ren φ ns).mapIdx fun i p => (p.1, i)) = ren (fun i => (ns.map (·.2)).idxOf i) ns := by
  apply List.ext_getElem?
  intro k
  rw [List.getElem?_mapIdx]
  unfold ren
  rw [List.getElem?_map, List.getElem?_map]
  cases hk : ns[k]? with
  | none => rfl
  | some p =>
    simp only [Option.map_some]
    rw [idx_at hn (by rw [List.getElem?_map, hk]; rfl)]
section
variable {φ : Nat → Nat} {L : Nat → Prop} {M D : Med} {K : Nat}
theorem Side.crash (h : Side φ L M D) (l : List Int) : ∃ φ' L', Side φ' L' (M.crash l) (D.rcrash l) := by
  have hk := clampN_le (num l 0) M.waits.length
  unfold Med.crash Med.rcrash
  rw [h.wl]
  generalize clampN (num l 0) M.waits.length = k at *
  rw [h.names k hk]
  have hn := h.once k hk
  have hl := h.live k hk
  generalize M.lastNames k = ns at *
  dsimp only
  obtain ⟨c1, _⟩ := crash_get l ns 1 M.files hn fun p hp => h.ml _ (hl p hp)
  refine ⟨fun i => (ns.map (·.2)).idxOf i, fun i => i ∈ ns.map (·.2), h.room, rfl, rfl, rfl, rfl, ren_idx φ hn, fun j hj => ?_, fun j hj p hp => ?_, fun j hj => ?_, fun i j hi hj e => ?_, fun i hi => ?_, fun i hi => ?_, fun i hi => ?_⟩
  · have hj0 : j = 0 := by simpa using hj
    subst hj0
    exact ren_idx φ hn
  · have hj0 : j = 0 := by simpa using hj
    subst hj0
    exact List.mem_map.2 ⟨p, hp, rfl⟩
  · have hj0 : j = 0 := by simpa using hj
    subst hj0
    exact hn
  · obtain ⟨a, ha⟩ := List.getElem?_of_mem hi
    obtain ⟨b, hb⟩ := List.getElem?_of_mem hj
    rw [idx_at hn ha, idx_at hn hb] at e
    subst e
    rw [ha] at hb
    exact Option.some.inj hb
  · obtain ⟨a, ha⟩ := List.getElem?_of_mem hi
    rw [idx_at hn ha]
    rw [List.getElem?_map] at ha
    obtain ⟨p, hp, rfl⟩ := Option.map_eq_some_iff.1 ha
    unfold Med.file
    dsimp only
    rw [c1 a p hp, List.getD_eq_getElem?_getD, List.getElem?_mapIdx]
    unfold ren
    rw [List.getElem?_map, hp]
    have := h.file _ (hl p (List.mem_of_getElem? hp))
    show (D.file (φ p.2)).crash (num l (2 * a + 1)) (num l (2 * a + 2)) = (M.file p.2).crash _ _
    rw [this, show 1 + 2 * a = 2 * a + 1 by omega]
  · obtain ⟨a, ha⟩ := List.getElem?_of_mem hi
    dsimp only
    rw [idx_at hn ha, List.length_mapIdx, ren_len]
    rw [List.getElem?_map] at ha
    obtain ⟨p, hp, _⟩ := Option.map_eq_some_iff.1 ha
    exact (List.getElem?_eq_some_iff.1 hp).1
  · obtain ⟨p, hp, rfl⟩ := List.mem_map.1 hi
    dsimp only
    rw [crashFiles_len]
    exact h.ml _ (hl p hp)
theorem Side.get (h : Side φ L M D) (s : ByteArray) : nget D.now s = (nget M.now s).map φ := by rw [h.now, ren_get]
theorem Side.nowLive (h : Side φ L M D) (ok : M.Ok K) : ∀ p ∈ M.now, L p.2 := by rw [ok.now]; exact h.live _ (Nat.le_refl _)
theorem Side.getLive (h : Side φ L M D) (ok : M.Ok K) {s : ByteArray} {i : Nat} (hi : nget M.now s = some i) : L i := h.nowLive ok _ (nget_mem hi)
theorem Side.nowOnce (h : Side φ L M D) (ok : M.Ok K) : (M.now.map (·.2)).Nodup := by rw [ok.now]; exact h.once _ (Nat.le_refl _)
theorem Side.used (h : Side φ L M D) (ok : M.Ok K) : D.used = M.used := by
  unfold Med.used
  rw [h.now]
  unfold ren
  rw [List.map_map]
  congr 1
  refine List.map_congr_left fun p hp => ?_
  show (D.file (φ p.2)).now.length = _
  rw [h.file _ (h.nowLive ok p hp)]
def Both (r q : Med × Int) : Prop := r.2 = q.2 ∧ ∃ φ L, Side φ L r.1 q.1
theorem Both.same (h : Side φ L M D) (e : Int) : Both (M, e) (D, e) := ⟨rfl, φ, L, h⟩
theorem Side.create (h : Side φ L M D) (ok : M.Ok K) (s : ByteArray) : Both (M.create s) (D.create s) := by
  unfold Med.create
  rw [h.off, h.get, Option.isSome_map, h.step2, h.now, ren_len]
  split; · exact .same h _
  split; · exact .same h _
  rename_i hg
  split; · exact .same h _
  rename_i hn
  split; · exact .same h _
  split; · exact .same h.step _
  have hg' : good s = true := by simpa using hg
  have hn' : nget M.now s = none := by simpa using hn
  have hst := h.step
  have okst := ok.step
  obtain ⟨e1, e2, e3, e4, e5⟩ := M.step_same
  obtain ⟨_, _, _, d4, _⟩ := D.step_same
  have h1 := hst.newFile okst.now
  rw [e4, d4] at h1
  refine ⟨rfl, _, _, h1.link (x := ⟨ByteArray.empty, s, M.files.length⟩) (y := ⟨ByteArray.empty, s, D.files.length⟩) okst.now rfl rfl (fun _ => (if_pos rfl).symm) ?_ ?_⟩
  · intro p hp
    have hp' : p ∈ nput M.step.1.now s M.files.length := by
      have : (Lnk.mk ByteArray.empty s M.files.length).on M.step.1.now = nput M.step.1.now s M.files.length := by
        unfold Lnk.on
        simp only [if_true, if_neg (good_ne hg')]
      rw [← this]; exact hp
    rcases List.mem_cons.1 ((nput_perm _ _ _).mem_iff.1 hp') with rfl | hp
    · exact .inr rfl
    · exact .inl (hst.nowLive okst p (List.mem_filter.1 hp).1)
  · show (((Lnk.mk ByteArray.empty s M.files.length).on M.step.1.now).map (·.2)).Nodup
    unfold Lnk.on
    simp only [if_true, if_neg (good_ne hg')]
    refine nodup_put (hst.nowOnce okst) fun p hp e => ?_
    have := hst.ml _ (hst.nowLive okst p hp)
    rw [e4, e] at this
    exact Nat.lt_irrefl _ this
theorem Side.append (h : Side φ L M D) (ok : M.Ok K) (s : ByteArray) (b : Bs) : Both (M.append s b) (D.append s b) := by
  unfold Med.append
  rw [h.off, h.get, h.step2, h.room, h.used ok]
  split; · exact .same h _
  cases hi : nget M.now s with
  | none => exact .same h _
  | some i =>
    simp only [Option.map_some]
    split; · exact .same h _
    split; · exact .same h.step _
    have hL := h.getLive ok hi
    rw [h.file i hL]
    exact .same (h.step.setFile hL _) _
theorem Side.syncDir (h : Side φ L M D) (ok : M.Ok K) : Both M.syncDir D.syncDir := by
  unfold Med.syncDir
  rw [h.off, h.step2]
  split; · exact .same h _
  split; · exact .same h.step _
  have hs := h.step
  refine ⟨rfl, φ, L, hs.room, hs.armed, hs.left, hs.off, rfl, hs.now, fun k hk => ?_, fun k hk => ?_, fun k hk => ?_, hs.inj, hs.file, hs.lt, hs.ml⟩
  · obtain rfl : k = 0 := by simpa using hk
    exact h.now
  · obtain rfl : k = 0 := by simpa using hk
    exact h.nowLive ok
  · obtain rfl : k = 0 := by simpa using hk
    exact h.nowOnce ok
theorem Side.arm (h : Side φ L M D) (n : Int) : Both (M.arm n) (D.arm n) := by
  unfold Med.arm
  rw [h.off]
  split; · exact .same h _
  split; · exact .same h _
  exact ⟨rfl, φ, L, h.room, rfl, rfl, rfl, h.wl, h.now, h.names, h.live, h.once, h.inj, h.file, h.lt, h.ml⟩
theorem Side.all (h : Side φ L M D) (ok : M.Ok K) (s : ByteArray) : D.all s = M.all s := by
  unfold Med.all
  rw [h.off, h.get]
  split; · rfl
  cases hi : nget M.now s with
  | none => rfl
  | some i =>
    simp only [Option.map_some]
    rw [h.file i (h.getLive ok hi)]
theorem Side.list (h : Side φ L M D) : D.list = M.list := by
  unfold Med.list
  rw [h.off, h.now, ren_keys]
theorem Side.remove (h : Side φ L M D) (ok : M.Ok K) (s t : ByteArray) : Both (M.remove s) (D.rmove s t true) := by
  unfold Med.remove Med.rmove
  rw [h.off, h.get, h.step2]
  split; · exact .same h _
  cases hi : nget M.now s with
  | none => exact .same h _
  | some i =>
    simp only [Option.map_some, Bool.true_eq_false, false_and, if_false, if_true]
    split; · exact .same h.step _
    have hst := h.step
    have okst := ok.step
    have hs : s ≠ ByteArray.empty := ok.nowOk.ne _ (nget_mem hi)
    have hon : (Lnk.mk s ByteArray.empty 0).on M.step.1.now = ndel M.step.1.now s := by
      unfold Lnk.on
      simp only [if_neg hs, if_true]
    refine ⟨rfl, φ, L, hst.link okst.now rfl rfl (fun hh => absurd rfl hh) ?_ ?_⟩
    · rw [hon]
      exact fun p hp => hst.nowLive okst p (List.mem_filter.1 hp).1
    · rw [hon]
      exact (hst.nowOnce okst).sublist (List.filter_sublist.map _)
end
theorem Med.Ok.rmove {K : Nat} {m : Med} (h : m.Ok K) (s t : ByteArray) (gone : Bool) : (m.rmove s t gone).1.Ok (K + 1) := by
  cases gone with
  | false =>
    have e : m.rmove s t false = m.rename s t := by
      unfold Med.rmove Med.rename
      cases m.off
      · cases nget m.now s
        · rfl
        · simp
      · rfl
    rw [e]; exact h.rename s t
  | true =>
    unfold Med.rmove
    have h' := h.mono (Nat.le_succ K)
    split; · exact h'
    split; · exact h'
    rename_i i hi
    simp only [Bool.true_eq_false, false_and, if_false, if_true]
    split; · exact h'.step
    obtain ⟨e1, e2, e3, e4, e5⟩ := m.step_same
    refine h.step.link _ (fun hh => absurd rfl hh) ?_
    rw [e3, e4]
    unfold Lnk.on
    have hs : s ≠ ByteArray.empty := h.nowOk.ne _ (nget_mem hi)
    simp only [if_neg hs, if_true]
    exact h.nowOk.del s
theorem Med.Ok.rcrash {K : Nat} {m : Med} (h : m.Ok K) (l : List Int) : (m.rcrash l).Ok K := by
  unfold Med.rcrash
  have hk := clampN_le (num l 0) m.waits.length
  generalize clampN (num l 0) m.waits.length = k at *
  have hn := h.names k hk
  generalize m.lastNames k = ns at *
  have hlast : NOk ns.length (ns.mapIdx fun i p => (p.1, i)) := by
    have hkeys : (ns.mapIdx fun i p => (p.1, i)).map (·.1) = ns.map (·.1) := by
      apply List.ext_getElem?
      intro j
      rw [List.getElem?_map, List.getElem?_mapIdx, List.getElem?_map]
      cases ns[j]? <;> rfl
    have hmem : ∀ p ∈ (ns.mapIdx fun i p => (p.1, i)), p.2 < ns.length ∧ ∃ q ∈ ns, q.1 = p.1 := by
      intro p hp
      obtain ⟨i, hi, rfl⟩ := List.mem_mapIdx.1 hp
      exact ⟨hi, _, List.getElem_mem hi, rfl⟩
    refine ⟨?_, by rw [List.length_mapIdx]; exact hn.len, fun p hp => (hmem p hp).1, fun p hp => ?_⟩
    · have h1 : (ns.map (·.1)).Pairwise fun a b => lt a b = true := by rw [List.pairwise_map]; exact hn.srt
      rw [← hkeys, List.pairwise_map] at h1
      exact h1
    · obtain ⟨_, q, hq, e⟩ := hmem p hp
      rw [← e]; exact hn.ne q hq
  dsimp only
  refine ⟨h.room, Nat.zero_le _, (fun x hx => by cases hx), fun j hj => ?_, rfl, fun f hf => ?_, Nat.zero_le _⟩
  · have hj0 : j = 0 := by simpa using hj
    subst hj0
    show NOk (ns.mapIdx _).length (ns.mapIdx fun i p => (p.1, i))
    rw [List.length_mapIdx]; exact hlast
  · obtain ⟨i, hi, rfl⟩ := List.mem_mapIdx.1 hf
    exact (h.file _).crash _ _
theorem Med.told_ind {P : Med × Bs × Int × Bool → Prop} {M : Med} {x : Cal}
    (h0 : x.kind = 0 → P ((M.create x.name).1, [], (M.create x.name).2, false))
    (h1 : x.kind = 1 → P ((M.append x.name x.b).1, [], (M.append x.name x.b).2, false))
    (h2 : x.kind = 2 → P ((M.truncate x.name x.n).1, [], (M.truncate x.name x.n).2, false))
    (h3 : x.kind = 3 → P ((M.rmove x.name x.to false).1, [], (M.rmove x.name x.to false).2, false))
    (h4 : x.kind = 4 → P ((M.rmove x.name ByteArray.empty true).1, [], (M.rmove x.name ByteArray.empty true).2, false))
    (h5 : x.kind = 5 → P ((M.sync x.name).1, [], (M.sync x.name).2, false))
    (h6 : x.kind = 6 → P (M.syncDir.1, [], M.syncDir.2, false))
    (h7 : x.kind = 7 → P ((M.arm x.n).1, [], (M.arm x.n).2, false))
    (h8 : x.kind = 8 → P (M.rcrash x.l, [], 0, false))
    (h9 : x.kind = 9 → P ((M.setRoom x.n).1, [], (M.setRoom x.n).2, false))
    (h10 : x.kind = 10 → P ((M.rot x.name x.n (lowByte x.m)).1, [], 0, (M.rot x.name x.n (lowByte x.m)).2))
    (hz : x.kind ≠ 0 ∧ x.kind ≠ 1 ∧ x.kind ≠ 2 ∧ x.kind ≠ 3 ∧ x.kind ≠ 4 ∧ x.kind ≠ 5 ∧ x.kind ≠ 6 ∧ x.kind ≠ 7 ∧ x.kind ≠ 8 ∧ x.kind ≠ 9 ∧ x.kind ≠ 10 → P (M, (M.read x.name x.n x.m).1, (M.read x.name x.n x.m).2, false)) : P (M.told x) := by
  unfold Med.told
  by_cases c0 : x.kind = 0; · rw [if_pos c0]; exact h0 c0
  rw [if_neg c0]
  by_cases c1 : x.kind = 1; · rw [if_pos c1]; exact h1 c1
  rw [if_neg c1]
  by_cases c2 : x.kind = 2; · rw [if_pos c2]; exact h2 c2
  rw [if_neg c2]
  by_cases c3 : x.kind = 3; · rw [if_pos c3]; exact h3 c3
  rw [if_neg c3]
  by_cases c4 : x.kind = 4; · rw [if_pos c4]; exact h4 c4
  rw [if_neg c4]
  by_cases c5 : x.kind = 5; · rw [if_pos c5]; exact h5 c5
  rw [if_neg c5]
  by_cases c6 : x.kind = 6; · rw [if_pos c6]; exact h6 c6
  rw [if_neg c6]
  by_cases c7 : x.kind = 7; · rw [if_pos c7]; exact h7 c7
  rw [if_neg c7]
  by_cases c8 : x.kind = 8; · rw [if_pos c8]; exact h8 c8
  rw [if_neg c8]
  by_cases c9 : x.kind = 9; · rw [if_pos c9]; exact h9 c9
  rw [if_neg c9]
  by_cases c10 : x.kind = 10; · rw [if_pos c10]; exact h10 c10
  rw [if_neg c10]
  exact hz ⟨c0, c1, c2, c3, c4, c5, c6, c7, c8, c9, c10⟩
theorem Med.Ok.told {K : Nat} {M : Med} (h : M.Ok K) (x : Cal) (hn : x.n ≤ 9223372036854775807) : (M.told x).1.Ok (K + 1) := by
  have h' := h.mono (Nat.le_succ K)
  refine Med.told_ind (P := fun r => r.1.Ok (K + 1)) ?_ ?_ ?_ ?_ ?_ ?_ ?_ ?_ ?_ ?_ ?_ ?_
  · exact fun _ => h.create _
  · exact fun _ => h.append _ _
  · exact fun _ => h.truncate _ _
  · exact fun _ => h.rmove _ _ _
  · exact fun _ => h.rmove _ _ _
  · exact fun _ => h.sync _
  · exact fun _ => h.syncDir.mono (Nat.le_succ K)
  · exact fun _ => (h.arm _ hn).mono (Nat.le_succ K)
  · exact fun _ => (h.rcrash _).mono (Nat.le_succ K)
  · exact fun _ => (h.setRoom _).mono (Nat.le_succ K)
  · exact fun _ => h.rot _ _ _
  · exact fun _ => h'
def Fil.Small (f : Fil) : Prop := ∀ c ∈ f.waits, c.b.length ≤ 16777216
def Med.Small (m : Med) : Prop := ∀ f ∈ m.files, f.Small
theorem Med.Small.file {m : Med} (h : m.Small) (i : Nat) : (m.file i).Small := by
  unfold Med.file
  rcases Nat.lt_or_ge i m.files.length with hi | hi
  · rw [List.getD_eq_getElem?_getD, List.getElem?_eq_getElem hi]; exact h _ (List.getElem_mem hi)
  · rw [List.getD_eq_getElem?_getD, List.getElem?_eq_none hi]; intro c hc; cases hc
theorem Med.Small.step {m : Med} (h : m.Small) : m.step.1.Small := by
  intro f hf
  rw [m.step_same.2.2.2.1] at hf
  exact h f hf
theorem Med.Small.setFile {m : Med} (h : m.Small) (i : Nat) {f : Fil} (hf : f.Small) : (m.setFile i f).Small := by
  intro g hg
  rcases List.mem_or_eq_of_mem_set hg with hg | rfl
  · exact h g hg
  · exact hf
theorem Fil.Small.do {f : Fil} (h : f.Small) {c : Chg} (hc : c.b.length ≤ 16777216) : (f.do c).Small := by
  intro d hd
  rcases List.mem_append.1 hd with hd | hd
  · exact h d hd
  · rw [List.mem_singleton.1 hd]; exact hc
theorem Fil.Small.rot {f : Fil} (h : f.Small) (i : Nat) (y : UInt8) : (f.rot i y).Small := by
  unfold Fil.rot
  rcases rotWaits_spec f i y f.waits.length (Nat.le_refl _) with ⟨h1, h2⟩ | ⟨j, c, hj, hc, hcut, hl, h1, h2⟩
  · rw [h1]; exact h
  · rw [h1]
    intro d hd
    rcases List.mem_or_eq_of_mem_set hd with hd | rfl
    · exact h d hd
    · rw [xorAt_len]; exact h c (List.mem_of_getElem? hc)
theorem Med.Small.told {K : Nat} {M : Med} (h : M.Small) (ok : M.Ok K) (x : Cal) : (M.told x).1.Small := by
  have hst := h.step
  have hmv : ∀ s t g, (M.rmove s t g).1.Small := by
    intro s t g
    unfold Med.rmove
    split; · exact h
    split; · exact h
    split; · exact h
    split; · exact hst
    exact hst
  refine Med.told_ind (P := fun r => r.1.Small) ?_ ?_ ?_ ?_ ?_ ?_ ?_ ?_ ?_ ?_ ?_ ?_
  · intro _
    show (M.create x.name).1.Small
    unfold Med.create
    split; · exact h
    split; · exact h
    split; · exact h
    split; · exact h
    split; · exact hst
    intro f hf
    rcases List.mem_append.1 (show f ∈ M.files ++ [Fil.new] from hf) with hf | hf
    · exact h f hf
    · rw [List.mem_singleton.1 hf]; intro c hc; cases hc
  · intro _
    show (M.append x.name x.b).1.Small
    unfold Med.append
    split; · exact h
    split; · exact h
    split; · exact h
    rename_i hf
    split; · exact hst
    refine hst.setFile _ ((h.file _).do ?_)
    have := ok.room
    simp only
    omega
  · intro _
    show (M.truncate x.name x.n).1.Small
    unfold Med.truncate
    split; · exact h
    split; · exact h
    split; · exact h
    split; · exact hst
    exact hst.setFile _ ((h.file _).do (by simp))
  · exact fun _ => hmv _ _ _
  · exact fun _ => hmv _ _ _
  · intro _
    show (M.sync x.name).1.Small
    unfold Med.sync
    split; · exact h
    split; · exact h
    split; · exact hst
    exact hst.setFile _ (fun c hc => by cases hc)
  · intro _
    show M.syncDir.1.Small
    unfold Med.syncDir
    split; · exact h
    split; · exact hst
    exact hst
  · intro _
    show (M.arm x.n).1.Small
    unfold Med.arm
    split; · exact h
    split; · exact h
    exact h
  · intro _
    show (M.rcrash x.l).Small
    intro f hf
    obtain ⟨i, hi, rfl⟩ := List.mem_mapIdx.1 (show f ∈ _ from hf)
    intro c hc; cases hc
  · intro _
    show (M.setRoom x.n).1.Small
    unfold Med.setRoom
    split; · exact h
    split; · exact h
    exact h
  · intro _
    show (M.rot x.name x.n (lowByte x.m)).1.Small
    unfold Med.rot
    split; · exact h
    split; · exact h
    exact h.setFile _ ((h.file _).rot _ _)
  · exact fun _ => h
theorem step_fl (m : Med) : m.step.1.files.length = m.files.length := by rw [m.step_same.2.2.2.1]
theorem told_files {K J : Nat} {M : Med} (h : M.Ok K) (hf : M.files.length ≤ 500 + J) (x : Cal) : (M.told x).1.files.length ≤ 500 + (J + 1) := by
  have hs := step_fl M
  have h' : M.files.length ≤ 500 + (J + 1) := by omega
  have h'' : M.step.1.files.length ≤ 500 + (J + 1) := by omega
  have hset : ∀ i f, (M.step.1.setFile i f).files.length ≤ 500 + (J + 1) := fun i f => by unfold Med.setFile; simp; omega
  have hmv : ∀ s t g, (M.rmove s t g).1.files.length ≤ 500 + (J + 1) := by
    intro s t g
    unfold Med.rmove
    split; · exact h'
    split; · exact h'
    split; · exact h'
    split; · exact h''
    exact h''
  refine Med.told_ind (P := fun r => r.1.files.length ≤ 500 + (J + 1)) ?_ ?_ ?_ ?_ ?_ ?_ ?_ ?_ ?_ ?_ ?_ ?_
  · intro _
    show (M.create x.name).1.files.length ≤ _
    unfold Med.create
    split; · exact h'
    split; · exact h'
    split; · exact h'
    split; · exact h'
    split; · exact h''
    simp only [Med.link, List.length_append, List.length_singleton]; omega
  · intro _
    show (M.append x.name x.b).1.files.length ≤ _
    unfold Med.append
    split; · exact h'
    split; · exact h'
    split; · exact h'
    split; · exact h''
    exact hset _ _
  · intro _
    show (M.truncate x.name x.n).1.files.length ≤ _
    unfold Med.truncate
    split; · exact h'
    split; · exact h'
    split; · exact h'
    split; · exact h''
    exact hset _ _
  · exact fun _ => hmv _ _ _
  · exact fun _ => hmv _ _ _
  · intro _
    show (M.sync x.name).1.files.length ≤ _
    unfold Med.sync
    split; · exact h'
    split; · exact h'
    split; · exact h''
    exact hset _ _
  · intro _
    show M.syncDir.1.files.length ≤ _
    unfold Med.syncDir
    split; · exact h'
    split; · exact h''
    exact h''
  · intro _
    show (M.arm x.n).1.files.length ≤ _
    unfold Med.arm
    split; · exact h'
    split; · exact h'
    exact h'
  · intro _
    show (M.rcrash x.l).files.length ≤ _
    unfold Med.rcrash
    simp only [List.length_mapIdx]
    have := (h.names _ (clampN_le (num x.l 0) M.waits.length)).len
    omega
  · intro _
    show (M.setRoom x.n).1.files.length ≤ _
    unfold Med.setRoom
    split; · exact h'
    split; · exact h'
    exact h'
  · intro _
    show (M.rot x.name x.n (lowByte x.m)).1.files.length ≤ _
    unfold Med.rot
    split; · exact h'
    split; · exact h'
    simp only [Med.setFile, List.length_set]; exact h'
  · exact fun _ => h'
end Go.Med
namespace Go.Proofs.YtmjldaedhmipkaaGreatDoor
open Go Go.Sl Go.Med Go.MapKept Go.RowKit
section
variable {w0 w : World} {F R : List HProp} {d : Nat} {D : Med} {fsv fv nv wv v lv : Value} {xs : List RF} {g : Bag} {K : Nat}
set_option maxRecDepth 20000 in
set_option maxHeartbeats 8000000 in
theorem rmove_c (s t : ByteArray) (gone : Bool) (hs : t.size ≤ 9223372036854775806) (hl : D.now.length ≤ 1048575) (hw : D.waits.length ≤ 1048576) (hlf : D.left ≤ 9223372036854775807) (h : Sat w0 w (DskRep d D :: F)) :
    Calls Tryz.prog 83 #[ptr d, .string s, .string t, .bool gone] w (Rtn fun v w' => v = errno (D.rmove s t gone).2 ∧ Sat w0 w' (DskRep d (D.rmove s t gone).1 :: F)) := by
  have hfd := rfind_c s (by omega) h
  obtain ⟨fsv, fv, nv, wv, xs, g, hin, hR⟩ := DskRep.open h
  have Hin := Lib.hid hin; have Hl := Lib.hid hl; have Hw := Lib.hid hw; have Hlf := Lib.hid hlf
  have e7 : w.cell? ⟨d, 7, none⟩ = some (.bool D.off) := hR.cellP pick0 7 rfl
  clear h hin hl hw hlf
  have hgd := rgood_c t w hs
  cases ho : D.off with
  | true =>
    have Ha := Lib.hid (show D.rmove s t gone = (D, 12) by unfold Med.rmove; rw [ho]; rfl)
    rw [ho] at e7
    clear ho hfd hgd
    go_enter Tryz.func83, Tryz.ntmps83
    go_wp2
    go_ret
    exact ⟨_, rfl, by rw [Ha.out]; rfl, by rw [Ha.out]; exact DskRep.shut Hin.out hR⟩
  | false =>
    rw [ho] at e7
    have Ho := Lib.hid (show ¬ (D.off = true) by rw [ho]; decide)
    clear ho
    cases hk : nget D.now s with
    | none =>
      have Ha := Lib.hid (show D.rmove s t gone = (D, 9) by unfold Med.rmove; rw [if_neg Ho.out, hk])
      have hwh : D.which s = -1 := by unfold Med.which; rw [hk]
      rw [hwh] at hfd
      clear hk hwh hgd
      go_enter Tryz.func83, Tryz.ntmps83
      go_wp2_with fail
      refine hfd.mono ?_
      rintro ee w1 ⟨v, rfl, rfl, rfl⟩
      clear hfd
      go_wp2
      go_ret
      exact ⟨_, rfl, by rw [Ha.out]; rfl, by rw [Ha.out]; exact DskRep.shut Hin.out hR⟩
    | some i =>
      have hwh : D.which s = (i : Int) := by unfold Med.which; rw [hk]
      rw [hwh] at hfd
      have Hk := Lib.hid hk
      have c1 : ¬ (i : Int) < 0 := by omega
      clear hk hwh
      have hst := rstep_c hR Hlf.out
      have hin2 : DskIn D.step.1 fv nv xs g := ⟨by rw [step_files]; exact Hin.out.files, Hin.out.ok, by rw [step_fast]; exact Hin.out.fast, by rw [step_now]; exact Hin.out.now⟩
      have Hin2 := Lib.hid hin2
      clear hin2
      have Hl1 := Lib.hid (show D.step.1.now.length ≤ 1048575 by rw [step_now]; exact Hl.out)
      have Hw1 := Lib.hid (show D.step.1.waits.length ≤ 1048576 by rw [step_waits]; exact Hw.out)
      cases gone with
      | true =>
        clear hgd
        go_enter Tryz.func83, Tryz.ntmps83
        go_wp2_with fail
        refine hfd.mono ?_
        rintro ee w1 ⟨v, rfl, rfl, rfl⟩
        clear hfd
        go_wp2_with fail
        refine hst.mono ?_
        clear hst
        rintro ee w2 ⟨v, rfl, rfl, hS⟩
        clear hR e7 c1
        rw [← step_waits] at hS
        cases ht : D.step.2 with
        | false =>
          have Ha := Lib.hid (show D.rmove s t true = (D.step.1, 12) by unfold Med.rmove; rw [if_neg Ho.out, Hk.out]; simp only []; rw [if_neg (by simp), if_pos ht])
          clear ht
          go_wp2
          go_ret
          exact ⟨_, rfl, by rw [Ha.out]; rfl, by rw [Ha.out]; exact DskRep.shut Hin2.out hS⟩
        | true =>
          have Ha := Lib.hid (show D.rmove s t true = (D.step.1.link ⟨s, ByteArray.empty, i⟩, 0) by unfold Med.rmove; rw [if_neg Ho.out, Hk.out]; simp only []; rw [if_neg (by simp), if_neg (by rw [ht]; decide)]; rfl)
          clear ht
          have h6 := DskRep.shut Hin2.out hS
          clear hS
          go_wp2_with fail
          refine (rwait_c ⟨s, ByteArray.empty, i⟩ Hl1.out Hw1.out h6).mono ?_
          rintro ee w5 ⟨v, rfl, h7⟩
          clear h6
          go_wp2
          go_ret
          exact ⟨_, rfl, by rw [Ha.out]; rfl, by rw [Ha.out]; exact h7⟩
      | false =>
        cases hg : good t with
        | false =>
          have Ha := Lib.hid (show D.rmove s t false = (D, 7) by unfold Med.rmove; rw [if_neg Ho.out, Hk.out]; simp only []; rw [if_pos (by simp [hg])])
          rw [hg] at hgd
          clear hg hst
          go_enter Tryz.func83, Tryz.ntmps83
          go_wp2_with fail
          refine hfd.mono ?_
          rintro ee w1 ⟨v, rfl, rfl, rfl⟩
          clear hfd
          go_wp2_with fail
          refine hgd.mono ?_
          rintro ee w1 ⟨v, rfl, rfl, rfl⟩
          clear hgd
          go_wp2
          go_ret
          exact ⟨_, rfl, by rw [Ha.out]; rfl, by rw [Ha.out]; exact DskRep.shut Hin.out hR⟩
        | true =>
          have Hg := Lib.hid (show ¬ (false = false ∧ good t = false) by rw [hg]; decide)
          rw [hg] at hgd
          clear hg
          go_enter Tryz.func83, Tryz.ntmps83
          go_wp2_with fail
          refine hfd.mono ?_
          rintro ee w1 ⟨v, rfl, rfl, rfl⟩
          clear hfd
          go_wp2_with fail
          refine hgd.mono ?_
          rintro ee w1 ⟨v, rfl, rfl, rfl⟩
          clear hgd
          go_wp2_with fail
          refine hst.mono ?_
          clear hst
          rintro ee w2 ⟨v, rfl, rfl, hS⟩
          clear hR e7 c1
          rw [← step_waits] at hS
          cases ht : D.step.2 with
          | false =>
            have Ha := Lib.hid (show D.rmove s t false = (D.step.1, 12) by unfold Med.rmove; rw [if_neg Ho.out, Hk.out]; simp only []; rw [if_neg Hg.out, if_pos ht])
            clear ht
            go_wp2
            go_ret
            exact ⟨_, rfl, by rw [Ha.out]; rfl, by rw [Ha.out]; exact DskRep.shut Hin2.out hS⟩
          | true =>
            have Ha := Lib.hid (show D.rmove s t false = (D.step.1.link ⟨s, t, i⟩, 0) by unfold Med.rmove; rw [if_neg Ho.out, Hk.out]; simp only []; rw [if_neg Hg.out, if_neg (by rw [ht]; decide)]; rfl)
            clear ht
            have h6 := DskRep.shut Hin2.out hS
            clear hS
            go_wp2_with fail
            refine (rwait_c ⟨s, t, i⟩ Hl1.out Hw1.out h6).mono ?_
            rintro ee w5 ⟨v, rfl, h7⟩
            clear h6
            go_wp2
            go_ret
            exact ⟨_, rfl, by rw [Ha.out]; rfl, by rw [Ha.out]; exact h7⟩
end
section
variable {w0 w : World} {F R : List HProp} {d : Nat} {D : Med} {fsv fv nv wv v lv : Value} {xs : List RF} {g : Bag} {K : Nat}
theorem file_nv {x : RF} (h : x ∈ xs) (hs : Sat w0 w (stars (xs.map rfR) :: R)) : ∃ na nc, x.nv = .slice na x.f.now.length nc ∧ x.f.now.length ≤ nc ∧ nc ≤ 9223372036854775807 ∧ ((na = none ∧ nc = 0) ∨ ∃ g, na = some ⟨g, 0, none⟩) := by
  obtain ⟨G, hG⟩ := stars_mem _ _ (List.mem_map.2 ⟨x, h, rfl⟩ : rfR x ∈ xs.map rfR)
  rw [hG] at hs
  have h2 := Sat.star.1 hs
  unfold rfR at h2
  have h3 := Sat.star.1 h2
  have h4 := Sat.star.1 (h3.pick pick1)
  rcases Sat.osl_cases h4 with ⟨hv, hx, _⟩ | ⟨b, n', cap', cs, hv, hl, hn, hc, hcm, _, _⟩
  · have h5 : (bys x.f.now).length = 0 := by rw [hx]; rfl
    rw [bys_len] at h5
    exact ⟨none, 0, by rw [hv, h5], by omega, by omega, .inl ⟨rfl, rfl⟩⟩
  · rw [bys_len, Nat.mul_one] at hl
    exact ⟨_, _, by rw [hv, hl], by omega, hcm, .inr ⟨b, rfl⟩⟩
end
section
variable {w0 w : World} {F R : List HProp} {d : Nat} {D : Med} {fsv fv nv wv v lv : Value} {xs : List RF} {g : Bag} {K : Nat}
set_option maxRecDepth 20000 in
set_option maxHeartbeats 8000000 in
theorem rsyncd_c (s : ByteArray) (hl : D.now.length ≤ 1048576) (hlf : D.left ≤ 9223372036854775807) (h : Sat w0 w (DskRep d D :: F)) :
    Calls Tryz.prog 26 #[ptr d, .string s, .bool true] w (Rtn fun v w' => v = errno D.syncDir.2 ∧ Sat w0 w' (DskRep d D.syncDir.1 :: F)) := by
  have hfd := rfind_c s hl h
  obtain ⟨fsv, fv, nv, wv, xs, g, hin, hR⟩ := DskRep.open h
  have Hin := Lib.hid hin; have Hlf := Lib.hid hlf
  have e7 : w.cell? ⟨d, 7, none⟩ = some (.bool D.off) := hR.cellP pick0 7 rfl
  clear h hin hl hlf
  generalize D.which s = q at *
  cases ho : D.off with
  | true =>
    have Ha := Lib.hid (show D.syncDir = (D, 12) by unfold Med.syncDir; rw [ho]; rfl)
    rw [ho] at e7
    clear ho hfd
    go_enter Tryz.func26, Tryz.ntmps26
    go_wp2
    go_ret
    exact ⟨_, rfl, by rw [Ha.out]; rfl, by rw [Ha.out]; exact DskRep.shut Hin.out hR⟩
  | false =>
    rw [ho] at e7
    have Ho := Lib.hid (show ¬ (D.off = true) by rw [ho]; decide)
    clear ho
    have hst := rstep_c hR Hlf.out
    have hin2 : DskIn D.step.1 fv nv xs g := ⟨by rw [step_files]; exact Hin.out.files, Hin.out.ok, by rw [step_fast]; exact Hin.out.fast, by rw [step_now]; exact Hin.out.now⟩
    have Hin2 := Lib.hid hin2
    clear hin2
    have Hnw := Lib.hid (step_now D)
    obtain ⟨na, nc, rfl⟩ := nms_sl (bag_ro (w0 := w0) Hin.out.now w (hR.pick pick3))
    go_enter Tryz.func26, Tryz.ntmps26
    go_wp2_with fail
    refine hfd.mono ?_
    rintro ee w1 ⟨v, rfl, rfl, rfl⟩
    clear hfd
    go_wp2_with fail
    refine hst.mono ?_
    clear hst
    rintro ee w2 ⟨v, rfl, rfl, hS⟩
    clear hR e7
    rw [← step_waits] at hS
    cases ht : D.step.2 with
    | false =>
      have Ha := Lib.hid (show D.syncDir = (D.step.1, 12) by unfold Med.syncDir; rw [if_neg Ho.out, if_pos ht])
      clear ht
      go_wp2
      go_ret
      exact ⟨_, rfl, by rw [Ha.out]; rfl, by rw [Ha.out]; exact DskRep.shut Hin2.out hS⟩
    | true =>
      have Ha := Lib.hid (show D.syncDir = ({ D.step.1 with fast := D.now, waits := [] }, 0) by unfold Med.syncDir; rw [if_neg Ho.out, if_neg (by rw [ht]; decide)])
      clear ht
      generalize D.step.1 = D1 at *
      go_wp2_with (first
        | ((with_reducible apply at_load); refine ⟨?_⟩; refine wl_load1 (by assumption) (by rfl) pkD (Nat.le_of_ble_eq_true (by rfl)) evD (by kernel_rfl) ?_)
        | ((with_reducible apply at_store); refine ⟨?_⟩; refine wl_store (by assumption) (by rfl) evD (by first | (simp only [putsAt, Value.cells]; (try go_frame); first | done | rfl) | rfl) upD (Nat.le_of_ble_eq_true (by rfl)) (by kernel_rfl) (by rfl) ?_; intro wS hS))
      go_ret
      refine ⟨_, rfl, by rw [Ha.out]; rfl, ?_⟩
      rw [Ha.out]
      have h4 : Sat w0 _ (osl 243 3 (.slice none 0 0) [] :: _) := Sat.osl_nil.2 hS
      exact DskRep.shut (D := { D1 with fast := D.now, waits := [] }) ⟨Hin2.out.files, Hin2.out.ok, Hin.out.now, Hin2.out.now⟩ (h4.sub (sub_take pick1 (sub_take pick1 (sub_take pick1 (sub_take pick1 (sub_take pick0 (sub_drop sub_refl)))))))
end
section
variable {P : Program} {w0 w : World} {L L' : List HProp} {b o : Nat} {ops : Array Oper} {rest : List Oper} {a : Act} {Q : Exit → Act → World → Prop} {dst : Option Tmp} {t ty T sz n c : Nat} {pos : String} {after : Array Edge} {x y : Operand} {v : Value} {xs : List Value}
theorem wl_storeS (i : Nat) (hs : Sat w0 w L) (hx : a.eval x = .pointer (some ⟨b, i, none⟩)) (hy : a.eval y = v) (u : Upd (osl T sz (.slice (some ⟨b, 0, none⟩) n c) xs) (osl T sz (.slice (some ⟨b, 0, none⟩) n c) (xs.set i v)) L L')
    (hi : i < xs.length) (hty : (P.info? ty).map (·.size) = some 1) (h0 : v.cells = #[v]) (h1 : v.oneCell' = true)
    (hK : ∀ w', Sat w0 w' L' → wpList P ops Q rest (a.put dst undef) w') : wpList P ops Q (⟨dst, .store ty x y, t, pos, after, none⟩ :: rest) a w := by
  obtain ⟨R', h2, h3⟩ := u
  have h := hs.perm h2
  rcases Sat.osl_cases h with ⟨he, _⟩ | ⟨g', n', cap', cs, he, k1, k2, k3, k4, k5, k6⟩
  · cases he
  · cases he
    have hlen : xs.length ≤ cs.size := by rw [← k5, List.length_take, Array.length_toList]; omega
    refine wpList_store_sat rfl ty x y rfl i v hx hy (by rw [h0]; show i + 1 ≤ cs.size; omega) (by rw [h0]; exact hty) (by rw [h0]; simpa using h1) k6 fun w' hS => hK w' (Sat.perm ?_ h3.symm)
    rw [h0] at hS
    refine Sat.osl_of_pt hS (by rw [List.length_set]; exact k1) k2 (by rw [putsAt_size]; exact k3) k4 ?_
    show (cs.setIfInBounds i v).toList.take _ = _
    rw [Array.toList_setIfInBounds, List.take_set, k5]
end
theorem stars_at : ∀ (xs : List RF) (i : Nat) (x : RF), xs[i]? = some x → ∃ G, stars (xs.map rfR) = star (rfR x) G ∧ ∀ x', stars ((xs.set i x').map rfR) = star (rfR x') G
  | [], _, _, h => by cases h
  | q :: xs, 0, x, h => by
    cases h
    exact ⟨stars (xs.map rfR), rfl, fun x' => rfl⟩
  | q :: xs, i + 1, x, h => by
    obtain ⟨G, h1, h2⟩ := stars_at xs i x (by simpa using h)
    refine ⟨star (rfR q) G, ?_, fun x' => ?_⟩
    · show star (rfR q) (stars (xs.map rfR)) = _
      rw [h1, star_left_comm]
    · show star (rfR q) (stars ((xs.set i x').map rfR)) = _
      rw [h2 x', star_left_comm]
section
variable {w0 w : World} {F R : List HProp} {d i : Nat} {D : Med} {fsv fv nv wv v lv bv : Value} {xs : List RF} {x : RF} {g : Bag} {K : Nat}
end
def putL (xs : List Value) (i : Nat) (vs : List Value) : List Value := xs.take i ++ (vs ++ xs.drop (i + vs.length))
theorem putL_app (A B vs : List Value) (i : Nat) : putL (A ++ B) (A.length + i) vs = A ++ putL B i vs := by
  unfold putL
  rw [List.take_length_add_append, Nat.add_assoc, List.drop_length_add_append, List.append_assoc]
theorem putL_len {xs vs : List Value} {i : Nat} (h : i + vs.length ≤ xs.length) : (putL xs i vs).length = xs.length := by
  unfold putL
  simp only [List.length_append, List.length_take, List.length_drop]; omega
section
variable {P : Program} {w0 w : World} {L L' : List HProp} {b o : Nat} {ops : Array Oper} {rest : List Oper} {a : Act} {Q : Exit → Act → World → Prop} {dst : Option Tmp} {t ty T sz n c : Nat} {pos : String} {after : Array Edge} {x y : Operand} {v : Value} {xs vs : List Value} {K : Act → World → Prop} {E : Prop}
theorem putsAt_take {cs : Array Value} {i m : Nat} (hx : cs.toList.take m = xs) (hm : m ≤ cs.size) (hi : i + vs.length ≤ m) : (putsAt cs i vs).toList.take m = putL xs i vs := by
  subst hx
  rw [putsAt_list _ _ _ (by omega)]
  have hl : (cs.toList.take i ++ vs).length = i + vs.length := by rw [List.length_append, List.length_take, Array.length_toList]; omega
  unfold putL
  rw [List.take_append, hl, List.take_of_length_le (by omega), List.take_take, Nat.min_eq_left (by omega), List.drop_take, List.append_assoc]
theorem wl_storeSN (i : Nat) (hs : Sat w0 w L) (hx : a.eval x = .pointer (some ⟨b, i, none⟩)) (hy : a.eval y = v) (hv : v.cells.toList = vs) (u : Upd (osl T sz (.slice (some ⟨b, 0, none⟩) n c) xs) (osl T sz (.slice (some ⟨b, 0, none⟩) n c) (putL xs i vs)) L L')
    (hi : i + vs.length ≤ xs.length) (hty : (P.info? ty).map (·.size) = some vs.length) (h1 : vs.all (·.oneCell') = true)
    (hK : ∀ w', Sat w0 w' L' → wpList P ops Q rest (a.put dst undef) w') : wpList P ops Q (⟨dst, .store ty x y, t, pos, after, none⟩ :: rest) a w := by
  have hvs : v.cells.size = vs.length := by rw [← hv, Array.length_toList]
  obtain ⟨R', h2, h3⟩ := u
  have h := hs.perm h2
  rcases Sat.osl_cases h with ⟨he, _⟩ | ⟨g', n', cap', cs, he, k1, k2, k3, k4, k5, k6⟩
  · cases he
  · cases he
    have hlen : xs.length ≤ cs.size := by rw [← k5, List.length_take, Array.length_toList]; omega
    have hm : n * sz ≤ cs.size := Nat.le_trans (Nat.mul_le_mul_right _ k2) k3
    refine wpList_store_sat rfl ty x y rfl i v hx hy (by rw [hvs]; omega) (by rw [hvs]; exact hty) (by rw [← Array.all_toList, hv]; exact h1) k6 fun w' hS => hK w' (Sat.perm ?_ h3.symm)
    refine Sat.osl_of_pt hS (by rw [putL_len hi]; exact k1) k2 (by rw [putsAt_size]; exact k3) k4 ?_
    rw [hv]
    exact putsAt_take k5 hm (by rw [← k1]; exact hi)
theorem eff_storeSN (i : Nat) (hs : Sat w0 w L) (hx : a.eval x = .pointer (some ⟨b, i, none⟩)) (hy : a.eval y = v) (hv : v.cells.toList = vs) (u : Upd (osl T sz (.slice (some ⟨b, 0, none⟩) n c) xs) (osl T sz (.slice (some ⟨b, 0, none⟩) n c) (putL xs i vs)) L L')
    (hi : i + vs.length ≤ xs.length) (hty : (P.info? ty).map (·.size) = some vs.length) (h1 : vs.all (·.oneCell') = true)
    (hK : ∀ w', Sat w0 w' L' → K (a.put dst undef) w') :
    if Region.wanted ⟨dst, .store ty x y, t, pos, after, none⟩ (yielded ops a.tmps) = true then Oper.wp P ⟨dst, .store ty x y, t, pos, after, none⟩ a w K Q else E := by
  have hvs : v.cells.size = vs.length := by rw [← hv, Array.length_toList]
  obtain ⟨R', h2, h3⟩ := u
  have h := hs.perm h2
  rcases Sat.osl_cases h with ⟨he, _⟩ | ⟨g', n', cap', cs, he, k1, k2, k3, k4, k5, k6⟩
  · cases he
  · cases he
    have hlen : xs.length ≤ cs.size := by rw [← k5, List.length_take, Array.length_toList]; omega
    have hm : n * sz ≤ cs.size := Nat.le_trans (Nat.mul_le_mul_right _ k2) k3
    refine eff_store k6 hx hy (cs' := putsAt cs i vs) (by rw [hv]) upd0 (by rw [hvs]; omega) (by rw [hvs]; exact hty) (by rw [hv]; exact h1) fun w' hS => hK w' (Sat.perm ?_ h3.symm)
    refine Sat.osl_of_pt hS (by rw [putL_len hi]; exact k1) k2 (by rw [putsAt_size]; exact k3) k4 ?_
    exact putsAt_take k5 hm (by rw [← k1]; exact hi)
end
section
variable {α : Type} {f : α → List Value} {k : Nat}
theorem rows_len : ∀ {l : List α}, (∀ x ∈ l, (f x).length = k) → (l.flatMap f).length = k * l.length
  | [], _ => rfl
  | x :: l, h => by rw [List.flatMap_cons, List.length_append, h x (.head _), rows_len fun y hy => h y (.tail _ hy), List.length_cons, Nat.mul_succ]; omega
theorem rows_at : ∀ {l : List α} {i : Nat} {x : α} {j : Nat} {v : Value}, (∀ x ∈ l, (f x).length = k) → l[i]? = some x → (f x)[j]? = some v → (l.flatMap f)[i * k + j]? = some v
  | [], _, _, _, _, _, h, _ => by cases h
  | y :: l, 0, x, j, v, hk, h, hj => by
    obtain rfl : y = x := by simpa using h
    rw [List.flatMap_cons, Nat.zero_mul, Nat.zero_add, List.getElem?_append_left (List.getElem?_eq_some_iff.1 hj).1]; exact hj
  | y :: l, i + 1, x, j, v, hk, h, hj => by
    have h0 := hk y (.head _)
    rw [List.flatMap_cons, Nat.succ_mul, List.getElem?_append_right (by omega), h0, show i * k + k + j - k = i * k + j by omega]
    exact rows_at (fun z hz => hk z (.tail _ hz)) (by simpa using h) hj
theorem rows_set : ∀ {l : List α} {i : Nat} {x : α}, (∀ x ∈ l, (f x).length = k) → (f x).length = k → i < l.length → (l.set i x).flatMap f = putL (l.flatMap f) (i * k) (f x)
  | [], _, _, _, _, h => by simp at h
  | y :: l, 0, x, hk, hx, h => by
    have h0 := hk y (.head _)
    rw [List.set_cons_zero, List.flatMap_cons, List.flatMap_cons]
    unfold putL
    rw [Nat.zero_mul, List.take_zero, List.nil_append, Nat.zero_add, hx, ← h0, List.drop_left]
  | y :: l, i + 1, x, hk, hx, h => by
    have h0 := hk y (.head _)
    rw [List.set_cons_succ, List.flatMap_cons, List.flatMap_cons, rows_set (fun z hz => hk z (.tail _ hz)) hx (by simpa using h), Nat.succ_mul, Nat.add_comm (i * k) k, ← h0, putL_app]
theorem rows_rep (n : Nat) (x : α) : (List.replicate n x).flatMap f = (List.replicate n (f x)).flatten := by
  induction n with
  | zero => rfl
  | succ n ih => rw [List.replicate_succ, List.flatMap_cons, ih, List.replicate_succ, List.flatten_cons]
end
section
variable {w0 w : World} {F R : List HProp} {α : Type} {f : α → List Value} {k : Nat} {T : TypeId} {v : Value}
theorem osl_row {l : List α} {i : Nat} {x : α} (hk : ∀ x ∈ l, (f x).length = k) (h : rdsl k v (l.flatMap f) w) (hi : l[i]? = some x) (h0 : 0 < k) :
    ∃ bk off c, v = .slice (some ⟨bk, off, none⟩) l.length c ∧ ∀ j y, (f x)[j]? = some y → w.cell? ⟨bk, off + i * k + j, none⟩ = some y := by
  obtain ⟨a, n, c, rfl, hl, hx⟩ := id h
  rw [rows_len hk] at hl
  have hfx := hk x (List.mem_of_getElem? hi)
  obtain rfl : n = l.length := by
    rw [Nat.mul_comm] at hl
    exact (Nat.eq_of_mul_eq_mul_right h0 hl).symm
  obtain ⟨y0, hy0⟩ : ∃ y, (f x)[0]? = some y := ⟨_, List.getElem?_eq_getElem (by omega)⟩
  have h1 := rows_at hk hi hy0
  obtain ⟨bk, off, rfl, hc⟩ := rdsl_cells h h1
  exact ⟨bk, off, c, rfl, fun j y hj => by rw [Nat.add_assoc]; exact hc _ _ (rows_at hk hi hj)⟩
theorem osl_rows {l : List α} (hk : ∀ x ∈ l, (f x).length = k) (h : rdsl k v (l.flatMap f) w) (h0 : 0 < k) : ∃ a c, v = .slice a l.length c := by
  obtain ⟨a, n, c, rfl, hl, hx⟩ := id h
  rw [rows_len hk, Nat.mul_comm] at hl
  exact ⟨a, c, by rw [Nat.eq_of_mul_eq_mul_right h0 hl]⟩
end
theorem and_mask (x j : Nat) (hx : x < 9223372036854775808) (hj : j < 63) : bits .and .i64 (x : Int) ((2 ^ j - 1 : Nat) : Int) = ((x % 2 ^ j : Nat) : Int) := by
  have h2 : 2 ^ j ≤ 2 ^ 62 := Nat.pow_le_pow_right (by decide) (by omega)
  have h3 : (2 : Nat) ^ 62 = 4611686018427387904 := by decide
  have h4 : 0 < 2 ^ j := Nat.two_pow_pos j
  have hm : (BitVec.ofInt 64 ((2 ^ j - 1 : Nat) : Int)).toNat = 2 ^ j - 1 := by
    rw [BitVec.toNat_ofInt]
    have : ((2 ^ 64 : Nat) : Int) = 18446744073709551616 := by decide
    rw [this]
    omega
  have hn : (BitVec.ofInt 64 (x : Int)).toNat = x := by
    rw [BitVec.toNat_ofInt]
    have : ((2 ^ 64 : Nat) : Int) = 18446744073709551616 := by decide
    rw [this]
    omega
  show IntKind.i64.wrap ((BitVec.ofInt 64 (x : Int) &&& BitVec.ofInt 64 ((2 ^ j - 1 : Nat) : Int)).toNat : Nat) = _
  rw [BitVec.toNat_and, hm, hn, Nat.and_two_pow_sub_one_eq_mod, IntKind.wrap_i64]
  have := Nat.mod_lt x h4
  omega
theorem or_num32 (l : Bs) (c : UInt8) (k : Nat) (hl : l.length = k) (hk : k < 4) : bits .or .u32 ((Frm.num l : Nat) : Int) ((c.toNat : Int) * ((256 ^ k : Nat) : Int)) = ((Frm.num (l ++ [c]) : Nat) : Int) := by
  subst hl
  have h1 := Frm.num_lt l
  have h2 := c.toNat_lt
  have h3 : 256 ^ l.length ≤ 256 ^ 3 := Nat.pow_le_pow_right (by decide) (by omega)
  have h4 : c.toNat * 256 ^ l.length ≤ 255 * 256 ^ 3 := Nat.mul_le_mul (by omega) h3
  have h5 : (256 : Nat) ^ 3 = 16777216 := by decide
  have e : (c.toNat : Int) * ((256 ^ l.length : Nat) : Int) = ((c.toNat * 256 ^ l.length : Nat) : Int) := by rw [Int.natCast_mul]
  rw [e, u32_or_nat _ _ (by omega) (by omega), Frm.num_snoc]
  congr 1
  have hp : (256 : Nat) ^ l.length = 2 ^ (8 * l.length) := by rw [Nat.pow_mul]
  rw [hp] at h1 ⊢
  have := Nat.two_pow_add_eq_or_of_lt h1 c.toNat
  rw [Nat.or_comm, Nat.mul_comm c.toNat, ← this, Nat.add_comm]
section
variable {w0 w : World} {F R : List HProp}
set_option maxRecDepth 20000 in
set_option maxHeartbeats 4000000 in
theorem home_c (k : Bs) (hk : k.length = 32) (j : Nat) (hj : j < 40) (h : Sat w0 w F) :
    Calls Tryz.prog 160 #[.agg (bys k).toArray, .int .i64 (2 ^ j : Nat)] w (Rtn fun v w' => v = .int .i64 (Tab.home k (2 ^ j) : Nat) ∧ Sat w0 w' F) := by
  obtain ⟨c0, c1, c2, c3, t, rfl⟩ : ∃ c0 c1 c2 c3 t, k = c0 :: c1 :: c2 :: c3 :: t := by
    match k, hk with
    | c0 :: c1 :: c2 :: c3 :: t, _ => exact ⟨c0, c1, c2, c3, t, rfl⟩
  have Hh := Lib.hid (show Tab.home (c0 :: c1 :: c2 :: c3 :: t) (2 ^ j) = Frm.num [c0, c1, c2, c3] % 2 ^ j from rfl)
  have hB := h.alloc (.cells (bys (c0 :: c1 :: c2 :: c3 :: t)).toArray 41)
  have e0 : (w.alloc (.cells (bys (c0 :: c1 :: c2 :: c3 :: t)).toArray 41)).cell? ⟨w.heap.size, 0, none⟩ = some (.int .u8 c0.toNat) := hB.cellAt 0 _ rfl
  have e1 : (w.alloc (.cells (bys (c0 :: c1 :: c2 :: c3 :: t)).toArray 41)).cell? ⟨w.heap.size, 1, none⟩ = some (.int .u8 c1.toNat) := hB.cellAt 1 _ rfl
  have e2 : (w.alloc (.cells (bys (c0 :: c1 :: c2 :: c3 :: t)).toArray 41)).cell? ⟨w.heap.size, 2, none⟩ = some (.int .u8 c2.toNat) := hB.cellAt 2 _ rfl
  have e3 : (w.alloc (.cells (bys (c0 :: c1 :: c2 :: c3 :: t)).toArray 41)).cell? ⟨w.heap.size, 3, none⟩ = some (.int .u8 c3.toNat) := hB.cellAt 3 _ rfl
  have b0 := c0.toNat_lt; have b1 := c1.toNat_lt; have b2 := c2.toNat_lt; have b3 := c3.toNat_lt
  have q1 : bits .or .u32 (c0.toNat : Int) ((c1.toNat : Int) * 256) = ((Frm.num [c0, c1] : Nat) : Int) := by
    have := or_num32 [c0] c1 1 rfl (by decide)
    simpa [Frm.num] using this
  have q2 : bits .or .u32 ((Frm.num [c0, c1] : Nat) : Int) ((c2.toNat : Int) * 65536) = ((Frm.num [c0, c1, c2] : Nat) : Int) := or_num32 [c0, c1] c2 2 rfl (by decide)
  have q3 : bits .or .u32 ((Frm.num [c0, c1, c2] : Nat) : Int) ((c3.toNat : Int) * 16777216) = ((Frm.num [c0, c1, c2, c3] : Nat) : Int) := or_num32 [c0, c1, c2] c3 3 rfl (by decide)
  have hn := Frm.num_lt [c0, c1, c2, c3]
  rw [show [c0, c1, c2, c3].length = 4 from rfl, show (256 : Nat) ^ 4 = 4294967296 by decide] at hn
  have hp : (2 : Nat) ^ j ≤ 2 ^ 40 := Nat.pow_le_pow_right (by decide) (by omega)
  have hp1 : (2 : Nat) ^ 40 = 1099511627776 := by decide
  have hp0 : 0 < 2 ^ j := Nat.two_pow_pos j
  have q4 := and_mask (Frm.num [c0, c1, c2, c3]) j (by omega) (by omega)
  generalize Frm.num [c0, c1, c2, c3] = N at *
  generalize hC : 2 ^ j = C at *
  have hw1 : IntKind.i64.wrap ((C : Int) - 1) = ((C - 1 : Nat) : Int) := by rw [IntKind.wrap_i64]; omega
  have hw2 : IntKind.i64.wrap (N : Int) = (N : Int) := IntWalk.i64_in _ (by omega)
  have hm2 : N % C < C := Nat.mod_lt _ hp0
  clear h hk hC hp hp1
  go_enter Tryz.func160, Tryz.ntmps160
  go_wp2_with fail
  go_ret
  refine ⟨_, rfl, ?_, hB.drop⟩
  rw [Hh.out, Int.natCast_emod]; rfl
end
section
variable {w0 w : World} {L L' R F : List HProp} {b : Nat} {ops : Array Oper} {rest : List Oper} {a : Act} {Q : Exit → Act → World → Prop}
variable {dst : Option Tmp} {t T : TypeId} {pos : String} {after : Array Edge} {x y : Operand} {cs : Array Value} {v : Value} {e : Frm.Ent} {da : Option Addr} {dn dc : Nat}
theorem wl_buildE (hs : Sat w0 w L) (hy : a.eval x = .agg (entA e (.slice da dn dc))) (hk : e.key.length = 32)
    (hK : ∀ b w', Sat w0 w' (pt b (.cells (entA e (.slice da dn dc)) 44 (0,0)) :: L) → wpList Tryz.prog ops Q rest (a.put dst (.slice (some ⟨b, 0, none⟩) 1 1)) w') :
    wpList Tryz.prog ops Q (⟨dst, .buildSlice 125 1 #[(0, x)], t, pos, after, none⟩ :: rest) a w :=
  wl_build1 (e := 44) (sz := 34) (by' := 64) (by kernel_rfl) hs hy rfl (entA_size _ _ hk) (by decide) hK
theorem at_buildE (h : Stop (wpList Tryz.prog ops Q (⟨dst, .buildSlice 125 1 #[(0, x)], t, pos, after, none⟩ :: rest) a w)) : wpList Tryz.prog ops Q (⟨dst, .buildSlice 125 1 #[(0, x)], t, pos, after, none⟩ :: rest) a w := h.out
end
section
variable {w0 w : World} {L L' R F : List HProp} {b o : Nat} {ops : Array Oper} {rest : List Oper} {a : Act} {Q : Exit → Act → World → Prop}
variable {dst : Option Tmp} {t T ty : TypeId} {pos : String} {after : Array Edge} {x y : Operand} {cs : Array Value} {v : Value} {P : Program}
theorem wl_loadW (ks : List Value) (hx : a.eval x = .pointer (some ⟨b, o, none⟩)) (hc : ∀ j v, ks[j]? = some v → w.cell? ⟨b, o + j, none⟩ = some v)
    {d : TypeDesc} (hu : P.underlying ty = some d) (hd : d.isRow = true) (hi : (P.info? ty).map (·.size) = some ks.length)
    (h : wpList P ops Q rest (a.put dst (.agg ks.toArray)) w) : wpList P ops Q (⟨dst, .load ty x, t, pos, after, none⟩ :: rest) a w :=
  wpList_load_mid rfl ty x rfl b o hx ks d hc hu hd hi h
theorem wl_storeA (ks : Array Value) (hs : Sat w0 w L) (hx : a.eval x = .pointer (some ⟨b, 0, none⟩)) (hy : a.eval y = .agg ks) (hsz : ks.size = cs.size) (u : Upd (pt b (.cells cs T (0,0))) (pt b (.cells ks T (0,0))) L L')
    (hi : (P.info? ty).map (·.size) = some ks.size) (h1 : ks.toList.all (·.oneCell') = true)
    (hK : ∀ w', Sat w0 w' L' → wpList P ops Q rest (a.put dst undef) w') : wpList P ops Q (⟨dst, .store ty x y, t, pos, after, none⟩ :: rest) a w :=
  wl_store hs hx hy (putsAt_eq (by
    show (putsAt cs 0 ks.toList).toList = _
    rw [putsAt_list _ _ _ (by rw [Array.length_toList]; omega), List.take_zero, List.nil_append, Nat.zero_add, List.drop_of_length_le (by rw [Array.length_toList, Array.length_toList]; omega), List.append_nil])) u (by show 0 + ks.size ≤ cs.size; omega) hi h1 hK
end
def plcL (q : Seg.Plc) : List Value := [.int .i64 q.seg, .int .i64 q.at_, .int .i64 q.size]
abbrev plcA (q : Seg.Plc) : Value := .agg #[.int .i64 q.seg, .int .i64 q.at_, .int .i64 q.size]
structure SegBlk (l : List (Int × Int)) (n cap : Nat) (cs : Array Value) : Prop where
  len : l.length = n + 1
  le : n + 1 ≤ cap
  size : cap * 2 ≤ cs.size
  max : cap ≤ maxLen
  take : cs.toList.take ((n + 1) * 2) = segw l
section
variable {w0 w : World} {F R : List HProp} {v bv dv x lv : Value} {q p m K : Nat} {L : Seg.Log} {M : Med} {s : Int × Int}
end
end Go.Proofs.YtmjldaedhmipkaaGreatDoor
namespace Go.Seg
open Go.Med
end Go.Seg
namespace Go.Proofs.YtmjldaedhmipkaaGreatDoor
open Go Go.Sl Go.Med Go.MapKept Go.RowKit
section
variable {w0 w : World} {F R : List HProp} {v bv dv x lv : Value} {q p m K : Nat} {L : Seg.Log} {M : Med} {s : Int × Int}
end
end Go.Proofs.YtmjldaedhmipkaaGreatDoor
namespace Go.Seg
open Go.Med
theorem name_size (n : Int) : (name n).size ≤ 9223372036854775807 := by
  unfold name
  split
  · decide
  · show (lead ++ digs n.toNat 8).toArray.size ≤ _
    rw [List.size_toArray, List.length_append, digs_len]; decide
end Go.Seg
namespace Go.Proofs.YtmjldaedhmipkaaGreatDoor
open Go Go.Sl Go.Med Go.MapKept Go.RowKit
section
variable {w0 w : World} {F R : List HProp} {v bv dv x lv : Value} {q p m K : Nat} {L : Seg.Log} {M : Med} {s : Int × Int}
theorem segw_snoc (l : List (Int × Int)) (n z : Int) : segw l ++ [.int .i64 n, .int .i64 z] = segw (l ++ [(n, z)]) := by rw [segw_app]; rfl
end
end Go.Proofs.YtmjldaedhmipkaaGreatDoor
namespace Go.Seg
open Go.Med
end Go.Seg
namespace Go.Proofs.YtmjldaedhmipkaaGreatDoor
open Go Go.Sl Go.Med Go.MapKept Go.RowKit
section
variable {w0 w : World} {F R : List HProp} {v bv dv x lv : Value} {q p m K : Nat} {L : Seg.Log} {M : Med} {s : Int × Int}
end
end Go.Proofs.YtmjldaedhmipkaaGreatDoor
namespace Go.Seg
open Go.Med
end Go.Seg
namespace Go.Proofs.YtmjldaedhmipkaaGreatDoor
open Go Go.Sl Go.Med Go.MapKept Go.RowKit
section
variable {w0 w : World} {F R : List HProp} {v bv dv x lv : Value} {q p m K : Nat} {L : Seg.Log} {M : Med} {s : Int × Int}
end
end Go.Proofs.YtmjldaedhmipkaaGreatDoor
namespace Go.Seg
def idx (l : List (Int × Int)) (n : Int) : Int := match l.findIdx? (fun s => s.1 == n) with
  | some i => i
  | none => -1
theorem find_idx (L : Log) (n : Int) : L.find n = idx L.l n := rfl
theorem idx_at {l : List (Int × Int)} {n : Int} {i : Nat} {s : Int × Int} (hs : l[i]? = some s) (hn : s.1 = n) (hp : ∀ (j : Nat) (t : Int × Int), j < i → l[j]? = some t → t.1 ≠ n) : idx l n = i := by
  unfold idx
  have : l.findIdx? (fun s => s.1 == n) = some i := by
    rw [List.findIdx?_eq_some_iff_getElem]
    obtain ⟨h1, h2⟩ := List.getElem?_eq_some_iff.1 hs
    refine ⟨h1, by rw [h2]; simpa using hn, fun j hj => ?_⟩
    have := hp j _ hj (List.getElem?_eq_getElem (by omega))
    simpa using this
  rw [this]
theorem idx_no {l : List (Int × Int)} {n : Int} (hp : ∀ (j : Nat) (t : Int × Int), j < l.length → l[j]? = some t → t.1 ≠ n) : idx l n = -1 := by
  unfold idx
  have : l.findIdx? (fun s => s.1 == n) = none := by
    rw [List.findIdx?_eq_none_iff]
    intro t ht
    obtain ⟨j, hj, rfl⟩ := List.getElem_of_mem ht
    have := hp j _ hj (List.getElem?_eq_getElem hj)
    simpa using this
  rw [this]
end Go.Seg
namespace Go.Proofs.YtmjldaedhmipkaaGreatDoor
open Go Go.Sl Go.Med Go.MapKept Go.RowKit
section
variable {w0 w : World} {F R : List HProp} {v bv dv x lv : Value} {q p m K : Nat} {L : Seg.Log} {M : Med} {s : Int × Int}
set_option maxHeartbeats 4000000 in
theorem find1_c (s : Int × Int) (n : Int) (h : Sat w0 w F) (hq : Ro w0 F fun w => w.cell? ⟨q, 0, none⟩ = some (.int .i64 n)) :
    Calls Tryz.prog 136 #[.agg #[.int .i64 s.1, .int .i64 s.2], ptr q] w (Rtn fun v w' => v = .bool (s.1 == n) ∧ Sat w0 w' F) := by
  go_enter Tryz.func136, Tryz.ntmps136
  go_wp2_with (first | (((with_reducible apply at_box); refine ⟨?_⟩; refine wl_box (by assumption) evD evD ?_; intro bB wB hB); have c0 : wB.cell? ⟨q, 0, none⟩ = some (.int .i64 n) := hq _ hB.drop) | ((with_reducible apply at_load); refine ⟨?_⟩; refine wl_load1 (by assumption) (by rfl) pkD (Nat.le_of_ble_eq_true (by rfl)) evD (by kernel_rfl) ?_))
  go_ret
  exact ⟨_, rfl, rfl, hB.drop⟩
set_option maxHeartbeats 8000000 in
theorem idxf_c (l : List (Int × Int)) (n : Int) (hln : l.length ≤ 1048576) (h : Sat w0 w (osl 145 2 lv (segw l) :: F)) (hq : Ro w0 F fun w => w.cell? ⟨q, 0, none⟩ = some (.int .i64 n)) :
    Calls Tryz.prog 135 #[lv, .func (.func 136) #[] #[ptr q]] w (Rtn fun v w' => v = .int .i64 (Seg.idx l n) ∧ Sat w0 w' (osl 145 2 lv (segw l) :: F)) := by
  rcases h.osl_cases with ⟨rfl, hx, hF⟩ | ⟨b, n', cap, cs, rfl, hll, hn', hc, hcm, htk, hp⟩
  · have hl : l = [] := by
      cases l with
      | nil => rfl
      | cons a l => simp [segw] at hx
    subst hl
    go_enter Tryz.func135, Tryz.ntmps135
    go_wp2_with fail
    go_loopg [8] 0 (fun g iq wr => iq = .int .i64 0 ∧ wr = w)
    case atStart => exact ⟨rfl, rfl⟩
    case round =>
      obtain ⟨rfl, rfl⟩ := hrel
      go_wp2
      go_ret
      exact ⟨_, rfl, rfl, h⟩
  · rw [segw_len] at hll
    obtain rfl : n' = l.length := by omega
    have hcl : ∀ (i : Nat) (s : Int × Int), l[i]? = some s → cs[i * 2]? = some (.int .i64 s.1) ∧ cs[i * 2 + 1]? = some (.int .i64 s.2) := by
      intro i s hs
      obtain ⟨h1, h2⟩ := segw_at _ _ _ hs
      rw [Nat.mul_comm i 2]
      exact ⟨take_get htk h1, take_get htk h2⟩
    have Hcl := Lib.hid hcl
    have Hend := Lib.hid (show ∀ wr, Sat w0 wr (pt b (.cells cs 145 (0,0)) :: F) → Sat w0 wr (osl 145 2 (.slice (some ⟨b, 0, none⟩) l.length cap) (segw l) :: F) from fun wr hS => Sat.osl_of_pt hS (by rw [segw_len]; omega) hn' hc hcm htk)
    have Hq := Lib.hid hq
    clear hcl hn' hc hcm htk h hq hll
    go_enter Tryz.func135, Tryz.ntmps135
    go_wp2_with fail
    go_loopg [8] l.length (fun g iq wr => ∃ i : Nat, g = l.length - i ∧ i ≤ l.length ∧ iq = .int .i64 i ∧ Sat w0 wr (pt b (.cells cs 145 (0,0)) :: F) ∧ Hid (∀ (j : Nat) (t : Int × Int), j < i → l[j]? = some t → t.1 ≠ n))
    case atStart => exact ⟨0, rfl, Nat.zero_le _, rfl, hp, Lib.hid fun j t hj => absurd hj (Nat.not_lt_zero j)⟩
    case round =>
      obtain ⟨i, rfl, hi, rfl, hS, Hp⟩ := hrel
      clear hp
      by_cases hlt : i < l.length
      · obtain ⟨s, hs⟩ : ∃ s, l[i]? = some s := ⟨_, List.getElem?_eq_getElem hlt⟩
        obtain ⟨d0, d1⟩ := Hcl.out i s hs
        have Hs := Lib.hid hs; have Hd0 := Lib.hid d0; have Hd1 := Lib.hid d1; have Hlt := Lib.hid hlt
        have hic : (i : Int) < (l.length : Int) := by omega
        have hwi : IntKind.i64.wrap ((i : Int) + 1) = (i : Int) + 1 := IntWalk.i64_in _ (by omega)
        clear hs d0 d1 hlt
        have hfn := find1_c (q := q) s n hS (Ro.os Hq.out)
        go_wp2_with ((with_reducible apply at_load); refine ⟨?_⟩; refine wl_loadN (b := b) (o := i * 2) [.int .i64 s.1, .int .i64 s.2] (by assumption) (by rfl) pkD (fun j v hj => by
          rcases j with _ | _ | j
          · cases hj; exact Hd0.out
          · cases hj; exact Hd1.out
          · simp at hj) Tryz.underlying145 rfl (by kernel_rfl) ?_)
        refine hfn.mono ?_
        rintro e w2 ⟨v, rfl, rfl, hS2⟩
        clear hfn hS
        by_cases hsn : s.1 = n
        · have hsb : (s.1 == n) = true := by simpa using hsn
          have Hfin := Lib.hid (Seg.idx_at Hs.out hsn Hp.out)
          clear hsn
          go_wp2
          go_ret
          exact ⟨.int .i64 i, rfl, by rw [Hfin.out], Hend.out _ hS2⟩
        · have hsb : (s.1 == n) = false := by simpa using hsn
          have Hp2 := Lib.hid (show ∀ (j : Nat) (t : Int × Int), j < i + 1 → l[j]? = some t → t.1 ≠ n by
            intro j t hj ht
            by_cases hji : j < i
            · exact Hp.out j t hji ht
            · obtain rfl : j = i := by omega
              rw [Hs.out] at ht; cases ht; exact hsn)
          clear hsn Hp
          go_wp2
          go_roundg (l.length - (i + 1))
          case measure => have := Hlt.out; omega
          case rel => exact ⟨i + 1, rfl, Nat.succ_le_of_lt Hlt.out, by first | rfl | go_num, hS2, Hp2⟩
      · obtain rfl : i = l.length := by omega
        have hic : ¬ (l.length : Int) < (l.length : Int) := by omega
        have Hfin := Lib.hid (Seg.idx_no Hp.out)
        clear hi hlt Hp
        go_wp2
        go_ret
        exact ⟨.int .i64 (-1), rfl, by rw [Hfin.out], Hend.out _ hS⟩
set_option maxHeartbeats 4000000 in
theorem lfind_c (hL : L.Ok) (n : Int) (h : Sat w0 w (LogRep p m L :: F)) :
    Calls Tryz.prog 79 #[ptr p, .int .i64 n] w (Rtn fun v w' => v = .int .i64 (L.find n) ∧ Sat w0 w' (LogRep p m L :: F)) := by
  obtain ⟨lv, hR⟩ := LogRep.open2 h
  clear h
  have Hln := Lib.hid hL.len
  rw [Seg.find_idx]
  clear hL
  go_enter Tryz.func79, Tryz.ntmps79
  go_wp2_with ((with_reducible apply at_box); refine ⟨?_⟩; refine wl_box (by assumption) evD evD ?_; intro bB wB hB)
  refine (ok_c (Sat.pk (by assumption))).mono ?_
  rintro e w2 ⟨v, rfl, rfl, rfl⟩
  clear hR
  go_wp2_with ((with_reducible apply at_load); refine ⟨?_⟩; refine wl_load1 (by assumption) (by rfl) pkD (Nat.le_of_ble_eq_true (by rfl)) evD (by kernel_rfl) ?_)
  refine (idxf_c (q := bB) (lv := lv) L.l n Hln.out (Sat.pk (by assumption)) (fun w hw => hw.cellP pkD 0 rfl)).mono ?_
  rintro e w3 ⟨v, rfl, rfl, hS3⟩
  clear hB
  go_wp2
  go_ret
  exact ⟨_, rfl, rfl, LogRep.shut2 (lv := lv) (Sat.sb hS3)⟩
set_option maxHeartbeats 4000000 in
theorem lsync_c (hM : M.Ok K) (h : Sat w0 w (LogRep p m L :: MedRep m M :: F)) :
    Calls Tryz.prog 25 #[ptr p] w (Rtn fun v w' => v = errno M.syncDir.2 ∧ Sat w0 w' (LogRep p m L :: MedRep m M.syncDir.1 :: F)) := by
  obtain ⟨lv, hR⟩ := LogRep.open2 h
  clear h
  go_enter Tryz.func25, Tryz.ntmps25
  go_wp2_with fail
  refine (ok_c (Sat.pk (by assumption))).mono ?_
  rintro e w2 ⟨v, rfl, rfl, rfl⟩
  go_wp2_with ((with_reducible apply at_load); refine ⟨?_⟩; refine wl_load1 (by assumption) (by rfl) pkD (Nat.le_of_ble_eq_true (by rfl)) evD (by kernel_rfl) ?_)
  refine (syncDir_c hM (Sat.pk (by assumption))).mono ?_
  rintro e w3 ⟨v, rfl, rfl, hS3⟩
  go_wp2
  go_ret
  exact ⟨_, rfl, rfl, LogRep.shut2 (lv := lv) (Sat.sb hS3)⟩
theorem find_neg (n : Int) : (L.at n = none ∧ L.find n = -1) ∨ ∃ i, L.at n = some i ∧ L.find n = i := by
  unfold Seg.Log.find
  cases L.at n with
  | none => exact .inl ⟨rfl, rfl⟩
  | some i => exact .inr ⟨i, rfl, rfl⟩
set_option maxRecDepth 20000 in
set_option maxHeartbeats 4000000 in
theorem lbytes_c (hL : L.Ok) (hM : M.Ok K) (n : Int) (h : Sat w0 w (LogRep p m L :: MedRep m M :: F)) :
    Calls Tryz.prog 104 #[ptr p, .int .i64 n] w (Rtn fun v w' => ∃ bv, v = .tuple #[bv, errno (L.bytes M n).2] ∧ Sat w0 w' (bsl bv (L.bytes M n).1 :: LogRep p m L :: MedRep m M :: F)) := by
  obtain ⟨lv, hR⟩ := LogRep.open2 h
  have hok := ok_c hR
  have hf := lfind_c hL n h
  rcases find_neg (L := L) n with ⟨ha, hb⟩ | ⟨i, ha, hb⟩
  · have Hfin := Lib.hid (show L.bytes M n = ([], 9) by unfold Seg.Log.bytes; rw [ha])
    rw [hb] at hf
    clear ha hb hL h hR
    go_enter Tryz.func104, Tryz.ntmps104
    go_wp2_with fail
    refine hok.mono ?_
    rintro e w2 ⟨v, rfl, rfl, rfl⟩
    clear hok
    go_wp2_with fail
    refine hf.mono ?_
    rintro e w2 ⟨v, rfl, rfl, hS2⟩
    clear hf
    go_wp2
    go_ret2
    rw [Hfin.out]
    exact ⟨_, rfl, .slice none 0 0, rfl, Sat.osl_nil.2 hS2⟩
  · rw [hb] at hf
    have Hfin := Lib.hid (show L.bytes M n = M.all (Seg.name n) by unfold Seg.Log.bytes; rw [ha])
    have hi0 : (0 : Int) ≤ (i : Int) := by omega
    have hd : decide ((i : Int) < 0) = false := decide_eq_false (by omega)
    clear ha hb hL h hR lv
    go_enter Tryz.func104, Tryz.ntmps104
    go_wp2_with fail
    refine hok.mono ?_
    rintro e w2 ⟨v, rfl, rfl, rfl⟩
    clear hok
    go_wp2_with fail
    refine hf.mono ?_
    rintro e w2 ⟨v, rfl, rfl, hS2⟩
    clear hf
    obtain ⟨lv, hR⟩ := LogRep.open2 hS2
    clear hS2
    go_wp2_with fail
    refine wpL_begin [6, 7, 8, 9, 10] (fun w' => w'.cell? ⟨p, 0, none⟩ = some (ptr m)) (by kernel_rfl) ?_
    have hG : w2.drew.cell? ⟨p, 0, none⟩ = some (ptr m) := hR.drew.cellP pkD 0 rfl
    refine rp 0 (hy := (yl_move evD)) (h := ?_)
    refine rp 1 (hy := (yl_nil evD)) (h := ?_)
    refine rp 2 (hy := (yl_field evD rnD)) (h := ?_)
    refine rt 3 (h := ?_)
    refine rp 4 (hy := (yl_move evD)) (h := ?_)
    clear hG
    refine rg_eff 5 evD (by kernel_rfl) (fun K hK => ?_)
    (refine eff_call1 (by kernel_rfl) evD ?_)
    refine (sname_c n hR.drew).mono ?_
    rintro e w3 ⟨v, rfl, rfl, hS3⟩
    refine hK _ _ (.inr (.inl (hS3.cellP pkD 0 rfl))) ?_
    clear hK K hR
    refine rg_eff 6 evD (by kernel_rfl) (fun K hK => ?_)
    (refine eff_call2 (by kernel_rfl) evD evD ?_)
    refine (all_c hM (Sat.pk (by assumption)) _).mono ?_
    rintro e w4 ⟨v, rfl, bv, rfl, hS4⟩
    refine hK _ _ (.inl rfl) ?_
    clear hK K hS3
    refine rp 7 (hy := (yl_extract evD rnD)) (h := ?_)
    refine rp 8 (hy := (yl_extract evD rnD)) (h := ?_)
    refine rp 9 (hy := (yl_assign evD)) (h := ?_)
    refine rp 10 (hy := (yl_assign evD)) (h := ?_)
    refine wpL_done (by kernel_rfl) ?_
    go_wp2
    go_ret2
    rw [Hfin.out]
    exact ⟨_, rfl, bv, rfl, Sat.sub (LogRep.shut2 (lv := lv) (hS4.sb)) sbD⟩
end
end Go.Proofs.YtmjldaedhmipkaaGreatDoor
namespace Go.Seg
def Log.segs (L : Log) : List Int := L.l.map (·.1)
end Go.Seg
namespace Go.Proofs.YtmjldaedhmipkaaGreatDoor
open Go Go.Sl Go.Med Go.MapKept Go.RowKit
theorem zSeg : zeroB Tryz.prog 145 = some (.agg #[.int .i64 0, .int .i64 0]) := by kernel_rfl
section
variable {w0 w : World} {F R : List HProp} {v bv dv x lv : Value} {q p m K : Nat} {L : Seg.Log} {M : Med} {s : Int × Int}
theorem ints_app (l k : List Int) : ints (l ++ k) = ints l ++ ints k := by unfold ints; rw [List.map_append]
theorem ints_length (l : List Int) : (ints l).length = l.length := by unfold ints; rw [List.length_map]
theorem segs_open (hln : L.l.length ≤ 1048576) (h : Sat w0 w (logPt p m L lv :: osl 145 2 lv (segw L.l) :: F)) :
    (L.l = [] ∧ lv = .slice none 0 0) ∨ ∃ b cap cs, lv = .slice (some ⟨b, 0, none⟩) L.l.length cap ∧ (∀ (i : Nat) (s : Int × Int), L.l[i]? = some s → cs[i * 2]? = some (.int .i64 s.1) ∧ cs[i * 2 + 1]? = some (.int .i64 s.2)) ∧
      Sat w0 w (pt b (.cells cs 145 (0,0)) :: logPt p m L lv :: F) ∧ ∀ w1 G, Sat w0 w1 (pt b (.cells cs 145 (0,0)) :: G) → Sat w0 w1 (osl 145 2 lv (segw L.l) :: G) := by
  have h' := h.pick1
  rcases h'.osl_cases with ⟨rfl, hx, hF⟩ | ⟨b, n', cap, cs, rfl, hll, hn', hc, hcm, htk, hp⟩
  · left
    refine ⟨?_, rfl⟩
    cases hl : L.l with
    | nil => rfl
    | cons a l => rw [hl] at hx; simp [segw] at hx
  · right
    rw [segw_len] at hll
    obtain rfl : n' = L.l.length := by omega
    refine ⟨b, cap, cs, rfl, ?_, hp, fun w1 G hS => Sat.osl_of_pt hS (by rw [segw_len]; omega) hn' hc hcm htk⟩
    intro i s hs
    obtain ⟨h1, h2⟩ := segw_at _ _ _ hs
    rw [Nat.mul_comm i 2]
    exact ⟨take_get htk h1, take_get htk h2⟩
set_option maxRecDepth 20000 in
set_option maxHeartbeats 8000000 in
theorem lsegs_c (hL : L.Ok) (h : Sat w0 w (LogRep p m L :: F)) :
    Calls Tryz.prog 46 #[ptr p] w (Rtn fun v w' => Sat w0 w' (osl 3 1 v (ints L.segs) :: LogRep p m L :: F)) := by
  obtain ⟨lv, hR⟩ := LogRep.open2 h
  clear h
  have hok := ok_c hR
  rcases segs_open hL.len hR with ⟨hnil, rfl⟩ | ⟨b, cap, cs, rfl, hcl, hp, hend⟩
  · have Hfin := Lib.hid (show L.segs = [] by unfold Seg.Log.segs; rw [hnil]; rfl)
    clear hnil hL
    go_enter Tryz.func46, Tryz.ntmps46
    go_wp2_with fail
    refine hok.mono ?_
    rintro e w2 ⟨v, rfl, rfl, rfl⟩
    clear hok
    go_wp2_with ((with_reducible apply at_load); refine ⟨?_⟩; refine wl_load1 (by assumption) (by rfl) pkD (Nat.le_of_ble_eq_true (by rfl)) evD (by kernel_rfl) ?_)
    go_loopg [14, 3] 0 (fun g iq ov wr => iq = .int .i64 0 ∧ ov = .slice none 0 0 ∧ wr = w)
    case atStart => exact ⟨rfl, rfl, rfl⟩
    case round =>
      obtain ⟨rfl, rfl, rfl⟩ := hrel
      go_wp2
      go_ret
      rw [Hfin.out]
      exact ⟨_, rfl, Sat.osl_nil.2 (LogRep.shut2 hR)⟩
  · have Hcl := Lib.hid hcl
    have Hend := Lib.hid hend
    have Hln := Lib.hid hL.len
    clear hcl hend hL hR
    go_enter Tryz.func46, Tryz.ntmps46
    go_wp2_with fail
    refine hok.mono ?_
    rintro e w2 ⟨v, rfl, rfl, rfl⟩
    clear hok
    go_wp2_with ((with_reducible apply at_load); refine ⟨?_⟩; refine wl_load1 (by assumption) (by rfl) pkD (Nat.le_of_ble_eq_true (by rfl)) evD (by kernel_rfl) ?_)
    go_loopg [14, 3] L.l.length (fun g iq ov wr => ∃ i : Nat, g = L.l.length - i ∧ i ≤ L.l.length ∧ iq = .int .i64 i ∧
      Sat w0 wr (osl 3 1 ov (ints ((L.l.take i).map (·.1))) :: pt b (.cells cs 145 (0,0)) :: logPt p m L (.slice (some ⟨b, 0, none⟩) L.l.length cap) :: F))
    case atStart => exact ⟨0, rfl, Nat.zero_le _, rfl, Sat.osl_nil.2 hp⟩
    case round =>
      obtain ⟨i, rfl, hi, rfl, hS⟩ := hrel
      clear hp
      by_cases hlt : i < L.l.length
      · obtain ⟨s, hs⟩ : ∃ s, L.l[i]? = some s := ⟨_, List.getElem?_eq_getElem hlt⟩
        have Htk := Lib.hid (show ints ((L.l.take i).map (·.1)) ++ [.int .i64 s.1] = ints ((L.l.take (i + 1)).map (·.1)) by
          rw [List.take_add_one, hs, List.map_append, ints_app]; rfl)
        have hlen : (ints ((L.l.take i).map (·.1))).length ≤ 2147483648 := by
          rw [ints_length, List.length_map, List.length_take]; have := Hln.out; omega
        obtain ⟨d0, d1⟩ := Hcl.out i s hs
        have Hd0 := Lib.hid d0; have Hd1 := Lib.hid d1; have Hlt := Lib.hid hlt
        have hic : (i : Int) < (L.l.length : Int) := by omega
        have hwi : IntKind.i64.wrap ((i : Int) + 1) = (i : Int) + 1 := IntWalk.i64_in _ (by have := Hln.out; omega)
        clear hs d0 d1 hlt
        go_wp2_with (first
          | ((with_reducible apply at_load); refine ⟨?_⟩; refine wl_loadN (b := b) (o := i * 2) [.int .i64 s.1, .int .i64 s.2] (by assumption) (by rfl) pkD (fun j v hj => by
              rcases j with _ | _ | j
              · cases hj; exact Hd0.out
              · cases hj; exact Hd1.out
              · simp at hj) Tryz.underlying145 rfl (by kernel_rfl) ?_)
          | (refine wl_alloc zSeg (by assumption) rfl ?_; intro q3 w3 hS3)
          | ((with_reducible apply at_store); refine ⟨?_⟩; refine wl_store (by assumption) (by rfl) evD (by first | (simp only [putsAt, Value.cells]; (try go_frame); first | done | rfl) | rfl) upD (Nat.le_of_ble_eq_true (by rfl)) (by kernel_rfl) (by rfl) ?_; intro wS hS) | ((with_reducible apply at_load); refine ⟨?_⟩; refine wl_load1 (by assumption) (by rfl) pkD (Nat.le_of_ble_eq_true (by rfl)) evD (by kernel_rfl) ?_) | ((with_reducible apply at_build1); refine ⟨?_⟩; refine wl_build1 (e := 3) (sz := 1) (by' := 8) (by kernel_rfl) (by assumption) evD evD (by rfl) (Nat.le_of_ble_eq_true (by rfl)) ?_; intro bN wN hN) | ((with_reducible apply at_append); refine ⟨?_⟩; refine wl_app 3 1 8 (by kernel_rfl) (by assumption) (by rfl) (by rfl) pkD pkD (by rfl) (Nat.le_of_ble_eq_true (by rfl)) (by rfl) (by assumption) (Nat.le_of_ble_eq_true (by rfl)) (Nat.le_of_ble_eq_true (by rfl)) evD ?_; intro bA nA cA wA hA))
        go_roundg (L.l.length - (i + 1))
        case measure => have := Hlt.out; omega
        case rel =>
          refine ⟨i + 1, rfl, Nat.succ_le_of_lt Hlt.out, by first | rfl | go_num, ?_⟩
          rw [Htk.out] at hA
          exact Sat.sb hA
      · obtain rfl : i = L.l.length := by omega
        have hic : ¬ (L.l.length : Int) < (L.l.length : Int) := by omega
        rw [List.take_length] at hS
        clear hi hlt
        go_wp2
        go_ret
        refine ⟨_, rfl, ?_⟩
        have h7 := Hend.out _ _ (hS.pk)
        exact Sat.sub (LogRep.shut2 (lv := .slice (some ⟨b, 0, none⟩) L.l.length cap) (Sat.sb h7)) sbD
end
section
variable {w0 w : World} {F : List HProp} {av bv v : Value}
set_option maxHeartbeats 4000000 in
theorem sameInts_c (la : List Int) (ha : Ro w0 F (rdsl 1 av (ints la))) (hb : Ro w0 F (rdsl 1 bv (ints la))) (h : Sat w0 w F) (hlen : la.length ≤ 9223372036854775807) :
    Calls Tryz.prog 45 #[av, bv] w (Rtn fun v w' => v = .bool true ∧ Sat w0 w' F) := by
  obtain ⟨aa, an, ac, rfl, hal, _⟩ := id (ha w h)
  obtain ⟨ba, bn, bc, rfl, hbl, _⟩ := id (hb w h)
  rw [show (ints la).length = la.length from List.length_map .., Nat.mul_one] at hal hbl
  subst hal
  obtain rfl := hbl.symm
  have Ha := Lib.hid ha; have Hb := Lib.hid hb
  clear ha hb
  go_enter Tryz.func45, Tryz.ntmps45
  go_wp2
  go_loopg [5] la.length (fun g iq wr => ∃ i : Nat, g = la.length - i ∧ i ≤ la.length ∧ iq = .int .i64 i ∧ Sat w0 wr F)
  case atStart => exact ⟨0, rfl, Nat.zero_le _, rfl, h⟩
  case round =>
    obtain ⟨i, rfl, hiN, rfl, hS⟩ := hrel
    by_cases hi : i < la.length
    · have hx : (ints la)[i]? = some (.int .i64 (la[i]'hi)) := by unfold ints; simp [hi]
      obtain ⟨bk, off, rfl, c1⟩ := rdsl_cell (Ha.out _ hS) hx
      obtain ⟨bk2, off2, rfl, c2⟩ := rdsl_cell (Hb.out _ hS) hx
      generalize (la[i]'hi) = X at c1 c2
      clear hx
      have hic : (i : Int) < (la.length : Int) := by omega
      have hS1 := hS.drew
      go_wp2
      refine wpL_begin [8] (fun w' => w'.cell? ⟨bk, off + i, none⟩ = some (.int .i64 X) ∧ w'.cell? ⟨bk2, off2 + i, none⟩ = some (.int .i64 X)) (by kernel_rfl) ?_
      have hG : _ ∧ _ := And.intro c1 c2
      refine rp 0 (hy := (by first | ((with_reducible apply gd_move); refine ⟨?_⟩; exact yl_move evD) | ((with_reducible apply gd_assign); refine ⟨?_⟩; exact yl_assign evD) | ((with_reducible apply gd_nil); refine ⟨?_⟩; exact yl_nil evD) | ((with_reducible apply gd_field); refine ⟨?_⟩; exact yl_field evD rnD) | ((with_reducible apply gd_len); refine ⟨?_⟩; exact yl_len evD rnD) | ((with_reducible apply gd_bin); refine ⟨?_⟩; exact yl_bin evD evD rnD) | ((with_reducible apply gd_index); refine ⟨?_⟩; exact yl_index evD evD rnD) | ((with_reducible apply gd_extract); refine ⟨?_⟩; exact yl_extract evD rnD) | ((with_reducible apply gd_un); refine ⟨?_⟩; exact yl_un evD rnD) | ((with_reducible apply gd_conv); refine ⟨?_⟩; exact yl_conv evD rnD) | (refine Or.inl ⟨by rfl, ?_⟩; ((intro wq; go_simp); first | done | (with_reducible rfl))))) (h := ?_)
      refine rp 1 (hy := (by first | ((with_reducible apply gd_move); refine ⟨?_⟩; exact yl_move evD) | ((with_reducible apply gd_assign); refine ⟨?_⟩; exact yl_assign evD) | ((with_reducible apply gd_nil); refine ⟨?_⟩; exact yl_nil evD) | ((with_reducible apply gd_field); refine ⟨?_⟩; exact yl_field evD rnD) | ((with_reducible apply gd_len); refine ⟨?_⟩; exact yl_len evD rnD) | ((with_reducible apply gd_bin); refine ⟨?_⟩; exact yl_bin evD evD rnD) | ((with_reducible apply gd_index); refine ⟨?_⟩; exact yl_index evD evD rnD) | ((with_reducible apply gd_extract); refine ⟨?_⟩; exact yl_extract evD rnD) | ((with_reducible apply gd_un); refine ⟨?_⟩; exact yl_un evD rnD) | ((with_reducible apply gd_conv); refine ⟨?_⟩; exact yl_conv evD rnD) | (refine Or.inl ⟨by rfl, ?_⟩; ((intro wq; go_simp); first | done | (with_reducible rfl))))) (h := ?_)
      refine rp 2 (hy := (by first | ((with_reducible apply gd_move); refine ⟨?_⟩; exact yl_move evD) | ((with_reducible apply gd_assign); refine ⟨?_⟩; exact yl_assign evD) | ((with_reducible apply gd_nil); refine ⟨?_⟩; exact yl_nil evD) | ((with_reducible apply gd_field); refine ⟨?_⟩; exact yl_field evD rnD) | ((with_reducible apply gd_len); refine ⟨?_⟩; exact yl_len evD rnD) | ((with_reducible apply gd_bin); refine ⟨?_⟩; exact yl_bin evD evD rnD) | ((with_reducible apply gd_index); refine ⟨?_⟩; exact yl_index evD evD rnD) | ((with_reducible apply gd_extract); refine ⟨?_⟩; exact yl_extract evD rnD) | ((with_reducible apply gd_un); refine ⟨?_⟩; exact yl_un evD rnD) | ((with_reducible apply gd_conv); refine ⟨?_⟩; exact yl_conv evD rnD) | (refine Or.inl ⟨by rfl, ?_⟩; ((intro wq; go_simp); first | done | (with_reducible rfl))))) (h := ?_)
      refine rt 3 (h := ?_)
      refine rp 4 (hy := (by first | ((with_reducible apply gd_move); refine ⟨?_⟩; exact yl_move evD) | ((with_reducible apply gd_assign); refine ⟨?_⟩; exact yl_assign evD) | ((with_reducible apply gd_nil); refine ⟨?_⟩; exact yl_nil evD) | ((with_reducible apply gd_field); refine ⟨?_⟩; exact yl_field evD rnD) | ((with_reducible apply gd_len); refine ⟨?_⟩; exact yl_len evD rnD) | ((with_reducible apply gd_bin); refine ⟨?_⟩; exact yl_bin evD evD rnD) | ((with_reducible apply gd_index); refine ⟨?_⟩; exact yl_index evD evD rnD) | ((with_reducible apply gd_extract); refine ⟨?_⟩; exact yl_extract evD rnD) | ((with_reducible apply gd_un); refine ⟨?_⟩; exact yl_un evD rnD) | ((with_reducible apply gd_conv); refine ⟨?_⟩; exact yl_conv evD rnD) | (refine Or.inl ⟨by rfl, ?_⟩; ((intro wq; go_simp); first | done | (with_reducible rfl))))) (h := ?_)
      refine rp 5 (hy := (by first | ((with_reducible apply gd_move); refine ⟨?_⟩; exact yl_move evD) | ((with_reducible apply gd_assign); refine ⟨?_⟩; exact yl_assign evD) | ((with_reducible apply gd_nil); refine ⟨?_⟩; exact yl_nil evD) | ((with_reducible apply gd_field); refine ⟨?_⟩; exact yl_field evD rnD) | ((with_reducible apply gd_len); refine ⟨?_⟩; exact yl_len evD rnD) | ((with_reducible apply gd_bin); refine ⟨?_⟩; exact yl_bin evD evD rnD) | ((with_reducible apply gd_index); refine ⟨?_⟩; exact yl_index evD evD rnD) | ((with_reducible apply gd_extract); refine ⟨?_⟩; exact yl_extract evD rnD) | ((with_reducible apply gd_un); refine ⟨?_⟩; exact yl_un evD rnD) | ((with_reducible apply gd_conv); refine ⟨?_⟩; exact yl_conv evD rnD) | (refine Or.inl ⟨by rfl, ?_⟩; ((intro wq; go_simp); first | done | (with_reducible rfl))))) (h := ?_)
      refine rp 6 (hy := (by first | ((with_reducible apply gd_move); refine ⟨?_⟩; exact yl_move evD) | ((with_reducible apply gd_assign); refine ⟨?_⟩; exact yl_assign evD) | ((with_reducible apply gd_nil); refine ⟨?_⟩; exact yl_nil evD) | ((with_reducible apply gd_field); refine ⟨?_⟩; exact yl_field evD rnD) | ((with_reducible apply gd_len); refine ⟨?_⟩; exact yl_len evD rnD) | ((with_reducible apply gd_bin); refine ⟨?_⟩; exact yl_bin evD evD rnD) | ((with_reducible apply gd_index); refine ⟨?_⟩; exact yl_index evD evD rnD) | ((with_reducible apply gd_extract); refine ⟨?_⟩; exact yl_extract evD rnD) | ((with_reducible apply gd_un); refine ⟨?_⟩; exact yl_un evD rnD) | ((with_reducible apply gd_conv); refine ⟨?_⟩; exact yl_conv evD rnD) | (refine Or.inl ⟨by rfl, ?_⟩; ((intro wq; go_simp); first | done | (with_reducible rfl))))) (h := ?_)
      refine rt 7 (h := ?_)
      refine rp 8 (hy := (by first | ((with_reducible apply gd_move); refine ⟨?_⟩; exact yl_move evD) | ((with_reducible apply gd_assign); refine ⟨?_⟩; exact yl_assign evD) | ((with_reducible apply gd_nil); refine ⟨?_⟩; exact yl_nil evD) | ((with_reducible apply gd_field); refine ⟨?_⟩; exact yl_field evD rnD) | ((with_reducible apply gd_len); refine ⟨?_⟩; exact yl_len evD rnD) | ((with_reducible apply gd_bin); refine ⟨?_⟩; exact yl_bin evD evD rnD) | ((with_reducible apply gd_index); refine ⟨?_⟩; exact yl_index evD evD rnD) | ((with_reducible apply gd_extract); refine ⟨?_⟩; exact yl_extract evD rnD) | ((with_reducible apply gd_un); refine ⟨?_⟩; exact yl_un evD rnD) | ((with_reducible apply gd_conv); refine ⟨?_⟩; exact yl_conv evD rnD) | (refine Or.inl ⟨by rfl, ?_⟩; ((intro wq; go_simp); first | done | (with_reducible rfl))))) (h := ?_)
      refine wpL_done (by kernel_rfl) ?_
      clear hG
      try go_frame
      go_wp2
      go_roundg (la.length - (i + 1))
      case measure => omega
      case rel => exact ⟨i + 1, rfl, by omega, by go_num, hS1⟩
    · obtain rfl : i = la.length := by omega
      have hic : ¬ (la.length : Int) < (la.length : Int) := by omega
      go_wp2
      go_ret
      exact ⟨.bool true, rfl, rfl, hS⟩
section
variable {L R : List HProp} {b o : Nat} {ops : Array Oper} {rest : List Oper} {a : Act} {Q : Exit → Act → World → Prop} {dst : Option Tmp} {t ty T : TypeId} {pos : String} {after : Array Edge} {P : Program} {x : Operand} {cs : Array Value} {g : Nat × Bool}
theorem at_loadG (h : Stop (wpList P ops Q (⟨dst, .load ty x, t, pos, after, some g⟩ :: rest) a w)) : wpList P ops Q (⟨dst, .load ty x, t, pos, after, some g⟩ :: rest) a w := h.out
theorem wl_loadG1 (hw : Region.wanted ⟨dst, .load ty x, t, pos, after, some g⟩ (yielded ops a.tmps) = true) (hs : Sat w0 w L) (hx : a.eval x = .pointer (some ⟨b, o, none⟩)) (p : Pick (pt b (.cells cs T (0,0))) L R) (hlt : o + 1 ≤ cs.size) (hv : cs.getD o undef = v) (h1 : oneB P ty = true)
    (h : wpList P ops Q rest (a.put dst v) w) : wpList P ops Q (⟨dst, .load ty x, t, pos, after, some g⟩ :: rest) a w :=
  wpList_step fun _ hK => by
    rw [if_pos hw]
    unfold Oper.wp execOp
    simp only [hx, Instr.loadAt, Instr.sureAddr, Sem.run_bind, Sem.run_pure, Result.andThen_ok, run_load1 h1 (hs.cellP p o (getD_get hlt hv))]
    exact hK _ _ h
theorem wl_loadGm (hw : Region.wanted ⟨dst, .load ty x, t, pos, after, some g⟩ (yielded ops a.tmps) = true) (hx : a.eval x = .pointer (some ⟨b, o, none⟩)) (cl : List Value) (d : TypeDesc) (hc : w.rangeAt b o cl)
    (hu : P.underlying ty = some d) (hd : d.isRow = true) (hi : (P.info? ty).map (·.size) = some cl.length)
    (h : wpList P ops Q rest (a.put dst (.agg cl.toArray)) w) : wpList P ops Q (⟨dst, .load ty x, t, pos, after, some g⟩ :: rest) a w :=
  wpList_step fun _ hK => by
    rw [if_pos hw]
    exact wp_load_mid ty x rfl b o hx cl d hc hu hd hi (hK _ _ h)
end
end
def penc (p : Seg.Plc) : List Value := [.int .i64 p.seg, .int .i64 p.at_, .int .i64 p.size]
def aenc (a : Rep.Abt) : List Value := [.int .i64 a.tag, .int .i64 a.place.seg, .int .i64 a.place.at_, .int .i64 a.place.size, .int .i64 a.first]
theorem penc_len (p : Seg.Plc) : (penc p).length = 3 := rfl
theorem aenc_len (a : Rep.Abt) : (aenc a).length = 5 := rfl
theorem penc_ones (p : Seg.Plc) : (penc p).all (·.oneCell') = true := rfl
theorem aenc_ones (a : Rep.Abt) : (aenc a).all (·.oneCell') = true := rfl
def slotL {V : Type} (enc : V → List Value) (x : Tab.Slot V) : List Value := .int .i64 x.st :: (bys x.key ++ enc x.val)
abbrev tbPt (p : Nat) (T : TypeId) (sv : Value) (n g : Nat) : HProp := pt p (.cells #[sv, .int .i64 n, .int .i64 g] T (0,0))
theorem slotL_len {V : Type} (enc : V → List Value) (x : Tab.Slot V) (hk : x.key.length = 32) (m : Nat) (he : (enc x.val).length = m) : (slotL enc x).length = 33 + m := by
  unfold slotL
  rw [List.length_cons, List.length_append, bys_len, hk, he]; omega
theorem bys_ones (b : Frm.Bs) : (bys b).all (·.oneCell') = true := by
  rw [List.all_eq_true]
  intro v hv
  unfold bys at hv
  obtain ⟨c, _, rfl⟩ := List.mem_map.1 hv
  rfl
theorem slotL_ones {V : Type} (enc : V → List Value) (x : Tab.Slot V) (he : (enc x.val).all (·.oneCell') = true) : (slotL enc x).all (·.oneCell') = true := by
  unfold slotL
  rw [List.all_cons, List.all_append, bys_ones, he]; rfl
theorem slotL_key {V : Type} (enc : V → List Value) (x : Tab.Slot V) {j : Nat} {v : Value} (h : (bys x.key)[j]? = some v) : (slotL enc x)[1 + j]? = some v := by
  unfold slotL
  rw [Nat.add_comm, List.getElem?_cons_succ, List.getElem?_append_left (List.getElem?_eq_some_iff.1 h).1]; exact h
theorem slotL_val {V : Type} (enc : V → List Value) (x : Tab.Slot V) (hk : x.key.length = 32) {j : Nat} {v : Value} (h : (enc x.val)[j]? = some v) : (slotL enc x)[33 + j]? = some v := by
  unfold slotL
  rw [show 33 + j = 32 + j + 1 by omega, List.getElem?_cons_succ, List.getElem?_append_right (by rw [bys_len, hk]; omega), bys_len, hk, Nat.add_sub_cancel_left]; exact h
theorem zSlotA : zeroB Tryz.prog 276 = some (.agg (slotL aenc ⟨0, Frm.zero32, ⟨0, Seg.Plc.zero, 0⟩⟩).toArray) := by kernel_rfl
theorem zSlotL : zeroB Tryz.prog 220 = some (.agg (slotL penc ⟨0, Frm.zero32, Seg.Plc.zero⟩).toArray) := by kernel_rfl
section
variable {w0 w : World} {L R : List HProp} {b : Nat} {T : TypeId} {V : Type} {enc : V → List Value} {x : Tab.Slot V} {l : List Value}
theorem pt_rangeL (h : Sat w0 w (pt b (.cells l.toArray T (0,0)) :: R)) : w.rangeAt b 0 l := fun j v hj => by
  have := h.cellP pick0 j (by rw [List.getElem?_toArray]; exact hj)
  rw [Nat.zero_add]; exact this
theorem slot_key (h : Sat w0 w (pt b (.cells (slotL enc x).toArray T (0,0)) :: R)) : w.rangeAt b 1 (bys x.key) := fun j v hj =>
  h.cellP pick0 (1 + j) (by rw [List.getElem?_toArray]; exact slotL_key enc x hj)
theorem slot_val (hk : x.key.length = 32) (h : Sat w0 w (pt b (.cells (slotL enc x).toArray T (0,0)) :: R)) : w.rangeAt b 33 (enc x.val) := fun j v hj =>
  h.cellP pick0 (33 + j) (by rw [List.getElem?_toArray]; exact slotL_val enc x hk hj)
end
end Go.Proofs.YtmjldaedhmipkaaGreatDoor
namespace Go.Tab
open Go.Frm (Bs)
section
variable {V : Type} {x : Slot V} {c : Nat}
theorem good_empty (hc : ∃ j, c = 2 ^ j ∧ 3 ≤ j) (hk : x.key.length = 32) (hx : x.st = 0) : Good (List.replicate c x) :=
  ⟨by rw [List.length_replicate]; exact hc, (fun y hy => by rw [List.eq_of_mem_replicate hy, hx]; decide), (fun y hy => by rw [List.eq_of_mem_replicate hy]; exact hk), fun i y hy h1 => by
    rw [List.eq_of_mem_replicate (List.mem_of_getElem? hy), hx] at h1; cases h1⟩
theorem empty_has (hx : x.st = 0) (k : Bs) (v : V) : ¬ Has (List.replicate c x) k v := by
  rintro ⟨i, y, hy, h1, _⟩
  rw [List.eq_of_mem_replicate (List.mem_of_getElem? hy), hx] at h1; cases h1
theorem empty_fulls (hx : x.st = 0) : fulls (List.replicate c x) = 0 := by unfold fulls; rw [List.countP_replicate, if_neg (by rw [hx]; decide)]
theorem empty_used (hx : x.st = 0) : used (List.replicate c x) = 0 := by unfold used; rw [List.countP_replicate, if_neg (by rw [hx]; decide)]
theorem new_ok (hk : x.key.length = 32) (hx : x.st = 0) : (⟨List.replicate 8 x, 0, 0⟩ : Tb V).Ok :=
  ⟨good_empty ⟨3, rfl, Nat.le_refl 3⟩ hk hx, (empty_fulls hx).symm, (empty_used hx).symm, by simp, by simp⟩
theorem new_is (hx : x.st = 0) (n g : Nat) : (⟨List.replicate 8 x, n, g⟩ : Tb V).Is (fun _ => none) := fun k v => ⟨fun h => absurd h (empty_has hx k v), fun h => by cases h⟩
theorem Tb.Is.some {t : Tb V} {m : Bs → Option V} (hm : t.Is m) (ho : t.Ok) {k : Bs} {d : Nat} (he : Ends t.slots k d) {y : Slot V} (hy : t.slots[pos k t.slots.length d]? = some y) : (y.st = 1 → m k = some y.val) ∧ (y.st ≠ 1 → m k = none) := by
  refine ⟨fun h1 => (hm k _).1 (ends_full he hy h1).2, fun h1 => ?_⟩
  cases hmk : m k with
  | none => rfl
  | some v => exact absurd ((hm k v).2 hmk) ((ends_empty ho.good he hy h1).2 v)
end
end Go.Tab
namespace Go.Proofs.YtmjldaedhmipkaaGreatDoor
open Go Go.Sl Go.Med Go.MapKept Go.RowKit
theorem made_rows (z : Array Value) (h : 0 < z.size) : ∀ n, (madeCells z (n * z.size)).toList = (List.replicate n z.toList).flatten
  | 0 => by simp [madeCells]
  | n + 1 => by
    have ih := made_rows z h n
    have hl : (madeCells z ((n + 1) * z.size)).toList = (List.range ((n + 1) * z.size)).map (z[· % z.size]!) := by unfold madeCells; simp
    have hl0 : (madeCells z (n * z.size)).toList = (List.range (n * z.size)).map (z[· % z.size]!) := by unfold madeCells; simp
    rw [hl0] at ih
    rw [hl, Nat.succ_mul, List.range_add, List.map_append, ih, List.replicate_succ', List.flatten_append]
    congr 1
    rw [List.map_map]
    simp only [List.flatten_cons, List.flatten_nil, List.append_nil]
    refine List.ext_getElem (by simp) fun i h1 h2 => ?_
    have hi : i < z.size := by simpa using h1
    simp only [List.getElem_map, List.getElem_range, Function.comp]
    rw [Nat.mul_comm n, Nat.mul_add_mod, Nat.mod_eq_of_lt hi, getElem!_pos z i hi, Array.getElem_toList]
section
variable {P : Program} {w0 w : World} {L L' R : List HProp} {b o : Nat} {ops : Array Oper} {rest : List Oper} {a : Act} {Q : Exit → Act → World → Prop} {dst : Option Tmp} {t ty T e sz by' n c : Nat} {pos : String} {after : Array Edge} {x y : Operand} {v : Value} {zs : List Value}
theorem at_make (h : Stop (wpList P ops Q (⟨dst, .makeSlice ty x y, t, pos, after, none⟩ :: rest) a w)) : wpList P ops Q (⟨dst, .makeSlice ty x y, t, pos, after, none⟩ :: rest) a w := h.out
theorem wl_makeN (hb : appB P ty e sz by' = true) (hz : zeroB P e = some (.agg zs.toArray)) (hs : Sat w0 w L) (hx : a.eval x = .int .i64 n) (hy : a.eval y = .int .i64 n) (hle : by' * n ≤ 281474976710656) (hm : n ≤ 9223372036854775807)
    (hK : ∀ b w', Sat w0 w' (osl e sz (.slice (some ⟨b, 0, none⟩) n n) (List.replicate n zs).flatten :: L) → wpList P ops Q rest (a.put dst (.slice (some ⟨b, 0, none⟩) n n)) w') :
    wpList P ops Q (⟨dst, .makeSlice ty x y, t, pos, after, none⟩ :: rest) a w := by
  obtain ⟨hu, i, z, hi, hz1, h1, h2, h3, h4⟩ := appB_spec hb
  have hzz : z = .agg zs.toArray := by
    unfold zeroB at hz
    rw [hi] at hz
    simp only [Option.bind_some] at hz
    rw [hz1] at hz
    exact Option.some.inj hz
  subst hzz
  have hzl : zs.length = sz := by rw [← List.size_toArray]; exact h3
  have hr := run_make (P := P) w ty e i (.agg zs.toArray) hu hi hz1 .i64 .i64 n n (by omega) (Int.le_refl _) (by rw [h2, ← Int.natCast_mul]; omega) (by omega)
  simp only [Int.toNat_natCast] at hr
  have hS := hs.alloc (.cells (madeCells (Value.agg zs.toArray).cells (n * i.size)) e)
  refine wpList_plain rfl fun _ hK' => ?_
  unfold Oper.wp execOp
  simp only [hx, hy, hr, Sem.run_bind, Sem.run_pure, Result.andThen_ok]
  refine hK' _ _ (hK _ _ ?_)
  have hm := made_rows zs.toArray (by rw [List.size_toArray]; omega) n
  rw [List.size_toArray, hzl] at hm
  refine Sat.osl_of_pt hS (by rw [List.length_flatten, List.map_replicate, List.sum_replicate_nat, hzl]) (Nat.le_refl _) (by rw [size_madeCells, h1]; exact Nat.le_refl _) (by unfold maxLen; omega) ?_
  rw [h1]
  show (madeCells zs.toArray (n * sz)).toList.take (n * sz) = _
  rw [hm, List.take_of_length_le (by rw [List.length_flatten, List.map_replicate, List.sum_replicate_nat, hzl]; exact Nat.le_refl _)]
end
end Go.Proofs.YtmjldaedhmipkaaGreatDoor
namespace Go.Tab
open Go.Frm (Bs)
structure Renewed {V : Type} (t : Tb V) (s' : List (Slot V)) (N : Nat) : Prop where
  good : Good s'
  has : ∀ k v, Has s' k v ↔ Has t.slots k v
  nf : fulls s' = t.n
  nu : used s' = t.n
  lo : 2 * N ≤ s'.length
  lo8 : 8 ≤ s'.length
  hi : s'.length = 8 ∨ s'.length < 4 * N
theorem Renewed.ok {V : Type} {t : Tb V} {s' : List (Slot V)} (h : Renewed t s' (t.n + 1)) : (⟨s', t.n, 0⟩ : Tb V).Ok :=
  ⟨h.good, h.nf.symm, by rw [h.nu]; rfl, by have := h.lo; simp only; omega, by have := h.hi; simp only; omega⟩
theorem Renewed.is {V : Type} {t : Tb V} {s' : List (Slot V)} {N : Nat} (h : Renewed t s' N) {m : Bs → Option V} (hm : t.Is m) (n g : Nat) : (⟨s', n, g⟩ : Tb V).Is m := fun k v => (h.has k v).trans (hm k v)
theorem half_start {V : Type} {old : List (Slot V)} {x : Slot V} {c : Nat} (hc : ∃ j, c = 2 ^ j ∧ 3 ≤ j) (hk : x.key.length = 32) (hx : x.st = 0) : Half old (List.replicate c x) 0 :=
  ⟨good_empty hc hk hx, fun k v => ⟨fun h => absurd h (empty_has hx k v), fun h => by obtain ⟨i, y, hy, _⟩ := h; simp at hy⟩, by rw [empty_fulls hx]; rfl, by rw [empty_used hx]; rfl⟩
end Go.Tab
namespace Go.Proofs.YtmjldaedhmipkaaGreatDoor
open Go Go.Sl Go.Med Go.MapKept Go.RowKit
theorem putL_app2 (A B vs : List Value) (i : Nat) (h : i + vs.length ≤ A.length) : putL (A ++ B) i vs = putL A i vs ++ B := by
  unfold putL
  rw [List.take_append_of_le_length (by omega), List.drop_append_of_le_length (by omega)]
  simp only [List.append_assoc]
theorem rows_part {α : Type} {f : α → List Value} {k : Nat} : ∀ {l : List α} {i o : Nat} {x x' : α} {vs : List Value}, (∀ x ∈ l, (f x).length = k) → l[i]? = some x → f x' = putL (f x) o vs → o + vs.length ≤ k → (l.set i x').flatMap f = putL (l.flatMap f) (i * k + o) vs
  | [], _, _, _, _, _, _, h, _, _ => by cases h
  | y :: l, 0, o, x, x', vs, hk, h, hx, ho => by
    obtain rfl : y = x := by simpa using h
    rw [List.set_cons_zero, List.flatMap_cons, List.flatMap_cons, Nat.zero_mul, Nat.zero_add, hx, putL_app2 _ _ _ _ (by rw [hk y (.head _)]; exact ho)]
  | y :: l, i + 1, o, x, x', vs, hk, h, hx, ho => by
    have h0 := hk y (.head _)
    rw [List.set_cons_succ, List.flatMap_cons, List.flatMap_cons, rows_part (fun z hz => hk z (.tail _ hz)) (by simpa using h) hx ho, show (i + 1) * k + o = (f y).length + (i * k + o) by rw [h0, Nat.succ_mul]; omega, putL_app]
theorem slotL_setv {V : Type} (enc : V → List Value) (x : Tab.Slot V) (v : V) (hk : x.key.length = 32) (he : (enc v).length = (enc x.val).length) : slotL enc ⟨x.st, x.key, v⟩ = putL (slotL enc x) 33 (enc v) := by
  have e : slotL enc x = (.int .i64 x.st :: bys x.key) ++ enc x.val := rfl
  have hl : (Value.int .i64 x.st :: bys x.key).length = 33 := by rw [List.length_cons, bys_len, hk]
  rw [e, show 33 = (Value.int .i64 x.st :: bys x.key).length + 0 by rw [hl], putL_app]
  unfold putL
  rw [List.take_zero, List.nil_append, Nat.zero_add, he, List.drop_length, List.append_nil]; rfl
section
variable {w0 w : World} {R : List HProp} {T sz n c : Nat} {a : Option Addr} {xs : List Value}
theorem osl_zero (h : Sat w0 w (osl T sz (.slice a n c) xs :: R)) (hx : 0 < xs.length) : ∃ b, a = some ⟨b, 0, none⟩ := by
  rcases Sat.osl_cases h with ⟨_, rfl, _⟩ | ⟨b, n', cap', cs, he, _⟩
  · simp at hx
  · cases he; exact ⟨b, rfl⟩
end
theorem wraps4 (n g l : Nat) (h : n + g ≤ 134217728) (hl : l ≤ 1073741824) :
    IntKind.i64.wrap ((n : Int) + (g : Int)) = (n : Int) + (g : Int) ∧ IntKind.i64.wrap ((n : Int) + (g : Int) + 1) = (n : Int) + (g : Int) + 1 ∧ IntKind.i64.wrap (4 * ((n : Int) + (g : Int) + 1)) = 4 * ((n : Int) + (g : Int) + 1) ∧ IntKind.i64.wrap (3 * (l : Int)) = 3 * (l : Int) ∧
    wrap64 ((n : Int) + (g : Int)) = (n : Int) + (g : Int) ∧ wrap64 ((n : Int) + (g : Int) + 1) = (n : Int) + (g : Int) + 1 ∧ wrap64 (4 * ((n : Int) + (g : Int) + 1)) = 4 * ((n : Int) + (g : Int) + 1) ∧ wrap64 (3 * (l : Int)) = 3 * (l : Int) ∧ IntKind.i64.wrap ((n : Int) + 1) = (n : Int) + 1 :=
  ⟨IntWalk.i64_in _ (by omega), IntWalk.i64_in _ (by omega), IntWalk.i64_in _ (by omega), IntWalk.i64_in _ (by omega), IntWalk.wrap64_in _ (by omega), IntWalk.wrap64_in _ (by omega), IntWalk.wrap64_in _ (by omega), IntWalk.wrap64_in _ (by omega), IntWalk.i64_in _ (by omega)⟩
theorem plSlotA : placesB Tryz.prog 276 = some [(0, 1), (1, 32), (33, 5)] := by kernel_rfl
theorem plSlotL : placesB Tryz.prog 220 = some [(0, 1), (1, 32), (33, 3)] := by kernel_rfl
theorem putL_all {xs vs : List Value} (h : vs.length = xs.length) : putL xs 0 vs = vs := by
  unfold putL
  rw [List.take_zero, List.nil_append, Nat.zero_add, h, List.drop_length, List.append_nil]
theorem puts_putL (cs : Array Value) (o : Nat) (vs : List Value) (h : o + vs.length ≤ cs.size) : (putsAt cs o vs).toList = putL cs.toList o vs := by
  rw [putsAt_list _ _ _ h, List.append_assoc]; rfl
theorem put_slot {V : Type} (enc : V → List Value) (z : Tab.Slot V) (k : Frm.Bs) (v : V) (hz : z.key.length = 32) (hk : k.length = 32) (he : (enc v).length = (enc z.val).length) (n : Nat) (hn : (enc z.val).length = n) :
    putParts [(0, 1), (1, 32), (33, n)] (slotL enc z).toArray [(0, .int .i64 1), (1, .agg (bys k).toArray), (2, .agg (enc v).toArray)] = (slotL enc ⟨1, k, v⟩).toArray := by
  have hzl : (slotL enc z).length = 33 + n := by rw [slotL_len enc z hz _ hn]
  show putsAt (putsAt (putsAt (slotL enc z).toArray 0 [.int .i64 1]) 1 (bys k)) 33 (enc v) = _
  apply putsAt_eq
  rw [puts_putL _ _ _ (by rw [putsAt_size, putsAt_size, List.size_toArray, hzl]; omega), puts_putL _ _ _ (by rw [putsAt_size, List.size_toArray, hzl, bys_len, hk]; omega), puts_putL _ _ _ (by rw [List.size_toArray, hzl, List.length_singleton]; omega)]
  have e : slotL enc z = [.int .i64 z.st] ++ (bys z.key ++ enc z.val) := rfl
  have e1 : putL (slotL enc z) 0 [.int .i64 1] = [.int .i64 1] ++ (bys z.key ++ enc z.val) := by
    rw [e, putL_app2 _ _ _ _ (Nat.le_refl 1)]; rfl
  have e2 : putL ([Value.int .i64 1] ++ (bys z.key ++ enc z.val)) 1 (bys k) = [Value.int .i64 1] ++ (bys k ++ enc z.val) := by
    have h0 := putL_app [Value.int .i64 1] (bys z.key ++ enc z.val) (bys k) 0
    have h1 : putL (bys z.key ++ enc z.val) 0 (bys k) = bys k ++ enc z.val := by
      rw [putL_app2 _ _ _ _ (by rw [bys_len, bys_len, hk, hz]; omega), putL_all (by rw [bys_len, bys_len, hk, hz])]
    rw [h1] at h0
    exact h0
  have e3 : putL ([Value.int .i64 1] ++ (bys k ++ enc z.val)) 33 (enc v) = [Value.int .i64 1] ++ (bys k ++ enc v) := by
    have h0 := putL_app ([Value.int .i64 1] ++ bys k) (enc z.val) (enc v) 0
    rw [putL_all he] at h0
    have hl : ([Value.int .i64 1] ++ bys k).length + 0 = 33 := by rw [List.length_append, bys_len, hk]; rfl
    rw [hl, List.append_assoc, List.append_assoc] at h0
    exact h0
  simp only [List.toList_toArray]
  rw [e1, e2, e3]; rfl
end Go.Proofs.YtmjldaedhmipkaaGreatDoor
namespace Go.Tab
open Go.Frm (Bs)
theorem cmpB_lt : ∀ (a b : Bs), Lib.compareBytes a b < 0 ↔ a < b
  | [], [] => by simp [Lib.compareBytes]
  | [], b :: bs => by simp [Lib.compareBytes]
  | a :: l, [] => by simp [Lib.compareBytes]
  | a :: l, b :: bs => by
    rw [List.cons_lt_cons_iff, ← cmpB_lt l bs]
    rw [show Lib.compareBytes (a :: l) (b :: bs) = if a < b then -1 else if b < a then 1 else Lib.compareBytes l bs from rfl]
    by_cases h1 : a < b
    · simp [h1]
    · rw [if_neg h1]
      by_cases h2 : b < a
      · rw [if_pos h2]
        constructor
        · intro h; exact absurd h (by decide)
        · rintro (h | ⟨rfl, _⟩)
          · exact absurd h h1
          · exact absurd h2 h1
      · rw [if_neg h2]
        have : a = b := by
          have h3 : ¬ a.toNat < b.toNat := fun h => h1 (UInt8.lt_iff_toNat_lt.2 h)
          have h4 : ¬ b.toNat < a.toNat := fun h => h2 (UInt8.lt_iff_toNat_lt.2 h)
          exact UInt8.toNat_inj.1 (by omega)
        subst this
        constructor
        · intro h; exact .inr ⟨rfl, h⟩
        · rintro (h | ⟨_, h⟩)
          · exact absurd h h1
          · exact h
end Go.Tab
namespace Go.Proofs.YtmjldaedhmipkaaGreatDoor
open Go Go.Sl Go.Med Go.MapKept Go.RowKit
theorem adr_add (b o j : Nat) : (⟨b, o, none⟩ : Addr).add j = ⟨b, o + j, none⟩ := by unfold Addr.add; split <;> simp_all
section
variable {w0 w : World} {F R : List HProp} {v bv av : Value}
theorem run_bytesOf {l : Frm.Bs} (h : rdsl 1 v (bys l) w) : (Extern.Bytes.bytesOf v).run Tryz.prog w = .ok ⟨l.toArray⟩ w := by
  obtain ⟨a, n, c, rfl, hl, hx⟩ := h
  rw [bys_len, Nat.mul_one] at hl
  subst hl
  cases a with
  | none =>
    obtain rfl : l = [] := by
      cases l with
      | nil => rfl
      | cons d l => obtain ⟨b, hb, _⟩ := hx 0 _ rfl; cases hb
    rfl
  | some ad =>
    have := Lib.run_loadBytesX (P := Tryz.prog) w (l.map fun c => (c.toNat : Int)) ad .empty (fun j x hj => by
      rw [List.getElem?_map] at hj
      obtain ⟨c', hc', rfl⟩ := Option.map_eq_some_iff.1 hj
      have hy : (bys l)[j]? = some (.int .u8 c'.toNat) := by unfold bys; rw [List.getElem?_map, hc']; rfl
      obtain ⟨b, hb, hc⟩ := hx _ _ hy
      cases hb
      exact hc)
    rw [List.length_map] at this
    simp only [Extern.Bytes.bytesOf, this]
    have e : Lib.bytesOf (l.map fun c => (c.toNat : Int)) = l := by
      unfold Lib.bytesOf
      rw [List.map_map]
      conv => rhs; rw [← List.map_id l]
      exact List.map_congr_left fun c _ => by simp
    rw [e]
    show Result.ok ({ data := (#[] : Array UInt8) ++ l.toArray } : ByteArray) w = _
    rw [Array.empty_append]
theorem run_bcmp {x y : Frm.Bs} (h1 : rdsl 1 av (bys x) w) (h2 : rdsl 1 bv (bys y) w) : (Extern.BytealgCompare.compare #[av, bv]).run Tryz.prog w = .ok (.int .i64 (Lib.compareBytes x y)) w := by
  change Sem.run Tryz.prog (do pure (goInt (Extern.BytealgCompare.cmp (← Extern.Bytes.bytesOf av) (← Extern.Bytes.bytesOf bv)))) w = _
  simp only [Sem.run_bind, Sem.run_pure, run_bytesOf h1, run_bytesOf h2, Result.andThen]
  rw [Lib.cmp_eq]
  rfl
set_option maxRecDepth 100000 in
set_option maxHeartbeats 1000000 in
theorem bcmp_c (x y : Frm.Bs) (h1 : rdsl 1 av (bys x) w) (h2 : rdsl 1 bv (bys y) w) :
    Calls Tryz.prog 178 #[av, bv] w fun e w' => e = .returned (.int .i64 (Lib.compareBytes x y)) ∧ w' = w := by
  have hr := run_bcmp h1 h2
  generalize Lib.compareBytes x y = r at *
  clear h1 h2
  go_enter Tryz.func178, Tryz.ntmps178
  go_wp2
  rw [run_callFunc_extern Tryz.func193 (by kernel_rfl) (by kernel_rfl) (by kernel_rfl) (e := Extern.BytealgCompare.compare) (by kernel_rfl), hr]
  simp only [Result.andThen]
  rw [Oper.upon_value]
  go_wp2
  go_ret
  exact ⟨rfl, rfl⟩
end
end Go.Proofs.YtmjldaedhmipkaaGreatDoor
namespace Go.Proofs.YtmjldaedhmipkaaGreatDoor
open Go Go.Sl Go.Med Go.MapKept Go.RowKit Go.Sort
section
variable {α : Type} [Inhabited α] {enc : α → List Value} {k : Nat}
theorem flatK_list (hk : ∀ x, (enc x).length = k) (h0 : 0 < k) (d : Array α) : (flatK enc k d).toList = d.toList.flatMap enc := by
  have hl : (d.toList.flatMap enc).length = k * d.toList.length := rows_len fun x _ => hk x
  refine List.ext_getElem (by rw [hl, Array.length_toList, size_flatK, Array.length_toList, Nat.mul_comm]) fun t h1 h2 => ?_
  have ht : t < d.size * k := by rw [Array.length_toList, size_flatK] at h1; exact h1
  have hi : t / k < d.size := Nat.div_lt_of_lt_mul (by rw [Nat.mul_comm]; exact ht)
  have hx : d.toList[t / k]? = some d[t / k]! := by
    rw [Array.getElem?_toList, Array.getElem?_eq_getElem hi, getElem!_pos d _ hi]
  have hm : t % k < (enc d[t / k]!).length := by rw [hk]; exact Nat.mod_lt _ h0
  have hr := rows_at (l := d.toList) (f := enc) (k := k) (fun x _ => hk x) hx (List.getElem?_eq_getElem hm)
  rw [show t / k * k + t % k = t by rw [Nat.mul_comm]; exact Nat.div_add_mod t k, List.getElem?_eq_getElem h2] at hr
  rw [Option.some.inj hr, Array.getElem_toList, ← getElem!_pos (flatK enc k d) t (by rw [size_flatK]; exact ht), get_flatK _ _ _ _ ht]
  exact getElem!_pos (enc d[t / k]!) (t % k) hm
end
section
variable {w0 w : World} {R : List HProp} {g n m : Nat} {T : TypeId} {cs : Array Value} {os : Array Obj}
theorem heap_sortedV {fr : Nat × Nat} (d : Array Value) (hb : w.heap[g]? = some (.cells cs T fr)) : (grow (putRow id (Sort.ahead w n) g 0 d) os).heap[g]? = some (.cells (putCells id 0 d cs) T fr) := by
  have hg : g < w.heap.size := (Array.getElem?_eq_some_iff.1 hb).1
  rw [heap_grow_old _ _ (by simpa using hg)]
  simp [putRow, mapBlock, Sort.ahead, Array.getElem?_modify, hb, onCells]
theorem grownBy_sortedV (d : Array Value) : w.grownBy (grow (putRow id (Sort.ahead w n) g 0 d) os) (some g) := by
  refine ⟨rfl, rfl, rfl, by simp, fun k hk hne => ?_⟩
  rw [heap_grow_old _ _ (by simpa using hk)]
  have : g ≠ k := fun e => hne (by rw [e])
  simp [putRow, mapBlock, Sort.ahead, Array.getElem?_modify, this]
theorem take_putCellsV (d : Array Value) (h : d.size ≤ cs.size) : (putCells id 0 d cs).toList.take d.size = d.toList := by
  apply List.ext_getElem?
  intro j
  by_cases hj : j < d.size
  · rw [List.getElem?_take_of_lt hj, Array.getElem?_toList]
    simp [putCells, hj, show j < cs.size by omega]
  · rw [List.getElem?_take_eq_none (by omega), List.getElem?_eq_none (by simp; omega)]
theorem sat_sorted (hp : Sat w0 w (pt g (.cells cs T (0,0)) :: R)) (d : Array Value) : Sat w0 (grow (putRow id (Sort.ahead w n) g 0 d) os) (pt g (.cells (putCells id 0 d cs) T (0,0)) :: R) := by
  have hg := grownBy_sortedV (w := w) (g := g) (n := n) (os := os) d
  exact hp.turn hg.os hg.tape hg.output hg.size (heap_sortedV (n := n) (os := os) d hp.at) (fun i hi hlt => hg.block i hlt (by simpa using hi))
theorem holds_blockV {d : Array Value} (hb : w.heap[g]? = some (.cells cs T (0, 0))) (ht : cs.toList.take d.size = d.toList) : Holds id w g 0 d := by
  intro j hj
  refine ⟨?_, by simp [World.frozen?, hb]⟩
  have h1 : (cs.toList.take d.size)[j]? = d.toList[j]? := by rw [ht]
  rw [List.getElem?_take_of_lt hj] at h1
  simp only [World.cell?, hb, Nat.zero_add]
  simp only [Option.isSome_none, Bool.false_eq_true, if_false]
  rw [← Array.getElem?_toList, h1, Array.getElem?_toList, Array.getElem?_eq_getElem hj, getElem!_pos d j hj]
  rfl
end
end Go.Proofs.YtmjldaedhmipkaaGreatDoor
namespace Go.Tab
open Go.Frm (Bs)
open Go.Sort
theorem swo_key {V : Type} (key : V → Bs) : SWO (Go.Proofs.ltOf fun x y => Lib.compareBytes (key x) (key y)) := by
  have e : ∀ x y, Go.Proofs.ltOf (fun x y => Lib.compareBytes (key x) (key y)) x y = decide (key x < key y) := fun x y => by
    unfold Go.Proofs.ltOf
    rw [Bool.eq_iff_iff, decide_eq_true_eq, decide_eq_true_eq]
    exact cmpB_lt _ _
  refine ⟨fun x => ?_, fun x y z => ?_, fun x y z => ?_⟩
  · rw [e, decide_eq_false_iff_not]; exact List.lt_irrefl _
  · rw [e, e, e, decide_eq_true_eq, decide_eq_true_eq, decide_eq_true_eq]; exact List.lt_trans
  · rw [e, e, e, decide_eq_false_iff_not, decide_eq_false_iff_not, decide_eq_false_iff_not]
    intro h1 h2 h3
    rcases bs_tri (key x) (key y) with q | q | q
    · exact h1 q
    · exact h2 (q ▸ h3)
    · rcases bs_tri (key y) (key z) with p | p | p
      · exact h2 p
      · exact List.lt_irrefl _ (List.lt_trans q (p ▸ h3))
      · exact List.lt_irrefl _ (List.lt_trans (List.lt_trans h3 p) q)
theorem sorted_list {V : Type} [Inhabited V] {key : V → Bs} {d d' : Array V} (hp : PermIn 0 d.size d d') (hs : SortedIn (Go.Proofs.ltOf fun x y => Lib.compareBytes (key x) (key y)) 0 d.size d') :
    d'.toList.Perm d.toList ∧ d'.toList.Pairwise fun a b => ¬ key b < key a := by
  obtain ⟨h1, _, h3⟩ := hp
  constructor
  · have e : ∀ a : Array V, a.extract 0 a.size = a := fun a => by simp
    have h3' := h3
    rw [e d, ← h1, e d'] at h3'
    exact h3'
  · rw [List.pairwise_iff_getElem]
    intro i j hi hj hij
    rw [Array.length_toList] at hi hj
    have := hs i j (Nat.zero_le _) hij (by omega)
    rw [getElem!_pos d' i hi, getElem!_pos d' j hj] at this
    unfold Go.Proofs.ltOf at this
    rw [decide_eq_false_iff_not, cmpB_lt] at this
    simpa using this
theorem lists_of {V : Type} {s l : List (Slot V)} {m : Bs → Option V} (g : Good s) (hm : ∀ k v, Has s k v ↔ m k = some v) (hp : l.Perm (s.filter fun x => decide (x.st = 1))) (hs : l.Pairwise fun a b => ¬ b.key < a.key) :
    Lists m (l.map fun x => (x.key, x.val)) ∧ ∀ x ∈ l, x.st = 1 ∧ x.key.length = 32 := by
  have hmem : ∀ x, x ∈ l ↔ x ∈ s ∧ x.st = 1 := fun x => by rw [hp.mem_iff, List.mem_filter, decide_eq_true_eq]
  have hnd : l.Pairwise fun a b => a.key ≠ b.key := by
    have h0 : (s.filter fun x => decide (x.st = 1)).Pairwise fun a b => a.key ≠ b.key := by
      rw [List.pairwise_filter, List.pairwise_iff_getElem]
      intro i j hi hj hij h1 h2 h3
      have := g.one (List.getElem?_eq_getElem hi) (List.getElem?_eq_getElem hj) (by simpa using h1) (by simpa using h2) h3
      omega
    exact (hp.pairwise_iff (fun {a b} h => Ne.symm h)).2 h0
  refine ⟨⟨?_, fun k v => ?_⟩, fun x hx => ⟨((hmem x).1 hx).2, g.key x ((hmem x).1 hx).1⟩⟩
  · rw [List.pairwise_map]
    refine (hs.and hnd).imp fun {a b} h => ?_
    rcases bs_tri a.key b.key with q | q | q
    · exact q
    · exact absurd q h.2
    · exact absurd q h.1
  · rw [← hm, List.mem_map]
    constructor
    · rintro ⟨x, hx, e⟩
      obtain ⟨a, b⟩ := (hmem x).1 hx
      obtain ⟨i, hi, he⟩ := List.getElem_of_mem a
      cases e
      exact ⟨i, x, by rw [List.getElem?_eq_getElem hi, he], b, rfl, rfl⟩
    · rintro ⟨i, x, hi, a, rfl, rfl⟩
      exact ⟨x, (hmem x).2 ⟨List.mem_of_getElem? hi, a⟩, rfl⟩
end Go.Tab
namespace Go.Proofs.YtmjldaedhmipkaaGreatDoor
open Go Go.Sl Go.Med Go.MapKept Go.RowKit
section
variable {w0 w : World} {F R : List HProp} {p n gn d c : Nat} {sv v : Value} {k : Frm.Bs} {s : List (Tab.Slot (Rep.Abt))} {a : Option Addr}
theorem okA_c (hl : 0 < s.length) (h : Sat w0 w (tbPt p 256 (.slice a s.length c) n gn :: F)) :
    Calls Tryz.prog 169 #[ptr p] w (Rtn fun v w' => v = .bool true ∧ w = w') := by
  have e0 : w.cell? ⟨p, 0, none⟩ = some (.slice a s.length c) := h.cellAt 0 _ rfl
  have c1 : (0 : Int) < (s.length : Int) := by omega
  go_enter Tryz.func169, Tryz.ntmps169
  go_wp2
  go_ret
  exact ⟨_, rfl, rfl, rfl⟩
set_option maxRecDepth 20000 in
set_option maxHeartbeats 8000000 in
theorem findA_c (g : Tab.Good s) (hc : s.length ≤ 1073741824) (hk : k.length = 32) (he : Tab.Ends s k d) (h : Sat w0 w (tbPt p 256 sv n gn :: osl 276 38 sv (s.flatMap (slotL aenc)) :: F)) :
    Calls Tryz.prog 170 #[ptr p, .agg (bys k).toArray] w (Rtn fun v w' => ∃ x, s[Tab.pos k s.length d]? = some x ∧ v = .tuple #[.int .i64 (Tab.pos k s.length d : Nat), .int .i64 ((d : Int) + 1), .bool (decide (x.st = 1))] ∧
      Sat w0 w' (tbPt p 256 sv n gn :: osl 276 38 sv (s.flatMap (slotL aenc)) :: F)) := by
  have Hk := Lib.hid hk; have HG := Lib.hid g; have HE := Lib.hid he; have Hc := Lib.hid hc
  have Hlen := Lib.hid (show ∀ x ∈ s, (slotL aenc x).length = 38 from fun x hx => slotL_len aenc x (g.key x hx) 5 (aenc_len _))
  obtain ⟨la, lc, rfl⟩ := osl_rows Hlen.out (Sat.rd (h.pick pick1)) (by decide)
  obtain ⟨j, hj, _⟩ := g.pow
  have hj40 : j < 40 := by
    rcases Nat.lt_or_ge j 40 with q | q
    · exact q
    · have : 2 ^ 40 ≤ 2 ^ j := Nat.pow_le_pow_right (by decide) q
      have h40 : (2 : Nat) ^ 40 = 1099511627776 := by decide
      omega
  have Hj := Lib.hid hj; have Hj40 := Lib.hid hj40
  have Hd := Lib.hid (show d < s.length from he.lt)
  have hp0 : 0 < s.length := g.pos_len
  have Hp0 := Lib.hid hp0
  have Hpz := Lib.hid (Tab.pos_zero (k := k) hp0)
  clear hj hj40 hk g he hc hp0
  go_enter Tryz.func170, Tryz.ntmps170
  go_wp2_with ((with_reducible apply at_box); refine ⟨?_⟩; refine wl_box (by assumption) evD evD ?_; intro bB wB hB)
  have hB1 := hB.drew
  clear hB
  refine wpL_begin [6, 7] (fun w' => w'.rangeAt bB 0 (bys k) ∧ w'.cell? ⟨p, 0, none⟩ = some (.slice la s.length lc)) (by kernel_rfl) ?_
  have hG : World.rangeAt _ bB 0 (bys k) ∧ World.cell? _ ⟨p, 0, none⟩ = some (.slice la s.length lc) := ⟨pt_rangeL (hB1.pk (A := pt bB (.cells (bys k).toArray 41 (0,0)))), hB1.cellP pkD 0 rfl⟩
  refine rg_take 0 evD (by kernel_rfl) (by intro _ _ _ h; exact h) (tk_loadN (b := bB) (o := 0) (bys k) (by rfl) Tryz.underlying41 rfl (by rw [bys_len, Hk.out]; kernel_rfl) (fun w hw => hw.1)) (by assumption) (by go_frame; first | done | rfl) ?_
  refine rp 1 (hy := (yl_move evD)) (h := ?_)
  refine rp 2 (hy := (yl_nil evD)) (h := ?_)
  refine rp 3 (hy := (yl_field evD rnD)) (h := ?_)
  refine rt 4 (h := ?_)
  refine rp 5 (hy := (yl_len evD rnD)) (h := ?_)
  clear hG
  have hh := home_c k Hk.out j Hj40.out hB1
  rw [← Hj.out] at hh
  refine rg_eff 6 evD (by kernel_rfl) (fun K hK => ?_)
  (refine eff_call2 (by kernel_rfl) evD evD ?_)
  refine hh.mono ?_
  rintro ee w2 ⟨v, rfl, rfl, hS2⟩
  refine hK _ _ (.inl rfl) ?_
  clear hK hh hB1
  refine rp 7 (hy := (yl_assign evD)) (h := ?_)
  refine wpL_done (by kernel_rfl) ?_
  try simp only [List.getElem_toArray, List.getElem_cons_succ, List.getElem_cons_zero]
  try go_frame
  rw [← Hpz.out]
  go_wp2_with fail
  go_loopg [7, 8] d (fun g aq sq wr => ∃ e : Nat, g = d - e ∧ e ≤ d ∧ aq = .int .i64 (Tab.pos k s.length e : Nat) ∧ sq = .int .i64 ((e : Int) + 1) ∧
    Sat w0 wr (pt bB (.cells (bys k).toArray 41 (0,0)) :: tbPt p 256 (.slice la s.length lc) n gn :: osl 276 38 (.slice la s.length lc) (s.flatMap (slotL aenc)) :: F))
  case atStart => exact ⟨0, rfl, Nat.zero_le _, rfl, rfl, hS2.sb⟩
  case round =>
    obtain ⟨e, rfl, hed, rfl, rfl, hS⟩ := hrel
    clear hS2
    have hlt := Tab.pos_lt (k := k) (d := e) Hp0.out
    have hdl := Hd.out
    have hcl := Hc.out
    obtain ⟨x, hx⟩ : ∃ x, s[Tab.pos k s.length e]? = some x := ⟨_, List.getElem?_eq_getElem hlt⟩
    have hxm := List.mem_of_getElem? hx
    have hst := HG.out.st x hxm
    have Hxk := Lib.hid (HG.out.key x hxm)
    obtain ⟨bk, off, c', hsv, hcell⟩ := osl_row Hlen.out (Sat.rd (hS.pick pick2)) hx (by decide)
    have Hnext := Lib.hid (Tab.pos_next (k := k) (d := e) Hp0.out)
    have Hmask := Lib.hid (and_mask (Tab.pos k s.length e + 1) j (by omega) (by have := Hj40.out; omega))
    have Hstop := Lib.hid (show e = d ↔ x.stop k from ⟨fun h => by
        subst h
        obtain ⟨y, hy, hs⟩ := HE.out.here
        rw [hx] at hy; cases hy; exact hs, fun h => by
        rcases Nat.lt_or_ge e d with q | q
        · exact absurd ⟨x, hx, h⟩ (HE.out.no e q)
        · omega⟩)
    have Hx := Lib.hid hx
    cases hsv
    have c0 : (0 : Int) ≤ ((Tab.pos k s.length e : Nat) : Int) := by omega
    have c1 : ((Tab.pos k s.length e : Nat) : Int) < (s.length : Int) := by omega
    have c2 : Tab.pos k s.length e < s.length := hlt
    have e0 : wr.cell? ⟨p, 0, none⟩ = some (.slice (some ⟨bk, off, none⟩) s.length lc) := hS.cellP pkD 0 rfl
    have hl38 := Hlen.out x hxm
    clear hx hxm
    have hq : bits .and .i64 (((Tab.pos k s.length e : Nat) : Int) + 1) ((s.length : Int) - 1) = ((Tab.pos k s.length (e + 1) : Nat) : Int) := by
      have h1 := Hmask.out
      rw [← Hj.out, Hnext.out] at h1
      rw [← h1]
      congr 1
      have := Hp0.out
      omega
    have hw1 : IntKind.i64.wrap (((Tab.pos k s.length e : Nat) : Int) + 1) = ((Tab.pos k s.length e : Nat) : Int) + 1 := IntWalk.i64_in _ (by omega)
    have hw2 : IntKind.i64.wrap ((s.length : Int) - 1) = (s.length : Int) - 1 := IntWalk.i64_in _ (by omega)
    have hw3 : IntKind.i64.wrap ((e : Int) + 1 + 1) = (e : Int) + 1 + 1 := IntWalk.i64_in _ (by omega)
    clear hdl hcl
    generalize hP1 : Tab.pos k s.length (e + 1) = P1 at hq
    have HP1 := Lib.hid hP1
    generalize hP : Tab.pos k s.length e = P0 at *
    have HP := Lib.hid hP
    clear hP1 hP hlt Hmask Hnext
    have Hed := Lib.hid hed
    clear hed
    go_wp2_with (with_reducible apply at_load)
    refine ⟨?_⟩
    refine wl_load1 hS (by rfl) pkD (Nat.le_of_ble_eq_true (by rfl)) evD (by kernel_rfl) ?_
    go_wp2_with (with_reducible apply at_load)
    refine ⟨?_⟩
    refine wl_loadW (b := bk) (o := off + P0 * 38) (slotL aenc x) (by rfl) hcell Tryz.underlying276 rfl (by rw [hl38]; kernel_rfl) ?_
    go_wp2_with (with_reducible apply at_alloc)
    refine ⟨?_⟩
    refine wl_alloc zSlotA hS rfl ?_
    intro b9 w9 hS9
    go_wp2_with (first | ((with_reducible apply at_store); refine ⟨?_⟩; refine wl_storeA (slotL aenc x).toArray hS9 (by rfl) (by rfl) (by rw [List.size_toArray, hl38]; rfl) upd0 (by rw [List.size_toArray, hl38]; kernel_rfl) (by rw [List.toList_toArray]; exact slotL_ones aenc x (aenc_ones _)) ?_; intro w10 hS10) | (with_reducible apply at_load))
    refine ⟨?_⟩
    clear hS hS9 hcell e0
    have f0 : w10.cell? ⟨b9, 0, none⟩ = some (.int .i64 x.st) := hS10.cellP pick0 0 (by rw [List.getElem?_toArray]; rfl)
    have f1 : w10.rangeAt b9 1 (bys x.key) := slot_key (hS10.pick pick0)
    have f2 : w10.cell? ⟨p, 0, none⟩ = some (.slice (some ⟨bk, off, none⟩) s.length lc) := hS10.cellP pkD 0 rfl
    have hend : Sat w0 w10 (pt bB (.cells (bys k).toArray 41 (0,0)) :: tbPt p 256 (.slice (some ⟨bk, off, none⟩) s.length lc) n gn :: osl 276 38 (.slice (some ⟨bk, off, none⟩) s.length lc) (s.flatMap (slotL aenc)) :: F) := hS10.sb
    have h3 : x.st = 0 ∨ x.st = 1 ∨ x.st = 2 := by omega
    rcases h3 with h3 | h3 | h3
    · have h4 : e = d := Hstop.out.2 (.inl h3)
      rw [h3] at f0
      have Hdx := Lib.hid (show decide (x.st = 1) = false by rw [h3]; rfl)
      have Hst := Lib.hid (show (x.st : Int) = 0 by rw [h3]; rfl)
      clear Hstop hst h3 f1 f2 hq hw1 hw2 hw3 c0 c1 c2
      subst h4
      go_wp2_with fail
      have hS11 := hS10.drew
      clear hS10
      refine wpL_begin [4, 7] (fun w' => w'.cell? ⟨b9, 0, none⟩ = some (.int .i64 0)) (by kernel_rfl) ?_
      have hG : World.cell? _ ⟨b9, 0, none⟩ = some (.int .i64 0) := hS11.cellP pick0 0 (by rw [List.getElem?_toArray, ← Hst.out]; rfl)
      clear f0
      refine rp 0 (hy := (yl_move evD)) (h := ?_)
      refine rp 1 (hy := (yl_move evD)) (h := ?_)
      refine rp 2 (hy := (yl_field evD rnD)) (h := ?_)
      refine rt 3 (h := ?_)
      refine rp 4 (hy := (yl_bin evD evD rnD)) (h := ?_)
      refine rp 5 (hy := (yl_assign evD)) (h := ?_)
      refine rp 6 (hy := (yl_assign evD)) (h := ?_)
      refine rp 7 (hy := (yl_assign evD)) (h := ?_)
      refine wpL_done (by kernel_rfl) ?_
      clear hG
      try simp only [List.getElem_toArray, List.getElem_cons_succ, List.getElem_cons_zero]
      try go_frame
      go_wp2_with fail
      go_ret3
      exact ⟨_, rfl, x, by rw [HP.out]; exact Hx.out, by rw [HP.out, Hdx.out]; rfl, hS11.sb⟩
    · have f3 : w10.rangeAt bB 0 (bys k) := pt_rangeL (hS10.pk (A := pt bB (.cells (bys k).toArray 41 (0,0))))
      have hkk := eqIn_key x.key k Hxk.out Hk.out
      rw [h3] at f0
      by_cases hxk : x.key = k
      · have h4 : e = d := Hstop.out.2 (.inr ⟨h3, hxk⟩)
        have Hdx := Lib.hid (show decide (x.st = 1) = true by rw [h3]; rfl)
        have Hst := Lib.hid (show (x.st : Int) = 1 by rw [h3]; rfl)
        rw [decide_eq_true hxk] at hkk
        clear Hstop hst h3 hxk hq hw1 hw2 hw3 c0 c1 c2 f2
        subst h4
        go_wp2_with (first
          | ((with_reducible apply at_loadG); refine ⟨?_⟩; refine wl_loadGm (o := 1) (by rfl) (by rfl) (bys x.key) _ f1 Tryz.underlying41 rfl (by rw [bys_len, Hxk.out]; kernel_rfl) ?_)
          | ((with_reducible apply at_loadG); refine ⟨?_⟩; refine wl_loadGm (o := 0) (by rfl) (by rfl) (bys k) _ f3 Tryz.underlying41 rfl (by rw [bys_len, Hk.out]; kernel_rfl) ?_))
        clear hkk f1 f3
        have hS11 := hS10.drew
        clear hS10
        refine wpL_begin [4, 7] (fun w' => w'.cell? ⟨b9, 0, none⟩ = some (.int .i64 1)) (by kernel_rfl) ?_
        have hG : World.cell? _ ⟨b9, 0, none⟩ = some (.int .i64 1) := hS11.cellP pick0 0 (by rw [List.getElem?_toArray, ← Hst.out]; rfl)
        clear f0
        refine rp 0 (hy := (yl_move evD)) (h := ?_)
        refine rp 1 (hy := (yl_move evD)) (h := ?_)
        refine rp 2 (hy := (yl_field evD rnD)) (h := ?_)
        refine rt 3 (h := ?_)
        refine rp 4 (hy := (yl_bin evD evD rnD)) (h := ?_)
        refine rp 5 (hy := (yl_assign evD)) (h := ?_)
        refine rp 6 (hy := (yl_assign evD)) (h := ?_)
        refine rp 7 (hy := (yl_assign evD)) (h := ?_)
        refine wpL_done (by kernel_rfl) ?_
        clear hG
        try simp only [List.getElem_toArray, List.getElem_cons_succ, List.getElem_cons_zero]
        try go_frame
        go_wp2_with fail
        go_ret3
        exact ⟨_, rfl, x, by rw [HP.out]; exact Hx.out, by rw [HP.out, Hdx.out]; rfl, hS11.sb⟩
      · have h4 : e < d := by
          have := Hed.out
          rcases Nat.lt_or_ge e d with q | q
          · exact q
          · exact absurd (Hstop.out.1 (by omega)) (fun h => h.elim (fun h => by omega) fun h => hxk h.2)
        rw [decide_eq_false hxk] at hkk
        have H4 := Lib.hid h4
        clear Hstop hst h3 hxk h4
        go_wp2_with (first
          | ((with_reducible apply at_loadG); refine ⟨?_⟩; refine wl_loadGm (o := 1) (by rfl) (by rfl) (bys x.key) _ f1 Tryz.underlying41 rfl (by rw [bys_len, Hxk.out]; kernel_rfl) ?_)
          | ((with_reducible apply at_loadG); refine ⟨?_⟩; refine wl_loadGm (o := 0) (by rfl) (by rfl) (bys k) _ f3 Tryz.underlying41 rfl (by rw [bys_len, Hk.out]; kernel_rfl) ?_))
        go_roundg (d - (e + 1))
        case measure => have := H4.out; omega
        case rel => exact ⟨e + 1, rfl, H4.out, by rw [HP1.out], by first | rfl | go_num, hS10.sb⟩
    · have h4 : e < d := by
        have := Hed.out
        rcases Nat.lt_or_ge e d with q | q
        · exact q
        · exact absurd (Hstop.out.1 (by omega)) (fun h => h.elim (fun h => by omega) fun h => by omega)
      rw [h3] at f0
      have H4 := Lib.hid h4
      clear Hstop hst h3 f1 h4
      go_wp2_with fail
      go_roundg (d - (e + 1))
      case measure => have := H4.out; omega
      case rel => exact ⟨e + 1, rfl, H4.out, by rw [HP1.out], by first | rfl | go_num, hS10.sb⟩
end
section
variable {w0 w : World} {F R : List HProp} {p n gn d c : Nat} {sv v : Value} {k : Frm.Bs} {s : List (Tab.Slot (Seg.Plc))} {a : Option Addr}
theorem okL_c (hl : 0 < s.length) (h : Sat w0 w (tbPt p 223 (.slice a s.length c) n gn :: F)) :
    Calls Tryz.prog 121 #[ptr p] w (Rtn fun v w' => v = .bool true ∧ w = w') := by
  have e0 : w.cell? ⟨p, 0, none⟩ = some (.slice a s.length c) := h.cellAt 0 _ rfl
  have c1 : (0 : Int) < (s.length : Int) := by omega
  go_enter Tryz.func121, Tryz.ntmps121
  go_wp2
  go_ret
  exact ⟨_, rfl, rfl, rfl⟩
set_option maxRecDepth 20000 in
set_option maxHeartbeats 8000000 in
theorem findL_c (g : Tab.Good s) (hc : s.length ≤ 1073741824) (hk : k.length = 32) (he : Tab.Ends s k d) (h : Sat w0 w (tbPt p 223 sv n gn :: osl 220 36 sv (s.flatMap (slotL penc)) :: F)) :
    Calls Tryz.prog 122 #[ptr p, .agg (bys k).toArray] w (Rtn fun v w' => ∃ x, s[Tab.pos k s.length d]? = some x ∧ v = .tuple #[.int .i64 (Tab.pos k s.length d : Nat), .int .i64 ((d : Int) + 1), .bool (decide (x.st = 1))] ∧
      Sat w0 w' (tbPt p 223 sv n gn :: osl 220 36 sv (s.flatMap (slotL penc)) :: F)) := by
  have Hk := Lib.hid hk; have HG := Lib.hid g; have HE := Lib.hid he; have Hc := Lib.hid hc
  have Hlen := Lib.hid (show ∀ x ∈ s, (slotL penc x).length = 36 from fun x hx => slotL_len penc x (g.key x hx) 3 (penc_len _))
  obtain ⟨la, lc, rfl⟩ := osl_rows Hlen.out (Sat.rd (h.pick pick1)) (by decide)
  obtain ⟨j, hj, _⟩ := g.pow
  have hj40 : j < 40 := by
    rcases Nat.lt_or_ge j 40 with q | q
    · exact q
    · have : 2 ^ 40 ≤ 2 ^ j := Nat.pow_le_pow_right (by decide) q
      have h40 : (2 : Nat) ^ 40 = 1099511627776 := by decide
      omega
  have Hj := Lib.hid hj; have Hj40 := Lib.hid hj40
  have Hd := Lib.hid (show d < s.length from he.lt)
  have hp0 : 0 < s.length := g.pos_len
  have Hp0 := Lib.hid hp0
  have Hpz := Lib.hid (Tab.pos_zero (k := k) hp0)
  clear hj hj40 hk g he hc hp0
  go_enter Tryz.func122, Tryz.ntmps122
  go_wp2_with ((with_reducible apply at_box); refine ⟨?_⟩; refine wl_box (by assumption) evD evD ?_; intro bB wB hB)
  have hB1 := hB.drew
  clear hB
  refine wpL_begin [6, 7] (fun w' => w'.rangeAt bB 0 (bys k) ∧ w'.cell? ⟨p, 0, none⟩ = some (.slice la s.length lc)) (by kernel_rfl) ?_
  have hG : World.rangeAt _ bB 0 (bys k) ∧ World.cell? _ ⟨p, 0, none⟩ = some (.slice la s.length lc) := ⟨pt_rangeL (hB1.pk (A := pt bB (.cells (bys k).toArray 41 (0,0)))), hB1.cellP pkD 0 rfl⟩
  refine rg_take 0 evD (by kernel_rfl) (by intro _ _ _ h; exact h) (tk_loadN (b := bB) (o := 0) (bys k) (by rfl) Tryz.underlying41 rfl (by rw [bys_len, Hk.out]; kernel_rfl) (fun w hw => hw.1)) (by assumption) (by go_frame; first | done | rfl) ?_
  refine rp 1 (hy := (yl_move evD)) (h := ?_)
  refine rp 2 (hy := (yl_nil evD)) (h := ?_)
  refine rp 3 (hy := (yl_field evD rnD)) (h := ?_)
  refine rt 4 (h := ?_)
  refine rp 5 (hy := (yl_len evD rnD)) (h := ?_)
  clear hG
  have hh := home_c k Hk.out j Hj40.out hB1
  rw [← Hj.out] at hh
  refine rg_eff 6 evD (by kernel_rfl) (fun K hK => ?_)
  (refine eff_call2 (by kernel_rfl) evD evD ?_)
  refine hh.mono ?_
  rintro ee w2 ⟨v, rfl, rfl, hS2⟩
  refine hK _ _ (.inl rfl) ?_
  clear hK hh hB1
  refine rp 7 (hy := (yl_assign evD)) (h := ?_)
  refine wpL_done (by kernel_rfl) ?_
  try simp only [List.getElem_toArray, List.getElem_cons_succ, List.getElem_cons_zero]
  try go_frame
  rw [← Hpz.out]
  go_wp2_with fail
  go_loopg [7, 8] d (fun g aq sq wr => ∃ e : Nat, g = d - e ∧ e ≤ d ∧ aq = .int .i64 (Tab.pos k s.length e : Nat) ∧ sq = .int .i64 ((e : Int) + 1) ∧
    Sat w0 wr (pt bB (.cells (bys k).toArray 41 (0,0)) :: tbPt p 223 (.slice la s.length lc) n gn :: osl 220 36 (.slice la s.length lc) (s.flatMap (slotL penc)) :: F))
  case atStart => exact ⟨0, rfl, Nat.zero_le _, rfl, rfl, hS2.sb⟩
  case round =>
    obtain ⟨e, rfl, hed, rfl, rfl, hS⟩ := hrel
    clear hS2
    have hlt := Tab.pos_lt (k := k) (d := e) Hp0.out
    have hdl := Hd.out
    have hcl := Hc.out
    obtain ⟨x, hx⟩ : ∃ x, s[Tab.pos k s.length e]? = some x := ⟨_, List.getElem?_eq_getElem hlt⟩
    have hxm := List.mem_of_getElem? hx
    have hst := HG.out.st x hxm
    have Hxk := Lib.hid (HG.out.key x hxm)
    obtain ⟨bk, off, c', hsv, hcell⟩ := osl_row Hlen.out (Sat.rd (hS.pick pick2)) hx (by decide)
    have Hnext := Lib.hid (Tab.pos_next (k := k) (d := e) Hp0.out)
    have Hmask := Lib.hid (and_mask (Tab.pos k s.length e + 1) j (by omega) (by have := Hj40.out; omega))
    have Hstop := Lib.hid (show e = d ↔ x.stop k from ⟨fun h => by
        subst h
        obtain ⟨y, hy, hs⟩ := HE.out.here
        rw [hx] at hy; cases hy; exact hs, fun h => by
        rcases Nat.lt_or_ge e d with q | q
        · exact absurd ⟨x, hx, h⟩ (HE.out.no e q)
        · omega⟩)
    have Hx := Lib.hid hx
    cases hsv
    have c0 : (0 : Int) ≤ ((Tab.pos k s.length e : Nat) : Int) := by omega
    have c1 : ((Tab.pos k s.length e : Nat) : Int) < (s.length : Int) := by omega
    have c2 : Tab.pos k s.length e < s.length := hlt
    have e0 : wr.cell? ⟨p, 0, none⟩ = some (.slice (some ⟨bk, off, none⟩) s.length lc) := hS.cellP pkD 0 rfl
    have hl38 := Hlen.out x hxm
    clear hx hxm
    have hq : bits .and .i64 (((Tab.pos k s.length e : Nat) : Int) + 1) ((s.length : Int) - 1) = ((Tab.pos k s.length (e + 1) : Nat) : Int) := by
      have h1 := Hmask.out
      rw [← Hj.out, Hnext.out] at h1
      rw [← h1]
      congr 1
      have := Hp0.out
      omega
    have hw1 : IntKind.i64.wrap (((Tab.pos k s.length e : Nat) : Int) + 1) = ((Tab.pos k s.length e : Nat) : Int) + 1 := IntWalk.i64_in _ (by omega)
    have hw2 : IntKind.i64.wrap ((s.length : Int) - 1) = (s.length : Int) - 1 := IntWalk.i64_in _ (by omega)
    have hw3 : IntKind.i64.wrap ((e : Int) + 1 + 1) = (e : Int) + 1 + 1 := IntWalk.i64_in _ (by omega)
    clear hdl hcl
    generalize hP1 : Tab.pos k s.length (e + 1) = P1 at hq
    have HP1 := Lib.hid hP1
    generalize hP : Tab.pos k s.length e = P0 at *
    have HP := Lib.hid hP
    clear hP1 hP hlt Hmask Hnext
    have Hed := Lib.hid hed
    clear hed
    go_wp2_with (with_reducible apply at_load)
    refine ⟨?_⟩
    refine wl_load1 hS (by rfl) pkD (Nat.le_of_ble_eq_true (by rfl)) evD (by kernel_rfl) ?_
    go_wp2_with (with_reducible apply at_load)
    refine ⟨?_⟩
    refine wl_loadW (b := bk) (o := off + P0 * 36) (slotL penc x) (by rfl) hcell Tryz.underlying220 rfl (by rw [hl38]; kernel_rfl) ?_
    go_wp2_with (with_reducible apply at_alloc)
    refine ⟨?_⟩
    refine wl_alloc zSlotL hS rfl ?_
    intro b9 w9 hS9
    go_wp2_with (first | ((with_reducible apply at_store); refine ⟨?_⟩; refine wl_storeA (slotL penc x).toArray hS9 (by rfl) (by rfl) (by rw [List.size_toArray, hl38]; rfl) upd0 (by rw [List.size_toArray, hl38]; kernel_rfl) (by rw [List.toList_toArray]; exact slotL_ones penc x (penc_ones _)) ?_; intro w10 hS10) | (with_reducible apply at_load))
    refine ⟨?_⟩
    clear hS hS9 hcell e0
    have f0 : w10.cell? ⟨b9, 0, none⟩ = some (.int .i64 x.st) := hS10.cellP pick0 0 (by rw [List.getElem?_toArray]; rfl)
    have f1 : w10.rangeAt b9 1 (bys x.key) := slot_key (hS10.pick pick0)
    have f2 : w10.cell? ⟨p, 0, none⟩ = some (.slice (some ⟨bk, off, none⟩) s.length lc) := hS10.cellP pkD 0 rfl
    have hend : Sat w0 w10 (pt bB (.cells (bys k).toArray 41 (0,0)) :: tbPt p 223 (.slice (some ⟨bk, off, none⟩) s.length lc) n gn :: osl 220 36 (.slice (some ⟨bk, off, none⟩) s.length lc) (s.flatMap (slotL penc)) :: F) := hS10.sb
    have h3 : x.st = 0 ∨ x.st = 1 ∨ x.st = 2 := by omega
    rcases h3 with h3 | h3 | h3
    · have h4 : e = d := Hstop.out.2 (.inl h3)
      rw [h3] at f0
      have Hdx := Lib.hid (show decide (x.st = 1) = false by rw [h3]; rfl)
      have Hst := Lib.hid (show (x.st : Int) = 0 by rw [h3]; rfl)
      clear Hstop hst h3 f1 f2 hq hw1 hw2 hw3 c0 c1 c2
      subst h4
      go_wp2_with fail
      have hS11 := hS10.drew
      clear hS10
      refine wpL_begin [4, 7] (fun w' => w'.cell? ⟨b9, 0, none⟩ = some (.int .i64 0)) (by kernel_rfl) ?_
      have hG : World.cell? _ ⟨b9, 0, none⟩ = some (.int .i64 0) := hS11.cellP pick0 0 (by rw [List.getElem?_toArray, ← Hst.out]; rfl)
      clear f0
      refine rp 0 (hy := (yl_move evD)) (h := ?_)
      refine rp 1 (hy := (yl_move evD)) (h := ?_)
      refine rp 2 (hy := (yl_field evD rnD)) (h := ?_)
      refine rt 3 (h := ?_)
      refine rp 4 (hy := (yl_bin evD evD rnD)) (h := ?_)
      refine rp 5 (hy := (yl_assign evD)) (h := ?_)
      refine rp 6 (hy := (yl_assign evD)) (h := ?_)
      refine rp 7 (hy := (yl_assign evD)) (h := ?_)
      refine wpL_done (by kernel_rfl) ?_
      clear hG
      try simp only [List.getElem_toArray, List.getElem_cons_succ, List.getElem_cons_zero]
      try go_frame
      go_wp2_with fail
      go_ret3
      exact ⟨_, rfl, x, by rw [HP.out]; exact Hx.out, by rw [HP.out, Hdx.out]; rfl, hS11.sb⟩
    · have f3 : w10.rangeAt bB 0 (bys k) := pt_rangeL (hS10.pk (A := pt bB (.cells (bys k).toArray 41 (0,0))))
      have hkk := eqIn_key x.key k Hxk.out Hk.out
      rw [h3] at f0
      by_cases hxk : x.key = k
      · have h4 : e = d := Hstop.out.2 (.inr ⟨h3, hxk⟩)
        have Hdx := Lib.hid (show decide (x.st = 1) = true by rw [h3]; rfl)
        have Hst := Lib.hid (show (x.st : Int) = 1 by rw [h3]; rfl)
        rw [decide_eq_true hxk] at hkk
        clear Hstop hst h3 hxk hq hw1 hw2 hw3 c0 c1 c2 f2
        subst h4
        go_wp2_with (first
          | ((with_reducible apply at_loadG); refine ⟨?_⟩; refine wl_loadGm (o := 1) (by rfl) (by rfl) (bys x.key) _ f1 Tryz.underlying41 rfl (by rw [bys_len, Hxk.out]; kernel_rfl) ?_)
          | ((with_reducible apply at_loadG); refine ⟨?_⟩; refine wl_loadGm (o := 0) (by rfl) (by rfl) (bys k) _ f3 Tryz.underlying41 rfl (by rw [bys_len, Hk.out]; kernel_rfl) ?_))
        clear hkk f1 f3
        have hS11 := hS10.drew
        clear hS10
        refine wpL_begin [4, 7] (fun w' => w'.cell? ⟨b9, 0, none⟩ = some (.int .i64 1)) (by kernel_rfl) ?_
        have hG : World.cell? _ ⟨b9, 0, none⟩ = some (.int .i64 1) := hS11.cellP pick0 0 (by rw [List.getElem?_toArray, ← Hst.out]; rfl)
        clear f0
        refine rp 0 (hy := (yl_move evD)) (h := ?_)
        refine rp 1 (hy := (yl_move evD)) (h := ?_)
        refine rp 2 (hy := (yl_field evD rnD)) (h := ?_)
        refine rt 3 (h := ?_)
        refine rp 4 (hy := (yl_bin evD evD rnD)) (h := ?_)
        refine rp 5 (hy := (yl_assign evD)) (h := ?_)
        refine rp 6 (hy := (yl_assign evD)) (h := ?_)
        refine rp 7 (hy := (yl_assign evD)) (h := ?_)
        refine wpL_done (by kernel_rfl) ?_
        clear hG
        try simp only [List.getElem_toArray, List.getElem_cons_succ, List.getElem_cons_zero]
        try go_frame
        go_wp2_with fail
        go_ret3
        exact ⟨_, rfl, x, by rw [HP.out]; exact Hx.out, by rw [HP.out, Hdx.out]; rfl, hS11.sb⟩
      · have h4 : e < d := by
          have := Hed.out
          rcases Nat.lt_or_ge e d with q | q
          · exact q
          · exact absurd (Hstop.out.1 (by omega)) (fun h => h.elim (fun h => by omega) fun h => hxk h.2)
        rw [decide_eq_false hxk] at hkk
        have H4 := Lib.hid h4
        clear Hstop hst h3 hxk h4
        go_wp2_with (first
          | ((with_reducible apply at_loadG); refine ⟨?_⟩; refine wl_loadGm (o := 1) (by rfl) (by rfl) (bys x.key) _ f1 Tryz.underlying41 rfl (by rw [bys_len, Hxk.out]; kernel_rfl) ?_)
          | ((with_reducible apply at_loadG); refine ⟨?_⟩; refine wl_loadGm (o := 0) (by rfl) (by rfl) (bys k) _ f3 Tryz.underlying41 rfl (by rw [bys_len, Hk.out]; kernel_rfl) ?_))
        go_roundg (d - (e + 1))
        case measure => have := H4.out; omega
        case rel => exact ⟨e + 1, rfl, H4.out, by rw [HP1.out], by first | rfl | go_num, hS10.sb⟩
    · have h4 : e < d := by
        have := Hed.out
        rcases Nat.lt_or_ge e d with q | q
        · exact q
        · exact absurd (Hstop.out.1 (by omega)) (fun h => h.elim (fun h => by omega) fun h => by omega)
      rw [h3] at f0
      have H4 := Lib.hid h4
      clear Hstop hst h3 f1 h4
      go_wp2_with fail
      go_roundg (d - (e + 1))
      case measure => have := H4.out; omega
      case rel => exact ⟨e + 1, rfl, H4.out, by rw [HP1.out], by first | rfl | go_num, hS10.sb⟩
end
end Go.Proofs.YtmjldaedhmipkaaGreatDoor
