import Derived.Test.YtdhhbajggafdhaaMedQ
/- The plain law of MediaTears: a crash leaves a front of the bytes, with all that was fast. No program in sight. -/
namespace Go.Med
def aN : ByteArray := ⟨#[97]⟩
/-- The medium with the one file 'a', fast in its names. -/
def oneF (room : Nat) (f : Fil) : Med := ⟨room, [(aN, 0)], [(aN, 0)], [f], [], false, 0, false⟩
theorem good_aN : good aN = true := by decide +kernel
theorem aN_ne : aN ≠ ByteArray.empty := by decide +kernel
theorem nget_aN (l : Names) : nget ((aN, 0) :: l) aN = some 0 := by
  have h : (aN == aN) = true := by decide +kernel
  simp [nget, h]
theorem create_one (room : Nat) : (new room).create aN = (⟨room, [], [(aN, 0)], [Fil.new], [⟨ByteArray.empty, aN, 0⟩], false, 0, false⟩, 0) := by
  have h1 : nget [] aN = none := rfl
  simp [Med.create, new, good_aN, h1, Med.step, Med.link, Lnk.on, aN_ne, nput, ndel, nins]
theorem append_first (room : Nat) (b : Bs) (h : b.length ≤ room) :
    (⟨room, [], [(aN, 0)], [Fil.new], [⟨ByteArray.empty, aN, 0⟩], false, 0, false⟩ : Med).append aN b = (⟨room, [], [(aN, 0)], [⟨[], b, [⟨false, 0, b⟩]⟩], [⟨ByteArray.empty, aN, 0⟩], false, 0, false⟩, 0) := by
  have hn : ¬ ((room : Int) < b.length) := by omega
  simp [Med.append, nget_aN, Med.used, Med.file, Fil.new, Med.step, Med.setFile, Fil.do, Chg.on, hn]
theorem sync_first (room : Nat) (b : Bs) :
    (⟨room, [], [(aN, 0)], [⟨[], b, [⟨false, 0, b⟩]⟩], [⟨ByteArray.empty, aN, 0⟩], false, 0, false⟩ : Med).sync aN = (⟨room, [], [(aN, 0)], [⟨b, b, []⟩], [⟨ByteArray.empty, aN, 0⟩], false, 0, false⟩, 0) := by
  simp [Med.sync, nget_aN, Med.file, Med.step, Med.setFile, Fil.sync]
theorem syncDir_first (room : Nat) (f : Fil) :
    (⟨room, [], [(aN, 0)], [f], [⟨ByteArray.empty, aN, 0⟩], false, 0, false⟩ : Med).syncDir = (oneF room f, 0) := by
  simp [Med.syncDir, Med.step, oneF]
theorem append_one (room : Nat) (f : Fil) (b : Bs) (h : f.now.length + b.length ≤ room) : (oneF room f).append aN b = (oneF room (f.do ⟨false, 0, b⟩), 0) := by
  have hn : ¬ ((room : Int) - (f.now.length : Int) < b.length) := by omega
  simp [Med.append, oneF, nget_aN, Med.used, Med.file, Med.step, Med.setFile, hn]
theorem all_one (room : Nat) (f : Fil) : (oneF room f).all aN = (f.now, 0) := by
  simp [Med.all, oneF, nget_aN, Med.file]
theorem crash_one (room : Nat) (f : Fil) (l : List Int) : (oneF room f).crash l = oneF room (f.crash (num l 1) (num l 2)) := by
  simp [Med.crash, oneF, Med.lastNames, crashFiles]
/-- Only appended to. -/
def Grows (f : Fil) : Prop := ∀ c ∈ f.waits, c.cut = false
theorem Grows.flat (b : Bs) : Grows ⟨b, b, []⟩ := by intro c hc; cases hc
theorem Grows.do {f : Fil} (h : Grows f) (b : Bs) : Grows (f.do ⟨false, 0, b⟩) := by
  intro c hc
  simp only [Fil.do, List.mem_append, List.mem_singleton] at hc
  rcases hc with hc | rfl
  · exact h c hc
  · rfl
theorem at_front {f : Fil} (h : Grows f) (j : Nat) : ∀ k, j ≤ k → k ≤ f.waits.length → f.at j <+: f.at k := by
  intro k hjk
  induction hjk with
  | refl => intro _; exact List.prefix_rfl
  | @step k hk ih =>
    intro hl
    have hc : f.waits[k]? = some (f.waits[k]'(by omega)) := List.getElem?_eq_getElem _
    have hcut : (f.waits[k]'(by omega)).cut = false := h _ (List.getElem_mem _)
    rw [f.at_succ k _ hc]
    refine (ih (by omega)).trans ?_
    simp [Chg.on, hcut]
theorem left_front {f : Fil} (h : Grows f) (hn : f.now = f.at f.waits.length) (x y : Int) : f.fast <+: f.left x y ∧ f.left x y <+: f.now := by
  have hk := clampN_le x f.waits.length
  unfold Fil.left
  generalize clampN x f.waits.length = k at hk
  have h0 : f.fast <+: f.at k := by have := at_front h 0 k (Nat.zero_le _) hk; rwa [Fil.at_zero] at this
  have h1 : f.at k <+: f.now := by rw [hn]; exact at_front h k _ hk (Nat.le_refl _)
  simp only
  cases hc : f.waits[k]? with
  | none => exact ⟨h0, h1⟩
  | some c =>
    have hcut : c.cut = false := h c (List.mem_of_getElem? hc)
    have hlt : k < f.waits.length := (List.getElem?_eq_some_iff.1 hc).1
    simp only [hcut, Bool.false_eq_true, if_false]
    refine ⟨h0.trans (List.prefix_append _ _), ?_⟩
    have h2 : f.at (k + 1) <+: f.now := by rw [hn]; exact at_front h (k + 1) _ hlt (Nat.le_refl _)
    rw [f.at_succ k c hc] at h2
    simp only [Chg.on, hcut, Bool.false_eq_true, if_false] at h2
    refine List.IsPrefix.trans ?_ h2
    obtain ⟨t, ht⟩ := List.take_prefix (clampN y c.b.length) c.b
    exact ⟨t, by rw [List.append_assoc, ht]⟩
end Go.Med
