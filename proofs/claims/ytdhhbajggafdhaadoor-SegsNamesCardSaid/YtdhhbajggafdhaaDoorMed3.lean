import Derived.Test.YtdhhbajggafdhaaDoorMed2
/- Links; good names. -/
namespace Go.Proofs.YtdhhbajggafdhaaDoor
open Go Go.Sl Go.Med Go.MapKept Go.RowKit
section
variable {w0 w : World} {F : List HProp} {m fb nb b : Nat} {M : Med} {bs : List Nat} {wv : Value} {s : ByteArray} {l : Names}

theorem mapL_perm {l l' : Names} (h : l.Perm l') : (mapL bs l).Perm (mapL bs l') := h.map _
/-- What is left behind 'delete'. -/
theorem del_side (hn : (l.map (·.1)).Nodup) (s : ByteArray) : (mapL bs l).Perm (mapL bs (ndel l s)) ∧ (∀ p ∈ mapL bs (ndel l s), p.1 ≠ .string s) ∨ ∃ v0, (mapL bs l).Perm ((.string s, v0) :: mapL bs (ndel l s)) := by
  cases hg : nget l s with
  | none =>
    left
    rw [ndel_none hg]
    refine ⟨List.Perm.refl _, fun p hp => ?_⟩
    obtain ⟨q, hq, rfl⟩ := List.mem_map.1 hp
    simpa using nget_none hg q hq
  | some i => exact .inr ⟨ptr (bs.getD i 0), mapL_perm (ndel_perm hn (nget_mem hg))⟩
def lnkPtr (bs : List Nat) (x : Lnk) : Value := if x.to = ByteArray.empty then .pointer none else ptr (bs.getD x.f 0)
theorem ba_ne {s : ByteArray} (h : s ≠ ByteArray.empty) : s.toList.isEmpty = false := by
  cases hs : s.toList with
  | cons _ _ => rfl
  | nil =>
    exfalso; apply h
    have : s.data.toList = [] := by rw [← Lib.toList_data]; exact hs
    obtain ⟨⟨d⟩⟩ := s
    simp at this; subst this; rfl

theorem ba_nil {s : ByteArray} (h : s = ByteArray.empty) : s.toList = [] := by subst h; rw [Lib.toList_data]; rfl
set_option maxHeartbeats 1000000 in
theorem on_core (fr to : ByteArray) (q : Value) (h : Sat w0 w (omap .string b (mapL bs l) :: F)) (l1 l2 : List (Value × Value))
    (h1 : fr = ByteArray.empty ∧ l1 = mapL bs l ∨ fr ≠ ByteArray.empty ∧ ((mapL bs l).Perm l1 ∧ (∀ p ∈ l1, p.1 ≠ .string fr) ∨ ∃ v0, (mapL bs l).Perm ((.string fr, v0) :: l1)))
    (h2 : to = ByteArray.empty ∧ l2 = l1 ∨ to ≠ ByteArray.empty ∧ ∃ l3, (l1.Perm l3 ∧ (∀ p ∈ l3, p.1 ≠ .string to) ∨ ∃ v0, l1.Perm ((.string to, v0) :: l3)) ∧ l2 = (.string to, q) :: l3) :
    Calls Tryd.prog 67 #[.agg #[.string fr, .string to, q], .map (some b)] w (Rtn fun _ w' => Sat w0 w' (omap .string b l2 :: F)) := by
  have hb := (h.alloc (.cells #[.string fr, .string to, q] 115)).pick1
  go_enter Tryd.func67, Tryd.ntmps67
  rcases h1 with ⟨hf, h1⟩ | ⟨hf, h1⟩
  · have e1 := ba_nil hf
    clear hf
    subst h1
    rcases h2 with ⟨ht, h2⟩ | ⟨ht, l3, h3, h2⟩
    · have e2 := ba_nil ht
      clear ht
      subst h2
      go_wp2
      go_end0
      exact ⟨_, rfl, hb.pick1.drop⟩
    · have e2 := ba_ne ht
      clear ht
      have H2 := Lib.hid h2; clear h2
      have H3 := Lib.hid h3; clear h3
      go_wp2_with (at_mapUpdate; go_must (refine wpList_store (key := .string to) (by rfl) _ _ _ (by rfl) Tryd.underlying91 Tryd.underlying9 (by rfl) (by rfl) (by rfl) trivial hb l3 H3.out ?_); intro w1 hS1)
      go_end0
      rw [H2.out]
      exact ⟨_, rfl, hS1.pick1.drop⟩
  · have e1 := ba_ne hf
    clear hf
    have H1 := Lib.hid h1; clear h1
    rcases h2 with ⟨ht, h2⟩ | ⟨ht, l3, h3, h2⟩
    · have e2 := ba_nil ht
      clear ht
      subst h2
      go_wp2_with (at_delete; go_must (refine wpList_drop (key := .string fr) (by rfl) _ _ (by rfl) Tryd.underlying91 Tryd.underlying9 (by rfl) (by rfl) trivial hb l2 H1.out ?_); intro w1 hS1; have c0 := hS1.pick1.cellAt 0 _ rfl; have c1 := hS1.pick1.cellAt 1 _ rfl)
      go_end0
      exact ⟨_, rfl, hS1.pick1.drop⟩
    · have e2 := ba_ne ht
      clear ht
      have H2 := Lib.hid h2; clear h2
      have H3 := Lib.hid h3; clear h3
      go_wp2_with (first
        | (at_delete; go_must (refine wpList_drop (key := .string fr) (by rfl) _ _ (by rfl) Tryd.underlying91 Tryd.underlying9 (by rfl) (by rfl) trivial hb l1 H1.out ?_); intro w1 hS1; have c0 := hS1.pick1.cellAt 0 _ rfl; have c1 := hS1.pick1.cellAt 1 _ rfl; have c2 := hS1.pick1.cellAt 2 _ rfl)
        | (at_mapUpdate; go_must (refine wpList_store (key := .string to) (by rfl) _ _ _ (by rfl) Tryd.underlying91 Tryd.underlying9 (by rfl) (by rfl) (by rfl) trivial hS1 l3 H3.out ?_); intro w2 hS2))
      go_end0
      rw [H2.out]
      exact ⟨_, rfl, hS2.pick1.drop⟩
theorem on_c (x : Lnk) (h : Sat w0 w (omap .string b (mapL bs l) :: F)) :
    Calls Tryd.prog 67 #[.agg #[.string x.fr, .string x.to, lnkPtr bs x], .map (some b)] w (Rtn fun _ w' => Sat w0 w' (omap .string b (mapL bs (x.on l)) :: F)) := by
  have hn := mapL_keys h
  obtain ⟨fr, to, f⟩ := x
  have key : ∀ l1 : Names, l1 = (if fr = ByteArray.empty then l else ndel l fr) → (l1.map (·.1)).Nodup := by
    rintro l1 rfl
    split
    · exact hn
    · exact hn.sublist ((List.filter_sublist).map _)
  have := on_core fr to (lnkPtr bs ⟨fr, to, f⟩) h (mapL bs (if fr = ByteArray.empty then l else ndel l fr))
    (if to = ByteArray.empty then mapL bs (if fr = ByteArray.empty then l else ndel l fr) else (.string to, ptr (bs.getD f 0)) :: mapL bs (ndel (if fr = ByteArray.empty then l else ndel l fr) to)) ?_ ?_
  · refine this.mono ?_
    rintro e w1 ⟨v, rfl, hS⟩
    refine ⟨v, rfl, ?_⟩
    unfold Lnk.on
    simp only
    split
    · rename_i ht; rw [if_pos ht] at hS; exact hS
    · rename_i ht
      rw [if_neg ht] at hS
      exact hS.omap_perm (mapL_perm (nput_perm _ _ _)).symm
  · by_cases hf : fr = ByteArray.empty
    · exact .inl ⟨hf, by rw [if_pos hf]⟩
    · exact .inr ⟨hf, by rw [if_neg hf]; exact del_side hn fr⟩
  · by_cases ht : to = ByteArray.empty
    · exact .inl ⟨ht, by rw [if_pos ht]⟩
    · refine .inr ⟨ht, _, del_side (key _ rfl) to, ?_⟩
      rw [if_neg ht]
      simp [lnkPtr, ht]
end
end Go.Proofs.YtdhhbajggafdhaaDoor
