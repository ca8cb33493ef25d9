import Derived.Test.YtdhhbajggafdhaaDoorMed1
import Derived.Test.YtdhhbajggafdhaaDoorMedP
import Derived.Test.YtdhhbajggafdhaaDoorRng
/- find; the names in a map. -/
namespace Go.Proofs.YtdhhbajggafdhaaDoor
open Go Go.Sl Go.Med Go.MapKept Go.RowKit
section
variable {w0 w : World} {F : List HProp} {m fb nb b : Nat} {M : Med} {bs : List Nat} {wv : Value} {s : ByteArray} {l : Names}

theorem mapL_keys (h : Sat w0 w (omap .string b (mapL bs l) :: F)) : (l.map (·.1)).Nodup := by
  have := h.omap_keys
  simp only [mapL, List.map_map] at this
  rw [List.nodup_iff_pairwise_ne, List.pairwise_map] at this ⊢
  refine this.imp fun {x y} hxy e => hxy ?_
  simp [e]
/-- A look-up among names. -/
def fptr (bs : List Nat) (l : Names) (s : ByteArray) : Value := match nget l s with | some i => ptr (bs.getD i 0) | none => .pointer none
theorem look_names (h : Sat w0 w (omap .string b (mapL bs l) :: F)) : (Instr.lookup 91 (.map (some b)) (.string s) false).run Tryd.prog w = .ok (fptr bs l s) w := by
  have hn := mapL_keys h
  rcases run_look (P := Tryd.prog) Tryd.underlying91 Tryd.underlying9 (infoFile w) (key := .string s) trivial h with ⟨v, h1, h2, _⟩ | ⟨h1, h2, _⟩
  · rw [h2]
    obtain ⟨p, hp, e⟩ := List.mem_map.1 h1
    simp only [Prod.mk.injEq, Value.string.injEq] at e
    obtain ⟨a, i⟩ := p
    simp only at e
    rw [← e.1, ← e.2, fptr, nget_of_mem hn hp]
  · rw [h2, fptr]
    cases hg : nget l s with
    | none => rfl
    | some i => exact absurd rfl (h1 (.string s, ptr (bs.getD i 0)) (List.mem_map.2 ⟨(s, i), nget_mem hg, rfl⟩))

abbrev medCon (m : Nat) (M : Med) (fb nb : Nat) (wv : Value) (bs : List Nat) (F : List HProp) : List HProp := medPt m M fb nb wv :: omap .string nb (mapL bs M.now) :: F

set_option maxHeartbeats 400000 in
theorem find_off (h : Sat w0 w (medPt m M fb nb wv :: F)) (ho : M.off = true) :
    Calls Tryd.prog 69 #[ptr m, .string s] w (Rtn fun v w' => v = .tuple #[.pointer none, errno 12] ∧ w = w') := by
  go_enter Tryd.func69, Tryd.ntmps69
  go_wp2_with (go_at_call 55; refine (dead_c h).mono ?_; rintro e w1 ⟨v, rfl, rfl, rfl⟩; rw [ho])
  go_ret2
  exact ⟨_, rfl, rfl, rfl⟩
set_option maxHeartbeats 400000 in
theorem find_none (h : Sat w0 w (medCon m M fb nb wv bs F)) (ho : M.off = false) (hn : nget M.now s = none) :
    Calls Tryd.prog 69 #[ptr m, .string s] w (Rtn fun v w' => v = .tuple #[.pointer none, errno 9] ∧ w = w') := by
  have c2 := h.cellAt 2 _ rfl
  have hl := look_names (s := s) h.pick1
  rw [fptr, hn] at hl
  have hd := dead_c h
  rw [ho] at hd
  clear hn ho
  go_enter Tryd.func69, Tryd.ntmps69
  go_wp2_with (go_at_call 55; refine hd.mono ?_; rintro e w1 ⟨v, rfl, rfl, rfl⟩)
  go_ret2
  exact ⟨_, rfl, rfl, rfl⟩
set_option maxHeartbeats 400000 in
theorem find_some {i : Nat} (h : Sat w0 w (medCon m M fb nb wv bs F)) (ho : M.off = false) (hn : nget M.now s = some i) :
    Calls Tryd.prog 69 #[ptr m, .string s] w (Rtn fun v w' => v = .tuple #[ptr (bs.getD i 0), errno 0] ∧ w = w') := by
  have c2 := h.cellAt 2 _ rfl
  have hl := look_names (s := s) h.pick1
  rw [fptr, hn] at hl
  have hd := dead_c h
  rw [ho] at hd
  clear hn ho
  simp only at hl
  generalize bs.getD i 0 = fp at *
  go_enter Tryd.func69, Tryd.ntmps69
  go_wp2_with (go_at_call 55; refine hd.mono ?_; rintro e w1 ⟨v, rfl, rfl, rfl⟩)
  go_ret2
  exact ⟨_, rfl, rfl, rfl⟩
end
end Go.Proofs.YtdhhbajggafdhaaDoor
