import Derived.Test.YtdhhbajggafdhaaMed24
import Derived.Test.YtdhhbajggafdhaaMed25
import Derived.Laws.BitsAllLaws
/- Spoilt bytes: the walk (under way). -/
namespace Go.Proofs.Ytdhhbajggafdhaa
open Go Go.Sl Go.Med Go.MapKept Go.RowKit
set_option linter.unusedVariables false
section
variable {w0 w : World} {F : List HProp} {m fb nb b r : Nat} {M : Med} {bs : List Nat} {wv v bv dv : Value} {s : ByteArray} {fs : List Fil} {K : Nat} {f : Fil}
/-- A store into bytes of one's own. -/
theorem bsl_set {a : Option Addr} {n c : Nat} {l : Bs} (h : Sat w0 w (bsl (.slice a n c) l :: F)) {i : Nat} (hi : i < l.length) (x : UInt8) :
    ∃ g, a = some ⟨g, 0, none⟩ ∧ w.cell? ⟨g, i, none⟩ = some (.int .u8 (l[i]'hi).toNat) ∧ w.frozen? ⟨g, i, none⟩ = false ∧ Sat w0 (w.setCell ⟨g, i, none⟩ (.int .u8 x.toNat)) (bsl (.slice a n c) (l.set i x) :: F) := by
  rcases Sat.osl_cases h with ⟨_, hx, _⟩ | ⟨g, n', cap', cs, he, h1, h2, h3, h4, h5, h6⟩
  · have : (bys l).length = 0 := by rw [hx]; rfl
    rw [bys_len] at this; omega
  · cases he
    have hg : (bys l)[i]? = some (.int .u8 (l[i]'hi).toNat) := by unfold bys; simp [hi]
    refine ⟨g, rfl, h6.cellAt i _ (take_get h5 hg), h6.freeAt i, ?_⟩
    have h7 := h6.set i (.int .u8 x.toNat)
    refine Sat.osl_of_pt h7 ?_ h2 (by simpa using h3) h4 ?_
    · rw [bys_len, List.length_set, ← bys_len l]; exact h1
    · rw [Array.toList_setIfInBounds, List.take_set, h5]
      unfold bys
      rw [List.map_set]
set_option maxHeartbeats 1000000 in
theorem rot_out (h : Sat w0 w (FilRep b f :: F)) (_ : f.Ok K) (at_ : Int) (y : UInt8) (ho : at_ < 0 ∨ (f.now.length : Int) ≤ at_) :
    Calls Try.prog 73 #[ptr b, .int .i64 at_, .int .u8 y.toNat] w (Rtn fun v w' => v = .bool false ∧ Sat w0 w' (FilRep b f :: F)) := by
  obtain ⟨fv, nv, wv, ws, hws, hR⟩ := FilRep.open h
  obtain ⟨na, nn, nc, rfl⟩ := bsl_shape (hR.sel 3 [2] rfl rfl)
  have hnn : nn = f.now.length := by
    obtain ⟨_, _, _, he, hl, _⟩ := Sat.rd (hR.sel 3 [2] rfl rfl)
    cases he
    rw [bys_len, Nat.mul_one] at hl; exact hl.symm
  subst hnn
  have c1 := hR.cellAt 1 _ rfl
  by_cases h1 : at_ < 0
  · clear hws
    go_enter Try.func73, Try.ntmps73
    go_wp2
    go_ret
    exact ⟨.bool false, rfl, rfl, h⟩
  · have h2 : (f.now.length : Int) ≤ at_ := by omega
    have h1' : decide (at_ < 0) = false := by rw [decide_eq_false_iff_not]; exact h1
    clear hws ho
    go_enter Try.func73, Try.ntmps73
    go_wp2
    go_ret
    exact ⟨.bool false, rfl, rfl, h⟩
theorem xor_u8 (x y : UInt8) : bits .xor .u8 (x.toNat : Int) (y.toNat : Int) = ((x ^^^ y).toNat : Int) := by
  rw [u8_xor_nat _ _ x.toNat_lt y.toNat_lt, UInt8.toNat_xor]
end
end Go.Proofs.Ytdhhbajggafdhaa
