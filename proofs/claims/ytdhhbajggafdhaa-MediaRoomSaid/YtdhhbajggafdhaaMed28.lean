import Derived.Test.YtdhhbajggafdhaaRow
import Derived.Test.YtdhhbajggafdhaaMed27
import Derived.Test.YtdhhbajggafdhaaMedC
/- What a shortened call is. -/
namespace Go.Proofs.Ytdhhbajggafdhaa
open Go Go.Sl Go.Med Go.MapKept Go.RowKit
set_option linter.unusedVariables false
def D.cal (d : D) : Cal := ⟨d.kind, d.name, d.to, d.n, d.m, d.b, d.l⟩
/-- What is asked of a call in the world in which it came. -/
structure D.At (W : World) (d : D) : Prop where
  kind : inI d.kind
  name : d.name.size ≤ 9223372036854775807
  to : d.to.size ≤ 9223372036854775807
  n : inI d.n
  m : inI d.m
  b : rdsl 1 d.bv (bys d.b) W
  bc : capOk d.bv
  l : rdsl 1 d.lv (ints d.l) W
  lc : capOk d.lv
  li : ∀ z ∈ d.l, inI z
/-- What a call is that few made. -/
structure D.Fit (w0 : World) (F : List HProp) (d : D) : Prop where
  name : d.name.size ≤ 30
  to : d.to.size ≤ 30
  n : inI d.n
  m : inI d.m
  b : d.b.length ≤ 100
  l : Ro w0 F (rdsl 1 d.lv (ints d.l))
  lc : capOk d.lv
  li : ∀ z ∈ d.l, inI z
section
variable {w0 w W : World} {F : List HProp} {m fb nb b r : Nat} {M : Med} {bs : List Nat} {wv v bv dv : Value} {s : ByteArray} {fs : List Fil} {K : Nat}
theorem shortS_size (s : ByteArray) (n : Nat) : (shortS s n).size ≤ n := by
  unfold shortS
  split
  · rw [ByteArray.size_extract]; omega
  · omega
theorem D.Few.fit {d e : D} (h : D.Few w0 F d e) (a : d.At W) : e.Fit w0 F := by
  refine ⟨by rw [h.name]; exact shortS_size _ _, by rw [h.to]; exact shortS_size _ _, by rw [h.n]; exact a.n, by rw [h.m]; exact a.m, by rw [h.b, List.length_take]; omega, h.lr, h.lc, ?_⟩
  rw [h.l]
  exact fun z hz => a.li z (List.mem_of_mem_take hz)
theorem D.Fit.more {d : D} {L : List HProp} (h : d.Fit w0 F) : d.Fit w0 (L ++ F) := by
  refine ⟨h.name, h.to, h.n, h.m, h.b, ?_, h.lc, h.li⟩
  induction L with
  | nil => exact h.l
  | cons A L ih => exact ih.cons
theorem stars_take {α : Type} (f : α → HProp) : ∀ (l : List α) (i : Nat) (x : α), l[i]? = some x → ∃ G, stars (l.map f) = star (f x) G
  | [], _, _, h => by cases h
  | y :: l, 0, x, h => by
    cases h
    exact ⟨_, rfl⟩
  | y :: l, i + 1, x, h => by
    obtain ⟨G, hG⟩ := stars_take f l i x (by simpa using h)
    refine ⟨star (f y) G, ?_⟩
    rw [List.map_cons, stars_cons, hG, star_left_comm]
theorem bsls_at {es : List D} {i : Nat} {e : D} (hi : es[i]? = some e) (h : Sat w0 w (bsls es :: F)) : ∃ G, Sat w0 w (bsl e.bv e.b :: G :: F) ∧ bsls es = star (bsl e.bv e.b) G := by
  obtain ⟨G, hG⟩ := stars_take (fun e : D => bsl e.bv e.b) es i e hi
  refine ⟨G, ?_, hG⟩
  unfold bsls at h
  rw [hG] at h
  exact Sat.star.1 h
theorem bsls_rd {es : List D} {i : Nat} {e : D} (hi : es[i]? = some e) : Ro w0 (bsls es :: F) (rdsl 1 e.bv (bys e.b)) := fun w hw => by
  obtain ⟨G, hG, _⟩ := bsls_at hi hw
  exact hG.rd
end
end Go.Proofs.Ytdhhbajggafdhaa
