import Derived.Test.YtjklhichekmdhaaGreatJ2
/- Append, Sync, SyncDir. -/
namespace Go.Proofs.YtjklhichekmdhaaGreat
open Go Go.Sl Go.Med Go.MapKept Go.RowKit
section
variable {w0 w : World} {F : List HProp} {m fb nb b r : Nat} {M : Med} {bs : List Nat} {wv v bv : Value} {s : ByteArray} {l : Names} {fs : List Fil} {K : Nat}
/-- A file taken out, and put back otherwise. -/
theorem raw_file (hl : bs.length = M.files.length) {i : Nat} (hi : i < M.files.length) (h : Sat w0 w (MedRaw m M bs fb nb wv ++ F)) :
    ∃ G : HProp, Sat w0 w (FilRep (bs.getD i 0) (M.file i) :: medPt m M fb nb wv :: omap .string nb (mapL bs M.now) :: omap .string fb (mapL bs M.fast) :: osl 186 3 wv (M.waits.flatMap (lnkCells bs)) :: G :: F) ∧
      ∀ (w' : World) (f' : Fil), Sat w0 w' (FilRep (bs.getD i 0) f' :: medPt m M fb nb wv :: omap .string nb (mapL bs M.now) :: omap .string fb (mapL bs M.fast) :: osl 186 3 wv (M.waits.flatMap (lnkCells bs)) :: G :: F) → Sat w0 w' (MedRep m (M.setFile i f') :: F) := by
  obtain ⟨G, h1, h2⟩ := files_take bs M.files i hl hi
  refine ⟨G, ?_, fun w' f' h' => ?_⟩
  · have h3 := h.sel 5 [2, 0, 1, 3, 4] rfl rfl
    have h4 : Sat w0 w (filesRep bs M.files :: medPt m M fb nb wv :: omap .string nb (mapL bs M.now) :: omap .string fb (mapL bs M.fast) :: osl 186 3 wv (M.waits.flatMap (lnkCells bs)) :: F) := h3
    rw [h1] at h4
    exact (Sat.star.1 h4).sel 6 [0, 2, 3, 4, 5, 1] rfl rfl
  · refine MedRep.shut (bs := bs) (fb := fb) (nb := nb) (wv := wv) (by simp [Med.setFile, hl]) ?_
    have h4 : Sat w0 w' (FilRep (bs.getD i 0) f' :: G :: medPt m M fb nb wv :: omap .string nb (mapL bs M.now) :: omap .string fb (mapL bs M.fast) :: osl 186 3 wv (M.waits.flatMap (lnkCells bs)) :: F) := h'.sel 6 [0, 5, 1, 2, 3, 4] rfl rfl
    have h5 := Sat.star.2 h4
    rw [← h2] at h5
    exact h5.sel 5 [1, 2, 0, 3, 4] rfl rfl
end
end Go.Proofs.YtjklhichekmdhaaGreat
/- Append, SyncDir. -/
namespace Go.Proofs.YtjklhichekmdhaaGreat
open Go Go.Sl Go.Med Go.MapKept Go.RowKit
section
variable {w0 w : World} {F : List HProp} {m fb nb b r : Nat} {M : Med} {bs : List Nat} {wv v bv : Value} {s : ByteArray} {l : Names} {fs : List Fil} {K : Nat}
theorem ro_len {lb : Bs} (hr : Ro w0 F (rdsl 1 bv (bys lb))) {A : HProp} (h : Sat w0 w (A :: F)) : ∃ a n c, bv = .slice a n c ∧ n = lb.length := by
  obtain ⟨a, n, c, rfl, hl, _⟩ := hr w h.drop
  rw [bys_len, Nat.mul_one] at hl
  exact ⟨a, n, c, rfl, hl.symm⟩
end
end Go.Proofs.YtjklhichekmdhaaGreat
/- A crash, of a file. -/
namespace Go.Proofs.YtjklhichekmdhaaGreat
open Go Go.Sl Go.Med Go.MapKept Go.RowKit
section
variable {w0 w : World} {F : List HProp} {m fb nb b r : Nat} {M : Med} {bs : List Nat} {wv v bv : Value} {s : ByteArray} {l : Names} {fs : List Fil} {K : Nat} {f : Fil}
theorem chgs_take : ∀ (ws : List (Chg × Value)) (i : Nat) (p : Chg × Value), ws[i]? = some p → ∃ G : HProp, chgs ws = star (bsl p.2 p.1.b) G
  | [], _, _, h => by cases h
  | q :: ws, 0, p, h => by
    simp at h; subst h
    exact ⟨chgs ws, rfl⟩
  | q :: ws, i + 1, p, h => by
    obtain ⟨G, hG⟩ := chgs_take ws i p (by simpa using h)
    refine ⟨star (bsl q.2 q.1.b) G, ?_⟩
    show star (bsl q.2 q.1.b) (chgs ws) = _
    rw [hG, star_left_comm]
theorem chg_cells (ws : List (Chg × Value)) (i : Nat) (p : Chg × Value) (h : ws[i]? = some p) :
    (ws.flatMap chgCells)[i * 3]? = some (.bool p.1.cut) ∧ (ws.flatMap chgCells)[i * 3 + 1]? = some (.int .i64 p.1.n) ∧ (ws.flatMap chgCells)[i * 3 + 2]? = some p.2 := by
  induction ws generalizing i with
  | nil => cases h
  | cons q ws ih =>
    cases i with
    | zero => simp at h; subst h; exact ⟨rfl, rfl, rfl⟩
    | succ i =>
      obtain ⟨h1, h2, h3⟩ := ih i (by simpa using h)
      have e : ∀ j, (List.flatMap chgCells (q :: ws))[(i + 1) * 3 + j]? = (List.flatMap chgCells ws)[i * 3 + j]? := by
        intro j
        rw [List.flatMap_cons, List.getElem?_append_right (by simp [chgCells]; omega)]
        congr 1
        simp [chgCells]; omega
      exact ⟨(e 0).trans h1, (e 1).trans h2, (e 2).trans h3⟩
/-- The cells of a change that waits. -/
theorem waits_cells {ws : List (Chg × Value)} {g n cap : Nat} (h : Sat w0 w (osl 189 3 (.slice (some ⟨g, 0, none⟩) n cap) (ws.flatMap chgCells) :: F)) {i : Nat} {p : Chg × Value} (hi : ws[i]? = some p) :
    w.cell? ⟨g, i * 3, none⟩ = some (.bool p.1.cut) ∧ w.cell? ⟨g, i * 3 + 1, none⟩ = some (.int .i64 p.1.n) ∧ w.cell? ⟨g, i * 3 + 2, none⟩ = some p.2 := by
  obtain ⟨h1, h2, h3⟩ := chg_cells ws i p hi
  rcases h.osl_cases with ⟨he, _⟩ | ⟨b, n', cap', cs, he, hl, hn, hc, hcm, htk, hp⟩
  · cases he
  · cases he
    exact ⟨hp.cellAt _ _ (take_get htk h1), hp.cellAt _ _ (take_get htk h2), hp.cellAt _ _ (take_get htk h3)⟩
theorem rdsl_take {ba : Option Addr} {n c : Nat} {cb : Bs} (h : rdsl 1 (.slice ba n c) (bys cb) w) {T : Nat} (hT : T ≤ n) (c' : Nat) : rdsl 1 (.slice ba T c') (bys (cb.take T)) w := by
  obtain ⟨a, n', c'', he, hl, hc⟩ := h
  cases he
  rw [bys_len, Nat.mul_one] at hl
  refine ⟨ba, T, c', rfl, by rw [bys_len, List.length_take]; omega, fun i x hi => ?_⟩
  rw [bys_take, List.getElem?_take] at hi
  split at hi
  · exact hc i x hi
  · cases hi
end
end Go.Proofs.YtjklhichekmdhaaGreat
/- A crash, of a medium. -/
namespace Go.Proofs.YtjklhichekmdhaaGreat
open Go Go.Sl Go.Med Go.MapKept Go.RowKit
section
variable {w0 w : World} {F : List HProp} {m fb nb b r : Nat} {M : Med} {bs : List Nat} {wv v bv lv : Value} {s : ByteArray} {fs : List Fil} {K : Nat} {f : Fil}
def ints (l : List Int) : List Value := l.map (.int .i64)
def inI (x : Int) : Prop := -9223372036854775808 ≤ x ∧ x ≤ 9223372036854775807
/-- A slice without its first. -/
def nxs : Value → Value
  | .slice a (n + 1) c => .slice (if c = 1 then a else a.map (·.add 1)) n (c - 1)
  | v => v
def nxv (v : Value) : Nat → Value
  | 0 => v
  | j + 1 => nxs (nxv v j)
def capOk (v : Value) : Prop := ∃ a n c, v = .slice a n c ∧ n ≤ c ∧ c ≤ 9223372036854775807
theorem capOk.nxs {v : Value} (h : capOk v) : capOk (nxs v) := by
  obtain ⟨a, n, c, rfl, h1, h2⟩ := h
  cases n with
  | zero => exact ⟨a, 0, c, rfl, h1, h2⟩
  | succ n => exact ⟨_, n, c - 1, rfl, by omega, by omega⟩
theorem capOk.nxv {v : Value} (h : capOk v) : ∀ j, capOk (nxv v j)
  | 0 => h
  | j + 1 => (h.nxv j).nxs
theorem rdsl_nxs {v : Value} {xs : List Value} (h : rdsl 1 v xs w) (hc : capOk v) : rdsl 1 (nxs v) (xs.drop 1) w := by
  obtain ⟨a, n, c, rfl, h1, h2⟩ := hc
  cases n with
  | zero =>
    obtain ⟨a', n', c', he, hl, hx⟩ := h
    cases he
    have : xs = [] := List.eq_nil_of_length_eq_zero (by omega)
    subst this
    exact ⟨a, 0, c, rfl, rfl, by simp⟩
  | succ n =>
    have hlen : xs.length = n + 1 := by obtain ⟨a', n', c', he, hl, hx⟩ := h; cases he; omega
    have := rdsl_slice h (lo := 1) (k := n) (by omega) (if c = 1 then a else a.map (·.add 1)) rfl h1 (c - 1)
    rw [List.take_of_length_le (by simp; omega)] at this
    exact this
theorem rdsl_nxv {v : Value} {l : List Int} (h : rdsl 1 v (ints l) w) (hc : capOk v) : ∀ j, rdsl 1 (nxv v j) (ints (l.drop j)) w
  | 0 => h
  | j + 1 => by
    have := rdsl_nxs (rdsl_nxv h hc j) (hc.nxv j)
    unfold ints at this
    rw [← List.map_drop, List.drop_drop] at this
    exact this
theorem num_drop (l : List Int) (j : Nat) : num (l.drop j) 0 = num l j := by
  unfold num
  rw [List.getD_eq_getElem?_getD, List.getElem?_drop, List.getD_eq_getElem?_getD]; rfl
theorem num_in {l : List Int} (h : ∀ x ∈ l, inI x) (j : Nat) : inI (num l j) := by
  unfold num
  rw [List.getD_eq_getElem?_getD]
  cases hj : l[j]? with
  | none => exact ⟨by simp, by simp⟩
  | some x => exact h x (List.mem_of_getElem? hj)
end
end Go.Proofs.YtjklhichekmdhaaGreat
/- A crash, of a medium. -/
namespace Go.Proofs.YtjklhichekmdhaaGreat
open Go Go.Sl Go.Med Go.MapKept Go.RowKit
section
variable {w0 w : World} {F : List HProp} {m fb nb b r : Nat} {M : Med} {bs : List Nat} {wv v bv lv : Value} {s : ByteArray} {fs : List Fil} {f : Fil}
theorem lnk_cells (bs : List Nat) (ws : List Lnk) (i : Nat) (p : Lnk) (h : ws[i]? = some p) :
    (ws.flatMap (lnkCells bs))[i * 3]? = some (.string p.fr) ∧ (ws.flatMap (lnkCells bs))[i * 3 + 1]? = some (.string p.to) ∧ (ws.flatMap (lnkCells bs))[i * 3 + 2]? = some (lnkPtr bs p) := by
  induction ws generalizing i with
  | nil => cases h
  | cons q ws ih =>
    cases i with
    | zero => simp at h; subst h; exact ⟨rfl, rfl, rfl⟩
    | succ i =>
      obtain ⟨h1, h2, h3⟩ := ih i (by simpa using h)
      have e : ∀ j, (List.flatMap (lnkCells bs) (q :: ws))[(i + 1) * 3 + j]? = (List.flatMap (lnkCells bs) ws)[i * 3 + j]? := by
        intro j
        rw [List.flatMap_cons, List.getElem?_append_right (by simp [lnkCells]; omega)]
        congr 1
        simp [lnkCells]; omega
      exact ⟨(e 0).trans h1, (e 1).trans h2, (e 2).trans h3⟩
theorem lwaits_cells {ws : List Lnk} {g n cap : Nat} (h : Sat w0 w (osl 186 3 (.slice (some ⟨g, 0, none⟩) n cap) (ws.flatMap (lnkCells bs)) :: F)) {i : Nat} {p : Lnk} (hi : ws[i]? = some p) :
    w.cell? ⟨g, i * 3, none⟩ = some (.string p.fr) ∧ w.cell? ⟨g, i * 3 + 1, none⟩ = some (.string p.to) ∧ w.cell? ⟨g, i * 3 + 2, none⟩ = some (lnkPtr bs p) := by
  obtain ⟨h1, h2, h3⟩ := lnk_cells bs ws i p hi
  rcases h.osl_cases with ⟨he, _⟩ | ⟨b, n', cap', cs, he, hl, hn, hc, hcm, htk, hp⟩
  · cases he
  · cases he
    exact ⟨hp.cellAt _ _ (take_get htk h1), hp.cellAt _ _ (take_get htk h2), hp.cellAt _ _ (take_get htk h3)⟩
theorem crashFiles_snoc (l : List Int) : ∀ (ns : Names) (p : ByteArray × Nat) (j : Nat) (fs : List Fil),
    crashFiles l (ns ++ [p]) j fs = (crashFiles l ns j fs).set p.2 (((crashFiles l ns j fs).getD p.2 Fil.new).crash (num l (j + 2 * ns.length)) (num l (j + 2 * ns.length + 1)))
  | [], p, j, fs => rfl
  | q :: ns, p, j, fs => by
    show crashFiles l (ns ++ [p]) (j + 2) _ = _
    rw [crashFiles_snoc l ns p (j + 2) _]
    have e : j + 2 + 2 * ns.length = j + 2 * (q :: ns).length := by simp; omega
    rw [e]; rfl
theorem lastNames_succ (M : Med) (k : Nat) (x : Lnk) (h : M.waits[k]? = some x) : M.lastNames (k + 1) = x.on (M.lastNames k) := by
  unfold Med.lastNames
  rw [List.take_add_one, h, List.foldl_append]; rfl
end
end Go.Proofs.YtjklhichekmdhaaGreat
/- The law's own small functions: Cut, Numbers, Same, begins, lives. -/
namespace Go.Proofs.YtjklhichekmdhaaGreat
open Go Go.Sl Go.Med Go.MapKept Go.RowKit
section
variable {w0 w : World} {F : List HProp} {m fb nb b r : Nat} {M : Med} {bs : List Nat} {wv v bv lv av : Value} {s : ByteArray} {fs : List Fil} {K : Nat} {f : Fil}
theorem rdsl_cell {a : Option Addr} {n c : Nat} {xs : List Value} (h : rdsl 1 (.slice a n c) xs w) {i : Nat} {x : Value} (hi : xs[i]? = some x) :
    ∃ bk off, a = some ⟨bk, off, none⟩ ∧ w.cell? ⟨bk, off + i, none⟩ = some x := by
  obtain ⟨a', n', c', he, hl, hx⟩ := h
  cases he
  obtain ⟨b, rfl, hc⟩ := hx i x hi
  have hlt : i < xs.length := (List.getElem?_eq_some_iff.1 hi).1
  obtain ⟨y, hy⟩ : ∃ y, xs[0]? = some y := ⟨xs[0]'(by omega), List.getElem?_eq_getElem _⟩
  obtain ⟨b', hb', hc0⟩ := hx 0 y hy
  cases hb'
  obtain ⟨bk, off, spot⟩ := b
  have hs : spot = none := by simpa [Addr.add] using World.cell?_spot hc0
  subst hs
  refine ⟨bk, off, rfl, ?_⟩
  unfold Addr.add at hc
  split at hc
  · rename_i h0; subst h0; exact hc
  · exact hc
theorem rdsl_min {a : Option Addr} {n c : Nat} {xs : List Value} (h : rdsl 1 (.slice a n c) xs w) (k : Nat) : rdsl 1 (.slice a (min n k) c) (xs.take k) w := by
  obtain ⟨a', n', c', he, hl, hx⟩ := h
  cases he
  refine ⟨a, min n k, c, rfl, by rw [List.length_take]; omega, fun i x hi => ?_⟩
  rw [List.getElem?_take] at hi
  split at hi
  · exact hx i x hi
  · cases hi
end
end Go.Proofs.YtjklhichekmdhaaGreat
/- Within, Short, Copy. -/
namespace Go.Proofs.YtjklhichekmdhaaGreat
open Go Go.Sl Go.Med Go.MapKept Go.RowKit
section
variable {w0 w : World} {F : List HProp} {m fb nb b r : Nat} {M : Med} {bs : List Nat} {wv v bv : Value} {s : ByteArray} {fs : List Fil} {K : Nat}
def within (x lo hi : Int) : Int := if x < lo then lo else if hi < x then hi else x
end
end Go.Proofs.YtjklhichekmdhaaGreat
/- Remove. -/
namespace Go.Proofs.YtjklhichekmdhaaGreat
open Go Go.Sl Go.Med Go.MapKept Go.RowKit
section
variable {w0 w : World} {F : List HProp} {m fb nb b r : Nat} {M : Med} {bs : List Nat} {wv v bv : Value} {s : ByteArray} {l : Names} {fs : List Fil} {K : Nat}
end
end Go.Proofs.YtjklhichekmdhaaGreat
