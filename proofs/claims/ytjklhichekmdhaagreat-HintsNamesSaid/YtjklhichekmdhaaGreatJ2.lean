import Derived.Test.YtjklhichekmdhaaGreatJ1
import Derived.Test.YtjklhichekmdhaaGreatShelf
import Derived.Deep.LoopGhost
import Derived.Sort.OwnSorted
/- Copies of bytes; good names. -/
namespace Go.Proofs.YtjklhichekmdhaaGreat
open Go Go.Sl Go.Med Go.MapKept Go.RowKit
section
variable {w0 w : World} {F : List HProp} {m fb nb b : Nat} {M : Med} {bs : List Nat} {wv v : Value} {s : ByteArray} {l : Bs}

theorem bys_len (l : Bs) : (bys l).length = l.length := by simp [bys]
theorem bys_one (l : Bs) : ∀ u ∈ bys l, u.oneCell' = true := by
  intro u hu
  obtain ⟨b, _, rfl⟩ := List.mem_map.1 hu
  rfl
theorem bys_append (l k : Bs) : bys (l ++ k) = bys l ++ bys k := by simp [bys]
theorem bys_take (l : Bs) (n : Nat) : bys (l.take n) = (bys l).take n := by simp [bys, List.map_take]
theorem clone_c (h : Sat w0 w F) (hr : rdsl 1 v (bys l) w) (hl : l.length ≤ 140737488355328) :
    Calls Tryz.prog 34 #[v] w (Rtn fun v' w' => Sat w0 w' (bsl v' l :: F) ∧ ∃ a n c, v' = .slice a n c) := by
  obtain ⟨a, n, c, rfl, hn, hc⟩ := hr
  rw [bys_len, Nat.mul_one] at hn
  subst hn
  cases a with
  | none =>
    have : l = [] := by
      cases l with
      | nil => rfl
      | cons x l => obtain ⟨b, hb, _⟩ := hc 0 _ rfl; cases hb
    subst this
    refine (Tryz.bytes_Clone_nil 0 c w).mono ?_
    rintro e w1 ⟨rfl, rfl⟩
    exact ⟨_, rfl, Sat.osl_nil.2 h, _, _, _, rfl⟩
  | some a =>
    refine (Tryz.bytes_Clone_at a l.length c (l.map fun b => (b.toNat : Int)) w (by simp) hl ?_).mono ?_
    · intro i hi
      obtain ⟨b, hb, hx⟩ := hc i (.int .u8 (l[i]).toNat) (by simp [bys, hi])
      cases hb
      rw [hx]
      simp [hi]
    · rintro e w1 ⟨v', rfl, ho, hne, hb⟩
      obtain ⟨hlen, hv | ⟨g, cap, cur, rfl, hbg, hg, hnc, hcm, hcs, htk⟩⟩ := ho
      · exact absurd hv.1 hne
      · refine ⟨_, rfl, ?_, _, _, _, rfl⟩
        refine (h.fresh hb.os hb.tape hb.output hb.size hbg hg hb.block).osl_of_pt ?_ hnc (by omega) hcm ?_
        · rw [bys_len]; omega
        · rw [htk]; simp [bys]

def chgV (c : Chg) (bv : Value) : Value := .agg #[.bool c.cut, .int .i64 c.n, bv]
theorem info8p : ∃ i : TypeInfo, Tryz.prog.info? 5 = some i ∧ i.zero = some (.int .u8 0) ∧ i.size = 1 ∧ i.bytes = 1 := by
  obtain ⟨i, hi, hz0, hz1, hz2⟩ := info_parts info8
  exact ⟨i, hi, hz0, hz1, hz2⟩
end
end Go.Proofs.YtjklhichekmdhaaGreat
/- A change of a file's bytes. -/
namespace Go.Proofs.YtjklhichekmdhaaGreat
open Go Go.Sl Go.Med Go.MapKept Go.RowKit
section
variable {w0 w : World} {F : List HProp} {m fb nb b : Nat} {M : Med} {bs : List Nat} {wv v bv : Value} {s : ByteArray} {l : Bs} {f : Fil}

/-- A change that may be done on l. -/
def chgOk (c : Chg) (l : Bs) : Prop := (c.cut = true → c.n ≤ l.length) ∧ (c.cut = false → l.length + c.b.length ≤ 140737488355328)
theorem bsl_shape (h : Sat w0 w (bsl v l :: F)) : ∃ a n c, v = .slice a n c := by
  obtain ⟨a, n, c, rfl, _⟩ := h.rd
  exact ⟨a, n, c, rfl⟩
theorem Ro.bsl {R : List HProp} (v : Value) (l : Bs) : Ro w0 (bsl v l :: R) (rdsl 1 v (bys l)) := fun w hw => hw.rd
theorem infoChg : (Tryz.prog.info? 189).map (fun i => (i.zero, i.size, i.bytes)) = some (some (.agg #[.bool false, .int .i64 0, .slice none 0 0]), 3, 40) := by kernel_rfl
theorem chgs_snoc (ws : List (Chg × Value)) (p : Chg × Value) : chgs (ws ++ [p]) = star (chgs ws) (bsl p.2 p.1.b) := by
  unfold chgs
  rw [List.map_append, stars_append]
  simp [stars_one]

end
end Go.Proofs.YtjklhichekmdhaaGreat
/- Good names. -/
namespace Go.Proofs.YtjklhichekmdhaaGreat
open Go Go.Sl Go.Med Go.MapKept Go.RowKit
section
variable {w : World} {s : ByteArray}
theorem goodC_iff (c : UInt8) : goodC c = decide ((97 ≤ (c.toNat : Int) ∧ (c.toNat : Int) ≤ 122) ∨ (48 ≤ (c.toNat : Int) ∧ (c.toNat : Int) ≤ 57) ∨ (c.toNat : Int) = 46 ∨ (c.toNat : Int) = 45) := by
  rw [Bool.eq_iff_iff]
  have e1 : ∀ k : UInt8, (c == k) = decide (c.toNat = k.toNat) := fun k => by
    rw [Bool.eq_iff_iff]; simp [UInt8.toNat_inj]
  simp only [goodC, Bool.or_eq_true, Bool.and_eq_true, decide_eq_true_eq, UInt8.le_iff_toNat_le, e1]
  simp only [UInt8.reduceToNat]
  omega
theorem all_take_succ (l : List UInt8) (k : Nat) (h : k < l.length) : (l.take (k + 1)).all goodC = ((l.take k).all goodC && goodC l[k]) := by
  rw [List.take_succ_eq_append_getElem h, List.all_append]; simp
end
end Go.Proofs.YtjklhichekmdhaaGreat
/- What holds of every medium that calls made. -/
namespace Go.Med
structure Fil.Ok (K : Nat) (f : Fil) : Prop where
  now : f.now = f.at f.waits.length
  cuts : ∀ k c, f.waits[k]? = some c → c.cut = true → c.n ≤ (f.at k).length
  size : ∀ k, k ≤ f.waits.length → (f.at k).length ≤ 16777216
  budget : f.waits.length ≤ K
theorem Fil.at_zero (f : Fil) : f.at 0 = f.fast := rfl
theorem Fil.at_do (f : Fil) (c : Chg) (k : Nat) (h : k ≤ f.waits.length) : (f.do c).at k = f.at k := by
  unfold Fil.at Fil.do
  simp only
  rw [List.take_append_of_le_length h]
theorem Fil.at_succ (f : Fil) (k : Nat) (c : Chg) (h : f.waits[k]? = some c) : f.at (k + 1) = c.on (f.at k) := by
  unfold Fil.at
  obtain ⟨hlt, rfl⟩ := List.getElem?_eq_some_iff.1 h
  rw [List.take_succ_eq_append_getElem hlt, List.foldl_append]
  rfl
theorem Fil.at_do_last (f : Fil) (c : Chg) (hn : f.now = f.at f.waits.length) : (f.do c).at (f.waits.length + 1) = c.on f.now := by
  rw [Fil.at_succ _ _ c (by simp [Fil.do]), Fil.at_do _ _ _ (Nat.le_refl _), hn]
theorem Fil.Ok.now_len {K : Nat} {f : Fil} (h : f.Ok K) : f.now.length ≤ 16777216 := by
  rw [h.now]; exact h.size _ (Nat.le_refl _)
theorem Fil.Ok.mono {K K' : Nat} {f : Fil} (h : f.Ok K) (hk : K ≤ K') : f.Ok K' := ⟨h.now, h.cuts, h.size, Nat.le_trans h.budget hk⟩
theorem Fil.Ok.new (K : Nat) : Fil.new.Ok K := ⟨rfl, by simp [Fil.new], by simp [Fil.new, Fil.at], by simp [Fil.new]⟩
theorem Fil.Ok.do {K : Nat} {f : Fil} (h : f.Ok K) (c : Chg) (h1 : c.cut = true → c.n ≤ f.now.length) (h2 : c.cut = false → f.now.length + c.b.length ≤ 16777216) : (f.do c).Ok (K + 1) := by
  have hw : (f.do c).waits.length = f.waits.length + 1 := by simp [Fil.do]
  refine ⟨?_, ?_, ?_, by rw [hw]; exact Nat.succ_le_succ h.budget⟩
  · rw [hw, f.at_do_last c h.now]; rfl
  · intro k c' hk hc
    simp only [Fil.do] at hk
    rcases Nat.lt_trichotomy k f.waits.length with hlt | rfl | hgt
    · rw [List.getElem?_append_left hlt] at hk
      rw [f.at_do c k (Nat.le_of_lt hlt)]
      exact h.cuts k c' hk hc
    · rw [List.getElem?_append_right (Nat.le_refl _), Nat.sub_self] at hk
      simp at hk; subst hk
      rw [f.at_do c _ (Nat.le_refl _), ← h.now]; exact h1 hc
    · rw [List.getElem?_append_right (Nat.le_of_lt hgt)] at hk
      have : k - f.waits.length ≠ 0 := by omega
      obtain ⟨j, hj⟩ : ∃ j, k - f.waits.length = j + 1 := ⟨k - f.waits.length - 1, by omega⟩
      rw [hj] at hk; simp at hk
  · intro k hk
    rw [hw] at hk
    rcases Nat.lt_or_ge k (f.waits.length + 1) with hlt | hge
    · rw [f.at_do c k (by omega)]; exact h.size k (by omega)
    · obtain rfl : k = f.waits.length + 1 := by omega
      rw [f.at_do_last c h.now]
      unfold Chg.on
      cases hc : c.cut
      · simpa using h2 hc
      · simp; have := h.now_len; omega
theorem Fil.Ok.sync {K : Nat} {f : Fil} (h : f.Ok K) : f.sync.Ok K :=
  ⟨rfl, by simp [Fil.sync], (by simp only [Fil.sync, Fil.at]; intro k _; simpa using h.now_len), by simp [Fil.sync]⟩
theorem Fil.Ok.flat (K : Nat) (b : Bs) (h : b.length ≤ 16777216) : (⟨b, b, []⟩ : Fil).Ok K := ⟨rfl, by simp, by intro k _; simpa [Fil.at] using h, by simp⟩
theorem clampN_le (x : Int) (n : Nat) : clampN x n ≤ n := Nat.min_le_right _ _
theorem Fil.left_len {K : Nat} {f : Fil} (h : f.Ok K) (a b : Int) : (f.left a b).length ≤ 16777216 := by
  unfold Fil.left
  have hk := clampN_le a f.waits.length
  generalize clampN a f.waits.length = k at *
  simp only
  cases hc : f.waits[k]? with
  | none => exact h.size k hk
  | some c =>
    simp only
    split
    · exact h.size k hk
    · rename_i hcut
      have hlt := (List.getElem?_eq_some_iff.1 hc).1
      have := h.size (k + 1) hlt
      rw [f.at_succ k c hc] at this
      unfold Chg.on at this
      rw [if_neg hcut] at this
      simp at this ⊢
      have : min (clampN b c.b.length) c.b.length ≤ c.b.length := Nat.min_le_right _ _
      omega
theorem Fil.Ok.crash {K : Nat} {f : Fil} (h : f.Ok K) (a b : Int) : (f.crash a b).Ok K := Fil.Ok.flat K _ (f.left_len h a b)

/-! ### names -/
def Srt (l : Names) : Prop := l.Pairwise fun a b => lt a.1 b.1 = true
theorem lt_trans {a b c : ByteArray} (h : lt a b = true) (k : lt b c = true) : lt a c = true := by
  simp only [lt, decide_eq_true_eq] at *; exact List.lt_trans h k
theorem lt_irrefl (a : ByteArray) : lt a a = false := by simp [lt, List.lt_irrefl]
theorem lt_or {a b : ByteArray} (h : a ≠ b) : lt a b = true ∨ lt b a = true := by
  simp only [lt, decide_eq_true_eq]
  by_cases h1 : a.data.toList < b.data.toList
  · exact .inl h1
  · right
    have h2 : b.data.toList ≤ a.data.toList := List.not_lt.1 h1
    rcases List.le_iff_lt_or_eq.1 h2 with h3 | h3
    · exact h3
    · exfalso; apply h
      obtain ⟨⟨x⟩⟩ := a; obtain ⟨⟨y⟩⟩ := b
      simp at h3; subst h3; rfl
theorem Srt.keys {l : Names} (h : Srt l) : (l.map (·.1)).Nodup := by
  rw [List.nodup_iff_pairwise_ne, List.pairwise_map]
  refine h.imp fun {a b} hab e => ?_
  rw [e, lt_irrefl] at hab; cases hab
theorem Srt.del {l : Names} (h : Srt l) (s : ByteArray) : Srt (ndel l s) := h.sublist List.filter_sublist
theorem Srt.ins : ∀ {l : Names}, Srt l → ∀ {s : ByteArray} (i : Nat), (∀ p ∈ l, p.1 ≠ s) → Srt (nins l s i)
  | [], _, _, _, _ => List.pairwise_singleton _ _
  | p :: l, h, s, i, hs => by
    unfold nins
    obtain ⟨h1, h2⟩ := List.pairwise_cons.1 h
    split
    · rename_i hlt
      refine List.pairwise_cons.2 ⟨fun q hq => ?_, h⟩
      rcases List.mem_cons.1 hq with rfl | hq
      · exact hlt
      · exact lt_trans hlt (h1 q hq)
    · rename_i hlt
      have hps : lt p.1 s = true := (lt_or (hs p (.head _))).resolve_right (by simpa using hlt)
      refine List.pairwise_cons.2 ⟨fun q hq => ?_, Srt.ins h2 i (fun q hq => hs q (.tail _ hq))⟩
      have := (nins_perm l s i).mem_iff.1 hq
      rcases List.mem_cons.1 this with rfl | hq
      · exact hps
      · exact h1 q hq
theorem Srt.put {l : Names} (h : Srt l) (s : ByteArray) (i : Nat) : Srt (nput l s i) := (h.del s).ins i (ndel_keys l s)
structure NOk (n : Nat) (l : Names) : Prop where
  srt : Srt l
  len : l.length ≤ 500
  ids : ∀ p ∈ l, p.2 < n
  ne : ∀ p ∈ l, p.1 ≠ ByteArray.empty
theorem NOk.mono {n n' : Nat} {l : Names} (h : NOk n l) (hn : n ≤ n') : NOk n' l := ⟨h.srt, h.len, fun p hp => Nat.lt_of_lt_of_le (h.ids p hp) hn, h.ne⟩
theorem ndel_len (l : Names) (s : ByteArray) : (ndel l s).length ≤ l.length := List.length_filter_le _ _
theorem NOk.del {n : Nat} {l : Names} (h : NOk n l) (s : ByteArray) : NOk n (ndel l s) :=
  ⟨h.srt.del s, Nat.le_trans (ndel_len l s) h.len, fun p hp => h.ids p (List.mem_filter.1 hp).1, fun p hp => h.ne p (List.mem_filter.1 hp).1⟩
theorem nput_len (l : Names) (s : ByteArray) (i : Nat) : (nput l s i).length = (ndel l s).length + 1 := (nput_perm l s i).length_eq
theorem NOk.put {n : Nat} {l : Names} (h : NOk n l) (s : ByteArray) (i : Nat) (hi : i < n) (hl : (ndel l s).length < 500) (hs : s ≠ ByteArray.empty) : NOk n (nput l s i) := by
  refine ⟨h.srt.put s i, by rw [nput_len]; omega, fun p hp => ?_, fun p hp => ?_⟩
  rotate_left
  · rcases List.mem_cons.1 ((nput_perm l s i).mem_iff.1 hp) with rfl | hp
    · exact hs
    · exact h.ne p (List.mem_filter.1 hp).1
  rcases List.mem_cons.1 ((nput_perm l s i).mem_iff.1 hp) with rfl | hp
  · exact hi
  · exact h.ids p (List.mem_filter.1 hp).1
theorem ndel_lt {l : Names} (hs : Srt l) {s : ByteArray} {i : Nat} (h : nget l s = some i) : (ndel l s).length + 1 = l.length := by
  have := (ndel_perm hs.keys (nget_mem h)).length_eq
  simp at this; omega

/-! ### the medium -/
structure Med.Ok (K : Nat) (m : Med) : Prop where
  room : m.room ≤ 16777216
  left : m.left ≤ 9223372036854775807
  links : ∀ x ∈ m.waits, x.to ≠ ByteArray.empty → x.f < m.files.length
  names : ∀ k, k ≤ m.waits.length → NOk m.files.length (m.lastNames k)
  now : m.now = m.lastNames m.waits.length
  files : ∀ f ∈ m.files, f.Ok K
  budget : m.waits.length ≤ K
theorem Med.Ok.nowOk {K : Nat} {m : Med} (h : m.Ok K) : NOk m.files.length m.now := by rw [h.now]; exact h.names _ (Nat.le_refl _)
theorem Med.Ok.fastOk {K : Nat} {m : Med} (h : m.Ok K) : NOk m.files.length m.fast := h.names 0 (Nat.zero_le _)
theorem Med.Ok.file {K : Nat} {m : Med} (h : m.Ok K) (i : Nat) : (m.file i).Ok K := by
  unfold Med.file
  rcases Nat.lt_or_ge i m.files.length with hi | hi
  · rw [List.getD_eq_getElem?_getD, List.getElem?_eq_getElem hi]; exact h.files _ (List.getElem_mem hi)
  · rw [List.getD_eq_getElem?_getD, List.getElem?_eq_none hi]; exact Fil.Ok.new K
theorem Med.Ok.mono {K K' : Nat} {m : Med} (h : m.Ok K) (hk : K ≤ K') : m.Ok K' :=
  ⟨h.room, h.left, h.links, h.names, h.now, fun f hf => (h.files f hf).mono hk, Nat.le_trans h.budget hk⟩
theorem Med.Ok.new (K room : Nat) (h : room ≤ 16777216) : (new room).Ok K :=
  ⟨h, by simp [Med.new], by simp [Med.new], (by intro k _; simp [Med.new, Med.lastNames]; exact ⟨List.Pairwise.nil, by simp, by simp, by simp⟩), by simp [Med.new, Med.lastNames], by simp [Med.new], by simp [Med.new]⟩
theorem Med.Ok.step {K : Nat} {m : Med} (h : m.Ok K) : m.step.1.Ok K := by
  unfold Med.step
  split
  · split
    · exact ⟨h.room, h.left, h.links, h.names, h.now, h.files, h.budget⟩
    · exact ⟨h.room, Nat.le_trans (Nat.sub_le _ _) h.left, h.links, h.names, h.now, h.files, h.budget⟩
  · exact h
theorem Med.step_same (m : Med) : m.step.1.room = m.room ∧ m.step.1.fast = m.fast ∧ m.step.1.now = m.now ∧ m.step.1.files = m.files ∧ m.step.1.waits = m.waits := by
  unfold Med.step
  split
  · split <;> exact ⟨rfl, rfl, rfl, rfl, rfl⟩
  · exact ⟨rfl, rfl, rfl, rfl, rfl⟩
theorem Med.lastNames_link (m : Med) (x : Lnk) (k : Nat) (h : k ≤ m.waits.length) : (m.link x).lastNames k = m.lastNames k := by
  unfold Med.lastNames Med.link
  simp only
  rw [List.take_append_of_le_length h]
theorem Med.lastNames_last (m : Med) (x : Lnk) (h : m.now = m.lastNames m.waits.length) : (m.link x).lastNames (m.waits.length + 1) = x.on m.now := by
  rw [h]
  unfold Med.lastNames Med.link
  simp only
  rw [List.take_of_length_le (by simp), List.take_of_length_le (Nat.le_refl _), List.foldl_append]
  rfl
theorem Med.Ok.link {K : Nat} {m : Med} (h : m.Ok K) (x : Lnk) (hf : x.to ≠ ByteArray.empty → x.f < m.files.length) (hn : NOk m.files.length (x.on m.now)) : (m.link x).Ok (K + 1) := by
  have hw : (m.link x).waits.length = m.waits.length + 1 := by simp [Med.link]
  refine ⟨h.room, h.left, ?_, ?_, ?_, fun f hf => (h.files f hf).mono (Nat.le_succ _), by rw [hw]; exact Nat.succ_le_succ h.budget⟩
  · intro y hy
    simp only [Med.link, List.mem_append, List.mem_singleton] at hy
    rcases hy with hy | rfl
    · exact h.links y hy
    · exact hf
  · intro k hk
    rw [hw] at hk
    rcases Nat.lt_or_ge k (m.waits.length + 1) with hlt | hge
    · rw [m.lastNames_link x k (by omega)]; exact h.names k (by omega)
    · obtain rfl : k = m.waits.length + 1 := by omega
      rw [m.lastNames_last x h.now]; exact hn
  · rw [hw, m.lastNames_last x h.now]; rfl
theorem Med.Ok.setFile {K : Nat} {m : Med} (h : m.Ok K) (i : Nat) (f : Fil) (hf : f.Ok (K + 1)) : (m.setFile i f).Ok (K + 1) := by
  have hl : (m.setFile i f).files.length = m.files.length := by simp [Med.setFile]
  refine ⟨h.room, h.left, (by rw [hl]; exact h.links), (by rw [hl]; exact h.names), h.now, ?_, Nat.le_succ_of_le h.budget⟩
  intro g hg
  rcases List.mem_or_eq_of_mem_set hg with hg | rfl
  · exact (h.files g hg).mono (Nat.le_succ _)
  · exact hf
theorem Med.Ok.newFile {K : Nat} {m : Med} (h : m.Ok K) : ({ m with files := m.files ++ [Fil.new] } : Med).Ok K := by
  have hl : (m.files ++ [Fil.new]).length = m.files.length + 1 := by simp
  refine ⟨h.room, h.left, fun x hx ht => (by have := h.links x hx ht; simp only [hl]; omega), fun k hk => (h.names k hk).mono (by simp), h.now, ?_, h.budget⟩
  intro f hf
  rcases List.mem_append.1 hf with hf | hf
  · exact h.files f hf
  · rw [List.mem_singleton.1 hf]; exact Fil.Ok.new K
theorem good_ne {s : ByteArray} (h : good s = true) : s ≠ ByteArray.empty := by
  intro e; subst e; simp [good] at h
theorem Med.Ok.create {K : Nat} {m : Med} (h : m.Ok K) (s : ByteArray) : (m.create s).1.Ok (K + 1) := by
  unfold Med.create
  have h' := h.mono (Nat.le_succ K)
  split; · exact h'
  split; · exact h'
  rename_i hg
  split; · exact h'
  rename_i hn
  split; · exact h'
  rename_i hl
  split; · exact h'.step
  have hst := h.step
  obtain ⟨e1, e2, e3, e4, e5⟩ := m.step_same
  have hg' : good s = true := by simpa using hg
  have hn' : nget m.now s = none := by simpa using hn
  have h1 := hst.newFile
  rw [e4] at h1
  refine h1.link _ (fun _ => by simp) ?_
  show NOk _ (Lnk.on _ m.step.1.now)
  rw [e3]
  unfold Lnk.on
  simp only [if_true, if_neg (good_ne hg')]
  exact (h.nowOk.mono (by simp)).put s _ (by simp) (by rw [ndel_none hn']; omega) (good_ne hg')
theorem le_sum : ∀ (l : List Nat) (n : Nat), n ∈ l → n ≤ l.sum
  | [], _, h => by cases h
  | x :: l, n, h => by
    rcases List.mem_cons.1 h with rfl | h
    · simp
    · have := le_sum l n h; simp; omega
theorem Med.Ok.append {K : Nat} {m : Med} (h : m.Ok K) (s : ByteArray) (b : Bs) : (m.append s b).1.Ok (K + 1) := by
  unfold Med.append
  have h' := h.mono (Nat.le_succ K)
  split; · exact h'
  split; · exact h'
  rename_i i hi
  split; · exact h'
  rename_i hroom
  split; · exact h'.step
  refine h.step.setFile _ _ ((h.file i).do _ (by simp) ?_)
  intro _
  have hu : (m.file i).now.length ≤ m.used := by
    unfold Med.used
    have : (s, i) ∈ m.now := nget_mem hi
    exact le_sum _ _ (List.mem_map.2 ⟨(s, i), this, rfl⟩)
  have := h.room
  simp only
  omega
theorem Med.Ok.truncate {K : Nat} {m : Med} (h : m.Ok K) (s : ByteArray) (n : Int) : (m.truncate s n).1.Ok (K + 1) := by
  unfold Med.truncate
  have h' := h.mono (Nat.le_succ K)
  split; · exact h'
  split; · exact h'
  rename_i i hi
  split; · exact h'
  rename_i hn
  split; · exact h'.step
  exact h.step.setFile _ _ ((h.file i).do _ (by intro _; simp only; omega) (by simp))
theorem Med.Ok.rename {K : Nat} {m : Med} (h : m.Ok K) (s t : ByteArray) : (m.rename s t).1.Ok (K + 1) := by
  unfold Med.rename
  have h' := h.mono (Nat.le_succ K)
  split; · exact h'
  split; · exact h'
  rename_i i hi
  split; · exact h'
  rename_i hg
  split; · exact h'.step
  obtain ⟨e1, e2, e3, e4, e5⟩ := m.step_same
  have hg' : good t = true := by simpa using hg
  have hid : i < m.files.length := h.nowOk.ids _ (nget_mem hi)
  refine h.step.link _ (fun _ => by rw [e4]; exact hid) ?_
  rw [e3, e4]
  unfold Lnk.on
  simp only [if_neg (good_ne hg')]
  have hd := ndel_lt h.nowOk.srt hi
  have hl := h.nowOk.len
  have hs : s ≠ ByteArray.empty := h.nowOk.ne _ (nget_mem hi)
  rw [if_neg hs]
  refine (h.nowOk.del s).put t i hid ?_ (good_ne hg')
  have := ndel_len (ndel m.now s) t
  omega
theorem Med.Ok.remove {K : Nat} {m : Med} (h : m.Ok K) (s : ByteArray) : (m.remove s).1.Ok (K + 1) := by
  unfold Med.remove
  have h' := h.mono (Nat.le_succ K)
  split; · exact h'
  split; · exact h'
  rename_i i hi
  split; · exact h'.step
  obtain ⟨e1, e2, e3, e4, e5⟩ := m.step_same
  refine h.step.link _ (fun hh => absurd rfl hh) ?_
  rw [e3, e4]
  unfold Lnk.on
  have hs : s ≠ ByteArray.empty := h.nowOk.ne _ (nget_mem hi)
  simp only [if_true, if_neg hs]
  exact h.nowOk.del s
theorem Med.Ok.sync {K : Nat} {m : Med} (h : m.Ok K) (s : ByteArray) : (m.sync s).1.Ok (K + 1) := by
  unfold Med.sync
  have h' := h.mono (Nat.le_succ K)
  split; · exact h'
  split; · exact h'
  rename_i i hi
  split; · exact h'.step
  exact h.step.setFile _ _ ((h.file i).sync.mono (Nat.le_succ _))
theorem Med.Ok.syncDir {K : Nat} {m : Med} (h : m.Ok K) : m.syncDir.1.Ok K := by
  unfold Med.syncDir
  split; · exact h
  split; · exact h.step
  obtain ⟨e1, e2, e3, e4, e5⟩ := m.step_same
  have hs := h.step
  refine ⟨hs.room, hs.left, by simp, ?_, ?_, hs.files, by simp⟩
  · intro k _
    show NOk _ _
    simp only [Med.lastNames, List.take_nil, List.foldl_nil]
    rw [e4]; exact h.nowOk
  · simp only [Med.lastNames, List.take_nil, List.foldl_nil]
    exact e3
theorem Med.Ok.setRoom {K : Nat} {m : Med} (h : m.Ok K) (n : Int) : (m.setRoom n).1.Ok K := by
  unfold Med.setRoom
  split; · exact h
  split; · exact h
  exact ⟨by simp only; omega, h.left, h.links, h.names, h.now, h.files, h.budget⟩
theorem Med.Ok.arm {K : Nat} {m : Med} (h : m.Ok K) (n : Int) (hn : n ≤ 9223372036854775807) : (m.arm n).1.Ok K := by
  unfold Med.arm
  split; · exact h
  split; · exact h
  exact ⟨h.room, by simp only; omega, h.links, h.names, h.now, h.files, h.budget⟩
theorem crashFiles_len (l : List Int) : ∀ (ns : Names) (j : Nat) (fs : List Fil), (crashFiles l ns j fs).length = fs.length
  | [], _, _ => rfl
  | p :: ns, j, fs => by unfold crashFiles; rw [crashFiles_len l ns]; simp
theorem crashFiles_ok (l : List Int) (K : Nat) : ∀ (ns : Names) (j : Nat) (fs : List Fil), (∀ f ∈ fs, f.Ok K) → ∀ f ∈ crashFiles l ns j fs, f.Ok K
  | [], _, _, h => h
  | p :: ns, j, fs, h => by
    unfold crashFiles
    refine crashFiles_ok l K ns _ _ ?_
    intro f hf
    rcases List.mem_or_eq_of_mem_set hf with hf | rfl
    · exact h f hf
    · refine Fil.Ok.crash ?_ _ _
      rcases Nat.lt_or_ge p.2 fs.length with hi | hi
      · rw [List.getD_eq_getElem?_getD, List.getElem?_eq_getElem hi]; exact h _ (List.getElem_mem hi)
      · rw [List.getD_eq_getElem?_getD, List.getElem?_eq_none hi]; exact Fil.Ok.new K
theorem Med.Ok.crash {K : Nat} {m : Med} (h : m.Ok K) (l : List Int) : (m.crash l).Ok K := by
  unfold Med.crash
  have hn := h.names _ (clampN_le (num l 0) m.waits.length)
  generalize m.lastNames (clampN (num l 0) m.waits.length) = ns at *
  refine ⟨h.room, by simp, by simp, ?_, ?_, crashFiles_ok l K ns 1 m.files h.files, by simp⟩
  · intro k _
    simp only [Med.lastNames, List.take_nil, List.foldl_nil, crashFiles_len]
    exact hn
  · simp only [Med.lastNames, List.take_nil, List.foldl_nil]
theorem sum_le (l : List Nat) (b : Nat) (h : ∀ x ∈ l, x ≤ b) : l.sum ≤ l.length * b := by
  induction l with
  | nil => simp
  | cons x l ih =>
    have h1 := h x (.head _)
    have h2 := ih fun y hy => h y (.tail _ hy)
    simp only [List.sum_cons, List.length_cons, Nat.add_mul]
    omega
theorem Med.Ok.used_le {K : Nat} {m : Med} (h : m.Ok K) : m.used ≤ 8388608000 := by
  unfold Med.used
  have h1 := sum_le (m.now.map fun p => (m.file p.2).now.length) 16777216 (by
    intro x hx
    obtain ⟨p, _, rfl⟩ := List.mem_map.1 hx
    exact (h.file p.2).now_len)
  have := h.nowOk.len
  rw [List.length_map] at h1
  have := Nat.mul_le_mul_right 16777216 this
  omega
end Go.Med
/- Used; the names in a map; copies of maps. -/
namespace Go.Proofs.YtjklhichekmdhaaGreat
open Go Go.Sl Go.Med Go.MapKept Go.RowKit
section
variable {w0 w : World} {F : List HProp} {m fb nb b r : Nat} {M : Med} {bs : List Nat} {wv v bv : Value} {s : ByteArray} {l : Names} {fs : List Fil}

/-- A file among all: its block's cells. -/
theorem file_cells (h : Sat w0 w (filesRep bs fs :: F)) (hl : bs.length = fs.length) {i : Nat} (hi : i < fs.length) :
    ∃ fa fn fc na nc wv, w.cell? ⟨bs.getD i 0, 0, none⟩ = some (.slice fa fn fc) ∧ w.cell? ⟨bs.getD i 0, 1, none⟩ = some (.slice na (fs.getD i Fil.new).now.length nc) ∧ w.cell? ⟨bs.getD i 0, 2, none⟩ = some wv ∧
      rdsl 1 (.slice na (fs.getD i Fil.new).now.length nc) (bys (fs.getD i Fil.new).now) w ∧ (fs.getD i Fil.new).now.length ≤ nc ∧ nc ≤ 9223372036854775807 ∧ (na = none ∧ nc = 0 ∨ ∃ g, na = some ⟨g, 0, none⟩) := by
  obtain ⟨G, h1, _⟩ := files_take bs fs i hl hi
  rw [h1] at h
  obtain ⟨fv, nv, wv, ws, hws, h⟩ := FilRep.open (Sat.star.1 h)
  obtain ⟨fa, fn, fc, rfl, _⟩ := (h.sel 2 [1] rfl rfl).rd
  have hN := h.sel 3 [2] rfl rfl
  have hr := hN.rd
  rcases Sat.osl_cases hN with ⟨rfl, hx, _⟩ | ⟨g, n, cap, cs, rfl, hx, h1, _, h3, _, _⟩
  · have hx0 : (fs.getD i Fil.new).now.length = 0 := by rw [← bys_len]; exact congrArg List.length hx
    rw [hx0]
    exact ⟨fa, fn, fc, none, 0, wv, h.cellAt 0 _ rfl, h.cellAt 1 _ rfl, h.cellAt 2 _ rfl, hr, Nat.le_refl _, by omega, .inl ⟨rfl, rfl⟩⟩
  · rw [bys_len, Nat.mul_one] at hx
    subst hx
    exact ⟨fa, fn, fc, _, cap, wv, h.cellAt 0 _ rfl, h.cellAt 1 _ rfl, h.cellAt 2 _ rfl, hr, h1, h3, .inr ⟨g, rfl⟩⟩
theorem mapL_pick {todo : Names} {k v : Value} {left : List (Value × Value)} (h : (mapL bs todo).Perm ((k, v) :: left)) :
    ∃ p todo', todo.Perm (p :: todo') ∧ k = .string p.1 ∧ v = ptr (bs.getD p.2 0) ∧ left.Perm (mapL bs todo') := by
  have hm : (k, v) ∈ mapL bs todo := h.mem_iff.2 (.head _)
  obtain ⟨p, hp, e⟩ := List.mem_map.1 hm
  simp only [Prod.mk.injEq] at e
  obtain ⟨t1, t2, rfl⟩ := List.append_of_mem hp
  have h1 : (t1 ++ p :: t2).Perm (p :: (t1 ++ t2)) := List.perm_middle
  refine ⟨p, t1 ++ t2, h1, e.1.symm, e.2.symm, ?_⟩
  have h2 : ((k, v) :: left).Perm ((k, v) :: mapL bs (t1 ++ t2)) := by
    refine h.symm.trans ((mapL_perm h1).trans ?_)
    show List.Perm ((Value.string p.1, ptr (bs.getD p.2 0)) :: mapL bs (t1 ++ t2)) _
    rw [e.1, e.2]
  exact (List.Perm.cons_inv h2)

def sumOf (M : Med) (l : Names) : Nat := (l.map fun p => (M.file p.2).now.length).sum
theorem sumOf_perm {l l' : Names} (h : l.Perm l') : sumOf M l = sumOf M l' := (h.map _).sum_nat

abbrev usedCon (m : Nat) (M : Med) (fb nb : Nat) (wv : Value) (bs : List Nat) (F : List HProp) : List HProp := medPt m M fb nb wv :: omap .string nb (mapL bs M.now) :: filesRep bs M.files :: F
end
end Go.Proofs.YtjklhichekmdhaaGreat
/- The names in a map, sorted; copies of maps. -/
namespace Go.Proofs.YtjklhichekmdhaaGreat
open Go Go.Sl Go.Med Go.MapKept Go.RowKit
section
variable {w0 w : World} {F : List HProp} {m fb nb b r : Nat} {M : Med} {bs : List Nat} {wv v bv : Value} {s : ByteArray} {l : Names} {fs : List Fil}
open Go.Sort in
theorem sort_c (ss : List (List UInt8)) (h : Sat w0 w (osl 9 1 v (ss.map encStr) :: F)) (hsz : ss.length < 4611686018427387904) :
    Calls Tryz.prog 49 #[v] w (Rtn fun _ w' => Sat w0 w' (osl 9 1 v ((ss.mergeSort fun x y => decide (x ≤ y)).map encStr) :: F)) := by
  rcases h.osl_cases with ⟨rfl, hn, h'⟩ | ⟨g, n, cap, cs, rfl, hl, hn, hc, hcm, htk, hp⟩
  · have hn' : ss = [] := by simpa using hn
    subst hn'
    refine (Tryz.slices_Sort_string_none none 0 w).mono ?_
    rintro e w1 ⟨rfl, rfl⟩
    exact ⟨_, rfl, by simpa using h⟩
  · have hl' : n = ss.length := by simpa using hl.symm
    subst hl'
    rw [Nat.mul_one] at htk
    refine (Tryz.slices_Sort_string g 0 cap ss w (holds_of_block hp.at htk) hp.lt hsz).mono ?_
    rintro e w1 ⟨rfl, n, os, rfl⟩
    refine ⟨_, rfl, ?_⟩
    have hg := grownBy_sorted (w := w) (g := g) (n := n) (os := os) (ss.mergeSort fun x y => decide (x ≤ y)).toArray
    have := hp.turn hg.os hg.tape hg.output hg.size (heap_sorted (n := n) (os := os) (ss.mergeSort fun x y => decide (x ≤ y)).toArray hp.at) (fun i hi hlt => hg.block i hlt (by simpa using hi))
    refine this.osl_of_pt (by simp) hn (by simpa [Sort.putCells] using hc) hcm ?_
    have h1 := take_putCells cs (ss.mergeSort fun x y => decide (x ≤ y)) (by rw [List.length_mergeSort]; omega)
    rw [List.length_mergeSort] at h1
    rw [Nat.mul_one]; exact h1
theorem encStr_ba (s : ByteArray) : encStr s.data.toList = .string s := by simp [encStr]
/-- Keys in whatever order, sorted, are the names. -/
theorem sorted_keys {l : Names} (hs : Srt l) {ks : List ByteArray} (hp : ks.Perm (l.map (·.1))) :
    ((ks.map fun s => s.data.toList).mergeSort fun x y => decide (x ≤ y)).map encStr = l.map fun p => .string p.1 := by
  have h1 : ((ks.map fun s => s.data.toList).mergeSort fun x y => decide (x ≤ y)) = l.map fun p => p.1.data.toList := by
    refine List.Perm.eq_of_pairwise (le := fun x y => decide (x ≤ y) = true) ?_ ?_ ?_ ?_
    · intro a b _ _ h1 h2
      simp only [decide_eq_true_eq] at h1 h2
      exact List.le_antisymm h1 h2
    · refine List.pairwise_mergeSort ?_ ?_ _
      · intro a b c h1 h2
        simp only [decide_eq_true_eq] at *
        exact List.le_trans h1 h2
      · intro a b
        simp only [Bool.or_eq_true, decide_eq_true_eq]
        exact List.le_total a b
    · rw [List.pairwise_map]
      refine hs.imp fun {a b} hab => ?_
      simp only [lt, decide_eq_true_eq] at hab ⊢
      exact List.le_of_lt hab
    · refine (List.mergeSort_perm _ _).trans ?_
      have := hp.map fun s : ByteArray => s.data.toList
      rw [List.map_map] at this
      exact this
  rw [h1, List.map_map]
  apply List.map_congr_left
  intro p _
  exact encStr_ba p.1
theorem infoStr : (Tryz.prog.info? 9).map (fun i => (i.zero, i.size, i.bytes)) = some (some (.string ByteArray.empty), 1, 16) := by kernel_rfl
def strs (l : List ByteArray) : List Value := l.map Value.string
theorem strs_enc (l : List ByteArray) : strs l = (l.map fun s => s.data.toList).map encStr := by
  unfold strs; rw [List.map_map]; apply List.map_congr_left; intro s _; exact (encStr_ba s).symm
set_option maxHeartbeats 2000000 in
theorem names_c (h : Sat w0 w (omap .string b (mapL bs l) :: F)) (hs : Srt l) (hl : l.length ≤ 1099511627776) :
    Calls Tryz.prog 32 #[.map (some b)] w (Rtn fun v w' => Sat w0 w' (osl 9 1 v (strs (l.map (·.1))) :: omap .string b (mapL bs l) :: F) ∧ ∃ a n c, v = .slice a n c) := by
  obtain ⟨i, hi, hz0, hz1, hz2⟩ := info_parts infoStr
  have Hs := Lib.hid hs; clear hs
  go_enter Tryz.func32, Tryz.ntmps32
  go_wp2_with (at_range; go_must (refine wpList_range_sl (by rfl) _ _ _ _ (by rfl) Tryz.underlying38 (by rfl) h ?_); intro r w1 hS)
  go_frame
  go_loopg [3] l.length (fun g n wr => ∃ (ks : List ByteArray) (todo : Names) (left : List (Value × Value)), g = todo.length ∧ left.Perm (mapL bs todo) ∧ (ks ++ todo.map (·.1)).Perm (l.map (·.1)) ∧
      Sat w0 wr (osl 9 1 n (strs ks) :: rng .string b r (mapL bs l) left :: F))
  case atStart => exact ⟨[], l, _, rfl, List.Perm.refl _, List.Perm.refl _, by unfold strs; exact Sat.osl_nil.2 hS⟩
  case round =>
    obtain ⟨ks, todo, left, rfl, hleft, hperm, hS⟩ := hrel
    have hlen : ks.length + todo.length = l.length := by have := hperm.length_eq; simpa using this
    obtain ⟨oa, on, oc, rfl, hoc, _⟩ := hS.rd
    clear hoc
    have Hleft := Lib.hid hleft
    have Hperm := Lib.hid hperm
    clear hleft hperm
    go_wp2_with (at_next; go_must (refine wpList_next_sl (by rfl) _ (by rfl) (by rfl) hS.pick1 ?_ ?_))
    · intro hnil
      have Hnil := Lib.hid hnil; clear hnil
      have h0 : todo = [] := by
        have := Hleft.out
        rw [Hnil.out] at this
        simpa [mapL] using this.symm
      subst h0
      have hk : ks.Perm (l.map (·.1)) := by simpa using Hperm.out
      have hsort := sort_c (ks.map fun s => s.data.toList) (by rw [← strs_enc]; exact hS) (by simp at hlen ⊢; omega)
      rw [sorted_keys Hs.out hk] at hsort
      have Hk := Lib.hid hk; clear hk
      go_wp2_with (go_at_call 49; refine hsort.mono ?_; rintro e w2 ⟨v, rfl, hS2⟩)
      go_ret
      refine ⟨_, rfl, ?_, _, _, _, rfl⟩
      have h9 := (hS2.pick1.rng_done).pick1
      have e1 : strs (l.map (·.1)) = l.map fun p => Value.string p.1 := by unfold strs; rw [List.map_map]; rfl
      rw [e1]; exact h9
    · intro k v left' w1 hp hS1 hen
      obtain ⟨p, todo', hp', rfl, rfl, hl'⟩ := mapL_pick (Hleft.out.symm.trans hp)
      have hlen2 : todo.length = todo'.length + 1 := by have := hp'.length_eq; simpa using this
      have Hp := Lib.hid hp'
      have Hl := Lib.hid hl'
      clear hp hp' hl'
      have hb1 := hS1.pick1.alloc (.cells #[.string p.1] 9)
      have h63 : (strs ks).length + 1 ≤ maxLen := by unfold strs maxLen; rw [List.length_map]; omega
      have hby : ((strs ks).length + 1) * i.bytes ≤ 140737488355328 := by unfold strs; rw [List.length_map, hz2]; omega
      have hoc : ∀ u ∈ (#[.string p.1] : Array Value).toList, u.oneCell' = true := by
        intro u hu
        simp only [List.mem_cons, List.not_mem_nil, or_false] at hu
        subst hu; rfl
      go_wp2_with (at_builtin; go_must (refine wpList_append (w0 := w0) (by rfl) _ _ _ (by rfl) _ i _ Tryz.underlying46 hi hz0 hz1 (by rfl) (by omega) (by rfl) (by rfl) hoc hb1.pick1 (rdsl_new _ _ _ 1 1 1 (by rfl)) h63 hby ?_); intro v2 w2 hS2 hne)
      go_roundg todo'.length
      case measure => omega
      case rel =>
        refine ⟨ks ++ [p.1], todo', left', rfl, Hl.out, ?_, ?_⟩
        · refine List.Perm.trans ?_ Hperm.out
          rw [List.append_assoc]
          exact List.Perm.append_left ks (show List.Perm ((p :: todo').map (·.1)) _ from (Hp.out.map (·.1)).symm)
        · have : strs (ks ++ [p.1]) = strs ks ++ [.string p.1] := by simp [strs]
          rw [this]
          exact hS2.sel 3 [0, 2] rfl rfl
end
end Go.Proofs.YtjklhichekmdhaaGreat
/- What a medium tells. -/
namespace Go.Proofs.YtjklhichekmdhaaGreat
open Go Go.Sl Go.Med Go.MapKept Go.RowKit
section
variable {w0 w : World} {F : List HProp} {m fb nb b r : Nat} {M : Med} {bs : List Nat} {wv v bv : Value} {s : ByteArray} {l : Names} {fs : List Fil} {K : Nat}
set_option maxHeartbeats 1000000 in
theorem size_c (hM : M.Ok K) (h : Sat w0 w (MedRep m M :: F)) (s : ByteArray) :
    Calls Tryz.prog 19 #[ptr m, .string s] w (Rtn fun v w' => v = .tuple #[.int .i64 (M.size s).1, errno (M.size s).2] ∧ w = w') := by
  obtain ⟨bs, fb, nb, wv, hl, hR⟩ := MedRep.open h
  cases ho : M.off
  · cases hn : nget M.now s with
    | none =>
      have hf := find_none (s := s) hR ho hn
      have Hfin : Hid (M.size s = (0, 9)) := by show _ = _; simp [Med.size, ho, hn]
      clear ho hn
      go_enter Tryz.func19, Tryz.ntmps19
      go_wp2_with (go_at_call 33; refine hf.mono ?_; rintro e w1 ⟨v, rfl, rfl, rfl⟩)
      go_ret2
      exact ⟨_, rfl, by rw [Hfin.out]; rfl, rfl⟩
    | some i =>
      have hf := find_some (s := s) hR ho hn
      have hid : i < M.files.length := hM.nowOk.ids (s, i) (nget_mem hn)
      obtain ⟨fa, fn, fc, na, nc, wv', f0, f1, f2, _, _, _, hna⟩ := file_cells (hR.sel 3 [2] rfl rfl) hl hid
      have Hfin : Hid (M.size s = (((M.file i).now.length : Int), 0)) := by show _ = _; simp [Med.size, ho, hn]
      clear ho hn hna
      change w.cell? ⟨bs.getD i 0, 1, none⟩ = some (.slice na (M.file i).now.length nc) at f1
      generalize bs.getD i 0 = q at *
      go_enter Tryz.func19, Tryz.ntmps19
      go_wp2_with (go_at_call 33; refine hf.mono ?_; rintro e w1 ⟨v, rfl, rfl, rfl⟩)
      go_ret2
      refine ⟨.tuple #[.int .i64 (M.file i).now.length, errno 0], rfl, ?_, rfl⟩
      rw [Hfin.out]
  · have hf := find_off (s := s) hR ho
    have Hfin : Hid (M.size s = (0, 12)) := by show _ = _; simp [Med.size, ho]
    clear ho
    go_enter Tryz.func19, Tryz.ntmps19
    go_wp2_with (go_at_call 33; refine hf.mono ?_; rintro e w1 ⟨v, rfl, rfl, rfl⟩)
    go_ret2
    exact ⟨_, rfl, by rw [Hfin.out]; rfl, rfl⟩
set_option maxHeartbeats 1000000 in
theorem all_c (hM : M.Ok K) (h : Sat w0 w (MedRep m M :: F)) (s : ByteArray) :
    Calls Tryz.prog 21 #[ptr m, .string s] w (Rtn fun v w' => ∃ bv, v = .tuple #[bv, errno (M.all s).2] ∧ Sat w0 w' (bsl bv (M.all s).1 :: MedRep m M :: F)) := by
  obtain ⟨bs, fb, nb, wv, hl, hR⟩ := MedRep.open h
  cases ho : M.off
  · cases hn : nget M.now s with
    | none =>
      have hf := find_none (s := s) hR ho hn
      have Hfin : Hid (M.all s = ([], 9)) := by show _ = _; simp [Med.all, ho, hn]
      clear ho hn
      go_enter Tryz.func21, Tryz.ntmps21
      go_wp2_with (go_at_call 33; refine hf.mono ?_; rintro e w1 ⟨v, rfl, rfl, rfl⟩)
      go_ret2
      exact ⟨_, rfl, .slice none 0 0, by rw [Hfin.out]; rfl, by rw [Hfin.out]; exact Sat.osl_nil.2 h⟩
    | some i =>
      have hf := find_some (s := s) hR ho hn
      have hid : i < M.files.length := hM.nowOk.ids (s, i) (nget_mem hn)
      obtain ⟨fa, fn, fc, na, nc, wv', f0, f1, f2, hrd, hcap, hnc, hna⟩ := file_cells (hR.sel 3 [2] rfl rfl) hl hid
      have hcl := clone_c h hrd (by have := (hM.file i).now_len; unfold Med.file at this; omega)
      have Hfin : Hid (M.all s = ((M.file i).now, 0)) := by show _ = _; simp [Med.all, ho, hn]
      clear ho hn hrd hcap hnc hna
      change w.cell? ⟨bs.getD i 0, 1, none⟩ = some (.slice na (M.file i).now.length nc) at f1
      change Calls _ _ #[.slice na (M.file i).now.length nc] _ _ at hcl
      generalize bs.getD i 0 = q at *
      go_enter Tryz.func21, Tryz.ntmps21
      go_wp2_with (first
        | (go_at_call 33; refine hf.mono ?_; rintro e w1 ⟨v, rfl, rfl, rfl⟩)
        | (go_at_call 34; refine hcl.mono ?_; rintro e w1 ⟨v, rfl, hS, _⟩))
      go_ret2
      exact ⟨_, rfl, v, by rw [Hfin.out]; rfl, by rw [Hfin.out]; exact hS⟩
  · have hf := find_off (s := s) hR ho
    have Hfin : Hid (M.all s = ([], 12)) := by show _ = _; simp [Med.all, ho]
    clear ho
    go_enter Tryz.func21, Tryz.ntmps21
    go_wp2_with (go_at_call 33; refine hf.mono ?_; rintro e w1 ⟨v, rfl, rfl, rfl⟩)
    go_ret2
    exact ⟨_, rfl, .slice none 0 0, by rw [Hfin.out]; rfl, by rw [Hfin.out]; exact Sat.osl_nil.2 h⟩
theorem rdsl_slice {a : Option Addr} {n c lo k : Nat} {xs : List Value} (h : rdsl 1 (.slice a n c) xs w) (hk : lo + k ≤ n) (x : Option Addr) (hx : x = if c = lo then a else a.map (·.add lo)) (hc : n ≤ c) (c' : Nat) : rdsl 1 (.slice x k c') ((xs.drop lo).take k) w := by
  obtain ⟨a', n', c'', he, hl, hcell⟩ := h
  cases he
  rw [Nat.mul_one] at hl
  refine ⟨x, k, c', rfl, by simp; omega, fun i y hi => ?_⟩
  rw [List.getElem?_take] at hi
  split at hi
  · rename_i hik
    rw [List.getElem?_drop] at hi
    obtain ⟨b, hb, hy⟩ := hcell _ y hi
    subst hb
    have : ¬ c = lo := by omega
    rw [if_neg this] at hx
    refine ⟨b.add lo, by simpa using hx, ?_⟩
    have : (b.add lo).add i = b.add (lo + i) := by
      unfold Addr.add
      by_cases h1 : lo = 0
      · subst h1; simp
      · by_cases h2 : i = 0
        · subst h2; simp
        · simp [h1, h2]; omega
    rw [this]; exact hy
  · cases hi
end
end Go.Proofs.YtjklhichekmdhaaGreat
/- New; List; Room, Power, SetRoom, Arm. -/
namespace Go.Proofs.YtjklhichekmdhaaGreat
open Go Go.Sl Go.Med Go.MapKept Go.RowKit
section
variable {w0 w : World} {F : List HProp} {m fb nb b r : Nat} {M : Med} {bs : List Nat} {wv v bv : Value} {s : ByteArray} {l : Names} {fs : List Fil} {K : Nat}
set_option maxHeartbeats 1000000 in
theorem new_no (room : Int) (hr : room < 0 ∨ 16777216 < room) (w : World) :
    Calls Tryz.prog 10 #[.int .i64 room] w (Rtn fun v w' => v = .tuple #[.pointer none, errno 2] ∧ w = w') := by
  go_enter Tryz.func10, Tryz.ntmps10
  rcases hr with h1 | h1
  · go_wp2
    go_ret2
    exact ⟨_, rfl, rfl, rfl⟩
  · have h2 : decide (room < 0) = false := by rw [decide_eq_false_iff_not]; omega
    go_wp2
    go_ret2
    exact ⟨_, rfl, rfl, rfl⟩
set_option maxHeartbeats 1000000 in
theorem new_yes (room : Nat) (hr : room ≤ 16777216) (h : Sat w0 w F) :
    Calls Tryz.prog 10 #[.int .i64 room] w (Rtn fun v w' => ∃ m, v = .tuple #[ptr m, errno 0] ∧ Sat w0 w' (MedRep m (Med.new room) :: F)) := by
  have h2 : decide ((room : Int) < 0) = false := by rw [decide_eq_false_iff_not]; omega
  have h3 : decide (16777216 < (room : Int)) = false := by rw [decide_eq_false_iff_not]; omega
  have hmm := @run_makeMap Tryz.prog
  have hA := ((h.omap_new .string).omap_new .string)
  have hB := hA.alloc (.cells #[.int .i64 room, .map (some w.heap.size), .map (some (w.heap.size + 1)), .slice none 0 0, .bool false, .int .i64 0, .bool false] 41)
  go_enter Tryz.func10, Tryz.ntmps10
  go_wp2
  go_ret2
  refine ⟨_, rfl, _, rfl, ?_⟩
  refine MedRep.shut (bs := []) (fb := w.heap.size) (nb := w.heap.size + 1) (wv := .slice none 0 0) rfl ?_
  have h5 : Sat w0 _ (osl 186 3 (.slice none 0 0) [] :: Sl.emp :: _ :: _ :: _ :: F) := Sat.osl_nil.2 (Sat.emp.2 hB)
  simp only [World.size_alloc] at h5
  exact h5.sel 5 [2, 3, 1, 4, 0] rfl rfl
set_option maxHeartbeats 1000000 in
theorem list_c (hM : M.Ok K) (h : Sat w0 w (MedRep m M :: F)) :
    Calls Tryz.prog 17 #[ptr m] w (Rtn fun v w' => Sat w0 w' (osl 9 1 v (strs M.list) :: MedRep m M :: F) ∧ ∃ a n c, v = .slice a n c) := by
  obtain ⟨bs, fb, nb, wv, hl, hR⟩ := MedRep.open h
  have hd := dead_c hR
  have c2 := hR.cellAt 2 _ rfl
  cases ho : M.off
  · rw [ho] at hd
    have hnm := names_c (hR.sel 5 [1, 0, 2, 3, 4] rfl rfl) hM.nowOk.srt (by have := hM.nowOk.len; omega)
    have Hfin : Hid (M.list = M.now.map (·.1)) := by show _ = _; simp [Med.list, ho]
    clear ho
    go_enter Tryz.func17, Tryz.ntmps17
    go_wp2_with (first | (go_at_call 31; refine hd.mono ?_; rintro e w1 ⟨v, rfl, rfl, rfl⟩) | (go_at_call 32; go_must (refine hnm.mono ?_); rintro e w1 ⟨v, rfl, hS, a1, n1, k1, rfl⟩))
    go_ret
    refine ⟨_, rfl, ?_, _, _, _, rfl⟩
    rw [Hfin.out]
    exact (MedRep.shut hl (hS.sel 6 [2, 1, 3, 4, 5, 0] rfl rfl)).pick1
  · rw [ho] at hd
    have Hfin : Hid (M.list = []) := by show _ = _; simp [Med.list, ho]
    clear ho
    go_enter Tryz.func17, Tryz.ntmps17
    go_wp2_with (go_at_call 31; refine hd.mono ?_; rintro e w1 ⟨v, rfl, rfl, rfl⟩)
    go_ret
    refine ⟨.slice none 0 0, rfl, ?_, _, _, _, rfl⟩
    rw [Hfin.out]
    exact Sat.osl_nil.2 h
end
end Go.Proofs.YtjklhichekmdhaaGreat
/- Create. -/
namespace Go.Proofs.YtjklhichekmdhaaGreat
open Go Go.Sl Go.Med Go.MapKept Go.RowKit
section
variable {w0 w : World} {F : List HProp} {m fb nb b r : Nat} {M : Med} {bs : List Nat} {wv v bv : Value} {s : ByteArray} {l : Names} {fs : List Fil} {K : Nat}
theorem getD_ext (bs : List Nat) (b i : Nat) (h : i < bs.length) : (bs ++ [b]).getD i 0 = bs.getD i 0 := by
  simp [List.getD_eq_getElem?_getD, List.getElem?_append_left h]
theorem mapL_ext (h : ∀ p ∈ l, p.2 < bs.length) (b : Nat) : mapL (bs ++ [b]) l = mapL bs l := by
  unfold mapL
  apply List.map_congr_left
  intro p hp
  rw [getD_ext bs b p.2 (h p hp)]
theorem lnks_ext {ws : List Lnk} (h : ∀ x ∈ ws, x.to ≠ ByteArray.empty → x.f < bs.length) (b : Nat) : ws.flatMap (lnkCells (bs ++ [b])) = ws.flatMap (lnkCells bs) := by
  induction ws with
  | nil => rfl
  | cons x ws ih =>
    rw [List.flatMap_cons, List.flatMap_cons, ih fun y hy => h y (.tail _ hy)]
    congr 1
    unfold lnkCells
    by_cases ht : x.to = ByteArray.empty
    · simp [ht]
    · simp only [if_neg ht]
      rw [getD_ext bs b x.f (h x (.head _) ht)]
/-- 'len(m.now)'. -/
theorem len_names (h : Sat w0 w (omap .string b (mapL bs l) :: F)) (ty : TypeId) : (Builtin.len_ #[38] ty #[.map (some b)]).run Tryz.prog w = .ok (.int .i64 l.length) w := by
  have := run_maplen (P := Tryz.prog) Tryz.underlying38 ty h
  simpa [mapL] using this
theorem raw_step (h : Sat w0 w (medPt m M.step.1 fb nb wv :: [omap .string nb (mapL bs M.now), filesRep bs M.files, omap .string fb (mapL bs M.fast), osl 186 3 wv (M.waits.flatMap (lnkCells bs))] ++ F)) : Sat w0 w (MedRaw m M.step.1 bs fb nb wv ++ F) := by
  obtain ⟨e1, e2, e3, e4, e5⟩ := M.step_same
  unfold MedRaw
  rw [e2, e3, e4, e5]
  exact h
theorem FilRep_new (h : Sat w0 w (filPt b (.slice none 0 0) (.slice none 0 0) (.slice none 0 0) :: F)) : Sat w0 w (FilRep b Fil.new :: F) := by
  refine FilRep.shut (fv := .slice none 0 0) (nv := .slice none 0 0) (wv := .slice none 0 0) (ws := []) rfl ?_
  have h1 : Sat w0 w (bsl (.slice none 0 0) [] :: bsl (.slice none 0 0) [] :: osl 189 3 (.slice none 0 0) [] :: chgs [] :: _) := Sat.osl_nil.2 (Sat.osl_nil.2 (Sat.osl_nil.2 (Sat.emp.2 h)))
  exact h1.sel 5 [4, 0, 1, 2, 3] rfl rfl
end
end Go.Proofs.YtjklhichekmdhaaGreat
