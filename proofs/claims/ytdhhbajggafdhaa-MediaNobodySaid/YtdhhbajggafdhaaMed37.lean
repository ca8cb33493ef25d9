import Derived.Test.YtdhhbajggafdhaaMed36
/- What a medium answers that no call made. -/
namespace Go.Proofs.Ytdhhbajggafdhaa
open Go Go.Sl Go.Med Go.MapKept Go.RowKit
set_option linter.unusedVariables false
section
variable {w0 w W : World} {F : List HProp} {m fb nb b r q : Nat} {M P : Med} {bs : List Nat} {wv v bv dv dv2 av cv nv ov lv mv dbv dlv : Value} {s : ByteArray} {fs : List Fil} {K : Nat} {f : Fil} {db : Bs} {dl : List Int}
/-- None, or one that is all zero. -/
def Nob (mv : Value) (w : World) : Prop := mv = .pointer none ∨ ∃ q, mv = ptr q ∧ w.cell? ⟨q, 2, none⟩ = some (.map none)
theorem dead_n (hn : Nob mv w) : Calls Try.prog 38 #[mv] w (Rtn fun v w' => v = errno 1 ∧ w = w') := by
  rcases hn with rfl | ⟨q, rfl, c2⟩
  all_goals
    go_enter Try.func38, Try.ntmps38
    go_wp2
    go_ret
    exact ⟨errno 1, rfl, rfl, rfl⟩
theorem find_n (hn : Nob mv w) (s : ByteArray) : Calls Try.prog 42 #[mv, .string s] w (Rtn fun v w' => v = .tuple #[.pointer none, errno 1] ∧ w = w') := by
  have hd := dead_n hn
  rcases hn with rfl | ⟨q, rfl, c2⟩
  all_goals
    go_enter Try.func42, Try.ntmps42
    go_wp2_with (go_at_call 38; refine hd.mono ?_; rintro e w1 ⟨v, rfl, rfl, rfl⟩)
    go_ret2
    exact ⟨_, rfl, rfl, rfl⟩
theorem create_n (hn : Nob mv w) (s : ByteArray) : Calls Try.prog 12 #[mv, .string s] w (Rtn fun v w' => v = errno 1 ∧ w = w') := by
  have hd := dead_n hn
  rcases hn with rfl | ⟨q, rfl, c2⟩
  all_goals
    go_enter Try.func12, Try.ntmps12
    go_wp2_with (go_at_call 38; refine hd.mono ?_; rintro e w1 ⟨v, rfl, rfl, rfl⟩)
    go_ret
    exact ⟨_, rfl, rfl, rfl⟩
theorem append_n (hn : Nob mv w) (s : ByteArray) (bv : Value) : Calls Try.prog 13 #[mv, .string s, bv] w (Rtn fun v w' => v = errno 1 ∧ w = w') := by
  have hd := find_n hn s
  rcases hn with rfl | ⟨q, rfl, c2⟩
  all_goals
    go_enter Try.func13, Try.ntmps13
    go_wp2_with (go_at_call 42; refine hd.mono ?_; rintro e w1 ⟨v, rfl, rfl, rfl⟩)
    go_ret
    exact ⟨_, rfl, rfl, rfl⟩
theorem truncate_n (hn : Nob mv w) (s : ByteArray) (n : Int) : Calls Try.prog 52 #[mv, .string s, .int .i64 n] w (Rtn fun v w' => v = errno 1 ∧ w = w') := by
  have hd := find_n hn s
  rcases hn with rfl | ⟨q, rfl, c2⟩
  all_goals
    go_enter Try.func52, Try.ntmps52
    go_wp2_with (go_at_call 42; refine hd.mono ?_; rintro e w1 ⟨v, rfl, rfl, rfl⟩)
    go_ret
    exact ⟨_, rfl, rfl, rfl⟩
theorem rename_n (hn : Nob mv w) (s : ByteArray) (t : ByteArray) : Calls Try.prog 53 #[mv, .string s, .string t] w (Rtn fun v w' => v = errno 1 ∧ w = w') := by
  have hd := find_n hn s
  rcases hn with rfl | ⟨q, rfl, c2⟩
  all_goals
    go_enter Try.func53, Try.ntmps53
    go_wp2_with (go_at_call 42; refine hd.mono ?_; rintro e w1 ⟨v, rfl, rfl, rfl⟩)
    go_ret
    exact ⟨_, rfl, rfl, rfl⟩
theorem remove_n (hn : Nob mv w) (s : ByteArray) : Calls Try.prog 54 #[mv, .string s] w (Rtn fun v w' => v = errno 1 ∧ w = w') := by
  have hd := find_n hn s
  rcases hn with rfl | ⟨q, rfl, c2⟩
  all_goals
    go_enter Try.func54, Try.ntmps54
    go_wp2_with (go_at_call 42; refine hd.mono ?_; rintro e w1 ⟨v, rfl, rfl, rfl⟩)
    go_ret
    exact ⟨_, rfl, rfl, rfl⟩
theorem sync_n (hn : Nob mv w) (s : ByteArray) : Calls Try.prog 14 #[mv, .string s] w (Rtn fun v w' => v = errno 1 ∧ w = w') := by
  have hd := find_n hn s
  rcases hn with rfl | ⟨q, rfl, c2⟩
  all_goals
    go_enter Try.func14, Try.ntmps14
    go_wp2_with (go_at_call 42; refine hd.mono ?_; rintro e w1 ⟨v, rfl, rfl, rfl⟩)
    go_ret
    exact ⟨_, rfl, rfl, rfl⟩
theorem syncDir_n (hn : Nob mv w) : Calls Try.prog 15 #[mv] w (Rtn fun v w' => v = errno 1 ∧ w = w') := by
  have hd := dead_n hn
  rcases hn with rfl | ⟨q, rfl, c2⟩
  all_goals
    go_enter Try.func15, Try.ntmps15
    go_wp2_with (go_at_call 38; refine hd.mono ?_; rintro e w1 ⟨v, rfl, rfl, rfl⟩)
    go_ret
    exact ⟨_, rfl, rfl, rfl⟩
theorem arm_n (hn : Nob mv w) (n : Int) : Calls Try.prog 30 #[mv, .int .i64 n] w (Rtn fun v w' => v = errno 1 ∧ w = w') := by
  have hd := dead_n hn
  rcases hn with rfl | ⟨q, rfl, c2⟩
  all_goals
    go_enter Try.func30, Try.ntmps30
    go_wp2_with (go_at_call 38; refine hd.mono ?_; rintro e w1 ⟨v, rfl, rfl, rfl⟩)
    go_ret
    exact ⟨_, rfl, rfl, rfl⟩
theorem setRoom_n (hn : Nob mv w) (n : Int) : Calls Try.prog 55 #[mv, .int .i64 n] w (Rtn fun v w' => v = errno 1 ∧ w = w') := by
  have hd := dead_n hn
  rcases hn with rfl | ⟨q, rfl, c2⟩
  all_goals
    go_enter Try.func55, Try.ntmps55
    go_wp2_with (go_at_call 38; refine hd.mono ?_; rintro e w1 ⟨v, rfl, rfl, rfl⟩)
    go_ret
    exact ⟨_, rfl, rfl, rfl⟩
theorem read_n (hn : Nob mv w) (s : ByteArray) (a n : Int) : Calls Try.prog 57 #[mv, .string s, .int .i64 a, .int .i64 n] w (Rtn fun v w' => v = .tuple #[.slice none 0 0, errno 1] ∧ w = w') := by
  have hd := find_n hn s
  rcases hn with rfl | ⟨q, rfl, c2⟩
  all_goals
    go_enter Try.func57, Try.ntmps57
    go_wp2_with (go_at_call 42; refine hd.mono ?_; rintro e w1 ⟨v, rfl, rfl, rfl⟩)
    go_ret2
    exact ⟨_, rfl, rfl, rfl⟩
theorem all_n (hn : Nob mv w) (s : ByteArray) : Calls Try.prog 16 #[mv, .string s] w (Rtn fun v w' => v = .tuple #[.slice none 0 0, errno 1] ∧ w = w') := by
  have hd := find_n hn s
  rcases hn with rfl | ⟨q, rfl, c2⟩
  all_goals
    go_enter Try.func16, Try.ntmps16
    go_wp2_with (go_at_call 42; refine hd.mono ?_; rintro e w1 ⟨v, rfl, rfl, rfl⟩)
    go_ret2
    exact ⟨_, rfl, rfl, rfl⟩
theorem size_n (hn : Nob mv w) (s : ByteArray) : Calls Try.prog 32 #[mv, .string s] w (Rtn fun v w' => v = .tuple #[.int .i64 0, errno 1] ∧ w = w') := by
  have hd := find_n hn s
  rcases hn with rfl | ⟨q, rfl, c2⟩
  all_goals
    go_enter Try.func32, Try.ntmps32
    go_wp2_with (go_at_call 42; refine hd.mono ?_; rintro e w1 ⟨v, rfl, rfl, rfl⟩)
    go_ret2
    exact ⟨_, rfl, rfl, rfl⟩
theorem list_n (hn : Nob mv w) : Calls Try.prog 26 #[mv] w (Rtn fun v w' => v = .slice none 0 0 ∧ w = w') := by
  have hd := dead_n hn
  rcases hn with rfl | ⟨q, rfl, c2⟩
  all_goals
    go_enter Try.func26, Try.ntmps26
    go_wp2_with (go_at_call 38; refine hd.mono ?_; rintro e w1 ⟨v, rfl, rfl, rfl⟩)
    go_ret
    exact ⟨_, rfl, rfl, rfl⟩
theorem used_n (hn : Nob mv w) : Calls Try.prog 23 #[mv] w (Rtn fun v w' => v = .int .i64 0 ∧ w = w') := by
  have hd := dead_n hn
  rcases hn with rfl | ⟨q, rfl, c2⟩
  all_goals
    go_enter Try.func23, Try.ntmps23
    go_wp2_with (go_at_call 38; refine hd.mono ?_; rintro e w1 ⟨v, rfl, rfl, rfl⟩)
    go_ret
    exact ⟨_, rfl, rfl, rfl⟩
theorem power_n (hn : Nob mv w) : Calls Try.prog 31 #[mv] w (Rtn fun v w' => v = .bool false ∧ w = w') := by
  rcases hn with rfl | ⟨q, rfl, c2⟩
  all_goals
    go_enter Try.func31, Try.ntmps31
    go_wp2
    go_ret
    exact ⟨_, rfl, rfl, rfl⟩
set_option maxRecDepth 20000 in
theorem rot_n (hn : Nob mv w) (s : ByteArray) (n k : Int) : Calls Try.prog 56 #[mv, .string s, .int .i64 n, .int .u8 k] w (Rtn fun v w' => v = .bool false ∧ w = w') := by
  rcases hn with rfl | ⟨q, rfl, c2⟩
  all_goals
    go_enter Try.func56, Try.ntmps56
    go_wp2
    go_ret
    exact ⟨_, rfl, rfl, rfl⟩
theorem crash_n (hn : Nob mv w) (a : Option Addr) (n c : Nat) : Calls Try.prog 17 #[mv, .slice a n c] w (Rtn fun _ w' => ∀ R, Sat w0 w R → Sat w0 w' R) := by
  rcases hn with rfl | ⟨q, rfl, c2⟩
  · go_enter Try.func17, Try.ntmps17
    go_wp2
    refine bodyPost_ret (results_none rfl _ _ _) rfl ?_
    exact ⟨_, rfl, fun R h => (h.alloc _).drop⟩
  · have c3 : (w.alloc (.cells #[.slice a n c] 24)).cell? ⟨q, 2, none⟩ = some (.map none) := by
      rw [World.cell?_alloc_some _ _ _ (by rw [c2]; rfl)]; exact c2
    go_enter Try.func17, Try.ntmps17
    go_wp2
    refine bodyPost_ret (results_none rfl _ _ _) rfl ?_
    exact ⟨_, rfl, fun R h => (h.alloc _).drop⟩
end
end Go.Proofs.Ytdhhbajggafdhaa
