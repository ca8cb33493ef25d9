import Derived.Test.YtdhhbajggafdhaaMed37
/- does on a medium that no call made. -/
namespace Go.Proofs.Ytdhhbajggafdhaa
open Go Go.Sl Go.Med Go.MapKept Go.RowKit
set_option linter.unusedVariables false
section
variable {w0 w W : World} {F : List HProp} {m fb nb b r q : Nat} {M P : Med} {bs : List Nat} {wv v bv dv dv2 av cv nv ov lv mv dbv dlv : Value} {s : ByteArray} {fs : List Fil} {K : Nat} {f : Fil} {db : Bs} {dl : List Int}
/-- What does answers of nobody. -/
def DidN (w0 : World) (F : List HProp) (e : Int) (v : Value) (w' : World) : Prop := v = .tuple #[.slice none 0 0, errno e, .bool false] ∧ Sat w0 w' F
set_option maxHeartbeats 1000000 in
theorem doesN_create (hN : Ro w0 F (Nob mv)) (h : Sat w0 w F) (name to : ByteArray) (n k : Int) (hb : Ro w0 F (rdsl 1 dbv (bys db))) (hbl : db.length ≤ 1099511627776) :
    Calls Try.prog 24 #[mv, .agg #[.int .i64 0, .string name, .string to, .int .i64 n, .int .i64 k, dbv, dlv]] w (Rtn (DidN w0 F 1)) := by
  have hA := h.alloc (.cells #[.int .i64 0, .string name, .string to, .int .i64 n, .int .i64 k, dbv, dlv] 44)
  obtain ⟨ba, bn, bc, rfl, _⟩ := id (hb _ h)
  have a5 := hA.cellAt 5 _ rfl
  have hcp := copy_c hA db (hb _ hA.drop) hbl
  have Hb := Lib.hid hb
  have HN := Lib.hid hN
  have Hbl := Lib.hid hbl
  clear hb hbl hN
  go_enter Try.func24, Try.ntmps24
  go_wp2_with (first
    | (go_at_call 51; refine hcp.mono ?_; rintro e w1 ⟨v, rfl, hS1, a1, n1, k1, rfl⟩; have c0 := hS1.pick1.cellAt 0 _ rfl; have c1 := hS1.pick1.cellAt 1 _ rfl; have c2 := hS1.pick1.cellAt 2 _ rfl; have c3 := hS1.pick1.cellAt 3 _ rfl; have c4 := hS1.pick1.cellAt 4 _ rfl; have c6 := hS1.pick1.cellAt 6 _ rfl; have hNb := HN.out _ hS1.drop.drop; clear hcp)
    | (go_at_call 12; go_must (refine (create_n hNb name).mono ?_); rintro e w2 ⟨v, rfl, rfl, rfl⟩))
  go_ret3
  exact ⟨_, rfl, rfl, hS1.drop.drop⟩
set_option maxHeartbeats 1000000 in
theorem doesN_truncate (hN : Ro w0 F (Nob mv)) (h : Sat w0 w F) (name to : ByteArray) (n k : Int) (hb : Ro w0 F (rdsl 1 dbv (bys db))) (hbl : db.length ≤ 1099511627776) :
    Calls Try.prog 24 #[mv, .agg #[.int .i64 2, .string name, .string to, .int .i64 n, .int .i64 k, dbv, dlv]] w (Rtn (DidN w0 F 1)) := by
  have hA := h.alloc (.cells #[.int .i64 2, .string name, .string to, .int .i64 n, .int .i64 k, dbv, dlv] 44)
  obtain ⟨ba, bn, bc, rfl, _⟩ := id (hb _ h)
  have a5 := hA.cellAt 5 _ rfl
  have hcp := copy_c hA db (hb _ hA.drop) hbl
  have Hb := Lib.hid hb
  have HN := Lib.hid hN
  have Hbl := Lib.hid hbl
  clear hb hbl hN
  go_enter Try.func24, Try.ntmps24
  go_wp2_with (first
    | (go_at_call 51; refine hcp.mono ?_; rintro e w1 ⟨v, rfl, hS1, a1, n1, k1, rfl⟩; have c0 := hS1.pick1.cellAt 0 _ rfl; have c1 := hS1.pick1.cellAt 1 _ rfl; have c2 := hS1.pick1.cellAt 2 _ rfl; have c3 := hS1.pick1.cellAt 3 _ rfl; have c4 := hS1.pick1.cellAt 4 _ rfl; have c6 := hS1.pick1.cellAt 6 _ rfl; have hNb := HN.out _ hS1.drop.drop; clear hcp)
    | (go_at_call 52; go_must (refine (truncate_n hNb name n).mono ?_); rintro e w2 ⟨v, rfl, rfl, rfl⟩))
  go_ret3
  exact ⟨_, rfl, rfl, hS1.drop.drop⟩
set_option maxHeartbeats 1000000 in
theorem doesN_rename (hN : Ro w0 F (Nob mv)) (h : Sat w0 w F) (name to : ByteArray) (n k : Int) (hb : Ro w0 F (rdsl 1 dbv (bys db))) (hbl : db.length ≤ 1099511627776) :
    Calls Try.prog 24 #[mv, .agg #[.int .i64 3, .string name, .string to, .int .i64 n, .int .i64 k, dbv, dlv]] w (Rtn (DidN w0 F 1)) := by
  have hA := h.alloc (.cells #[.int .i64 3, .string name, .string to, .int .i64 n, .int .i64 k, dbv, dlv] 44)
  obtain ⟨ba, bn, bc, rfl, _⟩ := id (hb _ h)
  have a5 := hA.cellAt 5 _ rfl
  have hcp := copy_c hA db (hb _ hA.drop) hbl
  have Hb := Lib.hid hb
  have HN := Lib.hid hN
  have Hbl := Lib.hid hbl
  clear hb hbl hN
  go_enter Try.func24, Try.ntmps24
  go_wp2_with (first
    | (go_at_call 51; refine hcp.mono ?_; rintro e w1 ⟨v, rfl, hS1, a1, n1, k1, rfl⟩; have c0 := hS1.pick1.cellAt 0 _ rfl; have c1 := hS1.pick1.cellAt 1 _ rfl; have c2 := hS1.pick1.cellAt 2 _ rfl; have c3 := hS1.pick1.cellAt 3 _ rfl; have c4 := hS1.pick1.cellAt 4 _ rfl; have c6 := hS1.pick1.cellAt 6 _ rfl; have hNb := HN.out _ hS1.drop.drop; clear hcp)
    | (go_at_call 53; go_must (refine (rename_n hNb name to).mono ?_); rintro e w2 ⟨v, rfl, rfl, rfl⟩))
  go_ret3
  exact ⟨_, rfl, rfl, hS1.drop.drop⟩
set_option maxHeartbeats 1000000 in
theorem doesN_remove (hN : Ro w0 F (Nob mv)) (h : Sat w0 w F) (name to : ByteArray) (n k : Int) (hb : Ro w0 F (rdsl 1 dbv (bys db))) (hbl : db.length ≤ 1099511627776) :
    Calls Try.prog 24 #[mv, .agg #[.int .i64 4, .string name, .string to, .int .i64 n, .int .i64 k, dbv, dlv]] w (Rtn (DidN w0 F 1)) := by
  have hA := h.alloc (.cells #[.int .i64 4, .string name, .string to, .int .i64 n, .int .i64 k, dbv, dlv] 44)
  obtain ⟨ba, bn, bc, rfl, _⟩ := id (hb _ h)
  have a5 := hA.cellAt 5 _ rfl
  have hcp := copy_c hA db (hb _ hA.drop) hbl
  have Hb := Lib.hid hb
  have HN := Lib.hid hN
  have Hbl := Lib.hid hbl
  clear hb hbl hN
  go_enter Try.func24, Try.ntmps24
  go_wp2_with (first
    | (go_at_call 51; refine hcp.mono ?_; rintro e w1 ⟨v, rfl, hS1, a1, n1, k1, rfl⟩; have c0 := hS1.pick1.cellAt 0 _ rfl; have c1 := hS1.pick1.cellAt 1 _ rfl; have c2 := hS1.pick1.cellAt 2 _ rfl; have c3 := hS1.pick1.cellAt 3 _ rfl; have c4 := hS1.pick1.cellAt 4 _ rfl; have c6 := hS1.pick1.cellAt 6 _ rfl; have hNb := HN.out _ hS1.drop.drop; clear hcp)
    | (go_at_call 54; go_must (refine (remove_n hNb name).mono ?_); rintro e w2 ⟨v, rfl, rfl, rfl⟩))
  go_ret3
  exact ⟨_, rfl, rfl, hS1.drop.drop⟩
set_option maxHeartbeats 1000000 in
theorem doesN_sync (hN : Ro w0 F (Nob mv)) (h : Sat w0 w F) (name to : ByteArray) (n k : Int) (hb : Ro w0 F (rdsl 1 dbv (bys db))) (hbl : db.length ≤ 1099511627776) :
    Calls Try.prog 24 #[mv, .agg #[.int .i64 5, .string name, .string to, .int .i64 n, .int .i64 k, dbv, dlv]] w (Rtn (DidN w0 F 1)) := by
  have hA := h.alloc (.cells #[.int .i64 5, .string name, .string to, .int .i64 n, .int .i64 k, dbv, dlv] 44)
  obtain ⟨ba, bn, bc, rfl, _⟩ := id (hb _ h)
  have a5 := hA.cellAt 5 _ rfl
  have hcp := copy_c hA db (hb _ hA.drop) hbl
  have Hb := Lib.hid hb
  have HN := Lib.hid hN
  have Hbl := Lib.hid hbl
  clear hb hbl hN
  go_enter Try.func24, Try.ntmps24
  go_wp2_with (first
    | (go_at_call 51; refine hcp.mono ?_; rintro e w1 ⟨v, rfl, hS1, a1, n1, k1, rfl⟩; have c0 := hS1.pick1.cellAt 0 _ rfl; have c1 := hS1.pick1.cellAt 1 _ rfl; have c2 := hS1.pick1.cellAt 2 _ rfl; have c3 := hS1.pick1.cellAt 3 _ rfl; have c4 := hS1.pick1.cellAt 4 _ rfl; have c6 := hS1.pick1.cellAt 6 _ rfl; have hNb := HN.out _ hS1.drop.drop; clear hcp)
    | (go_at_call 14; go_must (refine (sync_n hNb name).mono ?_); rintro e w2 ⟨v, rfl, rfl, rfl⟩))
  go_ret3
  exact ⟨_, rfl, rfl, hS1.drop.drop⟩
set_option maxHeartbeats 1000000 in
theorem doesN_syncDir (hN : Ro w0 F (Nob mv)) (h : Sat w0 w F) (name to : ByteArray) (n k : Int) (hb : Ro w0 F (rdsl 1 dbv (bys db))) (hbl : db.length ≤ 1099511627776) :
    Calls Try.prog 24 #[mv, .agg #[.int .i64 6, .string name, .string to, .int .i64 n, .int .i64 k, dbv, dlv]] w (Rtn (DidN w0 F 1)) := by
  have hA := h.alloc (.cells #[.int .i64 6, .string name, .string to, .int .i64 n, .int .i64 k, dbv, dlv] 44)
  obtain ⟨ba, bn, bc, rfl, _⟩ := id (hb _ h)
  have a5 := hA.cellAt 5 _ rfl
  have hcp := copy_c hA db (hb _ hA.drop) hbl
  have Hb := Lib.hid hb
  have HN := Lib.hid hN
  have Hbl := Lib.hid hbl
  clear hb hbl hN
  go_enter Try.func24, Try.ntmps24
  go_wp2_with (first
    | (go_at_call 51; refine hcp.mono ?_; rintro e w1 ⟨v, rfl, hS1, a1, n1, k1, rfl⟩; have c0 := hS1.pick1.cellAt 0 _ rfl; have c1 := hS1.pick1.cellAt 1 _ rfl; have c2 := hS1.pick1.cellAt 2 _ rfl; have c3 := hS1.pick1.cellAt 3 _ rfl; have c4 := hS1.pick1.cellAt 4 _ rfl; have c6 := hS1.pick1.cellAt 6 _ rfl; have hNb := HN.out _ hS1.drop.drop; clear hcp)
    | (go_at_call 15; go_must (refine (syncDir_n hNb).mono ?_); rintro e w2 ⟨v, rfl, rfl, rfl⟩))
  go_ret3
  exact ⟨_, rfl, rfl, hS1.drop.drop⟩
set_option maxHeartbeats 1000000 in
theorem doesN_arm (hN : Ro w0 F (Nob mv)) (h : Sat w0 w F) (name to : ByteArray) (n k : Int) (hb : Ro w0 F (rdsl 1 dbv (bys db))) (hbl : db.length ≤ 1099511627776) :
    Calls Try.prog 24 #[mv, .agg #[.int .i64 7, .string name, .string to, .int .i64 n, .int .i64 k, dbv, dlv]] w (Rtn (DidN w0 F 1)) := by
  have hA := h.alloc (.cells #[.int .i64 7, .string name, .string to, .int .i64 n, .int .i64 k, dbv, dlv] 44)
  obtain ⟨ba, bn, bc, rfl, _⟩ := id (hb _ h)
  have a5 := hA.cellAt 5 _ rfl
  have hcp := copy_c hA db (hb _ hA.drop) hbl
  have Hb := Lib.hid hb
  have HN := Lib.hid hN
  have Hbl := Lib.hid hbl
  clear hb hbl hN
  go_enter Try.func24, Try.ntmps24
  go_wp2_with (first
    | (go_at_call 51; refine hcp.mono ?_; rintro e w1 ⟨v, rfl, hS1, a1, n1, k1, rfl⟩; have c0 := hS1.pick1.cellAt 0 _ rfl; have c1 := hS1.pick1.cellAt 1 _ rfl; have c2 := hS1.pick1.cellAt 2 _ rfl; have c3 := hS1.pick1.cellAt 3 _ rfl; have c4 := hS1.pick1.cellAt 4 _ rfl; have c6 := hS1.pick1.cellAt 6 _ rfl; have hNb := HN.out _ hS1.drop.drop; clear hcp)
    | (go_at_call 30; go_must (refine (arm_n hNb n).mono ?_); rintro e w2 ⟨v, rfl, rfl, rfl⟩))
  go_ret3
  exact ⟨_, rfl, rfl, hS1.drop.drop⟩
set_option maxHeartbeats 1000000 in
theorem doesN_setRoom (hN : Ro w0 F (Nob mv)) (h : Sat w0 w F) (name to : ByteArray) (n k : Int) (hb : Ro w0 F (rdsl 1 dbv (bys db))) (hbl : db.length ≤ 1099511627776) :
    Calls Try.prog 24 #[mv, .agg #[.int .i64 9, .string name, .string to, .int .i64 n, .int .i64 k, dbv, dlv]] w (Rtn (DidN w0 F 1)) := by
  have hA := h.alloc (.cells #[.int .i64 9, .string name, .string to, .int .i64 n, .int .i64 k, dbv, dlv] 44)
  obtain ⟨ba, bn, bc, rfl, _⟩ := id (hb _ h)
  have a5 := hA.cellAt 5 _ rfl
  have hcp := copy_c hA db (hb _ hA.drop) hbl
  have Hb := Lib.hid hb
  have HN := Lib.hid hN
  have Hbl := Lib.hid hbl
  clear hb hbl hN
  go_enter Try.func24, Try.ntmps24
  go_wp2_with (first
    | (go_at_call 51; refine hcp.mono ?_; rintro e w1 ⟨v, rfl, hS1, a1, n1, k1, rfl⟩; have c0 := hS1.pick1.cellAt 0 _ rfl; have c1 := hS1.pick1.cellAt 1 _ rfl; have c2 := hS1.pick1.cellAt 2 _ rfl; have c3 := hS1.pick1.cellAt 3 _ rfl; have c4 := hS1.pick1.cellAt 4 _ rfl; have c6 := hS1.pick1.cellAt 6 _ rfl; have hNb := HN.out _ hS1.drop.drop; clear hcp)
    | (go_at_call 55; go_must (refine (setRoom_n hNb n).mono ?_); rintro e w2 ⟨v, rfl, rfl, rfl⟩))
  go_ret3
  exact ⟨_, rfl, rfl, hS1.drop.drop⟩
set_option maxHeartbeats 1000000 in
theorem doesN_crash (hN : Ro w0 F (Nob mv)) (h : Sat w0 w F) (name to : ByteArray) (n k : Int) (hb : Ro w0 F (rdsl 1 dbv (bys db))) (hbl : db.length ≤ 1099511627776) (hl : ∃ a n c, dlv = .slice a n c) :
    Calls Try.prog 24 #[mv, .agg #[.int .i64 8, .string name, .string to, .int .i64 n, .int .i64 k, dbv, dlv]] w (Rtn (DidN w0 F 0)) := by
  obtain ⟨la, ln, lc, rfl⟩ := hl
  have hA := h.alloc (.cells #[.int .i64 8, .string name, .string to, .int .i64 n, .int .i64 k, dbv, .slice la ln lc] 44)
  obtain ⟨ba, bn, bc, rfl, _⟩ := id (hb _ h)
  have a5 := hA.cellAt 5 _ rfl
  have hcp := copy_c hA db (hb _ hA.drop) hbl
  have Hb := Lib.hid hb
  have HN := Lib.hid hN
  have Hbl := Lib.hid hbl
  clear hb hbl hN
  go_enter Try.func24, Try.ntmps24
  go_wp2_with (first
    | (go_at_call 51; refine hcp.mono ?_; rintro e w1 ⟨v, rfl, hS1, a1, n1, k1, rfl⟩; have c0 := hS1.pick1.cellAt 0 _ rfl; have c1 := hS1.pick1.cellAt 1 _ rfl; have c2 := hS1.pick1.cellAt 2 _ rfl; have c3 := hS1.pick1.cellAt 3 _ rfl; have c4 := hS1.pick1.cellAt 4 _ rfl; have c6 := hS1.pick1.cellAt 6 _ rfl; have hNb := HN.out _ hS1.drop.drop; clear hcp)
    | (go_at_call 17; go_must (refine (crash_n (w0 := w0) hNb la ln lc).mono ?_); rintro e w2 ⟨v, rfl, hR⟩))
  go_ret3
  exact ⟨_, rfl, rfl, hR _ hS1.drop.drop⟩
set_option maxHeartbeats 1000000 in
theorem doesN_rot (hN : Ro w0 F (Nob mv)) (h : Sat w0 w F) (name to : ByteArray) (n k : Int) (hb : Ro w0 F (rdsl 1 dbv (bys db))) (hbl : db.length ≤ 1099511627776) :
    Calls Try.prog 24 #[mv, .agg #[.int .i64 10, .string name, .string to, .int .i64 n, .int .i64 k, dbv, dlv]] w (Rtn (DidN w0 F 0)) := by
  have hA := h.alloc (.cells #[.int .i64 10, .string name, .string to, .int .i64 n, .int .i64 k, dbv, dlv] 44)
  obtain ⟨ba, bn, bc, rfl, _⟩ := id (hb _ h)
  have a5 := hA.cellAt 5 _ rfl
  have hcp := copy_c hA db (hb _ hA.drop) hbl
  have Hb := Lib.hid hb
  have HN := Lib.hid hN
  have Hbl := Lib.hid hbl
  clear hb hbl hN
  go_enter Try.func24, Try.ntmps24
  go_wp2_with (first
    | (go_at_call 51; refine hcp.mono ?_; rintro e w1 ⟨v, rfl, hS1, a1, n1, k1, rfl⟩; have c0 := hS1.pick1.cellAt 0 _ rfl; have c1 := hS1.pick1.cellAt 1 _ rfl; have c2 := hS1.pick1.cellAt 2 _ rfl; have c3 := hS1.pick1.cellAt 3 _ rfl; have c4 := hS1.pick1.cellAt 4 _ rfl; have c6 := hS1.pick1.cellAt 6 _ rfl; have hNb := HN.out _ hS1.drop.drop; clear hcp)
    | (go_at_call 56; go_must (refine (rot_n hNb name n (IntKind.u8.wrap k)).mono ?_); rintro e w2 ⟨v, rfl, rfl, rfl⟩))
  go_ret3
  exact ⟨_, rfl, rfl, hS1.drop.drop⟩
set_option maxHeartbeats 1000000 in
theorem doesN_read (hN : Ro w0 F (Nob mv)) (h : Sat w0 w F) (kind : Int) (name to : ByteArray) (n k : Int) (hb : Ro w0 F (rdsl 1 dbv (bys db))) (hbl : db.length ≤ 1099511627776) (hd : kind ≠ 0 ∧ kind ≠ 1 ∧ kind ≠ 2 ∧ kind ≠ 3 ∧ kind ≠ 4 ∧ kind ≠ 5 ∧ kind ≠ 6 ∧ kind ≠ 7 ∧ kind ≠ 8 ∧ kind ≠ 9 ∧ kind ≠ 10) :
    Calls Try.prog 24 #[mv, .agg #[.int .i64 kind, .string name, .string to, .int .i64 n, .int .i64 k, dbv, dlv]] w (Rtn (DidN w0 F 1)) := by
  obtain ⟨k0, k1, k2, k3, k4, k5, k6, k7, k8, k9, k10⟩ := hd
  have hA := h.alloc (.cells #[.int .i64 kind, .string name, .string to, .int .i64 n, .int .i64 k, dbv, dlv] 44)
  obtain ⟨ba, bn, bc, rfl, _⟩ := id (hb _ h)
  have a5 := hA.cellAt 5 _ rfl
  have hcp := copy_c hA db (hb _ hA.drop) hbl
  have Hb := Lib.hid hb
  have HN := Lib.hid hN
  have Hbl := Lib.hid hbl
  clear hb hbl hN
  go_enter Try.func24, Try.ntmps24
  go_wp2_with (first
    | (go_at_call 51; refine hcp.mono ?_; rintro e w1 ⟨v, rfl, hS1, a1, n1, k1, rfl⟩; have c0 := hS1.pick1.cellAt 0 _ rfl; have c1 := hS1.pick1.cellAt 1 _ rfl; have c2 := hS1.pick1.cellAt 2 _ rfl; have c3 := hS1.pick1.cellAt 3 _ rfl; have c4 := hS1.pick1.cellAt 4 _ rfl; have c6 := hS1.pick1.cellAt 6 _ rfl; have hNb := HN.out _ hS1.drop.drop; clear hcp)
    | (go_at_call 57; go_must (refine (read_n hNb name n k).mono ?_); rintro e w2 ⟨v, rfl, rfl, rfl⟩))
  go_ret3
  exact ⟨_, rfl, rfl, hS1.drop.drop⟩
set_option maxHeartbeats 1000000 in
theorem doesN_append (hN : Ro w0 F (Nob mv)) (h : Sat w0 w F) (name to : ByteArray) (n k : Int) (hb : Ro w0 F (rdsl 1 dbv (bys db))) (hbl : db.length ≤ 1099511627776) :
    Calls Try.prog 24 #[mv, .agg #[.int .i64 1, .string name, .string to, .int .i64 n, .int .i64 k, dbv, dlv]] w (Rtn (DidN w0 F 1)) := by
  have hA := h.alloc (.cells #[.int .i64 1, .string name, .string to, .int .i64 n, .int .i64 k, dbv, dlv] 44)
  obtain ⟨ba, bn, bc, rfl, _⟩ := id (hb _ h)
  have a5 := hA.cellAt 5 _ rfl
  have hcp := copy_c hA db (hb _ hA.drop) hbl
  have Hb := Lib.hid hb
  have HN := Lib.hid hN
  have Hbl := Lib.hid hbl
  clear hb hbl hN
  go_enter Try.func24, Try.ntmps24
  go_wp2_with (first
    | (go_at_call 51; refine hcp.mono ?_; rintro e w1 ⟨v, rfl, hS1, a1, n1, k1, rfl⟩; have c0 := hS1.pick1.cellAt 0 _ rfl; have c1 := hS1.pick1.cellAt 1 _ rfl; have c2 := hS1.pick1.cellAt 2 _ rfl; have c3 := hS1.pick1.cellAt 3 _ rfl; have c4 := hS1.pick1.cellAt 4 _ rfl; have c6 := hS1.pick1.cellAt 6 _ rfl; have hNb := HN.out _ hS1.drop.drop; clear hcp)
    | (go_at_call 13; go_must (refine (append_n hNb name (.slice a1 n1 k1)).mono ?_); rintro e w2 ⟨v, rfl, rfl, rfl⟩))
  have hS3 := hS1.sel 2 [0] rfl rfl
  obtain rfl : n1 = db.length := by
    obtain ⟨_, _, _, he, hl, _⟩ := Sat.rd hS3
    cases he
    rw [bys_len, Nat.mul_one] at hl; exact hl.symm
  clear c0 c1 c2 c3 c4 c6 a5 hA hS1
  go_loopg [9] db.length (fun g iq wr => ∃ (i : Nat) (l' : Bs), g = db.length - i ∧ i ≤ db.length ∧ iq = .int .i64 i ∧ l'.length = db.length ∧ Sat w0 wr (bsl (.slice a1 db.length k1) l' :: F))
  case atStart => exact ⟨0, db, rfl, Nat.zero_le _, rfl, rfl, hS3⟩
  case round =>
    obtain ⟨i, l', rfl, hi, rfl, hl', hS⟩ := hrel
    have HS := Lib.hid hl'
    by_cases hi' : i < db.length
    · have hi2 : i < l'.length := by omega
      obtain ⟨g, he, e0, e1, hS5⟩ := bsl_set hS hi2 (l'[i]'hi2 + 1)
      cases he
      have hw8 := wrap_u8 (l'[i]'hi2)
      have hic : (i : Int) < (db.length : Int) := by omega
      have hbl2 := Hbl.out
      have hwi : IntKind.i64.wrap ((i : Int) + 1) = (i : Int) + 1 := IntWalk.i64_in _ (by omega)
      clear hl' hbl2
      generalize l'[i]'hi2 = x at *
      go_wp2_with fail
      go_roundg (db.length - (i + 1))
      case measure => omega
      case rel => exact ⟨i + 1, _, rfl, Nat.succ_le_of_lt hi', by first | rfl | go_num, by rw [List.length_set]; exact HS.out, hS5⟩
    · obtain rfl : i = db.length := by omega
      have hic : ¬ (db.length : Int) < (db.length : Int) := by omega
      clear hl'
      go_wp2
      go_ret3
      exact ⟨_, rfl, rfl, hS.drop⟩
theorem doesN_c (hN : Ro w0 F (Nob mv)) (h : Sat w0 w F) (d : D) (fit : d.Fit w0 F) (hb : Ro w0 F (rdsl 1 d.bv (bys d.b))) :
    Calls Try.prog 24 #[mv, .agg (dCells d).toArray] w (Rtn (DidN w0 F (if d.kind = 8 ∨ d.kind = 10 then 0 else 1))) := by
  obtain ⟨kind, name, to, n, k, dbv, db, dlv, dl⟩ := d
  obtain ⟨f1, f2, f3, f4, f5, f6, f7, f8⟩ := fit
  simp only at f1 f2 f3 f4 f5 f6 f7 f8 hb
  have hbl : db.length ≤ 1099511627776 := by omega
  have hl : ∃ a n c, dlv = .slice a n c := by obtain ⟨a, n, c, h, _⟩ := f7; exact ⟨a, n, c, h⟩
  show Calls Try.prog 24 #[mv, .agg #[.int .i64 kind, .string name, .string to, .int .i64 n, .int .i64 k, dbv, dlv]] w (Rtn (DidN w0 F (if kind = 8 ∨ kind = 10 then 0 else 1)))
  by_cases h0 : kind = 0
  · subst h0; exact doesN_create hN h name to n k hb hbl
  by_cases h1 : kind = 1
  · subst h1; exact doesN_append hN h name to n k hb hbl
  by_cases h2 : kind = 2
  · subst h2; exact doesN_truncate hN h name to n k hb hbl
  by_cases h3 : kind = 3
  · subst h3; exact doesN_rename hN h name to n k hb hbl
  by_cases h4 : kind = 4
  · subst h4; exact doesN_remove hN h name to n k hb hbl
  by_cases h5 : kind = 5
  · subst h5; exact doesN_sync hN h name to n k hb hbl
  by_cases h6 : kind = 6
  · subst h6; exact doesN_syncDir hN h name to n k hb hbl
  by_cases h7 : kind = 7
  · subst h7; exact doesN_arm hN h name to n k hb hbl
  by_cases h8 : kind = 8
  · subst h8; exact doesN_crash hN h name to n k hb hbl hl
  by_cases h9 : kind = 9
  · subst h9; exact doesN_setRoom hN h name to n k hb hbl
  by_cases h10 : kind = 10
  · subst h10; exact doesN_rot hN h name to n k hb hbl
  rw [if_neg (by rintro (e | e) <;> contradiction)]
  exact doesN_read hN h kind name to n k hb hbl ⟨h0, h1, h2, h3, h4, h5, h6, h7, h8, h9, h10⟩
end
end Go.Proofs.Ytdhhbajggafdhaa
