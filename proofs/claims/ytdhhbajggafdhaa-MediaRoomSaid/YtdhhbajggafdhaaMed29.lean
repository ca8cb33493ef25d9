import Derived.Test.YtdhhbajggafdhaaMed28
import Derived.Test.YtdhhbajggafdhaaMed30
import Derived.Test.YtdhhbajggafdhaaMed22
/- does: a call, by its kind. -/
namespace Go.Proofs.Ytdhhbajggafdhaa
open Go Go.Sl Go.Med Go.MapKept Go.RowKit
set_option linter.unusedVariables false
section
variable {w0 w : World} {F : List HProp} {m fb nb b r : Nat} {M : Med} {bs : List Nat} {wv v bv dv dbv dlv : Value} {s : ByteArray} {fs : List Fil} {K : Nat} {db : Bs} {dl : List Int}
/-- What does answers. -/
def Did (w0 : World) (F : List HProp) (m : Nat) (r : Med × Bs × Int × Bool) (v : Value) (w' : World) : Prop :=
  ∃ ov, v = .tuple #[ov, errno r.2.2.1, .bool r.2.2.2] ∧ (∃ a n c, ov = .slice a n c) ∧ Sat w0 w' (bsl ov r.2.1 :: MedRep m r.1 :: F)
theorem wrap_u8 (x : UInt8) : IntKind.u8.wrap ((x.toNat : Int) + 1) = ((x + 1).toNat : Int) := by
  have := x.toNat_lt
  rw [UInt8.toNat_add]
  show ((x.toNat : Int) + 1) % 256 = _
  simp
theorem wrap_byte (n : Int) : IntKind.u8.wrap n = ((lowByte n).toNat : Int) := by
  unfold lowByte
  rw [UInt8.toNat_ofNat']
  show n % 256 = _
  have h1 := Int.emod_nonneg n (show (256 : Int) ≠ 0 by decide)
  have h2 := Int.emod_lt_of_pos n (show (0 : Int) < 256 by decide)
  omega
set_option maxHeartbeats 1000000 in
theorem does_create (ok : M.Ok K) (hK : K ≤ 1099511627776) (h : Sat w0 w (MedRep m M :: F)) (name to : ByteArray) (n k : Int) (hb : Ro w0 F (rdsl 1 dbv (bys db))) (hbl : db.length ≤ 1099511627776) (hn : name.size ≤ 9223372036854775807) :
    Calls Try.prog 24 #[ptr m, .agg #[.int .i64 0, .string name, .string to, .int .i64 n, .int .i64 k, dbv, dlv]] w (Rtn (Did w0 F m ((M.create name).1, [], (M.create name).2, false))) := by
  have hA := h.alloc (.cells #[.int .i64 0, .string name, .string to, .int .i64 n, .int .i64 k, dbv, dlv] 44)
  have hb' : Ro w0 F (rdsl 1 dbv (bys db)) := hb
  obtain ⟨ba, bn, bc, rfl, _⟩ := id (hb _ h.drop)
  have a5 := hA.cellAt 5 _ rfl
  have hcp := copy_c hA db (hb _ hA.drop.drop) hbl
  have Hb := Lib.hid hb
  clear hb hb' hbl
  go_enter Try.func24, Try.ntmps24
  go_wp2_with (first
    | (go_at_call 51; refine hcp.mono ?_; rintro e w1 ⟨v, rfl, hS1, a1, n1, k1, rfl⟩; have c0 := hS1.pick1.cellAt 0 _ rfl; have c1 := hS1.pick1.cellAt 1 _ rfl; have c2 := hS1.pick1.cellAt 2 _ rfl; have c3 := hS1.pick1.cellAt 3 _ rfl; have c4 := hS1.pick1.cellAt 4 _ rfl; have c6 := hS1.pick1.cellAt 6 _ rfl; clear hcp)
    | (go_at_call 12; go_must (refine (create_c ok hK (hS1.sel 3 [2, 0, 1] rfl rfl) name hn).mono ?_); rintro e w2 ⟨v, rfl, rfl, hS2⟩))
  go_ret3
  exact ⟨_, rfl, .slice none 0 0, rfl, ⟨_, _, _, rfl⟩, Sat.osl_nil.2 (hS2.sel 3 [0] rfl rfl)⟩
set_option maxHeartbeats 1000000 in
theorem does_truncate (ok : M.Ok K) (hK : K ≤ 1099511627776) (h : Sat w0 w (MedRep m M :: F)) (name to : ByteArray) (n k : Int) (hb : Ro w0 F (rdsl 1 dbv (bys db))) (hbl : db.length ≤ 1099511627776) :
    Calls Try.prog 24 #[ptr m, .agg #[.int .i64 2, .string name, .string to, .int .i64 n, .int .i64 k, dbv, dlv]] w (Rtn (Did w0 F m ((M.truncate name n).1, [], (M.truncate name n).2, false))) := by
  have hA := h.alloc (.cells #[.int .i64 2, .string name, .string to, .int .i64 n, .int .i64 k, dbv, dlv] 44)
  have hb' : Ro w0 F (rdsl 1 dbv (bys db)) := hb
  obtain ⟨ba, bn, bc, rfl, _⟩ := id (hb _ h.drop)
  have a5 := hA.cellAt 5 _ rfl
  have hcp := copy_c hA db (hb _ hA.drop.drop) hbl
  have Hb := Lib.hid hb
  clear hb hb' hbl
  go_enter Try.func24, Try.ntmps24
  go_wp2_with (first
    | (go_at_call 51; refine hcp.mono ?_; rintro e w1 ⟨v, rfl, hS1, a1, n1, k1, rfl⟩; have c0 := hS1.pick1.cellAt 0 _ rfl; have c1 := hS1.pick1.cellAt 1 _ rfl; have c2 := hS1.pick1.cellAt 2 _ rfl; have c3 := hS1.pick1.cellAt 3 _ rfl; have c4 := hS1.pick1.cellAt 4 _ rfl; have c6 := hS1.pick1.cellAt 6 _ rfl; clear hcp)
    | (go_at_call 52; go_must (refine (truncate_c ok hK (hS1.sel 3 [2, 0, 1] rfl rfl) name n).mono ?_); rintro e w2 ⟨v, rfl, rfl, hS2⟩))
  go_ret3
  exact ⟨_, rfl, .slice none 0 0, rfl, ⟨_, _, _, rfl⟩, Sat.osl_nil.2 (hS2.sel 3 [0] rfl rfl)⟩
set_option maxHeartbeats 1000000 in
theorem does_rename (ok : M.Ok K) (hK : K ≤ 1099511627776) (h : Sat w0 w (MedRep m M :: F)) (name to : ByteArray) (n k : Int) (hb : Ro w0 F (rdsl 1 dbv (bys db))) (hbl : db.length ≤ 1099511627776) (hn : to.size ≤ 9223372036854775807) :
    Calls Try.prog 24 #[ptr m, .agg #[.int .i64 3, .string name, .string to, .int .i64 n, .int .i64 k, dbv, dlv]] w (Rtn (Did w0 F m ((M.rename name to).1, [], (M.rename name to).2, false))) := by
  have hA := h.alloc (.cells #[.int .i64 3, .string name, .string to, .int .i64 n, .int .i64 k, dbv, dlv] 44)
  have hb' : Ro w0 F (rdsl 1 dbv (bys db)) := hb
  obtain ⟨ba, bn, bc, rfl, _⟩ := id (hb _ h.drop)
  have a5 := hA.cellAt 5 _ rfl
  have hcp := copy_c hA db (hb _ hA.drop.drop) hbl
  have Hb := Lib.hid hb
  clear hb hb' hbl
  go_enter Try.func24, Try.ntmps24
  go_wp2_with (first
    | (go_at_call 51; refine hcp.mono ?_; rintro e w1 ⟨v, rfl, hS1, a1, n1, k1, rfl⟩; have c0 := hS1.pick1.cellAt 0 _ rfl; have c1 := hS1.pick1.cellAt 1 _ rfl; have c2 := hS1.pick1.cellAt 2 _ rfl; have c3 := hS1.pick1.cellAt 3 _ rfl; have c4 := hS1.pick1.cellAt 4 _ rfl; have c6 := hS1.pick1.cellAt 6 _ rfl; clear hcp)
    | (go_at_call 53; go_must (refine (rename_c ok hK (hS1.sel 3 [2, 0, 1] rfl rfl) name to hn).mono ?_); rintro e w2 ⟨v, rfl, rfl, hS2⟩))
  go_ret3
  exact ⟨_, rfl, .slice none 0 0, rfl, ⟨_, _, _, rfl⟩, Sat.osl_nil.2 (hS2.sel 3 [0] rfl rfl)⟩
set_option maxHeartbeats 1000000 in
theorem does_remove (ok : M.Ok K) (hK : K ≤ 1099511627776) (h : Sat w0 w (MedRep m M :: F)) (name to : ByteArray) (n k : Int) (hb : Ro w0 F (rdsl 1 dbv (bys db))) (hbl : db.length ≤ 1099511627776) :
    Calls Try.prog 24 #[ptr m, .agg #[.int .i64 4, .string name, .string to, .int .i64 n, .int .i64 k, dbv, dlv]] w (Rtn (Did w0 F m ((M.remove name).1, [], (M.remove name).2, false))) := by
  have hA := h.alloc (.cells #[.int .i64 4, .string name, .string to, .int .i64 n, .int .i64 k, dbv, dlv] 44)
  have hb' : Ro w0 F (rdsl 1 dbv (bys db)) := hb
  obtain ⟨ba, bn, bc, rfl, _⟩ := id (hb _ h.drop)
  have a5 := hA.cellAt 5 _ rfl
  have hcp := copy_c hA db (hb _ hA.drop.drop) hbl
  have Hb := Lib.hid hb
  clear hb hb' hbl
  go_enter Try.func24, Try.ntmps24
  go_wp2_with (first
    | (go_at_call 51; refine hcp.mono ?_; rintro e w1 ⟨v, rfl, hS1, a1, n1, k1, rfl⟩; have c0 := hS1.pick1.cellAt 0 _ rfl; have c1 := hS1.pick1.cellAt 1 _ rfl; have c2 := hS1.pick1.cellAt 2 _ rfl; have c3 := hS1.pick1.cellAt 3 _ rfl; have c4 := hS1.pick1.cellAt 4 _ rfl; have c6 := hS1.pick1.cellAt 6 _ rfl; clear hcp)
    | (go_at_call 54; go_must (refine (remove_c ok hK (hS1.sel 3 [2, 0, 1] rfl rfl) name).mono ?_); rintro e w2 ⟨v, rfl, rfl, hS2⟩))
  go_ret3
  exact ⟨_, rfl, .slice none 0 0, rfl, ⟨_, _, _, rfl⟩, Sat.osl_nil.2 (hS2.sel 3 [0] rfl rfl)⟩
set_option maxHeartbeats 1000000 in
theorem does_sync (ok : M.Ok K) (hK : K ≤ 1099511627776) (h : Sat w0 w (MedRep m M :: F)) (name to : ByteArray) (n k : Int) (hb : Ro w0 F (rdsl 1 dbv (bys db))) (hbl : db.length ≤ 1099511627776) :
    Calls Try.prog 24 #[ptr m, .agg #[.int .i64 5, .string name, .string to, .int .i64 n, .int .i64 k, dbv, dlv]] w (Rtn (Did w0 F m ((M.sync name).1, [], (M.sync name).2, false))) := by
  have hA := h.alloc (.cells #[.int .i64 5, .string name, .string to, .int .i64 n, .int .i64 k, dbv, dlv] 44)
  have hb' : Ro w0 F (rdsl 1 dbv (bys db)) := hb
  obtain ⟨ba, bn, bc, rfl, _⟩ := id (hb _ h.drop)
  have a5 := hA.cellAt 5 _ rfl
  have hcp := copy_c hA db (hb _ hA.drop.drop) hbl
  have Hb := Lib.hid hb
  clear hb hb' hbl
  go_enter Try.func24, Try.ntmps24
  go_wp2_with (first
    | (go_at_call 51; refine hcp.mono ?_; rintro e w1 ⟨v, rfl, hS1, a1, n1, k1, rfl⟩; have c0 := hS1.pick1.cellAt 0 _ rfl; have c1 := hS1.pick1.cellAt 1 _ rfl; have c2 := hS1.pick1.cellAt 2 _ rfl; have c3 := hS1.pick1.cellAt 3 _ rfl; have c4 := hS1.pick1.cellAt 4 _ rfl; have c6 := hS1.pick1.cellAt 6 _ rfl; clear hcp)
    | (go_at_call 14; go_must (refine (sync_c ok (hS1.sel 3 [2, 0, 1] rfl rfl) name).mono ?_); rintro e w2 ⟨v, rfl, rfl, hS2⟩))
  go_ret3
  exact ⟨_, rfl, .slice none 0 0, rfl, ⟨_, _, _, rfl⟩, Sat.osl_nil.2 (hS2.sel 3 [0] rfl rfl)⟩
set_option maxHeartbeats 1000000 in
theorem does_syncDir (ok : M.Ok K) (hK : K ≤ 1099511627776) (h : Sat w0 w (MedRep m M :: F)) (name to : ByteArray) (n k : Int) (hb : Ro w0 F (rdsl 1 dbv (bys db))) (hbl : db.length ≤ 1099511627776) :
    Calls Try.prog 24 #[ptr m, .agg #[.int .i64 6, .string name, .string to, .int .i64 n, .int .i64 k, dbv, dlv]] w (Rtn (Did w0 F m (M.syncDir.1, [], M.syncDir.2, false))) := by
  have hA := h.alloc (.cells #[.int .i64 6, .string name, .string to, .int .i64 n, .int .i64 k, dbv, dlv] 44)
  have hb' : Ro w0 F (rdsl 1 dbv (bys db)) := hb
  obtain ⟨ba, bn, bc, rfl, _⟩ := id (hb _ h.drop)
  have a5 := hA.cellAt 5 _ rfl
  have hcp := copy_c hA db (hb _ hA.drop.drop) hbl
  have Hb := Lib.hid hb
  clear hb hb' hbl
  go_enter Try.func24, Try.ntmps24
  go_wp2_with (first
    | (go_at_call 51; refine hcp.mono ?_; rintro e w1 ⟨v, rfl, hS1, a1, n1, k1, rfl⟩; have c0 := hS1.pick1.cellAt 0 _ rfl; have c1 := hS1.pick1.cellAt 1 _ rfl; have c2 := hS1.pick1.cellAt 2 _ rfl; have c3 := hS1.pick1.cellAt 3 _ rfl; have c4 := hS1.pick1.cellAt 4 _ rfl; have c6 := hS1.pick1.cellAt 6 _ rfl; clear hcp)
    | (go_at_call 15; go_must (refine (syncDir_c ok (hS1.sel 3 [2, 0, 1] rfl rfl)).mono ?_); rintro e w2 ⟨v, rfl, rfl, hS2⟩))
  go_ret3
  exact ⟨_, rfl, .slice none 0 0, rfl, ⟨_, _, _, rfl⟩, Sat.osl_nil.2 (hS2.sel 3 [0] rfl rfl)⟩
set_option maxHeartbeats 1000000 in
theorem does_arm (ok : M.Ok K) (hK : K ≤ 1099511627776) (h : Sat w0 w (MedRep m M :: F)) (name to : ByteArray) (n k : Int) (hb : Ro w0 F (rdsl 1 dbv (bys db))) (hbl : db.length ≤ 1099511627776) :
    Calls Try.prog 24 #[ptr m, .agg #[.int .i64 7, .string name, .string to, .int .i64 n, .int .i64 k, dbv, dlv]] w (Rtn (Did w0 F m ((M.arm n).1, [], (M.arm n).2, false))) := by
  have hA := h.alloc (.cells #[.int .i64 7, .string name, .string to, .int .i64 n, .int .i64 k, dbv, dlv] 44)
  have hb' : Ro w0 F (rdsl 1 dbv (bys db)) := hb
  obtain ⟨ba, bn, bc, rfl, _⟩ := id (hb _ h.drop)
  have a5 := hA.cellAt 5 _ rfl
  have hcp := copy_c hA db (hb _ hA.drop.drop) hbl
  have Hb := Lib.hid hb
  clear hb hb' hbl
  go_enter Try.func24, Try.ntmps24
  go_wp2_with (first
    | (go_at_call 51; refine hcp.mono ?_; rintro e w1 ⟨v, rfl, hS1, a1, n1, k1, rfl⟩; have c0 := hS1.pick1.cellAt 0 _ rfl; have c1 := hS1.pick1.cellAt 1 _ rfl; have c2 := hS1.pick1.cellAt 2 _ rfl; have c3 := hS1.pick1.cellAt 3 _ rfl; have c4 := hS1.pick1.cellAt 4 _ rfl; have c6 := hS1.pick1.cellAt 6 _ rfl; clear hcp)
    | (go_at_call 30; go_must (refine (arm_c (hS1.sel 3 [2, 0, 1] rfl rfl) n).mono ?_); rintro e w2 ⟨v, rfl, rfl, hS2⟩))
  go_ret3
  exact ⟨_, rfl, .slice none 0 0, rfl, ⟨_, _, _, rfl⟩, Sat.osl_nil.2 (hS2.sel 3 [0] rfl rfl)⟩
set_option maxHeartbeats 1000000 in
theorem does_setRoom (ok : M.Ok K) (hK : K ≤ 1099511627776) (h : Sat w0 w (MedRep m M :: F)) (name to : ByteArray) (n k : Int) (hb : Ro w0 F (rdsl 1 dbv (bys db))) (hbl : db.length ≤ 1099511627776) :
    Calls Try.prog 24 #[ptr m, .agg #[.int .i64 9, .string name, .string to, .int .i64 n, .int .i64 k, dbv, dlv]] w (Rtn (Did w0 F m ((M.setRoom n).1, [], (M.setRoom n).2, false))) := by
  have hA := h.alloc (.cells #[.int .i64 9, .string name, .string to, .int .i64 n, .int .i64 k, dbv, dlv] 44)
  have hb' : Ro w0 F (rdsl 1 dbv (bys db)) := hb
  obtain ⟨ba, bn, bc, rfl, _⟩ := id (hb _ h.drop)
  have a5 := hA.cellAt 5 _ rfl
  have hcp := copy_c hA db (hb _ hA.drop.drop) hbl
  have Hb := Lib.hid hb
  clear hb hb' hbl
  go_enter Try.func24, Try.ntmps24
  go_wp2_with (first
    | (go_at_call 51; refine hcp.mono ?_; rintro e w1 ⟨v, rfl, hS1, a1, n1, k1, rfl⟩; have c0 := hS1.pick1.cellAt 0 _ rfl; have c1 := hS1.pick1.cellAt 1 _ rfl; have c2 := hS1.pick1.cellAt 2 _ rfl; have c3 := hS1.pick1.cellAt 3 _ rfl; have c4 := hS1.pick1.cellAt 4 _ rfl; have c6 := hS1.pick1.cellAt 6 _ rfl; clear hcp)
    | (go_at_call 55; go_must (refine (setRoom_c (hS1.sel 3 [2, 0, 1] rfl rfl) n).mono ?_); rintro e w2 ⟨v, rfl, rfl, hS2⟩))
  go_ret3
  exact ⟨_, rfl, .slice none 0 0, rfl, ⟨_, _, _, rfl⟩, Sat.osl_nil.2 (hS2.sel 3 [0] rfl rfl)⟩
set_option maxHeartbeats 1000000 in
theorem does_crash (ok : M.Ok K) (hK : K ≤ 1099511627776) (h : Sat w0 w (MedRep m M :: F)) (name to : ByteArray) (n k : Int) (hb : Ro w0 F (rdsl 1 dbv (bys db))) (hbl : db.length ≤ 1099511627776) (hl : Ro w0 F (rdsl 1 dlv (ints dl))) (hlc : capOk dlv) (hli : ∀ z ∈ dl, inI z) :
    Calls Try.prog 24 #[ptr m, .agg #[.int .i64 8, .string name, .string to, .int .i64 n, .int .i64 k, dbv, dlv]] w (Rtn (Did w0 F m (M.crash dl, [], 0, false))) := by
  have hA := h.alloc (.cells #[.int .i64 8, .string name, .string to, .int .i64 n, .int .i64 k, dbv, dlv] 44)
  have hb' : Ro w0 F (rdsl 1 dbv (bys db)) := hb
  obtain ⟨ba, bn, bc, rfl, _⟩ := id (hb _ h.drop)
  have a5 := hA.cellAt 5 _ rfl
  have hcp := copy_c hA db (hb _ hA.drop.drop) hbl
  have Hb := Lib.hid hb
  clear hb hb' hbl
  go_enter Try.func24, Try.ntmps24
  go_wp2_with (first
    | (go_at_call 51; refine hcp.mono ?_; rintro e w1 ⟨v, rfl, hS1, a1, n1, k1, rfl⟩; have c0 := hS1.pick1.cellAt 0 _ rfl; have c1 := hS1.pick1.cellAt 1 _ rfl; have c2 := hS1.pick1.cellAt 2 _ rfl; have c3 := hS1.pick1.cellAt 3 _ rfl; have c4 := hS1.pick1.cellAt 4 _ rfl; have c6 := hS1.pick1.cellAt 6 _ rfl; clear hcp)
    | (go_at_call 17; go_must (refine (crash_c ok hK (hS1.sel 3 [2, 0, 1] rfl rfl) dl (fun w hw => hl w hw.drop.drop) hlc hli).mono ?_); rintro e w2 ⟨v, rfl, hS2⟩))
  go_ret3
  exact ⟨_, rfl, .slice none 0 0, rfl, ⟨_, _, _, rfl⟩, Sat.osl_nil.2 (hS2.sel 3 [0] rfl rfl)⟩
set_option maxHeartbeats 1000000 in
theorem does_rot (ok : M.Ok K) (hK : K ≤ 1099511627776) (h : Sat w0 w (MedRep m M :: F)) (name to : ByteArray) (n k : Int) (hb : Ro w0 F (rdsl 1 dbv (bys db))) (hbl : db.length ≤ 1099511627776) :
    Calls Try.prog 24 #[ptr m, .agg #[.int .i64 10, .string name, .string to, .int .i64 n, .int .i64 k, dbv, dlv]] w (Rtn (Did w0 F m ((M.rot name n (lowByte k)).1, [], 0, (M.rot name n (lowByte k)).2))) := by
  have hA := h.alloc (.cells #[.int .i64 10, .string name, .string to, .int .i64 n, .int .i64 k, dbv, dlv] 44)
  have hb' : Ro w0 F (rdsl 1 dbv (bys db)) := hb
  obtain ⟨ba, bn, bc, rfl, _⟩ := id (hb _ h.drop)
  have a5 := hA.cellAt 5 _ rfl
  have hcp := copy_c hA db (hb _ hA.drop.drop) hbl
  have Hb := Lib.hid hb
  clear hb hb' hbl
  have hwb := wrap_byte k
  go_enter Try.func24, Try.ntmps24
  go_wp2_with (first
    | (go_at_call 51; refine hcp.mono ?_; rintro e w1 ⟨v, rfl, hS1, a1, n1, k1, rfl⟩; have c0 := hS1.pick1.cellAt 0 _ rfl; have c1 := hS1.pick1.cellAt 1 _ rfl; have c2 := hS1.pick1.cellAt 2 _ rfl; have c3 := hS1.pick1.cellAt 3 _ rfl; have c4 := hS1.pick1.cellAt 4 _ rfl; have c6 := hS1.pick1.cellAt 6 _ rfl; clear hcp)
    | (go_at_call 56; go_must (refine (rot_c ok hK (hS1.sel 3 [2, 0, 1] rfl rfl) name n (lowByte k)).mono ?_); rintro e w2 ⟨v, rfl, rfl, hS2⟩))
  go_ret3
  exact ⟨_, rfl, .slice none 0 0, rfl, ⟨_, _, _, rfl⟩, Sat.osl_nil.2 (hS2.sel 3 [0] rfl rfl)⟩
set_option maxHeartbeats 1000000 in
theorem does_read (ok : M.Ok K) (hK : K ≤ 1099511627776) (h : Sat w0 w (MedRep m M :: F)) (kind : Int) (name to : ByteArray) (n k : Int) (hb : Ro w0 F (rdsl 1 dbv (bys db))) (hbl : db.length ≤ 1099511627776) (hn : inI n) (hk : inI k) (hd : kind ≠ 0 ∧ kind ≠ 1 ∧ kind ≠ 2 ∧ kind ≠ 3 ∧ kind ≠ 4 ∧ kind ≠ 5 ∧ kind ≠ 6 ∧ kind ≠ 7 ∧ kind ≠ 8 ∧ kind ≠ 9 ∧ kind ≠ 10) :
    Calls Try.prog 24 #[ptr m, .agg #[.int .i64 kind, .string name, .string to, .int .i64 n, .int .i64 k, dbv, dlv]] w (Rtn (Did w0 F m (M, (M.read name n k).1, (M.read name n k).2, false))) := by
  obtain ⟨k0, k1, k2, k3, k4, k5, k6, k7, k8, k9, k10⟩ := hd
  have hA := h.alloc (.cells #[.int .i64 kind, .string name, .string to, .int .i64 n, .int .i64 k, dbv, dlv] 44)
  have hb' : Ro w0 F (rdsl 1 dbv (bys db)) := hb
  obtain ⟨ba, bn, bc, rfl, _⟩ := id (hb _ h.drop)
  have a5 := hA.cellAt 5 _ rfl
  have hcp := copy_c hA db (hb _ hA.drop.drop) hbl
  have Hb := Lib.hid hb
  clear hb hb' hbl
  go_enter Try.func24, Try.ntmps24
  go_wp2_with (first
    | (go_at_call 51; refine hcp.mono ?_; rintro e w1 ⟨v, rfl, hS1, a1, n1, k1, rfl⟩; have c0 := hS1.pick1.cellAt 0 _ rfl; have c1 := hS1.pick1.cellAt 1 _ rfl; have c2 := hS1.pick1.cellAt 2 _ rfl; have c3 := hS1.pick1.cellAt 3 _ rfl; have c4 := hS1.pick1.cellAt 4 _ rfl; have c6 := hS1.pick1.cellAt 6 _ rfl; clear hcp)
    | (go_at_call 57; go_must (refine (read_c ok (hS1.sel 3 [2, 0, 1] rfl rfl) name n k hn hk).mono ?_); rintro e w2 ⟨v, rfl, rv, rfl, hS2⟩))
  have hsh := bsl_shape hS2
  go_ret3
  exact ⟨_, rfl, rv, rfl, hsh, hS2.sel 4 [0, 1] rfl rfl⟩
set_option maxHeartbeats 1000000 in
theorem does_append (ok : M.Ok K) (hK : K ≤ 1099511627776) (h : Sat w0 w (MedRep m M :: F)) (name to : ByteArray) (n k : Int) (hb : Ro w0 F (rdsl 1 dbv (bys db))) (hbl : db.length ≤ 1099511627776) :
    Calls Try.prog 24 #[ptr m, .agg #[.int .i64 1, .string name, .string to, .int .i64 n, .int .i64 k, dbv, dlv]] w (Rtn (Did w0 F m ((M.append name db).1, [], (M.append name db).2, false))) := by
  have hA := h.alloc (.cells #[.int .i64 1, .string name, .string to, .int .i64 n, .int .i64 k, dbv, dlv] 44)
  have hb' : Ro w0 F (rdsl 1 dbv (bys db)) := hb
  obtain ⟨ba, bn, bc, rfl, _⟩ := id (hb _ h.drop)
  have a5 := hA.cellAt 5 _ rfl
  have hcp := copy_c hA db (hb _ hA.drop.drop) hbl
  have Hb := Lib.hid hb
  have Hbl := Lib.hid hbl
  clear hb hb' hbl
  go_enter Try.func24, Try.ntmps24
  go_wp2_with (first
    | (go_at_call 51; refine hcp.mono ?_; rintro e w1 ⟨v, rfl, hS1, a1, n1, k1, rfl⟩; have c0 := hS1.pick1.cellAt 0 _ rfl; have c1 := hS1.pick1.cellAt 1 _ rfl; have c2 := hS1.pick1.cellAt 2 _ rfl; have c3 := hS1.pick1.cellAt 3 _ rfl; have c4 := hS1.pick1.cellAt 4 _ rfl; have c6 := hS1.pick1.cellAt 6 _ rfl; clear hcp)
    | (go_at_call 13; go_must (refine (append_c ok hK (hS1.sel 3 [2, 0, 1] rfl rfl) name db (fun w hw => Sat.rd hw)).mono ?_); rintro e w2 ⟨v, rfl, rfl, hS2⟩))
  have hS3 := hS2.sel 3 [1, 0] rfl rfl
  obtain rfl : n1 = db.length := by
    obtain ⟨_, _, _, he, hl, _⟩ := Sat.rd hS3
    cases he
    rw [bys_len, Nat.mul_one] at hl; exact hl.symm
  clear c0 c1 c2 c3 c4 c6 a5 hA hS1 hS2
  go_loopg [9] db.length (fun g iq wr => ∃ (i : Nat) (l' : Bs), g = db.length - i ∧ i ≤ db.length ∧ iq = .int .i64 i ∧ l'.length = db.length ∧ Sat w0 wr (bsl (.slice a1 db.length k1) l' :: MedRep m (M.append name db).1 :: F))
  case atStart => exact ⟨0, db, rfl, Nat.zero_le _, rfl, rfl, hS3⟩
  case round =>
    obtain ⟨i, l', rfl, hi, rfl, hl', hS⟩ := hrel
    have HS := Lib.hid hl'
    by_cases hi' : i < db.length
    · have hi2 : i < l'.length := by omega
      obtain ⟨g, he, e0, e1, hS5⟩ := bsl_set hS hi2 (l'[i]'hi2 + 1)
      cases he
      have hw8 := wrap_u8 (l'[i]'hi2)
      have hic : (i : Int) < (db.length : Int) := by omega
      have hbl2 := Hbl.out
      have hwi : IntKind.i64.wrap ((i : Int) + 1) = (i : Int) + 1 := IntWalk.i64_in _ (by omega)
      clear hl' hbl2
      generalize l'[i]'hi2 = x at *
      go_wp2_with fail
      go_roundg (db.length - (i + 1))
      case measure => omega
      case rel => exact ⟨i + 1, _, rfl, Nat.succ_le_of_lt hi', by first | rfl | go_num, by rw [List.length_set]; exact HS.out, hS5⟩
    · obtain rfl : i = db.length := by omega
      have hic : ¬ (db.length : Int) < (db.length : Int) := by omega
      clear hl'
      go_wp2
      go_ret3
      exact ⟨_, rfl, .slice none 0 0, rfl, ⟨_, _, _, rfl⟩, Sat.osl_nil.2 hS.drop⟩
end
end Go.Proofs.Ytdhhbajggafdhaa
