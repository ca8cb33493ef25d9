import Derived.Test.YtdhhbajggafdhaaDoorMed23
import Derived.Test.YtdhhbajggafdhaaDoorFrm
import Derived.Laws.BitsAllLaws
/- crc. -/
namespace Go.Proofs.YtdhhbajggafdhaaDoor
open Go Go.Sl Go.Med Go.MapKept Go.RowKit
section
variable {w0 w : World} {F : List HProp} {v bv : Value}
/-- The table stands where the program laid it. -/
def Half (w : World) : Prop := ∀ i, i < 16 → w.cell? ⟨0, i, none⟩ = some (.int .u32 (Frm.half.getD i 0 : Nat))
theorem not_u32 (s : Nat) (hs : s < 4294967296) : bits .xor .u32 IntKind.u32.max (s : Int) = ((4294967295 - s : Nat) : Int) := by
  have h1 : IntKind.u32.max = ((4294967295 : Nat) : Int) := by decide
  rw [h1, u32_xor_nat _ _ (by omega) hs]
  congr 1
  have h2 : (4294967295 ^^^ s) = (BitVec.allOnes 32 ^^^ BitVec.ofNat 32 s).toNat := by
    rw [BitVec.toNat_xor, BitVec.toNat_allOnes, BitVec.toNat_ofNat, Nat.mod_eq_of_lt hs]
  rw [h2, BitVec.allOnes_xor, BitVec.toNat_not, BitVec.toNat_ofNat, Nat.mod_eq_of_lt hs]
theorem and15 (y : Nat) (hy : y < 4294967296) : bits .and .u32 (y : Int) 15 = ((y % 16 : Nat) : Int) := by
  have := u32_and_nat y 15 hy (by omega)
  rw [nat_mask4] at this
  exact this
theorem xor_half (y h : Nat) (hy : y < 4294967296) (hh : h < 4294967296) : bits .xor .u32 ((y : Int) / 16) (h : Int) = ((y / 16 ^^^ h : Nat) : Int) := by
  have := u32_xor_nat (y / 16) h (by omega) hh
  rw [← this]
  rfl
set_option maxHeartbeats 1000000 in
theorem crcAdd_c (s : Nat) (hs : s < 4294967296) (l : Bs) (hH : Ro w0 F Half) (hr : Ro w0 F (rdsl 1 bv (bys l))) (h : Sat w0 w F) (hl : l.length ≤ 1099511627776) :
    Calls Tryd.prog 85 #[.int .u32 s, bv] w (Rtn fun v w' => v = .int .u32 (Frm.crcAdd s l : Nat) ∧ w = w') := by
  obtain ⟨a, n, c, rfl, hn, _⟩ := id (hr w h)
  rw [bys_len, Nat.mul_one] at hn
  subst hn
  have hnot := not_u32 s hs
  obtain ⟨t0, ht0⟩ : ∃ t0, t0 = 4294967295 - s := ⟨_, rfl⟩
  rw [← ht0] at hnot
  have ht : t0 < 4294967296 := by omega
  have Hr := Lib.hid hr; have hHw := Lib.hid (hH w h); have Hl := Lib.hid hl; have Ht := Lib.hid ht; have Ht0 := Lib.hid ht0
  clear hr hH hl hs ht ht0
  go_enter Tryd.func85, Tryd.ntmps85
  go_wp2_with fail
  clear hnot
  go_loopg [5, 12] l.length (fun g xv iq wr => ∃ (i : Nat), g = l.length - i ∧ i ≤ l.length ∧ iq = .int .i64 i ∧ xv = .int .u32 ((l.take i).foldl Frm.crcStep t0 : Nat) ∧ wr = w)
  case atStart => exact ⟨0, rfl, Nat.zero_le _, rfl, rfl, rfl⟩
  case round =>
    obtain ⟨i, rfl, hi, rfl, rfl, rfl⟩ := hrel
    have hxlt : (l.take i).foldl Frm.crcStep t0 < 4294967296 := Frm.foldl_lt _ _ Ht.out
    by_cases hi' : i < l.length
    · have hb : (bys l)[i]? = some (.int .u8 (l[i]'hi').toNat) := by unfold bys; simp [hi']
      obtain ⟨bk, off, rfl, c1⟩ := rdsl_cell (Hr.out _ h) hb
      have hnext : (l.take (i + 1)).foldl Frm.crcStep t0 = Frm.fold4 (Frm.fold4 ((l.take i).foldl Frm.crcStep t0 ^^^ (l[i]'hi').toNat)) := by
        rw [List.take_succ_eq_append_getElem hi', List.foldl_append]; rfl
      have hic : (i : Int) < (l.length : Int) := by omega
      have hwi : IntKind.i64.wrap ((i : Int) + 1) = (i : Int) + 1 := IntWalk.i64_in _ (by have h1 := Hl.out; omega)
      have hcb := (l[i]'hi').toNat_lt
      have Hnext := Lib.hid hnext
      clear hb hnext
      generalize (l[i]'hi').toNat = cb at *
      generalize (l.take i).foldl Frm.crcStep t0 = x at *
      have e1 := u32_xor_nat x cb hxlt (by omega)
      have hy1 : x ^^^ cb < 4294967296 := Frm.xor_lt hxlt (by omega)
      unfold Frm.fold4 at Hnext
      generalize x ^^^ cb = y1 at *
      have e2 := and15 y1 hy1
      have hz1 : y1 % 16 < 16 := Nat.mod_lt _ (by omega)
      have g1 := hHw.out (y1 % 16) hz1
      have e3 := xor_half y1 _ hy1 (Frm.half_lt (y1 % 16))
      have hy2 : y1 / 16 ^^^ Frm.half.getD (y1 % 16) 0 < 4294967296 := Frm.xor_lt (by omega) (Frm.half_lt _)
      generalize Frm.half.getD (y1 % 16) 0 = h1 at *
      generalize y1 % 16 = z1 at *
      generalize y1 / 16 ^^^ h1 = y2 at *
      have e4 := and15 y2 hy2
      have hz2 : y2 % 16 < 16 := Nat.mod_lt _ (by omega)
      have g2 := hHw.out (y2 % 16) hz2
      have e5 := xor_half y2 _ hy2 (Frm.half_lt (y2 % 16))
      generalize Frm.half.getD (y2 % 16) 0 = h2 at *
      generalize y2 % 16 = z2 at *
      generalize y2 / 16 ^^^ h2 = y3 at *
      have hcm : (cb : Int) % 4294967296 = (cb : Int) := by omega
      have hz1i : (z1 : Int) < 16 := by omega
      have hz2i : (z2 : Int) < 16 := by omega
      clear hxlt hy1 hy2 hcb
      go_wp2
      go_roundg (l.length - (i + 1))
      case measure => omega
      case rel => exact ⟨i + 1, rfl, Nat.succ_le_of_lt hi', by first | rfl | go_num, by rw [Hnext.out], rfl⟩
    · obtain rfl : i = l.length := by omega
      have hic : ¬ (l.length : Int) < (l.length : Int) := by omega
      rw [List.take_length] at *
      have hn2 := not_u32 _ hxlt
      have hfin : Frm.crcAdd s l = 4294967295 - l.foldl Frm.crcStep t0 := by unfold Frm.crcAdd; rw [Ht0.out]
      rw [← hfin] at hn2
      generalize l.foldl Frm.crcStep t0 = x at *
      clear hi hi' hxlt hfin
      go_wp2
      go_ret
      exact ⟨_, rfl, rfl, rfl⟩
theorem crc_c (l : Bs) (hH : Ro w0 F Half) (hr : Ro w0 F (rdsl 1 bv (bys l))) (h : Sat w0 w F) (hl : l.length ≤ 1099511627776) :
    Calls Tryd.prog 73 #[bv] w (Rtn fun v w' => v = .int .u32 (Frm.crc l : Nat) ∧ w = w') := by
  have ha := crcAdd_c 0 (by omega) l hH hr h hl
  have hcast : ((0 : Nat) : Int) = 0 := rfl
  rw [hcast] at ha
  clear hcast
  obtain ⟨a, n, c, rfl, hn, _⟩ := id (hr w h)
  go_enter Tryd.func73, Tryd.ntmps73
  go_wp2_with fail
  refine ha.mono ?_
  rintro e w1 ⟨v, rfl, rfl, rfl⟩
  clear ha
  go_wp2
  go_ret
  exact ⟨_, rfl, rfl, rfl⟩
end
end Go.Proofs.YtdhhbajggafdhaaDoor
