import Derived.Test.YtdhhbajggafdhaaMed28
/- Rot. -/
namespace Go.Proofs.Ytdhhbajggafdhaa
open Go Go.Sl Go.Med Go.MapKept Go.RowKit
set_option linter.unusedVariables false
section
variable {w0 w : World} {F : List HProp} {m fb nb b r : Nat} {M : Med} {bs : List Nat} {wv v bv dv : Value} {s : ByteArray} {fs : List Fil} {K : Nat} {f : Fil}
theorem rotF_c (h : Sat w0 w (FilRep b f :: F)) (hf : f.Ok K) (hK : K ≤ 1099511627776) (at_ : Int) (y : UInt8) :
    Calls Try.prog 73 #[ptr b, .int .i64 at_, .int .u8 y.toNat] w
      (Rtn fun v w' => v = .bool (decide (¬ (at_ < 0 ∨ (f.now.length : Int) ≤ at_))) ∧ Sat w0 w' (FilRep b (if at_ < 0 ∨ (f.now.length : Int) ≤ at_ then f else f.rot at_.toNat y) :: F)) := by
  by_cases ho : at_ < 0 ∨ (f.now.length : Int) ≤ at_
  · have := rot_out h hf at_ y ho
    simp only [ho, not_true, decide_false, if_true]
    exact this
  · obtain ⟨k, rfl⟩ := Int.eq_ofNat_of_zero_le (show 0 ≤ at_ by omega)
    have := rot_in h hf hK k y (by omega)
    simp only [ho, not_false_iff, decide_true, if_false]
    exact this
set_option maxHeartbeats 1000000 in
theorem rot_c (hM : M.Ok K) (hK : K ≤ 1099511627776) (h : Sat w0 w (MedRep m M :: F)) (s : ByteArray) (at_ : Int) (y : UInt8) :
    Calls Try.prog 56 #[ptr m, .string s, .int .i64 at_, .int .u8 y.toNat] w (Rtn fun v w' => v = .bool (M.rot s at_ y).2 ∧ Sat w0 w' (MedRep m (M.rot s at_ y).1 :: F)) := by
  obtain ⟨bs, fb, nb, wv, hl, hR⟩ := MedRep.open h
  have c2 := hR.cellAt 2 _ rfl
  have hlk := look_names (s := s) (hR.pick1)
  cases hn : nget M.now s with
  | none =>
    rw [fptr, hn] at hlk
    simp only at hlk
    have Hfin : Hid (M.rot s at_ y = (M, false)) := by show _ = _; simp [Med.rot, hn]
    clear hn
    go_enter Try.func56, Try.ntmps56
    go_wp2
    go_ret
    exact ⟨.bool false, rfl, by rw [Hfin.out], by rw [Hfin.out]; exact h⟩
  | some i =>
    rw [fptr, hn] at hlk
    simp only at hlk
    have hid : i < M.files.length := hM.nowOk.ids (s, i) (nget_mem hn)
    obtain ⟨G, h1, h2⟩ := raw_file hl hid hR
    obtain ⟨fv, nv, wv', ws, hws, h3⟩ := FilRep.open h1
    have hok := hM.file i
    have hrd := Sat.rd (h3.sel 3 [2] rfl rfl)
    have hcl := clone_c h3 hrd (by have := hok.now_len; omega)
    have fc0 := h3.cellAt 1 _ rfl
    have Hfin : Hid (M.rot s at_ y = if at_ < 0 ∨ ((M.file i).now.length : Int) ≤ at_ then (M, false) else (M.setFile i ((M.file i).rot at_.toNat y), true)) := by
      show _ = _
      simp only [Med.rot, hn]
    have H1 := Lib.hid h1
    have H2 := Lib.hid h2; have Hok := Lib.hid hok; have Hws := Lib.hid hws
    clear hn h1 h2 hok hws hrd
    generalize hq : bs.getD i 0 = q at *
    go_enter Try.func56, Try.ntmps56
    go_wp2_with fail
    refine hcl.mono ?_
    rintro e w1 ⟨v', rfl, hS3, a3, n3, k3, rfl⟩
    have hP := hS3.pick1
    have f1 := hP.freeAt 1
    have c1 := hP.cellAt 1 _ rfl
    have hP2 := (hP.set 1 (.slice a3 n3 k3)).sel 4 [0, 2, 1] rfl rfl
    have hF : Sat w0 _ (FilRep q (M.file i) :: _) := FilRep.shut (fv := fv) (nv := .slice a3 n3 k3) (wv := wv') (ws := ws) Hws.out hP2
    have hrot := rotF_c hF Hok.out hK at_ y
    generalize hB : decide (¬ (at_ < 0 ∨ ((M.file i).now.length : Int) ≤ at_)) = B at hrot
    have HB := Lib.hid hB; clear hB
    clear hcl fc0 hP hP2 hS3
    go_wp2_with fail
    refine hrot.mono ?_
    rintro e w2 ⟨v, rfl, rfl, hS4⟩
    clear hrot f1 c1
    go_wp2
    go_ret
    refine ⟨.bool B, rfl, ?_, ?_⟩
    · rw [Hfin.out, ← HB.out]
      by_cases ho : at_ < 0 ∨ ((M.file i).now.length : Int) ≤ at_
      · rw [if_pos ho, decide_eq_false (fun hh => hh ho)]
      · rw [if_neg ho, decide_eq_true ho]
    · rw [Hfin.out]
      split
      · rename_i ho
        rw [if_pos ho] at hS4
        have := H2.out w2 _ hS4
        have e : M.setFile i (M.file i) = M := by
          unfold Med.setFile Med.file
          rw [List.getD_eq_getElem?_getD, List.getElem?_eq_getElem hid]
          simp
        rw [e] at this; exact this
      · rename_i ho
        rw [if_neg ho] at hS4
        exact H2.out w2 _ hS4
end
end Go.Proofs.Ytdhhbajggafdhaa
