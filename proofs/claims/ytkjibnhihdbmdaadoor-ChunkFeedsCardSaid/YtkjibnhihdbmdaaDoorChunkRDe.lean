/-
  The reference gaugerref19: Decode.
-/
import Derived.Test.YtkjibnhihdbmdaaDoorChunkRa
import Derived.BigQuiet
set_option linter.unusedVariables false
set_option linter.unusedSimpArgs false
namespace Go.Proofs.YtkjibnhihdbmdaaDoor
open Go.RowKit
set_option maxRecDepth 100000 in
set_option maxHeartbeats 1000000 in
theorem rdecode_at (A : Option Addr) (c L : Nat) (l : List UInt8) (w : World) (n e bl : Nat) (B : List UInt8) (hn : (goR newR l 0).2 = n) (he : decE (goR newR l 0).1 = e) (hB : decB (goR newR l 0).1 = B) (hbl : B.length = bl) (hL : l.length = L) (h : Rd w w.heap.size A L (bc l)) (hc : L ≤ c) (hL2 : L ≤ 140737488355328) :
    Calls Tryd.prog 35 #[.slice A L c] w fun en w' => ∃ A' c', en = .returned (.tuple #[.slice A' bl c', .int .i64 (n : Int), .int .i64 (e : Int)]) ∧ bl ≤ c' ∧ Rd w' w'.heap.size A' bl (bc B) ∧ Below w.heap.size w w' := by
  obtain ⟨R, hR⟩ : ∃ R, R = allL (L + 1) l 0 [] := ⟨_, rfl⟩
  have hfin : finR (goR newR l 0) = R := by rw [hR]; exact go_all (L + 1) l newR 0 (by omega) rfl rfl rfl
  have h1 : n = R.At := by rw [← hfin, ← hn]; rfl
  have h2 : (goR newR l 0).1.bad = R.bad := by rw [← hfin]; rfl
  have h3 : decide ((goR newR l 0).1.st = .nil ∧ (goR newR l 0).1.bad = 0) = R.done := by rw [← hfin]; rfl
  have h4 : (goR newR l 0).1.body = R.body := by rw [← hfin]; rfl
  subst h1
  have HR := Lib.hid h
  have HL := Lib.hid hL
  have HRd := Lib.hid hR
  clear hfin hn h hL hR
  obtain ⟨at_, bad, done, body, trs⟩ := R
  simp only at h2 h3 h4
  unfold decE at he
  unfold decB decE at hB
  rw [h2] at he hB h3
  rw [h4] at hB
  by_cases hb : bad = 0
  · subst hb
    simp only [ne_eq, not_true, if_false, and_true] at he hB h3
    by_cases hs : (goR newR l 0).1.st = .nil
    · simp only [hs, if_true, decide_true] at he hB h3
      subst he hB h3 hbl
      clear h2 h4 hs
      go_enter Tryd.func35, Tryd.ntmps35
      go_upto_region 6 with (go_at_call 46; refine (all_at A c L l w HL.out HR.out hc hL2 (L + 1) (by omega)).mono ?_; rw [← HRd.out]; rintro e w1 ⟨hb1, Ab, cb, At, ct, hcb, hct, rfl, hrb, hrt⟩; have HB1 := Lib.hid hb1; have HRb := Lib.hid hrb; clear hb1 hrb hrt)
      have hx := Bx.new w1 [.int .i64 (at_ : Int), .int .i64 0, .bool true, .slice Ab body.length cb, .slice At trs.length ct]
      obtain ⟨hc0, hc1, hc2, hc3, hc4⟩ := hx.cells
      go_quiet (fail)
      go_wp2
      go_ret3
      exact ⟨Ab, cb, rfl, hcb, rd_dr (rd_top (owE_rd HRb.out) _), below_dn (HB1.out.alloc HB1.out.size _) nq⟩
    · simp only [hs, if_false, decide_false] at he hB h3
      subst he h3
      have hB0 : B = [] := by rw [← hB]; simp
      subst hB0 hbl
      clear h2 h4 hs hB
      go_enter Tryd.func35, Tryd.ntmps35
      go_upto_region 5 with (go_at_call 46; refine (all_at A c L l w HL.out HR.out hc hL2 (L + 1) (by omega)).mono ?_; rw [← HRd.out]; rintro e w1 ⟨hb1, Ab, cb, At, ct, hcb, hct, rfl, hrb, hrt⟩; have HB1 := Lib.hid hb1; have HRb := Lib.hid hrb; clear hb1 hrb hrt)
      have hx := Bx.new w1 [.int .i64 (at_ : Int), .int .i64 0, .bool false, .slice Ab body.length cb, .slice At trs.length ct]
      obtain ⟨hc0, hc1, hc2, hc3, hc4⟩ := hx.cells
      go_quiet (fail)
      go_wp2
      go_ret3
      exact ⟨none, 0, rfl, Nat.le_refl _, Rd.nil _ _ _, below_dn (HB1.out.alloc HB1.out.size _) nq⟩
  · have hn1 : ((bad : Int) != 0) = true := bne_iff_ne.2 (by omega)
    rw [if_pos hb] at he
    have hB0 : B = [] := by rw [← hB, if_neg]; rw [if_pos hb]; exact hb
    subst hB0 hbl he
    clear h2 h3 h4 hB hb
    go_enter Tryd.func35, Tryd.ntmps35
    go_upto_region 3 with (go_at_call 46; refine (all_at A c L l w HL.out HR.out hc hL2 (L + 1) (by omega)).mono ?_; rw [← HRd.out]; rintro e w1 ⟨hb1, Ab, cb, At, ct, hcb, hct, rfl, hrb, hrt⟩; have HB1 := Lib.hid hb1; have HRb := Lib.hid hrb; clear hb1 hrb hrt)
    have hx := Bx.new w1 [.int .i64 (at_ : Int), .int .i64 (bad : Int), .bool done, .slice Ab body.length cb, .slice At trs.length ct]
    obtain ⟨hc0, hc1, hc2, hc3, hc4⟩ := hx.cells
    go_quiet (fail)
    go_wp2
    go_ret3
    exact ⟨none, 0, rfl, Nat.le_refl _, Rd.nil _ _ _, below_dn (HB1.out.alloc HB1.out.size _) nq⟩
end Go.Proofs.YtkjibnhihdbmdaaDoor
