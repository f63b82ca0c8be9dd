/-
  The reference of layer 16: piece.
-/
import Derived.Test.YtnfgcfljjmjmpaaRefPP
import Derived.Test.YtnfgcfljjmjmpaaRefT
set_option linter.unusedVariables false
set_option linter.unusedSimpArgs false
namespace Go.Proofs.Ytnfgcfljjmjmpaa
open Go.RowKit
theorem getD_some (s : List UInt8) (k : Nat) (h : k < s.length) : s[k]? = some (s.getD k 0) := by
  rw [List.getD_eq_getElem?_getD, List.getElem?_eq_getElem h]; rfl
theorem acc_lt (s : List UInt8) : ∀ k : Nat, (∀ j, 1 ≤ j → j ≤ k → digOk s j = true) → acc s k + 1 ≤ 10 ^ k
  | 0, _ => by simp [acc]
  | k + 1, h => by
    have ih := acc_lt s k (fun j h1 h2 => h j h1 (by omega))
    have hd := h (k + 1) (by omega) (by omega)
    simp only [digOk, Bool.and_eq_true, decide_eq_true_eq] at hd
    simp only [acc, Nat.pow_succ]
    omega
theorem piece_big (s : List UInt8) (h92 : s.getD 0 0 = 92) (h2 : ¬ (1 < s.length ∧ (s.getD 1 0 = 46 ∨ s.getD 1 0 = 92))) (h4 : ¬ s.length < 4) :
    pieceN s = if digOk s 1 && digOk s 2 && digOk s 3 then (if 255 < acc s 3 ∨ (33 ≤ acc s 3 ∧ acc s 3 ≤ 126) then (0, 0) else (UInt8.ofNat (acc s 3), 4)) else (0, 0) := by
  unfold pieceN
  rw [if_neg (by rw [h92]; simp), if_neg h2, if_neg h4]
theorem ret_p {a : UInt8} {b : Nat} {x y : Int} {p : UInt8 × Nat} (h : p = (a, b)) (hx : (a.toNat : Int) = x) (hy : (b : Int) = y) : Ending.returned (.tuple #[.int .u8 x, .int .i64 y]) = .returned (.tuple #[.int .u8 (p.1.toNat : Int), .int .i64 (p.2 : Int)]) := by
  rw [h, ← hx, ← hy]
set_option maxRecDepth 100000 in
set_option maxHeartbeats 1000000 in
theorem piece_any (s : List UInt8) (w : World) (hne : 0 < s.length) (hl : s.length ≤ 140737488355328) :
    Calls Try.prog 69 #[.string ⟨s.toArray⟩] w fun e w' => e = .returned (.tuple #[.int .u8 ((pieceN s).1.toNat : Int), .int .i64 ((pieceN s).2 : Int)]) ∧ w' = w := by
  have ix0 : ∀ W, (Instr.index 9 (.string ⟨s.toArray⟩) (.int .i64 0)).run Try.prog W = .ok (.int .u8 ((s.getD 0 0).toNat : Int)) W := fun W => idxStr W s 0 (s.getD 0 0) (getD_some s 0 hne)
  by_cases h92 : s.getD 0 0 = 92
  · have t0 : (((s.getD 0 0).toNat : Int) != 92) = false := by rw [h92]; rfl
    have H92 := Lib.hid h92
    clear h92
    generalize hc0 : ((s.getD 0 0).toNat : Int) = c0 at ix0 t0
    clear hc0
    by_cases h1 : 1 < s.length
    · have ix1 : ∀ W, (Instr.index 9 (.string ⟨s.toArray⟩) (.int .i64 1)).run Try.prog W = .ok (.int .u8 ((s.getD 1 0).toNat : Int)) W := fun W => idxStr W s 1 (s.getD 1 0) (getD_some s 1 h1)
      have d1 : decide (1 < s.length) = true := by simp; omega
      by_cases h46 : s.getD 1 0 = 46
      · have hp : pieceN s = (s.getD 1 0, 2) := by unfold pieceN; rw [if_neg (by rw [H92.out]; simp), if_pos ⟨h1, .inl h46⟩]
        have t1 : (((s.getD 1 0).toNat : Int) == 46) = true := by rw [h46]; rfl
        have HP := Lib.hid hp
        clear hp h46
        generalize hx : s.getD 1 0 = x at ix1 t1 HP
        clear hx
        go_enter Try.func69, Try.ntmps69
        go_wp2
        go_ret2
        exact ⟨ret_p HP.out rfl rfl, rfl⟩
      · have t1 : (((s.getD 1 0).toNat : Int) == 46) = false := by
          have : (s.getD 1 0).toNat ≠ 46 := fun h => h46 (u8_eq.2 h)
          exact beq_eq_false_iff_ne.2 (by omega)
        by_cases h92' : s.getD 1 0 = 92
        · have hp : pieceN s = (s.getD 1 0, 2) := by unfold pieceN; rw [if_neg (by rw [H92.out]; simp), if_pos ⟨h1, .inr h92'⟩]
          have t2 : (((s.getD 1 0).toNat : Int) == 92) = true := by rw [h92']; rfl
          have HP := Lib.hid hp
          clear hp h92' h46
          generalize hx : s.getD 1 0 = x at ix1 t1 t2 HP
          clear hx
          go_enter Try.func69, Try.ntmps69
          go_wp2
          go_ret2
          exact ⟨ret_p HP.out rfl rfl, rfl⟩
        · have t2 : (((s.getD 1 0).toNat : Int) == 92) = false := by
            have : (s.getD 1 0).toNat ≠ 92 := fun h => h92' (u8_eq.2 h)
            exact beq_eq_false_iff_ne.2 (by omega)
          have h2 : ¬ (1 < s.length ∧ (s.getD 1 0 = 46 ∨ s.getD 1 0 = 92)) := by rintro ⟨_, h | h⟩; exact h46 h; exact h92' h
          by_cases h4 : s.length < 4
          · have hp : pieceN s = (0, 0) := by unfold pieceN; rw [if_neg (by rw [H92.out]; simp), if_neg h2, if_pos h4]
            have d4 : decide (s.length < 4) = true := by simp; omega
            have HP := Lib.hid hp
            clear hp h92' h46 h2
            generalize hx : ((s.getD 1 0).toNat : Int) = x at ix1 t1 t2
            clear hx
            go_enter Try.func69, Try.ntmps69
            go_wp2
            go_ret2
            exact ⟨ret_p HP.out rfl rfl, rfl⟩
          · have hp := piece_big s H92.out h2 h4
            have d4 : decide (s.length < 4) = false := by simp; omega
            have HP := Lib.hid hp
            clear hp h92' h46 h2
            generalize hx : ((s.getD 1 0).toNat : Int) = x at ix1 t1 t2
            clear hx
            go_enter Try.func69, Try.ntmps69
            go_wp2
            clear ix0 ix1
            go_loop [4, 5] (fun vx vi => ∃ k : Nat, k ≤ 3 ∧ vi = .int .i64 ((k : Int) + 1) ∧ vx = .int .i64 (acc s k) ∧ Hid (∀ j, 1 ≤ j → j ≤ k → digOk s j = true)) (fun _ vi => 4 - (intOf vi).toNat)
            case atStart => exact ⟨0, by omega, rfl, rfl, fun j h5 h6 => by omega⟩
            case round =>
              obtain ⟨k, hk, rfl, rfl, HD⟩ := hrel
              have ha := acc_lt s k HD.out
              have ha3 : acc s k ≤ 999 := by
                have : 10 ^ k ≤ 10 ^ 3 := Nat.pow_le_pow_right (by omega) hk
                omega
              clear ha
              by_cases hk3 : k < 3
              · have ixk : ∀ W, (Instr.index 9 (.string ⟨s.toArray⟩) (.int .i64 ((k : Int) + 1))).run Try.prog W = .ok (.int .u8 ((s.getD (k + 1) 0).toNat : Int)) W := fun W => idxStr W s (k + 1) (s.getD (k + 1) 0) (getD_some s (k + 1) (by omega))
                have hacc : acc s (k + 1) = 10 * acc s k + (s.getD (k + 1) 0).toNat - 48 := rfl
                have hfail : digOk s (k + 1) = false → pieceN s = (0, 0) := by
                  intro hf
                  rw [HP.out]
                  have : (digOk s 1 && digOk s 2 && digOk s 3) = false := by
                    rcases k with _ | _ | _ | k
                    · simp [hf]
                    · simp [hf]
                    · simp [hf]
                    · omega
                  rw [this]; rfl
                have hdig : digOk s (k + 1) = (decide (48 ≤ (s.getD (k + 1) 0).toNat) && decide ((s.getD (k + 1) 0).toNat ≤ 57)) := rfl
                have hcl := UInt8.toNat_lt (s.getD (k + 1) 0)
                generalize (s.getD (k + 1) 0).toNat = c at ixk hacc hdig hcl
                have HA := Lib.hid hacc
                have HDG := Lib.hid hdig
                have HFL := Lib.hid hfail
                clear hacc hdig hfail
                by_cases hc48 : c < 48
                · have b1 : decide ((c : Int) < 48) = true := by simp; omega
                  have hp := HFL.out (by rw [HDG.out, decide_eq_false (show ¬ 48 ≤ c by omega)]; rfl)
                  have HP2 := Lib.hid hp
                  clear hp
                  go_wp2
                  go_ret2
                  exact ⟨ret_p HP2.out rfl rfl, rfl⟩
                · have b1 : decide ((c : Int) < 48) = false := by simp; omega
                  by_cases hc57 : 57 < c
                  · have b2 : decide (57 < (c : Int)) = true := by simp; omega
                    have hp := HFL.out (by rw [HDG.out, decide_eq_false (show ¬ c ≤ 57 by omega), Bool.and_false])
                    have HP2 := Lib.hid hp
                    clear hp
                    go_wp2
                    go_ret2
                    exact ⟨ret_p HP2.out rfl rfl, rfl⟩
                  · have b2 : decide (57 < (c : Int)) = false := by simp; omega
                    have hd2 : Hid (∀ j, 1 ≤ j → j ≤ k + 1 → digOk s j = true) := fun j h5 h6 => by
                      rcases Nat.lt_or_ge j (k + 1) with h7 | h7
                      · exact HD.out j h5 (by omega)
                      · rw [show j = k + 1 by omega, HDG.out, decide_eq_true (show 48 ≤ c by omega), decide_eq_true (show c ≤ 57 by omega)]; rfl
                    go_wp2
                    go_round
                    case rel => exact ⟨k + 1, by omega, by go_num, by rw [HA.out]; go_num, hd2⟩
                    case measure => simp [intOf]; omega
              · have hk' : k = 3 := by omega
                subst hk'
                have hall : (digOk s 1 && digOk s 2 && digOk s 3) = true := by
                  rw [HD.out 1 (by omega) (by omega), HD.out 2 (by omega) (by omega), HD.out 3 (by omega) (by omega)]; rfl
                have hp := HP.out
                rw [if_pos hall] at hp
                clear hall hk3 hk
                generalize acc s 3 = x at hp ha3
                by_cases hb : 255 < x ∨ (33 ≤ x ∧ x ≤ 126)
                · rw [if_pos hb] at hp
                  have HP2 := Lib.hid hp
                  clear hp
                  rcases hb with hb | hb
                  · have b1 : decide (255 < (x : Int)) = true := by simp; omega
                    go_wp2
                    go_ret2
                    exact ⟨ret_p HP2.out rfl rfl, rfl⟩
                  · obtain ⟨hb1, hb2⟩ := hb
                    have b1 : decide (255 < (x : Int)) = false := by simp; omega
                    have b2 : decide (33 ≤ (x : Int)) = true := by simp; omega
                    have b3 : decide ((x : Int) ≤ 126) = true := by simp; omega
                    go_wp2
                    go_ret2
                    exact ⟨ret_p HP2.out rfl rfl, rfl⟩
                · rw [if_neg hb] at hp
                  have HP2 := Lib.hid hp
                  have hx255 : x ≤ 255 := by omega
                  have hxn : ((UInt8.ofNat x).toNat : Int) = (x : Int) := by rw [UInt8.toNat_ofNat']; omega
                  have HXN := Lib.hid hxn
                  have b1 : decide (255 < (x : Int)) = false := by simp; omega
                  clear hp hxn
                  by_cases hx33 : 33 ≤ x
                  · have b2 : decide (33 ≤ (x : Int)) = true := by simp; omega
                    have b3 : decide ((x : Int) ≤ 126) = false := by simp; omega
                    clear hb
                    go_wp2
                    go_ret2
                    exact ⟨ret_p HP2.out HXN.out rfl, rfl⟩
                  · have b2 : decide (33 ≤ (x : Int)) = false := by simp; omega
                    clear hb
                    go_wp2
                    go_ret2
                    exact ⟨ret_p HP2.out HXN.out rfl, rfl⟩
    · have hp : pieceN s = (0, 0) := by unfold pieceN; rw [if_neg (by rw [H92.out]; simp), if_neg (by omega), if_pos (by omega)]
      have d1 : decide (1 < s.length) = false := by simp; omega
      have d4 : decide (s.length < 4) = true := by simp; omega
      have HP := Lib.hid hp
      clear hp
      go_enter Try.func69, Try.ntmps69
      go_wp2
      go_ret2
      exact ⟨ret_p HP.out rfl rfl, rfl⟩
  · have t0 : (((s.getD 0 0).toNat : Int) != 92) = true := by
      have : (s.getD 0 0).toNat ≠ 92 := fun h => h92 (u8_eq.2 h)
      exact bne_iff_ne.2 (by omega)
    have hp : pieceN s = (s.getD 0 0, 1) := by unfold pieceN; rw [if_pos h92]
    have HP := Lib.hid hp
    clear hp h92
    generalize hx : s.getD 0 0 = x at ix0 t0 HP
    clear hx
    go_enter Try.func69, Try.ntmps69
    go_wp2
    go_ret2
    exact ⟨ret_p HP.out rfl rfl, rfl⟩
end Go.Proofs.Ytnfgcfljjmjmpaa
