/-
  The reference of layer 16: label, Compare, same, Under.
-/
import Derived.Test.YtmhehgalfmdldaaOrder
import Derived.Test.YtmhehgalfmdldaaRef2
set_option linter.unusedVariables false
set_option linter.unusedSimpArgs false
namespace Go.Proofs.Ytmhehgalfmdldaa
open Go.RowKit
theorem cmpB_at (a b : List UInt8) (k : Nat) (ha : k < a.length) (hb : k < b.length) : Lib.compareBytes (a.drop k) (b.drop k) = if a[k] < b[k] then -1 else if b[k] < a[k] then 1 else Lib.compareBytes (a.drop (k + 1)) (b.drop (k + 1)) := by
  rw [List.drop_eq_getElem_cons ha, List.drop_eq_getElem_cons hb, Lib.compareBytes]
set_option maxRecDepth 100000 in
set_option maxHeartbeats 400000 in
theorem rlabel_any (a b : List UInt8) (w : World) (ha : a.length ≤ 140737488355328) (hb : b.length ≤ 140737488355328) :
    Calls Try.prog 99 #[.string ⟨a.toArray⟩, .string ⟨b.toArray⟩] w fun e w' => e = .returned (.int .i64 (Lib.compareBytes a b)) ∧ ∃ q, w' = w.drewN q := by
  go_enter Try.func99, Try.ntmps99
  go_wp2_with fail
  go_loopw [5] (fun i wr => ∃ k q : Nat, k ≤ a.length ∧ k ≤ b.length ∧ i = .int .i64 k ∧ Hid (Lib.compareBytes (a.drop k) (b.drop k) = Lib.compareBytes a b) ∧ wr = w.drewN q) (fun i _ => a.length - (intOf i).toNat)
  case atStart => exact ⟨0, 0, by omega, by omega, rfl, rfl, rfl⟩
  case round =>
    obtain ⟨k, q, hk1, hk2, rfl, HR, hwr⟩ := hrel
    have HW := Lib.hid hwr
    clear hwr
    by_cases hlt : k < a.length ∧ k < b.length
    · obtain ⟨hka, hkb⟩ := hlt
      have ix := fun W => idxStr W a k a[k] (by simp [hka])
      have iy := fun W => idxStr W b k b[k] (by simp [hkb])
      have e := HR.out
      rw [cmpB_at a b k hka hkb] at e
      have l1 : a[k] < b[k] ↔ (a[k].toNat : Int) < (b[k].toNat : Int) := by rw [UInt8.lt_iff_toNat_lt]; omega
      have l2 : b[k] < a[k] ↔ (b[k].toNat : Int) < (a[k].toNat : Int) := by rw [UInt8.lt_iff_toNat_lt]; omega
      generalize a[k] = x at ix e l1 l2
      generalize b[k] = y at iy e l1 l2
      by_cases hxy : (x.toNat : Int) = (y.toNat : Int)
      · rw [if_neg (by rw [l1]; omega), if_neg (by rw [l2]; omega)] at e
        have b1 : ((x.toNat : Int) != (y.toNat : Int)) = false := by simp; omega
        have E := Lib.hid e
        clear e l1 l2 hxy
        go_wp2_with fail
        go_quiet (fail)
        go_wp2_with fail
        go_roundw
        case rel => exact ⟨k + 1, q + nq, by omega, by omega, by go_num, E.out, by rw [HW.out]; simp⟩
        case measure => simp [intOf]; omega
      · have b1 : ((x.toNat : Int) != (y.toNat : Int)) = true := by simp; omega
        by_cases hlt2 : (x.toNat : Int) < (y.toNat : Int)
        · rw [if_pos (l1.2 hlt2)] at e
          have b2 : decide ((x.toNat : Int) < (y.toNat : Int)) = true := decide_eq_true hlt2
          have E := Lib.hid e
          clear e l1 l2 hxy
          go_wp2_with fail
          go_quiet (fail)
          go_wp2_with fail
          go_quiet (fail)
          go_wp2_with fail
          go_ret
          exact ⟨ret_int E.out, _, by rw [HW.out]; simp; rfl⟩
        · rw [if_neg (by rw [l1]; omega), if_pos (by rw [l2]; omega)] at e
          have b2 : decide ((x.toNat : Int) < (y.toNat : Int)) = false := decide_eq_false hlt2
          have E := Lib.hid e
          clear e l1 l2 hxy
          go_wp2_with fail
          go_quiet (fail)
          go_wp2_with fail
          go_quiet (fail)
          go_wp2_with fail
          go_ret
          exact ⟨ret_int E.out, _, by rw [HW.out]; simp; rfl⟩
    · have e := HR.out
      by_cases hka : k < a.length
      · have hkb : k = b.length := by omega
        subst hkb
        rw [List.drop_length, List.drop_eq_getElem_cons hka, Lib.compareBytes] at e
        have E := Lib.hid e
        clear e
        go_wp2
        go_ret
        exact ⟨ret_int E.out, q, HW.out⟩
      · have hkb : k = a.length := by omega
        subst hkb
        rw [List.drop_length] at e
        by_cases hkb : a.length < b.length
        · rw [List.drop_eq_getElem_cons hkb, Lib.compareBytes] at e
          have E := Lib.hid e
          clear e
          go_wp2
          go_ret
          exact ⟨ret_int E.out, q, HW.out⟩
        · rw [List.drop_eq_nil_of_le (by omega), Lib.compareBytes] at e
          have E := Lib.hid e
          clear e
          go_wp2
          go_ret
          exact ⟨ret_int E.out, q, HW.out⟩

set_option maxRecDepth 100000 in
set_option maxHeartbeats 400000 in
theorem rcmp_any (A1 A2 : Option Addr) (c1 c2 : Nat) (a b : List (List UInt8)) (w : World) (B : Nat) (h1 : Rd w B A1 a.length (sc a)) (h2 : Rd w B A2 b.length (sc b)) (hl : a.length ≤ 140737488355328) (hm : b.length ≤ 140737488355328) (hx : ∀ x ∈ a, x.length ≤ 140737488355328) (hy : ∀ x ∈ b, x.length ≤ 140737488355328) :
   
    Calls Try.prog 87 #[.slice A1 a.length c1, .slice A2 b.length c2] w fun e w' => e = .returned (.int .i64 (cmpN a b)) ∧ ∃ q, w' = w.drewN q := by
  have HX := Lib.hid hx
  have HY := Lib.hid hy
  clear hx hy
  go_enter Try.func87, Try.ntmps87
  go_wp2_with fail
  go_loopw [5] (fun i wr => ∃ k q : Nat, k ≤ a.length ∧ k ≤ b.length ∧ i = .int .i64 ((k : Int) + 1) ∧ Hid (cmpR (a.reverse.drop k) (b.reverse.drop k) = cmpN a b) ∧ wr = w.drewN q) (fun i _ => a.length + 1 - (intOf i).toNat)
  case atStart => exact ⟨0, 0, by omega, by omega, rfl, rfl, rfl⟩
  case round =>
    obtain ⟨k, q, hk1, hk2, rfl, HR, hwr⟩ := hrel
    have r1 : Rd wr B A1 a.length (sc a) := by rw [hwr]; exact h1
    have r2 : Rd wr B A2 b.length (sc b) := by rw [hwr]; exact h2
    have HW := Lib.hid hwr
    clear hwr h1 h2
    by_cases hlt : k < a.length ∧ k < b.length
    · obtain ⟨hka, hkb⟩ := hlt
      obtain ⟨b1, o1, rfl, _, k1⟩ := r1.at_ (show 0 < a.length by omega)
      obtain ⟨b2, o2, rfl, _, k2⟩ := r2.at_ (show 0 < b.length by omega)
      have g1 := k1 (a.length - (k + 1)) _ (sc_get a (a.length - (k + 1)) (by omega))
      have g2 := k2 (b.length - (k + 1)) _ (sc_get b (b.length - (k + 1)) (by omega))
      have er1 : a.reverse.drop k = a[a.length - (k + 1)] :: a.reverse.drop (k + 1) := by
        rw [List.drop_eq_getElem_cons (by simpa using hka), List.getElem_reverse]
        congr 2; omega
      have er2 : b.reverse.drop k = b[b.length - (k + 1)] :: b.reverse.drop (k + 1) := by
        rw [List.drop_eq_getElem_cons (by simpa using hkb), List.getElem_reverse]
        congr 2; omega
      have e := HR.out
      rw [er1, er2, cmpR] at e
      have g1' := List.getElem_mem (show a.length - (k + 1) < a.length by omega)
      have g2' := List.getElem_mem (show b.length - (k + 1) < b.length by omega)
      generalize a[a.length - (k + 1)] = x at g1 e g1'
      generalize b[b.length - (k + 1)] = y at g2 e g2'
      have hcon := fun W => rlabel_any x y W (HX.out _ g1' ) (HY.out _ g2')
      have HC := Lib.hid hcon
      clear hcon er1 er2 k1 k2
      have w1 : IntKind.i64.wrap ((a.length : Int) - ((k : Int) + 1)) = (a.length : Int) - ((k : Int) + 1) := IntWalk.i64_in _ (by omega)
      have w2 : IntKind.i64.wrap ((b.length : Int) - ((k : Int) + 1)) = (b.length : Int) - ((k : Int) + 1) := IntWalk.i64_in _ (by omega)
      have w3 : 0 ≤ (a.length : Int) - ((k : Int) + 1) := by omega
      have w4 : 0 ≤ (b.length : Int) - ((k : Int) + 1) := by omega
      have w5 : (a.length : Int) - ((k : Int) + 1) < (a.length : Int) := by omega
      have w6 : (b.length : Int) - ((k : Int) + 1) < (b.length : Int) := by omega
      have w7 : ((a.length : Int) - ((k : Int) + 1)).toNat = a.length - (k + 1) := by omega
      have w8 : ((b.length : Int) - ((k : Int) + 1)).toNat = b.length - (k + 1) := by omega
      have w9 : (k : Int) + 1 ≤ (a.length : Int) := by omega
      have w10 : (k : Int) + 1 ≤ (b.length : Int) := by omega
      have w11 : (0 : Int) < (k : Int) + 1 := by omega
      have w12 : k + 1 ≤ a.length := by omega
      have w13 : k + 1 ≤ b.length := by omega
      go_wp2_with fail
      generalize Lib.compareBytes x y = cmp at HC e
      go_quiet ((go_at_call 99; exact Calls.quiet_of (HC.out _)))
      clear w1 w2 w3 w4 w5 w6 w7 w8 w9 w10 w11 w12 w13
      by_cases hc0 : cmp = 0
      · rw [if_pos hc0] at e
        have E := Lib.hid e
        clear e
        subst hc0
        go_wp2
        go_roundw
        case rel => exact ⟨k + 1, q + nq, by omega, by omega, by go_num, E.out, by rw [HW.out]; simp⟩
        case measure => simp [intOf]; omega
      · rw [if_neg hc0] at e
        have E := Lib.hid e
        have hc0' : (cmp == 0) = false := by simp [hc0]
        have hc0'' : (cmp != 0) = true := by simp [hc0]
        clear e
        go_wp2
        go_ret
        exact ⟨ret_int E.out, q + nq, by rw [HW.out]; simp⟩
    · have e := HR.out
      by_cases hka : k < a.length
      · have hkb : k = b.length := by omega
        subst hkb
        rw [show b.reverse.drop b.length = [] from List.drop_eq_nil_of_le (by simp), List.drop_eq_getElem_cons (l := a.reverse) (by simpa using hka), cmpR] at e
        have E := Lib.hid e
        clear e
        go_wp2
        go_ret
        exact ⟨ret_int E.out, q, HW.out⟩
      · have hkb : k = a.length := by omega
        subst hkb
        rw [show a.reverse.drop a.length = [] from List.drop_eq_nil_of_le (by simp)] at e
        by_cases hkb : a.length < b.length
        · rw [List.drop_eq_getElem_cons (l := b.reverse) (by simpa using hkb), cmpR] at e
          have E := Lib.hid e
          clear e
          go_wp2
          go_ret
          exact ⟨ret_int E.out, q, HW.out⟩
        · rw [show b.reverse.drop a.length = [] from List.drop_eq_nil_of_le (by simp; omega), cmpR] at e
          have E := Lib.hid e
          clear e
          go_wp2
          go_ret
          exact ⟨ret_int E.out, q, HW.out⟩
/-- the order says 0 of equals alone -/
theorem cmpB_eq : ∀ (a b : List UInt8), Lib.compareBytes a b = 0 ↔ a = b
  | [], [] => by simp [Lib.compareBytes]
  | [], _ :: _ => by simp [Lib.compareBytes]
  | _ :: _, [] => by simp [Lib.compareBytes]
  | a :: xs, b :: ys => by
    rw [Lib.compareBytes]
    have hl1 : a < b ↔ a.toNat < b.toNat := UInt8.lt_iff_toNat_lt
    have hl2 : b < a ↔ b.toNat < a.toNat := UInt8.lt_iff_toNat_lt
    have ih := cmpB_eq xs ys
    by_cases h1 : a < b
    · rw [if_pos h1]
      simp only [List.cons.injEq, Int.reduceNeg, reduceCtorEq, false_iff]
      rintro ⟨rfl, _⟩
      rw [hl1] at h1; omega
    · rw [if_neg h1]
      by_cases h2 : b < a
      · rw [if_pos h2]
        simp only [List.cons.injEq]
        constructor
        · intro h; omega
        · rintro ⟨rfl, _⟩
          rw [hl2] at h2; omega
      · rw [if_neg h2, ih]
        have : a = b := by rw [hl1] at h1; rw [hl2] at h2; exact UInt8.toNat_inj.1 (by omega)
        simp [this]
theorem cmpR_eq : ∀ (a b : List (List UInt8)), cmpR a b = 0 ↔ a = b
  | [], [] => by simp [cmpR]
  | [], _ :: _ => by simp [cmpR]
  | _ :: _, [] => by simp [cmpR]
  | x :: xs, y :: ys => by
    rw [cmpR]
    have ih := cmpR_eq xs ys
    by_cases h : Lib.compareBytes x y = 0
    · rw [if_pos h, ih, (cmpB_eq x y).1 h]; simp
    · rw [if_neg h]
      have : x ≠ y := fun e => h ((cmpB_eq x y).2 e)
      simp [h, this]
theorem cmpN_eq (a b : List (List UInt8)) : cmpN a b = 0 ↔ a = b := by
  unfold cmpN
  rw [cmpR_eq, List.reverse_inj]
set_option maxRecDepth 100000 in
set_option maxHeartbeats 400000 in
theorem rsame_any (A1 A2 : Option Addr) (c1 c2 L1 L2 : Nat) (a b : List (List UInt8)) (w : World) (B : Nat) (hL1 : a.length = L1) (hL2 : b.length = L2) (h1 : Rd w B A1 L1 (sc a)) (h2 : Rd w B A2 L2 (sc b)) (hl : L1 ≤ 140737488355328) (hm : L2 ≤ 140737488355328) (hx : ∀ x ∈ a, x.length ≤ 140737488355328) (hy : ∀ x ∈ b, x.length ≤ 140737488355328) :
    Calls Try.prog 106 #[.slice A1 L1 c1, .slice A2 L2 c2] w fun e w' => e = .returned (.bool (decide (a = b))) ∧ ∃ q, w' = w.drewN q := by
  subst hL1 hL2
  have hc := rcmp_any A1 A2 c1 c2 a b w B h1 h2 hl hm hx hy
  have hb : decide (a = b) = (cmpN a b == 0) := by
    rw [Bool.eq_iff_iff]; simp [cmpN_eq]
  rw [hb]
  have HC := Lib.hid hc
  clear hc hb
  go_enter Try.func106, Try.ntmps106
  go_wp2_with (go_at_call 87; refine HC.out.mono ?_; rintro e w1 ⟨rfl, q, rfl⟩)
  go_ret
  exact ⟨rfl, q, rfl⟩
end Go.Proofs.Ytmhehgalfmdldaa
