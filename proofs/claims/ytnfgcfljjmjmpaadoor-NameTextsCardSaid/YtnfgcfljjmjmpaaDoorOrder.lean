import Derived.Test.YtnfgcfljjmjmpaaDoorLib
set_option linter.unusedVariables false
namespace Go.Proofs.YtnfgcfljjmjmpaaDoor
open Go.RowKit

/-- whether a name is under a zone -/
def underN (n z : List (List UInt8)) : Bool := decide (z.length ≤ n.length) && decide (n.drop (n.length - z.length) = z)
/-- names compared, label by label from the right -/
def cmpR : List (List UInt8) → List (List UInt8) → Int
  | [], [] => 0
  | [], _ :: _ => -1
  | _ :: _, [] => 1
  | x :: xs, y :: ys => if Lib.compareBytes x y = 0 then cmpR xs ys else Lib.compareBytes x y
def cmpN (a b : List (List UInt8)) : Int := cmpR a.reverse b.reverse

set_option maxRecDepth 100000 in
set_option maxHeartbeats 400000 in
theorem under_any (A1 A2 : Option Addr) (c1 c2 : Nat) (n z : List (List UInt8)) (w : World) (B : Nat) (h1 : Rd w B A1 n.length (sc n)) (h2 : Rd w B A2 z.length (sc z)) (hc : n.length ≤ c1) (hl : n.length ≤ 140737488355328) (hm : z.length ≤ 140737488355328) :
    Calls Tryd.prog 19 #[.slice A1 n.length c1, .slice A2 z.length c2] w fun e w' => e = .returned (.bool (underN n z)) ∧ ∃ q, w' = w.drewN q := by
  by_cases hle : z.length ≤ n.length
  · have hsl : ∀ W, (Instr.slice 22 (.slice A1 n.length c1) (some (.int .i64 ((n.length : Int) - (z.length : Int)))) none none).run Tryd.prog W = .ok (.slice (cutA A1 c1 (n.length - z.length)) z.length (c1 - (n.length - z.length))) W := by
      intro W
      have := run_sl_l (P := Tryd.prog) W 22 9 Tryd.underlying22 szStr A1 n.length c1 (n.length - z.length) (by omega)
      rw [show n.length - (n.length - z.length) = z.length by omega, show ((n.length - z.length : Nat) : Int) = (n.length : Int) - (z.length : Int) by omega] at this
      exact this
    have hr := h1.cut (k := n.length - z.length) (m := n.length) (by omega) (Nat.le_refl _) hc
    have hd : (n.drop (n.length - z.length)).length = z.length := by simp; omega
    have hr2 : Rd w B (cutA A1 c1 (n.length - z.length)) (n.drop (n.length - z.length)).length (sc (n.drop (n.length - z.length))) := by
      rw [show n.length - (n.length - z.length) = z.length by omega, List.take_of_length_le (by simp; omega)] at hr
      rw [hd]
      simpa [sc] using hr
    have hcon := seq_any (cutA A1 c1 (n.length - z.length)) A2 (c1 - (n.length - z.length)) c2 (n.drop (n.length - z.length)) z w B hr2 h2 (by omega) hm
    rw [hd] at hcon
    have HC := Lib.hid hcon
    generalize cutA A1 c1 (n.length - z.length) = A3 at hsl HC
    clear hcon hr hr2 hd
    go_enter Tryd.func19, Tryd.ntmps19
    go_wp2_with (go_at_call 9; refine HC.out.mono ?_; rintro e w1 ⟨rfl, q, rfl⟩)
    go_ret
    exact ⟨ret_bool (by simp [underN, hle]), q, rfl⟩
  · go_enter Tryd.func19, Tryd.ntmps19
    go_wp2
    go_ret
    exact ⟨ret_bool (by simp [underN, hle]), 0, rfl⟩

set_option maxRecDepth 100000 in
set_option maxHeartbeats 400000 in
theorem cmp_any (A1 A2 : Option Addr) (c1 c2 : Nat) (a b : List (List UInt8)) (w : World) (B : Nat) (h1 : Rd w B A1 a.length (sc a)) (h2 : Rd w B A2 b.length (sc b)) (hl : a.length ≤ 140737488355328) (hm : b.length ≤ 140737488355328) :
    Calls Tryd.prog 18 #[.slice A1 a.length c1, .slice A2 b.length c2] w fun e w' => e = .returned (.int .i64 (cmpN a b)) ∧ ∃ q, w' = w.drewN q := by
  go_enter Tryd.func18, Tryd.ntmps18
  go_wp2_with fail
  go_loopw [5] (fun i wr => ∃ k q : Nat, k ≤ a.length ∧ k ≤ b.length ∧ i = .int .i64 ((k : Int) + 1) ∧ Hid (cmpR (a.reverse.drop k) (b.reverse.drop k) = cmpN a b) ∧ wr = w.drewN q) (fun i _ => a.length + 1 - (intOf i).toNat)
  case atStart => exact ⟨0, 0, by omega, by omega, rfl, rfl, rfl⟩
  case round =>
    obtain ⟨k, q, hk1, hk2, rfl, HR, hwr⟩ := hrel
    have r1 : Rd wr B A1 a.length (sc a) := by rw [hwr]; exact h1
    have r2 : Rd wr B A2 b.length (sc b) := by rw [hwr]; exact h2
    have HW := Lib.hid hwr
    clear hwr h1 h2
    by_cases hlt : k < a.length ∧ k < b.length
    · obtain ⟨hka, hkb⟩ := hlt
      obtain ⟨b1, o1, rfl, _, k1⟩ := r1.at_ (show 0 < a.length by omega)
      obtain ⟨b2, o2, rfl, _, k2⟩ := r2.at_ (show 0 < b.length by omega)
      have g1 := k1 (a.length - (k + 1)) _ (sc_get a (a.length - (k + 1)) (by omega))
      have g2 := k2 (b.length - (k + 1)) _ (sc_get b (b.length - (k + 1)) (by omega))
      have er1 : a.reverse.drop k = a[a.length - (k + 1)] :: a.reverse.drop (k + 1) := by
        rw [List.drop_eq_getElem_cons (by simpa using hka), List.getElem_reverse]
        congr 2; omega
      have er2 : b.reverse.drop k = b[b.length - (k + 1)] :: b.reverse.drop (k + 1) := by
        rw [List.drop_eq_getElem_cons (by simpa using hkb), List.getElem_reverse]
        congr 2; omega
      have e := HR.out
      rw [er1, er2, cmpR] at e
      generalize a[a.length - (k + 1)] = x at g1 e
      generalize b[b.length - (k + 1)] = y at g2 e
      have e1 : ((⟨x.toArray⟩ : ByteArray)).data.toList = x := by simp
      have e2 : ((⟨y.toArray⟩ : ByteArray)).data.toList = y := by simp
      have hcon := fun W => Tryd.strings_Compare ⟨x.toArray⟩ ⟨y.toArray⟩ W
      rw [e1, e2] at hcon
      have HC := Lib.hid hcon
      clear hcon e1 e2 er1 er2 k1 k2
      have w1 : IntKind.i64.wrap ((a.length : Int) - ((k : Int) + 1)) = (a.length : Int) - ((k : Int) + 1) := IntWalk.i64_in _ (by omega)
      have w2 : IntKind.i64.wrap ((b.length : Int) - ((k : Int) + 1)) = (b.length : Int) - ((k : Int) + 1) := IntWalk.i64_in _ (by omega)
      have w3 : 0 ≤ (a.length : Int) - ((k : Int) + 1) := by omega
      have w4 : 0 ≤ (b.length : Int) - ((k : Int) + 1) := by omega
      have w5 : (a.length : Int) - ((k : Int) + 1) < (a.length : Int) := by omega
      have w6 : (b.length : Int) - ((k : Int) + 1) < (b.length : Int) := by omega
      have w7 : ((a.length : Int) - ((k : Int) + 1)).toNat = a.length - (k + 1) := by omega
      have w8 : ((b.length : Int) - ((k : Int) + 1)).toNat = b.length - (k + 1) := by omega
      have w9 : (k : Int) + 1 ≤ (a.length : Int) := by omega
      have w10 : (k : Int) + 1 ≤ (b.length : Int) := by omega
      have w11 : (0 : Int) < (k : Int) + 1 := by omega
      have w12 : k + 1 ≤ a.length := by omega
      have w13 : k + 1 ≤ b.length := by omega
      go_wp2_with fail
      generalize Lib.compareBytes x y = cmp at HC e
      go_quiet ((go_at_call 35; exact Calls.quiet_of_same (HC.out _)))
      clear w1 w2 w3 w4 w5 w6 w7 w8 w9 w10 w11 w12 w13
      by_cases hc0 : cmp = 0
      · rw [if_pos hc0] at e
        have E := Lib.hid e
        clear e
        subst hc0
        go_wp2
        go_roundw
        case rel => exact ⟨k + 1, q + nq, by omega, by omega, by go_num, E.out, by rw [HW.out]; simp⟩
        case measure => simp [intOf]; omega
      · rw [if_neg hc0] at e
        have E := Lib.hid e
        have hc0' : (cmp == 0) = false := by simp [hc0]
        have hc0'' : (cmp != 0) = true := by simp [hc0]
        clear e
        go_wp2
        go_ret
        exact ⟨ret_int E.out, q + nq, by rw [HW.out]; simp⟩
    · have e := HR.out
      by_cases hka : k < a.length
      · have hkb : k = b.length := by omega
        subst hkb
        rw [show b.reverse.drop b.length = [] from List.drop_eq_nil_of_le (by simp), List.drop_eq_getElem_cons (l := a.reverse) (by simpa using hka), cmpR] at e
        have E := Lib.hid e
        clear e
        go_wp2
        go_ret
        exact ⟨ret_int E.out, q, HW.out⟩
      · have hkb : k = a.length := by omega
        subst hkb
        rw [show a.reverse.drop a.length = [] from List.drop_eq_nil_of_le (by simp)] at e
        by_cases hkb : a.length < b.length
        · rw [List.drop_eq_getElem_cons (l := b.reverse) (by simpa using hkb), cmpR] at e
          have E := Lib.hid e
          clear e
          go_wp2
          go_ret
          exact ⟨ret_int E.out, q, HW.out⟩
        · rw [show b.reverse.drop a.length = [] from List.drop_eq_nil_of_le (by simp; omega), cmpR] at e
          have E := Lib.hid e
          clear e
          go_wp2
          go_ret
          exact ⟨ret_int E.out, q, HW.out⟩
end Go.Proofs.YtnfgcfljjmjmpaaDoor
