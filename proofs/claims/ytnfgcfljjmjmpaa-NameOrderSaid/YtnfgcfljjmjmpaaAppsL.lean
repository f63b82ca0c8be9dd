/-
  NameAppends, under the guard.
-/
import Derived.Test.YtnfgcfljjmjmpaaApps
set_option linter.unusedVariables false
set_option linter.unusedSimpArgs false
namespace Go.Proofs.Ytnfgcfljjmjmpaa
open Go.RowKit
theorem size_bound (n : List (List UInt8)) (h : ∀ x ∈ n, x.length ≤ 300) : sizeN n ≤ 1 + 301 * n.length := by
  induction n with
  | nil => simp [sizeN]
  | cons l n ih =>
    have h1 := h l (List.mem_cons_self ..)
    have h2 := ih (fun x hx => h x (List.mem_cons_of_mem _ hx))
    simp only [sizeN, List.length_cons]; omega
set_option maxRecDepth 100000 in
set_option maxHeartbeats 1000000 in
theorem nameAppends_any (haw : AwakeOk) (A0 : Option Addr) (c0 : Nat) (b : List UInt8) (A1 : Option Addr) (c1 : Nat) (known : List Int) (A2 : Option Addr) (c2 : Nat) (n : List (List UInt8)) (w : World)
    (r0 : Rd w w.heap.size A0 b.length (bc b)) (hc0 : b.length ≤ c0) (hb0 : b.length ≤ 140737488351232)
    (r1 : Rd w w.heap.size A1 known.length (ic known)) (hc1 : known.length ≤ c1) (hb1 : known.length * 8 ≤ 140737488351232) (hz : ∀ z ∈ known, -9223372036854775808 ≤ z ∧ z ≤ 9223372036854775807)
    (r2 : Rd w w.heap.size A2 n.length (sc n)) (hc2 : n.length ≤ c2) (hb2 : n.length * 16 ≤ 140737488351232) (hx : ∀ x ∈ n, x.length ≤ 140737488351232) :
    Calls Try.prog 8 #[.slice A0 b.length c0, .slice A1 known.length c1, .slice A2 n.length c2] w fun e w' => e = .returned (.bool true) ∧ Below w.heap.size w w' := by
  have haw' := Lib.hid haw
  clear haw hz hx
  by_cases h1 : 400 < b.length
  · have d1 : decide (400 < (b.length : Int)) = true := by simp; omega
    go_enter Try.func8, Try.ntmps8
    go_wp2_with (go_at_call 11; refine (haw'.out _).mono ?_; rintro e w1 ⟨rfl, hb1⟩)
    go_ret
    exact ⟨rfl, by assumption⟩
  have d1 : decide (400 < (b.length : Int)) = false := by simp; omega
  by_cases h2 : 20 < known.length
  · have d2 : decide (20 < (known.length : Int)) = true := by simp; omega
    go_enter Try.func8, Try.ntmps8
    go_wp2_with (go_at_call 11; refine (haw'.out _).mono ?_; rintro e w1 ⟨rfl, hb1⟩)
    go_ret
    exact ⟨rfl, by assumption⟩
  have d2 : decide (20 < (known.length : Int)) = false := by simp; omega
  by_cases h3 : 150 < n.length
  · have d3 : decide (150 < (n.length : Int)) = true := by simp; omega
    go_enter Try.func8, Try.ntmps8
    go_wp2_with (go_at_call 11; refine (haw'.out _).mono ?_; rintro e w1 ⟨rfl, hb1⟩)
    go_ret
    exact ⟨rfl, by assumption⟩
  have d3 : decide (150 < (n.length : Int)) = false := by simp; omega
  cases h4 : n.any apfP
  · have hsz : sizeN n ≤ 140737488355328 := by
      have := size_bound n (fun x hx => by
        have := List.any_eq_false.1 h4 x hx
        unfold apfP at this
        simp at this; omega)
      omega
    have H4 := Lib.hid h4
    clear h4
    go_enter Try.func8, Try.ntmps8
    go_wp2_with (first
      | (go_at_call 11; refine (haw'.out _).mono ?_; rintro e w2 ⟨rfl, hbb2⟩)
      | (go_at_call 28; refine (appends_any A0 A1 A2 c0 c1 c2 b.length known.length n.length b known n w rfl rfl rfl r0 hc0 (by omega) r1 (by omega) r2 hc2 hsz).mono ?_; rintro e w1 ⟨rfl, hbb1⟩)
      | (go_at_call 25; refine (apf_contains A2 c2 n.length n w w.heap.size rfl r2 (by omega)).mono ?_; rw [H4.out]; rintro e w ⟨rfl, rfl⟩))
    go_ret
    exact ⟨rfl, hbb1.trans (hbb2.mono hbb1.size)⟩
  · have H4 := Lib.hid h4
    clear h4
    go_enter Try.func8, Try.ntmps8
    go_wp2_with (first
      | (go_at_call 11; refine (haw'.out _).mono ?_; rintro e w2 ⟨rfl, hbb2⟩)
      | (go_at_call 25; refine (apf_contains A2 c2 n.length n w w.heap.size rfl r2 (by omega)).mono ?_; rw [H4.out]; rintro e w ⟨rfl, rfl⟩))
    go_ret
    exact ⟨rfl, hbb2⟩
end Go.Proofs.Ytnfgcfljjmjmpaa
