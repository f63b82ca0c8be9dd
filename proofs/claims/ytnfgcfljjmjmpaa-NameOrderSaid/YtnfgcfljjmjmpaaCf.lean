/-
  slices.ContainsFunc at the functions that the laws of layer 16 hand to it.
-/
import Derived.Test.YtnfgcfljjmjmpaaReads
set_option linter.unusedVariables false
set_option linter.unusedSimpArgs false
namespace Go.Proofs.Ytnfgcfljjmjmpaa
open Go.RowKit

/-! ### gauger/gaugerlaw16.NameTells$1 handed to slices.ContainsFunc -/
def telP (x : List UInt8) : Bool := decide (300 < (x.length : Int))
theorem tel_fn (x : List UInt8) (w : World)  : Calls Try.prog 24 #[.string ⟨x.toArray⟩] w fun e w' => e = .returned (.bool (telP x)) ∧ w' = w := by
  unfold telP
  go_enter Try.func24, Try.ntmps24
  go_wp2
  go_ret
  exact ⟨ret_bool (by first | rfl | (simp <;> omega)), rfl⟩
theorem any_take {α : Type} (p : α → Bool) (l : List α) (k : Nat) (h : k < l.length) : (l.take (k + 1)).any p = ((l.take k).any p || p l[k]) := by
  rw [List.take_succ_eq_append_getElem h, List.any_append]; simp
set_option maxRecDepth 100000 in
set_option maxHeartbeats 400000 in
theorem tel_index (A : Option Addr) (c L : Nat) (l : List (List UInt8)) (w : World) (B : Nat) (hL : l.length = L) (h : Rd w B A L (sc l)) (hl : L ≤ 140737488355328) :
    Calls Try.prog 41 #[.slice A L c, .func (.func 24) #[] #[]] w fun e w' => ∃ r : Int, e = .returned (.int .i64 r) ∧ decide (0 ≤ r) = l.any telP ∧ w' = w := by
  subst hL
  go_enter Try.func41, Try.ntmps41
  go_wp2_with fail
  go_loopw [8] (fun i wr => ∃ k : Nat, k ≤ l.length ∧ i = .int .i64 k ∧ Hid ((l.take k).any telP = false) ∧ w = wr) (fun i _ => l.length - (intOf i).toNat)
  case atStart => exact ⟨0, Nat.zero_le _, rfl, rfl, rfl⟩
  case round =>
    obtain ⟨k, hk, rfl, HN, rfl⟩ := hrel
    by_cases hlt : k < l.length
    · obtain ⟨b, o, rfl, _, hc⟩ := h.at_ hlt
      have hcell := hc k _ (sc_get l k hlt)
      have ht := any_take telP l k hlt
      have hmem : telP l[k] = true → l.any telP = true := fun h => List.any_eq_true.2 ⟨l[k], List.getElem_mem hlt, h⟩
      generalize l[k] = x at hcell ht hmem
      have HT := Lib.hid ht
      have HM := Lib.hid hmem
      clear hc ht hmem h
      have hf := fun W => tel_fn x W
      cases hp : telP x
      · rw [hp] at hf
        have HF := Lib.hid hf
        have hn : (l.take (k + 1)).any telP = false := by rw [HT.out, HN.out, hp]; rfl
        have HN2 := Lib.hid hn
        clear hf hp hn
        go_wp2_with (go_at_call 24; refine (HF.out _).mono ?_; rintro e w1 ⟨rfl, rfl⟩)
        go_roundw
        case rel => exact ⟨k + 1, by omega, by go_num, HN2, trivial⟩
        case measure => simp [intOf]; omega
      · rw [hp] at hf
        have HF := Lib.hid hf
        have HA := Lib.hid (HM.out hp)
        clear hf hp
        go_wp2_with (go_at_call 24; refine (HF.out _).mono ?_; rintro e w1 ⟨rfl, rfl⟩)
        go_ret
        exact ⟨(k : Int), rfl, by rw [HA.out]; simp, rfl⟩
    · have : k = l.length := by omega
      subst this
      rw [List.take_length] at HN
      clear h
      go_wp2_with fail
      go_ret
      exact ⟨-1, rfl, by rw [HN.out]; rfl, rfl⟩
set_option maxRecDepth 100000 in
set_option maxHeartbeats 400000 in
theorem tel_contains (A : Option Addr) (c L : Nat) (l : List (List UInt8)) (w : World) (B : Nat) (hL : l.length = L) (h : Rd w B A L (sc l)) (hl : L ≤ 140737488355328) :
    Calls Try.prog 25 #[.slice A L c, .func (.func 24) #[] #[]] w fun e w' => e = .returned (.bool (l.any telP)) ∧ w' = w := by
  go_enter Try.func25, Try.ntmps25
  go_wp2_with (go_at_call 41; refine (tel_index A c L l w B hL h hl).mono ?_; rintro e w1 ⟨r, rfl, hr, rfl⟩)
  go_ret
  exact ⟨rfl, rfl⟩

/-! ### gauger/gaugerlaw16.NameAppends$1 handed to slices.ContainsFunc -/
def apfP (x : List UInt8) : Bool := decide (300 < (x.length : Int))
theorem apf_fn (x : List UInt8) (w : World)  : Calls Try.prog 27 #[.string ⟨x.toArray⟩] w fun e w' => e = .returned (.bool (apfP x)) ∧ w' = w := by
  unfold apfP
  go_enter Try.func27, Try.ntmps27
  go_wp2
  go_ret
  exact ⟨ret_bool (by first | rfl | (simp <;> omega)), rfl⟩
theorem any_take1 {α : Type} (p : α → Bool) (l : List α) (k : Nat) (h : k < l.length) : (l.take (k + 1)).any p = ((l.take k).any p || p l[k]) := by
  rw [List.take_succ_eq_append_getElem h, List.any_append]; simp
set_option maxRecDepth 100000 in
set_option maxHeartbeats 400000 in
theorem apf_index (A : Option Addr) (c L : Nat) (l : List (List UInt8)) (w : World) (B : Nat) (hL : l.length = L) (h : Rd w B A L (sc l)) (hl : L ≤ 140737488355328) :
    Calls Try.prog 41 #[.slice A L c, .func (.func 27) #[] #[]] w fun e w' => ∃ r : Int, e = .returned (.int .i64 r) ∧ decide (0 ≤ r) = l.any apfP ∧ w' = w := by
  subst hL
  go_enter Try.func41, Try.ntmps41
  go_wp2_with fail
  go_loopw [8] (fun i wr => ∃ k : Nat, k ≤ l.length ∧ i = .int .i64 k ∧ Hid ((l.take k).any apfP = false) ∧ w = wr) (fun i _ => l.length - (intOf i).toNat)
  case atStart => exact ⟨0, Nat.zero_le _, rfl, rfl, rfl⟩
  case round =>
    obtain ⟨k, hk, rfl, HN, rfl⟩ := hrel
    by_cases hlt : k < l.length
    · obtain ⟨b, o, rfl, _, hc⟩ := h.at_ hlt
      have hcell := hc k _ (sc_get l k hlt)
      have ht := any_take apfP l k hlt
      have hmem : apfP l[k] = true → l.any apfP = true := fun h => List.any_eq_true.2 ⟨l[k], List.getElem_mem hlt, h⟩
      generalize l[k] = x at hcell ht hmem
      have HT := Lib.hid ht
      have HM := Lib.hid hmem
      clear hc ht hmem h
      have hf := fun W => apf_fn x W
      cases hp : apfP x
      · rw [hp] at hf
        have HF := Lib.hid hf
        have hn : (l.take (k + 1)).any apfP = false := by rw [HT.out, HN.out, hp]; rfl
        have HN2 := Lib.hid hn
        clear hf hp hn
        go_wp2_with (go_at_call 27; refine (HF.out _).mono ?_; rintro e w1 ⟨rfl, rfl⟩)
        go_roundw
        case rel => exact ⟨k + 1, by omega, by go_num, HN2, trivial⟩
        case measure => simp [intOf]; omega
      · rw [hp] at hf
        have HF := Lib.hid hf
        have HA := Lib.hid (HM.out hp)
        clear hf hp
        go_wp2_with (go_at_call 27; refine (HF.out _).mono ?_; rintro e w1 ⟨rfl, rfl⟩)
        go_ret
        exact ⟨(k : Int), rfl, by rw [HA.out]; simp, rfl⟩
    · have : k = l.length := by omega
      subst this
      rw [List.take_length] at HN
      clear h
      go_wp2_with fail
      go_ret
      exact ⟨-1, rfl, by rw [HN.out]; rfl, rfl⟩
set_option maxRecDepth 100000 in
set_option maxHeartbeats 400000 in
theorem apf_contains (A : Option Addr) (c L : Nat) (l : List (List UInt8)) (w : World) (B : Nat) (hL : l.length = L) (h : Rd w B A L (sc l)) (hl : L ≤ 140737488355328) :
    Calls Try.prog 25 #[.slice A L c, .func (.func 27) #[] #[]] w fun e w' => e = .returned (.bool (l.any apfP)) ∧ w' = w := by
  go_enter Try.func25, Try.ntmps25
  go_wp2_with (go_at_call 41; refine (apf_index A c L l w B hL h hl).mono ?_; rintro e w1 ⟨r, rfl, hr, rfl⟩)
  go_ret
  exact ⟨rfl, rfl⟩

/-! ### gauger/gaugerlaw16.appends$1 handed to slices.ContainsFunc -/
def nzP (x : UInt8) : Bool := ((x.toNat : Int) != 0)
theorem nz_fn (x : UInt8) (w : World)  : Calls Try.prog 53 #[.int .u8 (x.toNat : Int)] w fun e w' => e = .returned (.bool (nzP x)) ∧ w' = w := by
  unfold nzP
  go_enter Try.func53, Try.ntmps53
  go_wp2
  go_ret
  exact ⟨ret_bool (by first | rfl | (simp <;> omega)), rfl⟩
theorem any_take2 {α : Type} (p : α → Bool) (l : List α) (k : Nat) (h : k < l.length) : (l.take (k + 1)).any p = ((l.take k).any p || p l[k]) := by
  rw [List.take_succ_eq_append_getElem h, List.any_append]; simp
set_option maxRecDepth 100000 in
set_option maxHeartbeats 400000 in
theorem nz_index (A : Option Addr) (c L : Nat) (l : List (UInt8)) (w : World) (B : Nat) (hL : l.length = L) (h : Rd w B A L (bc l)) (hl : L ≤ 140737488355328) :
    Calls Try.prog 73 #[.slice A L c, .func (.func 53) #[] #[]] w fun e w' => ∃ r : Int, e = .returned (.int .i64 r) ∧ decide (0 ≤ r) = l.any nzP ∧ w' = w := by
  subst hL
  go_enter Try.func73, Try.ntmps73
  go_wp2_with fail
  go_loopw [8] (fun i wr => ∃ k : Nat, k ≤ l.length ∧ i = .int .i64 k ∧ Hid ((l.take k).any nzP = false) ∧ w = wr) (fun i _ => l.length - (intOf i).toNat)
  case atStart => exact ⟨0, Nat.zero_le _, rfl, rfl, rfl⟩
  case round =>
    obtain ⟨k, hk, rfl, HN, rfl⟩ := hrel
    by_cases hlt : k < l.length
    · obtain ⟨b, o, rfl, _, hc⟩ := h.at_ hlt
      have hcell := hc k _ (bc_get l k hlt)
      have ht := any_take nzP l k hlt
      have hmem : nzP l[k] = true → l.any nzP = true := fun h => List.any_eq_true.2 ⟨l[k], List.getElem_mem hlt, h⟩
      generalize l[k] = x at hcell ht hmem
      have HT := Lib.hid ht
      have HM := Lib.hid hmem
      clear hc ht hmem h
      have hf := fun W => nz_fn x W
      cases hp : nzP x
      · rw [hp] at hf
        have HF := Lib.hid hf
        have hn : (l.take (k + 1)).any nzP = false := by rw [HT.out, HN.out, hp]; rfl
        have HN2 := Lib.hid hn
        clear hf hp hn
        go_wp2_with (go_at_call 53; refine (HF.out _).mono ?_; rintro e w1 ⟨rfl, rfl⟩)
        go_roundw
        case rel => exact ⟨k + 1, by omega, by go_num, HN2, trivial⟩
        case measure => simp [intOf]; omega
      · rw [hp] at hf
        have HF := Lib.hid hf
        have HA := Lib.hid (HM.out hp)
        clear hf hp
        go_wp2_with (go_at_call 53; refine (HF.out _).mono ?_; rintro e w1 ⟨rfl, rfl⟩)
        go_ret
        exact ⟨(k : Int), rfl, by rw [HA.out]; simp, rfl⟩
    · have : k = l.length := by omega
      subst this
      rw [List.take_length] at HN
      clear h
      go_wp2_with fail
      go_ret
      exact ⟨-1, rfl, by rw [HN.out]; rfl, rfl⟩
set_option maxRecDepth 100000 in
set_option maxHeartbeats 400000 in
theorem nz_contains (A : Option Addr) (c L : Nat) (l : List (UInt8)) (w : World) (B : Nat) (hL : l.length = L) (h : Rd w B A L (bc l)) (hl : L ≤ 140737488355328) :
    Calls Try.prog 52 #[.slice A L c, .func (.func 53) #[] #[]] w fun e w' => e = .returned (.bool (l.any nzP)) ∧ w' = w := by
  go_enter Try.func52, Try.ntmps52
  go_wp2_with (go_at_call 73; refine (nz_index A c L l w B hL h hl).mono ?_; rintro e w1 ⟨r, rfl, hr, rfl⟩)
  go_ret
  exact ⟨rfl, rfl⟩
end Go.Proofs.Ytnfgcfljjmjmpaa
