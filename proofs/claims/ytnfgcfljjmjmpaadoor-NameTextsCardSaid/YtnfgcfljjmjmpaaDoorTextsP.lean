/-
  Texts of names, plain; strings.EqualFold at a string and its small letters.
-/
import Derived.Test.YtnfgcfljjmjmpaaDoorRefPP
import Derived.Test.YtnfgcfljjmjmpaaDoorStr
import Derived.Test.YtnfgcfljjmjmpaaDoorMade
import Derived.WalkMore
set_option linter.unusedVariables false
set_option linter.unusedSimpArgs false
namespace Go.Proofs.YtnfgcfljjmjmpaaDoor
open Go.RowKit
namespace Tx
theorem parse_small {s b : List UInt8} (h : smallS b = smallS s) : rparse b = rparse s := by unfold rparse; rw [h]
theorem parse_eq {s : List UInt8} {x : List (List UInt8)} {e : Nat} (h : rparse s = (x, e)) : parseN s = (x, (e : Int)) := by rw [← rparse_eq s, h]
theorem parse_of_text (N : List (List UInt8)) (hr : rightN N = true) : rparse (textN N) = (N, 0) := by
  have h := rparse_eq (textN N)
  rw [parse_text N hr] at h
  have h1 := congrArg Prod.fst h
  have h2 := congrArg Prod.snd h
  simp only at h1 h2
  exact Prod.ext h1 (by show (rparse (textN N)).2 = 0; omega)
theorem text_of_parse {s : List UInt8} {x : List (List UInt8)} (h : rparse s = (x, 0)) : textN x = smallS s ∧ rightN x = true := by
  have h := parse_eq h
  unfold parseN at h
  by_cases h1 : smallS s = [46]
  · rw [if_pos h1] at h
    cases h
    exact ⟨h1.symm, rfl⟩
  · rw [if_neg h1] at h
    by_cases h2 : 1020 < s.length
    · rw [if_pos h2] at h; cases h
    · rw [if_neg h2] at h
      split at h
      · rename_i h3
        have := (Prod.mk.inj h).1
        subst this
        exact ⟨h3.2, h3.1⟩
      · cases h
theorem err_of_parse {s : List UInt8} {x : List (List UInt8)} {e : Nat} (h : rparse s = (x, e)) (he : e ≠ 0) : x = [] ∧ e = 164 := by
  have h := parse_eq h
  unfold parseN at h
  split at h
  · have := (Prod.mk.inj h).2; omega
  · split at h
    · have h1 := Prod.mk.inj h; exact ⟨h1.1.symm, by omega⟩
    · split at h
      · have := (Prod.mk.inj h).2; omega
      · have h1 := Prod.mk.inj h; exact ⟨h1.1.symm, by omega⟩
theorem esc_ascii (x c : UInt8) (h : c ∈ escB x) : c.toNat < 128 := by
  have hx := UInt8.toNat_lt x
  rcases escB_cases x with ⟨hx1, e⟩ | ⟨hx1, e⟩ | ⟨hx1, e⟩
  · rw [e] at h
    simp only [List.mem_cons, List.mem_nil_iff, or_false] at h
    rcases h with rfl | rfl
    · decide
    · omega
  · rw [e] at h
    simp only [List.mem_cons, List.mem_nil_iff, or_false] at h
    subst h; omega
  · rw [e] at h
    have n1 := dig1 x
    have n2 := dig2 x
    have n3 := dig3 x
    simp only [List.mem_cons, List.mem_nil_iff, or_false] at h
    rcases h with rfl | rfl | rfl | rfl
    · decide
    · omega
    · omega
    · omega
theorem escL_ascii (l : List UInt8) (c : UInt8) (h : c ∈ escL l) : c.toNat < 128 := by
  unfold escL at h
  obtain ⟨x, _, h2⟩ := List.mem_flatMap.1 h
  exact esc_ascii x c h2
theorem text_ascii (n : List (List UInt8)) (c : UInt8) (h : c ∈ textN n) : c.toNat < 128 := by
  unfold textN at h
  split at h
  · simp only [List.mem_cons, List.mem_nil_iff, or_false] at h
    subst h; decide
  · cases n with
    | nil => simp [tjoin] at h
    | cons l n =>
      rw [tjoin, List.mem_append] at h
      rcases h with h | h
      · exact escL_ascii l c h
      · obtain ⟨m, _, h2⟩ := List.mem_flatMap.1 h
        rcases List.mem_cons.1 h2 with rfl | h2
        · decide
        · exact escL_ascii m c h2
theorem small_ge (c : UInt8) : c.toNat ≤ (smallB c).toNat := by
  by_cases h : 65 ≤ (c.toNat : Int) ∧ (c.toNat : Int) ≤ 90
  · have := smallB_yes c h.1 h.2; omega
  · rw [smallB_no c h]; exact Nat.le_refl _
theorem ascii_of_small (s : List UInt8) (h : ∀ c ∈ smallS s, c.toNat < 128) : ∀ c ∈ s, c.toNat < 128 := fun c hc => by
  have h1 := h (smallB c) (List.mem_map.2 ⟨c, hc, rfl⟩)
  have h2 := small_ge c
  omega
/-- one letter made big -/
theorem small_bump (b : List UInt8) (i : Nat) (y : UInt8) (hy : b[i]? = some y) (h1 : 97 ≤ y.toNat) (h2 : y.toNat ≤ 122) : smallS (b.set i (y - 32)) = smallS b := by
  have hn : (y - 32).toNat = y.toNat - 32 := by
    have := UInt8.toNat_lt y
    rw [UInt8.toNat_sub]
    simp; omega
  have e : smallB (y - 32) = smallB y := by
    have e1 := smallB_yes (y - 32) (by omega) (by omega)
    have e2 := smallB_no y (by omega)
    rw [e2]
    exact UInt8.toNat_inj.1 (by omega)
  unfold smallS
  rw [List.map_set, e]
  apply List.ext_getElem?
  intro j
  rw [List.getElem?_set]
  by_cases hj : i = j
  · subst hj
    obtain ⟨hl, hg⟩ := List.getElem?_eq_some_iff.1 hy
    simp [hl, hg]
  · rw [if_neg hj]
theorem or_low (a b : Nat) (ha : a < 128) (hb : b < 128) : ∃ c : Nat, c < 128 ∧ bits BinOp.or IntKind.u8 (a : Int) (b : Int) = (c : Int) := by
  refine ⟨a ||| b, Nat.or_lt_two_pow (n := 7) ha hb, ?_⟩
  have hlt : a ||| b < 128 := Nat.or_lt_two_pow (n := 7) ha hb
  show IntKind.u8.wrap ((BitVec.ofInt 8 (a : Int) ||| BitVec.ofInt 8 (b : Int)).toNat : Int) = _
  have e1 : (BitVec.ofInt 8 (a : Int)).toNat = a := by simp; omega
  have e2 : (BitVec.ofInt 8 (b : Int)).toNat = b := by simp; omega
  rw [BitVec.toNat_or, e1, e2, IntKind.wrap_u8]
  omega
end Tx
set_option maxRecDepth 100000 in
set_option maxHeartbeats 2000000 in
theorem fold_small (s t : List UInt8) (w : World) (ht : smallS s = t) (hs : ∀ c ∈ s, c.toNat < 128) (hl : s.length ≤ 1000000) :
    Calls Tryd.prog 10 #[.string ⟨t.toArray⟩, .string ⟨s.toArray⟩] w fun e w' => e = .returned (.bool true) ∧ w' = w := by
  obtain ⟨n, hn⟩ : ∃ n, s.length = n := ⟨_, rfl⟩
  have htl : t.length = n := by rw [← ht, smallS_length, hn]
  have kn1 : (⟨s.toArray⟩ : ByteArray).size = n := hn
  have kn2 : (⟨t.toArray⟩ : ByteArray).size = n := htl
  have HT := Lib.hid ht
  have HS := Lib.hid hs
  have HN := Lib.hid hn
  have HTl := Lib.hid htl
  rw [hn] at hl
  clear ht hs hn htl
  go_enter Tryd.func10, Tryd.ntmps10
  go_wp2
  go_step3
  go_wp2_with fail
  go_loopw [5] (fun v5 wr => ∃ i : Nat, i ≤ n ∧ v5 = .int .i64 i ∧ w = wr) (fun v5 _ => n - (intOf v5).toNat)
  case atStart => exact ⟨0, Nat.zero_le _, rfl, rfl⟩
  case round =>
    obtain ⟨i, hi, rfl, rfl⟩ := hrel
    by_cases hlt : i < n
    · obtain ⟨x, hx⟩ : ∃ x, s[i]? = some x := ⟨_, List.getElem?_eq_getElem (by have := HN.out; omega)⟩
      have hy : t[i]? = some (smallB x) := by rw [← HT.out]; unfold smallS; rw [List.getElem?_map, hx]; rfl
      have hx128 := HS.out x (List.mem_of_getElem? hx)
      have ix := fun W => idxStr W s i x hx
      have iy := fun W => idxStr W t i (smallB x) hy
      by_cases hA : 65 ≤ (x.toNat : Int) ∧ (x.toNat : Int) ≤ 90
      · have hsm := smallB_yes x hA.1 hA.2
        obtain ⟨y, hyy⟩ : ∃ y, smallB x = y := ⟨_, rfl⟩
        rw [hyy] at iy hsm
        obtain ⟨c, hc, hor⟩ := Tx.or_low y.toNat x.toNat (by omega) hx128
        have hy2 : (y.toNat : Int) = (x.toNat : Int) + 32 := by omega
        rw [hy2] at hor
        have hc1 : decide ((128 : Int) ≤ (c : Int)) = false := decide_eq_false (by omega)
        have hne : ((x.toNat : Int) == (x.toNat : Int) + 32) = false := beq_eq_false_iff_ne.2 (by omega)
        have hlt2 : decide ((x.toNat : Int) < (x.toNat : Int) + 32) = true := decide_eq_true (by omega)
        have heq2 : ((x.toNat : Int) + 32 == (x.toNat : Int) + 97 - 65) = true := beq_iff_eq.2 (by omega)
        have hA1 := hA.1
        have hA2 := hA.2
        clear hx hy hyy hA hsm
        go_wp2_with fail
        go_roundw
        case rel => exact ⟨i + 1, by omega, by go_num, trivial⟩
        case measure => simp [intOf]; omega
      · have hsm := smallB_no x hA
        rw [hsm] at iy
        obtain ⟨c, hc, hor⟩ := Tx.or_low x.toNat x.toNat hx128 hx128
        have hc1 : decide ((128 : Int) ≤ (c : Int)) = false := decide_eq_false (by omega)
        clear hx hy hA hsm
        go_wp2_with fail
        go_roundw
        case rel => exact ⟨i + 1, by omega, by go_num, trivial⟩
        case measure => simp [intOf]; omega
    · obtain rfl : i = n := by omega
      go_wp2_with fail
      rw [Exit.noGoto_ret]
      go_ret
      exact ⟨rfl, rfl⟩
end Go.Proofs.YtnfgcfljjmjmpaaDoor
