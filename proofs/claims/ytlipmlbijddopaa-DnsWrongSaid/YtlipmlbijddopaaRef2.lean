/-
  The reference of layer 16: Right, Form.
-/
import Derived.Test.YtlipmlbijddopaaRef
set_option linter.unusedVariables false
set_option linter.unusedSimpArgs false
namespace Go.Proofs.Ytlipmlbijddopaa
open Go.RowKit
set_option maxRecDepth 100000 in
set_option maxHeartbeats 1000000 in
theorem rright_any (A : Option Addr) (c : Nat) (n : List (List UInt8)) (w : World) (h : Rd w w.heap.size A n.length (sc n)) (hs : sizeN n ≤ 140737488355328) :
    Calls Try.prog 46 #[.slice A n.length c] w fun e w' => e = .returned (.bool (rightN n)) ∧ Below w.heap.size w w' := by
  have hl := sizeN_length n
  go_enter Try.func46, Try.ntmps46
  go_wp2_with fail
  go_loopw [3] (fun i wr => ∃ k : Nat, k ≤ n.length ∧ i = .int .i64 k ∧ (n.take k).all okL = true ∧ Below w.heap.size w wr) (fun i _ => n.length - (intOf i).toNat)
  case atStart => exact ⟨0, Nat.zero_le _, rfl, rfl, Below.refl _ _⟩
  case round =>
    obtain ⟨k, hk, rfl, hall, hbel⟩ := hrel
    have hr := h.below hbel
    by_cases hlt : k < n.length
    · obtain ⟨b, o, rfl, hbB, hc⟩ := hr.at_ hlt
      have hcell := hc k _ (sc_get n k hlt)
      have hle := mem_size (List.getElem_mem hlt)
      have HA := Lib.hid hall
      have i1 : (0 : Int) ≤ (k : Int) := by omega
      have i2 : (k : Int) < (n.length : Int) := by omega
      have hlk : n[k].length ≤ 140737488355328 := by omega
      have hbw : b < wr.heap.size := Nat.lt_of_lt_of_le hbB hbel.size
      clear hc h hr hall
      by_cases t1 : n[k].length < 1
      · have d1 : decide ((n[k].length : Int) < 1) = true := by simp only [decide_eq_true_eq, decide_eq_false_iff_not]; omega
        go_wp2_with fail
        go_quiet (fail)
        go_wp2_with fail
        go_ret
        exact ⟨ret_bool (by rw [right_no n k hlt (okL_len (by omega))]), below_drewN hbel _⟩
      · have d1 : decide ((n[k].length : Int) < 1) = false := by simp only [decide_eq_true_eq, decide_eq_false_iff_not]; omega
        by_cases t2 : 63 < n[k].length
        · have d2 : decide (63 < (n[k].length : Int)) = true := by simp only [decide_eq_true_eq, decide_eq_false_iff_not]; omega
          go_wp2_with fail
          go_quiet (fail)
          go_wp2_with fail
          go_ret
          exact ⟨ret_bool (by rw [right_no n k hlt (okL_len (by omega))]), below_drewN hbel _⟩
        · have d2 : decide (63 < (n[k].length : Int)) = false := by simp only [decide_eq_true_eq, decide_eq_false_iff_not]; omega
          by_cases t3 : smallS n[k] = n[k]
          · have H3 := Lib.hid t3
            clear t3
            go_wp2_with fail
            go_region_held3 (fun w' => w'.cell? ⟨b, o + k, none⟩ = some (.string ⟨n[k].toArray⟩)) (go_keep) ((go_at_call 72; refine (rlower_any n[k] _ hlk).mono ?_; rw [H3.out]; rintro e w2 ⟨rfl, hb2⟩; have q0 := (hb2.cell (p := ⟨b, o + k, none⟩) hbw).trans hcell))
            go_wp2_with fail
            go_roundw
            case rel => exact ⟨k + 1, by omega, by go_num, okL_take n k hlt HA.out (okL_yes t1 t2 H3.out), hbel.drew.trans (hb2.mono hbel.size)⟩
            case measure => simp [intOf]; omega
          · have h4 : (smallS n[k] == n[k]) = false := by simpa using t3
            have H3 := Lib.hid t3
            clear t3
            go_wp2_with fail
            go_region_held3 (fun w' => w'.cell? ⟨b, o + k, none⟩ = some (.string ⟨n[k].toArray⟩)) (go_keep) ((go_at_call 72; refine (rlower_any n[k] _ hlk).mono ?_; rintro e w2 ⟨rfl, hb2⟩; have q0 := (hb2.cell (p := ⟨b, o + k, none⟩) hbw).trans hcell))
            go_wp2_with fail
            go_ret
            exact ⟨ret_bool (by rw [right_no n k hlt (by have := H3.out; simp [okL, this])]), hbel.drew.trans (hb2.mono hbel.size)⟩
    · have HA := Lib.hid hall
      clear hall
      go_wp2_with (go_at_call 73; refine (rsize_any A c n wr w.heap.size hr (by omega)).mono ?_; rintro e w2 ⟨rfl, rfl⟩)
      go_ret
      exact ⟨ret_bool (by rw [right_end n k (by omega) HA.out]; simp; omega), hbel⟩

set_option maxRecDepth 100000 in
set_option maxHeartbeats 400000 in
theorem rform_bad (A : Option Addr) (c : Nat) (n : List (List UInt8)) (w : World) (h : Rd w w.heap.size A n.length (sc n)) (hr : rightN n = false) (hs : sizeN n ≤ 140737488355328) :
    Calls Try.prog 75 #[.slice A n.length c] w fun e w' => e = .returned (.tuple #[.slice none 0 0, .int .i64 160]) ∧ Below w.heap.size w w' := by
  go_enter Try.func75, Try.ntmps75
  go_wp2_with (go_at_call 46; refine (rright_any A c n _ h (by omega)).mono ?_; rintro e w1 ⟨rfl, hb1⟩)
  go_ret2
  exact ⟨rfl, hb1⟩
set_option maxRecDepth 100000 in
set_option maxHeartbeats 400000 in
theorem rform_ok (A : Option Addr) (c : Nat) (n : List (List UInt8)) (w : World) (h : Rd w w.heap.size A n.length (sc n)) (hr : rightN n = true) :
    Calls Try.prog 75 #[.slice A n.length c] w fun e w' => ∃ v, e = .returned (.tuple #[v, .int .i64 0]) ∧ Ow w' w.heap.size 5 v (bc (formN n)) ∧ Below w.heap.size w w' := by
  obtain ⟨i0, hi, hz0, hz1, hz2⟩ := info_parts Try.infoByte
  have hs := size_right hr
  have hl := sizeN_length n
  go_enter Try.func75, Try.ntmps75
  go_wp2_with (go_at_call 46; refine (rright_any A c n _ h (by omega)).mono ?_; rw [hr]; rintro e w1 ⟨rfl, hb1⟩; have hsz1 := hb1.size)
  go_loopw [4, 5] (fun v1 i wr => ∃ k : Nat, k ≤ n.length ∧ i = .int .i64 k ∧ Ow wr w.heap.size 5 v1 (bc (labS (n.take k))) ∧ Below w.heap.size w wr) (fun _ i _ => n.length - (intOf i).toNat)
  case atStart => exact ⟨0, Nat.zero_le _, rfl, Ow.nil _ _ _, hb1⟩
  case round =>
    clear hb1 hsz1
    obtain ⟨k, hk, rfl, hownr, hbel⟩ := hrel
    have hr1 := h.below hbel
    have hb1 : w.heap.size ≤ wr.heap.size := hbel.size
    have hll := labS_length (n.take k)
    by_cases hlt : k < n.length
    · obtain ⟨b, o, rfl, hbB, hc⟩ := hr1.at_ hlt
      have hcell := hc k _ (sc_get n k hlt)
      have hle := mem_size (List.getElem_mem hlt)
      clear hc h hr1
      have hlr := sizeN_take_le n (k + 1)
      rw [sizeN_take n k hlt] at hlr
      go_wp2_with (first
        | (at_builtin; refine wpList_app (o := ⟨some 23, _, _, _, _, _⟩) _ rfl _ _ _ _ rfl w.heap.size 5 i0 (.int .u8 0) 1 Try.underlying22 hi hz0 hz1 hz2 rfl (Nat.le_refl _) _ _ (hownr.alloc _) rfl 1 [_] (one_src Try.underlying22 _ rfl) (by simp; omega) (by simp; omega) ?_; intro v2 w2 hown2 hgr2 hsz2; have hbz := (((Gr.refl wr _).alloc _).trans hgr2).below hownr.lt hb1; have q0 := (hbz.cell (p := ⟨b, o + k, none⟩) hbB).trans hcell)
        | (at_builtin; refine wpList_app (o := ⟨some 29, _, _, _, _, _⟩) _ rfl _ _ _ _ rfl w.heap.size 5 i0 (.int .u8 0) 1 Try.underlying22 hi hz0 hz1 hz2 rfl (Nat.le_refl _) _ _ hown2 rfl n[k].length (bc n[k]) (str_src Try.underlying9 _) (by simp; omega) hsz2 ?_; intro v3 w3 hown3 hgr3 hsz3))
      go_roundw
      case rel =>
        refine ⟨k + 1, by omega, by go_num, ?_, ?_⟩
        · rw [labS_take n k hlt]
          have e1 : bc (labS (n.take k) ++ UInt8.ofNat n[k].length :: n[k]) = bc (labS (n.take k)) ++ [.int .u8 (n[k].length : Int)] ++ bc n[k] := by
            simp [bc]; omega
          rw [e1]
          exact hown3
        · have hg := ((Gr.refl _ _).alloc _).trans (hgr2.trans hgr3)
          exact hbel.trans (hg.below hownr.lt hb1)
      case measure => simp [intOf]; omega
    · have : k = n.length := by omega
      subst this
      rw [List.take_length] at hll hownr
      go_wp2_with (at_builtin; refine wpList_app _ rfl _ _ _ _ rfl w.heap.size 5 i0 (.int .u8 0) 1 Try.underlying22 hi hz0 hz1 hz2 rfl (Nat.le_refl _) _ _ (hownr.alloc _) rfl 1 [_] (one_src Try.underlying22 _ rfl) (by simp; omega) (by simp; omega) ?_; intro v3 w3 hown3 hgr3 hsz3)
      go_ret2
      refine ⟨v3, rfl, ?_, ?_⟩
      · have e1 : bc (formN n) = bc (labS n) ++ [.int .u8 0] := by simp [formN, bc]
        rw [e1]; exact hown3
      · have hg := ((Gr.refl _ _).alloc _).trans hgr3
        exact hbel.trans (hg.below hownr.lt hb1)
end Go.Proofs.Ytlipmlbijddopaa
