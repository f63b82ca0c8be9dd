/-
  ChunkShort, under the guard: the law.
-/
import Derived.Test.YtkjibnhihdbmdaaDoorChunkShort
set_option linter.unusedVariables false
set_option linter.unusedSimpArgs false
namespace Go.Proofs.YtkjibnhihdbmdaaDoor
open Go.RowKit
theorem any_rep (k : Nat) (n : Nat) (hn : 1 ≤ n) : (List.replicate k (n : Int)).any lt1 = false := by
  rw [List.any_eq_false]
  intro z hz
  rw [List.eq_of_mem_replicate hz]
  simp [lt1]; omega
set_option maxRecDepth 100000 in
set_option maxHeartbeats 2000000 in
theorem chunkShort_any (A0 : Option Addr) (c0 : Nat) (b0 : List UInt8) (x : Nat) (w : World) (henv : EnvOk w)
    (r0 : Rd w w.heap.size A0 b0.length (bc b0)) (hc0 : b0.length ≤ c0) (hb0 : b0.length ≤ 140737488351232) (hx : x < 65536) :
    Calls Tryd.prog 10 #[.slice A0 b0.length c0, .int .u16 (x : Int)] w fun e w' => e = .returned (.bool true) ∧ Below w.heap.size w w' := by
  obtain ⟨L, hL⟩ : ∃ L, L = min b0.length 3000 := ⟨_, rfl⟩
  have hmin : min (b0.length : Int) 3000 = (L : Int) := by omega
  have hL1 : L ≤ b0.length := by omega
  have hL2 : L ≤ 3000 := by omega
  have hLc : L ≤ c0 := by omega
  have ksl := sl_h A0 b0.length c0 L (by omega)
  have rp := rd_pre r0 hL1
  have hl : (b0.take L).length = L := by rw [List.length_take]; omega
  generalize b0.take L = b at rp hl
  obtain ⟨N, hN⟩ : ∃ N, N = 1 + x := ⟨_, rfl⟩
  have hNi : (1 : Int) + (x : Int) = (N : Int) := by omega
  have hN1 : 1 ≤ N := by omega
  have hN2 : N ≤ 65536 := by omega
  obtain ⟨Q, hQ⟩ : ∃ Q, Q = L / N := ⟨_, rfl⟩
  obtain ⟨M, hM⟩ : ∃ M, M = L % N := ⟨_, rfl⟩
  have hQi : (L : Int) / (N : Int) = (Q : Int) := by rw [hQ]; push_cast; rfl
  have hMi : (L : Int) % (N : Int) = (M : Int) := by rw [hM]; push_cast; rfl
  have hQi2 : (L : Int).tdiv (N : Int) = (Q : Int) := by rw [Int.tdiv_eq_ediv_of_nonneg (by omega)]; exact hQi
  have hMi2 : (L : Int).tmod (N : Int) = (M : Int) := by rw [Int.tmod_eq_emod_of_nonneg (by omega)]; exact hMi
  have hQL : Q ≤ L := by rw [hQ]; exact Nat.div_le_self _ _
  have hML : M < N := by rw [hM]; exact Nat.mod_lt _ (by omega)
  obtain ⟨h, hh⟩ : ∃ h, h = (hexL N).length := ⟨_, rfl⟩
  obtain ⟨h2, hh2⟩ : ∃ h2, h2 = (hexL M).length := ⟨_, rfl⟩
  have h5 : h ≤ 5 := by rw [hh]; exact hexL_five N (by omega)
  have h25 : h2 ≤ 5 := by rw [hh2]; exact hexL_five M (by omega)
  obtain ⟨P, hP⟩ : ∃ P, P = Q * (h + 4) := ⟨_, rfl⟩
  have hPb : P ≤ 27000 := by
    rw [hP]
    calc Q * (h + 4) ≤ 3000 * 9 := Nat.mul_le_mul (by omega) (by omega)
      _ ≤ 27000 := by omega
  have hPi : (Q : Int) * ((h : Int) + 4) = (P : Int) := by rw [hP]; push_cast; rfl
  have hE : encE b (List.replicate (Q + 1) (N : Int)) = 0 := by unfold encE; rw [if_neg (by omega), if_neg (by rw [any_rep _ _ hN1]; simp)]
  have hR : encR b (List.replicate (Q + 1) (N : Int)) = encF (b.length + 1) b (List.replicate (Q + 1) (N : Int)) := by unfold encR; rw [if_pos hE]
  have hlen := enc_len N (by omega) (b.length + 1) b (Q + 1) (Nat.lt_succ_self _) (by rw [hl, ← hQ]; omega)
  rw [hl, ← hQ, ← hM, ← hh, ← hh2, ← hP] at hlen
  obtain ⟨O, hO⟩ : ∃ O, O = encF (b.length + 1) b (List.replicate (Q + 1) (N : Int)) := ⟨_, rfl⟩
  rw [hl] at hO
  rw [hl, ← hO] at hR
  rw [← hO] at hlen
  have d1 := digits_at N (by omega)
  rw [← hh] at d1
  have d2 := digits_at M (by omega)
  rw [← hh2] at d2
  have D1 := Lib.hid d1
  have D2 := Lib.hid d2
  have HE := Lib.hid henv
  have HR0 := Lib.hid rp
  have HLb := Lib.hid hl
  have HEn := Lib.hid hE
  have HRn := Lib.hid hR
  have hrl : (List.replicate (Q + 1) (N : Int)).length = Q + 1 := by simp
  have HRl := Lib.hid hrl
  have q1 : IntKind.i64.wrap ((L : Int) + 5) = (L : Int) + 5 := IntWalk.i64_in _ (by omega)
  have q2 : IntKind.i64.wrap ((h : Int) + 4) = (h : Int) + 4 := IntWalk.i64_in _ (by omega)
  have q3 : IntKind.i64.wrap (P : Int) = (P : Int) := IntWalk.i64_in _ (by omega)
  have q4 : IntKind.i64.wrap ((L : Int) + 5 + (P : Int)) = (L : Int) + 5 + (P : Int) := IntWalk.i64_in _ (by omega)
  have q5 : IntKind.i64.wrap (Q : Int) = (Q : Int) := IntWalk.i64_in _ (by omega)
  have n0 : ((N : Int) == 0) = false := by simp; omega
  by_cases hm0 : 0 < M
  · obtain ⟨T, hT⟩ : ∃ T, T = L + 5 + P + (h2 + 4) := ⟨_, rfl⟩
    rw [if_pos hm0, ← hT] at hlen
    have HLen := Lib.hid hlen
    have hTi : (L : Int) + 5 + (P : Int) + ((h2 : Int) + 4) = (T : Int) := by omega
    have hTb : T ≤ 40000 := by omega
    clear henv rp r0 hl hE hR hrl hlen hO hh hh2 hP hQ hM hN d1 d2 hL hT
    go_enter Tryd.func10, Tryd.ntmps10
    go_wp2_with (first
      | (go_at_call 15; refine (encode_res A0 (some ⟨g2, 0, none⟩) c0 L (Q + 1) (Q + 1) b (List.replicate (Q + 1) (N : Int)) w2 0 T O HEn.out HRn.out HLen.out HLb.out HRl.out ((HR0.out.below HB2.out).more HB2.out.size) HR2.out (by omega) (by omega) (by omega) (HE.out.below HB2.out)).mono ?_; rintro e w3 ⟨A3, c3, rfl, hc3, ho3, hb3⟩; have HB3 := Lib.hid (HB2.out.trans (hb3.mono HB2.out.size)); clear ho3 hb3)
      | (go_at_call 31; refine (repeat_at w1.heap.size 1 (Q + 1) (N : Int) (w1.alloc (.cells #[.int .i64 (N : Int)] 3)) (by exact heap_cells (heap_alloc_new w1 (.cells ([.int .i64 (N : Int)] : List Value).toArray 3)) 0) (by simp) (by omega) (by omega)).mono ?_; rintro e w2 ⟨g2, rfl, hr2, hb2⟩; have HR2 := Lib.hid hr2; have HB2 := Lib.hid ((HB1.out.alloc HB1.out.size _).trans (hb2.mono (by have := HB1.out.size; simp; omega))); clear hr2 hb2)
      | (go_at_call 13; refine (awake_any w HE.out).mono ?_; rintro e w1 ⟨rfl, hb1⟩; have HB1 := Lib.hid hb1; clear hb1))
    go_quiet ((go_at_call 32; exact Calls.quiet_of_same (D1.out _)))
    go_wp2_with (go_at_call 32; refine (D2.out _).mono ?_; rintro e w4 ⟨rfl, rfl⟩)
    go_ret
    exact ⟨rfl, below_dn HB3.out _⟩
  · obtain ⟨T, hT⟩ : ∃ T, T = L + 5 + P := ⟨_, rfl⟩
    rw [if_neg hm0, Nat.add_zero, ← hT] at hlen
    have HLen := Lib.hid hlen
    have hTi : (L : Int) + 5 + (P : Int) = (T : Int) := by omega
    have hTb : T ≤ 40000 := by omega
    have hM0 : M = 0 := by omega
    subst hM0
    clear henv rp r0 hl hE hR hrl hlen hO hh hh2 hP hQ hM hN d1 d2 hL hT D2
    go_enter Tryd.func10, Tryd.ntmps10
    go_wp2_with (first
      | (go_at_call 15; refine (encode_res A0 (some ⟨g2, 0, none⟩) c0 L (Q + 1) (Q + 1) b (List.replicate (Q + 1) (N : Int)) w2 0 T O HEn.out HRn.out HLen.out HLb.out HRl.out ((HR0.out.below HB2.out).more HB2.out.size) HR2.out (by omega) (by omega) (by omega) (HE.out.below HB2.out)).mono ?_; rintro e w3 ⟨A3, c3, rfl, hc3, ho3, hb3⟩; have HB3 := Lib.hid (HB2.out.trans (hb3.mono HB2.out.size)); clear ho3 hb3)
      | (go_at_call 31; refine (repeat_at w1.heap.size 1 (Q + 1) (N : Int) (w1.alloc (.cells #[.int .i64 (N : Int)] 3)) (by exact heap_cells (heap_alloc_new w1 (.cells ([.int .i64 (N : Int)] : List Value).toArray 3)) 0) (by simp) (by omega) (by omega)).mono ?_; rintro e w2 ⟨g2, rfl, hr2, hb2⟩; have HR2 := Lib.hid hr2; have HB2 := Lib.hid ((HB1.out.alloc HB1.out.size _).trans (hb2.mono (by have := HB1.out.size; simp; omega))); clear hr2 hb2)
      | (go_at_call 13; refine (awake_any w HE.out).mono ?_; rintro e w1 ⟨rfl, hb1⟩; have HB1 := Lib.hid hb1; clear hb1))
    go_quiet ((go_at_call 32; exact Calls.quiet_of_same (D1.out _)))
    go_wp2_with fail
    go_ret
    exact ⟨rfl, below_dn HB3.out _⟩
end Go.Proofs.YtkjibnhihdbmdaaDoor
