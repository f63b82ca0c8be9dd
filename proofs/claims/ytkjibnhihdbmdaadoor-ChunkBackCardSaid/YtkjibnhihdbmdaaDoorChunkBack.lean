/-
  ChunkBack, under the guard.
-/
import Derived.Test.YtkjibnhihdbmdaaDoorChunkLaw
set_option linter.unusedVariables false
set_option linter.unusedSimpArgs false
namespace Go.Proofs.YtkjibnhihdbmdaaDoor
open Go.RowKit
set_option maxRecDepth 100000 in
set_option maxHeartbeats 2000000 in
theorem chunkBack_any (A0 : Option Addr) (c0 : Nat) (b0 : List UInt8) (A1 : Option Addr) (c1 : Nat) (zs : List Nat) (A2 : Option Addr) (c2 : Nat) (tail : List UInt8) (w : World) (henv : EnvOk w)
    (r0 : Rd w w.heap.size A0 b0.length (bc b0)) (hc0 : b0.length ≤ c0) (hb0 : b0.length ≤ 140737488351232) (r1 : Rd w w.heap.size A1 zs.length (hc16 zs)) (hc1 : zs.length ≤ c1) (hz1 : ∀ n ∈ zs, n < 65536)
    (r2 : Rd w w.heap.size A2 tail.length (bc tail)) (hc2 : tail.length ≤ c2) (hb2 : tail.length ≤ 140737488351232) :
    Calls Tryd.prog 5 #[.slice A0 b0.length c0, .slice A1 zs.length c1, .slice A2 tail.length c2] w fun e w' => e = .returned (.bool true) ∧ Below w.heap.size w w' := by
  obtain ⟨i0, hi, hi0, hi1, hi2⟩ := info_parts Tryd.clInfoByte
  obtain ⟨K, hK⟩ : ∃ K, K = min b0.length 3000 := ⟨_, rfl⟩
  have hmin : min (b0.length : Int) 3000 = (K : Int) := by omega
  have hK1 : K ≤ b0.length := by omega
  have hK2 : K ≤ 3000 := by omega
  have ksl := sl_h A0 b0.length c0 K (by omega)
  have rp := rd_pre r0 hK1
  have hl : (b0.take K).length = K := by rw [List.length_take]; omega
  generalize b0.take K = body at rp hl
  have hE := encE_sz body zs (by omega)
  have hR := encR_sz body zs (by omega)
  obtain ⟨O, hO⟩ : ∃ O, O = encF (body.length + 1) body (szL zs) := ⟨_, rfl⟩
  rw [← hO] at hR
  obtain ⟨q, hq, hqe, hqb⟩ := dec_enc (body.length + 1) body (szL zs) tail (by omega) (szL_pos zs) (by omega)
  rw [← hO] at hq
  have hOl : O.length ≤ 10 * K + 5 := by rw [hO, ← hl]; exact enc_bound _ _ _ (szL_pos zs) (by omega)
  have d1 : (goR newR (O ++ tail) 0).2 = O.length := by rw [hq]
  have d2 : decE (goR newR (O ++ tail) 0).1 = 0 := by rw [hq]; exact hqe
  have d3 : decB (goR newR (O ++ tail) 0).1 = body := by rw [hq]; unfold decB; rw [if_pos hqe]; exact hqb
  have hzl := szL_len zs
  have HR0 := Lib.hid rp
  have HR1 := Lib.hid r1
  have HR2 := Lib.hid r2
  have HE := Lib.hid henv
  have HL := Lib.hid hl
  have HEn := Lib.hid hE
  have HRn := Lib.hid hR
  have HZ := Lib.hid hz1
  have D1 := Lib.hid d1
  have D2 := Lib.hid d2
  have D3 := Lib.hid d3
  clear rp r0 r1 r2 henv hl hE hR hz1 hO hq hqe hqb d1 d2 d3 hK
  go_enter Tryd.func5, Tryd.ntmps5
  go_wp2_with (first
    | (go_at_call 19; refine (eq_b A6 A0 c6 c0 K K body body true w6 (decide_eq_true rfl) HL.out HL.out (ow_rd HO6.out) ((HR0.out.below HB6.out).more HB6.out.size)).mono ?_; rintro e w6 ⟨rfl, rfl⟩)
    | (go_at_call 17; refine (decode_res A5 c5 (O.length + tail.length) (O ++ tail) w5 O.length 0 K body D1.out D2.out D3.out HL.out (by simp) (ow_rd HO5.out) (by omega)).mono ?_; rintro e w6 ⟨A6, c6, rfl, hc6, ho6, hb6⟩; have HO6 := Lib.hid ho6; have HB6 := Lib.hid (HB5.out.trans (hb6.mono HB5.out.size)); clear ho6 hb6)
    | (at_builtin; refine wpList_appW _ rfl _ _ _ _ rfl w3.heap.size 5 i0 (.int .u8 0) 1 Tryd.underlying22 hi hi0 hi1 hi2 rfl (Nat.le_refl _) _ _ HO4.out rfl tail.length (bc tail) ((HR2.out.below HB4.out).src Tryd.underlying22 (bc_one _)) (by rw [bc_length]; omega) HB4s ?_; intro v5 w5 hown5 hgr5 hsz5; rw [bc_app] at hown5; obtain ⟨A5, c5, rfl, hl5, _⟩ := ow_formL hown5 (O.length + tail.length) (by simp); have HO5 := Lib.hid hown5; have HB5 := Lib.hid (HB4.out.trans (hgr5.below (fun q hq => Nat.le_trans HB3.out.size (HO4.out.lt q hq)) HB4.out.size)); clear hown5 hgr5)
    | (go_at_call 18; refine (cl_b A3 c3 O.length O w3 rfl (ow_rd HO3.out) (by omega)).mono ?_; rintro e w4 ⟨v4, rfl, ho4, hb4⟩; obtain ⟨A4, c4, rfl, hl4, _⟩ := ow_formL ho4 O.length (by simp); have HO4 := Lib.hid ho4; have HB4s := hb4.size; have HB4 := Lib.hid (HB3.out.trans (hb4.mono HB3.out.size)); clear ho4 hb4)
    | (go_at_call 15; refine (encode_res A0 Az c0 K cz (szL zs).length body (szL zs) w2 0 O.length O HEn.out HRn.out rfl HL.out rfl ((HR0.out.below HB2.out).more HB2.out.size) (ow_rd HO2.out) (by omega) (by omega) (by omega) (HE.out.below HB2.out)).mono ?_; rintro e w3 ⟨A3, c3, rfl, hc3, ho3, hb3⟩; have HO3 := Lib.hid ho3; have HB3 := Lib.hid (HB2.out.trans (hb3.mono HB2.out.size)); clear ho3 hb3)
    | (go_at_call 16; refine (sizes_at A1 c1 zs.length zs w1 rfl ((HR1.out.below HB1.out).more HB1.out.size) hc1 HZ.out).mono ?_; rintro e w2 ⟨Az, cz, rfl, hcz, ho2, hb2'⟩; have HO2 := Lib.hid ho2; have HB2 := Lib.hid (HB1.out.trans (hb2'.mono HB1.out.size)); clear ho2 hb2')
    | (go_at_call 13; refine (awake_any w HE.out).mono ?_; rintro e w1 ⟨rfl, hb1⟩; have HB1 := Lib.hid hb1; clear hb1))
  go_ret
  exact ⟨rfl, HB6.out⟩
end Go.Proofs.YtkjibnhihdbmdaaDoor
