/-
  ChunkWrong, under the guard.
-/
import Derived.Test.YtkjibnhihdbmdaaDoorChunkWr0
import Derived.Test.YtkjibnhihdbmdaaDoorChunkRE
set_option linter.unusedVariables false
set_option linter.unusedSimpArgs false
namespace Go.Proofs.YtkjibnhihdbmdaaDoor
open Go.RowKit
theorem make_65537 (W : World) : (Instr.makeSlice 22 (.int .i64 65537) (.int .i64 65537)).run Tryd.prog W = .ok (.slice (some ⟨W.heap.size, 0, none⟩) 65537 65537) (W.alloc (.cells (bc (List.replicate 65537 0)).toArray 5)) := make_bytes 65537 (by decide) W
theorem make_65536 (W : World) : (Instr.makeSlice 22 (.int .i64 65536) (.int .i64 65536)).run Tryd.prog W = .ok (.slice (some ⟨W.heap.size, 0, none⟩) 65536 65536) (W.alloc (.cells (bc (List.replicate 65536 0)).toArray 5)) := make_bytes 65536 (by decide) W
set_option maxRecDepth 100000 in
set_option maxHeartbeats 4000000 in
theorem chunkWrong_any (x0 : Int) (A1 : Option Addr) (c1 : Nat) (zs : List Nat) (y : Nat) (w : World) (henv : EnvOk w) (hx0 : -9223372036854775808 ≤ x0 ∧ x0 ≤ 9223372036854775807)
    (r1 : Rd w w.heap.size A1 zs.length (hc16 zs)) (hc1 : zs.length ≤ c1) (hz1 : ∀ n ∈ zs, n < 65536) (hy : y < 65536) :
    Calls Tryd.prog 6 #[.int .i64 x0, .slice A1 zs.length c1, .int .u16 (y : Int)] w fun e w' => e = .returned (.bool true) ∧ Below w.heap.size w w' := by
  obtain ⟨i0, hi, hi0, hi1, hi2⟩ := info_parts Tryd.clInfoByte
  obtain ⟨mz, hmz⟩ : ∃ mz, mz = min x0 0 := ⟨_, rfl⟩
  have hmz0 : mz < 1 := by omega
  have hmzi : min x0 0 = mz := hmz.symm
  have z1 : encE [1, 2, 3] [1, mz] = 2 := by
    have : ([1, mz] : List Int).any lt1 = true := by simp [lt1, hmz0]
    unfold encE; rw [if_neg (by decide), if_pos this]
  have z2 : encR [1, 2, 3] [1, mz] = [] := by unfold encR; rw [if_neg (by omega)]
  obtain ⟨big, hbig⟩ : ∃ big, big = List.replicate 65537 (0 : UInt8) := ⟨_, rfl⟩
  have b1l : big.length = 65537 := by rw [hbig]; exact List.length_replicate
  have y1 : encE big [0] = 3 := by unfold encE; rw [if_pos (by rw [b1l]; decide)]
  have y2 : encR big [0] = [] := by unfold encR; rw [if_neg (by omega)]
  have b2l : (List.replicate 65536 (0 : UInt8)).length = 65536 := List.length_replicate
  obtain ⟨body, hbody⟩ : ∃ body, body = List.replicate 65536 (0 : UInt8) := ⟨_, rfl⟩
  have hbl : body.length = 65536 := by rw [hbody]; exact b2l
  have hbne : body ≠ [] := fun e => by rw [e] at hbl; simp at hbl
  have x1 := encE_sz body zs (by omega)
  have x2 := encR_sz body zs (by omega)
  obtain ⟨P, hP⟩ : ∃ P, P = encP (body.length + 1) body (szL zs) := ⟨_, rfl⟩
  have hPO := encF_eq (body.length + 1) body (szL zs) (Nat.lt_succ_self _) (szL_pos zs)
  rw [← hP] at hPO
  obtain ⟨px, hpx⟩ := encP_end (body.length + 1) body (szL zs) (Nat.lt_succ_self _) hbne (szL_pos zs)
  rw [← hP] at hpx
  have hbnd := enc_bound (body.length + 1) body (szL zs) (szL_pos zs) (by omega)
  rw [hPO] at x2 hbnd
  obtain ⟨p, hp⟩ : ∃ p, p = P.length := ⟨_, rfl⟩
  have hpb : p ≤ 700000 := by rw [List.length_append] at hbnd; simp only [List.length_cons, List.length_nil] at hbnd; omega
  have hp2 : 2 ≤ p := by rw [hp, hpx]; simp
  have hOl : (P ++ [48, 13, 10, 13, 10]).length = p + 5 := by rw [List.length_append, hp]; rfl
  have hsuf : decide ((P ++ [48, 13, 10, 13, 10]).drop (p + 5 - 7) = [13, 10, 48, 13, 10, 13, 10]) = true := by
    rw [hpx] at hp ⊢
    have e : p + 5 - 7 = px.length := by rw [hp]; simp
    rw [e, List.append_assoc, List.drop_left' rfl]
    rfl
  have htk : (P ++ [48, 13, 10, 13, 10]).take p = P := List.take_left' hp.symm
  obtain ⟨M, hM⟩ : ∃ M, M = 1 + y % 4096 := ⟨_, rfl⟩
  have hMi : (1 : Int) + (y : Int) % 4096 = (M : Int) := by omega
  have hM1 : 1 ≤ M := by omega
  have hM2 : M ≤ 4096 := by omega
  have bml : (List.replicate M (0 : UInt8)).length = M := by simp
  have u1 : encE (List.replicate M 0) [] = 0 := by unfold encE; rw [if_neg (by rw [bml]; omega), if_neg (by simp)]
  have u2 : encR (List.replicate M 0) [] = encF (M + 1) (List.replicate M 0) [] := by unfold encR; rw [if_pos u1, bml]
  obtain ⟨X, hX⟩ : ∃ X, X = encF (M + 1) (List.replicate M 0) [] := ⟨_, rfl⟩
  have hXs : ∃ t, X = hexL M ++ t := by
    rw [hX]
    obtain ⟨M', rfl⟩ : ∃ M', M = M' + 1 := ⟨M - 1, by omega⟩
    rw [List.replicate_succ, encF]
    have e : chunkN ((0 : UInt8) :: List.replicate M' 0) [] = M' + 1 := by simp [chunkN]
    rw [e]
    exact ⟨_, rfl⟩
  obtain ⟨t, ht⟩ := hXs
  have hXl : X.length ≤ 50000 := by
    rw [hX]
    have := enc_bound (M + 1) (List.replicate M 0) [] (by simp) (by rw [bml]; omega)
    rw [bml] at this
    omega
  rw [← hX] at u2
  obtain ⟨q, hq1, hq2⟩ := dec_wrong (body.length + 1) body (szL zs) t M (Nat.lt_succ_self _) (szL_pos zs) hbl hM1
  rw [← hP, ← ht, ← hp] at hq1
  have D1 := Lib.hid (show (goR newR (P ++ X) 0).2 = p ∧ decE (goR newR (P ++ X) 0).1 = 3 ∧ decB (goR newR (P ++ X) 0).1 = [] by
    rw [hq1]; exact ⟨rfl, hq2, by unfold decB; rw [hq2]; rfl⟩)
  obtain ⟨xl, hxl⟩ : ∃ xl, X.length = xl := ⟨_, rfl⟩
  have hxlb : xl ≤ 50000 := by omega
  have mk1 := make_65537
  rw [← hbig] at mk1
  have mk2 := make_65536
  have mk3 := make_bytes M (by omega)
  rw [← hbody] at mk2
  have HE := Lib.hid henv
  have HR1 := Lib.hid r1
  have HZ := Lib.hid hz1
  have HA := Lib.hid (And.intro z1 z2)
  have HB_ := Lib.hid (And.intro y1 y2)
  have HC := Lib.hid (And.intro x1 x2)
  have HD := Lib.hid (And.intro u1 u2)
  have HBl := Lib.hid hbl
  have HOl := Lib.hid hOl
  have HSf := Lib.hid hsuf
  have HTk := Lib.hid htk
  have HPl := Lib.hid hp
  have HXl := Lib.hid hxl
  have HMl := Lib.hid bml
  have HB1l := Lib.hid b1l
  have hszl := szL_len zs
  have ksl := fun (A : Option Addr) (c : Nat) (h : p ≤ c) => sl_h A (p + 5) c p h
  have hcbb := fun (w : World) (C : Array Value) (n c : Nat) => Lib.run_convert_bytes_const (P := Tryd.prog) w 22 5 C n c Tryd.underlying22 Tryd.underlying5
  have hpi : (p : Int) + 5 - 5 = (p : Int) := by omega
  clear henv r1 hz1 z1 z2 y1 y2 x1 x2 u1 u2 hbl hbne hOl hsuf htk hp hpx hP hPO hX ht hXl hq1 hq2 hbnd hxl bml b1l b2l hmz hM hbody hbig
  have tok1 : True := trivial
  go_enter Tryd.func6, Tryd.ntmps6
  go_upto_region 5 with (first
    | (go_at_call 15; refine (encode_res (some ⟨w2.heap.size, 0, none⟩) (some ⟨w2.heap.size + 1, 0, none⟩) 65537 65537 1 1 big [0] ((w2.alloc (.cells (bc big).toArray 5)).alloc (.cells (ic [0]).toArray 3)) 3 0 [] HB_.out.1 HB_.out.2 rfl HB1l.out rfl (rd_top (rd_lit w2 5 (bc big) 65537 _ rfl (by rw [bc_length]; exact HB1l.out)) _) (rd_lit (w2.alloc (.cells (bc big).toArray 5)) 3 (ic [0]) 1 _ (by simp) rfl) (Nat.le_refl _) (by decide) (by decide) (HE.out.below ((HB2.out.alloc HB2.out.size _).alloc (HB2.out.alloc HB2.out.size _).size _))).mono ?_; rintro e w3 ⟨A3, c3, rfl, hc3, ho3, hb3⟩; have HB3 := Lib.hid (((HB2.out.alloc HB2.out.size _).alloc (HB2.out.alloc HB2.out.size _).size _).trans (hb3.mono (by have := HB2.out.size; simp; omega))); clear ho3 hb3)
    | (go_at_call 15; have _t := tok1; refine (encode_res (some ⟨w1.heap.size, 0, none⟩) (some ⟨w1.heap.size + 1, 0, none⟩) 3 3 2 2 [1, 2, 3] [1, mz] ((w1.alloc (.cells (bc [1, 2, 3]).toArray 5)).alloc (.cells (ic [1, mz]).toArray 3)) 2 0 [] HA.out.1 HA.out.2 rfl rfl rfl (rd_top (rd_lit w1 5 (bc [1, 2, 3]) 3 _ rfl rfl) _) (rd_lit (w1.alloc (.cells (bc [1, 2, 3]).toArray 5)) 3 (ic [1, mz]) 2 _ (by simp) rfl) (Nat.le_refl _) (by decide) (by decide) (HE.out.below ((HB1.out.alloc HB1.out.size _).alloc (HB1.out.alloc HB1.out.size _).size _))).mono ?_; rintro e w2 ⟨A2', c2', rfl, hc2', ho2, hb2'⟩; have HB2 := Lib.hid (((HB1.out.alloc HB1.out.size _).alloc (HB1.out.alloc HB1.out.size _).size _).trans (hb2'.mono (by have := HB1.out.size; simp; omega))); clear ho2 hb2' tok1)
    | (go_at_call 13; refine (awake_any w HE.out).mono ?_; rintro e w1 ⟨rfl, hb1⟩; have HB1 := Lib.hid hb1; clear hb1))
  have HR3 := Lib.hid (rd_step HR1.out HB3.out)
  have HE3 := Lib.hid (HE.out.below HB3.out)
  go_cut [11, 12] from 36 to 42 (fun v11 v12 wx => ∃ A c, v11 = .slice A (p + 5) c ∧ p + 5 ≤ c ∧ v12 = .int .i64 0 ∧ Rd wx wx.heap.size A (p + 5) (bc (P ++ [48, 13, 10, 13, 10])) ∧ Below w3.heap.size w3 wx)
  case first =>
    have hS0 : Below w3.heap.size w3 w3.drew := (Below.refl _ _).drew
    have hS1 : Below w3.heap.size w3 w3 := Below.refl _ _
    go_region_held3 (fun W => Below w3.heap.size w3 W) ((first | assumption | (refine keep_alloc1 ?_ _; assumption) | (refine keep_ad1 ?_ _; assumption) | (refine Below.drew ?_; assumption))) (first
      | (go_at_call 15
         have hrb : Rd w4 w4.heap.size (some ⟨w3.heap.size, 0, none⟩) 65536 (bc body) := rd_step (rd_litD w3 5 (bc body) 65536 _ rfl (by rw [bc_length]; exact HBl.out)) (by with_reducible exact hb4)
         refine (encode_res (some ⟨w3.heap.size, 0, none⟩) Az 65536 65536 cz (szL zs).length body (szL zs) w4 0 (p + 5) (P ++ [48, 13, 10, 13, 10]) HC.out.1 HC.out.2 HOl.out HBl.out rfl ?_ ?_ ?_ ?_ ?_ ?_).mono ?_
         · exact hrb
         · exact ow_rd ho4
         · exact Nat.le_refl _
         · decide
         · omega
         · exact HE3.out.below hS4
         rintro e w5 ⟨A5, c5, rfl, hc5, ho5, hb5⟩
         have hS5 : Below w3.heap.size w3 w5 := Below.trans hS4 (hb5.mono hS4.size))
      | (go_at_call 15
         refine (encode_res (some ⟨w4.heap.size, 0, none⟩) Az 65536 65536 cz (szL zs).length body (szL zs) (w4.alloc (.cells (bc body).toArray 5)) 0 (p + 5) (P ++ [48, 13, 10, 13, 10]) HC.out.1 HC.out.2 HOl.out HBl.out rfl ?_ ?_ ?_ ?_ ?_ ?_).mono ?_
         · exact rd_lit w4 5 (bc body) 65536 _ rfl (by rw [bc_length]; exact HBl.out)
         · exact rd_top (ow_rd ho4) _
         · exact Nat.le_refl _
         · decide
         · omega
         · exact HE3.out.below (keep_alloc1 hS4 _)
         rintro e w5 ⟨A5, c5, rfl, hc5, ho5, hb5⟩
         have hS5 : Below w3.heap.size w3 w5 := Below.trans (keep_alloc1 hS4 _) (hb5.mono (keep_alloc1 hS4 _).size))
      | (go_at_call 16
         refine (sizes_at A1 c1 zs.length zs _ rfl ?_ hc1 HZ.out).mono ?_
         · exact rd_step HR3.out (by assumption)
         rintro e w4 ⟨Az, cz, rfl, hcz, ho4, hb4⟩
         have hS4 : Below w3.heap.size w3 w4 := Below.trans (by assumption) (hb4.mono (Below.size (by assumption)))))
    all_goals
      go_wp2_with fail
      go_meet
      exact ⟨A5, c5, rfl, hc5, rfl, ow_rd ho5, hS5⟩
  case rest =>
    obtain ⟨A5, c5, rfl, hc5, rfl, hr5, hb5⟩ := hcut
    have hpp : Rd wc wc.heap.size A5 p (bc P) := by
      have := rd_pre hr5 (k := p) (by omega)
      rw [HTk.out] at this
      exact this
    have HR5 := Lib.hid hr5
    have HP5 := Lib.hid hpp
    have HB5 := Lib.hid (HB3.out.trans (hb5.mono HB3.out.size))
    clear hr5 hpp hb5
    go_upto_region 8 with (first
      | (go_at_call 20; refine (suffix_b A5 (some ⟨wc.heap.size, 0, none⟩) c5 7 (p + 5) 7 (P ++ [48, 13, 10, 13, 10]) [13, 10, 48, 13, 10, 13, 10] true (wc.alloc (.cells (bc [13, 10, 48, 13, 10, 13, 10]).toArray 5 (7, 8))) HSf.out HOl.out rfl (by omega) hc5 (by omega) (rd_top HR5.out _) (rd_litM wc 5 (bc [13, 10, 48, 13, 10, 13, 10]) 7 _ 7 8 rfl rfl)).mono ?_; rintro e w6 ⟨rfl, hw6⟩; have HP6 := Lib.hid (show Rd w6 w6.heap.size A5 p (bc P) by rw [hw6]; exact rd_top HP5.out _); have HB6 := Lib.hid (show Below w.heap.size w w6 by rw [hw6]; exact HB5.out.alloc HB5.out.size _); clear hw6))
    go_wp2_with (first
      | (go_at_call 17; refine (decode_res A9 c9 (p + xl) (P ++ X) w9 p 3 0 [] D1.out.1 D1.out.2.1 D1.out.2.2 rfl (by rw [List.length_append, HXl.out, ← HPl.out]) (ow_rd HO9.out) (by omega)).mono ?_; rintro e w10 ⟨A10, c10, rfl, hc10, ho10, hb10⟩; have HB10 := Lib.hid (HB9.out.trans (hb10.mono HB9.out.size)); clear ho10 hb10)
      | (at_builtin; refine wpList_app _ rfl _ _ _ _ rfl w7.heap.size 5 i0 (.int .u8 0) 1 Tryd.underlying22 hi hi0 hi1 hi2 rfl (Nat.le_refl _) _ _ HO8.out rfl xl (bc X) ((rd_step HR7.out HB78.out).src Tryd.underlying22 (bc_one _)) (by rw [bc_length, ← HPl.out]; omega) HB8s ?_; intro v9 w9 hown9 hgr9 hsz9; rw [bc_app] at hown9; obtain ⟨A9, c9, rfl, hl9, _⟩ := ow_formL hown9 (p + xl) (by rw [bc_length, List.length_append, HXl.out, ← HPl.out]); have HO9 := Lib.hid hown9; have HB9 := Lib.hid (HB8.out.trans (hgr9.below (fun q hq => Nat.le_trans HB7.out.size (HO8.out.lt q hq)) HB8.out.size)); clear hown9 hgr9)
      | (go_at_call 18; refine (cl_b A5 c5 p P w7 HPl.out.symm HP7.out (by omega)).mono ?_; rintro e w8 ⟨v8, rfl, ho8, hb8⟩; obtain ⟨A8, c8, rfl, hl8, _⟩ := ow_formL ho8 p (by rw [bc_length]; exact HPl.out.symm); have HO8 := Lib.hid ho8; have HB8s := hb8.size; have HB78 := Lib.hid hb8; have HB8 := Lib.hid (HB7.out.trans (hb8.mono HB7.out.size)); clear ho8 hb8)
      | (go_at_call 15; refine (encode_res (some ⟨w6.heap.size, 0, none⟩) none M M 0 0 (List.replicate M 0) [] (w6.alloc (.cells (bc (List.replicate M 0)).toArray 5)) 0 xl X HD.out.1 HD.out.2 HXl.out HMl.out rfl (rd_lit w6 5 (bc (List.replicate M 0)) M _ rfl (by rw [bc_length]; exact HMl.out)) (Rd.nil _ _ _) (Nat.le_refl _) (by omega) (by decide) (HE.out.below (HB6.out.alloc HB6.out.size _))).mono ?_; rintro e w7 ⟨A7, c7, rfl, hc7, ho7, hb7⟩; have HB67 := hb7; have HR7 := Lib.hid (ow_rd ho7); have HP7 := Lib.hid (rd_step (rd_top HP6.out _) hb7); have HB7 := Lib.hid ((HB6.out.alloc HB6.out.size _).trans (hb7.mono (by have := HB6.out.size; simp; omega))); clear ho7 hb7 HB67))
    have dl : decide ((p : Int) < (p : Int) + 3) = true := decide_eq_true (by omega)
    go_ret
    exact ⟨by rw [dl]; rfl, HB10.out⟩
end Go.Proofs.YtkjibnhihdbmdaaDoor
