/-
  NameTexts, under the guard.
-/
import Derived.Test.YtnfgcfljjmjmpaaDoorTextsP
import Derived.Test.YtnfgcfljjmjmpaaDoorTells
import Derived.Test.YtnfgcfljjmjmpaaDoorAwake
import Derived.Test.YtnfgcfljjmjmpaaDoorAt
set_option linter.unusedVariables false
set_option linter.unusedSimpArgs false
namespace Go.Proofs.YtnfgcfljjmjmpaaDoor
open Go.RowKit
theorem below_dn {n : Nat} {w w' : World} (h : Below n w w') (q : Nat) : Below n w (w'.drewN q) := ⟨h.os, h.tape, h.output, h.size, h.block⟩
theorem str_eq (a b : List UInt8) : ((⟨a.toArray⟩ : ByteArray).toList == (⟨b.toArray⟩ : ByteArray).toList) = decide (a = b) := by
  rw [ByteArray.toList_eq, ByteArray.toList_eq]
  by_cases h : a = b
  · subst h; simp
  · simp [h]
set_option maxRecDepth 100000 in
set_option maxHeartbeats 8000000 in
theorem nameTexts_any (A0 : Option Addr) (c0 : Nat) (l0 : List (List UInt8)) (A1 : Option Addr) (c1 : Nat) (l1 : List (List UInt8)) (s : List UInt8) (cp : Nat) (w : World) (_ht : True)
    (r0 : Rd w w.heap.size A0 l0.length (sc l0)) (hc0 : l0.length ≤ c0) (hb0 : l0.length * 16 ≤ 140737488351232) (hx0 : ∀ x ∈ l0, x.length ≤ 140737488351232)
    (r1 : Rd w w.heap.size A1 l1.length (sc l1)) (hc1 : l1.length ≤ c1) (hb1 : l1.length * 16 ≤ 140737488351232) (hx1 : ∀ x ∈ l1, x.length ≤ 140737488351232)
    (hs : s.length ≤ 140737488351232) (hcp : cp < 256) :
    Calls Tryd.prog 3 #[.slice A0 l0.length c0, .slice A1 l1.length c1, .string ⟨s.toArray⟩, .int .u8 (cp : Int)] w fun e w' => e = .returned (.bool true) ∧ Below w.heap.size w w' := by
  obtain ⟨N, hN⟩ : ∃ N, madeN l0 = N := ⟨_, rfl⟩
  obtain ⟨M, hM⟩ : ∃ M, madeN l1 = M := ⟨_, rfl⟩
  have hNr : rightN N = true := by rw [← hN]; exact made_right l0
  have hMr : rightN M = true := by rw [← hM]; exact made_right l1
  obtain ⟨T, hT⟩ : ∃ T, textN N = T := ⟨_, rfl⟩
  obtain ⟨U, hU⟩ : ∃ U, textN M = U := ⟨_, rfl⟩
  have hTR : textR N = (T, 0) := by unfold textR; rw [if_pos hNr, hT]
  have hUR : textR M = (U, 0) := by unfold textR; rw [if_pos hMr, hU]
  have hPT : rparse T = (N, 0) := by rw [← hT]; exact Tx.parse_of_text N hNr
  obtain ⟨bE, hbE⟩ : ∃ b, decide (N = M) = b := ⟨_, rfl⟩
  have hTU : ((⟨T.toArray⟩ : ByteArray).toList == (⟨U.toArray⟩ : ByteArray).toList) = bE := by
    rw [str_eq, ← hbE]
    by_cases h : N = M
    · rw [decide_eq_true h, decide_eq_true]; rw [← hT, ← hU, h]
    · rw [decide_eq_false h, decide_eq_false]
      intro e
      have h2 := Tx.parse_of_text M hMr
      rw [hU, ← e, hPT] at h2
      exact h (Prod.mk.inj h2).1
  have hTU2 : (T == U) = bE := by
    rw [str_eq] at hTU
    rw [← hTU]
    by_cases h : T = U
    · subst h; simp
    · rw [decide_eq_false h]; exact beq_eq_false_iff_ne.2 h
  have hbb : (bE != bE) = false := by cases bE <;> rfl
  obtain ⟨K, hK⟩ : ∃ K, T.length = K := ⟨_, rfl⟩
  obtain ⟨LN, hLN⟩ : ∃ L, N.length = L := ⟨_, rfl⟩
  obtain ⟨LM, hLM⟩ : ∃ L, M.length = L := ⟨_, rfl⟩
  have hK2 : K ≤ 1020 := by
    rw [← hK, ← hT]
    have h1 := size_right hNr
    unfold textN
    split
    · simp
    · have := tjoin_length N; omega
  have hLN2 : LN ≤ 84 := by rw [← hLN, ← hN]; exact made_len l0
  have hLM2 : LM ≤ 84 := by rw [← hLM, ← hM]; exact made_len l1
  have hsN := size_right hNr
  have hsM := size_right hMr
  obtain ⟨q, hq⟩ : ∃ q, q = cp % 3 := ⟨_, rfl⟩
  have hq3 : q < 3 := by omega
  have kq1 : (cp : Int) % 3 = (q : Int) := by omega
  have kq2 : (cp : Int).tmod 3 = (q : Int) := by rw [Int.tmod_eq_emod_of_nonneg (by omega)]; exact kq1
  obtain ⟨S, hS⟩ : ∃ S, s.length = S := ⟨_, rfl⟩
  have kS : (⟨s.toArray⟩ : ByteArray).size = S := hS
  have HR0 := Lib.hid r0
  have HR1 := Lib.hid r1
  have HX0 := Lib.hid hx0
  have HX1 := Lib.hid hx1
  have HN := Lib.hid hN
  have HM := Lib.hid hM
  have HTR := Lib.hid hTR
  have HUR := Lib.hid hUR
  have HPT := Lib.hid hPT
  have HbE := Lib.hid hbE
  have HK := Lib.hid hK
  have HLN := Lib.hid hLN
  have HLM := Lib.hid hLM
  have HSl := Lib.hid hS
  rw [hS] at hs
  clear r0 r1 hx0 hx1 hN hM hTR hUR hPT hbE hK hLN hLM hq hT hU hNr hMr hS
  go_enter Tryd.func3, Tryd.ntmps3
  go_upto_region 6 with (first
    | (go_at_call 7; refine (text_all w4 AM cM LM M U 0 HUR.out HLM.out (HRm.out w4 HB34.out) (by omega)).mono ?_; rintro e w5 ⟨rfl, hb5⟩; have HB35 := Lib.hid (HB34.out.trans (hb5.mono HB34.out.size)); clear hb5)
    | (go_at_call 7; refine (text_all w3 AN cN LN N T 0 HTR.out HLN.out (HRn.out w3 HB23.out) (by omega)).mono ?_; rintro e w4 ⟨rfl, hb4⟩; have HB34 := Lib.hid hb4; clear hb4)
    | (go_at_call 6; refine (made_at w2 A1 c1 l1.length l1 rfl ((HR1.out.below HB2.out).more HB2.out.size) hc1 hb1 HX1.out).mono ?_; rw [HM.out]; rintro e w3 ⟨v3, rfl, ho3, hb3⟩; obtain ⟨AM, cM, rfl, hlM, rM⟩ := ho3.form7 LM (by rw [sc_length]; exact HLM.out); have HRm := Lib.hid (fun W (hW : Below w3.heap.size w3 W) => (rM.below hW).more hW.size); have HB23 := Lib.hid hb3; have HB3 := Lib.hid (HB2.out.trans (hb3.mono HB2.out.size)); clear ho3 hb3 rM)
    | (go_at_call 6; refine (made_at w1 A0 c0 l0.length l0 rfl ((HR0.out.below HB1.out).more HB1.out.size) hc0 hb0 HX0.out).mono ?_; rw [HN.out]; rintro e w2 ⟨v2, rfl, ho2, hb2⟩; obtain ⟨AN, cN, rfl, hlN, rN⟩ := ho2.form7 LN (by rw [sc_length]; exact HLN.out); have HRn := Lib.hid (fun W (hW : Below w2.heap.size w2 W) => (rN.below hW).more hW.size); have HB2 := Lib.hid (HB1.out.trans (hb2.mono HB1.out.size)); clear ho2 hb2 rN)
    | (go_at_call 5; refine (awake_any w).mono ?_; rintro e w1 ⟨rfl, hb1⟩; have HB1 := Lib.hid hb1; clear hb1))
  obtain ⟨cap, w6, hcv, hcap, hb6, hsz6, ho6⟩ := conv_sb (P := Tryd.prog) w5 9 28 5 T Tryd.underlying9 Tryd.underlying28 Tryd.underlying5
  rw [HK.out] at hcv hcap
  have HB5 := Lib.hid (HB3.out.trans (HB35.out.mono HB3.out.size))
  have HB56 := Lib.hid hb6
  have HO6 := Lib.hid ho6
  obtain ⟨g, hg⟩ : ∃ g, g = w5.heap.size := ⟨_, rfl⟩
  rw [← hg] at hcv HO6
  have hg5 : w5.heap.size ≤ g := by omega
  have hg6 : g < w6.heap.size := by omega
  clear hg hb6 hsz6 ho6
  go_wp2_with fail
  clear hcv
  go_loopw [46] (fun v46 wr => ∃ (i : Nat) (b : List UInt8), i ≤ K ∧ v46 = .int .i64 i ∧ Hid (b.length = K) ∧ Hid (smallS b = smallS T) ∧ Hid (Own wr g (bc b)) ∧ Hid (Below w5.heap.size w5 wr) ∧ g < wr.heap.size) (fun v46 _ => K - (intOf v46).toNat)
  case atStart => exact ⟨0, T, Nat.zero_le _, rfl, HK, Lib.hid rfl, HO6, HB56, hg6⟩
  case round =>
    obtain ⟨i, b, hiK, rfl, Hbl, HSm, HOb, HB5r, hgr⟩ := hrel
    by_cases hlt : i < K
    · obtain ⟨y, hy⟩ : ∃ y, b[i]? = some y := ⟨_, List.getElem?_eq_getElem (by have := Hbl.out; omega)⟩
      obtain ⟨hc1', hc2'⟩ := HOb.out i (.int .u8 (y.toNat : Int)) (by simp [bc, hy])
      have HY := Lib.hid hy
      obtain ⟨r, hr⟩ : ∃ r, r = i % (2 + q) := ⟨_, rfl⟩
      have kr1 : (i : Int) % (2 + (q : Int)) = (r : Int) := by rw [hr]; simp
      have kr2 : (i : Int).tmod (2 + (q : Int)) = (r : Int) := by rw [Int.tmod_eq_emod_of_nonneg (by omega)]; exact kr1
      have hy256 := UInt8.toNat_lt y
      clear hy hr
      by_cases ha : 97 ≤ y.toNat
      · have d1 : decide ((97 : Int) ≤ (y.toNat : Int)) = true := decide_eq_true (by omega)
        by_cases hb : y.toNat ≤ 122
        · have d2 : decide ((y.toNat : Int) ≤ 122) = true := decide_eq_true (by omega)
          by_cases h0 : r = 0
          · subst h0
            have hsb := Lib.hid (Tx.small_bump b i y HY.out ha hb)
            have hsub : ((y - 32).toNat : Int) = (y.toNat : Int) - 32 := by
              have h1 : (y - 32).toNat = y.toNat - 32 := by rw [UInt8.toNat_sub]; simp; omega
              omega
            have HSub := Lib.hid hsub
            clear hsub
            go_wp2_with fail
            go_roundw
            case rel =>
              refine ⟨i + 1, b.set i (y - 32), by omega, by go_num, Lib.hid (by rw [List.length_set]; exact Hbl.out), Lib.hid (hsb.out.trans HSm.out), ?_, Lib.hid (HB5r.out.setCell hg5 _), by simpa using hgr⟩
              have e1 : bc (b.set i (y - 32)) = (bc b).set i (.int .u8 ((y.toNat : Int) - 32)) := by rw [← HSub.out]; simp [bc, List.map_set]
              rw [e1]
              exact Lib.hid (HOb.out.set_ i _)
            case measure => simp [intOf]; omega
          · have d3 : ((r : Int) == 0) = false := beq_eq_false_iff_ne.2 (by omega)
            go_wp2_with fail
            go_roundw
            case rel => exact ⟨i + 1, b, by omega, by go_num, Hbl, HSm, HOb, HB5r, hgr⟩
            case measure => simp [intOf]; omega
        · have d2 : decide ((y.toNat : Int) ≤ 122) = false := decide_eq_false (by omega)
          go_wp2_with fail
          go_roundw
          case rel => exact ⟨i + 1, b, by omega, by go_num, Hbl, HSm, HOb, HB5r, hgr⟩
          case measure => simp [intOf]; omega
      · have d1 : decide ((97 : Int) ≤ (y.toNat : Int)) = false := decide_eq_false (by omega)
        go_wp2_with fail
        go_roundw
        case rel => exact ⟨i + 1, b, by omega, by go_num, Hbl, HSm, HOb, HB5r, hgr⟩
        case measure => simp [intOf]; omega
    · have hPb : rparse b = (N, 0) := (Tx.parse_small HSm.out).trans HPT.out
      have HPb := Lib.hid hPb
      have HBr := Lib.hid (HB5.out.trans (HB5r.out.mono HB5.out.size))
      obtain rfl : K = i := by omega
      clear hPb hlt
      go_upto_region 17 with (first
        | (go_at_call 9; refine (seq_at wC AN AM cN cM LN LM N M bE HbE.out HLN.out HLM.out (HRn.out wC (HB2C.out wC HBC.out)) (HRm.out wC (HB3C.out wC HBC.out)) (by omega) (by omega)).mono ?_; rintro e wD ⟨rfl, qD, hqD⟩; have HBD := Lib.hid (show Below w9.heap.size w9 wD by rw [hqD]; exact below_dn HBC.out qD); clear hqD)
        | (go_at_call 9; refine (seq_at wB A9 AN c9 cN LN LN N N true (decide_eq_true rfl) HLN.out HLN.out (HR9.out wB HBB.out) (HRn.out wB (HB2C.out wB HBB.out)) (by omega) (by omega)).mono ?_; rintro e wC ⟨rfl, qC, hqC⟩; have HBC := Lib.hid (show Below w9.heap.size w9 wC by rw [hqC]; exact below_dn HBB.out qC); clear hqC)
        | (go_at_call 9; refine (seq_at w9 A8 AN c8 cN LN LN N N true (decide_eq_true rfl) HLN.out HLN.out (HR8.out w9 HB89.out) (HRn.out w9 (HB2C.out w9 (Below.refl _ _))) (by omega) (by omega)).mono ?_; rintro e wB ⟨rfl, qB, hqB⟩; have HBB := Lib.hid (show Below w9.heap.size w9 wB by rw [hqB]; exact below_dn (Below.refl _ _) qB); clear hqB)
        | (go_at_call 8; refine (parse_all b w8 N 0 HPb.out (by rw [Hbl.out]; omega)).mono ?_; rintro e w9 ⟨v9, rfl, ho9, hb9⟩; obtain ⟨A9, c9, rfl, hl9, r9⟩ := ho9.form7 LN (by rw [sc_length]; exact HLN.out); have HR9 := Lib.hid (fun W (hW : Below w9.heap.size w9 W) => (r9.below hW).more hW.size); have HB89 := Lib.hid hb9; have HBr9 := Lib.hid (HBr8.out.trans (hb9.mono HBr8.out.size)); have HB59 := Lib.hid (HB5r.out.trans (HBr9.out.mono HB5r.out.size)); have HB2C := Lib.hid (fun W (hW : Below w9.heap.size w9 W) => ((HB23.out.trans (HB35.out.mono HB23.out.size)).trans ((HB59.out.trans (hW.mono HB59.out.size)).mono (HB23.out.trans (HB35.out.mono HB23.out.size)).size) : Below w2.heap.size w2 W)); have HB3C := Lib.hid (fun W (hW : Below w9.heap.size w9 W) => (HB35.out.trans ((HB59.out.trans (hW.mono HB59.out.size)).mono HB35.out.size) : Below w3.heap.size w3 W)); clear ho9 hb9 r9)
        | (go_at_call 8; refine (parse_all T wr N 0 HPT.out (by rw [HK.out]; omega)).mono ?_; rintro e w8 ⟨v8, rfl, ho8, hb8⟩; obtain ⟨A8, c8, rfl, hl8, r8⟩ := ho8.form7 LN (by rw [sc_length]; exact HLN.out); have HR8 := Lib.hid (fun W (hW : Below w8.heap.size w8 W) => (r8.below hW).more hW.size); have HBr8 := Lib.hid hb8; have hcv2 := conv_bs (P := Tryd.prog) w8 28 5 9 (some ⟨g, 0, none⟩) cap w8.heap.size b Tryd.underlying28 Tryd.underlying5 Tryd.underlying9 (by have h9 := (HOb.out.below hb8 hgr).rd (Nat.lt_of_lt_of_le hgr hb8.size); rw [bc_length] at h9; exact h9); rw [Hbl.out] at hcv2; clear ho8 hb8 r8))
      have HBwD := Lib.hid (HBr.out.trans (HBr9.out.mono HBr.out.size) |>.trans (HBD.out.mono (HBr.out.trans (HBr9.out.mono HBr.out.size)).size))
      have hsD := HBwD.out.size
      have hS2 := HSl.out
      by_cases h6 : 600 < S
      · go_wp2_with fail
        go_ret
        exact ⟨rfl, HBwD.out⟩
      · obtain ⟨x, ep, hxp⟩ : ∃ x ep, rparse s = (x, ep) := ⟨_, _, rfl⟩
        by_cases he : ep = 0
        · subst he
          obtain ⟨htx, hxr⟩ := Tx.text_of_parse hxp
          obtain ⟨Y, hY⟩ : ∃ Y, textN x = Y := ⟨_, rfl⟩
          have hXR : textR x = (Y, 0) := by unfold textR; rw [if_pos hxr, hY]
          have hYs : smallS s = Y := by rw [← htx, hY]
          have hYl : Y.length = S := by rw [← hYs, smallS_length]; exact HSl.out
          have kY : (⟨Y.toArray⟩ : ByteArray).size = S := hYl
          have hasc : ∀ c ∈ s, c.toNat < 128 := Tx.ascii_of_small s (fun c hc => Tx.text_ascii x c (by rw [htx]; exact hc))
          obtain ⟨X, hX⟩ : ∃ X, x.length = X := ⟨_, rfl⟩
          have hsx := size_right hxr
          have hX2 : X ≤ 255 := by
            have h1 := (rightN_spec hxr).2
            have h2 := labS_len_le x (rightN_spec hxr).1
            omega
          have HXp := Lib.hid hxp
          have HXR := Lib.hid hXR
          have HYs := Lib.hid hYs
          have HAs := Lib.hid hasc
          have HX := Lib.hid hX
          have HXr := Lib.hid hxr
          have HYl := Lib.hid hYl
          clear hxp hXR hYs hasc hX hxr htx hY
          go_wp2_with (first
            | (go_at_call 11; refine (right_at wG AX cX X x true HXr.out HX.out (HRx.out wG HBG.out) (by omega)).mono ?_; rintro e wI ⟨rfl, hbI⟩; have HBI := Lib.hid (HBG.out.trans (hbI.mono HBG.out.size)); clear hbI)
            | (go_at_call 10; refine (fold_small s Y wG HYs.out HAs.out (by rw [HSl.out]; omega)).mono ?_; rintro e wG ⟨rfl, rfl⟩)
            | (go_at_call 7; refine (text_all wF AX cX X x Y 0 HXR.out HX.out (HRx.out wF (Below.refl _ _)) (by omega)).mono ?_; rintro e wG ⟨rfl, hbG⟩; have HBG := Lib.hid hbG; clear hbG)
            | (go_at_call 8; refine (parse_all s wD x 0 HXp.out (by rw [HSl.out]; omega)).mono ?_; rintro e wF ⟨vF, rfl, hoF, hbF⟩; obtain ⟨AX, cX, rfl, hlX, rX⟩ := hoF.form7 X (by rw [sc_length]; exact HX.out); have HRx := Lib.hid (fun W (hW : Below wF.heap.size wF W) => (rX.below hW).more hW.size); have HBF := Lib.hid (HBwD.out.trans (hbF.mono hsD)); clear hoF hbF rX))
          go_ret
          exact ⟨rfl, HBF.out.trans (HBI.out.mono HBF.out.size)⟩
        · obtain ⟨hx1', hx2'⟩ := Tx.err_of_parse hxp he
          subst hx1' hx2'
          have HXp := Lib.hid hxp
          clear hxp he
          go_wp2_with (go_at_call 8; refine (parse_all s wD [] 164 HXp.out (by rw [HSl.out]; omega)).mono ?_; rintro e wF ⟨vF, rfl, hoF, hbF⟩; obtain ⟨AX, cX, rfl, hlX, rX⟩ := hoF.form7 0 rfl; have HBF := Lib.hid (HBwD.out.trans (hbF.mono hsD)); clear hoF hbF rX)
          go_ret
          exact ⟨rfl, HBF.out⟩
end Go.Proofs.YtnfgcfljjmjmpaaDoor
