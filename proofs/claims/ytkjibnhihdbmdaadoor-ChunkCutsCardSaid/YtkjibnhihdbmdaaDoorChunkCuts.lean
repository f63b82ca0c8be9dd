/-
  ChunkCuts, under the guard.
-/
import Derived.Test.YtkjibnhihdbmdaaDoorChunkCut
import Derived.Test.YtkjibnhihdbmdaaDoorChunkPrefix
set_option linter.unusedVariables false
set_option linter.unusedSimpArgs false
namespace Go.Proofs.YtkjibnhihdbmdaaDoor
open Go.RowKit
theorem go_whole : ∀ (l : List UInt8) (r : Rdr) (at_ : Nat), (goR r l at_).1.st ≠ .nil → (goR r l at_).2 = at_ + l.length
  | [], r, at_, _ => by simp [goR]
  | c :: l, r, at_, h => by
    by_cases h0 : r.st = .nil
    · simp only [goR, h0, if_true] at h
      exact absurd rfl h
    · by_cases h1 : (stepR r c).2 = 0
      · simp only [goR, h0, h1, ne_eq, not_true, if_false] at h ⊢
        rw [go_whole l _ _ h]
        simp; omega
      · simp only [goR, h0, h1, ne_eq, not_false_iff, if_true, if_false] at h
        exact absurd trivial h
/-- fed at rows that hold b -/
theorem fed_rows (A : Option Addr) (c n : Nat) (rows : List BRow) (b : List UInt8) (w : World) (hn : rows.length = n) (h : RdB w w.heap.size A n rows) (hf : flatB rows = b) (hl : b.length ≤ 1000000) (hn2 : n ≤ 1000000) {q : Rdr} {m : Nat} (hq : goR newR b 0 = (q, m)) :
    Calls Tryd.prog 24 #[.slice A n c] w fun e w' => ∃ vb vt vl, e = .returned (.tuple #[.pointer (some ⟨w.heap.size, 0, none⟩), .int .i64 (m : Int), .int .i64 (q.bad : Int), .bool true]) ∧ Inv [] w' w.heap.size w.heap.size q vb vt vl ∧ Below w.heap.size w w' := by
  subst hf
  refine (fed_at A c n rows w hn h hl hn2).mono ?_
  rintro e w' ⟨vb, vt, vl, rfl, hi, hb⟩
  rw [hq] at hi
  rw [hq]
  exact ⟨vb, vt, vl, rfl, hi, hb⟩
set_option maxRecDepth 100000 in
set_option maxHeartbeats 8000000 in
theorem chunkCuts_any (A0 : Option Addr) (c0 : Nat) (b0 : List UInt8) (A1 : Option Addr) (c1 : Nat) (xs : List UInt8) (A2 : Option Addr) (c2 : Nat) (ys : List UInt8) (w : World) (henv : EnvOk w)
    (r0 : Rd w w.heap.size A0 b0.length (bc b0)) (hc0 : b0.length ≤ c0) (hb0 : b0.length ≤ 140737488351232) (r1 : Rd w w.heap.size A1 xs.length (bc xs)) (hc1 : xs.length ≤ c1) (hb1 : xs.length ≤ 140737488351232)
    (r2 : Rd w w.heap.size A2 ys.length (bc ys)) (hc2 : ys.length ≤ c2) (hb2 : ys.length ≤ 140737488351232) :
    Calls Tryd.prog 8 #[.slice A0 b0.length c0, .slice A1 xs.length c1, .slice A2 ys.length c2] w fun e w' => e = .returned (.bool true) ∧ Below w.heap.size w w' := by
  obtain ⟨L, hL⟩ : ∃ L, L = min b0.length 3000 := ⟨_, rfl⟩
  have hmin : min (b0.length : Int) 3000 = (L : Int) := by omega
  have hL1 : L ≤ b0.length := by omega
  have hL2 : L ≤ 3000 := by omega
  have hLc : L ≤ c0 := by omega
  have ksl := sl_h A0 b0.length c0 L (by omega)
  have rp := rd_pre r0 hL1
  have hl : (b0.take L).length = L := by rw [List.length_take]; omega
  generalize b0.take L = b at rp hl
  have hbl : b.length ≤ 3000 := by omega
  obtain ⟨q, n, hq⟩ : ∃ q n, goR newR b 0 = (q, n) := ⟨_, _, rfl⟩
  have hcnt := go_count b newR 0
  rw [hq] at hcnt
  have hn : n ≤ L := by have := hcnt.2; simp only [Nat.zero_add] at this; omega
  have hlq : Lens q := by have := go_lens b newR 0 lens_new; rw [hq] at this; exact this
  have HE := Lib.hid henv
  have HR0 := Lib.hid rp
  have HR1 := Lib.hid r1
  have HR2 := Lib.hid r2
  have HLb := Lib.hid hl
  have HQ := Lib.hid hq
  have HLq := Lib.hid (And.intro hlq.bd hlq.tr)
  have HDe := Lib.hid (show (goR newR b 0).2 = n ∧ decE (goR newR b 0).1 = decE q ∧ decB (goR newR b 0).1 = decB q by rw [hq]; exact ⟨rfl, rfl, rfl⟩)
  by_cases hb : q.bad = 0
  · by_cases hs : q.st = .nil
    · have HDn := Lib.hid (show doneB q = true by unfold doneB; simp [hs, hb])
      have he : decE q = 0 := decE_zero.2 ⟨hb, hs⟩
      have HEq := Lib.hid (show decE q = 0 ∧ decB q = q.body from ⟨he, by unfold decB; rw [if_pos he]⟩)
      have hbad : q.bad = 0 := hb
      clear rp r0 r1 r2 henv hl hq hlq hL hcnt hb0 hs he hbad
      have tok : True := trivial
      go_enter Tryd.func8, Tryd.ntmps8
      go_wp2_with (first
        | (go_at_call 17; refine (decode_res A0 c0 L b w6 n (decE q) (decB q).length (decB q) HDe.out.1 HDe.out.2.1 HDe.out.2.2 rfl HLb.out ((HR0.out.below HB6.out).more HB6.out.size) (by omega)).mono ?_; rw [HEq.out.1, HEq.out.2]; rintro e w7 ⟨A7, c7, rfl, hc7, ho7, hb7⟩; have HO7 := Lib.hid ho7; have HB67 := Lib.hid hb7; have HB7 := Lib.hid (HB6.out.trans (hb7.mono HB6.out.size)); clear ho7 hb7)
        | (go_at_call 24; refine (fed_rows A5 c5 rows5.length rows5 b w5 rfl HRw5.out HFl5.out (by omega) (by omega) HQ.out).mono ?_; rintro e w6 ⟨vb6, vt6, vl6, rfl, hi6, hb6⟩; have HI6 := Lib.hid hi6; have HB56 := Lib.hid hb6; have HB6 := Lib.hid (HB5.out.trans (hb6.mono HB5.out.size)); clear hi6 hb6)
        | (go_at_call 25; refine (cut_at A0 c0 L b A2 c2 ys.length ys w4 HLb.out ((HR0.out.below HB4.out).more HB4.out.size) (by omega) rfl ((HR2.out.below HB4.out).more HB4.out.size) hc2 (by omega)).mono ?_; rintro e w5 ⟨A5, c5, rows5, rfl, hf5, hr5, hw5, hb5⟩; have HFl5 := Lib.hid hf5; have HRw5 := Lib.hid hw5; have HB45 := Lib.hid hb5; have HB5 := Lib.hid (HB4.out.trans (hb5.mono HB4.out.size)); clear hf5 hw5 hb5)
        | (go_at_call 24; refine (fed_rows A3 c3 rows3.length rows3 b w3 rfl HRw3.out HFl3.out (by omega) (by omega) HQ.out).mono ?_; rintro e w4 ⟨vb4, vt4, vl4, rfl, hi4, hb4⟩; have HI4 := Lib.hid hi4; have HB34 := Lib.hid hb4; have HB4 := Lib.hid (HB3.out.trans (hb4.mono HB3.out.size)); clear hi4 hb4)
        | (go_at_call 25; refine (cut_at A0 c0 L b A1 c1 xs.length xs w2 HLb.out ((HR0.out.below HB2.out).more HB2.out.size) (by omega) rfl ((HR1.out.below HB2.out).more HB2.out.size) hc1 (by omega)).mono ?_; rintro e w3 ⟨A3, c3, rows3, rfl, hf3, hr3, hw3, hb3⟩; have HFl3 := Lib.hid hf3; have HRw3 := Lib.hid hw3; have HB23 := Lib.hid hb3; have HB3 := Lib.hid (HB2.out.trans (hb3.mono HB2.out.size)); clear hf3 hw3 hb3)
        | (go_at_call 24; refine (fed_one A0 c0 L b w1 w1.heap.size rfl HLb.out ((HR0.out.below HB1.out).more HB1.out.size) (by omega) (by omega) HQ.out).mono ?_; rintro e w2 ⟨vb2, vt2, vl2, rfl, hi2, hb2⟩; have HI2 := Lib.hid hi2; have HB12a := Lib.hid hb2; have HB2 := Lib.hid (HB1.out.trans (hb2.mono HB1.out.size)); clear hi2 hb2)
        | (go_at_call 13; refine (awake_any w HE.out).mono ?_; rintro e w1 ⟨rfl, hb1⟩; have HB1 := Lib.hid hb1; clear hb1))
      have hlit := rd_lit w7 42 [.pointer (some ⟨w3.heap.size, 0, none⟩), .pointer (some ⟨w5.heap.size, 0, none⟩)] 2 w7.heap.size rfl rfl
      have hblit : Below w7.heap.size w7 (w7.alloc (.cells ([.pointer (some ⟨w3.heap.size, 0, none⟩), .pointer (some ⟨w5.heap.size, 0, none⟩)] : List Value).toArray 42)) := (Below.refl _ _).alloc (Nat.le_refl _) _
      obtain ⟨g, hg⟩ : ∃ g, g = w7.heap.size := ⟨_, rfl⟩
      have e0 : w7.alloc (.cells ([.pointer (some ⟨w3.heap.size, 0, none⟩), .pointer (some ⟨w5.heap.size, 0, none⟩)] : List Value).toArray 42) = w7.alloc (.cells #[.pointer (some ⟨w3.heap.size, 0, none⟩), .pointer (some ⟨w5.heap.size, 0, none⟩)] 42) := rfl
      rw [e0] at hlit hblit
      generalize w7.alloc (.cells #[.pointer (some ⟨w3.heap.size, 0, none⟩), .pointer (some ⟨w5.heap.size, 0, none⟩)] 42) = w8 at hlit hblit ⊢
      rw [← hg] at hlit ⊢
      have HLit := Lib.hid hlit
      have HB78 := Lib.hid hblit
      clear e0 hg hlit hblit
      go_loopw [102] (fun vi wr => ∃ k : Nat, k ≤ 2 ∧ vi = .int .i64 k ∧ Hid (Below w8.heap.size w8 wr)) (fun vi _ => 2 - (intOf vi).toNat)
      case atStart => exact ⟨0, by omega, rfl, Lib.hid (Below.refl _ _)⟩
      case round =>
        obtain ⟨k, hk, rfl, HB8r⟩ := hrel
        have HB7r := Lib.hid (HB78.out.trans (HB8r.out.mono HB78.out.size))
        have HB6r := Lib.hid (HB67.out.trans (HB7r.out.mono HB67.out.size))
        have HB5r := Lib.hid (HB56.out.trans (HB6r.out.mono HB56.out.size))
        have HB4r := Lib.hid (HB45.out.trans (HB5r.out.mono HB45.out.size))
        have HB3r := Lib.hid (HB34.out.trans (HB4r.out.mono HB34.out.size))
        have HB2r := Lib.hid (HB23.out.trans (HB3r.out.mono HB23.out.size))
        have HBr := Lib.hid (HB7.out.trans (HB7r.out.mono HB7.out.size))
        by_cases hlt : k < 2
        · obtain ⟨bb, oo, hA, _, hcell⟩ := (rd_step HLit.out HB8r.out).at_ (show 0 < 2 by omega)
          cases hA
          match k, hlt with
          | 0, _ =>
            have hx : wr.cell? ⟨g, 0, none⟩ = some (.pointer (some ⟨w3.heap.size, 0, none⟩)) := by simpa using hcell 0 (.pointer (some ⟨w3.heap.size, 0, none⟩)) rfl
            have tokA : True := trivial
            clear hcell
            go_wp2_with (first
              | (go_at_call 28; refine (eq_s_at A13 A14 c13 c14 q.trs.length q.trs.length q.trs q.trs true w14 (decide_eq_true rfl) rfl rfl (rd_step (ow_rd HO13.out) HB1314.out) (ow_rd HO14.out) (by have := HLq.out.2; omega) (by have := HLq.out.2; omega)).mono ?_; rintro e w15 ⟨rfl, q15, hq15⟩; have HB15 := Lib.hid (show Below wr.heap.size wr w15 by rw [hq15]; exact below_dn HB14.out q15); clear hq15)
              | (go_at_call 29; refine (trailers_at w1.heap.size.succ w1.heap.size.succ q _ _ _ w13 (HI2.out.far (HB2r.out.trans (HB13.out.mono HB2r.out.size))) HLq.out.2).mono ?_; rintro e w14 ⟨v14, rfl, ho14, hb14⟩; obtain ⟨A14, c14, rfl, hc14, _⟩ := ow_formL ho14 q.trs.length (by simp); have HO14 := Lib.hid ho14; have HB1314 := Lib.hid hb14; have HB14 := Lib.hid (HB13.out.trans (hb14.mono HB13.out.size)); clear ho14 hb14)
              | (go_at_call 29; refine (trailers_at w3.heap.size w3.heap.size q _ _ _ w12 (HI4.out.far (HB4r.out.trans (HB12.out.mono HB4r.out.size))) HLq.out.2).mono ?_; rintro e w13 ⟨v13, rfl, ho13, hb13⟩; obtain ⟨A13, c13, rfl, hc13, _⟩ := ow_formL ho13 q.trs.length (by simp); have HO13 := Lib.hid ho13; have HB13 := Lib.hid (HB12.out.trans (hb13.mono HB12.out.size)); clear ho13 hb13)
              | (go_at_call 19; refine (eq_b A11 A12 c11 c12 q.body.length q.body.length q.body q.body true w12 (decide_eq_true rfl) rfl rfl (rd_step (ow_rd HO11.out) HB1112.out) (ow_rd HO12.out)).mono ?_; rintro e w12 ⟨rfl, rfl⟩)
              | (go_at_call 27; refine (body_at w1.heap.size.succ w1.heap.size.succ q _ _ _ w11 (HI2.out.far (HB2r.out.trans (HB11.out.mono HB2r.out.size))) HLq.out.1).mono ?_; rintro e w12 ⟨v12, rfl, ho12, hb12⟩; obtain ⟨A12, c12, rfl, hc12, _⟩ := ow_formL ho12 q.body.length (by simp); have HO12 := Lib.hid ho12; have HB1112 := Lib.hid hb12; have HB12 := Lib.hid (HB11.out.trans (hb12.mono HB11.out.size)); clear ho12 hb12)
              | (go_at_call 27; refine (body_at w3.heap.size w3.heap.size q _ _ _ wr (HI4.out.far HB4r.out) HLq.out.1).mono ?_; rintro e w11 ⟨v11, rfl, ho11, hb11⟩; obtain ⟨A11, c11, rfl, hc11, _⟩ := ow_formL ho11 q.body.length (by simp); have HO11 := Lib.hid ho11; have HB11 := Lib.hid hb11; clear ho11 hb11)
              | (go_at_call 26; have _t := tokB; refine (done_at w1.heap.size.succ w1.heap.size.succ q _ _ _ true wr (HI2.out.far HB2r.out) HDn.out).mono ?_; rintro e wr ⟨rfl, rfl⟩; clear tokB)
              | (go_at_call 26; have _t := tokA; refine (done_at w3.heap.size w3.heap.size q _ _ _ true wr (HI4.out.far HB4r.out) HDn.out).mono ?_; rintro e wr ⟨rfl, rfl⟩; clear tokA; have tokB : True := trivial))
            go_roundw
            case rel => exact ⟨1, by omega, rfl, Lib.hid (HB8r.out.trans (HB15.out.mono HB8r.out.size))⟩
            case measure => simp [intOf]
          | 1, _ =>
            have hx : wr.cell? ⟨g, 1, none⟩ = some (.pointer (some ⟨w5.heap.size, 0, none⟩)) := by simpa using hcell 1 (.pointer (some ⟨w5.heap.size, 0, none⟩)) rfl
            have tokA : True := trivial
            clear hcell
            go_wp2_with (first
              | (go_at_call 28; refine (eq_s_at A13 A14 c13 c14 q.trs.length q.trs.length q.trs q.trs true w14 (decide_eq_true rfl) rfl rfl (rd_step (ow_rd HO13.out) HB1314.out) (ow_rd HO14.out) (by have := HLq.out.2; omega) (by have := HLq.out.2; omega)).mono ?_; rintro e w15 ⟨rfl, q15, hq15⟩; have HB15 := Lib.hid (show Below wr.heap.size wr w15 by rw [hq15]; exact below_dn HB14.out q15); clear hq15)
              | (go_at_call 29; refine (trailers_at w1.heap.size.succ w1.heap.size.succ q _ _ _ w13 (HI2.out.far (HB2r.out.trans (HB13.out.mono HB2r.out.size))) HLq.out.2).mono ?_; rintro e w14 ⟨v14, rfl, ho14, hb14⟩; obtain ⟨A14, c14, rfl, hc14, _⟩ := ow_formL ho14 q.trs.length (by simp); have HO14 := Lib.hid ho14; have HB1314 := Lib.hid hb14; have HB14 := Lib.hid (HB13.out.trans (hb14.mono HB13.out.size)); clear ho14 hb14)
              | (go_at_call 29; refine (trailers_at w5.heap.size w5.heap.size q _ _ _ w12 (HI6.out.far (HB6r.out.trans (HB12.out.mono HB6r.out.size))) HLq.out.2).mono ?_; rintro e w13 ⟨v13, rfl, ho13, hb13⟩; obtain ⟨A13, c13, rfl, hc13, _⟩ := ow_formL ho13 q.trs.length (by simp); have HO13 := Lib.hid ho13; have HB13 := Lib.hid (HB12.out.trans (hb13.mono HB12.out.size)); clear ho13 hb13)
              | (go_at_call 19; refine (eq_b A11 A12 c11 c12 q.body.length q.body.length q.body q.body true w12 (decide_eq_true rfl) rfl rfl (rd_step (ow_rd HO11.out) HB1112.out) (ow_rd HO12.out)).mono ?_; rintro e w12 ⟨rfl, rfl⟩)
              | (go_at_call 27; refine (body_at w1.heap.size.succ w1.heap.size.succ q _ _ _ w11 (HI2.out.far (HB2r.out.trans (HB11.out.mono HB2r.out.size))) HLq.out.1).mono ?_; rintro e w12 ⟨v12, rfl, ho12, hb12⟩; obtain ⟨A12, c12, rfl, hc12, _⟩ := ow_formL ho12 q.body.length (by simp); have HO12 := Lib.hid ho12; have HB1112 := Lib.hid hb12; have HB12 := Lib.hid (HB11.out.trans (hb12.mono HB11.out.size)); clear ho12 hb12)
              | (go_at_call 27; refine (body_at w5.heap.size w5.heap.size q _ _ _ wr (HI6.out.far HB6r.out) HLq.out.1).mono ?_; rintro e w11 ⟨v11, rfl, ho11, hb11⟩; obtain ⟨A11, c11, rfl, hc11, _⟩ := ow_formL ho11 q.body.length (by simp); have HO11 := Lib.hid ho11; have HB11 := Lib.hid hb11; clear ho11 hb11)
              | (go_at_call 26; have _t := tokB; refine (done_at w1.heap.size.succ w1.heap.size.succ q _ _ _ true wr (HI2.out.far HB2r.out) HDn.out).mono ?_; rintro e wr ⟨rfl, rfl⟩; clear tokB)
              | (go_at_call 26; have _t := tokA; refine (done_at w5.heap.size w5.heap.size q _ _ _ true wr (HI6.out.far HB6r.out) HDn.out).mono ?_; rintro e wr ⟨rfl, rfl⟩; clear tokA; have tokB : True := trivial))
            go_roundw
            case rel => exact ⟨2, by omega, rfl, Lib.hid (HB8r.out.trans (HB15.out.mono HB8r.out.size))⟩
            case measure => simp [intOf]
        · go_wp2_with (first
            | (go_at_call 19; refine (eq_b A7 A9 c7 c9 q.body.length q.body.length q.body q.body true w9 (decide_eq_true rfl) rfl rfl (rd_step (ow_rd HO7.out) HB79.out) (ow_rd HO9.out)).mono ?_; rintro e w9 ⟨rfl, rfl⟩)
            | (go_at_call 27; refine (body_at w1.heap.size.succ w1.heap.size.succ q _ _ _ wr (HI2.out.far HB2r.out) HLq.out.1).mono ?_; rintro e w9 ⟨v9, rfl, ho9, hb9⟩; obtain ⟨A9, c9, rfl, hc9, _⟩ := ow_formL ho9 q.body.length (by simp); have HO9 := Lib.hid ho9; have HB79 := Lib.hid (HB7r.out.trans (hb9.mono HB7r.out.size)); have HB9 := Lib.hid (HBr.out.trans (hb9.mono HBr.out.size)); clear ho9 hb9)
            | (go_at_call 26; refine (done_at w1.heap.size.succ w1.heap.size.succ q _ _ _ true wr (HI2.out.far HB2r.out) HDn.out).mono ?_; rintro e wr ⟨rfl, rfl⟩))
          go_ret
          exact ⟨rfl, HB9.out⟩
    · have HDn := Lib.hid (show doneB q = false by unfold doneB; simp [hs])
      have hnL : n = L := by
        have := go_whole b newR 0 (by rw [hq]; exact hs)
        rw [hq] at this
        simp only [Nat.zero_add] at this
        omega
      have HEq := Lib.hid (show decE q = 192 ∧ (decB q).length = 0 by
        have : decE q = 192 := by unfold decE; rw [if_neg (by omega), if_neg hs]
        exact ⟨this, by unfold decB; rw [this]; rfl⟩)
      subst hnL
      clear rp r0 r1 r2 henv hl hq hlq hL hcnt hb0 hs
      have tok : True := trivial
      go_enter Tryd.func8, Tryd.ntmps8
      go_wp2_with (first
        | (go_at_call 17; refine (decode_res A0 c0 n b w6 n (decE q) 0 (decB q) HDe.out.1 HDe.out.2.1 HDe.out.2.2 HEq.out.2 HLb.out ((HR0.out.below HB6.out).more HB6.out.size) (by omega)).mono ?_; rw [HEq.out.1]; rintro e w7 ⟨A7, c7, rfl, hc7, ho7, hb7⟩; have HO7 := Lib.hid ho7; have HB67 := Lib.hid hb7; have HB7 := Lib.hid (HB6.out.trans (hb7.mono HB6.out.size)); clear ho7 hb7)
        | (go_at_call 24; refine (fed_rows A5 c5 rows5.length rows5 b w5 rfl HRw5.out HFl5.out (by omega) (by omega) HQ.out).mono ?_; rintro e w6 ⟨vb6, vt6, vl6, rfl, hi6, hb6⟩; have HI6 := Lib.hid hi6; have HB56 := Lib.hid hb6; have HB6 := Lib.hid (HB5.out.trans (hb6.mono HB5.out.size)); clear hi6 hb6)
        | (go_at_call 25; refine (cut_at A0 c0 n b A2 c2 ys.length ys w4 HLb.out ((HR0.out.below HB4.out).more HB4.out.size) (by omega) rfl ((HR2.out.below HB4.out).more HB4.out.size) hc2 (by omega)).mono ?_; rintro e w5 ⟨A5, c5, rows5, rfl, hf5, hr5, hw5, hb5⟩; have HFl5 := Lib.hid hf5; have HRw5 := Lib.hid hw5; have HB45 := Lib.hid hb5; have HB5 := Lib.hid (HB4.out.trans (hb5.mono HB4.out.size)); clear hf5 hw5 hb5)
        | (go_at_call 24; refine (fed_rows A3 c3 rows3.length rows3 b w3 rfl HRw3.out HFl3.out (by omega) (by omega) HQ.out).mono ?_; rintro e w4 ⟨vb4, vt4, vl4, rfl, hi4, hb4⟩; have HI4 := Lib.hid hi4; have HB34 := Lib.hid hb4; have HB4 := Lib.hid (HB3.out.trans (hb4.mono HB3.out.size)); clear hi4 hb4)
        | (go_at_call 25; refine (cut_at A0 c0 n b A1 c1 xs.length xs w2 HLb.out ((HR0.out.below HB2.out).more HB2.out.size) (by omega) rfl ((HR1.out.below HB2.out).more HB2.out.size) hc1 (by omega)).mono ?_; rintro e w3 ⟨A3, c3, rows3, rfl, hf3, hr3, hw3, hb3⟩; have HFl3 := Lib.hid hf3; have HRw3 := Lib.hid hw3; have HB23 := Lib.hid hb3; have HB3 := Lib.hid (HB2.out.trans (hb3.mono HB2.out.size)); clear hf3 hw3 hb3)
        | (go_at_call 24; refine (fed_one A0 c0 n b w1 w1.heap.size rfl HLb.out ((HR0.out.below HB1.out).more HB1.out.size) (by omega) (by omega) HQ.out).mono ?_; rintro e w2 ⟨vb2, vt2, vl2, rfl, hi2, hb2⟩; have HI2 := Lib.hid hi2; have HB12a := Lib.hid hb2; have HB2 := Lib.hid (HB1.out.trans (hb2.mono HB1.out.size)); clear hi2 hb2)
        | (go_at_call 13; refine (awake_any w HE.out).mono ?_; rintro e w1 ⟨rfl, hb1⟩; have HB1 := Lib.hid hb1; clear hb1))
      have hlit := rd_lit w7 42 [.pointer (some ⟨w3.heap.size, 0, none⟩), .pointer (some ⟨w5.heap.size, 0, none⟩)] 2 w7.heap.size rfl rfl
      have hblit : Below w7.heap.size w7 (w7.alloc (.cells ([.pointer (some ⟨w3.heap.size, 0, none⟩), .pointer (some ⟨w5.heap.size, 0, none⟩)] : List Value).toArray 42)) := (Below.refl _ _).alloc (Nat.le_refl _) _
      obtain ⟨g, hg⟩ : ∃ g, g = w7.heap.size := ⟨_, rfl⟩
      have e0 : w7.alloc (.cells ([.pointer (some ⟨w3.heap.size, 0, none⟩), .pointer (some ⟨w5.heap.size, 0, none⟩)] : List Value).toArray 42) = w7.alloc (.cells #[.pointer (some ⟨w3.heap.size, 0, none⟩), .pointer (some ⟨w5.heap.size, 0, none⟩)] 42) := rfl
      rw [e0] at hlit hblit
      generalize w7.alloc (.cells #[.pointer (some ⟨w3.heap.size, 0, none⟩), .pointer (some ⟨w5.heap.size, 0, none⟩)] 42) = w8 at hlit hblit ⊢
      rw [← hg] at hlit ⊢
      have HLit := Lib.hid hlit
      have HB78 := Lib.hid hblit
      clear e0 hg hlit hblit
      go_loopw [102] (fun vi wr => ∃ k : Nat, k ≤ 2 ∧ vi = .int .i64 k ∧ Hid (Below w8.heap.size w8 wr)) (fun vi _ => 2 - (intOf vi).toNat)
      case atStart => exact ⟨0, by omega, rfl, Lib.hid (Below.refl _ _)⟩
      case round =>
        obtain ⟨k, hk, rfl, HB8r⟩ := hrel
        have HB7r := Lib.hid (HB78.out.trans (HB8r.out.mono HB78.out.size))
        have HB6r := Lib.hid (HB67.out.trans (HB7r.out.mono HB67.out.size))
        have HB5r := Lib.hid (HB56.out.trans (HB6r.out.mono HB56.out.size))
        have HB4r := Lib.hid (HB45.out.trans (HB5r.out.mono HB45.out.size))
        have HB3r := Lib.hid (HB34.out.trans (HB4r.out.mono HB34.out.size))
        have HB2r := Lib.hid (HB23.out.trans (HB3r.out.mono HB23.out.size))
        have HBr := Lib.hid (HB7.out.trans (HB7r.out.mono HB7.out.size))
        by_cases hlt : k < 2
        · obtain ⟨bb, oo, hA, _, hcell⟩ := (rd_step HLit.out HB8r.out).at_ (show 0 < 2 by omega)
          cases hA
          match k, hlt with
          | 0, _ =>
            have hx : wr.cell? ⟨g, 0, none⟩ = some (.pointer (some ⟨w3.heap.size, 0, none⟩)) := by simpa using hcell 0 (.pointer (some ⟨w3.heap.size, 0, none⟩)) rfl
            have tokA : True := trivial
            clear hcell
            go_wp2_with (first
              | (go_at_call 28; refine (eq_s_at A13 A14 c13 c14 q.trs.length q.trs.length q.trs q.trs true w14 (decide_eq_true rfl) rfl rfl (rd_step (ow_rd HO13.out) HB1314.out) (ow_rd HO14.out) (by have := HLq.out.2; omega) (by have := HLq.out.2; omega)).mono ?_; rintro e w15 ⟨rfl, q15, hq15⟩; have HB15 := Lib.hid (show Below wr.heap.size wr w15 by rw [hq15]; exact below_dn HB14.out q15); clear hq15)
              | (go_at_call 29; refine (trailers_at w1.heap.size.succ w1.heap.size.succ q _ _ _ w13 (HI2.out.far (HB2r.out.trans (HB13.out.mono HB2r.out.size))) HLq.out.2).mono ?_; rintro e w14 ⟨v14, rfl, ho14, hb14⟩; obtain ⟨A14, c14, rfl, hc14, _⟩ := ow_formL ho14 q.trs.length (by simp); have HO14 := Lib.hid ho14; have HB1314 := Lib.hid hb14; have HB14 := Lib.hid (HB13.out.trans (hb14.mono HB13.out.size)); clear ho14 hb14)
              | (go_at_call 29; refine (trailers_at w3.heap.size w3.heap.size q _ _ _ w12 (HI4.out.far (HB4r.out.trans (HB12.out.mono HB4r.out.size))) HLq.out.2).mono ?_; rintro e w13 ⟨v13, rfl, ho13, hb13⟩; obtain ⟨A13, c13, rfl, hc13, _⟩ := ow_formL ho13 q.trs.length (by simp); have HO13 := Lib.hid ho13; have HB13 := Lib.hid (HB12.out.trans (hb13.mono HB12.out.size)); clear ho13 hb13)
              | (go_at_call 19; refine (eq_b A11 A12 c11 c12 q.body.length q.body.length q.body q.body true w12 (decide_eq_true rfl) rfl rfl (rd_step (ow_rd HO11.out) HB1112.out) (ow_rd HO12.out)).mono ?_; rintro e w12 ⟨rfl, rfl⟩)
              | (go_at_call 27; refine (body_at w1.heap.size.succ w1.heap.size.succ q _ _ _ w11 (HI2.out.far (HB2r.out.trans (HB11.out.mono HB2r.out.size))) HLq.out.1).mono ?_; rintro e w12 ⟨v12, rfl, ho12, hb12⟩; obtain ⟨A12, c12, rfl, hc12, _⟩ := ow_formL ho12 q.body.length (by simp); have HO12 := Lib.hid ho12; have HB1112 := Lib.hid hb12; have HB12 := Lib.hid (HB11.out.trans (hb12.mono HB11.out.size)); clear ho12 hb12)
              | (go_at_call 27; refine (body_at w3.heap.size w3.heap.size q _ _ _ wr (HI4.out.far HB4r.out) HLq.out.1).mono ?_; rintro e w11 ⟨v11, rfl, ho11, hb11⟩; obtain ⟨A11, c11, rfl, hc11, _⟩ := ow_formL ho11 q.body.length (by simp); have HO11 := Lib.hid ho11; have HB11 := Lib.hid hb11; clear ho11 hb11)
              | (go_at_call 26; have _t := tokB; refine (done_at w1.heap.size.succ w1.heap.size.succ q _ _ _ false wr (HI2.out.far HB2r.out) HDn.out).mono ?_; rintro e wr ⟨rfl, rfl⟩; clear tokB)
              | (go_at_call 26; have _t := tokA; refine (done_at w3.heap.size w3.heap.size q _ _ _ false wr (HI4.out.far HB4r.out) HDn.out).mono ?_; rintro e wr ⟨rfl, rfl⟩; clear tokA; have tokB : True := trivial))
            go_roundw
            case rel => exact ⟨1, by omega, rfl, Lib.hid (HB8r.out.trans (HB15.out.mono HB8r.out.size))⟩
            case measure => simp [intOf]
          | 1, _ =>
            have hx : wr.cell? ⟨g, 1, none⟩ = some (.pointer (some ⟨w5.heap.size, 0, none⟩)) := by simpa using hcell 1 (.pointer (some ⟨w5.heap.size, 0, none⟩)) rfl
            have tokA : True := trivial
            clear hcell
            go_wp2_with (first
              | (go_at_call 28; refine (eq_s_at A13 A14 c13 c14 q.trs.length q.trs.length q.trs q.trs true w14 (decide_eq_true rfl) rfl rfl (rd_step (ow_rd HO13.out) HB1314.out) (ow_rd HO14.out) (by have := HLq.out.2; omega) (by have := HLq.out.2; omega)).mono ?_; rintro e w15 ⟨rfl, q15, hq15⟩; have HB15 := Lib.hid (show Below wr.heap.size wr w15 by rw [hq15]; exact below_dn HB14.out q15); clear hq15)
              | (go_at_call 29; refine (trailers_at w1.heap.size.succ w1.heap.size.succ q _ _ _ w13 (HI2.out.far (HB2r.out.trans (HB13.out.mono HB2r.out.size))) HLq.out.2).mono ?_; rintro e w14 ⟨v14, rfl, ho14, hb14⟩; obtain ⟨A14, c14, rfl, hc14, _⟩ := ow_formL ho14 q.trs.length (by simp); have HO14 := Lib.hid ho14; have HB1314 := Lib.hid hb14; have HB14 := Lib.hid (HB13.out.trans (hb14.mono HB13.out.size)); clear ho14 hb14)
              | (go_at_call 29; refine (trailers_at w5.heap.size w5.heap.size q _ _ _ w12 (HI6.out.far (HB6r.out.trans (HB12.out.mono HB6r.out.size))) HLq.out.2).mono ?_; rintro e w13 ⟨v13, rfl, ho13, hb13⟩; obtain ⟨A13, c13, rfl, hc13, _⟩ := ow_formL ho13 q.trs.length (by simp); have HO13 := Lib.hid ho13; have HB13 := Lib.hid (HB12.out.trans (hb13.mono HB12.out.size)); clear ho13 hb13)
              | (go_at_call 19; refine (eq_b A11 A12 c11 c12 q.body.length q.body.length q.body q.body true w12 (decide_eq_true rfl) rfl rfl (rd_step (ow_rd HO11.out) HB1112.out) (ow_rd HO12.out)).mono ?_; rintro e w12 ⟨rfl, rfl⟩)
              | (go_at_call 27; refine (body_at w1.heap.size.succ w1.heap.size.succ q _ _ _ w11 (HI2.out.far (HB2r.out.trans (HB11.out.mono HB2r.out.size))) HLq.out.1).mono ?_; rintro e w12 ⟨v12, rfl, ho12, hb12⟩; obtain ⟨A12, c12, rfl, hc12, _⟩ := ow_formL ho12 q.body.length (by simp); have HO12 := Lib.hid ho12; have HB1112 := Lib.hid hb12; have HB12 := Lib.hid (HB11.out.trans (hb12.mono HB11.out.size)); clear ho12 hb12)
              | (go_at_call 27; refine (body_at w5.heap.size w5.heap.size q _ _ _ wr (HI6.out.far HB6r.out) HLq.out.1).mono ?_; rintro e w11 ⟨v11, rfl, ho11, hb11⟩; obtain ⟨A11, c11, rfl, hc11, _⟩ := ow_formL ho11 q.body.length (by simp); have HO11 := Lib.hid ho11; have HB11 := Lib.hid hb11; clear ho11 hb11)
              | (go_at_call 26; have _t := tokB; refine (done_at w1.heap.size.succ w1.heap.size.succ q _ _ _ false wr (HI2.out.far HB2r.out) HDn.out).mono ?_; rintro e wr ⟨rfl, rfl⟩; clear tokB)
              | (go_at_call 26; have _t := tokA; refine (done_at w5.heap.size w5.heap.size q _ _ _ false wr (HI6.out.far HB6r.out) HDn.out).mono ?_; rintro e wr ⟨rfl, rfl⟩; clear tokA; have tokB : True := trivial))
            go_roundw
            case rel => exact ⟨2, by omega, rfl, Lib.hid (HB8r.out.trans (HB15.out.mono HB8r.out.size))⟩
            case measure => simp [intOf]
        · go_wp2_with (first
            | (go_at_call 26; refine (done_at w1.heap.size.succ w1.heap.size.succ q _ _ _ false wr (HI2.out.far HB2r.out) HDn.out).mono ?_; rintro e wr ⟨rfl, rfl⟩))
          go_ret
          exact ⟨rfl, HBr.out⟩
  · have HDn := Lib.hid (show doneB q = false by unfold doneB; simp [hb])
    have hb1' : ((q.bad : Int) == 0) = false := by simp; omega
    have hb2' : ((q.bad : Int) != 0) = true := by simp; omega
    have HEq := Lib.hid (show decE q = q.bad ∧ (decB q).length = 0 by
      have : decE q = q.bad := by unfold decE; rw [if_pos hb]
      exact ⟨this, by unfold decB; rw [if_neg (by omega)]; rfl⟩)
    clear rp r0 r1 r2 henv hl hq hlq hL hcnt hb0
    have tok : True := trivial
    go_enter Tryd.func8, Tryd.ntmps8
    go_wp2_with (first
      | (go_at_call 17; refine (decode_res A0 c0 L b w6 n (decE q) 0 (decB q) HDe.out.1 HDe.out.2.1 HDe.out.2.2 HEq.out.2 HLb.out ((HR0.out.below HB6.out).more HB6.out.size) (by omega)).mono ?_; rw [HEq.out.1]; rintro e w7 ⟨A7, c7, rfl, hc7, ho7, hb7⟩; have HO7 := Lib.hid ho7; have HB67 := Lib.hid hb7; have HB7 := Lib.hid (HB6.out.trans (hb7.mono HB6.out.size)); clear ho7 hb7)
      | (go_at_call 24; refine (fed_rows A5 c5 rows5.length rows5 b w5 rfl HRw5.out HFl5.out (by omega) (by omega) HQ.out).mono ?_; rintro e w6 ⟨vb6, vt6, vl6, rfl, hi6, hb6⟩; have HI6 := Lib.hid hi6; have HB56 := Lib.hid hb6; have HB6 := Lib.hid (HB5.out.trans (hb6.mono HB5.out.size)); clear hi6 hb6)
      | (go_at_call 25; refine (cut_at A0 c0 L b A2 c2 ys.length ys w4 HLb.out ((HR0.out.below HB4.out).more HB4.out.size) (by omega) rfl ((HR2.out.below HB4.out).more HB4.out.size) hc2 (by omega)).mono ?_; rintro e w5 ⟨A5, c5, rows5, rfl, hf5, hr5, hw5, hb5⟩; have HFl5 := Lib.hid hf5; have HRw5 := Lib.hid hw5; have HB45 := Lib.hid hb5; have HB5 := Lib.hid (HB4.out.trans (hb5.mono HB4.out.size)); clear hf5 hw5 hb5)
      | (go_at_call 24; refine (fed_rows A3 c3 rows3.length rows3 b w3 rfl HRw3.out HFl3.out (by omega) (by omega) HQ.out).mono ?_; rintro e w4 ⟨vb4, vt4, vl4, rfl, hi4, hb4⟩; have HI4 := Lib.hid hi4; have HB34 := Lib.hid hb4; have HB4 := Lib.hid (HB3.out.trans (hb4.mono HB3.out.size)); clear hi4 hb4)
      | (go_at_call 25; refine (cut_at A0 c0 L b A1 c1 xs.length xs w2 HLb.out ((HR0.out.below HB2.out).more HB2.out.size) (by omega) rfl ((HR1.out.below HB2.out).more HB2.out.size) hc1 (by omega)).mono ?_; rintro e w3 ⟨A3, c3, rows3, rfl, hf3, hr3, hw3, hb3⟩; have HFl3 := Lib.hid hf3; have HRw3 := Lib.hid hw3; have HB23 := Lib.hid hb3; have HB3 := Lib.hid (HB2.out.trans (hb3.mono HB2.out.size)); clear hf3 hw3 hb3)
      | (go_at_call 24; refine (fed_one A0 c0 L b w1 w1.heap.size rfl HLb.out ((HR0.out.below HB1.out).more HB1.out.size) (by omega) (by omega) HQ.out).mono ?_; rintro e w2 ⟨vb2, vt2, vl2, rfl, hi2, hb2⟩; have HI2 := Lib.hid hi2; have HB12a := Lib.hid hb2; have HB2 := Lib.hid (HB1.out.trans (hb2.mono HB1.out.size)); clear hi2 hb2)
      | (go_at_call 13; refine (awake_any w HE.out).mono ?_; rintro e w1 ⟨rfl, hb1⟩; have HB1 := Lib.hid hb1; clear hb1))
    have hlit := rd_lit w7 42 [.pointer (some ⟨w3.heap.size, 0, none⟩), .pointer (some ⟨w5.heap.size, 0, none⟩)] 2 w7.heap.size rfl rfl
    have hblit : Below w7.heap.size w7 (w7.alloc (.cells ([.pointer (some ⟨w3.heap.size, 0, none⟩), .pointer (some ⟨w5.heap.size, 0, none⟩)] : List Value).toArray 42)) := (Below.refl _ _).alloc (Nat.le_refl _) _
    obtain ⟨g, hg⟩ : ∃ g, g = w7.heap.size := ⟨_, rfl⟩
    have e0 : w7.alloc (.cells ([.pointer (some ⟨w3.heap.size, 0, none⟩), .pointer (some ⟨w5.heap.size, 0, none⟩)] : List Value).toArray 42) = w7.alloc (.cells #[.pointer (some ⟨w3.heap.size, 0, none⟩), .pointer (some ⟨w5.heap.size, 0, none⟩)] 42) := rfl
    rw [e0] at hlit hblit
    generalize w7.alloc (.cells #[.pointer (some ⟨w3.heap.size, 0, none⟩), .pointer (some ⟨w5.heap.size, 0, none⟩)] 42) = w8 at hlit hblit ⊢
    rw [← hg] at hlit ⊢
    have HLit := Lib.hid hlit
    have HB78 := Lib.hid hblit
    clear e0 hg hlit hblit
    go_loopw [102] (fun vi wr => ∃ k : Nat, k ≤ 2 ∧ vi = .int .i64 k ∧ Hid (Below w8.heap.size w8 wr)) (fun vi _ => 2 - (intOf vi).toNat)
    case atStart => exact ⟨0, by omega, rfl, Lib.hid (Below.refl _ _)⟩
    case round =>
      obtain ⟨k, hk, rfl, HB8r⟩ := hrel
      have HB7r := Lib.hid (HB78.out.trans (HB8r.out.mono HB78.out.size))
      have HB6r := Lib.hid (HB67.out.trans (HB7r.out.mono HB67.out.size))
      have HB5r := Lib.hid (HB56.out.trans (HB6r.out.mono HB56.out.size))
      have HB4r := Lib.hid (HB45.out.trans (HB5r.out.mono HB45.out.size))
      have HB3r := Lib.hid (HB34.out.trans (HB4r.out.mono HB34.out.size))
      have HB2r := Lib.hid (HB23.out.trans (HB3r.out.mono HB23.out.size))
      have HBr := Lib.hid (HB7.out.trans (HB7r.out.mono HB7.out.size))
      by_cases hlt : k < 2
      · obtain ⟨bb, oo, hA, _, hcell⟩ := (rd_step HLit.out HB8r.out).at_ (show 0 < 2 by omega)
        cases hA
        match k, hlt with
        | 0, _ =>
          have hx : wr.cell? ⟨g, 0, none⟩ = some (.pointer (some ⟨w3.heap.size, 0, none⟩)) := by simpa using hcell 0 (.pointer (some ⟨w3.heap.size, 0, none⟩)) rfl
          have tokA : True := trivial
          clear hcell
          go_wp2_with (first
            | (go_at_call 28; refine (eq_s_at A13 A14 c13 c14 q.trs.length q.trs.length q.trs q.trs true w14 (decide_eq_true rfl) rfl rfl (rd_step (ow_rd HO13.out) HB1314.out) (ow_rd HO14.out) (by have := HLq.out.2; omega) (by have := HLq.out.2; omega)).mono ?_; rintro e w15 ⟨rfl, q15, hq15⟩; have HB15 := Lib.hid (show Below wr.heap.size wr w15 by rw [hq15]; exact below_dn HB14.out q15); clear hq15)
            | (go_at_call 29; refine (trailers_at w1.heap.size.succ w1.heap.size.succ q _ _ _ w13 (HI2.out.far (HB2r.out.trans (HB13.out.mono HB2r.out.size))) HLq.out.2).mono ?_; rintro e w14 ⟨v14, rfl, ho14, hb14⟩; obtain ⟨A14, c14, rfl, hc14, _⟩ := ow_formL ho14 q.trs.length (by simp); have HO14 := Lib.hid ho14; have HB1314 := Lib.hid hb14; have HB14 := Lib.hid (HB13.out.trans (hb14.mono HB13.out.size)); clear ho14 hb14)
            | (go_at_call 29; refine (trailers_at w3.heap.size w3.heap.size q _ _ _ w12 (HI4.out.far (HB4r.out.trans (HB12.out.mono HB4r.out.size))) HLq.out.2).mono ?_; rintro e w13 ⟨v13, rfl, ho13, hb13⟩; obtain ⟨A13, c13, rfl, hc13, _⟩ := ow_formL ho13 q.trs.length (by simp); have HO13 := Lib.hid ho13; have HB13 := Lib.hid (HB12.out.trans (hb13.mono HB12.out.size)); clear ho13 hb13)
            | (go_at_call 19; refine (eq_b A11 A12 c11 c12 q.body.length q.body.length q.body q.body true w12 (decide_eq_true rfl) rfl rfl (rd_step (ow_rd HO11.out) HB1112.out) (ow_rd HO12.out)).mono ?_; rintro e w12 ⟨rfl, rfl⟩)
            | (go_at_call 27; refine (body_at w1.heap.size.succ w1.heap.size.succ q _ _ _ w11 (HI2.out.far (HB2r.out.trans (HB11.out.mono HB2r.out.size))) HLq.out.1).mono ?_; rintro e w12 ⟨v12, rfl, ho12, hb12⟩; obtain ⟨A12, c12, rfl, hc12, _⟩ := ow_formL ho12 q.body.length (by simp); have HO12 := Lib.hid ho12; have HB1112 := Lib.hid hb12; have HB12 := Lib.hid (HB11.out.trans (hb12.mono HB11.out.size)); clear ho12 hb12)
            | (go_at_call 27; refine (body_at w3.heap.size w3.heap.size q _ _ _ wr (HI4.out.far HB4r.out) HLq.out.1).mono ?_; rintro e w11 ⟨v11, rfl, ho11, hb11⟩; obtain ⟨A11, c11, rfl, hc11, _⟩ := ow_formL ho11 q.body.length (by simp); have HO11 := Lib.hid ho11; have HB11 := Lib.hid hb11; clear ho11 hb11)
            | (go_at_call 26; have _t := tokB; refine (done_at w1.heap.size.succ w1.heap.size.succ q _ _ _ false wr (HI2.out.far HB2r.out) HDn.out).mono ?_; rintro e wr ⟨rfl, rfl⟩; clear tokB)
            | (go_at_call 26; have _t := tokA; refine (done_at w3.heap.size w3.heap.size q _ _ _ false wr (HI4.out.far HB4r.out) HDn.out).mono ?_; rintro e wr ⟨rfl, rfl⟩; clear tokA; have tokB : True := trivial))
          go_roundw
          case rel => exact ⟨1, by omega, rfl, Lib.hid (HB8r.out.trans (HB15.out.mono HB8r.out.size))⟩
          case measure => simp [intOf]
        | 1, _ =>
          have hx : wr.cell? ⟨g, 1, none⟩ = some (.pointer (some ⟨w5.heap.size, 0, none⟩)) := by simpa using hcell 1 (.pointer (some ⟨w5.heap.size, 0, none⟩)) rfl
          have tokA : True := trivial
          clear hcell
          go_wp2_with (first
            | (go_at_call 28; refine (eq_s_at A13 A14 c13 c14 q.trs.length q.trs.length q.trs q.trs true w14 (decide_eq_true rfl) rfl rfl (rd_step (ow_rd HO13.out) HB1314.out) (ow_rd HO14.out) (by have := HLq.out.2; omega) (by have := HLq.out.2; omega)).mono ?_; rintro e w15 ⟨rfl, q15, hq15⟩; have HB15 := Lib.hid (show Below wr.heap.size wr w15 by rw [hq15]; exact below_dn HB14.out q15); clear hq15)
            | (go_at_call 29; refine (trailers_at w1.heap.size.succ w1.heap.size.succ q _ _ _ w13 (HI2.out.far (HB2r.out.trans (HB13.out.mono HB2r.out.size))) HLq.out.2).mono ?_; rintro e w14 ⟨v14, rfl, ho14, hb14⟩; obtain ⟨A14, c14, rfl, hc14, _⟩ := ow_formL ho14 q.trs.length (by simp); have HO14 := Lib.hid ho14; have HB1314 := Lib.hid hb14; have HB14 := Lib.hid (HB13.out.trans (hb14.mono HB13.out.size)); clear ho14 hb14)
            | (go_at_call 29; refine (trailers_at w5.heap.size w5.heap.size q _ _ _ w12 (HI6.out.far (HB6r.out.trans (HB12.out.mono HB6r.out.size))) HLq.out.2).mono ?_; rintro e w13 ⟨v13, rfl, ho13, hb13⟩; obtain ⟨A13, c13, rfl, hc13, _⟩ := ow_formL ho13 q.trs.length (by simp); have HO13 := Lib.hid ho13; have HB13 := Lib.hid (HB12.out.trans (hb13.mono HB12.out.size)); clear ho13 hb13)
            | (go_at_call 19; refine (eq_b A11 A12 c11 c12 q.body.length q.body.length q.body q.body true w12 (decide_eq_true rfl) rfl rfl (rd_step (ow_rd HO11.out) HB1112.out) (ow_rd HO12.out)).mono ?_; rintro e w12 ⟨rfl, rfl⟩)
            | (go_at_call 27; refine (body_at w1.heap.size.succ w1.heap.size.succ q _ _ _ w11 (HI2.out.far (HB2r.out.trans (HB11.out.mono HB2r.out.size))) HLq.out.1).mono ?_; rintro e w12 ⟨v12, rfl, ho12, hb12⟩; obtain ⟨A12, c12, rfl, hc12, _⟩ := ow_formL ho12 q.body.length (by simp); have HO12 := Lib.hid ho12; have HB1112 := Lib.hid hb12; have HB12 := Lib.hid (HB11.out.trans (hb12.mono HB11.out.size)); clear ho12 hb12)
            | (go_at_call 27; refine (body_at w5.heap.size w5.heap.size q _ _ _ wr (HI6.out.far HB6r.out) HLq.out.1).mono ?_; rintro e w11 ⟨v11, rfl, ho11, hb11⟩; obtain ⟨A11, c11, rfl, hc11, _⟩ := ow_formL ho11 q.body.length (by simp); have HO11 := Lib.hid ho11; have HB11 := Lib.hid hb11; clear ho11 hb11)
            | (go_at_call 26; have _t := tokB; refine (done_at w1.heap.size.succ w1.heap.size.succ q _ _ _ false wr (HI2.out.far HB2r.out) HDn.out).mono ?_; rintro e wr ⟨rfl, rfl⟩; clear tokB)
            | (go_at_call 26; have _t := tokA; refine (done_at w5.heap.size w5.heap.size q _ _ _ false wr (HI6.out.far HB6r.out) HDn.out).mono ?_; rintro e wr ⟨rfl, rfl⟩; clear tokA; have tokB : True := trivial))
          go_roundw
          case rel => exact ⟨2, by omega, rfl, Lib.hid (HB8r.out.trans (HB15.out.mono HB8r.out.size))⟩
          case measure => simp [intOf]
      · go_wp2_with (first
          | (go_at_call 26; refine (done_at w1.heap.size.succ w1.heap.size.succ q _ _ _ false wr (HI2.out.far HB2r.out) HDn.out).mono ?_; rintro e wr ⟨rfl, rfl⟩))
        go_ret
        exact ⟨rfl, HBr.out⟩
end Go.Proofs.YtkjibnhihdbmdaaDoor
