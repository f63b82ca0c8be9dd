/-
  ChunkPrefix, under the guard.
-/
import Derived.Test.YtkjibnhihdbmdaaDoorChunkFed
set_option linter.unusedVariables false
set_option linter.unusedSimpArgs false
namespace Go.Proofs.YtkjibnhihdbmdaaDoor
open Go.RowKit
/-- fed at one piece -/
theorem fed_one (A : Option Addr) (c L : Nat) (l : List UInt8) (w : World) (g : Nat) (hg : g = w.heap.size) (hL : l.length = L) (h : Rd w w.heap.size A L (bc l)) (hc : L ≤ c) (hL2 : L ≤ 1000000) {q : Rdr} {n : Nat} (hq : goR newR l 0 = (q, n)) :
    Calls Tryd.prog 24 #[.slice (some ⟨g, 0, none⟩) 1 1] (w.alloc (.cells #[.slice A L c] 22)) fun e w' => ∃ vb vt vl, e = .returned (.tuple #[.pointer (some ⟨w.heap.size.succ, 0, none⟩), .int .i64 (n : Int), .int .i64 (q.bad : Int), .bool true]) ∧ Inv [] w' w.heap.size.succ w.heap.size.succ q vb vt vl ∧ Below w.heap.size w w' := by
  subst hg hL
  have hb := (Below.refl w.heap.size w).alloc (Nat.le_refl _) (.cells #[.slice A l.length c] 22)
  have hr : RdB (w.alloc (.cells #[.slice A l.length c] 22)) (w.alloc (.cells #[.slice A l.length c] 22)).heap.size (some ⟨w.heap.size, 0, none⟩) 1 [⟨A, c, l⟩] := by
    refine ⟨rd_lit w 22 ([(⟨A, c, l⟩ : BRow)].map BRow.v) 1 w.heap.size rfl rfl, fun r hr => ?_⟩
    rcases List.mem_cons.1 hr with rfl | hr
    · exact ⟨rd_step h hb, hc⟩
    · cases hr
  have e1 : flatB [⟨A, c, l⟩] = l := by simp [flatB]
  have e2 : (w.alloc (.cells #[.slice A l.length c] 22)).heap.size = w.heap.size.succ := by simp
  refine (fed_at (some ⟨w.heap.size, 0, none⟩) 1 1 [⟨A, c, l⟩] _ rfl hr (by rw [e1]; exact hL2) (by decide)).mono ?_
  rintro e w' ⟨vb, vt, vl, rfl, hi, hb'⟩
  rw [e1, e2, hq] at hi
  rw [e1, e2, hq]
  exact ⟨vb, vt, vl, rfl, hi, hb.trans (hb'.mono (by simp))⟩
set_option maxRecDepth 100000 in
set_option maxHeartbeats 8000000 in
theorem chunkPrefix_any (A0 : Option Addr) (c0 : Nat) (b0 : List UInt8) (x : Nat) (A2 : Option Addr) (c2 : Nat) (tail : List UInt8) (w : World) (henv : EnvOk w)
    (r0 : Rd w w.heap.size A0 b0.length (bc b0)) (hc0 : b0.length ≤ c0) (hb0 : b0.length ≤ 140737488351232) (hx : x < 65536)
    (r2 : Rd w w.heap.size A2 tail.length (bc tail)) (hc2 : tail.length ≤ c2) (hb2 : tail.length ≤ 140737488351232) :
    Calls Tryd.prog 9 #[.slice A0 b0.length c0, .int .u16 (x : Int), .slice A2 tail.length c2] w fun e w' => e = .returned (.bool true) ∧ Below w.heap.size w w' := by
  obtain ⟨i0, hi, hi0, hi1, hi2⟩ := info_parts Tryd.clInfoByte
  obtain ⟨L, hL⟩ : ∃ L, L = min b0.length 2000 := ⟨_, rfl⟩
  have hmin : min (b0.length : Int) 2000 = (L : Int) := by omega
  have hL1 : L ≤ b0.length := by omega
  have hL2 : L ≤ 2000 := by omega
  have hLc : L ≤ c0 := by omega
  have ksl := sl_h A0 b0.length c0 L (by omega)
  have rp := rd_pre r0 hL1
  have hl : (b0.take L).length = L := by rw [List.length_take]; omega
  generalize b0.take L = b at rp hl
  obtain ⟨q, n, hq⟩ : ∃ q n, goR newR b 0 = (q, n) := ⟨_, _, rfl⟩
  have hcnt := go_count b newR 0
  rw [hq] at hcnt
  have hn : n ≤ L := by have := hcnt.2; simp only [Nat.zero_add] at this; omega
  have hlq : Lens q := by have := go_lens b newR 0 lens_new; rw [hq] at this; exact this
  obtain ⟨k, hk⟩ : ∃ k : Nat, (x : Int) % ((n : Int) + 1) = (k : Int) := ⟨x % (n + 1), by push_cast; rfl⟩
  have hkn : k ≤ n := by have := Int.emod_lt_of_pos (x : Int) (show (0 : Int) < (n : Int) + 1 by omega); omega
  obtain ⟨E, hE⟩ : ∃ E, decE q = E := ⟨_, rfl⟩
  have hks := sl_h A0 L c0 k (by omega)
  have HE := Lib.hid henv
  have HR0 := Lib.hid rp
  have HR2 := Lib.hid r2
  have HLb := Lib.hid hl
  have HQ := Lib.hid hq
  have HLq := Lib.hid hlq.bd
  have D2b := Lib.hid (show decB (goR newR b 0).1 = decB q by rw [hq])
  have e1 : decide (L < n) = false := by simp; omega
  have e2 : decide ((n : Int) < 0) = false := by simp
  by_cases hA : k = n ∧ E = 0
  · obtain ⟨rfl, rfl⟩ := hA
    have D1 := Lib.hid (show (goR newR b 0).2 = k by rw [hq])
    have D2 := Lib.hid (show decE (goR newR b 0).1 = 0 by rw [hq]; exact hE)
    clear rp r0 r2 henv hl hq hlq hE hL hcnt
    go_enter Tryd.func9, Tryd.ntmps9
    have tok1 : True := trivial
    go_wp2_with (first
      | (go_at_call 17; have _t := tok1; refine (decode_res A0 c0 L b w1 k 0 (decB q).length (decB q) D1.out D2.out D2b.out rfl HLb.out ((HR0.out.below HB1.out).more HB1.out.size) (by omega)).mono ?_; rintro e w2 ⟨A2', c2', rfl, hc2', ho2, hb2'⟩; have HB2 := Lib.hid (HB1.out.trans (hb2'.mono HB1.out.size)); clear ho2 hb2' tok1)
      | (go_at_call 13; refine (awake_any w HE.out).mono ?_; rintro e w1 ⟨rfl, hb1⟩; have HB1 := Lib.hid hb1; clear hb1))
    go_ret
    exact ⟨rfl, HB2.out⟩
  · obtain ⟨pr, m, hp1, hp2, hp3, hp4, hp5, hp6⟩ := dec_prefix b tail k q n hq hkn (by rw [hE]; exact hA)
    rw [hE] at hp5 hp6
    have hpl : pr.body.length ≤ q.body.length := by rw [hp3]; simp
    have hpr : decide (q.body.take pr.body.length = pr.body) = true := by rw [hp3]; simp
    have hlp : Lens pr := by have := go_lens (b.take k) newR 0 lens_new; rw [hp1] at this; exact this
    have HLp := Lib.hid hlp.bd
    have HPl := Lib.hid hpl
    have HPr := Lib.hid hpr
    have D4 := Lib.hid hp1
    have D3 := Lib.hid (show (goR newR (b.take k) 0).2 = k ∧ decE (goR newR (b.take k) 0).1 = 192 ∧ decB (goR newR (b.take k) 0).1 = [] by
      rw [hp1]; exact ⟨rfl, hp2, by unfold decB; rw [hp2]; rfl⟩)
    rw [hl] at hp4 hp5 hp6
    by_cases hE0 : E = 0
    · have hkne : ¬ k = n := fun h => hA ⟨h, hE0⟩
      have t1 : ((k : Int) == (n : Int)) = false := by simp; omega
      subst hE0
      have D2 := Lib.hid (show decE (goR newR b 0).1 = 0 by rw [hq]; exact hE)
      by_cases hnL : n = L
      · subst hnL
        have D1 := Lib.hid (show (goR newR b 0).2 = n by rw [hq])
        clear rp r0 r2 henv hl hq hlq hE hL hcnt hp1 hp2 hp3 hp4 hp5 hp6 hpl hpr hlp hkne hA
        go_enter Tryd.func9, Tryd.ntmps9
        have tok1 : True := trivial
        go_wp2_with (first
          | (go_at_call 30; refine (prefix_b A6 A7 c6 c7 q.body.length pr.body.length q.body pr.body true w7 HPr.out rfl rfl HPl.out hc6 (rd_step (ow_rd HO6.out) HB67.out) (ow_rd HO7.out)).mono ?_; rintro e w7 ⟨rfl, rfl⟩)
          | (go_at_call 27; refine (body_at w4.heap.size.succ w4.heap.size.succ pr _ _ _ w6 (HI5.out.far HB56.out) HLp.out).mono ?_; rintro e w7 ⟨v7, rfl, ho7, hb7⟩; obtain ⟨A7, c7, rfl, hc7, _⟩ := ow_formL ho7 pr.body.length (by simp); have HO7 := Lib.hid ho7; have HB67 := Lib.hid hb7; have HB7 := Lib.hid (HB6.out.trans (hb7.mono HB6.out.size)); clear ho7 hb7)
          | (go_at_call 27; refine (body_at w3.heap.size.succ w3.heap.size.succ q _ _ _ w5 (HI4.out.far HB45.out) HLq.out).mono ?_; rintro e w6 ⟨v6, rfl, ho6, hb6⟩; obtain ⟨A6, c6, rfl, hc6, _⟩ := ow_formL ho6 q.body.length (by simp); have HO6 := Lib.hid ho6; have HB56 := Lib.hid hb6; have HB6 := Lib.hid (HB5.out.trans (hb6.mono HB5.out.size)); clear ho6 hb6)
          | (go_at_call 24; refine (fed_one A0 c0 k (b.take k) w4 w4.heap.size rfl (by rw [List.length_take]; have := HLb.out; omega) (((rd_pre HR0.out (k := k) (by omega)).below HB4.out).more HB4.out.size) (by omega) (by omega) D4.out).mono ?_; rintro e w5 ⟨vb5, vt5, vl5, rfl, hi5, hb5⟩; have HI5 := Lib.hid hi5; have HB45 := Lib.hid hb5; have HB5 := Lib.hid (HB4.out.trans (hb5.mono HB4.out.size)); clear hi5 hb5)
          | (go_at_call 24; refine (fed_one A0 c0 n b w3 w3.heap.size rfl HLb.out ((HR0.out.below HB3.out).more HB3.out.size) (by omega) (by omega) HQ.out).mono ?_; rintro e w4 ⟨vb4, vt4, vl4, rfl, hi4, hb4⟩; have HI4 := Lib.hid hi4; have HB4 := Lib.hid (HB3.out.trans (hb4.mono HB3.out.size)); clear hi4 hb4)
          | (go_at_call 17; refine (decode_res A0 c0 k (b.take k) w2 k 192 0 [] D3.out.1 D3.out.2.1 D3.out.2.2 rfl (by rw [List.length_take]; have := HLb.out; omega) (((rd_pre HR0.out (k := k) (by omega)).below HB2.out).more HB2.out.size) (by omega)).mono ?_; rintro e w3 ⟨A3, c3, rfl, hc3, ho3, hb3⟩; have HB3 := Lib.hid (HB2.out.trans (hb3.mono HB2.out.size)); clear ho3 hb3)
          | (go_at_call 17; have _t := tok1; refine (decode_res A0 c0 n b w1 n 0 (decB q).length (decB q) D1.out D2.out D2b.out rfl HLb.out ((HR0.out.below HB1.out).more HB1.out.size) (by omega)).mono ?_; rintro e w2 ⟨A2', c2', rfl, hc2', ho2, hb2'⟩; have HB2 := Lib.hid (HB1.out.trans (hb2'.mono HB1.out.size)); clear ho2 hb2' tok1)
          | (go_at_call 13; refine (awake_any w HE.out).mono ?_; rintro e w1 ⟨rfl, hb1⟩; have HB1 := Lib.hid hb1; clear hb1))
        go_ret
        exact ⟨rfl, HB7.out⟩
      · have D1 := Lib.hid (show (goR newR b 0).2 = n by rw [hq])
        have t4 : ((n : Int) == (L : Int)) = false := by simp; omega
        clear rp r0 r2 henv hl hq hlq hE hL hcnt hp1 hp2 hp3 hp4 hp5 hp6 hpl hpr hlp hkne hA
        go_enter Tryd.func9, Tryd.ntmps9
        have tok1 : True := trivial
        go_wp2_with (first
          | (go_at_call 30; refine (prefix_b A6 A7 c6 c7 q.body.length pr.body.length q.body pr.body true w7 HPr.out rfl rfl HPl.out hc6 (rd_step (ow_rd HO6.out) HB67.out) (ow_rd HO7.out)).mono ?_; rintro e w7 ⟨rfl, rfl⟩)
          | (go_at_call 27; refine (body_at w4.heap.size.succ w4.heap.size.succ pr _ _ _ w6 (HI5.out.far HB56.out) HLp.out).mono ?_; rintro e w7 ⟨v7, rfl, ho7, hb7⟩; obtain ⟨A7, c7, rfl, hc7, _⟩ := ow_formL ho7 pr.body.length (by simp); have HO7 := Lib.hid ho7; have HB67 := Lib.hid hb7; have HB7 := Lib.hid (HB6.out.trans (hb7.mono HB6.out.size)); clear ho7 hb7)
          | (go_at_call 27; refine (body_at w3.heap.size.succ w3.heap.size.succ q _ _ _ w5 (HI4.out.far HB45.out) HLq.out).mono ?_; rintro e w6 ⟨v6, rfl, ho6, hb6⟩; obtain ⟨A6, c6, rfl, hc6, _⟩ := ow_formL ho6 q.body.length (by simp); have HO6 := Lib.hid ho6; have HB56 := Lib.hid hb6; have HB6 := Lib.hid (HB5.out.trans (hb6.mono HB5.out.size)); clear ho6 hb6)
          | (go_at_call 24; refine (fed_one A0 c0 k (b.take k) w4 w4.heap.size rfl (by rw [List.length_take]; have := HLb.out; omega) (((rd_pre HR0.out (k := k) (by omega)).below HB4.out).more HB4.out.size) (by omega) (by omega) D4.out).mono ?_; rintro e w5 ⟨vb5, vt5, vl5, rfl, hi5, hb5⟩; have HI5 := Lib.hid hi5; have HB45 := Lib.hid hb5; have HB5 := Lib.hid (HB4.out.trans (hb5.mono HB4.out.size)); clear hi5 hb5)
          | (go_at_call 24; refine (fed_one A0 c0 L b w3 w3.heap.size rfl HLb.out ((HR0.out.below HB3.out).more HB3.out.size) (by omega) (by omega) HQ.out).mono ?_; rintro e w4 ⟨vb4, vt4, vl4, rfl, hi4, hb4⟩; have HI4 := Lib.hid hi4; have HB4 := Lib.hid (HB3.out.trans (hb4.mono HB3.out.size)); clear hi4 hb4)
          | (go_at_call 17; refine (decode_res A0 c0 k (b.take k) w2 k 192 0 [] D3.out.1 D3.out.2.1 D3.out.2.2 rfl (by rw [List.length_take]; have := HLb.out; omega) (((rd_pre HR0.out (k := k) (by omega)).below HB2.out).more HB2.out.size) (by omega)).mono ?_; rintro e w3 ⟨A3, c3, rfl, hc3, ho3, hb3⟩; have HB3 := Lib.hid (HB2.out.trans (hb3.mono HB2.out.size)); clear ho3 hb3)
          | (go_at_call 17; have _t := tok1; refine (decode_res A0 c0 L b w1 n 0 (decB q).length (decB q) D1.out D2.out D2b.out rfl HLb.out ((HR0.out.below HB1.out).more HB1.out.size) (by omega)).mono ?_; rintro e w2 ⟨A2', c2', rfl, hc2', ho2, hb2'⟩; have HB2 := Lib.hid (HB1.out.trans (hb2'.mono HB1.out.size)); clear ho2 hb2' tok1)
          | (go_at_call 13; refine (awake_any w HE.out).mono ?_; rintro e w1 ⟨rfl, hb1⟩; have HB1 := Lib.hid hb1; clear hb1))
        go_ret
        exact ⟨rfl, HB7.out⟩
    · have t2 : ((E : Int) == 0) = false := by simp; omega
      have D2 := Lib.hid (show decE (goR newR b 0).1 = E by rw [hq]; exact hE)
      have D1 := Lib.hid (show (goR newR b 0).2 = n by rw [hq])
      by_cases hnL : n = L
      · have cases2 : k = n ∨ ¬ k = n := Classical.em _
        by_cases hE1 : E = 192
        · subst hE1
          rcases cases2 with hkn2 | hkn2
          · subst hkn2
            subst hnL
            clear rp r0 r2 henv hl hq hlq hE hL hcnt hp1 hp2 hp3 hp4 hp5 hp6 hpl hpr hlp hA
            go_enter Tryd.func9, Tryd.ntmps9
            have tok1 : True := trivial
            go_wp2_with (first
              | (go_at_call 30; refine (prefix_b A6 A7 c6 c7 q.body.length pr.body.length q.body pr.body true w7 HPr.out rfl rfl HPl.out hc6 (rd_step (ow_rd HO6.out) HB67.out) (ow_rd HO7.out)).mono ?_; rintro e w7 ⟨rfl, rfl⟩)
              | (go_at_call 27; refine (body_at w4.heap.size.succ w4.heap.size.succ pr _ _ _ w6 (HI5.out.far HB56.out) HLp.out).mono ?_; rintro e w7 ⟨v7, rfl, ho7, hb7⟩; obtain ⟨A7, c7, rfl, hc7, _⟩ := ow_formL ho7 pr.body.length (by simp); have HO7 := Lib.hid ho7; have HB67 := Lib.hid hb7; have HB7 := Lib.hid (HB6.out.trans (hb7.mono HB6.out.size)); clear ho7 hb7)
              | (go_at_call 27; refine (body_at w3.heap.size.succ w3.heap.size.succ q _ _ _ w5 (HI4.out.far HB45.out) HLq.out).mono ?_; rintro e w6 ⟨v6, rfl, ho6, hb6⟩; obtain ⟨A6, c6, rfl, hc6, _⟩ := ow_formL ho6 q.body.length (by simp); have HO6 := Lib.hid ho6; have HB56 := Lib.hid hb6; have HB6 := Lib.hid (HB5.out.trans (hb6.mono HB5.out.size)); clear ho6 hb6)
              | (go_at_call 24; refine (fed_one A0 c0 k (b.take k) w4 w4.heap.size rfl (by rw [List.length_take]; have := HLb.out; omega) (((rd_pre HR0.out (k := k) (by omega)).below HB4.out).more HB4.out.size) (by omega) (by omega) D4.out).mono ?_; rintro e w5 ⟨vb5, vt5, vl5, rfl, hi5, hb5⟩; have HI5 := Lib.hid hi5; have HB45 := Lib.hid hb5; have HB5 := Lib.hid (HB4.out.trans (hb5.mono HB4.out.size)); clear hi5 hb5)
              | (go_at_call 24; refine (fed_one A0 c0 k b w3 w3.heap.size rfl HLb.out ((HR0.out.below HB3.out).more HB3.out.size) (by omega) (by omega) HQ.out).mono ?_; rintro e w4 ⟨vb4, vt4, vl4, rfl, hi4, hb4⟩; have HI4 := Lib.hid hi4; have HB4 := Lib.hid (HB3.out.trans (hb4.mono HB3.out.size)); clear hi4 hb4)
              | (go_at_call 17; refine (decode_res A0 c0 k (b.take k) w2 k 192 0 [] D3.out.1 D3.out.2.1 D3.out.2.2 rfl (by rw [List.length_take]; have := HLb.out; omega) (((rd_pre HR0.out (k := k) (by omega)).below HB2.out).more HB2.out.size) (by omega)).mono ?_; rintro e w3 ⟨A3, c3, rfl, hc3, ho3, hb3⟩; have HB3 := Lib.hid (HB2.out.trans (hb3.mono HB2.out.size)); clear ho3 hb3)
              | (go_at_call 17; have _t := tok1; refine (decode_res A0 c0 k b w1 k 192 (decB q).length (decB q) D1.out D2.out D2b.out rfl HLb.out ((HR0.out.below HB1.out).more HB1.out.size) (by omega)).mono ?_; rintro e w2 ⟨A2', c2', rfl, hc2', ho2, hb2'⟩; have HB2 := Lib.hid (HB1.out.trans (hb2'.mono HB1.out.size)); clear ho2 hb2' tok1)
              | (go_at_call 13; refine (awake_any w HE.out).mono ?_; rintro e w1 ⟨rfl, hb1⟩; have HB1 := Lib.hid hb1; clear hb1))
            go_ret
            exact ⟨rfl, HB7.out⟩
          · have t1 : ((k : Int) == (n : Int)) = false := by simp; omega
            subst hnL
            clear rp r0 r2 henv hl hq hlq hE hL hcnt hp1 hp2 hp3 hp4 hp5 hp6 hpl hpr hlp hA
            go_enter Tryd.func9, Tryd.ntmps9
            have tok1 : True := trivial
            go_wp2_with (first
              | (go_at_call 30; refine (prefix_b A6 A7 c6 c7 q.body.length pr.body.length q.body pr.body true w7 HPr.out rfl rfl HPl.out hc6 (rd_step (ow_rd HO6.out) HB67.out) (ow_rd HO7.out)).mono ?_; rintro e w7 ⟨rfl, rfl⟩)
              | (go_at_call 27; refine (body_at w4.heap.size.succ w4.heap.size.succ pr _ _ _ w6 (HI5.out.far HB56.out) HLp.out).mono ?_; rintro e w7 ⟨v7, rfl, ho7, hb7⟩; obtain ⟨A7, c7, rfl, hc7, _⟩ := ow_formL ho7 pr.body.length (by simp); have HO7 := Lib.hid ho7; have HB67 := Lib.hid hb7; have HB7 := Lib.hid (HB6.out.trans (hb7.mono HB6.out.size)); clear ho7 hb7)
              | (go_at_call 27; refine (body_at w3.heap.size.succ w3.heap.size.succ q _ _ _ w5 (HI4.out.far HB45.out) HLq.out).mono ?_; rintro e w6 ⟨v6, rfl, ho6, hb6⟩; obtain ⟨A6, c6, rfl, hc6, _⟩ := ow_formL ho6 q.body.length (by simp); have HO6 := Lib.hid ho6; have HB56 := Lib.hid hb6; have HB6 := Lib.hid (HB5.out.trans (hb6.mono HB5.out.size)); clear ho6 hb6)
              | (go_at_call 24; refine (fed_one A0 c0 k (b.take k) w4 w4.heap.size rfl (by rw [List.length_take]; have := HLb.out; omega) (((rd_pre HR0.out (k := k) (by omega)).below HB4.out).more HB4.out.size) (by omega) (by omega) D4.out).mono ?_; rintro e w5 ⟨vb5, vt5, vl5, rfl, hi5, hb5⟩; have HI5 := Lib.hid hi5; have HB45 := Lib.hid hb5; have HB5 := Lib.hid (HB4.out.trans (hb5.mono HB4.out.size)); clear hi5 hb5)
              | (go_at_call 24; refine (fed_one A0 c0 n b w3 w3.heap.size rfl HLb.out ((HR0.out.below HB3.out).more HB3.out.size) (by omega) (by omega) HQ.out).mono ?_; rintro e w4 ⟨vb4, vt4, vl4, rfl, hi4, hb4⟩; have HI4 := Lib.hid hi4; have HB4 := Lib.hid (HB3.out.trans (hb4.mono HB3.out.size)); clear hi4 hb4)
              | (go_at_call 17; refine (decode_res A0 c0 k (b.take k) w2 k 192 0 [] D3.out.1 D3.out.2.1 D3.out.2.2 rfl (by rw [List.length_take]; have := HLb.out; omega) (((rd_pre HR0.out (k := k) (by omega)).below HB2.out).more HB2.out.size) (by omega)).mono ?_; rintro e w3 ⟨A3, c3, rfl, hc3, ho3, hb3⟩; have HB3 := Lib.hid (HB2.out.trans (hb3.mono HB2.out.size)); clear ho3 hb3)
              | (go_at_call 17; have _t := tok1; refine (decode_res A0 c0 n b w1 n 192 (decB q).length (decB q) D1.out D2.out D2b.out rfl HLb.out ((HR0.out.below HB1.out).more HB1.out.size) (by omega)).mono ?_; rintro e w2 ⟨A2', c2', rfl, hc2', ho2, hb2'⟩; have HB2 := Lib.hid (HB1.out.trans (hb2'.mono HB1.out.size)); clear ho2 hb2' tok1)
              | (go_at_call 13; refine (awake_any w HE.out).mono ?_; rintro e w1 ⟨rfl, hb1⟩; have HB1 := Lib.hid hb1; clear hb1))
            go_ret
            exact ⟨rfl, HB7.out⟩
        · have t3 : ((E : Int) == 192) = false := by simp; omega
          rcases cases2 with hkn2 | hkn2
          · subst hkn2
            subst hnL
            clear rp r0 r2 henv hl hq hlq hE hL hcnt hp1 hp2 hp3 hp4 hp5 hp6 hpl hpr hlp hA
            go_enter Tryd.func9, Tryd.ntmps9
            have tok1 : True := trivial
            go_wp2_with (first
              | (go_at_call 30; refine (prefix_b A6 A7 c6 c7 q.body.length pr.body.length q.body pr.body true w7 HPr.out rfl rfl HPl.out hc6 (rd_step (ow_rd HO6.out) HB67.out) (ow_rd HO7.out)).mono ?_; rintro e w7 ⟨rfl, rfl⟩)
              | (go_at_call 27; refine (body_at w4.heap.size.succ w4.heap.size.succ pr _ _ _ w6 (HI5.out.far HB56.out) HLp.out).mono ?_; rintro e w7 ⟨v7, rfl, ho7, hb7⟩; obtain ⟨A7, c7, rfl, hc7, _⟩ := ow_formL ho7 pr.body.length (by simp); have HO7 := Lib.hid ho7; have HB67 := Lib.hid hb7; have HB7 := Lib.hid (HB6.out.trans (hb7.mono HB6.out.size)); clear ho7 hb7)
              | (go_at_call 27; refine (body_at w3.heap.size.succ w3.heap.size.succ q _ _ _ w5 (HI4.out.far HB45.out) HLq.out).mono ?_; rintro e w6 ⟨v6, rfl, ho6, hb6⟩; obtain ⟨A6, c6, rfl, hc6, _⟩ := ow_formL ho6 q.body.length (by simp); have HO6 := Lib.hid ho6; have HB56 := Lib.hid hb6; have HB6 := Lib.hid (HB5.out.trans (hb6.mono HB5.out.size)); clear ho6 hb6)
              | (go_at_call 24; refine (fed_one A0 c0 k (b.take k) w4 w4.heap.size rfl (by rw [List.length_take]; have := HLb.out; omega) (((rd_pre HR0.out (k := k) (by omega)).below HB4.out).more HB4.out.size) (by omega) (by omega) D4.out).mono ?_; rintro e w5 ⟨vb5, vt5, vl5, rfl, hi5, hb5⟩; have HI5 := Lib.hid hi5; have HB45 := Lib.hid hb5; have HB5 := Lib.hid (HB4.out.trans (hb5.mono HB4.out.size)); clear hi5 hb5)
              | (go_at_call 24; refine (fed_one A0 c0 k b w3 w3.heap.size rfl HLb.out ((HR0.out.below HB3.out).more HB3.out.size) (by omega) (by omega) HQ.out).mono ?_; rintro e w4 ⟨vb4, vt4, vl4, rfl, hi4, hb4⟩; have HI4 := Lib.hid hi4; have HB4 := Lib.hid (HB3.out.trans (hb4.mono HB3.out.size)); clear hi4 hb4)
              | (go_at_call 17; refine (decode_res A0 c0 k (b.take k) w2 k 192 0 [] D3.out.1 D3.out.2.1 D3.out.2.2 rfl (by rw [List.length_take]; have := HLb.out; omega) (((rd_pre HR0.out (k := k) (by omega)).below HB2.out).more HB2.out.size) (by omega)).mono ?_; rintro e w3 ⟨A3, c3, rfl, hc3, ho3, hb3⟩; have HB3 := Lib.hid (HB2.out.trans (hb3.mono HB2.out.size)); clear ho3 hb3)
              | (go_at_call 17; have _t := tok1; refine (decode_res A0 c0 k b w1 k E (decB q).length (decB q) D1.out D2.out D2b.out rfl HLb.out ((HR0.out.below HB1.out).more HB1.out.size) (by omega)).mono ?_; rintro e w2 ⟨A2', c2', rfl, hc2', ho2, hb2'⟩; have HB2 := Lib.hid (HB1.out.trans (hb2'.mono HB1.out.size)); clear ho2 hb2' tok1)
              | (go_at_call 13; refine (awake_any w HE.out).mono ?_; rintro e w1 ⟨rfl, hb1⟩; have HB1 := Lib.hid hb1; clear hb1))
            go_ret
            exact ⟨rfl, HB7.out⟩
          · have t1 : ((k : Int) == (n : Int)) = false := by simp; omega
            subst hnL
            clear rp r0 r2 henv hl hq hlq hE hL hcnt hp1 hp2 hp3 hp4 hp5 hp6 hpl hpr hlp hA
            go_enter Tryd.func9, Tryd.ntmps9
            have tok1 : True := trivial
            go_wp2_with (first
              | (go_at_call 30; refine (prefix_b A6 A7 c6 c7 q.body.length pr.body.length q.body pr.body true w7 HPr.out rfl rfl HPl.out hc6 (rd_step (ow_rd HO6.out) HB67.out) (ow_rd HO7.out)).mono ?_; rintro e w7 ⟨rfl, rfl⟩)
              | (go_at_call 27; refine (body_at w4.heap.size.succ w4.heap.size.succ pr _ _ _ w6 (HI5.out.far HB56.out) HLp.out).mono ?_; rintro e w7 ⟨v7, rfl, ho7, hb7⟩; obtain ⟨A7, c7, rfl, hc7, _⟩ := ow_formL ho7 pr.body.length (by simp); have HO7 := Lib.hid ho7; have HB67 := Lib.hid hb7; have HB7 := Lib.hid (HB6.out.trans (hb7.mono HB6.out.size)); clear ho7 hb7)
              | (go_at_call 27; refine (body_at w3.heap.size.succ w3.heap.size.succ q _ _ _ w5 (HI4.out.far HB45.out) HLq.out).mono ?_; rintro e w6 ⟨v6, rfl, ho6, hb6⟩; obtain ⟨A6, c6, rfl, hc6, _⟩ := ow_formL ho6 q.body.length (by simp); have HO6 := Lib.hid ho6; have HB56 := Lib.hid hb6; have HB6 := Lib.hid (HB5.out.trans (hb6.mono HB5.out.size)); clear ho6 hb6)
              | (go_at_call 24; refine (fed_one A0 c0 k (b.take k) w4 w4.heap.size rfl (by rw [List.length_take]; have := HLb.out; omega) (((rd_pre HR0.out (k := k) (by omega)).below HB4.out).more HB4.out.size) (by omega) (by omega) D4.out).mono ?_; rintro e w5 ⟨vb5, vt5, vl5, rfl, hi5, hb5⟩; have HI5 := Lib.hid hi5; have HB45 := Lib.hid hb5; have HB5 := Lib.hid (HB4.out.trans (hb5.mono HB4.out.size)); clear hi5 hb5)
              | (go_at_call 24; refine (fed_one A0 c0 n b w3 w3.heap.size rfl HLb.out ((HR0.out.below HB3.out).more HB3.out.size) (by omega) (by omega) HQ.out).mono ?_; rintro e w4 ⟨vb4, vt4, vl4, rfl, hi4, hb4⟩; have HI4 := Lib.hid hi4; have HB4 := Lib.hid (HB3.out.trans (hb4.mono HB3.out.size)); clear hi4 hb4)
              | (go_at_call 17; refine (decode_res A0 c0 k (b.take k) w2 k 192 0 [] D3.out.1 D3.out.2.1 D3.out.2.2 rfl (by rw [List.length_take]; have := HLb.out; omega) (((rd_pre HR0.out (k := k) (by omega)).below HB2.out).more HB2.out.size) (by omega)).mono ?_; rintro e w3 ⟨A3, c3, rfl, hc3, ho3, hb3⟩; have HB3 := Lib.hid (HB2.out.trans (hb3.mono HB2.out.size)); clear ho3 hb3)
              | (go_at_call 17; have _t := tok1; refine (decode_res A0 c0 n b w1 n E (decB q).length (decB q) D1.out D2.out D2b.out rfl HLb.out ((HR0.out.below HB1.out).more HB1.out.size) (by omega)).mono ?_; rintro e w2 ⟨A2', c2', rfl, hc2', ho2, hb2'⟩; have HB2 := Lib.hid (HB1.out.trans (hb2'.mono HB1.out.size)); clear ho2 hb2' tok1)
              | (go_at_call 13; refine (awake_any w HE.out).mono ?_; rintro e w1 ⟨rfl, hb1⟩; have HB1 := Lib.hid hb1; clear hb1))
            go_ret
            exact ⟨rfl, HB7.out⟩
      · have t4 : ((n : Int) == (L : Int)) = false := by simp; omega
        have hE1 : ¬ E = 192 := fun h => by
          rcases hp5 (.inr (.inl h)) with h | h
          · exact hnL h
          · exact hE0 h
        have t3 : ((E : Int) == 192) = false := by simp; omega
        obtain ⟨q', hq1, hq2⟩ := hp6 (fun h => by
          rcases h with h | h | h
          · exact hE0 h
          · exact hE1 h
          · exact hnL h)
        have D5 := Lib.hid (show (goR newR (b.take (n + 1) ++ tail) 0).2 = n ∧ decE (goR newR (b.take (n + 1) ++ tail) 0).1 = E by
          rw [hq1]; exact ⟨rfl, hq2⟩)
        have hD5 : decB (goR newR (b.take (n + 1) ++ tail) 0).1 = decB q' := by rw [hq1]
        have D5b := Lib.hid hD5
        have hsn := sl_h A0 L c0 (n + 1) (by omega)
        have hsn2 : ∀ W : World, (Instr.slice 22 (.slice A0 L c0) none (some (.int .i64 ((n : Int) + 1))) none).run Tryd.prog W = .ok (.slice A0 (n + 1) c0) W := hsn
        rcases Classical.em (k = n) with hkn2 | hkn2
        · subst hkn2
          clear rp r0 r2 henv hl hq hlq hE hL hcnt hp1 hp2 hp3 hp4 hp5 hp6 hpl hpr hlp hA hq1 hq2 hsn hD5
          go_enter Tryd.func9, Tryd.ntmps9
          have tok1 : True := trivial
          go_wp2_with (first
            | (go_at_call 17; refine (decode_res A9 c9 (k + 1 + tail.length) (b.take (k + 1) ++ tail) w9 k E (decB q').length (decB q') D5.out.1 D5.out.2 D5b.out rfl (by simp; have := HLb.out; omega) (ow_rd HO9.out) (by omega)).mono ?_; rintro e w10 ⟨A10, c10, rfl, hc10, ho10, hb10⟩; have HB10 := Lib.hid (HB9.out.trans (hb10.mono HB9.out.size)); clear ho10 hb10)
            | (at_builtin; refine wpList_appW _ rfl _ _ _ _ rfl w7.heap.size 5 i0 (.int .u8 0) 1 Tryd.underlying22 hi hi0 hi1 hi2 rfl (Nat.le_refl _) _ _ HO8.out rfl tail.length (bc tail) ((HR2.out.below HB8.out).src Tryd.underlying22 (bc_one _)) (by rw [bc_length, List.length_take]; omega) HB8s ?_; intro v9 w9 hown9 hgr9 hsz9; rw [bc_app] at hown9; obtain ⟨A9, c9, rfl, hl9, _⟩ := ow_formL hown9 (k + 1 + tail.length) (by simp; have := HLb.out; omega); have HO9 := Lib.hid hown9; have HB9 := Lib.hid (HB8.out.trans (hgr9.below (fun q hq => Nat.le_trans HB7.out.size (HO8.out.lt q hq)) HB8.out.size)); clear hown9 hgr9)
            | (go_at_call 18; refine (cl_b A0 c0 (k + 1) (b.take (k + 1)) w7 (by rw [List.length_take]; have := HLb.out; omega) (((rd_pre HR0.out (k := k + 1) (by omega)).below HB7.out).more HB7.out.size) (by omega)).mono ?_; rintro e w8 ⟨v8, rfl, ho8, hb8⟩; obtain ⟨A8, c8, rfl, hl8, _⟩ := ow_formL ho8 (k + 1) (by simp; have := HLb.out; omega); have HO8 := Lib.hid ho8; have HB8s := hb8.size; have HB8 := Lib.hid (HB7.out.trans (hb8.mono HB7.out.size)); clear ho8 hb8)
            | (go_at_call 30; refine (prefix_b A6 A7 c6 c7 q.body.length pr.body.length q.body pr.body true w7 HPr.out rfl rfl HPl.out hc6 (rd_step (ow_rd HO6.out) HB67.out) (ow_rd HO7.out)).mono ?_; rintro e w7 ⟨rfl, rfl⟩)
            | (go_at_call 27; refine (body_at w4.heap.size.succ w4.heap.size.succ pr _ _ _ w6 (HI5.out.far HB56.out) HLp.out).mono ?_; rintro e w7 ⟨v7, rfl, ho7, hb7⟩; obtain ⟨A7, c7, rfl, hc7, _⟩ := ow_formL ho7 pr.body.length (by simp); have HO7 := Lib.hid ho7; have HB67 := Lib.hid hb7; have HB7 := Lib.hid (HB6.out.trans (hb7.mono HB6.out.size)); clear ho7 hb7)
            | (go_at_call 27; refine (body_at w3.heap.size.succ w3.heap.size.succ q _ _ _ w5 (HI4.out.far HB45.out) HLq.out).mono ?_; rintro e w6 ⟨v6, rfl, ho6, hb6⟩; obtain ⟨A6, c6, rfl, hc6, _⟩ := ow_formL ho6 q.body.length (by simp); have HO6 := Lib.hid ho6; have HB56 := Lib.hid hb6; have HB6 := Lib.hid (HB5.out.trans (hb6.mono HB5.out.size)); clear ho6 hb6)
            | (go_at_call 24; refine (fed_one A0 c0 k (b.take k) w4 w4.heap.size rfl (by rw [List.length_take]; have := HLb.out; omega) (((rd_pre HR0.out (k := k) (by omega)).below HB4.out).more HB4.out.size) (by omega) (by omega) D4.out).mono ?_; rintro e w5 ⟨vb5, vt5, vl5, rfl, hi5, hb5⟩; have HI5 := Lib.hid hi5; have HB45 := Lib.hid hb5; have HB5 := Lib.hid (HB4.out.trans (hb5.mono HB4.out.size)); clear hi5 hb5)
            | (go_at_call 24; refine (fed_one A0 c0 L b w3 w3.heap.size rfl HLb.out ((HR0.out.below HB3.out).more HB3.out.size) (by omega) (by omega) HQ.out).mono ?_; rintro e w4 ⟨vb4, vt4, vl4, rfl, hi4, hb4⟩; have HI4 := Lib.hid hi4; have HB4 := Lib.hid (HB3.out.trans (hb4.mono HB3.out.size)); clear hi4 hb4)
            | (go_at_call 17; refine (decode_res A0 c0 k (b.take k) w2 k 192 0 [] D3.out.1 D3.out.2.1 D3.out.2.2 rfl (by rw [List.length_take]; have := HLb.out; omega) (((rd_pre HR0.out (k := k) (by omega)).below HB2.out).more HB2.out.size) (by omega)).mono ?_; rintro e w3 ⟨A3, c3, rfl, hc3, ho3, hb3⟩; have HB3 := Lib.hid (HB2.out.trans (hb3.mono HB2.out.size)); clear ho3 hb3)
            | (go_at_call 17; have _t := tok1; refine (decode_res A0 c0 L b w1 k E (decB q).length (decB q) D1.out D2.out D2b.out rfl HLb.out ((HR0.out.below HB1.out).more HB1.out.size) (by omega)).mono ?_; rintro e w2 ⟨A2', c2', rfl, hc2', ho2, hb2'⟩; have HB2 := Lib.hid (HB1.out.trans (hb2'.mono HB1.out.size)); clear ho2 hb2' tok1)
            | (go_at_call 13; refine (awake_any w HE.out).mono ?_; rintro e w1 ⟨rfl, hb1⟩; have HB1 := Lib.hid hb1; clear hb1))
          go_ret
          exact ⟨rfl, HB10.out⟩
        · have t1 : ((k : Int) == (n : Int)) = false := by simp; omega
          clear rp r0 r2 henv hl hq hlq hE hL hcnt hp1 hp2 hp3 hp4 hp5 hp6 hpl hpr hlp hA hq1 hq2 hsn hD5
          go_enter Tryd.func9, Tryd.ntmps9
          have tok1 : True := trivial
          go_wp2_with (first
            | (go_at_call 17; refine (decode_res A9 c9 (n + 1 + tail.length) (b.take (n + 1) ++ tail) w9 n E (decB q').length (decB q') D5.out.1 D5.out.2 D5b.out rfl (by simp; have := HLb.out; omega) (ow_rd HO9.out) (by omega)).mono ?_; rintro e w10 ⟨A10, c10, rfl, hc10, ho10, hb10⟩; have HB10 := Lib.hid (HB9.out.trans (hb10.mono HB9.out.size)); clear ho10 hb10)
            | (at_builtin; refine wpList_appW _ rfl _ _ _ _ rfl w7.heap.size 5 i0 (.int .u8 0) 1 Tryd.underlying22 hi hi0 hi1 hi2 rfl (Nat.le_refl _) _ _ HO8.out rfl tail.length (bc tail) ((HR2.out.below HB8.out).src Tryd.underlying22 (bc_one _)) (by rw [bc_length, List.length_take]; omega) HB8s ?_; intro v9 w9 hown9 hgr9 hsz9; rw [bc_app] at hown9; obtain ⟨A9, c9, rfl, hl9, _⟩ := ow_formL hown9 (n + 1 + tail.length) (by simp; have := HLb.out; omega); have HO9 := Lib.hid hown9; have HB9 := Lib.hid (HB8.out.trans (hgr9.below (fun q hq => Nat.le_trans HB7.out.size (HO8.out.lt q hq)) HB8.out.size)); clear hown9 hgr9)
            | (go_at_call 18; refine (cl_b A0 c0 (n + 1) (b.take (n + 1)) w7 (by rw [List.length_take]; have := HLb.out; omega) (((rd_pre HR0.out (k := n + 1) (by omega)).below HB7.out).more HB7.out.size) (by omega)).mono ?_; rintro e w8 ⟨v8, rfl, ho8, hb8⟩; obtain ⟨A8, c8, rfl, hl8, _⟩ := ow_formL ho8 (n + 1) (by simp; have := HLb.out; omega); have HO8 := Lib.hid ho8; have HB8s := hb8.size; have HB8 := Lib.hid (HB7.out.trans (hb8.mono HB7.out.size)); clear ho8 hb8)
            | (go_at_call 30; refine (prefix_b A6 A7 c6 c7 q.body.length pr.body.length q.body pr.body true w7 HPr.out rfl rfl HPl.out hc6 (rd_step (ow_rd HO6.out) HB67.out) (ow_rd HO7.out)).mono ?_; rintro e w7 ⟨rfl, rfl⟩)
            | (go_at_call 27; refine (body_at w4.heap.size.succ w4.heap.size.succ pr _ _ _ w6 (HI5.out.far HB56.out) HLp.out).mono ?_; rintro e w7 ⟨v7, rfl, ho7, hb7⟩; obtain ⟨A7, c7, rfl, hc7, _⟩ := ow_formL ho7 pr.body.length (by simp); have HO7 := Lib.hid ho7; have HB67 := Lib.hid hb7; have HB7 := Lib.hid (HB6.out.trans (hb7.mono HB6.out.size)); clear ho7 hb7)
            | (go_at_call 27; refine (body_at w3.heap.size.succ w3.heap.size.succ q _ _ _ w5 (HI4.out.far HB45.out) HLq.out).mono ?_; rintro e w6 ⟨v6, rfl, ho6, hb6⟩; obtain ⟨A6, c6, rfl, hc6, _⟩ := ow_formL ho6 q.body.length (by simp); have HO6 := Lib.hid ho6; have HB56 := Lib.hid hb6; have HB6 := Lib.hid (HB5.out.trans (hb6.mono HB5.out.size)); clear ho6 hb6)
            | (go_at_call 24; refine (fed_one A0 c0 k (b.take k) w4 w4.heap.size rfl (by rw [List.length_take]; have := HLb.out; omega) (((rd_pre HR0.out (k := k) (by omega)).below HB4.out).more HB4.out.size) (by omega) (by omega) D4.out).mono ?_; rintro e w5 ⟨vb5, vt5, vl5, rfl, hi5, hb5⟩; have HI5 := Lib.hid hi5; have HB45 := Lib.hid hb5; have HB5 := Lib.hid (HB4.out.trans (hb5.mono HB4.out.size)); clear hi5 hb5)
            | (go_at_call 24; refine (fed_one A0 c0 L b w3 w3.heap.size rfl HLb.out ((HR0.out.below HB3.out).more HB3.out.size) (by omega) (by omega) HQ.out).mono ?_; rintro e w4 ⟨vb4, vt4, vl4, rfl, hi4, hb4⟩; have HI4 := Lib.hid hi4; have HB4 := Lib.hid (HB3.out.trans (hb4.mono HB3.out.size)); clear hi4 hb4)
            | (go_at_call 17; refine (decode_res A0 c0 k (b.take k) w2 k 192 0 [] D3.out.1 D3.out.2.1 D3.out.2.2 rfl (by rw [List.length_take]; have := HLb.out; omega) (((rd_pre HR0.out (k := k) (by omega)).below HB2.out).more HB2.out.size) (by omega)).mono ?_; rintro e w3 ⟨A3, c3, rfl, hc3, ho3, hb3⟩; have HB3 := Lib.hid (HB2.out.trans (hb3.mono HB2.out.size)); clear ho3 hb3)
            | (go_at_call 17; have _t := tok1; refine (decode_res A0 c0 L b w1 n E (decB q).length (decB q) D1.out D2.out D2b.out rfl HLb.out ((HR0.out.below HB1.out).more HB1.out.size) (by omega)).mono ?_; rintro e w2 ⟨A2', c2', rfl, hc2', ho2, hb2'⟩; have HB2 := Lib.hid (HB1.out.trans (hb2'.mono HB1.out.size)); clear ho2 hb2' tok1)
            | (go_at_call 13; refine (awake_any w HE.out).mono ?_; rintro e w1 ⟨rfl, hb1⟩; have HB1 := Lib.hid hb1; clear hb1))
          go_ret
          exact ⟨rfl, HB10.out⟩
end Go.Proofs.YtkjibnhihdbmdaaDoor
