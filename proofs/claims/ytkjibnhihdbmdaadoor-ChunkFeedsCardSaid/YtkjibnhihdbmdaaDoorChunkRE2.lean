/-
  The reference's Encode, all of it.
-/
import Derived.Test.YtkjibnhihdbmdaaDoorChunkRE
set_option linter.unusedVariables false
set_option linter.unusedSimpArgs false
namespace Go.Proofs.YtkjibnhihdbmdaaDoor
open Go.RowKit
theorem rd_gr {w w' : World} {v v' : Value} {q n : Nat} {xs : List Value} (h : Rd w w.heap.size (some ⟨q, 0, none⟩) n xs) (hg : Gr w w' v v') (hq : q < w.heap.size) (hne : v.ownBlock ≠ some q) : Rd w' w'.heap.size (some ⟨q, 0, none⟩) n xs :=
  rd_block h (hg.1.block q hq (fun e => hne e.symm)) (Nat.lt_of_lt_of_le hq hg.1.size)
theorem ne_of_old {w : World} {base : Nat} {e : TypeId} {v : Value} {xs : List Value} (h : Ow w base e v xs) {q : Nat} (hq : w.heap.size ≤ q) : v.ownBlock ≠ some q := fun e => by
  have := ow_block_lt h q e
  omega
theorem keep_allocB {B : Nat} {w0 W : World} (h : Below B w0 W) (o : Obj) (hB : B ≤ w0.heap.size := by omega) : Below B w0 (W.alloc o) := h.alloc (Nat.le_trans hB h.size) o
theorem keep_adB {B : Nat} {w0 W : World} (h : Below B w0 W) (o : Obj) (hB : B ≤ w0.heap.size := by omega) : Below B w0 (W.alloc o).drew := (h.alloc (Nat.le_trans hB h.size) o).drew
set_option maxRecDepth 100000 in
set_option maxHeartbeats 4000000 in
theorem rencode_at (A A2 : Option Addr) (c L c2 L2 : Nat) (body : List UInt8) (zs : List Int) (w : World) (hL : body.length = L) (hL2 : zs.length = L2) (hr : Rd w w.heap.size A L (bc body)) (hr2 : Rd w w.heap.size A2 L2 (ic zs)) (hc : L ≤ c) (hl : L ≤ 140737488355328) (hl2 : L2 ≤ 140737488355328) :
    Calls Tryd.prog 40 #[.slice A L c, .slice A2 L2 c2] w fun e w' => ∃ v, e = .returned (.tuple #[v, .int .i64 (encE body zs : Int)]) ∧ Ow w' w.heap.size 5 v (bc (encR body zs)) ∧ Below w.heap.size w w' := by
  obtain ⟨i0, hi, hz0, hz1, hz2⟩ := info_parts Tryd.clInfoByte
  have HR := Lib.hid hr
  have HR2 := Lib.hid hr2
  have HL := Lib.hid hL
  have HL2 := Lib.hid hL2
  clear hr hr2 hL hL2
  by_cases h0 : 65536 < L
  · have e1 : encE body zs = 3 := by unfold encE; rw [if_pos (by rw [HL.out]; exact h0)]
    have e2 : encR body zs = [] := by unfold encR; rw [if_neg (by omega)]
    rw [e1, e2]
    clear e1 e2
    go_enter Tryd.func40, Tryd.ntmps40
    go_wp2_with fail
    go_ret2
    exact ⟨_, rfl, Ow.nil _ _ _, Below.refl _ _⟩
  · go_enter Tryd.func40, Tryd.ntmps40
    go_wp2_with fail
    go_loop [6] (fun vi => ∃ k : Nat, k ≤ L2 ∧ vi = .int .i64 k ∧ Hid (zs.any lt1 = (zs.drop k).any lt1)) (fun vi => L2 - (intOf vi).toNat)
    case atStart => exact ⟨0, Nat.zero_le _, rfl, Lib.hid rfl⟩
    case round =>
      obtain ⟨k, hk, rfl, HA⟩ := hrel
      by_cases hlt : k < L2
      · obtain ⟨b, o, rfl, _, hcell⟩ := HR2.out.at_ hlt
        have hkz : k < zs.length := by have := HL2.out; omega
        have hx := hcell k _ (ic_get zs k hkz)
        obtain ⟨z, hz⟩ : ∃ z, z = zs[k] := ⟨_, rfl⟩
        rw [← hz] at hx
        have hd : zs.drop k = z :: zs.drop (k + 1) := by rw [hz]; exact List.drop_eq_getElem_cons hkz
        have HDr := Lib.hid hd
        clear hd hz hcell
        by_cases h1 : z < 1
        · have e0 : zs.any lt1 = true := by rw [HA.out, HDr.out]; simp [lt1, h1]
          have e1 : encE body zs = 2 := by unfold encE; rw [if_neg (by rw [HL.out]; exact h0), if_pos e0]
          have e2 : encR body zs = [] := by unfold encR; rw [if_neg (by omega)]
          have E1 := Lib.hid e1
          have E2 := Lib.hid e2
          clear e0 e1 e2
          go_wp2
          go_ret2
          exact ⟨_, by rw [E1.out]; rfl, by rw [E2.out]; exact Ow.nil _ _ _, Below.refl _ _⟩
        · have h2 : lt1 z = false := by simp [lt1]; omega
          have H2 := Lib.hid h2
          clear h2
          go_wp2
          go_round
          case rel => exact ⟨k + 1, by omega, by go_num, Lib.hid (by rw [HA.out, HDr.out]; simp [H2.out])⟩
          case measure => simp [intOf]; omega
      · have e0 : zs.any lt1 = false := by rw [HA.out, List.drop_of_length_le (by have := HL2.out; omega)]; rfl
        have hz : ∀ z ∈ zs, 1 ≤ z := fun z hz => by
          have := List.any_eq_false.1 e0 z hz
          simp [lt1] at this; omega
        have e1 : encE body zs = 0 := by unfold encE; rw [if_neg (by rw [HL.out]; exact h0), if_neg (by simp [e0])]
        have e2 : encR body zs = encF (body.length + 1) body zs := by unfold encR; rw [if_pos e1]
        have E1 := Lib.hid e1
        have E2 := Lib.hid e2
        have HZ := Lib.hid hz
        clear e0 e1 e2 hz HA
        go_wp2_with fail
        go_loopw [0, 7, 8] (fun v0 vo vi wr => ∃ (A' : Option Addr) (c' m k f n co : Nat) (Ao : Option Addr) (b out : List UInt8), v0 = .slice A' m c' ∧ vo = .slice Ao n co ∧ vi = .int .i64 k ∧ m ≤ c' ∧ k + m ≤ L ∧ n + 10 * m ≤ 10 * L ∧ Hid (b.length = m) ∧ Hid (Rd w w.heap.size A' m (bc b)) ∧ Hid (Ow wr w.heap.size 5 (.slice Ao n co) (bc out)) ∧ Hid (m < f ∧ encF (body.length + 1) body zs = out ++ encF f b (zs.drop k)) ∧ Hid (Below w.heap.size w wr)) (fun v0 _ _ _ => lenOf v0)
        case atStart => exact ⟨A, c, L, 0, L + 1, 0, 0, none, body, [], rfl, rfl, rfl, hc, by omega, by omega, HL, HR, Lib.hid (Ow.nil _ _ _), Lib.hid ⟨by omega, by rw [HL.out]; rfl⟩, Lib.hid (Below.refl _ _)⟩
        case round =>
          clear hk hlt
          obtain ⟨A', c', m, k, f, n, co, Ao, b, out, rfl, rfl, rfl, hmc, hkm, hnm, HBl, HRb, HO, HF, HB⟩ := hrel
          by_cases hm : 0 < m
          · obtain ⟨N, hN⟩ : ∃ N, N = chunkN b (zs.drop k) := ⟨_, rfl⟩
            have hbn : b ≠ [] := fun e => by have := HBl.out; rw [e] at this; simp at this; omega
            have hNl := chunkN_le b (zs.drop k)
            have hNp := chunkN_pos (zs := zs.drop k) hbn (fun z h => HZ.out z (List.mem_of_mem_drop h))
            rw [← hN] at hNl hNp
            have hBl := HBl.out
            rw [hBl] at hNl
            have hx5 := hexL_five N (by omega)
            obtain ⟨f', hf'⟩ : ∃ f', f = f' + 1 := ⟨f - 1, by have := HF.out.1; omega⟩
            have hstep : encF f b (zs.drop k) = hexL N ++ 13 :: 10 :: (b.take N ++ 13 :: 10 :: encF f' (b.drop N) (zs.drop (k + 1))) := by
              rw [hf', hN]
              cases b with
              | nil => exact absurd rfl hbn
              | cons x l => rw [encF, List.tail_drop]
            have hff : m - N < f' := by have := HF.out.1; omega
            have HS := Lib.hid hstep
            have ksl : ∀ W, (Instr.slice 22 (.slice A' m c') none (some (.int .i64 (N : Int))) none).run Tryd.prog W = .ok (.slice A' N c') W := sl_h A' m c' N (by omega)
            have ksl2 : ∀ W, (Instr.slice 22 (.slice A' m c') (some (.int .i64 (N : Int))) none none).run Tryd.prog W = .ok (.slice (cutA A' c' N) (m - N) (c' - N)) W := fun W => run_sl_l W _ 5 Tryd.underlying22 (fun w => by kernel_rfl) A' m c' N (by omega)
            have hcut1 : Rd w w.heap.size A' N (bc (b.take N)) := rd_pre HRb.out hNl
            have hcut2 : Rd w w.heap.size (cutA A' c' N) (m - N) (bc (b.drop N)) := by
              have := HRb.out.cut (k := N) (m := m) (cap := c') hNl (Nat.le_refl _) hmc
              rw [show ((bc b).drop N).take (m - N) = bc (b.drop N) by
                rw [List.take_of_length_le (by rw [List.length_drop, bc_length, hBl]; omega)]; simp [bc, List.map_drop]] at this
              exact this
            have hout : out.length = n := by have := ow_len HO.out; rwa [bc_length] at this
            have HC1 := Lib.hid hcut1
            have HC2 := Lib.hid hcut2
            have HOl := Lib.hid hout
            have htl : (b.take N).length = N := by rw [List.length_take]; omega
            have HTl := Lib.hid htl
            have HN := Lib.hid hN
            have hHex := hex_at N (by omega)
            have HHex := Lib.hid hHex
            clear hbn hstep hf' hcut1 hcut2 hBl hout htl hN hHex
            have main : N = m ∧ ¬ k < L2 ∨ (k < L2 ∧ ∃ z : Int, zs[k]? = some z ∧ 1 ≤ z ∧ (z < (m : Int) ∧ z = (N : Int) ∨ ¬ z < (m : Int) ∧ N = m)) := by
              have h9 := HN.out
              have hbm := HBl.out
              by_cases hk2 : k < L2
              · right
                have hkz : k < zs.length := by have := HL2.out; omega
                refine ⟨hk2, zs[k], List.getElem?_eq_getElem hkz, HZ.out _ (List.getElem_mem hkz), ?_⟩
                have hz1 := HZ.out _ (List.getElem_mem hkz)
                rw [List.drop_eq_getElem_cons hkz] at h9
                simp only [chunkN] at h9
                omega
              · left
                rw [List.drop_of_length_le (by have := HL2.out; omega)] at h9
                simp only [chunkN] at h9
                exact ⟨by omega, hk2⟩
            rcases main with ⟨hNm, hk2⟩ | ⟨hk2, z, hzk, hz1', ⟨hzm, hzN⟩ | ⟨hzm, hNm⟩⟩
            · obtain rfl : m = N := hNm.symm
              have d1 : decide (k < L2) = false := decide_eq_false hk2
              go_upto_region 15 with (fail)
              go_cut [7] from 47 to 56 (fun v7 wx => Ow wx w.heap.size 5 v7 (bc (out ++ hexL m ++ [13, 10] ++ b.take m)) ∧ Below w.heap.size w wx)
              case first =>
                have hS0 : Below w.heap.size w wr.drew := HB.out.drew
                have hS1 : Below w.heap.size w wr := HB.out
                have hOl := HOl.out
                go_region_held3 (fun W => Below w.heap.size w W) ((first | assumption | (refine keep_allocB ?_ _; assumption) | (refine keep_adB ?_ _; assumption) | (refine Below.drew ?_; assumption))) (first
                  | (refine step_app _ rfl _ _ _ _ rfl w.heap.size 5 i0 (.int .u8 0) 1 Tryd.underlying22 hi hz0 hz1 hz2 rfl (by omega) _ _ hown6 ?_ (.slice A' m c') ?_ m (bc (b.take m)) ?_ ?_ ?_ ?_
                     · rfl
                     · rfl
                     · exact (HC1.out.below (by assumption)).src Tryd.underlying22 (bc_one _)
                     · simp; omega
                     · exact Below.size (by assumption)
                     intro v7 w7 hown7 hgr7 hsz7
                     have hS7 : Below w.heap.size w w7 := Below.trans hS6 (hgr7.below hown6.lt hS6.size))
                  | (refine step_app _ rfl _ _ _ _ rfl w.heap.size 5 i0 (.int .u8 0) 1 Tryd.underlying22 hi hz0 hz1 hz2 rfl (by omega) v5 (bc out ++ bc (hexL m)) (hown5.alloc _) ?_ (.slice (some ⟨w5.heap.size, 0, none⟩) 2 2) ?_ 2 (bc [13, 10]) ?_ ?_ ?_ ?_
                     · rfl
                     · rfl
                     · exact (rd_lit w5 5 (bc [13, 10]) 2 _ rfl rfl).src Tryd.underlying22 (bc_one _)
                     · simp; omega
                     · exact Below.size (by assumption)
                     intro v6 w6 hown6 hgr6 hsz6
                     have hS6 : Below w.heap.size w w6 := Below.trans (by assumption) (hgr6.below hown5.lt (Below.size (by assumption))))
                  | (refine step_app _ rfl _ _ _ _ rfl w.heap.size 5 i0 (.int .u8 0) 1 Tryd.underlying22 hi hz0 hz1 hz2 rfl (by omega) v5 (bc out ++ bc (hexL m)) (hown5) ?_ (.slice (some ⟨w4.heap.size, 0, none⟩) 2 2) ?_ 2 (bc [13, 10]) ?_ ?_ ?_ ?_
                     · rfl
                     · rfl
                     · exact (hlit5).src Tryd.underlying22 (bc_one _)
                     · simp; omega
                     · exact Below.size (by assumption)
                     intro v6 w6 hown6 hgr6 hsz6
                     have hS6 : Below w.heap.size w w6 := Below.trans (by assumption) (hgr6.below hown5.lt (Below.size (by assumption))))
                  | (refine step_app _ rfl _ _ _ _ rfl w.heap.size 5 i0 (.int .u8 0) 1 Tryd.underlying22 hi hz0 hz1 hz2 rfl (by omega) v5 (bc out ++ bc (hexL m)) (hown5) ?_ (.slice (some ⟨wr.heap.size, 0, none⟩) 2 2) ?_ 2 (bc [13, 10]) ?_ ?_ ?_ ?_
                     · rfl
                     · rfl
                     · exact (hlit5).src Tryd.underlying22 (bc_one _)
                     · simp; omega
                     · exact Below.size (by assumption)
                     intro v6 w6 hown6 hgr6 hsz6
                     have hS6 : Below w.heap.size w w6 := Below.trans (by assumption) (hgr6.below hown5.lt (Below.size (by assumption))))
                  | (refine step_app _ rfl _ _ _ _ rfl w.heap.size 5 i0 (.int .u8 0) 1 Tryd.underlying22 hi hz0 hz1 hz2 rfl (by omega) _ _ (HO.out.far hF4) ?_ (.slice A4 (hexL m).length c4) ?_ (hexL m).length (bc (hexL m)) ?_ ?_ ?_ ?_
                     · rfl
                     · rfl
                     · exact (ow_rd ho4).src Tryd.underlying22 (bc_one _)
                     · simp; omega
                     · exact Below.size (by assumption)
                     intro v5 w5 hown5 hgr5 hsz5
                     have hS5 : Below w.heap.size w w5 := Below.trans hS4 (hgr5.below HO.out.lt hS4.size)
                     first
                       | (have hlit5 := rd_gr hlit4 hgr5 (by have := hF4.size; have := hb4.size; simp at this; omega) (ne_of_old HO.out (Nat.le_refl _)))
                       | skip)
                  | (refine step_app _ rfl _ _ _ _ rfl w.heap.size 5 i0 (.int .u8 0) 1 Tryd.underlying22 hi hz0 hz1 hz2 rfl (by omega) _ _ ((HO.out.far hF4).alloc _) ?_ (.slice A4 (hexL m).length c4) ?_ (hexL m).length (bc (hexL m)) ?_ ?_ ?_ ?_
                     · rfl
                     · rfl
                     · exact (rd_top (ow_rd ho4) _).src Tryd.underlying22 (bc_one _)
                     · simp; omega
                     · exact Below.size (by assumption)
                     intro v5 w5 hown5 hgr5 hsz5
                     have hS5 : Below w.heap.size w w5 := Below.trans (keep_allocB hS4 _) (hgr5.below HO.out.lt (keep_allocB hS4 _).size)
                     have hlit5 := rd_gr (rd_lit w4 5 (bc [13, 10]) 2 _ rfl rfl) hgr5 (by simp) (ne_of_old HO.out hF4.size))
                  | (go_at_call 60
                     refine (HHex.out _).mono ?_
                     rintro e w4 ⟨A4, c4, rfl, hc4, ho4, hb4⟩
                     have hS4 : Below w.heap.size w w4 := Below.trans (by assumption) (hb4.mono (Below.size (by assumption)))
                     first
                       | (have hF4 : Below wr.heap.size wr w4 := (Below.refl wr.heap.size wr).drew.trans hb4)
                       | (have hF4 : Below wr.heap.size wr w4 := ((Below.refl wr.heap.size wr).alloc (Nat.le_refl _) (.cells (bc [13, 10]).toArray 5)).drew.trans (hb4.mono (by simp))
                          have hlit4 := rd_step (rd_litD wr 5 (bc [13, 10]) 2 wr.heap.size rfl rfl) hb4)))
                all_goals
                  go_wp2_with fail
                  go_meet
                  rw [bc_app, bc_app, bc_app] at hown7
                  exact ⟨hown7, hS7⟩
              case rest =>
                obtain ⟨hc1, hc2⟩ := hcut
                obtain ⟨A7, c7, rfl, hl7, _⟩ := ow_formL hc1 (n + (hexL m).length + m + 2) (by rw [bc_length]; simp only [List.length_append, List.length_cons, List.length_nil, HTl.out, HOl.out] <;> omega)
                have HO7 := Lib.hid hc1
                have HB7 := Lib.hid hc2
                clear hc1 hc2
                go_wp2_with (at_builtin; refine wpList_app _ rfl _ _ _ _ rfl w.heap.size 5 i0 (.int .u8 0) 1 Tryd.underlying22 hi hz0 hz1 hz2 rfl (Nat.le_refl _) _ _ (HO7.out.alloc _) rfl 2 (bc [13, 10]) ((rd_lit wc 5 (bc [13, 10]) 2 wc.heap.size rfl rfl).src Tryd.underlying22 (bc_one _)) (by rw [bc_length]; simp only [List.length_append, List.length_cons, List.length_nil, HTl.out, HOl.out] <;> omega) (by have := HB7.out.size; simp; omega) ?_; intro v8 w8 hown8 hgr8 hsz8; rw [bc_app] at hown8; obtain ⟨A8, c8, rfl, hl8, _⟩ := ow_formL hown8 (n + (hexL m).length + m + 4) (by rw [bc_length]; simp only [List.length_append, List.length_cons, List.length_nil, HTl.out, HOl.out] <;> omega); have HO8 := Lib.hid hown8; have HB8 := Lib.hid ((HB7.out.alloc HB7.out.size _).trans (hgr8.below HO7.out.lt (by have := HB7.out.size; simp; omega))); clear hown8 hgr8)
                go_roundw
                case rel =>
                  refine ⟨cutA A' c' m, c' - m, m - m, k + 1, f', n + (hexL m).length + m + 4, c8, A8, b.drop m, out ++ hexL m ++ [13, 10] ++ b.take m ++ [13, 10], by first | rfl | rw [Nat.sub_self], by first | rfl | (congr 1; omega), by go_num, by omega, by omega, by omega, Lib.hid (by rw [List.length_drop]; have := HBl.out; omega), HC2, HO8, Lib.hid ⟨hff, by rw [HF.out.2, HS.out]; simp⟩, HB8⟩
                case measure => simp [lenOf]; omega
            · obtain ⟨b2, o2, rfl, _, hcz⟩ := (HR2.out.below HB.out).at_ hk2
              have hx := hcz k (.int .i64 z) (by simp [ic, hzk])
              have d1 : decide (k < L2) = true := decide_eq_true hk2
              have d2 : decide (z < (m : Int)) = true := decide_eq_true hzm
              subst hzN
              clear hcz hzk
              go_upto_region 15 with (fail)
              go_cut [7] from 47 to 56 (fun v7 wx => Ow wx w.heap.size 5 v7 (bc (out ++ hexL N ++ [13, 10] ++ b.take N)) ∧ Below w.heap.size w wx)
              case first =>
                have hS0 : Below w.heap.size w wr.drew := HB.out.drew
                have hS1 : Below w.heap.size w wr := HB.out
                have hOl := HOl.out
                go_region_held3 (fun W => Below w.heap.size w W) ((first | assumption | (refine keep_allocB ?_ _; assumption) | (refine keep_adB ?_ _; assumption) | (refine Below.drew ?_; assumption))) (first
                  | (refine step_app _ rfl _ _ _ _ rfl w.heap.size 5 i0 (.int .u8 0) 1 Tryd.underlying22 hi hz0 hz1 hz2 rfl (by omega) _ _ hown6 ?_ (.slice A' N c') ?_ N (bc (b.take N)) ?_ ?_ ?_ ?_
                     · rfl
                     · rfl
                     · exact (HC1.out.below (by assumption)).src Tryd.underlying22 (bc_one _)
                     · simp; omega
                     · exact Below.size (by assumption)
                     intro v7 w7 hown7 hgr7 hsz7
                     have hS7 : Below w.heap.size w w7 := Below.trans hS6 (hgr7.below hown6.lt hS6.size))
                  | (refine step_app _ rfl _ _ _ _ rfl w.heap.size 5 i0 (.int .u8 0) 1 Tryd.underlying22 hi hz0 hz1 hz2 rfl (by omega) v5 (bc out ++ bc (hexL N)) (hown5.alloc _) ?_ (.slice (some ⟨w5.heap.size, 0, none⟩) 2 2) ?_ 2 (bc [13, 10]) ?_ ?_ ?_ ?_
                     · rfl
                     · rfl
                     · exact (rd_lit w5 5 (bc [13, 10]) 2 _ rfl rfl).src Tryd.underlying22 (bc_one _)
                     · simp; omega
                     · exact Below.size (by assumption)
                     intro v6 w6 hown6 hgr6 hsz6
                     have hS6 : Below w.heap.size w w6 := Below.trans (by assumption) (hgr6.below hown5.lt (Below.size (by assumption))))
                  | (refine step_app _ rfl _ _ _ _ rfl w.heap.size 5 i0 (.int .u8 0) 1 Tryd.underlying22 hi hz0 hz1 hz2 rfl (by omega) v5 (bc out ++ bc (hexL N)) (hown5) ?_ (.slice (some ⟨w4.heap.size, 0, none⟩) 2 2) ?_ 2 (bc [13, 10]) ?_ ?_ ?_ ?_
                     · rfl
                     · rfl
                     · exact (hlit5).src Tryd.underlying22 (bc_one _)
                     · simp; omega
                     · exact Below.size (by assumption)
                     intro v6 w6 hown6 hgr6 hsz6
                     have hS6 : Below w.heap.size w w6 := Below.trans (by assumption) (hgr6.below hown5.lt (Below.size (by assumption))))
                  | (refine step_app _ rfl _ _ _ _ rfl w.heap.size 5 i0 (.int .u8 0) 1 Tryd.underlying22 hi hz0 hz1 hz2 rfl (by omega) v5 (bc out ++ bc (hexL N)) (hown5) ?_ (.slice (some ⟨wr.heap.size, 0, none⟩) 2 2) ?_ 2 (bc [13, 10]) ?_ ?_ ?_ ?_
                     · rfl
                     · rfl
                     · exact (hlit5).src Tryd.underlying22 (bc_one _)
                     · simp; omega
                     · exact Below.size (by assumption)
                     intro v6 w6 hown6 hgr6 hsz6
                     have hS6 : Below w.heap.size w w6 := Below.trans (by assumption) (hgr6.below hown5.lt (Below.size (by assumption))))
                  | (refine step_app _ rfl _ _ _ _ rfl w.heap.size 5 i0 (.int .u8 0) 1 Tryd.underlying22 hi hz0 hz1 hz2 rfl (by omega) _ _ (HO.out.far hF4) ?_ (.slice A4 (hexL N).length c4) ?_ (hexL N).length (bc (hexL N)) ?_ ?_ ?_ ?_
                     · rfl
                     · rfl
                     · exact (ow_rd ho4).src Tryd.underlying22 (bc_one _)
                     · simp; omega
                     · exact Below.size (by assumption)
                     intro v5 w5 hown5 hgr5 hsz5
                     have hS5 : Below w.heap.size w w5 := Below.trans hS4 (hgr5.below HO.out.lt hS4.size)
                     first
                       | (have hlit5 := rd_gr hlit4 hgr5 (by have := hF4.size; have := hb4.size; simp at this; omega) (ne_of_old HO.out (Nat.le_refl _)))
                       | skip)
                  | (refine step_app _ rfl _ _ _ _ rfl w.heap.size 5 i0 (.int .u8 0) 1 Tryd.underlying22 hi hz0 hz1 hz2 rfl (by omega) _ _ ((HO.out.far hF4).alloc _) ?_ (.slice A4 (hexL N).length c4) ?_ (hexL N).length (bc (hexL N)) ?_ ?_ ?_ ?_
                     · rfl
                     · rfl
                     · exact (rd_top (ow_rd ho4) _).src Tryd.underlying22 (bc_one _)
                     · simp; omega
                     · exact Below.size (by assumption)
                     intro v5 w5 hown5 hgr5 hsz5
                     have hS5 : Below w.heap.size w w5 := Below.trans (keep_allocB hS4 _) (hgr5.below HO.out.lt (keep_allocB hS4 _).size)
                     have hlit5 := rd_gr (rd_lit w4 5 (bc [13, 10]) 2 _ rfl rfl) hgr5 (by simp) (ne_of_old HO.out hF4.size))
                  | (go_at_call 60
                     refine (HHex.out _).mono ?_
                     rintro e w4 ⟨A4, c4, rfl, hc4, ho4, hb4⟩
                     have hS4 : Below w.heap.size w w4 := Below.trans (by assumption) (hb4.mono (Below.size (by assumption)))
                     first
                       | (have hF4 : Below wr.heap.size wr w4 := (Below.refl wr.heap.size wr).drew.trans hb4)
                       | (have hF4 : Below wr.heap.size wr w4 := ((Below.refl wr.heap.size wr).alloc (Nat.le_refl _) (.cells (bc [13, 10]).toArray 5)).drew.trans (hb4.mono (by simp))
                          have hlit4 := rd_step (rd_litD wr 5 (bc [13, 10]) 2 wr.heap.size rfl rfl) hb4)))
                all_goals
                  go_wp2_with fail
                  go_meet
                  rw [bc_app, bc_app, bc_app] at hown7
                  exact ⟨hown7, hS7⟩
              case rest =>
                obtain ⟨hc1, hc2⟩ := hcut
                obtain ⟨A7, c7, rfl, hl7, _⟩ := ow_formL hc1 (n + (hexL N).length + N + 2) (by rw [bc_length]; simp only [List.length_append, List.length_cons, List.length_nil, HTl.out, HOl.out] <;> omega)
                have HO7 := Lib.hid hc1
                have HB7 := Lib.hid hc2
                clear hc1 hc2
                go_wp2_with (at_builtin; refine wpList_app _ rfl _ _ _ _ rfl w.heap.size 5 i0 (.int .u8 0) 1 Tryd.underlying22 hi hz0 hz1 hz2 rfl (Nat.le_refl _) _ _ (HO7.out.alloc _) rfl 2 (bc [13, 10]) ((rd_lit wc 5 (bc [13, 10]) 2 wc.heap.size rfl rfl).src Tryd.underlying22 (bc_one _)) (by rw [bc_length]; simp only [List.length_append, List.length_cons, List.length_nil, HTl.out, HOl.out] <;> omega) (by have := HB7.out.size; simp; omega) ?_; intro v8 w8 hown8 hgr8 hsz8; rw [bc_app] at hown8; obtain ⟨A8, c8, rfl, hl8, _⟩ := ow_formL hown8 (n + (hexL N).length + N + 4) (by rw [bc_length]; simp only [List.length_append, List.length_cons, List.length_nil, HTl.out, HOl.out] <;> omega); have HO8 := Lib.hid hown8; have HB8 := Lib.hid ((HB7.out.alloc HB7.out.size _).trans (hgr8.below HO7.out.lt (by have := HB7.out.size; simp; omega))); clear hown8 hgr8)
                go_roundw
                case rel =>
                  refine ⟨cutA A' c' N, c' - N, m - N, k + 1, f', n + (hexL N).length + N + 4, c8, A8, b.drop N, out ++ hexL N ++ [13, 10] ++ b.take N ++ [13, 10], by first | rfl | rw [Nat.sub_self], by first | rfl | (congr 1; omega), by go_num, by omega, by omega, by omega, Lib.hid (by rw [List.length_drop]; have := HBl.out; omega), HC2, HO8, Lib.hid ⟨hff, by rw [HF.out.2, HS.out]; simp⟩, HB8⟩
                case measure => simp [lenOf]; omega
            · obtain ⟨b2, o2, rfl, _, hcz⟩ := (HR2.out.below HB.out).at_ hk2
              have hx := hcz k (.int .i64 z) (by simp [ic, hzk])
              have d1 : decide (k < L2) = true := decide_eq_true hk2
              have d2 : decide (z < (m : Int)) = false := decide_eq_false hzm
              obtain rfl : m = N := hNm.symm
              clear hcz hzk
              go_upto_region 15 with (fail)
              go_cut [7] from 47 to 56 (fun v7 wx => Ow wx w.heap.size 5 v7 (bc (out ++ hexL m ++ [13, 10] ++ b.take m)) ∧ Below w.heap.size w wx)
              case first =>
                have hS0 : Below w.heap.size w wr.drew := HB.out.drew
                have hS1 : Below w.heap.size w wr := HB.out
                have hOl := HOl.out
                go_region_held3 (fun W => Below w.heap.size w W) ((first | assumption | (refine keep_allocB ?_ _; assumption) | (refine keep_adB ?_ _; assumption) | (refine Below.drew ?_; assumption))) (first
                  | (refine step_app _ rfl _ _ _ _ rfl w.heap.size 5 i0 (.int .u8 0) 1 Tryd.underlying22 hi hz0 hz1 hz2 rfl (by omega) _ _ hown6 ?_ (.slice A' m c') ?_ m (bc (b.take m)) ?_ ?_ ?_ ?_
                     · rfl
                     · rfl
                     · exact (HC1.out.below (by assumption)).src Tryd.underlying22 (bc_one _)
                     · simp; omega
                     · exact Below.size (by assumption)
                     intro v7 w7 hown7 hgr7 hsz7
                     have hS7 : Below w.heap.size w w7 := Below.trans hS6 (hgr7.below hown6.lt hS6.size))
                  | (refine step_app _ rfl _ _ _ _ rfl w.heap.size 5 i0 (.int .u8 0) 1 Tryd.underlying22 hi hz0 hz1 hz2 rfl (by omega) v5 (bc out ++ bc (hexL m)) (hown5.alloc _) ?_ (.slice (some ⟨w5.heap.size, 0, none⟩) 2 2) ?_ 2 (bc [13, 10]) ?_ ?_ ?_ ?_
                     · rfl
                     · rfl
                     · exact (rd_lit w5 5 (bc [13, 10]) 2 _ rfl rfl).src Tryd.underlying22 (bc_one _)
                     · simp; omega
                     · exact Below.size (by assumption)
                     intro v6 w6 hown6 hgr6 hsz6
                     have hS6 : Below w.heap.size w w6 := Below.trans (by assumption) (hgr6.below hown5.lt (Below.size (by assumption))))
                  | (refine step_app _ rfl _ _ _ _ rfl w.heap.size 5 i0 (.int .u8 0) 1 Tryd.underlying22 hi hz0 hz1 hz2 rfl (by omega) v5 (bc out ++ bc (hexL m)) (hown5) ?_ (.slice (some ⟨w4.heap.size, 0, none⟩) 2 2) ?_ 2 (bc [13, 10]) ?_ ?_ ?_ ?_
                     · rfl
                     · rfl
                     · exact (hlit5).src Tryd.underlying22 (bc_one _)
                     · simp; omega
                     · exact Below.size (by assumption)
                     intro v6 w6 hown6 hgr6 hsz6
                     have hS6 : Below w.heap.size w w6 := Below.trans (by assumption) (hgr6.below hown5.lt (Below.size (by assumption))))
                  | (refine step_app _ rfl _ _ _ _ rfl w.heap.size 5 i0 (.int .u8 0) 1 Tryd.underlying22 hi hz0 hz1 hz2 rfl (by omega) v5 (bc out ++ bc (hexL m)) (hown5) ?_ (.slice (some ⟨wr.heap.size, 0, none⟩) 2 2) ?_ 2 (bc [13, 10]) ?_ ?_ ?_ ?_
                     · rfl
                     · rfl
                     · exact (hlit5).src Tryd.underlying22 (bc_one _)
                     · simp; omega
                     · exact Below.size (by assumption)
                     intro v6 w6 hown6 hgr6 hsz6
                     have hS6 : Below w.heap.size w w6 := Below.trans (by assumption) (hgr6.below hown5.lt (Below.size (by assumption))))
                  | (refine step_app _ rfl _ _ _ _ rfl w.heap.size 5 i0 (.int .u8 0) 1 Tryd.underlying22 hi hz0 hz1 hz2 rfl (by omega) _ _ (HO.out.far hF4) ?_ (.slice A4 (hexL m).length c4) ?_ (hexL m).length (bc (hexL m)) ?_ ?_ ?_ ?_
                     · rfl
                     · rfl
                     · exact (ow_rd ho4).src Tryd.underlying22 (bc_one _)
                     · simp; omega
                     · exact Below.size (by assumption)
                     intro v5 w5 hown5 hgr5 hsz5
                     have hS5 : Below w.heap.size w w5 := Below.trans hS4 (hgr5.below HO.out.lt hS4.size)
                     first
                       | (have hlit5 := rd_gr hlit4 hgr5 (by have := hF4.size; have := hb4.size; simp at this; omega) (ne_of_old HO.out (Nat.le_refl _)))
                       | skip)
                  | (refine step_app _ rfl _ _ _ _ rfl w.heap.size 5 i0 (.int .u8 0) 1 Tryd.underlying22 hi hz0 hz1 hz2 rfl (by omega) _ _ ((HO.out.far hF4).alloc _) ?_ (.slice A4 (hexL m).length c4) ?_ (hexL m).length (bc (hexL m)) ?_ ?_ ?_ ?_
                     · rfl
                     · rfl
                     · exact (rd_top (ow_rd ho4) _).src Tryd.underlying22 (bc_one _)
                     · simp; omega
                     · exact Below.size (by assumption)
                     intro v5 w5 hown5 hgr5 hsz5
                     have hS5 : Below w.heap.size w w5 := Below.trans (keep_allocB hS4 _) (hgr5.below HO.out.lt (keep_allocB hS4 _).size)
                     have hlit5 := rd_gr (rd_lit w4 5 (bc [13, 10]) 2 _ rfl rfl) hgr5 (by simp) (ne_of_old HO.out hF4.size))
                  | (go_at_call 60
                     refine (HHex.out _).mono ?_
                     rintro e w4 ⟨A4, c4, rfl, hc4, ho4, hb4⟩
                     have hS4 : Below w.heap.size w w4 := Below.trans (by assumption) (hb4.mono (Below.size (by assumption)))
                     first
                       | (have hF4 : Below wr.heap.size wr w4 := (Below.refl wr.heap.size wr).drew.trans hb4)
                       | (have hF4 : Below wr.heap.size wr w4 := ((Below.refl wr.heap.size wr).alloc (Nat.le_refl _) (.cells (bc [13, 10]).toArray 5)).drew.trans (hb4.mono (by simp))
                          have hlit4 := rd_step (rd_litD wr 5 (bc [13, 10]) 2 wr.heap.size rfl rfl) hb4)))
                all_goals
                  go_wp2_with fail
                  go_meet
                  rw [bc_app, bc_app, bc_app] at hown7
                  exact ⟨hown7, hS7⟩
              case rest =>
                obtain ⟨hc1, hc2⟩ := hcut
                obtain ⟨A7, c7, rfl, hl7, _⟩ := ow_formL hc1 (n + (hexL m).length + m + 2) (by rw [bc_length]; simp only [List.length_append, List.length_cons, List.length_nil, HTl.out, HOl.out] <;> omega)
                have HO7 := Lib.hid hc1
                have HB7 := Lib.hid hc2
                clear hc1 hc2
                go_wp2_with (at_builtin; refine wpList_app _ rfl _ _ _ _ rfl w.heap.size 5 i0 (.int .u8 0) 1 Tryd.underlying22 hi hz0 hz1 hz2 rfl (Nat.le_refl _) _ _ (HO7.out.alloc _) rfl 2 (bc [13, 10]) ((rd_lit wc 5 (bc [13, 10]) 2 wc.heap.size rfl rfl).src Tryd.underlying22 (bc_one _)) (by rw [bc_length]; simp only [List.length_append, List.length_cons, List.length_nil, HTl.out, HOl.out] <;> omega) (by have := HB7.out.size; simp; omega) ?_; intro v8 w8 hown8 hgr8 hsz8; rw [bc_app] at hown8; obtain ⟨A8, c8, rfl, hl8, _⟩ := ow_formL hown8 (n + (hexL m).length + m + 4) (by rw [bc_length]; simp only [List.length_append, List.length_cons, List.length_nil, HTl.out, HOl.out] <;> omega); have HO8 := Lib.hid hown8; have HB8 := Lib.hid ((HB7.out.alloc HB7.out.size _).trans (hgr8.below HO7.out.lt (by have := HB7.out.size; simp; omega))); clear hown8 hgr8)
                go_roundw
                case rel =>
                  refine ⟨cutA A' c' m, c' - m, m - m, k + 1, f', n + (hexL m).length + m + 4, c8, A8, b.drop m, out ++ hexL m ++ [13, 10] ++ b.take m ++ [13, 10], by first | rfl | rw [Nat.sub_self], by first | rfl | (congr 1; omega), by go_num, by omega, by omega, by omega, Lib.hid (by rw [List.length_drop]; have := HBl.out; omega), HC2, HO8, Lib.hid ⟨hff, by rw [HF.out.2, HS.out]; simp⟩, HB8⟩
                case measure => simp [lenOf]; omega
          · have hm0 : m = 0 := by omega
            subst hm0
            have hb : b = [] := List.eq_nil_of_length_eq_zero HBl.out
            have hF : encF (body.length + 1) body zs = out ++ [48, 13, 10, 13, 10] := by
              obtain ⟨f', hf'⟩ : ∃ f', f = f' + 1 := ⟨f - 1, by have := HF.out.1; omega⟩
              rw [HF.out.2, hb, hf']; rfl
            have HFF := Lib.hid hF
            have hout : out.length = n := by have := ow_len HO.out; rwa [bc_length] at this
            have HOl := Lib.hid hout
            clear hb hF hout
            go_wp2_with (at_builtin; refine wpList_app _ rfl _ _ _ _ rfl w.heap.size 5 i0 (.int .u8 0) 1 Tryd.underlying22 hi hz0 hz1 hz2 rfl (Nat.le_refl _) _ _ (HO.out.alloc _) rfl 5 (bc [48, 13, 10, 13, 10]) ((rd_lit wr 5 (bc [48, 13, 10, 13, 10]) 5 wr.heap.size rfl rfl).src Tryd.underlying22 (bc_one _)) (by have := HOl.out; simp; omega) (by have := HB.out.size; simp; omega) ?_; intro v4 w4 hown4 hgr4 hsz4; have hB4 := (HB.out.alloc HB.out.size _).trans (hgr4.below HO.out.lt (by have := HB.out.size; simp; omega)); rw [bc_app, ← HFF.out] at hown4)
            go_ret2
            exact ⟨_, by rw [E1.out]; rfl, by rw [E2.out]; exact hown4, hB4⟩
end Go.Proofs.YtkjibnhihdbmdaaDoor
