/-
  Encode, all of it.
-/
import Derived.Test.YtkjibnhihdbmdaaDoorChunkEnc
set_option linter.unusedVariables false
set_option linter.unusedSimpArgs false
namespace Go.Proofs.YtkjibnhihdbmdaaDoor
open Go.RowKit
def lenOf : Value → Nat
  | .slice _ n _ => n
  | _ => 0
def encE (body : List UInt8) (zs : List Int) : Nat := if 65536 < body.length then 3 else if zs.any lt1 = true then 2 else 0
def encR (body : List UInt8) (zs : List Int) : List UInt8 := if encE body zs = 0 then encF (body.length + 1) body zs else []
theorem hexL_five (n : Nat) (h : n ≤ 65536) : (hexL n).length ≤ 5 := hexL_len 5 n (by omega) (by omega)
theorem bc_app (a b : List UInt8) : bc a ++ bc b = bc (a ++ b) := by simp [bc]
set_option maxRecDepth 100000 in
set_option maxHeartbeats 2000000 in
theorem encode_at (A A2 : Option Addr) (c L c2 L2 : Nat) (body : List UInt8) (zs : List Int) (w : World) (hL : body.length = L) (hL2 : zs.length = L2) (hr : Rd w w.heap.size A L (bc body)) (hr2 : Rd w w.heap.size A2 L2 (ic zs)) (hc : L ≤ c) (hl : L ≤ 140737488355328) (hl2 : L2 ≤ 140737488355328) (ht : TabOk w) :
    Calls Tryd.prog 15 #[.slice A L c, .slice A2 L2 c2] w fun e w' => ∃ v, e = .returned (.tuple #[v, .int .i64 (encE body zs : Int)]) ∧ Ow w' w.heap.size 5 v (bc (encR body zs)) ∧ Below w.heap.size w w' := by
  obtain ⟨i0, hi, hz0, hz1, hz2⟩ := info_parts Tryd.clInfoByte
  have HR := Lib.hid hr
  have HR2 := Lib.hid hr2
  have HT := Lib.hid ht
  have HL := Lib.hid hL
  have HL2 := Lib.hid hL2
  clear hr hr2 ht hL hL2
  by_cases h0 : 65536 < L
  · have e1 : encE body zs = 3 := by unfold encE; rw [if_pos (by rw [HL.out]; exact h0)]
    have e2 : encR body zs = [] := by unfold encR; rw [if_neg (by omega)]
    rw [e1, e2]
    clear e1 e2
    go_enter Tryd.func15, Tryd.ntmps15
    go_wp2_with fail
    go_ret2
    exact ⟨_, rfl, Ow.nil _ _ _, Below.refl _ _⟩
  · by_cases h1 : zs.any lt1 = true
    · have e1 : encE body zs = 2 := by unfold encE; rw [if_neg (by rw [HL.out]; exact h0), if_pos h1]
      have e2 : encR body zs = [] := by unfold encR; rw [if_neg (by omega)]
      rw [e1, e2]
      have H1 := Lib.hid h1
      clear e1 e2 h1
      go_enter Tryd.func15, Tryd.ntmps15
      go_wp2_with (go_at_call 42; refine (encAny_at A2 c2 L2 zs true w H1.out HL2.out HR2.out hl2).mono ?_; rintro e w ⟨rfl, rfl⟩)
      go_ret2
      exact ⟨_, rfl, Ow.nil _ _ _, Below.refl _ _⟩
    · have h1 : zs.any lt1 = false := by simpa using h1
      have hz : ∀ z ∈ zs, 1 ≤ z := fun z hz => by
        have := List.any_eq_false.1 h1 z hz
        simp [lt1] at this; omega
      have e1 : encE body zs = 0 := by unfold encE; rw [if_neg (by rw [HL.out]; exact h0), if_neg (by simp [h1])]
      have e2 : encR body zs = encF (body.length + 1) body zs := by unfold encR; rw [if_pos e1]
      rw [e1, e2]
      have H1 := Lib.hid h1
      have HZ := Lib.hid hz
      clear e1 e2 h1 hz
      go_enter Tryd.func15, Tryd.ntmps15
      go_wp2_with (go_at_call 42; refine (encAny_at A2 c2 L2 zs false w H1.out HL2.out HR2.out hl2).mono ?_; rintro e w ⟨rfl, rfl⟩)
      go_loopw [0, 6, 7] (fun v0 vo vi wr => ∃ (A' : Option Addr) (c' m k f n co : Nat) (Ao : Option Addr) (b out : List UInt8), v0 = .slice A' m c' ∧ vo = .slice Ao n co ∧ vi = .int .i64 k ∧ m ≤ c' ∧ k + m ≤ L ∧ n + 10 * m ≤ 10 * L ∧ Hid (b.length = m) ∧ Hid (Rd w w.heap.size A' m (bc b)) ∧ Hid (Ow wr w.heap.size 5 (.slice Ao n co) (bc out)) ∧ Hid (m < f ∧ encF (body.length + 1) body zs = out ++ encF f b (zs.drop k)) ∧ Hid (Below w.heap.size w wr)) (fun v0 _ _ _ => lenOf v0)
      case atStart => exact ⟨A, c, L, 0, L + 1, 0, 0, none, body, [], rfl, rfl, rfl, hc, by omega, by omega, HL, HR, Lib.hid (Ow.nil _ _ _), Lib.hid ⟨by omega, by rw [HL.out]; rfl⟩, Lib.hid (Below.refl _ _)⟩
      case round =>
        obtain ⟨A', c', m, k, f, n, co, Ao, b, out, rfl, rfl, rfl, hmc, hkm, hnm, HBl, HRb, HO, HF, HB⟩ := hrel
        by_cases hm : 0 < m
        · obtain ⟨N, hN⟩ : ∃ N, N = chunkN b (zs.drop k) := ⟨_, rfl⟩
          have hbn : b ≠ [] := fun e => by have := HBl.out; rw [e] at this; simp at this; omega
          have hNl := chunkN_le b (zs.drop k)
          have hNp := chunkN_pos (zs := zs.drop k) hbn (fun z h => HZ.out z (List.mem_of_mem_drop h))
          rw [← hN] at hNl hNp
          have hBl := HBl.out
          rw [hBl] at hNl
          have hx5 := hexL_five N (by omega)
          obtain ⟨f', hf'⟩ : ∃ f', f = f' + 1 := ⟨f - 1, by have := HF.out.1; omega⟩
          have hstep : encF f b (zs.drop k) = hexL N ++ 13 :: 10 :: (b.take N ++ 13 :: 10 :: encF f' (b.drop N) (zs.drop (k + 1))) := by
            rw [hf', hN]
            cases b with
            | nil => exact absurd rfl hbn
            | cons x l => rw [encF, List.tail_drop]
          have hff : m - N < f' := by have := HF.out.1; omega
          have HS := Lib.hid hstep
          have ksl : ∀ W, (Instr.slice 22 (.slice A' m c') none (some (.int .i64 (N : Int))) none).run Tryd.prog W = .ok (.slice A' N c') W := fun W => run_sl_h W _ 5 Tryd.underlying22 (fun w => by kernel_rfl) A' m c' N (by omega)
          have ksl2 : ∀ W, (Instr.slice 22 (.slice A' m c') (some (.int .i64 (N : Int))) none none).run Tryd.prog W = .ok (.slice (cutA A' c' N) (m - N) (c' - N)) W := fun W => run_sl_l W _ 5 Tryd.underlying22 (fun w => by kernel_rfl) A' m c' N (by omega)
          have hcut1 : Rd w w.heap.size A' N (bc (b.take N)) := by
            have := HRb.out.cut (k := 0) (m := N) (cap := c') (by omega) hNl hmc
            rw [cutA_zero] at this
            simpa [bc, List.map_take] using this
          have hcut2 : Rd w w.heap.size (cutA A' c' N) (m - N) (bc (b.drop N)) := by
            have := HRb.out.cut (k := N) (m := m) (cap := c') hNl (Nat.le_refl _) hmc
            rw [show ((bc b).drop N).take (m - N) = bc (b.drop N) by
              rw [List.take_of_length_le (by rw [List.length_drop, bc_length, hBl]; omega)]; simp [bc, List.map_drop]] at this
            exact this
          have hout : out.length = n := by have := ow_len HO.out; rwa [bc_length] at this
          have HC1 := Lib.hid hcut1
          have HC2 := Lib.hid hcut2
          have HOl := Lib.hid hout
          have htl : (b.take N).length = N := by rw [List.length_take]; omega
          have HTl := Lib.hid htl
          have HN := Lib.hid hN
          clear hbn hstep hf' hcut1 hcut2 hBl hout htl hN
          by_cases hk2 : k < L2
          · have hkz : k < zs.length := by have := HL2.out; omega
            obtain ⟨b2, o2, rfl, _, hc2⟩ := (HR2.out.below HB.out).at_ hk2
            have hx := hc2 k _ (ic_get zs k hkz)
            obtain ⟨z, hz⟩ : ∃ z, z = zs[k] := ⟨_, rfl⟩
            rw [← hz] at hx
            have hz1' : 1 ≤ z := by rw [hz]; exact HZ.out _ (List.getElem_mem hkz)
            have hmin : min (m : Int) z = (N : Int) := by
              have h9 := HN.out
              rw [List.drop_eq_getElem_cons hkz, ← hz] at h9
              simp only [chunkN] at h9
              have := HBl.out
              omega
            clear hc2 hz
            go_wp2_with (first
            | (at_builtin; refine wpList_app _ rfl _ _ _ _ rfl w.heap.size 5 i0 (.int .u8 0) 1 Tryd.underlying22 hi hz0 hz1 hz2 rfl (Nat.le_refl _) _ _ hown3 rfl 2 (bc [13, 10]) (str_src Tryd.underlying9 [13, 10]) (by have := HOl.out; have := HTl.out; simp; omega) hsz3 ?_; intro v4 w4 hown4' hgr4 hsz4; have hB4 := hB3.trans (hgr4.below hown3.lt hsz3); rw [bc_app, bc_app, bc_app, bc_app] at hown4'; obtain ⟨A4, c4, rfl, hl4, _⟩ := ow_formL hown4' (n + (hexL N).length + N + 4) (by rw [bc_length]; simp only [List.length_append, List.length_cons, List.length_nil, HTl.out, HOl.out] <;> omega); have HO4 := Lib.hid hown4'; have HB4 := Lib.hid hB4; clear hown4' hgr4 hB4 hown3 hB3)
            | (at_builtin; refine wpList_app _ rfl _ _ _ _ rfl w.heap.size 5 i0 (.int .u8 0) 1 Tryd.underlying22 hi hz0 hz1 hz2 rfl (Nat.le_refl _) _ _ hown2 rfl N (bc (b.take N)) ((HC1.out.below hB2).src Tryd.underlying22 (bc_one _)) (by have := HOl.out; simp; omega) hsz2 ?_; intro v3 w3 hown3 hgr3 hsz3; have hB3 := hB2.trans (hgr3.below hown2.lt hsz2); clear hgr3 hown2 hB2)
            | (at_builtin; refine wpList_app _ rfl _ _ _ _ rfl w.heap.size 5 i0 (.int .u8 0) 1 Tryd.underlying22 hi hz0 hz1 hz2 rfl (Nat.le_refl _) _ _ hown1 rfl 2 (bc [13, 10]) (str_src Tryd.underlying9 [13, 10]) (by have := HOl.out; simp; omega) hsz1 ?_; intro v2 w2 hown2 hgr2 hsz2; have hB2 := hB1.trans (hgr2.below hown1.lt hsz1); clear hgr2 hown1 hB1)
            | (go_at_call 44; refine (appInt_at Ao n co (bc out) N wr w.heap.size HO.out HB.out.size (by omega) (by have := HOl.out; simp; omega) (HT.out.below HB.out)).mono ?_; rintro e w1 ⟨v1, rfl, hown1, hgr1⟩; have hB1 := HB.out.trans (hgr1.below HO.out.lt HB.out.size); have hsz1 := hB1.size; clear hgr1))
            go_roundw
            case rel =>
              refine ⟨cutA A' c' N, c' - N, m - N, k + 1, f', n + (hexL N).length + N + 4, c4, A4, b.drop N, out ++ hexL N ++ [13, 10] ++ b.take N ++ [13, 10], by first | rfl | rw [Nat.sub_self], by first | rfl | (congr 1; omega), by go_num, by omega, by omega, by omega, Lib.hid (by rw [List.length_drop]; have := HBl.out; omega), HC2, ?_, Lib.hid ⟨hff, by rw [HF.out.2, HS.out]; simp⟩, HB4⟩
              exact HO4
            case measure => simp [lenOf]; omega
          · have hmin : m = N := by
              have h9 := HN.out
              rw [List.drop_of_length_le (by have := HL2.out; omega)] at h9
              simp only [chunkN] at h9
              rw [h9]; exact HBl.out.symm
            have HM := Lib.hid hmin
            subst hmin
            go_wp2_with (first
            | (at_builtin; refine wpList_app _ rfl _ _ _ _ rfl w.heap.size 5 i0 (.int .u8 0) 1 Tryd.underlying22 hi hz0 hz1 hz2 rfl (Nat.le_refl _) _ _ hown3 rfl 2 (bc [13, 10]) (str_src Tryd.underlying9 [13, 10]) (by have := HOl.out; have := HTl.out; simp; omega) hsz3 ?_; intro v4 w4 hown4' hgr4 hsz4; have hB4 := hB3.trans (hgr4.below hown3.lt hsz3); rw [bc_app, bc_app, bc_app, bc_app] at hown4'; obtain ⟨A4, c4, rfl, hl4, _⟩ := ow_formL hown4' (n + (hexL m).length + m + 4) (by rw [bc_length]; simp only [List.length_append, List.length_cons, List.length_nil, HTl.out, HOl.out] <;> omega); have HO4 := Lib.hid hown4'; have HB4 := Lib.hid hB4; clear hown4' hgr4 hB4 hown3 hB3)
            | (at_builtin; refine wpList_app _ rfl _ _ _ _ rfl w.heap.size 5 i0 (.int .u8 0) 1 Tryd.underlying22 hi hz0 hz1 hz2 rfl (Nat.le_refl _) _ _ hown2 rfl m (bc (b.take m)) ((HC1.out.below hB2).src Tryd.underlying22 (bc_one _)) (by have := HOl.out; simp; omega) hsz2 ?_; intro v3 w3 hown3 hgr3 hsz3; have hB3 := hB2.trans (hgr3.below hown2.lt hsz2); clear hgr3 hown2 hB2)
            | (at_builtin; refine wpList_app _ rfl _ _ _ _ rfl w.heap.size 5 i0 (.int .u8 0) 1 Tryd.underlying22 hi hz0 hz1 hz2 rfl (Nat.le_refl _) _ _ hown1 rfl 2 (bc [13, 10]) (str_src Tryd.underlying9 [13, 10]) (by have := HOl.out; simp; omega) hsz1 ?_; intro v2 w2 hown2 hgr2 hsz2; have hB2 := hB1.trans (hgr2.below hown1.lt hsz1); clear hgr2 hown1 hB1)
            | (go_at_call 44; refine (appInt_at Ao n co (bc out) m wr w.heap.size HO.out HB.out.size (by omega) (by have := HOl.out; simp; omega) (HT.out.below HB.out)).mono ?_; rintro e w1 ⟨v1, rfl, hown1, hgr1⟩; have hB1 := HB.out.trans (hgr1.below HO.out.lt HB.out.size); have hsz1 := hB1.size; clear hgr1))
            go_roundw
            case rel =>
              refine ⟨cutA A' c' m, c' - m, m - m, k + 1, f', n + (hexL m).length + m + 4, c4, A4, b.drop m, out ++ hexL m ++ [13, 10] ++ b.take m ++ [13, 10], by first | rfl | rw [Nat.sub_self], by first | rfl | (congr 1; omega), by go_num, by omega, by omega, by omega, Lib.hid (by rw [List.length_drop]; have := HBl.out; omega), HC2, ?_, Lib.hid ⟨hff, by rw [HF.out.2, HS.out]; simp⟩, HB4⟩
              exact HO4
            case measure => simp [lenOf]; omega
        · have hm0 : m = 0 := by omega
          subst hm0
          have hb : b = [] := List.eq_nil_of_length_eq_zero HBl.out
          have hF : encF (body.length + 1) body zs = out ++ [48, 13, 10, 13, 10] := by
            obtain ⟨f', hf'⟩ : ∃ f', f = f' + 1 := ⟨f - 1, by have := HF.out.1; omega⟩
            rw [HF.out.2, hb, hf']; rfl
          have HFF := Lib.hid hF
          have hout : out.length = n := by have := ow_len HO.out; rwa [bc_length] at this
          have HOl := Lib.hid hout
          clear hb hF hout
          go_wp2_with (at_builtin; refine wpList_app _ rfl _ _ _ _ rfl w.heap.size 5 i0 (.int .u8 0) 1 Tryd.underlying22 hi hz0 hz1 hz2 rfl (Nat.le_refl _) _ _ HO.out rfl 5 (bc [48, 13, 10, 13, 10]) (str_src Tryd.underlying9 [48, 13, 10, 13, 10]) (by have := HOl.out; simp; omega) HB.out.size ?_; intro v4 w4 hown4 hgr4 hsz4; have hB4 := HB.out.trans (hgr4.below HO.out.lt HB.out.size); rw [bc_app, ← HFF.out] at hown4)
          go_ret2
          exact ⟨_, rfl, hown4, hB4⟩
end Go.Proofs.YtkjibnhihdbmdaaDoor
