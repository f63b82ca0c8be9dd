/-
  Cutting bytes into pieces.
-/
import Derived.Test.YtkjibnhihdbmdaaDoorChunkFed
set_option linter.unusedVariables false
set_option linter.unusedSimpArgs false
namespace Go.Proofs.YtkjibnhihdbmdaaDoor
open Go.RowKit
theorem Tryd.infoRow1 : (Tryd.prog.info? 22).map (fun i => (i.zero, i.size, i.bytes)) = some (some (.slice none 0 0), 1, 24) := by kernel_rfl
def lenV : Value → Nat
  | .slice _ n _ => n
  | _ => 0
theorem flatB_snoc (rows : List BRow) (r : BRow) : flatB (rows ++ [r]) = flatB rows ++ r.l := by
  unfold flatB
  rw [List.map_append, List.flatten_append]
  simp
def CutPost (l : List UInt8) (w : World) (e : Ending) (w' : World) : Prop :=
  ∃ (A' : Option Addr) (c' : Nat) (rows : List BRow), e = .returned (.slice A' rows.length c') ∧ flatB rows = l ∧ rows.length ≤ 51 ∧ RdB w' w'.heap.size A' rows.length rows ∧ Below w.heap.size w w'
set_option maxRecDepth 100000 in
set_option maxHeartbeats 2000000 in
theorem cut_at (A : Option Addr) (c L : Nat) (l : List UInt8) (A2 : Option Addr) (c2 L2 : Nat) (cs : List UInt8) (w : World) (hL : l.length = L) (hr : Rd w w.heap.size A L (bc l)) (hc : L ≤ c) (hL2 : cs.length = L2) (hr2 : Rd w w.heap.size A2 L2 (bc cs)) (hc2 : L2 ≤ c2) (hl : L ≤ 1000000) :
    Calls Tryd.prog 25 #[.slice A L c, .slice A2 L2 c2] w (CutPost l w) := by
  obtain ⟨i0, hi, hz0, hz1, hz2⟩ := info_parts Tryd.infoRow1
  obtain ⟨K, hK⟩ : ∃ K, K = min L2 50 := ⟨_, rfl⟩
  have hmin : min (L2 : Int) 50 = (K : Int) := by omega
  have hK1 : K ≤ L2 := by omega
  have hK2 : K ≤ 50 := by omega
  have ksl := sl_h A2 L2 c2 K (by omega)
  have HR := Lib.hid hr
  have HR2 := Lib.hid hr2
  have HL := Lib.hid hL
  have HL2 := Lib.hid hL2
  clear hr hr2 hL hL2 hK
  go_enter Tryd.func25, Tryd.ntmps25
  go_wp2_with fail
  go_loopw [0, 5, 15] (fun v0 vo vi wr => ∃ (k m c' co : Nat) (A' Ao : Option Addr) (b : List UInt8) (rows : List BRow), k ≤ K ∧ vi = .int .i64 k ∧ v0 = .slice A' m c' ∧ vo = .slice Ao k co ∧ m ≤ c' ∧ m ≤ L ∧ Hid (rows.length = k) ∧ Hid (b.length = m) ∧ Hid (flatB rows ++ b = l) ∧ Hid (Rd w w.heap.size A' m (bc b)) ∧ Hid (∀ r ∈ rows, r.ok w w.heap.size) ∧ Hid (Ow wr w.heap.size 22 (.slice Ao k co) (rows.map BRow.v)) ∧ Hid (Below w.heap.size w wr)) (fun _ _ vi _ => K - (intOf vi).toNat)
  case atStart => exact ⟨0, L, c, 0, A, none, l, [], Nat.zero_le _, rfl, rfl, rfl, hc, Nat.le_refl _, Lib.hid rfl, HL, Lib.hid rfl, HR, Lib.hid (fun r h => by cases h), Lib.hid (Ow.nil _ _ _), Lib.hid (Below.refl _ _)⟩
  case round =>
    obtain ⟨k, m, c', co, A', Ao, b, rows, hk, rfl, rfl, rfl, hmc, hmL, HRl, HBl, HF, HRb, HOk, HO, HB⟩ := hrel
    have hsz := HB.out.size
    by_cases hlt : k < K
    · have hkc : k < cs.length := by have := HL2.out; omega
      obtain ⟨b2, o2, rfl, _, hcell⟩ := (HR2.out.below HB.out).at_ (show k < L2 by omega)
      have hx := hcell k _ (bc_get cs k hkc)
      obtain ⟨x, hxe⟩ : ∃ x : Nat, x = cs[k].toNat := ⟨_, rfl⟩
      rw [← hxe] at hx
      have hx256 : x < 256 := by rw [hxe]; exact UInt8.toNat_lt _
      obtain ⟨N, hN⟩ : ∃ N, N = min x m := ⟨_, rfl⟩
      have hminN : min (x : Int) (m : Int) = (N : Int) := by omega
      have hNm : N ≤ m := by omega
      have s1 := sl_h A' m c' N (by omega)
      have s2 : ∀ W, (Instr.slice 22 (.slice A' m c') (some (.int .i64 (N : Int))) none none).run Tryd.prog W = .ok (.slice (cutA A' c' N) (m - N) (c' - N)) W := fun W => run_sl_l W _ 5 Tryd.underlying22 (fun w => by kernel_rfl) A' m c' N (by omega)
      have hbm := HBl.out
      have hcut1 : Rd w w.heap.size A' N (bc (b.take N)) := rd_pre HRb.out hNm
      have hcut2 : Rd w w.heap.size (cutA A' c' N) (m - N) (bc (b.drop N)) := by
        have := HRb.out.cut (k := N) (m := m) (cap := c') hNm (Nat.le_refl _) hmc
        rw [show ((bc b).drop N).take (m - N) = bc (b.drop N) by
          rw [List.take_of_length_le (by rw [List.length_drop, bc_length, hbm]; omega)]; simp [bc, List.map_drop]] at this
        exact this
      have htl : (b.take N).length = N := by rw [List.length_take]; omega
      have hdl : (b.drop N).length = m - N := by rw [List.length_drop]; omega
      have HC1 := Lib.hid hcut1
      have HC2 := Lib.hid hcut2
      have HT := Lib.hid htl
      have HD := Lib.hid hdl
      clear hcell hxe hN hbm hcut1 hcut2 htl hdl
      go_wp2_with (at_builtin; refine wpList_app _ rfl _ _ _ _ rfl w.heap.size 22 i0 (.slice none 0 0) 24 Tryd.underlying39 hi hz0 hz1 hz2 rfl (by omega) _ _ (HO.out.alloc _) rfl 1 [.slice A' N c'] (one_src Tryd.underlying39 _ rfl) (by rw [List.length_map, HRl.out]; omega) (by simp; omega) ?_; intro v3 w3 hown3 hgr3 hsz3; have hown4 : Ow w3 w.heap.size 22 v3 ((rows ++ [BRow.mk A' c' (b.take N)]).map BRow.v) := (by rw [List.map_append] <;> simpa [BRow.v, HT.out] using hown3); obtain ⟨A3, c3, rfl, hl3, _⟩ := ow_formL hown4 (k + 1) (by rw [List.length_map, List.length_append, HRl.out]; rfl); have HO3 := Lib.hid hown4; have HB3 := Lib.hid ((HB.out.alloc hsz _).trans (hgr3.below HO.out.lt (by simp; omega))); clear hown3 hown4 hgr3)
      go_roundw
      case rel =>
        refine ⟨k + 1, m - N, c' - N, c3, cutA A' c' N, A3, b.drop N, rows ++ [⟨A', c', b.take N⟩], by omega, by go_num, rfl, rfl, by omega, by omega, Lib.hid (by rw [List.length_append, HRl.out]; rfl), HD, Lib.hid ?_, HC2, Lib.hid (fun r hr => ?_), HO3, HB3⟩
        · rw [flatB_snoc, List.append_assoc]
          show flatB rows ++ (b.take N ++ b.drop N) = l
          rw [List.take_append_drop]
          exact HF.out
        · rcases List.mem_append.1 hr with hr | hr
          · exact HOk.out r hr
          · rcases List.mem_cons.1 hr with rfl | hr
            · refine ⟨?_, ?_⟩
              · show Rd w w.heap.size A' (b.take N).length (bc (b.take N))
                rw [HT.out]; exact HC1.out
              · show (b.take N).length ≤ c'
                rw [HT.out]; omega
            · cases hr
      case measure => simp [intOf]; omega
    · have hkK : k = K := by omega
      subst hkK
      go_wp2_with (at_builtin; refine wpList_app _ rfl _ _ _ _ rfl w.heap.size 22 i0 (.slice none 0 0) 24 Tryd.underlying39 hi hz0 hz1 hz2 rfl (by omega) _ _ (HO.out.alloc _) rfl 1 [.slice A' m c'] (one_src Tryd.underlying39 _ rfl) (by rw [List.length_map, HRl.out]; omega) (by simp; omega) ?_; intro v3 w3 hown3 hgr3 hsz3; have hown4 : Ow w3 w.heap.size 22 v3 ((rows ++ [BRow.mk A' c' b]).map BRow.v) := (by rw [List.map_append] <;> simpa [BRow.v, HBl.out] using hown3); obtain ⟨A3, c3, rfl, hl3, _⟩ := ow_formL hown4 (rows ++ [BRow.mk A' c' b]).length (by simp); have HO3 := Lib.hid hown4; have HB3 := Lib.hid ((HB.out.alloc hsz _).trans (hgr3.below HO.out.lt (by simp; omega))); clear hown3 hown4 hgr3)
      go_ret
      refine ⟨A3, c3, rows ++ [⟨A', c', b⟩], by rw [List.length_append]; rfl, by rw [flatB_snoc]; exact HF.out, by rw [List.length_append, HRl.out]; simp; omega, ⟨ow_rd HO3.out, fun r hr => ?_⟩, HB3.out⟩
      refine BRow.ok.more ?_ HB3.out.size
      refine BRow.ok.below ?_ HB3.out
      rcases List.mem_append.1 hr with hr | hr
      · exact HOk.out r hr
      · rcases List.mem_cons.1 hr with rfl | hr
        · refine ⟨?_, ?_⟩
          · show Rd w w.heap.size A' b.length (bc b)
            rw [HBl.out]; exact HRb.out
          · show b.length ≤ c'
            rw [HBl.out]; omega
        · cases hr
end Go.Proofs.YtkjibnhihdbmdaaDoor
