/-
  The reference's Encode.
-/
import Derived.Test.YtkjibnhihdbmdaaDoorChunkLaw
import Derived.Deep.RegionHeld3
import Derived.Deep.DeepCutAuto
import Derived.IntWalk
set_option linter.unusedVariables false
set_option linter.unusedSimpArgs false
namespace Go.Proofs.YtkjibnhihdbmdaaDoor
open Go.RowKit
def digs16 : ByteArray := ⟨#[48, 49, 50, 51, 52, 53, 54, 55, 56, 57, 97, 98, 99, 100, 101, 102]⟩
theorem digs16_at (d : Nat) (h : d < 16) (h2 : d < digs16.size) : Value.int .u8 (digs16[d].toNat : Int) = .int .u8 ((hexD d).toNat : Int) := by
  have : ∀ i : Fin 16, digs16.data.toList.getD i.1 0 = hexD i.1 := by decide +kernel
  have e := this ⟨d, h⟩
  have h3 : d < digs16.data.toList.length := h2
  have e2 : digs16.data.toList.getD d 0 = digs16[d] := by rw [List.getD_eq_getElem?_getD, List.getElem?_eq_getElem h3]; rfl
  rw [← e2, e]
theorem bc_append1 (l : List UInt8) (c : UInt8) : bc (l ++ [c]) = bc l ++ [.int .u8 (c.toNat : Int)] := by simp [bc]
theorem keep_ad1 {w0 W : World} (h : Below w0.heap.size w0 W) (o : Obj) : Below w0.heap.size w0 (W.alloc o).drew := (h.alloc h.size o).drew
theorem rd_litD (w : World) (e : TypeId) (cs : List Value) (n g : Nat) (hg : g = w.heap.size) (hn : cs.length = n) : Rd (w.alloc (.cells cs.toArray e)).drew (w.alloc (.cells cs.toArray e)).drew.heap.size (some ⟨g, 0, none⟩) n cs := rd_lit w e cs n g hg hn
def HexOk (n : Nat) : Prop := ∀ w : World, Calls Tryd.prog 60 #[.int .i64 (n : Int)] w fun e w' => ∃ A c, e = .returned (.slice A (hexL n).length c) ∧ (hexL n).length ≤ c ∧ Ow w' w.heap.size 5 (.slice A (hexL n).length c) (bc (hexL n)) ∧ Below w.heap.size w w'
theorem keep_alloc1 {w0 W : World} (h : Below w0.heap.size w0 W) (o : Obj) : Below w0.heap.size w0 (W.alloc o) := h.alloc h.size o
set_option maxRecDepth 100000 in
set_option maxHeartbeats 1000000 in
theorem hex_step (n : Nat) (hn : n ≤ 65536) (ih : ∀ m, m < n → m ≤ 65536 → HexOk m) : HexOk n := by
  intro w
  obtain ⟨i0, hi, hi0, hi1, hi2⟩ := info_parts Tryd.clInfoByte
  by_cases h16 : n < 16
  · have h2 : n < digs16.size := h16
    have e1 := digs16_at n h16 h2
    have e2 : hexL n = [hexD n] := hexL_small h16
    rw [e2]
    have HE := Lib.hid e1
    clear e1 e2 ih
    go_enter Tryd.func60, Tryd.ntmps60
    go_wp2
    go_ret
    have ho := Ow.lit w 5 [.int .u8 (digs16[n].toNat : Int)] (by simp [maxLen])
    refine ⟨some ⟨w.heap.size, 0, none⟩, 1, rfl, Nat.le_refl _, ?_, (Below.refl _ _).alloc (Nat.le_refl _) _⟩
    have e3 : bc [hexD n] = [.int .u8 (digs16[n].toNat : Int)] := by rw [HE.out]; rfl
    rw [e3]
    exact ho
  · obtain ⟨m, hm⟩ : ∃ m, m = n / 16 := ⟨_, rfl⟩
    obtain ⟨d, hd⟩ : ∃ d, d = n % 16 := ⟨_, rfl⟩
    have hih := ih m (by omega) (by omega)
    have HIH := Lib.hid hih
    have d16 : d < 16 := by omega
    have h2 : d < digs16.size := d16
    have e1 := digs16_at d d16 h2
    have HE := Lib.hid e1
    have hx : hexL n = hexL m ++ [hexD d] := by rw [hexL_big h16, hm, hd]
    have h5 := hexL_five m (by omega)
    have HX := Lib.hid hx
    have k1 : (n : Int) / 16 = (m : Int) := by omega
    have k2 : (n : Int) % 16 = (d : Int) := by omega
    have k3 : (n : Int).tdiv 16 = (m : Int) := by rw [Int.tdiv_eq_ediv_of_nonneg (by omega)]; exact k1
    have k4 : (n : Int).tmod 16 = (d : Int) := by rw [Int.tmod_eq_emod_of_nonneg (by omega)]; exact k2
    have k5 : IntKind.i64.wrap (m : Int) = (m : Int) := IntWalk.i64_in _ (by omega)
    clear ih hih e1 hx hm hd
    go_enter Tryd.func60, Tryd.ntmps60
    go_wp2_with fail
    have hS0 : Below w.heap.size w w.drew := (Below.refl _ _).drew
    have hS1 : Below w.heap.size w w := Below.refl _ _
    go_region_held3 (fun W => Below w.heap.size w W) ((first | assumption | (refine keep_alloc1 ?_ _; assumption) | (refine keep_ad1 ?_ _; assumption) | (refine Below.drew ?_; assumption))) (first
      | (go_at_call 60
         refine (HIH.out _).mono ?_
         rintro e w4 ⟨A4, c4, rfl, hc4, ho4, hb4⟩
         have hS4 : Below w.heap.size w w4 := Below.trans (by assumption) (hb4.mono (Below.size (by assumption))))
      | (refine step_app _ rfl _ _ _ _ rfl _ 5 i0 (.int .u8 0) 1 Tryd.underlying22 hi hi0 hi1 hi2 rfl (by omega) _ _ (ho4.alloc _) ?_ (.slice (some ⟨w4.heap.size, 0, none⟩) 1 1) ?_ 1 [.int .u8 (digs16[d].toNat : Int)] ?_ ?_ ?_ ?_
         · rfl
         · rfl
         · exact one_src Tryd.underlying22 _ rfl
         · simp; omega
         · exact Nat.le_trans hb4.size (by simp)
         intro v5 w5 hown5 hgr5 hsz5
         have hS5 : Below w.heap.size w w5 := Below.trans (keep_alloc1 hS4 _) (hgr5.below (fun q hq => Nat.le_trans (by simp) (ho4.lt q hq)) (by have := hS4.size; simp; omega)))
      | (refine step_app _ rfl _ _ _ _ rfl _ 5 i0 (.int .u8 0) 1 Tryd.underlying22 hi hi0 hi1 hi2 rfl (by omega) _ _ ho4 ?_ (.slice (some ⟨w.heap.size, 0, none⟩) 1 1) ?_ 1 [.int .u8 (digs16[d].toNat : Int)] ?_ ?_ ?_ ?_
         · rfl
         · rfl
         · exact (rd_step (rd_litD w 5 [.int .u8 (digs16[d].toNat : Int)] 1 w.heap.size rfl rfl) hb4).src Tryd.underlying22 (by simp [Value.oneCell'])
         · simp; omega
         · exact hb4.size
         intro v5 w5 hown5 hgr5 hsz5
         have hS5 : Below w.heap.size w w5 := Below.trans hS4 (hgr5.below (fun q hq => by have := ho4.lt q hq; simp at this; omega) hS4.size)))
    all_goals
      have hO5 := hown5.mono (show w.heap.size ≤ _ by simp)
      have hB5 := hS5
      clear hown5 hS5 hS4 hS1 hS0
      rw [HE.out] at hO5
      have hO6 : Ow w5 w.heap.size 5 v5 (bc (hexL n)) := by rw [HX.out, bc_append1]; exact hO5
      obtain ⟨A6, c6, rfl, hl6, _⟩ := ow_formL hO6 (hexL n).length (by simp)
      have HO6 := Lib.hid hO6
      have HB5 := Lib.hid hB5
      clear hO5 hO6 hB5 hgr5 ho4 hb4
      go_wp2
      go_ret
      exact ⟨A6, c6, rfl, hl6, HO6.out, HB5.out⟩
theorem hex_at (n : Nat) (hn : n ≤ 65536) : HexOk n := by
  induction n using Nat.strongRecOn with
  | ind n ih => exact hex_step n hn (fun m h1 h2 => ih m h1 h2)
end Go.Proofs.YtkjibnhihdbmdaaDoor
