/-
  ChunkDecodes, under the guard.
-/
import Derived.Test.YtkjibnhihdbmdaaDoorChunkEncs
import Derived.Test.YtkjibnhihdbmdaaDoorChunkRDe
set_option linter.unusedVariables false
set_option linter.unusedSimpArgs false
namespace Go.Proofs.YtkjibnhihdbmdaaDoor
open Go.RowKit
set_option maxRecDepth 100000 in
set_option maxHeartbeats 4000000 in
theorem decodes_at (A : Option Addr) (c L : Nat) (l : List UInt8) (w : World) (hL : l.length = L) (hr : Rd w w.heap.size A L (bc l)) (hc : L ≤ c) (hl : L ≤ 140737488351232) :
    Calls Tryd.prog 12 #[.slice A L c] w fun e w' => e = .returned (.bool true) ∧ Below w.heap.size w w' := by
  obtain ⟨q, hq⟩ : ∃ q, (goR newR l 0).2 = q := ⟨_, rfl⟩
  obtain ⟨E, hE⟩ : ∃ E, decE (goR newR l 0).1 = E := ⟨_, rfl⟩
  obtain ⟨O, hO⟩ : ∃ O, decB (goR newR l 0).1 = O := ⟨_, rfl⟩
  obtain ⟨n, hn⟩ : ∃ n, O.length = n := ⟨_, rfl⟩
  have hOl : n ≤ 65536 := by
    have h1 := go_lens l newR 0 lens_new
    rw [← hn, ← hO]
    unfold decB
    split
    · exact h1.bd
    · simp
  have HR := Lib.hid hr
  have HL := Lib.hid hL
  have HQ := Lib.hid hq
  have HEn := Lib.hid hE
  have HO := Lib.hid hO
  have HNn := Lib.hid hn
  clear hr hL hq hE hO hn
  go_enter Tryd.func12, Tryd.ntmps12
  go_wp2_with (first
    | (go_at_call 19; refine (eq_b A5 A6 c5 c6 n n O O true w6 (decide_eq_true rfl) HNn.out HNn.out (rd_step (ow_rd HO5.out) HB56.out) HO6.out).mono ?_; rintro e w6 ⟨rfl, rfl⟩)
    | (go_at_call 35; refine (rdecode_at A c L l w5 q E n O HQ.out HEn.out HO.out HNn.out HL.out ((HR.out.below HB5.out).more HB5.out.size) hc (by omega)).mono ?_; rintro e w6 ⟨A6, c6, rfl, hl6, ho6, hb6⟩; have HO6 := Lib.hid ho6; have HB56 := Lib.hid hb6; have HB6 := Lib.hid (HB5.out.trans (hb6.mono HB5.out.size)); clear ho6 hb6)
    | (go_at_call 17; refine (decode_res A3 c3 L l w3 q E n O HQ.out HEn.out HO.out HNn.out HL.out (ow_rd HO3.out) (by omega)).mono ?_; rintro e w5 ⟨A5, c5, rfl, hc5, ho5, hb5⟩; have HO5 := Lib.hid ho5; have HB35 := Lib.hid hb5; have HB5 := Lib.hid (HB3.out.trans (hb5.mono HB3.out.size)); clear ho5 hb5)
    | (go_at_call 18; refine (cl_b A c L l w HL.out HR.out (by omega)).mono ?_; rintro e w3 ⟨v3, rfl, ho3, hb3⟩; obtain ⟨A3, c3, rfl, hl3, _⟩ := ow_formL ho3 L (by rw [bc_length]; exact HL.out); have HO3 := Lib.hid ho3; have HB3 := Lib.hid hb3; clear ho3 hb3))
  go_loopw [41] (fun vi wr => ∃ (k : Nat) (xs : List Value), k ≤ n ∧ vi = .int .i64 k ∧ xs.length = n ∧ Hid (∀ (j : Nat) (u : Value), xs[j]? = some u → ∃ y : UInt8, u = Value.int .u8 (y.toNat : Int)) ∧ Hid (0 < n → ∃ g, A5 = some ⟨g, 0, none⟩ ∧ w3.heap.size ≤ g ∧ Own wr g xs) ∧ Hid (Below w3.heap.size w3 wr)) (fun vi _ => n - (intOf vi).toNat)
  case atStart =>
    refine ⟨0, bc O, Nat.zero_le _, rfl, by rw [bc_length]; exact HNn.out, Lib.hid (fun j u hu => ?_), Lib.hid (fun h0 => ?_), Lib.hid (HB35.out.trans (HB56.out.mono HB35.out.size))⟩
    · obtain ⟨y, _, rfl⟩ := List.mem_map.1 (List.mem_of_getElem? hu)
      exact ⟨y, rfl⟩
    · obtain ⟨g, e1, e2, e3, e4⟩ := ow_cells HO5.out h0
      exact ⟨g, e1, e2, e4.below HB56.out e3⟩
  case round =>
    obtain ⟨k, xs, hk, rfl, hxl, HU, HG, HB3r⟩ := hrel
    by_cases hlt : k < n
    · obtain ⟨g, rfl, hgB, hown⟩ := HG.out (by omega)
      obtain ⟨y, hy⟩ := HU.out k xs[k] (List.getElem?_eq_getElem (by omega))
      have hcx := hown k (.int .u8 (y.toNat : Int)) (by rw [List.getElem?_eq_getElem (by omega), hy])
      obtain ⟨hc1, hc2⟩ := hcx
      have hOw := Lib.hid hown
      have hXL := Lib.hid hxl
      have hy256 := UInt8.toNat_lt y
      clear hown hxl hy
      go_wp2
      go_roundw
      case rel =>
        refine ⟨k + 1, xs.set k (.int .u8 (IntKind.u8.wrap ((y.toNat : Int) + 1))), by omega, by go_num, by rw [List.length_set]; exact hXL.out, Lib.hid (fun j u hu => ?_), Lib.hid (fun _ => ⟨g, rfl, hgB, hOw.out.set_ k _⟩), Lib.hid (HB3r.out.setCell hgB _)⟩
        by_cases hj : j = k
        · subst hj
          rw [List.getElem?_set_self (by have := hXL.out; omega)] at hu
          cases hu
          refine ⟨y + 1, ?_⟩
          have e : (y + 1).toNat = (y.toNat + 1) % 256 := by rw [UInt8.toNat_add]; rfl
          rw [e]
          refine congrArg (Value.int .u8) ?_
          rw [IntKind.wrap_u8] <;> omega
        · rw [List.getElem?_set_ne (by omega)] at hu
          exact HU.out j u hu
      case measure => simp [intOf]; omega
    · have HBr := Lib.hid (HB3.out.trans (HB3r.out.mono HB3.out.size))
      clear HG HU
      go_wp2_with (go_at_call 19; refine (eq_b A3 A c3 c L L l l true wr (decide_eq_true rfl) HL.out HL.out (rd_step (ow_rd HO3.out) HB3r.out) ((HR.out.below HBr.out).more HBr.out.size)).mono ?_; rintro e wr ⟨rfl, rfl⟩)
      go_ret
      exact ⟨rfl, HBr.out⟩
set_option maxRecDepth 100000 in
set_option maxHeartbeats 1000000 in
theorem chunkDecodes_any (A0 : Option Addr) (c0 : Nat) (b : List UInt8) (w : World) (henv : EnvOk w)
    (r0 : Rd w w.heap.size A0 b.length (bc b)) (hc0 : b.length ≤ c0) (hb0 : b.length ≤ 140737488351232) :
    Calls Tryd.prog 3 #[.slice A0 b.length c0] w fun e w' => e = .returned (.bool true) ∧ Below w.heap.size w w' := by
  have HE := Lib.hid henv
  have HR0 := Lib.hid r0
  clear henv r0
  by_cases h1 : 2000 < b.length
  · go_enter Tryd.func3, Tryd.ntmps3
    go_wp2_with (go_at_call 13; refine (awake_any w HE.out).mono ?_; rintro e w1 ⟨rfl, hb1⟩; have HB1 := Lib.hid hb1; clear hb1)
    go_ret
    exact ⟨rfl, HB1.out⟩
  · go_enter Tryd.func3, Tryd.ntmps3
    go_wp2_with (first
      | (go_at_call 13; refine (awake_any w1 (HE.out.below HB1.out)).mono ?_; rintro e w2 ⟨rfl, hb2⟩; have HB2 := Lib.hid (HB1.out.trans (hb2.mono HB1.out.size)); clear hb2)
      | (go_at_call 12; refine (decodes_at A0 c0 b.length b w rfl HR0.out hc0 hb0).mono ?_; rintro e w1 ⟨rfl, hb1⟩; have HB1 := Lib.hid hb1; clear hb1))
    go_ret
    exact ⟨rfl, HB2.out⟩
end Go.Proofs.YtkjibnhihdbmdaaDoor
