/-
  ChunkEncodes, under the guard.
-/
import Derived.Test.YtkjibnhihdbmdaaDoorChunkRE2
set_option linter.unusedVariables false
set_option linter.unusedSimpArgs false
namespace Go.Proofs.YtkjibnhihdbmdaaDoor
open Go.RowKit
/-- 'for i := range out { out[i]++ }' leaves what lies elsewhere -/
theorem ow_cells {w : World} {base : Nat} {e : TypeId} {A : Option Addr} {n c : Nat} {xs : List Value} (h : Ow w base e (.slice A n c) xs) (hn : 0 < n) : ∃ g, A = some ⟨g, 0, none⟩ ∧ base ≤ g ∧ g < w.heap.size ∧ Own w g xs := by
  have hl := ow_len h
  rcases h.2 with ⟨h1, h2⟩ | ⟨g, cap, cur, h1, hbg, hg, hnc, hcm, hcs, htake⟩
  · cases h1; omega
  · cases h1
    refine ⟨g, rfl, hbg, kp_lt hg, fun j u hu => ?_⟩
    rw [Nat.mul_one] at htake
    have hj : j < xs.length := by
      rcases Nat.lt_or_ge j xs.length with h1 | h1
      · exact h1
      · rw [List.getElem?_eq_none h1] at hu; cases hu
    rw [← htake, List.getElem?_take_of_lt (by omega)] at hu
    constructor
    · simp only [World.cell?, hg]
      simpa using hu
    · simp [World.frozen?, hg]
set_option maxRecDepth 100000 in
set_option maxHeartbeats 4000000 in
theorem encodes_at (A A2 : Option Addr) (c L c2 L2 : Nat) (body : List UInt8) (zs : List Int) (w : World) (hL : body.length = L) (hL2 : zs.length = L2) (hr : Rd w w.heap.size A L (bc body)) (hr2 : Rd w w.heap.size A2 L2 (ic zs)) (hc : L ≤ c) (hl : L ≤ 500) (hl2 : L2 ≤ 30) (henv : EnvOk w) :
    Calls Tryd.prog 14 #[.slice A L c, .slice A2 L2 c2] w fun e w' => e = .returned (.bool true) ∧ Below w.heap.size w w' := by
  obtain ⟨E, hE⟩ : ∃ E, encE body zs = E := ⟨_, rfl⟩
  obtain ⟨O, hO⟩ : ∃ O, encR body zs = O := ⟨_, rfl⟩
  obtain ⟨n, hn⟩ : ∃ n, O.length = n := ⟨_, rfl⟩
  have hOl : n ≤ 10000 := by
    rw [← hn, ← hO]
    unfold encR
    by_cases h : encE body zs = 0
    · rw [if_pos h]
      have hz : ∀ z ∈ zs, 1 ≤ z := fun z hz => by
        unfold encE at h
        by_cases h2 : zs.any lt1 = true
        · rw [if_neg (by omega), if_pos h2] at h; omega
        · have h3 : zs.any lt1 = false := by simpa using h2
          have := List.any_eq_false.1 h3 z hz
          simp [lt1] at this; omega
      have := enc_bound (body.length + 1) body zs hz (by omega)
      omega
    · rw [if_neg h]; simp
  have HR := Lib.hid hr
  have HR2 := Lib.hid hr2
  have HL := Lib.hid hL
  have HL2 := Lib.hid hL2
  have HE := Lib.hid henv
  have HEn := Lib.hid hE
  have HO := Lib.hid hO
  have HNn := Lib.hid hn
  clear hr hr2 hL hL2 henv hE hO hn
  go_enter Tryd.func14, Tryd.ntmps14
  go_wp2_with (first
    | (go_at_call 19; refine (eq_b A5 A6 c5 c6 n n O O true w6 (decide_eq_true rfl) HNn.out HNn.out (rd_step (ow_rd HO5.out) HB56.out) (ow_rd HO6.out)).mono ?_; rintro e w6 ⟨rfl, rfl⟩)
    | (go_at_call 40; refine (rencode_at A A2 c L c2 L2 body zs w5 HL.out HL2.out ((HR.out.below HB5.out).more HB5.out.size) ((HR2.out.below HB5.out).more HB5.out.size) hc (by omega) (by omega)).mono ?_; rintro e w6 ⟨v6, rfl, ho6, hb6⟩; rw [HO.out] at ho6; rw [HEn.out]; obtain ⟨A6, c6, rfl, hl6, _⟩ := ow_formL ho6 n (by rw [bc_length]; exact HNn.out); have HO6 := Lib.hid ho6; have HB56 := Lib.hid hb6; have HB6 := Lib.hid (HB5.out.trans (hb6.mono HB5.out.size)); clear ho6 hb6)
    | (go_at_call 15; refine (encode_res A3 A4 c3 L c4 L2 body zs w4 E n O HEn.out HO.out HNn.out HL.out HL2.out (rd_step (ow_rd HO3.out) HB34.out) (ow_rd HO4.out) hl3 (by omega) (by omega) (HE.out.below HB4.out)).mono ?_; rintro e w5 ⟨A5, c5, rfl, hc5, ho5, hb5⟩; have HO5 := Lib.hid ho5; have HB45 := Lib.hid hb5; have HB5 := Lib.hid (HB4.out.trans (hb5.mono HB4.out.size)); clear ho5 hb5)
    | (go_at_call 39; refine (cl_i A2 c2 L2 zs w3 HL2.out ((HR2.out.below HB3.out).more HB3.out.size) (by omega)).mono ?_; rintro e w4 ⟨v4, rfl, ho4, hb4⟩; obtain ⟨A4, c4, rfl, hl4, _⟩ := ow_formL ho4 L2 (by rw [ic_length]; exact HL2.out); have HO4 := Lib.hid ho4; have HB34 := Lib.hid hb4; have HB4 := Lib.hid (HB3.out.trans (hb4.mono HB3.out.size)); clear ho4 hb4)
    | (go_at_call 18; refine (cl_b A c L body w HL.out HR.out (by omega)).mono ?_; rintro e w3 ⟨v3, rfl, ho3, hb3⟩; obtain ⟨A3, c3, rfl, hl3, _⟩ := ow_formL ho3 L (by rw [bc_length]; exact HL.out); have HO3 := Lib.hid ho3; have HB3 := Lib.hid hb3; clear ho3 hb3))
  go_loopw [39] (fun vi wr => ∃ (k : Nat) (xs : List Value), k ≤ n ∧ vi = .int .i64 k ∧ xs.length = n ∧ Hid (∀ (j : Nat) (u : Value), xs[j]? = some u → ∃ y : UInt8, u = Value.int .u8 (y.toNat : Int)) ∧ Hid (0 < n → ∃ g, A5 = some ⟨g, 0, none⟩ ∧ w4.heap.size ≤ g ∧ Own wr g xs) ∧ Hid (Below w4.heap.size w4 wr)) (fun vi _ => n - (intOf vi).toNat)
  case atStart =>
    refine ⟨0, bc O, Nat.zero_le _, rfl, by rw [bc_length]; exact HNn.out, Lib.hid (fun j u hu => ?_), Lib.hid (fun h0 => ?_), Lib.hid (HB45.out.trans (HB56.out.mono HB45.out.size))⟩
    · obtain ⟨y, _, rfl⟩ := List.mem_map.1 (List.mem_of_getElem? hu)
      exact ⟨y, rfl⟩
    · obtain ⟨g, e1, e2, e3, e4⟩ := ow_cells HO5.out h0
      exact ⟨g, e1, e2, e4.below HB56.out e3⟩
  case round =>
    obtain ⟨k, xs, hk, rfl, hxl, HU, HG, HB4r⟩ := hrel
    by_cases hlt : k < n
    · obtain ⟨g, rfl, hgB, hown⟩ := HG.out (by omega)
      obtain ⟨y, hy⟩ := HU.out k xs[k] (List.getElem?_eq_getElem (by omega))
      have hcx := hown k (.int .u8 (y.toNat : Int)) (by rw [List.getElem?_eq_getElem (by omega), hy])
      obtain ⟨hc1, hc2⟩ := hcx
      have hOw := Lib.hid hown
      have hXL := Lib.hid hxl
      have hy256 := UInt8.toNat_lt y
      clear hown hxl hy
      go_wp2
      go_roundw
      case rel =>
        refine ⟨k + 1, xs.set k (.int .u8 (IntKind.u8.wrap ((y.toNat : Int) + 1))), by omega, by go_num, by rw [List.length_set]; exact hXL.out, Lib.hid (fun j u hu => ?_), Lib.hid (fun _ => ⟨g, rfl, hgB, hOw.out.set_ k _⟩), Lib.hid (HB4r.out.setCell hgB _)⟩
        by_cases hj : j = k
        · subst hj
          rw [List.getElem?_set_self (by have := hXL.out; omega)] at hu
          cases hu
          refine ⟨y + 1, ?_⟩
          have e : (y + 1).toNat = (y.toNat + 1) % 256 := by rw [UInt8.toNat_add]; rfl
          rw [e]
          refine congrArg (Value.int .u8) ?_
          rw [IntKind.wrap_u8] <;> omega
        · rw [List.getElem?_set_ne (by omega)] at hu
          exact HU.out j u hu
      case measure => simp [intOf]; omega
    · have HB3r := Lib.hid (HB34.out.trans (HB4r.out.mono HB34.out.size))
      have HBr := Lib.hid (HB4.out.trans (HB4r.out.mono HB4.out.size))
      clear HG HU
      go_wp2_with (first
        | (go_at_call 41; refine (eq_i_at A4 A2 c4 c2 L2 L2 zs zs true wr (decide_eq_true rfl) HL2.out HL2.out (rd_step (ow_rd HO4.out) HB4r.out) ((HR2.out.below HBr.out).more HBr.out.size) (by omega) (by omega)).mono ?_; rintro e w9 ⟨rfl, q9, hq9⟩; have HB9 := Lib.hid (show Below w.heap.size w w9 by rw [hq9]; exact below_dn HBr.out q9); clear hq9)
        | (go_at_call 19; refine (eq_b A3 A c3 c L L body body true wr (decide_eq_true rfl) HL.out HL.out (rd_step (ow_rd HO3.out) HB3r.out) ((HR.out.below HBr.out).more HBr.out.size)).mono ?_; rintro e wr ⟨rfl, rfl⟩))
      go_ret
      exact ⟨rfl, HB9.out⟩
set_option maxRecDepth 100000 in
set_option maxHeartbeats 1000000 in
theorem chunkEncodes_any (A0 : Option Addr) (c0 : Nat) (b : List UInt8) (A1 : Option Addr) (c1 : Nat) (zs : List Int) (w : World) (henv : EnvOk w)
    (r0 : Rd w w.heap.size A0 b.length (bc b)) (hc0 : b.length ≤ c0) (hb0 : b.length ≤ 140737488351232) (r1 : Rd w w.heap.size A1 zs.length (ic zs)) (hc1 : zs.length ≤ c1) (hb1 : zs.length * 8 ≤ 140737488351232) (hz : ∀ z ∈ zs, -9223372036854775808 ≤ z ∧ z ≤ 9223372036854775807) :
    Calls Tryd.prog 4 #[.slice A0 b.length c0, .slice A1 zs.length c1] w fun e w' => e = .returned (.bool true) ∧ Below w.heap.size w w' := by
  have HE := Lib.hid henv
  have HR0 := Lib.hid r0
  have HR1 := Lib.hid r1
  clear henv r0 r1 hz
  by_cases h1 : 500 < b.length
  · go_enter Tryd.func4, Tryd.ntmps4
    go_wp2_with (go_at_call 13; refine (awake_any w HE.out).mono ?_; rintro e w1 ⟨rfl, hb1⟩; have HB1 := Lib.hid hb1; clear hb1)
    go_ret
    exact ⟨rfl, HB1.out⟩
  · by_cases h2 : 30 < zs.length
    · go_enter Tryd.func4, Tryd.ntmps4
      go_wp2_with (go_at_call 13; refine (awake_any w HE.out).mono ?_; rintro e w1 ⟨rfl, hb1⟩; have HB1 := Lib.hid hb1; clear hb1)
      go_ret
      exact ⟨rfl, HB1.out⟩
    · go_enter Tryd.func4, Tryd.ntmps4
      go_wp2_with (first
        | (go_at_call 13; refine (awake_any w1 (HE.out.below HB1.out)).mono ?_; rintro e w2 ⟨rfl, hb2⟩; have HB2 := Lib.hid (HB1.out.trans (hb2.mono HB1.out.size)); clear hb2)
        | (go_at_call 14; refine (encodes_at A0 A1 c0 b.length c1 zs.length b zs w rfl rfl HR0.out HR1.out hc0 (by omega) (by omega) HE.out).mono ?_; rintro e w1 ⟨rfl, hb1⟩; have HB1 := Lib.hid hb1; clear hb1))
      go_ret
      exact ⟨rfl, HB2.out⟩
end Go.Proofs.YtkjibnhihdbmdaaDoor
