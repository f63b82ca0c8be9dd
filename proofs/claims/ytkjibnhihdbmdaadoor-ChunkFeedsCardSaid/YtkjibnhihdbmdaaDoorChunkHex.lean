/-
  Numbers in hexadecimal: strconv.AppendInt at base 16.
-/
import Derived.Test.YtkjibnhihdbmdaaDoorSl
import Derived.Test.YtkjibnhihdbmdaaDoorChunkE
import Derived.IntWalk
set_option linter.unusedVariables false
set_option linter.unusedSimpArgs false
namespace Go.Proofs.YtkjibnhihdbmdaaDoor
open Go.RowKit
/-- the cells of package-level variables that the code of this seat reads -/
def TabOk (w : World) : Prop := w.cell? ⟨5, 15, none⟩ = some (.int .u8 4)
theorem TabOk.below {w w' : World} (h : TabOk w) (hb : Below w.heap.size w w') : TabOk w' := (hb.cell (World.block_lt_of_cell? _ _ h)).trans h
theorem Gr.before {w w1 w2 : World} {v v' : Value} (h : Gr w1 w2 v v') (hb : Below w.heap.size w w1) : Gr w w2 v v' := by
  refine ⟨⟨h.1.os.trans hb.os, h.1.tape.trans hb.tape, h.1.output.trans hb.output, Nat.le_trans hb.size h.1.size, fun i hi hne => (h.1.block i (Nat.lt_of_lt_of_le hi hb.size) hne).trans (hb.block i hi)⟩, fun g hg => ?_⟩
  rcases h.2 g hg with h1 | h1
  · exact .inl h1
  · exact .inr (Nat.le_trans hb.size h1)
set_option maxRecDepth 100000 in
theorem tz64_16 (w : World) (ht : TabOk w) : Calls Tryd.prog 109 #[.int .u64 16] w fun e w' => e = .returned (.int .i64 4) ∧ w' = w := by
  unfold TabOk at ht
  have e1 : IntKind.u64.wrap (-16) = 18446744073709551600 := by decide +kernel
  have e2 : bits BinOp.and IntKind.u64 16 18446744073709551600 = 16 := by decide +kernel
  have e3 : IntKind.u64.wrap (16 * 285870213051353865) = 4573923408821661840 := by decide +kernel
  go_enter Tryd.func109, Tryd.ntmps109
  go_wp2
  go_ret
  exact ⟨rfl, rfl⟩
set_option maxRecDepth 100000 in
theorem tz_16 (w : World) (ht : TabOk w) : Calls Tryd.prog 104 #[.int .u64 16] w fun e w' => e = .returned (.int .i64 4) ∧ w' = w := by
  have HT := Lib.hid ht
  clear ht
  go_enter Tryd.func104, Tryd.ntmps104
  go_wp2_with (go_at_call 109; refine (tz64_16 w HT.out).mono ?_; rintro e w ⟨rfl, rfl⟩)
  go_ret
  exact ⟨rfl, rfl⟩
set_option maxRecDepth 100000 in
theorem pow2_16 (w : World) : Calls Tryd.prog 103 #[.int .i64 16] w fun e w' => e = .returned (.bool true) ∧ w' = w := by
  go_enter Tryd.func103, Tryd.ntmps103
  go_wp2
  go_ret
  exact ⟨rfl, rfl⟩
theorem own_new (w : World) (xs : List Value) (t : TypeId) : Own (w.alloc (.cells xs.toArray t)) w.heap.size xs := by
  intro j u hu
  have h1 := World.cell?_alloc_mark w xs.toArray t (0, 0) j
  have h2 := World.frozen?_alloc_mark w xs.toArray t 0 0 j
  refine ⟨h1.trans (by simpa using hu), h2.trans (by simp)⟩
theorem and15 (m : Nat) (h : m < 18446744073709551616) : bits BinOp.and IntKind.u64 (m : Int) 15 = ((m % 16 : Nat) : Int) := by
  show IntKind.u64.wrap ((BitVec.ofInt 64 (m : Int) &&& BitVec.ofInt 64 15).toNat : Int) = _
  have e : (BitVec.ofInt 64 (15 : Int)).toNat = 15 := by decide
  rw [BitVec.toNat_and, ofInt_u64 m (by omega), e]
  have e2 : m &&& 15 = m % 16 := Nat.and_two_pow_sub_one_eq_mod m 4
  rw [e2]
  have : m % 16 < 16 := Nat.mod_lt _ (by omega)
  exact IntWalk.u64_in _ (by omega)
theorem drop_set (cs : List Value) (k : Nat) (v : Value) (tail : List UInt8) (h : cs.drop (k + 1) = bc tail) (hlt : k < cs.length) (c : UInt8) (hv : v = .int .u8 (c.toNat : Int)) : (cs.set k v).drop k = bc (c :: tail) := by
  rw [List.drop_set, if_neg (by omega), Nat.sub_self, List.drop_eq_getElem_cons hlt, h, hv]
  rfl
def digsB : ByteArray := ⟨#[48, 49, 50, 51, 52, 53, 54, 55, 56, 57, 97, 98, 99, 100, 101, 102, 103, 104, 105, 106, 107, 108, 109, 110, 111, 112, 113, 114, 115, 116, 117, 118, 119, 120, 121, 122]⟩
theorem digs_at (d : Nat) (h : d < 16) (h2 : d < digsB.size) : Value.int .u8 (digsB[d].toNat : Int) = .int .u8 ((hexD d).toNat : Int) := by
  have : ∀ i : Fin 16, digsB.data.toList.getD i.1 0 = hexD i.1 := by decide +kernel
  have e := this ⟨d, h⟩
  have h3 : d < digsB.data.toList.length := h2
  have e2 : digsB.data.toList.getD d 0 = digsB[d] := by rw [List.getD_eq_getElem?_getD, List.getElem?_eq_getElem h3]; rfl
  rw [← e2, e]
theorem slice65 (g k : Nat) (hk : k < 65) (W : World) : (Instr.sliceAt 134 (.pointer (some ⟨g, 0, none⟩)) (some (.int .i64 (k : Int))) none none).run Tryd.prog W = .ok (.slice (some ⟨g, k, none⟩) (65 - k) (65 - k)) W := by
  have hl : Tryd.prog.arrayLen 134 = 65 := by kernel_rfl
  have he : Tryd.prog.elem 134 = 5 := by kernel_rfl
  have hz : (Go.sizeOf 5).run Tryd.prog W = .ok 1 W := by kernel_rfl
  rw [run_sliceAt_array_l (P := Tryd.prog) W 134 ⟨g, 0, none⟩ (by rw [hl, he]; exact Tryd.underlying134) .i64 (k : Int) (by omega) (by rw [hl]; omega), he, hz, hl]
  simp only [Result.andThen, slicedAt, Int.toNat_natCast, Nat.mul_one]
  rw [if_neg (by omega)]
  by_cases h0 : k = 0
  · subst h0; rfl
  · simp [Addr.add, h0]
theorem own_drop {w : World} {g : Nat} {cs : List Value} (h : Own w g cs) (k : Nat) (t : List UInt8) (ht : cs.drop k = bc t) (n : Nat) (hn : t.length = n) (hg : g < w.heap.size) : Rd w w.heap.size (some ⟨g, k, none⟩) n (bc t) := by
  subst hn
  refine ⟨by simp, fun _ => ⟨g, k, rfl, hg, fun j u hu => ?_⟩⟩
  rw [← ht, List.getElem?_drop] at hu
  exact (h (k + j) u hu).1
set_option maxRecDepth 100000 in
set_option maxHeartbeats 1000000 in
theorem fmtBits_at (A : Option Addr) (n c : Nat) (xs : List Value) (u : Nat) (w : World) (base : Nat) (hown : Ow w base 5 (.slice A n c) xs) (hB : base ≤ w.heap.size) (hu : u ≤ 65536) (hl : xs.length ≤ 70368744177664) (ht : TabOk w) :
    Calls Tryd.prog 93 #[.slice A n c, .int .u64 (u : Int), .int .i64 16, .bool false, .bool true] w fun e w' => ∃ v', e = .returned (.tuple #[v', .string ⟨#[]⟩]) ∧ Ow w' base 5 v' (xs ++ bc (hexL u)) ∧ Gr w w' (.slice A n c) v' := by
  obtain ⟨i0, hi, hz0, hz1, hz2⟩ := info_parts Tryd.clInfoByte
  have HO := Lib.hid hown
  have HT := Lib.hid ht
  clear hown ht
  have e16 : IntKind.u64.wrap (16 - 1) = 15 := by decide +kernel
  go_enter Tryd.func93, Tryd.ntmps93
  go_wp2_with (first
    | (go_at_call 103; refine (pow2_16 _).mono ?_; rintro e w ⟨rfl, rfl⟩)
    | (go_at_call 104; refine (tz_16 _ (HT.out.below ((Below.refl _ _).alloc (Nat.le_refl _) _))).mono ?_; rintro e w ⟨rfl, rfl⟩))
  obtain ⟨D, hD⟩ : ∃ D, D = (hexL u).length := ⟨_, rfl⟩
  have hD5 : D ≤ 5 := by rw [hD]; exact hexL_len 5 u (by omega) (by omega)
  have HD := Lib.hid hD
  clear hD
  go_loopw [1, 13] (fun vu vi wr => ∃ (m k : Nat) (cs : List Value) (tail : List UInt8), vu = .int .u64 m ∧ vi = .int .i64 k ∧ m ≤ 65536 ∧ k ≤ 65 ∧ Hid (Own wr w.heap.size cs) ∧ Hid (cs.length = 65) ∧ Hid (cs.drop k = bc tail) ∧ Hid (hexL u = hexL m ++ tail) ∧ Hid (tail.length + k = 65) ∧ Hid (Below w.heap.size w wr) ∧ w.heap.size < wr.heap.size) (fun vu _ _ => (intOf vu).toNat)
  case atStart => exact ⟨u, 65, _, [], rfl, rfl, hu, by omega, Lib.hid (own_new w _ _), Lib.hid rfl, Lib.hid rfl, Lib.hid (by simp), Lib.hid rfl, Lib.hid ((Below.refl _ _).alloc (Nat.le_refl _) _), by simp⟩
  case round =>
    obtain ⟨m, k, cs, tail, rfl, rfl, hm, hk, HOw, HCl, HCd, HX, HTl, HB, hgw⟩ := hrel
    have hlm : (hexL m).length + tail.length = D := by rw [HD.out, HX.out, List.length_append]
    have htk := HTl.out
    have hlp := hexL_pos m
    obtain ⟨k', rfl⟩ : ∃ k', k = k' + 1 := ⟨k - 1, by omega⟩
    have hk' : 59 < k' + 1 := by omega
    obtain ⟨x, hx⟩ : ∃ x, cs[k']? = some x := by
      have := HCl.out
      exact ⟨cs[k'], List.getElem?_eq_getElem (by omega)⟩
    have hcx := (HOw.out k' x hx).1
    have hfx := (HOw.out k' x hx).2
    have e1 : (k' : Int) + 1 - 1 = (k' : Int) := by omega
    have HX1 := Lib.hid hx
    clear hx hlm htk hlp
    by_cases h16 : 16 ≤ m
    · have hand := and15 m (by omega)
      have hd : m % 16 < 16 := Nat.mod_lt _ (by omega)
      obtain ⟨d, hde⟩ : ∃ d, d = m % 16 := ⟨_, rfl⟩
      rw [← hde] at hand hd
      have HDE := Lib.hid hde
      clear hde
      go_wp2
      go_roundw
      case rel =>
        have h36 : d < digsB.size := by show d < 36; omega
        have hX : hexL u = hexL (m / 16) ++ hexD d :: tail := by rw [HX.out, hexL_big (by omega), HDE.out]; simp
        exact ⟨m / 16, k', cs.set k' _, hexD d :: tail, by go_num, rfl, by omega, by omega, Lib.hid (HOw.out.set_ k' _), Lib.hid (by rw [List.length_set]; exact HCl.out), Lib.hid (drop_set cs k' _ tail HCd.out (by have := HCl.out; omega) _ (digs_at d (by omega) h36)), Lib.hid hX, Lib.hid (by have := HTl.out; simp; omega), Lib.hid (HB.out.setCell (Nat.le_refl _) _), by simpa using hgw⟩
      case measure => simp [intOf]; omega
    · have hm16 : m < 16 := by omega
      have h16' : decide ((16 : Int) ≤ (m : Int)) = false := by simp; omega
      have hsl := slice65 w.heap.size k' (by omega)
      have h36 : m < digsB.size := by show m < 36; omega
      have hX : hexL u = hexD m :: tail := by rw [HX.out, hexL_small hm16]; rfl
      have HX2 := Lib.hid hX
      have hlt : tail.length + 1 = 65 - k' := by have := HTl.out; omega
      have HLt := Lib.hid hlt
      have h6 : 65 - k' ≤ 6 := by omega
      clear hX hlt
      go_wp2_with (at_builtin; have hO1 := HOw.out.set_ k' (.int .u8 (digsB[m].toNat : Int)); have hR1 := own_drop hO1 k' (hexD m :: tail) (drop_set cs k' _ tail HCd.out (by have := HCl.out; omega) _ (digs_at m hm16 h36)) (65 - k') (by simp [HLt.out]) (by simpa using hgw); have hB1 := HB.out.setCell (p := ⟨w.heap.size, k', none⟩) (Nat.le_refl _) (.int .u8 (digsB[m].toNat : Int)); refine wpList_app _ rfl _ _ _ _ rfl base 5 i0 (.int .u8 0) 1 Tryd.underlying22 hi hz0 hz1 hz2 rfl (Nat.le_refl _) _ _ (HO.out.far hB1) rfl (65 - k') (bc (hexD m :: tail)) (hR1.src Tryd.underlying22 (bc_one _)) (by omega) (by simpa using Nat.le_trans hB (Nat.le_of_lt hgw)) ?_; intro v3 w3 hown3 hgr3 hsz3; rw [← HX2.out] at hown3; have hgr4 := hgr3.before hB1; clear hO1 hR1 hgr3 hB1)
      go_ret2
      exact ⟨_, rfl, hown3, hgr4⟩
set_option maxRecDepth 100000 in
theorem appUint_at (A : Option Addr) (n c : Nat) (xs : List Value) (u : Nat) (w : World) (base : Nat) (hown : Ow w base 5 (.slice A n c) xs) (hB : base ≤ w.heap.size) (hu : u ≤ 65536) (hl : xs.length ≤ 70368744177664) (ht : TabOk w) :
    Calls Tryd.prog 79 #[.slice A n c, .int .u64 (u : Int), .int .i64 16] w fun e w' => ∃ v', e = .returned v' ∧ Ow w' base 5 v' (xs ++ bc (hexL u)) ∧ Gr w w' (.slice A n c) v' := by
  have HO := Lib.hid hown
  have HT := Lib.hid ht
  clear hown ht
  go_enter Tryd.func79, Tryd.ntmps79
  go_wp2_with (go_at_call 93; refine (fmtBits_at A n c xs u w base HO.out hB hu hl HT.out).mono ?_; rintro e w1 ⟨v1, rfl, hown1, hgr1⟩)
  go_ret
  exact ⟨_, rfl, hown1, hgr1⟩
set_option maxRecDepth 100000 in
theorem appInt0_at (A : Option Addr) (n c : Nat) (xs : List Value) (u : Nat) (w : World) (base : Nat) (hown : Ow w base 5 (.slice A n c) xs) (hB : base ≤ w.heap.size) (hu : u ≤ 65536) (hl : xs.length ≤ 70368744177664) (ht : TabOk w) :
    Calls Tryd.prog 62 #[.slice A n c, .int .i64 (u : Int), .int .i64 16] w fun e w' => ∃ v', e = .returned v' ∧ Ow w' base 5 v' (xs ++ bc (hexL u)) ∧ Gr w w' (.slice A n c) v' := by
  have HO := Lib.hid hown
  have HT := Lib.hid ht
  clear hown ht
  go_enter Tryd.func62, Tryd.ntmps62
  go_wp2_with (go_at_call 79; refine (appUint_at A n c xs u w base HO.out hB hu hl HT.out).mono ?_; rintro e w1 ⟨v1, rfl, hown1, hgr1⟩)
  go_ret
  exact ⟨_, rfl, hown1, hgr1⟩
set_option maxRecDepth 100000 in
theorem appInt_at (A : Option Addr) (n c : Nat) (xs : List Value) (u : Nat) (w : World) (base : Nat) (hown : Ow w base 5 (.slice A n c) xs) (hB : base ≤ w.heap.size) (hu : u ≤ 65536) (hl : xs.length ≤ 70368744177664) (ht : TabOk w) :
    Calls Tryd.prog 44 #[.slice A n c, .int .i64 (u : Int), .int .i64 16] w fun e w' => ∃ v', e = .returned v' ∧ Ow w' base 5 v' (xs ++ bc (hexL u)) ∧ Gr w w' (.slice A n c) v' := by
  have HO := Lib.hid hown
  have HT := Lib.hid ht
  clear hown ht
  go_enter Tryd.func44, Tryd.ntmps44
  go_wp2_with (go_at_call 62; refine (appInt0_at A n c xs u w base HO.out hB hu hl HT.out).mono ?_; rintro e w1 ⟨v1, rfl, hown1, hgr1⟩)
  go_ret
  exact ⟨_, rfl, hown1, hgr1⟩
end Go.Proofs.YtkjibnhihdbmdaaDoor
