/-
  The reference gaugerref19: a size.
-/
import Derived.Test.YtkjibnhihdbmdaaDoorChunkRl
import Derived.Test.YtkjibnhihdbmdaaDoorChunkRd
set_option linter.unusedVariables false
set_option linter.unusedSimpArgs false
namespace Go.Proofs.YtkjibnhihdbmdaaDoor
open Go.RowKit
def SizePost (L nb : Nat) (l : List UInt8) (at_ : Nat) (vb vt : Value) (w : World) (e : Ending) (w' : World) : Prop :=
  Below w.heap.size w w' ∧ match sizeL (65536 - nb) (l.drop at_) 0 0 at_ with
    | .stop a b => ∃ vn, e = .returned (.tuple #[vn, rgV a b false vb vt, .bool false])
    | .ok n _ a => e = .returned (.tuple #[.int .i64 (n : Int), rgV a 0 false vb vt, .bool true])
theorem sizeL_nil (room n k a : Nat) : sizeL room [] n k a = .stop a 0 := by rw [sizeL.eq_def]
theorem sizeL_bad {room n k a : Nat} {y : UInt8} {l : List UInt8} (hd : dig y = 16) (h : k = 0 ∨ y ≠ 59 ∧ y ≠ 13) : sizeL room (y :: l) n k a = .stop a 190 := by rw [sizeL.eq_def]; simp only [hd, if_true]; rw [if_pos h]
theorem sizeL_stop {room n k a a' b' : Nat} {y : UInt8} {l : List UInt8} (hd : dig y = 16) (h : ¬(k = 0 ∨ y ≠ 59 ∧ y ≠ 13)) (hl : lineL (y :: l) [] a = .stop a' b') : sizeL room (y :: l) n k a = .stop a' b' := by rw [sizeL.eq_def]; simp only [hd, if_true]; rw [if_neg h, hl]
theorem sizeL_line {room n k a a' : Nat} {o r : List UInt8} {y : UInt8} {l : List UInt8} (hd : dig y = 16) (h : ¬(k = 0 ∨ y ≠ 59 ∧ y ≠ 13)) (hl : lineL (y :: l) [] a = .ok o r a') : sizeL room (y :: l) n k a = .ok n r a' := by rw [sizeL.eq_def]; simp only [hd, if_true]; rw [if_neg h, hl]
theorem sizeL_long {room n k a : Nat} {y : UInt8} {l : List UInt8} (hd : dig y ≠ 16) (h : k = 8 ∨ room < 16 * n + dig y) : sizeL room (y :: l) n k a = .stop a 3 := by rw [sizeL.eq_def]; simp only [hd, if_false]; rw [if_pos h]
theorem sizeL_go {room n k a : Nat} {y : UInt8} {l : List UInt8} (hd : dig y ≠ 16) (h : ¬(k = 8 ∨ room < 16 * n + dig y)) : sizeL room (y :: l) n k a = sizeL room l (16 * n + dig y) (k + 1) (a + 1) := by rw [sizeL.eq_def]; simp only [hd, if_false]; rw [if_neg h]
set_option maxRecDepth 100000 in
set_option maxHeartbeats 4000000 in
theorem size_at (A : Option Addr) (c L : Nat) (l : List UInt8) (at_ : Nat) (Ab : Option Addr) (nb cb : Nat) (At : Option Addr) (nt ct : Nat) (w : World) (hL : l.length = L) (hr : Rd w w.heap.size A L (bc l)) (ha : at_ ≤ L) (hl : L ≤ 140737488355328) (hnb : nb ≤ 65536) :
    Calls Tryd.prog 63 #[.slice A L c, rgV at_ 0 false (.slice Ab nb cb) (.slice At nt ct)] w (SizePost L nb l at_ (.slice Ab nb cb) (.slice At nt ct) w) := by
  obtain ⟨room, hroom⟩ : ∃ room, room = 65536 - nb := ⟨_, rfl⟩
  have hri : (65536 : Int) - (nb : Int) = (room : Int) := by omega
  have hrm : room ≤ 65536 := by omega
  have HRM := Lib.hid hroom
  unfold rgV
  have HR := Lib.hid hr
  have HL := Lib.hid hL
  clear hr hL hroom
  go_enter Tryd.func63, Tryd.ntmps63
  go_wp2_with fail
  have hb0 : Below w.heap.size w ((w.alloc (.cells (rg5 at_ 0 false (.slice Ab nb cb) (.slice At nt ct)).toArray 76)).alloc (.cells zero5.toArray 76)) := below_two _ _
  go_loopw [7, 8] (fun v7 v8 wr => ∃ (i n k : Nat), i ≤ L ∧ n ≤ 65536 ∧ k ≤ 8 ∧ v7 = .int .i64 (n : Int) ∧ v8 = .int .i64 (k : Int) ∧ Hid (Bx wr w.heap.size (rg5 i 0 false (.slice Ab nb cb) (.slice At nt ct))) ∧ Hid (Bx wr (w.heap.size + 1) zero5) ∧ Hid (sizeL room (l.drop at_) 0 0 at_ = sizeL room (l.drop i) n k i) ∧ Hid (Below w.heap.size w wr)) (fun v7 v8 _ => 20 - (intOf v8).toNat)
  case atStart =>
    refine ⟨at_, 0, 0, ha, by decide, by decide, rfl, rfl, Lib.hid ((Bx.new w _).alloc _), Lib.hid ?_, Lib.hid rfl, Lib.hid hb0⟩
    have := Bx.new (w.alloc (.cells (rg5 at_ 0 false (.slice Ab nb cb) (.slice At nt ct)).toArray 76)) zero5
    rw [show (w.alloc (.cells (rg5 at_ 0 false (.slice Ab nb cb) (.slice At nt ct)).toArray 76)).heap.size = w.heap.size + 1 by simp] at this
    exact this
  case round =>
    clear hb0
    obtain ⟨i, n, k, hi1, hn, hk, rfl, rfl, HG, HZ, HE, HB⟩ := hrel
    obtain ⟨hcg0, hcg1, hcg2, hcg3, hcg4⟩ := HG.out.cells
    obtain ⟨hfg0, hfg1, hfg2, hfg3, hfg4⟩ := HG.out.frees
    obtain ⟨hcz0, hcz1, hcz2, hcz3, hcz4⟩ := HZ.out.cells
    obtain ⟨hfz0, hfz1, hfz2, hfz3, hfz4⟩ := HZ.out.frees
    have hlt := HG.out.lt
    have hlt2 := HZ.out.lt
    rcases Nat.lt_or_ge i L with hkl | hkl
    · obtain ⟨y, hy⟩ : ∃ y, l[i]? = some y := ⟨l[i]'(by have := HL.out; omega), List.getElem?_eq_getElem (by have := HL.out; omega)⟩
      have hdk : l.drop i = y :: l.drop (i + 1) := by
        obtain ⟨h1, h2⟩ := List.getElem?_eq_some_iff.1 hy
        rw [List.drop_eq_getElem_cons h1, h2]
      have HRr := Lib.hid (rd_step HR.out HB.out)
      obtain ⟨b, o, rfl, hb1, hcells⟩ := (HR.out.below HB.out).at_ (k := i) hkl
      have hx := hcells i (.int .u8 (y.toNat : Int)) (by simp [bc, hy])
      rw [hdk] at HE
      have HDK := Lib.hid hdk
      clear hcells hdk hy
      have hdl := dig_le y
      by_cases hd : dig y = 16
      · have hdi : (dig y : Int) = 16 := by omega
        by_cases hq : k = 0 ∨ y ≠ 59 ∧ y ≠ 13
        · have HF := Lib.hid (HE.out.trans (sizeL_bad hd hq))
          clear HE HDK
          by_cases hkz : k = 0
          · subst hkz
            clear hq
            go_wp2_with (first | (go_at_call 80; refine (rdigit_at y wr).mono ?_; rintro e w1 ⟨rfl, hw⟩; rw [hw]; clear hw))
            go_region
            go_wp2_with fail
            refine bodyPost_ret (res3 Tryd.results63 _ _ (w.heap.size + 1) _ _ _ rfl rfl rfl (set5_bx (HZ.out.setO (by omega) 1 (.int .i64 190)) rfl _ _ _ _ _).drew rfl) rfl ?_
            unfold SizePost
            rw [← HRM.out, HF.out]
            exact ⟨((HB.out.setCell (Nat.le_refl _) _).trans (set5_below (by omega) _ _ _ _ _)).drew, _, rfl⟩
          · obtain ⟨h59, h13⟩ := hq.resolve_left hkz
            have hk0 : ((k : Int) == 0) = false := beq_eq_false_iff_ne.2 (by omega)
            have hn59 : ((y.toNat : Int) != 59) = true := bne_iff_ne.2 (fun e => h59 (UInt8.toNat_inj.1 (show y.toNat = (59 : UInt8).toNat by have : (59 : UInt8).toNat = 59 := rfl; omega)))
            have hn13 : ((y.toNat : Int) != 13) = true := bne_iff_ne.2 (fun e => h13 (UInt8.toNat_inj.1 (show y.toNat = (13 : UInt8).toNat by have : (13 : UInt8).toNat = 13 := rfl; omega)))
            clear h59 h13 hq hkz
            go_wp2_with (first | (go_at_call 80; refine (rdigit_at y wr).mono ?_; rintro e w1 ⟨rfl, hw⟩; rw [hw]; clear hw))
            go_region
            go_wp2_with fail
            refine bodyPost_ret (res3 Tryd.results63 _ _ (w.heap.size + 1) _ _ _ rfl rfl rfl (set5_bx (HZ.out.setO (by omega) 1 (.int .i64 190)) rfl _ _ _ _ _).drew rfl) rfl ?_
            unfold SizePost
            rw [← HRM.out, HF.out]
            exact ⟨((HB.out.setCell (Nat.le_refl _) _).trans (set5_below (by omega) _ _ _ _ _)).drew, _, rfl⟩
        · have hk0 : ((k : Int) == 0) = false := beq_eq_false_iff_ne.2 (by omega)
          have hy2 : y = 59 ∨ y = 13 := by
            by_cases h1 : y = 59
            · exact .inl h1
            · by_cases h2 : y = 13
              · exact .inr h2
              · exact absurd (.inr ⟨h1, h2⟩) hq
          have HD := Lib.hid hd
          have HQ := Lib.hid hq
          clear hq hd
          cases hll : lineL (y :: l.drop (i + 1)) [] i with
          | stop a' b' =>
            have HLL := Lib.hid (show lineL (l.drop i) [] i = .stop a' b' by rw [HDK.out]; exact hll)
            have HF := Lib.hid (HE.out.trans (sizeL_stop HD.out HQ.out hll))
            clear HE hll HDK
            rcases hy2 with rfl | rfl
            · go_wp2_with (first
                | (go_at_call 81; refine (line_at (some ⟨b, o, none⟩) c L l i Ab nb cb At nt ct wr HL.out HRr.out (by omega) hl).mono ?_; rintro e w1 ⟨hb1, hm⟩; rw [HLL.out] at hm; obtain ⟨vl, rfl⟩ := hm; have hs1 := hb1.size; have HZ1 := Lib.hid (HZ.out.below hb1 hlt2); have HB1 := Lib.hid (HB.out.trans (hb1.mono HB.out.size)); obtain ⟨hcy0, hcy1, hcy2, hcy3, hcy4⟩ := HZ1.out.cells; obtain ⟨hfy0, hfy1, hfy2, hfy3, hfy4⟩ := HZ1.out.frees; have hlt1 : w.heap.size + 1 < w1.heap.size := (by omega); clear hb1)
                | (go_at_call 80; refine (rdigit_at 59 wr).mono ?_; rintro e w1 ⟨rfl, hw⟩; rw [hw]; clear hw))
              go_region
              go_wp2_with fail
              refine bodyPost_ret (res3 Tryd.results63 _ _ (w.heap.size + 1) _ _ _ rfl rfl rfl ((set5_bx HZ1.out rfl _ _ _ _ _).alloc _).drew rfl) rfl ?_
              unfold SizePost
              rw [← HRM.out, HF.out]
              exact ⟨(below_al (HB1.out.trans (set5_below (by omega) _ _ _ _ _)) _).drew, _, rfl⟩
            · go_wp2_with (first
                | (go_at_call 81; refine (line_at (some ⟨b, o, none⟩) c L l i Ab nb cb At nt ct wr HL.out HRr.out (by omega) hl).mono ?_; rintro e w1 ⟨hb1, hm⟩; rw [HLL.out] at hm; obtain ⟨vl, rfl⟩ := hm; have hs1 := hb1.size; have HZ1 := Lib.hid (HZ.out.below hb1 hlt2); have HB1 := Lib.hid (HB.out.trans (hb1.mono HB.out.size)); obtain ⟨hcy0, hcy1, hcy2, hcy3, hcy4⟩ := HZ1.out.cells; obtain ⟨hfy0, hfy1, hfy2, hfy3, hfy4⟩ := HZ1.out.frees; have hlt1 : w.heap.size + 1 < w1.heap.size := (by omega); clear hb1)
                | (go_at_call 80; refine (rdigit_at 13 wr).mono ?_; rintro e w1 ⟨rfl, hw⟩; rw [hw]; clear hw))
              go_region
              go_wp2_with fail
              refine bodyPost_ret (res3 Tryd.results63 _ _ (w.heap.size + 1) _ _ _ rfl rfl rfl ((set5_bx HZ1.out rfl _ _ _ _ _).alloc _).drew rfl) rfl ?_
              unfold SizePost
              rw [← HRM.out, HF.out]
              exact ⟨(below_al (HB1.out.trans (set5_below (by omega) _ _ _ _ _)) _).drew, _, rfl⟩
          | ok o' r' a' =>
            have HLL := Lib.hid (show lineL (l.drop i) [] i = .ok o' r' a' by rw [HDK.out]; exact hll)
            have HF := Lib.hid (HE.out.trans (sizeL_line HD.out HQ.out hll))
            clear HE hll HDK
            rcases hy2 with rfl | rfl
            · go_wp2_with (first
                | (go_at_call 81; refine (line_at (some ⟨b, o, none⟩) c L l i Ab nb cb At nt ct wr HL.out HRr.out (by omega) hl).mono ?_; rintro e w1 ⟨hb1, hm⟩; rw [HLL.out] at hm; obtain ⟨A', c', hc', rfl, hr'⟩ := hm; have hs1 := hb1.size; have HZ1 := Lib.hid (HZ.out.below hb1 hlt2); have HB1 := Lib.hid (HB.out.trans (hb1.mono HB.out.size)); obtain ⟨hcy0, hcy1, hcy2, hcy3, hcy4⟩ := HZ1.out.cells; obtain ⟨hfy0, hfy1, hfy2, hfy3, hfy4⟩ := HZ1.out.frees; have hlt1 : w.heap.size + 1 < w1.heap.size := (by omega); clear hb1)
                | (go_at_call 80; refine (rdigit_at 59 wr).mono ?_; rintro e w1 ⟨rfl, hw⟩; rw [hw]; clear hw))
              go_region
              go_wp2_with fail
              refine bodyPost_ret (res3 Tryd.results63 _ _ (w.heap.size + 1) _ _ _ rfl rfl rfl ((set5_bx HZ1.out rfl _ _ _ _ _).alloc _).drew rfl) rfl ?_
              unfold SizePost
              rw [← HRM.out, HF.out]
              exact ⟨(below_al (HB1.out.trans (set5_below (by omega) _ _ _ _ _)) _).drew, rfl⟩
            · go_wp2_with (first
                | (go_at_call 81; refine (line_at (some ⟨b, o, none⟩) c L l i Ab nb cb At nt ct wr HL.out HRr.out (by omega) hl).mono ?_; rintro e w1 ⟨hb1, hm⟩; rw [HLL.out] at hm; obtain ⟨A', c', hc', rfl, hr'⟩ := hm; have hs1 := hb1.size; have HZ1 := Lib.hid (HZ.out.below hb1 hlt2); have HB1 := Lib.hid (HB.out.trans (hb1.mono HB.out.size)); obtain ⟨hcy0, hcy1, hcy2, hcy3, hcy4⟩ := HZ1.out.cells; obtain ⟨hfy0, hfy1, hfy2, hfy3, hfy4⟩ := HZ1.out.frees; have hlt1 : w.heap.size + 1 < w1.heap.size := (by omega); clear hb1)
                | (go_at_call 80; refine (rdigit_at 13 wr).mono ?_; rintro e w1 ⟨rfl, hw⟩; rw [hw]; clear hw))
              go_region
              go_wp2_with fail
              refine bodyPost_ret (res3 Tryd.results63 _ _ (w.heap.size + 1) _ _ _ rfl rfl rfl ((set5_bx HZ1.out rfl _ _ _ _ _).alloc _).drew rfl) rfl ?_
              unfold SizePost
              rw [← HRM.out, HF.out]
              exact ⟨(below_al (HB1.out.trans (set5_below (by omega) _ _ _ _ _)) _).drew, rfl⟩
      · have hd16 : ((dig y : Int) == 16) = false := beq_eq_false_iff_ne.2 (by omega)
        have hw1 : IntKind.i64.wrap (16 * (n : Int) + (dig y : Int)) = 16 * (n : Int) + (dig y : Int) := IntWalk.i64_in _ (by omega)
        by_cases hq : k = 8 ∨ room < 16 * n + dig y
        · have HF := Lib.hid (HE.out.trans (sizeL_long hd hq))
          clear HE HDK
          by_cases hkz : k = 8
          · subst hkz
            clear hq
            go_wp2_with (first | (go_at_call 80; refine (rdigit_at y wr).mono ?_; rintro e w1 ⟨rfl, hw⟩; rw [hw]; clear hw))
            go_region
            go_wp2_with fail
            refine bodyPost_ret (res3 Tryd.results63 _ _ (w.heap.size + 1) _ _ _ rfl rfl rfl (set5_bx (HZ.out.setO (by omega) 1 (.int .i64 3)) rfl _ _ _ _ _).drew rfl) rfl ?_
            unfold SizePost
            rw [← HRM.out, HF.out]
            exact ⟨((HB.out.setCell (Nat.le_refl _) _).trans (set5_below (by omega) _ _ _ _ _)).drew, _, rfl⟩
          · have hgt := decide_eq_true (show (room : Int) < 16 * (n : Int) + (dig y : Int) by have := hq.resolve_left hkz; omega)
            have hk8 : ((k : Int) == 8) = false := beq_eq_false_iff_ne.2 (by omega)
            clear hq hkz
            go_wp2_with (first | (go_at_call 80; refine (rdigit_at y wr).mono ?_; rintro e w1 ⟨rfl, hw⟩; rw [hw]; clear hw))
            go_region
            go_wp2_with fail
            refine bodyPost_ret (res3 Tryd.results63 _ _ (w.heap.size + 1) _ _ _ rfl rfl rfl (set5_bx (HZ.out.setO (by omega) 1 (.int .i64 3)) rfl _ _ _ _ _).drew rfl) rfl ?_
            unfold SizePost
            rw [← HRM.out, HF.out]
            exact ⟨((HB.out.setCell (Nat.le_refl _) _).trans (set5_below (by omega) _ _ _ _ _)).drew, _, rfl⟩
        · obtain ⟨hq1, hq2⟩ := not_or.1 hq
          have hk8 : ((k : Int) == 8) = false := beq_eq_false_iff_ne.2 (by omega)
          have hgt : decide ((room : Int) < 16 * (n : Int) + (dig y : Int)) = false := decide_eq_false (by omega)
          have hf := HE.out.trans (sizeL_go hd hq)
          have hnn : 16 * n + dig y ≤ 65536 := by omega
          have HF := Lib.hid hf
          clear hf HE HDK hq hq2
          go_wp2_with (first | (go_at_call 80; refine (rdigit_at y wr).mono ?_; rintro e w1 ⟨rfl, hw⟩; rw [hw]; clear hw))
          have hg4 := HG.out.set_ 0 (.int .i64 ((i : Int) + 1))
          have hz4 := HZ.out.setO (g' := w.heap.size) (by omega) 0 (.int .i64 ((i : Int) + 1))
          have hbb := HB.out.setCell (show w.heap.size ≤ (⟨w.heap.size, 0, none⟩ : Addr).block from Nat.le_refl _) (.int .i64 ((i : Int) + 1))
          have hff := HF.out
          go_roundw
          case rel => exact ⟨i + 1, 16 * n + dig y, k + 1, by omega, hnn, by omega, by go_num, by go_num, Lib.hid hg4, Lib.hid hz4, Lib.hid hff, Lib.hid hbb⟩
          case measure => simp [intOf]; omega
    · obtain rfl : i = L := by omega
      have HF := Lib.hid (show sizeL room (l.drop at_) 0 0 at_ = .stop i 0 by rw [HE.out, List.drop_of_length_le (by have := HL.out; omega)]; exact sizeL_nil _ _ _ _)
      clear HE
      go_wp2_with fail
      go_region
      go_wp2_with fail
      refine bodyPost_ret (res3 Tryd.results63 _ _ (w.heap.size + 1) _ _ _ rfl rfl rfl (set5_bx HZ.out rfl _ _ _ _ _).drew rfl) rfl ?_
      unfold SizePost
      rw [← HRM.out, HF.out]
      exact ⟨(HB.out.trans (set5_below (by omega) _ _ _ _ _)).drew, _, rfl⟩
end Go.Proofs.YtkjibnhihdbmdaaDoor
