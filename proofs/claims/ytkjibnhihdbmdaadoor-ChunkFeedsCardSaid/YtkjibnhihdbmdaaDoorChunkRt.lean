/-
  The reference gaugerref19: the trailers.
-/
import Derived.Test.YtkjibnhihdbmdaaDoorChunkRl
import Derived.Test.YtkjibnhihdbmdaaDoorChunkS4
set_option linter.unusedVariables false
set_option linter.unusedSimpArgs false
namespace Go.Proofs.YtkjibnhihdbmdaaDoor
open Go.RowKit
theorem res1 {fn : Func} {q : Tmp} (h : fn.results = #[.cell q 76]) (tmps : Array Value) (W : World) (g : Nat) (cs : List Value) (hq : tmps[q]? = some (.pointer (some ⟨g, 0, none⟩))) (hx : Bx W g cs) (hn : cs.length = 5) :
    (results fn tmps).run Tryd.prog W = .ok (.agg cs.toArray) W := by
  simp [results, h, hq, asAddr, hx.load hn]
def atOf (w : World) (g : Nat) : Nat := match w.cell? ⟨g, 0, none⟩ with
  | some v => (intOf v).toNat
  | none => 0
theorem atOf_bx {w : World} {g a : Nat} {b : Int} {d : Bool} {vb vt : Value} (h : Bx w g (rg5 a b d vb vt)) : atOf w g = a := by
  unfold atOf
  rw [h.cell 0]
  simp [intOf]
def TrailPost (R : Rding) (vb : Value) (w : World) (e : Ending) (w' : World) : Prop :=
  Below w.heap.size w w' ∧ ∃ At' ct', R.trs.length ≤ ct' ∧ e = .returned (rgV R.At R.bad R.done vb (.slice At' R.trs.length ct')) ∧ Ow w' w.heap.size 9 (.slice At' R.trs.length ct') (sc R.trs)
theorem trailL_nil (f a : Nat) (body : List UInt8) (trs : List (List UInt8)) : trailL (f + 1) [] a body trs = ⟨a, 0, false, body, trs⟩ := by rw [trailL.eq_def]
theorem trailL_13n (f a : Nat) (body : List UInt8) (trs : List (List UInt8)) : trailL (f + 1) [13] a body trs = ⟨a + 1, 0, false, body, trs⟩ := by rw [trailL.eq_def]; simp
theorem trailL_13o (f a : Nat) (body l : List UInt8) (trs : List (List UInt8)) : trailL (f + 1) (13 :: 10 :: l) a body trs = ⟨a + 2, 0, true, body, trs⟩ := by rw [trailL.eq_def]; simp
theorem trailL_13x {d : UInt8} (f a : Nat) (body l : List UInt8) (trs : List (List UInt8)) (h : d ≠ 10) : trailL (f + 1) (13 :: d :: l) a body trs = ⟨a + 1, 191, false, body, trs⟩ := by rw [trailL.eq_def]; simp [h]
theorem trailL_many {y : UInt8} (f a : Nat) (body l : List UInt8) (trs : List (List UInt8)) (h : y ≠ 13) (h2 : y ≠ 10) (h3 : trs.length = 16) : trailL (f + 1) (y :: l) a body trs = ⟨a, 5, false, body, trs⟩ := by rw [trailL.eq_def]; simp [h, h2, h3]
theorem trailL_stop {y : UInt8} {f a : Nat} {body l : List UInt8} {trs : List (List UInt8)} (h : y ≠ 13) (h2 : ¬(y ≠ 10 ∧ trs.length = 16)) {a' b' : Nat} (hl : lineL (y :: l) [] a = .stop a' b') : trailL (f + 1) (y :: l) a body trs = ⟨a', b', false, body, trs⟩ := by
  rw [trailL.eq_def]; simp only []; rw [if_neg h, if_neg h2, hl]
theorem trailL_go {y : UInt8} {f a : Nat} {body l : List UInt8} {trs : List (List UInt8)} (h : y ≠ 13) (h2 : ¬(y ≠ 10 ∧ trs.length = 16)) {o r : List UInt8} {a' : Nat} (hl : lineL (y :: l) [] a = .ok o r a') : trailL (f + 1) (y :: l) a body trs = trailL f r a' body (trs ++ [o]) := by
  rw [trailL.eq_def]; simp only []; rw [if_neg h, if_neg h2, hl]
theorem line_rest_drop : ∀ (l own : List UInt8) (a : Nat) {o r : List UInt8} {a' : Nat}, lineL l own a = .ok o r a' → ∃ k, r = l.drop k ∧ a' = a + k ∧ k ≤ l.length
  | [], _, _, _, _, _, h => by cases h
  | c :: l, own, a, o, r, a', h => by
    by_cases h13 : c = 13
    · subst h13
      cases l with
      | nil => rw [lineL_13n] at h; cases h
      | cons d l =>
        by_cases h10 : d = 10
        · subst h10
          rw [lineL_13o] at h
          cases h
          exact ⟨2, rfl, rfl, by simp⟩
        · rw [lineL_13x _ _ _ h10] at h; cases h
    · by_cases h10 : c = 10
      · subst h10; rw [lineL_10] at h; cases h
      · by_cases h256 : own.length = 256
        · rw [lineL_256 h13 h10 h256] at h; cases h
        · rw [lineL_go h13 h10 h256] at h
          obtain ⟨k, h1, h2, h3⟩ := line_rest_drop l _ _ h
          exact ⟨k + 1, h1, by omega, by simp only [List.length_cons]; omega⟩
theorem line_own : ∀ (l own : List UInt8) (a : Nat) {o r : List UInt8} {a' : Nat}, own.length ≤ 256 → lineL l own a = .ok o r a' → o.length ≤ 256
  | [], _, _, _, _, _, _, h => by cases h
  | c :: l, own, a, o, r, a', ho, h => by
    by_cases h13 : c = 13
    · subst h13
      cases l with
      | nil => rw [lineL_13n] at h; cases h
      | cons d l =>
        by_cases h10 : d = 10
        · subst h10
          rw [lineL_13o] at h
          cases h
          exact ho
        · rw [lineL_13x _ _ _ h10] at h; cases h
    · by_cases h10 : c = 10
      · subst h10; rw [lineL_10] at h; cases h
      · by_cases h256 : own.length = 256
        · rw [lineL_256 h13 h10 h256] at h; cases h
        · rw [lineL_go h13 h10 h256] at h
          exact line_own l _ _ (by rw [List.length_append]; simp; omega) h
theorem set5_bxO {w : World} {g g' : Nat} {cs : List Value} (h : Bx w g' cs) (hn : g' ≠ g) (a b c d e : Value) : Bx (((((w.setCell ⟨g, 0, none⟩ a).setCell ⟨g, 1, none⟩ b).setCell ⟨g, 2, none⟩ c).setCell ⟨g, 3, none⟩ d).setCell ⟨g, 4, none⟩ e) g' cs :=
  ((((h.setO hn 0 a).setO hn 1 b).setO hn 2 c).setO hn 3 d).setO hn 4 e
/-- what is held while the trailers grow: the reading in block w1.heap.size but for its last cell -/
def K8 (w1 w8 : World) (a b c d : Value) (W : World) : Prop := Below w1.heap.size w1 W ∧ w8.heap.size ≤ W.heap.size ∧ ∃ v, Bx W w1.heap.size [a, b, c, d, v]
theorem K8.alloc {w1 w8 W : World} {a b c d : Value} (h : K8 w1 w8 a b c d W) (o : Obj) : K8 w1 w8 a b c d (W.alloc o) := ⟨h.1.alloc h.1.size o, Nat.le_trans h.2.1 (by simp), h.2.2.elim fun v hv => ⟨v, hv.alloc o⟩⟩
theorem K8.drew {w1 w8 W : World} {a b c d : Value} (h : K8 w1 w8 a b c d W) : K8 w1 w8 a b c d W.drew := ⟨h.1.drew, h.2.1, h.2.2⟩
theorem K8.undrew {w1 w8 W : World} {a b c d : Value} (h : K8 w1 w8 a b c d W.drew) : K8 w1 w8 a b c d W := ⟨⟨h.1.os, h.1.tape, h.1.output, h.1.size, h.1.block⟩, h.2.1, h.2.2⟩
theorem K8.allocD {w1 w8 W : World} {a b c d : Value} (h : K8 w1 w8 a b c d W.drew) (o : Obj) : K8 w1 w8 a b c d (W.alloc o).drew := (h.undrew.alloc o).drew
theorem K8.set_ {w1 w8 W : World} {a b c d : Value} (h : K8 w1 w8 a b c d W) (u : Value) : K8 w1 w8 a b c d (W.setCell ⟨w1.heap.size, 4, none⟩ u) := ⟨h.1.setCell (Nat.le_refl _) u, by simpa using h.2.1, h.2.2.elim fun v hv => ⟨u, by simpa using hv.set_ 4 u⟩⟩
theorem K8.setD {w1 w8 W : World} {a b c d : Value} (h : K8 w1 w8 a b c d W.drew) (u : Value) : K8 w1 w8 a b c d (W.setCell ⟨w1.heap.size, 4, none⟩ u).drew := (h.undrew.set_ u).drew
theorem K8.step {w1 w8 W w3 : World} {a b c d : Value} (h : K8 w1 w8 a b c d W) (hb : Below W.heap.size W w3) : K8 w1 w8 a b c d w3 := ⟨h.1.trans (hb.mono h.1.size), Nat.le_trans h.2.1 hb.size, h.2.2.elim fun v hv => ⟨v, hv.below hb hv.lt⟩⟩
theorem K8.grow {w1 w8 W w3 : World} {a b c d : Value} {v v' : Value} (h : K8 w1 w8 a b c d W) (hg : Gr W w3 v v') (hv : ∀ g, v.ownBlock = some g → w8.heap.size ≤ g) (h8 : w1.heap.size < w8.heap.size) : K8 w1 w8 a b c d w3 :=
  ⟨h.1.trans (hg.below (fun g hq => Nat.le_trans (Nat.le_of_lt h8) (hv g hq)) h.1.size), Nat.le_trans h.2.1 (hg.below hv h.2.1).size, h.2.2.elim fun x hx => ⟨x, hx.below (hg.below hv h.2.1) h8⟩⟩
set_option maxRecDepth 100000 in
set_option maxHeartbeats 4000000 in
theorem rtrailers_at (A : Option Addr) (c L : Nat) (l : List UInt8) (at_ : Nat) (Ab : Option Addr) (nb cb : Nat) (body : List UInt8) (w : World) (hL : l.length = L) (hr : Rd w w.heap.size A L (bc l)) (ha : at_ ≤ L) (hl : L ≤ 140737488355328) (F : Nat) (hF : L - at_ < F) :
    Calls Tryd.prog 64 #[.slice A L c, rgV at_ 0 false (.slice Ab nb cb) (.slice none 0 0)] w (TrailPost (trailL F (l.drop at_) at_ body []) (.slice Ab nb cb) w) := by
  obtain ⟨i0, hi, hz0, hz1, hz2⟩ := info_parts Tryd.infoStr1
  obtain ⟨R, hR⟩ : ∃ R, R = trailL F (l.drop at_) at_ body [] := ⟨_, rfl⟩
  rw [← hR]
  unfold rgV
  have HR := Lib.hid hr
  have HL := Lib.hid hL
  have HRd := Lib.hid hR
  clear hr hL hR
  go_enter Tryd.func64, Tryd.ntmps64
  go_wp2_with fail
  have hb0 : Below w.heap.size w ((w.alloc (.cells (rg5 at_ 0 false (.slice Ab nb cb) (.slice none 0 0)).toArray 76)).alloc (.cells zero5.toArray 76)) := below_two _ _
  go_loopw [7] (fun v7 wr => ∃ (i f : Nat) (trs : List (List UInt8)) (At : Option Addr) (ct : Nat), i ≤ L ∧ L - i < f ∧ trs.length ≤ 16 ∧ trs.length ≤ ct ∧ Hid (Bx wr w.heap.size (rg5 i 0 false (.slice Ab nb cb) (.slice At trs.length ct))) ∧ Hid (Bx wr (w.heap.size + 1) zero5) ∧ Hid (Ow wr (w.heap.size + 2) 9 (.slice At trs.length ct) (sc trs)) ∧ Hid (R = trailL f (l.drop i) i body trs) ∧ Hid (Below w.heap.size w wr)) (fun v7 wr => L - atOf wr w.heap.size)
  case atStart =>
    refine ⟨at_, F, [], none, 0, ha, hF, by simp, Nat.le_refl _, Lib.hid ((Bx.new w _).alloc _), Lib.hid ?_, Lib.hid (Ow.nil _ _ _), HRd, Lib.hid hb0⟩
    have := Bx.new (w.alloc (.cells (rg5 at_ 0 false (.slice Ab nb cb) (.slice none 0 0)).toArray 76)) zero5
    rw [show (w.alloc (.cells (rg5 at_ 0 false (.slice Ab nb cb) (.slice none 0 0)).toArray 76)).heap.size = w.heap.size + 1 by simp] at this
    exact this
  case round =>
    clear hb0
    obtain ⟨i, f, trs, At, ct, hi1, hf, htr, hct, HG, HZ, HO, HE, HB⟩ := hrel
    obtain ⟨f, rfl⟩ : ∃ f', f = f' + 1 := ⟨f - 1, by omega⟩
    obtain ⟨hcg0, hcg1, hcg2, hcg3, hcg4⟩ := HG.out.cells
    obtain ⟨hfg0, hfg1, hfg2, hfg3, hfg4⟩ := HG.out.frees
    obtain ⟨hcz0, hcz1, hcz2, hcz3, hcz4⟩ := HZ.out.cells
    obtain ⟨hfz0, hfz1, hfz2, hfz3, hfz4⟩ := HZ.out.frees
    have hlt := HG.out.lt
    have hlt2 := HZ.out.lt
    rcases Nat.lt_or_ge i L with hkl | hkl
    · obtain ⟨y, hy⟩ : ∃ y, l[i]? = some y := ⟨l[i]'(by have := HL.out; omega), List.getElem?_eq_getElem (by have := HL.out; omega)⟩
      have hdk : l.drop i = y :: l.drop (i + 1) := by
        obtain ⟨h1, h2⟩ := List.getElem?_eq_some_iff.1 hy
        rw [List.drop_eq_getElem_cons h1, h2]
      have HRr := Lib.hid (rd_step HR.out HB.out)
      obtain ⟨b, o, rfl, hb1, hcells⟩ := (HR.out.below HB.out).at_ (k := i) hkl
      have hx := hcells i (.int .u8 (y.toNat : Int)) (by simp [bc, hy])
      have hE := HE.out
      rw [hdk] at hE
      have HDK := Lib.hid hdk
      clear hcells hdk hy HE
      by_cases h13 : y = 13
      · subst h13
        have HRs := Lib.hid (show Rd (wr.setCell ⟨w.heap.size, 0, none⟩ (.int .i64 ((i : Int) + 1))) (wr.setCell ⟨w.heap.size, 0, none⟩ (.int .i64 ((i : Int) + 1))).heap.size (some ⟨b, o, none⟩) L (bc l) from rd_step (w := w) HR.out (HB.out.setCell (show w.heap.size ≤ (⟨w.heap.size, 0, none⟩ : Addr).block from Nat.le_refl _) _))
        rcases Nat.lt_or_ge (i + 1) L with hk1 | hk1
        · obtain ⟨z, hz⟩ : ∃ z, l[i + 1]? = some z := ⟨l[i + 1]'(by have := HL.out; omega), List.getElem?_eq_getElem (by have := HL.out; omega)⟩
          have hdz : l.drop (i + 1) = z :: l.drop (i + 2) := by
            obtain ⟨h1, h2⟩ := List.getElem?_eq_some_iff.1 hz
            rw [List.drop_eq_getElem_cons h1, h2]
          rw [hdz] at hE
          clear hdz
          have HY := Lib.hid hz
          clear hz
          by_cases hz10 : z = 10
          · subst hz10
            have HF := Lib.hid (hE.trans (trailL_13o _ _ _ _ _))
            clear hE
            go_wp2_with (go_at_call 65; refine (wants_okI (some ⟨b, o, none⟩) c L l (i + 1) 0 false Ab nb cb At trs.length ct 10 ((i : Int) + 1) 10 (wr.setCell ⟨w.heap.size, 0, none⟩ (.int .i64 ((i : Int) + 1))) (by omega) rfl HY.out HL.out HRs.out hl).mono ?_; rintro e w1 ⟨rfl, hb1⟩; have hs1 := after_size hb1; have HZ1 := Lib.hid ((HZ.out.setO (g' := w.heap.size) (by omega) 0 (.int .i64 ((i : Int) + 1))).below hb1 (after_lt HZ.out)); have HB1 := Lib.hid (after_below HB.out hb1); have HO1 := Lib.hid ((ow_setO HO.out (g := w.heap.size) (by omega) 0 (.int .i64 ((i : Int) + 1))).far hb1); obtain ⟨hcy0, hcy1, hcy2, hcy3, hcy4⟩ := HZ1.out.cells; obtain ⟨hfy0, hfy1, hfy2, hfy3, hfy4⟩ := HZ1.out.frees; have hlt1 : w.heap.size + 1 < w1.heap.size := (by omega); clear hb1)
            refine bodyPost_ret (res1 Tryd.results64 _ _ (w.heap.size + 1) _ rfl ((set5_bx HZ1.out rfl _ _ _ _ _).alloc _) rfl) rfl ?_
            rw [HF.out]
            exact ⟨below_al (HB1.out.trans (set5_below (by omega) _ _ _ _ _)) _, At, ct, hct, rfl, (((ow_set5 HO1.out (by omega) _ _ _ _ _).alloc _)).mono (by omega)⟩
          · have HF := Lib.hid (hE.trans (trailL_13x _ _ _ _ _ hz10))
            have HN := Lib.hid hz10
            clear hE hz10
            go_wp2_with (go_at_call 65; refine (wants_noI (some ⟨b, o, none⟩) c L l (i + 1) 0 false Ab nb cb At trs.length ct 10 z ((i : Int) + 1) 10 (wr.setCell ⟨w.heap.size, 0, none⟩ (.int .i64 ((i : Int) + 1))) (by omega) rfl HY.out HN.out HL.out HRs.out hl).mono ?_; rintro e w1 ⟨rfl, hb1⟩; have hs1 := after_size hb1; have HZ1 := Lib.hid ((HZ.out.setO (g' := w.heap.size) (by omega) 0 (.int .i64 ((i : Int) + 1))).below hb1 (after_lt HZ.out)); have HB1 := Lib.hid (after_below HB.out hb1); have HO1 := Lib.hid ((ow_setO HO.out (g := w.heap.size) (by omega) 0 (.int .i64 ((i : Int) + 1))).far hb1); obtain ⟨hcy0, hcy1, hcy2, hcy3, hcy4⟩ := HZ1.out.cells; obtain ⟨hfy0, hfy1, hfy2, hfy3, hfy4⟩ := HZ1.out.frees; have hlt1 : w.heap.size + 1 < w1.heap.size := (by omega); clear hb1)
            refine bodyPost_ret (res1 Tryd.results64 _ _ (w.heap.size + 1) _ rfl ((set5_bx HZ1.out rfl _ _ _ _ _).alloc _) rfl) rfl ?_
            rw [HF.out]
            exact ⟨below_al (HB1.out.trans (set5_below (by omega) _ _ _ _ _)) _, At, ct, hct, rfl, (((ow_set5 HO1.out (by omega) _ _ _ _ _).alloc _)).mono (by omega)⟩
        · obtain rfl : i + 1 = L := by omega
          have HF := Lib.hid (show R = ⟨i + 1, 0, false, body, trs⟩ by rw [hE, List.drop_of_length_le (by have := HL.out; omega)]; exact trailL_13n _ _ _ _)
          clear hE
          go_wp2_with (go_at_call 65; refine (wants_endI (some ⟨b, o, none⟩) c (i + 1) 0 false Ab nb cb At trs.length ct 10 ((i : Int) + 1) 10 (wr.setCell ⟨w.heap.size, 0, none⟩ (.int .i64 ((i : Int) + 1))) (by omega) rfl).mono ?_; rintro e w1 ⟨rfl, hb1⟩; have hs1 := after_size hb1; have HZ1 := Lib.hid ((HZ.out.setO (g' := w.heap.size) (by omega) 0 (.int .i64 ((i : Int) + 1))).below hb1 (after_lt HZ.out)); have HB1 := Lib.hid (after_below HB.out hb1); have HO1 := Lib.hid ((ow_setO HO.out (g := w.heap.size) (by omega) 0 (.int .i64 ((i : Int) + 1))).far hb1); obtain ⟨hcy0, hcy1, hcy2, hcy3, hcy4⟩ := HZ1.out.cells; obtain ⟨hfy0, hfy1, hfy2, hfy3, hfy4⟩ := HZ1.out.frees; have hlt1 : w.heap.size + 1 < w1.heap.size := (by omega); clear hb1)
          refine bodyPost_ret (res1 Tryd.results64 _ _ (w.heap.size + 1) _ rfl ((set5_bx HZ1.out rfl _ _ _ _ _).alloc _) rfl) rfl ?_
          rw [HF.out]
          exact ⟨below_al (HB1.out.trans (set5_below (by omega) _ _ _ _ _)) _, At, ct, hct, rfl, (((ow_set5 HO1.out (by omega) _ _ _ _ _).alloc _)).mono (by omega)⟩
      · have hn13 : ((y.toNat : Int) == 13) = false := beq_eq_false_iff_ne.2 (fun e => h13 (UInt8.toNat_inj.1 (show y.toNat = (13 : UInt8).toNat by have : (13 : UInt8).toNat = 13 := rfl; omega)))
        by_cases hq : y ≠ 10 ∧ trs.length = 16
        · have hn10 : ((y.toNat : Int) != 10) = true := bne_iff_ne.2 (fun e => hq.1 (UInt8.toNat_inj.1 (show y.toNat = (10 : UInt8).toNat by have : (10 : UInt8).toNat = 10 := rfl; omega)))
          have ht16 : ((trs.length : Int) == 16) = true := by simp [hq.2]
          have HF := Lib.hid (hE.trans (trailL_many f i body _ trs h13 hq.1 hq.2))
          clear hE h13 hq HDK
          go_wp2_with fail
          refine bodyPost_ret (res1 Tryd.results64 _ _ (w.heap.size + 1) _ rfl (set5_bx (HZ.out.setO (by omega) 1 (.int .i64 5)) rfl _ _ _ _ _) rfl) rfl ?_
          rw [HF.out]
          exact ⟨(HB.out.setCell (Nat.le_refl _) _).trans (set5_below (by omega) _ _ _ _ _), At, ct, hct, rfl, ((ow_set5 (ow_setO HO.out (by omega) 1 _) (by omega) _ _ _ _ _)).mono (by omega)⟩
        · cases hll : lineL (y :: l.drop (i + 1)) [] i with
          | stop a' b' =>
            have HLL := Lib.hid (show lineL (l.drop i) [] i = .stop a' b' by rw [HDK.out]; exact hll)
            have HF := Lib.hid (hE.trans (trailL_stop h13 hq hll))
            by_cases h10 : y = 10
            · subst h10
              clear hE hll HDK h13 hq
              go_wp2_with (go_at_call 81; refine (line_at (some ⟨b, o, none⟩) c L l i Ab nb cb At trs.length ct wr HL.out HRr.out (by omega) hl).mono ?_; rintro e w1 ⟨hb1, hm⟩; rw [HLL.out] at hm; obtain ⟨vl, rfl⟩ := hm; have hs1 := hb1.size; have HZ1 := Lib.hid (HZ.out.below hb1 hlt2); have HG1 := Lib.hid (HG.out.below hb1 hlt); have HB1 := Lib.hid (HB.out.trans (hb1.mono HB.out.size)); have HO1 := Lib.hid (HO.out.far hb1); obtain ⟨hcy0, hcy1, hcy2, hcy3, hcy4⟩ := HZ1.out.cells; obtain ⟨hfy0, hfy1, hfy2, hfy3, hfy4⟩ := HZ1.out.frees; have hlt1 : w.heap.size + 1 < w1.heap.size := (by omega); clear hb1)
              refine bodyPost_ret (res1 Tryd.results64 _ _ (w.heap.size + 1) _ rfl ((set5_bx HZ1.out rfl _ _ _ _ _).alloc _) rfl) rfl ?_
              rw [HF.out]
              exact ⟨below_al (HB1.out.trans (set5_below (by omega) _ _ _ _ _)) _, At, ct, hct, rfl, (((ow_set5 HO1.out (by omega) _ _ _ _ _).alloc _)).mono (by omega)⟩
            · have hn10 : ((y.toNat : Int) != 10) = true := bne_iff_ne.2 (fun e => h10 (UInt8.toNat_inj.1 (show y.toNat = (10 : UInt8).toNat by have : (10 : UInt8).toNat = 10 := rfl; omega)))
              have ht16 : ((trs.length : Int) == 16) = false := beq_eq_false_iff_ne.2 (by have := not_and.1 hq h10; omega)
              clear hE hll HDK h13 hq h10
              go_wp2_with (go_at_call 81; refine (line_at (some ⟨b, o, none⟩) c L l i Ab nb cb At trs.length ct wr HL.out HRr.out (by omega) hl).mono ?_; rintro e w1 ⟨hb1, hm⟩; rw [HLL.out] at hm; obtain ⟨vl, rfl⟩ := hm; have hs1 := hb1.size; have HZ1 := Lib.hid (HZ.out.below hb1 hlt2); have HG1 := Lib.hid (HG.out.below hb1 hlt); have HB1 := Lib.hid (HB.out.trans (hb1.mono HB.out.size)); have HO1 := Lib.hid (HO.out.far hb1); obtain ⟨hcy0, hcy1, hcy2, hcy3, hcy4⟩ := HZ1.out.cells; obtain ⟨hfy0, hfy1, hfy2, hfy3, hfy4⟩ := HZ1.out.frees; have hlt1 : w.heap.size + 1 < w1.heap.size := (by omega); clear hb1)
              refine bodyPost_ret (res1 Tryd.results64 _ _ (w.heap.size + 1) _ rfl ((set5_bx HZ1.out rfl _ _ _ _ _).alloc _) rfl) rfl ?_
              rw [HF.out]
              exact ⟨below_al (HB1.out.trans (set5_below (by omega) _ _ _ _ _)) _, At, ct, hct, rfl, (((ow_set5 HO1.out (by omega) _ _ _ _ _).alloc _)).mono (by omega)⟩
          | ok o' r' a' =>
            have h10 : y ≠ 10 := by
              rintro rfl
              rw [lineL_10] at hll
              cases hll
            have HLL := Lib.hid (show lineL (l.drop i) [] i = .ok o' r' a' by rw [HDK.out]; exact hll)
            obtain ⟨k, hk1, hk2, hk3⟩ := line_rest_drop _ _ _ HLL.out
            have hk4 := line_own _ _ _ (by simp) HLL.out
            have hk5 := (line_rest _ _ _ HLL.out).2.1
            rw [List.drop_drop] at hk1
            have hkL : i + k ≤ L := by rw [List.length_drop, HL.out] at hk3; omega
            have hf2 := hE.trans (trailL_go h13 hq hll)
            rw [hk1, hk2] at hf2
            subst hk2
            have HF := Lib.hid hf2
            have hn10 : ((y.toNat : Int) != 10) = true := bne_iff_ne.2 (fun e => h10 (UInt8.toNat_inj.1 (show y.toNat = (10 : UInt8).toNat by have : (10 : UInt8).toNat = 10 := rfl; omega)))
            have ht16 : ((trs.length : Int) == 16) = false := beq_eq_false_iff_ne.2 (by have := not_and.1 hq h10; omega)
            have ht15 : trs.length < 16 := by have := not_and.1 hq h10; omega
            clear hE hll HDK h13 hq h10 hf2
            go_upto_region 14 with (go_at_call 81; refine (line_at (some ⟨b, o, none⟩) c L l i Ab nb cb At trs.length ct wr HL.out HRr.out (by omega) hl).mono ?_; rintro e w1 ⟨hb1, hm⟩; rw [HLL.out] at hm; obtain ⟨A', c', hc', rfl, hr'⟩ := hm; have HR' := Lib.hid hr'; clear hr'; have hs1 := hb1.size; have HZ1 := Lib.hid (HZ.out.below hb1 hlt2); have HG1 := Lib.hid (HG.out.below hb1 hlt); have HB1 := Lib.hid (HB.out.trans (hb1.mono HB.out.size)); have HO1 := Lib.hid (HO.out.far hb1); obtain ⟨hcy0, hcy1, hcy2, hcy3, hcy4⟩ := HZ1.out.cells; obtain ⟨hfy0, hfy1, hfy2, hfy3, hfy4⟩ := HZ1.out.frees; have hlt1 : w.heap.size + 1 < w1.heap.size := (by omega); clear hb1)
            obtain ⟨w8, hw8⟩ : ∃ w8, w8 = w1.alloc (.cells (rg5 (i + k) 0 false (.slice Ab nb cb) (.slice At trs.length ct)).toArray 76) := ⟨_, rfl⟩
            have hX8 : Bx w8 w1.heap.size (rg5 (i + k) 0 false (.slice Ab nb cb) (.slice At trs.length ct)) := by rw [hw8]; exact Bx.new w1 _
            have h8s : w8.heap.size = w1.heap.size + 1 := by rw [hw8]; simp
            have hB8 : Below w1.heap.size w1 w8 := by rw [hw8]; exact (Below.refl _ _).alloc (Nat.le_refl _) _
            have hcv : ∀ W, Below w1.heap.size w1 W → (convert 22 9 (.slice A' o'.length c')).run Tryd.prog W = .ok (.string ⟨o'.toArray⟩) W := fun W hW =>
              conv_bs (P := Tryd.prog) W 22 5 9 A' c' w1.heap.size o' Tryd.underlying22 Tryd.underlying5 Tryd.underlying9 (HR'.out.below hW)
            have hRt : Rd w1 w1.heap.size At trs.length (sc trs) := ow_rd HO1.out
            have hKS : ∀ W, K8 w1 w8 (.int .i64 ((i + k : Nat) : Int)) (.int .i64 0) (.bool false) (.slice Ab nb cb) W → (K8 w1 w8 (.int .i64 ((i + k : Nat) : Int)) (.int .i64 0) (.bool false) (.slice Ab nb cb) W ∧ (convert 22 9 (.slice A' o'.length c')).run Tryd.prog W = .ok (.string ⟨o'.toArray⟩) W) := fun W h => ⟨h, hcv W h.1⟩
            have hS0 : K8 w1 w8 (.int .i64 ((i + k : Nat) : Int)) (.int .i64 0) (.bool false) (.slice Ab nb cb) w8 := ⟨hB8, Nat.le_refl _, _, hX8⟩
            have hS1 := hS0.drew
            have h18 : w1.heap.size < w8.heap.size := by omega
            have hc84 := hX8.cell 4
            have hf84 := hX8.free 4
            simp only [rg5, List.getElem?_cons_succ, List.getElem?_cons_zero] at hc84
            have hw9 := hw8
            simp only [rg5, Int.natCast_add] at hw9
            rw [← hw9]
            clear hcv hw8 hw9 hB8 hcy0 hcy1 hcy2 hcy3 hcy4 hfy0 hfy1 hfy2 hfy3 hfy4 hcg0 hcg1 hcg2 hcg3 hcg4 hfg0 hfg1 hfg2 hfg3 hfg4 hcz0 hcz1 hcz2 hcz3 hcz4 hfz0 hfz1 hfz2 hfz3 hfz4 hx
            go_cut [59] from 59 to 67 (fun v59 wx => ∃ A2 c2, trs.length + 1 ≤ c2 ∧ Hid (Bx wx w1.heap.size (rg5 (i + k) 0 false (.slice Ab nb cb) (.slice A2 (trs.length + 1) c2))) ∧ Hid (Ow wx (w.heap.size + 2) 9 (.slice A2 (trs.length + 1) c2) (sc (trs ++ [o']))) ∧ Hid (Below w1.heap.size w1 wx))
            case first =>
              have kD := hS0.drew
              have kA := (hS0.alloc (.cells #[] 9)).drew
              have kB := ((hS0.alloc (.cells #[] 9)).alloc (.cells #[.string ⟨o'.toArray⟩] 9)).drew
              have kC := ((hS0.alloc (.cells #[.string ⟨o'.toArray⟩] 9)).alloc (.cells #[] 9)).drew
              clear h8s
              have sA := hRt.below kA.1
              have sB := hRt.below kB.1
              have sC := hRt.below kC.1
              have lB := rd_dr (rd_lit (w8.alloc (.cells #[] 9)) 9 [.string ⟨o'.toArray⟩] 1 (w8.heap.size + 1) (by simp) rfl)
              have lC := rd_dr (rd_top (rd_lit w8 9 [.string ⟨o'.toArray⟩] 1 w8.heap.size rfl rfl) (.cells #[] 9))
              have hcd := (hKS _ kD).2
              have hcA := (hKS _ kA).2
              have HKS := Lib.hid hKS
              clear hKS
              go_region_law (first
                | (refine step_app0 _ rfl _ _ _ _ rfl w8.heap.size 9 i0 (.string ⟨#[]⟩) 16 Tryd.underlying49 hi hz0 hz1 hz2 rfl (by omega) ?_ (.slice At trs.length ct) ?_ trs.length (sc trs) ?_ ?_ ?_ ?_
                   · exact ⟨_, rfl, fun q hq => by cases hq; first | exact Nat.le_refl _ | simp⟩
                   · rfl
                   · refine Rd.src (B := w1.heap.size) ?_ Tryd.underlying49 (sc_one trs)
                     first
                       | with_reducible exact sA
                       | with_reducible exact sB
                       | with_reducible exact sC
                   · omega
                   · simp <;> omega
                   intro v3 w3 hown3 hb3 hsz3
                   have hS3 : K8 w1 w8 (.int .i64 ((i + k : Nat) : Int)) (.int .i64 0) (.bool false) (.slice Ab nb cb) w3 := by
                     first
                       | with_reducible exact K8.step kA hb3
                       | with_reducible exact K8.step kB hb3
                       | with_reducible exact K8.step kC hb3
                   have hcv3 := (HKS.out _ hS3).2
                   first
                     | have hlit := (by with_reducible exact rd_step lB hb3 : Rd w3 w3.heap.size (some ⟨w8.heap.size + 1, 0, none⟩) 1 [.string ⟨o'.toArray⟩])
                     | have hlit := (by with_reducible exact rd_step lC hb3 : Rd w3 w3.heap.size (some ⟨w8.heap.size, 0, none⟩) 1 [.string ⟨o'.toArray⟩])
                     | skip)
                | (refine step_appE _ rfl _ _ _ _ rfl w8.heap.size 9 i0 (.string ⟨#[]⟩) 16 Tryd.underlying49 hi hz0 hz1 hz2 rfl (by omega) _ _ (hown3.alloc _) ?_ (.slice (some ⟨w3.heap.size, 0, none⟩) 1 1) ?_ 1 [.string ⟨o'.toArray⟩] ?_ ?_ ?_ ?_
                   · rfl
                   · rfl
                   · exact one_src Tryd.underlying49 _ rfl
                   · rw [sc_length]; omega
                   · exact Nat.le_trans hsz3 (by simp)
                   intro v5 w5 hown5 hgr5 hsz5
                   have hS5 : K8 w1 w8 (.int .i64 ((i + k : Nat) : Int)) (.int .i64 0) (.bool false) (.slice Ab nb cb) w5 := K8.grow (hS3.alloc _) hgr5 hown3.lt h18
                   have hown6 := OwE.own hown5 (by simp)
                   obtain ⟨A5, c5, rfl, hl5, _⟩ := ow_formL hown6 (trs.length + 1) (by simp)
                   obtain ⟨vx, hvx⟩ := hS5.2.2
                   obtain ⟨_, _, _, _, hc54⟩ := hvx.cells
                   have hf54 := hvx.free 4)
                | (refine step_appE _ rfl _ _ _ _ rfl w8.heap.size 9 i0 (.string ⟨#[]⟩) 16 Tryd.underlying49 hi hz0 hz1 hz2 rfl (by omega) _ _ hown3 ?_ (.slice (some ⟨w8.heap.size + 1, 0, none⟩) 1 1) ?_ 1 [.string ⟨o'.toArray⟩] ?_ ?_ ?_ ?_
                   · rfl
                   · rfl
                   · exact Rd.src hlit Tryd.underlying49 (fun x hx => by simp at hx; subst hx; rfl)
                   · rw [sc_length]; omega
                   · exact hsz3
                   intro v5 w5 hown5 hgr5 hsz5
                   have hS5 : K8 w1 w8 (.int .i64 ((i + k : Nat) : Int)) (.int .i64 0) (.bool false) (.slice Ab nb cb) w5 := K8.grow hS3 hgr5 hown3.lt h18
                   have hown6 := OwE.own hown5 (by simp)
                   obtain ⟨A5, c5, rfl, hl5, _⟩ := ow_formL hown6 (trs.length + 1) (by simp)
                   obtain ⟨vx, hvx⟩ := hS5.2.2
                   obtain ⟨_, _, _, _, hc54⟩ := hvx.cells
                   have hf54 := hvx.free 4)
                | (refine step_appE _ rfl _ _ _ _ rfl w8.heap.size 9 i0 (.string ⟨#[]⟩) 16 Tryd.underlying49 hi hz0 hz1 hz2 rfl (by omega) _ _ hown3 ?_ (.slice (some ⟨w8.heap.size, 0, none⟩) 1 1) ?_ 1 [.string ⟨o'.toArray⟩] ?_ ?_ ?_ ?_
                   · rfl
                   · rfl
                   · exact Rd.src hlit Tryd.underlying49 (fun x hx => by simp at hx; subst hx; rfl)
                   · rw [sc_length]; omega
                   · exact hsz3
                   intro v5 w5 hown5 hgr5 hsz5
                   have hS5 : K8 w1 w8 (.int .i64 ((i + k : Nat) : Int)) (.int .i64 0) (.bool false) (.slice Ab nb cb) w5 := K8.grow hS3 hgr5 hown3.lt h18
                   have hown6 := OwE.own hown5 (by simp)
                   obtain ⟨A5, c5, rfl, hl5, _⟩ := ow_formL hown6 (trs.length + 1) (by simp)
                   obtain ⟨vx, hvx⟩ := hS5.2.2
                   obtain ⟨_, _, _, _, hc54⟩ := hvx.cells
                   have hf54 := hvx.free 4))
              all_goals
                go_wp2_with fail
                go_meet
                have hx5 := hvx.set_ 4 (.slice A5 (trs.length + 1) c5)
                have hb5 := hS5.1.setCell (show w1.heap.size ≤ (⟨w1.heap.size, 4, none⟩ : Addr).block from Nat.le_refl _) (.slice A5 (trs.length + 1) c5)
                have e1 : sc (trs ++ [o']) = sc trs ++ [.string ⟨o'.toArray⟩] := by simp [sc, strV]
                have ho5 := (ow_setO (g := w1.heap.size) hown6 h18 4 (.slice A5 (trs.length + 1) c5)).mono (show w.heap.size + 2 ≤ w8.heap.size by omega)
                rw [← e1] at ho5
                first
                  | exact ⟨A5, c5, hl5, Lib.hid hx5.drew, Lib.hid ho5.drew, Lib.hid hb5.drew⟩
                  | exact ⟨A5, c5, hl5, Lib.hid hx5, Lib.hid ho5, Lib.hid hb5⟩
            case rest =>
              obtain ⟨A2, c2, hc2, HX, HOn, HBn⟩ := hcut
              have HGc := HG1.out.below HBn.out (by omega)
              have HZc := HZ1.out.below HBn.out (by omega)
              have HBc := Lib.hid (HB1.out.trans (HBn.out.mono HB1.out.size))
              obtain ⟨hcx0, hcx1, hcx2, hcx3, hcx4⟩ := HX.out.cells
              obtain ⟨hcg0, hcg1, hcg2, hcg3, hcg4⟩ := HGc.cells
              obtain ⟨hfg0, hfg1, hfg2, hfg3, hfg4⟩ := HGc.frees
              have HZc2 := Lib.hid HZc
              have HGc2 := Lib.hid HGc
              have hlen : (trs ++ [o']).length = trs.length + 1 := by simp
              have HLn := Lib.hid hlen
              have hat := atOf_bx HG.out
              clear HGc HZc hlen hc84 hf84 hS0 hS1 hKS hX8
              go_wp2_with fail
              go_roundw
              case rel =>
                refine ⟨i + k, f, trs ++ [o'], A2, c2, hkL, by omega, by rw [HLn.out]; omega, by rw [HLn.out]; exact hc2, ?_, ?_, ?_, HF, ?_⟩
                · rw [HLn.out]
                  exact Lib.hid (set5_bx HGc2.out rfl _ _ _ _ _)
                · exact Lib.hid (set5_bxO HZc2.out (by omega) _ _ _ _ _)
                · rw [HLn.out]
                  exact Lib.hid (ow_set5 HOn.out (by omega) _ _ _ _ _)
                · exact Lib.hid (HBc.out.trans (set5_below (Nat.le_refl _) _ _ _ _ _))
              case measure =>
                have h1 := atOf_bx (set5_bx HGc2.out rfl (.int .i64 ((i + k : Nat) : Int)) (.int .i64 0) (.bool false) (.slice Ab nb cb) (.slice A2 (trs.length + 1) c2))
                first
                  | (rw [hat, h1]; omega)
                  | (simp only [Int.natCast_add] at h1; rw [hat, h1]; omega)
    · obtain rfl : i = L := by omega
      have HF := Lib.hid (show R = ⟨i, 0, false, body, trs⟩ by rw [HE.out, List.drop_of_length_le (by have := HL.out; omega)]; exact trailL_nil _ _ _ _)
      clear HE
      go_wp2_with fail
      refine bodyPost_ret (res1 Tryd.results64 _ _ (w.heap.size + 1) _ rfl (set5_bx HZ.out rfl _ _ _ _ _) rfl) rfl ?_
      rw [HF.out]
      exact ⟨HB.out.trans (set5_below (by omega) _ _ _ _ _), At, ct, hct, rfl, ((ow_set5 HO.out (by omega) _ _ _ _ _)).mono (by omega)⟩
end Go.Proofs.YtkjibnhihdbmdaaDoor
