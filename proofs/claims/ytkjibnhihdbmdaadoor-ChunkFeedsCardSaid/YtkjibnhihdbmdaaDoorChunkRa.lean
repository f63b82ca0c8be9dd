/-
  The reference gaugerref19: All.
-/
import Derived.Test.YtkjibnhihdbmdaaDoorChunkRs
import Derived.Test.YtkjibnhihdbmdaaDoorChunkRt
set_option linter.unusedVariables false
set_option linter.unusedSimpArgs false
namespace Go.Proofs.YtkjibnhihdbmdaaDoor
open Go.RowKit
theorem size_rest_drop (room : Nat) : ∀ (l : List UInt8) (n k a : Nat) {m : Nat} {r : List UInt8} {a' : Nat}, sizeL room l n k a = .ok m r a' → (n ≤ room ∨ k = 0) → ∃ j, r = l.drop j ∧ a' = a + j ∧ j ≤ l.length ∧ 1 ≤ j ∧ (m ≤ room ∨ m = n)
  | [], _, _, _, _, _, _, h, _ => by rw [sizeL_nil] at h; cases h
  | y :: l, n, k, a, m, r, a', h, hn => by
    by_cases hd : dig y = 16
    · by_cases hq : k = 0 ∨ y ≠ 59 ∧ y ≠ 13
      · rw [sizeL_bad hd hq] at h; cases h
      · cases hl : lineL (y :: l) [] a with
        | stop a2 b2 => rw [sizeL_stop hd hq hl] at h; cases h
        | ok o2 r2 a2 =>
          rw [sizeL_line hd hq hl] at h
          cases h
          obtain ⟨j, h1, h2, h3⟩ := line_rest_drop _ _ _ hl
          have := (line_rest _ _ _ hl).2.1
          exact ⟨j, h1, h2, h3, by omega, .inr rfl⟩
    · by_cases hq : k = 8 ∨ room < 16 * n + dig y
      · rw [sizeL_long hd hq] at h; cases h
      · rw [sizeL_go hd hq] at h
        obtain ⟨hq1, hq2⟩ := not_or.1 hq
        obtain ⟨j, h1, h2, h3, h4, h5⟩ := size_rest_drop room l _ _ _ h (.inl (by omega))
        exact ⟨j + 1, h1, by omega, by simp only [List.length_cons]; omega, by omega, by omega⟩
theorem owE_val {w : World} {base : Nat} {e : TypeId} {v : Value} {xs : List Value} (h : OwE w base e v xs) (n : Nat) (hn : xs.length = n) : ∃ A c, v = .slice A n c ∧ n ≤ c ∧ OwE w base e (.slice A n c) xs := by
  subst hn
  obtain ⟨A, c, rfl, h2, _⟩ := h.form
  exact ⟨A, c, rfl, h2, h⟩
theorem owE_setO {w : World} {base : Nat} {e : TypeId} {v : Value} {xs : List Value} (h : OwE w base e v xs) {g : Nat} (hg : g < base) (k : Nat) (u : Value) : OwE (w.setCell ⟨g, k, none⟩ u) base e v xs := by
  rcases h with h | h
  · exact .inl (ow_setO h hg k u)
  · exact .inr h
theorem owE_set5 {w : World} {base : Nat} {et : TypeId} {v : Value} {xs : List Value} (h : OwE w base et v xs) {g : Nat} (hg : g < base) (a b c d e : Value) : OwE (((((w.setCell ⟨g, 0, none⟩ a).setCell ⟨g, 1, none⟩ b).setCell ⟨g, 2, none⟩ c).setCell ⟨g, 3, none⟩ d).setCell ⟨g, 4, none⟩ e) base et v xs :=
  owE_setO (owE_setO (owE_setO (owE_setO (owE_setO h hg 0 a) hg 1 b) hg 2 c) hg 3 d) hg 4 e
theorem trailL_body : ∀ (f : Nat) (l : List UInt8) (a : Nat) (body : List UInt8) (trs : List (List UInt8)), (trailL f l a body trs).body = body
  | 0, _, _, _, _ => rfl
  | f + 1, [], _, _, _ => by rw [trailL_nil]
  | f + 1, y :: l, a, body, trs => by
    by_cases h13 : y = 13
    · subst h13
      cases l with
      | nil => rw [trailL_13n]
      | cons d l =>
        by_cases h10 : d = 10
        · subst h10; rw [trailL_13o]
        · rw [trailL_13x _ _ _ _ _ h10]
    · by_cases hq : y ≠ 10 ∧ trs.length = 16
      · rw [trailL_many _ _ _ _ _ h13 hq.1 hq.2]
      · cases hl : lineL (y :: l) [] a with
        | stop a2 b2 => rw [trailL_stop h13 hq hl]
        | ok o2 r2 a2 => rw [trailL_go h13 hq hl]; exact trailL_body f _ _ _ _
theorem owE_rd {w : World} {base : Nat} {e : TypeId} {A : Option Addr} {n c : Nat} {xs : List Value} (h : OwE w base e (.slice A n c) xs) : Rd w w.heap.size A n xs := by
  obtain ⟨A', c', he, _, _, hr⟩ := h.form
  cases he
  exact hr
theorem drop_at {l rest : List UInt8} {a n : Nat} (h : rest = l.drop a) : rest.drop n = l.drop (a + n) := by rw [h, List.drop_drop]
theorem get_drop {l : List UInt8} {k : Nat} {y : UInt8} {m : List UInt8} (h : l.drop k = y :: m) : l[k]? = some y := by
  have : (l.drop k)[0]? = some y := by rw [h]; rfl
  rwa [List.getElem?_drop, Nat.add_zero] at this
def AllPost (R : Rding) (w : World) (e : Ending) (w' : World) : Prop :=
  Below w.heap.size w w' ∧ ∃ Ab cb At ct, R.body.length ≤ cb ∧ R.trs.length ≤ ct ∧ e = .returned (rgV R.At R.bad R.done (.slice Ab R.body.length cb) (.slice At R.trs.length ct)) ∧ OwE w' w.heap.size 5 (.slice Ab R.body.length cb) (bc R.body) ∧ OwE w' w.heap.size 9 (.slice At R.trs.length ct) (sc R.trs)
theorem allL_stop {f a b i : Nat} {l body : List UInt8} (h : sizeL (65536 - body.length) l 0 0 i = .stop a b) : allL (f + 1) l i body = ⟨a, b, false, body, []⟩ := by rw [allL, h]
theorem allL_zero {f a i : Nat} {l r body : List UInt8} (h : sizeL (65536 - body.length) l 0 0 i = .ok 0 r a) : allL (f + 1) l i body = trailL (r.length + 1) r a body [] := by rw [allL, h]; simp
theorem allL_short {f n a i : Nat} {l r body : List UInt8} (h : sizeL (65536 - body.length) l 0 0 i = .ok n r a) (hn : n ≠ 0) (hr : r.length < n) : allL (f + 1) l i body = ⟨a + r.length, 0, false, body ++ r, []⟩ := by rw [allL, h]; simp [hn, hr]
theorem allL_end {f n a i : Nat} {l r body : List UInt8} (h : sizeL (65536 - body.length) l 0 0 i = .ok n r a) (hn : n ≠ 0) (hr : ¬r.length < n) (hd : r.drop n = []) : allL (f + 1) l i body = ⟨a + n, 0, false, body ++ r.take n, []⟩ := by rw [allL, h]; simp only [hn, if_false, hr, hd]
theorem allL_no {f n a i : Nat} {l r body : List UInt8} {c : UInt8} {m : List UInt8} (h : sizeL (65536 - body.length) l 0 0 i = .ok n r a) (hn : n ≠ 0) (hr : ¬r.length < n) (hd : r.drop n = c :: m) (hc : c ≠ 13) : allL (f + 1) l i body = ⟨a + n, 191, false, body ++ r.take n, []⟩ := by rw [allL, h]; simp only [hn, if_false, hr, hd, hc]
theorem allL_cr {f n a i : Nat} {l r body : List UInt8} (h : sizeL (65536 - body.length) l 0 0 i = .ok n r a) (hn : n ≠ 0) (hr : ¬r.length < n) (hd : r.drop n = [13]) : allL (f + 1) l i body = ⟨a + n + 1, 0, false, body ++ r.take n, []⟩ := by rw [allL, h]; simp only [hn, if_false, hr, hd, if_true]
theorem allL_crx {f n a i : Nat} {l r body : List UInt8} {d : UInt8} {m : List UInt8} (h : sizeL (65536 - body.length) l 0 0 i = .ok n r a) (hn : n ≠ 0) (hr : ¬r.length < n) (hd : r.drop n = 13 :: d :: m) (h10 : d ≠ 10) : allL (f + 1) l i body = ⟨a + n + 1, 191, false, body ++ r.take n, []⟩ := by rw [allL, h]; simp only [hn, if_false, hr, hd, if_true, h10]
theorem allL_go {f n a i : Nat} {l r body : List UInt8} {m : List UInt8} (h : sizeL (65536 - body.length) l 0 0 i = .ok n r a) (hn : n ≠ 0) (hr : ¬r.length < n) (hd : r.drop n = 13 :: 10 :: m) : allL (f + 1) l i body = allL f m (a + n + 2) (body ++ r.take n) := by rw [allL, h]; simp only [hn, if_false, hr, hd, if_true]
set_option maxRecDepth 100000 in
set_option maxHeartbeats 4000000 in
theorem all_at (A : Option Addr) (c L : Nat) (l : List UInt8) (w : World) (hL : l.length = L) (hr : Rd w w.heap.size A L (bc l)) (hc : L ≤ c) (hl : L ≤ 140737488355328) (F : Nat) (hF : L < F) :
    Calls Tryd.prog 46 #[.slice A L c] w (AllPost (allL F l 0 []) w) := by
  obtain ⟨i0, hi, hz0, hz1, hz2⟩ := info_parts Tryd.clInfoByte
  obtain ⟨R, hR⟩ : ∃ R, R = allL F l 0 [] := ⟨_, rfl⟩
  rw [← hR]
  have HR := Lib.hid hr
  have HL := Lib.hid hL
  have HRd := Lib.hid (show R = allL F (l.drop 0) 0 [] from hR)
  clear hr hL hR
  go_enter Tryd.func46, Tryd.ntmps46
  go_wp2_with fail
  have hb0 : Below w.heap.size w ((w.alloc (.cells zero5.toArray 76)).alloc (.cells zero5.toArray 76)) := below_two _ _
  go_loopw [8] (fun v8 wr => ∃ (i f : Nat) (body : List UInt8) (Ab : Option Addr) (cb : Nat), i ≤ L ∧ L - i < f ∧ body.length ≤ 65536 ∧ body.length ≤ cb ∧ Hid (Bx wr (w.heap.size + 1) (rg5 i 0 false (.slice Ab body.length cb) (.slice none 0 0))) ∧ Hid (Bx wr w.heap.size zero5) ∧ Hid (Ow wr (w.heap.size + 2) 5 (.slice Ab body.length cb) (bc body)) ∧ Hid (R = allL f (l.drop i) i body) ∧ Hid (Below w.heap.size w wr)) (fun v8 wr => L - atOf wr (w.heap.size + 1))
  case atStart =>
    refine ⟨0, F, [], none, 0, Nat.zero_le _, hF, by simp, Nat.le_refl _, Lib.hid ?_, Lib.hid ((Bx.new w _).alloc _), Lib.hid (Ow.nil _ _ _), HRd, Lib.hid hb0⟩
    have := Bx.new (w.alloc (.cells zero5.toArray 76)) zero5
    rw [show (w.alloc (.cells zero5.toArray 76)).heap.size = w.heap.size + 1 by simp] at this
    exact this
  case round =>
    clear hb0 HRd
    obtain ⟨i, f, body, Ab, cb, hi1, hf, hnb, hcb, HG, HZ, HO, HE, HB⟩ := hrel
    obtain ⟨f, rfl⟩ : ∃ f', f = f' + 1 := ⟨f - 1, by omega⟩
    obtain ⟨hcg0, hcg1, hcg2, hcg3, hcg4⟩ := HG.out.cells
    obtain ⟨hfg0, hfg1, hfg2, hfg3, hfg4⟩ := HG.out.frees
    have hlt := HG.out.lt
    have hlt2 := HZ.out.lt
    have hat := atOf_bx HG.out
    have HRr := Lib.hid (rd_step HR.out HB.out)
    cases hs : sizeL (65536 - body.length) (l.drop i) 0 0 i with
    | stop a' b' =>
      have HS := Lib.hid hs
      have HF := Lib.hid (HE.out.trans (allL_stop hs))
      clear hs HE
      go_wp2_with (go_at_call 63; refine (size_at A c L l i Ab body.length cb none 0 0 wr HL.out HRr.out hi1 hl hnb).mono ?_; rintro e w1 ⟨hb1, hm⟩; rw [HS.out] at hm; obtain ⟨vn, rfl⟩ := hm; have hs1 := hb1.size; have HZ1 := Lib.hid (HZ.out.below hb1 hlt2); have HG1 := Lib.hid (HG.out.below hb1 hlt); have HB1 := Lib.hid (HB.out.trans (hb1.mono HB.out.size)); have HO1 := Lib.hid (HO.out.far hb1); obtain ⟨hcy0, hcy1, hcy2, hcy3, hcy4⟩ := HZ1.out.cells; obtain ⟨hfy0, hfy1, hfy2, hfy3, hfy4⟩ := HZ1.out.frees; have hlt1 : w.heap.size + 1 < w1.heap.size := (by omega); have hlt0 : w.heap.size < w1.heap.size := (by omega); clear hb1)
      refine bodyPost_ret (res1 Tryd.results46 _ _ w.heap.size _ rfl ((set5_bx HZ1.out rfl _ _ _ _ _).alloc _) rfl) rfl ?_
      rw [HF.out]
      exact ⟨below_al (HB1.out.trans (set5_below (Nat.le_refl _) _ _ _ _ _)) _, Ab, cb, none, 0, hcb, Nat.le_refl _, rfl, .inl (((ow_set5 HO1.out (by omega) _ _ _ _ _).alloc _).mono (by omega)), .inl (Ow.nil _ _ _)⟩
    | ok n rest a =>
      have HS := Lib.hid hs
      obtain ⟨j, hj1, hj2, hj3, hj4, hj5⟩ := size_rest_drop _ _ _ _ _ hs (.inr rfl)
      rw [List.drop_drop] at hj1
      rw [← hj2] at hj1
      have haL : a ≤ L := by rw [List.length_drop, HL.out] at hj3; omega
      have hrl : rest.length = L - a := by rw [hj1, List.length_drop, HL.out]
      have hia : i < a := by omega
      clear hj2 hj3 hj4
      by_cases hn0 : n = 0
      · subst hn0
        have HFz := Lib.hid (show R = trailL (rest.length + 1) (l.drop a) a body [] by rw [← hj1]; exact HE.out.trans (allL_zero hs))
        have hRb : R.body = body := by rw [HFz.out]; exact trailL_body _ _ _ _ _
        clear hs HE hj1
        go_upto_region 6 with (go_at_call 63; refine (size_at A c L l i Ab body.length cb none 0 0 wr HL.out HRr.out hi1 hl hnb).mono ?_; rintro e w1 ⟨hb1, hm⟩; rw [HS.out] at hm; subst hm; have hs1 := hb1.size; have HZ1 := Lib.hid (HZ.out.below hb1 hlt2); have HG1 := Lib.hid (HG.out.below hb1 hlt); have HB1 := Lib.hid (HB.out.trans (hb1.mono HB.out.size)); have HO1 := Lib.hid (HO.out.far hb1); obtain ⟨hcx0, hcx1, hcx2, hcx3, hcx4⟩ := HG1.out.cells; obtain ⟨hfx0, hfx1, hfx2, hfx3, hfx4⟩ := HG1.out.frees; have hlt1 : w.heap.size + 1 < w1.heap.size := (by omega); have hlt0 : w.heap.size < w1.heap.size := (by omega); clear hb1)
        obtain ⟨w8, hw8⟩ : ∃ w8, w8 = ((((((w1.setCell ⟨w.heap.size + 1, 0, none⟩ (.int .i64 (a : Int))).setCell ⟨w.heap.size + 1, 1, none⟩ (.int .i64 0)).setCell ⟨w.heap.size + 1, 2, none⟩ (.bool false)).setCell ⟨w.heap.size + 1, 3, none⟩ (.slice Ab body.length cb)).setCell ⟨w.heap.size + 1, 4, none⟩ (.slice none 0 0)).alloc (.cells #[.int .i64 (a : Int), .int .i64 0, .bool false, .slice Ab body.length cb, .slice none 0 0] 76)) := ⟨_, rfl⟩
        have hB8 : Below w.heap.size w w8 := by rw [hw8]; exact below_al (HB1.out.trans (set5_below (by omega) _ _ _ _ _)) _
        have hX8 : Bx w8 (w.heap.size + 1) (rg5 a 0 false (.slice Ab body.length cb) (.slice none 0 0)) := by rw [hw8]; exact (set5_bx HG1.out rfl _ _ _ _ _).alloc _
        have hZ8 : Bx w8 w.heap.size zero5 := by rw [hw8]; exact (set5_bxO HZ1.out (by omega) _ _ _ _ _).alloc _
        have hO8 : Ow w8 (w.heap.size + 2) 5 (.slice Ab body.length cb) (bc body) := by rw [hw8]; exact (ow_set5 HO1.out (by omega) _ _ _ _ _).alloc _
        rw [← hw8]
        have HB8 := Lib.hid hB8
        have HZ8 := Lib.hid hZ8
        have HO8 := Lib.hid hO8
        have HR8 := Lib.hid (rd_step HR.out hB8)
        have hl8 := hX8.lt
        have hz8 := hZ8.lt
        obtain ⟨hcv0, hcv1, hcv2, hcv3, hcv4⟩ := hX8.cells
        clear hw8 hB8 hX8 hZ8 hO8 hcx0 hcx1 hcx2 hcx3 hcx4 hfx0 hfx1 hfx2 hfx3 hfx4 hcg0 hcg1 hcg2 hcg3 hcg4 hfg0 hfg1 hfg2 hfg3 hfg4
        go_wp2_with (go_at_call 64; refine (rtrailers_at A c L l a Ab body.length cb body w8 HL.out HR8.out haL hl (rest.length + 1) (by omega)).mono ?_; rw [← HFz.out]; rintro e w2 ⟨hb2, At', ct', hct', rfl, hrt⟩; have hs2 := hb2.size; have HZ2 := Lib.hid (HZ8.out.below hb2 hz8); have HB2 := Lib.hid (HB8.out.trans (hb2.mono HB8.out.size)); have HO2 := Lib.hid (HO8.out.far hb2); have HRt := Lib.hid hrt; have hs8 := HB8.out.size; obtain ⟨hcy0, hcy1, hcy2, hcy3, hcy4⟩ := HZ2.out.cells; obtain ⟨hfy0, hfy1, hfy2, hfy3, hfy4⟩ := HZ2.out.frees; clear hb2 hrt)
        refine bodyPost_ret (res1 Tryd.results46 _ _ w.heap.size _ rfl (set5_bx HZ2.out rfl _ _ _ _ _) rfl) rfl ?_
        refine ⟨HB2.out.trans (set5_below (Nat.le_refl _) _ _ _ _ _), Ab, cb, At', ct', by rw [hRb]; exact hcb, hct', by rw [hRb], ?_, ?_⟩
        · rw [hRb]
          exact .inl ((ow_set5 HO2.out (by omega) _ _ _ _ _).mono (by omega))
        · exact .inl ((ow_set5 (HRt.out) (by omega) _ _ _ _ _).mono (by omega))
      · have hn0i : ((n : Int) == 0) = false := beq_eq_false_iff_ne.2 (by omega)
        have hn65 : body.length + n ≤ 65536 := by omega
        by_cases hsh : rest.length < n
        · have dgt : decide ((L : Int) < (a : Int) + (n : Int)) = true := decide_eq_true (by omega)
          have HF := Lib.hid (HE.out.trans (allL_short hs hn0 hsh))
          obtain ⟨q, hq⟩ : ∃ q, a + q = L := ⟨L - a, by omega⟩
          clear hs HE
          go_upto_region 6 with (go_at_call 63; refine (size_at A c L l i Ab body.length cb none 0 0 wr HL.out HRr.out hi1 hl hnb).mono ?_; rintro e w1 ⟨hb1, hm⟩; rw [HS.out] at hm; subst hm; have hs1 := hb1.size; have HZ1 := Lib.hid (HZ.out.below hb1 hlt2); have HG1 := Lib.hid (HG.out.below hb1 hlt); have HB1 := Lib.hid (HB.out.trans (hb1.mono HB.out.size)); have HO1 := Lib.hid (HO.out.far hb1); obtain ⟨hcx0, hcx1, hcx2, hcx3, hcx4⟩ := HG1.out.cells; obtain ⟨hfx0, hfx1, hfx2, hfx3, hfx4⟩ := HG1.out.frees; have hlt1 : w.heap.size + 1 < w1.heap.size := (by omega); have hlt0 : w.heap.size < w1.heap.size := (by omega); clear hb1)
          obtain ⟨w8, hw8⟩ : ∃ w8, w8 = ((((((w1.setCell ⟨w.heap.size + 1, 0, none⟩ (.int .i64 (a : Int))).setCell ⟨w.heap.size + 1, 1, none⟩ (.int .i64 0)).setCell ⟨w.heap.size + 1, 2, none⟩ (.bool false)).setCell ⟨w.heap.size + 1, 3, none⟩ (.slice Ab body.length cb)).setCell ⟨w.heap.size + 1, 4, none⟩ (.slice none 0 0)).alloc (.cells #[.int .i64 (a : Int), .int .i64 0, .bool false, .slice Ab body.length cb, .slice none 0 0] 76)) := ⟨_, rfl⟩
          have hB8 : Below w.heap.size w w8 := by rw [hw8]; exact below_al (HB1.out.trans (set5_below (by omega) _ _ _ _ _)) _
          have hX8 : Bx w8 (w.heap.size + 1) (rg5 a 0 false (.slice Ab body.length cb) (.slice none 0 0)) := by rw [hw8]; exact (set5_bx HG1.out rfl _ _ _ _ _).alloc _
          have hZ8 : Bx w8 w.heap.size zero5 := by rw [hw8]; exact (set5_bxO HZ1.out (by omega) _ _ _ _ _).alloc _
          have hO8 : Ow w8 (w.heap.size + 2) 5 (.slice Ab body.length cb) (bc body) := by rw [hw8]; exact (ow_set5 HO1.out (by omega) _ _ _ _ _).alloc _
          rw [← hw8]
          have HB8 := Lib.hid hB8
          have HZ8 := Lib.hid hZ8
          have HO8 := Lib.hid hO8
          have HR8 := Lib.hid (rd_step HR.out hB8)
          have hl8 := hX8.lt
          have hz8 := hZ8.lt
          obtain ⟨hcv0, hcv1, hcv2, hcv3, hcv4⟩ := hX8.cells
          have HX8 := Lib.hid hX8
          clear hw8 hB8 hX8 hZ8 hO8 hcx0 hcx1 hcx2 hcx3 hcx4 hfx0 hfx1 hfx2 hfx3 hfx4 hcg0 hcg1 hcg2 hcg3 hcg4 hfg0 hfg1 hfg2 hfg3 hfg4
          have rB8 : Rd w8 w8.heap.size (cutA A c a) q (bc (rest.take q)) := by
            have := HR8.out.cut (k := a) (m := a + q) (cap := c) (by omega) (by omega) hc
            rw [show a + q - a = q by omega, show ((bc l).drop a).take q = bc (rest.take q) by rw [hj1]; simp [bc, List.map_drop, List.map_take]] at this
            exact this
          have ksl : ∀ W, (Instr.slice 22 (.slice A L c) (some (.int .i64 (a : Int))) (some (.int .i64 (L : Int))) none).run Tryd.prog W = .ok (.slice (cutA A c a) q (c - a)) W := fun W => by
            have := run_sl_lh (P := Tryd.prog) W 22 5 Tryd.underlying22 (fun w => by kernel_rfl) A L c a (a + q) (by omega) (by omega)
            rw [show a + q - a = q by omega, show ((a + q : Nat) : Int) = (L : Int) by omega] at this
            exact this
          have rA := rd_dr (rd_top (ow_rd HO8.out) (.cells #[] 5))
          have rB := rd_dr (rd_top rB8 (.cells #[] 5))
          have kA : Below w8.heap.size w8 (w8.alloc (.cells #[] 5)).drew := ((Below.refl _ _).alloc (Nat.le_refl _) _).drew
          have hfv := HX8.out.free 3
          have htk : (bc (body ++ rest.take q)).length = body.length + q := by rw [bc_length, List.length_append, List.length_take]; omega
          go_upto_region 11 with fail
          go_cut [36] from 36 to 46 (fun v36 wx => ∃ A2 c2, body.length + q ≤ c2 ∧ Hid (Bx wx (w.heap.size + 1) (rg5 a 0 false (.slice A2 (body.length + q) c2) (.slice none 0 0))) ∧ Hid (Bx wx w.heap.size zero5) ∧ Hid (OwE wx (w.heap.size + 2) 5 (.slice A2 (body.length + q) c2) (bc (body ++ rest.take q))) ∧ Hid (Below w.heap.size w wx))
          case first =>
            go_region_law (first
              | (refine step_app0 _ rfl _ _ _ _ rfl w8.heap.size 5 i0 (.int .u8 0) 1 Tryd.underlying22 hi hz0 hz1 hz2 rfl (by omega) ?_ (.slice Ab body.length cb) ?_ body.length (bc body) ?_ ?_ ?_ ?_
                 · exact ⟨_, rfl, fun q hq => by cases hq; exact Nat.le_refl _⟩
                 · rfl
                 · exact Rd.src rA Tryd.underlying22 (bc_one _)
                 · omega
                 · simp <;> omega
                 intro v3 w3 hown3 hb3 hsz3
                 have rB3 := rd_step rB hb3
                 have kB := kA.trans (hb3.mono kA.size)
                 obtain ⟨hc30, _, _, hc33, _⟩ := (HX8.out.below kB hl8).cells)
              | (refine step_appE _ rfl _ _ _ _ rfl w8.heap.size 5 i0 (.int .u8 0) 1 Tryd.underlying22 hi hz0 hz1 hz2 rfl (by omega) _ _ hown3 ?_ (.slice (cutA A c a) q (c - a)) ?_ q (bc (rest.take q)) ?_ ?_ ?_ ?_
                 · rfl
                 · rfl
                 · exact Rd.src rB3 Tryd.underlying22 (bc_one _)
                 · rw [bc_length]; omega
                 · exact hsz3
                 intro v5 w5 hown5 hgr5 hsz5
                 have kC := kB.trans (hgr5.below hown3.lt hsz3)
                 have hX5 := HX8.out.below kC hl8
                 have hZ5 := HZ8.out.below kC hz8
                 obtain ⟨_, _, _, hc53, _⟩ := hX5.cells
                 have hf53 := hX5.free 3
                 rw [bc_app] at hown5
                 obtain ⟨A5, c5, rfl, hl5, ho5⟩ := owE_val hown5 (body.length + q) htk))
            all_goals
              go_wp2_with fail
              go_meet
              have hx5 := hX5.set_ 3 (.slice A5 (body.length + q) c5)
              have hz5 := hZ5.setO (g' := w.heap.size + 1) (by omega) 3 (.slice A5 (body.length + q) c5)
              have hb5 := (HB8.out.trans (kC.mono HB8.out.size)).setCell (show w.heap.size ≤ (⟨w.heap.size + 1, 3, none⟩ : Addr).block from Nat.le_succ _) (.slice A5 (body.length + q) c5)
              have ho6 := (owE_setO (g := w.heap.size + 1) ho5 hl8 3 (.slice A5 (body.length + q) c5)).mono (show w.heap.size + 2 ≤ w8.heap.size by omega)
              first
                | exact ⟨A5, c5, hl5, Lib.hid hx5.drew, Lib.hid hz5.drew, Lib.hid ho6.drew, Lib.hid hb5.drew⟩
                | exact ⟨A5, c5, hl5, Lib.hid hx5, Lib.hid hz5, Lib.hid ho6, Lib.hid hb5⟩
          case rest =>
            obtain ⟨A2, c2, hc2, HXc, HZc, HOc, HBc⟩ := hcut
            have hful : ((L : Int) == (a : Int) + (n : Int)) = false := beq_eq_false_iff_ne.2 (by omega)
            obtain ⟨hcx0, hcx1, hcx2, hcx3, hcx4⟩ := HXc.out.cells
            obtain ⟨hfx0, hfx1, hfx2, hfx3, hfx4⟩ := HXc.out.frees
            obtain ⟨hcy0, hcy1, hcy2, hcy3, hcy4⟩ := HZc.out.cells
            obtain ⟨hfy0, hfy1, hfy2, hfy3, hfy4⟩ := HZc.out.frees
            have hlc := HXc.out.lt
            have hzc := HZc.out.lt
            have e1 : a + rest.length = L := by omega
            have e2 : rest.take q = rest := List.take_of_length_le (by omega)
            have e3 : (body ++ rest).length = body.length + q := by rw [List.length_append]; omega
            have HOe := Lib.hid (And.intro e1 (And.intro e2 e3))
            clear rA rB kA ksl hfv htk rB8 hcv0 hcv1 hcv2 hcv3 hcv4 hl8 hz8 e1 e2 e3
            go_wp2_with fail
            refine bodyPost_ret (res1 Tryd.results46 _ _ w.heap.size _ rfl (set5_bx (HZc.out.setO (g' := w.heap.size + 1) (by omega) 0 (.int .i64 (L : Int))) rfl _ _ _ _ _) rfl) rfl ?_
            rw [HF.out]
            refine ⟨(HBc.out.setCell (show w.heap.size ≤ (⟨w.heap.size + 1, 0, none⟩ : Addr).block from Nat.le_succ _) _).trans (set5_below (Nat.le_refl _) _ _ _ _ _), A2, c2, none, 0, by rw [HOe.out.2.2]; exact hc2, Nat.le_refl _, by rw [HOe.out.1, HOe.out.2.2]; rfl, ?_, (.inl (Ow.nil _ _ _))⟩
            have ho := owE_set5 (g := w.heap.size) (owE_setO (g := w.heap.size + 1) HOc.out (by omega) 0 (.int .i64 (L : Int))) (by omega) (.int .i64 (L : Int)) (.int .i64 0) (.bool false) (.slice A2 (body.length + q) c2) (.slice none 0 0)
            rw [HOe.out.2.1] at ho
            rw [HOe.out.2.2]
            exact ho.mono (by omega)
        · have dgt : decide ((L : Int) < (a : Int) + (n : Int)) = false := decide_eq_false (by omega)
          have hnL : a + n ≤ L := by omega
          go_upto_region 6 with (go_at_call 63; refine (size_at A c L l i Ab body.length cb none 0 0 wr HL.out HRr.out hi1 hl hnb).mono ?_; rintro e w1 ⟨hb1, hm⟩; rw [HS.out] at hm; subst hm; have hs1 := hb1.size; have HZ1 := Lib.hid (HZ.out.below hb1 hlt2); have HG1 := Lib.hid (HG.out.below hb1 hlt); have HB1 := Lib.hid (HB.out.trans (hb1.mono HB.out.size)); have HO1 := Lib.hid (HO.out.far hb1); obtain ⟨hcx0, hcx1, hcx2, hcx3, hcx4⟩ := HG1.out.cells; obtain ⟨hfx0, hfx1, hfx2, hfx3, hfx4⟩ := HG1.out.frees; have hlt1 : w.heap.size + 1 < w1.heap.size := (by omega); have hlt0 : w.heap.size < w1.heap.size := (by omega); clear hb1)
          obtain ⟨w8, hw8⟩ : ∃ w8, w8 = ((((((w1.setCell ⟨w.heap.size + 1, 0, none⟩ (.int .i64 (a : Int))).setCell ⟨w.heap.size + 1, 1, none⟩ (.int .i64 0)).setCell ⟨w.heap.size + 1, 2, none⟩ (.bool false)).setCell ⟨w.heap.size + 1, 3, none⟩ (.slice Ab body.length cb)).setCell ⟨w.heap.size + 1, 4, none⟩ (.slice none 0 0)).alloc (.cells #[.int .i64 (a : Int), .int .i64 0, .bool false, .slice Ab body.length cb, .slice none 0 0] 76)) := ⟨_, rfl⟩
          have hB8 : Below w.heap.size w w8 := by rw [hw8]; exact below_al (HB1.out.trans (set5_below (by omega) _ _ _ _ _)) _
          have hX8 : Bx w8 (w.heap.size + 1) (rg5 a 0 false (.slice Ab body.length cb) (.slice none 0 0)) := by rw [hw8]; exact (set5_bx HG1.out rfl _ _ _ _ _).alloc _
          have hZ8 : Bx w8 w.heap.size zero5 := by rw [hw8]; exact (set5_bxO HZ1.out (by omega) _ _ _ _ _).alloc _
          have hO8 : Ow w8 (w.heap.size + 2) 5 (.slice Ab body.length cb) (bc body) := by rw [hw8]; exact (ow_set5 HO1.out (by omega) _ _ _ _ _).alloc _
          rw [← hw8]
          have HB8 := Lib.hid hB8
          have HZ8 := Lib.hid hZ8
          have HO8 := Lib.hid hO8
          have HR8 := Lib.hid (rd_step HR.out hB8)
          have hl8 := hX8.lt
          have hz8 := hZ8.lt
          obtain ⟨hcv0, hcv1, hcv2, hcv3, hcv4⟩ := hX8.cells
          have HX8 := Lib.hid hX8
          clear hw8 hB8 hX8 hZ8 hO8 hcx0 hcx1 hcx2 hcx3 hcx4 hfx0 hfx1 hfx2 hfx3 hfx4 hcg0 hcg1 hcg2 hcg3 hcg4 hfg0 hfg1 hfg2 hfg3 hfg4
          have rB8 : Rd w8 w8.heap.size (cutA A c a) n (bc (rest.take n)) := by
            have := HR8.out.cut (k := a) (m := a + n) (cap := c) (by omega) (by omega) hc
            rw [show a + n - a = n by omega, show ((bc l).drop a).take n = bc (rest.take n) by rw [hj1]; simp [bc, List.map_drop, List.map_take]] at this
            exact this
          have ksl : ∀ W, (Instr.slice 22 (.slice A L c) (some (.int .i64 (a : Int))) (some (.int .i64 ((a : Int) + (n : Int)))) none).run Tryd.prog W = .ok (.slice (cutA A c a) n (c - a)) W := fun W => by
            have := run_sl_lh (P := Tryd.prog) W 22 5 Tryd.underlying22 (fun w => by kernel_rfl) A L c a (a + n) (by omega) (by omega)
            rw [show a + n - a = n by omega, show ((a + n : Nat) : Int) = (a : Int) + (n : Int) by omega] at this
            exact this
          have rA := rd_dr (rd_top (ow_rd HO8.out) (.cells #[] 5))
          have rB := rd_dr (rd_top rB8 (.cells #[] 5))
          have kA : Below w8.heap.size w8 (w8.alloc (.cells #[] 5)).drew := ((Below.refl _ _).alloc (Nat.le_refl _) _).drew
          have hfv := HX8.out.free 3
          have htk : (bc (body ++ rest.take n)).length = body.length + n := by rw [bc_length, List.length_append, List.length_take]; omega
          go_upto_region 11 with fail
          go_cut [36] from 36 to 46 (fun v36 wx => ∃ A2 c2, body.length + n ≤ c2 ∧ Hid (Bx wx (w.heap.size + 1) (rg5 a 0 false (.slice A2 (body.length + n) c2) (.slice none 0 0))) ∧ Hid (Bx wx w.heap.size zero5) ∧ Hid (OwE wx (w.heap.size + 2) 5 (.slice A2 (body.length + n) c2) (bc (body ++ rest.take n))) ∧ Hid (Below w.heap.size w wx))
          case first =>
            go_region_law (first
              | (refine step_app0 _ rfl _ _ _ _ rfl w8.heap.size 5 i0 (.int .u8 0) 1 Tryd.underlying22 hi hz0 hz1 hz2 rfl (by omega) ?_ (.slice Ab body.length cb) ?_ body.length (bc body) ?_ ?_ ?_ ?_
                 · exact ⟨_, rfl, fun q hq => by cases hq; exact Nat.le_refl _⟩
                 · rfl
                 · exact Rd.src rA Tryd.underlying22 (bc_one _)
                 · omega
                 · simp <;> omega
                 intro v3 w3 hown3 hb3 hsz3
                 have rB3 := rd_step rB hb3
                 have kB := kA.trans (hb3.mono kA.size)
                 obtain ⟨hc30, _, _, hc33, _⟩ := (HX8.out.below kB hl8).cells)
              | (refine step_appE _ rfl _ _ _ _ rfl w8.heap.size 5 i0 (.int .u8 0) 1 Tryd.underlying22 hi hz0 hz1 hz2 rfl (by omega) _ _ hown3 ?_ (.slice (cutA A c a) n (c - a)) ?_ n (bc (rest.take n)) ?_ ?_ ?_ ?_
                 · rfl
                 · rfl
                 · exact Rd.src rB3 Tryd.underlying22 (bc_one _)
                 · rw [bc_length]; omega
                 · exact hsz3
                 intro v5 w5 hown5 hgr5 hsz5
                 have kC := kB.trans (hgr5.below hown3.lt hsz3)
                 have hX5 := HX8.out.below kC hl8
                 have hZ5 := HZ8.out.below kC hz8
                 obtain ⟨_, _, _, hc53, _⟩ := hX5.cells
                 have hf53 := hX5.free 3
                 rw [bc_app] at hown5
                 obtain ⟨A5, c5, rfl, hl5, ho5⟩ := owE_val hown5 (body.length + n) htk))
            all_goals
              go_wp2_with fail
              go_meet
              have hx5 := hX5.set_ 3 (.slice A5 (body.length + n) c5)
              have hz5 := hZ5.setO (g' := w.heap.size + 1) (by omega) 3 (.slice A5 (body.length + n) c5)
              have hb5 := (HB8.out.trans (kC.mono HB8.out.size)).setCell (show w.heap.size ≤ (⟨w.heap.size + 1, 3, none⟩ : Addr).block from Nat.le_succ _) (.slice A5 (body.length + n) c5)
              have ho6 := (owE_setO (g := w.heap.size + 1) ho5 hl8 3 (.slice A5 (body.length + n) c5)).mono (show w.heap.size + 2 ≤ w8.heap.size by omega)
              first
                | exact ⟨A5, c5, hl5, Lib.hid hx5.drew, Lib.hid hz5.drew, Lib.hid ho6.drew, Lib.hid hb5.drew⟩
                | exact ⟨A5, c5, hl5, Lib.hid hx5, Lib.hid hz5, Lib.hid ho6, Lib.hid hb5⟩
          case rest =>
            obtain ⟨A2, c2, hc2, HXc, HZc, HOc, HBc⟩ := hcut
            obtain ⟨hcx0, hcx1, hcx2, hcx3, hcx4⟩ := HXc.out.cells
            obtain ⟨hfx0, hfx1, hfx2, hfx3, hfx4⟩ := HXc.out.frees
            obtain ⟨hcy0, hcy1, hcy2, hcy3, hcy4⟩ := HZc.out.cells
            obtain ⟨hfy0, hfy1, hfy2, hfy3, hfy4⟩ := HZc.out.frees
            have hlc := HXc.out.lt
            have hzc := HZc.out.lt
            have e3 : (body ++ rest.take n).length = body.length + n := by rw [List.length_append, List.length_take]; omega
            have HOe := Lib.hid e3
            have hd0 := drop_at (n := n) hj1
            clear rA rB kA ksl hfv htk rB8 hcv0 hcv1 hcv2 hcv3 hcv4 hl8 hz8 e3
            obtain ⟨D, hD⟩ : ∃ D, D = rest.drop n := ⟨_, rfl⟩
            match D, hD with
            | [], hD =>
              have HF := Lib.hid (HE.out.trans (allL_end hs hn0 hsh hD.symm))
              have hend : a + n = L := by
                have := congrArg List.length hD
                rw [List.length_drop] at this
                simp at this
                omega
              clear hs HE hD hd0
              go_upto_region 16 with fail
              obtain ⟨w9, hw9⟩ : ∃ w9, w9 = wc.setCell ⟨w.heap.size + 1, 0, none⟩ (.int .i64 ((a : Int) + (n : Int))) := ⟨_, rfl⟩
              have hX9 : Bx w9 (w.heap.size + 1) [.int .i64 ((a : Int) + (n : Int)), .int .i64 0, .bool false, (.slice A2 (body.length + n) c2), .slice none 0 0] := by rw [hw9]; exact HXc.out.set_ 0 _
              have hZ9 : Bx w9 w.heap.size zero5 := by rw [hw9]; exact HZc.out.setO (by omega) 0 _
              have hO9 : OwE w9 (w.heap.size + 2) 5 (.slice A2 (body.length + n) c2) (bc (body ++ rest.take n)) := by rw [hw9]; exact owE_setO HOc.out (by omega) 0 _
              have hB9 : Below w.heap.size w w9 := by rw [hw9]; exact HBc.out.setCell (Nat.le_succ _) _
              rw [← hw9]
              have hl9 := hX9.lt
              have hz9 := hZ9.lt
              obtain ⟨hcv0, hcv1, hcv2, hcv3, hcv4⟩ := hX9.cells
              have HX9 := Lib.hid hX9
              have HZ9 := Lib.hid hZ9
              have HO9 := Lib.hid hO9
              have HB9 := Lib.hid hB9
              have HR9 := Lib.hid (rd_step HR.out hB9)
              clear hw9 hX9 hZ9 hO9 hB9 hcx0 hcx1 hcx2 hcx3 hcx4 hfx0 hfx1 hfx2 hfx3 hfx4 hcy0 hcy1 hcy2 hcy3 hcy4 hfy0 hfy1 hfy2 hfy3 hfy4 hlc hzc
              go_wp2_with (go_at_call 65; refine (wants_endI A c L 0 false A2 (body.length + n) c2 none 0 0 13 ((a : Int) + (n : Int)) 13 _ (by omega) rfl).mono ?_; rintro e w10 ⟨rfl, hb10⟩; have hs10 := hb10.size; have HX10 := Lib.hid (HX9.out.below hb10 hl9); have HZ10 := Lib.hid (HZ9.out.below hb10 hz9); have HO10 := Lib.hid (HO9.out.far hb10); have HB10 := Lib.hid (HB9.out.trans (hb10.mono HB9.out.size)); obtain ⟨hcx0, hcx1, hcx2, hcx3, hcx4⟩ := HX10.out.cells; obtain ⟨hfx0, hfx1, hfx2, hfx3, hfx4⟩ := HX10.out.frees; obtain ⟨hcy0, hcy1, hcy2, hcy3, hcy4⟩ := HZ10.out.cells; obtain ⟨hfy0, hfy1, hfy2, hfy3, hfy4⟩ := HZ10.out.frees; have hl10 := HX10.out.lt; have hz10 := HZ10.out.lt; clear hb10)
              refine bodyPost_ret (res1 Tryd.results46 _ _ w.heap.size _ rfl (set5_bx (set5_bxO HZ10.out (by omega) _ _ _ _ _) rfl _ _ _ _ _) rfl) rfl ?_
              rw [HF.out]
              refine ⟨(HB10.out.trans (set5_below (by omega) _ _ _ _ _)).trans (set5_below (Nat.le_refl _) _ _ _ _ _), A2, c2, none, 0, by rw [HOe.out]; exact hc2, Nat.le_refl _, by rw [HOe.out]; simp only [rgV, Int.natCast_add] <;> rfl, ?_, .inl (Ow.nil _ _ _)⟩
              rw [HOe.out]
              exact (owE_set5 (owE_set5 HO10.out (by omega) _ _ _ _ _) (by omega) _ _ _ _ _).mono (by omega)
            | y :: m, hD =>
              have hg0 : l[a + n + 0]? = some y := get_drop (hd0.symm.trans hD.symm)
              have HG0 := Lib.hid hg0
              have hlen : a + n + 1 + m.length = L := by
                have := congrArg List.length hD
                rw [List.length_drop, List.length_cons] at this
                omega
              by_cases hne : y = 13
              · subst hne
                match m, hD, hlen with
                | [], hD, hlen =>
                  have HF := Lib.hid (HE.out.trans (allL_cr hs hn0 hsh hD.symm))
                  have hend : a + n + 1 = L := by simpa using hlen
                  clear hs HE hD hd0 hg0 hlen
                  go_upto_region 16 with fail
                  obtain ⟨w9, hw9⟩ : ∃ w9, w9 = wc.setCell ⟨w.heap.size + 1, 0, none⟩ (.int .i64 ((a : Int) + (n : Int))) := ⟨_, rfl⟩
                  have hX9 : Bx w9 (w.heap.size + 1) [.int .i64 ((a : Int) + (n : Int)), .int .i64 0, .bool false, (.slice A2 (body.length + n) c2), .slice none 0 0] := by rw [hw9]; exact HXc.out.set_ 0 _
                  have hZ9 : Bx w9 w.heap.size zero5 := by rw [hw9]; exact HZc.out.setO (by omega) 0 _
                  have hO9 : OwE w9 (w.heap.size + 2) 5 (.slice A2 (body.length + n) c2) (bc (body ++ rest.take n)) := by rw [hw9]; exact owE_setO HOc.out (by omega) 0 _
                  have hB9 : Below w.heap.size w w9 := by rw [hw9]; exact HBc.out.setCell (Nat.le_succ _) _
                  rw [← hw9]
                  have hl9 := hX9.lt
                  have hz9 := hZ9.lt
                  obtain ⟨hcv0, hcv1, hcv2, hcv3, hcv4⟩ := hX9.cells
                  have HX9 := Lib.hid hX9
                  have HZ9 := Lib.hid hZ9
                  have HO9 := Lib.hid hO9
                  have HB9 := Lib.hid hB9
                  have HR9 := Lib.hid (rd_step HR.out hB9)
                  clear hw9 hX9 hZ9 hO9 hB9 hcx0 hcx1 hcx2 hcx3 hcx4 hfx0 hfx1 hfx2 hfx3 hfx4 hcy0 hcy1 hcy2 hcy3 hcy4 hfy0 hfy1 hfy2 hfy3 hfy4 hlc hzc
                  go_upto_region 18 with (go_at_call 65; refine (wants_okI A c L l (a + n + 0) 0 false A2 (body.length + n) c2 none 0 0 13 ((a : Int) + (n : Int)) 13 _ (by omega) rfl HG0.out HL.out HR9.out hl).mono ?_; rintro e w10 ⟨rfl, hb10⟩; have hs10 := hb10.size; have HX10 := Lib.hid (HX9.out.below hb10 hl9); have HZ10 := Lib.hid (HZ9.out.below hb10 hz9); have HO10 := Lib.hid (HO9.out.far hb10); have HB10 := Lib.hid (HB9.out.trans (hb10.mono HB9.out.size)); obtain ⟨hcx0, hcx1, hcx2, hcx3, hcx4⟩ := HX10.out.cells; obtain ⟨hfx0, hfx1, hfx2, hfx3, hfx4⟩ := HX10.out.frees; obtain ⟨hcy0, hcy1, hcy2, hcy3, hcy4⟩ := HZ10.out.cells; obtain ⟨hfy0, hfy1, hfy2, hfy3, hfy4⟩ := HZ10.out.frees; have hl10 := HX10.out.lt; have hz10 := HZ10.out.lt; clear hb10)
                  obtain ⟨wA, hwA⟩ : ∃ wA, wA = ((((((w10.setCell ⟨w.heap.size + 1, 0, none⟩ (.int .i64 ((a : Int) + (n : Int) + 1))).setCell ⟨w.heap.size + 1, 1, none⟩ (.int .i64 0)).setCell ⟨w.heap.size + 1, 2, none⟩ (.bool false)).setCell ⟨w.heap.size + 1, 3, none⟩ (.slice A2 (body.length + n) c2)).setCell ⟨w.heap.size + 1, 4, none⟩ (.slice none 0 0))) := ⟨_, rfl⟩
                  have hXA : Bx wA (w.heap.size + 1) [.int .i64 ((a : Int) + (n : Int) + 1), .int .i64 0, .bool false, (.slice A2 (body.length + n) c2), .slice none 0 0] := by rw [hwA]; exact set5_bx HX10.out rfl _ _ _ _ _
                  have hZA : Bx wA w.heap.size zero5 := by rw [hwA]; exact set5_bxO HZ10.out (by omega) _ _ _ _ _
                  have hOA : OwE wA (w.heap.size + 2) 5 (.slice A2 (body.length + n) c2) (bc (body ++ rest.take n)) := by rw [hwA]; exact owE_set5 HO10.out (by omega) _ _ _ _ _
                  have hBA : Below w.heap.size w wA := by rw [hwA]; exact HB10.out.trans (set5_below (by omega) _ _ _ _ _)
                  rw [← hwA]
                  have hl11 := hXA.lt
                  have hz11 := hZA.lt
                  obtain ⟨hcu0, hcu1, hcu2, hcu3, hcu4⟩ := hXA.cells
                  have HX11 := Lib.hid hXA
                  have HZ11 := Lib.hid hZA
                  have HO11 := Lib.hid hOA
                  have HB11 := Lib.hid hBA
                  have HRA := Lib.hid (rd_step HR.out hBA)
                  clear hwA hXA hZA hOA hBA hcx0 hcx1 hcx2 hcx3 hcx4 hfx0 hfx1 hfx2 hfx3 hfx4 hcy0 hcy1 hcy2 hcy3 hcy4 hfy0 hfy1 hfy2 hfy3 hfy4 hcv0 hcv1 hcv2 hcv3 hcv4
                  go_wp2_with (go_at_call 65; refine (wants_endI A c L 0 false A2 (body.length + n) c2 none 0 0 10 ((a : Int) + (n : Int) + 1) 10 _ (by omega) rfl).mono ?_; rintro e w12 ⟨rfl, hb12⟩; have hs12 := hb12.size; have HX12 := Lib.hid (HX11.out.below hb12 hl11); have HZ12 := Lib.hid (HZ11.out.below hb12 hz11); have HO12 := Lib.hid (HO11.out.far hb12); have HB12 := Lib.hid (HB11.out.trans (hb12.mono HB11.out.size)); obtain ⟨hcx0, hcx1, hcx2, hcx3, hcx4⟩ := HX12.out.cells; obtain ⟨hfx0, hfx1, hfx2, hfx3, hfx4⟩ := HX12.out.frees; obtain ⟨hcy0, hcy1, hcy2, hcy3, hcy4⟩ := HZ12.out.cells; obtain ⟨hfy0, hfy1, hfy2, hfy3, hfy4⟩ := HZ12.out.frees; have hl12 := HX12.out.lt; have hz12 := HZ12.out.lt; clear hb12)
                  refine bodyPost_ret (res1 Tryd.results46 _ _ w.heap.size _ rfl (set5_bx (set5_bxO HZ12.out (by omega) _ _ _ _ _) rfl _ _ _ _ _) rfl) rfl ?_
                  rw [HF.out]
                  refine ⟨(HB12.out.trans (set5_below (by omega) _ _ _ _ _)).trans (set5_below (Nat.le_refl _) _ _ _ _ _), A2, c2, none, 0, by rw [HOe.out]; exact hc2, Nat.le_refl _, by rw [HOe.out]; simp only [rgV, Int.natCast_add] <;> rfl, ?_, .inl (Ow.nil _ _ _)⟩
                  rw [HOe.out]
                  exact (owE_set5 (owE_set5 HO12.out (by omega) _ _ _ _ _) (by omega) _ _ _ _ _).mono (by omega)
                | d :: m, hD, hlen =>
                  have hdd : l.drop (a + n + 1) = d :: m := by
                    have h1 : l.drop (a + n + 1) = (l.drop (a + n)).drop 1 := by rw [List.drop_drop]
                    rw [h1, ← hd0, ← hD]; rfl
                  have hg1 : l[a + n + 1]? = some d := get_drop hdd
                  have HG1b := Lib.hid hg1
                  have hlen2 : a + n + 2 + m.length = L := by rw [List.length_cons] at hlen; omega
                  by_cases hne : d = 10
                  · subst hne
                    have hm : m = l.drop (a + n + 2) := by
                      have h1 : l.drop (a + n + 2) = (l.drop (a + n + 1)).drop 1 := by rw [List.drop_drop]
                      rw [h1, hdd]; rfl
                    have HF := Lib.hid (show R = allL f (l.drop (a + n + 2)) (a + n + 2) (body ++ rest.take n) by rw [← hm]; exact HE.out.trans (allL_go hs hn0 hsh hD.symm))
                    have hpos : 0 < n := Nat.pos_of_ne_zero hn0
                    clear hs HE hD hd0 hg0 hlen hdd hg1 hm
                    go_upto_region 16 with fail
                    obtain ⟨w9, hw9⟩ : ∃ w9, w9 = wc.setCell ⟨w.heap.size + 1, 0, none⟩ (.int .i64 ((a : Int) + (n : Int))) := ⟨_, rfl⟩
                    have hX9 : Bx w9 (w.heap.size + 1) [.int .i64 ((a : Int) + (n : Int)), .int .i64 0, .bool false, (.slice A2 (body.length + n) c2), .slice none 0 0] := by rw [hw9]; exact HXc.out.set_ 0 _
                    have hZ9 : Bx w9 w.heap.size zero5 := by rw [hw9]; exact HZc.out.setO (by omega) 0 _
                    have hO9 : OwE w9 (w.heap.size + 2) 5 (.slice A2 (body.length + n) c2) (bc (body ++ rest.take n)) := by rw [hw9]; exact owE_setO HOc.out (by omega) 0 _
                    have hB9 : Below w.heap.size w w9 := by rw [hw9]; exact HBc.out.setCell (Nat.le_succ _) _
                    rw [← hw9]
                    have hl9 := hX9.lt
                    have hz9 := hZ9.lt
                    obtain ⟨hcv0, hcv1, hcv2, hcv3, hcv4⟩ := hX9.cells
                    have HX9 := Lib.hid hX9
                    have HZ9 := Lib.hid hZ9
                    have HO9 := Lib.hid hO9
                    have HB9 := Lib.hid hB9
                    have HR9 := Lib.hid (rd_step HR.out hB9)
                    clear hw9 hX9 hZ9 hO9 hB9 hcx0 hcx1 hcx2 hcx3 hcx4 hfx0 hfx1 hfx2 hfx3 hfx4 hcy0 hcy1 hcy2 hcy3 hcy4 hfy0 hfy1 hfy2 hfy3 hfy4 hlc hzc
                    go_upto_region 18 with (go_at_call 65; refine (wants_okI A c L l (a + n + 0) 0 false A2 (body.length + n) c2 none 0 0 13 ((a : Int) + (n : Int)) 13 _ (by omega) rfl HG0.out HL.out HR9.out hl).mono ?_; rintro e w10 ⟨rfl, hb10⟩; have hs10 := hb10.size; have HX10 := Lib.hid (HX9.out.below hb10 hl9); have HZ10 := Lib.hid (HZ9.out.below hb10 hz9); have HO10 := Lib.hid (HO9.out.far hb10); have HB10 := Lib.hid (HB9.out.trans (hb10.mono HB9.out.size)); obtain ⟨hcx0, hcx1, hcx2, hcx3, hcx4⟩ := HX10.out.cells; obtain ⟨hfx0, hfx1, hfx2, hfx3, hfx4⟩ := HX10.out.frees; obtain ⟨hcy0, hcy1, hcy2, hcy3, hcy4⟩ := HZ10.out.cells; obtain ⟨hfy0, hfy1, hfy2, hfy3, hfy4⟩ := HZ10.out.frees; have hl10 := HX10.out.lt; have hz10 := HZ10.out.lt; clear hb10)
                    obtain ⟨wA, hwA⟩ : ∃ wA, wA = ((((((w10.setCell ⟨w.heap.size + 1, 0, none⟩ (.int .i64 ((a : Int) + (n : Int) + 1))).setCell ⟨w.heap.size + 1, 1, none⟩ (.int .i64 0)).setCell ⟨w.heap.size + 1, 2, none⟩ (.bool false)).setCell ⟨w.heap.size + 1, 3, none⟩ (.slice A2 (body.length + n) c2)).setCell ⟨w.heap.size + 1, 4, none⟩ (.slice none 0 0))) := ⟨_, rfl⟩
                    have hXA : Bx wA (w.heap.size + 1) [.int .i64 ((a : Int) + (n : Int) + 1), .int .i64 0, .bool false, (.slice A2 (body.length + n) c2), .slice none 0 0] := by rw [hwA]; exact set5_bx HX10.out rfl _ _ _ _ _
                    have hZA : Bx wA w.heap.size zero5 := by rw [hwA]; exact set5_bxO HZ10.out (by omega) _ _ _ _ _
                    have hOA : OwE wA (w.heap.size + 2) 5 (.slice A2 (body.length + n) c2) (bc (body ++ rest.take n)) := by rw [hwA]; exact owE_set5 HO10.out (by omega) _ _ _ _ _
                    have hBA : Below w.heap.size w wA := by rw [hwA]; exact HB10.out.trans (set5_below (by omega) _ _ _ _ _)
                    rw [← hwA]
                    have hl11 := hXA.lt
                    have hz11 := hZA.lt
                    obtain ⟨hcu0, hcu1, hcu2, hcu3, hcu4⟩ := hXA.cells
                    have HX11 := Lib.hid hXA
                    have HZ11 := Lib.hid hZA
                    have HO11 := Lib.hid hOA
                    have HB11 := Lib.hid hBA
                    have HRA := Lib.hid (rd_step HR.out hBA)
                    clear hwA hXA hZA hOA hBA hcx0 hcx1 hcx2 hcx3 hcx4 hfx0 hfx1 hfx2 hfx3 hfx4 hcy0 hcy1 hcy2 hcy3 hcy4 hfy0 hfy1 hfy2 hfy3 hfy4 hcv0 hcv1 hcv2 hcv3 hcv4
                    go_wp2_with (go_at_call 65; refine (wants_okI A c L l (a + n + 1) 0 false A2 (body.length + n) c2 none 0 0 10 ((a : Int) + (n : Int) + 1) 10 _ (by omega) rfl HG1b.out HL.out HRA.out hl).mono ?_; rintro e w12 ⟨rfl, hb12⟩; have hs12 := hb12.size; have HX12 := Lib.hid (HX11.out.below hb12 hl11); have HZ12 := Lib.hid (HZ11.out.below hb12 hz11); have HO12 := Lib.hid (HO11.out.far hb12); have HB12 := Lib.hid (HB11.out.trans (hb12.mono HB11.out.size)); obtain ⟨hcx0, hcx1, hcx2, hcx3, hcx4⟩ := HX12.out.cells; obtain ⟨hfx0, hfx1, hfx2, hfx3, hfx4⟩ := HX12.out.frees; obtain ⟨hcy0, hcy1, hcy2, hcy3, hcy4⟩ := HZ12.out.cells; obtain ⟨hfy0, hfy1, hfy2, hfy3, hfy4⟩ := HZ12.out.frees; have hl12 := HX12.out.lt; have hz12 := HZ12.out.lt; clear hb12)
                    go_roundw
                    case rel =>
                      have ho := owE_set5 HO12.out (show w.heap.size + 1 < w.heap.size + 2 by omega) (.int .i64 ((a : Int) + (n : Int) + 1 + 1)) (.int .i64 0) (.bool false) (.slice A2 (body.length + n) c2) (.slice none 0 0)
                      have ho2 := OwE.own ho (fun e => by have := congrArg List.length e; rw [bc_length, HOe.out] at this; simp at this; omega)
                      have hx := set5_bx HX12.out rfl (.int .i64 ((a : Int) + (n : Int) + 1 + 1)) (.int .i64 0) (.bool false) (.slice A2 (body.length + n) c2) (.slice none 0 0)
                      rw [show (a : Int) + (n : Int) + 1 + 1 = ((a + n + 2 : Nat) : Int) by omega] at hx
                      refine ⟨a + n + 2, f, body ++ rest.take n, A2, c2, by omega, by omega, by rw [HOe.out]; omega, by rw [HOe.out]; exact hc2, ?_, Lib.hid (set5_bxO HZ12.out (by omega) _ _ _ _ _), ?_, HF, Lib.hid (HB12.out.trans (set5_below (by omega) _ _ _ _ _))⟩
                      · rw [HOe.out]
                        first
                          | exact Lib.hid hx
                          | (rw [show (a : Int) + (n : Int) + 1 + 1 = ((a + n + 2 : Nat) : Int) by omega]; exact Lib.hid hx)
                      · rw [HOe.out]
                        exact Lib.hid ho2
                    case measure =>
                      have h1 := set5_bx HX12.out rfl (.int .i64 ((a : Int) + (n : Int) + 1 + 1)) (.int .i64 0) (.bool false) (.slice A2 (body.length + n) c2) (.slice none 0 0)
                      have h2 : ∀ W, Bx W (w.heap.size + 1) [.int .i64 ((a : Int) + (n : Int) + 1 + 1), .int .i64 0, .bool false, (.slice A2 (body.length + n) c2), .slice none 0 0] → atOf W (w.heap.size + 1) = a + n + 2 := fun W hW => by
                        rw [show (a : Int) + (n : Int) + 1 + 1 = ((a + n + 2 : Nat) : Int) by omega] at hW
                        exact atOf_bx hW
                      rw [hat, h2 _ h1]; omega
                  · have HF := Lib.hid (HE.out.trans (allL_crx hs hn0 hsh hD.symm hne))
                    clear hs HE hD hd0 hg0 hlen hdd hg1
                    go_upto_region 16 with fail
                    obtain ⟨w9, hw9⟩ : ∃ w9, w9 = wc.setCell ⟨w.heap.size + 1, 0, none⟩ (.int .i64 ((a : Int) + (n : Int))) := ⟨_, rfl⟩
                    have hX9 : Bx w9 (w.heap.size + 1) [.int .i64 ((a : Int) + (n : Int)), .int .i64 0, .bool false, (.slice A2 (body.length + n) c2), .slice none 0 0] := by rw [hw9]; exact HXc.out.set_ 0 _
                    have hZ9 : Bx w9 w.heap.size zero5 := by rw [hw9]; exact HZc.out.setO (by omega) 0 _
                    have hO9 : OwE w9 (w.heap.size + 2) 5 (.slice A2 (body.length + n) c2) (bc (body ++ rest.take n)) := by rw [hw9]; exact owE_setO HOc.out (by omega) 0 _
                    have hB9 : Below w.heap.size w w9 := by rw [hw9]; exact HBc.out.setCell (Nat.le_succ _) _
                    rw [← hw9]
                    have hl9 := hX9.lt
                    have hz9 := hZ9.lt
                    obtain ⟨hcv0, hcv1, hcv2, hcv3, hcv4⟩ := hX9.cells
                    have HX9 := Lib.hid hX9
                    have HZ9 := Lib.hid hZ9
                    have HO9 := Lib.hid hO9
                    have HB9 := Lib.hid hB9
                    have HR9 := Lib.hid (rd_step HR.out hB9)
                    clear hw9 hX9 hZ9 hO9 hB9 hcx0 hcx1 hcx2 hcx3 hcx4 hfx0 hfx1 hfx2 hfx3 hfx4 hcy0 hcy1 hcy2 hcy3 hcy4 hfy0 hfy1 hfy2 hfy3 hfy4 hlc hzc
                    go_upto_region 18 with (go_at_call 65; refine (wants_okI A c L l (a + n + 0) 0 false A2 (body.length + n) c2 none 0 0 13 ((a : Int) + (n : Int)) 13 _ (by omega) rfl HG0.out HL.out HR9.out hl).mono ?_; rintro e w10 ⟨rfl, hb10⟩; have hs10 := hb10.size; have HX10 := Lib.hid (HX9.out.below hb10 hl9); have HZ10 := Lib.hid (HZ9.out.below hb10 hz9); have HO10 := Lib.hid (HO9.out.far hb10); have HB10 := Lib.hid (HB9.out.trans (hb10.mono HB9.out.size)); obtain ⟨hcx0, hcx1, hcx2, hcx3, hcx4⟩ := HX10.out.cells; obtain ⟨hfx0, hfx1, hfx2, hfx3, hfx4⟩ := HX10.out.frees; obtain ⟨hcy0, hcy1, hcy2, hcy3, hcy4⟩ := HZ10.out.cells; obtain ⟨hfy0, hfy1, hfy2, hfy3, hfy4⟩ := HZ10.out.frees; have hl10 := HX10.out.lt; have hz10 := HZ10.out.lt; clear hb10)
                    obtain ⟨wA, hwA⟩ : ∃ wA, wA = ((((((w10.setCell ⟨w.heap.size + 1, 0, none⟩ (.int .i64 ((a : Int) + (n : Int) + 1))).setCell ⟨w.heap.size + 1, 1, none⟩ (.int .i64 0)).setCell ⟨w.heap.size + 1, 2, none⟩ (.bool false)).setCell ⟨w.heap.size + 1, 3, none⟩ (.slice A2 (body.length + n) c2)).setCell ⟨w.heap.size + 1, 4, none⟩ (.slice none 0 0))) := ⟨_, rfl⟩
                    have hXA : Bx wA (w.heap.size + 1) [.int .i64 ((a : Int) + (n : Int) + 1), .int .i64 0, .bool false, (.slice A2 (body.length + n) c2), .slice none 0 0] := by rw [hwA]; exact set5_bx HX10.out rfl _ _ _ _ _
                    have hZA : Bx wA w.heap.size zero5 := by rw [hwA]; exact set5_bxO HZ10.out (by omega) _ _ _ _ _
                    have hOA : OwE wA (w.heap.size + 2) 5 (.slice A2 (body.length + n) c2) (bc (body ++ rest.take n)) := by rw [hwA]; exact owE_set5 HO10.out (by omega) _ _ _ _ _
                    have hBA : Below w.heap.size w wA := by rw [hwA]; exact HB10.out.trans (set5_below (by omega) _ _ _ _ _)
                    rw [← hwA]
                    have hl11 := hXA.lt
                    have hz11 := hZA.lt
                    obtain ⟨hcu0, hcu1, hcu2, hcu3, hcu4⟩ := hXA.cells
                    have HX11 := Lib.hid hXA
                    have HZ11 := Lib.hid hZA
                    have HO11 := Lib.hid hOA
                    have HB11 := Lib.hid hBA
                    have HRA := Lib.hid (rd_step HR.out hBA)
                    clear hwA hXA hZA hOA hBA hcx0 hcx1 hcx2 hcx3 hcx4 hfx0 hfx1 hfx2 hfx3 hfx4 hcy0 hcy1 hcy2 hcy3 hcy4 hfy0 hfy1 hfy2 hfy3 hfy4 hcv0 hcv1 hcv2 hcv3 hcv4
                    go_wp2_with (go_at_call 65; refine (wants_noI A c L l (a + n + 1) 0 false A2 (body.length + n) c2 none 0 0 10 d ((a : Int) + (n : Int) + 1) 10 _ (by omega) rfl HG1b.out hne HL.out HRA.out hl).mono ?_; rintro e w12 ⟨rfl, hb12⟩; have hs12 := hb12.size; have HX12 := Lib.hid (HX11.out.below hb12 hl11); have HZ12 := Lib.hid (HZ11.out.below hb12 hz11); have HO12 := Lib.hid (HO11.out.far hb12); have HB12 := Lib.hid (HB11.out.trans (hb12.mono HB11.out.size)); obtain ⟨hcx0, hcx1, hcx2, hcx3, hcx4⟩ := HX12.out.cells; obtain ⟨hfx0, hfx1, hfx2, hfx3, hfx4⟩ := HX12.out.frees; obtain ⟨hcy0, hcy1, hcy2, hcy3, hcy4⟩ := HZ12.out.cells; obtain ⟨hfy0, hfy1, hfy2, hfy3, hfy4⟩ := HZ12.out.frees; have hl12 := HX12.out.lt; have hz12 := HZ12.out.lt; clear hb12)
                    refine bodyPost_ret (res1 Tryd.results46 _ _ w.heap.size _ rfl (set5_bx (set5_bxO HZ12.out (by omega) _ _ _ _ _) rfl _ _ _ _ _) rfl) rfl ?_
                    rw [HF.out]
                    refine ⟨(HB12.out.trans (set5_below (by omega) _ _ _ _ _)).trans (set5_below (Nat.le_refl _) _ _ _ _ _), A2, c2, none, 0, by rw [HOe.out]; exact hc2, Nat.le_refl _, by rw [HOe.out]; simp only [rgV, Int.natCast_add] <;> rfl, ?_, .inl (Ow.nil _ _ _)⟩
                    rw [HOe.out]
                    exact (owE_set5 (owE_set5 HO12.out (by omega) _ _ _ _ _) (by omega) _ _ _ _ _).mono (by omega)
              · have HF := Lib.hid (HE.out.trans (allL_no hs hn0 hsh hD.symm hne))
                clear hs HE hD hd0 hg0
                go_upto_region 16 with fail
                obtain ⟨w9, hw9⟩ : ∃ w9, w9 = wc.setCell ⟨w.heap.size + 1, 0, none⟩ (.int .i64 ((a : Int) + (n : Int))) := ⟨_, rfl⟩
                have hX9 : Bx w9 (w.heap.size + 1) [.int .i64 ((a : Int) + (n : Int)), .int .i64 0, .bool false, (.slice A2 (body.length + n) c2), .slice none 0 0] := by rw [hw9]; exact HXc.out.set_ 0 _
                have hZ9 : Bx w9 w.heap.size zero5 := by rw [hw9]; exact HZc.out.setO (by omega) 0 _
                have hO9 : OwE w9 (w.heap.size + 2) 5 (.slice A2 (body.length + n) c2) (bc (body ++ rest.take n)) := by rw [hw9]; exact owE_setO HOc.out (by omega) 0 _
                have hB9 : Below w.heap.size w w9 := by rw [hw9]; exact HBc.out.setCell (Nat.le_succ _) _
                rw [← hw9]
                have hl9 := hX9.lt
                have hz9 := hZ9.lt
                obtain ⟨hcv0, hcv1, hcv2, hcv3, hcv4⟩ := hX9.cells
                have HX9 := Lib.hid hX9
                have HZ9 := Lib.hid hZ9
                have HO9 := Lib.hid hO9
                have HB9 := Lib.hid hB9
                have HR9 := Lib.hid (rd_step HR.out hB9)
                clear hw9 hX9 hZ9 hO9 hB9 hcx0 hcx1 hcx2 hcx3 hcx4 hfx0 hfx1 hfx2 hfx3 hfx4 hcy0 hcy1 hcy2 hcy3 hcy4 hfy0 hfy1 hfy2 hfy3 hfy4 hlc hzc
                go_wp2_with (go_at_call 65; refine (wants_noI A c L l (a + n + 0) 0 false A2 (body.length + n) c2 none 0 0 13 y ((a : Int) + (n : Int)) 13 _ (by omega) rfl HG0.out hne HL.out HR9.out hl).mono ?_; rintro e w10 ⟨rfl, hb10⟩; have hs10 := hb10.size; have HX10 := Lib.hid (HX9.out.below hb10 hl9); have HZ10 := Lib.hid (HZ9.out.below hb10 hz9); have HO10 := Lib.hid (HO9.out.far hb10); have HB10 := Lib.hid (HB9.out.trans (hb10.mono HB9.out.size)); obtain ⟨hcx0, hcx1, hcx2, hcx3, hcx4⟩ := HX10.out.cells; obtain ⟨hfx0, hfx1, hfx2, hfx3, hfx4⟩ := HX10.out.frees; obtain ⟨hcy0, hcy1, hcy2, hcy3, hcy4⟩ := HZ10.out.cells; obtain ⟨hfy0, hfy1, hfy2, hfy3, hfy4⟩ := HZ10.out.frees; have hl10 := HX10.out.lt; have hz10 := HZ10.out.lt; clear hb10)
                refine bodyPost_ret (res1 Tryd.results46 _ _ w.heap.size _ rfl (set5_bx (set5_bxO HZ10.out (by omega) _ _ _ _ _) rfl _ _ _ _ _) rfl) rfl ?_
                rw [HF.out]
                refine ⟨(HB10.out.trans (set5_below (by omega) _ _ _ _ _)).trans (set5_below (Nat.le_refl _) _ _ _ _ _), A2, c2, none, 0, by rw [HOe.out]; exact hc2, Nat.le_refl _, by rw [HOe.out]; simp only [rgV, Int.natCast_add] <;> rfl, ?_, .inl (Ow.nil _ _ _)⟩
                rw [HOe.out]
                exact (owE_set5 (owE_set5 HO10.out (by omega) _ _ _ _ _) (by omega) _ _ _ _ _).mono (by omega)
end Go.Proofs.YtkjibnhihdbmdaaDoor
