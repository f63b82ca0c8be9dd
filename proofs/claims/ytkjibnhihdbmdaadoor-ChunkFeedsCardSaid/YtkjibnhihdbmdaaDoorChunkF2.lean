/-
  A chunk.Reader: Done, Body, Trailers; Decode.
-/
import Derived.Test.YtkjibnhihdbmdaaDoorChunkF
import Derived.Test.YtkjibnhihdbmdaaDoorChunkD
import Derived.Test.YtkjibnhihdbmdaaDoorSl
set_option linter.unusedVariables false
set_option linter.unusedSimpArgs false
namespace Go.Proofs.YtkjibnhihdbmdaaDoor
open Go.RowKit
variable {fr : Frm}
def doneB (r : Rdr) : Bool := decide (r.st = .nil ∧ r.bad = 0)
set_option maxRecDepth 100000 in
theorem done_at (base g : Nat) (r : Rdr) (vb vt vl : Value) (b : Bool) (w : World) (hI : Inv fr w base g r vb vt vl) (hb : doneB r = b) :
    Calls Tryd.prog 26 #[.pointer (some ⟨g, 0, none⟩)] w fun e w' => e = .returned (.bool b) ∧ w' = w := by
  subst hb
  unfold doneB
  have hc0 := (hI.cell 0 rfl).1
  have hc1 := (hI.cell 1 rfl).1
  have hc2 := (hI.cell 2 rfl).1
  have he1 := Tryd.eq_nilF
  have he2 := Tryd.eq_func
  clear hI
  by_cases h : r.st = .nil
  · rw [h] at hc0
    unfold stV at hc0
    by_cases h2 : r.bad = 0
    · rw [decide_eq_true ⟨h, h2⟩]
      rw [h2] at hc2
      clear h h2
      go_enter Tryd.func26, Tryd.ntmps26
      go_wp2
      go_ret
      exact ⟨rfl, rfl⟩
    · rw [decide_eq_false (fun e => h2 e.2)]
      have h3 : ((r.bad : Int) == 0) = false := by simp; omega
      clear h
      go_enter Tryd.func26, Tryd.ntmps26
      go_wp2
      go_ret
      exact ⟨rfl, rfl⟩
  · rw [decide_eq_false (fun e => h e.1)]
    rw [stV_func g _ h] at hc0
    clear h
    go_enter Tryd.func26, Tryd.ntmps26
    go_wp2
    go_ret
    exact ⟨rfl, rfl⟩
set_option maxRecDepth 100000 in
theorem body_at (base g : Nat) (r : Rdr) (vb vt vl : Value) (w : World) (hI : Inv fr w base g r vb vt vl) (hl : r.body.length ≤ 65536) :
    Calls Tryd.prog 27 #[.pointer (some ⟨g, 0, none⟩)] w fun e w' => ∃ v, e = .returned v ∧ Ow w' w.heap.size 5 v (bc r.body) ∧ Below w.heap.size w w' := by
  obtain ⟨A, c, rfl, hk, hr⟩ := hI.body_form
  have hc3 := (hI.cell 3 rfl).1
  clear hI
  have HR := Lib.hid hr
  clear hr
  go_enter Tryd.func27, Tryd.ntmps27
  go_wp2_with (go_at_call 47; refine (cl_b2 A c r.body.length r.body w rfl HR.out (by omega)).mono ?_; rintro e w1 ⟨v1, rfl, hown1, hb1⟩)
  go_ret
  exact ⟨_, rfl, hown1, hb1⟩
set_option maxRecDepth 100000 in
theorem trailers_at (base g : Nat) (r : Rdr) (vb vt vl : Value) (w : World) (hI : Inv fr w base g r vb vt vl) (hl : r.trs.length ≤ 16) :
    Calls Tryd.prog 29 #[.pointer (some ⟨g, 0, none⟩)] w fun e w' => ∃ v, e = .returned v ∧ Ow w' w.heap.size 9 v (sc r.trs) ∧ Below w.heap.size w w' := by
  obtain ⟨A, c, rfl, hk, hr⟩ := hI.trs_form
  have hc4 := (hI.cell 4 rfl).1
  clear hI
  have HR := Lib.hid hr
  clear hr
  go_enter Tryd.func29, Tryd.ntmps29
  go_wp2_with (go_at_call 48; refine (cl_s A c r.trs.length r.trs w rfl HR.out (by omega)).mono ?_; rintro e w1 ⟨v1, rfl, hown1, hb1⟩)
  go_ret
  exact ⟨_, rfl, hown1, hb1⟩
def decB (q : Rdr) : List UInt8 := if decE q = 0 then q.body else []
def DecPost (l : List UInt8) (w : World) (e : Ending) (w' : World) : Prop :=
  ∃ v, e = .returned (.tuple #[v, .int .i64 ((goR newR l 0).2 : Int), .int .i64 (decE (goR newR l 0).1 : Int)]) ∧ Ow w' w.heap.size 5 v (bc (decB (goR newR l 0).1)) ∧ Below w.heap.size w w'
set_option maxRecDepth 100000 in
set_option maxHeartbeats 1000000 in
theorem decode_at (A : Option Addr) (c L : Nat) (l : List UInt8) (w : World) (hL : l.length = L) (h : Rd w w.heap.size A L (bc l)) (hL2 : L ≤ 281474976710656) :
    Calls Tryd.prog 17 #[.slice A L c] w (DecPost l w) := by
  have HL := Lib.hid hL
  have HR := Lib.hid h
  clear hL h
  obtain ⟨q, n, hq⟩ : ∃ q n, goR newR l 0 = (q, n) := ⟨_, _, rfl⟩
  have hlens : Lens q := by have := go_lens l newR 0 lens_new; rw [hq] at this; exact this
  unfold DecPost
  rw [hq]
  have HQ := Lib.hid hq
  have HLn := Lib.hid hlens
  clear hq hlens
  have key : ∀ (w1 : World) (w2 : World) (e : Ending), FeedPost [] w.heap.size w.heap.size newR l w1 e w2 → ∃ vb vt vl, e = .returned (.tuple #[.int .i64 (n : Int), .int .i64 (q.bad : Int)]) ∧ Inv [] w2 w.heap.size w.heap.size q vb vt vl ∧ Below w.heap.size w1 w2 := by
    intro w1 w2 e hp
    have := hp
    unfold FeedPost at this
    rw [HQ.out] at this
    exact this
  have HK := Lib.hid key
  clear key
  by_cases hb : q.bad = 0
  · by_cases hs : q.st = .nil
    · have hd : doneB q = true := by unfold doneB; simp [hs, hb]
      have he : decE q = 0 := decE_zero.2 ⟨hb, hs⟩
      have hB : decB q = q.body := by unfold decB; rw [if_pos he]
      simp only [he, hB]
      have HD := Lib.hid hd
      have HBd := Lib.hid hb
      clear hd he hB hb hs
      go_enter Tryd.func17, Tryd.ntmps17
      go_wp2_with (first
        | (go_at_call 26; refine (done_at w.heap.size w.heap.size q _ _ _ true w2 HI2.out HD.out).mono ?_; rintro e w2 ⟨rfl, rfl⟩)
        | (go_at_call 38; refine (feed_at w.heap.size w.heap.size newR _ _ _ A c L l w1 HL.out HI1.out lens_new (fun w' hb _ => (HR.out.below (HB1.out.trans hb)).more (HB1.out.trans hb).size) hL2).mono ?_; intro e w2 hp; obtain ⟨vb, vt, vl, rfl, hi2, hb2⟩ := HK.out w1 w2 e hp; rw [HBd.out]; have hc3 := (hi2.cell 3 rfl).1; have HI2 := Lib.hid hi2; have HB2 := Lib.hid hb2; clear hp hi2 hb2)
        | (go_at_call 37; refine (new_at w).mono ?_; rintro e w1 ⟨rfl, hi1, hb1⟩; have HI1 := Lib.hid hi1; have HB1 := Lib.hid hb1; clear hi1 hb1))
      go_ret3
      exact ⟨_, rfl, HI2.out.rows.get (.head _), HB1.out.trans HB2.out⟩
    · have hd : doneB q = false := by unfold doneB; simp [hs]
      have he : decE q = 192 := by unfold decE; rw [if_neg (by omega), if_neg hs]
      have hB : decB q = [] := by unfold decB; rw [if_neg (by omega)]
      simp only [he, hB]
      have HD := Lib.hid hd
      have HBd := Lib.hid hb
      clear hd he hB hb hs
      go_enter Tryd.func17, Tryd.ntmps17
      go_wp2_with (first
        | (go_at_call 26; refine (done_at w.heap.size w.heap.size q _ _ _ false w2 HI2.out HD.out).mono ?_; rintro e w2 ⟨rfl, rfl⟩)
        | (go_at_call 38; refine (feed_at w.heap.size w.heap.size newR _ _ _ A c L l w1 HL.out HI1.out lens_new (fun w' hb _ => (HR.out.below (HB1.out.trans hb)).more (HB1.out.trans hb).size) hL2).mono ?_; intro e w2 hp; obtain ⟨vb, vt, vl, rfl, hi2, hb2⟩ := HK.out w1 w2 e hp; rw [HBd.out]; have HI2 := Lib.hid hi2; have HB2 := Lib.hid hb2; clear hp hi2 hb2)
        | (go_at_call 37; refine (new_at w).mono ?_; rintro e w1 ⟨rfl, hi1, hb1⟩; have HI1 := Lib.hid hi1; have HB1 := Lib.hid hb1; clear hi1 hb1))
      go_ret3
      exact ⟨_, rfl, Ow.nil _ _ _, HB1.out.trans HB2.out⟩
  · have he : decE q = q.bad := by unfold decE; rw [if_pos hb]
    have hB : decB q = [] := by unfold decB; rw [if_neg (by omega)]
    have hn1 : ((q.bad : Int) == 0) = false := by simp; omega
    have hn2 : ((q.bad : Int) != 0) = true := by simp; omega
    have hd : ∀ b, doneB q = b → doneB q = b := fun _ h => h
    have HD := Lib.hid (hd _ rfl)
    simp only [he, hB]
    clear he hB hb hd
    go_enter Tryd.func17, Tryd.ntmps17
    go_wp2_with (first
        | (go_at_call 26; refine (done_at w.heap.size w.heap.size q _ _ _ _ w2 HI2.out HD.out).mono ?_; rintro e w2 ⟨rfl, rfl⟩)
        | (go_at_call 38; refine (feed_at w.heap.size w.heap.size newR _ _ _ A c L l w1 HL.out HI1.out lens_new (fun w' hb _ => (HR.out.below (HB1.out.trans hb)).more (HB1.out.trans hb).size) hL2).mono ?_; intro e w2 hp; obtain ⟨vb, vt, vl, rfl, hi2, hb2⟩ := HK.out w1 w2 e hp; have HI2 := Lib.hid hi2; have HB2 := Lib.hid hb2; clear hp hi2 hb2)
        | (go_at_call 37; refine (new_at w).mono ?_; rintro e w1 ⟨rfl, hi1, hb1⟩; have HI1 := Lib.hid hi1; have HB1 := Lib.hid hb1; clear hi1 hb1))
    go_ret3
    exact ⟨_, rfl, Ow.nil _ _ _, HB1.out.trans HB2.out⟩
end Go.Proofs.YtkjibnhihdbmdaaDoor
