import Derived.Test.YtnfgcfljjmjmpaaAwk
import Derived.Test.YtnfgcfljjmjmpaaEndsP
import Derived.Test.YtnfgcfljjmjmpaaStr
import Derived.Deep.QuietTactic
import Derived.BigQuiet
set_option linter.unusedVariables false
set_option linter.unusedSimpArgs false
namespace Go.Proofs.Ytnfgcfljjmjmpaa
open Go.RowKit
theorem Rd.pre {w : World} {B n : Nat} {A : Option Addr} {xs : List Value} (h : Rd w B A n xs) {k : Nat} (hk : k ≤ n) : Rd w B A k (xs.take k) := by
  refine ⟨by rw [List.length_take, h.1]; omega, fun h0 => ?_⟩
  obtain ⟨b, o, e, hb, hc⟩ := h.2 (by omega)
  refine ⟨b, o, e, hb, fun j u hu => hc j u ?_⟩
  rcases Nat.lt_or_ge j k with h1 | h1
  · rwa [List.getElem?_take_of_lt h1] at hu
  · rw [List.getElem?_eq_none (by rw [List.length_take]; omega)] at hu; cases hu
theorem Rd.preB {w : World} {B n : Nat} {A : Option Addr} {l : List UInt8} (h : Rd w B A n (bc l)) {k : Nat} (hk : k ≤ n) : Rd w B A k (bc (l.take k)) := by
  have := h.pre hk
  simp only [bc, List.map_take] at this ⊢
  exact this
theorem bc_append (a b : List UInt8) : bc (a ++ b) = bc a ++ bc b := by simp [bc]
theorem bclone_at (A : Option Addr) (c L : Nat) (l : List UInt8) (w : World) (B : Nat) (hL : l.length = L) (hB : B ≤ w.heap.size) (h : Rd w B A L (bc l)) (hl : L ≤ 140737488355328) :
    Calls Try.prog 14 #[.slice A L c] w fun e w' => ∃ v, e = .returned v ∧ Ow w' w.heap.size 5 v (bc l) ∧ Below w.heap.size w w' := by
  subst hL
  exact bclone A c l w B hB h hl
/-- the contract of Read, the length and the offset under names of their own -/
theorem read_at (A : Option Addr) (c L : Nat) (b : List UInt8) (p : Nat) (w : World) (r : List (List UInt8) × Nat × Nat) (hL : b.length = L) (hr : readN b p = r) (h : Rd w w.heap.size A L (bc b)) (hcap : L ≤ c) (hb : L ≤ 140737488355328) (hp : p ≤ L) :
    Calls Try.prog 12 #[.slice A L c, .int .i64 p] w fun e w' => ∃ v, e = .returned (.tuple #[v, .int .i64 r.2.1, .int .i64 r.2.2]) ∧ Ow w' w.heap.size 9 v (sc r.1) ∧ Below w.heap.size w w' := by
  subst hL hr
  exact read_any A c b p w h hcap hb hp
set_option maxRecDepth 100000 in
set_option maxHeartbeats 1000000 in
theorem nameEnds_any (haw : AwakeOk) (A1 A3 : Option Addr) (c1 c3 : Nat) (b tail : List UInt8) (x : Nat) (w : World) (h1 : Rd w w.heap.size A1 b.length (bc b)) (hc1 : b.length ≤ c1) (hb : b.length ≤ 140737488351232)
    (h3 : Rd w w.heap.size A3 tail.length (bc tail)) (ht : tail.length ≤ 140737488351232) (hx : x < 65536) :
    Calls Try.prog 3 #[.slice A1 b.length c1, .int .u16 x, .slice A3 tail.length c3] w fun e w' => e = .returned (.bool true) ∧ Below w.heap.size w w' := by
  obtain ⟨i0, hi, hz0, hz1, hz2⟩ := info_parts Try.infoByte
  have haw' := Lib.hid haw
  clear haw
  obtain ⟨L, hL⟩ : ∃ L, L = min b.length 1000 := ⟨_, rfl⟩
  have hmin : min (b.length : Int) 1000 = (L : Int) := by omega
  have hle : L ≤ 1000 := by omega
  have hle1 : L ≤ c1 := by omega
  have r1 := h1.preB (k := L) (by omega)
  obtain ⟨l, hl⟩ : ∃ l, l = b.take L := ⟨_, rfl⟩
  have hlen : l.length = L := by rw [hl, List.length_take]; omega
  rw [← hl] at r1
  have H2 := Lib.hid hlen
  obtain ⟨k, hk⟩ : ∃ k : Nat, (x : Int) % ((L : Int) + 1) = (k : Int) := ⟨x % (L + 1), by push_cast; rfl⟩
  have hkL : k ≤ L := by have := Int.emod_lt_of_pos (x : Int) (show (0 : Int) < (L : Int) + 1 by omega); omega
  clear hlen h1 hl hL
  have ksl : ∀ W, (Instr.slice 22 (.slice A1 b.length c1) none (some (.int .i64 (L : Int))) none).run Try.prog W = .ok (.slice A1 L c1) W := fun W => run_sl_h W _ 5 Try.underlying22 szByte A1 b.length c1 L hle1
  have hkl : k ≤ l.length := by rw [H2.out]; exact hkL
  rcases readN_errs l k hkl with ⟨he, hrt⟩ | ⟨e1, e2, e3⟩
  · obtain ⟨hn1, hn2⟩ := readN_next l k hkl he
    have hbeh := readN_behind l k hkl he (l.take (readN l k).2.1 ++ tail) (by rw [List.take_left' (by rw [List.length_take]; omega)]) (by rw [List.length_append, List.length_take]; omega)
    have hless := readN_less l k hkl he
    obtain ⟨n, nx, hrd⟩ : ∃ n nx, readN l k = (n, nx, 0) := ⟨(readN l k).1, (readN l k).2.1, Prod.ext rfl (Prod.ext rfl he)⟩
    rw [hrd] at hrt hn1 hn2 hbeh hless
    simp only at hrt hn1 hn2 hbeh hless
    have hsz := size_right hrt
    have hsl := sizeN_length n
    have hnxL : nx ≤ L := by have := H2.out; omega
    have HE := Lib.hid hrd
    have HB := Lib.hid hbeh
    have HS := Lib.hid hless
    have HR := Lib.hid hrt
    clear hrd hbeh hless hrt he hn2 hkl
    have ksl2 : ∀ W, (Instr.slice 22 (.slice A1 L c1) none (some (.int .i64 (nx : Int))) none).run Try.prog W = .ok (.slice A1 nx c1) W := fun W => run_sl_h W _ 5 Try.underlying22 szByte A1 L c1 nx (by omega)
    have ksl3 : ∀ W, (Instr.slice 22 (.slice A1 L c1) none (some (.int .i64 ((nx : Int) - 1))) none).run Try.prog W = .ok (.slice A1 (nx - 1) c1) W := fun W => by
      have := run_sl_h W _ 5 Try.underlying22 szByte A1 L c1 (nx - 1) (by omega)
      rwa [show ((nx - 1 : Nat) : Int) = (nx : Int) - 1 by omega] at this
    have r2 := r1.preB (k := nx) (by omega)
    have r3 := r1.preB (k := nx - 1) (by omega)
    have hl2 : (l.take nx).length = nx := by have := H2.out; rw [List.length_take]; omega
    have hl3 : (l.take (nx - 1)).length = nx - 1 := by have := H2.out; rw [List.length_take]; omega
    have HL2 := Lib.hid hl2
    have HL3 := Lib.hid hl3
    clear hl2 hl3
    have tok1 : True := trivial
    go_enter Try.func3, Try.ntmps3
    go_wp2_with (first
      | (go_at_call 15; refine (seq_any An A6 cn c6 n n w7 _ rn r6 (by omega) (by omega)).mono ?_; rw [decide_eq_true (rfl : n = n)]; rintro e w8 ⟨rfl, q8, hq8⟩; have hb8 : Below w.heap.size w w8 := (by rw [hq8] <;> exact below_drewN (hb1.trans ((hb6.mono hs1).trans (hb7.mono hs6))) q8); clear hq8)
      | (go_at_call 11; refine (haw'.out _).mono ?_; rintro e w1 ⟨rfl, hb1⟩; have hs1 := hb1.size)
      | (go_at_call 12; refine (read_at A1 c1 (nx - 1) (l.take (nx - 1)) k w6 _ HL3.out HS.out (by exact (r3.below (hb1.trans (hb6.mono hs1))).more hs6) (by omega) (by omega) (by omega)).mono ?_; rintro e w7 ⟨v7, rfl, hown7, hb7⟩; have hs7 : w.heap.size ≤ w7.heap.size := Nat.le_trans hs6 hb7.size; have r6 := (r6.below hb7).more hb7.size; have rn := (rn.below hb7).more hb7.size)
      | (go_at_call 12; refine (read_at A5 c5 (nx + tail.length) (l.take nx ++ tail) k w5 _ (by rw [List.length_append, HL2.out]) HB.out (by exact r5) (by omega) (by omega) (by omega)).mono ?_; rintro e w6 ⟨v6, rfl, hown6, hb6'⟩; have hb6 : Below w1.heap.size w1 w6 := hb5.trans (hb6'.mono hs5); have hs6 := Nat.le_trans hs1 hb6.size; obtain ⟨A6, c6, rfl, hl6, r6⟩ := hown6.form7 n.length (by simp); have rn := (rn.below hb6').more hb6'.size)
      | (at_builtin; refine wpList_app _ rfl _ _ _ _ rfl w3.heap.size 5 i0 (.int .u8 0) 1 Try.underlying22 hi hz0 hz1 hz2 rfl (Nat.le_refl _) _ _ hown4 rfl tail.length (bc tail) (Rd.src (B := w.heap.size) (by exact h3.below (hb1.trans (hb4.mono hs1))) Try.underlying22 (bc_one _)) (by rw [bc_length, HL2.out]; omega) hb4'.size ?_; intro v5 w5 hown5 hgr5 hs5'; have hb5 : Below w1.heap.size w1 w5 := hb4.trans (hgr5.below (fun g hg => Nat.le_trans hb3.size (hown4.lt g hg)) hb4.size); have hs5 := hb5.size; have rn := (rn.below (hgr5.below hown4.lt hb4'.size)).more hs5'; obtain ⟨A5, c5, rfl, hl5, r5⟩ := hown5.form7 (nx + tail.length) (by rw [List.length_append, bc_length, bc_length, HL2.out]); rw [← bc_append] at r5)
      | (go_at_call 14; refine (bclone_at A1 c1 nx (l.take nx) w3 w.heap.size HL2.out (by exact Nat.le_trans hs1 hb3.size) (by exact r2.below (hb1.trans (hb3.mono hs1))) (by omega)).mono ?_; rintro e w4 ⟨v4, rfl, hown4, hb4'⟩; have hb4 : Below w1.heap.size w1 w4 := hb3.trans (hb4'.mono hb3.size); have rn := rn.below hb4')
      | (go_at_call 13; refine (right_any An cn n w2 rn (by omega)).mono ?_; rw [HR.out]; rintro e w3 ⟨rfl, hb3'⟩; have hb3 : Below w1.heap.size w1 w3 := hb2.trans (hb3'.mono hb2.size); have rn := (rn.below hb3').more hb3'.size)
      | (go_at_call 12; have _t := tok1; refine (read_at A1 c1 L l k w1 _ H2.out HE.out (by exact (r1.below hb1).more hs1) (by omega) (by omega) (by omega)).mono ?_; rintro e w2 ⟨v2, rfl, hown2, hb2⟩; obtain ⟨An, cn, rfl, hln, rn⟩ := hown2.form7 n.length (by simp); clear tok1))
    go_ret
    exact ⟨rfl, hb8⟩
  · have go : ∀ code : Nat, (code = 161 ∨ code = 162 ∨ code = 163 ∨ code = 3) → readN l k = ([], 0, code) → Calls Try.prog 3 #[.slice A1 b.length c1, .int .u16 x, .slice A3 tail.length c3] w fun e w' => e = .returned (.bool true) ∧ Below w.heap.size w w' := by
      intro code hc hrd
      have HE := Lib.hid hrd
      clear hrd e1 e2 e3 h3
      rcases hc with rfl | rfl | rfl | rfl
      all_goals
        go_enter Try.func3, Try.ntmps3
        go_wp2_with (first
          | (go_at_call 11; refine (haw'.out _).mono ?_; rintro e w1 ⟨rfl, hb1⟩; have hs1 := hb1.size)
          | (go_at_call 12; refine (read_at A1 c1 L l k w1 _ H2.out HE.out (by exact (r1.below hb1).more hs1) (by omega) (by omega) (by omega)).mono ?_; rintro e w2 ⟨v2, rfl, hown2, hb2⟩; obtain ⟨An, cn, rfl, hln, rn⟩ := hown2.form7 0 (by simp [sc])))
        go_ret
        exact ⟨rfl, hb1.trans (hb2.mono hs1)⟩
    exact go _ e3 (Prod.ext e1 (Prod.ext e2 rfl))
end Go.Proofs.Ytnfgcfljjmjmpaa
