/-
  The steps of a chunk.Reader: taken, more, first; and one contract for all steps.
-/
import Derived.Test.YtkjibnhihdbmdaaDoorChunkS2
import Derived.BigRegion
import Derived.Deep.QuietTactic
import Derived.BigQuiet
import Derived.IntWalk
set_option linter.unusedVariables false
set_option linter.unusedSimpArgs false
namespace Go.Proofs.YtkjibnhihdbmdaaDoor
open Go.RowKit
variable {fr : Frm}
theorem or_dig (s d : Nat) (hs : s ≤ 65536) (hd : d < 16) : bits .or .i64 ((s : Int) * 16) (d : Int) = ((16 * s + d : Nat) : Int) := by
  have e : (s : Int) * 16 = ((s * 16 : Nat) : Int) := by omega
  rw [e, i64_or_nat _ _ (by omega) (by omega), nat_join 4 _ _ (by omega) (by omega)]
  congr 1; omega
theorem below_dn {n : Nat} {w w' : World} (h : Below n w w') (q : Nat) : Below n w (w'.drewN q) := ⟨h.os, h.tape, h.output, h.size, h.block⟩
theorem Inv.step_ {w : World} {base g : Nat} {r : Rdr} {vb vt vl : Value} (h : Inv fr w base g r vb vt vl) (q : Nat) : Inv fr (w.drewN q) base g r vb vt vl := ⟨h.own, h.ge, h.lt, h.rows.step rfl, h.nb, h.nt, h.nl, h.kp, h.na⟩
theorem gr_cut {w w' : World} {A : Option Addr} {n c : Nat} {v' : Value} (h : Gr w w' (.slice A 0 c) v') : Gr w w' (.slice A n c) v' := by
  have e : (Value.slice A n c).ownBlock = (Value.slice A 0 c).ownBlock := by cases A <;> rfl
  exact ⟨by rw [e]; exact h.1, by rw [e]; exact h.2⟩
set_option maxRecDepth 100000 in
set_option maxHeartbeats 1000000 in
theorem more_at (base g : Nat) (r : Rdr) (vb vt vl : Value) (c : UInt8) (w : World) (hI : Inv fr w base g r vb vt vl) (hs : r.st = .more) (hd : r.digits ≤ 8) (hz : r.size ≤ 65536) (hbl : r.body.length ≤ 65536) :
    Calls Tryd.prog 78 #[.pointer (some ⟨g, 0, none⟩), .int .u8 (c.toNat : Int)] w (Steps fr base g (moreR r c) w) := by
  obtain ⟨i0, hi, hz0, hz1, hz2⟩ := info_parts Tryd.infoByte1
  obtain ⟨A, k, rfl, hk, _⟩ := hI.line_form
  obtain ⟨Ab, kb, rfl, hkb, _⟩ := hI.body_form
  have hc0 := (hI.cell 0 rfl).1
  rw [hs] at hc0
  unfold stV at hc0
  have hf0 := (hI.cell 0 rfl).2
  have hc3 := (hI.cell 3 rfl).1
  have hc5 := (hI.cell 5 rfl).1
  have hf5 := (hI.cell 5 rfl).2
  have hc6 := (hI.cell 6 rfl).1
  have hf6 := (hI.cell 6 rfl).2
  have hc7 := (hI.cell 7 rfl).1
  have hf7 := (hI.cell 7 rfl).2
  have hge := hI.ge
  have hglt := hI.lt
  have HI := Lib.hid hI
  have HS := Lib.hid hs
  have hdl := dig_le c
  have hmf : ∀ (fn : Fn) (first cap : Array Value) (w : World), (Instr.makeFunc fn first cap).run Tryd.prog w = .ok (.func fn first cap) w := fun _ _ _ _ => rfl
  have hsf := fun (a : Addr) (fn : Fn) (first cap : Array Value) (w : World) (m : Mode) => run_store_func (P := Tryd.prog) w a m fn first cap
  by_cases h : dig c < 16
  · obtain ⟨d, hde⟩ : ∃ d, d = dig c := ⟨_, rfl⟩
    obtain ⟨q, hq⟩ : ∃ q, q = 16 * r.size + d := ⟨_, rfl⟩
    have hst : moreR r c = ({ r with size := q, digits := r.digits + 1 }, if 8 < r.digits + 1 ∨ 65536 - r.body.length < q then 3 else 0) := by unfold moreR; rw [if_pos h, hq, hde]
    have hdi : digI c = (d : Int) := by unfold digI; rw [if_neg (by omega), hde]
    have hor := or_dig r.size d hz (by omega)
    rw [← hq] at hor
    have hqb : q ≤ 2000000 := by omega
    rw [hst]
    have HD := Lib.hid hdi
    have hd16 : d < 16 := by omega
    clear hI hs hst hde hq hdi h hdl
    by_cases h1 : 8 < r.digits + 1
    · rw [if_pos (.inl h1)]
      have g1 : decide ((8 : Int) < (r.digits : Int) + 1) = true := by simp; omega
      go_enter Tryd.func78, Tryd.ntmps78
      go_wp2_with (go_at_call 77; refine (digit_at c _).mono ?_; rw [HD.out]; rintro e w ⟨rfl, rfl⟩)
      go_region
      go_wp2_with fail
      go_quiet (fail)
      go_wp2
      go_ret
      refine ⟨rfl, ⟨_, _, _, ((HI.out.setSize q).setDigits (r.digits + 1)).drew.step_ _⟩, ?_⟩
      exact below_dn (((Below.refl base w).setCell hge _).setCell hge _).drew _
    · have g1 : decide ((8 : Int) < (r.digits : Int) + 1) = false := by simp; omega
      have g3 : IntKind.i64.wrap ((65536 : Int) - (r.body.length : Int)) = 65536 - (r.body.length : Int) := IntWalk.i64_in _ (by omega)
      by_cases h2 : 65536 - r.body.length < q
      · rw [if_pos (.inr h2)]
        have g2 : decide ((65536 : Int) - (r.body.length : Int) < (q : Int)) = true := by simp; omega
        go_enter Tryd.func78, Tryd.ntmps78
        go_wp2_with (go_at_call 77; refine (digit_at c _).mono ?_; rw [HD.out]; rintro e w ⟨rfl, rfl⟩)
        go_region
        go_wp2_with fail
        go_quiet (fail)
        go_wp2
        go_ret
        refine ⟨rfl, ⟨_, _, _, ((HI.out.setSize q).setDigits (r.digits + 1)).drew.step_ _⟩, ?_⟩
        exact below_dn (((Below.refl base w).setCell hge _).setCell hge _).drew _
      · rw [if_neg (by omega)]
        have g2 : decide ((65536 : Int) - (r.body.length : Int) < (q : Int)) = false := by simp; omega
        go_enter Tryd.func78, Tryd.ntmps78
        go_wp2_with (go_at_call 77; refine (digit_at c _).mono ?_; rw [HD.out]; rintro e w ⟨rfl, rfl⟩)
        go_region
        go_wp2_with fail
        go_quiet (fail)
        go_wp2
        go_ret
        refine ⟨rfl, ⟨_, _, _, ((HI.out.setSize q).setDigits (r.digits + 1)).drew.step_ _⟩, ?_⟩
        exact below_dn (((Below.refl base w).setCell hge _).setCell hge _).drew _
  · have hdi : digI c = -1 := by unfold digI; rw [if_pos (by omega)]
    have HD := Lib.hid hdi
    by_cases h1 : c = 59
    · have hst : moreR r c = ({ r with line := [c], st := .ext }, 0) := by unfold moreR; rw [if_neg h, if_pos h1]
      rw [hst]
      have hsl : ∀ W, (Instr.slice 22 (.slice A r.line.length k) none (some (.int .i64 0)) none).run Tryd.prog W = .ok (.slice A 0 k) W := fun W => run_sl_h W _ 5 Tryd.underlying22 (fun w => by kernel_rfl) A r.line.length k 0 (by omega)
      subst h1
      clear hI hs hst hdi h hdl
      go_enter Tryd.func78, Tryd.ntmps78
      go_wp2_with (first
        | (go_at_call 77; refine (digit_at 59 _).mono ?_; rw [HD.out]; rintro e w ⟨rfl, rfl⟩)
        | (at_builtin; refine wpList_app _ rfl _ _ _ _ rfl base 5 i0 (.int .u8 0) 1 Tryd.underlying22 hi hz0 hz1 hz2 rfl (Nat.le_refl _) _ _ (ow_empty ((HI.out.alloc _).rows.get (.tail _ (.tail _ (.head _))))) rfl 1 [.int .u8 59] (one_src Tryd.underlying22 _ rfl) (by simp) (by simp; omega) ?_; intro v3 w3 hown3 hgr3' hsz3; obtain ⟨A3, c3, rfl, hl3, _⟩ := ow_formL hown3 1 (by simp); have hgr3 := gr_cut (n := r.line.length) hgr3'; have hq := (HI.out.alloc _).own.gr hgr3 (HI.out.alloc _).lt HI.out.nl; have hc5' := (hq 5 _ rfl).1; have hf5' := (hq 5 _ rfl).2; have hc0' := (hq 0 _ rfl).1; unfold stV at hc0'; rw [HS.out] at hc0'; have hf0' := (hq 0 _ rfl).2; have HQ := Lib.hid (Inv.line_ (HI.out.alloc _) [59] hgr3 (by simpa [bc] using hown3)); have HB := Lib.hid (((Below.refl base w).alloc (by omega) _).trans (hgr3.below (fun q hq => ((HI.out.rows.get (.tail _ (.tail _ (.head _)))).lt q hq)) (by simp; omega))); clear hq hgr3 hgr3' hown3))
      go_ret
      exact ⟨rfl, ⟨_, _, _, HQ.out.setSt .ext⟩, (HB.out.setCell hge _).setCell hge _⟩
    · have hn1 : ¬ ((c.toNat : Int) = 59) := fun e => h1 (UInt8.toNat_inj.1 (by show c.toNat = 59; omega))
      by_cases h2 : c = 13
      · have hst : moreR r c = ({ r with st := .sized }, 0) := by unfold moreR; rw [if_neg h, if_neg h1, if_pos h2]
        rw [hst]
        subst h2
        clear hI hs hst hdi h hdl h1
        go_enter Tryd.func78, Tryd.ntmps78
        go_wp2_with (go_at_call 77; refine (digit_at 13 _).mono ?_; rw [HD.out]; rintro e w ⟨rfl, rfl⟩)
        go_ret
        exact ⟨rfl, ⟨_, _, _, HI.out.setSt .sized⟩, (Below.refl _ _).setCell hge _⟩
      · have hn2 := not13 h2
        have hst : moreR r c = (r, 190) := by unfold moreR; rw [if_neg h, if_neg h1, if_neg h2]
        rw [hst]
        clear hI hs hst hdi h hdl
        go_enter Tryd.func78, Tryd.ntmps78
        go_wp2_with (go_at_call 77; refine (digit_at c _).mono ?_; rw [HD.out]; rintro e w ⟨rfl, rfl⟩)
        go_ret
        exact ⟨rfl, ⟨_, _, _, HI.out⟩, Below.refl _ _⟩
end Go.Proofs.YtkjibnhihdbmdaaDoor
