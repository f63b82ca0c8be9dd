/-
  The steps of a chunk.Reader that append: data, extension, after, trailer, taken.
-/
import Derived.Test.YtkjibnhihdbmdaaDoorChunkS
set_option linter.unusedVariables false
set_option linter.unusedSimpArgs false
namespace Go.Proofs.YtkjibnhihdbmdaaDoor
open Go.RowKit
variable {fr : Frm}
theorem not13 {c : UInt8} (h : ¬ c = 13) : ¬ ((c.toNat : Int) = 13) := fun e => h (UInt8.toNat_inj.1 (by show c.toNat = 13; omega))
theorem not10 {c : UInt8} (h : ¬ c = 10) : ¬ ((c.toNat : Int) = 10) := fun e => h (UInt8.toNat_inj.1 (by show c.toNat = 10; omega))
theorem Steps.of {base g : Nat} {s s' : Rdr × Nat} {w : World} (h : s' = s) {e : Ending} {w' : World} (k : Steps fr base g s w e w') : Steps fr base g s' w e w' := by subst h; exact k
theorem Steps.from {base g : Nat} {s : Rdr × Nat} {w w1 : World} (hb : Below base w w1) {e : Ending} {w' : World} (k : Steps fr base g s w1 e w') : Steps fr base g s w e w' := ⟨k.1, k.2.1, hb.trans k.2.2⟩
set_option maxRecDepth 100000 in
set_option maxHeartbeats 400000 in
theorem data_at (base g : Nat) (r : Rdr) (vb vt vl : Value) (c : UInt8) (w : World) (hI : Inv fr w base g r vb vt vl) (hs : r.st = .data) (hp : 0 < r.size) (hz : r.size ≤ 65536) (hbl : r.body.length ≤ 65536) :
    Calls Tryd.prog 97 #[.pointer (some ⟨g, 0, none⟩), .int .u8 (c.toNat : Int)] w (Steps fr base g (stepR r c) w) := by
  obtain ⟨i0, hi, hz0, hz1, hz2⟩ := info_parts Tryd.infoByte1
  obtain ⟨A, k, rfl, hk, _⟩ := hI.body_form
  have hc3 := (hI.cell 3 rfl).1
  have hlt := hI.lt
  have hge := hI.ge
  have HI := Lib.hid hI
  have hst : stepR r c = ({ r with body := r.body ++ [c], size := r.size - 1, st := if r.size - 1 = 0 then .behind else .data }, 0) := by simp [stepR, hs]
  rw [hst]
  have HS := Lib.hid hs
  clear hI hst hs
  obtain ⟨n, hn⟩ : ∃ n, r.size = n + 1 := ⟨r.size - 1, by omega⟩
  have hc6 : ∀ w' : World, w'.cell? ⟨g, 6, none⟩ = some (.int .i64 (r.size : Int)) → w'.cell? ⟨g, 6, none⟩ = some (.int .i64 ((n : Int) + 1)) := fun w' h => by rw [h, hn]; rfl
  have hns : r.size - 1 = n := by omega
  rw [hns]
  have hnb : n ≤ 65536 := by omega
  have HN := Lib.hid hn
  have HC6 := Lib.hid hc6
  clear hn hns hp hz hc6
  have hmf : ∀ (fn : Fn) (first cap : Array Value) (w : World), (Instr.makeFunc fn first cap).run Tryd.prog w = .ok (.func fn first cap) w := fun _ _ _ _ => rfl
  have hsf := fun (a : Addr) (fn : Fn) (first cap : Array Value) (w : World) (m : Mode) => run_store_func (P := Tryd.prog) w a m fn first cap
  by_cases h0 : n = 0
  · rw [if_pos h0]
    subst h0
    go_enter Tryd.func97, Tryd.ntmps97
    go_wp2_with (at_builtin; refine wpList_app _ rfl _ _ _ _ rfl base 5 i0 (.int .u8 0) 1 Tryd.underlying22 hi hz0 hz1 hz2 rfl (Nat.le_refl _) _ _ ((HI.out.alloc _).rows.get (.head _)) rfl 1 [.int .u8 (c.toNat : Int)] (one_src Tryd.underlying22 _ rfl) (by rw [bc_length]; omega) (by simp; omega) ?_; intro v3 w3 hown3 hgr3 hsz3; obtain ⟨A3, c3, rfl, hl3, _⟩ := ow_formL hown3 (r.body.length + 1) (by simp); have hq := (HI.out.alloc _).own.gr hgr3 (HI.out.alloc _).lt HI.out.nb; have hc3' := (hq 3 _ rfl).1; have hf3' := (hq 3 _ rfl).2; have hc6' := HC6.out _ (hq 6 _ rfl).1; have hf6' := (hq 6 _ rfl).2; have hc0' := (hq 0 _ rfl).1; unfold stV at hc0'; rw [HS.out] at hc0'; have hf0' := (hq 0 _ rfl).2; have HQ := Lib.hid (Inv.body_ (HI.out.alloc _) (r.body ++ [c]) hgr3 (by simpa [bc] using hown3)); have HB := Lib.hid (((Below.refl base w).alloc (by omega) _).trans (hgr3.below (fun q hq => ((HI.out.rows.get (.head _)).lt q hq)) (by simp; omega))); clear hq hgr3 hown3)
    go_ret
    refine ⟨rfl, ⟨_, _, _, (HQ.out.setSize 0).setSt .behind⟩, ((HB.out.setCell hge _).setCell hge _).setCell hge _⟩
  · rw [if_neg h0]
    have h0' : ¬ ((n : Int) = 0) := by omega
    have e1 : (n : Int) + 1 - 1 = (n : Int) := by omega
    go_enter Tryd.func97, Tryd.ntmps97
    go_wp2_with (at_builtin; refine wpList_app _ rfl _ _ _ _ rfl base 5 i0 (.int .u8 0) 1 Tryd.underlying22 hi hz0 hz1 hz2 rfl (Nat.le_refl _) _ _ ((HI.out.alloc _).rows.get (.head _)) rfl 1 [.int .u8 (c.toNat : Int)] (one_src Tryd.underlying22 _ rfl) (by rw [bc_length]; omega) (by simp; omega) ?_; intro v3 w3 hown3 hgr3 hsz3; obtain ⟨A3, c3, rfl, hl3, _⟩ := ow_formL hown3 (r.body.length + 1) (by simp); have hq := (HI.out.alloc _).own.gr hgr3 (HI.out.alloc _).lt HI.out.nb; have hc3' := (hq 3 _ rfl).1; have hf3' := (hq 3 _ rfl).2; have hc6' := HC6.out _ (hq 6 _ rfl).1; have hf6' := (hq 6 _ rfl).2; have HQ := Lib.hid (Inv.body_ (HI.out.alloc _) (r.body ++ [c]) hgr3 (by simpa [bc] using hown3)); have HB := Lib.hid (((Below.refl base w).alloc (by omega) _).trans (hgr3.below (fun q hq => ((HI.out.rows.get (.head _)).lt q hq)) (by simp; omega))); clear hq hgr3 hown3)
    go_ret
    have h9 := HQ.out.setSize n
    have e9 : ({ r with body := r.body ++ [c], size := n, st := .data } : Rdr) = { r with body := r.body ++ [c], size := n } := by rw [← HS.out]
    refine ⟨rfl, ⟨_, _, _, by rw [e9]; exact h9⟩, (HB.out.setCell hge _).setCell hge _⟩
set_option maxRecDepth 100000 in
set_option maxHeartbeats 400000 in
theorem ext_at (base g : Nat) (r : Rdr) (vb vt vl : Value) (c : UInt8) (w : World) (hI : Inv fr w base g r vb vt vl) (hs : r.st = .ext) (hl : r.line.length ≤ 256) :
    Calls Tryd.prog 88 #[.pointer (some ⟨g, 0, none⟩), .int .u8 (c.toNat : Int)] w (Steps fr base g (stepR r c) w) := by
  have hc0 := (hI.cell 0 rfl).1
  rw [hs] at hc0
  unfold stV at hc0
  have hf0 := (hI.cell 0 rfl).2
  have hge := hI.ge
  have HI := Lib.hid hI
  have hmf : ∀ (fn : Fn) (first cap : Array Value) (w : World), (Instr.makeFunc fn first cap).run Tryd.prog w = .ok (.func fn first cap) w := fun _ _ _ _ => rfl
  have hsf := fun (a : Addr) (fn : Fn) (first cap : Array Value) (w : World) (m : Mode) => run_store_func (P := Tryd.prog) w a m fn first cap
  by_cases h : c = 13
  · have hst : stepR r c = ({ r with st := .sized }, 0) := by simp only [stepR, hs]; rw [if_pos h]
    rw [hst]
    subst h
    clear hI hst hs
    go_enter Tryd.func88, Tryd.ntmps88
    go_wp2
    go_ret
    exact ⟨rfl, ⟨_, _, _, HI.out.setSt .sized⟩, (Below.refl _ _).setCell hge _⟩
  · have hn := not13 h
    have hst : stepR r c = longR r c := by simp only [stepR, hs]; rw [if_neg h]
    rw [hst]
    clear hI hst hs
    go_enter Tryd.func88, Tryd.ntmps88
    go_wp2_with (go_at_call 96; refine (long_at base g r vb vt vl c w HI.out hl).mono ?_; rintro e w1 ⟨rfl, HI1, HB1⟩; have HQ := Lib.hid HI1; have HB := Lib.hid HB1; clear HI1 HB1)
    go_ret
    exact ⟨rfl, HQ.out, HB.out⟩
set_option maxRecDepth 100000 in
set_option maxHeartbeats 400000 in
theorem trailer_at (base g : Nat) (r : Rdr) (vb vt vl : Value) (c : UInt8) (w : World) (hI : Inv fr w base g r vb vt vl) (hs : r.st = .trailer) (hl : r.line.length ≤ 256) :
    Calls Tryd.prog 107 #[.pointer (some ⟨g, 0, none⟩), .int .u8 (c.toNat : Int)] w (Steps fr base g (stepR r c) w) := by
  have hc0 := (hI.cell 0 rfl).1
  rw [hs] at hc0
  unfold stV at hc0
  have hf0 := (hI.cell 0 rfl).2
  have hge := hI.ge
  have HI := Lib.hid hI
  have hmf : ∀ (fn : Fn) (first cap : Array Value) (w : World), (Instr.makeFunc fn first cap).run Tryd.prog w = .ok (.func fn first cap) w := fun _ _ _ _ => rfl
  have hsf := fun (a : Addr) (fn : Fn) (first cap : Array Value) (w : World) (m : Mode) => run_store_func (P := Tryd.prog) w a m fn first cap
  by_cases h : c = 13
  · have hst : stepR r c = ({ r with st := .taken }, 0) := by simp only [stepR, hs]; rw [if_pos h]
    rw [hst]
    subst h
    clear hI hst hs
    go_enter Tryd.func107, Tryd.ntmps107
    go_wp2
    go_ret
    exact ⟨rfl, ⟨_, _, _, HI.out.setSt .taken⟩, (Below.refl _ _).setCell hge _⟩
  · have hn := not13 h
    have hst : stepR r c = longR r c := by simp only [stepR, hs]; rw [if_neg h]
    rw [hst]
    clear hI hst hs
    go_enter Tryd.func107, Tryd.ntmps107
    go_wp2_with (go_at_call 96; refine (long_at base g r vb vt vl c w HI.out hl).mono ?_; rintro e w1 ⟨rfl, HI1, HB1⟩; have HQ := Lib.hid HI1; have HB := Lib.hid HB1; clear HI1 HB1)
    go_ret
    exact ⟨rfl, HQ.out, HB.out⟩
set_option maxRecDepth 100000 in
set_option maxHeartbeats 400000 in
theorem after_at (base g : Nat) (r : Rdr) (vb vt vl : Value) (c : UInt8) (w : World) (hI : Inv fr w base g r vb vt vl) (hs : r.st = .after) (ht : r.trs.length ≤ 16) :
    Calls Tryd.prog 98 #[.pointer (some ⟨g, 0, none⟩), .int .u8 (c.toNat : Int)] w (Steps fr base g (stepR r c) w) := by
  obtain ⟨A, k, rfl, hk, _⟩ := hI.line_form
  obtain ⟨At, kt, rfl, hkt, _⟩ := hI.trs_form
  have hc0 := (hI.cell 0 rfl).1
  rw [hs] at hc0
  unfold stV at hc0
  have hf0 := (hI.cell 0 rfl).2
  have hc4 := (hI.cell 4 rfl).1
  have hc5 := (hI.cell 5 rfl).1
  have hf5 := (hI.cell 5 rfl).2
  have hge := hI.ge
  have HI := Lib.hid hI
  have hmf : ∀ (fn : Fn) (first cap : Array Value) (w : World), (Instr.makeFunc fn first cap).run Tryd.prog w = .ok (.func fn first cap) w := fun _ _ _ _ => rfl
  have hsf := fun (a : Addr) (fn : Fn) (first cap : Array Value) (w : World) (m : Mode) => run_store_func (P := Tryd.prog) w a m fn first cap
  by_cases h : c = 13
  · have hst : stepR r c = ({ r with st := .last }, 0) := by simp only [stepR, hs]; rw [if_pos h]
    rw [hst]
    subst h
    clear hI hst hs
    go_enter Tryd.func98, Tryd.ntmps98
    go_wp2
    go_ret
    exact ⟨rfl, ⟨_, _, _, HI.out.setSt .last⟩, (Below.refl _ _).setCell hge _⟩
  · have hn := not13 h
    by_cases h2 : c ≠ 10 ∧ r.trs.length = 16
    · have hst : stepR r c = (r, 5) := by simp only [stepR, hs]; rw [if_neg h, if_pos h2]
      rw [hst]
      have hn2 := not10 h2.1
      rw [h2.2] at hc4
      clear hI hst hs h2 ht hkt
      go_enter Tryd.func98, Tryd.ntmps98
      go_wp2
      go_ret
      exact ⟨rfl, ⟨_, _, _, HI.out⟩, Below.refl _ _⟩
    · have hst : stepR r c = longR { r with line := [], st := .trailer } c := by simp only [stepR, hs]; rw [if_neg h, if_neg h2]
      rw [hst]
      have hlong := fun w => long_at (fr := fr) base g { r with line := [], st := .trailer } vb (.slice At r.trs.length kt) (.slice A 0 k) c w
      have hsl : ∀ W, (Instr.slice 22 (.slice A r.line.length k) none (some (.int .i64 0)) none).run Tryd.prog W = .ok (.slice A 0 k) W := fun W => run_sl_h W _ 5 Tryd.underlying22 (fun w => by kernel_rfl) A r.line.length k 0 (by omega)
      have HL := Lib.hid hlong
      have hI2 := HI.out.cut.setSt .trailer
      have HI2 := Lib.hid hI2
      by_cases h3 : c = 10
      · subst h3
        clear hI hst hs h2 hlong hI2
        go_enter Tryd.func98, Tryd.ntmps98
        go_wp2_with (go_at_call 96; refine (HL.out _ HI2.out (by simp)).mono ?_; rintro e w1 ⟨rfl, HI1, HB1⟩; have HQ := Lib.hid HI1; have HB := Lib.hid HB1; clear HI1 HB1)
        go_ret
        exact ⟨rfl, HQ.out, ((((Below.refl _ _).setCell hge _).setCell hge _)).trans HB.out⟩
      · have hn2 := not10 h3
        have h4 : ¬ r.trs.length = 16 := fun e => h2 ⟨h3, e⟩
        have h4' : ((r.trs.length : Int) == 16) = false := by simp; omega
        clear hI hst hs h2 hlong hI2
        go_enter Tryd.func98, Tryd.ntmps98
        go_wp2_with (go_at_call 96; refine (HL.out _ HI2.out (by simp)).mono ?_; rintro e w1 ⟨rfl, HI1, HB1⟩; have HQ := Lib.hid HI1; have HB := Lib.hid HB1; clear HI1 HB1)
        go_ret
        exact ⟨rfl, HQ.out, ((((Below.refl _ _).setCell hge _).setCell hge _)).trans HB.out⟩
end Go.Proofs.YtkjibnhihdbmdaaDoor
