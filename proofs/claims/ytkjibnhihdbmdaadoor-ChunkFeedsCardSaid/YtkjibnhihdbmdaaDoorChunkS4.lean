/-
  The steps of a chunk.Reader: taken, first.
-/
import Derived.Test.YtkjibnhihdbmdaaDoorChunkS3
import Derived.Test.YtkjibnhihdbmdaaDoorB2
import Derived.Deep.RegionLaw
set_option linter.unusedVariables false
set_option linter.unusedSimpArgs false
namespace Go.Proofs.YtkjibnhihdbmdaaDoor
open Go.RowKit
variable {fr : Frm}
theorem Tryd.infoStr1 : (Tryd.prog.info? 9).map (fun i => (i.zero, i.size, i.bytes)) = some (some (.string ⟨#[]⟩), 1, 16) := by kernel_rfl
set_option maxRecDepth 100000 in
set_option maxHeartbeats 400000 in
theorem first_at (base g : Nat) (r : Rdr) (vb vt vl : Value) (c : UInt8) (w : World) (hI : Inv fr w base g r vb vt vl) (hs : r.st = .first) (hbl : r.body.length ≤ 65536) :
    Calls Tryd.prog 59 #[.pointer (some ⟨g, 0, none⟩), .int .u8 (c.toNat : Int)] w (Steps fr base g (stepR r c) w) := by
  have hc0 := (hI.cell 0 rfl).1
  rw [hs] at hc0
  unfold stV at hc0
  have hf0 := (hI.cell 0 rfl).2
  have hc6 := (hI.cell 6 rfl).1
  have hf6 := (hI.cell 6 rfl).2
  have hc7 := (hI.cell 7 rfl).1
  have hf7 := (hI.cell 7 rfl).2
  have hge := hI.ge
  have HI := Lib.hid hI
  have hdl := dig_le c
  have hmf : ∀ (fn : Fn) (first cap : Array Value) (w : World), (Instr.makeFunc fn first cap).run Tryd.prog w = .ok (.func fn first cap) w := fun _ _ _ _ => rfl
  have hsf := fun (a : Addr) (fn : Fn) (first cap : Array Value) (w : World) (m : Mode) => run_store_func (P := Tryd.prog) w a m fn first cap
  by_cases h : dig c = 16
  · have hst : stepR r c = (r, 190) := by simp only [stepR, hs]; rw [if_pos h]
    rw [hst]
    have hdi : digI c = -1 := by unfold digI; rw [if_pos h]
    have HD := Lib.hid hdi
    clear hI hs hst hdi h hdl
    go_enter Tryd.func59, Tryd.ntmps59
    go_wp2_with (go_at_call 77; refine (digit_at c _).mono ?_; rw [HD.out]; rintro e w ⟨rfl, rfl⟩)
    go_ret
    exact ⟨rfl, ⟨_, _, _, HI.out⟩, Below.refl _ _⟩
  · have hst : stepR r c = moreR { r with size := 0, digits := 0, st := .more } c := by simp only [stepR, hs]; rw [if_neg h]
    rw [hst]
    obtain ⟨d, hde⟩ : ∃ d, d = dig c := ⟨_, rfl⟩
    have hdi : digI c = (d : Int) := by unfold digI; rw [if_neg h, hde]
    have HD := Lib.hid hdi
    have hd0 : d ≤ 16 := by omega
    have hI2 := ((hI.setSize 0).setDigits 0).setSt .more
    have hmore := more_at base g { r with size := 0, digits := 0, st := .more } vb vt vl c _ hI2 rfl (by simp) (by simp) hbl
    have HM := Lib.hid hmore
    have hB : Below base w _ := (((Below.refl base w).setCell (p := ⟨g, 6, none⟩) hge (.int .i64 ((0 : Nat) : Int))).setCell (p := ⟨g, 7, none⟩) hge (.int .i64 ((0 : Nat) : Int))).setCell (p := ⟨g, 0, none⟩) hge (stV g .more)
    have HB := Lib.hid hB
    clear hI hI2 hs hst hdi h hdl hde hmore hB
    go_enter Tryd.func59, Tryd.ntmps59
    go_wp2_with (first
      | (go_at_call 77; refine (digit_at c _).mono ?_; rw [HD.out]; rintro e w ⟨rfl, rfl⟩)
      | (go_at_call 78; refine HM.out.mono ?_; rintro e w1 ⟨rfl, HI1, HB1⟩; have HQ := Lib.hid HI1; have HB2 := Lib.hid HB1; clear HI1 HB1))
    go_ret
    exact ⟨rfl, HQ.out, HB.out.trans HB2.out⟩
set_option maxRecDepth 100000 in
set_option maxHeartbeats 1000000 in
theorem taken_at (base g : Nat) (r : Rdr) (vb vt vl : Value) (c : UInt8) (w : World) (hI : Inv fr w base g r vb vt vl) (hs : r.st = .taken) (ht : r.trs.length ≤ 15) (hl : r.line.length ≤ 256) :
    Calls Tryd.prog 111 #[.pointer (some ⟨g, 0, none⟩), .int .u8 (c.toNat : Int)] w (Steps fr base g (stepR r c) w) := by
  obtain ⟨i0, hi, hz0, hz1, hz2⟩ := info_parts Tryd.infoStr1
  obtain ⟨A, k, rfl, hk, rl⟩ := hI.line_form
  obtain ⟨At, kt, rfl, hkt, _⟩ := hI.trs_form
  have hc0 := (hI.cell 0 rfl).1
  rw [hs] at hc0
  unfold stV at hc0
  have hf0 := (hI.cell 0 rfl).2
  have hc4 := (hI.cell 4 rfl).1
  have hf4 := (hI.cell 4 rfl).2
  have hc5 := (hI.cell 5 rfl).1
  have hge := hI.ge
  have hlt := hI.lt
  have hmf : ∀ (fn : Fn) (first cap : Array Value) (w : World), (Instr.makeFunc fn first cap).run Tryd.prog w = .ok (.func fn first cap) w := fun _ _ _ _ => rfl
  have hsf := fun (a : Addr) (fn : Fn) (first cap : Array Value) (w : World) (m : Mode) => run_store_func (P := Tryd.prog) w a m fn first cap
  by_cases h : c = 10
  · have hst : stepR r c = ({ r with trs := r.trs ++ [r.line], st := .after }, 0) := by simp [stepR, hs, h, endE]
    rw [hst]
    subst h
    have hcv : (convert 22 9 (.slice A r.line.length k)).run Tryd.prog w.drew = .ok (.string ⟨r.line.toArray⟩) w.drew := conv_bs (P := Tryd.prog) w.drew 22 5 9 A k w.heap.size r.line Tryd.underlying22 Tryd.underlying5 Tryd.underlying9 rl.drew
    have HI := Lib.hid hI.drew
    have HS := Lib.hid hs
    have hend : endE 10 = 0 := rfl
    have HE := Lib.hid hend
    have hH : w.drew.heap.size = w.heap.size := rfl
    have hszd : g < w.drew.heap.size := hlt
    clear hI hs hst rl hend
    go_enter Tryd.func111, Tryd.ntmps111
    go_wp2_with fail
    go_region_law (first
      | (refine step_app _ rfl _ _ _ _ rfl base 9 i0 (.string ⟨#[]⟩) 16 Tryd.underlying49 hi hz0 hz1 hz2 rfl (by omega) _ _ ((HI.out.alloc _).rows.get (.tail _ (.head _))) ?_ (.slice (some ⟨w.drew.heap.size, 0, none⟩) 1 1) ?_ 1 [.string ⟨r.line.toArray⟩] ?_ ?_ ?_ ?_
         · rfl
         · rfl
         · exact one_src Tryd.underlying49 _ rfl
         · rw [sc_length]; omega
         · simp; omega
         intro v3 w3 hown3 hgr3 hsz3
         obtain ⟨A3, c3, rfl, hl3, _⟩ := ow_formL hown3 (r.trs.length + 1) (by simp)
         have hq := (HI.out.alloc _).own.gr hgr3 (HI.out.alloc _).lt HI.out.nt
         have hc4' := (hq 4 _ rfl).1
         have hf4' := (hq 4 _ rfl).2
         have hc0' := (hq 0 _ rfl).1
         unfold stV at hc0'
         rw [HS.out] at hc0'
         have hf0' := (hq 0 _ rfl).2
         have HQ := Lib.hid (Inv.trs_ (HI.out.alloc _) (r.trs ++ [r.line]) hgr3 (by simpa [sc, strV] using hown3))
         have HB := Lib.hid (((Below.refl base w).drew.alloc (by simp; omega) _).trans (hgr3.below (fun q hq => ((HI.out.rows.get (.tail _ (.head _))).lt q hq)) (by simp; omega)))
         clear hq hgr3 hown3))
    all_goals
      go_wp2_with (go_at_call 99; refine (end_at 10 _).mono ?_; rw [HE.out]; rintro e w4 ⟨rfl, rfl⟩)
      go_ret
      exact ⟨rfl, ⟨_, _, _, HQ.out.setSt .after⟩, (HB.out.setCell hge _).setCell hge _⟩
  · have hn := not10 h
    have hst : stepR r c = ({ r with st := .after }, 191) := by simp [stepR, hs, h, endE]
    rw [hst]
    have hend : endE c = 191 := by unfold endE; rw [if_neg h]
    have HE := Lib.hid hend
    have HI := Lib.hid hI
    clear hI hs hst rl hend
    go_enter Tryd.func111, Tryd.ntmps111
    go_wp2_with (go_at_call 99; refine (end_at c _).mono ?_; rw [HE.out]; rintro e w1 ⟨rfl, rfl⟩)
    go_ret
    exact ⟨rfl, ⟨_, _, _, HI.out.setSt .after⟩, (Below.refl _ _).setCell hge _⟩
end Go.Proofs.YtkjibnhihdbmdaaDoor
