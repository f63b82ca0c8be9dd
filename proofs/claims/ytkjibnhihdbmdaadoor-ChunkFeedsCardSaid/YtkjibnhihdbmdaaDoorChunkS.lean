/-
  The steps of a chunk.Reader that append.
-/
import Derived.Test.YtkjibnhihdbmdaaDoorChunkI
import Derived.Test.YtkjibnhihdbmdaaDoorSl
set_option linter.unusedVariables false
set_option linter.unusedSimpArgs false
namespace Go.Proofs.YtkjibnhihdbmdaaDoor
open Go.RowKit
variable {fr : Frm}
theorem Tryd.infoByte1 : (Tryd.prog.info? 5).map (fun i => (i.zero, i.size, i.bytes)) = some (some (.int .u8 0), 1, 1) := by kernel_rfl
theorem Inv.body_form {w : World} {base g : Nat} {r : Rdr} {vb vt vl : Value} (h : Inv fr w base g r vb vt vl) : ∃ A c, vb = .slice A r.body.length c ∧ r.body.length ≤ c ∧ Rd w w.heap.size A r.body.length (bc r.body) := by
  obtain ⟨A, c, h1, h2, _, h3⟩ := (h.rows.get (.head _)).form
  rw [bc_length] at h1 h2 h3
  exact ⟨A, c, h1, h2, h3⟩
theorem Inv.trs_form {w : World} {base g : Nat} {r : Rdr} {vb vt vl : Value} (h : Inv fr w base g r vb vt vl) : ∃ A c, vt = .slice A r.trs.length c ∧ r.trs.length ≤ c ∧ Rd w w.heap.size A r.trs.length (sc r.trs) := by
  obtain ⟨A, c, h1, h2, _, h3⟩ := (h.rows.get (.tail _ (.head _))).form
  rw [sc_length] at h1 h2 h3
  exact ⟨A, c, h1, h2, h3⟩
theorem Inv.line_form {w : World} {base g : Nat} {r : Rdr} {vb vt vl : Value} (h : Inv fr w base g r vb vt vl) : ∃ A c, vl = .slice A r.line.length c ∧ r.line.length ≤ c ∧ Rd w w.heap.size A r.line.length (bc r.line) := by
  obtain ⟨A, c, h1, h2, _, h3⟩ := (h.rows.get (.tail _ (.tail _ (.head _)))).form
  rw [bc_length] at h1 h2 h3
  exact ⟨A, c, h1, h2, h3⟩
set_option maxRecDepth 100000 in
set_option maxHeartbeats 400000 in
theorem long_at (base g : Nat) (r : Rdr) (vb vt vl : Value) (c : UInt8) (w : World) (hI : Inv fr w base g r vb vt vl) (hl : r.line.length ≤ 256) :
    Calls Tryd.prog 96 #[.pointer (some ⟨g, 0, none⟩), .int .u8 (c.toNat : Int)] w (Steps fr base g (longR r c) w) := by
  obtain ⟨i0, hi, hz0, hz1, hz2⟩ := info_parts Tryd.infoByte1
  obtain ⟨A, k, rfl, hk, _⟩ := hI.line_form
  have hc5 := (hI.cell 5 rfl).1
  have hlt := hI.lt
  have hge := hI.ge
  have HI := Lib.hid hI
  clear hI
  by_cases h : c = 10
  · have e : longR r c = (r, 191) := by unfold longR; rw [if_pos h]
    rw [e]
    subst h
    clear e
    go_enter Tryd.func96, Tryd.ntmps96
    go_wp2
    go_ret
    exact ⟨rfl, ⟨_, _, _, HI.out⟩, Below.refl _ _⟩
  · have hn : ¬ ((c.toNat : Int) = 10) := fun e => h (UInt8.toNat_inj.1 (by show c.toNat = 10; omega))
    by_cases h2 : r.line.length = 256
    · have e : longR r c = (r, 5) := by unfold longR; rw [if_neg h, if_pos h2]
      rw [e]
      clear e
      rw [h2] at hc5
      clear h2 hk hl
      go_enter Tryd.func96, Tryd.ntmps96
      go_wp2
      go_ret
      exact ⟨rfl, ⟨_, _, _, HI.out⟩, Below.refl _ _⟩
    · have e : longR r c = ({ r with line := r.line ++ [c] }, 0) := by unfold longR; rw [if_neg h, if_neg h2]
      rw [e]
      clear e
      have hn2 : ((r.line.length : Int) == 256) = false := by simp; omega
      go_enter Tryd.func96, Tryd.ntmps96
      go_wp2_with (at_builtin; refine wpList_app _ rfl _ _ _ _ rfl base 5 i0 (.int .u8 0) 1 Tryd.underlying22 hi hz0 hz1 hz2 rfl (Nat.le_refl _) _ _ ((HI.out.alloc _).rows.get (.tail _ (.tail _ (.head _)))) rfl 1 [.int .u8 (c.toNat : Int)] (one_src Tryd.underlying22 _ rfl) (by rw [bc_length]; omega) (by simp; omega) ?_; intro v3 w3 hown3 hgr3 hsz3; obtain ⟨A3, c3, rfl, hl3, _⟩ := ow_formL hown3 (r.line.length + 1) (by simp); have hq := (HI.out.alloc _).own.gr hgr3 (HI.out.alloc _).lt HI.out.nl; have hc5' := (hq 5 _ rfl).1; have hf5' := (hq 5 _ rfl).2; have HQ := Lib.hid (Inv.line_ (HI.out.alloc _) (r.line ++ [c]) hgr3 (by simpa [bc] using hown3)); have HB := Lib.hid (((Below.refl base w).alloc (by omega) _).trans (hgr3.below (fun q hq => ((HI.out.rows.get (.tail _ (.tail _ (.head _)))).lt q hq)) (by simp; omega))); clear hq hgr3 hown3)
      go_ret
      exact ⟨rfl, ⟨_, _, _, HQ.out⟩, HB.out.setCell hge _⟩
end Go.Proofs.YtkjibnhihdbmdaaDoor
