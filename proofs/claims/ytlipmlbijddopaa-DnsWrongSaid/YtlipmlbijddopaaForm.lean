import Derived.Test.YtlipmlbijddopaaRight
set_option linter.unusedVariables false
namespace Go.Proofs.Ytlipmlbijddopaa
open Go.RowKit

/-- labels, without an end -/
def labS (n : List (List UInt8)) : List UInt8 := n.flatMap fun l => UInt8.ofNat l.length :: l
theorem labS_take (n : List (List UInt8)) (k : Nat) (h : k < n.length) : labS (n.take (k + 1)) = labS (n.take k) ++ (UInt8.ofNat n[k].length :: n[k]) := by
  rw [List.take_succ_eq_append_getElem h]; unfold labS; rw [List.flatMap_append]; simp only [List.flatMap_cons, List.flatMap_nil, List.append_nil]
theorem labS_length (n : List (List UInt8)) : (labS n).length + 1 = sizeN n := by
  induction n with
  | nil => rfl
  | cons a n ih => simp [labS, sizeN] at ih ⊢; omega
theorem Try.infoByte : (Try.prog.info? 5).map (fun i => (i.zero, i.size, i.bytes)) = some (some (.int .u8 0), 1, 1) := by kernel_rfl

set_option maxRecDepth 100000 in
set_option maxHeartbeats 400000 in
theorem labels_any (v : Value) (pre : List UInt8) (A : Option Addr) (c : Nat) (n : List (List UInt8)) (w : World) (B : Nat) (hB : B ≤ w.heap.size) (h : Rd w B A n.length (sc n))
    (hown : Ow w B 5 v (bc pre)) (hs : pre.length + sizeN n ≤ 140737488355328) :
    Calls Try.prog 83 #[v, .slice A n.length c] w fun e w' => ∃ v', e = .returned v' ∧ Ow w' B 5 v' (bc (pre ++ labS n)) ∧ Gr w w' v v' := by
  obtain ⟨i0, hi, hz0, hz1, hz2⟩ := info_parts Try.infoByte
  have hl := sizeN_length n
  go_enter Try.func83, Try.ntmps83
  go_wp2_with fail
  go_loopw [0, 9] (fun v1 i wr => ∃ k : Nat, k ≤ n.length ∧ i = .int .i64 k ∧ Ow wr B 5 v1 (bc (pre ++ labS (n.take k))) ∧ Gr w wr v v1) (fun _ i _ => n.length - (intOf i).toNat)
  case atStart => exact ⟨0, Nat.zero_le _, rfl, by simpa [labS] using hown, Gr.refl _ _⟩
  case round =>
    obtain ⟨k, hk, rfl, hownr, hgr⟩ := hrel
    have hbel := hgr.below hown.lt hB
    have hr := h.below hbel
    by_cases hlt : k < n.length
    · obtain ⟨b, o, rfl, _, hc⟩ := hr.at_ hlt
      have hcell := hc k _ (sc_get n k hlt)
      have hle := mem_size (List.getElem_mem hlt)
      clear hc h hr hbel
      have hlr := sizeN_take_le n (k + 1)
      rw [sizeN_take n k hlt] at hlr
      have hll := labS_length (n.take k)
      have hb1 : B ≤ wr.heap.size := Nat.le_trans hB hgr.1.size
      go_wp2_with (first
        | (at_builtin; refine wpList_app (o := ⟨some 18, _, _, _, _, _⟩) _ rfl _ _ _ _ rfl B 5 i0 (.int .u8 0) 1 Try.underlying22 hi hz0 hz1 hz2 rfl (Nat.le_refl _) _ _ (hownr.alloc _) rfl 1 [_] (one_src Try.underlying22 _ rfl) (by simp; omega) (by simp; omega) ?_; intro v2 w2 hown2 hgr2 hsz2)
        | (at_builtin; refine wpList_app (o := ⟨some 20, _, _, _, _, _⟩) _ rfl _ _ _ _ rfl B 5 i0 (.int .u8 0) 1 Try.underlying22 hi hz0 hz1 hz2 rfl (Nat.le_refl _) _ _ hown2 rfl n[k].length (bc n[k]) (str_src Try.underlying9 _) (by simp; omega) hsz2 ?_; intro v3 w3 hown3 hgr3 hsz3))
      go_roundw
      case rel =>
        refine ⟨k + 1, by omega, by go_num, ?_, hgr.trans (((Gr.refl _ _).alloc _).trans (hgr2.trans hgr3))⟩
        rw [labS_take n k hlt, ← List.append_assoc]
        have e1 : bc (pre ++ labS (n.take k) ++ UInt8.ofNat n[k].length :: n[k]) = bc (pre ++ labS (n.take k)) ++ [.int .u8 ((n[k].length : Int) % 256)] ++ bc n[k] := by
          simp [bc]
        rw [e1]
        exact hown3
      case measure => simp [intOf]; omega
    · have : k = n.length := by omega
      subst this
      go_wp2
      go_ret
      exact ⟨_, rfl, by simpa using hownr, hgr⟩

def formN (n : List (List UInt8)) : List UInt8 := labS n ++ [0]
theorem formN_length (n : List (List UInt8)) : (formN n).length = sizeN n := by rw [formN, List.length_append, List.length_singleton, labS_length]
theorem size_right {n : List (List UInt8)} (h : rightN n = true) : sizeN n ≤ 255 := by
  unfold rightN at h
  simp at h
  exact h.2

set_option maxRecDepth 100000 in
set_option maxHeartbeats 400000 in
theorem form_ok (A : Option Addr) (c : Nat) (n : List (List UInt8)) (w : World) (h : Rd w w.heap.size A n.length (sc n)) (hr : rightN n = true) :
    Calls Try.prog 66 #[.slice A n.length c] w fun e w' => ∃ v, e = .returned (.tuple #[v, .int .i64 0]) ∧ Ow w' w.heap.size 5 v (bc (formN n)) ∧ Below w.heap.size w w' := by
  obtain ⟨i0, hi, hz0, hz1, hz2⟩ := info_parts Try.infoByte
  have hs := size_right hr
  have hll := labS_length n
  go_enter Try.func66, Try.ntmps66
  go_wp2_with (first
    | (go_at_call 61; refine (right_any A c n _ h (by omega)).mono ?_; rintro e w1 ⟨rfl, hb1⟩; have hsz1 := hb1.size)
    | (go_at_call 83; refine (labels_any (.slice none 0 0) [] A c n w1 w.heap.size hsz1 (h.below hb1) (Ow.nil _ _ _) (by simp; omega)).mono ?_; rintro e w2 ⟨v2, rfl, hown2, hgr2⟩; have hsz2 := Nat.le_trans hsz1 hgr2.1.size)
    | (at_builtin; refine wpList_app _ rfl _ _ _ _ rfl w.heap.size 5 i0 (.int .u8 0) 1 Try.underlying22 hi hz0 hz1 hz2 rfl (Nat.le_refl _) _ _ (hown2.alloc _) rfl 1 [_] (one_src Try.underlying22 _ rfl) (by simp; omega) (by simp; omega) ?_; intro v3 w3 hown3 hgr3 hsz3))
  go_ret2
  refine ⟨v3, rfl, ?_, hb1.trans ((hgr2.trans (((Gr.refl _ _).alloc _).trans hgr3)).below (by simp [Value.ownBlock]) hsz1)⟩
  have e1 : bc (formN n) = bc ([] ++ labS n) ++ [.int .u8 0] := by simp [formN, bc]
  rw [e1]; exact hown3

set_option maxRecDepth 100000 in
set_option maxHeartbeats 400000 in
theorem form_bad (A : Option Addr) (c : Nat) (n : List (List UInt8)) (w : World) (h : Rd w w.heap.size A n.length (sc n)) (hr : rightN n = false) (hs : sizeN n ≤ 140737488355328) :
    Calls Try.prog 66 #[.slice A n.length c] w fun e w' => e = .returned (.tuple #[.slice none 0 0, .int .i64 160]) ∧ Below w.heap.size w w' := by
  go_enter Try.func66, Try.ntmps66
  go_wp2_with (go_at_call 61; refine (right_any A c n _ h (by omega)).mono ?_; rintro e w1 ⟨rfl, hb1⟩)
  go_ret2
  exact ⟨rfl, hb1⟩
end Go.Proofs.Ytlipmlbijddopaa
