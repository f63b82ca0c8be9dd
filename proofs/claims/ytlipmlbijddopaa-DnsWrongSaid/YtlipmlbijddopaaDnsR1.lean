/-
  dns: whether a record is right; how many there are, and whether all are right.
-/
import Derived.Test.YtlipmlbijddopaaDnsM
import Derived.Deep.RegionHeld3
import Derived.Deep.DeepCutAuto
set_option linter.unusedVariables false
set_option linter.unusedSimpArgs false
namespace Go.Proofs.Ytlipmlbijddopaa
open Go.RowKit
theorem Rd.alloc_top' {w : World} {A : Option Addr} {n : Nat} {xs : List Value} (h : Rd w w.heap.size A n xs) (o : Obj) : Rd (w.alloc o) (w.alloc o).heap.size A n xs := (h.alloc (Nat.le_refl _) o).more (by simp)
theorem Rd.goes {w w' : World} {A : Option Addr} {n : Nat} {xs : List Value} (h : Rd w w.heap.size A n xs) (hb : Below w.heap.size w w') : Rd w' w'.heap.size A n xs := (h.below hb).more hb.size
section
variable {α : Type} (l : List α) (p : α → Bool) (k : Nat)
theorem any_hit (hk : k < l.length) (h : p l[k] = true) : decide (0 ≤ (k : Int)) = l.any p := by
  rw [decide_eq_true (by omega), eq_comm, List.any_eq_true]
  exact ⟨l[k], List.getElem_mem hk, h⟩
theorem any_miss (hk : k < l.length) (h0 : (l.take k).any p = false) (h : p l[k] = false) : (l.take (k + 1)).any p = false := by
  rw [List.take_succ_eq_append_getElem hk, List.any_append, h0]; simp [h]
theorem any_end (hk : l.length ≤ k) (h0 : (l.take k).any p = false) : decide (0 ≤ (-1 : Int)) = l.any p := by
  rw [List.take_of_length_le hk] at h0
  rw [h0]; rfl
end
set_option maxRecDepth 100000 in
set_option maxHeartbeats 400000 in
theorem rright_at (x : RR) (w : World) (h : RRd w w.heap.size x) :
    Calls Try.prog 64 #[.agg x.cells.toArray] w fun e w' => e = .returned (.bool (rightR x.r)) ∧ Below w.heap.size w w' := by
  obtain ⟨A, c, dA, dc, tA, tc, ⟨⟨nm, ty, cl⟩, ttl, d, pr, we, po, tg⟩⟩ := x
  obtain ⟨⟨⟨hn, hnc, hns⟩, hty, hcl⟩, ⟨hd, hdc, hdl⟩, ⟨ht, htc, hts⟩, httl, hpr, hwe, hpo⟩ := h
  simp only [RR.qr] at hn hnc hns hty hcl hd hdc hdl ht htc hts httl hpr hwe hpo
  have H1 := Lib.hid hn
  have H2 := Lib.hid ht
  have H3 := Lib.hid hd
  clear hn ht hd
  unfold RR.cells
  simp only
  go_enter Try.func64, Try.ntmps64
  have hb0 : ∀ o : Obj, Below w.heap.size w (w.alloc o) := fun o => (Below.refl _ w).alloc (Nat.le_refl _) o
  go_wp2_with (first
    | (go_at_call 61; refine (right_any tA tc tg _ ((H2.out.alloc_top' _).goes hb2) hts).mono ?_; rintro e w3 ⟨rfl, hb3⟩)
    | (go_at_call 61; refine (right_any A c nm _ (H1.out.alloc_top' _) hns).mono ?_; rintro e w2 ⟨rfl, hb2⟩; obtain ⟨c0, c1, c2, c3, c4, c5, c6, c7, c8⟩ := (Vx.below (Vx.new w 41 (RR.cells ⟨A, c, dA, dc, tA, tc, ⟨⟨nm, ty, cl⟩, ttl, d, pr, we, po, tg⟩⟩)) hb2 (by simp)).c9))
  all_goals try go_ret
  all_goals try refine ⟨ret_bool ?_, ?_⟩
  all_goals first
    | exact ((hb0 _).trans (hb2.mono (by simp))).trans (hb3.mono ((hb0 _).trans (hb2.mono (by simp))).size)
    | exact (hb0 _).trans (hb2.mono (by simp))
    | skip
  all_goals clear hb0 H1 H2 H3
  all_goals try clear hb3
  all_goals try clear hb2
  all_goals have e33 : ((ty : Int) = 33) = (ty = 33) := by simp only [eq_iff_iff]; omega
  all_goals have e40 : ((d.length : Int) ≤ 4096) = (d.length ≤ 4096) := by simp only [eq_iff_iff]; omega
  all_goals have e41 : (4096 < (d.length : Int)) = (4096 < d.length) := by simp only [eq_iff_iff]; omega
  all_goals clear hnc hns hty hcl hdc hdl htc hts httl hpr hwe hpo
  all_goals simp_all [rightR]
  · rcases tg with _ | ⟨a, t⟩
    · simp
    · simp; omega
  · intros; omega
/-- the question's name is not right -/
theorem fits1_at (x : QR) (w : World) (h : QRd w w.heap.size x) :
    Calls Try.prog 60 #[.agg x.cells.toArray] w fun e w' => e = .returned (.bool (!rightN x.q.nm)) ∧ Below w.heap.size w w' := by
  obtain ⟨A, c, ⟨nm, ty, cl⟩⟩ := x
  obtain ⟨⟨hn, hnc, hns⟩, hty, hcl⟩ := h
  simp only at hn hnc hns hty hcl
  have H1 := Lib.hid hn
  clear hn
  unfold QR.cells
  simp only
  go_enter Try.func60, Try.ntmps60
  have hb0 : ∀ o : Obj, Below w.heap.size w (w.alloc o) := fun o => (Below.refl _ w).alloc (Nat.le_refl _) o
  go_wp2_with (go_at_call 61; refine (right_any A c nm _ (H1.out.alloc_top' _) hns).mono ?_; rintro e w2 ⟨rfl, hb2⟩)
  go_ret
  exact ⟨rfl, (hb0 _).trans (hb2.mono (by simp))⟩
theorem fits2_at (x : RR) (w : World) (h : RRd w w.heap.size x) :
    Calls Try.prog 63 #[.agg x.cells.toArray] w fun e w' => e = .returned (.bool (!rightR x.r)) ∧ Below w.heap.size w w' := by
  obtain ⟨A, c, dA, dc, tA, tc, ⟨⟨nm, ty, cl⟩, ttl, d, pr, we, po, tg⟩⟩ := x
  have H := Lib.hid h
  unfold RR.cells
  simp only
  go_enter Try.func63, Try.ntmps63
  have hb0 : ∀ o : Obj, Below w.heap.size w (w.alloc o) := fun o => (Below.refl _ w).alloc (Nat.le_refl _) o
  go_wp2_with (go_at_call 64; refine (rright_at ⟨A, c, dA, dc, tA, tc, ⟨⟨nm, ty, cl⟩, ttl, d, pr, we, po, tg⟩⟩ _ ((H.out.below (hb0 _)).more (by simp))).mono ?_; rintro e w2 ⟨rfl, hb2⟩)
  go_ret
  exact ⟨rfl, (hb0 _).trans (hb2.mono (by simp))⟩
set_option maxRecDepth 100000 in
set_option maxHeartbeats 400000 in
theorem idxQ_at (A : Option Addr) (c n : Nat) (l : List QR) (w : World) (h : QsRd w w.heap.size A c n l) :
    Calls Try.prog 76 #[.slice A n c, .func (.func 60) #[] #[]] w fun e w' => ∃ r : Int, e = .returned (.int .i64 r) ∧ decide (0 ≤ r) = l.any (fun x => !rightN x.q.nm) ∧ Below w.heap.size w w' := by
  have hn := h.2.1
  have hn' := h.2.2.2.1
  have H := Lib.hid h
  clear h
  go_enter Try.func76, Try.ntmps76
  go_wp2_with fail
  go_loopw [8] (fun i wr => ∃ k : Nat, k ≤ n ∧ i = .int .i64 k ∧ (l.take k).any (fun x => !rightN x.q.nm) = false ∧ Below w.heap.size w wr) (fun i _ => n - (intOf i).toNat)
  case atStart => exact ⟨0, Nat.zero_le _, rfl, rfl, Below.refl _ _⟩
  case round =>
    obtain ⟨k, hk, rfl, hall, hbel⟩ := hrel
    rcases Nat.lt_or_ge k n with hlt | hge
    · have hkl : k < l.length := by omega
      obtain ⟨b, o, rfl, _, hc⟩ := (H.out.below hbel).at_ hlt
      obtain ⟨c0, c1, c2⟩ := hc hkl
      have HX := Lib.hid (((H.out.below hbel).2.2.2.2 l[k] (List.getElem_mem hkl)).more hbel.size)
      clear hc
      go_wp2_with (go_at_call 60; refine (fits1_at l[k] _ HX.out).mono ?_; rintro e w2 ⟨rfl, hb2⟩)
      · go_ret
        exact ⟨k, rfl, any_hit l _ k hkl (by assumption), hbel.trans (hb2.mono hbel.size)⟩
      · exact ⟨⟨k + 1, by omega, by go_num, any_miss l _ k hkl hall (by assumption), hbel.trans (hb2.mono hbel.size)⟩, by simp [intOf]; omega⟩
    · go_wp2_with fail
      go_ret
      exact ⟨-1, rfl, any_end l _ k (by omega) hall, hbel⟩
set_option maxRecDepth 100000 in
set_option maxHeartbeats 400000 in
theorem idxR_at (A : Option Addr) (c n : Nat) (l : List RR) (w : World) (h : RsRd w w.heap.size A c n l) :
    Calls Try.prog 79 #[.slice A n c, .func (.func 63) #[] #[]] w fun e w' => ∃ r : Int, e = .returned (.int .i64 r) ∧ decide (0 ≤ r) = l.any (fun x => !rightR x.r) ∧ Below w.heap.size w w' := by
  have hn := h.2.1
  have hn' := h.2.2.2.1
  have H := Lib.hid h
  clear h
  go_enter Try.func79, Try.ntmps79
  go_wp2_with fail
  go_loopw [8] (fun i wr => ∃ k : Nat, k ≤ n ∧ i = .int .i64 k ∧ (l.take k).any (fun x => !rightR x.r) = false ∧ Below w.heap.size w wr) (fun i _ => n - (intOf i).toNat)
  case atStart => exact ⟨0, Nat.zero_le _, rfl, rfl, Below.refl _ _⟩
  case round =>
    obtain ⟨k, hk, rfl, hall, hbel⟩ := hrel
    rcases Nat.lt_or_ge k n with hlt | hge
    · have hkl : k < l.length := by omega
      obtain ⟨b, o, rfl, _, hc⟩ := (H.out.below hbel).at_ hlt
      obtain ⟨c0, c1, c2, c3, c4, c5, c6, c7, c8⟩ := (hc hkl).cells
      have HX := Lib.hid (((H.out.below hbel).2.2.2.2 l[k] (List.getElem_mem hkl)).more hbel.size)
      clear hc
      go_wp2_with (go_at_call 63; refine (fits2_at l[k] _ HX.out).mono ?_; rintro e w2 ⟨rfl, hb2⟩)
      · go_ret
        exact ⟨k, rfl, any_hit l _ k hkl (by assumption), hbel.trans (hb2.mono hbel.size)⟩
      · exact ⟨⟨k + 1, by omega, by go_num, any_miss l _ k hkl hall (by assumption), hbel.trans (hb2.mono hbel.size)⟩, by simp [intOf]; omega⟩
    · go_wp2_with fail
      go_ret
      exact ⟨-1, rfl, any_end l _ k (by omega) hall, hbel⟩
theorem conQ_at (A : Option Addr) (c n : Nat) (l : List QR) (w : World) (h : QsRd w w.heap.size A c n l) :
    Calls Try.prog 59 #[.slice A n c, .func (.func 60) #[] #[]] w fun e w' => e = .returned (.bool (l.any (fun x => !rightN x.q.nm))) ∧ Below w.heap.size w w' := by
  have H := Lib.hid h
  clear h
  go_enter Try.func59, Try.ntmps59
  go_wp2_with (go_at_call 76; refine (idxQ_at A c n l _ H.out).mono ?_; rintro e w2 ⟨r, rfl, hr, hb2⟩)
  go_ret
  exact ⟨rfl, hb2⟩
theorem conR_at (A : Option Addr) (c n : Nat) (l : List RR) (w : World) (h : RsRd w w.heap.size A c n l) :
    Calls Try.prog 62 #[.slice A n c, .func (.func 63) #[] #[]] w fun e w' => e = .returned (.bool (l.any (fun x => !rightR x.r))) ∧ Below w.heap.size w w' := by
  have H := Lib.hid h
  clear h
  go_enter Try.func62, Try.ntmps62
  go_wp2_with (go_at_call 79; refine (idxR_at A c n l _ H.out).mono ?_; rintro e w2 ⟨r, rfl, hr, hb2⟩)
  go_ret
  exact ⟨rfl, hb2⟩
end Go.Proofs.Ytlipmlbijddopaa
