/-
  gaugerlaw16.Made: the names that the laws are about: right, and the call's own.
-/
import Derived.Test.YtlipmlbijddopaaReads
import Derived.Test.YtlipmlbijddopaaAppP
set_option linter.unusedVariables false
set_option linter.unusedSimpArgs false
namespace Go.Proofs.Ytlipmlbijddopaa
open Go.RowKit
def made1 (s : List UInt8) : List (List UInt8) := if s.take 20 = [] then [] else [smallS (s.take 20)]
def madeN (l : List (List UInt8)) : List (List UInt8) := (l.take 8).flatMap made1
theorem made1_ok (s : List UInt8) : (made1 s).all okL = true ∧ (labS (made1 s)).length ≤ 21 := by
  unfold made1
  split
  · simp [labS]
  · rename_i h
    have hl : (smallS (s.take 20)).length = (s.take 20).length := smallS_length _
    have h1 : (s.take 20).length ≤ 20 := by rw [List.length_take]; omega
    have h2 : 0 < (s.take 20).length := List.length_pos_iff.2 h
    refine ⟨?_, by rw [labS_cons]; simp [labS, hl]; omega⟩
    simp only [List.all_cons, List.all_nil, Bool.and_true]
    unfold okL
    rw [hl, smallS_idem, decide_eq_true (show (s.take 20).length ≠ 0 by omega), decide_eq_true (show (s.take 20).length ≤ 63 by omega)]
    simp
theorem made_flat (l : List (List UInt8)) : (l.flatMap made1).all okL = true ∧ (labS (l.flatMap made1)).length ≤ 21 * l.length := by
  induction l with
  | nil => simp [labS]
  | cons s l ih =>
    have h := made1_ok s
    rw [List.flatMap_cons, List.all_append, h.1, ih.1, labS_append, List.length_append, List.length_cons]
    exact ⟨rfl, by omega⟩
theorem right_of (n : List (List UInt8)) (h1 : n.all okL = true) (h2 : (labS n).length ≤ 254) : rightN n = true := by
  unfold rightN
  have := labS_length n
  rw [h1, decide_eq_true (show sizeN n ≤ 255 by omega)]; rfl
theorem made_ok (l : List (List UInt8)) : (madeN l).all okL = true ∧ (labS (madeN l)).length ≤ 168 := by
  have h := made_flat (l.take 8)
  have : (l.take 8).length ≤ 8 := by rw [List.length_take]; omega
  exact ⟨h.1, by have := h.2; unfold madeN; omega⟩
theorem made_right (l : List (List UInt8)) : rightN (madeN l) = true := right_of _ (made_ok l).1 (by have := (made_ok l).2; omega)
theorem made_len (l : List (List UInt8)) : (madeN l).length ≤ 84 := by
  have := labS_len_le _ (made_ok l).1
  have := (made_ok l).2
  omega
theorem flat_take (l : List (List UInt8)) (k : Nat) (h : k < l.length) : (l.take (k + 1)).flatMap made1 = (l.take k).flatMap made1 ++ made1 l[k] := by
  rw [List.take_succ_eq_append_getElem h, List.flatMap_append]; simp
theorem grownBy_set (w : World) (g k : Nat) (u : Value) : w.grownBy (w.setCell ⟨g, k, none⟩ u) (some g) :=
  ⟨rfl, rfl, rfl, by simp, fun i hi hne => Below.heap_setCell w ⟨g, k, none⟩ u i (fun e => hne (by rw [e]))⟩
theorem Ow.setNe {w : World} {base : Nat} {e : TypeId} {v : Value} {xs : List Value} (h : Ow w base e v xs) (g k : Nat) (u : Value) (hne : ∀ q, v.ownBlock = some q → q ≠ g) : Ow (w.setCell ⟨g, k, none⟩ u) base e v xs :=
  World.ownsRow.kept h (grownBy_set w g k u) (by
    cases hv : v.ownBlock with
    | none => exact .inl rfl
    | some q => exact .inr (fun e => hne q hv (by injection e)))
theorem smallB_up (c : UInt8) (h1 : 65 ≤ (c.toNat : Int)) (h2 : (c.toNat : Int) ≤ 90) : ((smallB c).toNat : Int) = c.toNat + 32 := by
  have := smallB_yes c h1 h2
  omega
set_option maxRecDepth 100000 in
set_option maxHeartbeats 1000000 in
theorem made_any (A : Option Addr) (c : Nat) (l : List (List UInt8)) (w : World) (h : Rd w w.heap.size A l.length (sc l)) (hc : l.length ≤ c) (hb : l.length * 16 ≤ 140737488351232) (hx : ∀ x ∈ l, x.length ≤ 140737488351232) :
    Calls Try.prog 31 #[.slice A l.length c] w fun e w' => ∃ v, e = .returned v ∧ Ow w' w.heap.size 9 v (sc (madeN l)) ∧ Below w.heap.size w w' := by
  obtain ⟨i0, hi, hz0, hz1, hz2⟩ := info_parts Try.infoStr
  obtain ⟨K, hK⟩ : ∃ K, K = min l.length 8 := ⟨_, rfl⟩
  have hmin : min (l.length : Int) 8 = (K : Int) := by omega
  have hK1 : K ≤ l.length := by omega
  have hK2 : K ≤ 8 := by omega
  have hKt : l.take K = l.take 8 := by
    rcases Nat.lt_or_ge l.length 8 with h1 | h1
    · rw [List.take_of_length_le (by omega), List.take_of_length_le (by omega)]
    · rw [show K = 8 by omega]
  have HK := Lib.hid hKt
  have HX := Lib.hid hx
  clear hKt hK hx
  have ksl : ∀ W, (Instr.slice 36 (.slice A l.length c) none (some (.int .i64 (K : Int))) none).run Try.prog W = .ok (.slice A K c) W := fun W => run_sl_h W _ 9 Try.underlying36 szStr A l.length c K (by omega)
  go_enter Try.func31, Try.ntmps31
  go_wp2_with fail
  go_loopw [3, 15] (fun v i wr => ∃ k : Nat, k ≤ K ∧ i = .int .i64 k ∧ Ow wr w.heap.size 9 v (sc ((l.take k).flatMap made1)) ∧ Below w.heap.size w wr) (fun _ i _ => K - (intOf i).toNat)
  case atStart => exact ⟨0, Nat.zero_le _, rfl, Ow.nil _ _ _, Below.refl _ _⟩
  case round =>
    obtain ⟨k, hk, rfl, hown, hbel⟩ := hrel
    have hszw := hbel.size
    by_cases hlt : k < K
    · have hr := h.below hbel
      have hkl : k < l.length := by omega
      obtain ⟨b, o, rfl, _, hcx⟩ := hr.at_ hkl
      have hcell := hcx k _ (sc_get l k hkl)
      have hft := flat_take l k hkl
      have hxl := HX.out _ (List.getElem_mem hkl)
      have hmf := (made_flat (l.take k)).2
      have hml := labS_len_le _ (made_flat (l.take k)).1
      rw [List.length_take] at hmf
      have hml2 : ((l.take k).flatMap made1).length ≤ 84 := by omega
      clear hmf hml
      generalize l[k] = s at hcell hft hxl
      have HF := Lib.hid hft
      clear hcx hr hft
      obtain ⟨m, hm⟩ : ∃ m, m = min s.length 20 := ⟨_, rfl⟩
      have hmin2 : min (s.length : Int) 20 = (m : Int) := by omega
      have hms : m ≤ s.length := by omega
      have hm20 : m ≤ 20 := by omega
      obtain ⟨t, ht⟩ : ∃ t, t = s.take m := ⟨_, rfl⟩
      have ht20 : t = s.take 20 := by
        rw [ht]
        rcases Nat.lt_or_ge s.length 20 with h1 | h1
        · rw [List.take_of_length_le (by omega), List.take_of_length_le (by omega)]
        · rw [show m = 20 by omega]
      have htl : t.length = m := by rw [ht, List.length_take]; omega
      have kcut := fun W => cutPre W s m hms
      rw [← ht] at kcut
      have HT := Lib.hid ht20
      clear ht hm ht20
      obtain ⟨cap, w1, hrun, hcap, hb1, hz1', hown1⟩ := conv_sb (P := Try.prog) wr 9 22 5 t Try.underlying9 Try.underlying22 Try.underlying5
      rw [htl] at hrun
      have HTL := Lib.hid htl
      clear htl
      have hown2 := hown.far hb1
      have hne : ∀ q, u3.ownBlock = some q → q ≠ wr.heap.size := fun q hq => by have := (World.ownsRow.lt hown q hq).2; omega
      have hbel1 := hbel.trans (hb1.mono hszw)
      obtain ⟨g, hg⟩ : ∃ g, g = wr.heap.size := ⟨_, rfl⟩
      go_wp2_with fail
      rw [← hg] at hown1 hne ⊢
      have hgB : w.heap.size ≤ g := by omega
      have hHg : Hid (g = wr.heap.size) := hg
      clear hg hrun hown hbel hb1 hz1'
      go_loopw [27] (fun j wq => ∃ i : Nat, i ≤ m ∧ j = .int .i64 i ∧ Own wq g (bc (mid t i)) ∧ Ow wq w.heap.size 9 u3 (sc ((l.take k).flatMap made1)) ∧ Below w.heap.size w wq) (fun j _ => m - (intOf j).toNat)
      case atStart => exact ⟨0, Nat.zero_le _, rfl, by rw [mid_zero]; exact hown1, hown2, hbel1⟩
      case round =>
        clear hown1 hown2 hbel1
        obtain ⟨i, him, rfl, ho1, ho2, hbq⟩ := hrel
        by_cases hlt2 : i < m
        · have hil : i < t.length := by rw [HTL.out]; exact hlt2
          have hmg := mid_get t i hil
          obtain ⟨hc1, hc2⟩ := ho1 i (.int .u8 (t[i].toNat : Int)) (by simp [bc, hmg])
          clear hmg
          go_wp2_with fail
          · have t1 : 65 ≤ (t[i].toNat : Int) := by assumption
            have t2 : (t[i].toNat : Int) ≤ 90 := by assumption
            go_roundw
            case rel => exact ⟨i + 1, by omega, by go_num, by rw [← smallB_up _ t1 t2, ← mid_set t i hil, ← bc_set]; exact ho1.set_ i _, ho2.setNe g i _ hne, hbq.setCell (by exact hgB) _⟩
            case measure => simp [intOf]; omega
          · have t2 : ¬ (t[i].toNat : Int) ≤ 90 := by first | assumption | (have h9 : 90 < (t[i].toNat : Int) := (by assumption); omega)
            go_roundw
            case rel => exact ⟨i + 1, by omega, by go_num, by rw [mid_same t i hil (smallB_no _ (fun h => t2 h.2))]; exact ho1, ho2, hbq⟩
            case measure => simp [intOf]; omega
          · have t2 : ¬ 65 ≤ (t[i].toNat : Int) := by first | assumption | (have h9 : (t[i].toNat : Int) < 65 := (by assumption); omega)
            go_roundw
            case rel => exact ⟨i + 1, by omega, by go_num, by rw [mid_same t i hil (smallB_no _ (fun h => t2 h.1))]; exact ho1, ho2, hbq⟩
            case measure => simp [intOf]; omega
        · rw [mid_all t i (by rw [HTL.out]; omega)] at ho1
          by_cases hm0 : m = 0
          · have hte : t = [] := List.eq_nil_of_length_eq_zero (by rw [HTL.out]; exact hm0)
            have hm1 : made1 s = [] := by unfold made1; rw [if_pos (by rw [← HT.out]; exact hte)]
            have HM := Lib.hid hm1
            clear hm1 hte
            subst hm0
            go_wp2_with fail
            go_roundw
            case rel => exact ⟨k + 1, by omega, by go_num, by rw [HF.out, HM.out, List.append_nil]; exact ho2, hbq⟩
            case measure => simp [intOf]; omega
          · have hm1 : made1 s = [smallS t] := by
              unfold made1
              rw [if_neg (by rw [← HT.out]; intro h0; have := HTL.out; rw [h0] at this; simp at this; omega), ← HT.out]
            have HM := Lib.hid hm1
            have hcv := conv_bs (P := Try.prog) wr 22 5 9 (some ⟨g, 0, none⟩) cap (g + 1) (smallS t) Try.underlying22 Try.underlying5 Try.underlying9 (by have := ho1.rd (B := g + 1) (by omega); simpa using this)
            rw [smallS_length, HTL.out] at hcv
            have hbqs := hbq.size
            clear hm1
            go_wp2_with (at_builtin; refine wpList_app _ rfl _ _ _ _ rfl w.heap.size 9 i0 (.string ⟨#[]⟩) 16 Try.underlying36 hi hz0 hz1 hz2 rfl (by omega) _ _ (ho2.alloc _) rfl 1 [_] (one_src Try.underlying36 _ rfl) (by rw [sc_length]; omega) (by simp; omega) ?_; intro v3 w3 hown3 hgr3 hsz3)
            go_roundw
            case rel =>
              refine ⟨k + 1, by omega, by go_num, ?_, hbq.trans ((((Gr.refl _ _).alloc _).trans hgr3).below ho2.lt hbqs)⟩
              rw [HF.out, HM.out]
              have e1 : sc ((l.take k).flatMap made1 ++ [smallS t]) = sc ((l.take k).flatMap made1) ++ [.string ⟨(smallS t).toArray⟩] := by simp [sc, strV]
              rw [e1]; exact hown3
            case measure => simp [intOf]; omega
    · have : k = K := by omega
      subst this
      go_wp2_with fail
      go_ret
      exact ⟨_, rfl, by unfold madeN; rw [← HK.out]; exact hown, hbel⟩
end Go.Proofs.Ytlipmlbijddopaa
