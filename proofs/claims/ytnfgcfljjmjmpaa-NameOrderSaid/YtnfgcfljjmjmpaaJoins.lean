/-
  NameJoins, under the guard.
-/
import Derived.Test.YtnfgcfljjmjmpaaAt
import Derived.Deep.DeepCutAuto
set_option linter.unusedVariables false
set_option linter.unusedSimpArgs false
namespace Go.Proofs.Ytnfgcfljjmjmpaa
open Go.RowKit
theorem sc_append (a b : List (List UInt8)) : sc (a ++ b) = sc a ++ sc b := by simp [sc]
theorem Knows.step {w w' : World} {q : Nat} {l : List (Option Addr × Nat × List Value)} (h : Knows w l) (hq : w' = w.drewN q) : Knows w' l := by subst hq; exact h
theorem made1_len (s x : List UInt8) (h : x ∈ made1 s) : x.length ≤ 20 := by
  unfold made1 at h
  split at h
  · cases h
  · rw [List.mem_singleton] at h
    subst h
    rw [smallS_length, List.length_take]; omega
theorem made_mem (l : List (List UInt8)) (x : List UInt8) (h : x ∈ madeN l) : x.length ≤ 20 := by
  unfold madeN at h
  obtain ⟨s, _, hs⟩ := List.mem_flatMap.1 h
  exact made1_len s x hs
theorem labS_len20 (m : List (List UInt8)) (h : ∀ x ∈ m, x.length ≤ 20) : (labS m).length ≤ 21 * m.length := by
  induction m with
  | nil => simp [labS]
  | cons l m ih =>
    have h1 := h l (List.mem_cons_self ..)
    have h2 := ih (fun x hx => h x (List.mem_cons_of_mem _ hx))
    rw [labS_cons, List.length_cons, List.length_append, List.length_cons]; omega
/-- the plain law: P four labels at most, Z a zone of four at most -/
structure JoinP (P Z : List (List UInt8)) : Prop where
  rz : rightN Z = true
  rn : rightN (P ++ Z) = true
  un : underN (P ++ Z) Z = true
  sz : sizeN (P ++ Z) + 1 = sizeN P + sizeN Z
  rd : readN (appN (formN Z) [0] (P ++ Z)) (formN Z).length = (P ++ Z, (appN (formN Z) [0] (P ++ Z)).length, 0)
  le : Z ≠ [] → (appN (formN Z) [0] (P ++ Z)).length ≤ (formN Z).length + sizeN P - 1 + 2
  pl : (formN Z).length < (appN (formN Z) [0] (P ++ Z)).length ∧ (appN (formN Z) [0] (P ++ Z)).length ≤ 600
theorem find_le {α : Type} (l : List α) (p : α → Bool) (x : α) (hx : x ∈ l) (hp : p x = true) : l.find? p ≠ none := by
  intro h
  have := List.find?_eq_none.1 h x hx
  exact this hp
theorem joinP (P Z : List (List UInt8)) (hP : P.all okL = true) (hZ : Z.all okL = true) (hp : (labS P).length ≤ 84) (hz : (labS Z).length ≤ 84) : JoinP P Z := by
  have rz : rightN Z = true := right_of Z hZ (by omega)
  have rn : rightN (P ++ Z) = true := right_of _ (by rw [List.all_append, hP, hZ]; rfl) (by rw [labS_append, List.length_append]; omega)
  have sz := sizeN_append P Z
  have sp := labS_length P
  have szz := labS_length Z
  have fl := formN_length Z
  obtain ⟨a1, a2, a3, a4⟩ := app_reads (formN Z) [0] (P ++ Z) rn
  refine ⟨rz, rn, ?_, sz, a1, fun hne => ?_, a2, by omega⟩
  · unfold underN
    rw [List.length_append, decide_eq_true (show Z.length ≤ P.length + Z.length by omega)]
    rw [show P.length + Z.length - Z.length = P.length by omega, List.drop_left' rfl]
    simp
  · have h0 : readN (formN Z) 0 = (Z, sizeN Z, 0) := by
      have := read_full [] [] Z rz
      simpa [formN] using this
    have hpl : (0 : Int) ∈ placesN (formN Z) [0] := by
      unfold placesN
      rw [List.mem_mergeSort]
      unfold placesU
      rw [List.flatMap_cons, List.flatMap_nil, List.append_nil]
      unfold place1
      rw [if_pos ⟨by omega, by omega, by simpa using congrArg (fun r => r.2.2) h0⟩]
      exact List.mem_cons_self ..
    rcases app_shape (formN Z) [0] (P ++ Z) with ⟨e, hall⟩ | ⟨i, a, hi, ha, hab, he, hs, e, hall⟩
    · exfalso
      exact find_le (placesN (formN Z) [0]) (hit (formN Z) ((P ++ Z).drop P.length)) 0 hpl (by
        unfold hit
        rw [List.drop_left' rfl, show (0 : Int).toNat = 0 from rfl, h0]
        simp) (hall P.length (by rw [List.length_append]; have := List.length_pos_iff.2 hne; omega))
    · have hiP : i ≤ P.length := by
        rcases Nat.lt_or_ge P.length i with h | h
        · exfalso
          have := hall P.length h
          exact find_le (placesN (formN Z) [0]) (hit (formN Z) ((P ++ Z).drop P.length)) 0 hpl (by
            unfold hit
            rw [List.drop_left' rfl, show (0 : Int).toNat = 0 from rfl, h0]
            simp) this
        · exact h
      rw [e]
      have hl : (formN Z ++ labS ((P ++ Z).take i) ++ ptr (a : Int)).length = (formN Z).length + (labS ((P ++ Z).take i)).length + 2 := by simp [ptr]; omega
      have hl2 : (labS ((P ++ Z).take i)).length ≤ (labS P).length := by
        rw [List.take_append_of_le_length hiP]
        have := congrArg (fun x => (labS x).length) (List.take_append_drop i P)
        simp only [labS_append, List.length_append] at this
        omega
      omega

set_option maxRecDepth 100000 in
set_option maxHeartbeats 2000000 in
theorem nameJoins_any (haw : AwakeOk) (A0 : Option Addr) (c0 : Nat) (a : List (List UInt8)) (A1 : Option Addr) (c1 : Nat) (b : List (List UInt8)) (w : World)
    (r0 : Rd w w.heap.size A0 a.length (sc a)) (hc0 : a.length ≤ c0) (hb0 : a.length * 16 ≤ 140737488351232) (hx0 : ∀ x ∈ a, x.length ≤ 140737488351232)
    (r1 : Rd w w.heap.size A1 b.length (sc b)) (hc1 : b.length ≤ c1) (hb1 : b.length * 16 ≤ 140737488351232) (hx1 : ∀ x ∈ b, x.length ≤ 140737488351232) :
    Calls Try.prog 4 #[.slice A0 a.length c0, .slice A1 b.length c1] w fun e w' => e = .returned (.bool true) ∧ Below w.heap.size w w' := by
  obtain ⟨i0, hi, hz0, hz1, hz2⟩ := info_parts Try.infoStr
  have haw' := Lib.hid haw
  have HX0 := Lib.hid hx0
  have HX1 := Lib.hid hx1
  clear haw hx0 hx1
  have J := joinP ((madeN a).take 4) ((madeN b).take 4) (by
      rw [List.all_eq_true]; intro x hx; exact List.all_eq_true.1 (made_ok a).1 x (List.mem_of_mem_take hx)) (by
      rw [List.all_eq_true]; intro x hx; exact List.all_eq_true.1 (made_ok b).1 x (List.mem_of_mem_take hx))
    (by have := labS_len20 ((madeN a).take 4) (fun x hx => made_mem a x (List.mem_of_mem_take hx)); rw [List.length_take] at this; omega)
    (by have := labS_len20 ((madeN b).take 4) (fun x hx => made_mem b x (List.mem_of_mem_take hx)); rw [List.length_take] at this; omega)
  have hLa := made_len a
  have hLb := made_len b
  obtain ⟨K1, hK1⟩ : ∃ K, K = min (madeN a).length 4 := ⟨_, rfl⟩
  obtain ⟨K2, hK2⟩ : ∃ K, K = min (madeN b).length 4 := ⟨_, rfl⟩
  have hmin1 : min ((madeN a).length : Int) 4 = (K1 : Int) := by omega
  have hmin2 : min ((madeN b).length : Int) 4 = (K2 : Int) := by omega
  have hKa : K1 ≤ (madeN a).length := by omega
  have hKb : K2 ≤ (madeN b).length := by omega
  have hK14 : K1 ≤ 4 := by omega
  have hK24 : K2 ≤ 4 := by omega
  obtain ⟨P, hP⟩ : ∃ P, P = (madeN a).take 4 := ⟨_, rfl⟩
  obtain ⟨Z, hZ⟩ : ∃ Z, Z = (madeN b).take 4 := ⟨_, rfl⟩
  have hPl : P.length = K1 := by rw [hP, List.length_take, hK1, Nat.min_comm]
  have hZl : Z.length = K2 := by rw [hZ, List.length_take, hK2, Nat.min_comm]
  have hPt : P = (madeN a).take K1 := by
    rw [hP]
    rcases Nat.lt_or_ge (madeN a).length 4 with h1 | h1
    · rw [List.take_of_length_le (by omega), List.take_of_length_le (by omega)]
    · rw [show K1 = 4 by omega]
  have hZt : Z = (madeN b).take K2 := by
    rw [hZ]
    rcases Nat.lt_or_ge (madeN b).length 4 with h1 | h1
    · rw [List.take_of_length_le (by omega), List.take_of_length_le (by omega)]
    · rw [show K2 = 4 by omega]
  rw [← hP, ← hZ] at J
  have HPl := Lib.hid hPl
  have HZl := Lib.hid hZl
  have HPt := Lib.hid hPt
  have HZt := Lib.hid hZt
  clear hPl hZl hPt hZt hP hZ hK1 hK2
  have tok : True := trivial
  go_enter Try.func4, Try.ntmps4
  go_upto_region 4 with (first
    | (go_at_call 16; refine (made_at w2 A1 c1 b.length b rfl s1 hc1 hb1 HX1.out).mono ?_; rintro e w3 ⟨v3, rfl, hown3, hb3⟩; obtain ⟨B1, d1, rfl, hd1, t1⟩ := hown3.form7 (madeN b).length (by simp); have hB3 := hB2.trans (hb3.mono hB2.size); have t0 := (t0.below hb3).more hb3.size; clear hown3 hb3 s1)
    | (go_at_call 16; have _t := tok; refine (made_at w1 A0 c0 a.length a rfl s0 hc0 hb0 HX0.out).mono ?_; rintro e w2 ⟨v2, rfl, hown2, hb2⟩; obtain ⟨B0, d0, rfl, hd0, t0⟩ := hown2.form7 (madeN a).length (by simp); have hB2 := hB1.trans (hb2.mono hB1.size); have s1 := (s1.below hb2).more hb2.size; clear hown2 hb2 s0 tok)
    | (go_at_call 11; refine (haw'.out _).mono ?_; rintro e w1 ⟨rfl, hB1⟩; have s0 := (r0.below hB1).more hB1.size; have s1 := (r1.below hB1).more hB1.size))
  have sP : Rd w3 w3.heap.size B0 K1 (sc P) := by rw [HPt.out, sc, List.map_take]; exact t0.pre hKa
  have sZ : Rd w3 w3.heap.size B1 K2 (sc Z) := by rw [HZt.out, sc, List.map_take]; exact t1.pre hKb
  have ksl1 : ∀ W, (Instr.slice 25 (.slice B0 (madeN a).length d0) none (some (.int .i64 (K1 : Int))) none).run Try.prog W = .ok (.slice B0 K1 d0) W := fun W => run_sl_h W _ 9 Try.underlying25 szStr B0 _ d0 K1 (by omega)
  have ksl2 : ∀ W, (Instr.slice 25 (.slice B1 (madeN b).length d1) none (some (.int .i64 (K2 : Int))) none).run Try.prog W = .ok (.slice B1 K2 d1) W := fun W => run_sl_h W _ 9 Try.underlying25 szStr B1 _ d1 K2 (by omega)
  clear t0 t1
  go_quiet (fail)
  obtain ⟨w4, hw4⟩ : ∃ w4, w4 = w3.drewN nq := ⟨_, rfl⟩
  have hB4 := below_step hB3 hw4
  have sP := sP.step hw4
  have sZ := sZ.step hw4
  rw [← hw4]
  clear hw4 hB3
  have hP1 : K1 ≤ d0 := by omega
  have hZ1 : K2 ≤ d1 := by omega
  have hnl : (P ++ Z).length = K1 + K2 := by rw [List.length_append, HPl.out, HZl.out]
  have HNl := Lib.hid hnl
  have hsz := size_right J.rn
  have hszP : sizeN P ≤ 255 := by have := J.sz; have := labS_length Z; omega
  have hszZ := size_right J.rz
  have hse := J.sz
  have hscd : ((sizeN (P ++ Z) : Nat) : Int) = (sizeN P : Int) + (sizeN Z : Int) - 1 := by omega
  have HJ := Lib.hid J
  have HSC := Lib.hid hscd
  have tsz : ((sizeN (P ++ Z) : Int) != (sizeN P : Int) + (sizeN Z : Int) - 1) = false := by simp; omega
  obtain ⟨F, hF⟩ : ∃ F, F = formN Z := ⟨_, rfl⟩
  obtain ⟨O, hO⟩ : ∃ O, O = appN (formN Z) [0] (P ++ Z) := ⟨_, rfl⟩
  obtain ⟨FL, hFL⟩ : ∃ n, n = F.length := ⟨_, rfl⟩
  obtain ⟨OL, hOL⟩ : ∃ n, n = O.length := ⟨_, rfl⟩
  have hFz : FL = sizeN Z := by rw [hFL, hF, formN_length]
  have hpl := J.pl
  have hle := J.le
  have hrd := J.rd
  rw [← hF] at hO
  rw [← hF, ← hO] at hpl hle hrd
  rw [← hFL, ← hOL] at hpl hle hrd
  have hFb : FL ≤ 255 := by omega
  have hOb : OL ≤ 600 := by omega
  have hFO : FL < OL := hpl.1
  have HF := Lib.hid hF
  have HO := Lib.hid hO
  have HFL := Lib.hid hFL
  have HOL := Lib.hid hOL
  have HLE := Lib.hid hle
  have HRD := Lib.hid hrd
  have hsP1 : 1 ≤ sizeN P := by have := sizeN_length P; omega
  have tok1 : True := trivial
  have tok2 : True := trivial
  have tok3 : True := trivial
  clear hnl J hse hscd hF hO hFL hOL hFz hpl hle hrd
  go_upto_region 13 with (first
    | (go_at_call 15; refine (seq_at w11 A11 A6 c11 c6 (K1 + K2) (K1 + K2) (P ++ Z) (P ++ Z) true (decide_eq_true rfl) HNl.out HNl.out r11 (k11.get (.tail _ (.tail _ (.head _)))) (by omega) (by omega)).mono ?_; rintro e w12 ⟨rfl, q, hq⟩; have k12 := k11.step hq; have hB12 := below_step hB11 hq; clear hq)
    | (go_at_call 12; refine (read_at A10 c10 OL O FL w10 _ HOL.out.symm HRD.out (by exact k10.get (.head _)) hl10 (by omega) (by omega)).mono ?_; rintro e w11 ⟨v11, rfl, hown11, hb11⟩; obtain ⟨A11, c11, rfl, hl11, r11⟩ := hown11.form7 (K1 + K2) (by rw [sc_length]; exact HNl.out); have hB11 := hB10.trans (hb11.mono hB10.size); have k11 := k10.below hb11; clear hown11 hb11)
    | (go_at_call 21; refine (append_at (w9.alloc (.cells (ic [0]).toArray 3)) A9 _ A6 c9 1 c6 FL 1 (K1 + K2) F [0] (P ++ Z) HFL.out.symm rfl HNl.out ((k9.alloc _).get (.head _)) hl9 (by omega) (Rd.lit_top w9 3 (ic [0]) 1 _ rfl rfl (by decide)) (by omega) ((k9.alloc _).get (.tail _ (.head _))) hl6 HJ.out.rn).mono ?_; rw [← HO.out]; rintro e w10 ⟨v10, rfl, hown10, hb10⟩; obtain ⟨A10, c10, rfl, hl10, r10⟩ := hown10.form7 OL (by rw [bc_length]; exact HOL.out.symm); have hbb10 : Below w9.heap.size w9 w10 := ((Below.refl _ w9).alloc (Nat.le_refl _) _).trans (hb10.mono (by simp)); have hB10 := hB9.trans (hbb10.mono hB9.size); have k10 := (k9.below hbb10).cons r10; clear hown10 hb10 hbb10)
    | (go_at_call 20; refine (form_at w8 B1 d1 K2 Z HZl.out (k8.get (.tail _ (.tail _ (.head _)))) HJ.out.rz).mono ?_; rw [← HF.out]; rintro e w9 ⟨v9, rfl, hown9, hb9⟩; obtain ⟨A9, c9, rfl, hl9, r9⟩ := hown9.form7 FL (by rw [bc_length]; exact HFL.out.symm); have hB9 := hB8.trans (hb9.mono hB8.size); have k9 := (k8.below hb9).cons r9; clear hown9 hb9)
    | (go_at_call 13; refine (right_at w7 A6 c6 (K1 + K2) (P ++ Z) true HJ.out.rn HNl.out (k7.get (.head _)) (by omega)).mono ?_; rintro e w8 ⟨rfl, hb8⟩; have hB8 := hB7.trans (hb8.mono hB7.size); have k8 := k7.below hb8; clear hb8)
    | (go_at_call 19; have _t := tok1; refine (size_at w7 A6 c6 (K1 + K2) (P ++ Z) _ rfl HNl.out (k7.get (.head _)) (by omega)).mono ?_; rintro e w8 ⟨rfl, rfl⟩; clear tok1)
    | (go_at_call 19; have _t := tok2; refine (size_at w7 B0 d0 K1 P _ rfl HPl.out (k7.get (.tail _ (.head _))) (by omega)).mono ?_; rintro e w8 ⟨rfl, rfl⟩; clear tok2)
    | (go_at_call 19; have _t := tok3; refine (size_at w7 B1 d1 K2 Z _ rfl HZl.out (k7.get (.tail _ (.tail _ (.head _)))) (by omega)).mono ?_; rintro e w8 ⟨rfl, rfl⟩; clear tok3)
    | (go_at_call 18; refine (under_at w6 A6 B1 c6 d1 (K1 + K2) K2 (P ++ Z) Z true HJ.out.un HNl.out HZl.out (k6.get (.head _)) (k6.get (.tail _ (.tail _ (.head _)))) hl6 (by omega) (by omega)).mono ?_; rintro e w7 ⟨rfl, q, hq⟩; have k7 := k6.step hq; have hB7 := below_step hB6 hq; clear hq)
    | (go_at_call 17; refine (sclone_at w4 B0 d0 K1 P HPl.out (by exact sP) (by omega)).mono ?_; rintro e w5 ⟨v5, rfl, hown5, hb5⟩; have hB5 := hB4.trans (hb5.mono hB4.size); have sP := sP.below hb5; have sZ := sZ.below hb5)
    | (at_builtin; refine wpList_app _ rfl _ _ _ _ rfl w4.heap.size 9 i0 (.string ⟨#[]⟩) 16 Try.underlying25 hi hz0 hz1 hz2 rfl (by omega) _ _ hown5 rfl K2 (sc Z) (sZ.src Try.underlying25 (sc_one _)) (by rw [sc_length, HPl.out]; omega) hb5.size ?_; intro v6 w6 hown6 hgr6 hsz6; have hb6 := hgr6.below hown5.lt hb5.size; obtain ⟨A6, c6, rfl, hl6, r6⟩ := hown6.form7 (K1 + K2) (by rw [List.length_append, sc_length, sc_length, HPl.out, HZl.out]); rw [← sc_append] at r6; have hB6 := hB5.trans (hb6.mono hB4.size); have k6 : Knows w6 [(A6, K1 + K2, sc (P ++ Z)), (B0, K1, sc P), (B1, K2, sc Z)] := (((Knows.nil w6).cons ((sZ.below hb6).more hsz6)).cons ((sP.below hb6).more hsz6)).cons r6; clear hown6 hgr6 hb6 hown5 hb5 sP sZ))
  by_cases hk2 : K2 = 0
  · subst hk2
    go_wp2_with fail
    go_ret
    exact ⟨rfl, hB12⟩
  · have hk3 : ((K2 : Int) == 0) = false := by simp; omega
    have h9 := HLE.out (by intro h0; have := HZl.out; rw [h0] at this; simp at this; omega)
    have h10 : (OL : Int) ≤ (FL : Int) + (sizeN P : Int) - 1 + 2 := by omega
    go_wp2_with (go_at_call 19; refine (size_at w12 B0 d0 K1 P _ rfl HPl.out (k12.get (.tail _ (.tail _ (.tail _ (.head _))))) (by omega)).mono ?_; rintro e w8 ⟨rfl, rfl⟩)
    go_ret
    exact ⟨rfl, hB12⟩
end Go.Proofs.Ytnfgcfljjmjmpaa
