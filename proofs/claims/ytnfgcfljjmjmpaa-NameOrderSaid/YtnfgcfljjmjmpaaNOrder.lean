/-
  NameOrder, under the guard.
-/
import Derived.Test.YtnfgcfljjmjmpaaSort
import Derived.Test.YtnfgcfljjmjmpaaAwake
import Derived.Test.YtnfgcfljjmjmpaaMade
import Derived.Test.YtnfgcfljjmjmpaaApp0
import Derived.Deep.RegionHeld3
import Derived.IntWalk
set_option linter.unusedVariables false
set_option linter.unusedSimpArgs false
namespace Go.Proofs.Ytnfgcfljjmjmpaa
open Go.RowKit
theorem keep_al {w0 W : World} (h : Below w0.heap.size w0 W) (o : Obj) : Below w0.heap.size w0 (W.alloc o) := h.alloc h.size o
theorem keep_ald {w0 W : World} (h : Below w0.heap.size w0 W) (o : Obj) : Below w0.heap.size w0 (W.alloc o).drew := (h.alloc h.size o).drew
theorem step_slice_l {P : Program} {w : World} {ops : Array Oper} {o : Oper} {a : Act} {K : Act → World → Prop} {Q : Exit → Act → World → Prop} {E : Prop} (hgd : o.guard = none) (t : TypeId) (x l : Operand)
    (ho : o.op = .slice t x (some l) none none) (v lv r : Value) (hv : a.eval x = v) (hl : a.eval l = lv) (et : TypeId) (hu : P.underlying t = some (.slice et)) (hrun : (Instr.slice t v (some lv) none none).run P w = .ok r w) (h : K (a.put o.dst r) w) :
    if Region.wanted o (yielded ops a.tmps) = true then Oper.wp P o a w K Q else E := by
  have hw : Region.wanted o (yielded ops a.tmps) = true := by simp [Region.wanted, hgd]
  rw [if_pos hw]
  unfold Oper.wp execOp
  simp only [ho, Sem.run_bind, Sem.run_pure, Result.andThen_ok, Option.map_some, Option.map_none, hv, hl]
  have e : (Instr.sliceAt t v (some lv) none none).run P w = .ok r w := by
    simp [Instr.sliceAt, Sem.run_bind, run_underlying hu, hrun]
  rw [e]
  exact h
theorem own_new (w : World) (xs : List Value) (t : TypeId) : Own (w.alloc (.cells xs.toArray t)) w.heap.size xs := by
  intro j u hu
  have h1 := World.cell?_alloc_mark w xs.toArray t (0, 0) j
  have h2 := World.frozen?_alloc_mark w xs.toArray t 0 0 j
  refine ⟨h1.trans (by simpa using hu), h2.trans (by simp)⟩
theorem lt_le {a b : Row} (h : ltR a b = true) : cmpN a.l b.l ≤ 0 := by have := of_decide_eq_true h; omega
theorem nlt_le {a b : Row} (h : ltR a b = false) : cmpN b.l a.l ≤ 0 := by have := of_decide_eq_false h; rw [Ord.n_neg a.l b.l]; omega
theorem isort3 (a b c : Row) : ∃ t0 t1 t2, isortG 2 1 [a, b, c] = [t0, t1, t2] ∧ cmpN t0.l t1.l ≤ 0 ∧ cmpN t1.l t2.l ≤ 0 ∧ ∀ r ∈ [t0, t1, t2], r ∈ [a, b, c] := by
  cases h1 : ltR b a with
  | true =>
    have e1 : sift [a, b, c] 1 = [b, a, c] := by simp [sift, swapR, h1]
    cases h2 : ltR c a with
    | true =>
      cases h3 : ltR c b with
      | true => exact ⟨c, b, a, by simp [isortG, e1]; simp [sift, swapR, h2, h3], lt_le h3, lt_le h1, by simp⟩
      | false => exact ⟨b, c, a, by simp [isortG, e1]; simp [sift, swapR, h2, h3], nlt_le h3, lt_le h2, by simp⟩
    | false => exact ⟨b, a, c, by simp [isortG, e1]; simp [sift, swapR, h2], lt_le h1, nlt_le h2, by simp⟩
  | false =>
    have e1 : sift [a, b, c] 1 = [a, b, c] := by simp [sift, swapR, h1]
    cases h2 : ltR c b with
    | true =>
      cases h3 : ltR c a with
      | true => exact ⟨c, a, b, by simp [isortG, e1]; simp [sift, swapR, h2, h3], lt_le h3, nlt_le h1, by simp⟩
      | false => exact ⟨a, c, b, by simp [isortG, e1]; simp [sift, swapR, h2, h3], nlt_le h3, lt_le h2, by simp⟩
    | false => exact ⟨a, b, c, by simp [isortG, e1]; simp [sift, swapR, h2], nlt_le h1, nlt_le h2, by simp⟩
theorem ow_rt {w : World} {base : Nat} {e : TypeId} {A : Option Addr} {n c : Nat} {xs : List Value} (h : Ow w base e (.slice A n c) xs) : Rd w w.heap.size A n xs := by
  have hl := h.len
  subst hl
  exact Rd.of_own h
theorem rd_suf {w : World} {B n cap : Nat} {A : Option Addr} {l : List (List UInt8)} (h : Rd w B A n (sc l)) (hc : n ≤ cap) (d : Nat) (hd : d ≤ n) : Rd w B (cutA A cap d) (n - d) (sc (l.drop d)) := by
  have := h.cut (k := d) (m := n) (cap := cap) hd (Nat.le_refl _) hc
  rw [show ((sc l).drop d).take (n - d) = sc (l.drop d) by
    have hl := h.1
    rw [List.take_of_length_le (by rw [List.length_drop]; omega)]
    simp [sc, List.map_drop]] at this
  exact this
set_option maxRecDepth 100000 in
set_option maxHeartbeats 8000000 in
theorem nameOrder_any (A0 : Option Addr) (c0 : Nat) (l0 : List (List UInt8)) (A1 : Option Addr) (c1 : Nat) (l1 : List (List UInt8)) (A2 : Option Addr) (c2 : Nat) (l2 : List (List UInt8)) (sh : Nat) (w : World)
    (r0 : Rd w w.heap.size A0 l0.length (sc l0)) (hc0 : l0.length ≤ c0) (hb0 : l0.length * 16 ≤ 140737488351232) (hx0 : ∀ x ∈ l0, x.length ≤ 140737488351232)
    (r1 : Rd w w.heap.size A1 l1.length (sc l1)) (hc1 : l1.length ≤ c1) (hb1 : l1.length * 16 ≤ 140737488351232) (hx1 : ∀ x ∈ l1, x.length ≤ 140737488351232)
    (r2 : Rd w w.heap.size A2 l2.length (sc l2)) (hc2 : l2.length ≤ c2) (hb2 : l2.length * 16 ≤ 140737488351232) (hx2 : ∀ x ∈ l2, x.length ≤ 140737488351232) (hsh : sh < 256) :
    Calls Try.prog 10 #[.slice A0 l0.length c0, .slice A1 l1.length c1, .slice A2 l2.length c2, .int .u8 (sh : Int)] w fun e w' => e = .returned (.bool true) ∧ Below w.heap.size w w' := by
  obtain ⟨i0, hi, hz0, hz1, hz2⟩ := info_parts Try.infoStr
  obtain ⟨P, hP⟩ : ∃ P, madeN l0 = P := ⟨_, rfl⟩
  obtain ⟨Q, hQ⟩ : ∃ Q, madeN l1 = Q := ⟨_, rfl⟩
  obtain ⟨R, hR⟩ : ∃ R, madeN l2 = R := ⟨_, rfl⟩
  obtain ⟨K, hK⟩ : ∃ K, P.length = K := ⟨_, rfl⟩
  obtain ⟨K1, hK1⟩ : ∃ K, Q.length = K := ⟨_, rfl⟩
  obtain ⟨K2, hK2⟩ : ∃ K, R.length = K := ⟨_, rfl⟩
  have hk := made_len l0
  have hk1 := made_len l1
  have hk2 := made_len l2
  rw [hP, hK] at hk
  rw [hQ, hK1] at hk1
  rw [hR, hK2] at hk2
  obtain ⟨s4, hs4⟩ : ∃ s, s = sh % 4 := ⟨_, rfl⟩
  obtain ⟨s5, hs5⟩ : ∃ s, s = sh / 4 := ⟨_, rfl⟩
  obtain ⟨s6, hs6⟩ : ∃ s, s = s5 % 4 := ⟨_, rfl⟩
  obtain ⟨z, hz⟩ : ∃ z, z = min K s4 := ⟨_, rfl⟩
  obtain ⟨y, hy⟩ : ∃ y, y = min K s6 := ⟨_, rfl⟩
  obtain ⟨d, hd⟩ : ∃ d, d = K - z := ⟨_, rfl⟩
  obtain ⟨q, hq⟩ : ∃ q, q = K - y := ⟨_, rfl⟩
  have hs44 : s4 < 4 := by omega
  have hs64 : s6 < 4 := by omega
  have hs55 : s5 < 64 := by omega
  have m1 : (sh : Int) % 4 = (s4 : Int) := by omega
  have m2 : (sh : Int) / 4 = (s5 : Int) := by omega
  have m5 : (s5 : Int) % 4 = (s6 : Int) := by omega
  have m3 : (sh : Int).tmod 4 = (s4 : Int) := by rw [Int.tmod_eq_emod_of_nonneg (by omega)]; exact m1
  have m4 : (sh : Int).tdiv 4 = (s5 : Int) := by rw [Int.tdiv_eq_ediv_of_nonneg (by omega)]; exact m2
  have m6 : (s5 : Int).tmod 4 = (s6 : Int) := by rw [Int.tmod_eq_emod_of_nonneg (by omega)]; exact m5
  have m7 : IntKind.u8.wrap (s5 : Int) = (s5 : Int) := by rw [IntKind.wrap_u8']; omega
  have hmin1 : min (K : Int) (s4 : Int) = (z : Int) := by omega
  have hmin2 : min (K : Int) (s6 : Int) = (y : Int) := by omega
  have hsub1 : (K : Int) - (z : Int) = (d : Int) := by omega
  have hsub2 : (K : Int) - (y : Int) = (q : Int) := by omega
  have hdK : d ≤ K := by omega
  have hqK : q ≤ K := by omega
  obtain ⟨Z, hZ⟩ : ∃ Z, P.drop d = Z := ⟨_, rfl⟩
  obtain ⟨Y, hY⟩ : ∃ Y, P.drop q = Y := ⟨_, rfl⟩
  have hZl : Z.length = K - d := by rw [← hZ, List.length_drop, hK]
  have hYl : Y.length = K - q := by rw [← hY, List.length_drop, hK]
  have HR0 := Lib.hid r0
  have HR1 := Lib.hid r1
  have HR2 := Lib.hid r2
  have HX0 := Lib.hid hx0
  have HX1 := Lib.hid hx1
  have HX2 := Lib.hid hx2
  have HP := Lib.hid hP
  have HQ := Lib.hid hQ
  have HRr := Lib.hid hR
  have HK := Lib.hid hK
  have HK1 := Lib.hid hK1
  have HK2 := Lib.hid hK2
  have HZ := Lib.hid hZ
  have HY := Lib.hid hY
  have HZl := Lib.hid hZl
  have HYl := Lib.hid hYl
  clear r0 r1 r2 hx0 hx1 hx2 hP hQ hR hK hK1 hK2 hZ hY hZl hYl hz hy hd hq hs4 hs5 hs6
  go_enter Try.func10, Try.ntmps10
  go_upto_region 4 with (first
    | (go_at_call 16; refine (made_at w1 A0 c0 l0.length l0 rfl ((HR0.out.below HB1.out).more HB1.out.size) hc0 hb0 HX0.out).mono ?_; rw [HP.out]; rintro e w2 ⟨v2, rfl, ho2, hb2⟩; obtain ⟨BP, cP, rfl, hlP, _⟩ := ho2.form7 K (by rw [sc_length]; exact HK.out); have HO2 := Lib.hid ho2; have HB2 := Lib.hid (HB1.out.trans (hb2.mono HB1.out.size)); clear ho2 hb2)
    | (go_at_call 11; refine (awake_any w).mono ?_; rintro e w1 ⟨rfl, hb1⟩; have HB1 := Lib.hid hb1; clear hb1))
  have ksl1 : ∀ W, (Instr.slice 25 (.slice BP K cP) (some (.int .i64 (d : Int))) none none).run Try.prog W = .ok (.slice (cutA BP cP d) (K - d) (cP - d)) W := fun W => run_sl_l W _ 9 Try.underlying25 (fun w => by kernel_rfl) BP K cP d hdK
  have ksl2 : ∀ W, (Instr.slice 25 (.slice BP K cP) (some (.int .i64 (q : Int))) none none).run Try.prog W = .ok (.slice (cutA BP cP q) (K - q) (cP - q)) W := fun W => run_sl_l W _ 9 Try.underlying25 (fun w => by kernel_rfl) BP K cP q hqK
  have HPr := Lib.hid (ow_rt HO2.out)
  have hZr := rd_suf HPr.out hlP d hdK
  rw [HZ.out] at hZr
  have hYr := rd_suf HPr.out hlP q hqK
  rw [HY.out] at hYr
  go_upto_region 5 with fail
  have hS0 : Below w2.heap.size w2 w2.drew := (Below.refl _ _).drew
  have hS1 : Below w2.heap.size w2 w2 := Below.refl _ _
  have n1 : IntKind.i64.wrap ((K : Int) - (y : Int)) = (q : Int) := by rw [hsub2]; exact IntWalk.i64_in _ (by omega)
  have n2 : IntKind.u8.wrap (s6 : Int) = (s6 : Int) := IntWalk.u8_in _ (by omega)
  have n3 : IntKind.i64.wrap (s6 : Int) = (s6 : Int) := IntWalk.i64_in _ (by omega)
  have n4 : IntKind.i64.wrap (q : Int) = (q : Int) := IntWalk.i64_in _ (by omega)
  have n5 : (0 : Int) ≤ (q : Int) := by omega
  have n6 : (q : Int) ≤ (K : Int) := by omega
  have n7 : (K : Int) ≤ (cP : Int) := by omega
  have n8 : (q : Int) ≤ (cP : Int) := by omega
  have hKS : ∀ W, Below w2.heap.size w2 W → (Below w2.heap.size w2 W ∧ (Instr.slice 25 (.slice BP K cP) (some (.int .i64 (q : Int))) none none).run Try.prog W = .ok (.slice (cutA BP cP q) (K - q) (cP - q)) W) := fun W h => ⟨h, ksl2 W⟩
  clear ksl1 ksl2
  go_region_held3 (fun W => Below w2.heap.size w2 W ∧ (Instr.slice 25 (.slice BP K cP) (some (.int .i64 (q : Int))) none none).run Try.prog W = .ok (.slice (cutA BP cP q) (K - q) (cP - q)) W) ((first | (refine hKS _ ?_; assumption) | (refine hKS _ (keep_al ?_ _); assumption) | (refine hKS _ (keep_ald ?_ _); assumption) | (refine hKS _ (Below.drew ?_); assumption))) (first
    | (refine step_app _ rfl _ _ _ _ rfl w2.heap.size 9 i0 (.string ⟨#[]⟩) 16 Try.underlying25 hi hz0 hz1 hz2 rfl (by omega) _ _ ho5 ?_ (.slice (cutA BP cP q) (K - q) (cP - q)) ?_ (K - q) (sc Y) ?_ ?_ ?_ ?_
       · rfl
       · rfl
       · exact Rd.src (hYr.below (Below.mono (And.left (by assumption)) (by omega))) Try.underlying25 (sc_one _)
       · rw [sc_length]; have := HK2.out; omega
       · exact Below.size (And.left (by assumption))
       intro v6 w6 hown6 hgr6 hsz6
       have hS6 : Below w2.heap.size w2 w6 := Below.trans hS5 (hgr6.below ho5.lt hS5.size)
       rw [← sc_append] at hown6
       have hown46 : Ow w6 w2.heap.size 9 (.slice A4 (K1 + (K - d)) c4) (sc (Q ++ Z)) := hown4.far ((Below.trans hF5 (hgr6.below ho5'.lt hF5.size)))
       obtain ⟨A6, c6, rfl, hl6, _⟩ := hown6.form7 (K2 + (K - q)) (by rw [sc_length, List.length_append, HK2.out, HYl.out]))
    | (go_at_call 16
       refine (made_at w4 A2 c2 l2.length l2 rfl ((HR2.out.below (HB2.out.trans (hS4.mono HB2.out.size))).more (HB2.out.trans (hS4.mono HB2.out.size)).size) hc2 hb2 HX2.out).mono ?_
       rw [HRr.out]
       rintro e w5 ⟨v5, rfl, ho5', hF5⟩
       have hS5 : Below w2.heap.size w2 w5 := hS4.trans (hF5.mono hS4.size)
       have ho5 : Ow w5 w2.heap.size 9 v5 (sc R) := ho5'.mono hS4.size)
    | (refine step_app _ rfl _ _ _ _ rfl w2.heap.size 9 i0 (.string ⟨#[]⟩) 16 Try.underlying25 hi hz0 hz1 hz2 rfl (by omega) _ _ ho3 ?_ (.slice (cutA BP cP d) (K - d) (cP - d)) ?_ (K - d) (sc Z) ?_ ?_ ?_ ?_
       · rfl
       · rfl
       · exact Rd.src (hZr.below (Below.mono (And.left (by assumption)) (by omega))) Try.underlying25 (sc_one _)
       · rw [sc_length]; have := HK1.out; omega
       · exact Below.size (And.left (by assumption))
       intro v4 w4 hown4 hgr4 hsz4
       have hS4 : Below w2.heap.size w2 w4 := Below.trans hS3 (hgr4.below ho3.lt hS3.size)
       rw [← sc_append] at hown4
       obtain ⟨A4, c4, rfl, hl4, _⟩ := hown4.form7 (K1 + (K - d)) (by rw [sc_length, List.length_append, HK1.out, HZl.out]))
    | (go_at_call 16
       refine (made_at _ A1 c1 l1.length l1 rfl ((HR1.out.below (HB2.out.trans (Below.mono (And.left (by assumption)) HB2.out.size))).more (HB2.out.trans (Below.mono (And.left (by assumption)) HB2.out.size)).size) hc1 hb1 HX1.out).mono ?_
       rw [HQ.out]
       rintro e w3 ⟨v3, rfl, ho3', hb3⟩
       have hS3 : Below w2.heap.size w2 w3 := Below.trans (And.left (by assumption)) (hb3.mono (Below.size (And.left (by assumption))))
       have ho3 : Ow w3 w2.heap.size 9 v3 (sc Q) := ho3'.mono (Below.size (And.left (by assumption)))))
  all_goals
    have hlr : ([⟨BP, cP, P⟩, ⟨A4, c4, Q ++ Z⟩, ⟨A6, c6, R ++ Y⟩] : List Row).map Row.v = [.slice BP K cP, .slice A4 (K1 + (K - d)) c4, .slice A6 (K2 + (K - q)) c6] := by
      simp only [List.map_cons, List.map_nil, Row.v, List.length_append, HK.out, HK1.out, HK2.out, HZl.out, HYl.out]
    obtain ⟨rows, hrows⟩ : ∃ rows : List Row, rows = [⟨BP, cP, P⟩, ⟨A4, c4, Q ++ Z⟩, ⟨A6, c6, R ++ Y⟩] := ⟨_, rfl⟩
    have hs26 := hS6.size
    have hown : Own (w6.alloc (.cells #[.slice BP K cP, .slice A4 (K1 + (K - d)) c4, .slice A6 (K2 + (K - q)) c6] 25)) w6.heap.size (rows.map Row.v) := by
      rw [hrows, hlr]
      exact own_new w6 [.slice BP K cP, .slice A4 (K1 + (K - d)) c4, .slice A6 (K2 + (K - q)) c6] 25
    have hall : ∀ r ∈ rows, (Rd (w6.alloc (.cells #[.slice BP K cP, .slice A4 (K1 + (K - d)) c4, .slice A6 (K2 + (K - q)) c6] 25)) w6.heap.size r.A r.l.length (sc r.l)) ∧ r.l.length ≤ 1000 ∧ r.l.length ≤ r.c := by
      intro r hr
      rw [hrows] at hr
      simp only [List.mem_cons, List.mem_nil_iff, or_false] at hr
      rcases hr with rfl | rfl | rfl
      · simp only [HK.out]
        exact ⟨((HPr.out.below hS6).more hs26).alloc (Nat.le_refl _) _, by omega, by omega⟩
      · simp only [List.length_append, HK1.out, HZl.out]
        exact ⟨(ow_rt hown46).alloc (Nat.le_refl _) _, by omega, by omega⟩
      · simp only [List.length_append, HK2.out, HYl.out]
        exact ⟨(ow_rt hown6).alloc (Nat.le_refl _) _, by omega, by omega⟩
    have hzX : Rd (w6.alloc (.cells #[.slice BP K cP, .slice A4 (K1 + (K - d)) c4, .slice A6 (K2 + (K - q)) c6] 25)) w6.heap.size (cutA BP cP d) (K - d) (sc Z) := ((hZr.below hS6).more hs26).alloc (Nat.le_refl _) _
    have hBX : Below w.heap.size w (w6.alloc (.cells #[.slice BP K cP, .slice A4 (K1 + (K - d)) c4, .slice A6 (K2 + (K - q)) c6] 25)) := (HB2.out.trans (hS6.mono HB2.out.size)).alloc (by have := HB2.out.size; omega) _
    obtain ⟨wX, hwX⟩ : ∃ wX, wX = w6.alloc (.cells #[.slice BP K cP, .slice A4 (K1 + (K - d)) c4, .slice A6 (K2 + (K - q)) c6] 25) := ⟨_, rfl⟩
    rw [← hwX] at hown hall hzX hBX ⊢
    have hgX : w6.heap.size < wX.heap.size := by rw [hwX]; simp
    obtain ⟨g, hg⟩ : ∃ g, g = w6.heap.size := ⟨_, rfl⟩
    rw [← hg] at hown hall hzX hgX ⊢
    have hwg : w.heap.size ≤ g := by rw [hg]; have := HB2.out.size; omega
    have hrl : rows.length = 3 := by rw [hrows]; rfl
    obtain ⟨t0, t1, t2, hT, hT1, hT2, hTm⟩ := isort3 ⟨BP, cP, P⟩ ⟨A4, c4, Q ++ Z⟩ ⟨A6, c6, R ++ Y⟩
    rw [← hrows] at hT hTm
    have HOw := Lib.hid hown
    have HAll := Lib.hid hall
    have HzX := Lib.hid hzX
    have HBX := Lib.hid hBX
    have HRl := Lib.hid hrl
    have HT := Lib.hid hT
    have HTm := Lib.hid hTm
    clear hlr hrows hwX hg hown hall hzX hBX hT hTm hrl hZr hYr hKS hS0 hS1 hS3 hS4 hS5 hS6 hown4 hgr4 hown6 hgr6 hown46 ho3 ho3' ho5 ho5' hF5 hb3
    clear n1 n2 n3 n4 n5 n6 n7 n8 hs26
    go_wp2_with fail
    go_loopw [55] (fun v55 wr => ∃ i : Nat, i ≤ 3 ∧ v55 = .int .i64 i ∧ Hid (Below wX.heap.size wX wr)) (fun v55 _ => 3 - (intOf v55).toNat)
    case atStart => exact ⟨0, by omega, rfl, Lib.hid (Below.refl _ _)⟩
    case round =>
      obtain ⟨i, hi3, rfl, HBr⟩ := hrel
      have HRw : Hid (∀ r ∈ rows, ∀ W, Below wX.heap.size wX W → Rd W W.heap.size r.A r.l.length (sc r.l)) := Lib.hid (fun r hr W hW => (((HAll.out r hr).1.more (Nat.le_of_lt hgX)).below hW).more hW.size)
      have HRz : Hid (∀ W, Below wX.heap.size wX W → Rd W W.heap.size (cutA BP cP d) (K - d) (sc Z)) := Lib.hid (fun W hW => ((HzX.out.more (Nat.le_of_lt hgX)).below hW).more hW.size)
      by_cases hlt : i < 3
      · obtain ⟨r, hr⟩ : ∃ r, rows[i]? = some r := ⟨_, List.getElem?_eq_getElem (by have := HRl.out; omega)⟩
        have hrm := List.mem_of_getElem? hr
        obtain ⟨_, hr1, hr2⟩ := HAll.out r hrm
        have hxr := HRw.out r hrm
        have hx := ((HOw.out.below HBr.out hgX) i r.v (by rw [List.getElem?_map, hr]; rfl)).1
        obtain ⟨Ar, cr, lr⟩ := r
        replace hx : wr.cell? ⟨g, i, none⟩ = some (.slice Ar lr.length cr) := hx
        simp only at hxr hr1 hr2
        have HXr := Lib.hid hxr
        obtain ⟨L, hL⟩ : ∃ L, lr.length = L := ⟨_, rfl⟩
        rw [hL] at hx hr1 hr2 HXr
        have HL := Lib.hid hL
        clear hr hrm hxr hL
        have hui : i = 0 ∨ i = 1 ∨ i = 2 := by omega
        cases hu : underN lr Z with
        | true =>
          have hle := Ord.under_le hu
          obtain ⟨x5, hx5⟩ : ∃ x, cmpN Z lr = x := ⟨_, rfl⟩
          rw [hx5] at hle
          have hd5 : decide ((0 : Int) < x5) = false := decide_eq_false (by omega)
          have HX5 := Lib.hid hx5
          have HU := Lib.hid hu
          clear hx5 hle hu
          go_wp2_with (first
            | (go_at_call 31; refine (cmp_at wd (cutA BP cP d) Ar (cP - d) cr (K - d) L Z lr HZl.out HL.out (HRz.out wd HBd.out) (HXr.out wd HBd.out) (by omega) (by omega)).mono ?_; rw [HX5.out]; rintro e we ⟨rfl, qe, hqe⟩; have HBe := Lib.hid (show Below wX.heap.size wX we by rw [hqe]; exact below_dn HBd.out qe); clear hqe)
            | (go_at_call 18; refine (under_at wc Ar (cutA BP cP d) cr (cP - d) L (K - d) lr Z true HU.out HL.out HZl.out (HXr.out wc HBc.out) (HRz.out wc HBc.out) hr2 (by omega) (by omega)).mono ?_; rintro e wd ⟨rfl, qd, hqd⟩; have HBd := Lib.hid (show Below wX.heap.size wX wd by rw [hqd]; exact below_dn HBc.out qd); clear hqd)
            | (go_at_call 18; refine (under_at wb Ar Ar cr cr L L lr lr true (Ord.under_self lr) HL.out HL.out (HXr.out wb HBb.out) (HXr.out wb HBb.out) hr2 (by omega) (by omega)).mono ?_; rintro e wc ⟨rfl, qc, hqc⟩; have HBc := Lib.hid (show Below wX.heap.size wX wc by rw [hqc]; exact below_dn HBb.out qc); clear hqc)
            | (go_at_call 18; refine (under_at wa Ar none cr 0 L 0 lr [] true (Ord.under_nil lr) HL.out rfl (HXr.out wa HBa.out) (Rd.nil _ _ _) hr2 (by omega) (by omega)).mono ?_; rintro e wb ⟨rfl, qb, hqb⟩; have HBb := Lib.hid (show Below wX.heap.size wX wb by rw [hqb]; exact below_dn HBa.out qb); clear hqb)
            | (go_at_call 31; refine (cmp_at wr Ar Ar cr cr L L lr lr HL.out HL.out (HXr.out wr HBr.out) (HXr.out wr HBr.out) (by omega) (by omega)).mono ?_; rw [Ord.n_self lr]; rintro e wa ⟨rfl, qa, hqa⟩; have HBa := Lib.hid (show Below wX.heap.size wX wa by rw [hqa]; exact below_dn HBr.out qa); clear hqa))
          go_loopw [87] (fun v87 wr => ∃ j : Nat, j ≤ 3 ∧ v87 = .int .i64 j ∧ Hid (Below wX.heap.size wX wr)) (fun v87 _ => 3 - (intOf v87).toNat)
          case atStart => exact ⟨0, by omega, rfl, HBe⟩
          case round =>
            obtain ⟨j, hj3, rfl, HBj⟩ := hrel
            obtain ⟨wj, hwj⟩ : ∃ x, x = wr := ⟨wr, rfl⟩
            subst hwj
            by_cases hltj : j < 3
            · obtain ⟨r, hr⟩ : ∃ r, rows[j]? = some r := ⟨_, List.getElem?_eq_getElem (by have := HRl.out; omega)⟩
              have hrm := List.mem_of_getElem? hr
              obtain ⟨_, hy1, hy2⟩ := HAll.out r hrm
              have hyr := HRw.out r hrm
              have hxj := ((HOw.out.below HBj.out hgX) j r.v (by rw [List.getElem?_map, hr]; rfl)).1
              obtain ⟨Ay, cy, ly⟩ := r
              replace hxj : wj.cell? ⟨g, j, none⟩ = some (.slice Ay ly.length cy) := hxj
              simp only at hyr hy1 hy2
              have HYr := Lib.hid hyr
              obtain ⟨M, hM⟩ : ∃ M, ly.length = M := ⟨_, rfl⟩
              rw [hM] at hxj hy1 hy2 HYr
              have HM := Lib.hid hM
              clear hr hrm hyr hM
              have hcase : (cmpN lr ly = 0 ∧ cmpN ly lr = 0 ∧ decide (lr = ly) = true) ∨ (cmpN lr ly = 1 ∧ cmpN ly lr = -1 ∧ decide (lr = ly) = false) ∨ (cmpN lr ly = -1 ∧ cmpN ly lr = 1 ∧ decide (lr = ly) = false) := by
                have h1 := Ord.n_neg lr ly
                rcases Ord.n_range lr ly with h | h | h
                · exact .inr (.inr ⟨h, by omega, decide_eq_false (fun e => by rw [e, Ord.n_self] at h; cases h)⟩)
                · exact .inl ⟨h, by omega, decide_eq_true (Ord.n_eq h)⟩
                · exact .inr (.inl ⟨h, by omega, decide_eq_false (fun e => by rw [e, Ord.n_self] at h; cases h)⟩)
              rcases hcase with ⟨k1, k2, k3⟩ | ⟨k1, k2, k3⟩ | ⟨k1, k2, k3⟩
              · have HK1' := Lib.hid k1
                have HK2' := Lib.hid k2
                have HK3' := Lib.hid k3
                clear k1 k2 k3
                go_wp2_with (first
                  | (go_at_call 15; refine (seq_at wn Ar Ay cr cy L M lr ly true HK3'.out HL.out HM.out (HXr.out wn HBn.out) (HYr.out wn HBn.out) (by omega) (by omega)).mono ?_; rintro e wo ⟨rfl, qo, hqo⟩; have HBo := Lib.hid (show Below wX.heap.size wX wo by rw [hqo]; exact below_dn HBn.out qo); clear hqo)
                  | (go_at_call 31; refine (cmp_at wm Ay Ar cy cr M L ly lr HM.out HL.out (HYr.out wm HBm.out) (HXr.out wm HBm.out) (by omega) (by omega)).mono ?_; rw [HK2'.out]; rintro e wn ⟨rfl, qn, hqn⟩; have HBn := Lib.hid (show Below wX.heap.size wX wn by rw [hqn]; exact below_dn HBm.out qn); clear hqn)
                  | (go_at_call 31; refine (cmp_at wj Ar Ay cr cy L M lr ly HL.out HM.out (HXr.out wj HBj.out) (HYr.out wj HBj.out) (by omega) (by omega)).mono ?_; rw [HK1'.out]; rintro e wm ⟨rfl, qm, hqm⟩; have HBm := Lib.hid (show Below wX.heap.size wX wm by rw [hqm]; exact below_dn HBj.out qm); clear hqm))
                go_roundw
                case rel => exact ⟨j + 1, by omega, by go_num, HBo⟩
                case measure => simp [intOf]; omega
              · have HK1' := Lib.hid k1
                have HK2' := Lib.hid k2
                have HK3' := Lib.hid k3
                clear k1 k2 k3
                go_wp2_with (first
                  | (go_at_call 15; refine (seq_at wn Ar Ay cr cy L M lr ly false HK3'.out HL.out HM.out (HXr.out wn HBn.out) (HYr.out wn HBn.out) (by omega) (by omega)).mono ?_; rintro e wo ⟨rfl, qo, hqo⟩; have HBo := Lib.hid (show Below wX.heap.size wX wo by rw [hqo]; exact below_dn HBn.out qo); clear hqo)
                  | (go_at_call 31; refine (cmp_at wm Ay Ar cy cr M L ly lr HM.out HL.out (HYr.out wm HBm.out) (HXr.out wm HBm.out) (by omega) (by omega)).mono ?_; rw [HK2'.out]; rintro e wn ⟨rfl, qn, hqn⟩; have HBn := Lib.hid (show Below wX.heap.size wX wn by rw [hqn]; exact below_dn HBm.out qn); clear hqn)
                  | (go_at_call 31; refine (cmp_at wj Ar Ay cr cy L M lr ly HL.out HM.out (HXr.out wj HBj.out) (HYr.out wj HBj.out) (by omega) (by omega)).mono ?_; rw [HK1'.out]; rintro e wm ⟨rfl, qm, hqm⟩; have HBm := Lib.hid (show Below wX.heap.size wX wm by rw [hqm]; exact below_dn HBj.out qm); clear hqm))
                go_roundw
                case rel => exact ⟨j + 1, by omega, by go_num, HBo⟩
                case measure => simp [intOf]; omega
              · have HK1' := Lib.hid k1
                have HK2' := Lib.hid k2
                have HK3' := Lib.hid k3
                clear k1 k2 k3
                go_wp2_with (first
                  | (go_at_call 15; refine (seq_at wn Ar Ay cr cy L M lr ly false HK3'.out HL.out HM.out (HXr.out wn HBn.out) (HYr.out wn HBn.out) (by omega) (by omega)).mono ?_; rintro e wo ⟨rfl, qo, hqo⟩; have HBo := Lib.hid (show Below wX.heap.size wX wo by rw [hqo]; exact below_dn HBn.out qo); clear hqo)
                  | (go_at_call 31; refine (cmp_at wm Ay Ar cy cr M L ly lr HM.out HL.out (HYr.out wm HBm.out) (HXr.out wm HBm.out) (by omega) (by omega)).mono ?_; rw [HK2'.out]; rintro e wn ⟨rfl, qn, hqn⟩; have HBn := Lib.hid (show Below wX.heap.size wX wn by rw [hqn]; exact below_dn HBm.out qn); clear hqn)
                  | (go_at_call 31; refine (cmp_at wj Ar Ay cr cy L M lr ly HL.out HM.out (HXr.out wj HBj.out) (HYr.out wj HBj.out) (by omega) (by omega)).mono ?_; rw [HK1'.out]; rintro e wm ⟨rfl, qm, hqm⟩; have HBm := Lib.hid (show Below wX.heap.size wX wm by rw [hqm]; exact below_dn HBj.out qm); clear hqm))
                go_roundw
                case rel => exact ⟨j + 1, by omega, by go_num, HBo⟩
                case measure => simp [intOf]; omega
            · go_wp2_with fail
              go_roundw
              case rel => exact ⟨i + 1, by omega, by go_num, HBj⟩
              case measure => simp [intOf]; omega
        | false =>
          have HU := Lib.hid hu
          clear hu
          go_wp2_with (first
            | (go_at_call 18; refine (under_at wc Ar (cutA BP cP d) cr (cP - d) L (K - d) lr Z false HU.out HL.out HZl.out (HXr.out wc HBc.out) (HRz.out wc HBc.out) hr2 (by omega) (by omega)).mono ?_; rintro e wd ⟨rfl, qd, hqd⟩; have HBd := Lib.hid (show Below wX.heap.size wX wd by rw [hqd]; exact below_dn HBc.out qd); clear hqd)
            | (go_at_call 18; refine (under_at wb Ar Ar cr cr L L lr lr true (Ord.under_self lr) HL.out HL.out (HXr.out wb HBb.out) (HXr.out wb HBb.out) hr2 (by omega) (by omega)).mono ?_; rintro e wc ⟨rfl, qc, hqc⟩; have HBc := Lib.hid (show Below wX.heap.size wX wc by rw [hqc]; exact below_dn HBb.out qc); clear hqc)
            | (go_at_call 18; refine (under_at wa Ar none cr 0 L 0 lr [] true (Ord.under_nil lr) HL.out rfl (HXr.out wa HBa.out) (Rd.nil _ _ _) hr2 (by omega) (by omega)).mono ?_; rintro e wb ⟨rfl, qb, hqb⟩; have HBb := Lib.hid (show Below wX.heap.size wX wb by rw [hqb]; exact below_dn HBa.out qb); clear hqb)
            | (go_at_call 31; refine (cmp_at wr Ar Ar cr cr L L lr lr HL.out HL.out (HXr.out wr HBr.out) (HXr.out wr HBr.out) (by omega) (by omega)).mono ?_; rw [Ord.n_self lr]; rintro e wa ⟨rfl, qa, hqa⟩; have HBa := Lib.hid (show Below wX.heap.size wX wa by rw [hqa]; exact below_dn HBr.out qa); clear hqa))
          go_loopw [87] (fun v87 wr => ∃ j : Nat, j ≤ 3 ∧ v87 = .int .i64 j ∧ Hid (Below wX.heap.size wX wr)) (fun v87 _ => 3 - (intOf v87).toNat)
          case atStart => exact ⟨0, by omega, rfl, HBd⟩
          case round =>
            obtain ⟨j, hj3, rfl, HBj⟩ := hrel
            obtain ⟨wj, hwj⟩ : ∃ x, x = wr := ⟨wr, rfl⟩
            subst hwj
            by_cases hltj : j < 3
            · obtain ⟨r, hr⟩ : ∃ r, rows[j]? = some r := ⟨_, List.getElem?_eq_getElem (by have := HRl.out; omega)⟩
              have hrm := List.mem_of_getElem? hr
              obtain ⟨_, hy1, hy2⟩ := HAll.out r hrm
              have hyr := HRw.out r hrm
              have hxj := ((HOw.out.below HBj.out hgX) j r.v (by rw [List.getElem?_map, hr]; rfl)).1
              obtain ⟨Ay, cy, ly⟩ := r
              replace hxj : wj.cell? ⟨g, j, none⟩ = some (.slice Ay ly.length cy) := hxj
              simp only at hyr hy1 hy2
              have HYr := Lib.hid hyr
              obtain ⟨M, hM⟩ : ∃ M, ly.length = M := ⟨_, rfl⟩
              rw [hM] at hxj hy1 hy2 HYr
              have HM := Lib.hid hM
              clear hr hrm hyr hM
              have hcase : (cmpN lr ly = 0 ∧ cmpN ly lr = 0 ∧ decide (lr = ly) = true) ∨ (cmpN lr ly = 1 ∧ cmpN ly lr = -1 ∧ decide (lr = ly) = false) ∨ (cmpN lr ly = -1 ∧ cmpN ly lr = 1 ∧ decide (lr = ly) = false) := by
                have h1 := Ord.n_neg lr ly
                rcases Ord.n_range lr ly with h | h | h
                · exact .inr (.inr ⟨h, by omega, decide_eq_false (fun e => by rw [e, Ord.n_self] at h; cases h)⟩)
                · exact .inl ⟨h, by omega, decide_eq_true (Ord.n_eq h)⟩
                · exact .inr (.inl ⟨h, by omega, decide_eq_false (fun e => by rw [e, Ord.n_self] at h; cases h)⟩)
              rcases hcase with ⟨k1, k2, k3⟩ | ⟨k1, k2, k3⟩ | ⟨k1, k2, k3⟩
              · have HK1' := Lib.hid k1
                have HK2' := Lib.hid k2
                have HK3' := Lib.hid k3
                clear k1 k2 k3
                go_wp2_with (first
                  | (go_at_call 15; refine (seq_at wn Ar Ay cr cy L M lr ly true HK3'.out HL.out HM.out (HXr.out wn HBn.out) (HYr.out wn HBn.out) (by omega) (by omega)).mono ?_; rintro e wo ⟨rfl, qo, hqo⟩; have HBo := Lib.hid (show Below wX.heap.size wX wo by rw [hqo]; exact below_dn HBn.out qo); clear hqo)
                  | (go_at_call 31; refine (cmp_at wm Ay Ar cy cr M L ly lr HM.out HL.out (HYr.out wm HBm.out) (HXr.out wm HBm.out) (by omega) (by omega)).mono ?_; rw [HK2'.out]; rintro e wn ⟨rfl, qn, hqn⟩; have HBn := Lib.hid (show Below wX.heap.size wX wn by rw [hqn]; exact below_dn HBm.out qn); clear hqn)
                  | (go_at_call 31; refine (cmp_at wj Ar Ay cr cy L M lr ly HL.out HM.out (HXr.out wj HBj.out) (HYr.out wj HBj.out) (by omega) (by omega)).mono ?_; rw [HK1'.out]; rintro e wm ⟨rfl, qm, hqm⟩; have HBm := Lib.hid (show Below wX.heap.size wX wm by rw [hqm]; exact below_dn HBj.out qm); clear hqm))
                go_roundw
                case rel => exact ⟨j + 1, by omega, by go_num, HBo⟩
                case measure => simp [intOf]; omega
              · have HK1' := Lib.hid k1
                have HK2' := Lib.hid k2
                have HK3' := Lib.hid k3
                clear k1 k2 k3
                go_wp2_with (first
                  | (go_at_call 15; refine (seq_at wn Ar Ay cr cy L M lr ly false HK3'.out HL.out HM.out (HXr.out wn HBn.out) (HYr.out wn HBn.out) (by omega) (by omega)).mono ?_; rintro e wo ⟨rfl, qo, hqo⟩; have HBo := Lib.hid (show Below wX.heap.size wX wo by rw [hqo]; exact below_dn HBn.out qo); clear hqo)
                  | (go_at_call 31; refine (cmp_at wm Ay Ar cy cr M L ly lr HM.out HL.out (HYr.out wm HBm.out) (HXr.out wm HBm.out) (by omega) (by omega)).mono ?_; rw [HK2'.out]; rintro e wn ⟨rfl, qn, hqn⟩; have HBn := Lib.hid (show Below wX.heap.size wX wn by rw [hqn]; exact below_dn HBm.out qn); clear hqn)
                  | (go_at_call 31; refine (cmp_at wj Ar Ay cr cy L M lr ly HL.out HM.out (HXr.out wj HBj.out) (HYr.out wj HBj.out) (by omega) (by omega)).mono ?_; rw [HK1'.out]; rintro e wm ⟨rfl, qm, hqm⟩; have HBm := Lib.hid (show Below wX.heap.size wX wm by rw [hqm]; exact below_dn HBj.out qm); clear hqm))
                go_roundw
                case rel => exact ⟨j + 1, by omega, by go_num, HBo⟩
                case measure => simp [intOf]; omega
              · have HK1' := Lib.hid k1
                have HK2' := Lib.hid k2
                have HK3' := Lib.hid k3
                clear k1 k2 k3
                go_wp2_with (first
                  | (go_at_call 15; refine (seq_at wn Ar Ay cr cy L M lr ly false HK3'.out HL.out HM.out (HXr.out wn HBn.out) (HYr.out wn HBn.out) (by omega) (by omega)).mono ?_; rintro e wo ⟨rfl, qo, hqo⟩; have HBo := Lib.hid (show Below wX.heap.size wX wo by rw [hqo]; exact below_dn HBn.out qo); clear hqo)
                  | (go_at_call 31; refine (cmp_at wm Ay Ar cy cr M L ly lr HM.out HL.out (HYr.out wm HBm.out) (HXr.out wm HBm.out) (by omega) (by omega)).mono ?_; rw [HK2'.out]; rintro e wn ⟨rfl, qn, hqn⟩; have HBn := Lib.hid (show Below wX.heap.size wX wn by rw [hqn]; exact below_dn HBm.out qn); clear hqn)
                  | (go_at_call 31; refine (cmp_at wj Ar Ay cr cy L M lr ly HL.out HM.out (HXr.out wj HBj.out) (HYr.out wj HBj.out) (by omega) (by omega)).mono ?_; rw [HK1'.out]; rintro e wm ⟨rfl, qm, hqm⟩; have HBm := Lib.hid (show Below wX.heap.size wX wm by rw [hqm]; exact below_dn HBj.out qm); clear hqm))
                go_roundw
                case rel => exact ⟨j + 1, by omega, by go_num, HBo⟩
                case measure => simp [intOf]; omega
            · go_wp2_with fail
              go_roundw
              case rel => exact ⟨i + 1, by omega, by go_num, HBj⟩
              case measure => simp [intOf]; omega
      · obtain rfl : i = 3 := by omega
        have hBg := HBr.out.mono (Nat.le_of_lt hgX)
        have hgr : g < wr.heap.size := Nat.lt_of_lt_of_le hgX HBr.out.size
        have hrok : RowsOk wr g rows := fun r hr => ⟨(HAll.out r hr).1.below hBg, by have := (HAll.out r hr).2.1; omega⟩
        have hsort := sortf_at g 3 3 rows wr HRl.out (by omega) (by omega) hgr (HOw.out.below HBr.out hgX) hrok
        rw [show (3 - 1 : Nat) = 2 from rfl, HT.out] at hsort
        have HSo := Lib.hid hsort
        clear hsort hrok hlt HRw
        go_upto_region 20 with (go_at_call 32; refine HSo.out.mono ?_; rintro e wS ⟨rfl, hoS, hbS⟩)
        have hBgS : Below g wX wS := hBg.trans hbS
        have hgS : g ≤ wS.heap.size := Nat.le_trans (Nat.le_of_lt hgr) hbS.size
        have hBwS : Below w.heap.size w wS := HBX.out.trans (hBgS.mono hwg)
        have f0 := HAll.out t0 (HTm.out t0 (by simp))
        have f1 := HAll.out t1 (HTm.out t1 (by simp))
        have f2 := HAll.out t2 (HTm.out t2 (by simp))
        have hs0 := (hoS 0 t0.v rfl).1
        have hs1 := (hoS 1 t1.v rfl).1
        have hs2 := (hoS 2 t2.v rfl).1
        obtain ⟨B0, d0, p0⟩ := t0
        obtain ⟨B1, d1, p1⟩ := t1
        obtain ⟨B2, d2, p2⟩ := t2
        simp only at f0 f1 f2 hT1 hT2
        replace hs0 : wS.cell? ⟨g, 0, none⟩ = some (.slice B0 p0.length d0) := hs0
        replace hs1 : wS.cell? ⟨g, 1, none⟩ = some (.slice B1 p1.length d1) := hs1
        replace hs2 : wS.cell? ⟨g, 2, none⟩ = some (.slice B2 p2.length d2) := hs2
        have hT3 := Ord.n_trans hT1 hT2
        have g0 : ∀ W, Below wS.heap.size wS W → Rd W W.heap.size B0 p0.length (sc p0) := fun W hW => (((f0.1.below hBgS).more hgS).below hW).more hW.size
        have g1 : ∀ W, Below wS.heap.size wS W → Rd W W.heap.size B1 p1.length (sc p1) := fun W hW => (((f1.1.below hBgS).more hgS).below hW).more hW.size
        have g2 : ∀ W, Below wS.heap.size wS W → Rd W W.heap.size B2 p2.length (sc p2) := fun W hW => (((f2.1.below hBgS).more hgS).below hW).more hW.size
        have gz : ∀ W, Below wS.heap.size wS W → Rd W W.heap.size (cutA BP cP d) (K - d) (sc Z) := fun W hW => (((HzX.out.below hBgS).more hgS).below hW).more hW.size
        have e0 := f0.2.1
        have e1 := f1.2.1
        have e2 := f2.2.1
        have e3 := f0.2.2
        have e4 := f1.2.2
        have e5 := f2.2.2
        obtain ⟨N0, hN0⟩ : ∃ n, p0.length = n := ⟨_, rfl⟩
        obtain ⟨N1, hN1⟩ : ∃ n, p1.length = n := ⟨_, rfl⟩
        obtain ⟨N2, hN2⟩ : ∃ n, p2.length = n := ⟨_, rfl⟩
        rw [hN0] at hs0 g0 e0 e3
        rw [hN1] at hs1 g1 e1 e4
        rw [hN2] at hs2 g2 e2 e5
        obtain ⟨x01, h01⟩ : ∃ x, cmpN p0 p1 = x := ⟨_, rfl⟩
        obtain ⟨x12, h12⟩ : ∃ x, cmpN p1 p2 = x := ⟨_, rfl⟩
        obtain ⟨x02, h02⟩ : ∃ x, cmpN p0 p2 = x := ⟨_, rfl⟩
        have hC01 : ∀ m, Calls Try.prog 31 #[.slice B0 N0 d0, .slice B1 N1 d1] (wS.drewN m) fun e w' => e = .returned (.int .i64 x01) ∧ ∃ q, w' = (wS.drewN m).drewN q := fun m => by
          rw [← h01]; exact cmp_at _ B0 B1 d0 d1 N0 N1 p0 p1 hN0 hN1 (g0 _ (below_dn (Below.refl _ _) m)) (g1 _ (below_dn (Below.refl _ _) m)) (by omega) (by omega)
        have hC12 : ∀ m, Calls Try.prog 31 #[.slice B1 N1 d1, .slice B2 N2 d2] (wS.drewN m) fun e w' => e = .returned (.int .i64 x12) ∧ ∃ q, w' = (wS.drewN m).drewN q := fun m => by
          rw [← h12]; exact cmp_at _ B1 B2 d1 d2 N1 N2 p1 p2 hN1 hN2 (g1 _ (below_dn (Below.refl _ _) m)) (g2 _ (below_dn (Below.refl _ _) m)) (by omega) (by omega)
        have hC02 : ∀ m, Calls Try.prog 31 #[.slice B0 N0 d0, .slice B2 N2 d2] (wS.drewN m) fun e w' => e = .returned (.int .i64 x02) ∧ ∃ q, w' = (wS.drewN m).drewN q := fun m => by
          rw [← h02]; exact cmp_at _ B0 B2 d0 d2 N0 N2 p0 p2 hN0 hN2 (g0 _ (below_dn (Below.refl _ _) m)) (g2 _ (below_dn (Below.refl _ _) m)) (by omega) (by omega)
        have hd01 : decide ((0 : Int) < x01) = false := decide_eq_false (by omega)
        have hd12 : decide ((0 : Int) < x12) = false := decide_eq_false (by omega)
        have hd02 : decide ((0 : Int) < x02) = false := decide_eq_false (by omega)
        obtain ⟨u0, hu0⟩ : ∃ u, underN p0 Z = u := ⟨_, rfl⟩
        obtain ⟨u1, hu1⟩ : ∃ u, underN p1 Z = u := ⟨_, rfl⟩
        obtain ⟨u2, hu2⟩ : ∃ u, underN p2 Z = u := ⟨_, rfl⟩
        have hub : u0 = true → u2 = true → u1 = true := fun h0 h2 => by
          rw [← hu1]; exact Ord.under_between (hu0.trans h0) (hu2.trans h2) hT1 hT2
        have HC01 := Lib.hid hC01
        have HC12 := Lib.hid hC12
        have HC02 := Lib.hid hC02
        have G0 := Lib.hid g0
        have G1 := Lib.hid g1
        have G2 := Lib.hid g2
        have GZ := Lib.hid gz
        have HU0 := Lib.hid hu0
        have HU1 := Lib.hid hu1
        have HU2 := Lib.hid hu2
        have HN0 := Lib.hid hN0
        have HN1 := Lib.hid hN1
        have HN2 := Lib.hid hN2
        have HUb := Lib.hid hub
        have HBS := Lib.hid hBwS
        clear hC01 hC12 hC02 g0 g1 g2 gz hu0 hu1 hu2 hN0 hN1 hN2 hub h01 h12 h02 hT1 hT2 hT3 f0 f1 f2 hoS hbS hBwS hBgS hBg
        go_quiet (first
          | (go_at_call 31; with_reducible exact Calls.quiet_of (HC01.out _))
          | (go_at_call 31; with_reducible exact Calls.quiet_of (HC12.out _))
          | (go_at_call 31; with_reducible exact Calls.quiet_of (HC02.out _)))
        go_upto_region 22 with fail
        obtain ⟨wT, hwT⟩ : ∃ wT, wT = wS.drewN nq := ⟨_, rfl⟩
        have hk0 : wT.cell? ⟨g, 0, none⟩ = some (.slice B0 N0 d0) := by rw [hwT]; exact hs0
        have hk1 : wT.cell? ⟨g, 1, none⟩ = some (.slice B1 N1 d1) := by rw [hwT]; exact hs1
        have hk2 : wT.cell? ⟨g, 2, none⟩ = some (.slice B2 N2 d2) := by rw [hwT]; exact hs2
        have hbT : Below wS.heap.size wS wT := by rw [hwT]; exact below_dn (Below.refl _ _) nq
        rw [← hwT]
        have HBT := Lib.hid hbT
        clear hwT hbT
        have hus : (u0 = false) ∨ (u0 = true ∧ u2 = false) ∨ (u0 = true ∧ u2 = true ∧ u1 = true) := by
          cases h0 : u0 with
          | false => exact .inl rfl
          | true =>
            cases h2 : u2 with
            | false => exact .inr (.inl ⟨rfl, rfl⟩)
            | true => exact .inr (.inr ⟨rfl, rfl, HUb.out h0 h2⟩)
        clear HUb
        rcases hus with rfl | ⟨rfl, rfl⟩ | ⟨rfl, rfl, rfl⟩
        · go_wp2_with (first | (go_at_call 18; refine (under_at wT B0 (cutA BP cP d) d0 (cP - d) N0 (K - d) p0 Z false HU0.out HN0.out HZl.out (G0.out wT HBT.out) (GZ.out wT HBT.out) (by omega) (by omega) (by omega)).mono ?_; rintro e wU ⟨rfl, qu, hqu⟩; have HBU := Lib.hid (show Below wS.heap.size wS wU by rw [hqu]; exact below_dn HBT.out qu); have hk0wU : wU.cell? ⟨g, 0, none⟩ = some (.slice B0 N0 d0) := (by rw [hqu]; exact hk0); have hk1wU : wU.cell? ⟨g, 1, none⟩ = some (.slice B1 N1 d1) := (by rw [hqu]; exact hk1); have hk2wU : wU.cell? ⟨g, 2, none⟩ = some (.slice B2 N2 d2) := (by rw [hqu]; exact hk2); clear hqu))
          go_ret
          exact ⟨rfl, HBS.out.trans (HBU.out.mono HBS.out.size)⟩
        · go_wp2_with (first
            | (go_at_call 18; refine (under_at wU B2 (cutA BP cP d) d2 (cP - d) N2 (K - d) p2 Z false HU2.out HN2.out HZl.out (G2.out wU HBU.out) (GZ.out wU HBU.out) (by omega) (by omega) (by omega)).mono ?_; rintro e wV ⟨rfl, qu, hqu⟩; have HBV := Lib.hid (show Below wS.heap.size wS wV by rw [hqu]; exact below_dn HBU.out qu); have hk0wV : wV.cell? ⟨g, 0, none⟩ = some (.slice B0 N0 d0) := (by rw [hqu]; exact hk0wU); have hk1wV : wV.cell? ⟨g, 1, none⟩ = some (.slice B1 N1 d1) := (by rw [hqu]; exact hk1wU); have hk2wV : wV.cell? ⟨g, 2, none⟩ = some (.slice B2 N2 d2) := (by rw [hqu]; exact hk2wU); clear hqu)
            | (go_at_call 18; refine (under_at wT B0 (cutA BP cP d) d0 (cP - d) N0 (K - d) p0 Z true HU0.out HN0.out HZl.out (G0.out wT HBT.out) (GZ.out wT HBT.out) (by omega) (by omega) (by omega)).mono ?_; rintro e wU ⟨rfl, qu, hqu⟩; have HBU := Lib.hid (show Below wS.heap.size wS wU by rw [hqu]; exact below_dn HBT.out qu); have hk0wU : wU.cell? ⟨g, 0, none⟩ = some (.slice B0 N0 d0) := (by rw [hqu]; exact hk0); have hk1wU : wU.cell? ⟨g, 1, none⟩ = some (.slice B1 N1 d1) := (by rw [hqu]; exact hk1); have hk2wU : wU.cell? ⟨g, 2, none⟩ = some (.slice B2 N2 d2) := (by rw [hqu]; exact hk2); clear hqu))
          go_ret
          exact ⟨rfl, HBS.out.trans (HBV.out.mono HBS.out.size)⟩
        · go_wp2_with (first
            | (go_at_call 18; refine (under_at wV B1 (cutA BP cP d) d1 (cP - d) N1 (K - d) p1 Z true HU1.out HN1.out HZl.out (G1.out wV HBV.out) (GZ.out wV HBV.out) (by omega) (by omega) (by omega)).mono ?_; rintro e wW ⟨rfl, qu, hqu⟩; have HBW := Lib.hid (show Below wS.heap.size wS wW by rw [hqu]; exact below_dn HBV.out qu); have hk0wW : wW.cell? ⟨g, 0, none⟩ = some (.slice B0 N0 d0) := (by rw [hqu]; exact hk0wV); have hk1wW : wW.cell? ⟨g, 1, none⟩ = some (.slice B1 N1 d1) := (by rw [hqu]; exact hk1wV); have hk2wW : wW.cell? ⟨g, 2, none⟩ = some (.slice B2 N2 d2) := (by rw [hqu]; exact hk2wV); clear hqu)
            | (go_at_call 18; refine (under_at wU B2 (cutA BP cP d) d2 (cP - d) N2 (K - d) p2 Z true HU2.out HN2.out HZl.out (G2.out wU HBU.out) (GZ.out wU HBU.out) (by omega) (by omega) (by omega)).mono ?_; rintro e wV ⟨rfl, qu, hqu⟩; have HBV := Lib.hid (show Below wS.heap.size wS wV by rw [hqu]; exact below_dn HBU.out qu); have hk0wV : wV.cell? ⟨g, 0, none⟩ = some (.slice B0 N0 d0) := (by rw [hqu]; exact hk0wU); have hk1wV : wV.cell? ⟨g, 1, none⟩ = some (.slice B1 N1 d1) := (by rw [hqu]; exact hk1wU); have hk2wV : wV.cell? ⟨g, 2, none⟩ = some (.slice B2 N2 d2) := (by rw [hqu]; exact hk2wU); clear hqu)
            | (go_at_call 18; refine (under_at wT B0 (cutA BP cP d) d0 (cP - d) N0 (K - d) p0 Z true HU0.out HN0.out HZl.out (G0.out wT HBT.out) (GZ.out wT HBT.out) (by omega) (by omega) (by omega)).mono ?_; rintro e wU ⟨rfl, qu, hqu⟩; have HBU := Lib.hid (show Below wS.heap.size wS wU by rw [hqu]; exact below_dn HBT.out qu); have hk0wU : wU.cell? ⟨g, 0, none⟩ = some (.slice B0 N0 d0) := (by rw [hqu]; exact hk0); have hk1wU : wU.cell? ⟨g, 1, none⟩ = some (.slice B1 N1 d1) := (by rw [hqu]; exact hk1); have hk2wU : wU.cell? ⟨g, 2, none⟩ = some (.slice B2 N2 d2) := (by rw [hqu]; exact hk2); clear hqu))
          go_ret
          exact ⟨rfl, HBS.out.trans (HBW.out.mono HBS.out.size)⟩
end Go.Proofs.Ytnfgcfljjmjmpaa
