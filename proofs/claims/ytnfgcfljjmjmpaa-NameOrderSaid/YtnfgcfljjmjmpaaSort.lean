/-
  slices.SortFunc over at most twelve names, by name.Compare.
-/
import Derived.Test.YtnfgcfljjmjmpaaAt
import Derived.Test.YtnfgcfljjmjmpaaOwns
import Derived.Test.YtnfgcfljjmjmpaaOrderP
import Derived.Test.YtnfgcfljjmjmpaaAwk
import Derived.Deep.QuietTactic
import Derived.BigQuiet
import Derived.BigRegion
set_option linter.unusedVariables false
set_option linter.unusedSimpArgs false
namespace Go.Proofs.Ytnfgcfljjmjmpaa
open Go.RowKit
theorem below_dn {n : Nat} {w w' : World} (h : Below n w w') (q : Nat) : Below n w (w'.drewN q) := ⟨h.os, h.tape, h.output, h.size, h.block⟩
def ltR (a b : Row) : Bool := decide (cmpN a.l b.l < 0)
def row0 : Row := ⟨none, 0, []⟩
def swapR (l : List Row) (j : Nat) : List Row := (l.set (j + 1) (l.getD j row0)).set j (l.getD (j + 1) row0)
def sift : List Row → Nat → List Row
  | l, 0 => l
  | l, j + 1 => if ltR (l.getD (j + 1) row0) (l.getD j row0) then sift (swapR l j) j else l
def isortG : Nat → Nat → List Row → List Row
  | 0, _, l => l
  | f + 1, i, l => isortG f (i + 1) (sift l i)
theorem swap_len (l : List Row) (j : Nat) : (swapR l j).length = l.length := by simp [swapR]
theorem swap_mem {l : List Row} {j : Nat} (h : j + 1 < l.length) {r : Row} (hr : r ∈ swapR l j) : r ∈ l := by
  unfold swapR at hr
  rcases List.mem_or_eq_of_mem_set hr with h1 | h1
  · rcases List.mem_or_eq_of_mem_set h1 with h2 | h2
    · exact h2
    · rw [h2, List.getD_eq_getElem?_getD, List.getElem?_eq_getElem (by omega)]; exact List.getElem_mem _
  · rw [h1, List.getD_eq_getElem?_getD, List.getElem?_eq_getElem h]; exact List.getElem_mem _
theorem getD_get {l : List Row} {j : Nat} {r : Row} (h : l[j]? = some r) : l.getD j row0 = r := by rw [List.getD_eq_getElem?_getD, h]; rfl
def RowsOk (w : World) (g : Nat) (l : List Row) : Prop := ∀ r ∈ l, Rd w g r.A r.l.length (sc r.l) ∧ r.l.length ≤ 1000000
set_option maxRecDepth 100000 in
set_option maxHeartbeats 2000000 in
theorem isort_at (g c n : Nat) (rows : List Row) (w : World) (hn : rows.length = n) (hn1 : 1 ≤ n) (hn2 : n ≤ 12) (hg : g < w.heap.size) (hown : Own w g (rows.map Row.v)) (hok : RowsOk w g rows) :
    Calls Try.prog 81 #[.slice (some ⟨g, 0, none⟩) n c, .int .i64 0, .int .i64 (n : Int), .func (.func 31) #[] #[]] w fun e w' => e = .returned (.tuple #[]) ∧ Own w' g ((isortG (n - 1) 1 rows).map Row.v) ∧ Below g w w' := by
  obtain ⟨T, hT⟩ : ∃ T, isortG (n - 1) 1 rows = T := ⟨_, rfl⟩
  have HT := Lib.hid hT
  have HO := Lib.hid hown
  have HK := Lib.hid hok
  have HN := Lib.hid hn
  clear hT hown hok hn
  rw [HT.out]
  go_enter Try.func81, Try.ntmps81
  go_wp2_with fail
  go_loopw [8] (fun v8 wr => ∃ (i : Nat) (ys : List Row), 1 ≤ i ∧ i ≤ n ∧ v8 = .int .i64 i ∧ ys.length = n ∧ Hid (isortG (n - i) i ys = T) ∧ Hid (∀ r ∈ ys, r ∈ rows) ∧ Hid (Own wr g (ys.map Row.v)) ∧ Hid (Below g w wr)) (fun v8 _ => n - (intOf v8).toNat)
  case atStart => exact ⟨1, rows, by omega, hn1, by go_num, HN.out, HT, Lib.hid (fun r h => h), HO, Lib.hid (Below.refl _ _)⟩
  case round =>
    obtain ⟨i, ys, hi1, hi2, rfl, hyl, HI, HM, HW, HB⟩ := hrel
    by_cases hlt : i < n
    · have HYl := Lib.hid hyl
      clear hyl
      go_wp2_with fail
      go_loopw [9] (fun v9 wr => ∃ (j : Nat) (zs : List Row), j ≤ i ∧ v9 = .int .i64 j ∧ Hid (zs.length = n) ∧ Hid (sift zs j = sift ys i) ∧ Hid (∀ r ∈ zs, r ∈ rows) ∧ Hid (Own wr g (zs.map Row.v)) ∧ Hid (Below g w wr)) (fun v9 _ => (intOf v9).toNat)
      case atStart => exact ⟨i, ys, Nat.le_refl _, rfl, HYl, Lib.hid rfl, HM, HW, HB⟩
      case round =>
        obtain ⟨wz, hwz⟩ : ∃ x, x = wr := ⟨wr, rfl⟩
        subst hwz
        obtain ⟨j, zs, hj, rfl, hzl, HS, HMz, HWz, HBz⟩ := hrel
        cases j with
        | zero =>
          have e1 : isortG (n - (i + 1)) (i + 1) zs = T := by
            have h1 := HI.out
            rw [show n - i = (n - (i + 1)) + 1 by omega, isortG, ← HS.out] at h1
            exact h1
          have HE := Lib.hid e1
          clear e1
          go_wp2_with fail
          go_quiet (fail)
          go_wp2
          go_roundw
          case rel => exact ⟨i + 1, zs, by omega, by omega, by go_num, hzl.out, HE, HMz, HWz, Lib.hid (below_dn HBz.out _)⟩
          case measure => simp [intOf]; omega
        | succ m =>
          have hz1 : m + 1 < zs.length := by have := hzl.out; omega
          obtain ⟨r1, hr1⟩ : ∃ r, zs[m + 1]? = some r := ⟨_, List.getElem?_eq_getElem hz1⟩
          obtain ⟨r0, hr0⟩ : ∃ r, zs[m]? = some r := ⟨_, List.getElem?_eq_getElem (by omega)⟩
          have hk1 := HK.out r1 (HMz.out r1 (List.mem_of_getElem? hr1))
          have hk0 := HK.out r0 (HMz.out r0 (List.mem_of_getElem? hr0))
          have hg1 := getD_get hr1
          have hg0 := getD_get hr0
          obtain ⟨hc1, hf1⟩ := HWz.out (m + 1) r1.v (by rw [List.getElem?_map, hr1]; rfl)
          obtain ⟨hc0, hf0⟩ := HWz.out m r0.v (by rw [List.getElem?_map, hr0]; rfl)
          have hS : sift zs (m + 1) = if ltR r1 r0 then sift (swapR zs m) m else zs := by rw [sift, hg1, hg0]
          have hsw : swapR zs m = (zs.set (m + 1) r0).set m r1 := by rw [swapR, hg1, hg0]
          have hmem : ∀ r ∈ swapR zs m, r ∈ rows := fun r hr => HMz.out r (swap_mem hz1 hr)
          have hswl : (swapR zs m).length = n := by rw [swap_len]; exact hzl.out
          obtain ⟨A1, c1, l1⟩ := r1
          obtain ⟨A0, c0, l0⟩ := r0
          replace hc1 : wz.cell? ⟨g, m + 1, none⟩ = some (.slice A1 l1.length c1) := hc1
          replace hc0 : wz.cell? ⟨g, m, none⟩ = some (.slice A0 l0.length c0) := hc0
          have hgz : g ≤ wz.heap.size := Nat.le_trans (Nat.le_of_lt hg) HBz.out.size
          have hcmp : ∀ k, Calls Try.prog 31 #[.slice A1 l1.length c1, .slice A0 l0.length c0] (wz.drewN k) fun e w' => e = .returned (.int .i64 (cmpN l1 l0)) ∧ ∃ q, w' = (wz.drewN k).drewN q := fun k => cmp_at _ A1 A0 c1 c0 l1.length l0.length l1 l0 rfl rfl (by exact (hk1.1.below HBz.out).more hgz) (by exact (hk0.1.below HBz.out).more hgz) (by have := hk1.2; simp only at this; omega) (by have := hk0.2; simp only at this; omega)
          have HC := Lib.hid hcmp
          have HSw := Lib.hid hsw
          have HMs := Lib.hid hmem
          have HSl := Lib.hid hswl
          have HSs := Lib.hid (hS.symm.trans HS.out)
          clear hcmp hsw hmem hswl hS hg1 hg0 hk1 hk0 hr1 hr0 HS
          obtain ⟨x, hx⟩ : ∃ x, cmpN l1 l0 = x := ⟨_, rfl⟩
          rw [show ltR ⟨A1, c1, l1⟩ ⟨A0, c0, l0⟩ = decide (x < 0) by unfold ltR; rw [hx]] at HSs
          rw [hx] at HC
          have hgt : decide ((0 : Int) < ((m + 1 : Nat) : Int)) = true := decide_eq_true (by omega)
          have hb1 : ((m + 1 : Nat) : Int) < (n : Int) := by omega
          by_cases hx0 : x < 0
          · have dx : decide (x < 0) = true := decide_eq_true hx0
            rw [dx, if_pos rfl] at HSs
            go_wp2_with fail
            go_quiet ((go_at_call 31; exact Calls.quiet_of (HC.out _)))
            go_wp2
            have kc1 : (wz.drewN nq).drew.cell? ⟨g, m + 1, none⟩ = some (.slice A1 l1.length c1) := hc1
            have kc0 : (wz.drewN nq).drew.cell? ⟨g, m, none⟩ = some (.slice A0 l0.length c0) := hc0
            have kf1 : (wz.drewN nq).drew.frozen? ⟨g, m + 1, none⟩ = false := hf1
            have kf0 : (wz.drewN nq).drew.frozen? ⟨g, m, none⟩ = false := hf0
            go_region
            all_goals
              go_wp2
              refine ⟨⟨m, swapR zs m, by omega, rfl, HSl, HSs, HMs, ?_, ?_⟩, ?_⟩
              · rw [HSw.out, List.map_set, List.map_set]
                exact Lib.hid ((HWz.out.set_ (m + 1) _).set_ m _)
              · exact Lib.hid (((below_dn HBz.out (nq + 1)).setCell (Nat.le_refl _) _).setCell (Nat.le_refl _) _)
              · simp [intOf]
          · have dx : decide (x < 0) = false := decide_eq_false hx0
            rw [dx, if_neg (by simp)] at HSs
            have e1 : isortG (n - (i + 1)) (i + 1) zs = T := by
              have h1 := HI.out
              rw [show n - i = (n - (i + 1)) + 1 by omega, isortG, ← HSs.out] at h1
              exact h1
            have HE := Lib.hid e1
            have HZl := Lib.hid hzl.out
            clear e1
            go_wp2_with fail
            go_quiet ((go_at_call 31; exact Calls.quiet_of (HC.out _)))
            go_wp2
            go_roundw
            case rel => exact ⟨i + 1, zs, by omega, by omega, by go_num, HZl.out, HE, HMz, HWz, Lib.hid (below_dn HBz.out _)⟩
            case measure => simp [intOf]; omega
    · obtain rfl : i = n := by omega
      have hTy : ys = T := by have := HI.out; rw [Nat.sub_self] at this; exact this
      subst hTy
      go_wp2_with fail
      exact bodyPost_end (results_none Try.results81 _ _ _) rfl ⟨rfl, HW.out, HB.out⟩
set_option maxRecDepth 100000 in
set_option maxHeartbeats 2000000 in
theorem sortf_at (g c n : Nat) (rows : List Row) (w : World) (hn : rows.length = n) (hn1 : 1 ≤ n) (hn2 : n ≤ 12) (hg : g < w.heap.size) (hown : Own w g (rows.map Row.v)) (hok : RowsOk w g rows) :
    Calls Try.prog 32 #[.slice (some ⟨g, 0, none⟩) n c, .func (.func 31) #[] #[]] w fun e w' => e = .returned (.tuple #[]) ∧ Own w' g ((isortG (n - 1) 1 rows).map Row.v) ∧ Below g w w' := by
  have HP : ∀ b : Int, Calls Try.prog 58 #[.slice (some ⟨g, 0, none⟩) n c, .int .i64 0, .int .i64 (n : Int), .int .i64 b, .func (.func 31) #[] #[]] w fun e w' => e = .returned (.tuple #[]) ∧ Own w' g ((isortG (n - 1) 1 rows).map Row.v) ∧ Below g w w' := by
    intro b
    have HI := Lib.hid (isort_at g c n rows w hn hn1 hn2 hg hown hok)
    clear hn hown hok
    go_enter Try.func58, Try.ntmps58
    go_wp2_with fail
    have hn12 : decide ((n : Int) ≤ 12) = true := decide_eq_true (by omega)
    go_loopw [1, 2, 3, 10, 11] (fun v1 v2 v3 v10 v11 wr => v1 = .int .i64 0 ∧ v2 = .int .i64 n ∧ v3 = .int .i64 b ∧ v10 = .bool true ∧ v11 = .bool true ∧ w = wr) (fun _ _ _ _ _ _ => 0)
    case atStart => exact ⟨rfl, rfl, rfl, rfl, rfl, rfl⟩
    case round =>
      obtain ⟨rfl, rfl, rfl, rfl, rfl, rfl⟩ := hrel
      go_wp2_with (go_at_call 81; refine HI.out.mono ?_; rintro e w1 ⟨rfl, ho1, hb1⟩)
      exact bodyPost_ret (results_none Try.results58 _ _ _) rfl ⟨rfl, ho1, hb1⟩
  have HPh := Lib.hid HP
  clear HP hn hown hok
  go_enter Try.func32, Try.ntmps32
  go_wp2_with (first
    | (go_at_call 58; refine (HPh.out _).mono ?_; rintro e w1 ⟨rfl, ho1, hb1⟩)
    | (go_at_call 59; refine (Try.bits_Len (n : Int) w (by omega) (by omega)).mono ?_; rintro e w ⟨rfl, rfl⟩))
  exact bodyPost_end (results_none Try.results32 _ _ _) rfl ⟨rfl, ho1, hb1⟩
end Go.Proofs.Ytnfgcfljjmjmpaa
