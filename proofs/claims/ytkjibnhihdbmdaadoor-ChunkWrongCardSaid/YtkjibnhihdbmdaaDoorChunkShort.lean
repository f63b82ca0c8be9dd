/-
  ChunkShort, under the guard.
-/
import Derived.Test.YtkjibnhihdbmdaaDoorChunkLaw
import Derived.Deep.QuietTactic
import Derived.BigQuiet
import Derived.IntWalk
import Derived.Deep.RegionLaw
import Derived.Laws.CopyOwn
import Derived.Laws.MakeOwn
set_option linter.unusedVariables false
set_option linter.unusedSimpArgs false
namespace Go.Proofs.YtkjibnhihdbmdaaDoor
open Go.RowKit
set_option maxRecDepth 100000 in
theorem digits_at (n : Nat) (hn : n ≤ 100000) (w : World) : Calls Tryd.prog 32 #[.int .i64 (n : Int)] w fun e w' => e = .returned (.int .i64 ((hexL n).length : Int)) ∧ w' = w := by
  go_enter Tryd.func32, Tryd.ntmps32
  go_wp2_with fail
  go_loop [0, 3] (fun v0 v3 => ∃ m k : Nat, v0 = .int .i64 m ∧ v3 = .int .i64 k ∧ m ≤ 100000 ∧ k + m ≤ 100001 ∧ Hid ((hexL n).length + 1 = k + (hexL m).length)) (fun v0 _ => (intOf v0).toNat)
  case atStart => exact ⟨n, 1, rfl, rfl, hn, by omega, Lib.hid (by omega)⟩
  case round =>
    obtain ⟨m, k, rfl, rfl, hm, hk, HK⟩ := hrel
    by_cases h : 15 < m
    · have hb := hexL_big (show ¬ m < 16 by omega)
      have HB := Lib.hid hb
      clear hb
      go_wp2
      go_round
      case rel => exact ⟨m / 16, k + 1, by go_num, by go_num, by omega, by omega, Lib.hid (by have := HK.out; rw [HB.out] at this; simp at this; omega)⟩
      case measure => simp [intOf]; omega
    · have hb := hexL_small (show m < 16 by omega)
      have h' : decide ((15 : Int) < (m : Int)) = false := by simp; omega
      have HB := Lib.hid hb
      clear hb
      go_wp2
      go_ret
      have e := HK.out
      rw [HB.out] at e
      simp only [List.length_cons, List.length_nil] at e
      exact ⟨ret_int (by show (k : Int) = _; omega), rfl⟩
theorem made_one (z : Value) (n : Nat) (hz : z.cells = #[z]) : madeCells z.cells n = (List.replicate n z).toArray := by
  rw [hz]
  apply Array.ext
  · simp [madeCells]
  · intro i h1 h2
    have e : i % 1 = 0 := Nat.mod_one i
    simp [madeCells, e]
theorem make_ints (n : Nat) (hn : n ≤ 1000000) (W : World) : (Instr.makeSlice 25 (.int .i64 (n : Int)) (.int .i64 (n : Int))).run Tryd.prog W = .ok (.slice (some ⟨W.heap.size, 0, none⟩) n n) (W.alloc (.cells (List.replicate n (Value.int .i64 0)).toArray 3)) := by
  obtain ⟨i0, hi, hz0, hz1, hz2⟩ := info_parts Tryd.clInfoInt
  have := run_make (P := Tryd.prog) W 25 3 i0 (.int .i64 0) Tryd.underlying25 hi hz0 .i64 .i64 n n (by omega) (by omega) (by rw [hz2]; omega) (by omega)
  rw [this, hz1]
  simp only [Nat.mul_one, Int.toNat_natCast]
  rw [made_one _ _ rfl]
theorem sl_hI (A : Option Addr) (n c k : Nat) (hk : k ≤ c) (W : World) : (Instr.slice 25 (.slice A n c) none (some (.int .i64 (k : Int))) none).run Tryd.prog W = .ok (.slice A k c) W := run_sl_h W _ 3 Tryd.underlying25 (fun w => by kernel_rfl) A n c k hk
theorem sl_lI (g n c k : Nat) (hk : k ≤ n) (hc : k < c) (W : World) : (Instr.slice 25 (.slice (some ⟨g, 0, none⟩) n c) (some (.int .i64 (k : Int))) none none).run Tryd.prog W = .ok (.slice (some ⟨g, k, none⟩) (n - k) (c - k)) W := by
  have := run_sl_l (P := Tryd.prog) W 25 3 Tryd.underlying25 (fun w => by kernel_rfl) (some ⟨g, 0, none⟩) n c k hk
  rw [cutA_some g 0 c k hc, Nat.zero_add] at this
  exact this
theorem splice_rep (cur : List Value) (m t : Nat) (v : Value) (h : cur.take m = List.replicate m v) (hl : m + t ≤ cur.length) : (splice cur m (List.replicate t v)).take (m + t) = List.replicate (m + t) v := by
  unfold splice
  rw [h, ← List.append_assoc, List.take_left' (by simp), List.replicate_append_replicate]
theorem heap_cells {w : World} {g : Nat} {cur : List Value} {t : TypeId} (h : w.heap[g]? = some (.cells cur.toArray t (0, 0))) (j : Nat) : w.cell? ⟨g, j, none⟩ = cur[j]? := by simp [World.cell?, h]
theorem kp_lt2 {w : World} {k : Nat} {o : Obj} (h : w.heap[k]? = some o) : k < w.heap.size := by
  rcases Nat.lt_or_ge k w.heap.size with h' | h'
  · exact h'
  · simp [Array.getElem?_eq_none h'] at h
theorem lt_cell {w : World} {q : Nat} {v : Value} {o : Obj} (h : w.cell? ⟨q, 0, none⟩ = some v) (hq : q < w.heap.size) : (w.alloc o).cell? ⟨q, 0, none⟩ = some v := (World.cell?_alloc_lt w o ⟨q, 0, none⟩ hq).trans h
theorem one_at {w : World} {q : Nat} {x : Value} (h : w.cell? ⟨q, 0, none⟩ = some x) : ∀ j u, ([x] : List Value)[j]? = some u → w.cell? ((⟨q, 0, none⟩ : Addr).add j) = some u := fun j u hu => by
  cases j with
  | zero => simpa [Addr.add] using h.trans hu
  | succ j => simp at hu
set_option maxRecDepth 100000 in
set_option maxHeartbeats 1000000 in
theorem repeat_at (q c K : Nat) (z : Int) (w : World) (hr : w.cell? ⟨q, 0, none⟩ = some (.int .i64 z)) (hq : q < w.heap.size) (hK : 1 ≤ K) (hK2 : K ≤ 5000) :
    Calls Tryd.prog 31 #[.slice (some ⟨q, 0, none⟩) 1 c, .int .i64 (K : Int)] w fun e w' => ∃ g, e = .returned (.slice (some ⟨g, 0, none⟩) K K) ∧ Rd w' w'.heap.size (some ⟨g, 0, none⟩) K (ic (List.replicate K z)) ∧ Below w.heap.size w w' := by
  have hmk := make_ints K (by omega)
  have hmul := Tryd.bits_Mul 1 K (by omega) (by omega) w
  rw [Nat.one_mul, Nat.div_eq_of_lt (by omega), Nat.mod_eq_of_lt (by omega)] at hmul
  have HMul := Lib.hid hmul
  have hsz : (Tryd.prog.info? 3).map (·.size) = some 1 := by kernel_rfl
  have hrl : (List.replicate K (Value.int .i64 0)).length = K := by simp
  have HRl := Lib.hid hrl
  clear hmul hrl
  have hmin1 : ([Value.int .i64 z] : List Value).length = Nat.min 1 K := by
    show 1 = min 1 K
    omega
  have HMin := Lib.hid hmin1
  clear hmin1
  have k8 : decide ((K : Int) < 0) = false := by simp
  have k9 : decide ((9223372036854775807 : Int) < (K : Int)) = false := by simp; omega
  go_enter Tryd.func31, Tryd.ntmps31
  go_wp2_with (first
    | (with_reducible refine wpList_copy_splice rfl _ _ _ _ rfl 3 Tryd.underlying25 hsz (some ⟨w.heap.size, 0, none⟩) (some ⟨q, 0, none⟩) K K 1 c rfl rfl w.heap.size 0 (List.replicate K (Value.int .i64 0)) 3 (heap_alloc_new w _) [.int .i64 z] HMin.out (fun _ => ⟨rfl, ⟨q, 0, none⟩, rfl, one_at (lt_cell hr hq)⟩) (by rw [HRl.out]; simp; omega) (by simp [Value.oneCell']) w.heap.size w ((Below.refl _ _).alloc (Nat.le_refl _) _) (Nat.le_refl _) ?_; intro w2 hg2 hB2; have HB2 := Lib.hid hB2; clear hB2)
    | (go_at_call 49; refine HMul.out.mono ?_; rintro e w ⟨rfl, rfl⟩))
  have hs2 : (splice (List.replicate K (Value.int .i64 0)) 0 [.int .i64 z]).take 1 = List.replicate 1 (.int .i64 z) := by simp [splice]
  have hl2 : (splice (List.replicate K (Value.int .i64 0)) 0 [.int .i64 z]).length = K := by rw [length_splice _ _ _ (by rw [HRl.out]; simp; omega)]; exact HRl.out
  generalize splice (List.replicate K (Value.int .i64 0)) 0 [.int .i64 z] = cur0 at hg2 hs2 hl2
  have HS2 := Lib.hid hs2
  have HL2 := Lib.hid hl2
  clear hs2 hl2 HRl HMul HMin
  go_loopw [8] (fun v8 wr => ∃ (m : Nat) (cur : List Value), v8 = .int .i64 m ∧ 1 ≤ m ∧ m ≤ K ∧ Hid (wr.heap[w.heap.size]? = some (.cells cur.toArray 3 (0, 0))) ∧ Hid (cur.length = K) ∧ Hid (cur.take m = List.replicate m (.int .i64 z)) ∧ Hid (Below w.heap.size w wr)) (fun v8 _ => K - (intOf v8).toNat)
  case atStart => exact ⟨1, cur0, rfl, Nat.le_refl _, hK, hg2, HL2, HS2, HB2⟩
  case round =>
    clear hg2 HL2 HS2 HB2
    obtain ⟨m, cur, rfl, hm1, hm2, HG, HL, HT, HB⟩ := hrel
    by_cases hlt : m < K
    · obtain ⟨t, ht⟩ : ∃ t, t = min m (K - m) := ⟨_, rfl⟩
      have ht1 : 1 ≤ t := by omega
      have ht2 : m + t ≤ K := by omega
      have s1 := sl_lI w.heap.size K K m (by omega) hlt
      have s2 := sl_hI (some ⟨w.heap.size, 0, none⟩) K K m (by omega)
      have hn : (List.replicate t (Value.int .i64 z)).length = Nat.min m (K - m) := by rw [List.length_replicate]; exact ht
      have hsrc : ∀ j u, (List.replicate t (Value.int .i64 z))[j]? = some u → wr.cell? ((⟨w.heap.size, 0, none⟩ : Addr).add j) = some u := fun j u hu => by
        have hj : j < t := by
          rcases Nat.lt_or_ge j t with h1 | h1
          · exact h1
          · rw [List.getElem?_eq_none (by simpa using h1)] at hu; cases hu
        have hu2 : u = .int .i64 z := by
          rw [List.getElem?_replicate, if_pos hj] at hu
          exact (Option.some.inj hu).symm
        have hc := heap_cells HG.out j
        have hx : cur[j]? = some (.int .i64 z) := by
          have h3 : (cur.take m)[j]? = some (.int .i64 z) := by rw [HT.out, List.getElem?_replicate, if_pos (by omega)]
          rwa [List.getElem?_take_of_lt (by omega)] at h3
        rw [hu2, ← hx, ← hc]
        by_cases h0 : j = 0
        · subst h0; rfl
        · simp [Addr.add, h0]
      have hfit : m + (List.replicate t (Value.int .i64 z)).length ≤ cur.length := by rw [List.length_replicate, HL.out]; exact ht2
      have hone : ∀ u ∈ List.replicate t (Value.int .i64 z), u.oneCell' = true := fun u hu => by rw [List.eq_of_mem_replicate hu]; rfl
      have HN := Lib.hid hn
      have HSr := Lib.hid hsrc
      have HFt := Lib.hid hfit
      have HOn := Lib.hid hone
      have k1 : goInt (List.replicate t (Value.int .i64 z)).length = .int .i64 (t : Int) := by rw [List.length_replicate]; rfl
      have HK1 := Lib.hid k1
      have k2 : IntKind.i64.wrap ((m : Int) + (t : Int)) = (m : Int) + (t : Int) := IntWalk.i64_in _ (by omega)
      clear hn hsrc hfit hone k1 ht
      go_wp2_with fail
      go_region_law (first
        | (refine step_copy_splice rfl _ _ _ _ rfl 3 Tryd.underlying25 hsz (some ⟨w.heap.size, m, none⟩) (some ⟨w.heap.size, 0, none⟩) (K - m) (K - m) m K ?_ ?_ w.heap.size m cur 3 HG.out (List.replicate t (Value.int .i64 z)) HN.out (fun _ => ⟨rfl, ⟨w.heap.size, 0, none⟩, rfl, HSr.out⟩) HFt.out HOn.out w.heap.size w HB.out.drew (Nat.le_refl _) ?_
           · kernel_rfl
           · kernel_rfl
           intro w4 hg4 hb4
           rw [HK1.out]))
      all_goals
        simp only [Act.put, List.getElem_toArray, List.getElem_cons_succ, List.getElem_cons_zero, List.setIfInBounds_toArray, List.set_cons_succ, List.set_cons_zero]
        go_roundw
        case rel =>
          refine ⟨_, _, _, _, _, _, _, _, _, _, _, _, _, _, ?_, rfl⟩
          exact ⟨m + t, splice cur m (List.replicate t (.int .i64 z)), by go_num, by omega, ht2, hg4, Lib.hid (by rw [length_splice _ _ _ HFt.out]; exact HL.out), Lib.hid (splice_rep cur m t _ HT.out (by rw [HL.out]; exact ht2)), Lib.hid hb4⟩
        case measure => simp [intOf]; omega
    · have hmK : m = K := by omega
      subst hmK
      go_wp2
      go_ret
      have hlt2 := kp_lt2 HG.out
      refine ⟨w.heap.size, rfl, ⟨by simp, fun _ => ⟨w.heap.size, 0, rfl, hlt2, fun j u hu => ?_⟩⟩, HB.out⟩
      rw [Nat.zero_add, heap_cells HG.out]
      have e : cur = List.replicate m (.int .i64 z) := by rw [← HT.out, List.take_of_length_le (by rw [HL.out]; exact Nat.le_refl _)]
      rw [e]
      simpa [ic] using hu
end Go.Proofs.YtkjibnhihdbmdaaDoor
