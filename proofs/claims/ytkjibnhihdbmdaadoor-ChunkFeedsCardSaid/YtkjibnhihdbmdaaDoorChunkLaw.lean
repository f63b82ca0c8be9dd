/-
  What the laws about chunked bodies use: Sizes.
-/
import Derived.Test.YtkjibnhihdbmdaaDoorChunkAwake
import Derived.Test.YtkjibnhihdbmdaaDoorAppW
set_option linter.unusedVariables false
set_option linter.unusedSimpArgs false
namespace Go.Proofs.YtkjibnhihdbmdaaDoor
open Go.RowKit
/-- the cells of a row of numbers of 16 bits -/
def hc16 (l : List Nat) : List Value := l.map fun (n : Nat) => .int .u16 (n : Int)
@[simp] theorem hc16_length (l : List Nat) : (hc16 l).length = l.length := by simp [hc16]
theorem hc16_get (l : List Nat) (k : Nat) (h : k < l.length) : (hc16 l)[k]? = some (.int .u16 (l[k] : Int)) := by simp [hc16, h]
def szL (l : List Nat) : List Int := (l.take 40).map fun (n : Nat) => 1 + (n : Int)
theorem szL_pos (l : List Nat) : ∀ z ∈ szL l, 1 ≤ z := by
  intro z hz
  obtain ⟨n, _, rfl⟩ := List.mem_map.1 hz
  omega
theorem szL_len (l : List Nat) : (szL l).length ≤ 40 := by simp [szL]; omega
theorem szL_any (l : List Nat) : (szL l).any lt1 = false := by
  rw [List.any_eq_false]
  intro z hz
  have := szL_pos l z hz
  simp [lt1]; omega
theorem encE_sz (body : List UInt8) (l : List Nat) (h : body.length ≤ 65536) : encE body (szL l) = 0 := by
  unfold encE
  rw [if_neg (by omega), if_neg (by rw [szL_any]; simp)]
theorem encR_sz (body : List UInt8) (l : List Nat) (h : body.length ≤ 65536) : encR body (szL l) = encF (body.length + 1) body (szL l) := by
  unfold encR
  rw [if_pos (encE_sz body l h)]
theorem Tryd.infoInt1 : (Tryd.prog.info? 3).map (fun i => (i.zero, i.size, i.bytes)) = some (some (.int .i64 0), 1, 8) := by kernel_rfl
set_option maxRecDepth 100000 in
set_option maxHeartbeats 400000 in
theorem sizes_at (A : Option Addr) (c L : Nat) (l : List Nat) (w : World) (hL : l.length = L) (h : Rd w w.heap.size A L (hc16 l)) (hc : L ≤ c) (hl : ∀ n ∈ l, n < 65536) :
    Calls Tryd.prog 16 #[.slice A L c] w fun e w' => ∃ A' c', e = .returned (.slice A' (szL l).length c') ∧ (szL l).length ≤ c' ∧ Ow w' w.heap.size 3 (.slice A' (szL l).length c') (ic (szL l)) ∧ Below w.heap.size w w' := by
  obtain ⟨i0, hi, hz0, hz1, hz2⟩ := info_parts Tryd.infoInt1
  obtain ⟨K, hK⟩ : ∃ K, K = min L 40 := ⟨_, rfl⟩
  have hmin : min (L : Int) 40 = (K : Int) := by omega
  have hK1 : K ≤ L := by omega
  have hK2 : K ≤ 40 := by omega
  have ksl : ∀ W, (Instr.slice 27 (.slice A L c) none (some (.int .i64 (K : Int))) none).run Tryd.prog W = .ok (.slice A K c) W := fun W => run_sl_h W _ 37 Tryd.underlying27 (fun w => by kernel_rfl) A L c K (by omega)
  have HR := Lib.hid h
  have HL := Lib.hid hL
  have HB := Lib.hid hl
  have hlen : (szL l).length = K := by simp [szL]; omega
  have HLn := Lib.hid hlen
  clear h hL hl hK hlen
  go_enter Tryd.func16, Tryd.ntmps16
  go_wp2_with fail
  go_loopw [3, 12] (fun vo vi wr => ∃ (k co : Nat) (Ao : Option Addr), k ≤ K ∧ vi = .int .i64 k ∧ vo = .slice Ao k co ∧ Hid (Ow wr w.heap.size 3 (.slice Ao k co) (ic ((szL l).take k))) ∧ Hid (Below w.heap.size w wr)) (fun _ vi _ => K - (intOf vi).toNat)
  case atStart => exact ⟨0, 0, none, Nat.zero_le _, rfl, rfl, Lib.hid (by simpa [ic] using Ow.nil _ _ _), Lib.hid (Below.refl _ _)⟩
  case round =>
    obtain ⟨k, co, Ao, hk, rfl, rfl, HO, HBl⟩ := hrel
    have hsz := HBl.out.size
    by_cases hlt : k < K
    · have hkl : k < l.length := by have := HL.out; omega
      obtain ⟨b, o, rfl, _, hcell⟩ := (HR.out.below HBl.out).at_ (show k < L by omega)
      have hx := hcell k _ (hc16_get l k hkl)
      have hnb := HB.out l[k] (List.getElem_mem hkl)
      obtain ⟨n, hn⟩ : ∃ n, n = l[k] := ⟨_, rfl⟩
      rw [← hn] at hx hnb
      have hst : (szL l).take (k + 1) = (szL l).take k ++ [1 + (n : Int)] := by
        rw [List.take_succ_eq_append_getElem (by have := HLn.out; omega)]
        simp [szL, hn]
      have HS := Lib.hid hst
      clear hcell hn hst
      go_wp2_with (at_builtin; refine wpList_app _ rfl _ _ _ _ rfl w.heap.size 3 i0 (.int .i64 0) 8 Tryd.underlying25 hi hz0 hz1 hz2 rfl (by omega) _ _ (HO.out.alloc _) rfl 1 [.int .i64 (1 + (n : Int))] (one_src Tryd.underlying25 _ rfl) (by rw [ic_length, List.length_take]; omega) (by simp; omega) ?_; intro v3 w3 hown3 hgr3 hsz3; have hown4 : Ow w3 w.heap.size 3 v3 (ic ((szL l).take (k + 1))) := (by rw [HS.out] <;> simpa [ic] using hown3); obtain ⟨A3, c3, rfl, hl3, _⟩ := ow_formL hown4 (k + 1) (by have := HLn.out; simp; omega); have HO3 := Lib.hid hown4; have HB3 := Lib.hid ((HBl.out.alloc hsz _).trans (hgr3.below HO.out.lt (by simp; omega))); clear hown3 hown4 hgr3)
      go_roundw
      case rel => exact ⟨k + 1, c3, A3, by omega, by go_num, rfl, HO3, HB3⟩
      case measure => simp [intOf]; omega
    · have hkK : k = K := by omega
      subst hkK
      go_wp2
      go_ret
      have e := HO.out
      rw [List.take_of_length_le (by have := HLn.out; omega)] at e
      obtain ⟨A4, c4, h4, hl4, _⟩ := ow_formL e (szL l).length (by simp)
      rw [h4] at e
      exact ⟨A4, c4, by rw [← h4]; rfl, hl4, e, HBl.out⟩
theorem rd_pre {w : World} {B n : Nat} {A : Option Addr} {l : List UInt8} (h : Rd w B A n (bc l)) {k : Nat} (hk : k ≤ n) : Rd w B A k (bc (l.take k)) := by
  have e : bc (l.take k) = (bc l).take k := by simp [bc, List.map_take]
  rw [e]
  refine ⟨by rw [List.length_take, h.1]; omega, fun h0 => ?_⟩
  obtain ⟨b, o, e, hb, hc⟩ := h.2 (by omega)
  refine ⟨b, o, e, hb, fun j u hu => hc j u ?_⟩
  rcases Nat.lt_or_ge j k with h1 | h1
  · rwa [List.getElem?_take_of_lt h1] at hu
  · rw [List.getElem?_eq_none (by rw [List.length_take]; omega)] at hu; cases hu
theorem sl_h (A : Option Addr) (n c k : Nat) (hk : k ≤ c) (W : World) : (Instr.slice 22 (.slice A n c) none (some (.int .i64 (k : Int))) none).run Tryd.prog W = .ok (.slice A k c) W := run_sl_h W _ 5 Tryd.underlying22 (fun w => by kernel_rfl) A n c k hk
theorem enc_bound : ∀ (f : Nat) (body : List UInt8) (zs : List Int), (∀ z ∈ zs, 1 ≤ z) → body.length ≤ 65536 → (encF f body zs).length ≤ 10 * body.length + 5
  | 0, _, _, _, _ => by simp [encF]
  | f + 1, [], zs, _, _ => by simp [encF]
  | f + 1, c :: l, zs, hz, hb => by
    have hp := chunkN_pos (List.cons_ne_nil c l) hz
    have hle := chunkN_le (c :: l) zs
    have h5 := hexL_five (chunkN (c :: l) zs) (by omega)
    simp only [encF]
    generalize c :: l = b at *
    have hdl : (b.drop (chunkN b zs)).length = b.length - chunkN b zs := List.length_drop
    have ht : (b.take (chunkN b zs)).length = chunkN b zs := by rw [List.length_take]; omega
    have ih := enc_bound f (b.drop (chunkN b zs)) zs.tail (fun z h => hz z (List.mem_of_mem_tail h)) (by omega)
    simp only [List.length_append, List.length_cons, ht]
    omega
set_option maxRecDepth 100000 in
theorem prefix_b (A1 A2 : Option Addr) (c1 c2 L1 L2 : Nat) (l m : List UInt8) (r : Bool) (w : World) (hr : decide (l.take L2 = m) = r) (h1' : l.length = L1) (h2' : m.length = L2) (hle : L2 ≤ L1) (hc : L1 ≤ c1) (h1 : Rd w w.heap.size A1 L1 (bc l)) (h2 : Rd w w.heap.size A2 L2 (bc m)) :
    Calls Tryd.prog 30 #[.slice A1 L1 c1, .slice A2 L2 c2] w fun e w' => e = .returned (.bool r) ∧ w' = w := by
  have ksl := sl_h A1 L1 c1 L2 (by omega)
  have hlen : (l.take L2).length = L2 := by rw [List.length_take]; omega
  have HL := Lib.hid hlen
  have HR := Lib.hid hr
  have HM := Lib.hid h2'
  have rp := Lib.hid (rd_pre h1 (k := L2) hle)
  have R2 := Lib.hid h2
  have d1 : decide (L2 ≤ L1) = true := decide_eq_true hle
  clear hlen hr h1' h2' h1 h2
  go_enter Tryd.func30, Tryd.ntmps30
  go_wp2_with (go_at_call 19; refine (eq_b A1 A2 c1 c2 L2 L2 (l.take L2) m r w HR.out HL.out HM.out rp.out R2.out).mono ?_; rintro e w ⟨rfl, rfl⟩)
  go_ret
  exact ⟨rfl, rfl⟩
end Go.Proofs.YtkjibnhihdbmdaaDoor
