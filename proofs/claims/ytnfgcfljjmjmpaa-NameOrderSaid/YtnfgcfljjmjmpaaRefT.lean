/-
  The reference of layer 16: Text, piece.
-/
import Derived.Test.YtnfgcfljjmjmpaaTextP
import Derived.Test.YtnfgcfljjmjmpaaInts
set_option linter.unusedVariables false
set_option linter.unusedSimpArgs false
namespace Go.Proofs.Ytnfgcfljjmjmpaa
open Go.RowKit
theorem four_src {P : Program} {W : World} {tx e' : TypeId} (hk : P.underlying tx = some (.slice e')) (u : List Value) (e : TypeId) (h1 : ∀ x ∈ u, x.oneCell' = true) : Src P 1 tx (.slice (some ⟨W.heap.size, 0, none⟩) u.length u.length) u.length u (W.alloc (.cells u.toArray e)) := by
  refine Src.ofSlice _ hk _ u.length u.length u (by simp) (fun j x hj => ?_) h1
  have := (Whole.new W e u).cell j
  rw [hj] at this
  by_cases hj0 : j = 0
  · subst hj0; simpa [Addr.add] using this
  · simpa [Addr.add, hj0] using this
set_option maxRecDepth 100000 in
set_option maxHeartbeats 400000 in
theorem rtext_bad (A : Option Addr) (c L : Nat) (n : List (List UInt8)) (w : World) (hL : n.length = L) (h : Rd w w.heap.size A L (sc n)) (hr : rightN n = false) (hs : sizeN n ≤ 140737488355328) :
    Calls Try.prog 43 #[.slice A L c] w fun e w' => e = .returned (.tuple #[.string ⟨#[]⟩, .int .i64 160]) ∧ Below w.heap.size w w' := by
  subst hL
  go_enter Try.func43, Try.ntmps43
  go_wp2_with (go_at_call 45; refine (rright_any A c n w h hs).mono ?_; rw [hr]; rintro e w1 ⟨rfl, hb1⟩)
  go_ret2
  exact ⟨rfl, hb1⟩
theorem tj_take (n : List (List UInt8)) (k : Nat) (h : k < n.length) (j : Nat) (hj : j < n[k].length) : escL (n[k].take (j + 1)) = escL (n[k].take j) ++ escB n[k][j] := escL_take n[k] j hj
set_option maxRecDepth 100000 in
set_option maxHeartbeats 2000000 in
theorem rtext_ok (A : Option Addr) (c L : Nat) (n : List (List UInt8)) (w : World) (hL : n.length = L) (h : Rd w w.heap.size A L (sc n)) (hr : rightN n = true) :
    Calls Try.prog 43 #[.slice A L c] w fun e w' => e = .returned (.tuple #[.string ⟨(textN n).toArray⟩, .int .i64 0]) ∧ Below w.heap.size w w' := by
  subst hL
  obtain ⟨i0, hi, hz0, hz1, hz2⟩ := info_parts Try.infoByte
  have hsn := size_right hr
  have hln := sizeN_length n
  by_cases hn0 : n = []
  · subst hn0
    go_enter Try.func43, Try.ntmps43
    go_wp2_with (go_at_call 45; refine (rright_any A c [] w h (by omega)).mono ?_; rw [hr]; rintro e w1 ⟨rfl, hb1⟩)
    go_ret2
    exact ⟨rfl, hb1⟩
  · have htx : textN n = tjoin n := by unfold textN; rw [if_neg hn0]
    have HTX := Lib.hid htx
    have HRT := Lib.hid hr
    have hpos : 0 < n.length := List.length_pos_iff.2 hn0
    have hne : ((n.length : Int) == 0) = false := by simp; omega
    have hln0 : ¬ n = [] := hn0
    clear htx
    go_enter Try.func43, Try.ntmps43
    go_wp2_with (go_at_call 45; refine (rright_any A c n w h (by omega)).mono ?_; rw [HRT.out]; rintro e w1 ⟨rfl, hb1⟩)
    clear hr
    go_loopw [4, 5] (fun vo vi wr => ∃ k : Nat, k ≤ n.length ∧ vi = .int .i64 k ∧ Ow wr w.heap.size 5 vo (bc (tjoin (n.take k))) ∧ Below w.heap.size w wr) (fun _ vi _ => n.length - (intOf vi).toNat)
    case atStart => exact ⟨0, Nat.zero_le _, rfl, Ow.nil _ _ _, hb1⟩
    case round =>
      clear hb1
      obtain ⟨k, hk, rfl, hown, hbel⟩ := hrel
      have hszb := hbel.size
      have htl := tjoin_length (n.take k)
      have hstk := sizeN_take_le n k
      by_cases hlt : k < n.length
      · have hst := sizeN_take n k hlt
        have hstk1 := sizeN_take_le n (k + 1)
        have htt := tjoin_take n k hlt
        obtain ⟨b, o, rfl, hbw, hc⟩ := h.at_ hlt
        have hcell0 := hc k _ (sc_get n k hlt)
        generalize n[k] = l at hst htt hcell0
        have hll : l.length ≤ 255 := by omega
        have HT := Lib.hid htt
        clear hc htt hst
        obtain ⟨sep, hsep, hsl⟩ : ∃ sep : List UInt8, sep = (if k = 0 then [] else [46]) ∧ sep.length ≤ 1 := ⟨_, rfl, by split <;> simp⟩
        rw [← hsep] at HT
        have hel : ∀ j, (escL (l.take j)).length ≤ 1020 := fun j => by
          have := escL_length (l.take j)
          have : (l.take j).length ≤ l.length := by rw [List.length_take]; omega
          omega
        have HEL := Lib.hid hel
        clear hel
        by_cases hk0 : k = 0
        · have hsep' : sep = [] := by rw [hsep, if_pos hk0]
          have hown2 : Ow wr w.heap.size 5 u4 (bc (tjoin (n.take k) ++ sep)) := by rw [hsep', List.append_nil]; exact hown
          have hb2 := hbel
          have tk : decide (0 < k) = false := by simp; omega
          have hk1 : (k : Int) ≤ 0 := by omega
          clear hsep hsep' hown hk0
          go_wp2_with fail
          go_loopw [4, 6] (fun vo vj wq => ∃ j : Nat, j ≤ l.length ∧ vj = .int .i64 j ∧ Ow wq w.heap.size 5 vo (bc (tjoin (n.take k) ++ sep ++ escL (l.take j))) ∧ Below w.heap.size w wq) (fun _ vj _ => l.length - (intOf vj).toNat)
          case atStart => exact ⟨0, Nat.zero_le _, rfl, by simpa [escL] using hown2, hb2⟩
          case round =>
            clear hown2 hb2 hbel hszb
            obtain ⟨j, hj, rfl, hownj, hbel⟩ := hrel
            have hszb := hbel.size
            have hcell := (hbel.cell (p := ⟨b, o + k, none⟩) hbw).trans hcell0
            have hej := HEL.out j
            have hbl : (tjoin (n.take k) ++ sep ++ escL (l.take j)).length ≤ 4000 := by rw [List.length_append, List.length_append]; omega
            by_cases hjl : j < l.length
            · have hix := fun W => idxStr W l j l[j] (by simp [hjl])
              have het := escL_take l j hjl
              have hxl := UInt8.toNat_lt l[j]
              generalize l[j] = x at hix het hxl
              have HE := Lib.hid het
              clear het
              rcases escB_cases x with ⟨hx, e⟩ | ⟨⟨hx1, hx2, hx3, hx4⟩, e⟩ | ⟨hx, e⟩
              · have hee : bc (escB x) = [.int .u8 92, .int .u8 (x.toNat : Int)] := by rw [e]; rfl
                have HEE := Lib.hid hee
                clear hee e
                by_cases hx46 : x.toNat = 46
                · have t1 : ((x.toNat : Int) == 46) = true := by simp; omega
                  clear hx hx46
                  go_wp2_with (at_builtin; refine wpList_app _ rfl _ _ _ _ rfl w.heap.size 5 i0 (.int .u8 0) 1 Try.underlying22 hi hz0 hz1 hz2 rfl (Nat.le_refl _) _ _ (hownj.alloc _) rfl 2 [.int .u8 92, .int .u8 (x.toNat : Int)] (four_src Try.underlying22 [.int .u8 92, .int .u8 (x.toNat : Int)] _ (by simp [Value.oneCell'])) (by rw [bc_length]; omega) (by simp; omega) ?_; intro v6 w6 hown6 hgr6 hsz6)
                  go_roundw
                  case rel => exact ⟨j + 1, by omega, by go_num, by rw [HE.out, ← List.append_assoc, bc_append, HEE.out]; exact hown6, hbel.trans ((((Gr.refl _ _).alloc _).trans hgr6).below hownj.lt hszb)⟩
                  case measure => simp [intOf]; omega
                · have t1 : ((x.toNat : Int) == 46) = false := by simp; omega
                  have t2 : ((x.toNat : Int) == 92) = true := by simp; omega
                  clear hx hx46
                  go_wp2_with (at_builtin; refine wpList_app _ rfl _ _ _ _ rfl w.heap.size 5 i0 (.int .u8 0) 1 Try.underlying22 hi hz0 hz1 hz2 rfl (Nat.le_refl _) _ _ (hownj.alloc _) rfl 2 [.int .u8 92, .int .u8 (x.toNat : Int)] (four_src Try.underlying22 [.int .u8 92, .int .u8 (x.toNat : Int)] _ (by simp [Value.oneCell'])) (by rw [bc_length]; omega) (by simp; omega) ?_; intro v6 w6 hown6 hgr6 hsz6)
                  go_roundw
                  case rel => exact ⟨j + 1, by omega, by go_num, by rw [HE.out, ← List.append_assoc, bc_append, HEE.out]; exact hown6, hbel.trans ((((Gr.refl _ _).alloc _).trans hgr6).below hownj.lt hszb)⟩
                  case measure => simp [intOf]; omega
              · have hee : bc (escB x) = [.int .u8 (x.toNat : Int)] := by rw [e]; rfl
                have HEE := Lib.hid hee
                have t1 : ((x.toNat : Int) == 46) = false := by simp; omega
                have t2 : ((x.toNat : Int) == 92) = false := by simp; omega
                have t3 : decide (33 ≤ (x.toNat : Int)) = true := by simp; omega
                have t4 : decide ((x.toNat : Int) ≤ 126) = true := by simp; omega
                clear hee e
                go_wp2_with (at_builtin; refine wpList_app _ rfl _ _ _ _ rfl w.heap.size 5 i0 (.int .u8 0) 1 Try.underlying22 hi hz0 hz1 hz2 rfl (Nat.le_refl _) _ _ (hownj.alloc _) rfl 1 [.int .u8 (x.toNat : Int)] (one_src Try.underlying22 _ rfl) (by rw [bc_length]; omega) (by simp; omega) ?_; intro v6 w6 hown6 hgr6 hsz6)
                go_roundw
                case rel => exact ⟨j + 1, by omega, by go_num, by rw [HE.out, ← List.append_assoc, bc_append, HEE.out]; exact hown6, hbel.trans ((((Gr.refl _ _).alloc _).trans hgr6).below hownj.lt hszb)⟩
                case measure => simp [intOf]; omega
              · have hee : bc (escB x) = [.int .u8 92, .int .u8 (48 + (x.toNat : Int) / 100), .int .u8 (48 + (x.toNat : Int) / 10 % 10), .int .u8 (48 + (x.toNat : Int) % 10)] := by rw [e, esc_cells]
                have HEE := Lib.hid hee
                have hn1 : x.toNat ≠ 46 := by omega
                have hn2 : x.toNat ≠ 92 := by omega
                have t1 : ((x.toNat : Int) == 46) = false := by simp; omega
                have t2 : ((x.toNat : Int) == 92) = false := by simp; omega
                clear hee e hn1 hn2
                by_cases hx33 : 33 ≤ x.toNat
                · have t3 : decide (33 ≤ (x.toNat : Int)) = true := by simp; omega
                  have t4 : decide ((x.toNat : Int) ≤ 126) = false := by simp; omega
                  go_wp2_with (at_builtin; refine wpList_app _ rfl _ _ _ _ rfl w.heap.size 5 i0 (.int .u8 0) 1 Try.underlying22 hi hz0 hz1 hz2 rfl (Nat.le_refl _) _ _ (hownj.alloc _) rfl 4 [.int .u8 92, .int .u8 (48 + (x.toNat : Int) / 100), .int .u8 (48 + (x.toNat : Int) / 10 % 10), .int .u8 (48 + (x.toNat : Int) % 10)] (four_src Try.underlying22 [.int .u8 92, .int .u8 (48 + (x.toNat : Int) / 100), .int .u8 (48 + (x.toNat : Int) / 10 % 10), .int .u8 (48 + (x.toNat : Int) % 10)] _ (by simp [Value.oneCell'])) (by rw [bc_length]; omega) (by simp; omega) ?_; intro v6 w6 hown6 hgr6 hsz6)
                  go_roundw
                  case rel => exact ⟨j + 1, by omega, by go_num, by rw [HE.out, ← List.append_assoc, bc_append, HEE.out]; exact hown6, hbel.trans ((((Gr.refl _ _).alloc _).trans hgr6).below hownj.lt hszb)⟩
                  case measure => simp [intOf]; omega
                · have t3 : decide (33 ≤ (x.toNat : Int)) = false := by simp; omega
                  go_wp2_with (at_builtin; refine wpList_app _ rfl _ _ _ _ rfl w.heap.size 5 i0 (.int .u8 0) 1 Try.underlying22 hi hz0 hz1 hz2 rfl (Nat.le_refl _) _ _ (hownj.alloc _) rfl 4 [.int .u8 92, .int .u8 (48 + (x.toNat : Int) / 100), .int .u8 (48 + (x.toNat : Int) / 10 % 10), .int .u8 (48 + (x.toNat : Int) % 10)] (four_src Try.underlying22 [.int .u8 92, .int .u8 (48 + (x.toNat : Int) / 100), .int .u8 (48 + (x.toNat : Int) / 10 % 10), .int .u8 (48 + (x.toNat : Int) % 10)] _ (by simp [Value.oneCell'])) (by rw [bc_length]; omega) (by simp; omega) ?_; intro v6 w6 hown6 hgr6 hsz6)
                  go_roundw
                  case rel => exact ⟨j + 1, by omega, by go_num, by rw [HE.out, ← List.append_assoc, bc_append, HEE.out]; exact hown6, hbel.trans ((((Gr.refl _ _).alloc _).trans hgr6).below hownj.lt hszb)⟩
                  case measure => simp [intOf]; omega
            · have hjl2 : j = l.length := by omega
              subst hjl2
              rw [List.take_length, ← HT.out] at hownj
              go_wp2_with fail
              go_roundw
              case rel => exact ⟨k + 1, by omega, by go_num, hownj, hbel⟩
              case measure => simp [intOf]; omega
        · have hsep' : sep = [46] := by rw [hsep, if_neg hk0]
          have HSP := Lib.hid hsep'
          have tk : decide (0 < k) = true := by simp; omega
          have hk1 : (0 : Int) < (k : Int) := by omega
          clear hsep hsep' hk0
          go_wp2_with (at_builtin; refine wpList_app _ rfl _ _ _ _ rfl w.heap.size 5 i0 (.int .u8 0) 1 Try.underlying22 hi hz0 hz1 hz2 rfl (Nat.le_refl _) _ _ (hown.alloc _) rfl 1 [.int .u8 46] (one_src Try.underlying22 _ rfl) (by rw [bc_length]; omega) (by simp; omega) ?_; intro v7 w7 hown7 hgr7 hsz7)
          have hown2 : Ow w7 w.heap.size 5 v7 (bc (tjoin (n.take k) ++ sep)) := by rw [HSP.out, bc_append]; exact hown7
          have hb2 : Below w.heap.size w w7 := hbel.trans ((((Gr.refl _ _).alloc _).trans hgr7).below hown.lt hszb)
          clear hown hown7 hgr7 hsz7
          go_loopw [4, 6] (fun vo vj wq => ∃ j : Nat, j ≤ l.length ∧ vj = .int .i64 j ∧ Ow wq w.heap.size 5 vo (bc (tjoin (n.take k) ++ sep ++ escL (l.take j))) ∧ Below w.heap.size w wq) (fun _ vj _ => l.length - (intOf vj).toNat)
          case atStart => exact ⟨0, Nat.zero_le _, rfl, by simpa [escL] using hown2, hb2⟩
          case round =>
            clear hown2 hb2 hbel hszb
            obtain ⟨j, hj, rfl, hownj, hbel⟩ := hrel
            have hszb := hbel.size
            have hcell := (hbel.cell (p := ⟨b, o + k, none⟩) hbw).trans hcell0
            have hej := HEL.out j
            have hbl : (tjoin (n.take k) ++ sep ++ escL (l.take j)).length ≤ 4000 := by rw [List.length_append, List.length_append]; omega
            by_cases hjl : j < l.length
            · have hix := fun W => idxStr W l j l[j] (by simp [hjl])
              have het := escL_take l j hjl
              have hxl := UInt8.toNat_lt l[j]
              generalize l[j] = x at hix het hxl
              have HE := Lib.hid het
              clear het
              rcases escB_cases x with ⟨hx, e⟩ | ⟨⟨hx1, hx2, hx3, hx4⟩, e⟩ | ⟨hx, e⟩
              · have hee : bc (escB x) = [.int .u8 92, .int .u8 (x.toNat : Int)] := by rw [e]; rfl
                have HEE := Lib.hid hee
                clear hee e
                by_cases hx46 : x.toNat = 46
                · have t1 : ((x.toNat : Int) == 46) = true := by simp; omega
                  clear hx hx46
                  go_wp2_with (at_builtin; refine wpList_app _ rfl _ _ _ _ rfl w.heap.size 5 i0 (.int .u8 0) 1 Try.underlying22 hi hz0 hz1 hz2 rfl (Nat.le_refl _) _ _ (hownj.alloc _) rfl 2 [.int .u8 92, .int .u8 (x.toNat : Int)] (four_src Try.underlying22 [.int .u8 92, .int .u8 (x.toNat : Int)] _ (by simp [Value.oneCell'])) (by rw [bc_length]; omega) (by simp; omega) ?_; intro v6 w6 hown6 hgr6 hsz6)
                  go_roundw
                  case rel => exact ⟨j + 1, by omega, by go_num, by rw [HE.out, ← List.append_assoc, bc_append, HEE.out]; exact hown6, hbel.trans ((((Gr.refl _ _).alloc _).trans hgr6).below hownj.lt hszb)⟩
                  case measure => simp [intOf]; omega
                · have t1 : ((x.toNat : Int) == 46) = false := by simp; omega
                  have t2 : ((x.toNat : Int) == 92) = true := by simp; omega
                  clear hx hx46
                  go_wp2_with (at_builtin; refine wpList_app _ rfl _ _ _ _ rfl w.heap.size 5 i0 (.int .u8 0) 1 Try.underlying22 hi hz0 hz1 hz2 rfl (Nat.le_refl _) _ _ (hownj.alloc _) rfl 2 [.int .u8 92, .int .u8 (x.toNat : Int)] (four_src Try.underlying22 [.int .u8 92, .int .u8 (x.toNat : Int)] _ (by simp [Value.oneCell'])) (by rw [bc_length]; omega) (by simp; omega) ?_; intro v6 w6 hown6 hgr6 hsz6)
                  go_roundw
                  case rel => exact ⟨j + 1, by omega, by go_num, by rw [HE.out, ← List.append_assoc, bc_append, HEE.out]; exact hown6, hbel.trans ((((Gr.refl _ _).alloc _).trans hgr6).below hownj.lt hszb)⟩
                  case measure => simp [intOf]; omega
              · have hee : bc (escB x) = [.int .u8 (x.toNat : Int)] := by rw [e]; rfl
                have HEE := Lib.hid hee
                have t1 : ((x.toNat : Int) == 46) = false := by simp; omega
                have t2 : ((x.toNat : Int) == 92) = false := by simp; omega
                have t3 : decide (33 ≤ (x.toNat : Int)) = true := by simp; omega
                have t4 : decide ((x.toNat : Int) ≤ 126) = true := by simp; omega
                clear hee e
                go_wp2_with (at_builtin; refine wpList_app _ rfl _ _ _ _ rfl w.heap.size 5 i0 (.int .u8 0) 1 Try.underlying22 hi hz0 hz1 hz2 rfl (Nat.le_refl _) _ _ (hownj.alloc _) rfl 1 [.int .u8 (x.toNat : Int)] (one_src Try.underlying22 _ rfl) (by rw [bc_length]; omega) (by simp; omega) ?_; intro v6 w6 hown6 hgr6 hsz6)
                go_roundw
                case rel => exact ⟨j + 1, by omega, by go_num, by rw [HE.out, ← List.append_assoc, bc_append, HEE.out]; exact hown6, hbel.trans ((((Gr.refl _ _).alloc _).trans hgr6).below hownj.lt hszb)⟩
                case measure => simp [intOf]; omega
              · have hee : bc (escB x) = [.int .u8 92, .int .u8 (48 + (x.toNat : Int) / 100), .int .u8 (48 + (x.toNat : Int) / 10 % 10), .int .u8 (48 + (x.toNat : Int) % 10)] := by rw [e, esc_cells]
                have HEE := Lib.hid hee
                have hn1 : x.toNat ≠ 46 := by omega
                have hn2 : x.toNat ≠ 92 := by omega
                have t1 : ((x.toNat : Int) == 46) = false := by simp; omega
                have t2 : ((x.toNat : Int) == 92) = false := by simp; omega
                clear hee e hn1 hn2
                by_cases hx33 : 33 ≤ x.toNat
                · have t3 : decide (33 ≤ (x.toNat : Int)) = true := by simp; omega
                  have t4 : decide ((x.toNat : Int) ≤ 126) = false := by simp; omega
                  go_wp2_with (at_builtin; refine wpList_app _ rfl _ _ _ _ rfl w.heap.size 5 i0 (.int .u8 0) 1 Try.underlying22 hi hz0 hz1 hz2 rfl (Nat.le_refl _) _ _ (hownj.alloc _) rfl 4 [.int .u8 92, .int .u8 (48 + (x.toNat : Int) / 100), .int .u8 (48 + (x.toNat : Int) / 10 % 10), .int .u8 (48 + (x.toNat : Int) % 10)] (four_src Try.underlying22 [.int .u8 92, .int .u8 (48 + (x.toNat : Int) / 100), .int .u8 (48 + (x.toNat : Int) / 10 % 10), .int .u8 (48 + (x.toNat : Int) % 10)] _ (by simp [Value.oneCell'])) (by rw [bc_length]; omega) (by simp; omega) ?_; intro v6 w6 hown6 hgr6 hsz6)
                  go_roundw
                  case rel => exact ⟨j + 1, by omega, by go_num, by rw [HE.out, ← List.append_assoc, bc_append, HEE.out]; exact hown6, hbel.trans ((((Gr.refl _ _).alloc _).trans hgr6).below hownj.lt hszb)⟩
                  case measure => simp [intOf]; omega
                · have t3 : decide (33 ≤ (x.toNat : Int)) = false := by simp; omega
                  go_wp2_with (at_builtin; refine wpList_app _ rfl _ _ _ _ rfl w.heap.size 5 i0 (.int .u8 0) 1 Try.underlying22 hi hz0 hz1 hz2 rfl (Nat.le_refl _) _ _ (hownj.alloc _) rfl 4 [.int .u8 92, .int .u8 (48 + (x.toNat : Int) / 100), .int .u8 (48 + (x.toNat : Int) / 10 % 10), .int .u8 (48 + (x.toNat : Int) % 10)] (four_src Try.underlying22 [.int .u8 92, .int .u8 (48 + (x.toNat : Int) / 100), .int .u8 (48 + (x.toNat : Int) / 10 % 10), .int .u8 (48 + (x.toNat : Int) % 10)] _ (by simp [Value.oneCell'])) (by rw [bc_length]; omega) (by simp; omega) ?_; intro v6 w6 hown6 hgr6 hsz6)
                  go_roundw
                  case rel => exact ⟨j + 1, by omega, by go_num, by rw [HE.out, ← List.append_assoc, bc_append, HEE.out]; exact hown6, hbel.trans ((((Gr.refl _ _).alloc _).trans hgr6).below hownj.lt hszb)⟩
                  case measure => simp [intOf]; omega
            · have hjl2 : j = l.length := by omega
              subst hjl2
              rw [List.take_length, ← HT.out] at hownj
              go_wp2_with fail
              go_roundw
              case rel => exact ⟨k + 1, by omega, by go_num, hownj, hbel⟩
              case measure => simp [intOf]; omega
      · have : k = n.length := by omega
        subst this
        rw [List.take_length] at hown
        obtain ⟨A4, c4, rfl, hl4, r4⟩ := hown.form7 (tjoin n).length (by simp)
        have hcv := conv_bs (P := Try.prog) wr 22 5 9 A4 c4 wr.heap.size (tjoin n) Try.underlying22 Try.underlying5 Try.underlying9 r4
        clear hown
        go_wp2_with fail
        go_ret2
        exact ⟨by rw [HTX.out]; rfl, hbel⟩
end Go.Proofs.Ytnfgcfljjmjmpaa
