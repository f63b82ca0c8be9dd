/-
  dns: what is read is written over; messages are read as the reference reads them.
-/
import Derived.Test.YtmhehgalfmdldaaDnsRc
import Derived.Test.YtmhehgalfmdldaaDnsE
import Derived.Test.YtmhehgalfmdldaaRefC
set_option linter.unusedVariables false
set_option linter.unusedSimpArgs false
namespace Go.Proofs.Ytmhehgalfmdldaa
open Go.RowKit
theorem size_mem {n : List (List UInt8)} {k : Nat} (h : sizeN n ≤ k) : ∀ x ∈ n, x.length ≤ k := by
  induction n with
  | nil => intro x hx; cases hx
  | cons a n ih =>
    simp only [sizeN] at h
    intro x hx
    rcases List.mem_cons.1 hx with rfl | hx
    · omega
    · exact ih (by omega) x hx
set_option maxRecDepth 100000 in
set_option maxHeartbeats 400000 in
theorem names_at (A1 A2 : Option Addr) (c1 c2 L1 L2 : Nat) (a b : List (List UInt8)) (w : World) (B : Nat) (hL1 : a.length = L1) (hL2 : b.length = L2) (h1 : NRd w B A1 c1 a) (h2 : NRd w B A2 c2 b) :
    Calls Try.prog 66 #[.slice A1 L1 c1, .slice A2 L2 c2] w fun e w' => e = .returned (.bool (decide (a = b))) ∧ ∃ q, w' = w.drewN q := by
  subst hL1 hL2
  have hc := rcmp_any A1 A2 c1 c2 a b w B h1.1 h2.1 (Nat.le_trans (len_le_size a) h1.2.2) (Nat.le_trans (len_le_size b) h2.2.2) (size_mem h1.2.2) (size_mem h2.2.2)
  have hb : decide (a = b) = (cmpN a b == 0) := by
    rw [Bool.eq_iff_iff]; simp [cmpN_eq]
  rw [hb]
  have HC := Lib.hid hc
  clear hc hb h1 h2
  go_enter Try.func66, Try.ntmps66
  go_wp2_with (go_at_call 87; refine HC.out.mono ?_; rintro e w1 ⟨rfl, q, rfl⟩)
  go_ret
  exact ⟨rfl, q, rfl⟩
set_option maxRecDepth 100000 in
set_option maxHeartbeats 16000000 in
theorem fsameR_at (x y : RR) (w : World) (hx : RRd w w.heap.size x) (hy : RRd w w.heap.size y) :
    Calls Try.prog 83 #[.agg x.cells.toArray, .agg y.cells.toArray] w fun e w' => e = .returned (.bool (sameR x.r y.r)) ∧ Below w.heap.size w w' := by
  obtain ⟨b1, hb1⟩ : ∃ b, b = decide (x.r.q.ty = y.r.q.ty) := ⟨_, rfl⟩
  obtain ⟨b2, hb2⟩ : ∃ b, b = decide (x.r.q.cl = y.r.q.cl) := ⟨_, rfl⟩
  obtain ⟨b3, hb3⟩ : ∃ b, b = decide (x.r.ttl = y.r.ttl) := ⟨_, rfl⟩
  obtain ⟨b4, hb4⟩ : ∃ b, b = decide (x.r.d = y.r.d) := ⟨_, rfl⟩
  obtain ⟨b5, hb5⟩ : ∃ b, b = decide (x.r.pr = y.r.pr) := ⟨_, rfl⟩
  obtain ⟨b6, hb6⟩ : ∃ b, b = decide (x.r.we = y.r.we) := ⟨_, rfl⟩
  obtain ⟨b7, hb7⟩ : ∃ b, b = decide (x.r.po = y.r.po) := ⟨_, rfl⟩
  obtain ⟨b8, hb8⟩ : ∃ b, b = decide (x.r.q.nm = y.r.q.nm) := ⟨_, rfl⟩
  obtain ⟨b9, hb9⟩ : ∃ b, b = decide (x.r.tg = y.r.tg) := ⟨_, rfl⟩
  have hs : sameR x.r y.r = (b1 && (b2 && (b3 && (b4 && (b5 && (b6 && (b7 && (b8 && b9)))))))) := by
    rw [hb1, hb2, hb3, hb4, hb5, hb6, hb7, hb8, hb9]
    simp only [sameR, sameQ]
    rw [Bool.eq_iff_iff]
    simp only [Bool.and_eq_true, decide_eq_true_iff]
    constructor
    · rintro ⟨⟨h1, h2, h3⟩, h4, h5, h6, h7, h8, h9⟩; exact ⟨h1, h2, h4, h5, h6, h7, h8, h3, h9⟩
    · rintro ⟨h1, h2, h4, h5, h6, h7, h8, h3, h9⟩; exact ⟨⟨h1, h2, h3⟩, h4, h5, h6, h7, h8, h9⟩
  rw [hs]
  clear hs
  have e1 : ((x.r.q.ty : Int) == (y.r.q.ty : Int)) = b1 := by rw [hb1, Bool.eq_iff_iff, beq_iff_eq, decide_eq_true_iff]; omega
  have e2 : ((x.r.q.cl : Int) == (y.r.q.cl : Int)) = b2 := by rw [hb2, Bool.eq_iff_iff, beq_iff_eq, decide_eq_true_iff]; omega
  have e3 : ((x.r.ttl : Int) == (y.r.ttl : Int)) = b3 := by rw [hb3, Bool.eq_iff_iff, beq_iff_eq, decide_eq_true_iff]; omega
  have e4 : (x.r.d == y.r.d) = b4 := by rw [hb4, Bool.eq_iff_iff, beq_iff_eq, decide_eq_true_iff]
  have e5 : ((x.r.pr : Int) == (y.r.pr : Int)) = b5 := by rw [hb5, Bool.eq_iff_iff, beq_iff_eq, decide_eq_true_iff]; omega
  have e6 : ((x.r.we : Int) == (y.r.we : Int)) = b6 := by rw [hb6, Bool.eq_iff_iff, beq_iff_eq, decide_eq_true_iff]; omega
  have e7 : ((x.r.po : Int) == (y.r.po : Int)) = b7 := by rw [hb7, Bool.eq_iff_iff, beq_iff_eq, decide_eq_true_iff]; omega
  have HX := Lib.hid hx
  have HY := Lib.hid hy
  have h1 := below_two w
  have K8 := Lib.hid (fun (w2 : World) (h : Below w.heap.size w w2) => (show Calls Try.prog 66 #[.slice x.A x.r.q.nm.length x.c, .slice y.A y.r.q.nm.length y.c] w2 fun e w' => e = .returned (.bool b8) ∧ ∃ q, w' = w2.drewN q by rw [hb8]; exact names_at _ _ _ _ _ _ _ _ w2 w2.heap.size rfl rfl ((HX.out.1.1.below h).more h.size) ((HY.out.1.1.below h).more h.size)))
  have K9 := Lib.hid (fun (w2 : World) (h : Below w.heap.size w w2) => (show Calls Try.prog 66 #[.slice x.tA x.r.tg.length x.tc, .slice y.tA y.r.tg.length y.tc] w2 fun e w' => e = .returned (.bool b9) ∧ ∃ q, w' = w2.drewN q by rw [hb9]; exact names_at _ _ _ _ _ _ _ _ w2 w2.heap.size rfl rfl ((HX.out.2.2.1.below h).more h.size) ((HY.out.2.2.1.below h).more h.size)))
  obtain ⟨W, hW⟩ : ∃ W, W = (w.alloc (.cells x.cells.toArray 113)).alloc (.cells y.cells.toArray 113) := ⟨_, rfl⟩
  have hBW : Below w.heap.size w W := by rw [hW]; exact h1 _ _
  have k1 := conv_bs (P := Try.prog) W 22 5 9 x.dA x.dc W.heap.size x.r.d Try.underlying22 Try.underlying5 Try.underlying9 ((hx.2.1.1.below hBW).more hBW.size)
  have k2 := conv_bs (P := Try.prog) W 22 5 9 y.dA y.dc W.heap.size y.r.d Try.underlying22 Try.underlying5 Try.underlying9 ((hy.2.1.1.below hBW).more hBW.size)
  have v1 : Vx W w.heap.size 113 x.cells := by rw [hW]; exact (vx_two (Below.refl _ _)).1
  have v2 : Vx W (w.heap.size + 1) 113 y.cells := by rw [hW]; exact (vx_two (Below.refl _ _)).2
  obtain ⟨c0, c1, c2, c3, c4, c5, c6, c7, c8⟩ := v1.c9
  obtain ⟨d0, d1, d2, d3, d4, d5, d6, d7, d8⟩ := v2.c9
  have HW := Lib.hid hW
  clear hx hy hb1 hb2 hb3 hb4 hb5 hb6 hb7 hb8 hb9 v1 v2 hW h1
  go_enter Try.func83, Try.ntmps83
  go_upto_region 1 with fail
  rw [← HW.out]
  go_wp2_with (first
    | (go_at_call 66
       refine (K9.out _ (bl_drewN hBW q8)).mono ?_
       rintro e w3 ⟨rfl, q9, rfl⟩)
    | (go_at_call 66
       refine (K8.out _ hBW).mono ?_
       rintro e w2 ⟨rfl, q8, rfl⟩))
  all_goals go_ret
  all_goals refine ⟨ret_bool ?_, by first | exact hBW | exact bl_drewN hBW _ | exact bl_drewN (bl_drewN hBW _) _⟩
  all_goals clear HX HY K8 K9 k1 k2 HW hBW c0 c1 c2 c3 c4 c5 c6 c7 c8 d0 d1 d2 d3 d4 d5 d6 d7 d8 e1 e2 e3 e4 e5 e6 e7
  all_goals simp_all
set_option maxRecDepth 100000 in
set_option maxHeartbeats 16000000 in
theorem fsameRs_at (A A2 : Option Addr) (c c2 n m : Nat) (l k : List RR) (w : World) (h : RsRd w w.heap.size A c n l) (h2 : RsRd w w.heap.size A2 c2 m k) :
    Calls Try.prog 59 #[.slice A n c, .slice A2 m c2] w fun e w' => e = .returned (.bool (allEq (fun x y : RR => sameR x.r y.r) l k)) ∧ Below w.heap.size w w' := by
  have hn := h.2.1
  have hn' := h.2.2.2.1
  have hm := h2.2.1
  have hm' := h2.2.2.2.1
  have H := Lib.hid h
  have H2 := Lib.hid h2
  clear h h2
  by_cases hnm : n = m
  · subst hnm
    go_enter Try.func59, Try.ntmps59
    go_wp2_with fail
    go_loopw [5] (fun i wr => ∃ j : Nat, j ≤ n ∧ i = .int .i64 j ∧ Hid (∀ i (h1 : i < l.length) (h2 : i < k.length), i < j → sameR l[i].r k[i].r = true) ∧ Below w.heap.size w wr) (fun i _ => n - (intOf i).toNat)
    case atStart => exact ⟨0, Nat.zero_le _, rfl, Lib.hid (fun _ _ _ h => by omega), Below.refl _ _⟩
    case round =>
      obtain ⟨j, hj, rfl, HA, hbel⟩ := hrel
      rcases Nat.lt_or_ge j n with hlt | hge
      · have hl1 : j < l.length := by omega
        have hl2 : j < k.length := by omega
        obtain ⟨b, o, rfl, hb1, hc⟩ := (H.out.below hbel).at_ hlt
        obtain ⟨c0, c1, c2, c3, c4, c5, c6, c7, c8⟩ := (hc hl1).cells
        obtain ⟨b', o', rfl, hb2, hc'⟩ := (H2.out.below hbel).at_ hlt
        obtain ⟨d0, d1, d2, d3, d4, d5, d6, d7, d8⟩ := (hc' hl2).cells
        have hsz := hbel.size
        have hbl1 : b < wr.heap.size := by omega
        have hbl2 : b' < wr.heap.size := by omega
        have HX := Lib.hid (((H.out.below hbel).2.2.2.2 l[j] (List.getElem_mem hl1)).more hbel.size)
        have HY := Lib.hid (((H2.out.below hbel).2.2.2.2 k[j] (List.getElem_mem hl2)).more hbel.size)
        have hjn : (j : Int) < (n : Int) := by omega
        clear hc hc' hsz hb1 hb2
        have K := Lib.hid (fsameR_at l[j] k[j] wr.drew HX.out HY.out)
        go_upto_region 6 with fail
        go_region_with (go_at_call 83; refine K.out.mono ?_; rintro e w2 ⟨rfl, hb2⟩; have hB : Below w.heap.size w w2 := hbel.trans (((Below.refl wr.heap.size wr).drew.trans hb2).mono hbel.size))
        all_goals
          go_wp2_with fail
          · have hh : (!sameR l[j].r k[j].r) = true := by assumption
            have hf : sameR l[j].r k[j].r = false := by simpa using hh
            go_ret
            exact ⟨ret_bool (allEq_hit (f := fun x y : RR => sameR x.r y.r) hl1 hl2 hf).symm, hB⟩
          · have hh : (!sameR l[j].r k[j].r) = false := by assumption
            have hf : sameR l[j].r k[j].r = true := by simpa using hh
            go_roundw
            case rel =>
              refine ⟨j + 1, by omega, by go_num, Lib.hid (fun i p q hi => ?_), hB⟩
              rcases Nat.lt_or_ge i j with h | h
              · exact HA.out i p q h
              · have : i = j := by omega
                subst this
                exact hf
            case measure => simp [intOf]; omega
      · have hjn : j = n := by omega
        have hjn' : (n : Int) ≤ (j : Int) := by omega
        go_wp2_with fail
        go_ret
        refine ⟨ret_bool ?_, hbel⟩
        exact ((allEq_all (fun x y : RR => sameR x.r y.r) l k).2 ⟨by omega, fun i p q => HA.out i p q (by omega)⟩).symm
  · have hne : ((n : Int) != (m : Int)) = true := by rw [bne_iff_ne]; omega
    go_enter Try.func59, Try.ntmps59
    go_wp2_with fail
    go_ret
    refine ⟨ret_bool ?_, Below.refl _ _⟩
    exact (allEq_len (fun x y : RR => sameR x.r y.r) l k (by omega)).symm
theorem allEq_take {α : Type} {f : α → α → Bool} {l k : List α} {n : Nat} (hl : l.length = n) (hk : k.length = n) (h : ∀ i (h1 : i < l.length) (h2 : i < k.length), i < n → f l[i] k[i] = true) : allEq f l k = true :=
  (allEq_all f l k).2 ⟨by omega, fun i p q => h i p q (by omega)⟩
set_option maxRecDepth 100000 in
set_option maxHeartbeats 16000000 in
theorem fsame_at (x y : MR) (w : World) (hx : MRd w w.heap.size x) (hy : MRd w w.heap.size y) :
    Calls Try.prog 37 #[.agg x.cells.toArray, .agg y.cells.toArray] w fun e w' => e = .returned (.bool (sameM x.m y.m)) ∧ Below w.heap.size w w' := by
  obtain ⟨b1, hb1⟩ : ∃ b, b = decide (x.id = y.id) := ⟨_, rfl⟩
  obtain ⟨b2, hb2⟩ : ∃ b, b = decide (x.fl = y.fl) := ⟨_, rfl⟩
  obtain ⟨b3, hb3⟩ : ∃ b, b = allEq (fun x y : QR => sameQ x.q y.q) x.qs y.qs := ⟨_, rfl⟩
  obtain ⟨bl, hbl⟩ : ∃ b, b = decide (x.qs.length = y.qs.length) := ⟨_, rfl⟩
  obtain ⟨B, hB⟩ : ∃ B : Nat → Bool, B = fun i => allEq (fun x y : RR => sameR x.r y.r) (x.rl i) (y.rl i) := ⟨_, rfl⟩
  have hs : sameM x.m y.m = (b1 && (b2 && (b3 && (B 0 && (B 1 && B 2))))) := by
    rw [hb1, hb2, hb3, hB]
    simp only [allEq_map sameR RR.r]
    rw [allEq_map sameQ QR.q]; rfl
  rw [hs]
  clear hs
  have e1 : ((x.id : Int) != (y.id : Int)) = !b1 := by rw [hb1, Bool.eq_iff_iff, bne_iff_ne]; simp; omega
  have e2 : ((x.fl : Int) != (y.fl : Int)) = !b2 := by rw [hb2, Bool.eq_iff_iff, bne_iff_ne]; simp; omega
  have e3 : ((x.qs.length : Int) != (y.qs.length : Int)) = !bl := by rw [hbl, Bool.eq_iff_iff, bne_iff_ne]; simp; omega
  have hbl3 : bl = false → b3 = false := by
    intro h
    rw [hb3]
    exact allEq_len _ _ _ (by rw [hbl] at h; simpa using h)
  have HX := Lib.hid hx
  have HY := Lib.hid hy
  have K4 := Lib.hid (fun (i : Nat) (w2 : World) (h : Below w.heap.size w w2) => (show Calls Try.prog 59 #[.slice (x.rA i) (x.rl i).length (x.rc i), .slice (y.rA i) (y.rl i).length (y.rc i)] w2 fun e w' => e = .returned (.bool (B i)) ∧ Below w2.heap.size w2 w' by rw [hB]; exact fsameRs_at _ _ _ _ _ _ _ _ w2 (((HX.out.rl i).below h).more h.size) (((HY.out.rl i).below h).more h.size)))
  have h1 := below_two w
  have v1 : Vx ((w.alloc (.cells x.cells.toArray 77)).alloc (.cells y.cells.toArray 77)) w.heap.size 77 x.cells := (vx_two (Below.refl _ _)).1
  have v2 : Vx ((w.alloc (.cells x.cells.toArray 77)).alloc (.cells y.cells.toArray 77)) (w.heap.size + 1) 77 y.cells := (vx_two (Below.refl _ _)).2
  have HB3 := Lib.hid hb3
  have HBL := Lib.hid hbl
  have HBL3 := Lib.hid hbl3
  clear hx hy hb1 hb2 hb3 hB hbl hbl3
  have cx0 : x.cells[0]? = some (.int .u16 (x.id : Int)) := rfl
  have cx1 : x.cells[1]? = some (.int .u16 (x.fl : Int)) := rfl
  have cx2 : x.cells[2]? = some (.slice x.qA x.qs.length x.qc) := rfl
  have cy0 : y.cells[0]? = some (.int .u16 (y.id : Int)) := rfl
  have cy1 : y.cells[1]? = some (.int .u16 (y.fl : Int)) := rfl
  have cy2 : y.cells[2]? = some (.slice y.qA y.qs.length y.qc) := rfl
  go_enter Try.func37, Try.ntmps37
  go_wp2_with fail
  all_goals try (go_ret; refine ⟨ret_bool (by have := HBL3.out; simp_all), by first | exact h1 _ _⟩; done)
  have q1 : b1 = true := by assumption
  have q2 : b2 = true := by assumption
  have q3 : bl = true := by
    have hh : (!bl) = false := by assumption
    simpa using hh
  subst q1 q2 q3
  simp only [Bool.not_true]
  have hlen : x.qs.length = y.qs.length := by have := HBL.out; simpa using this.symm
  have hB0 : Below w.heap.size w ((w.alloc (.cells x.cells.toArray 77)).alloc (.cells y.cells.toArray 77)) := h1 _ _
  have V1 := Lib.hid v1
  have V2 := Lib.hid v2
  have HB0 := Lib.hid hB0
  obtain ⟨n, hn⟩ : ∃ n, n = x.qs.length := ⟨_, rfl⟩
  have HLX := Lib.hid hn.symm
  have HLY := Lib.hid (show y.qs.length = n by omega)
  have hnb : n ≤ 1000000000000 := by rw [hn]; exact HX.out.2.2.1.2.2.2.1
  clear v1 v2 hB0 cx0 cx1 cx2 cy0 cy1 cy2 HBL HBL3 e1 e2 e3 hlen h1
  rw [← hn]
  rw [HLY.out]
  go_loopw [5] (fun vi wr => ∃ j : Nat, j ≤ n ∧ vi = .int .i64 j ∧ Hid (∀ i (h1 : i < x.qs.length) (h2 : i < y.qs.length), i < j → sameQ x.qs[i].q y.qs[i].q = true) ∧ Hid (Vx wr w.heap.size 77 x.cells) ∧ Hid (Vx wr (w.heap.size + 1) 77 y.cells) ∧ Hid (Below w.heap.size w wr)) (fun i _ => n - (intOf i).toNat)
  case atStart => exact ⟨0, by omega, rfl, Lib.hid (fun i _ _ h => by omega), V1, V2, HB0⟩
  case round =>
    clear V1 V2 HB0 hn
    obtain ⟨j, hj, rfl, HA, V1, V2, HB⟩ := hrel
    have cx2 : wr.cell? ⟨w.heap.size, 2, none⟩ = some (.slice x.qA n x.qc) := by rw [V1.out.cell, ← HLX.out]; rfl
    have cy2 : wr.cell? ⟨w.heap.size + 1, 2, none⟩ = some (.slice y.qA n y.qc) := by rw [V2.out.cell, ← HLY.out]; rfl
    rcases Nat.lt_or_ge j n with hlt | hge
    · have hl1 : j < x.qs.length := by have := HLX.out; omega
      have hl2 : j < y.qs.length := by have := HLY.out; omega
      have hQ1 : QsRd wr w.heap.size x.qA x.qc n x.qs := by rw [← HLX.out]; exact HX.out.2.2.1.below HB.out
      have hQ2 : QsRd wr w.heap.size y.qA y.qc n y.qs := by rw [← HLY.out]; exact HY.out.2.2.1.below HB.out
      obtain ⟨b, o, hA1, hb1, hc⟩ := hQ1.at_ hlt
      obtain ⟨c0, c1, c2⟩ := hc hl1
      obtain ⟨b', o', hA2, hb2, hc'⟩ := hQ2.at_ hlt
      obtain ⟨d0, d1, d2⟩ := hc' hl2
      have hsz := HB.out.size
      have hbl1 : b < wr.heap.size := by omega
      have hbl2 : b' < wr.heap.size := by omega
      obtain ⟨p, hp⟩ : ∃ p, p = x.qs[j] := ⟨_, rfl⟩
      obtain ⟨q, hq⟩ : ∃ q, q = y.qs[j] := ⟨_, rfl⟩
      have hP : QRd wr wr.heap.size p := by rw [hp]; exact (hQ1.2.2.2.2 _ (List.getElem_mem hl1)).more hsz
      have hQ : QRd wr wr.heap.size q := by rw [hq]; exact (hQ2.2.2.2.2 _ (List.getElem_mem hl2)).more hsz
      have HP := Lib.hid hP
      have HQ := Lib.hid hQ
      have HPE := Lib.hid hp
      have HQE := Lib.hid hq
      rw [hA1] at cx2
      rw [hA2] at cy2
      rw [← hp] at c0 c1 c2
      rw [← hq] at d0 d1 d2
      obtain ⟨b1, hb1'⟩ : ∃ b, b = decide (p.q.ty = q.q.ty) := ⟨_, rfl⟩
      obtain ⟨b2, hb2'⟩ : ∃ b, b = decide (p.q.cl = q.q.cl) := ⟨_, rfl⟩
      obtain ⟨bn, hbn⟩ : ∃ b, b = decide (p.q.nm = q.q.nm) := ⟨_, rfl⟩
      have f1 : ((p.q.ty : Int) != (q.q.ty : Int)) = !b1 := by rw [hb1', Bool.eq_iff_iff, bne_iff_ne]; simp; omega
      have f2 : ((p.q.cl : Int) != (q.q.cl : Int)) = !b2 := by rw [hb2', Bool.eq_iff_iff, bne_iff_ne]; simp; omega
      have K5 := Lib.hid (fun (w2 : World) (h : Below wr.heap.size wr w2) => (show Calls Try.prog 66 #[.slice p.A p.q.nm.length p.c, .slice q.A q.q.nm.length q.c] w2 fun e w' => e = .returned (.bool bn) ∧ ∃ q, w' = w2.drewN q by rw [hbn]; exact names_at _ _ _ _ _ _ _ _ w2 w2.heap.size rfl rfl ((HP.out.1.below h).more h.size) ((HQ.out.1.below h).more h.size)))
      have HB1 := Lib.hid (fun (w2 : World) (h : Below wr.heap.size wr w2) => HB.out.trans (h.mono HB.out.size))
      have HS := Lib.hid (show sameQ p.q q.q = (b1 && (b2 && bn)) by rw [hb1', hb2', hbn]; rfl)
      have hjn' : (j : Int) < (n : Int) := by omega
      have hm1 := V1.out.lt
      have hm2 := V2.out.lt
      clear hc hc' hb1 hb2 hQ1 hQ2 hP hQ hp hq hA1 hA2 hb1' hb2' hbn hsz
      go_upto_region 6 with fail
      go_region
      all_goals
        go_wp2_with (go_at_call 66; refine (K5.out _ (below_two wr _ _).drew).mono ?_; rintro e w5 ⟨rfl, q5, rfl⟩)
        · have hh : (!bn) = true := by assumption
          have hh' : bn = false := by simpa using hh
          have hf : sameQ p.q q.q = false := by rw [HS.out]; simp [hh']
          have hA : b3 = false := by rw [HB3.out]; exact allEq_hit (f := fun x y : QR => sameQ x.q y.q) hl1 hl2 (by rw [← HPE.out, ← HQE.out]; exact hf)
          go_ret
          refine ⟨ret_bool (by rw [hA]; rfl), ?_⟩
          exact HB1.out _ (bl_drewN (below_two wr _ _) _)
        · have hh : (!bn) = false := by assumption
          have hbn : bn = true := by simpa using hh
          have h1 : b1 = true := by assumption
          have h2 : b2 = true := by assumption
          have hf : sameQ p.q q.q = true := by rw [HS.out, hbn]; simp [h1, h2]
          go_roundw
          case rel =>
            refine ⟨j + 1, by omega, by go_num, Lib.hid (fun i p' q' hi => ?_), Lib.hid (V1.out.below (bl_drewN (below_two wr _ _) _) hm1), Lib.hid (V2.out.below (bl_drewN (below_two wr _ _) _) hm2), Lib.hid (HB1.out _ (bl_drewN (below_two wr _ _) _))⟩
            rcases Nat.lt_or_ge i j with h | h
            · exact HA.out i p' q' h
            · have : i = j := by omega
              subst this
              rw [← HPE.out, ← HQE.out]
              exact hf
          case measure => simp [intOf]; omega
        · have hh : ¬ b2 = true := by assumption
          have hf : sameQ p.q q.q = false := by rw [HS.out]; simp [hh]
          have hA : b3 = false := by rw [HB3.out]; exact allEq_hit (f := fun x y : QR => sameQ x.q y.q) hl1 hl2 (by rw [← HPE.out, ← HQE.out]; exact hf)
          go_ret
          refine ⟨ret_bool (by rw [hA]; rfl), ?_⟩
          exact HB1.out _ (below_two wr _ _).drew
        · have hh : ¬ b1 = true := by assumption
          have hf : sameQ p.q q.q = false := by rw [HS.out]; simp [hh]
          have hA : b3 = false := by rw [HB3.out]; exact allEq_hit (f := fun x y : QR => sameQ x.q y.q) hl1 hl2 (by rw [← HPE.out, ← HQE.out]; exact hf)
          go_ret
          refine ⟨ret_bool (by rw [hA]; rfl), ?_⟩
          exact HB1.out _ (below_two wr _ _).drew
    · have hjn' : (n : Int) ≤ (j : Int) := by omega
      have hA : b3 = true := by
        rw [HB3.out]
        exact allEq_take (f := fun x y : QR => sameQ x.q y.q) HLX.out HLY.out (fun i p q h => HA.out i p q (by omega))
      subst hA
      obtain ⟨m0, m1, m2, m3, m4, m5⟩ := V1.out.c6
      obtain ⟨k0, k1, k2, k3, k4, k5⟩ := V2.out.c6
      have hm1 := V1.out.lt
      have hm2 := V2.out.lt
      have HB1 := Lib.hid (fun (w2 : World) (h : Below wr.heap.size wr w2) => HB.out.trans (h.mono HB.out.size))
      have V1x := Lib.hid (fun (w2 : World) (h : Below wr.heap.size wr w2) => (V1.out.below h hm1).c6)
      have V2x := Lib.hid (fun (w2 : World) (h : Below wr.heap.size wr w2) => (V2.out.below h hm2).c6)
      go_wp2_with (first
        | (go_at_call 59
           refine (K4.out 2 _ (HB1.out _ hw3)).mono ?_
           rintro e w4 ⟨rfl, hb4⟩
           have hw4 := hw3.trans (hb4.mono hw3.size))
        | (go_at_call 59
           refine (K4.out 1 _ (HB1.out _ hw2)).mono ?_
           rintro e w3 ⟨rfl, hb3⟩
           have hw3 := hw2.trans (hb3.mono hw2.size)
           obtain ⟨y0, y1, y2, y3, y4, y5⟩ := V1x.out _ hw3
           obtain ⟨z0, z1, z2, z3, z4, z5⟩ := V2x.out _ hw3)
        | (go_at_call 59
           refine (K4.out 0 _ HB.out).mono ?_
           rintro e w2 ⟨rfl, hw2⟩
           obtain ⟨u0, u1, u2, u3, u4, u5⟩ := V1x.out _ hw2
           obtain ⟨t0, t1, t2, t3, t4, t5⟩ := V2x.out _ hw2))
      all_goals go_ret
      all_goals refine ⟨ret_bool ?_, by first | exact HB1.out _ hw4 | exact HB1.out _ hw3 | exact HB1.out _ hw2⟩
      all_goals simp_all
open Go.RowKit
section
variable {P : Program} {ops : Array Oper} {Q : Exit → Act → World → Prop} {md : Region.Mode} {S S' : World → Prop}
theorem reg_strong (hSS : ∀ w, S' w → S w) : ∀ (fuel : Nat) (listed : Array Bool) (a : Act) (w : World), wpAnyH P md ops Q S' fuel listed a w → wpAnyH P md ops Q S fuel listed a w
  | 0, _, _, _, h => h
  | fuel + 1, _, _, _, h => ⟨h.1, fun i hi => wpOp_mono (fun a' w' h' => ⟨hSS _ h'.1, reg_strong hSS fuel _ a' w' h'.2⟩) (h.2 i hi)⟩
def regOk (md : Region.Mode) (ops : Array Oper) (listed : Array Bool) (i : Nat) : Bool := Region.noSelect ops && Region.free md ops listed i && (Region.ready md ops listed).contains i
theorem regOk_out {listed : Array Bool} {i : Nat} (h : regOk md ops listed i = true) : Region.noSelect ops = true ∧ Region.free md ops listed i = true ∧ (Region.ready md ops listed).contains i = true := by
  unfold regOk at h
  simp only [Bool.and_eq_true] at h
  exact ⟨h.1.1, h.1.2, h.2⟩
theorem reg_at {i : Nat} {oi : Oper} {rest : List Oper} (h : ops.toList.drop i = oi :: rest) : ops[i]? = some oi := by
  have h1 : ops.toList[i]? = some oi := by
    have := List.getElem?_drop (xs := ops.toList) (i := i) (j := 0)
    rw [h] at this
    simpa using this.symm
  simpa using h1
/-- one of those that may come up -/
theorem reg_cons (i : Nat) {oi : Oper} {rest : List Oper} {fuel : Nat} {listed : Array Bool} {a : Act} {w : World} {rs : List Nat} (hi : ops.toList.drop i = oi :: rest)
    (h : ∀ K' : Act → World → Prop, Shut (∀ a w, S w → (S w → wpAnyH P md ops Q S fuel (listed.setIfInBounds i true) a w) → K' a w) → if Region.wanted oi (yielded ops a.tmps) = true then Oper.wp P oi a w K' Q else K' (a.put oi.dst undef) w)
    (hs : AllReadyH P md ops Q S fuel listed a w rs) : AllReadyH P md ops Q S fuel listed a w (i :: rs) := AllReadyH.cons (reg_at hi) h hs
/-- operation i is taken first: it yields v wherever S holds -/
theorem reg_take (i : Nat) {oi : Oper} {rest : List Oper} {v : Value} {fuel : Nat} {listed : Array Bool} {a : Act} {w : World} (hi : ops.toList.drop i = oi :: rest) (hok : regOk md ops listed i = true)
    (hQ : ∀ c a w, Q (.panic c) (a.put oi.dst v) w → Q (.panic c) a w) (hw : Region.wanted oi (yielded ops a.tmps) = true) (hS : S w) (hy : ∀ w, S w → (execOp a.eval oi).run P w = .ok (.value v) w)
    (h : wpAnyH P md ops Q S fuel (listed.setIfInBounds i true) (a.put oi.dst v) w) : wpAnyH P md ops Q S (fuel + 1) listed a w :=
  wpAnyH_take (reg_at hi) (regOk_out hok).1 (regOk_out hok).2.1 (regOk_out hok).2.2 hQ (.inl ⟨hw, hy⟩) hS h
/-- operation i is not wanted -/
theorem reg_skip (i : Nat) {oi : Oper} {rest : List Oper} {fuel : Nat} {listed : Array Bool} {a : Act} {w : World} (hi : ops.toList.drop i = oi :: rest) (hok : regOk md ops listed i = true)
    (hQ : ∀ c a w, Q (.panic c) (a.put oi.dst undef) w → Q (.panic c) a w) (hw : Region.wanted oi (yielded ops a.tmps) = false) (hS : S w)
    (h : wpAnyH P md ops Q S fuel (listed.setIfInBounds i true) (a.put oi.dst undef) w) : wpAnyH P md ops Q S (fuel + 1) listed a w :=
  wpAnyH_take (reg_at hi) (regOk_out hok).1 (regOk_out hok).2.1 (regOk_out hok).2.2 hQ (.inr ⟨hw, rfl⟩) hS h
/-- a whole struct is loaded -/
theorem reg_load (i : Nat) {oi : Oper} {rest : List Oper} {fuel : Nat} {listed : Array Bool} {a : Act} {w : World} (hi : ops.toList.drop i = oi :: rest) (hok : regOk md ops listed i = true) (ty : TypeId) (x : Operand) (ho : oi.op = .load ty x) (g : Nat) (t : TypeId) (cs : List Value) (d : TypeDesc)
    (hQ : ∀ c a w, Q (.panic c) (a.put oi.dst (.agg cs.toArray)) w → Q (.panic c) a w) (hw : Region.wanted oi (yielded ops a.tmps) = true) (hS : S w)
    (hx : a.eval x = .pointer (some ⟨g, 0, none⟩)) (hg : ∀ w, S w → w.heap[g]? = some (.cells cs.toArray t (0, 0))) (hu : P.underlying ty = some d) (hd : (match d with | .struct _ | .array _ _ => true | _ => false) = true) (hsz : (P.info? ty).map (·.size) = some cs.toArray.size)
    (h : wpAnyH P md ops Q S fuel (listed.setIfInBounds i true) (a.put oi.dst (.agg cs.toArray)) w) : wpAnyH P md ops Q S (fuel + 1) listed a w :=
  reg_take i hi hok hQ hw hS (fun w' hS' => by
    unfold execOp
    simp only [ho, hx, Instr.loadAt, Instr.sureAddr, Sem.run_bind, Sem.run_pure, Result.andThen_ok, run_loadVar_row w' g t ty cs.toArray (0, 0) d (hg w' hS') hu hd hsz]) h
end
theorem resR1f {fn : Func} {q : Tmp} (h : fn.results = #[.cell q 113]) (tmps : Array Value) (W : World) (g : Nat) (e : TypeId) (cs : List Value) (hq : tmps[q]? = some (.pointer (some ⟨g, 0, none⟩))) (hx : Vx W g e cs) (hn : cs.length = 9) :
    (results fn tmps).run Try.prog W = .ok (.agg cs.toArray) W := by
  simp [results, h, hq, asAddr, hx.loadRf hn]
theorem resM1f {fn : Func} {q : Tmp} (h : fn.results = #[.cell q 77]) (tmps : Array Value) (W : World) (g : Nat) (e : TypeId) (cs : List Value) (hq : tmps[q]? = some (.pointer (some ⟨g, 0, none⟩))) (hx : Vx W g e cs) (hn : cs.length = 6) :
    (results fn tmps).run Try.prog W = .ok (.agg cs.toArray) W := by
  simp [results, h, hq, asAddr, hx.loadMf hn]
set_option maxRecDepth 100000 in
set_option maxHeartbeats 16000000 in
theorem turnedR_at (x : RR) (w : World) (h : RRd w w.heap.size x) (hs1 : x.r.q.nm.length * 16 ≤ 140737488351232) (hs2 : x.r.tg.length * 16 ≤ 140737488351232) :
    Calls Try.prog 58 #[.agg x.cells.toArray] w fun e w' => ∃ y : RR, y.r = x.r ∧ e = .returned (.agg y.cells.toArray) ∧ (nmO y.A y.c y.r.q.nm).ok w' w.heap.size ∧ (daO y.dA y.dc y.r.d).ok w' w.heap.size ∧ (nmO y.tA y.tc y.r.tg).ok w' w.heap.size ∧ Below w.heap.size w w' := by
  have hW : ∃ W, W = (w.alloc (.cells x.cells.toArray 49)).alloc (.cells zRR.cells.toArray 113) := ⟨_, rfl⟩
  obtain ⟨W, hW⟩ := hW
  have v1 : Vx W w.heap.size 49 x.cells := by rw [hW]; exact (vx_two (Below.refl _ _)).1
  have v2 : Vx W (w.heap.size + 1) 113 zRR.cells := by rw [hW]; exact (vx_two (Below.refl _ _)).2
  have hb : Below w.heap.size w W := by rw [hW]; exact below_two w _ _
  have hlt1 : w.heap.size < W.heap.size := v1.lt
  have hlt2 : w.heap.size + 1 < W.heap.size := v2.lt
  obtain ⟨R, hR⟩ : ∃ R, R = w.heap.size + 1 := ⟨_, rfl⟩
  rw [← hR] at v2 hlt2
  have hR1 : w.heap.size < R := by omega
  have HR := Lib.hid hR
  obtain ⟨A, c, dA, dc, tA, tc, ⟨⟨nm, ty, cl⟩, ttl, d, pr, we, po, tg⟩⟩ := x
  obtain ⟨⟨hn, _, _⟩, hd, ht, _⟩ := h
  simp only [RR.qr] at hn hd ht
  have HN := Lib.hid hn
  have HD := Lib.hid hd
  have HT := Lib.hid ht
  have HW := Lib.hid hW
  have V1 : Vx W w.heap.size 49 [.slice A nm.length c, .int .u16 (ty : Int), .int .u16 (cl : Int), .int .u32 (ttl : Int), .slice dA d.length dc, .int .u16 (pr : Int), .int .u16 (we : Int), .int .u16 (po : Int), .slice tA tg.length tc] := v1
  obtain ⟨c0, c1, c2, c3, c4, c5, c6, c7, c8⟩ := V1.c9
  simp only at hs1 hs2
  have K1 := Lib.hid (sclone_at W.drew A c nm.length nm rfl ((hn.1.below hb).more hb.size) (by omega))
  have VX := Lib.hid V1
  have v2' : Vx W R 113 [.slice none 0 0, .int .u16 0, .int .u16 0, .int .u32 0, .slice none 0 0, .int .u16 0, .int .u16 0, .int .u16 0, .slice none 0 0] := v2
  have VR := Lib.hid v2'
  clear v2 v2'
  clear hn hd ht hW hR v1 V1
  unfold RR.cells
  simp only
  go_enter Try.func58, Try.ntmps58
  go_upto_region 1 with fail
  rw [← HR.out]
  generalize hW2 : World.alloc (World.alloc w _) _ = W2
  have eW : W2 = W := hW2.symm.trans HW.out.symm
  clear hW2
  subst eW
  have hbd : Below W2.heap.size W2 W2.drew := (Below.refl _ _).drew
  refine wp_region_held_drew (S := fun w' => w'.cell? ⟨w.heap.size, 0, none⟩ = some (.slice A nm.length c) ∧ w'.cell? ⟨w.heap.size, 1, none⟩ = some (.int .u16 (ty : Int)) ∧ w'.cell? ⟨w.heap.size, 2, none⟩ = some (.int .u16 (cl : Int)) ∧ w'.cell? ⟨w.heap.size, 3, none⟩ = some (.int .u32 (ttl : Int)) ∧ w'.cell? ⟨w.heap.size, 4, none⟩ = some (.slice dA d.length dc) ∧ w'.cell? ⟨w.heap.size, 5, none⟩ = some (.int .u16 (pr : Int)) ∧ w'.cell? ⟨w.heap.size, 6, none⟩ = some (.int .u16 (we : Int)) ∧ w'.cell? ⟨w.heap.size, 7, none⟩ = some (.int .u16 (po : Int)) ∧ w'.cell? ⟨w.heap.size, 8, none⟩ = some (.slice tA tg.length tc)) (by kernel_rfl) VX.out.c9 (fun hH => ?_)
  refine reg_take 0 (v := ?_) rfl (by kernel_rfl) (fun _ _ _ h => h) (by rfl) hH ?_ ?_
  rotate_left
  · intro w hSw; (try dsimp only at hSw); go_simp; (try with_reducible rfl)
  (try simp only [Act.put, List.setIfInBounds_toArray, List.set_cons_zero, List.set_cons_succ])
  refine reg_take 1 (v := ?_) rfl (by kernel_rfl) (fun _ _ _ h => h) (by rfl) hH ?_ ?_
  rotate_left
  · intro w hSw; (try dsimp only at hSw); go_simp; (try with_reducible rfl)
  (try simp only [Act.put, List.setIfInBounds_toArray, List.set_cons_zero, List.set_cons_succ])
  refine reg_take 2 (v := ?_) rfl (by kernel_rfl) (fun _ _ _ h => h) (by rfl) hH ?_ ?_
  rotate_left
  · intro w hSw; (try dsimp only at hSw); go_simp; (try with_reducible rfl)
  (try simp only [Act.put, List.setIfInBounds_toArray, List.set_cons_zero, List.set_cons_succ])
  refine reg_take 4 (v := ?_) rfl (by kernel_rfl) (fun _ _ _ h => h) (by rfl) hH ?_ ?_
  rotate_left
  · intro w hSw; (try dsimp only at hSw); go_simp; (try with_reducible rfl)
  (try simp only [Act.put, List.setIfInBounds_toArray, List.set_cons_zero, List.set_cons_succ])
  refine reg_take 5 (v := ?_) rfl (by kernel_rfl) (fun _ _ _ h => h) (by rfl) hH ?_ ?_
  rotate_left
  · intro w hSw; (try dsimp only at hSw); go_simp; (try with_reducible rfl)
  (try simp only [Act.put, List.setIfInBounds_toArray, List.set_cons_zero, List.set_cons_succ])
  refine reg_take 6 (v := ?_) rfl (by kernel_rfl) (fun _ _ _ h => h) (by rfl) hH ?_ ?_
  rotate_left
  · intro w hSw; (try dsimp only at hSw); go_simp; (try with_reducible rfl)
  (try simp only [Act.put, List.setIfInBounds_toArray, List.set_cons_zero, List.set_cons_succ])
  refine reg_take 7 (v := ?_) rfl (by kernel_rfl) (fun _ _ _ h => h) (by rfl) hH ?_ ?_
  rotate_left
  · intro w hSw; (try dsimp only at hSw); go_simp; (try with_reducible rfl)
  (try simp only [Act.put, List.setIfInBounds_toArray, List.set_cons_zero, List.set_cons_succ])
  refine reg_take 8 (v := ?_) rfl (by kernel_rfl) (fun _ _ _ h => h) (by rfl) hH ?_ ?_
  rotate_left
  · intro w hSw; (try dsimp only at hSw); go_simp; (try with_reducible rfl)
  (try simp only [Act.put, List.setIfInBounds_toArray, List.set_cons_zero, List.set_cons_succ])
  refine reg_take 9 (v := ?_) rfl (by kernel_rfl) (fun _ _ _ h => h) (by rfl) hH ?_ ?_
  rotate_left
  · intro w hSw; (try dsimp only at hSw); go_simp; (try with_reducible rfl)
  (try simp only [Act.put, List.setIfInBounds_toArray, List.set_cons_zero, List.set_cons_succ])
  refine reg_take 11 (v := ?_) rfl (by kernel_rfl) (fun _ _ _ h => h) (by rfl) hH ?_ ?_
  rotate_left
  · intro w hSw; (try dsimp only at hSw); go_simp; (try with_reducible rfl)
  (try simp only [Act.put, List.setIfInBounds_toArray, List.set_cons_zero, List.set_cons_succ])
  refine reg_take 12 (v := ?_) rfl (by kernel_rfl) (fun _ _ _ h => h) (by rfl) hH ?_ ?_
  rotate_left
  · intro w hSw; (try dsimp only at hSw); go_simp; (try with_reducible rfl)
  (try simp only [Act.put, List.setIfInBounds_toArray, List.set_cons_zero, List.set_cons_succ])
  refine reg_take 13 (v := ?_) rfl (by kernel_rfl) (fun _ _ _ h => h) (by rfl) hH ?_ ?_
  rotate_left
  · intro w hSw; (try dsimp only at hSw); go_simp; (try with_reducible rfl)
  (try simp only [Act.put, List.setIfInBounds_toArray, List.set_cons_zero, List.set_cons_succ])
  refine reg_take 14 (v := ?_) rfl (by kernel_rfl) (fun _ _ _ h => h) (by rfl) hH ?_ ?_
  rotate_left
  · intro w hSw; (try dsimp only at hSw); go_simp; (try with_reducible rfl)
  (try simp only [Act.put, List.setIfInBounds_toArray, List.set_cons_zero, List.set_cons_succ])
  refine reg_take 16 (v := ?_) rfl (by kernel_rfl) (fun _ _ _ h => h) (by rfl) hH ?_ ?_
  rotate_left
  · intro w hSw; (try dsimp only at hSw); go_simp; (try with_reducible rfl)
  (try simp only [Act.put, List.setIfInBounds_toArray, List.set_cons_zero, List.set_cons_succ])
  refine reg_take 17 (v := ?_) rfl (by kernel_rfl) (fun _ _ _ h => h) (by rfl) hH ?_ ?_
  rotate_left
  · intro w hSw; (try dsimp only at hSw); go_simp; (try with_reducible rfl)
  (try simp only [Act.put, List.setIfInBounds_toArray, List.set_cons_zero, List.set_cons_succ])
  refine reg_take 18 (v := ?_) rfl (by kernel_rfl) (fun _ _ _ h => h) (by rfl) hH ?_ ?_
  rotate_left
  · intro w hSw; (try dsimp only at hSw); go_simp; (try with_reducible rfl)
  (try simp only [Act.put, List.setIfInBounds_toArray, List.set_cons_zero, List.set_cons_succ])
  refine reg_take 19 (v := ?_) rfl (by kernel_rfl) (fun _ _ _ h => h) (by rfl) hH ?_ ?_
  rotate_left
  · intro w hSw; (try dsimp only at hSw); go_simp; (try with_reducible rfl)
  (try simp only [Act.put, List.setIfInBounds_toArray, List.set_cons_zero, List.set_cons_succ])
  refine reg_take 20 (v := ?_) rfl (by kernel_rfl) (fun _ _ _ h => h) (by rfl) hH ?_ ?_
  rotate_left
  · intro w hSw; (try dsimp only at hSw); go_simp; (try with_reducible rfl)
  (try simp only [Act.put, List.setIfInBounds_toArray, List.set_cons_zero, List.set_cons_succ])
  refine reg_take 21 (v := ?_) rfl (by kernel_rfl) (fun _ _ _ h => h) (by rfl) hH ?_ ?_
  rotate_left
  · intro w hSw; (try dsimp only at hSw); go_simp; (try with_reducible rfl)
  (try simp only [Act.put, List.setIfInBounds_toArray, List.set_cons_zero, List.set_cons_succ])
  refine reg_take 22 (v := ?_) rfl (by kernel_rfl) (fun _ _ _ h => h) (by rfl) hH ?_ ?_
  rotate_left
  · intro w hSw; (try dsimp only at hSw); go_simp; (try with_reducible rfl)
  (try simp only [Act.put, List.setIfInBounds_toArray, List.set_cons_zero, List.set_cons_succ])
  refine reg_take 23 (v := ?_) rfl (by kernel_rfl) (fun _ _ _ h => h) (by rfl) hH ?_ ?_
  rotate_left
  · intro w hSw; (try dsimp only at hSw); go_simp; (try with_reducible rfl)
  (try simp only [Act.put, List.setIfInBounds_toArray, List.set_cons_zero, List.set_cons_succ])
  refine wpAnyH_ready (rs := [3]) (by kernel_rfl) (by simp) ?_
  refine reg_cons _ rfl (fun K' hK => ?_) AllReadyH.nil
  go_simp
  go_at_call 53
  refine K1.out.mono ?_
  rintro e w3 ⟨v3, rfl, ho3, hb3'⟩
  obtain ⟨A3, c3, rfl, hl3, _⟩ := Ow.form7 ho3 nm.length (by simp)
  have hb3 := hbd.trans hb3'
  (try dsimp only)
  refine hK.out _ _ (VX.out.below hb3 VX.out.lt).c9 (fun hH => ?_)
  (try simp only [Act.put, List.setIfInBounds_toArray, List.set_cons_zero, List.set_cons_succ])
  clear hK
  refine reg_take 10 (v := ?_) rfl (by kernel_rfl) (fun _ _ _ h => h) (by rfl) hH ?_ ?_
  rotate_left
  · intro w hSw; (try dsimp only at hSw); go_simp; (try with_reducible rfl)
  (try simp only [Act.put, List.setIfInBounds_toArray, List.set_cons_zero, List.set_cons_succ])
  refine wpAnyH_ready (rs := [15]) (by kernel_rfl) (by simp) ?_
  refine reg_cons _ rfl (fun K' hK => ?_) AllReadyH.nil
  go_simp
  go_at_call 31
  refine (bclone_at dA dc d.length d w3 w3.heap.size rfl (Nat.le_refl _) (((HD.out.1.below hb).below (hb3.mono hb.size)).more (Nat.le_trans hb.size hb3.size)) (by have := HD.out.2.2; omega)).mono ?_
  rintro e w4 ⟨v4, rfl, ho4, hb4'⟩
  obtain ⟨A4, c4, rfl, hl4, _⟩ := Ow.form7 ho4 d.length (by simp)
  have hb4 := hb3.trans (hb4'.mono hb3.size)
  (try dsimp only)
  refine hK.out _ _ (VX.out.below hb4 VX.out.lt).c9 (fun hH => ?_)
  (try simp only [Act.put, List.setIfInBounds_toArray, List.set_cons_zero, List.set_cons_succ])
  clear hK
  refine wpAnyH_ready (rs := [24]) (by kernel_rfl) (by simp) ?_
  refine reg_cons _ rfl (fun K' hK => ?_) AllReadyH.nil
  go_simp
  go_at_call 53
  refine (sclone_at w4 tA tc tg.length tg rfl (((HT.out.1.below hb).below (hb4.mono hb.size)).more (Nat.le_trans hb.size hb4.size)) (by omega)).mono ?_
  rintro e w5 ⟨v5, rfl, ho5, hb5'⟩
  obtain ⟨A5, c5, rfl, hl5, _⟩ := Ow.form7 ho5 tg.length (by simp)
  have hb5 := hb4.trans (hb5'.mono hb4.size)
  (try dsimp only)
  refine hK.out _ _ (VX.out.below hb5 VX.out.lt).c9 (fun hH => ?_)
  (try simp only [Act.put, List.setIfInBounds_toArray, List.set_cons_zero, List.set_cons_succ])
  clear hK
  refine reg_take 25 (v := ?_) rfl (by kernel_rfl) (fun _ _ _ h => h) (by rfl) hH ?_ ?_
  rotate_left
  · intro w hSw; (try dsimp only at hSw); go_simp; (try with_reducible rfl)
  (try simp only [Act.put, List.setIfInBounds_toArray, List.set_cons_zero, List.set_cons_succ])
  have vr := VR.out.below hb5 VR.out.lt
  have hlR := VX.out.lt
  refine wpAnyH_ready (rs := [26]) (by kernel_rfl) (by simp) ?_
  refine reg_cons _ rfl (fun K' hK => ?_) AllReadyH.nil
  rw [if_pos (by rfl)]
  refine wp_store_row 113 _ _ (by rfl) R #[.slice A3 nm.length c3, .int .u16 (ty : Int), .int .u16 (cl : Int), .int .u32 (ttl : Int), .slice A4 d.length c4, .int .u16 (pr : Int), .int .u16 (we : Int), .int .u16 (po : Int), .slice A5 tg.length c5] (by rfl) (by rfl) _ _ vr (by kernel_rfl) rfl (by kernel_rfl) ?_
  have hO : Only w5 (w5.setRow R #[.slice A3 nm.length c3, .int .u16 (ty : Int), .int .u16 (cl : Int), .int .u32 (ttl : Int), .slice A4 d.length c4, .int .u16 (pr : Int), .int .u16 (we : Int), .int .u16 (po : Int), .slice A5 tg.length c5]) R := Only.row _ _ _
  have hV9 : Vx (w5.setRow R #[.slice A3 nm.length c3, .int .u16 (ty : Int), .int .u16 (cl : Int), .int .u32 (ttl : Int), .slice A4 d.length c4, .int .u16 (pr : Int), .int .u16 (we : Int), .int .u16 (po : Int), .slice A5 tg.length c5]) R 113 (RR.cells ⟨A3, c3, A4, c4, A5, c5, ⟨⟨nm, ty, cl⟩, ttl, d, pr, we, po, tg⟩⟩) := vr.row (RR.cells ⟨A3, c3, A4, c4, A5, c5, ⟨⟨nm, ty, cl⟩, ttl, d, pr, we, po, tg⟩⟩)
  refine hK.out _ _ (((VX.out.below hb5 VX.out.lt).rowO (by omega) _).c9) (fun hH => ?_)
  clear hK
  refine wpAnyH_done (by kernel_rfl) ?_ _
  go_wp2_with fail
  refine bodyPost_ret (resR1f Try.results58 _ _ R _ _ rfl hV9 rfl) rfl ?_
  have hle : w.heap.size ≤ W2.heap.size := hb.size
  have hle3 : w.heap.size ≤ w3.heap.size := by have := hb3.size; omega
  have hle4 : w.heap.size ≤ w4.heap.size := by have := hb4.size; omega
  have hn3 : (nmO A3 c3 nm).ok w3 W2.heap.size := ho3
  have hn4 : (daO A4 c4 d).ok w4 w3.heap.size := ho4
  have hn5 : (nmO A5 c5 tg).ok w5 w4.heap.size := ho5
  have h3 : (nmO A3 c3 nm).ok w5 W2.heap.size := (hn3.far hb4').far hb5'
  have h4 : (daO A4 c4 d).ok w5 w3.heap.size := hn4.far hb5'
  exact ⟨⟨A3, c3, A4, c4, A5, c5, ⟨⟨nm, ty, cl⟩, ttl, d, pr, we, po, tg⟩⟩, rfl, rfl, OwM.mono (h3.only hO hlt2) hle, OwM.mono (h4.only hO (by have := hb3.size; omega)) hle3, OwM.mono (hn5.only hO (by have := hb4.size; omega)) hle4, (hb.trans (hb5.mono hb.size)).trans (hO.below (by omega) (by have := hb5.size; omega))⟩
/-- where the turning stands: the argument's block, the result's, the message's -/
structure Tf (w0 w : World) (R M base : Nat) (bx mc : List Value) : Prop where
  vb : Vx w w0.heap.size 30 bx
  vr : Vx w R 77 zM6
  vm : Vx w M 77 mc
  bl : Below w0.heap.size w0 w
  lo : w0.heap.size < R ∧ R < M
  hi : M < base ∧ base ≤ w.heap.size
section
variable {w0 w w' : World} {R M base : Nat} {bx mc : List Value}
theorem Tf.far (h : Tf w0 w R M base bx mc) (hb : Below w.heap.size w w') : Tf w0 w' R M base bx mc :=
  ⟨h.vb.below hb h.vb.lt, h.vr.below hb h.vr.lt, h.vm.below hb h.vm.lt, h.bl.trans (hb.mono h.bl.size), h.lo, ⟨h.hi.1, Nat.le_trans h.hi.2 hb.size⟩⟩
theorem Tf.gr {v v' : Value} (h : Tf w0 w R M base bx mc) (hg : Gr w w' v v') (hv : ∀ q, v.ownBlock = some q → base ≤ q) : Tf w0 w' R M base bx mc := by
  have hl := h.lo
  have hh := h.hi
  have hb : Below base w w' := hg.below hv hh.2
  exact ⟨h.vb.below hb (by omega), h.vr.below hb (by omega), h.vm.below hb hh.1, h.bl.trans (hb.mono (by omega)), hl, ⟨hh.1, Nat.le_trans hh.2 hb.size⟩⟩
theorem Tf.setM (h : Tf w0 w R M base bx mc) (k : Nat) (u : Value) : Tf w0 (w.setCell ⟨M, k, none⟩ u) R M base bx (mc.set k u) := by
  have hl := h.lo
  have hh := h.hi
  exact ⟨h.vb.setO (by omega) _ _, h.vr.setO (by omega) _ _, h.vm.set_ k u, h.bl.setCell (by show w0.heap.size ≤ M; omega) u, hl, ⟨hh.1, by simpa using hh.2⟩⟩
theorem Tf.setS {k : Nat} {u v : Value} (h : Tf w0 w R M base bx (mc.set k u)) : Tf w0 (w.setCell ⟨M, k, none⟩ v) R M base bx (mc.set k v) := by
  have := h.setM k v
  rwa [set_set_same] at this
end
/-- a question more that is held -/
theorem Held.qF {wr w3 w4 w5 : World} {M k : Nat} {l3 : List QR} {x : QR} {v v5 u : Value} {n : Nat} {c : Nat} {xs : List Value} {B : Nat}
    (HH : Held wr (M + 1) (DQ l3) v) (hO3 : OwM wr (M + 1) c 3 v n xs) (hb3 : Below wr.heap.size wr w3) (hB : wr.heap.size ≤ B) (hw3 : (nmO x.A x.c x.q.nm).ok w3 B) (hb4 : Below w3.heap.size w3 w4) (hle : M + 1 ≤ wr.heap.size) (hg : Gr w4 w5 v v5) : Held (w5.setCell ⟨M, k, none⟩ u) (M + 1) (DQ (l3 ++ [x])) v5 := by
  have h1 := (HH.far hb3).add (nmO x.A x.c x.q.nm) (OwM.mono hw3 (by omega)) (ne_new hO3 hw3 hB)
  have h4 := ((h1.far hb4).gr hg).setL (show M < M + 1 by omega) k u
  refine h4.mono fun o ho => ?_
  obtain ⟨y, hy, e⟩ := ho
  rcases List.mem_append.1 hy with hy | hy
  · exact Or.inr ⟨y, hy, e⟩
  · simp at hy
    subst hy
    exact Or.inl e
/-- a record more that is held -/
theorem Held.rF {wr w3 w4 w5 : World} {M k : Nat} {D : Ob → Prop} {l3 : List RR} {x : RR} {v v5 u : Value} {n : Nat} {c : Nat} {xs : List Value} {B : Nat}
    (HH : Held wr (M + 1) (fun o => D o ∨ DR l3 o) v) (hO3 : OwM wr (M + 1) c 9 v n xs) (hb3 : Below wr.heap.size wr w3) (hB : wr.heap.size ≤ B) (hn : (nmO x.A x.c x.r.q.nm).ok w3 B) (hd : (daO x.dA x.dc x.r.d).ok w3 B) (ht : (nmO x.tA x.tc x.r.tg).ok w3 B) (hb4 : Below w3.heap.size w3 w4) (hle : M + 1 ≤ wr.heap.size) (hg : Gr w4 w5 v v5) : Held (w5.setCell ⟨M, k, none⟩ u) (M + 1) (fun o => D o ∨ DR (l3 ++ [x]) o) v5 := by
  have h0 := HH.far hb3
  have h1 := h0.add (nmO x.A x.c x.r.q.nm) (OwM.mono hn (by omega)) (ne_new hO3 hn (by omega))
  have h2 := h1.add (daO x.dA x.dc x.r.d) (OwM.mono hd (by omega)) (ne_new hO3 hd (by omega))
  have h3 := h2.add (nmO x.tA x.tc x.r.tg) (OwM.mono ht (by omega)) (ne_new hO3 ht (by omega))
  have h4 := ((h3.far hb4).gr hg).setL (show M < M + 1 by omega) k u
  refine h4.mono fun o ho => ?_
  rcases ho with ho | ⟨y, hy, e⟩
  · exact Or.inr (Or.inr (Or.inr (Or.inl ho)))
  · rcases List.mem_append.1 hy with hy | hy
    · exact Or.inr (Or.inr (Or.inr (Or.inr ⟨y, hy, e⟩)))
    · simp at hy
      subst hy
      rcases e with e | e | e
      · exact Or.inr (Or.inr (Or.inl e))
      · exact Or.inr (Or.inl e)
      · exact Or.inl e
theorem take_map_snoc {α β : Type} (f : α → β) (l : List α) (k : Nat) (h : k < l.length) : (l.take (k + 1)).map f = (l.take k).map f ++ [f l[k]] := by
  rw [List.take_add_one, List.map_append, List.getElem?_eq_getElem h]; rfl
/-- names that can be copied -/
def Cpy (x : MR) : Prop := (∀ q ∈ x.qs, q.q.nm.length * 16 ≤ 140737488351232) ∧ ∀ i, ∀ r ∈ x.rl i, r.r.q.nm.length * 16 ≤ 140737488351232 ∧ r.r.tg.length * 16 ≤ 140737488351232
set_option maxRecDepth 100000 in
set_option maxHeartbeats 16000000 in
theorem turned_at (x : MR) (w : World) (h : MRd w w.heap.size x) (hs : Cpy x) :
    Calls Try.prog 38 #[.agg x.cells.toArray] w fun e w' => ∃ y : MR, y.m = x.m ∧ e = .returned (.agg y.cells.toArray) ∧ MOwF w' w.heap.size y ∧ Below w.heap.size w w' := by
  obtain ⟨i0, hi, hz0, hz1, hz2⟩ := info_parts Try.infoQf
  obtain ⟨j0, hj', hy0, hy1, hy2⟩ := info_parts Try.infoRf
  obtain ⟨R, hR⟩ : ∃ R, R = w.heap.size + 1 := ⟨_, rfl⟩
  obtain ⟨M, hM⟩ : ∃ M, M = w.heap.size + 2 := ⟨_, rfl⟩
  obtain ⟨n, hn⟩ : ∃ n, n = x.qs.length := ⟨_, rfl⟩
  have HN := Lib.hid hn.symm
  have hnb : n ≤ 1000000000000 := by rw [hn]; exact h.2.2.1.2.2.2.1
  have cx0 : x.cells[0]? = some (.int .u16 (x.id : Int)) := rfl
  have cx1 : x.cells[1]? = some (.int .u16 (x.fl : Int)) := rfl
  have cx2 : x.cells[2]? = some (.slice x.qA n x.qc) := by rw [hn]; rfl
  have HX := Lib.hid h
  have HC := Lib.hid hs
  clear h hs hn
  go_enter Try.func38, Try.ntmps38
  go_wp2_with fail
  have hT0 : Tf w (((w.alloc (.cells x.cells.toArray 30)).alloc (.cells #[.int .u16 0, .int .u16 0, .slice none 0 0, .slice none 0 0, .slice none 0 0, .slice none 0 0] 77)).alloc (.cells #[.int .u16 (x.id : Int), .int .u16 (x.fl : Int), .slice none 0 0, .slice none 0 0, .slice none 0 0, .slice none 0 0] 77)) R M (M + 1) x.cells [.int .u16 (x.id : Int), .int .u16 (x.fl : Int), .slice none 0 0, .slice none 0 0, .slice none 0 0, .slice none 0 0] := by
    have v1 := ((Vx.new w 30 x.cells).alloc (.cells #[.int .u16 0, .int .u16 0, .slice none 0 0, .slice none 0 0, .slice none 0 0, .slice none 0 0] 77)).alloc (.cells #[.int .u16 (x.id : Int), .int .u16 (x.fl : Int), .slice none 0 0, .slice none 0 0, .slice none 0 0, .slice none 0 0] 77)
    have v2 := (Vx.new (w.alloc (.cells x.cells.toArray 30)) 77 zM6).alloc (.cells #[.int .u16 (x.id : Int), .int .u16 (x.fl : Int), .slice none 0 0, .slice none 0 0, .slice none 0 0, .slice none 0 0] 77)
    have v3 := Vx.new ((w.alloc (.cells x.cells.toArray 30)).alloc (.cells #[.int .u16 0, .int .u16 0, .slice none 0 0, .slice none 0 0, .slice none 0 0, .slice none 0 0] 77)) 77 [.int .u16 (x.id : Int), .int .u16 (x.fl : Int), .slice none 0 0, .slice none 0 0, .slice none 0 0, .slice none 0 0]
    rw [World.size_alloc, ← hR] at v2
    rw [World.size_alloc, World.size_alloc, show w.heap.size + 1 + 1 = M by omega] at v3
    exact ⟨v1, v2, v3, (below_two w _ _).trans ((below_new _ _).mono (by simp; omega)), ⟨by omega, by omega⟩, ⟨by omega, by simp; omega⟩⟩
  try rw [show w.heap.size + 1 + 1 = M by omega]
  rw [← hR]
  have HT0 := Lib.hid hT0
  clear hT0 hM hR cx0 cx1 cx2
  generalize (((w.alloc (.cells x.cells.toArray 30)).alloc (.cells #[.int .u16 0, .int .u16 0, .slice none 0 0, .slice none 0 0, .slice none 0 0, .slice none 0 0] 77)).alloc (.cells #[.int .u16 (x.id : Int), .int .u16 (x.fl : Int), .slice none 0 0, .slice none 0 0, .slice none 0 0, .slice none 0 0] 77)) = w1 at *
  go_loopw [18] (fun vi wr => ∃ (k : Nat) (l : List QR) (Aq : Option Addr) (cq : Nat), k ≤ n ∧ vi = .int .i64 k ∧ k ≤ cq ∧ Hid (Tf w wr R M (M + 1) x.cells [.int .u16 (x.id : Int), .int .u16 (x.fl : Int), .slice Aq k cq, .slice none 0 0, .slice none 0 0, .slice none 0 0]) ∧ Hid (l.map QR.q = (x.qs.take k).map QR.q) ∧ Hid (OwM wr (M + 1) 111 3 (.slice Aq k cq) k (qcs l)) ∧ Hid (Held wr (M + 1) (DQ l) (.slice Aq k cq))) (fun vi _ => n - (intOf vi).toNat)
  case atStart => exact ⟨0, [], none, 0, Nat.zero_le _, rfl, Nat.le_refl _, HT0, Lib.hid rfl, Lib.hid (OwM.nil _ _ _ _), Lib.hid ((Held.nil _ _ _).mono (fun o ⟨x, hx, _⟩ => by cases hx))⟩
  case round =>
    clear HT0
    obtain ⟨k, l, Aq, cq, hk, rfl, hkc, HT, HL, HO, HH⟩ := hrel
    have hhi := HT.out.hi
    rcases Nat.lt_or_ge k n with hlt | hge
    · have hlx : k < x.qs.length := by have := HN.out; omega
      have hQ1 : QsRd wr w.heap.size x.qA x.qc n x.qs := by rw [← HN.out]; exact HX.out.2.2.1.below HT.out.bl
      obtain ⟨b, o, hA1, hb1, hc⟩ := hQ1.at_ hlt
      obtain ⟨c0, c1, c2⟩ := hc hlx
      have hlen : x.qs[k].q.nm.length * 16 ≤ 140737488351232 := HC.out.1 _ (List.getElem_mem hlx)
      have hP : QRd wr wr.heap.size x.qs[k] := (hQ1.2.2.2.2 _ (List.getElem_mem hlx)).more HT.out.bl.size
      have htk : (x.qs.take (k + 1)).map QR.q = (x.qs.take k).map QR.q ++ [x.qs[k].q] := take_map_snoc QR.q x.qs k hlx
      generalize x.qs[k] = p at *
      rw [hA1]
      have HP := Lib.hid hP
      have HTK := Lib.hid htk
      have hlt' : (k : Int) < (n : Int) := by omega
      have hwr : b < wr.heap.size := by have := HT.out.bl.size; omega
      clear hc hb1 hQ1 hA1 hP htk
      go_upto_region 5 with fail
      have hT1 := HT.out.far (below_new wr (.cells #[.slice p.A p.q.nm.length p.c, .int .u16 (p.q.ty : Int), .int .u16 (p.q.cl : Int)] 42))
      have v5 := Vx.new wr 42 [.slice p.A p.q.nm.length p.c, .int .u16 (p.q.ty : Int), .int .u16 (p.q.cl : Int)]
      have hb12 := below_new wr (.cells #[.slice p.A p.q.nm.length p.c, .int .u16 (p.q.ty : Int), .int .u16 (p.q.cl : Int)] 42)
      obtain ⟨T, hT⟩ : ∃ T, T = wr.heap.size := ⟨_, rfl⟩
      rw [← hT] at v5
      rw [← hT]
      have HTE := Lib.hid hT
      generalize wr.alloc (.cells #[.slice p.A p.q.nm.length p.c, .int .u16 (p.q.ty : Int), .int .u16 (p.q.cl : Int)] 42) = w2 at *
      have HT1 := Lib.hid hT1
      have V5 := Lib.hid v5
      have HB12 := Lib.hid hb12
      have K1 := Lib.hid (sclone_at w2.drew p.A p.c p.q.nm.length p.q.nm rfl ((HP.out.1.1.below hb12).more hb12.size) (by omega))
      obtain ⟨q0, q1, q2⟩ := v5.c3
      have hMT : M < T := by omega
      clear hT1 v5 hb12 hT
      refine wp_region_held_drew (S := fun w' => w'.cell? ⟨T, 0, none⟩ = some (.slice p.A p.q.nm.length p.c) ∧ w'.cell? ⟨T, 1, none⟩ = some (.int .u16 (p.q.ty : Int)) ∧ w'.cell? ⟨T, 2, none⟩ = some (.int .u16 (p.q.cl : Int))) (by kernel_rfl) ⟨q0, q1, q2⟩ (fun hH => ?_)
      refine reg_take 0 (v := ?_) rfl (by kernel_rfl) (fun _ _ _ h => h) (by rfl) hH ?_ ?_
      rotate_left
      · intro w hSw; (try dsimp only at hSw); go_simp; (try with_reducible rfl)
      (try simp only [Act.put, List.setIfInBounds_toArray, List.set_cons_zero, List.set_cons_succ])
      refine reg_take 2 (v := ?_) rfl (by kernel_rfl) (fun _ _ _ h => h) (by rfl) hH ?_ ?_
      rotate_left
      · intro w hSw; (try dsimp only at hSw); go_simp; (try with_reducible rfl)
      (try simp only [Act.put, List.setIfInBounds_toArray, List.set_cons_zero, List.set_cons_succ])
      refine reg_take 3 (v := ?_) rfl (by kernel_rfl) (fun _ _ _ h => h) (by rfl) hH ?_ ?_
      rotate_left
      · intro w hSw; (try dsimp only at hSw); go_simp; (try with_reducible rfl)
      (try simp only [Act.put, List.setIfInBounds_toArray, List.set_cons_zero, List.set_cons_succ])
      refine reg_take 5 (v := ?_) rfl (by kernel_rfl) (fun _ _ _ h => h) (by rfl) hH ?_ ?_
      rotate_left
      · intro w hSw; (try dsimp only at hSw); go_simp; (try with_reducible rfl)
      (try simp only [Act.put, List.setIfInBounds_toArray, List.set_cons_zero, List.set_cons_succ])
      refine reg_take 6 (v := ?_) rfl (by kernel_rfl) (fun _ _ _ h => h) (by rfl) hH ?_ ?_
      rotate_left
      · intro w hSw; (try dsimp only at hSw); go_simp; (try with_reducible rfl)
      (try simp only [Act.put, List.setIfInBounds_toArray, List.set_cons_zero, List.set_cons_succ])
      refine reg_take 7 (v := ?_) rfl (by kernel_rfl) (fun _ _ _ h => h) (by rfl) hH ?_ ?_
      rotate_left
      · intro w hSw; (try dsimp only at hSw); go_simp; (try with_reducible rfl)
      (try simp only [Act.put, List.setIfInBounds_toArray, List.set_cons_zero, List.set_cons_succ])
      refine reg_take 8 (v := ?_) rfl (by kernel_rfl) (fun _ _ _ h => h) (by rfl) hH ?_ ?_
      rotate_left
      · intro w hSw; (try dsimp only at hSw); go_simp; (try with_reducible rfl)
      (try simp only [Act.put, List.setIfInBounds_toArray, List.set_cons_zero, List.set_cons_succ])
      refine wpAnyH_ready (rs := [1, 4]) (by kernel_rfl) (by simp) ?_
      refine reg_cons _ rfl (fun K' hK => ?_) (reg_cons _ rfl (fun K' hK => ?_) AllReadyH.nil)
      · have m2 := HT1.out.vm.cell 2
        go_simp
        refine hK.out _ _ V5.out.c3 (fun hH => ?_)
        (try simp only [Act.put, List.setIfInBounds_toArray, List.set_cons_zero, List.set_cons_succ])
        clear hK m2
        refine wpAnyH_ready (rs := [4]) (by kernel_rfl) (by simp) ?_
        refine reg_cons _ rfl (fun K' hK => ?_) AllReadyH.nil
        go_simp
        go_at_call 53
        refine K1.out.mono ?_
        rintro e w3 ⟨v3, rfl, ho3, hb3'⟩
        obtain ⟨A3, c3, rfl, hl3, _⟩ := Ow.form7 ho3 p.q.nm.length (by simp)
        have hb3 : Below w2.heap.size w2 w3 := (Below.refl w2.heap.size w2).drew.trans hb3'
        have hn3 : (nmO A3 c3 p.q.nm).ok w3 w2.heap.size := ho3
        have HT3 := Lib.hid (HT1.out.far hb3)
        have V53 := Lib.hid (V5.out.below hb3 V5.out.lt)
        (try dsimp only)
        refine hK.out _ _ V53.out.c3 (fun hH => ?_)
        (try simp only [Act.put, List.setIfInBounds_toArray, List.set_cons_zero, List.set_cons_succ])
        clear hK
        refine reg_take 9 (v := ?_) rfl (by kernel_rfl) (fun _ _ _ h => h) (by rfl) hH ?_ ?_
        rotate_left
        · intro w hSw; (try dsimp only at hSw); go_simp; (try with_reducible rfl)
        (try simp only [Act.put, List.setIfInBounds_toArray, List.set_cons_zero, List.set_cons_succ])
        refine wpAnyH_ready (rs := [10]) (by kernel_rfl) (by simp) ?_
        refine reg_cons _ rfl (fun K' hK => ?_) AllReadyH.nil
        go_simp
        have hb4 := below_new w3 (.cells #[.slice A3 p.q.nm.length c3, .int .u16 (p.q.ty : Int), .int .u16 (p.q.cl : Int)] 111)
        refine hK.out _ _ (V53.out.below hb4 V53.out.lt).c3 (fun hH => ?_)
        (try simp only [Act.put, List.setIfInBounds_toArray, List.set_cons_zero, List.set_cons_succ])
        clear hK
        have hbase : M + 1 ≤ w3.heap.size := HT3.out.hi.2
        refine wpAnyH_ready (rs := [11]) (by kernel_rfl) (by simp) ?_
        refine reg_cons _ rfl (fun K' hK => ?_) AllReadyH.nil
        refine step_appM rfl _ _ _ _ rfl (M + 1) 3 111 i0 _ 32 Try.underlying73 hi hz0 hz1 hz2 rfl (by omega) (.slice Aq k cq) k (qcs l) ((((HO.out.far HB12.out).far hb3).alloc _)) rfl (.slice (some ⟨w3.heap.size, 0, none⟩) 1 1) rfl 1 (QR.cells ⟨A3, c3, p.q⟩) (litM_src Try.underlying73 _ 3 _ 1 rfl (qcells_one ⟨A3, c3, p.q⟩)) (by omega) (by simp; omega) ?_
        intro v6 w6 hown6 hgr6 hsz6
        obtain ⟨A6, c6, rfl, hc6, _, _⟩ := hown6.form
        have HT6 := Lib.hid ((HT3.out.far hb4).gr hgr6 (OwM.lt HO.out))
        have V56 := Lib.hid ((V53.out.below hb4 V53.out.lt).grown hgr6.1 (fun e => by have := OwM.block_lt HO.out T e.symm; have := HTE.out; omega))
        refine hK.out _ _ V56.out.c3 (fun hH => ?_)
        (try simp only [Act.put, List.setIfInBounds_toArray, List.set_cons_zero, List.set_cons_succ])
        clear hK
        refine reg_take 12 (v := ?_) rfl (by kernel_rfl) (fun _ _ _ h => h) (by rfl) hH ?_ ?_
        rotate_left
        · intro w hSw; (try dsimp only at hSw); go_simp; (try with_reducible rfl)
        (try simp only [Act.put, List.setIfInBounds_toArray, List.set_cons_zero, List.set_cons_succ])
        have m6 := HT6.out.vm.cell 2
        have f6 := HT6.out.vm.free 2
        refine wpAnyH_ready (rs := [13]) (by kernel_rfl) (by simp) ?_
        refine reg_cons _ rfl (fun K' hK => ?_) AllReadyH.nil
        go_simp
        have HT7 := Lib.hid (HT6.out.setM 2 (.slice A6 (k + 1) c6))
        refine hK.out _ _ (V56.out.setO (by omega) _ _).c3 (fun hH => ?_)
        clear hK
        refine wpAnyH_done (by kernel_rfl) ?_ _
        clear hH m6 f6
        go_wp2_with fail
        go_roundw
        case rel =>
          refine ⟨k + 1, l ++ [⟨A3, c3, p.q⟩], A6, c6, by omega, by go_num, hc6, HT7, Lib.hid ?_, Lib.hid ?_, Lib.hid (Held.qF HH.out HO.out (HB12.out.trans (hb3.mono HB12.out.size)) HB12.out.size hn3 hb4 hhi.2 hgr6)⟩
          · rw [HTK.out, List.map_append, HL.out]; rfl
          · rw [qcs_snoc]
            exact OwM.setL hown6 (by omega) _ _
        case measure => simp [intOf]; omega
      · go_simp
        go_at_call 53
        refine K1.out.mono ?_
        rintro e w3 ⟨v3, rfl, ho3, hb3'⟩
        obtain ⟨A3, c3, rfl, hl3, _⟩ := Ow.form7 ho3 p.q.nm.length (by simp)
        have hb3 : Below w2.heap.size w2 w3 := (Below.refl w2.heap.size w2).drew.trans hb3'
        have hn3 : (nmO A3 c3 p.q.nm).ok w3 w2.heap.size := ho3
        have HT3 := Lib.hid (HT1.out.far hb3)
        have V53 := Lib.hid (V5.out.below hb3 V5.out.lt)
        (try dsimp only)
        refine hK.out _ _ V53.out.c3 (fun hH => ?_)
        (try simp only [Act.put, List.setIfInBounds_toArray, List.set_cons_zero, List.set_cons_succ])
        clear hK
        refine reg_take 9 (v := ?_) rfl (by kernel_rfl) (fun _ _ _ h => h) (by rfl) hH ?_ ?_
        rotate_left
        · intro w hSw; (try dsimp only at hSw); go_simp; (try with_reducible rfl)
        (try simp only [Act.put, List.setIfInBounds_toArray, List.set_cons_zero, List.set_cons_succ])
        refine wpAnyH_ready (rs := [1, 10]) (by kernel_rfl) (by simp) ?_
        refine reg_cons _ rfl (fun K' hK => ?_) (reg_cons _ rfl (fun K' hK => ?_) AllReadyH.nil)
        · have m2 := HT3.out.vm.cell 2
          go_simp
          refine hK.out _ _ V53.out.c3 (fun hH => ?_)
          (try simp only [Act.put, List.setIfInBounds_toArray, List.set_cons_zero, List.set_cons_succ])
          clear hK m2
          refine wpAnyH_ready (rs := [10]) (by kernel_rfl) (by simp) ?_
          refine reg_cons _ rfl (fun K' hK => ?_) AllReadyH.nil
          go_simp
          have hb4 := below_new w3 (.cells #[.slice A3 p.q.nm.length c3, .int .u16 (p.q.ty : Int), .int .u16 (p.q.cl : Int)] 111)
          refine hK.out _ _ (V53.out.below hb4 V53.out.lt).c3 (fun hH => ?_)
          (try simp only [Act.put, List.setIfInBounds_toArray, List.set_cons_zero, List.set_cons_succ])
          clear hK
          have hbase : M + 1 ≤ w3.heap.size := HT3.out.hi.2
          refine wpAnyH_ready (rs := [11]) (by kernel_rfl) (by simp) ?_
          refine reg_cons _ rfl (fun K' hK => ?_) AllReadyH.nil
          refine step_appM rfl _ _ _ _ rfl (M + 1) 3 111 i0 _ 32 Try.underlying73 hi hz0 hz1 hz2 rfl (by omega) (.slice Aq k cq) k (qcs l) ((((HO.out.far HB12.out).far hb3).alloc _)) rfl (.slice (some ⟨w3.heap.size, 0, none⟩) 1 1) rfl 1 (QR.cells ⟨A3, c3, p.q⟩) (litM_src Try.underlying73 _ 3 _ 1 rfl (qcells_one ⟨A3, c3, p.q⟩)) (by omega) (by simp; omega) ?_
          intro v6 w6 hown6 hgr6 hsz6
          obtain ⟨A6, c6, rfl, hc6, _, _⟩ := hown6.form
          have HT6 := Lib.hid ((HT3.out.far hb4).gr hgr6 (OwM.lt HO.out))
          have V56 := Lib.hid ((V53.out.below hb4 V53.out.lt).grown hgr6.1 (fun e => by have := OwM.block_lt HO.out T e.symm; have := HTE.out; omega))
          refine hK.out _ _ V56.out.c3 (fun hH => ?_)
          (try simp only [Act.put, List.setIfInBounds_toArray, List.set_cons_zero, List.set_cons_succ])
          clear hK
          refine reg_take 12 (v := ?_) rfl (by kernel_rfl) (fun _ _ _ h => h) (by rfl) hH ?_ ?_
          rotate_left
          · intro w hSw; (try dsimp only at hSw); go_simp; (try with_reducible rfl)
          (try simp only [Act.put, List.setIfInBounds_toArray, List.set_cons_zero, List.set_cons_succ])
          have m6 := HT6.out.vm.cell 2
          have f6 := HT6.out.vm.free 2
          refine wpAnyH_ready (rs := [13]) (by kernel_rfl) (by simp) ?_
          refine reg_cons _ rfl (fun K' hK => ?_) AllReadyH.nil
          go_simp
          have HT7 := Lib.hid (HT6.out.setM 2 (.slice A6 (k + 1) c6))
          refine hK.out _ _ (V56.out.setO (by omega) _ _).c3 (fun hH => ?_)
          clear hK
          refine wpAnyH_done (by kernel_rfl) ?_ _
          clear hH m6 f6
          go_wp2_with fail
          go_roundw
          case rel =>
            refine ⟨k + 1, l ++ [⟨A3, c3, p.q⟩], A6, c6, by omega, by go_num, hc6, HT7, Lib.hid ?_, Lib.hid ?_, Lib.hid (Held.qF HH.out HO.out (HB12.out.trans (hb3.mono HB12.out.size)) HB12.out.size hn3 hb4 hhi.2 hgr6)⟩
            · rw [HTK.out, List.map_append, HL.out]; rfl
            · rw [qcs_snoc]
              exact OwM.setL hown6 (by omega) _ _
          case measure => simp [intOf]; omega
        · go_simp
          have hb4 := below_new w3 (.cells #[.slice A3 p.q.nm.length c3, .int .u16 (p.q.ty : Int), .int .u16 (p.q.cl : Int)] 111)
          refine hK.out _ _ (V53.out.below hb4 V53.out.lt).c3 (fun hH => ?_)
          (try simp only [Act.put, List.setIfInBounds_toArray, List.set_cons_zero, List.set_cons_succ])
          clear hK
          refine wpAnyH_ready (rs := [1]) (by kernel_rfl) (by simp) ?_
          refine reg_cons _ rfl (fun K' hK => ?_) AllReadyH.nil
          have m2 := (HT3.out.far hb4).vm.cell 2
          go_simp
          refine hK.out _ _ (V53.out.below hb4 V53.out.lt).c3 (fun hH => ?_)
          (try simp only [Act.put, List.setIfInBounds_toArray, List.set_cons_zero, List.set_cons_succ])
          clear hK m2
          have hbase : M + 1 ≤ w3.heap.size := HT3.out.hi.2
          refine wpAnyH_ready (rs := [11]) (by kernel_rfl) (by simp) ?_
          refine reg_cons _ rfl (fun K' hK => ?_) AllReadyH.nil
          refine step_appM rfl _ _ _ _ rfl (M + 1) 3 111 i0 _ 32 Try.underlying73 hi hz0 hz1 hz2 rfl (by omega) (.slice Aq k cq) k (qcs l) ((((HO.out.far HB12.out).far hb3).alloc _)) rfl (.slice (some ⟨w3.heap.size, 0, none⟩) 1 1) rfl 1 (QR.cells ⟨A3, c3, p.q⟩) (litM_src Try.underlying73 _ 3 _ 1 rfl (qcells_one ⟨A3, c3, p.q⟩)) (by omega) (by simp; omega) ?_
          intro v6 w6 hown6 hgr6 hsz6
          obtain ⟨A6, c6, rfl, hc6, _, _⟩ := hown6.form
          have HT6 := Lib.hid ((HT3.out.far hb4).gr hgr6 (OwM.lt HO.out))
          have V56 := Lib.hid ((V53.out.below hb4 V53.out.lt).grown hgr6.1 (fun e => by have := OwM.block_lt HO.out T e.symm; have := HTE.out; omega))
          refine hK.out _ _ V56.out.c3 (fun hH => ?_)
          (try simp only [Act.put, List.setIfInBounds_toArray, List.set_cons_zero, List.set_cons_succ])
          clear hK
          refine reg_take 12 (v := ?_) rfl (by kernel_rfl) (fun _ _ _ h => h) (by rfl) hH ?_ ?_
          rotate_left
          · intro w hSw; (try dsimp only at hSw); go_simp; (try with_reducible rfl)
          (try simp only [Act.put, List.setIfInBounds_toArray, List.set_cons_zero, List.set_cons_succ])
          have m6 := HT6.out.vm.cell 2
          have f6 := HT6.out.vm.free 2
          refine wpAnyH_ready (rs := [13]) (by kernel_rfl) (by simp) ?_
          refine reg_cons _ rfl (fun K' hK => ?_) AllReadyH.nil
          go_simp
          have HT7 := Lib.hid (HT6.out.setM 2 (.slice A6 (k + 1) c6))
          refine hK.out _ _ (V56.out.setO (by omega) _ _).c3 (fun hH => ?_)
          clear hK
          refine wpAnyH_done (by kernel_rfl) ?_ _
          clear hH m6 f6
          go_wp2_with fail
          go_roundw
          case rel =>
            refine ⟨k + 1, l ++ [⟨A3, c3, p.q⟩], A6, c6, by omega, by go_num, hc6, HT7, Lib.hid ?_, Lib.hid ?_, Lib.hid (Held.qF HH.out HO.out (HB12.out.trans (hb3.mono HB12.out.size)) HB12.out.size hn3 hb4 hhi.2 hgr6)⟩
            · rw [HTK.out, List.map_append, HL.out]; rfl
            · rw [qcs_snoc]
              exact OwM.setL hown6 (by omega) _ _
          case measure => simp [intOf]; omega
    · have hkn : k = n := by omega
      subst hkn
      have hlq : l.length = k := by
        have := HO.out.len
        rw [qcs_length] at this
        omega
      have hql : l.map QR.q = x.qs.map QR.q := by rw [HL.out, ← HN.out, List.take_length]
      have hD0 := HH.out.fin (rwQf Aq cq l) (show (rwQf Aq cq l).ok wr (M + 1) by
        unfold Ob.ok rwQf
        rw [hlq]
        exact HO.out)
      have HLQ := Lib.hid hlq
      have HQL := Lib.hid hql
      have HD0 := Lib.hid hD0
      have vbx : Vx wr w.heap.size 30 [.int .u16 (x.id : Int), .int .u16 (x.fl : Int), .slice x.qA x.qs.length x.qc, .slice x.aA x.r0.length x.ac, .slice x.bA x.r1.length x.bc, .slice x.cA x.r2.length x.cc] := HT.out.vb
      obtain ⟨a0, a1, a2, a3, a4, a5⟩ := vbx.c6
      clear hlq hql hD0 HH hkc hk hge vbx
      go_wp2_with fail
      go_loopw [38] (fun vi wr => ∃ (i : Nat) (rs : List RW), i ≤ 3 ∧ vi = .int .i64 i ∧ rs.length = i ∧ Hid (Tf w wr R M (M + 1) x.cells (mcs x.id x.fl (.slice Aq k cq) rs)) ∧ Hid (rs.map (fun r => r.l.map RR.r) = (List.range i).map (fun i => (x.rl i).map RR.r)) ∧ Hid (Held wr (M + 1) (fun o => (o = rwQf Aq cq l ∨ DQ l o) ∨ ∃ r ∈ rs, o = rwRf r.A r.c r.l ∨ DR r.l o) (.slice none 0 0))) (fun vi _ => 3 - (intOf vi).toNat)
      case atStart =>
        refine ⟨0, [], by omega, rfl, rfl, HT, Lib.hid rfl, Lib.hid (HD0.out.mono (fun o ho => ?_))⟩
        rcases ho with ho | ⟨r, hr, _⟩
        · exact ho
        · cases hr
      case round =>
        clear HT HD0 a0 a1 a2 a3 a4 a5 hhi HO HL
        obtain ⟨i, rs, hi3, rfl, hrl, HT, HL, HH⟩ := hrel
        rcases Nat.lt_or_ge i 3 with hlt | hge
        · have hidx := fun W => idx3_x x W i hlt
          obtain ⟨cn, hcn⟩ : ∃ cn, cn = (x.rl i).length := ⟨_, rfl⟩
          have hR0 := HX.out.rl i
          have hcb : cn ≤ 1000000000000 := by rw [hcn]; exact hR0.2.2.2.1
          have hi3i : (i : Int) < 3 := by omega
          rw [← hcn] at hidx hR0
          have HCN := Lib.hid hcn.symm
          have HR0 := Lib.hid hR0
          obtain ⟨xA, hxA⟩ : ∃ a, a = x.rA i := ⟨_, rfl⟩
          obtain ⟨xc, hxc⟩ : ∃ a, a = x.rc i := ⟨_, rfl⟩
          rw [← hxA, ← hxc] at hidx
          have HXA := Lib.hid hxA
          have HXC := Lib.hid hxc
          clear hcn hR0 hxA hxc
          go_wp2_with fail
          go_loopw [44] (fun vj wr => ∃ (j : Nat) (l3 : List RR) (Ar : Option Addr) (cr : Nat), j ≤ cn ∧ vj = .int .i64 j ∧ j ≤ cr ∧ Hid (Tf w wr R M (M + 1) x.cells ((mcs x.id x.fl (.slice Aq k cq) rs).set (3 + i) (.slice Ar j cr))) ∧ Hid (l3.map RR.r = ((x.rl i).take j).map RR.r) ∧ Hid (OwM wr (M + 1) 113 9 (.slice Ar j cr) j (rcs l3)) ∧ Hid (Held wr (M + 1) (fun o => ((o = rwQf Aq cq l ∨ DQ l o) ∨ ∃ r ∈ rs, o = rwRf r.A r.c r.l ∨ DR r.l o) ∨ DR l3 o) (.slice Ar j cr))) (fun vj _ => cn - (intOf vj).toNat)
          case atStart =>
            refine ⟨0, [], none, 0, Nat.zero_le _, rfl, Nat.le_refl _, Lib.hid ?_, Lib.hid rfl, Lib.hid (OwM.nil _ _ _ _), Lib.hid (HH.out.mono (fun o ho => ?_))⟩
            · have := mcs_nil x.id x.fl (.slice Aq k cq) rs (by omega)
              rw [hrl] at this
              rw [this]
              exact HT.out
            · rcases ho with ho | ⟨x, hx, _⟩
              · exact ho
              · cases hx
          case round =>
            clear HT HH hidx
            obtain ⟨j, l3, Ar, cr, hj, rfl, hjc, HT, HL3, HO3, HH3⟩ := hrel
            have hhi := HT.out.hi
            rcases Nat.lt_or_ge j cn with hjlt | hjge
            · have hjx : j < (x.rl i).length := by have := HCN.out; omega
              have hR1 : RsRd wr w.heap.size xA xc cn (x.rl i) := by rw [HXA.out, HXC.out]; exact HR0.out.below HT.out.bl
              obtain ⟨b, o, hA1, hb1, hc⟩ := hR1.at_ hjlt
              have hnine := (hc hjx).cells
              have hlen := HC.out.2 i _ (List.getElem_mem hjx)
              have hP : RRd wr wr.heap.size (x.rl i)[j] := (hR1.2.2.2.2 _ (List.getElem_mem hjx)).more HT.out.bl.size
              have htk := take_map_snoc RR.r (x.rl i) j hjx
              generalize (x.rl i)[j] = p at *
              obtain ⟨c0, c1, c2, c3, c4, c5, c6, c7, c8⟩ := hnine
              have HP := Lib.hid hP
              have HLEN := Lib.hid hlen
              have HTK := Lib.hid htk
              have hjlt' : (j : Int) < (cn : Int) := by omega
              have hwr : b < wr.heap.size := by have := HT.out.bl.size; omega
              subst hA1
              clear hc hb1 hR1 hP htk hlen
              go_upto_region 13 with fail
              have hT1 := HT.out.far (below_new wr (.cells #[.slice p.A p.r.q.nm.length p.c, .int .u16 (p.r.q.ty : Int), .int .u16 (p.r.q.cl : Int), .int .u32 (p.r.ttl : Int), .slice p.dA p.r.d.length p.dc, .int .u16 (p.r.pr : Int), .int .u16 (p.r.we : Int), .int .u16 (p.r.po : Int), .slice p.tA p.r.tg.length p.tc] 49))
              have v5 := Vx.new wr 49 [.slice p.A p.r.q.nm.length p.c, .int .u16 (p.r.q.ty : Int), .int .u16 (p.r.q.cl : Int), .int .u32 (p.r.ttl : Int), .slice p.dA p.r.d.length p.dc, .int .u16 (p.r.pr : Int), .int .u16 (p.r.we : Int), .int .u16 (p.r.po : Int), .slice p.tA p.r.tg.length p.tc]
              have hb12 := below_new wr (.cells #[.slice p.A p.r.q.nm.length p.c, .int .u16 (p.r.q.ty : Int), .int .u16 (p.r.q.cl : Int), .int .u32 (p.r.ttl : Int), .slice p.dA p.r.d.length p.dc, .int .u16 (p.r.pr : Int), .int .u16 (p.r.we : Int), .int .u16 (p.r.po : Int), .slice p.tA p.r.tg.length p.tc] 49)
              obtain ⟨T, hT⟩ : ∃ T, T = wr.heap.size := ⟨_, rfl⟩
              rw [← hT] at v5
              rw [← hT]
              have HTE := Lib.hid hT
              generalize wr.alloc (.cells #[.slice p.A p.r.q.nm.length p.c, .int .u16 (p.r.q.ty : Int), .int .u16 (p.r.q.cl : Int), .int .u32 (p.r.ttl : Int), .slice p.dA p.r.d.length p.dc, .int .u16 (p.r.pr : Int), .int .u16 (p.r.we : Int), .int .u16 (p.r.po : Int), .slice p.tA p.r.tg.length p.tc] 49) = w2 at *
              have HT1 := Lib.hid hT1
              have V5 := Lib.hid v5
              have HB12 := Lib.hid hb12
              have K1 := Lib.hid (turnedR_at p w2.drew ((HP.out.below hb12).more hb12.size) HLEN.out.1 HLEN.out.2)
              have hMT : M < T := by omega
              clear hT1 v5 hb12 hT c0 c1 c2 c3 c4 c5 c6 c7 c8
              have hmg := fun v => mcs_get x.id x.fl (.slice Aq k cq) rs (by omega) v
              rw [hrl] at hmg
              have HMG := Lib.hid hmg
              clear hmg
              refine wp_region_held_drew (S := fun w' => Vx w' T 49 [.slice p.A p.r.q.nm.length p.c, .int .u16 (p.r.q.ty : Int), .int .u16 (p.r.q.cl : Int), .int .u32 (p.r.ttl : Int), .slice p.dA p.r.d.length p.dc, .int .u16 (p.r.pr : Int), .int .u16 (p.r.we : Int), .int .u16 (p.r.po : Int), .slice p.tA p.r.tg.length p.tc]) (by kernel_rfl) V5.out (fun hH => ?_)
              refine reg_take 0 (v := ?_) rfl (by kernel_rfl) (fun _ _ _ h => h) (by rfl) hH ?_ ?_
              rotate_left
              · intro w hSw; (try dsimp only at hSw); go_simp; (try with_reducible rfl)
              (try simp only [Act.put, List.setIfInBounds_toArray, List.set_cons_zero, List.set_cons_succ])
              refine reg_take 1 (v := ?_) rfl (by kernel_rfl) (fun _ _ _ h => h) (by rfl) hH ?_ ?_
              rotate_left
              · intro w hSw; (try dsimp only at hSw); go_simp; (try with_reducible rfl)
              (try simp only [Act.put, List.setIfInBounds_toArray, List.set_cons_zero, List.set_cons_succ])
              refine reg_take 2 (v := ?_) rfl (by kernel_rfl) (fun _ _ _ h => h) (by rfl) hH ?_ ?_
              rotate_left
              · intro w hSw; (try dsimp only at hSw); go_simp; (try with_reducible rfl)
              (try simp only [Act.put, List.setIfInBounds_toArray, List.set_cons_zero, List.set_cons_succ])
              refine reg_take 3 (v := ?_) rfl (by kernel_rfl) (fun _ _ _ h => h) (by rfl) hH ?_ ?_
              rotate_left
              · intro w hSw; (try dsimp only at hSw); go_simp; (try with_reducible rfl)
              (try simp only [Act.put, List.setIfInBounds_toArray, List.set_cons_zero, List.set_cons_succ])
              refine reg_load 5 rfl (by kernel_rfl) 49 _ (by rfl) T 49 [.slice p.A p.r.q.nm.length p.c, .int .u16 (p.r.q.ty : Int), .int .u16 (p.r.q.cl : Int), .int .u32 (p.r.ttl : Int), .slice p.dA p.r.d.length p.dc, .int .u16 (p.r.pr : Int), .int .u16 (p.r.we : Int), .int .u16 (p.r.po : Int), .slice p.tA p.r.tg.length p.tc] _ (fun _ _ _ h => h) (by rfl) hH (by rfl) (fun w hS => hS) Try.underlying49 (by rfl) (by kernel_rfl) ?_
              (try simp only [Act.put, List.setIfInBounds_toArray, List.set_cons_zero, List.set_cons_succ])
              refine reg_take 9 (v := ?_) rfl (by kernel_rfl) (fun _ _ _ h => h) (by rfl) hH ?_ ?_
              rotate_left
              · intro w hSw; (try dsimp only at hSw); go_simp; (try with_reducible rfl)
              (try simp only [Act.put, List.setIfInBounds_toArray, List.set_cons_zero, List.set_cons_succ])
              refine wpAnyH_ready (rs := [4, 6]) (by kernel_rfl) (by simp) ?_
              refine reg_cons _ rfl (fun K' hK => ?_) (reg_cons _ rfl (fun K' hK => ?_) AllReadyH.nil)
              · have m2 : w2.cell? ⟨M, 3 + i, none⟩ = some (.slice Ar j cr) := (HT1.out.vm.cell (3 + i)).trans (HMG.out _)
                go_simp
                refine hK.out _ _ V5.out (fun hH => ?_)
                (try simp only [Act.put, List.setIfInBounds_toArray, List.set_cons_zero, List.set_cons_succ])
                clear hK m2
                refine wpAnyH_ready (rs := [6]) (by kernel_rfl) (by simp) ?_
                refine reg_cons _ rfl (fun K' hK => ?_) AllReadyH.nil
                go_simp
                go_at_call 58
                refine K1.out.mono ?_
                rintro e w3 ⟨⟨A3, c3, dA3, dc3, tA3, tc3, r3⟩, hyr, rfl, hn3, hd3, ht3, hb3'⟩
                simp only at hyr
                subst hyr
                unfold RR.cells
                simp only at hn3 hd3 ht3
                dsimp only
                have hb3 : Below w2.heap.size w2 w3 := (Below.refl w2.heap.size w2).drew.trans hb3'
                have HT3 := Lib.hid (HT1.out.far hb3)
                have V53 := Lib.hid (V5.out.below hb3 V5.out.lt)
                refine hK.out _ _ V53.out (fun hH => ?_)
                (try simp only [Act.put, List.setIfInBounds_toArray, List.set_cons_zero, List.set_cons_succ])
                clear hK
                refine wpAnyH_ready (rs := [7]) (by kernel_rfl) (by simp) ?_
                refine reg_cons _ rfl (fun K' hK => ?_) AllReadyH.nil
                go_simp
                have hb4 := below_new w3 (.cells #[.slice A3 p.r.q.nm.length c3, .int .u16 (p.r.q.ty : Int), .int .u16 (p.r.q.cl : Int), .int .u32 (p.r.ttl : Int), .slice dA3 p.r.d.length dc3, .int .u16 (p.r.pr : Int), .int .u16 (p.r.we : Int), .int .u16 (p.r.po : Int), .slice tA3 p.r.tg.length tc3] 113)
                refine hK.out _ _ (V53.out.below hb4 V53.out.lt) (fun hH => ?_)
                (try simp only [Act.put, List.setIfInBounds_toArray, List.set_cons_zero, List.set_cons_succ])
                clear hK
                have hbase : M + 1 ≤ w3.heap.size := HT3.out.hi.2
                refine wpAnyH_ready (rs := [8]) (by kernel_rfl) (by simp) ?_
                refine reg_cons _ rfl (fun K' hK => ?_) AllReadyH.nil
                refine step_appM rfl _ _ _ _ rfl (M + 1) 9 113 j0 _ 96 Try.underlying74 hj' hy0 hy1 hy2 rfl (by omega) (.slice Ar j cr) j (rcs l3) ((((HO3.out.far HB12.out).far hb3).alloc _)) rfl (.slice (some ⟨w3.heap.size, 0, none⟩) 1 1) rfl 1 (RR.cells ⟨A3, c3, dA3, dc3, tA3, tc3, p.r⟩) (litM_src Try.underlying74 _ 9 _ 1 rfl (rcells_one ⟨A3, c3, dA3, dc3, tA3, tc3, p.r⟩)) (by omega) (by simp; omega) ?_
                intro v6 w6 hown6 hgr6 hsz6
                obtain ⟨A6, c6, rfl, hc6, _, _⟩ := hown6.form
                have HT6 := Lib.hid ((HT3.out.far hb4).gr hgr6 (OwM.lt HO3.out))
                have V56 := Lib.hid ((V53.out.below hb4 V53.out.lt).grown hgr6.1 (fun e => by have := OwM.block_lt HO3.out T e.symm; have := HTE.out; omega))
                refine hK.out _ _ V56.out (fun hH => ?_)
                (try simp only [Act.put, List.setIfInBounds_toArray, List.set_cons_zero, List.set_cons_succ])
                clear hK
                refine reg_take 10 (v := ?_) rfl (by kernel_rfl) (fun _ _ _ h => h) (by rfl) hH ?_ ?_
                rotate_left
                · intro w hSw; (try dsimp only at hSw); go_simp; (try with_reducible rfl)
                (try simp only [Act.put, List.setIfInBounds_toArray, List.set_cons_zero, List.set_cons_succ])
                have m6 : w6.cell? ⟨M, 3 + i, none⟩ = some (.slice Ar j cr) := (HT6.out.vm.cell (3 + i)).trans (HMG.out _)
                have f6 := HT6.out.vm.free (3 + i)
                refine wpAnyH_ready (rs := [11]) (by kernel_rfl) (by simp) ?_
                refine reg_cons _ rfl (fun K' hK => ?_) AllReadyH.nil
                go_simp
                refine hK.out _ _ (V56.out.setO (by omega) _ _) (fun hH => ?_)
                clear hK
                refine wpAnyH_done (by kernel_rfl) ?_ _
                clear hH m6 f6
                go_wp2_with fail
                go_roundw
                case rel =>
                  refine ⟨j + 1, l3 ++ [⟨A3, c3, dA3, dc3, tA3, tc3, p.r⟩], A6, c6, by omega, by go_num, hc6, Lib.hid (HT6.out.setS (v := .slice A6 (j + 1) c6)), Lib.hid ?_, Lib.hid ?_, Lib.hid (Held.rF (x := ⟨A3, c3, dA3, dc3, tA3, tc3, p.r⟩) (B := w2.heap.size) HH3.out HO3.out (HB12.out.trans (hb3.mono HB12.out.size)) HB12.out.size hn3 hd3 ht3 hb4 hhi.2 hgr6)⟩
                  · rw [HTK.out, List.map_append, HL3.out]; rfl
                  · rw [rcs_snoc]
                    exact OwM.setL hown6 (by omega) _ _
                case measure => simp [intOf]; omega
              · go_simp
                go_at_call 58
                refine K1.out.mono ?_
                rintro e w3 ⟨⟨A3, c3, dA3, dc3, tA3, tc3, r3⟩, hyr, rfl, hn3, hd3, ht3, hb3'⟩
                simp only at hyr
                subst hyr
                unfold RR.cells
                simp only at hn3 hd3 ht3
                dsimp only
                have hb3 : Below w2.heap.size w2 w3 := (Below.refl w2.heap.size w2).drew.trans hb3'
                have HT3 := Lib.hid (HT1.out.far hb3)
                have V53 := Lib.hid (V5.out.below hb3 V5.out.lt)
                refine hK.out _ _ V53.out (fun hH => ?_)
                (try simp only [Act.put, List.setIfInBounds_toArray, List.set_cons_zero, List.set_cons_succ])
                clear hK
                refine wpAnyH_ready (rs := [4, 7]) (by kernel_rfl) (by simp) ?_
                refine reg_cons _ rfl (fun K' hK => ?_) (reg_cons _ rfl (fun K' hK => ?_) AllReadyH.nil)
                · have m2 : w3.cell? ⟨M, 3 + i, none⟩ = some (.slice Ar j cr) := (HT3.out.vm.cell (3 + i)).trans (HMG.out _)
                  go_simp
                  refine hK.out _ _ V53.out (fun hH => ?_)
                  (try simp only [Act.put, List.setIfInBounds_toArray, List.set_cons_zero, List.set_cons_succ])
                  clear hK m2
                  refine wpAnyH_ready (rs := [7]) (by kernel_rfl) (by simp) ?_
                  refine reg_cons _ rfl (fun K' hK => ?_) AllReadyH.nil
                  go_simp
                  have hb4 := below_new w3 (.cells #[.slice A3 p.r.q.nm.length c3, .int .u16 (p.r.q.ty : Int), .int .u16 (p.r.q.cl : Int), .int .u32 (p.r.ttl : Int), .slice dA3 p.r.d.length dc3, .int .u16 (p.r.pr : Int), .int .u16 (p.r.we : Int), .int .u16 (p.r.po : Int), .slice tA3 p.r.tg.length tc3] 113)
                  refine hK.out _ _ (V53.out.below hb4 V53.out.lt) (fun hH => ?_)
                  (try simp only [Act.put, List.setIfInBounds_toArray, List.set_cons_zero, List.set_cons_succ])
                  clear hK
                  have hbase : M + 1 ≤ w3.heap.size := HT3.out.hi.2
                  refine wpAnyH_ready (rs := [8]) (by kernel_rfl) (by simp) ?_
                  refine reg_cons _ rfl (fun K' hK => ?_) AllReadyH.nil
                  refine step_appM rfl _ _ _ _ rfl (M + 1) 9 113 j0 _ 96 Try.underlying74 hj' hy0 hy1 hy2 rfl (by omega) (.slice Ar j cr) j (rcs l3) ((((HO3.out.far HB12.out).far hb3).alloc _)) rfl (.slice (some ⟨w3.heap.size, 0, none⟩) 1 1) rfl 1 (RR.cells ⟨A3, c3, dA3, dc3, tA3, tc3, p.r⟩) (litM_src Try.underlying74 _ 9 _ 1 rfl (rcells_one ⟨A3, c3, dA3, dc3, tA3, tc3, p.r⟩)) (by omega) (by simp; omega) ?_
                  intro v6 w6 hown6 hgr6 hsz6
                  obtain ⟨A6, c6, rfl, hc6, _, _⟩ := hown6.form
                  have HT6 := Lib.hid ((HT3.out.far hb4).gr hgr6 (OwM.lt HO3.out))
                  have V56 := Lib.hid ((V53.out.below hb4 V53.out.lt).grown hgr6.1 (fun e => by have := OwM.block_lt HO3.out T e.symm; have := HTE.out; omega))
                  refine hK.out _ _ V56.out (fun hH => ?_)
                  (try simp only [Act.put, List.setIfInBounds_toArray, List.set_cons_zero, List.set_cons_succ])
                  clear hK
                  refine reg_take 10 (v := ?_) rfl (by kernel_rfl) (fun _ _ _ h => h) (by rfl) hH ?_ ?_
                  rotate_left
                  · intro w hSw; (try dsimp only at hSw); go_simp; (try with_reducible rfl)
                  (try simp only [Act.put, List.setIfInBounds_toArray, List.set_cons_zero, List.set_cons_succ])
                  have m6 : w6.cell? ⟨M, 3 + i, none⟩ = some (.slice Ar j cr) := (HT6.out.vm.cell (3 + i)).trans (HMG.out _)
                  have f6 := HT6.out.vm.free (3 + i)
                  refine wpAnyH_ready (rs := [11]) (by kernel_rfl) (by simp) ?_
                  refine reg_cons _ rfl (fun K' hK => ?_) AllReadyH.nil
                  go_simp
                  refine hK.out _ _ (V56.out.setO (by omega) _ _) (fun hH => ?_)
                  clear hK
                  refine wpAnyH_done (by kernel_rfl) ?_ _
                  clear hH m6 f6
                  go_wp2_with fail
                  go_roundw
                  case rel =>
                    refine ⟨j + 1, l3 ++ [⟨A3, c3, dA3, dc3, tA3, tc3, p.r⟩], A6, c6, by omega, by go_num, hc6, Lib.hid (HT6.out.setS (v := .slice A6 (j + 1) c6)), Lib.hid ?_, Lib.hid ?_, Lib.hid (Held.rF (x := ⟨A3, c3, dA3, dc3, tA3, tc3, p.r⟩) (B := w2.heap.size) HH3.out HO3.out (HB12.out.trans (hb3.mono HB12.out.size)) HB12.out.size hn3 hd3 ht3 hb4 hhi.2 hgr6)⟩
                    · rw [HTK.out, List.map_append, HL3.out]; rfl
                    · rw [rcs_snoc]
                      exact OwM.setL hown6 (by omega) _ _
                  case measure => simp [intOf]; omega
                · go_simp
                  have hb4 := below_new w3 (.cells #[.slice A3 p.r.q.nm.length c3, .int .u16 (p.r.q.ty : Int), .int .u16 (p.r.q.cl : Int), .int .u32 (p.r.ttl : Int), .slice dA3 p.r.d.length dc3, .int .u16 (p.r.pr : Int), .int .u16 (p.r.we : Int), .int .u16 (p.r.po : Int), .slice tA3 p.r.tg.length tc3] 113)
                  refine hK.out _ _ (V53.out.below hb4 V53.out.lt) (fun hH => ?_)
                  (try simp only [Act.put, List.setIfInBounds_toArray, List.set_cons_zero, List.set_cons_succ])
                  clear hK
                  refine wpAnyH_ready (rs := [4]) (by kernel_rfl) (by simp) ?_
                  refine reg_cons _ rfl (fun K' hK => ?_) AllReadyH.nil
                  have m2 : (w3.alloc (.cells #[.slice A3 p.r.q.nm.length c3, .int .u16 (p.r.q.ty : Int), .int .u16 (p.r.q.cl : Int), .int .u32 (p.r.ttl : Int), .slice dA3 p.r.d.length dc3, .int .u16 (p.r.pr : Int), .int .u16 (p.r.we : Int), .int .u16 (p.r.po : Int), .slice tA3 p.r.tg.length tc3] 113)).cell? ⟨M, 3 + i, none⟩ = some (.slice Ar j cr) := ((HT3.out.far hb4).vm.cell (3 + i)).trans (HMG.out _)
                  go_simp
                  refine hK.out _ _ (V53.out.below hb4 V53.out.lt) (fun hH => ?_)
                  (try simp only [Act.put, List.setIfInBounds_toArray, List.set_cons_zero, List.set_cons_succ])
                  clear hK m2
                  have hbase : M + 1 ≤ w3.heap.size := HT3.out.hi.2
                  refine wpAnyH_ready (rs := [8]) (by kernel_rfl) (by simp) ?_
                  refine reg_cons _ rfl (fun K' hK => ?_) AllReadyH.nil
                  refine step_appM rfl _ _ _ _ rfl (M + 1) 9 113 j0 _ 96 Try.underlying74 hj' hy0 hy1 hy2 rfl (by omega) (.slice Ar j cr) j (rcs l3) ((((HO3.out.far HB12.out).far hb3).alloc _)) rfl (.slice (some ⟨w3.heap.size, 0, none⟩) 1 1) rfl 1 (RR.cells ⟨A3, c3, dA3, dc3, tA3, tc3, p.r⟩) (litM_src Try.underlying74 _ 9 _ 1 rfl (rcells_one ⟨A3, c3, dA3, dc3, tA3, tc3, p.r⟩)) (by omega) (by simp; omega) ?_
                  intro v6 w6 hown6 hgr6 hsz6
                  obtain ⟨A6, c6, rfl, hc6, _, _⟩ := hown6.form
                  have HT6 := Lib.hid ((HT3.out.far hb4).gr hgr6 (OwM.lt HO3.out))
                  have V56 := Lib.hid ((V53.out.below hb4 V53.out.lt).grown hgr6.1 (fun e => by have := OwM.block_lt HO3.out T e.symm; have := HTE.out; omega))
                  refine hK.out _ _ V56.out (fun hH => ?_)
                  (try simp only [Act.put, List.setIfInBounds_toArray, List.set_cons_zero, List.set_cons_succ])
                  clear hK
                  refine reg_take 10 (v := ?_) rfl (by kernel_rfl) (fun _ _ _ h => h) (by rfl) hH ?_ ?_
                  rotate_left
                  · intro w hSw; (try dsimp only at hSw); go_simp; (try with_reducible rfl)
                  (try simp only [Act.put, List.setIfInBounds_toArray, List.set_cons_zero, List.set_cons_succ])
                  have m6 : w6.cell? ⟨M, 3 + i, none⟩ = some (.slice Ar j cr) := (HT6.out.vm.cell (3 + i)).trans (HMG.out _)
                  have f6 := HT6.out.vm.free (3 + i)
                  refine wpAnyH_ready (rs := [11]) (by kernel_rfl) (by simp) ?_
                  refine reg_cons _ rfl (fun K' hK => ?_) AllReadyH.nil
                  go_simp
                  refine hK.out _ _ (V56.out.setO (by omega) _ _) (fun hH => ?_)
                  clear hK
                  refine wpAnyH_done (by kernel_rfl) ?_ _
                  clear hH m6 f6
                  go_wp2_with fail
                  go_roundw
                  case rel =>
                    refine ⟨j + 1, l3 ++ [⟨A3, c3, dA3, dc3, tA3, tc3, p.r⟩], A6, c6, by omega, by go_num, hc6, Lib.hid (HT6.out.setS (v := .slice A6 (j + 1) c6)), Lib.hid ?_, Lib.hid ?_, Lib.hid (Held.rF (x := ⟨A3, c3, dA3, dc3, tA3, tc3, p.r⟩) (B := w2.heap.size) HH3.out HO3.out (HB12.out.trans (hb3.mono HB12.out.size)) HB12.out.size hn3 hd3 ht3 hb4 hhi.2 hgr6)⟩
                    · rw [HTK.out, List.map_append, HL3.out]; rfl
                    · rw [rcs_snoc]
                      exact OwM.setL hown6 (by omega) _ _
                  case measure => simp [intOf]; omega
            · have hjn : j = cn := by omega
              subst hjn
              have hl3 : l3.length = j := by
                have := HO3.out.len
                rw [rcs_length] at this
                omega
              have HL3L := Lib.hid hl3
              have htl : l3.map RR.r = (x.rl i).map RR.r := by rw [HL3.out, ← HCN.out, List.take_length]
              have HTL := Lib.hid htl
              clear hl3 htl
              go_wp2_with fail
              go_roundw
              case rel =>
                refine ⟨i + 1, rs ++ [⟨Ar, cr, l3⟩], by omega, by go_num, by simp [hrl], Lib.hid ?_, Lib.hid ?_, Lib.hid ?_⟩
                · have := mcs_snoc x.id x.fl (.slice Aq k cq) rs (by omega) ⟨Ar, cr, l3⟩
                  unfold RW.v at this
                  simp only at this
                  rw [HL3L.out, hrl] at this
                  rw [← this]
                  exact HT.out
                · rw [List.map_append, HL.out, List.range_succ, List.map_append]
                  simp only [List.map_cons, List.map_nil]
                  rw [HTL.out]
                · refine (HH3.out.fin (rwRf Ar cr l3) (show (rwRf Ar cr l3).ok wr (M + 1) by
                    unfold Ob.ok rwRf
                    rw [HL3L.out]
                    exact HO3.out)).mono fun o ho => ?_
                  rcases ho with ho | ⟨r, hr, e⟩
                  · exact Or.inr (Or.inl (Or.inl ho))
                  · rcases List.mem_append.1 hr with hr | hr
                    · exact Or.inr (Or.inl (Or.inr ⟨r, hr, e⟩))
                    · simp at hr
                      subst hr
                      rcases e with e | e
                      · exact Or.inl e
                      · exact Or.inr (Or.inr e)
              case measure => simp [intOf]; omega
        · have hi3' : i = 3 := by omega
          subst hi3'
          match rs, hrl with
          | [x0, x1, x2], _ =>
            have hMO : ∀ W, Only wr W R → MOwF W w.heap.size ⟨x.id, x.fl, Aq, cq, l, x0.A, x0.c, x0.l, x1.A, x1.c, x1.l, x2.A, x2.c, x2.l⟩ := by
              intro W hW
              have hB : R < M + 1 := by have := HT.out.lo; omega
              have hB2 : w.heap.size ≤ M + 1 := by have := HT.out.lo; omega
              have h1 := HH.out.only hW hB
              have hm : ∀ o, ((o = rwQf Aq cq l ∨ DQ l o) ∨ ∃ r ∈ [x0, x1, x2], o = rwRf r.A r.c r.l ∨ DR r.l o) → o.ok W w.heap.size := fun o ho => OwM.mono (h1.dn o ho) hB2
              exact ⟨hm _ (Or.inl (Or.inl rfl)), hm _ (Or.inr ⟨x0, by simp, Or.inl rfl⟩), hm _ (Or.inr ⟨x1, by simp, Or.inl rfl⟩), hm _ (Or.inr ⟨x2, by simp, Or.inl rfl⟩), fun o ho => hm _ (Or.inl (Or.inr ho)), fun o ho => hm _ (Or.inr ⟨x0, by simp, Or.inr ho⟩), fun o ho => hm _ (Or.inr ⟨x1, by simp, Or.inr ho⟩), fun o ho => hm _ (Or.inr ⟨x2, by simp, Or.inr ho⟩)⟩
            have HMO := Lib.hid hMO
            clear hMO
            have hcs : mcs x.id x.fl (.slice Aq k cq) [x0, x1, x2] = MR.cells ⟨x.id, x.fl, Aq, cq, l, x0.A, x0.c, x0.l, x1.A, x1.c, x1.l, x2.A, x2.c, x2.l⟩ := by
              unfold MR.cells
              simp only
              rw [HLQ.out]; rfl
            have HCS := Lib.hid hcs
            clear hcs
            go_wp2_with (first
              | (refine wpList_store_row rfl 77 _ _ rfl R _ rfl rfl _ _ HT.out.vr (by kernel_rfl) rfl (by kernel_rfl) ?_)
              | (refine wpList_load_row rfl 77 _ rfl M rfl _ _ _ _ HT.out.vm Try.underlying77 rfl (by kernel_rfl) ?_))
            refine bodyPost_ret (resM1f Try.results38 _ _ R _ _ rfl (HT.out.vr.row _) rfl) rfl ?_
            refine ⟨⟨x.id, x.fl, Aq, cq, l, x0.A, x0.c, x0.l, x1.A, x1.c, x1.l, x2.A, x2.c, x2.l⟩, ?_, by rw [HCS.out], HMO.out _ (Only.row _ _ _), HT.out.bl.trans ((Only.row _ _ _).below (by have := HT.out.lo; omega) (by have := HT.out.bl.size; omega))⟩
            have hz := HL.out
            simp only [List.map_cons, List.map_nil, List.range_succ, List.range_zero, List.nil_append, List.cons_append, List.cons.injEq, and_true] at hz
            obtain ⟨z0, z1, z2⟩ := hz
            show (⟨x.id, x.fl, l.map QR.q, x0.l.map RR.r, x1.l.map RR.r, x2.l.map RR.r⟩ : Ms) = _
            rw [HQL.out, z0, z1, z2]; rfl

open Go.RowKit
/-- strings and bytes of blocks from B on were written -/
structure Spo (B : Nat) (w w' : World) : Prop where
  bl : Below B w w'
  st : ∀ (g : Nat) (cs : Array Value), w.heap[g]? = some (Obj.cells cs 9 (0, 0)) → ∃ cs' : Array Value, w'.heap[g]? = some (Obj.cells cs' 9 (0, 0)) ∧ cs'.size = cs.size
  by_ : ∀ (g : Nat) (cs : Array Value), w.heap[g]? = some (Obj.cells cs 5 (0, 0)) → ∃ cs' : Array Value, w'.heap[g]? = some (Obj.cells cs' 5 (0, 0)) ∧ ∀ k : Nat, (∃ z : Nat, z < 256 ∧ cs[k]? = some (.int .u8 (z : Int))) → (∃ z : Nat, z < 256 ∧ cs'[k]? = some (.int .u8 (z : Int)))
  ot : ∀ (g : Nat) (cs : Array Value) (e : TypeId), e ≠ 9 → e ≠ 5 → w.heap[g]? = some (Obj.cells cs e (0, 0)) → w'.heap[g]? = some (Obj.cells cs e (0, 0))
theorem Spo.refl (B : Nat) (w : World) : Spo B w w := ⟨Below.refl _ _, fun g cs h => ⟨cs, h, rfl⟩, fun g cs h => ⟨cs, h, fun _ h => h⟩, fun _ _ _ _ _ h => h⟩
theorem Spo.trans {B : Nat} {a b c : World} (h : Spo B a b) (k : Spo B b c) : Spo B a c := by
  refine ⟨h.bl.trans k.bl, fun g cs hg => ?_, fun g cs hg => ?_, fun g cs e h1 h2 hg => k.ot g cs e h1 h2 (h.ot g cs e h1 h2 hg)⟩
  · obtain ⟨c1, h1, h2⟩ := h.st g cs hg
    obtain ⟨c2, h3, h4⟩ := k.st g c1 h1
    exact ⟨c2, h3, h4.trans h2⟩
  · obtain ⟨c1, h1, h2⟩ := h.by_ g cs hg
    obtain ⟨c2, h3, h4⟩ := k.by_ g c1 h1
    exact ⟨c2, h3, fun j hj => h4 j (h2 j hj)⟩
theorem Spo.of {B : Nat} {w w' : World} (h : Below w.heap.size w w') (hB : B ≤ w.heap.size) : Spo B w w' := by
  have hk : ∀ g o, w.heap[g]? = some o → w'.heap[g]? = some o := fun g o hg => (h.block g (kp_lt hg)).trans hg
  exact ⟨h.mono hB, fun g cs hg => ⟨cs, hk g _ hg, rfl⟩, fun g cs hg => ⟨cs, hk g _ hg, fun _ h => h⟩, fun g cs e _ _ hg => hk g _ hg⟩
theorem Spo.setS {B b k : Nat} {w : World} {cs : Array Value} (h : w.heap[b]? = some (Obj.cells cs 9 (0, 0))) (hb : B ≤ b) (u : Value) : Spo B w (w.setCell ⟨b, k, none⟩ u) := by
  have h1 := heap_setCell_same w b k cs _ u h
  have h2 : ∀ g, g ≠ b → (w.setCell ⟨b, k, none⟩ u).heap[g]? = w.heap[g]? := fun g hg => heap_setCell_other w ⟨b, k, none⟩ g u hg
  refine ⟨(Below.refl B w).setCell hb u, fun g c hg => ?_, fun g c hg => ?_, fun g c e e1 e2 hg => ?_⟩
  · by_cases e : g = b
    · subst e
      rw [h] at hg
      injection hg with hg
      injection hg with hg
      subst hg
      exact ⟨_, h1, by simp⟩
    · exact ⟨c, (h2 g e).trans hg, rfl⟩
  · by_cases e : g = b
    · subst e
      rw [h] at hg
      injection hg with hg
      injection hg with _ hg
      exact absurd hg (by decide)
    · exact ⟨c, (h2 g e).trans hg, fun _ h => h⟩
  · by_cases e0 : g = b
    · subst e0
      rw [h] at hg
      injection hg with hg
      injection hg with _ hg
      exact absurd hg.symm e1
    · exact (h2 g e0).trans hg
theorem Spo.setU {B b k : Nat} {w : World} {cs : Array Value} (h : w.heap[b]? = some (Obj.cells cs 5 (0, 0))) (hb : B ≤ b) (z : Nat) (hz : z < 256) : Spo B w (w.setCell ⟨b, k, none⟩ (.int .u8 (z : Int))) := by
  have h1 := heap_setCell_same w b k cs _ (.int .u8 (z : Int)) h
  have h2 : ∀ g, g ≠ b → (w.setCell ⟨b, k, none⟩ (.int .u8 (z : Int))).heap[g]? = w.heap[g]? := fun g hg => heap_setCell_other w ⟨b, k, none⟩ g _ hg
  refine ⟨(Below.refl B w).setCell hb _, fun g c hg => ?_, fun g c hg => ?_, fun g c e e1 e2 hg => ?_⟩
  · by_cases e : g = b
    · subst e
      rw [h] at hg
      injection hg with hg
      injection hg with _ hg
      exact absurd hg (by decide)
    · exact ⟨c, (h2 g e).trans hg, rfl⟩
  · by_cases e : g = b
    · subst e
      rw [h] at hg
      injection hg with hg
      injection hg with hg
      subst hg
      refine ⟨_, h1, fun j hj => ?_⟩
      obtain ⟨y, hy1, hy2⟩ := hj
      by_cases hjk : k = j
      · subst hjk
        refine ⟨z, hz, ?_⟩
        have hlt : k < cs.size := by
          rcases Nat.lt_or_ge k cs.size with h3 | h3
          · exact h3
          · rw [Array.getElem?_eq_none h3] at hy2; cases hy2
        rw [Array.getElem?_setIfInBounds_self_of_lt hlt]
      · exact ⟨y, hy1, by rw [Array.getElem?_setIfInBounds_ne hjk]; exact hy2⟩
    · exact ⟨c, (h2 g e).trans hg, fun _ h => h⟩
  · by_cases e0 : g = b
    · subst e0
      rw [h] at hg
      injection hg with hg
      injection hg with _ hg
      exact absurd hg.symm e2
    · exact (h2 g e0).trans hg
/-- room for n strings, and n bytes, from block B on -/
def TS (w : World) (B : Nat) (A : Option Addr) (n : Nat) : Prop := 0 < n → ∃ (g : Nat) (cs : Array Value), A = some ⟨g, 0, none⟩ ∧ B ≤ g ∧ w.heap[g]? = some (Obj.cells cs 9 (0, 0)) ∧ n ≤ cs.size
def TU (w : World) (B : Nat) (A : Option Addr) (n : Nat) : Prop := 0 < n → ∃ (g : Nat) (cs : Array Value), A = some ⟨g, 0, none⟩ ∧ B ≤ g ∧ w.heap[g]? = some (Obj.cells cs 5 (0, 0)) ∧ ∀ k, k < n → ∃ z : Nat, z < 256 ∧ cs[k]? = some (.int .u8 (z : Int))
theorem TS.spo {w w' : World} {B n : Nat} {A : Option Addr} (h : TS w B A n) (s : Spo B w w') : TS w' B A n := fun hn => by
  obtain ⟨g, cs, h1, h2, h3, h4⟩ := h hn
  obtain ⟨c2, h5, h6⟩ := s.st g cs h3
  exact ⟨g, c2, h1, h2, h5, by omega⟩
theorem TU.spo {w w' : World} {B n : Nat} {A : Option Addr} (h : TU w B A n) (s : Spo B w w') : TU w' B A n := fun hn => by
  obtain ⟨g, cs, h1, h2, h3, h4⟩ := h hn
  obtain ⟨c2, h5, h6⟩ := s.by_ g cs h3
  exact ⟨g, c2, h1, h2, h5, fun k hk => h6 k (h4 k hk)⟩
theorem TS.of {w : World} {B c : Nat} {A : Option Addr} {n : List (List UInt8)} (h : (nmO A c n).ok w B) : TS w B A n.length := fun hn => by
  obtain ⟨h1, h2 | ⟨g, cap, cur, h3, h4, h5, h6, h7, h8, h9⟩⟩ := h
  · obtain ⟨_, h3⟩ := h2
    simp [nmO] at h3
    subst h3
    cases hn
  · simp only [nmO] at h3 h5 h6 h8
    injection h3 with e1 e2 e3
    exact ⟨g, cur, e1, h4, h5, by omega⟩
theorem TU.of {w : World} {B c : Nat} {A : Option Addr} {d : List UInt8} (h : (daO A c d).ok w B) : TU w B A d.length := fun hn => by
  obtain ⟨h1, h2 | ⟨g, cap, cur, h3, h4, h5, h6, h7, h8, h9⟩⟩ := h
  · obtain ⟨_, h3⟩ := h2
    simp [daO] at h3
    subst h3
    cases hn
  · simp only [daO] at h3 h5 h6 h8 h9
    injection h3 with e1 e2 e3
    refine ⟨g, cur, e1, h4, h5, fun k hk => ⟨d[k].toNat, d[k].toNat_lt, ?_⟩⟩
    have h10 : (cur.toList.take (d.length * 1))[k]? = some (.int .u8 (d[k].toNat : Int)) := by
      rw [bc_length] at h9
      rw [h9]
      simp [bc, hk]
    rw [List.getElem?_take_of_lt (by omega)] at h10
    simpa using h10
theorem OwM.spo {w w' : World} {B base s n : Nat} {e : TypeId} {v : Value} {xs : List Value} (h : OwM w base e s v n xs) (h1 : e ≠ 9) (h2 : e ≠ 5) (k : Spo B w w') : OwM w' base e s v n xs := by
  obtain ⟨a, hb | ⟨g, cap, cur, h3, h4, h5, h6⟩⟩ := h
  · exact ⟨a, Or.inl hb⟩
  · exact ⟨a, Or.inr ⟨g, cap, cur, h3, h4, k.ot g cur e h1 h2 h5, h6⟩⟩
set_option maxRecDepth 100000 in
set_option maxHeartbeats 16000000 in
theorem spoil_at (x : RR) (B : Nat) (w : World) (hB : B ≤ w.heap.size) (hn : TS w B x.A x.r.q.nm.length) (ht : TS w B x.tA x.r.tg.length) (hd : TU w B x.dA x.r.d.length) (l1 : x.r.q.nm.length ≤ 140737488355328) (l2 : x.r.tg.length ≤ 140737488355328) (l3 : x.r.d.length ≤ 140737488355328) :
    Calls Try.prog 39 #[.agg x.cells.toArray] w fun e w' => e = .returned (.tuple #[]) ∧ Spo B w w' := by
  obtain ⟨A, c, dA, dc, tA, tc, ⟨⟨nm, ty, cl⟩, ttl, d, pr, we, po, tg⟩⟩ := x
  simp only at hn ht hd l1 l2 l3
  obtain ⟨w1, hw1⟩ : ∃ w1, w1 = w.alloc (.cells (RR.cells ⟨A, c, dA, dc, tA, tc, ⟨⟨nm, ty, cl⟩, ttl, d, pr, we, po, tg⟩⟩).toArray 49) := ⟨_, rfl⟩
  have hs1 : Spo B w w1 := by rw [hw1]; exact Spo.of (below_new _ _) hB
  have hv1 : w1.heap[w.heap.size]? = some (Obj.cells (RR.cells ⟨A, c, dA, dc, tA, tc, ⟨⟨nm, ty, cl⟩, ttl, d, pr, we, po, tg⟩⟩).toArray 49 (0, 0)) := by rw [hw1]; exact Vx.new w _ _
  obtain ⟨n, hnn⟩ : ∃ n, n = nm.length := ⟨_, rfl⟩
  obtain ⟨t, htt⟩ : ∃ t, t = tg.length := ⟨_, rfl⟩
  obtain ⟨dl, hdl⟩ : ∃ dl, dl = d.length := ⟨_, rfl⟩
  have HVX := Lib.hid (show ∀ W, Spo B w1 W → Vx W w.heap.size 49 [.slice A n c, .int .u16 (ty : Int), .int .u16 (cl : Int), .int .u32 (ttl : Int), .slice dA dl dc, .int .u16 (pr : Int), .int .u16 (we : Int), .int .u16 (po : Int), .slice tA t tc] by
    intro W hW
    have := hW.ot _ _ _ (by decide) (by decide) hv1
    rw [hnn, htt, hdl]
    exact this)
  rw [← hnn] at hn l1
  rw [← htt] at ht l2
  rw [← hdl] at hd l3
  have HN := Lib.hid (hn.spo hs1)
  have HT := Lib.hid (ht.spo hs1)
  have HD := Lib.hid (hd.spo hs1)
  have HS1 := Lib.hid hs1
  have HW1 := Lib.hid hw1
  clear hn ht hd hs1 hv1 hnn htt hdl hw1
  go_enter Try.func39, Try.ntmps39
  go_upto_region 1 with fail
  generalize hW2 : World.alloc w _ = W2
  have eW : W2 = w1 := hW2.symm.trans HW1.out.symm
  clear hW2 HW1
  subst eW
  obtain ⟨a0, a1, a2, a3, a4, a5, a6, a7, a8⟩ := (HVX.out W2 (Spo.refl _ _)).c9
  go_wp2_with fail
  clear a0 a1 a2 a3 a4 a5 a6 a7 a8
  go_loopw [9] (fun vi wr => ∃ k : Nat, k ≤ n ∧ vi = .int .i64 k ∧ Hid (Spo B W2 wr)) (fun vi _ => n - (intOf vi).toNat)
  case atStart => exact ⟨0, Nat.zero_le _, rfl, Lib.hid (Spo.refl _ _)⟩
  case round =>
    obtain ⟨k, hk, rfl, HK⟩ := hrel
    obtain ⟨a0, a1, a2, a3, a4, a5, a6, a7, a8⟩ := (HVX.out wr HK.out).c9
    rcases Nat.lt_or_ge k n with hlt | hge
    · obtain ⟨g, cs, rfl, hgB, hcs, hsz⟩ := (HN.out.spo HK.out) (by omega)
      have m0 : wr.cell? ⟨g, k, none⟩ = some cs[k] := by rw [cell_of_row wr g k cs _ _ hcs, Array.getElem?_eq_getElem]
      have f0 : wr.frozen? ⟨g, k, none⟩ = false := by simp [World.frozen?, hcs]
      have hlt' : (k : Int) < (n : Int) := by omega
      have HCS := Lib.hid hcs
      clear hcs
      go_wp2_with fail
      go_roundw
      case rel => exact ⟨k + 1, by omega, by go_num, Lib.hid (HK.out.trans (Spo.setS HCS.out hgB _))⟩
      case measure => simp [intOf]; omega
    · have hkn : (n : Int) ≤ (k : Int) := by omega
      go_wp2_with fail
      clear a0 a1 a2 a3 a4 a5 a6 a7 a8
      have HK0 := HK
      clear HK
      go_loopw [21] (fun vi wr => ∃ k : Nat, k ≤ t ∧ vi = .int .i64 k ∧ Hid (Spo B W2 wr)) (fun vi _ => t - (intOf vi).toNat)
      case atStart => exact ⟨0, Nat.zero_le _, rfl, HK0⟩
      case round =>
        obtain ⟨k, hk, rfl, HK⟩ := hrel
        obtain ⟨a0, a1, a2, a3, a4, a5, a6, a7, a8⟩ := (HVX.out wr HK.out).c9
        rcases Nat.lt_or_ge k t with hlt | hge
        · obtain ⟨g, cs, rfl, hgB, hcs, hsz⟩ := (HT.out.spo HK.out) (by omega)
          have m0 : wr.cell? ⟨g, k, none⟩ = some cs[k] := by rw [cell_of_row wr g k cs _ _ hcs, Array.getElem?_eq_getElem]
          have f0 : wr.frozen? ⟨g, k, none⟩ = false := by simp [World.frozen?, hcs]
          have hlt' : (k : Int) < (t : Int) := by omega
          have HCS := Lib.hid hcs
          clear hcs
          go_wp2_with fail
          go_roundw
          case rel => exact ⟨k + 1, by omega, by go_num, Lib.hid (HK.out.trans (Spo.setS HCS.out hgB _))⟩
          case measure => simp [intOf]; omega
        · have hkn : (t : Int) ≤ (k : Int) := by omega
          go_wp2_with fail
          clear a0 a1 a2 a3 a4 a5 a6 a7 a8
          have HK1 := HK
          clear HK
          go_loopw [32] (fun vi wr => ∃ k : Nat, k ≤ dl ∧ vi = .int .i64 k ∧ Hid (Spo B W2 wr)) (fun vi _ => dl - (intOf vi).toNat)
          case atStart => exact ⟨0, Nat.zero_le _, rfl, HK1⟩
          case round =>
            obtain ⟨k, hk, rfl, HK⟩ := hrel
            obtain ⟨a0, a1, a2, a3, a4, a5, a6, a7, a8⟩ := (HVX.out wr HK.out).c9
            rcases Nat.lt_or_ge k dl with hlt | hge
            · obtain ⟨g, cs, rfl, hgB, hcs, hsz⟩ := (HD.out.spo HK.out) (by omega)
              obtain ⟨z, hz, hzc⟩ := hsz k hlt
              have m0 : wr.cell? ⟨g, k, none⟩ = some (.int .u8 (z : Int)) := by rw [cell_of_row wr g k cs _ _ hcs, hzc]
              have f0 : wr.frozen? ⟨g, k, none⟩ = false := by simp [World.frozen?, hcs]
              obtain ⟨z2, hz2⟩ : ∃ z2, z2 = (z + 1) % 256 := ⟨_, rfl⟩
              have hz2l : z2 < 256 := by omega
              have kw : IntKind.u8.wrap ((z : Int) + 1) = (z2 : Int) := by rw [IntKind.wrap_u8]; omega
              have hlt' : (k : Int) < (dl : Int) := by omega
              have HCS := Lib.hid hcs
              clear hcs hz2 hzc hsz
              go_wp2_with fail
              go_roundw
              case rel => exact ⟨k + 1, by omega, by go_num, Lib.hid (HK.out.trans (Spo.setU HCS.out hgB z2 hz2l))⟩
              case measure => simp [intOf]; omega
            · have hkn : (dl : Int) ≤ (k : Int) := by omega
              go_wp2_with fail
              exact bodyPost_end (results_none Try.results39 _ _ _) rfl ⟨rfl, HS1.out.trans HK.out⟩
/-- what is read has names that can be copied -/
theorem cpy_of {x : MR} {b : List UInt8} (hx : x.m = (readM b).1) : Cpy x := by
  have hn : ∀ n : List (List UInt8), rightN n = true → n.length * 16 ≤ 140737488351232 := fun n h => by
    have h1 := size_right h
    have h2 := len_le_size n
    omega
  have hR : rightM x.m = true := by
    rw [hx]
    by_cases h0 : (readM b).2 = 0
    · exact (read_ok h0).1
    · rw [read_err h0]; rfl
  obtain ⟨a0, a1, a2, a3⟩ := resW hR
  refine ⟨fun q hq => hn _ (a0 q hq), fun i r hr => ?_⟩
  have hrr : rightR r.r = true := by
    match i, hr with
    | 0, hr => exact a1 r hr
    | 1, hr => exact a2 r hr
    | k + 2, hr => exact a3 r hr
  refine ⟨hn _ (rightR_nm hrr), ?_⟩
  have hn2 := rightR_nm hrr
  unfold rightR at hrr
  rw [if_pos hn2] at hrr
  split at hrr
  · split at hrr
    · exact hn _ hrr
    · cases hrr
  · have := (of_decide_eq_true hrr).2.2.2.2
    omega
theorem rows_of {w w' : World} {B : Nat} {x : MR} (h : MOw w B x) (hb : Below w.heap.size w w') (i : Nat) (hi : i < 3) : (rwR (x.rA i) (x.rc i) (x.rl i)).ok w' B ∧ ∀ o, DR (x.rl i) o → o.ok w' B := by
  rcases (show i = 0 ∨ i = 1 ∨ i = 2 by omega) with rfl | rfl | rfl
  · exact ⟨h.a.far hb, fun o ho => (h.r0 o ho).far hb⟩
  · exact ⟨h.b.far hb, fun o ho => (h.r1 o ho).far hb⟩
  · exact ⟨h.c.far hb, fun o ho => (h.r2 o ho).far hb⟩
theorem rows_at {w : World} {B c : Nat} {e : TypeId} {A : Option Addr} {l : List RR} (h : OwM w B e 9 (.slice A l.length c) l.length (rcs l)) {k : Nat} (hk : k < l.length) : ∃ b o, A = some ⟨b, o, none⟩ ∧ b < w.heap.size ∧ Nine w b (o + k * 9) l[k] := by
  obtain ⟨b, o, hA, hb, hc⟩ := (OwM.rd h).2 (by omega)
  refine ⟨b, o, hA, hb, fun j u hu => ?_⟩
  have hj : j < 9 := by
    rcases Nat.lt_or_ge j 9 with h1 | h1
    · exact h1
    · rw [List.getElem?_eq_none (by simpa using h1)] at hu; cases hu
  rw [Nat.add_assoc]
  exact hc _ u ((rcs_get l k j hk hj).trans hu)
set_option maxRecDepth 100000 in
set_option maxHeartbeats 16000000 in
theorem reads_at (A : Option Addr) (c : Nat) (b : List UInt8) (w : World) (h : Rd w w.heap.size A b.length (bc b)) (hc : b.length ≤ c) (hbl : b.length ≤ 140737488355328) :
    Calls Try.prog 12 #[.slice A b.length c] w fun e w' => e = .returned (.bool true) ∧ Below w.heap.size w w' := by
  have HR := Lib.hid h
  obtain ⟨m, hm⟩ : ∃ m, m = (readM b).1 := ⟨_, rfl⟩
  obtain ⟨er, her⟩ : ∃ er, er = (readM b).2 := ⟨_, rfl⟩
  have hrd : readM b = (m, er) := by rw [hm, her]
  have HRD := Lib.hid hrd
  have HM := Lib.hid hm
  have HER := Lib.hid her
  have K1 := Lib.hid (bclone_at A c b.length b w w.heap.size rfl (Nat.le_refl _) h hbl)
  clear h hm her hrd
  go_enter Try.func12, Try.ntmps12
  go_upto_region 4 with (first
    | (go_at_call 36
       refine (fread_at A c b (w2.alloc (.cells #[.int .u16 (id2 : Int), .int .u16 (fl2 : Int), .slice qA2 qs2.length qc2, .slice aA2 ra2.length ac2, .slice bA2 rb2.length bd2, .slice cA2 rc2.length cc2] 30)) ((HR.out.goes hbw3)) hc hbl).mono ?_
       rw [← HM.out, ← HER.out]
       rintro e w4 ⟨y, hym, rfl, hyo, hb4⟩
       obtain ⟨id4, fl4, qA4, qc4, qs4, aA4, ac4, ra4, bA4, bd4, rb4, cA4, cc4, rc4⟩ := y
       unfold MR.cells
       dsimp only
       have h34 : Below w1.heap.size w1 w4 := h13.trans (hb4.mono h13.size))
    | (go_at_call 14
       refine (readO_at A1 c1 b m er HRD.out w1 hr1 hc1 hA1 hbl).mono ?_
       rintro e w2 ⟨x, hxm, rfl, hxo, hxr, hb2⟩
       obtain ⟨id2, fl2, qA2, qc2, qs2, aA2, ac2, ra2, bA2, bd2, rb2, cA2, cc2, rc2⟩ := x
       unfold MR.cells
       dsimp only
       have hb3 := below_new w2 (.cells #[.int .u16 (id2 : Int), .int .u16 (fl2 : Int), .slice qA2 qs2.length qc2, .slice aA2 ra2.length ac2, .slice bA2 rb2.length bd2, .slice cA2 rc2.length cc2] 30)
       have v3 := Vx.new w2 30 [.int .u16 (id2 : Int), .int .u16 (fl2 : Int), .slice qA2 qs2.length qc2, .slice aA2 ra2.length ac2, .slice bA2 rb2.length bd2, .slice cA2 rc2.length cc2]
       have h13 := hb2.trans (hb3.mono hb2.size)
       have hbw3 := hb1.trans (h13.mono hb1.size))
    | (go_at_call 31
       refine K1.out.mono ?_
       rintro e w1 ⟨v1, rfl, ho1, hb1⟩
       obtain ⟨A1, c1, rfl, hc1, hr1⟩ := Ow.form7 ho1 b.length (by simp)
       have hA1 : ∀ a, A1 = some a → a.block < w1.heap.size := fun a ha => OwM.block_lt (show OwM w1 w.heap.size 5 1 (.slice A1 b.length c1) _ _ from ho1) a.block (by rw [ha]; rfl)))
  have hxm' : (MR.m ⟨id2, fl2, qA2, qc2, qs2, aA2, ac2, ra2, bA2, bd2, rb2, cA2, cc2, rc2⟩) = (readM b).1 := by rw [hxm, HM.out]
  have hym' : (MR.m ⟨id4, fl4, qA4, qc4, qs4, aA4, ac4, ra4, bA4, bd4, rb4, cA4, cc4, rc4⟩) = (readM b).1 := by rw [hym, HM.out]
  obtain ⟨G, hG⟩ : ∃ G, G = w2.heap.size := ⟨_, rfl⟩
  obtain ⟨F, hF⟩ : ∃ F, F = w4.heap.size := ⟨_, rfl⟩
  have v4 : Vx w4 w2.heap.size 30 [.int .u16 (id2 : Int), .int .u16 (fl2 : Int), .slice qA2 qs2.length qc2, .slice aA2 ra2.length ac2, .slice bA2 rb2.length bd2, .slice cA2 rc2.length cc2] := v3.below hb4 v3.lt
  have hbx := below_new w4 (.cells #[.int .u16 (id4 : Int), .int .u16 (fl4 : Int), .slice qA4 qs4.length qc4, .slice aA4 ra4.length ac4, .slice bA4 rb4.length bd4, .slice cA4 rc4.length cc4] 77)
  have V4 := Lib.hid (v4.below hbx v4.lt)
  have V6 := Lib.hid (Vx.new w4 77 [.int .u16 (id4 : Int), .int .u16 (fl4 : Int), .slice qA4 qs4.length qc4, .slice aA4 ra4.length ac4, .slice bA4 rb4.length bd4, .slice cA4 rc4.length cc4])
  have h24 : Below w2.heap.size w2 w4 := hb3.trans (hb4.mono hb3.size)
  have h25 := h24.trans (hbx.mono h24.size)
  have h15 := hb2.trans (h25.mono hb2.size)
  have h05 := hb1.trans (h15.mono hb1.size)
  have hxr5 := (hxr.below h25).more h25.size
  have hyr5 := ((readF_mrd hyo hym').below hbx).more hbx.size
  try rw [← hG]
  try rw [← hF]
  rw [← hG] at V4
  rw [← hF] at V6
  generalize w4.alloc (.cells #[.int .u16 (id4 : Int), .int .u16 (fl4 : Int), .slice qA4 qs4.length qc4, .slice aA4 ra4.length ac4, .slice bA4 rb4.length bd4, .slice cA4 rc4.length cc4] 77) = w5 at *
  have K5 := Lib.hid (turned_at ⟨id2, fl2, qA2, qc2, qs2, aA2, ac2, ra2, bA2, bd2, rb2, cA2, cc2, rc2⟩ w5.drew hxr5 (cpy_of hxm'))
  have HYR := Lib.hid hyr5
  have HXM := Lib.hid hxm'
  have HYM := Lib.hid hym'
  have HXO := Lib.hid hxo
  have HB2 := Lib.hid hb2
  have HB1 := Lib.hid hb1
  have H25 := Lib.hid h25
  have HO1 := Lib.hid ho1
  have H15 := Lib.hid h15
  have H05 := Lib.hid h05
  have HR1 := Lib.hid hr1
  have HXR := Lib.hid hxr5
  clear K1 hxm hym hxm' hym' hxo hxr hb2 hb1 hb3 hb4 v3 v4 hbx h24 h25 h15 h05 hxr5 hyr5 h34 h13 hbw3 hG hF hyo ho1 hr1
  refine wp_region_held_drew (S := fun w' => Vx w' G 30 [.int .u16 (id2 : Int), .int .u16 (fl2 : Int), .slice qA2 qs2.length qc2, .slice aA2 ra2.length ac2, .slice bA2 rb2.length bd2, .slice cA2 rc2.length cc2] ∧ Vx w' F 77 [.int .u16 (id4 : Int), .int .u16 (fl4 : Int), .slice qA4 qs4.length qc4, .slice aA4 ra4.length ac4, .slice bA4 rb4.length bd4, .slice cA4 rc4.length cc4]) (by kernel_rfl) ⟨V4.out, V6.out⟩ (fun hH => ?_)
  refine reg_take 0 (v := ?_) rfl (by kernel_rfl) (fun _ _ _ h => h) (by rfl) hH ?_ ?_
  rotate_left
  · intro w hSw; (try dsimp only at hSw); go_simp; (try with_reducible rfl)
  (try simp only [Act.put, List.setIfInBounds_toArray, List.set_cons_zero, List.set_cons_succ])
  refine reg_take 1 (v := ?_) rfl (by kernel_rfl) (fun _ _ _ h => h) (by rfl) hH ?_ ?_
  rotate_left
  · intro w hSw; (try dsimp only at hSw); go_simp; (try with_reducible rfl)
  (try simp only [Act.put, List.setIfInBounds_toArray, List.set_cons_zero, List.set_cons_succ])
  refine reg_take 2 (v := ?_) rfl (by kernel_rfl) (fun _ _ _ h => h) (by rfl) hH ?_ ?_
  rotate_left
  · intro w hSw; (try dsimp only at hSw); go_simp; (try with_reducible rfl)
  (try simp only [Act.put, List.setIfInBounds_toArray, List.set_cons_zero, List.set_cons_succ])
  refine reg_take 3 (v := ?_) rfl (by kernel_rfl) (fun _ _ _ h => h) (by rfl) hH ?_ ?_
  rotate_left
  · intro w hSw; (try dsimp only at hSw); go_simp; (try with_reducible rfl)
  (try simp only [Act.put, List.setIfInBounds_toArray, List.set_cons_zero, List.set_cons_succ])
  refine reg_load 4 rfl (by kernel_rfl) 30 _ (by rfl) G 30 [.int .u16 (id2 : Int), .int .u16 (fl2 : Int), .slice qA2 qs2.length qc2, .slice aA2 ra2.length ac2, .slice bA2 rb2.length bd2, .slice cA2 rc2.length cc2] _ (fun _ _ _ h => h) (by rfl) hH (by rfl) (fun w hS => hS.1) Try.underlying30 (by rfl) (by kernel_rfl) ?_
  (try simp only [Act.put, List.setIfInBounds_toArray, List.set_cons_zero, List.set_cons_succ])
  refine reg_load 6 rfl (by kernel_rfl) 77 _ (by rfl) F 77 [.int .u16 (id4 : Int), .int .u16 (fl4 : Int), .slice qA4 qs4.length qc4, .slice aA4 ra4.length ac4, .slice bA4 rb4.length bd4, .slice cA4 rc4.length cc4] _ (fun _ _ _ h => h) (by rfl) hH (by rfl) (fun w hS => hS.2) Try.underlying77 (by rfl) (by kernel_rfl) ?_
  (try simp only [Act.put, List.setIfInBounds_toArray, List.set_cons_zero, List.set_cons_succ])
  refine wpAnyH_ready (rs := [5]) (by kernel_rfl) (by simp) ?_
  refine reg_cons _ rfl (fun K' hK => ?_) AllReadyH.nil
  go_simp
  go_at_call 38
  refine K5.out.mono ?_
  rintro e w6 ⟨z, hzm, rfl, hzo, hb6'⟩
  have hb6 : Below w5.heap.size w5 w6 := (Below.refl w5.heap.size w5).drew.trans hb6'
  have hzr := readF_mrd hzo (hzm.trans HXM.out)
  have V46 := Lib.hid (V4.out.below hb6 V4.out.lt)
  have V66 := Lib.hid (V6.out.below hb6 V6.out.lt)
  have K7 := fsame_at z ⟨id4, fl4, qA4, qc4, qs4, aA4, ac4, ra4, bA4, bd4, rb4, cA4, cc4, rc4⟩ w6 hzr ((HYR.out.below hb6).more hb6.size)
  rw [(sameM_iff _ _).2 ((hzm.trans HXM.out).trans HYM.out.symm)] at K7
  obtain ⟨id6, fl6, qA6, qc6, qs6, aA6, ac6, ra6, bA6, bd6, rb6, cA6, cc6, rc6⟩ := z
  unfold MR.cells at K7 ⊢
  dsimp only at K7 ⊢
  have K7 := Lib.hid K7
  clear hzr hzo hzm
  refine hK.out _ _ ⟨V46.out, V66.out⟩ (fun hH => ?_)
  (try simp only [Act.put, List.setIfInBounds_toArray, List.set_cons_zero, List.set_cons_succ])
  clear hK
  refine wpAnyH_ready (rs := [7]) (by kernel_rfl) (by simp) ?_
  refine reg_cons _ rfl (fun K' hK => ?_) AllReadyH.nil
  go_simp
  go_at_call 37
  refine K7.out.mono ?_
  rintro e w7 ⟨rfl, hb7'⟩
  have hb7 := hb6.trans (hb7'.mono hb6.size)
  have V47 := Lib.hid (V4.out.below hb7 V4.out.lt)
  have V67 := Lib.hid (V6.out.below hb7 V6.out.lt)
  (try dsimp only)
  refine hK.out _ _ ⟨V47.out, V67.out⟩ (fun hH => ?_)
  (try simp only [Act.put, List.setIfInBounds_toArray, List.set_cons_zero, List.set_cons_succ])
  clear hK
  refine reg_take 8 (v := ?_) rfl (by kernel_rfl) (fun _ _ _ h => h) (by rfl) hH ?_ ?_
  rotate_left
  · intro w hSw; (try dsimp only at hSw); go_simp; (try with_reducible rfl)
  (try simp only [Act.put, List.setIfInBounds_toArray, List.set_cons_zero, List.set_cons_succ])
  refine reg_take 9 (v := ?_) rfl (by kernel_rfl) (fun _ _ _ h => h) (by rfl) hH ?_ ?_
  rotate_left
  · intro w hSw; (try dsimp only at hSw); go_simp; (try with_reducible rfl)
  (try simp only [Act.put, List.setIfInBounds_toArray, List.set_cons_zero, List.set_cons_succ])
  refine wpAnyH_done (by kernel_rfl) ?_ _
  obtain ⟨a0, a1, a2, a3, a4, a5⟩ := V47.out.c6
  clear hH K7 K5 V46 V66 V6 V4
  go_wp2_with fail
  have h27 := H25.out.trans (hb7.mono H25.out.size)
  have h17 := H15.out.trans (hb7.mono H15.out.size)
  have h07 := H05.out.trans (hb7.mono H05.out.size)
  have HRW := Lib.hid (rows_of HXO.out h27)
  have HRS := Lib.hid (fun i => HXR.out.rl i)
  have HR7 := Lib.hid (HR.out.goes h07)
  have HR17 := Lib.hid (HR1.out.below h17)
  have H07 := Lib.hid h07
  have H17 := Lib.hid h17
  have hB17 : w1.heap.size ≤ w7.heap.size := h17.size
  have hB01 : w.heap.size ≤ w1.heap.size := HB1.out.size
  clear h27 h17 h07 a0 a1 a2 a3 a4 a5 hb6 hb7 V47 V67
  go_loopw [36] (fun vi wr => ∃ i : Nat, i ≤ 3 ∧ vi = .int .i64 i ∧ Hid (Spo w1.heap.size w7 wr)) (fun vi _ => 3 - (intOf vi).toNat)
  case atStart => exact ⟨0, by omega, rfl, Lib.hid (Spo.refl _ _)⟩
  case round =>
    obtain ⟨i, hi3, rfl, HK⟩ := hrel
    rcases Nat.lt_or_ge i 3 with hlt | hge
    · have hidx := fun W => idx3_x ⟨id2, fl2, qA2, qc2, qs2, aA2, ac2, ra2, bA2, bd2, rb2, cA2, cc2, rc2⟩ W i hlt
      dsimp only at hidx
      have hrw := HRW.out i hlt
      have hrs := HRS.out i
      generalize MR.rA ⟨id2, fl2, qA2, qc2, qs2, aA2, ac2, ra2, bA2, bd2, rb2, cA2, cc2, rc2⟩ i = xA at hidx hrw hrs
      generalize MR.rc ⟨id2, fl2, qA2, qc2, qs2, aA2, ac2, ra2, bA2, bd2, rb2, cA2, cc2, rc2⟩ i = xc at hidx hrw hrs
      generalize MR.rl ⟨id2, fl2, qA2, qc2, qs2, aA2, ac2, ra2, bA2, bd2, rb2, cA2, cc2, rc2⟩ i = xl at hidx hrw hrs
      obtain ⟨cn, hcn⟩ : ∃ cn, cn = xl.length := ⟨_, rfl⟩
      rw [← hcn] at hidx
      have hcb : cn ≤ 1000000000000 := by rw [hcn]; exact hrs.2.2.2.1
      have hi3i : (i : Int) < 3 := by omega
      have HW := Lib.hid hrw
      have HS := Lib.hid hrs
      have HCN := Lib.hid hcn.symm
      clear hrw hrs hcn
      go_wp2_with fail
      clear hidx
      have HK0 := HK
      clear HK
      go_loopw [41] (fun vj wr => ∃ j : Nat, j ≤ cn ∧ vj = .int .i64 j ∧ Hid (Spo w1.heap.size w7 wr)) (fun vj _ => cn - (intOf vj).toNat)
      case atStart => exact ⟨0, Nat.zero_le _, rfl, HK0⟩
      case round =>
        clear HK0
        obtain ⟨j, hj, rfl, HK⟩ := hrel
        rcases Nat.lt_or_ge j cn with hjlt | hjge
        · have hjx : j < xl.length := by have := HCN.out; omega
          obtain ⟨b0, o0, hA0, hb0, hnine⟩ := rows_at (show OwM wr w1.heap.size 49 9 (.slice xA xl.length xc) xl.length (rcs xl) from OwM.spo HW.out.1 (by decide) (by decide) HK.out) hjx
          obtain ⟨c0, c1, c2, c3, c4, c5, c6, c7, c8⟩ := hnine.cells
          have hr := HS.out.2.2.2.2 _ (List.getElem_mem hjx)
          have hd1 := HW.out.2 _ ⟨_, List.getElem_mem hjx, Or.inl rfl⟩
          have hd2 := HW.out.2 _ ⟨_, List.getElem_mem hjx, Or.inr (Or.inl rfl)⟩
          have hd3 := HW.out.2 _ ⟨_, List.getElem_mem hjx, Or.inr (Or.inr rfl)⟩
          generalize xl[j] = p at *
          subst hA0
          have l1 : p.r.q.nm.length ≤ 140737488355328 := Nat.le_trans (len_le_size _) hr.1.1.2.2
          have l2 : p.r.tg.length ≤ 140737488355328 := Nat.le_trans (len_le_size _) hr.2.2.1.2.2
          have l3 : p.r.d.length ≤ 140737488355328 := hr.2.1.2.2
          have hs2 : Spo w1.heap.size wr (wr.alloc (.cells #[.slice p.A p.r.q.nm.length p.c, .int .u16 (p.r.q.ty : Int), .int .u16 (p.r.q.cl : Int), .int .u32 (p.r.ttl : Int), .slice p.dA p.r.d.length p.dc, .int .u16 (p.r.pr : Int), .int .u16 (p.r.we : Int), .int .u16 (p.r.po : Int), .slice p.tA p.r.tg.length p.tc] 49)) := Spo.of (below_new _ _) (Nat.le_trans hB17 HK.out.bl.size)
          have hk2 := HK.out.trans hs2
          have K9 := Lib.hid (spoil_at p w1.heap.size (wr.alloc (.cells #[.slice p.A p.r.q.nm.length p.c, .int .u16 (p.r.q.ty : Int), .int .u16 (p.r.q.cl : Int), .int .u32 (p.r.ttl : Int), .slice p.dA p.r.d.length p.dc, .int .u16 (p.r.pr : Int), .int .u16 (p.r.we : Int), .int .u16 (p.r.po : Int), .slice p.tA p.r.tg.length p.tc] 49)) (Nat.le_trans hB17 hk2.bl.size) ((TS.of hd1).spo hk2) ((TS.of hd3).spo hk2) ((TU.of hd2).spo hk2) l1 l2 l3)
          have HK2 := Lib.hid hk2
          have hjlt' : (j : Int) < (cn : Int) := by omega
          have v11 := Vx.new wr 49 [.slice p.A p.r.q.nm.length p.c, .int .u16 (p.r.q.ty : Int), .int .u16 (p.r.q.cl : Int), .int .u32 (p.r.ttl : Int), .slice p.dA p.r.d.length p.dc, .int .u16 (p.r.pr : Int), .int .u16 (p.r.we : Int), .int .u16 (p.r.po : Int), .slice p.tA p.r.tg.length p.tc]
          obtain ⟨e0, e1, e2, e3, e4, e5, e6, e7, e8⟩ := v11.c9
          clear hnine hr hd1 hd2 hd3 hs2 hk2 l1 l2 l3 v11
          go_wp2_with (go_at_call 39
                       refine K9.out.mono ?_
                       rintro e w8 ⟨rfl, hs8⟩)
          go_roundw
          case rel => exact ⟨j + 1, by omega, by go_num, Lib.hid (HK2.out.trans hs8)⟩
          case measure => simp [intOf]; omega
        · have hjge' : (cn : Int) ≤ (j : Int) := by omega
          go_wp2_with fail
          go_roundw
          case rel => exact ⟨i + 1, by omega, by go_num, HK⟩
          case measure => simp [intOf]; omega
    · have hge' : (3 : Int) ≤ (i : Int) := by omega
      have hfin : Below w.heap.size w wr := H07.out.trans (HK.out.bl.mono hB01 |>.mono (Nat.le_refl _))
      go_wp2_with (go_at_call 25
                   refine (beq_any A1 A c1 c b b wr wr.heap.size ((HR17.out.below HK.out.bl).more (Nat.le_trans hB17 HK.out.bl.size)) (HR.out.goes hfin)).mono ?_
                   rintro e w8 ⟨rfl, rfl⟩)
      go_ret
      exact ⟨ret_bool (by simp), hfin⟩

set_option maxRecDepth 100000 in
set_option maxHeartbeats 400000 in
theorem dnsReads_any (A : Option Addr) (c : Nat) (l : List UInt8) (w : World) (h : Rd w w.heap.size A l.length (bc l)) (hc : l.length ≤ c) (hb : l.length ≤ 140737488351232) :
    Calls Try.prog 3 #[.slice A l.length c] w fun e w' => e = .returned (.bool true) ∧ Below w.heap.size w w' := by
  have HR := Lib.hid h
  clear h
  by_cases h15 : 1500 < l.length
  · have h15' : (1500 : Int) < (l.length : Int) := by omega
    go_enter Try.func3, Try.ntmps3
    go_wp2_with (go_at_call 13; refine (dawake_any w).mono ?_; rintro e w2 ⟨rfl, hb2⟩)
    go_ret
    exact ⟨rfl, hb2⟩
  · have h15' : (l.length : Int) ≤ 1500 := by omega
    go_enter Try.func3, Try.ntmps3
    go_wp2_with (first
      | (go_at_call 13
         refine (dawake_any w2).mono ?_
         rintro e w3 ⟨rfl, hb3⟩)
      | (go_at_call 12
         refine (reads_at A c l w HR.out hc (by omega)).mono ?_
         rintro e w2 ⟨rfl, hb2⟩))
    go_ret
    exact ⟨rfl, hb2.trans (hb3.mono hb2.size)⟩
end Go.Proofs.Ytmhehgalfmdldaa
