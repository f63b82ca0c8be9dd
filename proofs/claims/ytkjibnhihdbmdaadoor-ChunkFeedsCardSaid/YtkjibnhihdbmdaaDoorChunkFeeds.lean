/-
  ChunkFeeds, under the guard.
-/
import Derived.Test.YtkjibnhihdbmdaaDoorChunkFd
import Derived.Test.YtkjibnhihdbmdaaDoorChunkBb
import Derived.Test.YtkjibnhihdbmdaaDoorChunkDecs
set_option linter.unusedVariables false
set_option linter.unusedSimpArgs false
namespace Go.Proofs.YtkjibnhihdbmdaaDoor
open Go.RowKit
set_option maxRecDepth 100000 in
set_option maxHeartbeats 8000000 in
theorem feeds_at (A : Option Addr) (c n : Nat) (rows : List BRow) (w : World) (hn : rows.length = n) (h : RdB w w.heap.size A n rows) (hl : (flatB rows).length ≤ 1000000) (hn2 : n ≤ 1000000) :
    Calls Tryd.prog 23 #[.slice A n c] w fun e w' => e = .returned (.bool true) ∧ Below w.heap.size w w' := by
  obtain ⟨i0, hi, hz0, hz1, hz2⟩ := info_parts Tryd.clInfoByte
  have HN := Lib.hid hn
  have HR := Lib.hid h
  have HLl := Lib.hid hl
  clear hn h hl
  go_enter Tryd.func23, Tryd.ntmps23
  go_wp2_with (first
    | (go_at_call 29; refine (trailers_at w.heap.size w.heap.size newR _ _ _ w3 (HI1.out.far HB13.out) (by decide)).mono ?_; rintro e w4 ⟨v4, rfl, ho4, hb4⟩; obtain ⟨A4, c4, rfl, _, _⟩ := ow_formL ho4 0 rfl; have HB14 := Lib.hid (HB13.out.trans (hb4.mono HB13.out.size)); clear ho4 hb4)
    | (go_at_call 27; refine (body_at w.heap.size w.heap.size newR _ _ _ w1 HI1.out (by decide)).mono ?_; rintro e w3 ⟨v3, rfl, ho3, hb3⟩; obtain ⟨A3, c3, rfl, _, _⟩ := ow_formL ho3 0 rfl; have HB13 := Lib.hid hb3; clear ho3 hb3)
    | (go_at_call 26; refine (done_at w.heap.size w.heap.size newR _ _ _ false w1 HI1.out rfl).mono ?_; rintro e w1 ⟨rfl, rfl⟩)
    | (go_at_call 37; refine (new_at w).mono ?_; rintro e w1 ⟨rfl, hi1, hb1⟩; have HI1 := Lib.hid hi1; have HB1 := Lib.hid hb1; clear hi1 hb1))
  have hB0 : Below w.heap.size w (w4.alloc (.cells zero5.toArray 76)) := below_al (HB1.out.trans (HB14.out.mono HB1.out.size)) _
  have hF0 : Fd (w4.alloc (.cells zero5.toArray 76)) w.heap.size w.heap.size w4.heap.size newR (.slice none 0 0) (.slice none 0 0) (.slice none 0 0) (.slice none 0 0) [] [] zero5 := by
    have h1 := HI1.out.far HB14.out
    refine ⟨h1.alloc _, Bx.new w4 _, by have := HB1.out.size; have := HB14.out.size; omega, Ow.nil _ _ _, fun y hy => by (cases hy), fun y hy => by (cases hy), ⟨by simp [Value.ownBlock], h1.lts (Nat.le_refl _)⟩, fun p hp => by simp [Value.ownBlock] at hp⟩
  obtain ⟨gx, hgx⟩ : ∃ gx, gx = w4.heap.size := ⟨_, rfl⟩
  rw [← hgx] at hF0 ⊢
  go_loopw [4, 38] (fun v4 v38 wr => ∃ (k : Nat) (q : Rdr) (vb vt vl : Value) (Aa : Option Addr) (na ca : Nat) (F : Frm) (AB : Option Addr) (nB cB : Nat) (AT : Option Addr) (nT cT s : Nat) (D : Bool) (bad : Nat), k ≤ n ∧ v38 = .int .i64 k ∧ v4 = .slice Aa na ca ∧ s ≤ 1000000 ∧ na ≤ 1000000 ∧ Hid ((flatB (rows.take k)).length = na) ∧ Hid (q.bad = bad) ∧ Hid (doneB q = D) ∧ Hid (q.body.length = nB) ∧ Hid (q.trs.length = nT) ∧ Hid (goR newR (flatB (rows.take k)) 0 = (q, s)) ∧ Hid (Fd wr w.heap.size w.heap.size gx q vb vt vl (.slice Aa na ca) (flatB (rows.take k)) F [.int .i64 (s : Int), .int .i64 (bad : Int), .bool D, .slice AB nB cB, .slice AT nT cT]) ∧ Hid (Hold F AB nB (bc q.body)) ∧ Hid (Hold F AT nT (sc q.trs)) ∧ Hid (Lens q) ∧ Hid (Below w.heap.size w wr)) (fun _ v38 _ => n - (intOf v38).toNat)
  case atStart =>
    exact ⟨0, newR, _, _, _, none, 0, 0, [], none, 0, 0, none, 0, 0, 0, false, 0, Nat.zero_le _, rfl, rfl, by omega, by omega, Lib.hid rfl, Lib.hid rfl, Lib.hid rfl, Lib.hid rfl, Lib.hid rfl, Lib.hid rfl, Lib.hid hF0, Lib.hid (fun _ _ => Rd.nil _ _ _), Lib.hid (fun _ _ => Rd.nil _ _ _), Lib.hid lens_new, Lib.hid hB0⟩
  case round =>
    clear hF0 hB0 HI1 HB1 HB13 HB14 hgx
    obtain ⟨k, q, vb, vt, vl, Aa, na, ca, F, AB, nB, cB, AT, nT, cT, s, D, bad, hk, rfl, rfl, hs, hna, HNa, HBd, HDn, HnB, HnT, HG, HFd, HHB, HHT, HLn, HB⟩ := hrel
    have hsz := HB.out.size
    have hB65 : nB ≤ 65536 := by have := HLn.out.bd; have := HnB.out; omega
    have hT16 : nT ≤ 16 := by have := HLn.out.tr; have := HnT.out; omega
    obtain ⟨hcx0, hcx1, hcx2, hcx3, hcx4⟩ := HFd.out.bx.cells
    have hgx := HFd.out.bx.lt
    by_cases hlt : k < n
    · have hkr : k < rows.length := by have := HN.out; omega
      obtain ⟨b, o, rfl, _, hcell⟩ := (HR.out.1.below HB.out).at_ hlt
      have hx := hcell k (rows[k]).v (by simp [hkr])
      have hrow := HR.out.2 rows[k] (List.getElem_mem hkr)
      have hft := flatB_take rows k hkr
      have hfl := flatB_take_le rows (k + 1)
      obtain ⟨r, hr⟩ : ∃ r, r = rows[k] := ⟨_, rfl⟩
      rw [← hr] at hx hrow hft
      obtain ⟨rA, rc, rl⟩ := r
      replace hx : wr.cell? ⟨b, o + k, none⟩ = some (.slice rA rl.length rc) := hx
      have hr1 : Rd w w.heap.size rA rl.length (bc rl) := hrow.1
      have HR0 := Lib.hid hr1
      have HR1 := Lib.hid ((hr1.below HB.out).more hsz)
      replace hft : flatB (rows.take (k + 1)) = flatB (rows.take k) ++ rl := hft
      have hn3 : (flatB (rows.take (k + 1))).length = na + rl.length := by rw [hft, List.length_append, HNa.out]
      have hrl : na + rl.length ≤ 1000000 := by have := HLl.out; omega
      obtain ⟨q2, n2, hq2⟩ : ∃ q2 n2, goR q rl 0 = (q2, n2) := ⟨_, _, rfl⟩
      have hl2 := go_lens rl q 0 HLn.out
      rw [hq2] at hl2
      replace hl2 : Lens q2 := hl2
      have hG2 : goR newR (flatB (rows.take (k + 1))) 0 = (q2, s + n2) := by
        rw [hft, go_app, HG.out]
        show goR q rl s = _
        rw [go_shift, hq2]
      have hcnt2 := go_count (flatB (rows.take (k + 1))) newR 0
      rw [hG2] at hcnt2
      simp only [Nat.zero_add] at hcnt2
      have hs2 : s + n2 ≤ 1000000 := by omega
      have hend : (D = true ∨ bad ≠ 0) → q = q2 ∧ n2 = 0 := fun h0 => by
        have h1 : q.st = .nil := by
          rcases h0 with h0 | h0
          · have h2 := HDn.out
            rw [h0] at h2
            exact (of_decide_eq_true h2).1
          · have := bad_nil (flatB (rows.take k)) newR 0 (fun h => absurd rfl h)
            rw [HG.out] at this
            exact this (by rw [HBd.out]; exact h0)
        rw [go_nil h1] at hq2
        cases hq2
        exact ⟨rfl, rfl⟩
      have HQ2 := Lib.hid hq2
      have HL2 := Lib.hid hl2
      have HG2 := Lib.hid hG2
      have HFt := Lib.hid hft
      have HN3 := Lib.hid hn3
      have HE := Lib.hid hend
      clear hcell hrow hft hfl hr hr1 hq2 hl2 hG2 hcnt2 hend hn3
      cases D with
      | true =>
        obtain ⟨rfl, rfl⟩ := HE.out (.inl rfl)
        have HL16 := Lib.hid hT16
        go_upto_region 14 with (at_builtin; refine wpList_app _ rfl _ _ _ _ rfl w.heap.size 5 i0 (.int .u8 0) 1 Tryd.underlying22 hi hz0 hz1 hz2 rfl (Nat.le_refl _) _ _ HFd.out.al rfl rl.length (bc rl) (HR1.out.src Tryd.underlying22 (bc_one _)) (by rw [bc_length, HNa.out]; omega) hsz ?_; intro v3 w3 hown3 hgr3 hsz3; rw [bc_app, ← HFt.out] at hown3; obtain ⟨A3, c3, rfl, hl3, _⟩ := ow_formL hown3 (na + rl.length) (by rw [bc_length]; exact HN3.out); have HFd3 := Lib.hid (HFd.out.app hgr3 hown3); have HB3 := Lib.hid (HB.out.trans (hgr3.below HFd.out.al.lt hsz)); obtain ⟨hcz0, hcz1, hcz2, hcz3, hcz4⟩ := HFd3.out.bx.cells; clear hown3 hgr3)
        go_wp2_with (first
          | (go_at_call 19; refine (eq_b A6 rA c6 rc rl.length rl.length rl rl true w7 (decide_eq_true rfl) rfl rfl (ow_rd (HOw6.out w7 HFd7.out.kp)) ((HR0.out.below HB7.out).more HB7.out.size)).mono ?_; rintro e w7 ⟨rfl, rfl⟩)
          | (go_at_call 38; refine (Fd.feed HFd6.out HLn.out A6 c6 rl.length rl rfl (fun W hk => ow_rd (HOw6.out W hk)) (by omega) 0 bad q HQ2.out HBd.out).mono ?_; rintro e w7 ⟨vb7, vt7, vl7, rfl, hfd7, hb7⟩; have HFd7 := Lib.hid hfd7; have HB7 := Lib.hid (HB6.out.trans hb7); obtain ⟨hcx0, hcx1, hcx2, hcx3, hcx4⟩ := hfd7.bx.cells; clear hfd7 hb7)
          | (go_at_call 18; refine (cl_b rA rc rl.length rl w3 rfl ((HR0.out.below HB3.out).more HB3.out.size) (by omega)).mono ?_; rintro e w6 ⟨v6, rfl, ho6, hb6⟩; obtain ⟨A6, c6, rfl, hl6, _⟩ := ow_formL ho6 rl.length (by simp); obtain ⟨Fo, hfd6, how6, hap6⟩ := own_frames HFd3.out hb6 ho6; have HFd6 := Lib.hid hfd6; have HOw6 := Lib.hid how6; have HAp6 := Lib.hid hap6; have HB6 := Lib.hid (HB3.out.trans (hb6.mono HB3.out.size)); clear ho6 hb6 hfd6 how6 hap6))
        have HP7 : Hid (0 < rl.length → ∃ p, A6 = some ⟨p, 0, none⟩ ∧ w.heap.size ≤ p ∧ Own w7 p (bc rl) ∧ Aside w.heap.size vb7 vt7 vl7 p ∧ p ≠ gx ∧ (Value.slice A3 (na + rl.length) c3).ownBlock ≠ some p ∧ ∀ y ∈ F, y.1 ≠ p) := Lib.hid (fun h0 => by
          obtain ⟨p, e1, e2, e3, e4⟩ := ow_cells (HOw6.out w7 HFd7.out.kp) h0
          have h1 := HAp6.out p (by rw [e1]; rfl)
          obtain ⟨o, ho⟩ := h1.1
          have h2 := HFd7.out.sF (p, o) (List.mem_append.2 (.inl ho))
          exact ⟨p, e1, Nat.le_trans HB3.out.size e2, e4, h2.2.2, h2.1, h2.2.1, h1.2⟩)
        have HFd8 := Lib.hid (HFd7.out.less (F' := F) (fun y hy => List.mem_append.2 (.inr hy)))
        clear hcx0 hcx1 hcx2 hcx3 hcx4
        go_loopw [97] (fun vi wx => ∃ (j : Nat) (xs : List Value), j ≤ rl.length ∧ vi = .int .i64 j ∧ xs.length = rl.length ∧ Hid (∀ (i : Nat) (u : Value), j ≤ i → xs[i]? = some u → ∃ y : UInt8, u = Value.int .u8 (y.toNat : Int)) ∧ Hid (0 < rl.length → ∃ p, A6 = some ⟨p, 0, none⟩ ∧ w.heap.size ≤ p ∧ Own wx p xs ∧ Aside w.heap.size vb7 vt7 vl7 p ∧ p ≠ gx ∧ (Value.slice A3 (na + rl.length) c3).ownBlock ≠ some p ∧ ∀ y ∈ F, y.1 ≠ p) ∧ Hid (Fd wx w.heap.size w.heap.size gx q vb7 vt7 vl7 (.slice A3 (na + rl.length) c3) (flatB (rows.take (k + 1))) F [.int .i64 (s : Int), .int .i64 (bad : Int), .bool true, .slice AB nB cB, .slice AT nT cT]) ∧ Hid (Below w.heap.size w wx)) (fun vi _ => rl.length - (intOf vi).toNat)
        case atStart =>
          refine ⟨0, bc rl, Nat.zero_le _, rfl, by rw [bc_length], Lib.hid (fun i u _ hu => ?_), HP7, HFd8, HB7⟩
          obtain ⟨y, _, rfl⟩ := List.mem_map.1 (List.mem_of_getElem? hu)
          exact ⟨y, rfl⟩
        case round =>
          obtain ⟨wx, hwx⟩ : ∃ x, x = wr := ⟨wr, rfl⟩
          subst hwx
          obtain ⟨j, xs, hj, rfl, hxl, HU, HPx, HFx, HBx⟩ := hrel
          by_cases hlj : j < rl.length
          · obtain ⟨p, rfl, hpB, hown, hp1, hp2, hp3, hp4⟩ := HPx.out (by omega)
            obtain ⟨y, hy⟩ := HU.out j xs[j] (Nat.le_refl _) (List.getElem?_eq_getElem (by omega))
            obtain ⟨hc1, hc2⟩ := hown j (.int .u8 (y.toNat : Int)) (by rw [List.getElem?_eq_getElem (by omega), hy])
            have hOw := Lib.hid hown
            have hXL := Lib.hid hxl
            have HP1 := Lib.hid (And.intro hp1 (And.intro hp2 (And.intro hp3 hp4)))
            have hy256 := UInt8.toNat_lt y
            clear hown hxl hy hp1 hp2 hp3 hp4 HP7 HFd8
            go_wp2
            go_roundw
            case rel =>
              refine ⟨j + 1, xs.set j (.int .u8 (IntKind.u8.wrap ((y.toNat : Int) + 1))), by omega, by go_num, by rw [List.length_set]; exact hXL.out, Lib.hid (fun i u hi hu => ?_), Lib.hid (fun _ => ⟨p, rfl, hpB, hOw.out.set_ j _, HP1.out.1, HP1.out.2.1, HP1.out.2.2.1, HP1.out.2.2.2⟩), Lib.hid (HFx.out.but (p := p) (by simp) (fun i _ hi => heap_setCell_other _ _ _ _ hi) HP1.out.1 HP1.out.2.1 HP1.out.2.2.1 HP1.out.2.2.2), Lib.hid (HBx.out.setCell hpB _)⟩
              rw [List.getElem?_set_ne (by omega)] at hu
              exact HU.out i u (by omega) hu
            case measure => simp [intOf]; omega
          · have hix := HFx.out.inv
            have HIx := Lib.hid hix
            obtain ⟨hcx0, hcx1, hcx2, hcx3, hcx4⟩ := HFx.out.bx.cells
            have hgx := HFx.out.bx.lt
            have hszx := HBx.out.size
            clear HPx HU hix HP7 HFd8 hxl
            go_upto_region 24 with (first
              | (go_at_call 29; refine (trailers_at w.heap.size w.heap.size q vb7 vt7 vl7 w8 (HIx.out.far HBx8.out) HLn.out.tr).mono ?_; rintro e w9 ⟨v9, rfl, ho9, hb9⟩; obtain ⟨A9, c9, rfl, hc9, _⟩ := ow_formL ho9 nT (by simpa using HnT.out); have HO9 := Lib.hid ho9; have HB89 := Lib.hid hb9; have HBx9 := Lib.hid (HBx8.out.trans (hb9.mono HBx8.out.size)); have HFd9 := Lib.hid (HFx.out.far HBx9.out); obtain ⟨hcw0, hcw1, hcw2, hcw3, hcw4⟩ := HFd9.out.bx.cells; clear ho9 hb9)
              | (go_at_call 27; refine (body_at w.heap.size w.heap.size q vb7 vt7 vl7 wx HIx.out HLn.out.bd).mono ?_; rintro e w8 ⟨v8, rfl, ho8, hb8⟩; obtain ⟨A8, c8, rfl, hc8, _⟩ := ow_formL ho8 nB (by simpa using HnB.out); have HO8 := Lib.hid ho8; have HBx8 := Lib.hid hb8; clear ho8 hb8))
            have hE1 : ∀ m, Calls Tryd.prog 26 #[.pointer (some ⟨w.heap.size, 0, none⟩)] (w9.drewN m) fun e w' => e = .returned (.bool true) ∧ w' = w9.drewN m := fun m => done_at w.heap.size w.heap.size q vb7 vt7 vl7 true _ (HFd9.out.inv.drewN m) HDn.out
            have hE2 : ∀ m, Calls Tryd.prog 19 #[.slice A8 nB c8, .slice AB nB cB] (w9.drewN m) fun e w' => e = .returned (.bool true) ∧ w' = w9.drewN m := fun m => eq_b A8 AB c8 cB nB nB q.body q.body true _ (decide_eq_true rfl) HnB.out HnB.out (rd_step (ow_rd HO8.out) (below_dn HB89.out m)) (by exact HHB.out w9 HFd9.out.kp)
            have hE3 : ∀ m, Calls Tryd.prog 28 #[.slice A9 nT c9, .slice AT nT cT] (w9.drewN m) fun e w' => e = .returned (.bool true) ∧ ∃ q, w' = (w9.drewN m).drewN q := fun m => eq_s_at A9 AT c9 cT nT nT q.trs q.trs true _ (decide_eq_true rfl) HnT.out HnT.out (by exact ow_rd HO9.out) (by exact HHT.out w9 HFd9.out.kp) (by have := HL16.out; omega) (by have := HL16.out; omega)
            have HE1 := Lib.hid hE1
            have HE2 := Lib.hid hE2
            have HE3 := Lib.hid hE3
            clear hE1 hE2 hE3
            go_quiet (first
              | (go_at_call 28; exact Calls.quiet_of (HE3.out _))
              | (go_at_call 19; exact Calls.quiet_of_same (HE2.out _))
              | (go_at_call 26; exact Calls.quiet_of_same (HE1.out _)))
            go_wp2
            have HB910 := Lib.hid (show Below w9.heap.size w9 (w9.drewN nq) from below_dn (Below.refl _ _) nq)
            have HB8' := Lib.hid (HB89.out.trans (HB910.out.mono HB89.out.size))
            have HBx10 := Lib.hid (HBx9.out.trans (HB910.out.mono HBx9.out.size))
            have hs8 := HBx8.out.size
            have hs9 := HB89.out.size
            clear hcx0 hcx1 hcx2 hcx3 hcx4 hcw0 hcw1 hcw2 hcw3 hcw4
            go_loopw [132] (fun vi wy => ∃ (i : Nat) (xs : List Value), i ≤ nB ∧ vi = .int .i64 i ∧ xs.length = nB ∧ Hid (∀ (m : Nat) (u : Value), i ≤ m → xs[m]? = some u → ∃ y : UInt8, u = Value.int .u8 (y.toNat : Int)) ∧ Hid (0 < nB → ∃ p, A8 = some ⟨p, 0, none⟩ ∧ wx.heap.size ≤ p ∧ p < w8.heap.size ∧ Own wy p xs) ∧ Hid (Ow wy w8.heap.size 9 (.slice A9 nT c9) (sc q.trs)) ∧ Hid (Below wx.heap.size wx wy)) (fun vi _ => nB - (intOf vi).toNat)
            case atStart =>
              refine ⟨0, bc q.body, Nat.zero_le _, rfl, by rw [bc_length]; exact HnB.out, Lib.hid (fun i u _ hu => ?_), Lib.hid (fun h0 => ?_), Lib.hid (HO9.out.far HB910.out), HBx10⟩
              · obtain ⟨y, _, rfl⟩ := List.mem_map.1 (List.mem_of_getElem? hu)
                exact ⟨y, rfl⟩
              · obtain ⟨p, e1, e2, e3, e4⟩ := ow_cells HO8.out h0
                exact ⟨p, e1, e2, e3, e4.below HB8'.out e3⟩
            case round =>
              obtain ⟨wy, hwy⟩ : ∃ x, x = wr := ⟨wr, rfl⟩
              subst hwy
              obtain ⟨i, xs, hi', rfl, hxl, HU, HP, HT, HBy⟩ := hrel
              by_cases hli : i < nB
              · obtain ⟨p, rfl, hpB, hp8, hown⟩ := HP.out (by omega)
                obtain ⟨y, hy⟩ := HU.out i xs[i] (Nat.le_refl _) (List.getElem?_eq_getElem (by omega))
                obtain ⟨hc1, hc2⟩ := hown i (.int .u8 (y.toNat : Int)) (by rw [List.getElem?_eq_getElem (by omega), hy])
                have hOw := Lib.hid hown
                have hXL := Lib.hid hxl
                have hy256 := UInt8.toNat_lt y
                clear hown hxl hy
                go_wp2
                go_roundw
                case rel =>
                  refine ⟨i + 1, xs.set i (.int .u8 (IntKind.u8.wrap ((y.toNat : Int) - 1))), by omega, by go_num, by rw [List.length_set]; exact hXL.out, Lib.hid (fun m u hm hu => ?_), Lib.hid (fun _ => ⟨p, rfl, hpB, hp8, hOw.out.set_ i _⟩), Lib.hid (ow_setO HT.out hp8 i _), Lib.hid (HBy.out.setCell hpB _)⟩
                  rw [List.getElem?_set_ne (by omega)] at hu
                  exact HU.out m u (by omega) hu
                case measure => simp [intOf]; omega
              · clear HP HU hxl
                have hsy := HBy.out.size
                go_wp2_with fail
                go_loopw [144] (fun vi wz => ∃ (i : Nat) (xs : List Value), i ≤ nT ∧ vi = .int .i64 i ∧ xs.length = nT ∧ Hid (0 < nT → ∃ p, A9 = some ⟨p, 0, none⟩ ∧ wx.heap.size ≤ p ∧ Own wz p xs) ∧ Hid (Below wx.heap.size wx wz)) (fun vi _ => nT - (intOf vi).toNat)
                case atStart =>
                  refine ⟨0, sc q.trs, Nat.zero_le _, rfl, by rw [sc_length]; exact HnT.out, Lib.hid (fun h0 => ?_), HBy⟩
                  obtain ⟨p, e1, e2, e3, e4⟩ := ow_cells HT.out h0
                  exact ⟨p, e1, by omega, e4⟩
                case round =>
                  obtain ⟨wz, hwz⟩ : ∃ x, x = wr := ⟨wr, rfl⟩
                  subst hwz
                  obtain ⟨m, xs, hm, rfl, hxl, HP, HBz⟩ := hrel
                  by_cases hlm : m < nT
                  · obtain ⟨p, rfl, hpB, hown⟩ := HP.out (by omega)
                    obtain ⟨u, hu⟩ : ∃ u, xs[m]? = some u := ⟨_, List.getElem?_eq_getElem (by omega)⟩
                    obtain ⟨hc1, hc2⟩ := hown m u hu
                    have hOw := Lib.hid hown
                    have hXL := Lib.hid hxl
                    clear hown hxl hu
                    go_wp2
                    go_roundw
                    case rel => exact ⟨m + 1, xs.set m (.string ⟨#[]⟩), by omega, by go_num, by rw [List.length_set]; exact hXL.out, Lib.hid (fun _ => ⟨p, rfl, hpB, hOw.out.set_ m _⟩), Lib.hid (HBz.out.setCell hpB _)⟩
                    case measure => simp [intOf]; omega
                  · clear HP hxl
                    go_wp2_with fail
                    go_roundw
                    case rel => exact ⟨k + 1, q, vb7, vt7, vl7, A3, na + rl.length, c3, F, AB, nB, cB, AT, nT, cT, s, true, bad, by omega, by go_num, rfl, by omega, by omega, HN3, Lib.hid HBd.out, Lib.hid HDn.out, Lib.hid HnB.out, Lib.hid HnT.out, HG2, Lib.hid (HFx.out.far HBz.out), HHB, HHT, HLn, Lib.hid (HBx.out.trans (HBz.out.mono HBx.out.size))⟩
                    case measure => simp [intOf]; omega
      | false =>
        by_cases hb0 : bad = 0
        · subst hb0
          clear HE
          have hRq : allL (na + rl.length + 1) (flatB (rows.take (k + 1))) 0 [] = ⟨s + n2, q2.bad, doneB q2, q2.body, q2.trs⟩ := by
            have h1 := go_all (na + rl.length + 1) (flatB (rows.take (k + 1))) newR 0 (by rw [HN3.out]; omega) rfl rfl rfl
            rw [HG2.out] at h1
            exact h1.symm
          obtain ⟨s2, hs2e⟩ : ∃ s2, s + n2 = s2 := ⟨_, rfl⟩
          obtain ⟨bad2, hbad2⟩ : ∃ b, q2.bad = b := ⟨_, rfl⟩
          obtain ⟨D2, hD2⟩ : ∃ b, doneB q2 = b := ⟨_, rfl⟩
          obtain ⟨nB2, hnB2⟩ : ∃ b, q2.body.length = b := ⟨_, rfl⟩
          obtain ⟨nT2, hnT2⟩ : ∃ b, q2.trs.length = b := ⟨_, rfl⟩
          have hAt : ((n2 : Int) != (s2 : Int) - (s : Int)) = false := bne_eq_false_iff_eq.2 (by omega)
          have hDD : (D2 != D2) = false := by cases D2 <;> rfl
          rw [hs2e, hbad2, hD2] at hRq
          have hG3 := HG2.out
          rw [hs2e] at hG3
          have HG3 := Lib.hid hG3
          have HRq := Lib.hid hRq
          have HBad2 := Lib.hid hbad2
          have HD2 := Lib.hid hD2
          have HnB2 := Lib.hid hnB2
          have HnT2 := Lib.hid hnT2
          have hL16 : nT2 ≤ 16 := by have := HL2.out.tr; omega
          have hB652 : nB2 ≤ 65536 := by have := HL2.out.bd; omega
          have HL16 := Lib.hid hL16
          have hs2l : s2 ≤ 1000000 := by omega
          clear hRq hbad2 hD2 hG3 HG2 HHB HHT hnB2 hnT2 hs2e
          go_upto_region 14 with (first
            | (go_at_call 46; refine (all_at A3 c3 (na + rl.length) (flatB (rows.take (k + 1))) w3 HN3.out (ow_rd HFd3.out.al) hl3 (by omega) (na + rl.length + 1) (by omega)).mono ?_; rw [HRq.out]; rintro e w4 ⟨hb4, AB2, cB2, AT2, cT2, hcB2, hcT2, rfl, hob, hot⟩; obtain ⟨F1, hk1, hn1, hh1⟩ := owE_hold hob; obtain ⟨F2, hk2, hn2, hh2⟩ := owE_hold hot; have HFd4 := Lib.hid (HFd3.out.frames hb4 (F' := F1 ++ F2) (fun y hy => (List.mem_append.1 hy).elim (hk1 y) (hk2 y)) (fun y hy => (List.mem_append.1 hy).elim (hn1 y) (hn2 y))); have HHB2 := Lib.hid (hold_more (F' := F1 ++ F2) hh1 (fun y hy => List.mem_append.2 (.inl hy))); have HHT2 := Lib.hid (hold_more (F' := F1 ++ F2) hh2 (fun y hy => List.mem_append.2 (.inr hy))); have HB4 := Lib.hid (HB3.out.trans (hb4.mono HB3.out.size)); obtain ⟨hcy0, hcy1, hcy2, hcy3, hcy4⟩ := HFd4.out.bx.cells; obtain ⟨hfy0, hfy1, hfy2, hfy3, hfy4⟩ := HFd4.out.bx.frees; clear hob hot hb4 hk1 hn1 hh1 hk2 hn2 hh2)
            | (at_builtin; refine wpList_app _ rfl _ _ _ _ rfl w.heap.size 5 i0 (.int .u8 0) 1 Tryd.underlying22 hi hz0 hz1 hz2 rfl (Nat.le_refl _) _ _ HFd.out.al rfl rl.length (bc rl) (HR1.out.src Tryd.underlying22 (bc_one _)) (by rw [bc_length, HNa.out]; omega) hsz ?_; intro v3 w3 hown3 hgr3 hsz3; rw [bc_app, ← HFt.out] at hown3; obtain ⟨A3, c3, rfl, hl3, _⟩ := ow_formL hown3 (na + rl.length) (by rw [bc_length]; exact HN3.out); have HFd3 := Lib.hid (HFd.out.app hgr3 hown3); have HB3 := Lib.hid (HB.out.trans (hgr3.below HFd.out.al.lt hsz)); obtain ⟨hcz0, hcz1, hcz2, hcz3, hcz4⟩ := HFd3.out.bx.cells; clear hown3 hgr3))
          obtain ⟨w5, hw5⟩ : ∃ w5, w5 = ((((w4.setCell ⟨gx, 0, none⟩ (.int .i64 (s2 : Int))).setCell ⟨gx, 1, none⟩ (.int .i64 (bad2 : Int))).setCell ⟨gx, 2, none⟩ (.bool D2)).setCell ⟨gx, 3, none⟩ (.slice AB2 q2.body.length cB2)).setCell ⟨gx, 4, none⟩ (.slice AT2 q2.trs.length cT2) := ⟨_, rfl⟩
          have hfd5 : Fd w5 w.heap.size w.heap.size gx q vb vt vl (.slice A3 (na + rl.length) c3) (flatB (rows.take (k + 1))) (F1 ++ F2) [.int .i64 (s2 : Int), .int .i64 (bad2 : Int), .bool D2, .slice AB2 q2.body.length cB2, .slice AT2 q2.trs.length cT2] := by rw [hw5]; exact HFd4.out.set5 rfl _ _ _ _ _
          have hb5 : Below w.heap.size w w5 := by rw [hw5]; exact HB4.out.trans (set5_below HFd4.out.gb _ _ _ _ _)
          rw [← hw5]
          clear hw5
          rw [HnB2.out, HnT2.out] at hfd5 ⊢
          rw [HnB2.out] at HHB2 hcB2
          rw [HnT2.out] at HHT2 hcT2
          obtain ⟨hcv0, hcv1, hcv2, hcv3, hcv4⟩ := hfd5.bx.cells
          have HFd5 := Lib.hid hfd5
          have HB5 := Lib.hid hb5
          clear hfd5 hb5 hcy0 hcy1 hcy2 hcy3 hcy4 hfy0 hfy1 hfy2 hfy3 hfy4
          go_wp2_with (first
            | (go_at_call 19; refine (eq_b A6 rA c6 rc rl.length rl.length rl rl true w7 (decide_eq_true rfl) rfl rfl (ow_rd (HOw6.out w7 HFd7.out.kp)) ((HR0.out.below HB7.out).more HB7.out.size)).mono ?_; rintro e w7 ⟨rfl, rfl⟩)
            | (go_at_call 38; refine (Fd.feed HFd6.out HLn.out A6 c6 rl.length rl rfl (fun W hk => ow_rd (HOw6.out W hk)) (by omega) n2 bad2 q2 HQ2.out HBad2.out).mono ?_; rintro e w7 ⟨vb7, vt7, vl7, rfl, hfd7, hb7⟩; have HFd7 := Lib.hid hfd7; have HB7 := Lib.hid (HB6.out.trans hb7); obtain ⟨hcx0, hcx1, hcx2, hcx3, hcx4⟩ := hfd7.bx.cells; clear hfd7 hb7)
            | (go_at_call 18; refine (cl_b rA rc rl.length rl w5 rfl ((HR0.out.below HB5.out).more HB5.out.size) (by omega)).mono ?_; rintro e w6 ⟨v6, rfl, ho6, hb6⟩; obtain ⟨A6, c6, rfl, hl6, _⟩ := ow_formL ho6 rl.length (by simp); obtain ⟨Fo, hfd6, how6, hap6⟩ := own_frames HFd5.out hb6 ho6; have HFd6 := Lib.hid hfd6; have HOw6 := Lib.hid how6; have HAp6 := Lib.hid hap6; have HB6 := Lib.hid (HB5.out.trans (hb6.mono HB5.out.size)); clear ho6 hb6 hfd6 how6 hap6))
          have HP7 : Hid (0 < rl.length → ∃ p, A6 = some ⟨p, 0, none⟩ ∧ w.heap.size ≤ p ∧ Own w7 p (bc rl) ∧ Aside w.heap.size vb7 vt7 vl7 p ∧ p ≠ gx ∧ (Value.slice A3 (na + rl.length) c3).ownBlock ≠ some p ∧ ∀ y ∈ (F1 ++ F2), y.1 ≠ p) := Lib.hid (fun h0 => by
            obtain ⟨p, e1, e2, e3, e4⟩ := ow_cells (HOw6.out w7 HFd7.out.kp) h0
            have h1 := HAp6.out p (by rw [e1]; rfl)
            obtain ⟨o, ho⟩ := h1.1
            have h2 := HFd7.out.sF (p, o) (List.mem_append.2 (.inl ho))
            exact ⟨p, e1, Nat.le_trans HB5.out.size e2, e4, h2.2.2, h2.1, h2.2.1, h1.2⟩)
          have HFd8 := Lib.hid (HFd7.out.less (F' := (F1 ++ F2)) (fun y hy => List.mem_append.2 (.inr hy)))
          clear hcx0 hcx1 hcx2 hcx3 hcx4
          go_loopw [97] (fun vi wx => ∃ (j : Nat) (xs : List Value), j ≤ rl.length ∧ vi = .int .i64 j ∧ xs.length = rl.length ∧ Hid (∀ (i : Nat) (u : Value), j ≤ i → xs[i]? = some u → ∃ y : UInt8, u = Value.int .u8 (y.toNat : Int)) ∧ Hid (0 < rl.length → ∃ p, A6 = some ⟨p, 0, none⟩ ∧ w.heap.size ≤ p ∧ Own wx p xs ∧ Aside w.heap.size vb7 vt7 vl7 p ∧ p ≠ gx ∧ (Value.slice A3 (na + rl.length) c3).ownBlock ≠ some p ∧ ∀ y ∈ (F1 ++ F2), y.1 ≠ p) ∧ Hid (Fd wx w.heap.size w.heap.size gx q2 vb7 vt7 vl7 (.slice A3 (na + rl.length) c3) (flatB (rows.take (k + 1))) (F1 ++ F2) [.int .i64 (s2 : Int), .int .i64 (bad2 : Int), .bool D2, .slice AB2 nB2 cB2, .slice AT2 nT2 cT2]) ∧ Hid (Below w.heap.size w wx)) (fun vi _ => rl.length - (intOf vi).toNat)
          case atStart =>
            refine ⟨0, bc rl, Nat.zero_le _, rfl, by rw [bc_length], Lib.hid (fun i u _ hu => ?_), HP7, HFd8, HB7⟩
            obtain ⟨y, _, rfl⟩ := List.mem_map.1 (List.mem_of_getElem? hu)
            exact ⟨y, rfl⟩
          case round =>
            obtain ⟨wx, hwx⟩ : ∃ x, x = wr := ⟨wr, rfl⟩
            subst hwx
            obtain ⟨j, xs, hj, rfl, hxl, HU, HPx, HFx, HBx⟩ := hrel
            by_cases hlj : j < rl.length
            · obtain ⟨p, rfl, hpB, hown, hp1, hp2, hp3, hp4⟩ := HPx.out (by omega)
              obtain ⟨y, hy⟩ := HU.out j xs[j] (Nat.le_refl _) (List.getElem?_eq_getElem (by omega))
              obtain ⟨hc1, hc2⟩ := hown j (.int .u8 (y.toNat : Int)) (by rw [List.getElem?_eq_getElem (by omega), hy])
              have hOw := Lib.hid hown
              have hXL := Lib.hid hxl
              have HP1 := Lib.hid (And.intro hp1 (And.intro hp2 (And.intro hp3 hp4)))
              have hy256 := UInt8.toNat_lt y
              clear hown hxl hy hp1 hp2 hp3 hp4 HP7 HFd8
              go_wp2
              go_roundw
              case rel =>
                refine ⟨j + 1, xs.set j (.int .u8 (IntKind.u8.wrap ((y.toNat : Int) + 1))), by omega, by go_num, by rw [List.length_set]; exact hXL.out, Lib.hid (fun i u hi hu => ?_), Lib.hid (fun _ => ⟨p, rfl, hpB, hOw.out.set_ j _, HP1.out.1, HP1.out.2.1, HP1.out.2.2.1, HP1.out.2.2.2⟩), Lib.hid (HFx.out.but (p := p) (by simp) (fun i _ hi => heap_setCell_other _ _ _ _ hi) HP1.out.1 HP1.out.2.1 HP1.out.2.2.1 HP1.out.2.2.2), Lib.hid (HBx.out.setCell hpB _)⟩
                rw [List.getElem?_set_ne (by omega)] at hu
                exact HU.out i u (by omega) hu
              case measure => simp [intOf]; omega
            · have hix := HFx.out.inv
              have HIx := Lib.hid hix
              obtain ⟨hcx0, hcx1, hcx2, hcx3, hcx4⟩ := HFx.out.bx.cells
              have hgx := HFx.out.bx.lt
              have hszx := HBx.out.size
              clear HPx HU hix HP7 HFd8 hxl
              go_upto_region 24 with (first
                | (go_at_call 29; refine (trailers_at w.heap.size w.heap.size q2 vb7 vt7 vl7 w8 (HIx.out.far HBx8.out) HL2.out.tr).mono ?_; rintro e w9 ⟨v9, rfl, ho9, hb9⟩; obtain ⟨A9, c9, rfl, hc9, _⟩ := ow_formL ho9 nT2 (by simpa using HnT2.out); have HO9 := Lib.hid ho9; have HB89 := Lib.hid hb9; have HBx9 := Lib.hid (HBx8.out.trans (hb9.mono HBx8.out.size)); have HFd9 := Lib.hid (HFx.out.far HBx9.out); obtain ⟨hcw0, hcw1, hcw2, hcw3, hcw4⟩ := HFd9.out.bx.cells; clear ho9 hb9)
                | (go_at_call 27; refine (body_at w.heap.size w.heap.size q2 vb7 vt7 vl7 wx HIx.out HL2.out.bd).mono ?_; rintro e w8 ⟨v8, rfl, ho8, hb8⟩; obtain ⟨A8, c8, rfl, hc8, _⟩ := ow_formL ho8 nB2 (by simpa using HnB2.out); have HO8 := Lib.hid ho8; have HBx8 := Lib.hid hb8; clear ho8 hb8))
              have hE1 : ∀ m, Calls Tryd.prog 26 #[.pointer (some ⟨w.heap.size, 0, none⟩)] (w9.drewN m) fun e w' => e = .returned (.bool D2) ∧ w' = w9.drewN m := fun m => done_at w.heap.size w.heap.size q2 vb7 vt7 vl7 D2 _ (HFd9.out.inv.drewN m) HD2.out
              have hE2 : ∀ m, Calls Tryd.prog 19 #[.slice A8 nB2 c8, .slice AB2 nB2 cB2] (w9.drewN m) fun e w' => e = .returned (.bool true) ∧ w' = w9.drewN m := fun m => eq_b A8 AB2 c8 cB2 nB2 nB2 q2.body q2.body true _ (decide_eq_true rfl) HnB2.out HnB2.out (rd_step (ow_rd HO8.out) (below_dn HB89.out m)) (by exact HHB2.out w9 HFd9.out.kp)
              have hE3 : ∀ m, Calls Tryd.prog 28 #[.slice A9 nT2 c9, .slice AT2 nT2 cT2] (w9.drewN m) fun e w' => e = .returned (.bool true) ∧ ∃ q, w' = (w9.drewN m).drewN q := fun m => eq_s_at A9 AT2 c9 cT2 nT2 nT2 q2.trs q2.trs true _ (decide_eq_true rfl) HnT2.out HnT2.out (by exact ow_rd HO9.out) (by exact HHT2.out w9 HFd9.out.kp) (by have := HL16.out; omega) (by have := HL16.out; omega)
              have HE1 := Lib.hid hE1
              have HE2 := Lib.hid hE2
              have HE3 := Lib.hid hE3
              clear hE1 hE2 hE3
              go_quiet (first
                | (go_at_call 28; exact Calls.quiet_of (HE3.out _))
                | (go_at_call 19; exact Calls.quiet_of_same (HE2.out _))
                | (go_at_call 26; exact Calls.quiet_of_same (HE1.out _)))
              go_wp2
              have HB910 := Lib.hid (show Below w9.heap.size w9 (w9.drewN nq) from below_dn (Below.refl _ _) nq)
              have HB8' := Lib.hid (HB89.out.trans (HB910.out.mono HB89.out.size))
              have HBx10 := Lib.hid (HBx9.out.trans (HB910.out.mono HBx9.out.size))
              have hs8 := HBx8.out.size
              have hs9 := HB89.out.size
              clear hcx0 hcx1 hcx2 hcx3 hcx4 hcw0 hcw1 hcw2 hcw3 hcw4
              go_loopw [132] (fun vi wy => ∃ (i : Nat) (xs : List Value), i ≤ nB2 ∧ vi = .int .i64 i ∧ xs.length = nB2 ∧ Hid (∀ (m : Nat) (u : Value), i ≤ m → xs[m]? = some u → ∃ y : UInt8, u = Value.int .u8 (y.toNat : Int)) ∧ Hid (0 < nB2 → ∃ p, A8 = some ⟨p, 0, none⟩ ∧ wx.heap.size ≤ p ∧ p < w8.heap.size ∧ Own wy p xs) ∧ Hid (Ow wy w8.heap.size 9 (.slice A9 nT2 c9) (sc q2.trs)) ∧ Hid (Below wx.heap.size wx wy)) (fun vi _ => nB2 - (intOf vi).toNat)
              case atStart =>
                refine ⟨0, bc q2.body, Nat.zero_le _, rfl, by rw [bc_length]; exact HnB2.out, Lib.hid (fun i u _ hu => ?_), Lib.hid (fun h0 => ?_), Lib.hid (HO9.out.far HB910.out), HBx10⟩
                · obtain ⟨y, _, rfl⟩ := List.mem_map.1 (List.mem_of_getElem? hu)
                  exact ⟨y, rfl⟩
                · obtain ⟨p, e1, e2, e3, e4⟩ := ow_cells HO8.out h0
                  exact ⟨p, e1, e2, e3, e4.below HB8'.out e3⟩
              case round =>
                obtain ⟨wy, hwy⟩ : ∃ x, x = wr := ⟨wr, rfl⟩
                subst hwy
                obtain ⟨i, xs, hi', rfl, hxl, HU, HP, HT, HBy⟩ := hrel
                by_cases hli : i < nB2
                · obtain ⟨p, rfl, hpB, hp8, hown⟩ := HP.out (by omega)
                  obtain ⟨y, hy⟩ := HU.out i xs[i] (Nat.le_refl _) (List.getElem?_eq_getElem (by omega))
                  obtain ⟨hc1, hc2⟩ := hown i (.int .u8 (y.toNat : Int)) (by rw [List.getElem?_eq_getElem (by omega), hy])
                  have hOw := Lib.hid hown
                  have hXL := Lib.hid hxl
                  have hy256 := UInt8.toNat_lt y
                  clear hown hxl hy
                  go_wp2
                  go_roundw
                  case rel =>
                    refine ⟨i + 1, xs.set i (.int .u8 (IntKind.u8.wrap ((y.toNat : Int) - 1))), by omega, by go_num, by rw [List.length_set]; exact hXL.out, Lib.hid (fun m u hm hu => ?_), Lib.hid (fun _ => ⟨p, rfl, hpB, hp8, hOw.out.set_ i _⟩), Lib.hid (ow_setO HT.out hp8 i _), Lib.hid (HBy.out.setCell hpB _)⟩
                    rw [List.getElem?_set_ne (by omega)] at hu
                    exact HU.out m u (by omega) hu
                  case measure => simp [intOf]; omega
                · clear HP HU hxl
                  have hsy := HBy.out.size
                  go_wp2_with fail
                  go_loopw [144] (fun vi wz => ∃ (i : Nat) (xs : List Value), i ≤ nT2 ∧ vi = .int .i64 i ∧ xs.length = nT2 ∧ Hid (0 < nT2 → ∃ p, A9 = some ⟨p, 0, none⟩ ∧ wx.heap.size ≤ p ∧ Own wz p xs) ∧ Hid (Below wx.heap.size wx wz)) (fun vi _ => nT2 - (intOf vi).toNat)
                  case atStart =>
                    refine ⟨0, sc q2.trs, Nat.zero_le _, rfl, by rw [sc_length]; exact HnT2.out, Lib.hid (fun h0 => ?_), HBy⟩
                    obtain ⟨p, e1, e2, e3, e4⟩ := ow_cells HT.out h0
                    exact ⟨p, e1, by omega, e4⟩
                  case round =>
                    obtain ⟨wz, hwz⟩ : ∃ x, x = wr := ⟨wr, rfl⟩
                    subst hwz
                    obtain ⟨m, xs, hm, rfl, hxl, HP, HBz⟩ := hrel
                    by_cases hlm : m < nT2
                    · obtain ⟨p, rfl, hpB, hown⟩ := HP.out (by omega)
                      obtain ⟨u, hu⟩ : ∃ u, xs[m]? = some u := ⟨_, List.getElem?_eq_getElem (by omega)⟩
                      obtain ⟨hc1, hc2⟩ := hown m u hu
                      have hOw := Lib.hid hown
                      have hXL := Lib.hid hxl
                      clear hown hxl hu
                      go_wp2
                      go_roundw
                      case rel => exact ⟨m + 1, xs.set m (.string ⟨#[]⟩), by omega, by go_num, by rw [List.length_set]; exact hXL.out, Lib.hid (fun _ => ⟨p, rfl, hpB, hOw.out.set_ m _⟩), Lib.hid (HBz.out.setCell hpB _)⟩
                      case measure => simp [intOf]; omega
                    · clear HP hxl
                      go_wp2_with fail
                      go_roundw
                      case rel => exact ⟨k + 1, q2, vb7, vt7, vl7, A3, na + rl.length, c3, (F1 ++ F2), AB2, nB2, cB2, AT2, nT2, cT2, s2, D2, bad2, by omega, by go_num, rfl, by omega, by omega, HN3, Lib.hid HBad2.out, Lib.hid HD2.out, Lib.hid HnB2.out, Lib.hid HnT2.out, HG3, Lib.hid (HFx.out.far HBz.out), HHB2, HHT2, HL2, Lib.hid (HBx.out.trans (HBz.out.mono HBx.out.size))⟩
                      case measure => simp [intOf]; omega
        · obtain ⟨rfl, rfl⟩ := HE.out (.inr hb0)
          have hbne : ((bad : Int) != 0) = true := bne_iff_ne.2 (by omega)
          have HL16 := Lib.hid hT16
          go_upto_region 14 with (at_builtin; refine wpList_app _ rfl _ _ _ _ rfl w.heap.size 5 i0 (.int .u8 0) 1 Tryd.underlying22 hi hz0 hz1 hz2 rfl (Nat.le_refl _) _ _ HFd.out.al rfl rl.length (bc rl) (HR1.out.src Tryd.underlying22 (bc_one _)) (by rw [bc_length, HNa.out]; omega) hsz ?_; intro v3 w3 hown3 hgr3 hsz3; rw [bc_app, ← HFt.out] at hown3; obtain ⟨A3, c3, rfl, hl3, _⟩ := ow_formL hown3 (na + rl.length) (by rw [bc_length]; exact HN3.out); have HFd3 := Lib.hid (HFd.out.app hgr3 hown3); have HB3 := Lib.hid (HB.out.trans (hgr3.below HFd.out.al.lt hsz)); obtain ⟨hcz0, hcz1, hcz2, hcz3, hcz4⟩ := HFd3.out.bx.cells; clear hown3 hgr3)
          go_wp2_with (first
            | (go_at_call 19; refine (eq_b A6 rA c6 rc rl.length rl.length rl rl true w7 (decide_eq_true rfl) rfl rfl (ow_rd (HOw6.out w7 HFd7.out.kp)) ((HR0.out.below HB7.out).more HB7.out.size)).mono ?_; rintro e w7 ⟨rfl, rfl⟩)
            | (go_at_call 38; refine (Fd.feed HFd6.out HLn.out A6 c6 rl.length rl rfl (fun W hk => ow_rd (HOw6.out W hk)) (by omega) 0 bad q HQ2.out HBd.out).mono ?_; rintro e w7 ⟨vb7, vt7, vl7, rfl, hfd7, hb7⟩; have HFd7 := Lib.hid hfd7; have HB7 := Lib.hid (HB6.out.trans hb7); obtain ⟨hcx0, hcx1, hcx2, hcx3, hcx4⟩ := hfd7.bx.cells; clear hfd7 hb7)
            | (go_at_call 18; refine (cl_b rA rc rl.length rl w3 rfl ((HR0.out.below HB3.out).more HB3.out.size) (by omega)).mono ?_; rintro e w6 ⟨v6, rfl, ho6, hb6⟩; obtain ⟨A6, c6, rfl, hl6, _⟩ := ow_formL ho6 rl.length (by simp); obtain ⟨Fo, hfd6, how6, hap6⟩ := own_frames HFd3.out hb6 ho6; have HFd6 := Lib.hid hfd6; have HOw6 := Lib.hid how6; have HAp6 := Lib.hid hap6; have HB6 := Lib.hid (HB3.out.trans (hb6.mono HB3.out.size)); clear ho6 hb6 hfd6 how6 hap6))
          have HP7 : Hid (0 < rl.length → ∃ p, A6 = some ⟨p, 0, none⟩ ∧ w.heap.size ≤ p ∧ Own w7 p (bc rl) ∧ Aside w.heap.size vb7 vt7 vl7 p ∧ p ≠ gx ∧ (Value.slice A3 (na + rl.length) c3).ownBlock ≠ some p ∧ ∀ y ∈ F, y.1 ≠ p) := Lib.hid (fun h0 => by
            obtain ⟨p, e1, e2, e3, e4⟩ := ow_cells (HOw6.out w7 HFd7.out.kp) h0
            have h1 := HAp6.out p (by rw [e1]; rfl)
            obtain ⟨o, ho⟩ := h1.1
            have h2 := HFd7.out.sF (p, o) (List.mem_append.2 (.inl ho))
            exact ⟨p, e1, Nat.le_trans HB3.out.size e2, e4, h2.2.2, h2.1, h2.2.1, h1.2⟩)
          have HFd8 := Lib.hid (HFd7.out.less (F' := F) (fun y hy => List.mem_append.2 (.inr hy)))
          clear hcx0 hcx1 hcx2 hcx3 hcx4
          go_loopw [97] (fun vi wx => ∃ (j : Nat) (xs : List Value), j ≤ rl.length ∧ vi = .int .i64 j ∧ xs.length = rl.length ∧ Hid (∀ (i : Nat) (u : Value), j ≤ i → xs[i]? = some u → ∃ y : UInt8, u = Value.int .u8 (y.toNat : Int)) ∧ Hid (0 < rl.length → ∃ p, A6 = some ⟨p, 0, none⟩ ∧ w.heap.size ≤ p ∧ Own wx p xs ∧ Aside w.heap.size vb7 vt7 vl7 p ∧ p ≠ gx ∧ (Value.slice A3 (na + rl.length) c3).ownBlock ≠ some p ∧ ∀ y ∈ F, y.1 ≠ p) ∧ Hid (Fd wx w.heap.size w.heap.size gx q vb7 vt7 vl7 (.slice A3 (na + rl.length) c3) (flatB (rows.take (k + 1))) F [.int .i64 (s : Int), .int .i64 (bad : Int), .bool false, .slice AB nB cB, .slice AT nT cT]) ∧ Hid (Below w.heap.size w wx)) (fun vi _ => rl.length - (intOf vi).toNat)
          case atStart =>
            refine ⟨0, bc rl, Nat.zero_le _, rfl, by rw [bc_length], Lib.hid (fun i u _ hu => ?_), HP7, HFd8, HB7⟩
            obtain ⟨y, _, rfl⟩ := List.mem_map.1 (List.mem_of_getElem? hu)
            exact ⟨y, rfl⟩
          case round =>
            obtain ⟨wx, hwx⟩ : ∃ x, x = wr := ⟨wr, rfl⟩
            subst hwx
            obtain ⟨j, xs, hj, rfl, hxl, HU, HPx, HFx, HBx⟩ := hrel
            by_cases hlj : j < rl.length
            · obtain ⟨p, rfl, hpB, hown, hp1, hp2, hp3, hp4⟩ := HPx.out (by omega)
              obtain ⟨y, hy⟩ := HU.out j xs[j] (Nat.le_refl _) (List.getElem?_eq_getElem (by omega))
              obtain ⟨hc1, hc2⟩ := hown j (.int .u8 (y.toNat : Int)) (by rw [List.getElem?_eq_getElem (by omega), hy])
              have hOw := Lib.hid hown
              have hXL := Lib.hid hxl
              have HP1 := Lib.hid (And.intro hp1 (And.intro hp2 (And.intro hp3 hp4)))
              have hy256 := UInt8.toNat_lt y
              clear hown hxl hy hp1 hp2 hp3 hp4 HP7 HFd8
              go_wp2
              go_roundw
              case rel =>
                refine ⟨j + 1, xs.set j (.int .u8 (IntKind.u8.wrap ((y.toNat : Int) + 1))), by omega, by go_num, by rw [List.length_set]; exact hXL.out, Lib.hid (fun i u hi hu => ?_), Lib.hid (fun _ => ⟨p, rfl, hpB, hOw.out.set_ j _, HP1.out.1, HP1.out.2.1, HP1.out.2.2.1, HP1.out.2.2.2⟩), Lib.hid (HFx.out.but (p := p) (by simp) (fun i _ hi => heap_setCell_other _ _ _ _ hi) HP1.out.1 HP1.out.2.1 HP1.out.2.2.1 HP1.out.2.2.2), Lib.hid (HBx.out.setCell hpB _)⟩
                rw [List.getElem?_set_ne (by omega)] at hu
                exact HU.out i u (by omega) hu
              case measure => simp [intOf]; omega
            · have hix := HFx.out.inv
              have HIx := Lib.hid hix
              obtain ⟨hcx0, hcx1, hcx2, hcx3, hcx4⟩ := HFx.out.bx.cells
              have hgx := HFx.out.bx.lt
              have hszx := HBx.out.size
              clear HPx HU hix HP7 HFd8 hxl
              go_upto_region 24 with (first
                | (go_at_call 29; refine (trailers_at w.heap.size w.heap.size q vb7 vt7 vl7 w8 (HIx.out.far HBx8.out) HLn.out.tr).mono ?_; rintro e w9 ⟨v9, rfl, ho9, hb9⟩; obtain ⟨A9, c9, rfl, hc9, _⟩ := ow_formL ho9 nT (by simpa using HnT.out); have HO9 := Lib.hid ho9; have HB89 := Lib.hid hb9; have HBx9 := Lib.hid (HBx8.out.trans (hb9.mono HBx8.out.size)); have HFd9 := Lib.hid (HFx.out.far HBx9.out); obtain ⟨hcw0, hcw1, hcw2, hcw3, hcw4⟩ := HFd9.out.bx.cells; clear ho9 hb9)
                | (go_at_call 27; refine (body_at w.heap.size w.heap.size q vb7 vt7 vl7 wx HIx.out HLn.out.bd).mono ?_; rintro e w8 ⟨v8, rfl, ho8, hb8⟩; obtain ⟨A8, c8, rfl, hc8, _⟩ := ow_formL ho8 nB (by simpa using HnB.out); have HO8 := Lib.hid ho8; have HBx8 := Lib.hid hb8; clear ho8 hb8))
              have hE1 : ∀ m, Calls Tryd.prog 26 #[.pointer (some ⟨w.heap.size, 0, none⟩)] (w9.drewN m) fun e w' => e = .returned (.bool false) ∧ w' = w9.drewN m := fun m => done_at w.heap.size w.heap.size q vb7 vt7 vl7 false _ (HFd9.out.inv.drewN m) HDn.out
              have hE2 : ∀ m, Calls Tryd.prog 19 #[.slice A8 nB c8, .slice AB nB cB] (w9.drewN m) fun e w' => e = .returned (.bool true) ∧ w' = w9.drewN m := fun m => eq_b A8 AB c8 cB nB nB q.body q.body true _ (decide_eq_true rfl) HnB.out HnB.out (rd_step (ow_rd HO8.out) (below_dn HB89.out m)) (by exact HHB.out w9 HFd9.out.kp)
              have hE3 : ∀ m, Calls Tryd.prog 28 #[.slice A9 nT c9, .slice AT nT cT] (w9.drewN m) fun e w' => e = .returned (.bool true) ∧ ∃ q, w' = (w9.drewN m).drewN q := fun m => eq_s_at A9 AT c9 cT nT nT q.trs q.trs true _ (decide_eq_true rfl) HnT.out HnT.out (by exact ow_rd HO9.out) (by exact HHT.out w9 HFd9.out.kp) (by have := HL16.out; omega) (by have := HL16.out; omega)
              have HE1 := Lib.hid hE1
              have HE2 := Lib.hid hE2
              have HE3 := Lib.hid hE3
              clear hE1 hE2 hE3
              go_quiet (first
                | (go_at_call 28; exact Calls.quiet_of (HE3.out _))
                | (go_at_call 19; exact Calls.quiet_of_same (HE2.out _))
                | (go_at_call 26; exact Calls.quiet_of_same (HE1.out _)))
              go_wp2
              have HB910 := Lib.hid (show Below w9.heap.size w9 (w9.drewN nq) from below_dn (Below.refl _ _) nq)
              have HB8' := Lib.hid (HB89.out.trans (HB910.out.mono HB89.out.size))
              have HBx10 := Lib.hid (HBx9.out.trans (HB910.out.mono HBx9.out.size))
              have hs8 := HBx8.out.size
              have hs9 := HB89.out.size
              clear hcx0 hcx1 hcx2 hcx3 hcx4 hcw0 hcw1 hcw2 hcw3 hcw4
              go_loopw [132] (fun vi wy => ∃ (i : Nat) (xs : List Value), i ≤ nB ∧ vi = .int .i64 i ∧ xs.length = nB ∧ Hid (∀ (m : Nat) (u : Value), i ≤ m → xs[m]? = some u → ∃ y : UInt8, u = Value.int .u8 (y.toNat : Int)) ∧ Hid (0 < nB → ∃ p, A8 = some ⟨p, 0, none⟩ ∧ wx.heap.size ≤ p ∧ p < w8.heap.size ∧ Own wy p xs) ∧ Hid (Ow wy w8.heap.size 9 (.slice A9 nT c9) (sc q.trs)) ∧ Hid (Below wx.heap.size wx wy)) (fun vi _ => nB - (intOf vi).toNat)
              case atStart =>
                refine ⟨0, bc q.body, Nat.zero_le _, rfl, by rw [bc_length]; exact HnB.out, Lib.hid (fun i u _ hu => ?_), Lib.hid (fun h0 => ?_), Lib.hid (HO9.out.far HB910.out), HBx10⟩
                · obtain ⟨y, _, rfl⟩ := List.mem_map.1 (List.mem_of_getElem? hu)
                  exact ⟨y, rfl⟩
                · obtain ⟨p, e1, e2, e3, e4⟩ := ow_cells HO8.out h0
                  exact ⟨p, e1, e2, e3, e4.below HB8'.out e3⟩
              case round =>
                obtain ⟨wy, hwy⟩ : ∃ x, x = wr := ⟨wr, rfl⟩
                subst hwy
                obtain ⟨i, xs, hi', rfl, hxl, HU, HP, HT, HBy⟩ := hrel
                by_cases hli : i < nB
                · obtain ⟨p, rfl, hpB, hp8, hown⟩ := HP.out (by omega)
                  obtain ⟨y, hy⟩ := HU.out i xs[i] (Nat.le_refl _) (List.getElem?_eq_getElem (by omega))
                  obtain ⟨hc1, hc2⟩ := hown i (.int .u8 (y.toNat : Int)) (by rw [List.getElem?_eq_getElem (by omega), hy])
                  have hOw := Lib.hid hown
                  have hXL := Lib.hid hxl
                  have hy256 := UInt8.toNat_lt y
                  clear hown hxl hy
                  go_wp2
                  go_roundw
                  case rel =>
                    refine ⟨i + 1, xs.set i (.int .u8 (IntKind.u8.wrap ((y.toNat : Int) - 1))), by omega, by go_num, by rw [List.length_set]; exact hXL.out, Lib.hid (fun m u hm hu => ?_), Lib.hid (fun _ => ⟨p, rfl, hpB, hp8, hOw.out.set_ i _⟩), Lib.hid (ow_setO HT.out hp8 i _), Lib.hid (HBy.out.setCell hpB _)⟩
                    rw [List.getElem?_set_ne (by omega)] at hu
                    exact HU.out m u (by omega) hu
                  case measure => simp [intOf]; omega
                · clear HP HU hxl
                  have hsy := HBy.out.size
                  go_wp2_with fail
                  go_loopw [144] (fun vi wz => ∃ (i : Nat) (xs : List Value), i ≤ nT ∧ vi = .int .i64 i ∧ xs.length = nT ∧ Hid (0 < nT → ∃ p, A9 = some ⟨p, 0, none⟩ ∧ wx.heap.size ≤ p ∧ Own wz p xs) ∧ Hid (Below wx.heap.size wx wz)) (fun vi _ => nT - (intOf vi).toNat)
                  case atStart =>
                    refine ⟨0, sc q.trs, Nat.zero_le _, rfl, by rw [sc_length]; exact HnT.out, Lib.hid (fun h0 => ?_), HBy⟩
                    obtain ⟨p, e1, e2, e3, e4⟩ := ow_cells HT.out h0
                    exact ⟨p, e1, by omega, e4⟩
                  case round =>
                    obtain ⟨wz, hwz⟩ : ∃ x, x = wr := ⟨wr, rfl⟩
                    subst hwz
                    obtain ⟨m, xs, hm, rfl, hxl, HP, HBz⟩ := hrel
                    by_cases hlm : m < nT
                    · obtain ⟨p, rfl, hpB, hown⟩ := HP.out (by omega)
                      obtain ⟨u, hu⟩ : ∃ u, xs[m]? = some u := ⟨_, List.getElem?_eq_getElem (by omega)⟩
                      obtain ⟨hc1, hc2⟩ := hown m u hu
                      have hOw := Lib.hid hown
                      have hXL := Lib.hid hxl
                      clear hown hxl hu
                      go_wp2
                      go_roundw
                      case rel => exact ⟨m + 1, xs.set m (.string ⟨#[]⟩), by omega, by go_num, by rw [List.length_set]; exact hXL.out, Lib.hid (fun _ => ⟨p, rfl, hpB, hOw.out.set_ m _⟩), Lib.hid (HBz.out.setCell hpB _)⟩
                      case measure => simp [intOf]; omega
                    · clear HP hxl
                      go_wp2_with fail
                      go_roundw
                      case rel => exact ⟨k + 1, q, vb7, vt7, vl7, A3, na + rl.length, c3, F, AB, nB, cB, AT, nT, cT, s, false, bad, by omega, by go_num, rfl, by omega, by omega, HN3, Lib.hid HBd.out, Lib.hid HDn.out, Lib.hid HnB.out, Lib.hid HnT.out, HG2, Lib.hid (HFx.out.far HBz.out), HHB, HHT, HLn, Lib.hid (HBx.out.trans (HBz.out.mono HBx.out.size))⟩
                      case measure => simp [intOf]; omega
    · obtain rfl : k = n := by omega
      have HIr := Lib.hid HFd.out.inv
      obtain ⟨hcd0, hcd1, hcd2, hcd3, hcd4⟩ := (HFd.out.far (Below.refl wr.heap.size wr).drew).bx.cells
      clear hlt
      go_upto_region 37 with fail
      go_region_with (first
        | (go_at_call 28; refine (eq_s_at A9 AT c9 cT nT nT q.trs q.trs true w9 (decide_eq_true rfl) HnT.out HnT.out (ow_rd HO9.out) (HHT.out w9 HFd9.out.kp) (by omega) (by omega)).mono ?_; rintro e w10 ⟨rfl, q10, hq10⟩; have HB10 := Lib.hid (show Below w.heap.size w w10 by rw [hq10]; exact below_dn (HB.out.trans (HBr9.out.mono hsz)) q10); clear hq10)
        | (go_at_call 29; refine (trailers_at w.heap.size w.heap.size q vb vt vl w8 (HIr.out.far HBr8.out) HLn.out.tr).mono ?_; rintro e w9 ⟨v9, rfl, ho9, hb9⟩; obtain ⟨A9, c9, rfl, hc9, _⟩ := ow_formL ho9 nT (by simpa using HnT.out); have HO9 := Lib.hid ho9; have HBr9 := Lib.hid (HBr8.out.trans (hb9.mono HBr8.out.size)); have HFd9 := Lib.hid (HFd.out.far HBr9.out); obtain ⟨hcw0, hcw1, hcw2, hcw3, hcw4⟩ := HFd9.out.bx.cells; clear ho9 hb9)
        | (go_at_call 19; refine (eq_b A8 AB c8 cB nB nB q.body q.body true w8 (decide_eq_true rfl) HnB.out HnB.out (ow_rd HO8.out) (HHB.out w8 HFd8.out.kp)).mono ?_; rintro e w8 ⟨rfl, rfl⟩)
        | (go_at_call 27; refine (body_at w.heap.size w.heap.size q vb vt vl _ HIr.out.drew HLn.out.bd).mono ?_; rintro e w8 ⟨v8, rfl, ho8, hb8⟩; obtain ⟨A8, c8, rfl, hc8, _⟩ := ow_formL ho8 nB (by simpa using HnB.out); have HO8 := Lib.hid ho8; have HBr8 := Lib.hid ((Below.refl wr.heap.size wr).drew.trans hb8); have HFd8 := Lib.hid (HFd.out.far HBr8.out); obtain ⟨hcu0, hcu1, hcu2, hcu3, hcu4⟩ := HFd8.out.bx.cells; clear ho8 hb8))
      all_goals
        go_wp2
        go_ret
        exact ⟨rfl, HB10.out⟩
end Go.Proofs.YtkjibnhihdbmdaaDoor
