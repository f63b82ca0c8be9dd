/-
  dns: what is read is written over; messages are read as the reference reads them.
-/
import Derived.Deep.RegionLaw
import Derived.Test.YtlipmlbijddopaaReg
import Derived.Test.YtlipmlbijddopaaDnsRt
import Derived.Test.YtlipmlbijddopaaDnsE
import Derived.Test.YtlipmlbijddopaaRefApp
set_option linter.unusedVariables false
set_option linter.unusedSimpArgs false
namespace Go.Proofs.Ytlipmlbijddopaa
open Go.RowKit
/-- the offset that the reference returns -/
def nxS (s : St) : Nat := if s.e = 0 then s.at_ else 0
theorem nxS_ok {s : St} (h : s.e = 0) : nxS s = s.at_ := if_pos h
theorem nxS_no {s : St} (h : s.e ≠ 0) : nxS s = 0 := if_neg h
theorem rTake_stay {b : List UInt8} {n : Nat} {s : St} (h : s.e ≠ 0) : (rTake b n s).2 = s := by unfold rTake; rw [if_neg h]
theorem rNum_stay {b : List UInt8} {s : St} (h : s.e ≠ 0) : (rNum b s).2 = s := rTake_stay h
theorem rNum_fit {b : List UInt8} {p : Nat} (h : p + 2 ≤ b.length) : rNum b ⟨p, 0⟩ = (num2 (b.drop p), ⟨p + 2, 0⟩) := by simp [rNum, rTake, h, num2_take]
theorem rNum_nofit {b : List UInt8} {p : Nat} (h : ¬ p + 2 ≤ b.length) : rNum b ⟨p, 0⟩ = (0, ⟨p, 171⟩) := by
  simp [rNum, rTake, h]; rfl
theorem num2_drop {b : List UInt8} {p : Nat} (h : p + 2 ≤ b.length) : num2 (b.drop p) = 256 * (b[p]'(by omega)).toNat + (b[p + 1]'(by omega)).toNat := by
  unfold num2
  rw [List.getD_eq_getElem?_getD, List.getD_eq_getElem?_getD, List.getElem?_drop, List.getElem?_drop, Nat.add_zero, List.getElem?_eq_getElem (by omega), List.getElem?_eq_getElem (by omega)]
  rfl
set_option maxRecDepth 100000 in
set_option maxHeartbeats 1000000 in
theorem fnum_at (A : Option Addr) (c L : Nat) (b : List UInt8) (p : Nat) (t : Nat × St) (ht : t = rNum b ⟨p, 0⟩) (w : World) (hL : b.length = L) (h : Rd w w.heap.size A L (bc b)) (hc : L ≤ c) (hb : L ≤ 100000) (hp : p ≤ L) :
    Calls Try.prog 41 #[.slice A L c, .int .i64 (p : Int)] w fun e w' => e = .returned (.tuple #[.int .u16 (t.1 : Int), .int .i64 (nxS t.2 : Int), .int .i64 (t.2.e : Int)]) ∧ Below w.heap.size w w' := by
  subst hL
  by_cases hf : p + 2 ≤ b.length
  · have ht' : t = (256 * (b[p]'(by omega)).toNat + (b[p + 1]'(by omega)).toNat, ⟨p + 2, 0⟩) := by rw [ht, rNum_fit hf, num2_drop hf]
    obtain ⟨bq, oq, rfl, _, hcell⟩ := h.2 (by omega)
    have d0 := hcell p _ (bc_get b p (by omega))
    have d1 := hcell (p + 1) _ (bc_get b (p + 1) (by omega))
    have hx := (b[p]'(by omega)).toNat_lt
    have hy := (b[p + 1]'(by omega)).toNat_lt
    generalize (b[p]'(by omega)).toNat = x at *
    generalize (b[p + 1]'(by omega)).toNat = y at *
    subst ht'
    have hw : IntKind.u16.wrap (256 * (x : Int) + (y : Int)) = 256 * (x : Int) + (y : Int) := by rw [IntKind.wrap_u16]; omega
    have d1' := d1
    rw [← Nat.add_assoc] at d1
    have hf' : (p : Int) + 2 ≤ (b.length : Int) := by omega
    have hg1 : ¬ ((b.length : Int) < (p : Int) + 2) := by omega
    have kw1 : IntKind.i64.wrap ((p : Int) + 1) = (p : Int) + 1 := by rw [IntKind.wrap_i64]; omega
    have kw2 : IntKind.i64.wrap ((p : Int) + 2) = (p : Int) + 2 := by rw [IntKind.wrap_i64]; omega
    have kw3 : IntKind.i64.wrap (256 * (x : Int)) = 256 * (x : Int) := by rw [IntKind.wrap_i64]; omega
    have kw4 : IntKind.i64.wrap (256 * (x : Int) + (y : Int)) = 256 * (x : Int) + (y : Int) := by rw [IntKind.wrap_i64]; omega
    have kw5 : IntKind.i64.wrap (x : Int) = (x : Int) := by rw [IntKind.wrap_i64]; omega
    have kw6 : IntKind.i64.wrap (y : Int) = (y : Int) := by rw [IntKind.wrap_i64]; omega
    have hg2 : (p : Int) < (b.length : Int) := by omega
    have hg3 : (p : Int) + 1 < (b.length : Int) := by omega
    have hg4 : ((p : Int) + 1).toNat = p + 1 := by omega
    clear hcell ht h
    go_enter Try.func41, Try.ntmps41
    go_upto_region 3 with fail
    go_quiet (fail)
    go_wp2_with fail
    go_ret3
    refine ⟨?_, ⟨rfl, rfl, rfl, Nat.le_refl _, fun _ _ => rfl⟩⟩
    simp [nxS]
  · have ht' : t = (0, ⟨p, 171⟩) := by rw [ht, rNum_nofit hf]
    subst ht'
    have hf' : (b.length : Int) < (p : Int) + 2 := by omega
    clear ht h
    go_enter Try.func41, Try.ntmps41
    go_wp2_with fail
    go_ret3
    exact ⟨rfl, Below.refl _ _⟩
section
variable {w w' : World} {g : Nat} {e : TypeId} {cs : List Value}
theorem Vx.loadQf (h : Vx w g e cs) (hn : cs.length = 3) : (loadVar 70 ⟨g, 0, none⟩).run Try.prog w = .ok (.agg cs.toArray) w :=
  run_loadVar_row w g _ _ cs.toArray _ _ h Try.underlying70 rfl (by rw [List.size_toArray, hn]; kernel_rfl)
theorem Vx.loadRf (h : Vx w g e cs) (hn : cs.length = 9) : (loadVar 74 ⟨g, 0, none⟩).run Try.prog w = .ok (.agg cs.toArray) w :=
  run_loadVar_row w g _ _ cs.toArray _ _ h Try.underlying74 rfl (by rw [List.size_toArray, hn]; kernel_rfl)
theorem Vx.loadMf (h : Vx w g e cs) (hn : cs.length = 6) : (loadVar 60 ⟨g, 0, none⟩).run Try.prog w = .ok (.agg cs.toArray) w :=
  run_loadVar_row w g _ _ cs.toArray _ _ h Try.underlying60 rfl (by rw [List.size_toArray, hn]; kernel_rfl)
theorem resQf {fn : Func} {q r s : Tmp} (h : fn.results = #[.cell q 70, .tmp r, .tmp s]) (tmps : Array Value) (W : World) (g : Nat) (e : TypeId) (cs : List Value) (vr vs : Value) (hq : tmps[q]? = some (.pointer (some ⟨g, 0, none⟩))) (hr : tmps[r]? = some vr) (hs : tmps[s]? = some vs) (hx : Vx W g e cs) (hn : cs.length = 3) :
    (results fn tmps).run Try.prog W = .ok (.tuple #[.agg cs.toArray, vr, vs]) W := by
  simp [results, h, hq, hr, hs, asAddr, hx.loadQf hn]
theorem resRf {fn : Func} {q r s : Tmp} (h : fn.results = #[.cell q 74, .tmp r, .tmp s]) (tmps : Array Value) (W : World) (g : Nat) (e : TypeId) (cs : List Value) (vr vs : Value) (hq : tmps[q]? = some (.pointer (some ⟨g, 0, none⟩))) (hr : tmps[r]? = some vr) (hs : tmps[s]? = some vs) (hx : Vx W g e cs) (hn : cs.length = 9) :
    (results fn tmps).run Try.prog W = .ok (.tuple #[.agg cs.toArray, vr, vs]) W := by
  simp [results, h, hq, hr, hs, asAddr, hx.loadRf hn]
theorem resMf {fn : Func} {q r : Tmp} (h : fn.results = #[.cell q 60, .tmp r]) (tmps : Array Value) (W : World) (g : Nat) (e : TypeId) (cs : List Value) (vr : Value) (hq : tmps[q]? = some (.pointer (some ⟨g, 0, none⟩))) (hr : tmps[r]? = some vr) (hx : Vx W g e cs) (hn : cs.length = 6) :
    (results fn tmps).run Try.prog W = .ok (.tuple #[.agg cs.toArray, vr]) W := by
  simp [results, h, hq, hr, asAddr, hx.loadMf hn]
end
abbrev zQ3 : List Value := [.slice none 0 0, .int .u16 0, .int .u16 0]
def zQR : QR := ⟨none, 0, zQ⟩
theorem rread_at (A : Option Addr) (c L : Nat) (b : List UInt8) (p : Nat) (n : List (List UInt8) × St) (hn : n = rName b ⟨p, 0⟩) (w : World) (hL : b.length = L) (h : Rd w w.heap.size A L (bc b)) (hc : L ≤ c) (hb : L ≤ 100000) (hp : p ≤ L) :
    Calls Try.prog 70 #[.slice A L c, .int .i64 (p : Int)] w fun e w' => ∃ A' c', e = .returned (.tuple #[.slice A' n.1.length c', .int .i64 (n.2.at_ : Int), .int .i64 (n.2.e : Int)]) ∧ Ow w' w.heap.size 9 (.slice A' n.1.length c') (sc n.1) ∧ Below w.heap.size w w' := by
  subst hL hn
  have e1 : (rName b ⟨p, 0⟩).1 = (readN b p).1 := by simp [rName]
  have e2 : (rName b ⟨p, 0⟩).2.at_ = (readN b p).2.1 := by simp [rName]
  have e3 : (rName b ⟨p, 0⟩).2.e = (readN b p).2.2 := by simp [rName]
  rw [e1, e2, e3]
  refine (rread_any A c b p w h hc (by omega) hp).mono ?_
  rintro e w' ⟨v, rfl, ho, hb⟩
  obtain ⟨A', c', rfl, _, _⟩ := ho.form6 _ (sc_length _)
  exact ⟨A', c', rfl, ho, hb⟩
theorem rName_le {b : List UInt8} {p : Nat} (hp : p ≤ b.length) : (rName b ⟨p, 0⟩).2.e = 0 → (rName b ⟨p, 0⟩).2.at_ ≤ b.length := by
  intro h
  simp only [rName, if_pos] at h ⊢
  rcases readN_errs b p hp with ⟨h1, _⟩ | ⟨_, h2, h3⟩
  · have := readN_next b p hp h1; omega
  · omega
set_option maxRecDepth 100000 in
set_option maxHeartbeats 1000000 in
theorem fquestion_at (A : Option Addr) (c L : Nat) (b : List UInt8) (p : Nat) (z : Qn × St) (hz : z = rQ b ⟨p, 0⟩) (w : World) (hL : b.length = L) (h : Rd w w.heap.size A L (bc b)) (hc : L ≤ c) (hb : L ≤ 100000) (hp : p ≤ L) :
    Calls Try.prog 42 #[.slice A L c, .int .i64 (p : Int)] w fun e w' => ∃ A' c' q, (z.2.e = 0 → q = z.1) ∧ (z.2.e ≠ 0 → q = zQ) ∧ e = .returned (.tuple #[.agg (QR.cells ⟨A', c', q⟩).toArray, .int .i64 (nxS z.2 : Int), .int .i64 (z.2.e : Int)]) ∧ Ow w' w.heap.size 9 (.slice A' q.nm.length c') (sc q.nm) ∧ Below w.heap.size w w' := by
  obtain ⟨n, hn⟩ : ∃ n, n = rName b ⟨p, 0⟩ := ⟨_, rfl⟩
  have hnl : n.2.e = 0 → n.2.at_ ≤ L := by rw [hn, ← hL]; exact rName_le (by omega)
  have HR := Lib.hid h
  have HL := Lib.hid hL
  have HN := Lib.hid hn
  have hV1 : Vx (w.alloc (.cells #[.slice none 0 0, .int .u16 0, .int .u16 0] 70)) w.heap.size 70 zQ3 := Vx.new w _ _
  have hb1 := below_new w (.cells #[.slice none 0 0, .int .u16 0, .int .u16 0] 70)
  have hsz1 : w.heap.size < (w.alloc (.cells #[.slice none 0 0, .int .u16 0, .int .u16 0] 70)).heap.size := by simp
  clear h hL
  by_cases h0 : n.2.e = 0
  · have hna := hnl h0
    have h0' : (n.2.e : Int) = 0 := by omega
    have h0b : ((n.2.e : Int) != 0) = false := by simp [h0]
    obtain ⟨k, hk⟩ : ∃ k, k = rNum b ⟨n.2.at_, 0⟩ := ⟨_, rfl⟩
    have hn2 : n.2 = ⟨n.2.at_, 0⟩ := by rw [← h0]
    by_cases h1 : k.2.e = 0
    · have h1' : (k.2.e : Int) = 0 := by omega
      have h1b : ((k.2.e : Int) != 0) = false := by simp [h1]
      obtain ⟨m, hm⟩ : ∃ m, m = rNum b ⟨k.2.at_, 0⟩ := ⟨_, rfl⟩
      have hk2 : k.2 = ⟨k.2.at_, 0⟩ := by rw [← h1]
      have hkl : k.2.at_ ≤ L := by
        have := num_err (b := b) (s := ⟨n.2.at_, 0⟩) (by rw [← hk]; exact h1)
        rw [← hk, HL.out] at this
        simp only at this
        omega
      have hnk : nxS k.2 = k.2.at_ := nxS_ok h1
      have hZ : z = (⟨n.1, k.1, m.1⟩, m.2) := by
        rw [hz]
        show ((⟨(rName b ⟨p, 0⟩).1, _, _⟩ : Qn), _) = _
        rw [← hn, hn2, ← hk, hk2, ← hm]
      have HK := Lib.hid hk
      have HM := Lib.hid hm
      clear hz hn hk hm hn2 hk2 hnl
      by_cases h2 : m.2.e = 0
      · have h2' : (m.2.e : Int) = 0 := by omega
        have h2b : ((m.2.e : Int) != 0) = false := by simp [h2]
        have HZ := Lib.hid hZ
        have H2 := Lib.hid h2
        clear hZ h2
        go_enter Try.func42, Try.ntmps42
        go_wp2_with (first
          | (go_at_call 41
             refine (fnum_at A c L b k.2.at_ m HM.out w3 HL.out (HR.out.goes (hb1.trans ((hb2.trans (hb3.mono hb2.size)).mono hb1.size))) hc hb hkl).mono ?_
             rintro e w4 ⟨rfl, hb4⟩
             have hV4 := ((hV1.below hb2 hsz1).below hb3 (by have := hb2.size; omega)).below hb4 (by have := hb2.size; have := hb3.size; omega))
          | (go_at_call 41
             refine (fnum_at A c L b n.2.at_ k HK.out w2 HL.out (HR.out.goes (hb1.trans (hb2.mono hb1.size))) hc hb hna).mono ?_
             rw [hnk]
             rintro e w3 ⟨rfl, hb3⟩)
          | (go_at_call 70
             refine (rread_at A c L b p n HN.out _ HL.out (HR.out.goes hb1) hc hb hp).mono ?_
             rintro e w2 ⟨An, cn, rfl, hn2, hb2⟩)
          | (refine wpList_store_row rfl 70 _ _ rfl w.heap.size _ rfl rfl _ _ hV4 (by kernel_rfl) rfl (by kernel_rfl) ?_))
        refine bodyPost_ret (resQf Try.results42 _ _ w.heap.size _ _ _ _ rfl rfl rfl (hV4.row (QR.cells ⟨An, cn, ⟨n.1, k.1, m.1⟩⟩)) rfl) rfl ?_
        refine ⟨An, cn, ⟨n.1, k.1, m.1⟩, fun _ => by rw [HZ.out], fun hne => absurd (by rw [HZ.out]; exact H2.out) hne, ?_, ?_, ?_⟩
        · rw [HZ.out]; simp [H2.out]
        · have hb24 : Below _ w2 w4 := hb3.trans (hb4.mono hb3.size)
          exact ((hn2.far hb24).only (Only.row w4 w.heap.size _) (by omega)).mono (by omega)
        · have hb14 := hb1.trans (((hb2.trans (hb3.mono hb2.size)).trans (hb4.mono (hb2.trans (hb3.mono hb2.size)).size)).mono hb1.size)
          exact hb14.trans ((Only.row w4 w.heap.size _).below (Nat.le_refl _) hb14.size)
      · have h2' : ¬ (m.2.e : Int) = 0 := by omega
        have h2b : ((m.2.e : Int) != 0) = true := by rw [bne_iff_ne]; omega
        have HZE := Lib.hid (show z.2.e = m.2.e by rw [hZ])
        have H2 := Lib.hid (show z.2.e ≠ 0 by rw [hZ]; exact h2)
        clear hZ h2
        go_enter Try.func42, Try.ntmps42
        go_wp2_with (first
          | (go_at_call 41
             refine (fnum_at A c L b k.2.at_ m HM.out w3 HL.out (HR.out.goes (hb1.trans ((hb2.trans (hb3.mono hb2.size)).mono hb1.size))) hc hb hkl).mono ?_
             rintro e w4 ⟨rfl, hb4⟩
             have hV9 := ((hV1.below hb2 hsz1).below hb3 (by have := hb2.size; omega)).below hb4 (by have := hb2.size; have := hb3.size; omega)
             have hb19 := hb1.trans (((hb2.trans (hb3.mono hb2.size)).trans (hb4.mono (hb2.trans (hb3.mono hb2.size)).size)).mono hb1.size))
          | (go_at_call 41
             refine (fnum_at A c L b n.2.at_ k HK.out w2 HL.out (HR.out.goes (hb1.trans (hb2.mono hb1.size))) hc hb hna).mono ?_
             rw [hnk]
             rintro e w3 ⟨rfl, hb3⟩)
          | (go_at_call 70
             refine (rread_at A c L b p n HN.out _ HL.out (HR.out.goes hb1) hc hb hp).mono ?_
             rintro e w2 ⟨An, cn, rfl, hn2, hb2⟩)
          | (refine wpList_store_row rfl 70 _ _ rfl w.heap.size _ rfl rfl _ _ hV9 (by kernel_rfl) rfl (by kernel_rfl) ?_))
        refine bodyPost_ret (resQf Try.results42 _ _ w.heap.size _ _ _ _ rfl rfl rfl (hV9.row zQ3) rfl) rfl ?_
        refine ⟨none, 0, zQ, fun h => absurd h H2.out, fun _ => rfl, ?_, Ow.nil _ _ _, hb19.trans ((Only.row _ w.heap.size _).below (Nat.le_refl _) hb19.size)⟩
        rw [nxS_no H2.out]; simp [zQR, zQ, QR.cells, HZE.out]
    · have h1' : ¬ (k.2.e : Int) = 0 := by omega
      have h1b : ((k.2.e : Int) != 0) = true := by rw [bne_iff_ne]; omega
      have hZ : z.2 = k.2 := by
        rw [hz]
        show (rNum b (rNum b (rName b ⟨p, 0⟩).2).2).2 = _
        rw [← hn, hn2, ← hk, rNum_stay h1]
      have HZE := Lib.hid (show z.2.e = k.2.e by rw [hZ])
      have H2 := Lib.hid (show z.2.e ≠ 0 by rw [hZ]; exact h1)
      have HK := Lib.hid hk
      clear hz hn hk hn2 hnl hZ h1
      go_enter Try.func42, Try.ntmps42
      go_wp2_with (first
        | (go_at_call 41
           refine (fnum_at A c L b n.2.at_ k HK.out w2 HL.out (HR.out.goes (hb1.trans (hb2.mono hb1.size))) hc hb hna).mono ?_
           rintro e w3 ⟨rfl, hb3⟩
           have hV9 := (hV1.below hb2 hsz1).below hb3 (by have := hb2.size; omega)
           have hb19 := hb1.trans ((hb2.trans (hb3.mono hb2.size)).mono hb1.size))
        | (go_at_call 70
           refine (rread_at A c L b p n HN.out _ HL.out (HR.out.goes hb1) hc hb hp).mono ?_
           rintro e w2 ⟨An, cn, rfl, hn2, hb2⟩)
        | (refine wpList_store_row rfl 70 _ _ rfl w.heap.size _ rfl rfl _ _ hV9 (by kernel_rfl) rfl (by kernel_rfl) ?_))
      refine bodyPost_ret (resQf Try.results42 _ _ w.heap.size _ _ _ _ rfl rfl rfl (hV9.row zQ3) rfl) rfl ?_
      refine ⟨none, 0, zQ, fun h => absurd h H2.out, fun _ => rfl, ?_, Ow.nil _ _ _, hb19.trans ((Only.row _ w.heap.size _).below (Nat.le_refl _) hb19.size)⟩
      rw [nxS_no H2.out]; simp [zQR, zQ, QR.cells, HZE.out]
  · have h0' : ¬ (n.2.e : Int) = 0 := by omega
    have h0b : ((n.2.e : Int) != 0) = true := by rw [bne_iff_ne]; omega
    have hZ : z.2 = n.2 := by
      rw [hz]
      show (rNum b (rNum b (rName b ⟨p, 0⟩).2).2).2 = _
      rw [← hn, rNum_stay (s := n.2) h0, rNum_stay h0]
    have HZE := Lib.hid (show z.2.e = n.2.e by rw [hZ])
    have H2 := Lib.hid (show z.2.e ≠ 0 by rw [hZ]; exact h0)
    clear hz hn hnl hZ h0
    go_enter Try.func42, Try.ntmps42
    go_wp2_with (first
      | (go_at_call 70
         refine (rread_at A c L b p n HN.out _ HL.out (HR.out.goes hb1) hc hb hp).mono ?_
         rintro e w2 ⟨An, cn, rfl, hn2, hb2⟩
         have hV9 := hV1.below hb2 hsz1
         have hb19 := hb1.trans (hb2.mono hb1.size))
      | (refine wpList_store_row rfl 70 _ _ rfl w.heap.size _ rfl rfl _ _ hV9 (by kernel_rfl) rfl (by kernel_rfl) ?_))
    refine bodyPost_ret (resQf Try.results42 _ _ w.heap.size _ _ _ _ rfl rfl rfl (hV9.row zQ3) rfl) rfl ?_
    refine ⟨none, 0, zQ, fun h => absurd h H2.out, fun _ => rfl, ?_, Ow.nil _ _ _, hb19.trans ((Only.row _ w.heap.size _).below (Nat.le_refl _) hb19.size)⟩
    rw [nxS_no H2.out]; simp [zQR, zQ, QR.cells, HZE.out]
open Go.RowKit
theorem rD_stay {b : List UInt8} {s : St} (h : (rQ b s).2.e ≠ 0) : (rD b s).2 = (rQ b s).2 := by
  unfold rD
  simp only
  have h1 := rNum_stay (b := b) h
  have h2 : (rNum b (rNum b (rQ b s).2).2).2 = (rQ b s).2 := by rw [h1, h1]
  have h3 : (rNum b (rNum b (rNum b (rQ b s).2).2).2).2 = (rQ b s).2 := by rw [h2, h1]
  rw [h3, rTake_stay h]
theorem rKk_stay {b : List UInt8} {q : Qn} {hi lo : Nat} {d : List UInt8 × St} (h : d.2.e ≠ 0) : rKk b q hi lo d = (zR, d.2) := by unfold rKk; rw [if_pos h]
theorem rQ_le {b : List UInt8} {s : St} (h : (rQ b s).2.e = 0) : (rQ b s).2.at_ ≤ b.length := by
  have := num_err (b := b) (s := (rNum b (rName b s).2).2) h
  have e : (rQ b s).2 = (rNum b (rNum b (rName b s).2).2).2 := rfl
  rw [e]; omega
theorem rR_f0 {b : List UInt8} {s : St} (h : (rQ b s).2.e ≠ 0) : (rR b s).2 = (rQ b s).2 := by
  rw [rR_eq, rKk_stay (by rw [rD_stay h]; exact h)]
  exact rD_stay h
theorem rTake_no {b : List UInt8} {n p : Nat} (h : ¬ p + n ≤ b.length) : (rTake b n ⟨p, 0⟩).2 = ⟨p, 171⟩ := by simp [rTake, h]
theorem rR_f1 {b : List UInt8} {s : St} {q : Qn} {a : Nat} (hq : rQ b s = (q, ⟨a, 0⟩)) (h : ¬ a + 6 ≤ b.length) : (rR b s).2.e = 171 := by
  have key : (rD b s).2.e = 171 := by
    unfold rD
    simp only [hq]
    by_cases h1 : a + 2 ≤ b.length
    · rw [rNum_fit h1]
      simp only
      by_cases h2 : a + 2 + 2 ≤ b.length
      · rw [rNum_fit h2]
        simp only
        rw [rNum_nofit (p := a + 2 + 2) (by omega)]
        rw [rTake_stay (by simp)]
      · rw [rNum_nofit h2]
        simp only
        rw [rTake_stay (by rw [rNum_stay (by simp)]; simp), rNum_stay (by simp)]
    · rw [rNum_nofit h1]
      simp only
      have e1 : (rNum b ⟨a, 171⟩).2 = ⟨a, 171⟩ := rNum_stay (by simp)
      rw [e1, e1, rTake_stay (by simp)]
  rw [rR_eq, rKk_stay (by rw [key]; simp)]
  exact key
theorem rR_f2 {b : List UInt8} {s : St} {q : Qn} {a : Nat} (hq : rQ b s = (q, ⟨a, 0⟩)) (h : a + 6 ≤ b.length) : rR b s = rKk b q (num2 (b.drop a)) (num2 (b.drop (a + 2))) (rTake b (num2 (b.drop (a + 4))) ⟨a + 6, 0⟩) := by
  rw [rR_eq]
  unfold rD
  simp only [hq]
  rw [rNum_fit (p := a) (by omega)]
  simp only
  rw [rNum_fit (p := a + 2) (by omega)]
  simp only
  rw [rNum_fit (p := a + 2 + 2) (by omega)]
theorem rTake_fit {b : List UInt8} {n p : Nat} (h : p + n ≤ b.length) : rTake b n ⟨p, 0⟩ = ((b.drop p).take n, ⟨p + n, 0⟩) := by simp [rTake, h]
theorem num2_cut {b : List UInt8} {p e : Nat} (h : p + 2 ≤ e) (he : e ≤ b.length) : num2 ((b.take e).drop p) = num2 (b.drop p) := by
  rw [num2_drop (by rw [List.length_take]; omega), num2_drop (by omega), List.getElem_take, List.getElem_take]
theorem rR_f3 {b : List UInt8} {s : St} {q : Qn} {a n : Nat} (hq : rQ b s = (q, ⟨a, 0⟩)) (hn : n = num2 (b.drop (a + 4))) (h : a + 6 + n ≤ b.length) (h33 : q.ty = 33) (h7 : 7 ≤ n) (t : List (List UInt8) × St) (ht : t = rName (b.take (a + 6 + n)) ⟨a + 12, 0⟩) :
    rR b s = (⟨q, 65536 * num2 (b.drop a) + num2 (b.drop (a + 2)), [], num2 (b.drop (a + 6)), num2 (b.drop (a + 8)), num2 (b.drop (a + 10)), t.1⟩, if t.2.e ≠ 0 ∨ t.2.at_ ≠ a + 6 + n then ⟨a + 6 + n, 172⟩ else ⟨a + 6 + n, 0⟩) := by
  rw [rR_f2 hq (by omega), ← hn, rTake_fit h]
  unfold rKk rKo
  have hl : ((b.drop (a + 6)).take n).length = n := by rw [List.length_take, List.length_drop]; omega
  have hol : (b.take (a + 6 + n)).length = a + 6 + n := by rw [List.length_take]; omega
  simp only [hl, h33]
  rw [if_neg (by simp), if_neg (by simp), if_neg (by omega), show a + 6 + n - n = a + 6 by omega, rNum_fit (p := a + 6) (by rw [hol]; omega)]
  simp only
  rw [rNum_fit (p := a + 6 + 2) (by rw [hol]; omega)]
  simp only
  rw [rNum_fit (p := a + 6 + 2 + 2) (by rw [hol]; omega)]
  simp only
  rw [num2_cut (by omega) h, num2_cut (by omega) h, num2_cut (by omega) h, ht]
/-- bytes as a number, the first ones first -/
def beN (l : List UInt8) : Nat → Nat
  | 0 => 0
  | k + 1 => 256 * beN l k + (l.getD k 0).toNat
theorem beN_lt (l : List UInt8) : ∀ k, beN l k < 256 ^ k
  | 0 => by simp [beN]
  | k + 1 => by
    have := beN_lt l k
    have := (l.getD k 0).toNat_lt
    rw [beN, Nat.pow_succ]; omega
theorem beN4 (l : List UInt8) : beN l 4 = 65536 * num2 l + num2 (l.drop 2) := by
  have e0 : (l.drop 2).getD 0 0 = l.getD 2 0 := by simp [List.getD_eq_getElem?_getD, List.getElem?_drop]
  have e1 : (l.drop 2).getD 1 0 = l.getD 3 0 := by simp [List.getD_eq_getElem?_getD, List.getElem?_drop]
  unfold num2
  rw [e0, e1]
  simp only [beN]
  omega
theorem getD_drop' (b : List UInt8) (a k : Nat) (h : a + k < b.length) : ((b.drop a).getD k 0) = b[a + k] := by
  rw [List.getD_eq_getElem?_getD, List.getElem?_drop, List.getElem?_eq_getElem h]; rfl
/-- where the reading of a record stands: the result's block, the question's, the record's -/
structure RfX (w0 w : World) (Q X : Nat) (q : QR) (x : RR) : Prop where
  vr : Vx w w0.heap.size 74 zRR.cells
  vq : Vx w Q 70 q.cells
  vx : Vx w X 74 x.cells
  bl : Below w0.heap.size w0 w
  lo : w0.heap.size < Q ∧ Q < X
  ow : ROw w (w0.heap.size + 1) X x
section
variable {w0 w w' : World} {Q X : Nat} {q : QR} {x x' : RR}
theorem RfX.far (h : RfX w0 w Q X q x) (hb : Below w.heap.size w w') : RfX w0 w' Q X q x :=
  ⟨h.vr.below hb h.vr.lt, h.vq.below hb h.vq.lt, h.vx.below hb h.vx.lt, h.bl.trans (hb.mono h.bl.size), h.lo, h.ow.only2 (Only.of_below hb : Only w w' w.heap.size) (Nat.le_refl _)⟩
theorem below_drew1 (w : World) : Below w.heap.size w w.drew := ⟨rfl, rfl, rfl, Nat.le_refl _, fun _ _ => rfl⟩
theorem RfX.setX (h : RfX w0 w Q X q x) (k : Nat) (u : Value) (hx : x.cells.set k u = x'.cells) (how : ROw (w.setCell ⟨X, k, none⟩ u) (w0.heap.size + 1) X x') : RfX w0 (w.setCell ⟨X, k, none⟩ u) Q X q x' := by
  have hl := h.lo
  refine ⟨h.vr.setO (by omega) _ _, h.vq.setO (by omega) _ _, ?_, h.bl.setCell (by show w0.heap.size ≤ X; omega) u, h.lo, how⟩
  have := h.vx.set_ k u
  rwa [hx] at this
theorem RfX.fin (h : RfX w0 w Q X q x) (x' : RR) (how : ROw w (w0.heap.size + 1) X x') : Vx (w.setRow w0.heap.size x'.cells.toArray) w0.heap.size 74 x'.cells ∧ ROw (w.setRow w0.heap.size x'.cells.toArray) w0.heap.size X x' ∧ Below w0.heap.size w0 (w.setRow w0.heap.size x'.cells.toArray) :=
  ⟨h.vr.row _, (how.only (Only.row _ _ _) (Nat.lt_succ_self _)).mono (Nat.le_succ _), h.bl.trans ((Only.row _ _ _).below (Nat.le_refl _) h.bl.size)⟩
end
theorem Ow.lit0 (w : World) (base : Nat) (e : TypeId) (h : base ≤ w.heap.size) : Ow (w.alloc (.cells #[] e)) base e (.slice (some ⟨w.heap.size, 0, none⟩) 0 0) [] :=
  ⟨rfl, Or.inr ⟨w.heap.size, 0, #[], rfl, h, (Vx.new w e []), Nat.le_refl _, by simp [maxLen], rfl, rfl⟩⟩
/-- the value that the reference hands back -/
def rfOk (z : Rc × St) (r : Rc) : Prop := (z.2.e = 0 → r = z.1) ∧ (z.2.e ≠ 0 → r = zR)
set_option maxRecDepth 100000 in
set_option maxHeartbeats 2000000 in
theorem frecord_at (A : Option Addr) (c L : Nat) (b : List UInt8) (p : Nat) (z : Rc × St) (hz : z = rR b ⟨p, 0⟩) (w : World) (hL : b.length = L) (h : Rd w w.heap.size A L (bc b)) (hc : L ≤ c) (hb : L ≤ 100000) (hp : p ≤ L) :
    Calls Try.prog 43 #[.slice A L c, .int .i64 (p : Int)] w fun e w' => ∃ x : RR, rfOk z x.r ∧ e = .returned (.tuple #[.agg x.cells.toArray, .int .i64 (nxS z.2 : Int), .int .i64 (z.2.e : Int)]) ∧ (∃ O, ROw w' w.heap.size O x) ∧ Below w.heap.size w w' := by
  obtain ⟨q, hq⟩ : ∃ q, q = rQ b ⟨p, 0⟩ := ⟨_, rfl⟩
  have HR := Lib.hid h
  have HL := Lib.hid hL
  have HQ := Lib.hid hq
  have HZ := Lib.hid hz
  clear h hL hq hz
  go_enter Try.func43, Try.ntmps43
  go_upto_region 1 with fail
  have hV1 : Vx (w.alloc (.cells #[.slice none 0 0, .int .u16 0, .int .u16 0, .int .u32 0, .slice none 0 0, .int .u16 0, .int .u16 0, .int .u16 0, .slice none 0 0] 74)) w.heap.size 74 zRR.cells := Vx.new w _ _
  have hb1 := below_new w (.cells #[.slice none 0 0, .int .u16 0, .int .u16 0, .int .u32 0, .slice none 0 0, .int .u16 0, .int .u16 0, .int .u16 0, .slice none 0 0] 74)
  have hz1 : (w.alloc (.cells #[.slice none 0 0, .int .u16 0, .int .u16 0, .int .u32 0, .slice none 0 0, .int .u16 0, .int .u16 0, .int .u16 0, .slice none 0 0] 74)).heap.size = w.heap.size + 1 := by simp
  generalize w.alloc (.cells #[.slice none 0 0, .int .u16 0, .int .u16 0, .int .u32 0, .slice none 0 0, .int .u16 0, .int .u16 0, .int .u16 0, .slice none 0 0] 74) = w1 at *
  go_cut [1, 7, 8] from 15 to 21 (fun v1 v7 v8 wx => ∃ Q A' c' q', v1 = .int .i64 (nxS q.2 : Int) ∧ v7 = .pointer (some ⟨Q, 0, none⟩) ∧ v8 = .int .i64 (q.2.e : Int) ∧ (q.2.e = 0 → q' = q.1) ∧ Hid (Vx wx w.heap.size 74 zRR.cells) ∧ Hid (Vx wx Q 70 (QR.cells ⟨A', c', q'⟩)) ∧ Hid (Below w.heap.size w wx) ∧ w.heap.size < Q ∧ Hid (Ow wx (w.heap.size + 1) 9 (.slice A' q'.nm.length c') (sc q'.nm)))
  case first =>
    go_wp2_with (first
      | (go_at_call 42
         refine (fquestion_at A c L b p q HQ.out w1 HL.out (HR.out.goes hb1) hc hb hp).mono ?_
         rintro e w2 ⟨An, cn, qq, hq1, hq2, rfl, hn2, hb2⟩
         unfold QR.cells
         dsimp only)
      | (refine wpList_store_row rfl 70 _ _ rfl w2.heap.size _ rfl rfl _ _ (Vx.new w2 _ [.slice none 0 0, .int .u16 0, .int .u16 0]) (by kernel_rfl) rfl (by kernel_rfl) ?_))
    go_meet
    refine ⟨w2.heap.size, An, cn, qq, rfl, rfl, rfl, hq1, Lib.hid ?_, Lib.hid ((Vx.new w2 _ [.slice none 0 0, .int .u16 0, .int .u16 0]).row _), Lib.hid ?_, by have := hb2.size; omega, Lib.hid ?_⟩
    · exact ((hV1.below hb2 (by omega)).alloc _).rowO (by have := hb2.size; omega) _
    · exact ((hb1.trans (hb2.mono (by omega))).alloc (by have := hb2.size; omega) _).trans ((Only.row _ _ _).below (by have := hb2.size; omega) (by have := hb2.size; simp; omega))
    · rw [← hz1]
      exact (hn2.alloc _).onlyN (Only.row _ _ _) (fun a ha => by have := ow_blk hn2 a ha; omega)
  case rest =>
    clear hV1 hb1 hz1
    obtain ⟨Q, An, cn, q', rfl, rfl, rfl, hq', HVR, HVQ, HB, hQ, HON⟩ := hcut
    by_cases h0 : q.2.e = 0
    · obtain rfl := hq' h0
      obtain ⟨a, ha⟩ : ∃ a, a = q.2.at_ := ⟨_, rfl⟩
      have hnx : nxS q.2 = a := by rw [nxS_ok h0, ha]
      have hqa : rQ b ⟨p, 0⟩ = (q.1, ⟨a, 0⟩) := by rw [← HQ.out, ha, ← h0]
      have h0' : (q.2.e : Int) = 0 := by omega
      have h0b : ((q.2.e : Int) != 0) = false := by simp [h0]
      rw [hnx]
      have hal : a ≤ L := by rw [ha, HQ.out, ← HL.out]; exact rQ_le (by rw [← HQ.out]; exact h0)
      have HQA := Lib.hid hqa
      clear hqa hnx ha hq'
      by_cases h6 : a + 6 ≤ L
      · have h6' : (a : Int) + 6 ≤ (L : Int) := by omega
        have HVQ3 := Lib.hid (show Vx wc Q 70 [.slice An q.1.nm.length cn, .int .u16 (q.1.ty : Int), .int .u16 (q.1.cl : Int)] from HVQ.out)
        go_upto_region 6 with fail
        go_cut [8, 9] from 22 to 33 (fun v8 v9 wx => ∃ X, v8 = .int .i64 0 ∧ v9 = .pointer (some ⟨X, 0, none⟩) ∧ Hid (RfX w wx Q X ⟨An, cn, q.1⟩ ⟨An, cn, none, 0, none, 0, ⟨q.1, 0, [], 0, 0, 0, []⟩⟩))
        case first =>
          go_wp2_with (first
            | (refine wpList_load_row rfl 70 _ rfl Q rfl _ _ _ _ HVQ3.out Try.underlying70 rfl (by kernel_rfl) ?_)
            | (refine wpList_store_row rfl 74 _ _ rfl wc.heap.size _ rfl rfl _ _ (Vx.new wc _ zRR.cells) (by kernel_rfl) rfl (by kernel_rfl) ?_))
          simp only [Act.put]
          go_meet
          have hQl := HVQ.out.lt
          refine ⟨wc.heap.size, rfl, rfl, Lib.hid ⟨(HVR.out.alloc _).rowO (by omega) _, (HVQ.out.alloc _).rowO (by omega) _, (Vx.new wc _ zRR.cells).row _, (HB.out.alloc HB.out.size _).trans ((Only.row _ _ _).below HB.out.size (by have := HB.out.size; simp; omega)), ⟨hQ, hQl⟩, ?_⟩⟩
          exact ⟨(HON.out.alloc _).onlyN (Only.row _ _ _) (fun a ha => by have := ow_blk HON.out a ha; omega), Ow.nil _ _ _, Ow.nil _ _ _, fun a ha => by have := ow_blk HON.out a ha; omega, fun a h => (by cases h), fun a h => (by cases h)⟩
        case rest =>
          clear HVR HVQ HVQ3 HB HON
          obtain ⟨X, rfl, rfl, HX⟩ := hcut
          go_wp2_with fail
          go_loopw [10] (fun i wr => ∃ k : Nat, k ≤ 4 ∧ i = .int .i64 k ∧ Hid (RfX w wr Q X ⟨An, cn, q.1⟩ ⟨An, cn, none, 0, none, 0, ⟨q.1, beN (b.drop a) k, [], 0, 0, 0, []⟩⟩)) (fun i _ => 4 - (intOf i).toNat)
          case atStart => exact ⟨0, by omega, rfl, HX⟩
          case round =>
            clear HX
            obtain ⟨k, hk, rfl, HX⟩ := hrel
            by_cases hk4 : k < 4
            · have hrd := HR.out.goes HX.out.bl
              obtain ⟨bq, oq, rfl, _, hcell⟩ := hrd.2 (by omega)
              have hbl : a + k < b.length := by rw [HL.out]; omega
              have d0 := hcell (a + k) _ (bc_get b (a + k) hbl)
              have hx := (b[a + k]'hbl).toNat_lt
              obtain ⟨x, hxe⟩ : ∃ x, x = (b[a + k]'hbl).toNat := ⟨_, rfl⟩
              rw [← hxe] at d0 hx
              have hv := beN_lt (b.drop a) k
              have hv2 : 256 ^ k ≤ 16777216 := by
                rcases (show k = 0 ∨ k = 1 ∨ k = 2 ∨ k = 3 by omega) with rfl | rfl | rfl | rfl <;> decide
              obtain ⟨v, hve⟩ : ∃ v, v = beN (b.drop a) k := ⟨_, rfl⟩
              rw [← hve] at hv HX
              have hvl : v < 16777216 := by omega
              have HNX := Lib.hid (show beN (b.drop a) (k + 1) = 256 * v + x by rw [beN, ← hve, hxe, getD_drop' b a k hbl])
              have m3 : wr.cell? ⟨X, 3, none⟩ = some (.int .u32 (v : Int)) := HX.out.vx.c9.2.2.2.1
              have f3 := HX.out.vx.free 3
              have kw1 : IntKind.i64.wrap ((a : Int) + (k : Int)) = (a : Int) + (k : Int) := by rw [IntKind.wrap_i64]; omega
              have kw2 : IntKind.u32.wrap (256 * (v : Int)) = 256 * (v : Int) := by rw [IntKind.wrap_u32]; omega
              have kw3 : IntKind.u32.wrap (256 * (v : Int) + (x : Int)) = 256 * (v : Int) + (x : Int) := by rw [IntKind.wrap_u32]; omega
              have kw4 : IntKind.u32.wrap (x : Int) = (x : Int) := by rw [IntKind.wrap_u32]; omega
              have hg3 : (a : Int) + (k : Int) < (L : Int) := by omega
              have hg4 : ((a : Int) + (k : Int)).toNat = a + k := by omega
              clear hcell hrd hxe hve hv hv2
              go_upto_region 10 with fail
              go_region
              all_goals
                go_wp2_with fail
                go_roundw
                case rel =>
                  refine ⟨k + 1, by omega, by go_num, Lib.hid ?_⟩
                  rw [HNX.out]
                  have zz := HX.out.ow.setO 3 (.int .u32 ((256 * v + x : Nat) : Int))
                  have h1 := HX.out.setX 3 (.int .u32 ((256 * v + x : Nat) : Int)) (x' := ⟨An, cn, none, 0, none, 0, ⟨q.1, 256 * v + x, [], 0, 0, 0, []⟩⟩) rfl ⟨zz.n, zz.d, zz.t, zz.an, zz.ad, zz.at_⟩
                  push_cast at h1
                  exact h1.far (below_drew1 _)
                case measure => simp [intOf]; omega
            · have hke : k = 4 := by omega
              subst hke
              rw [beN4, List.drop_drop] at HX
              obtain ⟨T, hT⟩ : ∃ T, T = 65536 * num2 (b.drop a) + num2 (b.drop (a + 2)) := ⟨_, rfl⟩
              rw [← hT] at HX
              have HT := Lib.hid hT
              obtain ⟨n, hn⟩ : ∃ n, n = num2 (b.drop (a + 4)) := ⟨_, rfl⟩
              have hn6 : n < 65536 := by rw [hn]; exact num2_le _
              have HN := Lib.hid hn
              obtain ⟨bq, oq, hA, _, hcell⟩ := (HR.out.goes HX.out.bl).2 (by omega)
              have hbl : a + 4 + 2 ≤ b.length := by rw [HL.out]; omega
              have d0 := hcell (a + 4) _ (bc_get b (a + 4) (by omega))
              have d1 := hcell (a + 5) _ (bc_get b (a + 5) (by omega))
              have hx := (b[a + 4]'(by omega)).toNat_lt
              have hy := (b[a + 5]'(by omega)).toNat_lt
              have hnn : n = 256 * (b[a + 4]'(by omega)).toNat + (b[a + 5]'(by omega)).toNat := by rw [hn, num2_drop hbl]
              generalize (b[a + 4]'(by omega)).toNat = x at *
              generalize (b[a + 5]'(by omega)).toNat = y at *
              have kw3 : IntKind.i64.wrap (256 * (x : Int)) = 256 * (x : Int) := by rw [IntKind.wrap_i64]; omega
              have kw4 : IntKind.i64.wrap (256 * (x : Int) + (y : Int)) = 256 * (x : Int) + (y : Int) := by rw [IntKind.wrap_i64]; omega
              have kw5 : IntKind.i64.wrap (x : Int) = (x : Int) := by rw [IntKind.wrap_i64]; omega
              have kw6 : IntKind.i64.wrap (y : Int) = (y : Int) := by rw [IntKind.wrap_i64]; omega
              have kw1 : IntKind.i64.wrap ((a : Int) + 4) = (a : Int) + 4 := by rw [IntKind.wrap_i64]; omega
              have kw2 : IntKind.i64.wrap ((a : Int) + 5) = (a : Int) + 5 := by rw [IntKind.wrap_i64]; omega
              have hg2 : (a : Int) + 4 < (L : Int) := by omega
              have hg3 : (a : Int) + 5 < (L : Int) := by omega
              have hg4 : ((a : Int) + 4).toNat = a + 4 := by omega
              have hg5 : ((a : Int) + 5).toNat = a + 5 := by omega
              have hnI : 256 * (x : Int) + (y : Int) = (n : Int) := by omega
              have hnI' := hnI
              clear hnn hn hT hcell
              go_upto_region 11 with fail
              go_cut [11] from 34 to 63 (fun v11 wx => v11 = .int .i64 (n : Int) ∧ Hid (RfX w wx Q X ⟨An, cn, q.1⟩ ⟨An, cn, none, 0, none, 0, ⟨q.1, T, [], 0, 0, 0, []⟩⟩))
              case first =>
                subst hA
                go_quiet (fail)
                go_wp2_with fail
                go_meet
                exact ⟨rfl, Lib.hid (HX.out.far (below_drewN (Below.refl _ wr) nq))⟩
              case rest =>
                clear HX d0 d1 hA
                obtain ⟨rfl, HX0⟩ := hcut
                obtain ⟨a6, ha6⟩ : ∃ a6, a6 = a + 6 := ⟨_, rfl⟩
                have hA6 : (a : Int) + 6 = (a6 : Int) := by omega
                obtain ⟨en, hen⟩ : ∃ en, en = a6 + n := ⟨_, rfl⟩
                have hEn : (a6 : Int) + (n : Int) = (en : Int) := by omega
                have a6l : a6 ≤ L := by omega
                have HA6 := Lib.hid ha6
                have HEN := Lib.hid hen
                have ha6a : a + 6 ≤ a6 := by omega
                have ha6b : a6 ≤ a + 6 := by omega
                have hena : a6 + n ≤ en := by omega
                have henb : en ≤ a6 + n := by omega
                clear ha6 hen
                by_cases hfit : en ≤ L
                · have hfit' : (en : Int) ≤ (L : Int) := by omega
                  have c1 : wc.cell? ⟨Q, 1, none⟩ = some (.int .u16 (q.1.ty : Int)) := HX0.out.vq.cell 1
                  by_cases h33 : q.1.ty = 33
                  · have h33' : (q.1.ty : Int) = 33 := by omega
                    by_cases h7 : n < 7
                    · have h7' : (n : Int) < 7 := by omega
                      have hz1 : z.2.e = 172 := by
                        rw [HZ.out, rR_f2 HQA.out (by rw [HL.out]; omega), ← HN.out, rTake_fit (by rw [HL.out]; omega)]
                        unfold rKk
                        rw [if_neg (by simp), if_neg (by simp [h33]), if_pos (by rw [List.length_take]; omega)]
                      have hzn : nxS z.2 = 0 := nxS_no (by rw [hz1]; simp)
                      have HOK : rfOk z zR := ⟨fun h => (by rw [hz1] at h; cases h), fun _ => rfl⟩
                      have HZ1 := Lib.hid hz1
                      have HZN := Lib.hid hzn
                      clear hz1 hzn
                      go_wp2_with (refine wpList_store_row rfl 74 _ _ rfl w.heap.size _ rfl rfl _ _ HX0.out.vr (by kernel_rfl) rfl (by kernel_rfl) ?_)
                      refine bodyPost_ret (resRf Try.results43 _ _ w.heap.size _ _ _ _ rfl rfl rfl (HX0.out.vr.row zRR.cells) rfl) rfl ?_
                      exact ⟨zRR, HOK, by rw [HZ1.out, HZN.out]; rfl, ⟨0, zRR_ow _ _ _⟩, HX0.out.bl.trans ((Only.row _ _ _).below (Nat.le_refl _) HX0.out.bl.size)⟩
                    · have h7' : (7 : Int) ≤ (n : Int) := by omega
                      obtain ⟨a8, ha8⟩ : ∃ a8, a8 = a6 + 2 := ⟨_, rfl⟩
                      obtain ⟨a10, ha10⟩ : ∃ a10, a10 = a6 + 4 := ⟨_, rfl⟩
                      obtain ⟨a12, ha12⟩ : ∃ a12, a12 = a6 + 6 := ⟨_, rfl⟩
                      have hA8 : (a6 : Int) + 2 = (a8 : Int) := by omega
                      have hA10 : (a6 : Int) + 4 = (a10 : Int) := by omega
                      have hA12 : (a6 : Int) + 6 = (a12 : Int) := by omega
                      obtain ⟨t, ht⟩ : ∃ t, t = rName (b.take en) ⟨a12, 0⟩ := ⟨_, rfl⟩
                      have hzz : z = (⟨q.1, T, [], num2 (b.drop a6), num2 (b.drop a8), num2 (b.drop a10), t.1⟩, if t.2.e ≠ 0 ∨ t.2.at_ ≠ en then ⟨en, 172⟩ else ⟨en, 0⟩) := by
                        rw [HZ.out, rR_f3 HQA.out HN.out (by rw [HL.out]; omega) h33 (by omega) t (by rw [ht, HEN.out, ha12, HA6.out]), ← HT.out, HEN.out, ha10, ha8, HA6.out]
                      have hel : (b.take en).length = en := by rw [List.length_take, HL.out]; omega
                      have HEL := Lib.hid hel
                      have HTT := Lib.hid ht
                      have a8a : a6 + 2 ≤ a8 := by omega
                      have a8b : a8 ≤ a6 + 2 := by omega
                      have a10a : a6 + 4 ≤ a10 := by omega
                      have a10b : a10 ≤ a6 + 4 := by omega
                      have a12a : a6 + 6 ≤ a12 := by omega
                      have a12b : a12 ≤ a6 + 6 := by omega
                      have HZZ := Lib.hid hzz
                      clear ha8 ha10 ha12 ht hel hzz
                      have ksl : ∀ W, (Instr.slice 22 (.slice A L c) none (some (.int .i64 (en : Int))) none).run Try.prog W = .ok (.slice A en c) W := fun W => run_sl_h W _ 5 Try.underlying22 (fun w => by kernel_rfl) A L c en (by omega)
                      have tok1 : True := trivial
                      have tok2 : True := trivial
                      have tok3 : True := trivial
                      go_upto_region 25 with (first
                        | (go_at_call 70
                           refine (rread_at A c en (b.take en) a12 t HTT.out _ HEL.out ((HR.out.goes HS5.out.bl).preB hfit) (by omega) (by omega) (by omega)).mono ?_
                           rintro e w6 ⟨A6, c6, rfl, hn6', hb6⟩
                           have HX6 := Lib.hid (HS5.out.far hb6))
                        | (go_at_call 41
                           have _t := tok3
                           refine (fnum_at A c L b a10 (num2 (b.drop a10), ⟨a10 + 2, 0⟩) (rNum_fit (by rw [HL.out]; omega)).symm _ HL.out (HR.out.goes HS4.out.bl) hc hb (by omega)).mono ?_
                           rintro e w5 ⟨rfl, hb5⟩
                           have HX5 := Lib.hid (HS4.out.far hb5)
                           have y7 : w5.cell? ⟨X, 7, none⟩ = some (.int .u16 0) := HX5.out.vx.cell 7
                           have f7 := HX5.out.vx.free 7
                           have zz := HX5.out.ow.setO 7 (.int .u16 (num2 (b.drop a10) : Int))
                           have HS5 := Lib.hid (HX5.out.setX 7 (.int .u16 (num2 (b.drop a10) : Int)) (x' := ⟨An, cn, none, 0, none, 0, ⟨q.1, T, [], num2 (b.drop a6), num2 (b.drop a8), num2 (b.drop a10), []⟩⟩) rfl ⟨zz.n, zz.d, zz.t, zz.an, zz.ad, zz.at_⟩)
                           clear zz tok3)
                        | (go_at_call 41
                           have _t := tok2
                           refine (fnum_at A c L b a8 (num2 (b.drop a8), ⟨a8 + 2, 0⟩) (rNum_fit (by rw [HL.out]; omega)).symm _ HL.out (HR.out.goes HS3.out.bl) hc hb (by omega)).mono ?_
                           rintro e w4 ⟨rfl, hb4⟩
                           have HX4 := Lib.hid (HS3.out.far hb4)
                           have y6 : w4.cell? ⟨X, 6, none⟩ = some (.int .u16 0) := HX4.out.vx.cell 6
                           have f6 := HX4.out.vx.free 6
                           have zz := HX4.out.ow.setO 6 (.int .u16 (num2 (b.drop a8) : Int))
                           have HS4 := Lib.hid (HX4.out.setX 6 (.int .u16 (num2 (b.drop a8) : Int)) (x' := ⟨An, cn, none, 0, none, 0, ⟨q.1, T, [], num2 (b.drop a6), num2 (b.drop a8), 0, []⟩⟩) rfl ⟨zz.n, zz.d, zz.t, zz.an, zz.ad, zz.at_⟩)
                           clear zz tok2)
                        | (go_at_call 41
                           have _t := tok1
                           refine (fnum_at A c L b a6 (num2 (b.drop a6), ⟨a6 + 2, 0⟩) (rNum_fit (by rw [HL.out]; omega)).symm _ HL.out (HR.out.goes HX0.out.bl) hc hb (by omega)).mono ?_
                           rintro e w3 ⟨rfl, hb3⟩
                           have HX3 := Lib.hid (HX0.out.far hb3)
                           have y5 : w3.cell? ⟨X, 5, none⟩ = some (.int .u16 0) := HX3.out.vx.cell 5
                           have f5 := HX3.out.vx.free 5
                           have zz := HX3.out.ow.setO 5 (.int .u16 (num2 (b.drop a6) : Int))
                           have HS3 := Lib.hid (HX3.out.setX 5 (.int .u16 (num2 (b.drop a6) : Int)) (x' := ⟨An, cn, none, 0, none, 0, ⟨q.1, T, [], num2 (b.drop a6), 0, 0, []⟩⟩) rfl ⟨zz.n, zz.d, zz.t, zz.an, zz.ad, zz.at_⟩)
                           clear zz tok1))
                      have hX6 := HX6.out
                      have y8 : w6.cell? ⟨X, 8, none⟩ = some (.slice none 0 0) := HX6.out.vx.cell 8
                      have f8 := HX6.out.vx.free 8
                      have hbs6 : X < w6.heap.size := HX6.out.vx.lt
                      by_cases hte : t.2.e = 0
                      · have oa : ((t.2.e : Int) != 0) = false := by simp [hte]
                        by_cases hta : t.2.at_ = en
                        · have ob : ((t.2.at_ : Int) != (en : Int)) = false := by simp [hta]
                          have hzz : z = (⟨q.1, T, [], num2 (b.drop a6), num2 (b.drop a8), num2 (b.drop a10), t.1⟩, ⟨en, 0⟩) := by rw [HZZ.out, if_neg (by rw [hte, hta]; simp)]
                          have HOK := Lib.hid (show rfOk z ⟨q.1, T, [], num2 (b.drop a6), num2 (b.drop a8), num2 (b.drop a10), t.1⟩ from ⟨fun _ => by rw [hzz], fun h => absurd (by rw [hzz]) h⟩)
                          have HZ1 := Lib.hid (show z.2.e = 0 by rw [hzz])
                          have HZN := Lib.hid (show nxS z.2 = en by rw [hzz]; rfl)
                          clear hzz hte hta
                          have hX5 := HS5.out.vx.lt
                          have hlo5 := HS5.out.lo
                          have h9 := (ow_setN hn6' (q := X) (fun a ha => by have := ow_blk hn6' a ha; omega) 8 (.slice A6 t.1.length c6)).mono (base' := w.heap.size + 1) (by omega)
                          have zz := HX6.out.ow.setO 8 (.slice A6 t.1.length c6)
                          have HX8 := Lib.hid (HX6.out.setX 8 (.slice A6 t.1.length c6) (x' := ⟨An, cn, none, 0, A6, c6, ⟨q.1, T, [], num2 (b.drop a6), num2 (b.drop a8), num2 (b.drop a10), t.1⟩⟩) rfl ⟨zz.n, zz.d, h9, zz.an, zz.ad, fun a ha => by (have := ow_blk hn6' a ha; omega)⟩)
                          clear h9 zz hX6 hX5 hlo5
                          go_wp2_with (first
                            | (refine wpList_store_row rfl 74 _ _ rfl w.heap.size _ rfl rfl _ _ HX8.out.vr (by kernel_rfl) rfl (by kernel_rfl) ?_)
                            | (refine wpList_load_row rfl 74 _ rfl X rfl _ _ _ _ HX8.out.vx Try.underlying74 rfl (by kernel_rfl) ?_))
                          obtain ⟨F1, F2, F3⟩ := HX8.out.fin _ HX8.out.ow
                          refine bodyPost_ret (resRf Try.results43 _ _ w.heap.size _ _ _ _ rfl rfl rfl F1 rfl) rfl ?_
                          exact ⟨_, HOK.out, by rw [HZ1.out, HZN.out]; rfl, ⟨X, F2⟩, F3⟩
                        · have ob : ((t.2.at_ : Int) != (en : Int)) = true := by rw [bne_iff_ne]; omega
                          have hz1 : z.2.e = 172 := by rw [HZZ.out, if_pos (Or.inr hta)]
                          have hzn : nxS z.2 = 0 := nxS_no (by rw [hz1]; simp)
                          have HOK : rfOk z zR := ⟨fun h => (by rw [hz1] at h; cases h), fun _ => rfl⟩
                          have HZ1 := Lib.hid hz1
                          have HZN := Lib.hid hzn
                          clear hz1 hzn
                          go_wp2_with (refine wpList_store_row rfl 74 _ _ rfl w.heap.size _ rfl rfl _ _ HX6.out.vr (by kernel_rfl) rfl (by kernel_rfl) ?_)
                          refine bodyPost_ret (resRf Try.results43 _ _ w.heap.size _ _ _ _ rfl rfl rfl (HX6.out.vr.row zRR.cells) rfl) rfl ?_
                          exact ⟨zRR, HOK, by rw [HZ1.out, HZN.out]; rfl, ⟨0, zRR_ow _ _ _⟩, HX6.out.bl.trans ((Only.row _ _ _).below (Nat.le_refl _) HX6.out.bl.size)⟩
                      · have oa : ((t.2.e : Int) != 0) = true := by rw [bne_iff_ne]; omega
                        have hz1 : z.2.e = 172 := by rw [HZZ.out, if_pos (Or.inl hte)]
                        have hzn : nxS z.2 = 0 := nxS_no (by rw [hz1]; simp)
                        have HOK : rfOk z zR := ⟨fun h => (by rw [hz1] at h; cases h), fun _ => rfl⟩
                        have HZ1 := Lib.hid hz1
                        have HZN := Lib.hid hzn
                        clear hz1 hzn
                        go_wp2_with (refine wpList_store_row rfl 74 _ _ rfl w.heap.size _ rfl rfl _ _ HX6.out.vr (by kernel_rfl) rfl (by kernel_rfl) ?_)
                        refine bodyPost_ret (resRf Try.results43 _ _ w.heap.size _ _ _ _ rfl rfl rfl (HX6.out.vr.row zRR.cells) rfl) rfl ?_
                        exact ⟨zRR, HOK, by rw [HZ1.out, HZN.out]; rfl, ⟨0, zRR_ow _ _ _⟩, HX6.out.bl.trans ((Only.row _ _ _).below (Nat.le_refl _) HX6.out.bl.size)⟩
                  · have h33' : ¬ (q.1.ty : Int) = 33 := by omega
                    obtain ⟨dd, hdd⟩ : ∃ dd, dd = (b.drop a6).take n := ⟨_, rfl⟩
                    have hdl : dd.length = n := by rw [hdd, List.length_take, List.length_drop, HL.out]; omega
                    have hzz : z = (⟨q.1, T, dd, 0, 0, 0, []⟩, ⟨en, 0⟩) := by
                      rw [HZ.out, rR_f2 HQA.out (by rw [HL.out]; omega), ← HN.out, rTake_fit (by rw [HL.out]; omega)]
                      unfold rKk
                      rw [if_neg (by simp), if_pos h33, ← HT.out, hdd, HEN.out, HA6.out]
                    have HOK := Lib.hid (show rfOk z ⟨q.1, T, dd, 0, 0, 0, []⟩ from ⟨fun _ => by rw [hzz], fun h => absurd (by rw [hzz]) h⟩)
                    have HZ1 := Lib.hid (show z.2.e = 0 by rw [hzz])
                    have HZN := Lib.hid (show nxS z.2 = en by rw [hzz]; rfl)
                    obtain ⟨i0, hi, hz0, hz1, hz2⟩ := info_parts Try.infoByte
                    have ksl : ∀ W, (Instr.slice 22 (.slice A L c) (some (.int .i64 (a6 : Int))) (some (.int .i64 (en : Int))) none).run Try.prog W = .ok (.slice (cutA A c a6) n (c - a6)) W := fun W => by
                      have := run_sl_lh W 22 5 Try.underlying22 (fun w => by kernel_rfl) A L c a6 en (by omega) (by omega)
                      rwa [show en - a6 = n by omega] at this
                    have hrd : Rd wc wc.heap.size (cutA A c a6) n (bc dd) := by
                      have := (HR.out.goes HX0.out.bl).cut (k := a6) (m := en) (cap := c) (by omega) (by omega) hc
                      rwa [show en - a6 = n by omega, show ((bc b).drop a6).take n = bc dd by rw [hdd]; simp [bc, List.map_drop, List.map_take]] at this
                    have HRD := Lib.hid hrd
                    have HDL := Lib.hid hdl
                    clear hrd hdl hzz hdd
                    go_upto_region 17 with fail
                    have hs0 := HX0.out.bl.size
                    have hlX := HX0.out.vx.lt
                    have hlo := HX0.out.lo
                    go_wp2_with (first
                      | (refine wpList_store_row rfl 74 _ _ rfl w.heap.size _ rfl rfl _ _ HX6.out.vr (by kernel_rfl) rfl (by kernel_rfl) ?_)
                      | (refine wpList_load_row rfl 74 _ rfl X rfl _ _ _ _ HX6.out.vx Try.underlying74 rfl (by kernel_rfl) ?_)
                      | (at_builtin
                         refine wpList_app _ rfl _ _ _ _ rfl wc.heap.size 5 i0 (.int .u8 0) 1 Try.underlying22 hi hz0 hz1 hz2 rfl (Nat.le_refl _) _ [] (Ow.lit0 wc _ _ (Nat.le_refl _)) rfl n (bc dd) (Rd.src (HRD.out.goes (below_new wc _)) Try.underlying22 (bc_one _)) (by simp; omega) (by simp) ?_
                         intro v3 w3 hown3 hgr3 hsz3
                         rw [List.nil_append] at hown3
                         obtain ⟨A3, c3, rfl, hc3, hr3⟩ := hown3.form6 n (by rw [bc_length]; exact HDL.out)
                         have hb3 : Below wc.heap.size wc w3 := (below_new wc _).trans (hgr3.below (fun g hg => by simp [Value.ownBlock] at hg; omega) (by simp))
                         have HX3 := Lib.hid (HX0.out.far hb3)
                         have y4 : w3.cell? ⟨X, 4, none⟩ = some (.slice none 0 0) := HX3.out.vx.cell 4
                         have f4 := HX3.out.vx.free 4
                         have zz := HX3.out.ow.setO 4 (.slice A3 n c3)
                         have HX6 := Lib.hid (HX3.out.setX 4 (.slice A3 n c3) (x' := ⟨An, cn, A3, c3, none, 0, ⟨q.1, T, dd, 0, 0, 0, []⟩⟩) (by have e := HDL.out; unfold RR.cells; dsimp only [List.set]; rw [e]) ⟨zz.n, by
                           have h9 := (ow_setN hown3 (q := X) (fun a ha => by have := ow_blk hown3 a ha; omega) 4 (.slice A3 n c3)).mono (show w.heap.size + 1 ≤ wc.heap.size by omega)
                           show Ow _ _ _ (.slice A3 dd.length c3) _
                           rw [HDL.out]; exact h9, zz.t, zz.an, fun a ha => by (have := ow_blk hown3 a ha; omega), zz.at_⟩)
                         clear zz))
                    obtain ⟨F1, F2, F3⟩ := HX6.out.fin _ HX6.out.ow
                    refine bodyPost_ret (resRf Try.results43 _ _ w.heap.size _ _ _ _ rfl rfl rfl F1 rfl) rfl ?_
                    exact ⟨_, HOK.out, by rw [HZ1.out, HZN.out]; rfl, ⟨X, F2⟩, F3⟩
                · have hfit' : (L : Int) < (en : Int) := by omega
                  have hz1 : z.2.e = 171 := by
                    rw [HZ.out, rR_f2 HQA.out (by rw [HL.out]; omega), ← HN.out, rKk_stay (by rw [rTake_no (by rw [HL.out]; omega)]; simp), rTake_no (by rw [HL.out]; omega)]
                  have hzn : nxS z.2 = 0 := nxS_no (by rw [hz1]; simp)
                  have HOK : rfOk z zR := ⟨fun h => (by rw [hz1] at h; cases h), fun _ => rfl⟩
                  have HZ1 := Lib.hid hz1
                  have HZN := Lib.hid hzn
                  clear hz1 hzn
                  go_wp2_with (refine wpList_store_row rfl 74 _ _ rfl w.heap.size _ rfl rfl _ _ HX0.out.vr (by kernel_rfl) rfl (by kernel_rfl) ?_)
                  refine bodyPost_ret (resRf Try.results43 _ _ w.heap.size _ _ _ _ rfl rfl rfl (HX0.out.vr.row zRR.cells) rfl) rfl ?_
                  exact ⟨zRR, HOK, by rw [HZ1.out, HZN.out]; rfl, ⟨0, zRR_ow _ _ _⟩, HX0.out.bl.trans ((Only.row _ _ _).below (Nat.le_refl _) HX0.out.bl.size)⟩
      · have hz1 : z.2.e = 171 := by rw [HZ.out]; exact rR_f1 HQA.out (by rw [HL.out]; exact h6)
        have h6' : (L : Int) < (a : Int) + 6 := by omega
        have hzn : nxS z.2 = 0 := nxS_no (by rw [hz1]; simp)
        have HOK : rfOk z zR := ⟨fun h => (by rw [hz1] at h; cases h), fun _ => rfl⟩
        have HZ1 := Lib.hid hz1
        have HZN := Lib.hid hzn
        clear hz1 hzn
        go_wp2_with (refine wpList_store_row rfl 74 _ _ rfl w.heap.size _ rfl rfl _ _ HVR.out (by kernel_rfl) rfl (by kernel_rfl) ?_)
        refine bodyPost_ret (resRf Try.results43 _ _ w.heap.size _ _ _ _ rfl rfl rfl (HVR.out.row zRR.cells) rfl) rfl ?_
        exact ⟨zRR, HOK, by rw [HZ1.out, HZN.out]; rfl, ⟨0, zRR_ow _ _ _⟩, HB.out.trans ((Only.row _ _ _).below (Nat.le_refl _) HB.out.size)⟩
    · have hz1 : z.2 = q.2 := by rw [HZ.out, rR_f0 (by rw [← HQ.out]; exact h0), ← HQ.out]
      have h0' : ¬ (q.2.e : Int) = 0 := by omega
      have h0b : ((q.2.e : Int) != 0) = true := by rw [bne_iff_ne]; omega
      have hzn : nxS z.2 = 0 := by rw [hz1]; exact nxS_no h0
      have HOK : rfOk z zR := ⟨fun h => absurd (by rw [← hz1]; exact h) h0, fun _ => rfl⟩
      have HZ1 := Lib.hid (show z.2.e = q.2.e by rw [hz1])
      have HZN := Lib.hid hzn
      clear hz1 hzn
      go_wp2_with (refine wpList_store_row rfl 74 _ _ rfl w.heap.size _ rfl rfl _ _ HVR.out (by kernel_rfl) rfl (by kernel_rfl) ?_)
      refine bodyPost_ret (resRf Try.results43 _ _ w.heap.size _ _ _ _ rfl rfl rfl (HVR.out.row zRR.cells) rfl) rfl ?_
      exact ⟨zRR, HOK, by rw [HZ1.out, HZN.out]; rfl, ⟨0, zRR_ow _ _ _⟩, HB.out.trans ((Only.row _ _ _).below (Nat.le_refl _) HB.out.size)⟩
open Go.RowKit
theorem Try.infoQf : (Try.prog.info? 70).map (fun i => (i.zero, i.size, i.bytes)) = some (some (.agg #[.slice none 0 0, .int .u16 0, .int .u16 0]), 3, 32) := by kernel_rfl
theorem Try.infoRf : (Try.prog.info? 74).map (fun i => (i.zero, i.size, i.bytes)) = some (some (.agg zRR.cells.toArray), 9, 96) := by kernel_rfl
def rwQf (A : Option Addr) (c : Nat) (l : List QR) : Ob := ⟨70, 3, .slice A l.length c, l.length, qcs l⟩
def rwRf (A : Option Addr) (c : Nat) (l : List RR) : Ob := ⟨74, 9, .slice A l.length c, l.length, rcs l⟩
/-- all of a message of the reference is of the call's own -/
structure MOwF (w : World) (base : Nat) (x : MR) : Prop where
  q : (rwQf x.qA x.qc x.qs).ok w base
  a : (rwRf x.aA x.ac x.r0).ok w base
  b : (rwRf x.bA x.bc x.r1).ok w base
  c : (rwRf x.cA x.cc x.r2).ok w base
  n : ∀ o, DQ x.qs o → o.ok w base
  r0 : ∀ o, DR x.r0 o → o.ok w base
  r1 : ∀ o, DR x.r1 o → o.ok w base
  r2 : ∀ o, DR x.r2 o → o.ok w base
theorem zMR_owF (w : World) (base : Nat) : MOwF w base zMR :=
  ⟨OwM.nil _ _ _ _, OwM.nil _ _ _ _, OwM.nil _ _ _ _, OwM.nil _ _ _ _, fun o ⟨x, hx, _⟩ => (by cases hx), fun o ⟨x, hx, _⟩ => (by cases hx), fun o ⟨x, hx, _⟩ => (by cases hx), fun o ⟨x, hx, _⟩ => (by cases hx)⟩
theorem rwQf_rd {w : World} {base : Nat} {A : Option Addr} {c : Nat} {l : List QR} (h : (rwQf A c l).ok w base) (hn : ∀ o, DQ l o → o.ok w base) (hr : ∀ x ∈ l, rightN x.q.nm = true) (hk : ∀ x ∈ l, okQ x.q) (hl : l.length ≤ 256) : QsRd w w.heap.size A c l.length l := by
  have h1 : OwM w base 70 3 (.slice A l.length c) l.length (qcs l) := h
  exact ⟨h1.rd, rfl, h1.cap, by omega, fun x hx => ⟨nmO_rd (hn _ ⟨x, hx, rfl⟩) (right_small (hr x hx)), hk x hx⟩⟩
theorem rwRf_rd {w : World} {base : Nat} {A : Option Addr} {c : Nat} {l : List RR} (h : (rwRf A c l).ok w base) (hn : ∀ o, DR l o → o.ok w base) (hr : ∀ x ∈ l, rightR x.r = true) (hk : ∀ x ∈ l, okR x.r) (hl : l.length ≤ 256) : RsRd w w.heap.size A c l.length l := by
  have h1 : OwM w base 74 9 (.slice A l.length c) l.length (rcs l) := h
  refine ⟨h1.rd, rfl, h1.cap, by omega, fun x hx => ?_⟩
  obtain ⟨k1, k2, k3, k4, k5⟩ := hk x hx
  exact ⟨⟨nmO_rd (hn _ ⟨x, hx, Or.inl rfl⟩) (right_small (rightR_nm (hr x hx))), k1⟩, daO_rd (hn _ ⟨x, hx, Or.inr (Or.inl rfl)⟩) (by have := rightR_data (hr x hx); omega), nmO_rd (hn _ ⟨x, hx, Or.inr (Or.inr rfl)⟩) (rightR_tg (hr x hx)), k2, k3, k4, k5⟩
theorem MOwF.rd {w : World} {base : Nat} {x : MR} (h : MOwF w base x) (hr : rightM x.m = true) (hk : okM x.m) (hn : x.m.num ≤ 256) : MRd w w.heap.size x := by
  have hn' : x.qs.length + x.r0.length + x.r1.length + x.r2.length ≤ 256 := by simpa [Ms.num, MR.m] using hn
  obtain ⟨a0, a1, a2, a3⟩ := resW hr
  exact ⟨hk.id, hk.fl, rwQf_rd h.q h.n a0 (fun y hy => hk.qs _ (List.mem_map.2 ⟨y, hy, rfl⟩)) (by omega), rwRf_rd h.a h.r0 a1 (fun y hy => hk.r0 _ (List.mem_map.2 ⟨y, hy, rfl⟩)) (by omega), rwRf_rd h.b h.r1 a2 (fun y hy => hk.r1 _ (List.mem_map.2 ⟨y, hy, rfl⟩)) (by omega), rwRf_rd h.c h.r2 a3 (fun y hy => hk.r2 _ (List.mem_map.2 ⟨y, hy, rfl⟩)) (by omega)⟩
theorem readF_mrd {w : World} {base : Nat} {x : MR} {b : List UInt8} (h : MOwF w base x) (hx : x.m = (readM b).1) : MRd w w.heap.size x := by
  by_cases h0 : (readM b).2 = 0
  · obtain ⟨h1, h2, h3, _⟩ := read_ok h0
    exact h.rd (by rw [hx]; exact h1) (by rw [hx]; exact h2) (by rw [hx]; exact h3)
  · have hz := read_err h0
    exact h.rd (by rw [hx, hz]; rfl) (by rw [hx, hz]; exact okM_z) (by rw [hx, hz]; simp [Ms.num, zM])
/-- a reader that has failed stays where it is -/
theorem rName_stay {b : List UInt8} {s : St} (h : s.e ≠ 0) : (rName b s).2 = s := by unfold rName; rw [if_neg h]
theorem rQ_stay {b : List UInt8} {s : St} (h : s.e ≠ 0) : (rQ b s).2 = s := by
  show (rNum b (rNum b (rName b s).2).2).2 = s
  rw [rName_stay h, rNum_stay h, rNum_stay h]
theorem rR_stay {b : List UInt8} {s : St} (h : s.e ≠ 0) : (rR b s).2 = s := by
  have h1 := rQ_stay (b := b) h
  rw [rR_f0 (by rw [h1]; exact h), h1]
attribute [local irreducible] rR rQ in
theorem rQs_stay {b : List UInt8} {s : St} {k : Nat} (h : (rQs b s k).2.e ≠ 0) : ∀ n, (rQs b s (k + n)).2 = (rQs b s k).2
  | 0 => rfl
  | n + 1 => by
    show (rQ b (rQs b s (k + n)).2).2 = _
    rw [rQs_stay h n, rQ_stay h]
attribute [local irreducible] rR rQ in
theorem rRs_stay {b : List UInt8} {s : St} {k : Nat} (h : (rRs b s k).2.e ≠ 0) : ∀ n, (rRs b s (k + n)).2 = (rRs b s k).2
  | 0 => rfl
  | n + 1 => by
    show (rR b (rRs b s (k + n)).2).2 = _
    rw [rRs_stay h n, rR_stay h]
attribute [local irreducible] rR rQ in
theorem rLs_stay {b : List UInt8} {s : St} {cs : List Nat} {k : Nat} (h : (rLs b s cs k).2.e ≠ 0) : ∀ n, (rLs b s cs (k + n)).2 = (rLs b s cs k).2
  | 0 => rfl
  | n + 1 => by
    show (rRs b (rLs b s cs (k + n)).2 _).2 = _
    rw [rLs_stay h n]
    have h2 : (rRs b (rLs b s cs k).2 0).2.e ≠ 0 := h
    have := rRs_stay h2 (cs.getD (k + n) 0)
    rwa [Nat.zero_add] at this
/-- the heads that are read already -/
def hcs (b : List UInt8) (k : Nat) : List Value := (List.range 6).map fun j => if j < k then .int .u16 (hd b j : Int) else .int .u16 0
theorem hcs_set (b : List UInt8) (k : Nat) (hk : k < 6) : (hcs b k).set k (.int .u16 (hd b k : Int)) = hcs b (k + 1) := by
  rcases (show k = 0 ∨ k = 1 ∨ k = 2 ∨ k = 3 ∨ k = 4 ∨ k = 5 by omega) with rfl | rfl | rfl | rfl | rfl | rfl <;> rfl
theorem hcs_get (b : List UInt8) (k : Nat) (hk : k < 6) : (hcs b (k + 1))[k]? = some (.int .u16 (hd b k : Int)) := by
  rcases (show k = 0 ∨ k = 1 ∨ k = 2 ∨ k = 3 ∨ k = 4 ∨ k = 5 by omega) with rfl | rfl | rfl | rfl | rfl | rfl <;> rfl
theorem hcs_free (b : List UInt8) (k : Nat) (hk : k < 6) : ∃ v, (hcs b k)[k]? = some v := by
  rcases (show k = 0 ∨ k = 1 ∨ k = 2 ∨ k = 3 ∨ k = 4 ∨ k = 5 by omega) with rfl | rfl | rfl | rfl | rfl | rfl <;> exact ⟨_, rfl⟩
def smH (b : List UInt8) : Nat → Nat
  | 0 => 0
  | k + 1 => if 1 < k then smH b k + hd b k else smH b k
theorem smH6 (b : List UInt8) : smH b 6 = hd b 2 + hd b 3 + hd b 4 + hd b 5 := by simp [smH]
theorem smH_le (b : List UInt8) : ∀ k, smH b k ≤ 65536 * k
  | 0 => by simp [smH]
  | k + 1 => by
    have := smH_le b k
    have := hd_lt b k
    unfold smH
    split <;> omega
/-- where the reading of a message stands: the result's block, the heads', the message's -/
structure RfM (w0 w : World) (H M base : Nat) (mc hc : List Value) : Prop where
  vr : Vx w w0.heap.size 60 zM6
  vh : Vx w H 103 hc
  vm : Vx w M 60 mc
  bl : Below w0.heap.size w0 w
  lo : w0.heap.size < H ∧ H < M
  hi : M < base ∧ base ≤ w.heap.size
section
variable {w0 w w' : World} {H M base : Nat} {mc hc : List Value}
theorem RfM.far (h : RfM w0 w H M base mc hc) (hb : Below w.heap.size w w') : RfM w0 w' H M base mc hc :=
  ⟨h.vr.below hb h.vr.lt, h.vh.below hb h.vh.lt, h.vm.below hb h.vm.lt, h.bl.trans (hb.mono h.bl.size), h.lo, ⟨h.hi.1, Nat.le_trans h.hi.2 hb.size⟩⟩
theorem RfM.gr {v v' : Value} (h : RfM w0 w H M base mc hc) (hg : Gr w w' v v') (hv : ∀ q, v.ownBlock = some q → base ≤ q) : RfM w0 w' H M base mc hc := by
  have hl := h.lo
  have hh := h.hi
  have hb : Below base w w' := hg.below hv hh.2
  exact ⟨h.vr.below hb (by omega), h.vh.below hb (by omega), h.vm.below hb hh.1, h.bl.trans (hb.mono (by omega)), hl, ⟨hh.1, Nat.le_trans hh.2 hb.size⟩⟩
theorem RfM.setM (h : RfM w0 w H M base mc hc) (k : Nat) (u : Value) : RfM w0 (w.setCell ⟨M, k, none⟩ u) H M base (mc.set k u) hc := by
  have hl := h.lo
  have hh := h.hi
  exact ⟨h.vr.setO (by omega) _ _, h.vh.setO (by omega) _ _, h.vm.set_ k u, h.bl.setCell (by show w0.heap.size ≤ M; omega) u, hl, ⟨hh.1, by simpa using hh.2⟩⟩
end
theorem newrow {w w4 : World} {e : TypeId} {zs cs : Array Value} (h : (w.alloc (.cells zs e)).setRow w.heap.size cs = w4) : Below w.heap.size w w4 ∧ Vx w4 w.heap.size e cs.toList := by
  subst h
  refine ⟨(below_new w _).trans ((Only.row _ _ _).below (Nat.le_refl _) (by simp)), ?_⟩
  have := (Vx.new w e zs.toList).row cs.toList
  simpa using this
/-- the length of the slice that lies in a cell -/
def lenAt (w : World) (g k : Nat) : Nat := match w.cell? ⟨g, k, none⟩ with | some (.slice _ n _) => n | _ => 0
theorem lenAt_of {w : World} {g k n c : Nat} {A : Option Addr} (h : w.cell? ⟨g, k, none⟩ = some (.slice A n c)) : lenAt w g k = n := by unfold lenAt; rw [h]
theorem rR_le {b : List UInt8} {P : Nat} (hP : P ≤ b.length) (h : (rR b ⟨P, 0⟩).2.e = 0) : (rR b ⟨P, 0⟩).2.at_ ≤ b.length :=
  (lc_r b b ⟨P, 0⟩ ⟨[], by simp⟩ (fun _ => hP) h).2.2
attribute [local irreducible] rR rQ in
theorem rRs_to {b : List UInt8} {S : St} {j P : Nat} {z : Rc × St} (h : (rRs b S j).2 = ⟨P, 0⟩) (hz : z = rR b ⟨P, 0⟩) (h0 : z.2.e = 0) : (rRs b S (j + 1)).2 = ⟨z.2.at_, 0⟩ := by
  show (rR b (rRs b S j).2).2 = _
  rw [h, ← hz]
  obtain ⟨z1, a, e⟩ := z
  simp only at h0
  subst h0
  rfl
attribute [local irreducible] rR rQ in
theorem rRs_err {b : List UInt8} {S : St} {j P : Nat} {z : Rc × St} (h : (rRs b S j).2 = ⟨P, 0⟩) (hz : z = rR b ⟨P, 0⟩) : (rRs b S (j + 1)).2 = z.2 := by
  show (rR b (rRs b S j).2).2 = _
  rw [h, ← hz]
attribute [local irreducible] rR rQ in
theorem rRs_map {b : List UInt8} {S : St} {j P : Nat} {z : Rc × St} {l : List RR} {x : RR} (h : (rRs b S j).2 = ⟨P, 0⟩) (hz : z = rR b ⟨P, 0⟩) (hl : l.map RR.r = (rRs b S j).1) (hx : x.r = z.1) : (l ++ [x]).map RR.r = (rRs b S (j + 1)).1 := by
  rw [List.map_append, hl]
  show _ = (rRs b S j).1 ++ [(rR b (rRs b S j).2).1]
  rw [h, ← hz, ← hx]; rfl
attribute [local irreducible] rR rQ in
theorem rLs_to {b : List UInt8} {S : St} {cs : List Nat} {i j : Nat} {Si : St} (hS : Si = (rLs b S cs i).2) (hj : j = cs.getD i 0) {P : Nat} (h : (rRs b Si j).2 = ⟨P, 0⟩) : (rLs b S cs (i + 1)).2 = ⟨P, 0⟩ := by
  show (rRs b (rLs b S cs i).2 (cs.getD i 0)).2 = _
  rw [← hS, ← hj, h]
attribute [local irreducible] rR rQ in
theorem rLs_map {b : List UInt8} {S : St} {cs : List Nat} {i j : Nat} {Si : St} {rs : List RW} {x : RW} (hS : Si = (rLs b S cs i).2) (hj : j = cs.getD i 0) (hl : rs.map (fun r => r.l.map RR.r) = (rLs b S cs i).1) (hx : x.l.map RR.r = (rRs b Si j).1) : (rs ++ [x]).map (fun r => r.l.map RR.r) = (rLs b S cs (i + 1)).1 := by
  rw [List.map_append, hl]
  show _ = (rLs b S cs i).1 ++ [(rRs b (rLs b S cs i).2 (cs.getD i 0)).1]
  rw [← hS, ← hj, ← hx]; rfl
/-- a record more in the message's list -/
theorem RfM.setS {w0 w : World} {H M base : Nat} {mc hc : List Value} {k : Nat} {u v : Value} (h : RfM w0 w H M base (mc.set k u) hc) : RfM w0 (w.setCell ⟨M, k, none⟩ v) H M base (mc.set k v) hc := by
  have := h.setM k v
  rwa [set_set_same] at this
/-- a record more that is held -/
theorem Held.recF {wr wq w3 w4 w5 : World} {M k : Nat} {D : Ob → Prop} {l3 : List RR} {x : RR} {v v5 u : Value} {n O : Nat} {c : Nat} {xs : List Value}
    (HH : Held wr (M + 1) (fun o => D o ∨ DR l3 o) v) (hO3 : OwM wr (M + 1) c 9 v n xs) (hdq : Below wr.heap.size wr wq) (hb3 : Below wq.heap.size wq w3) (hw3 : ROw w3 wq.heap.size O x) (hb4 : Below w3.heap.size w3 w4) (hle : M + 1 ≤ wr.heap.size) (hsz : wq.heap.size = wr.heap.size) (o : Obj) (hg : Gr (w4.alloc o).drew w5 v v5) : Held (w5.setCell ⟨M, k, none⟩ u) (M + 1) (fun o => D o ∨ DR (l3 ++ [x]) o) v5 := by
  have h0 := (HH.far hdq).far hb3
  have h1 := h0.add (nmO x.A x.c x.r.q.nm) (OwM.mono hw3.n (by omega)) (ne_new hO3 hw3.n (by omega))
  have h2 := h1.add (daO x.dA x.dc x.r.d) (OwM.mono hw3.d (by omega)) (ne_new hO3 hw3.d (by omega))
  have h3 := h2.add (nmO x.tA x.tc x.r.tg) (OwM.mono hw3.t (by omega)) (ne_new hO3 hw3.t (by omega))
  have h4 := ((((h3.far hb4).far (below_new w4 o)).far (below_drew1 _)).gr hg).setL (show M < M + 1 by omega) k u
  refine h4.mono fun o ho => ?_
  rcases ho with ho | ⟨y, hy, e⟩
  · exact Or.inr (Or.inr (Or.inr (Or.inl ho)))
  · rcases List.mem_append.1 hy with hy | hy
    · exact Or.inr (Or.inr (Or.inr (Or.inr ⟨y, hy, e⟩)))
    · simp at hy
      subst hy
      rcases e with e | e | e
      · exact Or.inr (Or.inr (Or.inl e))
      · exact Or.inr (Or.inl e)
      · exact Or.inl e
/-- an error in the records -/
theorem rest_errR {b : List UInt8} {n0 n1 n2 n3 n4 n5 i j : Nat} (hi : i < 3) (hj : j < [n3, n4, n5].getD i 0) (h : (rRs b (rLs b (rQs b ⟨12, 0⟩ n2).2 [n3, n4, n5] i).2 (j + 1)).2.e ≠ 0) : readRest b n0 n1 n2 n3 n4 n5 = (zM, (rRs b (rLs b (rQs b ⟨12, 0⟩ n2).2 [n3, n4, n5] i).2 (j + 1)).2.e) := by
  rw [readRest_eq]
  obtain ⟨S0, hS0⟩ : ∃ S0, S0 = (rQs b ⟨12, 0⟩ n2).2 := ⟨_, rfl⟩
  rw [← hS0] at h ⊢
  obtain ⟨cn, hcn⟩ : ∃ cn, cn = [n3, n4, n5].getD i 0 := ⟨_, rfl⟩
  have e1 : (rLs b S0 [n3, n4, n5] (i + 1)).2 = (rRs b (rLs b S0 [n3, n4, n5] i).2 (j + 1)).2 := by
    show (rRs b (rLs b S0 [n3, n4, n5] i).2 ([n3, n4, n5].getD i 0)).2 = _
    rw [← hcn] at hj ⊢
    have := rRs_stay h (cn - (j + 1))
    rwa [show j + 1 + (cn - (j + 1)) = cn by omega] at this
  have e2 : (rLs b S0 [n3, n4, n5] 3).2 = (rRs b (rLs b S0 [n3, n4, n5] i).2 (j + 1)).2 := by
    have := rLs_stay (k := i + 1) (by rw [e1]; exact h) (3 - (i + 1))
    rw [show i + 1 + (3 - (i + 1)) = 3 by omega] at this
    rw [this, e1]
  simp only [e2, if_neg h]
/-- an error in the questions -/
theorem rest_errQ {b : List UInt8} {n0 n1 n2 n3 n4 n5 k : Nat} (hk : k < n2) (h : (rQs b ⟨12, 0⟩ (k + 1)).2.e ≠ 0) : readRest b n0 n1 n2 n3 n4 n5 = (zM, (rQs b ⟨12, 0⟩ (k + 1)).2.e) := by
  have e1 : (rQs b ⟨12, 0⟩ n2).2 = (rQs b ⟨12, 0⟩ (k + 1)).2 := by
    have := rQs_stay h (n2 - (k + 1))
    rwa [show k + 1 + (n2 - (k + 1)) = n2 by omega] at this
  rw [readRest_eq]
  have e2 : (rLs b (rQs b ⟨12, 0⟩ n2).2 [n3, n4, n5] 3).2 = (rQs b ⟨12, 0⟩ (k + 1)).2 := by
    have h0 : (rLs b (rQs b ⟨12, 0⟩ n2).2 [n3, n4, n5] 0).2.e ≠ 0 := by show (rQs b ⟨12, 0⟩ n2).2.e ≠ 0; rw [e1]; exact h
    have := rLs_stay h0 3
    rw [Nat.zero_add] at this
    rw [this]; exact e1
  simp only [e2, if_neg h]
set_option maxRecDepth 100000 in
set_option maxHeartbeats 16000000 in
theorem fread_at (A : Option Addr) (c : Nat) (b : List UInt8) (w : World) (h : Rd w w.heap.size A b.length (bc b)) (hc : b.length ≤ c) (hbl : b.length ≤ 140737488355328) :
    Calls Try.prog 18 #[.slice A b.length c] w fun e w' => ∃ x : MR, x.m = (readM b).1 ∧ e = .returned (.tuple #[.agg x.cells.toArray, .int .i64 ((readM b).2 : Int)]) ∧ MOwF w' w.heap.size x ∧ Below w.heap.size w w' := by
  have HR := Lib.hid h
  clear h
  obtain ⟨rr, hrr⟩ : ∃ rr, rr = readM b := ⟨_, rfl⟩
  rw [← hrr]
  have hV1 : Vx (w.alloc (.cells #[.int .u16 0, .int .u16 0, .slice none 0 0, .slice none 0 0, .slice none 0 0, .slice none 0 0] 60)) w.heap.size 60 zM6 := Vx.new w _ _
  have hb1 := below_new w (.cells #[.int .u16 0, .int .u16 0, .slice none 0 0, .slice none 0 0, .slice none 0 0, .slice none 0 0] 60)
  by_cases h1 : 4096 < b.length
  · have hr1 : rr = (zM, 3) := by rw [hrr]; simp [readM, h1]
    clear hrr
    subst hr1
    have h1' : (4096 : Int) < (b.length : Int) := by omega
    go_enter Try.func18, Try.ntmps18
    go_wp2_with (refine wpList_store_row rfl 60 _ _ rfl w.heap.size _ rfl rfl _ _ hV1 (by kernel_rfl) rfl (by kernel_rfl) ?_)
    refine bodyPost_ret (resMf Try.results18 _ _ w.heap.size _ _ _ rfl rfl (hV1.row zM6) rfl) rfl ?_
    exact ⟨zMR, rfl, rfl, zMR_owF _ _, hb1.trans ((Only.row _ _ _).below (Nat.le_refl _) (by simp))⟩
  by_cases h2 : b.length < 12
  · have hr1 : rr = (zM, 171) := by rw [hrr]; simp [readM, h1, h2]
    clear hrr
    subst hr1
    have h1' : (b.length : Int) ≤ 4096 := by omega
    have h2' : (b.length : Int) < 12 := by omega
    go_enter Try.func18, Try.ntmps18
    go_wp2_with (refine wpList_store_row rfl 60 _ _ rfl w.heap.size _ rfl rfl _ _ hV1 (by kernel_rfl) rfl (by kernel_rfl) ?_)
    refine bodyPost_ret (resMf Try.results18 _ _ w.heap.size _ _ _ rfl rfl (hV1.row zM6) rfl) rfl ?_
    exact ⟨zMR, rfl, rfl, zMR_owF _ _, hb1.trans ((Only.row _ _ _).below (Nat.le_refl _) (by simp))⟩
  have h1' : (b.length : Int) ≤ 4096 := by omega
  have h2' : (12 : Int) ≤ (b.length : Int) := by omega
  obtain ⟨L, hL⟩ : ∃ L, L = b.length := ⟨_, rfl⟩
  rw [← hL] at h1' h2' hc HR
  have HL := Lib.hid hL.symm
  have hcl : L ≤ 100000 := by omega
  have hl12 : 12 ≤ L := by omega
  have hrf : rr = if 256 < hd b 2 + hd b 3 + hd b 4 + hd b 5 then (zM, 5) else readRest b (hd b 0) (hd b 1) (hd b 2) (hd b 3) (hd b 4) (hd b 5) := by
    rw [hrr, readM, if_neg h1, if_neg h2]; rfl
  have HRF := Lib.hid hrf
  rw [← hL]
  clear hrf hrr h1 h2 hbl hL
  go_enter Try.func18, Try.ntmps18
  go_upto_region 5 with fail
  have hz1 : (w.alloc (.cells #[.int .u16 0, .int .u16 0, .slice none 0 0, .slice none 0 0, .slice none 0 0, .slice none 0 0] 60)).heap.size = w.heap.size + 1 := by simp
  generalize w.alloc (.cells #[.int .u16 0, .int .u16 0, .slice none 0 0, .slice none 0 0, .slice none 0 0, .slice none 0 0] 60) = w1 at *
  have hz1a : w.heap.size < w1.heap.size := by omega
  clear hz1
  go_upto_region 6 with fail
  obtain ⟨H, hH⟩ : ∃ H, H = w1.heap.size := ⟨_, rfl⟩
  have hV2 := hV1.alloc (.cells #[.int .u16 0, .int .u16 0, .int .u16 0, .int .u16 0, .int .u16 0, .int .u16 0] 103)
  have hH2 : Vx (w1.alloc (.cells #[.int .u16 0, .int .u16 0, .int .u16 0, .int .u16 0, .int .u16 0, .int .u16 0] 103)) H 103 (hcs b 0) := by rw [hH]; exact Vx.new w1 _ _
  have hb2 := hb1.trans ((below_new w1 (.cells #[.int .u16 0, .int .u16 0, .int .u16 0, .int .u16 0, .int .u16 0, .int .u16 0] 103)).mono (show w.heap.size ≤ w1.heap.size by omega))
  have hRH : w.heap.size < H := by omega
  rw [← hH]
  generalize w1.alloc (.cells #[.int .u16 0, .int .u16 0, .int .u16 0, .int .u16 0, .int .u16 0, .int .u16 0] 103) = w2 at *
  clear hV1 hb1 hz1a hH
  have HV2 := Lib.hid hV2
  have HH2 := Lib.hid hH2
  have HB2 := Lib.hid hb2
  clear hV2 hH2 hb2
  go_wp2_with fail
  go_loopw [5, 6] (fun vs vi wr => ∃ k : Nat, k ≤ 6 ∧ vi = .int .i64 k ∧ vs = .int .i64 (smH b k : Int) ∧ Hid (Vx wr w.heap.size 60 zM6) ∧ Hid (Vx wr H 103 (hcs b k)) ∧ Hid (Below w.heap.size w wr)) (fun _ i _ => 6 - (intOf i).toNat)
  case atStart => exact ⟨0, by omega, rfl, rfl, HV2, HH2, HB2⟩
  case round =>
    clear HV2 HH2 HB2
    obtain ⟨k, hk, rfl, rfl, HV, HH, HB⟩ := hrel
    rcases Nat.lt_or_ge k 6 with hlt | hge
    · obtain ⟨k2, hk2⟩ : ∃ k2, k2 = 2 * k := ⟨_, rfl⟩
      have hK2 : 2 * (k : Int) = (k2 : Int) := by omega
      obtain ⟨n, hn⟩ : ∃ n, n = hd b k := ⟨_, rfl⟩
      have hnl : n < 65536 := by rw [hn]; exact hd_lt _ _
      have HT := Lib.hid (show (n, (⟨k2 + 2, 0⟩ : St)) = rNum b ⟨k2, 0⟩ by rw [hk2, rNum_hd b k (by rw [HL.out]; omega), hn])
      obtain ⟨v0, hv0⟩ := hcs_free b k hlt
      have hss := hcs_set b k hlt
      have hsg := hcs_get b k hlt
      have hsl := smH_le b k
      rw [← hn] at hss hsg
      have HSS := Lib.hid hss
      have HSG := Lib.hid hsg
      have HV0 := Lib.hid hv0
      have k2a : k2 ≤ 2 * k := by omega
      have k2b : 2 * k ≤ k2 := by omega
      have hszr := HB.out.size
      have hltH := HH.out.lt
      have hki : (k : Int) < 6 := by omega
      obtain ⟨sm, hsm⟩ : ∃ sm, sm = smH b k := ⟨_, rfl⟩
      rw [← hsm] at hsl
      rw [← hsm]
      have HSM := Lib.hid hsm
      clear hk2 hss hsg hv0 hsm
      by_cases h1k : 1 < k
      · have h1k' : (1 : Int) < (k : Int) := by omega
        have HNS := Lib.hid (show smH b (k + 1) = sm + n by rw [smH, if_pos h1k, HSM.out, hn])
        clear hn
        go_wp2_with (go_at_call 41
                     refine (fnum_at A c L b k2 (n, ⟨k2 + 2, 0⟩) HT.out wr HL.out (HR.out.goes HB.out) hc hcl (by omega)).mono ?_
                     rintro e w3 ⟨rfl, hb3⟩
                     have HH3 := Lib.hid (HH.out.below hb3 hltH)
                     have HV3 := Lib.hid (HV.out.below hb3 HV.out.lt)
                     have HB3 := Lib.hid (HB.out.trans (hb3.mono hszr))
                     have y3 : w3.cell? ⟨H, k, none⟩ = some v0 := by rw [HH3.out.cell]; exact HV0.out
                     have f3 := HH3.out.free k
                     have y4 : (w3.setCell ⟨H, k, none⟩ (.int .u16 (n : Int))).cell? ⟨H, k, none⟩ = some (.int .u16 (n : Int)) := by rw [(HH3.out.set_ k (.int .u16 (n : Int))).cell, HSS.out]; exact HSG.out)
        go_roundw
        case rel =>
          refine ⟨k + 1, by omega, by go_num, ?_, Lib.hid ?_, Lib.hid ?_, Lib.hid ?_⟩
          · rw [HNS.out]; push_cast; rfl
          · exact HV3.out.setO (by omega) _ _
          · rw [← HSS.out]; exact HH3.out.set_ _ _
          · exact HB3.out.setCell (by show w.heap.size ≤ H; omega) _
        case measure => simp [intOf]; omega
      · have h1k' : (k : Int) ≤ 1 := by omega
        have HNS := Lib.hid (show smH b (k + 1) = sm by rw [smH, if_neg h1k, HSM.out])
        clear hn
        go_wp2_with (go_at_call 41
                     refine (fnum_at A c L b k2 (n, ⟨k2 + 2, 0⟩) HT.out wr HL.out (HR.out.goes HB.out) hc hcl (by omega)).mono ?_
                     rintro e w3 ⟨rfl, hb3⟩
                     have HH3 := Lib.hid (HH.out.below hb3 hltH)
                     have HV3 := Lib.hid (HV.out.below hb3 HV.out.lt)
                     have HB3 := Lib.hid (HB.out.trans (hb3.mono hszr))
                     have y3 : w3.cell? ⟨H, k, none⟩ = some v0 := by rw [HH3.out.cell]; exact HV0.out
                     have f3 := HH3.out.free k)
        go_roundw
        case rel =>
          refine ⟨k + 1, by omega, by go_num, ?_, Lib.hid ?_, Lib.hid ?_, Lib.hid ?_⟩
          · rw [HNS.out]
          · exact HV3.out.setO (by omega) _ _
          · rw [← HSS.out]; exact HH3.out.set_ _ _
          · exact HB3.out.setCell (by show w.heap.size ≤ H; omega) _
        case measure => simp [intOf]; omega
    · have hke : k = 6 := by omega
      subst hke
      obtain ⟨n0, e0⟩ : ∃ n, n = hd b 0 := ⟨_, rfl⟩
      obtain ⟨n1, e1⟩ : ∃ n, n = hd b 1 := ⟨_, rfl⟩
      obtain ⟨n2, e2⟩ : ∃ n, n = hd b 2 := ⟨_, rfl⟩
      obtain ⟨n3, e3⟩ : ∃ n, n = hd b 3 := ⟨_, rfl⟩
      obtain ⟨n4, e4⟩ : ∃ n, n = hd b 4 := ⟨_, rfl⟩
      obtain ⟨n5, e5⟩ : ∃ n, n = hd b 5 := ⟨_, rfl⟩
      have hHc : Vx wr H 103 [.int .u16 (hd b 0 : Int), .int .u16 (hd b 1 : Int), .int .u16 (hd b 2 : Int), .int .u16 (hd b 3 : Int), .int .u16 (hd b 4 : Int), .int .u16 (hd b 5 : Int)] := HH.out
      have hrf := HRF.out
      rw [← e0, ← e1, ← e2, ← e3, ← e4, ← e5] at hHc hrf
      rw [smH6, ← e2, ← e3, ← e4, ← e5]
      have l0 : n0 < 65536 := by rw [e0]; exact hd_lt _ _
      have l1 : n1 < 65536 := by rw [e1]; exact hd_lt _ _
      have l2 : n2 < 65536 := by rw [e2]; exact hd_lt _ _
      have l3 : n3 < 65536 := by rw [e3]; exact hd_lt _ _
      have l4 : n4 < 65536 := by rw [e4]; exact hd_lt _ _
      have l5 : n5 < 65536 := by rw [e5]; exact hd_lt _ _
      have HHc := Lib.hid hHc
      have hpre : Pre b b := ⟨[], by simp⟩
      have HPRE := Lib.hid hpre
      clear hHc e0 e1 e2 e3 e4 e5 HRF HH hpre
      by_cases hsum : 256 < n2 + n3 + n4 + n5
      · have hr1 : rr = (zM, 5) := by rw [hrf, if_pos hsum]
        clear hrf
        subst hr1
        have hs' : (256 : Int) < ((n2 + n3 + n4 + n5 : Nat) : Int) := by omega
        go_wp2_with (refine wpList_store_row rfl 60 _ _ rfl w.heap.size _ rfl rfl _ _ HV.out (by kernel_rfl) rfl (by kernel_rfl) ?_)
        refine bodyPost_ret (resMf Try.results18 _ _ w.heap.size _ _ _ rfl rfl (HV.out.row zM6) rfl) rfl ?_
        exact ⟨zMR, rfl, rfl, zMR_owF _ _, HB.out.trans ((Only.row _ _ _).below (Nat.le_refl _) HB.out.size)⟩
      · have hs' : ((n2 + n3 + n4 + n5 : Nat) : Int) ≤ 256 := by omega
        rw [if_neg hsum] at hrf
        have HR1 := Lib.hid hrf
        clear hrf
        obtain ⟨h0, h1, h2, h3, h4, h5⟩ := HHc.out.c6
        have hHl := HHc.out.lt
        go_upto_region 15 with fail
        go_cut [5, 6, 7] from 16 to 53 (fun v5 v6 v7 wx => ∃ M, v7 = .pointer (some ⟨M, 0, none⟩) ∧ Hid (RfM w wx H M (M + 1) [.int .u16 (n0 : Int), .int .u16 (n1 : Int), .slice none 0 0, .slice none 0 0, .slice none 0 0, .slice none 0 0] [.int .u16 (n0 : Int), .int .u16 (n1 : Int), .int .u16 (n2 : Int), .int .u16 (n3 : Int), .int .u16 (n4 : Int), .int .u16 (n5 : Int)]))
        case first =>
          go_wp2_with (refine wpList_store_row rfl 60 _ _ rfl wr.heap.size _ rfl rfl _ _ (Vx.new wr _ zM6) (by kernel_rfl) rfl (by kernel_rfl) ?_)
          simp only [Act.put]
          go_meet
          refine ⟨wr.heap.size, rfl, Lib.hid ⟨(HV.out.alloc _).rowO (by have := HV.out.lt; omega) _, (HHc.out.alloc _).rowO (by omega) _, (Vx.new wr _ zM6).row _, (HB.out.alloc HB.out.size _).trans ((Only.row _ _ _).below HB.out.size (by have := HB.out.size; simp; omega)), ⟨hRH, hHl⟩, ⟨Nat.lt_succ_self _, by simp⟩⟩⟩
        case rest =>
          clear HV HHc HB h0 h1 h2 h3 h4 h5 hHl
          obtain ⟨M, rfl, HX⟩ := hcut
          obtain ⟨i0, hi, hz0, hz1, hz2⟩ := info_parts Try.infoQf
          obtain ⟨j0, hj', hy0, hy1, hy2⟩ := info_parts Try.infoRf
          go_wp2_with fail
          go_loopw [8, 9, 10, 11] (fun v8 v9 v10 v11 wr => ∃ (k P : Nat) (l : List QR) (Aq : Option Addr) (cq : Nat), k ≤ n2 ∧ v8 = .int .i64 P ∧ k ≤ cq ∧ Hid ((rQs b ⟨12, 0⟩ k).2 = ⟨P, 0⟩) ∧ Hid (RfM w wr H M (M + 1) [.int .u16 (n0 : Int), .int .u16 (n1 : Int), .slice Aq k cq, .slice none 0 0, .slice none 0 0, .slice none 0 0] [.int .u16 (n0 : Int), .int .u16 (n1 : Int), .int .u16 (n2 : Int), .int .u16 (n3 : Int), .int .u16 (n4 : Int), .int .u16 (n5 : Int)]) ∧ Hid (l.map QR.q = (rQs b ⟨12, 0⟩ k).1) ∧ Hid (OwM wr (M + 1) 70 3 (.slice Aq k cq) k (qcs l)) ∧ Hid (Held wr (M + 1) (DQ l) (.slice Aq k cq))) (fun _ _ _ _ wr => n2 - lenAt wr M 2)
          case atStart => exact ⟨0, 12, [], none, 0, Nat.zero_le _, rfl, Nat.le_refl _, Lib.hid rfl, HX, Lib.hid rfl, Lib.hid (OwM.nil _ _ _ _), Lib.hid ((Held.nil _ _ _).mono (fun o ⟨x, hx, _⟩ => by cases hx))⟩
          case round =>
            clear HX
            obtain ⟨k, P, l, Aq, cq, hk, rfl, hkc, HP, HX, HL2, HO, HH⟩ := hrel
            obtain ⟨m0, m1, m2, m3, m4, m5⟩ := HX.out.vm.c6
            obtain ⟨h0, h1, h2, h3, h4, h5⟩ := HX.out.vh.c6
            rcases Nat.lt_or_ge k n2 with hlt | hge
            · obtain ⟨q, hq⟩ : ∃ q, q = rQ b ⟨P, 0⟩ := ⟨_, rfl⟩
              have HQ := Lib.hid hq
              have hpl : P ≤ L := by
                have := (qs_read HPRE.out (s := ⟨12, 0⟩) (fun _ => by show 12 ≤ b.length; rw [HL.out]; exact hl12) k (by rw [HP.out])).2.2.1
                rw [HP.out, HL.out] at this
                exact this
              have hhi := HX.out.hi
              clear hq
              by_cases hq0 : q.2.e = 0
              · have hq0' : (q.2.e : Int) = 0 := by omega
                have hq0b : ((q.2.e : Int) != 0) = false := by simp [hq0]
                have hlt' : (k : Int) < (n2 : Int) := by omega
                go_wp2_with (first
                  | (go_at_call 42
                     refine (fquestion_at A c L b P q HQ.out wr HL.out (HR.out.goes HX.out.bl) hc hcl hpl).mono ?_
                     rintro e w3 ⟨An, cn, qq, hq1, hq2, rfl, hn3, hb3⟩
                     obtain rfl := hq1 hq0
                     unfold QR.cells
                     dsimp only)
                  | (refine wpList_load_row rfl 70 _ rfl w3.heap.size rfl _ _ _ _ hV4 Try.underlying70 rfl (by kernel_rfl) ?_)
                  | (refine wpList_store_row rfl 70 _ _ rfl w3.heap.size _ rfl rfl _ _ (Vx.new w3 _ zQ3) (by kernel_rfl) rfl (by kernel_rfl) ?_
                     generalize hw4 : World.setRow (w3.alloc _) _ _ = w4
                     obtain ⟨hb4, hV4⟩ := newrow hw4
                     clear hw4
                     have hb34 := hb3.trans (hb4.mono hb3.size)
                     have hX4 := HX.out.far hb34
                     obtain ⟨_, _, m2', _, _, _⟩ := hX4.vm.c6
                     obtain ⟨_, _, m2b, _, _, _⟩ := (hX4.vm.alloc (.cells (QR.cells ⟨An, cn, q.1⟩).toArray 70)).c6)
                  | (at_builtin
                     refine wpList_appM _ rfl _ _ _ _ rfl (M + 1) 3 70 i0 _ 32 Try.underlying56 hi hz0 hz1 hz2 rfl (by omega) (.slice Aq k cq) k (qcs l) ((HO.out.far hb34).alloc _) rfl 1 (QR.cells ⟨An, cn, q.1⟩) (litM_src Try.underlying56 _ 3 _ 1 rfl (qcells_one _)) (by omega) (by have : wr.heap.size ≤ w4.heap.size := hb34.size; simp; omega) ?_
                     intro v5 w5 hown5 hgr5 hsz5
                     obtain ⟨A5, c5, rfl, hc5, _, _⟩ := hown5.form
                     have hX5 := (hX4.far (below_new w4 (.cells (QR.cells ⟨An, cn, q.1⟩).toArray 70))).gr hgr5 (OwM.lt HO.out)
                     obtain ⟨_, _, m5', _, _, _⟩ := hX5.vm.c6
                     have f5' := hX5.vm.free 2))
                go_roundw
                case rel =>
                  refine ⟨k + 1, q.2.at_, l ++ [⟨An, cn, q.1⟩], A5, c5, by omega, by rw [nxS_ok hq0], hc5, Lib.hid ?_, Lib.hid ?_, Lib.hid ?_, Lib.hid ?_, Lib.hid ?_⟩
                  · show (rQ b (rQs b ⟨12, 0⟩ k).2).2 = _
                    rw [HP.out, ← HQ.out, ← hq0]
                  · exact hX5.setM 2 (.slice A5 (k + 1) c5)
                  · rw [List.map_append, HL2.out]
                    show _ = (rQs b ⟨12, 0⟩ k).1 ++ [(rQ b (rQs b ⟨12, 0⟩ k).2).1]
                    rw [HP.out, ← HQ.out]; rfl
                  · rw [qcs_snoc]
                    exact OwM.setL hown5 hhi.1 _ _
                  · have h1 := (HH.out.far hb3).add (nmO An cn q.1.nm) (OwM.mono hn3 (show M + 1 ≤ wr.heap.size from hhi.2)) (ne_new HO.out hn3 (Nat.le_refl wr.heap.size))
                    have h2 := (((h1.far hb4).far (below_new w4 _)).gr hgr5).setL hhi.1 2 (.slice A5 (k + 1) c5)
                    refine h2.mono fun o ho => ?_
                    obtain ⟨x, hx, e⟩ := ho
                    rcases List.mem_append.1 hx with hx | hx
                    · exact Or.inr ⟨x, hx, e⟩
                    · simp at hx
                      subst hx
                      exact Or.inl e
                case measure =>
                  have e1 := lenAt_of m2
                  have e2 := lenAt_of (A := A5) (n := k + 1) (c := c5) (((hX5.setM 2 (.slice A5 (k + 1) c5)).vm.cell 2).trans rfl)
                  rw [e1, e2]; omega
              · have hq0' : ¬ (q.2.e : Int) = 0 := by omega
                have hq0b : ((q.2.e : Int) != 0) = true := by rw [bne_iff_ne]; omega
                have hlt' : (k : Int) < (n2 : Int) := by omega
                have hr1 : rr = (zM, q.2.e) := by
                  have e1 : (rQs b ⟨12, 0⟩ (k + 1)).2 = q.2 := by
                    show (rQ b (rQs b ⟨12, 0⟩ k).2).2 = _
                    rw [HP.out, ← HQ.out]
                  rw [HR1.out, rest_errQ hlt (by rw [e1]; exact hq0), e1]
                clear HR1
                subst hr1
                go_wp2_with (first
                  | (go_at_call 42
                     refine (fquestion_at A c L b P q HQ.out wr HL.out (HR.out.goes HX.out.bl) hc hcl hpl).mono ?_
                     rintro e w3 ⟨An, cn, qq, hq1, hq2, rfl, hn3, hb3⟩
                     unfold QR.cells
                     dsimp only)
                  | (refine wpList_store_row rfl 60 _ _ rfl w.heap.size _ rfl rfl _ _ hX4.vr (by kernel_rfl) rfl (by kernel_rfl) ?_)
                  | (refine wpList_store_row rfl 70 _ _ rfl w3.heap.size _ rfl rfl _ _ (Vx.new w3 _ zQ3) (by kernel_rfl) rfl (by kernel_rfl) ?_
                     generalize hw4 : World.setRow (w3.alloc _) _ _ = w4
                     obtain ⟨hb4, hV4⟩ := newrow hw4
                     clear hw4
                     have hX4 := HX.out.far (hb3.trans (hb4.mono hb3.size))))
                refine bodyPost_ret (resMf Try.results18 _ _ w.heap.size _ _ _ rfl rfl (hX4.vr.row zM6) rfl) rfl ?_
                exact ⟨zMR, rfl, rfl, zMR_owF _ _, hX4.bl.trans ((Only.row _ _ _).below (Nat.le_refl _) hX4.bl.size)⟩
            · have hkn : k = n2 := by omega
              subst hkn
              obtain ⟨S0, hS0⟩ : ∃ S0, S0 = (rQs b ⟨12, 0⟩ k).2 := ⟨_, rfl⟩
              have HS0 := Lib.hid hS0
              have hSP : S0 = ⟨P, 0⟩ := by rw [hS0]; exact HP.out
              have HSP := Lib.hid hSP
              have hpl0 : P ≤ L := by
                have := (qs_read HPRE.out (s := ⟨12, 0⟩) (fun _ => by show 12 ≤ b.length; rw [HL.out]; exact hl12) k (by rw [HP.out])).2.2.1
                rw [HP.out, HL.out] at this
                exact this
              clear hS0 hSP
              have hlq : l.length = k := by
                have := HO.out.len
                rw [qcs_length] at this
                omega
              have hD0 := HH.out.fin (rwQf Aq cq l) (show (rwQf Aq cq l).ok wr (M + 1) by
                unfold Ob.ok rwQf
                rw [hlq]
                exact HO.out)
              have HLQ := Lib.hid hlq
              have HD0 := Lib.hid hD0
              clear hlq hD0 HH
              go_wp2_with fail
              go_loopw [8, 12, 13, 14, 15] (fun v8 v12 v13 v14 v15 wr => ∃ (i P : Nat) (rs : List RW), i ≤ 3 ∧ v12 = .int .i64 i ∧ v8 = .int .i64 P ∧ P ≤ L ∧ rs.length = i ∧ Hid ((rLs b S0 [n3, n4, n5] i).2 = ⟨P, 0⟩) ∧ Hid (RfM w wr H M (M + 1) (mcs n0 n1 (.slice Aq k cq) rs) [.int .u16 (n0 : Int), .int .u16 (n1 : Int), .int .u16 (k : Int), .int .u16 (n3 : Int), .int .u16 (n4 : Int), .int .u16 (n5 : Int)]) ∧ Hid (rs.map (fun r => r.l.map RR.r) = (rLs b S0 [n3, n4, n5] i).1) ∧ Hid (Held wr (M + 1) (fun o => (o = rwQf Aq cq l ∨ DQ l o) ∨ ∃ r ∈ rs, o = rwRf r.A r.c r.l ∨ DR r.l o) (.slice none 0 0))) (fun _ i _ _ _ _ => 3 - (intOf i).toNat)
              case atStart =>
                refine ⟨0, P, [], by omega, rfl, rfl, hpl0, rfl, HSP, HX, Lib.hid rfl, Lib.hid (HD0.out.mono (fun o ho => ?_))⟩
                rcases ho with ho | ⟨r, hr, _⟩
                · exact ho
                · cases hr
              case round =>
                clear HX HD0 h0 h1 h2 h3 h4 h5 m0 m1 m2 m3 m4 m5
                obtain ⟨i, P3, rs, hi3, rfl, rfl, hpl3, hrl, HP3, HX, HL3, HH⟩ := hrel
                rcases Nat.lt_or_ge i 3 with hlt | hge
                · obtain ⟨cn, hcn⟩ : ∃ cn, cn = [n3, n4, n5].getD i 0 := ⟨_, rfl⟩
                  have hcl' : cn ≤ 256 := by
                    rw [hcn]
                    rcases (show i = 0 ∨ i = 1 ∨ i = 2 by omega) with rfl | rfl | rfl <;> simp <;> omega
                  have hhc : ∀ W, RfM w W H M (M + 1) (mcs n0 n1 (.slice Aq k cq) rs) [.int .u16 (n0 : Int), .int .u16 (n1 : Int), .int .u16 (k : Int), .int .u16 (n3 : Int), .int .u16 (n4 : Int), .int .u16 (n5 : Int)] → True := fun _ _ => trivial
                  have hgc : ([.int .u16 (n0 : Int), .int .u16 (n1 : Int), .int .u16 (k : Int), .int .u16 (n3 : Int), .int .u16 (n4 : Int), .int .u16 (n5 : Int)] : List Value)[3 + i]? = some (.int .u16 (cn : Int)) := by
                    rw [hcn]
                    rcases (show i = 0 ∨ i = 1 ∨ i = 2 by omega) with rfl | rfl | rfl <;> rfl
                  have HGC := Lib.hid hgc
                  have HCN := Lib.hid hcn
                  obtain ⟨Si, hSi⟩ : ∃ Si, Si = (rLs b S0 [n3, n4, n5] i).2 := ⟨_, rfl⟩
                  have HSi := Lib.hid hSi
                  have HSP3 := Lib.hid (show Si = ⟨P3, 0⟩ by rw [hSi]; exact HP3.out)
                  have hi3i : (i : Int) < 3 := by omega
                  clear hcn hgc hhc hSi
                  go_wp2_with fail
                  go_loopw [8, 13, 14, 15] (fun v8 v13 v14 v15 wr => ∃ (j P : Nat) (l3 : List RR) (Ar : Option Addr) (cr : Nat), j ≤ cn ∧ v8 = .int .i64 P ∧ P ≤ L ∧ j ≤ cr ∧ Hid ((rRs b Si j).2 = ⟨P, 0⟩) ∧ Hid (RfM w wr H M (M + 1) ((mcs n0 n1 (.slice Aq k cq) rs).set (3 + i) (.slice Ar j cr)) [.int .u16 (n0 : Int), .int .u16 (n1 : Int), .int .u16 (k : Int), .int .u16 (n3 : Int), .int .u16 (n4 : Int), .int .u16 (n5 : Int)]) ∧ Hid (l3.map RR.r = (rRs b Si j).1) ∧ Hid (OwM wr (M + 1) 74 9 (.slice Ar j cr) j (rcs l3)) ∧ Hid (Held wr (M + 1) (fun o => ((o = rwQf Aq cq l ∨ DQ l o) ∨ ∃ r ∈ rs, o = rwRf r.A r.c r.l ∨ DR r.l o) ∨ DR l3 o) (.slice Ar j cr))) (fun _ _ _ _ wr => cn - lenAt wr M (3 + i))
                  case atStart =>
                    refine ⟨0, P3, [], none, 0, Nat.zero_le _, rfl, hpl3, Nat.le_refl _, HSP3, Lib.hid ?_, Lib.hid rfl, Lib.hid (OwM.nil _ _ _ _), Lib.hid (HH.out.mono (fun o ho => ?_))⟩
                    · have := mcs_nil n0 n1 (.slice Aq k cq) rs (by omega)
                      rw [hrl] at this
                      rw [this]
                      exact HX.out
                    · rcases ho with ho | ⟨x, hx, _⟩
                      · exact ho
                      · cases hx
                  case round =>
                    clear HX HH
                    obtain ⟨j, P, l3, Ar, cr, hj, rfl, hpl, hjc, HP4, HX, HL4, HO3, HH3⟩ := hrel
                    have m2 : wr.cell? ⟨M, 3 + i, none⟩ = some (.slice Ar j cr) := by
                      rw [HX.out.vm.cell]
                      have := mcs_get n0 n1 (.slice Aq k cq) rs (by omega) (.slice Ar j cr)
                      rwa [hrl] at this
                    have h2 : wr.cell? ⟨H, 3 + i, none⟩ = some (.int .u16 (cn : Int)) := by rw [HX.out.vh.cell]; exact HGC.out
                    have kw1 : IntKind.i64.wrap (3 + (i : Int)) = 3 + (i : Int) := by rw [IntKind.wrap_i64]; omega
                    have kw2 : (3 + (i : Int)).toNat = 3 + i := by omega
                    have kw3 : 3 + (i : Int) < 6 := by omega
                    have kw4 : 0 ≤ 3 + (i : Int) := by omega
                    have kw5 : IntKind.i64.wrap (cn : Int) = (cn : Int) := by rw [IntKind.wrap_i64]; omega
                    have hhi := HX.out.hi
                    rcases Nat.lt_or_ge j cn with hjlt | hjge
                    · have hjlt' : (j : Int) < (cn : Int) := by omega
                      obtain ⟨z, hz⟩ : ∃ z, z = rR b ⟨P, 0⟩ := ⟨_, rfl⟩
                      have HZ := Lib.hid hz
                      clear hz
                      go_upto_region 26 with fail
                      go_quiet (fail)
                      have hXq := HX.out.far (below_drewN (Below.refl _ wr) nq)
                      have hdq : Below wr.heap.size wr (wr.drewN nq) := below_drewN (Below.refl _ wr) nq
                      by_cases hz0 : z.2.e = 0
                      · have hz0' : (z.2.e : Int) = 0 := by omega
                        have hz0b : ((z.2.e : Int) != 0) = false := by simp [hz0]
                        go_upto_region 30 with (first
                          | (go_at_call 43
                             refine (frecord_at A c L b P z HZ.out (wr.drewN nq) HL.out (HR.out.goes hXq.bl) hc hcl hpl).mono ?_
                             rintro e w3 ⟨⟨An, cnm, dA, dc, tA, tc, r⟩, hok, rfl, ⟨O2, hw3⟩, hb3⟩
                             obtain rfl : r = z.1 := hok.1 hz0
                             unfold RR.cells
                             dsimp only)
                          | (refine wpList_store_row rfl 74 _ _ rfl w3.heap.size _ rfl rfl _ _ (Vx.new w3 _ zRR.cells) (by kernel_rfl) rfl (by kernel_rfl) ?_
                             generalize hw4 : World.setRow (w3.alloc _) _ _ = w4
                             obtain ⟨hb4, hV4⟩ := newrow hw4
                             clear hw4
                             have hb14 : Below wr.heap.size wr w4 := (hdq.trans hb3).trans (hb4.mono hb3.size)
                             have hX4 := HX.out.far hb14
                             have m4 : w4.cell? ⟨M, 3 + i, none⟩ = some (.slice Ar j cr) := by
                               rw [hX4.vm.cell]
                               have := mcs_get n0 n1 (.slice Aq k cq) rs (by omega) (.slice Ar j cr)
                               rwa [hrl] at this))
                        have hV4d : Vx w4 w3.heap.size 74 [.slice An z.1.q.nm.length cnm, .int .u16 (z.1.q.ty : Int), .int .u16 (z.1.q.cl : Int), .int .u32 (z.1.ttl : Int), .slice dA z.1.d.length dc, .int .u16 (z.1.pr : Int), .int .u16 (z.1.we : Int), .int .u16 (z.1.po : Int), .slice tA z.1.tg.length tc] := hV4
                        obtain ⟨q0, q1, q2, q3, q4, q5, q6, q7, q8⟩ := hV4d.c9
                        have hX4a := hX4.far (below_new w4 (.cells (RR.cells ⟨An, cnm, dA, dc, tA, tc, z.1⟩).toArray 74))
                        have hX4d := hX4a.far (below_drew1 _)
                        have m4e : (w4.alloc (.cells (RR.cells ⟨An, cnm, dA, dc, tA, tc, z.1⟩).toArray 74)).cell? ⟨M, 3 + i, none⟩ = some (.slice Ar j cr) := by
                          rw [hX4a.vm.cell]
                          have := mcs_get n0 n1 (.slice Aq k cq) rs (by omega) (.slice Ar j cr)
                          rwa [hrl] at this
                        unfold RR.cells at m4e
                        dsimp only at m4e
                        have hsrc : Src Try.prog 9 57 (.slice (some ⟨w4.heap.size, 0, none⟩) 1 1) 1 (RR.cells ⟨An, cnm, dA, dc, tA, tc, z.1⟩) (w4.alloc (.cells (RR.cells ⟨An, cnm, dA, dc, tA, tc, z.1⟩).toArray 74)).drew := by
                          have h0 : Rd (w4.alloc (.cells (RR.cells ⟨An, cnm, dA, dc, tA, tc, z.1⟩).toArray 74)).drew (w4.alloc (.cells (RR.cells ⟨An, cnm, dA, dc, tA, tc, z.1⟩).toArray 74)).heap.size (some ⟨w4.heap.size, 0, none⟩) (1 * 9) (RR.cells ⟨An, cnm, dA, dc, tA, tc, z.1⟩) := Rd.lit_top0 w4 74 (RR.cells ⟨An, cnm, dA, dc, tA, tc, z.1⟩) (1 * 9) rfl
                          exact h0.srcM Try.underlying57 (rcells_one _)
                        have HSRC := Lib.hid hsrc
                        have hownd := ((HO3.out.far hb14).alloc (.cells (RR.cells ⟨An, cnm, dA, dc, tA, tc, z.1⟩).toArray 74)).drew
                        have HOWND := Lib.hid hownd
                        clear hsrc hownd
                        go_region_law (first
                          | (refine step_appM rfl _ _ _ _ rfl (M + 1) 9 74 j0 _ 96 Try.underlying57 hj' hy0 hy1 hy2 rfl (by omega) (.slice Ar j cr) j (rcs l3) HOWND.out rfl (.slice (some ⟨w4.heap.size, 0, none⟩) 1 1) rfl 1 (RR.cells ⟨An, cnm, dA, dc, tA, tc, z.1⟩) HSRC.out (by omega) (by have : wr.heap.size ≤ w4.heap.size := hb14.size; simp; omega) ?_
                             intro v5 w5 hown5 hgr5 hsz5
                             obtain ⟨A5, c5, rfl, hc5, _, _⟩ := hown5.form
                             have hX5 := hX4d.gr hgr5 (OwM.lt HO3.out)
                             have m5' : w5.cell? ⟨M, 3 + i, none⟩ = some (.slice Ar j cr) := by
                               rw [hX5.vm.cell]
                               have := mcs_get n0 n1 (.slice Aq k cq) rs (by omega) (.slice Ar j cr)
                               rwa [hrl] at this
                             have f5' := hX5.vm.free (3 + i)))
                        all_goals
                          go_wp2_with fail
                          go_roundw
                          case rel =>
                            refine ⟨j + 1, z.2.at_, l3 ++ [⟨An, cnm, dA, dc, tA, tc, z.1⟩], A5, c5, by omega, by rw [nxS_ok hz0], ?_, hc5, Lib.hid (rRs_to HP4.out HZ.out hz0), Lib.hid hX5.setS, Lib.hid (rRs_map HP4.out HZ.out HL4.out rfl), Lib.hid ?_, Lib.hid (Held.recF HH3.out HO3.out hdq hb3 hw3 hb4 hhi.2 rfl _ hgr5)⟩
                            · rw [HZ.out, ← HL.out]
                              exact rR_le (by rw [HL.out]; exact hpl) (by rw [← HZ.out]; exact hz0)
                            · rw [rcs_snoc]
                              exact OwM.setL hown5 hhi.1 _ _
                          case measure =>
                            have e1 := lenAt_of m2
                            have e2 := lenAt_of (A := A5) (n := j + 1) (c := c5) ((hX5.setS (v := .slice A5 (j + 1) c5)).vm.cell (3 + i) |>.trans (by
                              have := mcs_get n0 n1 (.slice Aq k cq) rs (by omega) (.slice A5 (j + 1) c5)
                              rwa [hrl] at this))
                            rw [e1, e2]; omega
                      · have hz0' : ¬ (z.2.e : Int) = 0 := by omega
                        have hz0b : ((z.2.e : Int) != 0) = true := by rw [bne_iff_ne]; omega
                        have hr1 : rr = (zM, z.2.e) := by
                          have e1 : (rRs b (rLs b (rQs b ⟨12, 0⟩ k).2 [n3, n4, n5] i).2 (j + 1)).2 = z.2 := by
                            rw [← HS0.out, ← HSi.out]
                            exact rRs_err HP4.out HZ.out
                          rw [HR1.out, rest_errR hlt (by rw [← HCN.out]; exact hjlt) (by rw [e1]; exact hz0), e1]
                        clear HR1
                        subst hr1
                        go_wp2_with (first
                          | (go_at_call 43
                             refine (frecord_at A c L b P z HZ.out (wr.drewN nq) HL.out (HR.out.goes hXq.bl) hc hcl hpl).mono ?_
                             rintro e w3 ⟨⟨An, cnm, dA, dc, tA, tc, r⟩, hok, rfl, ⟨O2, hw3⟩, hb3⟩
                             unfold RR.cells
                             dsimp only)
                          | (refine wpList_store_row rfl 60 _ _ rfl w.heap.size _ rfl rfl _ _ hX4.vr (by kernel_rfl) rfl (by kernel_rfl) ?_)
                          | (refine wpList_store_row rfl 74 _ _ rfl w3.heap.size _ rfl rfl _ _ (Vx.new w3 _ zRR.cells) (by kernel_rfl) rfl (by kernel_rfl) ?_
                             generalize hw4 : World.setRow (w3.alloc _) _ _ = w4
                             obtain ⟨hb4, hV4⟩ := newrow hw4
                             clear hw4
                             have hX4 := HX.out.far ((hdq.trans hb3).trans (hb4.mono hb3.size))))
                        refine bodyPost_ret (resMf Try.results18 _ _ w.heap.size _ _ _ rfl rfl (hX4.vr.row zM6) rfl) rfl ?_
                        exact ⟨zMR, rfl, rfl, zMR_owF _ _, hX4.bl.trans ((Only.row _ _ _).below (Nat.le_refl _) hX4.bl.size)⟩
                    · have hjn : j = cn := by omega
                      subst hjn
                      have hl3 : l3.length = j := by
                        have := HO3.out.len
                        rw [rcs_length] at this
                        omega
                      have HL3L := Lib.hid hl3
                      clear hl3
                      go_upto_region 26 with fail
                      go_quiet (fail)
                      have hdq : Below wr.heap.size wr (wr.drewN nq) := below_drewN (Below.refl _ wr) nq
                      go_wp2_with fail
                      go_roundw
                      case rel =>
                        refine ⟨i + 1, P, rs ++ [⟨Ar, cr, l3⟩], by omega, by go_num, rfl, hpl, by simp [hrl], Lib.hid (rLs_to HSi.out HCN.out HP4.out), Lib.hid ?_, Lib.hid (rLs_map HSi.out HCN.out HL3.out HL4.out), Lib.hid ?_⟩
                        · have := mcs_snoc n0 n1 (.slice Aq k cq) rs (by omega) ⟨Ar, cr, l3⟩
                          unfold RW.v at this
                          simp only at this
                          rw [HL3L.out, hrl] at this
                          rw [← this]
                          exact HX.out.far hdq
                        · refine ((HH3.out.far hdq).fin (rwRf Ar cr l3) (show (rwRf Ar cr l3).ok (wr.drewN nq) (M + 1) by
                            unfold Ob.ok rwRf
                            rw [HL3L.out]
                            exact HO3.out.drewN nq)).mono fun o ho => ?_
                          rcases ho with ho | ⟨r, hr, e⟩
                          · exact Or.inr (Or.inl (Or.inl ho))
                          · rcases List.mem_append.1 hr with hr | hr
                            · exact Or.inr (Or.inl (Or.inr ⟨r, hr, e⟩))
                            · simp at hr
                              subst hr
                              rcases e with e | e
                              · exact Or.inl e
                              · exact Or.inr (Or.inr e)
                      case measure => simp [intOf]; omega
                · have hi3' : i = 3 := by omega
                  subst hi3'
                  match rs, hrl with
                  | [x0, x1, x2], _ =>
                    obtain ⟨z, hz⟩ : ∃ z, z = rLs b S0 [n3, n4, n5] 3 := ⟨_, rfl⟩
                    rw [← hz] at HP3 HL3
                    have hrr2 : rr = if P3 < L then (zM, 173) else (⟨n0, n1, (rQs b ⟨12, 0⟩ k).1, z.1.getD 0 [], z.1.getD 1 [], z.1.getD 2 []⟩, 0) := by
                      rw [HR1.out, readRest_eq, ← HS0.out, ← hz]
                      dsimp only
                      rw [HP3.out, HL.out]
                      by_cases h : P3 < L <;> simp [h]
                    have HRR := Lib.hid hrr2
                    clear hrr2 HR1 hz
                    have hMO : ∀ W, Only wr W w.heap.size → MOwF W w.heap.size ⟨n0, n1, Aq, cq, l, x0.A, x0.c, x0.l, x1.A, x1.c, x1.l, x2.A, x2.c, x2.l⟩ := by
                      intro W hW
                      have hB : w.heap.size < M + 1 := by have := HX.out.lo; omega
                      have h1 := HH.out.only hW hB
                      have hm : ∀ o, ((o = rwQf Aq cq l ∨ DQ l o) ∨ ∃ r ∈ [x0, x1, x2], o = rwRf r.A r.c r.l ∨ DR r.l o) → o.ok W w.heap.size := fun o ho => OwM.mono (h1.dn o ho) (by omega)
                      exact ⟨hm _ (Or.inl (Or.inl rfl)), hm _ (Or.inr ⟨x0, by simp, Or.inl rfl⟩), hm _ (Or.inr ⟨x1, by simp, Or.inl rfl⟩), hm _ (Or.inr ⟨x2, by simp, Or.inl rfl⟩), fun o ho => hm _ (Or.inl (Or.inr ho)), fun o ho => hm _ (Or.inr ⟨x0, by simp, Or.inr ho⟩), fun o ho => hm _ (Or.inr ⟨x1, by simp, Or.inr ho⟩), fun o ho => hm _ (Or.inr ⟨x2, by simp, Or.inr ho⟩)⟩
                    have HMO := Lib.hid hMO
                    clear hMO
                    by_cases hAt : P3 < L
                    · have hr1 : rr = (zM, 173) := by rw [HRR.out, if_pos hAt]
                      clear HRR
                      subst hr1
                      have ha4 : (P3 : Int) < (L : Int) := by omega
                      go_wp2_with (refine wpList_store_row rfl 60 _ _ rfl w.heap.size _ rfl rfl _ _ HX.out.vr (by kernel_rfl) rfl (by kernel_rfl) ?_)
                      refine bodyPost_ret (resMf Try.results18 _ _ w.heap.size _ _ _ rfl rfl (HX.out.vr.row zM6) rfl) rfl ?_
                      exact ⟨zMR, rfl, rfl, zMR_owF _ _, HX.out.bl.trans ((Only.row _ _ _).below (Nat.le_refl _) HX.out.bl.size)⟩
                    · have hr1 : rr = (⟨n0, n1, (rQs b ⟨12, 0⟩ k).1, z.1.getD 0 [], z.1.getD 1 [], z.1.getD 2 []⟩, 0) := by rw [HRR.out, if_neg hAt]
                      clear HRR
                      subst hr1
                      have ha4 : (L : Int) ≤ (P3 : Int) := by omega
                      go_wp2_with (first
                        | (refine wpList_store_row rfl 60 _ _ rfl w.heap.size _ rfl rfl _ _ HX.out.vr (by kernel_rfl) rfl (by kernel_rfl) ?_)
                        | (refine wpList_load_row rfl 60 _ rfl M rfl _ _ _ _ HX.out.vm Try.underlying60 rfl (by kernel_rfl) ?_))
                      refine bodyPost_ret (resMf Try.results18 _ _ w.heap.size _ _ _ rfl rfl (HX.out.vr.row _) rfl) rfl ?_
                      have hcs : mcs n0 n1 (.slice Aq k cq) [x0, x1, x2] = MR.cells ⟨n0, n1, Aq, cq, l, x0.A, x0.c, x0.l, x1.A, x1.c, x1.l, x2.A, x2.c, x2.l⟩ := by
                        unfold MR.cells
                        simp only
                        rw [HLQ.out]; rfl
                      refine ⟨⟨n0, n1, Aq, cq, l, x0.A, x0.c, x0.l, x1.A, x1.c, x1.l, x2.A, x2.c, x2.l⟩, ?_, by rw [hcs]; rfl, HMO.out _ (Only.row _ _ _), HX.out.bl.trans ((Only.row _ _ _).below (Nat.le_refl _) (by have := HX.out.bl.size; omega))⟩
                      have hq := HL2.out
                      have hz := HL3.out
                      rw [← hz]
                      show (⟨n0, n1, l.map QR.q, x0.l.map RR.r, x1.l.map RR.r, x2.l.map RR.r⟩ : Ms) = _
                      rw [hq]; rfl
open Go.RowKit
theorem size_mem {n : List (List UInt8)} {k : Nat} (h : sizeN n ≤ k) : ∀ x ∈ n, x.length ≤ k := by
  induction n with
  | nil => intro x hx; cases hx
  | cons a n ih =>
    simp only [sizeN] at h
    intro x hx
    rcases List.mem_cons.1 hx with rfl | hx
    · omega
    · exact ih (by omega) x hx
set_option maxRecDepth 100000 in
set_option maxHeartbeats 400000 in
theorem names_at (A1 A2 : Option Addr) (c1 c2 L1 L2 : Nat) (a b : List (List UInt8)) (w : World) (B : Nat) (hL1 : a.length = L1) (hL2 : b.length = L2) (h1 : NRd w B A1 c1 a) (h2 : NRd w B A2 c2 b) :
    Calls Try.prog 44 #[.slice A1 L1 c1, .slice A2 L2 c2] w fun e w' => e = .returned (.bool (decide (a = b))) ∧ ∃ q, w' = w.drewN q := by
  subst hL1 hL2
  have hc := rcmp_any A1 A2 c1 c2 a b w B h1.1 h2.1 (Nat.le_trans (len_le_size a) h1.2.2) (Nat.le_trans (len_le_size b) h2.2.2) (size_mem h1.2.2) (size_mem h2.2.2)
  have hb : decide (a = b) = (cmpN a b == 0) := by
    rw [Bool.eq_iff_iff]; simp [cmpN_eq]
  rw [hb]
  have HC := Lib.hid hc
  clear hc hb h1 h2
  go_enter Try.func44, Try.ntmps44
  go_wp2_with (go_at_call 71; refine HC.out.mono ?_; rintro e w1 ⟨rfl, q, rfl⟩)
  go_ret
  exact ⟨rfl, q, rfl⟩
set_option maxRecDepth 100000 in
set_option maxHeartbeats 16000000 in
theorem fsameR_at (x y : RR) (w : World) (hx : RRd w w.heap.size x) (hy : RRd w w.heap.size y) :
    Calls Try.prog 56 #[.agg x.cells.toArray, .agg y.cells.toArray] w fun e w' => e = .returned (.bool (sameR x.r y.r)) ∧ Below w.heap.size w w' := by
  obtain ⟨b1, hb1⟩ : ∃ b, b = decide (x.r.q.ty = y.r.q.ty) := ⟨_, rfl⟩
  obtain ⟨b2, hb2⟩ : ∃ b, b = decide (x.r.q.cl = y.r.q.cl) := ⟨_, rfl⟩
  obtain ⟨b3, hb3⟩ : ∃ b, b = decide (x.r.ttl = y.r.ttl) := ⟨_, rfl⟩
  obtain ⟨b4, hb4⟩ : ∃ b, b = decide (x.r.d = y.r.d) := ⟨_, rfl⟩
  obtain ⟨b5, hb5⟩ : ∃ b, b = decide (x.r.pr = y.r.pr) := ⟨_, rfl⟩
  obtain ⟨b6, hb6⟩ : ∃ b, b = decide (x.r.we = y.r.we) := ⟨_, rfl⟩
  obtain ⟨b7, hb7⟩ : ∃ b, b = decide (x.r.po = y.r.po) := ⟨_, rfl⟩
  obtain ⟨b8, hb8⟩ : ∃ b, b = decide (x.r.q.nm = y.r.q.nm) := ⟨_, rfl⟩
  obtain ⟨b9, hb9⟩ : ∃ b, b = decide (x.r.tg = y.r.tg) := ⟨_, rfl⟩
  have hs : sameR x.r y.r = (b1 && (b2 && (b3 && (b4 && (b5 && (b6 && (b7 && (b8 && b9)))))))) := by
    rw [hb1, hb2, hb3, hb4, hb5, hb6, hb7, hb8, hb9]
    simp only [sameR, sameQ]
    rw [Bool.eq_iff_iff]
    simp only [Bool.and_eq_true, decide_eq_true_iff]
    constructor
    · rintro ⟨⟨h1, h2, h3⟩, h4, h5, h6, h7, h8, h9⟩; exact ⟨h1, h2, h4, h5, h6, h7, h8, h3, h9⟩
    · rintro ⟨h1, h2, h4, h5, h6, h7, h8, h3, h9⟩; exact ⟨⟨h1, h2, h3⟩, h4, h5, h6, h7, h8, h9⟩
  rw [hs]
  clear hs
  have e1 : ((x.r.q.ty : Int) == (y.r.q.ty : Int)) = b1 := by rw [hb1, Bool.eq_iff_iff, beq_iff_eq, decide_eq_true_iff]; omega
  have e2 : ((x.r.q.cl : Int) == (y.r.q.cl : Int)) = b2 := by rw [hb2, Bool.eq_iff_iff, beq_iff_eq, decide_eq_true_iff]; omega
  have e3 : ((x.r.ttl : Int) == (y.r.ttl : Int)) = b3 := by rw [hb3, Bool.eq_iff_iff, beq_iff_eq, decide_eq_true_iff]; omega
  have e4 : (x.r.d == y.r.d) = b4 := by rw [hb4, Bool.eq_iff_iff, beq_iff_eq, decide_eq_true_iff]
  have e5 : ((x.r.pr : Int) == (y.r.pr : Int)) = b5 := by rw [hb5, Bool.eq_iff_iff, beq_iff_eq, decide_eq_true_iff]; omega
  have e6 : ((x.r.we : Int) == (y.r.we : Int)) = b6 := by rw [hb6, Bool.eq_iff_iff, beq_iff_eq, decide_eq_true_iff]; omega
  have e7 : ((x.r.po : Int) == (y.r.po : Int)) = b7 := by rw [hb7, Bool.eq_iff_iff, beq_iff_eq, decide_eq_true_iff]; omega
  have HX := Lib.hid hx
  have HY := Lib.hid hy
  have h1 := below_two w
  have K8 := Lib.hid (fun (w2 : World) (h : Below w.heap.size w w2) => (show Calls Try.prog 44 #[.slice x.A x.r.q.nm.length x.c, .slice y.A y.r.q.nm.length y.c] w2 fun e w' => e = .returned (.bool b8) ∧ ∃ q, w' = w2.drewN q by rw [hb8]; exact names_at _ _ _ _ _ _ _ _ w2 w2.heap.size rfl rfl ((HX.out.1.1.below h).more h.size) ((HY.out.1.1.below h).more h.size)))
  have K9 := Lib.hid (fun (w2 : World) (h : Below w.heap.size w w2) => (show Calls Try.prog 44 #[.slice x.tA x.r.tg.length x.tc, .slice y.tA y.r.tg.length y.tc] w2 fun e w' => e = .returned (.bool b9) ∧ ∃ q, w' = w2.drewN q by rw [hb9]; exact names_at _ _ _ _ _ _ _ _ w2 w2.heap.size rfl rfl ((HX.out.2.2.1.below h).more h.size) ((HY.out.2.2.1.below h).more h.size)))
  obtain ⟨W, hW⟩ : ∃ W, W = (w.alloc (.cells x.cells.toArray 74)).alloc (.cells y.cells.toArray 74) := ⟨_, rfl⟩
  have hBW : Below w.heap.size w W := by rw [hW]; exact h1 _ _
  have k1 := conv_bs (P := Try.prog) W 22 5 9 x.dA x.dc W.heap.size x.r.d Try.underlying22 Try.underlying5 Try.underlying9 ((hx.2.1.1.below hBW).more hBW.size)
  have k2 := conv_bs (P := Try.prog) W 22 5 9 y.dA y.dc W.heap.size y.r.d Try.underlying22 Try.underlying5 Try.underlying9 ((hy.2.1.1.below hBW).more hBW.size)
  have v1 : Vx W w.heap.size 74 x.cells := by rw [hW]; exact (vx_two (Below.refl _ _)).1
  have v2 : Vx W (w.heap.size + 1) 74 y.cells := by rw [hW]; exact (vx_two (Below.refl _ _)).2
  obtain ⟨c0, c1, c2, c3, c4, c5, c6, c7, c8⟩ := v1.c9
  obtain ⟨d0, d1, d2, d3, d4, d5, d6, d7, d8⟩ := v2.c9
  have HW := Lib.hid hW
  clear hx hy hb1 hb2 hb3 hb4 hb5 hb6 hb7 hb8 hb9 v1 v2 hW h1
  go_enter Try.func56, Try.ntmps56
  go_upto_region 1 with fail
  rw [← HW.out]
  go_wp2_with (first
    | (go_at_call 44
       refine (K9.out _ (bl_drewN hBW q8)).mono ?_
       rintro e w3 ⟨rfl, q9, rfl⟩)
    | (go_at_call 44
       refine (K8.out _ hBW).mono ?_
       rintro e w2 ⟨rfl, q8, rfl⟩))
  all_goals go_ret
  all_goals refine ⟨ret_bool ?_, by first | exact hBW | exact bl_drewN hBW _ | exact bl_drewN (bl_drewN hBW _) _⟩
  all_goals clear HX HY K8 K9 k1 k2 HW hBW c0 c1 c2 c3 c4 c5 c6 c7 c8 d0 d1 d2 d3 d4 d5 d6 d7 d8 e1 e2 e3 e4 e5 e6 e7
  all_goals simp_all
set_option maxRecDepth 100000 in
set_option maxHeartbeats 16000000 in
theorem fsameRs_at (A A2 : Option Addr) (c c2 n m : Nat) (l k : List RR) (w : World) (h : RsRd w w.heap.size A c n l) (h2 : RsRd w w.heap.size A2 c2 m k) :
    Calls Try.prog 28 #[.slice A n c, .slice A2 m c2] w fun e w' => e = .returned (.bool (allEq (fun x y : RR => sameR x.r y.r) l k)) ∧ Below w.heap.size w w' := by
  have hn := h.2.1
  have hn' := h.2.2.2.1
  have hm := h2.2.1
  have hm' := h2.2.2.2.1
  have H := Lib.hid h
  have H2 := Lib.hid h2
  clear h h2
  by_cases hnm : n = m
  · subst hnm
    go_enter Try.func28, Try.ntmps28
    go_wp2_with fail
    go_loopw [5] (fun i wr => ∃ j : Nat, j ≤ n ∧ i = .int .i64 j ∧ Hid (∀ i (h1 : i < l.length) (h2 : i < k.length), i < j → sameR l[i].r k[i].r = true) ∧ Below w.heap.size w wr) (fun i _ => n - (intOf i).toNat)
    case atStart => exact ⟨0, Nat.zero_le _, rfl, Lib.hid (fun _ _ _ h => by omega), Below.refl _ _⟩
    case round =>
      obtain ⟨j, hj, rfl, HA, hbel⟩ := hrel
      rcases Nat.lt_or_ge j n with hlt | hge
      · have hl1 : j < l.length := by omega
        have hl2 : j < k.length := by omega
        obtain ⟨b, o, rfl, hb1, hc⟩ := (H.out.below hbel).at_ hlt
        obtain ⟨c0, c1, c2, c3, c4, c5, c6, c7, c8⟩ := (hc hl1).cells
        obtain ⟨b', o', rfl, hb2, hc'⟩ := (H2.out.below hbel).at_ hlt
        obtain ⟨d0, d1, d2, d3, d4, d5, d6, d7, d8⟩ := (hc' hl2).cells
        have hsz := hbel.size
        have hbl1 : b < wr.heap.size := by omega
        have hbl2 : b' < wr.heap.size := by omega
        have HX := Lib.hid (((H.out.below hbel).2.2.2.2 l[j] (List.getElem_mem hl1)).more hbel.size)
        have HY := Lib.hid (((H2.out.below hbel).2.2.2.2 k[j] (List.getElem_mem hl2)).more hbel.size)
        have hjn : (j : Int) < (n : Int) := by omega
        clear hc hc' hsz hb1 hb2
        have K := Lib.hid (fsameR_at l[j] k[j] wr.drew HX.out HY.out)
        go_upto_region 6 with fail
        go_region_with (go_at_call 56; refine K.out.mono ?_; rintro e w2 ⟨rfl, hb2⟩; have hB : Below w.heap.size w w2 := hbel.trans (((Below.refl wr.heap.size wr).drew.trans hb2).mono hbel.size))
        all_goals
          go_wp2_with fail
          · have hh : (!sameR l[j].r k[j].r) = true := by assumption
            have hf : sameR l[j].r k[j].r = false := by simpa using hh
            go_ret
            exact ⟨ret_bool (allEq_hit (f := fun x y : RR => sameR x.r y.r) hl1 hl2 hf).symm, hB⟩
          · have hh : (!sameR l[j].r k[j].r) = false := by assumption
            have hf : sameR l[j].r k[j].r = true := by simpa using hh
            go_roundw
            case rel =>
              refine ⟨j + 1, by omega, by go_num, Lib.hid (fun i p q hi => ?_), hB⟩
              rcases Nat.lt_or_ge i j with h | h
              · exact HA.out i p q h
              · have : i = j := by omega
                subst this
                exact hf
            case measure => simp [intOf]; omega
      · have hjn : j = n := by omega
        have hjn' : (n : Int) ≤ (j : Int) := by omega
        go_wp2_with fail
        go_ret
        refine ⟨ret_bool ?_, hbel⟩
        exact ((allEq_all (fun x y : RR => sameR x.r y.r) l k).2 ⟨by omega, fun i p q => HA.out i p q (by omega)⟩).symm
  · have hne : ((n : Int) != (m : Int)) = true := by rw [bne_iff_ne]; omega
    go_enter Try.func28, Try.ntmps28
    go_wp2_with fail
    go_ret
    refine ⟨ret_bool ?_, Below.refl _ _⟩
    exact (allEq_len (fun x y : RR => sameR x.r y.r) l k (by omega)).symm
theorem allEq_take {α : Type} {f : α → α → Bool} {l k : List α} {n : Nat} (hl : l.length = n) (hk : k.length = n) (h : ∀ i (h1 : i < l.length) (h2 : i < k.length), i < n → f l[i] k[i] = true) : allEq f l k = true :=
  (allEq_all f l k).2 ⟨by omega, fun i p q => h i p q (by omega)⟩
set_option maxRecDepth 100000 in
set_option maxHeartbeats 16000000 in
theorem fsame_at (x y : MR) (w : World) (hx : MRd w w.heap.size x) (hy : MRd w w.heap.size y) :
    Calls Try.prog 19 #[.agg x.cells.toArray, .agg y.cells.toArray] w fun e w' => e = .returned (.bool (sameM x.m y.m)) ∧ Below w.heap.size w w' := by
  obtain ⟨b1, hb1⟩ : ∃ b, b = decide (x.id = y.id) := ⟨_, rfl⟩
  obtain ⟨b2, hb2⟩ : ∃ b, b = decide (x.fl = y.fl) := ⟨_, rfl⟩
  obtain ⟨b3, hb3⟩ : ∃ b, b = allEq (fun x y : QR => sameQ x.q y.q) x.qs y.qs := ⟨_, rfl⟩
  obtain ⟨bl, hbl⟩ : ∃ b, b = decide (x.qs.length = y.qs.length) := ⟨_, rfl⟩
  obtain ⟨B, hB⟩ : ∃ B : Nat → Bool, B = fun i => allEq (fun x y : RR => sameR x.r y.r) (x.rl i) (y.rl i) := ⟨_, rfl⟩
  have hs : sameM x.m y.m = (b1 && (b2 && (b3 && (B 0 && (B 1 && B 2))))) := by
    rw [hb1, hb2, hb3, hB]
    simp only [allEq_map sameR RR.r]
    rw [allEq_map sameQ QR.q]; rfl
  rw [hs]
  clear hs
  have e1 : ((x.id : Int) != (y.id : Int)) = !b1 := by rw [hb1, Bool.eq_iff_iff, bne_iff_ne]; simp; omega
  have e2 : ((x.fl : Int) != (y.fl : Int)) = !b2 := by rw [hb2, Bool.eq_iff_iff, bne_iff_ne]; simp; omega
  have e3 : ((x.qs.length : Int) != (y.qs.length : Int)) = !bl := by rw [hbl, Bool.eq_iff_iff, bne_iff_ne]; simp; omega
  have hbl3 : bl = false → b3 = false := by
    intro h
    rw [hb3]
    exact allEq_len _ _ _ (by rw [hbl] at h; simpa using h)
  have HX := Lib.hid hx
  have HY := Lib.hid hy
  have K4 := Lib.hid (fun (i : Nat) (w2 : World) (h : Below w.heap.size w w2) => (show Calls Try.prog 28 #[.slice (x.rA i) (x.rl i).length (x.rc i), .slice (y.rA i) (y.rl i).length (y.rc i)] w2 fun e w' => e = .returned (.bool (B i)) ∧ Below w2.heap.size w2 w' by rw [hB]; exact fsameRs_at _ _ _ _ _ _ _ _ w2 (((HX.out.rl i).below h).more h.size) (((HY.out.rl i).below h).more h.size)))
  have h1 := below_two w
  have v1 : Vx ((w.alloc (.cells x.cells.toArray 60)).alloc (.cells y.cells.toArray 60)) w.heap.size 60 x.cells := (vx_two (Below.refl _ _)).1
  have v2 : Vx ((w.alloc (.cells x.cells.toArray 60)).alloc (.cells y.cells.toArray 60)) (w.heap.size + 1) 60 y.cells := (vx_two (Below.refl _ _)).2
  have HB3 := Lib.hid hb3
  have HBL := Lib.hid hbl
  have HBL3 := Lib.hid hbl3
  clear hx hy hb1 hb2 hb3 hB hbl hbl3
  have cx0 : x.cells[0]? = some (.int .u16 (x.id : Int)) := rfl
  have cx1 : x.cells[1]? = some (.int .u16 (x.fl : Int)) := rfl
  have cx2 : x.cells[2]? = some (.slice x.qA x.qs.length x.qc) := rfl
  have cy0 : y.cells[0]? = some (.int .u16 (y.id : Int)) := rfl
  have cy1 : y.cells[1]? = some (.int .u16 (y.fl : Int)) := rfl
  have cy2 : y.cells[2]? = some (.slice y.qA y.qs.length y.qc) := rfl
  go_enter Try.func19, Try.ntmps19
  go_wp2_with fail
  all_goals try (go_ret; refine ⟨ret_bool (by have := HBL3.out; simp_all), by first | exact h1 _ _⟩; done)
  have q1 : b1 = true := by assumption
  have q2 : b2 = true := by assumption
  have q3 : bl = true := by
    have hh : (!bl) = false := by assumption
    simpa using hh
  subst q1 q2 q3
  simp only [Bool.not_true]
  have hlen : x.qs.length = y.qs.length := by have := HBL.out; simpa using this.symm
  have hB0 : Below w.heap.size w ((w.alloc (.cells x.cells.toArray 60)).alloc (.cells y.cells.toArray 60)) := h1 _ _
  have V1 := Lib.hid v1
  have V2 := Lib.hid v2
  have HB0 := Lib.hid hB0
  obtain ⟨n, hn⟩ : ∃ n, n = x.qs.length := ⟨_, rfl⟩
  have HLX := Lib.hid hn.symm
  have HLY := Lib.hid (show y.qs.length = n by omega)
  have hnb : n ≤ 1000000000000 := by rw [hn]; exact HX.out.2.2.1.2.2.2.1
  clear v1 v2 hB0 cx0 cx1 cx2 cy0 cy1 cy2 HBL HBL3 e1 e2 e3 hlen h1
  rw [← hn]
  rw [HLY.out]
  go_loopw [5] (fun vi wr => ∃ j : Nat, j ≤ n ∧ vi = .int .i64 j ∧ Hid (∀ i (h1 : i < x.qs.length) (h2 : i < y.qs.length), i < j → sameQ x.qs[i].q y.qs[i].q = true) ∧ Hid (Vx wr w.heap.size 60 x.cells) ∧ Hid (Vx wr (w.heap.size + 1) 60 y.cells) ∧ Hid (Below w.heap.size w wr)) (fun i _ => n - (intOf i).toNat)
  case atStart => exact ⟨0, by omega, rfl, Lib.hid (fun i _ _ h => by omega), V1, V2, HB0⟩
  case round =>
    clear V1 V2 HB0 hn
    obtain ⟨j, hj, rfl, HA, V1, V2, HB⟩ := hrel
    have cx2 : wr.cell? ⟨w.heap.size, 2, none⟩ = some (.slice x.qA n x.qc) := by rw [V1.out.cell, ← HLX.out]; rfl
    have cy2 : wr.cell? ⟨w.heap.size + 1, 2, none⟩ = some (.slice y.qA n y.qc) := by rw [V2.out.cell, ← HLY.out]; rfl
    rcases Nat.lt_or_ge j n with hlt | hge
    · have hl1 : j < x.qs.length := by have := HLX.out; omega
      have hl2 : j < y.qs.length := by have := HLY.out; omega
      have hQ1 : QsRd wr w.heap.size x.qA x.qc n x.qs := by rw [← HLX.out]; exact HX.out.2.2.1.below HB.out
      have hQ2 : QsRd wr w.heap.size y.qA y.qc n y.qs := by rw [← HLY.out]; exact HY.out.2.2.1.below HB.out
      obtain ⟨b, o, hA1, hb1, hc⟩ := hQ1.at_ hlt
      obtain ⟨c0, c1, c2⟩ := hc hl1
      obtain ⟨b', o', hA2, hb2, hc'⟩ := hQ2.at_ hlt
      obtain ⟨d0, d1, d2⟩ := hc' hl2
      have hsz := HB.out.size
      have hbl1 : b < wr.heap.size := by omega
      have hbl2 : b' < wr.heap.size := by omega
      obtain ⟨p, hp⟩ : ∃ p, p = x.qs[j] := ⟨_, rfl⟩
      obtain ⟨q, hq⟩ : ∃ q, q = y.qs[j] := ⟨_, rfl⟩
      have hP : QRd wr wr.heap.size p := by rw [hp]; exact (hQ1.2.2.2.2 _ (List.getElem_mem hl1)).more hsz
      have hQ : QRd wr wr.heap.size q := by rw [hq]; exact (hQ2.2.2.2.2 _ (List.getElem_mem hl2)).more hsz
      have HP := Lib.hid hP
      have HQ := Lib.hid hQ
      have HPE := Lib.hid hp
      have HQE := Lib.hid hq
      rw [hA1] at cx2
      rw [hA2] at cy2
      rw [← hp] at c0 c1 c2
      rw [← hq] at d0 d1 d2
      obtain ⟨b1, hb1'⟩ : ∃ b, b = decide (p.q.ty = q.q.ty) := ⟨_, rfl⟩
      obtain ⟨b2, hb2'⟩ : ∃ b, b = decide (p.q.cl = q.q.cl) := ⟨_, rfl⟩
      obtain ⟨bn, hbn⟩ : ∃ b, b = decide (p.q.nm = q.q.nm) := ⟨_, rfl⟩
      have f1 : ((p.q.ty : Int) != (q.q.ty : Int)) = !b1 := by rw [hb1', Bool.eq_iff_iff, bne_iff_ne]; simp; omega
      have f2 : ((p.q.cl : Int) != (q.q.cl : Int)) = !b2 := by rw [hb2', Bool.eq_iff_iff, bne_iff_ne]; simp; omega
      have K5 := Lib.hid (fun (w2 : World) (h : Below wr.heap.size wr w2) => (show Calls Try.prog 44 #[.slice p.A p.q.nm.length p.c, .slice q.A q.q.nm.length q.c] w2 fun e w' => e = .returned (.bool bn) ∧ ∃ q, w' = w2.drewN q by rw [hbn]; exact names_at _ _ _ _ _ _ _ _ w2 w2.heap.size rfl rfl ((HP.out.1.below h).more h.size) ((HQ.out.1.below h).more h.size)))
      have HB1 := Lib.hid (fun (w2 : World) (h : Below wr.heap.size wr w2) => HB.out.trans (h.mono HB.out.size))
      have HS := Lib.hid (show sameQ p.q q.q = (b1 && (b2 && bn)) by rw [hb1', hb2', hbn]; rfl)
      have hjn' : (j : Int) < (n : Int) := by omega
      have hm1 := V1.out.lt
      have hm2 := V2.out.lt
      clear hc hc' hb1 hb2 hQ1 hQ2 hP hQ hp hq hA1 hA2 hb1' hb2' hbn hsz
      go_upto_region 6 with fail
      go_region
      all_goals
        go_wp2_with (go_at_call 44; refine (K5.out _ (below_two wr _ _).drew).mono ?_; rintro e w5 ⟨rfl, q5, rfl⟩)
        · have hh : (!bn) = true := by assumption
          have hh' : bn = false := by simpa using hh
          have hf : sameQ p.q q.q = false := by rw [HS.out]; simp [hh']
          have hA : b3 = false := by rw [HB3.out]; exact allEq_hit (f := fun x y : QR => sameQ x.q y.q) hl1 hl2 (by rw [← HPE.out, ← HQE.out]; exact hf)
          go_ret
          refine ⟨ret_bool (by rw [hA]; rfl), ?_⟩
          exact HB1.out _ (bl_drewN (below_two wr _ _) _)
        · have hh : (!bn) = false := by assumption
          have hbn : bn = true := by simpa using hh
          have h1 : b1 = true := by assumption
          have h2 : b2 = true := by assumption
          have hf : sameQ p.q q.q = true := by rw [HS.out, hbn]; simp [h1, h2]
          go_roundw
          case rel =>
            refine ⟨j + 1, by omega, by go_num, Lib.hid (fun i p' q' hi => ?_), Lib.hid (V1.out.below (bl_drewN (below_two wr _ _) _) hm1), Lib.hid (V2.out.below (bl_drewN (below_two wr _ _) _) hm2), Lib.hid (HB1.out _ (bl_drewN (below_two wr _ _) _))⟩
            rcases Nat.lt_or_ge i j with h | h
            · exact HA.out i p' q' h
            · have : i = j := by omega
              subst this
              rw [← HPE.out, ← HQE.out]
              exact hf
          case measure => simp [intOf]; omega
        · have hh : ¬ b2 = true := by assumption
          have hf : sameQ p.q q.q = false := by rw [HS.out]; simp [hh]
          have hA : b3 = false := by rw [HB3.out]; exact allEq_hit (f := fun x y : QR => sameQ x.q y.q) hl1 hl2 (by rw [← HPE.out, ← HQE.out]; exact hf)
          go_ret
          refine ⟨ret_bool (by rw [hA]; rfl), ?_⟩
          exact HB1.out _ (below_two wr _ _).drew
        · have hh : ¬ b1 = true := by assumption
          have hf : sameQ p.q q.q = false := by rw [HS.out]; simp [hh]
          have hA : b3 = false := by rw [HB3.out]; exact allEq_hit (f := fun x y : QR => sameQ x.q y.q) hl1 hl2 (by rw [← HPE.out, ← HQE.out]; exact hf)
          go_ret
          refine ⟨ret_bool (by rw [hA]; rfl), ?_⟩
          exact HB1.out _ (below_two wr _ _).drew
    · have hjn' : (n : Int) ≤ (j : Int) := by omega
      have hA : b3 = true := by
        rw [HB3.out]
        exact allEq_take (f := fun x y : QR => sameQ x.q y.q) HLX.out HLY.out (fun i p q h => HA.out i p q (by omega))
      subst hA
      obtain ⟨m0, m1, m2, m3, m4, m5⟩ := V1.out.c6
      obtain ⟨k0, k1, k2, k3, k4, k5⟩ := V2.out.c6
      have hm1 := V1.out.lt
      have hm2 := V2.out.lt
      have HB1 := Lib.hid (fun (w2 : World) (h : Below wr.heap.size wr w2) => HB.out.trans (h.mono HB.out.size))
      have V1x := Lib.hid (fun (w2 : World) (h : Below wr.heap.size wr w2) => (V1.out.below h hm1).c6)
      have V2x := Lib.hid (fun (w2 : World) (h : Below wr.heap.size wr w2) => (V2.out.below h hm2).c6)
      go_wp2_with (first
        | (go_at_call 28
           refine (K4.out 2 _ (HB1.out _ hw3)).mono ?_
           rintro e w4 ⟨rfl, hb4⟩
           have hw4 := hw3.trans (hb4.mono hw3.size))
        | (go_at_call 28
           refine (K4.out 1 _ (HB1.out _ hw2)).mono ?_
           rintro e w3 ⟨rfl, hb3⟩
           have hw3 := hw2.trans (hb3.mono hw2.size)
           obtain ⟨y0, y1, y2, y3, y4, y5⟩ := V1x.out _ hw3
           obtain ⟨z0, z1, z2, z3, z4, z5⟩ := V2x.out _ hw3)
        | (go_at_call 28
           refine (K4.out 0 _ HB.out).mono ?_
           rintro e w2 ⟨rfl, hw2⟩
           obtain ⟨u0, u1, u2, u3, u4, u5⟩ := V1x.out _ hw2
           obtain ⟨t0, t1, t2, t3, t4, t5⟩ := V2x.out _ hw2))
      all_goals go_ret
      all_goals refine ⟨ret_bool ?_, by first | exact HB1.out _ hw4 | exact HB1.out _ hw3 | exact HB1.out _ hw2⟩
      all_goals simp_all
open Go.RowKit
theorem resR1f {fn : Func} {q : Tmp} (h : fn.results = #[.cell q 74]) (tmps : Array Value) (W : World) (g : Nat) (e : TypeId) (cs : List Value) (hq : tmps[q]? = some (.pointer (some ⟨g, 0, none⟩))) (hx : Vx W g e cs) (hn : cs.length = 9) :
    (results fn tmps).run Try.prog W = .ok (.agg cs.toArray) W := by
  simp [results, h, hq, asAddr, hx.loadRf hn]
theorem resM1f {fn : Func} {q : Tmp} (h : fn.results = #[.cell q 60]) (tmps : Array Value) (W : World) (g : Nat) (e : TypeId) (cs : List Value) (hq : tmps[q]? = some (.pointer (some ⟨g, 0, none⟩))) (hx : Vx W g e cs) (hn : cs.length = 6) :
    (results fn tmps).run Try.prog W = .ok (.agg cs.toArray) W := by
  simp [results, h, hq, asAddr, hx.loadMf hn]
set_option maxRecDepth 100000 in
set_option maxHeartbeats 16000000 in
theorem turnedR_at (x : RR) (w : World) (h : RRd w w.heap.size x) (hs1 : x.r.q.nm.length * 16 ≤ 140737488351232) (hs2 : x.r.tg.length * 16 ≤ 140737488351232) :
    Calls Try.prog 27 #[.agg x.cells.toArray] w fun e w' => ∃ y : RR, y.r = x.r ∧ e = .returned (.agg y.cells.toArray) ∧ (nmO y.A y.c y.r.q.nm).ok w' w.heap.size ∧ (daO y.dA y.dc y.r.d).ok w' w.heap.size ∧ (nmO y.tA y.tc y.r.tg).ok w' w.heap.size ∧ Below w.heap.size w w' := by
  have hW : ∃ W, W = (w.alloc (.cells x.cells.toArray 41)).alloc (.cells zRR.cells.toArray 74) := ⟨_, rfl⟩
  obtain ⟨W, hW⟩ := hW
  have v1 : Vx W w.heap.size 41 x.cells := by rw [hW]; exact (vx_two (Below.refl _ _)).1
  have v2 : Vx W (w.heap.size + 1) 74 zRR.cells := by rw [hW]; exact (vx_two (Below.refl _ _)).2
  have hb : Below w.heap.size w W := by rw [hW]; exact below_two w _ _
  have hlt1 : w.heap.size < W.heap.size := v1.lt
  have hlt2 : w.heap.size + 1 < W.heap.size := v2.lt
  obtain ⟨R, hR⟩ : ∃ R, R = w.heap.size + 1 := ⟨_, rfl⟩
  rw [← hR] at v2 hlt2
  have hR1 : w.heap.size < R := by omega
  have HR := Lib.hid hR
  obtain ⟨A, c, dA, dc, tA, tc, ⟨⟨nm, ty, cl⟩, ttl, d, pr, we, po, tg⟩⟩ := x
  obtain ⟨⟨hn, _, _⟩, hd, ht, _⟩ := h
  simp only [RR.qr] at hn hd ht
  have HN := Lib.hid hn
  have HD := Lib.hid hd
  have HT := Lib.hid ht
  have HW := Lib.hid hW
  have V1 : Vx W w.heap.size 41 [.slice A nm.length c, .int .u16 (ty : Int), .int .u16 (cl : Int), .int .u32 (ttl : Int), .slice dA d.length dc, .int .u16 (pr : Int), .int .u16 (we : Int), .int .u16 (po : Int), .slice tA tg.length tc] := v1
  obtain ⟨c0, c1, c2, c3, c4, c5, c6, c7, c8⟩ := V1.c9
  simp only at hs1 hs2
  have K1 := Lib.hid (sclone_at W.drew A c nm.length nm rfl ((hn.1.below hb).more hb.size) (by omega))
  have VX := Lib.hid V1
  have v2' : Vx W R 74 [.slice none 0 0, .int .u16 0, .int .u16 0, .int .u32 0, .slice none 0 0, .int .u16 0, .int .u16 0, .int .u16 0, .slice none 0 0] := v2
  have VR := Lib.hid v2'
  clear v2 v2'
  clear hn hd ht hW hR v1 V1
  unfold RR.cells
  simp only
  go_enter Try.func27, Try.ntmps27
  go_upto_region 1 with fail
  rw [← HR.out]
  generalize hW2 : World.alloc (World.alloc w _) _ = W2
  have eW : W2 = W := hW2.symm.trans HW.out.symm
  clear hW2
  subst eW
  have hbd : Below W2.heap.size W2 W2.drew := (Below.refl _ _).drew
  refine wp_region_held_drew (S := fun w' => w'.cell? ⟨w.heap.size, 0, none⟩ = some (.slice A nm.length c) ∧ w'.cell? ⟨w.heap.size, 1, none⟩ = some (.int .u16 (ty : Int)) ∧ w'.cell? ⟨w.heap.size, 2, none⟩ = some (.int .u16 (cl : Int)) ∧ w'.cell? ⟨w.heap.size, 3, none⟩ = some (.int .u32 (ttl : Int)) ∧ w'.cell? ⟨w.heap.size, 4, none⟩ = some (.slice dA d.length dc) ∧ w'.cell? ⟨w.heap.size, 5, none⟩ = some (.int .u16 (pr : Int)) ∧ w'.cell? ⟨w.heap.size, 6, none⟩ = some (.int .u16 (we : Int)) ∧ w'.cell? ⟨w.heap.size, 7, none⟩ = some (.int .u16 (po : Int)) ∧ w'.cell? ⟨w.heap.size, 8, none⟩ = some (.slice tA tg.length tc)) (by kernel_rfl) VX.out.c9 (fun hH => ?_)
  refine reg_take 0 (v := ?_) rfl (by kernel_rfl) (fun _ _ _ h => h) (by rfl) hH ?_ ?_
  rotate_left
  · intro w hSw; (try dsimp only at hSw); go_simp; (try with_reducible rfl)
  (try simp only [Act.put, List.setIfInBounds_toArray, List.set_cons_zero, List.set_cons_succ])
  refine reg_take 1 (v := ?_) rfl (by kernel_rfl) (fun _ _ _ h => h) (by rfl) hH ?_ ?_
  rotate_left
  · intro w hSw; (try dsimp only at hSw); go_simp; (try with_reducible rfl)
  (try simp only [Act.put, List.setIfInBounds_toArray, List.set_cons_zero, List.set_cons_succ])
  refine reg_take 2 (v := ?_) rfl (by kernel_rfl) (fun _ _ _ h => h) (by rfl) hH ?_ ?_
  rotate_left
  · intro w hSw; (try dsimp only at hSw); go_simp; (try with_reducible rfl)
  (try simp only [Act.put, List.setIfInBounds_toArray, List.set_cons_zero, List.set_cons_succ])
  refine reg_take 4 (v := ?_) rfl (by kernel_rfl) (fun _ _ _ h => h) (by rfl) hH ?_ ?_
  rotate_left
  · intro w hSw; (try dsimp only at hSw); go_simp; (try with_reducible rfl)
  (try simp only [Act.put, List.setIfInBounds_toArray, List.set_cons_zero, List.set_cons_succ])
  refine reg_take 5 (v := ?_) rfl (by kernel_rfl) (fun _ _ _ h => h) (by rfl) hH ?_ ?_
  rotate_left
  · intro w hSw; (try dsimp only at hSw); go_simp; (try with_reducible rfl)
  (try simp only [Act.put, List.setIfInBounds_toArray, List.set_cons_zero, List.set_cons_succ])
  refine reg_take 6 (v := ?_) rfl (by kernel_rfl) (fun _ _ _ h => h) (by rfl) hH ?_ ?_
  rotate_left
  · intro w hSw; (try dsimp only at hSw); go_simp; (try with_reducible rfl)
  (try simp only [Act.put, List.setIfInBounds_toArray, List.set_cons_zero, List.set_cons_succ])
  refine reg_take 7 (v := ?_) rfl (by kernel_rfl) (fun _ _ _ h => h) (by rfl) hH ?_ ?_
  rotate_left
  · intro w hSw; (try dsimp only at hSw); go_simp; (try with_reducible rfl)
  (try simp only [Act.put, List.setIfInBounds_toArray, List.set_cons_zero, List.set_cons_succ])
  refine reg_take 8 (v := ?_) rfl (by kernel_rfl) (fun _ _ _ h => h) (by rfl) hH ?_ ?_
  rotate_left
  · intro w hSw; (try dsimp only at hSw); go_simp; (try with_reducible rfl)
  (try simp only [Act.put, List.setIfInBounds_toArray, List.set_cons_zero, List.set_cons_succ])
  refine reg_take 9 (v := ?_) rfl (by kernel_rfl) (fun _ _ _ h => h) (by rfl) hH ?_ ?_
  rotate_left
  · intro w hSw; (try dsimp only at hSw); go_simp; (try with_reducible rfl)
  (try simp only [Act.put, List.setIfInBounds_toArray, List.set_cons_zero, List.set_cons_succ])
  refine reg_take 11 (v := ?_) rfl (by kernel_rfl) (fun _ _ _ h => h) (by rfl) hH ?_ ?_
  rotate_left
  · intro w hSw; (try dsimp only at hSw); go_simp; (try with_reducible rfl)
  (try simp only [Act.put, List.setIfInBounds_toArray, List.set_cons_zero, List.set_cons_succ])
  refine reg_take 12 (v := ?_) rfl (by kernel_rfl) (fun _ _ _ h => h) (by rfl) hH ?_ ?_
  rotate_left
  · intro w hSw; (try dsimp only at hSw); go_simp; (try with_reducible rfl)
  (try simp only [Act.put, List.setIfInBounds_toArray, List.set_cons_zero, List.set_cons_succ])
  refine reg_take 13 (v := ?_) rfl (by kernel_rfl) (fun _ _ _ h => h) (by rfl) hH ?_ ?_
  rotate_left
  · intro w hSw; (try dsimp only at hSw); go_simp; (try with_reducible rfl)
  (try simp only [Act.put, List.setIfInBounds_toArray, List.set_cons_zero, List.set_cons_succ])
  refine reg_take 14 (v := ?_) rfl (by kernel_rfl) (fun _ _ _ h => h) (by rfl) hH ?_ ?_
  rotate_left
  · intro w hSw; (try dsimp only at hSw); go_simp; (try with_reducible rfl)
  (try simp only [Act.put, List.setIfInBounds_toArray, List.set_cons_zero, List.set_cons_succ])
  refine reg_take 16 (v := ?_) rfl (by kernel_rfl) (fun _ _ _ h => h) (by rfl) hH ?_ ?_
  rotate_left
  · intro w hSw; (try dsimp only at hSw); go_simp; (try with_reducible rfl)
  (try simp only [Act.put, List.setIfInBounds_toArray, List.set_cons_zero, List.set_cons_succ])
  refine reg_take 17 (v := ?_) rfl (by kernel_rfl) (fun _ _ _ h => h) (by rfl) hH ?_ ?_
  rotate_left
  · intro w hSw; (try dsimp only at hSw); go_simp; (try with_reducible rfl)
  (try simp only [Act.put, List.setIfInBounds_toArray, List.set_cons_zero, List.set_cons_succ])
  refine reg_take 18 (v := ?_) rfl (by kernel_rfl) (fun _ _ _ h => h) (by rfl) hH ?_ ?_
  rotate_left
  · intro w hSw; (try dsimp only at hSw); go_simp; (try with_reducible rfl)
  (try simp only [Act.put, List.setIfInBounds_toArray, List.set_cons_zero, List.set_cons_succ])
  refine reg_take 19 (v := ?_) rfl (by kernel_rfl) (fun _ _ _ h => h) (by rfl) hH ?_ ?_
  rotate_left
  · intro w hSw; (try dsimp only at hSw); go_simp; (try with_reducible rfl)
  (try simp only [Act.put, List.setIfInBounds_toArray, List.set_cons_zero, List.set_cons_succ])
  refine reg_take 20 (v := ?_) rfl (by kernel_rfl) (fun _ _ _ h => h) (by rfl) hH ?_ ?_
  rotate_left
  · intro w hSw; (try dsimp only at hSw); go_simp; (try with_reducible rfl)
  (try simp only [Act.put, List.setIfInBounds_toArray, List.set_cons_zero, List.set_cons_succ])
  refine reg_take 21 (v := ?_) rfl (by kernel_rfl) (fun _ _ _ h => h) (by rfl) hH ?_ ?_
  rotate_left
  · intro w hSw; (try dsimp only at hSw); go_simp; (try with_reducible rfl)
  (try simp only [Act.put, List.setIfInBounds_toArray, List.set_cons_zero, List.set_cons_succ])
  refine reg_take 22 (v := ?_) rfl (by kernel_rfl) (fun _ _ _ h => h) (by rfl) hH ?_ ?_
  rotate_left
  · intro w hSw; (try dsimp only at hSw); go_simp; (try with_reducible rfl)
  (try simp only [Act.put, List.setIfInBounds_toArray, List.set_cons_zero, List.set_cons_succ])
  refine reg_take 23 (v := ?_) rfl (by kernel_rfl) (fun _ _ _ h => h) (by rfl) hH ?_ ?_
  rotate_left
  · intro w hSw; (try dsimp only at hSw); go_simp; (try with_reducible rfl)
  (try simp only [Act.put, List.setIfInBounds_toArray, List.set_cons_zero, List.set_cons_succ])
  refine wpAnyH_ready (rs := [3]) (by kernel_rfl) (by simp) ?_
  refine reg_cons _ rfl (fun K' hK => ?_) AllReadyH.nil
  go_simp
  go_at_call 45
  refine K1.out.mono ?_
  rintro e w3 ⟨v3, rfl, ho3, hb3'⟩
  obtain ⟨A3, c3, rfl, hl3, _⟩ := Ow.form7 ho3 nm.length (by simp)
  have hb3 := hbd.trans hb3'
  (try dsimp only)
  refine hK.out _ _ (VX.out.below hb3 VX.out.lt).c9 (fun hH => ?_)
  (try simp only [Act.put, List.setIfInBounds_toArray, List.set_cons_zero, List.set_cons_succ])
  clear hK
  refine reg_take 10 (v := ?_) rfl (by kernel_rfl) (fun _ _ _ h => h) (by rfl) hH ?_ ?_
  rotate_left
  · intro w hSw; (try dsimp only at hSw); go_simp; (try with_reducible rfl)
  (try simp only [Act.put, List.setIfInBounds_toArray, List.set_cons_zero, List.set_cons_succ])
  refine wpAnyH_ready (rs := [15]) (by kernel_rfl) (by simp) ?_
  refine reg_cons _ rfl (fun K' hK => ?_) AllReadyH.nil
  go_simp
  go_at_call 7
  refine (bclone_at dA dc d.length d w3 w3.heap.size rfl (Nat.le_refl _) (((HD.out.1.below hb).below (hb3.mono hb.size)).more (Nat.le_trans hb.size hb3.size)) (by have := HD.out.2.2; omega)).mono ?_
  rintro e w4 ⟨v4, rfl, ho4, hb4'⟩
  obtain ⟨A4, c4, rfl, hl4, _⟩ := Ow.form7 ho4 d.length (by simp)
  have hb4 := hb3.trans (hb4'.mono hb3.size)
  (try dsimp only)
  refine hK.out _ _ (VX.out.below hb4 VX.out.lt).c9 (fun hH => ?_)
  (try simp only [Act.put, List.setIfInBounds_toArray, List.set_cons_zero, List.set_cons_succ])
  clear hK
  refine wpAnyH_ready (rs := [24]) (by kernel_rfl) (by simp) ?_
  refine reg_cons _ rfl (fun K' hK => ?_) AllReadyH.nil
  go_simp
  go_at_call 45
  refine (sclone_at w4 tA tc tg.length tg rfl (((HT.out.1.below hb).below (hb4.mono hb.size)).more (Nat.le_trans hb.size hb4.size)) (by omega)).mono ?_
  rintro e w5 ⟨v5, rfl, ho5, hb5'⟩
  obtain ⟨A5, c5, rfl, hl5, _⟩ := Ow.form7 ho5 tg.length (by simp)
  have hb5 := hb4.trans (hb5'.mono hb4.size)
  (try dsimp only)
  refine hK.out _ _ (VX.out.below hb5 VX.out.lt).c9 (fun hH => ?_)
  (try simp only [Act.put, List.setIfInBounds_toArray, List.set_cons_zero, List.set_cons_succ])
  clear hK
  refine reg_take 25 (v := ?_) rfl (by kernel_rfl) (fun _ _ _ h => h) (by rfl) hH ?_ ?_
  rotate_left
  · intro w hSw; (try dsimp only at hSw); go_simp; (try with_reducible rfl)
  (try simp only [Act.put, List.setIfInBounds_toArray, List.set_cons_zero, List.set_cons_succ])
  have vr := VR.out.below hb5 VR.out.lt
  have hlR := VX.out.lt
  refine wpAnyH_ready (rs := [26]) (by kernel_rfl) (by simp) ?_
  refine reg_cons _ rfl (fun K' hK => ?_) AllReadyH.nil
  rw [if_pos (by rfl)]
  refine wp_store_row 74 _ _ (by rfl) R #[.slice A3 nm.length c3, .int .u16 (ty : Int), .int .u16 (cl : Int), .int .u32 (ttl : Int), .slice A4 d.length c4, .int .u16 (pr : Int), .int .u16 (we : Int), .int .u16 (po : Int), .slice A5 tg.length c5] (by rfl) (by rfl) _ _ vr (by kernel_rfl) rfl (by kernel_rfl) ?_
  have hO : Only w5 (w5.setRow R #[.slice A3 nm.length c3, .int .u16 (ty : Int), .int .u16 (cl : Int), .int .u32 (ttl : Int), .slice A4 d.length c4, .int .u16 (pr : Int), .int .u16 (we : Int), .int .u16 (po : Int), .slice A5 tg.length c5]) R := Only.row _ _ _
  have hV9 : Vx (w5.setRow R #[.slice A3 nm.length c3, .int .u16 (ty : Int), .int .u16 (cl : Int), .int .u32 (ttl : Int), .slice A4 d.length c4, .int .u16 (pr : Int), .int .u16 (we : Int), .int .u16 (po : Int), .slice A5 tg.length c5]) R 74 (RR.cells ⟨A3, c3, A4, c4, A5, c5, ⟨⟨nm, ty, cl⟩, ttl, d, pr, we, po, tg⟩⟩) := vr.row (RR.cells ⟨A3, c3, A4, c4, A5, c5, ⟨⟨nm, ty, cl⟩, ttl, d, pr, we, po, tg⟩⟩)
  refine hK.out _ _ (((VX.out.below hb5 VX.out.lt).rowO (by omega) _).c9) (fun hH => ?_)
  clear hK
  refine wpAnyH_done (by kernel_rfl) ?_ _
  go_wp2_with fail
  refine bodyPost_ret (resR1f Try.results27 _ _ R _ _ rfl hV9 rfl) rfl ?_
  have hle : w.heap.size ≤ W2.heap.size := hb.size
  have hle3 : w.heap.size ≤ w3.heap.size := by have := hb3.size; omega
  have hle4 : w.heap.size ≤ w4.heap.size := by have := hb4.size; omega
  have hn3 : (nmO A3 c3 nm).ok w3 W2.heap.size := ho3
  have hn4 : (daO A4 c4 d).ok w4 w3.heap.size := ho4
  have hn5 : (nmO A5 c5 tg).ok w5 w4.heap.size := ho5
  have h3 : (nmO A3 c3 nm).ok w5 W2.heap.size := (hn3.far hb4').far hb5'
  have h4 : (daO A4 c4 d).ok w5 w3.heap.size := hn4.far hb5'
  exact ⟨⟨A3, c3, A4, c4, A5, c5, ⟨⟨nm, ty, cl⟩, ttl, d, pr, we, po, tg⟩⟩, rfl, rfl, OwM.mono (h3.only hO hlt2) hle, OwM.mono (h4.only hO (by have := hb3.size; omega)) hle3, OwM.mono (hn5.only hO (by have := hb4.size; omega)) hle4, (hb.trans (hb5.mono hb.size)).trans (hO.below (by omega) (by have := hb5.size; omega))⟩
/-- where the turning stands: the argument's block, the result's, the message's -/
structure Tf (w0 w : World) (R M base : Nat) (bx mc : List Value) : Prop where
  vb : Vx w w0.heap.size 28 bx
  vr : Vx w R 60 zM6
  vm : Vx w M 60 mc
  bl : Below w0.heap.size w0 w
  lo : w0.heap.size < R ∧ R < M
  hi : M < base ∧ base ≤ w.heap.size
section
variable {w0 w w' : World} {R M base : Nat} {bx mc : List Value}
theorem Tf.far (h : Tf w0 w R M base bx mc) (hb : Below w.heap.size w w') : Tf w0 w' R M base bx mc :=
  ⟨h.vb.below hb h.vb.lt, h.vr.below hb h.vr.lt, h.vm.below hb h.vm.lt, h.bl.trans (hb.mono h.bl.size), h.lo, ⟨h.hi.1, Nat.le_trans h.hi.2 hb.size⟩⟩
theorem Tf.gr {v v' : Value} (h : Tf w0 w R M base bx mc) (hg : Gr w w' v v') (hv : ∀ q, v.ownBlock = some q → base ≤ q) : Tf w0 w' R M base bx mc := by
  have hl := h.lo
  have hh := h.hi
  have hb : Below base w w' := hg.below hv hh.2
  exact ⟨h.vb.below hb (by omega), h.vr.below hb (by omega), h.vm.below hb hh.1, h.bl.trans (hb.mono (by omega)), hl, ⟨hh.1, Nat.le_trans hh.2 hb.size⟩⟩
theorem Tf.setM (h : Tf w0 w R M base bx mc) (k : Nat) (u : Value) : Tf w0 (w.setCell ⟨M, k, none⟩ u) R M base bx (mc.set k u) := by
  have hl := h.lo
  have hh := h.hi
  exact ⟨h.vb.setO (by omega) _ _, h.vr.setO (by omega) _ _, h.vm.set_ k u, h.bl.setCell (by show w0.heap.size ≤ M; omega) u, hl, ⟨hh.1, by simpa using hh.2⟩⟩
theorem Tf.setS {k : Nat} {u v : Value} (h : Tf w0 w R M base bx (mc.set k u)) : Tf w0 (w.setCell ⟨M, k, none⟩ v) R M base bx (mc.set k v) := by
  have := h.setM k v
  rwa [set_set_same] at this
end
/-- a question more that is held -/
theorem Held.qF {wr w3 w4 w5 : World} {M k : Nat} {l3 : List QR} {x : QR} {v v5 u : Value} {n : Nat} {c : Nat} {xs : List Value} {B : Nat}
    (HH : Held wr (M + 1) (DQ l3) v) (hO3 : OwM wr (M + 1) c 3 v n xs) (hb3 : Below wr.heap.size wr w3) (hB : wr.heap.size ≤ B) (hw3 : (nmO x.A x.c x.q.nm).ok w3 B) (hb4 : Below w3.heap.size w3 w4) (hle : M + 1 ≤ wr.heap.size) (hg : Gr w4 w5 v v5) : Held (w5.setCell ⟨M, k, none⟩ u) (M + 1) (DQ (l3 ++ [x])) v5 := by
  have h1 := (HH.far hb3).add (nmO x.A x.c x.q.nm) (OwM.mono hw3 (by omega)) (ne_new hO3 hw3 hB)
  have h4 := ((h1.far hb4).gr hg).setL (show M < M + 1 by omega) k u
  refine h4.mono fun o ho => ?_
  obtain ⟨y, hy, e⟩ := ho
  rcases List.mem_append.1 hy with hy | hy
  · exact Or.inr ⟨y, hy, e⟩
  · simp at hy
    subst hy
    exact Or.inl e
/-- a record more that is held -/
theorem Held.rF {wr w3 w4 w5 : World} {M k : Nat} {D : Ob → Prop} {l3 : List RR} {x : RR} {v v5 u : Value} {n : Nat} {c : Nat} {xs : List Value} {B : Nat}
    (HH : Held wr (M + 1) (fun o => D o ∨ DR l3 o) v) (hO3 : OwM wr (M + 1) c 9 v n xs) (hb3 : Below wr.heap.size wr w3) (hB : wr.heap.size ≤ B) (hn : (nmO x.A x.c x.r.q.nm).ok w3 B) (hd : (daO x.dA x.dc x.r.d).ok w3 B) (ht : (nmO x.tA x.tc x.r.tg).ok w3 B) (hb4 : Below w3.heap.size w3 w4) (hle : M + 1 ≤ wr.heap.size) (hg : Gr w4 w5 v v5) : Held (w5.setCell ⟨M, k, none⟩ u) (M + 1) (fun o => D o ∨ DR (l3 ++ [x]) o) v5 := by
  have h0 := HH.far hb3
  have h1 := h0.add (nmO x.A x.c x.r.q.nm) (OwM.mono hn (by omega)) (ne_new hO3 hn (by omega))
  have h2 := h1.add (daO x.dA x.dc x.r.d) (OwM.mono hd (by omega)) (ne_new hO3 hd (by omega))
  have h3 := h2.add (nmO x.tA x.tc x.r.tg) (OwM.mono ht (by omega)) (ne_new hO3 ht (by omega))
  have h4 := ((h3.far hb4).gr hg).setL (show M < M + 1 by omega) k u
  refine h4.mono fun o ho => ?_
  rcases ho with ho | ⟨y, hy, e⟩
  · exact Or.inr (Or.inr (Or.inr (Or.inl ho)))
  · rcases List.mem_append.1 hy with hy | hy
    · exact Or.inr (Or.inr (Or.inr (Or.inr ⟨y, hy, e⟩)))
    · simp at hy
      subst hy
      rcases e with e | e | e
      · exact Or.inr (Or.inr (Or.inl e))
      · exact Or.inr (Or.inl e)
      · exact Or.inl e
theorem take_map_snoc {α β : Type} (f : α → β) (l : List α) (k : Nat) (h : k < l.length) : (l.take (k + 1)).map f = (l.take k).map f ++ [f l[k]] := by
  rw [List.take_add_one, List.map_append, List.getElem?_eq_getElem h]; rfl
/-- names that can be copied -/
def Cpy (x : MR) : Prop := (∀ q ∈ x.qs, q.q.nm.length * 16 ≤ 140737488351232) ∧ ∀ i, ∀ r ∈ x.rl i, r.r.q.nm.length * 16 ≤ 140737488351232 ∧ r.r.tg.length * 16 ≤ 140737488351232
set_option maxRecDepth 100000 in
set_option maxHeartbeats 16000000 in
theorem turned_at (x : MR) (w : World) (h : MRd w w.heap.size x) (hs : Cpy x) :
    Calls Try.prog 20 #[.agg x.cells.toArray] w fun e w' => ∃ y : MR, y.m = x.m ∧ e = .returned (.agg y.cells.toArray) ∧ MOwF w' w.heap.size y ∧ Below w.heap.size w w' := by
  obtain ⟨i0, hi, hz0, hz1, hz2⟩ := info_parts Try.infoQf
  obtain ⟨j0, hj', hy0, hy1, hy2⟩ := info_parts Try.infoRf
  obtain ⟨R, hR⟩ : ∃ R, R = w.heap.size + 1 := ⟨_, rfl⟩
  obtain ⟨M, hM⟩ : ∃ M, M = w.heap.size + 2 := ⟨_, rfl⟩
  obtain ⟨n, hn⟩ : ∃ n, n = x.qs.length := ⟨_, rfl⟩
  have HN := Lib.hid hn.symm
  have hnb : n ≤ 1000000000000 := by rw [hn]; exact h.2.2.1.2.2.2.1
  have cx0 : x.cells[0]? = some (.int .u16 (x.id : Int)) := rfl
  have cx1 : x.cells[1]? = some (.int .u16 (x.fl : Int)) := rfl
  have cx2 : x.cells[2]? = some (.slice x.qA n x.qc) := by rw [hn]; rfl
  have HX := Lib.hid h
  have HC := Lib.hid hs
  clear h hs hn
  go_enter Try.func20, Try.ntmps20
  go_wp2_with fail
  have hT0 : Tf w (((w.alloc (.cells x.cells.toArray 28)).alloc (.cells #[.int .u16 0, .int .u16 0, .slice none 0 0, .slice none 0 0, .slice none 0 0, .slice none 0 0] 60)).alloc (.cells #[.int .u16 (x.id : Int), .int .u16 (x.fl : Int), .slice none 0 0, .slice none 0 0, .slice none 0 0, .slice none 0 0] 60)) R M (M + 1) x.cells [.int .u16 (x.id : Int), .int .u16 (x.fl : Int), .slice none 0 0, .slice none 0 0, .slice none 0 0, .slice none 0 0] := by
    have v1 := ((Vx.new w 28 x.cells).alloc (.cells #[.int .u16 0, .int .u16 0, .slice none 0 0, .slice none 0 0, .slice none 0 0, .slice none 0 0] 60)).alloc (.cells #[.int .u16 (x.id : Int), .int .u16 (x.fl : Int), .slice none 0 0, .slice none 0 0, .slice none 0 0, .slice none 0 0] 60)
    have v2 := (Vx.new (w.alloc (.cells x.cells.toArray 28)) 60 zM6).alloc (.cells #[.int .u16 (x.id : Int), .int .u16 (x.fl : Int), .slice none 0 0, .slice none 0 0, .slice none 0 0, .slice none 0 0] 60)
    have v3 := Vx.new ((w.alloc (.cells x.cells.toArray 28)).alloc (.cells #[.int .u16 0, .int .u16 0, .slice none 0 0, .slice none 0 0, .slice none 0 0, .slice none 0 0] 60)) 60 [.int .u16 (x.id : Int), .int .u16 (x.fl : Int), .slice none 0 0, .slice none 0 0, .slice none 0 0, .slice none 0 0]
    rw [World.size_alloc, ← hR] at v2
    rw [World.size_alloc, World.size_alloc, show w.heap.size + 1 + 1 = M by omega] at v3
    exact ⟨v1, v2, v3, (below_two w _ _).trans ((below_new _ _).mono (by simp; omega)), ⟨by omega, by omega⟩, ⟨by omega, by simp; omega⟩⟩
  try rw [show w.heap.size + 1 + 1 = M by omega]
  rw [← hR]
  have HT0 := Lib.hid hT0
  clear hT0 hM hR cx0 cx1 cx2
  generalize (((w.alloc (.cells x.cells.toArray 28)).alloc (.cells #[.int .u16 0, .int .u16 0, .slice none 0 0, .slice none 0 0, .slice none 0 0, .slice none 0 0] 60)).alloc (.cells #[.int .u16 (x.id : Int), .int .u16 (x.fl : Int), .slice none 0 0, .slice none 0 0, .slice none 0 0, .slice none 0 0] 60)) = w1 at *
  go_loopw [18] (fun vi wr => ∃ (k : Nat) (l : List QR) (Aq : Option Addr) (cq : Nat), k ≤ n ∧ vi = .int .i64 k ∧ k ≤ cq ∧ Hid (Tf w wr R M (M + 1) x.cells [.int .u16 (x.id : Int), .int .u16 (x.fl : Int), .slice Aq k cq, .slice none 0 0, .slice none 0 0, .slice none 0 0]) ∧ Hid (l.map QR.q = (x.qs.take k).map QR.q) ∧ Hid (OwM wr (M + 1) 70 3 (.slice Aq k cq) k (qcs l)) ∧ Hid (Held wr (M + 1) (DQ l) (.slice Aq k cq))) (fun vi _ => n - (intOf vi).toNat)
  case atStart => exact ⟨0, [], none, 0, Nat.zero_le _, rfl, Nat.le_refl _, HT0, Lib.hid rfl, Lib.hid (OwM.nil _ _ _ _), Lib.hid ((Held.nil _ _ _).mono (fun o ⟨x, hx, _⟩ => by cases hx))⟩
  case round =>
    clear HT0
    obtain ⟨k, l, Aq, cq, hk, rfl, hkc, HT, HL, HO, HH⟩ := hrel
    have hhi := HT.out.hi
    rcases Nat.lt_or_ge k n with hlt | hge
    · have hlx : k < x.qs.length := by have := HN.out; omega
      have hQ1 : QsRd wr w.heap.size x.qA x.qc n x.qs := by rw [← HN.out]; exact HX.out.2.2.1.below HT.out.bl
      obtain ⟨b, o, hA1, hb1, hc⟩ := hQ1.at_ hlt
      obtain ⟨c0, c1, c2⟩ := hc hlx
      have hlen : x.qs[k].q.nm.length * 16 ≤ 140737488351232 := HC.out.1 _ (List.getElem_mem hlx)
      have hP : QRd wr wr.heap.size x.qs[k] := (hQ1.2.2.2.2 _ (List.getElem_mem hlx)).more HT.out.bl.size
      have htk : (x.qs.take (k + 1)).map QR.q = (x.qs.take k).map QR.q ++ [x.qs[k].q] := take_map_snoc QR.q x.qs k hlx
      generalize x.qs[k] = p at *
      rw [hA1]
      have HP := Lib.hid hP
      have HTK := Lib.hid htk
      have hlt' : (k : Int) < (n : Int) := by omega
      have hwr : b < wr.heap.size := by have := HT.out.bl.size; omega
      clear hc hb1 hQ1 hA1 hP htk
      go_upto_region 5 with fail
      have hT1 := HT.out.far (below_new wr (.cells #[.slice p.A p.q.nm.length p.c, .int .u16 (p.q.ty : Int), .int .u16 (p.q.cl : Int)] 38))
      have v5 := Vx.new wr 38 [.slice p.A p.q.nm.length p.c, .int .u16 (p.q.ty : Int), .int .u16 (p.q.cl : Int)]
      have hb12 := below_new wr (.cells #[.slice p.A p.q.nm.length p.c, .int .u16 (p.q.ty : Int), .int .u16 (p.q.cl : Int)] 38)
      obtain ⟨T, hT⟩ : ∃ T, T = wr.heap.size := ⟨_, rfl⟩
      rw [← hT] at v5
      rw [← hT]
      have HTE := Lib.hid hT
      generalize wr.alloc (.cells #[.slice p.A p.q.nm.length p.c, .int .u16 (p.q.ty : Int), .int .u16 (p.q.cl : Int)] 38) = w2 at *
      have HT1 := Lib.hid hT1
      have V5 := Lib.hid v5
      have HB12 := Lib.hid hb12
      have K1 := Lib.hid (sclone_at w2.drew p.A p.c p.q.nm.length p.q.nm rfl ((HP.out.1.1.below hb12).more hb12.size) (by omega))
      obtain ⟨q0, q1, q2⟩ := v5.c3
      have hMT : M < T := by omega
      clear hT1 v5 hb12 hT
      refine wp_region_held_drew (S := fun w' => w'.cell? ⟨T, 0, none⟩ = some (.slice p.A p.q.nm.length p.c) ∧ w'.cell? ⟨T, 1, none⟩ = some (.int .u16 (p.q.ty : Int)) ∧ w'.cell? ⟨T, 2, none⟩ = some (.int .u16 (p.q.cl : Int))) (by kernel_rfl) ⟨q0, q1, q2⟩ (fun hH => ?_)
      refine reg_take 0 (v := ?_) rfl (by kernel_rfl) (fun _ _ _ h => h) (by rfl) hH ?_ ?_
      rotate_left
      · intro w hSw; (try dsimp only at hSw); go_simp; (try with_reducible rfl)
      (try simp only [Act.put, List.setIfInBounds_toArray, List.set_cons_zero, List.set_cons_succ])
      refine reg_take 2 (v := ?_) rfl (by kernel_rfl) (fun _ _ _ h => h) (by rfl) hH ?_ ?_
      rotate_left
      · intro w hSw; (try dsimp only at hSw); go_simp; (try with_reducible rfl)
      (try simp only [Act.put, List.setIfInBounds_toArray, List.set_cons_zero, List.set_cons_succ])
      refine reg_take 3 (v := ?_) rfl (by kernel_rfl) (fun _ _ _ h => h) (by rfl) hH ?_ ?_
      rotate_left
      · intro w hSw; (try dsimp only at hSw); go_simp; (try with_reducible rfl)
      (try simp only [Act.put, List.setIfInBounds_toArray, List.set_cons_zero, List.set_cons_succ])
      refine reg_take 5 (v := ?_) rfl (by kernel_rfl) (fun _ _ _ h => h) (by rfl) hH ?_ ?_
      rotate_left
      · intro w hSw; (try dsimp only at hSw); go_simp; (try with_reducible rfl)
      (try simp only [Act.put, List.setIfInBounds_toArray, List.set_cons_zero, List.set_cons_succ])
      refine reg_take 6 (v := ?_) rfl (by kernel_rfl) (fun _ _ _ h => h) (by rfl) hH ?_ ?_
      rotate_left
      · intro w hSw; (try dsimp only at hSw); go_simp; (try with_reducible rfl)
      (try simp only [Act.put, List.setIfInBounds_toArray, List.set_cons_zero, List.set_cons_succ])
      refine reg_take 7 (v := ?_) rfl (by kernel_rfl) (fun _ _ _ h => h) (by rfl) hH ?_ ?_
      rotate_left
      · intro w hSw; (try dsimp only at hSw); go_simp; (try with_reducible rfl)
      (try simp only [Act.put, List.setIfInBounds_toArray, List.set_cons_zero, List.set_cons_succ])
      refine reg_take 8 (v := ?_) rfl (by kernel_rfl) (fun _ _ _ h => h) (by rfl) hH ?_ ?_
      rotate_left
      · intro w hSw; (try dsimp only at hSw); go_simp; (try with_reducible rfl)
      (try simp only [Act.put, List.setIfInBounds_toArray, List.set_cons_zero, List.set_cons_succ])
      refine wpAnyH_ready (rs := [1, 4]) (by kernel_rfl) (by simp) ?_
      refine reg_cons _ rfl (fun K' hK => ?_) (reg_cons _ rfl (fun K' hK => ?_) AllReadyH.nil)
      · have m2 := HT1.out.vm.cell 2
        go_simp
        refine hK.out _ _ V5.out.c3 (fun hH => ?_)
        (try simp only [Act.put, List.setIfInBounds_toArray, List.set_cons_zero, List.set_cons_succ])
        clear hK m2
        refine wpAnyH_ready (rs := [4]) (by kernel_rfl) (by simp) ?_
        refine reg_cons _ rfl (fun K' hK => ?_) AllReadyH.nil
        go_simp
        go_at_call 45
        refine K1.out.mono ?_
        rintro e w3 ⟨v3, rfl, ho3, hb3'⟩
        obtain ⟨A3, c3, rfl, hl3, _⟩ := Ow.form7 ho3 p.q.nm.length (by simp)
        have hb3 : Below w2.heap.size w2 w3 := (Below.refl w2.heap.size w2).drew.trans hb3'
        have hn3 : (nmO A3 c3 p.q.nm).ok w3 w2.heap.size := ho3
        have HT3 := Lib.hid (HT1.out.far hb3)
        have V53 := Lib.hid (V5.out.below hb3 V5.out.lt)
        (try dsimp only)
        refine hK.out _ _ V53.out.c3 (fun hH => ?_)
        (try simp only [Act.put, List.setIfInBounds_toArray, List.set_cons_zero, List.set_cons_succ])
        clear hK
        refine reg_take 9 (v := ?_) rfl (by kernel_rfl) (fun _ _ _ h => h) (by rfl) hH ?_ ?_
        rotate_left
        · intro w hSw; (try dsimp only at hSw); go_simp; (try with_reducible rfl)
        (try simp only [Act.put, List.setIfInBounds_toArray, List.set_cons_zero, List.set_cons_succ])
        refine wpAnyH_ready (rs := [10]) (by kernel_rfl) (by simp) ?_
        refine reg_cons _ rfl (fun K' hK => ?_) AllReadyH.nil
        go_simp
        have hb4 := below_new w3 (.cells #[.slice A3 p.q.nm.length c3, .int .u16 (p.q.ty : Int), .int .u16 (p.q.cl : Int)] 70)
        refine hK.out _ _ (V53.out.below hb4 V53.out.lt).c3 (fun hH => ?_)
        (try simp only [Act.put, List.setIfInBounds_toArray, List.set_cons_zero, List.set_cons_succ])
        clear hK
        have hbase : M + 1 ≤ w3.heap.size := HT3.out.hi.2
        refine wpAnyH_ready (rs := [11]) (by kernel_rfl) (by simp) ?_
        refine reg_cons _ rfl (fun K' hK => ?_) AllReadyH.nil
        refine step_appM rfl _ _ _ _ rfl (M + 1) 3 70 i0 _ 32 Try.underlying56 hi hz0 hz1 hz2 rfl (by omega) (.slice Aq k cq) k (qcs l) ((((HO.out.far HB12.out).far hb3).alloc _)) rfl (.slice (some ⟨w3.heap.size, 0, none⟩) 1 1) rfl 1 (QR.cells ⟨A3, c3, p.q⟩) (litM_src Try.underlying56 _ 3 _ 1 rfl (qcells_one ⟨A3, c3, p.q⟩)) (by omega) (by simp; omega) ?_
        intro v6 w6 hown6 hgr6 hsz6
        obtain ⟨A6, c6, rfl, hc6, _, _⟩ := hown6.form
        have HT6 := Lib.hid ((HT3.out.far hb4).gr hgr6 (OwM.lt HO.out))
        have V56 := Lib.hid ((V53.out.below hb4 V53.out.lt).grown hgr6.1 (fun e => by have := OwM.block_lt HO.out T e.symm; have := HTE.out; omega))
        refine hK.out _ _ V56.out.c3 (fun hH => ?_)
        (try simp only [Act.put, List.setIfInBounds_toArray, List.set_cons_zero, List.set_cons_succ])
        clear hK
        refine reg_take 12 (v := ?_) rfl (by kernel_rfl) (fun _ _ _ h => h) (by rfl) hH ?_ ?_
        rotate_left
        · intro w hSw; (try dsimp only at hSw); go_simp; (try with_reducible rfl)
        (try simp only [Act.put, List.setIfInBounds_toArray, List.set_cons_zero, List.set_cons_succ])
        have m6 := HT6.out.vm.cell 2
        have f6 := HT6.out.vm.free 2
        refine wpAnyH_ready (rs := [13]) (by kernel_rfl) (by simp) ?_
        refine reg_cons _ rfl (fun K' hK => ?_) AllReadyH.nil
        go_simp
        have HT7 := Lib.hid (HT6.out.setM 2 (.slice A6 (k + 1) c6))
        refine hK.out _ _ (V56.out.setO (by omega) _ _).c3 (fun hH => ?_)
        clear hK
        refine wpAnyH_done (by kernel_rfl) ?_ _
        clear hH m6 f6
        go_wp2_with fail
        go_roundw
        case rel =>
          refine ⟨k + 1, l ++ [⟨A3, c3, p.q⟩], A6, c6, by omega, by go_num, hc6, HT7, Lib.hid ?_, Lib.hid ?_, Lib.hid (Held.qF HH.out HO.out (HB12.out.trans (hb3.mono HB12.out.size)) HB12.out.size hn3 hb4 hhi.2 hgr6)⟩
          · rw [HTK.out, List.map_append, HL.out]; rfl
          · rw [qcs_snoc]
            exact OwM.setL hown6 (by omega) _ _
        case measure => simp [intOf]; omega
      · go_simp
        go_at_call 45
        refine K1.out.mono ?_
        rintro e w3 ⟨v3, rfl, ho3, hb3'⟩
        obtain ⟨A3, c3, rfl, hl3, _⟩ := Ow.form7 ho3 p.q.nm.length (by simp)
        have hb3 : Below w2.heap.size w2 w3 := (Below.refl w2.heap.size w2).drew.trans hb3'
        have hn3 : (nmO A3 c3 p.q.nm).ok w3 w2.heap.size := ho3
        have HT3 := Lib.hid (HT1.out.far hb3)
        have V53 := Lib.hid (V5.out.below hb3 V5.out.lt)
        (try dsimp only)
        refine hK.out _ _ V53.out.c3 (fun hH => ?_)
        (try simp only [Act.put, List.setIfInBounds_toArray, List.set_cons_zero, List.set_cons_succ])
        clear hK
        refine reg_take 9 (v := ?_) rfl (by kernel_rfl) (fun _ _ _ h => h) (by rfl) hH ?_ ?_
        rotate_left
        · intro w hSw; (try dsimp only at hSw); go_simp; (try with_reducible rfl)
        (try simp only [Act.put, List.setIfInBounds_toArray, List.set_cons_zero, List.set_cons_succ])
        refine wpAnyH_ready (rs := [1, 10]) (by kernel_rfl) (by simp) ?_
        refine reg_cons _ rfl (fun K' hK => ?_) (reg_cons _ rfl (fun K' hK => ?_) AllReadyH.nil)
        · have m2 := HT3.out.vm.cell 2
          go_simp
          refine hK.out _ _ V53.out.c3 (fun hH => ?_)
          (try simp only [Act.put, List.setIfInBounds_toArray, List.set_cons_zero, List.set_cons_succ])
          clear hK m2
          refine wpAnyH_ready (rs := [10]) (by kernel_rfl) (by simp) ?_
          refine reg_cons _ rfl (fun K' hK => ?_) AllReadyH.nil
          go_simp
          have hb4 := below_new w3 (.cells #[.slice A3 p.q.nm.length c3, .int .u16 (p.q.ty : Int), .int .u16 (p.q.cl : Int)] 70)
          refine hK.out _ _ (V53.out.below hb4 V53.out.lt).c3 (fun hH => ?_)
          (try simp only [Act.put, List.setIfInBounds_toArray, List.set_cons_zero, List.set_cons_succ])
          clear hK
          have hbase : M + 1 ≤ w3.heap.size := HT3.out.hi.2
          refine wpAnyH_ready (rs := [11]) (by kernel_rfl) (by simp) ?_
          refine reg_cons _ rfl (fun K' hK => ?_) AllReadyH.nil
          refine step_appM rfl _ _ _ _ rfl (M + 1) 3 70 i0 _ 32 Try.underlying56 hi hz0 hz1 hz2 rfl (by omega) (.slice Aq k cq) k (qcs l) ((((HO.out.far HB12.out).far hb3).alloc _)) rfl (.slice (some ⟨w3.heap.size, 0, none⟩) 1 1) rfl 1 (QR.cells ⟨A3, c3, p.q⟩) (litM_src Try.underlying56 _ 3 _ 1 rfl (qcells_one ⟨A3, c3, p.q⟩)) (by omega) (by simp; omega) ?_
          intro v6 w6 hown6 hgr6 hsz6
          obtain ⟨A6, c6, rfl, hc6, _, _⟩ := hown6.form
          have HT6 := Lib.hid ((HT3.out.far hb4).gr hgr6 (OwM.lt HO.out))
          have V56 := Lib.hid ((V53.out.below hb4 V53.out.lt).grown hgr6.1 (fun e => by have := OwM.block_lt HO.out T e.symm; have := HTE.out; omega))
          refine hK.out _ _ V56.out.c3 (fun hH => ?_)
          (try simp only [Act.put, List.setIfInBounds_toArray, List.set_cons_zero, List.set_cons_succ])
          clear hK
          refine reg_take 12 (v := ?_) rfl (by kernel_rfl) (fun _ _ _ h => h) (by rfl) hH ?_ ?_
          rotate_left
          · intro w hSw; (try dsimp only at hSw); go_simp; (try with_reducible rfl)
          (try simp only [Act.put, List.setIfInBounds_toArray, List.set_cons_zero, List.set_cons_succ])
          have m6 := HT6.out.vm.cell 2
          have f6 := HT6.out.vm.free 2
          refine wpAnyH_ready (rs := [13]) (by kernel_rfl) (by simp) ?_
          refine reg_cons _ rfl (fun K' hK => ?_) AllReadyH.nil
          go_simp
          have HT7 := Lib.hid (HT6.out.setM 2 (.slice A6 (k + 1) c6))
          refine hK.out _ _ (V56.out.setO (by omega) _ _).c3 (fun hH => ?_)
          clear hK
          refine wpAnyH_done (by kernel_rfl) ?_ _
          clear hH m6 f6
          go_wp2_with fail
          go_roundw
          case rel =>
            refine ⟨k + 1, l ++ [⟨A3, c3, p.q⟩], A6, c6, by omega, by go_num, hc6, HT7, Lib.hid ?_, Lib.hid ?_, Lib.hid (Held.qF HH.out HO.out (HB12.out.trans (hb3.mono HB12.out.size)) HB12.out.size hn3 hb4 hhi.2 hgr6)⟩
            · rw [HTK.out, List.map_append, HL.out]; rfl
            · rw [qcs_snoc]
              exact OwM.setL hown6 (by omega) _ _
          case measure => simp [intOf]; omega
        · go_simp
          have hb4 := below_new w3 (.cells #[.slice A3 p.q.nm.length c3, .int .u16 (p.q.ty : Int), .int .u16 (p.q.cl : Int)] 70)
          refine hK.out _ _ (V53.out.below hb4 V53.out.lt).c3 (fun hH => ?_)
          (try simp only [Act.put, List.setIfInBounds_toArray, List.set_cons_zero, List.set_cons_succ])
          clear hK
          refine wpAnyH_ready (rs := [1]) (by kernel_rfl) (by simp) ?_
          refine reg_cons _ rfl (fun K' hK => ?_) AllReadyH.nil
          have m2 := (HT3.out.far hb4).vm.cell 2
          go_simp
          refine hK.out _ _ (V53.out.below hb4 V53.out.lt).c3 (fun hH => ?_)
          (try simp only [Act.put, List.setIfInBounds_toArray, List.set_cons_zero, List.set_cons_succ])
          clear hK m2
          have hbase : M + 1 ≤ w3.heap.size := HT3.out.hi.2
          refine wpAnyH_ready (rs := [11]) (by kernel_rfl) (by simp) ?_
          refine reg_cons _ rfl (fun K' hK => ?_) AllReadyH.nil
          refine step_appM rfl _ _ _ _ rfl (M + 1) 3 70 i0 _ 32 Try.underlying56 hi hz0 hz1 hz2 rfl (by omega) (.slice Aq k cq) k (qcs l) ((((HO.out.far HB12.out).far hb3).alloc _)) rfl (.slice (some ⟨w3.heap.size, 0, none⟩) 1 1) rfl 1 (QR.cells ⟨A3, c3, p.q⟩) (litM_src Try.underlying56 _ 3 _ 1 rfl (qcells_one ⟨A3, c3, p.q⟩)) (by omega) (by simp; omega) ?_
          intro v6 w6 hown6 hgr6 hsz6
          obtain ⟨A6, c6, rfl, hc6, _, _⟩ := hown6.form
          have HT6 := Lib.hid ((HT3.out.far hb4).gr hgr6 (OwM.lt HO.out))
          have V56 := Lib.hid ((V53.out.below hb4 V53.out.lt).grown hgr6.1 (fun e => by have := OwM.block_lt HO.out T e.symm; have := HTE.out; omega))
          refine hK.out _ _ V56.out.c3 (fun hH => ?_)
          (try simp only [Act.put, List.setIfInBounds_toArray, List.set_cons_zero, List.set_cons_succ])
          clear hK
          refine reg_take 12 (v := ?_) rfl (by kernel_rfl) (fun _ _ _ h => h) (by rfl) hH ?_ ?_
          rotate_left
          · intro w hSw; (try dsimp only at hSw); go_simp; (try with_reducible rfl)
          (try simp only [Act.put, List.setIfInBounds_toArray, List.set_cons_zero, List.set_cons_succ])
          have m6 := HT6.out.vm.cell 2
          have f6 := HT6.out.vm.free 2
          refine wpAnyH_ready (rs := [13]) (by kernel_rfl) (by simp) ?_
          refine reg_cons _ rfl (fun K' hK => ?_) AllReadyH.nil
          go_simp
          have HT7 := Lib.hid (HT6.out.setM 2 (.slice A6 (k + 1) c6))
          refine hK.out _ _ (V56.out.setO (by omega) _ _).c3 (fun hH => ?_)
          clear hK
          refine wpAnyH_done (by kernel_rfl) ?_ _
          clear hH m6 f6
          go_wp2_with fail
          go_roundw
          case rel =>
            refine ⟨k + 1, l ++ [⟨A3, c3, p.q⟩], A6, c6, by omega, by go_num, hc6, HT7, Lib.hid ?_, Lib.hid ?_, Lib.hid (Held.qF HH.out HO.out (HB12.out.trans (hb3.mono HB12.out.size)) HB12.out.size hn3 hb4 hhi.2 hgr6)⟩
            · rw [HTK.out, List.map_append, HL.out]; rfl
            · rw [qcs_snoc]
              exact OwM.setL hown6 (by omega) _ _
          case measure => simp [intOf]; omega
    · have hkn : k = n := by omega
      subst hkn
      have hlq : l.length = k := by
        have := HO.out.len
        rw [qcs_length] at this
        omega
      have hql : l.map QR.q = x.qs.map QR.q := by rw [HL.out, ← HN.out, List.take_length]
      have hD0 := HH.out.fin (rwQf Aq cq l) (show (rwQf Aq cq l).ok wr (M + 1) by
        unfold Ob.ok rwQf
        rw [hlq]
        exact HO.out)
      have HLQ := Lib.hid hlq
      have HQL := Lib.hid hql
      have HD0 := Lib.hid hD0
      have vbx : Vx wr w.heap.size 28 [.int .u16 (x.id : Int), .int .u16 (x.fl : Int), .slice x.qA x.qs.length x.qc, .slice x.aA x.r0.length x.ac, .slice x.bA x.r1.length x.bc, .slice x.cA x.r2.length x.cc] := HT.out.vb
      obtain ⟨a0, a1, a2, a3, a4, a5⟩ := vbx.c6
      clear hlq hql hD0 HH hkc hk hge vbx
      go_wp2_with fail
      go_loopw [38] (fun vi wr => ∃ (i : Nat) (rs : List RW), i ≤ 3 ∧ vi = .int .i64 i ∧ rs.length = i ∧ Hid (Tf w wr R M (M + 1) x.cells (mcs x.id x.fl (.slice Aq k cq) rs)) ∧ Hid (rs.map (fun r => r.l.map RR.r) = (List.range i).map (fun i => (x.rl i).map RR.r)) ∧ Hid (Held wr (M + 1) (fun o => (o = rwQf Aq cq l ∨ DQ l o) ∨ ∃ r ∈ rs, o = rwRf r.A r.c r.l ∨ DR r.l o) (.slice none 0 0))) (fun vi _ => 3 - (intOf vi).toNat)
      case atStart =>
        refine ⟨0, [], by omega, rfl, rfl, HT, Lib.hid rfl, Lib.hid (HD0.out.mono (fun o ho => ?_))⟩
        rcases ho with ho | ⟨r, hr, _⟩
        · exact ho
        · cases hr
      case round =>
        clear HT HD0 a0 a1 a2 a3 a4 a5 hhi HO HL
        obtain ⟨i, rs, hi3, rfl, hrl, HT, HL, HH⟩ := hrel
        rcases Nat.lt_or_ge i 3 with hlt | hge
        · have hidx := fun W => idx3_x x W i hlt
          obtain ⟨cn, hcn⟩ : ∃ cn, cn = (x.rl i).length := ⟨_, rfl⟩
          have hR0 := HX.out.rl i
          have hcb : cn ≤ 1000000000000 := by rw [hcn]; exact hR0.2.2.2.1
          have hi3i : (i : Int) < 3 := by omega
          rw [← hcn] at hidx hR0
          have HCN := Lib.hid hcn.symm
          have HR0 := Lib.hid hR0
          obtain ⟨xA, hxA⟩ : ∃ a, a = x.rA i := ⟨_, rfl⟩
          obtain ⟨xc, hxc⟩ : ∃ a, a = x.rc i := ⟨_, rfl⟩
          rw [← hxA, ← hxc] at hidx
          have HXA := Lib.hid hxA
          have HXC := Lib.hid hxc
          clear hcn hR0 hxA hxc
          go_wp2_with fail
          go_loopw [44] (fun vj wr => ∃ (j : Nat) (l3 : List RR) (Ar : Option Addr) (cr : Nat), j ≤ cn ∧ vj = .int .i64 j ∧ j ≤ cr ∧ Hid (Tf w wr R M (M + 1) x.cells ((mcs x.id x.fl (.slice Aq k cq) rs).set (3 + i) (.slice Ar j cr))) ∧ Hid (l3.map RR.r = ((x.rl i).take j).map RR.r) ∧ Hid (OwM wr (M + 1) 74 9 (.slice Ar j cr) j (rcs l3)) ∧ Hid (Held wr (M + 1) (fun o => ((o = rwQf Aq cq l ∨ DQ l o) ∨ ∃ r ∈ rs, o = rwRf r.A r.c r.l ∨ DR r.l o) ∨ DR l3 o) (.slice Ar j cr))) (fun vj _ => cn - (intOf vj).toNat)
          case atStart =>
            refine ⟨0, [], none, 0, Nat.zero_le _, rfl, Nat.le_refl _, Lib.hid ?_, Lib.hid rfl, Lib.hid (OwM.nil _ _ _ _), Lib.hid (HH.out.mono (fun o ho => ?_))⟩
            · have := mcs_nil x.id x.fl (.slice Aq k cq) rs (by omega)
              rw [hrl] at this
              rw [this]
              exact HT.out
            · rcases ho with ho | ⟨x, hx, _⟩
              · exact ho
              · cases hx
          case round =>
            clear HT HH hidx
            obtain ⟨j, l3, Ar, cr, hj, rfl, hjc, HT, HL3, HO3, HH3⟩ := hrel
            have hhi := HT.out.hi
            rcases Nat.lt_or_ge j cn with hjlt | hjge
            · have hjx : j < (x.rl i).length := by have := HCN.out; omega
              have hR1 : RsRd wr w.heap.size xA xc cn (x.rl i) := by rw [HXA.out, HXC.out]; exact HR0.out.below HT.out.bl
              obtain ⟨b, o, hA1, hb1, hc⟩ := hR1.at_ hjlt
              have hnine := (hc hjx).cells
              have hlen := HC.out.2 i _ (List.getElem_mem hjx)
              have hP : RRd wr wr.heap.size (x.rl i)[j] := (hR1.2.2.2.2 _ (List.getElem_mem hjx)).more HT.out.bl.size
              have htk := take_map_snoc RR.r (x.rl i) j hjx
              generalize (x.rl i)[j] = p at *
              obtain ⟨c0, c1, c2, c3, c4, c5, c6, c7, c8⟩ := hnine
              have HP := Lib.hid hP
              have HLEN := Lib.hid hlen
              have HTK := Lib.hid htk
              have hjlt' : (j : Int) < (cn : Int) := by omega
              have hwr : b < wr.heap.size := by have := HT.out.bl.size; omega
              subst hA1
              clear hc hb1 hR1 hP htk hlen
              go_upto_region 13 with fail
              have hT1 := HT.out.far (below_new wr (.cells #[.slice p.A p.r.q.nm.length p.c, .int .u16 (p.r.q.ty : Int), .int .u16 (p.r.q.cl : Int), .int .u32 (p.r.ttl : Int), .slice p.dA p.r.d.length p.dc, .int .u16 (p.r.pr : Int), .int .u16 (p.r.we : Int), .int .u16 (p.r.po : Int), .slice p.tA p.r.tg.length p.tc] 41))
              have v5 := Vx.new wr 41 [.slice p.A p.r.q.nm.length p.c, .int .u16 (p.r.q.ty : Int), .int .u16 (p.r.q.cl : Int), .int .u32 (p.r.ttl : Int), .slice p.dA p.r.d.length p.dc, .int .u16 (p.r.pr : Int), .int .u16 (p.r.we : Int), .int .u16 (p.r.po : Int), .slice p.tA p.r.tg.length p.tc]
              have hb12 := below_new wr (.cells #[.slice p.A p.r.q.nm.length p.c, .int .u16 (p.r.q.ty : Int), .int .u16 (p.r.q.cl : Int), .int .u32 (p.r.ttl : Int), .slice p.dA p.r.d.length p.dc, .int .u16 (p.r.pr : Int), .int .u16 (p.r.we : Int), .int .u16 (p.r.po : Int), .slice p.tA p.r.tg.length p.tc] 41)
              obtain ⟨T, hT⟩ : ∃ T, T = wr.heap.size := ⟨_, rfl⟩
              rw [← hT] at v5
              rw [← hT]
              have HTE := Lib.hid hT
              generalize wr.alloc (.cells #[.slice p.A p.r.q.nm.length p.c, .int .u16 (p.r.q.ty : Int), .int .u16 (p.r.q.cl : Int), .int .u32 (p.r.ttl : Int), .slice p.dA p.r.d.length p.dc, .int .u16 (p.r.pr : Int), .int .u16 (p.r.we : Int), .int .u16 (p.r.po : Int), .slice p.tA p.r.tg.length p.tc] 41) = w2 at *
              have HT1 := Lib.hid hT1
              have V5 := Lib.hid v5
              have HB12 := Lib.hid hb12
              have K1 := Lib.hid (turnedR_at p w2.drew ((HP.out.below hb12).more hb12.size) HLEN.out.1 HLEN.out.2)
              have hMT : M < T := by omega
              clear hT1 v5 hb12 hT c0 c1 c2 c3 c4 c5 c6 c7 c8
              have hmg := fun v => mcs_get x.id x.fl (.slice Aq k cq) rs (by omega) v
              rw [hrl] at hmg
              have HMG := Lib.hid hmg
              clear hmg
              refine wp_region_held_drew (S := fun w' => Vx w' T 41 [.slice p.A p.r.q.nm.length p.c, .int .u16 (p.r.q.ty : Int), .int .u16 (p.r.q.cl : Int), .int .u32 (p.r.ttl : Int), .slice p.dA p.r.d.length p.dc, .int .u16 (p.r.pr : Int), .int .u16 (p.r.we : Int), .int .u16 (p.r.po : Int), .slice p.tA p.r.tg.length p.tc]) (by kernel_rfl) V5.out (fun hH => ?_)
              refine reg_take 0 (v := ?_) rfl (by kernel_rfl) (fun _ _ _ h => h) (by rfl) hH ?_ ?_
              rotate_left
              · intro w hSw; (try dsimp only at hSw); go_simp; (try with_reducible rfl)
              (try simp only [Act.put, List.setIfInBounds_toArray, List.set_cons_zero, List.set_cons_succ])
              refine reg_take 1 (v := ?_) rfl (by kernel_rfl) (fun _ _ _ h => h) (by rfl) hH ?_ ?_
              rotate_left
              · intro w hSw; (try dsimp only at hSw); go_simp; (try with_reducible rfl)
              (try simp only [Act.put, List.setIfInBounds_toArray, List.set_cons_zero, List.set_cons_succ])
              refine reg_take 2 (v := ?_) rfl (by kernel_rfl) (fun _ _ _ h => h) (by rfl) hH ?_ ?_
              rotate_left
              · intro w hSw; (try dsimp only at hSw); go_simp; (try with_reducible rfl)
              (try simp only [Act.put, List.setIfInBounds_toArray, List.set_cons_zero, List.set_cons_succ])
              refine reg_take 3 (v := ?_) rfl (by kernel_rfl) (fun _ _ _ h => h) (by rfl) hH ?_ ?_
              rotate_left
              · intro w hSw; (try dsimp only at hSw); go_simp; (try with_reducible rfl)
              (try simp only [Act.put, List.setIfInBounds_toArray, List.set_cons_zero, List.set_cons_succ])
              refine reg_load 5 rfl (by kernel_rfl) 41 _ (by rfl) T 41 [.slice p.A p.r.q.nm.length p.c, .int .u16 (p.r.q.ty : Int), .int .u16 (p.r.q.cl : Int), .int .u32 (p.r.ttl : Int), .slice p.dA p.r.d.length p.dc, .int .u16 (p.r.pr : Int), .int .u16 (p.r.we : Int), .int .u16 (p.r.po : Int), .slice p.tA p.r.tg.length p.tc] _ (fun _ _ _ h => h) (by rfl) hH (by rfl) (fun w hS => hS) Try.underlying41 (by rfl) (by kernel_rfl) ?_
              (try simp only [Act.put, List.setIfInBounds_toArray, List.set_cons_zero, List.set_cons_succ])
              refine reg_take 9 (v := ?_) rfl (by kernel_rfl) (fun _ _ _ h => h) (by rfl) hH ?_ ?_
              rotate_left
              · intro w hSw; (try dsimp only at hSw); go_simp; (try with_reducible rfl)
              (try simp only [Act.put, List.setIfInBounds_toArray, List.set_cons_zero, List.set_cons_succ])
              refine wpAnyH_ready (rs := [4, 6]) (by kernel_rfl) (by simp) ?_
              refine reg_cons _ rfl (fun K' hK => ?_) (reg_cons _ rfl (fun K' hK => ?_) AllReadyH.nil)
              · have m2 : w2.cell? ⟨M, 3 + i, none⟩ = some (.slice Ar j cr) := (HT1.out.vm.cell (3 + i)).trans (HMG.out _)
                go_simp
                refine hK.out _ _ V5.out (fun hH => ?_)
                (try simp only [Act.put, List.setIfInBounds_toArray, List.set_cons_zero, List.set_cons_succ])
                clear hK m2
                refine wpAnyH_ready (rs := [6]) (by kernel_rfl) (by simp) ?_
                refine reg_cons _ rfl (fun K' hK => ?_) AllReadyH.nil
                go_simp
                go_at_call 27
                refine K1.out.mono ?_
                rintro e w3 ⟨⟨A3, c3, dA3, dc3, tA3, tc3, r3⟩, hyr, rfl, hn3, hd3, ht3, hb3'⟩
                simp only at hyr
                subst hyr
                unfold RR.cells
                simp only at hn3 hd3 ht3
                dsimp only
                have hb3 : Below w2.heap.size w2 w3 := (Below.refl w2.heap.size w2).drew.trans hb3'
                have HT3 := Lib.hid (HT1.out.far hb3)
                have V53 := Lib.hid (V5.out.below hb3 V5.out.lt)
                refine hK.out _ _ V53.out (fun hH => ?_)
                (try simp only [Act.put, List.setIfInBounds_toArray, List.set_cons_zero, List.set_cons_succ])
                clear hK
                refine wpAnyH_ready (rs := [7]) (by kernel_rfl) (by simp) ?_
                refine reg_cons _ rfl (fun K' hK => ?_) AllReadyH.nil
                go_simp
                have hb4 := below_new w3 (.cells #[.slice A3 p.r.q.nm.length c3, .int .u16 (p.r.q.ty : Int), .int .u16 (p.r.q.cl : Int), .int .u32 (p.r.ttl : Int), .slice dA3 p.r.d.length dc3, .int .u16 (p.r.pr : Int), .int .u16 (p.r.we : Int), .int .u16 (p.r.po : Int), .slice tA3 p.r.tg.length tc3] 74)
                refine hK.out _ _ (V53.out.below hb4 V53.out.lt) (fun hH => ?_)
                (try simp only [Act.put, List.setIfInBounds_toArray, List.set_cons_zero, List.set_cons_succ])
                clear hK
                have hbase : M + 1 ≤ w3.heap.size := HT3.out.hi.2
                refine wpAnyH_ready (rs := [8]) (by kernel_rfl) (by simp) ?_
                refine reg_cons _ rfl (fun K' hK => ?_) AllReadyH.nil
                refine step_appM rfl _ _ _ _ rfl (M + 1) 9 74 j0 _ 96 Try.underlying57 hj' hy0 hy1 hy2 rfl (by omega) (.slice Ar j cr) j (rcs l3) ((((HO3.out.far HB12.out).far hb3).alloc _)) rfl (.slice (some ⟨w3.heap.size, 0, none⟩) 1 1) rfl 1 (RR.cells ⟨A3, c3, dA3, dc3, tA3, tc3, p.r⟩) (litM_src Try.underlying57 _ 9 _ 1 rfl (rcells_one ⟨A3, c3, dA3, dc3, tA3, tc3, p.r⟩)) (by omega) (by simp; omega) ?_
                intro v6 w6 hown6 hgr6 hsz6
                obtain ⟨A6, c6, rfl, hc6, _, _⟩ := hown6.form
                have HT6 := Lib.hid ((HT3.out.far hb4).gr hgr6 (OwM.lt HO3.out))
                have V56 := Lib.hid ((V53.out.below hb4 V53.out.lt).grown hgr6.1 (fun e => by have := OwM.block_lt HO3.out T e.symm; have := HTE.out; omega))
                refine hK.out _ _ V56.out (fun hH => ?_)
                (try simp only [Act.put, List.setIfInBounds_toArray, List.set_cons_zero, List.set_cons_succ])
                clear hK
                refine reg_take 10 (v := ?_) rfl (by kernel_rfl) (fun _ _ _ h => h) (by rfl) hH ?_ ?_
                rotate_left
                · intro w hSw; (try dsimp only at hSw); go_simp; (try with_reducible rfl)
                (try simp only [Act.put, List.setIfInBounds_toArray, List.set_cons_zero, List.set_cons_succ])
                have m6 : w6.cell? ⟨M, 3 + i, none⟩ = some (.slice Ar j cr) := (HT6.out.vm.cell (3 + i)).trans (HMG.out _)
                have f6 := HT6.out.vm.free (3 + i)
                refine wpAnyH_ready (rs := [11]) (by kernel_rfl) (by simp) ?_
                refine reg_cons _ rfl (fun K' hK => ?_) AllReadyH.nil
                go_simp
                refine hK.out _ _ (V56.out.setO (by omega) _ _) (fun hH => ?_)
                clear hK
                refine wpAnyH_done (by kernel_rfl) ?_ _
                clear hH m6 f6
                go_wp2_with fail
                go_roundw
                case rel =>
                  refine ⟨j + 1, l3 ++ [⟨A3, c3, dA3, dc3, tA3, tc3, p.r⟩], A6, c6, by omega, by go_num, hc6, Lib.hid (HT6.out.setS (v := .slice A6 (j + 1) c6)), Lib.hid ?_, Lib.hid ?_, Lib.hid (Held.rF (x := ⟨A3, c3, dA3, dc3, tA3, tc3, p.r⟩) (B := w2.heap.size) HH3.out HO3.out (HB12.out.trans (hb3.mono HB12.out.size)) HB12.out.size hn3 hd3 ht3 hb4 hhi.2 hgr6)⟩
                  · rw [HTK.out, List.map_append, HL3.out]; rfl
                  · rw [rcs_snoc]
                    exact OwM.setL hown6 (by omega) _ _
                case measure => simp [intOf]; omega
              · go_simp
                go_at_call 27
                refine K1.out.mono ?_
                rintro e w3 ⟨⟨A3, c3, dA3, dc3, tA3, tc3, r3⟩, hyr, rfl, hn3, hd3, ht3, hb3'⟩
                simp only at hyr
                subst hyr
                unfold RR.cells
                simp only at hn3 hd3 ht3
                dsimp only
                have hb3 : Below w2.heap.size w2 w3 := (Below.refl w2.heap.size w2).drew.trans hb3'
                have HT3 := Lib.hid (HT1.out.far hb3)
                have V53 := Lib.hid (V5.out.below hb3 V5.out.lt)
                refine hK.out _ _ V53.out (fun hH => ?_)
                (try simp only [Act.put, List.setIfInBounds_toArray, List.set_cons_zero, List.set_cons_succ])
                clear hK
                refine wpAnyH_ready (rs := [4, 7]) (by kernel_rfl) (by simp) ?_
                refine reg_cons _ rfl (fun K' hK => ?_) (reg_cons _ rfl (fun K' hK => ?_) AllReadyH.nil)
                · have m2 : w3.cell? ⟨M, 3 + i, none⟩ = some (.slice Ar j cr) := (HT3.out.vm.cell (3 + i)).trans (HMG.out _)
                  go_simp
                  refine hK.out _ _ V53.out (fun hH => ?_)
                  (try simp only [Act.put, List.setIfInBounds_toArray, List.set_cons_zero, List.set_cons_succ])
                  clear hK m2
                  refine wpAnyH_ready (rs := [7]) (by kernel_rfl) (by simp) ?_
                  refine reg_cons _ rfl (fun K' hK => ?_) AllReadyH.nil
                  go_simp
                  have hb4 := below_new w3 (.cells #[.slice A3 p.r.q.nm.length c3, .int .u16 (p.r.q.ty : Int), .int .u16 (p.r.q.cl : Int), .int .u32 (p.r.ttl : Int), .slice dA3 p.r.d.length dc3, .int .u16 (p.r.pr : Int), .int .u16 (p.r.we : Int), .int .u16 (p.r.po : Int), .slice tA3 p.r.tg.length tc3] 74)
                  refine hK.out _ _ (V53.out.below hb4 V53.out.lt) (fun hH => ?_)
                  (try simp only [Act.put, List.setIfInBounds_toArray, List.set_cons_zero, List.set_cons_succ])
                  clear hK
                  have hbase : M + 1 ≤ w3.heap.size := HT3.out.hi.2
                  refine wpAnyH_ready (rs := [8]) (by kernel_rfl) (by simp) ?_
                  refine reg_cons _ rfl (fun K' hK => ?_) AllReadyH.nil
                  refine step_appM rfl _ _ _ _ rfl (M + 1) 9 74 j0 _ 96 Try.underlying57 hj' hy0 hy1 hy2 rfl (by omega) (.slice Ar j cr) j (rcs l3) ((((HO3.out.far HB12.out).far hb3).alloc _)) rfl (.slice (some ⟨w3.heap.size, 0, none⟩) 1 1) rfl 1 (RR.cells ⟨A3, c3, dA3, dc3, tA3, tc3, p.r⟩) (litM_src Try.underlying57 _ 9 _ 1 rfl (rcells_one ⟨A3, c3, dA3, dc3, tA3, tc3, p.r⟩)) (by omega) (by simp; omega) ?_
                  intro v6 w6 hown6 hgr6 hsz6
                  obtain ⟨A6, c6, rfl, hc6, _, _⟩ := hown6.form
                  have HT6 := Lib.hid ((HT3.out.far hb4).gr hgr6 (OwM.lt HO3.out))
                  have V56 := Lib.hid ((V53.out.below hb4 V53.out.lt).grown hgr6.1 (fun e => by have := OwM.block_lt HO3.out T e.symm; have := HTE.out; omega))
                  refine hK.out _ _ V56.out (fun hH => ?_)
                  (try simp only [Act.put, List.setIfInBounds_toArray, List.set_cons_zero, List.set_cons_succ])
                  clear hK
                  refine reg_take 10 (v := ?_) rfl (by kernel_rfl) (fun _ _ _ h => h) (by rfl) hH ?_ ?_
                  rotate_left
                  · intro w hSw; (try dsimp only at hSw); go_simp; (try with_reducible rfl)
                  (try simp only [Act.put, List.setIfInBounds_toArray, List.set_cons_zero, List.set_cons_succ])
                  have m6 : w6.cell? ⟨M, 3 + i, none⟩ = some (.slice Ar j cr) := (HT6.out.vm.cell (3 + i)).trans (HMG.out _)
                  have f6 := HT6.out.vm.free (3 + i)
                  refine wpAnyH_ready (rs := [11]) (by kernel_rfl) (by simp) ?_
                  refine reg_cons _ rfl (fun K' hK => ?_) AllReadyH.nil
                  go_simp
                  refine hK.out _ _ (V56.out.setO (by omega) _ _) (fun hH => ?_)
                  clear hK
                  refine wpAnyH_done (by kernel_rfl) ?_ _
                  clear hH m6 f6
                  go_wp2_with fail
                  go_roundw
                  case rel =>
                    refine ⟨j + 1, l3 ++ [⟨A3, c3, dA3, dc3, tA3, tc3, p.r⟩], A6, c6, by omega, by go_num, hc6, Lib.hid (HT6.out.setS (v := .slice A6 (j + 1) c6)), Lib.hid ?_, Lib.hid ?_, Lib.hid (Held.rF (x := ⟨A3, c3, dA3, dc3, tA3, tc3, p.r⟩) (B := w2.heap.size) HH3.out HO3.out (HB12.out.trans (hb3.mono HB12.out.size)) HB12.out.size hn3 hd3 ht3 hb4 hhi.2 hgr6)⟩
                    · rw [HTK.out, List.map_append, HL3.out]; rfl
                    · rw [rcs_snoc]
                      exact OwM.setL hown6 (by omega) _ _
                  case measure => simp [intOf]; omega
                · go_simp
                  have hb4 := below_new w3 (.cells #[.slice A3 p.r.q.nm.length c3, .int .u16 (p.r.q.ty : Int), .int .u16 (p.r.q.cl : Int), .int .u32 (p.r.ttl : Int), .slice dA3 p.r.d.length dc3, .int .u16 (p.r.pr : Int), .int .u16 (p.r.we : Int), .int .u16 (p.r.po : Int), .slice tA3 p.r.tg.length tc3] 74)
                  refine hK.out _ _ (V53.out.below hb4 V53.out.lt) (fun hH => ?_)
                  (try simp only [Act.put, List.setIfInBounds_toArray, List.set_cons_zero, List.set_cons_succ])
                  clear hK
                  refine wpAnyH_ready (rs := [4]) (by kernel_rfl) (by simp) ?_
                  refine reg_cons _ rfl (fun K' hK => ?_) AllReadyH.nil
                  have m2 : (w3.alloc (.cells #[.slice A3 p.r.q.nm.length c3, .int .u16 (p.r.q.ty : Int), .int .u16 (p.r.q.cl : Int), .int .u32 (p.r.ttl : Int), .slice dA3 p.r.d.length dc3, .int .u16 (p.r.pr : Int), .int .u16 (p.r.we : Int), .int .u16 (p.r.po : Int), .slice tA3 p.r.tg.length tc3] 74)).cell? ⟨M, 3 + i, none⟩ = some (.slice Ar j cr) := ((HT3.out.far hb4).vm.cell (3 + i)).trans (HMG.out _)
                  go_simp
                  refine hK.out _ _ (V53.out.below hb4 V53.out.lt) (fun hH => ?_)
                  (try simp only [Act.put, List.setIfInBounds_toArray, List.set_cons_zero, List.set_cons_succ])
                  clear hK m2
                  have hbase : M + 1 ≤ w3.heap.size := HT3.out.hi.2
                  refine wpAnyH_ready (rs := [8]) (by kernel_rfl) (by simp) ?_
                  refine reg_cons _ rfl (fun K' hK => ?_) AllReadyH.nil
                  refine step_appM rfl _ _ _ _ rfl (M + 1) 9 74 j0 _ 96 Try.underlying57 hj' hy0 hy1 hy2 rfl (by omega) (.slice Ar j cr) j (rcs l3) ((((HO3.out.far HB12.out).far hb3).alloc _)) rfl (.slice (some ⟨w3.heap.size, 0, none⟩) 1 1) rfl 1 (RR.cells ⟨A3, c3, dA3, dc3, tA3, tc3, p.r⟩) (litM_src Try.underlying57 _ 9 _ 1 rfl (rcells_one ⟨A3, c3, dA3, dc3, tA3, tc3, p.r⟩)) (by omega) (by simp; omega) ?_
                  intro v6 w6 hown6 hgr6 hsz6
                  obtain ⟨A6, c6, rfl, hc6, _, _⟩ := hown6.form
                  have HT6 := Lib.hid ((HT3.out.far hb4).gr hgr6 (OwM.lt HO3.out))
                  have V56 := Lib.hid ((V53.out.below hb4 V53.out.lt).grown hgr6.1 (fun e => by have := OwM.block_lt HO3.out T e.symm; have := HTE.out; omega))
                  refine hK.out _ _ V56.out (fun hH => ?_)
                  (try simp only [Act.put, List.setIfInBounds_toArray, List.set_cons_zero, List.set_cons_succ])
                  clear hK
                  refine reg_take 10 (v := ?_) rfl (by kernel_rfl) (fun _ _ _ h => h) (by rfl) hH ?_ ?_
                  rotate_left
                  · intro w hSw; (try dsimp only at hSw); go_simp; (try with_reducible rfl)
                  (try simp only [Act.put, List.setIfInBounds_toArray, List.set_cons_zero, List.set_cons_succ])
                  have m6 : w6.cell? ⟨M, 3 + i, none⟩ = some (.slice Ar j cr) := (HT6.out.vm.cell (3 + i)).trans (HMG.out _)
                  have f6 := HT6.out.vm.free (3 + i)
                  refine wpAnyH_ready (rs := [11]) (by kernel_rfl) (by simp) ?_
                  refine reg_cons _ rfl (fun K' hK => ?_) AllReadyH.nil
                  go_simp
                  refine hK.out _ _ (V56.out.setO (by omega) _ _) (fun hH => ?_)
                  clear hK
                  refine wpAnyH_done (by kernel_rfl) ?_ _
                  clear hH m6 f6
                  go_wp2_with fail
                  go_roundw
                  case rel =>
                    refine ⟨j + 1, l3 ++ [⟨A3, c3, dA3, dc3, tA3, tc3, p.r⟩], A6, c6, by omega, by go_num, hc6, Lib.hid (HT6.out.setS (v := .slice A6 (j + 1) c6)), Lib.hid ?_, Lib.hid ?_, Lib.hid (Held.rF (x := ⟨A3, c3, dA3, dc3, tA3, tc3, p.r⟩) (B := w2.heap.size) HH3.out HO3.out (HB12.out.trans (hb3.mono HB12.out.size)) HB12.out.size hn3 hd3 ht3 hb4 hhi.2 hgr6)⟩
                    · rw [HTK.out, List.map_append, HL3.out]; rfl
                    · rw [rcs_snoc]
                      exact OwM.setL hown6 (by omega) _ _
                  case measure => simp [intOf]; omega
            · have hjn : j = cn := by omega
              subst hjn
              have hl3 : l3.length = j := by
                have := HO3.out.len
                rw [rcs_length] at this
                omega
              have HL3L := Lib.hid hl3
              have htl : l3.map RR.r = (x.rl i).map RR.r := by rw [HL3.out, ← HCN.out, List.take_length]
              have HTL := Lib.hid htl
              clear hl3 htl
              go_wp2_with fail
              go_roundw
              case rel =>
                refine ⟨i + 1, rs ++ [⟨Ar, cr, l3⟩], by omega, by go_num, by simp [hrl], Lib.hid ?_, Lib.hid ?_, Lib.hid ?_⟩
                · have := mcs_snoc x.id x.fl (.slice Aq k cq) rs (by omega) ⟨Ar, cr, l3⟩
                  unfold RW.v at this
                  simp only at this
                  rw [HL3L.out, hrl] at this
                  rw [← this]
                  exact HT.out
                · rw [List.map_append, HL.out, List.range_succ, List.map_append]
                  simp only [List.map_cons, List.map_nil]
                  rw [HTL.out]
                · refine (HH3.out.fin (rwRf Ar cr l3) (show (rwRf Ar cr l3).ok wr (M + 1) by
                    unfold Ob.ok rwRf
                    rw [HL3L.out]
                    exact HO3.out)).mono fun o ho => ?_
                  rcases ho with ho | ⟨r, hr, e⟩
                  · exact Or.inr (Or.inl (Or.inl ho))
                  · rcases List.mem_append.1 hr with hr | hr
                    · exact Or.inr (Or.inl (Or.inr ⟨r, hr, e⟩))
                    · simp at hr
                      subst hr
                      rcases e with e | e
                      · exact Or.inl e
                      · exact Or.inr (Or.inr e)
              case measure => simp [intOf]; omega
        · have hi3' : i = 3 := by omega
          subst hi3'
          match rs, hrl with
          | [x0, x1, x2], _ =>
            have hMO : ∀ W, Only wr W R → MOwF W w.heap.size ⟨x.id, x.fl, Aq, cq, l, x0.A, x0.c, x0.l, x1.A, x1.c, x1.l, x2.A, x2.c, x2.l⟩ := by
              intro W hW
              have hB : R < M + 1 := by have := HT.out.lo; omega
              have hB2 : w.heap.size ≤ M + 1 := by have := HT.out.lo; omega
              have h1 := HH.out.only hW hB
              have hm : ∀ o, ((o = rwQf Aq cq l ∨ DQ l o) ∨ ∃ r ∈ [x0, x1, x2], o = rwRf r.A r.c r.l ∨ DR r.l o) → o.ok W w.heap.size := fun o ho => OwM.mono (h1.dn o ho) hB2
              exact ⟨hm _ (Or.inl (Or.inl rfl)), hm _ (Or.inr ⟨x0, by simp, Or.inl rfl⟩), hm _ (Or.inr ⟨x1, by simp, Or.inl rfl⟩), hm _ (Or.inr ⟨x2, by simp, Or.inl rfl⟩), fun o ho => hm _ (Or.inl (Or.inr ho)), fun o ho => hm _ (Or.inr ⟨x0, by simp, Or.inr ho⟩), fun o ho => hm _ (Or.inr ⟨x1, by simp, Or.inr ho⟩), fun o ho => hm _ (Or.inr ⟨x2, by simp, Or.inr ho⟩)⟩
            have HMO := Lib.hid hMO
            clear hMO
            have hcs : mcs x.id x.fl (.slice Aq k cq) [x0, x1, x2] = MR.cells ⟨x.id, x.fl, Aq, cq, l, x0.A, x0.c, x0.l, x1.A, x1.c, x1.l, x2.A, x2.c, x2.l⟩ := by
              unfold MR.cells
              simp only
              rw [HLQ.out]; rfl
            have HCS := Lib.hid hcs
            clear hcs
            go_wp2_with (first
              | (refine wpList_store_row rfl 60 _ _ rfl R _ rfl rfl _ _ HT.out.vr (by kernel_rfl) rfl (by kernel_rfl) ?_)
              | (refine wpList_load_row rfl 60 _ rfl M rfl _ _ _ _ HT.out.vm Try.underlying60 rfl (by kernel_rfl) ?_))
            refine bodyPost_ret (resM1f Try.results20 _ _ R _ _ rfl (HT.out.vr.row _) rfl) rfl ?_
            refine ⟨⟨x.id, x.fl, Aq, cq, l, x0.A, x0.c, x0.l, x1.A, x1.c, x1.l, x2.A, x2.c, x2.l⟩, ?_, by rw [HCS.out], HMO.out _ (Only.row _ _ _), HT.out.bl.trans ((Only.row _ _ _).below (by have := HT.out.lo; omega) (by have := HT.out.bl.size; omega))⟩
            have hz := HL.out
            simp only [List.map_cons, List.map_nil, List.range_succ, List.range_zero, List.nil_append, List.cons_append, List.cons.injEq, and_true] at hz
            obtain ⟨z0, z1, z2⟩ := hz
            show (⟨x.id, x.fl, l.map QR.q, x0.l.map RR.r, x1.l.map RR.r, x2.l.map RR.r⟩ : Ms) = _
            rw [HQL.out, z0, z1, z2]; rfl

open Go.RowKit
/-- strings and bytes of blocks from B on were written -/
structure Spo (B : Nat) (w w' : World) : Prop where
  bl : Below B w w'
  st : ∀ (g : Nat) (cs : Array Value), w.heap[g]? = some (Obj.cells cs 9 (0, 0)) → ∃ cs' : Array Value, w'.heap[g]? = some (Obj.cells cs' 9 (0, 0)) ∧ cs'.size = cs.size
  by_ : ∀ (g : Nat) (cs : Array Value), w.heap[g]? = some (Obj.cells cs 5 (0, 0)) → ∃ cs' : Array Value, w'.heap[g]? = some (Obj.cells cs' 5 (0, 0)) ∧ ∀ k : Nat, (∃ z : Nat, z < 256 ∧ cs[k]? = some (.int .u8 (z : Int))) → (∃ z : Nat, z < 256 ∧ cs'[k]? = some (.int .u8 (z : Int)))
  ot : ∀ (g : Nat) (cs : Array Value) (e : TypeId), e ≠ 9 → e ≠ 5 → w.heap[g]? = some (Obj.cells cs e (0, 0)) → w'.heap[g]? = some (Obj.cells cs e (0, 0))
theorem Spo.refl (B : Nat) (w : World) : Spo B w w := ⟨Below.refl _ _, fun g cs h => ⟨cs, h, rfl⟩, fun g cs h => ⟨cs, h, fun _ h => h⟩, fun _ _ _ _ _ h => h⟩
theorem Spo.trans {B : Nat} {a b c : World} (h : Spo B a b) (k : Spo B b c) : Spo B a c := by
  refine ⟨h.bl.trans k.bl, fun g cs hg => ?_, fun g cs hg => ?_, fun g cs e h1 h2 hg => k.ot g cs e h1 h2 (h.ot g cs e h1 h2 hg)⟩
  · obtain ⟨c1, h1, h2⟩ := h.st g cs hg
    obtain ⟨c2, h3, h4⟩ := k.st g c1 h1
    exact ⟨c2, h3, h4.trans h2⟩
  · obtain ⟨c1, h1, h2⟩ := h.by_ g cs hg
    obtain ⟨c2, h3, h4⟩ := k.by_ g c1 h1
    exact ⟨c2, h3, fun j hj => h4 j (h2 j hj)⟩
theorem Spo.of {B : Nat} {w w' : World} (h : Below w.heap.size w w') (hB : B ≤ w.heap.size) : Spo B w w' := by
  have hk : ∀ g o, w.heap[g]? = some o → w'.heap[g]? = some o := fun g o hg => (h.block g (kp_lt hg)).trans hg
  exact ⟨h.mono hB, fun g cs hg => ⟨cs, hk g _ hg, rfl⟩, fun g cs hg => ⟨cs, hk g _ hg, fun _ h => h⟩, fun g cs e _ _ hg => hk g _ hg⟩
theorem Spo.setS {B b k : Nat} {w : World} {cs : Array Value} (h : w.heap[b]? = some (Obj.cells cs 9 (0, 0))) (hb : B ≤ b) (u : Value) : Spo B w (w.setCell ⟨b, k, none⟩ u) := by
  have h1 := heap_setCell_same w b k cs _ u h
  have h2 : ∀ g, g ≠ b → (w.setCell ⟨b, k, none⟩ u).heap[g]? = w.heap[g]? := fun g hg => heap_setCell_other w ⟨b, k, none⟩ g u hg
  refine ⟨(Below.refl B w).setCell hb u, fun g c hg => ?_, fun g c hg => ?_, fun g c e e1 e2 hg => ?_⟩
  · by_cases e : g = b
    · subst e
      rw [h] at hg
      injection hg with hg
      injection hg with hg
      subst hg
      exact ⟨_, h1, by simp⟩
    · exact ⟨c, (h2 g e).trans hg, rfl⟩
  · by_cases e : g = b
    · subst e
      rw [h] at hg
      injection hg with hg
      injection hg with _ hg
      exact absurd hg (by decide)
    · exact ⟨c, (h2 g e).trans hg, fun _ h => h⟩
  · by_cases e0 : g = b
    · subst e0
      rw [h] at hg
      injection hg with hg
      injection hg with _ hg
      exact absurd hg.symm e1
    · exact (h2 g e0).trans hg
theorem Spo.setU {B b k : Nat} {w : World} {cs : Array Value} (h : w.heap[b]? = some (Obj.cells cs 5 (0, 0))) (hb : B ≤ b) (z : Nat) (hz : z < 256) : Spo B w (w.setCell ⟨b, k, none⟩ (.int .u8 (z : Int))) := by
  have h1 := heap_setCell_same w b k cs _ (.int .u8 (z : Int)) h
  have h2 : ∀ g, g ≠ b → (w.setCell ⟨b, k, none⟩ (.int .u8 (z : Int))).heap[g]? = w.heap[g]? := fun g hg => heap_setCell_other w ⟨b, k, none⟩ g _ hg
  refine ⟨(Below.refl B w).setCell hb _, fun g c hg => ?_, fun g c hg => ?_, fun g c e e1 e2 hg => ?_⟩
  · by_cases e : g = b
    · subst e
      rw [h] at hg
      injection hg with hg
      injection hg with _ hg
      exact absurd hg (by decide)
    · exact ⟨c, (h2 g e).trans hg, rfl⟩
  · by_cases e : g = b
    · subst e
      rw [h] at hg
      injection hg with hg
      injection hg with hg
      subst hg
      refine ⟨_, h1, fun j hj => ?_⟩
      obtain ⟨y, hy1, hy2⟩ := hj
      by_cases hjk : k = j
      · subst hjk
        refine ⟨z, hz, ?_⟩
        have hlt : k < cs.size := by
          rcases Nat.lt_or_ge k cs.size with h3 | h3
          · exact h3
          · rw [Array.getElem?_eq_none h3] at hy2; cases hy2
        rw [Array.getElem?_setIfInBounds_self_of_lt hlt]
      · exact ⟨y, hy1, by rw [Array.getElem?_setIfInBounds_ne hjk]; exact hy2⟩
    · exact ⟨c, (h2 g e).trans hg, fun _ h => h⟩
  · by_cases e0 : g = b
    · subst e0
      rw [h] at hg
      injection hg with hg
      injection hg with _ hg
      exact absurd hg.symm e2
    · exact (h2 g e0).trans hg
/-- room for n strings, and n bytes, from block B on -/
def TS (w : World) (B : Nat) (A : Option Addr) (n : Nat) : Prop := 0 < n → ∃ (g : Nat) (cs : Array Value), A = some ⟨g, 0, none⟩ ∧ B ≤ g ∧ w.heap[g]? = some (Obj.cells cs 9 (0, 0)) ∧ n ≤ cs.size
def TU (w : World) (B : Nat) (A : Option Addr) (n : Nat) : Prop := 0 < n → ∃ (g : Nat) (cs : Array Value), A = some ⟨g, 0, none⟩ ∧ B ≤ g ∧ w.heap[g]? = some (Obj.cells cs 5 (0, 0)) ∧ ∀ k, k < n → ∃ z : Nat, z < 256 ∧ cs[k]? = some (.int .u8 (z : Int))
theorem TS.spo {w w' : World} {B n : Nat} {A : Option Addr} (h : TS w B A n) (s : Spo B w w') : TS w' B A n := fun hn => by
  obtain ⟨g, cs, h1, h2, h3, h4⟩ := h hn
  obtain ⟨c2, h5, h6⟩ := s.st g cs h3
  exact ⟨g, c2, h1, h2, h5, by omega⟩
theorem TU.spo {w w' : World} {B n : Nat} {A : Option Addr} (h : TU w B A n) (s : Spo B w w') : TU w' B A n := fun hn => by
  obtain ⟨g, cs, h1, h2, h3, h4⟩ := h hn
  obtain ⟨c2, h5, h6⟩ := s.by_ g cs h3
  exact ⟨g, c2, h1, h2, h5, fun k hk => h6 k (h4 k hk)⟩
theorem TS.of {w : World} {B c : Nat} {A : Option Addr} {n : List (List UInt8)} (h : (nmO A c n).ok w B) : TS w B A n.length := fun hn => by
  obtain ⟨h1, h2 | ⟨g, cap, cur, h3, h4, h5, h6, h7, h8, h9⟩⟩ := h
  · obtain ⟨_, h3⟩ := h2
    simp [nmO] at h3
    subst h3
    cases hn
  · simp only [nmO] at h3 h5 h6 h8
    injection h3 with e1 e2 e3
    exact ⟨g, cur, e1, h4, h5, by omega⟩
theorem TU.of {w : World} {B c : Nat} {A : Option Addr} {d : List UInt8} (h : (daO A c d).ok w B) : TU w B A d.length := fun hn => by
  obtain ⟨h1, h2 | ⟨g, cap, cur, h3, h4, h5, h6, h7, h8, h9⟩⟩ := h
  · obtain ⟨_, h3⟩ := h2
    simp [daO] at h3
    subst h3
    cases hn
  · simp only [daO] at h3 h5 h6 h8 h9
    injection h3 with e1 e2 e3
    refine ⟨g, cur, e1, h4, h5, fun k hk => ⟨d[k].toNat, d[k].toNat_lt, ?_⟩⟩
    have h10 : (cur.toList.take (d.length * 1))[k]? = some (.int .u8 (d[k].toNat : Int)) := by
      rw [bc_length] at h9
      rw [h9]
      simp [bc, hk]
    rw [List.getElem?_take_of_lt (by omega)] at h10
    simpa using h10
theorem OwM.spo {w w' : World} {B base s n : Nat} {e : TypeId} {v : Value} {xs : List Value} (h : OwM w base e s v n xs) (h1 : e ≠ 9) (h2 : e ≠ 5) (k : Spo B w w') : OwM w' base e s v n xs := by
  obtain ⟨a, hb | ⟨g, cap, cur, h3, h4, h5, h6⟩⟩ := h
  · exact ⟨a, Or.inl hb⟩
  · exact ⟨a, Or.inr ⟨g, cap, cur, h3, h4, k.ot g cur e h1 h2 h5, h6⟩⟩
set_option maxRecDepth 100000 in
set_option maxHeartbeats 16000000 in
theorem spoil_at (x : RR) (B : Nat) (w : World) (hB : B ≤ w.heap.size) (hn : TS w B x.A x.r.q.nm.length) (ht : TS w B x.tA x.r.tg.length) (hd : TU w B x.dA x.r.d.length) (l1 : x.r.q.nm.length ≤ 140737488355328) (l2 : x.r.tg.length ≤ 140737488355328) (l3 : x.r.d.length ≤ 140737488355328) :
    Calls Try.prog 21 #[.agg x.cells.toArray] w fun e w' => e = .returned (.tuple #[]) ∧ Spo B w w' := by
  obtain ⟨A, c, dA, dc, tA, tc, ⟨⟨nm, ty, cl⟩, ttl, d, pr, we, po, tg⟩⟩ := x
  simp only at hn ht hd l1 l2 l3
  obtain ⟨w1, hw1⟩ : ∃ w1, w1 = w.alloc (.cells (RR.cells ⟨A, c, dA, dc, tA, tc, ⟨⟨nm, ty, cl⟩, ttl, d, pr, we, po, tg⟩⟩).toArray 41) := ⟨_, rfl⟩
  have hs1 : Spo B w w1 := by rw [hw1]; exact Spo.of (below_new _ _) hB
  have hv1 : w1.heap[w.heap.size]? = some (Obj.cells (RR.cells ⟨A, c, dA, dc, tA, tc, ⟨⟨nm, ty, cl⟩, ttl, d, pr, we, po, tg⟩⟩).toArray 41 (0, 0)) := by rw [hw1]; exact Vx.new w _ _
  obtain ⟨n, hnn⟩ : ∃ n, n = nm.length := ⟨_, rfl⟩
  obtain ⟨t, htt⟩ : ∃ t, t = tg.length := ⟨_, rfl⟩
  obtain ⟨dl, hdl⟩ : ∃ dl, dl = d.length := ⟨_, rfl⟩
  have HVX := Lib.hid (show ∀ W, Spo B w1 W → Vx W w.heap.size 41 [.slice A n c, .int .u16 (ty : Int), .int .u16 (cl : Int), .int .u32 (ttl : Int), .slice dA dl dc, .int .u16 (pr : Int), .int .u16 (we : Int), .int .u16 (po : Int), .slice tA t tc] by
    intro W hW
    have := hW.ot _ _ _ (by decide) (by decide) hv1
    rw [hnn, htt, hdl]
    exact this)
  rw [← hnn] at hn l1
  rw [← htt] at ht l2
  rw [← hdl] at hd l3
  have HN := Lib.hid (hn.spo hs1)
  have HT := Lib.hid (ht.spo hs1)
  have HD := Lib.hid (hd.spo hs1)
  have HS1 := Lib.hid hs1
  have HW1 := Lib.hid hw1
  clear hn ht hd hs1 hv1 hnn htt hdl hw1
  go_enter Try.func21, Try.ntmps21
  go_upto_region 1 with fail
  generalize hW2 : World.alloc w _ = W2
  have eW : W2 = w1 := hW2.symm.trans HW1.out.symm
  clear hW2 HW1
  subst eW
  obtain ⟨a0, a1, a2, a3, a4, a5, a6, a7, a8⟩ := (HVX.out W2 (Spo.refl _ _)).c9
  go_wp2_with fail
  clear a0 a1 a2 a3 a4 a5 a6 a7 a8
  go_loopw [9] (fun vi wr => ∃ k : Nat, k ≤ n ∧ vi = .int .i64 k ∧ Hid (Spo B W2 wr)) (fun vi _ => n - (intOf vi).toNat)
  case atStart => exact ⟨0, Nat.zero_le _, rfl, Lib.hid (Spo.refl _ _)⟩
  case round =>
    obtain ⟨k, hk, rfl, HK⟩ := hrel
    obtain ⟨a0, a1, a2, a3, a4, a5, a6, a7, a8⟩ := (HVX.out wr HK.out).c9
    rcases Nat.lt_or_ge k n with hlt | hge
    · obtain ⟨g, cs, rfl, hgB, hcs, hsz⟩ := (HN.out.spo HK.out) (by omega)
      have m0 : wr.cell? ⟨g, k, none⟩ = some cs[k] := by rw [cell_of_row wr g k cs _ _ hcs, Array.getElem?_eq_getElem]
      have f0 : wr.frozen? ⟨g, k, none⟩ = false := by simp [World.frozen?, hcs]
      have hlt' : (k : Int) < (n : Int) := by omega
      have HCS := Lib.hid hcs
      clear hcs
      go_wp2_with fail
      go_roundw
      case rel => exact ⟨k + 1, by omega, by go_num, Lib.hid (HK.out.trans (Spo.setS HCS.out hgB _))⟩
      case measure => simp [intOf]; omega
    · have hkn : (n : Int) ≤ (k : Int) := by omega
      go_wp2_with fail
      clear a0 a1 a2 a3 a4 a5 a6 a7 a8
      have HK0 := HK
      clear HK
      go_loopw [21] (fun vi wr => ∃ k : Nat, k ≤ t ∧ vi = .int .i64 k ∧ Hid (Spo B W2 wr)) (fun vi _ => t - (intOf vi).toNat)
      case atStart => exact ⟨0, Nat.zero_le _, rfl, HK0⟩
      case round =>
        obtain ⟨k, hk, rfl, HK⟩ := hrel
        obtain ⟨a0, a1, a2, a3, a4, a5, a6, a7, a8⟩ := (HVX.out wr HK.out).c9
        rcases Nat.lt_or_ge k t with hlt | hge
        · obtain ⟨g, cs, rfl, hgB, hcs, hsz⟩ := (HT.out.spo HK.out) (by omega)
          have m0 : wr.cell? ⟨g, k, none⟩ = some cs[k] := by rw [cell_of_row wr g k cs _ _ hcs, Array.getElem?_eq_getElem]
          have f0 : wr.frozen? ⟨g, k, none⟩ = false := by simp [World.frozen?, hcs]
          have hlt' : (k : Int) < (t : Int) := by omega
          have HCS := Lib.hid hcs
          clear hcs
          go_wp2_with fail
          go_roundw
          case rel => exact ⟨k + 1, by omega, by go_num, Lib.hid (HK.out.trans (Spo.setS HCS.out hgB _))⟩
          case measure => simp [intOf]; omega
        · have hkn : (t : Int) ≤ (k : Int) := by omega
          go_wp2_with fail
          clear a0 a1 a2 a3 a4 a5 a6 a7 a8
          have HK1 := HK
          clear HK
          go_loopw [32] (fun vi wr => ∃ k : Nat, k ≤ dl ∧ vi = .int .i64 k ∧ Hid (Spo B W2 wr)) (fun vi _ => dl - (intOf vi).toNat)
          case atStart => exact ⟨0, Nat.zero_le _, rfl, HK1⟩
          case round =>
            obtain ⟨k, hk, rfl, HK⟩ := hrel
            obtain ⟨a0, a1, a2, a3, a4, a5, a6, a7, a8⟩ := (HVX.out wr HK.out).c9
            rcases Nat.lt_or_ge k dl with hlt | hge
            · obtain ⟨g, cs, rfl, hgB, hcs, hsz⟩ := (HD.out.spo HK.out) (by omega)
              obtain ⟨z, hz, hzc⟩ := hsz k hlt
              have m0 : wr.cell? ⟨g, k, none⟩ = some (.int .u8 (z : Int)) := by rw [cell_of_row wr g k cs _ _ hcs, hzc]
              have f0 : wr.frozen? ⟨g, k, none⟩ = false := by simp [World.frozen?, hcs]
              obtain ⟨z2, hz2⟩ : ∃ z2, z2 = (z + 1) % 256 := ⟨_, rfl⟩
              have hz2l : z2 < 256 := by omega
              have kw : IntKind.u8.wrap ((z : Int) + 1) = (z2 : Int) := by rw [IntKind.wrap_u8]; omega
              have hlt' : (k : Int) < (dl : Int) := by omega
              have HCS := Lib.hid hcs
              clear hcs hz2 hzc hsz
              go_wp2_with fail
              go_roundw
              case rel => exact ⟨k + 1, by omega, by go_num, Lib.hid (HK.out.trans (Spo.setU HCS.out hgB z2 hz2l))⟩
              case measure => simp [intOf]; omega
            · have hkn : (dl : Int) ≤ (k : Int) := by omega
              go_wp2_with fail
              exact bodyPost_end (results_none Try.results21 _ _ _) rfl ⟨rfl, HS1.out.trans HK.out⟩
/-- what is read has names that can be copied -/
theorem cpy_of {x : MR} {b : List UInt8} (hx : x.m = (readM b).1) : Cpy x := by
  have hn : ∀ n : List (List UInt8), rightN n = true → n.length * 16 ≤ 140737488351232 := fun n h => by
    have h1 := size_right h
    have h2 := len_le_size n
    omega
  have hR : rightM x.m = true := by
    rw [hx]
    by_cases h0 : (readM b).2 = 0
    · exact (read_ok h0).1
    · rw [read_err h0]; rfl
  obtain ⟨a0, a1, a2, a3⟩ := resW hR
  refine ⟨fun q hq => hn _ (a0 q hq), fun i r hr => ?_⟩
  have hrr : rightR r.r = true := by
    match i, hr with
    | 0, hr => exact a1 r hr
    | 1, hr => exact a2 r hr
    | k + 2, hr => exact a3 r hr
  refine ⟨hn _ (rightR_nm hrr), ?_⟩
  have hn2 := rightR_nm hrr
  unfold rightR at hrr
  rw [if_pos hn2] at hrr
  split at hrr
  · split at hrr
    · exact hn _ hrr
    · cases hrr
  · have := (of_decide_eq_true hrr).2.2.2.2
    omega
theorem rows_of {w w' : World} {B : Nat} {x : MR} (h : MOw w B x) (hb : Below w.heap.size w w') (i : Nat) (hi : i < 3) : (rwR (x.rA i) (x.rc i) (x.rl i)).ok w' B ∧ ∀ o, DR (x.rl i) o → o.ok w' B := by
  rcases (show i = 0 ∨ i = 1 ∨ i = 2 by omega) with rfl | rfl | rfl
  · exact ⟨h.a.far hb, fun o ho => (h.r0 o ho).far hb⟩
  · exact ⟨h.b.far hb, fun o ho => (h.r1 o ho).far hb⟩
  · exact ⟨h.c.far hb, fun o ho => (h.r2 o ho).far hb⟩
theorem rows_at {w : World} {B c : Nat} {e : TypeId} {A : Option Addr} {l : List RR} (h : OwM w B e 9 (.slice A l.length c) l.length (rcs l)) {k : Nat} (hk : k < l.length) : ∃ b o, A = some ⟨b, o, none⟩ ∧ b < w.heap.size ∧ Nine w b (o + k * 9) l[k] := by
  obtain ⟨b, o, hA, hb, hc⟩ := (OwM.rd h).2 (by omega)
  refine ⟨b, o, hA, hb, fun j u hu => ?_⟩
  have hj : j < 9 := by
    rcases Nat.lt_or_ge j 9 with h1 | h1
    · exact h1
    · rw [List.getElem?_eq_none (by simpa using h1)] at hu; cases hu
  rw [Nat.add_assoc]
  exact hc _ u ((rcs_get l k j hk hj).trans hu)
set_option maxRecDepth 100000 in
set_option maxHeartbeats 16000000 in
theorem reads_at (A : Option Addr) (c : Nat) (b : List UInt8) (w : World) (h : Rd w w.heap.size A b.length (bc b)) (hc : b.length ≤ c) (hbl : b.length ≤ 140737488355328) :
    Calls Try.prog 8 #[.slice A b.length c] w fun e w' => e = .returned (.bool true) ∧ Below w.heap.size w w' := by
  have HR := Lib.hid h
  obtain ⟨m, hm⟩ : ∃ m, m = (readM b).1 := ⟨_, rfl⟩
  obtain ⟨er, her⟩ : ∃ er, er = (readM b).2 := ⟨_, rfl⟩
  have hrd : readM b = (m, er) := by rw [hm, her]
  have HRD := Lib.hid hrd
  have HM := Lib.hid hm
  have HER := Lib.hid her
  have K1 := Lib.hid (bclone_at A c b.length b w w.heap.size rfl (Nat.le_refl _) h hbl)
  clear h hm her hrd
  go_enter Try.func8, Try.ntmps8
  go_upto_region 4 with (first
    | (go_at_call 18
       refine (fread_at A c b (w2.alloc (.cells #[.int .u16 (id2 : Int), .int .u16 (fl2 : Int), .slice qA2 qs2.length qc2, .slice aA2 ra2.length ac2, .slice bA2 rb2.length bd2, .slice cA2 rc2.length cc2] 28)) ((HR.out.goes hbw3)) hc hbl).mono ?_
       rw [← HM.out, ← HER.out]
       rintro e w4 ⟨y, hym, rfl, hyo, hb4⟩
       obtain ⟨id4, fl4, qA4, qc4, qs4, aA4, ac4, ra4, bA4, bd4, rb4, cA4, cc4, rc4⟩ := y
       unfold MR.cells
       dsimp only
       have h34 : Below w1.heap.size w1 w4 := h13.trans (hb4.mono h13.size))
    | (go_at_call 17
       refine (readO_at A1 c1 b m er HRD.out w1 hr1 hc1 hA1 hbl).mono ?_
       rintro e w2 ⟨x, hxm, rfl, hxo, hxr, hb2⟩
       obtain ⟨id2, fl2, qA2, qc2, qs2, aA2, ac2, ra2, bA2, bd2, rb2, cA2, cc2, rc2⟩ := x
       unfold MR.cells
       dsimp only
       have hb3 := below_new w2 (.cells #[.int .u16 (id2 : Int), .int .u16 (fl2 : Int), .slice qA2 qs2.length qc2, .slice aA2 ra2.length ac2, .slice bA2 rb2.length bd2, .slice cA2 rc2.length cc2] 28)
       have v3 := Vx.new w2 28 [.int .u16 (id2 : Int), .int .u16 (fl2 : Int), .slice qA2 qs2.length qc2, .slice aA2 ra2.length ac2, .slice bA2 rb2.length bd2, .slice cA2 rc2.length cc2]
       have h13 := hb2.trans (hb3.mono hb2.size)
       have hbw3 := hb1.trans (h13.mono hb1.size))
    | (go_at_call 7
       refine K1.out.mono ?_
       rintro e w1 ⟨v1, rfl, ho1, hb1⟩
       obtain ⟨A1, c1, rfl, hc1, hr1⟩ := Ow.form7 ho1 b.length (by simp)
       have hA1 : ∀ a, A1 = some a → a.block < w1.heap.size := fun a ha => OwM.block_lt (show OwM w1 w.heap.size 5 1 (.slice A1 b.length c1) _ _ from ho1) a.block (by rw [ha]; rfl)))
  have hxm' : (MR.m ⟨id2, fl2, qA2, qc2, qs2, aA2, ac2, ra2, bA2, bd2, rb2, cA2, cc2, rc2⟩) = (readM b).1 := by rw [hxm, HM.out]
  have hym' : (MR.m ⟨id4, fl4, qA4, qc4, qs4, aA4, ac4, ra4, bA4, bd4, rb4, cA4, cc4, rc4⟩) = (readM b).1 := by rw [hym, HM.out]
  obtain ⟨G, hG⟩ : ∃ G, G = w2.heap.size := ⟨_, rfl⟩
  obtain ⟨F, hF⟩ : ∃ F, F = w4.heap.size := ⟨_, rfl⟩
  have v4 : Vx w4 w2.heap.size 28 [.int .u16 (id2 : Int), .int .u16 (fl2 : Int), .slice qA2 qs2.length qc2, .slice aA2 ra2.length ac2, .slice bA2 rb2.length bd2, .slice cA2 rc2.length cc2] := v3.below hb4 v3.lt
  have hbx := below_new w4 (.cells #[.int .u16 (id4 : Int), .int .u16 (fl4 : Int), .slice qA4 qs4.length qc4, .slice aA4 ra4.length ac4, .slice bA4 rb4.length bd4, .slice cA4 rc4.length cc4] 60)
  have V4 := Lib.hid (v4.below hbx v4.lt)
  have V6 := Lib.hid (Vx.new w4 60 [.int .u16 (id4 : Int), .int .u16 (fl4 : Int), .slice qA4 qs4.length qc4, .slice aA4 ra4.length ac4, .slice bA4 rb4.length bd4, .slice cA4 rc4.length cc4])
  have h24 : Below w2.heap.size w2 w4 := hb3.trans (hb4.mono hb3.size)
  have h25 := h24.trans (hbx.mono h24.size)
  have h15 := hb2.trans (h25.mono hb2.size)
  have h05 := hb1.trans (h15.mono hb1.size)
  have hxr5 := (hxr.below h25).more h25.size
  have hyr5 := ((readF_mrd hyo hym').below hbx).more hbx.size
  try rw [← hG]
  try rw [← hF]
  rw [← hG] at V4
  rw [← hF] at V6
  generalize w4.alloc (.cells #[.int .u16 (id4 : Int), .int .u16 (fl4 : Int), .slice qA4 qs4.length qc4, .slice aA4 ra4.length ac4, .slice bA4 rb4.length bd4, .slice cA4 rc4.length cc4] 60) = w5 at *
  have K5 := Lib.hid (turned_at ⟨id2, fl2, qA2, qc2, qs2, aA2, ac2, ra2, bA2, bd2, rb2, cA2, cc2, rc2⟩ w5.drew hxr5 (cpy_of hxm'))
  have HYR := Lib.hid hyr5
  have HXM := Lib.hid hxm'
  have HYM := Lib.hid hym'
  have HXO := Lib.hid hxo
  have HB2 := Lib.hid hb2
  have HB1 := Lib.hid hb1
  have H25 := Lib.hid h25
  have HO1 := Lib.hid ho1
  have H15 := Lib.hid h15
  have H05 := Lib.hid h05
  have HR1 := Lib.hid hr1
  have HXR := Lib.hid hxr5
  clear K1 hxm hym hxm' hym' hxo hxr hb2 hb1 hb3 hb4 v3 v4 hbx h24 h25 h15 h05 hxr5 hyr5 h34 h13 hbw3 hG hF hyo ho1 hr1
  refine wp_region_held_drew (S := fun w' => Vx w' G 28 [.int .u16 (id2 : Int), .int .u16 (fl2 : Int), .slice qA2 qs2.length qc2, .slice aA2 ra2.length ac2, .slice bA2 rb2.length bd2, .slice cA2 rc2.length cc2] ∧ Vx w' F 60 [.int .u16 (id4 : Int), .int .u16 (fl4 : Int), .slice qA4 qs4.length qc4, .slice aA4 ra4.length ac4, .slice bA4 rb4.length bd4, .slice cA4 rc4.length cc4]) (by kernel_rfl) ⟨V4.out, V6.out⟩ (fun hH => ?_)
  refine reg_take 0 (v := ?_) rfl (by kernel_rfl) (fun _ _ _ h => h) (by rfl) hH ?_ ?_
  rotate_left
  · intro w hSw; (try dsimp only at hSw); go_simp; (try with_reducible rfl)
  (try simp only [Act.put, List.setIfInBounds_toArray, List.set_cons_zero, List.set_cons_succ])
  refine reg_take 1 (v := ?_) rfl (by kernel_rfl) (fun _ _ _ h => h) (by rfl) hH ?_ ?_
  rotate_left
  · intro w hSw; (try dsimp only at hSw); go_simp; (try with_reducible rfl)
  (try simp only [Act.put, List.setIfInBounds_toArray, List.set_cons_zero, List.set_cons_succ])
  refine reg_take 2 (v := ?_) rfl (by kernel_rfl) (fun _ _ _ h => h) (by rfl) hH ?_ ?_
  rotate_left
  · intro w hSw; (try dsimp only at hSw); go_simp; (try with_reducible rfl)
  (try simp only [Act.put, List.setIfInBounds_toArray, List.set_cons_zero, List.set_cons_succ])
  refine reg_take 3 (v := ?_) rfl (by kernel_rfl) (fun _ _ _ h => h) (by rfl) hH ?_ ?_
  rotate_left
  · intro w hSw; (try dsimp only at hSw); go_simp; (try with_reducible rfl)
  (try simp only [Act.put, List.setIfInBounds_toArray, List.set_cons_zero, List.set_cons_succ])
  refine reg_load 4 rfl (by kernel_rfl) 28 _ (by rfl) G 28 [.int .u16 (id2 : Int), .int .u16 (fl2 : Int), .slice qA2 qs2.length qc2, .slice aA2 ra2.length ac2, .slice bA2 rb2.length bd2, .slice cA2 rc2.length cc2] _ (fun _ _ _ h => h) (by rfl) hH (by rfl) (fun w hS => hS.1) Try.underlying28 (by rfl) (by kernel_rfl) ?_
  (try simp only [Act.put, List.setIfInBounds_toArray, List.set_cons_zero, List.set_cons_succ])
  refine reg_load 6 rfl (by kernel_rfl) 60 _ (by rfl) F 60 [.int .u16 (id4 : Int), .int .u16 (fl4 : Int), .slice qA4 qs4.length qc4, .slice aA4 ra4.length ac4, .slice bA4 rb4.length bd4, .slice cA4 rc4.length cc4] _ (fun _ _ _ h => h) (by rfl) hH (by rfl) (fun w hS => hS.2) Try.underlying60 (by rfl) (by kernel_rfl) ?_
  (try simp only [Act.put, List.setIfInBounds_toArray, List.set_cons_zero, List.set_cons_succ])
  refine wpAnyH_ready (rs := [5]) (by kernel_rfl) (by simp) ?_
  refine reg_cons _ rfl (fun K' hK => ?_) AllReadyH.nil
  go_simp
  go_at_call 20
  refine K5.out.mono ?_
  rintro e w6 ⟨z, hzm, rfl, hzo, hb6'⟩
  have hb6 : Below w5.heap.size w5 w6 := (Below.refl w5.heap.size w5).drew.trans hb6'
  have hzr := readF_mrd hzo (hzm.trans HXM.out)
  have V46 := Lib.hid (V4.out.below hb6 V4.out.lt)
  have V66 := Lib.hid (V6.out.below hb6 V6.out.lt)
  have K7 := fsame_at z ⟨id4, fl4, qA4, qc4, qs4, aA4, ac4, ra4, bA4, bd4, rb4, cA4, cc4, rc4⟩ w6 hzr ((HYR.out.below hb6).more hb6.size)
  rw [(sameM_iff _ _).2 ((hzm.trans HXM.out).trans HYM.out.symm)] at K7
  obtain ⟨id6, fl6, qA6, qc6, qs6, aA6, ac6, ra6, bA6, bd6, rb6, cA6, cc6, rc6⟩ := z
  unfold MR.cells at K7 ⊢
  dsimp only at K7 ⊢
  have K7 := Lib.hid K7
  clear hzr hzo hzm
  refine hK.out _ _ ⟨V46.out, V66.out⟩ (fun hH => ?_)
  (try simp only [Act.put, List.setIfInBounds_toArray, List.set_cons_zero, List.set_cons_succ])
  clear hK
  refine wpAnyH_ready (rs := [7]) (by kernel_rfl) (by simp) ?_
  refine reg_cons _ rfl (fun K' hK => ?_) AllReadyH.nil
  go_simp
  go_at_call 19
  refine K7.out.mono ?_
  rintro e w7 ⟨rfl, hb7'⟩
  have hb7 := hb6.trans (hb7'.mono hb6.size)
  have V47 := Lib.hid (V4.out.below hb7 V4.out.lt)
  have V67 := Lib.hid (V6.out.below hb7 V6.out.lt)
  (try dsimp only)
  refine hK.out _ _ ⟨V47.out, V67.out⟩ (fun hH => ?_)
  (try simp only [Act.put, List.setIfInBounds_toArray, List.set_cons_zero, List.set_cons_succ])
  clear hK
  refine reg_take 8 (v := ?_) rfl (by kernel_rfl) (fun _ _ _ h => h) (by rfl) hH ?_ ?_
  rotate_left
  · intro w hSw; (try dsimp only at hSw); go_simp; (try with_reducible rfl)
  (try simp only [Act.put, List.setIfInBounds_toArray, List.set_cons_zero, List.set_cons_succ])
  refine reg_take 9 (v := ?_) rfl (by kernel_rfl) (fun _ _ _ h => h) (by rfl) hH ?_ ?_
  rotate_left
  · intro w hSw; (try dsimp only at hSw); go_simp; (try with_reducible rfl)
  (try simp only [Act.put, List.setIfInBounds_toArray, List.set_cons_zero, List.set_cons_succ])
  refine wpAnyH_done (by kernel_rfl) ?_ _
  obtain ⟨a0, a1, a2, a3, a4, a5⟩ := V47.out.c6
  clear hH K7 K5 V46 V66 V6 V4
  go_wp2_with fail
  have h27 := H25.out.trans (hb7.mono H25.out.size)
  have h17 := H15.out.trans (hb7.mono H15.out.size)
  have h07 := H05.out.trans (hb7.mono H05.out.size)
  have HRW := Lib.hid (rows_of HXO.out h27)
  have HRS := Lib.hid (fun i => HXR.out.rl i)
  have HR7 := Lib.hid (HR.out.goes h07)
  have HR17 := Lib.hid (HR1.out.below h17)
  have H07 := Lib.hid h07
  have H17 := Lib.hid h17
  have hB17 : w1.heap.size ≤ w7.heap.size := h17.size
  have hB01 : w.heap.size ≤ w1.heap.size := HB1.out.size
  clear h27 h17 h07 a0 a1 a2 a3 a4 a5 hb6 hb7 V47 V67
  go_loopw [36] (fun vi wr => ∃ i : Nat, i ≤ 3 ∧ vi = .int .i64 i ∧ Hid (Spo w1.heap.size w7 wr)) (fun vi _ => 3 - (intOf vi).toNat)
  case atStart => exact ⟨0, by omega, rfl, Lib.hid (Spo.refl _ _)⟩
  case round =>
    obtain ⟨i, hi3, rfl, HK⟩ := hrel
    rcases Nat.lt_or_ge i 3 with hlt | hge
    · have hidx := fun W => idx3_x ⟨id2, fl2, qA2, qc2, qs2, aA2, ac2, ra2, bA2, bd2, rb2, cA2, cc2, rc2⟩ W i hlt
      dsimp only at hidx
      have hrw := HRW.out i hlt
      have hrs := HRS.out i
      generalize MR.rA ⟨id2, fl2, qA2, qc2, qs2, aA2, ac2, ra2, bA2, bd2, rb2, cA2, cc2, rc2⟩ i = xA at hidx hrw hrs
      generalize MR.rc ⟨id2, fl2, qA2, qc2, qs2, aA2, ac2, ra2, bA2, bd2, rb2, cA2, cc2, rc2⟩ i = xc at hidx hrw hrs
      generalize MR.rl ⟨id2, fl2, qA2, qc2, qs2, aA2, ac2, ra2, bA2, bd2, rb2, cA2, cc2, rc2⟩ i = xl at hidx hrw hrs
      obtain ⟨cn, hcn⟩ : ∃ cn, cn = xl.length := ⟨_, rfl⟩
      rw [← hcn] at hidx
      have hcb : cn ≤ 1000000000000 := by rw [hcn]; exact hrs.2.2.2.1
      have hi3i : (i : Int) < 3 := by omega
      have HW := Lib.hid hrw
      have HS := Lib.hid hrs
      have HCN := Lib.hid hcn.symm
      clear hrw hrs hcn
      go_wp2_with fail
      clear hidx
      have HK0 := HK
      clear HK
      go_loopw [41] (fun vj wr => ∃ j : Nat, j ≤ cn ∧ vj = .int .i64 j ∧ Hid (Spo w1.heap.size w7 wr)) (fun vj _ => cn - (intOf vj).toNat)
      case atStart => exact ⟨0, Nat.zero_le _, rfl, HK0⟩
      case round =>
        clear HK0
        obtain ⟨j, hj, rfl, HK⟩ := hrel
        rcases Nat.lt_or_ge j cn with hjlt | hjge
        · have hjx : j < xl.length := by have := HCN.out; omega
          obtain ⟨b0, o0, hA0, hb0, hnine⟩ := rows_at (show OwM wr w1.heap.size 41 9 (.slice xA xl.length xc) xl.length (rcs xl) from OwM.spo HW.out.1 (by decide) (by decide) HK.out) hjx
          obtain ⟨c0, c1, c2, c3, c4, c5, c6, c7, c8⟩ := hnine.cells
          have hr := HS.out.2.2.2.2 _ (List.getElem_mem hjx)
          have hd1 := HW.out.2 _ ⟨_, List.getElem_mem hjx, Or.inl rfl⟩
          have hd2 := HW.out.2 _ ⟨_, List.getElem_mem hjx, Or.inr (Or.inl rfl)⟩
          have hd3 := HW.out.2 _ ⟨_, List.getElem_mem hjx, Or.inr (Or.inr rfl)⟩
          generalize xl[j] = p at *
          subst hA0
          have l1 : p.r.q.nm.length ≤ 140737488355328 := Nat.le_trans (len_le_size _) hr.1.1.2.2
          have l2 : p.r.tg.length ≤ 140737488355328 := Nat.le_trans (len_le_size _) hr.2.2.1.2.2
          have l3 : p.r.d.length ≤ 140737488355328 := hr.2.1.2.2
          have hs2 : Spo w1.heap.size wr (wr.alloc (.cells #[.slice p.A p.r.q.nm.length p.c, .int .u16 (p.r.q.ty : Int), .int .u16 (p.r.q.cl : Int), .int .u32 (p.r.ttl : Int), .slice p.dA p.r.d.length p.dc, .int .u16 (p.r.pr : Int), .int .u16 (p.r.we : Int), .int .u16 (p.r.po : Int), .slice p.tA p.r.tg.length p.tc] 41)) := Spo.of (below_new _ _) (Nat.le_trans hB17 HK.out.bl.size)
          have hk2 := HK.out.trans hs2
          have K9 := Lib.hid (spoil_at p w1.heap.size (wr.alloc (.cells #[.slice p.A p.r.q.nm.length p.c, .int .u16 (p.r.q.ty : Int), .int .u16 (p.r.q.cl : Int), .int .u32 (p.r.ttl : Int), .slice p.dA p.r.d.length p.dc, .int .u16 (p.r.pr : Int), .int .u16 (p.r.we : Int), .int .u16 (p.r.po : Int), .slice p.tA p.r.tg.length p.tc] 41)) (Nat.le_trans hB17 hk2.bl.size) ((TS.of hd1).spo hk2) ((TS.of hd3).spo hk2) ((TU.of hd2).spo hk2) l1 l2 l3)
          have HK2 := Lib.hid hk2
          have hjlt' : (j : Int) < (cn : Int) := by omega
          have v11 := Vx.new wr 41 [.slice p.A p.r.q.nm.length p.c, .int .u16 (p.r.q.ty : Int), .int .u16 (p.r.q.cl : Int), .int .u32 (p.r.ttl : Int), .slice p.dA p.r.d.length p.dc, .int .u16 (p.r.pr : Int), .int .u16 (p.r.we : Int), .int .u16 (p.r.po : Int), .slice p.tA p.r.tg.length p.tc]
          obtain ⟨e0, e1, e2, e3, e4, e5, e6, e7, e8⟩ := v11.c9
          clear hnine hr hd1 hd2 hd3 hs2 hk2 l1 l2 l3 v11
          go_wp2_with (go_at_call 21
                       refine K9.out.mono ?_
                       rintro e w8 ⟨rfl, hs8⟩)
          go_roundw
          case rel => exact ⟨j + 1, by omega, by go_num, Lib.hid (HK2.out.trans hs8)⟩
          case measure => simp [intOf]; omega
        · have hjge' : (cn : Int) ≤ (j : Int) := by omega
          go_wp2_with fail
          go_roundw
          case rel => exact ⟨i + 1, by omega, by go_num, HK⟩
          case measure => simp [intOf]; omega
    · have hge' : (3 : Int) ≤ (i : Int) := by omega
      have hfin : Below w.heap.size w wr := H07.out.trans (HK.out.bl.mono hB01 |>.mono (Nat.le_refl _))
      go_wp2_with (go_at_call 22
                   refine (beq_any A1 A c1 c b b wr wr.heap.size ((HR17.out.below HK.out.bl).more (Nat.le_trans hB17 HK.out.bl.size)) (HR.out.goes hfin)).mono ?_
                   rintro e w8 ⟨rfl, rfl⟩)
      go_ret
      exact ⟨ret_bool (by simp), hfin⟩

end Go.Proofs.Ytlipmlbijddopaa
