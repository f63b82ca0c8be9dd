/-
  DnsSp
-/
import Derived.Deep.RegionLaw
import Derived.Test.YtlipmlbijddopaaGreatDoorZ19
import Derived.Test.YtlipmlbijddopaaGreatDoorZ13
import Derived.Test.YtlipmlbijddopaaGreatDoorZ20
set_option linter.unusedVariables false
set_option linter.unusedSimpArgs false
namespace Go.Proofs.YtlipmlbijddopaaGreatDoor
open Go.RowKit
/-- the offset that the reference returns -/
def nxS (s : St) : Nat := if s.e = 0 then s.at_ else 0
theorem nxS_ok {s : St} (h : s.e = 0) : nxS s = s.at_ := if_pos h
theorem nxS_no {s : St} (h : s.e ≠ 0) : nxS s = 0 := if_neg h
theorem rTake_stay {b : List UInt8} {n : Nat} {s : St} (h : s.e ≠ 0) : (rTake b n s).2 = s := by unfold rTake; rw [if_neg h]
theorem rNum_stay {b : List UInt8} {s : St} (h : s.e ≠ 0) : (rNum b s).2 = s := rTake_stay h
theorem rNum_fit {b : List UInt8} {p : Nat} (h : p + 2 ≤ b.length) : rNum b ⟨p, 0⟩ = (num2 (b.drop p), ⟨p + 2, 0⟩) := by simp [rNum, rTake, h, num2_take]
theorem rNum_nofit {b : List UInt8} {p : Nat} (h : ¬ p + 2 ≤ b.length) : rNum b ⟨p, 0⟩ = (0, ⟨p, 171⟩) := by
  simp [rNum, rTake, h]; rfl
theorem num2_drop {b : List UInt8} {p : Nat} (h : p + 2 ≤ b.length) : num2 (b.drop p) = 256 * (b[p]'(by omega)).toNat + (b[p + 1]'(by omega)).toNat := by
  unfold num2
  rw [List.getD_eq_getElem?_getD, List.getD_eq_getElem?_getD, List.getElem?_drop, List.getElem?_drop, Nat.add_zero, List.getElem?_eq_getElem (by omega), List.getElem?_eq_getElem (by omega)]
  rfl
set_option maxRecDepth 100000 in
set_option maxHeartbeats 1000000 in
theorem fnum_at (A : Option Addr) (c L : Nat) (b : List UInt8) (p : Nat) (t : Nat × St) (ht : t = rNum b ⟨p, 0⟩) (w : World) (hL : b.length = L) (h : Rd w w.heap.size A L (bc b)) (hc : L ≤ c) (hb : L ≤ 100000) (hp : p ≤ L) :
    Calls Tryz.prog 133 #[.slice A L c, .int .i64 (p : Int)] w fun e w' => e = .returned (.tuple #[.int .u16 (t.1 : Int), .int .i64 (nxS t.2 : Int), .int .i64 (t.2.e : Int)]) ∧ Below w.heap.size w w' := by
  subst hL
  by_cases hf : p + 2 ≤ b.length
  · have ht' : t = (256 * (b[p]'(by omega)).toNat + (b[p + 1]'(by omega)).toNat, ⟨p + 2, 0⟩) := by rw [ht, rNum_fit hf, num2_drop hf]
    obtain ⟨bq, oq, rfl, _, hcell⟩ := h.2 (by omega)
    have d0 := hcell p _ (bc_get b p (by omega))
    have d1 := hcell (p + 1) _ (bc_get b (p + 1) (by omega))
    have hx := (b[p]'(by omega)).toNat_lt
    have hy := (b[p + 1]'(by omega)).toNat_lt
    generalize (b[p]'(by omega)).toNat = x at *
    generalize (b[p + 1]'(by omega)).toNat = y at *
    subst ht'
    have hw : IntKind.u16.wrap (256 * (x : Int) + (y : Int)) = 256 * (x : Int) + (y : Int) := by rw [IntKind.wrap_u16]; omega
    have d1' := d1
    rw [← Nat.add_assoc] at d1
    have hf' : (p : Int) + 2 ≤ (b.length : Int) := by omega
    have hg1 : ¬ ((b.length : Int) < (p : Int) + 2) := by omega
    have kw1 : IntKind.i64.wrap ((p : Int) + 1) = (p : Int) + 1 := by rw [IntKind.wrap_i64]; omega
    have kw2 : IntKind.i64.wrap ((p : Int) + 2) = (p : Int) + 2 := by rw [IntKind.wrap_i64]; omega
    have kw3 : IntKind.i64.wrap (256 * (x : Int)) = 256 * (x : Int) := by rw [IntKind.wrap_i64]; omega
    have kw4 : IntKind.i64.wrap (256 * (x : Int) + (y : Int)) = 256 * (x : Int) + (y : Int) := by rw [IntKind.wrap_i64]; omega
    have kw5 : IntKind.i64.wrap (x : Int) = (x : Int) := by rw [IntKind.wrap_i64]; omega
    have kw6 : IntKind.i64.wrap (y : Int) = (y : Int) := by rw [IntKind.wrap_i64]; omega
    have hg2 : (p : Int) < (b.length : Int) := by omega
    have hg3 : (p : Int) + 1 < (b.length : Int) := by omega
    have hg4 : ((p : Int) + 1).toNat = p + 1 := by omega
    clear hcell ht h
    go_enter Tryz.func133, Tryz.ntmps133
    go_upto_region 3 with fail
    go_quiet (fail)
    go_wp2_with fail
    go_ret3
    refine ⟨?_, ⟨rfl, rfl, rfl, Nat.le_refl _, fun _ _ => rfl⟩⟩
    simp [nxS]
  · have ht' : t = (0, ⟨p, 171⟩) := by rw [ht, rNum_nofit hf]
    subst ht'
    have hf' : (b.length : Int) < (p : Int) + 2 := by omega
    clear ht h
    go_enter Tryz.func133, Tryz.ntmps133
    go_wp2_with fail
    go_ret3
    exact ⟨rfl, Below.refl _ _⟩
section
variable {w w' : World} {g : Nat} {e : TypeId} {cs : List Value}
theorem Vx.loadQf (h : Vx w g e cs) (hn : cs.length = 3) : (loadVar 40 ⟨g, 0, none⟩).run Tryz.prog w = .ok (.agg cs.toArray) w :=
  run_loadVar_row w g _ _ cs.toArray _ _ h Tryz.underlying40 rfl (by rw [List.size_toArray, hn]; kernel_rfl)
theorem Vx.loadRf (h : Vx w g e cs) (hn : cs.length = 9) : (loadVar 42 ⟨g, 0, none⟩).run Tryz.prog w = .ok (.agg cs.toArray) w :=
  run_loadVar_row w g _ _ cs.toArray _ _ h Tryz.underlying42 rfl (by rw [List.size_toArray, hn]; kernel_rfl)
theorem Vx.loadMf (h : Vx w g e cs) (hn : cs.length = 6) : (loadVar 47 ⟨g, 0, none⟩).run Tryz.prog w = .ok (.agg cs.toArray) w :=
  run_loadVar_row w g _ _ cs.toArray _ _ h Tryz.underlying47 rfl (by rw [List.size_toArray, hn]; kernel_rfl)
theorem resQf {fn : Func} {q r s : Tmp} (h : fn.results = #[.cell q 40, .tmp r, .tmp s]) (tmps : Array Value) (W : World) (g : Nat) (e : TypeId) (cs : List Value) (vr vs : Value) (hq : tmps[q]? = some (.pointer (some ⟨g, 0, none⟩))) (hr : tmps[r]? = some vr) (hs : tmps[s]? = some vs) (hx : Vx W g e cs) (hn : cs.length = 3) :
    (results fn tmps).run Tryz.prog W = .ok (.tuple #[.agg cs.toArray, vr, vs]) W := by
  simp [results, h, hq, hr, hs, asAddr, hx.loadQf hn]
theorem resRf {fn : Func} {q r s : Tmp} (h : fn.results = #[.cell q 42, .tmp r, .tmp s]) (tmps : Array Value) (W : World) (g : Nat) (e : TypeId) (cs : List Value) (vr vs : Value) (hq : tmps[q]? = some (.pointer (some ⟨g, 0, none⟩))) (hr : tmps[r]? = some vr) (hs : tmps[s]? = some vs) (hx : Vx W g e cs) (hn : cs.length = 9) :
    (results fn tmps).run Tryz.prog W = .ok (.tuple #[.agg cs.toArray, vr, vs]) W := by
  simp [results, h, hq, hr, hs, asAddr, hx.loadRf hn]
theorem resMf {fn : Func} {q r : Tmp} (h : fn.results = #[.cell q 47, .tmp r]) (tmps : Array Value) (W : World) (g : Nat) (e : TypeId) (cs : List Value) (vr : Value) (hq : tmps[q]? = some (.pointer (some ⟨g, 0, none⟩))) (hr : tmps[r]? = some vr) (hx : Vx W g e cs) (hn : cs.length = 6) :
    (results fn tmps).run Tryz.prog W = .ok (.tuple #[.agg cs.toArray, vr]) W := by
  simp [results, h, hq, hr, asAddr, hx.loadMf hn]
end
abbrev zQ3 : List Value := [.slice none 0 0, .int .u16 0, .int .u16 0]
def zQR : QR := ⟨none, 0, zQ⟩
theorem rread_at (A : Option Addr) (c L : Nat) (b : List UInt8) (p : Nat) (n : List (List UInt8) × St) (hn : n = rName b ⟨p, 0⟩) (w : World) (hL : b.length = L) (h : Rd w w.heap.size A L (bc b)) (hc : L ≤ c) (hb : L ≤ 100000) (hp : p ≤ L) :
    Calls Tryz.prog 142 #[.slice A L c, .int .i64 (p : Int)] w fun e w' => ∃ A' c', e = .returned (.tuple #[.slice A' n.1.length c', .int .i64 (n.2.at_ : Int), .int .i64 (n.2.e : Int)]) ∧ Ow w' w.heap.size 9 (.slice A' n.1.length c') (sc n.1) ∧ Below w.heap.size w w' := by
  subst hL hn
  have e1 : (rName b ⟨p, 0⟩).1 = (readN b p).1 := by simp [rName]
  have e2 : (rName b ⟨p, 0⟩).2.at_ = (readN b p).2.1 := by simp [rName]
  have e3 : (rName b ⟨p, 0⟩).2.e = (readN b p).2.2 := by simp [rName]
  rw [e1, e2, e3]
  refine (rread_any A c b p w h hc (by omega) hp).mono ?_
  rintro e w' ⟨v, rfl, ho, hb⟩
  obtain ⟨A', c', rfl, _, _⟩ := ho.form6 _ (sc_length _)
  exact ⟨A', c', rfl, ho, hb⟩
theorem rName_le {b : List UInt8} {p : Nat} (hp : p ≤ b.length) : (rName b ⟨p, 0⟩).2.e = 0 → (rName b ⟨p, 0⟩).2.at_ ≤ b.length := by
  intro h
  simp only [rName, if_pos] at h ⊢
  rcases readN_errs b p hp with ⟨h1, _⟩ | ⟨_, h2, h3⟩
  · have := readN_next b p hp h1; omega
  · omega
open Go.RowKit
theorem rD_stay {b : List UInt8} {s : St} (h : (rQ b s).2.e ≠ 0) : (rD b s).2 = (rQ b s).2 := by
  unfold rD
  simp only
  have h1 := rNum_stay (b := b) h
  have h2 : (rNum b (rNum b (rQ b s).2).2).2 = (rQ b s).2 := by rw [h1, h1]
  have h3 : (rNum b (rNum b (rNum b (rQ b s).2).2).2).2 = (rQ b s).2 := by rw [h2, h1]
  rw [h3, rTake_stay h]
theorem rKk_stay {b : List UInt8} {q : Qn} {hi lo : Nat} {d : List UInt8 × St} (h : d.2.e ≠ 0) : rKk b q hi lo d = (zR, d.2) := by unfold rKk; rw [if_pos h]
theorem rQ_le {b : List UInt8} {s : St} (h : (rQ b s).2.e = 0) : (rQ b s).2.at_ ≤ b.length := by
  have := num_err (b := b) (s := (rNum b (rName b s).2).2) h
  have e : (rQ b s).2 = (rNum b (rNum b (rName b s).2).2).2 := rfl
  rw [e]; omega
theorem rR_f0 {b : List UInt8} {s : St} (h : (rQ b s).2.e ≠ 0) : (rR b s).2 = (rQ b s).2 := by
  rw [rR_eq, rKk_stay (by rw [rD_stay h]; exact h)]
  exact rD_stay h
theorem rTake_no {b : List UInt8} {n p : Nat} (h : ¬ p + n ≤ b.length) : (rTake b n ⟨p, 0⟩).2 = ⟨p, 171⟩ := by simp [rTake, h]
theorem rR_f1 {b : List UInt8} {s : St} {q : Qn} {a : Nat} (hq : rQ b s = (q, ⟨a, 0⟩)) (h : ¬ a + 6 ≤ b.length) : (rR b s).2.e = 171 := by
  have key : (rD b s).2.e = 171 := by
    unfold rD
    simp only [hq]
    by_cases h1 : a + 2 ≤ b.length
    · rw [rNum_fit h1]
      simp only
      by_cases h2 : a + 2 + 2 ≤ b.length
      · rw [rNum_fit h2]
        simp only
        rw [rNum_nofit (p := a + 2 + 2) (by omega)]
        rw [rTake_stay (by simp)]
      · rw [rNum_nofit h2]
        simp only
        rw [rTake_stay (by rw [rNum_stay (by simp)]; simp), rNum_stay (by simp)]
    · rw [rNum_nofit h1]
      simp only
      have e1 : (rNum b ⟨a, 171⟩).2 = ⟨a, 171⟩ := rNum_stay (by simp)
      rw [e1, e1, rTake_stay (by simp)]
  rw [rR_eq, rKk_stay (by rw [key]; simp)]
  exact key
theorem rR_f2 {b : List UInt8} {s : St} {q : Qn} {a : Nat} (hq : rQ b s = (q, ⟨a, 0⟩)) (h : a + 6 ≤ b.length) : rR b s = rKk b q (num2 (b.drop a)) (num2 (b.drop (a + 2))) (rTake b (num2 (b.drop (a + 4))) ⟨a + 6, 0⟩) := by
  rw [rR_eq]
  unfold rD
  simp only [hq]
  rw [rNum_fit (p := a) (by omega)]
  simp only
  rw [rNum_fit (p := a + 2) (by omega)]
  simp only
  rw [rNum_fit (p := a + 2 + 2) (by omega)]
theorem rTake_fit {b : List UInt8} {n p : Nat} (h : p + n ≤ b.length) : rTake b n ⟨p, 0⟩ = ((b.drop p).take n, ⟨p + n, 0⟩) := by simp [rTake, h]
theorem num2_cut {b : List UInt8} {p e : Nat} (h : p + 2 ≤ e) (he : e ≤ b.length) : num2 ((b.take e).drop p) = num2 (b.drop p) := by
  rw [num2_drop (by rw [List.length_take]; omega), num2_drop (by omega), List.getElem_take, List.getElem_take]
theorem rR_f3 {b : List UInt8} {s : St} {q : Qn} {a n : Nat} (hq : rQ b s = (q, ⟨a, 0⟩)) (hn : n = num2 (b.drop (a + 4))) (h : a + 6 + n ≤ b.length) (h33 : q.ty = 33) (h7 : 7 ≤ n) (t : List (List UInt8) × St) (ht : t = rName (b.take (a + 6 + n)) ⟨a + 12, 0⟩) :
    rR b s = (⟨q, 65536 * num2 (b.drop a) + num2 (b.drop (a + 2)), [], num2 (b.drop (a + 6)), num2 (b.drop (a + 8)), num2 (b.drop (a + 10)), t.1⟩, if t.2.e ≠ 0 ∨ t.2.at_ ≠ a + 6 + n then ⟨a + 6 + n, 172⟩ else ⟨a + 6 + n, 0⟩) := by
  rw [rR_f2 hq (by omega), ← hn, rTake_fit h]
  unfold rKk rKo
  have hl : ((b.drop (a + 6)).take n).length = n := by rw [List.length_take, List.length_drop]; omega
  have hol : (b.take (a + 6 + n)).length = a + 6 + n := by rw [List.length_take]; omega
  simp only [hl, h33]
  rw [if_neg (by simp), if_neg (by simp), if_neg (by omega), show a + 6 + n - n = a + 6 by omega, rNum_fit (p := a + 6) (by rw [hol]; omega)]
  simp only
  rw [rNum_fit (p := a + 6 + 2) (by rw [hol]; omega)]
  simp only
  rw [rNum_fit (p := a + 6 + 2 + 2) (by rw [hol]; omega)]
  simp only
  rw [num2_cut (by omega) h, num2_cut (by omega) h, num2_cut (by omega) h, ht]
/-- bytes as a number, the first ones first -/
def beN (l : List UInt8) : Nat → Nat
  | 0 => 0
  | k + 1 => 256 * beN l k + (l.getD k 0).toNat
theorem beN_lt (l : List UInt8) : ∀ k, beN l k < 256 ^ k
  | 0 => by simp [beN]
  | k + 1 => by
    have := beN_lt l k
    have := (l.getD k 0).toNat_lt
    rw [beN, Nat.pow_succ]; omega
theorem beN4 (l : List UInt8) : beN l 4 = 65536 * num2 l + num2 (l.drop 2) := by
  have e0 : (l.drop 2).getD 0 0 = l.getD 2 0 := by simp [List.getD_eq_getElem?_getD, List.getElem?_drop]
  have e1 : (l.drop 2).getD 1 0 = l.getD 3 0 := by simp [List.getD_eq_getElem?_getD, List.getElem?_drop]
  unfold num2
  rw [e0, e1]
  simp only [beN]
  omega
theorem getD_drop' (b : List UInt8) (a k : Nat) (h : a + k < b.length) : ((b.drop a).getD k 0) = b[a + k] := by
  rw [List.getD_eq_getElem?_getD, List.getElem?_drop, List.getElem?_eq_getElem h]; rfl
/-- where the reading of a record stands: the result's block, the question's, the record's -/
structure RfX (w0 w : World) (Q X : Nat) (q : QR) (x : RR) : Prop where
  vr : Vx w w0.heap.size 42 zRR.cells
  vq : Vx w Q 40 q.cells
  vx : Vx w X 42 x.cells
  bl : Below w0.heap.size w0 w
  lo : w0.heap.size < Q ∧ Q < X
  ow : ROw w (w0.heap.size + 1) X x
section
variable {w0 w w' : World} {Q X : Nat} {q : QR} {x x' : RR}
theorem RfX.far (h : RfX w0 w Q X q x) (hb : Below w.heap.size w w') : RfX w0 w' Q X q x :=
  ⟨h.vr.below hb h.vr.lt, h.vq.below hb h.vq.lt, h.vx.below hb h.vx.lt, h.bl.trans (hb.mono h.bl.size), h.lo, h.ow.only2 (Only.of_below hb : Only w w' w.heap.size) (Nat.le_refl _)⟩
theorem below_drew1 (w : World) : Below w.heap.size w w.drew := ⟨rfl, rfl, rfl, Nat.le_refl _, fun _ _ => rfl⟩
theorem RfX.setX (h : RfX w0 w Q X q x) (k : Nat) (u : Value) (hx : x.cells.set k u = x'.cells) (how : ROw (w.setCell ⟨X, k, none⟩ u) (w0.heap.size + 1) X x') : RfX w0 (w.setCell ⟨X, k, none⟩ u) Q X q x' := by
  have hl := h.lo
  refine ⟨h.vr.setO (by omega) _ _, h.vq.setO (by omega) _ _, ?_, h.bl.setCell (by show w0.heap.size ≤ X; omega) u, h.lo, how⟩
  have := h.vx.set_ k u
  rwa [hx] at this
theorem RfX.fin (h : RfX w0 w Q X q x) (x' : RR) (how : ROw w (w0.heap.size + 1) X x') : Vx (w.setRow w0.heap.size x'.cells.toArray) w0.heap.size 42 x'.cells ∧ ROw (w.setRow w0.heap.size x'.cells.toArray) w0.heap.size X x' ∧ Below w0.heap.size w0 (w.setRow w0.heap.size x'.cells.toArray) :=
  ⟨h.vr.row _, (how.only (Only.row _ _ _) (Nat.lt_succ_self _)).mono (Nat.le_succ _), h.bl.trans ((Only.row _ _ _).below (Nat.le_refl _) h.bl.size)⟩
end
theorem Ow.lit0 (w : World) (base : Nat) (e : TypeId) (h : base ≤ w.heap.size) : Ow (w.alloc (.cells #[] e)) base e (.slice (some ⟨w.heap.size, 0, none⟩) 0 0) [] :=
  ⟨rfl, Or.inr ⟨w.heap.size, 0, #[], rfl, h, (Vx.new w e []), Nat.le_refl _, by simp [maxLen], rfl, rfl⟩⟩
/-- the value that the reference hands back -/
def rfOk (z : Rc × St) (r : Rc) : Prop := (z.2.e = 0 → r = z.1) ∧ (z.2.e ≠ 0 → r = zR)
open Go.RowKit
theorem Tryz.infoQf : (Tryz.prog.info? 40).map (fun i => (i.zero, i.size, i.bytes)) = some (some (.agg #[.slice none 0 0, .int .u16 0, .int .u16 0]), 3, 32) := by kernel_rfl
theorem Tryz.infoRf : (Tryz.prog.info? 42).map (fun i => (i.zero, i.size, i.bytes)) = some (some (.agg zRR.cells.toArray), 9, 96) := by kernel_rfl
def rwQf (A : Option Addr) (c : Nat) (l : List QR) : Ob := ⟨40, 3, .slice A l.length c, l.length, qcs l⟩
def rwRf (A : Option Addr) (c : Nat) (l : List RR) : Ob := ⟨42, 9, .slice A l.length c, l.length, rcs l⟩
/-- all of a message of the reference is of the call's own -/
structure MOwF (w : World) (base : Nat) (x : MR) : Prop where
  q : (rwQf x.qA x.qc x.qs).ok w base
  a : (rwRf x.aA x.ac x.r0).ok w base
  b : (rwRf x.bA x.bc x.r1).ok w base
  c : (rwRf x.cA x.cc x.r2).ok w base
  n : ∀ o, DQ x.qs o → o.ok w base
  r0 : ∀ o, DR x.r0 o → o.ok w base
  r1 : ∀ o, DR x.r1 o → o.ok w base
  r2 : ∀ o, DR x.r2 o → o.ok w base
theorem zMR_owF (w : World) (base : Nat) : MOwF w base zMR :=
  ⟨OwM.nil _ _ _ _, OwM.nil _ _ _ _, OwM.nil _ _ _ _, OwM.nil _ _ _ _, fun o ⟨x, hx, _⟩ => (by cases hx), fun o ⟨x, hx, _⟩ => (by cases hx), fun o ⟨x, hx, _⟩ => (by cases hx), fun o ⟨x, hx, _⟩ => (by cases hx)⟩
theorem rwQf_rd {w : World} {base : Nat} {A : Option Addr} {c : Nat} {l : List QR} (h : (rwQf A c l).ok w base) (hn : ∀ o, DQ l o → o.ok w base) (hr : ∀ x ∈ l, rightN x.q.nm = true) (hk : ∀ x ∈ l, okQ x.q) (hl : l.length ≤ 256) : QsRd w w.heap.size A c l.length l := by
  have h1 : OwM w base 40 3 (.slice A l.length c) l.length (qcs l) := h
  exact ⟨h1.rd, rfl, h1.cap, by omega, fun x hx => ⟨nmO_rd (hn _ ⟨x, hx, rfl⟩) (right_small (hr x hx)), hk x hx⟩⟩
theorem rwRf_rd {w : World} {base : Nat} {A : Option Addr} {c : Nat} {l : List RR} (h : (rwRf A c l).ok w base) (hn : ∀ o, DR l o → o.ok w base) (hr : ∀ x ∈ l, rightR x.r = true) (hk : ∀ x ∈ l, okR x.r) (hl : l.length ≤ 256) : RsRd w w.heap.size A c l.length l := by
  have h1 : OwM w base 42 9 (.slice A l.length c) l.length (rcs l) := h
  refine ⟨h1.rd, rfl, h1.cap, by omega, fun x hx => ?_⟩
  obtain ⟨k1, k2, k3, k4, k5⟩ := hk x hx
  exact ⟨⟨nmO_rd (hn _ ⟨x, hx, Or.inl rfl⟩) (right_small (rightR_nm (hr x hx))), k1⟩, daO_rd (hn _ ⟨x, hx, Or.inr (Or.inl rfl)⟩) (by have := rightR_data (hr x hx); omega), nmO_rd (hn _ ⟨x, hx, Or.inr (Or.inr rfl)⟩) (rightR_tg (hr x hx)), k2, k3, k4, k5⟩
theorem MOwF.rd {w : World} {base : Nat} {x : MR} (h : MOwF w base x) (hr : rightM x.m = true) (hk : okM x.m) (hn : x.m.num ≤ 256) : MRd w w.heap.size x := by
  have hn' : x.qs.length + x.r0.length + x.r1.length + x.r2.length ≤ 256 := by simpa [Ms.num, MR.m] using hn
  obtain ⟨a0, a1, a2, a3⟩ := resW hr
  exact ⟨hk.id, hk.fl, rwQf_rd h.q h.n a0 (fun y hy => hk.qs _ (List.mem_map.2 ⟨y, hy, rfl⟩)) (by omega), rwRf_rd h.a h.r0 a1 (fun y hy => hk.r0 _ (List.mem_map.2 ⟨y, hy, rfl⟩)) (by omega), rwRf_rd h.b h.r1 a2 (fun y hy => hk.r1 _ (List.mem_map.2 ⟨y, hy, rfl⟩)) (by omega), rwRf_rd h.c h.r2 a3 (fun y hy => hk.r2 _ (List.mem_map.2 ⟨y, hy, rfl⟩)) (by omega)⟩
theorem readF_mrd {w : World} {base : Nat} {x : MR} {b : List UInt8} (h : MOwF w base x) (hx : x.m = (readM b).1) : MRd w w.heap.size x := by
  by_cases h0 : (readM b).2 = 0
  · obtain ⟨h1, h2, h3, _⟩ := read_ok h0
    exact h.rd (by rw [hx]; exact h1) (by rw [hx]; exact h2) (by rw [hx]; exact h3)
  · have hz := read_err h0
    exact h.rd (by rw [hx, hz]; rfl) (by rw [hx, hz]; exact okM_z) (by rw [hx, hz]; simp [Ms.num, zM])
/-- a reader that has failed stays where it is -/
theorem rName_stay {b : List UInt8} {s : St} (h : s.e ≠ 0) : (rName b s).2 = s := by unfold rName; rw [if_neg h]
theorem rQ_stay {b : List UInt8} {s : St} (h : s.e ≠ 0) : (rQ b s).2 = s := by
  show (rNum b (rNum b (rName b s).2).2).2 = s
  rw [rName_stay h, rNum_stay h, rNum_stay h]
theorem rR_stay {b : List UInt8} {s : St} (h : s.e ≠ 0) : (rR b s).2 = s := by
  have h1 := rQ_stay (b := b) h
  rw [rR_f0 (by rw [h1]; exact h), h1]
attribute [local irreducible] rR rQ in
theorem rQs_stay {b : List UInt8} {s : St} {k : Nat} (h : (rQs b s k).2.e ≠ 0) : ∀ n, (rQs b s (k + n)).2 = (rQs b s k).2
  | 0 => rfl
  | n + 1 => by
    show (rQ b (rQs b s (k + n)).2).2 = _
    rw [rQs_stay h n, rQ_stay h]
attribute [local irreducible] rR rQ in
theorem rRs_stay {b : List UInt8} {s : St} {k : Nat} (h : (rRs b s k).2.e ≠ 0) : ∀ n, (rRs b s (k + n)).2 = (rRs b s k).2
  | 0 => rfl
  | n + 1 => by
    show (rR b (rRs b s (k + n)).2).2 = _
    rw [rRs_stay h n, rR_stay h]
attribute [local irreducible] rR rQ in
theorem rLs_stay {b : List UInt8} {s : St} {cs : List Nat} {k : Nat} (h : (rLs b s cs k).2.e ≠ 0) : ∀ n, (rLs b s cs (k + n)).2 = (rLs b s cs k).2
  | 0 => rfl
  | n + 1 => by
    show (rRs b (rLs b s cs (k + n)).2 _).2 = _
    rw [rLs_stay h n]
    have h2 : (rRs b (rLs b s cs k).2 0).2.e ≠ 0 := h
    have := rRs_stay h2 (cs.getD (k + n) 0)
    rwa [Nat.zero_add] at this
/-- the heads that are read already -/
def hcs (b : List UInt8) (k : Nat) : List Value := (List.range 6).map fun j => if j < k then .int .u16 (hd b j : Int) else .int .u16 0
theorem hcs_set (b : List UInt8) (k : Nat) (hk : k < 6) : (hcs b k).set k (.int .u16 (hd b k : Int)) = hcs b (k + 1) := by
  rcases (show k = 0 ∨ k = 1 ∨ k = 2 ∨ k = 3 ∨ k = 4 ∨ k = 5 by omega) with rfl | rfl | rfl | rfl | rfl | rfl <;> rfl
theorem hcs_get (b : List UInt8) (k : Nat) (hk : k < 6) : (hcs b (k + 1))[k]? = some (.int .u16 (hd b k : Int)) := by
  rcases (show k = 0 ∨ k = 1 ∨ k = 2 ∨ k = 3 ∨ k = 4 ∨ k = 5 by omega) with rfl | rfl | rfl | rfl | rfl | rfl <;> rfl
theorem hcs_free (b : List UInt8) (k : Nat) (hk : k < 6) : ∃ v, (hcs b k)[k]? = some v := by
  rcases (show k = 0 ∨ k = 1 ∨ k = 2 ∨ k = 3 ∨ k = 4 ∨ k = 5 by omega) with rfl | rfl | rfl | rfl | rfl | rfl <;> exact ⟨_, rfl⟩
def smH (b : List UInt8) : Nat → Nat
  | 0 => 0
  | k + 1 => if 1 < k then smH b k + hd b k else smH b k
theorem smH6 (b : List UInt8) : smH b 6 = hd b 2 + hd b 3 + hd b 4 + hd b 5 := by simp [smH]
theorem smH_le (b : List UInt8) : ∀ k, smH b k ≤ 65536 * k
  | 0 => by simp [smH]
  | k + 1 => by
    have := smH_le b k
    have := hd_lt b k
    unfold smH
    split <;> omega
/-- where the reading of a message stands: the result's block, the heads', the message's -/
structure RfM (w0 w : World) (H M base : Nat) (mc hc : List Value) : Prop where
  vr : Vx w w0.heap.size 47 zM6
  vh : Vx w H 201 hc
  vm : Vx w M 47 mc
  bl : Below w0.heap.size w0 w
  lo : w0.heap.size < H ∧ H < M
  hi : M < base ∧ base ≤ w.heap.size
section
variable {w0 w w' : World} {H M base : Nat} {mc hc : List Value}
theorem RfM.far (h : RfM w0 w H M base mc hc) (hb : Below w.heap.size w w') : RfM w0 w' H M base mc hc :=
  ⟨h.vr.below hb h.vr.lt, h.vh.below hb h.vh.lt, h.vm.below hb h.vm.lt, h.bl.trans (hb.mono h.bl.size), h.lo, ⟨h.hi.1, Nat.le_trans h.hi.2 hb.size⟩⟩
theorem RfM.gr {v v' : Value} (h : RfM w0 w H M base mc hc) (hg : Gr w w' v v') (hv : ∀ q, v.ownBlock = some q → base ≤ q) : RfM w0 w' H M base mc hc := by
  have hl := h.lo
  have hh := h.hi
  have hb : Below base w w' := hg.below hv hh.2
  exact ⟨h.vr.below hb (by omega), h.vh.below hb (by omega), h.vm.below hb hh.1, h.bl.trans (hb.mono (by omega)), hl, ⟨hh.1, Nat.le_trans hh.2 hb.size⟩⟩
theorem RfM.setM (h : RfM w0 w H M base mc hc) (k : Nat) (u : Value) : RfM w0 (w.setCell ⟨M, k, none⟩ u) H M base (mc.set k u) hc := by
  have hl := h.lo
  have hh := h.hi
  exact ⟨h.vr.setO (by omega) _ _, h.vh.setO (by omega) _ _, h.vm.set_ k u, h.bl.setCell (by show w0.heap.size ≤ M; omega) u, hl, ⟨hh.1, by simpa using hh.2⟩⟩
end
theorem newrow {w w4 : World} {e : TypeId} {zs cs : Array Value} (h : (w.alloc (.cells zs e)).setRow w.heap.size cs = w4) : Below w.heap.size w w4 ∧ Vx w4 w.heap.size e cs.toList := by
  subst h
  refine ⟨(below_new w _).trans ((Only.row _ _ _).below (Nat.le_refl _) (by simp)), ?_⟩
  have := (Vx.new w e zs.toList).row cs.toList
  simpa using this
/-- the length of the slice that lies in a cell -/
def lenAt (w : World) (g k : Nat) : Nat := match w.cell? ⟨g, k, none⟩ with | some (.slice _ n _) => n | _ => 0
theorem lenAt_of {w : World} {g k n c : Nat} {A : Option Addr} (h : w.cell? ⟨g, k, none⟩ = some (.slice A n c)) : lenAt w g k = n := by unfold lenAt; rw [h]
theorem rR_le {b : List UInt8} {P : Nat} (hP : P ≤ b.length) (h : (rR b ⟨P, 0⟩).2.e = 0) : (rR b ⟨P, 0⟩).2.at_ ≤ b.length :=
  (lc_r b b ⟨P, 0⟩ ⟨[], by simp⟩ (fun _ => hP) h).2.2
attribute [local irreducible] rR rQ in
theorem rRs_to {b : List UInt8} {S : St} {j P : Nat} {z : Rc × St} (h : (rRs b S j).2 = ⟨P, 0⟩) (hz : z = rR b ⟨P, 0⟩) (h0 : z.2.e = 0) : (rRs b S (j + 1)).2 = ⟨z.2.at_, 0⟩ := by
  show (rR b (rRs b S j).2).2 = _
  rw [h, ← hz]
  obtain ⟨z1, a, e⟩ := z
  simp only at h0
  subst h0
  rfl
attribute [local irreducible] rR rQ in
theorem rRs_err {b : List UInt8} {S : St} {j P : Nat} {z : Rc × St} (h : (rRs b S j).2 = ⟨P, 0⟩) (hz : z = rR b ⟨P, 0⟩) : (rRs b S (j + 1)).2 = z.2 := by
  show (rR b (rRs b S j).2).2 = _
  rw [h, ← hz]
attribute [local irreducible] rR rQ in
theorem rRs_map {b : List UInt8} {S : St} {j P : Nat} {z : Rc × St} {l : List RR} {x : RR} (h : (rRs b S j).2 = ⟨P, 0⟩) (hz : z = rR b ⟨P, 0⟩) (hl : l.map RR.r = (rRs b S j).1) (hx : x.r = z.1) : (l ++ [x]).map RR.r = (rRs b S (j + 1)).1 := by
  rw [List.map_append, hl]
  show _ = (rRs b S j).1 ++ [(rR b (rRs b S j).2).1]
  rw [h, ← hz, ← hx]; rfl
attribute [local irreducible] rR rQ in
theorem rLs_to {b : List UInt8} {S : St} {cs : List Nat} {i j : Nat} {Si : St} (hS : Si = (rLs b S cs i).2) (hj : j = cs.getD i 0) {P : Nat} (h : (rRs b Si j).2 = ⟨P, 0⟩) : (rLs b S cs (i + 1)).2 = ⟨P, 0⟩ := by
  show (rRs b (rLs b S cs i).2 (cs.getD i 0)).2 = _
  rw [← hS, ← hj, h]
attribute [local irreducible] rR rQ in
theorem rLs_map {b : List UInt8} {S : St} {cs : List Nat} {i j : Nat} {Si : St} {rs : List RW} {x : RW} (hS : Si = (rLs b S cs i).2) (hj : j = cs.getD i 0) (hl : rs.map (fun r => r.l.map RR.r) = (rLs b S cs i).1) (hx : x.l.map RR.r = (rRs b Si j).1) : (rs ++ [x]).map (fun r => r.l.map RR.r) = (rLs b S cs (i + 1)).1 := by
  rw [List.map_append, hl]
  show _ = (rLs b S cs i).1 ++ [(rRs b (rLs b S cs i).2 (cs.getD i 0)).1]
  rw [← hS, ← hj, ← hx]; rfl
/-- a record more in the message's list -/
theorem RfM.setS {w0 w : World} {H M base : Nat} {mc hc : List Value} {k : Nat} {u v : Value} (h : RfM w0 w H M base (mc.set k u) hc) : RfM w0 (w.setCell ⟨M, k, none⟩ v) H M base (mc.set k v) hc := by
  have := h.setM k v
  rwa [set_set_same] at this
/-- a record more that is held -/
theorem Held.recF {wr wq w3 w4 w5 : World} {M k : Nat} {D : Ob → Prop} {l3 : List RR} {x : RR} {v v5 u : Value} {n O : Nat} {c : Nat} {xs : List Value}
    (HH : Held wr (M + 1) (fun o => D o ∨ DR l3 o) v) (hO3 : OwM wr (M + 1) c 9 v n xs) (hdq : Below wr.heap.size wr wq) (hb3 : Below wq.heap.size wq w3) (hw3 : ROw w3 wq.heap.size O x) (hb4 : Below w3.heap.size w3 w4) (hle : M + 1 ≤ wr.heap.size) (hsz : wq.heap.size = wr.heap.size) (o : Obj) (hg : Gr (w4.alloc o).drew w5 v v5) : Held (w5.setCell ⟨M, k, none⟩ u) (M + 1) (fun o => D o ∨ DR (l3 ++ [x]) o) v5 := by
  have h0 := (HH.far hdq).far hb3
  have h1 := h0.add (nmO x.A x.c x.r.q.nm) (OwM.mono hw3.n (by omega)) (ne_new hO3 hw3.n (by omega))
  have h2 := h1.add (daO x.dA x.dc x.r.d) (OwM.mono hw3.d (by omega)) (ne_new hO3 hw3.d (by omega))
  have h3 := h2.add (nmO x.tA x.tc x.r.tg) (OwM.mono hw3.t (by omega)) (ne_new hO3 hw3.t (by omega))
  have h4 := ((((h3.far hb4).far (below_new w4 o)).far (below_drew1 _)).gr hg).setL (show M < M + 1 by omega) k u
  refine h4.mono fun o ho => ?_
  rcases ho with ho | ⟨y, hy, e⟩
  · exact Or.inr (Or.inr (Or.inr (Or.inl ho)))
  · rcases List.mem_append.1 hy with hy | hy
    · exact Or.inr (Or.inr (Or.inr (Or.inr ⟨y, hy, e⟩)))
    · simp at hy
      subst hy
      rcases e with e | e | e
      · exact Or.inr (Or.inr (Or.inl e))
      · exact Or.inr (Or.inl e)
      · exact Or.inl e
/-- an error in the records -/
theorem rest_errR {b : List UInt8} {n0 n1 n2 n3 n4 n5 i j : Nat} (hi : i < 3) (hj : j < [n3, n4, n5].getD i 0) (h : (rRs b (rLs b (rQs b ⟨12, 0⟩ n2).2 [n3, n4, n5] i).2 (j + 1)).2.e ≠ 0) : readRest b n0 n1 n2 n3 n4 n5 = (zM, (rRs b (rLs b (rQs b ⟨12, 0⟩ n2).2 [n3, n4, n5] i).2 (j + 1)).2.e) := by
  rw [readRest_eq]
  obtain ⟨S0, hS0⟩ : ∃ S0, S0 = (rQs b ⟨12, 0⟩ n2).2 := ⟨_, rfl⟩
  rw [← hS0] at h ⊢
  obtain ⟨cn, hcn⟩ : ∃ cn, cn = [n3, n4, n5].getD i 0 := ⟨_, rfl⟩
  have e1 : (rLs b S0 [n3, n4, n5] (i + 1)).2 = (rRs b (rLs b S0 [n3, n4, n5] i).2 (j + 1)).2 := by
    show (rRs b (rLs b S0 [n3, n4, n5] i).2 ([n3, n4, n5].getD i 0)).2 = _
    rw [← hcn] at hj ⊢
    have := rRs_stay h (cn - (j + 1))
    rwa [show j + 1 + (cn - (j + 1)) = cn by omega] at this
  have e2 : (rLs b S0 [n3, n4, n5] 3).2 = (rRs b (rLs b S0 [n3, n4, n5] i).2 (j + 1)).2 := by
    have := rLs_stay (k := i + 1) (by rw [e1]; exact h) (3 - (i + 1))
    rw [show i + 1 + (3 - (i + 1)) = 3 by omega] at this
    rw [this, e1]
  simp only [e2, if_neg h]
/-- an error in the questions -/
theorem rest_errQ {b : List UInt8} {n0 n1 n2 n3 n4 n5 k : Nat} (hk : k < n2) (h : (rQs b ⟨12, 0⟩ (k + 1)).2.e ≠ 0) : readRest b n0 n1 n2 n3 n4 n5 = (zM, (rQs b ⟨12, 0⟩ (k + 1)).2.e) := by
  have e1 : (rQs b ⟨12, 0⟩ n2).2 = (rQs b ⟨12, 0⟩ (k + 1)).2 := by
    have := rQs_stay h (n2 - (k + 1))
    rwa [show k + 1 + (n2 - (k + 1)) = n2 by omega] at this
  rw [readRest_eq]
  have e2 : (rLs b (rQs b ⟨12, 0⟩ n2).2 [n3, n4, n5] 3).2 = (rQs b ⟨12, 0⟩ (k + 1)).2 := by
    have h0 : (rLs b (rQs b ⟨12, 0⟩ n2).2 [n3, n4, n5] 0).2.e ≠ 0 := by show (rQs b ⟨12, 0⟩ n2).2.e ≠ 0; rw [e1]; exact h
    have := rLs_stay h0 3
    rw [Nat.zero_add] at this
    rw [this]; exact e1
  simp only [e2, if_neg h]
open Go.RowKit
theorem size_mem {n : List (List UInt8)} {k : Nat} (h : sizeN n ≤ k) : ∀ x ∈ n, x.length ≤ k := by
  induction n with
  | nil => intro x hx; cases hx
  | cons a n ih =>
    simp only [sizeN] at h
    intro x hx
    rcases List.mem_cons.1 hx with rfl | hx
    · omega
    · exact ih (by omega) x hx
set_option maxRecDepth 100000 in
set_option maxHeartbeats 400000 in
theorem names_at (A1 A2 : Option Addr) (c1 c2 L1 L2 : Nat) (a b : List (List UInt8)) (w : World) (B : Nat) (hL1 : a.length = L1) (hL2 : b.length = L2) (h1 : NRd w B A1 c1 a) (h2 : NRd w B A2 c2 b) :
    Calls Tryz.prog 137 #[.slice A1 L1 c1, .slice A2 L2 c2] w fun e w' => e = .returned (.bool (decide (a = b))) ∧ ∃ q, w' = w.drewN q := by
  subst hL1 hL2
  have hc := rcmp_any A1 A2 c1 c2 a b w B h1.1 h2.1 (Nat.le_trans (len_le_size a) h1.2.2) (Nat.le_trans (len_le_size b) h2.2.2) (size_mem h1.2.2) (size_mem h2.2.2)
  have hb : decide (a = b) = (cmpN a b == 0) := by
    rw [Bool.eq_iff_iff]; simp [cmpN_eq]
  rw [hb]
  have HC := Lib.hid hc
  clear hc hb h1 h2
  go_enter Tryz.func137, Tryz.ntmps137
  go_wp2_with (go_at_call 94; refine HC.out.mono ?_; rintro e w1 ⟨rfl, q, rfl⟩)
  go_ret
  exact ⟨rfl, q, rfl⟩
theorem allEq_take {α : Type} {f : α → α → Bool} {l k : List α} {n : Nat} (hl : l.length = n) (hk : k.length = n) (h : ∀ i (h1 : i < l.length) (h2 : i < k.length), i < n → f l[i] k[i] = true) : allEq f l k = true :=
  (allEq_all f l k).2 ⟨by omega, fun i p q => h i p q (by omega)⟩
open Go.RowKit
theorem resR1f {fn : Func} {q : Tmp} (h : fn.results = #[.cell q 42]) (tmps : Array Value) (W : World) (g : Nat) (e : TypeId) (cs : List Value) (hq : tmps[q]? = some (.pointer (some ⟨g, 0, none⟩))) (hx : Vx W g e cs) (hn : cs.length = 9) :
    (results fn tmps).run Tryz.prog W = .ok (.agg cs.toArray) W := by
  simp [results, h, hq, asAddr, hx.loadRf hn]
theorem resM1f {fn : Func} {q : Tmp} (h : fn.results = #[.cell q 47]) (tmps : Array Value) (W : World) (g : Nat) (e : TypeId) (cs : List Value) (hq : tmps[q]? = some (.pointer (some ⟨g, 0, none⟩))) (hx : Vx W g e cs) (hn : cs.length = 6) :
    (results fn tmps).run Tryz.prog W = .ok (.agg cs.toArray) W := by
  simp [results, h, hq, asAddr, hx.loadMf hn]
/-- where the turning stands: the argument's block, the result's, the message's -/
structure Tf (w0 w : World) (R M base : Nat) (bx mc : List Value) : Prop where
  vb : Vx w w0.heap.size 72 bx
  vr : Vx w R 47 zM6
  vm : Vx w M 47 mc
  bl : Below w0.heap.size w0 w
  lo : w0.heap.size < R ∧ R < M
  hi : M < base ∧ base ≤ w.heap.size
section
variable {w0 w w' : World} {R M base : Nat} {bx mc : List Value}
theorem Tf.far (h : Tf w0 w R M base bx mc) (hb : Below w.heap.size w w') : Tf w0 w' R M base bx mc :=
  ⟨h.vb.below hb h.vb.lt, h.vr.below hb h.vr.lt, h.vm.below hb h.vm.lt, h.bl.trans (hb.mono h.bl.size), h.lo, ⟨h.hi.1, Nat.le_trans h.hi.2 hb.size⟩⟩
theorem Tf.gr {v v' : Value} (h : Tf w0 w R M base bx mc) (hg : Gr w w' v v') (hv : ∀ q, v.ownBlock = some q → base ≤ q) : Tf w0 w' R M base bx mc := by
  have hl := h.lo
  have hh := h.hi
  have hb : Below base w w' := hg.below hv hh.2
  exact ⟨h.vb.below hb (by omega), h.vr.below hb (by omega), h.vm.below hb hh.1, h.bl.trans (hb.mono (by omega)), hl, ⟨hh.1, Nat.le_trans hh.2 hb.size⟩⟩
theorem Tf.setM (h : Tf w0 w R M base bx mc) (k : Nat) (u : Value) : Tf w0 (w.setCell ⟨M, k, none⟩ u) R M base bx (mc.set k u) := by
  have hl := h.lo
  have hh := h.hi
  exact ⟨h.vb.setO (by omega) _ _, h.vr.setO (by omega) _ _, h.vm.set_ k u, h.bl.setCell (by show w0.heap.size ≤ M; omega) u, hl, ⟨hh.1, by simpa using hh.2⟩⟩
theorem Tf.setS {k : Nat} {u v : Value} (h : Tf w0 w R M base bx (mc.set k u)) : Tf w0 (w.setCell ⟨M, k, none⟩ v) R M base bx (mc.set k v) := by
  have := h.setM k v
  rwa [set_set_same] at this
end
/-- a question more that is held -/
theorem Held.qF {wr w3 w4 w5 : World} {M k : Nat} {l3 : List QR} {x : QR} {v v5 u : Value} {n : Nat} {c : Nat} {xs : List Value} {B : Nat}
    (HH : Held wr (M + 1) (DQ l3) v) (hO3 : OwM wr (M + 1) c 3 v n xs) (hb3 : Below wr.heap.size wr w3) (hB : wr.heap.size ≤ B) (hw3 : (nmO x.A x.c x.q.nm).ok w3 B) (hb4 : Below w3.heap.size w3 w4) (hle : M + 1 ≤ wr.heap.size) (hg : Gr w4 w5 v v5) : Held (w5.setCell ⟨M, k, none⟩ u) (M + 1) (DQ (l3 ++ [x])) v5 := by
  have h1 := (HH.far hb3).add (nmO x.A x.c x.q.nm) (OwM.mono hw3 (by omega)) (ne_new hO3 hw3 hB)
  have h4 := ((h1.far hb4).gr hg).setL (show M < M + 1 by omega) k u
  refine h4.mono fun o ho => ?_
  obtain ⟨y, hy, e⟩ := ho
  rcases List.mem_append.1 hy with hy | hy
  · exact Or.inr ⟨y, hy, e⟩
  · simp at hy
    subst hy
    exact Or.inl e
/-- a record more that is held -/
theorem Held.rF {wr w3 w4 w5 : World} {M k : Nat} {D : Ob → Prop} {l3 : List RR} {x : RR} {v v5 u : Value} {n : Nat} {c : Nat} {xs : List Value} {B : Nat}
    (HH : Held wr (M + 1) (fun o => D o ∨ DR l3 o) v) (hO3 : OwM wr (M + 1) c 9 v n xs) (hb3 : Below wr.heap.size wr w3) (hB : wr.heap.size ≤ B) (hn : (nmO x.A x.c x.r.q.nm).ok w3 B) (hd : (daO x.dA x.dc x.r.d).ok w3 B) (ht : (nmO x.tA x.tc x.r.tg).ok w3 B) (hb4 : Below w3.heap.size w3 w4) (hle : M + 1 ≤ wr.heap.size) (hg : Gr w4 w5 v v5) : Held (w5.setCell ⟨M, k, none⟩ u) (M + 1) (fun o => D o ∨ DR (l3 ++ [x]) o) v5 := by
  have h0 := HH.far hb3
  have h1 := h0.add (nmO x.A x.c x.r.q.nm) (OwM.mono hn (by omega)) (ne_new hO3 hn (by omega))
  have h2 := h1.add (daO x.dA x.dc x.r.d) (OwM.mono hd (by omega)) (ne_new hO3 hd (by omega))
  have h3 := h2.add (nmO x.tA x.tc x.r.tg) (OwM.mono ht (by omega)) (ne_new hO3 ht (by omega))
  have h4 := ((h3.far hb4).gr hg).setL (show M < M + 1 by omega) k u
  refine h4.mono fun o ho => ?_
  rcases ho with ho | ⟨y, hy, e⟩
  · exact Or.inr (Or.inr (Or.inr (Or.inl ho)))
  · rcases List.mem_append.1 hy with hy | hy
    · exact Or.inr (Or.inr (Or.inr (Or.inr ⟨y, hy, e⟩)))
    · simp at hy
      subst hy
      rcases e with e | e | e
      · exact Or.inr (Or.inr (Or.inl e))
      · exact Or.inr (Or.inl e)
      · exact Or.inl e
theorem take_map_snoc {α β : Type} (f : α → β) (l : List α) (k : Nat) (h : k < l.length) : (l.take (k + 1)).map f = (l.take k).map f ++ [f l[k]] := by
  rw [List.take_add_one, List.map_append, List.getElem?_eq_getElem h]; rfl
/-- names that can be copied -/
def Cpy (x : MR) : Prop := (∀ q ∈ x.qs, q.q.nm.length * 16 ≤ 140737488351232) ∧ ∀ i, ∀ r ∈ x.rl i, r.r.q.nm.length * 16 ≤ 140737488351232 ∧ r.r.tg.length * 16 ≤ 140737488351232
open Go.RowKit
/-- strings and bytes of blocks from B on were written -/
structure Spo (B : Nat) (w w' : World) : Prop where
  bl : Below B w w'
  st : ∀ (g : Nat) (cs : Array Value), w.heap[g]? = some (Obj.cells cs 9 (0, 0)) → ∃ cs' : Array Value, w'.heap[g]? = some (Obj.cells cs' 9 (0, 0)) ∧ cs'.size = cs.size
  by_ : ∀ (g : Nat) (cs : Array Value), w.heap[g]? = some (Obj.cells cs 5 (0, 0)) → ∃ cs' : Array Value, w'.heap[g]? = some (Obj.cells cs' 5 (0, 0)) ∧ ∀ k : Nat, (∃ z : Nat, z < 256 ∧ cs[k]? = some (.int .u8 (z : Int))) → (∃ z : Nat, z < 256 ∧ cs'[k]? = some (.int .u8 (z : Int)))
  ot : ∀ (g : Nat) (cs : Array Value) (e : TypeId), e ≠ 9 → e ≠ 5 → w.heap[g]? = some (Obj.cells cs e (0, 0)) → w'.heap[g]? = some (Obj.cells cs e (0, 0))
theorem Spo.refl (B : Nat) (w : World) : Spo B w w := ⟨Below.refl _ _, fun g cs h => ⟨cs, h, rfl⟩, fun g cs h => ⟨cs, h, fun _ h => h⟩, fun _ _ _ _ _ h => h⟩
theorem Spo.trans {B : Nat} {a b c : World} (h : Spo B a b) (k : Spo B b c) : Spo B a c := by
  refine ⟨h.bl.trans k.bl, fun g cs hg => ?_, fun g cs hg => ?_, fun g cs e h1 h2 hg => k.ot g cs e h1 h2 (h.ot g cs e h1 h2 hg)⟩
  · obtain ⟨c1, h1, h2⟩ := h.st g cs hg
    obtain ⟨c2, h3, h4⟩ := k.st g c1 h1
    exact ⟨c2, h3, h4.trans h2⟩
  · obtain ⟨c1, h1, h2⟩ := h.by_ g cs hg
    obtain ⟨c2, h3, h4⟩ := k.by_ g c1 h1
    exact ⟨c2, h3, fun j hj => h4 j (h2 j hj)⟩
theorem Spo.of {B : Nat} {w w' : World} (h : Below w.heap.size w w') (hB : B ≤ w.heap.size) : Spo B w w' := by
  have hk : ∀ g o, w.heap[g]? = some o → w'.heap[g]? = some o := fun g o hg => (h.block g (kp_lt hg)).trans hg
  exact ⟨h.mono hB, fun g cs hg => ⟨cs, hk g _ hg, rfl⟩, fun g cs hg => ⟨cs, hk g _ hg, fun _ h => h⟩, fun g cs e _ _ hg => hk g _ hg⟩
theorem Spo.setS {B b k : Nat} {w : World} {cs : Array Value} (h : w.heap[b]? = some (Obj.cells cs 9 (0, 0))) (hb : B ≤ b) (u : Value) : Spo B w (w.setCell ⟨b, k, none⟩ u) := by
  have h1 := heap_setCell_same w b k cs _ u h
  have h2 : ∀ g, g ≠ b → (w.setCell ⟨b, k, none⟩ u).heap[g]? = w.heap[g]? := fun g hg => heap_setCell_other w ⟨b, k, none⟩ g u hg
  refine ⟨(Below.refl B w).setCell hb u, fun g c hg => ?_, fun g c hg => ?_, fun g c e e1 e2 hg => ?_⟩
  · by_cases e : g = b
    · subst e
      rw [h] at hg
      injection hg with hg
      injection hg with hg
      subst hg
      exact ⟨_, h1, by simp⟩
    · exact ⟨c, (h2 g e).trans hg, rfl⟩
  · by_cases e : g = b
    · subst e
      rw [h] at hg
      injection hg with hg
      injection hg with _ hg
      exact absurd hg (by decide)
    · exact ⟨c, (h2 g e).trans hg, fun _ h => h⟩
  · by_cases e0 : g = b
    · subst e0
      rw [h] at hg
      injection hg with hg
      injection hg with _ hg
      exact absurd hg.symm e1
    · exact (h2 g e0).trans hg
theorem Spo.setU {B b k : Nat} {w : World} {cs : Array Value} (h : w.heap[b]? = some (Obj.cells cs 5 (0, 0))) (hb : B ≤ b) (z : Nat) (hz : z < 256) : Spo B w (w.setCell ⟨b, k, none⟩ (.int .u8 (z : Int))) := by
  have h1 := heap_setCell_same w b k cs _ (.int .u8 (z : Int)) h
  have h2 : ∀ g, g ≠ b → (w.setCell ⟨b, k, none⟩ (.int .u8 (z : Int))).heap[g]? = w.heap[g]? := fun g hg => heap_setCell_other w ⟨b, k, none⟩ g _ hg
  refine ⟨(Below.refl B w).setCell hb _, fun g c hg => ?_, fun g c hg => ?_, fun g c e e1 e2 hg => ?_⟩
  · by_cases e : g = b
    · subst e
      rw [h] at hg
      injection hg with hg
      injection hg with _ hg
      exact absurd hg (by decide)
    · exact ⟨c, (h2 g e).trans hg, rfl⟩
  · by_cases e : g = b
    · subst e
      rw [h] at hg
      injection hg with hg
      injection hg with hg
      subst hg
      refine ⟨_, h1, fun j hj => ?_⟩
      obtain ⟨y, hy1, hy2⟩ := hj
      by_cases hjk : k = j
      · subst hjk
        refine ⟨z, hz, ?_⟩
        have hlt : k < cs.size := by
          rcases Nat.lt_or_ge k cs.size with h3 | h3
          · exact h3
          · rw [Array.getElem?_eq_none h3] at hy2; cases hy2
        rw [Array.getElem?_setIfInBounds_self_of_lt hlt]
      · exact ⟨y, hy1, by rw [Array.getElem?_setIfInBounds_ne hjk]; exact hy2⟩
    · exact ⟨c, (h2 g e).trans hg, fun _ h => h⟩
  · by_cases e0 : g = b
    · subst e0
      rw [h] at hg
      injection hg with hg
      injection hg with _ hg
      exact absurd hg.symm e2
    · exact (h2 g e0).trans hg
/-- room for n strings, and n bytes, from block B on -/
def TS (w : World) (B : Nat) (A : Option Addr) (n : Nat) : Prop := 0 < n → ∃ (g : Nat) (cs : Array Value), A = some ⟨g, 0, none⟩ ∧ B ≤ g ∧ w.heap[g]? = some (Obj.cells cs 9 (0, 0)) ∧ n ≤ cs.size
def TU (w : World) (B : Nat) (A : Option Addr) (n : Nat) : Prop := 0 < n → ∃ (g : Nat) (cs : Array Value), A = some ⟨g, 0, none⟩ ∧ B ≤ g ∧ w.heap[g]? = some (Obj.cells cs 5 (0, 0)) ∧ ∀ k, k < n → ∃ z : Nat, z < 256 ∧ cs[k]? = some (.int .u8 (z : Int))
theorem TS.spo {w w' : World} {B n : Nat} {A : Option Addr} (h : TS w B A n) (s : Spo B w w') : TS w' B A n := fun hn => by
  obtain ⟨g, cs, h1, h2, h3, h4⟩ := h hn
  obtain ⟨c2, h5, h6⟩ := s.st g cs h3
  exact ⟨g, c2, h1, h2, h5, by omega⟩
theorem TU.spo {w w' : World} {B n : Nat} {A : Option Addr} (h : TU w B A n) (s : Spo B w w') : TU w' B A n := fun hn => by
  obtain ⟨g, cs, h1, h2, h3, h4⟩ := h hn
  obtain ⟨c2, h5, h6⟩ := s.by_ g cs h3
  exact ⟨g, c2, h1, h2, h5, fun k hk => h6 k (h4 k hk)⟩
theorem TS.of {w : World} {B c : Nat} {A : Option Addr} {n : List (List UInt8)} (h : (nmO A c n).ok w B) : TS w B A n.length := fun hn => by
  obtain ⟨h1, h2 | ⟨g, cap, cur, h3, h4, h5, h6, h7, h8, h9⟩⟩ := h
  · obtain ⟨_, h3⟩ := h2
    simp [nmO] at h3
    subst h3
    cases hn
  · simp only [nmO] at h3 h5 h6 h8
    injection h3 with e1 e2 e3
    exact ⟨g, cur, e1, h4, h5, by omega⟩
theorem TU.of {w : World} {B c : Nat} {A : Option Addr} {d : List UInt8} (h : (daO A c d).ok w B) : TU w B A d.length := fun hn => by
  obtain ⟨h1, h2 | ⟨g, cap, cur, h3, h4, h5, h6, h7, h8, h9⟩⟩ := h
  · obtain ⟨_, h3⟩ := h2
    simp [daO] at h3
    subst h3
    cases hn
  · simp only [daO] at h3 h5 h6 h8 h9
    injection h3 with e1 e2 e3
    refine ⟨g, cur, e1, h4, h5, fun k hk => ⟨d[k].toNat, d[k].toNat_lt, ?_⟩⟩
    have h10 : (cur.toList.take (d.length * 1))[k]? = some (.int .u8 (d[k].toNat : Int)) := by
      rw [bc_length] at h9
      rw [h9]
      simp [bc, hk]
    rw [List.getElem?_take_of_lt (by omega)] at h10
    simpa using h10
theorem OwM.spo {w w' : World} {B base s n : Nat} {e : TypeId} {v : Value} {xs : List Value} (h : OwM w base e s v n xs) (h1 : e ≠ 9) (h2 : e ≠ 5) (k : Spo B w w') : OwM w' base e s v n xs := by
  obtain ⟨a, hb | ⟨g, cap, cur, h3, h4, h5, h6⟩⟩ := h
  · exact ⟨a, Or.inl hb⟩
  · exact ⟨a, Or.inr ⟨g, cap, cur, h3, h4, k.ot g cur e h1 h2 h5, h6⟩⟩
/-- what is read has names that can be copied -/
theorem cpy_of {x : MR} {b : List UInt8} (hx : x.m = (readM b).1) : Cpy x := by
  have hn : ∀ n : List (List UInt8), rightN n = true → n.length * 16 ≤ 140737488351232 := fun n h => by
    have h1 := size_right h
    have h2 := len_le_size n
    omega
  have hR : rightM x.m = true := by
    rw [hx]
    by_cases h0 : (readM b).2 = 0
    · exact (read_ok h0).1
    · rw [read_err h0]; rfl
  obtain ⟨a0, a1, a2, a3⟩ := resW hR
  refine ⟨fun q hq => hn _ (a0 q hq), fun i r hr => ?_⟩
  have hrr : rightR r.r = true := by
    match i, hr with
    | 0, hr => exact a1 r hr
    | 1, hr => exact a2 r hr
    | k + 2, hr => exact a3 r hr
  refine ⟨hn _ (rightR_nm hrr), ?_⟩
  have hn2 := rightR_nm hrr
  unfold rightR at hrr
  rw [if_pos hn2] at hrr
  split at hrr
  · split at hrr
    · exact hn _ hrr
    · cases hrr
  · have := (of_decide_eq_true hrr).2.2.2.2
    omega
theorem rows_of {w w' : World} {B : Nat} {x : MR} (h : MOw w B x) (hb : Below w.heap.size w w') (i : Nat) (hi : i < 3) : (rwR (x.rA i) (x.rc i) (x.rl i)).ok w' B ∧ ∀ o, DR (x.rl i) o → o.ok w' B := by
  rcases (show i = 0 ∨ i = 1 ∨ i = 2 by omega) with rfl | rfl | rfl
  · exact ⟨h.a.far hb, fun o ho => (h.r0 o ho).far hb⟩
  · exact ⟨h.b.far hb, fun o ho => (h.r1 o ho).far hb⟩
  · exact ⟨h.c.far hb, fun o ho => (h.r2 o ho).far hb⟩
theorem rows_at {w : World} {B c : Nat} {e : TypeId} {A : Option Addr} {l : List RR} (h : OwM w B e 9 (.slice A l.length c) l.length (rcs l)) {k : Nat} (hk : k < l.length) : ∃ b o, A = some ⟨b, o, none⟩ ∧ b < w.heap.size ∧ Nine w b (o + k * 9) l[k] := by
  obtain ⟨b, o, hA, hb, hc⟩ := (OwM.rd h).2 (by omega)
  refine ⟨b, o, hA, hb, fun j u hu => ?_⟩
  have hj : j < 9 := by
    rcases Nat.lt_or_ge j 9 with h1 | h1
    · exact h1
    · rw [List.getElem?_eq_none (by simpa using h1)] at hu; cases hu
  rw [Nat.add_assoc]
  exact hc _ u ((rcs_get l k j hk hj).trans hu)
end Go.Proofs.YtlipmlbijddopaaGreatDoor
