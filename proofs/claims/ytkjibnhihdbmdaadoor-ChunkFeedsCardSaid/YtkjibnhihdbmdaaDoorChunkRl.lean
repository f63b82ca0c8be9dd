/-
  The reference gaugerref19: a line.
-/
import Derived.Test.YtkjibnhihdbmdaaDoorChunkRf
import Derived.Test.YtkjibnhihdbmdaaDoorApp0
import Derived.Deep.RegionHeld3
import Derived.Deep.DeepCutAuto
set_option linter.unusedVariables false
set_option linter.unusedSimpArgs false
namespace Go.Proofs.YtkjibnhihdbmdaaDoor
open Go.RowKit
/-- a reading in a block of its own -/
def Bx (w : World) (g : Nat) (cs : List Value) : Prop := w.heap[g]? = some (.cells cs.toArray 76)
theorem Bx.cell {w : World} {g : Nat} {cs : List Value} (h : Bx w g cs) (k : Nat) : w.cell? ⟨g, k, none⟩ = cs[k]? := by
  rw [cell_of_row w g k cs.toArray _ _ h]; simp
theorem Bx.free {w : World} {g : Nat} {cs : List Value} (h : Bx w g cs) (k : Nat) : w.frozen? ⟨g, k, none⟩ = false := by
  unfold Bx at h
  simp [World.frozen?, h]
theorem Bx.lt {w : World} {g : Nat} {cs : List Value} (h : Bx w g cs) : g < w.heap.size := kp_lt h
theorem Bx.below {w w' : World} {B g : Nat} {cs : List Value} (h : Bx w g cs) (hb : Below B w w') (hg : g < B) : Bx w' g cs := (hb.block g hg).trans h
theorem Bx.alloc {w : World} {g : Nat} {cs : List Value} (h : Bx w g cs) (o : Obj) : Bx (w.alloc o) g cs := (Below.heap_alloc w o g (kp_lt h)).trans h
theorem Bx.new (w : World) (cs : List Value) : Bx (w.alloc (.cells cs.toArray 76)) w.heap.size cs := heap_alloc_new w _
theorem Bx.set_ {w : World} {g : Nat} {cs : List Value} (h : Bx w g cs) (k : Nat) (v : Value) : Bx (w.setCell ⟨g, k, none⟩ v) g (cs.set k v) := by
  unfold Bx
  rw [heap_setCell_same w g k cs.toArray _ v h]
  simp
theorem Bx.setO {w : World} {g g' : Nat} {cs : List Value} (h : Bx w g cs) (hn : g ≠ g') (k : Nat) (v : Value) : Bx (w.setCell ⟨g', k, none⟩ v) g cs := (heap_setCell_other w _ g v hn).trans h
theorem Bx.row {w : World} {g : Nat} {cs : List Value} (h : Bx w g cs) (ds : List Value) : Bx (w.setRow g ds.toArray) g ds := setRow_heap w g cs.toArray ds.toArray _ _ h
theorem Bx.rowO {w : World} {g g' : Nat} {cs : List Value} (h : Bx w g cs) (hn : g ≠ g') (ds : Array Value) : Bx (w.setRow g' ds) g cs := (setRow_other w g' g ds hn).trans h
theorem Bx.load {w : World} {g : Nat} {cs : List Value} (h : Bx w g cs) (hn : cs.length = 5) : (loadVar 76 ⟨g, 0, none⟩).run Tryd.prog w = .ok (.agg cs.toArray) w :=
  run_loadVar_row w g _ _ cs.toArray _ _ h Tryd.underlying76 rfl (by rw [List.size_toArray, hn]; kernel_rfl)
theorem Bx.store {w : World} {g : Nat} {cs : List Value} (h : Bx w g cs) (hn : cs.length = 5) (ds : List Value) (hd : ds.length = 5) (h1 : ds.all (·.oneCell') = true) : (storeVar 76 ⟨g, 0, none⟩ (.agg ds.toArray)).run Tryd.prog w = .ok () (w.setRow g ds.toArray) :=
  run_storeVar_row w g _ _ cs.toArray ds.toArray h (by rw [List.size_toArray, hd]; kernel_rfl) (by simp [hn, hd]) (by simpa using h1)
abbrev zero5 : List Value := [.int .i64 0, .int .i64 0, .bool false, .slice none 0 0, .slice none 0 0]
abbrev rg5 (at_ : Nat) (bad : Int) (d : Bool) (vb vt : Value) : List Value := [.int .i64 (at_ : Int), .int .i64 bad, .bool d, vb, vt]
theorem Bx.cells {w : World} {g : Nat} {a b c d e : Value} (h : Bx w g [a, b, c, d, e]) : w.cell? ⟨g, 0, none⟩ = some a ∧ w.cell? ⟨g, 1, none⟩ = some b ∧ w.cell? ⟨g, 2, none⟩ = some c ∧ w.cell? ⟨g, 3, none⟩ = some d ∧ w.cell? ⟨g, 4, none⟩ = some e := ⟨h.cell 0, h.cell 1, h.cell 2, h.cell 3, h.cell 4⟩
theorem Bx.frees {w : World} {g : Nat} {cs : List Value} (h : Bx w g cs) : w.frozen? ⟨g, 0, none⟩ = false ∧ w.frozen? ⟨g, 1, none⟩ = false ∧ w.frozen? ⟨g, 2, none⟩ = false ∧ w.frozen? ⟨g, 3, none⟩ = false ∧ w.frozen? ⟨g, 4, none⟩ = false := ⟨h.free 0, h.free 1, h.free 2, h.free 3, h.free 4⟩
theorem Bx.drew {w : World} {g : Nat} {cs : List Value} (h : Bx w g cs) : Bx w.drew g cs := h
theorem lineL_10 (l own : List UInt8) (k : Nat) : lineL (10 :: l) own k = .stop k 191 := by rw [lineL.eq_def]; simp
theorem lineL_256 {y : UInt8} {l own : List UInt8} {k : Nat} (h1 : y ≠ 13) (h2 : y ≠ 10) (h3 : own.length = 256) : lineL (y :: l) own k = .stop k 5 := by rw [lineL.eq_def]; simp [h1, h2, h3]
theorem lineL_go {y : UInt8} {l own : List UInt8} {k : Nat} (h1 : y ≠ 13) (h2 : y ≠ 10) (h3 : own.length ≠ 256) : lineL (y :: l) own k = lineL l (own ++ [y]) (k + 1) := by rw [lineL.eq_def]; simp [h1, h2, h3]
theorem lineL_13n (own : List UInt8) (k : Nat) : lineL [13] own k = .stop (k + 1) 0 := by rw [lineL.eq_def]; simp
theorem lineL_13o (l own : List UInt8) (k : Nat) : lineL (13 :: 10 :: l) own k = .ok own l (k + 2) := by rw [lineL.eq_def]; simp
theorem lineL_13x {d : UInt8} (l own : List UInt8) (k : Nat) (h : d ≠ 10) : lineL (13 :: d :: l) own k = .stop (k + 1) 191 := by rw [lineL.eq_def]; simp [h]
theorem set5_bx {w : World} {g : Nat} {zs : List Value} (h : Bx w g zs) (hz : zs.length = 5) (a b c d e : Value) : Bx (((((w.setCell ⟨g, 0, none⟩ a).setCell ⟨g, 1, none⟩ b).setCell ⟨g, 2, none⟩ c).setCell ⟨g, 3, none⟩ d).setCell ⟨g, 4, none⟩ e) g [a, b, c, d, e] := by
  have := ((((h.set_ 0 a).set_ 1 b).set_ 2 c).set_ 3 d).set_ 4 e
  match zs, hz with
  | [_, _, _, _, _], _ => exact this
theorem set5_below {w : World} {B g : Nat} (hB : B ≤ g) (a b c d e : Value) : Below B w (((((w.setCell ⟨g, 0, none⟩ a).setCell ⟨g, 1, none⟩ b).setCell ⟨g, 2, none⟩ c).setCell ⟨g, 3, none⟩ d).setCell ⟨g, 4, none⟩ e) :=
  (((((Below.refl B w).setCell hB a).setCell hB b).setCell hB c).setCell hB d).setCell hB e
theorem set5_size {w : World} {g : Nat} (a b c d e : Value) : (((((w.setCell ⟨g, 0, none⟩ a).setCell ⟨g, 1, none⟩ b).setCell ⟨g, 2, none⟩ c).setCell ⟨g, 3, none⟩ d).setCell ⟨g, 4, none⟩ e).heap.size = w.heap.size := by simp
theorem res3 {fn : Func} {p q r : Tmp} (h : fn.results = #[.tmp p, .cell q 76, .tmp r]) (tmps : Array Value) (W : World) (g : Nat) (cs : List Value) (vp vr : Value) (hp : tmps[p]? = some vp) (hq : tmps[q]? = some (.pointer (some ⟨g, 0, none⟩))) (hr : tmps[r]? = some vr) (hx : Bx W g cs) (hn : cs.length = 5) :
    (results fn tmps).run Tryd.prog W = .ok (.tuple #[vp, .agg cs.toArray, vr]) W := by
  simp [results, h, hp, hq, hr, asAddr, hx.load hn]
theorem ow_setO {w : World} {base : Nat} {e : TypeId} {v : Value} {xs : List Value} (h : Ow w base e v xs) {g : Nat} (hg : g < base) (k : Nat) (u : Value) : Ow (w.setCell ⟨g, k, none⟩ u) base e v xs :=
  ownsRow_setCell_other (a := ⟨g, k, none⟩) h (fun e => by have := h.lt _ e; simp at this; omega) u
theorem ow_set5 {w : World} {base : Nat} {et : TypeId} {v : Value} {xs : List Value} (h : Ow w base et v xs) {g : Nat} (hg : g < base) (a b c d e : Value) : Ow (((((w.setCell ⟨g, 0, none⟩ a).setCell ⟨g, 1, none⟩ b).setCell ⟨g, 2, none⟩ c).setCell ⟨g, 3, none⟩ d).setCell ⟨g, 4, none⟩ e) base et v xs :=
  ow_setO (ow_setO (ow_setO (ow_setO (ow_setO h hg 0 a) hg 1 b) hg 2 c) hg 3 d) hg 4 e
theorem after_size {wr w1 : World} {a : Addr} {u : Value} (hb : Below (wr.setCell a u).heap.size (wr.setCell a u) w1) : wr.heap.size ≤ w1.heap.size := by
  have := hb.size
  simpa using this
theorem after_below {w wr w1 : World} {u : Value} (hB : Below w.heap.size w wr) (hb : Below (wr.setCell ⟨w.heap.size, 0, none⟩ u).heap.size (wr.setCell ⟨w.heap.size, 0, none⟩ u) w1) : Below w.heap.size w w1 :=
  (hB.setCell (show w.heap.size ≤ (⟨w.heap.size, 0, none⟩ : Addr).block from Nat.le_refl _) u).trans (hb.mono (by have := hB.size; simpa using this))
theorem after_lt {wr : World} {a : Addr} {u : Value} {g : Nat} {cs : List Value} (h : Bx wr g cs) : g < (wr.setCell a u).heap.size := by
  have := h.lt
  simpa using this
theorem below_al {w w' : World} (h : Below w.heap.size w w') (o : Obj) : Below w.heap.size w (w'.alloc o) := h.alloc h.size o
theorem rd_dr {w : World} {A : Option Addr} {n : Nat} {xs : List Value} (h : Rd w w.heap.size A n xs) : Rd w.drew w.drew.heap.size A n xs := h
def LinePost (A : Option Addr) (L : Nat) (l : List UInt8) (at_ : Nat) (vb vt : Value) (w : World) (e : Ending) (w' : World) : Prop :=
  Below w.heap.size w w' ∧ match lineL (l.drop at_) [] at_ with
    | .stop a b => ∃ vl, e = .returned (.tuple #[vl, rgV a b false vb vt, .bool false])
    | .ok o _ a => ∃ A' c', o.length ≤ c' ∧ e = .returned (.tuple #[.slice A' o.length c', rgV a 0 false vb vt, .bool true]) ∧ Rd w' w'.heap.size A' o.length (bc o)
set_option maxRecDepth 100000 in
set_option maxHeartbeats 4000000 in
theorem line_at (A : Option Addr) (c L : Nat) (l : List UInt8) (at_ : Nat) (Ab : Option Addr) (nb cb : Nat) (At : Option Addr) (nt ct : Nat) (w : World) (hL : l.length = L) (hr : Rd w w.heap.size A L (bc l)) (ha : at_ ≤ L) (hl : L ≤ 140737488355328) :
    Calls Tryd.prog 81 #[.slice A L c, rgV at_ 0 false (.slice Ab nb cb) (.slice At nt ct), .slice none 0 0] w (LinePost A L l at_ (.slice Ab nb cb) (.slice At nt ct) w) := by
  obtain ⟨i0, hi, hi0, hi1, hi2⟩ := info_parts Tryd.clInfoByte
  unfold rgV
  have HR := Lib.hid hr
  have HL := Lib.hid hL
  clear hr hL
  go_enter Tryd.func81, Tryd.ntmps81
  go_wp2_with fail
  have hb0 : Below w.heap.size w ((w.alloc (.cells (rg5 at_ 0 false (.slice Ab nb cb) (.slice At nt ct)).toArray 76)).alloc (.cells zero5.toArray 76)) := below_two _ _
  go_loopw [2] (fun v2 wr => ∃ (k : Nat) (own : List UInt8) (A2 : Option Addr) (c2 : Nat), k ≤ L ∧ own.length ≤ 256 ∧ v2 = .slice A2 own.length c2 ∧ own.length ≤ c2 ∧ Hid (Bx wr w.heap.size (rg5 k 0 false (.slice Ab nb cb) (.slice At nt ct))) ∧ Hid (Bx wr (w.heap.size + 1) zero5) ∧ Hid (Ow wr (w.heap.size + 2) 5 (.slice A2 own.length c2) (bc own)) ∧ Hid (lineL (l.drop at_) [] at_ = lineL (l.drop k) own k) ∧ Hid (Below w.heap.size w wr)) (fun v2 _ => 300 - lenOf v2)
  case atStart =>
    refine ⟨at_, [], none, 0, ha, by simp, rfl, Nat.le_refl _, Lib.hid ((Bx.new w _).alloc _), Lib.hid ?_, Lib.hid (Ow.nil _ _ _), Lib.hid rfl, Lib.hid hb0⟩
    have := Bx.new (w.alloc (.cells (rg5 at_ 0 false (.slice Ab nb cb) (.slice At nt ct)).toArray 76)) zero5
    rw [show (w.alloc (.cells (rg5 at_ 0 false (.slice Ab nb cb) (.slice At nt ct)).toArray 76)).heap.size = w.heap.size + 1 by simp] at this
    exact this
  case round =>
    clear hb0
    obtain ⟨k, own, A2, c2, hk, hown, rfl, hc2, HG, HZ, HO, HE, HB⟩ := hrel
    obtain ⟨hcg0, hcg1, hcg2, hcg3, hcg4⟩ := HG.out.cells
    obtain ⟨hfg0, hfg1, hfg2, hfg3, hfg4⟩ := HG.out.frees
    obtain ⟨hcz0, hcz1, hcz2, hcz3, hcz4⟩ := HZ.out.cells
    obtain ⟨hfz0, hfz1, hfz2, hfz3, hfz4⟩ := HZ.out.frees
    have hlt := HG.out.lt
    have hlt2 := HZ.out.lt
    rcases Nat.lt_or_ge k L with hkl | hkl
    · obtain ⟨y, hy⟩ : ∃ y, l[k]? = some y := ⟨l[k]'(by have := HL.out; omega), List.getElem?_eq_getElem (by have := HL.out; omega)⟩
      have hdk : l.drop k = y :: l.drop (k + 1) := by
        obtain ⟨h1, h2⟩ := List.getElem?_eq_some_iff.1 hy
        rw [List.drop_eq_getElem_cons h1, h2]
      obtain ⟨b, o, rfl, hb1, hcells⟩ := (HR.out.below HB.out).at_ (k := k) hkl
      have hx := hcells k (.int .u8 (y.toNat : Int)) (by simp [bc, hy])
      rw [hdk] at HE
      clear hcells hdk
      by_cases h13 : y = 13
      · subst h13
        have HRs := Lib.hid (show Rd (wr.setCell ⟨w.heap.size, 0, none⟩ (.int .i64 ((k : Int) + 1))) (wr.setCell ⟨w.heap.size, 0, none⟩ (.int .i64 ((k : Int) + 1))).heap.size (some ⟨b, o, none⟩) L (bc l) from rd_step (w := w) HR.out (HB.out.setCell (show w.heap.size ≤ (⟨w.heap.size, 0, none⟩ : Addr).block from Nat.le_refl _) _))
        rcases Nat.lt_or_ge (k + 1) L with hk1 | hk1
        · obtain ⟨z, hz⟩ : ∃ z, l[k + 1]? = some z := ⟨l[k + 1]'(by have := HL.out; omega), List.getElem?_eq_getElem (by have := HL.out; omega)⟩
          have hdz : l.drop (k + 1) = z :: l.drop (k + 2) := by
            obtain ⟨h1, h2⟩ := List.getElem?_eq_some_iff.1 hz
            rw [List.drop_eq_getElem_cons h1, h2]
          rw [hdz] at HE
          clear hdz
          have HY := Lib.hid hz
          clear hz
          by_cases hz10 : z = 10
          · subst hz10
            have HF := Lib.hid (HE.out.trans (lineL_13o _ own k))
            clear HE
            go_wp2_with (go_at_call 65; refine (wants_okI (some ⟨b, o, none⟩) c L l (k + 1) 0 false Ab nb cb At nt ct 10 ((k : Int) + 1) 10 (wr.setCell ⟨w.heap.size, 0, none⟩ (.int .i64 ((k : Int) + 1))) (by omega) rfl HY.out HL.out HRs.out hl).mono ?_; rintro e w1 ⟨rfl, hb1⟩; have hs1 := after_size hb1; have HZ1 := Lib.hid ((HZ.out.setO (g' := w.heap.size) (by omega) 0 (.int .i64 ((k : Int) + 1))).below hb1 (after_lt HZ.out)); have HB1 := Lib.hid (after_below HB.out hb1); have HO1 := Lib.hid ((ow_setO HO.out (g := w.heap.size) (by omega) 0 (.int .i64 ((k : Int) + 1))).far hb1); obtain ⟨hcy0, hcy1, hcy2, hcy3, hcy4⟩ := HZ1.out.cells; obtain ⟨hfy0, hfy1, hfy2, hfy3, hfy4⟩ := HZ1.out.frees; have hlt1 : w.heap.size + 1 < w1.heap.size := (by omega); clear hb1)
            go_region
            go_wp2_with fail
            refine bodyPost_ret (res3 Tryd.results81 _ _ (w.heap.size + 1) _ _ _ rfl rfl rfl ((set5_bx HZ1.out rfl _ _ _ _ _).alloc _).drew rfl) rfl ?_
            unfold LinePost
            rw [HF.out]
            exact ⟨(below_al (HB1.out.trans (set5_below (by omega) _ _ _ _ _)) _).drew, A2, c2, hc2, rfl, rd_dr (ow_rd ((ow_set5 HO1.out (by omega) _ _ _ _ _).alloc _))⟩
          · have HF := Lib.hid (HE.out.trans (lineL_13x _ own k hz10))
            have HN := Lib.hid hz10
            clear HE hz10
            go_wp2_with (go_at_call 65; refine (wants_noI (some ⟨b, o, none⟩) c L l (k + 1) 0 false Ab nb cb At nt ct 10 z ((k : Int) + 1) 10 (wr.setCell ⟨w.heap.size, 0, none⟩ (.int .i64 ((k : Int) + 1))) (by omega) rfl HY.out HN.out HL.out HRs.out hl).mono ?_; rintro e w1 ⟨rfl, hb1⟩; have hs1 := after_size hb1; have HZ1 := Lib.hid ((HZ.out.setO (g' := w.heap.size) (by omega) 0 (.int .i64 ((k : Int) + 1))).below hb1 (after_lt HZ.out)); have HB1 := Lib.hid (after_below HB.out hb1); have HO1 := Lib.hid ((ow_setO HO.out (g := w.heap.size) (by omega) 0 (.int .i64 ((k : Int) + 1))).far hb1); obtain ⟨hcy0, hcy1, hcy2, hcy3, hcy4⟩ := HZ1.out.cells; obtain ⟨hfy0, hfy1, hfy2, hfy3, hfy4⟩ := HZ1.out.frees; have hlt1 : w.heap.size + 1 < w1.heap.size := (by omega); clear hb1)
            go_region
            go_wp2_with fail
            refine bodyPost_ret (res3 Tryd.results81 _ _ (w.heap.size + 1) _ _ _ rfl rfl rfl ((set5_bx HZ1.out rfl _ _ _ _ _).alloc _).drew rfl) rfl ?_
            unfold LinePost
            rw [HF.out]
            exact ⟨(below_al (HB1.out.trans (set5_below (by omega) _ _ _ _ _)) _).drew, _, rfl⟩
        · obtain rfl : k + 1 = L := by omega
          have HF := Lib.hid (show lineL (l.drop at_) [] at_ = .stop (k + 1) 0 by rw [HE.out, List.drop_of_length_le (by have := HL.out; omega)]; exact lineL_13n own k)
          clear HE
          go_wp2_with (go_at_call 65; refine (wants_endI (some ⟨b, o, none⟩) c (k + 1) 0 false Ab nb cb At nt ct 10 ((k : Int) + 1) 10 (wr.setCell ⟨w.heap.size, 0, none⟩ (.int .i64 ((k : Int) + 1))) (by omega) rfl).mono ?_; rintro e w1 ⟨rfl, hb1⟩; have hs1 := after_size hb1; have HZ1 := Lib.hid ((HZ.out.setO (g' := w.heap.size) (by omega) 0 (.int .i64 ((k : Int) + 1))).below hb1 (after_lt HZ.out)); have HB1 := Lib.hid (after_below HB.out hb1); have HO1 := Lib.hid ((ow_setO HO.out (g := w.heap.size) (by omega) 0 (.int .i64 ((k : Int) + 1))).far hb1); obtain ⟨hcy0, hcy1, hcy2, hcy3, hcy4⟩ := HZ1.out.cells; obtain ⟨hfy0, hfy1, hfy2, hfy3, hfy4⟩ := HZ1.out.frees; have hlt1 : w.heap.size + 1 < w1.heap.size := (by omega); clear hb1)
          go_region
          go_wp2_with fail
          refine bodyPost_ret (res3 Tryd.results81 _ _ (w.heap.size + 1) _ _ _ rfl rfl rfl ((set5_bx HZ1.out rfl _ _ _ _ _).alloc _).drew rfl) rfl ?_
          unfold LinePost
          rw [HF.out]
          exact ⟨(below_al (HB1.out.trans (set5_below (by omega) _ _ _ _ _)) _).drew, _, rfl⟩
      · by_cases h10 : y = 10
        · have hfin : lineL (l.drop at_) [] at_ = .stop k 191 := by rw [HE.out, h10]; exact lineL_10 _ _ _
          have HF := Lib.hid hfin
          subst h10
          clear HE hfin h13
          go_wp2_with fail
          go_region
          go_wp2_with fail
          refine bodyPost_ret (res3 Tryd.results81 _ _ (w.heap.size + 1) _ _ _ rfl rfl rfl (set5_bx (HZ.out.setO (by omega) 1 (.int .i64 191)) rfl _ _ _ _ _).drew rfl) rfl ?_
          unfold LinePost
          rw [HF.out]
          exact ⟨((HB.out.setCell (Nat.le_refl _) _).trans (set5_below (by omega) _ _ _ _ _)).drew, _, rfl⟩
        · have hn13 : ((y.toNat : Int) == 13) = false := beq_eq_false_iff_ne.2 (fun e => h13 (UInt8.toNat_inj.1 (show y.toNat = (13 : UInt8).toNat by have : (13 : UInt8).toNat = 13 := rfl; omega)))
          have hn10 : ((y.toNat : Int) == 10) = false := beq_eq_false_iff_ne.2 (fun e => h10 (UInt8.toNat_inj.1 (show y.toNat = (10 : UInt8).toNat by have : (10 : UInt8).toNat = 10 := rfl; omega)))
          by_cases h256 : own.length = 256
          · have hfin : lineL (l.drop at_) [] at_ = .stop k 5 := by rw [HE.out]; exact lineL_256 h13 h10 h256
            have HF := Lib.hid hfin
            clear HE hfin h13 h10
            go_wp2_with fail
            go_region
            go_wp2_with fail
            refine bodyPost_ret (res3 Tryd.results81 _ _ (w.heap.size + 1) _ _ _ rfl rfl rfl (set5_bx (HZ.out.setO (by omega) 1 (.int .i64 5)) rfl _ _ _ _ _).drew rfl) rfl ?_
            unfold LinePost
            rw [HF.out]
            exact ⟨((HB.out.setCell (Nat.le_refl _) _).trans (set5_below (by omega) _ _ _ _ _)).drew, _, rfl⟩
          · have hn256 : ((own.length : Int) == 256) = false := beq_eq_false_iff_ne.2 (by omega)
            have hfin : lineL (l.drop at_) [] at_ = lineL (l.drop (k + 1)) (own ++ [y]) (k + 1) := by rw [HE.out]; exact lineL_go h13 h10 h256
            have HF := Lib.hid hfin
            clear HE hfin h13 h10
            go_wp2_with (first
              | (at_builtin; refine wpList_appE _ rfl _ _ _ _ rfl wr.heap.size 5 i0 (.int .u8 0) 1 Tryd.underlying22 hi hi0 hi1 hi2 rfl (Nat.le_refl _) _ _ (hown1.alloc _) rfl 1 [.int .u8 (y.toNat : Int)] (one_src Tryd.underlying22 _ rfl) (by simp; omega) (by simp; omega) ?_; intro v2 w2 hown2 hgr2 hsz2; have hb2 : Below wr.heap.size wr w2 := ((((Below.refl _ wr).alloc (Nat.le_refl _) _).trans (hgr1.below (OwE.lt (OwE.lit0 wr wr.heap.size 5 _ (fun a ha => by cases ha; exact Nat.le_refl _))) (by simp))).alloc hsz1 _).trans (hgr2.below hown1.lt (by simp; omega)); rw [List.nil_append, ← bc_append1] at hown2; have HO2 := Lib.hid hown2; have HB2 := Lib.hid hb2; obtain ⟨hd0, _, _, _, _⟩ := (HG.out.below hb2 hlt).cells; have hd0f := (HG.out.below hb2 hlt).free 0; clear hown2 hgr2 hown1 hgr1 hb2)
              | (at_builtin; refine wpList_appE _ rfl _ _ _ _ rfl wr.heap.size 5 i0 (.int .u8 0) 1 Tryd.underlying22 hi hi0 hi1 hi2 rfl (Nat.le_refl _) _ [] (OwE.lit0 _ _ _ _ (fun a ha => by cases ha; exact Nat.le_refl _)) rfl own.length (bc own) (((ow_rd HO.out).alloc (Nat.le_refl _) _).src Tryd.underlying22 (bc_one _)) (by simp; omega) (by simp) ?_; intro v1 w1 hown1 hgr1 hsz1))
            have how := HO2.out.own (by simp [bc])
            have hos := ow_setO (g := w.heap.size) how (by omega) 0 (.int .i64 ((k : Int) + 1))
            obtain ⟨A4, c4, rfl, hl4, hr4⟩ := ow_formL hos (own ++ [y]).length (by rw [bc_length])
            have hb4 := HB2.out
            have hg4 := (HG.out.below hb4 hlt).set_ 0 (.int .i64 ((k : Int) + 1))
            have hz4 := (HZ.out.below hb4 hlt2).setO (g' := w.heap.size) (by omega) 0 (.int .i64 ((k : Int) + 1))
            have hbb := (HB.out.trans (hb4.mono HB.out.size)).setCell (show w.heap.size ≤ (⟨w.heap.size, 0, none⟩ : Addr).block from Nat.le_refl _) (.int .i64 ((k : Int) + 1))
            have hf := HF.out
            go_roundw
            case rel =>
              refine ⟨k + 1, own ++ [y], A4, c4, by omega, by simp; omega, rfl, hl4, Lib.hid hg4, Lib.hid hz4, Lib.hid ?_, Lib.hid hf, Lib.hid hbb⟩
              exact hos.mono (by omega)
            case measure => simp [lenOf]; omega
    · obtain rfl : k = L := by omega
      have hfin : lineL (l.drop at_) [] at_ = .stop k 0 := by
        rw [HE.out, List.drop_of_length_le (by have := HL.out; omega)]; rfl
      have HF := Lib.hid hfin
      clear HE hfin
      go_wp2_with fail
      go_region
      go_wp2_with fail
      refine bodyPost_ret (res3 Tryd.results81 _ _ (w.heap.size + 1) _ _ _ rfl rfl rfl (set5_bx HZ.out rfl _ _ _ _ _).drew rfl) rfl ?_
      unfold LinePost
      rw [HF.out]
      exact ⟨(HB.out.trans (set5_below (by omega) _ _ _ _ _)).drew, _, rfl⟩
end Go.Proofs.YtkjibnhihdbmdaaDoor
