/-
  Feeding pieces: fed, cut.
-/
import Derived.Test.YtkjibnhihdbmdaaDoorChunkLaw
set_option linter.unusedVariables false
set_option linter.unusedSimpArgs false
namespace Go.Proofs.YtkjibnhihdbmdaaDoor
open Go.RowKit
variable {fr : Frm}
/-- one row of bytes in a slice of slices -/
structure BRow where
  A : Option Addr
  c : Nat
  l : List UInt8
def BRow.v (r : BRow) : Value := .slice r.A r.l.length r.c
def BRow.ok (w : World) (B : Nat) (r : BRow) : Prop := Rd w B r.A r.l.length (bc r.l) ∧ r.l.length ≤ r.c
def flatB (rows : List BRow) : List UInt8 := (rows.map BRow.l).flatten
def RdB (w : World) (B : Nat) (A : Option Addr) (n : Nat) (rows : List BRow) : Prop := Rd w B A n (rows.map BRow.v) ∧ ∀ r ∈ rows, r.ok w B
theorem BRow.ok.below {w w' : World} {B : Nat} {r : BRow} (h : r.ok w B) (hb : Below B w w') : r.ok w' B := ⟨h.1.below hb, h.2⟩
theorem BRow.ok.more {w : World} {B B' : Nat} {r : BRow} (h : r.ok w B) (hb : B ≤ B') : r.ok w B' := ⟨h.1.more hb, h.2⟩
theorem RdB.below {w w' : World} {B n : Nat} {A : Option Addr} {rows : List BRow} (h : RdB w B A n rows) (hb : Below B w w') : RdB w' B A n rows := ⟨h.1.below hb, fun r hr => (h.2 r hr).below hb⟩
theorem RdB.more {w : World} {B B' n : Nat} {A : Option Addr} {rows : List BRow} (h : RdB w B A n rows) (hb : B ≤ B') : RdB w B' A n rows := ⟨h.1.more hb, fun r hr => (h.2 r hr).more hb⟩
theorem rows_one (r : BRow) : ∀ u ∈ [r].map BRow.v, u.oneCell' = true := by
  intro u hu
  simp only [List.map_cons, List.map_nil, List.mem_cons, List.mem_nil_iff, or_false] at hu
  subst hu; rfl
/-- one block more that stays -/
theorem Inv.add {w0 w : World} {base g : Nat} {r : Rdr} {vb vt vl : Value} (h : Inv fr w0 base g r vb vt vl) (hb : Below w0.heap.size w0 w) (q : Nat) (o : Obj) (hq : w0.heap.size ≤ q) (ho : w.heap[q]? = some o) : Inv ((q, o) :: fr) w base g r vb vt vl := by
  have h1 := h.far hb
  have hlt : ∀ {v : Value} {e : TypeId} {xs : List Value}, (e, v, xs) ∈ [(5, vb, bc r.body), (9, vt, sc r.trs), (5, vl, bc r.line)] → v.ownBlock ≠ some q := fun hm e => by
    have := ow_block_lt (h.rows.1 _ hm) _ e
    omega
  refine ⟨h1.own, h1.ge, h1.lt, h1.rows, h1.nb, h1.nt, h1.nl, fun x hx => ?_, fun x hx => ?_⟩
  · rcases List.mem_cons.1 hx with rfl | hx
    · exact ho
    · exact h1.kp x hx
  · rcases List.mem_cons.1 hx with rfl | hx
    · exact ⟨fun e => by have := h.lt; simp only at e; omega, hlt (.head _), hlt (.tail _ (.head _)), hlt (.tail _ (.tail _ (.head _)))⟩
    · exact h1.na x hx
theorem Inv.drop {w : World} {base g : Nat} {x : Nat × Obj} {r : Rdr} {vb vt vl : Value} (h : Inv (x :: fr) w base g r vb vt vl) : Inv fr w base g r vb vt vl :=
  ⟨h.own, h.ge, h.lt, h.rows, h.nb, h.nt, h.nl, fun y hy => h.kp y (List.mem_cons_of_mem _ hy), fun y hy => h.na y (List.mem_cons_of_mem _ hy)⟩
/-- an own slice whose block is as it was -/
theorem ow_same {w w' : World} {base : Nat} {e : TypeId} {v : Value} {xs : List Value} (h : Ow w base e v xs) (hs : ∀ g, v.ownBlock = some g → w'.heap[g]? = w.heap[g]?) : Ow w' base e v xs := by
  refine ⟨h.1, ?_⟩
  rcases h.2 with h2 | ⟨g, cap, cur, rfl, h2, h3, h4⟩
  · exact .inl h2
  · exact .inr ⟨g, cap, cur, rfl, h2, (hs g rfl).trans h3, h4⟩
theorem ow_obj {w : World} {base : Nat} {e : TypeId} {v : Value} {xs : List Value} (h : Ow w base e v xs) : (v = .slice none 0 0 ∧ xs = []) ∨ ∃ g n c o, v = .slice (some ⟨g, 0, none⟩) n c ∧ base ≤ g ∧ w.heap[g]? = some o := by
  rcases h.2 with ⟨h2, h3⟩ | ⟨g, cap, cur, rfl, h2, h3, h4⟩
  · exact .inl ⟨h2, List.eq_nil_of_length_eq_zero h3⟩
  · exact .inr ⟨g, _, cap, _, rfl, h2, h3⟩
/-- a Feed of bytes that lie in a block of their own, made behind the reader -/
theorem feed_own (base g : Nat) (r : Rdr) (vb vt vl : Value) (A : Option Addr) (c L : Nat) (l : List UInt8) (w0 w : World) (hL : l.length = L) (hI : Inv fr w0 base g r vb vt vl) (hb : Below w0.heap.size w0 w) (ho : Ow w w0.heap.size 5 (.slice A L c) (bc l)) (hlens : Lens r) (hL2 : L ≤ 281474976710656) (n bad : Nat) (hn : (goR r l 0).2 = n) (hbad : (goR r l 0).1.bad = bad) :
    Calls Tryd.prog 38 #[.pointer (some ⟨g, 0, none⟩), .slice A L c] w fun e w' => ∃ vb vt vl, e = .returned (.tuple #[.int .i64 (n : Int), .int .i64 (bad : Int)]) ∧ Inv fr w' base g (goR r l 0).1 vb vt vl ∧ Below base w w' ∧ Ow w' w0.heap.size 5 (.slice A L c) (bc l) := by
  subst hn hbad
  rcases ow_obj ho with ⟨hv, hx⟩ | ⟨q, n, c', o, hv, hq, hob⟩
  · cases hv
    have hl0 : l = [] := by cases l with
      | nil => rfl
      | cons a b => simp [bc] at hx
    subst hl0
    refine (feed_at base g r vb vt vl none 0 0 [] w rfl (hI.far hb) hlens (fun w' _ _ => Rd.nil _ _ _) hL2).mono ?_
    rintro e w' ⟨vb', vt', vl', rfl, hi, hb'⟩
    exact ⟨vb', vt', vl', rfl, hi, hb', Ow.nil _ _ _⟩
  · cases hv
    have hI2 := hI.add hb q o hq hob
    refine (feed_at base g r vb vt vl (some ⟨q, 0, none⟩) c L l w hL hI2 hlens (fun w' _ hk => ?_) hL2).mono ?_
    · have h1 : w'.heap[q]? = some o := hk _ (.head _)
      exact rd_block (ow_rd ho) (h1.trans hob.symm) (kp_lt h1)
    · rintro e w' ⟨vb', vt', vl', rfl, hi, hb'⟩
      refine ⟨vb', vt', vl', rfl, hi.drop, hb', ow_same ho fun g' hg' => ?_⟩
      have : g' = q := by simpa [Value.ownBlock] using hg'.symm
      subst this
      exact (hi.kp (_, o) (.head _)).trans hob.symm
theorem flatB_take (rows : List BRow) (k : Nat) (h : k < rows.length) : flatB (rows.take (k + 1)) = flatB (rows.take k) ++ rows[k].l := by
  rw [List.take_succ_eq_append_getElem h]
  unfold flatB
  rw [List.map_append, List.flatten_append]
  simp
theorem flatB_take_le (rows : List BRow) (k : Nat) : (flatB (rows.take k)).length ≤ (flatB rows).length := by
  have : flatB rows = flatB (rows.take k) ++ flatB (rows.drop k) := by
    unfold flatB; rw [← List.flatten_append, ← List.map_append, List.take_append_drop]
  rw [this, List.length_append]; omega
def FedPost (l : List UInt8) (w : World) (e : Ending) (w' : World) : Prop :=
  ∃ vb vt vl, e = .returned (.tuple #[.pointer (some ⟨w.heap.size, 0, none⟩), .int .i64 ((goR newR l 0).2 : Int), .int .i64 ((goR newR l 0).1.bad : Int), .bool true]) ∧ Inv [] w' w.heap.size w.heap.size (goR newR l 0).1 vb vt vl ∧ Below w.heap.size w w'
set_option maxRecDepth 100000 in
set_option maxHeartbeats 2000000 in
theorem fed_at (A : Option Addr) (c n : Nat) (rows : List BRow) (w : World) (hn : rows.length = n) (h : RdB w w.heap.size A n rows) (hl : (flatB rows).length ≤ 1000000) (hn2 : n ≤ 1000000) :
    Calls Tryd.prog 24 #[.slice A n c] w (FedPost (flatB rows) w) := by
  have HN := Lib.hid hn
  have HR := Lib.hid h
  have HLl := Lib.hid hl
  clear hn h hl
  go_enter Tryd.func24, Tryd.ntmps24
  go_wp2_with (go_at_call 37; refine (new_at w).mono ?_; rintro e w1 ⟨rfl, hi1, hb1⟩; have HI1 := Lib.hid hi1; have HB1 := Lib.hid hb1; clear hi1 hb1)
  go_loopw [7, 8, 18] (fun v7 v8 vi wr => ∃ (k s bad : Nat) (q : Rdr) (vb vt vl : Value), k ≤ n ∧ vi = .int .i64 k ∧ v7 = .int .i64 s ∧ v8 = .int .i64 bad ∧ s ≤ 1000000 ∧ Hid (q.bad = bad) ∧ Hid (goR newR (flatB (rows.take k)) 0 = (q, s)) ∧ Hid (Inv [] wr w.heap.size w.heap.size q vb vt vl) ∧ Hid (Lens q) ∧ Hid (Below w.heap.size w wr)) (fun _ _ vi _ => n - (intOf vi).toNat)
  case atStart => exact ⟨0, 0, 0, newR, _, _, _, Nat.zero_le _, rfl, rfl, rfl, by omega, Lib.hid rfl, Lib.hid rfl, HI1, Lib.hid lens_new, HB1⟩
  case round =>
    clear HI1 HB1
    obtain ⟨k, s, bad, q, vb, vt, vl, hk, rfl, rfl, rfl, hs, HBd, HG, HI, HLn, HB⟩ := hrel
    have hsz := HB.out.size
    by_cases hlt : k < n
    · have hkr : k < rows.length := by have := HN.out; omega
      obtain ⟨b, o, rfl, _, hcell⟩ := (HR.out.1.below HB.out).at_ hlt
      have hx := hcell k (rows[k]).v (by simp [hkr])
      have hrow := ((HR.out.2 rows[k] (List.getElem_mem hkr)).below HB.out).more hsz
      have hft := flatB_take rows k hkr
      have hfl := flatB_take_le rows (k + 1)
      obtain ⟨r, hr⟩ : ∃ r, r = rows[k] := ⟨_, rfl⟩
      rw [← hr] at hx hrow hft
      obtain ⟨rA, rc, rl⟩ := r
      replace hx : wr.cell? ⟨b, o + k, none⟩ = some (.slice rA rl.length rc) := hx
      have hr1 : Rd wr wr.heap.size rA rl.length (bc rl) := hrow.1
      have hrl : rl.length ≤ 1000000 := by
        rw [hft, List.length_append] at hfl
        have h1 := HLl.out
        replace hfl : (flatB (rows.take k)).length + rl.length ≤ (flatB rows).length := hfl
        omega
      obtain ⟨q2, n2, hq2⟩ : ∃ q2 n2, goR q rl 0 = (q2, n2) := ⟨_, _, rfl⟩
      have hcnt := go_count rl q 0
      have hl2 := go_lens rl q 0 HLn.out
      rw [hq2] at hcnt hl2
      simp only [Nat.zero_add] at hcnt hl2
      have hG2 : goR newR (flatB (rows.take (k + 1))) 0 = (q2, s + n2) := by
        rw [hft, go_app, HG.out]
        show goR q rl s = _
        rw [go_shift, hq2]
      have hcnt2 := go_count (flatB (rows.take (k + 1))) newR 0
      rw [hG2] at hcnt2
      simp only [Nat.zero_add] at hcnt2
      have hs2 : s + n2 ≤ 1000000 := by have h1 := HLl.out; omega
      have hn2' : n2 ≤ rl.length := hcnt.2
      have hbadq : bad ≠ 0 → q2.bad = bad ∧ n2 = 0 := fun hb0 => by
        have h1 : q.st = .nil := by
          have := bad_nil (flatB (rows.take k)) newR 0 (fun h => absurd rfl h)
          rw [HG.out] at this
          exact this (by rw [HBd.out]; exact hb0)
        rw [go_nil h1] at hq2
        cases hq2
        exact ⟨HBd.out, rfl⟩
      have HR1 := Lib.hid hr1
      have HQ2 := Lib.hid hq2
      have HL2 := Lib.hid hl2
      have HG2 := Lib.hid hG2
      have HBQ := Lib.hid hbadq
      have tB : ∃ bad2, q2.bad = bad2 := ⟨_, rfl⟩
      obtain ⟨bad2, hbad2⟩ := tB
      have HB2 := Lib.hid hbad2
      clear hcell hrow hft hfl hr hr1 hq2 hcnt hl2 hG2 hcnt2 hbadq hbad2
      have e0 : decide ((n2 : Int) < 0) = false := by simp
      have e1 : decide ((rl.length : Nat) < n2) = false := by simp; omega
      by_cases hb0 : bad = 0
      · subst hb0
        clear HBQ
        go_wp2_with (first
          | (go_at_call 38; refine (feed_own (fr := []) w.heap.size w.heap.size q vb vt vl A4 c4 rl.length rl wr w4 rfl HI.out HB4.out HO4.out HLn.out (by omega) n2 bad2 (by rw [HQ2.out]) (by rw [HQ2.out]; exact HB2.out)).mono ?_; rintro e w5 ⟨vb5, vt5, vl5, rfl, hi5, hb5, _⟩; rw [HQ2.out] at hi5; have HI5 := Lib.hid hi5; have HB5 := Lib.hid ((HB.out.trans (HB4.out.mono hsz)).trans hb5); clear hi5 hb5)
          | (go_at_call 18; refine (cl_b rA rc rl.length rl wr rfl HR1.out (by omega)).mono ?_; rintro e w4 ⟨v4, rfl, ho4, hb4⟩; obtain ⟨A4, c4, rfl, hl4, _⟩ := ow_formL ho4 rl.length (by simp); have HO4 := Lib.hid ho4; have HB4 := Lib.hid hb4; clear ho4 hb4))
        go_roundw
        case rel => exact ⟨k + 1, s + n2, bad2, q2, vb5, vt5, vl5, by omega, by go_num, by go_num, rfl, hs2, HB2, HG2, HI5, HL2, HB5⟩
        case measure => simp [intOf]; omega
      · obtain ⟨hbb, hn0⟩ := HBQ.out hb0
        have hbe : bad2 = bad := by rw [← HB2.out, hbb]
        subst hbe hn0
        have e3 : ((bad2 : Int) != 0) = true := by simp; omega
        clear HBQ hbb
        go_wp2_with (first
          | (go_at_call 38; refine (feed_own (fr := []) w.heap.size w.heap.size q vb vt vl A4 c4 rl.length rl wr w4 rfl HI.out HB4.out HO4.out HLn.out (by omega) 0 bad2 (by rw [HQ2.out]) (by rw [HQ2.out]; exact HB2.out)).mono ?_; rintro e w5 ⟨vb5, vt5, vl5, rfl, hi5, hb5, _⟩; rw [HQ2.out] at hi5; have HI5 := Lib.hid hi5; have HB5 := Lib.hid ((HB.out.trans (HB4.out.mono hsz)).trans hb5); clear hi5 hb5)
          | (go_at_call 18; refine (cl_b rA rc rl.length rl wr rfl HR1.out (by omega)).mono ?_; rintro e w4 ⟨v4, rfl, ho4, hb4⟩; obtain ⟨A4, c4, rfl, hl4, _⟩ := ow_formL ho4 rl.length (by simp); have HO4 := Lib.hid ho4; have HB4 := Lib.hid hb4; clear ho4 hb4))
        go_roundw
        case rel => exact ⟨k + 1, s, bad2, q2, vb5, vt5, vl5, by omega, by go_num, by go_num, rfl, by omega, HB2, HG2, HI5, HL2, HB5⟩
        case measure => simp [intOf]; omega
    · have hkn : k = n := by omega
      have e1 : goR newR (flatB rows) 0 = (q, s) := by
        have := HG.out
        rwa [List.take_of_length_le (by have := HN.out; omega)] at this
      have HE := Lib.hid e1
      clear e1
      subst hkn
      go_wp2
      refine bodyPost_ret (v := .tuple #[.pointer (some ⟨w.heap.size, 0, none⟩), .int .i64 s, .int .i64 bad, .bool true]) (by simp [results, Tryd.results24, go_sem]) rfl ⟨vb, vt, vl, ?_, ?_, HB.out⟩
      · rw [HE.out]; simp [HBd.out]
      · rw [HE.out]; exact HI.out
end Go.Proofs.YtkjibnhihdbmdaaDoor
