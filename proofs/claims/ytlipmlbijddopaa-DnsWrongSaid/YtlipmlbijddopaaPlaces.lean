import Derived.Test.YtlipmlbijddopaaLib
import Derived.Sort.OwnSortedInts
set_option linter.unusedVariables false
namespace Go.Proofs.Ytlipmlbijddopaa
open Go.RowKit Go.Sort

/-- the places behind one place, with fuel -/
def chain (b : List UInt8) : Nat → Nat → List Int
  | 0, _ => []
  | f + 1, p =>
    if 0 < (b.getD p 0).toNat ∧ (b.getD p 0).toNat < 64 then
      (if 0 < (b.getD (p + (1 + (b.getD p 0).toNat)) 0).toNat ∧ (b.getD (p + (1 + (b.getD p 0).toNat)) 0).toNat < 64 then [((p + (1 + (b.getD p 0).toNat) : Nat) : Int)] else []) ++ chain b f (p + (1 + (b.getD p 0).toNat))
    else []
def place1 (b : List UInt8) (x : Int) : List Int := if 0 ≤ x ∧ x ≤ b.length ∧ (readN b x.toNat).2.2 = 0 then x :: chain b b.length x.toNat else []
def placesU (b : List UInt8) (known : List Int) : List Int := known.flatMap (place1 b)
def placesN (b : List UInt8) (known : List Int) : List Int := (placesU b known).mergeSort fun x y => decide (x ≤ y)
theorem placesU_take (b : List UInt8) (known : List Int) (k : Nat) (h : k < known.length) : placesU b (known.take (k + 1)) = placesU b (known.take k) ++ place1 b known[k] := by
  rw [List.take_succ_eq_append_getElem h]
  unfold placesU
  rw [List.flatMap_append]
  simp only [List.flatMap_cons, List.flatMap_nil, List.append_nil]
theorem placesU_le (b : List UInt8) (known : List Int) (k : Nat) : (placesU b (known.take k)).length ≤ (placesU b known).length := by
  have h : placesU b known = placesU b (known.take k) ++ placesU b (known.drop k) := by
    unfold placesU
    rw [← List.flatMap_append, List.take_append_drop]
  rw [h, List.length_append]
  omega

/-- a place from which reading comes to its end -/
def Good (b : List UInt8) (p : Nat) : Prop := ∃ f bg nx sz out, (rd b f bg b.length p nx sz out).2.2 = 0
theorem Good.lt {b : List UInt8} {p : Nat} (h : Good b p) : p < b.length := by
  obtain ⟨f, bg, nx, sz, out, h⟩ := h
  cases f with
  | zero => simp [rd] at h
  | succ f =>
    rw [rd] at h
    rcases Nat.lt_or_ge p b.length with h1 | h1
    · exact h1
    · rw [if_neg (by omega)] at h; simp at h
theorem Good.next {b : List UInt8} {p : Nat} (h : Good b p) (h0 : 0 < (b.getD p 0).toNat) (h1 : (b.getD p 0).toNat < 64) : Good b (p + (1 + (b.getD p 0).toNat)) := by
  have hlt := h.lt
  obtain ⟨f, bg, nx, sz, out, h⟩ := h
  cases f with
  | zero => simp [rd] at h
  | succ f =>
    rw [rd, if_pos hlt, if_neg (by omega), if_pos h1] at h
    split at h
    · simp at h
    · split at h
      · simp at h
      · exact ⟨f, _, _, _, _, h⟩
theorem Good.of_read {b : List UInt8} {p : Nat} (hp : p ≤ b.length) (h : (readN b p).2.2 = 0) : Good b p := by
  unfold readN at h
  rw [if_pos hp] at h
  exact ⟨_, _, _, _, _, h⟩

theorem Try.infoInt : (Try.prog.info? 3).map (fun i => (i.zero, i.size, i.bytes)) = some (some (.int .i64 0), 1, 8) := by kernel_rfl

/-- slices.Sort -/
theorem isort_any (v : Value) (l : List Int) (w : World) (B : Nat) (hown : Ow w B 3 v (ic l)) (hl : l.length ≤ 140737488355328) :
    Calls Try.prog 91 #[v] w fun e w' => e = .returned (.tuple #[]) ∧ Ow w' B 3 v (ic (l.mergeSort fun x y => decide (x ≤ y))) ∧ Gr w w' v v := by
  rcases hown.2 with ⟨rfl, h0⟩ | ⟨g, cap, cur, rfl, hbase, hb, h1, h2, h3, h4⟩
  · have hl0 : l = [] := List.eq_nil_of_length_eq_zero (by simpa using h0)
    subst hl0
    refine (Try.slices_Sort_int_none none 0 w).mono ?_
    rintro e w' ⟨rfl, rfl⟩
    exact ⟨rfl, by simpa using hown, Gr.refl _ _⟩
  · rw [ic_length] at *
    have h4' : cur.toList.take l.length = l.map (Value.int .i64) := by simpa [ic] using h4
    refine (Try.slices_Sort_int g 0 cap l w (holds_of_blockI hb h4') (Array.getElem?_eq_some_iff.1 hb).1 (by omega)).mono ?_
    rintro e w' ⟨rfl, nn, os, rfl⟩
    refine ⟨rfl, ?_, grownBy_sortedI _, fun k hk => .inl hk⟩
    have := ownsRow_sortedI (n := nn) (os := os) (e := 3) (ss := l) (ts := l.mergeSort fun x y => decide (x ≤ y)) (by simp) hbase hb h1 h2 h3
    unfold Ow
    rw [ic_length, List.length_mergeSort]
    exact this

set_option maxRecDepth 100000 in
set_option maxHeartbeats 1000000 in
theorem read_arg (A : Option Addr) (c : Nat) (b : List UInt8) (x : Int) (w : World) (hx : x < 0 ∨ (b.length : Int) < x) :
    Calls Try.prog 82 #[.slice A b.length c, .int .i64 x] w fun e w' => e = .returned (.tuple #[.slice none 0 0, .int .i64 0, .int .i64 2]) ∧ w' = w := by
  by_cases h0 : x < 0
  · go_enter Try.func82, Try.ntmps82
    go_wp2_with fail
    go_step3
    go_wp2
    rw [Exit.noGoto_ret]
    go_ret3
    exact ⟨rfl, rfl⟩
  · have h1 : (b.length : Int) < x := by omega
    go_enter Try.func82, Try.ntmps82
    go_wp2_with fail
    go_step3
    go_wp2
    rw [Exit.noGoto_ret]
    go_ret3
    exact ⟨rfl, rfl⟩

theorem place1_yes {b : List UInt8} {p : Nat} (hp : p ≤ b.length) (h : (readN b p).2.2 = 0) : place1 b (p : Int) = (p : Int) :: chain b b.length p := by
  unfold place1
  rw [if_pos ⟨by omega, by omega, by simpa using h⟩]
  simp
theorem place1_no {b : List UInt8} {p : Nat} (h : (readN b p).2.2 ≠ 0) : place1 b (p : Int) = [] := by
  unfold place1
  rw [if_neg (fun ⟨_, _, h1⟩ => h (by simpa using h1))]
theorem place1_arg {b : List UInt8} {x : Int} (h : x < 0 ∨ (b.length : Int) < x) : place1 b x = [] := by
  unfold place1
  rw [if_neg (fun ⟨h1, h2, _⟩ => by omega)]

set_option maxRecDepth 100000 in
set_option maxHeartbeats 2000000 in
theorem places_any (A1 A2 : Option Addr) (c1 c2 : Nat) (b : List UInt8) (known : List Int) (w : World) (h1 : Rd w w.heap.size A1 b.length (bc b)) (hc1 : b.length ≤ c1) (hb : b.length ≤ 140737488355328) (h2 : Rd w w.heap.size A2 known.length (ic known)) (hk : known.length ≤ 140737488355328) (hM : (placesU b known).length ≤ 1000000000) :
    Calls Try.prog 80 #[.slice A1 b.length c1, .slice A2 known.length c2] w fun e w' => ∃ v, e = .returned v ∧ Ow w' w.heap.size 3 v (ic (placesN b known)) ∧ Below w.heap.size w w' := by
  obtain ⟨i0, hi, hzi, hz1, hz2⟩ := info_parts Try.infoInt
  go_enter Try.func80, Try.ntmps80
  go_wp2_with fail
  go_loopw [5, 13] (fun vo vi wr => ∃ k : Nat, k ≤ known.length ∧ vi = .int .i64 k ∧ Ow wr w.heap.size 3 vo (ic (placesU b (known.take k))) ∧ Below w.heap.size w wr) (fun _ vi _ => known.length - (intOf vi).toNat)
  case atStart => exact ⟨0, Nat.zero_le _, rfl, Ow.nil _ _ _, Below.refl _ _⟩
  case round =>
    obtain ⟨k, hkl, rfl, hown, hbel⟩ := hrel
    have hszb := hbel.size
    have hr1 := (h1.below hbel)
    have hr2 := (h2.below hbel)
    by_cases hlt : k < known.length
    · obtain ⟨b2, o2, rfl, _, hc2⟩ := hr2.at_ hlt
      have hcell := hc2 k _ (ic_get known k hlt)
      have hT := placesU_take b known k hlt
      have hTle := placesU_le b known (k + 1)
      generalize known[k] = x at hcell hT
      clear hc2 hr2
      by_cases hx : x < 0 ∨ (b.length : Int) < x
      · rw [place1_arg hx, List.append_nil] at hT
        have HT := Lib.hid hT
        clear hT
        go_wp2_with (go_at_call 82; refine (read_arg A1 c1 b x wr hx).mono ?_; rintro e w2 ⟨rfl, rfl⟩)
        go_roundw
        case rel => exact ⟨k + 1, by omega, by go_num, by rw [HT.out]; exact hown, hbel⟩
        case measure => simp [intOf]; omega
      · obtain ⟨p, rfl⟩ : ∃ p : Nat, x = (p : Int) := ⟨x.toNat, by omega⟩
        have hp : p ≤ b.length := by omega
        clear hx
        by_cases hok : (readN b p).2.2 = 0
        · rw [place1_yes hp hok] at hT
          have hgood := Good.of_read hp hok
          have HT := Lib.hid hT
          have HG := Lib.hid hgood
          have HO := Lib.hid hok
          have hlen0 : (placesU b (known.take k)).length + 1 ≤ 1000000000 := by
            have := congrArg List.length hT
            rw [List.length_append, List.length_cons] at this
            omega
          clear hT hgood hok
          go_wp2_with (first
            | (go_at_call 82; refine (read_any A1 c1 b p wr (hr1.more hszb) hc1 hb hp).mono ?_; rw [HO.out]; rintro e w2 ⟨v2, rfl, _, hb2⟩; have hb2' := hb2.mono hszb)
            | (at_builtin; refine wpList_app _ rfl _ _ _ _ rfl w.heap.size 3 i0 (.int .i64 0) 8 Try.underlying78 hi hzi hz1 hz2 rfl (by omega) _ _ ((hown.far hb2).alloc _) rfl 1 [_] (one_src Try.underlying78 _ rfl) (by simp; omega) (by have := hb2.size; simp; omega) ?_; intro v3 w3 hown3 hgr3 hsz3))
          have hbe3 : Below w.heap.size w w3 := (hbel.trans hb2').trans ((((Gr.refl w2 _).alloc _).trans hgr3).below hown.lt (by have := hb2.size; omega))
          have hown3' : Ow w3 w.heap.size 3 v3 (ic (placesU b (known.take k) ++ [(p : Int)])) := by
            have e1 : ic (placesU b (known.take k) ++ [(p : Int)]) = ic (placesU b (known.take k)) ++ [.int .i64 (p : Int)] := by simp [ic]
            rw [e1]; exact hown3
          obtain ⟨acc, hacc⟩ : ∃ acc, acc = placesU b (known.take k) ++ [(p : Int)] := ⟨_, rfl⟩
          have hE : acc ++ chain b b.length p = placesU b (known.take (k + 1)) := by rw [HT.out, hacc]; simp
          rw [← hacc] at hown3'
          have HE := Lib.hid hE
          have hg := HG.out
          clear hown3 hacc hE hb2' hgr3 hbel hszb hr1 hown HT HG HO hlen0
          go_loopw [5, 7] (fun vo vp wi => ∃ (f q : Nat) (acc : List Int), vp = .int .i64 q ∧ Hid (acc ++ chain b f q = placesU b (known.take (k + 1))) ∧ Hid (Good b q) ∧ b.length ≤ f + q ∧ q < b.length ∧ Ow wi w.heap.size 3 vo (ic acc) ∧ Below w.heap.size w wi) (fun _ vp _ => b.length - (intOf vp).toNat)
          case atStart => exact ⟨b.length, p, acc, rfl, HE, hg, by omega, hg.lt, hown3', hbe3⟩
          case round =>
            clear hown3' hbe3 HE hg hp
            obtain ⟨f, q, acc, rfl, HE, HG, hf, hq, hown, hbel⟩ := hrel
            obtain ⟨wi, rfl⟩ : ∃ wi, wi = wr := ⟨_, rfl⟩
            obtain ⟨f', rfl⟩ : ∃ f', f = f' + 1 := ⟨f - 1, by omega⟩
            have hszb := hbel.size
            obtain ⟨b1, o1, rfl, _, hc⟩ := (h1.below hbel).at_ hq
            have hy0 := hc q _ (bc_get b q hq)
            have e := HE.out
            rw [chain] at e
            have hG := HG.out
            have hGn := hG.next
            have hgb : (b.getD q 0).toNat = b[q].toNat := by rw [List.getD_eq_getElem?_getD, List.getElem?_eq_getElem hq]; rfl
            rw [hgb] at e hGn
            have hy256 : b[q].toNat < 256 := UInt8.toNat_lt _
            generalize b[q].toNat = y at e hGn hy0 hy256
            clear hgb hG
            by_cases hy : 0 < y ∧ y < 64
            · obtain ⟨hya, hyb⟩ := hy
              rw [if_pos ⟨hya, hyb⟩] at e
              have hG' := hGn hya hyb
              have hq' := hG'.lt
              have hz0 := hc (q + (1 + y)) _ (bc_get b (q + (1 + y)) hq')
              have hgb : (b.getD (q + (1 + y)) 0).toNat = b[q + (1 + y)].toNat := by rw [List.getD_eq_getElem?_getD, List.getElem?_eq_getElem hq']; rfl
              rw [hgb] at e
              have hz256 : b[q + (1 + y)].toNat < 256 := UInt8.toNat_lt _
              generalize b[q + (1 + y)].toNat = z at e hz0 hz256
              have HG' := Lib.hid hG'
              clear hgb hc hGn hG'
              by_cases hz : 0 < z ∧ z < 64
              · obtain ⟨hza, hzb⟩ := hz
                rw [if_pos ⟨hza, hzb⟩, ← List.append_assoc] at e
                have hal : acc.length + 1 ≤ 1000000000 := by
                  have := congrArg List.length e
                  rw [List.length_append, List.length_append, List.length_singleton] at this
                  omega
                have E := Lib.hid e
                clear e
                go_wp2_with (at_builtin; refine wpList_app _ rfl _ _ _ _ rfl w.heap.size 3 i0 (.int .i64 0) 8 Try.underlying78 hi hzi hz1 hz2 rfl (by omega) _ _ (hown.alloc _) rfl 1 [_] (one_src Try.underlying78 _ rfl) (by simp; omega) (by simp; omega) ?_; intro v4 w4 hown4 hgr4 hsz4)
                go_roundw
                case rel =>
                  refine ⟨f', q + (1 + y), acc ++ [((q + (1 + y) : Nat) : Int)], by go_num, E.out, HG', by omega, hq', ?_, hbel.trans ((((Gr.refl wi _).alloc _).trans hgr4).below hown.lt hszb)⟩
                  have e1 : ic (acc ++ [((q + (1 + y) : Nat) : Int)]) = ic acc ++ [.int .i64 ((q : Int) + (1 + (y : Int)))] := by simp [ic]
                  rw [e1]; exact hown4
                case measure => simp [intOf]; omega
              · rw [if_neg hz, List.nil_append] at e
                have E := Lib.hid e
                have hz' : z = 0 ∨ 64 ≤ z := by omega
                clear e hz
                rcases hz' with hz' | hz'
                · have hz'' : z ≤ 0 := by omega
                  clear hz'
                  go_wp2
                  go_roundw
                  case rel => exact ⟨f', q + (1 + y), acc, by go_num, E.out, HG', by omega, hq', hown, hbel⟩
                  case measure => simp [intOf]; omega
                · have hz'' : 0 < z := by omega
                  go_wp2
                  go_roundw
                  case rel => exact ⟨f', q + (1 + y), acc, by go_num, E.out, HG', by omega, hq', hown, hbel⟩
                  case measure => simp [intOf]; omega
            · rw [if_neg hy, List.append_nil] at e
              have E := Lib.hid e
              have hy' : y = 0 ∨ 64 ≤ y := by omega
              clear e hy hGn hc
              rcases hy' with hy' | hy'
              · have hy'' : y ≤ 0 := by omega
                clear hy'
                go_wp2
                go_roundw
                case rel => exact ⟨k + 1, by omega, by go_num, by rw [← E.out]; exact hown, hbel⟩
                case measure => simp [intOf]; omega
              · have hy'' : 0 < y := by omega
                go_wp2
                go_roundw
                case rel => exact ⟨k + 1, by omega, by go_num, by rw [← E.out]; exact hown, hbel⟩
                case measure => simp [intOf]; omega
        · rw [place1_no hok, List.append_nil] at hT
          have HT := Lib.hid hT
          have hne : ((((readN b p).2.2 : Nat) : Int) != 0) = true := by simp; omega
          clear hT hok
          go_wp2_with (go_at_call 82; refine (read_any A1 c1 b p wr (hr1.more hszb) hc1 hb hp).mono ?_; rintro e w2 ⟨v2, rfl, _, hb2⟩)
          go_roundw
          case rel => exact ⟨k + 1, by omega, by go_num, by rw [HT.out]; exact hown.far hb2, hbel.trans (hb2.mono hszb)⟩
          case measure => simp [intOf]; omega
    · have hkk : k = known.length := by omega
      subst hkk
      rw [List.take_of_length_le (by omega)] at hown
      go_wp2_with (go_at_call 91; refine (isort_any _ _ wr w.heap.size hown (by omega)).mono ?_; rintro e w2 ⟨rfl, hown2, hgr2⟩)
      go_ret
      exact ⟨_, rfl, hown2, hbel.trans (hgr2.below hown.lt hszb)⟩
end Go.Proofs.Ytlipmlbijddopaa
