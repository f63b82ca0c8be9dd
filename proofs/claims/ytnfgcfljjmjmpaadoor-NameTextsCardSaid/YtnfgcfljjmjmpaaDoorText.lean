import Derived.Test.YtnfgcfljjmjmpaaDoorBuilder
set_option linter.unusedVariables false
namespace Go.Proofs.YtnfgcfljjmjmpaaDoor
open Go.RowKit

/-- a byte of a label, written -/
def escB (c : UInt8) : List UInt8 := if c.toNat = 46 ∨ c.toNat = 92 then [92, c] else if 32 < c.toNat ∧ c.toNat < 127 then [c] else [92, 48 + c / 100, 48 + c / 10 % 10, 48 + c % 10]
def escL (l : List UInt8) : List UInt8 := l.flatMap escB
/-- labels, written, a dot between two of them -/
def tjoin : List (List UInt8) → List UInt8
  | [] => []
  | l :: n => escL l ++ n.flatMap fun m => 46 :: escL m
def textN (n : List (List UInt8)) : List UInt8 := if n = [] then [46] else tjoin n

theorem escB_length (c : UInt8) : (escB c).length ≤ 4 := by
  unfold escB
  split
  · simp
  · split <;> simp
theorem escL_length (l : List UInt8) : (escL l).length ≤ 4 * l.length := by
  induction l with
  | nil => simp [escL]
  | cons c l ih =>
    have := escB_length c
    simp [escL] at ih ⊢
    omega
theorem escL_take (l : List UInt8) (k : Nat) (h : k < l.length) : escL (l.take (k + 1)) = escL (l.take k) ++ escB l[k] := by
  rw [List.take_succ_eq_append_getElem h]
  unfold escL
  rw [List.flatMap_append]
  simp only [List.flatMap_cons, List.flatMap_nil, List.append_nil]
theorem tjoin_snoc (n : List (List UInt8)) (l : List UInt8) : tjoin (n ++ [l]) = tjoin n ++ (if n = [] then [] else [46]) ++ escL l := by
  cases n with
  | nil => simp [tjoin]
  | cons a n => simp [tjoin]
theorem tjoin_take (n : List (List UInt8)) (k : Nat) (h : k < n.length) : tjoin (n.take (k + 1)) = tjoin (n.take k) ++ (if k = 0 then [] else [46]) ++ escL n[k] := by
  rw [List.take_succ_eq_append_getElem h, tjoin_snoc]
  congr 2
  by_cases hk : k = 0
  · subst hk; simp
  · rw [if_neg hk, if_neg]
    intro e
    have := congrArg List.length e
    rw [List.length_take, List.length_nil] at this
    omega
theorem tjoin_length (n : List (List UInt8)) : (tjoin n).length ≤ 4 * sizeN n := by
  have h : ∀ m : List (List UInt8), (m.flatMap fun l => 46 :: escL l).length + 4 ≤ 4 * sizeN m := by
    intro m
    induction m with
    | nil => simp [sizeN]
    | cons a m ih =>
      have := escL_length a
      simp [sizeN] at ih ⊢
      omega
  cases n with
  | nil => simp [tjoin]
  | cons a n =>
    have h1 := h n
    have h2 := escL_length a
    simp only [tjoin, sizeN, List.length_append]
    omega
theorem lit_rd (w : World) (e : TypeId) (cs : List Value) : Rd (w.alloc (.cells cs.toArray e)) (w.heap.size + 1) (some ⟨w.heap.size, 0, none⟩) cs.length cs := by
  refine ⟨rfl, fun _ => ⟨w.heap.size, 0, rfl, by omega, fun j u hu => ?_⟩⟩
  have := World.cell?_alloc_mark w cs.toArray e (0, 0) j
  rw [Nat.zero_add, this]
  simpa using hu
theorem Bd.alloc {w : World} {b : Nat} {v : Value} (h : Bd w b v) (o : Obj) : Bd (w.alloc o) b v := by
  have hlt := h.lt
  obtain ⟨p, hp, hb⟩ := h
  exact ⟨p, hp, by rw [Below.heap_alloc w o b hlt]; exact hb⟩
theorem Bd.below {w w' : World} {b : Nat} {v : Value} (h : Bd w b v) (k : Below w.heap.size w w') : Bd w' b v := by
  have hlt := h.lt
  obtain ⟨p, hp, hb⟩ := h
  exact ⟨p, hp, by rw [k.block b hlt]; exact hb⟩
theorem Own.kp {w w' : World} {g b : Nat} {v v' : Value} {xs : List Value} (h : Own w g xs) (k : Kp w w' b v v') (hg : g < w.heap.size) (h1 : g ≠ b) (h2 : v.ownBlock ≠ some g) : Own w' g xs := fun j u hu => by
  have hb := k.block g hg h1 h2
  exact ⟨(World.cell?_of_block (w := w) (a := ⟨g, j, none⟩) hb).trans (h j u hu).1, (World.frozen?_of_block (w := w) (a := ⟨g, j, none⟩) hb).trans (h j u hu).2⟩

theorem esc_cells (x : UInt8) : [Value.int .u8 92, .int .u8 (48 + (x.toNat : Int) / 100), .int .u8 (48 + (x.toNat : Int) / 10 % 10), .int .u8 (48 + (x.toNat : Int) % 10)] = bc [92, 48 + x / 100, 48 + x / 10 % 10, 48 + x % 10] := by
  have h := UInt8.toNat_lt x
  have e1 : ((48 + x / 100 : UInt8).toNat : Int) = 48 + (x.toNat : Int) / 100 := by simp [UInt8.toNat_add]; omega
  have e2 : ((48 + x / 10 % 10 : UInt8).toNat : Int) = 48 + (x.toNat : Int) / 10 % 10 := by simp [UInt8.toNat_add]; omega
  have e3 : ((48 + x % 10 : UInt8).toNat : Int) = 48 + (x.toNat : Int) % 10 := by simp [UInt8.toNat_add]; omega
  simp only [bc, List.map_cons, List.map_nil, e1, e2, e3]
  rfl
set_option maxRecDepth 100000 in
set_option maxHeartbeats 1000000 in
theorem text_ok (A : Option Addr) (c : Nat) (n : List (List UInt8)) (w : World) (h : Rd w w.heap.size A n.length (sc n)) (hr : rightN n = true) :
    Calls Tryd.prog 7 #[.slice A n.length c] w fun e w' => e = .returned (.tuple #[.string ⟨(textN n).toArray⟩, .int .i64 0]) ∧ Below w.heap.size w w' := by
  have hs := size_right hr
  have hl := sizeN_length n
  by_cases hn : n = []
  · subst hn
    go_enter Tryd.func7, Tryd.ntmps7
    go_wp2_with (go_at_call 11; refine (right_any A c [] _ h (by omega)).mono ?_; rintro e w1 ⟨rfl, hb1⟩)
    go_ret2
    exact ⟨rfl, hb1⟩
  · have hn0 : ((n.length : Int) == 0) = false := by simp [hn]
    go_enter Tryd.func7, Tryd.ntmps7
    go_wp2_with (go_at_call 11; refine (right_any A c n _ h (by omega)).mono ?_; rintro e w1 ⟨rfl, hb1⟩; have hsz1 := hb1.size)
    obtain ⟨b, hb⟩ : ∃ b, b = w1.heap.size := ⟨_, rfl⟩
    have hbd0 : Bd (w1.alloc (.cells #[.pointer none, .slice none 0 0] 48)) b (.slice none 0 0) := by
      refine ⟨_, .inl rfl, ?_⟩
      rw [hb]; exact heap_alloc_new w1 _
    have hbw : w.heap.size ≤ b := by omega
    have hbe0 : Below w.heap.size w (w1.alloc (.cells #[.pointer none, .slice none 0 0] 48)) := hb1.alloc hsz1 _
    rw [← hb]
    generalize w1.alloc (.cells #[.pointer none, .slice none 0 0] 48) = w0 at hbd0 hbe0 ⊢
    clear hb hb1 hsz1
    go_loopw [17] (fun i wr => ∃ (k : Nat) (v : Value), k ≤ n.length ∧ i = .int .i64 k ∧ Bd wr b v ∧ Ow wr b 5 v (bc (tjoin (n.take k))) ∧ Below w.heap.size w wr) (fun i _ => n.length - (intOf i).toNat)
    case atStart => exact ⟨0, .slice none 0 0, Nat.zero_le _, rfl, hbd0, Ow.nil _ _ _, hbe0⟩
    case round =>
      clear hbd0 hbe0
      obtain ⟨k, v, hk, rfl, hbd, hown, hbel⟩ := hrel
      by_cases hlt : k < n.length
      · have hlen := tjoin_length (n.take k)
        have hlen2 := sizeN_take_le n k
        have hlab := mem_size (List.getElem_mem hlt)
        obtain ⟨bl, o, rfl, hbl, hc⟩ := (h.below hbel).at_ hlt
        have hcell := hc k _ (sc_get n k hlt)
        have ht := tjoin_take n k hlt
        have hblt := hbd.lt
        generalize n[k] = lab at hcell ht hlab
        clear hc
        obtain ⟨pre0, hpre⟩ : ∃ pre, pre = tjoin (n.take k) := ⟨_, rfl⟩
        rw [← hpre] at ht hown hlen
        have hplen0 : pre0.length ≤ 1100 := by omega
        clear hpre hlen
        by_cases k0 : k ≤ 0
        · rw [if_pos (by omega), List.append_nil] at ht
          have dk : decide (0 < k) = false := by simp; omega
          obtain ⟨w2, rfl⟩ : ∃ w2, w2 = wr := ⟨_, rfl⟩
          obtain ⟨v2, rfl⟩ : ∃ v2, v2 = v := ⟨_, rfl⟩
          obtain ⟨pre, rfl⟩ : ∃ pre, pre = pre0 := ⟨_, rfl⟩
          have hplen : pre.length ≤ 2000 := by omega
          have HT := Lib.hid ht
          clear ht hplen0
          obtain ⟨cap, w3, hrun, _, hb3, hz3, hown3⟩ := conv_sb (P := Tryd.prog) w2 9 28 5 lab Tryd.underlying9 Tryd.underlying28 Tryd.underlying5
          have hz3' := Lib.hid hz3
          clear hz3
          have hbel2 := hbel
          have hblt2 := hblt
          have hbd2 := hbd
          have hown2 := hown
          clear hbel hblt hbd hown
          go_wp2_with fail
          have hne2 : v2.ownBlock ≠ some w2.heap.size := fun e => by have := (World.ownsRow.lt hown2 _ e).2; omega
          have hbe3 := hbel2.trans (hb3.mono hbel2.size)
          have hbd3 := hbd2.below hb3
          have hown3' := hown2.far hb3
          have hg3 : w2.heap.size < w3.heap.size := by rw [hz3'.out]; omega
          generalize w2.heap.size = g at *
          clear hrun hb3 hbel2 hbd2 hown2 hz3'
          go_loopw [28] (fun j wi => ∃ (q : Nat) (v : Value), q ≤ lab.length ∧ j = .int .i64 q ∧ Bd wi b v ∧ Ow wi b 5 v (bc (pre ++ escL (lab.take q))) ∧ Own wi g (bc lab) ∧ v.ownBlock ≠ some g ∧ Below w.heap.size w wi ∧ g < wi.heap.size) (fun j _ => lab.length - (intOf j).toNat)
          case atStart => exact ⟨0, v2, Nat.zero_le _, rfl, hbd3, by simpa [escL] using hown3', hown3, hne2, hbe3, hg3⟩
          case round =>
            clear hbd3 hown3' hown3 hne2 hbe3 hg3
            obtain ⟨q, v, hq, rfl, hbd, hown, hlabs, hne, hbel, hg⟩ := hrel
            obtain ⟨wi, rfl⟩ : ∃ wi, wi = wr := ⟨_, rfl⟩
            by_cases hqlt : q < lab.length
            · have hel := escL_length (lab.take q)
              rw [List.length_take] at hel
              have hsz := hbel.size
              have hx := (hlabs q _ (bc_get lab q hqlt)).1
              have hesc := escL_take lab q hqlt
              have hx256 : lab[q].toNat < 256 := UInt8.toNat_lt _
              generalize hxe : lab[q] = x at hx hesc hx256
              clear hxe
              unfold escB at hesc
              by_cases h1 : x.toNat = 46 ∨ x.toNat = 92
              · rw [if_pos h1] at hesc
                have HE := Lib.hid hesc
                clear hesc
                have hor : ((x.toNat : Int) == 46) = true ∨ (((x.toNat : Int) == 46) = false ∧ ((x.toNat : Int) == 92) = true) := by
                  rcases h1 with h1 | h1 <;> simp [h1]
                rcases hor with hor | ⟨hor1, hor2⟩
                all_goals
                  go_wp2_with fail
                  refine (wbyte_any b b v _ 92 92 (by decide) _ hbd hown (by simp; omega) (by omega)).mono ?_
                  rintro e w5 ⟨rfl, v5, hbd5, hown5, hk5⟩
                  have hs5 := hk5.size
                  go_wp2_with fail
                  refine (wbyte_any b b v5 _ _ x rfl _ hbd5 hown5 (by simp; omega) (by omega)).mono ?_
                  rintro e w6 ⟨rfl, v6, hbd6, hown6, hk6⟩
                  have hk := hk5.trans hk6
                  go_wp2
                  go_roundw
                  case rel => exact ⟨q + 1, v6, by omega, by go_num, hbd6, by rw [HE.out]; simpa using hown6, hlabs.kp hk hg (by omega) hne, fun e => (hk.at_ g e).elim hne (by omega), hbel.trans (hk.below hbw (fun g hg => by have := hown.lt g hg; omega) hsz), Nat.lt_of_lt_of_le hg hk.size⟩
                  case measure => simp [intOf]; omega
              · rw [if_neg h1] at hesc
                have hor1 : ((x.toNat : Int) == 46) = false := by simp; omega
                have hor2 : ((x.toNat : Int) == 92) = false := by simp; omega
                by_cases h2 : 32 < x.toNat ∧ x.toNat < 127
                · rw [if_pos h2] at hesc
                  obtain ⟨h3, h4⟩ := h2
                  have HE := Lib.hid hesc
                  clear hesc h1
                  go_wp2_with fail
                  refine (wbyte_any b b v _ _ x rfl _ hbd hown (by simp; omega) (by omega)).mono ?_
                  rintro e w6 ⟨rfl, v6, hbd6, hown6, hk⟩
                  go_wp2
                  go_roundw
                  case rel => exact ⟨q + 1, v6, by omega, by go_num, hbd6, by rw [HE.out]; simpa using hown6, hlabs.kp hk hg (by omega) hne, fun e => (hk.at_ g e).elim hne (by omega), hbel.trans (hk.below hbw (fun g hg => by have := hown.lt g hg; omega) hsz), Nat.lt_of_lt_of_le hg hk.size⟩
                  case measure => simp [intOf]; omega
                · rw [if_neg h2] at hesc
                  have HE := Lib.hid hesc
                  have hor3 : x.toNat ≤ 32 ∨ (32 < x.toNat ∧ 127 ≤ x.toNat) := by omega
                  clear hesc h1 h2
                  have hlr : Rd (wi.alloc (.cells #[.int .u8 92, .int .u8 (48 + (x.toNat : Int) / 100), .int .u8 (48 + (x.toNat : Int) / 10 % 10), .int .u8 (48 + (x.toNat : Int) % 10)] 5)) (wi.heap.size + 1) (some ⟨wi.heap.size, 0, none⟩) 4 (bc [92, 48 + x / 100, 48 + x / 10 % 10, 48 + x % 10]) := by
                    rw [← esc_cells x]
                    exact lit_rd wi 5 [.int .u8 92, .int .u8 (48 + (x.toNat : Int) / 100), .int .u8 (48 + (x.toNat : Int) / 10 % 10), .int .u8 (48 + (x.toNat : Int) % 10)]
                  have HL := Lib.hid hlr
                  clear hlr
                  rcases hor3 with hor3 | ⟨hor3, hor4⟩
                  all_goals
                    go_wp2_with fail
                    refine (write_any b b v _ [92, 48 + x / 100, 48 + x / 10 % 10, 48 + x % 10] _ 4 _ _ (hbd.alloc _) (hown.alloc _) HL.out (fun g o e => by cases e; have := hbd.lt; omega) (by simp; omega) (by simp; omega)).mono ?_
                    rintro e w6 ⟨rfl, v6, hbd6, hown6, hk6⟩
                    have hk := ((Kp.refl wi b v).alloc _).trans hk6
                    go_wp2
                    go_roundw
                    case rel => exact ⟨q + 1, v6, by omega, by go_num, hbd6, by rw [HE.out]; simpa using hown6, hlabs.kp hk hg (by omega) hne, fun e => (hk.at_ g e).elim hne (by omega), hbel.trans (hk.below hbw (fun g hg => by have := hown.lt g hg; omega) hsz), Nat.lt_of_lt_of_le hg hk.size⟩
                    case measure => simp [intOf]; omega
            · rw [List.take_of_length_le (by omega)] at hown
              go_wp2
              go_roundw
              case rel => exact ⟨k + 1, v, by omega, by go_num, hbd, by rw [HT.out]; exact hown, hbel⟩
              case measure => simp [intOf]; omega
        · have hsz := hbel.size
          have dk : decide (0 < k) = true := by simp; omega
          go_wp2_with fail
          refine (wbyte_any b b v pre0 46 46 (by decide) _ hbd hown (by omega) (by omega)).mono ?_
          rintro e w2 ⟨rfl, v2, hbd2, hown2, hk2⟩
          rw [if_neg (by omega)] at ht
          obtain ⟨pre, hpre⟩ : ∃ pre, pre = pre0 ++ [46] := ⟨_, rfl⟩
          rw [← hpre] at ht hown2
          have hplen : pre.length ≤ 2000 := by rw [hpre]; simp; omega
          have HT := Lib.hid ht
          have hbel2 := hbel.trans (hk2.below hbw (fun g hg => by have := hown.lt g hg; omega) hsz)
          have hblt2 := hbd2.lt
          clear ht hplen0 hpre hbd hbel hown hk2 hblt hsz
          obtain ⟨cap, w3, hrun, _, hb3, hz3, hown3⟩ := conv_sb (P := Tryd.prog) w2 9 28 5 lab Tryd.underlying9 Tryd.underlying28 Tryd.underlying5
          have hz3' := Lib.hid hz3
          clear hz3
          go_wp2_with fail
          have hne2 : v2.ownBlock ≠ some w2.heap.size := fun e => by have := (World.ownsRow.lt hown2 _ e).2; omega
          have hbe3 := hbel2.trans (hb3.mono hbel2.size)
          have hbd3 := hbd2.below hb3
          have hown3' := hown2.far hb3
          have hg3 : w2.heap.size < w3.heap.size := by rw [hz3'.out]; omega
          generalize w2.heap.size = g at *
          clear hrun hb3 hbel2 hbd2 hown2 hz3'
          go_loopw [28] (fun j wi => ∃ (q : Nat) (v : Value), q ≤ lab.length ∧ j = .int .i64 q ∧ Bd wi b v ∧ Ow wi b 5 v (bc (pre ++ escL (lab.take q))) ∧ Own wi g (bc lab) ∧ v.ownBlock ≠ some g ∧ Below w.heap.size w wi ∧ g < wi.heap.size) (fun j _ => lab.length - (intOf j).toNat)
          case atStart => exact ⟨0, v2, Nat.zero_le _, rfl, hbd3, by simpa [escL] using hown3', hown3, hne2, hbe3, hg3⟩
          case round =>
            clear hbd3 hown3' hown3 hne2 hbe3 hg3
            obtain ⟨q, v, hq, rfl, hbd, hown, hlabs, hne, hbel, hg⟩ := hrel
            obtain ⟨wi, rfl⟩ : ∃ wi, wi = wr := ⟨_, rfl⟩
            by_cases hqlt : q < lab.length
            · have hel := escL_length (lab.take q)
              rw [List.length_take] at hel
              have hsz := hbel.size
              have hx := (hlabs q _ (bc_get lab q hqlt)).1
              have hesc := escL_take lab q hqlt
              have hx256 : lab[q].toNat < 256 := UInt8.toNat_lt _
              generalize hxe : lab[q] = x at hx hesc hx256
              clear hxe
              unfold escB at hesc
              by_cases h1 : x.toNat = 46 ∨ x.toNat = 92
              · rw [if_pos h1] at hesc
                have HE := Lib.hid hesc
                clear hesc
                have hor : ((x.toNat : Int) == 46) = true ∨ (((x.toNat : Int) == 46) = false ∧ ((x.toNat : Int) == 92) = true) := by
                  rcases h1 with h1 | h1 <;> simp [h1]
                rcases hor with hor | ⟨hor1, hor2⟩
                all_goals
                  go_wp2_with fail
                  refine (wbyte_any b b v _ 92 92 (by decide) _ hbd hown (by simp; omega) (by omega)).mono ?_
                  rintro e w5 ⟨rfl, v5, hbd5, hown5, hk5⟩
                  have hs5 := hk5.size
                  go_wp2_with fail
                  refine (wbyte_any b b v5 _ _ x rfl _ hbd5 hown5 (by simp; omega) (by omega)).mono ?_
                  rintro e w6 ⟨rfl, v6, hbd6, hown6, hk6⟩
                  have hk := hk5.trans hk6
                  go_wp2
                  go_roundw
                  case rel => exact ⟨q + 1, v6, by omega, by go_num, hbd6, by rw [HE.out]; simpa using hown6, hlabs.kp hk hg (by omega) hne, fun e => (hk.at_ g e).elim hne (by omega), hbel.trans (hk.below hbw (fun g hg => by have := hown.lt g hg; omega) hsz), Nat.lt_of_lt_of_le hg hk.size⟩
                  case measure => simp [intOf]; omega
              · rw [if_neg h1] at hesc
                have hor1 : ((x.toNat : Int) == 46) = false := by simp; omega
                have hor2 : ((x.toNat : Int) == 92) = false := by simp; omega
                by_cases h2 : 32 < x.toNat ∧ x.toNat < 127
                · rw [if_pos h2] at hesc
                  obtain ⟨h3, h4⟩ := h2
                  have HE := Lib.hid hesc
                  clear hesc h1
                  go_wp2_with fail
                  refine (wbyte_any b b v _ _ x rfl _ hbd hown (by simp; omega) (by omega)).mono ?_
                  rintro e w6 ⟨rfl, v6, hbd6, hown6, hk⟩
                  go_wp2
                  go_roundw
                  case rel => exact ⟨q + 1, v6, by omega, by go_num, hbd6, by rw [HE.out]; simpa using hown6, hlabs.kp hk hg (by omega) hne, fun e => (hk.at_ g e).elim hne (by omega), hbel.trans (hk.below hbw (fun g hg => by have := hown.lt g hg; omega) hsz), Nat.lt_of_lt_of_le hg hk.size⟩
                  case measure => simp [intOf]; omega
                · rw [if_neg h2] at hesc
                  have HE := Lib.hid hesc
                  have hor3 : x.toNat ≤ 32 ∨ (32 < x.toNat ∧ 127 ≤ x.toNat) := by omega
                  clear hesc h1 h2
                  have hlr : Rd (wi.alloc (.cells #[.int .u8 92, .int .u8 (48 + (x.toNat : Int) / 100), .int .u8 (48 + (x.toNat : Int) / 10 % 10), .int .u8 (48 + (x.toNat : Int) % 10)] 5)) (wi.heap.size + 1) (some ⟨wi.heap.size, 0, none⟩) 4 (bc [92, 48 + x / 100, 48 + x / 10 % 10, 48 + x % 10]) := by
                    rw [← esc_cells x]
                    exact lit_rd wi 5 [.int .u8 92, .int .u8 (48 + (x.toNat : Int) / 100), .int .u8 (48 + (x.toNat : Int) / 10 % 10), .int .u8 (48 + (x.toNat : Int) % 10)]
                  have HL := Lib.hid hlr
                  clear hlr
                  rcases hor3 with hor3 | ⟨hor3, hor4⟩
                  all_goals
                    go_wp2_with fail
                    refine (write_any b b v _ [92, 48 + x / 100, 48 + x / 10 % 10, 48 + x % 10] _ 4 _ _ (hbd.alloc _) (hown.alloc _) HL.out (fun g o e => by cases e; have := hbd.lt; omega) (by simp; omega) (by simp; omega)).mono ?_
                    rintro e w6 ⟨rfl, v6, hbd6, hown6, hk6⟩
                    have hk := ((Kp.refl wi b v).alloc _).trans hk6
                    go_wp2
                    go_roundw
                    case rel => exact ⟨q + 1, v6, by omega, by go_num, hbd6, by rw [HE.out]; simpa using hown6, hlabs.kp hk hg (by omega) hne, fun e => (hk.at_ g e).elim hne (by omega), hbel.trans (hk.below hbw (fun g hg => by have := hown.lt g hg; omega) hsz), Nat.lt_of_lt_of_le hg hk.size⟩
                    case measure => simp [intOf]; omega
            · rw [List.take_of_length_le (by omega)] at hown
              go_wp2
              go_roundw
              case rel => exact ⟨k + 1, v, by omega, by go_num, hbd, by rw [HT.out]; exact hown, hbel⟩
              case measure => simp [intOf]; omega
      · have hk' : k = n.length := by omega
        subst hk'
        rw [List.take_of_length_le (by omega)] at hown
        have hsz := hbel.size
        have hbdl := hbd.lt
        go_wp2_with (go_at_call 22; refine (bstring_any b b v (tjoin n) _ hbd (Nat.le_refl _) hown (by omega)).mono ?_; rintro e w6 ⟨rfl, hb6⟩)
        go_ret2
        exact ⟨by simp [textN, hn], hbel.trans (hb6.mono hbw)⟩

set_option maxRecDepth 100000 in
set_option maxHeartbeats 400000 in
theorem text_bad (A : Option Addr) (c : Nat) (n : List (List UInt8)) (w : World) (h : Rd w w.heap.size A n.length (sc n)) (hr : rightN n = false) (hs : sizeN n ≤ 140737488355328) :
    Calls Tryd.prog 7 #[.slice A n.length c] w fun e w' => e = .returned (.tuple #[.string ⟨#[]⟩, .int .i64 160]) ∧ Below w.heap.size w w' := by
  go_enter Tryd.func7, Tryd.ntmps7
  go_wp2_with (go_at_call 11; refine (right_any A c n _ h (by omega)).mono ?_; rintro e w1 ⟨rfl, hb1⟩)
  go_ret2
  exact ⟨rfl, hb1⟩
end Go.Proofs.YtnfgcfljjmjmpaaDoor
