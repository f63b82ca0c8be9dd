/-
  gaugerlaw16.reads: Read and the reference's Read agree on any bytes at any offset; a loop that overwrites what is the call's own.
-/
import Derived.Test.YtnfgcfljjmjmpaaEnds
import Derived.Test.YtnfgcfljjmjmpaaRefRd
import Derived.Test.YtnfgcfljjmjmpaaPlaces
set_option linter.unusedVariables false
set_option linter.unusedSimpArgs false
namespace Go.Proofs.Ytnfgcfljjmjmpaa
open Go.RowKit
def readZ (b : List UInt8) (x : Int) : List (List UInt8) × Nat × Nat := if 0 ≤ x ∧ x ≤ b.length then readN b x.toNat else ([], 0, 2)
theorem readZ_any (A : Option Addr) (c L : Nat) (b : List UInt8) (x : Int) (w : World) (hL : b.length = L) (h : Rd w w.heap.size A L (bc b)) (hcap : L ≤ c) (hb : L ≤ 140737488355328) :
    Calls Try.prog 12 #[.slice A L c, .int .i64 x] w fun e w' => ∃ v, e = .returned (.tuple #[v, .int .i64 (readZ b x).2.1, .int .i64 (readZ b x).2.2]) ∧ Ow w' w.heap.size 9 v (sc (readZ b x).1) ∧ Below w.heap.size w w' := by
  subst hL
  unfold readZ
  by_cases hx : 0 ≤ x ∧ x ≤ b.length
  · rw [if_pos hx]
    have := read_any A c b x.toNat w h hcap hb (by omega)
    rw [show ((x.toNat : Nat) : Int) = x by omega] at this
    exact this
  · rw [if_neg hx]
    refine (read_arg A c b x w (by omega)).mono ?_
    rintro e w' ⟨rfl, rfl⟩
    exact ⟨_, rfl, Ow.nil _ _ _, Below.refl _ _⟩
theorem rreadZ_any (A : Option Addr) (c L : Nat) (b : List UInt8) (x : Int) (w : World) (hL : b.length = L) (h : Rd w w.heap.size A L (bc b)) (hcap : L ≤ c) (hb : L ≤ 140737488355328) :
    Calls Try.prog 39 #[.slice A L c, .int .i64 x] w fun e w' => ∃ v, e = .returned (.tuple #[v, .int .i64 (readZ b x).2.1, .int .i64 (readZ b x).2.2]) ∧ Ow w' w.heap.size 9 v (sc (readZ b x).1) ∧ Below w.heap.size w w' := by
  subst hL
  unfold readZ
  by_cases hx : 0 ≤ x ∧ x ≤ b.length
  · rw [if_pos hx]
    have := rread_any A c b x.toNat w h hcap hb (by omega)
    rw [show ((x.toNat : Nat) : Int) = x by omega] at this
    exact this
  · rw [if_neg hx]
    refine (rread_arg A c b x w (by omega)).mono ?_
    rintro e w' ⟨rfl, rfl⟩
    exact ⟨_, rfl, Ow.nil _ _ _, Below.refl _ _⟩
theorem beq_at (A1 A2 : Option Addr) (c1 c2 L1 L2 : Nat) (l m : List UInt8) (w : World) (B : Nat) (h1' : l.length = L1) (h2' : m.length = L2) (h1 : Rd w B A1 L1 (bc l)) (h2 : Rd w B A2 L2 (bc m)) :
    Calls Try.prog 40 #[.slice A1 L1 c1, .slice A2 L2 c2] w fun e w' => e = .returned (.bool (decide (l = m))) ∧ w' = w := by
  subst h1' h2'
  exact beq_any A1 A2 c1 c2 l m w B h1 h2
/-- behind a store into another block of the call's own -/
theorem Ow.other {w : World} {base base' : Nat} {e e' : TypeId} {v : Value} {xs ys : List Value} {g n c : Nat} (h : Ow w base e v xs) (h' : w.ownsRow base' e' 1 (.slice (some ⟨g, 0, none⟩) n c) n ys) (hg : g < base) (k : Nat) (u : Value) : Ow (w.setCell ⟨g, k, none⟩ u) base e v xs :=
  World.ownsRow.kept (row := some g) h (World.ownsRow.stored h' k u).2 (by
    cases hv : v.ownBlock with
    | none => exact .inl rfl
    | some q => exact .inr (fun e => by injection e with e; have := h.lt q hv; omega))
theorem bc_bump (l : List UInt8) (k : Nat) (hk : k < l.length) : (bc l).set k (.int .u8 (((l[k].toNat : Int) + 1) % 256)) = bc (l.set k (l[k] + 1)) := by
  have e : (((l[k].toNat : Int) + 1) % 256) = (((l[k] + 1).toNat : Nat) : Int) := by rw [UInt8.toNat_add]; simp
  rw [e, bc_set]
theorem Ow.len {w : World} {base : Nat} {e : TypeId} {A : Option Addr} {n c : Nat} {xs : List Value} (h : Ow w base e (.slice A n c) xs) : xs.length = n := by
  obtain ⟨A', c', h1, _⟩ := h.form
  injection h1 with _ h2 _
  exact h2.symm
theorem Ow.addr_lt {w : World} {base : Nat} {e : TypeId} {A : Option Addr} {n c : Nat} {xs : List Value} (h : Ow w base e (.slice A n c) xs) : ∀ a, A = some a → a.block < w.heap.size := by
  rcases h.2 with ⟨h', _⟩ | ⟨g, cap, cur, h', _, hg, _⟩
  · intro a ha; injection h' with h1; rw [h1] at ha; cases ha
  · intro a ha
    injection h' with h1
    rw [h1] at ha
    cases ha
    rcases Nat.lt_or_ge g w.heap.size with h2 | h2
    · exact h2
    · rw [Array.getElem?_eq_none h2] at hg; cases hg
theorem Ow.row {w : World} {base g : Nat} {e : TypeId} {n c : Nat} {xs : List Value} (h : Ow w base e (.slice (some ⟨g, 0, none⟩) n c) xs) : w.ownsRow base e 1 (.slice (some ⟨g, 0, none⟩) n c) n xs := by
  have hl := h.len
  subst hl
  exact h
theorem Ow.cell_at {w : World} {base g : Nat} {e : TypeId} {n c : Nat} {xs : List Value} (h : Ow w base e (.slice (some ⟨g, 0, none⟩) n c) xs) (k : Nat) (hk : k < n) : w.cell? ⟨g, k, none⟩ = xs[k]? := World.ownsRow.cellAt h.row k (by omega)
theorem Ow.frozen_at {w : World} {base g : Nat} {e : TypeId} {n c : Nat} {xs : List Value} (h : Ow w base e (.slice (some ⟨g, 0, none⟩) n c) xs) (k : Nat) : w.frozen? ⟨g, k, none⟩ = false := World.ownsRow.frozenAt h.row k
theorem Ow.set_at {w : World} {base g : Nat} {e : TypeId} {n c : Nat} {xs : List Value} (h : Ow w base e (.slice (some ⟨g, 0, none⟩) n c) xs) (k : Nat) (u : Value) : Ow (w.setCell ⟨g, k, none⟩ u) base e (.slice (some ⟨g, 0, none⟩) n c) (xs.set k u) := by
  have h1 := (World.ownsRow.stored h.row k u).1
  have hl := h.len
  unfold Ow
  rw [List.length_set, hl]
  exact h1
set_option maxRecDepth 100000 in
set_option maxHeartbeats 1000000 in
theorem reads_any (A : Option Addr) (c : Nat) (b : List UInt8) (x : Int) (w : World) (h : Rd w w.heap.size A b.length (bc b)) (hcap : b.length ≤ c) (hb : b.length ≤ 140737488355328) :
    Calls Try.prog 22 #[.slice A b.length c, .int .i64 x] w fun e w' => e = .returned (.bool true) ∧ Below w.heap.size w w' := by
  obtain ⟨r, hr⟩ : ∃ r, r = readZ b x := ⟨_, rfl⟩
  obtain ⟨L, hL⟩ : ∃ L, L = b.length := ⟨_, rfl⟩
  rw [← hL] at h hcap hb ⊢
  have HL := Lib.hid hL.symm
  have HR := Lib.hid hr
  clear hr hL
  obtain ⟨n, nx, er⟩ := r
  have hnl : n.length ≤ 140737488355328 := by
    have e := HR.out
    unfold readZ at e
    split at e
    · rename_i hx
      rcases readN_errs b x.toNat (by omega) with ⟨_, h2⟩ | ⟨h2, _⟩
      · rw [← e] at h2
        have h2 : rightN n = true := h2
        have := size_right h2
        have := sizeN_length n
        omega
      · rw [← e] at h2
        simp only at h2
        rw [h2]; simp
    · cases e; simp
  go_enter Try.func22, Try.ntmps22
  go_wp2_with (first
    | (go_at_call 40; refine (beq_at A1 A c1 c L L b b w3 w3.heap.size HL.out HL.out r1 r0).mono ?_; rw [decide_eq_true (rfl : b = b)]; rintro e w4 ⟨rfl, rfl⟩)
    | (go_at_call 39; refine (rreadZ_any A c L b x w2 HL.out r0 hcap hb).mono ?_; rw [← HR.out]; rintro e w3 ⟨vm, rfl, hownm, hb3⟩; have hB3 := hB2.trans (hb3.mono hB2.size); have r0 := (r0.below hb3).more hb3.size; have r1 := (r1.below hb3).more hb3.size; have hown := hown.far hb3; have hownn := hownn.far hb3)
    | (go_at_call 12; refine (readZ_any A1 c1 L b x w1 HL.out r1 hl1 hb).mono ?_; rw [← HR.out]; rintro e w2 ⟨vn, rfl, hownn, hb2⟩; have hB2 := hB1.trans (hb2.mono hB1.size); have r0 := (r0.below hb2).more hb2.size; have r1 := (r1.below hb2).more hb2.size; have hown := hown.far hb2)
    | (go_at_call 14; refine (bclone_at A c L b w w.heap.size HL.out (Nat.le_refl _) h hb).mono ?_; rintro e w1 ⟨v1, rfl, hown, hB1⟩; obtain ⟨A1, c1, rfl, hl1, r1⟩ := hown.form7 L (by rw [bc_length]; exact HL.out); have r0 := (h.below hB1).more hB1.size; have hA1 := hown.addr_lt))
  have hB1s := hB1.size
  clear hB1 hB2 r0 r1 h
  go_loopw [35] (fun i wr => ∃ (k : Nat) (l : List UInt8), k ≤ L ∧ i = .int .i64 k ∧ Ow wr w.heap.size 5 (.slice A1 L c1) (bc l) ∧ Ow wr w1.heap.size 9 vn (sc n) ∧ Ow wr w1.heap.size 9 vm (sc n) ∧ Below w.heap.size w wr ∧ w1.heap.size ≤ wr.heap.size)
    (fun i _ => L - (intOf i).toNat)
  case atStart => exact ⟨0, b, Nat.zero_le _, rfl, hown, hownn, hownm.mono (by have := hb2.size; omega), hB3, by have := hb2.size; have := hb3.size; omega⟩
  case round =>
    clear hown hownn hownm hB3
    obtain ⟨k, l, hk, rfl, hown, hownn, hownm, hbel, hsz⟩ := hrel
    have hll := hown.len
    rw [bc_length] at hll
    by_cases hlt : k < L
    · obtain ⟨g, cap, hv, hg1, hg2⟩ := World.ownsRow.form hown (by rw [bc_length]; omega)
      injection hv with hv1 hv2 hv3
      subst hv1
      have hgl := hA1 _ rfl
      have hkl : k < l.length := by omega
      have hcell := hown.cell_at k hlt
      rw [bc_get l k hkl] at hcell
      have hfz := hown.frozen_at k
      have HOW := Lib.hid hown
      clear hv2 hv3 hown hll
      go_wp2_with fail
      go_roundw
      case rel =>
        refine ⟨k + 1, l.set k (l[k] + 1), by omega, by go_num, ?_, hownn.other HOW.out.row hgl k _, hownm.other HOW.out.row hgl k _, hbel.setCell (by exact hg1) _, by simpa using hsz⟩
        rw [← bc_bump l k hkl]
        exact HOW.out.set_at k _
      case measure => simp [intOf]; omega
    · have : k = L := by omega
      subst this
      obtain ⟨An, cn, rfl, hln, rn⟩ := hownn.form7 n.length (by simp)
      obtain ⟨Am, cm, rfl, hlm, rm⟩ := hownm.form7 n.length (by simp)
      clear hown hownn hownm
      go_wp2_with (go_at_call 15; refine (seq_any An Am cn cm n n wr wr.heap.size rn rm hnl hnl).mono ?_; rw [decide_eq_true (rfl : n = n)]; rintro e w8 ⟨rfl, q, hq⟩; have hb8 := below_step hbel hq; clear hq)
      go_ret
      exact ⟨rfl, hb8⟩

set_option maxRecDepth 100000 in
set_option maxHeartbeats 1000000 in
theorem nameReads_any (haw : AwakeOk) (A : Option Addr) (c : Nat) (b : List UInt8) (x : Int) (w : World) (h : Rd w w.heap.size A b.length (bc b)) (hcap : b.length ≤ c) (hb : b.length ≤ 140737488351232) (hx : -9223372036854775808 ≤ x ∧ x ≤ 9223372036854775807) :
    Calls Try.prog 5 #[.slice A b.length c, .int .i64 x] w fun e w' => e = .returned (.bool true) ∧ Below w.heap.size w w' := by
  have haw' := Lib.hid haw
  clear haw
  by_cases h1 : 1000 < b.length
  · have d1 : decide (1000 < (b.length : Int)) = true := by simp; omega
    go_enter Try.func5, Try.ntmps5
    go_wp2_with (go_at_call 11; refine (haw'.out _).mono ?_; rintro e w1 ⟨rfl, hb1⟩)
    go_ret
    exact ⟨rfl, hb1⟩
  · have d1 : decide (1000 < (b.length : Int)) = false := by simp; omega
    go_enter Try.func5, Try.ntmps5
    go_wp2_with (first
      | (go_at_call 11; refine (haw'.out _).mono ?_; rintro e w2 ⟨rfl, hb2⟩)
      | (go_at_call 22; refine (reads_any A c b x w h hcap (by omega)).mono ?_; rintro e w1 ⟨rfl, hb1⟩))
    go_ret
    exact ⟨rfl, hb1.trans (hb2.mono hb1.size)⟩
end Go.Proofs.Ytnfgcfljjmjmpaa
