/-
  The reference gaugerref19: a digit, the byte that is wanted.
-/
import Derived.Test.YtkjibnhihdbmdaaDoorChunkLaw
import Derived.Test.YtkjibnhihdbmdaaDoorChunkRE
import Derived.Test.YtkjibnhihdbmdaaDoorChunkG
set_option linter.unusedVariables false
set_option linter.unusedSimpArgs false
namespace Go.Proofs.YtkjibnhihdbmdaaDoor
open Go.RowKit
/-- a reading, as a value -/
abbrev rgV (at_ : Nat) (bad : Int) (d : Bool) (vb vt : Value) : Value := .agg #[.int .i64 (at_ : Int), .int .i64 bad, .bool d, vb, vt]
theorem below_two {w : World} (o1 o2 : Obj) : Below w.heap.size w ((w.alloc o1).alloc o2) := ((Below.refl _ w).alloc (Nat.le_refl _) o1).alloc (by simp) o2
set_option maxRecDepth 100000 in
set_option maxHeartbeats 400000 in
theorem wants_end (A : Option Addr) (c L : Nat) (bad : Int) (d : Bool) (Ab : Option Addr) (nb cb : Nat) (At : Option Addr) (nt ct : Nat) (x : UInt8) (w : World) :
    Calls Tryd.prog 65 #[.slice A L c, rgV L bad d (.slice Ab nb cb) (.slice At nt ct), .int .u8 (x.toNat : Int)] w fun e w' => e = .returned (.tuple #[rgV L bad d (.slice Ab nb cb) (.slice At nt ct), .bool false]) ∧ Below w.heap.size w w' := by
  unfold rgV
  go_enter Tryd.func65, Tryd.ntmps65
  go_wp2
  refine bodyPost_ret (v := .tuple #[rgV L bad d (.slice Ab nb cb) (.slice At nt ct), .bool false]) (by simp [rgV, results, Tryd.results65, go_sem]) rfl ⟨rfl, below_two _ _⟩
set_option maxRecDepth 100000 in
set_option maxHeartbeats 400000 in
theorem wants_ok (A : Option Addr) (c L : Nat) (l : List UInt8) (at_ : Nat) (bad : Int) (d : Bool) (Ab : Option Addr) (nb cb : Nat) (At : Option Addr) (nt ct : Nat) (x : UInt8) (w : World) (hy : l[at_]? = some x) (hL : l.length = L) (hr : Rd w w.heap.size A L (bc l)) (hl : L ≤ 140737488355328) :
    Calls Tryd.prog 65 #[.slice A L c, rgV at_ bad d (.slice Ab nb cb) (.slice At nt ct), .int .u8 (x.toNat : Int)] w fun e w' => e = .returned (.tuple #[rgV (at_ + 1) bad d (.slice Ab nb cb) (.slice At nt ct), .bool true]) ∧ Below w.heap.size w w' := by
  unfold rgV
  have h : at_ < L := by
    rcases Nat.lt_or_ge at_ L with h | h
    · exact h
    · rw [List.getElem?_eq_none (by omega)] at hy; cases hy
  obtain ⟨b, o, rfl, _, hcells⟩ := hr.at_ (k := at_) h
  have hx := hcells at_ (.int .u8 (x.toNat : Int)) (by simp [bc, hy])
  clear hcells hr hL hy
  go_enter Tryd.func65, Tryd.ntmps65
  go_wp2
  refine bodyPost_ret (v := .tuple #[rgV (at_ + 1) bad d (.slice Ab nb cb) (.slice At nt ct), .bool true]) (by simp [rgV, results, Tryd.results65, go_sem]) rfl ⟨rfl, below_two _ _⟩
set_option maxRecDepth 100000 in
set_option maxHeartbeats 400000 in
theorem wants_no (A : Option Addr) (c L : Nat) (l : List UInt8) (at_ : Nat) (bad : Int) (d : Bool) (Ab : Option Addr) (nb cb : Nat) (At : Option Addr) (nt ct : Nat) (x y : UInt8) (w : World) (hy : l[at_]? = some y) (hne : y ≠ x) (hL : l.length = L) (hr : Rd w w.heap.size A L (bc l)) (hl : L ≤ 140737488355328) :
    Calls Tryd.prog 65 #[.slice A L c, rgV at_ bad d (.slice Ab nb cb) (.slice At nt ct), .int .u8 (x.toNat : Int)] w fun e w' => e = .returned (.tuple #[rgV at_ 191 d (.slice Ab nb cb) (.slice At nt ct), .bool false]) ∧ Below w.heap.size w w' := by
  unfold rgV
  have h : at_ < L := by
    rcases Nat.lt_or_ge at_ L with h | h
    · exact h
    · rw [List.getElem?_eq_none (by omega)] at hy; cases hy
  obtain ⟨b, o, rfl, _, hcells⟩ := hr.at_ (k := at_) h
  have hx := hcells at_ (.int .u8 (y.toNat : Int)) (by simp [bc, hy])
  have hne2 : ((y.toNat : Int) == (x.toNat : Int)) = false := beq_eq_false_iff_ne.2 (fun e => hne (UInt8.toNat_inj.1 (by omega)))
  clear hcells hr hL hy
  go_enter Tryd.func65, Tryd.ntmps65
  go_wp2
  refine bodyPost_ret (v := .tuple #[rgV at_ 191 d (.slice Ab nb cb) (.slice At nt ct), .bool false]) (by simp [rgV, results, Tryd.results65, go_sem]) rfl ⟨rfl, below_two _ _⟩
/-- a reading, its offset any number -/
abbrev rgI (a bad : Int) (d : Bool) (vb vt : Value) : Value := .agg #[.int .i64 a, .int .i64 bad, .bool d, vb, vt]
theorem wants_endI (A : Option Addr) (c L : Nat) (bad : Int) (d : Bool) (Ab : Option Addr) (nb cb : Nat) (At : Option Addr) (nt ct : Nat) (x : UInt8) (a n : Int) (w : World) (ha : a = (L : Int)) (hn : n = (x.toNat : Int)) :
    Calls Tryd.prog 65 #[.slice A L c, rgI a bad d (.slice Ab nb cb) (.slice At nt ct), .int .u8 n] w fun e w' => e = .returned (.tuple #[rgI a bad d (.slice Ab nb cb) (.slice At nt ct), .bool false]) ∧ Below w.heap.size w w' := by
  subst ha hn; exact wants_end A c L bad d Ab nb cb At nt ct x w
theorem wants_okI (A : Option Addr) (c L : Nat) (l : List UInt8) (at_ : Nat) (bad : Int) (d : Bool) (Ab : Option Addr) (nb cb : Nat) (At : Option Addr) (nt ct : Nat) (x : UInt8) (a n : Int) (w : World) (ha : a = (at_ : Int)) (hn : n = (x.toNat : Int)) (hy : l[at_]? = some x) (hL : l.length = L) (hr : Rd w w.heap.size A L (bc l)) (hl : L ≤ 140737488355328) :
    Calls Tryd.prog 65 #[.slice A L c, rgI a bad d (.slice Ab nb cb) (.slice At nt ct), .int .u8 n] w fun e w' => e = .returned (.tuple #[rgI (a + 1) bad d (.slice Ab nb cb) (.slice At nt ct), .bool true]) ∧ Below w.heap.size w w' := by
  subst ha hn
  have := wants_ok A c L l at_ bad d Ab nb cb At nt ct x w hy hL hr hl
  unfold rgV at this
  rw [Int.natCast_add] at this
  exact this
theorem wants_noI (A : Option Addr) (c L : Nat) (l : List UInt8) (at_ : Nat) (bad : Int) (d : Bool) (Ab : Option Addr) (nb cb : Nat) (At : Option Addr) (nt ct : Nat) (x y : UInt8) (a n : Int) (w : World) (ha : a = (at_ : Int)) (hn : n = (x.toNat : Int)) (hy : l[at_]? = some y) (hne : y ≠ x) (hL : l.length = L) (hr : Rd w w.heap.size A L (bc l)) (hl : L ≤ 140737488355328) :
    Calls Tryd.prog 65 #[.slice A L c, rgI a bad d (.slice Ab nb cb) (.slice At nt ct), .int .u8 n] w fun e w' => e = .returned (.tuple #[rgI a 191 d (.slice Ab nb cb) (.slice At nt ct), .bool false]) ∧ Below w.heap.size w w' := by
  subst ha hn; exact wants_no A c L l at_ bad d Ab nb cb At nt ct x y w hy hne hL hr hl
end Go.Proofs.YtkjibnhihdbmdaaDoor
