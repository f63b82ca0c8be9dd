import Derived.Test.YtnfgcfljjmjmpaaDoorAppOk
import Derived.Test.YtnfgcfljjmjmpaaDoorParse
import Derived.Test.YtnfgcfljjmjmpaaDoorOrder
set_option linter.unusedVariables false
namespace Go.Proofs.YtnfgcfljjmjmpaaDoor
open Go.RowKit

/-- slices that are known to be readable -/
def Knows (w : World) (l : List (Option Addr × Nat × List Value)) : Prop := ∀ x ∈ l, Rd w w.heap.size x.1 x.2.1 x.2.2
theorem Knows.nil (w : World) : Knows w [] := fun _ h => by cases h
theorem Knows.below {w w' : World} {l : List (Option Addr × Nat × List Value)} (h : Knows w l) (hb : Below w.heap.size w w') : Knows w' l := fun x hx => ((h x hx).below hb).more hb.size
theorem Knows.alloc {w : World} {l : List (Option Addr × Nat × List Value)} (h : Knows w l) (o : Obj) : Knows (w.alloc o) l := fun x hx => ((h x hx).alloc (Nat.le_refl _) o).more (by simp)
theorem Knows.drew {w : World} {l : List (Option Addr × Nat × List Value)} (h : Knows w l) : Knows w.drew l := h
theorem Knows.drewN {w : World} {l : List (Option Addr × Nat × List Value)} (h : Knows w l) (q : Nat) : Knows (w.drewN q) l := h
theorem Knows.cons {w : World} {l : List (Option Addr × Nat × List Value)} (h : Knows w l) {A : Option Addr} {n : Nat} {xs : List Value} (hr : Rd w w.heap.size A n xs) : Knows w ((A, n, xs) :: l) := fun x hx => by
  rcases List.mem_cons.1 hx with rfl | hx
  · exact hr
  · exact h x hx
theorem Knows.get {w : World} {l : List (Option Addr × Nat × List Value)} (h : Knows w l) {A : Option Addr} {n : Nat} {xs : List Value} (hx : (A, n, xs) ∈ l) : Rd w w.heap.size A n xs := h _ hx
/-- a literal just built -/
theorem Rd.lit (w : World) (e : TypeId) (cs : List Value) (n : Nat) (hn : cs.length = n) (hm : cs.length ≤ maxLen) : Rd (w.alloc (.cells cs.toArray e)) (w.heap.size + 1) (some ⟨w.heap.size, 0, none⟩) n cs := by
  subst hn
  have h := Rd.of_own (Ow.lit w e cs hm)
  rw [World.size_alloc] at h
  exact h

theorem Ow.form6 {w : World} {base : Nat} {e : TypeId} {v : Value} {xs : List Value} (h : Ow w base e v xs) (n : Nat) (hn : xs.length = n) : ∃ A c, v = .slice A n c ∧ n ≤ c ∧ Rd w w.heap.size A n xs := by
  subst hn
  obtain ⟨A, c, h1, h2, _, h3⟩ := h.form
  exact ⟨A, c, h1, h2, h3⟩
theorem Rd.lit_at (w : World) (e : TypeId) (cs : List Value) (n g : Nat) (hg : g = w.heap.size) (hn : cs.length = n) (hm : cs.length ≤ maxLen) : Rd (w.alloc (.cells cs.toArray e)) (w.heap.size + 1) (some ⟨g, 0, none⟩) n cs := by
  subst hg; exact Rd.lit w e cs n hn hm
theorem Rd.lit_top (w : World) (e : TypeId) (cs : List Value) (n g : Nat) (hg : g = w.heap.size) (hn : cs.length = n) (hm : cs.length ≤ maxLen) : Rd (w.alloc (.cells cs.toArray e)) (w.alloc (.cells cs.toArray e)).heap.size (some ⟨g, 0, none⟩) n cs := (Rd.lit_at w e cs n g hg hn hm).more (by simp)
theorem Rd.alloc_top {w : World} {A : Option Addr} {n : Nat} {xs : List Value} (h : Rd w w.heap.size A n xs) (o : Obj) : Rd (w.alloc o) (w.alloc o).heap.size A n xs := (h.alloc (Nat.le_refl _) o).more (by simp)
theorem Rd.step {w w' : World} {A : Option Addr} {n q : Nat} {xs : List Value} (h : Rd w w.heap.size A n xs) (hq : w' = w.drewN q) : Rd w' w'.heap.size A n xs := by subst hq; exact h

namespace Awake
def B : List UInt8 := [0, 0, 0, 0, 0, 1, 97, 2, 98, 99, 0]
def n1 : List (List UInt8) := [[97], [98, 99]]
def n2 : List (List UInt8) := [[120], [98, 99]]
def n3 : List (List UInt8) := [[98, 99], [100]]
theorem r1 : rightN n1 = true := by kernel_rfl
theorem r2 : rightN n2 = true := by kernel_rfl
theorem r3 : rightN n3 = true := by kernel_rfl
theorem form1 : formN n1 = [1, 97, 2, 98, 99, 0] := by kernel_rfl
theorem read5 : readN B 5 = (n1, 11, 0) := by kernel_rfl
theorem read7 : readN B 7 = ([[98, 99]], 11, 0) := by kernel_rfl
theorem readP : readN [192, 0] 0 = ([], 0, 163) := by kernel_rfl
theorem readK : readN [64] 0 = ([], 0, 162) := by kernel_rfl
theorem readS : readN [2, 98] 0 = ([], 0, 161) := by kernel_rfl
theorem placesU5 : placesU B [5] = [5, 7] := by kernel_rfl
theorem placesU0 : placesU B [] = [] := by kernel_rfl
theorem places5 : placesN B [5] = [5, 7] := by
  unfold placesN
  rw [placesU5]
  exact List.mergeSort_of_pairwise (by decide)
theorem places0 : placesN B [] = [] := by
  unfold placesN
  rw [placesU0]
  exact List.mergeSort_nil
theorem app1 : appN B [5] n1 = B ++ [192, 5] := by unfold appN; rw [places5]; kernel_rfl
theorem app2 : appN B [5] n2 = B ++ [1, 120, 192, 7] := by unfold appN; rw [places5]; kernel_rfl
theorem app3 : appN B [5] n3 = B ++ [2, 98, 99, 1, 100, 0] := by unfold appN; rw [places5]; kernel_rfl
theorem app4 : appN B [] n1 = B ++ [1, 97, 2, 98, 99, 0] := by unfold appN; rw [places0]; kernel_rfl
theorem rt : rightN [[97, 46, 98], [200]] = true := by kernel_rfl
theorem text1 : textN [[97, 46, 98], [200]] = [97, 92, 46, 98, 46, 92, 50, 48, 48] := by kernel_rfl
theorem parse1 : parseN [65, 46, 66, 99] = (n1, 0) := by kernel_rfl
theorem parse2 : parseN [97, 46, 46, 98] = ([], 164) := by kernel_rfl
theorem parse3 : parseN [97, 46] = ([], 164) := by kernel_rfl
theorem parse4 : parseN [92, 57, 55] = ([], 164) := by kernel_rfl
theorem size1 : sizeN n1 = 6 := by kernel_rfl
theorem cmp1 : cmpN [[98], [99, 111, 109]] [[99, 111, 109]] = 1 := by kernel_rfl
theorem cmp2 : cmpN [[98], [99, 111, 109]] [[97], [110, 101, 116]] = -1 := by kernel_rfl
theorem cmp3 : cmpN [[97], [99, 111, 109]] [[97], [98], [99, 111, 109]] = -1 := by kernel_rfl
theorem under1 : underN [[98], [99, 111, 109]] [[99, 111, 109]] = true := by kernel_rfl
theorem under2 : underN [[99, 111, 109]] [[98], [99, 111, 109]] = false := by kernel_rfl
end Awake
end Go.Proofs.YtnfgcfljjmjmpaaDoor
