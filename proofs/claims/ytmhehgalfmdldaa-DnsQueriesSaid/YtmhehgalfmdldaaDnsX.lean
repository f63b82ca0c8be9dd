/-
  dns: the examples of the chapter, in plain Lean; what is read, as a message in memory.
-/
import Derived.Test.YtmhehgalfmdldaaStrW
import Derived.Test.YtmhehgalfmdldaaDnsE
import Derived.Test.YtmhehgalfmdldaaDnsQ6
import Derived.Test.YtmhehgalfmdldaaDnsB2
set_option linter.unusedVariables false
set_option linter.unusedSimpArgs false
namespace Go.Proofs.Ytmhehgalfmdldaa
open Go.RowKit
namespace DX
def nm : List (List UInt8) := [[95, 97], [98]]
def q : Qn := ⟨nm, 33, 1⟩
def r : Rc := ⟨q, 60, [], 1, 2, 80, [[104], [98]]⟩
def M : Ms := ⟨258, 32768, [q], [r], [], []⟩
def hdr : List UInt8 := [1, 2, 128, 0, 0, 1, 0, 1, 0, 0, 0, 0, 2, 95, 97, 1, 98, 0, 0, 33, 0, 1, 192, 12, 0, 33, 0, 1, 0, 0, 0, 60, 0]
def mid : List UInt8 := [0, 1, 0, 2, 0, 80]
def rep (s : UInt8) (t : List UInt8) : List UInt8 := hdr ++ [s] ++ mid ++ t
def qB : List UInt8 := [1, 2, 1, 0, 0, 1, 0, 0, 0, 0, 0, 0, 2, 95, 97, 1, 98, 0, 0, 33, 0, 1]
theorem places_nil (b : List UInt8) : placesN b [] = [] := by
  unfold placesN
  rw [show placesU b [] = [] from rfl]
  exact List.mergeSort_nil
theorem appGo_nil (b : List UInt8) (n : List (List UInt8)) : ∀ f i, appGo b [] n f i = b ++ labS n ++ [0]
  | 0, _ => rfl
  | f + 1, i => by
    rw [appGo]
    exact appGo_nil b n f (i + 1)
theorem app_none (b : List UInt8) (n : List (List UInt8)) : appN b [] n = b ++ labS n ++ [0] := by
  unfold appN
  rw [places_nil]
  exact appGo_nil b n _ _
theorem app_known (b : List UInt8) (known : List Int) (l : List Int) (n : List (List UInt8)) (h : placesU b known = l) (hp : l.Pairwise (fun x y => decide (x ≤ y) = true)) : appN b known n = appGo b l n n.length 0 := by
  unfold appN placesN
  rw [h, List.mergeSort_of_pairwise hp]
def b1 : List UInt8 := [1, 2, 128, 0, 0, 1, 0, 1, 0, 0, 0, 0, 2, 95, 97, 1, 98, 0, 0, 33, 0, 1]
theorem ask1 : askB (headB M, []) q = (b1, [12]) := by
  unfold askB
  rw [app_none]
  kernel_rfl
theorem placesU1 : placesU b1 [12] = [12, 15] := by kernel_rfl
theorem app1 : appN b1 [12] nm = b1 ++ [192, 12] := by
  rw [app_known b1 [12] [12, 15] nm placesU1 (by decide)]
  kernel_rfl
theorem rec1 : (recB (b1, [12]) r).1 = rep 11 [1, 104, 1, 98, 0] := by
  unfold recB askB
  rw [show r.q.nm = nm from rfl, app1]
  kernel_rfl
theorem formM1 : formM M = rep 11 [1, 104, 1, 98, 0] := by
  show (recB (askB (headB M, []) q) r).1 = _
  rw [ask1]
  exact rec1
theorem rightM1 : rightM M = true := by kernel_rfl
theorem writeM_ok {m : Ms} {b : List UInt8} (h1 : rightM m = true) (h2 : m.num ≤ 256) (h3 : formM m = b) (h4 : b.length ≤ 4096) : writeM m = (b, 0) := by
  unfold writeM
  rw [if_neg (by rw [h1]; simp), if_neg (by omega), h3, if_neg (by omega)]
theorem write1 : writeM M = (rep 11 [1, 104, 1, 98, 0], 0) := writeM_ok rightM1 (by decide) formM1 (by decide)
theorem query1 : writeM ⟨258, 256, [⟨nm, 33, 1⟩], [], [], []⟩ = (qB, 0) := by
  have h : formM ⟨258, 256, [⟨nm, 33, 1⟩], [], [], []⟩ = qB := by
    show (askB (headB ⟨258, 256, [⟨nm, 33, 1⟩], [], [], []⟩, []) ⟨nm, 33, 1⟩).1 = _
    unfold askB
    rw [app_none]
    kernel_rfl
  exact writeM_ok (by kernel_rfl) (by decide) h (by decide)
theorem read1 : readM (rep 11 [1, 104, 1, 98, 0]) = (M, 0) := by kernel_rfl
theorem read2 : readM (rep 10 [1, 104, 192, 15]) = (M, 0) := by kernel_rfl
theorem read3 : (readM (rep 12 [1, 104, 1, 98, 0])).2 = 171 := by kernel_rfl
theorem read4 : (readM (rep 10 [1, 104, 1, 98, 0])).2 = 172 := by kernel_rfl
theorem same1 : sameM M M = true := (sameM_iff M M).2 rfl
theorem ans1 : answersM M nm 33 = [r] := by kernel_rfl
theorem nm_small : sizeN nm ≤ 140737488355328 := by decide
end DX
/-- what is of the call's own can be read -/
theorem OwM.cap {w : World} {base s n c : Nat} {e : TypeId} {A : Option Addr} {xs : List Value} (h : OwM w base e s (.slice A n c) n xs) : n ≤ c := by
  obtain ⟨A', c', he, h1, _⟩ := h.form
  injection he with _ _ h3
  omega
theorem nmO_rd {w : World} {base : Nat} {A : Option Addr} {c : Nat} {n : List (List UInt8)} (h : (nmO A c n).ok w base) (hs : sizeN n ≤ 140737488355328) : NRd w w.heap.size A c n := by
  have h1 : OwM w base 9 1 (.slice A (sc n).length c) (sc n).length (sc n) := by
    have := h
    unfold Ob.ok nmO at this
    rw [sc_length] at this ⊢
    exact this
  have h2 := h1.rd
  have h3 := h1.cap
  rw [Nat.mul_one, sc_length] at h2
  rw [sc_length] at h3
  exact ⟨h2, h3, hs⟩
theorem daO_rd {w : World} {base : Nat} {A : Option Addr} {c : Nat} {d : List UInt8} (h : (daO A c d).ok w base) (hs : d.length ≤ 140737488355328) : DRd w w.heap.size A c d := by
  have h1 : OwM w base 5 1 (.slice A (bc d).length c) (bc d).length (bc d) := by
    have := h
    unfold Ob.ok daO at this
    rw [bc_length] at this ⊢
    exact this
  have h2 := h1.rd
  have h3 := h1.cap
  rw [Nat.mul_one, bc_length] at h2
  rw [bc_length] at h3
  exact ⟨h2, h3, hs⟩
theorem right_small {n : List (List UInt8)} (h : rightN n = true) : sizeN n ≤ 140737488355328 := by
  have := size_right h
  omega
theorem rwQ_rd {w : World} {base : Nat} {A : Option Addr} {c : Nat} {l : List QR} (h : (rwQ A c l).ok w base) (hn : ∀ o, DQ l o → o.ok w base) (hr : ∀ x ∈ l, rightN x.q.nm = true) (hk : ∀ x ∈ l, okQ x.q) (hl : l.length ≤ 256) : QsRd w w.heap.size A c l.length l := by
  have h1 : OwM w base 42 3 (.slice A l.length c) l.length (qcs l) := h
  exact ⟨h1.rd, rfl, h1.cap, by omega, fun x hx => ⟨nmO_rd (hn _ ⟨x, hx, rfl⟩) (right_small (hr x hx)), hk x hx⟩⟩
theorem rightR_data {r : Rc} (h : rightR r = true) : r.d.length ≤ 4096 := by
  unfold rightR at h
  split at h
  · split at h
    · split at h
      · omega
      · cases h
    · simp at h; exact h.1
  · cases h
theorem rightR_tg {r : Rc} (h : rightR r = true) : sizeN r.tg ≤ 140737488355328 := by
  unfold rightR at h
  split at h
  · split at h
    · split at h
      · exact right_small h
      · cases h
    · simp at h; rw [h.2.2.2.2]; simp [sizeN]
  · cases h
theorem rwR_rd {w : World} {base : Nat} {A : Option Addr} {c : Nat} {l : List RR} (h : (rwR A c l).ok w base) (hn : ∀ o, DR l o → o.ok w base) (hr : ∀ x ∈ l, rightR x.r = true) (hk : ∀ x ∈ l, okR x.r) (hl : l.length ≤ 256) : RsRd w w.heap.size A c l.length l := by
  have h1 : OwM w base 49 9 (.slice A l.length c) l.length (rcs l) := h
  refine ⟨h1.rd, rfl, h1.cap, by omega, fun x hx => ?_⟩
  obtain ⟨k1, k2, k3, k4, k5⟩ := hk x hx
  exact ⟨⟨nmO_rd (hn _ ⟨x, hx, Or.inl rfl⟩) (right_small (rightR_nm (hr x hx))), k1⟩, daO_rd (hn _ ⟨x, hx, Or.inr (Or.inl rfl)⟩) (by have := rightR_data (hr x hx); omega), nmO_rd (hn _ ⟨x, hx, Or.inr (Or.inr rfl)⟩) (rightR_tg (hr x hx)), k2, k3, k4, k5⟩
theorem MOw.rd {w : World} {base : Nat} {x : MR} (h : MOw w base x) (hr : rightM x.m = true) (hk : okM x.m) (hn : x.m.num ≤ 256) : MRd w w.heap.size x := by
  have hn' : x.qs.length + x.r0.length + x.r1.length + x.r2.length ≤ 256 := by simpa [Ms.num, MR.m] using hn
  obtain ⟨a0, a1, a2, a3⟩ := resW hr
  exact ⟨hk.id, hk.fl, rwQ_rd h.q h.n a0 (fun y hy => hk.qs _ (List.mem_map.2 ⟨y, hy, rfl⟩)) (by omega), rwR_rd h.a h.r0 a1 (fun y hy => hk.r0 _ (List.mem_map.2 ⟨y, hy, rfl⟩)) (by omega), rwR_rd h.b h.r1 a2 (fun y hy => hk.r1 _ (List.mem_map.2 ⟨y, hy, rfl⟩)) (by omega), rwR_rd h.c h.r2 a3 (fun y hy => hk.r2 _ (List.mem_map.2 ⟨y, hy, rfl⟩)) (by omega)⟩
theorem okM_z : okM zM := ⟨by simp [zM], by simp [zM], fun q h => (by cases h), fun q h => (by cases h), fun q h => (by cases h), fun q h => (by cases h)⟩
/-- what is read, as a message in memory -/
theorem read_mrd {w : World} {base : Nat} {x : MR} {b : List UInt8} (h : MOw w base x) (hx : x.m = (readM b).1) : MRd w w.heap.size x := by
  by_cases h0 : (readM b).2 = 0
  · obtain ⟨h1, h2, h3, _⟩ := read_ok h0
    exact h.rd (by rw [hx]; exact h1) (by rw [hx]; exact h2) (by rw [hx]; exact h3)
  · have hz := read_err h0
    exact h.rd (by rw [hx, hz]; rfl) (by rw [hx, hz]; exact okM_z) (by rw [hx, hz]; simp [Ms.num, zM])
end Go.Proofs.Ytmhehgalfmdldaa
