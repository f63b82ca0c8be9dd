/-
  dns: the guard: the examples of the chapter.
-/
import Derived.Test.YtlipmlbijddopaaDnsB2
import Derived.Test.YtlipmlbijddopaaDnsQ6
import Derived.Test.YtlipmlbijddopaaDnsE
import Derived.Test.YtlipmlbijddopaaLib
import Derived.Lib.ConvBytes
import Derived.Test.YtlipmlbijddopaaEnds
import Derived.Lib.SlBytesConst
import Derived.Laws.IdiomStrings
set_option linter.unusedVariables false
set_option linter.unusedSimpArgs false
namespace Go.Proofs.Ytlipmlbijddopaa
open Go.RowKit
/-- the world behind '[]byte(s)' -/
def cW (w : World) (l : List UInt8) : World := Lib.bytesWorld w 5 ⟨l.toArray⟩
theorem conv_cW (w : World) (l : List UInt8) (n : Nat) (hn : l.length = n) : (convert 9 22 (.string ⟨l.toArray⟩)).run Try.prog w = .ok (.slice (some ⟨w.heap.size, 0, none⟩) n (grownCap w n 0 5)) (cW w l) := by
  subst hn
  exact Lib.run_convert_string_bytes (P := Try.prog) w 9 22 5 ⟨l.toArray⟩ Try.underlying9 Try.underlying22 Try.underlying5
theorem cW_size (w : World) (l : List UInt8) : (cW w l).heap.size = w.heap.size + 1 := Lib.bytesWorld_size _ _ _
theorem cW_below (w : World) (l : List UInt8) : Below w.heap.size w (cW w l) := by
  obtain ⟨cap, w1, h1, _, h2, _, _⟩ := conv_sb (P := Try.prog) w 9 22 5 l Try.underlying9 Try.underlying22 Try.underlying5
  rw [conv_cW w l l.length rfl] at h1
  have := (Result.ok.inj h1).2
  rw [this]; exact h2
theorem cW_cap (w : World) (l : List UInt8) (n : Nat) (hn : l.length = n) : n ≤ grownCap w n 0 5 := grownCap_ge w n 0 5
theorem cW_rd (w : World) (l : List UInt8) (n : Nat) (hn : l.length = n) : Rd (cW w l) (cW w l).heap.size (some ⟨w.heap.size, 0, none⟩) n (bc l) := by
  subst hn
  obtain ⟨cap, w1, h1, _, h2, h3, h4⟩ := conv_sb (P := Try.prog) w 9 22 5 l Try.underlying9 Try.underlying22 Try.underlying5
  rw [conv_cW w l l.length rfl] at h1
  have := (Result.ok.inj h1).2
  rw [this]
  have h5 := h4.rd (B := w1.heap.size) (by omega)
  rw [bc_length] at h5
  exact h5
theorem keep_cW {w0 W : World} (h : Below w0.heap.size w0 W) (l : List UInt8) : Below w0.heap.size w0 (cW W l) := h.trans ((cW_below W l).mono h.size)
theorem rd_cW {w : World} {A : Option Addr} {n : Nat} {xs : List Value} (h : Rd w w.heap.size A n xs) (l : List UInt8) : Rd (cW w l) (cW w l).heap.size A n xs := (h.below (cW_below w l)).more (cW_below w l).size
open Go.RowKit
namespace DX
def nm : List (List UInt8) := [[95, 97], [98]]
def q : Qn := ⟨nm, 33, 1⟩
def r : Rc := ⟨q, 60, [], 1, 2, 80, [[104], [98]]⟩
def M : Ms := ⟨258, 32768, [q], [r], [], []⟩
def hdr : List UInt8 := [1, 2, 128, 0, 0, 1, 0, 1, 0, 0, 0, 0, 2, 95, 97, 1, 98, 0, 0, 33, 0, 1, 192, 12, 0, 33, 0, 1, 0, 0, 0, 60, 0]
def mid : List UInt8 := [0, 1, 0, 2, 0, 80]
def rep (s : UInt8) (t : List UInt8) : List UInt8 := hdr ++ [s] ++ mid ++ t
def qB : List UInt8 := [1, 2, 1, 0, 0, 1, 0, 0, 0, 0, 0, 0, 2, 95, 97, 1, 98, 0, 0, 33, 0, 1]
theorem places_nil (b : List UInt8) : placesN b [] = [] := by
  unfold placesN
  rw [show placesU b [] = [] from rfl]
  exact List.mergeSort_nil
theorem appGo_nil (b : List UInt8) (n : List (List UInt8)) : ∀ f i, appGo b [] n f i = b ++ labS n ++ [0]
  | 0, _ => rfl
  | f + 1, i => by
    rw [appGo]
    exact appGo_nil b n f (i + 1)
theorem app_none (b : List UInt8) (n : List (List UInt8)) : appN b [] n = b ++ labS n ++ [0] := by
  unfold appN
  rw [places_nil]
  exact appGo_nil b n _ _
theorem app_known (b : List UInt8) (known : List Int) (l : List Int) (n : List (List UInt8)) (h : placesU b known = l) (hp : l.Pairwise (fun x y => decide (x ≤ y) = true)) : appN b known n = appGo b l n n.length 0 := by
  unfold appN placesN
  rw [h, List.mergeSort_of_pairwise hp]
def b1 : List UInt8 := [1, 2, 128, 0, 0, 1, 0, 1, 0, 0, 0, 0, 2, 95, 97, 1, 98, 0, 0, 33, 0, 1]
theorem ask1 : askB (headB M, []) q = (b1, [12]) := by
  unfold askB
  rw [app_none]
  kernel_rfl
theorem placesU1 : placesU b1 [12] = [12, 15] := by kernel_rfl
theorem app1 : appN b1 [12] nm = b1 ++ [192, 12] := by
  rw [app_known b1 [12] [12, 15] nm placesU1 (by decide)]
  kernel_rfl
theorem rec1 : (recB (b1, [12]) r).1 = rep 11 [1, 104, 1, 98, 0] := by
  unfold recB askB
  rw [show r.q.nm = nm from rfl, app1]
  kernel_rfl
theorem formM1 : formM M = rep 11 [1, 104, 1, 98, 0] := by
  show (recB (askB (headB M, []) q) r).1 = _
  rw [ask1]
  exact rec1
theorem rightM1 : rightM M = true := by kernel_rfl
theorem writeM_ok {m : Ms} {b : List UInt8} (h1 : rightM m = true) (h2 : m.num ≤ 256) (h3 : formM m = b) (h4 : b.length ≤ 4096) : writeM m = (b, 0) := by
  unfold writeM
  rw [if_neg (by rw [h1]; simp), if_neg (by omega), h3, if_neg (by omega)]
theorem write1 : writeM M = (rep 11 [1, 104, 1, 98, 0], 0) := writeM_ok rightM1 (by decide) formM1 (by decide)
theorem query1 : writeM ⟨258, 256, [⟨nm, 33, 1⟩], [], [], []⟩ = (qB, 0) := by
  have h : formM ⟨258, 256, [⟨nm, 33, 1⟩], [], [], []⟩ = qB := by
    show (askB (headB ⟨258, 256, [⟨nm, 33, 1⟩], [], [], []⟩, []) ⟨nm, 33, 1⟩).1 = _
    unfold askB
    rw [app_none]
    kernel_rfl
  exact writeM_ok (by kernel_rfl) (by decide) h (by decide)
theorem read1 : readM (rep 11 [1, 104, 1, 98, 0]) = (M, 0) := by kernel_rfl
theorem read2 : readM (rep 10 [1, 104, 192, 15]) = (M, 0) := by kernel_rfl
theorem read3 : (readM (rep 12 [1, 104, 1, 98, 0])).2 = 171 := by kernel_rfl
theorem read4 : (readM (rep 10 [1, 104, 1, 98, 0])).2 = 172 := by kernel_rfl
theorem same1 : sameM M M = true := (sameM_iff M M).2 rfl
theorem ans1 : answersM M nm 33 = [r] := by kernel_rfl
theorem nm_small : sizeN nm ≤ 140737488355328 := by decide
end DX
/-- what is of the call's own can be read -/
theorem OwM.cap {w : World} {base s n c : Nat} {e : TypeId} {A : Option Addr} {xs : List Value} (h : OwM w base e s (.slice A n c) n xs) : n ≤ c := by
  obtain ⟨A', c', he, h1, _⟩ := h.form
  injection he with _ _ h3
  omega
theorem nmO_rd {w : World} {base : Nat} {A : Option Addr} {c : Nat} {n : List (List UInt8)} (h : (nmO A c n).ok w base) (hs : sizeN n ≤ 140737488355328) : NRd w w.heap.size A c n := by
  have h1 : OwM w base 9 1 (.slice A (sc n).length c) (sc n).length (sc n) := by
    have := h
    unfold Ob.ok nmO at this
    rw [sc_length] at this ⊢
    exact this
  have h2 := h1.rd
  have h3 := h1.cap
  rw [Nat.mul_one, sc_length] at h2
  rw [sc_length] at h3
  exact ⟨h2, h3, hs⟩
theorem daO_rd {w : World} {base : Nat} {A : Option Addr} {c : Nat} {d : List UInt8} (h : (daO A c d).ok w base) (hs : d.length ≤ 140737488355328) : DRd w w.heap.size A c d := by
  have h1 : OwM w base 5 1 (.slice A (bc d).length c) (bc d).length (bc d) := by
    have := h
    unfold Ob.ok daO at this
    rw [bc_length] at this ⊢
    exact this
  have h2 := h1.rd
  have h3 := h1.cap
  rw [Nat.mul_one, bc_length] at h2
  rw [bc_length] at h3
  exact ⟨h2, h3, hs⟩
theorem right_small {n : List (List UInt8)} (h : rightN n = true) : sizeN n ≤ 140737488355328 := by
  have := size_right h
  omega
theorem rwQ_rd {w : World} {base : Nat} {A : Option Addr} {c : Nat} {l : List QR} (h : (rwQ A c l).ok w base) (hn : ∀ o, DQ l o → o.ok w base) (hr : ∀ x ∈ l, rightN x.q.nm = true) (hk : ∀ x ∈ l, okQ x.q) (hl : l.length ≤ 256) : QsRd w w.heap.size A c l.length l := by
  have h1 : OwM w base 38 3 (.slice A l.length c) l.length (qcs l) := h
  exact ⟨h1.rd, rfl, h1.cap, by omega, fun x hx => ⟨nmO_rd (hn _ ⟨x, hx, rfl⟩) (right_small (hr x hx)), hk x hx⟩⟩
theorem rightR_data {r : Rc} (h : rightR r = true) : r.d.length ≤ 4096 := by
  unfold rightR at h
  split at h
  · split at h
    · split at h
      · omega
      · cases h
    · simp at h; exact h.1
  · cases h
theorem rightR_tg {r : Rc} (h : rightR r = true) : sizeN r.tg ≤ 140737488355328 := by
  unfold rightR at h
  split at h
  · split at h
    · split at h
      · exact right_small h
      · cases h
    · simp at h; rw [h.2.2.2.2]; simp [sizeN]
  · cases h
theorem rwR_rd {w : World} {base : Nat} {A : Option Addr} {c : Nat} {l : List RR} (h : (rwR A c l).ok w base) (hn : ∀ o, DR l o → o.ok w base) (hr : ∀ x ∈ l, rightR x.r = true) (hk : ∀ x ∈ l, okR x.r) (hl : l.length ≤ 256) : RsRd w w.heap.size A c l.length l := by
  have h1 : OwM w base 41 9 (.slice A l.length c) l.length (rcs l) := h
  refine ⟨h1.rd, rfl, h1.cap, by omega, fun x hx => ?_⟩
  obtain ⟨k1, k2, k3, k4, k5⟩ := hk x hx
  exact ⟨⟨nmO_rd (hn _ ⟨x, hx, Or.inl rfl⟩) (right_small (rightR_nm (hr x hx))), k1⟩, daO_rd (hn _ ⟨x, hx, Or.inr (Or.inl rfl)⟩) (by have := rightR_data (hr x hx); omega), nmO_rd (hn _ ⟨x, hx, Or.inr (Or.inr rfl)⟩) (rightR_tg (hr x hx)), k2, k3, k4, k5⟩
theorem MOw.rd {w : World} {base : Nat} {x : MR} (h : MOw w base x) (hr : rightM x.m = true) (hk : okM x.m) (hn : x.m.num ≤ 256) : MRd w w.heap.size x := by
  have hn' : x.qs.length + x.r0.length + x.r1.length + x.r2.length ≤ 256 := by simpa [Ms.num, MR.m] using hn
  obtain ⟨a0, a1, a2, a3⟩ := resW hr
  exact ⟨hk.id, hk.fl, rwQ_rd h.q h.n a0 (fun y hy => hk.qs _ (List.mem_map.2 ⟨y, hy, rfl⟩)) (by omega), rwR_rd h.a h.r0 a1 (fun y hy => hk.r0 _ (List.mem_map.2 ⟨y, hy, rfl⟩)) (by omega), rwR_rd h.b h.r1 a2 (fun y hy => hk.r1 _ (List.mem_map.2 ⟨y, hy, rfl⟩)) (by omega), rwR_rd h.c h.r2 a3 (fun y hy => hk.r2 _ (List.mem_map.2 ⟨y, hy, rfl⟩)) (by omega)⟩
theorem okM_z : okM zM := ⟨by simp [zM], by simp [zM], fun q h => (by cases h), fun q h => (by cases h), fun q h => (by cases h), fun q h => (by cases h)⟩
/-- what is read, as a message in memory -/
theorem read_mrd {w : World} {base : Nat} {x : MR} {b : List UInt8} (h : MOw w base x) (hx : x.m = (readM b).1) : MRd w w.heap.size x := by
  by_cases h0 : (readM b).2 = 0
  · obtain ⟨h1, h2, h3, _⟩ := read_ok h0
    exact h.rd (by rw [hx]; exact h1) (by rw [hx]; exact h2) (by rw [hx]; exact h3)
  · have hz := read_err h0
    exact h.rd (by rw [hx, hz]; rfl) (by rw [hx, hz]; exact okM_z) (by rw [hx, hz]; simp [Ms.num, zM])
open Go.RowKit
set_option maxRecDepth 100000 in
set_option maxHeartbeats 400000 in
theorem reply_at (s : UInt8) (t : List UInt8) (ht : t.length ≤ 100) (w : World) :
    Calls Try.prog 6 #[.int .u8 (s.toNat : Int), .string ⟨t.toArray⟩] w fun e w' => ∃ A c, e = .returned (.slice A (DX.rep s t).length c) ∧ (DX.rep s t).length ≤ c ∧ Rd w' w'.heap.size A (DX.rep s t).length (bc (DX.rep s t)) ∧ (∀ a, A = some a → a.block < w'.heap.size) ∧ Below w.heap.size w w' := by
  obtain ⟨x1, h1⟩ : ∃ x, x = DX.hdr ++ [s] := ⟨_, rfl⟩
  obtain ⟨x2, h2⟩ : ∃ x, x = x1 ++ DX.mid := ⟨_, rfl⟩
  obtain ⟨x3, h3⟩ : ∃ x, x = x2 ++ t := ⟨_, rfl⟩
  have hx3 : DX.rep s t = x3 := by rw [h3, h2, h1]; rfl
  have l1 : x1.length = 34 := by rw [h1]; rfl
  have l2 : x2.length = 40 := by rw [h2, List.length_append, l1]; rfl
  rw [hx3]
  have k1 : (convert 22 9 (.slice (some ⟨w.heap.size, 0, none⟩) 1 1)).run Try.prog (w.alloc (.cells #[.int .u8 (s.toNat : Int)] 5)) = .ok (.string ⟨[s].toArray⟩) (w.alloc (.cells #[.int .u8 (s.toNat : Int)] 5)) :=
    conv_bs (P := Try.prog) (w.alloc (.cells (bc [s]).toArray 5)) 22 5 9 (some ⟨w.heap.size, 0, none⟩) 1 _ [s] Try.underlying22 Try.underlying5 Try.underlying9 (Rd.lit w 5 (bc [s]) 1 rfl (by simp [maxLen]))
  have a1 : (⟨#[1, 2, 128, 0, 0, 1, 0, 1, 0, 0, 0, 0, 2, 95, 97, 1, 98, 0, 0, 33, 0, 1, 192, 12, 0, 33, 0, 1, 0, 0, 0, 60, 0]⟩ : ByteArray) ++ ⟨#[s]⟩ = ⟨x1.toArray⟩ := by
    rw [h1]; exact catStr DX.hdr [s]
  have a2 : (⟨x1.toArray⟩ : ByteArray) ++ ⟨#[0, 1, 0, 2, 0, 80]⟩ = ⟨x2.toArray⟩ := by
    rw [h2]; exact catStr x1 DX.mid
  have a3 : (⟨x2.toArray⟩ : ByteArray) ++ ⟨t.toArray⟩ = ⟨x3.toArray⟩ := by
    rw [h3]; exact catStr x2 t
  have kc := fun W => conv_cW W x3 x3.length rfl
  have m1 : x1.length ≤ 34 := by omega
  have m2 : x2.length ≤ 40 := by omega
  clear h1 h2 h3 l1 l2 hx3
  go_enter Try.func6, Try.ntmps6
  go_wp2_with fail
  go_ret
  have hrd := cW_rd (w.alloc (.cells #[.int .u8 (s.toNat : Int)] 5)) x3 x3.length rfl
  rw [World.size_alloc] at hrd
  refine ⟨_, _, rfl, cW_cap _ x3 _ rfl, hrd, ?_, (below_new w _).trans ((cW_below _ x3).mono (by simp))⟩
  intro a ha
  cases ha
  rw [cW_size]
  simp
/-- seven blocks, one after the other -/
theorem chain7 (w : World) (o0 o1 o2 o3 o4 o5 o6 : Obj) (W : World) (hW : W = ((((((w.alloc o0).alloc o1).alloc o2).alloc o3).alloc o4).alloc o5).alloc o6) :
    W.heap[w.heap.size]? = some o0 ∧ W.heap[w.heap.size + 1]? = some o1 ∧ W.heap[w.heap.size + 1 + 1 + 1]? = some o3 ∧ W.heap[w.heap.size + 1 + 1 + 1 + 1]? = some o4 ∧ W.heap[w.heap.size + 1 + 1 + 1 + 1 + 1]? = some o5 ∧ W.heap[w.heap.size + 1 + 1 + 1 + 1 + 1 + 1]? = some o6 ∧ W.heap.size = w.heap.size + 7 ∧ Below w.heap.size w W := by
  subst hW
  have k1 : ∀ (a : World) (p q : Obj), (a.alloc p).heap.size = a.heap.size + 1 := fun a p q => by simp
  have n0 := heap_alloc_new w o0
  have n1 := heap_alloc_new (w.alloc o0) o1
  have n3 := heap_alloc_new (((w.alloc o0).alloc o1).alloc o2) o3
  have n4 := heap_alloc_new ((((w.alloc o0).alloc o1).alloc o2).alloc o3) o4
  have n5 := heap_alloc_new (((((w.alloc o0).alloc o1).alloc o2).alloc o3).alloc o4) o5
  have n6 := heap_alloc_new ((((((w.alloc o0).alloc o1).alloc o2).alloc o3).alloc o4).alloc o5) o6
  simp only [World.size_alloc] at n0 n1 n3 n4 n5 n6
  refine ⟨?_, ?_, ?_, ?_, ?_, ?_, by simp, ?_⟩
  · iterate 6 rw [Below.heap_alloc _ _ _ (by simp only [World.size_alloc]; omega)]
    exact n0
  · iterate 5 rw [Below.heap_alloc _ _ _ (by simp only [World.size_alloc]; omega)]
    exact n1
  · iterate 3 rw [Below.heap_alloc _ _ _ (by simp only [World.size_alloc]; omega)]
    exact n3
  · iterate 2 rw [Below.heap_alloc _ _ _ (by simp only [World.size_alloc]; omega)]
    exact n4
  · iterate 1 rw [Below.heap_alloc _ _ _ (by simp only [World.size_alloc]; omega)]
    exact n5
  · exact n6
  · exact (((((((Below.refl _ w).alloc (by simp) o0).alloc (by simp) o1).alloc (by simp; omega) o2).alloc (by simp; omega) o3).alloc (by simp; omega) o4).alloc (by simp; omega) o5).alloc (by simp; omega) o6
theorem Vx.rd {w : World} {g : Nat} {e : TypeId} {cs : List Value} (h : Vx w g e cs) (n : Nat) (hn : cs.length = n) : Rd w w.heap.size (some ⟨g, 0, none⟩) n cs :=
  ⟨hn, fun _ => ⟨g, 0, rfl, h.lt, fun j u hu => by rw [Nat.zero_add, h.cell j]; exact hu⟩⟩
def DX.xq (b : Nat) : QR := ⟨some ⟨b + 1, 0, none⟩, 2, DX.q⟩
def DX.xr (b : Nat) : RR := ⟨some ⟨b + 1, 0, none⟩, 2, none, 0, some ⟨b + 5, 0, none⟩, 2, DX.r⟩
def DX.x (b : Nat) : MR := ⟨258, 32768, some ⟨b + 3, 0, none⟩, 1, [DX.xq b], some ⟨b + 6, 0, none⟩, 1, [DX.xr b], none, 0, [], none, 0, []⟩
theorem DX.x_m (b : Nat) : (DX.x b).m = DX.M := rfl
theorem DX.mrd {w : World} {b : Nat} (h1 : Vx w (b + 1) 9 (sc DX.nm)) (h3 : Vx w (b + 3) 38 (DX.xq b).cells) (h5 : Vx w (b + 5) 9 (sc [[104], [98]])) (h6 : Vx w (b + 6) 41 (DX.xr b).cells) : MRd w w.heap.size (DX.x b) := by
  have n1 : NRd w w.heap.size (some ⟨b + 1, 0, none⟩) 2 DX.nm := ⟨h1.rd _ rfl, Nat.le_refl _, by decide⟩
  have n5 : NRd w w.heap.size (some ⟨b + 5, 0, none⟩) 2 [[104], [98]] := ⟨h5.rd _ rfl, Nat.le_refl _, by decide⟩
  have hq : QRd w w.heap.size (DX.xq b) := ⟨n1, (show (33 : Nat) < 65536 by decide), (show (1 : Nat) < 65536 by decide)⟩
  have hr : RRd w w.heap.size (DX.xr b) := ⟨hq, ⟨Rd.nil _ _ _, Nat.le_refl _, (show (0 : Nat) ≤ 140737488355328 by decide)⟩, n5, (show (60 : Nat) < 4294967296 by decide), (show (1 : Nat) < 65536 by decide), (show (2 : Nat) < 65536 by decide), (show (80 : Nat) < 65536 by decide)⟩
  refine ⟨(show (258 : Nat) < 65536 by decide), (show (32768 : Nat) < 65536 by decide), ⟨h3.rd _ rfl, rfl, Nat.le_refl _, (show (1 : Nat) ≤ 1000000000000 by decide), ?_⟩, ⟨h6.rd _ rfl, rfl, Nat.le_refl _, (show (1 : Nat) ≤ 1000000000000 by decide), ?_⟩, RsRd.nil _ _, RsRd.nil _ _⟩
  · intro y hy
    rw [List.mem_singleton.1 hy]; exact hq
  · intro y hy
    rw [List.mem_singleton.1 hy]; exact hr
theorem resM2 {fn : Func} {q r : Tmp} (h : fn.results = #[.tmp r, .cell q 28]) (tmps : Array Value) (W : World) (g : Nat) (e : TypeId) (cs : List Value) (vr : Value) (hq : tmps[q]? = some (.pointer (some ⟨g, 0, none⟩))) (hr : tmps[r]? = some vr) (hx : Vx W g e cs) (hn : cs.length = 6) :
    (results fn tmps).run Try.prog W = .ok (.tuple #[vr, .agg cs.toArray]) W := by
  simp [results, h, hq, hr, asAddr, hx.loadM hn]
theorem ex_fin {W W' : World} {b : Nat} {C : Array Value} {t : TypeId} {fr : Nat × Nat} {a0 a1 a2 a3 a4 a5 : Value} (hW : W' = (((((((W.setCell ⟨b, 0, none⟩ a0).setCell ⟨b, 1, none⟩ a1).setCell ⟨b, 2, none⟩ a2).setCell ⟨b, 3, none⟩ a3).setCell ⟨b, 4, none⟩ a4).setCell ⟨b, 5, none⟩ a5).alloc (.cells C t fr)).drew)
    (v0 : Vx W b 28 zM6) (h1 : Vx W (b + 1) 9 (sc DX.nm)) (h3 : Vx W (b + 3) 38 (DX.xq b).cells) (h5 : Vx W (b + 5) 9 (sc [[104], [98]])) (h6 : Vx W (b + 6) 41 (DX.xr b).cells) :
    MRd W' W'.heap.size (DX.x b) ∧ Vx W' b 28 [a0, a1, a2, a3, a4, a5] ∧ (b ≤ W.heap.size → Below b W W') ∧ (C = (bc DX.qB).toArray → Rd W' W'.heap.size (some ⟨W.heap.size, 0, none⟩) 22 (bc DX.qB)) := by
  subst hW
  have hO := set6_only W b a0 a1 a2 a3 a4 a5
  have v := set6_vx v0 (a0 := a0) (a1 := a1) (a2 := a2) (a3 := a3) (a4 := a4) (a5 := a5) rfl
  have g1 := h1.grown hO (fun e => by have := Option.some.inj e; omega)
  have g3 := h3.grown hO (fun e => by have := Option.some.inj e; omega)
  have g5 := h5.grown hO (fun e => by have := Option.some.inj e; omega)
  have g6 := h6.grown hO (fun e => by have := Option.some.inj e; omega)
  have hs := hO.size
  have hs2 : ((((((W.setCell ⟨b, 0, none⟩ a0).setCell ⟨b, 1, none⟩ a1).setCell ⟨b, 2, none⟩ a2).setCell ⟨b, 3, none⟩ a3).setCell ⟨b, 4, none⟩ a4).setCell ⟨b, 5, none⟩ a5).heap.size = W.heap.size := by simp
  generalize (((((W.setCell ⟨b, 0, none⟩ a0).setCell ⟨b, 1, none⟩ a1).setCell ⟨b, 2, none⟩ a2).setCell ⟨b, 3, none⟩ a3).setCell ⟨b, 4, none⟩ a4).setCell ⟨b, 5, none⟩ a5 = w8 at *
  refine ⟨DX.mrd (w := (w8.alloc (.cells C t fr)).drew) (g1.alloc _) (g3.alloc _) (g5.alloc _) (g6.alloc _), v.alloc _, fun hb => ((hO.below (Nat.le_refl _) hb).alloc (by omega) _).drew, fun hC => ⟨rfl, fun _ => ⟨W.heap.size, 0, rfl, ?_, fun j u hu => ?_⟩⟩⟩
  · show W.heap.size < (w8.alloc (.cells C t fr)).heap.size
    simp; omega
  · have := World.cell?_alloc_mark w8 C t fr j
    rw [hs2] at this
    rw [Nat.zero_add]
    show (w8.alloc (.cells C t fr)).cell? _ = _
    rw [this, hC]
    simpa using hu
set_option maxRecDepth 100000 in
set_option maxHeartbeats 1000000 in
theorem example_at (w : World) :
    Calls Try.prog 5 #[] w fun e w' => ∃ (A : Option Addr) (c : Nat) (x : MR), e = .returned (.tuple #[.slice A 22 c, .agg x.cells.toArray]) ∧ x.m = DX.M ∧ Rd w' w'.heap.size A 22 (bc DX.qB) ∧ MRd w' w'.heap.size x ∧ Below w.heap.size w w' := by
  have kc := fun (w : World) (C : Array Value) (n c : Nat) => Lib.run_convert_bytes_const (P := Try.prog) w 22 5 C n c Try.underlying22 Try.underlying5
  go_enter Try.func5, Try.ntmps5
  go_upto_region 4 with fail
  have kc2 : ∀ (w : World) (C : Array Value) (n c : Nat), (convert 22 22 (.slice (some ⟨w.heap.size, 0, none⟩) n c)).run Try.prog (w.alloc (.cells C 5)).drew = .ok (.slice (some ⟨w.heap.size, 0, none⟩) n c) (w.alloc (.cells C 5 (C.size, C.size + 1))).drew := fun w C n c => Lib.run_convert_bytes_const (P := Try.prog) w.drew 22 5 C n c Try.underlying22 Try.underlying5
  clear kc
  obtain ⟨W, hW⟩ : ∃ W, W = (((((((w.alloc (.cells #[.int .u16 0, .int .u16 0, .slice none 0 0, .slice none 0 0, .slice none 0 0, .slice none 0 0] 28)).alloc (.cells #[.string ⟨#[95, 97]⟩, .string ⟨#[98]⟩] 9)).alloc
      (.cells #[.slice (some ⟨w.heap.size + 1, 0, none⟩) 2 2, .int .u16 33, .int .u16 1] 38)).alloc (.cells #[.slice (some ⟨w.heap.size + 1, 0, none⟩) 2 2, .int .u16 33, .int .u16 1] 38)).alloc
      (.cells #[.int .u16 258, .int .u16 32768, .slice (some ⟨w.heap.size + 1 + 1 + 1, 0, none⟩) 1 1, .slice (some ⟨w.heap.size + 1 + 1 + 1 + 1 + 1 + 1, 0, none⟩) 1 1, .slice none 0 0, .slice none 0 0] 28)).alloc (.cells #[.string ⟨#[104]⟩, .string ⟨#[98]⟩] 9)).alloc
      (.cells #[.slice (some ⟨w.heap.size + 1, 0, none⟩) 2 2, .int .u16 33, .int .u16 1, .int .u32 60, .slice none 0 0, .int .u16 1, .int .u16 2, .int .u16 80, .slice (some ⟨w.heap.size + 1 + 1 + 1 + 1 + 1, 0, none⟩) 2 2] 41)) := ⟨_, rfl⟩
  rw [← hW]
  obtain ⟨z0, z1, z3, z4, z5, z6, hsz, hbw⟩ := chain7 w _ _ _ _ _ _ _ W hW
  clear hW
  have v0 : Vx W w.heap.size 28 zM6 := z0
  have v4 : Vx W (w.heap.size + 1 + 1 + 1 + 1) 28 (DX.x w.heap.size).cells := z4
  have HF := Lib.hid (fun (W' : World) (C : Array Value) (t : TypeId) (fr : Nat × Nat) (a0 a1 a2 a3 a4 a5 : Value) hW => ex_fin (W' := W') (C := C) (t := t) (fr := fr) (a0 := a0) (a1 := a1) (a2 := a2) (a3 := a3) (a4 := a4) (a5 := a5) (b := w.heap.size) hW z0 z1 z3 z5 z6)
  have hlt : w.heap.size < W.heap.size := by omega
  have hlt4 : w.heap.size + 1 + 1 + 1 + 1 < W.heap.size := by omega
  clear z0 z1 z3 z4 z5 z6 hsz
  obtain ⟨p0, p1, p2, p3, p4, p5⟩ := v0.c6
  obtain ⟨q0, q1, q2, q3, q4, q5⟩ := v4.c6
  have f0 := v0.free 0
  have f1 := v0.free 1
  have f2 := v0.free 2
  have f3 := v0.free 3
  have f4 := v0.free 4
  have f5 := v0.free 5
  have V0 := Lib.hid v0
  have V4 := Lib.hid v4
  have HBW := Lib.hid hbw
  clear v0 v4 hbw
  go_region
  all_goals go_wp2_with fail
  all_goals
    obtain ⟨F1, F2, F3, F4⟩ := HF.out _ _ _ _ _ _ _ _ _ _ rfl
    refine bodyPost_ret (resM2 Try.results5 _ _ w.heap.size _ _ _ rfl rfl F2 rfl) rfl ?_
    exact ⟨some ⟨W.heap.size, 0, none⟩, 22, DX.x w.heap.size, rfl, rfl, F4 (by kernel_rfl), F1, HBW.out.trans (F3 (by omega))⟩
end Go.Proofs.Ytlipmlbijddopaa
