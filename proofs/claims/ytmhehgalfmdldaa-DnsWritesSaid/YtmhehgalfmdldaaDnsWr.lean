/-
  dns: little messages; messages are written as the reference writes them.
-/
import Derived.Test.YtmhehgalfmdldaaDnsFw
import Derived.Test.YtmhehgalfmdldaaDnsA
import Derived.Deep.Slices
import Derived.Test.YtmhehgalfmdldaaFrame
import Derived.OpenShut
import Derived.Laws.IdiomArrays
set_option linter.unusedVariables false
set_option linter.unusedSimpArgs false
namespace Go.Proofs.Ytmhehgalfmdldaa
open Go.RowKit
def litP (x : List UInt8) : Bool := decide (100 < (x.length : Int))
theorem lit_fn (x : List UInt8) (w : World)  : Calls Try.prog 56 #[.string ⟨x.toArray⟩] w fun e w' => e = .returned (.bool (litP x)) ∧ w' = w := by
  unfold litP
  go_enter Try.func56, Try.ntmps56
  go_wp2
  go_ret
  exact ⟨ret_bool (by first | rfl | (simp <;> omega)), rfl⟩
theorem any_takeL {α : Type} (p : α → Bool) (l : List α) (k : Nat) (h : k < l.length) : (l.take (k + 1)).any p = ((l.take k).any p || p l[k]) := by
  rw [List.take_succ_eq_append_getElem h, List.any_append]; simp
set_option maxRecDepth 100000 in
set_option maxHeartbeats 400000 in
theorem lit_index (A : Option Addr) (c L : Nat) (l : List (List UInt8)) (w : World) (B : Nat) (hL : l.length = L) (h : Rd w B A L (sc l)) (hl : L ≤ 140737488355328) :
    Calls Try.prog 77 #[.slice A L c, .func (.func 56) #[] #[]] w fun e w' => ∃ r : Int, e = .returned (.int .i64 r) ∧ decide (0 ≤ r) = l.any litP ∧ w' = w := by
  subst hL
  go_enter Try.func77, Try.ntmps77
  go_wp2_with fail
  go_loopw [8] (fun i wr => ∃ k : Nat, k ≤ l.length ∧ i = .int .i64 k ∧ Hid ((l.take k).any litP = false) ∧ w = wr) (fun i _ => l.length - (intOf i).toNat)
  case atStart => exact ⟨0, Nat.zero_le _, rfl, rfl, rfl⟩
  case round =>
    obtain ⟨k, hk, rfl, HN, rfl⟩ := hrel
    by_cases hlt : k < l.length
    · obtain ⟨b, o, rfl, _, hc⟩ := h.at_ hlt
      have hcell := hc k _ (sc_get l k hlt)
      have ht := any_takeL litP l k hlt
      have hmem : litP l[k] = true → l.any litP = true := fun h => List.any_eq_true.2 ⟨l[k], List.getElem_mem hlt, h⟩
      generalize l[k] = x at hcell ht hmem
      have HT := Lib.hid ht
      have HM := Lib.hid hmem
      clear hc ht hmem h
      have hf := fun W => lit_fn x W
      cases hp : litP x
      · rw [hp] at hf
        have HF := Lib.hid hf
        have hn : (l.take (k + 1)).any litP = false := by rw [HT.out, HN.out, hp]; rfl
        have HN2 := Lib.hid hn
        clear hf hp hn
        go_wp2_with (go_at_call 56; refine (HF.out _).mono ?_; rintro e w1 ⟨rfl, rfl⟩)
        go_roundw
        case rel => exact ⟨k + 1, by omega, by go_num, HN2, trivial⟩
        case measure => simp [intOf]; omega
      · rw [hp] at hf
        have HF := Lib.hid hf
        have HA := Lib.hid (HM.out hp)
        clear hf hp
        go_wp2_with (go_at_call 56; refine (HF.out _).mono ?_; rintro e w1 ⟨rfl, rfl⟩)
        go_ret
        exact ⟨(k : Int), rfl, by rw [HA.out]; simp, rfl⟩
    · have : k = l.length := by omega
      subst this
      rw [List.take_length] at HN
      clear h
      go_wp2_with fail
      go_ret
      exact ⟨-1, rfl, by rw [HN.out]; rfl, rfl⟩
set_option maxRecDepth 100000 in
set_option maxHeartbeats 400000 in
theorem lit_contains (A : Option Addr) (c L : Nat) (l : List (List UInt8)) (w : World) (B : Nat) (hL : l.length = L) (h : Rd w B A L (sc l)) (hl : L ≤ 140737488355328) :
    Calls Try.prog 55 #[.slice A L c, .func (.func 56) #[] #[]] w fun e w' => e = .returned (.bool (l.any litP)) ∧ w' = w := by
  go_enter Try.func55, Try.ntmps55
  go_wp2_with (go_at_call 77; refine (lit_index A c L l w B hL h hl).mono ?_; rintro e w1 ⟨r, rfl, hr, rfl⟩)
  go_ret
  exact ⟨rfl, rfl⟩

/-- at most twelve labels of at most 100 bytes -/
def lnB (n : List (List UInt8)) : Bool := decide (n.length ≤ 12) && !(n.any litP)
theorem lnB_small {n : List (List UInt8)} (h : lnB n = true) : n.length ≤ 12 ∧ ∀ s ∈ n, s.length ≤ 100 := by
  unfold lnB at h
  simp only [Bool.and_eq_true, decide_eq_true_iff, Bool.not_eq_true', List.any_eq_false, litP] at h
  exact ⟨h.1, fun s hs => by have := h.2 s hs; simp at this; omega⟩
set_option maxRecDepth 100000 in
set_option maxHeartbeats 400000 in
theorem lit1_at (A : Option Addr) (c L : Nat) (n : List (List UInt8)) (w : World) (B : Nat) (hL : n.length = L) (h : Rd w B A L (sc n)) (hl : L ≤ 140737488355328) :
    Calls Try.prog 54 #[.slice A L c] w fun e w' => e = .returned (.bool (lnB n)) ∧ w' = w := by
  obtain ⟨b1, hb1⟩ : ∃ b, b = decide (n.length ≤ 12) := ⟨_, rfl⟩
  have e1 : decide ((L : Int) ≤ 12) = b1 := by rw [hb1, Bool.eq_iff_iff, decide_eq_true_iff, decide_eq_true_iff]; omega
  have hlb : lnB n = (b1 && !(n.any litP)) := by rw [hb1]; rfl
  rw [hlb]
  obtain ⟨b2, hb2⟩ : ∃ b, b = n.any litP := ⟨_, rfl⟩
  have K := Lib.hid (lit_contains A c L n w B hL h hl)
  rw [← hb2] at K
  rw [← hb2]
  clear h hb1 hb2 hlb
  go_enter Try.func54, Try.ntmps54
  go_wp2_with (go_at_call 55; refine K.out.mono ?_; rintro e w1 ⟨rfl, rfl⟩)
  all_goals go_ret
  all_goals refine ⟨ret_bool ?_, rfl⟩
  all_goals simp_all
/-- what the arguments of a law are: sizes that memory allows -/
def NR0 (w : World) (B : Nat) (A : Option Addr) (c : Nat) (n : List (List UInt8)) : Prop := Rd w B A n.length (sc n) ∧ n.length ≤ c ∧ n.length * 16 ≤ 140737488351232 ∧ ∀ s ∈ n, s.length ≤ 140737488351232
def QR0 (w : World) (B : Nat) (x : QR) : Prop := NR0 w B x.A x.c x.q.nm ∧ x.q.ty < 65536 ∧ x.q.cl < 65536
def RR0 (w : World) (B : Nat) (x : RR) : Prop := QR0 w B x.qr ∧ DRd w B x.dA x.dc x.r.d ∧ NR0 w B x.tA x.tc x.r.tg ∧ x.r.ttl < 4294967296 ∧ x.r.pr < 65536 ∧ x.r.we < 65536 ∧ x.r.po < 65536
def QsR0 (w : World) (B : Nat) (A : Option Addr) (c n : Nat) (l : List QR) : Prop := Rd w B A (n * 3) (qcs l) ∧ l.length = n ∧ n ≤ c ∧ n ≤ 5000000000000 ∧ ∀ x ∈ l, QR0 w B x
def RsR0 (w : World) (B : Nat) (A : Option Addr) (c n : Nat) (l : List RR) : Prop := Rd w B A (n * 9) (rcs l) ∧ l.length = n ∧ n ≤ c ∧ n ≤ 5000000000000 ∧ ∀ x ∈ l, RR0 w B x
def M0 (w : World) (B : Nat) (x : MR) : Prop := x.id < 65536 ∧ x.fl < 65536 ∧ QsR0 w B x.qA x.qc x.qs.length x.qs ∧ RsR0 w B x.aA x.ac x.r0.length x.r0 ∧ RsR0 w B x.bA x.bc x.r1.length x.r1 ∧ RsR0 w B x.cA x.cc x.r2.length x.r2
section
variable {w w' : World} {B B' : Nat}
theorem NR0.below {A : Option Addr} {c : Nat} {n : List (List UInt8)} (h : NR0 w B A c n) (hb : Below B w w') : NR0 w' B A c n := ⟨h.1.below hb, h.2⟩
theorem NR0.more {A : Option Addr} {c : Nat} {n : List (List UInt8)} (h : NR0 w B A c n) (hb : B ≤ B') : NR0 w B' A c n := ⟨h.1.more hb, h.2⟩
theorem QR0.below {x : QR} (h : QR0 w B x) (hb : Below B w w') : QR0 w' B x := ⟨h.1.below hb, h.2⟩
theorem QR0.more {x : QR} (h : QR0 w B x) (hb : B ≤ B') : QR0 w B' x := ⟨h.1.more hb, h.2⟩
theorem RR0.below {x : RR} (h : RR0 w B x) (hb : Below B w w') : RR0 w' B x := ⟨h.1.below hb, h.2.1.below hb, h.2.2.1.below hb, h.2.2.2⟩
theorem RR0.more {x : RR} (h : RR0 w B x) (hb : B ≤ B') : RR0 w B' x := ⟨h.1.more hb, h.2.1.more hb, h.2.2.1.more hb, h.2.2.2⟩
theorem QsR0.below {A : Option Addr} {c n : Nat} {l : List QR} (h : QsR0 w B A c n l) (hb : Below B w w') : QsR0 w' B A c n l := ⟨h.1.below hb, h.2.1, h.2.2.1, h.2.2.2.1, fun x hx => (h.2.2.2.2 x hx).below hb⟩
theorem QsR0.more {A : Option Addr} {c n : Nat} {l : List QR} (h : QsR0 w B A c n l) (hb : B ≤ B') : QsR0 w B' A c n l := ⟨h.1.more hb, h.2.1, h.2.2.1, h.2.2.2.1, fun x hx => (h.2.2.2.2 x hx).more hb⟩
theorem RsR0.below {A : Option Addr} {c n : Nat} {l : List RR} (h : RsR0 w B A c n l) (hb : Below B w w') : RsR0 w' B A c n l := ⟨h.1.below hb, h.2.1, h.2.2.1, h.2.2.2.1, fun x hx => (h.2.2.2.2 x hx).below hb⟩
theorem RsR0.more {A : Option Addr} {c n : Nat} {l : List RR} (h : RsR0 w B A c n l) (hb : B ≤ B') : RsR0 w B' A c n l := ⟨h.1.more hb, h.2.1, h.2.2.1, h.2.2.2.1, fun x hx => (h.2.2.2.2 x hx).more hb⟩
theorem M0.below {x : MR} (h : M0 w B x) (hb : Below B w w') : M0 w' B x := ⟨h.1, h.2.1, h.2.2.1.below hb, h.2.2.2.1.below hb, h.2.2.2.2.1.below hb, h.2.2.2.2.2.below hb⟩
theorem M0.more {x : MR} (h : M0 w B x) (hb : B ≤ B') : M0 w B' x := ⟨h.1, h.2.1, h.2.2.1.more hb, h.2.2.2.1.more hb, h.2.2.2.2.1.more hb, h.2.2.2.2.2.more hb⟩
theorem M0.rl {x : MR} (h : M0 w B x) (i : Nat) : RsR0 w B (x.rA i) (x.rc i) (x.rl i).length (x.rl i) := by
  match i with
  | 0 => exact h.2.2.2.1
  | 1 => exact h.2.2.2.2.1
  | k + 2 => exact h.2.2.2.2.2
theorem QsR0.at_ {A : Option Addr} {c n : Nat} {l : List QR} (h : QsR0 w B A c n l) {k : Nat} (hk : k < n) : ∃ b o, A = some ⟨b, o, none⟩ ∧ b < B ∧ ∀ hk : k < l.length, (w.cell? ⟨b, o + k * 3, none⟩ = some (.slice l[k].A l[k].q.nm.length l[k].c) ∧ w.cell? ⟨b, o + k * 3 + 1, none⟩ = some (.int .u16 (l[k].q.ty : Int)) ∧ w.cell? ⟨b, o + k * 3 + 2, none⟩ = some (.int .u16 (l[k].q.cl : Int))) := by
  obtain ⟨b, o, hA, hb, hc⟩ := h.1.2 (by omega)
  refine ⟨b, o, hA, hb, fun hl => ⟨?_, ?_, ?_⟩⟩
  · exact hc (k * 3) _ ((qcs_get l k 0 hl (by omega)).trans rfl)
  · exact hc (k * 3 + 1) _ ((qcs_get l k 1 hl (by omega)).trans rfl)
  · exact hc (k * 3 + 2) _ ((qcs_get l k 2 hl (by omega)).trans rfl)
theorem RsR0.at_ {A : Option Addr} {c n : Nat} {l : List RR} (h : RsR0 w B A c n l) {k : Nat} (hk : k < n) : ∃ b o, A = some ⟨b, o, none⟩ ∧ b < B ∧ ∀ hk : k < l.length, Nine w b (o + k * 9) l[k] := by
  obtain ⟨b, o, hA, hb, hc⟩ := h.1.2 (by omega)
  refine ⟨b, o, hA, hb, fun hl j u hu => ?_⟩
  have hj : j < 9 := by
    rcases Nat.lt_or_ge j 9 with h1 | h1
    · exact h1
    · rw [List.getElem?_eq_none (by simpa using h1)] at hu; cases hu
  rw [Nat.add_assoc]
  exact hc _ u ((rcs_get l k j hl hj).trans hu)
end
/-- a little message -/
def Lit (x : MR) : Prop := cntM x 3 ≤ 20 ∧ (∀ q ∈ x.qs, lnB q.q.nm = true) ∧ ∀ i, i < 3 → ∀ r ∈ x.rl i, lnB r.r.q.nm = true ∧ lnB r.r.tg = true ∧ r.r.d.length ≤ 300
theorem size_small {n : List (List UInt8)} (h : ∀ s ∈ n, s.length ≤ 100) : sizeN n ≤ 1 + n.length * 101 := by
  induction n with
  | nil => simp [sizeN]
  | cons a n ih =>
    have h1 := ih (fun s hs => h s (List.mem_cons_of_mem _ hs))
    have h2 := h a List.mem_cons_self
    simp only [sizeN, List.length_cons]
    omega
theorem lnB_nrd {w : World} {B : Nat} {A : Option Addr} {c : Nat} {n : List (List UInt8)} (h : NR0 w B A c n) (hl : lnB n = true) : NRd w B A c n := by
  obtain ⟨h1, h2⟩ := lnB_small hl
  have h3 := size_small h2
  exact ⟨h.1, h.2.1, by omega⟩
theorem Lit.mrd {w : World} {B : Nat} {x : MR} (h : M0 w B x) (hl : Lit x) : MRd w B x := by
  have hc : x.qs.length + x.r0.length + x.r1.length + x.r2.length ≤ 20 := hl.1
  have hq : ∀ q ∈ x.qs, QRd w B q := fun q hq => ⟨lnB_nrd (h.2.2.1.2.2.2.2 q hq).1 (hl.2.1 q hq), (h.2.2.1.2.2.2.2 q hq).2⟩
  have hr : ∀ i, i < 3 → ∀ r ∈ x.rl i, RRd w B r := fun i hi r hr => by
    have h1 := (h.rl i).2.2.2.2 r hr
    have h2 := hl.2.2 i hi r hr
    exact ⟨⟨lnB_nrd h1.1.1 h2.1, h1.1.2⟩, h1.2.1, lnB_nrd h1.2.2.1 h2.2.1, h1.2.2.2⟩
  refine ⟨h.1, h.2.1, ⟨h.2.2.1.1, rfl, h.2.2.1.2.2.1, by omega, hq⟩, ⟨h.2.2.2.1.1, rfl, h.2.2.2.1.2.2.1, by omega, hr 0 (by omega)⟩, ⟨h.2.2.2.2.1.1, rfl, h.2.2.2.2.1.2.2.1, by omega, hr 1 (by omega)⟩, ⟨h.2.2.2.2.2.1, rfl, h.2.2.2.2.2.2.2.1, by omega, hr 2 (by omega)⟩⟩
theorem Lit.cpy {x : MR} (hl : Lit x) : Cpy x := by
  refine ⟨fun q hq => by have := (lnB_small (hl.2.1 q hq)).1; omega, fun i r hr => ?_⟩
  have h1 : ∃ j, j < 3 ∧ r ∈ x.rl j := by
    match i, hr with
    | 0, hr => exact ⟨0, by omega, hr⟩
    | 1, hr => exact ⟨1, by omega, hr⟩
    | k + 2, hr => exact ⟨2, by omega, hr⟩
  obtain ⟨j, hj, hr2⟩ := h1
  have h2 := hl.2.2 j hj r hr2
  have h3 := (lnB_small h2.1).1
  have h4 := (lnB_small h2.2.1).1
  omega
theorem run_slM_l {P : Program} (W : World) (t e : TypeId) (s : Nat) (ht : P.underlying t = some (.slice e)) (hz : ∀ w, (Go.sizeOf e).run P w = .ok s w) (A : Option Addr) (n cap : Nat) (h : Nat) (h2 : h ≤ cap) : (Instr.slice t (.slice A n cap) none (some (.int .i64 (h : Int))) none).run P W = .ok (.slice A h cap) W := by
  have ht' : P.underlying t = some (.slice (P.elem t)) := by simp [Program.elem, ht]
  have he : P.elem t = e := by simp [Program.elem, ht]
  rw [run_slice_h W t _ _ _ ht' .i64 _ (by omega) (by omega), he, hz]
  have := cutA_zero A cap
  unfold cutA at this
  simp [Result.andThen, sliced, this]
theorem szQn (w : World) : (Go.sizeOf 42).run Try.prog w = .ok 3 w := by kernel_rfl
theorem szRc (w : World) : (Go.sizeOf 49).run Try.prog w = .ok 9 w := by kernel_rfl
set_option maxRecDepth 100000 in
set_option maxHeartbeats 16000000 in
theorem little_at (x : MR) (w : World) (h : M0 w w.heap.size x) :
    Calls Try.prog 27 #[.agg x.cells.toArray] w fun e w' => ∃ b : Bool, e = .returned (.bool b) ∧ (b = true → Lit x) ∧ Below w.heap.size w w' := by
  obtain ⟨n, hn⟩ : ∃ n, n = x.qs.length := ⟨_, rfl⟩
  have hnb : n ≤ 5000000000000 := by rw [hn]; exact h.2.2.1.2.2.2.1
  have hnc : n ≤ x.qc := by rw [hn]; exact h.2.2.1.2.2.1
  have hcb : ∀ i, (x.rl i).length ≤ 5000000000000 := fun i => (h.rl i).2.2.2.1
  have HN := Lib.hid hn.symm
  have HX := Lib.hid h
  obtain ⟨K1, hK1⟩ : ∃ K, K = min n 21 := ⟨_, rfl⟩
  have hmin : min (n : Int) 21 = (K1 : Int) := by omega
  have hK1n : K1 ≤ n := by omega
  have ksl : ∀ W, (Instr.slice 26 (.slice x.qA n x.qc) none (some (.int .i64 (K1 : Int))) none).run Try.prog W = .ok (.slice x.qA K1 x.qc) W := fun W => run_slM_l W _ 42 3 Try.underlying26 szQn x.qA n x.qc K1 (by omega)
  have HK1 := Lib.hid hK1
  have hv1 : Vx (w.alloc (.cells x.cells.toArray 30)) w.heap.size 30 [.int .u16 (x.id : Int), .int .u16 (x.fl : Int), .slice x.qA n x.qc, .slice x.aA x.r0.length x.ac, .slice x.bA x.r1.length x.bc, .slice x.cA x.r2.length x.cc] := by rw [hn]; exact Vx.new w _ _
  have hb01 := below_new w (.cells x.cells.toArray 30)
  clear h hn hK1
  go_enter Try.func27, Try.ntmps27
  go_upto_region 1 with fail
  generalize w.alloc (.cells x.cells.toArray 30) = W2 at *
  have VX := Lib.hid hv1
  have HB01 := Lib.hid hb01
  have hT : w.heap.size < W2.heap.size := hv1.lt
  obtain ⟨a0, a1, a2, a3, a4, a5⟩ := hv1.c6
  have HM0 := Lib.hid (fun (wr : World) (hb : Below W2.heap.size W2 wr) => (HX.out.below (hb01.trans (hb.mono hb01.size))))
  clear hv1 hb01
  go_wp2_with fail
  clear a0 a1 a2 a3 a4 a5
  go_loopw [20] (fun vi wr => ∃ k : Nat, k ≤ K1 ∧ vi = .int .i64 k ∧ Hid (∀ q ∈ x.qs.take k, lnB q.q.nm = true) ∧ Hid (Below W2.heap.size W2 wr)) (fun vi _ => K1 - (intOf vi).toNat)
  case atStart => exact ⟨0, Nat.zero_le _, rfl, Lib.hid (fun q hq => by cases hq), Lib.hid (Below.refl _ _)⟩
  case round =>
    obtain ⟨k, hk, rfl, HQ, HB⟩ := hrel
    rcases Nat.lt_or_ge k K1 with hlt | hge
    · have hlx : k < x.qs.length := by have := HN.out; omega
      have hQ1 : QsR0 wr w.heap.size x.qA x.qc n x.qs := by rw [← HN.out]; exact (HM0.out wr HB.out).2.2.1
      obtain ⟨b, o, hA1, hb1, hc⟩ := hQ1.at_ (show k < n by omega)
      obtain ⟨c0, c1, c2⟩ := hc hlx
      have hp := hQ1.2.2.2.2 _ (List.getElem_mem hlx)
      have htk : x.qs.take (k + 1) = x.qs.take k ++ [x.qs[k]] := by rw [List.take_add_one, List.getElem?_eq_getElem hlx]; rfl
      generalize x.qs[k] = p at *
      rw [hA1]
      have hsz := HB.out.size
      have hb1' : b < wr.heap.size := by omega
      have hbA := below_new wr (.cells #[.slice p.A p.q.nm.length p.c, .int .u16 (p.q.ty : Int), .int .u16 (p.q.cl : Int)] 42)
      have hpw := hp.more (show w.heap.size ≤ wr.heap.size by omega)
      have hv6 := Vx.new wr 42 [.slice p.A p.q.nm.length p.c, .int .u16 (p.q.ty : Int), .int .u16 (p.q.cl : Int)]
      obtain ⟨e0, e1, e2⟩ := hv6.c3
      have K := Lib.hid (lit1_at p.A p.c p.q.nm.length p.q.nm (wr.alloc (.cells #[.slice p.A p.q.nm.length p.c, .int .u16 (p.q.ty : Int), .int .u16 (p.q.cl : Int)] 42)) wr.heap.size rfl (hpw.1.1.below hbA) (by have := hpw.1.2.2.1; omega))
      have HTK := Lib.hid htk
      have hlt' : (k : Int) < (K1 : Int) := by omega
      clear hc hb1 hQ1 hA1 hp htk hpw
      obtain ⟨bb, hbb⟩ : ∃ bb, bb = lnB p.q.nm := ⟨_, rfl⟩
      rw [← hbb] at K
      have HBB := Lib.hid hbb
      clear hbb
      go_wp2_with (go_at_call 54; refine K.out.mono ?_; rintro e w2 ⟨rfl, rfl⟩)
      · go_ret
        exact ⟨false, rfl, fun h => (by cases h), HB01.out.trans ((HB.out.trans (hbA.mono hsz)).mono HB01.out.size)⟩
      · have hh : (!bb) = false := by assumption
        have hb2 : bb = true := by simpa using hh
        go_roundw
        case rel =>
          refine ⟨k + 1, by omega, by go_num, Lib.hid (fun q hq => ?_), Lib.hid (HB.out.trans (hbA.mono hsz))⟩
          rw [HTK.out] at hq
          rcases List.mem_append.1 hq with hq | hq
          · exact HQ.out q hq
          · simp at hq; subst hq; rw [← HBB.out]; exact hb2
        case measure => simp [intOf]; omega
    · have hkn : K1 = k := by omega
      have hge' : (K1 : Int) ≤ (k : Int) := by omega
      have hdk : decide (k < K1) = false := decide_eq_false (by omega)
      have hdk2 : decide ((k : Int) < (K1 : Int)) = false := decide_eq_false (by omega)
      have hqa : n ≤ 21 → ∀ q ∈ x.qs, lnB q.q.nm = true := fun h21 q hq => HQ.out q (by
        have h1 := HN.out
        have h2 := HK1.out
        rw [List.take_of_length_le (by omega)]; exact hq)
      have HQA := Lib.hid hqa
      have hvr := VX.out.below HB.out hT
      obtain ⟨a0, a1, a2, a3, a4, a5⟩ := hvr.c6
      have HB0 := HB
      clear HQ HB hqa hvr hkn hge
      go_wp2_with fail
      clear a0 a1 a2 a3 a4 a5
      go_loopw [3, 32] (fun v3 vi wr => ∃ i : Nat, i ≤ 3 ∧ vi = .int .i64 i ∧ v3 = .int .i64 (cntM x i : Int) ∧ Hid (∀ j, j < i → (x.rl j).length ≤ 21 → ∀ r ∈ x.rl j, lnB r.r.q.nm = true ∧ lnB r.r.tg = true ∧ r.r.d.length ≤ 300) ∧ Hid (Below W2.heap.size W2 wr)) (fun _ vi _ => 3 - (intOf vi).toNat)
      case atStart => exact ⟨0, by omega, rfl, by rw [← HN.out]; rfl, Lib.hid (fun j hj => by omega), HB0⟩
      case round =>
        clear HB0
        obtain ⟨i, hi3, rfl, rfl, HRI, HB⟩ := hrel
        rcases Nat.lt_or_ge i 3 with hlt | hge
        · have hi3i : (i : Int) < 3 := by omega
          have hidx := fun W => idx3_x x W i hlt
          have hcnt : cntM x (i + 1) = cntM x i + (x.rl i).length := rfl
          have hcb0 := hcb i
          have hcb1 : cntM x i ≤ 20000000000000 := by
            have h0 := hcb 0
            have h1 := hcb 1
            have hn0 := HN.out
            rcases (show i = 0 ∨ i = 1 ∨ i = 2 by omega) with rfl | rfl | rfl <;> simp only [cntM] <;> omega
          have hcc : (x.rl i).length ≤ x.rc i := ((HM0.out _ HB.out).rl i).2.2.1
          obtain ⟨cn, hcn⟩ : ∃ cn, cn = (x.rl i).length := ⟨_, rfl⟩
          obtain ⟨ct, hct⟩ : ∃ ct, ct = cntM x i := ⟨_, rfl⟩
          obtain ⟨xA, hxA⟩ : ∃ a, a = x.rA i := ⟨_, rfl⟩
          obtain ⟨xc, hxc'⟩ : ∃ a, a = x.rc i := ⟨_, rfl⟩
          rw [← hcn, ← hxA, ← hxc'] at hidx
          rw [← hcn, ← hxc'] at hcc
          rw [← hcn] at hcnt hcb0
          rw [← hct] at hcnt hcb1
          rw [← hct]
          obtain ⟨K2, hK2⟩ : ∃ K, K = min cn 21 := ⟨_, rfl⟩
          have hmin2 : min (cn : Int) 21 = (K2 : Int) := by omega
          have hK2n : K2 ≤ cn := by omega
          have ksl2 : ∀ W, (Instr.slice 27 (.slice xA cn xc) none (some (.int .i64 (K2 : Int))) none).run Try.prog W = .ok (.slice xA K2 xc) W := fun W => run_slM_l W _ 49 9 Try.underlying27 szRc xA cn xc K2 (by omega)
          have HK2 := Lib.hid hK2
          have HCN := Lib.hid hcn.symm
          have HCT := Lib.hid hcnt
          have HXA := Lib.hid hxA
          have HXC := Lib.hid hxc'
          clear hcn hcnt hxA hxc' hct hK2
          go_wp2_with fail
          clear hidx
          have HB0 := HB
          clear HB
          go_loopw [45] (fun vk wr => ∃ k : Nat, k ≤ K2 ∧ vk = .int .i64 k ∧ Hid (∀ r ∈ (x.rl i).take k, lnB r.r.q.nm = true ∧ lnB r.r.tg = true ∧ r.r.d.length ≤ 300) ∧ Hid (Below W2.heap.size W2 wr)) (fun vk _ => K2 - (intOf vk).toNat)
          case atStart => exact ⟨0, Nat.zero_le _, rfl, Lib.hid (fun q hq => by cases hq), HB0⟩
          case round =>
            clear HB0
            obtain ⟨k, hk, rfl, HQ, HB⟩ := hrel
            rcases Nat.lt_or_ge k K2 with hklt | hkge
            · have hlx : k < (x.rl i).length := by have := HCN.out; omega
              have hQ1 : RsR0 wr w.heap.size xA xc cn (x.rl i) := by
                have := (HM0.out wr HB.out).rl i
                rw [HCN.out, ← HXA.out, ← HXC.out] at this
                exact this
              obtain ⟨b, o, hA1, hb1, hc⟩ := hQ1.at_ (show k < cn by omega)
              have hnine := (hc hlx).cells
              have hp := hQ1.2.2.2.2 _ (List.getElem_mem hlx)
              have htk : (x.rl i).take (k + 1) = (x.rl i).take k ++ [(x.rl i)[k]] := by rw [List.take_add_one, List.getElem?_eq_getElem hlx]; rfl
              generalize (x.rl i)[k] = p at *
              obtain ⟨c0, c1, c2, c3, c4, c5, c6, c7, c8⟩ := hnine
              subst hA1
              have hsz := HB.out.size
              have hb1' : b < wr.heap.size := by omega
              have hbA := below_new wr (.cells #[.slice p.A p.r.q.nm.length p.c, .int .u16 (p.r.q.ty : Int), .int .u16 (p.r.q.cl : Int), .int .u32 (p.r.ttl : Int), .slice p.dA p.r.d.length p.dc, .int .u16 (p.r.pr : Int), .int .u16 (p.r.we : Int), .int .u16 (p.r.po : Int), .slice p.tA p.r.tg.length p.tc] 49)
              have hpw := hp.more (show w.heap.size ≤ wr.heap.size by omega)
              have hv6 := Vx.new wr 49 [.slice p.A p.r.q.nm.length p.c, .int .u16 (p.r.q.ty : Int), .int .u16 (p.r.q.cl : Int), .int .u32 (p.r.ttl : Int), .slice p.dA p.r.d.length p.dc, .int .u16 (p.r.pr : Int), .int .u16 (p.r.we : Int), .int .u16 (p.r.po : Int), .slice p.tA p.r.tg.length p.tc]
              obtain ⟨e0, e1, e2, e3, e4, e5, e6, e7, e8⟩ := hv6.c9
              have KA := Lib.hid (lit1_at p.A p.c p.r.q.nm.length p.r.q.nm (wr.alloc (.cells #[.slice p.A p.r.q.nm.length p.c, .int .u16 (p.r.q.ty : Int), .int .u16 (p.r.q.cl : Int), .int .u32 (p.r.ttl : Int), .slice p.dA p.r.d.length p.dc, .int .u16 (p.r.pr : Int), .int .u16 (p.r.we : Int), .int .u16 (p.r.po : Int), .slice p.tA p.r.tg.length p.tc] 49)) wr.heap.size rfl (hpw.1.1.1.below hbA) (by have := hpw.1.1.2.2.1; simp only [RR.qr] at this; omega))
              have KB := Lib.hid (lit1_at p.tA p.tc p.r.tg.length p.r.tg (wr.alloc (.cells #[.slice p.A p.r.q.nm.length p.c, .int .u16 (p.r.q.ty : Int), .int .u16 (p.r.q.cl : Int), .int .u32 (p.r.ttl : Int), .slice p.dA p.r.d.length p.dc, .int .u16 (p.r.pr : Int), .int .u16 (p.r.we : Int), .int .u16 (p.r.po : Int), .slice p.tA p.r.tg.length p.tc] 49)) wr.heap.size rfl (hpw.2.2.1.1.below hbA) (by have := hpw.2.2.1.2.2.1; omega))
              have HTK := Lib.hid htk
              have hlt' : (k : Int) < (K2 : Int) := by omega
              clear hc hb1 hQ1 hp htk hpw
              obtain ⟨ba, hba⟩ : ∃ bb, bb = lnB p.r.q.nm := ⟨_, rfl⟩
              obtain ⟨bt, hbt⟩ : ∃ bb, bb = lnB p.r.tg := ⟨_, rfl⟩
              rw [← hba] at KA
              rw [← hbt] at KB
              obtain ⟨bd, hbd⟩ : ∃ bb, bb = decide (300 < p.r.d.length) := ⟨_, rfl⟩
              have ed : decide ((300 : Int) < (p.r.d.length : Int)) = bd := by rw [hbd, Bool.eq_iff_iff, decide_eq_true_iff, decide_eq_true_iff]; omega
              have HBA := Lib.hid hba
              have HBT := Lib.hid hbt
              have HBD := Lib.hid hbd
              clear hba hbt hbd
              go_wp2_with (go_at_call 54; first
                | (have _t := tok1
                   refine KB.out.mono ?_
                   rintro e w2 ⟨rfl, rfl⟩)
                | (refine KA.out.mono ?_
                   rintro e w2 ⟨rfl, rfl⟩
                   have tok1 := True.intro))
              · go_ret
                exact ⟨false, rfl, fun h => (by cases h), HB01.out.trans ((HB.out.trans (hbA.mono hsz)).mono HB01.out.size)⟩
              · go_roundw
                case rel =>
                  have hba : ba = true := by assumption
                  have hbt : bt = true := by assumption
                  have hbd : bd = false := by assumption
                  refine ⟨k + 1, by omega, by go_num, Lib.hid (fun q hq => ?_), Lib.hid (HB.out.trans (hbA.mono hsz))⟩
                  rw [HTK.out] at hq
                  rcases List.mem_append.1 hq with hq | hq
                  · exact HQ.out q hq
                  · simp at hq
                    subst hq
                    refine ⟨by rw [← HBA.out]; exact hba, by rw [← HBT.out]; exact hbt, ?_⟩
                    have h1 := HBD.out
                    rw [hbd] at h1
                    have h2 := of_decide_eq_false h1.symm
                    omega
                case measure => simp [intOf]; omega
              · go_ret
                exact ⟨false, rfl, fun h => (by cases h), HB01.out.trans ((HB.out.trans (hbA.mono hsz)).mono HB01.out.size)⟩
              · go_ret
                exact ⟨false, rfl, fun h => (by cases h), HB01.out.trans ((HB.out.trans (hbA.mono hsz)).mono HB01.out.size)⟩
            · have hkn2 : K2 = k := by omega
              have hge2 : (K2 : Int) ≤ (k : Int) := by omega
              go_wp2_with fail
              go_roundw
              case rel =>
                refine ⟨i + 1, by omega, by go_num, by rw [HCT.out]; push_cast; rfl, Lib.hid (fun j hj h21 => ?_), HB⟩
                rcases Nat.lt_or_ge j i with h | h
                · exact HRI.out j h h21
                · have : j = i := by omega
                  subst this
                  intro r hr
                  refine HQ.out r ?_
                  have h1 := HCN.out
                  have h2 := HK2.out
                  rw [List.take_of_length_le (by omega)]; exact hr
              case measure => simp [intOf]; omega
        · have hi3' : i = 3 := by omega
          have hge' : (3 : Int) ≤ (i : Int) := by omega
          obtain ⟨ct, hct⟩ : ∃ ct, ct = cntM x i := ⟨_, rfl⟩
          rw [← hct]
          have HCT := Lib.hid hct
          clear hct
          go_wp2_with fail
          go_ret
          refine ⟨decide ((ct : Int) ≤ 20), rfl, fun hb => ?_, HB01.out.trans (HB.out.mono HB01.out.size)⟩
          have h20 : ct ≤ 20 := by have := of_decide_eq_true hb; omega
          have h3 : cntM x 3 ≤ 20 := by rw [← hi3', ← HCT.out]; exact h20
          have h4 : x.qs.length + x.r0.length + x.r1.length + x.r2.length ≤ 20 := h3
          refine ⟨h3, HQA.out (by have := HN.out; omega), fun j hj => HRI.out j (by omega) ?_⟩
          rcases (show j = 0 ∨ j = 1 ∨ j = 2 by omega) with rfl | rfl | rfl
          · show x.r0.length ≤ 21; omega
          · show x.r1.length ≤ 21; omega
          · show x.r2.length ≤ 21; omega
/-- a turned message can be read as the one that was turned -/
theorem MOwF.rdL {w w0 : World} {base B : Nat} {X x : MR} (h : MOwF w base X) (hx : MRd w0 B x) (hm : X.m = x.m) : MRd w w.heap.size X := by
  have hid : X.id = x.id := congrArg Ms.id hm
  have hfl : X.fl = x.fl := congrArg Ms.fl hm
  have hq : X.qs.map QR.q = x.qs.map QR.q := congrArg Ms.qs hm
  have h0 : X.r0.map RR.r = x.r0.map RR.r := congrArg Ms.r0 hm
  have h1 : X.r1.map RR.r = x.r1.map RR.r := congrArg Ms.r1 hm
  have h2 : X.r2.map RR.r = x.r2.map RR.r := congrArg Ms.r2 hm
  have Q : ∀ (A : Option Addr) (c : Nat) (l : List QR) (A' : Option Addr) (c' n' : Nat) (l' : List QR), (rwQf A c l).ok w base → (∀ o, DQ l o → o.ok w base) → QsRd w0 B A' c' n' l' → l.map QR.q = l'.map QR.q → QsRd w w.heap.size A c l.length l := by
    intro A c l A' c' n' l' h1 h2 h3 h4
    have hl : l.length = l'.length := by simpa using congrArg List.length h4
    have h5 : OwM w base 111 3 (.slice A l.length c) l.length (qcs l) := h1
    refine ⟨h5.rd, rfl, h5.cap, by rw [hl, h3.2.1]; exact h3.2.2.2.1, fun y hy => ?_⟩
    have hm : y.q ∈ l'.map QR.q := by rw [← h4]; exact List.mem_map.2 ⟨y, hy, rfl⟩
    obtain ⟨z, hz, e⟩ := List.mem_map.1 hm
    have h6 := h3.2.2.2.2 z hz
    exact ⟨nmO_rd (h2 _ ⟨y, hy, rfl⟩) (by rw [← e]; exact h6.1.2.2), by rw [← e]; exact h6.2.1, by rw [← e]; exact h6.2.2⟩
  have R : ∀ (A : Option Addr) (c : Nat) (l : List RR) (A' : Option Addr) (c' n' : Nat) (l' : List RR), (rwRf A c l).ok w base → (∀ o, DR l o → o.ok w base) → RsRd w0 B A' c' n' l' → l.map RR.r = l'.map RR.r → RsRd w w.heap.size A c l.length l := by
    intro A c l A' c' n' l' h1 h2 h3 h4
    have hl : l.length = l'.length := by simpa using congrArg List.length h4
    have h5 : OwM w base 113 9 (.slice A l.length c) l.length (rcs l) := h1
    refine ⟨h5.rd, rfl, h5.cap, by rw [hl, h3.2.1]; exact h3.2.2.2.1, fun y hy => ?_⟩
    have hm : y.r ∈ l'.map RR.r := by rw [← h4]; exact List.mem_map.2 ⟨y, hy, rfl⟩
    obtain ⟨z, hz, e⟩ := List.mem_map.1 hm
    have h6 := h3.2.2.2.2 z hz
    refine ⟨⟨nmO_rd (h2 _ ⟨y, hy, Or.inl rfl⟩) (by show sizeN y.r.q.nm ≤ _; rw [← e]; exact h6.1.1.2.2), ?_, ?_⟩, daO_rd (h2 _ ⟨y, hy, Or.inr (Or.inl rfl)⟩) (by rw [← e]; exact h6.2.1.2.2), nmO_rd (h2 _ ⟨y, hy, Or.inr (Or.inr rfl)⟩) (by rw [← e]; exact h6.2.2.1.2.2), ?_⟩
    · show y.r.q.ty < 65536; rw [← e]; exact h6.1.2.1
    · show y.r.q.cl < 65536; rw [← e]; exact h6.1.2.2
    · rw [← e]; exact h6.2.2.2
  exact ⟨by rw [hid]; exact hx.1, by rw [hfl]; exact hx.2.1, Q _ _ _ _ _ _ _ h.q h.n hx.2.2.1 hq, R _ _ _ _ _ _ _ h.a h.r0 hx.2.2.2.1 h0, R _ _ _ _ _ _ _ h.b h.r1 hx.2.2.2.2.1 h1, R _ _ _ _ _ _ _ h.c h.r2 hx.2.2.2.2.2 h2⟩
theorem OwM.keep {w w' : World} {base s n : Nat} {e : TypeId} {v : Value} {xs : List Value} (h : OwM w base e s v n xs) (hk : ∀ q, base ≤ q → q < w.heap.size → w'.heap[q]? = w.heap[q]?) : OwM w' base e s v n xs := by
  obtain ⟨a, hb | ⟨g, cap, cur, h3, h4, h5, h6⟩⟩ := h
  · exact ⟨a, Or.inl hb⟩
  · exact ⟨a, Or.inr ⟨g, cap, cur, h3, h4, (hk g h4 (kp_lt h5)).trans h5, h6⟩⟩
theorem MOwF.keep {w w' : World} {base : Nat} {X : MR} (h : MOwF w base X) (hk : ∀ q, base ≤ q → q < w.heap.size → w'.heap[q]? = w.heap[q]?) : MOwF w' base X :=
  ⟨OwM.keep h.q hk, OwM.keep h.a hk, OwM.keep h.b hk, OwM.keep h.c hk, fun o ho => OwM.keep (h.n o ho) hk, fun o ho => OwM.keep (h.r0 o ho) hk, fun o ho => OwM.keep (h.r1 o ho) hk, fun o ho => OwM.keep (h.r2 o ho) hk⟩
theorem boxes_fin {wk W : World} {base g9 g10 : Nat} {Z : MR} (d9 d10 : Array Value) (ho : MOwF wk base Z) (hb : Below wk.heap.size wk W) (h9 : g9 < base ∨ wk.heap.size ≤ g9) (h10 : g10 < base ∨ wk.heap.size ≤ g10) : MOwF ((W.setRow g9 d9).setRow g10 d10) base Z :=
  ho.keep fun q h1 h2 => by rw [setRow_other _ g10 q d10 (by omega), setRow_other _ g9 q d9 (by omega)]; exact hb.block q h2
theorem qmsg_rd (w5 : World) (A0 : Option Addr) (c0 n0 id ty : Nat) (nm : List (List UInt8)) (h : NRd w5 w5.heap.size A0 c0 nm) (hn0 : nm.length = n0) (hid : id < 65536) (hty : ty < 65536) :
    MRd (w5.alloc (.cells #[.slice A0 n0 c0, .int .u16 (ty : Int), .int .u16 1] 111)) (w5.alloc (.cells #[.slice A0 n0 c0, .int .u16 (ty : Int), .int .u16 1] 111)).heap.size ⟨id, 256, some ⟨w5.heap.size, 0, none⟩, 1, [⟨A0, c0, ⟨nm, ty, 1⟩⟩], none, 0, [], none, 0, [], none, 0, []⟩ := by
  subst hn0
  refine ⟨hid, by show 256 < 65536; omega, ⟨Rd.lit_top0 w5 111 (qcs [⟨A0, c0, ⟨nm, ty, 1⟩⟩]) 3 rfl, rfl, Nat.le_refl 1, by show 1 ≤ 1000000000000; omega, fun z hz => ?_⟩, RsRd.nil _ _, RsRd.nil _ _, RsRd.nil _ _⟩
  simp only [List.mem_singleton] at hz
  subst hz
  exact ⟨(h.below (below_new w5 _)).more (below_new w5 _).size, hty, by show 1 < 65536; omega⟩
theorem Held.rA {wr w3 w4 w5 : World} {base : Nat} {D : Ob → Prop} {l3 : List RR} {x : RR} {v v5 : Value} {n : Nat} {c : Nat} {xs : List Value} {B : Nat}
    (HH : Held wr base (fun o => D o ∨ DR l3 o) v) (hO3 : OwM wr base c 9 v n xs) (hb3 : Below wr.heap.size wr w3) (hB : wr.heap.size ≤ B) (hn : (nmO x.A x.c x.r.q.nm).ok w3 B) (hd : (daO x.dA x.dc x.r.d).ok w3 B) (ht : (nmO x.tA x.tc x.r.tg).ok w3 B) (hb4 : Below w3.heap.size w3 w4) (hle : base ≤ wr.heap.size) (hg : Gr w4 w5 v v5) : Held w5 base (fun o => D o ∨ DR (l3 ++ [x]) o) v5 := by
  have h0 := HH.far hb3
  have h1 := h0.add (nmO x.A x.c x.r.q.nm) (OwM.mono hn (by omega)) (ne_new hO3 hn (by omega))
  have h2 := h1.add (daO x.dA x.dc x.r.d) (OwM.mono hd (by omega)) (ne_new hO3 hd (by omega))
  have h3 := h2.add (nmO x.tA x.tc x.r.tg) (OwM.mono ht (by omega)) (ne_new hO3 ht (by omega))
  have h4 := (h3.far hb4).gr hg
  refine h4.mono fun o ho => ?_
  rcases ho with ho | ⟨y, hy, e⟩
  · exact Or.inr (Or.inr (Or.inr (Or.inl ho)))
  · rcases List.mem_append.1 hy with hy | hy
    · exact Or.inr (Or.inr (Or.inr (Or.inr ⟨y, hy, e⟩)))
    · simp at hy
      subst hy
      rcases e with e | e | e
      · exact Or.inr (Or.inr (Or.inl e))
      · exact Or.inr (Or.inl e)
      · exact Or.inl e
theorem same_rows {l m : List RR} (h : l.map RR.r = m.map RR.r) : allEq (fun x y : RR => sameR x.r y.r) l m = true := by
  rw [allEq_map sameR RR.r, h]
  exact (allEq_all sameR _ _).2 ⟨rfl, fun i h1 h2 => (sameR_iff _ _).2 rfl⟩
theorem beq_same (A1 A2 : Option Addr) (c1 c2 L : Nat) (l : List UInt8) (w : World) (hL : l.length = L) (h1 : Rd w w.heap.size A1 L (bc l)) (h2 : Rd w w.heap.size A2 L (bc l)) :
    Calls Try.prog 25 #[.slice A1 L c1, .slice A2 L c2] w fun e w' => e = .returned (.bool true) ∧ w' = w := by
  subst hL
  have := beq_any A1 A2 c1 c2 l l w w.heap.size h1 h2
  rwa [decide_eq_true rfl] at this
set_option maxRecDepth 100000 in
set_option maxHeartbeats 16000000 in
theorem writes_at (x y : MR) (A0 : Option Addr) (c0 n0 : Nat) (nm : List (List UInt8)) (ty : Nat) (w : World) (hx : MRd w w.heap.size x) (hy : MRd w w.heap.size y) (cx : Cpy x) (cy : Cpy y) (hn0 : nm.length = n0) (hnm : NRd w w.heap.size A0 c0 nm) (hty : ty < 65536) :
    Calls Try.prog 28 #[.agg x.cells.toArray, .agg y.cells.toArray, .slice A0 n0 c0, .int .u16 (ty : Int)] w fun e w' => e = .returned (.bool true) ∧ Below w.heap.size w w' := by
  have hb01 := below_two w (.cells x.cells.toArray 30) (.cells y.cells.toArray 30)
  have v4 : Vx ((w.alloc (.cells x.cells.toArray 30)).alloc (.cells y.cells.toArray 30)) w.heap.size 30 x.cells := (vx_two (Below.refl _ _)).1
  have v5 : Vx ((w.alloc (.cells x.cells.toArray 30)).alloc (.cells y.cells.toArray 30)) (w.heap.size + 1) 30 y.cells := (vx_two (Below.refl _ _)).2
  obtain ⟨G5, hG5⟩ : ∃ G, G = w.heap.size + 1 := ⟨_, rfl⟩
  rw [← hG5] at v5
  have HX := Lib.hid hx
  have HY := Lib.hid hy
  have HNM := Lib.hid hnm
  have HN0 := Lib.hid hn0
  have HG5 := Lib.hid hG5
  clear hx hy hnm hn0
  go_enter Try.func28, Try.ntmps28
  go_upto_region 1 with fail
  rw [← hG5]
  generalize (w.alloc (.cells x.cells.toArray 30)).alloc (.cells y.cells.toArray 30) = W2 at *
  have V4 := Lib.hid v4
  have V5 := Lib.hid v5
  have HB01 := Lib.hid hb01
  have hT4 : w.heap.size < W2.heap.size := v4.lt
  have hT5 : G5 < W2.heap.size := v5.lt
  have hX2 : ∀ W, Below W2.heap.size W2 W → MRd W W.heap.size x ∧ MRd W W.heap.size y := fun W hW => by
    have h1 := hb01.trans (hW.mono hb01.size)
    exact ⟨(HX.out.below h1).more h1.size, (HY.out.below h1).more h1.size⟩
  have HXY := Lib.hid hX2
  clear v4 v5 hb01 hG5 hX2
  go_cut [9, 10] from 25 to 28 (fun v9 v10 wx => ∃ (g9 g10 : Nat) (X Y : MR), v9 = .pointer (some ⟨g9, 0, none⟩) ∧ v10 = .pointer (some ⟨g10, 0, none⟩) ∧ Hid (Vx wx g9 77 X.cells) ∧ Hid (Vx wx g10 77 Y.cells) ∧ Hid (X.m = x.m) ∧ Hid (Y.m = y.m) ∧ Hid (MRd wx wx.heap.size X) ∧ Hid (MRd wx wx.heap.size Y) ∧ Hid (Below W2.heap.size W2 wx))
  case first =>
    refine wp_region_held_drew (S := fun w' => Vx w' w.heap.size 30 x.cells ∧ Vx w' G5 30 y.cells) (by kernel_rfl) ⟨V4.out, V5.out⟩ (fun hH => ?_)
    refine reg_load 0 rfl (by kernel_rfl) 30 _ (by rfl) w.heap.size 30 x.cells _ (fun _ _ _ h => h) (by rfl) hH (by rfl) (fun w hS => hS.1) Try.underlying30 (by rfl) (by kernel_rfl) ?_
    (try simp only [Act.put, List.setIfInBounds_toArray, List.set_cons_zero, List.set_cons_succ])
    refine reg_load 2 rfl (by kernel_rfl) 30 _ (by rfl) G5 30 y.cells _ (fun _ _ _ h => h) (by rfl) hH (by rfl) (fun w hS => hS.2) Try.underlying30 (by rfl) (by kernel_rfl) ?_
    (try simp only [Act.put, List.setIfInBounds_toArray, List.set_cons_zero, List.set_cons_succ])
    refine wpAnyH_ready (rs := [1, 4, 5]) (by kernel_rfl) (by simp) ?_
    refine reg_cons _ rfl (fun K' hK => ?_) (reg_cons _ rfl (fun K' hK => ?_) (reg_cons _ rfl (fun K' hK => ?_) AllReadyH.nil))
    · go_simp
      go_at_call 38
      refine (turned_at x W2.drew (HXY.out _ (Below.refl W2.heap.size W2).drew).1 cx).mono ?_
      rintro e w1 ⟨⟨idX, flX, qAX, qcX, qsX, aAX, acX, raX, bAX, bdX, rbX, cAX, ccX, rcX⟩, hmX, rfl, hoX, hb1'⟩
      unfold MR.cells
      dsimp only
      have hb1 : Below W2.heap.size W2 w1 := ((Below.refl W2.heap.size W2).drew).trans (hb1'.mono ((Below.refl W2.heap.size W2).drew).size)
      refine hK.out _ _ ⟨V4.out.below hb1 hT4, V5.out.below hb1 hT5⟩ (fun hH => ?_)
      (try simp only [Act.put, List.setIfInBounds_toArray, List.set_cons_zero, List.set_cons_succ])
      clear hK
      have hs1 : W2.heap.size ≤ w1.heap.size := hb1'.size
      have hoX : MOwF w1 W2.heap.size ⟨idX, flX, qAX, qcX, qsX, aAX, acX, raX, bAX, bdX, rbX, cAX, ccX, rcX⟩ := hoX
      have hf1 := Below.refl w1.heap.size w1
      refine wpAnyH_ready (rs := [3, 4, 5]) (by kernel_rfl) (by simp) ?_
      refine reg_cons _ rfl (fun K' hK => ?_) (reg_cons _ rfl (fun K' hK => ?_) (reg_cons _ rfl (fun K' hK => ?_) AllReadyH.nil))
      · go_simp
        go_at_call 38
        refine (turned_at y w1 (HXY.out _ hb1).2 cy).mono ?_
        rintro e w2 ⟨⟨idY, flY, qAY, qcY, qsY, aAY, acY, raY, bAY, bdY, rbY, cAY, ccY, rcY⟩, hmY, rfl, hoY, hb2'⟩
        unfold MR.cells
        dsimp only
        have hb2 : Below W2.heap.size W2 w2 := (hb1).trans (hb2'.mono (hb1).size)
        refine hK.out _ _ ⟨V4.out.below hb2 hT4, V5.out.below hb2 hT5⟩ (fun hH => ?_)
        (try simp only [Act.put, List.setIfInBounds_toArray, List.set_cons_zero, List.set_cons_succ])
        clear hK
        have hs2 : w1.heap.size ≤ w2.heap.size := hb2'.size
        have hoY : MOwF w2 w1.heap.size ⟨idY, flY, qAY, qcY, qsY, aAY, acY, raY, bAY, bdY, rbY, cAY, ccY, rcY⟩ := hoY
        have hf2 := Below.refl w2.heap.size w2
        have hfX_2 := hf1.trans (hb2'.mono hf1.size)
        refine wpAnyH_ready (rs := [4, 5]) (by kernel_rfl) (by simp) ?_
        refine reg_cons _ rfl (fun K' hK => ?_) (reg_cons _ rfl (fun K' hK => ?_) AllReadyH.nil)
        · go_simp
          generalize hgw3 : World.alloc _ _ = w3
          have ha3' : Below w2.heap.size w2 w3 := by rw [← hgw3]; exact below_new _ _
          have ha3 : Below w2.heap.size w2 w3 := ⟨ha3'.os, ha3'.tape, ha3'.output, ha3'.size, ha3'.block⟩
          have vn3 : Vx w3 w2.heap.size 77 zM6 := by
            have h0 : Vx w3 w2.heap.size 77 zM6 := by rw [← hgw3]; exact Vx.new w2 _ _
            exact h0
          clear hgw3
          have hb3 : Below W2.heap.size W2 w3 := (hb2).trans (ha3.mono (hb2).size)
          refine hK.out _ _ ⟨V4.out.below hb3 hT4, V5.out.below hb3 hT5⟩ (fun hH => ?_)
          (try simp only [Act.put, List.setIfInBounds_toArray, List.set_cons_zero, List.set_cons_succ])
          clear hK
          have hs3 : w2.heap.size < w3.heap.size := vn3.lt
          have hfX_3 := hfX_2.trans (ha3.mono hfX_2.size)
          have hgX_3 := hfX_2.size
          have hfY_3 := hf2.trans (ha3.mono hf2.size)
          have hgY_3 := hf2.size
          refine wpAnyH_ready (rs := [5]) (by kernel_rfl) (by simp) ?_
          refine reg_cons _ rfl (fun K' hK => ?_) AllReadyH.nil
          go_simp
          generalize hgw4 : World.alloc _ _ = w4
          have ha4' : Below w3.heap.size w3 w4 := by rw [← hgw4]; exact below_new _ _
          have ha4 : Below w3.heap.size w3 w4 := ⟨ha4'.os, ha4'.tape, ha4'.output, ha4'.size, ha4'.block⟩
          have vn4 : Vx w4 w3.heap.size 77 zM6 := by
            have h0 : Vx w4 w3.heap.size 77 zM6 := by rw [← hgw4]; exact Vx.new w3 _ _
            exact h0
          clear hgw4
          have hb4 : Below W2.heap.size W2 w4 := (hb3).trans (ha4.mono (hb3).size)
          refine hK.out _ _ ⟨V4.out.below hb4 hT4, V5.out.below hb4 hT5⟩ (fun hH => ?_)
          (try simp only [Act.put, List.setIfInBounds_toArray, List.set_cons_zero, List.set_cons_succ])
          clear hK
          have v9_4 := vn3.below ha4 vn3.lt
          have hs4 : w3.heap.size < w4.heap.size := vn4.lt
          have hfX_4 := hfX_3.trans (ha4.mono hfX_3.size)
          have hgX_4 := hfX_3.size
          have hfY_4 := hfY_3.trans (ha4.mono hfY_3.size)
          have hgY_4 := hfY_3.size
          have hWB : W2.heap.size ≤ w4.heap.size := (hb4).size
          have hne : w2.heap.size ≠ w3.heap.size := by omega
          have hne2 : w3.heap.size ≠ w2.heap.size := by omega
          have hge9 : W2.heap.size ≤ w2.heap.size := by omega
          have hge10 : W2.heap.size ≤ w3.heap.size := by omega
          have fX := boxes_fin #[.int .u16 (idX : Int), .int .u16 (flX : Int), .slice qAX qsX.length qcX, .slice aAX raX.length acX, .slice bAX rbX.length bdX, .slice cAX rcX.length ccX] #[.int .u16 (idY : Int), .int .u16 (flY : Int), .slice qAY qsY.length qcY, .slice aAY raY.length acY, .slice bAY rbY.length bdY, .slice cAY rcY.length ccY] hoX hfX_4 (show w2.heap.size < _ ∨ _ by first | (left; omega) | (right; omega)) (show w3.heap.size < _ ∨ _ by first | (left; omega) | (right; omega))
          have fY := boxes_fin #[.int .u16 (idX : Int), .int .u16 (flX : Int), .slice qAX qsX.length qcX, .slice aAX raX.length acX, .slice bAX rbX.length bdX, .slice cAX rcX.length ccX] #[.int .u16 (idY : Int), .int .u16 (flY : Int), .slice qAY qsY.length qcY, .slice aAY raY.length acY, .slice bAY rbY.length bdY, .slice cAY rcY.length ccY] hoY hfY_4 (show w2.heap.size < _ ∨ _ by first | (left; omega) | (right; omega)) (show w3.heap.size < _ ∨ _ by first | (left; omega) | (right; omega))
          have hO9 := Only.row w4 (w2.heap.size) #[.int .u16 (idX : Int), .int .u16 (flX : Int), .slice qAX qsX.length qcX, .slice aAX raX.length acX, .slice bAX rbX.length bdX, .slice cAX rcX.length ccX]
          have hO10 := Only.row (w4.setRow (w2.heap.size) #[.int .u16 (idX : Int), .int .u16 (flX : Int), .slice qAX qsX.length qcX, .slice aAX raX.length acX, .slice bAX rbX.length bdX, .slice cAX rcX.length ccX]) (w3.heap.size) #[.int .u16 (idY : Int), .int .u16 (flY : Int), .slice qAY qsY.length qcY, .slice aAY raY.length acY, .slice bAY rbY.length bdY, .slice cAY rcY.length ccY]
          have hB9 : Below W2.heap.size W2 (w4.setRow (w2.heap.size) #[.int .u16 (idX : Int), .int .u16 (flX : Int), .slice qAX qsX.length qcX, .slice aAX raX.length acX, .slice bAX rbX.length bdX, .slice cAX rcX.length ccX]) := (hb4).trans (hO9.below hge9 hWB)
          have hB10 : Below W2.heap.size W2 ((w4.setRow (w2.heap.size) #[.int .u16 (idX : Int), .int .u16 (flX : Int), .slice qAX qsX.length qcX, .slice aAX raX.length acX, .slice bAX rbX.length bdX, .slice cAX rcX.length ccX]).setRow (w3.heap.size) #[.int .u16 (idY : Int), .int .u16 (flY : Int), .slice qAY qsY.length qcY, .slice aAY raY.length acY, .slice bAY rbY.length bdY, .slice cAY rcY.length ccY]) := hB9.trans (hO10.below hge10 hB9.size)
          have z9 : Vx ((w4.setRow (w2.heap.size) #[.int .u16 (idX : Int), .int .u16 (flX : Int), .slice qAX qsX.length qcX, .slice aAX raX.length acX, .slice bAX rbX.length bdX, .slice cAX rcX.length ccX]).setRow (w3.heap.size) #[.int .u16 (idY : Int), .int .u16 (flY : Int), .slice qAY qsY.length qcY, .slice aAY raY.length acY, .slice bAY rbY.length bdY, .slice cAY rcY.length ccY]) (w2.heap.size) 77 (MR.cells ⟨idX, flX, qAX, qcX, qsX, aAX, acX, raX, bAX, bdX, rbX, cAX, ccX, rcX⟩) := (v9_4.row (MR.cells ⟨idX, flX, qAX, qcX, qsX, aAX, acX, raX, bAX, bdX, rbX, cAX, ccX, rcX⟩)).rowO hne _
          have z10 : Vx ((w4.setRow (w2.heap.size) #[.int .u16 (idX : Int), .int .u16 (flX : Int), .slice qAX qsX.length qcX, .slice aAX raX.length acX, .slice bAX rbX.length bdX, .slice cAX rcX.length ccX]).setRow (w3.heap.size) #[.int .u16 (idY : Int), .int .u16 (flY : Int), .slice qAY qsY.length qcY, .slice aAY raY.length acY, .slice bAY rbY.length bdY, .slice cAY rcY.length ccY]) (w3.heap.size) 77 (MR.cells ⟨idY, flY, qAY, qcY, qsY, aAY, acY, raY, bAY, bdY, rbY, cAY, ccY, rcY⟩) := (vn4.rowO hne2 _).row (MR.cells ⟨idY, flY, qAY, qcY, qsY, aAY, acY, raY, bAY, bdY, rbY, cAY, ccY, rcY⟩)
          refine wpAnyH_ready (rs := [6]) (by kernel_rfl) (by simp) ?_
          refine reg_cons _ rfl (fun K' hK => ?_) AllReadyH.nil
          rw [if_pos (by rfl)]
          refine wp_store_row 77 _ _ (by rfl) (w2.heap.size) #[.int .u16 (idX : Int), .int .u16 (flX : Int), .slice qAX qsX.length qcX, .slice aAX raX.length acX, .slice bAX rbX.length bdX, .slice cAX rcX.length ccX] (by rfl) (by rfl) _ _ v9_4 (by kernel_rfl) rfl (by kernel_rfl) ?_
          refine hK.out _ _ ⟨V4.out.below hB9 hT4, V5.out.below hB9 hT5⟩ (fun hH => ?_)
          (try simp only [Act.put, List.setIfInBounds_toArray, List.set_cons_zero, List.set_cons_succ])
          clear hK
          refine wpAnyH_ready (rs := [7]) (by kernel_rfl) (by simp) ?_
          refine reg_cons _ rfl (fun K' hK => ?_) AllReadyH.nil
          rw [if_pos (by rfl)]
          refine wp_store_row 77 _ _ (by rfl) (w3.heap.size) #[.int .u16 (idY : Int), .int .u16 (flY : Int), .slice qAY qsY.length qcY, .slice aAY raY.length acY, .slice bAY rbY.length bdY, .slice cAY rcY.length ccY] (by rfl) (by rfl) _ _ (vn4.rowO hne2 _) (by kernel_rfl) rfl (by kernel_rfl) ?_
          refine hK.out _ _ ⟨V4.out.below hB10 hT4, V5.out.below hB10 hT5⟩ (fun hH => ?_)
          (try simp only [Act.put, List.setIfInBounds_toArray, List.set_cons_zero, List.set_cons_succ])
          clear hK
          refine wpAnyH_done (by kernel_rfl) ?_ _
          go_wp2_with fail
          try simp only [Act.put]
          go_meet
          exact ⟨w2.heap.size, w3.heap.size, ⟨idX, flX, qAX, qcX, qsX, aAX, acX, raX, bAX, bdX, rbX, cAX, ccX, rcX⟩, ⟨idY, flY, qAY, qcY, qsY, aAY, acY, raY, bAY, bdY, rbY, cAY, ccY, rcY⟩, rfl, rfl, Lib.hid z9, Lib.hid z10, Lib.hid hmX, Lib.hid hmY, Lib.hid (fX.rdL (HXY.out _ hB10).1 hmX), Lib.hid (fY.rdL (HXY.out _ hB10).2 hmY), Lib.hid hB10⟩
        · go_simp
          generalize hgw5 : World.alloc _ _ = w5
          have ha5' : Below w2.heap.size w2 w5 := by rw [← hgw5]; exact below_new _ _
          have ha5 : Below w2.heap.size w2 w5 := ⟨ha5'.os, ha5'.tape, ha5'.output, ha5'.size, ha5'.block⟩
          have vn5 : Vx w5 w2.heap.size 77 zM6 := by
            have h0 : Vx w5 w2.heap.size 77 zM6 := by rw [← hgw5]; exact Vx.new w2 _ _
            exact h0
          clear hgw5
          have hb5 : Below W2.heap.size W2 w5 := (hb2).trans (ha5.mono (hb2).size)
          refine hK.out _ _ ⟨V4.out.below hb5 hT4, V5.out.below hb5 hT5⟩ (fun hH => ?_)
          (try simp only [Act.put, List.setIfInBounds_toArray, List.set_cons_zero, List.set_cons_succ])
          clear hK
          have hs5 : w2.heap.size < w5.heap.size := vn5.lt
          have hfX_5 := hfX_2.trans (ha5.mono hfX_2.size)
          have hgX_5 := hfX_2.size
          have hfY_5 := hf2.trans (ha5.mono hf2.size)
          have hgY_5 := hf2.size
          refine wpAnyH_ready (rs := [4]) (by kernel_rfl) (by simp) ?_
          refine reg_cons _ rfl (fun K' hK => ?_) AllReadyH.nil
          go_simp
          generalize hgw6 : World.alloc _ _ = w6
          have ha6' : Below w5.heap.size w5 w6 := by rw [← hgw6]; exact below_new _ _
          have ha6 : Below w5.heap.size w5 w6 := ⟨ha6'.os, ha6'.tape, ha6'.output, ha6'.size, ha6'.block⟩
          have vn6 : Vx w6 w5.heap.size 77 zM6 := by
            have h0 : Vx w6 w5.heap.size 77 zM6 := by rw [← hgw6]; exact Vx.new w5 _ _
            exact h0
          clear hgw6
          have hb6 : Below W2.heap.size W2 w6 := (hb5).trans (ha6.mono (hb5).size)
          refine hK.out _ _ ⟨V4.out.below hb6 hT4, V5.out.below hb6 hT5⟩ (fun hH => ?_)
          (try simp only [Act.put, List.setIfInBounds_toArray, List.set_cons_zero, List.set_cons_succ])
          clear hK
          have v10_6 := vn5.below ha6 vn5.lt
          have hs6 : w5.heap.size < w6.heap.size := vn6.lt
          have hfX_6 := hfX_5.trans (ha6.mono hfX_5.size)
          have hgX_6 := hfX_5.size
          have hfY_6 := hfY_5.trans (ha6.mono hfY_5.size)
          have hgY_6 := hfY_5.size
          have hWB : W2.heap.size ≤ w6.heap.size := (hb6).size
          have hne : w5.heap.size ≠ w2.heap.size := by omega
          have hne2 : w2.heap.size ≠ w5.heap.size := by omega
          have hge9 : W2.heap.size ≤ w5.heap.size := by omega
          have hge10 : W2.heap.size ≤ w2.heap.size := by omega
          have fX := boxes_fin #[.int .u16 (idX : Int), .int .u16 (flX : Int), .slice qAX qsX.length qcX, .slice aAX raX.length acX, .slice bAX rbX.length bdX, .slice cAX rcX.length ccX] #[.int .u16 (idY : Int), .int .u16 (flY : Int), .slice qAY qsY.length qcY, .slice aAY raY.length acY, .slice bAY rbY.length bdY, .slice cAY rcY.length ccY] hoX hfX_6 (show w5.heap.size < _ ∨ _ by first | (left; omega) | (right; omega)) (show w2.heap.size < _ ∨ _ by first | (left; omega) | (right; omega))
          have fY := boxes_fin #[.int .u16 (idX : Int), .int .u16 (flX : Int), .slice qAX qsX.length qcX, .slice aAX raX.length acX, .slice bAX rbX.length bdX, .slice cAX rcX.length ccX] #[.int .u16 (idY : Int), .int .u16 (flY : Int), .slice qAY qsY.length qcY, .slice aAY raY.length acY, .slice bAY rbY.length bdY, .slice cAY rcY.length ccY] hoY hfY_6 (show w5.heap.size < _ ∨ _ by first | (left; omega) | (right; omega)) (show w2.heap.size < _ ∨ _ by first | (left; omega) | (right; omega))
          have hO9 := Only.row w6 (w5.heap.size) #[.int .u16 (idX : Int), .int .u16 (flX : Int), .slice qAX qsX.length qcX, .slice aAX raX.length acX, .slice bAX rbX.length bdX, .slice cAX rcX.length ccX]
          have hO10 := Only.row (w6.setRow (w5.heap.size) #[.int .u16 (idX : Int), .int .u16 (flX : Int), .slice qAX qsX.length qcX, .slice aAX raX.length acX, .slice bAX rbX.length bdX, .slice cAX rcX.length ccX]) (w2.heap.size) #[.int .u16 (idY : Int), .int .u16 (flY : Int), .slice qAY qsY.length qcY, .slice aAY raY.length acY, .slice bAY rbY.length bdY, .slice cAY rcY.length ccY]
          have hB9 : Below W2.heap.size W2 (w6.setRow (w5.heap.size) #[.int .u16 (idX : Int), .int .u16 (flX : Int), .slice qAX qsX.length qcX, .slice aAX raX.length acX, .slice bAX rbX.length bdX, .slice cAX rcX.length ccX]) := (hb6).trans (hO9.below hge9 hWB)
          have hB10 : Below W2.heap.size W2 ((w6.setRow (w5.heap.size) #[.int .u16 (idX : Int), .int .u16 (flX : Int), .slice qAX qsX.length qcX, .slice aAX raX.length acX, .slice bAX rbX.length bdX, .slice cAX rcX.length ccX]).setRow (w2.heap.size) #[.int .u16 (idY : Int), .int .u16 (flY : Int), .slice qAY qsY.length qcY, .slice aAY raY.length acY, .slice bAY rbY.length bdY, .slice cAY rcY.length ccY]) := hB9.trans (hO10.below hge10 hB9.size)
          have z9 : Vx ((w6.setRow (w5.heap.size) #[.int .u16 (idX : Int), .int .u16 (flX : Int), .slice qAX qsX.length qcX, .slice aAX raX.length acX, .slice bAX rbX.length bdX, .slice cAX rcX.length ccX]).setRow (w2.heap.size) #[.int .u16 (idY : Int), .int .u16 (flY : Int), .slice qAY qsY.length qcY, .slice aAY raY.length acY, .slice bAY rbY.length bdY, .slice cAY rcY.length ccY]) (w5.heap.size) 77 (MR.cells ⟨idX, flX, qAX, qcX, qsX, aAX, acX, raX, bAX, bdX, rbX, cAX, ccX, rcX⟩) := (vn6.row (MR.cells ⟨idX, flX, qAX, qcX, qsX, aAX, acX, raX, bAX, bdX, rbX, cAX, ccX, rcX⟩)).rowO hne _
          have z10 : Vx ((w6.setRow (w5.heap.size) #[.int .u16 (idX : Int), .int .u16 (flX : Int), .slice qAX qsX.length qcX, .slice aAX raX.length acX, .slice bAX rbX.length bdX, .slice cAX rcX.length ccX]).setRow (w2.heap.size) #[.int .u16 (idY : Int), .int .u16 (flY : Int), .slice qAY qsY.length qcY, .slice aAY raY.length acY, .slice bAY rbY.length bdY, .slice cAY rcY.length ccY]) (w2.heap.size) 77 (MR.cells ⟨idY, flY, qAY, qcY, qsY, aAY, acY, raY, bAY, bdY, rbY, cAY, ccY, rcY⟩) := (v10_6.rowO hne2 _).row (MR.cells ⟨idY, flY, qAY, qcY, qsY, aAY, acY, raY, bAY, bdY, rbY, cAY, ccY, rcY⟩)
          refine wpAnyH_ready (rs := [6]) (by kernel_rfl) (by simp) ?_
          refine reg_cons _ rfl (fun K' hK => ?_) AllReadyH.nil
          rw [if_pos (by rfl)]
          refine wp_store_row 77 _ _ (by rfl) (w5.heap.size) #[.int .u16 (idX : Int), .int .u16 (flX : Int), .slice qAX qsX.length qcX, .slice aAX raX.length acX, .slice bAX rbX.length bdX, .slice cAX rcX.length ccX] (by rfl) (by rfl) _ _ vn6 (by kernel_rfl) rfl (by kernel_rfl) ?_
          refine hK.out _ _ ⟨V4.out.below hB9 hT4, V5.out.below hB9 hT5⟩ (fun hH => ?_)
          (try simp only [Act.put, List.setIfInBounds_toArray, List.set_cons_zero, List.set_cons_succ])
          clear hK
          refine wpAnyH_ready (rs := [7]) (by kernel_rfl) (by simp) ?_
          refine reg_cons _ rfl (fun K' hK => ?_) AllReadyH.nil
          rw [if_pos (by rfl)]
          refine wp_store_row 77 _ _ (by rfl) (w2.heap.size) #[.int .u16 (idY : Int), .int .u16 (flY : Int), .slice qAY qsY.length qcY, .slice aAY raY.length acY, .slice bAY rbY.length bdY, .slice cAY rcY.length ccY] (by rfl) (by rfl) _ _ (v10_6.rowO hne2 _) (by kernel_rfl) rfl (by kernel_rfl) ?_
          refine hK.out _ _ ⟨V4.out.below hB10 hT4, V5.out.below hB10 hT5⟩ (fun hH => ?_)
          (try simp only [Act.put, List.setIfInBounds_toArray, List.set_cons_zero, List.set_cons_succ])
          clear hK
          refine wpAnyH_done (by kernel_rfl) ?_ _
          go_wp2_with fail
          try simp only [Act.put]
          go_meet
          exact ⟨w5.heap.size, w2.heap.size, ⟨idX, flX, qAX, qcX, qsX, aAX, acX, raX, bAX, bdX, rbX, cAX, ccX, rcX⟩, ⟨idY, flY, qAY, qcY, qsY, aAY, acY, raY, bAY, bdY, rbY, cAY, ccY, rcY⟩, rfl, rfl, Lib.hid z9, Lib.hid z10, Lib.hid hmX, Lib.hid hmY, Lib.hid (fX.rdL (HXY.out _ hB10).1 hmX), Lib.hid (fY.rdL (HXY.out _ hB10).2 hmY), Lib.hid hB10⟩
      · go_simp
        generalize hgw7 : World.alloc _ _ = w7
        have ha7' : Below w1.heap.size w1 w7 := by rw [← hgw7]; exact below_new _ _
        have ha7 : Below w1.heap.size w1 w7 := ⟨ha7'.os, ha7'.tape, ha7'.output, ha7'.size, ha7'.block⟩
        have vn7 : Vx w7 w1.heap.size 77 zM6 := by
          have h0 : Vx w7 w1.heap.size 77 zM6 := by rw [← hgw7]; exact Vx.new w1 _ _
          exact h0
        clear hgw7
        have hb7 : Below W2.heap.size W2 w7 := (hb1).trans (ha7.mono (hb1).size)
        refine hK.out _ _ ⟨V4.out.below hb7 hT4, V5.out.below hb7 hT5⟩ (fun hH => ?_)
        (try simp only [Act.put, List.setIfInBounds_toArray, List.set_cons_zero, List.set_cons_succ])
        clear hK
        have hs7 : w1.heap.size < w7.heap.size := vn7.lt
        have hfX_7 := hf1.trans (ha7.mono hf1.size)
        have hgX_7 := hf1.size
        refine wpAnyH_ready (rs := [3, 5]) (by kernel_rfl) (by simp) ?_
        refine reg_cons _ rfl (fun K' hK => ?_) (reg_cons _ rfl (fun K' hK => ?_) AllReadyH.nil)
        · go_simp
          go_at_call 38
          refine (turned_at y w7 (HXY.out _ hb7).2 cy).mono ?_
          rintro e w8 ⟨⟨idY, flY, qAY, qcY, qsY, aAY, acY, raY, bAY, bdY, rbY, cAY, ccY, rcY⟩, hmY, rfl, hoY, hb8'⟩
          unfold MR.cells
          dsimp only
          have hb8 : Below W2.heap.size W2 w8 := (hb7).trans (hb8'.mono (hb7).size)
          refine hK.out _ _ ⟨V4.out.below hb8 hT4, V5.out.below hb8 hT5⟩ (fun hH => ?_)
          (try simp only [Act.put, List.setIfInBounds_toArray, List.set_cons_zero, List.set_cons_succ])
          clear hK
          have hs8 : w7.heap.size ≤ w8.heap.size := hb8'.size
          have hoY : MOwF w8 w7.heap.size ⟨idY, flY, qAY, qcY, qsY, aAY, acY, raY, bAY, bdY, rbY, cAY, ccY, rcY⟩ := hoY
          have hf8 := Below.refl w8.heap.size w8
          have v9_8 := vn7.below hb8' vn7.lt
          have hfX_8 := hfX_7.trans (hb8'.mono hfX_7.size)
          refine wpAnyH_ready (rs := [5]) (by kernel_rfl) (by simp) ?_
          refine reg_cons _ rfl (fun K' hK => ?_) AllReadyH.nil
          go_simp
          generalize hgw9 : World.alloc _ _ = w9
          have ha9' : Below w8.heap.size w8 w9 := by rw [← hgw9]; exact below_new _ _
          have ha9 : Below w8.heap.size w8 w9 := ⟨ha9'.os, ha9'.tape, ha9'.output, ha9'.size, ha9'.block⟩
          have vn9 : Vx w9 w8.heap.size 77 zM6 := by
            have h0 : Vx w9 w8.heap.size 77 zM6 := by rw [← hgw9]; exact Vx.new w8 _ _
            exact h0
          clear hgw9
          have hb9 : Below W2.heap.size W2 w9 := (hb8).trans (ha9.mono (hb8).size)
          refine hK.out _ _ ⟨V4.out.below hb9 hT4, V5.out.below hb9 hT5⟩ (fun hH => ?_)
          (try simp only [Act.put, List.setIfInBounds_toArray, List.set_cons_zero, List.set_cons_succ])
          clear hK
          have v9_9 := v9_8.below ha9 v9_8.lt
          have hs9 : w8.heap.size < w9.heap.size := vn9.lt
          have hfX_9 := hfX_8.trans (ha9.mono hfX_8.size)
          have hgX_9 := hfX_8.size
          have hfY_9 := hf8.trans (ha9.mono hf8.size)
          have hgY_9 := hf8.size
          have hWB : W2.heap.size ≤ w9.heap.size := (hb9).size
          have hne : w1.heap.size ≠ w8.heap.size := by omega
          have hne2 : w8.heap.size ≠ w1.heap.size := by omega
          have hge9 : W2.heap.size ≤ w1.heap.size := by omega
          have hge10 : W2.heap.size ≤ w8.heap.size := by omega
          have fX := boxes_fin #[.int .u16 (idX : Int), .int .u16 (flX : Int), .slice qAX qsX.length qcX, .slice aAX raX.length acX, .slice bAX rbX.length bdX, .slice cAX rcX.length ccX] #[.int .u16 (idY : Int), .int .u16 (flY : Int), .slice qAY qsY.length qcY, .slice aAY raY.length acY, .slice bAY rbY.length bdY, .slice cAY rcY.length ccY] hoX hfX_9 (show w1.heap.size < _ ∨ _ by first | (left; omega) | (right; omega)) (show w8.heap.size < _ ∨ _ by first | (left; omega) | (right; omega))
          have fY := boxes_fin #[.int .u16 (idX : Int), .int .u16 (flX : Int), .slice qAX qsX.length qcX, .slice aAX raX.length acX, .slice bAX rbX.length bdX, .slice cAX rcX.length ccX] #[.int .u16 (idY : Int), .int .u16 (flY : Int), .slice qAY qsY.length qcY, .slice aAY raY.length acY, .slice bAY rbY.length bdY, .slice cAY rcY.length ccY] hoY hfY_9 (show w1.heap.size < _ ∨ _ by first | (left; omega) | (right; omega)) (show w8.heap.size < _ ∨ _ by first | (left; omega) | (right; omega))
          have hO9 := Only.row w9 (w1.heap.size) #[.int .u16 (idX : Int), .int .u16 (flX : Int), .slice qAX qsX.length qcX, .slice aAX raX.length acX, .slice bAX rbX.length bdX, .slice cAX rcX.length ccX]
          have hO10 := Only.row (w9.setRow (w1.heap.size) #[.int .u16 (idX : Int), .int .u16 (flX : Int), .slice qAX qsX.length qcX, .slice aAX raX.length acX, .slice bAX rbX.length bdX, .slice cAX rcX.length ccX]) (w8.heap.size) #[.int .u16 (idY : Int), .int .u16 (flY : Int), .slice qAY qsY.length qcY, .slice aAY raY.length acY, .slice bAY rbY.length bdY, .slice cAY rcY.length ccY]
          have hB9 : Below W2.heap.size W2 (w9.setRow (w1.heap.size) #[.int .u16 (idX : Int), .int .u16 (flX : Int), .slice qAX qsX.length qcX, .slice aAX raX.length acX, .slice bAX rbX.length bdX, .slice cAX rcX.length ccX]) := (hb9).trans (hO9.below hge9 hWB)
          have hB10 : Below W2.heap.size W2 ((w9.setRow (w1.heap.size) #[.int .u16 (idX : Int), .int .u16 (flX : Int), .slice qAX qsX.length qcX, .slice aAX raX.length acX, .slice bAX rbX.length bdX, .slice cAX rcX.length ccX]).setRow (w8.heap.size) #[.int .u16 (idY : Int), .int .u16 (flY : Int), .slice qAY qsY.length qcY, .slice aAY raY.length acY, .slice bAY rbY.length bdY, .slice cAY rcY.length ccY]) := hB9.trans (hO10.below hge10 hB9.size)
          have z9 : Vx ((w9.setRow (w1.heap.size) #[.int .u16 (idX : Int), .int .u16 (flX : Int), .slice qAX qsX.length qcX, .slice aAX raX.length acX, .slice bAX rbX.length bdX, .slice cAX rcX.length ccX]).setRow (w8.heap.size) #[.int .u16 (idY : Int), .int .u16 (flY : Int), .slice qAY qsY.length qcY, .slice aAY raY.length acY, .slice bAY rbY.length bdY, .slice cAY rcY.length ccY]) (w1.heap.size) 77 (MR.cells ⟨idX, flX, qAX, qcX, qsX, aAX, acX, raX, bAX, bdX, rbX, cAX, ccX, rcX⟩) := (v9_9.row (MR.cells ⟨idX, flX, qAX, qcX, qsX, aAX, acX, raX, bAX, bdX, rbX, cAX, ccX, rcX⟩)).rowO hne _
          have z10 : Vx ((w9.setRow (w1.heap.size) #[.int .u16 (idX : Int), .int .u16 (flX : Int), .slice qAX qsX.length qcX, .slice aAX raX.length acX, .slice bAX rbX.length bdX, .slice cAX rcX.length ccX]).setRow (w8.heap.size) #[.int .u16 (idY : Int), .int .u16 (flY : Int), .slice qAY qsY.length qcY, .slice aAY raY.length acY, .slice bAY rbY.length bdY, .slice cAY rcY.length ccY]) (w8.heap.size) 77 (MR.cells ⟨idY, flY, qAY, qcY, qsY, aAY, acY, raY, bAY, bdY, rbY, cAY, ccY, rcY⟩) := (vn9.rowO hne2 _).row (MR.cells ⟨idY, flY, qAY, qcY, qsY, aAY, acY, raY, bAY, bdY, rbY, cAY, ccY, rcY⟩)
          refine wpAnyH_ready (rs := [6]) (by kernel_rfl) (by simp) ?_
          refine reg_cons _ rfl (fun K' hK => ?_) AllReadyH.nil
          rw [if_pos (by rfl)]
          refine wp_store_row 77 _ _ (by rfl) (w1.heap.size) #[.int .u16 (idX : Int), .int .u16 (flX : Int), .slice qAX qsX.length qcX, .slice aAX raX.length acX, .slice bAX rbX.length bdX, .slice cAX rcX.length ccX] (by rfl) (by rfl) _ _ v9_9 (by kernel_rfl) rfl (by kernel_rfl) ?_
          refine hK.out _ _ ⟨V4.out.below hB9 hT4, V5.out.below hB9 hT5⟩ (fun hH => ?_)
          (try simp only [Act.put, List.setIfInBounds_toArray, List.set_cons_zero, List.set_cons_succ])
          clear hK
          refine wpAnyH_ready (rs := [7]) (by kernel_rfl) (by simp) ?_
          refine reg_cons _ rfl (fun K' hK => ?_) AllReadyH.nil
          rw [if_pos (by rfl)]
          refine wp_store_row 77 _ _ (by rfl) (w8.heap.size) #[.int .u16 (idY : Int), .int .u16 (flY : Int), .slice qAY qsY.length qcY, .slice aAY raY.length acY, .slice bAY rbY.length bdY, .slice cAY rcY.length ccY] (by rfl) (by rfl) _ _ (vn9.rowO hne2 _) (by kernel_rfl) rfl (by kernel_rfl) ?_
          refine hK.out _ _ ⟨V4.out.below hB10 hT4, V5.out.below hB10 hT5⟩ (fun hH => ?_)
          (try simp only [Act.put, List.setIfInBounds_toArray, List.set_cons_zero, List.set_cons_succ])
          clear hK
          refine wpAnyH_done (by kernel_rfl) ?_ _
          go_wp2_with fail
          try simp only [Act.put]
          go_meet
          exact ⟨w1.heap.size, w8.heap.size, ⟨idX, flX, qAX, qcX, qsX, aAX, acX, raX, bAX, bdX, rbX, cAX, ccX, rcX⟩, ⟨idY, flY, qAY, qcY, qsY, aAY, acY, raY, bAY, bdY, rbY, cAY, ccY, rcY⟩, rfl, rfl, Lib.hid z9, Lib.hid z10, Lib.hid hmX, Lib.hid hmY, Lib.hid (fX.rdL (HXY.out _ hB10).1 hmX), Lib.hid (fY.rdL (HXY.out _ hB10).2 hmY), Lib.hid hB10⟩
        · go_simp
          generalize hgw10 : World.alloc _ _ = w10
          have ha10' : Below w7.heap.size w7 w10 := by rw [← hgw10]; exact below_new _ _
          have ha10 : Below w7.heap.size w7 w10 := ⟨ha10'.os, ha10'.tape, ha10'.output, ha10'.size, ha10'.block⟩
          have vn10 : Vx w10 w7.heap.size 77 zM6 := by
            have h0 : Vx w10 w7.heap.size 77 zM6 := by rw [← hgw10]; exact Vx.new w7 _ _
            exact h0
          clear hgw10
          have hb10 : Below W2.heap.size W2 w10 := (hb7).trans (ha10.mono (hb7).size)
          refine hK.out _ _ ⟨V4.out.below hb10 hT4, V5.out.below hb10 hT5⟩ (fun hH => ?_)
          (try simp only [Act.put, List.setIfInBounds_toArray, List.set_cons_zero, List.set_cons_succ])
          clear hK
          have v9_10 := vn7.below ha10 vn7.lt
          have hs10 : w7.heap.size < w10.heap.size := vn10.lt
          have hfX_10 := hfX_7.trans (ha10.mono hfX_7.size)
          have hgX_10 := hfX_7.size
          refine wpAnyH_ready (rs := [3]) (by kernel_rfl) (by simp) ?_
          refine reg_cons _ rfl (fun K' hK => ?_) AllReadyH.nil
          go_simp
          go_at_call 38
          refine (turned_at y w10 (HXY.out _ hb10).2 cy).mono ?_
          rintro e w11 ⟨⟨idY, flY, qAY, qcY, qsY, aAY, acY, raY, bAY, bdY, rbY, cAY, ccY, rcY⟩, hmY, rfl, hoY, hb11'⟩
          unfold MR.cells
          dsimp only
          have hb11 : Below W2.heap.size W2 w11 := (hb10).trans (hb11'.mono (hb10).size)
          refine hK.out _ _ ⟨V4.out.below hb11 hT4, V5.out.below hb11 hT5⟩ (fun hH => ?_)
          (try simp only [Act.put, List.setIfInBounds_toArray, List.set_cons_zero, List.set_cons_succ])
          clear hK
          have hs11 : w10.heap.size ≤ w11.heap.size := hb11'.size
          have hoY : MOwF w11 w10.heap.size ⟨idY, flY, qAY, qcY, qsY, aAY, acY, raY, bAY, bdY, rbY, cAY, ccY, rcY⟩ := hoY
          have hf11 := Below.refl w11.heap.size w11
          have v9_11 := v9_10.below hb11' v9_10.lt
          have v10_11 := vn10.below hb11' vn10.lt
          have hfX_11 := hfX_10.trans (hb11'.mono hfX_10.size)
          have hWB : W2.heap.size ≤ w11.heap.size := (hb11).size
          have hne : w1.heap.size ≠ w7.heap.size := by omega
          have hne2 : w7.heap.size ≠ w1.heap.size := by omega
          have hge9 : W2.heap.size ≤ w1.heap.size := by omega
          have hge10 : W2.heap.size ≤ w7.heap.size := by omega
          have fX := boxes_fin #[.int .u16 (idX : Int), .int .u16 (flX : Int), .slice qAX qsX.length qcX, .slice aAX raX.length acX, .slice bAX rbX.length bdX, .slice cAX rcX.length ccX] #[.int .u16 (idY : Int), .int .u16 (flY : Int), .slice qAY qsY.length qcY, .slice aAY raY.length acY, .slice bAY rbY.length bdY, .slice cAY rcY.length ccY] hoX hfX_11 (show w1.heap.size < _ ∨ _ by first | (left; omega) | (right; omega)) (show w7.heap.size < _ ∨ _ by first | (left; omega) | (right; omega))
          have fY := boxes_fin #[.int .u16 (idX : Int), .int .u16 (flX : Int), .slice qAX qsX.length qcX, .slice aAX raX.length acX, .slice bAX rbX.length bdX, .slice cAX rcX.length ccX] #[.int .u16 (idY : Int), .int .u16 (flY : Int), .slice qAY qsY.length qcY, .slice aAY raY.length acY, .slice bAY rbY.length bdY, .slice cAY rcY.length ccY] hoY hf11 (show w1.heap.size < _ ∨ _ by first | (left; omega) | (right; omega)) (show w7.heap.size < _ ∨ _ by first | (left; omega) | (right; omega))
          have hO9 := Only.row w11 (w1.heap.size) #[.int .u16 (idX : Int), .int .u16 (flX : Int), .slice qAX qsX.length qcX, .slice aAX raX.length acX, .slice bAX rbX.length bdX, .slice cAX rcX.length ccX]
          have hO10 := Only.row (w11.setRow (w1.heap.size) #[.int .u16 (idX : Int), .int .u16 (flX : Int), .slice qAX qsX.length qcX, .slice aAX raX.length acX, .slice bAX rbX.length bdX, .slice cAX rcX.length ccX]) (w7.heap.size) #[.int .u16 (idY : Int), .int .u16 (flY : Int), .slice qAY qsY.length qcY, .slice aAY raY.length acY, .slice bAY rbY.length bdY, .slice cAY rcY.length ccY]
          have hB9 : Below W2.heap.size W2 (w11.setRow (w1.heap.size) #[.int .u16 (idX : Int), .int .u16 (flX : Int), .slice qAX qsX.length qcX, .slice aAX raX.length acX, .slice bAX rbX.length bdX, .slice cAX rcX.length ccX]) := (hb11).trans (hO9.below hge9 hWB)
          have hB10 : Below W2.heap.size W2 ((w11.setRow (w1.heap.size) #[.int .u16 (idX : Int), .int .u16 (flX : Int), .slice qAX qsX.length qcX, .slice aAX raX.length acX, .slice bAX rbX.length bdX, .slice cAX rcX.length ccX]).setRow (w7.heap.size) #[.int .u16 (idY : Int), .int .u16 (flY : Int), .slice qAY qsY.length qcY, .slice aAY raY.length acY, .slice bAY rbY.length bdY, .slice cAY rcY.length ccY]) := hB9.trans (hO10.below hge10 hB9.size)
          have z9 : Vx ((w11.setRow (w1.heap.size) #[.int .u16 (idX : Int), .int .u16 (flX : Int), .slice qAX qsX.length qcX, .slice aAX raX.length acX, .slice bAX rbX.length bdX, .slice cAX rcX.length ccX]).setRow (w7.heap.size) #[.int .u16 (idY : Int), .int .u16 (flY : Int), .slice qAY qsY.length qcY, .slice aAY raY.length acY, .slice bAY rbY.length bdY, .slice cAY rcY.length ccY]) (w1.heap.size) 77 (MR.cells ⟨idX, flX, qAX, qcX, qsX, aAX, acX, raX, bAX, bdX, rbX, cAX, ccX, rcX⟩) := (v9_11.row (MR.cells ⟨idX, flX, qAX, qcX, qsX, aAX, acX, raX, bAX, bdX, rbX, cAX, ccX, rcX⟩)).rowO hne _
          have z10 : Vx ((w11.setRow (w1.heap.size) #[.int .u16 (idX : Int), .int .u16 (flX : Int), .slice qAX qsX.length qcX, .slice aAX raX.length acX, .slice bAX rbX.length bdX, .slice cAX rcX.length ccX]).setRow (w7.heap.size) #[.int .u16 (idY : Int), .int .u16 (flY : Int), .slice qAY qsY.length qcY, .slice aAY raY.length acY, .slice bAY rbY.length bdY, .slice cAY rcY.length ccY]) (w7.heap.size) 77 (MR.cells ⟨idY, flY, qAY, qcY, qsY, aAY, acY, raY, bAY, bdY, rbY, cAY, ccY, rcY⟩) := (v10_11.rowO hne2 _).row (MR.cells ⟨idY, flY, qAY, qcY, qsY, aAY, acY, raY, bAY, bdY, rbY, cAY, ccY, rcY⟩)
          refine wpAnyH_ready (rs := [6]) (by kernel_rfl) (by simp) ?_
          refine reg_cons _ rfl (fun K' hK => ?_) AllReadyH.nil
          rw [if_pos (by rfl)]
          refine wp_store_row 77 _ _ (by rfl) (w1.heap.size) #[.int .u16 (idX : Int), .int .u16 (flX : Int), .slice qAX qsX.length qcX, .slice aAX raX.length acX, .slice bAX rbX.length bdX, .slice cAX rcX.length ccX] (by rfl) (by rfl) _ _ v9_11 (by kernel_rfl) rfl (by kernel_rfl) ?_
          refine hK.out _ _ ⟨V4.out.below hB9 hT4, V5.out.below hB9 hT5⟩ (fun hH => ?_)
          (try simp only [Act.put, List.setIfInBounds_toArray, List.set_cons_zero, List.set_cons_succ])
          clear hK
          refine wpAnyH_ready (rs := [7]) (by kernel_rfl) (by simp) ?_
          refine reg_cons _ rfl (fun K' hK => ?_) AllReadyH.nil
          rw [if_pos (by rfl)]
          refine wp_store_row 77 _ _ (by rfl) (w7.heap.size) #[.int .u16 (idY : Int), .int .u16 (flY : Int), .slice qAY qsY.length qcY, .slice aAY raY.length acY, .slice bAY rbY.length bdY, .slice cAY rcY.length ccY] (by rfl) (by rfl) _ _ (v10_11.rowO hne2 _) (by kernel_rfl) rfl (by kernel_rfl) ?_
          refine hK.out _ _ ⟨V4.out.below hB10 hT4, V5.out.below hB10 hT5⟩ (fun hH => ?_)
          (try simp only [Act.put, List.setIfInBounds_toArray, List.set_cons_zero, List.set_cons_succ])
          clear hK
          refine wpAnyH_done (by kernel_rfl) ?_ _
          go_wp2_with fail
          try simp only [Act.put]
          go_meet
          exact ⟨w1.heap.size, w7.heap.size, ⟨idX, flX, qAX, qcX, qsX, aAX, acX, raX, bAX, bdX, rbX, cAX, ccX, rcX⟩, ⟨idY, flY, qAY, qcY, qsY, aAY, acY, raY, bAY, bdY, rbY, cAY, ccY, rcY⟩, rfl, rfl, Lib.hid z9, Lib.hid z10, Lib.hid hmX, Lib.hid hmY, Lib.hid (fX.rdL (HXY.out _ hB10).1 hmX), Lib.hid (fY.rdL (HXY.out _ hB10).2 hmY), Lib.hid hB10⟩
      · go_simp
        generalize hgw12 : World.alloc _ _ = w12
        have ha12' : Below w1.heap.size w1 w12 := by rw [← hgw12]; exact below_new _ _
        have ha12 : Below w1.heap.size w1 w12 := ⟨ha12'.os, ha12'.tape, ha12'.output, ha12'.size, ha12'.block⟩
        have vn12 : Vx w12 w1.heap.size 77 zM6 := by
          have h0 : Vx w12 w1.heap.size 77 zM6 := by rw [← hgw12]; exact Vx.new w1 _ _
          exact h0
        clear hgw12
        have hb12 : Below W2.heap.size W2 w12 := (hb1).trans (ha12.mono (hb1).size)
        refine hK.out _ _ ⟨V4.out.below hb12 hT4, V5.out.below hb12 hT5⟩ (fun hH => ?_)
        (try simp only [Act.put, List.setIfInBounds_toArray, List.set_cons_zero, List.set_cons_succ])
        clear hK
        have hs12 : w1.heap.size < w12.heap.size := vn12.lt
        have hfX_12 := hf1.trans (ha12.mono hf1.size)
        have hgX_12 := hf1.size
        refine wpAnyH_ready (rs := [3, 4]) (by kernel_rfl) (by simp) ?_
        refine reg_cons _ rfl (fun K' hK => ?_) (reg_cons _ rfl (fun K' hK => ?_) AllReadyH.nil)
        · go_simp
          go_at_call 38
          refine (turned_at y w12 (HXY.out _ hb12).2 cy).mono ?_
          rintro e w13 ⟨⟨idY, flY, qAY, qcY, qsY, aAY, acY, raY, bAY, bdY, rbY, cAY, ccY, rcY⟩, hmY, rfl, hoY, hb13'⟩
          unfold MR.cells
          dsimp only
          have hb13 : Below W2.heap.size W2 w13 := (hb12).trans (hb13'.mono (hb12).size)
          refine hK.out _ _ ⟨V4.out.below hb13 hT4, V5.out.below hb13 hT5⟩ (fun hH => ?_)
          (try simp only [Act.put, List.setIfInBounds_toArray, List.set_cons_zero, List.set_cons_succ])
          clear hK
          have hs13 : w12.heap.size ≤ w13.heap.size := hb13'.size
          have hoY : MOwF w13 w12.heap.size ⟨idY, flY, qAY, qcY, qsY, aAY, acY, raY, bAY, bdY, rbY, cAY, ccY, rcY⟩ := hoY
          have hf13 := Below.refl w13.heap.size w13
          have v10_13 := vn12.below hb13' vn12.lt
          have hfX_13 := hfX_12.trans (hb13'.mono hfX_12.size)
          refine wpAnyH_ready (rs := [4]) (by kernel_rfl) (by simp) ?_
          refine reg_cons _ rfl (fun K' hK => ?_) AllReadyH.nil
          go_simp
          generalize hgw14 : World.alloc _ _ = w14
          have ha14' : Below w13.heap.size w13 w14 := by rw [← hgw14]; exact below_new _ _
          have ha14 : Below w13.heap.size w13 w14 := ⟨ha14'.os, ha14'.tape, ha14'.output, ha14'.size, ha14'.block⟩
          have vn14 : Vx w14 w13.heap.size 77 zM6 := by
            have h0 : Vx w14 w13.heap.size 77 zM6 := by rw [← hgw14]; exact Vx.new w13 _ _
            exact h0
          clear hgw14
          have hb14 : Below W2.heap.size W2 w14 := (hb13).trans (ha14.mono (hb13).size)
          refine hK.out _ _ ⟨V4.out.below hb14 hT4, V5.out.below hb14 hT5⟩ (fun hH => ?_)
          (try simp only [Act.put, List.setIfInBounds_toArray, List.set_cons_zero, List.set_cons_succ])
          clear hK
          have v10_14 := v10_13.below ha14 v10_13.lt
          have hs14 : w13.heap.size < w14.heap.size := vn14.lt
          have hfX_14 := hfX_13.trans (ha14.mono hfX_13.size)
          have hgX_14 := hfX_13.size
          have hfY_14 := hf13.trans (ha14.mono hf13.size)
          have hgY_14 := hf13.size
          have hWB : W2.heap.size ≤ w14.heap.size := (hb14).size
          have hne : w13.heap.size ≠ w1.heap.size := by omega
          have hne2 : w1.heap.size ≠ w13.heap.size := by omega
          have hge9 : W2.heap.size ≤ w13.heap.size := by omega
          have hge10 : W2.heap.size ≤ w1.heap.size := by omega
          have fX := boxes_fin #[.int .u16 (idX : Int), .int .u16 (flX : Int), .slice qAX qsX.length qcX, .slice aAX raX.length acX, .slice bAX rbX.length bdX, .slice cAX rcX.length ccX] #[.int .u16 (idY : Int), .int .u16 (flY : Int), .slice qAY qsY.length qcY, .slice aAY raY.length acY, .slice bAY rbY.length bdY, .slice cAY rcY.length ccY] hoX hfX_14 (show w13.heap.size < _ ∨ _ by first | (left; omega) | (right; omega)) (show w1.heap.size < _ ∨ _ by first | (left; omega) | (right; omega))
          have fY := boxes_fin #[.int .u16 (idX : Int), .int .u16 (flX : Int), .slice qAX qsX.length qcX, .slice aAX raX.length acX, .slice bAX rbX.length bdX, .slice cAX rcX.length ccX] #[.int .u16 (idY : Int), .int .u16 (flY : Int), .slice qAY qsY.length qcY, .slice aAY raY.length acY, .slice bAY rbY.length bdY, .slice cAY rcY.length ccY] hoY hfY_14 (show w13.heap.size < _ ∨ _ by first | (left; omega) | (right; omega)) (show w1.heap.size < _ ∨ _ by first | (left; omega) | (right; omega))
          have hO9 := Only.row w14 (w13.heap.size) #[.int .u16 (idX : Int), .int .u16 (flX : Int), .slice qAX qsX.length qcX, .slice aAX raX.length acX, .slice bAX rbX.length bdX, .slice cAX rcX.length ccX]
          have hO10 := Only.row (w14.setRow (w13.heap.size) #[.int .u16 (idX : Int), .int .u16 (flX : Int), .slice qAX qsX.length qcX, .slice aAX raX.length acX, .slice bAX rbX.length bdX, .slice cAX rcX.length ccX]) (w1.heap.size) #[.int .u16 (idY : Int), .int .u16 (flY : Int), .slice qAY qsY.length qcY, .slice aAY raY.length acY, .slice bAY rbY.length bdY, .slice cAY rcY.length ccY]
          have hB9 : Below W2.heap.size W2 (w14.setRow (w13.heap.size) #[.int .u16 (idX : Int), .int .u16 (flX : Int), .slice qAX qsX.length qcX, .slice aAX raX.length acX, .slice bAX rbX.length bdX, .slice cAX rcX.length ccX]) := (hb14).trans (hO9.below hge9 hWB)
          have hB10 : Below W2.heap.size W2 ((w14.setRow (w13.heap.size) #[.int .u16 (idX : Int), .int .u16 (flX : Int), .slice qAX qsX.length qcX, .slice aAX raX.length acX, .slice bAX rbX.length bdX, .slice cAX rcX.length ccX]).setRow (w1.heap.size) #[.int .u16 (idY : Int), .int .u16 (flY : Int), .slice qAY qsY.length qcY, .slice aAY raY.length acY, .slice bAY rbY.length bdY, .slice cAY rcY.length ccY]) := hB9.trans (hO10.below hge10 hB9.size)
          have z9 : Vx ((w14.setRow (w13.heap.size) #[.int .u16 (idX : Int), .int .u16 (flX : Int), .slice qAX qsX.length qcX, .slice aAX raX.length acX, .slice bAX rbX.length bdX, .slice cAX rcX.length ccX]).setRow (w1.heap.size) #[.int .u16 (idY : Int), .int .u16 (flY : Int), .slice qAY qsY.length qcY, .slice aAY raY.length acY, .slice bAY rbY.length bdY, .slice cAY rcY.length ccY]) (w13.heap.size) 77 (MR.cells ⟨idX, flX, qAX, qcX, qsX, aAX, acX, raX, bAX, bdX, rbX, cAX, ccX, rcX⟩) := (vn14.row (MR.cells ⟨idX, flX, qAX, qcX, qsX, aAX, acX, raX, bAX, bdX, rbX, cAX, ccX, rcX⟩)).rowO hne _
          have z10 : Vx ((w14.setRow (w13.heap.size) #[.int .u16 (idX : Int), .int .u16 (flX : Int), .slice qAX qsX.length qcX, .slice aAX raX.length acX, .slice bAX rbX.length bdX, .slice cAX rcX.length ccX]).setRow (w1.heap.size) #[.int .u16 (idY : Int), .int .u16 (flY : Int), .slice qAY qsY.length qcY, .slice aAY raY.length acY, .slice bAY rbY.length bdY, .slice cAY rcY.length ccY]) (w1.heap.size) 77 (MR.cells ⟨idY, flY, qAY, qcY, qsY, aAY, acY, raY, bAY, bdY, rbY, cAY, ccY, rcY⟩) := (v10_14.rowO hne2 _).row (MR.cells ⟨idY, flY, qAY, qcY, qsY, aAY, acY, raY, bAY, bdY, rbY, cAY, ccY, rcY⟩)
          refine wpAnyH_ready (rs := [6]) (by kernel_rfl) (by simp) ?_
          refine reg_cons _ rfl (fun K' hK => ?_) AllReadyH.nil
          rw [if_pos (by rfl)]
          refine wp_store_row 77 _ _ (by rfl) (w13.heap.size) #[.int .u16 (idX : Int), .int .u16 (flX : Int), .slice qAX qsX.length qcX, .slice aAX raX.length acX, .slice bAX rbX.length bdX, .slice cAX rcX.length ccX] (by rfl) (by rfl) _ _ vn14 (by kernel_rfl) rfl (by kernel_rfl) ?_
          refine hK.out _ _ ⟨V4.out.below hB9 hT4, V5.out.below hB9 hT5⟩ (fun hH => ?_)
          (try simp only [Act.put, List.setIfInBounds_toArray, List.set_cons_zero, List.set_cons_succ])
          clear hK
          refine wpAnyH_ready (rs := [7]) (by kernel_rfl) (by simp) ?_
          refine reg_cons _ rfl (fun K' hK => ?_) AllReadyH.nil
          rw [if_pos (by rfl)]
          refine wp_store_row 77 _ _ (by rfl) (w1.heap.size) #[.int .u16 (idY : Int), .int .u16 (flY : Int), .slice qAY qsY.length qcY, .slice aAY raY.length acY, .slice bAY rbY.length bdY, .slice cAY rcY.length ccY] (by rfl) (by rfl) _ _ (v10_14.rowO hne2 _) (by kernel_rfl) rfl (by kernel_rfl) ?_
          refine hK.out _ _ ⟨V4.out.below hB10 hT4, V5.out.below hB10 hT5⟩ (fun hH => ?_)
          (try simp only [Act.put, List.setIfInBounds_toArray, List.set_cons_zero, List.set_cons_succ])
          clear hK
          refine wpAnyH_done (by kernel_rfl) ?_ _
          go_wp2_with fail
          try simp only [Act.put]
          go_meet
          exact ⟨w13.heap.size, w1.heap.size, ⟨idX, flX, qAX, qcX, qsX, aAX, acX, raX, bAX, bdX, rbX, cAX, ccX, rcX⟩, ⟨idY, flY, qAY, qcY, qsY, aAY, acY, raY, bAY, bdY, rbY, cAY, ccY, rcY⟩, rfl, rfl, Lib.hid z9, Lib.hid z10, Lib.hid hmX, Lib.hid hmY, Lib.hid (fX.rdL (HXY.out _ hB10).1 hmX), Lib.hid (fY.rdL (HXY.out _ hB10).2 hmY), Lib.hid hB10⟩
        · go_simp
          generalize hgw15 : World.alloc _ _ = w15
          have ha15' : Below w12.heap.size w12 w15 := by rw [← hgw15]; exact below_new _ _
          have ha15 : Below w12.heap.size w12 w15 := ⟨ha15'.os, ha15'.tape, ha15'.output, ha15'.size, ha15'.block⟩
          have vn15 : Vx w15 w12.heap.size 77 zM6 := by
            have h0 : Vx w15 w12.heap.size 77 zM6 := by rw [← hgw15]; exact Vx.new w12 _ _
            exact h0
          clear hgw15
          have hb15 : Below W2.heap.size W2 w15 := (hb12).trans (ha15.mono (hb12).size)
          refine hK.out _ _ ⟨V4.out.below hb15 hT4, V5.out.below hb15 hT5⟩ (fun hH => ?_)
          (try simp only [Act.put, List.setIfInBounds_toArray, List.set_cons_zero, List.set_cons_succ])
          clear hK
          have v10_15 := vn12.below ha15 vn12.lt
          have hs15 : w12.heap.size < w15.heap.size := vn15.lt
          have hfX_15 := hfX_12.trans (ha15.mono hfX_12.size)
          have hgX_15 := hfX_12.size
          refine wpAnyH_ready (rs := [3]) (by kernel_rfl) (by simp) ?_
          refine reg_cons _ rfl (fun K' hK => ?_) AllReadyH.nil
          go_simp
          go_at_call 38
          refine (turned_at y w15 (HXY.out _ hb15).2 cy).mono ?_
          rintro e w16 ⟨⟨idY, flY, qAY, qcY, qsY, aAY, acY, raY, bAY, bdY, rbY, cAY, ccY, rcY⟩, hmY, rfl, hoY, hb16'⟩
          unfold MR.cells
          dsimp only
          have hb16 : Below W2.heap.size W2 w16 := (hb15).trans (hb16'.mono (hb15).size)
          refine hK.out _ _ ⟨V4.out.below hb16 hT4, V5.out.below hb16 hT5⟩ (fun hH => ?_)
          (try simp only [Act.put, List.setIfInBounds_toArray, List.set_cons_zero, List.set_cons_succ])
          clear hK
          have hs16 : w15.heap.size ≤ w16.heap.size := hb16'.size
          have hoY : MOwF w16 w15.heap.size ⟨idY, flY, qAY, qcY, qsY, aAY, acY, raY, bAY, bdY, rbY, cAY, ccY, rcY⟩ := hoY
          have hf16 := Below.refl w16.heap.size w16
          have v9_16 := vn15.below hb16' vn15.lt
          have v10_16 := v10_15.below hb16' v10_15.lt
          have hfX_16 := hfX_15.trans (hb16'.mono hfX_15.size)
          have hWB : W2.heap.size ≤ w16.heap.size := (hb16).size
          have hne : w12.heap.size ≠ w1.heap.size := by omega
          have hne2 : w1.heap.size ≠ w12.heap.size := by omega
          have hge9 : W2.heap.size ≤ w12.heap.size := by omega
          have hge10 : W2.heap.size ≤ w1.heap.size := by omega
          have fX := boxes_fin #[.int .u16 (idX : Int), .int .u16 (flX : Int), .slice qAX qsX.length qcX, .slice aAX raX.length acX, .slice bAX rbX.length bdX, .slice cAX rcX.length ccX] #[.int .u16 (idY : Int), .int .u16 (flY : Int), .slice qAY qsY.length qcY, .slice aAY raY.length acY, .slice bAY rbY.length bdY, .slice cAY rcY.length ccY] hoX hfX_16 (show w12.heap.size < _ ∨ _ by first | (left; omega) | (right; omega)) (show w1.heap.size < _ ∨ _ by first | (left; omega) | (right; omega))
          have fY := boxes_fin #[.int .u16 (idX : Int), .int .u16 (flX : Int), .slice qAX qsX.length qcX, .slice aAX raX.length acX, .slice bAX rbX.length bdX, .slice cAX rcX.length ccX] #[.int .u16 (idY : Int), .int .u16 (flY : Int), .slice qAY qsY.length qcY, .slice aAY raY.length acY, .slice bAY rbY.length bdY, .slice cAY rcY.length ccY] hoY hf16 (show w12.heap.size < _ ∨ _ by first | (left; omega) | (right; omega)) (show w1.heap.size < _ ∨ _ by first | (left; omega) | (right; omega))
          have hO9 := Only.row w16 (w12.heap.size) #[.int .u16 (idX : Int), .int .u16 (flX : Int), .slice qAX qsX.length qcX, .slice aAX raX.length acX, .slice bAX rbX.length bdX, .slice cAX rcX.length ccX]
          have hO10 := Only.row (w16.setRow (w12.heap.size) #[.int .u16 (idX : Int), .int .u16 (flX : Int), .slice qAX qsX.length qcX, .slice aAX raX.length acX, .slice bAX rbX.length bdX, .slice cAX rcX.length ccX]) (w1.heap.size) #[.int .u16 (idY : Int), .int .u16 (flY : Int), .slice qAY qsY.length qcY, .slice aAY raY.length acY, .slice bAY rbY.length bdY, .slice cAY rcY.length ccY]
          have hB9 : Below W2.heap.size W2 (w16.setRow (w12.heap.size) #[.int .u16 (idX : Int), .int .u16 (flX : Int), .slice qAX qsX.length qcX, .slice aAX raX.length acX, .slice bAX rbX.length bdX, .slice cAX rcX.length ccX]) := (hb16).trans (hO9.below hge9 hWB)
          have hB10 : Below W2.heap.size W2 ((w16.setRow (w12.heap.size) #[.int .u16 (idX : Int), .int .u16 (flX : Int), .slice qAX qsX.length qcX, .slice aAX raX.length acX, .slice bAX rbX.length bdX, .slice cAX rcX.length ccX]).setRow (w1.heap.size) #[.int .u16 (idY : Int), .int .u16 (flY : Int), .slice qAY qsY.length qcY, .slice aAY raY.length acY, .slice bAY rbY.length bdY, .slice cAY rcY.length ccY]) := hB9.trans (hO10.below hge10 hB9.size)
          have z9 : Vx ((w16.setRow (w12.heap.size) #[.int .u16 (idX : Int), .int .u16 (flX : Int), .slice qAX qsX.length qcX, .slice aAX raX.length acX, .slice bAX rbX.length bdX, .slice cAX rcX.length ccX]).setRow (w1.heap.size) #[.int .u16 (idY : Int), .int .u16 (flY : Int), .slice qAY qsY.length qcY, .slice aAY raY.length acY, .slice bAY rbY.length bdY, .slice cAY rcY.length ccY]) (w12.heap.size) 77 (MR.cells ⟨idX, flX, qAX, qcX, qsX, aAX, acX, raX, bAX, bdX, rbX, cAX, ccX, rcX⟩) := (v9_16.row (MR.cells ⟨idX, flX, qAX, qcX, qsX, aAX, acX, raX, bAX, bdX, rbX, cAX, ccX, rcX⟩)).rowO hne _
          have z10 : Vx ((w16.setRow (w12.heap.size) #[.int .u16 (idX : Int), .int .u16 (flX : Int), .slice qAX qsX.length qcX, .slice aAX raX.length acX, .slice bAX rbX.length bdX, .slice cAX rcX.length ccX]).setRow (w1.heap.size) #[.int .u16 (idY : Int), .int .u16 (flY : Int), .slice qAY qsY.length qcY, .slice aAY raY.length acY, .slice bAY rbY.length bdY, .slice cAY rcY.length ccY]) (w1.heap.size) 77 (MR.cells ⟨idY, flY, qAY, qcY, qsY, aAY, acY, raY, bAY, bdY, rbY, cAY, ccY, rcY⟩) := (v10_16.rowO hne2 _).row (MR.cells ⟨idY, flY, qAY, qcY, qsY, aAY, acY, raY, bAY, bdY, rbY, cAY, ccY, rcY⟩)
          refine wpAnyH_ready (rs := [6]) (by kernel_rfl) (by simp) ?_
          refine reg_cons _ rfl (fun K' hK => ?_) AllReadyH.nil
          rw [if_pos (by rfl)]
          refine wp_store_row 77 _ _ (by rfl) (w12.heap.size) #[.int .u16 (idX : Int), .int .u16 (flX : Int), .slice qAX qsX.length qcX, .slice aAX raX.length acX, .slice bAX rbX.length bdX, .slice cAX rcX.length ccX] (by rfl) (by rfl) _ _ v9_16 (by kernel_rfl) rfl (by kernel_rfl) ?_
          refine hK.out _ _ ⟨V4.out.below hB9 hT4, V5.out.below hB9 hT5⟩ (fun hH => ?_)
          (try simp only [Act.put, List.setIfInBounds_toArray, List.set_cons_zero, List.set_cons_succ])
          clear hK
          refine wpAnyH_ready (rs := [7]) (by kernel_rfl) (by simp) ?_
          refine reg_cons _ rfl (fun K' hK => ?_) AllReadyH.nil
          rw [if_pos (by rfl)]
          refine wp_store_row 77 _ _ (by rfl) (w1.heap.size) #[.int .u16 (idY : Int), .int .u16 (flY : Int), .slice qAY qsY.length qcY, .slice aAY raY.length acY, .slice bAY rbY.length bdY, .slice cAY rcY.length ccY] (by rfl) (by rfl) _ _ (v10_16.rowO hne2 _) (by kernel_rfl) rfl (by kernel_rfl) ?_
          refine hK.out _ _ ⟨V4.out.below hB10 hT4, V5.out.below hB10 hT5⟩ (fun hH => ?_)
          (try simp only [Act.put, List.setIfInBounds_toArray, List.set_cons_zero, List.set_cons_succ])
          clear hK
          refine wpAnyH_done (by kernel_rfl) ?_ _
          go_wp2_with fail
          try simp only [Act.put]
          go_meet
          exact ⟨w12.heap.size, w1.heap.size, ⟨idX, flX, qAX, qcX, qsX, aAX, acX, raX, bAX, bdX, rbX, cAX, ccX, rcX⟩, ⟨idY, flY, qAY, qcY, qsY, aAY, acY, raY, bAY, bdY, rbY, cAY, ccY, rcY⟩, rfl, rfl, Lib.hid z9, Lib.hid z10, Lib.hid hmX, Lib.hid hmY, Lib.hid (fX.rdL (HXY.out _ hB10).1 hmX), Lib.hid (fY.rdL (HXY.out _ hB10).2 hmY), Lib.hid hB10⟩
    · go_simp
      generalize hgw17 : World.alloc _ _ = w17
      have ha17' : Below W2.heap.size W2 w17 := by rw [← hgw17]; exact below_new _ _
      have ha17 : Below W2.drew.heap.size W2.drew w17.drew := ⟨ha17'.os, ha17'.tape, ha17'.output, ha17'.size, ha17'.block⟩
      have vn17 : Vx w17.drew W2.heap.size 77 zM6 := by
        have h0 : Vx w17 W2.heap.size 77 zM6 := by rw [← hgw17]; exact Vx.new W2 _ _
        exact h0
      clear hgw17
      have hb17 : Below W2.heap.size W2 w17.drew := ((Below.refl W2.heap.size W2).drew).trans (ha17.mono ((Below.refl W2.heap.size W2).drew).size)
      refine hK.out _ _ ⟨V4.out.below hb17 hT4, V5.out.below hb17 hT5⟩ (fun hH => ?_)
      (try simp only [Act.put, List.setIfInBounds_toArray, List.set_cons_zero, List.set_cons_succ])
      clear hK
      have hs17 : W2.heap.size < w17.heap.size := vn17.lt
      refine wpAnyH_ready (rs := [1, 5]) (by kernel_rfl) (by simp) ?_
      refine reg_cons _ rfl (fun K' hK => ?_) (reg_cons _ rfl (fun K' hK => ?_) AllReadyH.nil)
      · go_simp
        go_at_call 38
        refine (turned_at x w17.drew (HXY.out _ hb17).1 cx).mono ?_
        rintro e w18 ⟨⟨idX, flX, qAX, qcX, qsX, aAX, acX, raX, bAX, bdX, rbX, cAX, ccX, rcX⟩, hmX, rfl, hoX, hb18'⟩
        unfold MR.cells
        dsimp only
        have hb18 : Below W2.heap.size W2 w18 := (hb17).trans (hb18'.mono (hb17).size)
        refine hK.out _ _ ⟨V4.out.below hb18 hT4, V5.out.below hb18 hT5⟩ (fun hH => ?_)
        (try simp only [Act.put, List.setIfInBounds_toArray, List.set_cons_zero, List.set_cons_succ])
        clear hK
        have hs18 : w17.heap.size ≤ w18.heap.size := hb18'.size
        have hoX : MOwF w18 w17.heap.size ⟨idX, flX, qAX, qcX, qsX, aAX, acX, raX, bAX, bdX, rbX, cAX, ccX, rcX⟩ := hoX
        have hf18 := Below.refl w18.heap.size w18
        have v9_18 := vn17.below hb18' vn17.lt
        refine wpAnyH_ready (rs := [3, 5]) (by kernel_rfl) (by simp) ?_
        refine reg_cons _ rfl (fun K' hK => ?_) (reg_cons _ rfl (fun K' hK => ?_) AllReadyH.nil)
        · go_simp
          go_at_call 38
          refine (turned_at y w18 (HXY.out _ hb18).2 cy).mono ?_
          rintro e w19 ⟨⟨idY, flY, qAY, qcY, qsY, aAY, acY, raY, bAY, bdY, rbY, cAY, ccY, rcY⟩, hmY, rfl, hoY, hb19'⟩
          unfold MR.cells
          dsimp only
          have hb19 : Below W2.heap.size W2 w19 := (hb18).trans (hb19'.mono (hb18).size)
          refine hK.out _ _ ⟨V4.out.below hb19 hT4, V5.out.below hb19 hT5⟩ (fun hH => ?_)
          (try simp only [Act.put, List.setIfInBounds_toArray, List.set_cons_zero, List.set_cons_succ])
          clear hK
          have hs19 : w18.heap.size ≤ w19.heap.size := hb19'.size
          have hoY : MOwF w19 w18.heap.size ⟨idY, flY, qAY, qcY, qsY, aAY, acY, raY, bAY, bdY, rbY, cAY, ccY, rcY⟩ := hoY
          have hf19 := Below.refl w19.heap.size w19
          have v9_19 := v9_18.below hb19' v9_18.lt
          have hfX_19 := hf18.trans (hb19'.mono hf18.size)
          refine wpAnyH_ready (rs := [5]) (by kernel_rfl) (by simp) ?_
          refine reg_cons _ rfl (fun K' hK => ?_) AllReadyH.nil
          go_simp
          generalize hgw20 : World.alloc _ _ = w20
          have ha20' : Below w19.heap.size w19 w20 := by rw [← hgw20]; exact below_new _ _
          have ha20 : Below w19.heap.size w19 w20 := ⟨ha20'.os, ha20'.tape, ha20'.output, ha20'.size, ha20'.block⟩
          have vn20 : Vx w20 w19.heap.size 77 zM6 := by
            have h0 : Vx w20 w19.heap.size 77 zM6 := by rw [← hgw20]; exact Vx.new w19 _ _
            exact h0
          clear hgw20
          have hb20 : Below W2.heap.size W2 w20 := (hb19).trans (ha20.mono (hb19).size)
          refine hK.out _ _ ⟨V4.out.below hb20 hT4, V5.out.below hb20 hT5⟩ (fun hH => ?_)
          (try simp only [Act.put, List.setIfInBounds_toArray, List.set_cons_zero, List.set_cons_succ])
          clear hK
          have v9_20 := v9_19.below ha20 v9_19.lt
          have hs20 : w19.heap.size < w20.heap.size := vn20.lt
          have hfX_20 := hfX_19.trans (ha20.mono hfX_19.size)
          have hgX_20 := hfX_19.size
          have hfY_20 := hf19.trans (ha20.mono hf19.size)
          have hgY_20 := hf19.size
          have hWB : W2.heap.size ≤ w20.heap.size := (hb20).size
          have hne : W2.heap.size ≠ w19.heap.size := by omega
          have hne2 : w19.heap.size ≠ W2.heap.size := by omega
          have hge9 : W2.heap.size ≤ W2.heap.size := by omega
          have hge10 : W2.heap.size ≤ w19.heap.size := by omega
          have fX := boxes_fin #[.int .u16 (idX : Int), .int .u16 (flX : Int), .slice qAX qsX.length qcX, .slice aAX raX.length acX, .slice bAX rbX.length bdX, .slice cAX rcX.length ccX] #[.int .u16 (idY : Int), .int .u16 (flY : Int), .slice qAY qsY.length qcY, .slice aAY raY.length acY, .slice bAY rbY.length bdY, .slice cAY rcY.length ccY] hoX hfX_20 (show W2.heap.size < _ ∨ _ by first | (left; omega) | (right; omega)) (show w19.heap.size < _ ∨ _ by first | (left; omega) | (right; omega))
          have fY := boxes_fin #[.int .u16 (idX : Int), .int .u16 (flX : Int), .slice qAX qsX.length qcX, .slice aAX raX.length acX, .slice bAX rbX.length bdX, .slice cAX rcX.length ccX] #[.int .u16 (idY : Int), .int .u16 (flY : Int), .slice qAY qsY.length qcY, .slice aAY raY.length acY, .slice bAY rbY.length bdY, .slice cAY rcY.length ccY] hoY hfY_20 (show W2.heap.size < _ ∨ _ by first | (left; omega) | (right; omega)) (show w19.heap.size < _ ∨ _ by first | (left; omega) | (right; omega))
          have hO9 := Only.row w20 (W2.heap.size) #[.int .u16 (idX : Int), .int .u16 (flX : Int), .slice qAX qsX.length qcX, .slice aAX raX.length acX, .slice bAX rbX.length bdX, .slice cAX rcX.length ccX]
          have hO10 := Only.row (w20.setRow (W2.heap.size) #[.int .u16 (idX : Int), .int .u16 (flX : Int), .slice qAX qsX.length qcX, .slice aAX raX.length acX, .slice bAX rbX.length bdX, .slice cAX rcX.length ccX]) (w19.heap.size) #[.int .u16 (idY : Int), .int .u16 (flY : Int), .slice qAY qsY.length qcY, .slice aAY raY.length acY, .slice bAY rbY.length bdY, .slice cAY rcY.length ccY]
          have hB9 : Below W2.heap.size W2 (w20.setRow (W2.heap.size) #[.int .u16 (idX : Int), .int .u16 (flX : Int), .slice qAX qsX.length qcX, .slice aAX raX.length acX, .slice bAX rbX.length bdX, .slice cAX rcX.length ccX]) := (hb20).trans (hO9.below hge9 hWB)
          have hB10 : Below W2.heap.size W2 ((w20.setRow (W2.heap.size) #[.int .u16 (idX : Int), .int .u16 (flX : Int), .slice qAX qsX.length qcX, .slice aAX raX.length acX, .slice bAX rbX.length bdX, .slice cAX rcX.length ccX]).setRow (w19.heap.size) #[.int .u16 (idY : Int), .int .u16 (flY : Int), .slice qAY qsY.length qcY, .slice aAY raY.length acY, .slice bAY rbY.length bdY, .slice cAY rcY.length ccY]) := hB9.trans (hO10.below hge10 hB9.size)
          have z9 : Vx ((w20.setRow (W2.heap.size) #[.int .u16 (idX : Int), .int .u16 (flX : Int), .slice qAX qsX.length qcX, .slice aAX raX.length acX, .slice bAX rbX.length bdX, .slice cAX rcX.length ccX]).setRow (w19.heap.size) #[.int .u16 (idY : Int), .int .u16 (flY : Int), .slice qAY qsY.length qcY, .slice aAY raY.length acY, .slice bAY rbY.length bdY, .slice cAY rcY.length ccY]) (W2.heap.size) 77 (MR.cells ⟨idX, flX, qAX, qcX, qsX, aAX, acX, raX, bAX, bdX, rbX, cAX, ccX, rcX⟩) := (v9_20.row (MR.cells ⟨idX, flX, qAX, qcX, qsX, aAX, acX, raX, bAX, bdX, rbX, cAX, ccX, rcX⟩)).rowO hne _
          have z10 : Vx ((w20.setRow (W2.heap.size) #[.int .u16 (idX : Int), .int .u16 (flX : Int), .slice qAX qsX.length qcX, .slice aAX raX.length acX, .slice bAX rbX.length bdX, .slice cAX rcX.length ccX]).setRow (w19.heap.size) #[.int .u16 (idY : Int), .int .u16 (flY : Int), .slice qAY qsY.length qcY, .slice aAY raY.length acY, .slice bAY rbY.length bdY, .slice cAY rcY.length ccY]) (w19.heap.size) 77 (MR.cells ⟨idY, flY, qAY, qcY, qsY, aAY, acY, raY, bAY, bdY, rbY, cAY, ccY, rcY⟩) := (vn20.rowO hne2 _).row (MR.cells ⟨idY, flY, qAY, qcY, qsY, aAY, acY, raY, bAY, bdY, rbY, cAY, ccY, rcY⟩)
          refine wpAnyH_ready (rs := [6]) (by kernel_rfl) (by simp) ?_
          refine reg_cons _ rfl (fun K' hK => ?_) AllReadyH.nil
          rw [if_pos (by rfl)]
          refine wp_store_row 77 _ _ (by rfl) (W2.heap.size) #[.int .u16 (idX : Int), .int .u16 (flX : Int), .slice qAX qsX.length qcX, .slice aAX raX.length acX, .slice bAX rbX.length bdX, .slice cAX rcX.length ccX] (by rfl) (by rfl) _ _ v9_20 (by kernel_rfl) rfl (by kernel_rfl) ?_
          refine hK.out _ _ ⟨V4.out.below hB9 hT4, V5.out.below hB9 hT5⟩ (fun hH => ?_)
          (try simp only [Act.put, List.setIfInBounds_toArray, List.set_cons_zero, List.set_cons_succ])
          clear hK
          refine wpAnyH_ready (rs := [7]) (by kernel_rfl) (by simp) ?_
          refine reg_cons _ rfl (fun K' hK => ?_) AllReadyH.nil
          rw [if_pos (by rfl)]
          refine wp_store_row 77 _ _ (by rfl) (w19.heap.size) #[.int .u16 (idY : Int), .int .u16 (flY : Int), .slice qAY qsY.length qcY, .slice aAY raY.length acY, .slice bAY rbY.length bdY, .slice cAY rcY.length ccY] (by rfl) (by rfl) _ _ (vn20.rowO hne2 _) (by kernel_rfl) rfl (by kernel_rfl) ?_
          refine hK.out _ _ ⟨V4.out.below hB10 hT4, V5.out.below hB10 hT5⟩ (fun hH => ?_)
          (try simp only [Act.put, List.setIfInBounds_toArray, List.set_cons_zero, List.set_cons_succ])
          clear hK
          refine wpAnyH_done (by kernel_rfl) ?_ _
          go_wp2_with fail
          try simp only [Act.put]
          go_meet
          exact ⟨W2.heap.size, w19.heap.size, ⟨idX, flX, qAX, qcX, qsX, aAX, acX, raX, bAX, bdX, rbX, cAX, ccX, rcX⟩, ⟨idY, flY, qAY, qcY, qsY, aAY, acY, raY, bAY, bdY, rbY, cAY, ccY, rcY⟩, rfl, rfl, Lib.hid z9, Lib.hid z10, Lib.hid hmX, Lib.hid hmY, Lib.hid (fX.rdL (HXY.out _ hB10).1 hmX), Lib.hid (fY.rdL (HXY.out _ hB10).2 hmY), Lib.hid hB10⟩
        · go_simp
          generalize hgw21 : World.alloc _ _ = w21
          have ha21' : Below w18.heap.size w18 w21 := by rw [← hgw21]; exact below_new _ _
          have ha21 : Below w18.heap.size w18 w21 := ⟨ha21'.os, ha21'.tape, ha21'.output, ha21'.size, ha21'.block⟩
          have vn21 : Vx w21 w18.heap.size 77 zM6 := by
            have h0 : Vx w21 w18.heap.size 77 zM6 := by rw [← hgw21]; exact Vx.new w18 _ _
            exact h0
          clear hgw21
          have hb21 : Below W2.heap.size W2 w21 := (hb18).trans (ha21.mono (hb18).size)
          refine hK.out _ _ ⟨V4.out.below hb21 hT4, V5.out.below hb21 hT5⟩ (fun hH => ?_)
          (try simp only [Act.put, List.setIfInBounds_toArray, List.set_cons_zero, List.set_cons_succ])
          clear hK
          have v9_21 := v9_18.below ha21 v9_18.lt
          have hs21 : w18.heap.size < w21.heap.size := vn21.lt
          have hfX_21 := hf18.trans (ha21.mono hf18.size)
          have hgX_21 := hf18.size
          refine wpAnyH_ready (rs := [3]) (by kernel_rfl) (by simp) ?_
          refine reg_cons _ rfl (fun K' hK => ?_) AllReadyH.nil
          go_simp
          go_at_call 38
          refine (turned_at y w21 (HXY.out _ hb21).2 cy).mono ?_
          rintro e w22 ⟨⟨idY, flY, qAY, qcY, qsY, aAY, acY, raY, bAY, bdY, rbY, cAY, ccY, rcY⟩, hmY, rfl, hoY, hb22'⟩
          unfold MR.cells
          dsimp only
          have hb22 : Below W2.heap.size W2 w22 := (hb21).trans (hb22'.mono (hb21).size)
          refine hK.out _ _ ⟨V4.out.below hb22 hT4, V5.out.below hb22 hT5⟩ (fun hH => ?_)
          (try simp only [Act.put, List.setIfInBounds_toArray, List.set_cons_zero, List.set_cons_succ])
          clear hK
          have hs22 : w21.heap.size ≤ w22.heap.size := hb22'.size
          have hoY : MOwF w22 w21.heap.size ⟨idY, flY, qAY, qcY, qsY, aAY, acY, raY, bAY, bdY, rbY, cAY, ccY, rcY⟩ := hoY
          have hf22 := Below.refl w22.heap.size w22
          have v9_22 := v9_21.below hb22' v9_21.lt
          have v10_22 := vn21.below hb22' vn21.lt
          have hfX_22 := hfX_21.trans (hb22'.mono hfX_21.size)
          have hWB : W2.heap.size ≤ w22.heap.size := (hb22).size
          have hne : W2.heap.size ≠ w18.heap.size := by omega
          have hne2 : w18.heap.size ≠ W2.heap.size := by omega
          have hge9 : W2.heap.size ≤ W2.heap.size := by omega
          have hge10 : W2.heap.size ≤ w18.heap.size := by omega
          have fX := boxes_fin #[.int .u16 (idX : Int), .int .u16 (flX : Int), .slice qAX qsX.length qcX, .slice aAX raX.length acX, .slice bAX rbX.length bdX, .slice cAX rcX.length ccX] #[.int .u16 (idY : Int), .int .u16 (flY : Int), .slice qAY qsY.length qcY, .slice aAY raY.length acY, .slice bAY rbY.length bdY, .slice cAY rcY.length ccY] hoX hfX_22 (show W2.heap.size < _ ∨ _ by first | (left; omega) | (right; omega)) (show w18.heap.size < _ ∨ _ by first | (left; omega) | (right; omega))
          have fY := boxes_fin #[.int .u16 (idX : Int), .int .u16 (flX : Int), .slice qAX qsX.length qcX, .slice aAX raX.length acX, .slice bAX rbX.length bdX, .slice cAX rcX.length ccX] #[.int .u16 (idY : Int), .int .u16 (flY : Int), .slice qAY qsY.length qcY, .slice aAY raY.length acY, .slice bAY rbY.length bdY, .slice cAY rcY.length ccY] hoY hf22 (show W2.heap.size < _ ∨ _ by first | (left; omega) | (right; omega)) (show w18.heap.size < _ ∨ _ by first | (left; omega) | (right; omega))
          have hO9 := Only.row w22 (W2.heap.size) #[.int .u16 (idX : Int), .int .u16 (flX : Int), .slice qAX qsX.length qcX, .slice aAX raX.length acX, .slice bAX rbX.length bdX, .slice cAX rcX.length ccX]
          have hO10 := Only.row (w22.setRow (W2.heap.size) #[.int .u16 (idX : Int), .int .u16 (flX : Int), .slice qAX qsX.length qcX, .slice aAX raX.length acX, .slice bAX rbX.length bdX, .slice cAX rcX.length ccX]) (w18.heap.size) #[.int .u16 (idY : Int), .int .u16 (flY : Int), .slice qAY qsY.length qcY, .slice aAY raY.length acY, .slice bAY rbY.length bdY, .slice cAY rcY.length ccY]
          have hB9 : Below W2.heap.size W2 (w22.setRow (W2.heap.size) #[.int .u16 (idX : Int), .int .u16 (flX : Int), .slice qAX qsX.length qcX, .slice aAX raX.length acX, .slice bAX rbX.length bdX, .slice cAX rcX.length ccX]) := (hb22).trans (hO9.below hge9 hWB)
          have hB10 : Below W2.heap.size W2 ((w22.setRow (W2.heap.size) #[.int .u16 (idX : Int), .int .u16 (flX : Int), .slice qAX qsX.length qcX, .slice aAX raX.length acX, .slice bAX rbX.length bdX, .slice cAX rcX.length ccX]).setRow (w18.heap.size) #[.int .u16 (idY : Int), .int .u16 (flY : Int), .slice qAY qsY.length qcY, .slice aAY raY.length acY, .slice bAY rbY.length bdY, .slice cAY rcY.length ccY]) := hB9.trans (hO10.below hge10 hB9.size)
          have z9 : Vx ((w22.setRow (W2.heap.size) #[.int .u16 (idX : Int), .int .u16 (flX : Int), .slice qAX qsX.length qcX, .slice aAX raX.length acX, .slice bAX rbX.length bdX, .slice cAX rcX.length ccX]).setRow (w18.heap.size) #[.int .u16 (idY : Int), .int .u16 (flY : Int), .slice qAY qsY.length qcY, .slice aAY raY.length acY, .slice bAY rbY.length bdY, .slice cAY rcY.length ccY]) (W2.heap.size) 77 (MR.cells ⟨idX, flX, qAX, qcX, qsX, aAX, acX, raX, bAX, bdX, rbX, cAX, ccX, rcX⟩) := (v9_22.row (MR.cells ⟨idX, flX, qAX, qcX, qsX, aAX, acX, raX, bAX, bdX, rbX, cAX, ccX, rcX⟩)).rowO hne _
          have z10 : Vx ((w22.setRow (W2.heap.size) #[.int .u16 (idX : Int), .int .u16 (flX : Int), .slice qAX qsX.length qcX, .slice aAX raX.length acX, .slice bAX rbX.length bdX, .slice cAX rcX.length ccX]).setRow (w18.heap.size) #[.int .u16 (idY : Int), .int .u16 (flY : Int), .slice qAY qsY.length qcY, .slice aAY raY.length acY, .slice bAY rbY.length bdY, .slice cAY rcY.length ccY]) (w18.heap.size) 77 (MR.cells ⟨idY, flY, qAY, qcY, qsY, aAY, acY, raY, bAY, bdY, rbY, cAY, ccY, rcY⟩) := (v10_22.rowO hne2 _).row (MR.cells ⟨idY, flY, qAY, qcY, qsY, aAY, acY, raY, bAY, bdY, rbY, cAY, ccY, rcY⟩)
          refine wpAnyH_ready (rs := [6]) (by kernel_rfl) (by simp) ?_
          refine reg_cons _ rfl (fun K' hK => ?_) AllReadyH.nil
          rw [if_pos (by rfl)]
          refine wp_store_row 77 _ _ (by rfl) (W2.heap.size) #[.int .u16 (idX : Int), .int .u16 (flX : Int), .slice qAX qsX.length qcX, .slice aAX raX.length acX, .slice bAX rbX.length bdX, .slice cAX rcX.length ccX] (by rfl) (by rfl) _ _ v9_22 (by kernel_rfl) rfl (by kernel_rfl) ?_
          refine hK.out _ _ ⟨V4.out.below hB9 hT4, V5.out.below hB9 hT5⟩ (fun hH => ?_)
          (try simp only [Act.put, List.setIfInBounds_toArray, List.set_cons_zero, List.set_cons_succ])
          clear hK
          refine wpAnyH_ready (rs := [7]) (by kernel_rfl) (by simp) ?_
          refine reg_cons _ rfl (fun K' hK => ?_) AllReadyH.nil
          rw [if_pos (by rfl)]
          refine wp_store_row 77 _ _ (by rfl) (w18.heap.size) #[.int .u16 (idY : Int), .int .u16 (flY : Int), .slice qAY qsY.length qcY, .slice aAY raY.length acY, .slice bAY rbY.length bdY, .slice cAY rcY.length ccY] (by rfl) (by rfl) _ _ (v10_22.rowO hne2 _) (by kernel_rfl) rfl (by kernel_rfl) ?_
          refine hK.out _ _ ⟨V4.out.below hB10 hT4, V5.out.below hB10 hT5⟩ (fun hH => ?_)
          (try simp only [Act.put, List.setIfInBounds_toArray, List.set_cons_zero, List.set_cons_succ])
          clear hK
          refine wpAnyH_done (by kernel_rfl) ?_ _
          go_wp2_with fail
          try simp only [Act.put]
          go_meet
          exact ⟨W2.heap.size, w18.heap.size, ⟨idX, flX, qAX, qcX, qsX, aAX, acX, raX, bAX, bdX, rbX, cAX, ccX, rcX⟩, ⟨idY, flY, qAY, qcY, qsY, aAY, acY, raY, bAY, bdY, rbY, cAY, ccY, rcY⟩, rfl, rfl, Lib.hid z9, Lib.hid z10, Lib.hid hmX, Lib.hid hmY, Lib.hid (fX.rdL (HXY.out _ hB10).1 hmX), Lib.hid (fY.rdL (HXY.out _ hB10).2 hmY), Lib.hid hB10⟩
      · go_simp
        generalize hgw23 : World.alloc _ _ = w23
        have ha23' : Below w17.heap.size w17 w23 := by rw [← hgw23]; exact below_new _ _
        have ha23 : Below w17.drew.heap.size w17.drew w23.drew := ⟨ha23'.os, ha23'.tape, ha23'.output, ha23'.size, ha23'.block⟩
        have vn23 : Vx w23.drew w17.heap.size 77 zM6 := by
          have h0 : Vx w23 w17.heap.size 77 zM6 := by rw [← hgw23]; exact Vx.new w17 _ _
          exact h0
        clear hgw23
        have hb23 : Below W2.heap.size W2 w23.drew := (hb17).trans (ha23.mono (hb17).size)
        refine hK.out _ _ ⟨V4.out.below hb23 hT4, V5.out.below hb23 hT5⟩ (fun hH => ?_)
        (try simp only [Act.put, List.setIfInBounds_toArray, List.set_cons_zero, List.set_cons_succ])
        clear hK
        have v9_23 := vn17.below ha23 vn17.lt
        have hs23 : w17.heap.size < w23.heap.size := vn23.lt
        refine wpAnyH_ready (rs := [1]) (by kernel_rfl) (by simp) ?_
        refine reg_cons _ rfl (fun K' hK => ?_) AllReadyH.nil
        go_simp
        go_at_call 38
        refine (turned_at x w23.drew (HXY.out _ hb23).1 cx).mono ?_
        rintro e w24 ⟨⟨idX, flX, qAX, qcX, qsX, aAX, acX, raX, bAX, bdX, rbX, cAX, ccX, rcX⟩, hmX, rfl, hoX, hb24'⟩
        unfold MR.cells
        dsimp only
        have hb24 : Below W2.heap.size W2 w24 := (hb23).trans (hb24'.mono (hb23).size)
        refine hK.out _ _ ⟨V4.out.below hb24 hT4, V5.out.below hb24 hT5⟩ (fun hH => ?_)
        (try simp only [Act.put, List.setIfInBounds_toArray, List.set_cons_zero, List.set_cons_succ])
        clear hK
        have hs24 : w23.heap.size ≤ w24.heap.size := hb24'.size
        have hoX : MOwF w24 w23.heap.size ⟨idX, flX, qAX, qcX, qsX, aAX, acX, raX, bAX, bdX, rbX, cAX, ccX, rcX⟩ := hoX
        have hf24 := Below.refl w24.heap.size w24
        have v9_24 := v9_23.below hb24' v9_23.lt
        have v10_24 := vn23.below hb24' vn23.lt
        refine wpAnyH_ready (rs := [3]) (by kernel_rfl) (by simp) ?_
        refine reg_cons _ rfl (fun K' hK => ?_) AllReadyH.nil
        go_simp
        go_at_call 38
        refine (turned_at y w24 (HXY.out _ hb24).2 cy).mono ?_
        rintro e w25 ⟨⟨idY, flY, qAY, qcY, qsY, aAY, acY, raY, bAY, bdY, rbY, cAY, ccY, rcY⟩, hmY, rfl, hoY, hb25'⟩
        unfold MR.cells
        dsimp only
        have hb25 : Below W2.heap.size W2 w25 := (hb24).trans (hb25'.mono (hb24).size)
        refine hK.out _ _ ⟨V4.out.below hb25 hT4, V5.out.below hb25 hT5⟩ (fun hH => ?_)
        (try simp only [Act.put, List.setIfInBounds_toArray, List.set_cons_zero, List.set_cons_succ])
        clear hK
        have hs25 : w24.heap.size ≤ w25.heap.size := hb25'.size
        have hoY : MOwF w25 w24.heap.size ⟨idY, flY, qAY, qcY, qsY, aAY, acY, raY, bAY, bdY, rbY, cAY, ccY, rcY⟩ := hoY
        have hf25 := Below.refl w25.heap.size w25
        have v9_25 := v9_24.below hb25' v9_24.lt
        have v10_25 := v10_24.below hb25' v10_24.lt
        have hfX_25 := hf24.trans (hb25'.mono hf24.size)
        have hWB : W2.heap.size ≤ w25.heap.size := (hb25).size
        have hne : W2.heap.size ≠ w17.heap.size := by omega
        have hne2 : w17.heap.size ≠ W2.heap.size := by omega
        have hge9 : W2.heap.size ≤ W2.heap.size := by omega
        have hge10 : W2.heap.size ≤ w17.heap.size := by omega
        have fX := boxes_fin #[.int .u16 (idX : Int), .int .u16 (flX : Int), .slice qAX qsX.length qcX, .slice aAX raX.length acX, .slice bAX rbX.length bdX, .slice cAX rcX.length ccX] #[.int .u16 (idY : Int), .int .u16 (flY : Int), .slice qAY qsY.length qcY, .slice aAY raY.length acY, .slice bAY rbY.length bdY, .slice cAY rcY.length ccY] hoX hfX_25 (show W2.heap.size < _ ∨ _ by first | (left; omega) | (right; omega)) (show w17.heap.size < _ ∨ _ by first | (left; omega) | (right; omega))
        have fY := boxes_fin #[.int .u16 (idX : Int), .int .u16 (flX : Int), .slice qAX qsX.length qcX, .slice aAX raX.length acX, .slice bAX rbX.length bdX, .slice cAX rcX.length ccX] #[.int .u16 (idY : Int), .int .u16 (flY : Int), .slice qAY qsY.length qcY, .slice aAY raY.length acY, .slice bAY rbY.length bdY, .slice cAY rcY.length ccY] hoY hf25 (show W2.heap.size < _ ∨ _ by first | (left; omega) | (right; omega)) (show w17.heap.size < _ ∨ _ by first | (left; omega) | (right; omega))
        have hO9 := Only.row w25 (W2.heap.size) #[.int .u16 (idX : Int), .int .u16 (flX : Int), .slice qAX qsX.length qcX, .slice aAX raX.length acX, .slice bAX rbX.length bdX, .slice cAX rcX.length ccX]
        have hO10 := Only.row (w25.setRow (W2.heap.size) #[.int .u16 (idX : Int), .int .u16 (flX : Int), .slice qAX qsX.length qcX, .slice aAX raX.length acX, .slice bAX rbX.length bdX, .slice cAX rcX.length ccX]) (w17.heap.size) #[.int .u16 (idY : Int), .int .u16 (flY : Int), .slice qAY qsY.length qcY, .slice aAY raY.length acY, .slice bAY rbY.length bdY, .slice cAY rcY.length ccY]
        have hB9 : Below W2.heap.size W2 (w25.setRow (W2.heap.size) #[.int .u16 (idX : Int), .int .u16 (flX : Int), .slice qAX qsX.length qcX, .slice aAX raX.length acX, .slice bAX rbX.length bdX, .slice cAX rcX.length ccX]) := (hb25).trans (hO9.below hge9 hWB)
        have hB10 : Below W2.heap.size W2 ((w25.setRow (W2.heap.size) #[.int .u16 (idX : Int), .int .u16 (flX : Int), .slice qAX qsX.length qcX, .slice aAX raX.length acX, .slice bAX rbX.length bdX, .slice cAX rcX.length ccX]).setRow (w17.heap.size) #[.int .u16 (idY : Int), .int .u16 (flY : Int), .slice qAY qsY.length qcY, .slice aAY raY.length acY, .slice bAY rbY.length bdY, .slice cAY rcY.length ccY]) := hB9.trans (hO10.below hge10 hB9.size)
        have z9 : Vx ((w25.setRow (W2.heap.size) #[.int .u16 (idX : Int), .int .u16 (flX : Int), .slice qAX qsX.length qcX, .slice aAX raX.length acX, .slice bAX rbX.length bdX, .slice cAX rcX.length ccX]).setRow (w17.heap.size) #[.int .u16 (idY : Int), .int .u16 (flY : Int), .slice qAY qsY.length qcY, .slice aAY raY.length acY, .slice bAY rbY.length bdY, .slice cAY rcY.length ccY]) (W2.heap.size) 77 (MR.cells ⟨idX, flX, qAX, qcX, qsX, aAX, acX, raX, bAX, bdX, rbX, cAX, ccX, rcX⟩) := (v9_25.row (MR.cells ⟨idX, flX, qAX, qcX, qsX, aAX, acX, raX, bAX, bdX, rbX, cAX, ccX, rcX⟩)).rowO hne _
        have z10 : Vx ((w25.setRow (W2.heap.size) #[.int .u16 (idX : Int), .int .u16 (flX : Int), .slice qAX qsX.length qcX, .slice aAX raX.length acX, .slice bAX rbX.length bdX, .slice cAX rcX.length ccX]).setRow (w17.heap.size) #[.int .u16 (idY : Int), .int .u16 (flY : Int), .slice qAY qsY.length qcY, .slice aAY raY.length acY, .slice bAY rbY.length bdY, .slice cAY rcY.length ccY]) (w17.heap.size) 77 (MR.cells ⟨idY, flY, qAY, qcY, qsY, aAY, acY, raY, bAY, bdY, rbY, cAY, ccY, rcY⟩) := (v10_25.rowO hne2 _).row (MR.cells ⟨idY, flY, qAY, qcY, qsY, aAY, acY, raY, bAY, bdY, rbY, cAY, ccY, rcY⟩)
        refine wpAnyH_ready (rs := [6]) (by kernel_rfl) (by simp) ?_
        refine reg_cons _ rfl (fun K' hK => ?_) AllReadyH.nil
        rw [if_pos (by rfl)]
        refine wp_store_row 77 _ _ (by rfl) (W2.heap.size) #[.int .u16 (idX : Int), .int .u16 (flX : Int), .slice qAX qsX.length qcX, .slice aAX raX.length acX, .slice bAX rbX.length bdX, .slice cAX rcX.length ccX] (by rfl) (by rfl) _ _ v9_25 (by kernel_rfl) rfl (by kernel_rfl) ?_
        refine hK.out _ _ ⟨V4.out.below hB9 hT4, V5.out.below hB9 hT5⟩ (fun hH => ?_)
        (try simp only [Act.put, List.setIfInBounds_toArray, List.set_cons_zero, List.set_cons_succ])
        clear hK
        refine wpAnyH_ready (rs := [7]) (by kernel_rfl) (by simp) ?_
        refine reg_cons _ rfl (fun K' hK => ?_) AllReadyH.nil
        rw [if_pos (by rfl)]
        refine wp_store_row 77 _ _ (by rfl) (w17.heap.size) #[.int .u16 (idY : Int), .int .u16 (flY : Int), .slice qAY qsY.length qcY, .slice aAY raY.length acY, .slice bAY rbY.length bdY, .slice cAY rcY.length ccY] (by rfl) (by rfl) _ _ (v10_25.rowO hne2 _) (by kernel_rfl) rfl (by kernel_rfl) ?_
        refine hK.out _ _ ⟨V4.out.below hB10 hT4, V5.out.below hB10 hT5⟩ (fun hH => ?_)
        (try simp only [Act.put, List.setIfInBounds_toArray, List.set_cons_zero, List.set_cons_succ])
        clear hK
        refine wpAnyH_done (by kernel_rfl) ?_ _
        go_wp2_with fail
        try simp only [Act.put]
        go_meet
        exact ⟨W2.heap.size, w17.heap.size, ⟨idX, flX, qAX, qcX, qsX, aAX, acX, raX, bAX, bdX, rbX, cAX, ccX, rcX⟩, ⟨idY, flY, qAY, qcY, qsY, aAY, acY, raY, bAY, bdY, rbY, cAY, ccY, rcY⟩, rfl, rfl, Lib.hid z9, Lib.hid z10, Lib.hid hmX, Lib.hid hmY, Lib.hid (fX.rdL (HXY.out _ hB10).1 hmX), Lib.hid (fY.rdL (HXY.out _ hB10).2 hmY), Lib.hid hB10⟩
    · go_simp
      generalize hgw26 : World.alloc _ _ = w26
      have ha26' : Below W2.heap.size W2 w26 := by rw [← hgw26]; exact below_new _ _
      have ha26 : Below W2.drew.heap.size W2.drew w26.drew := ⟨ha26'.os, ha26'.tape, ha26'.output, ha26'.size, ha26'.block⟩
      have vn26 : Vx w26.drew W2.heap.size 77 zM6 := by
        have h0 : Vx w26 W2.heap.size 77 zM6 := by rw [← hgw26]; exact Vx.new W2 _ _
        exact h0
      clear hgw26
      have hb26 : Below W2.heap.size W2 w26.drew := ((Below.refl W2.heap.size W2).drew).trans (ha26.mono ((Below.refl W2.heap.size W2).drew).size)
      refine hK.out _ _ ⟨V4.out.below hb26 hT4, V5.out.below hb26 hT5⟩ (fun hH => ?_)
      (try simp only [Act.put, List.setIfInBounds_toArray, List.set_cons_zero, List.set_cons_succ])
      clear hK
      have hs26 : W2.heap.size < w26.heap.size := vn26.lt
      refine wpAnyH_ready (rs := [1, 4]) (by kernel_rfl) (by simp) ?_
      refine reg_cons _ rfl (fun K' hK => ?_) (reg_cons _ rfl (fun K' hK => ?_) AllReadyH.nil)
      · go_simp
        go_at_call 38
        refine (turned_at x w26.drew (HXY.out _ hb26).1 cx).mono ?_
        rintro e w27 ⟨⟨idX, flX, qAX, qcX, qsX, aAX, acX, raX, bAX, bdX, rbX, cAX, ccX, rcX⟩, hmX, rfl, hoX, hb27'⟩
        unfold MR.cells
        dsimp only
        have hb27 : Below W2.heap.size W2 w27 := (hb26).trans (hb27'.mono (hb26).size)
        refine hK.out _ _ ⟨V4.out.below hb27 hT4, V5.out.below hb27 hT5⟩ (fun hH => ?_)
        (try simp only [Act.put, List.setIfInBounds_toArray, List.set_cons_zero, List.set_cons_succ])
        clear hK
        have hs27 : w26.heap.size ≤ w27.heap.size := hb27'.size
        have hoX : MOwF w27 w26.heap.size ⟨idX, flX, qAX, qcX, qsX, aAX, acX, raX, bAX, bdX, rbX, cAX, ccX, rcX⟩ := hoX
        have hf27 := Below.refl w27.heap.size w27
        have v10_27 := vn26.below hb27' vn26.lt
        refine wpAnyH_ready (rs := [3, 4]) (by kernel_rfl) (by simp) ?_
        refine reg_cons _ rfl (fun K' hK => ?_) (reg_cons _ rfl (fun K' hK => ?_) AllReadyH.nil)
        · go_simp
          go_at_call 38
          refine (turned_at y w27 (HXY.out _ hb27).2 cy).mono ?_
          rintro e w28 ⟨⟨idY, flY, qAY, qcY, qsY, aAY, acY, raY, bAY, bdY, rbY, cAY, ccY, rcY⟩, hmY, rfl, hoY, hb28'⟩
          unfold MR.cells
          dsimp only
          have hb28 : Below W2.heap.size W2 w28 := (hb27).trans (hb28'.mono (hb27).size)
          refine hK.out _ _ ⟨V4.out.below hb28 hT4, V5.out.below hb28 hT5⟩ (fun hH => ?_)
          (try simp only [Act.put, List.setIfInBounds_toArray, List.set_cons_zero, List.set_cons_succ])
          clear hK
          have hs28 : w27.heap.size ≤ w28.heap.size := hb28'.size
          have hoY : MOwF w28 w27.heap.size ⟨idY, flY, qAY, qcY, qsY, aAY, acY, raY, bAY, bdY, rbY, cAY, ccY, rcY⟩ := hoY
          have hf28 := Below.refl w28.heap.size w28
          have v10_28 := v10_27.below hb28' v10_27.lt
          have hfX_28 := hf27.trans (hb28'.mono hf27.size)
          refine wpAnyH_ready (rs := [4]) (by kernel_rfl) (by simp) ?_
          refine reg_cons _ rfl (fun K' hK => ?_) AllReadyH.nil
          go_simp
          generalize hgw29 : World.alloc _ _ = w29
          have ha29' : Below w28.heap.size w28 w29 := by rw [← hgw29]; exact below_new _ _
          have ha29 : Below w28.heap.size w28 w29 := ⟨ha29'.os, ha29'.tape, ha29'.output, ha29'.size, ha29'.block⟩
          have vn29 : Vx w29 w28.heap.size 77 zM6 := by
            have h0 : Vx w29 w28.heap.size 77 zM6 := by rw [← hgw29]; exact Vx.new w28 _ _
            exact h0
          clear hgw29
          have hb29 : Below W2.heap.size W2 w29 := (hb28).trans (ha29.mono (hb28).size)
          refine hK.out _ _ ⟨V4.out.below hb29 hT4, V5.out.below hb29 hT5⟩ (fun hH => ?_)
          (try simp only [Act.put, List.setIfInBounds_toArray, List.set_cons_zero, List.set_cons_succ])
          clear hK
          have v10_29 := v10_28.below ha29 v10_28.lt
          have hs29 : w28.heap.size < w29.heap.size := vn29.lt
          have hfX_29 := hfX_28.trans (ha29.mono hfX_28.size)
          have hgX_29 := hfX_28.size
          have hfY_29 := hf28.trans (ha29.mono hf28.size)
          have hgY_29 := hf28.size
          have hWB : W2.heap.size ≤ w29.heap.size := (hb29).size
          have hne : w28.heap.size ≠ W2.heap.size := by omega
          have hne2 : W2.heap.size ≠ w28.heap.size := by omega
          have hge9 : W2.heap.size ≤ w28.heap.size := by omega
          have hge10 : W2.heap.size ≤ W2.heap.size := by omega
          have fX := boxes_fin #[.int .u16 (idX : Int), .int .u16 (flX : Int), .slice qAX qsX.length qcX, .slice aAX raX.length acX, .slice bAX rbX.length bdX, .slice cAX rcX.length ccX] #[.int .u16 (idY : Int), .int .u16 (flY : Int), .slice qAY qsY.length qcY, .slice aAY raY.length acY, .slice bAY rbY.length bdY, .slice cAY rcY.length ccY] hoX hfX_29 (show w28.heap.size < _ ∨ _ by first | (left; omega) | (right; omega)) (show W2.heap.size < _ ∨ _ by first | (left; omega) | (right; omega))
          have fY := boxes_fin #[.int .u16 (idX : Int), .int .u16 (flX : Int), .slice qAX qsX.length qcX, .slice aAX raX.length acX, .slice bAX rbX.length bdX, .slice cAX rcX.length ccX] #[.int .u16 (idY : Int), .int .u16 (flY : Int), .slice qAY qsY.length qcY, .slice aAY raY.length acY, .slice bAY rbY.length bdY, .slice cAY rcY.length ccY] hoY hfY_29 (show w28.heap.size < _ ∨ _ by first | (left; omega) | (right; omega)) (show W2.heap.size < _ ∨ _ by first | (left; omega) | (right; omega))
          have hO9 := Only.row w29 (w28.heap.size) #[.int .u16 (idX : Int), .int .u16 (flX : Int), .slice qAX qsX.length qcX, .slice aAX raX.length acX, .slice bAX rbX.length bdX, .slice cAX rcX.length ccX]
          have hO10 := Only.row (w29.setRow (w28.heap.size) #[.int .u16 (idX : Int), .int .u16 (flX : Int), .slice qAX qsX.length qcX, .slice aAX raX.length acX, .slice bAX rbX.length bdX, .slice cAX rcX.length ccX]) (W2.heap.size) #[.int .u16 (idY : Int), .int .u16 (flY : Int), .slice qAY qsY.length qcY, .slice aAY raY.length acY, .slice bAY rbY.length bdY, .slice cAY rcY.length ccY]
          have hB9 : Below W2.heap.size W2 (w29.setRow (w28.heap.size) #[.int .u16 (idX : Int), .int .u16 (flX : Int), .slice qAX qsX.length qcX, .slice aAX raX.length acX, .slice bAX rbX.length bdX, .slice cAX rcX.length ccX]) := (hb29).trans (hO9.below hge9 hWB)
          have hB10 : Below W2.heap.size W2 ((w29.setRow (w28.heap.size) #[.int .u16 (idX : Int), .int .u16 (flX : Int), .slice qAX qsX.length qcX, .slice aAX raX.length acX, .slice bAX rbX.length bdX, .slice cAX rcX.length ccX]).setRow (W2.heap.size) #[.int .u16 (idY : Int), .int .u16 (flY : Int), .slice qAY qsY.length qcY, .slice aAY raY.length acY, .slice bAY rbY.length bdY, .slice cAY rcY.length ccY]) := hB9.trans (hO10.below hge10 hB9.size)
          have z9 : Vx ((w29.setRow (w28.heap.size) #[.int .u16 (idX : Int), .int .u16 (flX : Int), .slice qAX qsX.length qcX, .slice aAX raX.length acX, .slice bAX rbX.length bdX, .slice cAX rcX.length ccX]).setRow (W2.heap.size) #[.int .u16 (idY : Int), .int .u16 (flY : Int), .slice qAY qsY.length qcY, .slice aAY raY.length acY, .slice bAY rbY.length bdY, .slice cAY rcY.length ccY]) (w28.heap.size) 77 (MR.cells ⟨idX, flX, qAX, qcX, qsX, aAX, acX, raX, bAX, bdX, rbX, cAX, ccX, rcX⟩) := (vn29.row (MR.cells ⟨idX, flX, qAX, qcX, qsX, aAX, acX, raX, bAX, bdX, rbX, cAX, ccX, rcX⟩)).rowO hne _
          have z10 : Vx ((w29.setRow (w28.heap.size) #[.int .u16 (idX : Int), .int .u16 (flX : Int), .slice qAX qsX.length qcX, .slice aAX raX.length acX, .slice bAX rbX.length bdX, .slice cAX rcX.length ccX]).setRow (W2.heap.size) #[.int .u16 (idY : Int), .int .u16 (flY : Int), .slice qAY qsY.length qcY, .slice aAY raY.length acY, .slice bAY rbY.length bdY, .slice cAY rcY.length ccY]) (W2.heap.size) 77 (MR.cells ⟨idY, flY, qAY, qcY, qsY, aAY, acY, raY, bAY, bdY, rbY, cAY, ccY, rcY⟩) := (v10_29.rowO hne2 _).row (MR.cells ⟨idY, flY, qAY, qcY, qsY, aAY, acY, raY, bAY, bdY, rbY, cAY, ccY, rcY⟩)
          refine wpAnyH_ready (rs := [6]) (by kernel_rfl) (by simp) ?_
          refine reg_cons _ rfl (fun K' hK => ?_) AllReadyH.nil
          rw [if_pos (by rfl)]
          refine wp_store_row 77 _ _ (by rfl) (w28.heap.size) #[.int .u16 (idX : Int), .int .u16 (flX : Int), .slice qAX qsX.length qcX, .slice aAX raX.length acX, .slice bAX rbX.length bdX, .slice cAX rcX.length ccX] (by rfl) (by rfl) _ _ vn29 (by kernel_rfl) rfl (by kernel_rfl) ?_
          refine hK.out _ _ ⟨V4.out.below hB9 hT4, V5.out.below hB9 hT5⟩ (fun hH => ?_)
          (try simp only [Act.put, List.setIfInBounds_toArray, List.set_cons_zero, List.set_cons_succ])
          clear hK
          refine wpAnyH_ready (rs := [7]) (by kernel_rfl) (by simp) ?_
          refine reg_cons _ rfl (fun K' hK => ?_) AllReadyH.nil
          rw [if_pos (by rfl)]
          refine wp_store_row 77 _ _ (by rfl) (W2.heap.size) #[.int .u16 (idY : Int), .int .u16 (flY : Int), .slice qAY qsY.length qcY, .slice aAY raY.length acY, .slice bAY rbY.length bdY, .slice cAY rcY.length ccY] (by rfl) (by rfl) _ _ (v10_29.rowO hne2 _) (by kernel_rfl) rfl (by kernel_rfl) ?_
          refine hK.out _ _ ⟨V4.out.below hB10 hT4, V5.out.below hB10 hT5⟩ (fun hH => ?_)
          (try simp only [Act.put, List.setIfInBounds_toArray, List.set_cons_zero, List.set_cons_succ])
          clear hK
          refine wpAnyH_done (by kernel_rfl) ?_ _
          go_wp2_with fail
          try simp only [Act.put]
          go_meet
          exact ⟨w28.heap.size, W2.heap.size, ⟨idX, flX, qAX, qcX, qsX, aAX, acX, raX, bAX, bdX, rbX, cAX, ccX, rcX⟩, ⟨idY, flY, qAY, qcY, qsY, aAY, acY, raY, bAY, bdY, rbY, cAY, ccY, rcY⟩, rfl, rfl, Lib.hid z9, Lib.hid z10, Lib.hid hmX, Lib.hid hmY, Lib.hid (fX.rdL (HXY.out _ hB10).1 hmX), Lib.hid (fY.rdL (HXY.out _ hB10).2 hmY), Lib.hid hB10⟩
        · go_simp
          generalize hgw30 : World.alloc _ _ = w30
          have ha30' : Below w27.heap.size w27 w30 := by rw [← hgw30]; exact below_new _ _
          have ha30 : Below w27.heap.size w27 w30 := ⟨ha30'.os, ha30'.tape, ha30'.output, ha30'.size, ha30'.block⟩
          have vn30 : Vx w30 w27.heap.size 77 zM6 := by
            have h0 : Vx w30 w27.heap.size 77 zM6 := by rw [← hgw30]; exact Vx.new w27 _ _
            exact h0
          clear hgw30
          have hb30 : Below W2.heap.size W2 w30 := (hb27).trans (ha30.mono (hb27).size)
          refine hK.out _ _ ⟨V4.out.below hb30 hT4, V5.out.below hb30 hT5⟩ (fun hH => ?_)
          (try simp only [Act.put, List.setIfInBounds_toArray, List.set_cons_zero, List.set_cons_succ])
          clear hK
          have v10_30 := v10_27.below ha30 v10_27.lt
          have hs30 : w27.heap.size < w30.heap.size := vn30.lt
          have hfX_30 := hf27.trans (ha30.mono hf27.size)
          have hgX_30 := hf27.size
          refine wpAnyH_ready (rs := [3]) (by kernel_rfl) (by simp) ?_
          refine reg_cons _ rfl (fun K' hK => ?_) AllReadyH.nil
          go_simp
          go_at_call 38
          refine (turned_at y w30 (HXY.out _ hb30).2 cy).mono ?_
          rintro e w31 ⟨⟨idY, flY, qAY, qcY, qsY, aAY, acY, raY, bAY, bdY, rbY, cAY, ccY, rcY⟩, hmY, rfl, hoY, hb31'⟩
          unfold MR.cells
          dsimp only
          have hb31 : Below W2.heap.size W2 w31 := (hb30).trans (hb31'.mono (hb30).size)
          refine hK.out _ _ ⟨V4.out.below hb31 hT4, V5.out.below hb31 hT5⟩ (fun hH => ?_)
          (try simp only [Act.put, List.setIfInBounds_toArray, List.set_cons_zero, List.set_cons_succ])
          clear hK
          have hs31 : w30.heap.size ≤ w31.heap.size := hb31'.size
          have hoY : MOwF w31 w30.heap.size ⟨idY, flY, qAY, qcY, qsY, aAY, acY, raY, bAY, bdY, rbY, cAY, ccY, rcY⟩ := hoY
          have hf31 := Below.refl w31.heap.size w31
          have v9_31 := vn30.below hb31' vn30.lt
          have v10_31 := v10_30.below hb31' v10_30.lt
          have hfX_31 := hfX_30.trans (hb31'.mono hfX_30.size)
          have hWB : W2.heap.size ≤ w31.heap.size := (hb31).size
          have hne : w27.heap.size ≠ W2.heap.size := by omega
          have hne2 : W2.heap.size ≠ w27.heap.size := by omega
          have hge9 : W2.heap.size ≤ w27.heap.size := by omega
          have hge10 : W2.heap.size ≤ W2.heap.size := by omega
          have fX := boxes_fin #[.int .u16 (idX : Int), .int .u16 (flX : Int), .slice qAX qsX.length qcX, .slice aAX raX.length acX, .slice bAX rbX.length bdX, .slice cAX rcX.length ccX] #[.int .u16 (idY : Int), .int .u16 (flY : Int), .slice qAY qsY.length qcY, .slice aAY raY.length acY, .slice bAY rbY.length bdY, .slice cAY rcY.length ccY] hoX hfX_31 (show w27.heap.size < _ ∨ _ by first | (left; omega) | (right; omega)) (show W2.heap.size < _ ∨ _ by first | (left; omega) | (right; omega))
          have fY := boxes_fin #[.int .u16 (idX : Int), .int .u16 (flX : Int), .slice qAX qsX.length qcX, .slice aAX raX.length acX, .slice bAX rbX.length bdX, .slice cAX rcX.length ccX] #[.int .u16 (idY : Int), .int .u16 (flY : Int), .slice qAY qsY.length qcY, .slice aAY raY.length acY, .slice bAY rbY.length bdY, .slice cAY rcY.length ccY] hoY hf31 (show w27.heap.size < _ ∨ _ by first | (left; omega) | (right; omega)) (show W2.heap.size < _ ∨ _ by first | (left; omega) | (right; omega))
          have hO9 := Only.row w31 (w27.heap.size) #[.int .u16 (idX : Int), .int .u16 (flX : Int), .slice qAX qsX.length qcX, .slice aAX raX.length acX, .slice bAX rbX.length bdX, .slice cAX rcX.length ccX]
          have hO10 := Only.row (w31.setRow (w27.heap.size) #[.int .u16 (idX : Int), .int .u16 (flX : Int), .slice qAX qsX.length qcX, .slice aAX raX.length acX, .slice bAX rbX.length bdX, .slice cAX rcX.length ccX]) (W2.heap.size) #[.int .u16 (idY : Int), .int .u16 (flY : Int), .slice qAY qsY.length qcY, .slice aAY raY.length acY, .slice bAY rbY.length bdY, .slice cAY rcY.length ccY]
          have hB9 : Below W2.heap.size W2 (w31.setRow (w27.heap.size) #[.int .u16 (idX : Int), .int .u16 (flX : Int), .slice qAX qsX.length qcX, .slice aAX raX.length acX, .slice bAX rbX.length bdX, .slice cAX rcX.length ccX]) := (hb31).trans (hO9.below hge9 hWB)
          have hB10 : Below W2.heap.size W2 ((w31.setRow (w27.heap.size) #[.int .u16 (idX : Int), .int .u16 (flX : Int), .slice qAX qsX.length qcX, .slice aAX raX.length acX, .slice bAX rbX.length bdX, .slice cAX rcX.length ccX]).setRow (W2.heap.size) #[.int .u16 (idY : Int), .int .u16 (flY : Int), .slice qAY qsY.length qcY, .slice aAY raY.length acY, .slice bAY rbY.length bdY, .slice cAY rcY.length ccY]) := hB9.trans (hO10.below hge10 hB9.size)
          have z9 : Vx ((w31.setRow (w27.heap.size) #[.int .u16 (idX : Int), .int .u16 (flX : Int), .slice qAX qsX.length qcX, .slice aAX raX.length acX, .slice bAX rbX.length bdX, .slice cAX rcX.length ccX]).setRow (W2.heap.size) #[.int .u16 (idY : Int), .int .u16 (flY : Int), .slice qAY qsY.length qcY, .slice aAY raY.length acY, .slice bAY rbY.length bdY, .slice cAY rcY.length ccY]) (w27.heap.size) 77 (MR.cells ⟨idX, flX, qAX, qcX, qsX, aAX, acX, raX, bAX, bdX, rbX, cAX, ccX, rcX⟩) := (v9_31.row (MR.cells ⟨idX, flX, qAX, qcX, qsX, aAX, acX, raX, bAX, bdX, rbX, cAX, ccX, rcX⟩)).rowO hne _
          have z10 : Vx ((w31.setRow (w27.heap.size) #[.int .u16 (idX : Int), .int .u16 (flX : Int), .slice qAX qsX.length qcX, .slice aAX raX.length acX, .slice bAX rbX.length bdX, .slice cAX rcX.length ccX]).setRow (W2.heap.size) #[.int .u16 (idY : Int), .int .u16 (flY : Int), .slice qAY qsY.length qcY, .slice aAY raY.length acY, .slice bAY rbY.length bdY, .slice cAY rcY.length ccY]) (W2.heap.size) 77 (MR.cells ⟨idY, flY, qAY, qcY, qsY, aAY, acY, raY, bAY, bdY, rbY, cAY, ccY, rcY⟩) := (v10_31.rowO hne2 _).row (MR.cells ⟨idY, flY, qAY, qcY, qsY, aAY, acY, raY, bAY, bdY, rbY, cAY, ccY, rcY⟩)
          refine wpAnyH_ready (rs := [6]) (by kernel_rfl) (by simp) ?_
          refine reg_cons _ rfl (fun K' hK => ?_) AllReadyH.nil
          rw [if_pos (by rfl)]
          refine wp_store_row 77 _ _ (by rfl) (w27.heap.size) #[.int .u16 (idX : Int), .int .u16 (flX : Int), .slice qAX qsX.length qcX, .slice aAX raX.length acX, .slice bAX rbX.length bdX, .slice cAX rcX.length ccX] (by rfl) (by rfl) _ _ v9_31 (by kernel_rfl) rfl (by kernel_rfl) ?_
          refine hK.out _ _ ⟨V4.out.below hB9 hT4, V5.out.below hB9 hT5⟩ (fun hH => ?_)
          (try simp only [Act.put, List.setIfInBounds_toArray, List.set_cons_zero, List.set_cons_succ])
          clear hK
          refine wpAnyH_ready (rs := [7]) (by kernel_rfl) (by simp) ?_
          refine reg_cons _ rfl (fun K' hK => ?_) AllReadyH.nil
          rw [if_pos (by rfl)]
          refine wp_store_row 77 _ _ (by rfl) (W2.heap.size) #[.int .u16 (idY : Int), .int .u16 (flY : Int), .slice qAY qsY.length qcY, .slice aAY raY.length acY, .slice bAY rbY.length bdY, .slice cAY rcY.length ccY] (by rfl) (by rfl) _ _ (v10_31.rowO hne2 _) (by kernel_rfl) rfl (by kernel_rfl) ?_
          refine hK.out _ _ ⟨V4.out.below hB10 hT4, V5.out.below hB10 hT5⟩ (fun hH => ?_)
          (try simp only [Act.put, List.setIfInBounds_toArray, List.set_cons_zero, List.set_cons_succ])
          clear hK
          refine wpAnyH_done (by kernel_rfl) ?_ _
          go_wp2_with fail
          try simp only [Act.put]
          go_meet
          exact ⟨w27.heap.size, W2.heap.size, ⟨idX, flX, qAX, qcX, qsX, aAX, acX, raX, bAX, bdX, rbX, cAX, ccX, rcX⟩, ⟨idY, flY, qAY, qcY, qsY, aAY, acY, raY, bAY, bdY, rbY, cAY, ccY, rcY⟩, rfl, rfl, Lib.hid z9, Lib.hid z10, Lib.hid hmX, Lib.hid hmY, Lib.hid (fX.rdL (HXY.out _ hB10).1 hmX), Lib.hid (fY.rdL (HXY.out _ hB10).2 hmY), Lib.hid hB10⟩
      · go_simp
        generalize hgw32 : World.alloc _ _ = w32
        have ha32' : Below w26.heap.size w26 w32 := by rw [← hgw32]; exact below_new _ _
        have ha32 : Below w26.drew.heap.size w26.drew w32.drew := ⟨ha32'.os, ha32'.tape, ha32'.output, ha32'.size, ha32'.block⟩
        have vn32 : Vx w32.drew w26.heap.size 77 zM6 := by
          have h0 : Vx w32 w26.heap.size 77 zM6 := by rw [← hgw32]; exact Vx.new w26 _ _
          exact h0
        clear hgw32
        have hb32 : Below W2.heap.size W2 w32.drew := (hb26).trans (ha32.mono (hb26).size)
        refine hK.out _ _ ⟨V4.out.below hb32 hT4, V5.out.below hb32 hT5⟩ (fun hH => ?_)
        (try simp only [Act.put, List.setIfInBounds_toArray, List.set_cons_zero, List.set_cons_succ])
        clear hK
        have v10_32 := vn26.below ha32 vn26.lt
        have hs32 : w26.heap.size < w32.heap.size := vn32.lt
        refine wpAnyH_ready (rs := [1]) (by kernel_rfl) (by simp) ?_
        refine reg_cons _ rfl (fun K' hK => ?_) AllReadyH.nil
        go_simp
        go_at_call 38
        refine (turned_at x w32.drew (HXY.out _ hb32).1 cx).mono ?_
        rintro e w33 ⟨⟨idX, flX, qAX, qcX, qsX, aAX, acX, raX, bAX, bdX, rbX, cAX, ccX, rcX⟩, hmX, rfl, hoX, hb33'⟩
        unfold MR.cells
        dsimp only
        have hb33 : Below W2.heap.size W2 w33 := (hb32).trans (hb33'.mono (hb32).size)
        refine hK.out _ _ ⟨V4.out.below hb33 hT4, V5.out.below hb33 hT5⟩ (fun hH => ?_)
        (try simp only [Act.put, List.setIfInBounds_toArray, List.set_cons_zero, List.set_cons_succ])
        clear hK
        have hs33 : w32.heap.size ≤ w33.heap.size := hb33'.size
        have hoX : MOwF w33 w32.heap.size ⟨idX, flX, qAX, qcX, qsX, aAX, acX, raX, bAX, bdX, rbX, cAX, ccX, rcX⟩ := hoX
        have hf33 := Below.refl w33.heap.size w33
        have v9_33 := vn32.below hb33' vn32.lt
        have v10_33 := v10_32.below hb33' v10_32.lt
        refine wpAnyH_ready (rs := [3]) (by kernel_rfl) (by simp) ?_
        refine reg_cons _ rfl (fun K' hK => ?_) AllReadyH.nil
        go_simp
        go_at_call 38
        refine (turned_at y w33 (HXY.out _ hb33).2 cy).mono ?_
        rintro e w34 ⟨⟨idY, flY, qAY, qcY, qsY, aAY, acY, raY, bAY, bdY, rbY, cAY, ccY, rcY⟩, hmY, rfl, hoY, hb34'⟩
        unfold MR.cells
        dsimp only
        have hb34 : Below W2.heap.size W2 w34 := (hb33).trans (hb34'.mono (hb33).size)
        refine hK.out _ _ ⟨V4.out.below hb34 hT4, V5.out.below hb34 hT5⟩ (fun hH => ?_)
        (try simp only [Act.put, List.setIfInBounds_toArray, List.set_cons_zero, List.set_cons_succ])
        clear hK
        have hs34 : w33.heap.size ≤ w34.heap.size := hb34'.size
        have hoY : MOwF w34 w33.heap.size ⟨idY, flY, qAY, qcY, qsY, aAY, acY, raY, bAY, bdY, rbY, cAY, ccY, rcY⟩ := hoY
        have hf34 := Below.refl w34.heap.size w34
        have v9_34 := v9_33.below hb34' v9_33.lt
        have v10_34 := v10_33.below hb34' v10_33.lt
        have hfX_34 := hf33.trans (hb34'.mono hf33.size)
        have hWB : W2.heap.size ≤ w34.heap.size := (hb34).size
        have hne : w26.heap.size ≠ W2.heap.size := by omega
        have hne2 : W2.heap.size ≠ w26.heap.size := by omega
        have hge9 : W2.heap.size ≤ w26.heap.size := by omega
        have hge10 : W2.heap.size ≤ W2.heap.size := by omega
        have fX := boxes_fin #[.int .u16 (idX : Int), .int .u16 (flX : Int), .slice qAX qsX.length qcX, .slice aAX raX.length acX, .slice bAX rbX.length bdX, .slice cAX rcX.length ccX] #[.int .u16 (idY : Int), .int .u16 (flY : Int), .slice qAY qsY.length qcY, .slice aAY raY.length acY, .slice bAY rbY.length bdY, .slice cAY rcY.length ccY] hoX hfX_34 (show w26.heap.size < _ ∨ _ by first | (left; omega) | (right; omega)) (show W2.heap.size < _ ∨ _ by first | (left; omega) | (right; omega))
        have fY := boxes_fin #[.int .u16 (idX : Int), .int .u16 (flX : Int), .slice qAX qsX.length qcX, .slice aAX raX.length acX, .slice bAX rbX.length bdX, .slice cAX rcX.length ccX] #[.int .u16 (idY : Int), .int .u16 (flY : Int), .slice qAY qsY.length qcY, .slice aAY raY.length acY, .slice bAY rbY.length bdY, .slice cAY rcY.length ccY] hoY hf34 (show w26.heap.size < _ ∨ _ by first | (left; omega) | (right; omega)) (show W2.heap.size < _ ∨ _ by first | (left; omega) | (right; omega))
        have hO9 := Only.row w34 (w26.heap.size) #[.int .u16 (idX : Int), .int .u16 (flX : Int), .slice qAX qsX.length qcX, .slice aAX raX.length acX, .slice bAX rbX.length bdX, .slice cAX rcX.length ccX]
        have hO10 := Only.row (w34.setRow (w26.heap.size) #[.int .u16 (idX : Int), .int .u16 (flX : Int), .slice qAX qsX.length qcX, .slice aAX raX.length acX, .slice bAX rbX.length bdX, .slice cAX rcX.length ccX]) (W2.heap.size) #[.int .u16 (idY : Int), .int .u16 (flY : Int), .slice qAY qsY.length qcY, .slice aAY raY.length acY, .slice bAY rbY.length bdY, .slice cAY rcY.length ccY]
        have hB9 : Below W2.heap.size W2 (w34.setRow (w26.heap.size) #[.int .u16 (idX : Int), .int .u16 (flX : Int), .slice qAX qsX.length qcX, .slice aAX raX.length acX, .slice bAX rbX.length bdX, .slice cAX rcX.length ccX]) := (hb34).trans (hO9.below hge9 hWB)
        have hB10 : Below W2.heap.size W2 ((w34.setRow (w26.heap.size) #[.int .u16 (idX : Int), .int .u16 (flX : Int), .slice qAX qsX.length qcX, .slice aAX raX.length acX, .slice bAX rbX.length bdX, .slice cAX rcX.length ccX]).setRow (W2.heap.size) #[.int .u16 (idY : Int), .int .u16 (flY : Int), .slice qAY qsY.length qcY, .slice aAY raY.length acY, .slice bAY rbY.length bdY, .slice cAY rcY.length ccY]) := hB9.trans (hO10.below hge10 hB9.size)
        have z9 : Vx ((w34.setRow (w26.heap.size) #[.int .u16 (idX : Int), .int .u16 (flX : Int), .slice qAX qsX.length qcX, .slice aAX raX.length acX, .slice bAX rbX.length bdX, .slice cAX rcX.length ccX]).setRow (W2.heap.size) #[.int .u16 (idY : Int), .int .u16 (flY : Int), .slice qAY qsY.length qcY, .slice aAY raY.length acY, .slice bAY rbY.length bdY, .slice cAY rcY.length ccY]) (w26.heap.size) 77 (MR.cells ⟨idX, flX, qAX, qcX, qsX, aAX, acX, raX, bAX, bdX, rbX, cAX, ccX, rcX⟩) := (v9_34.row (MR.cells ⟨idX, flX, qAX, qcX, qsX, aAX, acX, raX, bAX, bdX, rbX, cAX, ccX, rcX⟩)).rowO hne _
        have z10 : Vx ((w34.setRow (w26.heap.size) #[.int .u16 (idX : Int), .int .u16 (flX : Int), .slice qAX qsX.length qcX, .slice aAX raX.length acX, .slice bAX rbX.length bdX, .slice cAX rcX.length ccX]).setRow (W2.heap.size) #[.int .u16 (idY : Int), .int .u16 (flY : Int), .slice qAY qsY.length qcY, .slice aAY raY.length acY, .slice bAY rbY.length bdY, .slice cAY rcY.length ccY]) (W2.heap.size) 77 (MR.cells ⟨idY, flY, qAY, qcY, qsY, aAY, acY, raY, bAY, bdY, rbY, cAY, ccY, rcY⟩) := (v10_34.rowO hne2 _).row (MR.cells ⟨idY, flY, qAY, qcY, qsY, aAY, acY, raY, bAY, bdY, rbY, cAY, ccY, rcY⟩)
        refine wpAnyH_ready (rs := [6]) (by kernel_rfl) (by simp) ?_
        refine reg_cons _ rfl (fun K' hK => ?_) AllReadyH.nil
        rw [if_pos (by rfl)]
        refine wp_store_row 77 _ _ (by rfl) (w26.heap.size) #[.int .u16 (idX : Int), .int .u16 (flX : Int), .slice qAX qsX.length qcX, .slice aAX raX.length acX, .slice bAX rbX.length bdX, .slice cAX rcX.length ccX] (by rfl) (by rfl) _ _ v9_34 (by kernel_rfl) rfl (by kernel_rfl) ?_
        refine hK.out _ _ ⟨V4.out.below hB9 hT4, V5.out.below hB9 hT5⟩ (fun hH => ?_)
        (try simp only [Act.put, List.setIfInBounds_toArray, List.set_cons_zero, List.set_cons_succ])
        clear hK
        refine wpAnyH_ready (rs := [7]) (by kernel_rfl) (by simp) ?_
        refine reg_cons _ rfl (fun K' hK => ?_) AllReadyH.nil
        rw [if_pos (by rfl)]
        refine wp_store_row 77 _ _ (by rfl) (W2.heap.size) #[.int .u16 (idY : Int), .int .u16 (flY : Int), .slice qAY qsY.length qcY, .slice aAY raY.length acY, .slice bAY rbY.length bdY, .slice cAY rcY.length ccY] (by rfl) (by rfl) _ _ (v10_34.rowO hne2 _) (by kernel_rfl) rfl (by kernel_rfl) ?_
        refine hK.out _ _ ⟨V4.out.below hB10 hT4, V5.out.below hB10 hT5⟩ (fun hH => ?_)
        (try simp only [Act.put, List.setIfInBounds_toArray, List.set_cons_zero, List.set_cons_succ])
        clear hK
        refine wpAnyH_done (by kernel_rfl) ?_ _
        go_wp2_with fail
        try simp only [Act.put]
        go_meet
        exact ⟨w26.heap.size, W2.heap.size, ⟨idX, flX, qAX, qcX, qsX, aAX, acX, raX, bAX, bdX, rbX, cAX, ccX, rcX⟩, ⟨idY, flY, qAY, qcY, qsY, aAY, acY, raY, bAY, bdY, rbY, cAY, ccY, rcY⟩, rfl, rfl, Lib.hid z9, Lib.hid z10, Lib.hid hmX, Lib.hid hmY, Lib.hid (fX.rdL (HXY.out _ hB10).1 hmX), Lib.hid (fY.rdL (HXY.out _ hB10).2 hmY), Lib.hid hB10⟩
  case rest =>
    obtain ⟨g9, g10, X, Y, rfl, rfl, V9, V10, HMX, HMY, HXR, HYR, HB⟩ := hcut
    obtain ⟨B1, hB1⟩ : ∃ b, b = (writeM x.m).1 := ⟨_, rfl⟩
    obtain ⟨E1, hE1⟩ : ∃ e, e = (writeM x.m).2 := ⟨_, rfl⟩
    obtain ⟨L1, hL1⟩ : ∃ L, L = B1.length := ⟨_, rfl⟩
    obtain ⟨B2, hB2⟩ : ∃ b, b = (writeM ⟨x.id, 256, [⟨nm, ty, 1⟩], [], [], []⟩).1 := ⟨_, rfl⟩
    obtain ⟨E2, hE2⟩ : ∃ e, e = (writeM ⟨x.id, 256, [⟨nm, ty, 1⟩], [], [], []⟩).2 := ⟨_, rfl⟩
    obtain ⟨L2, hL2⟩ : ∃ L, L = B2.length := ⟨_, rfl⟩
    have HB1 := Lib.hid hB1
    have HE1 := Lib.hid hE1
    have HL1 := Lib.hid hL1.symm
    have HB2 := Lib.hid hB2
    have HE2 := Lib.hid hE2
    have HL2 := Lib.hid hL2.symm
    have hidx := (HX.out).1
    clear hB1 hE1 hL1 hB2 hE2 hL2
    have K2 := Lib.hid (write_at x wc (HXY.out _ HB.out).1)
    rw [← HB1.out, ← HE1.out] at K2
    go_upto_region 6 with (first
      | (refine wpList_load_row rfl 30 _ rfl w.heap.size rfl _ _ _ _ (V4.out.below HB.out hT4) Try.underlying30 rfl (by kernel_rfl) ?_)
      | (refine wpList_load_row rfl 77 _ rfl g9 rfl _ _ _ _ v93 Try.underlying77 rfl (by kernel_rfl) ?_)
      | (go_at_call 57
         have _t := tok4
         refine (fwrite_at ⟨x.id, 256, some ⟨w5.heap.size, 0, none⟩, 1, [⟨A0, c0, ⟨nm, ty, 1⟩⟩], none, 0, [], none, 0, [], none, 0, []⟩ (w5.alloc (.cells #[.slice A0 n0 c0, .int .u16 (ty : Int), .int .u16 1] 111)) hZ).mono ?_
         rintro e w6 ⟨v17, h17, ho17, hb6⟩
         rw [show (MR.m ⟨x.id, 256, some ⟨w5.heap.size, 0, none⟩, 1, [⟨A0, c0, ⟨nm, ty, 1⟩⟩], none, 0, [], none, 0, [], none, 0, []⟩) = ⟨x.id, 256, [⟨nm, ty, 1⟩], [], [], []⟩ from rfl, ← HE2.out] at h17
         rw [show (MR.m ⟨x.id, 256, some ⟨w5.heap.size, 0, none⟩, 1, [⟨A0, c0, ⟨nm, ty, 1⟩⟩], none, 0, [], none, 0, [], none, 0, []⟩) = ⟨x.id, 256, [⟨nm, ty, 1⟩], [], [], []⟩ from rfl, ← HB2.out] at ho17
         subst h17
         obtain ⟨A17, c17, rfl, hc17, hr17⟩ := Ow.form7 ho17 L2 (by rw [bc_length, HL2.out])
         have hbc6 : Below wc.heap.size wc w6 := hbc5.trans (((below_new w5 (.cells #[.slice A0 n0 c0, .int .u16 (ty : Int), .int .u16 1] 111)).trans (hb6.mono (below_new w5 (.cells #[.slice A0 n0 c0, .int .u16 (ty : Int), .int .u16 1] 111)).size)).mono hbc5.size))
      | (go_at_call 57
         refine K3.out.mono ?_
         rintro e w4 ⟨v13, rfl, ho13, hb4⟩
         obtain ⟨A13, c13, rfl, hc13, hr13⟩ := Ow.form7 ho13 L1 (by rw [bc_length, HL1.out])
         have hbc4 := hb3.trans (hb4.mono hb3.size)
         have v4c := (V4.out.below (HB.out.trans (hbc4.mono HB.out.size)) hT4).cell 0
         have v4c' : w4.cell? ⟨w.heap.size, 0, none⟩ = some (.int .u16 (x.id : Int)) := v4c
         clear v4c)
      | (go_at_call 16
         refine K2.out.mono ?_
         rintro e w3 ⟨v11, rfl, ho11, hb3⟩
         obtain ⟨A11, c11, rfl, hc11, hr11⟩ := Ow.form7 ho11 L1 (by rw [bc_length, HL1.out])
         have v93 := V9.out.below hb3 V9.out.lt
         have K3 := Lib.hid (fwrite_at X w3 ((HXR.out.below hb3).more hb3.size))
         rw [HMX.out, ← HB1.out, ← HE1.out] at K3)
      | (go_at_call 18
         refine (query_at x.id ty A0 c0 n0 nm w4 HN0.out ((HNM.out.below (HB01.out.trans ((HB.out.trans (hbc4.mono HB.out.size)).mono HB01.out.size))).more (HB01.out.trans ((HB.out.trans (hbc4.mono HB.out.size)).mono HB01.out.size)).size) hidx hty).mono ?_
         rw [← HB2.out, ← HE2.out]
         rintro e w5 ⟨v15, rfl, ho15, hb5⟩
         have tok4 := True.intro
         obtain ⟨A15, c15, rfl, hc15, hr15⟩ := Ow.form7 ho15 L2 (by rw [bc_length, HL2.out])
         have hbc5 := hbc4.trans (hb5.mono hbc4.size)
         have hb05 := HB01.out.trans ((HB.out.trans (hbc5.mono HB.out.size)).mono HB01.out.size)
         have v4d : w5.cell? ⟨w.heap.size, 0, none⟩ = some (.int .u16 (x.id : Int)) := (V4.out.below (HB.out.trans (hbc5.mono HB.out.size)) hT4).cell 0
         have hZ := qmsg_rd w5 A0 c0 n0 x.id ty nm ((HNM.out.below hb05).more hb05.size) HN0.out hidx hty))
    have hb56 : Below w5.heap.size w5 w6 := (below_new w5 (.cells #[.slice A0 n0 c0, .int .u16 (ty : Int), .int .u16 1] 111)).trans (hb6.mono (below_new w5 (.cells #[.slice A0 n0 c0, .int .u16 (ty : Int), .int .u16 1] 111)).size)
    have hb46 := hb5.trans (hb56.mono hb5.size)
    have hb36 := hb4.trans (hb46.mono hb4.size)
    have hbW6 := HB.out.trans (hbc6.mono HB.out.size)
    have R11 := Lib.hid (hr11.goes hb36)
    have R13 := Lib.hid (hr13.goes hb46)
    have R15 := Lib.hid (hr15.goes hb56)
    have R17 := Lib.hid hr17
    have X6 := Lib.hid (HXY.out _ hbW6)
    have XR6 := Lib.hid ((HXR.out.below hbc6).more hbc6.size)
    have YR6 := Lib.hid ((HYR.out.below hbc6).more hbc6.size)
    have V46 := Lib.hid (V4.out.below hbW6 hT4)
    have V56 := Lib.hid (V5.out.below hbW6 hT5)
    have V96 := Lib.hid (V9.out.below hbc6 V9.out.lt)
    have VA6 := Lib.hid (V10.out.below hbc6 V10.out.lt)
    have HBW6 := Lib.hid hbW6
    clear K2 K3 hr11 hr13 hr15 hr17 ho11 ho13 ho15 ho17 hb3 hb4 hb5 hb6 hb56 hb46 hb36 hbc4 hbc5 hbc6 hb05 hZ v4c' v4d v93 tok4 V9 V10 HXR HYR HB hc11 hc13 hc15 hc17 hbW6
    refine wp_region_held_drew (S := fun w' => Vx w' w.heap.size 30 x.cells ∧ Vx w' G5 30 y.cells ∧ Vx w' g9 77 X.cells ∧ Vx w' g10 77 Y.cells) (by kernel_rfl) ⟨V46.out, V56.out, V96.out, VA6.out⟩ (fun hH => ?_)
    refine reg_take 0 (v := ?_) rfl (by kernel_rfl) (fun _ _ _ h => h) (by rfl) hH ?_ ?_
    rotate_left
    · intro w hSw; (try dsimp only at hSw); go_simp; (try with_reducible rfl)
    (try simp only [Act.put, List.setIfInBounds_toArray, List.set_cons_zero, List.set_cons_succ])
    refine reg_take 1 (v := ?_) rfl (by kernel_rfl) (fun _ _ _ h => h) (by rfl) hH ?_ ?_
    rotate_left
    · intro w hSw; (try dsimp only at hSw); go_simp; (try with_reducible rfl)
    (try simp only [Act.put, List.setIfInBounds_toArray, List.set_cons_zero, List.set_cons_succ])
    refine wpAnyH_ready (rs := [2]) (by kernel_rfl) (by simp) ?_
    refine reg_cons _ rfl (fun K' hK => ?_) AllReadyH.nil
    go_simp
    go_at_call 25
    refine (beq_same A11 A13 c11 c13 L1 B1 w6.drew HL1.out R11.out.drew R13.out.drew).mono ?_
    rintro e w7 ⟨rfl, rfl⟩
    (try dsimp only)
    refine hK.out _ _ ⟨V46.out, V56.out, V96.out, VA6.out⟩ (fun hH => ?_)
    (try simp only [Act.put, List.setIfInBounds_toArray, List.set_cons_zero, List.set_cons_succ])
    clear hK
    refine reg_take 3 (v := ?_) rfl (by kernel_rfl) (fun _ _ _ h => h) (by rfl) hH ?_ ?_
    rotate_left
    · intro w hSw; (try dsimp only at hSw); go_simp; (try with_reducible rfl)
    (try simp only [Act.put, List.setIfInBounds_toArray, List.set_cons_zero, List.set_cons_succ])
    refine reg_take 4 (v := ?_) rfl (by kernel_rfl) (fun _ _ _ h => h) (by rfl) hH ?_ ?_
    rotate_left
    · intro w hSw; (try dsimp only at hSw); go_simp; (try with_reducible rfl)
    (try simp only [Act.put, List.setIfInBounds_toArray, List.set_cons_zero, List.set_cons_succ])
    refine reg_take 5 (v := ?_) rfl (by kernel_rfl) (fun _ _ _ h => h) (by rfl) hH ?_ ?_
    rotate_left
    · intro w hSw; (try dsimp only at hSw); go_simp; (try with_reducible rfl)
    (try simp only [Act.put, List.setIfInBounds_toArray, List.set_cons_zero, List.set_cons_succ])
    refine reg_take 6 (v := ?_) rfl (by kernel_rfl) (fun _ _ _ h => h) (by rfl) hH ?_ ?_
    rotate_left
    · intro w hSw; (try dsimp only at hSw); go_simp; (try with_reducible rfl)
    (try simp only [Act.put, List.setIfInBounds_toArray, List.set_cons_zero, List.set_cons_succ])
    refine reg_take 7 (v := ?_) rfl (by kernel_rfl) (fun _ _ _ h => h) (by rfl) hH ?_ ?_
    rotate_left
    · intro w hSw; (try dsimp only at hSw); go_simp; (try with_reducible rfl)
    (try simp only [Act.put, List.setIfInBounds_toArray, List.set_cons_zero, List.set_cons_succ])
    refine reg_take 8 (v := ?_) rfl (by kernel_rfl) (fun _ _ _ h => h) (by rfl) hH ?_ ?_
    rotate_left
    · intro w hSw; (try dsimp only at hSw); go_simp; (try with_reducible rfl)
    (try simp only [Act.put, List.setIfInBounds_toArray, List.set_cons_zero, List.set_cons_succ])
    refine reg_take 9 (v := ?_) rfl (by kernel_rfl) (fun _ _ _ h => h) (by rfl) hH ?_ ?_
    rotate_left
    · intro w hSw; (try dsimp only at hSw); go_simp; (try with_reducible rfl)
    (try simp only [Act.put, List.setIfInBounds_toArray, List.set_cons_zero, List.set_cons_succ])
    refine reg_load 10 rfl (by kernel_rfl) 30 _ (by rfl) w.heap.size 30 x.cells _ (fun _ _ _ h => h) (by rfl) hH (by rfl) (fun w hS => hS.1) Try.underlying30 (by rfl) (by kernel_rfl) ?_
    (try simp only [Act.put, List.setIfInBounds_toArray, List.set_cons_zero, List.set_cons_succ])
    refine reg_take 12 (v := ?_) rfl (by kernel_rfl) (fun _ _ _ h => h) (by rfl) hH ?_ ?_
    rotate_left
    · intro w hSw; (try dsimp only at hSw); go_simp; (try with_reducible rfl)
    (try simp only [Act.put, List.setIfInBounds_toArray, List.set_cons_zero, List.set_cons_succ])
    refine wpAnyH_ready (rs := [11]) (by kernel_rfl) (by simp) ?_
    refine reg_cons _ rfl (fun K' hK => ?_) AllReadyH.nil
    go_simp
    go_at_call 33
    refine (check_at x w6.drew X6.out.1).mono ?_
    rw [← HE1.out]
    rintro e w8 ⟨rfl, hb8'⟩
    have hb8 : Below w6.heap.size w6 w8 := (Below.refl w6.heap.size w6).drew.trans hb8'
    (try dsimp only)
    refine hK.out _ _ ⟨V46.out.below hb8 V46.out.lt, V56.out.below hb8 V56.out.lt, V96.out.below hb8 V96.out.lt, VA6.out.below hb8 VA6.out.lt⟩ (fun hH => ?_)
    (try simp only [Act.put, List.setIfInBounds_toArray, List.set_cons_zero, List.set_cons_succ])
    clear hK
    refine reg_take 13 (v := ?_) rfl (by kernel_rfl) (fun _ _ _ h => h) (by rfl) hH ?_ ?_
    rotate_left
    · intro w hSw; (try dsimp only at hSw); go_simp; (try with_reducible rfl)
    (try simp only [Act.put, List.setIfInBounds_toArray, List.set_cons_zero, List.set_cons_succ])
    refine reg_take 14 (v := ?_) rfl (by kernel_rfl) (fun _ _ _ h => h) (by rfl) hH ?_ ?_
    rotate_left
    · intro w hSw; (try dsimp only at hSw); go_simp; (try with_reducible rfl)
    (try simp only [Act.put, List.setIfInBounds_toArray, List.set_cons_zero, List.set_cons_succ])
    refine reg_take 15 (v := ?_) rfl (by kernel_rfl) (fun _ _ _ h => h) (by rfl) hH ?_ ?_
    rotate_left
    · intro w hSw; (try dsimp only at hSw); go_simp; (try with_reducible rfl)
    (try simp only [Act.put, List.setIfInBounds_toArray, List.set_cons_zero, List.set_cons_succ])
    refine reg_take 16 (v := ?_) rfl (by kernel_rfl) (fun _ _ _ h => h) (by rfl) hH ?_ ?_
    rotate_left
    · intro w hSw; (try dsimp only at hSw); go_simp; (try with_reducible rfl)
    (try simp only [Act.put, List.setIfInBounds_toArray, List.set_cons_zero, List.set_cons_succ])
    refine reg_take 17 (v := ?_) rfl (by kernel_rfl) (fun _ _ _ h => h) (by rfl) hH ?_ ?_
    rotate_left
    · intro w hSw; (try dsimp only at hSw); go_simp; (try with_reducible rfl)
    (try simp only [Act.put, List.setIfInBounds_toArray, List.set_cons_zero, List.set_cons_succ])
    refine wpAnyH_ready (rs := [18]) (by kernel_rfl) (by simp) ?_
    refine reg_cons _ rfl (fun K' hK => ?_) AllReadyH.nil
    go_simp
    go_at_call 25
    refine (beq_same A15 A17 c15 c17 L2 B2 w8 HL2.out (R15.out.goes hb8) (R17.out.goes hb8)).mono ?_
    rintro e w8 ⟨rfl, rfl⟩
    (try dsimp only)
    refine hK.out _ _ ⟨V46.out.below hb8 V46.out.lt, V56.out.below hb8 V56.out.lt, V96.out.below hb8 V96.out.lt, VA6.out.below hb8 VA6.out.lt⟩ (fun hH => ?_)
    (try simp only [Act.put, List.setIfInBounds_toArray, List.set_cons_zero, List.set_cons_succ])
    clear hK
    refine reg_take 19 (v := ?_) rfl (by kernel_rfl) (fun _ _ _ h => h) (by rfl) hH ?_ ?_
    rotate_left
    · intro w hSw; (try dsimp only at hSw); go_simp; (try with_reducible rfl)
    (try simp only [Act.put, List.setIfInBounds_toArray, List.set_cons_zero, List.set_cons_succ])
    refine reg_take 20 (v := ?_) rfl (by kernel_rfl) (fun _ _ _ h => h) (by rfl) hH ?_ ?_
    rotate_left
    · intro w hSw; (try dsimp only at hSw); go_simp; (try with_reducible rfl)
    (try simp only [Act.put, List.setIfInBounds_toArray, List.set_cons_zero, List.set_cons_succ])
    refine reg_take 21 (v := ?_) rfl (by kernel_rfl) (fun _ _ _ h => h) (by rfl) hH ?_ ?_
    rotate_left
    · intro w hSw; (try dsimp only at hSw); go_simp; (try with_reducible rfl)
    (try simp only [Act.put, List.setIfInBounds_toArray, List.set_cons_zero, List.set_cons_succ])
    refine reg_take 22 (v := ?_) rfl (by kernel_rfl) (fun _ _ _ h => h) (by rfl) hH ?_ ?_
    rotate_left
    · intro w hSw; (try dsimp only at hSw); go_simp; (try with_reducible rfl)
    (try simp only [Act.put, List.setIfInBounds_toArray, List.set_cons_zero, List.set_cons_succ])
    refine reg_take 23 (v := ?_) rfl (by kernel_rfl) (fun _ _ _ h => h) (by rfl) hH ?_ ?_
    rotate_left
    · intro w hSw; (try dsimp only at hSw); go_simp; (try with_reducible rfl)
    (try simp only [Act.put, List.setIfInBounds_toArray, List.set_cons_zero, List.set_cons_succ])
    refine reg_take 24 (v := ?_) rfl (by kernel_rfl) (fun _ _ _ h => h) (by rfl) hH ?_ ?_
    rotate_left
    · intro w hSw; (try dsimp only at hSw); go_simp; (try with_reducible rfl)
    (try simp only [Act.put, List.setIfInBounds_toArray, List.set_cons_zero, List.set_cons_succ])
    refine reg_take 25 (v := ?_) rfl (by kernel_rfl) (fun _ _ _ h => h) (by rfl) hH ?_ ?_
    rotate_left
    · intro w hSw; (try dsimp only at hSw); go_simp; (try with_reducible rfl)
    (try simp only [Act.put, List.setIfInBounds_toArray, List.set_cons_zero, List.set_cons_succ])
    refine reg_take 26 (v := ?_) rfl (by kernel_rfl) (fun _ _ _ h => h) (by rfl) hH ?_ ?_
    rotate_left
    · intro w hSw; (try dsimp only at hSw); go_simp; (try with_reducible rfl)
    (try simp only [Act.put, List.setIfInBounds_toArray, List.set_cons_zero, List.set_cons_succ])
    refine reg_load 27 rfl (by kernel_rfl) 30 _ (by rfl) w.heap.size 30 x.cells _ (fun _ _ _ h => h) (by rfl) hH (by rfl) (fun w hS => hS.1) Try.underlying30 (by rfl) (by kernel_rfl) ?_
    (try simp only [Act.put, List.setIfInBounds_toArray, List.set_cons_zero, List.set_cons_succ])
    refine reg_load 28 rfl (by kernel_rfl) 30 _ (by rfl) G5 30 y.cells _ (fun _ _ _ h => h) (by rfl) hH (by rfl) (fun w hS => hS.2.1) Try.underlying30 (by rfl) (by kernel_rfl) ?_
    (try simp only [Act.put, List.setIfInBounds_toArray, List.set_cons_zero, List.set_cons_succ])
    refine reg_load 30 rfl (by kernel_rfl) 77 _ (by rfl) g9 77 X.cells _ (fun _ _ _ h => h) (by rfl) hH (by rfl) (fun w hS => hS.2.2.1) Try.underlying77 (by rfl) (by kernel_rfl) ?_
    (try simp only [Act.put, List.setIfInBounds_toArray, List.set_cons_zero, List.set_cons_succ])
    refine reg_load 31 rfl (by kernel_rfl) 77 _ (by rfl) g10 77 Y.cells _ (fun _ _ _ h => h) (by rfl) hH (by rfl) (fun w hS => hS.2.2.2) Try.underlying77 (by rfl) (by kernel_rfl) ?_
    (try simp only [Act.put, List.setIfInBounds_toArray, List.set_cons_zero, List.set_cons_succ])
    obtain ⟨bs, hbs⟩ : ∃ b, b = sameM x.m y.m := ⟨_, rfl⟩
    have HBS := Lib.hid hbs
    clear hbs
    refine wpAnyH_ready (rs := [29]) (by kernel_rfl) (by simp) ?_
    refine reg_cons _ rfl (fun K' hK => ?_) AllReadyH.nil
    go_simp
    go_at_call 15
    refine (sameM_at x y w8 ((X6.out.1.below hb8).more hb8.size) ((X6.out.2.below hb8).more hb8.size)).mono ?_
    rw [← HBS.out]
    rintro e w9 ⟨rfl, hb9'⟩
    have hb9 := hb8.trans (hb9'.mono hb8.size)
    (try dsimp only)
    refine hK.out _ _ ⟨V46.out.below hb9 V46.out.lt, V56.out.below hb9 V56.out.lt, V96.out.below hb9 V96.out.lt, VA6.out.below hb9 VA6.out.lt⟩ (fun hH => ?_)
    (try simp only [Act.put, List.setIfInBounds_toArray, List.set_cons_zero, List.set_cons_succ])
    clear hK
    refine wpAnyH_ready (rs := [32]) (by kernel_rfl) (by simp) ?_
    refine reg_cons _ rfl (fun K' hK => ?_) AllReadyH.nil
    go_simp
    go_at_call 37
    refine (fsame_at X Y w9 ((XR6.out.below hb9).more hb9.size) ((YR6.out.below hb9).more hb9.size)).mono ?_
    rw [HMX.out, HMY.out, ← HBS.out]
    rintro e w10 ⟨rfl, hb10'⟩
    have hb10 := hb9.trans (hb10'.mono hb9.size)
    (try dsimp only)
    refine hK.out _ _ ⟨V46.out.below hb10 V46.out.lt, V56.out.below hb10 V56.out.lt, V96.out.below hb10 V96.out.lt, VA6.out.below hb10 VA6.out.lt⟩ (fun hH => ?_)
    (try simp only [Act.put, List.setIfInBounds_toArray, List.set_cons_zero, List.set_cons_succ])
    clear hK
    refine reg_take 33 (v := ?_) rfl (by kernel_rfl) (fun _ _ _ h => h) (by rfl) hH ?_ ?_
    rotate_left
    · intro w hSw; (try dsimp only at hSw); go_simp; (try with_reducible rfl)
    (try simp only [Act.put, List.setIfInBounds_toArray, List.set_cons_zero, List.set_cons_succ])
    refine reg_take 34 (v := ?_) rfl (by kernel_rfl) (fun _ _ _ h => h) (by rfl) hH ?_ ?_
    rotate_left
    · intro w hSw; (try dsimp only at hSw); go_simp; (try with_reducible rfl)
    (try simp only [Act.put, List.setIfInBounds_toArray, List.set_cons_zero, List.set_cons_succ])
    refine wpAnyH_done (by kernel_rfl) ?_ _
    have hbWa := HBW6.out.trans (hb10.mono HBW6.out.size)
    have HBWa := Lib.hid hbWa
    have XYa := Lib.hid (HXY.out _ hbWa)
    have XRa := Lib.hid ((XR6.out.below hb10).more hb10.size)
    have YRa := Lib.hid ((YR6.out.below hb10).more hb10.size)
    have V4a := Lib.hid (V46.out.below hb10 V46.out.lt)
    have V5a := Lib.hid (V56.out.below hb10 V56.out.lt)
    have V9a := Lib.hid (V96.out.below hb10 V96.out.lt)
    have VAa := Lib.hid (VA6.out.below hb10 VA6.out.lt)
    have hb0a := HB01.out.trans (hbWa.mono HB01.out.size)
    have HB0a := Lib.hid hb0a
    have NMa := Lib.hid ((HNM.out.below hb0a).more hb0a.size)
    clear hH hb8' hb8 hb9' hb9 hb10' hb10 hbWa hb0a X6 XR6 YR6 V46 V56 V96 VA6 R11 R13 R15 R17 HBW6
    have hcx : ∀ r ∈ x.r0, r.r.q.nm.length * 16 ≤ 140737488355328 ∧ r.r.tg.length * 16 ≤ 140737488355328 := fun r hr => by have := cx.2 0 r hr; omega
    have KA := Lib.hid (answers_at x A0 c0 nm ty w10 XYa.out.1 NMa.out hty hcx)
    rw [HN0.out] at KA
    clear hcx
    obtain ⟨j0, hj', hy0, hy1, hy2⟩ := info_parts Try.infoRf
    go_wp2_with (first
      | (refine wpList_load_row rfl 30 _ rfl w.heap.size rfl _ _ _ _ V4a.out Try.underlying30 rfl (by kernel_rfl) ?_)
      | (go_at_call 24
         refine KA.out.mono ?_
         rintro e w11 ⟨al, Aa, ca, rfl, ham, hao, had, hba⟩
         obtain ⟨cn, hcn⟩ : ∃ n, n = al.length := ⟨_, rfl⟩
         have hao' : OwM w11 w10.heap.size 49 9 (.slice Aa al.length ca) al.length (rcs al) := hao
         rw [← hcn] at hao' ⊢
         have HCN := Lib.hid hcn.symm
         clear hcn))
    have HAM := Lib.hid ham
    have HAO := Lib.hid hao'
    have HAD := Lib.hid had
    have HBA := Lib.hid hba
    have hlen : cn ≤ 1000000000000 := by
      have hcn := HCN.out
      have h1 : al.length ≤ x.r0.length := by
        have h2 := congrArg List.length ham
        rw [List.length_map] at h2
        rw [h2]
        have h3 := List.length_filter_le (fun r : Rc => decide (r.q.ty = ty) && (decide (r.q.cl = 1) && decide (r.q.nm = nm))) (x.m.r0)
        have h4 : x.m.r0.length = x.r0.length := by simp [MR.m]
        unfold answersM
        omega
      have h5 := (XYa.out.1).2.2.2.1.2.2.2.1
      omega
    have hrr : ∀ p ∈ al, ∃ z ∈ x.r0, z.r = p.r := fun p hp => by
      have h1 : p.r ∈ answersM x.m nm ty := by rw [← ham]; exact List.mem_map.2 ⟨p, hp, rfl⟩
      have h2 := (List.mem_filter.1 h1).1
      obtain ⟨z, hz, e⟩ := List.mem_map.1 h2
      exact ⟨z, hz, e⟩
    have HRR := Lib.hid hrr
    have hsA : w10.heap.size ≤ w11.heap.size := hba.size
    -- what is read of an answer
    have hrd : ∀ p ∈ al, RRd w11 w11.heap.size p := fun p hp => by
      obtain ⟨z, hz, e⟩ := hrr p hp
      have h1 := (XYa.out.1).2.2.2.1.2.2.2.2 z hz
      refine ⟨⟨nmO_rd (had _ ⟨p, hp, Or.inl rfl⟩) (by show sizeN p.r.q.nm ≤ _; rw [← e]; exact h1.1.1.2.2), by show p.r.q.ty < 65536; rw [← e]; exact h1.1.2.1, by show p.r.q.cl < 65536; rw [← e]; exact h1.1.2.2⟩, daO_rd (had _ ⟨p, hp, Or.inr (Or.inl rfl)⟩) (by rw [← e]; exact h1.2.1.2.2), nmO_rd (had _ ⟨p, hp, Or.inr (Or.inr rfl)⟩) (by rw [← e]; exact h1.2.2.1.2.2), by rw [← e]; exact h1.2.2.2⟩
    have HRD := Lib.hid hrd
    have hcp : ∀ p ∈ al, p.r.q.nm.length * 16 ≤ 140737488351232 ∧ p.r.tg.length * 16 ≤ 140737488351232 := fun p hp => by
      obtain ⟨z, hz, e⟩ := hrr p hp
      rw [← e]
      exact cx.2 0 z hz
    have HCP := Lib.hid hcp
    clear ham hao hao' had hba hrr hrd hcp KA
    go_loopw [20, 99] (fun v20 vk wr => ∃ (k : Nat) (l3 : List RR) (Ar : Option Addr) (cr : Nat), k ≤ cn ∧ vk = .int .i64 k ∧ v20 = .slice Ar k cr ∧ Hid (l3.length = k) ∧ Hid (l3.map RR.r = (al.take k).map RR.r) ∧ Hid (OwM wr w11.heap.size 113 9 (.slice Ar k cr) k (rcs l3)) ∧ Hid (Held wr w11.heap.size (fun o => False ∨ DR l3 o) (.slice Ar k cr)) ∧ Hid (Below w11.heap.size w11 wr)) (fun _ vk _ => cn - (intOf vk).toNat)
    case atStart => exact ⟨0, [], none, 0, Nat.zero_le _, rfl, rfl, Lib.hid rfl, Lib.hid rfl, Lib.hid (OwM.nil _ _ _ _), Lib.hid ((Held.nil _ _ _).mono (fun o ho => by rcases ho with ho | ⟨z, hz, _⟩; exact ho; cases hz)), Lib.hid (Below.refl _ _)⟩
    case round =>
      obtain ⟨k, l3, Ar, cr, hk, rfl, rfl, HL3, HM3, HO3, HH3, HBr⟩ := hrel
      rcases Nat.lt_or_ge k cn with hklt | hkge
      · have hlx : k < al.length := by have := HCN.out; omega
        have hrow : OwM wr w10.heap.size 49 9 (.slice Aa al.length ca) al.length (rcs al) := by
          rw [HCN.out]; exact HAO.out.far HBr.out
        obtain ⟨b0, o0, hA0, hb0, hnine⟩ := rows_at hrow hlx
        obtain ⟨d0, d1, d2, d3, d4, d5, d6, d7, d8⟩ := hnine.cells
        have hp := (HRD.out _ (List.getElem_mem hlx)).below HBr.out
        have hcpp := HCP.out _ (List.getElem_mem hlx)
        have htk := take_map_snoc RR.r al k hlx
        generalize al[k] = p at *
        subst hA0
        have hklt' : (k : Int) < (cn : Int) := by omega
        have hsz := HBr.out.size
        have hbA := below_new wr (.cells #[.slice p.A p.r.q.nm.length p.c, .int .u16 (p.r.q.ty : Int), .int .u16 (p.r.q.cl : Int), .int .u32 (p.r.ttl : Int), .slice p.dA p.r.d.length p.dc, .int .u16 (p.r.pr : Int), .int .u16 (p.r.we : Int), .int .u16 (p.r.po : Int), .slice p.tA p.r.tg.length p.tc] 49)
        have hv22 := Vx.new wr 49 [.slice p.A p.r.q.nm.length p.c, .int .u16 (p.r.q.ty : Int), .int .u16 (p.r.q.cl : Int), .int .u32 (p.r.ttl : Int), .slice p.dA p.r.d.length p.dc, .int .u16 (p.r.pr : Int), .int .u16 (p.r.we : Int), .int .u16 (p.r.po : Int), .slice p.tA p.r.tg.length p.tc]
        have K := Lib.hid (turnedR_at p (wr.alloc (.cells #[.slice p.A p.r.q.nm.length p.c, .int .u16 (p.r.q.ty : Int), .int .u16 (p.r.q.cl : Int), .int .u32 (p.r.ttl : Int), .slice p.dA p.r.d.length p.dc, .int .u16 (p.r.pr : Int), .int .u16 (p.r.we : Int), .int .u16 (p.r.po : Int), .slice p.tA p.r.tg.length p.tc] 49)) (((hp.more (show w11.heap.size ≤ wr.heap.size from hsz)).below hbA).more hbA.size) hcpp.1 hcpp.2)
        obtain ⟨e0, e1, e2, e3, e4, e5, e6, e7, e8⟩ := hv22.c9
        have HTK := Lib.hid htk
        clear hrow hnine hp hcpp htk
        go_wp2_with (first
          | (go_at_call 58
             refine K.out.mono ?_
             rintro e w12 ⟨⟨A3, c3, dA3, dc3, tA3, tc3, r3⟩, hyr, rfl, hn3, hd3, ht3, hb12⟩
             simp only at hyr
             subst hyr
             unfold RR.cells
             simp only at hn3 hd3 ht3
             dsimp only
             have hbr12 : Below wr.heap.size wr w12 := hbA.trans (hb12.mono hbA.size))
          | (at_builtin; refine wpList_appM _ rfl _ _ _ _ rfl w11.heap.size 9 113 j0 _ 96 Try.underlying74 hj' hy0 hy1 hy2 rfl (by omega) (.slice Ar k cr) k (rcs l3) ((HO3.out.far hbr12).alloc _) rfl 1 (RR.cells ⟨A3, c3, dA3, dc3, tA3, tc3, p.r⟩) (litM_src Try.underlying74 _ 9 _ 1 rfl (rcells_one ⟨A3, c3, dA3, dc3, tA3, tc3, p.r⟩)) (by omega) (by have := hbr12.size; simp; omega) ?_
             intro v13 w13 hown13 hgr13 hsz13
             obtain ⟨A13', c13', rfl, hc13, _, _⟩ := hown13.form))
        go_roundw
        case rel =>
          have hle : w11.heap.size ≤ w12.heap.size := Nat.le_trans hsz hbr12.size
          have hbF : Below w11.heap.size wr w13 := (hbr12.mono hsz).trans (((below_new w12 _).mono hle).trans (hgr13.below (OwM.lt HO3.out) (by simp; omega)))
          refine ⟨k + 1, l3 ++ [⟨A3, c3, dA3, dc3, tA3, tc3, p.r⟩], A13', c13', by omega, by go_num, rfl, Lib.hid (by simp [HL3.out]), Lib.hid ?_, Lib.hid ?_, Lib.hid (Held.rA (x := ⟨A3, c3, dA3, dc3, tA3, tc3, p.r⟩) (B := (wr.alloc (.cells #[.slice p.A p.r.q.nm.length p.c, .int .u16 (p.r.q.ty : Int), .int .u16 (p.r.q.cl : Int), .int .u32 (p.r.ttl : Int), .slice p.dA p.r.d.length p.dc, .int .u16 (p.r.pr : Int), .int .u16 (p.r.we : Int), .int .u16 (p.r.po : Int), .slice p.tA p.r.tg.length p.tc] 49)).heap.size) HH3.out HO3.out hbr12 hbA.size hn3 hd3 ht3 (below_new w12 _) hsz hgr13), Lib.hid (HBr.out.trans hbF)⟩
          · rw [HTK.out, List.map_append, HM3.out]; rfl
          · rw [rcs_snoc]; exact hown13
        case measure => simp [intOf]; omega
      · have hkn : cn = k := by omega
        have hkge' : (cn : Int) ≤ (k : Int) := by omega
        have hbr := HBr.out
        have hba := HBA.out
        have hbar := hba.trans (hbr.mono hba.size)
        have hm3 : l3.map RR.r = al.map RR.r := by rw [HM3.out, ← hkn, ← HCN.out, List.take_length]
        have hXr := (XRa.out.below hbar).more hbar.size
        have hNr := (NMa.out.below hbar).more hbar.size
        have hv9 := V9a.out.below hbar V9a.out.lt
        have hOwn : RsRd wr wr.heap.size Ar cr k l3 := by
          have h1 := HO3.out
          refine ⟨OwM.rd h1, HL3.out, OwM.cap h1, by omega, fun y hy => ?_⟩
          have h2 : y.r ∈ al.map RR.r := by rw [← hm3]; exact List.mem_map.2 ⟨y, hy, rfl⟩
          obtain ⟨z, hz, e⟩ := List.mem_map.1 h2
          have h3 := HRD.out z hz
          have hD := fun o ho => HH3.out.dn o (Or.inr ho)
          exact ⟨⟨nmO_rd (hD _ ⟨y, hy, Or.inl rfl⟩) (by show sizeN y.r.q.nm ≤ _; rw [← e]; exact h3.1.1.2.2), by show y.r.q.ty < 65536; rw [← e]; exact h3.1.2.1, by show y.r.q.cl < 65536; rw [← e]; exact h3.1.2.2⟩, daO_rd (hD _ ⟨y, hy, Or.inr (Or.inl rfl)⟩) (by rw [← e]; exact h3.2.1.2.2), nmO_rd (hD _ ⟨y, hy, Or.inr (Or.inr rfl)⟩) (by rw [← e]; exact h3.2.2.1.2.2), by rw [← e]; exact h3.2.2.2⟩
        have KF := Lib.hid (fanswers_at X A0 c0 n0 nm ty wr hXr HN0.out hNr hty)
        have HM9 := Lib.hid hm3
        have HOwn := Lib.hid hOwn
        have HBar := Lib.hid hbar
        have hv9' := hv9
        clear hm3 hXr hNr hOwn hbr hba hkn hkge hk
        go_wp2_with (first
          | (refine wpList_load_row rfl 77 _ rfl g9 rfl _ _ _ _ hv9 Try.underlying77 rfl (by kernel_rfl) ?_)
          | (go_at_call 59
             refine (fsameRs_at Ar Ab cr cb k lb.length l3 lb w15 ((HOwn.out.below hb15).more hb15.size) hbr15).mono ?_
             rw [same_rows (HM9.out.trans (HAM.out.trans (by rw [hbm, HMX.out])))]
             rintro e w16 ⟨rfl, hb16'⟩
             have hb16 := hb15.trans (hb16'.mono hb15.size))
          | (go_at_call 60
             refine KF.out.mono ?_
             rintro e w15 ⟨lb, Ab, cb, rfl, hbm, hbr15, hb15⟩))
        have hbr := HBr.out
        have h1116 := hbr.trans (hb16.mono hbr.size)
        have h1016 := HBA.out.trans (h1116.mono HBA.out.size)
        have HAO6 := Lib.hid (HAO.out.far h1116)
        have HAD6 := Lib.hid (fun o ho => (HAD.out o ho).far h1116)
        have H1016 := Lib.hid h1016
        have hs1016 : w10.heap.size ≤ w16.heap.size := h1016.size
        clear hb15 hb16' hb16 hbr15 hbm hbr h1116 h1016 hv9 hv9' KF HOwn HO3 HH3 HBr HBar
        go_loopw [118] (fun vk wz => ∃ k2 : Nat, k2 ≤ cn ∧ vk = .int .i64 k2 ∧ Hid (Spo w10.heap.size w16 wz)) (fun vk _ => cn - (intOf vk).toNat)
        case atStart => exact ⟨0, Nat.zero_le _, rfl, Lib.hid (Spo.refl _ _)⟩
        case round =>
          obtain ⟨k2, hk2, rfl, HKs⟩ := hrel
          rcases Nat.lt_or_ge k2 cn with hklt | hkge
          · have hlx : k2 < al.length := by have := HCN.out; omega
            have hrow : OwM wr w10.heap.size 49 9 (.slice Aa al.length ca) al.length (rcs al) := by
              rw [HCN.out]; exact OwM.spo HAO6.out (by decide) (by decide) HKs.out
            obtain ⟨b0, o0, hA0, hb0, hnine⟩ := rows_at hrow hlx
            obtain ⟨d0, d1, d2, d3, d4, d5, d6, d7, d8⟩ := hnine.cells
            have hr := HRD.out _ (List.getElem_mem hlx)
            have hd1 := HAD6.out _ ⟨_, List.getElem_mem hlx, Or.inl rfl⟩
            have hd2 := HAD6.out _ ⟨_, List.getElem_mem hlx, Or.inr (Or.inl rfl)⟩
            have hd3 := HAD6.out _ ⟨_, List.getElem_mem hlx, Or.inr (Or.inr rfl)⟩
            generalize al[k2] = p at *
            subst hA0
            have l1 : p.r.q.nm.length ≤ 140737488355328 := Nat.le_trans (len_le_size _) hr.1.1.2.2
            have l2 : p.r.tg.length ≤ 140737488355328 := Nat.le_trans (len_le_size _) hr.2.2.1.2.2
            have l3' : p.r.d.length ≤ 140737488355328 := hr.2.1.2.2
            have hs2 : Spo w10.heap.size wr (wr.alloc (.cells #[.slice p.A p.r.q.nm.length p.c, .int .u16 (p.r.q.ty : Int), .int .u16 (p.r.q.cl : Int), .int .u32 (p.r.ttl : Int), .slice p.dA p.r.d.length p.dc, .int .u16 (p.r.pr : Int), .int .u16 (p.r.we : Int), .int .u16 (p.r.po : Int), .slice p.tA p.r.tg.length p.tc] 49)) := Spo.of (below_new _ _) (Nat.le_trans hs1016 HKs.out.bl.size)
            have hk2s := HKs.out.trans hs2
            have K9 := Lib.hid (spoil_at p w10.heap.size (wr.alloc (.cells #[.slice p.A p.r.q.nm.length p.c, .int .u16 (p.r.q.ty : Int), .int .u16 (p.r.q.cl : Int), .int .u32 (p.r.ttl : Int), .slice p.dA p.r.d.length p.dc, .int .u16 (p.r.pr : Int), .int .u16 (p.r.we : Int), .int .u16 (p.r.po : Int), .slice p.tA p.r.tg.length p.tc] 49)) (Nat.le_trans hs1016 hk2s.bl.size) ((TS.of hd1).spo hk2s) ((TS.of hd3).spo hk2s) ((TU.of hd2).spo hk2s) l1 l2 l3')
            have HK2 := Lib.hid hk2s
            have hjlt' : (k2 : Int) < (cn : Int) := by omega
            have v24 := Vx.new wr 49 [.slice p.A p.r.q.nm.length p.c, .int .u16 (p.r.q.ty : Int), .int .u16 (p.r.q.cl : Int), .int .u32 (p.r.ttl : Int), .slice p.dA p.r.d.length p.dc, .int .u16 (p.r.pr : Int), .int .u16 (p.r.we : Int), .int .u16 (p.r.po : Int), .slice p.tA p.r.tg.length p.tc]
            obtain ⟨e0, e1, e2, e3, e4, e5, e6, e7, e8⟩ := v24.c9
            clear hnine hr hd1 hd2 hd3 hs2 hk2s l1 l2 l3' v24 hrow
            go_wp2_with (go_at_call 39
                         refine K9.out.mono ?_
                         rintro e w8 ⟨rfl, hs8⟩)
            go_roundw
            case rel => exact ⟨k2 + 1, by omega, by go_num, Lib.hid (HK2.out.trans hs8)⟩
            case measure => simp [intOf]; omega
          · have hkge' : (cn : Int) ≤ (k2 : Int) := by omega
            have hbz : Below w10.heap.size w10 wr := H1016.out.trans HKs.out.bl
            have hbWz := HBWa.out.trans (hbz.mono HBWa.out.size)
            have XYz := Lib.hid (HXY.out _ hbWz)
            have XRz := Lib.hid ((XRa.out.below hbz).more hbz.size)
            have YRz := Lib.hid ((YRa.out.below hbz).more hbz.size)
            have V4z := Lib.hid (V4a.out.below hbz V4a.out.lt)
            have V5z := Lib.hid (V5a.out.below hbz V5a.out.lt)
            have V9z := Lib.hid (V9a.out.below hbz V9a.out.lt)
            have VAz := Lib.hid (VAa.out.below hbz VAa.out.lt)
            have hb0z := HB01.out.trans (hbWz.mono HB01.out.size)
            have HB0z := Lib.hid hb0z
            clear hbz hbWz hb0z hkge
            go_upto_region 22 with fail
            refine wp_region_held_drew (S := fun w' => Vx w' w.heap.size 30 x.cells ∧ Vx w' G5 30 y.cells ∧ Vx w' g9 77 X.cells ∧ Vx w' g10 77 Y.cells) (by kernel_rfl) ⟨V4z.out, V5z.out, V9z.out, VAz.out⟩ (fun hH => ?_)
            refine reg_load 0 rfl (by kernel_rfl) 30 _ (by rfl) w.heap.size 30 x.cells _ (fun _ _ _ h => h) (by rfl) hH (by rfl) (fun w hS => hS.1) Try.underlying30 (by rfl) (by kernel_rfl) ?_
            (try simp only [Act.put, List.setIfInBounds_toArray, List.set_cons_zero, List.set_cons_succ])
            refine reg_load 2 rfl (by kernel_rfl) 77 _ (by rfl) g9 77 X.cells _ (fun _ _ _ h => h) (by rfl) hH (by rfl) (fun w hS => hS.2.2.1) Try.underlying77 (by rfl) (by kernel_rfl) ?_
            (try simp only [Act.put, List.setIfInBounds_toArray, List.set_cons_zero, List.set_cons_succ])
            refine wpAnyH_ready (rs := [1]) (by kernel_rfl) (by simp) ?_
            refine reg_cons _ rfl (fun K' hK => ?_) AllReadyH.nil
            go_simp
            go_at_call 38
            refine (turned_at x wr.drew XYz.out.1 cx).mono ?_
            rintro e w18 ⟨X1, hmX1, rfl, hoX1, hbw18'⟩
            have hrX1 := MOwF.rdL hoX1 XYz.out.1 hmX1
            have hbw18 : Below wr.heap.size wr w18 := (Below.refl wr.heap.size wr).drew.trans hbw18'
            (try dsimp only)
            refine hK.out _ _ ⟨V4z.out.below hbw18 V4z.out.lt, V5z.out.below hbw18 V5z.out.lt, V9z.out.below hbw18 V9z.out.lt, VAz.out.below hbw18 VAz.out.lt⟩ (fun hH => ?_)
            (try simp only [Act.put, List.setIfInBounds_toArray, List.set_cons_zero, List.set_cons_succ])
            clear hK
            refine wpAnyH_ready (rs := [3]) (by kernel_rfl) (by simp) ?_
            refine reg_cons _ rfl (fun K' hK => ?_) AllReadyH.nil
            go_simp
            go_at_call 37
            refine (fsame_at X1 X w18 hrX1 ((XRz.out.below hbw18).more hbw18.size)).mono ?_
            rw [(sameM_iff _ _).2 (hmX1.trans HMX.out.symm)]
            rintro e w19 ⟨rfl, hbw19'⟩
            have hbw19 : Below wr.heap.size wr w19 := hbw18.trans (hbw19'.mono hbw18.size)
            (try dsimp only)
            refine hK.out _ _ ⟨V4z.out.below hbw19 V4z.out.lt, V5z.out.below hbw19 V5z.out.lt, V9z.out.below hbw19 V9z.out.lt, VAz.out.below hbw19 VAz.out.lt⟩ (fun hH => ?_)
            (try simp only [Act.put, List.setIfInBounds_toArray, List.set_cons_zero, List.set_cons_succ])
            clear hK
            refine reg_take 4 (v := ?_) rfl (by kernel_rfl) (fun _ _ _ h => h) (by rfl) hH ?_ ?_
            rotate_left
            · intro w hSw; (try dsimp only at hSw); go_simp; (try with_reducible rfl)
            (try simp only [Act.put, List.setIfInBounds_toArray, List.set_cons_zero, List.set_cons_succ])
            refine reg_load 5 rfl (by kernel_rfl) 30 _ (by rfl) G5 30 y.cells _ (fun _ _ _ h => h) (by rfl) hH (by rfl) (fun w hS => hS.2.1) Try.underlying30 (by rfl) (by kernel_rfl) ?_
            (try simp only [Act.put, List.setIfInBounds_toArray, List.set_cons_zero, List.set_cons_succ])
            refine reg_load 7 rfl (by kernel_rfl) 77 _ (by rfl) g10 77 Y.cells _ (fun _ _ _ h => h) (by rfl) hH (by rfl) (fun w hS => hS.2.2.2) Try.underlying77 (by rfl) (by kernel_rfl) ?_
            (try simp only [Act.put, List.setIfInBounds_toArray, List.set_cons_zero, List.set_cons_succ])
            refine wpAnyH_ready (rs := [6]) (by kernel_rfl) (by simp) ?_
            refine reg_cons _ rfl (fun K' hK => ?_) AllReadyH.nil
            go_simp
            go_at_call 38
            refine (turned_at y w19 ((XYz.out.2.below hbw19).more hbw19.size) cy).mono ?_
            rintro e w20 ⟨Y1, hmY1, rfl, hoY1, hbw20'⟩
            have hrY1 := MOwF.rdL hoY1 ((XYz.out.2.below hbw19).more hbw19.size) hmY1
            have hbw20 : Below wr.heap.size wr w20 := hbw19.trans (hbw20'.mono hbw19.size)
            (try dsimp only)
            refine hK.out _ _ ⟨V4z.out.below hbw20 V4z.out.lt, V5z.out.below hbw20 V5z.out.lt, V9z.out.below hbw20 V9z.out.lt, VAz.out.below hbw20 VAz.out.lt⟩ (fun hH => ?_)
            (try simp only [Act.put, List.setIfInBounds_toArray, List.set_cons_zero, List.set_cons_succ])
            clear hK
            refine wpAnyH_ready (rs := [8]) (by kernel_rfl) (by simp) ?_
            refine reg_cons _ rfl (fun K' hK => ?_) AllReadyH.nil
            go_simp
            go_at_call 37
            refine (fsame_at Y1 Y w20 hrY1 ((YRz.out.below hbw20).more hbw20.size)).mono ?_
            rw [(sameM_iff _ _).2 (hmY1.trans HMY.out.symm)]
            rintro e w21 ⟨rfl, hbw21'⟩
            have hbw21 : Below wr.heap.size wr w21 := hbw20.trans (hbw21'.mono hbw20.size)
            (try dsimp only)
            refine hK.out _ _ ⟨V4z.out.below hbw21 V4z.out.lt, V5z.out.below hbw21 V5z.out.lt, V9z.out.below hbw21 V9z.out.lt, VAz.out.below hbw21 VAz.out.lt⟩ (fun hH => ?_)
            (try simp only [Act.put, List.setIfInBounds_toArray, List.set_cons_zero, List.set_cons_succ])
            clear hK
            refine reg_take 9 (v := ?_) rfl (by kernel_rfl) (fun _ _ _ h => h) (by rfl) hH ?_ ?_
            rotate_left
            · intro w hSw; (try dsimp only at hSw); go_simp; (try with_reducible rfl)
            (try simp only [Act.put, List.setIfInBounds_toArray, List.set_cons_zero, List.set_cons_succ])
            refine reg_take 10 (v := ?_) rfl (by kernel_rfl) (fun _ _ _ h => h) (by rfl) hH ?_ ?_
            rotate_left
            · intro w hSw; (try dsimp only at hSw); go_simp; (try with_reducible rfl)
            (try simp only [Act.put, List.setIfInBounds_toArray, List.set_cons_zero, List.set_cons_succ])
            refine wpAnyH_done (by kernel_rfl) ?_ _
            go_wp2_with fail
            go_ret
            exact ⟨rfl, HB0z.out.trans (hbw21.mono HB0z.out.size)⟩
open Go.ChangeShapes Go.WideShapes Go.ChangeAt Go.RowKit
section
variable {P : Program} {H : Type} {enc : TypeId × Value → H} {W : World}
theorem weights_all_memS {P : Program} {e : TypeId} {d : DataW H} {n : Nat} (hn : n ∈ d.weights P e) : ∀ {l : List (DataW H)}, d ∈ l → n ∈ DataW.weightsAll P e l := by
  intro l
  induction l with
  | nil => intro h; cases h
  | cons b l ih =>
    intro h
    simp only [DataW.weightsAll, List.mem_append]
    rcases List.mem_cons.1 h with rfl | h
    · exact .inl hn
    · exact .inr (ih h)
theorem open_cellB {t e : TypeId} {V : Value} {d : DataW H} {ps : List MemPlace} {n : Nat} (ht : P.underlying t = some (.slice e)) (he : P.underlying e = some (.int .u8)) (hc : P.cellsOf e = 1) (hby : P.bytesOf e = 1)
    (h : DataW.trod enc P W 0 (fun _ => true) true n t [V] = some (d, ps)) (hre : ∀ n ∈ d.weights P t, n ≤ reachBytes) :
    ∃ (A : Option Addr) (c : Nat) (l : List UInt8), V = .slice A l.length c ∧ Rd W W.heap.size A l.length (bc l) ∧ l.length ≤ c ∧ l.length ≤ 140737488351232 := by
  rcases open_ints ht he hc h with ⟨hcs, hx⟩ | ⟨a, len, cap, zs, hcs, _, hl, hm, hz, hx, hcell, hwz⟩
  · simp only [List.cons.injEq, and_true] at hcs
    exact ⟨none, 0, [], hcs, Rd.nil _ _ _, by simp, by simp⟩
  · simp only [List.cons.injEq, and_true] at hcs
    subst hcs
    simp only [if_true] at hz
    simp only [Prod.mk.injEq] at hx
    obtain ⟨rfl, rfl⟩ := hx
    obtain ⟨l, hl1, hl2⟩ := bytes_of_wf (zs.take len) (fun z hz => hwz z (List.mem_of_mem_take hz))
    rw [List.length_take, hz, Nat.min_eq_left hl] at hl2
    have hw := hre (((lits (H := H) .u8 (zs.take len)).length + (lits (H := H) .u8 (zs.drop len)).length) * P.bytesOf e) (by simp [DataW.weights, ht])
    simp only [lits, List.length_map, List.length_take, List.length_drop, hby, reachBytes, hz] at hw
    refine ⟨some a, cap, l, by rw [hl2], ?_, by rw [hl2]; exact hl, by omega⟩
    rw [hl2]
    refine rd_of_cells _ (by simpa using hl2) fun j u hu => ?_
    rw [← hl1, List.getElem?_map] at hu
    obtain ⟨z, hz1, rfl⟩ := Option.map_eq_some_iff.1 hu
    have hj : j < len := by
      rcases Nat.lt_or_ge j len with h1 | h1
      · exact h1
      · rw [List.getElem?_eq_none (by rw [List.length_take]; omega)] at hz1; cases hz1
    rw [List.getElem?_take_of_lt hj] at hz1
    rw [hcell j (by omega), List.getD_eq_getElem?_getD, hz1]; rfl
theorem open_cellS {t e : TypeId} {V : Value} {d : DataW H} {ps : List MemPlace} {n : Nat} (ht : P.underlying t = some (.slice e)) (he : P.underlying e = some .string) (hc : P.cellsOf e = 1) (hby : P.bytesOf e = 16)
    (h : DataW.trod enc P W 0 (fun _ => true) true n t [V] = some (d, ps)) (hre : ∀ n ∈ d.weights P t, n ≤ reachBytes) :
    ∃ (A : Option Addr) (c : Nat) (l : List (List UInt8)), V = .slice A l.length c ∧ NR0 W W.heap.size A c l := by
  rcases open_strings ht he hc h with ⟨hcs, hx⟩ | ⟨a, len, cap, ss, hcs, _, hl, hm, hz, hx, hcell, hwz⟩
  · simp only [List.cons.injEq, and_true] at hcs
    exact ⟨none, 0, [], hcs, Rd.nil _ _ _, by simp, by simp, by simp⟩
  · simp only [List.cons.injEq, and_true] at hcs
    subst hcs
    simp only [if_true] at hz
    simp only [Prod.mk.injEq] at hx
    obtain ⟨rfl, rfl⟩ := hx
    have hw := hre (((strs (H := H) (ss.take len)).length + (strs (H := H) (ss.drop len)).length) * P.bytesOf e) (by simp [DataW.weights, ht])
    simp only [strs, List.length_map, List.length_take, List.length_drop, hby, reachBytes, hz] at hw
    have hl2 : ((ss.take len).map fun s => s.data.toList).length = len := by rw [List.length_map, List.length_take, hz, Nat.min_eq_left hl]
    refine ⟨some a, cap, (ss.take len).map fun s => s.data.toList, by rw [hl2], ?_, by rw [hl2]; exact hl, by rw [hl2]; omega, fun x hx => ?_⟩
    · rw [hl2]
      refine rd_of_cells _ (by simpa using hl2) fun j u hu => ?_
      unfold sc at hu
      rw [List.map_map, List.getElem?_map] at hu
      obtain ⟨s, hs1, rfl⟩ := Option.map_eq_some_iff.1 hu
      have hj : j < len := by
        rcases Nat.lt_or_ge j len with h1 | h1
        · exact h1
        · rw [List.getElem?_eq_none (by rw [List.length_take]; omega)] at hs1; cases hs1
      rw [List.getElem?_take_of_lt hj] at hs1
      rw [hcell j (by omega), List.getD_eq_getElem?_getD, hs1]
      simp [strV]
    · obtain ⟨s, hs, rfl⟩ := List.mem_map.1 hx
      have hw2 := hre s.data.toList.length (by
        simp only [DataW.weights, ht, List.mem_cons, List.mem_append]
        right; left
        exact weights_all_memS (d := .lit (.string s.data.toList)) (by simp [DataW.weights]) (List.mem_map.2 ⟨s, hs, rfl⟩))
      simpa [reachBytes] using hw2
theorem nat_of {k : IntKind} {z : Int} {m : Nat} (h : (Lit.int k z).wf = true) (hm : k.min = 0 ∧ k.max < (m : Int)) : ∃ n : Nat, z = (n : Int) ∧ n < m := by
  simp [Lit.wf, hm.1] at h
  exact ⟨z.toNat, by omega, by omega⟩
/-- the fields' types and places of a struct -/
def fieldsOf (P : Program) (t : TypeId) : Option (List (TypeId × Nat)) := match P.underlying t with
  | some (.struct fs) => some (fs.toList.map fun f => (f.type, f.offset))
  | _ => none
theorem trod_structL {t : TypeId} {l : List (TypeId × Nat)} {cs : List Value} {d : DataW H} {ps : List MemPlace} {n : Nat} (hf : fieldsOf P t = some l) (h : DataW.trod enc P W 0 (fun _ => true) true n t cs = some (d, ps)) :
    ∃ (xs : List (DataW H × List MemPlace)) (m : Nat), cs.length = P.cellsOf t ∧ xs.length = l.length ∧
      ∀ (i : Nat) (e : TypeId) (o : Nat), l[i]? = some (e, o) → ∃ y, DataW.trod enc P W 0 (fun _ => true) true m e ((cs.drop o).take (P.cellsOf e)) = some y ∧ ∀ n ∈ y.1.weights P e, n ∈ d.weights P t := by
  unfold fieldsOf at hf
  split at hf
  · rename_i fs hu
    obtain ⟨xs, m, _, hx, hcl, hxl, hfi⟩ := DataW.trod_struct hu h
    have hl := (Option.some.inj hf)
    simp only [Prod.mk.injEq] at hx
    obtain ⟨rfl, rfl⟩ := hx
    refine ⟨xs, m, hcl, by rw [hxl, ← hl]; simp, fun i e o hi => ?_⟩
    rw [← hl, List.getElem?_map] at hi
    obtain ⟨f, hf1, hf2⟩ := Option.map_eq_some_iff.1 hi
    cases hf2
    have hi2 : i < xs.length := by
      rw [hxl]
      have := (List.getElem?_eq_some_iff.1 hf1).1
      simpa using this
    have := hfi i f (by simpa using hf1)
    rw [List.getElem?_eq_getElem hi2] at this
    refine ⟨xs[i], this, fun n hn => ?_⟩
    simp only [DataW.weights, hu]
    exact DataW.weights_mem_each (j := i) (t := f.type) (d := xs[i].1) (by rw [List.getElem?_map, hf1]; rfl) (by rw [List.getElem?_map, List.getElem?_eq_getElem hi2]; rfl) n hn
  · cases hf
end
section
variable {H : Type} {enc : TypeId × Value → H} {W : World}
theorem trod_int_nat {P : Program} {t : TypeId} {k : IntKind} {V : Value} {y : DataW H × List MemPlace} {n : Nat} (m : Nat) (ht : P.underlying t = some (.int k)) (hm : k.min = 0 ∧ k.max < (m : Int)) (h : DataW.trod enc P W 0 (fun _ => true) true n t [V] = some y) : ∃ z : Nat, V = .int k (z : Int) ∧ z < m := by
  obtain ⟨z, h1, _, h2⟩ := DataW.trod_int ht h
  simp only [List.cons.injEq, and_true] at h1
  obtain ⟨q, rfl, hq⟩ := nat_of h2 hm
  exact ⟨q, h1, hq⟩
/-- a slice of structs is opened -/
theorem open_rowsG {P : Program} {α : Type} [Inhabited α] (f : α → List Value) (s : Nat) (hs : ∀ x, (f x).length = s) (hs1 : 0 < s) {t e : TypeId} (ht : P.underlying t = some (.slice e)) (hce : P.cellsOf e = s) (by_ : Nat) (hby : P.bytesOf e = by_) (Q : α → Prop)
    {V : Value} {d : DataW H} {ps : List MemPlace} {n : Nat} (h : DataW.trod enc P W 0 (fun _ => true) true n t [V] = some (d, ps)) (hre : ∀ n ∈ d.weights P t, n ≤ reachBytes)
    (ho : ∀ cs d ps n, DataW.trod enc P W 0 (fun _ => true) true n e cs = some (d, ps) → (∀ n ∈ d.weights P e, n ≤ reachBytes) → ∃ x, cs = f x ∧ Q x) :
    ∃ (A : Option Addr) (c : Nat) (l : List α), V = .slice A l.length c ∧ l.length ≤ c ∧ l.length * by_ ≤ 140737488351232 ∧ Rd W W.heap.size A (l.length * s) (l.flatMap f) ∧ ∀ x ∈ l, Q x := by
  rcases Go.Deep.open_slice ht h with ⟨hcs, hx⟩ | ⟨a, len, cap, m, n', D, Pl, hcs, _, hl, hm, hmm, hx, hV⟩
  · simp only [List.cons.injEq, and_true] at hcs
    exact ⟨none, 0, [], hcs, Nat.le_refl _, by simp, by simpa using Rd.nil _ _ _, fun _ h => by cases h⟩
  · simp only [List.cons.injEq, and_true] at hcs
    subst hcs
    simp only [if_true] at hmm
    obtain rfl := hmm.symm
    simp only [Prod.mk.injEq] at hx
    obtain ⟨rfl, rfl⟩ := hx
    have hw := hre (((List.map D (List.range len)).length + (List.map (fun j => D (len + j)) (List.range (cap - len))).length) * P.bytesOf e) (by simp [DataW.weights, ht])
    simp only [List.length_map, List.length_range, hby, reachBytes] at hw
    rw [hce] at hV
    obtain ⟨R, hR⟩ := Go.Deep.choose_lt (α := α) (n := len) (p := fun i x => W.cells? 0 (a.add (i * s)) s = some (f x) ∧ Q x) (fun i hi => by
      obtain ⟨cs', h1, h2⟩ := hV i (by omega)
      obtain ⟨x, hx, hsx⟩ := ho _ _ _ _ h2 (fun n hn => hre n (by
        simp only [DataW.weights, ht, List.mem_cons, List.mem_append]
        right; left
        exact weights_all_memS hn (List.mem_map.2 ⟨i, List.mem_range.2 hi, rfl⟩)))
      subst hx
      exact ⟨x, h1, hsx⟩)
    have hrl : ((List.range len).map R).length = len := by simp
    have hwl : len * by_ ≤ 140737488351232 := Nat.le_trans (Nat.mul_le_mul_right _ (Nat.le_add_right _ _)) hw
    refine ⟨some a, cap, (List.range len).map R, by rw [hrl], by rw [hrl]; exact hl, by rw [hrl]; exact hwl, ?_, fun x hx => ?_⟩
    · rw [hrl]
      have hfl : (((List.range len).map R).flatMap f).length = len * s := by
        have : ∀ q : List α, (q.flatMap f).length = q.length * s := fun q => by
          induction q with
          | nil => simp
          | cons a q ih => rw [List.flatMap_cons, List.length_append, hs, List.length_cons, ih, Nat.add_mul, Nat.one_mul, Nat.add_comm]
        rw [this, hrl]
      refine rd_of_cells _ hfl fun j u hu => ?_
      have hj : j < len * s := by
        rcases Nat.lt_or_ge j (len * s) with h1 | h1
        · exact h1
        · rw [List.getElem?_eq_none (by omega)] at hu; cases hu
      have hq : j / s < len := Nat.div_lt_of_lt_mul (by rw [Nat.mul_comm]; exact hj)
      have hjq : j = j / s * s + j % s := by rw [Nat.mul_comm]; exact (Nat.div_add_mod j s).symm
      have hms : j % s < s := Nat.mod_lt _ hs1
      have h1 := flat_get f s hs ((List.range len).map R) (j / s) (j % s) (by rw [hrl]; exact hq) hms
      rw [← hjq, hu] at h1
      simp only [List.getElem_map, List.getElem_range] at h1
      obtain ⟨_, _, h3⟩ := World.cells?_some (hR (j / s) hq).1
      have h4 := h3 (j % s) hms
      rw [Go.Deep.add_add, ← hjq] at h4
      rw [h4, h1]
    · obtain ⟨i, hi, rfl⟩ := List.mem_map.1 hx
      exact (hR i (List.mem_range.1 hi)).2
instance : Inhabited QR := ⟨⟨none, 0, zQ⟩⟩
instance : Inhabited RR := ⟨⟨none, 0, none, 0, none, 0, zR⟩⟩
theorem qnFields : fieldsOf Try.prog 42 = some [(37, 0), (25, 1), (25, 2)] := by kernel_rfl
theorem rcFields : fieldsOf Try.prog 49 = some [(42, 0), (47, 3), (22, 4), (25, 5), (25, 6), (25, 7), (37, 8)] := by kernel_rfl
theorem msFields : fieldsOf Try.prog 30 = some [(25, 0), (25, 1), (26, 2), (28, 3)] := by kernel_rfl
set_option maxRecDepth 100000 in
theorem open_qn {cs : List Value} {d : DataW H} {ps : List MemPlace} {n : Nat} (h : DataW.trod enc Try.prog W 0 (fun _ => true) true n 42 cs = some (d, ps)) (hre : ∀ n ∈ d.weights Try.prog 42, n ≤ reachBytes) :
    ∃ x : QR, cs = x.cells ∧ QR0 W W.heap.size x := by
  obtain ⟨xs, m, hcl, hxl, hfi⟩ := trod_structL qnFields h
  rw [show Try.prog.cellsOf 42 = 3 by kernel_rfl] at hcl
  match cs, hcl with
  | [c0, c1, c2], _ =>
    obtain ⟨y0, t0, w0⟩ := hfi 0 _ _ rfl
    obtain ⟨y1, t1, w1⟩ := hfi 1 _ _ rfl
    obtain ⟨y2, t2, w2⟩ := hfi 2 _ _ rfl
    rw [show Try.prog.cellsOf 37 = 1 by kernel_rfl] at t0
    rw [show Try.prog.cellsOf 25 = 1 by kernel_rfl] at t1 t2
    simp only [List.drop_succ_cons, List.drop_zero, List.take_succ_cons, List.take_zero] at t0 t1 t2
    obtain ⟨A0, k0, l0, rfl, h0⟩ := open_cellS Try.underlying37 Try.underlying9 Try.cellsStr Try.bytesStr t0 (fun n hn => hre n (w0 n hn))
    obtain ⟨z1, rfl, b1⟩ := trod_int_nat 65536 Try.underlying25 (by decide) t1
    obtain ⟨z2, rfl, b2⟩ := trod_int_nat 65536 Try.underlying25 (by decide) t2
    exact ⟨⟨A0, k0, ⟨l0, z1, z2⟩⟩, rfl, h0, b1, b2⟩
set_option maxRecDepth 100000 in
theorem open_rc {cs : List Value} {d : DataW H} {ps : List MemPlace} {n : Nat} (h : DataW.trod enc Try.prog W 0 (fun _ => true) true n 49 cs = some (d, ps)) (hre : ∀ n ∈ d.weights Try.prog 49, n ≤ reachBytes) :
    ∃ x : RR, cs = x.cells ∧ RR0 W W.heap.size x := by
  obtain ⟨xs, m, hcl, hxl, hfi⟩ := trod_structL rcFields h
  rw [show Try.prog.cellsOf 49 = 9 by kernel_rfl] at hcl
  match cs, hcl with
  | [c0, c1, c2, c3, c4, c5, c6, c7, c8], _ =>
    obtain ⟨y0, t0, w0⟩ := hfi 0 _ _ rfl
    obtain ⟨y1, t1, w1⟩ := hfi 1 _ _ rfl
    obtain ⟨y2, t2, w2⟩ := hfi 2 _ _ rfl
    obtain ⟨y3, t3, w3⟩ := hfi 3 _ _ rfl
    obtain ⟨y4, t4, w4⟩ := hfi 4 _ _ rfl
    obtain ⟨y5, t5, w5⟩ := hfi 5 _ _ rfl
    obtain ⟨y6, t6, w6⟩ := hfi 6 _ _ rfl
    rw [show Try.prog.cellsOf 42 = 3 by kernel_rfl] at t0
    rw [show Try.prog.cellsOf 47 = 1 by kernel_rfl] at t1
    rw [show Try.prog.cellsOf 22 = 1 by kernel_rfl] at t2
    rw [show Try.prog.cellsOf 25 = 1 by kernel_rfl] at t3 t4 t5
    rw [show Try.prog.cellsOf 37 = 1 by kernel_rfl] at t6
    simp only [List.drop_succ_cons, List.drop_zero, List.take_succ_cons, List.take_zero] at t0 t1 t2 t3 t4 t5 t6
    obtain ⟨q, hq, hq0⟩ := open_qn t0 (fun n hn => hre n (w0 n hn))
    obtain ⟨z1, rfl, b1⟩ := trod_int_nat 4294967296 Try.underlying47 (by decide) t1
    obtain ⟨A2, k2, l2, rfl, h2, h2c, h2l⟩ := open_cellB Try.underlying22 Try.underlying5 Try.cellsByte Try.bytesByte t2 (fun n hn => hre n (w2 n hn))
    obtain ⟨z3, rfl, b3⟩ := trod_int_nat 65536 Try.underlying25 (by decide) t3
    obtain ⟨z4, rfl, b4⟩ := trod_int_nat 65536 Try.underlying25 (by decide) t4
    obtain ⟨z5, rfl, b5⟩ := trod_int_nat 65536 Try.underlying25 (by decide) t5
    obtain ⟨A6, k6, l6, rfl, h6⟩ := open_cellS Try.underlying37 Try.underlying9 Try.cellsStr Try.bytesStr t6 (fun n hn => hre n (w6 n hn))
    obtain ⟨qA, qc, qn⟩ := q
    simp only [QR.cells, List.cons.injEq, and_true] at hq
    obtain ⟨rfl, rfl, rfl⟩ := hq
    exact ⟨⟨qA, qc, A2, k2, A6, k6, ⟨qn, z1, l2, z3, z4, z5, l6⟩⟩, rfl, hq0, ⟨h2, h2c, by simp only; omega⟩, h6, b1, b3, b4, b5⟩
set_option maxRecDepth 100000 in
theorem open_msg {base : Nat} {v : Value} {d : DataW H} {ps : List MemPlace} (hval : Value.okWide Try.prog W .any base 30 v) (hd : DataW.Trod enc Try.prog W 0 (fun _ => true) true 30 v d ps) (hre : ∀ n ∈ d.weights Try.prog 30, n ≤ reachBytes) :
    ∃ x : MR, v.cells.toList = x.cells ∧ M0 W W.heap.size x := by
  obtain ⟨fuel, h⟩ := hd
  obtain ⟨xs, m, hcl, hxl, hfi⟩ := trod_structL msFields h
  rw [show Try.prog.cellsOf 30 = 6 by kernel_rfl] at hcl
  generalize v.cells.toList = cs at hcl hfi ⊢
  match cs, hcl with
  | [c0, c1, c2, c3, c4, c5], _ =>
    obtain ⟨y0, t0, w0⟩ := hfi 0 _ _ rfl
    obtain ⟨y1, t1, w1⟩ := hfi 1 _ _ rfl
    obtain ⟨y2, t2, w2⟩ := hfi 2 _ _ rfl
    obtain ⟨y3, t3, w3⟩ := hfi 3 _ _ rfl
    rw [show Try.prog.cellsOf 25 = 1 by kernel_rfl] at t0 t1
    rw [show Try.prog.cellsOf 26 = 1 by kernel_rfl] at t2
    rw [show Try.prog.cellsOf 28 = 3 by kernel_rfl] at t3
    simp only [List.drop_succ_cons, List.drop_zero, List.take_succ_cons, List.take_zero] at t0 t1 t2 t3
    obtain ⟨z0, rfl, b0⟩ := trod_int_nat 65536 Try.underlying25 (by decide) t0
    obtain ⟨z1, rfl, b1⟩ := trod_int_nat 65536 Try.underlying25 (by decide) t1
    have hqo := fun (cs : List Value) (d : DataW H) (ps : List MemPlace) (n : Nat) (h1 : DataW.trod enc Try.prog W 0 (fun _ => true) true n 42 cs = some (d, ps)) h2 => open_qn (W := W) (enc := enc) (n := n) h1 h2
    have hro := fun (cs : List Value) (d : DataW H) (ps : List MemPlace) (n : Nat) (h1 : DataW.trod enc Try.prog W 0 (fun _ => true) true n 49 cs = some (d, ps)) h2 => open_rc (W := W) (enc := enc) (n := n) h1 h2
    obtain ⟨A2, k2, l2, rfl, h2c, h2b, h2r, h2q⟩ := open_rowsG QR.cells 3 QR.cells_length (by omega) Try.underlying26 (by kernel_rfl) 32 (by kernel_rfl) (QR0 W W.heap.size) t2 (fun n hn => hre n (w2 n hn)) hqo
    obtain ⟨u0, u1, u2, q, hy, s0, s1, s2⟩ := trod_array3 Try.underlying28 (by kernel_rfl) t3
    have hwa : ∀ u : DataW H, u = u0.1 ∨ u = u1.1 ∨ u = u2.1 → ∀ n ∈ u.weights Try.prog 27, n ≤ reachBytes := fun u hu n hn => hre n (w3 n (by
      rw [hy]
      simp only [DataW.weights, Try.underlying28]
      exact weights_all_memS hn (by rcases hu with rfl | rfl | rfl <;> simp)))
    obtain ⟨A3, k3, l3, rfl, h3c, h3b, h3r, h3q⟩ := open_rowsG RR.cells 9 RR.cells_length (by omega) Try.underlying27 (by kernel_rfl) 96 (by kernel_rfl) (RR0 W W.heap.size) s0 (hwa _ (Or.inl rfl)) hro
    obtain ⟨A4, k4, l4, rfl, h4c, h4b, h4r, h4q⟩ := open_rowsG RR.cells 9 RR.cells_length (by omega) Try.underlying27 (by kernel_rfl) 96 (by kernel_rfl) (RR0 W W.heap.size) s1 (hwa _ (Or.inr (Or.inl rfl))) hro
    obtain ⟨A5, k5, l5, rfl, h5c, h5b, h5r, h5q⟩ := open_rowsG RR.cells 9 RR.cells_length (by omega) Try.underlying27 (by kernel_rfl) 96 (by kernel_rfl) (RR0 W W.heap.size) s2 (hwa _ (Or.inr (Or.inr rfl))) hro
    exact ⟨⟨z0, z1, A2, k2, l2, A3, k3, l3, A4, k4, l4, A5, k5, l5⟩, rfl, b0, b1, ⟨h2r, rfl, h2c, by simp only; omega, h2q⟩, ⟨h3r, rfl, h3c, by simp only; omega, h3q⟩, ⟨h4r, rfl, h4c, by simp only; omega, h4q⟩, ⟨h5r, rfl, h5c, by simp only; omega, h5q⟩⟩
end
set_option maxRecDepth 100000 in
theorem open_msgv {H : Type} {enc : TypeId × Value → H} {W : World} {base : Nat} {v : Value} {d : DataW H} {ps : List MemPlace} (hval : Value.okWide Try.prog W .any base 30 v) (hd : DataW.Trod enc Try.prog W 0 (fun _ => true) true 30 v d ps) (hre : ∀ n ∈ d.weights Try.prog 30, n ≤ reachBytes) :
    ∃ x : MR, v = .agg x.cells.toArray ∧ M0 W W.heap.size x := by
  obtain ⟨x, h1, h2⟩ := open_msg hval hd hre
  obtain ⟨cs, rfl, _⟩ := Go.WideShapes.okWide_struct Try.underlying30 hval
  exact ⟨x, by rw [← h1]; simp [Value.cells], h2⟩
open Go.RowKit
theorem zmsg_m0 (w5 : World) (A0 : Option Addr) (c0 n0 : Nat) (nm : List (List UInt8)) (h : NR0 w5 w5.heap.size A0 c0 nm) (hn0 : nm.length = n0) :
    M0 (w5.alloc (.cells #[.slice A0 n0 c0, .int .u16 0, .int .u16 0] 42)) (w5.alloc (.cells #[.slice A0 n0 c0, .int .u16 0, .int .u16 0] 42)).heap.size ⟨0, 0, some ⟨w5.heap.size, 0, none⟩, 1, [⟨A0, c0, ⟨nm, 0, 0⟩⟩], none, 0, [], none, 0, [], none, 0, []⟩ := by
  subst hn0
  have hR : ∀ (w : World) (B : Nat), RsR0 w B none 0 0 [] := fun w B => ⟨Rd.nil _ _ _, rfl, Nat.le_refl _, Nat.zero_le _, fun x h => (by cases h)⟩
  refine ⟨by show 0 < 65536; omega, by show 0 < 65536; omega, ⟨Rd.lit_top0 w5 42 (qcs [⟨A0, c0, ⟨nm, 0, 0⟩⟩]) 3 rfl, rfl, Nat.le_refl 1, by show 1 ≤ 5000000000000; omega, fun z hz => ?_⟩, hR _ _, hR _ _, hR _ _⟩
  simp only [List.mem_singleton] at hz
  subst hz
  exact ⟨(h.below (below_new w5 _)).more (below_new w5 _).size, by show 0 < 65536; omega, by show 0 < 65536; omega⟩
set_option maxRecDepth 100000 in
set_option maxHeartbeats 16000000 in
theorem dnsWrites_any (x y : MR) (A0 : Option Addr) (c0 : Nat) (nm : List (List UInt8)) (ty : Nat) (w : World) (hx : M0 w w.heap.size x) (hy : M0 w w.heap.size y) (hnm : NR0 w w.heap.size A0 c0 nm) (hty : ty < 65536) :
    Calls Try.prog 8 #[.agg x.cells.toArray, .agg y.cells.toArray, .slice A0 nm.length c0, .int .u16 (ty : Int)] w fun e w' => e = .returned (.bool true) ∧ Below w.heap.size w w' := by
  obtain ⟨n0, hn0⟩ : ∃ n, n = nm.length := ⟨_, rfl⟩
  rw [← hn0]
  have HN0 := Lib.hid hn0.symm
  have hb01 := below_two w (.cells x.cells.toArray 30) (.cells y.cells.toArray 30)
  have v4 : Vx ((w.alloc (.cells x.cells.toArray 30)).alloc (.cells y.cells.toArray 30)) w.heap.size 30 x.cells := (vx_two (Below.refl _ _)).1
  have v5 : Vx ((w.alloc (.cells x.cells.toArray 30)).alloc (.cells y.cells.toArray 30)) (w.heap.size + 1) 30 y.cells := (vx_two (Below.refl _ _)).2
  obtain ⟨G5, hG5⟩ : ∃ G, G = w.heap.size + 1 := ⟨_, rfl⟩
  rw [← hG5] at v5
  have HX := Lib.hid hx
  have HY := Lib.hid hy
  have HNM := Lib.hid hnm
  clear hx hy hnm hn0
  go_enter Try.func8, Try.ntmps8
  go_upto_region 1 with fail
  rw [← hG5]
  generalize (w.alloc (.cells x.cells.toArray 30)).alloc (.cells y.cells.toArray 30) = W2 at *
  have V4 := Lib.hid v4
  have V5 := Lib.hid v5
  have HB01 := Lib.hid hb01
  have hT4 : w.heap.size < W2.heap.size := v4.lt
  have hT5 : G5 < W2.heap.size := v5.lt
  have hM2 : ∀ W, Below W2.heap.size W2 W → M0 W W.heap.size x ∧ M0 W W.heap.size y ∧ NR0 W W.heap.size A0 c0 nm := fun W hW => by
    have h1 := hb01.trans (hW.mono hb01.size)
    exact ⟨(HX.out.below h1).more h1.size, (HY.out.below h1).more h1.size, (HNM.out.below h1).more h1.size⟩
  have HM2 := Lib.hid hM2
  have HFI := Lib.hid (fun (W : World) (h : Below W2.heap.size W2 W) => hb01.trans (h.mono hb01.size))
  clear v4 v5 hb01 hG5 hM2
  go_wp2_with (first
    | (refine wpList_load_row rfl 30 _ rfl w.heap.size rfl _ _ _ _ v4a Try.underlying30 rfl (by kernel_rfl) ?_)
    | (refine wpList_load_row rfl 30 _ rfl G5 rfl _ _ _ _ v5a Try.underlying30 rfl (by kernel_rfl) ?_)
    | (refine wpList_load_row rfl 30 _ rfl w.heap.size rfl _ _ _ _ V4.out Try.underlying30 rfl (by kernel_rfl) ?_)
    | (go_at_call 13
       have _t := tokW
       refine (dawake_any w6).mono ?_
       rintro e w7 ⟨rfl, hb7⟩
       have hfin := hbz5.trans ((hb6.trans (hb7.mono hb6.size)).mono hbz5.size))
    | (go_at_call 13
       refine (dawake_any w5).mono ?_
       rintro e w7 ⟨rfl, hb7⟩
       have hfin := hbz5.trans (hb7.mono hbz5.size))
    | (go_at_call 13
       refine (dawake_any w4).mono ?_
       rintro e w7 ⟨rfl, hb7⟩
       have hfin := hbz4.trans (hb7.mono hbz4.size))
    | (go_at_call 13
       refine (dawake_any w3).mono ?_
       rintro e w7 ⟨rfl, hb7⟩
       have hfin := hbz3.trans (hb7.mono hbz3.size))
    | (go_at_call 28
       have tokW := True.intro
       have hb3t : b3 = true := by
         have hh : (!b3) = false := by assumption
         simpa using hh
       have h3 := hl3 hb3t
       have hnB : lnB nm = true := h3.2.1 ⟨A0, c0, ⟨nm, 0, 0⟩⟩ (by simp)
       refine (writes_at x y A0 c0 n0 nm ty w5 ((hl1 (by assumption)).mrd (HM2.out _ hbz5).1) ((hl2 (by assumption)).mrd (HM2.out _ hbz5).2.1) (hl1 (by assumption)).cpy (hl2 (by assumption)).cpy HN0.out (lnB_nrd (HM2.out _ hbz5).2.2 hnB) hty).mono ?_
       rintro e w6 ⟨rfl, hb6⟩)
    | (go_at_call 27
       have _t := tok2
       refine (little_at ⟨0, 0, some ⟨w4.heap.size, 0, none⟩, 1, [⟨A0, c0, ⟨nm, 0, 0⟩⟩], none, 0, [], none, 0, [], none, 0, []⟩ (w4.alloc (.cells #[.slice A0 n0 c0, .int .u16 0, .int .u16 0] 42)) (zmsg_m0 w4 A0 c0 n0 nm (HM2.out _ hbz4).2.2 HN0.out)).mono ?_
       rintro e w5 ⟨b3, rfl, hl3, hb5⟩
       have hbz5 := hbz4.trans (((below_new w4 _).trans (hb5.mono (below_new w4 _).size)).mono hbz4.size)
       have v4a := V4.out.below hbz5 hT4
       have v5a := V5.out.below hbz5 hT5)
    | (go_at_call 27
       have _t := tok1
       refine (little_at y w3 (HM2.out _ hbz3).2.1).mono ?_
       rintro e w4 ⟨b2, rfl, hl2, hb4⟩
       have tok2 := True.intro
       have hbz4 := hbz3.trans (hb4.mono hbz3.size))
    | (go_at_call 27
       refine (little_at x W2 (HM2.out _ (Below.refl _ _)).1).mono ?_
       rintro e w3 ⟨b1, rfl, hl1, hbz3⟩
       have tok1 := True.intro
       have v5b : Vx w3 G5 30 [.int .u16 (y.id : Int), .int .u16 (y.fl : Int), .slice y.qA y.qs.length y.qc, .slice y.aA y.r0.length y.ac, .slice y.bA y.r1.length y.bc, .slice y.cA y.r2.length y.cc] := V5.out.below hbz3 hT5
       obtain ⟨q0, q1, q2, q3, q4, q5⟩ := v5b.c6))
  all_goals go_ret
  all_goals exact ⟨rfl, HFI.out _ hfin⟩
end Go.Proofs.Ytmhehgalfmdldaa
