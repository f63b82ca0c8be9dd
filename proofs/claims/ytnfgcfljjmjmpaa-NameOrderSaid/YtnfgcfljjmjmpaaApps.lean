/-
  gaugerlaw16.appends: Append and the reference's Append agree, and write nothing of what was lent to them.
-/
import Derived.Test.YtnfgcfljjmjmpaaInts
import Derived.Test.YtnfgcfljjmjmpaaEnds
set_option linter.unusedVariables false
set_option linter.unusedSimpArgs false
namespace Go.Proofs.Ytnfgcfljjmjmpaa
open Go.RowKit
/-- append where there is room: the world under a name of its own -/
theorem wpList_roomW {P : Program} (w : World) {ops : Array Oper} {rest : List Oper} {o : Oper} {a : Act} {Q : Exit → Act → World → Prop} (hgd : o.guard = none) (s x : Operand) (t tx : TypeId)
    (ho : o.op = .call { callee := .builtin .append, args := #[s, x], argTypes := #[t, tx] })
    (e : TypeId) (i : TypeInfo) (ht : P.underlying t = some (.slice e)) (hi : P.info? e = some i) (hsize : i.size = 1)
    (g sLen sCap : Nat) (cur : List Value) (hg : Whole w g e cur) (hv : a.eval s = .slice (some ⟨g, 0, none⟩) sLen sCap) (n : Nat) (news : List Value) (hs : Src P 1 tx (a.eval x) n news w)
    (hroom : sLen + n ≤ sCap) (hfit : sLen + news.length ≤ cur.length) (all : List Value) (hall : cur.take sLen ++ news ++ cur.drop (sLen + news.length) = all)
    (h : ∀ w', Whole w' g e all → (∀ B, B ≤ g → Below B w w') → w'.heap.size = w.heap.size → wpList P ops Q rest (a.put o.dst (.slice (some ⟨g, 0, none⟩) (sLen + n) sCap)) w') : wpList P ops Q (o :: rest) a w := by
  refine wpList_room w hgd s x t tx ho e i ht hi hsize g sLen sCap cur.toArray hg hv n news hs hroom (by simpa using hfit) ?_
  refine h _ ?_ (fun B hB => ⟨rfl, rfl, rfl, by simp, fun k hk => setRow_other w g k _ (by omega)⟩) (by simp)
  unfold Whole
  rw [← hall]
  exact setRow_heap w g cur.toArray _ e _ hg
theorem Whole.rdB {w : World} {g : Nat} {e : TypeId} {b z : List UInt8} (h : Whole w g e (bc (b ++ z))) {L : Nat} (hL : b.length = L) : Rd w w.heap.size (some ⟨g, 0, none⟩) L (bc b) := by
  have := h.rd 0 L (by simp [hL])
  rw [List.drop_zero, bc_append, List.take_left' (by simp [hL])] at this
  exact this
theorem Whole.rdZ {w : World} {g : Nat} {e : TypeId} {b z : List UInt8} (h : Whole w g e (bc (b ++ z))) {L K : Nat} (hL : b.length = L) (hK : z.length = K) : Rd w w.heap.size (some ⟨g, L, none⟩) K (bc z) := by
  have := h.rd L K (by simp [hL, hK])
  rw [bc_append, List.drop_left' (by simp [hL]), List.take_of_length_le (by simp [hK])] at this
  exact this
theorem Whole.other {w : World} {g q : Nat} {e : TypeId} {xs : List Value} (h : Whole w g e xs) (hne : g ≠ q) (k : Nat) (u : Value) : Whole (w.setCell ⟨q, k, none⟩ u) g e xs :=
  (Below.heap_setCell w ⟨q, k, none⟩ u g (fun e => hne e)).trans h
theorem nz_zeros (k : Nat) : (List.replicate k (0 : UInt8)).any nzP = false := by
  rw [List.any_eq_false]
  intro x hx
  rw [List.eq_of_mem_replicate hx]
  unfold nzP; decide
theorem appR_len (b : List UInt8) (known : List Int) (n : List (List UInt8)) : (appR b known n).1.length ≤ b.length + 255 := by
  unfold appR
  split
  · rename_i h
    have h1 := (app_reads b known n h).2.2.1
    have h2 := size_right h
    simp only; omega
  · simp
set_option maxRecDepth 100000 in
set_option maxHeartbeats 1000000 in
theorem appends_any (A1 A2 A3 : Option Addr) (c1 c2 c3 L1 L2 L3 : Nat) (b : List UInt8) (known : List Int) (n : List (List UInt8)) (w : World) (hL1 : b.length = L1) (hL2 : known.length = L2) (hL3 : n.length = L3)
    (r1 : Rd w w.heap.size A1 L1 (bc b)) (hc1 : L1 ≤ c1) (hb : L1 ≤ 90000) (r2 : Rd w w.heap.size A2 L2 (ic known)) (hk : L2 ≤ 1000)
    (r3 : Rd w w.heap.size A3 L3 (sc n)) (hc3 : L3 ≤ c3) (hs : sizeN n ≤ 140737488355328) :
    Calls Try.prog 28 #[.slice A1 L1 c1, .slice A2 L2 c2, .slice A3 L3 c3] w fun e w' => e = .returned (.bool true) ∧ Below w.heap.size w w' := by
  obtain ⟨i0, hi, hz0, hz1, hz2⟩ := info_parts Try.infoByte
  have hmk := run_mkcap (L1 + 300) (by omega)
  have hnum : ((L1 + 300 : Nat) : Int) = (L1 : Int) + 300 := by omega
  rw [hnum] at hmk
  have H1 := Lib.hid hL1
  have H2 := Lib.hid hL2
  have H3 := Lib.hid hL3
  obtain ⟨Zl, hZl⟩ : ∃ Z, Z = bc (List.replicate (L1 + 300) 0) := ⟨_, rfl⟩
  rw [← hZl] at hmk
  have hZs : Zl.length = L1 + 300 := by rw [hZl]; simp
  have hall : Zl.take 0 ++ bc b ++ Zl.drop (0 + (bc b).length) = bc (b ++ List.replicate 300 0) := by
    rw [hZl, List.take_zero, List.nil_append, bc_length, Nat.zero_add, hL1, bc_append]
    congr 1
    simp [bc]
  obtain ⟨R, er, hR⟩ : ∃ R er, appR b known n = (R, er) := ⟨_, _, rfl⟩
  have hRl : R.length ≤ 100000 := by
    have := appR_len b known n
    rw [hR, hL1] at this
    simp only at this; omega
  have HR := Lib.hid hR
  obtain ⟨RL, hRL⟩ : ∃ k, R.length = k := ⟨_, rfl⟩
  rw [hRL] at hRl
  have HRL := Lib.hid hRL
  clear hRL
  have HZs := Lib.hid hZs
  have HAll := Lib.hid hall
  clear hL1 hL2 hL3 hR hZl hZs hnum hall
  go_enter Try.func28, Try.ntmps28
  have tok : True := trivial
  go_wp2_with (first
    | (go_at_call 51; refine (ieq_at A4 A2 c4 c2 L2 L2 known known true w4 (decide_eq_true rfl) H2.out H2.out (k4.get (.tail _ (.tail _ (.head _)))) (k4.get (.tail _ (.tail _ (.tail _ (.tail _ (.head _)))))) (by omega) (by omega)).mono ?_; rintro e w6 ⟨rfl, q, hq⟩; have hB6 := below_step hB4 hq; have hW6 : Whole w6 w.heap.size 5 (bc (b ++ List.replicate 300 0)) := (by rw [hq] <;> exact hW4); have hown6 : Ow w6 w2.heap.size 5 (.slice A5 RL c5) (bc R) := (by rw [hq] <;> exact hown4); clear hq)
    | (go_at_call 40; refine (beq_at A5 A6 c5 c6 RL RL R R w4 w4.heap.size HRL.out HRL.out (k4.get (.head _)) r6).mono ?_; rw [decide_eq_true (rfl : R = R)]; rintro e w4 ⟨rfl, rfl⟩)
    | (go_at_call 50; refine (rappend_all w3 A1 A2 A3 c1 c2 c3 L1 L2 L3 b known n H1.out H2.out H3.out (k3.get (.tail _ (.tail _ (.tail _ (.head _))))) hc1 (by omega) (k3.get (.tail _ (.tail _ (.tail _ (.tail _ (.head _)))))) hk (k3.get (.tail _ (.tail _ (.tail _ (.tail _ (.tail _ (.head _))))))) hc3 hs).mono ?_; rw [HR.out]; rintro e w4 ⟨v4, rfl, hown4', hb4⟩; obtain ⟨A6, c6, rfl, hl6, r6⟩ := hown4'.form7 RL (by rw [bc_length]; exact HRL.out); have hB4 := hB3.trans (hb4.mono hB3.size); have hW4 := hW3.below hb4 hW3.lt; have k4 := k3.below hb4; have hown4 := hown3.far hb4; clear hown4' hb4)
    | (go_at_call 21; refine (append_all w2 (some ⟨w.heap.size, 0, none⟩) A4 A3 (L1 + 300) c4 c3 L1 L2 L3 b known n H1.out H2.out H3.out (k2.get (.head _)) (by omega) (by omega) (k2.get (.tail _ (.head _))) hk (k2.get (.tail _ (.tail _ (.tail _ (.tail _ (.head _)))))) hc3 hs).mono ?_; rw [HR.out]; rintro e w3 ⟨v3, rfl, hown3, hb3⟩; obtain ⟨A5, c5, rfl, hl5, r5⟩ := hown3.form7 RL (by rw [bc_length]; exact HRL.out); have hB3 := hB2.trans (hb3.mono hB2.size); have hW3 := hW2.below hb3 hW2.lt; have k3 := (k2.below hb3).cons r5; clear hb3)
    | (at_builtin; have _t := tok; refine wpList_roomW (w.alloc (.cells Zl.toArray 5)) rfl _ _ _ _ rfl 5 i0 Try.underlying22 hi hz1 w.heap.size 0 (L1 + 300) Zl (Whole.new w _ _) rfl L1 (bc b) (Rd.src (r1.alloc (Nat.le_refl _) _) Try.underlying22 (bc_one _)) (by omega) (by rw [HZs.out, bc_length, H1.out]; omega) _ HAll.out ?_; intro w1 hW1 hbl1 hsz1; have hB1 : Below w.heap.size w w1 := ((Below.refl _ w).alloc (Nat.le_refl _) _).trans (hbl1 _ (Nat.le_refl _)); have k1 : Knows w1 [(A1, L1, bc b), (A2, L2, ic known), (A3, L3, sc n)] := (((Knows.nil w1).cons ((r3.below hB1).more hB1.size)).cons ((r2.below hB1).more hB1.size)).cons ((r1.below hB1).more hB1.size); clear tok hsz1 hbl1)
    | (go_at_call 49; refine (iclone_at A2 c2 L2 known w1 H2.out (k1.get (.tail _ (.head _))) (by omega)).mono ?_; rintro e w2 ⟨v2, rfl, hown2, hb2⟩; obtain ⟨A4, c4, rfl, hl4, r4⟩ := hown2.form7 L2 (by rw [ic_length]; exact H2.out); have hB2 := hB1.trans (hb2.mono hB1.size); have hW2 := hW1.below hb2 hW1.lt; have k2 := ((k1.below hb2).cons r4).cons (hW2.rdB H1.out); clear hown2 hb2))
  obtain ⟨g, hg⟩ : ∃ g, g = w.heap.size := ⟨_, rfl⟩
  have hgw2 : g < w2.heap.size := by rw [hg]; exact hW2.lt
  rw [← hg] at hW6
  have hgB : w.heap.size ≤ g := by omega
  have HG := Lib.hid hg
  clear hg k1 k2 k3 k4 r4 r5 r6 hW1 hW2 hW3 hW4 hB1 hB2 hB3 hB4 hown3 hown4 hmk
  rw [← HG.out]
  go_loopw [54] (fun i wr => ∃ (k : Nat) (l : List UInt8), k ≤ RL ∧ i = .int .i64 k ∧ Ow wr w2.heap.size 5 (.slice A5 RL c5) (bc l) ∧ Whole wr g 5 (bc (b ++ List.replicate 300 0)) ∧ Below w.heap.size w wr) (fun i _ => RL - (intOf i).toNat)
  case atStart => exact ⟨0, R, Nat.zero_le _, rfl, hown6, hW6, hB6⟩
  case round =>
    clear hown6 hW6 hB6
    obtain ⟨k, l, hk5, rfl, hown, hW, hbel⟩ := hrel
    have hll := hown.len
    rw [bc_length] at hll
    by_cases hlt : k < RL
    · obtain ⟨g5, cap, hv, hg1, hg2⟩ := World.ownsRow.form hown (by rw [bc_length]; omega)
      injection hv with hv1 hv2 hv3
      subst hv1
      have hkl : k < l.length := by omega
      have hcell := hown.cell_at k hlt
      rw [bc_get l k hkl] at hcell
      have hfz := hown.frozen_at k
      have HOW := Lib.hid hown
      have hgg : g ≠ g5 := by omega
      have hg5 : w.heap.size ≤ g5 := by omega
      clear hv2 hv3 hown hll
      go_wp2_with fail
      go_roundw
      case rel =>
        refine ⟨k + 1, l.set k (l[k] + 1), by omega, by go_num, ?_, hW.other hgg k _, hbel.setCell (by exact hg5) _⟩
        rw [← bc_bump l k hkl]
        exact HOW.out.set_at k _
      case measure => simp [intOf]; omega
    · have hs1 := hbel.size
      have ksl1 : ∀ W, (Instr.slice 22 (.slice (some ⟨g, 0, none⟩) L1 (L1 + 300)) none (some (.int .i64 ((L1 : Int) + 300))) none).run Try.prog W = .ok (.slice (some ⟨g, 0, none⟩) (L1 + 300) (L1 + 300)) W := fun W => by
        have := run_sl_h W _ 5 Try.underlying22 szByte (some ⟨g, 0, none⟩) L1 (L1 + 300) (L1 + 300) (Nat.le_refl _)
        rwa [show ((L1 + 300 : Nat) : Int) = (L1 : Int) + 300 by omega] at this
      have ksl2 : ∀ W, (Instr.slice 22 (.slice (some ⟨g, 0, none⟩) (L1 + 300) (L1 + 300)) (some (.int .i64 (L1 : Int))) none none).run Try.prog W = .ok (.slice (some ⟨g, L1, none⟩) 300 300) W := fun W => by
        have := run_sl_l W _ 5 Try.underlying22 szByte (some ⟨g, 0, none⟩) (L1 + 300) (L1 + 300) L1 (by omega)
        rw [cutA_some g 0 (L1 + 300) L1 (by omega), Nat.zero_add, show L1 + 300 - L1 = 300 by omega] at this
        exact this
      have ro := hW.rdB H1.out
      have rz := hW.rdZ H1.out (K := 300) (by simp)
      have rb := (r1.below hbel).more hs1
      clear hown hW hll
      go_wp2_with (first
        | (go_at_call 52; refine (nz_contains (some ⟨g, L1, none⟩) 300 300 (List.replicate 300 0) wr wr.heap.size (by simp) rz (by omega)).mono ?_; rw [nz_zeros]; rintro e wr ⟨rfl, rfl⟩)
        | (go_at_call 40; refine (beq_at (some ⟨g, 0, none⟩) A1 (L1 + 300) c1 L1 L1 b b wr wr.heap.size H1.out H1.out ro rb).mono ?_; rw [decide_eq_true (rfl : b = b)]; rintro e wr ⟨rfl, rfl⟩))
      go_ret
      exact ⟨rfl, hbel⟩
end Go.Proofs.Ytnfgcfljjmjmpaa
