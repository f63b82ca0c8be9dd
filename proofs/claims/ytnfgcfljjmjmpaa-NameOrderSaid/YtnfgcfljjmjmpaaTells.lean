/-
  gaugerlaw16.tells: what the program and the reference tell of names and texts agrees.
-/
import Derived.Test.YtnfgcfljjmjmpaaRefPs
import Derived.Test.YtnfgcfljjmjmpaaAppsL
import Derived.Test.YtnfgcfljjmjmpaaJoins
set_option linter.unusedVariables false
set_option linter.unusedSimpArgs false
namespace Go.Proofs.Ytnfgcfljjmjmpaa
open Go.RowKit
def formR (n : List (List UInt8)) : List UInt8 × Nat := if rightN n = true then (formN n, 0) else ([], 160)
def textR (n : List (List UInt8)) : List UInt8 × Nat := if rightN n = true then (textN n, 0) else ([], 160)
section
variable (w : World)
theorem form_all (A : Option Addr) (c L : Nat) (n : List (List UInt8)) (F : List UInt8) (ef : Nat) (hF : formR n = (F, ef)) (hL : n.length = L) (h : Rd w w.heap.size A L (sc n)) (hs : sizeN n ≤ 140737488355328) :
    Calls Try.prog 20 #[.slice A L c] w fun e w' => ∃ v, e = .returned (.tuple #[v, .int .i64 (ef : Int)]) ∧ Ow w' w.heap.size 5 v (bc F) ∧ Below w.heap.size w w' := by
  subst hL
  unfold formR at hF
  by_cases hr : rightN n = true
  · rw [if_pos hr] at hF; cases hF
    exact form_ok A c n w h hr
  · rw [if_neg hr] at hF; cases hF
    refine (form_bad A c n w h (by simpa using hr) hs).mono ?_
    rintro e w' ⟨rfl, h⟩
    exact ⟨_, rfl, Ow.nil _ _ _, h⟩
theorem rform_all (A : Option Addr) (c L : Nat) (n : List (List UInt8)) (F : List UInt8) (ef : Nat) (hF : formR n = (F, ef)) (hL : n.length = L) (h : Rd w w.heap.size A L (sc n)) (hs : sizeN n ≤ 140737488355328) :
    Calls Try.prog 42 #[.slice A L c] w fun e w' => ∃ v, e = .returned (.tuple #[v, .int .i64 (ef : Int)]) ∧ Ow w' w.heap.size 5 v (bc F) ∧ Below w.heap.size w w' := by
  subst hL
  unfold formR at hF
  by_cases hr : rightN n = true
  · rw [if_pos hr] at hF; cases hF
    exact rform_ok A c n w h hr
  · rw [if_neg hr] at hF; cases hF
    refine (rform_bad A c n w h (by simpa using hr) hs).mono ?_
    rintro e w' ⟨rfl, h⟩
    exact ⟨_, rfl, Ow.nil _ _ _, h⟩
theorem text_all (A : Option Addr) (c L : Nat) (n : List (List UInt8)) (F : List UInt8) (ef : Nat) (hF : textR n = (F, ef)) (hL : n.length = L) (h : Rd w w.heap.size A L (sc n)) (hs : sizeN n ≤ 140737488355328) :
    Calls Try.prog 33 #[.slice A L c] w fun e w' => e = .returned (.tuple #[.string ⟨F.toArray⟩, .int .i64 (ef : Int)]) ∧ Below w.heap.size w w' := by
  subst hL
  unfold textR at hF
  by_cases hr : rightN n = true
  · rw [if_pos hr] at hF; cases hF
    exact text_ok A c n w h hr
  · rw [if_neg hr] at hF; cases hF
    exact text_bad A c n w h (by simpa using hr) hs
theorem rtext_all (A : Option Addr) (c L : Nat) (n : List (List UInt8)) (F : List UInt8) (ef : Nat) (hF : textR n = (F, ef)) (hL : n.length = L) (h : Rd w w.heap.size A L (sc n)) (hs : sizeN n ≤ 140737488355328) :
    Calls Try.prog 43 #[.slice A L c] w fun e w' => e = .returned (.tuple #[.string ⟨F.toArray⟩, .int .i64 (ef : Int)]) ∧ Below w.heap.size w w' := by
  unfold textR at hF
  by_cases hr : rightN n = true
  · rw [if_pos hr] at hF; cases hF
    exact rtext_ok A c L n w hL h hr
  · rw [if_neg hr] at hF; cases hF
    exact rtext_bad A c L n w hL h (by simpa using hr) hs
theorem rsize_at (A : Option Addr) (c L : Nat) (n : List (List UInt8)) (s : Nat) (hs : sizeN n = s) (hL : n.length = L) (h : Rd w w.heap.size A L (sc n)) (hb : s ≤ 9223372036854775807) :
    Calls Try.prog 46 #[.slice A L c] w fun e w' => e = .returned (.int .i64 (s : Int)) ∧ w = w' := by
  subst hL hs; exact (rsize_any A c n w w.heap.size h hb).mono fun e w' h => ⟨h.1, h.2.symm⟩
theorem beq_at2 (A1 A2 : Option Addr) (c1 c2 L1 L2 : Nat) (l m : List UInt8) (r : Bool) (w : World) (hr : decide (l = m) = r) (h1' : l.length = L1) (h2' : m.length = L2) (h1 : Rd w w.heap.size A1 L1 (bc l)) (h2 : Rd w w.heap.size A2 L2 (bc m)) :
    Calls Try.prog 40 #[.slice A1 L1 c1, .slice A2 L2 c2] w fun e w' => e = .returned (.bool r) ∧ w = w' := by
  subst hr; exact (beq_at A1 A2 c1 c2 L1 L2 l m w w.heap.size h1' h2' h1 h2).mono fun e w' h => ⟨h.1, h.2.symm⟩
theorem runder_at (A1 A2 : Option Addr) (c1 c2 L1 L2 : Nat) (n z : List (List UInt8)) (hL1 : n.length = L1) (hL2 : z.length = L2) (h1 : Rd w w.heap.size A1 L1 (sc n)) (h2 : Rd w w.heap.size A2 L2 (sc z)) (hc : L1 ≤ c1) (hl : L1 ≤ 140737488355328) (hm : L2 ≤ 140737488355328) (hx : ∀ x ∈ n, x.length ≤ 140737488355328) (hy : ∀ x ∈ z, x.length ≤ 140737488355328) :
    Calls Try.prog 47 #[.slice A1 L1 c1, .slice A2 L2 c2] w fun e w' => e = .returned (.bool (underN n z)) ∧ ∃ q, w' = w.drewN q := by
  subst hL1 hL2; exact runder_any A1 A2 c1 c2 n z w w.heap.size h1 h2 hc hl hm hx hy
theorem rcmp_at (A1 A2 : Option Addr) (c1 c2 L1 L2 : Nat) (n z : List (List UInt8)) (hL1 : n.length = L1) (hL2 : z.length = L2) (h1 : Rd w w.heap.size A1 L1 (sc n)) (h2 : Rd w w.heap.size A2 L2 (sc z)) (hl : L1 ≤ 140737488355328) (hm : L2 ≤ 140737488355328) (hx : ∀ x ∈ n, x.length ≤ 140737488355328) (hy : ∀ x ∈ z, x.length ≤ 140737488355328) :
    Calls Try.prog 48 #[.slice A1 L1 c1, .slice A2 L2 c2] w fun e w' => e = .returned (.int .i64 (cmpN n z)) ∧ ∃ q, w' = w.drewN q := by
  subst hL1 hL2; exact rcmp_any A1 A2 c1 c2 n z w w.heap.size h1 h2 hl hm hx hy
end
theorem parse_all (s : List UInt8) (w : World) (q : List (List UInt8)) (ep : Nat) (hq : rparse s = (q, ep)) (hs : s.length ≤ 1000000) :
    Calls Try.prog 34 #[.string ⟨s.toArray⟩] w fun e w' => ∃ v, e = .returned (.tuple #[v, .int .i64 (ep : Int)]) ∧ Ow w' w.heap.size 9 v (sc q) ∧ Below w.heap.size w w' := by
  have h := parse_any s w (by omega)
  rw [← rparse_eq s, hq] at h
  exact h
theorem rparse_all (s : List UInt8) (w : World) (q : List (List UInt8)) (ep : Nat) (hq : rparse s = (q, ep)) (hs : s.length ≤ 1000000) :
    Calls Try.prog 44 #[.string ⟨s.toArray⟩] w fun e w' => ∃ v, e = .returned (.tuple #[v, .int .i64 (ep : Int)]) ∧ Ow w' w.heap.size 9 v (sc q) ∧ Below w.heap.size w w' := by
  have h := rparse_any s w hs
  rw [hq] at h
  exact h
theorem rparse_len (s : List UInt8) : (rparse s).1.length ≤ 255 := by
  unfold rparse
  split
  · simp
  · split
    · split
      · rename_i n _ h
        have := size_right h
        have := sizeN_length n
        simp only; omega
      · simp
    · simp
theorem ow_step {w w' : World} {base q : Nat} {e : TypeId} {v : Value} {xs : List Value} (h : Ow w base e v xs) (hq : w' = w.drewN q) : Ow w' base e v xs := by subst hq; exact h
set_option maxRecDepth 100000 in
set_option maxHeartbeats 4000000 in
theorem tells_any (A0 A1 : Option Addr) (c0 c1 L0 L1 : Nat) (n m : List (List UInt8)) (s : List UInt8) (w : World) (hL0 : n.length = L0) (hL1 : m.length = L1) (r0 : Rd w w.heap.size A0 L0 (sc n)) (hc0 : L0 ≤ c0) (r1 : Rd w w.heap.size A1 L1 (sc m)) (hc1 : L1 ≤ c1)
    (hb0 : L0 ≤ 100000) (hb1 : L1 ≤ 100000) (hsn : sizeN n ≤ 140737488355328) (hxn : ∀ x ∈ n, x.length ≤ 140737488355328) (hxm : ∀ x ∈ m, x.length ≤ 140737488355328) (hs : s.length ≤ 1000000) :
    Calls Try.prog 26 #[.slice A0 L0 c0, .slice A1 L1 c1, .string ⟨s.toArray⟩] w fun e w' => e = .returned (.bool true) ∧ Below w.heap.size w w' := by
  have HL0 := Lib.hid hL0
  have HL1 := Lib.hid hL1
  have HXn := Lib.hid hxn
  have HXm := Lib.hid hxm
  obtain ⟨F, ef, hF⟩ : ∃ F ef, formR n = (F, ef) := ⟨_, _, rfl⟩
  obtain ⟨tx, et, hTx⟩ : ∃ F ef, textR n = (F, ef) := ⟨_, _, rfl⟩
  obtain ⟨q, ep, hQ⟩ : ∃ F ef, rparse s = (F, ef) := ⟨_, _, rfl⟩
  have hQl : q.length ≤ 255 := by have := rparse_len s; rw [hQ] at this; exact this
  obtain ⟨FL, hFL⟩ : ∃ k, F.length = k := ⟨_, rfl⟩
  obtain ⟨QL, hQL⟩ : ∃ k, q.length = k := ⟨_, rfl⟩
  rw [hQL] at hQl
  have hQ255 : QL ≤ 140737488355328 := by omega
  have HF := Lib.hid hF
  have HTx := Lib.hid hTx
  have HQ := Lib.hid hQ
  have HFL := Lib.hid hFL
  have HQL := Lib.hid hQL
  have k0 : Knows w [(A0, L0, sc n), (A1, L1, sc m)] := ((Knows.nil w).cons r1).cons r0
  have tokA : True := trivial
  have tokE : True := trivial
  have tokU0 : True := trivial
  have tokU1 : True := trivial
  have tokV0 : True := trivial
  have tokV1 : True := trivial
  have tokC0 : True := trivial
  have tokC1 : True := trivial
  have tokD0 : True := trivial
  have tokD1 : True := trivial
  clear hL0 hL1 hxn hxm hF hTx hQ hFL hQL r0 r1
  go_enter Try.func26, Try.ntmps26
  go_wp2_with (first
    | (go_at_call 17; have _t := tokA; refine (sclone_at w A0 c0 L0 n HL0.out (k0.get (.head _)) (by omega)).mono ?_; rintro e w1 ⟨v1, rfl, hown1, hb1⟩; obtain ⟨Aa, ca, rfl, hla, ra⟩ := hown1.form7 L0 (by rw [sc_length]; exact HL0.out); have k1 := (k0.below hb1).cons ra; clear hown1 tokA)
    | (go_at_call 17; refine (sclone_at w1 A1 c1 L1 m HL1.out (k1.get (.tail _ (.tail _ (.head _)))) (by omega)).mono ?_; rintro e w2 ⟨v2, rfl, hown2, hb2⟩; obtain ⟨Ab, cb, rfl, hlb, rb⟩ := hown2.form7 L1 (by rw [sc_length]; exact HL1.out); have k2 := (k1.below hb2).cons rb; have hB2 := hb1.trans (hb2.mono hb1.size); have hC2 := Below.refl w2.heap.size w2; clear hown2 hb1 hb2)
    | (go_at_call 20; refine (form_all w2 Aa ca L0 n F ef HF.out HL0.out (k2.get (.tail _ (.head _))) hsn).mono ?_; rintro e w3 ⟨v3, rfl, hown3, hb3⟩; obtain ⟨Af, cf, rfl, hlf, rf⟩ := hown3.form7 FL (by rw [bc_length]; exact HFL.out); have k3 := (k2.below hb3).cons rf; have hC3 := hC2.trans (hb3.mono hC2.size); clear hown3 hb3)
    | (go_at_call 42; refine (rform_all w3 A0 c0 L0 n F ef HF.out HL0.out (k3.get (.tail _ (.tail _ (.tail _ (.head _))))) hsn).mono ?_; rintro e w4 ⟨v4, rfl, hown4, hb4⟩; obtain ⟨Ag, cg, rfl, hlg, rg⟩ := hown4.form7 FL (by rw [bc_length]; exact HFL.out); have k4 := (k3.below hb4).cons rg; have hC4 := hC3.trans (hb4.mono hC3.size); clear hown4 hb4)
    | (go_at_call 33; refine (text_all w4 Aa ca L0 n tx et HTx.out HL0.out (k4.get (.tail _ (.tail _ (.tail _ (.head _))))) hsn).mono ?_; rintro e w5 ⟨rfl, hb5⟩; have k5 := k4.below hb5; have hC5 := hC4.trans (hb5.mono hC4.size); clear hb5)
    | (go_at_call 43; refine (rtext_all w5 A0 c0 L0 n tx et HTx.out HL0.out (k5.get (.tail _ (.tail _ (.tail _ (.tail _ (.head _)))))) hsn).mono ?_; rintro e w6 ⟨rfl, hb6⟩; have k6 := k5.below hb6; have hC6 := hC5.trans (hb6.mono hC5.size); clear hb6)
    | (go_at_call 34; refine (parse_all s w6 q ep HQ.out hs).mono ?_; rintro e w7 ⟨v7, rfl, hown7, hb7⟩; obtain ⟨Ap, cp, rfl, hlp, rp⟩ := hown7.form7 QL (by rw [sc_length]; exact HQL.out); have k7 := (k6.below hb7).cons rp; have hC7 := hC6.trans (hb7.mono hC6.size); have hA7 := hown7.lt; clear hb7)
    | (go_at_call 44; refine (rparse_all s w7 q ep HQ.out hs).mono ?_; rintro e w8 ⟨v8, rfl, hown8, hb8⟩; obtain ⟨Aq, cq, rfl, hlq, rq⟩ := hown8.form7 QL (by rw [sc_length]; exact HQL.out); have k8 := (k7.below hb8).cons rq; have hC8 := hC7.trans (hb8.mono hC7.size); have ho8 := hown7.far hb8; clear hown8 hb8 hown7)
    | (go_at_call 13; refine (right_at w8 Aa ca L0 n _ rfl HL0.out (k8.get (.tail _ (.tail _ (.tail _ (.tail _ (.tail _ (.head _))))))) hsn).mono ?_; rintro e w9 ⟨rfl, hb9⟩; have k9 := k8.below hb9; have hC9 := hC8.trans (hb9.mono hC8.size); have ho9 := ho8.far hb9; clear hb9 ho8)
    | (go_at_call 45; refine (rright_at w9 A0 c0 L0 n HL0.out (k9.get (.tail _ (.tail _ (.tail _ (.tail _ (.tail _ (.tail _ (.head _)))))))) hsn).mono ?_; rintro e w10 ⟨rfl, hb10⟩; have k10 := k9.below hb10; have hC10 := hC9.trans (hb10.mono hC9.size); have ho10 := ho9.far hb10; clear hb10 ho9)
    | (go_at_call 19; refine (size_at w10 Aa ca L0 n _ rfl HL0.out (k10.get (.tail _ (.tail _ (.tail _ (.tail _ (.tail _ (.head _))))))) (by omega)).mono ?_; rintro e w11 ⟨rfl, rfl⟩)
    | (go_at_call 46; refine (rsize_at w10 A0 c0 L0 n _ rfl HL0.out (k10.get (.tail _ (.tail _ (.tail _ (.tail _ (.tail _ (.tail _ (.head _)))))))) (by omega)).mono ?_; rintro e w11 ⟨rfl, rfl⟩)
    | (go_at_call 40; refine (beq_at2 Af Ag cf cg FL FL F F true w10 (decide_eq_true rfl) HFL.out HFL.out (k10.get (.tail _ (.tail _ (.tail _ (.head _))))) (k10.get (.tail _ (.tail _ (.head _))))).mono ?_; rintro e w11 ⟨rfl, rfl⟩)
    | (go_at_call 15; have _t := tokE; refine (seq_at w10 Ap Aq cp cq QL QL q q true (decide_eq_true rfl) HQL.out HQL.out (k10.get (.tail _ (.head _))) (k10.get (.head _)) hQ255 hQ255).mono ?_; clear tokE; rintro e w12 ⟨rfl, q12, hq⟩; have k12 := k10.step hq; have hC12 := below_step hC10 hq; have ho12 := ow_step ho10 hq; clear hq)
    | (go_at_call 18; have _t := tokU0; refine (under_at w12 Aa Ab ca cb L0 L1 n m _ rfl HL0.out HL1.out (k12.get (.tail _ (.tail _ (.tail _ (.tail _ (.tail _ (.head _))))))) (k12.get (.tail _ (.tail _ (.tail _ (.tail _ (.head _)))))) hla (by omega) (by omega)).mono ?_; clear tokU0; rintro e w13 ⟨rfl, q13, hq⟩; have k13 := k12.step hq; have hC13 := below_step hC12 hq; have ho13 := ow_step ho12 hq; clear hq)
    | (go_at_call 47; have _t := tokV0; refine (runder_at w13 A0 A1 c0 c1 L0 L1 n m HL0.out HL1.out (k13.get (.tail _ (.tail _ (.tail _ (.tail _ (.tail _ (.tail _ (.head _)))))))) (k13.get (.tail _ (.tail _ (.tail _ (.tail _ (.tail _ (.tail _ (.tail _ (.head _))))))))) hc0 (by omega) (by omega) HXn.out HXm.out).mono ?_; clear tokV0; rintro e w14 ⟨rfl, q14, hq⟩; have k14 := k13.step hq; have hC14 := below_step hC13 hq; have ho14 := ow_step ho13 hq; clear hq)
    | (go_at_call 18; have _t := tokU1; refine (under_at w14 Ab Aa cb ca L1 L0 m n _ rfl HL1.out HL0.out (k14.get (.tail _ (.tail _ (.tail _ (.tail _ (.head _)))))) (k14.get (.tail _ (.tail _ (.tail _ (.tail _ (.tail _ (.head _))))))) hlb (by omega) (by omega)).mono ?_; clear tokU1; rintro e w15 ⟨rfl, q15, hq⟩; have k15 := k14.step hq; have hC15 := below_step hC14 hq; have ho15 := ow_step ho14 hq; clear hq)
    | (go_at_call 47; have _t := tokV1; refine (runder_at w15 A1 A0 c1 c0 L1 L0 m n HL1.out HL0.out (k15.get (.tail _ (.tail _ (.tail _ (.tail _ (.tail _ (.tail _ (.tail _ (.head _))))))))) (k15.get (.tail _ (.tail _ (.tail _ (.tail _ (.tail _ (.tail _ (.head _)))))))) hc1 (by omega) (by omega) HXm.out HXn.out).mono ?_; clear tokV1; rintro e w16 ⟨rfl, q16, hq⟩; have k16 := k15.step hq; have hC16 := below_step hC15 hq; have ho16 := ow_step ho15 hq; clear hq)
    | (go_at_call 31; have _t := tokC0; refine (cmp_at w16 Aa Ab ca cb L0 L1 n m HL0.out HL1.out (k16.get (.tail _ (.tail _ (.tail _ (.tail _ (.tail _ (.head _))))))) (k16.get (.tail _ (.tail _ (.tail _ (.tail _ (.head _)))))) (by omega) (by omega)).mono ?_; clear tokC0; rintro e w17 ⟨rfl, q17, hq⟩; have k17 := k16.step hq; have hC17 := below_step hC16 hq; have ho17 := ow_step ho16 hq; clear hq)
    | (go_at_call 48; have _t := tokD0; refine (rcmp_at w17 A0 A1 c0 c1 L0 L1 n m HL0.out HL1.out (k17.get (.tail _ (.tail _ (.tail _ (.tail _ (.tail _ (.tail _ (.head _)))))))) (k17.get (.tail _ (.tail _ (.tail _ (.tail _ (.tail _ (.tail _ (.tail _ (.head _))))))))) (by omega) (by omega) HXn.out HXm.out).mono ?_; clear tokD0; rintro e w18 ⟨rfl, q18, hq⟩; have k18 := k17.step hq; have hC18 := below_step hC17 hq; have ho18 := ow_step ho17 hq; clear hq)
    | (go_at_call 31; have _t := tokC1; refine (cmp_at w18 Ab Aa cb ca L1 L0 m n HL1.out HL0.out (k18.get (.tail _ (.tail _ (.tail _ (.tail _ (.head _)))))) (k18.get (.tail _ (.tail _ (.tail _ (.tail _ (.tail _ (.head _))))))) (by omega) (by omega)).mono ?_; clear tokC1; rintro e w19 ⟨rfl, q19, hq⟩; have k19 := k18.step hq; have hC19 := below_step hC18 hq; have ho19 := ow_step ho18 hq; clear hq)
    | (go_at_call 48; have _t := tokD1; refine (rcmp_at w19 A1 A0 c1 c0 L1 L0 m n HL1.out HL0.out (k19.get (.tail _ (.tail _ (.tail _ (.tail _ (.tail _ (.tail _ (.tail _ (.head _))))))))) (k19.get (.tail _ (.tail _ (.tail _ (.tail _ (.tail _ (.tail _ (.head _)))))))) (by omega) (by omega) HXm.out HXn.out).mono ?_; clear tokD1; rintro e w20 ⟨rfl, q20, hq⟩; have k20 := k19.step hq; have hC20 := below_step hC19 hq; have ho20 := ow_step ho19 hq; clear hq))
  have hs26 : w2.heap.size ≤ w6.heap.size := hC6.size
  go_loopw [136] (fun i wr => ∃ (k : Nat) (l : List (List UInt8)), k ≤ QL ∧ i = .int .i64 k ∧ Ow wr w6.heap.size 9 (.slice Ap QL cp) (sc l) ∧ Below w2.heap.size w2 wr) (fun i _ => QL - (intOf i).toNat)
  case atStart => exact ⟨0, q, Nat.zero_le _, rfl, ho20, hC20⟩
  case round =>
    clear ho20 hC20 k3 k4 k5 k6 k7 k8 k9 k10 hC3 hC4 hC5 hC6 hC7 hC8 hC9
    obtain ⟨k, l, hk5, rfl, hown, hbel⟩ := hrel
    have hll := hown.len
    rw [sc_length] at hll
    by_cases hlt : k < QL
    · obtain ⟨g5, cap, hv, hg1, hg2⟩ := World.ownsRow.form hown (by rw [sc_length]; omega)
      injection hv with hv1 hv2 hv3
      subst hv1
      have hkl : k < l.length := by omega
      have hcell := hown.cell_at k hlt
      rw [sc_get l k hkl] at hcell
      have hfz := hown.frozen_at k
      have HOW := Lib.hid hown
      have hg5 : w2.heap.size ≤ g5 := by omega
      clear hv2 hv3 hown hll
      go_wp2_with fail
      go_roundw
      case rel =>
        refine ⟨k + 1, l.set k [], by omega, by go_num, ?_, hbel.setCell (by exact hg5) _⟩
        have e1 : sc (l.set k []) = (sc l).set k (.string ⟨#[]⟩) := by simp [sc, strV]
        rw [e1]
        exact HOW.out.set_at k _
      case measure => simp [intOf]; omega
    · have kk := k2.below hbel
      have hBr := hB2.trans (hbel.mono hB2.size)
      have tokF : True := trivial
      clear hown hll k2 hbel
      go_wp2_with (first
        | (go_at_call 15; have _t := tokF; refine (seq_at wr Aa A0 ca c0 L0 L0 n n true (decide_eq_true rfl) HL0.out HL0.out (kk.get (.tail _ (.head _))) (kk.get (.tail _ (.tail _ (.head _)))) (by omega) (by omega)).mono ?_; rintro e wz ⟨rfl, q, hq⟩; have kz := kk.step hq; have hBz := below_step hBr hq; clear hq tokF)
        | (go_at_call 15; refine (seq_at wz Ab A1 cb c1 L1 L1 m m true (decide_eq_true rfl) HL1.out HL1.out (kz.get (.head _)) (kz.get (.tail _ (.tail _ (.tail _ (.head _))))) (by omega) (by omega)).mono ?_; rintro e wy ⟨rfl, q, hq⟩; have hBy := below_step hBz hq; clear hq))
      go_ret
      exact ⟨rfl, hBy⟩
set_option maxRecDepth 100000 in
set_option maxHeartbeats 1000000 in
theorem nameTells_any (haw : AwakeOk) (A0 : Option Addr) (c0 : Nat) (n : List (List UInt8)) (A1 : Option Addr) (c1 : Nat) (m : List (List UInt8)) (s : List UInt8) (w : World)
    (r0 : Rd w w.heap.size A0 n.length (sc n)) (hc0 : n.length ≤ c0) (hb0 : n.length * 16 ≤ 140737488351232) (hx0 : ∀ x ∈ n, x.length ≤ 140737488351232)
    (r1 : Rd w w.heap.size A1 m.length (sc m)) (hc1 : m.length ≤ c1) (hb1 : m.length * 16 ≤ 140737488351232) (hx1 : ∀ x ∈ m, x.length ≤ 140737488351232) (hs : s.length ≤ 140737488351232) :
    Calls Try.prog 7 #[.slice A0 n.length c0, .slice A1 m.length c1, .string ⟨s.toArray⟩] w fun e w' => e = .returned (.bool true) ∧ Below w.heap.size w w' := by
  have haw' := Lib.hid haw
  have HX0 := Lib.hid hx0
  have HX1 := Lib.hid hx1
  clear haw hx0 hx1
  by_cases h1 : 150 < n.length
  · have d1 : decide (150 < (n.length : Int)) = true := by simp; omega
    go_enter Try.func7, Try.ntmps7
    go_wp2_with (go_at_call 11; refine (haw'.out _).mono ?_; rintro e w1 ⟨rfl, hbz⟩)
    go_ret
    exact ⟨rfl, hbz⟩
  have d1 : decide (150 < (n.length : Int)) = false := by simp; omega
  by_cases h2 : 150 < m.length
  · have d2 : decide (150 < (m.length : Int)) = true := by simp; omega
    go_enter Try.func7, Try.ntmps7
    go_wp2_with (go_at_call 11; refine (haw'.out _).mono ?_; rintro e w1 ⟨rfl, hbz⟩)
    go_ret
    exact ⟨rfl, hbz⟩
  have d2 : decide (150 < (m.length : Int)) = false := by simp; omega
  by_cases h3 : 1200 < s.length
  · have d3 : decide (1200 < s.length) = true := by simp; omega
    go_enter Try.func7, Try.ntmps7
    go_wp2_with (go_at_call 11; refine (haw'.out _).mono ?_; rintro e w1 ⟨rfl, hbz⟩)
    go_ret
    exact ⟨rfl, hbz⟩
  have d3 : decide (1200 < s.length) = false := by simp; omega
  cases h4 : n.any telP
  · have H4 := Lib.hid h4
    cases h5 : m.any telP
    · have hsz : sizeN n ≤ 140737488355328 := by
        have := size_bound n (fun x hx => by
          have := List.any_eq_false.1 h4 x hx
          unfold telP at this
          simp at this; omega)
        omega
      have H5 := Lib.hid h5
      clear h4 h5
      have tok1 : True := trivial
      go_enter Try.func7, Try.ntmps7
      go_wp2_with (first
        | (go_at_call 11; refine (haw'.out _).mono ?_; rintro e w2 ⟨rfl, hbb2⟩)
        | (go_at_call 26; refine (tells_any A0 A1 c0 c1 n.length m.length n m s w rfl rfl r0 hc0 r1 hc1 (by omega) (by omega) hsz (fun x hx => by have := HX0.out x hx; omega) (fun x hx => by have := HX1.out x hx; omega) (by omega)).mono ?_; rintro e w1 ⟨rfl, hbb1⟩)
        | (go_at_call 25; have _t := tok1; refine (tel_contains A0 c0 n.length n w w.heap.size rfl r0 (by omega)).mono ?_; rw [H4.out]; rintro e w ⟨rfl, rfl⟩; clear tok1)
        | (go_at_call 25; refine (tel_contains A1 c1 m.length m w w.heap.size rfl r1 (by omega)).mono ?_; rw [H5.out]; rintro e w ⟨rfl, rfl⟩))
      go_ret
      exact ⟨rfl, hbb1.trans (hbb2.mono hbb1.size)⟩
    · have H5 := Lib.hid h5
      clear h4 h5
      have tok1 : True := trivial
      go_enter Try.func7, Try.ntmps7
      go_wp2_with (first
        | (go_at_call 11; refine (haw'.out _).mono ?_; rintro e w2 ⟨rfl, hbb2⟩)
        | (go_at_call 25; have _t := tok1; refine (tel_contains A0 c0 n.length n w w.heap.size rfl r0 (by omega)).mono ?_; rw [H4.out]; rintro e w ⟨rfl, rfl⟩; clear tok1)
        | (go_at_call 25; refine (tel_contains A1 c1 m.length m w w.heap.size rfl r1 (by omega)).mono ?_; rw [H5.out]; rintro e w ⟨rfl, rfl⟩))
      go_ret
      exact ⟨rfl, hbb2⟩
  · have H4 := Lib.hid h4
    clear h4
    go_enter Try.func7, Try.ntmps7
    go_wp2_with (first
      | (go_at_call 11; refine (haw'.out _).mono ?_; rintro e w2 ⟨rfl, hbb2⟩)
      | (go_at_call 25; refine (tel_contains A0 c0 n.length n w w.heap.size rfl r0 (by omega)).mono ?_; rw [H4.out]; rintro e w ⟨rfl, rfl⟩))
    go_ret
    exact ⟨rfl, hbb2⟩
end Go.Proofs.Ytnfgcfljjmjmpaa
