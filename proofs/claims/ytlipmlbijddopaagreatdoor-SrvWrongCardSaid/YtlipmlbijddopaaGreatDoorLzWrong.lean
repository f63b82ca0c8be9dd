/-
  SrvWs; SrvWrong; LSWrong
-/
import Derived.Test.YtlipmlbijddopaaGreatDoorZ29
import Derived.Test.YtlipmlbijddopaaGreatDoorZ03
import Derived.Test.YtlipmlbijddopaaGreatDoorTie
import Derived.Test.YtlipmlbijddopaaGreatDoorCards
set_option linter.unusedVariables false
set_option linter.unusedSimpArgs false
namespace Go.Proofs.YtlipmlbijddopaaGreatDoor
open Go.RowKit
namespace Sv
/-- every slice of a message, but the first list -/
def MC0 (x : MR) (o : Ob) : Prop := o = rwQ x.qA x.qc x.qs ∨ o = rwR x.bA x.bc x.r1 ∨ o = rwR x.cA x.cc x.r2 ∨ DQ x.qs o ∨ DR x.r0 o ∨ DR x.r1 o ∨ DR x.r2 o
/-- a message whose slices do not lie in block g -/
structure WSt (w : World) (base g : Nat) (x : MR) : Prop where
  r : (rwR x.aA x.ac x.r0).ok w base
  o : ∀ o, MC0 x o → o.ok w base
  nr : (rwR x.aA x.ac x.r0).v.ownBlock ≠ some g
  no : ∀ o, MC0 x o → o.v.ownBlock ≠ some g
section
variable {w w' w1 w2 : World} {base g : Nat} {x : MR}
theorem mow_mc0 (h : MOw w base x) : ∀ o, MC0 x o → o.ok w base := by
  rintro o (rfl | rfl | rfl | ho | ho | ho | ho)
  · exact h.q
  · exact h.b
  · exact h.c
  · exact h.n o ho
  · exact h.r0 o ho
  · exact h.r1 o ho
  · exact h.r2 o ho
theorem WSt.mow (h : WSt w base g x) : MOw w base x :=
  ⟨h.o _ (.inl rfl), h.r, h.o _ (.inr (.inl rfl)), h.o _ (.inr (.inr (.inl rfl))), fun o ho => h.o o (.inr (.inr (.inr (.inl ho)))), fun o ho => h.o o (.inr (.inr (.inr (.inr (.inl ho))))), fun o ho => h.o o (.inr (.inr (.inr (.inr (.inr (.inl ho)))))), fun o ho => h.o o (.inr (.inr (.inr (.inr (.inr (.inr ho))))))⟩
theorem WSt.start (h : MOw w base x) (hg : w.heap.size ≤ g) : WSt w base g x :=
  ⟨h.a, mow_mc0 h, fun e => by have := OwM.block_lt h.a g e; omega, fun o ho e => by have := OwM.block_lt (mow_mc0 h o ho) g e; omega⟩
theorem WSt.far (h : WSt w base g x) (hb : Below w.heap.size w w') : WSt w' base g x := ⟨OwM.far h.r hb, fun o ho => OwM.far (h.o o ho) hb, h.nr, h.no⟩
theorem WSt.setG (h : WSt w base g x) (k : Nat) (u : Value) : WSt (w.setCell ⟨g, k, none⟩ u) base g x := ⟨ownM_setNe h.r h.nr k u, fun o ho => ownM_setNe (h.o o ho) (h.no o ho) k u, h.nr, h.no⟩
theorem WSt.setO (h : WSt w base g x) {q : Nat} (hq : ∀ o, (o = rwR x.aA x.ac x.r0 ∨ MC0 x o) → o.v.ownBlock ≠ some q) (k : Nat) (u : Value) : WSt (w.setCell ⟨q, k, none⟩ u) base g x := ⟨ownM_setNe h.r (hq _ (.inl rfl)) k u, fun o ho => ownM_setNe (h.o o ho) (hq o (.inr ho)) k u, h.nr, h.no⟩
theorem WSt.fl {id fl qc ac bc cc : Nat} {qA aA bA cA : Option Addr} {qs : List QR} {r0 r1 r2 : List RR} (h : WSt w base g ⟨id, fl, qA, qc, qs, aA, ac, r0, bA, bc, r1, cA, cc, r2⟩) (fl' : Nat) : WSt w base g ⟨id, fl', qA, qc, qs, aA, ac, r0, bA, bc, r1, cA, cc, r2⟩ := ⟨h.r, h.o, h.nr, h.no⟩
/-- all lies below where the memory ended -/
theorem WSt.lt (h : WSt w base g x) {q : Nat} (hq : w.heap.size ≤ q) : ∀ o, (o = rwR x.aA x.ac x.r0 ∨ MC0 x o) → o.v.ownBlock ≠ some q := by
  rintro o (rfl | ho) e
  · have := OwM.block_lt h.r q e; omega
  · have := OwM.block_lt (h.o o ho) q e; omega
theorem WSt.app {id fl qc ac bc cc : Nat} {qA aA bA cA : Option Addr} {qs : List QR} {r0 r1 r2 : List RR} {v v' : Value} (h : WSt w base g ⟨id, fl, qA, qc, qs, aA, ac, r0, bA, bc, r1, cA, cc, r2⟩) (hb : Below w.heap.size w w1) (hgr : Gr w1 w2 v v') (hap : ∀ o, MC0 ⟨id, fl, qA, qc, qs, aA, ac, r0, bA, bc, r1, cA, cc, r2⟩ o → Apt v o.v) (y : RR) (hy : ∀ o, DR [y] o → o.ok w1 base ∧ o.v.ownBlock ≠ some g ∧ Apt v o.v)
    (l' : List RR) (A' : Option Addr) (c' : Nat) (hnew : (rwR A' c' l').ok w2 base) (hng : (rwR A' c' l').v.ownBlock ≠ some g) (hmem : ∀ r ∈ l', r ∈ r0 ∨ r = y) : WSt w2 base g ⟨id, fl, qA, qc, qs, A', c', l', bA, bc, r1, cA, cc, r2⟩ := by
  have hk : ∀ o, MC0 ⟨id, fl, qA, qc, qs, A', c', l', bA, bc, r1, cA, cc, r2⟩ o → MC0 ⟨id, fl, qA, qc, qs, aA, ac, r0, bA, bc, r1, cA, cc, r2⟩ o ∨ DR [y] o := by
    rintro o (ho | ho | ho | ho | ⟨z, hz, ho⟩ | ho | ho)
    · exact .inl (.inl ho)
    · exact .inl (.inr (.inl ho))
    · exact .inl (.inr (.inr (.inl ho)))
    · exact .inl (.inr (.inr (.inr (.inl ho))))
    · rcases hmem z hz with h1 | h1
      · exact .inl (.inr (.inr (.inr (.inr (.inl ⟨z, h1, ho⟩)))))
      · subst h1
        exact .inr ⟨z, List.mem_singleton.2 rfl, ho⟩
    · exact .inl (.inr (.inr (.inr (.inr (.inr (.inl ho))))))
    · exact .inl (.inr (.inr (.inr (.inr (.inr (.inr ho))))))
  refine ⟨hnew, fun o ho => ?_, hng, fun o ho => ?_⟩
  · rcases hk o ho with h1 | h1
    · exact OwM.kept (OwM.far (h.o o h1) hb) hgr ((hap o h1).symm)
    · exact OwM.kept (hy o h1).1 hgr ((hy o h1).2.2.symm)
  · rcases hk o ho with h1 | h1
    · exact h.no o h1
    · exact (hy o h1).2.1
end
/-- a reply that Answer makes; its first list lies apart from all others -/
theorem answer_w (id n : Nat) (A : Option Addr) (c : Nat) (l : List Sa) (w : World) (hid : id < 65536) (h : Rd w w.heap.size A (n * 6) (scs l)) (hl : l.length = n) (hc : n ≤ c) (hx : ∀ s ∈ l, okS s) :
    Calls Tryz.prog 37 #[.int .u16 (id : Int), .slice A n c] w fun e w' => ∃ (x : MR) (Ao : Option Addr) (no co : Nat), e = .returned (.tuple #[.agg x.cells.toArray, .slice Ao no co]) ∧ x.m = ansM id l ∧ MOw w' w.heap.size x ∧ (∀ o, MC0 x o → Apt (Value.slice x.aA x.r0.length x.ac) o.v) ∧ Below w.heap.size w w' := by
  refine (answer_at id n A c l w hid h hl hc hx).mono ?_
  rintro e w' ⟨M, Aq, cq, lq, rs, Ao, co, rfl, he, hq, hF, hM, hb⟩
  have hri : ∀ i, i < 3 → rowA Ao co (outM l) rs i = rwR (rs i).A (rs i).c (rs i).l := fun i hi => by unfold rowA; rw [if_neg (by omega)]
  refine ⟨⟨id, 32768, Aq, cq, lq, (rs 0).A, (rs 0).c, (rs 0).l, (rs 1).A, (rs 1).c, (rs 1).l, (rs 2).A, (rs 2).c, (rs 2).l⟩, Ao, _, co, rfl, ?_, hF.mow hri (by omega) hM, ?_, hb⟩
  · rw [he]
    unfold MR.m msOf
    dsimp only
    rw [hq]
  · have h0 := hri 0 (by omega)
    have hne := hF.ne 0 (by omega)
    rw [h0] at hne
    rintro o (rfl | rfl | rfl | ho | ho | ho | ho)
    · exact hne _ (.inl rfl)
    · have := hF.ap 0 1 (by omega) (by omega) (by omega)
      rw [h0, hri 1 (by omega)] at this
      exact this
    · have := hF.ap 0 2 (by omega) (by omega) (by omega)
      rw [h0, hri 2 (by omega)] at this
      exact this
    · exact hne _ (.inr (.inl ho))
    · exact hne _ (.inr (.inr ⟨0, by omega, ho⟩))
    · exact hne _ (.inr (.inr ⟨1, by omega, ho⟩))
    · exact hne _ (.inr (.inr ⟨2, by omega, ho⟩))
theorem or_low (q : Nat) (h : q < 16) : bits .or .u16 32768 (q : Int) = ((32768 + q : Nat) : Int) := by
  obtain h1 | h1 | h1 | h1 | h1 | h1 | h1 | h1 | h1 | h1 | h1 | h1 | h1 | h1 | h1 | h1 : q = 0 ∨ q = 1 ∨ q = 2 ∨ q = 3 ∨ q = 4 ∨ q = 5 ∨ q = 6 ∨ q = 7 ∨ q = 8 ∨ q = 9 ∨ q = 10 ∨ q = 11 ∨ q = 12 ∨ q = 13 ∨ q = 14 ∨ q = 15 := by omega
  all_goals (subst h1; rfl)
theorem or_cut (q : Nat) (h : q < 16) : bits .or .u16 ((32768 + q : Nat) : Int) 512 = ((32768 + q + 512 : Nat) : Int) := by
  obtain h1 | h1 | h1 | h1 | h1 | h1 | h1 | h1 | h1 | h1 | h1 | h1 | h1 | h1 | h1 | h1 : q = 0 ∨ q = 1 ∨ q = 2 ∨ q = 3 ∨ q = 4 ∨ q = 5 ∨ q = 6 ∨ q = 7 ∨ q = 8 ∨ q = 9 ∨ q = 10 ∨ q = 11 ∨ q = 12 ∨ q = 13 ∨ q = 14 ∨ q = 15 := by omega
  all_goals (subst h1; rfl)
theorem rd_cut {w : World} {B n k : Nat} {A : Option Addr} {b : List UInt8} (h : Rd w B A n (bc b)) (hk : k ≤ n) : Rd w B A k (bc (b.take k)) := by
  have hn : b.length = n := by have := h.1; rwa [bc_length] at this
  refine ⟨by rw [bc_length, List.length_take]; omega, fun h0 => ?_⟩
  obtain ⟨g, o, e, hb, hc⟩ := h.2 (by omega)
  refine ⟨g, o, e, hb, fun j u hu => hc j u ?_⟩
  have e2 : bc b = bc (b.take k) ++ bc (b.drop k) := by rw [← bc_append, List.take_append_drop]
  rw [e2, List.getElem?_append_left]
  · exact hu
  · rcases Nat.lt_or_ge j (bc (b.take k)).length with h1 | h1
    · exact h1
    · rw [List.getElem?_eq_none h1] at hu; cases hu
/-- the first question's row -/
theorem quest_cells {w : World} {base : Nat} {x : MR} (h : MOw w base x) (hq : x.qs.map QR.q = [svq]) : ∃ nA nc b o, x.qs = [⟨nA, nc, svq⟩] ∧ x.qA = some ⟨b, o, none⟩ ∧ b < w.heap.size ∧ w.cell? ⟨b, o, none⟩ = some (.slice nA 3 nc) ∧ w.cell? ⟨b, o + 1, none⟩ = some (.int .u16 33) ∧ w.cell? ⟨b, o + 2, none⟩ = some (.int .u16 1) := by
  obtain ⟨⟨nA, nc, q⟩, hqs, hqq⟩ := List.map_eq_singleton_iff.1 hq
  dsimp only at hqq
  subst hqq
  have hr : Rd w w.heap.size x.qA (x.qs.length * 3) (qcs x.qs) := OwM.rd h.q
  rw [hqs] at hr
  obtain ⟨b, o, e, hb, hc⟩ := hr.2 (by simp)
  have k0 := hc 0 (.slice nA 3 nc) rfl
  have k1 := hc 1 (.int .u16 33) rfl
  have k2 := hc 2 (.int .u16 1) rfl
  exact ⟨nA, nc, b, o, hqs, e, hb, k0, k1, k2⟩
end Sv
end Go.Proofs.YtlipmlbijddopaaGreatDoor
set_option linter.unusedVariables false
set_option linter.unusedSimpArgs false
namespace Go.Proofs.YtlipmlbijddopaaGreatDoor
open Go.RowKit
set_option maxRecDepth 100000 in
set_option maxHeartbeats 4000000 in
theorem srvWrong_tt (A0 : Option Addr) (c0 : Nat) (l : List Sv.Sa) (code : Nat) (cut : Bool) (w : World) (h : Rd w w.heap.size A0 (l.length * 6) (Sv.scs l)) (hc : l.length ≤ c0) (hx : ∀ s ∈ l, Sv.okS s) (hcode : code < 256) :
    Calls Tryz.prog 11 #[.slice A0 l.length c0, .int .u8 (code : Int), .bool cut, .bool true, .bool true] w fun e w' => e = .returned (.bool true) ∧ Below w.heap.size w w' := by
  obtain ⟨j0, hj', hy0, hy1, hy2⟩ := info_parts Tryz.infoR
  obtain ⟨n, hn⟩ : ∃ n, n = l.length := ⟨_, rfl⟩
  rw [← hn] at h hc ⊢
  obtain ⟨q, hq⟩ : ∃ q, q = code % 16 := ⟨_, rfl⟩
  have hq16 : q < 16 := by omega
  have hq1 : (code : Int) % 16 = (q : Int) := by omega
  have hq2 : (code : Int).tmod 16 = (q : Int) := by rw [Int.tmod_eq_emod_of_nonneg (by omega)]; exact hq1
  obtain ⟨FL, hFL⟩ : ∃ F, F = Sv.wrongF code cut := ⟨_, rfl⟩
  obtain ⟨E, hE⟩ : ∃ E, E = Sv.wrongE code cut := ⟨_, rfl⟩
  have hFb : FL < 65536 := by rw [hFL]; unfold Sv.wrongF; split <;> omega
  obtain ⟨M, hM⟩ : ∃ M, M = Sv.wrongM FL l true true := ⟨_, rfl⟩
  have hf : Fine M := by rw [hM]; exact Sv.wrong_fine hx FL hFb true true
  obtain ⟨Q, hQ⟩ : ∃ Q, Q = formM (Srv.askM 9 Sv.svc) := ⟨_, rfl⟩
  obtain ⟨R, hR⟩ : ∃ R, R = formM M := ⟨_, rfl⟩
  have hT : Srv.takeN Q R = ([], E) := by rw [hQ, hR, hM, hFL, hE]; exact Sv.take_wrong hx code cut true true
  obtain ⟨LQ, hLQ⟩ : ∃ L, L = Q.length := ⟨_, rfl⟩
  obtain ⟨LR, hLR⟩ : ∃ L, L = R.length := ⟨_, rfl⟩
  have hQl : LQ ≤ 4096 := by rw [hLQ, hQ]; exact (ask_fine (by omega) Sv.svc_right).len
  have hRl : LR ≤ 4096 := by rw [hLR, hR]; exact hf.len
  obtain ⟨K, hK⟩ : ∃ K, K = min LR 11 := ⟨_, rfl⟩
  have hmin : min (LR : Int) 11 = (K : Int) := by omega
  have hKR : K ≤ LR := by omega
  have hKl : K = (R.take K).length := by rw [List.length_take, ← hLR]; omega
  have hTs : Srv.takeN Q (R.take K) = ([], 171) := by rw [hQ]; exact Sv.take_short (by rw [← hKl]; omega)
  have hfa := Sv.ansM_fine (id := 9) (by omega) hx
  have KA := Lib.hid (fun (W : World) (hW : Rd W W.heap.size A0 (n * 6) (Sv.scs l)) => Sv.answer_w 9 n A0 c0 l W (by omega) hW hn.symm hc hx)
  have KQ := Lib.hid (fun (W : World) => Sv.ask_query 9 Q LQ W (by omega) hQ hLQ)
  have KW := Lib.hid (fun (x : MR) (W0 W : World) (b : Nat) (h1 : x.m = M) (h2 : MOw W0 b x) (h3 : Below W0.heap.size W0 W) => Sv.fine_write x M R LR W0 W b h1 hf hR hLR h2 h3)
  have KT := Lib.hid (fun (A1 A2 : Option Addr) (c1 c2 : Nat) (W : World) h1 h2 (h3 : LQ ≤ c1) (h4 : LR ≤ c2) => Sv.take_got A1 A2 c1 c2 LQ LR Q R [] E W hT hLQ hLR h1 h2 h3 h4 (by omega) (by omega))
  have KN := Lib.hid (fun (A2 : Option Addr) (c2 : Nat) (W : World) h2 (h4 : LR ≤ c2) => Sv.take_got none A2 0 c2 0 LR [] R [] 181 W (Sv.take_nil R) rfl hLR (Rd.nil _ _ _) h2 (Nat.le_refl _) h4 (by omega) (by omega))
  have KS := Lib.hid (fun (A1 A2 : Option Addr) (c1 c2 : Nat) (W : World) h1 (h2 : Rd W W.heap.size A2 LR (bc R)) (h3 : LQ ≤ c1) (h4 : K ≤ c2) => Sv.take_got A1 A2 c1 c2 LQ K Q (R.take K) [] 171 W hTs hLQ hKl h1 (Sv.rd_cut h2 hKR) h3 h4 (by omega) (by omega))
  have KRT := Lib.hid (fun (W : World) => by have k := sask_at 9 [46] W (by omega) (by simp); rw [Sv.ask_root] at k; exact k)
  have KD := Lib.hid (fun (W : World) => by have k := sask_at 9 [97, 46, 46, 98] W (by omega) (by simp); rw [Sv.ask_dots] at k; exact k)
  have hsl0 : ∀ (B1 : Option Addr) (d1 : Nat), LR ≤ d1 → ∀ W, (Instr.slice 22 (.slice B1 LR d1) none (some (.int .i64 (K : Int))) none).run Tryz.prog W = .ok (.slice B1 K d1) W := fun B1 d1 hd W => run_sl_h (P := Tryz.prog) W 22 5 Tryz.underlying22 (fun w => by kernel_rfl) B1 LR d1 K (by omega)
  dsimp only [List.length_nil] at KT KN KS
  have HM := Lib.hid hM
  have HFL := Lib.hid hFL
  have HE := Lib.hid hE
  have HQ := Lib.hid hq
  have HR := Lib.hid h
  have HNUM := Lib.hid hfa.num
  have HAW := Lib.hid (sawake_any w)
  clear h hc hx hn hq hFL hE hM hf hQ hR hT hLQ hLR hK hKl hTs hfa hFb
  go_enter Tryz.func11, Tryz.ntmps11
  go_upto_region 5 with (first
    | (go_at_call 37
       refine (KA.out w2 (HR.out.goes HB2.out)).mono ?_
       rintro e w3 ⟨x, Ao, no, co, rfl, hxm, hxo, hap, hb3⟩
       have HXM := Lib.hid hxm
       have HXO := Lib.hid hxo
       have HAP := Lib.hid hap
       have HB23 := Lib.hid hb3
       obtain ⟨nA, nc, b, o, hqs, hqA, hbq, k0, k1, k2⟩ := Sv.quest_cells hxo (by have e := congrArg Ms.qs hxm; unfold Sv.ansM at e; rw [Sv.ansK_is] at e; exact e)
       have K0 := Lib.hid k0
       have K1 := Lib.hid k1
       have K2 := Lib.hid k2
       clear hxm hxo hap hb3 k0 k1 k2
       obtain ⟨idX, flX, qAX, qcX, qsX, aAX, acX, raX, bAX, bdX, rbX, cAX, ccX, rcX⟩ := x
       dsimp only at hqs hqA
       subst hqs hqA
       unfold MR.cells
       dsimp only
       simp only [List.length_cons, List.length_nil, Nat.zero_add])
    | (go_at_call 32
       refine (KQ.out w1).mono ?_
       rintro e w2 ⟨A2, c2, rfl, hc2, hr2, hb2⟩
       have HR22 := Lib.hid hr2
       have HB2 := Lib.hid (HB1.out.trans (hb2.mono HB1.out.size))
       clear hr2 hb2)
    | (go_at_call 14
       refine HAW.out.mono ?_
       rintro e w1 ⟨rfl, hb1⟩
       have HB1 := Lib.hid hb1
       clear hb1))
  have hV := Vx.new w3 72 [.int .u16 (idX : Int), .int .u16 (flX : Int), .slice (some ⟨b, o, none⟩) 1 qcX, .slice aAX raX.length acX, .slice bAX rbX.length bdX, .slice cAX rcX.length ccX]
  have hS := (Sv.WSt.start (g := w3.heap.size) HXO.out (Nat.le_refl _)).far (bl_new w3 (.cells #[.int .u16 (idX : Int), .int .u16 (flX : Int), .slice (some ⟨b, o, none⟩) 1 qcX, .slice aAX raX.length acX, .slice bAX rbX.length bdX, .slice cAX rcX.length ccX] 72))
  have hB4 := HB23.out.trans ((bl_new w3 (.cells #[.int .u16 (idX : Int), .int .u16 (flX : Int), .slice (some ⟨b, o, none⟩) 1 qcX, .slice aAX raX.length acX, .slice bAX rbX.length bdX, .slice cAX rcX.length ccX] 72)).mono HB23.out.size)
  have hK0 := ((bl_new w3 (.cells #[.int .u16 (idX : Int), .int .u16 (flX : Int), .slice (some ⟨b, o, none⟩) 1 qcX, .slice aAX raX.length acX, .slice bAX rbX.length bdX, .slice cAX rcX.length ccX] 72)).cell (p := ⟨b, o, none⟩) hbq).trans K0.out
  have hK1 := ((bl_new w3 (.cells #[.int .u16 (idX : Int), .int .u16 (flX : Int), .slice (some ⟨b, o, none⟩) 1 qcX, .slice aAX raX.length acX, .slice bAX rbX.length bdX, .slice cAX rcX.length ccX] 72)).cell (p := ⟨b, o + 1, none⟩) hbq).trans K1.out
  have hK2 := ((bl_new w3 (.cells #[.int .u16 (idX : Int), .int .u16 (flX : Int), .slice (some ⟨b, o, none⟩) 1 qcX, .slice aAX raX.length acX, .slice bAX rbX.length bdX, .slice cAX rcX.length ccX] 72)).cell (p := ⟨b, o + 2, none⟩) hbq).trans K2.out
  have hlt4 : w3.heap.size < (w3.alloc (.cells #[.int .u16 (idX : Int), .int .u16 (flX : Int), .slice (some ⟨b, o, none⟩) 1 qcX, .slice aAX raX.length acX, .slice bAX rbX.length bdX, .slice cAX rcX.length ccX] 72)).heap.size := by simp
  have hg2 : w2.heap.size ≤ w3.heap.size := HB23.out.size
  obtain ⟨g13, hg13⟩ : ∃ g, g = w3.heap.size := ⟨_, rfl⟩
  rw [← hg13] at hV hS hlt4 hg2 ⊢
  generalize w3.alloc (.cells #[.int .u16 (idX : Int), .int .u16 (flX : Int), .slice (some ⟨b, o, none⟩) 1 qcX, .slice aAX raX.length acX, .slice bAX rbX.length bdX, .slice cAX rcX.length ccX] 72) = W4 at hV hS hB4 hK0 hK1 hK2 hlt4 ⊢
  have HV4 := Lib.hid hV
  have HS4 := Lib.hid hS
  have HB4 := Lib.hid hB4
  obtain ⟨m0, m1, m2, m3, m4, m5⟩ := hV.c6
  clear hV hS hB4 hg13 hbq HXO HB23 K0 K1 K2
  have hs1 : (W4.alloc (.cells #[.string ⟨#[110, 49]⟩, .string ⟨#[101, 120, 32, 97, 109, 112, 108, 101]⟩] 9)).heap.size = W4.heap.size + 1 := by simp
  have hs2 : ((W4.alloc (.cells #[.string ⟨#[110, 49]⟩, .string ⟨#[101, 120, 32, 97, 109, 112, 108, 101]⟩] 9)).alloc (.cells #[.slice nA 3 nc, .int .u16 33, .int .u16 1, .int .u32 0, .slice none 0 0, .int .u16 0, .int .u16 0, .int .u16 0, .slice (some ⟨W4.heap.size + 1 + 1, 0, none⟩) 1 1] 88)).heap.size = W4.heap.size + 1 + 1 := by simp
  have hb45 : Below W4.heap.size W4 (((W4.alloc (.cells #[.string ⟨#[110, 49]⟩, .string ⟨#[101, 120, 32, 97, 109, 112, 108, 101]⟩] 9)).alloc (.cells #[.slice nA 3 nc, .int .u16 33, .int .u16 1, .int .u32 0, .slice none 0 0, .int .u16 0, .int .u16 0, .int .u16 0, .slice (some ⟨W4.heap.size + 1 + 1, 0, none⟩) 1 1] 88)).alloc (.cells #[.string ⟨#[110, 49]⟩] 9)) := ((bl_new W4 _).alloc (by simp) _).alloc (by simp; omega) _
  have hv15 := (Vx.new (W4.alloc (.cells #[.string ⟨#[110, 49]⟩, .string ⟨#[101, 120, 32, 97, 109, 112, 108, 101]⟩] 9)) 88 [.slice nA 3 nc, .int .u16 33, .int .u16 1, .int .u32 0, .slice none 0 0, .int .u16 0, .int .u16 0, .int .u16 0, .slice (some ⟨W4.heap.size + 1 + 1, 0, none⟩) 1 1]).alloc (.cells #[.string ⟨#[110, 49]⟩] 9)
  have hto := Ow.lit ((W4.alloc (.cells #[.string ⟨#[110, 49]⟩, .string ⟨#[101, 120, 32, 97, 109, 112, 108, 101]⟩] 9)).alloc (.cells #[.slice nA 3 nc, .int .u16 33, .int .u16 1, .int .u32 0, .slice none 0 0, .int .u16 0, .int .u16 0, .int .u16 0, .slice (some ⟨W4.heap.size + 1 + 1, 0, none⟩) 1 1] 88)) 9 (sc (Sv.badTg true)) (by decide)
  rw [hs2] at hto
  rw [hs1] at hv15
  have hto : (nmO (some ⟨W4.heap.size + 1 + 1, 0, none⟩) 1 (Sv.badTg true)).ok (((W4.alloc (.cells #[.string ⟨#[110, 49]⟩, .string ⟨#[101, 120, 32, 97, 109, 112, 108, 101]⟩] 9)).alloc (.cells #[.slice nA 3 nc, .int .u16 33, .int .u16 1, .int .u32 0, .slice none 0 0, .int .u16 0, .int .u16 0, .int .u16 0, .slice (some ⟨W4.heap.size + 1 + 1, 0, none⟩) 1 1] 88)).alloc (.cells #[.string ⟨#[110, 49]⟩] 9)) w2.heap.size := OwM.mono (Sv.nmO_ok hto rfl) (by have := HB4.out.size; omega)
  have hS5 := HS4.out.far hb45
  have hV5 := HV4.out.below hb45 HV4.out.lt
  have hB5 := HB4.out.trans (hb45.mono HB4.out.size)
  have hsz5 := hb45.size
  obtain ⟨tb, htb⟩ : ∃ t, t = W4.heap.size + 1 + 1 := ⟨_, rfl⟩
  have htbl : W4.heap.size ≤ tb := by omega
  go_upto_region 8 with fail
  generalize (((W4.alloc (.cells #[.string ⟨#[110, 49]⟩, .string ⟨#[101, 120, 32, 97, 109, 112, 108, 101]⟩] 9)).alloc (.cells #[.slice nA 3 nc, .int .u16 33, .int .u16 1, .int .u32 0, .slice none 0 0, .int .u16 0, .int .u16 0, .int .u16 0, .slice (some ⟨W4.heap.size + 1 + 1, 0, none⟩) 1 1] 88)).alloc (.cells #[.string ⟨#[110, 49]⟩] 9)) = W5 at hb45 hv15 hto hS5 hV5 hB5 hsz5 ⊢
  rw [← htb] at hv15 hto ⊢
  obtain ⟨g15, hg15⟩ : ∃ t, t = W4.heap.size + 1 := ⟨_, rfl⟩
  rw [← hg15] at hv15 ⊢
  have hv15 : Vx W5 g15 88 [.slice nA 3 nc, .int .u16 33, .int .u16 1, .int .u32 0, .slice none 0 0, .int .u16 0, .int .u16 0, .int .u16 0, .slice (some ⟨tb, 0, none⟩) 1 1] := hv15
  have x0 : W5.cell? ⟨g15, 0, none⟩ = some (.slice nA 3 nc) := hv15.cell 0
  have x1 : W5.cell? ⟨g15, 1, none⟩ = some (.int .u16 33) := hv15.cell 1
  have x2 : W5.cell? ⟨g15, 2, none⟩ = some (.int .u16 1) := hv15.cell 2
  have x3 : W5.cell? ⟨g15, 3, none⟩ = some (.int .u32 0) := hv15.cell 3
  have x4 : W5.cell? ⟨g15, 4, none⟩ = some (.slice none 0 0) := hv15.cell 4
  have x5 : W5.cell? ⟨g15, 5, none⟩ = some (.int .u16 0) := hv15.cell 5
  have x6 : W5.cell? ⟨g15, 6, none⟩ = some (.int .u16 0) := hv15.cell 6
  have x7 : W5.cell? ⟨g15, 7, none⟩ = some (.int .u16 0) := hv15.cell 7
  have x8 : W5.cell? ⟨g15, 8, none⟩ = some (.slice (some ⟨tb, 0, none⟩) 1 1) := hv15.cell 8
  clear m0 m1 m2 m3 m4 m5 hs1 hs2 hg15 htb
  obtain ⟨m0, m1, m2, m3, m4, m5⟩ := hV5.c6
  obtain ⟨r6, hr6⟩ : ∃ r : List RR, r = ⟨nA, nc, none, 0, some ⟨tb, 0, none⟩, 1, Sv.badR true⟩ :: raX := ⟨_, rfl⟩
  have hYc : RR.cells ⟨nA, nc, none, 0, some ⟨tb, 0, none⟩, 1, Sv.badR true⟩ = [.slice nA 3 nc, .int .u16 33, .int .u16 1, .int .u32 0, .slice none 0 0, .int .u16 0, .int .u16 0, .int .u16 0, .slice (some ⟨tb, 0, none⟩) 1 1] := by simp [RR.cells, Sv.badR, Sv.badTg, Sv.svq, Sv.svc]
  have hY1 : ∀ u ∈ ([.slice nA 3 nc, .int .u16 33, .int .u16 1, .int .u32 0, .slice none 0 0, .int .u16 0, .int .u16 0, .int .u16 0, .slice (some ⟨tb, 0, none⟩) 1 1] : List Value), u.oneCell' = true := by rw [← hYc]; exact rcells_one _
  have hl6 : 1 + raX.length = r6.length := by rw [hr6]; simp; omega
  have hc6 : [.slice nA 3 nc, .int .u16 33, .int .u16 1, .int .u32 0, .slice none 0 0, .int .u16 0, .int .u16 0, .int .u16 0, .slice (some ⟨tb, 0, none⟩) 1 1] ++ rcs raX = rcs r6 := by rw [hr6, ← hYc]; simp [rcs]
  have hm6 : ∀ r ∈ r6, r ∈ raX ∨ r = (⟨nA, nc, none, 0, some ⟨tb, 0, none⟩, 1, Sv.badR true⟩ : RR) := by rw [hr6]; intro r hr; simp at hr; exact hr.symm
  have hra : raX.length ≤ 256 := by
    have e := congrArg Ms.r0 HXM.out
    have e2 := congrArg List.length e
    have hn := HNUM.out
    simp only [MR.m, List.length_map] at e2
    unfold Ms.num at hn
    omega
  have hy : ∀ u, DR [(⟨nA, nc, none, 0, some ⟨tb, 0, none⟩, 1, Sv.badR true⟩ : RR)] u → u.ok W5 w2.heap.size ∧ u.v.ownBlock ≠ some g13 ∧ ((u = nmO nA nc Sv.svc ∨ u.v.ownBlock = none) ∨ u.v.ownBlock = some tb) := by
    rintro u ⟨z, hz, h1⟩
    rw [List.mem_singleton] at hz
    subst hz
    rcases h1 with rfl | rfl | rfl
    · have hq : Sv.MC0 ⟨idX, flX, some ⟨b, o, none⟩, qcX, [⟨nA, nc, Sv.svq⟩], aAX, acX, raX, bAX, bdX, rbX, cAX, ccX, rcX⟩ (nmO nA nc Sv.svc) := .inr (.inr (.inr (.inl ⟨_, List.mem_singleton.2 rfl, rfl⟩)))
      exact ⟨hS5.o _ hq, hS5.no _ hq, .inl (.inl rfl)⟩
    · exact ⟨OwM.nil _ _ _ _, by simp [daO, Value.ownBlock], .inl (.inr rfl)⟩
    · exact ⟨hto, by simp [nmO, Value.ownBlock]; omega, .inr rfl⟩
  have HR6 := Lib.hid hr6
  have HM6 := Lib.hid hm6
  have HY := Lib.hid hy
  have HS5 := Lib.hid hS5
  have HV5 := Lib.hid hV5
  have HB5 := Lib.hid hB5
  have HTO := Lib.hid hto
  clear hr6 hm6 hy hS5 hV5 hB5 hto hv15 hb45
  have hfl : flX = 32768 := by have e := congrArg Ms.fl HXM.out; unfold Sv.ansM at e; rw [Sv.ansK_is] at e; exact e
  have hid : idX = 9 := by have e := congrArg Ms.id HXM.out; unfold Sv.ansM at e; rw [Sv.ansK_is] at e; exact e
  obtain ⟨F1, hF1⟩ : ∃ F, F = 32768 + q := ⟨_, rfl⟩
  obtain ⟨F2, hF2⟩ : ∃ F, F = 32768 + q + 512 := ⟨_, rfl⟩
  have hor1 : bits .or .u16 (flX : Int) (q : Int) = (F1 : Int) := by rw [hfl, hF1]; exact Sv.or_low q hq16
  have hor2 : bits .or .u16 (F1 : Int) 512 = (F2 : Int) := by rw [hF1, hF2]; exact Sv.or_cut q hq16
  have HFLX := Lib.hid hfl
  have HID := Lib.hid hid
  have HF1 := Lib.hid hF1
  have HF2 := Lib.hid hF2
  have HOR1 := Lib.hid hor1
  have HOR2 := Lib.hid hor2
  clear hfl hid hF1 hF2 hor1 hor2
  have HAPT := Lib.hid (show ∀ u, (Sv.MC0 ⟨idX, flX, some ⟨b, o, none⟩, qcX, [⟨nA, nc, Sv.svq⟩], aAX, acX, raX, bAX, bdX, rbX, cAX, ccX, rcX⟩ u ∨ DR [(⟨nA, nc, none, 0, some ⟨tb, 0, none⟩, 1, Sv.badR true⟩ : RR)] u) → Sv.Apt (Value.slice (some ⟨W5.heap.size, 0, none⟩) 1 1) u.v from fun u hu q h1 h2 => by
       have e1 : W5.heap.size = q := by simpa [Value.ownBlock] using h1
       rcases hu with hu | hu
       · exact HS5.out.lt (Nat.le_of_eq e1) u (.inr hu) h2
       · rcases (HY.out u hu).2.2 with (rfl | hn) | ht
         · exact HS5.out.lt (Nat.le_of_eq e1) _ (.inr (.inr (.inr (.inr (.inl ⟨_, List.mem_singleton.2 rfl, rfl⟩))))) h2
         · rw [hn] at h2; cases h2
         · have := OwM.block_lt HTO.out tb rfl
           rw [ht] at h2; cases h2; omega)
  have m3a : (W5.alloc (.cells #[.slice nA 3 nc, .int .u16 33, .int .u16 1, .int .u32 0, .slice none 0 0, .int .u16 0, .int .u16 0, .int .u16 0, .slice (some ⟨tb, 0, none⟩) 1 1] 88)).cell? ⟨g13, 3, none⟩ = some (.slice aAX raX.length acX) := (HV5.out.alloc (.cells #[.slice nA 3 nc, .int .u16 33, .int .u16 1, .int .u32 0, .slice none 0 0, .int .u16 0, .int .u16 0, .int .u16 0, .slice (some ⟨tb, 0, none⟩) 1 1] 88)).cell 3
  go_upto_region 12 with (at_builtin; (
     refine wpList_appM _ rfl _ _ _ _ rfl W5.heap.size 9 88 j0 _ 96 Tryz.underlying69 hj' hy0 hy1 hy2 rfl (by omega) (.slice (some ⟨W5.heap.size, 0, none⟩) 1 1) 1 [.slice nA 3 nc, .int .u16 33, .int .u16 1, .int .u32 0, .slice none 0 0, .int .u16 0, .int .u16 0, .int .u16 0, .slice (some ⟨tb, 0, none⟩) 1 1] (OwM.lit W5 88 9 [.slice nA 3 nc, .int .u16 33, .int .u16 1, .int .u32 0, .slice none 0 0, .int .u16 0, .int .u16 0, .int .u16 0, .slice (some ⟨tb, 0, none⟩) 1 1] 1 rfl (by decide)) rfl raX.length (rcs raX) ((OwM.rd (OwM.alloc HS5.out.r (.cells #[.slice nA 3 nc, .int .u16 33, .int .u16 1, .int .u32 0, .slice none 0 0, .int .u16 0, .int .u16 0, .int .u16 0, .slice (some ⟨tb, 0, none⟩) 1 1] 88))).srcM Tryz.underlying69 (rcs_one raX)) (by omega) (by simp) ?_
     intro v6 w6 ho6 hg6 hz6
     rw [hl6, hc6] at ho6
     obtain ⟨A6, c6, rfl, _, _, _⟩ := ho6.form
     have HO6 := Lib.hid ho6
     have HG6 := Lib.hid hg6
     have HV6 := Lib.hid ((HV5.out.alloc (.cells #[.slice nA 3 nc, .int .u16 33, .int .u16 1, .int .u32 0, .slice none 0 0, .int .u16 0, .int .u16 0, .int .u16 0, .slice (some ⟨tb, 0, none⟩) 1 1] 88)).grown hg6.1 (fun e => by simp [Value.ownBlock] at e; omega))
     have HB6 := Lib.hid ((HB5.out.alloc HB5.out.size _).trans ((show Below W5.heap.size _ w6 from hg6.below (fun q hq => by simp [Value.ownBlock] at hq; omega) (by simp)).mono HB5.out.size))
     have f3 := HV6.out.free 3
     have m3' : w6.cell? ⟨g13, 3, none⟩ = some (.slice aAX raX.length acX) := HV6.out.cell 3
     clear ho6 hg6))
  have hng : (rwR A6 c6 r6).v.ownBlock ≠ some g13 := fun e => by
    rcases HG6.out.2 g13 e with h1 | h1
    · exact (fun e : (Value.slice (some ⟨W5.heap.size, 0, none⟩) 1 1).ownBlock = some g13 => by simp [Value.ownBlock] at e; omega) h1
    · simp at h1; omega
  have hS7 := (Sv.WSt.app HS5.out (bl_new W5 (.cells #[.slice nA 3 nc, .int .u16 33, .int .u16 1, .int .u32 0, .slice none 0 0, .int .u16 0, .int .u16 0, .int .u16 0, .slice (some ⟨tb, 0, none⟩) 1 1] 88)) HG6.out (fun u hu => HAPT.out u (.inl hu)) ⟨nA, nc, none, 0, some ⟨tb, 0, none⟩, 1, Sv.badR true⟩ (fun u hu => ⟨OwM.alloc (HY.out u hu).1 _, (HY.out u hu).2.1, HAPT.out u (.inr hu)⟩) r6 A6 c6 (OwM.mono HO6.out (by have := HB5.out.size; omega)) hng HM6.out).setG 3 (.slice A6 r6.length c6)
  have hV7 := HV6.out.set_ 3 (.slice A6 r6.length c6)
  simp only [List.set_cons_zero, List.set_cons_succ] at hV7
  have hB7 := HB6.out.setCell (p := ⟨g13, 3, none⟩) hg2 (.slice A6 r6.length c6)
  generalize w6.setCell ⟨g13, 3, none⟩ (.slice A6 r6.length c6) = w7 at hS7 hV7 hB7 ⊢
  have HS7 := Lib.hid hS7
  have HV7 := Lib.hid hV7
  have HB7 := Lib.hid hB7
  obtain ⟨ra1, hra1⟩ : ∃ k, k = r6.length := ⟨_, rfl⟩
  have e0 : raX.map RR.r = (Sv.ansM 9 l).r0 := congrArg Ms.r0 HXM.out
  have e1 : rbX.map RR.r = (Sv.ansM 9 l).r1 := congrArg Ms.r1 HXM.out
  have e2 : rcX.map RR.r = (Sv.ansM 9 l).r2 := congrArg Ms.r2 HXM.out
  have HME := Lib.hid (fun (fl : Nat) (hfe : fl = FL) => show MR.m ⟨idX, fl, some ⟨b, o, none⟩, qcX, [⟨nA, nc, Sv.svq⟩], A6, c6, r6, bAX, bdX, rbX, cAX, ccX, rcX⟩ = M by
    show (⟨idX, fl, [Sv.svq], r6.map RR.r, rbX.map RR.r, rcX.map RR.r⟩ : Ms) = M
    rw [HM.out, HR6.out, HID.out, hfe, e1, e2]
    unfold Sv.wrongM
    simp [e0])
  (try clear m3a)
  clear hS7 hV7 hB7 hng f3 m3' x0 x1 x2 x3 x4 x5 x6 x7 x8 m0 m1 m2 m3 m4 m5 e0 e1 e2 hra1 hl6 hc6 hYc hY1
  by_cases hqz : q = 0 <;> cases cut
  case' pos.true =>
    have hqn : ¬ (0 : Int) < (q : Int) := by omega
    have HQ0 := Lib.hid hqz
    clear hqz
    have HFE := Lib.hid (show F2 = FL by rw [HFL.out, HF2.out, HQ.out]; simp [Sv.wrongF])
    have hEI : (E : Int) = 183 := by rw [HE.out]; simp [Sv.wrongE]
    have hor : bits .or .u16 (flX : Int) 512 = (F2 : Int) := by
      have e : flX = F1 := by rw [HFLX.out, HF1.out, HQ0.out]
      rw [e]; exact HOR2.out
    obtain ⟨m0, m1, m2, m3, m4, m5⟩ := HV7.out.c6
    have f1 := HV7.out.free 1
    go_upto_region 17 with fail
    clear hor
    have hS8 := (HS7.out.fl F2).setG 1 (.int .u16 (F2 : Int))
    have hV8 := HV7.out.set_ 1 (.int .u16 (F2 : Int))
    simp only [List.set_cons_zero, List.set_cons_succ] at hV8
    have hB8 := HB7.out.setCell (p := ⟨g13, 1, none⟩) hg2 (.int .u16 (F2 : Int))
    generalize w7.setCell ⟨g13, 1, none⟩ (.int .u16 (F2 : Int)) = w8 at hS8 hV8 hB8 ⊢
    have HS8 := Lib.hid hS8
    have HV8 := Lib.hid hV8
    have HB8 := Lib.hid hB8
    clear hS8 hV8 hB8 m0 m1 m2 m3 m4 m5 f1
    obtain ⟨WL, hWL⟩ : ∃ x, x = w8 := ⟨w8, rfl⟩
    subst hWL
    have HSL := HS8
    have HVL := HV8
    have HBB := HB8
  case' pos.false =>
    have hqn : ¬ (0 : Int) < (q : Int) := by omega
    have HQ0 := Lib.hid hqz
    clear hqz
    have HFE := Lib.hid (show flX = FL by rw [HFL.out, HFLX.out]; unfold Sv.wrongF; rw [← HQ.out, HQ0.out]; simp)
    have hEI : (E : Int) = 185 := by rw [HE.out]; unfold Sv.wrongE; rw [if_neg (by simp), if_neg (by rw [← HQ.out, HQ0.out]; simp)]; rfl
    obtain ⟨WL, hWL⟩ : ∃ x, x = w7 := ⟨w7, rfl⟩
    subst hWL
    have HSL := HS7
    have HVL := HV7
    have HBB := HB7
  case' neg.true =>
    have hqp : (0 : Int) < (q : Int) := by omega
    have HQ0 := Lib.hid hqz
    clear hqz
    have hor1 := HOR1.out
    obtain ⟨m0, m1, m2, m3, m4, m5⟩ := HV7.out.c6
    have f1 := HV7.out.free 1
    go_upto_region 14 with fail
    clear hor1
    have hS8 := (HS7.out.fl F1).setG 1 (.int .u16 (F1 : Int))
    have hV8 := HV7.out.set_ 1 (.int .u16 (F1 : Int))
    simp only [List.set_cons_zero, List.set_cons_succ] at hV8
    have hB8 := HB7.out.setCell (p := ⟨g13, 1, none⟩) hg2 (.int .u16 (F1 : Int))
    generalize w7.setCell ⟨g13, 1, none⟩ (.int .u16 (F1 : Int)) = w8 at hS8 hV8 hB8 ⊢
    have HS8 := Lib.hid hS8
    have HV8 := Lib.hid hV8
    have HB8 := Lib.hid hB8
    clear hS8 hV8 hB8 m0 m1 m2 m3 m4 m5 f1
    have HFE := Lib.hid (show F2 = FL by rw [HFL.out, HF2.out, HQ.out]; simp [Sv.wrongF])
    have hEI : (E : Int) = 183 := by rw [HE.out]; simp [Sv.wrongE]
    have hor2 := HOR2.out
    obtain ⟨m0, m1, m2, m3, m4, m5⟩ := HV8.out.c6
    have f1 := HV8.out.free 1
    go_upto_region 17 with fail
    clear hor2
    have hS9 := (HS8.out.fl F2).setG 1 (.int .u16 (F2 : Int))
    have hV9 := HV8.out.set_ 1 (.int .u16 (F2 : Int))
    simp only [List.set_cons_zero, List.set_cons_succ] at hV9
    have hB9 := HB8.out.setCell (p := ⟨g13, 1, none⟩) hg2 (.int .u16 (F2 : Int))
    generalize w8.setCell ⟨g13, 1, none⟩ (.int .u16 (F2 : Int)) = w9 at hS9 hV9 hB9 ⊢
    have HS9 := Lib.hid hS9
    have HV9 := Lib.hid hV9
    have HB9 := Lib.hid hB9
    clear hS9 hV9 hB9 m0 m1 m2 m3 m4 m5 f1
    obtain ⟨WL, hWL⟩ : ∃ x, x = w9 := ⟨w9, rfl⟩
    subst hWL
    have HSL := HS9
    have HVL := HV9
    have HBB := HB9
  case' neg.false =>
    have hqp : (0 : Int) < (q : Int) := by omega
    have HQ0 := Lib.hid hqz
    clear hqz
    have hor1 := HOR1.out
    obtain ⟨m0, m1, m2, m3, m4, m5⟩ := HV7.out.c6
    have f1 := HV7.out.free 1
    go_upto_region 14 with fail
    clear hor1
    have hS8 := (HS7.out.fl F1).setG 1 (.int .u16 (F1 : Int))
    have hV8 := HV7.out.set_ 1 (.int .u16 (F1 : Int))
    simp only [List.set_cons_zero, List.set_cons_succ] at hV8
    have hB8 := HB7.out.setCell (p := ⟨g13, 1, none⟩) hg2 (.int .u16 (F1 : Int))
    generalize w7.setCell ⟨g13, 1, none⟩ (.int .u16 (F1 : Int)) = w8 at hS8 hV8 hB8 ⊢
    have HS8 := Lib.hid hS8
    have HV8 := Lib.hid hV8
    have HB8 := Lib.hid hB8
    clear hS8 hV8 hB8 m0 m1 m2 m3 m4 m5 f1
    have HFE := Lib.hid (show F1 = FL by rw [HFL.out, HF1.out, HQ.out]; simp [Sv.wrongF])
    have hEI : (E : Int) = 184 := by rw [HE.out]; unfold Sv.wrongE; rw [if_neg (by simp), if_pos (by rw [← HQ.out]; exact HQ0.out)]; rfl
    obtain ⟨WL, hWL⟩ : ∃ x, x = w8 := ⟨w8, rfl⟩
    subst hWL
    have HSL := HS8
    have HVL := HV8
    have HBB := HB8
  all_goals
    have kw := KW.out _ WL WL w2.heap.size (HME.out _ HFE.out) HSL.out.mow (Below.refl _ _)
    have HKW := Lib.hid kw
    have HRQ0 := Lib.hid (HR22.out.goes HBB.out)
    clear kw
    obtain ⟨m0, m1, m2, m3, m4, m5⟩ := HVL.out.c6
    go_wp2_with (first
      | (go_at_call 32
         refine (KD.out x5).mono ?_
         rintro e x6 ⟨v6, rfl, _, hb6⟩
         have HX6 := Lib.hid (HX5.out.trans (hb6.mono HX5.out.size))
         clear hb6)
      | (go_at_call 32
         refine (KRT.out x4).mono ?_
         rintro e x5 ⟨v5, rfl, _, hb5⟩
         have HX5 := Lib.hid (HX4.out.trans (hb5.mono HX4.out.size))
         clear hb5)
      | (go_at_call 35
         refine (KS.out A2 B1 c2 d1 x3 HRQ3.out HRR3.out hc2 (by omega)).mono ?_
         rintro e x4 ⟨B4, d4, rfl, _, _, hb4⟩
         have HX4 := Lib.hid (HX3.out.trans (hb4.mono HX3.out.size))
         clear hb4)
      | (go_at_call 35
         refine (KN.out B1 d1 x2 HRR2.out hd1).mono ?_
         rintro e x3 ⟨B3, d3, rfl, _, _, hb3⟩
         have HRQ3 := Lib.hid (HRQ2.out.goes hb3)
         have HRR3 := Lib.hid (HRR2.out.goes hb3)
         have HX3 := Lib.hid (HX2.out.trans (hb3.mono HX2.out.size))
         have hsl := hsl0 B1 d1 hd1
         clear hb3)
      | (go_at_call 35
         refine (KT.out A2 B1 c2 d1 x1 HRQ1.out HRR1.out hc2 hd1).mono ?_
         rintro e x2 ⟨B2, d2, rfl, _, _, hb2⟩
         have HRQ2 := Lib.hid (HRQ1.out.goes hb2)
         have HRR2 := Lib.hid (HRR1.out.goes hb2)
         have HX2 := Lib.hid (HX1.out.trans (hb2.mono HX1.out.size))
         clear hb2)
      | (go_at_call 36
         refine HKW.out.mono ?_
         rintro e x1 ⟨B1, d1, rfl, hd1, hr1, hb1⟩
         have HRR1 := Lib.hid hr1
         have HRQ1 := Lib.hid (HRQ0.out.goes hb1)
         have HX1 := Lib.hid (HBB.out.trans (hb1.mono HBB.out.size))
         clear hr1 hb1))
    go_ret
    exact ⟨rfl, HB2.out.trans (HX6.out.mono HB2.out.size)⟩

set_option maxRecDepth 100000 in
set_option maxHeartbeats 4000000 in
theorem srvWrong_tf (A0 : Option Addr) (c0 : Nat) (l : List Sv.Sa) (code : Nat) (cut : Bool) (w : World) (h : Rd w w.heap.size A0 (l.length * 6) (Sv.scs l)) (hc : l.length ≤ c0) (hx : ∀ s ∈ l, Sv.okS s) (hcode : code < 256) :
    Calls Tryz.prog 11 #[.slice A0 l.length c0, .int .u8 (code : Int), .bool cut, .bool true, .bool false] w fun e w' => e = .returned (.bool true) ∧ Below w.heap.size w w' := by
  obtain ⟨j0, hj', hy0, hy1, hy2⟩ := info_parts Tryz.infoR
  obtain ⟨n, hn⟩ : ∃ n, n = l.length := ⟨_, rfl⟩
  rw [← hn] at h hc ⊢
  obtain ⟨q, hq⟩ : ∃ q, q = code % 16 := ⟨_, rfl⟩
  have hq16 : q < 16 := by omega
  have hq1 : (code : Int) % 16 = (q : Int) := by omega
  have hq2 : (code : Int).tmod 16 = (q : Int) := by rw [Int.tmod_eq_emod_of_nonneg (by omega)]; exact hq1
  obtain ⟨FL, hFL⟩ : ∃ F, F = Sv.wrongF code cut := ⟨_, rfl⟩
  obtain ⟨E, hE⟩ : ∃ E, E = Sv.wrongE code cut := ⟨_, rfl⟩
  have hFb : FL < 65536 := by rw [hFL]; unfold Sv.wrongF; split <;> omega
  obtain ⟨M, hM⟩ : ∃ M, M = Sv.wrongM FL l true false := ⟨_, rfl⟩
  have hf : Fine M := by rw [hM]; exact Sv.wrong_fine hx FL hFb true false
  obtain ⟨Q, hQ⟩ : ∃ Q, Q = formM (Srv.askM 9 Sv.svc) := ⟨_, rfl⟩
  obtain ⟨R, hR⟩ : ∃ R, R = formM M := ⟨_, rfl⟩
  have hT : Srv.takeN Q R = ([], E) := by rw [hQ, hR, hM, hFL, hE]; exact Sv.take_wrong hx code cut true false
  obtain ⟨LQ, hLQ⟩ : ∃ L, L = Q.length := ⟨_, rfl⟩
  obtain ⟨LR, hLR⟩ : ∃ L, L = R.length := ⟨_, rfl⟩
  have hQl : LQ ≤ 4096 := by rw [hLQ, hQ]; exact (ask_fine (by omega) Sv.svc_right).len
  have hRl : LR ≤ 4096 := by rw [hLR, hR]; exact hf.len
  obtain ⟨K, hK⟩ : ∃ K, K = min LR 11 := ⟨_, rfl⟩
  have hmin : min (LR : Int) 11 = (K : Int) := by omega
  have hKR : K ≤ LR := by omega
  have hKl : K = (R.take K).length := by rw [List.length_take, ← hLR]; omega
  have hTs : Srv.takeN Q (R.take K) = ([], 171) := by rw [hQ]; exact Sv.take_short (by rw [← hKl]; omega)
  have hfa := Sv.ansM_fine (id := 9) (by omega) hx
  have KA := Lib.hid (fun (W : World) (hW : Rd W W.heap.size A0 (n * 6) (Sv.scs l)) => Sv.answer_w 9 n A0 c0 l W (by omega) hW hn.symm hc hx)
  have KQ := Lib.hid (fun (W : World) => Sv.ask_query 9 Q LQ W (by omega) hQ hLQ)
  have KW := Lib.hid (fun (x : MR) (W0 W : World) (b : Nat) (h1 : x.m = M) (h2 : MOw W0 b x) (h3 : Below W0.heap.size W0 W) => Sv.fine_write x M R LR W0 W b h1 hf hR hLR h2 h3)
  have KT := Lib.hid (fun (A1 A2 : Option Addr) (c1 c2 : Nat) (W : World) h1 h2 (h3 : LQ ≤ c1) (h4 : LR ≤ c2) => Sv.take_got A1 A2 c1 c2 LQ LR Q R [] E W hT hLQ hLR h1 h2 h3 h4 (by omega) (by omega))
  have KN := Lib.hid (fun (A2 : Option Addr) (c2 : Nat) (W : World) h2 (h4 : LR ≤ c2) => Sv.take_got none A2 0 c2 0 LR [] R [] 181 W (Sv.take_nil R) rfl hLR (Rd.nil _ _ _) h2 (Nat.le_refl _) h4 (by omega) (by omega))
  have KS := Lib.hid (fun (A1 A2 : Option Addr) (c1 c2 : Nat) (W : World) h1 (h2 : Rd W W.heap.size A2 LR (bc R)) (h3 : LQ ≤ c1) (h4 : K ≤ c2) => Sv.take_got A1 A2 c1 c2 LQ K Q (R.take K) [] 171 W hTs hLQ hKl h1 (Sv.rd_cut h2 hKR) h3 h4 (by omega) (by omega))
  have KRT := Lib.hid (fun (W : World) => by have k := sask_at 9 [46] W (by omega) (by simp); rw [Sv.ask_root] at k; exact k)
  have KD := Lib.hid (fun (W : World) => by have k := sask_at 9 [97, 46, 46, 98] W (by omega) (by simp); rw [Sv.ask_dots] at k; exact k)
  have hsl0 : ∀ (B1 : Option Addr) (d1 : Nat), LR ≤ d1 → ∀ W, (Instr.slice 22 (.slice B1 LR d1) none (some (.int .i64 (K : Int))) none).run Tryz.prog W = .ok (.slice B1 K d1) W := fun B1 d1 hd W => run_sl_h (P := Tryz.prog) W 22 5 Tryz.underlying22 (fun w => by kernel_rfl) B1 LR d1 K (by omega)
  dsimp only [List.length_nil] at KT KN KS
  have HM := Lib.hid hM
  have HFL := Lib.hid hFL
  have HE := Lib.hid hE
  have HQ := Lib.hid hq
  have HR := Lib.hid h
  have HNUM := Lib.hid hfa.num
  have HAW := Lib.hid (sawake_any w)
  clear h hc hx hn hq hFL hE hM hf hQ hR hT hLQ hLR hK hKl hTs hfa hFb
  go_enter Tryz.func11, Tryz.ntmps11
  go_upto_region 5 with (first
    | (go_at_call 37
       refine (KA.out w2 (HR.out.goes HB2.out)).mono ?_
       rintro e w3 ⟨x, Ao, no, co, rfl, hxm, hxo, hap, hb3⟩
       have HXM := Lib.hid hxm
       have HXO := Lib.hid hxo
       have HAP := Lib.hid hap
       have HB23 := Lib.hid hb3
       obtain ⟨nA, nc, b, o, hqs, hqA, hbq, k0, k1, k2⟩ := Sv.quest_cells hxo (by have e := congrArg Ms.qs hxm; unfold Sv.ansM at e; rw [Sv.ansK_is] at e; exact e)
       have K0 := Lib.hid k0
       have K1 := Lib.hid k1
       have K2 := Lib.hid k2
       clear hxm hxo hap hb3 k0 k1 k2
       obtain ⟨idX, flX, qAX, qcX, qsX, aAX, acX, raX, bAX, bdX, rbX, cAX, ccX, rcX⟩ := x
       dsimp only at hqs hqA
       subst hqs hqA
       unfold MR.cells
       dsimp only
       simp only [List.length_cons, List.length_nil, Nat.zero_add])
    | (go_at_call 32
       refine (KQ.out w1).mono ?_
       rintro e w2 ⟨A2, c2, rfl, hc2, hr2, hb2⟩
       have HR22 := Lib.hid hr2
       have HB2 := Lib.hid (HB1.out.trans (hb2.mono HB1.out.size))
       clear hr2 hb2)
    | (go_at_call 14
       refine HAW.out.mono ?_
       rintro e w1 ⟨rfl, hb1⟩
       have HB1 := Lib.hid hb1
       clear hb1))
  have hV := Vx.new w3 72 [.int .u16 (idX : Int), .int .u16 (flX : Int), .slice (some ⟨b, o, none⟩) 1 qcX, .slice aAX raX.length acX, .slice bAX rbX.length bdX, .slice cAX rcX.length ccX]
  have hS := (Sv.WSt.start (g := w3.heap.size) HXO.out (Nat.le_refl _)).far (bl_new w3 (.cells #[.int .u16 (idX : Int), .int .u16 (flX : Int), .slice (some ⟨b, o, none⟩) 1 qcX, .slice aAX raX.length acX, .slice bAX rbX.length bdX, .slice cAX rcX.length ccX] 72))
  have hB4 := HB23.out.trans ((bl_new w3 (.cells #[.int .u16 (idX : Int), .int .u16 (flX : Int), .slice (some ⟨b, o, none⟩) 1 qcX, .slice aAX raX.length acX, .slice bAX rbX.length bdX, .slice cAX rcX.length ccX] 72)).mono HB23.out.size)
  have hK0 := ((bl_new w3 (.cells #[.int .u16 (idX : Int), .int .u16 (flX : Int), .slice (some ⟨b, o, none⟩) 1 qcX, .slice aAX raX.length acX, .slice bAX rbX.length bdX, .slice cAX rcX.length ccX] 72)).cell (p := ⟨b, o, none⟩) hbq).trans K0.out
  have hK1 := ((bl_new w3 (.cells #[.int .u16 (idX : Int), .int .u16 (flX : Int), .slice (some ⟨b, o, none⟩) 1 qcX, .slice aAX raX.length acX, .slice bAX rbX.length bdX, .slice cAX rcX.length ccX] 72)).cell (p := ⟨b, o + 1, none⟩) hbq).trans K1.out
  have hK2 := ((bl_new w3 (.cells #[.int .u16 (idX : Int), .int .u16 (flX : Int), .slice (some ⟨b, o, none⟩) 1 qcX, .slice aAX raX.length acX, .slice bAX rbX.length bdX, .slice cAX rcX.length ccX] 72)).cell (p := ⟨b, o + 2, none⟩) hbq).trans K2.out
  have hlt4 : w3.heap.size < (w3.alloc (.cells #[.int .u16 (idX : Int), .int .u16 (flX : Int), .slice (some ⟨b, o, none⟩) 1 qcX, .slice aAX raX.length acX, .slice bAX rbX.length bdX, .slice cAX rcX.length ccX] 72)).heap.size := by simp
  have hg2 : w2.heap.size ≤ w3.heap.size := HB23.out.size
  obtain ⟨g13, hg13⟩ : ∃ g, g = w3.heap.size := ⟨_, rfl⟩
  rw [← hg13] at hV hS hlt4 hg2 ⊢
  generalize w3.alloc (.cells #[.int .u16 (idX : Int), .int .u16 (flX : Int), .slice (some ⟨b, o, none⟩) 1 qcX, .slice aAX raX.length acX, .slice bAX rbX.length bdX, .slice cAX rcX.length ccX] 72) = W4 at hV hS hB4 hK0 hK1 hK2 hlt4 ⊢
  have HV4 := Lib.hid hV
  have HS4 := Lib.hid hS
  have HB4 := Lib.hid hB4
  obtain ⟨m0, m1, m2, m3, m4, m5⟩ := hV.c6
  clear hV hS hB4 hg13 hbq HXO HB23 K0 K1 K2
  have hs1 : (W4.alloc (.cells #[.string ⟨#[110, 49]⟩, .string ⟨#[101, 120, 32, 97, 109, 112, 108, 101]⟩] 9)).heap.size = W4.heap.size + 1 := by simp
  have hs2 : ((W4.alloc (.cells #[.string ⟨#[110, 49]⟩, .string ⟨#[101, 120, 32, 97, 109, 112, 108, 101]⟩] 9)).alloc (.cells #[.slice nA 3 nc, .int .u16 33, .int .u16 1, .int .u32 0, .slice none 0 0, .int .u16 0, .int .u16 0, .int .u16 0, .slice (some ⟨W4.heap.size + 1 + 1, 0, none⟩) 1 1] 88)).heap.size = W4.heap.size + 1 + 1 := by simp
  have hb45 : Below W4.heap.size W4 (((W4.alloc (.cells #[.string ⟨#[110, 49]⟩, .string ⟨#[101, 120, 32, 97, 109, 112, 108, 101]⟩] 9)).alloc (.cells #[.slice nA 3 nc, .int .u16 33, .int .u16 1, .int .u32 0, .slice none 0 0, .int .u16 0, .int .u16 0, .int .u16 0, .slice (some ⟨W4.heap.size + 1 + 1, 0, none⟩) 1 1] 88)).alloc (.cells #[.string ⟨#[110, 49]⟩] 9)) := ((bl_new W4 _).alloc (by simp) _).alloc (by simp; omega) _
  have hv15 := (Vx.new (W4.alloc (.cells #[.string ⟨#[110, 49]⟩, .string ⟨#[101, 120, 32, 97, 109, 112, 108, 101]⟩] 9)) 88 [.slice nA 3 nc, .int .u16 33, .int .u16 1, .int .u32 0, .slice none 0 0, .int .u16 0, .int .u16 0, .int .u16 0, .slice (some ⟨W4.heap.size + 1 + 1, 0, none⟩) 1 1]).alloc (.cells #[.string ⟨#[110, 49]⟩] 9)
  have hto := Ow.lit ((W4.alloc (.cells #[.string ⟨#[110, 49]⟩, .string ⟨#[101, 120, 32, 97, 109, 112, 108, 101]⟩] 9)).alloc (.cells #[.slice nA 3 nc, .int .u16 33, .int .u16 1, .int .u32 0, .slice none 0 0, .int .u16 0, .int .u16 0, .int .u16 0, .slice (some ⟨W4.heap.size + 1 + 1, 0, none⟩) 1 1] 88)) 9 (sc (Sv.badTg true)) (by decide)
  rw [hs2] at hto
  rw [hs1] at hv15
  have hto : (nmO (some ⟨W4.heap.size + 1 + 1, 0, none⟩) 1 (Sv.badTg true)).ok (((W4.alloc (.cells #[.string ⟨#[110, 49]⟩, .string ⟨#[101, 120, 32, 97, 109, 112, 108, 101]⟩] 9)).alloc (.cells #[.slice nA 3 nc, .int .u16 33, .int .u16 1, .int .u32 0, .slice none 0 0, .int .u16 0, .int .u16 0, .int .u16 0, .slice (some ⟨W4.heap.size + 1 + 1, 0, none⟩) 1 1] 88)).alloc (.cells #[.string ⟨#[110, 49]⟩] 9)) w2.heap.size := OwM.mono (Sv.nmO_ok hto rfl) (by have := HB4.out.size; omega)
  have hS5 := HS4.out.far hb45
  have hV5 := HV4.out.below hb45 HV4.out.lt
  have hB5 := HB4.out.trans (hb45.mono HB4.out.size)
  have hsz5 := hb45.size
  obtain ⟨tb, htb⟩ : ∃ t, t = W4.heap.size + 1 + 1 := ⟨_, rfl⟩
  have htbl : W4.heap.size ≤ tb := by omega
  go_upto_region 8 with fail
  generalize (((W4.alloc (.cells #[.string ⟨#[110, 49]⟩, .string ⟨#[101, 120, 32, 97, 109, 112, 108, 101]⟩] 9)).alloc (.cells #[.slice nA 3 nc, .int .u16 33, .int .u16 1, .int .u32 0, .slice none 0 0, .int .u16 0, .int .u16 0, .int .u16 0, .slice (some ⟨W4.heap.size + 1 + 1, 0, none⟩) 1 1] 88)).alloc (.cells #[.string ⟨#[110, 49]⟩] 9)) = W5 at hb45 hv15 hto hS5 hV5 hB5 hsz5 ⊢
  rw [← htb] at hv15 hto ⊢
  obtain ⟨g15, hg15⟩ : ∃ t, t = W4.heap.size + 1 := ⟨_, rfl⟩
  rw [← hg15] at hv15 ⊢
  have hv15 : Vx W5 g15 88 [.slice nA 3 nc, .int .u16 33, .int .u16 1, .int .u32 0, .slice none 0 0, .int .u16 0, .int .u16 0, .int .u16 0, .slice (some ⟨tb, 0, none⟩) 1 1] := hv15
  have x0 : W5.cell? ⟨g15, 0, none⟩ = some (.slice nA 3 nc) := hv15.cell 0
  have x1 : W5.cell? ⟨g15, 1, none⟩ = some (.int .u16 33) := hv15.cell 1
  have x2 : W5.cell? ⟨g15, 2, none⟩ = some (.int .u16 1) := hv15.cell 2
  have x3 : W5.cell? ⟨g15, 3, none⟩ = some (.int .u32 0) := hv15.cell 3
  have x4 : W5.cell? ⟨g15, 4, none⟩ = some (.slice none 0 0) := hv15.cell 4
  have x5 : W5.cell? ⟨g15, 5, none⟩ = some (.int .u16 0) := hv15.cell 5
  have x6 : W5.cell? ⟨g15, 6, none⟩ = some (.int .u16 0) := hv15.cell 6
  have x7 : W5.cell? ⟨g15, 7, none⟩ = some (.int .u16 0) := hv15.cell 7
  have x8 : W5.cell? ⟨g15, 8, none⟩ = some (.slice (some ⟨tb, 0, none⟩) 1 1) := hv15.cell 8
  clear m0 m1 m2 m3 m4 m5 hs1 hs2 hg15 htb
  obtain ⟨m0, m1, m2, m3, m4, m5⟩ := hV5.c6
  obtain ⟨r6, hr6⟩ : ∃ r : List RR, r = raX ++ [⟨nA, nc, none, 0, some ⟨tb, 0, none⟩, 1, Sv.badR true⟩] := ⟨_, rfl⟩
  have hYc : RR.cells ⟨nA, nc, none, 0, some ⟨tb, 0, none⟩, 1, Sv.badR true⟩ = [.slice nA 3 nc, .int .u16 33, .int .u16 1, .int .u32 0, .slice none 0 0, .int .u16 0, .int .u16 0, .int .u16 0, .slice (some ⟨tb, 0, none⟩) 1 1] := by simp [RR.cells, Sv.badR, Sv.badTg, Sv.svq, Sv.svc]
  have hY1 : ∀ u ∈ ([.slice nA 3 nc, .int .u16 33, .int .u16 1, .int .u32 0, .slice none 0 0, .int .u16 0, .int .u16 0, .int .u16 0, .slice (some ⟨tb, 0, none⟩) 1 1] : List Value), u.oneCell' = true := by rw [← hYc]; exact rcells_one _
  have hl6 : raX.length + 1 = r6.length := by rw [hr6]; simp
  have hc6 : rcs raX ++ [.slice nA 3 nc, .int .u16 33, .int .u16 1, .int .u32 0, .slice none 0 0, .int .u16 0, .int .u16 0, .int .u16 0, .slice (some ⟨tb, 0, none⟩) 1 1] = rcs r6 := by rw [hr6, ← hYc]; simp [rcs]
  have hm6 : ∀ r ∈ r6, r ∈ raX ∨ r = (⟨nA, nc, none, 0, some ⟨tb, 0, none⟩, 1, Sv.badR true⟩ : RR) := by rw [hr6]; intro r hr; simp at hr; exact hr
  have hra : raX.length ≤ 256 := by
    have e := congrArg Ms.r0 HXM.out
    have e2 := congrArg List.length e
    have hn := HNUM.out
    simp only [MR.m, List.length_map] at e2
    unfold Ms.num at hn
    omega
  have hy : ∀ u, DR [(⟨nA, nc, none, 0, some ⟨tb, 0, none⟩, 1, Sv.badR true⟩ : RR)] u → u.ok W5 w2.heap.size ∧ u.v.ownBlock ≠ some g13 ∧ ((u = nmO nA nc Sv.svc ∨ u.v.ownBlock = none) ∨ u.v.ownBlock = some tb) := by
    rintro u ⟨z, hz, h1⟩
    rw [List.mem_singleton] at hz
    subst hz
    rcases h1 with rfl | rfl | rfl
    · have hq : Sv.MC0 ⟨idX, flX, some ⟨b, o, none⟩, qcX, [⟨nA, nc, Sv.svq⟩], aAX, acX, raX, bAX, bdX, rbX, cAX, ccX, rcX⟩ (nmO nA nc Sv.svc) := .inr (.inr (.inr (.inl ⟨_, List.mem_singleton.2 rfl, rfl⟩)))
      exact ⟨hS5.o _ hq, hS5.no _ hq, .inl (.inl rfl)⟩
    · exact ⟨OwM.nil _ _ _ _, by simp [daO, Value.ownBlock], .inl (.inr rfl)⟩
    · exact ⟨hto, by simp [nmO, Value.ownBlock]; omega, .inr rfl⟩
  have HR6 := Lib.hid hr6
  have HM6 := Lib.hid hm6
  have HY := Lib.hid hy
  have HS5 := Lib.hid hS5
  have HV5 := Lib.hid hV5
  have HB5 := Lib.hid hB5
  have HTO := Lib.hid hto
  clear hr6 hm6 hy hS5 hV5 hB5 hto hv15 hb45
  have hfl : flX = 32768 := by have e := congrArg Ms.fl HXM.out; unfold Sv.ansM at e; rw [Sv.ansK_is] at e; exact e
  have hid : idX = 9 := by have e := congrArg Ms.id HXM.out; unfold Sv.ansM at e; rw [Sv.ansK_is] at e; exact e
  obtain ⟨F1, hF1⟩ : ∃ F, F = 32768 + q := ⟨_, rfl⟩
  obtain ⟨F2, hF2⟩ : ∃ F, F = 32768 + q + 512 := ⟨_, rfl⟩
  have hor1 : bits .or .u16 (flX : Int) (q : Int) = (F1 : Int) := by rw [hfl, hF1]; exact Sv.or_low q hq16
  have hor2 : bits .or .u16 (F1 : Int) 512 = (F2 : Int) := by rw [hF1, hF2]; exact Sv.or_cut q hq16
  have HFLX := Lib.hid hfl
  have HID := Lib.hid hid
  have HF1 := Lib.hid hF1
  have HF2 := Lib.hid hF2
  have HOR1 := Lib.hid hor1
  have HOR2 := Lib.hid hor2
  clear hfl hid hF1 hF2 hor1 hor2
  have HAPT := Lib.hid (show ∀ u, (Sv.MC0 ⟨idX, flX, some ⟨b, o, none⟩, qcX, [⟨nA, nc, Sv.svq⟩], aAX, acX, raX, bAX, bdX, rbX, cAX, ccX, rcX⟩ u ∨ DR [(⟨nA, nc, none, 0, some ⟨tb, 0, none⟩, 1, Sv.badR true⟩ : RR)] u) → Sv.Apt (Value.slice aAX raX.length acX) u.v from fun u hu q h1 h2 => by
       rcases hu with hu | hu
       · exact HAP.out u hu q h1 h2
       · rcases (HY.out u hu).2.2 with (rfl | hn) | ht
         · exact HAP.out _ (.inr (.inr (.inr (.inl ⟨_, List.mem_singleton.2 rfl, rfl⟩)))) q h1 h2
         · rw [hn] at h2; cases h2
         · have := OwM.block_lt HS4.out.r q h1
           rw [ht] at h2; cases h2; omega)
  go_upto_region 12 with (at_builtin; (
     refine wpList_appM _ rfl _ _ _ _ rfl w2.heap.size 9 88 j0 _ 96 Tryz.underlying69 hj' hy0 hy1 hy2 rfl (by omega) (.slice aAX raX.length acX) raX.length (rcs raX) (OwM.alloc HS5.out.r _) rfl 1 [.slice nA 3 nc, .int .u16 33, .int .u16 1, .int .u32 0, .slice none 0 0, .int .u16 0, .int .u16 0, .int .u16 0, .slice (some ⟨tb, 0, none⟩) 1 1] (litM_src (w := W5) Tryz.underlying69 88 9 [.slice nA 3 nc, .int .u16 33, .int .u16 1, .int .u32 0, .slice none 0 0, .int .u16 0, .int .u16 0, .int .u16 0, .slice (some ⟨tb, 0, none⟩) 1 1] 1 rfl hY1) (by omega) (by have := HB5.out.size; simp; omega) ?_
     intro v6 w6 ho6 hg6 hz6
     rw [hl6, hc6] at ho6
     obtain ⟨A6, c6, rfl, _, _, _⟩ := ho6.form
     have HO6 := Lib.hid ho6
     have HG6 := Lib.hid hg6
     have HV6 := Lib.hid ((HV5.out.alloc (.cells #[.slice nA 3 nc, .int .u16 33, .int .u16 1, .int .u32 0, .slice none 0 0, .int .u16 0, .int .u16 0, .int .u16 0, .slice (some ⟨tb, 0, none⟩) 1 1] 88)).grown hg6.1 (fun e => HS5.out.nr e.symm))
     have HB6 := Lib.hid ((HB5.out.alloc HB5.out.size _).trans (hg6.below (OwM.lt HS5.out.r) (by have := HB5.out.size; simp; omega)))
     have f3 := HV6.out.free 3
     have m3' : w6.cell? ⟨g13, 3, none⟩ = some (.slice aAX raX.length acX) := HV6.out.cell 3
     clear ho6 hg6))
  have hng : (rwR A6 c6 r6).v.ownBlock ≠ some g13 := fun e => by
    rcases HG6.out.2 g13 e with h1 | h1
    · exact HS5.out.nr h1
    · simp at h1; omega
  have hS7 := (Sv.WSt.app HS5.out (bl_new W5 (.cells #[.slice nA 3 nc, .int .u16 33, .int .u16 1, .int .u32 0, .slice none 0 0, .int .u16 0, .int .u16 0, .int .u16 0, .slice (some ⟨tb, 0, none⟩) 1 1] 88)) HG6.out (fun u hu => HAPT.out u (.inl hu)) ⟨nA, nc, none, 0, some ⟨tb, 0, none⟩, 1, Sv.badR true⟩ (fun u hu => ⟨OwM.alloc (HY.out u hu).1 _, (HY.out u hu).2.1, HAPT.out u (.inr hu)⟩) r6 A6 c6 (OwM.mono HO6.out (by exact Nat.le_refl _)) hng HM6.out).setG 3 (.slice A6 r6.length c6)
  have hV7 := HV6.out.set_ 3 (.slice A6 r6.length c6)
  simp only [List.set_cons_zero, List.set_cons_succ] at hV7
  have hB7 := HB6.out.setCell (p := ⟨g13, 3, none⟩) hg2 (.slice A6 r6.length c6)
  generalize w6.setCell ⟨g13, 3, none⟩ (.slice A6 r6.length c6) = w7 at hS7 hV7 hB7 ⊢
  have HS7 := Lib.hid hS7
  have HV7 := Lib.hid hV7
  have HB7 := Lib.hid hB7
  obtain ⟨ra1, hra1⟩ : ∃ k, k = r6.length := ⟨_, rfl⟩
  have e0 : raX.map RR.r = (Sv.ansM 9 l).r0 := congrArg Ms.r0 HXM.out
  have e1 : rbX.map RR.r = (Sv.ansM 9 l).r1 := congrArg Ms.r1 HXM.out
  have e2 : rcX.map RR.r = (Sv.ansM 9 l).r2 := congrArg Ms.r2 HXM.out
  have HME := Lib.hid (fun (fl : Nat) (hfe : fl = FL) => show MR.m ⟨idX, fl, some ⟨b, o, none⟩, qcX, [⟨nA, nc, Sv.svq⟩], A6, c6, r6, bAX, bdX, rbX, cAX, ccX, rcX⟩ = M by
    show (⟨idX, fl, [Sv.svq], r6.map RR.r, rbX.map RR.r, rcX.map RR.r⟩ : Ms) = M
    rw [HM.out, HR6.out, HID.out, hfe, e1, e2]
    unfold Sv.wrongM
    simp [e0])
  (try clear m3a)
  clear hS7 hV7 hB7 hng f3 m3' x0 x1 x2 x3 x4 x5 x6 x7 x8 m0 m1 m2 m3 m4 m5 e0 e1 e2 hra1 hl6 hc6 hYc hY1
  by_cases hqz : q = 0 <;> cases cut
  case' pos.true =>
    have hqn : ¬ (0 : Int) < (q : Int) := by omega
    have HQ0 := Lib.hid hqz
    clear hqz
    have HFE := Lib.hid (show F2 = FL by rw [HFL.out, HF2.out, HQ.out]; simp [Sv.wrongF])
    have hEI : (E : Int) = 183 := by rw [HE.out]; simp [Sv.wrongE]
    have hor : bits .or .u16 (flX : Int) 512 = (F2 : Int) := by
      have e : flX = F1 := by rw [HFLX.out, HF1.out, HQ0.out]
      rw [e]; exact HOR2.out
    obtain ⟨m0, m1, m2, m3, m4, m5⟩ := HV7.out.c6
    have f1 := HV7.out.free 1
    go_upto_region 17 with fail
    clear hor
    have hS8 := (HS7.out.fl F2).setG 1 (.int .u16 (F2 : Int))
    have hV8 := HV7.out.set_ 1 (.int .u16 (F2 : Int))
    simp only [List.set_cons_zero, List.set_cons_succ] at hV8
    have hB8 := HB7.out.setCell (p := ⟨g13, 1, none⟩) hg2 (.int .u16 (F2 : Int))
    generalize w7.setCell ⟨g13, 1, none⟩ (.int .u16 (F2 : Int)) = w8 at hS8 hV8 hB8 ⊢
    have HS8 := Lib.hid hS8
    have HV8 := Lib.hid hV8
    have HB8 := Lib.hid hB8
    clear hS8 hV8 hB8 m0 m1 m2 m3 m4 m5 f1
    obtain ⟨WL, hWL⟩ : ∃ x, x = w8 := ⟨w8, rfl⟩
    subst hWL
    have HSL := HS8
    have HVL := HV8
    have HBB := HB8
  case' pos.false =>
    have hqn : ¬ (0 : Int) < (q : Int) := by omega
    have HQ0 := Lib.hid hqz
    clear hqz
    have HFE := Lib.hid (show flX = FL by rw [HFL.out, HFLX.out]; unfold Sv.wrongF; rw [← HQ.out, HQ0.out]; simp)
    have hEI : (E : Int) = 185 := by rw [HE.out]; unfold Sv.wrongE; rw [if_neg (by simp), if_neg (by rw [← HQ.out, HQ0.out]; simp)]; rfl
    obtain ⟨WL, hWL⟩ : ∃ x, x = w7 := ⟨w7, rfl⟩
    subst hWL
    have HSL := HS7
    have HVL := HV7
    have HBB := HB7
  case' neg.true =>
    have hqp : (0 : Int) < (q : Int) := by omega
    have HQ0 := Lib.hid hqz
    clear hqz
    have hor1 := HOR1.out
    obtain ⟨m0, m1, m2, m3, m4, m5⟩ := HV7.out.c6
    have f1 := HV7.out.free 1
    go_upto_region 14 with fail
    clear hor1
    have hS8 := (HS7.out.fl F1).setG 1 (.int .u16 (F1 : Int))
    have hV8 := HV7.out.set_ 1 (.int .u16 (F1 : Int))
    simp only [List.set_cons_zero, List.set_cons_succ] at hV8
    have hB8 := HB7.out.setCell (p := ⟨g13, 1, none⟩) hg2 (.int .u16 (F1 : Int))
    generalize w7.setCell ⟨g13, 1, none⟩ (.int .u16 (F1 : Int)) = w8 at hS8 hV8 hB8 ⊢
    have HS8 := Lib.hid hS8
    have HV8 := Lib.hid hV8
    have HB8 := Lib.hid hB8
    clear hS8 hV8 hB8 m0 m1 m2 m3 m4 m5 f1
    have HFE := Lib.hid (show F2 = FL by rw [HFL.out, HF2.out, HQ.out]; simp [Sv.wrongF])
    have hEI : (E : Int) = 183 := by rw [HE.out]; simp [Sv.wrongE]
    have hor2 := HOR2.out
    obtain ⟨m0, m1, m2, m3, m4, m5⟩ := HV8.out.c6
    have f1 := HV8.out.free 1
    go_upto_region 17 with fail
    clear hor2
    have hS9 := (HS8.out.fl F2).setG 1 (.int .u16 (F2 : Int))
    have hV9 := HV8.out.set_ 1 (.int .u16 (F2 : Int))
    simp only [List.set_cons_zero, List.set_cons_succ] at hV9
    have hB9 := HB8.out.setCell (p := ⟨g13, 1, none⟩) hg2 (.int .u16 (F2 : Int))
    generalize w8.setCell ⟨g13, 1, none⟩ (.int .u16 (F2 : Int)) = w9 at hS9 hV9 hB9 ⊢
    have HS9 := Lib.hid hS9
    have HV9 := Lib.hid hV9
    have HB9 := Lib.hid hB9
    clear hS9 hV9 hB9 m0 m1 m2 m3 m4 m5 f1
    obtain ⟨WL, hWL⟩ : ∃ x, x = w9 := ⟨w9, rfl⟩
    subst hWL
    have HSL := HS9
    have HVL := HV9
    have HBB := HB9
  case' neg.false =>
    have hqp : (0 : Int) < (q : Int) := by omega
    have HQ0 := Lib.hid hqz
    clear hqz
    have hor1 := HOR1.out
    obtain ⟨m0, m1, m2, m3, m4, m5⟩ := HV7.out.c6
    have f1 := HV7.out.free 1
    go_upto_region 14 with fail
    clear hor1
    have hS8 := (HS7.out.fl F1).setG 1 (.int .u16 (F1 : Int))
    have hV8 := HV7.out.set_ 1 (.int .u16 (F1 : Int))
    simp only [List.set_cons_zero, List.set_cons_succ] at hV8
    have hB8 := HB7.out.setCell (p := ⟨g13, 1, none⟩) hg2 (.int .u16 (F1 : Int))
    generalize w7.setCell ⟨g13, 1, none⟩ (.int .u16 (F1 : Int)) = w8 at hS8 hV8 hB8 ⊢
    have HS8 := Lib.hid hS8
    have HV8 := Lib.hid hV8
    have HB8 := Lib.hid hB8
    clear hS8 hV8 hB8 m0 m1 m2 m3 m4 m5 f1
    have HFE := Lib.hid (show F1 = FL by rw [HFL.out, HF1.out, HQ.out]; simp [Sv.wrongF])
    have hEI : (E : Int) = 184 := by rw [HE.out]; unfold Sv.wrongE; rw [if_neg (by simp), if_pos (by rw [← HQ.out]; exact HQ0.out)]; rfl
    obtain ⟨WL, hWL⟩ : ∃ x, x = w8 := ⟨w8, rfl⟩
    subst hWL
    have HSL := HS8
    have HVL := HV8
    have HBB := HB8
  all_goals
    have kw := KW.out _ WL WL w2.heap.size (HME.out _ HFE.out) HSL.out.mow (Below.refl _ _)
    have HKW := Lib.hid kw
    have HRQ0 := Lib.hid (HR22.out.goes HBB.out)
    clear kw
    obtain ⟨m0, m1, m2, m3, m4, m5⟩ := HVL.out.c6
    go_wp2_with (first
      | (go_at_call 32
         refine (KD.out x5).mono ?_
         rintro e x6 ⟨v6, rfl, _, hb6⟩
         have HX6 := Lib.hid (HX5.out.trans (hb6.mono HX5.out.size))
         clear hb6)
      | (go_at_call 32
         refine (KRT.out x4).mono ?_
         rintro e x5 ⟨v5, rfl, _, hb5⟩
         have HX5 := Lib.hid (HX4.out.trans (hb5.mono HX4.out.size))
         clear hb5)
      | (go_at_call 35
         refine (KS.out A2 B1 c2 d1 x3 HRQ3.out HRR3.out hc2 (by omega)).mono ?_
         rintro e x4 ⟨B4, d4, rfl, _, _, hb4⟩
         have HX4 := Lib.hid (HX3.out.trans (hb4.mono HX3.out.size))
         clear hb4)
      | (go_at_call 35
         refine (KN.out B1 d1 x2 HRR2.out hd1).mono ?_
         rintro e x3 ⟨B3, d3, rfl, _, _, hb3⟩
         have HRQ3 := Lib.hid (HRQ2.out.goes hb3)
         have HRR3 := Lib.hid (HRR2.out.goes hb3)
         have HX3 := Lib.hid (HX2.out.trans (hb3.mono HX2.out.size))
         have hsl := hsl0 B1 d1 hd1
         clear hb3)
      | (go_at_call 35
         refine (KT.out A2 B1 c2 d1 x1 HRQ1.out HRR1.out hc2 hd1).mono ?_
         rintro e x2 ⟨B2, d2, rfl, _, _, hb2⟩
         have HRQ2 := Lib.hid (HRQ1.out.goes hb2)
         have HRR2 := Lib.hid (HRR1.out.goes hb2)
         have HX2 := Lib.hid (HX1.out.trans (hb2.mono HX1.out.size))
         clear hb2)
      | (go_at_call 36
         refine HKW.out.mono ?_
         rintro e x1 ⟨B1, d1, rfl, hd1, hr1, hb1⟩
         have HRR1 := Lib.hid hr1
         have HRQ1 := Lib.hid (HRQ0.out.goes hb1)
         have HX1 := Lib.hid (HBB.out.trans (hb1.mono HBB.out.size))
         clear hr1 hb1))
    go_ret
    exact ⟨rfl, HB2.out.trans (HX6.out.mono HB2.out.size)⟩

set_option maxRecDepth 100000 in
set_option maxHeartbeats 4000000 in
theorem srvWrong_ft (A0 : Option Addr) (c0 : Nat) (l : List Sv.Sa) (code : Nat) (cut : Bool) (w : World) (h : Rd w w.heap.size A0 (l.length * 6) (Sv.scs l)) (hc : l.length ≤ c0) (hx : ∀ s ∈ l, Sv.okS s) (hcode : code < 256) :
    Calls Tryz.prog 11 #[.slice A0 l.length c0, .int .u8 (code : Int), .bool cut, .bool false, .bool true] w fun e w' => e = .returned (.bool true) ∧ Below w.heap.size w w' := by
  obtain ⟨j0, hj', hy0, hy1, hy2⟩ := info_parts Tryz.infoR
  obtain ⟨n, hn⟩ : ∃ n, n = l.length := ⟨_, rfl⟩
  rw [← hn] at h hc ⊢
  obtain ⟨q, hq⟩ : ∃ q, q = code % 16 := ⟨_, rfl⟩
  have hq16 : q < 16 := by omega
  have hq1 : (code : Int) % 16 = (q : Int) := by omega
  have hq2 : (code : Int).tmod 16 = (q : Int) := by rw [Int.tmod_eq_emod_of_nonneg (by omega)]; exact hq1
  obtain ⟨FL, hFL⟩ : ∃ F, F = Sv.wrongF code cut := ⟨_, rfl⟩
  obtain ⟨E, hE⟩ : ∃ E, E = Sv.wrongE code cut := ⟨_, rfl⟩
  have hFb : FL < 65536 := by rw [hFL]; unfold Sv.wrongF; split <;> omega
  obtain ⟨M, hM⟩ : ∃ M, M = Sv.wrongM FL l false true := ⟨_, rfl⟩
  have hf : Fine M := by rw [hM]; exact Sv.wrong_fine hx FL hFb false true
  obtain ⟨Q, hQ⟩ : ∃ Q, Q = formM (Srv.askM 9 Sv.svc) := ⟨_, rfl⟩
  obtain ⟨R, hR⟩ : ∃ R, R = formM M := ⟨_, rfl⟩
  have hT : Srv.takeN Q R = ([], E) := by rw [hQ, hR, hM, hFL, hE]; exact Sv.take_wrong hx code cut false true
  obtain ⟨LQ, hLQ⟩ : ∃ L, L = Q.length := ⟨_, rfl⟩
  obtain ⟨LR, hLR⟩ : ∃ L, L = R.length := ⟨_, rfl⟩
  have hQl : LQ ≤ 4096 := by rw [hLQ, hQ]; exact (ask_fine (by omega) Sv.svc_right).len
  have hRl : LR ≤ 4096 := by rw [hLR, hR]; exact hf.len
  obtain ⟨K, hK⟩ : ∃ K, K = min LR 11 := ⟨_, rfl⟩
  have hmin : min (LR : Int) 11 = (K : Int) := by omega
  have hKR : K ≤ LR := by omega
  have hKl : K = (R.take K).length := by rw [List.length_take, ← hLR]; omega
  have hTs : Srv.takeN Q (R.take K) = ([], 171) := by rw [hQ]; exact Sv.take_short (by rw [← hKl]; omega)
  have hfa := Sv.ansM_fine (id := 9) (by omega) hx
  have KA := Lib.hid (fun (W : World) (hW : Rd W W.heap.size A0 (n * 6) (Sv.scs l)) => Sv.answer_w 9 n A0 c0 l W (by omega) hW hn.symm hc hx)
  have KQ := Lib.hid (fun (W : World) => Sv.ask_query 9 Q LQ W (by omega) hQ hLQ)
  have KW := Lib.hid (fun (x : MR) (W0 W : World) (b : Nat) (h1 : x.m = M) (h2 : MOw W0 b x) (h3 : Below W0.heap.size W0 W) => Sv.fine_write x M R LR W0 W b h1 hf hR hLR h2 h3)
  have KT := Lib.hid (fun (A1 A2 : Option Addr) (c1 c2 : Nat) (W : World) h1 h2 (h3 : LQ ≤ c1) (h4 : LR ≤ c2) => Sv.take_got A1 A2 c1 c2 LQ LR Q R [] E W hT hLQ hLR h1 h2 h3 h4 (by omega) (by omega))
  have KN := Lib.hid (fun (A2 : Option Addr) (c2 : Nat) (W : World) h2 (h4 : LR ≤ c2) => Sv.take_got none A2 0 c2 0 LR [] R [] 181 W (Sv.take_nil R) rfl hLR (Rd.nil _ _ _) h2 (Nat.le_refl _) h4 (by omega) (by omega))
  have KS := Lib.hid (fun (A1 A2 : Option Addr) (c1 c2 : Nat) (W : World) h1 (h2 : Rd W W.heap.size A2 LR (bc R)) (h3 : LQ ≤ c1) (h4 : K ≤ c2) => Sv.take_got A1 A2 c1 c2 LQ K Q (R.take K) [] 171 W hTs hLQ hKl h1 (Sv.rd_cut h2 hKR) h3 h4 (by omega) (by omega))
  have KRT := Lib.hid (fun (W : World) => by have k := sask_at 9 [46] W (by omega) (by simp); rw [Sv.ask_root] at k; exact k)
  have KD := Lib.hid (fun (W : World) => by have k := sask_at 9 [97, 46, 46, 98] W (by omega) (by simp); rw [Sv.ask_dots] at k; exact k)
  have hsl0 : ∀ (B1 : Option Addr) (d1 : Nat), LR ≤ d1 → ∀ W, (Instr.slice 22 (.slice B1 LR d1) none (some (.int .i64 (K : Int))) none).run Tryz.prog W = .ok (.slice B1 K d1) W := fun B1 d1 hd W => run_sl_h (P := Tryz.prog) W 22 5 Tryz.underlying22 (fun w => by kernel_rfl) B1 LR d1 K (by omega)
  dsimp only [List.length_nil] at KT KN KS
  have HM := Lib.hid hM
  have HFL := Lib.hid hFL
  have HE := Lib.hid hE
  have HQ := Lib.hid hq
  have HR := Lib.hid h
  have HNUM := Lib.hid hfa.num
  have HAW := Lib.hid (sawake_any w)
  clear h hc hx hn hq hFL hE hM hf hQ hR hT hLQ hLR hK hKl hTs hfa hFb
  go_enter Tryz.func11, Tryz.ntmps11
  go_upto_region 5 with (first
    | (go_at_call 37
       refine (KA.out w2 (HR.out.goes HB2.out)).mono ?_
       rintro e w3 ⟨x, Ao, no, co, rfl, hxm, hxo, hap, hb3⟩
       have HXM := Lib.hid hxm
       have HXO := Lib.hid hxo
       have HAP := Lib.hid hap
       have HB23 := Lib.hid hb3
       obtain ⟨nA, nc, b, o, hqs, hqA, hbq, k0, k1, k2⟩ := Sv.quest_cells hxo (by have e := congrArg Ms.qs hxm; unfold Sv.ansM at e; rw [Sv.ansK_is] at e; exact e)
       have K0 := Lib.hid k0
       have K1 := Lib.hid k1
       have K2 := Lib.hid k2
       clear hxm hxo hap hb3 k0 k1 k2
       obtain ⟨idX, flX, qAX, qcX, qsX, aAX, acX, raX, bAX, bdX, rbX, cAX, ccX, rcX⟩ := x
       dsimp only at hqs hqA
       subst hqs hqA
       unfold MR.cells
       dsimp only
       simp only [List.length_cons, List.length_nil, Nat.zero_add])
    | (go_at_call 32
       refine (KQ.out w1).mono ?_
       rintro e w2 ⟨A2, c2, rfl, hc2, hr2, hb2⟩
       have HR22 := Lib.hid hr2
       have HB2 := Lib.hid (HB1.out.trans (hb2.mono HB1.out.size))
       clear hr2 hb2)
    | (go_at_call 14
       refine HAW.out.mono ?_
       rintro e w1 ⟨rfl, hb1⟩
       have HB1 := Lib.hid hb1
       clear hb1))
  have hV := Vx.new w3 72 [.int .u16 (idX : Int), .int .u16 (flX : Int), .slice (some ⟨b, o, none⟩) 1 qcX, .slice aAX raX.length acX, .slice bAX rbX.length bdX, .slice cAX rcX.length ccX]
  have hS := (Sv.WSt.start (g := w3.heap.size) HXO.out (Nat.le_refl _)).far (bl_new w3 (.cells #[.int .u16 (idX : Int), .int .u16 (flX : Int), .slice (some ⟨b, o, none⟩) 1 qcX, .slice aAX raX.length acX, .slice bAX rbX.length bdX, .slice cAX rcX.length ccX] 72))
  have hB4 := HB23.out.trans ((bl_new w3 (.cells #[.int .u16 (idX : Int), .int .u16 (flX : Int), .slice (some ⟨b, o, none⟩) 1 qcX, .slice aAX raX.length acX, .slice bAX rbX.length bdX, .slice cAX rcX.length ccX] 72)).mono HB23.out.size)
  have hK0 := ((bl_new w3 (.cells #[.int .u16 (idX : Int), .int .u16 (flX : Int), .slice (some ⟨b, o, none⟩) 1 qcX, .slice aAX raX.length acX, .slice bAX rbX.length bdX, .slice cAX rcX.length ccX] 72)).cell (p := ⟨b, o, none⟩) hbq).trans K0.out
  have hK1 := ((bl_new w3 (.cells #[.int .u16 (idX : Int), .int .u16 (flX : Int), .slice (some ⟨b, o, none⟩) 1 qcX, .slice aAX raX.length acX, .slice bAX rbX.length bdX, .slice cAX rcX.length ccX] 72)).cell (p := ⟨b, o + 1, none⟩) hbq).trans K1.out
  have hK2 := ((bl_new w3 (.cells #[.int .u16 (idX : Int), .int .u16 (flX : Int), .slice (some ⟨b, o, none⟩) 1 qcX, .slice aAX raX.length acX, .slice bAX rbX.length bdX, .slice cAX rcX.length ccX] 72)).cell (p := ⟨b, o + 2, none⟩) hbq).trans K2.out
  have hlt4 : w3.heap.size < (w3.alloc (.cells #[.int .u16 (idX : Int), .int .u16 (flX : Int), .slice (some ⟨b, o, none⟩) 1 qcX, .slice aAX raX.length acX, .slice bAX rbX.length bdX, .slice cAX rcX.length ccX] 72)).heap.size := by simp
  have hg2 : w2.heap.size ≤ w3.heap.size := HB23.out.size
  obtain ⟨g13, hg13⟩ : ∃ g, g = w3.heap.size := ⟨_, rfl⟩
  rw [← hg13] at hV hS hlt4 hg2 ⊢
  generalize w3.alloc (.cells #[.int .u16 (idX : Int), .int .u16 (flX : Int), .slice (some ⟨b, o, none⟩) 1 qcX, .slice aAX raX.length acX, .slice bAX rbX.length bdX, .slice cAX rcX.length ccX] 72) = W4 at hV hS hB4 hK0 hK1 hK2 hlt4 ⊢
  have HV4 := Lib.hid hV
  have HS4 := Lib.hid hS
  have HB4 := Lib.hid hB4
  obtain ⟨m0, m1, m2, m3, m4, m5⟩ := hV.c6
  clear hV hS hB4 hg13 hbq HXO HB23 K0 K1 K2
  have hs1 : (W4.alloc (.cells #[.string ⟨#[110, 49]⟩, .string ⟨#[101, 120, 32, 97, 109, 112, 108, 101]⟩] 9)).heap.size = W4.heap.size + 1 := by simp
  have hs2 : ((W4.alloc (.cells #[.string ⟨#[110, 49]⟩, .string ⟨#[101, 120, 32, 97, 109, 112, 108, 101]⟩] 9)).alloc (.cells #[.slice nA 3 nc, .int .u16 33, .int .u16 1, .int .u32 0, .slice none 0 0, .int .u16 0, .int .u16 0, .int .u16 1, .slice (some ⟨W4.heap.size, 0, none⟩) 2 2] 88)).heap.size = W4.heap.size + 1 + 1 := by simp
  have hb45 : Below W4.heap.size W4 ((W4.alloc (.cells #[.string ⟨#[110, 49]⟩, .string ⟨#[101, 120, 32, 97, 109, 112, 108, 101]⟩] 9)).alloc (.cells #[.slice nA 3 nc, .int .u16 33, .int .u16 1, .int .u32 0, .slice none 0 0, .int .u16 0, .int .u16 0, .int .u16 1, .slice (some ⟨W4.heap.size, 0, none⟩) 2 2] 88)) := (bl_new W4 _).alloc (by simp) _
  have hv15 := Vx.new (W4.alloc (.cells #[.string ⟨#[110, 49]⟩, .string ⟨#[101, 120, 32, 97, 109, 112, 108, 101]⟩] 9)) 88 [.slice nA 3 nc, .int .u16 33, .int .u16 1, .int .u32 0, .slice none 0 0, .int .u16 0, .int .u16 0, .int .u16 1, .slice (some ⟨W4.heap.size, 0, none⟩) 2 2]
  have hto := (Ow.lit W4 9 (sc (Sv.badTg false)) (by decide)).alloc (.cells #[.slice nA 3 nc, .int .u16 33, .int .u16 1, .int .u32 0, .slice none 0 0, .int .u16 0, .int .u16 0, .int .u16 1, .slice (some ⟨W4.heap.size, 0, none⟩) 2 2] 88)
  rw [hs1] at hv15
  have hto : (nmO (some ⟨W4.heap.size, 0, none⟩) 2 (Sv.badTg false)).ok ((W4.alloc (.cells #[.string ⟨#[110, 49]⟩, .string ⟨#[101, 120, 32, 97, 109, 112, 108, 101]⟩] 9)).alloc (.cells #[.slice nA 3 nc, .int .u16 33, .int .u16 1, .int .u32 0, .slice none 0 0, .int .u16 0, .int .u16 0, .int .u16 1, .slice (some ⟨W4.heap.size, 0, none⟩) 2 2] 88)) w2.heap.size := OwM.mono (Sv.nmO_ok hto rfl) (by have := HB4.out.size; omega)
  have hS5 := HS4.out.far hb45
  have hV5 := HV4.out.below hb45 HV4.out.lt
  have hB5 := HB4.out.trans (hb45.mono HB4.out.size)
  have hsz5 := hb45.size
  obtain ⟨tb, htb⟩ : ∃ t, t = W4.heap.size := ⟨_, rfl⟩
  have htbl : W4.heap.size ≤ tb := by omega
  go_upto_region 8 with fail
  generalize ((W4.alloc (.cells #[.string ⟨#[110, 49]⟩, .string ⟨#[101, 120, 32, 97, 109, 112, 108, 101]⟩] 9)).alloc (.cells #[.slice nA 3 nc, .int .u16 33, .int .u16 1, .int .u32 0, .slice none 0 0, .int .u16 0, .int .u16 0, .int .u16 1, .slice (some ⟨W4.heap.size, 0, none⟩) 2 2] 88)) = W5 at hb45 hv15 hto hS5 hV5 hB5 hsz5 ⊢
  obtain ⟨g15, hg15⟩ : ∃ t, t = W4.heap.size + 1 := ⟨_, rfl⟩
  rw [← hg15] at hv15 ⊢
  rw [← htb] at hv15 hto ⊢
  have hv15 : Vx W5 g15 88 [.slice nA 3 nc, .int .u16 33, .int .u16 1, .int .u32 0, .slice none 0 0, .int .u16 0, .int .u16 0, .int .u16 1, .slice (some ⟨tb, 0, none⟩) 2 2] := hv15
  have x0 : W5.cell? ⟨g15, 0, none⟩ = some (.slice nA 3 nc) := hv15.cell 0
  have x1 : W5.cell? ⟨g15, 1, none⟩ = some (.int .u16 33) := hv15.cell 1
  have x2 : W5.cell? ⟨g15, 2, none⟩ = some (.int .u16 1) := hv15.cell 2
  have x3 : W5.cell? ⟨g15, 3, none⟩ = some (.int .u32 0) := hv15.cell 3
  have x4 : W5.cell? ⟨g15, 4, none⟩ = some (.slice none 0 0) := hv15.cell 4
  have x5 : W5.cell? ⟨g15, 5, none⟩ = some (.int .u16 0) := hv15.cell 5
  have x6 : W5.cell? ⟨g15, 6, none⟩ = some (.int .u16 0) := hv15.cell 6
  have x7 : W5.cell? ⟨g15, 7, none⟩ = some (.int .u16 1) := hv15.cell 7
  have x8 : W5.cell? ⟨g15, 8, none⟩ = some (.slice (some ⟨tb, 0, none⟩) 2 2) := hv15.cell 8
  clear m0 m1 m2 m3 m4 m5 hs1 hs2 hg15 htb
  obtain ⟨m0, m1, m2, m3, m4, m5⟩ := hV5.c6
  obtain ⟨r6, hr6⟩ : ∃ r : List RR, r = ⟨nA, nc, none, 0, some ⟨tb, 0, none⟩, 2, Sv.badR false⟩ :: raX := ⟨_, rfl⟩
  have hYc : RR.cells ⟨nA, nc, none, 0, some ⟨tb, 0, none⟩, 2, Sv.badR false⟩ = [.slice nA 3 nc, .int .u16 33, .int .u16 1, .int .u32 0, .slice none 0 0, .int .u16 0, .int .u16 0, .int .u16 1, .slice (some ⟨tb, 0, none⟩) 2 2] := by simp [RR.cells, Sv.badR, Sv.badTg, Sv.svq, Sv.svc]
  have hY1 : ∀ u ∈ ([.slice nA 3 nc, .int .u16 33, .int .u16 1, .int .u32 0, .slice none 0 0, .int .u16 0, .int .u16 0, .int .u16 1, .slice (some ⟨tb, 0, none⟩) 2 2] : List Value), u.oneCell' = true := by rw [← hYc]; exact rcells_one _
  have hl6 : 1 + raX.length = r6.length := by rw [hr6]; simp; omega
  have hc6 : [.slice nA 3 nc, .int .u16 33, .int .u16 1, .int .u32 0, .slice none 0 0, .int .u16 0, .int .u16 0, .int .u16 1, .slice (some ⟨tb, 0, none⟩) 2 2] ++ rcs raX = rcs r6 := by rw [hr6, ← hYc]; simp [rcs]
  have hm6 : ∀ r ∈ r6, r ∈ raX ∨ r = (⟨nA, nc, none, 0, some ⟨tb, 0, none⟩, 2, Sv.badR false⟩ : RR) := by rw [hr6]; intro r hr; simp at hr; exact hr.symm
  have hra : raX.length ≤ 256 := by
    have e := congrArg Ms.r0 HXM.out
    have e2 := congrArg List.length e
    have hn := HNUM.out
    simp only [MR.m, List.length_map] at e2
    unfold Ms.num at hn
    omega
  have hy : ∀ u, DR [(⟨nA, nc, none, 0, some ⟨tb, 0, none⟩, 2, Sv.badR false⟩ : RR)] u → u.ok W5 w2.heap.size ∧ u.v.ownBlock ≠ some g13 ∧ ((u = nmO nA nc Sv.svc ∨ u.v.ownBlock = none) ∨ u.v.ownBlock = some tb) := by
    rintro u ⟨z, hz, h1⟩
    rw [List.mem_singleton] at hz
    subst hz
    rcases h1 with rfl | rfl | rfl
    · have hq : Sv.MC0 ⟨idX, flX, some ⟨b, o, none⟩, qcX, [⟨nA, nc, Sv.svq⟩], aAX, acX, raX, bAX, bdX, rbX, cAX, ccX, rcX⟩ (nmO nA nc Sv.svc) := .inr (.inr (.inr (.inl ⟨_, List.mem_singleton.2 rfl, rfl⟩)))
      exact ⟨hS5.o _ hq, hS5.no _ hq, .inl (.inl rfl)⟩
    · exact ⟨OwM.nil _ _ _ _, by simp [daO, Value.ownBlock], .inl (.inr rfl)⟩
    · exact ⟨hto, by simp [nmO, Value.ownBlock]; omega, .inr rfl⟩
  have HR6 := Lib.hid hr6
  have HM6 := Lib.hid hm6
  have HY := Lib.hid hy
  have HS5 := Lib.hid hS5
  have HV5 := Lib.hid hV5
  have HB5 := Lib.hid hB5
  have HTO := Lib.hid hto
  clear hr6 hm6 hy hS5 hV5 hB5 hto hv15 hb45
  have hfl : flX = 32768 := by have e := congrArg Ms.fl HXM.out; unfold Sv.ansM at e; rw [Sv.ansK_is] at e; exact e
  have hid : idX = 9 := by have e := congrArg Ms.id HXM.out; unfold Sv.ansM at e; rw [Sv.ansK_is] at e; exact e
  obtain ⟨F1, hF1⟩ : ∃ F, F = 32768 + q := ⟨_, rfl⟩
  obtain ⟨F2, hF2⟩ : ∃ F, F = 32768 + q + 512 := ⟨_, rfl⟩
  have hor1 : bits .or .u16 (flX : Int) (q : Int) = (F1 : Int) := by rw [hfl, hF1]; exact Sv.or_low q hq16
  have hor2 : bits .or .u16 (F1 : Int) 512 = (F2 : Int) := by rw [hF1, hF2]; exact Sv.or_cut q hq16
  have HFLX := Lib.hid hfl
  have HID := Lib.hid hid
  have HF1 := Lib.hid hF1
  have HF2 := Lib.hid hF2
  have HOR1 := Lib.hid hor1
  have HOR2 := Lib.hid hor2
  clear hfl hid hF1 hF2 hor1 hor2
  have HAPT := Lib.hid (show ∀ u, (Sv.MC0 ⟨idX, flX, some ⟨b, o, none⟩, qcX, [⟨nA, nc, Sv.svq⟩], aAX, acX, raX, bAX, bdX, rbX, cAX, ccX, rcX⟩ u ∨ DR [(⟨nA, nc, none, 0, some ⟨tb, 0, none⟩, 2, Sv.badR false⟩ : RR)] u) → Sv.Apt (Value.slice (some ⟨W5.heap.size, 0, none⟩) 1 1) u.v from fun u hu q h1 h2 => by
       have e1 : W5.heap.size = q := by simpa [Value.ownBlock] using h1
       rcases hu with hu | hu
       · exact HS5.out.lt (Nat.le_of_eq e1) u (.inr hu) h2
       · rcases (HY.out u hu).2.2 with (rfl | hn) | ht
         · exact HS5.out.lt (Nat.le_of_eq e1) _ (.inr (.inr (.inr (.inr (.inl ⟨_, List.mem_singleton.2 rfl, rfl⟩))))) h2
         · rw [hn] at h2; cases h2
         · have := OwM.block_lt HTO.out tb rfl
           rw [ht] at h2; cases h2; omega)
  have m3a : (W5.alloc (.cells #[.slice nA 3 nc, .int .u16 33, .int .u16 1, .int .u32 0, .slice none 0 0, .int .u16 0, .int .u16 0, .int .u16 1, .slice (some ⟨tb, 0, none⟩) 2 2] 88)).cell? ⟨g13, 3, none⟩ = some (.slice aAX raX.length acX) := (HV5.out.alloc (.cells #[.slice nA 3 nc, .int .u16 33, .int .u16 1, .int .u32 0, .slice none 0 0, .int .u16 0, .int .u16 0, .int .u16 1, .slice (some ⟨tb, 0, none⟩) 2 2] 88)).cell 3
  go_upto_region 12 with (at_builtin; (
     refine wpList_appM _ rfl _ _ _ _ rfl W5.heap.size 9 88 j0 _ 96 Tryz.underlying69 hj' hy0 hy1 hy2 rfl (by omega) (.slice (some ⟨W5.heap.size, 0, none⟩) 1 1) 1 [.slice nA 3 nc, .int .u16 33, .int .u16 1, .int .u32 0, .slice none 0 0, .int .u16 0, .int .u16 0, .int .u16 1, .slice (some ⟨tb, 0, none⟩) 2 2] (OwM.lit W5 88 9 [.slice nA 3 nc, .int .u16 33, .int .u16 1, .int .u32 0, .slice none 0 0, .int .u16 0, .int .u16 0, .int .u16 1, .slice (some ⟨tb, 0, none⟩) 2 2] 1 rfl (by decide)) rfl raX.length (rcs raX) ((OwM.rd (OwM.alloc HS5.out.r (.cells #[.slice nA 3 nc, .int .u16 33, .int .u16 1, .int .u32 0, .slice none 0 0, .int .u16 0, .int .u16 0, .int .u16 1, .slice (some ⟨tb, 0, none⟩) 2 2] 88))).srcM Tryz.underlying69 (rcs_one raX)) (by omega) (by simp) ?_
     intro v6 w6 ho6 hg6 hz6
     rw [hl6, hc6] at ho6
     obtain ⟨A6, c6, rfl, _, _, _⟩ := ho6.form
     have HO6 := Lib.hid ho6
     have HG6 := Lib.hid hg6
     have HV6 := Lib.hid ((HV5.out.alloc (.cells #[.slice nA 3 nc, .int .u16 33, .int .u16 1, .int .u32 0, .slice none 0 0, .int .u16 0, .int .u16 0, .int .u16 1, .slice (some ⟨tb, 0, none⟩) 2 2] 88)).grown hg6.1 (fun e => by simp [Value.ownBlock] at e; omega))
     have HB6 := Lib.hid ((HB5.out.alloc HB5.out.size _).trans ((show Below W5.heap.size _ w6 from hg6.below (fun q hq => by simp [Value.ownBlock] at hq; omega) (by simp)).mono HB5.out.size))
     have f3 := HV6.out.free 3
     have m3' : w6.cell? ⟨g13, 3, none⟩ = some (.slice aAX raX.length acX) := HV6.out.cell 3
     clear ho6 hg6))
  have hng : (rwR A6 c6 r6).v.ownBlock ≠ some g13 := fun e => by
    rcases HG6.out.2 g13 e with h1 | h1
    · exact (fun e : (Value.slice (some ⟨W5.heap.size, 0, none⟩) 1 1).ownBlock = some g13 => by simp [Value.ownBlock] at e; omega) h1
    · simp at h1; omega
  have hS7 := (Sv.WSt.app HS5.out (bl_new W5 (.cells #[.slice nA 3 nc, .int .u16 33, .int .u16 1, .int .u32 0, .slice none 0 0, .int .u16 0, .int .u16 0, .int .u16 1, .slice (some ⟨tb, 0, none⟩) 2 2] 88)) HG6.out (fun u hu => HAPT.out u (.inl hu)) ⟨nA, nc, none, 0, some ⟨tb, 0, none⟩, 2, Sv.badR false⟩ (fun u hu => ⟨OwM.alloc (HY.out u hu).1 _, (HY.out u hu).2.1, HAPT.out u (.inr hu)⟩) r6 A6 c6 (OwM.mono HO6.out (by have := HB5.out.size; omega)) hng HM6.out).setG 3 (.slice A6 r6.length c6)
  have hV7 := HV6.out.set_ 3 (.slice A6 r6.length c6)
  simp only [List.set_cons_zero, List.set_cons_succ] at hV7
  have hB7 := HB6.out.setCell (p := ⟨g13, 3, none⟩) hg2 (.slice A6 r6.length c6)
  generalize w6.setCell ⟨g13, 3, none⟩ (.slice A6 r6.length c6) = w7 at hS7 hV7 hB7 ⊢
  have HS7 := Lib.hid hS7
  have HV7 := Lib.hid hV7
  have HB7 := Lib.hid hB7
  obtain ⟨ra1, hra1⟩ : ∃ k, k = r6.length := ⟨_, rfl⟩
  have e0 : raX.map RR.r = (Sv.ansM 9 l).r0 := congrArg Ms.r0 HXM.out
  have e1 : rbX.map RR.r = (Sv.ansM 9 l).r1 := congrArg Ms.r1 HXM.out
  have e2 : rcX.map RR.r = (Sv.ansM 9 l).r2 := congrArg Ms.r2 HXM.out
  have HME := Lib.hid (fun (fl : Nat) (hfe : fl = FL) => show MR.m ⟨idX, fl, some ⟨b, o, none⟩, qcX, [⟨nA, nc, Sv.svq⟩], A6, c6, r6, bAX, bdX, rbX, cAX, ccX, rcX⟩ = M by
    show (⟨idX, fl, [Sv.svq], r6.map RR.r, rbX.map RR.r, rcX.map RR.r⟩ : Ms) = M
    rw [HM.out, HR6.out, HID.out, hfe, e1, e2]
    unfold Sv.wrongM
    simp [e0])
  (try clear m3a)
  clear hS7 hV7 hB7 hng f3 m3' x0 x1 x2 x3 x4 x5 x6 x7 x8 m0 m1 m2 m3 m4 m5 e0 e1 e2 hra1 hl6 hc6 hYc hY1
  by_cases hqz : q = 0 <;> cases cut
  case' pos.true =>
    have hqn : ¬ (0 : Int) < (q : Int) := by omega
    have HQ0 := Lib.hid hqz
    clear hqz
    have HFE := Lib.hid (show F2 = FL by rw [HFL.out, HF2.out, HQ.out]; simp [Sv.wrongF])
    have hEI : (E : Int) = 183 := by rw [HE.out]; simp [Sv.wrongE]
    have hor : bits .or .u16 (flX : Int) 512 = (F2 : Int) := by
      have e : flX = F1 := by rw [HFLX.out, HF1.out, HQ0.out]
      rw [e]; exact HOR2.out
    obtain ⟨m0, m1, m2, m3, m4, m5⟩ := HV7.out.c6
    have f1 := HV7.out.free 1
    go_upto_region 17 with fail
    clear hor
    have hS8 := (HS7.out.fl F2).setG 1 (.int .u16 (F2 : Int))
    have hV8 := HV7.out.set_ 1 (.int .u16 (F2 : Int))
    simp only [List.set_cons_zero, List.set_cons_succ] at hV8
    have hB8 := HB7.out.setCell (p := ⟨g13, 1, none⟩) hg2 (.int .u16 (F2 : Int))
    generalize w7.setCell ⟨g13, 1, none⟩ (.int .u16 (F2 : Int)) = w8 at hS8 hV8 hB8 ⊢
    have HS8 := Lib.hid hS8
    have HV8 := Lib.hid hV8
    have HB8 := Lib.hid hB8
    clear hS8 hV8 hB8 m0 m1 m2 m3 m4 m5 f1
    obtain ⟨WL, hWL⟩ : ∃ x, x = w8 := ⟨w8, rfl⟩
    subst hWL
    have HSL := HS8
    have HVL := HV8
    have HBB := HB8
  case' pos.false =>
    have hqn : ¬ (0 : Int) < (q : Int) := by omega
    have HQ0 := Lib.hid hqz
    clear hqz
    have HFE := Lib.hid (show flX = FL by rw [HFL.out, HFLX.out]; unfold Sv.wrongF; rw [← HQ.out, HQ0.out]; simp)
    have hEI : (E : Int) = 185 := by rw [HE.out]; unfold Sv.wrongE; rw [if_neg (by simp), if_neg (by rw [← HQ.out, HQ0.out]; simp)]; rfl
    obtain ⟨WL, hWL⟩ : ∃ x, x = w7 := ⟨w7, rfl⟩
    subst hWL
    have HSL := HS7
    have HVL := HV7
    have HBB := HB7
  case' neg.true =>
    have hqp : (0 : Int) < (q : Int) := by omega
    have HQ0 := Lib.hid hqz
    clear hqz
    have hor1 := HOR1.out
    obtain ⟨m0, m1, m2, m3, m4, m5⟩ := HV7.out.c6
    have f1 := HV7.out.free 1
    go_upto_region 14 with fail
    clear hor1
    have hS8 := (HS7.out.fl F1).setG 1 (.int .u16 (F1 : Int))
    have hV8 := HV7.out.set_ 1 (.int .u16 (F1 : Int))
    simp only [List.set_cons_zero, List.set_cons_succ] at hV8
    have hB8 := HB7.out.setCell (p := ⟨g13, 1, none⟩) hg2 (.int .u16 (F1 : Int))
    generalize w7.setCell ⟨g13, 1, none⟩ (.int .u16 (F1 : Int)) = w8 at hS8 hV8 hB8 ⊢
    have HS8 := Lib.hid hS8
    have HV8 := Lib.hid hV8
    have HB8 := Lib.hid hB8
    clear hS8 hV8 hB8 m0 m1 m2 m3 m4 m5 f1
    have HFE := Lib.hid (show F2 = FL by rw [HFL.out, HF2.out, HQ.out]; simp [Sv.wrongF])
    have hEI : (E : Int) = 183 := by rw [HE.out]; simp [Sv.wrongE]
    have hor2 := HOR2.out
    obtain ⟨m0, m1, m2, m3, m4, m5⟩ := HV8.out.c6
    have f1 := HV8.out.free 1
    go_upto_region 17 with fail
    clear hor2
    have hS9 := (HS8.out.fl F2).setG 1 (.int .u16 (F2 : Int))
    have hV9 := HV8.out.set_ 1 (.int .u16 (F2 : Int))
    simp only [List.set_cons_zero, List.set_cons_succ] at hV9
    have hB9 := HB8.out.setCell (p := ⟨g13, 1, none⟩) hg2 (.int .u16 (F2 : Int))
    generalize w8.setCell ⟨g13, 1, none⟩ (.int .u16 (F2 : Int)) = w9 at hS9 hV9 hB9 ⊢
    have HS9 := Lib.hid hS9
    have HV9 := Lib.hid hV9
    have HB9 := Lib.hid hB9
    clear hS9 hV9 hB9 m0 m1 m2 m3 m4 m5 f1
    obtain ⟨WL, hWL⟩ : ∃ x, x = w9 := ⟨w9, rfl⟩
    subst hWL
    have HSL := HS9
    have HVL := HV9
    have HBB := HB9
  case' neg.false =>
    have hqp : (0 : Int) < (q : Int) := by omega
    have HQ0 := Lib.hid hqz
    clear hqz
    have hor1 := HOR1.out
    obtain ⟨m0, m1, m2, m3, m4, m5⟩ := HV7.out.c6
    have f1 := HV7.out.free 1
    go_upto_region 14 with fail
    clear hor1
    have hS8 := (HS7.out.fl F1).setG 1 (.int .u16 (F1 : Int))
    have hV8 := HV7.out.set_ 1 (.int .u16 (F1 : Int))
    simp only [List.set_cons_zero, List.set_cons_succ] at hV8
    have hB8 := HB7.out.setCell (p := ⟨g13, 1, none⟩) hg2 (.int .u16 (F1 : Int))
    generalize w7.setCell ⟨g13, 1, none⟩ (.int .u16 (F1 : Int)) = w8 at hS8 hV8 hB8 ⊢
    have HS8 := Lib.hid hS8
    have HV8 := Lib.hid hV8
    have HB8 := Lib.hid hB8
    clear hS8 hV8 hB8 m0 m1 m2 m3 m4 m5 f1
    have HFE := Lib.hid (show F1 = FL by rw [HFL.out, HF1.out, HQ.out]; simp [Sv.wrongF])
    have hEI : (E : Int) = 184 := by rw [HE.out]; unfold Sv.wrongE; rw [if_neg (by simp), if_pos (by rw [← HQ.out]; exact HQ0.out)]; rfl
    obtain ⟨WL, hWL⟩ : ∃ x, x = w8 := ⟨w8, rfl⟩
    subst hWL
    have HSL := HS8
    have HVL := HV8
    have HBB := HB8
  all_goals
    have kw := KW.out _ WL WL w2.heap.size (HME.out _ HFE.out) HSL.out.mow (Below.refl _ _)
    have HKW := Lib.hid kw
    have HRQ0 := Lib.hid (HR22.out.goes HBB.out)
    clear kw
    obtain ⟨m0, m1, m2, m3, m4, m5⟩ := HVL.out.c6
    go_wp2_with (first
      | (go_at_call 32
         refine (KD.out x5).mono ?_
         rintro e x6 ⟨v6, rfl, _, hb6⟩
         have HX6 := Lib.hid (HX5.out.trans (hb6.mono HX5.out.size))
         clear hb6)
      | (go_at_call 32
         refine (KRT.out x4).mono ?_
         rintro e x5 ⟨v5, rfl, _, hb5⟩
         have HX5 := Lib.hid (HX4.out.trans (hb5.mono HX4.out.size))
         clear hb5)
      | (go_at_call 35
         refine (KS.out A2 B1 c2 d1 x3 HRQ3.out HRR3.out hc2 (by omega)).mono ?_
         rintro e x4 ⟨B4, d4, rfl, _, _, hb4⟩
         have HX4 := Lib.hid (HX3.out.trans (hb4.mono HX3.out.size))
         clear hb4)
      | (go_at_call 35
         refine (KN.out B1 d1 x2 HRR2.out hd1).mono ?_
         rintro e x3 ⟨B3, d3, rfl, _, _, hb3⟩
         have HRQ3 := Lib.hid (HRQ2.out.goes hb3)
         have HRR3 := Lib.hid (HRR2.out.goes hb3)
         have HX3 := Lib.hid (HX2.out.trans (hb3.mono HX2.out.size))
         have hsl := hsl0 B1 d1 hd1
         clear hb3)
      | (go_at_call 35
         refine (KT.out A2 B1 c2 d1 x1 HRQ1.out HRR1.out hc2 hd1).mono ?_
         rintro e x2 ⟨B2, d2, rfl, _, _, hb2⟩
         have HRQ2 := Lib.hid (HRQ1.out.goes hb2)
         have HRR2 := Lib.hid (HRR1.out.goes hb2)
         have HX2 := Lib.hid (HX1.out.trans (hb2.mono HX1.out.size))
         clear hb2)
      | (go_at_call 36
         refine HKW.out.mono ?_
         rintro e x1 ⟨B1, d1, rfl, hd1, hr1, hb1⟩
         have HRR1 := Lib.hid hr1
         have HRQ1 := Lib.hid (HRQ0.out.goes hb1)
         have HX1 := Lib.hid (HBB.out.trans (hb1.mono HBB.out.size))
         clear hr1 hb1))
    go_ret
    exact ⟨rfl, HB2.out.trans (HX6.out.mono HB2.out.size)⟩

set_option maxRecDepth 100000 in
set_option maxHeartbeats 4000000 in
theorem srvWrong_ff (A0 : Option Addr) (c0 : Nat) (l : List Sv.Sa) (code : Nat) (cut : Bool) (w : World) (h : Rd w w.heap.size A0 (l.length * 6) (Sv.scs l)) (hc : l.length ≤ c0) (hx : ∀ s ∈ l, Sv.okS s) (hcode : code < 256) :
    Calls Tryz.prog 11 #[.slice A0 l.length c0, .int .u8 (code : Int), .bool cut, .bool false, .bool false] w fun e w' => e = .returned (.bool true) ∧ Below w.heap.size w w' := by
  obtain ⟨j0, hj', hy0, hy1, hy2⟩ := info_parts Tryz.infoR
  obtain ⟨n, hn⟩ : ∃ n, n = l.length := ⟨_, rfl⟩
  rw [← hn] at h hc ⊢
  obtain ⟨q, hq⟩ : ∃ q, q = code % 16 := ⟨_, rfl⟩
  have hq16 : q < 16 := by omega
  have hq1 : (code : Int) % 16 = (q : Int) := by omega
  have hq2 : (code : Int).tmod 16 = (q : Int) := by rw [Int.tmod_eq_emod_of_nonneg (by omega)]; exact hq1
  obtain ⟨FL, hFL⟩ : ∃ F, F = Sv.wrongF code cut := ⟨_, rfl⟩
  obtain ⟨E, hE⟩ : ∃ E, E = Sv.wrongE code cut := ⟨_, rfl⟩
  have hFb : FL < 65536 := by rw [hFL]; unfold Sv.wrongF; split <;> omega
  obtain ⟨M, hM⟩ : ∃ M, M = Sv.wrongM FL l false false := ⟨_, rfl⟩
  have hf : Fine M := by rw [hM]; exact Sv.wrong_fine hx FL hFb false false
  obtain ⟨Q, hQ⟩ : ∃ Q, Q = formM (Srv.askM 9 Sv.svc) := ⟨_, rfl⟩
  obtain ⟨R, hR⟩ : ∃ R, R = formM M := ⟨_, rfl⟩
  have hT : Srv.takeN Q R = ([], E) := by rw [hQ, hR, hM, hFL, hE]; exact Sv.take_wrong hx code cut false false
  obtain ⟨LQ, hLQ⟩ : ∃ L, L = Q.length := ⟨_, rfl⟩
  obtain ⟨LR, hLR⟩ : ∃ L, L = R.length := ⟨_, rfl⟩
  have hQl : LQ ≤ 4096 := by rw [hLQ, hQ]; exact (ask_fine (by omega) Sv.svc_right).len
  have hRl : LR ≤ 4096 := by rw [hLR, hR]; exact hf.len
  obtain ⟨K, hK⟩ : ∃ K, K = min LR 11 := ⟨_, rfl⟩
  have hmin : min (LR : Int) 11 = (K : Int) := by omega
  have hKR : K ≤ LR := by omega
  have hKl : K = (R.take K).length := by rw [List.length_take, ← hLR]; omega
  have hTs : Srv.takeN Q (R.take K) = ([], 171) := by rw [hQ]; exact Sv.take_short (by rw [← hKl]; omega)
  have hfa := Sv.ansM_fine (id := 9) (by omega) hx
  have KA := Lib.hid (fun (W : World) (hW : Rd W W.heap.size A0 (n * 6) (Sv.scs l)) => Sv.answer_w 9 n A0 c0 l W (by omega) hW hn.symm hc hx)
  have KQ := Lib.hid (fun (W : World) => Sv.ask_query 9 Q LQ W (by omega) hQ hLQ)
  have KW := Lib.hid (fun (x : MR) (W0 W : World) (b : Nat) (h1 : x.m = M) (h2 : MOw W0 b x) (h3 : Below W0.heap.size W0 W) => Sv.fine_write x M R LR W0 W b h1 hf hR hLR h2 h3)
  have KT := Lib.hid (fun (A1 A2 : Option Addr) (c1 c2 : Nat) (W : World) h1 h2 (h3 : LQ ≤ c1) (h4 : LR ≤ c2) => Sv.take_got A1 A2 c1 c2 LQ LR Q R [] E W hT hLQ hLR h1 h2 h3 h4 (by omega) (by omega))
  have KN := Lib.hid (fun (A2 : Option Addr) (c2 : Nat) (W : World) h2 (h4 : LR ≤ c2) => Sv.take_got none A2 0 c2 0 LR [] R [] 181 W (Sv.take_nil R) rfl hLR (Rd.nil _ _ _) h2 (Nat.le_refl _) h4 (by omega) (by omega))
  have KS := Lib.hid (fun (A1 A2 : Option Addr) (c1 c2 : Nat) (W : World) h1 (h2 : Rd W W.heap.size A2 LR (bc R)) (h3 : LQ ≤ c1) (h4 : K ≤ c2) => Sv.take_got A1 A2 c1 c2 LQ K Q (R.take K) [] 171 W hTs hLQ hKl h1 (Sv.rd_cut h2 hKR) h3 h4 (by omega) (by omega))
  have KRT := Lib.hid (fun (W : World) => by have k := sask_at 9 [46] W (by omega) (by simp); rw [Sv.ask_root] at k; exact k)
  have KD := Lib.hid (fun (W : World) => by have k := sask_at 9 [97, 46, 46, 98] W (by omega) (by simp); rw [Sv.ask_dots] at k; exact k)
  have hsl0 : ∀ (B1 : Option Addr) (d1 : Nat), LR ≤ d1 → ∀ W, (Instr.slice 22 (.slice B1 LR d1) none (some (.int .i64 (K : Int))) none).run Tryz.prog W = .ok (.slice B1 K d1) W := fun B1 d1 hd W => run_sl_h (P := Tryz.prog) W 22 5 Tryz.underlying22 (fun w => by kernel_rfl) B1 LR d1 K (by omega)
  dsimp only [List.length_nil] at KT KN KS
  have HM := Lib.hid hM
  have HFL := Lib.hid hFL
  have HE := Lib.hid hE
  have HQ := Lib.hid hq
  have HR := Lib.hid h
  have HNUM := Lib.hid hfa.num
  have HAW := Lib.hid (sawake_any w)
  clear h hc hx hn hq hFL hE hM hf hQ hR hT hLQ hLR hK hKl hTs hfa hFb
  go_enter Tryz.func11, Tryz.ntmps11
  go_upto_region 5 with (first
    | (go_at_call 37
       refine (KA.out w2 (HR.out.goes HB2.out)).mono ?_
       rintro e w3 ⟨x, Ao, no, co, rfl, hxm, hxo, hap, hb3⟩
       have HXM := Lib.hid hxm
       have HXO := Lib.hid hxo
       have HAP := Lib.hid hap
       have HB23 := Lib.hid hb3
       obtain ⟨nA, nc, b, o, hqs, hqA, hbq, k0, k1, k2⟩ := Sv.quest_cells hxo (by have e := congrArg Ms.qs hxm; unfold Sv.ansM at e; rw [Sv.ansK_is] at e; exact e)
       have K0 := Lib.hid k0
       have K1 := Lib.hid k1
       have K2 := Lib.hid k2
       clear hxm hxo hap hb3 k0 k1 k2
       obtain ⟨idX, flX, qAX, qcX, qsX, aAX, acX, raX, bAX, bdX, rbX, cAX, ccX, rcX⟩ := x
       dsimp only at hqs hqA
       subst hqs hqA
       unfold MR.cells
       dsimp only
       simp only [List.length_cons, List.length_nil, Nat.zero_add])
    | (go_at_call 32
       refine (KQ.out w1).mono ?_
       rintro e w2 ⟨A2, c2, rfl, hc2, hr2, hb2⟩
       have HR22 := Lib.hid hr2
       have HB2 := Lib.hid (HB1.out.trans (hb2.mono HB1.out.size))
       clear hr2 hb2)
    | (go_at_call 14
       refine HAW.out.mono ?_
       rintro e w1 ⟨rfl, hb1⟩
       have HB1 := Lib.hid hb1
       clear hb1))
  have hV := Vx.new w3 72 [.int .u16 (idX : Int), .int .u16 (flX : Int), .slice (some ⟨b, o, none⟩) 1 qcX, .slice aAX raX.length acX, .slice bAX rbX.length bdX, .slice cAX rcX.length ccX]
  have hS := (Sv.WSt.start (g := w3.heap.size) HXO.out (Nat.le_refl _)).far (bl_new w3 (.cells #[.int .u16 (idX : Int), .int .u16 (flX : Int), .slice (some ⟨b, o, none⟩) 1 qcX, .slice aAX raX.length acX, .slice bAX rbX.length bdX, .slice cAX rcX.length ccX] 72))
  have hB4 := HB23.out.trans ((bl_new w3 (.cells #[.int .u16 (idX : Int), .int .u16 (flX : Int), .slice (some ⟨b, o, none⟩) 1 qcX, .slice aAX raX.length acX, .slice bAX rbX.length bdX, .slice cAX rcX.length ccX] 72)).mono HB23.out.size)
  have hK0 := ((bl_new w3 (.cells #[.int .u16 (idX : Int), .int .u16 (flX : Int), .slice (some ⟨b, o, none⟩) 1 qcX, .slice aAX raX.length acX, .slice bAX rbX.length bdX, .slice cAX rcX.length ccX] 72)).cell (p := ⟨b, o, none⟩) hbq).trans K0.out
  have hK1 := ((bl_new w3 (.cells #[.int .u16 (idX : Int), .int .u16 (flX : Int), .slice (some ⟨b, o, none⟩) 1 qcX, .slice aAX raX.length acX, .slice bAX rbX.length bdX, .slice cAX rcX.length ccX] 72)).cell (p := ⟨b, o + 1, none⟩) hbq).trans K1.out
  have hK2 := ((bl_new w3 (.cells #[.int .u16 (idX : Int), .int .u16 (flX : Int), .slice (some ⟨b, o, none⟩) 1 qcX, .slice aAX raX.length acX, .slice bAX rbX.length bdX, .slice cAX rcX.length ccX] 72)).cell (p := ⟨b, o + 2, none⟩) hbq).trans K2.out
  have hlt4 : w3.heap.size < (w3.alloc (.cells #[.int .u16 (idX : Int), .int .u16 (flX : Int), .slice (some ⟨b, o, none⟩) 1 qcX, .slice aAX raX.length acX, .slice bAX rbX.length bdX, .slice cAX rcX.length ccX] 72)).heap.size := by simp
  have hg2 : w2.heap.size ≤ w3.heap.size := HB23.out.size
  obtain ⟨g13, hg13⟩ : ∃ g, g = w3.heap.size := ⟨_, rfl⟩
  rw [← hg13] at hV hS hlt4 hg2 ⊢
  generalize w3.alloc (.cells #[.int .u16 (idX : Int), .int .u16 (flX : Int), .slice (some ⟨b, o, none⟩) 1 qcX, .slice aAX raX.length acX, .slice bAX rbX.length bdX, .slice cAX rcX.length ccX] 72) = W4 at hV hS hB4 hK0 hK1 hK2 hlt4 ⊢
  have HV4 := Lib.hid hV
  have HS4 := Lib.hid hS
  have HB4 := Lib.hid hB4
  obtain ⟨m0, m1, m2, m3, m4, m5⟩ := hV.c6
  clear hV hS hB4 hg13 hbq HXO HB23 K0 K1 K2
  have hs1 : (W4.alloc (.cells #[.string ⟨#[110, 49]⟩, .string ⟨#[101, 120, 32, 97, 109, 112, 108, 101]⟩] 9)).heap.size = W4.heap.size + 1 := by simp
  have hs2 : ((W4.alloc (.cells #[.string ⟨#[110, 49]⟩, .string ⟨#[101, 120, 32, 97, 109, 112, 108, 101]⟩] 9)).alloc (.cells #[.slice nA 3 nc, .int .u16 33, .int .u16 1, .int .u32 0, .slice none 0 0, .int .u16 0, .int .u16 0, .int .u16 1, .slice (some ⟨W4.heap.size, 0, none⟩) 2 2] 88)).heap.size = W4.heap.size + 1 + 1 := by simp
  have hb45 : Below W4.heap.size W4 ((W4.alloc (.cells #[.string ⟨#[110, 49]⟩, .string ⟨#[101, 120, 32, 97, 109, 112, 108, 101]⟩] 9)).alloc (.cells #[.slice nA 3 nc, .int .u16 33, .int .u16 1, .int .u32 0, .slice none 0 0, .int .u16 0, .int .u16 0, .int .u16 1, .slice (some ⟨W4.heap.size, 0, none⟩) 2 2] 88)) := (bl_new W4 _).alloc (by simp) _
  have hv15 := Vx.new (W4.alloc (.cells #[.string ⟨#[110, 49]⟩, .string ⟨#[101, 120, 32, 97, 109, 112, 108, 101]⟩] 9)) 88 [.slice nA 3 nc, .int .u16 33, .int .u16 1, .int .u32 0, .slice none 0 0, .int .u16 0, .int .u16 0, .int .u16 1, .slice (some ⟨W4.heap.size, 0, none⟩) 2 2]
  have hto := (Ow.lit W4 9 (sc (Sv.badTg false)) (by decide)).alloc (.cells #[.slice nA 3 nc, .int .u16 33, .int .u16 1, .int .u32 0, .slice none 0 0, .int .u16 0, .int .u16 0, .int .u16 1, .slice (some ⟨W4.heap.size, 0, none⟩) 2 2] 88)
  rw [hs1] at hv15
  have hto : (nmO (some ⟨W4.heap.size, 0, none⟩) 2 (Sv.badTg false)).ok ((W4.alloc (.cells #[.string ⟨#[110, 49]⟩, .string ⟨#[101, 120, 32, 97, 109, 112, 108, 101]⟩] 9)).alloc (.cells #[.slice nA 3 nc, .int .u16 33, .int .u16 1, .int .u32 0, .slice none 0 0, .int .u16 0, .int .u16 0, .int .u16 1, .slice (some ⟨W4.heap.size, 0, none⟩) 2 2] 88)) w2.heap.size := OwM.mono (Sv.nmO_ok hto rfl) (by have := HB4.out.size; omega)
  have hS5 := HS4.out.far hb45
  have hV5 := HV4.out.below hb45 HV4.out.lt
  have hB5 := HB4.out.trans (hb45.mono HB4.out.size)
  have hsz5 := hb45.size
  obtain ⟨tb, htb⟩ : ∃ t, t = W4.heap.size := ⟨_, rfl⟩
  have htbl : W4.heap.size ≤ tb := by omega
  go_upto_region 8 with fail
  generalize ((W4.alloc (.cells #[.string ⟨#[110, 49]⟩, .string ⟨#[101, 120, 32, 97, 109, 112, 108, 101]⟩] 9)).alloc (.cells #[.slice nA 3 nc, .int .u16 33, .int .u16 1, .int .u32 0, .slice none 0 0, .int .u16 0, .int .u16 0, .int .u16 1, .slice (some ⟨W4.heap.size, 0, none⟩) 2 2] 88)) = W5 at hb45 hv15 hto hS5 hV5 hB5 hsz5 ⊢
  obtain ⟨g15, hg15⟩ : ∃ t, t = W4.heap.size + 1 := ⟨_, rfl⟩
  rw [← hg15] at hv15 ⊢
  rw [← htb] at hv15 hto ⊢
  have hv15 : Vx W5 g15 88 [.slice nA 3 nc, .int .u16 33, .int .u16 1, .int .u32 0, .slice none 0 0, .int .u16 0, .int .u16 0, .int .u16 1, .slice (some ⟨tb, 0, none⟩) 2 2] := hv15
  have x0 : W5.cell? ⟨g15, 0, none⟩ = some (.slice nA 3 nc) := hv15.cell 0
  have x1 : W5.cell? ⟨g15, 1, none⟩ = some (.int .u16 33) := hv15.cell 1
  have x2 : W5.cell? ⟨g15, 2, none⟩ = some (.int .u16 1) := hv15.cell 2
  have x3 : W5.cell? ⟨g15, 3, none⟩ = some (.int .u32 0) := hv15.cell 3
  have x4 : W5.cell? ⟨g15, 4, none⟩ = some (.slice none 0 0) := hv15.cell 4
  have x5 : W5.cell? ⟨g15, 5, none⟩ = some (.int .u16 0) := hv15.cell 5
  have x6 : W5.cell? ⟨g15, 6, none⟩ = some (.int .u16 0) := hv15.cell 6
  have x7 : W5.cell? ⟨g15, 7, none⟩ = some (.int .u16 1) := hv15.cell 7
  have x8 : W5.cell? ⟨g15, 8, none⟩ = some (.slice (some ⟨tb, 0, none⟩) 2 2) := hv15.cell 8
  clear m0 m1 m2 m3 m4 m5 hs1 hs2 hg15 htb
  obtain ⟨m0, m1, m2, m3, m4, m5⟩ := hV5.c6
  obtain ⟨r6, hr6⟩ : ∃ r : List RR, r = raX ++ [⟨nA, nc, none, 0, some ⟨tb, 0, none⟩, 2, Sv.badR false⟩] := ⟨_, rfl⟩
  have hYc : RR.cells ⟨nA, nc, none, 0, some ⟨tb, 0, none⟩, 2, Sv.badR false⟩ = [.slice nA 3 nc, .int .u16 33, .int .u16 1, .int .u32 0, .slice none 0 0, .int .u16 0, .int .u16 0, .int .u16 1, .slice (some ⟨tb, 0, none⟩) 2 2] := by simp [RR.cells, Sv.badR, Sv.badTg, Sv.svq, Sv.svc]
  have hY1 : ∀ u ∈ ([.slice nA 3 nc, .int .u16 33, .int .u16 1, .int .u32 0, .slice none 0 0, .int .u16 0, .int .u16 0, .int .u16 1, .slice (some ⟨tb, 0, none⟩) 2 2] : List Value), u.oneCell' = true := by rw [← hYc]; exact rcells_one _
  have hl6 : raX.length + 1 = r6.length := by rw [hr6]; simp
  have hc6 : rcs raX ++ [.slice nA 3 nc, .int .u16 33, .int .u16 1, .int .u32 0, .slice none 0 0, .int .u16 0, .int .u16 0, .int .u16 1, .slice (some ⟨tb, 0, none⟩) 2 2] = rcs r6 := by rw [hr6, ← hYc]; simp [rcs]
  have hm6 : ∀ r ∈ r6, r ∈ raX ∨ r = (⟨nA, nc, none, 0, some ⟨tb, 0, none⟩, 2, Sv.badR false⟩ : RR) := by rw [hr6]; intro r hr; simp at hr; exact hr
  have hra : raX.length ≤ 256 := by
    have e := congrArg Ms.r0 HXM.out
    have e2 := congrArg List.length e
    have hn := HNUM.out
    simp only [MR.m, List.length_map] at e2
    unfold Ms.num at hn
    omega
  have hy : ∀ u, DR [(⟨nA, nc, none, 0, some ⟨tb, 0, none⟩, 2, Sv.badR false⟩ : RR)] u → u.ok W5 w2.heap.size ∧ u.v.ownBlock ≠ some g13 ∧ ((u = nmO nA nc Sv.svc ∨ u.v.ownBlock = none) ∨ u.v.ownBlock = some tb) := by
    rintro u ⟨z, hz, h1⟩
    rw [List.mem_singleton] at hz
    subst hz
    rcases h1 with rfl | rfl | rfl
    · have hq : Sv.MC0 ⟨idX, flX, some ⟨b, o, none⟩, qcX, [⟨nA, nc, Sv.svq⟩], aAX, acX, raX, bAX, bdX, rbX, cAX, ccX, rcX⟩ (nmO nA nc Sv.svc) := .inr (.inr (.inr (.inl ⟨_, List.mem_singleton.2 rfl, rfl⟩)))
      exact ⟨hS5.o _ hq, hS5.no _ hq, .inl (.inl rfl)⟩
    · exact ⟨OwM.nil _ _ _ _, by simp [daO, Value.ownBlock], .inl (.inr rfl)⟩
    · exact ⟨hto, by simp [nmO, Value.ownBlock]; omega, .inr rfl⟩
  have HR6 := Lib.hid hr6
  have HM6 := Lib.hid hm6
  have HY := Lib.hid hy
  have HS5 := Lib.hid hS5
  have HV5 := Lib.hid hV5
  have HB5 := Lib.hid hB5
  have HTO := Lib.hid hto
  clear hr6 hm6 hy hS5 hV5 hB5 hto hv15 hb45
  have hfl : flX = 32768 := by have e := congrArg Ms.fl HXM.out; unfold Sv.ansM at e; rw [Sv.ansK_is] at e; exact e
  have hid : idX = 9 := by have e := congrArg Ms.id HXM.out; unfold Sv.ansM at e; rw [Sv.ansK_is] at e; exact e
  obtain ⟨F1, hF1⟩ : ∃ F, F = 32768 + q := ⟨_, rfl⟩
  obtain ⟨F2, hF2⟩ : ∃ F, F = 32768 + q + 512 := ⟨_, rfl⟩
  have hor1 : bits .or .u16 (flX : Int) (q : Int) = (F1 : Int) := by rw [hfl, hF1]; exact Sv.or_low q hq16
  have hor2 : bits .or .u16 (F1 : Int) 512 = (F2 : Int) := by rw [hF1, hF2]; exact Sv.or_cut q hq16
  have HFLX := Lib.hid hfl
  have HID := Lib.hid hid
  have HF1 := Lib.hid hF1
  have HF2 := Lib.hid hF2
  have HOR1 := Lib.hid hor1
  have HOR2 := Lib.hid hor2
  clear hfl hid hF1 hF2 hor1 hor2
  have HAPT := Lib.hid (show ∀ u, (Sv.MC0 ⟨idX, flX, some ⟨b, o, none⟩, qcX, [⟨nA, nc, Sv.svq⟩], aAX, acX, raX, bAX, bdX, rbX, cAX, ccX, rcX⟩ u ∨ DR [(⟨nA, nc, none, 0, some ⟨tb, 0, none⟩, 2, Sv.badR false⟩ : RR)] u) → Sv.Apt (Value.slice aAX raX.length acX) u.v from fun u hu q h1 h2 => by
       rcases hu with hu | hu
       · exact HAP.out u hu q h1 h2
       · rcases (HY.out u hu).2.2 with (rfl | hn) | ht
         · exact HAP.out _ (.inr (.inr (.inr (.inl ⟨_, List.mem_singleton.2 rfl, rfl⟩)))) q h1 h2
         · rw [hn] at h2; cases h2
         · have := OwM.block_lt HS4.out.r q h1
           rw [ht] at h2; cases h2; omega)
  go_upto_region 12 with (at_builtin; (
     refine wpList_appM _ rfl _ _ _ _ rfl w2.heap.size 9 88 j0 _ 96 Tryz.underlying69 hj' hy0 hy1 hy2 rfl (by omega) (.slice aAX raX.length acX) raX.length (rcs raX) (OwM.alloc HS5.out.r _) rfl 1 [.slice nA 3 nc, .int .u16 33, .int .u16 1, .int .u32 0, .slice none 0 0, .int .u16 0, .int .u16 0, .int .u16 1, .slice (some ⟨tb, 0, none⟩) 2 2] (litM_src (w := W5) Tryz.underlying69 88 9 [.slice nA 3 nc, .int .u16 33, .int .u16 1, .int .u32 0, .slice none 0 0, .int .u16 0, .int .u16 0, .int .u16 1, .slice (some ⟨tb, 0, none⟩) 2 2] 1 rfl hY1) (by omega) (by have := HB5.out.size; simp; omega) ?_
     intro v6 w6 ho6 hg6 hz6
     rw [hl6, hc6] at ho6
     obtain ⟨A6, c6, rfl, _, _, _⟩ := ho6.form
     have HO6 := Lib.hid ho6
     have HG6 := Lib.hid hg6
     have HV6 := Lib.hid ((HV5.out.alloc (.cells #[.slice nA 3 nc, .int .u16 33, .int .u16 1, .int .u32 0, .slice none 0 0, .int .u16 0, .int .u16 0, .int .u16 1, .slice (some ⟨tb, 0, none⟩) 2 2] 88)).grown hg6.1 (fun e => HS5.out.nr e.symm))
     have HB6 := Lib.hid ((HB5.out.alloc HB5.out.size _).trans (hg6.below (OwM.lt HS5.out.r) (by have := HB5.out.size; simp; omega)))
     have f3 := HV6.out.free 3
     have m3' : w6.cell? ⟨g13, 3, none⟩ = some (.slice aAX raX.length acX) := HV6.out.cell 3
     clear ho6 hg6))
  have hng : (rwR A6 c6 r6).v.ownBlock ≠ some g13 := fun e => by
    rcases HG6.out.2 g13 e with h1 | h1
    · exact HS5.out.nr h1
    · simp at h1; omega
  have hS7 := (Sv.WSt.app HS5.out (bl_new W5 (.cells #[.slice nA 3 nc, .int .u16 33, .int .u16 1, .int .u32 0, .slice none 0 0, .int .u16 0, .int .u16 0, .int .u16 1, .slice (some ⟨tb, 0, none⟩) 2 2] 88)) HG6.out (fun u hu => HAPT.out u (.inl hu)) ⟨nA, nc, none, 0, some ⟨tb, 0, none⟩, 2, Sv.badR false⟩ (fun u hu => ⟨OwM.alloc (HY.out u hu).1 _, (HY.out u hu).2.1, HAPT.out u (.inr hu)⟩) r6 A6 c6 (OwM.mono HO6.out (by exact Nat.le_refl _)) hng HM6.out).setG 3 (.slice A6 r6.length c6)
  have hV7 := HV6.out.set_ 3 (.slice A6 r6.length c6)
  simp only [List.set_cons_zero, List.set_cons_succ] at hV7
  have hB7 := HB6.out.setCell (p := ⟨g13, 3, none⟩) hg2 (.slice A6 r6.length c6)
  generalize w6.setCell ⟨g13, 3, none⟩ (.slice A6 r6.length c6) = w7 at hS7 hV7 hB7 ⊢
  have HS7 := Lib.hid hS7
  have HV7 := Lib.hid hV7
  have HB7 := Lib.hid hB7
  obtain ⟨ra1, hra1⟩ : ∃ k, k = r6.length := ⟨_, rfl⟩
  have e0 : raX.map RR.r = (Sv.ansM 9 l).r0 := congrArg Ms.r0 HXM.out
  have e1 : rbX.map RR.r = (Sv.ansM 9 l).r1 := congrArg Ms.r1 HXM.out
  have e2 : rcX.map RR.r = (Sv.ansM 9 l).r2 := congrArg Ms.r2 HXM.out
  have HME := Lib.hid (fun (fl : Nat) (hfe : fl = FL) => show MR.m ⟨idX, fl, some ⟨b, o, none⟩, qcX, [⟨nA, nc, Sv.svq⟩], A6, c6, r6, bAX, bdX, rbX, cAX, ccX, rcX⟩ = M by
    show (⟨idX, fl, [Sv.svq], r6.map RR.r, rbX.map RR.r, rcX.map RR.r⟩ : Ms) = M
    rw [HM.out, HR6.out, HID.out, hfe, e1, e2]
    unfold Sv.wrongM
    simp [e0])
  (try clear m3a)
  clear hS7 hV7 hB7 hng f3 m3' x0 x1 x2 x3 x4 x5 x6 x7 x8 m0 m1 m2 m3 m4 m5 e0 e1 e2 hra1 hl6 hc6 hYc hY1
  by_cases hqz : q = 0 <;> cases cut
  case' pos.true =>
    have hqn : ¬ (0 : Int) < (q : Int) := by omega
    have HQ0 := Lib.hid hqz
    clear hqz
    have HFE := Lib.hid (show F2 = FL by rw [HFL.out, HF2.out, HQ.out]; simp [Sv.wrongF])
    have hEI : (E : Int) = 183 := by rw [HE.out]; simp [Sv.wrongE]
    have hor : bits .or .u16 (flX : Int) 512 = (F2 : Int) := by
      have e : flX = F1 := by rw [HFLX.out, HF1.out, HQ0.out]
      rw [e]; exact HOR2.out
    obtain ⟨m0, m1, m2, m3, m4, m5⟩ := HV7.out.c6
    have f1 := HV7.out.free 1
    go_upto_region 17 with fail
    clear hor
    have hS8 := (HS7.out.fl F2).setG 1 (.int .u16 (F2 : Int))
    have hV8 := HV7.out.set_ 1 (.int .u16 (F2 : Int))
    simp only [List.set_cons_zero, List.set_cons_succ] at hV8
    have hB8 := HB7.out.setCell (p := ⟨g13, 1, none⟩) hg2 (.int .u16 (F2 : Int))
    generalize w7.setCell ⟨g13, 1, none⟩ (.int .u16 (F2 : Int)) = w8 at hS8 hV8 hB8 ⊢
    have HS8 := Lib.hid hS8
    have HV8 := Lib.hid hV8
    have HB8 := Lib.hid hB8
    clear hS8 hV8 hB8 m0 m1 m2 m3 m4 m5 f1
    obtain ⟨WL, hWL⟩ : ∃ x, x = w8 := ⟨w8, rfl⟩
    subst hWL
    have HSL := HS8
    have HVL := HV8
    have HBB := HB8
  case' pos.false =>
    have hqn : ¬ (0 : Int) < (q : Int) := by omega
    have HQ0 := Lib.hid hqz
    clear hqz
    have HFE := Lib.hid (show flX = FL by rw [HFL.out, HFLX.out]; unfold Sv.wrongF; rw [← HQ.out, HQ0.out]; simp)
    have hEI : (E : Int) = 185 := by rw [HE.out]; unfold Sv.wrongE; rw [if_neg (by simp), if_neg (by rw [← HQ.out, HQ0.out]; simp)]; rfl
    obtain ⟨WL, hWL⟩ : ∃ x, x = w7 := ⟨w7, rfl⟩
    subst hWL
    have HSL := HS7
    have HVL := HV7
    have HBB := HB7
  case' neg.true =>
    have hqp : (0 : Int) < (q : Int) := by omega
    have HQ0 := Lib.hid hqz
    clear hqz
    have hor1 := HOR1.out
    obtain ⟨m0, m1, m2, m3, m4, m5⟩ := HV7.out.c6
    have f1 := HV7.out.free 1
    go_upto_region 14 with fail
    clear hor1
    have hS8 := (HS7.out.fl F1).setG 1 (.int .u16 (F1 : Int))
    have hV8 := HV7.out.set_ 1 (.int .u16 (F1 : Int))
    simp only [List.set_cons_zero, List.set_cons_succ] at hV8
    have hB8 := HB7.out.setCell (p := ⟨g13, 1, none⟩) hg2 (.int .u16 (F1 : Int))
    generalize w7.setCell ⟨g13, 1, none⟩ (.int .u16 (F1 : Int)) = w8 at hS8 hV8 hB8 ⊢
    have HS8 := Lib.hid hS8
    have HV8 := Lib.hid hV8
    have HB8 := Lib.hid hB8
    clear hS8 hV8 hB8 m0 m1 m2 m3 m4 m5 f1
    have HFE := Lib.hid (show F2 = FL by rw [HFL.out, HF2.out, HQ.out]; simp [Sv.wrongF])
    have hEI : (E : Int) = 183 := by rw [HE.out]; simp [Sv.wrongE]
    have hor2 := HOR2.out
    obtain ⟨m0, m1, m2, m3, m4, m5⟩ := HV8.out.c6
    have f1 := HV8.out.free 1
    go_upto_region 17 with fail
    clear hor2
    have hS9 := (HS8.out.fl F2).setG 1 (.int .u16 (F2 : Int))
    have hV9 := HV8.out.set_ 1 (.int .u16 (F2 : Int))
    simp only [List.set_cons_zero, List.set_cons_succ] at hV9
    have hB9 := HB8.out.setCell (p := ⟨g13, 1, none⟩) hg2 (.int .u16 (F2 : Int))
    generalize w8.setCell ⟨g13, 1, none⟩ (.int .u16 (F2 : Int)) = w9 at hS9 hV9 hB9 ⊢
    have HS9 := Lib.hid hS9
    have HV9 := Lib.hid hV9
    have HB9 := Lib.hid hB9
    clear hS9 hV9 hB9 m0 m1 m2 m3 m4 m5 f1
    obtain ⟨WL, hWL⟩ : ∃ x, x = w9 := ⟨w9, rfl⟩
    subst hWL
    have HSL := HS9
    have HVL := HV9
    have HBB := HB9
  case' neg.false =>
    have hqp : (0 : Int) < (q : Int) := by omega
    have HQ0 := Lib.hid hqz
    clear hqz
    have hor1 := HOR1.out
    obtain ⟨m0, m1, m2, m3, m4, m5⟩ := HV7.out.c6
    have f1 := HV7.out.free 1
    go_upto_region 14 with fail
    clear hor1
    have hS8 := (HS7.out.fl F1).setG 1 (.int .u16 (F1 : Int))
    have hV8 := HV7.out.set_ 1 (.int .u16 (F1 : Int))
    simp only [List.set_cons_zero, List.set_cons_succ] at hV8
    have hB8 := HB7.out.setCell (p := ⟨g13, 1, none⟩) hg2 (.int .u16 (F1 : Int))
    generalize w7.setCell ⟨g13, 1, none⟩ (.int .u16 (F1 : Int)) = w8 at hS8 hV8 hB8 ⊢
    have HS8 := Lib.hid hS8
    have HV8 := Lib.hid hV8
    have HB8 := Lib.hid hB8
    clear hS8 hV8 hB8 m0 m1 m2 m3 m4 m5 f1
    have HFE := Lib.hid (show F1 = FL by rw [HFL.out, HF1.out, HQ.out]; simp [Sv.wrongF])
    have hEI : (E : Int) = 184 := by rw [HE.out]; unfold Sv.wrongE; rw [if_neg (by simp), if_pos (by rw [← HQ.out]; exact HQ0.out)]; rfl
    obtain ⟨WL, hWL⟩ : ∃ x, x = w8 := ⟨w8, rfl⟩
    subst hWL
    have HSL := HS8
    have HVL := HV8
    have HBB := HB8
  all_goals
    have kw := KW.out _ WL WL w2.heap.size (HME.out _ HFE.out) HSL.out.mow (Below.refl _ _)
    have HKW := Lib.hid kw
    have HRQ0 := Lib.hid (HR22.out.goes HBB.out)
    clear kw
    obtain ⟨m0, m1, m2, m3, m4, m5⟩ := HVL.out.c6
    go_wp2_with (first
      | (go_at_call 32
         refine (KD.out x5).mono ?_
         rintro e x6 ⟨v6, rfl, _, hb6⟩
         have HX6 := Lib.hid (HX5.out.trans (hb6.mono HX5.out.size))
         clear hb6)
      | (go_at_call 32
         refine (KRT.out x4).mono ?_
         rintro e x5 ⟨v5, rfl, _, hb5⟩
         have HX5 := Lib.hid (HX4.out.trans (hb5.mono HX4.out.size))
         clear hb5)
      | (go_at_call 35
         refine (KS.out A2 B1 c2 d1 x3 HRQ3.out HRR3.out hc2 (by omega)).mono ?_
         rintro e x4 ⟨B4, d4, rfl, _, _, hb4⟩
         have HX4 := Lib.hid (HX3.out.trans (hb4.mono HX3.out.size))
         clear hb4)
      | (go_at_call 35
         refine (KN.out B1 d1 x2 HRR2.out hd1).mono ?_
         rintro e x3 ⟨B3, d3, rfl, _, _, hb3⟩
         have HRQ3 := Lib.hid (HRQ2.out.goes hb3)
         have HRR3 := Lib.hid (HRR2.out.goes hb3)
         have HX3 := Lib.hid (HX2.out.trans (hb3.mono HX2.out.size))
         have hsl := hsl0 B1 d1 hd1
         clear hb3)
      | (go_at_call 35
         refine (KT.out A2 B1 c2 d1 x1 HRQ1.out HRR1.out hc2 hd1).mono ?_
         rintro e x2 ⟨B2, d2, rfl, _, _, hb2⟩
         have HRQ2 := Lib.hid (HRQ1.out.goes hb2)
         have HRR2 := Lib.hid (HRR1.out.goes hb2)
         have HX2 := Lib.hid (HX1.out.trans (hb2.mono HX1.out.size))
         clear hb2)
      | (go_at_call 36
         refine HKW.out.mono ?_
         rintro e x1 ⟨B1, d1, rfl, hd1, hr1, hb1⟩
         have HRR1 := Lib.hid hr1
         have HRQ1 := Lib.hid (HRQ0.out.goes hb1)
         have HX1 := Lib.hid (HBB.out.trans (hb1.mono HBB.out.size))
         clear hr1 hb1))
    go_ret
    exact ⟨rfl, HB2.out.trans (HX6.out.mono HB2.out.size)⟩

theorem srvWrong_any (A0 : Option Addr) (c0 : Nat) (l : List Sv.Sa) (code : Nat) (cut port_ where_ : Bool) (w : World) (_ : True) (h : Rd w w.heap.size A0 (l.length * 6) (Sv.scs l)) (hc : l.length ≤ c0) (hx : ∀ s ∈ l, Sv.okS s) (hcode : code < 256) :
    Calls Tryz.prog 11 #[.slice A0 l.length c0, .int .u8 (code : Int), .bool cut, .bool port_, .bool where_] w fun e w' => e = .returned (.bool true) ∧ Below w.heap.size w w' := by
  cases port_ <;> cases where_
  · exact srvWrong_ff A0 c0 l code cut w h hc hx hcode
  · exact srvWrong_ft A0 c0 l code cut w h hc hx hcode
  · exact srvWrong_tf A0 c0 l code cut w h hc hx hcode
  · exact srvWrong_tt A0 c0 l code cut w h hc hx hcode
end Go.Proofs.YtlipmlbijddopaaGreatDoor
set_option linter.unusedVariables false
namespace Go.Proofs.YtlipmlbijddopaaGreatDoor
open Go.ChangeShapes Go.WideShapes Go.ChangeAt Go.RowKit
set_option maxRecDepth 100000 in
theorem srvWrong_lifted (os : Os) (started : os.Started) (H : Type) (enc : TypeId × Value → H) :
    ReturnsInHanded {} Tryz.checked os 11 .any (fun w args => (Rows.srvWrongSpec.pre enc Tryz.checked.prog Tryz.f11 [] false w args ∧ laidMetH Tryz.checked.prog Rows.srvWrongRow.laid w) ∧ sizedMet enc Tryz.checked.prog Tryz.f11 (OpenSpec.ofChange Rows.srvWrongSpec) false w args) (Rows.srvWrongSpec.post enc Tryz.checked.prog Tryz.f11 false true false false) := by
  refine law_lifted_laid (C := Tryz.checked) (P := Tryz.prog) rfl Tryz.own Tryz.laidOut Tryz.underlying4 started Tryz.func11 rfl (by kernel_rfl) rfl [81, 5, 4, 4, 4] (by rw [Tryz.params11])
    (fun ds h => by
      match ds, h with
      | [d0, d1, d2, d3, d4], _ => rfl) (by kernel_rfl) Rows.srvWrongRow.laid (by kernel_rfl)
    (ChangeSpec.witness_shaped (enc := enc) (C := Tryz.checked) (os := os) (X := fun w _ => laidMetH Tryz.prog Rows.srvWrongRow.laid w) false (World.laidAll Tryz.prog os Rows.srvWrongRow.laid) #[.slice none 0 0, .int .u8 0, .bool false, .bool false, .bool false] 8 (World.laidAll_os _ _ _) (World.shaped_of_ZipB (by kernel_rfl) (by kernel_rfl)) (by kernel_rfl) (by kernel_rfl) (by kernel_rfl)
      (by rw [MakeChecks.laidMetH_plain _ _ _ (by kernel_rfl)]; exact laidMet_laidAll _ (by kernel_rfl) (by kernel_rfl))) ?_
  intro W base args ds p hval hA hL hS
  have hT := hA.trod
  obtain ⟨v0, vs0, d0, ds0, p0, q0, e0, rfl, rfl, h0, hT0⟩ := trodAll_cons hT
  obtain ⟨v1, vs1, d1, ds1, p1, q1, e1, rfl, rfl, h1, hT1⟩ := trodAll_cons hT0
  obtain ⟨v2, vs2, d2, ds2, p2, q2, e2, rfl, rfl, h2, hT2⟩ := trodAll_cons hT1
  obtain ⟨v3, vs3, d3, ds3, p3, q3, e3, rfl, rfl, h3, hT3⟩ := trodAll_cons hT2
  obtain ⟨v4, vs4, d4, ds4, p4, q4, e4, rfl, rfl, h4, hT4⟩ := trodAll_cons hT3
  obtain ⟨e5, rfl, rfl⟩ := trodAll_nil hT4
  obtain ⟨args⟩ := args
  simp only at e0 e1 e2 e3 e4 e5
  subst e5 e4 e3 e2 e1 e0
  have hre := hA.reach
  rw [Tryz.params11] at hval
  have w0 : ∀ n ∈ d0.weights Tryz.prog 81, n ≤ reachBytes := fun n hn => by simpa using List.all_eq_true.1 hre n (DataW.weights_mem_each (j := 0) rfl rfl n hn)
  obtain ⟨A0, c0, l0, rfl, hc0, r0, hx0⟩ := open_sas (hval 0 _ v0 rfl rfl) h0 w0
  obtain ⟨x1, rfl, rfl, rfl, wx1⟩ := open_int Tryz.underlying5 (hval 1 _ v1 rfl rfl) h1
  have hx1 : 0 ≤ x1 ∧ x1 < 256 := by simp [Lit.wf, IntKind.min, IntKind.max, IntKind.signed, IntKind.bits] at wx1; omega
  obtain ⟨n1, rfl⟩ : ∃ n1 : Nat, x1 = (n1 : Int) := ⟨x1.toNat, by omega⟩
  obtain ⟨b2, rfl⟩ := okWide_bool Tryz.underlying4 (hval 2 _ v2 rfl rfl)
  obtain ⟨b3, rfl⟩ := okWide_bool Tryz.underlying4 (hval 3 _ v3 rfl rfl)
  obtain ⟨b4, rfl⟩ := okWide_bool Tryz.underlying4 (hval 4 _ v4 rfl rfl)
  exact srvWrong_any A0 c0 l0 n1 b2 b3 b4 W trivial r0 hc0 hx0 (by omega)

theorem srvWrong_holds : Rows.SrvWrongSaid :=
  OpenClaim.holds_of_wide 11 Tryz.f11 rfl rfl rfl rfl rfl rfl rfl ⟨rfl, rfl, rfl, rfl, rfl⟩ rfl rfl rfl rfl rfl (by kernel_rfl) Tryz.func11 (by kernel_rfl)
    (of_decide_eq_true (by kernel_rfl)) (by unfold Func.isWrapper; first | (rw [if_pos (by decide +kernel)]; kernel_rfl) | (rw [if_neg (by decide +kernel)]; exact ⟨rfl, rfl⟩))
    (fun os started H enc _ => srvWrong_lifted os started H enc)

theorem srvWrong_card : Rows.SrvWrongCardSaid :=
  Claim7.holds_tied_plain_at .later [] [.data, .data, .data] true (true, "62a6199dd28d2a080bed368305dcb87b9b8d93dca5598cd0c61d1c0b6c630e34") false
    srvWrong_holds (fun _ h => by cases h) (by kernel_rfl) (fun _ h => by cases h) srvWrong_row_tie rfl ⟨rfl, rfl⟩ (by kernel_rfl) rfl
    (fun f fn hf hfn => by
      obtain rfl : f = 11 := Option.some.inj ((show Tryz.prog.funcNamed "gauger/gaugerlaw18.SrvWrong" = some 11 by kernel_rfl).symm.trans hf) |>.symm
      obtain rfl : fn = Tryz.f11 := (Option.some.inj (Tryz.func11.symm.trans hfn)).symm
      exact ⟨by kernel_rfl, fun j t ht => by
        rw [Tryz.params11] at ht
        have ht2 : t ∈ ([81, 5, 4, 4, 4] : List TypeId) := by simpa using Array.mem_of_getElem? ht
        have hall : ([81, 5, 4, 4, 4] : List TypeId).all (fun t => Tryz.prog.wantsStandIn t == false) = true := by kernel_rfl
        exact beq_iff_eq.1 (List.all_eq_true.1 hall t ht2)⟩)
    (by kernel_rfl)
end Go.Proofs.YtlipmlbijddopaaGreatDoor
