/-
  SrvSame; LSSame
-/
import Derived.Test.YtlipmlbijddopaaGreatDoorZ29
import Derived.Test.YtlipmlbijddopaaGreatDoorZ03
import Derived.Test.YtlipmlbijddopaaGreatDoorTie
import Derived.Test.YtlipmlbijddopaaGreatDoorCards
set_option linter.unusedVariables false
set_option linter.unusedSimpArgs false
namespace Go.Proofs.YtlipmlbijddopaaGreatDoor
open Go.RowKit
namespace Sv
theorem sa_cells {w : World} {B : Nat} {A : Option Addr} {n : Nat} {l : List Sa} (h : Rd w B A (n * 6) (scs l)) (hl : l.length = n) (hn : 0 < n) : ∃ b o, A = some ⟨b, o, none⟩ ∧ b < B ∧ ∀ i (hi : i < l.length),
    (w.cell? ⟨b, o + i * 6, none⟩ = some (.int .u8 (l[i].host : Int)) ∧ w.cell? ⟨b, o + i * 6 + 1, none⟩ = some (.int .u8 (l[i].pr : Int)) ∧ w.cell? ⟨b, o + i * 6 + 2, none⟩ = some (.int .u8 (l[i].we : Int)) ∧ w.cell? ⟨b, o + i * 6 + 3, none⟩ = some (.int .u16 (l[i].po : Int)) ∧ w.cell? ⟨b, o + i * 6 + 4, none⟩ = some (.int .u32 (l[i].ttl : Int)) ∧ w.cell? ⟨b, o + i * 6 + 5, none⟩ = some (.int .u8 (l[i].ot : Int))) := by
  obtain ⟨b, o, e, hb, hc⟩ := h.2 (by omega)
  refine ⟨b, o, e, hb, fun i hi => ?_⟩
  have k : ∀ j u, j < 6 → l[i].cells[j]? = some u → w.cell? ⟨b, o + (i * 6 + j), none⟩ = some u := fun j u hj hu => hc _ u ((scs_get l i j hi hj).trans hu)
  exact ⟨k 0 _ (by omega) rfl, k 1 _ (by omega) rfl, k 2 _ (by omega) rfl, k 3 _ (by omega) rfl, k 4 _ (by omega) rfl, k 5 _ (by omega) rfl⟩
theorem scells_one (x : Sa) : ∀ u ∈ x.cells, u.oneCell' = true := by
  intro u hu
  simp [Sa.cells] at hu
  rcases hu with rfl | rfl | rfl | rfl | rfl | rfl <;> rfl
theorem scs_snoc (l : List Sa) (x : Sa) : scs (l ++ [x]) = scs l ++ x.cells := by simp [scs]
theorem scs_length (l : List Sa) : (scs l).length = l.length * 6 := by
  induction l with
  | nil => rfl
  | cons a l ih => rw [scs, List.flatMap_cons, List.length_append, Sa.cells_length, List.length_cons, ← scs, ih]; omega
theorem Tryz.infoSa : (Tryz.prog.info? 85).map (fun i => (i.zero, i.size, i.bytes)) = some (some (.agg zS.cells.toArray), 6, 16) := by kernel_rfl
/-- a literal of one answer -/
theorem srcSa (w : World) (x : Sa) : Src Tryz.prog 6 81 (.slice (some ⟨w.heap.size, 0, none⟩) 1 1) 1 x.cells (w.alloc (.cells x.cells.toArray 85)) :=
  srcA Tryz.underlying81 85 6 _ 1 rfl (scells_one x) (by simp)
theorem rd_take {w : World} {B : Nat} {A : Option Addr} {n : Nat} {l : List Sa} (h : Rd w B A (n * 6) (scs l)) (hl : l.length = n) {k : Nat} (hk : k ≤ n) : Rd w B A (k * 6) (scs (l.take k)) := by
  refine ⟨by rw [scs_length, List.length_take, hl, Nat.min_eq_left hk], fun h0 => ?_⟩
  obtain ⟨b, o, rfl, hb, hc⟩ := h.2 (by omega)
  refine ⟨b, o, rfl, hb, fun j u hu => hc j u ?_⟩
  have e : scs l = scs (l.take k) ++ scs (l.drop k) := by unfold scs; rw [← List.flatMap_append, List.take_append_drop]
  rw [e, List.getElem?_append_left]
  · exact hu
  · rcases Nat.lt_or_ge j (scs (l.take k)).length with h1 | h1
    · exact h1
    · rw [List.getElem?_eq_none h1] at hu; cases hu
end Sv
set_option maxRecDepth 100000 in
set_option maxHeartbeats 4000000 in
theorem srvSame_any (A0 : Option Addr) (c0 : Nat) (l0 : List Sv.Sa) (by_ : Nat) (A1 : Option Addr) (c1 : Nat) (os : List Sv.Sa) (w : World) (_ : True) (h : Rd w w.heap.size A0 (l0.length * 6) (Sv.scs l0)) (hc : l0.length ≤ c0) (hx : ∀ s ∈ l0, Sv.okS s) (hby : by_ < 256) (h1 : Rd w w.heap.size A1 (os.length * 6) (Sv.scs os)) (hc1 : os.length ≤ c1) (hx1 : ∀ s ∈ os, Sv.okS s) :
    Calls Tryz.prog 10 #[.slice A0 l0.length c0, .int .u8 (by_ : Int), .slice A1 os.length c1] w fun e w' => e = .returned (.bool true) ∧ Below w.heap.size w w' := by
  obtain ⟨j0, hj', hy0, hy1, hy2⟩ := info_parts Sv.Tryz.infoSa
  obtain ⟨n0, hn0⟩ : ∃ n, n = l0.length := ⟨_, rfl⟩
  obtain ⟨m, hm⟩ : ∃ m, m = os.length := ⟨_, rfl⟩
  rw [← hn0] at h hc ⊢
  rw [← hm] at h1 hc1 ⊢
  obtain ⟨n, hn⟩ : ∃ n, n = min n0 10 := ⟨_, rfl⟩
  have hmin : min (n0 : Int) 10 = (n : Int) := by omega
  have hnn : n ≤ n0 := by omega
  have hn10 : n ≤ 10 := by omega
  have hr := Sv.rd_take h hn0.symm hnn
  have hx' : ∀ s ∈ l0.take n, Sv.okS s := fun s hs => hx s (List.mem_of_mem_take hs)
  have hll : (l0.take n).length = n := by rw [List.length_take]; omega
  obtain ⟨l, hl⟩ : ∃ l, l = l0.take n := ⟨_, rfl⟩
  rw [← hl] at hr hx' hll
  have ksl : ∀ W, (Instr.slice 81 (.slice A0 n0 c0) none (some (.int .i64 (n : Int))) none).run Tryz.prog W = .ok (.slice A0 n c0) W := fun W => Sv.run_slS_h W _ 85 6 Tryz.underlying81 Sv.szSa A0 n0 c0 n (by omega)
  have hn0c : n ≤ c0 := by omega
  obtain ⟨T, hT⟩ : ∃ T, T = Sv.turnK l os by_ n := ⟨_, rfl⟩
  have hTx : ∀ s ∈ T, Sv.okS s := by rw [hT]; exact Sv.turn_ok by_ hx' hx1 n
  obtain ⟨G, hG⟩ : ∃ G, G = Srv.onceA (Srv.sortA (Sv.outM l)) := ⟨_, rfl⟩
  obtain ⟨Q, hQ⟩ : ∃ Q, Q = formM (Srv.askM 7 Sv.svc) := ⟨_, rfl⟩
  obtain ⟨R1, hR1⟩ : ∃ R, R = formM (Sv.ansM 7 l) := ⟨_, rfl⟩
  obtain ⟨R2, hR2⟩ : ∃ R, R = formM (Sv.ansM 7 T) := ⟨_, rfl⟩
  have hT1 : Srv.takeN Q R1 = (G, 0) := by rw [hQ, hR1, hG]; exact Sv.take_ans (by omega) hx'
  have hT2 : Srv.takeN Q R2 = (G, 0) := by
    have e : Srv.sortA (Sv.outM T) = Srv.sortA (Sv.outM l) := by rw [hT, ← hll]; exact Sv.turn_same l os by_ (by omega)
    rw [hQ, hR2, hG, ← e]; exact Sv.take_ans (by omega) hTx
  obtain ⟨LQ, hLQ⟩ : ∃ L, L = Q.length := ⟨_, rfl⟩
  obtain ⟨L1, hL1⟩ : ∃ L, L = R1.length := ⟨_, rfl⟩
  obtain ⟨L2, hL2⟩ : ∃ L, L = R2.length := ⟨_, rfl⟩
  have hf1 := Sv.ansM_fine (id := 7) (by omega) hx'
  have hf2 := Sv.ansM_fine (id := 7) (by omega) hTx
  have hQl : LQ ≤ 4096 := by rw [hLQ, hQ]; exact (ask_fine (by omega) Sv.svc_right).len
  have hR1l : L1 ≤ 4096 := by rw [hL1, hR1]; exact hf1.len
  have hR2l : L2 ≤ 4096 := by rw [hL2, hR2]; exact hf2.len
  have KA := Lib.hid (fun (W : World) (hW : Rd W W.heap.size A0 (n * 6) (Sv.scs l)) => Sv.answer_any 7 n A0 c0 l W (by omega) hW hll hn0c hx')
  have KA2 := Lib.hid (fun (W : World) (N : Nat) (A : Option Addr) (c : Nat) (hW : Rd W W.heap.size A (N * 6) (Sv.scs T)) (hN : T.length = N) (hc : N ≤ c) => Sv.answer_any 7 N A c T W (by omega) hW hN hc hTx)
  have KQ := Lib.hid (fun (W : World) => Sv.ask_query 7 Q LQ W (by omega) hQ hLQ)
  have KW := Lib.hid (fun (x : MR) (W0 W : World) (b : Nat) (h1 : x.m = Sv.ansM 7 l) (h2 : MOw W0 b x) (h3 : Below W0.heap.size W0 W) => Sv.fine_write x (Sv.ansM 7 l) R1 L1 W0 W b h1 hf1 hR1 hL1 h2 h3)
  have KW2 := Lib.hid (fun (x : MR) (W0 W : World) (b : Nat) (h1 : x.m = Sv.ansM 7 T) (h2 : MOw W0 b x) (h3 : Below W0.heap.size W0 W) => Sv.fine_write x (Sv.ansM 7 T) R2 L2 W0 W b h1 hf2 hR2 hL2 h2 h3)
  have KT := Lib.hid (fun (A1 A2 : Option Addr) (c1 c2 : Nat) (W : World) h1 h2 (h3 : LQ ≤ c1) (h4 : L1 ≤ c2) => Sv.take_got A1 A2 c1 c2 LQ L1 Q R1 G 0 W hT1 hLQ hL1 h1 h2 h3 h4 (by omega) (by omega))
  have KT2 := Lib.hid (fun (A1 A2 : Option Addr) (c1 c2 : Nat) (W : World) h1 h2 (h3 : LQ ≤ c1) (h4 : L2 ≤ c2) => Sv.take_got A1 A2 c1 c2 LQ L2 Q R2 G 0 W hT2 hLQ hL2 h1 h2 h3 h4 (by omega) (by omega))
  obtain ⟨g, hg⟩ : ∃ g, g = G.length := ⟨_, rfl⟩
  rw [← hg] at KT KT2
  have HL := Lib.hid hll
  have HM := Lib.hid hm.symm
  have HR := Lib.hid hr
  have HR1 := Lib.hid h1
  have HX := Lib.hid hx'
  have HX1 := Lib.hid hx1
  have HT := Lib.hid hT
  have HAW := Lib.hid (sawake_any w)
  clear hn h h1 hx hx' hx1 hc hn0 hm hr hll hl hT hTx hG hQ hR1 hR2 hT1 hT2 hLQ hL1 hL2 hf1 hf2 hg hc1
  go_enter Tryz.func10, Tryz.ntmps10
  go_wp2_with (first
    | (go_at_call 36
       refine (KW.out ⟨idX, flX, qAX, qcX, qsX, aAX, acX, raX, bAX, bdX, rbX, cAX, ccX, rcX⟩ w3 (w3.alloc (.cells #[.int .u16 (idX : Int), .int .u16 (flX : Int), .slice qAX qsX.length qcX, .slice aAX raX.length acX, .slice bAX rbX.length bdX, .slice cAX rcX.length ccX] 72)) w2.heap.size HXM.out HXO.out (bl_new w3 _)).mono ?_
       rintro e w4 ⟨A4, c4, rfl, hc4, hr4, hb4⟩
       have hb34 : Below w3.heap.size w3 w4 := (bl_new w3 _).trans (hb4.mono (bl_new w3 _).size)
       have HR4 := Lib.hid hr4
       have HR2 := Lib.hid (HR23.out.goes hb34)
       have HB4 := Lib.hid (HB3.out.trans (hb34.mono HB3.out.size))
       clear hb4 hr4 hb34)
    | (go_at_call 37
       refine (KA.out w2 (HR.out.goes HB2.out)).mono ?_
       rintro e w3 ⟨x, Ao, co, rfl, hxm, hxo, _, hb3⟩
       have HXM := Lib.hid hxm
       have HXO := Lib.hid hxo
       have HR23 := Lib.hid (HR22.out.goes hb3)
       have HB3 := Lib.hid (HB2.out.trans (hb3.mono HB2.out.size))
       clear hxm hxo hb3
       obtain ⟨idX, flX, qAX, qcX, qsX, aAX, acX, raX, bAX, bdX, rbX, cAX, ccX, rcX⟩ := x
       unfold MR.cells
       dsimp only)
    | (go_at_call 32
       refine (KQ.out w1).mono ?_
       rintro e w2 ⟨A2, c2, rfl, hc2, hr2, hb2⟩
       have HR22 := Lib.hid hr2
       have HB2 := Lib.hid (HB1.out.trans (hb2.mono HB1.out.size))
       clear hr2 hb2)
    | (go_at_call 14
       refine HAW.out.mono ?_
       rintro e w1 ⟨rfl, hb1⟩
       have HB1 := Lib.hid hb1
       clear hb1))
  clear hmin ksl
  go_loopw [13, 47] (fun v13 vk wr => ∃ (k N : Nat) (A3 : Option Addr) (c3 : Nat), k ≤ n ∧ N ≤ 2 * k ∧ v13 = .slice A3 N c3 ∧ vk = .int .i64 k ∧ Hid ((Sv.turnK l os by_ k).length = N) ∧ Hid (OwM wr w4.heap.size 85 6 (.slice A3 N c3) N (Sv.scs (Sv.turnK l os by_ k))) ∧ Hid (Below w4.heap.size w4 wr)) (fun _ vk _ => n - (intOf vk).toNat)
  case atStart => exact ⟨0, 0, none, 0, Nat.zero_le _, by omega, rfl, rfl, Lib.hid rfl, Lib.hid (OwM.nil _ _ _ _), Lib.hid (Below.refl _ _)⟩
  case round =>
    obtain ⟨k, N, A3, c3, hk, hN, rfl, rfl, HN, HO, HB⟩ := hrel
    by_cases hlt : k < n
    · have hnz : ¬ (n : Int) = 0 := by omega
      obtain ⟨i, hi⟩ : ∃ i, i = (k + by_) % n := ⟨_, rfl⟩
      have hil : i < n := by rw [hi]; exact Nat.mod_lt _ (by omega)
      have hm1 : ((k : Int) + (by_ : Int)) % (n : Int) = (i : Int) := by rw [hi, Int.natCast_emod, Int.natCast_add]
      have hm2 : ((k : Int) + (by_ : Int)).tmod (n : Int) = (i : Int) := by rw [Int.tmod_eq_emod_of_nonneg (by omega)]; exact hm1
      have hBw := HB4.out.trans (HB.out.mono HB4.out.size)
      obtain ⟨b, o, hAe, hb, hcs⟩ := Sv.sa_cells (HR.out.below hBw) HL.out (by omega)
      subst hAe
      have hil2 : i < l.length := by rw [HL.out]; exact hil
      obtain ⟨e0, e1, e2, e3, e4, e5⟩ := hcs i hil2
      have hge : l.getD ((k + by_) % l.length) Sv.zS = l[i] := by
        rw [HL.out, ← hi, List.getD_eq_getElem?_getD, List.getElem?_eq_getElem hil2]; rfl
      obtain ⟨x, hxe⟩ : ∃ x, x = l[i] := ⟨_, rfl⟩
      rw [← hxe] at e0 e1 e2 e3 e4 e5 hge
      have HGE := Lib.hid hge
      obtain ⟨ho, pr, we, po, ttl, ot⟩ := x
      dsimp only at e0 e1 e2 e3 e4 e5
      clear hge hxe hcs hi hBw
      by_cases hmz : m = 0
      · have hgt : ¬ (0 : Int) < (m : Int) := by omega
        have HMZ := Lib.hid hmz
        clear hmz
        go_wp2_with (at_builtin
                     refine wpList_appM _ rfl _ _ _ _ rfl w4.heap.size 6 85 j0 (.agg Sv.zS.cells.toArray) 16 Tryz.underlying81 hj' hy0 hy1 hy2 rfl (by omega) (.slice A3 N c3) N (Sv.scs (Sv.turnK l os by_ k)) (HO.out.alloc _) rfl 1 (Sv.Sa.cells ⟨ho, pr, we, po, ttl, ot⟩) (Sv.srcSa _ ⟨ho, pr, we, po, ttl, ot⟩) (by omega) (by have := HB.out.size; simp; omega) ?_
                     intro v5 w5 ho5 hg5 hz5
                     obtain ⟨A5, c5, rfl, _, _, _⟩ := ho5.form
                     have HO5 := Lib.hid ho5
                     have HB5 := Lib.hid ((HB.out.alloc HB.out.size _).trans (hg5.below (OwM.lt HO.out) (by have := HB.out.size; simp; omega)))
                     clear ho5 hg5)
        go_roundw
        case rel =>
          have hs : Sv.turnK l os by_ (k + 1) = Sv.turnK l os by_ k ++ [⟨ho, pr, we, po, ttl, ot⟩] := by
            rw [Sv.turnK_succ]
            unfold Sv.oneT
            rw [HGE.out, if_pos (by rw [HM.out, HMZ.out])]
          exact ⟨k + 1, N + 1, A5, c5, by omega, by omega, rfl, by go_num, Lib.hid (by rw [hs, List.length_append, HN.out]; rfl), Lib.hid (by rw [hs, Sv.scs_snoc]; exact HO5.out), HB5⟩
        case measure => simp [intOf]; omega
      · have hgt : (0 : Int) < (m : Int) := by omega
        have hmz2 : ¬ (m : Int) = 0 := by omega
        have hm0 : 0 < m := by omega
        obtain ⟨i2, hi2⟩ : ∃ i, i = k % m := ⟨_, rfl⟩
        have hil3 : i2 < m := by rw [hi2]; exact Nat.mod_lt _ hm0
        have hm3 : (k : Int) % (m : Int) = (i2 : Int) := by rw [hi2, Int.natCast_emod]
        have hm4 : (k : Int).tmod (m : Int) = (i2 : Int) := by rw [Int.tmod_eq_emod_of_nonneg (by omega)]; exact hm3
        have HI2 := Lib.hid hi2
        clear hi2 hmz
        obtain ⟨b2, o2, hAe2, hb2, hcs2⟩ := Sv.sa_cells (HR1.out.below (HB4.out.trans (HB.out.mono HB4.out.size))) HM.out hm0
        subst hAe2
        have hil4 : i2 < os.length := by rw [HM.out]; exact hil3
        obtain ⟨f0', f1', f2', f3', f4', f5'⟩ := hcs2 i2 hil4
        have hge2 : os.getD (k % os.length) Sv.zS = os[i2] := by
          rw [HM.out, ← HI2.out, List.getD_eq_getElem?_getD, List.getElem?_eq_getElem hil4]; rfl
        obtain ⟨y, hye⟩ : ∃ y, y = os[i2] := ⟨_, rfl⟩
        rw [← hye] at f0' f1' f2' f3' f4' f5' hge2
        have HGE2 := Lib.hid hge2
        obtain ⟨yho, ypr, ywe, ypo, yttl, yot⟩ := y
        dsimp only at f0' f1' f2' f3' f4' f5'
        have F0 := Lib.hid f0'
        have F1 := Lib.hid f1'
        have F2 := Lib.hid f2'
        have F3 := Lib.hid f3'
        have F4 := Lib.hid f4'
        have F5 := Lib.hid f5'
        have hb24 : b2 < w4.heap.size := Nat.lt_of_lt_of_le hb2 HB4.out.size
        clear hge2 hye hcs2 f0' f1' f2' f3' f4' f5'
        obtain ⟨r3, hr3⟩ : ∃ r, r = yot % 3 := ⟨_, rfl⟩
        have hr3l : r3 < 3 := by omega
        have hq1 : (yot : Int) % 3 = (r3 : Int) := by omega
        have hq2 : (yot : Int).tmod 3 = (r3 : Int) := by rw [Int.tmod_eq_emod_of_nonneg (by omega)]; exact hq1
        obtain ⟨t3, ht3⟩ : ∃ t, t = 1 + r3 := ⟨_, rfl⟩
        have ht3l : t3 ≤ 3 := by omega
        have hq3 : (1 : Int) + (r3 : Int) = (t3 : Int) := by omega
        have HT3 := Lib.hid (show t3 = 1 + yot % 3 by omega)
        clear hr3 ht3
        go_wp2_with (first
                  | (at_builtin
                     refine wpList_appM _ rfl _ _ _ _ rfl w4.heap.size 6 85 j0 (.agg Sv.zS.cells.toArray) 16 Tryz.underlying81 hj' hy0 hy1 hy2 rfl (by omega) (.slice A5 (N + 1) c5) (N + 1) (Sv.scs (Sv.turnK l os by_ k) ++ Sv.Sa.cells ⟨ho, pr, we, po, ttl, ot⟩) ((HO5.out.alloc _).alloc _) rfl 1 (Sv.Sa.cells ⟨yho, ypr, ywe, ypo, yttl, t3⟩) (by
                       have k := Sv.srcSa (w5.alloc (.cells #[.int .u8 (yho : Int), .int .u8 (ypr : Int), .int .u8 (ywe : Int), .int .u16 (ypo : Int), .int .u32 (yttl : Int), .int .u8 (t3 : Int)] 85)) ⟨yho, ypr, ywe, ypo, yttl, t3⟩
                       rw [show (w5.alloc (.cells #[.int .u8 (yho : Int), .int .u8 (ypr : Int), .int .u8 (ywe : Int), .int .u16 (ypo : Int), .int .u32 (yttl : Int), .int .u8 (t3 : Int)] 85)).heap.size = w5.heap.size + 1 from by simp] at k
                       exact k) (by omega) (by have := HB5.out.size; simp; omega) ?_
                     intro v7 w7 ho7 hg7 hz7
                     obtain ⟨A7, c7, rfl, _, _, _⟩ := ho7.form
                     have HO7 := Lib.hid ho7
                     have HB7 := Lib.hid (((HB5.out.alloc HB5.out.size _).alloc (by have := HB5.out.size; simp; omega) _).trans (hg7.below (OwM.lt HO5.out) (by have := HB5.out.size; simp; omega)))
                     clear ho7 hg7)
                  | (at_builtin
                     refine wpList_appM _ rfl _ _ _ _ rfl w4.heap.size 6 85 j0 (.agg Sv.zS.cells.toArray) 16 Tryz.underlying81 hj' hy0 hy1 hy2 rfl (by omega) (.slice A3 N c3) N (Sv.scs (Sv.turnK l os by_ k)) (HO.out.alloc _) rfl 1 (Sv.Sa.cells ⟨ho, pr, we, po, ttl, ot⟩) (Sv.srcSa _ ⟨ho, pr, we, po, ttl, ot⟩) (by omega) (by have := HB.out.size; simp; omega) ?_
                     intro v5 w5 ho5 hg5 hz5
                     obtain ⟨A5, c5, rfl, _, _, _⟩ := ho5.form
                     have HO5 := Lib.hid ho5
                     have hb5 : Below w4.heap.size wr w5 := ((Below.refl _ wr).alloc HB.out.size _).trans (hg5.below (OwM.lt HO.out) (by have := HB.out.size; simp; omega))
                     have HB5 := Lib.hid (HB.out.trans hb5)
                     have f0 := (hb5.cell (p := ⟨b2, o2 + i2 * 6, none⟩) hb24).trans F0.out
                     have f1 := (hb5.cell (p := ⟨b2, o2 + i2 * 6 + 1, none⟩) hb24).trans F1.out
                     have f2 := (hb5.cell (p := ⟨b2, o2 + i2 * 6 + 2, none⟩) hb24).trans F2.out
                     have f3 := (hb5.cell (p := ⟨b2, o2 + i2 * 6 + 3, none⟩) hb24).trans F3.out
                     have f4 := (hb5.cell (p := ⟨b2, o2 + i2 * 6 + 4, none⟩) hb24).trans F4.out
                     have f5 := (hb5.cell (p := ⟨b2, o2 + i2 * 6 + 5, none⟩) hb24).trans F5.out
                     clear ho5 hg5 hb5))
        go_roundw
        case rel =>
          have hs : Sv.turnK l os by_ (k + 1) = (Sv.turnK l os by_ k ++ [⟨ho, pr, we, po, ttl, ot⟩]) ++ [⟨yho, ypr, ywe, ypo, yttl, t3⟩] := by
            rw [Sv.turnK_succ]
            unfold Sv.oneT
            rw [HGE.out, if_neg (by rw [HM.out]; omega), HGE2.out]
            unfold Sv.othS
            dsimp only
            rw [← HT3.out]
            simp
          exact ⟨k + 1, N + 1 + 1, A7, c7, by omega, by omega, rfl, by go_num, Lib.hid (by rw [hs, List.length_append, List.length_append, HN.out]; rfl), Lib.hid (by rw [hs, Sv.scs_snoc, Sv.scs_snoc]; exact HO7.out), HB7⟩
        case measure => simp [intOf]; omega
    · obtain rfl : k = n := by omega
      have hTT := HT.out
      have HTN := Lib.hid (show T.length = N by rw [hTT]; exact HN.out)
      have hoT : OwM wr w4.heap.size 85 6 (.slice A3 N c3) N (Sv.scs T) := by rw [hTT]; exact HO.out
      obtain ⟨A3', c3', e3, hc3, _, hrT⟩ := hoT.form
      cases e3
      have HRT := Lib.hid hrT
      have HRQ := Lib.hid (HR2.out.goes HB.out)
      have HR4' := Lib.hid (HR4.out.goes HB.out)
      have HBR := Lib.hid (HB4.out.trans (HB.out.mono HB4.out.size))
      clear hTT hoT hrT
      go_wp2_with (first
        | (go_at_call 27
           refine (aeq_at A8 A9 c8 c9 g G w9 w9.heap.size (HG8.out.goes HB89.out) HG9.out).mono ?_
           rintro e w10 ⟨rfl, q, hq⟩
           have HB10 := Lib.hid (show Below w9.heap.size w9 w10 by rw [hq]; exact bl_drewN (Below.refl _ _) q)
           clear hq)
        | (go_at_call 35
           refine (KT2.out A2 A7 c2 c7 w8 HRQ8.out HR78.out hc2 hc7).mono ?_
           rintro e w9 ⟨A9, c9, rfl, hg9, hgl9, hb9⟩
           have HG9 := Lib.hid hg9
           have HB89 := Lib.hid hb9
           have HB9 := Lib.hid (HB8.out.trans (hb9.mono HB8.out.size))
           clear hg9 hb9)
        | (go_at_call 35
           refine (KT.out A2 A4 c2 c4 w7 HRQ7.out HR47.out hc2 hc4).mono ?_
           rintro e w8 ⟨A8, c8, rfl, hg8, hgl8, hb8⟩
           have HG8 := Lib.hid hg8
           have HRQ8 := Lib.hid (HRQ7.out.goes hb8)
           have HR78 := Lib.hid (HR77.out.goes hb8)
           have HB8 := Lib.hid (HB7.out.trans (hb8.mono HB7.out.size))
           clear hg8 hb8)
        | (go_at_call 36
           refine (KW2.out ⟨jdX, glX, rAX, rcX2, rsX, dAX, dcX, sdX, eAX, ecX, seX, fAX, fcX, sfX⟩ w6 (w6.alloc (.cells #[.int .u16 (jdX : Int), .int .u16 (glX : Int), .slice rAX rsX.length rcX2, .slice dAX sdX.length dcX, .slice eAX seX.length ecX, .slice fAX sfX.length fcX] 72)) wr.heap.size HXM6.out HXO6.out (bl_new w6 _)).mono ?_
           rintro e w7 ⟨A7, c7, rfl, hc7, hr7, hb7⟩
           have hb67 : Below w6.heap.size w6 w7 := (bl_new w6 _).trans (hb7.mono (bl_new w6 _).size)
           have HR77 := Lib.hid hr7
           have HRQ7 := Lib.hid (HRQ6.out.goes hb67)
           have HR47 := Lib.hid (HR46.out.goes hb67)
           have HB7 := Lib.hid (HB6.out.trans (hb67.mono HB6.out.size))
           clear hb7 hr7 hb67)
        | (go_at_call 37
           refine (KA2.out wr N A3 c3 HRT.out HTN.out hc3).mono ?_
           rintro e w6 ⟨x, Ao6, co6, rfl, hxm, hxo, _, hb6⟩
           have HXM6 := Lib.hid hxm
           have HXO6 := Lib.hid hxo
           have HRQ6 := Lib.hid (HRQ.out.goes hb6)
           have HR46 := Lib.hid (HR4'.out.goes hb6)
           have HB6 := Lib.hid (HBR.out.trans (hb6.mono HBR.out.size))
           clear hxm hxo hb6
           obtain ⟨jdX, glX, rAX, rcX2, rsX, dAX, dcX, sdX, eAX, ecX, seX, fAX, fcX, sfX⟩ := x
           unfold MR.cells
           dsimp only))
      go_ret
      exact ⟨rfl, HB9.out.trans (HB10.out.mono HB9.out.size)⟩
end Go.Proofs.YtlipmlbijddopaaGreatDoor
set_option linter.unusedVariables false
namespace Go.Proofs.YtlipmlbijddopaaGreatDoor
open Go.ChangeShapes Go.WideShapes Go.ChangeAt Go.RowKit
set_option maxRecDepth 100000 in
theorem srvSame_lifted (os : Os) (started : os.Started) (H : Type) (enc : TypeId × Value → H) :
    ReturnsInHanded {} Tryz.checked os 10 .any (fun w args => (Rows.srvSameSpec.pre enc Tryz.checked.prog Tryz.f10 [] false w args ∧ laidMetH Tryz.checked.prog Rows.srvSameRow.laid w) ∧ sizedMet enc Tryz.checked.prog Tryz.f10 (OpenSpec.ofChange Rows.srvSameSpec) false w args) (Rows.srvSameSpec.post enc Tryz.checked.prog Tryz.f10 false true false false) := by
  refine law_lifted_laid (C := Tryz.checked) (P := Tryz.prog) rfl Tryz.own Tryz.laidOut Tryz.underlying4 started Tryz.func10 rfl (by kernel_rfl) rfl [81, 5, 81] (by rw [Tryz.params10])
    (fun ds h => by
      match ds, h with
      | [d0, d1, d2], _ => rfl) (by kernel_rfl) Rows.srvSameRow.laid (by kernel_rfl)
    (ChangeSpec.witness_shaped (enc := enc) (C := Tryz.checked) (os := os) (X := fun w _ => laidMetH Tryz.prog Rows.srvSameRow.laid w) false (World.laidAll Tryz.prog os Rows.srvSameRow.laid) #[.slice none 0 0, .int .u8 0, .slice none 0 0] 8 (World.laidAll_os _ _ _) (World.shaped_of_ZipB (by kernel_rfl) (by kernel_rfl)) (by kernel_rfl) (by kernel_rfl) (by kernel_rfl)
      (by rw [MakeChecks.laidMetH_plain _ _ _ (by kernel_rfl)]; exact laidMet_laidAll _ (by kernel_rfl) (by kernel_rfl))) ?_
  intro W base args ds p hval hA hL hS
  obtain ⟨v0, v1, v2, d0, d1, d2, p0, p1, p2, rfl, rfl, rfl, h0, h1, h2⟩ := trodAll_three hA.trod
  have hre := hA.reach
  rw [Tryz.params10] at hval
  have w0 : ∀ n ∈ d0.weights Tryz.prog 81, n ≤ reachBytes := fun n hn => by simpa using List.all_eq_true.1 hre n (DataW.weights_mem_each (j := 0) rfl rfl n hn)
  obtain ⟨A0, c0, l0, rfl, hc0, r0, hx0⟩ := open_sas (hval 0 _ v0 rfl rfl) h0 w0
  obtain ⟨x1, rfl, rfl, rfl, wx1⟩ := open_int Tryz.underlying5 (hval 1 _ v1 rfl rfl) h1
  have hx1 : 0 ≤ x1 ∧ x1 < 256 := by simp [Lit.wf, IntKind.min, IntKind.max, IntKind.signed, IntKind.bits] at wx1; omega
  obtain ⟨n1, rfl⟩ : ∃ n1 : Nat, x1 = (n1 : Int) := ⟨x1.toNat, by omega⟩
  have w2 : ∀ n ∈ d2.weights Tryz.prog 81, n ≤ reachBytes := fun n hn => by simpa using List.all_eq_true.1 hre n (DataW.weights_mem_each (j := 2) rfl rfl n hn)
  obtain ⟨A2, c2, l2, rfl, hc2, r2, hx2⟩ := open_sas (hval 2 _ v2 rfl rfl) h2 w2
  exact srvSame_any A0 c0 l0 n1 A2 c2 l2 W trivial r0 hc0 hx0 (by omega) r2 hc2 hx2

theorem srvSame_holds : Rows.SrvSameSaid :=
  OpenClaim.holds_of_wide 10 Tryz.f10 rfl rfl rfl rfl rfl rfl rfl ⟨rfl, rfl, rfl, rfl, rfl⟩ rfl rfl rfl rfl rfl (by kernel_rfl) Tryz.func10 (by kernel_rfl)
    (of_decide_eq_true (by kernel_rfl)) (by unfold Func.isWrapper; first | (rw [if_pos (by decide +kernel)]; kernel_rfl) | (rw [if_neg (by decide +kernel)]; exact ⟨rfl, rfl⟩))
    (fun os started H enc _ => srvSame_lifted os started H enc)

theorem srvSame_card : Rows.SrvSameCardSaid :=
  Claim7.holds_tied_plain_at .later [] [.data, .data, .data] true (true, "62a6199dd28d2a080bed368305dcb87b9b8d93dca5598cd0c61d1c0b6c630e34") false
    srvSame_holds (fun _ h => by cases h) (by kernel_rfl) (fun _ h => by cases h) srvSame_row_tie rfl ⟨rfl, rfl⟩ (by kernel_rfl) rfl
    (fun f fn hf hfn => by
      obtain rfl : f = 10 := Option.some.inj ((show Tryz.prog.funcNamed "gauger/gaugerlaw18.SrvSame" = some 10 by kernel_rfl).symm.trans hf) |>.symm
      obtain rfl : fn = Tryz.f10 := (Option.some.inj (Tryz.func10.symm.trans hfn)).symm
      exact ⟨by kernel_rfl, fun j t ht => by
        rw [Tryz.params10] at ht
        have ht2 : t ∈ ([81, 5, 81] : List TypeId) := by simpa using Array.mem_of_getElem? ht
        have hall : ([81, 5, 81] : List TypeId).all (fun t => Tryz.prog.wantsStandIn t == false) = true := by kernel_rfl
        exact beq_iff_eq.1 (List.all_eq_true.1 hall t ht2)⟩)
    (by kernel_rfl)
end Go.Proofs.YtlipmlbijddopaaGreatDoor
