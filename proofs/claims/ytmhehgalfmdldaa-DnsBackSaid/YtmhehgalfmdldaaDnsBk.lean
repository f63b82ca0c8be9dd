/-
  DnsBack: the form of a message is read as this message; different messages have different forms; a byte less or more is not read.
-/
import Derived.Test.YtmhehgalfmdldaaDnsOp
import Derived.Test.YtmhehgalfmdldaaDnsRt
set_option linter.unusedVariables false
set_option linter.unusedSimpArgs false
namespace Go.Proofs.Ytmhehgalfmdldaa
open Go.RowKit
theorem okS_map {w : World} {B : Nat} {l : List SmR} (h : ∀ x ∈ l, SRd w B x) : ∀ s ∈ l.map SmR.s, okS s := by
  intro s hs
  obtain ⟨x, hx, rfl⟩ := List.mem_map.1 hs
  exact (h x hx).2.2.2
theorem run_sl_hm {P : Program} (W : World) (t e : TypeId) (s : Nat) (ht : P.underlying t = some (.slice e)) (hz : ∀ w, (Go.sizeOf e).run P w = .ok s w) (A : Option Addr) (n cap : Nat) (h : Nat) (h2 : h ≤ cap) : (Instr.slice t (.slice A n cap) none (some (.int .i64 (h : Int))) (some (.int .i64 (h : Int)))).run P W = .ok (.slice A h h) W := by
  have ht' : P.underlying t = some (.slice (P.elem t)) := by simp [Program.elem, ht]
  have he : P.elem t = e := by simp [Program.elem, ht]
  rw [run_slice_hm W t _ _ _ ht' .i64 .i64 _ _ (by omega) (by omega) (by omega), he, hz]
  have := cutA_zero A h
  unfold cutA at this
  simp [Result.andThen, sliced, this]
theorem made_mrd {w : World} {base : Nat} {x : MR} {id fl : Nat} {l : List Sm} (h : MOw w base x) (hx : x.m = madeM id fl l) (hi : id < 65536) (hf : fl < 65536) (hs : ∀ s ∈ l, okS s) : MRd w w.heap.size x := by
  obtain ⟨h1, h2, h3, _⟩ := madeM_all id fl l hi hf hs
  exact h.rd (by rw [hx]; exact h1) (by rw [hx]; exact h2) (by rw [hx]; omega)
theorem num_pos (m : Ms) (hr : rightM m = true) : 12 ≤ (formM m).length := by
  have := (head_pre hr).len
  rw [headB_length] at this
  exact this
theorem readE_atL (A : Option Addr) (c L : Nat) (b : List UInt8) (hL : b.length = L) (m : Ms) (er : Nat) (hm : readM b = (m, er)) (w : World) (h : Rd w w.heap.size A L (bc b)) (hc : L ≤ c) (hbl : L ≤ 140737488355328) :
    Calls Try.prog 14 #[.slice A L c] w fun e w' => ∃ x : MR, x.m = m ∧ e = .returned (.tuple #[.agg x.cells.toArray, .int .i64 (er : Int)]) ∧ MRd w' w'.heap.size x ∧ Below w.heap.size w w' := by
  subst hL
  exact readE_at A c b m er hm w h hc hbl
set_option maxRecDepth 100000 in
set_option maxHeartbeats 16000000 in
theorem dnsBack_any (id fl : Nat) (A1 : Option Addr) (c1 : Nat) (l1 : List SmR) (A2 : Option Addr) (c2 : Nat) (l2 : List SmR) (cut : Nat) (A3 : Option Addr) (c3 : Nat) (tl : List UInt8) (w : World) (hid : id < 65536) (hfl : fl < 65536)
    (h1 : Rd w w.heap.size A1 (l1.length * 9) (l1.flatMap SmR.cells)) (hc1 : l1.length ≤ c1) (hx1 : ∀ x ∈ l1, SRd w w.heap.size x)
    (h2 : Rd w w.heap.size A2 (l2.length * 9) (l2.flatMap SmR.cells)) (hc2 : l2.length ≤ c2) (hx2 : ∀ x ∈ l2, SRd w w.heap.size x) (hcut : cut < 65536)
    (h3 : Rd w w.heap.size A3 tl.length (bc tl)) (hc3 : tl.length ≤ c3) :
    Calls Try.prog 10 #[.int .u16 (id : Int), .int .u16 (fl : Int), .slice A1 l1.length c1, .slice A2 l2.length c2, .int .u16 (cut : Int), .slice A3 tl.length c3] w fun e w' => e = .returned (.bool true) ∧ Below w.heap.size w w' := by
  obtain ⟨i0, hi, hz0, hz1, hz2⟩ := info_parts Try.infoByte
  have ok1 := okS_map hx1
  have ok2 := okS_map hx2
  obtain ⟨mr1, mk1, mn1, ml1, mw1, mb1⟩ := madeM_all id fl (l1.map SmR.s) hid hfl ok1
  obtain ⟨mr2, mk2, mn2, ml2, mw2, mb2⟩ := madeM_all id fl (l2.map SmR.s) hid hfl ok2
  have MM1 := Lib.hid (fun (w' : World) (base : Nat) (x : MR) (h : MOw w' base x) (hx : x.m = madeM id fl (l1.map SmR.s)) => made_mrd h hx hid hfl ok1)
  have MM2 := Lib.hid (fun (w' : World) (base : Nat) (x : MR) (h : MOw w' base x) (hx : x.m = madeM id fl (l2.map SmR.s)) => made_mrd h hx hid hfl ok2)
  obtain ⟨M, hM⟩ : ∃ M, M = madeM id fl (l1.map SmR.s) := ⟨_, rfl⟩
  obtain ⟨O, hO⟩ : ∃ O, O = madeM id fl (l2.map SmR.s) := ⟨_, rfl⟩
  rw [← hM] at mr1 mk1 mn1 ml1 mw1 mb1 MM1
  rw [← hO] at mr2 mk2 mn2 ml2 mw2 mb2 MM2
  have hin := form_inj mr1 mr2 mk1 mk2 (by omega) (by omega) (by omega) (by omega)
  have h12 := num_pos M mr1
  obtain ⟨T, hT⟩ : ∃ T, T = tl.take 50 := ⟨_, rfl⟩
  have htl : T.length = min tl.length 50 := by rw [hT, List.length_take, Nat.min_comm]
  have hlast : readM (formM M ++ (T ++ [0])) = (zM, 173) := by
    rw [read_of mr1 mk1 (by omega) (Pre.app _ _) (by simp; omega), if_pos (by simp)]
  have hcutr := fun j (hj : j < (formM M).length) => read_cut mr1 mk1 (by omega) (by omega) j hj
  obtain ⟨F, hF⟩ : ∃ F, F = formM M := ⟨_, rfl⟩
  obtain ⟨G, hG⟩ : ∃ G, G = formM O := ⟨_, rfl⟩
  rw [← hF] at ml1 mw1 mb1 hin h12 hlast hcutr
  rw [← hG] at ml2 mw2 mb2 hin
  obtain ⟨j, hj⟩ : ∃ j, j = cut % F.length := ⟨_, rfl⟩
  have hjl : j < F.length := by rw [hj]; exact Nat.mod_lt _ (by omega)
  obtain ⟨Mj, hMj⟩ : ∃ Mj, Mj = (readM (F.take j)).1 := ⟨_, rfl⟩
  obtain ⟨ej, hej⟩ : ∃ ej, ej = (readM (F.take j)).2 := ⟨_, rfl⟩
  have hejn : ej ≠ 0 := by rw [hej]; exact hcutr j hjl
  have hRj : readM (F.take j) = (Mj, ej) := by rw [hMj, hej]
  obtain ⟨bq, hbq⟩ : ∃ bq, bq = sameM M O := ⟨_, rfl⟩
  have hdec : decide (F = G) = bq := by
    rw [hbq, Bool.eq_iff_iff, decide_eq_true_iff, sameM_iff]; exact hin
  have HIN := Lib.hid hdec
  have HBQ := Lib.hid hbq
  have HM := Lib.hid hM
  have HO := Lib.hid hO
  have HW1 := Lib.hid mw1
  have HW2 := Lib.hid mw2
  have HB1 := Lib.hid mb1
  have HLA := Lib.hid hlast
  have HRJ := Lib.hid hRj
  have HR1 := Lib.hid h1
  have HR2 := Lib.hid h2
  have HR3 := Lib.hid h3
  have HX1 := Lib.hid hx1
  have HX2 := Lib.hid hx2
  have hTI : min (tl.length : Int) 50 = (T.length : Int) := by omega
  have hTle : T.length ≤ tl.length := by omega
  have hT50 : T.length ≤ 50 := by omega
  have kj1 : (cut : Int) % (F.length : Int) = (j : Int) := by rw [hj]; exact (Int.natCast_emod cut F.length).symm
  have kj2 : (cut : Int).tmod (F.length : Int) = (j : Int) := by rw [Int.tmod_eq_emod_of_nonneg (by omega)]; exact kj1
  have kej : ((ej : Int) != 0) = true := by rw [bne_iff_ne]; omega
  have kej2 : ((ej : Int) == 0) = false := by rw [beq_eq_false_iff_ne]; omega
  have hFl0 : ¬ (F.length : Int) = 0 := by omega
  have h12I : (12 : Int) ≤ (F.length : Int) := by omega
  have HT := Lib.hid hT
  clear ok1 ok2 mr1 mk1 mn1 mw1 mb1 mr2 mk2 mn2 mw2 mb2 hM hO hin hlast hcutr hF hG hj hMj hej hejn hRj hdec hbq h1 h2 h3 hx1 hx2 hT htl h12
  go_enter Try.func10, Try.ntmps10
  go_upto_region 7 with (first
    | (go_at_call 14
       refine (readE_at A6 k6 F M 0 HB1.out w7 hr6 hk6 (by omega)).mono ?_
       rintro e w8 ⟨x, hx8, rfl, hmr8, hb8⟩
       obtain ⟨idK, flK, qAK, qcK, qsK, aAK, acK, raK, bAK, bdK, rbK, cAK, ccK, rcK⟩ := x
       unfold MR.cells
       dsimp only)
    | (go_at_call 16
       refine (write_at ⟨idO, flO, qAO, qcO, qsO, aAO, acO, raO, bAO, bdO, rbO, cAO, ccO, rcO⟩ w6 hbo6.2).mono ?_
       rw [hx4, HW2.out]
       rintro e w7 ⟨v7, rfl, ho7, hb7⟩
       obtain ⟨A7, k7, rfl, hk7, hr7⟩ := ho7.form6 _ (bc_length _)
       have hr6 := (hr6.below hb7).more hb7.size
       have hbm7 := hbm6.go hb7
       have hbo7 := hbo6.go hb7
       obtain ⟨pm0, pm1, pm2, pm3, pm4, pm5⟩ := hbm7.1.c6
       obtain ⟨po0, po1, po2, po3, po4, po5⟩ := hbo7.1.c6)
    | (go_at_call 16
       refine (write_at ⟨idM, flM, qAM, qcM, qsM, aAM, acM, raM, bAM, bdM, rbM, cAM, ccM, rcM⟩ _ hbm5.2).mono ?_
       rw [hx3, HW1.out]
       rintro e w6 ⟨v6, rfl, ho6, hb6⟩
       obtain ⟨A6, k6, rfl, hk6, hr6⟩ := ho6.form6 _ (bc_length _)
       have hbm6 := hbm5.go hb6
       have hbo6 := hbo5.go hb6
       obtain ⟨pm0, pm1, pm2, pm3, pm4, pm5⟩ := hbm6.1.c6
       obtain ⟨po0, po1, po2, po3, po4, po5⟩ := hbo6.1.c6)
    | (go_at_call 21
       refine (dmade_at id fl A2 c2 l2 w3 ((HR2.out.below hB3).more hB3.size) hc2 (fun x hx => ((HX2.out x hx).below hB3).more hB3.size)).mono ?_
       rw [← HO.out]
       rintro e w4 ⟨x, hx4, rfl, hmo4, hb4⟩
       have hmr4 := MM2.out _ _ x hmo4 hx4
       obtain ⟨idO, flO, qAO, qcO, qsO, aAO, acO, raO, bAO, bdO, rbO, cAO, ccO, rcO⟩ := x
       unfold MR.cells
       dsimp only
       have hbm4 : MRd w4 w4.heap.size ⟨idM, flM, qAM, qcM, qsM, aAM, acM, raM, bAM, bdM, rbM, cAM, ccM, rcM⟩ := (hmr3.below hb4).more hb4.size
       have hB4 := hB3.trans (hb4.mono hB3.size)
       have hbm5 : BoxM ((w4.alloc (.cells (MR.cells ⟨idM, flM, qAM, qcM, qsM, aAM, acM, raM, bAM, bdM, rbM, cAM, ccM, rcM⟩).toArray 30)).alloc (.cells (MR.cells ⟨idO, flO, qAO, qcO, qsO, aAO, acO, raO, bAO, bdO, rbO, cAO, ccO, rcO⟩).toArray 30)) w4.heap.size ⟨idM, flM, qAM, qcM, qsM, aAM, acM, raM, bAM, bdM, rbM, cAM, ccM, rcM⟩ := (BoxM.new hbm4).go (below_new _ _)
       have hbo5 : BoxM ((w4.alloc (.cells (MR.cells ⟨idM, flM, qAM, qcM, qsM, aAM, acM, raM, bAM, bdM, rbM, cAM, ccM, rcM⟩).toArray 30)).alloc (.cells (MR.cells ⟨idO, flO, qAO, qcO, qsO, aAO, acO, raO, bAO, bdO, rbO, cAO, ccO, rcO⟩).toArray 30)) (w4.heap.size + 1) ⟨idO, flO, qAO, qcO, qsO, aAO, acO, raO, bAO, bdO, rbO, cAO, ccO, rcO⟩ := by
         have := BoxM.new (w := w4.alloc (.cells (MR.cells ⟨idM, flM, qAM, qcM, qsM, aAM, acM, raM, bAM, bdM, rbM, cAM, ccM, rcM⟩).toArray 30)) ((hmr4.below (below_new _ _)).more (below_new _ _).size)
         rw [World.size_alloc] at this
         exact this
       have hlt5 : w4.heap.size + 1 < ((w4.alloc (.cells (MR.cells ⟨idM, flM, qAM, qcM, qsM, aAM, acM, raM, bAM, bdM, rbM, cAM, ccM, rcM⟩).toArray 30)).alloc (.cells (MR.cells ⟨idO, flO, qAO, qcO, qsO, aAO, acO, raO, bAO, bdO, rbO, cAO, ccO, rcO⟩).toArray 30)).heap.size := hbo5.1.lt)
    | (go_at_call 21
       refine (dmade_at id fl A1 c1 l1 w2 ((HR1.out.below hb2).more hb2.size) hc1 (fun x hx => ((HX1.out x hx).below hb2).more hb2.size)).mono ?_
       rw [← HM.out]
       rintro e w3 ⟨x, hx3, rfl, hmo3, hb3⟩
       have hmr3 := MM1.out _ _ x hmo3 hx3
       have hB3 := hb2.trans (hb3.mono hb2.size)
       obtain ⟨idM, flM, qAM, qcM, qsM, aAM, acM, raM, bAM, bdM, rbM, cAM, ccM, rcM⟩ := x
       unfold MR.cells
       dsimp only)
    | (go_at_call 13
       refine (dawake_any w).mono ?_
       rintro e w2 ⟨rfl, hb2⟩))
  have hB6 := hB4.trans (((below_two w4 (.cells (MR.cells ⟨idM, flM, qAM, qcM, qsM, aAM, acM, raM, bAM, bdM, rbM, cAM, ccM, rcM⟩).toArray 30) (.cells (MR.cells ⟨idO, flO, qAO, qcO, qsO, aAO, acO, raO, bAO, bdO, rbO, cAO, ccO, rcO⟩).toArray 30)).trans (hb6.mono (below_two w4 _ _).size)).mono hB4.size)
  have hB7 := hB6.trans (hb7.mono hB6.size)
  have hB8 := hB7.trans (hb8.mono hB7.size)
  have hn9 : Below w8.heap.size w8 (w8.alloc (.cells #[.int .u16 (idK : Int), .int .u16 (flK : Int), .slice qAK qsK.length qcK, .slice aAK raK.length acK, .slice bAK rbK.length bdK, .slice cAK rcK.length ccK] 30)) := below_new w8 _
  have hB9 := hB8.trans (hn9.mono hB8.size)
  have hbk9 : BoxM (w8.alloc (.cells #[.int .u16 (idK : Int), .int .u16 (flK : Int), .slice qAK qsK.length qcK, .slice aAK raK.length acK, .slice bAK rbK.length bdK, .slice cAK rcK.length ccK] 30)) w8.heap.size ⟨idK, flK, qAK, qcK, qsK, aAK, acK, raK, bAK, bdK, rbK, cAK, ccK, rcK⟩ := BoxM.new hmr8
  have hbm9 := (hbm7.go hb8).go hn9
  have hbo9 := (hbo7.go hb8).go hn9
  have hr69 := (((hr6.below hb8).more hb8.size).below hn9).more hn9.size
  have hr79 := (((hr7.below hb8).more hb8.size).below hn9).more hn9.size
  obtain ⟨g13, hg13⟩ : ∃ g, g = w4.heap.size := ⟨_, rfl⟩
  obtain ⟨g14, hg14⟩ : ∃ g, g = w4.heap.size + 1 := ⟨_, rfl⟩
  obtain ⟨g19, hg19⟩ : ∃ g, g = w8.heap.size := ⟨_, rfl⟩
  rw [← hg13] at hbm9
  rw [← hg14] at hbo9
  rw [← hg19] at hbk9
  try rw [← hg14]
  try rw [← hg13]
  try rw [← hg19]
  clear hn9
  generalize (w8.alloc (.cells #[.int .u16 (idK : Int), .int .u16 (flK : Int), .slice qAK qsK.length qcK, .slice aAK raK.length acK, .slice bAK rbK.length bdK, .slice cAK rcK.length ccK] 30)) = w9 at *
  clear hg13 hg14 hg19 hB8 hB7 hB6 hb8 hb7 hb6 ho6 ho7 hbm7 hbm6 hbo7 hbo6 hbm5 hbo5 hlt5 hb4 hb3 hb2 hB3 hB4 hmr3 hmr4 hmo3 hmo4 hbm4 hmr8 hr6 hr7 pm0 pm1 pm2 pm3 pm4 pm5 po0 po1 po2 po3 po4 po5
  have HB9 := Lib.hid hB9
  have HR6 := Lib.hid hr69
  have HR7 := Lib.hid hr79
  have HXM := Lib.hid hx3
  have HXO := Lib.hid hx4
  have HXK := Lib.hid hx8
  clear hB9 hr69 hr79 hx3 hx4 hx8
  have hq0 : Below w9.heap.size w9 w9.drew := (Below.refl _ w9).drew
  have bk := hbk9.go hq0
  have bm := hbm9.go hq0
  have bo := hbo9.go hq0
  have hbb : (bq != bq) = false := by simp
  have hw0 : IntKind.i64.wrap 0 = 0 := rfl
  refine wp_region_held_drew (S := fun w' => Vx w' g19 30 [.int .u16 (idK : Int), .int .u16 (flK : Int), .slice qAK qsK.length qcK, .slice aAK raK.length acK, .slice bAK rbK.length bdK, .slice cAK rcK.length ccK] ∧ Vx w' g13 30 [.int .u16 (idM : Int), .int .u16 (flM : Int), .slice qAM qsM.length qcM, .slice aAM raM.length acM, .slice bAM rbM.length bdM, .slice cAM rcM.length ccM] ∧ Vx w' g14 30 [.int .u16 (idO : Int), .int .u16 (flO : Int), .slice qAO qsO.length qcO, .slice aAO raO.length acO, .slice bAO rbO.length bdO, .slice cAO rcO.length ccO]) (by kernel_rfl) ⟨bk.1, bm.1, bo.1⟩ (fun hH => ?_)
  refine reg_take 0 (v := ?_) rfl (by kernel_rfl) (fun _ _ _ h => h) (by rfl) hH ?_ ?_
  rotate_left
  · intro w hSw; (try dsimp only at hSw); go_simp; (try with_reducible rfl)
  (try simp only [Act.put, List.setIfInBounds_toArray, List.set_cons_zero, List.set_cons_succ])
  refine reg_take 1 (v := ?_) rfl (by kernel_rfl) (fun _ _ _ h => h) (by rfl) hH ?_ ?_
  rotate_left
  · intro w hSw; (try dsimp only at hSw); go_simp; (try with_reducible rfl)
  (try simp only [Act.put, List.setIfInBounds_toArray, List.set_cons_zero, List.set_cons_succ])
  refine reg_take 2 (v := ?_) rfl (by kernel_rfl) (fun _ _ _ h => h) (by rfl) hH ?_ ?_
  rotate_left
  · intro w hSw; (try dsimp only at hSw); go_simp; (try with_reducible rfl)
  (try simp only [Act.put, List.setIfInBounds_toArray, List.set_cons_zero, List.set_cons_succ])
  refine reg_take 3 (v := ?_) rfl (by kernel_rfl) (fun _ _ _ h => h) (by rfl) hH ?_ ?_
  rotate_left
  · intro w hSw; (try dsimp only at hSw); go_simp; (try with_reducible rfl)
  (try simp only [Act.put, List.setIfInBounds_toArray, List.set_cons_zero, List.set_cons_succ])
  refine reg_take 4 (v := ?_) rfl (by kernel_rfl) (fun _ _ _ h => h) (by rfl) hH ?_ ?_
  rotate_left
  · intro w hSw; (try dsimp only at hSw); go_simp; (try with_reducible rfl)
  (try simp only [Act.put, List.setIfInBounds_toArray, List.set_cons_zero, List.set_cons_succ])
  refine reg_take 5 (v := ?_) rfl (by kernel_rfl) (fun _ _ _ h => h) (by rfl) hH ?_ ?_
  rotate_left
  · intro w hSw; (try dsimp only at hSw); go_simp; (try with_reducible rfl)
  (try simp only [Act.put, List.setIfInBounds_toArray, List.set_cons_zero, List.set_cons_succ])
  refine reg_take 6 (v := ?_) rfl (by kernel_rfl) (fun _ _ _ h => h) (by rfl) hH ?_ ?_
  rotate_left
  · intro w hSw; (try dsimp only at hSw); go_simp; (try with_reducible rfl)
  (try simp only [Act.put, List.setIfInBounds_toArray, List.set_cons_zero, List.set_cons_succ])
  refine reg_load 7 rfl (by kernel_rfl) 30 _ (by rfl) g19 30 [.int .u16 (idK : Int), .int .u16 (flK : Int), .slice qAK qsK.length qcK, .slice aAK raK.length acK, .slice bAK rbK.length bdK, .slice cAK rcK.length ccK] _ (fun _ _ _ h => h) (by rfl) hH (by rfl) (fun _ h => h.1) Try.underlying30 (by rfl) (by kernel_rfl) ?_
  (try simp only [Act.put, List.setIfInBounds_toArray, List.set_cons_zero, List.set_cons_succ])
  refine reg_load 8 rfl (by kernel_rfl) 30 _ (by rfl) g13 30 [.int .u16 (idM : Int), .int .u16 (flM : Int), .slice qAM qsM.length qcM, .slice aAM raM.length acM, .slice bAM rbM.length bdM, .slice cAM rcM.length ccM] _ (fun _ _ _ h => h) (by rfl) hH (by rfl) (fun _ h => h.2.1) Try.underlying30 (by rfl) (by kernel_rfl) ?_
  (try simp only [Act.put, List.setIfInBounds_toArray, List.set_cons_zero, List.set_cons_succ])
  refine wpAnyH_ready (rs := [9]) (by kernel_rfl) (by simp) ?_
  refine reg_cons _ rfl (fun K1 hK1 => ?_) AllReadyH.nil
  go_simp
  go_at_call 15
  refine (sameM_at ⟨idK, flK, qAK, qcK, qsK, aAK, acK, raK, bAK, bdK, rbK, cAK, ccK, rcK⟩ ⟨idM, flM, qAM, qcM, qsM, aAM, acM, raM, bAM, bdM, rbM, cAM, ccM, rcM⟩ _ bk.2 bm.2).mono ?_
  rw [HXK.out, HXM.out, (sameM_iff M M).2 rfl]
  rintro e w10 ⟨rfl, hb10⟩
  have hz10 : Below w9.heap.size w9 w10 := hq0.trans hb10
  have bk := hbk9.go hz10
  have bm := hbm9.go hz10
  have bo := hbo9.go hz10
  have hr6 := (HR6.out.below hz10).more hz10.size
  have hr7 := (HR7.out.below hz10).more hz10.size
  (try dsimp only)
  clear hH
  refine hK1.out _ _ ⟨bk.1, bm.1, bo.1⟩ (fun hH => ?_)
  (try simp only [Act.put, List.setIfInBounds_toArray, List.set_cons_zero, List.set_cons_succ])
  clear hK1
  refine reg_take 10 (v := ?_) rfl (by kernel_rfl) (fun _ _ _ h => h) (by rfl) hH ?_ ?_
  rotate_left
  · intro w hSw; (try dsimp only at hSw); go_simp; (try with_reducible rfl)
  (try simp only [Act.put, List.setIfInBounds_toArray, List.set_cons_zero, List.set_cons_succ])
  refine reg_take 11 (v := ?_) rfl (by kernel_rfl) (fun _ _ _ h => h) (by rfl) hH ?_ ?_
  rotate_left
  · intro w hSw; (try dsimp only at hSw); go_simp; (try with_reducible rfl)
  (try simp only [Act.put, List.setIfInBounds_toArray, List.set_cons_zero, List.set_cons_succ])
  refine reg_take 12 (v := ?_) rfl (by kernel_rfl) (fun _ _ _ h => h) (by rfl) hH ?_ ?_
  rotate_left
  · intro w hSw; (try dsimp only at hSw); go_simp; (try with_reducible rfl)
  (try simp only [Act.put, List.setIfInBounds_toArray, List.set_cons_zero, List.set_cons_succ])
  refine reg_take 13 (v := ?_) rfl (by kernel_rfl) (fun _ _ _ h => h) (by rfl) hH ?_ ?_
  rotate_left
  · intro w hSw; (try dsimp only at hSw); go_simp; (try with_reducible rfl)
  (try simp only [Act.put, List.setIfInBounds_toArray, List.set_cons_zero, List.set_cons_succ])
  refine reg_take 14 (v := ?_) rfl (by kernel_rfl) (fun _ _ _ h => h) (by rfl) hH ?_ ?_
  rotate_left
  · intro w hSw; (try dsimp only at hSw); go_simp; (try with_reducible rfl)
  (try simp only [Act.put, List.setIfInBounds_toArray, List.set_cons_zero, List.set_cons_succ])
  refine reg_load 16 rfl (by kernel_rfl) 30 _ (by rfl) g13 30 [.int .u16 (idM : Int), .int .u16 (flM : Int), .slice qAM qsM.length qcM, .slice aAM raM.length acM, .slice bAM rbM.length bdM, .slice cAM rcM.length ccM] _ (fun _ _ _ h => h) (by rfl) hH (by rfl) (fun _ h => h.2.1) Try.underlying30 (by rfl) (by kernel_rfl) ?_
  (try simp only [Act.put, List.setIfInBounds_toArray, List.set_cons_zero, List.set_cons_succ])
  refine reg_load 17 rfl (by kernel_rfl) 30 _ (by rfl) g14 30 [.int .u16 (idO : Int), .int .u16 (flO : Int), .slice qAO qsO.length qcO, .slice aAO raO.length acO, .slice bAO rbO.length bdO, .slice cAO rcO.length ccO] _ (fun _ _ _ h => h) (by rfl) hH (by rfl) (fun _ h => h.2.2) Try.underlying30 (by rfl) (by kernel_rfl) ?_
  (try simp only [Act.put, List.setIfInBounds_toArray, List.set_cons_zero, List.set_cons_succ])
  refine wpAnyH_ready (rs := [15]) (by kernel_rfl) (by simp) ?_
  refine reg_cons _ rfl (fun K1 hK1 => ?_) AllReadyH.nil
  go_simp
  go_at_call 25
  refine (beq_any A6 A7 k6 k7 F G _ _ hr6 hr7).mono ?_
  rw [HIN.out]
  rintro e w10 ⟨rfl, rfl⟩
  (try dsimp only)
  clear hH
  refine hK1.out _ _ ⟨bk.1, bm.1, bo.1⟩ (fun hH => ?_)
  (try simp only [Act.put, List.setIfInBounds_toArray, List.set_cons_zero, List.set_cons_succ])
  clear hK1
  refine wpAnyH_ready (rs := [18]) (by kernel_rfl) (by simp) ?_
  refine reg_cons _ rfl (fun K1 hK1 => ?_) AllReadyH.nil
  go_simp
  go_at_call 15
  refine (sameM_at ⟨idM, flM, qAM, qcM, qsM, aAM, acM, raM, bAM, bdM, rbM, cAM, ccM, rcM⟩ ⟨idO, flO, qAO, qcO, qsO, aAO, acO, raO, bAO, bdO, rbO, cAO, ccO, rcO⟩ _ bm.2 bo.2).mono ?_
  rw [HXM.out, HXO.out, ← HBQ.out]
  rintro e w11 ⟨rfl, hb11⟩
  have hz11 : Below w9.heap.size w9 w11 := hz10.trans (hb11.mono hz10.size)
  have bk := hbk9.go hz11
  have bm := hbm9.go hz11
  have bo := hbo9.go hz11
  (try dsimp only)
  clear hH
  refine hK1.out _ _ ⟨bk.1, bm.1, bo.1⟩ (fun hH => ?_)
  (try simp only [Act.put, List.setIfInBounds_toArray, List.set_cons_zero, List.set_cons_succ])
  clear hK1
  refine reg_take 19 (v := ?_) rfl (by kernel_rfl) (fun _ _ _ h => h) (by rfl) hH ?_ ?_
  rotate_left
  · intro w hSw; (try dsimp only at hSw); go_simp; (try with_reducible rfl)
  (try simp only [Act.put, List.setIfInBounds_toArray, List.set_cons_zero, List.set_cons_succ])
  refine reg_take 20 (v := ?_) rfl (by kernel_rfl) (fun _ _ _ h => h) (by rfl) hH ?_ ?_
  rotate_left
  · intro w hSw; (try dsimp only at hSw); go_simp; (try with_reducible rfl)
  (try simp only [Act.put, List.setIfInBounds_toArray, List.set_cons_zero, List.set_cons_succ])
  refine reg_take 21 (v := ?_) rfl (by kernel_rfl) (fun _ _ _ h => h) (by rfl) hH ?_ ?_
  rotate_left
  · intro w hSw; (try dsimp only at hSw); go_simp; (try with_reducible rfl)
  (try simp only [Act.put, List.setIfInBounds_toArray, List.set_cons_zero, List.set_cons_succ])
  refine reg_load 22 rfl (by kernel_rfl) 30 _ (by rfl) g13 30 [.int .u16 (idM : Int), .int .u16 (flM : Int), .slice qAM qsM.length qcM, .slice aAM raM.length acM, .slice bAM rbM.length bdM, .slice cAM rcM.length ccM] _ (fun _ _ _ h => h) (by rfl) hH (by rfl) (fun _ h => h.2.1) Try.underlying30 (by rfl) (by kernel_rfl) ?_
  (try simp only [Act.put, List.setIfInBounds_toArray, List.set_cons_zero, List.set_cons_succ])
  refine wpAnyH_ready (rs := [23]) (by kernel_rfl) (by simp) ?_
  refine reg_cons _ rfl (fun K1 hK1 => ?_) AllReadyH.nil
  go_simp
  go_at_call 33
  refine (check_at ⟨idM, flM, qAM, qcM, qsM, aAM, acM, raM, bAM, bdM, rbM, cAM, ccM, rcM⟩ _ bm.2).mono ?_
  rw [HXM.out, HW1.out]
  rintro e w12 ⟨rfl, hb12⟩
  have hz12 : Below w9.heap.size w9 w12 := hz11.trans (hb12.mono hz11.size)
  have bk := hbk9.go hz12
  have bm := hbm9.go hz12
  have bo := hbo9.go hz12
  (try dsimp only)
  clear hH
  refine hK1.out _ _ ⟨bk.1, bm.1, bo.1⟩ (fun hH => ?_)
  (try simp only [Act.put, List.setIfInBounds_toArray, List.set_cons_zero, List.set_cons_succ])
  clear hK1
  refine reg_take 24 (v := ?_) rfl (by kernel_rfl) (fun _ _ _ h => h) (by rfl) hH ?_ ?_
  rotate_left
  · intro w hSw; (try dsimp only at hSw); go_simp; (try with_reducible rfl)
  (try simp only [Act.put, List.setIfInBounds_toArray, List.set_cons_zero, List.set_cons_succ])
  refine reg_take 25 (v := ?_) rfl (by kernel_rfl) (fun _ _ _ h => h) (by rfl) hH ?_ ?_
  rotate_left
  · intro w hSw; (try dsimp only at hSw); go_simp; (try with_reducible rfl)
  (try simp only [Act.put, List.setIfInBounds_toArray, List.set_cons_zero, List.set_cons_succ])
  refine reg_take 26 (v := ?_) rfl (by kernel_rfl) (fun _ _ _ h => h) (by rfl) hH ?_ ?_
  rotate_left
  · intro w hSw; (try dsimp only at hSw); go_simp; (try with_reducible rfl)
  (try simp only [Act.put, List.setIfInBounds_toArray, List.set_cons_zero, List.set_cons_succ])
  refine reg_take 27 (v := ?_) rfl (by kernel_rfl) (fun _ _ _ h => h) (by rfl) hH ?_ ?_
  rotate_left
  · intro w hSw; (try dsimp only at hSw); go_simp; (try with_reducible rfl)
  (try simp only [Act.put, List.setIfInBounds_toArray, List.set_cons_zero, List.set_cons_succ])
  refine reg_take 28 (v := ?_) rfl (by kernel_rfl) (fun _ _ _ h => h) (by rfl) hH ?_ ?_
  rotate_left
  · intro w hSw; (try dsimp only at hSw); go_simp; (try with_reducible rfl)
  (try simp only [Act.put, List.setIfInBounds_toArray, List.set_cons_zero, List.set_cons_succ])
  refine reg_take 29 (v := ?_) rfl (by kernel_rfl) (fun _ _ _ h => h) (by rfl) hH ?_ ?_
  rotate_left
  · intro w hSw; (try dsimp only at hSw); go_simp; (try with_reducible rfl)
  (try simp only [Act.put, List.setIfInBounds_toArray, List.set_cons_zero, List.set_cons_succ])
  refine reg_take 30 (v := ?_) rfl (by kernel_rfl) (fun _ _ _ h => h) (by rfl) hH ?_ ?_
  rotate_left
  · intro w hSw; (try dsimp only at hSw); go_simp; (try with_reducible rfl)
  (try simp only [Act.put, List.setIfInBounds_toArray, List.set_cons_zero, List.set_cons_succ])
  refine wpAnyH_done (by kernel_rfl) ?_ _
  clear hH bk bm bo hbk9 hbm9 hbo9 hr6 hr7
  have hB12 := HB9.out.trans (hz12.mono HB9.out.size)
  have hr6 := (HR6.out.below hz12).more hz12.size
  have HB12 := Lib.hid hB12
  have HR6 := Lib.hid hr6
  clear hB12 hr6 HR7
  have hjk : j ≤ k6 := by omega
  have kslj : ∀ W, (Instr.slice 22 (.slice A6 F.length k6) none (some (.int .i64 (j : Int))) none).run Try.prog W = .ok (.slice A6 j k6) W := fun W => run_sl_h W _ 5 Try.underlying22 szByte A6 F.length k6 j hjk
  go_upto_region 10 with (first
    | (go_at_call 14
       refine (readE_atL A6 k6 j (F.take j) (by rw [List.length_take]; omega) Mj ej HRJ.out w12 (HR6.out.preB (by omega)) hjk (by omega)).mono ?_
       rintro e w13 ⟨x, hx13, rfl, hmr13, hb13⟩
       obtain ⟨idJ, flJ, qAJ, qcJ, qsJ, aAJ, acJ, raJ, bAJ, bdJ, rbJ, cAJ, ccJ, rcJ⟩ := x
       unfold MR.cells
       dsimp only))
  have hn14 : Below w13.heap.size w13 (w13.alloc (.cells #[.int .u16 (idJ : Int), .int .u16 (flJ : Int), .slice qAJ qsJ.length qcJ, .slice aAJ raJ.length acJ, .slice bAJ rbJ.length bdJ, .slice cAJ rcJ.length ccJ] 30)) := below_new w13 _
  have hB13 := HB12.out.trans (hb13.mono HB12.out.size)
  have hB14 := hB13.trans (hn14.mono hB13.size)
  have hr6 := ((((HR6.out.below hb13).more hb13.size).below hn14).more hn14.size)
  clear hn14
  generalize (w13.alloc (.cells #[.int .u16 (idJ : Int), .int .u16 (flJ : Int), .slice qAJ qsJ.length qcJ, .slice aAJ raJ.length acJ, .slice bAJ rbJ.length bdJ, .slice cAJ rcJ.length ccJ] 30)) = w14 at *
  clear hB13 hb13 hmr13 hx13 HB12 HR6 kslj
  have HB14 := Lib.hid hB14
  have HR6 := Lib.hid hr6
  have HT3 := Lib.hid (HR3.out.below hB14)
  clear hB14 hr6 hb10 hb11 hb12 hz10 hz11 hz12 hq0
  have ksl3 : ∀ W, (Instr.slice 22 (.slice A3 tl.length c3) none (some (.int .i64 (T.length : Int))) (some (.int .i64 (T.length : Int)))).run Try.prog W = .ok (.slice A3 T.length T.length) W := fun W => run_sl_hm W _ 5 1 Try.underlying22 szByte A3 tl.length c3 T.length (by omega)
  refine wp_region_held_drew (S := fun _ => True) (by kernel_rfl) trivial (fun hH => ?_)
  refine reg_take 0 (v := ?_) rfl (by kernel_rfl) (fun _ _ _ h => h) (by rfl) hH ?_ ?_
  rotate_left
  · intro w hSw; (try dsimp only at hSw); go_simp; (try with_reducible rfl)
  (try simp only [Act.put, List.setIfInBounds_toArray, List.set_cons_zero, List.set_cons_succ])
  refine reg_take 2 (v := ?_) rfl (by kernel_rfl) (fun _ _ _ h => h) (by rfl) hH ?_ ?_
  rotate_left
  · intro w hSw; (try dsimp only at hSw); go_simp; (try with_reducible rfl)
  (try simp only [Act.put, List.setIfInBounds_toArray, List.set_cons_zero, List.set_cons_succ])
  refine reg_take 3 (v := ?_) rfl (by kernel_rfl) (fun _ _ _ h => h) (by rfl) hH ?_ ?_
  rotate_left
  · intro w hSw; (try dsimp only at hSw); go_simp; (try with_reducible rfl)
  (try simp only [Act.put, List.setIfInBounds_toArray, List.set_cons_zero, List.set_cons_succ])
  refine reg_take 4 (v := ?_) rfl (by kernel_rfl) (fun _ _ _ h => h) (by rfl) hH ?_ ?_
  rotate_left
  · intro w hSw; (try dsimp only at hSw); go_simp; (try with_reducible rfl)
  (try simp only [Act.put, List.setIfInBounds_toArray, List.set_cons_zero, List.set_cons_succ])
  refine reg_take 5 (v := ?_) rfl (by kernel_rfl) (fun _ _ _ h => h) (by rfl) hH ?_ ?_
  rotate_left
  · intro w hSw; (try dsimp only at hSw); go_simp; (try with_reducible rfl)
  (try simp only [Act.put, List.setIfInBounds_toArray, List.set_cons_zero, List.set_cons_succ])
  refine reg_take 6 (v := ?_) rfl (by kernel_rfl) (fun _ _ _ h => h) (by rfl) hH ?_ ?_
  rotate_left
  · intro w hSw; (try dsimp only at hSw); go_simp; (try with_reducible rfl)
  (try simp only [Act.put, List.setIfInBounds_toArray, List.set_cons_zero, List.set_cons_succ])
  refine reg_take 7 (v := ?_) rfl (by kernel_rfl) (fun _ _ _ h => h) (by rfl) hH ?_ ?_
  rotate_left
  · intro w hSw; (try dsimp only at hSw); go_simp; (try with_reducible rfl)
  (try simp only [Act.put, List.setIfInBounds_toArray, List.set_cons_zero, List.set_cons_succ])
  refine reg_take 8 (v := ?_) rfl (by kernel_rfl) (fun _ _ _ h => h) (by rfl) hH ?_ ?_
  rotate_left
  · intro w hSw; (try dsimp only at hSw); go_simp; (try with_reducible rfl)
  (try simp only [Act.put, List.setIfInBounds_toArray, List.set_cons_zero, List.set_cons_succ])
  refine reg_take 9 (v := ?_) rfl (by kernel_rfl) (fun _ _ _ h => h) (by rfl) hH ?_ ?_
  rotate_left
  · intro w hSw; (try dsimp only at hSw); go_simp; (try with_reducible rfl)
  (try simp only [Act.put, List.setIfInBounds_toArray, List.set_cons_zero, List.set_cons_succ])
  obtain ⟨v0, hv0⟩ : ∃ v0, v0 = w14.drew := ⟨_, rfl⟩
  have hB : Below w14.heap.size w14 v0 := by rw [hv0]; exact (Below.refl _ w14).drew
  rw [← hv0]
  clear hv0
  have HT3b : Hid (T = tl.take T.length) := Lib.hid (by
    have h := HT.out
    have h2 := congrArg List.length h
    rw [List.length_take] at h2
    rw [h, List.length_take, Nat.min_comm]
    rcases Nat.lt_or_ge tl.length 50 with h1 | h1
    · rw [List.take_of_length_le (by omega), List.take_of_length_le (by omega)]
    · rw [Nat.min_eq_right h1])
  refine wpAnyH_ready (rs := [1, 10, 17]) (by kernel_rfl) (by simp) ?_
  refine reg_cons _ rfl (fun K1 hK1 => ?_) (reg_cons _ rfl (fun K1 hK1 => ?_) (reg_cons _ rfl (fun K1 hK1 => ?_) AllReadyH.nil))
  · go_simp
    go_at_call 31
    refine (bclone A6 k6 F v0 _ (Nat.le_refl _) ((HR6.out.below hB).more hB.size) (by omega)).mono ?_
    rintro e v1 ⟨vc, rfl, hoC, hbC⟩
    obtain ⟨CA, Cc, rfl, hCc, hCr⟩ := hoC.form6 _ (bc_length _)
    (try dsimp only)
    have hC := hoC.mono hB.size
    replace hB := hB.trans (hbC.mono hB.size)
    clear hoC hbC hCr
    refine hK1.out _ _ trivial (fun hH => ?_)
    (try simp only [Act.put, List.setIfInBounds_toArray, List.set_cons_zero, List.set_cons_succ])
    clear hK1
    refine wpAnyH_ready (rs := [10, 17]) (by kernel_rfl) (by simp) ?_
    refine reg_cons _ rfl (fun K1 hK1 => ?_) (reg_cons _ rfl (fun K1 hK1 => ?_) AllReadyH.nil)
    · go_simp
      obtain ⟨gL, hgL⟩ : ∃ g, g = v1.heap.size := ⟨_, rfl⟩
      have hn : Below v1.heap.size v1 (v1.alloc (.cells #[.int .u8 0] 5)) := below_new _ _
      have hL : Rd (v1.alloc (.cells #[.int .u8 0] 5)) (v1.alloc (.cells #[.int .u8 0] 5)).heap.size (some ⟨gL, 0, none⟩) 1 [.int .u8 0] := by rw [hgL]; exact Rd.lit_top0 v1 5 [.int .u8 0] 1 rfl
      rw [← hgL]
      replace hC := hC.far hn
      replace hB := hB.trans (hn.mono hB.size)
      clear hn hgL
      generalize v1.alloc (.cells #[.int .u8 0] 5) = v2 at *
      refine hK1.out _ _ trivial (fun hH => ?_)
      (try simp only [Act.put, List.setIfInBounds_toArray, List.set_cons_zero, List.set_cons_succ])
      clear hK1
      refine wpAnyH_ready (rs := [11, 17]) (by kernel_rfl) (by simp) ?_
      refine reg_cons _ rfl (fun K1 hK1 => ?_) (reg_cons _ rfl (fun K1 hK1 => ?_) AllReadyH.nil)
      · refine step_appG _ rfl _ _ _ _ rfl _ 1 5 i0 (.int .u8 0) 1 Try.underlying22 hi hz0 hz1 hz2 rfl (Nat.le_refl _) (Nat.le_refl _) A3 T.length (bc T) rfl (by rw [Nat.mul_one]; have := HT3.out.preB hTle; rw [← HT3b.out] at this; exact (this.below (hB.mono HB14.out.size)).more (Nat.le_refl _)) (.slice (some ⟨gL, 0, none⟩) 1 1) rfl 1 [.int .u8 0] (hL.src Try.underlying22 (by simp [Value.oneCell'])) (by omega) (by omega) ?_
        intro vt v3 howT hbT
        obtain ⟨TA, Tc, rfl, hTc, _, hTr⟩ := howT.form
        have hT : Rd v3 v3.heap.size TA (T.length + 1) (bc (T ++ [0])) := by
          rw [Nat.mul_one] at hTr
          have e : bc (T ++ [0]) = bc T ++ [.int .u8 0] := by simp [bc]
          rw [e]; exact hTr
        replace hC := hC.far hbT
        replace hB := hB.trans (hbT.mono hB.size)
        clear hbT howT hTr hL
        refine hK1.out _ _ trivial (fun hH => ?_)
        (try simp only [Act.put, List.setIfInBounds_toArray, List.set_cons_zero, List.set_cons_succ])
        clear hK1
        refine wpAnyH_ready (rs := [12, 17]) (by kernel_rfl) (by simp) ?_
        refine reg_cons _ rfl (fun K1 hK1 => ?_) (reg_cons _ rfl (fun K1 hK1 => ?_) AllReadyH.nil)
        · refine step_app _ rfl _ _ _ _ rfl w14.heap.size 5 i0 (.int .u8 0) 1 Try.underlying22 hi hz0 hz1 hz2 rfl (Nat.le_refl _) (.slice CA F.length Cc) (bc F) hC rfl (.slice TA (T.length + 1) Tc) rfl (T.length + 1) (bc (T ++ [0])) (hT.src Try.underlying22 (bc_one _)) (by rw [bc_length]; omega) hB.size ?_
          intro vd v4 hoD hgD hsD
          obtain ⟨DA, Dc, rfl, hDc, hD⟩ := hoD.form6 (F.length + (T.length + 1)) (by simp)
          have e : bc F ++ bc (T ++ [0]) = bc (F ++ (T ++ [0])) := by simp [bc]
          rw [e] at hD
          replace hB := hB.trans (hgD.below hC.lt hB.size)
          clear hgD hoD hC hT e hsD
          refine hK1.out _ _ trivial (fun hH => ?_)
          (try simp only [Act.put, List.setIfInBounds_toArray, List.set_cons_zero, List.set_cons_succ])
          clear hK1
          refine wpAnyH_ready (rs := [13, 17]) (by kernel_rfl) (by simp) ?_
          refine reg_cons _ rfl (fun K1 hK1 => ?_) (reg_cons _ rfl (fun K1 hK1 => ?_) AllReadyH.nil)
          · go_simp
            go_at_call 14
            refine (readE_atL DA Dc (F.length + (T.length + 1)) (F ++ (T ++ [0])) (by simp) zM 173 HLA.out v4 hD hDc (by omega)).mono ?_
            rintro e v5 ⟨x, hxE, rfl, hmrE, hbE⟩
            obtain ⟨idE, flE, qAE, qcE, qsE, aAE, acE, raE, bAE, bdE, rbE, cAE, ccE, rcE⟩ := x
            unfold MR.cells
            (try dsimp only)
            replace hB := hB.trans (hbE.mono hB.size)
            clear hbE hmrE hxE hD
            refine hK1.out _ _ trivial (fun hH => ?_)
            (try simp only [Act.put, List.setIfInBounds_toArray, List.set_cons_zero, List.set_cons_succ])
            clear hK1
            refine reg_take 14 (v := ?_) rfl (by kernel_rfl) (fun _ _ _ h => h) (by rfl) hH ?_ ?_
            rotate_left
            · intro w hSw; (try dsimp only at hSw); go_simp; (try with_reducible rfl)
            (try simp only [Act.put, List.setIfInBounds_toArray, List.set_cons_zero, List.set_cons_succ])
            refine reg_take 15 (v := ?_) rfl (by kernel_rfl) (fun _ _ _ h => h) (by rfl) hH ?_ ?_
            rotate_left
            · intro w hSw; (try dsimp only at hSw); go_simp; (try with_reducible rfl)
            (try simp only [Act.put, List.setIfInBounds_toArray, List.set_cons_zero, List.set_cons_succ])
            refine reg_take 16 (v := ?_) rfl (by kernel_rfl) (fun _ _ _ h => h) (by rfl) hH ?_ ?_
            rotate_left
            · intro w hSw; (try dsimp only at hSw); go_simp; (try with_reducible rfl)
            (try simp only [Act.put, List.setIfInBounds_toArray, List.set_cons_zero, List.set_cons_succ])
            refine wpAnyH_ready (rs := [17]) (by kernel_rfl) (by simp) ?_
            refine reg_cons _ rfl (fun K1 hK1 => ?_) AllReadyH.nil
            · go_simp
              obtain ⟨gZ, hgZ⟩ : ∃ g, g = v5.heap.size := ⟨_, rfl⟩
              have hn : Below v5.heap.size v5 (v5.alloc (.cells #[.int .u16 0, .int .u16 0, .slice none 0 0, .slice none 0 0, .slice none 0 0, .slice none 0 0] 30)) := below_new _ _
              have hZ : Vx (v5.alloc (.cells #[.int .u16 0, .int .u16 0, .slice none 0 0, .slice none 0 0, .slice none 0 0, .slice none 0 0] 30)) gZ 30 zM6 := by rw [hgZ]; exact Vx.new v5 _ _
              have hgZ2 : w14.heap.size ≤ gZ := by have := hB.size; omega
              rw [← hgZ]
              replace hB := hB.trans (hn.mono hB.size)
              clear hn hgZ
              generalize v5.alloc (.cells #[.int .u16 0, .int .u16 0, .slice none 0 0, .slice none 0 0, .slice none 0 0, .slice none 0 0] 30) = v6 at *
              refine hK1.out _ _ trivial (fun hH => ?_)
              (try simp only [Act.put, List.setIfInBounds_toArray, List.set_cons_zero, List.set_cons_succ])
              clear hK1
              have hzl := hZ.lt
              refine wpAnyH_ready (rs := [18]) (by kernel_rfl) (by simp) ?_
              refine reg_cons _ rfl (fun K1 hK1 => ?_) AllReadyH.nil
              rw [if_pos (by rfl)]
              refine wp_store_row 30 _ _ (by rfl) gZ #[.int .u16 (idE : Int), .int .u16 (flE : Int), .slice qAE qsE.length qcE, .slice aAE raE.length acE, .slice bAE rbE.length bdE, .slice cAE rcE.length ccE] (by rfl) (by rfl) _ _ hZ (by kernel_rfl) rfl (by kernel_rfl) ?_
              refine hK1.out _ _ trivial (fun hH => ?_)
              (try simp only [Act.put, List.setIfInBounds_toArray, List.set_cons_zero, List.set_cons_succ])
              clear hK1
              refine reg_take 19 (v := ?_) rfl (by kernel_rfl) (fun _ _ _ h => h) (by rfl) hH ?_ ?_
              rotate_left
              · intro w hSw; (try dsimp only at hSw); go_simp; (try with_reducible rfl)
              (try simp only [Act.put, List.setIfInBounds_toArray, List.set_cons_zero, List.set_cons_succ])
              refine wpAnyH_done (by kernel_rfl) ?_ _
              go_wp2_with fail
              go_ret
              exact ⟨rfl, HB14.out.trans ((hB.mono HB14.out.size).trans ((Only.row _ _ _).below (by have := HB14.out.size; omega) (by have := HB14.out.size; have := hB.size; omega)))⟩
          · go_simp
            obtain ⟨gZ, hgZ⟩ : ∃ g, g = v4.heap.size := ⟨_, rfl⟩
            have hn : Below v4.heap.size v4 (v4.alloc (.cells #[.int .u16 0, .int .u16 0, .slice none 0 0, .slice none 0 0, .slice none 0 0, .slice none 0 0] 30)) := below_new _ _
            have hZ : Vx (v4.alloc (.cells #[.int .u16 0, .int .u16 0, .slice none 0 0, .slice none 0 0, .slice none 0 0, .slice none 0 0] 30)) gZ 30 zM6 := by rw [hgZ]; exact Vx.new v4 _ _
            have hgZ2 : w14.heap.size ≤ gZ := by have := hB.size; omega
            replace hD := (hD.below hn).more hn.size
            rw [← hgZ]
            replace hB := hB.trans (hn.mono hB.size)
            clear hn hgZ
            generalize v4.alloc (.cells #[.int .u16 0, .int .u16 0, .slice none 0 0, .slice none 0 0, .slice none 0 0, .slice none 0 0] 30) = v5 at *
            refine hK1.out _ _ trivial (fun hH => ?_)
            (try simp only [Act.put, List.setIfInBounds_toArray, List.set_cons_zero, List.set_cons_succ])
            clear hK1
            refine wpAnyH_ready (rs := [13]) (by kernel_rfl) (by simp) ?_
            refine reg_cons _ rfl (fun K1 hK1 => ?_) AllReadyH.nil
            · go_simp
              go_at_call 14
              refine (readE_atL DA Dc (F.length + (T.length + 1)) (F ++ (T ++ [0])) (by simp) zM 173 HLA.out v5 hD hDc (by omega)).mono ?_
              rintro e v6 ⟨x, hxE, rfl, hmrE, hbE⟩
              obtain ⟨idE, flE, qAE, qcE, qsE, aAE, acE, raE, bAE, bdE, rbE, cAE, ccE, rcE⟩ := x
              unfold MR.cells
              (try dsimp only)
              replace hZ := hZ.below hbE hZ.lt
              replace hB := hB.trans (hbE.mono hB.size)
              clear hbE hmrE hxE hD
              refine hK1.out _ _ trivial (fun hH => ?_)
              (try simp only [Act.put, List.setIfInBounds_toArray, List.set_cons_zero, List.set_cons_succ])
              clear hK1
              refine reg_take 14 (v := ?_) rfl (by kernel_rfl) (fun _ _ _ h => h) (by rfl) hH ?_ ?_
              rotate_left
              · intro w hSw; (try dsimp only at hSw); go_simp; (try with_reducible rfl)
              (try simp only [Act.put, List.setIfInBounds_toArray, List.set_cons_zero, List.set_cons_succ])
              refine reg_take 15 (v := ?_) rfl (by kernel_rfl) (fun _ _ _ h => h) (by rfl) hH ?_ ?_
              rotate_left
              · intro w hSw; (try dsimp only at hSw); go_simp; (try with_reducible rfl)
              (try simp only [Act.put, List.setIfInBounds_toArray, List.set_cons_zero, List.set_cons_succ])
              refine reg_take 16 (v := ?_) rfl (by kernel_rfl) (fun _ _ _ h => h) (by rfl) hH ?_ ?_
              rotate_left
              · intro w hSw; (try dsimp only at hSw); go_simp; (try with_reducible rfl)
              (try simp only [Act.put, List.setIfInBounds_toArray, List.set_cons_zero, List.set_cons_succ])
              have hzl := hZ.lt
              refine wpAnyH_ready (rs := [18]) (by kernel_rfl) (by simp) ?_
              refine reg_cons _ rfl (fun K1 hK1 => ?_) AllReadyH.nil
              rw [if_pos (by rfl)]
              refine wp_store_row 30 _ _ (by rfl) gZ #[.int .u16 (idE : Int), .int .u16 (flE : Int), .slice qAE qsE.length qcE, .slice aAE raE.length acE, .slice bAE rbE.length bdE, .slice cAE rcE.length ccE] (by rfl) (by rfl) _ _ hZ (by kernel_rfl) rfl (by kernel_rfl) ?_
              refine hK1.out _ _ trivial (fun hH => ?_)
              (try simp only [Act.put, List.setIfInBounds_toArray, List.set_cons_zero, List.set_cons_succ])
              clear hK1
              refine reg_take 19 (v := ?_) rfl (by kernel_rfl) (fun _ _ _ h => h) (by rfl) hH ?_ ?_
              rotate_left
              · intro w hSw; (try dsimp only at hSw); go_simp; (try with_reducible rfl)
              (try simp only [Act.put, List.setIfInBounds_toArray, List.set_cons_zero, List.set_cons_succ])
              refine wpAnyH_done (by kernel_rfl) ?_ _
              go_wp2_with fail
              go_ret
              exact ⟨rfl, HB14.out.trans ((hB.mono HB14.out.size).trans ((Only.row _ _ _).below (by have := HB14.out.size; omega) (by have := HB14.out.size; have := hB.size; omega)))⟩
        · go_simp
          obtain ⟨gZ, hgZ⟩ : ∃ g, g = v3.heap.size := ⟨_, rfl⟩
          have hn : Below v3.heap.size v3 (v3.alloc (.cells #[.int .u16 0, .int .u16 0, .slice none 0 0, .slice none 0 0, .slice none 0 0, .slice none 0 0] 30)) := below_new _ _
          have hZ : Vx (v3.alloc (.cells #[.int .u16 0, .int .u16 0, .slice none 0 0, .slice none 0 0, .slice none 0 0, .slice none 0 0] 30)) gZ 30 zM6 := by rw [hgZ]; exact Vx.new v3 _ _
          have hgZ2 : w14.heap.size ≤ gZ := by have := hB.size; omega
          have hne : ∀ q, (Value.slice CA F.length Cc).ownBlock = some q → q ≠ gZ := fun q hq => by have := ow_block_lt hC q hq; omega
          replace hC := hC.far hn
          replace hT := (hT.below hn).more hn.size
          rw [← hgZ]
          replace hB := hB.trans (hn.mono hB.size)
          clear hn hgZ
          generalize v3.alloc (.cells #[.int .u16 0, .int .u16 0, .slice none 0 0, .slice none 0 0, .slice none 0 0, .slice none 0 0] 30) = v4 at *
          refine hK1.out _ _ trivial (fun hH => ?_)
          (try simp only [Act.put, List.setIfInBounds_toArray, List.set_cons_zero, List.set_cons_succ])
          clear hK1
          refine wpAnyH_ready (rs := [12]) (by kernel_rfl) (by simp) ?_
          refine reg_cons _ rfl (fun K1 hK1 => ?_) AllReadyH.nil
          · refine step_app _ rfl _ _ _ _ rfl w14.heap.size 5 i0 (.int .u8 0) 1 Try.underlying22 hi hz0 hz1 hz2 rfl (Nat.le_refl _) (.slice CA F.length Cc) (bc F) hC rfl (.slice TA (T.length + 1) Tc) rfl (T.length + 1) (bc (T ++ [0])) (hT.src Try.underlying22 (bc_one _)) (by rw [bc_length]; omega) hB.size ?_
            intro vd v5 hoD hgD hsD
            obtain ⟨DA, Dc, rfl, hDc, hD⟩ := hoD.form6 (F.length + (T.length + 1)) (by simp)
            have e : bc F ++ bc (T ++ [0]) = bc (F ++ (T ++ [0])) := by simp [bc]
            rw [e] at hD
            replace hZ := hZ.grown hgD.1 (fun e => hne gZ e.symm rfl)
            clear hne
            replace hB := hB.trans (hgD.below hC.lt hB.size)
            clear hgD hoD hC hT e hsD
            refine hK1.out _ _ trivial (fun hH => ?_)
            (try simp only [Act.put, List.setIfInBounds_toArray, List.set_cons_zero, List.set_cons_succ])
            clear hK1
            refine wpAnyH_ready (rs := [13]) (by kernel_rfl) (by simp) ?_
            refine reg_cons _ rfl (fun K1 hK1 => ?_) AllReadyH.nil
            · go_simp
              go_at_call 14
              refine (readE_atL DA Dc (F.length + (T.length + 1)) (F ++ (T ++ [0])) (by simp) zM 173 HLA.out v5 hD hDc (by omega)).mono ?_
              rintro e v6 ⟨x, hxE, rfl, hmrE, hbE⟩
              obtain ⟨idE, flE, qAE, qcE, qsE, aAE, acE, raE, bAE, bdE, rbE, cAE, ccE, rcE⟩ := x
              unfold MR.cells
              (try dsimp only)
              replace hZ := hZ.below hbE hZ.lt
              replace hB := hB.trans (hbE.mono hB.size)
              clear hbE hmrE hxE hD
              refine hK1.out _ _ trivial (fun hH => ?_)
              (try simp only [Act.put, List.setIfInBounds_toArray, List.set_cons_zero, List.set_cons_succ])
              clear hK1
              refine reg_take 14 (v := ?_) rfl (by kernel_rfl) (fun _ _ _ h => h) (by rfl) hH ?_ ?_
              rotate_left
              · intro w hSw; (try dsimp only at hSw); go_simp; (try with_reducible rfl)
              (try simp only [Act.put, List.setIfInBounds_toArray, List.set_cons_zero, List.set_cons_succ])
              refine reg_take 15 (v := ?_) rfl (by kernel_rfl) (fun _ _ _ h => h) (by rfl) hH ?_ ?_
              rotate_left
              · intro w hSw; (try dsimp only at hSw); go_simp; (try with_reducible rfl)
              (try simp only [Act.put, List.setIfInBounds_toArray, List.set_cons_zero, List.set_cons_succ])
              refine reg_take 16 (v := ?_) rfl (by kernel_rfl) (fun _ _ _ h => h) (by rfl) hH ?_ ?_
              rotate_left
              · intro w hSw; (try dsimp only at hSw); go_simp; (try with_reducible rfl)
              (try simp only [Act.put, List.setIfInBounds_toArray, List.set_cons_zero, List.set_cons_succ])
              have hzl := hZ.lt
              refine wpAnyH_ready (rs := [18]) (by kernel_rfl) (by simp) ?_
              refine reg_cons _ rfl (fun K1 hK1 => ?_) AllReadyH.nil
              rw [if_pos (by rfl)]
              refine wp_store_row 30 _ _ (by rfl) gZ #[.int .u16 (idE : Int), .int .u16 (flE : Int), .slice qAE qsE.length qcE, .slice aAE raE.length acE, .slice bAE rbE.length bdE, .slice cAE rcE.length ccE] (by rfl) (by rfl) _ _ hZ (by kernel_rfl) rfl (by kernel_rfl) ?_
              refine hK1.out _ _ trivial (fun hH => ?_)
              (try simp only [Act.put, List.setIfInBounds_toArray, List.set_cons_zero, List.set_cons_succ])
              clear hK1
              refine reg_take 19 (v := ?_) rfl (by kernel_rfl) (fun _ _ _ h => h) (by rfl) hH ?_ ?_
              rotate_left
              · intro w hSw; (try dsimp only at hSw); go_simp; (try with_reducible rfl)
              (try simp only [Act.put, List.setIfInBounds_toArray, List.set_cons_zero, List.set_cons_succ])
              refine wpAnyH_done (by kernel_rfl) ?_ _
              go_wp2_with fail
              go_ret
              exact ⟨rfl, HB14.out.trans ((hB.mono HB14.out.size).trans ((Only.row _ _ _).below (by have := HB14.out.size; omega) (by have := HB14.out.size; have := hB.size; omega)))⟩
      · go_simp
        obtain ⟨gZ, hgZ⟩ : ∃ g, g = v2.heap.size := ⟨_, rfl⟩
        have hn : Below v2.heap.size v2 (v2.alloc (.cells #[.int .u16 0, .int .u16 0, .slice none 0 0, .slice none 0 0, .slice none 0 0, .slice none 0 0] 30)) := below_new _ _
        have hZ : Vx (v2.alloc (.cells #[.int .u16 0, .int .u16 0, .slice none 0 0, .slice none 0 0, .slice none 0 0, .slice none 0 0] 30)) gZ 30 zM6 := by rw [hgZ]; exact Vx.new v2 _ _
        have hgZ2 : w14.heap.size ≤ gZ := by have := hB.size; omega
        have hne : ∀ q, (Value.slice CA F.length Cc).ownBlock = some q → q ≠ gZ := fun q hq => by have := ow_block_lt hC q hq; omega
        replace hC := hC.far hn
        replace hL := (hL.below hn).more hn.size
        rw [← hgZ]
        replace hB := hB.trans (hn.mono hB.size)
        clear hn hgZ
        generalize v2.alloc (.cells #[.int .u16 0, .int .u16 0, .slice none 0 0, .slice none 0 0, .slice none 0 0, .slice none 0 0] 30) = v3 at *
        refine hK1.out _ _ trivial (fun hH => ?_)
        (try simp only [Act.put, List.setIfInBounds_toArray, List.set_cons_zero, List.set_cons_succ])
        clear hK1
        refine wpAnyH_ready (rs := [11]) (by kernel_rfl) (by simp) ?_
        refine reg_cons _ rfl (fun K1 hK1 => ?_) AllReadyH.nil
        · refine step_appG _ rfl _ _ _ _ rfl _ 1 5 i0 (.int .u8 0) 1 Try.underlying22 hi hz0 hz1 hz2 rfl (Nat.le_refl _) (Nat.le_refl _) A3 T.length (bc T) rfl (by rw [Nat.mul_one]; have := HT3.out.preB hTle; rw [← HT3b.out] at this; exact (this.below (hB.mono HB14.out.size)).more (Nat.le_refl _)) (.slice (some ⟨gL, 0, none⟩) 1 1) rfl 1 [.int .u8 0] (hL.src Try.underlying22 (by simp [Value.oneCell'])) (by omega) (by omega) ?_
          intro vt v4 howT hbT
          obtain ⟨TA, Tc, rfl, hTc, _, hTr⟩ := howT.form
          have hT : Rd v4 v4.heap.size TA (T.length + 1) (bc (T ++ [0])) := by
            rw [Nat.mul_one] at hTr
            have e : bc (T ++ [0]) = bc T ++ [.int .u8 0] := by simp [bc]
            rw [e]; exact hTr
          replace hC := hC.far hbT
          replace hZ := hZ.below hbT hZ.lt
          replace hB := hB.trans (hbT.mono hB.size)
          clear hbT howT hTr hL
          refine hK1.out _ _ trivial (fun hH => ?_)
          (try simp only [Act.put, List.setIfInBounds_toArray, List.set_cons_zero, List.set_cons_succ])
          clear hK1
          refine wpAnyH_ready (rs := [12]) (by kernel_rfl) (by simp) ?_
          refine reg_cons _ rfl (fun K1 hK1 => ?_) AllReadyH.nil
          · refine step_app _ rfl _ _ _ _ rfl w14.heap.size 5 i0 (.int .u8 0) 1 Try.underlying22 hi hz0 hz1 hz2 rfl (Nat.le_refl _) (.slice CA F.length Cc) (bc F) hC rfl (.slice TA (T.length + 1) Tc) rfl (T.length + 1) (bc (T ++ [0])) (hT.src Try.underlying22 (bc_one _)) (by rw [bc_length]; omega) hB.size ?_
            intro vd v5 hoD hgD hsD
            obtain ⟨DA, Dc, rfl, hDc, hD⟩ := hoD.form6 (F.length + (T.length + 1)) (by simp)
            have e : bc F ++ bc (T ++ [0]) = bc (F ++ (T ++ [0])) := by simp [bc]
            rw [e] at hD
            replace hZ := hZ.grown hgD.1 (fun e => hne gZ e.symm rfl)
            clear hne
            replace hB := hB.trans (hgD.below hC.lt hB.size)
            clear hgD hoD hC hT e hsD
            refine hK1.out _ _ trivial (fun hH => ?_)
            (try simp only [Act.put, List.setIfInBounds_toArray, List.set_cons_zero, List.set_cons_succ])
            clear hK1
            refine wpAnyH_ready (rs := [13]) (by kernel_rfl) (by simp) ?_
            refine reg_cons _ rfl (fun K1 hK1 => ?_) AllReadyH.nil
            · go_simp
              go_at_call 14
              refine (readE_atL DA Dc (F.length + (T.length + 1)) (F ++ (T ++ [0])) (by simp) zM 173 HLA.out v5 hD hDc (by omega)).mono ?_
              rintro e v6 ⟨x, hxE, rfl, hmrE, hbE⟩
              obtain ⟨idE, flE, qAE, qcE, qsE, aAE, acE, raE, bAE, bdE, rbE, cAE, ccE, rcE⟩ := x
              unfold MR.cells
              (try dsimp only)
              replace hZ := hZ.below hbE hZ.lt
              replace hB := hB.trans (hbE.mono hB.size)
              clear hbE hmrE hxE hD
              refine hK1.out _ _ trivial (fun hH => ?_)
              (try simp only [Act.put, List.setIfInBounds_toArray, List.set_cons_zero, List.set_cons_succ])
              clear hK1
              refine reg_take 14 (v := ?_) rfl (by kernel_rfl) (fun _ _ _ h => h) (by rfl) hH ?_ ?_
              rotate_left
              · intro w hSw; (try dsimp only at hSw); go_simp; (try with_reducible rfl)
              (try simp only [Act.put, List.setIfInBounds_toArray, List.set_cons_zero, List.set_cons_succ])
              refine reg_take 15 (v := ?_) rfl (by kernel_rfl) (fun _ _ _ h => h) (by rfl) hH ?_ ?_
              rotate_left
              · intro w hSw; (try dsimp only at hSw); go_simp; (try with_reducible rfl)
              (try simp only [Act.put, List.setIfInBounds_toArray, List.set_cons_zero, List.set_cons_succ])
              refine reg_take 16 (v := ?_) rfl (by kernel_rfl) (fun _ _ _ h => h) (by rfl) hH ?_ ?_
              rotate_left
              · intro w hSw; (try dsimp only at hSw); go_simp; (try with_reducible rfl)
              (try simp only [Act.put, List.setIfInBounds_toArray, List.set_cons_zero, List.set_cons_succ])
              have hzl := hZ.lt
              refine wpAnyH_ready (rs := [18]) (by kernel_rfl) (by simp) ?_
              refine reg_cons _ rfl (fun K1 hK1 => ?_) AllReadyH.nil
              rw [if_pos (by rfl)]
              refine wp_store_row 30 _ _ (by rfl) gZ #[.int .u16 (idE : Int), .int .u16 (flE : Int), .slice qAE qsE.length qcE, .slice aAE raE.length acE, .slice bAE rbE.length bdE, .slice cAE rcE.length ccE] (by rfl) (by rfl) _ _ hZ (by kernel_rfl) rfl (by kernel_rfl) ?_
              refine hK1.out _ _ trivial (fun hH => ?_)
              (try simp only [Act.put, List.setIfInBounds_toArray, List.set_cons_zero, List.set_cons_succ])
              clear hK1
              refine reg_take 19 (v := ?_) rfl (by kernel_rfl) (fun _ _ _ h => h) (by rfl) hH ?_ ?_
              rotate_left
              · intro w hSw; (try dsimp only at hSw); go_simp; (try with_reducible rfl)
              (try simp only [Act.put, List.setIfInBounds_toArray, List.set_cons_zero, List.set_cons_succ])
              refine wpAnyH_done (by kernel_rfl) ?_ _
              go_wp2_with fail
              go_ret
              exact ⟨rfl, HB14.out.trans ((hB.mono HB14.out.size).trans ((Only.row _ _ _).below (by have := HB14.out.size; omega) (by have := HB14.out.size; have := hB.size; omega)))⟩
    · go_simp
      obtain ⟨gZ, hgZ⟩ : ∃ g, g = v1.heap.size := ⟨_, rfl⟩
      have hn : Below v1.heap.size v1 (v1.alloc (.cells #[.int .u16 0, .int .u16 0, .slice none 0 0, .slice none 0 0, .slice none 0 0, .slice none 0 0] 30)) := below_new _ _
      have hZ : Vx (v1.alloc (.cells #[.int .u16 0, .int .u16 0, .slice none 0 0, .slice none 0 0, .slice none 0 0, .slice none 0 0] 30)) gZ 30 zM6 := by rw [hgZ]; exact Vx.new v1 _ _
      have hgZ2 : w14.heap.size ≤ gZ := by have := hB.size; omega
      have hne : ∀ q, (Value.slice CA F.length Cc).ownBlock = some q → q ≠ gZ := fun q hq => by have := ow_block_lt hC q hq; omega
      replace hC := hC.far hn
      rw [← hgZ]
      replace hB := hB.trans (hn.mono hB.size)
      clear hn hgZ
      generalize v1.alloc (.cells #[.int .u16 0, .int .u16 0, .slice none 0 0, .slice none 0 0, .slice none 0 0, .slice none 0 0] 30) = v2 at *
      refine hK1.out _ _ trivial (fun hH => ?_)
      (try simp only [Act.put, List.setIfInBounds_toArray, List.set_cons_zero, List.set_cons_succ])
      clear hK1
      refine wpAnyH_ready (rs := [10]) (by kernel_rfl) (by simp) ?_
      refine reg_cons _ rfl (fun K1 hK1 => ?_) AllReadyH.nil
      · go_simp
        obtain ⟨gL, hgL⟩ : ∃ g, g = v2.heap.size := ⟨_, rfl⟩
        have hn : Below v2.heap.size v2 (v2.alloc (.cells #[.int .u8 0] 5)) := below_new _ _
        have hL : Rd (v2.alloc (.cells #[.int .u8 0] 5)) (v2.alloc (.cells #[.int .u8 0] 5)).heap.size (some ⟨gL, 0, none⟩) 1 [.int .u8 0] := by rw [hgL]; exact Rd.lit_top0 v2 5 [.int .u8 0] 1 rfl
        rw [← hgL]
        replace hZ := hZ.below hn hZ.lt
        replace hC := hC.far hn
        replace hB := hB.trans (hn.mono hB.size)
        clear hn hgL
        generalize v2.alloc (.cells #[.int .u8 0] 5) = v3 at *
        refine hK1.out _ _ trivial (fun hH => ?_)
        (try simp only [Act.put, List.setIfInBounds_toArray, List.set_cons_zero, List.set_cons_succ])
        clear hK1
        refine wpAnyH_ready (rs := [11]) (by kernel_rfl) (by simp) ?_
        refine reg_cons _ rfl (fun K1 hK1 => ?_) AllReadyH.nil
        · refine step_appG _ rfl _ _ _ _ rfl _ 1 5 i0 (.int .u8 0) 1 Try.underlying22 hi hz0 hz1 hz2 rfl (Nat.le_refl _) (Nat.le_refl _) A3 T.length (bc T) rfl (by rw [Nat.mul_one]; have := HT3.out.preB hTle; rw [← HT3b.out] at this; exact (this.below (hB.mono HB14.out.size)).more (Nat.le_refl _)) (.slice (some ⟨gL, 0, none⟩) 1 1) rfl 1 [.int .u8 0] (hL.src Try.underlying22 (by simp [Value.oneCell'])) (by omega) (by omega) ?_
          intro vt v4 howT hbT
          obtain ⟨TA, Tc, rfl, hTc, _, hTr⟩ := howT.form
          have hT : Rd v4 v4.heap.size TA (T.length + 1) (bc (T ++ [0])) := by
            rw [Nat.mul_one] at hTr
            have e : bc (T ++ [0]) = bc T ++ [.int .u8 0] := by simp [bc]
            rw [e]; exact hTr
          replace hC := hC.far hbT
          replace hZ := hZ.below hbT hZ.lt
          replace hB := hB.trans (hbT.mono hB.size)
          clear hbT howT hTr hL
          refine hK1.out _ _ trivial (fun hH => ?_)
          (try simp only [Act.put, List.setIfInBounds_toArray, List.set_cons_zero, List.set_cons_succ])
          clear hK1
          refine wpAnyH_ready (rs := [12]) (by kernel_rfl) (by simp) ?_
          refine reg_cons _ rfl (fun K1 hK1 => ?_) AllReadyH.nil
          · refine step_app _ rfl _ _ _ _ rfl w14.heap.size 5 i0 (.int .u8 0) 1 Try.underlying22 hi hz0 hz1 hz2 rfl (Nat.le_refl _) (.slice CA F.length Cc) (bc F) hC rfl (.slice TA (T.length + 1) Tc) rfl (T.length + 1) (bc (T ++ [0])) (hT.src Try.underlying22 (bc_one _)) (by rw [bc_length]; omega) hB.size ?_
            intro vd v5 hoD hgD hsD
            obtain ⟨DA, Dc, rfl, hDc, hD⟩ := hoD.form6 (F.length + (T.length + 1)) (by simp)
            have e : bc F ++ bc (T ++ [0]) = bc (F ++ (T ++ [0])) := by simp [bc]
            rw [e] at hD
            replace hZ := hZ.grown hgD.1 (fun e => hne gZ e.symm rfl)
            clear hne
            replace hB := hB.trans (hgD.below hC.lt hB.size)
            clear hgD hoD hC hT e hsD
            refine hK1.out _ _ trivial (fun hH => ?_)
            (try simp only [Act.put, List.setIfInBounds_toArray, List.set_cons_zero, List.set_cons_succ])
            clear hK1
            refine wpAnyH_ready (rs := [13]) (by kernel_rfl) (by simp) ?_
            refine reg_cons _ rfl (fun K1 hK1 => ?_) AllReadyH.nil
            · go_simp
              go_at_call 14
              refine (readE_atL DA Dc (F.length + (T.length + 1)) (F ++ (T ++ [0])) (by simp) zM 173 HLA.out v5 hD hDc (by omega)).mono ?_
              rintro e v6 ⟨x, hxE, rfl, hmrE, hbE⟩
              obtain ⟨idE, flE, qAE, qcE, qsE, aAE, acE, raE, bAE, bdE, rbE, cAE, ccE, rcE⟩ := x
              unfold MR.cells
              (try dsimp only)
              replace hZ := hZ.below hbE hZ.lt
              replace hB := hB.trans (hbE.mono hB.size)
              clear hbE hmrE hxE hD
              refine hK1.out _ _ trivial (fun hH => ?_)
              (try simp only [Act.put, List.setIfInBounds_toArray, List.set_cons_zero, List.set_cons_succ])
              clear hK1
              refine reg_take 14 (v := ?_) rfl (by kernel_rfl) (fun _ _ _ h => h) (by rfl) hH ?_ ?_
              rotate_left
              · intro w hSw; (try dsimp only at hSw); go_simp; (try with_reducible rfl)
              (try simp only [Act.put, List.setIfInBounds_toArray, List.set_cons_zero, List.set_cons_succ])
              refine reg_take 15 (v := ?_) rfl (by kernel_rfl) (fun _ _ _ h => h) (by rfl) hH ?_ ?_
              rotate_left
              · intro w hSw; (try dsimp only at hSw); go_simp; (try with_reducible rfl)
              (try simp only [Act.put, List.setIfInBounds_toArray, List.set_cons_zero, List.set_cons_succ])
              refine reg_take 16 (v := ?_) rfl (by kernel_rfl) (fun _ _ _ h => h) (by rfl) hH ?_ ?_
              rotate_left
              · intro w hSw; (try dsimp only at hSw); go_simp; (try with_reducible rfl)
              (try simp only [Act.put, List.setIfInBounds_toArray, List.set_cons_zero, List.set_cons_succ])
              have hzl := hZ.lt
              refine wpAnyH_ready (rs := [18]) (by kernel_rfl) (by simp) ?_
              refine reg_cons _ rfl (fun K1 hK1 => ?_) AllReadyH.nil
              rw [if_pos (by rfl)]
              refine wp_store_row 30 _ _ (by rfl) gZ #[.int .u16 (idE : Int), .int .u16 (flE : Int), .slice qAE qsE.length qcE, .slice aAE raE.length acE, .slice bAE rbE.length bdE, .slice cAE rcE.length ccE] (by rfl) (by rfl) _ _ hZ (by kernel_rfl) rfl (by kernel_rfl) ?_
              refine hK1.out _ _ trivial (fun hH => ?_)
              (try simp only [Act.put, List.setIfInBounds_toArray, List.set_cons_zero, List.set_cons_succ])
              clear hK1
              refine reg_take 19 (v := ?_) rfl (by kernel_rfl) (fun _ _ _ h => h) (by rfl) hH ?_ ?_
              rotate_left
              · intro w hSw; (try dsimp only at hSw); go_simp; (try with_reducible rfl)
              (try simp only [Act.put, List.setIfInBounds_toArray, List.set_cons_zero, List.set_cons_succ])
              refine wpAnyH_done (by kernel_rfl) ?_ _
              go_wp2_with fail
              go_ret
              exact ⟨rfl, HB14.out.trans ((hB.mono HB14.out.size).trans ((Only.row _ _ _).below (by have := HB14.out.size; omega) (by have := HB14.out.size; have := hB.size; omega)))⟩
  · go_simp
    obtain ⟨gL, hgL⟩ : ∃ g, g = v0.heap.size := ⟨_, rfl⟩
    have hn : Below v0.heap.size v0 (v0.alloc (.cells #[.int .u8 0] 5)) := below_new _ _
    have hL : Rd (v0.alloc (.cells #[.int .u8 0] 5)) (v0.alloc (.cells #[.int .u8 0] 5)).heap.size (some ⟨gL, 0, none⟩) 1 [.int .u8 0] := by rw [hgL]; exact Rd.lit_top0 v0 5 [.int .u8 0] 1 rfl
    rw [← hgL]
    replace hB := hB.trans (hn.mono hB.size)
    clear hn hgL
    generalize v0.alloc (.cells #[.int .u8 0] 5) = v1 at *
    refine hK1.out _ _ trivial (fun hH => ?_)
    (try simp only [Act.put, List.setIfInBounds_toArray, List.set_cons_zero, List.set_cons_succ])
    clear hK1
    refine wpAnyH_ready (rs := [1, 17]) (by kernel_rfl) (by simp) ?_
    refine reg_cons _ rfl (fun K1 hK1 => ?_) (reg_cons _ rfl (fun K1 hK1 => ?_) AllReadyH.nil)
    · go_simp
      go_at_call 31
      refine (bclone A6 k6 F v1 _ (Nat.le_refl _) ((HR6.out.below hB).more hB.size) (by omega)).mono ?_
      rintro e v2 ⟨vc, rfl, hoC, hbC⟩
      obtain ⟨CA, Cc, rfl, hCc, hCr⟩ := hoC.form6 _ (bc_length _)
      (try dsimp only)
      replace hL := (hL.below hbC).more hbC.size
      have hC := hoC.mono hB.size
      replace hB := hB.trans (hbC.mono hB.size)
      clear hoC hbC hCr
      refine hK1.out _ _ trivial (fun hH => ?_)
      (try simp only [Act.put, List.setIfInBounds_toArray, List.set_cons_zero, List.set_cons_succ])
      clear hK1
      refine wpAnyH_ready (rs := [11, 17]) (by kernel_rfl) (by simp) ?_
      refine reg_cons _ rfl (fun K1 hK1 => ?_) (reg_cons _ rfl (fun K1 hK1 => ?_) AllReadyH.nil)
      · refine step_appG _ rfl _ _ _ _ rfl _ 1 5 i0 (.int .u8 0) 1 Try.underlying22 hi hz0 hz1 hz2 rfl (Nat.le_refl _) (Nat.le_refl _) A3 T.length (bc T) rfl (by rw [Nat.mul_one]; have := HT3.out.preB hTle; rw [← HT3b.out] at this; exact (this.below (hB.mono HB14.out.size)).more (Nat.le_refl _)) (.slice (some ⟨gL, 0, none⟩) 1 1) rfl 1 [.int .u8 0] (hL.src Try.underlying22 (by simp [Value.oneCell'])) (by omega) (by omega) ?_
        intro vt v3 howT hbT
        obtain ⟨TA, Tc, rfl, hTc, _, hTr⟩ := howT.form
        have hT : Rd v3 v3.heap.size TA (T.length + 1) (bc (T ++ [0])) := by
          rw [Nat.mul_one] at hTr
          have e : bc (T ++ [0]) = bc T ++ [.int .u8 0] := by simp [bc]
          rw [e]; exact hTr
        replace hC := hC.far hbT
        replace hB := hB.trans (hbT.mono hB.size)
        clear hbT howT hTr hL
        refine hK1.out _ _ trivial (fun hH => ?_)
        (try simp only [Act.put, List.setIfInBounds_toArray, List.set_cons_zero, List.set_cons_succ])
        clear hK1
        refine wpAnyH_ready (rs := [12, 17]) (by kernel_rfl) (by simp) ?_
        refine reg_cons _ rfl (fun K1 hK1 => ?_) (reg_cons _ rfl (fun K1 hK1 => ?_) AllReadyH.nil)
        · refine step_app _ rfl _ _ _ _ rfl w14.heap.size 5 i0 (.int .u8 0) 1 Try.underlying22 hi hz0 hz1 hz2 rfl (Nat.le_refl _) (.slice CA F.length Cc) (bc F) hC rfl (.slice TA (T.length + 1) Tc) rfl (T.length + 1) (bc (T ++ [0])) (hT.src Try.underlying22 (bc_one _)) (by rw [bc_length]; omega) hB.size ?_
          intro vd v4 hoD hgD hsD
          obtain ⟨DA, Dc, rfl, hDc, hD⟩ := hoD.form6 (F.length + (T.length + 1)) (by simp)
          have e : bc F ++ bc (T ++ [0]) = bc (F ++ (T ++ [0])) := by simp [bc]
          rw [e] at hD
          replace hB := hB.trans (hgD.below hC.lt hB.size)
          clear hgD hoD hC hT e hsD
          refine hK1.out _ _ trivial (fun hH => ?_)
          (try simp only [Act.put, List.setIfInBounds_toArray, List.set_cons_zero, List.set_cons_succ])
          clear hK1
          refine wpAnyH_ready (rs := [13, 17]) (by kernel_rfl) (by simp) ?_
          refine reg_cons _ rfl (fun K1 hK1 => ?_) (reg_cons _ rfl (fun K1 hK1 => ?_) AllReadyH.nil)
          · go_simp
            go_at_call 14
            refine (readE_atL DA Dc (F.length + (T.length + 1)) (F ++ (T ++ [0])) (by simp) zM 173 HLA.out v4 hD hDc (by omega)).mono ?_
            rintro e v5 ⟨x, hxE, rfl, hmrE, hbE⟩
            obtain ⟨idE, flE, qAE, qcE, qsE, aAE, acE, raE, bAE, bdE, rbE, cAE, ccE, rcE⟩ := x
            unfold MR.cells
            (try dsimp only)
            replace hB := hB.trans (hbE.mono hB.size)
            clear hbE hmrE hxE hD
            refine hK1.out _ _ trivial (fun hH => ?_)
            (try simp only [Act.put, List.setIfInBounds_toArray, List.set_cons_zero, List.set_cons_succ])
            clear hK1
            refine reg_take 14 (v := ?_) rfl (by kernel_rfl) (fun _ _ _ h => h) (by rfl) hH ?_ ?_
            rotate_left
            · intro w hSw; (try dsimp only at hSw); go_simp; (try with_reducible rfl)
            (try simp only [Act.put, List.setIfInBounds_toArray, List.set_cons_zero, List.set_cons_succ])
            refine reg_take 15 (v := ?_) rfl (by kernel_rfl) (fun _ _ _ h => h) (by rfl) hH ?_ ?_
            rotate_left
            · intro w hSw; (try dsimp only at hSw); go_simp; (try with_reducible rfl)
            (try simp only [Act.put, List.setIfInBounds_toArray, List.set_cons_zero, List.set_cons_succ])
            refine reg_take 16 (v := ?_) rfl (by kernel_rfl) (fun _ _ _ h => h) (by rfl) hH ?_ ?_
            rotate_left
            · intro w hSw; (try dsimp only at hSw); go_simp; (try with_reducible rfl)
            (try simp only [Act.put, List.setIfInBounds_toArray, List.set_cons_zero, List.set_cons_succ])
            refine wpAnyH_ready (rs := [17]) (by kernel_rfl) (by simp) ?_
            refine reg_cons _ rfl (fun K1 hK1 => ?_) AllReadyH.nil
            · go_simp
              obtain ⟨gZ, hgZ⟩ : ∃ g, g = v5.heap.size := ⟨_, rfl⟩
              have hn : Below v5.heap.size v5 (v5.alloc (.cells #[.int .u16 0, .int .u16 0, .slice none 0 0, .slice none 0 0, .slice none 0 0, .slice none 0 0] 30)) := below_new _ _
              have hZ : Vx (v5.alloc (.cells #[.int .u16 0, .int .u16 0, .slice none 0 0, .slice none 0 0, .slice none 0 0, .slice none 0 0] 30)) gZ 30 zM6 := by rw [hgZ]; exact Vx.new v5 _ _
              have hgZ2 : w14.heap.size ≤ gZ := by have := hB.size; omega
              rw [← hgZ]
              replace hB := hB.trans (hn.mono hB.size)
              clear hn hgZ
              generalize v5.alloc (.cells #[.int .u16 0, .int .u16 0, .slice none 0 0, .slice none 0 0, .slice none 0 0, .slice none 0 0] 30) = v6 at *
              refine hK1.out _ _ trivial (fun hH => ?_)
              (try simp only [Act.put, List.setIfInBounds_toArray, List.set_cons_zero, List.set_cons_succ])
              clear hK1
              have hzl := hZ.lt
              refine wpAnyH_ready (rs := [18]) (by kernel_rfl) (by simp) ?_
              refine reg_cons _ rfl (fun K1 hK1 => ?_) AllReadyH.nil
              rw [if_pos (by rfl)]
              refine wp_store_row 30 _ _ (by rfl) gZ #[.int .u16 (idE : Int), .int .u16 (flE : Int), .slice qAE qsE.length qcE, .slice aAE raE.length acE, .slice bAE rbE.length bdE, .slice cAE rcE.length ccE] (by rfl) (by rfl) _ _ hZ (by kernel_rfl) rfl (by kernel_rfl) ?_
              refine hK1.out _ _ trivial (fun hH => ?_)
              (try simp only [Act.put, List.setIfInBounds_toArray, List.set_cons_zero, List.set_cons_succ])
              clear hK1
              refine reg_take 19 (v := ?_) rfl (by kernel_rfl) (fun _ _ _ h => h) (by rfl) hH ?_ ?_
              rotate_left
              · intro w hSw; (try dsimp only at hSw); go_simp; (try with_reducible rfl)
              (try simp only [Act.put, List.setIfInBounds_toArray, List.set_cons_zero, List.set_cons_succ])
              refine wpAnyH_done (by kernel_rfl) ?_ _
              go_wp2_with fail
              go_ret
              exact ⟨rfl, HB14.out.trans ((hB.mono HB14.out.size).trans ((Only.row _ _ _).below (by have := HB14.out.size; omega) (by have := HB14.out.size; have := hB.size; omega)))⟩
          · go_simp
            obtain ⟨gZ, hgZ⟩ : ∃ g, g = v4.heap.size := ⟨_, rfl⟩
            have hn : Below v4.heap.size v4 (v4.alloc (.cells #[.int .u16 0, .int .u16 0, .slice none 0 0, .slice none 0 0, .slice none 0 0, .slice none 0 0] 30)) := below_new _ _
            have hZ : Vx (v4.alloc (.cells #[.int .u16 0, .int .u16 0, .slice none 0 0, .slice none 0 0, .slice none 0 0, .slice none 0 0] 30)) gZ 30 zM6 := by rw [hgZ]; exact Vx.new v4 _ _
            have hgZ2 : w14.heap.size ≤ gZ := by have := hB.size; omega
            replace hD := (hD.below hn).more hn.size
            rw [← hgZ]
            replace hB := hB.trans (hn.mono hB.size)
            clear hn hgZ
            generalize v4.alloc (.cells #[.int .u16 0, .int .u16 0, .slice none 0 0, .slice none 0 0, .slice none 0 0, .slice none 0 0] 30) = v5 at *
            refine hK1.out _ _ trivial (fun hH => ?_)
            (try simp only [Act.put, List.setIfInBounds_toArray, List.set_cons_zero, List.set_cons_succ])
            clear hK1
            refine wpAnyH_ready (rs := [13]) (by kernel_rfl) (by simp) ?_
            refine reg_cons _ rfl (fun K1 hK1 => ?_) AllReadyH.nil
            · go_simp
              go_at_call 14
              refine (readE_atL DA Dc (F.length + (T.length + 1)) (F ++ (T ++ [0])) (by simp) zM 173 HLA.out v5 hD hDc (by omega)).mono ?_
              rintro e v6 ⟨x, hxE, rfl, hmrE, hbE⟩
              obtain ⟨idE, flE, qAE, qcE, qsE, aAE, acE, raE, bAE, bdE, rbE, cAE, ccE, rcE⟩ := x
              unfold MR.cells
              (try dsimp only)
              replace hZ := hZ.below hbE hZ.lt
              replace hB := hB.trans (hbE.mono hB.size)
              clear hbE hmrE hxE hD
              refine hK1.out _ _ trivial (fun hH => ?_)
              (try simp only [Act.put, List.setIfInBounds_toArray, List.set_cons_zero, List.set_cons_succ])
              clear hK1
              refine reg_take 14 (v := ?_) rfl (by kernel_rfl) (fun _ _ _ h => h) (by rfl) hH ?_ ?_
              rotate_left
              · intro w hSw; (try dsimp only at hSw); go_simp; (try with_reducible rfl)
              (try simp only [Act.put, List.setIfInBounds_toArray, List.set_cons_zero, List.set_cons_succ])
              refine reg_take 15 (v := ?_) rfl (by kernel_rfl) (fun _ _ _ h => h) (by rfl) hH ?_ ?_
              rotate_left
              · intro w hSw; (try dsimp only at hSw); go_simp; (try with_reducible rfl)
              (try simp only [Act.put, List.setIfInBounds_toArray, List.set_cons_zero, List.set_cons_succ])
              refine reg_take 16 (v := ?_) rfl (by kernel_rfl) (fun _ _ _ h => h) (by rfl) hH ?_ ?_
              rotate_left
              · intro w hSw; (try dsimp only at hSw); go_simp; (try with_reducible rfl)
              (try simp only [Act.put, List.setIfInBounds_toArray, List.set_cons_zero, List.set_cons_succ])
              have hzl := hZ.lt
              refine wpAnyH_ready (rs := [18]) (by kernel_rfl) (by simp) ?_
              refine reg_cons _ rfl (fun K1 hK1 => ?_) AllReadyH.nil
              rw [if_pos (by rfl)]
              refine wp_store_row 30 _ _ (by rfl) gZ #[.int .u16 (idE : Int), .int .u16 (flE : Int), .slice qAE qsE.length qcE, .slice aAE raE.length acE, .slice bAE rbE.length bdE, .slice cAE rcE.length ccE] (by rfl) (by rfl) _ _ hZ (by kernel_rfl) rfl (by kernel_rfl) ?_
              refine hK1.out _ _ trivial (fun hH => ?_)
              (try simp only [Act.put, List.setIfInBounds_toArray, List.set_cons_zero, List.set_cons_succ])
              clear hK1
              refine reg_take 19 (v := ?_) rfl (by kernel_rfl) (fun _ _ _ h => h) (by rfl) hH ?_ ?_
              rotate_left
              · intro w hSw; (try dsimp only at hSw); go_simp; (try with_reducible rfl)
              (try simp only [Act.put, List.setIfInBounds_toArray, List.set_cons_zero, List.set_cons_succ])
              refine wpAnyH_done (by kernel_rfl) ?_ _
              go_wp2_with fail
              go_ret
              exact ⟨rfl, HB14.out.trans ((hB.mono HB14.out.size).trans ((Only.row _ _ _).below (by have := HB14.out.size; omega) (by have := HB14.out.size; have := hB.size; omega)))⟩
        · go_simp
          obtain ⟨gZ, hgZ⟩ : ∃ g, g = v3.heap.size := ⟨_, rfl⟩
          have hn : Below v3.heap.size v3 (v3.alloc (.cells #[.int .u16 0, .int .u16 0, .slice none 0 0, .slice none 0 0, .slice none 0 0, .slice none 0 0] 30)) := below_new _ _
          have hZ : Vx (v3.alloc (.cells #[.int .u16 0, .int .u16 0, .slice none 0 0, .slice none 0 0, .slice none 0 0, .slice none 0 0] 30)) gZ 30 zM6 := by rw [hgZ]; exact Vx.new v3 _ _
          have hgZ2 : w14.heap.size ≤ gZ := by have := hB.size; omega
          have hne : ∀ q, (Value.slice CA F.length Cc).ownBlock = some q → q ≠ gZ := fun q hq => by have := ow_block_lt hC q hq; omega
          replace hC := hC.far hn
          replace hT := (hT.below hn).more hn.size
          rw [← hgZ]
          replace hB := hB.trans (hn.mono hB.size)
          clear hn hgZ
          generalize v3.alloc (.cells #[.int .u16 0, .int .u16 0, .slice none 0 0, .slice none 0 0, .slice none 0 0, .slice none 0 0] 30) = v4 at *
          refine hK1.out _ _ trivial (fun hH => ?_)
          (try simp only [Act.put, List.setIfInBounds_toArray, List.set_cons_zero, List.set_cons_succ])
          clear hK1
          refine wpAnyH_ready (rs := [12]) (by kernel_rfl) (by simp) ?_
          refine reg_cons _ rfl (fun K1 hK1 => ?_) AllReadyH.nil
          · refine step_app _ rfl _ _ _ _ rfl w14.heap.size 5 i0 (.int .u8 0) 1 Try.underlying22 hi hz0 hz1 hz2 rfl (Nat.le_refl _) (.slice CA F.length Cc) (bc F) hC rfl (.slice TA (T.length + 1) Tc) rfl (T.length + 1) (bc (T ++ [0])) (hT.src Try.underlying22 (bc_one _)) (by rw [bc_length]; omega) hB.size ?_
            intro vd v5 hoD hgD hsD
            obtain ⟨DA, Dc, rfl, hDc, hD⟩ := hoD.form6 (F.length + (T.length + 1)) (by simp)
            have e : bc F ++ bc (T ++ [0]) = bc (F ++ (T ++ [0])) := by simp [bc]
            rw [e] at hD
            replace hZ := hZ.grown hgD.1 (fun e => hne gZ e.symm rfl)
            clear hne
            replace hB := hB.trans (hgD.below hC.lt hB.size)
            clear hgD hoD hC hT e hsD
            refine hK1.out _ _ trivial (fun hH => ?_)
            (try simp only [Act.put, List.setIfInBounds_toArray, List.set_cons_zero, List.set_cons_succ])
            clear hK1
            refine wpAnyH_ready (rs := [13]) (by kernel_rfl) (by simp) ?_
            refine reg_cons _ rfl (fun K1 hK1 => ?_) AllReadyH.nil
            · go_simp
              go_at_call 14
              refine (readE_atL DA Dc (F.length + (T.length + 1)) (F ++ (T ++ [0])) (by simp) zM 173 HLA.out v5 hD hDc (by omega)).mono ?_
              rintro e v6 ⟨x, hxE, rfl, hmrE, hbE⟩
              obtain ⟨idE, flE, qAE, qcE, qsE, aAE, acE, raE, bAE, bdE, rbE, cAE, ccE, rcE⟩ := x
              unfold MR.cells
              (try dsimp only)
              replace hZ := hZ.below hbE hZ.lt
              replace hB := hB.trans (hbE.mono hB.size)
              clear hbE hmrE hxE hD
              refine hK1.out _ _ trivial (fun hH => ?_)
              (try simp only [Act.put, List.setIfInBounds_toArray, List.set_cons_zero, List.set_cons_succ])
              clear hK1
              refine reg_take 14 (v := ?_) rfl (by kernel_rfl) (fun _ _ _ h => h) (by rfl) hH ?_ ?_
              rotate_left
              · intro w hSw; (try dsimp only at hSw); go_simp; (try with_reducible rfl)
              (try simp only [Act.put, List.setIfInBounds_toArray, List.set_cons_zero, List.set_cons_succ])
              refine reg_take 15 (v := ?_) rfl (by kernel_rfl) (fun _ _ _ h => h) (by rfl) hH ?_ ?_
              rotate_left
              · intro w hSw; (try dsimp only at hSw); go_simp; (try with_reducible rfl)
              (try simp only [Act.put, List.setIfInBounds_toArray, List.set_cons_zero, List.set_cons_succ])
              refine reg_take 16 (v := ?_) rfl (by kernel_rfl) (fun _ _ _ h => h) (by rfl) hH ?_ ?_
              rotate_left
              · intro w hSw; (try dsimp only at hSw); go_simp; (try with_reducible rfl)
              (try simp only [Act.put, List.setIfInBounds_toArray, List.set_cons_zero, List.set_cons_succ])
              have hzl := hZ.lt
              refine wpAnyH_ready (rs := [18]) (by kernel_rfl) (by simp) ?_
              refine reg_cons _ rfl (fun K1 hK1 => ?_) AllReadyH.nil
              rw [if_pos (by rfl)]
              refine wp_store_row 30 _ _ (by rfl) gZ #[.int .u16 (idE : Int), .int .u16 (flE : Int), .slice qAE qsE.length qcE, .slice aAE raE.length acE, .slice bAE rbE.length bdE, .slice cAE rcE.length ccE] (by rfl) (by rfl) _ _ hZ (by kernel_rfl) rfl (by kernel_rfl) ?_
              refine hK1.out _ _ trivial (fun hH => ?_)
              (try simp only [Act.put, List.setIfInBounds_toArray, List.set_cons_zero, List.set_cons_succ])
              clear hK1
              refine reg_take 19 (v := ?_) rfl (by kernel_rfl) (fun _ _ _ h => h) (by rfl) hH ?_ ?_
              rotate_left
              · intro w hSw; (try dsimp only at hSw); go_simp; (try with_reducible rfl)
              (try simp only [Act.put, List.setIfInBounds_toArray, List.set_cons_zero, List.set_cons_succ])
              refine wpAnyH_done (by kernel_rfl) ?_ _
              go_wp2_with fail
              go_ret
              exact ⟨rfl, HB14.out.trans ((hB.mono HB14.out.size).trans ((Only.row _ _ _).below (by have := HB14.out.size; omega) (by have := HB14.out.size; have := hB.size; omega)))⟩
      · go_simp
        obtain ⟨gZ, hgZ⟩ : ∃ g, g = v2.heap.size := ⟨_, rfl⟩
        have hn : Below v2.heap.size v2 (v2.alloc (.cells #[.int .u16 0, .int .u16 0, .slice none 0 0, .slice none 0 0, .slice none 0 0, .slice none 0 0] 30)) := below_new _ _
        have hZ : Vx (v2.alloc (.cells #[.int .u16 0, .int .u16 0, .slice none 0 0, .slice none 0 0, .slice none 0 0, .slice none 0 0] 30)) gZ 30 zM6 := by rw [hgZ]; exact Vx.new v2 _ _
        have hgZ2 : w14.heap.size ≤ gZ := by have := hB.size; omega
        have hne : ∀ q, (Value.slice CA F.length Cc).ownBlock = some q → q ≠ gZ := fun q hq => by have := ow_block_lt hC q hq; omega
        replace hC := hC.far hn
        replace hL := (hL.below hn).more hn.size
        rw [← hgZ]
        replace hB := hB.trans (hn.mono hB.size)
        clear hn hgZ
        generalize v2.alloc (.cells #[.int .u16 0, .int .u16 0, .slice none 0 0, .slice none 0 0, .slice none 0 0, .slice none 0 0] 30) = v3 at *
        refine hK1.out _ _ trivial (fun hH => ?_)
        (try simp only [Act.put, List.setIfInBounds_toArray, List.set_cons_zero, List.set_cons_succ])
        clear hK1
        refine wpAnyH_ready (rs := [11]) (by kernel_rfl) (by simp) ?_
        refine reg_cons _ rfl (fun K1 hK1 => ?_) AllReadyH.nil
        · refine step_appG _ rfl _ _ _ _ rfl _ 1 5 i0 (.int .u8 0) 1 Try.underlying22 hi hz0 hz1 hz2 rfl (Nat.le_refl _) (Nat.le_refl _) A3 T.length (bc T) rfl (by rw [Nat.mul_one]; have := HT3.out.preB hTle; rw [← HT3b.out] at this; exact (this.below (hB.mono HB14.out.size)).more (Nat.le_refl _)) (.slice (some ⟨gL, 0, none⟩) 1 1) rfl 1 [.int .u8 0] (hL.src Try.underlying22 (by simp [Value.oneCell'])) (by omega) (by omega) ?_
          intro vt v4 howT hbT
          obtain ⟨TA, Tc, rfl, hTc, _, hTr⟩ := howT.form
          have hT : Rd v4 v4.heap.size TA (T.length + 1) (bc (T ++ [0])) := by
            rw [Nat.mul_one] at hTr
            have e : bc (T ++ [0]) = bc T ++ [.int .u8 0] := by simp [bc]
            rw [e]; exact hTr
          replace hC := hC.far hbT
          replace hZ := hZ.below hbT hZ.lt
          replace hB := hB.trans (hbT.mono hB.size)
          clear hbT howT hTr hL
          refine hK1.out _ _ trivial (fun hH => ?_)
          (try simp only [Act.put, List.setIfInBounds_toArray, List.set_cons_zero, List.set_cons_succ])
          clear hK1
          refine wpAnyH_ready (rs := [12]) (by kernel_rfl) (by simp) ?_
          refine reg_cons _ rfl (fun K1 hK1 => ?_) AllReadyH.nil
          · refine step_app _ rfl _ _ _ _ rfl w14.heap.size 5 i0 (.int .u8 0) 1 Try.underlying22 hi hz0 hz1 hz2 rfl (Nat.le_refl _) (.slice CA F.length Cc) (bc F) hC rfl (.slice TA (T.length + 1) Tc) rfl (T.length + 1) (bc (T ++ [0])) (hT.src Try.underlying22 (bc_one _)) (by rw [bc_length]; omega) hB.size ?_
            intro vd v5 hoD hgD hsD
            obtain ⟨DA, Dc, rfl, hDc, hD⟩ := hoD.form6 (F.length + (T.length + 1)) (by simp)
            have e : bc F ++ bc (T ++ [0]) = bc (F ++ (T ++ [0])) := by simp [bc]
            rw [e] at hD
            replace hZ := hZ.grown hgD.1 (fun e => hne gZ e.symm rfl)
            clear hne
            replace hB := hB.trans (hgD.below hC.lt hB.size)
            clear hgD hoD hC hT e hsD
            refine hK1.out _ _ trivial (fun hH => ?_)
            (try simp only [Act.put, List.setIfInBounds_toArray, List.set_cons_zero, List.set_cons_succ])
            clear hK1
            refine wpAnyH_ready (rs := [13]) (by kernel_rfl) (by simp) ?_
            refine reg_cons _ rfl (fun K1 hK1 => ?_) AllReadyH.nil
            · go_simp
              go_at_call 14
              refine (readE_atL DA Dc (F.length + (T.length + 1)) (F ++ (T ++ [0])) (by simp) zM 173 HLA.out v5 hD hDc (by omega)).mono ?_
              rintro e v6 ⟨x, hxE, rfl, hmrE, hbE⟩
              obtain ⟨idE, flE, qAE, qcE, qsE, aAE, acE, raE, bAE, bdE, rbE, cAE, ccE, rcE⟩ := x
              unfold MR.cells
              (try dsimp only)
              replace hZ := hZ.below hbE hZ.lt
              replace hB := hB.trans (hbE.mono hB.size)
              clear hbE hmrE hxE hD
              refine hK1.out _ _ trivial (fun hH => ?_)
              (try simp only [Act.put, List.setIfInBounds_toArray, List.set_cons_zero, List.set_cons_succ])
              clear hK1
              refine reg_take 14 (v := ?_) rfl (by kernel_rfl) (fun _ _ _ h => h) (by rfl) hH ?_ ?_
              rotate_left
              · intro w hSw; (try dsimp only at hSw); go_simp; (try with_reducible rfl)
              (try simp only [Act.put, List.setIfInBounds_toArray, List.set_cons_zero, List.set_cons_succ])
              refine reg_take 15 (v := ?_) rfl (by kernel_rfl) (fun _ _ _ h => h) (by rfl) hH ?_ ?_
              rotate_left
              · intro w hSw; (try dsimp only at hSw); go_simp; (try with_reducible rfl)
              (try simp only [Act.put, List.setIfInBounds_toArray, List.set_cons_zero, List.set_cons_succ])
              refine reg_take 16 (v := ?_) rfl (by kernel_rfl) (fun _ _ _ h => h) (by rfl) hH ?_ ?_
              rotate_left
              · intro w hSw; (try dsimp only at hSw); go_simp; (try with_reducible rfl)
              (try simp only [Act.put, List.setIfInBounds_toArray, List.set_cons_zero, List.set_cons_succ])
              have hzl := hZ.lt
              refine wpAnyH_ready (rs := [18]) (by kernel_rfl) (by simp) ?_
              refine reg_cons _ rfl (fun K1 hK1 => ?_) AllReadyH.nil
              rw [if_pos (by rfl)]
              refine wp_store_row 30 _ _ (by rfl) gZ #[.int .u16 (idE : Int), .int .u16 (flE : Int), .slice qAE qsE.length qcE, .slice aAE raE.length acE, .slice bAE rbE.length bdE, .slice cAE rcE.length ccE] (by rfl) (by rfl) _ _ hZ (by kernel_rfl) rfl (by kernel_rfl) ?_
              refine hK1.out _ _ trivial (fun hH => ?_)
              (try simp only [Act.put, List.setIfInBounds_toArray, List.set_cons_zero, List.set_cons_succ])
              clear hK1
              refine reg_take 19 (v := ?_) rfl (by kernel_rfl) (fun _ _ _ h => h) (by rfl) hH ?_ ?_
              rotate_left
              · intro w hSw; (try dsimp only at hSw); go_simp; (try with_reducible rfl)
              (try simp only [Act.put, List.setIfInBounds_toArray, List.set_cons_zero, List.set_cons_succ])
              refine wpAnyH_done (by kernel_rfl) ?_ _
              go_wp2_with fail
              go_ret
              exact ⟨rfl, HB14.out.trans ((hB.mono HB14.out.size).trans ((Only.row _ _ _).below (by have := HB14.out.size; omega) (by have := HB14.out.size; have := hB.size; omega)))⟩
    · go_simp
      obtain ⟨gZ, hgZ⟩ : ∃ g, g = v1.heap.size := ⟨_, rfl⟩
      have hn : Below v1.heap.size v1 (v1.alloc (.cells #[.int .u16 0, .int .u16 0, .slice none 0 0, .slice none 0 0, .slice none 0 0, .slice none 0 0] 30)) := below_new _ _
      have hZ : Vx (v1.alloc (.cells #[.int .u16 0, .int .u16 0, .slice none 0 0, .slice none 0 0, .slice none 0 0, .slice none 0 0] 30)) gZ 30 zM6 := by rw [hgZ]; exact Vx.new v1 _ _
      have hgZ2 : w14.heap.size ≤ gZ := by have := hB.size; omega
      replace hL := (hL.below hn).more hn.size
      rw [← hgZ]
      replace hB := hB.trans (hn.mono hB.size)
      clear hn hgZ
      generalize v1.alloc (.cells #[.int .u16 0, .int .u16 0, .slice none 0 0, .slice none 0 0, .slice none 0 0, .slice none 0 0] 30) = v2 at *
      refine hK1.out _ _ trivial (fun hH => ?_)
      (try simp only [Act.put, List.setIfInBounds_toArray, List.set_cons_zero, List.set_cons_succ])
      clear hK1
      refine wpAnyH_ready (rs := [1]) (by kernel_rfl) (by simp) ?_
      refine reg_cons _ rfl (fun K1 hK1 => ?_) AllReadyH.nil
      · go_simp
        go_at_call 31
        refine (bclone A6 k6 F v2 _ (Nat.le_refl _) ((HR6.out.below hB).more hB.size) (by omega)).mono ?_
        rintro e v3 ⟨vc, rfl, hoC, hbC⟩
        obtain ⟨CA, Cc, rfl, hCc, hCr⟩ := hoC.form6 _ (bc_length _)
        (try dsimp only)
        have hne : ∀ q, (Value.slice CA F.length Cc).ownBlock = some q → q ≠ gZ := fun q hq => by have := hoC.lt q hq; have := hZ.lt; omega
        replace hZ := hZ.below hbC hZ.lt
        replace hL := (hL.below hbC).more hbC.size
        have hC := hoC.mono hB.size
        replace hB := hB.trans (hbC.mono hB.size)
        clear hoC hbC hCr
        refine hK1.out _ _ trivial (fun hH => ?_)
        (try simp only [Act.put, List.setIfInBounds_toArray, List.set_cons_zero, List.set_cons_succ])
        clear hK1
        refine wpAnyH_ready (rs := [11]) (by kernel_rfl) (by simp) ?_
        refine reg_cons _ rfl (fun K1 hK1 => ?_) AllReadyH.nil
        · refine step_appG _ rfl _ _ _ _ rfl _ 1 5 i0 (.int .u8 0) 1 Try.underlying22 hi hz0 hz1 hz2 rfl (Nat.le_refl _) (Nat.le_refl _) A3 T.length (bc T) rfl (by rw [Nat.mul_one]; have := HT3.out.preB hTle; rw [← HT3b.out] at this; exact (this.below (hB.mono HB14.out.size)).more (Nat.le_refl _)) (.slice (some ⟨gL, 0, none⟩) 1 1) rfl 1 [.int .u8 0] (hL.src Try.underlying22 (by simp [Value.oneCell'])) (by omega) (by omega) ?_
          intro vt v4 howT hbT
          obtain ⟨TA, Tc, rfl, hTc, _, hTr⟩ := howT.form
          have hT : Rd v4 v4.heap.size TA (T.length + 1) (bc (T ++ [0])) := by
            rw [Nat.mul_one] at hTr
            have e : bc (T ++ [0]) = bc T ++ [.int .u8 0] := by simp [bc]
            rw [e]; exact hTr
          replace hC := hC.far hbT
          replace hZ := hZ.below hbT hZ.lt
          replace hB := hB.trans (hbT.mono hB.size)
          clear hbT howT hTr hL
          refine hK1.out _ _ trivial (fun hH => ?_)
          (try simp only [Act.put, List.setIfInBounds_toArray, List.set_cons_zero, List.set_cons_succ])
          clear hK1
          refine wpAnyH_ready (rs := [12]) (by kernel_rfl) (by simp) ?_
          refine reg_cons _ rfl (fun K1 hK1 => ?_) AllReadyH.nil
          · refine step_app _ rfl _ _ _ _ rfl w14.heap.size 5 i0 (.int .u8 0) 1 Try.underlying22 hi hz0 hz1 hz2 rfl (Nat.le_refl _) (.slice CA F.length Cc) (bc F) hC rfl (.slice TA (T.length + 1) Tc) rfl (T.length + 1) (bc (T ++ [0])) (hT.src Try.underlying22 (bc_one _)) (by rw [bc_length]; omega) hB.size ?_
            intro vd v5 hoD hgD hsD
            obtain ⟨DA, Dc, rfl, hDc, hD⟩ := hoD.form6 (F.length + (T.length + 1)) (by simp)
            have e : bc F ++ bc (T ++ [0]) = bc (F ++ (T ++ [0])) := by simp [bc]
            rw [e] at hD
            replace hZ := hZ.grown hgD.1 (fun e => hne gZ e.symm rfl)
            clear hne
            replace hB := hB.trans (hgD.below hC.lt hB.size)
            clear hgD hoD hC hT e hsD
            refine hK1.out _ _ trivial (fun hH => ?_)
            (try simp only [Act.put, List.setIfInBounds_toArray, List.set_cons_zero, List.set_cons_succ])
            clear hK1
            refine wpAnyH_ready (rs := [13]) (by kernel_rfl) (by simp) ?_
            refine reg_cons _ rfl (fun K1 hK1 => ?_) AllReadyH.nil
            · go_simp
              go_at_call 14
              refine (readE_atL DA Dc (F.length + (T.length + 1)) (F ++ (T ++ [0])) (by simp) zM 173 HLA.out v5 hD hDc (by omega)).mono ?_
              rintro e v6 ⟨x, hxE, rfl, hmrE, hbE⟩
              obtain ⟨idE, flE, qAE, qcE, qsE, aAE, acE, raE, bAE, bdE, rbE, cAE, ccE, rcE⟩ := x
              unfold MR.cells
              (try dsimp only)
              replace hZ := hZ.below hbE hZ.lt
              replace hB := hB.trans (hbE.mono hB.size)
              clear hbE hmrE hxE hD
              refine hK1.out _ _ trivial (fun hH => ?_)
              (try simp only [Act.put, List.setIfInBounds_toArray, List.set_cons_zero, List.set_cons_succ])
              clear hK1
              refine reg_take 14 (v := ?_) rfl (by kernel_rfl) (fun _ _ _ h => h) (by rfl) hH ?_ ?_
              rotate_left
              · intro w hSw; (try dsimp only at hSw); go_simp; (try with_reducible rfl)
              (try simp only [Act.put, List.setIfInBounds_toArray, List.set_cons_zero, List.set_cons_succ])
              refine reg_take 15 (v := ?_) rfl (by kernel_rfl) (fun _ _ _ h => h) (by rfl) hH ?_ ?_
              rotate_left
              · intro w hSw; (try dsimp only at hSw); go_simp; (try with_reducible rfl)
              (try simp only [Act.put, List.setIfInBounds_toArray, List.set_cons_zero, List.set_cons_succ])
              refine reg_take 16 (v := ?_) rfl (by kernel_rfl) (fun _ _ _ h => h) (by rfl) hH ?_ ?_
              rotate_left
              · intro w hSw; (try dsimp only at hSw); go_simp; (try with_reducible rfl)
              (try simp only [Act.put, List.setIfInBounds_toArray, List.set_cons_zero, List.set_cons_succ])
              have hzl := hZ.lt
              refine wpAnyH_ready (rs := [18]) (by kernel_rfl) (by simp) ?_
              refine reg_cons _ rfl (fun K1 hK1 => ?_) AllReadyH.nil
              rw [if_pos (by rfl)]
              refine wp_store_row 30 _ _ (by rfl) gZ #[.int .u16 (idE : Int), .int .u16 (flE : Int), .slice qAE qsE.length qcE, .slice aAE raE.length acE, .slice bAE rbE.length bdE, .slice cAE rcE.length ccE] (by rfl) (by rfl) _ _ hZ (by kernel_rfl) rfl (by kernel_rfl) ?_
              refine hK1.out _ _ trivial (fun hH => ?_)
              (try simp only [Act.put, List.setIfInBounds_toArray, List.set_cons_zero, List.set_cons_succ])
              clear hK1
              refine reg_take 19 (v := ?_) rfl (by kernel_rfl) (fun _ _ _ h => h) (by rfl) hH ?_ ?_
              rotate_left
              · intro w hSw; (try dsimp only at hSw); go_simp; (try with_reducible rfl)
              (try simp only [Act.put, List.setIfInBounds_toArray, List.set_cons_zero, List.set_cons_succ])
              refine wpAnyH_done (by kernel_rfl) ?_ _
              go_wp2_with fail
              go_ret
              exact ⟨rfl, HB14.out.trans ((hB.mono HB14.out.size).trans ((Only.row _ _ _).below (by have := HB14.out.size; omega) (by have := HB14.out.size; have := hB.size; omega)))⟩
  · go_simp
    obtain ⟨gZ, hgZ⟩ : ∃ g, g = v0.heap.size := ⟨_, rfl⟩
    have hn : Below v0.heap.size v0 (v0.alloc (.cells #[.int .u16 0, .int .u16 0, .slice none 0 0, .slice none 0 0, .slice none 0 0, .slice none 0 0] 30)) := below_new _ _
    have hZ : Vx (v0.alloc (.cells #[.int .u16 0, .int .u16 0, .slice none 0 0, .slice none 0 0, .slice none 0 0, .slice none 0 0] 30)) gZ 30 zM6 := by rw [hgZ]; exact Vx.new v0 _ _
    have hgZ2 : w14.heap.size ≤ gZ := by have := hB.size; omega
    rw [← hgZ]
    replace hB := hB.trans (hn.mono hB.size)
    clear hn hgZ
    generalize v0.alloc (.cells #[.int .u16 0, .int .u16 0, .slice none 0 0, .slice none 0 0, .slice none 0 0, .slice none 0 0] 30) = v1 at *
    refine hK1.out _ _ trivial (fun hH => ?_)
    (try simp only [Act.put, List.setIfInBounds_toArray, List.set_cons_zero, List.set_cons_succ])
    clear hK1
    refine wpAnyH_ready (rs := [1, 10]) (by kernel_rfl) (by simp) ?_
    refine reg_cons _ rfl (fun K1 hK1 => ?_) (reg_cons _ rfl (fun K1 hK1 => ?_) AllReadyH.nil)
    · go_simp
      go_at_call 31
      refine (bclone A6 k6 F v1 _ (Nat.le_refl _) ((HR6.out.below hB).more hB.size) (by omega)).mono ?_
      rintro e v2 ⟨vc, rfl, hoC, hbC⟩
      obtain ⟨CA, Cc, rfl, hCc, hCr⟩ := hoC.form6 _ (bc_length _)
      (try dsimp only)
      have hne : ∀ q, (Value.slice CA F.length Cc).ownBlock = some q → q ≠ gZ := fun q hq => by have := hoC.lt q hq; have := hZ.lt; omega
      replace hZ := hZ.below hbC hZ.lt
      have hC := hoC.mono hB.size
      replace hB := hB.trans (hbC.mono hB.size)
      clear hoC hbC hCr
      refine hK1.out _ _ trivial (fun hH => ?_)
      (try simp only [Act.put, List.setIfInBounds_toArray, List.set_cons_zero, List.set_cons_succ])
      clear hK1
      refine wpAnyH_ready (rs := [10]) (by kernel_rfl) (by simp) ?_
      refine reg_cons _ rfl (fun K1 hK1 => ?_) AllReadyH.nil
      · go_simp
        obtain ⟨gL, hgL⟩ : ∃ g, g = v2.heap.size := ⟨_, rfl⟩
        have hn : Below v2.heap.size v2 (v2.alloc (.cells #[.int .u8 0] 5)) := below_new _ _
        have hL : Rd (v2.alloc (.cells #[.int .u8 0] 5)) (v2.alloc (.cells #[.int .u8 0] 5)).heap.size (some ⟨gL, 0, none⟩) 1 [.int .u8 0] := by rw [hgL]; exact Rd.lit_top0 v2 5 [.int .u8 0] 1 rfl
        rw [← hgL]
        replace hZ := hZ.below hn hZ.lt
        replace hC := hC.far hn
        replace hB := hB.trans (hn.mono hB.size)
        clear hn hgL
        generalize v2.alloc (.cells #[.int .u8 0] 5) = v3 at *
        refine hK1.out _ _ trivial (fun hH => ?_)
        (try simp only [Act.put, List.setIfInBounds_toArray, List.set_cons_zero, List.set_cons_succ])
        clear hK1
        refine wpAnyH_ready (rs := [11]) (by kernel_rfl) (by simp) ?_
        refine reg_cons _ rfl (fun K1 hK1 => ?_) AllReadyH.nil
        · refine step_appG _ rfl _ _ _ _ rfl _ 1 5 i0 (.int .u8 0) 1 Try.underlying22 hi hz0 hz1 hz2 rfl (Nat.le_refl _) (Nat.le_refl _) A3 T.length (bc T) rfl (by rw [Nat.mul_one]; have := HT3.out.preB hTle; rw [← HT3b.out] at this; exact (this.below (hB.mono HB14.out.size)).more (Nat.le_refl _)) (.slice (some ⟨gL, 0, none⟩) 1 1) rfl 1 [.int .u8 0] (hL.src Try.underlying22 (by simp [Value.oneCell'])) (by omega) (by omega) ?_
          intro vt v4 howT hbT
          obtain ⟨TA, Tc, rfl, hTc, _, hTr⟩ := howT.form
          have hT : Rd v4 v4.heap.size TA (T.length + 1) (bc (T ++ [0])) := by
            rw [Nat.mul_one] at hTr
            have e : bc (T ++ [0]) = bc T ++ [.int .u8 0] := by simp [bc]
            rw [e]; exact hTr
          replace hC := hC.far hbT
          replace hZ := hZ.below hbT hZ.lt
          replace hB := hB.trans (hbT.mono hB.size)
          clear hbT howT hTr hL
          refine hK1.out _ _ trivial (fun hH => ?_)
          (try simp only [Act.put, List.setIfInBounds_toArray, List.set_cons_zero, List.set_cons_succ])
          clear hK1
          refine wpAnyH_ready (rs := [12]) (by kernel_rfl) (by simp) ?_
          refine reg_cons _ rfl (fun K1 hK1 => ?_) AllReadyH.nil
          · refine step_app _ rfl _ _ _ _ rfl w14.heap.size 5 i0 (.int .u8 0) 1 Try.underlying22 hi hz0 hz1 hz2 rfl (Nat.le_refl _) (.slice CA F.length Cc) (bc F) hC rfl (.slice TA (T.length + 1) Tc) rfl (T.length + 1) (bc (T ++ [0])) (hT.src Try.underlying22 (bc_one _)) (by rw [bc_length]; omega) hB.size ?_
            intro vd v5 hoD hgD hsD
            obtain ⟨DA, Dc, rfl, hDc, hD⟩ := hoD.form6 (F.length + (T.length + 1)) (by simp)
            have e : bc F ++ bc (T ++ [0]) = bc (F ++ (T ++ [0])) := by simp [bc]
            rw [e] at hD
            replace hZ := hZ.grown hgD.1 (fun e => hne gZ e.symm rfl)
            clear hne
            replace hB := hB.trans (hgD.below hC.lt hB.size)
            clear hgD hoD hC hT e hsD
            refine hK1.out _ _ trivial (fun hH => ?_)
            (try simp only [Act.put, List.setIfInBounds_toArray, List.set_cons_zero, List.set_cons_succ])
            clear hK1
            refine wpAnyH_ready (rs := [13]) (by kernel_rfl) (by simp) ?_
            refine reg_cons _ rfl (fun K1 hK1 => ?_) AllReadyH.nil
            · go_simp
              go_at_call 14
              refine (readE_atL DA Dc (F.length + (T.length + 1)) (F ++ (T ++ [0])) (by simp) zM 173 HLA.out v5 hD hDc (by omega)).mono ?_
              rintro e v6 ⟨x, hxE, rfl, hmrE, hbE⟩
              obtain ⟨idE, flE, qAE, qcE, qsE, aAE, acE, raE, bAE, bdE, rbE, cAE, ccE, rcE⟩ := x
              unfold MR.cells
              (try dsimp only)
              replace hZ := hZ.below hbE hZ.lt
              replace hB := hB.trans (hbE.mono hB.size)
              clear hbE hmrE hxE hD
              refine hK1.out _ _ trivial (fun hH => ?_)
              (try simp only [Act.put, List.setIfInBounds_toArray, List.set_cons_zero, List.set_cons_succ])
              clear hK1
              refine reg_take 14 (v := ?_) rfl (by kernel_rfl) (fun _ _ _ h => h) (by rfl) hH ?_ ?_
              rotate_left
              · intro w hSw; (try dsimp only at hSw); go_simp; (try with_reducible rfl)
              (try simp only [Act.put, List.setIfInBounds_toArray, List.set_cons_zero, List.set_cons_succ])
              refine reg_take 15 (v := ?_) rfl (by kernel_rfl) (fun _ _ _ h => h) (by rfl) hH ?_ ?_
              rotate_left
              · intro w hSw; (try dsimp only at hSw); go_simp; (try with_reducible rfl)
              (try simp only [Act.put, List.setIfInBounds_toArray, List.set_cons_zero, List.set_cons_succ])
              refine reg_take 16 (v := ?_) rfl (by kernel_rfl) (fun _ _ _ h => h) (by rfl) hH ?_ ?_
              rotate_left
              · intro w hSw; (try dsimp only at hSw); go_simp; (try with_reducible rfl)
              (try simp only [Act.put, List.setIfInBounds_toArray, List.set_cons_zero, List.set_cons_succ])
              have hzl := hZ.lt
              refine wpAnyH_ready (rs := [18]) (by kernel_rfl) (by simp) ?_
              refine reg_cons _ rfl (fun K1 hK1 => ?_) AllReadyH.nil
              rw [if_pos (by rfl)]
              refine wp_store_row 30 _ _ (by rfl) gZ #[.int .u16 (idE : Int), .int .u16 (flE : Int), .slice qAE qsE.length qcE, .slice aAE raE.length acE, .slice bAE rbE.length bdE, .slice cAE rcE.length ccE] (by rfl) (by rfl) _ _ hZ (by kernel_rfl) rfl (by kernel_rfl) ?_
              refine hK1.out _ _ trivial (fun hH => ?_)
              (try simp only [Act.put, List.setIfInBounds_toArray, List.set_cons_zero, List.set_cons_succ])
              clear hK1
              refine reg_take 19 (v := ?_) rfl (by kernel_rfl) (fun _ _ _ h => h) (by rfl) hH ?_ ?_
              rotate_left
              · intro w hSw; (try dsimp only at hSw); go_simp; (try with_reducible rfl)
              (try simp only [Act.put, List.setIfInBounds_toArray, List.set_cons_zero, List.set_cons_succ])
              refine wpAnyH_done (by kernel_rfl) ?_ _
              go_wp2_with fail
              go_ret
              exact ⟨rfl, HB14.out.trans ((hB.mono HB14.out.size).trans ((Only.row _ _ _).below (by have := HB14.out.size; omega) (by have := HB14.out.size; have := hB.size; omega)))⟩
    · go_simp
      obtain ⟨gL, hgL⟩ : ∃ g, g = v1.heap.size := ⟨_, rfl⟩
      have hn : Below v1.heap.size v1 (v1.alloc (.cells #[.int .u8 0] 5)) := below_new _ _
      have hL : Rd (v1.alloc (.cells #[.int .u8 0] 5)) (v1.alloc (.cells #[.int .u8 0] 5)).heap.size (some ⟨gL, 0, none⟩) 1 [.int .u8 0] := by rw [hgL]; exact Rd.lit_top0 v1 5 [.int .u8 0] 1 rfl
      rw [← hgL]
      replace hZ := hZ.below hn hZ.lt
      replace hB := hB.trans (hn.mono hB.size)
      clear hn hgL
      generalize v1.alloc (.cells #[.int .u8 0] 5) = v2 at *
      refine hK1.out _ _ trivial (fun hH => ?_)
      (try simp only [Act.put, List.setIfInBounds_toArray, List.set_cons_zero, List.set_cons_succ])
      clear hK1
      refine wpAnyH_ready (rs := [1]) (by kernel_rfl) (by simp) ?_
      refine reg_cons _ rfl (fun K1 hK1 => ?_) AllReadyH.nil
      · go_simp
        go_at_call 31
        refine (bclone A6 k6 F v2 _ (Nat.le_refl _) ((HR6.out.below hB).more hB.size) (by omega)).mono ?_
        rintro e v3 ⟨vc, rfl, hoC, hbC⟩
        obtain ⟨CA, Cc, rfl, hCc, hCr⟩ := hoC.form6 _ (bc_length _)
        (try dsimp only)
        have hne : ∀ q, (Value.slice CA F.length Cc).ownBlock = some q → q ≠ gZ := fun q hq => by have := hoC.lt q hq; have := hZ.lt; omega
        replace hZ := hZ.below hbC hZ.lt
        replace hL := (hL.below hbC).more hbC.size
        have hC := hoC.mono hB.size
        replace hB := hB.trans (hbC.mono hB.size)
        clear hoC hbC hCr
        refine hK1.out _ _ trivial (fun hH => ?_)
        (try simp only [Act.put, List.setIfInBounds_toArray, List.set_cons_zero, List.set_cons_succ])
        clear hK1
        refine wpAnyH_ready (rs := [11]) (by kernel_rfl) (by simp) ?_
        refine reg_cons _ rfl (fun K1 hK1 => ?_) AllReadyH.nil
        · refine step_appG _ rfl _ _ _ _ rfl _ 1 5 i0 (.int .u8 0) 1 Try.underlying22 hi hz0 hz1 hz2 rfl (Nat.le_refl _) (Nat.le_refl _) A3 T.length (bc T) rfl (by rw [Nat.mul_one]; have := HT3.out.preB hTle; rw [← HT3b.out] at this; exact (this.below (hB.mono HB14.out.size)).more (Nat.le_refl _)) (.slice (some ⟨gL, 0, none⟩) 1 1) rfl 1 [.int .u8 0] (hL.src Try.underlying22 (by simp [Value.oneCell'])) (by omega) (by omega) ?_
          intro vt v4 howT hbT
          obtain ⟨TA, Tc, rfl, hTc, _, hTr⟩ := howT.form
          have hT : Rd v4 v4.heap.size TA (T.length + 1) (bc (T ++ [0])) := by
            rw [Nat.mul_one] at hTr
            have e : bc (T ++ [0]) = bc T ++ [.int .u8 0] := by simp [bc]
            rw [e]; exact hTr
          replace hC := hC.far hbT
          replace hZ := hZ.below hbT hZ.lt
          replace hB := hB.trans (hbT.mono hB.size)
          clear hbT howT hTr hL
          refine hK1.out _ _ trivial (fun hH => ?_)
          (try simp only [Act.put, List.setIfInBounds_toArray, List.set_cons_zero, List.set_cons_succ])
          clear hK1
          refine wpAnyH_ready (rs := [12]) (by kernel_rfl) (by simp) ?_
          refine reg_cons _ rfl (fun K1 hK1 => ?_) AllReadyH.nil
          · refine step_app _ rfl _ _ _ _ rfl w14.heap.size 5 i0 (.int .u8 0) 1 Try.underlying22 hi hz0 hz1 hz2 rfl (Nat.le_refl _) (.slice CA F.length Cc) (bc F) hC rfl (.slice TA (T.length + 1) Tc) rfl (T.length + 1) (bc (T ++ [0])) (hT.src Try.underlying22 (bc_one _)) (by rw [bc_length]; omega) hB.size ?_
            intro vd v5 hoD hgD hsD
            obtain ⟨DA, Dc, rfl, hDc, hD⟩ := hoD.form6 (F.length + (T.length + 1)) (by simp)
            have e : bc F ++ bc (T ++ [0]) = bc (F ++ (T ++ [0])) := by simp [bc]
            rw [e] at hD
            replace hZ := hZ.grown hgD.1 (fun e => hne gZ e.symm rfl)
            clear hne
            replace hB := hB.trans (hgD.below hC.lt hB.size)
            clear hgD hoD hC hT e hsD
            refine hK1.out _ _ trivial (fun hH => ?_)
            (try simp only [Act.put, List.setIfInBounds_toArray, List.set_cons_zero, List.set_cons_succ])
            clear hK1
            refine wpAnyH_ready (rs := [13]) (by kernel_rfl) (by simp) ?_
            refine reg_cons _ rfl (fun K1 hK1 => ?_) AllReadyH.nil
            · go_simp
              go_at_call 14
              refine (readE_atL DA Dc (F.length + (T.length + 1)) (F ++ (T ++ [0])) (by simp) zM 173 HLA.out v5 hD hDc (by omega)).mono ?_
              rintro e v6 ⟨x, hxE, rfl, hmrE, hbE⟩
              obtain ⟨idE, flE, qAE, qcE, qsE, aAE, acE, raE, bAE, bdE, rbE, cAE, ccE, rcE⟩ := x
              unfold MR.cells
              (try dsimp only)
              replace hZ := hZ.below hbE hZ.lt
              replace hB := hB.trans (hbE.mono hB.size)
              clear hbE hmrE hxE hD
              refine hK1.out _ _ trivial (fun hH => ?_)
              (try simp only [Act.put, List.setIfInBounds_toArray, List.set_cons_zero, List.set_cons_succ])
              clear hK1
              refine reg_take 14 (v := ?_) rfl (by kernel_rfl) (fun _ _ _ h => h) (by rfl) hH ?_ ?_
              rotate_left
              · intro w hSw; (try dsimp only at hSw); go_simp; (try with_reducible rfl)
              (try simp only [Act.put, List.setIfInBounds_toArray, List.set_cons_zero, List.set_cons_succ])
              refine reg_take 15 (v := ?_) rfl (by kernel_rfl) (fun _ _ _ h => h) (by rfl) hH ?_ ?_
              rotate_left
              · intro w hSw; (try dsimp only at hSw); go_simp; (try with_reducible rfl)
              (try simp only [Act.put, List.setIfInBounds_toArray, List.set_cons_zero, List.set_cons_succ])
              refine reg_take 16 (v := ?_) rfl (by kernel_rfl) (fun _ _ _ h => h) (by rfl) hH ?_ ?_
              rotate_left
              · intro w hSw; (try dsimp only at hSw); go_simp; (try with_reducible rfl)
              (try simp only [Act.put, List.setIfInBounds_toArray, List.set_cons_zero, List.set_cons_succ])
              have hzl := hZ.lt
              refine wpAnyH_ready (rs := [18]) (by kernel_rfl) (by simp) ?_
              refine reg_cons _ rfl (fun K1 hK1 => ?_) AllReadyH.nil
              rw [if_pos (by rfl)]
              refine wp_store_row 30 _ _ (by rfl) gZ #[.int .u16 (idE : Int), .int .u16 (flE : Int), .slice qAE qsE.length qcE, .slice aAE raE.length acE, .slice bAE rbE.length bdE, .slice cAE rcE.length ccE] (by rfl) (by rfl) _ _ hZ (by kernel_rfl) rfl (by kernel_rfl) ?_
              refine hK1.out _ _ trivial (fun hH => ?_)
              (try simp only [Act.put, List.setIfInBounds_toArray, List.set_cons_zero, List.set_cons_succ])
              clear hK1
              refine reg_take 19 (v := ?_) rfl (by kernel_rfl) (fun _ _ _ h => h) (by rfl) hH ?_ ?_
              rotate_left
              · intro w hSw; (try dsimp only at hSw); go_simp; (try with_reducible rfl)
              (try simp only [Act.put, List.setIfInBounds_toArray, List.set_cons_zero, List.set_cons_succ])
              refine wpAnyH_done (by kernel_rfl) ?_ _
              go_wp2_with fail
              go_ret
              exact ⟨rfl, HB14.out.trans ((hB.mono HB14.out.size).trans ((Only.row _ _ _).below (by have := HB14.out.size; omega) (by have := HB14.out.size; have := hB.size; omega)))⟩
end Go.Proofs.Ytmhehgalfmdldaa
