/-
  DnsLists: a record more at the end of a message.
-/
import Derived.Test.YtmhehgalfmdldaaDnsHp
set_option linter.unusedVariables false
set_option linter.unusedSimpArgs false
namespace Go.Proofs.Ytmhehgalfmdldaa
open Go.RowKit
theorem made_more (id fl : Nat) (l : List Sm) (s : Sm) (hl : l.length ≤ 9) (hs : s.sec = 2) : madeM id fl (l ++ [s]) = { madeM id fl l with r2 := (madeM id fl l).r2 ++ [smR s] } := by
  unfold madeM
  rw [List.take_of_length_le (by simp; omega), List.take_of_length_le (by omega), madeK_snoc]
  simp [addS, hs]
set_option maxRecDepth 100000 in
set_option maxHeartbeats 16000000 in
theorem dnsLists_any (id fl : Nat) (A1 : Option Addr) (c1 : Nat) (l1 : List SmR) (y : SmR) (w : World) (hid : id < 65536) (hfl : fl < 65536)
    (h1 : Rd w w.heap.size A1 (l1.length * 9) (l1.flatMap SmR.cells)) (hc1 : l1.length ≤ c1) (hx1 : ∀ x ∈ l1, SRd w w.heap.size x) (hy : SRd w w.heap.size y) :
    Calls Try.prog 7 #[.int .u16 (id : Int), .int .u16 (fl : Int), .slice A1 l1.length c1, .agg y.cells.toArray] w fun e w' => e = .returned (.bool true) ∧ Below w.heap.size w w' := by
  obtain ⟨i0, hi, hz0, hz1, hz2⟩ := info_parts Try.infoSm
  obtain ⟨yA, yc, tA, tc, dA, dc, ⟨nm, tg, ty, sec, n0, n1, n2, ttl, d⟩⟩ := y
  have hy2 : SRd w w.heap.size (⟨yA, yc, tA, tc, dA, dc, ⟨nm, tg, ty, 2, n0, n1, n2, ttl, d⟩⟩ : SmR) := ⟨hy.1, hy.2.1, hy.2.2.1, hy.2.2.2.1, (by show 2 < 256; omega), hy.2.2.2.2.2⟩
  obtain ⟨K, hK⟩ : ∃ K, K = min l1.length 9 := ⟨_, rfl⟩
  have hmin : min (l1.length : Int) 9 = (K : Int) := by omega
  have hK1 : K ≤ l1.length := by omega
  have hK9 : K ≤ 9 := by omega
  obtain ⟨L, hL⟩ : ∃ L, L = l1.take K := ⟨_, rfl⟩
  have hLl : L.length = K := by rw [hL, List.length_take]; omega
  have hRL : Rd w w.heap.size A1 (K * 9) (smcs L) := by
    have := Rd.pre (xs := smcs l1) h1 (k := K * 9) (by omega)
    rw [smcs_take, ← hL] at this
    exact this
  have hXL : ∀ x ∈ L, SRd w w.heap.size x := fun x hx => hx1 x (List.mem_of_mem_take (by rw [← hL]; exact hx))
  have hX2 : ∀ x ∈ L ++ [(⟨yA, yc, tA, tc, dA, dc, ⟨nm, tg, ty, 2, n0, n1, n2, ttl, d⟩⟩ : SmR)], SRd w w.heap.size x := fun x hx => by
    rcases List.mem_append.1 hx with hx | hx
    · exact hXL x hx
    · rw [List.mem_singleton.1 hx]; exact hy2
  have ok1 := okS_map hXL
  have ok2 := okS_map hX2
  obtain ⟨mr1, mk1, mn1, ml1, mw1, mb1⟩ := madeM_all id fl (L.map SmR.s) hid hfl ok1
  obtain ⟨mr2, mk2, mn2, ml2, mw2, mb2⟩ := madeM_all id fl ((L ++ [(⟨yA, yc, tA, tc, dA, dc, ⟨nm, tg, ty, 2, n0, n1, n2, ttl, d⟩⟩ : SmR)]).map SmR.s) hid hfl ok2
  have MM1 := Lib.hid (fun (w' : World) (base : Nat) (x : MR) (h : MOw w' base x) (hx : x.m = madeM id fl (L.map SmR.s)) => made_mrd h hx hid hfl ok1)
  have MM2 := Lib.hid (fun (w' : World) (base : Nat) (x : MR) (h : MOw w' base x) (hx : x.m = madeM id fl ((L ++ [(⟨yA, yc, tA, tc, dA, dc, ⟨nm, tg, ty, 2, n0, n1, n2, ttl, d⟩⟩ : SmR)]).map SmR.s)) => made_mrd h hx hid hfl ok2)
  have hmore : madeM id fl ((L ++ [(⟨yA, yc, tA, tc, dA, dc, ⟨nm, tg, ty, 2, n0, n1, n2, ttl, d⟩⟩ : SmR)]).map SmR.s) = { madeM id fl (L.map SmR.s) with r2 := (madeM id fl (L.map SmR.s)).r2 ++ [smR ⟨nm, tg, ty, 2, n0, n1, n2, ttl, d⟩] } := by
    rw [List.map_append]
    exact made_more id fl _ _ (by rw [List.length_map]; omega) rfl
  obtain ⟨M, hM⟩ : ∃ M, M = madeM id fl (L.map SmR.s) := ⟨_, rfl⟩
  obtain ⟨O, hO⟩ : ∃ O, O = madeM id fl ((L ++ [(⟨yA, yc, tA, tc, dA, dc, ⟨nm, tg, ty, 2, n0, n1, n2, ttl, d⟩⟩ : SmR)]).map SmR.s) := ⟨_, rfl⟩
  rw [← hM] at mr1 mk1 mn1 ml1 mw1 mb1 MM1
  rw [← hO] at mr2 mk2 mn2 ml2 mw2 mb2 MM2
  rw [← hO, ← hM] at hmore
  obtain ⟨f1, f2, f3⟩ := lists_form M (smR ⟨nm, tg, ty, 2, n0, n1, n2, ttl, d⟩) mr1 (smR_right _)
  rw [← hmore] at f1 f2 f3
  have h12 := num_pos M mr1
  obtain ⟨F, hF⟩ : ∃ F, F = formM M := ⟨_, rfl⟩
  obtain ⟨G, hG⟩ : ∃ G, G = formM O := ⟨_, rfl⟩
  rw [← hF] at ml1 mw1 mb1 h12 f1 f2 f3
  rw [← hG] at ml2 mw2 mb2 f1 f2 f3
  have hr2 : O.r2.length = M.r2.length + 1 ∧ O.r2.take M.r2.length = M.r2 ∧ O.id = M.id ∧ O.fl = M.fl ∧ O.qs = M.qs ∧ O.r0 = M.r0 ∧ O.r1 = M.r1 := by
    rw [hmore]; simp
  have hM10 : M.r2.length ≤ 10 := by unfold Ms.num at mn1; omega
  have HM := Lib.hid hM
  have HO := Lib.hid hO
  have HW1 := Lib.hid mw1
  have HW2 := Lib.hid mw2
  have HB2 := Lib.hid mb2
  have HR2 := Lib.hid hr2
  have HRL := Lib.hid hRL
  have HXL := Lib.hid hXL
  have HX2 := Lib.hid hX2
  have HLl := Lib.hid hLl
  have HT10 := Lib.hid f2
  have HD12 := Lib.hid f3
  have h12I : (12 : Int) ≤ (F.length : Int) := by omega
  have hGI : (F.length : Int) + 11 ≤ (G.length : Int) := by omega
  clear hK hL hRL hXL hX2 ok1 ok2 mr1 mk1 mn1 mw1 mb1 mr2 mk2 mn2 mw2 mb2 hmore hM hO f2 f3 hF hG hr2 hLl h1 hx1 hy hy2 f1
  have ksl : ∀ W, (Instr.slice 45 (.slice A1 l1.length c1) none (some (.int .i64 (K : Int))) none).run Try.prog W = .ok (.slice A1 K c1) W := fun W => run_slM_h W _ 57 9 Try.underlying45 szSm A1 l1.length c1 K (by omega)
  have kslm : ∀ W, (Instr.slice 45 (.slice A1 l1.length c1) none (some (.int .i64 (K : Int))) (some (.int .i64 (K : Int)))).run Try.prog W = .ok (.slice A1 K K) W := fun W => run_sl_hm W _ 57 9 Try.underlying45 szSm A1 l1.length c1 K (by omega)
  have hKc : K ≤ c1 := by omega
  unfold SmR.cells
  simp only
  have V7 : Vx (w.alloc (.cells #[.slice yA nm.length yc, .slice tA tg.length tc, .int .u8 (ty : Int), .int .u8 (sec : Int), .int .u16 (n0 : Int), .int .u16 (n1 : Int), .int .u16 (n2 : Int), .int .u32 (ttl : Int), .slice dA d.length dc] 57)) w.heap.size 57 [.slice yA nm.length yc, .slice tA tg.length tc, .int .u8 (ty : Int), .int .u8 (sec : Int), .int .u16 (n0 : Int), .int .u16 (n1 : Int), .int .u16 (n2 : Int), .int .u32 (ttl : Int), .slice dA d.length dc] := Vx.new w _ _
  have hb1 := below_new w (.cells #[.slice yA nm.length yc, .slice tA tg.length tc, .int .u8 (ty : Int), .int .u8 (sec : Int), .int .u16 (n0 : Int), .int .u16 (n1 : Int), .int .u16 (n2 : Int), .int .u32 (ttl : Int), .slice dA d.length dc] 57)
  go_enter Try.func7, Try.ntmps7
  go_upto_region 4 with (first
    | (go_at_call 21
       refine (dmade_atL id fl A1 c1 K L HLl.out w2 ((HRL.out.below hB2).more hB2.size) hKc (fun x hx => ((HXL.out x hx).below hB2).more hB2.size)).mono ?_
       rw [← HM.out]
       rintro e w3 ⟨x, hx3, rfl, hmo3, hb3⟩
       obtain ⟨idM, flM, qAM, qcM, qsM, aAM, acM, raM, bAM, bdM, rbM, cAM, ccM, rcM⟩ := x
       unfold MR.cells
       dsimp only)
    | (go_at_call 13
       refine (dawake_any _).mono ?_
       rintro e w2 ⟨rfl, hb2⟩
       have hB2 := hb1.trans (hb2.mono hb1.size)))
  obtain ⟨g7, hg7⟩ : ∃ g, g = w.heap.size := ⟨_, rfl⟩
  obtain ⟨g9, hg9⟩ : ∃ g, g = w3.heap.size := ⟨_, rfl⟩
  have hn4 : Below w3.heap.size w3 (w3.alloc (.cells #[.int .u16 (idM : Int), .int .u16 (flM : Int), .slice qAM qsM.length qcM, .slice aAM raM.length acM, .slice bAM rbM.length bdM, .slice cAM rcM.length ccM] 30)) := below_new w3 _
  have V7 := ((V7.below hb2 V7.lt).below hb3 (V7.below hb2 V7.lt).lt).below hn4 ((V7.below hb2 V7.lt).below hb3 (V7.below hb2 V7.lt).lt).lt
  have hmo4 := hmo3.far hn4
  have V9 : Vx (w3.alloc (.cells #[.int .u16 (idM : Int), .int .u16 (flM : Int), .slice qAM qsM.length qcM, .slice aAM raM.length acM, .slice bAM rbM.length bdM, .slice cAM rcM.length ccM] 30)) w3.heap.size 30 [.int .u16 (idM : Int), .int .u16 (flM : Int), .slice qAM qsM.length qcM, .slice aAM raM.length acM, .slice bAM rbM.length bdM, .slice cAM rcM.length ccM] := Vx.new w3 _ _
  have hB3 := hB2.trans (hb3.mono hB2.size)
  have hB4 := hB3.trans (hn4.mono hB3.size)
  have hg72 : w.heap.size < w2.heap.size := by have := hb2.size; simp at this; omega
  have h23 := hb3.size
  rw [← hg7] at V7 hg72
  rw [← hg9] at V9
  try rw [← hg9]
  have hg97 : g7 < g9 := by omega
  have hgB : w.heap.size ≤ g7 := by omega
  try rw [← hg7]
  clear hn4 hb3 hb2 hb1 hmo3 hB2 hB3
  generalize (w3.alloc (.cells #[.int .u16 (idM : Int), .int .u16 (flM : Int), .slice qAM qsM.length qcM, .slice aAM raM.length acM, .slice bAM rbM.length bdM, .slice cAM rcM.length ccM] 30)) = w4 at *
  have a3 := V7.cell 3
  have b3 := V7.free 3
  simp only [List.getElem?_cons_succ, List.getElem?_cons_zero] at a3
  have HB4 := Lib.hid hB4
  have HG7 := Lib.hid hg7
  clear hB4 hg7 hg9
  go_upto_region 5 with fail
  have V7 := V7.set_ 3 (.int .u8 2)
  simp only [List.set_cons_zero, List.set_cons_succ] at V7
  have V9 := V9.setO (g' := g7) (by omega) 3 (.int .u8 2)
  have hmo5 := hmo4.only (Only.set_ w4 g7 3 (.int .u8 2)) hg72
  have hB5 : Below w.heap.size w (w4.setCell ⟨g7, 3, none⟩ (.int .u8 2)) := HB4.out.setCell (by exact hgB) _
  clear a3 b3 hmo4 HB4
  generalize w4.setCell ⟨g7, 3, none⟩ (.int .u8 2) = w5 at *
  have hmr5 := MM1.out _ _ ⟨idM, flM, qAM, qcM, qsM, aAM, acM, raM, bAM, bdM, rbM, cAM, ccM, rcM⟩ hmo5 hx3
  have HB5 := Lib.hid hB5
  clear hB5 hmo5
  have bm0 : BoxM w5 g9 ⟨idM, flM, qAM, qcM, qsM, aAM, acM, raM, bAM, bdM, rbM, cAM, ccM, rcM⟩ := ⟨V9, hmr5⟩
  go_cut [10] from 28 to 41 (fun v10 wx => ∃ (g10 : Nat) (x : MR), v10 = .pointer (some ⟨g10, 0, none⟩) ∧ x.m = O ∧ Hid (Below w5.heap.size w5 wx) ∧ Hid (BoxM wx g10 x))
  case first =>
    refine wp_region_held_drew (S := fun w' => Vx w' g7 57 [.slice yA nm.length yc, .slice tA tg.length tc, .int .u8 (ty : Int), .int .u8 2, .int .u16 (n0 : Int), .int .u16 (n1 : Int), .int .u16 (n2 : Int), .int .u32 (ttl : Int), .slice dA d.length dc]) (by kernel_rfl) V7.drew (fun hH => ?_)
    refine reg_take 0 (v := ?_) rfl (by kernel_rfl) (fun _ _ _ h => h) (by rfl) hH ?_ ?_
    rotate_left
    · intro w hSw; (try dsimp only at hSw); go_simp; (try with_reducible rfl)
    (try simp only [Act.put, List.setIfInBounds_toArray, List.set_cons_zero, List.set_cons_succ])
    refine reg_take 1 (v := ?_) rfl (by kernel_rfl) (fun _ _ _ h => h) (by rfl) hH ?_ ?_
    rotate_left
    · intro w hSw; (try dsimp only at hSw); go_simp; (try with_reducible rfl)
    (try simp only [Act.put, List.setIfInBounds_toArray, List.set_cons_zero, List.set_cons_succ])
    refine reg_take 2 (v := ?_) rfl (by kernel_rfl) (fun _ _ _ h => h) (by rfl) hH ?_ ?_
    rotate_left
    · intro w hSw; (try dsimp only at hSw); go_simp; (try with_reducible rfl)
    (try simp only [Act.put, List.setIfInBounds_toArray, List.set_cons_zero, List.set_cons_succ])
    refine reg_take 3 (v := ?_) rfl (by kernel_rfl) (fun _ _ _ h => h) (by rfl) hH ?_ ?_
    rotate_left
    · intro w hSw; (try dsimp only at hSw); go_simp; (try with_reducible rfl)
    (try simp only [Act.put, List.setIfInBounds_toArray, List.set_cons_zero, List.set_cons_succ])
    refine reg_take 4 (v := ?_) rfl (by kernel_rfl) (fun _ _ _ h => h) (by rfl) hH ?_ ?_
    rotate_left
    · intro w hSw; (try dsimp only at hSw); go_simp; (try with_reducible rfl)
    (try simp only [Act.put, List.setIfInBounds_toArray, List.set_cons_zero, List.set_cons_succ])
    refine reg_take 5 (v := ?_) rfl (by kernel_rfl) (fun _ _ _ h => h) (by rfl) hH ?_ ?_
    rotate_left
    · intro w hSw; (try dsimp only at hSw); go_simp; (try with_reducible rfl)
    (try simp only [Act.put, List.setIfInBounds_toArray, List.set_cons_zero, List.set_cons_succ])
    refine reg_take 6 (v := ?_) rfl (by kernel_rfl) (fun _ _ _ h => h) (by rfl) hH ?_ ?_
    rotate_left
    · intro w hSw; (try dsimp only at hSw); go_simp; (try with_reducible rfl)
    (try simp only [Act.put, List.setIfInBounds_toArray, List.set_cons_zero, List.set_cons_succ])
    refine reg_take 7 (v := ?_) rfl (by kernel_rfl) (fun _ _ _ h => h) (by rfl) hH ?_ ?_
    rotate_left
    · intro w hSw; (try dsimp only at hSw); go_simp; (try with_reducible rfl)
    (try simp only [Act.put, List.setIfInBounds_toArray, List.set_cons_zero, List.set_cons_succ])
    refine reg_take 8 (v := ?_) rfl (by kernel_rfl) (fun _ _ _ h => h) (by rfl) hH ?_ ?_
    rotate_left
    · intro w hSw; (try dsimp only at hSw); go_simp; (try with_reducible rfl)
    (try simp only [Act.put, List.setIfInBounds_toArray, List.set_cons_zero, List.set_cons_succ])
    refine reg_take 9 (v := ?_) rfl (by kernel_rfl) (fun _ _ _ h => h) (by rfl) hH ?_ ?_
    rotate_left
    · intro w hSw; (try dsimp only at hSw); go_simp; (try with_reducible rfl)
    (try simp only [Act.put, List.setIfInBounds_toArray, List.set_cons_zero, List.set_cons_succ])
    refine reg_load 10 rfl (by kernel_rfl) 57 _ (by rfl) g7 57 [.slice yA nm.length yc, .slice tA tg.length tc, .int .u8 (ty : Int), .int .u8 2, .int .u16 (n0 : Int), .int .u16 (n1 : Int), .int .u16 (n2 : Int), .int .u32 (ttl : Int), .slice dA d.length dc] _ (fun _ _ _ h => h) (by rfl) hH (by rfl) (fun _ h => h) Try.underlying57 (by rfl) (by kernel_rfl) ?_
    (try simp only [Act.put, List.setIfInBounds_toArray, List.set_cons_zero, List.set_cons_succ])
    obtain ⟨v0, hv0⟩ : ∃ v0, v0 = w5.drew := ⟨_, rfl⟩
    have hB : Below w5.heap.size w5 v0 := by rw [hv0]; exact (Below.refl _ w5).drew
    rw [← hv0] at hH ⊢
    clear hv0
    refine wpAnyH_ready (rs := [11, 14]) (by kernel_rfl) (by simp) ?_
    refine reg_cons _ rfl (fun K1 hK1 => ?_) (reg_cons _ rfl (fun K1 hK1 => ?_) AllReadyH.nil)
    · go_simp
      obtain ⟨gL, hgL⟩ : ∃ g, g = v0.heap.size := ⟨_, rfl⟩
      have hn : Below v0.heap.size v0 (v0.alloc (.cells #[.slice yA nm.length yc, .slice tA tg.length tc, .int .u8 (ty : Int), .int .u8 2, .int .u16 (n0 : Int), .int .u16 (n1 : Int), .int .u16 (n2 : Int), .int .u32 (ttl : Int), .slice dA d.length dc] 57)) := below_new _ _
      have hL : Rd (v0.alloc (.cells #[.slice yA nm.length yc, .slice tA tg.length tc, .int .u8 (ty : Int), .int .u8 2, .int .u16 (n0 : Int), .int .u16 (n1 : Int), .int .u16 (n2 : Int), .int .u32 (ttl : Int), .slice dA d.length dc] 57)) (v0.alloc (.cells #[.slice yA nm.length yc, .slice tA tg.length tc, .int .u8 (ty : Int), .int .u8 2, .int .u16 (n0 : Int), .int .u16 (n1 : Int), .int .u16 (n2 : Int), .int .u32 (ttl : Int), .slice dA d.length dc] 57)).heap.size (some ⟨gL, 0, none⟩) (1 * 9) (⟨yA, yc, tA, tc, dA, dc, ⟨nm, tg, ty, 2, n0, n1, n2, ttl, d⟩⟩ : SmR).cells := by rw [hgL]; exact Rd.lit_top0 v0 57 [.slice yA nm.length yc, .slice tA tg.length tc, .int .u8 (ty : Int), .int .u8 2, .int .u16 (n0 : Int), .int .u16 (n1 : Int), .int .u16 (n2 : Int), .int .u32 (ttl : Int), .slice dA d.length dc] 9 rfl
      rw [← hgL]
      replace hH := hH.below hn hH.lt
      replace hB := hB.trans (hn.mono hB.size)
      clear hn hgL
      generalize v0.alloc (.cells #[.slice yA nm.length yc, .slice tA tg.length tc, .int .u8 (ty : Int), .int .u8 2, .int .u16 (n0 : Int), .int .u16 (n1 : Int), .int .u16 (n2 : Int), .int .u32 (ttl : Int), .slice dA d.length dc] 57) = v1 at *
      refine hK1.out _ _ hH (fun _ => ?_)
      (try simp only [Act.put, List.setIfInBounds_toArray, List.set_cons_zero, List.set_cons_succ])
      clear hK1
      refine wpAnyH_ready (rs := [12, 14]) (by kernel_rfl) (by simp) ?_
      refine reg_cons _ rfl (fun K1 hK1 => ?_) (reg_cons _ rfl (fun K1 hK1 => ?_) AllReadyH.nil)
      · refine step_appG _ rfl _ _ _ _ rfl _ 9 57 i0 _ 88 Try.underlying45 hi hz0 hz1 hz2 (by rfl) (by omega) (by omega) A1 K (smcs L) (by rfl) ((HRL.out.below (HB5.out.trans (hB.mono HB5.out.size)))) (.slice (some ⟨gL, 0, none⟩) 1 1) (by rfl) 1 (⟨yA, yc, tA, tc, dA, dc, ⟨nm, tg, ty, 2, n0, n1, n2, ttl, d⟩⟩ : SmR).cells (hL.srcM Try.underlying45 (smcells_one _)) (by omega) (by omega) ?_
        intro vt v2 howT hbT
        obtain ⟨TA, Tc, rfl, hTc, _, hTr⟩ := howT.form
        have hT : Rd v2 v2.heap.size TA ((K + 1) * 9) (smcs (L ++ [(⟨yA, yc, tA, tc, dA, dc, ⟨nm, tg, ty, 2, n0, n1, n2, ttl, d⟩⟩ : SmR)])) := by rw [smcs_snoc]; exact hTr
        replace hH := hH.below hbT hH.lt
        replace hB := hB.trans (hbT.mono hB.size)
        clear hbT howT hTr hL
        refine hK1.out _ _ hH (fun _ => ?_)
        (try simp only [Act.put, List.setIfInBounds_toArray, List.set_cons_zero, List.set_cons_succ])
        clear hK1
        refine wpAnyH_ready (rs := [13, 14]) (by kernel_rfl) (by simp) ?_
        refine reg_cons _ rfl (fun K1 hK1 => ?_) (reg_cons _ rfl (fun K1 hK1 => ?_) AllReadyH.nil)
        · go_simp
          go_at_call 21
          refine (dmade_atL id fl TA Tc (K + 1) (L ++ [(⟨yA, yc, tA, tc, dA, dc, ⟨nm, tg, ty, 2, n0, n1, n2, ttl, d⟩⟩ : SmR)]) (by rw [List.length_append, HLl.out]; rfl) v2 hT hTc (fun x hx => ((HX2.out x hx).below (HB5.out.trans (hB.mono HB5.out.size))).more (HB5.out.trans (hB.mono HB5.out.size)).size)).mono ?_
          rw [← HO.out]
          rintro e v3 ⟨x, hx6, rfl, hmo, hbE⟩
          obtain ⟨idO, flO, qAO, qcO, qsO, aAO, acO, raO, bAO, bdO, rbO, cAO, ccO, rcO⟩ := x
          unfold MR.cells
          (try dsimp only)
          have hmr := MM2.out _ _ _ hmo hx6
          clear hmo
          replace hH := hH.below hbE hH.lt
          replace hB := hB.trans (hbE.mono hB.size)
          clear hbE hT
          refine hK1.out _ _ hH (fun _ => ?_)
          (try simp only [Act.put, List.setIfInBounds_toArray, List.set_cons_zero, List.set_cons_succ])
          clear hK1
          refine wpAnyH_ready (rs := [14]) (by kernel_rfl) (by simp) ?_
          refine reg_cons _ rfl (fun K1 hK1 => ?_) AllReadyH.nil
          · go_simp
            obtain ⟨gZ, hgZ⟩ : ∃ g, g = v3.heap.size := ⟨_, rfl⟩
            have hn : Below v3.heap.size v3 (v3.alloc (.cells #[.int .u16 0, .int .u16 0, .slice none 0 0, .slice none 0 0, .slice none 0 0, .slice none 0 0] 30)) := below_new _ _
            have hZ : Vx (v3.alloc (.cells #[.int .u16 0, .int .u16 0, .slice none 0 0, .slice none 0 0, .slice none 0 0, .slice none 0 0] 30)) gZ 30 zM6 := by rw [hgZ]; exact Vx.new v3 _ _
            have hgZ2 : w5.heap.size ≤ gZ := by have := hB.size; omega
            replace hmr : MRd (v3.alloc (.cells #[.int .u16 0, .int .u16 0, .slice none 0 0, .slice none 0 0, .slice none 0 0, .slice none 0 0] 30)) gZ ⟨idO, flO, qAO, qcO, qsO, aAO, acO, raO, bAO, bdO, rbO, cAO, ccO, rcO⟩ := by rw [hgZ]; exact hmr.below hn
            rw [← hgZ]
            replace hH := hH.below hn hH.lt
            replace hB := hB.trans (hn.mono hB.size)
            clear hn hgZ
            generalize v3.alloc (.cells #[.int .u16 0, .int .u16 0, .slice none 0 0, .slice none 0 0, .slice none 0 0, .slice none 0 0] 30) = v4 at *
            refine hK1.out _ _ hH (fun _ => ?_)
            (try simp only [Act.put, List.setIfInBounds_toArray, List.set_cons_zero, List.set_cons_succ])
            clear hK1
            have hzl := hZ.lt
            refine wpAnyH_ready (rs := [15]) (by kernel_rfl) (by simp) ?_
            refine reg_cons _ rfl (fun K1 hK1 => ?_) AllReadyH.nil
            rw [if_pos (by rfl)]
            refine wp_store_row 30 _ _ (by rfl) gZ #[.int .u16 (idO : Int), .int .u16 (flO : Int), .slice qAO qsO.length qcO, .slice aAO raO.length acO, .slice bAO rbO.length bdO, .slice cAO rcO.length ccO] (by rfl) (by rfl) _ _ hZ (by kernel_rfl) rfl (by kernel_rfl) ?_
            have h75 : g7 < w5.heap.size := V7.lt
            refine hK1.out _ _ (hH.rowO (by omega) _) (fun _ => ?_)
            clear hK1
            refine wpAnyH_done (by kernel_rfl) ?_ _
            go_wp2_with fail
            go_meet
            exact ⟨gZ, ⟨idO, flO, qAO, qcO, qsO, aAO, acO, raO, bAO, bdO, rbO, cAO, ccO, rcO⟩, rfl, hx6, Lib.hid (hB.trans ((Only.row v4 gZ #[.int .u16 (idO : Int), .int .u16 (flO : Int), .slice qAO qsO.length qcO, .slice aAO raO.length acO, .slice bAO rbO.length bdO, .slice cAO rcO.length ccO]).below hgZ2 hB.size)), Lib.hid ⟨hZ.row _, (hmr.below (Only.row v4 gZ #[.int .u16 (idO : Int), .int .u16 (flO : Int), .slice qAO qsO.length qcO, .slice aAO raO.length acO, .slice bAO rbO.length bdO, .slice cAO rcO.length ccO] |>.below (Nat.le_refl _) (Nat.le_of_lt hzl))).more (by simp; omega)⟩⟩
        · go_simp
          obtain ⟨gZ, hgZ⟩ : ∃ g, g = v2.heap.size := ⟨_, rfl⟩
          have hn : Below v2.heap.size v2 (v2.alloc (.cells #[.int .u16 0, .int .u16 0, .slice none 0 0, .slice none 0 0, .slice none 0 0, .slice none 0 0] 30)) := below_new _ _
          have hZ : Vx (v2.alloc (.cells #[.int .u16 0, .int .u16 0, .slice none 0 0, .slice none 0 0, .slice none 0 0, .slice none 0 0] 30)) gZ 30 zM6 := by rw [hgZ]; exact Vx.new v2 _ _
          have hgZ2 : w5.heap.size ≤ gZ := by have := hB.size; omega
          replace hT := (hT.below hn).more hn.size
          rw [← hgZ]
          replace hH := hH.below hn hH.lt
          replace hB := hB.trans (hn.mono hB.size)
          clear hn hgZ
          generalize v2.alloc (.cells #[.int .u16 0, .int .u16 0, .slice none 0 0, .slice none 0 0, .slice none 0 0, .slice none 0 0] 30) = v3 at *
          refine hK1.out _ _ hH (fun _ => ?_)
          (try simp only [Act.put, List.setIfInBounds_toArray, List.set_cons_zero, List.set_cons_succ])
          clear hK1
          refine wpAnyH_ready (rs := [13]) (by kernel_rfl) (by simp) ?_
          refine reg_cons _ rfl (fun K1 hK1 => ?_) AllReadyH.nil
          · go_simp
            go_at_call 21
            refine (dmade_atL id fl TA Tc (K + 1) (L ++ [(⟨yA, yc, tA, tc, dA, dc, ⟨nm, tg, ty, 2, n0, n1, n2, ttl, d⟩⟩ : SmR)]) (by rw [List.length_append, HLl.out]; rfl) v3 hT hTc (fun x hx => ((HX2.out x hx).below (HB5.out.trans (hB.mono HB5.out.size))).more (HB5.out.trans (hB.mono HB5.out.size)).size)).mono ?_
            rw [← HO.out]
            rintro e v4 ⟨x, hx6, rfl, hmo, hbE⟩
            obtain ⟨idO, flO, qAO, qcO, qsO, aAO, acO, raO, bAO, bdO, rbO, cAO, ccO, rcO⟩ := x
            unfold MR.cells
            (try dsimp only)
            have hgb : gZ < v3.heap.size := hZ.lt
            replace hZ := hZ.below hbE hZ.lt
            replace hH := hH.below hbE hH.lt
            replace hB := hB.trans (hbE.mono hB.size)
            clear hbE hT
            refine hK1.out _ _ hH (fun _ => ?_)
            (try simp only [Act.put, List.setIfInBounds_toArray, List.set_cons_zero, List.set_cons_succ])
            clear hK1
            have hzl := hZ.lt
            refine wpAnyH_ready (rs := [15]) (by kernel_rfl) (by simp) ?_
            refine reg_cons _ rfl (fun K1 hK1 => ?_) AllReadyH.nil
            rw [if_pos (by rfl)]
            refine wp_store_row 30 _ _ (by rfl) gZ #[.int .u16 (idO : Int), .int .u16 (flO : Int), .slice qAO qsO.length qcO, .slice aAO raO.length acO, .slice bAO rbO.length bdO, .slice cAO rcO.length ccO] (by rfl) (by rfl) _ _ hZ (by kernel_rfl) rfl (by kernel_rfl) ?_
            have h75 : g7 < w5.heap.size := V7.lt
            refine hK1.out _ _ (hH.rowO (by omega) _) (fun _ => ?_)
            clear hK1
            refine wpAnyH_done (by kernel_rfl) ?_ _
            go_wp2_with fail
            go_meet
            exact ⟨gZ, ⟨idO, flO, qAO, qcO, qsO, aAO, acO, raO, bAO, bdO, rbO, cAO, ccO, rcO⟩, rfl, hx6, Lib.hid (hB.trans ((Only.row v4 gZ #[.int .u16 (idO : Int), .int .u16 (flO : Int), .slice qAO qsO.length qcO, .slice aAO raO.length acO, .slice bAO rbO.length bdO, .slice cAO rcO.length ccO]).below hgZ2 hB.size)), Lib.hid ⟨hZ.row _, MM2.out _ _ _ (hmo.only (Only.row v4 gZ #[.int .u16 (idO : Int), .int .u16 (flO : Int), .slice qAO qsO.length qcO, .slice aAO raO.length acO, .slice bAO rbO.length bdO, .slice cAO rcO.length ccO]) hgb) hx6⟩⟩
      · go_simp
        obtain ⟨gZ, hgZ⟩ : ∃ g, g = v1.heap.size := ⟨_, rfl⟩
        have hn : Below v1.heap.size v1 (v1.alloc (.cells #[.int .u16 0, .int .u16 0, .slice none 0 0, .slice none 0 0, .slice none 0 0, .slice none 0 0] 30)) := below_new _ _
        have hZ : Vx (v1.alloc (.cells #[.int .u16 0, .int .u16 0, .slice none 0 0, .slice none 0 0, .slice none 0 0, .slice none 0 0] 30)) gZ 30 zM6 := by rw [hgZ]; exact Vx.new v1 _ _
        have hgZ2 : w5.heap.size ≤ gZ := by have := hB.size; omega
        replace hL := (hL.below hn).more hn.size
        rw [← hgZ]
        replace hH := hH.below hn hH.lt
        replace hB := hB.trans (hn.mono hB.size)
        clear hn hgZ
        generalize v1.alloc (.cells #[.int .u16 0, .int .u16 0, .slice none 0 0, .slice none 0 0, .slice none 0 0, .slice none 0 0] 30) = v2 at *
        refine hK1.out _ _ hH (fun _ => ?_)
        (try simp only [Act.put, List.setIfInBounds_toArray, List.set_cons_zero, List.set_cons_succ])
        clear hK1
        refine wpAnyH_ready (rs := [12]) (by kernel_rfl) (by simp) ?_
        refine reg_cons _ rfl (fun K1 hK1 => ?_) AllReadyH.nil
        · refine step_appG _ rfl _ _ _ _ rfl _ 9 57 i0 _ 88 Try.underlying45 hi hz0 hz1 hz2 (by rfl) (by omega) (by omega) A1 K (smcs L) (by rfl) ((HRL.out.below (HB5.out.trans (hB.mono HB5.out.size)))) (.slice (some ⟨gL, 0, none⟩) 1 1) (by rfl) 1 (⟨yA, yc, tA, tc, dA, dc, ⟨nm, tg, ty, 2, n0, n1, n2, ttl, d⟩⟩ : SmR).cells (hL.srcM Try.underlying45 (smcells_one _)) (by omega) (by omega) ?_
          intro vt v3 howT hbT
          obtain ⟨TA, Tc, rfl, hTc, _, hTr⟩ := howT.form
          have hT : Rd v3 v3.heap.size TA ((K + 1) * 9) (smcs (L ++ [(⟨yA, yc, tA, tc, dA, dc, ⟨nm, tg, ty, 2, n0, n1, n2, ttl, d⟩⟩ : SmR)])) := by rw [smcs_snoc]; exact hTr
          replace hZ := hZ.below hbT hZ.lt
          replace hH := hH.below hbT hH.lt
          replace hB := hB.trans (hbT.mono hB.size)
          clear hbT howT hTr hL
          refine hK1.out _ _ hH (fun _ => ?_)
          (try simp only [Act.put, List.setIfInBounds_toArray, List.set_cons_zero, List.set_cons_succ])
          clear hK1
          refine wpAnyH_ready (rs := [13]) (by kernel_rfl) (by simp) ?_
          refine reg_cons _ rfl (fun K1 hK1 => ?_) AllReadyH.nil
          · go_simp
            go_at_call 21
            refine (dmade_atL id fl TA Tc (K + 1) (L ++ [(⟨yA, yc, tA, tc, dA, dc, ⟨nm, tg, ty, 2, n0, n1, n2, ttl, d⟩⟩ : SmR)]) (by rw [List.length_append, HLl.out]; rfl) v3 hT hTc (fun x hx => ((HX2.out x hx).below (HB5.out.trans (hB.mono HB5.out.size))).more (HB5.out.trans (hB.mono HB5.out.size)).size)).mono ?_
            rw [← HO.out]
            rintro e v4 ⟨x, hx6, rfl, hmo, hbE⟩
            obtain ⟨idO, flO, qAO, qcO, qsO, aAO, acO, raO, bAO, bdO, rbO, cAO, ccO, rcO⟩ := x
            unfold MR.cells
            (try dsimp only)
            have hgb : gZ < v3.heap.size := hZ.lt
            replace hZ := hZ.below hbE hZ.lt
            replace hH := hH.below hbE hH.lt
            replace hB := hB.trans (hbE.mono hB.size)
            clear hbE hT
            refine hK1.out _ _ hH (fun _ => ?_)
            (try simp only [Act.put, List.setIfInBounds_toArray, List.set_cons_zero, List.set_cons_succ])
            clear hK1
            have hzl := hZ.lt
            refine wpAnyH_ready (rs := [15]) (by kernel_rfl) (by simp) ?_
            refine reg_cons _ rfl (fun K1 hK1 => ?_) AllReadyH.nil
            rw [if_pos (by rfl)]
            refine wp_store_row 30 _ _ (by rfl) gZ #[.int .u16 (idO : Int), .int .u16 (flO : Int), .slice qAO qsO.length qcO, .slice aAO raO.length acO, .slice bAO rbO.length bdO, .slice cAO rcO.length ccO] (by rfl) (by rfl) _ _ hZ (by kernel_rfl) rfl (by kernel_rfl) ?_
            have h75 : g7 < w5.heap.size := V7.lt
            refine hK1.out _ _ (hH.rowO (by omega) _) (fun _ => ?_)
            clear hK1
            refine wpAnyH_done (by kernel_rfl) ?_ _
            go_wp2_with fail
            go_meet
            exact ⟨gZ, ⟨idO, flO, qAO, qcO, qsO, aAO, acO, raO, bAO, bdO, rbO, cAO, ccO, rcO⟩, rfl, hx6, Lib.hid (hB.trans ((Only.row v4 gZ #[.int .u16 (idO : Int), .int .u16 (flO : Int), .slice qAO qsO.length qcO, .slice aAO raO.length acO, .slice bAO rbO.length bdO, .slice cAO rcO.length ccO]).below hgZ2 hB.size)), Lib.hid ⟨hZ.row _, MM2.out _ _ _ (hmo.only (Only.row v4 gZ #[.int .u16 (idO : Int), .int .u16 (flO : Int), .slice qAO qsO.length qcO, .slice aAO raO.length acO, .slice bAO rbO.length bdO, .slice cAO rcO.length ccO]) hgb) hx6⟩⟩
    · go_simp
      obtain ⟨gZ, hgZ⟩ : ∃ g, g = v0.heap.size := ⟨_, rfl⟩
      have hn : Below v0.heap.size v0 (v0.alloc (.cells #[.int .u16 0, .int .u16 0, .slice none 0 0, .slice none 0 0, .slice none 0 0, .slice none 0 0] 30)) := below_new _ _
      have hZ : Vx (v0.alloc (.cells #[.int .u16 0, .int .u16 0, .slice none 0 0, .slice none 0 0, .slice none 0 0, .slice none 0 0] 30)) gZ 30 zM6 := by rw [hgZ]; exact Vx.new v0 _ _
      have hgZ2 : w5.heap.size ≤ gZ := by have := hB.size; omega
      rw [← hgZ]
      replace hH := hH.below hn hH.lt
      replace hB := hB.trans (hn.mono hB.size)
      clear hn hgZ
      generalize v0.alloc (.cells #[.int .u16 0, .int .u16 0, .slice none 0 0, .slice none 0 0, .slice none 0 0, .slice none 0 0] 30) = v1 at *
      refine hK1.out _ _ hH (fun _ => ?_)
      (try simp only [Act.put, List.setIfInBounds_toArray, List.set_cons_zero, List.set_cons_succ])
      clear hK1
      refine wpAnyH_ready (rs := [11]) (by kernel_rfl) (by simp) ?_
      refine reg_cons _ rfl (fun K1 hK1 => ?_) AllReadyH.nil
      · go_simp
        obtain ⟨gL, hgL⟩ : ∃ g, g = v1.heap.size := ⟨_, rfl⟩
        have hn : Below v1.heap.size v1 (v1.alloc (.cells #[.slice yA nm.length yc, .slice tA tg.length tc, .int .u8 (ty : Int), .int .u8 2, .int .u16 (n0 : Int), .int .u16 (n1 : Int), .int .u16 (n2 : Int), .int .u32 (ttl : Int), .slice dA d.length dc] 57)) := below_new _ _
        have hL : Rd (v1.alloc (.cells #[.slice yA nm.length yc, .slice tA tg.length tc, .int .u8 (ty : Int), .int .u8 2, .int .u16 (n0 : Int), .int .u16 (n1 : Int), .int .u16 (n2 : Int), .int .u32 (ttl : Int), .slice dA d.length dc] 57)) (v1.alloc (.cells #[.slice yA nm.length yc, .slice tA tg.length tc, .int .u8 (ty : Int), .int .u8 2, .int .u16 (n0 : Int), .int .u16 (n1 : Int), .int .u16 (n2 : Int), .int .u32 (ttl : Int), .slice dA d.length dc] 57)).heap.size (some ⟨gL, 0, none⟩) (1 * 9) (⟨yA, yc, tA, tc, dA, dc, ⟨nm, tg, ty, 2, n0, n1, n2, ttl, d⟩⟩ : SmR).cells := by rw [hgL]; exact Rd.lit_top0 v1 57 [.slice yA nm.length yc, .slice tA tg.length tc, .int .u8 (ty : Int), .int .u8 2, .int .u16 (n0 : Int), .int .u16 (n1 : Int), .int .u16 (n2 : Int), .int .u32 (ttl : Int), .slice dA d.length dc] 9 rfl
        rw [← hgL]
        replace hZ := hZ.below hn hZ.lt
        replace hH := hH.below hn hH.lt
        replace hB := hB.trans (hn.mono hB.size)
        clear hn hgL
        generalize v1.alloc (.cells #[.slice yA nm.length yc, .slice tA tg.length tc, .int .u8 (ty : Int), .int .u8 2, .int .u16 (n0 : Int), .int .u16 (n1 : Int), .int .u16 (n2 : Int), .int .u32 (ttl : Int), .slice dA d.length dc] 57) = v2 at *
        refine hK1.out _ _ hH (fun _ => ?_)
        (try simp only [Act.put, List.setIfInBounds_toArray, List.set_cons_zero, List.set_cons_succ])
        clear hK1
        refine wpAnyH_ready (rs := [12]) (by kernel_rfl) (by simp) ?_
        refine reg_cons _ rfl (fun K1 hK1 => ?_) AllReadyH.nil
        · refine step_appG _ rfl _ _ _ _ rfl _ 9 57 i0 _ 88 Try.underlying45 hi hz0 hz1 hz2 (by rfl) (by omega) (by omega) A1 K (smcs L) (by rfl) ((HRL.out.below (HB5.out.trans (hB.mono HB5.out.size)))) (.slice (some ⟨gL, 0, none⟩) 1 1) (by rfl) 1 (⟨yA, yc, tA, tc, dA, dc, ⟨nm, tg, ty, 2, n0, n1, n2, ttl, d⟩⟩ : SmR).cells (hL.srcM Try.underlying45 (smcells_one _)) (by omega) (by omega) ?_
          intro vt v3 howT hbT
          obtain ⟨TA, Tc, rfl, hTc, _, hTr⟩ := howT.form
          have hT : Rd v3 v3.heap.size TA ((K + 1) * 9) (smcs (L ++ [(⟨yA, yc, tA, tc, dA, dc, ⟨nm, tg, ty, 2, n0, n1, n2, ttl, d⟩⟩ : SmR)])) := by rw [smcs_snoc]; exact hTr
          replace hZ := hZ.below hbT hZ.lt
          replace hH := hH.below hbT hH.lt
          replace hB := hB.trans (hbT.mono hB.size)
          clear hbT howT hTr hL
          refine hK1.out _ _ hH (fun _ => ?_)
          (try simp only [Act.put, List.setIfInBounds_toArray, List.set_cons_zero, List.set_cons_succ])
          clear hK1
          refine wpAnyH_ready (rs := [13]) (by kernel_rfl) (by simp) ?_
          refine reg_cons _ rfl (fun K1 hK1 => ?_) AllReadyH.nil
          · go_simp
            go_at_call 21
            refine (dmade_atL id fl TA Tc (K + 1) (L ++ [(⟨yA, yc, tA, tc, dA, dc, ⟨nm, tg, ty, 2, n0, n1, n2, ttl, d⟩⟩ : SmR)]) (by rw [List.length_append, HLl.out]; rfl) v3 hT hTc (fun x hx => ((HX2.out x hx).below (HB5.out.trans (hB.mono HB5.out.size))).more (HB5.out.trans (hB.mono HB5.out.size)).size)).mono ?_
            rw [← HO.out]
            rintro e v4 ⟨x, hx6, rfl, hmo, hbE⟩
            obtain ⟨idO, flO, qAO, qcO, qsO, aAO, acO, raO, bAO, bdO, rbO, cAO, ccO, rcO⟩ := x
            unfold MR.cells
            (try dsimp only)
            have hgb : gZ < v3.heap.size := hZ.lt
            replace hZ := hZ.below hbE hZ.lt
            replace hH := hH.below hbE hH.lt
            replace hB := hB.trans (hbE.mono hB.size)
            clear hbE hT
            refine hK1.out _ _ hH (fun _ => ?_)
            (try simp only [Act.put, List.setIfInBounds_toArray, List.set_cons_zero, List.set_cons_succ])
            clear hK1
            have hzl := hZ.lt
            refine wpAnyH_ready (rs := [15]) (by kernel_rfl) (by simp) ?_
            refine reg_cons _ rfl (fun K1 hK1 => ?_) AllReadyH.nil
            rw [if_pos (by rfl)]
            refine wp_store_row 30 _ _ (by rfl) gZ #[.int .u16 (idO : Int), .int .u16 (flO : Int), .slice qAO qsO.length qcO, .slice aAO raO.length acO, .slice bAO rbO.length bdO, .slice cAO rcO.length ccO] (by rfl) (by rfl) _ _ hZ (by kernel_rfl) rfl (by kernel_rfl) ?_
            have h75 : g7 < w5.heap.size := V7.lt
            refine hK1.out _ _ (hH.rowO (by omega) _) (fun _ => ?_)
            clear hK1
            refine wpAnyH_done (by kernel_rfl) ?_ _
            go_wp2_with fail
            go_meet
            exact ⟨gZ, ⟨idO, flO, qAO, qcO, qsO, aAO, acO, raO, bAO, bdO, rbO, cAO, ccO, rcO⟩, rfl, hx6, Lib.hid (hB.trans ((Only.row v4 gZ #[.int .u16 (idO : Int), .int .u16 (flO : Int), .slice qAO qsO.length qcO, .slice aAO raO.length acO, .slice bAO rbO.length bdO, .slice cAO rcO.length ccO]).below hgZ2 hB.size)), Lib.hid ⟨hZ.row _, MM2.out _ _ _ (hmo.only (Only.row v4 gZ #[.int .u16 (idO : Int), .int .u16 (flO : Int), .slice qAO qsO.length qcO, .slice aAO raO.length acO, .slice bAO rbO.length bdO, .slice cAO rcO.length ccO]) hgb) hx6⟩⟩
  case rest =>
    clear MM1 MM2 HRL HXL HX2 HLl ksl kslm
    obtain ⟨g10, x, rfl, hx6, HQ, HBO⟩ := hcut
    obtain ⟨idO, flO, qAO, qcO, qsO, aAO, acO, raO, bAO, bdO, rbO, cAO, ccO, rcO⟩ := x
    have bm6 := bm0.go HQ.out
    have HB6 := Lib.hid (HB5.out.trans (HQ.out.mono HB5.out.size))
    obtain ⟨pm0, pm1, pm2, pm3, pm4, pm5⟩ := bm6.1.c6
    obtain ⟨po0, po1, po2, po3, po4, po5⟩ := HBO.out.1.c6
    clear V7 V9 hmr5 bm0 HQ HB5
    go_upto_region 9 with (first
      | (go_at_call 14
         refine (readE_at A8 k8 G O 0 HB2.out w8 hr8 hk8 (by omega)).mono ?_
         rintro e w9 ⟨x, hx9, rfl, hmr9, hb9⟩
         obtain ⟨idK, flK, qAK, qcK, qsK, aAK, acK, raK, bAK, bdK, rbK, cAK, ccK, rcK⟩ := x
         unfold MR.cells
         dsimp only)
      | (go_at_call 16
         refine (write_at ⟨idO, flO, qAO, qcO, qsO, aAO, acO, raO, bAO, bdO, rbO, cAO, ccO, rcO⟩ w7 bo7.2).mono ?_
         rw [hx6, HW2.out]
         rintro e w8 ⟨v8, rfl, ho8, hb8⟩
         obtain ⟨A8, k8, rfl, hk8, hr8⟩ := ho8.form6 _ (bc_length _)
         have hr7 := (hr7.below hb8).more hb8.size
         have bm8 := bm7.go hb8)
      | (go_at_call 16
         refine (write_at ⟨idM, flM, qAM, qcM, qsM, aAM, acM, raM, bAM, bdM, rbM, cAM, ccM, rcM⟩ _ bm6.2).mono ?_
         rw [hx3, HW1.out]
         rintro e w7 ⟨v7, rfl, ho7, hb7⟩
         obtain ⟨A7, k7, rfl, hk7, hr7⟩ := ho7.form6 _ (bc_length _)
         have bm7 := bm6.go hb7
         have bo7 := HBO.out.go hb7
         obtain ⟨po0, po1, po2, po3, po4, po5⟩ := bo7.1.c6))
    have hk3 : rcM.length = M.r2.length := by
      rw [← hx3]; simp [MR.m]
    have hk9 : rcK.length = M.r2.length + 1 := by
      have := HR2.out.1
      rw [← hx9] at this
      simpa [MR.m] using this
    have hM10' : rcM.length ≤ 10 := by omega
    have hneL : ((rcK.length : Int) != (rcM.length : Int) + 1) = false := by
      rw [Bool.eq_false_iff, ne_eq, bne_iff_ne]; omega
    have hleL : rcM.length ≤ rcK.length := by omega
    have hcK : rcK.length ≤ ccK := hmr9.2.2.2.2.2.2.2.1
    obtain ⟨rT, hrT⟩ : ∃ rT, rT = rcK.take rcM.length := ⟨_, rfl⟩
    have hrTl : rT.length = rcM.length := by rw [hrT, List.length_take]; omega
    have hmT : MRd w9 w9.heap.size ⟨idK, flK, qAK, qcK, qsK, aAK, acK, raK, bAK, bdK, rbK, cAK, ccK, rT⟩ := by
      have h0 := hmr9.2.2.2.2.2.take hleL
      rw [← hrT] at h0
      exact ⟨hmr9.1, hmr9.2.1, hmr9.2.2.1, hmr9.2.2.2.1, hmr9.2.2.2.2.1, h0⟩
    have hTm : (⟨idK, flK, qAK, qcK, qsK, aAK, acK, raK, bAK, bdK, rbK, cAK, ccK, rT⟩ : MR).m = M := by
      obtain ⟨_, t2, t3, t4, t5, t6, t7⟩ := HR2.out
      rw [← hx9] at t2 t3 t4 t5 t6 t7
      have e : rT.map RR.r = M.r2 := by
        rw [hrT, List.map_take, hk3]; exact t2
      cases M
      simp only [MR.m] at t3 t4 t5 t6 t7 e ⊢
      rw [t3, t4, t5, t6, t7, e]
    have HTM := Lib.hid hTm
    have HRT := Lib.hid hrTl
    have ksl11 : ∀ W, (Instr.slice 27 (.slice cAK rcK.length ccK) none (some (.int .i64 (rcM.length : Int))) none).run Try.prog W = .ok (.slice cAK rcM.length ccK) W := fun W => run_slM_h W _ 49 9 Try.underlying27 szRc cAK rcK.length ccK rcM.length (by omega)
    have bm9 := bm8.go hb9
    have hn9 : Below w9.heap.size w9 (w9.alloc (.cells #[.int .u16 (idK : Int), .int .u16 (flK : Int), .slice qAK qsK.length qcK, .slice aAK raK.length acK, .slice bAK rbK.length bdK, .slice cAK rcK.length ccK] 30)) := below_new w9 _
    have bm9a := bm9.go hn9
    obtain ⟨pm0, pm1, pm2, pm3, pm4, pm5⟩ := bm9a.1.c6
    have hw0 : IntKind.i64.wrap 0 = 0 := rfl
    have hneI : ¬ (rcK.length : Int) = (rcM.length : Int) + 1 → False := fun h => h (by omega)
    have HK9 := Lib.hid hk9
    have HK3 := Lib.hid hk3
    clear hk9 hk3 hTm hrTl hrT hneI
    go_upto_region 12 with fail
    have hcl : (w9.alloc (.cells #[.int .u16 (idK : Int), .int .u16 (flK : Int), .slice qAK qsK.length qcK, .slice aAK raK.length acK, .slice bAK rbK.length bdK, .slice cAK rcM.length ccK] 30)).heap.size = w9.heap.size + 1 := by simp
    have V15 : Vx (w9.alloc (.cells #[.int .u16 (idK : Int), .int .u16 (flK : Int), .slice qAK qsK.length qcK, .slice aAK raK.length acK, .slice bAK rbK.length bdK, .slice cAK rcM.length ccK] 30)) w9.heap.size 30 [.int .u16 (idK : Int), .int .u16 (flK : Int), .slice qAK qsK.length qcK, .slice aAK raK.length acK, .slice bAK rbK.length bdK, .slice cAK rcM.length ccK] := Vx.new w9 _ _
    have hn10 : Below w9.heap.size w9 (w9.alloc (.cells #[.int .u16 (idK : Int), .int .u16 (flK : Int), .slice qAK qsK.length qcK, .slice aAK raK.length acK, .slice bAK rbK.length bdK, .slice cAK rcM.length ccK] 30)) := below_new w9 _
    have b15 : BoxM (w9.alloc (.cells #[.int .u16 (idK : Int), .int .u16 (flK : Int), .slice qAK qsK.length qcK, .slice aAK raK.length acK, .slice bAK rbK.length bdK, .slice cAK rcM.length ccK] 30)) w9.heap.size (⟨idK, flK, qAK, qcK, qsK, aAK, acK, raK, bAK, bdK, rbK, cAK, ccK, rT⟩ : MR) := ⟨by
      unfold MR.cells; simp only; rw [HRT.out]; exact V15, (hmT.below hn10).more hn10.size⟩
    have b9 := bm9.go hn10
    have hr7 := ((((hr7.below hb9).more hb9.size).below hn10).more hn10.size)
    have hr8 := ((((hr8.below hb9).more hb9.size).below hn10).more hn10.size)
    have hB7 := HB6.out.trans (hb7.mono HB6.out.size)
    have hB8 := hB7.trans (hb8.mono hB7.size)
    have hB9 := hB8.trans (hb9.mono hB8.size)
    have hB10 := hB9.trans (hn10.mono hB9.size)
    obtain ⟨g15, hg15⟩ : ∃ g, g = w9.heap.size := ⟨_, rfl⟩
    rw [← hg15] at b15
    try rw [← hg15]
    generalize (w9.alloc (.cells #[.int .u16 (idK : Int), .int .u16 (flK : Int), .slice qAK qsK.length qcK, .slice aAK raK.length acK, .slice bAK rbK.length bdK, .slice cAK rcM.length ccK] 30)) = w10 at *
    clear hg15 hB7 hB8 hB9 hn10 hn9 V15 hcl hb9 hb8 hb7 hmT hmr9 bm9 bm9a bm8 bm7 bm6 bo7 pm0 pm1 pm2 pm3 pm4 pm5
    have HB10 := Lib.hid hB10
    have HR7 := Lib.hid hr7
    have HR8 := Lib.hid hr8
    clear hB10 hr7 hr8
    have hFn : 12 ≤ F.length := by omega
    have hGn : F.length + 11 ≤ G.length := by omega
    have kb10 : ∀ W, (Instr.slice 22 (.slice A7 F.length k7) none (some (.int .i64 10)) none).run Try.prog W = .ok (.slice A7 10 k7) W := fun W => run_sl_h W _ 5 Try.underlying22 szByte A7 F.length k7 10 (by omega)
    have kc10 : ∀ W, (Instr.slice 22 (.slice A8 G.length k8) none (some (.int .i64 10)) none).run Try.prog W = .ok (.slice A8 10 k8) W := fun W => run_sl_h W _ 5 Try.underlying22 szByte A8 G.length k8 10 (by omega)
    have kb12 : ∀ W, (Instr.slice 22 (.slice A7 F.length k7) (some (.int .i64 12)) none none).run Try.prog W = .ok (.slice (cutA A7 k7 12) (F.length - 12) (k7 - 12)) W := fun W => run_sl_l W _ 5 Try.underlying22 szByte A7 F.length k7 12 (by omega)
    have kc12 : ∀ W, (Instr.slice 22 (.slice A8 G.length k8) (some (.int .i64 12)) (some (.int .i64 (F.length : Int))) none).run Try.prog W = .ok (.slice (cutA A8 k8 12) (F.length - 12) (k8 - 12)) W := fun W => run_sl_lh W _ 5 Try.underlying22 szByte A8 G.length k8 12 F.length (by omega) (by omega)
    have r10b := HR7.out.preB (k := 10) (by omega)
    have r10c := HR8.out.preB (k := 10) (by omega)
    have r12b := rd_cutB HR7.out (k := 12) (m := F.length) (by omega) (Nat.le_refl _) hk7
    have r12c := rd_cutB HR8.out (k := 12) (m := F.length) (by omega) (by omega) hk8
    have e12 : (F.drop 12).take (F.length - 12) = F.drop 12 := List.take_of_length_le (by rw [List.length_drop]; exact Nat.le_refl _)
    rw [e12] at r12b
    rw [HD12.out] at r12c
    rw [HT10.out] at r10c
    have l10 : (F.take 10).length = 10 := by rw [List.length_take]; omega
    have l12 : (F.drop 12).length = F.length - 12 := by rw [List.length_drop]
    have Q10 := Lib.hid (fun (W : World) (hW : W = w10.drew) => beq_anyL A7 A8 k7 k8 10 10 (F.take 10) (F.take 10) l10 l10 W w10.heap.size (by subst hW; exact r10b.drew) (by subst hW; exact r10c.drew))
    have Q12 := Lib.hid (fun (W : World) (hW : W = w10.drew) => beq_anyL (cutA A7 k7 12) (cutA A8 k8 12) (k7 - 12) (k8 - 12) (F.length - 12) (F.length - 12) (F.drop 12) (F.drop 12) l12 l12 W w10.heap.size (by subst hW; exact r12b.drew) (by subst hW; exact r12c.drew))
    clear r10b r10c r12b r12c e12 l10 l12
    have hq0 : Below w10.heap.size w10 w10.drew := (Below.refl _ w10).drew
    have bk := b15.go hq0
    have bm := b9.go hq0
    have ck : (⟨idK, flK, qAK, qcK, qsK, aAK, acK, raK, bAK, bdK, rbK, cAK, ccK, rT⟩ : MR).cells = [.int .u16 (idK : Int), .int .u16 (flK : Int), .slice qAK qsK.length qcK, .slice aAK raK.length acK, .slice bAK rbK.length bdK, .slice cAK rcM.length ccK] := by unfold MR.cells; simp only; rw [HRT.out]
    have v15 : Vx w10.drew g15 30 [.int .u16 (idK : Int), .int .u16 (flK : Int), .slice qAK qsK.length qcK, .slice aAK raK.length acK, .slice bAK rbK.length bdK, .slice cAK rcM.length ccK] := by have := bk.1; rw [ck] at this; exact this
    clear ck
    refine wp_region_held_drew (S := fun w' => Vx w' g15 30 [.int .u16 (idK : Int), .int .u16 (flK : Int), .slice qAK qsK.length qcK, .slice aAK raK.length acK, .slice bAK rbK.length bdK, .slice cAK rcM.length ccK] ∧ Vx w' g9 30 [.int .u16 (idM : Int), .int .u16 (flM : Int), .slice qAM qsM.length qcM, .slice aAM raM.length acM, .slice bAM rbM.length bdM, .slice cAM rcM.length ccM]) (by kernel_rfl) ⟨v15, bm.1⟩ (fun hH => ?_)
    refine reg_take 0 (v := ?_) rfl (by kernel_rfl) (fun _ _ _ h => h) (by rfl) hH ?_ ?_
    rotate_left
    · intro w hSw; (try dsimp only at hSw); go_simp; (try with_reducible rfl)
    (try simp only [Act.put, List.setIfInBounds_toArray, List.set_cons_zero, List.set_cons_succ])
    refine reg_take 1 (v := ?_) rfl (by kernel_rfl) (fun _ _ _ h => h) (by rfl) hH ?_ ?_
    rotate_left
    · intro w hSw; (try dsimp only at hSw); go_simp; (try with_reducible rfl)
    (try simp only [Act.put, List.setIfInBounds_toArray, List.set_cons_zero, List.set_cons_succ])
    refine reg_take 2 (v := ?_) rfl (by kernel_rfl) (fun _ _ _ h => h) (by rfl) hH ?_ ?_
    rotate_left
    · intro w hSw; (try dsimp only at hSw); go_simp; (try with_reducible rfl)
    (try simp only [Act.put, List.setIfInBounds_toArray, List.set_cons_zero, List.set_cons_succ])
    refine reg_take 3 (v := ?_) rfl (by kernel_rfl) (fun _ _ _ h => h) (by rfl) hH ?_ ?_
    rotate_left
    · intro w hSw; (try dsimp only at hSw); go_simp; (try with_reducible rfl)
    (try simp only [Act.put, List.setIfInBounds_toArray, List.set_cons_zero, List.set_cons_succ])
    refine wpAnyH_ready (rs := [4]) (by kernel_rfl) (by simp) ?_
    refine reg_cons _ rfl (fun K1 hK1 => ?_) AllReadyH.nil
    go_simp
    go_at_call 25
    refine (Q10.out _ rfl).mono ?_
    rw [decide_eq_true rfl]
    rintro e wz ⟨rfl, rfl⟩
    (try dsimp only)
    refine hK1.out _ _ ⟨v15, bm.1⟩ (fun hH => ?_)
    (try simp only [Act.put, List.setIfInBounds_toArray, List.set_cons_zero, List.set_cons_succ])
    clear hK1
    refine reg_take 5 (v := ?_) rfl (by kernel_rfl) (fun _ _ _ h => h) (by rfl) hH ?_ ?_
    rotate_left
    · intro w hSw; (try dsimp only at hSw); go_simp; (try with_reducible rfl)
    (try simp only [Act.put, List.setIfInBounds_toArray, List.set_cons_zero, List.set_cons_succ])
    refine reg_take 6 (v := ?_) rfl (by kernel_rfl) (fun _ _ _ h => h) (by rfl) hH ?_ ?_
    rotate_left
    · intro w hSw; (try dsimp only at hSw); go_simp; (try with_reducible rfl)
    (try simp only [Act.put, List.setIfInBounds_toArray, List.set_cons_zero, List.set_cons_succ])
    refine reg_take 7 (v := ?_) rfl (by kernel_rfl) (fun _ _ _ h => h) (by rfl) hH ?_ ?_
    rotate_left
    · intro w hSw; (try dsimp only at hSw); go_simp; (try with_reducible rfl)
    (try simp only [Act.put, List.setIfInBounds_toArray, List.set_cons_zero, List.set_cons_succ])
    refine reg_take 8 (v := ?_) rfl (by kernel_rfl) (fun _ _ _ h => h) (by rfl) hH ?_ ?_
    rotate_left
    · intro w hSw; (try dsimp only at hSw); go_simp; (try with_reducible rfl)
    (try simp only [Act.put, List.setIfInBounds_toArray, List.set_cons_zero, List.set_cons_succ])
    refine reg_take 9 (v := ?_) rfl (by kernel_rfl) (fun _ _ _ h => h) (by rfl) hH ?_ ?_
    rotate_left
    · intro w hSw; (try dsimp only at hSw); go_simp; (try with_reducible rfl)
    (try simp only [Act.put, List.setIfInBounds_toArray, List.set_cons_zero, List.set_cons_succ])
    refine reg_take 10 (v := ?_) rfl (by kernel_rfl) (fun _ _ _ h => h) (by rfl) hH ?_ ?_
    rotate_left
    · intro w hSw; (try dsimp only at hSw); go_simp; (try with_reducible rfl)
    (try simp only [Act.put, List.setIfInBounds_toArray, List.set_cons_zero, List.set_cons_succ])
    refine reg_take 11 (v := ?_) rfl (by kernel_rfl) (fun _ _ _ h => h) (by rfl) hH ?_ ?_
    rotate_left
    · intro w hSw; (try dsimp only at hSw); go_simp; (try with_reducible rfl)
    (try simp only [Act.put, List.setIfInBounds_toArray, List.set_cons_zero, List.set_cons_succ])
    refine wpAnyH_ready (rs := [12]) (by kernel_rfl) (by simp) ?_
    refine reg_cons _ rfl (fun K1 hK1 => ?_) AllReadyH.nil
    go_simp
    go_at_call 25
    refine (Q12.out _ rfl).mono ?_
    rw [decide_eq_true rfl]
    rintro e wz ⟨rfl, rfl⟩
    (try dsimp only)
    refine hK1.out _ _ ⟨v15, bm.1⟩ (fun hH => ?_)
    (try simp only [Act.put, List.setIfInBounds_toArray, List.set_cons_zero, List.set_cons_succ])
    clear hK1
    refine reg_take 13 (v := ?_) rfl (by kernel_rfl) (fun _ _ _ h => h) (by rfl) hH ?_ ?_
    rotate_left
    · intro w hSw; (try dsimp only at hSw); go_simp; (try with_reducible rfl)
    (try simp only [Act.put, List.setIfInBounds_toArray, List.set_cons_zero, List.set_cons_succ])
    refine reg_take 14 (v := ?_) rfl (by kernel_rfl) (fun _ _ _ h => h) (by rfl) hH ?_ ?_
    rotate_left
    · intro w hSw; (try dsimp only at hSw); go_simp; (try with_reducible rfl)
    (try simp only [Act.put, List.setIfInBounds_toArray, List.set_cons_zero, List.set_cons_succ])
    refine reg_load 15 rfl (by kernel_rfl) 30 _ (by rfl) g15 30 [.int .u16 (idK : Int), .int .u16 (flK : Int), .slice qAK qsK.length qcK, .slice aAK raK.length acK, .slice bAK rbK.length bdK, .slice cAK rcM.length ccK] _ (fun _ _ _ h => h) (by rfl) hH (by rfl) (fun _ h => h.1) Try.underlying30 (by rfl) (by kernel_rfl) ?_
    (try simp only [Act.put, List.setIfInBounds_toArray, List.set_cons_zero, List.set_cons_succ])
    refine reg_load 16 rfl (by kernel_rfl) 30 _ (by rfl) g9 30 [.int .u16 (idM : Int), .int .u16 (flM : Int), .slice qAM qsM.length qcM, .slice aAM raM.length acM, .slice bAM rbM.length bdM, .slice cAM rcM.length ccM] _ (fun _ _ _ h => h) (by rfl) hH (by rfl) (fun _ h => h.2) Try.underlying30 (by rfl) (by kernel_rfl) ?_
    (try simp only [Act.put, List.setIfInBounds_toArray, List.set_cons_zero, List.set_cons_succ])
    have ck : #[.int .u16 (idK : Int), .int .u16 (flK : Int), .slice qAK qsK.length qcK, .slice aAK raK.length acK, .slice bAK rbK.length bdK, .slice cAK rcM.length ccK] = (⟨idK, flK, qAK, qcK, qsK, aAK, acK, raK, bAK, bdK, rbK, cAK, ccK, rT⟩ : MR).cells.toArray := by unfold MR.cells; simp only; rw [HRT.out]
    have KS := sameM_at (⟨idK, flK, qAK, qcK, qsK, aAK, acK, raK, bAK, bdK, rbK, cAK, ccK, rT⟩ : MR) ⟨idM, flM, qAM, qcM, qsM, aAM, acM, raM, bAM, bdM, rbM, cAM, ccM, rcM⟩ w10.drew bk.2 bm.2
    rw [HTM.out, hx3, (sameM_iff M M).2 rfl, ← ck] at KS
    have HKS := Lib.hid KS
    clear KS ck
    refine wpAnyH_ready (rs := [17]) (by kernel_rfl) (by simp) ?_
    refine reg_cons _ rfl (fun K1 hK1 => ?_) AllReadyH.nil
    go_simp
    go_at_call 15
    refine HKS.out.mono ?_
    rintro e w11 ⟨rfl, hb11⟩
    have hz11 : Below w10.heap.size w10 w11 := hq0.trans hb11
    have bm := b9.go hz11
    have v15 : Vx w11 g15 30 [.int .u16 (idK : Int), .int .u16 (flK : Int), .slice qAK qsK.length qcK, .slice aAK raK.length acK, .slice bAK rbK.length bdK, .slice cAK rcM.length ccK] := v15.below hb11 v15.lt
    (try dsimp only)
    refine hK1.out _ _ ⟨v15, bm.1⟩ (fun hH => ?_)
    (try simp only [Act.put, List.setIfInBounds_toArray, List.set_cons_zero, List.set_cons_succ])
    clear hK1
    refine reg_take 18 (v := ?_) rfl (by kernel_rfl) (fun _ _ _ h => h) (by rfl) hH ?_ ?_
    rotate_left
    · intro w hSw; (try dsimp only at hSw); go_simp; (try with_reducible rfl)
    (try simp only [Act.put, List.setIfInBounds_toArray, List.set_cons_zero, List.set_cons_succ])
    refine reg_take 19 (v := ?_) rfl (by kernel_rfl) (fun _ _ _ h => h) (by rfl) hH ?_ ?_
    rotate_left
    · intro w hSw; (try dsimp only at hSw); go_simp; (try with_reducible rfl)
    (try simp only [Act.put, List.setIfInBounds_toArray, List.set_cons_zero, List.set_cons_succ])
    refine wpAnyH_done (by kernel_rfl) ?_ _
    go_wp2_with fail
    go_ret
    exact ⟨rfl, HB10.out.trans (hz11.mono HB10.out.size)⟩
end Go.Proofs.Ytmhehgalfmdldaa
