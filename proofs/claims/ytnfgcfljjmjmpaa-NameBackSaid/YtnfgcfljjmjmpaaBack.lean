/-
  NameBack, under the guard.
-/
import Derived.Test.YtnfgcfljjmjmpaaOwns
import Derived.Test.YtnfgcfljjmjmpaaBackP
set_option linter.unusedVariables false
set_option linter.unusedSimpArgs false
namespace Go.Proofs.Ytnfgcfljjmjmpaa
open Go.RowKit
def bgI (bg : List Nat) : List Int := List.map (fun (p : Nat) => (p : Int)) bg
theorem bgI_len (bg : List Nat) : (bgI bg).length = bg.length := by simp [bgI]
theorem bgI_snoc (bg : List Nat) (p : Nat) : bgI (bg ++ [p]) = bgI bg ++ [(p : Int)] := by simp [bgI]
def S3 (vb vbg vns : Value) (b : List UInt8) (bg : List Nat) (rws : List Row) : OwnL := (5, vb, bc b) :: (3, vbg, ic (bgI bg)) :: (25, vns, rws.map Row.v) :: rws.map Row.own
theorem Ow.rt {w : World} {base : Nat} {e : TypeId} {A : Option Addr} {n c : Nat} {xs : List Value} (h : Ow w base e (.slice A n c) xs) : Rd w w.heap.size A n xs := by
  have hl := h.len
  subst hl
  exact Rd.of_own h
theorem Owns.front {w : World} {base : Nat} {l1 l2 : OwnL} {x : TypeId × Value × List Value} (h : Owns w base (l1 ++ x :: l2)) : Owns w base (x :: (l1 ++ l2)) := h.perm List.perm_middle
theorem Owns.last {w : World} {base : Nat} {r i o n b : TypeId × Value × List Value} {l : OwnL} (h : Owns w base (r :: i :: o :: n :: b :: l)) : Owns w base (o :: i :: r :: (l ++ [n])) := by
  have h1 : (r :: i :: o :: n :: b :: l).Perm (b :: o :: i :: r :: (l ++ [n])) := by
    have e1 : (n :: b :: l).Perm (b :: (l ++ [n])) := (List.perm_append_singleton n (b :: l)).symm
    have e2 : (r :: i :: o :: n :: b :: l).Perm (r :: i :: o :: b :: (l ++ [n])) := ((e1.cons o).cons i).cons r
    have e3 : ([b, o, i, r] ++ (l ++ [n])).Perm ([r, i, o, b] ++ (l ++ [n])) := (List.reverse_perm [r, i, o, b]).append_right _
    exact e2.trans e3.symm
  have h2 := h.perm h1
  exact ⟨fun x hx => h2.1 x (List.mem_cons_of_mem _ hx), (List.pairwise_cons.1 h2.2).2⟩
set_option maxRecDepth 100000 in
set_option maxHeartbeats 4000000 in
theorem nameBack_any (haw : AwakeOk) (A0 : Option Addr) (c0 : Nat) (hd : List UInt8) (A1 : Option Addr) (c1 : Nat) (rows : List Row) (w : World)
    (r0 : Rd w w.heap.size A0 hd.length (bc hd)) (hc0 : hd.length ≤ c0) (hb0 : hd.length ≤ 140737488351232) (rr : RdR w w.heap.size A1 rows.length rows) (hc1 : rows.length ≤ c1) (hb1 : rows.length ≤ 140737488351232) :
    Calls Try.prog 6 #[.slice A0 hd.length c0, .slice A1 rows.length c1] w fun e w' => e = .returned (.bool true) ∧ Below w.heap.size w w' := by
  obtain ⟨i0, hi, hz0, hz1, hz2⟩ := info_parts Try.infoInt
  obtain ⟨j0, hj, hy0, hy1, hy2⟩ := info_parts Try.infoRow
  have haw' := Lib.hid haw
  clear haw
  obtain ⟨K0, hK0⟩ : ∃ K, K = min hd.length 100 := ⟨_, rfl⟩
  obtain ⟨K, hK⟩ : ∃ K, K = min rows.length 8 := ⟨_, rfl⟩
  have hmin0 : min (hd.length : Int) 100 = (K0 : Int) := by omega
  have hmin1 : min (rows.length : Int) 8 = (K : Int) := by omega
  have hK01 : K0 ≤ hd.length := by omega
  have hK02 : K0 ≤ 100 := by omega
  have hK1 : K ≤ rows.length := by omega
  have hK2 : K ≤ 8 := by omega
  have ksl0 : ∀ W, (Instr.slice 22 (.slice A0 hd.length c0) none (some (.int .i64 (K0 : Int))) none).run Try.prog W = .ok (.slice A0 K0 c0) W := fun W => run_sl_h W _ 5 Try.underlying22 szByte A0 hd.length c0 K0 (by omega)
  have ksl1 : ∀ W, (Instr.slice 40 (.slice A1 rows.length c1) none (some (.int .i64 (K : Int))) none).run Try.prog W = .ok (.slice A1 K c1) W := fun W => run_sl_h W _ 25 Try.underlying40 (fun w => by kernel_rfl) A1 rows.length c1 K (by omega)
  have rh := r0.preB hK01
  have hhl : (hd.take K0).length = K0 := by rw [List.length_take]; omega
  generalize hd.take K0 = b0 at rh hhl
  have HHL := Lib.hid hhl
  have RR := Lib.hid rr
  clear hK0 hK r0 rr hhl
  go_enter Try.func6, Try.ntmps6
  go_wp2_with (first
    | (go_at_call 14; refine (bclone_at A0 c0 K0 b0 w1 w1.heap.size HHL.out (Nat.le_refl _) ((rh.below hb1').more hb1'.size) (by omega)).mono ?_; rintro e w2 ⟨v2, rfl, hown2, hb2⟩; have hB2 := hb1'.trans (hb2.mono hb1'.size); have hb1s := hb1'.size)
    | (go_at_call 11; refine (haw'.out _).mono ?_; rintro e w1 ⟨rfl, hb1'⟩))
  have hO2 : Owns w2 w.heap.size (S3 v2 (.slice none 0 0) (.slice none 0 0) b0 [] []) := by
    have h1 : Owns w2 w.heap.size [(5, v2, bc b0)] := (Owns.nil w1 w.heap.size).cons hb2 hown2 hb1s
    have h2 : Owns w2 w.heap.size ((3, .slice none 0 0, []) :: (25, .slice none 0 0, []) :: [(5, v2, bc b0)]) := (h1.none _).none _
    exact h2.perm (by
      show List.Perm [_, _, _] [_, _, _]
      exact ((List.perm_append_singleton (5, v2, bc b0) [(3, Value.slice none 0 0, ([] : List Value)), (25, Value.slice none 0 0, ([] : List Value))])))
  have hb0l : b0.length ≤ 100 := by have := HHL.out; omega
  clear hown2 hb2 hb1' hb1s
  go_loopw [5, 6, 7, 34] (fun vb vbg vns vi wr => ∃ (k : Nat) (b : List UInt8) (bg : List Nat) (rws : List Row), k ≤ K ∧ vi = .int .i64 k ∧ Owns wr w.heap.size (S3 vb vbg vns b bg rws) ∧ Hid (BackInv b bg (rws.map Row.l)) ∧ bg.length ≤ k ∧ rws.length ≤ k ∧ b.length ≤ 100 + 255 * k ∧ Below w.heap.size w wr)
    (fun _ _ _ vi _ => K - (intOf vi).toNat)
  case atStart => exact ⟨0, b0, [], [], Nat.zero_le _, rfl, hO2, back_nil b0, by simp, by simp, by omega, hB2⟩
  case round =>
    clear hO2 hB2 hb0l
    obtain ⟨k, b, bg, rws, hk, rfl, hO, HI, hbgl, hrwl, hbl, hbel⟩ := hrel
    have hszb := hbel.size
    by_cases hlt : k < K
    · have hkr : k < rows.length := by omega
      have hrw := (RR.out.1.below hbel)
      obtain ⟨b2, o2, hA1, _, hcr⟩ := hrw.at_ hkr
      subst hA1
      have hcell := hcr k (rows[k]).v (by simp [hkr])
      obtain ⟨rdk, hck, hb16, hxk⟩ := RR.out.2 rows[k] (List.getElem_mem hkr)
      have rdk := (rdk.below hbel).more hszb
      generalize rows[k] = r at hcell rdk hck hb16 hxk
      obtain ⟨rA, rc, rl⟩ := r
      replace hcell : wr.cell? ⟨b2, o2 + k, none⟩ = some (.slice rA rl.length rc) := hcell
      replace rdk : Rd wr wr.heap.size rA rl.length (sc rl) := rdk
      replace hck : rl.length ≤ rc := hck
      replace hb16 : rl.length * 16 ≤ 140737488351232 := hb16
      have HXK : Hid (∀ x ∈ rl, x.length ≤ 140737488351232) := hxk
      clear hcr hrw hxk
      have hmr := made_right rl
      have hmade := made_at wr rA rc rl.length rl rfl rdk hck hb16 HXK.out
      generalize madeN rl = N at hmr hmade
      have HMade := Lib.hid hmade
      have HMR := Lib.hid hmr
      have hNs := size_right hmr
      have hNl := sizeN_length N
      have happ := app_reads b (bgI bg) N hmr
      have hback := back_step HI.out (bgI bg) N hmr
      obtain ⟨O, hOe⟩ : ∃ O, O = appN b (bgI bg) N := ⟨_, rfl⟩
      rw [← hOe] at happ hback
      obtain ⟨_, hO1, hO2', hO3⟩ := happ
      have HOE := Lib.hid hOe
      have HBK := Lib.hid hback
      have HO3 := Lib.hid hO3
      have hfl := formN_length N
      obtain ⟨F, hFe⟩ : ∃ F, F = formN N := ⟨_, rfl⟩
      rw [← hFe] at hfl
      have HFE := Lib.hid hFe
      have HFL := Lib.hid hfl
      have hFs : F.length ≤ 255 := by omega
      have hFO : O.length ≤ b.length + F.length := by omega
      have hFS : sizeN N = F.length := hfl.symm
      have HFS := Lib.hid hFS
      clear hmade hmr hOe hback hO3 hFe hfl hFS hO2'
      obtain ⟨Ab, cb, hvb, hlb, _⟩ := (hO.get (.head _)).form7 b.length (by simp)
      obtain ⟨Ag, cg, hvg, hlg, _⟩ := (hO.get (.tail _ (.head _))).form7 bg.length (by rw [ic_length, bgI_len])
      subst hvb hvg
      have tokA : True := trivial
      go_wp2_with (first
        | (at_builtin; have _t := tokA; have hOi := Owns.front (l1 := [_, _, _]) hO5; refine wpList_app _ rfl _ _ _ _ rfl w.heap.size 3 i0 (.int .i64 0) 8 Try.underlying38 hi hz0 hz1 hz2 rfl (by omega) _ _ ((hOi.alloc _).get (.head _)) rfl 1 [.int .i64 (b.length : Int)] (one_src Try.underlying38 _ rfl) (by rw [ic_length, bgI_len]; omega) (by simp; have := hB5.size; omega) ?_; intro v6 w6 hown6' hgr6 hsz6; have hown6 : Ow w6 w.heap.size 3 v6 (ic (bgI (bg ++ [b.length]))) := (by rw [bgI_snoc] <;> exact (by simpa [ic] using hown6')); have hO6 := (hOi.alloc _).app hgr6 hown6; have hb6 := (((Gr.refl w5 _).alloc _).trans hgr6).below (hOi.get (.head _)).lt hB5.size; have hB6 := hB5.trans hb6; clear tokA hown6' hown6 hgr6 hOi)
        | (at_builtin; have hOr := Owns.front (l1 := [_, _, _, _]) hO6; refine wpList_app _ rfl _ _ _ _ rfl w.heap.size 25 j0 (.slice none 0 0) 24 Try.underlying40 hj hy0 hy1 hy2 rfl (by omega) _ _ ((hOr.alloc _).get (.head _)) rfl 1 [.slice A3 N.length c3] (one_src Try.underlying40 _ rfl) (by rw [List.length_map]; omega) (by simp; have := hB6.size; omega) ?_; intro v7 w7 hown7' hgr7 hsz7; have hown7 : Ow w7 w.heap.size 25 v7 ((rws ++ [Row.mk A3 c3 N]).map Row.v) := (by rw [List.map_append] <;> exact hown7'); have hO7 := (hOr.alloc _).app hgr7 hown7; have hb7 := (((Gr.refl w6 _).alloc _).trans hgr7).below (hOr.get (.head _)).lt hB6.size; have hB7 := hB6.trans hb7; clear hown7' hown7 hgr7 hOr)
        | (go_at_call 23; refine (bprefix_at A5 Ab c5 cb O.length b.length O b true w5 (decide_eq_true HO3.out) rfl rfl (by omega) hl5 (hO5.get (.head _)).rt (hO5.get (.tail _ (.tail _ (.head _)))).rt (by omega)).mono ?_; rintro e w6 ⟨rfl, rfl⟩)
        | (go_at_call 19; refine (size_at w5 A3 c3 N.length N F.length HFS.out rfl (hO5.get (.tail _ (.head _))).rt (by omega)).mono ?_; rintro e w6 ⟨rfl, rfl⟩)
        | (go_at_call 21; refine (append_at w4 Ab Ag A3 cb cg c3 b.length bg.length N.length b (bgI bg) N rfl (bgI_len bg) rfl (hO4.get (.tail _ (.head _))).rt hlb (by omega) (hO4.get (.tail _ (.tail _ (.head _)))).rt (by omega) (hO4.get (.head _)).rt hl3 HMR.out).mono ?_; rw [← HOE.out]; rintro e w5 ⟨v5, rfl, hown5, hb5⟩; obtain ⟨A5, c5, rfl, hl5, _⟩ := hown5.form7 O.length (by simp); have hO5 := hO4.cons hb5 hown5 hB4.size; have hB5 := hB4.trans (hb5.mono hB4.size); clear hown5 hb5)
        | (go_at_call 20; refine (form_at w3 A3 c3 N.length N rfl r3 HMR.out).mono ?_; rw [← HFE.out]; rintro e w4 ⟨v4, rfl, hown4, hb4⟩; obtain ⟨A4, c4, rfl, hl4, r4⟩ := hown4.form7 F.length (by simp); have hO4 := hO3'.far hb4; have hB4 := hB3.trans (hb4.mono hB3.size); clear hown4 hb4)
        | (go_at_call 16; refine HMade.out.mono ?_; rintro e w3 ⟨v3, rfl, hown3, hb3⟩; obtain ⟨A3, c3, rfl, hl3, r3⟩ := hown3.form7 N.length (by simp); have hO3' := hO.cons hb3 hown3 hszb; have hB3 := hbel.trans (hb3.mono hszb); clear hown3 hb3))
      go_roundw
      case rel =>
        refine ⟨k + 1, O, bg ++ [b.length], rws ++ [⟨A3, c3, N⟩], by omega, by go_num, ?_, ?_, by simp; omega, by simp; omega, by omega, hB7⟩
        · have h9 := hO7.last
          have e : (rws ++ [Row.mk A3 c3 N]).map Row.own = rws.map Row.own ++ [(9, .slice A3 N.length c3, sc N)] := by rw [List.map_append]; rfl
          unfold S3
          rw [e]
          exact h9
        · have := HBK.out
          rw [List.map_append]
          exact this
      case measure => simp [intOf]; omega
    · obtain ⟨Ab, cb, hvb, hlb, _⟩ := (hO.get (.head _)).form7 b.length (by simp)
      obtain ⟨Ag, cg, hvg, hlg, _⟩ := (hO.get (.tail _ (.head _))).form7 bg.length (by rw [ic_length, bgI_len])
      obtain ⟨An, cn, hvn, hln, _⟩ := (hO.get (.tail _ (.tail _ (.head _)))).form7 rws.length (by simp)
      subst hvb hvg hvn
      have hInv := HI.out
      clear RR
      go_wp2_with (at_builtin; have hOi := Owns.front (l1 := [_]) hO; refine wpList_app _ rfl _ _ _ _ rfl w.heap.size 3 i0 (.int .i64 0) 8 Try.underlying38 hi hz0 hz1 hz2 rfl (by omega) _ _ ((hOi.alloc _).get (.head _)) rfl 1 [.int .i64 (b.length : Int)] (one_src Try.underlying38 _ rfl) (by rw [ic_length, bgI_len]; omega) (by simp; omega) ?_; intro v6 w6 hown6' hgr6 hsz6; have hown6 : Ow w6 w.heap.size 3 v6 (ic (bgI (bg ++ [b.length]))) := (by rw [bgI_snoc] <;> exact (by simpa [ic] using hown6')); have hO6 := (hOi.alloc _).app hgr6 hown6; have hb6 := (((Gr.refl wr _).alloc _).trans hgr6).below (hOi.get (.head _)).lt hszb; have hB6 := hbel.trans hb6; obtain ⟨A6, c6, hv6, hl6, _⟩ := hown6.form7 (bg.length + 1) (by rw [ic_length, bgI_len]; simp); subst hv6; clear hown6' hown6 hgr6 hOi)
      have RG := (hO6.get (.head _)).rt
      have RB := (hO6.get (.tail _ (.head _))).rt
      have RN := (hO6.get (.tail _ (.tail _ (.head _)))).rt
      have RW : ∀ r ∈ rws, Rd w6 w6.heap.size r.A r.l.length (sc r.l) := fun r hr => by
        have hm : r.own ∈ ((3, Value.slice A6 (bg.length + 1) c6, ic (bgI (bg ++ [b.length]))) :: ([(5, Value.slice Ab b.length cb, bc b)] ++ (25, Value.slice An rws.length cn, rws.map Row.v) :: rws.map Row.own)) := List.mem_cons_of_mem _ (List.mem_cons_of_mem _ (List.mem_cons_of_mem _ (List.mem_map_of_mem hr)))
        have h9 : Ow w6 w.heap.size 9 (.slice r.A r.l.length r.c) (sc r.l) := hO6.1 _ hm
        exact h9.rt
      have HRW := Lib.hid RW
      clear hO6 hO RW hb6 hbel hszb
      go_loopw [104] (fun vj wq => ∃ j : Nat, j ≤ rws.length ∧ vj = .int .i64 j ∧ Below w6.heap.size w6 wq) (fun vj _ => rws.length - (intOf vj).toNat)
      case atStart => exact ⟨0, Nat.zero_le _, rfl, Below.refl _ _⟩
      case round =>
        obtain ⟨j, hjr, rfl, hbq⟩ := hrel
        have hsq := hbq.size
        by_cases hjl : j < rws.length
        · have hbgl2 := hInv.1
          rw [List.length_map] at hbgl2
          obtain ⟨p, q, e1, e2, e3, e4, e5⟩ := hInv.2 j (rws[j]).l (by simp [hjl])
          obtain ⟨bn, on, hAn, hbn, hcn⟩ := (RN.below hbq).at_ hjl
          obtain ⟨bgb, og, hA6, hbgb, hcg⟩ := (RG.below hbq).at_ (show j < bg.length + 1 by omega)
          subst hAn hA6
          have hcell := hcn j (rws[j]).v (by simp [hjl])
          have hg0 := hcg j (.int .i64 (p : Int)) (by
            have : (bg ++ [b.length])[j]? = some p := by rw [List.getElem?_append_left (by omega)]; exact e1
            simp only [ic, bgI, List.getElem?_map, this, Option.map_some])
          have hg1 := hcg (j + 1) (.int .i64 (q : Int)) (by simp only [ic, bgI, List.getElem?_map, e2, Option.map_some])
          have hrow := HRW.out rws[j] (List.getElem_mem hjl)
          have hrl : (rws[j]).l.length ≤ 255 := by
            have := readN_len b p
            rw [e5] at this; exact this
          generalize rws[j] = r at hcell hrow e5 hrl
          obtain ⟨rA, rc, rl⟩ := r
          replace hcell : wr.cell? ⟨bn, on + j, none⟩ = some (.slice rA rl.length rc) := hcell
          replace hrow : Rd w6 w6.heap.size rA rl.length (sc rl) := hrow
          replace e5 : readN b p = (rl, q, 0) := e5
          replace hrl : rl.length ≤ 255 := hrl
          have hrow := (hrow.below hbq).more hsq
          have hbb := (RB.below hbq).more hsq
          have hbgr : bgb < wr.heap.size := Nat.lt_of_lt_of_le hbgb hsq
          have HE := Lib.hid e5
          have hjb : j < bg.length := by omega
          clear hcn hcg e1 e2 e3 e5 hbgl2
          go_wp2_with (first
            | (go_at_call 15; refine (seq_at w9 rA A9 rc c9 rl.length rl.length rl rl true (decide_eq_true rfl) rfl rfl ((hrow.below hb9).more hb9.size) r9 (by omega) (by omega)).mono ?_; rintro e w10 ⟨rfl, qq, hq⟩; have hb10 := below_step (hbq.trans (hb9.mono hsq)) hq; have hg10 : w10.cell? ⟨bgb, og + (j + 1), none⟩ = some (.int .i64 (q : Int)) := (by rw [hq] <;> exact hg9); clear hq)
            | (go_at_call 12; refine (read_at Ab cb b.length b p wr _ rfl HE.out hbb hlb (by omega) e4).mono ?_; rintro e w9 ⟨v9, rfl, hown9, hb9⟩; obtain ⟨A9, c9, rfl, hl9, r9⟩ := hown9.form7 rl.length (by simp); have hg9 := (hb9.cell (p := ⟨bgb, og + (j + 1), none⟩) hbgr).trans hg1))
          go_roundw
          case rel => exact ⟨j + 1, by omega, by go_num, hb10⟩
          case measure => simp [intOf]; omega
        · have hjr2 : j = rws.length := by omega
          subst hjr2
          go_wp2_with fail
          go_ret
          exact ⟨rfl, hB6.trans (hbq.mono hB6.size)⟩
end Go.Proofs.Ytnfgcfljjmjmpaa
