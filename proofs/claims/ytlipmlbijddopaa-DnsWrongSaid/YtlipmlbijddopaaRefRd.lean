/-
  The reference of layer 16: Read (part, which calls itself).
-/
import Derived.Test.YtlipmlbijddopaaRef2
import Derived.Test.YtlipmlbijddopaaApp0
import Derived.Test.YtlipmlbijddopaaEndsP
import Derived.Deep.DeepCutAuto
set_option linter.unusedVariables false
set_option linter.unusedSimpArgs false
namespace Go.Proofs.Ytlipmlbijddopaa
open Go.RowKit
/-- a part of a name from its begin on, the labels n being there -/
def partN (l : List UInt8) (bg : Nat) (n : List (List UInt8)) : List (List UInt8) × Nat × Nat := rd l (rdM l bg l.length bg) bg l.length bg 0 (sizeN n) n

def PartOk (bg : Nat) : Prop := ∀ (A : Option Addr) (c : Nat) (l : List UInt8) (L : Nat) (n : List (List UInt8)) (v : Value) (w : World) (B : Nat), l.length = L → Rd w w.heap.size A L (bc l) → L ≤ c → L ≤ 140737488355328 → bg ≤ L → B ≤ w.heap.size →
    Ow w B 9 v (sc n) → sizeN n ≤ 255 →
    Calls Try.prog 84 #[.slice A L c, .int .i64 bg, v] w fun e w' => ∃ v', e = .returned (.tuple #[v', .int .i64 (partN l bg n).2.1, .int .i64 (partN l bg n).2.2]) ∧ Ow w' B 9 v' (sc (partN l bg n).1) ∧ Below w.heap.size w w'

set_option maxRecDepth 100000 in
set_option maxHeartbeats 2000000 in
theorem part_step (bg : Nat) (ih : ∀ q, q < bg → PartOk q) : PartOk bg := by
  intro A c l L n0 v0 w B hL h hcap hb hbg hB hown0 hsz0
  obtain ⟨i0, hi, hz0, hz1, hz2⟩ := info_parts Try.infoStr
  have IH := Lib.hid ih
  have HL := Lib.hid hL
  clear ih hL
  have hLn : L ≤ l.length := by have := HL.out; omega
  have hLm : l.length ≤ L := by have := HL.out; omega
  have hszw := h
  go_enter Try.func84, Try.ntmps84
  go_wp2_with fail
  go_loopw [2, 9] (fun vn vat wr => ∃ (f p : Nat) (n : List (List UInt8)), vat = .int .i64 p ∧ bg ≤ p ∧ p ≤ L ∧ sizeN n ≤ 255 ∧ rdM l bg L p ≤ f ∧
      Hid (rd l f bg L p 0 (sizeN n) n = partN l bg n0) ∧ Ow wr B 9 vn (sc n) ∧ Below w.heap.size w wr)
    (fun _ vat _ => L - (intOf vat).toNat)
  case atStart => exact ⟨rdM l bg L bg, bg, n0, rfl, Nat.le_refl _, hbg, hsz0, Nat.le_refl _, by unfold partN; rw [HL.out]; exact rfl, hown0, Below.refl _ _⟩
  case round =>
    clear hown0 hsz0 hszw
    obtain ⟨f, p, n, rfl, hbp, hp, hsz, hf, HR, hown, hbel⟩ := hrel
    obtain ⟨f', rfl⟩ : ∃ f', f = f' + 1 := ⟨f - 1, by have := rdM_pos l bg L p; omega⟩
    have hr := h.below hbel
    have hbs := hbel.size
    by_cases hlt : p < L
    · obtain ⟨bl, o, rfl, hbl, hc⟩ := hr.at_ hlt
      have hx0 := hc p _ (bc_get l p (by omega))
      obtain ⟨x, hx⟩ : ∃ x : Nat, x = (l.getD p 0).toNat := ⟨_, rfl⟩
      have hxe : l[p].toNat = x := by rw [hx, List.getD_eq_getElem?_getD, List.getElem?_eq_getElem (by omega)]; rfl
      rw [hxe] at hx0
      have hx256 : x < 256 := by rw [← hxe]; exact UInt8.toNat_lt _
      have HX := Lib.hid hx
      have hpe : ((p : Int) == (L : Int)) = false := by simp; omega
      clear hx hxe
      have e := HR.out
      rw [rd, if_pos hlt, show (l.getD p 0).toNat = x from HX.out.symm] at e
      by_cases x0 : x = 0
      · rw [if_pos x0, if_pos rfl] at e
        subst x0
        have E := Lib.hid e
        clear e hc h
        go_wp2_with fail
        go_ret3
        exact ⟨_, by rw [← E.out]; exact ret_t3 (by simp) rfl, by rw [← E.out]; exact hown, hbel⟩
      · rw [if_neg x0] at e
        have x0' : ((x : Int) == 0) = false := by simp [x0]
        by_cases x64 : x < 64
        · rw [if_pos x64] at e
          obtain ⟨An, cn, hv, hnl, hncap, hrn⟩ := hown.form
          rw [sc_length] at hv hnl hrn
          subst hv
          have hsl := sizeN_length n
          by_cases hbig : 255 < sizeN n + (1 + x)
          · rw [if_pos hbig] at e
            have E := Lib.hid e
            clear e hc h
            go_wp2_with (go_at_call 73; refine (rsize_any An cn n wr _ hrn (by omega)).mono ?_; rintro e wr ⟨rfl, rfl⟩)
            go_ret3
            exact ⟨_, by rw [← E.out]; exact ret_t3 rfl rfl, by rw [← E.out]; exact Ow.nil _ _ _, hbel⟩
          · rw [if_neg hbig] at e
            by_cases hen2 : L < p + 1 + x
            · rw [if_pos hen2] at e
              have E := Lib.hid e
              clear e hc h
              go_wp2_with (go_at_call 73; refine (rsize_any An cn n wr _ hrn (by omega)).mono ?_; rintro e wr ⟨rfl, rfl⟩)
              go_ret3
              exact ⟨_, by rw [← E.out]; exact ret_t3 rfl rfl, by rw [← E.out]; exact Ow.nil _ _ _, hbel⟩
            · rw [if_neg hen2] at e
              have E := Lib.hid e
              clear e hc
              have hrc := (hr.cut (k := p + 1) (m := p + 1 + x) (by omega) (by omega) hcap)
              have hl0 : ((l.drop (p + 1)).take x).length = x := by rw [List.length_take, List.length_drop]; omega
              have hsl2 : ∀ W, (Instr.slice 22 (.slice (some ⟨bl, o, none⟩) L c) (some (.int .i64 ((p : Int) + 1))) (some (.int .i64 ((p : Int) + 1 + x))) none).run Try.prog W = .ok (.slice (some ⟨bl, o + (p + 1), none⟩) x (c - (p + 1))) W := by
                intro W
                have h1 := Lib.run_slice_window (P := Try.prog) W 22 5 Try.underlying22 (fun w => by kernel_rfl) bl o L c (p + 1) (p + 1 + x) (by omega) (by omega)
                rw [show p + 1 + x - (p + 1) = x by omega] at h1
                simpa using h1
              have hcv : ∀ W, Below wr.heap.size wr W → (convert 22 9 (.slice (some ⟨bl, o + (p + 1), none⟩) x (c - (p + 1)))).run Try.prog W = .ok (.string ⟨((l.drop (p + 1)).take x).toArray⟩) W := by
                intro W hW
                rw [cutA_some bl o c (p + 1) (by omega), show p + 1 + x - (p + 1) = x by omega] at hrc
                have hbc : ((bc l).drop (p + 1)).take x = bc ((l.drop (p + 1)).take x) := by simp [bc]
                rw [hbc] at hrc
                have h1 := conv_bs (P := Try.prog) W 22 5 9 (some ⟨bl, o + (p + 1), none⟩) (c - (p + 1)) w.heap.size ((l.drop (p + 1)).take x) Try.underlying22 Try.underlying5 Try.underlying9 (by rw [hl0]; exact hrc.keep fun q hq => hW.cell (by omega))
                rw [hl0] at h1
                exact h1
              clear hrc hr h
              generalize hlab : (l.drop (p + 1)).take x = lab at hcv E hl0
              have HLb := Lib.hid hl0
              clear hlab hl0
              have hlabl : lab.length ≤ 140737488355328 := by have := HLb.out; omega
              have j1 : (0 : Int) ≤ (p : Int) + 1 := by omega
              have j2 : (p : Int) + 1 ≤ (p : Int) + 1 + (x : Int) := by omega
              have j3 : (p : Int) + 1 + (x : Int) ≤ (c : Int) := by omega
              have k1 : IntKind.i64.wrap ((p : Int) + 1) = (p : Int) + 1 := IntWalk.i64_in _ (by omega)
              have k2 : IntKind.i64.wrap ((p : Int) + 1 + (x : Int)) = (p : Int) + 1 + (x : Int) := IntWalk.i64_in _ (by omega)
              go_wp2_with (go_at_call 73; refine (rsize_any An cn n wr _ hrn (by omega)).mono ?_; rintro e wr ⟨rfl, rfl⟩)
              go_upto_region 23 with (fail)
              go_cut [2] from 81 to 95 (fun v2 wx => Ow wx B 9 v2 (sc (n ++ [smallS lab])) ∧ Below wr.heap.size wr wx)
              case first =>
                have hsn : (sc n).length ≤ 255 := by simp; omega
                have hS0 : Below wr.heap.size wr wr.drew := (Below.refl _ _).drew
                have hKS : ∀ w', Below wr.heap.size wr w' → (Below wr.heap.size wr w' ∧ (convert 22 9 (.slice (some ⟨bl, o + (p + 1), none⟩) x (c - (p + 1)))).run Try.prog w' = .ok (.string ⟨lab.toArray⟩) w') := fun w' h => ⟨h, hcv w' h⟩
                clear hcv
                go_region_held3 (fun w' => Below wr.heap.size wr w' ∧ (convert 22 9 (.slice (some ⟨bl, o + (p + 1), none⟩) x (c - (p + 1)))).run Try.prog w' = .ok (.string ⟨lab.toArray⟩) w') ((first | (refine hKS _ ?_; assumption) | (refine hKS _ (keep_alloc ?_ _); assumption) | (refine hKS _ (keep_alloc_drew ?_ _); assumption) | (refine hKS _ (keep_drew ?_); assumption))) (first
                  | (refine step_app0 _ rfl _ _ _ _ rfl wr.heap.size 9 i0 (.string ⟨#[]⟩) 16 Try.underlying36 hi hz0 hz1 hz2 rfl (by omega) ?_ (.slice An n.length cn) ?_ n.length (sc n) ?_ ?_ ?_ ?_
                     · exact ⟨_, rfl, fun q hq => by cases hq; exact Nat.le_refl _⟩
                     · rfl
                     · exact Rd.src (hrn.below (And.left (by assumption))) Try.underlying36 (sc_one n)
                     · omega
                     · exact Below.size (And.left (by assumption))
                     intro v3 w3 hown3 hb3 hsz3
                     have hS3 : Below wr.heap.size wr w3 := Below.trans (And.left (by assumption)) (hb3.mono (Below.size (And.left (by assumption)))))
                  | (go_at_call 72
                     refine (rlower_any lab _ hlabl).mono ?_
                     rintro e w4 ⟨rfl, hb4⟩
                     have hS4 : Below wr.heap.size wr w4 := Below.trans (And.left (by assumption)) (hb4.mono (Below.size (And.left (by assumption))))
                     have hown4 := hown3.far hb4)
                  | (refine step_appE _ rfl _ _ _ _ rfl wr.heap.size 9 i0 (.string ⟨#[]⟩) 16 Try.underlying36 hi hz0 hz1 hz2 rfl (by omega) _ _ (hown4.alloc _) ?_ (.slice (some ⟨w4.heap.size, 0, none⟩) 1 1) ?_ 1 [.string ⟨(smallS lab).toArray⟩] ?_ ?_ ?_ ?_
                     · rfl
                     · rfl
                     · exact one_src Try.underlying36 _ rfl
                     · simp <;> omega
                     · exact Below.size (And.left (by assumption))
                     intro v5 w5 hown5 hgr5 hsz5
                     have hS5 : Below wr.heap.size wr w5 := Below.trans (And.left (by assumption)) (hgr5.below hown4.lt (Below.size (And.left (by assumption))))))
                go_wp2_with fail
                go_meet
                refine ⟨?_, hS5⟩
                have e1 : sc (n ++ [smallS lab]) = sc n ++ [.string ⟨(smallS lab).toArray⟩] := by simp [sc, strV]
                rw [e1]
                exact (hown5.own (by simp)).mono (Nat.le_trans hB hbs)
              case rest =>
                obtain ⟨hc1, hc2⟩ := hcut
                have hl0 : (smallS lab).length = x := by rw [smallS_length]; exact HLb.out
                have HLs := Lib.hid hl0
                clear hcv hl0
                go_wp2_with fail
                go_roundw
                case rel =>
                  have hl1 := HLs.out
                  refine ⟨f', p + (1 + x), n ++ [smallS lab], by go_num, by omega, by omega, ?_, ?_, ?_, hc1, hbel.trans (hc2.mono hbs)⟩
                  · rw [sizeN_snoc, hl1]; omega
                  · exact rdM_lab hf hlt (by omega)
                  · rw [sizeN_snoc, hl1]; exact E.out
                case measure => simp [intOf]; omega
        · rw [if_neg x64] at e
          have x64' : decide (63 < (x : Int)) = true := by simp; omega
          by_cases x192 : x < 192
          · rw [if_pos x192] at e
            have E := Lib.hid e
            clear e hc h
            go_wp2_with fail
            go_ret3
            exact ⟨_, by rw [← E.out]; exact ret_t3 rfl rfl, by rw [← E.out]; exact Ow.nil _ _ _, hbel⟩
          · rw [if_neg x192] at e
            by_cases hpn : p + 1 = L
            · rw [if_pos hpn] at e
              have E := Lib.hid e
              clear e hc h
              subst hpn
              go_wp2_with fail
              go_ret3
              exact ⟨_, by rw [← E.out]; exact ret_t3 rfl rfl, by rw [← E.out]; exact Ow.nil _ _ _, hbel⟩
            · rw [if_neg hpn] at e
              have hpn' : ((p : Int) + 1 == (L : Int)) = false := by simp; omega
              have hy0 := hc (p + 1) _ (bc_get l (p + 1) (by omega))
              obtain ⟨y, hy⟩ : ∃ y : Nat, y = (l.getD (p + 1) 0).toNat := ⟨_, rfl⟩
              have hye : l[p + 1].toNat = y := by rw [hy, List.getD_eq_getElem?_getD, List.getElem?_eq_getElem (by omega)]; rfl
              rw [hye] at hy0
              have hy256 : y < 256 := by rw [← hye]; exact UInt8.toNat_lt _
              rw [show (l.getD (p + 1) 0).toNat = y from hy.symm] at e
              obtain ⟨q, hq⟩ : ∃ q : Nat, q = (x - 192) * 256 + y := ⟨_, rfl⟩
              rw [← hq] at e
              have hqi : ((x : Int) - 192) * 256 + (y : Int) = (q : Int) := by omega
              have hqb : q < 16384 := by omega
              clear hy hye hc hq
              by_cases hbq : bg ≤ q
              · rw [if_pos hbq] at e
                have E := Lib.hid e
                clear e h
                go_wp2_with fail
                go_ret3
                exact ⟨_, by rw [← E.out]; exact ret_t3 rfl rfl, by rw [← E.out]; exact Ow.nil _ _ _, hbel⟩
              · rw [if_neg hbq, if_pos rfl] at e
                have hM : rdM l q bg q ≤ f' := rdM_ptr (b := l) (en := L) hf hlt (by omega) (by omega)
                rw [rd_jump l f' q bg (p + 2) (sizeN n) n hM (by omega) (by omega) (by omega)] at e
                change (if (partN (l.take bg) q n).2.2 = 0 then ((partN (l.take bg) q n).1, p + 2, 0) else ([], 0, (partN (l.take bg) q n).2.2)) = _ at e
                have E := Lib.hid e
                clear e h
                have hIH := IH.out q (by omega) (some ⟨bl, o, none⟩) c (l.take bg) bg n _ wr B (by rw [List.length_take]; omega) (by
                  have := hr.cut (cap := c) (Nat.zero_le bg) hbg hcap
                  rw [cutA_zero] at this
                  simp only [Nat.sub_zero, List.drop_zero] at this
                  simp only [bc, List.map_take] at this ⊢
                  exact this.more hbs) (by omega) (by omega) (by omega) (Nat.le_trans hB hbs) hown hsz
                have HIH := Lib.hid hIH
                clear hIH
                have ksl : ∀ W, (Instr.slice 22 (.slice (some ⟨bl, o, none⟩) L c) none (some (.int .i64 (bg : Int))) none).run Try.prog W = .ok (.slice (some ⟨bl, o, none⟩) bg c) W := fun W => run_sl_h W _ 5 Try.underlying22 (fun w => by kernel_rfl) (some ⟨bl, o, none⟩) L c bg (by omega)
                go_wp2_with (go_at_call 84; refine HIH.out.mono ?_; rintro e w2 ⟨v2, rfl, hown2, hb2⟩)
                · have t0 : ((partN (l.take bg) q n).2.2 : Int) ≠ 0 := by
                    have : (((partN (l.take bg) q n).2.2 : Int) != 0) = true := by assumption
                    simpa using this
                  have E1 := E.out
                  rw [if_neg (show ¬ (partN (l.take bg) q n).2.2 = 0 by omega)] at E1
                  go_ret3
                  exact ⟨_, by rw [← E1]; exact ret_t3 rfl rfl, by rw [← E1]; exact Ow.nil _ _ _, hbel.trans (hb2.mono hbs)⟩
                · have t0 : ((partN (l.take bg) q n).2.2 : Int) = 0 := by
                    have : (((partN (l.take bg) q n).2.2 : Int) != 0) = false := by assumption
                    simpa using this
                  have E1 := E.out
                  rw [if_pos (show (partN (l.take bg) q n).2.2 = 0 by omega)] at E1
                  go_ret3
                  exact ⟨_, by rw [← E1]; exact ret_t3 (by simp) rfl, by rw [← E1]; exact hown2, hbel.trans (hb2.mono hbs)⟩
    · have hpL : p = L := by omega
      have e := HR.out
      rw [rd, if_neg hlt] at e
      have E := Lib.hid e
      clear e h
      subst hpL
      go_wp2_with fail
      go_ret3
      exact ⟨_, by rw [← E.out]; exact ret_t3 rfl rfl, by rw [← E.out]; exact Ow.nil _ _ _, hbel⟩
theorem part_any (bg : Nat) : PartOk bg := by
  induction bg using Nat.strongRecOn with
  | ind bg ih => exact part_step bg ih
set_option maxRecDepth 100000 in
set_option maxHeartbeats 400000 in
theorem rread_any (A : Option Addr) (c : Nat) (b : List UInt8) (p : Nat) (w : World) (h : Rd w w.heap.size A b.length (bc b)) (hcap : b.length ≤ c) (hb : b.length ≤ 140737488355328) (hp : p ≤ b.length) :
    Calls Try.prog 70 #[.slice A b.length c, .int .i64 p] w fun e w' => ∃ v, e = .returned (.tuple #[v, .int .i64 (readN b p).2.1, .int .i64 (readN b p).2.2]) ∧ Ow w' w.heap.size 9 v (sc (readN b p).1) ∧ Below w.heap.size w w' := by
  have d1 : decide ((p : Int) < 0) = false := by simp
  have d2 : decide (b.length < p) = false := by simp; omega
  have hP := part_any p A c b b.length [] (.slice none 0 0) w w.heap.size rfl h hcap hb hp (Nat.le_refl _) (Ow.nil _ _ _) (by simp [sizeN])
  have e : partN b p [] = readN b p := by unfold readN partN; rw [if_pos hp]; rfl
  rw [e] at hP
  have HP := Lib.hid hP
  clear hP e
  go_enter Try.func70, Try.ntmps70
  go_wp2_with (go_at_call 84; refine HP.out.mono ?_; rintro e w2 ⟨v2, rfl, hown2, hb2⟩)
  go_ret3
  exact ⟨_, rfl, hown2, hb2⟩
theorem rread_arg (A : Option Addr) (c : Nat) (b : List UInt8) (x : Int) (w : World) (hx : x < 0 ∨ (b.length : Int) < x) :
    Calls Try.prog 70 #[.slice A b.length c, .int .i64 x] w fun e w' => e = .returned (.tuple #[.slice none 0 0, .int .i64 0, .int .i64 2]) ∧ w' = w := by
  by_cases h0 : x < 0
  · have d1 : decide (x < 0) = true := by simp [h0]
    go_enter Try.func70, Try.ntmps70
    go_wp2_with fail
    go_ret3
    exact ⟨rfl, rfl⟩
  · have d1 : decide (x < 0) = false := by simp; omega
    have d2 : decide ((b.length : Int) < x) = true := by simp; omega
    go_enter Try.func70, Try.ntmps70
    go_wp2_with fail
    go_ret3
    exact ⟨rfl, rfl⟩
end Go.Proofs.Ytlipmlbijddopaa
