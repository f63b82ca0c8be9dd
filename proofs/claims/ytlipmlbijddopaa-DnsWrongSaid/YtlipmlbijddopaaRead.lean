import Derived.Test.YtlipmlbijddopaaForm
set_option linter.unusedVariables false
namespace Go.Proofs.Ytlipmlbijddopaa
open Go.RowKit

/-- reading on, with fuel: the name, the next offset, the number of the error -/
def rd (b : List UInt8) : Nat → Nat → Nat → Nat → Nat → Nat → List (List UInt8) → List (List UInt8) × Nat × Nat
  | 0, _, _, _, _, _, _ => ([], 0, 999)
  | f + 1, bg, en, p, nx, sz, out =>
    if p < en then
      if (b.getD p 0).toNat = 0 then (out, (if nx = 0 then p + 1 else nx), 0)
      else if (b.getD p 0).toNat < 64 then
        if 255 < sz + (1 + (b.getD p 0).toNat) then ([], 0, 3)
        else if en < p + 1 + (b.getD p 0).toNat then ([], 0, 161)
        else rd b f bg en (p + (1 + (b.getD p 0).toNat)) nx (sz + (1 + (b.getD p 0).toNat)) (out ++ [smallS ((b.drop (p + 1)).take (b.getD p 0).toNat)])
      else if (b.getD p 0).toNat < 192 then ([], 0, 162)
      else if p + 1 = en then ([], 0, 161)
      else if bg ≤ ((b.getD p 0).toNat - 192) * 256 + (b.getD (p + 1) 0).toNat then ([], 0, 163)
      else rd b f (((b.getD p 0).toNat - 192) * 256 + (b.getD (p + 1) 0).toNat) bg (((b.getD p 0).toNat - 192) * 256 + (b.getD (p + 1) 0).toNat) (if nx = 0 then p + 2 else nx) sz out
    else ([], 0, 161)
/-- how many rounds there are at most -/
def rdM (b : List UInt8) (bg en p : Nat) : Nat := bg * (b.length + 2) + (en - p) + 1
def readN (b : List UInt8) (p : Nat) : List (List UInt8) × Nat × Nat := if p ≤ b.length then rd b (rdM b p b.length p) p b.length p 0 1 [] else ([], 0, 2)

theorem rdM_pos (b : List UInt8) (bg en p : Nat) : 0 < rdM b bg en p := by unfold rdM; omega
theorem Try.infoStr : (Try.prog.info? 9).map (fun i => (i.zero, i.size, i.bytes)) = some (some (.string ⟨#[]⟩), 1, 16) := by kernel_rfl

set_option maxRecDepth 100000 in
set_option maxHeartbeats 400000 in
theorem read_any (A : Option Addr) (c : Nat) (b : List UInt8) (p : Nat) (w : World) (h : Rd w w.heap.size A b.length (bc b)) (hcap : b.length ≤ c) (hb : b.length ≤ 140737488355328) (hp : p ≤ b.length) :
    Calls Try.prog 82 #[.slice A b.length c, .int .i64 p] w fun e w' => ∃ v, e = .returned (.tuple #[v, .int .i64 (readN b p).2.1, .int .i64 (readN b p).2.2]) ∧ Ow w' w.heap.size 9 v (sc (readN b p).1) ∧ Below w.heap.size w w' := by
  obtain ⟨i0, hi, hz0, hz1, hz2⟩ := info_parts Try.infoStr
  have d1 : decide ((p : Int) < 0) = false := by simp
  have d2 : decide (b.length < p) = false := by simp; omega
  go_enter Try.func82, Try.ntmps82
  go_wp2_with fail
  go_step3
  go_wp2_with fail
  go_step3
  go_wp2_with fail
  go_loopw [1, 7, 8, 9, 10, 11] (fun vat vout vnx vsz vbg ven wr => ∃ (f bg en p' nx sz : Nat) (out : List (List UInt8)),
      vat = .int .i64 p' ∧ vnx = .int .i64 nx ∧ vsz = .int .i64 sz ∧ vbg = .int .i64 bg ∧ ven = .int .i64 en ∧
      bg ≤ b.length ∧ en ≤ b.length ∧ p' ≤ en ∧ nx ≤ b.length ∧ 1 ≤ sz ∧ sz ≤ 255 ∧ out.length < sz ∧ rdM b bg en p' ≤ f ∧
      Hid (rd b f bg en p' nx sz out = readN b p) ∧ Ow wr w.heap.size 9 vout (sc out) ∧ Below w.heap.size w wr)
    (fun _ _ _ _ vbg _ _ => (intOf vbg).toNat)
  case atStart => exact ⟨rdM b p b.length p, p, b.length, p, 0, 1, [], rfl, rfl, rfl, rfl, rfl, hp, Nat.le_refl _, hp, by omega, by omega, by omega, by simp, Nat.le_refl _, by unfold readN; rw [if_pos hp]; exact rfl, Ow.nil _ _ _, Below.refl _ _⟩
  case round =>
    obtain ⟨f, bg, en, p1, nx, sz, out, rfl, rfl, rfl, rfl, rfl, hbg, hen, hp1, hnx, hsz1, hsz2, hol, hf, HR, hown, hbel⟩ := hrel
    obtain ⟨wo, rfl⟩ : ∃ wo : World, wo = wr := ⟨_, rfl⟩
    go_wp2_with fail
    go_loopw [1, 7, 8, 9, 10, 11] (fun vat vout vnx vsz vbg ven wr => ∃ (f p' nx sz : Nat) (out : List (List UInt8)),
        vat = .int .i64 p' ∧ vnx = .int .i64 nx ∧ vsz = .int .i64 sz ∧ vbg = .int .i64 bg ∧ ven = .int .i64 en ∧
        p' ≤ en ∧ nx ≤ b.length ∧ 1 ≤ sz ∧ sz ≤ 255 ∧ out.length < sz ∧ rdM b bg en p' ≤ f ∧
        Hid (rd b f bg en p' nx sz out = readN b p) ∧ Ow wr w.heap.size 9 vout (sc out) ∧ Below w.heap.size w wr)
      (fun vat _ _ _ _ _ _ => en - (intOf vat).toNat)
    case atStart => exact ⟨f, p1, nx, sz, out, rfl, rfl, rfl, rfl, rfl, hp1, hnx, hsz1, hsz2, hol, hf, HR, hown, hbel⟩
    case round =>
      clear hp1 hnx hsz1 hsz2 hol hf HR hown hbel
      obtain ⟨f, p1, nx, sz, out, rfl, rfl, rfl, rfl, rfl, hp1, hnx, hsz1, hsz2, hol, hf, HR, hown, hbel⟩ := hrel
      obtain ⟨f', rfl⟩ : ∃ f', f = f' + 1 := ⟨f - 1, by have := rdM_pos b bg en p1; omega⟩
      have hr := h.below hbel
      by_cases hlt : p1 < en
      · obtain ⟨bl, o, rfl, hbl, hc⟩ := hr.at_ (show p1 < b.length by omega)
        have hx0 := hc p1 _ (bc_get b p1 (by omega))
        obtain ⟨x, hx⟩ : ∃ x : Nat, x = (b.getD p1 0).toNat := ⟨_, rfl⟩
        have hxe : b[p1].toNat = x := by rw [hx, List.getD_eq_getElem?_getD, List.getElem?_eq_getElem (by omega)]; rfl
        rw [hxe] at hx0
        have hx256 : x < 256 := by rw [← hxe]; exact UInt8.toNat_lt _
        have HX := Lib.hid hx
        clear hx hxe hc h
        have e := HR.out
        rw [rd, if_pos hlt, show (b.getD p1 0).toNat = x from HX.out.symm] at e
        by_cases x0 : x = 0
        · rw [if_pos x0] at e
          subst x0
          by_cases n0 : nx = 0
          · rw [if_pos n0] at e
            subst n0
            have E := Lib.hid e
            clear e
            go_wp2
            rw [Exit.noGoto_ret]
            go_ret3
            exact ⟨_, by rw [← E.out]; exact ret_t3 (by simp) rfl, by rw [← E.out]; exact hown, hbel⟩
          · rw [if_neg n0] at e
            have E := Lib.hid e
            clear e
            have n0' : ((nx : Int) == 0) = false := by simp [n0]
            go_wp2
            rw [Exit.noGoto_ret]
            go_ret3
            exact ⟨_, by rw [← E.out]; exact ret_t3 rfl rfl, by rw [← E.out]; exact hown, hbel⟩
        · rw [if_neg x0] at e
          have x0' : ((x : Int) == 0) = false := by simp [x0]
          by_cases x64 : x < 64
          · rw [if_pos x64] at e
            by_cases hbig : 255 < sz + (1 + x)
            · rw [if_pos hbig] at e
              have E := Lib.hid e
              clear e
              go_wp2
              rw [Exit.noGoto_ret]
              go_ret3
              exact ⟨_, by rw [← E.out]; exact ret_t3 rfl rfl, by rw [← E.out]; exact Ow.nil _ _ _, hbel⟩
            · rw [if_neg hbig] at e
              by_cases hen2 : en < p1 + 1 + x
              · rw [if_pos hen2] at e
                have E := Lib.hid e
                clear e
                go_wp2
                rw [Exit.noGoto_ret]
                go_ret3
                exact ⟨_, by rw [← E.out]; exact ret_t3 rfl rfl, by rw [← E.out]; exact Ow.nil _ _ _, hbel⟩
              · rw [if_neg hen2] at e
                have E := Lib.hid e
                clear e
                have hrc := (hr.cut (k := p1 + 1) (m := p1 + 1 + x) (by omega) (by omega) hcap)
                have hl0 : ((b.drop (p1 + 1)).take x).length = x := by rw [List.length_take, List.length_drop]; omega
                have hsl : ∀ W, (Instr.slice 22 (.slice (some ⟨bl, o, none⟩) b.length c) (some (.int .i64 ((p1 : Int) + 1))) (some (.int .i64 ((p1 : Int) + 1 + x))) none).run Try.prog W = .ok (.slice (some ⟨bl, o + (p1 + 1), none⟩) x (c - (p1 + 1))) W := by
                  intro W
                  have h1 := Lib.run_slice_window (P := Try.prog) W 22 5 Try.underlying22 (fun w => by kernel_rfl) bl o b.length c (p1 + 1) (p1 + 1 + x) (by omega) (by omega)
                  rw [show p1 + 1 + x - (p1 + 1) = x by omega] at h1
                  simpa using h1
                have hcv : (convert 22 9 (.slice (some ⟨bl, o + (p1 + 1), none⟩) x (c - (p1 + 1)))).run Try.prog wr = .ok (.string ⟨((b.drop (p1 + 1)).take x).toArray⟩) wr := by
                  rw [cutA_some bl o c (p1 + 1) (by omega), show p1 + 1 + x - (p1 + 1) = x by omega] at hrc
                  have hbc : ((bc b).drop (p1 + 1)).take x = bc ((b.drop (p1 + 1)).take x) := by simp [bc]
                  rw [hbc] at hrc
                  have h1 := conv_bs (P := Try.prog) wr 22 5 9 (some ⟨bl, o + (p1 + 1), none⟩) (c - (p1 + 1)) w.heap.size ((b.drop (p1 + 1)).take x) Try.underlying22 Try.underlying5 Try.underlying9 (by rw [hl0]; exact hrc)
                  rw [hl0] at h1
                  exact h1
                clear hrc hr
                generalize hlab : (b.drop (p1 + 1)).take x = lab at hcv E hl0
                have HL := Lib.hid hl0
                clear hl0 hlab
                have hbs := hbel.size
                go_wp2_with (first
                  | (go_at_call 77; refine (small_any lab wr (by rw [HL.out]; omega)).mono ?_; rintro e w2 ⟨rfl, hb2⟩; have hbs2 := hb2.size)
                  | (at_builtin; refine wpList_app _ rfl _ _ _ _ rfl w.heap.size 9 i0 (.string ⟨#[]⟩) 16 Try.underlying36 hi hz0 hz1 hz2 rfl (by omega) _ _ ((hown.far hb2).alloc _) rfl 1 [_] (one_src Try.underlying36 _ rfl) (by simp; omega) (by simp; omega) ?_; intro v3 w3 hown3 hgr3 hsz3))
                go_roundw
                case rel =>
                  refine ⟨f', p1 + (1 + x), nx, sz + (1 + x), out ++ [smallS lab], by go_num, rfl, by go_num, rfl, rfl, by omega, hnx, by omega, by omega, by simp; omega, ?_, E.out, ?_, ?_⟩
                  · unfold rdM at hf ⊢; omega
                  · have e1 : sc (out ++ [smallS lab]) = sc out ++ [.string ⟨(smallS lab).toArray⟩] := by simp [sc, strV]
                    rw [e1]; exact hown3
                  · exact (hbel.trans (hb2.mono hbs)).trans ((((Gr.refl w2 _).alloc _).trans hgr3).below hown.lt (by omega))
                case measure => simp [intOf]; omega
          · rw [if_neg x64] at e
            by_cases x192 : x < 192
            · rw [if_pos x192] at e
              have E := Lib.hid e
              clear e
              go_wp2
              rw [Exit.noGoto_ret]
              go_ret3
              exact ⟨_, by rw [← E.out]; exact ret_t3 rfl rfl, by rw [← E.out]; exact Ow.nil _ _ _, hbel⟩
            · rw [if_neg x192] at e
              by_cases hpe : p1 + 1 = en
              · rw [if_pos hpe] at e
                have E := Lib.hid e
                clear e
                subst hpe
                go_wp2
                rw [Exit.noGoto_ret]
                go_ret3
                exact ⟨_, by rw [← E.out]; exact ret_t3 rfl rfl, by rw [← E.out]; exact Ow.nil _ _ _, hbel⟩
              · rw [if_neg hpe] at e
                have hpe' : ((p1 : Int) + 1 == (en : Int)) = false := by simp; omega
                obtain ⟨bl', o', heq, _, hc⟩ := hr.at_ (show p1 < b.length by omega)
                cases heq
                have hy0 := hc (p1 + 1) _ (bc_get b (p1 + 1) (by omega))
                obtain ⟨y, hy⟩ : ∃ y : Nat, y = (b.getD (p1 + 1) 0).toNat := ⟨_, rfl⟩
                have hye : b[p1 + 1].toNat = y := by rw [hy, List.getD_eq_getElem?_getD, List.getElem?_eq_getElem (by omega)]; rfl
                rw [hye] at hy0
                have hy256 : y < 256 := by rw [← hye]; exact UInt8.toNat_lt _
                rw [show (b.getD (p1 + 1) 0).toNat = y from hy.symm] at e
                have hor := or_ptr x y (by omega) hx256 hy256
                obtain ⟨q, hq⟩ : ∃ q : Nat, q = (x - 192) * 256 + y := ⟨_, rfl⟩
                rw [← hq] at hor e
                have hqb : q < 16384 := by omega
                clear hy hye hc hr hq
                by_cases hbq : bg ≤ q
                · rw [if_pos hbq] at e
                  have E := Lib.hid e
                  clear e
                  go_wp2
                  rw [Exit.noGoto_ret]
                  go_ret3
                  exact ⟨_, by rw [← E.out]; exact ret_t3 rfl rfl, by rw [← E.out]; exact Ow.nil _ _ _, hbel⟩
                · rw [if_neg hbq] at e
                  have hM : rdM b q bg q ≤ f' := by
                    unfold rdM at hf ⊢
                    have h1 : (q + 1) * (b.length + 2) ≤ bg * (b.length + 2) := Nat.mul_le_mul_right _ (by omega)
                    rw [Nat.add_mul] at h1
                    omega
                  by_cases n0 : nx = 0
                  · rw [if_pos n0] at e
                    have E := Lib.hid e
                    clear e
                    subst n0
                    go_wp2
                    go_roundw
                    case rel => exact ⟨f', q, bg, q, p1 + 2, sz, out, rfl, by go_num, rfl, rfl, rfl, by omega, by omega, by omega, by omega, by omega, by omega, by omega, hM, E.out, hown, hbel⟩
                    case measure => simp [intOf]; omega
                  · rw [if_neg n0] at e
                    have n0' : ((nx : Int) == 0) = false := by simp [n0]
                    have E := Lib.hid e
                    clear e
                    go_wp2
                    go_roundw
                    case rel => exact ⟨f', q, bg, q, nx, sz, out, rfl, rfl, rfl, rfl, rfl, by omega, by omega, by omega, hnx, by omega, by omega, by omega, hM, E.out, hown, hbel⟩
                    case measure => simp [intOf]; omega
      · have e := HR.out
        rw [rd, if_neg hlt] at e
        have E := Lib.hid e
        clear e
        go_wp2
        rw [Exit.noGoto_ret]
        go_ret3
        exact ⟨_, by rw [← E.out]; exact ret_t3 rfl rfl, by rw [← E.out]; exact Ow.nil _ _ _, hbel⟩
end Go.Proofs.Ytlipmlbijddopaa
