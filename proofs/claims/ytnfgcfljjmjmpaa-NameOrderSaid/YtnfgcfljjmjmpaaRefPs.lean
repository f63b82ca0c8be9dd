/-
  The reference of layer 16: Parse.
-/
import Derived.Test.YtnfgcfljjmjmpaaRefP
import Derived.Test.YtnfgcfljjmjmpaaOwnsG
set_option linter.unusedVariables false
set_option linter.unusedSimpArgs false
namespace Go.Proofs.Ytnfgcfljjmjmpaa
open Go.RowKit
theorem sc_snoc (n : List (List UInt8)) (lab : List UInt8) : sc (n ++ [lab]) = sc n ++ [.string ⟨lab.toArray⟩] := by simp [sc, strV]
theorem rright_at (w : World) (A : Option Addr) (c L : Nat) (n : List (List UInt8)) (hL : n.length = L) (h : Rd w w.heap.size A L (sc n)) (hs : sizeN n ≤ 140737488355328) :
    Calls Try.prog 45 #[.slice A L c] w fun e w' => e = .returned (.bool (rightN n)) ∧ Below w.heap.size w w' := by
  subst hL; exact rright_any A c n w h hs
theorem Ow.byGr {w w' : World} {base base' : Nat} {e : TypeId} {v v1 v1' : Value} {xs : List Value} (h : Ow w base e v xs) (hg : Gr w w' v1 v1') (hne : ∀ q, v.ownBlock = some q → v1.ownBlock ≠ some q) : Ow w' base e v xs := Ow.kept h hg hne
/-- two slices of the call's own in different blocks, behind an append onto the second -/
theorem ne_gr {w w' : World} {base : Nat} {e : TypeId} {v v1 v1' : Value} {xs : List Value} (h : Ow w base e v xs) (hg : Gr w w' v1 v1') (hne : ∀ q, v.ownBlock = some q → v1.ownBlock ≠ some q) : ∀ q, v.ownBlock = some q → v1'.ownBlock ≠ some q := by
  intro q hq h1
  rcases hg.2 q h1 with h2 | h2
  · exact hne q hq h2
  · have := ow_block_lt h q hq; omega
set_option maxRecDepth 100000 in
set_option maxHeartbeats 2000000 in
theorem rparse_any (s : List UInt8) (w : World) (hs : s.length ≤ 1000000) :
    Calls Try.prog 44 #[.string ⟨s.toArray⟩] w fun e w' => ∃ v, e = .returned (.tuple #[v, .int .i64 ((rparse s).2 : Int)]) ∧ Ow w' w.heap.size 9 v (sc (rparse s).1) ∧ Below w.heap.size w w' := by
  obtain ⟨i0, hi, hz0, hz1, hz2⟩ := info_parts Try.infoStr
  obtain ⟨i1, gi, gz0, gz1, gz2⟩ := info_parts Try.infoByte
  generalize ht : smallS s = t
  have htl : t.length = s.length := by rw [← ht]; exact smallS_length s
  have hT : t.length ≤ 1000000 := by omega
  by_cases h1 : t = [46]
  · have hp : rparse s = ([], 0) := by unfold rparse; rw [if_pos (by rw [ht]; exact h1)]
    have HP := Lib.hid hp
    have HT := Lib.hid ht
    subst h1
    clear hp ht htl
    go_enter Try.func44, Try.ntmps44
    go_wp2_with (go_at_call 68; refine (rlower_any s w (by omega)).mono ?_; rw [HT.out]; rintro e w1 ⟨rfl, hb1⟩)
    go_ret2
    exact ⟨_, by rw [HP.out]; rfl, by rw [HP.out]; exact Ow.nil _ _ _, hb1⟩
  · have hp : rparse s = (match rp (t.length + 1) t [] [] with
        | some n => if rightN n = true then (n, 0) else ([], 164)
        | none => ([], 164)) := by unfold rparse; rw [ht, if_neg h1]; cases rp (t.length + 1) t [] [] <;> rfl
    have hnone : rp (t.length + 1) t [] [] = none → rparse s = ([], 164) := fun h => by rw [hp, h]
    have hsome : ∀ n, rp (t.length + 1) t [] [] = some n → rparse s = if rightN n = true then (n, 0) else ([], 164) := fun n h => by rw [hp, h]
    have hne : (t == [46]) = false := by simp [h1]
    have HN := Lib.hid hnone
    have HSm := Lib.hid hsome
    have HT := Lib.hid ht
    clear hp hnone hsome ht htl
    go_enter Try.func44, Try.ntmps44
    go_wp2_with (go_at_call 68; refine (rlower_any s w (by omega)).mono ?_; rw [HT.out]; rintro e w1 ⟨rfl, hb1⟩)
    go_loopw [4, 5, 6] (fun vn vl vi wr => ∃ (i f : Nat) (n : List (List UInt8)) (lab : List UInt8), vi = .int .i64 i ∧ i ≤ t.length ∧ Hid (rp f (t.drop i) n lab = rp (t.length + 1) t [] []) ∧ t.length + 1 ≤ f + i ∧
        Ow wr w.heap.size 9 vn (sc n) ∧ Ow wr w.heap.size 5 vl (bc lab) ∧ (∀ q, vn.ownBlock = some q → vl.ownBlock ≠ some q) ∧ Below w.heap.size w wr ∧ sizeN n + lab.length ≤ 2 * i + 1)
      (fun _ _ vi _ => t.length - (intOf vi).toNat)
    case atStart => exact ⟨0, t.length + 1, [], [], rfl, Nat.zero_le _, by rw [List.drop_zero]; exact rfl, by omega, Ow.nil _ _ _, Ow.nil _ _ _, fun q hq => by simp [Value.ownBlock] at hq, hb1, by simp [sizeN]⟩
    case round =>
      clear hb1
      obtain ⟨i, f, n, lab, rfl, hit, HR, hf, hown, hownl, hne2, hbel, hsz⟩ := hrel
      have hszb := hbel.size
      have hnl := sizeN_length n
      by_cases hlt : i < t.length
      · obtain ⟨f', rfl⟩ : ∃ f', f = f' + 1 := ⟨f - 1, by omega⟩
        have ix := fun W => idxStr W t i (t.getD i 0) (getD_some t i hlt)
        have e := HR.out
        have hd0 : (t.drop i).getD 0 0 = t.getD i 0 := by rw [List.getD_eq_getElem?_getD, List.getD_eq_getElem?_getD, List.getElem?_drop, Nat.add_zero]
        have hdn : t.drop i ≠ [] := List.ne_nil_of_length_pos (by rw [List.length_drop]; omega)
        rw [rp, if_neg hdn, hd0] at e
        have hcl := UInt8.toNat_lt (t.getD i 0)
        have h46 : t.getD i 0 = 46 ↔ (t.getD i 0).toNat = 46 := u8_eq
        have hpi : t.getD i 0 ≠ 46 → ¬ ((t.getD i 0).toNat < 33 ∨ 126 < (t.getD i 0).toNat) → (pieceN (t.drop i)).2 ≠ 0 → 0 < (pieceN (t.drop i)).2 ∧ (pieceN (t.drop i)).2 ≤ (t.drop i).length := fun a b c => (piece_inv _ hdn (by rw [hd0]; exact a) (by rw [hd0]; exact b) c).2
        generalize t.getD i 0 = x at ix e hcl h46 hpi
        have HPI := Lib.hid hpi
        clear hd0 hdn hpi
        by_cases hx46 : x = 46
        · rw [if_pos hx46] at e
          have t1 : ((x.toNat : Int) == 46) = true := beq_iff_eq.2 (by have := h46.1 hx46; omega)
          have E := Lib.hid e
          obtain ⟨A5, c5, hv5, hl5, r5⟩ := hownl.form7 lab.length (by simp)
          subst hv5
          have hcv := conv_bs (P := Try.prog) wr 22 5 9 A5 c5 wr.heap.size lab Try.underlying22 Try.underlying5 Try.underlying9 r5
          clear e h46 hx46 hownl hne2 r5
          go_wp2_with (at_builtin; refine wpList_app _ rfl _ _ _ _ rfl w.heap.size 9 i0 (.string ⟨#[]⟩) 16 Try.underlying25 hi hz0 hz1 hz2 rfl (by omega) _ _ (hown.alloc _) rfl 1 [_] (one_src Try.underlying25 _ rfl) (by rw [sc_length]; omega) (by simp; omega) ?_; intro v6 w6 hown6 hgr6 hsz6)
          go_roundw
          case rel =>
            refine ⟨i + 1, f', n ++ [lab], [], by go_num, by omega, ?_, by omega, ?_, Ow.nil _ _ _, fun q _ h9 => by simp [Value.ownBlock] at h9, hbel.trans ((((Gr.refl _ _).alloc _).trans hgr6).below hown.lt hszb), ?_⟩
            · have := E.out
              rw [List.drop_drop] at this
              exact this
            · have e1 : sc (n ++ [lab]) = sc n ++ [.string ⟨lab.toArray⟩] := by simp [sc, strV]
              rw [e1]; exact hown6
            · rw [sizeN_snoc]; simp; omega
          case measure => simp [intOf]; omega
        · rw [if_neg hx46] at e
          have t1 : ((x.toNat : Int) == 46) = false := beq_eq_false_iff_ne.2 (fun h => hx46 (h46.2 (by omega)))
          have HX46 := Lib.hid hx46
          clear h46 hx46
          by_cases h33 : x.toNat < 33
          · rw [if_pos (.inl h33)] at e
            have b1 : decide ((x.toNat : Int) < 33) = true := by simp; omega
            have hr := HN.out e.symm
            have HRs := Lib.hid hr
            clear e hr hown hownl hne2
            go_wp2_with fail
            go_ret2
            exact ⟨_, by rw [HRs.out]; rfl, by rw [HRs.out]; exact Ow.nil _ _ _, hbel⟩
          · have b1 : decide ((x.toNat : Int) < 33) = false := by simp; omega
            by_cases h126 : 126 < x.toNat
            · rw [if_pos (.inr h126)] at e
              have b2 : decide (126 < (x.toNat : Int)) = true := by simp; omega
              have hr := HN.out e.symm
              have HRs := Lib.hid hr
              clear e hr hown hownl hne2
              go_wp2_with fail
              go_ret2
              exact ⟨_, by rw [HRs.out]; rfl, by rw [HRs.out]; exact Ow.nil _ _ _, hbel⟩
            · have b2 : decide (126 < (x.toNat : Int)) = false := by simp; omega
              have hnb : ¬ (x.toNat < 33 ∨ 126 < x.toNat) := by omega
              rw [if_neg hnb] at e
              have hpc := fun W => piece_any (t.drop i) W (by rw [List.length_drop]; omega) (by rw [List.length_drop]; omega)
              have kcut := fun W => cutSuf W t i (by omega)
              have hpk := HPI.out HX46.out hnb
              rw [List.length_drop] at hpk
              generalize hdr : t.drop i = u at e hpc kcut hpk
              obtain ⟨y, k, hpy⟩ : ∃ y k, pieceN u = (y, k) := ⟨_, _, rfl⟩
              rw [hpy] at e hpc hpk
              simp only at e hpk
              have HPC := Lib.hid hpc
              have HDR := Lib.hid hdr
              clear hpc hpy hdr hnb
              by_cases hk0 : k = 0
              · rw [if_pos hk0] at e
                have hr := HN.out e.symm
                have HRs := Lib.hid hr
                subst hk0
                clear e hr hown hownl hne2 hpk
                go_wp2_with (go_at_call 69; refine (HPC.out _).mono ?_; rintro e wr ⟨rfl, rfl⟩)
                go_ret2
                exact ⟨_, by rw [HRs.out]; rfl, by rw [HRs.out]; exact Ow.nil _ _ _, hbel⟩
              · rw [if_neg hk0] at e
                obtain ⟨hk1, hk2⟩ := hpk hk0
                have tk0 : ((k : Int) == 0) = false := beq_eq_false_iff_ne.2 (by omega)
                have E := Lib.hid e
                clear e hpk
                go_wp2_with (first
                  | (go_at_call 69; refine (HPC.out _).mono ?_; rintro e wr ⟨rfl, rfl⟩)
                  | (at_builtin; refine wpList_app _ rfl _ _ _ _ rfl w.heap.size 5 i1 (.int .u8 0) 1 Try.underlying22 gi gz0 gz1 gz2 rfl (Nat.le_refl _) _ _ (hownl.alloc _) rfl 1 [_] (one_src Try.underlying22 _ rfl) (by rw [bc_length]; omega) (by simp; omega) ?_; intro v6 w6 hown6 hgr6 hsz6))
                have hgr := ((Gr.refl wr _).alloc _).trans hgr6
                have hn6 := hown.kept hgr hne2
                have hne6 := ne_gr hown hgr hne2
                have hb6 := hbel.trans (hgr.below hownl.lt hszb)
                clear hown hownl hne2 hbel hgr hgr6
                go_roundw
                case rel =>
                  refine ⟨i + k, f', n, lab ++ [y], by go_num, by omega, ?_, by omega, hn6, ?_, hne6, hb6, by simp; omega⟩
                  · have := E.out
                    rw [← HDR.out, List.drop_drop] at this
                    exact this
                  · rw [bc_append]; exact hown6
                case measure => simp [intOf]; omega
      · have hit2 : i = t.length := by omega
        have e := HR.out
        obtain ⟨f', rfl⟩ : ∃ f', f = f' + 1 := ⟨f - 1, by omega⟩
        rw [hit2, List.drop_length, rp, if_pos rfl] at e
        have hr := HSm.out _ e.symm
        obtain ⟨A5, c5, hv5, hl5, r5⟩ := hownl.form7 lab.length (by simp)
        subst hv5
        have hcv := conv_bs (P := Try.prog) wr 22 5 9 A5 c5 wr.heap.size lab Try.underlying22 Try.underlying5 Try.underlying9 r5
        have hsz2 : sizeN (n ++ [lab]) ≤ 140737488355328 := by rw [sizeN_snoc]; omega
        have HRs := Lib.hid hr
        have hnle : (n ++ [lab]).length = n.length + 1 := by simp
        have HNL := Lib.hid hnle
        clear e hr hownl hne2 r5 hnle
        subst hit2
        go_wp2_with (first
          | (go_at_call 45; refine (rright_at w6 A7 c7 (n.length + 1) (n ++ [lab]) HNL.out r7 hsz2).mono ?_; rintro e w8 ⟨rfl, hb8⟩)
          | (at_builtin; refine wpList_app _ rfl _ _ _ _ rfl w.heap.size 9 i0 (.string ⟨#[]⟩) 16 Try.underlying25 hi hz0 hz1 hz2 rfl (by omega) _ _ (hown.alloc _) rfl 1 [_] (one_src Try.underlying25 _ rfl) (by rw [sc_length]; omega) (by simp; omega) ?_; intro v6 w6 hown6' hgr6 hsz6; have hown6 : Ow w6 w.heap.size 9 v6 (sc (n ++ [lab])) := (by rw [sc_snoc] <;> exact hown6'); obtain ⟨A7, c7, rfl, hl7, r7⟩ := hown6.form7 (n.length + 1) (by rw [sc_length]; exact HNL.out); clear hown6'))
        · have t1 : rightN (n ++ [lab]) = false := by simpa using (by assumption : (!rightN (n ++ [lab])) = true)
          have hb6 := hbel.trans ((((Gr.refl wr _).alloc _).trans hgr6).below hown.lt hszb)
          go_ret2
          exact ⟨_, by rw [HRs.out, if_neg (by rw [t1]; simp)]; rfl, by rw [HRs.out, if_neg (by rw [t1]; simp)]; exact Ow.nil _ _ _, hb6.trans (hb8.mono hb6.size)⟩
        · have t1 : rightN (n ++ [lab]) = true := by simpa using (by assumption : (!rightN (n ++ [lab])) = false)
          have hb6 := hbel.trans ((((Gr.refl wr _).alloc _).trans hgr6).below hown.lt hszb)
          go_ret2
          exact ⟨_, by rw [HRs.out, if_pos t1]; rfl, by rw [HRs.out, if_pos t1]; exact hown6.far hb8, hb6.trans (hb8.mono hb6.size)⟩
end Go.Proofs.Ytnfgcfljjmjmpaa
