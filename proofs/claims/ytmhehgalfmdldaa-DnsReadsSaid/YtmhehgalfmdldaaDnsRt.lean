/-
  DnsRight: what is read is a right message, and is read again from its form.
-/
import Derived.Test.YtmhehgalfmdldaaDnsAwk
set_option linter.unusedVariables false
set_option linter.unusedSimpArgs false
namespace Go.Proofs.Ytmhehgalfmdldaa
open Go.RowKit
set_option maxRecDepth 100000 in
set_option maxHeartbeats 1000000 in
/-- Read, whatever the bytes are -/
theorem readE_at (A : Option Addr) (c : Nat) (b : List UInt8) (m : Ms) (er : Nat) (hm : readM b = (m, er)) (w : World) (h : Rd w w.heap.size A b.length (bc b)) (hc : b.length ≤ c) (hbl : b.length ≤ 140737488355328) :
    Calls Try.prog 14 #[.slice A b.length c] w fun e w' => ∃ x : MR, x.m = m ∧ e = .returned (.tuple #[.agg x.cells.toArray, .int .i64 (er : Int)]) ∧ MRd w' w'.heap.size x ∧ Below w.heap.size w w' := by
  have hz : (readM b).1 = m := by rw [hm]
  have hz2 : (readM b).2 = er := by rw [hm]
  rw [← hz, ← hz2]
  by_cases h2 : b.length < 12
  · have hr1 : readM b = (zM, 171) := by unfold readM; rw [if_neg (by omega), if_pos h2]
    rw [hr1]
    have h1' : (b.length : Int) ≤ 4096 := by omega
    have h2' : (b.length : Int) < 12 := by omega
    have hV1 : Vx (w.alloc (.cells #[.int .u16 0, .int .u16 0, .slice none 0 0, .slice none 0 0, .slice none 0 0, .slice none 0 0] 30)) w.heap.size 30 zM6 := Vx.new w _ _
    have hb1 := below_new w (.cells #[.int .u16 0, .int .u16 0, .slice none 0 0, .slice none 0 0, .slice none 0 0, .slice none 0 0] 30)
    clear hm hz hz2 hr1 h
    go_enter Try.func14, Try.ntmps14
    go_wp2_with (refine wpList_store_row rfl 30 _ _ rfl w.heap.size _ rfl rfl _ _ hV1 (by kernel_rfl) rfl (by kernel_rfl) ?_)
    refine bodyPost_ret (resM Try.results14 _ _ w.heap.size _ _ _ rfl rfl (hV1.row zM6) rfl) rfl ?_
    exact ⟨zMR, rfl, rfl, (zMR_ow _ 0).rd rfl okM_z (by simp [Ms.num, zMR, MR.m]), hb1.trans ((Only.row _ _ _).below (Nat.le_refl _) (by simp))⟩
  · refine (readD_at A c b w h hc (fun a ha => ?_) hbl).mono ?_
    · obtain ⟨bb, o, e, hb, _⟩ := h.2 (by omega)
      rw [e] at ha
      cases ha
      exact hb
    · rintro e w' ⟨x, h1, h2, h3, h4⟩
      exact ⟨x, h1, h2, read_mrd h3 h1, h4⟩
theorem readO_at (A : Option Addr) (c : Nat) (b : List UInt8) (m : Ms) (er : Nat) (hm : readM b = (m, er)) (w : World) (h : Rd w w.heap.size A b.length (bc b)) (hc : b.length ≤ c) (hA : ∀ a, A = some a → a.block < w.heap.size) (hbl : b.length ≤ 140737488355328) :
    Calls Try.prog 14 #[.slice A b.length c] w fun e w' => ∃ x : MR, x.m = m ∧ e = .returned (.tuple #[.agg x.cells.toArray, .int .i64 (er : Int)]) ∧ MOw w' w.heap.size x ∧ MRd w' w'.heap.size x ∧ Below w.heap.size w w' := by
  have := readD_at A c b w h hc hA hbl
  rw [hm] at this
  refine this.mono ?_
  rintro e w' ⟨x, h1, h2, h3, h4⟩
  exact ⟨x, h1, h2, h3, read_mrd h3 (by rw [hm]; exact h1), h4⟩
theorem below_chain {w a b : World} {o : Obj} (h : Below w.heap.size w a) (k : Below (a.alloc o).heap.size (a.alloc o) b) : Below w.heap.size w b := by
  have h1 := h.trans ((below_new a o).mono h.size)
  exact h1.trans (k.mono h1.size)
theorem zmrd (w : World) : MRd w w.heap.size zMR := (zMR_ow w 0).rd rfl okM_z (by simp [Ms.num, zMR, MR.m])
set_option maxRecDepth 100000 in
set_option maxHeartbeats 2000000 in
theorem dnsRight_any (A : Option Addr) (c : Nat) (l : List UInt8) (w : World) (h : Rd w w.heap.size A l.length (bc l)) (hc : l.length ≤ c) (hb : l.length ≤ 140737488351232) :
    Calls Try.prog 4 #[.slice A l.length c] w fun e w' => e = .returned (.bool true) ∧ Below w.heap.size w w' := by
  have HR := Lib.hid h
  clear h
  by_cases h15 : 1500 < l.length
  · have h15' : (1500 : Int) < (l.length : Int) := by omega
    go_enter Try.func4, Try.ntmps4
    go_wp2_with (go_at_call 13; refine (dawake_any w).mono ?_; rintro e w2 ⟨rfl, hb2⟩)
    go_ret
    exact ⟨rfl, hb2⟩
  have h15' : (l.length : Int) ≤ 1500 := by omega
  by_cases h0 : (readM l).2 = 0
  · obtain ⟨hr, hk, hn, _⟩ := read_ok h0
    obtain ⟨m, hm⟩ : ∃ m, m = (readM l).1 := ⟨_, rfl⟩
    rw [← hm] at hr hk hn
    have hrd : readM l = (m, 0) := by rw [hm, ← h0]
    have K2 := Lib.hid (fun (w2 : World) (hb2 : Below w.heap.size w w2) => readE_at A c l m 0 hrd w2 (HR.out.goes hb2) hc (by omega))
    by_cases hlong : 4096 < (formM m).length
    · have hwm : writeM m = ([], 3) := by unfold writeM; rw [if_neg (by rw [hr]; simp), if_neg (by omega), if_pos hlong]
      have HW := Lib.hid hwm
      clear h0 hr hk hn hm hrd hlong hwm
      go_enter Try.func4, Try.ntmps4
      go_wp2_with (first
        | (go_at_call 16
           refine (write_at ⟨id2, fl2, qA2, qc2, qs2, aA2, ac2, ra2, bA2, bd2, rb2, cA2, cc2, rc2⟩ _ ((hmr.below (below_new _ _)).more (below_new _ _).size)).mono ?_
           rw [hxm, HW.out]
           rintro e w4 ⟨v4, rfl, ho4, hb4⟩
           obtain ⟨A4, c4, rfl, hc4, hr4⟩ := ho4.form6 0 rfl)
        | (go_at_call 14
           refine (K2.out w2 hb2).mono ?_
           rintro e w3 ⟨x, hxm, rfl, hmr, hb3⟩
           obtain ⟨id2, fl2, qA2, qc2, qs2, aA2, ac2, ra2, bA2, bd2, rb2, cA2, cc2, rc2⟩ := x
           unfold MR.cells
           dsimp only)
        | (go_at_call 13
           refine (dawake_any w).mono ?_
           rintro e w2 ⟨rfl, hb2⟩))
      go_ret
      have hb23 := hb2.trans (hb3.mono hb2.size)
      exact ⟨rfl, (hb23.trans ((below_new w3 _).mono hb23.size)).trans (hb4.mono (hb23.trans ((below_new w3 _).mono hb23.size)).size)⟩
    · have hwm : writeM m = (formM m, 0) := by unfold writeM; rw [if_neg (by rw [hr]; simp), if_neg (by omega), if_neg hlong]
      have hrf := read_form hr hk hn (by omega)
      obtain ⟨F, hF⟩ : ∃ F, F = formM m := ⟨_, rfl⟩
      rw [← hF] at hwm hrf
      have hFl : F.length ≤ 4096 := by rw [hF]; omega
      have HW := Lib.hid hwm
      have HRF := Lib.hid hrf
      clear h0 hr hk hn hm hrd hlong hwm hF hrf
      go_enter Try.func4, Try.ntmps4
      go_wp2_with (first
        | (go_at_call 15
           refine (sameM_at ⟨id2, fl2, qA2, qc2, qs2, aA2, ac2, ra2, bA2, bd2, rb2, cA2, cc2, rc2⟩ ⟨id5, fl5, qA5, qc5, qs5, aA5, ac5, ra5, bA5, bd5, rb5, cA5, cc5, rc5⟩ _ ((hbx5.2.below (below_new w5 (.cells (MR.cells ⟨id5, fl5, qA5, qc5, qs5, aA5, ac5, ra5, bA5, bd5, rb5, cA5, cc5, rc5⟩).toArray 30))).more (below_new _ _).size) ((hmr5.below (below_new _ _)).more (below_new _ _).size)).mono ?_
           rw [hxm, hxm5, (sameM_iff m m).2 rfl]
           rintro e w6 ⟨rfl, hb6⟩)
        | (go_at_call 14
           refine (readE_at A4 c4 F m 0 HRF.out w4 hr4 hc4 (by omega)).mono ?_
           rintro e w5 ⟨x, hxm5, rfl, hmr5, hb5⟩
           obtain ⟨id5, fl5, qA5, qc5, qs5, aA5, ac5, ra5, bA5, bd5, rb5, cA5, cc5, rc5⟩ := x
           unfold MR.cells
           dsimp only
           have hbx5 := hbx4.go hb5
           have hlt5 := hbx5.1.lt
           obtain ⟨p0, p1, p2, p3, p4, p5⟩ := hbx5.1.c6)
        | (go_at_call 16
           refine (write_at ⟨id2, fl2, qA2, qc2, qs2, aA2, ac2, ra2, bA2, bd2, rb2, cA2, cc2, rc2⟩ _ ((hmr.below (below_new _ _)).more (below_new _ _).size)).mono ?_
           rw [hxm, HW.out]
           rintro e w4 ⟨v4, rfl, ho4, hb4⟩
           obtain ⟨A4, c4, rfl, hc4, hr4⟩ := ho4.form6 _ (bc_length _)
           have hbx4 := (BoxM.new hmr).go hb4)
        | (go_at_call 14
           refine (K2.out w2 hb2).mono ?_
           rintro e w3 ⟨x, hxm, rfl, hmr, hb3⟩
           obtain ⟨id2, fl2, qA2, qc2, qs2, aA2, ac2, ra2, bA2, bd2, rb2, cA2, cc2, rc2⟩ := x
           unfold MR.cells
           dsimp only)
        | (go_at_call 13
           refine (dawake_any w).mono ?_
           rintro e w2 ⟨rfl, hb2⟩))
      go_ret
      have hb23 := hb2.trans (hb3.mono hb2.size)
      have hb24 := (hb23.trans ((below_new w3 _).mono hb23.size)).trans (hb4.mono (hb23.trans ((below_new w3 _).mono hb23.size)).size)
      have hb25 := hb24.trans (hb5.mono hb24.size)
      exact ⟨rfl, below_chain hb25 hb6⟩
  · have hz := read_err h0
    obtain ⟨er, her⟩ : ∃ er, er = (readM l).2 := ⟨_, rfl⟩
    have hrd : readM l = (zM, er) := by rw [← hz, her]
    have hne : ((er : Int) != 0) = true := by rw [bne_iff_ne]; omega
    have K2 := Lib.hid (fun (w2 : World) (hb2 : Below w.heap.size w w2) => readE_at A c l zM er hrd w2 (HR.out.goes hb2) hc (by omega))
    clear h0 hz her hrd
    go_enter Try.func4, Try.ntmps4
    go_wp2_with (first
      | (go_at_call 15
         refine (sameM_at ⟨id2, fl2, qA2, qc2, qs2, aA2, ac2, ra2, bA2, bd2, rb2, cA2, cc2, rc2⟩ zMR _ ((hmr.below (below_new _ _)).more (below_new _ _).size) (zmrd _)).mono ?_
         rw [hxm, show zMR.m = zM from rfl, (sameM_iff zM zM).2 rfl]
         rintro e w4 ⟨rfl, hb4⟩)
      | (go_at_call 14
         refine (K2.out w2 hb2).mono ?_
         rintro e w3 ⟨x, hxm, rfl, hmr, hb3⟩
         obtain ⟨id2, fl2, qA2, qc2, qs2, aA2, ac2, ra2, bA2, bd2, rb2, cA2, cc2, rc2⟩ := x
         unfold MR.cells
         dsimp only)
      | (go_at_call 13
         refine (dawake_any w).mono ?_
         rintro e w2 ⟨rfl, hb2⟩))
    go_ret
    have hb23 := hb2.trans (hb3.mono hb2.size)
    exact ⟨rfl, (hb23.trans ((below_new w3 _).mono hb23.size)).trans (hb4.mono (hb23.trans ((below_new w3 _).mono hb23.size)).size)⟩
end Go.Proofs.Ytmhehgalfmdldaa
