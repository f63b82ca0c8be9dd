/-
  SrvAsks; LSAsks
-/
import Derived.Test.YtlipmlbijddopaaGreatDoorZ28
import Derived.Test.YtlipmlbijddopaaGreatDoorZ03
import Derived.Test.YtlipmlbijddopaaGreatDoorTie
import Derived.Test.YtlipmlbijddopaaGreatDoorCards
set_option linter.unusedVariables false
set_option linter.unusedSimpArgs false
namespace Go.Proofs.YtlipmlbijddopaaGreatDoor
open Go.RowKit
set_option maxRecDepth 100000 in
set_option maxHeartbeats 1000000 in
theorem asks_at (id : Nat) (s : List UInt8) (w : World) (hid : id < 65536) (hs : s.length ≤ 1000000) :
    Calls Tryz.prog 15 #[.int .u16 (id : Int), .string ⟨s.toArray⟩] w fun e w' => e = .returned (.bool true) ∧ Below w.heap.size w w' := by
  obtain ⟨F, hF⟩ : ∃ F, F = (Srv.askN id s).1 := ⟨_, rfl⟩
  obtain ⟨E, hE⟩ : ∃ E, E = (Srv.askN id s).2 := ⟨_, rfl⟩
  obtain ⟨L, hL⟩ : ∃ L, L = F.length := ⟨_, rfl⟩
  have K1 := Lib.hid (fun W => sask_at id s W hid hs)
  have K2 := Lib.hid (fun W => rask_at id s W hid hs)
  simp only [← hF, ← hE] at K1 K2
  have HL := Lib.hid hL.symm
  clear hF hE hL
  go_enter Tryz.func15, Tryz.ntmps15
  go_wp2_with (first
    | (go_at_call 43
       refine (beq_at2 A1 A2 c1 c2 L L F F true w2 (by simp) HL.out HL.out HR1.out hr2).mono ?_
       rintro e w2 ⟨rfl, rfl⟩)
    | (go_at_call 44
       refine (K2.out w1).mono ?_
       rintro e w2 ⟨v2, rfl, ho2, hb2⟩
       obtain ⟨A2, c2, rfl, hc2, hr2⟩ := Ow.form7 ho2 L (by rw [bc_length, HL.out])
       have HR1 := Lib.hid (hr1.goes hb2))
    | (go_at_call 32
       refine (K1.out w).mono ?_
       rintro e w1 ⟨v1, rfl, ho1, hb1⟩
       obtain ⟨A1, c1, rfl, hc1, hr1⟩ := Ow.form7 ho1 L (by rw [bc_length, HL.out])))
  go_ret
  exact ⟨ret_bool (by simp), hb1.trans (hb2.mono hb1.size)⟩
set_option maxRecDepth 100000 in
theorem srvAsks_any (id : Nat) (s : List UInt8) (w : World) (_ : True) (hid : id < 65536) (hb : s.length ≤ 140737488351232) :
    Calls Tryz.prog 4 #[.int .u16 (id : Int), .string ⟨s.toArray⟩] w fun e w' => e = .returned (.bool true) ∧ Below w.heap.size w w' := by
  by_cases hs : s.length ≤ 1200
  · have hlen : decide ((1200 : Int) < (s.length : Int)) = false := by simp only [decide_eq_false_iff_not]; omega
    have K1 := Lib.hid (asks_at id s w hid (by omega))
    clear hs
    go_enter Tryz.func4, Tryz.ntmps4
    go_wp2_with (first
      | (go_at_call 14
         refine (sawake_any w1).mono ?_
         rintro e w2 ⟨rfl, hb2⟩)
      | (go_at_call 15
         refine K1.out.mono ?_
         rintro e w1 ⟨rfl, hb1⟩))
    go_ret
    exact ⟨rfl, hb1.trans (hb2.mono hb1.size)⟩
  · have hlen : decide ((1200 : Int) < (s.length : Int)) = true := by simp only [decide_eq_true_eq]; omega
    clear hs
    go_enter Tryz.func4, Tryz.ntmps4
    go_wp2_with (go_at_call 14
                 refine (sawake_any w).mono ?_
                 rintro e w2 ⟨rfl, hb2⟩)
    go_ret
    exact ⟨rfl, hb2⟩
end Go.Proofs.YtlipmlbijddopaaGreatDoor
set_option linter.unusedVariables false
namespace Go.Proofs.YtlipmlbijddopaaGreatDoor
open Go.ChangeShapes Go.WideShapes Go.ChangeAt Go.RowKit
set_option maxRecDepth 100000 in
theorem srvAsks_lifted (os : Os) (started : os.Started) (H : Type) (enc : TypeId × Value → H) :
    ReturnsInHanded {} Tryz.checked os 4 .any (fun w args => (Rows.srvAsksSpec.pre enc Tryz.checked.prog Tryz.f4 [] false w args ∧ laidMetH Tryz.checked.prog Rows.srvAsksRow.laid w) ∧ sizedMet enc Tryz.checked.prog Tryz.f4 (OpenSpec.ofChange Rows.srvAsksSpec) false w args) (Rows.srvAsksSpec.post enc Tryz.checked.prog Tryz.f4 false true false false) := by
  refine law_lifted_laid (C := Tryz.checked) (P := Tryz.prog) rfl Tryz.own Tryz.laidOut Tryz.underlying4 started Tryz.func4 rfl (by kernel_rfl) rfl [25, 9] (by rw [Tryz.params4])
    (fun ds h => by
      match ds, h with
      | [d0, d1], _ => rfl) (by kernel_rfl) Rows.srvAsksRow.laid (by kernel_rfl)
    (ChangeSpec.witness_shaped (enc := enc) (C := Tryz.checked) (os := os) (X := fun w _ => laidMetH Tryz.prog Rows.srvAsksRow.laid w) false (World.laidAll Tryz.prog os Rows.srvAsksRow.laid) #[.int .u16 0, .string ⟨#[]⟩] 8 (World.laidAll_os _ _ _) (World.shaped_of_ZipB (by kernel_rfl) (by kernel_rfl)) (by kernel_rfl) (by kernel_rfl) (by kernel_rfl)
      (by rw [MakeChecks.laidMetH_plain _ _ _ (by kernel_rfl)]; exact laidMet_laidAll _ (by kernel_rfl) (by kernel_rfl))) ?_
  intro W base args ds p hval hA hL hS
  obtain ⟨v0, v1, d0, d1, p0, p1, rfl, rfl, rfl, h0, h1⟩ := trodAll_two hA.trod
  have hre := hA.reach
  rw [Tryz.params4] at hval
  obtain ⟨x0, rfl, rfl, rfl, wx0⟩ := open_int Tryz.underlying25 (hval 0 _ v0 rfl rfl) h0
  have hx0 : 0 ≤ x0 ∧ x0 < 65536 := by simp [Lit.wf, IntKind.min, IntKind.max, IntKind.signed, IntKind.bits] at wx0; omega
  obtain ⟨n0, rfl⟩ : ∃ n0 : Nat, x0 = (n0 : Int) := ⟨x0.toNat, by omega⟩
  have w1 : ∀ n ∈ d1.weights Tryz.prog 9, n ≤ reachBytes := fun n hn => by simpa using List.all_eq_true.1 hre n (DataW.weights_mem_each (j := 1) rfl rfl n hn)
  obtain ⟨l1, rfl, hb1⟩ := open_str1 Tryz.underlying9 (hval 1 _ v1 rfl rfl) h1 w1
  exact srvAsks_any n0 l1 W trivial (by omega) hb1

theorem srvAsks_holds : Rows.SrvAsksSaid :=
  OpenClaim.holds_of_wide 4 Tryz.f4 rfl rfl rfl rfl rfl rfl rfl ⟨rfl, rfl, rfl, rfl, rfl⟩ rfl rfl rfl rfl rfl (by kernel_rfl) Tryz.func4 (by kernel_rfl)
    (of_decide_eq_true (by kernel_rfl)) (by unfold Func.isWrapper; first | (rw [if_pos (by decide +kernel)]; kernel_rfl) | (rw [if_neg (by decide +kernel)]; exact ⟨rfl, rfl⟩))
    (fun os started H enc _ => srvAsks_lifted os started H enc)

theorem srvAsks_card : Rows.SrvAsksCardSaid :=
  Claim7.holds_tied_plain_at .later [] [.data, .data, .data] true (true, "62a6199dd28d2a080bed368305dcb87b9b8d93dca5598cd0c61d1c0b6c630e34") false
    srvAsks_holds (fun _ h => by cases h) (by kernel_rfl) (fun _ h => by cases h) srvAsks_row_tie rfl ⟨rfl, rfl⟩ (by kernel_rfl) rfl
    (fun f fn hf hfn => by
      obtain rfl : f = 4 := Option.some.inj ((show Tryz.prog.funcNamed "gauger/gaugerlaw18.SrvAsks" = some 4 by kernel_rfl).symm.trans hf) |>.symm
      obtain rfl : fn = Tryz.f4 := (Option.some.inj (Tryz.func4.symm.trans hfn)).symm
      exact ⟨by kernel_rfl, fun j t ht => by
        rw [Tryz.params4] at ht
        have ht2 : t ∈ ([25, 9] : List TypeId) := by simpa using Array.mem_of_getElem? ht
        have hall : ([25, 9] : List TypeId).all (fun t => Tryz.prog.wantsStandIn t == false) = true := by kernel_rfl
        exact beq_iff_eq.1 (List.all_eq_true.1 hall t ht2)⟩)
    (by kernel_rfl)
end Go.Proofs.YtlipmlbijddopaaGreatDoor
