/-
  LSSmall
-/
import Derived.Test.YtlipmlbijddopaaGreatDoorZ03
import Derived.Test.YtlipmlbijddopaaGreatDoorZ29
import Derived.Test.YtlipmlbijddopaaGreatDoorZ34
import Derived.Test.YtlipmlbijddopaaGreatDoorTie
import Derived.Test.YtlipmlbijddopaaGreatDoorCards
set_option linter.unusedVariables false
namespace Go.Proofs.YtlipmlbijddopaaGreatDoor
open Go.ChangeShapes Go.WideShapes Go.ChangeAt Go.RowKit
set_option maxRecDepth 100000 in
theorem srvSmall_lifted (os:Os) (started:os.Started) (H:Type) (enc:TypeId × Value→H) :
 ReturnsInHanded {} Tryz.checked os 6 .any (fun w args=>(Rows.srvSmallSpec.pre enc Tryz.checked.prog Tryz.f6 [] false w args∧laidMetH Tryz.checked.prog Rows.srvSmallRow.laid w)∧sizedMet enc Tryz.checked.prog Tryz.f6 (OpenSpec.ofChange Rows.srvSmallSpec) false w args) (Rows.srvSmallSpec.post enc Tryz.checked.prog Tryz.f6 false true false false):=by
 refine law_lifted_laid (C:=Tryz.checked) (P:=Tryz.prog) rfl Tryz.own Tryz.laidOut Tryz.underlying4 started Tryz.func6 rfl (by kernel_rfl) rfl [] (by rw [Tryz.params6])
  (fun ds h=>by
   match ds,h with
   | [],_=>rfl) (by kernel_rfl) Rows.srvSmallRow.laid (by kernel_rfl)
  (ChangeSpec.witness_shaped (enc:=enc) (C:=Tryz.checked) (os:=os) (X:=fun w _=>laidMetH Tryz.prog Rows.srvSmallRow.laid w) false (World.laidAll Tryz.prog os Rows.srvSmallRow.laid) #[] 8 (World.laidAll_os _ _ _) (World.shaped_of_ZipB (by kernel_rfl) (by kernel_rfl)) (by kernel_rfl) (by kernel_rfl) (by kernel_rfl)
   (by rw [MakeChecks.laidMetH_plain _ _ _ (by kernel_rfl)];exact laidMet_laidAll _ (by kernel_rfl) (by kernel_rfl))) ?_
 intro W base args ds p hval hA hL hS
 have e0:args=#[]:=by
  have:=hA.trod
  obtain ⟨args⟩:=args
  cases args with
  | nil=>rfl
  | cons a b=>cases ds <;> cases this
 subst e0
 exact srvSmall_any  W (envT_of rfl hL)
theorem srvSmall_holds:Rows.SrvSmallSaid:=
 OpenClaim.holds_of_wide 6 Tryz.f6 rfl rfl rfl rfl rfl rfl rfl ⟨rfl,rfl,rfl,rfl,rfl⟩ rfl rfl rfl rfl rfl (by kernel_rfl) Tryz.func6 (by kernel_rfl)
  (of_decide_eq_true (by kernel_rfl)) (by unfold Func.isWrapper;first | (rw [if_pos (by decide +kernel)];kernel_rfl) | (rw [if_neg (by decide +kernel)];exact ⟨rfl,rfl⟩))
  (fun os started H enc _=>srvSmall_lifted os started H enc)
theorem srvSmall_card:Rows.SrvSmallCardSaid:=
 Claim7.holds_tied_plain_at .later [] [.data,.data,.data] true (true, "62a6199dd28d2a080bed368305dcb87b9b8d93dca5598cd0c61d1c0b6c630e34") false
  srvSmall_holds (fun _ h=>by cases h) (by kernel_rfl) (fun _ h=>by cases h) srvSmall_row_tie rfl ⟨rfl,rfl⟩ (by kernel_rfl) rfl
  (fun f fn hf hfn=>by
   obtain rfl:f=6:=Option.some.inj ((show Tryz.prog.funcNamed "gauger/gaugerlaw18.SrvSmall" = some 6 by kernel_rfl).symm.trans hf) |>.symm
   obtain rfl:fn=Tryz.f6:=(Option.some.inj (Tryz.func6.symm.trans hfn)).symm
   exact ⟨by kernel_rfl,fun j t ht=>by
    rw [Tryz.params6] at ht
    have ht2:t∈([]:List TypeId):=by simpa using Array.mem_of_getElem? ht
    have hall:([]:List TypeId).all (fun t=>Tryz.prog.wantsStandIn t == false)=true:=by kernel_rfl
    exact beq_iff_eq.1 (List.all_eq_true.1 hall t ht2)⟩)
  (by kernel_rfl)
end Go.Proofs.YtlipmlbijddopaaGreatDoor
