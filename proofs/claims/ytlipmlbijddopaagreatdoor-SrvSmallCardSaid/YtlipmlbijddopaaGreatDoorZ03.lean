/-
  Frame; FrameL
-/
import Derived.Test.YtlipmlbijddopaaGreatDoorRows
import Derived.Test.YtlipmlbijddopaaGreatDoorZ02
import Derived.ProofKit
import Derived.SizedLaws
import Derived.Deep.Strs
import Derived.Handed
import Derived.LaidMore
import Derived.Lay
set_option linter.unusedVariables false
namespace Go.Proofs.YtlipmlbijddopaaGreatDoor
open Go.ChangeShapes Go.WideShapes Go.ChangeAt Go.RowKit
open Go.ChangeMaps (open_string)
theorem Tryz.own:ownKnob Tryz.prog.godebug=none:=by kernel_rfl
theorem Tryz.laidOut:laidOutB Tryz.prog=true:=by kernel_rfl
theorem trodAll_stays {P:Program} (hl:laidOutB P=true) {H:Type} {enc:TypeId × Value→H} {W W':World} {sp:Nat→Bool} (hb:Below W.heap.size W W'):∀ {ts:List TypeId} {vs:List Value} {ds:List (DataW H)} {ps:List MemPlace},
 ts.all (fun t=>P.readableRec t && decide (t<P.types.size))=true→DataW.TrodAll enc P W 0 (fun _=>true) true ts vs ds ps→(∀ x∈ps,x.block<W.heap.size)→(∀ x∈ps,sp x.block=true)→DataW.TrodAll enc P W' 0 sp true ts vs ds ps
 | [],[],[],_,_,h,_,_=>h
 | t :: ts,v :: vs,d :: ds,ps,hts,⟨p,q,h1,h2,e⟩,hlt,hs=>by
   simp only [List.all_cons,Bool.and_eq_true,decide_eq_true_eq] at hts
   subst e
   exact ⟨p,q,WideElems.Trod_stays hl hts.1.1 hts.1.2 h1 (fun x hx=>hb.same (hlt x (List.mem_append_left _ hx))) (fun x hx=>hs x (List.mem_append_left _ hx)),
    trodAll_stays hl hb hts.2 h2 (fun x hx=>hlt x (List.mem_append_right _ hx)) (fun x hx=>hs x (List.mem_append_right _ hx)),rfl⟩
structure Args (P:Program) {H:Type} (enc:TypeId × Value→H) (W:World) (ts:List TypeId) (args:List Value) (ds:List (DataW H)) (p:List MemPlace):Prop where
 trod:DataW.TrodAll enc P W 0 (fun _=>true) true ts args ds p
 lt:∀ x∈p,x.block<W.heap.size
 reach:(DataW.weightsEach P ts ds).all (·≤reachBytes)=true
section
variable {P:Program} {H:Type} {enc:TypeId × Value→H} {W:World}
end
end Go.Proofs.YtlipmlbijddopaaGreatDoor
set_option linter.unusedVariables false
namespace Go.Proofs.YtlipmlbijddopaaGreatDoor
open Go.ChangeShapes Go.WideShapes Go.ChangeAt Go.RowKit
theorem returnsInHanded_of_change_shaped {H:Type} {enc:TypeId × Value→H} {a:Assume} {C:Checked} {os:Os} {f:FuncId} {fn:Func} {s:ChangeSpec} {conds:List PathCond} {apart fresh handsOn again:Bool} {X:World→Array Value→Prop}
 (hX:∀ (w w':World) (args:Array Value),w.heap=w'.heap→X w args→X w' args)
 (own:ownKnob C.prog.godebug=none) (started:os.Started) (noInit:C.prog.inits.idxOf? f=none) (hfn:C.prog.funcs[f]? = some fn)
 (witness:∃ (w:World) (tape:Tape) (i:Input),w.os=os∧(w.forCall tape i).Shaped C.prog∧i.vars=[]∧Input.okWide C.prog (w.forCall tape i) .any w.heap.size f i∧
  ((s.pre enc C.prog fn conds apart (w.forCall tape i).memory i.args∧X (w.forCall tape i).memory i.args)∧sizedMet enc C.prog fn (OpenSpec.ofChange s) apart (w.forCall tape i).memory i.args)∧a.holds C.prog (lone (Frame.enter C.prog f i.args .normal) [] (w.forCall tape i)))
 (contract:∀ (W:World) (base:Nat) (args:Array Value) (ds gs:List (DataW H)) (before:List MemPlace),
  (∀ (j:Nat) t v,fn.params[j]? = some t→args[j]? = some v→Value.okWide C.prog W .any base t v)→
  DataW.Whole enc C.prog fn.params.toList s.vars apart W args.toList ds gs before→
  conds.all (PathCond.test C.prog ⟨fn.params.toList,ds,s.plain.varTypes C.prog,gs⟩)=true→
  (DataW.weightsEach C.prog (fn.params.toList++s.plain.varTypes C.prog) (ds++gs)).all (·≤reachBytes)=true→X W args→
  W.ShapedOpen C.prog→
  Calls C.prog f args W fun e W'=>∃ v,e = .returned v∧s.post enc C.prog fn apart fresh handsOn again W args v W') :
 ReturnsInHanded a C os f .any (fun w args=>(s.pre enc C.prog fn conds apart w args∧X w args)∧sizedMet enc C.prog fn (OpenSpec.ofChange s) apart w args) (s.post enc C.prog fn apart fresh handsOn again):=by
 refine returnsInHanded_of_calls own started noInit witness ?_
 intro w tape i _ hshape _ hok hpre hholds
 obtain ⟨_,_,_,fn',hfn',_,_,_,_,hval⟩:=hok
 have e:fn'=fn:=Option.some.inj (hfn'.symm.trans hfn)
 subst e
 obtain ⟨⟨⟨ds,gs,before,hw,hc⟩,hx⟩,hz⟩:=hpre
 have hw':=DataW.Whole.of_heap (w':=w.forCall tape i) (by rfl) hw
 refine (contract (w.forCall tape i) w.heap.size i.args ds gs before hval hw' hc (hz.weights hw) (hX _ _ _ (by rfl) hx) hshape).mono fun e W' ⟨v,he,hp⟩=>?_
 subst he
 exact ChangeSpec.post_blind hp
theorem law_lifted_laid {C:Checked} {P:Program} (hP:P=C.prog) (own:ownKnob C.prog.godebug=none) (hl:laidOutB P=true) {tb:TypeId} (hb:P.underlying tb=some .bool) {H:Type} {enc:TypeId × Value→H} {os:Os} (started:os.Started) {f:FuncId} {fn:Func} {s:ChangeSpec} (hfn:P.funcs[f]? = some fn) (hres:fn.resultTypes=#[tb])
 (noInit:P.inits.idxOf? f=none) (hvars:s.vars=[]) (ts:List TypeId) (hpar:fn.params.toList=ts) (hsp:∀ ds:List (DataW H),ds.length=ts.length→s.fn H ds={ results:=[.lit (.bool true)],args:=ds })
 (hts:ts.all (fun t=>P.readableRec t && decide (t<P.types.size))=true) (laid:List (String × DataW Unit)) (plain:(laid.all fun x=>x.2.handleName?.isNone)=true)
 (witness:∃ (w:World) (tape:Tape) (i:Input),w.os=os∧(w.forCall tape i).Shaped C.prog∧i.vars=[]∧Input.okWide C.prog (w.forCall tape i) .any w.heap.size f i∧
  ((s.pre enc C.prog fn [] false (w.forCall tape i).memory i.args∧laidMetH C.prog laid (w.forCall tape i).memory)∧sizedMet enc C.prog fn (OpenSpec.ofChange s) false (w.forCall tape i).memory i.args)∧({}:Assume).holds C.prog (lone (Frame.enter C.prog f i.args .normal) [] (w.forCall tape i)))
 (contract:∀ (W:World) (base:Nat) (args:Array Value) (ds:List (DataW H)) (p:List MemPlace),(∀ (j:Nat) t v,fn.params[j]? = some t→args[j]? = some v→Value.okWide P W .any base t v)→Args P enc W ts args.toList ds p→laidMet P laid W→W.ShapedOpen P→
  Calls P f args W fun e W'=>e = .returned (.bool true)∧Below W.heap.size W W') :
 ReturnsInHanded {} C os f .any (fun w args=>(s.pre enc C.prog fn [] false w args∧laidMetH C.prog laid w)∧sizedMet enc C.prog fn (OpenSpec.ofChange s) false w args) (s.post enc C.prog fn false true false false):=by
 subst hP
 refine returnsInHanded_of_change_shaped (C:=C) (X:=fun w _=>laidMetH C.prog laid w) (fun w w' _ hh h=>by
  simp only [MakeChecks.laidMetH_plain _ _ _ plain] at h ⊢
  exact laidMet.of_heap hh h) own started noInit hfn witness ?_
 intro W base args ds gs before hval hW _ hsz hL hshape
 have hW':=hW
 obtain ⟨p,q,hA,hV,rfl,hfz,hnd⟩:=hW
 have hlt:∀ x∈p++q,x.block<W.heap.size:=fun x hx=>hW'.lt x hx
 rw [hvars] at hV
 obtain ⟨rfl,rfl⟩:=trodVars_none hV
 have hlen:∀ {ts:List TypeId} {vs:List Value} {ds:List (DataW H)} {ps:List MemPlace},DataW.TrodAll enc C.prog W 0 (fun _=>true) true ts vs ds ps→ds.length=ts.length:=by
  intro ts
  induction ts with
  | nil=>intro vs ds ps h;cases vs <;> cases ds <;> first | rfl | cases h
  | cons t ts ih=>
    intro vs ds ps h
    match vs,ds,h with
    | v :: vs,d :: ds,⟨p,q,h1,h2,e⟩=>simp [ih h2]
 rw [hpar] at hA
 have hd:=hsp ds (hlen hA)
 have hvt:s.plain.varTypes C.prog=[]:=by
  have:s.plain.vars=[]:=hvars
  unfold DataSpec.varTypes
  rw [this];rfl
 rw [hpar,hvt,List.append_nil,List.append_nil] at hsz
 rw [List.append_nil] at hlt
 refine (contract W base args ds p hval ⟨hA,hlt,hsz⟩ (by rw [MakeChecks.laidMetH_plain _ _ _ plain] at hL;exact hL) hshape).mono fun e W' h=>⟨.bool true,h.1,?_⟩
 refine ⟨ds,[],p++[],[],p,[],hW',?_,?_,?_,?_,fun h=>by cases h⟩
 ·rw [List.append_nil,hd,hres]
  exact trodAll_mk1 (shut_bool hb true)
 ·rw [List.append_nil,hd,hpar]
  exact trodAll_stays hl h.2 hts hA hlt (fun x hx=>by simpa using hlt x hx)
 ·rw [List.append_nil,hd,hvars]
  trivial
 ·exact World.keptBut_mono (fun x hx=>⟨by simpa using hx,.inr (.inl hx)⟩) (h.2.frame (·∈p))
theorem laidMet_tail {P:Program} {x:String × DataW Unit} {rest:List (String × DataW Unit)} {w:World} (h:laidMet P (x :: rest) w):laidMet P rest w:=by
 obtain ⟨ps,⟨g',t',cs,fuel,p,q,hg',ht',hvar,hd,hr,e⟩,nd,hall⟩:=h
 subst e
 exact ⟨q,hr,(List.nodup_append.1 nd).2.1,fun b off hb=>hall b off (List.mem_append_right _ hb)⟩
end Go.Proofs.YtlipmlbijddopaaGreatDoor
