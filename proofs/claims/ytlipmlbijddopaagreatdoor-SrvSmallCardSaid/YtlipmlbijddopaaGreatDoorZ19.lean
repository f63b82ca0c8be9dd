/-
  Reg; DnsB2; DnsAw; DnsRt
-/
import Derived.Test.YtlipmlbijddopaaGreatDoorZ02
import Derived.Deep.RegionHeld3
import Derived.Test.YtlipmlbijddopaaGreatDoorZ12
import Derived.Test.YtlipmlbijddopaaGreatDoorZ17
import Derived.Test.YtlipmlbijddopaaGreatDoorZ13
import Derived.Test.YtlipmlbijddopaaGreatDoorZ05
import Derived.Lib.ConvBytes
import Derived.Lib.SlBytesConst
import Derived.Laws.IdiomStrings
import Derived.Test.YtlipmlbijddopaaGreatDoorZ18
set_option linter.unusedVariables false
set_option linter.unusedSimpArgs false
namespace Go.Proofs.YtlipmlbijddopaaGreatDoor
open Go.RowKit
section
variable {P:Program} {ops:Array Oper} {Q:Exit→Act→World→Prop} {md:Region.Mode} {S S':World→Prop}
def regOk (md:Region.Mode) (ops:Array Oper) (listed:Array Bool) (i:Nat):Bool:=Region.noSelect ops && Region.free md ops listed i && (Region.ready md ops listed).contains i
theorem regOk_out {listed:Array Bool} {i:Nat} (h:regOk md ops listed i=true):Region.noSelect ops=true∧Region.free md ops listed i=true∧(Region.ready md ops listed).contains i=true:=by
 unfold regOk at h
 simp only [Bool.and_eq_true] at h
 exact ⟨h.1.1,h.1.2,h.2⟩
theorem reg_at {i:Nat} {oi:Oper} {rest:List Oper} (h:ops.toList.drop i=oi :: rest):ops[i]? = some oi:=by
 have h1:ops.toList[i]? = some oi:=by
  have:=List.getElem?_drop (xs:=ops.toList) (i:=i) (j:=0)
  rw [h] at this
  simpa using this.symm
 simpa using h1
theorem reg_cons (i:Nat) {oi:Oper} {rest:List Oper} {fuel:Nat} {listed:Array Bool} {a:Act} {w:World} {rs:List Nat} (hi:ops.toList.drop i=oi :: rest)
 (h:∀ K':Act→World→Prop,Shut (∀ a w,S w→(S w→wpAnyH P md ops Q S fuel (listed.setIfInBounds i true) a w)→K' a w)→if Region.wanted oi (yielded ops a.tmps)=true then Oper.wp P oi a w K' Q else K' (a.put oi.dst undef) w)
 (hs:AllReadyH P md ops Q S fuel listed a w rs):AllReadyH P md ops Q S fuel listed a w (i :: rs):=AllReadyH.cons (reg_at hi) h hs
theorem reg_take (i:Nat) {oi:Oper} {rest:List Oper} {v:Value} {fuel:Nat} {listed:Array Bool} {a:Act} {w:World} (hi:ops.toList.drop i=oi :: rest) (hok:regOk md ops listed i=true)
 (hQ:∀ c a w,Q (.panic c) (a.put oi.dst v) w→Q (.panic c) a w) (hw:Region.wanted oi (yielded ops a.tmps)=true) (hS:S w) (hy:∀ w,S w→(execOp a.eval oi).run P w = .ok (.value v) w)
 (h:wpAnyH P md ops Q S fuel (listed.setIfInBounds i true) (a.put oi.dst v) w):wpAnyH P md ops Q S (fuel+1) listed a w:=
 wpAnyH_take (reg_at hi) (regOk_out hok).1 (regOk_out hok).2.1 (regOk_out hok).2.2 hQ (.inl ⟨hw,hy⟩) hS h
theorem reg_skip (i:Nat) {oi:Oper} {rest:List Oper} {fuel:Nat} {listed:Array Bool} {a:Act} {w:World} (hi:ops.toList.drop i=oi :: rest) (hok:regOk md ops listed i=true)
 (hQ:∀ c a w,Q (.panic c) (a.put oi.dst undef) w→Q (.panic c) a w) (hw:Region.wanted oi (yielded ops a.tmps)=false) (hS:S w)
 (h:wpAnyH P md ops Q S fuel (listed.setIfInBounds i true) (a.put oi.dst undef) w):wpAnyH P md ops Q S (fuel+1) listed a w:=
 wpAnyH_take (reg_at hi) (regOk_out hok).1 (regOk_out hok).2.1 (regOk_out hok).2.2 hQ (.inr ⟨hw,rfl⟩) hS h
theorem reg_load (i:Nat) {oi:Oper} {rest:List Oper} {fuel:Nat} {listed:Array Bool} {a:Act} {w:World} (hi:ops.toList.drop i=oi :: rest) (hok:regOk md ops listed i=true) (ty:TypeId) (x:Operand) (ho:oi.op = .load ty x) (g:Nat) (t:TypeId) (cs:List Value) (d:TypeDesc)
 (hQ:∀ c a w,Q (.panic c) (a.put oi.dst (.agg cs.toArray)) w→Q (.panic c) a w) (hw:Region.wanted oi (yielded ops a.tmps)=true) (hS:S w)
 (hx:a.eval x = .pointer (some ⟨g,0,none⟩)) (hg:∀ w,S w→w.heap[g]? = some (.cells cs.toArray t (0,0))) (hu:P.underlying ty=some d) (hd:(match d with | .struct _ | .array _ _=>true | _=>false)=true) (hsz:(P.info? ty).map (·.size)=some cs.toArray.size)
 (h:wpAnyH P md ops Q S fuel (listed.setIfInBounds i true) (a.put oi.dst (.agg cs.toArray)) w):wpAnyH P md ops Q S (fuel+1) listed a w:=
 reg_take i hi hok hQ hw hS (fun w' hS'=>by
  unfold execOp
  simp only [ho,hx,Instr.loadAt,Instr.sureAddr,Sem.run_bind,Sem.run_pure,Result.andThen_ok,run_loadVar_row w' g t ty cs.toArray (0,0) d (hg w' hS') hu hd hsz]) h
end
end Go.Proofs.YtlipmlbijddopaaGreatDoor
set_option linter.unusedVariables false
set_option linter.unusedSimpArgs false
namespace Go.Proofs.YtlipmlbijddopaaGreatDoor
open Go.RowKit
def Lc {α:Type} (f:List UInt8→St→α × St):Prop:=∀ b B s,Pre b B→(s.e=0→s.at_≤b.length)→(f b s).2.e=0→s.e=0∧f B s=f b s∧(f b s).2.at_≤b.length
theorem lc_name:Lc rName:=by
 intro b B s hp hs h
 by_cases h0:s.e=0
 ·have hat:=hs h0
  unfold rName at h ⊢
  rw [if_pos h0] at h ⊢
  simp only at h
  have hn:=readN_next b s.at_ hat h
  have:=readN_behind b s.at_ hat h B (by rw [hp.take hn.2]) (Nat.le_trans hn.2 hp.len)
  rw [if_pos h0,this]
  exact ⟨h0,rfl,hn.2⟩
 ·unfold rName at h
  rw [if_neg h0] at h
  exact absurd h h0
theorem lc_take (n:Nat):Lc (fun b s=>rTake b n s):=by
 intro b B s hp hs h
 simp only at h ⊢
 by_cases h0:s.e=0
 ·unfold rTake at h ⊢
  rw [if_pos h0] at h ⊢
  by_cases hf:s.at_+n≤b.length
  ·have hl:=hp.len
   rw [if_pos hf,if_pos h0,if_pos (by omega)]
   refine ⟨h0,?_,hf⟩
   obtain ⟨t,rfl⟩:=hp
   rw [List.drop_append_of_le_length (by omega),List.take_append_of_le_length (by rw [List.length_drop];omega)]
  ·rw [if_neg hf] at h
   cases h
 ·unfold rTake at h
  rw [if_neg h0] at h
  exact absurd h h0
theorem lc_num:Lc rNum:=by
 intro b B s hp hs h
 obtain ⟨h1,h2,h3⟩:=lc_take 2 b B s hp hs h
 simp only at h2
 exact ⟨h1,by simp only [rNum,h2],h3⟩
theorem lc_q:Lc rQ:=by
 intro b B s hp hs h
 have h2:(rNum b (rNum b (rName b s).2).2).2.e=0:=h
 obtain ⟨g2,e2,l2⟩:(rNum b (rName b s).2).2.e=0∧rNum B (rNum b (rName b s).2).2=rNum b (rNum b (rName b s).2).2∧(rNum b (rNum b (rName b s).2).2).2.at_≤b.length:=by
  by_cases h1:(rNum b (rName b s).2).2.e=0
  ·have k1:(rName b s).2.e=0:=by
    by_cases hz:(rName b s).2.e=0
    ·exact hz
    ·unfold rNum rTake at h1
     simp only [if_neg hz] at h1
     exact absurd h1 hz
   have k0:=lc_name b b s (Pre.refl b) hs k1
   have k2:=lc_num b b _ (Pre.refl b) (fun _=>k0.2.2) h1
   exact lc_num b B _ hp (fun _=>k2.2.2) h2
  ·unfold rNum rTake at h2
   simp only at h2
   unfold rNum rTake at h1
   simp only at h1
   rw [if_neg h1] at h2
   exact absurd h2 h1
 have k1:(rName b s).2.e=0:=by
  by_cases hz:(rName b s).2.e=0
  ·exact hz
  ·unfold rNum rTake at g2
   simp only [if_neg hz] at g2
   exact absurd g2 hz
 obtain ⟨g0,e0,l0⟩:=lc_name b B s hp hs k1
 obtain ⟨g1,e1,l1⟩:=lc_num b B _ hp (fun _=>l0) g2
 refine ⟨g0,?_,l2⟩
 simp only [rQ,e0,e1,e2]
theorem take_err {b:List UInt8} {n:Nat} {s:St} (h:(rTake b n s).2.e=0):s.e=0∧s.at_+n≤b.length∧(rTake b n s).2.at_=s.at_+n∧(rTake b n s).1=(b.drop s.at_).take n:=by
 by_cases h0:s.e=0
 ·unfold rTake at h ⊢
  rw [if_pos h0] at h ⊢
  by_cases hf:s.at_+n≤b.length
  ·rw [if_pos hf];exact ⟨h0,hf,rfl,rfl⟩
  ·rw [if_neg hf] at h;cases h
 ·unfold rTake at h
  rw [if_neg h0] at h
  exact absurd h h0
theorem num_err {b:List UInt8} {s:St} (h:(rNum b s).2.e=0):s.e=0∧s.at_+2≤b.length∧(rNum b s).2.at_=s.at_+2:=by
 have:=take_err (b:=b) (n:=2) (s:=s) h
 exact ⟨this.1,this.2.1,this.2.2.1⟩
theorem name_err {b:List UInt8} {s:St} (h:(rName b s).2.e=0):s.e=0:=by
 by_cases h0:s.e=0
 ·exact h0
 ·unfold rName at h
  rw [if_neg h0] at h
  exact absurd h h0
theorem q_err {b:List UInt8} {s:St} (h:(rQ b s).2.e=0):s.e=0:=name_err (num_err (num_err h).1).1
def rD (b:List UInt8) (s:St):List UInt8 × St:=
 let q:=rQ b s
 let h:=rNum b q.2
 let l:=rNum b h.2
 let z:=rNum b l.2
 rTake b z.1 z.2
def rKo (o:List UInt8) (n:Nat):Nat × Nat × Nat × (List (List UInt8) × St):=
 let p:=rNum o ⟨n,0⟩
 let w:=rNum o p.2
 let k:=rNum o w.2
 (p.1,w.1,k.1,rName o k.2)
def rKk (b:List UInt8) (q:Qn) (hi lo:Nat) (d:List UInt8 × St):Rc × St:=
 if d.2.e≠0 then (zR,d.2)
 else if q.ty≠33 then (⟨q,65536*hi+lo,d.1,0,0,0,[]⟩,d.2)
 else if d.1.length<7 then (zR,⟨d.2.at_,172⟩)
 else
  let t:=rKo (b.take d.2.at_) (d.2.at_ - d.1.length)
  (⟨q,65536*hi+lo,[],t.1,t.2.1,t.2.2.1,t.2.2.2.1⟩,if t.2.2.2.2.e≠0∨t.2.2.2.2.at_≠d.2.at_ then ⟨d.2.at_,172⟩ else d.2)
theorem rR_eq (b:List UInt8) (s:St):rR b s=rKk b (rQ b s).1 (rNum b (rQ b s).2).1 (rNum b (rNum b (rQ b s).2).2).1 (rD b s):=by
 kernel_rfl
theorem rKk_err {b:List UInt8} {q:Qn} {hi lo:Nat} {d:List UInt8 × St} (h:(rKk b q hi lo d).2.e=0):d.2.e=0∧(rKk b q hi lo d).2=d.2:=by
 unfold rKk at h ⊢
 by_cases h1:d.2.e=0
 ·rw [if_neg (by simp [h1])] at h ⊢
  by_cases h2:q.ty=33
  ·rw [if_neg (by simp [h2])] at h ⊢
   by_cases h3:d.1.length<7
   ·rw [if_pos h3] at h;cases h
   ·rw [if_neg h3] at h ⊢
    simp only at h ⊢
    split at h
    ·cases h
    ·rename_i hc
     rw [if_neg hc]
     exact ⟨h1,rfl⟩
  ·rw [if_pos h2] at h ⊢
   exact ⟨h1,rfl⟩
 ·rw [if_pos h1] at h
  exact absurd h h1
theorem rR_err {b:List UInt8} {s:St} (h:(rR b s).2.e=0):(rD b s).2.e=0∧(rR b s).2=(rD b s).2:=by
 rw [rR_eq] at h ⊢
 exact rKk_err h
theorem lc_d:Lc rD:=by
 intro b B s hp hs h
 have h4:=take_err (b:=b) h
 have h3:=num_err h4.1
 have h2:=num_err h3.1
 have h1:=num_err h2.1
 obtain ⟨g0,e0,l0⟩:=lc_q b B s hp hs h1.1
 obtain ⟨g1,e1,l1⟩:=lc_num b B _ hp (fun _=>l0) h2.1
 obtain ⟨g2,e2,l2⟩:=lc_num b B _ hp (fun _=>l1) h3.1
 obtain ⟨g3,e3,l3⟩:=lc_num b B _ hp (fun _=>l2) h4.1
 obtain ⟨g4,e4,l4⟩:=lc_take _ b B _ hp (fun _=>l3) h
 refine ⟨g0,?_,l4⟩
 simp only [rD,e0,e1,e2,e3]
 exact e4
theorem lc_r:Lc rR:=by
 intro b B s hp hs h
 obtain ⟨hd,hst⟩:=rR_err h
 obtain ⟨g,ed,ld⟩:=lc_d b B s hp hs hd
 have h4:=take_err (b:=b) hd
 have h3:=num_err h4.1
 have h2:=num_err h3.1
 have h1:=num_err h2.1
 obtain ⟨g0,e0,l0⟩:=lc_q b B s hp hs h1.1
 obtain ⟨g1,e1,l1⟩:=lc_num b B _ hp (fun _=>l0) h2.1
 obtain ⟨g2,e2,l2⟩:=lc_num b B _ hp (fun _=>l1) h3.1
 refine ⟨g,?_,by rw [hst];exact ld⟩
 rw [rR_eq,rR_eq,ed,e0,e1,e2]
 generalize rD b s=d at *
 unfold rKk
 rw [hp.take ld]
theorem name_right {b:List UInt8} {s:St} (hs:s.at_≤b.length) (h:(rName b s).2.e=0):rightN (rName b s).1=true:=by
 have h0:=name_err h
 unfold rName at h ⊢
 rw [if_pos h0] at h ⊢
 rcases readN_errs b s.at_ hs with ⟨_,h2⟩ | ⟨_,_,h2⟩
 ·exact h2
 ·simp only at h
  rw [h] at h2
  omega
theorem num_lt (b:List UInt8) (s:St):(rNum b s).1<65536:=by
 unfold rNum num2
 simp only
 have:=((rTake b 2 s).1.getD 0 0).toNat_lt
 have:=((rTake b 2 s).1.getD 1 0).toNat_lt
 omega
theorem q_right {b:List UInt8} {s:St} (hs:s.e=0→s.at_≤b.length) (h:(rQ b s).2.e=0):rightN (rQ b s).1.nm=true∧okQ (rQ b s).1:=by
 have h1:=num_err (num_err h).1
 exact ⟨name_right (hs (name_err h1.1)) h1.1,num_lt _ _,num_lt _ _⟩
theorem rKk_right {b:List UInt8} {q:Qn} {hi lo:Nat} {d:List UInt8 × St} (hn:rightN q.nm=true) (hq:okQ q) (a1:hi<65536) (a2:lo<65536) (hlen:d.1.length≤4096) (h:(rKk b q hi lo d).2.e=0):rightR (rKk b q hi lo d).1=true∧okR (rKk b q hi lo d).1:=by
 obtain ⟨hd,_⟩:=rKk_err h
 unfold rKk at h ⊢
 rw [if_neg (by simp [hd])] at h ⊢
 by_cases h33:q.ty=33
 ·rw [if_neg (by simp [h33])] at h ⊢
  by_cases h7:d.1.length<7
  ·rw [if_pos h7] at h;cases h
  ·rw [if_neg h7] at h ⊢
   simp only at h ⊢
   generalize b.take d.2.at_=o at *
   generalize d.2.at_ - d.1.length=n at *
   have hte:(rKo o n).2.2.2.2.e=0:=by
    by_cases hz:(rKo o n).2.2.2.2.e=0
    ·exact hz
    ·rw [if_pos (Or.inl hz)] at h;cases h
   have hte':(rName o (rNum o (rNum o (rNum o ⟨n,0⟩).2).2).2).2.e=0:=hte
   have k3:=num_err (name_err hte')
   have ht:rightN (rKo o n).2.2.2.1=true:=name_right (by rw [k3.2.2];exact k3.2.1) hte'
   refine ⟨?_,hq,by simp only;omega,num_lt _ _,num_lt _ _,num_lt _ _⟩
   simp [rightR,hn,h33,ht]
 ·rw [if_pos h33] at h ⊢
  refine ⟨?_,hq,by simp only;omega,by simp,by simp,by simp⟩
  simp [rightR,hn,h33,hlen]
theorem r_right {b:List UInt8} {s:St} (hb:b.length≤4096) (hs:s.e=0→s.at_≤b.length) (h:(rR b s).2.e=0):rightR (rR b s).1=true∧okR (rR b s).1:=by
 obtain ⟨hd,_⟩:=rR_err h
 have h4:=take_err (b:=b) hd
 have h3:=num_err h4.1
 have h2:=num_err h3.1
 have h1:=num_err h2.1
 obtain ⟨hn,hq⟩:=q_right hs h1.1
 have hlen:(rD b s).1.length≤4096:=by
  have:(rD b s).1=_:=h4.2.2.2
  rw [this,List.length_take,List.length_drop]
  omega
 rw [rR_eq] at h ⊢
 exact rKk_right hn hq (num_lt _ _) (num_lt _ _) hlen h
attribute [local irreducible] rR rQ in
theorem qs_read {b B:List UInt8} {s:St} (hp:Pre b B) (hs:s.e=0→s.at_≤b.length):∀ k,(rQs b s k).2.e=0→s.e=0∧rQs B s k=rQs b s k∧(rQs b s k).2.at_≤b.length∧(∀ q∈(rQs b s k).1,rightN q.nm=true∧okQ q)∧(rQs b s k).1.length=k:=by
 intro k
 induction k with
 | zero=>intro h;exact ⟨h,rfl,hs h,fun q hq=>(by cases hq),rfl⟩
 | succ k ih=>
   intro h
   have h':(rQ b (rQs b s k).2).2.e=0:=h
   obtain ⟨i1,i2,i3,i4,i5⟩:=ih (q_err h')
   obtain ⟨j1,j2,j3⟩:=lc_q b B _ hp (fun _=>i3) h'
   refine ⟨i1,?_,j3,fun q hq=>?_,?_⟩
   ·rw [rQs,i2,j2];rfl
   ·rw [rQs] at hq
    rcases List.mem_append.1 hq with hq | hq
    ·exact i4 q hq
    ·rw [List.mem_singleton.1 hq]
     exact q_right (fun _=>i3) h'
   ·rw [rQs,List.length_append,i5];rfl
attribute [local irreducible] rR rQ in
theorem rs_read {b B:List UInt8} {s:St} (hp:Pre b B) (hb:b.length≤4096) (hs:s.e=0→s.at_≤b.length):∀ k,(rRs b s k).2.e=0→s.e=0∧rRs B s k=rRs b s k∧(rRs b s k).2.at_≤b.length∧(∀ q∈(rRs b s k).1,rightR q=true∧okR q)∧(rRs b s k).1.length=k:=by
 intro k
 induction k with
 | zero=>intro h;exact ⟨h,rfl,hs h,fun q hq=>(by cases hq),rfl⟩
 | succ k ih=>
   intro h
   have h':(rR b (rRs b s k).2).2.e=0:=h
   have h0:(rRs b s k).2.e=0:=by
    obtain ⟨hd,_⟩:=rR_err h'
    exact q_err (num_err (num_err (num_err (take_err (b:=b) hd).1).1).1).1
   obtain ⟨i1,i2,i3,i4,i5⟩:=ih h0
   obtain ⟨j1,j2,j3⟩:=lc_r b B _ hp (fun _=>i3) h'
   refine ⟨i1,?_,j3,fun q hq=>?_,?_⟩
   ·rw [rRs,i2,j2];rfl
   ·rw [rRs] at hq
    rcases List.mem_append.1 hq with hq | hq
    ·exact i4 q hq
    ·rw [List.mem_singleton.1 hq]
     exact r_right hb (fun _=>i3) h'
   ·rw [rRs,List.length_append,i5];rfl
theorem hd_lt (b:List UInt8) (i:Nat):hd b i<65536:=by
 unfold hd num2
 have:=((b.drop (2*i)).getD 0 0).toNat_lt
 have:=((b.drop (2*i)).getD 1 0).toNat_lt
 omega
theorem hd_pre {b B:List UInt8} (hp:Pre b B) (i:Nat) (h:2*i+2≤b.length):hd B i=hd b i:=by
 obtain ⟨t,rfl⟩:=hp
 unfold hd num2
 rw [List.drop_append_of_le_length (by omega)]
 have hl:(b.drop (2*i)).length ≥ 2:=by rw [List.length_drop];omega
 match hm:b.drop (2*i),hl with
 | x :: y :: r,_=>rfl
structure Rest (b:List UInt8) (n2 n3 n4 n5:Nat) where
 q:List Qn × St
 x:List Rc × St
 y:List Rc × St
 z:List Rc × St
 hq:q=rQs b ⟨12,0⟩ n2
 hx:x=rRs b q.2 n3
 hy:y=rRs b x.2 n4
 hz:z=rRs b y.2 n5
def fin (b:List UInt8) (i f:Nat) (q:List Qn × St) (x y z:List Rc × St):Ms × Nat:=
 if (if z.2.e=0 then (if z.2.at_<b.length then 173 else 0) else z.2.e)=0 then (⟨i,f,q.1,x.1,y.1,z.1⟩,0) else (zM,(if z.2.e=0 then (if z.2.at_<b.length then 173 else 0) else z.2.e))
theorem readM_eq (b:List UInt8) (c1:¬ 4096<b.length) (c2:¬ b.length<12) (c3:¬ 256<hd b 2+hd b 3+hd b 4+hd b 5) (r:Rest b (hd b 2) (hd b 3) (hd b 4) (hd b 5)) :
 readM b=fin b (hd b 0) (hd b 1) r.q r.x r.y r.z:=by
 obtain ⟨q,x,y,z,hq,hx,hy,hz⟩:=r
 simp only
 subst hz hy hx hq
 unfold readM
 rw [if_neg c1,if_neg c2,if_neg c3]
 rfl
attribute [local irreducible] rR rQ in
theorem rs_err {b:List UInt8} (s:St):∀ k,(rRs b s k).2.e=0→s.e=0:=by
 intro k
 induction k with
 | zero=>exact id
 | succ k ih=>
   intro h
   have h':(rR b (rRs b s k).2).2.e=0:=h
   obtain ⟨hd,_⟩:=rR_err h'
   exact ih (q_err (num_err (num_err (num_err (take_err (b:=b) hd).1).1).1).1)
theorem fin_ok {b:List UInt8} {i f:Nat} {q:List Qn × St} {x y z:List Rc × St} (h:(fin b i f q x y z).2=0):z.2.e=0∧b.length≤z.2.at_∧fin b i f q x y z=(⟨i,f,q.1,x.1,y.1,z.1⟩,0):=by
 unfold fin at h ⊢
 by_cases c4:(if z.2.e=0 then (if z.2.at_<b.length then 173 else 0) else z.2.e)=0
 ·rw [if_pos c4]
  by_cases hh:z.2.e=0
  ·rw [if_pos hh] at c4
   by_cases hl:z.2.at_<b.length
   ·rw [if_pos hl] at c4;cases c4
   ·exact ⟨hh,by omega,rfl⟩
  ·rw [if_neg hh] at c4;exact absurd c4 hh
 ·rw [if_neg c4] at h
  exact absurd h c4
theorem fin_rest {b:List UInt8} {i f:Nat} {q:List Qn × St} {x y z:List Rc × St} (h:z.2.e=0) (hl:z.2.at_<b.length):fin b i f q x y z=(zM,173):=by
 simp [fin,h,hl]
theorem rest_read {b:List UInt8} {n2 n3 n4 n5:Nat} (hb:b.length≤4096) (h12:12≤b.length) (r:Rest b n2 n3 n4 n5) (hze:r.z.2.e=0) (B:List UInt8) (hp:Pre b B) :
 (rQs B ⟨12,0⟩ n2=r.q∧r.q.2.at_≤b.length∧(∀ a∈r.q.1,rightN a.nm=true∧okQ a)∧r.q.1.length=n2)∧(rRs B r.q.2 n3=r.x∧r.x.2.at_≤b.length∧(∀ a∈r.x.1,rightR a=true∧okR a)∧r.x.1.length=n3)∧
  (rRs B r.x.2 n4=r.y∧r.y.2.at_≤b.length∧(∀ a∈r.y.1,rightR a=true∧okR a)∧r.y.1.length=n4)∧(rRs B r.y.2 n5=r.z∧r.z.2.at_≤b.length∧(∀ a∈r.z.1,rightR a=true∧okR a)∧r.z.1.length=n5):=by
 obtain ⟨q,x,y,z,hq,hx,hy,hz⟩:=r
 simp only at hze ⊢
 have hye:=rs_err y.2 _ (by rw [←hz];exact hze)
 have hxe:=rs_err x.2 _ (by rw [←hy];exact hye)
 have hqe:=rs_err q.2 _ (by rw [←hx];exact hxe)
 have q1:=qs_read (s:=⟨12,0⟩) hp (fun _=>h12) n2 (by rw [←hq];exact hqe)
 rw [←hq] at q1
 have x1:=rs_read (s:=q.2) hp hb (fun _=>q1.2.2.1) n3 (by rw [←hx];exact hxe)
 rw [←hx] at x1
 have y1:=rs_read (s:=x.2) hp hb (fun _=>x1.2.2.1) n4 (by rw [←hy];exact hye)
 rw [←hy] at y1
 have z1:=rs_read (s:=y.2) hp hb (fun _=>y1.2.2.1) n5 (by rw [←hz];exact hze)
 rw [←hz] at z1
 exact ⟨q1.2,x1.2,y1.2,z1.2⟩
theorem read_cases (b:List UInt8):readM b=(zM,3)∨readM b=(zM,171)∨readM b=(zM,5)∨(¬ 4096<b.length∧¬ b.length<12∧¬ 256<hd b 2+hd b 3+hd b 4+hd b 5):=by
 unfold readM
 by_cases c1:4096<b.length
 ·rw [if_pos c1];exact Or.inl rfl
 rw [if_neg c1]
 by_cases c2:b.length<12
 ·rw [if_pos c2];exact Or.inr (Or.inl rfl)
 rw [if_neg c2]
 by_cases c3:256<hd b 2+hd b 3+hd b 4+hd b 5
 ·rw [if_pos c3];exact Or.inr (Or.inr (Or.inl rfl))
 exact Or.inr (Or.inr (Or.inr ⟨c1,c2,c3⟩))
theorem read_ok {b:List UInt8} (h:(readM b).2=0):rightM (readM b).1=true∧okM (readM b).1∧(readM b).1.num≤256∧12≤b.length∧b.length≤4096∧
 ∀ B,Pre b B→b.length<B.length→B.length≤4096→readM B=(zM,173):=by
 rcases read_cases b with h1 | h1 | h1 | ⟨c1,c2,c3⟩
 ·rw [h1] at h;cases h
 ·rw [h1] at h;cases h
 ·rw [h1] at h;cases h
 have hb:b.length≤4096:=by omega
 have h12:12≤b.length:=by omega
 let r:Rest b (hd b 2) (hd b 3) (hd b 4) (hd b 5):=⟨_,_,_,_,rfl,rfl,rfl,rfl⟩
 have e:=readM_eq b c1 c2 c3 r
 rw [e] at h ⊢
 obtain ⟨hze,hat,e2⟩:=fin_ok h
 have hall:=rest_read hb h12 r hze
 clear_value r
 rw [e2]
 have a0:=hall b (Pre.refl b)
 refine ⟨?_,⟨hd_lt _ _,hd_lt _ _,fun a ha=>(a0.1.2.2.1 a ha).2,fun a ha=>(a0.2.1.2.2.1 a ha).2,fun a ha=>(a0.2.2.1.2.2.1 a ha).2,fun a ha=>(a0.2.2.2.2.2.1 a ha).2⟩,?_,h12,hb,?_⟩
 ·simp only [rightM,Bool.and_eq_true,List.all_eq_true]
  exact ⟨fun a ha=>(a0.1.2.2.1 a ha).1,fun a ha=>(a0.2.1.2.2.1 a ha).1,fun a ha=>(a0.2.2.1.2.2.1 a ha).1,fun a ha=>(a0.2.2.2.2.2.1 a ha).1⟩
 ·simp only [Ms.num]
  rw [a0.1.2.2.2,a0.2.1.2.2.2,a0.2.2.1.2.2.2,a0.2.2.2.2.2.2]
  omega
 ·intro B hp hlt hB
  obtain ⟨b1,b2,b3,b4⟩:=hall B hp
  have g2:=hd_pre hp 2 (by omega)
  have g3:=hd_pre hp 3 (by omega)
  have g4:=hd_pre hp 4 (by omega)
  have g5:=hd_pre hp 5 (by omega)
  rw [readM_eq B (by omega) (by omega) (by rw [g2,g3,g4,g5];exact c3) ⟨r.q,r.x,r.y,r.z,by rw [g2];exact b1.1.symm,by rw [g3];exact b2.1.symm,by rw [g4];exact b3.1.symm,by rw [g5];exact b4.1.symm⟩]
  exact fin_rest hze (Nat.lt_of_le_of_lt b4.2.1 hlt)
theorem read_err {b:List UInt8} (h:(readM b).2≠0):(readM b).1=zM:=by
 rcases read_cases b with h1 | h1 | h1 | ⟨c1,c2,c3⟩
 ·rw [h1]
 ·rw [h1]
 ·rw [h1]
 let r:Rest b (hd b 2) (hd b 3) (hd b 4) (hd b 5):=⟨_,_,_,_,rfl,rfl,rfl,rfl⟩
 have e:=readM_eq b c1 c2 c3 r
 rw [e] at h ⊢
 clear_value r
 unfold fin at h ⊢
 generalize (if r.z.2.e=0 then (if r.z.2.at_<b.length then 173 else 0) else r.z.2.e)=e at *
 by_cases hc:e=0
 ·rw [if_pos hc] at h
  exact absurd rfl h
 ·rw [if_neg hc]
end Go.Proofs.YtlipmlbijddopaaGreatDoor
set_option linter.unusedVariables false
set_option linter.unusedSimpArgs false
namespace Go.Proofs.YtlipmlbijddopaaGreatDoor
open Go.RowKit
def cW (w:World) (l:List UInt8):World:=Lib.bytesWorld w 5 ⟨l.toArray⟩
open Go.RowKit
namespace DX
def nm:List (List UInt8):=[[95,97],[98]]
def q:Qn:=⟨nm,33,1⟩
def r:Rc:=⟨q,60,[],1,2,80,[[104],[98]]⟩
def M:Ms:=⟨258,32768,[q],[r],[],[]⟩
def hdr:List UInt8:=[1,2,128,0,0,1,0,1,0,0,0,0,2,95,97,1,98,0,0,33,0,1,192,12,0,33,0,1,0,0,0,60,0]
def mid:List UInt8:=[0,1,0,2,0,80]
def rep (s:UInt8) (t:List UInt8):List UInt8:=hdr++[s]++mid++t
def qB:List UInt8:=[1,2,1,0,0,1,0,0,0,0,0,0,2,95,97,1,98,0,0,33,0,1]
def b1:List UInt8:=[1,2,128,0,0,1,0,1,0,0,0,0,2,95,97,1,98,0,0,33,0,1]
theorem writeM_ok {m:Ms} {b:List UInt8} (h1:rightM m=true) (h2:m.num≤256) (h3:formM m=b) (h4:b.length≤4096):writeM m=(b,0):=by
 unfold writeM
 rw [if_neg (by rw [h1];simp),if_neg (by omega),h3,if_neg (by omega)]
end DX
theorem OwM.cap {w:World} {base s n c:Nat} {e:TypeId} {A:Option Addr} {xs:List Value} (h:OwM w base e s (.slice A n c) n xs):n≤c:=by
 obtain ⟨A',c',he,h1,_⟩:=h.form
 injection he with _ _ h3
 omega
theorem nmO_rd {w:World} {base:Nat} {A:Option Addr} {c:Nat} {n:List (List UInt8)} (h:(nmO A c n).ok w base) (hs:sizeN n≤140737488355328):NRd w w.heap.size A c n:=by
 have h1:OwM w base 9 1 (.slice A (sc n).length c) (sc n).length (sc n):=by
  have:=h
  unfold Ob.ok nmO at this
  rw [sc_length] at this ⊢
  exact this
 have h2:=h1.rd
 have h3:=h1.cap
 rw [Nat.mul_one,sc_length] at h2
 rw [sc_length] at h3
 exact ⟨h2,h3,hs⟩
theorem daO_rd {w:World} {base:Nat} {A:Option Addr} {c:Nat} {d:List UInt8} (h:(daO A c d).ok w base) (hs:d.length≤140737488355328):DRd w w.heap.size A c d:=by
 have h1:OwM w base 5 1 (.slice A (bc d).length c) (bc d).length (bc d):=by
  have:=h
  unfold Ob.ok daO at this
  rw [bc_length] at this ⊢
  exact this
 have h2:=h1.rd
 have h3:=h1.cap
 rw [Nat.mul_one,bc_length] at h2
 rw [bc_length] at h3
 exact ⟨h2,h3,hs⟩
theorem right_small {n:List (List UInt8)} (h:rightN n=true):sizeN n≤140737488355328:=by
 have:=size_right h
 omega
theorem rwQ_rd {w:World} {base:Nat} {A:Option Addr} {c:Nat} {l:List QR} (h:(rwQ A c l).ok w base) (hn:∀ o,DQ l o→o.ok w base) (hr:∀ x∈l,rightN x.q.nm=true) (hk:∀ x∈l,okQ x.q) (hl:l.length≤256):QsRd w w.heap.size A c l.length l:=by
 have h1:OwM w base 76 3 (.slice A l.length c) l.length (qcs l):=h
 exact ⟨h1.rd,rfl,h1.cap,by omega,fun x hx=>⟨nmO_rd (hn _ ⟨x,hx,rfl⟩) (right_small (hr x hx)),hk x hx⟩⟩
theorem rightR_data {r:Rc} (h:rightR r=true):r.d.length≤4096:=by
 unfold rightR at h
 split at h
 ·split at h
  ·split at h
   ·omega
   ·cases h
  ·simp at h;exact h.1
 ·cases h
theorem rightR_tg {r:Rc} (h:rightR r=true):sizeN r.tg≤140737488355328:=by
 unfold rightR at h
 split at h
 ·split at h
  ·split at h
   ·exact right_small h
   ·cases h
  ·simp at h;rw [h.2.2.2.2];simp [sizeN]
 ·cases h
theorem rwR_rd {w:World} {base:Nat} {A:Option Addr} {c:Nat} {l:List RR} (h:(rwR A c l).ok w base) (hn:∀ o,DR l o→o.ok w base) (hr:∀ x∈l,rightR x.r=true) (hk:∀ x∈l,okR x.r) (hl:l.length≤256):RsRd w w.heap.size A c l.length l:=by
 have h1:OwM w base 88 9 (.slice A l.length c) l.length (rcs l):=h
 refine ⟨h1.rd,rfl,h1.cap,by omega,fun x hx=>?_⟩
 obtain ⟨k1,k2,k3,k4,k5⟩:=hk x hx
 exact ⟨⟨nmO_rd (hn _ ⟨x,hx,Or.inl rfl⟩) (right_small (rightR_nm (hr x hx))),k1⟩,daO_rd (hn _ ⟨x,hx,Or.inr (Or.inl rfl)⟩) (by have:=rightR_data (hr x hx);omega),nmO_rd (hn _ ⟨x,hx,Or.inr (Or.inr rfl)⟩) (rightR_tg (hr x hx)),k2,k3,k4,k5⟩
theorem MOw.rd {w:World} {base:Nat} {x:MR} (h:MOw w base x) (hr:rightM x.m=true) (hk:okM x.m) (hn:x.m.num≤256):MRd w w.heap.size x:=by
 have hn':x.qs.length+x.r0.length+x.r1.length+x.r2.length≤256:=by simpa [Ms.num,MR.m] using hn
 obtain ⟨a0,a1,a2,a3⟩:=resW hr
 exact ⟨hk.id,hk.fl,rwQ_rd h.q h.n a0 (fun y hy=>hk.qs _ (List.mem_map.2 ⟨y,hy,rfl⟩)) (by omega),rwR_rd h.a h.r0 a1 (fun y hy=>hk.r0 _ (List.mem_map.2 ⟨y,hy,rfl⟩)) (by omega),rwR_rd h.b h.r1 a2 (fun y hy=>hk.r1 _ (List.mem_map.2 ⟨y,hy,rfl⟩)) (by omega),rwR_rd h.c h.r2 a3 (fun y hy=>hk.r2 _ (List.mem_map.2 ⟨y,hy,rfl⟩)) (by omega)⟩
theorem okM_z:okM zM:=⟨by simp [zM],by simp [zM],fun q h=>(by cases h),fun q h=>(by cases h),fun q h=>(by cases h),fun q h=>(by cases h)⟩
theorem read_mrd {w:World} {base:Nat} {x:MR} {b:List UInt8} (h:MOw w base x) (hx:x.m=(readM b).1):MRd w w.heap.size x:=by
 by_cases h0:(readM b).2=0
 ·obtain ⟨h1,h2,h3,_⟩:=read_ok h0
  exact h.rd (by rw [hx];exact h1) (by rw [hx];exact h2) (by rw [hx];exact h3)
 ·have hz:=read_err h0
  exact h.rd (by rw [hx,hz];rfl) (by rw [hx,hz];exact okM_z) (by rw [hx,hz];simp [Ms.num,zM])
open Go.RowKit
def DX.xq (b:Nat):QR:=⟨some ⟨b+1,0,none⟩,2,DX.q⟩
def DX.xr (b:Nat):RR:=⟨some ⟨b+1,0,none⟩,2,none,0,some ⟨b+5,0,none⟩,2,DX.r⟩
def DX.x (b:Nat):MR:=⟨258,32768,some ⟨b+3,0,none⟩,1,[DX.xq b],some ⟨b+6,0,none⟩,1,[DX.xr b],none,0,[],none,0,[]⟩
end Go.Proofs.YtlipmlbijddopaaGreatDoor
set_option linter.unusedVariables false
set_option linter.unusedSimpArgs false
namespace Go.Proofs.YtlipmlbijddopaaGreatDoor
open Go.RowKit
def BoxM (w:World) (g:Nat) (x:MR):Prop:=Vx w g 72 x.cells∧MRd w w.heap.size x
def Bxs (w:World) (l:List (Nat × MR)):Prop:=∀ m∈l,BoxM w m.1 m.2
open Go.RowKit
set_option maxRecDepth 100000 in
set_option maxHeartbeats 1000000 in
theorem readE_at (A:Option Addr) (c:Nat) (b:List UInt8) (m:Ms) (er:Nat) (hm:readM b=(m,er)) (w:World) (h:Rd w w.heap.size A b.length (bc b)) (hc:b.length≤c) (hbl:b.length≤140737488355328) :
 Calls Tryz.prog 33 #[.slice A b.length c] w fun e w'=>∃ x:MR,x.m=m∧e = .returned (.tuple #[.agg x.cells.toArray,.int .i64 (er:Int)])∧MRd w' w'.heap.size x∧Below w.heap.size w w':=by
 have hz:(readM b).1=m:=by rw [hm]
 have hz2:(readM b).2=er:=by rw [hm]
 rw [←hz,←hz2]
 by_cases h2:b.length<12
 ·have hr1:readM b=(zM,171):=by unfold readM;rw [if_neg (by omega),if_pos h2]
  rw [hr1]
  have h1':(b.length:Int)≤4096:=by omega
  have h2':(b.length:Int)<12:=by omega
  have hV1:Vx (w.alloc (.cells #[.int .u16 0,.int .u16 0,.slice none 0 0,.slice none 0 0,.slice none 0 0,.slice none 0 0] 72)) w.heap.size 72 zM6:=Vx.new w _ _
  have hb1:=below_new w (.cells #[.int .u16 0,.int .u16 0,.slice none 0 0,.slice none 0 0,.slice none 0 0,.slice none 0 0] 72)
  clear hm hz hz2 hr1 h
  go_enter Tryz.func33,Tryz.ntmps33
  go_wp2_with (refine wpList_store_row rfl 72 _ _ rfl w.heap.size _ rfl rfl _ _ hV1 (by kernel_rfl) rfl (by kernel_rfl) ?_)
  refine bodyPost_ret (resM Tryz.results33 _ _ w.heap.size _ _ _ rfl rfl (hV1.row zM6) rfl) rfl ?_
  exact ⟨zMR,rfl,rfl,(zMR_ow _ 0).rd rfl okM_z (by simp [Ms.num,zMR,MR.m]),hb1.trans ((Only.row _ _ _).below (Nat.le_refl _) (by simp))⟩
 ·refine (readD_at A c b w h hc (fun a ha=>?_) hbl).mono ?_
  ·obtain ⟨bb,o,e,hb,_⟩:=h.2 (by omega)
   rw [e] at ha
   cases ha
   exact hb
  ·rintro e w' ⟨x,h1,h2,h3,h4⟩
   exact ⟨x,h1,h2,read_mrd h3 h1,h4⟩
theorem readO_at (A:Option Addr) (c:Nat) (b:List UInt8) (m:Ms) (er:Nat) (hm:readM b=(m,er)) (w:World) (h:Rd w w.heap.size A b.length (bc b)) (hc:b.length≤c) (hA:∀ a,A=some a→a.block<w.heap.size) (hbl:b.length≤140737488355328) :
 Calls Tryz.prog 33 #[.slice A b.length c] w fun e w'=>∃ x:MR,x.m=m∧e = .returned (.tuple #[.agg x.cells.toArray,.int .i64 (er:Int)])∧MOw w' w.heap.size x∧MRd w' w'.heap.size x∧Below w.heap.size w w':=by
 have:=readD_at A c b w h hc hA hbl
 rw [hm] at this
 refine this.mono ?_
 rintro e w' ⟨x,h1,h2,h3,h4⟩
 exact ⟨x,h1,h2,h3,read_mrd h3 (by rw [hm];exact h1),h4⟩
theorem zmrd (w:World):MRd w w.heap.size zMR:=(zMR_ow w 0).rd rfl okM_z (by simp [Ms.num,zMR,MR.m])
end Go.Proofs.YtlipmlbijddopaaGreatDoor
