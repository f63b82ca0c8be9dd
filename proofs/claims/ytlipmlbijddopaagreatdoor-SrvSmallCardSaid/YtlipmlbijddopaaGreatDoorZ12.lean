/-
  DnsB; DnsW3
-/
import Derived.Test.YtlipmlbijddopaaGreatDoorZ10
import Derived.Test.YtlipmlbijddopaaGreatDoorZ08
import Derived.Test.YtlipmlbijddopaaGreatDoorZ11
import Derived.Deep.RegionLaw
import Derived.Deep.DeepCutAuto
set_option linter.unusedVariables false
set_option linter.unusedSimpArgs false
namespace Go.Proofs.YtlipmlbijddopaaGreatDoor
open Go.RowKit
def okQ (q:Qn):Prop:=q.ty<65536∧q.cl<65536
def okR (r:Rc):Prop:=okQ r.q∧r.ttl<4294967296∧r.pr<65536∧r.we<65536∧r.po<65536
structure okM (m:Ms):Prop where
 id:m.id<65536
 fl:m.fl<65536
 qs:∀ q∈m.qs,okQ q
 r0:∀ r∈m.r0,okR r
 r1:∀ r∈m.r1,okR r
 r2:∀ r∈m.r2,okR r
def Pre (b B:List UInt8):Prop:=∃ t,B=b++t
theorem Pre.refl (b:List UInt8):Pre b b:=⟨[],by simp⟩
theorem Pre.trans {a b c:List UInt8} (h:Pre a b) (k:Pre b c):Pre a c:=by
 obtain ⟨t,rfl⟩:=h
 obtain ⟨u,rfl⟩:=k
 exact ⟨t++u,by simp⟩
theorem Pre.len {a b:List UInt8} (h:Pre a b):a.length≤b.length:=by
 obtain ⟨t,rfl⟩:=h;simp
theorem Pre.take {a b:List UInt8} (h:Pre a b) {k:Nat} (hk:k≤a.length):b.take k=a.take k:=by
 obtain ⟨t,rfl⟩:=h
 rw [List.take_append_of_le_length hk]
theorem Pre.app (a t:List UInt8):Pre a (a++t):=⟨t,rfl⟩
theorem piece_at {B p d:List UInt8} (h:Pre (p++d) B):(B.drop p.length).take d.length=d:=by
 obtain ⟨t,rfl⟩:=h
 rw [List.append_assoc,List.drop_left' rfl,List.take_left' rfl]
theorem take_of {B p d:List UInt8} (h:Pre (p++d) B):rTake B d.length ⟨p.length,0⟩=(d,⟨p.length+d.length,0⟩):=by
 have:=h.len
 rw [List.length_append] at this
 simp [rTake,this,piece_at h]
theorem num2_two (n:Nat) (h:n<65536):num2 (two n)=n:=by
 simp [num2,two]
 omega
theorem num_of {B p:List UInt8} {n:Nat} (h:Pre (p++two n) B) (hn:n<65536):rNum B ⟨p.length,0⟩=(n,⟨p.length+2,0⟩):=by
 have:=take_of h
 rw [two_length] at this
 simp [rNum,this,num2_two n hn]
theorem pre_of_take {b B:List UInt8} (h:B.take b.length=b):Pre b B:=⟨B.drop b.length,by
 have:=List.take_append_drop b.length B
 rw [h] at this
 exact this.symm⟩
theorem app_pre (b:List UInt8) (known:List Int) (n:List (List UInt8)) (hr:rightN n=true):Pre b (appN b known n):=pre_of_take (app_reads b known n hr).2.2.2
theorem name_of {B b:List UInt8} {known:List Int} {n:List (List UInt8)} (hr:rightN n=true) (h:Pre (appN b known n) B):rName B ⟨b.length,0⟩=(n,⟨(appN b known n).length,0⟩):=by
 obtain ⟨h1,h2,h3,h4⟩:=app_reads b known n hr
 have h5:=readN_behind (appN b known n) b.length (by omega) (by rw [h1]) B (by rw [h1];exact h.take (Nat.le_refl _)) (by rw [h1];exact h.len)
 rw [h1] at h5
 simp [rName,h5]
theorem q_of {B:List UInt8} {s:Wr} {q:Qn} (hr:rightN q.nm=true) (hq:okQ q) (h:Pre (askB s q).1 B):rQ B ⟨s.1.length,0⟩=(q,⟨(askB s q).1.length,0⟩):=by
 have e:(askB s q).1=appN s.1 s.2 q.nm++two q.ty++two q.cl:=rfl
 rw [e] at h
 have p1:Pre (appN s.1 s.2 q.nm++two q.ty) B:=(Pre.app _ _).trans h
 have p0:Pre (appN s.1 s.2 q.nm) B:=(Pre.app _ _).trans p1
 have h0:=name_of hr p0
 have h1:=num_of p1 hq.1
 have h2:=num_of h hq.2
 rw [List.length_append,two_length] at h2
 simp only [rQ,h0,h1,h2,e,List.length_append,two_length]
theorem ask_pre (s:Wr) (q:Qn) (hr:rightN q.nm=true):Pre s.1 (askB s q).1:=(app_pre s.1 s.2 q.nm hr).trans ((Pre.app _ _).trans (Pre.app _ _))
theorem rightR_nm {r:Rc} (h:rightR r=true):rightN r.q.nm=true:=by
 unfold rightR at h
 split at h
 ·assumption
 ·cases h
theorem rec_pre (s:Wr) (r:Rc) (hr:rightR r=true):Pre s.1 (recB s r).1:=(ask_pre s r.q (rightR_nm hr)).trans ((Pre.app _ _).trans (Pre.app _ _))
theorem take_end {B p:List UInt8} (h:Pre p B):B.take p.length=p:=by
 rw [h.take (Nat.le_refl _),List.take_length]
theorem dataR_len' {r:Rc} (h:rightR r=true):(dataR r).length≤4096:=by
 unfold rightR at h
 unfold dataR
 split at h
 ·split
  ·rw [if_pos (by assumption)] at h
   split at h
   ·have:=size_right h
    simp [two,formN_length];omega
   ·cases h
  ·rw [if_neg (by assumption)] at h
   simp at h
   exact h.1
 ·cases h
theorem r_of {B:List UInt8} {s:Wr} {r:Rc} (hr:rightR r=true) (hk:okR r) (h:Pre (recB s r).1 B):rR B ⟨s.1.length,0⟩=(r,⟨(recB s r).1.length,0⟩):=by
 obtain ⟨hq,ht,hp,hw,ho⟩:=hk
 have hdl:=dataR_len' hr
 obtain ⟨a,ha⟩:∃ a,a=(askB s r.q).1:=⟨_,rfl⟩
 obtain ⟨d,hd⟩:∃ d,d=dataR r:=⟨_,rfl⟩
 have e:(recB s r).1=a++two (r.ttl / 65536)++two (r.ttl % 65536)++two d.length++d:=by simp [recB,twos,ha,hd]
 rw [e] at h ⊢
 rw [←hd] at hdl
 have p3:Pre (a++two (r.ttl / 65536)++two (r.ttl % 65536)++two d.length) B:=(Pre.app _ _).trans h
 have p2:Pre (a++two (r.ttl / 65536)++two (r.ttl % 65536)) B:=(Pre.app _ _).trans p3
 have p1:Pre (a++two (r.ttl / 65536)) B:=(Pre.app _ _).trans p2
 have p0:Pre a B:=(Pre.app _ _).trans p1
 have h0:=q_of (rightR_nm hr) hq (by rw [←ha];exact p0)
 rw [←ha] at h0
 have h1:=num_of p1 (by omega)
 have h2:=num_of p2 (by omega)
 have h3:=num_of p3 (by omega)
 have h4:=take_of h
 simp only [List.length_append,two_length] at h2 h3 h4
 have hte:=take_end h
 have hlen:(a++two (r.ttl / 65536)++two (r.ttl % 65536)++two d.length++d).length=a.length+2+2+2+d.length:=by simp only [List.length_append,two_length]
 rw [hlen] at hte ⊢
 have httl:65536*(r.ttl / 65536)+r.ttl % 65536=r.ttl:=by omega
 simp only [rR,h0,h1,h2,h3,h4,httl]
 unfold rightR at hr
 rw [if_pos (by
  by_cases hn:rightN r.q.nm=true
  ·exact hn
  ·rw [if_neg hn] at hr;cases hr)] at hr
 by_cases h33:r.q.ty=33
 ·rw [if_pos h33] at hr
  have hd0:r.d=[]:=by
   by_cases hz:r.d.length=0
   ·exact List.eq_nil_of_length_eq_zero hz
   ·rw [if_neg hz] at hr;cases hr
  have htg:rightN r.tg=true:=by
   rw [hd0] at hr;simpa using hr
  have hD:d=two r.pr++two r.we++two r.po++formN r.tg:=by rw [hd,dataR,if_pos h33]
  have hfl:(formN r.tg).length=sizeN r.tg:=formN_length _
  have hs0:=labS_length r.tg
  have hdlen:d.length=6+sizeN r.tg:=by rw [hD];simp only [List.length_append,two_length,hfl]
  obtain ⟨c,hc⟩:∃ c,c=a++two (r.ttl / 65536)++two (r.ttl % 65536)++two d.length:=⟨_,rfl⟩
  have hcl:c.length=a.length+2+2+2:=by rw [hc];simp only [List.length_append,two_length]
  have hst:a.length+2+2+2+d.length - d.length=c.length:=by omega
  rw [←hc] at hte
  have hd1:c++d=c++two r.pr++two r.we++two r.po++formN r.tg:=by rw [hD];simp
  have k0:Pre (c++two r.pr) (c++d):=by rw [hd1];exact (Pre.app _ _).trans ((Pre.app _ _).trans (Pre.app _ _))
  have k1:Pre (c++two r.pr++two r.we) (c++d):=by rw [hd1];exact (Pre.app _ _).trans (Pre.app _ _)
  have k2:Pre (c++two r.pr++two r.we++two r.po) (c++d):=by rw [hd1];exact (Pre.app _ _)
  have n0:=num_of k0 hp
  have n1:=num_of k1 hw
  have n2:=num_of k2 ho
  have n3:rName (c++d) ⟨(c++two r.pr++two r.we++two r.po).length,0⟩=(r.tg,⟨(c++d).length,0⟩):=by
   have:=read_full (c++two r.pr++two r.we++two r.po) [] r.tg htg
   rw [show c++two r.pr++two r.we++two r.po++(labS r.tg++0 :: [])=c++d by rw [hd1];rfl] at this
   simp only [rName,this,if_true]
   rw [hd1]
   simp only [List.length_append,two_length,hfl]
  simp only [List.length_append,two_length] at n1 n2 n3
  rw [if_neg (by simp),if_neg (by omega),if_neg (by omega),hte,hst]
  simp only [n0,n1,n2,n3]
  rw [if_neg (by simp;omega)]
  obtain ⟨q,ttl,dd,pr,we,po,tg⟩:=r
  simp only at hd0
  rw [hd0]
 ·rw [if_neg h33] at hr
  simp only [decide_eq_true_eq] at hr
  obtain ⟨_,e1,e2,e3,e4⟩:=hr
  have hD:d=r.d:=by rw [hd,dataR,if_neg h33]
  rw [if_neg (by simp),if_pos h33,hD]
  obtain ⟨q,ttl,dd,pr,we,po,tg⟩:=r
  simp only at e1 e2 e3 e4
  rw [e1,e2,e3,List.eq_nil_of_length_eq_zero e4]
theorem qs_pre (s:Wr) (l:List Qn) (hl:∀ q∈l,rightN q.nm=true):Pre s.1 (qsB s l).1:=by
 induction l generalizing s with
 | nil=>exact Pre.refl _
 | cons a l ih=>exact (ask_pre s a (hl a (by simp))).trans (ih (askB s a) (fun q hq=>hl q (by simp [hq])))
theorem rs_pre (s:Wr) (l:List Rc) (hl:∀ r∈l,rightR r=true):Pre s.1 (rsB s l).1:=by
 induction l generalizing s with
 | nil=>exact Pre.refl _
 | cons a l ih=>exact (rec_pre s a (hl a (by simp))).trans (ih (recB s a) (fun q hq=>hl q (by simp [hq])))
theorem qs_of {B:List UInt8} {s:Wr} {l:List Qn} (hr:∀ q∈l,rightN q.nm=true) (hk:∀ q∈l,okQ q) (h:Pre (qsB s l).1 B):rQs B ⟨s.1.length,0⟩ l.length=(l,⟨(qsB s l).1.length,0⟩):=by
 have key:∀ k,k≤l.length→rQs B ⟨s.1.length,0⟩ k=(l.take k,⟨(qsB s (l.take k)).1.length,0⟩):=by
  intro k
  induction k with
  | zero=>intro _;rfl
  | succ k ih=>
    intro hkl
    have hm:=List.getElem_mem (l:=l) (n:=k) (by omega)
    have hp:Pre (askB (qsB s (l.take k)) l[k]).1 B:=by
     rw [←qsB_take s l k (by omega)]
     refine Pre.trans ?_ h
     have:qsB s l=qsB (qsB s (l.take (k+1))) (l.drop (k+1)):=by unfold qsB;rw [←List.foldl_append,List.take_append_drop]
     rw [this]
     exact qs_pre _ _ (fun q hq=>hr q (List.mem_of_mem_drop hq))
    rw [rQs,ih (by omega),q_of (hr _ hm) (hk _ hm) hp,qsB_take s l k (by omega),List.take_succ_eq_append_getElem (by omega)]
 have:=key l.length (Nat.le_refl _)
 rwa [List.take_length] at this
theorem rs_of {B:List UInt8} {s:Wr} {l:List Rc} (hr:∀ q∈l,rightR q=true) (hk:∀ q∈l,okR q) (h:Pre (rsB s l).1 B):rRs B ⟨s.1.length,0⟩ l.length=(l,⟨(rsB s l).1.length,0⟩):=by
 have key:∀ k,k≤l.length→rRs B ⟨s.1.length,0⟩ k=(l.take k,⟨(rsB s (l.take k)).1.length,0⟩):=by
  intro k
  induction k with
  | zero=>intro _;rfl
  | succ k ih=>
    intro hkl
    have hm:=List.getElem_mem (l:=l) (n:=k) (by omega)
    have hp:Pre (recB (rsB s (l.take k)) l[k]).1 B:=by
     rw [←rsB_take s l k (by omega)]
     refine Pre.trans ?_ h
     have:rsB s l=rsB (rsB s (l.take (k+1))) (l.drop (k+1)):=by unfold rsB;rw [←List.foldl_append,List.take_append_drop]
     rw [this]
     exact rs_pre _ _ (fun q hq=>hr q (List.mem_of_mem_drop hq))
    rw [rRs,ih (by omega),r_of (hr _ hm) (hk _ hm) hp,rsB_take s l k (by omega),List.take_succ_eq_append_getElem (by omega)]
 have:=key l.length (Nat.le_refl _)
 rwa [List.take_length] at this
theorem rightM_q {m:Ms} (h:rightM m=true):(∀ q∈m.qs,rightN q.nm=true)∧(∀ r∈m.r0,rightR r=true)∧(∀ r∈m.r1,rightR r=true)∧(∀ r∈m.r2,rightR r=true):=by
 simpa [rightM,List.all_eq_true] using h
theorem headB_length (m:Ms):(headB m).length=12:=by simp [headB,twos_length]
theorem hd_of {B:List UInt8} {l:List Nat} (h:Pre (twos l) B) (hl:∀ n∈l,n<65536) (i:Nat) (hi:i<l.length):hd B i=l[i]:=by
 have h1:Pre (twos (l.take i)++two l[i]) B:=by
  refine Pre.trans ⟨twos (l.drop (i+1)),?_⟩ h
  rw [←twos_snoc,←List.take_succ_eq_append_getElem hi]
  unfold twos
  rw [←List.flatMap_append,List.take_append_drop]
 have h2:=piece_at h1
 rw [twos_length,List.length_take,Nat.min_eq_left (by omega),two_length] at h2
 unfold hd
 have:∀ x:List UInt8,num2 x=num2 (x.take 2):=by
  intro x
  match x with
  | []=>rfl
  | [_]=>rfl
  | _ :: _ :: _=>rfl
 rw [this,h2,num2_two _ (hl _ (List.getElem_mem hi))]
theorem body_of {B:List UInt8} {m:Ms} (hr:rightM m=true) (hk:okM m) (h:Pre (formM m) B) :
 rRs B (rRs B (rRs B (rQs B ⟨12,0⟩ m.qs.length).2 m.r0.length).2 m.r1.length).2 m.r2.length=(m.r2,⟨(formM m).length,0⟩)∧
 (rRs B (rRs B (rQs B ⟨12,0⟩ m.qs.length).2 m.r0.length).2 m.r1.length).1=m.r1∧(rRs B (rQs B ⟨12,0⟩ m.qs.length).2 m.r0.length).1=m.r0∧(rQs B ⟨12,0⟩ m.qs.length).1=m.qs:=by
 obtain ⟨h0,h1,h2,h3⟩:=rightM_q hr
 have p3:Pre (rsB (rsB (rsB (qsB (headB m,[]) m.qs) m.r0) m.r1) m.r2).1 B:=h
 have p2:=(rs_pre _ _ h3).trans p3
 have p1:=(rs_pre _ _ h2).trans p2
 have p0:=(rs_pre _ _ h1).trans p1
 have e0:=qs_of h0 hk.qs p0
 have e1:=rs_of h1 hk.r0 p1
 have e2:=rs_of h2 hk.r1 p2
 have e3:=rs_of h3 hk.r2 p3
 rw [show (headB m,([]:List Int)).1.length=12 from headB_length m] at e0
 rw [e0,e1,e2,e3]
 exact ⟨rfl,rfl,rfl,rfl⟩
theorem head_pre {m:Ms} (hr:rightM m=true):Pre (headB m) (formM m):=by
 obtain ⟨h0,h1,h2,h3⟩:=rightM_q hr
 exact (qs_pre (headB m,[]) _ h0).trans ((rs_pre _ _ h1).trans ((rs_pre _ _ h2).trans (rs_pre _ _ h3)))
theorem heads_of {B:List UInt8} {m:Ms} (hr:rightM m=true) (hk:okM m) (hn:m.num≤256) (h:Pre (formM m) B) :
 hd B 0=m.id∧hd B 1=m.fl∧hd B 2=m.qs.length∧hd B 3=m.r0.length∧hd B 4=m.r1.length∧hd B 5=m.r2.length:=by
 have hp:Pre (twos [m.id,m.fl,m.qs.length,m.r0.length,m.r1.length,m.r2.length]) B:=(head_pre hr).trans h
 have hid:=hk.id
 have hfl:=hk.fl
 have hall:∀ n∈[m.id,m.fl,m.qs.length,m.r0.length,m.r1.length,m.r2.length],n<65536:=by
  unfold Ms.num at hn
  intro n hn
  simp at hn
  rcases hn with rfl | rfl | rfl | rfl | rfl | rfl <;> omega
 exact ⟨hd_of hp hall 0 (by simp),hd_of hp hall 1 (by simp),hd_of hp hall 2 (by simp),hd_of hp hall 3 (by simp),hd_of hp hall 4 (by simp),hd_of hp hall 5 (by simp)⟩
theorem read_of {B:List UInt8} {m:Ms} (hr:rightM m=true) (hk:okM m) (hn:m.num≤256) (h:Pre (formM m) B) (hB:B.length≤4096) :
 readM B=if (formM m).length<B.length then (zM,173) else (m,0):=by
 obtain ⟨c0,c1,c2,c3,c4,c5⟩:=heads_of hr hk hn h
 obtain ⟨b0,b1,b2,b3⟩:=body_of hr hk h
 have hh:=(head_pre hr).len
 rw [headB_length] at hh
 have hl:=h.len
 unfold Ms.num at hn
 unfold readM
 rw [if_neg (by omega),if_neg (by omega),c0,c1,c2,c3,c4,c5,if_neg (by omega)]
 simp only [b0,b1,b2,b3]
 by_cases hlt:(formM m).length<B.length
 ·simp [hlt]
 ·simp [hlt]
theorem read_form {m:Ms} (hr:rightM m=true) (hk:okM m) (hn:m.num≤256) (hB:(formM m).length≤4096):readM (formM m)=(m,0):=by
 rw [read_of hr hk hn (Pre.refl _) hB,if_neg (by omega)]
end Go.Proofs.YtlipmlbijddopaaGreatDoor
set_option linter.unusedVariables false
set_option linter.unusedSimpArgs false
namespace Go.Proofs.YtlipmlbijddopaaGreatDoor
open Go.RowKit
theorem WrS.vx2 {w:World} {g base:Nat} {vb vk:Value} {s:Wr} (h:WrS w g base vb vk s):∃ A1 c1 A2 c2,vb = .slice A1 s.1.length c1∧vk = .slice A2 s.2.length c2∧s.1.length≤c1:=by
 obtain ⟨A1,c1,h1,h2,_⟩:=(h.2.1.get (List.mem_cons_self)).form6 _ (bc_length _)
 obtain ⟨A2,c2,h3,_,_⟩:=(h.2.1.get (List.mem_cons_of_mem _ List.mem_cons_self)).form6 _ (ic_length _)
 exact ⟨A1,c1,A2,c2,h1,h3,h2⟩
theorem WrS.far {w w':World} {g base:Nat} {vb vk:Value} {s:Wr} (h:WrS w g base vb vk s) (hb:Below w.heap.size w w'):WrS w' g base vb vk s:=
 ⟨h.1.below hb h.1.lt,h.2.1.far hb,h.2.2.1,h.2.2.2.1,Nat.le_trans h.2.2.2.2 hb.size⟩
theorem WrS.app {w w':World} {g base:Nat} {vb vk v':Value} {b b':List UInt8} {k:List Int} (h:WrS w g base vb vk (b,k)) (hg:Gr w w' vb v') (ho:Ow w' base 5 v' (bc b')):WrS (w'.setCell ⟨g,0,none⟩ v') g base v' vk (b',k):=by
 have hn:=gr_ne hg h.2.2.1.1 h.1.lt
 exact ⟨(h.1.grown hg.1 (fun e=>h.2.2.1.1 e.symm)).set2 _,(h.2.1.app hg ho).setO (two_ne hn h.2.2.1.2) _ _,⟨hn,h.2.2.1.2⟩,h.2.2.2.1,by simpa using Nat.le_trans h.2.2.2.2 hg.1.size⟩
theorem u16_of {n:Nat} (h:n<65536):IntKind.u16.wrap (n:Int)=(n:Int):=by
 rw [IntKind.wrap_u16];omega
theorem askB_len (s:Wr) (q:Qn) (hr:rightN q.nm=true):s.1.length≤(askB s q).1.length∧(askB s q).1.length≤s.1.length+259∧(askB s q).2.length=s.2.length+1:=by
 have h:=app_reads s.1 s.2 q.nm hr
 have:=size_right hr
 simp [askB]
 omega
theorem recB_len (s:Wr) (r:Rc) (hr:rightR r=true):s.1.length≤(recB s r).1.length∧(recB s r).1.length≤s.1.length+4400∧(recB s r).2.length=s.2.length+1:=by
 have hn:rightN r.q.nm=true:=by
  unfold rightR at hr
  split at hr
  ·assumption
  ·cases hr
 have h:=askB_len s r.q hn
 have hd:=dataR_len hr
 simp [recB,twos_length]
 omega
theorem qsB_le (s:Wr) (l:List Qn) (hl:l.all (fun q=>rightN q.nm)=true):s.1.length≤(qsB s l).1.length:=by
 induction l generalizing s with
 | nil=>exact Nat.le_refl _
 | cons a l ih=>
   simp only [List.all_cons,Bool.and_eq_true] at hl
   exact Nat.le_trans (askB_len s a hl.1).1 (ih (askB s a) hl.2)
theorem rsB_le (s:Wr) (l:List Rc) (hl:l.all rightR=true):s.1.length≤(rsB s l).1.length:=by
 induction l generalizing s with
 | nil=>exact Nat.le_refl _
 | cons a l ih=>
   simp only [List.all_cons,Bool.and_eq_true] at hl
   exact Nat.le_trans (recB_len s a hl.1).1 (ih (recB s a) hl.2)
theorem qsB_split (s:Wr) (l:List Qn) (k:Nat):qsB s l=qsB (qsB s (l.take k)) (l.drop k):=by
 unfold qsB;rw [←List.foldl_append,List.take_append_drop]
theorem rsB_split (s:Wr) (l:List Rc) (k:Nat):rsB s l=rsB (rsB s (l.take k)) (l.drop k):=by
 unfold rsB;rw [←List.foldl_append,List.take_append_drop]
theorem all_drop {α:Type} {l:List α} {p:α→Bool} (h:l.all p=true) (k:Nat):(l.drop k).all p=true:=by
 rw [List.all_eq_true] at h ⊢
 exact fun x hx=>h x (List.mem_of_mem_drop hx)
theorem qsB_take_le (s:Wr) (l:List Qn) (k:Nat) (hl:l.all (fun q=>rightN q.nm)=true):(qsB s (l.take k)).1.length≤(qsB s l).1.length:=by
 rw [qsB_split s l k];exact qsB_le _ _ (all_drop hl k)
theorem rsB_take_le (s:Wr) (l:List Rc) (k:Nat) (hl:l.all rightR=true):(rsB s (l.take k)).1.length≤(rsB s l).1.length:=by
 rw [rsB_split s l k];exact rsB_le _ _ (all_drop hl k)
theorem qsB_known (s:Wr) (l:List Qn):(qsB s l).2.length=s.2.length+l.length:=by
 induction l generalizing s with
 | nil=>rfl
 | cons a l ih=>rw [show qsB s (a :: l)=qsB (askB s a) l from rfl,ih];simp [askB];omega
theorem rsB_known (s:Wr) (l:List Rc):(rsB s l).2.length=s.2.length+l.length:=by
 induction l generalizing s with
 | nil=>rfl
 | cons a l ih=>rw [show rsB s (a :: l)=rsB (recB s a) l from rfl,ih];simp [recB,askB];omega
def rowB (s:Wr) (ls:List (List Rc)):Wr:=ls.foldl rsB s
theorem rowB_snoc (s:Wr) (ls:List (List Rc)) (l:List Rc):rowB s (ls++[l])=rsB (rowB s ls) l:=by simp [rowB]
theorem rowB_le (s:Wr) (ls:List (List Rc)) (hl:∀ l∈ls,l.all rightR=true):s.1.length≤(rowB s ls).1.length:=by
 induction ls generalizing s with
 | nil=>exact Nat.le_refl _
 | cons a l ih=>exact Nat.le_trans (rsB_le s a (hl a (by simp))) (ih (rsB s a) (fun x hx=>hl x (by simp [hx])))
structure WSt (w0 w:World) (g:Nat) (x:MR) (vb vk:Value) (s:Wr):Prop where
 wr:WrS w g (w0.heap.size+1) vb vk s
 vm:Vx w w0.heap.size 72 x.cells
 bl:Below w0.heap.size w0 w
section
variable {w0 w w':World} {g:Nat} {x:MR} {vb vk vb' vk' v':Value} {s s':Wr} {b':List UInt8}
theorem WSt.kw (h:WSt w0 w g x vb vk s) (hk:KW w w' g vb vk) (hw:WrS w' g (w0.heap.size+1) vb' vk' s'):WSt w0 w' g x vb' vk' s':=by
 have h1:=(h.wr.2.1.get (List.mem_cons_self)).lt
 have h2:=(h.wr.2.1.get (List.mem_cons_of_mem _ List.mem_cons_self)).lt
 have hb:Below (w0.heap.size+1) w w':=hk.below h.wr.2.2.2.1 h1 h2 h.wr.2.2.2.2
 exact ⟨hw,h.vm.below hb (Nat.lt_succ_self _),h.bl.trans (hb.mono (Nat.le_succ _))⟩
theorem WSt.far (h:WSt w0 w g x vb vk s) (hb:Below w.heap.size w w'):WSt w0 w' g x vb vk s:=h.kw (KW.of_below hb) (h.wr.far hb)
theorem WSt.app (h:WSt w0 w g x vb vk s) (hg:Gr w w' vb v') (ho:Ow w' (w0.heap.size+1) 5 v' (bc b')):WSt w0 (w'.setCell ⟨g,0,none⟩ v') g x v' vk (b',s.2):=
 h.kw (((KW.of_below (Below.refl _ _)).gr hg (fun q e=>Or.inl e)).setG 0 v') (WrS.app (b:=s.1) (k:=s.2) h.wr hg ho)
theorem WSt.vxg (h:WSt w0 w g x vb vk s) (hg:Gr w w' vb v'):Vx w' g 156 [vb,vk]:=
 h.wr.1.grown hg.1 (fun e=>h.wr.2.2.1.1 e.symm)
end
theorem Rd.setO2 {w:World} {A:Option Addr} {n g:Nat} {xs:List Value} (h:Rd w w.heap.size A n xs) (hof:0<n→∀ a,A=some a→a.block≠g) (k:Nat) (u:Value):Rd (w.setCell ⟨g,k,none⟩ u) (w.setCell ⟨g,k,none⟩ u).heap.size A n xs:=by
 refine ⟨h.1,fun hn=>?_⟩
 obtain ⟨b,o,rfl,hb,hc⟩:=h.2 hn
 refine ⟨b,o,rfl,by simpa using hb,fun j u hu=>?_⟩
 rw [World.cell?_setCell_other _ _ _ _ (by intro e;injection e with e1;exact hof hn _ rfl e1.symm)]
 exact hc j u hu
theorem WSt.box {w0 w w':World} {g:Nat} {x:MR} {vb vk:Value} {s:Wr} (h:WSt w0 w g x vb vk s) {o:Obj} (hk:KW (w.alloc o) w' g vb vk):w'.heap[w.heap.size]? = some o:=by
 rw [hk.block w.heap.size (by simp) (fun e=>by have:=h.wr.1.lt;omega) (fun e=>by have:=ow_block_lt (h.wr.2.1.get (List.mem_cons_self)) _ e;omega) (fun e=>by have:=ow_block_lt (h.wr.2.1.get (List.mem_cons_of_mem _ List.mem_cons_self)) _ e;omega)]
 exact heap_alloc_new w o
theorem resW {x:MR} (h:rightM x.m=true):(∀ q∈x.qs,rightN q.q.nm=true)∧(∀ r∈x.r0,rightR r.r=true)∧(∀ r∈x.r1,rightR r.r=true)∧(∀ r∈x.r2,rightR r.r=true):=by
 simpa [rightM,MR.m,List.all_eq_true] using h
def MR.rA (x:MR):Nat→Option Addr
 | 0=>x.aA
 | 1=>x.bA
 | _=>x.cA
def MR.rc (x:MR):Nat→Nat
 | 0=>x.ac
 | 1=>x.bc
 | _=>x.cc
def MR.rl (x:MR):Nat→List RR
 | 0=>x.r0
 | 1=>x.r1
 | _=>x.r2
def MR.ls (x:MR):List (List Rc):=[x.r0.map RR.r,x.r1.map RR.r,x.r2.map RR.r]
theorem idx3_x (x:MR) (W:World) (i:Nat) (hi:i<3):(Instr.index 70 (.agg #[.slice x.aA x.r0.length x.ac,.slice x.bA x.r1.length x.bc,.slice x.cA x.r2.length x.cc]) (.int .i64 (i:Int))).run Tryz.prog W = .ok (.slice (x.rA i) (x.rl i).length (x.rc i)) W:=by
 rcases (show i=0∨i=1∨i=2 by omega) with rfl | rfl | rfl
 ·exact idx3_0 W _ _ _
 ·exact idx3_1 W _ _ _
 ·exact idx3_2 W _ _ _
theorem MRd.rl {w:World} {B:Nat} {x:MR} (h:MRd w B x) (i:Nat):RsRd w B (x.rA i) (x.rc i) (x.rl i).length (x.rl i):=by
 match i with
 | 0=>exact h.2.2.2.1
 | 1=>exact h.2.2.2.2.1
 | _+2=>exact h.2.2.2.2.2
theorem MR.rl_right {x:MR} (h:rightM x.m=true) (i:Nat):∀ r∈x.rl i,rightR r.r=true:=by
 match i with
 | 0=>exact (resW h).2.1
 | 1=>exact (resW h).2.2.1
 | _+2=>exact (resW h).2.2.2
theorem MR.ls_get (x:MR) (i:Nat) (hi:i<3):x.ls.take (i+1)=x.ls.take i++[(x.rl i).map RR.r]:=by
 rcases (show i=0∨i=1∨i=2 by omega) with rfl | rfl | rfl <;> rfl
theorem body_row (x:MR):bodyB x.m=rowB (qsB (headB x.m,[]) (x.qs.map QR.q)) x.ls:=rfl
def headK (x:MR) (k:Nat):List UInt8:=twos ([x.id,x.fl,x.qs.length]++[x.r0.length,x.r1.length,x.r2.length].take k)
theorem headK_le (x:MR) (k:Nat):(headK x k).length≤12:=by
 unfold headK
 rw [twos_length,List.length_append,List.length_take]
 simp only [List.length_cons,List.length_nil]
 omega
theorem headK_3 (x:MR):headK x 3=headB x.m:=by simp [headK,headB,MR.m]
theorem rowB_known (s:Wr) (ls:List (List Rc)):(rowB s ls).2.length=s.2.length+(ls.map List.length).sum:=by
 induction ls generalizing s with
 | nil=>rfl
 | cons a l ih=>
   rw [show rowB s (a :: l)=rowB (rsB s a) l from rfl,ih,rsB_known,List.map_cons,List.sum_cons]
   omega
theorem known_le (x:MR) (i j:Nat) (hi:i<3) (hj:j≤(x.rl i).length):(rsB (rowB (qsB (headB x.m,[]) (x.qs.map QR.q)) (x.ls.take i)) (((x.rl i).map RR.r).take j)).2.length≤x.qs.length+x.r0.length+x.r1.length+x.r2.length:=by
 rw [rsB_known,rowB_known,qsB_known,List.length_take,List.length_map,List.length_map]
 rcases (show i=0∨i=1∨i=2 by omega) with rfl | rfl | rfl
 ·simp [MR.ls,MR.rl];simp only [MR.rl] at hj;omega
 ·simp [MR.ls,MR.rl];simp only [MR.rl] at hj;omega
 ·simp [MR.ls,MR.rl];simp only [MR.rl] at hj;omega
set_option maxRecDepth 100000 in
set_option maxHeartbeats 1000000 in
theorem write_bad (x:MR) (w:World) (h:MRd w w.heap.size x) (hb:rightM x.m=false∨256<x.m.num) :
 Calls Tryz.prog 36 #[.agg x.cells.toArray] w fun e w'=>e = .returned (.tuple #[.slice none 0 0,.int .i64 ((writeM x.m).2:Int)])∧Below w.heap.size w w':=by
 have HH:=Lib.hid h
 clear h
 have hb1:=(fun o=>(Below.refl w.heap.size w).alloc (Nat.le_refl _) o) (.cells x.cells.toArray 72)
 by_cases hr:rightM x.m=true
 ·have h256:256<x.m.num:=by rcases hb with h | h;(rw [h] at hr;cases hr);exact h
  have hw:(writeM x.m).2=5:=by simp [writeM,hr,h256]
  rw [hw]
  have h256':(256:Int)<(x.m.num:Int):=by omega
  clear hb hw
  go_enter Tryz.func36,Tryz.ntmps36
  go_wp2_with (first
   | (refine wpList_load_row rfl 72 _ rfl w.heap.size rfl _ _ _ _ (Vx.new w 72 x.cells) Tryz.underlying72 rfl (by kernel_rfl) ?_)
   | (go_at_call 86;refine (fits_at x _ ((HH.out.below hb1).more (by simp))).mono ?_;rintro e w2 ⟨rfl,hb2⟩))
  go_ret2
  exact ⟨rfl,hb1.trans (hb2.mono (by simp))⟩
 ·have hr':rightM x.m=false:=Bool.eq_false_iff.2 hr
  have hw:(writeM x.m).2=170:=by simp [writeM,hr']
  rw [hw]
  clear hb hw
  go_enter Tryz.func36,Tryz.ntmps36
  go_wp2_with (first
   | (refine wpList_load_row rfl 72 _ rfl w.heap.size rfl _ _ _ _ (Vx.new w 72 x.cells) Tryz.underlying72 rfl (by kernel_rfl) ?_)
   | (go_at_call 86;refine (fits_at x _ ((HH.out.below hb1).more (by simp))).mono ?_;rintro e w2 ⟨rfl,hb2⟩))
  go_ret2
  exact ⟨rfl,hb1.trans (hb2.mono (by simp))⟩
theorem all_map {α β:Type} {l:List α} {f:α→β} {p:β→Bool} (h:∀ x∈l,p (f x)=true):(l.map f).all p=true:=by
 rw [List.all_eq_true]
 intro y hy
 obtain ⟨x,hx,rfl⟩:=List.mem_map.1 hy
 exact h x hx
theorem ls_right {x:MR} (h:rightM x.m=true):∀ l∈x.ls,l.all rightR=true:=by
 intro l hl
 simp only [MR.ls,List.mem_cons,List.not_mem_nil,or_false] at hl
 rcases hl with rfl | rfl | rfl
 ·exact all_map (resW h).2.1
 ·exact all_map (resW h).2.2.1
 ·exact all_map (resW h).2.2.2
theorem q_le_form {x:MR} (h:rightM x.m=true):(qsB (headB x.m,[]) (x.qs.map QR.q)).1.length≤(formM x.m).length:=by
 show _≤(bodyB x.m).1.length
 rw [body_row]
 exact rowB_le _ _ (ls_right h)
theorem long_q {x:MR} (h:rightM x.m=true) (k:Nat) (hl:4096<(qsB (headB x.m,[]) ((x.qs.map QR.q).take k)).1.length):4096<(formM x.m).length:=by
 have h1:=qsB_take_le (headB x.m,[]) (x.qs.map QR.q) k (all_map (resW h).1)
 have h2:=q_le_form h
 omega
theorem rowB_split (s:Wr) (ls:List (List Rc)) (k:Nat):rowB s ls=rowB (rowB s (ls.take k)) (ls.drop k):=by
 unfold rowB;rw [←List.foldl_append,List.take_append_drop]
theorem long_r {x:MR} (h:rightM x.m=true) (i j:Nat) (hi:i<3) (hl:4096<(rsB (rowB (qsB (headB x.m,[]) (x.qs.map QR.q)) (x.ls.take i)) (((x.rl i).map RR.r).take j)).1.length):4096<(formM x.m).length:=by
 have h1:=rsB_take_le (rowB (qsB (headB x.m,[]) (x.qs.map QR.q)) (x.ls.take i)) ((x.rl i).map RR.r) j (all_map (x.rl_right h i))
 have e:rowB (qsB (headB x.m,[]) (x.qs.map QR.q)) (x.ls.take (i+1))=rsB (rowB (qsB (headB x.m,[]) (x.qs.map QR.q)) (x.ls.take i)) ((x.rl i).map RR.r):=by rw [x.ls_get i hi,rowB_snoc]
 rw [←e] at h1
 have h2:=rowB_le (rowB (qsB (headB x.m,[]) (x.qs.map QR.q)) (x.ls.take (i+1))) (x.ls.drop (i+1)) (fun l hl=>ls_right h l (List.mem_of_mem_drop hl))
 rw [←rowB_split,←body_row] at h2
 have:(formM x.m).length=(bodyB x.m).1.length:=rfl
 omega
set_option maxRecDepth 100000 in
set_option maxHeartbeats 4000000 in
theorem write_main (x:MR) (w:World) (h:MRd w w.heap.size x) (hr:rightM x.m=true) (hn:x.m.num≤256) :
 Calls Tryz.prog 36 #[.agg x.cells.toArray] w fun e w'=>∃ v,e = .returned (.tuple #[v,.int .i64 ((writeM x.m).2:Int)])∧Ow w' w.heap.size 5 v (bc (writeM x.m).1)∧Below w.heap.size w w':=by
 have hW:writeM x.m=if 4096<(formM x.m).length then ([],3) else (formM x.m,0):=by
  unfold writeM
  rw [if_neg (by rw [hr];simp),if_neg (by omega)]
 obtain ⟨rr,hrr⟩:∃ rr,rr=writeM x.m:=⟨_,rfl⟩
 rw [←hrr] at hW ⊢
 have HW:=Lib.hid hW
 clear hrr hW
 have hn':x.qs.length+x.r0.length+x.r1.length+x.r2.length≤256:=by simpa [Ms.num,MR.m] using hn
 have hid:=h.1
 have hfl:=h.2.1
 have HH:=Lib.hid h
 clear h
 have hb1:=(fun o=>(Below.refl w.heap.size w).alloc (Nat.le_refl _) o) (.cells x.cells.toArray 72)
 have hwr0:IntKind.u16.wrap (x.qs.length:Int)=(x.qs.length:Int):=u16_of (by omega)
 have hn2:(x.m.num:Int)≤256:=by omega
 go_enter Tryz.func36,Tryz.ntmps36
 go_upto_region 7 with (first
  | (go_at_call 87
     refine (numbers_at (.slice none 0 0) [] (w.heap.size+1) _ _ 3 [x.id,x.fl,x.qs.length] _ (Ow.nil _ _ _) (Rd.lit_top w2 _ (uc [x.id,x.fl,x.qs.length]) 3 _ rfl rfl (by simp [maxLen])) rfl (by simp;omega) (by have:=hb2.size;simp at this ⊢;omega) (Off.none _ _ _) (by simp)).mono ?_
     rintro e w3 ⟨v3,rfl,ho3,hg3⟩
     rw [show ([]:List UInt8)++twos [x.id,x.fl,x.qs.length]=headK x 0 from rfl] at ho3
     obtain ⟨A3,c3',rfl,hc3,hr3⟩:=ho3.form6 _ (bc_length _))
  | (refine wpList_load_row rfl 72 _ rfl w.heap.size rfl _ _ _ _ (Vx.new w 72 x.cells) Tryz.underlying72 rfl (by kernel_rfl) ?_)
  | (go_at_call 86;refine (fits_at x _ ((HH.out.below hb1).more (by simp))).mono ?_;rintro e w2 ⟨rfl,hb2⟩;obtain ⟨c0,c1,c2,c3,c4,c5⟩:=(Vx.below (Vx.new w 72 x.cells) hb2 (by simp)).c6))
 have hB2:Below w.heap.size w w2:=hb1.trans (hb2.mono (by simp))
 have hB23:Below w2.heap.size w2 w3:=((Below.refl _ w2).alloc (Nat.le_refl _) _).trans (hg3.below0.mono (by simp))
 have hM3:Vx w3 w.heap.size 72 x.cells:=(Vx.below (Vx.new w 72 x.cells) hb2 (by simp)).below hB23 (by have:=hb2.size;simp at this;omega)
 have hs23:=hB23.size
 have hs2:=hb2.size
 rw [World.size_alloc] at hs2
 obtain ⟨g,hg⟩:∃ g,g=w3.heap.size:=⟨_,rfl⟩
 have hS4:WSt w (w3.alloc (.cells #[.slice A3 (headK x 0).length c3',.slice none 0 0] 156)) g x (.slice A3 (headK x 0).length c3') (.slice none 0 0) (headK x 0,[]):=by
  refine ⟨⟨?_,?_,⟨?_,by simp [Value.ownBlock]⟩,by omega,?_⟩,hM3.alloc _,(hB2.trans (hB23.mono (by omega))).alloc (by omega) _⟩
  ·rw [hg];exact Vx.new w3 _ _
  ·refine ⟨fun y hy=>?_,?_⟩
   ·simp only [List.mem_cons,List.not_mem_nil,or_false] at hy
    rcases hy with rfl | rfl
    ·exact ho3.alloc _
    ·exact Ow.nil _ _ _
   ·refine List.pairwise_cons.2 ⟨fun y hy q h1 h2=>?_,List.pairwise_singleton _ _⟩
    rw [List.mem_singleton.1 hy] at h2
    simp [Value.ownBlock] at h2
  ·intro e
   have:=ow_block_lt ho3 g e
   omega
  ·simp;omega
 rw [←hg]
 generalize w3.alloc (.cells #[.slice A3 (headK x 0).length c3',.slice none 0 0] 156)=w4 at *
 have HS4:=Lib.hid hS4
 clear hS4 hg hs2 hs23 hM3 hB23 hB2 hr3 hg3 ho3 hb2 hb1 c0 c1 c2 c3 c4 c5
 obtain ⟨m0,m1,m2,m3,m4,m5⟩:=HS4.out.vm.c6
 go_wp2_with fail
 clear m0 m1 m2 m3 m4 m5
 go_loopw [8,41] (fun _ vi wr=>∃ (k:Nat) (vb:Value),k≤3∧vi = .int .i64 k∧Hid (WSt w wr g x vb (.slice none 0 0) (headK x k,[]))) (fun _ i _=>3 - (intOf i).toNat)
 case atStart=>exact ⟨0,_,by omega,rfl,HS4⟩
 case round=>
  clear HS4
  obtain ⟨k,vb,hk,rfl,HS⟩:=hrel
  rcases Nat.lt_or_ge k 3 with hk3 | hk3
  ·have hix:=fun W=>idx3_x x W k hk3
   obtain ⟨A1,c1,A2,c2,rfl,_,hc1⟩:=HS.out.wr.vx2
   obtain ⟨k0,k1⟩:=HS.out.wr.1.c2
   have hO1:=HS.out.wr.2.1.get (List.mem_cons_self)
   have hll:(x.rl k).length≤256:=by
    rcases (show k=0∨k=1∨k=2 by omega) with rfl | rfl | rfl <;> simp only [MR.rl] <;> omega
   have hwr:IntKind.u16.wrap ((x.rl k).length:Int)=((x.rl k).length:Int):=u16_of (by omega)
   have hbs:=HS.out.wr.2.2.2.2
   have hhl:=headK_le x k
   simp only at k0 hO1
   have hS5:=HS.out.far (below_new wr (.cells (uc [(x.rl k).length]).toArray 25))
   have k6:=numbers_at (.slice A1 (headK x k).length c1) (headK x k) (w.heap.size+1) (some ⟨wr.heap.size,0,none⟩) 1 1 [(x.rl k).length] (wr.alloc (.cells (uc [(x.rl k).length]).toArray 25)) (hO1.alloc _) (Rd.lit_top wr 25 (uc [(x.rl k).length]) 1 _ rfl rfl (by simp [maxLen])) rfl (by simp;omega) (by simp;omega) (Off.lit hO1) (by omega)
   have hk':headK x k++twos [(x.rl k).length]=headK x (k+1):=by
    rcases (show k=0∨k=1∨k=2 by omega) with rfl | rfl | rfl <;> simp [headK,MR.rl,twos]
   rw [hk'] at k6
   have K6:=Lib.hid k6
   clear hk'
   have HS5:=Lib.hid hS5
   clear k6 hS5
   go_wp2_with (go_at_call 87
                refine K6.out.mono ?_
                rintro e w5 ⟨v5,rfl,ho5,hg5⟩
                obtain ⟨A5,c5,rfl,hc5,hr5⟩:=ho5.form6 _ (bc_length _)
                obtain ⟨n0,n1⟩:=(HS5.out.vxg hg5).c2
                have f0:=(HS5.out.vxg hg5).free 0)
   go_roundw
   case rel=>
    exact ⟨k+1,.slice A5 (headK x (k+1)).length c5,by omega,by go_num,Lib.hid (HS5.out.app hg5 ho5)⟩
   case measure=>simp [intOf];omega
  ·have hk':k=3:=by omega
   obtain ⟨m0,m1,m2,m3,m4,m5⟩:=HS.out.vm.c6
   have hle:=headK_le x 3
   rw [hk',headK_3] at HS
   rw [headK_3] at hle
   clear hk'
   obtain ⟨Q,hQ⟩:∃ Q,Q=x.qs.map QR.q:=⟨_,rfl⟩
   have hQl:Q.length=x.qs.length:=by rw [hQ,List.length_map]
   have HQ:=Lib.hid hQ
   have HQL:=Lib.hid hQl
   clear hQ hQl
   go_wp2_with fail
   generalize decide ((k:Int)<3)=d42
   generalize (k:Int)=i41
   clear m0 m1 m2 m3 m4 m5 hk hk3
   have HQ0:=Lib.hid HH.out.2.2.1
   generalize x.qA=qa at HQ0 ⊢
   go_loopw [10,60] (fun _ vi wr=>∃ (k:Nat) (vb vk:Value),k≤x.qs.length∧vi = .int .i64 k∧Hid (WSt w wr g x vb vk (qsB (headB x.m,[]) (Q.take k)))∧(qsB (headB x.m,[]) (Q.take k)).1.length≤8600) (fun _ i _=>x.qs.length - (intOf i).toNat)
   case atStart=>exact ⟨0,_,_,Nat.zero_le _,rfl,HS,by rw [List.take_zero];exact Nat.le_trans hle (by omega)⟩
   case round=>
    clear HS
    obtain ⟨k,vb,vk,hk,rfl,HS,hsl⟩:=hrel
    rcases Nat.lt_or_ge k x.qs.length with hlt | hge
    ·have hkq:k<Q.length:=by rw [HQL.out];exact hlt
     obtain ⟨A1,c1,A2,c2,rfl,rfl,hc1⟩:=HS.out.wr.vx2
     obtain ⟨k0,k1⟩:=HS.out.wr.1.c2
     have HQs:=Lib.hid (HQ0.out.below HS.out.bl)
     obtain ⟨bq,oq,rfl,_,hqc⟩:=HQs.out.at_ hlt
     obtain ⟨q0,q1,q2⟩:=hqc hlt
     have hqm:=HQs.out.2.2.2.2 _ (List.getElem_mem hlt)
     clear hqc
     obtain ⟨s,hs⟩:∃ s,s=qsB (headB x.m,[]) (Q.take k):=⟨_,rfl⟩
     rw [←hs] at HS hsl k0 k1 hc1
     have HSs:=Lib.hid hs
     have HQM:=Lib.hid hqm
     clear hs hqm
     have hgl:=HS.out.wr.1.lt
     have hbw:=HS.out.bl.size
     by_cases hlong:4096<s.1.length
     ·have hlong':(4096:Int)<(s.1.length:Int):=by omega
      have hbig:4096<(formM x.m).length:=long_q hr k (by rw [←HQ.out,←HSs.out];exact hlong)
      have hrr:rr=([],3):=by rw [HW.out,if_pos hbig]
      clear HW
      subst hrr
      go_wp2_with fail
      go_ret2
      exact ⟨_,rfl,Ow.nil _ _ _,HS.out.bl.alloc (by omega) _⟩
     ·have hlong':(s.1.length:Int)≤4096:=by omega
      have hs2:s.2.length≤300:=by
       rw [HSs.out,qsB_known,List.length_take]
       simp only [List.length_nil]
       omega
      have hb5:=below_new wr (.cells x.qs[k].cells.toArray 76)
      have k6:=asked_at g (w.heap.size+1) w.heap.size _ _ s x.qs[k] _ (HS.out.wr.far hb5) (HQM.out.below (hb5.mono (by have:=HS.out.bl.size;omega))) (by omega) ((resW hr).1 _ (List.getElem_mem hlt)) (by omega) hs2
      have HS5:=Lib.hid (HS.out.far hb5)
      have K6:=Lib.hid k6
      clear k6 hb5 hs2
      go_wp2_with (go_at_call 88
                   refine K6.out.mono ?_
                   rintro e w5 ⟨rfl,vb5,vk5,hW5,hK5⟩)
      have HS6:=Lib.hid (HS5.out.kw hK5 hW5)
      go_roundw
      case rel=>
       have hal:=askB_len s x.qs[k].q ((resW hr).1 _ (List.getElem_mem hlt))
       have he:qsB (headB x.m,[]) (Q.take (k+1))=askB s x.qs[k].q:=by
        rw [qsB_take _ _ _ hkq,←HSs.out]
        congr 1
        have:=HQ.out
        subst this
        simp
       refine ⟨k+1,vb5,vk5,by omega,by go_num,Lib.hid ?_,?_⟩
       ·rw [he];exact HS6.out
       ·rw [he];omega
      case measure=>simp [intOf];omega
    ·have hk':k=x.qs.length:=by omega
     subst hk'
     obtain ⟨m0,m1,m2,m3,m4,m5⟩:=HS.out.vm.c6
     rw [List.take_of_length_le (by have:=HQL.out;omega)] at HS hsl
     obtain ⟨S0,hS0⟩:∃ S0,S0=qsB (headB x.m,[]) Q:=⟨_,rfl⟩
     rw [←hS0] at HS hsl
     have HS0:=Lib.hid hS0
     clear hS0
     go_wp2_with fail
     clear m0 m1 m2 m3 m4 m5
     go_loopw [12,14,15,76,81] (fun _ _ _ vi _ wr=>∃ (i:Nat) (vb vk:Value),i≤3∧vi = .int .i64 i∧Hid (WSt w wr g x vb vk (rowB S0 (x.ls.take i)))∧(rowB S0 (x.ls.take i)).1.length≤8600) (fun _ _ _ i _ _=>3 - (intOf i).toNat)
     case atStart=>exact ⟨0,_,_,Nat.zero_le _,rfl,HS,hsl⟩
     case round=>
      clear HS
      obtain ⟨i,vb,vk,hi,rfl,HS,hsl⟩:=hrel
      rcases Nat.lt_or_ge i 3 with hi3 | hi3
      ·have hix:=fun W=>idx3_x x W i hi3
       have hll:(x.rl i).length≤256:=by
        rcases (show i=0∨i=1∨i=2 by omega) with rfl | rfl | rfl <;> simp only [MR.rl] <;> omega
       obtain ⟨L,hL⟩:∃ L,L=(x.rl i).map RR.r:=⟨_,rfl⟩
       obtain ⟨Si,hSi⟩:∃ Si,Si=rowB S0 (x.ls.take i):=⟨_,rfl⟩
       rw [←hSi] at HS hsl
       have hLl:L.length=(x.rl i).length:=by rw [hL,List.length_map]
       have HL:=Lib.hid hL
       have HLl:=Lib.hid hLl
       have HSi:=Lib.hid hSi
       have HR0:=Lib.hid (HH.out.rl i)
       clear hL hLl hSi
       go_wp2_with fail
       generalize x.rA i=ra at HR0 ⊢
       clear hix
       try generalize decide ((i:Int)<3)=d77
       go_loopw [14,15,81] (fun _ _ vj wr=>∃ (j:Nat) (vb vk:Value),j≤(x.rl i).length∧vj = .int .i64 j∧Hid (WSt w wr g x vb vk (rsB Si (L.take j)))∧(rsB Si (L.take j)).1.length≤8600) (fun _ _ j _=>(x.rl i).length - (intOf j).toNat)
       case atStart=>exact ⟨0,_,_,Nat.zero_le _,rfl,HS,hsl⟩
       case round=>
        clear HS
        obtain ⟨j,vb,vk,hj,rfl,HS,hsl⟩:=hrel
        rcases Nat.lt_or_ge j (x.rl i).length with hlt | hge
        ·have hjl:j<L.length:=by rw [HLl.out];exact hlt
         obtain ⟨A1,c1,A2,c2,rfl,rfl,hc1⟩:=HS.out.wr.vx2
         obtain ⟨k0,k1⟩:=HS.out.wr.1.c2
         have HRs:=Lib.hid (HR0.out.below HS.out.bl)
         obtain ⟨bq,oq,rfl,_,hqc⟩:=HRs.out.at_ hlt
         have h9:=hqc hlt
         have hqm:=HRs.out.2.2.2.2 _ (List.getElem_mem hlt)
         have hrr0:=x.rl_right hr i _ (List.getElem_mem hlt)
         obtain ⟨r,hrj⟩:∃ r,r=(x.rl i)[j]:=⟨_,rfl⟩
         have hqw:=HR0.out.2.2.2.2 _ (List.getElem_mem hlt)
         rw [←hrj] at h9 hqm hrr0 hqw
         have HQW:=Lib.hid hqw
         clear hqw
         obtain ⟨c0',c1',c2',c3',c4',c5',c6',c7',c8'⟩:=h9.cells
         clear hqc h9
         obtain ⟨s,hs⟩:∃ s,s=rsB Si (L.take j):=⟨_,rfl⟩
         rw [←hs] at HS hsl k0 k1 hc1
         have HSs:=Lib.hid hs
         have HQM:=Lib.hid hqm
         have HRJ:=Lib.hid hrj
         have HRR:=Lib.hid hrr0
         clear hs hqm hrj hrr0
         have hgl:=HS.out.wr.1.lt
         have hbw:=HS.out.bl.size
         by_cases hlong:4096<s.1.length
         ·have hlong':(4096:Int)<(s.1.length:Int):=by omega
          have hbig:4096<(formM x.m).length:=long_r hr i j hi3 (by rw [←HQ.out,←HL.out,←HS0.out,←HSi.out,←HSs.out];exact hlong)
          have hrr:rr=([],3):=by rw [HW.out,if_pos hbig]
          clear HW
          subst hrr
          go_wp2_with fail
          go_ret2
          exact ⟨_,rfl,Ow.nil _ _ _,HS.out.bl.alloc (by omega) _⟩
         ·have hlong':(s.1.length:Int)≤4096:=by omega
          have hs2:s.2.length≤300:=by
           have h1:=known_le x i j hi3 hj
           rw [←HQ.out,←HL.out,←HS0.out,←HSi.out,←HSs.out] at h1
           omega
          have hb5:=below_new wr (.cells r.cells.toArray 88)
          have k6:=asked_at g (w.heap.size+1) w.heap.size _ _ s r.qr _ (HS.out.wr.far hb5) (HQM.out.1.below (hb5.mono (by omega))) (by omega) (rightR_nm HRR.out) (by omega) hs2
          have K6:=Lib.hid k6
          clear k6 hs2
          go_upto_region 29 with (first
           | (go_at_call 89
              refine (data_at r w5 ((HQW.out.below (hS5.bl)).more hS5.bl.size) HRR.out).mono ?_
              rintro e w6 ⟨Ad,cd,rfl,hcd,hrd,hb6,hdd⟩)
           | (go_at_call 88
              refine K6.out.mono ?_
              rintro e w5 ⟨rfl,vb5,vk5,hW5,hK5⟩
              have hVO:Vx w5 wr.heap.size 88 r.cells:=HS.out.box hK5
              have hS5:=(HS.out.far hb5).kw hK5 hW5)
           | (refine wpList_load_row rfl 88 _ rfl wr.heap.size rfl _ _ _ _ hVO Tryz.underlying88 rfl (by kernel_rfl) ?_))
          have hap:0<(dataR r.r).length→∀ a,Ad=some a→vb5.ownBlock≠some a.block∧a.block≠g:=by
           intro hp a ha
           have hlo:=(hS5.wr.2.1.get (List.mem_cons_self)).lt
           have hgb:=hS5.wr.2.2.2.1
           rcases hdd with ⟨e1,e2⟩ | h
           ·obtain ⟨b',o',e3,hb',_⟩:=HQW.out.2.1.1.2 (by rw [←e2];exact hp)
            rw [e1,e3] at ha
            have:=Option.some.inj ha
            subst this
            exact ⟨fun e=>by have:=hlo _ e;simp at this;omega,by show b'≠g;omega⟩
           ·have h1:=h a ha
            exact ⟨fun e=>by have:=ow_block_lt (hS5.wr.2.1.get (List.mem_cons_self)) _ e;omega,by have:=hS5.wr.1.lt;omega⟩
          have HS6:=Lib.hid (hS5.far hb6)
          have HVO:=Lib.hid (hVO.below hb6 hVO.lt)
          have HRD:=Lib.hid hrd
          have hal:=askB_len s r.r.q (rightR_nm HRR.out)
          have hdl:=dataR_len HRR.out
          have httl:=HQW.out.2.2.2.1
          clear hS5 hVO hrd hb6 hW5 hK5 K6 hb5 HS c0' c1' c2' c3' c4' c5' c6' c7' c8' k0 k1
          obtain ⟨D,hD⟩:∃ D,D=dataR r.r:=⟨_,rfl⟩
          rw [←hD] at HRD hdl hcd hap
          have HAP:=Lib.hid hap
          clear hap hdd
          rw [←hD]
          obtain ⟨s5,hs5⟩:∃ s5,s5=askB s r.r.q:=⟨_,rfl⟩
          rw [←hs5] at hal
          rw [show r.qr.q=r.r.q from rfl,←hs5] at HS6
          have HD:=Lib.hid hD
          have HS5e:=Lib.hid hs5
          clear hD hs5
          obtain ⟨A5,c5,A6,c6,rfl,rfl,hc5⟩:=HS6.out.wr.vx2
          obtain ⟨k0,k1⟩:=HS6.out.wr.1.c2
          obtain ⟨_,_,_,q3,_,_,_,_,_⟩:=HVO.out.c9
          have hO1:=HS6.out.wr.2.1.get (List.mem_cons_self)
          have hg6:=HS6.out.wr.1.lt
          have hO6:=HVO.out.lt
          have hbs:=HS6.out.wr.2.2.2.2
          have hwD:IntKind.u16.wrap (D.length:Int)=(D.length:Int):=u16_of (by omega)
          obtain ⟨hi',hhi⟩:∃ n,n=r.r.ttl / 65536:=⟨_,rfl⟩
          obtain ⟨lo',hlo⟩:∃ n,n=r.r.ttl % 65536:=⟨_,rfl⟩
          have hw1:IntKind.u16.wrap ((r.r.ttl:Int) / 65536)=(hi':Int):=by rw [IntKind.wrap_u16];omega
          have hw2:IntKind.u16.wrap (r.r.ttl:Int)=(lo':Int):=by rw [IntKind.wrap_u16];omega
          have hl1:hi'<65536:=by omega
          have hl2:lo'<65536:=by omega
          have HHI:=Lib.hid hhi
          have HLO:=Lib.hid hlo
          clear hhi hlo httl
          obtain ⟨BB,hBB⟩:∃ BB,BB=s5.1++twos [hi',lo',D.length]:=⟨_,rfl⟩
          have hBl:BB.length≤4400:=by rw [hBB,List.length_append,twos_length];simp only [List.length_cons,List.length_nil];omega
          have k7:=numbers_at (.slice A5 s5.1.length c5) s5.1 (w.heap.size+1) (some ⟨w6.heap.size,0,none⟩) 3 3 [hi',lo',D.length] (w6.alloc (.cells (uc [hi',lo',D.length]).toArray 25)).drew (hO1.alloc _) (Rd.lit_top w6 25 (uc [hi',lo',D.length]) 3 _ rfl rfl (by simp [maxLen])) rfl (by simp;omega) (by show _≤(w6.alloc _).heap.size;simp;omega) (Off.lit hO1) (by omega)
          rw [←hBB] at k7
          have K7:=Lib.hid k7
          have HBB:=Lib.hid hBB
          have HS7:=Lib.hid (HS6.out.far ((below_new w6 (.cells (uc [hi',lo',D.length]).toArray 25)).drew))
          have HRD7:=Lib.hid (HRD.out.goes ((below_new w6 (.cells (uc [hi',lo',D.length]).toArray 25)).drew))
          clear k7 hBB
          go_cut [15] from 97 to 115 (fun v15 wx=>v15 = .slice Ad D.length cd∧∃ A7 c7,Hid (WSt w wx g x (.slice A7 BB.length c7) (.slice A6 s5.2.length c6) (BB,s5.2))∧Hid (Rd wx wx.heap.size Ad D.length (bc D)))
          case first=>
           go_region_with (go_at_call 87
                           refine K7.out.mono ?_
                           rintro e w7 ⟨v7,rfl,ho7,hg7⟩
                           obtain ⟨A7,c7,rfl,hc7,hr7⟩:=ho7.form6 _ (bc_length _)
                           obtain ⟨n0,n1⟩:=(HS7.out.vxg hg7).c2
                           have f0:=(HS7.out.vxg hg7).free 0)
           all_goals (go_wp2_with fail;go_meet)
           all_goals
            refine ⟨rfl,A7,c7,Lib.hid (HS7.out.app hg7 ho7),Lib.hid ?_⟩
            ·exact (HRD7.out.grA hg7 (fun hp a ha=>(HAP.out hp a ha).1)).setO2 (fun hp a ha=>(HAP.out hp a ha).2) _ _
          case rest=>
           clear HS7 HRD7 K7 HS6 HRD HVO k0 k1 q3 hO1 hg6 hO6 hbs hwD hw1 hw2
           obtain ⟨rfl,A7,c7,HS7,HRD7⟩:=hcut
           obtain ⟨k0,k1⟩:=HS7.out.wr.1.c2
           have hO7:=HS7.out.wr.2.1.get (List.mem_cons_self)
           have hbs:=HS7.out.wr.2.2.2.2
           obtain ⟨i0,hi,hz0,hz1,hz2⟩:=info_parts Tryz.infoByte
           simp only at hO7
           obtain ⟨CC,hCC⟩:∃ CC,CC=BB++D:=⟨_,rfl⟩
           have hCl:CC.length≤8600:=by rw [hCC,List.length_append];omega
           have HCC:=Lib.hid hCC
           clear hCC
           go_wp2_with (at_builtin;refine wpList_app _ rfl _ _ _ _ rfl (w.heap.size+1) 5 i0 (.int .u8 0) 1 Tryz.underlying22 hi hz0 hz1 hz2 rfl (Nat.le_refl _) _ _ hO7 rfl D.length (bc D) (HRD7.out.src Tryz.underlying22 (bc_one _)) (by simp;omega) hbs ?_;intro v8 w8 hown8 hgr8 hsz8;rw [←bc_app,←HCC.out] at hown8;obtain ⟨A8,c8,rfl,hc8,hr8⟩:=hown8.form6 _ (bc_length _);obtain ⟨n0,n1⟩:=(HS7.out.vxg hgr8).c2;have f0:=(HS7.out.vxg hgr8).free 0)
           go_roundw
           case rel=>
            have hLj:L[j]=r.r:=by
             have h:=HL.out
             subst h
             rw [HRJ.out]
             simp
            have he:rsB Si (L.take (j+1))=(CC,s5.2):=by
             rw [rsB_take _ _ _ hjl,←HSs.out,HCC.out,HBB.out,HS5e.out,HD.out,HHI.out,HLO.out,hLj]
             rfl
            refine ⟨j+1,.slice A8 CC.length c8,.slice A6 s5.2.length c6,by omega,by go_num,Lib.hid ?_,?_⟩
            ·rw [he];exact HS7.out.app hgr8 hown8
            ·rw [he];exact hCl
           case measure=>simp [intOf];omega
        ·have hjn:j=(x.rl i).length:=by omega
         go_wp2_with fail
         go_roundw
         case rel=>
          have he:rsB Si (L.take j)=rowB S0 (x.ls.take (i+1)):=by
           rw [List.take_of_length_le (by have:=HLl.out;omega),x.ls_get i hi3,rowB_snoc,HL.out,HSi.out]
          rw [he] at HS hsl
          exact ⟨i+1,vb,vk,by omega,by go_num,HS,hsl⟩
         case measure=>simp [intOf];omega
      ·have hi3':i=3:=by omega
       subst hi3'
       obtain ⟨A1,c1,A2,c2,rfl,rfl,hc1⟩:=HS.out.wr.vx2
       obtain ⟨k0,k1⟩:=HS.out.wr.1.c2
       have hform:formM x.m=(rowB S0 (x.ls.take 3)).1:=by
        rw [HS0.out,HQ.out];rfl
       have HF:=Lib.hid hform
       clear hform
       obtain ⟨s,hs⟩:∃ s,s=rowB S0 (x.ls.take 3):=⟨_,rfl⟩
       rw [←hs] at HS hsl k0 k1 hc1 HF
       clear hs
       have hO:=HS.out.wr.2.1.get (List.mem_cons_self)
       by_cases hlong:4096<s.1.length
       ·have hlong':(4096:Int)<(s.1.length:Int):=by omega
        have hrr:rr=([],3):=by rw [HW.out,if_pos (by rw [HF.out];exact hlong)]
        clear HW
        subst hrr
        go_wp2_with fail
        go_ret2
        exact ⟨_,rfl,Ow.nil _ _ _,HS.out.bl⟩
       ·have hlong':(s.1.length:Int)≤4096:=by omega
        have hrr:rr=(s.1,0):=by rw [HW.out,if_neg (by rw [HF.out];exact hlong),HF.out]
        clear HW
        subst hrr
        go_wp2_with fail
        go_ret2
        exact ⟨_,rfl,hO.mono (Nat.le_succ _),HS.out.bl⟩
theorem write_at (x:MR) (w:World) (h:MRd w w.heap.size x) :
 Calls Tryz.prog 36 #[.agg x.cells.toArray] w fun e w'=>∃ v,e = .returned (.tuple #[v,.int .i64 ((writeM x.m).2:Int)])∧Ow w' w.heap.size 5 v (bc (writeM x.m).1)∧Below w.heap.size w w':=by
 by_cases hr:rightM x.m=true
 ·by_cases hn:x.m.num≤256
  ·exact write_main x w h hr hn
  ·refine (write_bad x w h (Or.inr (by omega))).mono ?_
   rintro e w' ⟨rfl,hb⟩
   refine ⟨_,rfl,?_,hb⟩
   rw [show (writeM x.m).1=[] by simp [writeM,hr,show 256<x.m.num by omega]]
   exact Ow.nil _ _ _
 ·refine (write_bad x w h (Or.inl (Bool.eq_false_iff.2 hr))).mono ?_
  rintro e w' ⟨rfl,hb⟩
  refine ⟨_,rfl,?_,hb⟩
  rw [show (writeM x.m).1=[] by simp [writeM,hr]]
  exact Ow.nil _ _ _
end Go.Proofs.YtlipmlbijddopaaGreatDoor
