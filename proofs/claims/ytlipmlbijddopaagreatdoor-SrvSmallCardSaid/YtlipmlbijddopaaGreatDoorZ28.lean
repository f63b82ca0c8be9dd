/-
  SrvE; SrvF; SrvG; SrvAw
-/
import Derived.Test.YtlipmlbijddopaaGreatDoorZ27
import Derived.Test.YtlipmlbijddopaaGreatDoorZ22
import Derived.Test.YtlipmlbijddopaaGreatDoorZ24
set_option linter.unusedVariables false
set_option linter.unusedSimpArgs false
namespace Go.Proofs.YtlipmlbijddopaaGreatDoor
structure Fine (m:Ms):Prop where
 right:rightM m=true
 ok:okM m
 num:m.num≤256
 len:(formM m).length≤4096
theorem Fine.write {m:Ms} (h:Fine m):writeM m=(formM m,0):=DX.writeM_ok h.right h.num rfl h.len
theorem Fine.read {m:Ms} (h:Fine m):readM (formM m)=(m,0):=read_form h.right h.ok h.num h.len
theorem ask_len {s:Wr} {q:Qn} (hr:rightN q.nm=true):(askB s q).1.length≤s.1.length+sizeN q.nm+4:=by
 have:=(app_reads s.1 s.2 q.nm hr).2.2.1
 simp [askB]
 omega
theorem rec_len {s:Wr} {r:Rc} (hr:rightR r=true):(recB s r).1.length≤s.1.length+sizeN r.q.nm+10+(dataR r).length:=by
 have:=ask_len (s:=s) (rightR_nm hr)
 simp [recB,twos_length]
 omega
theorem recs_len {N D:Nat} {l:List Rc}:∀ (s:Wr),(∀ r∈l,rightR r=true)→(∀ r∈l,sizeN r.q.nm≤N∧(dataR r).length≤D)→(rsB s l).1.length≤s.1.length+(N+10+D)*l.length:=by
 induction l with
 | nil=>intro s _ _;exact Nat.le_refl _
 | cons a l ih=>
   intro s h1 h2
   have h3:=ih (recB s a) (fun q h=>h1 q (by simp [h])) (fun q h=>h2 q (by simp [h]))
   have h4:=rec_len (s:=s) (h1 a (by simp))
   have h5:=h2 a (by simp)
   rw [show rsB s (a :: l)=rsB (recB s a) l from rfl,List.length_cons,Nat.mul_succ]
   omega
theorem form_bound {m:Ms} {q:Qn} {N D:Nat} (hq:m.qs=[q]) (hr:rightM m=true) (hn:sizeN q.nm≤N) (h0:∀ r∈m.r0,sizeN r.q.nm≤N∧(dataR r).length≤D) (h1:∀ r∈m.r1,sizeN r.q.nm≤N∧(dataR r).length≤D) (h2:∀ r∈m.r2,sizeN r.q.nm≤N∧(dataR r).length≤D):(formM m).length≤16+N+(N+10+D)*(m.r0.length+m.r1.length+m.r2.length):=by
 obtain ⟨a0,a1,a2,a3⟩:=rightM_q hr
 have e0:=ask_len (s:=(headB m,[])) (a0 q (by rw [hq];simp))
 have e1:=recs_len (qsB (headB m,[]) m.qs) a1 h0
 have e2:=recs_len (rsB (qsB (headB m,[]) m.qs) m.r0) a2 h1
 have e3:=recs_len (rsB (rsB (qsB (headB m,[]) m.qs) m.r0) m.r1) a3 h2
 rw [show (headB m,([]:List Int)).1.length=12 from headB_length m] at e0
 have e4:qsB (headB m,[]) m.qs=askB (headB m,[]) q:=by rw [hq];rfl
 rw [e4] at e1 e2 e3
 rw [Nat.mul_add,Nat.mul_add]
 show (bodyB m).1.length≤_
 unfold bodyB
 rw [e4]
 omega
theorem ask_fine {id:Nat} {n:List (List UInt8)} (hid:id<65536) (hn:rightN n=true):Fine (Srv.askM id n):=by
 have hr:rightM (Srv.askM id n)=true:=by simp [rightM,Srv.askM,hn]
 have hs:=size_right hn
 refine ⟨hr,⟨hid,by simp [Srv.askM],fun q h=>?_,fun q h=>(by cases h),fun q h=>(by cases h),fun q h=>(by cases h)⟩,by simp [Srv.askM,Ms.num],?_⟩
 ·simp only [Srv.askM,List.mem_singleton] at h
  subst h
  exact ⟨show 33<65536 by decide,show 1<65536 by decide⟩
 ·have:=form_bound (m:=Srv.askM id n) (q:=⟨n,33,1⟩) (N:=255) (D:=0) rfl hr hs (fun r h=>(by cases h)) (fun r h=>(by cases h)) (fun r h=>(by cases h))
  simp [Srv.askM] at this
  simp [Srv.askM]
  omega
theorem asked_ask (id:Nat) (n:List (List UInt8)):Srv.askedM (Srv.askM id n)=true:=by simp [Srv.askedM,Srv.askM,Srv.q0]
theorem own_ask (id:Nat) (n:List (List UInt8)) (m:Ms):sameM (Srv.ownM (Srv.askM id n) m) (Srv.askM id n)=true ↔ m.id=id∧m.qs=[⟨n,33,1⟩]:=by
 rw [sameM_iff]
 simp [Srv.ownM,Srv.askM]
theorem take_fine {id:Nat} {n:List (List UInt8)} {m:Ms} (hid:id<65536) (hn:rightN n=true) (hm:Fine m):Srv.takeN (formM (Srv.askM id n)) (formM m)=Srv.takeM (Srv.askM id n) m:=by
 unfold Srv.takeN Srv.askedB
 rw [(ask_fine hid hn).read,hm.read,asked_ask]
 rfl
theorem take_reply {id:Nat} {n:List (List UInt8)} {m:Ms} (h1:m.id=id) (h2:m.qs=[⟨n,33,1⟩]) (h3:m.fl / 32768 % 2=1):Srv.takeM (Srv.askM id n) m=if m.fl / 512 % 2=1 then ([],183) else if m.fl % 16≠0 then ([],184) else if Srv.okA (answersM m n 33)=false then ([],185) else (Srv.onceA (Srv.sortA (Srv.addA (answersM m n 33))),0):=by
 unfold Srv.takeM
 rw [if_neg]
 ·rfl
 ·intro h
  rcases h with h | h
  ·omega
  ·rw [(own_ask id n m).2 ⟨h1,h2⟩] at h;cases h
theorem take_other {id:Nat} {n:List (List UInt8)} {m:Ms} (h:m.fl / 32768 % 2=0∨m.id≠id∨m.qs≠[⟨n,33,1⟩]):Srv.takeM (Srv.askM id n) m=([],182):=by
 unfold Srv.takeM
 refine if_pos ?_
 rcases h with h | h
 ·exact .inl h
 ·refine .inr ?_
  rw [Bool.eq_false_iff]
  intro he
  obtain ⟨e1,e2⟩:=(own_ask id n m).1 he
  rcases h with h | h
  ·exact h e1
  ·exact h e2
namespace SX
def nm:List (List UInt8):=[[95,97],[98]]
def q:Qn:=⟨nm,33,1⟩
def r (po:Nat):Rc:=⟨q,60,[],1,2,po,[[104],[98]]⟩
def M (id fl po:Nat):Ms:=⟨id,fl,[q],[r po],[],[]⟩
def hb:Ad:=⟨[104,46,98],80,1,2,60⟩
theorem right (id fl po:Nat):rightM (M id fl po)=true:=by
 have h1:rightN q.nm=true:=by kernel_rfl
 have h2:rightR (r po)=true:=by
  unfold rightR
  rw [if_pos (show rightN (r po).q.nm=true from h1),if_pos (show (r po).q.ty=33 from rfl),if_pos (show (r po).d.length=0 from rfl)]
  show rightN [[104],[98]]=true
  kernel_rfl
 simp [rightM,M,h1,h2]
theorem fine {id fl po:Nat} (h1:id<65536) (h2:fl<65536) (h3:po<65536):Fine (M id fl po):=by
 refine ⟨right id fl po,⟨h1,h2,fun q h=>?_,fun q h=>?_,fun q h=>(by cases h),fun q h=>(by cases h)⟩,by simp [M,Ms.num],?_⟩
 ·simp only [M,List.mem_singleton] at h
  subst h
  exact ⟨by decide,by decide⟩
 ·simp only [M,List.mem_singleton] at h
  subst h
  exact ⟨⟨show 33<65536 by decide,show 1<65536 by decide⟩,show 60<4294967296 by decide,show 1<65536 by decide,show 2<65536 by decide,h3⟩
 ·have:=form_bound (m:=M id fl po) (q:=q) (N:=6) (D:=20) rfl (right id fl po) (by decide) (fun x h=>by
   simp only [M,List.mem_singleton] at h
   subst h
   refine ⟨show sizeN nm≤6 by decide,?_⟩
   simp [dataR,r,q,formN_length,sizeN]) (fun r h=>(by cases h)) (fun r h=>(by cases h))
  simp [M] at this
  simp [M]
  omega
theorem ask:Srv.askN 258 [95,97,46,98]=(formM (Srv.askM 258 nm),0):=by
 have h:rparse [95,97,46,98]=(nm,0):=by kernel_rfl
 unfold Srv.askN
 rw [h,if_neg (by simp [nm])]
 exact (ask_fine (by omega) (by kernel_rfl)).write
theorem ans (id fl po:Nat):answersM (M id fl po) nm 33=[r po]:=by simp [answersM,M,r,q]
theorem take1:Srv.takeN (formM (Srv.askM 258 nm)) (formM (M 258 32768 80))=([hb],0):=by
 rw [take_fine (by omega) (by kernel_rfl) (fine (by omega) (by omega) (by omega)),take_reply (id:=258) (n:=nm) rfl rfl rfl,ans]
 have h1:Srv.addA [r 80]=[hb]:=by
  have:Srv.adR (r 80)=hb:=by kernel_rfl
  simp only [Srv.addA,List.filter,Srv.rootR,r,List.length_cons,List.length_nil]
  exact congrArg (fun x=>[x]) this
 have h2:Srv.okA [r 80]=true:=by kernel_rfl
 rw [h1,h2]
 have h3:Srv.sortA [hb]=[hb]:=List.mergeSort_singleton _
 rw [h3]
 rfl
theorem take2:Srv.takeN (formM (Srv.askM 258 nm)) (formM (M 258 33280 80))=([],183):=by
 rw [take_fine (by omega) (by kernel_rfl) (fine (by omega) (by omega) (by omega)),take_reply (id:=258) (n:=nm) rfl rfl rfl]
 rfl
theorem take3:Srv.takeN (formM (Srv.askM 258 nm)) (formM (M 259 32768 80))=([],182):=by
 rw [take_fine (by omega) (by kernel_rfl) (fine (by omega) (by omega) (by omega)),take_other (.inr (.inl (by simp [M])))]
theorem take4:Srv.takeN (formM (Srv.askM 258 nm)) (formM (M 258 32771 80))=([],184):=by
 rw [take_fine (by omega) (by kernel_rfl) (fine (by omega) (by omega) (by omega)),take_reply (id:=258) (n:=nm) rfl rfl rfl]
 rfl
theorem take5:Srv.takeN (formM (Srv.askM 258 nm)) (formM (M 258 32768 0))=([],185):=by
 rw [take_fine (by omega) (by kernel_rfl) (fine (by omega) (by omega) (by omega)),take_reply (id:=258) (n:=nm) rfl rfl rfl,ans]
 rfl
end SX
end Go.Proofs.YtlipmlbijddopaaGreatDoor
set_option linter.unusedVariables false
set_option linter.unusedSimpArgs false
namespace Go.Proofs.YtlipmlbijddopaaGreatDoor
open Go.RowKit
theorem ask_eq {id:Nat} {s:List UInt8} (hid:id<65536):Srv.askN id s=if (rparse s).2≠0∨(rparse s).1.length=0 then ([],180) else (formM (Srv.askM id (rparse s).1),0):=by
 unfold Srv.askN
 by_cases hc:(rparse s).2≠0∨(rparse s).1.length=0
 ·rw [if_pos hc,if_pos hc]
 ·rw [if_neg hc,if_neg hc]
  have he:(rparse s).2=0:=Classical.byContradiction fun h=>hc (.inl h)
  have hp:rparse s=((rparse s).1,0):=by rw [←he]
  exact (ask_fine hid (Tx.text_of_parse hp).2).write
theorem qlit_rd {w:World} {A:Option Addr} {c L:Nat} {n:List (List UInt8)} (id:Nat) (hid:id<65536) (hL:n.length=L) (h:NRd w w.heap.size A c n) :
 MRd (w.alloc (.cells #[.slice A L c,.int .u16 33,.int .u16 1] 40)) (w.alloc (.cells #[.slice A L c,.int .u16 33,.int .u16 1] 40)).heap.size ⟨id,256,some ⟨w.heap.size,0,none⟩,1,[⟨A,c,⟨n,33,1⟩⟩],none,0,[],none,0,[],none,0,[]⟩:=by
 subst hL
 have hb:Below w.heap.size w (w.alloc (.cells #[.slice A n.length c,.int .u16 33,.int .u16 1] 40)):=below_new w _
 refine ⟨hid,show 256<65536 by decide,⟨?_,rfl,Nat.le_refl _,by simp,fun x hx=>?_⟩,RsRd.nil _ _,RsRd.nil _ _,RsRd.nil _ _⟩
 ·exact Rd.lit_top0 w 40 (qcs [⟨A,c,⟨n,33,1⟩⟩]) _ (qcs_length [⟨A,c,⟨n,33,1⟩⟩])
 ·rw [List.mem_singleton] at hx
  subst hx
  exact ⟨(h.below hb).more hb.size,show 33<65536 by decide,show 1<65536 by decide⟩
set_option maxRecDepth 100000 in
set_option maxHeartbeats 1000000 in
theorem rask_at (id:Nat) (s:List UInt8) (w:World) (hid:id<65536) (hs:s.length≤1000000) :
 Calls Tryz.prog 44 #[.int .u16 (id:Int),.string ⟨s.toArray⟩] w fun e w'=>∃ v,e = .returned (.tuple #[v,.int .i64 ((Srv.askN id s).2:Int)])∧Ow w' w.heap.size 5 v (bc (Srv.askN id s).1)∧Below w.heap.size w w':=by
 obtain ⟨p,hp⟩:∃ p,p=rparse s:=⟨_,rfl⟩
 obtain ⟨q,ep⟩:=p
 have K:=Lib.hid (rparse_all s w q ep hp.symm hs)
 have hae:=ask_eq (s:=s) hid
 rw [←hp] at hae
 dsimp only at hae
 by_cases hc:ep≠0∨q.length=0
 ·rw [if_pos hc] at hae
  rw [hae]
  clear hae hp
  by_cases he:ep=0
  ·have hq0:q.length=0:=by
    rcases hc with h | h
    ·exact absurd he h
    ·exact h
   have hee:((ep:Int) != 0)=false:=by rw [he];rfl
   have HQ:=Lib.hid hq0
   clear hc he hq0
   go_enter Tryz.func44,Tryz.ntmps44
   go_wp2_with (go_at_call 99
                refine K.out.mono ?_
                rintro e w1 ⟨v1,rfl,ho1,hb1⟩
                obtain ⟨A1,c1,rfl,_,_⟩:=ho1.form6 0 (by rw [sc_length,HQ.out]))
   all_goals go_ret2
   all_goals exact ⟨_,rfl,Ow.nil _ _ _,hb1⟩
  ·have hee:((ep:Int) != 0)=true:=by rw [bne_iff_ne];omega
   clear hc he
   go_enter Tryz.func44,Tryz.ntmps44
   go_wp2_with (go_at_call 99
                refine K.out.mono ?_
                rintro e w1 ⟨v1,rfl,ho1,hb1⟩
                obtain ⟨A1,c1,rfl,_,_⟩:=ho1.form6 q.length (by rw [sc_length]))
   all_goals go_ret2
   all_goals exact ⟨_,rfl,Ow.nil _ _ _,hb1⟩
 ·rw [if_neg hc] at hae
  rw [hae]
  have he:ep=0:=Classical.byContradiction fun h=>hc (.inl h)
  have hq0:q.length≠0:=fun h=>hc (.inr h)
  subst he
  have hrt:=(Tx.text_of_parse hp.symm).2
  have hwr:=(ask_fine hid hrt).write
  have HS:Hid (sizeN q≤140737488355328):=Lib.hid (by have:=size_right hrt;omega)
  obtain ⟨F,hF⟩:∃ F,F=formM (Srv.askM id q):=⟨_,rfl⟩
  rw [←hF] at hwr ⊢
  have HWR:=Lib.hid hwr
  clear hc hae hp hrt hwr hF
  obtain ⟨L,hL⟩:∃ L,L=q.length:=⟨_,rfl⟩
  have hL0:((L:Int) == 0)=false:=by rw [beq_eq_false_iff_ne];omega
  have HL:=Lib.hid hL.symm
  clear hq0 hL
  go_enter Tryz.func44,Tryz.ntmps44
  go_wp2_with (first
   | (go_at_call 22
      refine (KW.out).mono ?_
      rintro e w2 ⟨v2,rfl,ho2,hb2⟩)
   | (go_at_call 99
      refine K.out.mono ?_
      rintro e w1 ⟨v1,rfl,ho1,hb1⟩
      obtain ⟨A1,c1,rfl,hc1,hr1⟩:=ho1.form6 L (by rw [sc_length,HL.out])
      have hnr:NRd w1 w1.heap.size A1 c1 q:=⟨by rw [HL.out];exact hr1,by rw [HL.out];exact hc1,HS.out⟩
      have kw:=fwrite_at _ _ (qlit_rd id hid HL.out hnr)
      rw [show (MR.m ⟨id,256,some ⟨w1.heap.size,0,none⟩,1,[⟨A1,c1,⟨q,33,1⟩⟩],none,0,[],none,0,[],none,0,[]⟩)=Srv.askM id q from rfl,HWR.out] at kw
      have KW:=Lib.hid kw
      clear hnr hr1 ho1 kw))
  go_ret2
  have hb12:=bl_new w1 (.cells #[.slice A1 L c1,.int .u16 33,.int .u16 1] 40)
  have hb3:=hb1.trans (hb12.mono hb1.size)
  exact ⟨_,rfl,ho2.mono hb3.size,hb3.trans (hb2.mono hb3.size)⟩
end Go.Proofs.YtlipmlbijddopaaGreatDoor
set_option linter.unusedVariables false
set_option linter.unusedSimpArgs false
namespace Go.Proofs.YtlipmlbijddopaaGreatDoor
open Go.RowKit
theorem rd_only {w w':World} {B b g n:Nat} {xs:List Value} (h:Rd w B (some ⟨b,0,none⟩) n xs) (hO:Only w w' g) (hne:b≠g):Rd w' B (some ⟨b,0,none⟩) n xs:=by
 refine ⟨h.1,fun h0=>?_⟩
 obtain ⟨b',o',e,hb,hc⟩:=h.2 h0
 cases e
 exact ⟨_,_,rfl,hb,fun j u hu=>hO.cell (hc j u hu) hne⟩
theorem hmr8 {w w':World} {x:MR} (h:MRd w w.heap.size x) (hb:Below w.heap.size w w'):MRd w' w'.heap.size x:=(h.below hb).more hb.size
set_option maxRecDepth 100000 in
set_option maxHeartbeats 4000000 in
theorem sexample_at (id fl po:Nat) (w:World) (hid:id<65536) (hfl:fl<65536) (hpo:po<65536) :
 Calls Tryz.prog 19 #[.int .u16 (id:Int),.int .u16 (fl:Int),.int .u16 (po:Int)] w fun e w'=>∃ vq vr,e = .returned (.tuple #[vq,vr])∧Ow w' w.heap.size 5 vq (bc (formM (Srv.askM 258 SX.nm)))∧Ow w' w.heap.size 5 vr (bc (formM (SX.M id fl po)))∧Below w.heap.size w w':=by
 obtain ⟨Q,hQ⟩:∃ Q,Q=formM (Srv.askM 258 SX.nm):=⟨_,rfl⟩
 obtain ⟨R,hR⟩:∃ R,R=formM (SX.M id fl po):=⟨_,rfl⟩
 have hask:Srv.askN 258 [95,97,46,98]=(Q,0):=by rw [hQ];exact SX.ask
 have hwr:writeM (SX.M id fl po)=(R,0):=by rw [hR];exact (SX.fine hid hfl hpo).write
 rw [←hQ,←hR]
 have HASK:=Lib.hid hask
 have HWR:=Lib.hid hwr
 clear hQ hR hask hwr
 go_enter Tryz.func19,Tryz.ntmps19
 go_upto_region 2 with fail
 have hb1:=bl_new w (.cells #[.string ⟨#[95,97]⟩,.string ⟨#[98]⟩] 9)
 have hn1:NRd (w.alloc (.cells #[.string ⟨#[95,97]⟩,.string ⟨#[98]⟩] 9)) (w.alloc (.cells #[.string ⟨#[95,97]⟩,.string ⟨#[98]⟩] 9)).heap.size (some ⟨w.heap.size,0,none⟩) 2 SX.nm:=⟨Rd.lit_top0 w 9 (sc SX.nm) 2 rfl,Nat.le_refl _,by decide⟩
 have hs1:w.heap.size+1=(w.alloc (.cells #[.string ⟨#[95,97]⟩,.string ⟨#[98]⟩] 9)).heap.size:=by simp
 rw [hs1]
 obtain ⟨a0,h0⟩:∃ a,a=w.heap.size:=⟨_,rfl⟩
 have HA0:Hid (w.heap.size≤a0):=Lib.hid (by omega)
 rw [←h0] at hn1 ⊢
 generalize w.alloc (.cells #[.string ⟨#[95,97]⟩,.string ⟨#[98]⟩] 9)=w1 at hb1 hn1 hs1 ⊢
 have ha1:a0<w1.heap.size:=by obtain ⟨b,o,e,hb,_⟩:=hn1.1.2 (by decide);cases e;exact hb
 have hv8:=Vx.new w1 40 [.slice (some ⟨a0,0,none⟩) 2 2,.int .u16 33,.int .u16 1]
 have hb12:=bl_new w1 (.cells #[.slice (some ⟨a0,0,none⟩) 2 2,.int .u16 33,.int .u16 1] 40)
 have hn2:=(hn1.below hb12).more hb12.size
 have hb2:=hb1.trans (hb12.mono hb1.size)
 have ha2:=Nat.lt_of_lt_of_le ha1 hb12.size
 obtain ⟨g8,h8⟩:∃ g,g=w1.heap.size:=⟨_,rfl⟩
 rw [←h8] at hv8 ⊢
 generalize w1.alloc (.cells #[.slice (some ⟨a0,0,none⟩) 2 2,.int .u16 33,.int .u16 1] 40)=w2 at hv8 hn2 hb2 ha2 ⊢
 clear hb12 hb1 hn1 hs1 h0 h8 ha1
 obtain ⟨c0,c1,c2⟩:=hv8.c3
 have HV8:=Lib.hid hv8
 have HN2:=Lib.hid hn2
 have HB2:=Lib.hid hb2
 clear hv8 hn2 hb2
 go_upto_region 3 with fail
 have hb23:=bl_new w2 (.cells #[.slice (some ⟨a0,0,none⟩) 2 2,.int .u16 33,.int .u16 1] 40)
 have hq3:QsRd (w2.alloc (.cells #[.slice (some ⟨a0,0,none⟩) 2 2,.int .u16 33,.int .u16 1] 40)) (w2.alloc (.cells #[.slice (some ⟨a0,0,none⟩) 2 2,.int .u16 33,.int .u16 1] 40)).heap.size (some ⟨w2.heap.size,0,none⟩) 1 1 [⟨some ⟨a0,0,none⟩,2,SX.q⟩]:=⟨Rd.lit_top0 w2 40 (qcs [⟨some ⟨a0,0,none⟩,2,SX.q⟩]) _ (qcs_length [⟨some ⟨a0,0,none⟩,2,SX.q⟩]),rfl,Nat.le_refl _,by omega,fun x hx=>by
  rw [List.mem_singleton] at hx
  subst hx
  exact ⟨(HN2.out.below hb23).more hb23.size,show 33<65536 by decide,show 1<65536 by decide⟩⟩
 have hn3:=(HN2.out.below hb23).more hb23.size
 have hv83:=HV8.out.below hb23 HV8.out.lt
 have hb3:=HB2.out.trans (hb23.mono HB2.out.size)
 (try rw [show w2.heap.size+1=(w2.alloc (.cells #[.slice (some ⟨a0,0,none⟩) 2 2,.int .u16 33,.int .u16 1] 40)).heap.size from (by simp)])
 have ha3:=Nat.lt_of_lt_of_le ha2 hb23.size
 have h73:w2.heap.size<(w2.alloc (.cells #[.slice (some ⟨a0,0,none⟩) 2 2,.int .u16 33,.int .u16 1] 40)).heap.size:=by simp
 obtain ⟨g7,h7⟩:∃ g,g=w2.heap.size:=⟨_,rfl⟩
 rw [←h7] at hq3 h73 ⊢
 generalize w2.alloc (.cells #[.slice (some ⟨a0,0,none⟩) 2 2,.int .u16 33,.int .u16 1] 40)=w3 at hq3 hn3 hv83 hb3 ha3 h73 ⊢
 have hb34:=bl_new w3 (.cells #[.int .u16 (id:Int),.int .u16 (fl:Int),.slice (some ⟨g7,0,none⟩) 1 1,.slice none 0 0,.slice none 0 0,.slice none 0 0] 47)
 have hv9:=Vx.new w3 47 [.int .u16 (id:Int),.int .u16 (fl:Int),.slice (some ⟨g7,0,none⟩) 1 1,.slice none 0 0,.slice none 0 0,.slice none 0 0]
 have HQ4:=Lib.hid ((hq3.below hb34).more hb34.size)
 have HN4:=Lib.hid ((hn3.below hb34).more hb34.size)
 have HV84:=Lib.hid (hv83.below hb34 hv83.lt)
 have HB4:=Lib.hid (hb3.trans (hb34.mono hb3.size))
 obtain ⟨g9,h9⟩:∃ g,g=w3.heap.size:=⟨_,rfl⟩
 have H9a:Hid (w.heap.size≤g9):=Lib.hid (by rw [h9];exact hb3.size)
 rw [←h9] at hv9 ha3 h73 ⊢
 have HA3:=Lib.hid ha3
 have H73:=Lib.hid h73
 clear ha3 h73 ha2
 generalize w3.alloc (.cells #[.int .u16 (id:Int),.int .u16 (fl:Int),.slice (some ⟨g7,0,none⟩) 1 1,.slice none 0 0,.slice none 0 0,.slice none 0 0] 47)=w4 at hv9 HQ4 HN4 HV84 HB4 ⊢
 have HV9:=Lib.hid hv9
 clear hb34 hv9 hb23 hq3 hn3 hv83 hb3 h7 h9 HV8 HN2 HB2 c0 c1 c2
 obtain ⟨c0,c1,c2⟩:=HV84.out.c3
 have hv9b:=(HV9.out.alloc (.cells #[.string ⟨#[104]⟩,.string ⟨#[98]⟩] 9)).alloc (.cells #[.slice (some ⟨a0,0,none⟩) 2 2,.int .u16 33,.int .u16 1,.int .u32 60,.slice none 0 0,.int .u16 1,.int .u16 2,.int .u16 (po:Int),.slice (some ⟨w4.heap.size,0,none⟩) 2 2] 42)
 obtain ⟨m0,m1,m2,m3,m4,m5⟩:=hv9b.c6
 have f3:=hv9b.free 3
 go_upto_region 4 with fail
 have ht4:=HV9.out.lt
 have hb45:=bl_new w4 (.cells #[.string ⟨#[104]⟩,.string ⟨#[98]⟩] 9)
 have hb56:=bl_new (w4.alloc (.cells #[.string ⟨#[104]⟩,.string ⟨#[98]⟩] 9)) (.cells #[.slice (some ⟨a0,0,none⟩) 2 2,.int .u16 33,.int .u16 1,.int .u32 60,.slice none 0 0,.int .u16 1,.int .u16 2,.int .u16 (po:Int),.slice (some ⟨w4.heap.size,0,none⟩) 2 2] 42)
 have hz5:(w4.alloc (.cells #[.string ⟨#[104]⟩,.string ⟨#[98]⟩] 9)).heap.size=w4.heap.size+1:=by simp
 have hb46:=hb45.trans (hb56.mono hb45.size)
 have ht5:NRd (w4.alloc (.cells #[.string ⟨#[104]⟩,.string ⟨#[98]⟩] 9)) (w4.alloc (.cells #[.string ⟨#[104]⟩,.string ⟨#[98]⟩] 9)).heap.size (some ⟨w4.heap.size,0,none⟩) 2 [[104],[98]]:=⟨Rd.lit_top0 w4 9 (sc [[104],[98]]) 2 rfl,Nat.le_refl _,by decide⟩
 have ht6:=(ht5.below hb56).more hb56.size
 have hr6:Rd ((w4.alloc (.cells #[.string ⟨#[104]⟩,.string ⟨#[98]⟩] 9)).alloc (.cells #[.slice (some ⟨a0,0,none⟩) 2 2,.int .u16 33,.int .u16 1,.int .u32 60,.slice none 0 0,.int .u16 1,.int .u16 2,.int .u16 (po:Int),.slice (some ⟨w4.heap.size,0,none⟩) 2 2] 42)) ((w4.alloc (.cells #[.string ⟨#[104]⟩,.string ⟨#[98]⟩] 9)).alloc (.cells #[.slice (some ⟨a0,0,none⟩) 2 2,.int .u16 33,.int .u16 1,.int .u32 60,.slice none 0 0,.int .u16 1,.int .u16 2,.int .u16 (po:Int),.slice (some ⟨w4.heap.size,0,none⟩) 2 2] 42)).heap.size (some ⟨w4.heap.size+1,0,none⟩) 9 (rcs [⟨some ⟨a0,0,none⟩,2,none,0,some ⟨w4.heap.size,0,none⟩,2,SX.r po⟩]):=by
  have h:=Rd.lit_top0 (w4.alloc (.cells #[.string ⟨#[104]⟩,.string ⟨#[98]⟩] 9)) 42 (rcs [⟨some ⟨a0,0,none⟩,2,none,0,some ⟨w4.heap.size,0,none⟩,2,SX.r po⟩]) 9 rfl
  rw [hz5] at h
  exact h
 have hn6:=(HN4.out.below hb46).more hb46.size
 have hq6:=(HQ4.out.below hb46).more hb46.size
 have hB6:=HB4.out.trans (hb46.mono HB4.out.size)
 have hv9c:=hv9b.set_ 3 (.slice (some ⟨w4.heap.size+1,0,none⟩) 1 1)
 simp only [List.set_cons_zero,List.set_cons_succ] at hv9c
 have hO:=Only.set_ ((w4.alloc (.cells #[.string ⟨#[104]⟩,.string ⟨#[98]⟩] 9)).alloc (.cells #[.slice (some ⟨a0,0,none⟩) 2 2,.int .u16 33,.int .u16 1,.int .u32 60,.slice none 0 0,.int .u16 1,.int .u16 2,.int .u16 (po:Int),.slice (some ⟨w4.heap.size,0,none⟩) 2 2] 42)) g9 3 (.slice (some ⟨w4.heap.size+1,0,none⟩) 1 1)
 have hsz:=hO.size
 have ha9:=HA3.out
 have h79:=H73.out
 have hmr:MRd (((w4.alloc (.cells #[.string ⟨#[104]⟩,.string ⟨#[98]⟩] 9)).alloc (.cells #[.slice (some ⟨a0,0,none⟩) 2 2,.int .u16 33,.int .u16 1,.int .u32 60,.slice none 0 0,.int .u16 1,.int .u16 2,.int .u16 (po:Int),.slice (some ⟨w4.heap.size,0,none⟩) 2 2] 42)).setCell ⟨g9,3,none⟩ (.slice (some ⟨w4.heap.size+1,0,none⟩) 1 1)) (((w4.alloc (.cells #[.string ⟨#[104]⟩,.string ⟨#[98]⟩] 9)).alloc (.cells #[.slice (some ⟨a0,0,none⟩) 2 2,.int .u16 33,.int .u16 1,.int .u32 60,.slice none 0 0,.int .u16 1,.int .u16 2,.int .u16 (po:Int),.slice (some ⟨w4.heap.size,0,none⟩) 2 2] 42)).setCell ⟨g9,3,none⟩ (.slice (some ⟨w4.heap.size+1,0,none⟩) 1 1)).heap.size ⟨id,fl,some ⟨g7,0,none⟩,1,[⟨some ⟨a0,0,none⟩,2,SX.q⟩],some ⟨w4.heap.size+1,0,none⟩,1,[⟨some ⟨a0,0,none⟩,2,none,0,some ⟨w4.heap.size,0,none⟩,2,SX.r po⟩],none,0,[],none,0,[]⟩:=by
  have hn7:NRd _ _ _ 2 SX.nm:=⟨(rd_only hn6.1 hO (by omega)).more hsz,hn6.2⟩
  have ht7:NRd _ _ _ 2 [[104],[98]]:=⟨(rd_only ht6.1 hO (by omega)).more hsz,ht6.2⟩
  refine ⟨hid,hfl,⟨(rd_only hq6.1 hO (by omega)).more hsz,hq6.2.1,hq6.2.2.1,hq6.2.2.2.1,fun x hx=>?_⟩,⟨(rd_only hr6 hO (by omega)).more hsz,rfl,Nat.le_refl _,by simp,fun x hx=>?_⟩,RsRd.nil _ _,RsRd.nil _ _⟩
  ·rw [List.mem_singleton] at hx
   subst hx
   exact ⟨hn7,show 33<65536 by decide,show 1<65536 by decide⟩
  ·rw [List.mem_singleton] at hx
   subst hx
   exact ⟨⟨hn7,show 33<65536 by decide,show 1<65536 by decide⟩,⟨Rd.nil _ _ _,Nat.le_refl _,by simp [SX.r]⟩,ht7,show 60<4294967296 by decide,show 1<65536 by decide,show 2<65536 by decide,hpo⟩
 have hB7:Below w.heap.size w (((w4.alloc (.cells #[.string ⟨#[104]⟩,.string ⟨#[98]⟩] 9)).alloc (.cells #[.slice (some ⟨a0,0,none⟩) 2 2,.int .u16 33,.int .u16 1,.int .u32 60,.slice none 0 0,.int .u16 1,.int .u16 2,.int .u16 (po:Int),.slice (some ⟨w4.heap.size,0,none⟩) 2 2] 42)).setCell ⟨g9,3,none⟩ (.slice (some ⟨w4.heap.size+1,0,none⟩) 1 1)):=hB6.setCell (H9a.out) _
 obtain ⟨X,hX⟩:∃ X:MR,X=⟨id,fl,some ⟨g7,0,none⟩,1,[⟨some ⟨a0,0,none⟩,2,SX.q⟩],some ⟨w4.heap.size+1,0,none⟩,1,[⟨some ⟨a0,0,none⟩,2,none,0,some ⟨w4.heap.size,0,none⟩,2,SX.r po⟩],none,0,[],none,0,[]⟩:=⟨_,rfl⟩
 have hXm:X.m=SX.M id fl po:=by rw [hX];rfl
 have hXc:[.int .u16 (id:Int),.int .u16 (fl:Int),.slice (some ⟨g7,0,none⟩) 1 1,.slice (some ⟨w4.heap.size+1,0,none⟩) 1 1,.slice none 0 0,.slice none 0 0]=X.cells:=by rw [hX];rfl
 rw [hXc] at hv9c
 rw [←hX] at hmr
 generalize ((w4.alloc (.cells #[.string ⟨#[104]⟩,.string ⟨#[98]⟩] 9)).alloc (.cells #[.slice (some ⟨a0,0,none⟩) 2 2,.int .u16 33,.int .u16 1,.int .u32 60,.slice none 0 0,.int .u16 1,.int .u16 2,.int .u16 (po:Int),.slice (some ⟨w4.heap.size,0,none⟩) 2 2] 42)).setCell ⟨g9,3,none⟩ (.slice (some ⟨w4.heap.size+1,0,none⟩) 1 1)=w7 at hv9c hmr hB7 ⊢
 have HV7:=Lib.hid hv9c
 have HM7:=Lib.hid hmr
 have HB7:=Lib.hid hB7
 have hKA:=rask_at 258 [95,97,46,98] w7 (by omega) (by decide)
 rw [HASK.out] at hKA
 have KA:Hid (Calls Tryz.prog 44 #[.int .u16 258,.string ⟨#[95,97,46,98]⟩] w7 fun e w'=>∃ v,e = .returned (.tuple #[v,.int .i64 0])∧Ow w' w7.heap.size 5 v (bc Q)∧Below w7.heap.size w7 w'):=Lib.hid hKA
 have HXM:=Lib.hid hXm
 clear hv9b m0 m1 m2 m3 m4 m5 f3 c0 c1 c2 ht4 hb45 hb56 hz5 hb46 ht5 ht6 hr6 hn6 hq6 hB6 hv9c hO hsz ha9 h79 hmr hB7 hX hXm hXc hKA HV9 HQ4 HN4 HV84 HB4 H9a HA3 H73
 go_wp2_with (first
  | (refine wpList_load_row rfl 47 _ rfl g9 rfl _ _ _ _ HV8.out Tryz.underlying47 rfl (by kernel_rfl) ?_)
  | (go_at_call 22
     refine KW.out.mono ?_
     rintro e w9 ⟨v9,rfl,ho9,hb9⟩)
  | (go_at_call 44
     refine KA.out.mono ?_
     rintro e w8 ⟨v8,rfl,ho8,hb8⟩
     have HV8:=Lib.hid (HV7.out.below hb8 HV7.out.lt)
     have hkw:=fwrite_at X w8 ((hmr8 HM7.out hb8))
     rw [HXM.out,HWR.out] at hkw
     have KW:=Lib.hid hkw
     clear hkw))
 go_ret2
 exact ⟨_,_,rfl,(ho8.far hb9).mono HB7.out.size,ho9.mono (Nat.le_trans HB7.out.size hb8.size),HB7.out.trans ((hb8.trans (hb9.mono hb8.size)).mono HB7.out.size)⟩
end Go.Proofs.YtlipmlbijddopaaGreatDoor
set_option linter.unusedVariables false
set_option linter.unusedSimpArgs false
namespace Go.Proofs.YtlipmlbijddopaaGreatDoor
open Go.RowKit
def sawTab:List Value:=[.int .u16 258,.int .u16 33280,.int .u16 80,.int .i64 183,.int .u16 259,.int .u16 32768,.int .u16 80,.int .i64 182,.int .u16 258,.int .u16 32771,.int .u16 80,.int .i64 184,.int .u16 258,.int .u16 32768,.int .u16 0,.int .i64 185]
theorem saw_row:∀ k,k<4→∃ id fl po er:Nat,id<65536∧fl<65536∧po<65536∧sawTab[k*4]? = some (.int .u16 (id:Int))∧sawTab[k*4+1]? = some (.int .u16 (fl:Int))∧sawTab[k*4+2]? = some (.int .u16 (po:Int))∧sawTab[k*4+3]? = some (.int .i64 (er:Int))∧Srv.takeN (formM (Srv.askM 258 SX.nm)) (formM (SX.M id fl po))=([],er)
 | 0,_=>⟨258,33280,80,183,by omega,by omega,by omega,rfl,rfl,rfl,rfl,SX.take2⟩
 | 1,_=>⟨259,32768,80,182,by omega,by omega,by omega,rfl,rfl,rfl,rfl,SX.take3⟩
 | 2,_=>⟨258,32771,80,184,by omega,by omega,by omega,rfl,rfl,rfl,rfl,SX.take4⟩
 | 3,_=>⟨258,32768,0,185,by omega,by omega,by omega,rfl,rfl,rfl,rfl,SX.take5⟩
 | k+4,h=>absurd h (by omega)
def three:List Ad:=[⟨[],0,1,3,0⟩,⟨[],0,1,0,0⟩,⟨[],0,2,9,0⟩]
def sawInts:List Value:=[.int .i64 1,.int .i64 0,.int .i64 0,.int .i64 0,.int .i64 1]
theorem saw_pick:∀ k,k<5→∃ j,∃ hj:j<three.length,sawInts[k]? = some (.int .i64 (j:Int))∧Srv.pickA three k=(three[j],true)
 | 0,_=>⟨1,by decide,rfl,by kernel_rfl⟩
 | 1,_=>⟨0,by decide,rfl,by kernel_rfl⟩
 | 2,_=>⟨0,by decide,rfl,by kernel_rfl⟩
 | 3,_=>⟨0,by decide,rfl,by kernel_rfl⟩
 | 4,_=>⟨1,by decide,rfl,by kernel_rfl⟩
 | k+5,h=>absurd h (by omega)
theorem three_ok:∀ x∈three,AdOk x:=by
 intro x hx
 simp only [three,List.mem_cons,List.not_mem_nil,or_false] at hx
 rcases hx with rfl | rfl | rfl <;> exact ⟨by simp,by simp,by simp,by simp,by simp,by simp,by simp,by simp⟩
theorem three_two:(Srv.tiersA three).length=2:=by kernel_rfl
theorem AsRd.lit (w:World) (l:List Ad) (n:Nat) (hn:l.length=n) (hb:n≤2932031007317) (hx:∀ x∈l,AdOk x):AsRd (w.alloc (.cells (acs l).toArray 31)) (w.alloc (.cells (acs l).toArray 31)).heap.size (some ⟨w.heap.size,0,none⟩) n n l:=
 ⟨Rd.lit_top0 w _ (acs l) _ (by rw [acs_length,hn]),hn,Nat.le_refl _,hb,hx⟩
theorem bl_drew' {B:Nat} {w:World} (h:B≤w.heap.size):Below B w w.drew:=(bl_drew w).mono h
set_option maxRecDepth 100000 in
set_option maxHeartbeats 4000000 in
theorem sawake_any (w:World) :
 Calls Tryz.prog 14 #[] w fun e w'=>e = .returned (.bool true)∧Below w.heap.size w w':=by
 obtain ⟨Q,hQ⟩:∃ Q,Q=formM (Srv.askM 258 SX.nm):=⟨_,rfl⟩
 obtain ⟨R,hR⟩:∃ R,R=formM (SX.M 258 32768 80):=⟨_,rfl⟩
 have hask:Srv.askN 258 [95,97,46,98]=(Q,0):=by rw [hQ];exact SX.ask
 have ht1:Srv.takeN Q R=([SX.hb],0):=by rw [hQ,hR];exact SX.take1
 have hQl:Q.length≤4096:=by rw [hQ];exact (ask_fine (id:=258) (n:=SX.nm) (by omega) (by kernel_rfl)).len
 have hRl:R.length≤4096:=by rw [hR];exact (SX.fine (id:=258) (fl:=32768) (po:=80) (by omega) (by omega) (by omega)).len
 obtain ⟨LQ,hLQ⟩:∃ L,L=Q.length:=⟨_,rfl⟩
 obtain ⟨LR,hLR⟩:∃ L,L=R.length:=⟨_,rfl⟩
 rw [←hLQ] at hQl
 rw [←hLR] at hRl
 have hke:=sexample_at 258 32768 80 w (by omega) (by omega) (by omega)
 rw [←hQ,←hR] at hke
 have KE:Hid (Calls Tryz.prog 19 #[.int .u16 258,.int .u16 32768,.int .u16 80] w fun e w'=>∃ vq vr,e = .returned (.tuple #[vq,vr])∧Ow w' w.heap.size 5 vq (bc Q)∧Ow w' w.heap.size 5 vr (bc R)∧Below w.heap.size w w'):=Lib.hid hke
 have KA:Hid (∀ W,Calls Tryz.prog 32 #[.int .u16 258,.string ⟨#[95,97,46,98]⟩] W fun e w'=>∃ v,e = .returned (.tuple #[v,.int .i64 0])∧Ow w' W.heap.size 5 v (bc Q)∧Below W.heap.size W w'):=Lib.hid fun W=>by
  have h:=sask_at 258 [95,97,46,98] W (by omega) (by decide)
  rw [hask] at h
  exact h
 have HT1:=Lib.hid ht1
 have HQ:=Lib.hid hQ
 have HLQ:=Lib.hid hLQ
 have HLR:=Lib.hid hLR
 clear hke hask ht1 hQ hR hLQ hLR
 have HTX:Hid ([SX.hb].map Srv.textA=[[104,46,98,58,56,48]]):=Lib.hid (by kernel_rfl)
 go_enter Tryz.func14,Tryz.ntmps14
 go_upto_region 4 with (first
  | (go_at_call 35
     refine (stake_at A1 A2 c1 c2 LQ LR Q R w2 HLQ.out.symm HLR.out.symm HR1.out HR2.out hc1 hc2 (by omega) (by omega)).mono ?_
     rw [HT1.out]
     rintro e w3 ⟨v3,rfl,ho3,hok3,_,hb3⟩
     obtain ⟨A4,c4,rfl,hl3⟩:=AsRd.of_own ho3 rfl (by simp) hok3
     have HL3:=Lib.hid hl3
     have HR3:=Lib.hid (HR1.out.goes hb3)
     have HK3:=Lib.hid (HK2.out.goes hb3)
     have HB3:=Lib.hid (HB2.out.trans (hb3.mono HB2.out.size))
     clear ho3 hl3 hok3 hb3)
  | (go_at_call 32
     refine (KA.out w1).mono ?_
     rintro e w2 ⟨v2,rfl,ho2,hb2⟩
     obtain ⟨A3,c3,rfl,hc3,hr3⟩:=Ow.form7 ho2 LQ (by rw [bc_length,HLQ.out])
     have HK2:=Lib.hid hr3
     have HR1:=Lib.hid (hr1.goes hb2)
     have HR2:=Lib.hid (hr2.goes hb2)
     have HB2:=Lib.hid (hb1.trans (hb2.mono hb1.size))
     clear ho2 hr3 hb2 hr1 hr2)
  | (go_at_call 19
     refine KE.out.mono ?_
     rintro e w1 ⟨vq,vr,rfl,ho1,ho1r,hb1⟩
     obtain ⟨A1,c1,rfl,hc1,hr1⟩:=Ow.form7 ho1 LQ (by rw [bc_length,HLQ.out])
     obtain ⟨A2,c2,rfl,hc2,hr2⟩:=Ow.form7 ho1r LR (by rw [bc_length,HLR.out])
     clear ho1 ho1r))
 obtain ⟨b,o,rfl,hb,hc⟩:=HL3.out.at_ (k:=0) (by simp)
 obtain ⟨x0,x1,x2,x3,x4⟩:=(hc (by simp)).cells
 simp only [List.getElem_cons_zero,Nat.zero_mul,Nat.add_zero,SX.hb] at x0 x1 x2 x3 x4
 go_wp2_with (first
  | (go_at_call 26
     refine (sttl_at _ c4 1 [SX.hb] w5x HL5.out).mono ?_
     rintro e w6 ⟨rfl,hb6⟩
     have HB6:=Lib.hid (HB5.out.trans (hb6.mono HB5.out.size))
     have HR6:=Lib.hid (HR5.out.goes hb6)
     clear hb6)
  | (go_at_call 34
     refine (seq_at (w:=(w4.alloc (.cells #[.string ⟨#[104,46,98,58,56,48]⟩] 9))) A5 (some ⟨w4.heap.size,0,none⟩) c5 1 1 1 [[104,46,98,58,56,48]] [[104,46,98,58,56,48]] true (by simp) rfl rfl (HX4.out.goes (bl_new w4 _)) (Rd.lit_top0 w4 9 (sc [[104,46,98,58,56,48]]) 1 rfl) (by omega) (by omega)).mono ?_
     rintro e w5x ⟨rfl,qq,hqq⟩
     obtain ⟨w5,hw5⟩:∃ w5,w5=((w4.alloc (.cells #[.string ⟨#[104,46,98,58,56,48]⟩] 9))).drewN qq:=⟨_,rfl⟩
     have hb45:Below w4.heap.size w4 w5:=by rw [hw5];exact bl_drewN (bl_new w4 _) qq
     rw [←hw5] at hqq
     subst hqq
     have HL5:=Lib.hid (HL4.out.goes hb45)
     have HR5:=Lib.hid (HR4.out.goes hb45)
     have HB5:=Lib.hid (HB4.out.trans (hb45.mono HB4.out.size))
     clear hb45 hw5)
  | (go_at_call 29
     refine (texts_at _ c4 1 [SX.hb] w3 HL3.out (fun x hx=>by rw [List.mem_singleton] at hx;subst hx;exact ItoOk.small w3 80 (by omega))).mono ?_
     rw [HTX.out]
     rintro e w4 ⟨v4,rfl,ho4,hb4⟩
     obtain ⟨A5,c5,rfl,hc5,hr5⟩:=Ow.form6 ho4 1 rfl
     have HX4:=Lib.hid hr5
     have HL4:=Lib.hid (HL3.out.goes hb4)
     have HR4:=Lib.hid (HR3.out.goes hb4)
     have HB4:=Lib.hid (HB3.out.trans (hb4.mono HB3.out.size))
     clear hr5 ho4 hb4)
  | (go_at_call 43
     refine (beq_at2 A3 A1 c3 c1 LQ LQ Q Q true w3 (by simp) HLQ.out.symm HLQ.out.symm HK3.out HR3.out).mono ?_
     rintro e w3 ⟨rfl,rfl⟩))
 have hz6:=HB6.out.size
 have HTb:=Lib.hid (Vx.new w6 97 sawTab)
 have hb67:=bl_new w6 (.cells sawTab.toArray 97)
 have HR7:=Lib.hid (HR6.out.goes hb67)
 have HB7:=Lib.hid (HB6.out.trans (hb67.mono HB6.out.size))
 obtain ⟨GT,hGT⟩:∃ G,G=w6.heap.size:=⟨_,rfl⟩
 have e6:w6.alloc (.cells #[.int .u16 258,.int .u16 33280,.int .u16 80,.int .i64 183,.int .u16 259,.int .u16 32768,.int .u16 80,.int .i64 182,.int .u16 258,.int .u16 32771,.int .u16 80,.int .i64 184,.int .u16 258,.int .u16 32768,.int .u16 0,.int .i64 185] 97)=w6.alloc (.cells sawTab.toArray 97):=rfl
 rw [e6,←hGT]
 rw [←hGT] at HTb
 generalize w6.alloc (.cells sawTab.toArray 97)=w7 at HTb HR7 HB7 ⊢
 clear hb67 hGT hz6 e6 HR6 HB6 HL3 HR3 HK3 HB3 x0 x1 x2 x3 x4 hc hb KE KA HTX HT1
 go_loopw [72] (fun v72 wr=>∃ k:Nat,k≤4∧v72 = .int .i64 k∧Hid (Below w7.heap.size w7 wr)) (fun v72 _=>4 - (intOf v72).toNat)
 case atStart=>exact ⟨0,by omega,rfl,Lib.hid (Below.refl _ _)⟩
 case round=>
  obtain ⟨k,hk,rfl,HB⟩:=hrel
  rcases Nat.lt_or_ge k 4 with hlt | hge
  ·have hT:=HTb.out.below HB.out HTb.out.lt
   obtain ⟨id,fl,po,er,hid,hfl,hpo,r0,r1,r2,r3,htk⟩:=saw_row k hlt
   rw [←HQ.out] at htk
   have c0:wr.cell? ⟨GT,k*4,none⟩=some (.int .u16 (id:Int)):=by rw [hT.cell];exact r0
   have c1_:wr.cell? ⟨GT,k*4+1,none⟩=some (.int .u16 (fl:Int)):=by rw [hT.cell];exact r1
   have c2_:wr.cell? ⟨GT,k*4+2,none⟩=some (.int .u16 (po:Int)):=by rw [hT.cell];exact r2
   have c3_:wr.cell? ⟨GT,k*4+3,none⟩=some (.int .i64 (er:Int)):=by rw [hT.cell];exact r3
   obtain ⟨N,hN⟩:∃ N,N=formM (SX.M id fl po):=⟨_,rfl⟩
   have hNl:N.length≤4096:=by rw [hN];exact (SX.fine hid hfl hpo).len
   rw [←hN] at htk
   have kx:=sexample_at id fl po (wr.alloc (.cells #[.int .u16 (id:Int),.int .u16 (fl:Int),.int .u16 (po:Int),.int .i64 (er:Int)] 97)) hid hfl hpo
   rw [←hN] at kx
   have KX:=Lib.hid kx
   have HTK:=Lib.hid htk
   obtain ⟨LN,hLN⟩:∃ L,L=N.length:=⟨_,rfl⟩
   rw [←hLN] at hNl
   have HLN:=Lib.hid hLN
   have HV8:=Lib.hid (Vx.new wr 97 [.int .u16 (id:Int),.int .u16 (fl:Int),.int .u16 (po:Int),.int .i64 (er:Int)])
   have HR8:=Lib.hid ((HR7.out.goes HB.out).goes (bl_new wr (.cells #[.int .u16 (id:Int),.int .u16 (fl:Int),.int .u16 (po:Int),.int .i64 (er:Int)] 97)))
   have HB8:=Lib.hid (HB.out.trans ((bl_new wr (.cells #[.int .u16 (id:Int),.int .u16 (fl:Int),.int .u16 (po:Int),.int .i64 (er:Int)] 97)).mono HB.out.size))
   clear hN r0 r1 r2 r3 htk kx hLN hT hid hfl hpo
   go_wp2_with (first
    | (go_at_call 35
       refine (stake_at A1 A9 c1 c9 LQ LN Q N w9 HLQ.out.symm HLN.out.symm HR9.out HN9.out hc1 hc9 (by omega) (by omega)).mono ?_
       rw [HTK.out]
       rintro e w10 ⟨v10,rfl,_,_,_,hb10⟩
       have hv10:=HV9.out.below hb10 HV9.out.lt
       have e3:w10.cell? ⟨wr.heap.size,3,none⟩=some (.int .i64 (er:Int)):=hv10.cell 3
       have HB10:=Lib.hid (HB9.out.trans (hb10.mono HB9.out.size))
       clear hv10 hb10)
    | (go_at_call 19
       refine KX.out.mono ?_
       rintro e w9 ⟨vq,vr,rfl,ho1,ho1r,hb9⟩
       obtain ⟨A8,c8,rfl,_,_⟩:=Ow.form7 ho1 Q.length (by rw [bc_length,HQ.out])
       obtain ⟨A9,c9,rfl,hc9,hr9⟩:=Ow.form7 ho1r LN (by rw [bc_length,HLN.out])
       have HN9:=Lib.hid hr9
       have HR9:=Lib.hid (HR8.out.goes hb9)
       have HV9:=Lib.hid (HV8.out.below hb9 HV8.out.lt)
       have HB9:=Lib.hid (HB8.out.trans (hb9.mono HB8.out.size))
       clear ho1 ho1r hb9 hr9))
   go_roundw
   case rel=>
    repeat apply Exists.intro
    refine ⟨⟨k+1,by omega,by go_num,HB10⟩,rfl⟩
   case measure=>simp [intOf];omega
  ·have hk4:k=4:=by omega
   subst hk4
   have hza:=HB.out.size
   have hB8:=HB7.out.trans (HB.out.mono HB7.out.size)
   clear HB HTb HR7 HB7 HQ HLQ HLR hQl hRl
   go_wp2_with fail
   have e9:(wr.alloc (.cells #[.string ⟨#[]⟩,.int .i64 0,.int .i64 1,.int .i64 3,.int .u32 0,.string ⟨#[]⟩,.int .i64 0,.int .i64 1,.int .i64 0,.int .u32 0,.string ⟨#[]⟩,.int .i64 0,.int .i64 2,.int .i64 9,.int .u32 0] 31)).alloc (.cells #[.int .i64 1,.int .i64 0,.int .i64 0,.int .i64 0,.int .i64 1] 3)=(wr.alloc (.cells (acs three).toArray 31)).alloc (.cells sawInts.toArray 3):=rfl
   have hb9:=bl_new wr (.cells (acs three).toArray 31)
   have hb10:=bl_new (wr.alloc (.cells (acs three).toArray 31)) (.cells sawInts.toArray 3)
   have hl10:=(AsRd.lit wr three 3 rfl (by omega) three_ok).goes hb10
   have hv10:=Vx.new (wr.alloc (.cells (acs three).toArray 31)) 3 sawInts
   have hs9:wr.heap.size+1=(wr.alloc (.cells (acs three).toArray 31)).heap.size:=by simp
   have HB10:=Lib.hid (hB8.trans ((hb9.trans (hb10.mono hb9.size)).mono hB8.size))
   rw [e9,hs9]
   obtain ⟨G3,hG3⟩:∃ G,G=wr.heap.size:=⟨_,rfl⟩
   obtain ⟨G5,hG5⟩:∃ G,G=(wr.alloc (.cells (acs three).toArray 31)).heap.size:=⟨_,rfl⟩
   rw [←hG3,←hG5]
   rw [←hG3] at hl10
   rw [←hG5] at hv10
   generalize (wr.alloc (.cells (acs three).toArray 31)).alloc (.cells sawInts.toArray 3)=w10 at hl10 hv10 HB10 ⊢
   have HL10:=Lib.hid hl10
   have HV10:=Lib.hid hv10
   clear hl10 hv10 hb9 hb10 hs9 e9 hG3 hG5 hza hB8
   go_loopw [103] (fun v103 wr=>∃ k:Nat,k≤5∧v103 = .int .i64 k∧Hid (Below w10.heap.size w10 wr)) (fun v103 _=>5 - (intOf v103).toNat)
   case atStart=>exact ⟨0,by omega,rfl,Lib.hid (Below.refl _ _)⟩
   case round=>
    obtain ⟨k,hk,rfl,HB⟩:=hrel
    rcases Nat.lt_or_ge k 5 with hlt | hge
    ·obtain ⟨j,hj,hji,hpk⟩:=saw_pick k hlt
     have hj3:j<3:=hj
     have c0:wr.cell? ⟨G5,k,none⟩=some (.int .i64 (j:Int)):=by rw [(HV10.out.below HB.out HV10.out.lt).cell];exact hji
     obtain ⟨b,o,e3,hb,hc⟩:=HL10.out.at_ hj3
     injection e3 with e3
     injection e3 with e3 e4
     subst e3 e4
     have hf:=hc hj
     obtain ⟨x,hx⟩:∃ x,x=three[j]'hj:=⟨_,rfl⟩
     rw [←hx] at hpk hf
     have KP:=Lib.hid (pick_at (some ⟨G3,0,none⟩) 3 3 k three wr (HL10.out.goes HB.out) (by omega))
     rw [hpk] at KP
     have HF:=Lib.hid hf
     have HBG:=Lib.hid hb
     clear hx hc hpk hji hf hb
     obtain ⟨xh,xpo,xpr,xwe,xttl⟩:=x
     rw [show (⟨xh,xpo,xpr,xwe,xttl⟩:Ad).cells.toArray=#[.string ⟨xh.toArray⟩,.int .i64 xpo,.int .i64 xpr,.int .i64 xwe,.int .u32 (xttl:Int)] from rfl] at KP
     go_upto_region 19 with (go_at_call 23
                             refine KP.out.mono ?_
                             rintro e w11 ⟨rfl,hb11⟩
                             have HB11:=Lib.hid (HB.out.trans (hb11.mono HB.out.size))
                             have hb11c:=hb11
                             clear hb11)
     have hv12:=Vx.new w11 31 [.string ⟨xh.toArray⟩,.int .i64 xpo,.int .i64 xpr,.int .i64 xwe,.int .u32 (xttl:Int)]
     have hb12:=bl_new w11 (.cells #[.string ⟨xh.toArray⟩,.int .i64 xpo,.int .i64 xpr,.int .i64 xwe,.int .u32 (xttl:Int)] 31)
     have HB12:=Lib.hid (HB11.out.trans (hb12.mono HB11.out.size))
     have hf12:=HF.out.below HB12.out HBG.out
     obtain ⟨G,hG⟩:∃ G,G=w11.heap.size:=⟨_,rfl⟩
     rw [←hG] at hv12 ⊢
     generalize w11.alloc (.cells #[.string ⟨xh.toArray⟩,.int .i64 xpo,.int .i64 xpr,.int .i64 xwe,.int .u32 (xttl:Int)] 31)=w12 at hv12 HB12 hf12 ⊢
     obtain ⟨f0,f1,f2,f3,f4⟩:=hf12.cells
     dsimp only at f0 f1 f2 f3 f4
     obtain ⟨d0,d1,d2,d3,d4⟩:=hv12.c5
     have hv12c:=hv12
     have hf12c:=hf12
     clear hb12 hv12 hf12 hG HB11 hb11c HF KP
     have hjI:(j:Int)<3:=by omega
     have hjJ:(0:Int)≤(j:Int):=by omega
     refine wp_region_held_drew (S:=fun W=>Five W G3 (0+j*5) ⟨xh,xpo,xpr,xwe,xttl⟩∧Vx W G 31 [.string ⟨xh.toArray⟩,.int .i64 xpo,.int .i64 xpr,.int .i64 xwe,.int .u32 (xttl:Int)]) (by kernel_rfl) ⟨hf12c,hv12c⟩ (fun hH=>?_)
     refine reg_take 0 (v:=?_) rfl (by kernel_rfl) (fun _ _ _ h=>h) (by rfl) hH ?_ ?_
     rotate_left
     ·intro w hSw;(try dsimp only at hSw);obtain ⟨s0,s1⟩:=hSw;obtain ⟨t0,t1,t2,t3,t4⟩:=s0.cells;obtain ⟨p0,p1,p2,p3,p4⟩:=s1.c5;dsimp only at t0 t1 t2 t3 t4;simp only [Nat.zero_add] at t0 t1 t2 t3 t4;go_simp;(try with_reducible rfl)
     (try simp only [Act.put,List.setIfInBounds_toArray,List.set_cons_zero,List.set_cons_succ])
     refine reg_take 1 (v:=?_) rfl (by kernel_rfl) (fun _ _ _ h=>h) (by rfl) hH ?_ ?_
     rotate_left
     ·intro w hSw;(try dsimp only at hSw);obtain ⟨s0,s1⟩:=hSw;obtain ⟨t0,t1,t2,t3,t4⟩:=s0.cells;obtain ⟨p0,p1,p2,p3,p4⟩:=s1.c5;dsimp only at t0 t1 t2 t3 t4;simp only [Nat.zero_add] at t0 t1 t2 t3 t4;go_simp;(try with_reducible rfl)
     (try simp only [Act.put,List.setIfInBounds_toArray,List.set_cons_zero,List.set_cons_succ])
     refine reg_take 2 (v:=?_) rfl (by kernel_rfl) (fun _ _ _ h=>h) (by rfl) hH ?_ ?_
     rotate_left
     ·intro w hSw;(try dsimp only at hSw);obtain ⟨s0,s1⟩:=hSw;obtain ⟨t0,t1,t2,t3,t4⟩:=s0.cells;obtain ⟨p0,p1,p2,p3,p4⟩:=s1.c5;dsimp only at t0 t1 t2 t3 t4;simp only [Nat.zero_add] at t0 t1 t2 t3 t4;go_simp;(try with_reducible rfl)
     (try simp only [Act.put,List.setIfInBounds_toArray,List.set_cons_zero,List.set_cons_succ])
     refine reg_take 3 (v:=?_) rfl (by kernel_rfl) (fun _ _ _ h=>h) (by rfl) hH ?_ ?_
     rotate_left
     ·intro w hSw;(try dsimp only at hSw);obtain ⟨s0,s1⟩:=hSw;obtain ⟨t0,t1,t2,t3,t4⟩:=s0.cells;obtain ⟨p0,p1,p2,p3,p4⟩:=s1.c5;dsimp only at t0 t1 t2 t3 t4;simp only [Nat.zero_add] at t0 t1 t2 t3 t4;go_simp;(try with_reducible rfl)
     (try simp only [Act.put,List.setIfInBounds_toArray,List.set_cons_zero,List.set_cons_succ])
     refine reg_take 4 (v:=?_) rfl (by kernel_rfl) (fun _ _ _ h=>h) (by rfl) hH ?_ ?_
     rotate_left
     ·intro w hSw;(try dsimp only at hSw);obtain ⟨s0,s1⟩:=hSw;obtain ⟨t0,t1,t2,t3,t4⟩:=s0.cells;obtain ⟨p0,p1,p2,p3,p4⟩:=s1.c5;dsimp only at t0 t1 t2 t3 t4;simp only [Nat.zero_add] at t0 t1 t2 t3 t4;go_simp;(try with_reducible rfl)
     (try simp only [Act.put,List.setIfInBounds_toArray,List.set_cons_zero,List.set_cons_succ])
     refine reg_take 5 (v:=?_) rfl (by kernel_rfl) (fun _ _ _ h=>h) (by rfl) hH ?_ ?_
     rotate_left
     ·intro w hSw;(try dsimp only at hSw);obtain ⟨s0,s1⟩:=hSw;obtain ⟨t0,t1,t2,t3,t4⟩:=s0.cells;obtain ⟨p0,p1,p2,p3,p4⟩:=s1.c5;dsimp only at t0 t1 t2 t3 t4;simp only [Nat.zero_add] at t0 t1 t2 t3 t4;go_simp;(try with_reducible rfl)
     (try simp only [Act.put,List.setIfInBounds_toArray,List.set_cons_zero,List.set_cons_succ])
     refine reg_take 6 (v:=?_) rfl (by kernel_rfl) (fun _ _ _ h=>h) (by rfl) hH ?_ ?_
     rotate_left
     ·intro w hSw;(try dsimp only at hSw);obtain ⟨s0,s1⟩:=hSw;obtain ⟨t0,t1,t2,t3,t4⟩:=s0.cells;obtain ⟨p0,p1,p2,p3,p4⟩:=s1.c5;dsimp only at t0 t1 t2 t3 t4;simp only [Nat.zero_add] at t0 t1 t2 t3 t4;go_simp;(try with_reducible rfl)
     (try simp only [Act.put,List.setIfInBounds_toArray,List.set_cons_zero,List.set_cons_succ])
     refine reg_take 7 (v:=?_) rfl (by kernel_rfl) (fun _ _ _ h=>h) (by rfl) hH ?_ ?_
     rotate_left
     ·intro w hSw;(try dsimp only at hSw);obtain ⟨s0,s1⟩:=hSw;obtain ⟨t0,t1,t2,t3,t4⟩:=s0.cells;obtain ⟨p0,p1,p2,p3,p4⟩:=s1.c5;dsimp only at t0 t1 t2 t3 t4;simp only [Nat.zero_add] at t0 t1 t2 t3 t4;go_simp;(try with_reducible rfl)
     (try simp only [Act.put,List.setIfInBounds_toArray,List.set_cons_zero,List.set_cons_succ])
     refine reg_take 8 (v:=(.bool false)) rfl (by kernel_rfl) (fun _ _ _ h=>h) (by rfl) hH ?_ ?_
     ·intro w hSw;(try dsimp only at hSw);obtain ⟨s0,s1⟩:=hSw;obtain ⟨t0,t1,t2,t3,t4⟩:=s0.cells;obtain ⟨p0,p1,p2,p3,p4⟩:=s1.c5;dsimp only at t0 t1 t2 t3 t4;simp only [Nat.zero_add] at t0 t1 t2 t3 t4;go_simp;(try simp)
     (try simp only [Act.put,List.setIfInBounds_toArray,List.set_cons_zero,List.set_cons_succ])
     refine reg_take 9 (v:=(.bool false)) rfl (by kernel_rfl) (fun _ _ _ h=>h) (by rfl) hH ?_ ?_
     ·intro w hSw;(try dsimp only at hSw);obtain ⟨s0,s1⟩:=hSw;obtain ⟨t0,t1,t2,t3,t4⟩:=s0.cells;obtain ⟨p0,p1,p2,p3,p4⟩:=s1.c5;dsimp only at t0 t1 t2 t3 t4;simp only [Nat.zero_add] at t0 t1 t2 t3 t4;go_simp;(try simp)
     (try simp only [Act.put,List.setIfInBounds_toArray,List.set_cons_zero,List.set_cons_succ])
     refine wpAnyH_done (by kernel_rfl) ?_ _
     go_wp2_with fail
     go_roundw
     case rel=>
      repeat apply Exists.intro
      refine ⟨⟨k+1,by omega,by go_num,Lib.hid (HB12.out.trans (bl_drew' HB12.out.size))⟩,rfl⟩
     case measure=>simp [intOf];omega
    ·have hk5:k=5:=by omega
     subst hk5
     go_wp2_with (go_at_call 25
                  refine (tiers_at (some ⟨G3,0,none⟩) 3 3 three wr (HL10.out.goes HB.out)).mono ?_
                  rintro e w11 ⟨A11,c11,rows,rfl,hrows,_,_,_,hb11⟩
                  have hrl:rows.length=2:=by rw [←List.length_map (f:=ARow.l),hrows];exact three_two
                  rw [hrl])
     go_ret
     exact ⟨rfl,(HB10.out.trans (HB.out.mono HB10.out.size)).trans (hb11.mono (HB10.out.trans (HB.out.mono HB10.out.size)).size)⟩
end Go.Proofs.YtlipmlbijddopaaGreatDoor
