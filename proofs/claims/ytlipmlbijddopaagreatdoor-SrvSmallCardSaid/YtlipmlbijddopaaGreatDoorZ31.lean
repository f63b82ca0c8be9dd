/-
  SrvTk2; SrvSa; SrvTakes
-/
import Derived.Test.YtlipmlbijddopaaGreatDoorZ30
import Derived.Test.YtlipmlbijddopaaGreatDoorZ26
import Derived.Test.YtlipmlbijddopaaGreatDoorZ28
set_option linter.unusedVariables false
set_option linter.unusedSimpArgs false
namespace Go.Proofs.YtlipmlbijddopaaGreatDoor
open Go.RowKit
set_option maxRecDepth 100000 in
set_option maxHeartbeats 16000000 in
theorem rtake_at (A1 A2:Option Addr) (c1 c2:Nat) (q r:List UInt8) (w:World) (h1:Rd w w.heap.size A1 q.length (bc q)) (h2:Rd w w.heap.size A2 r.length (bc r)) (hc1:q.length≤c1) (hc2:r.length≤c2) (hb1:q.length≤140737488355328) (hb2:r.length≤140737488355328) :
 Calls Tryz.prog 41 #[.slice A1 q.length c1,.slice A2 r.length c2] w fun e w'=>∃ v,e = .returned (.tuple #[v,.int .i64 ((Srv.takeN q r).2:Int)])∧OwM w' w.heap.size 102 5 v (Srv.takeN q r).1.length (acs (Srv.takeN q r).1)∧Below w.heap.size w w':=by
 obtain ⟨T,hT⟩:∃ T,T=Srv.takeN q r:=⟨_,rfl⟩
 rw [←hT]
 obtain ⟨pq,hpq⟩:∃ p,readM q=p:=⟨_,rfl⟩
 obtain ⟨mq,eq⟩:=pq
 obtain ⟨pr,hpr⟩:∃ p,readM r=p:=⟨_,rfl⟩
 obtain ⟨mr,er⟩:=pr
 have hTe:T=if (decide (eq=0) && Srv.askedM mq)=false then ([],181) else if er≠0 then ([],er) else Srv.takeM mq mr:=by
  rw [hT];unfold Srv.takeN Srv.askedB;rw [hpq,hpr]
 have HTE:=Lib.hid hTe
 have KQ:Hid (Calls Tryz.prog 92 #[.slice A1 q.length c1] w fun e w'=>∃ x:MR,x.m=mq∧e = .returned (.tuple #[.agg x.cells.toArray,.int .i64 (eq:Int)])∧MRd w' w'.heap.size x∧Below w.heap.size w w'):=Lib.hid ((fread_at A1 c1 q w h1 hc1 hb1).mono (by
  rintro e w' ⟨x,hx,rfl,ho,hb⟩
  exact ⟨x,by rw [hx,hpq],by rw [hpq],readF_mrd ho hx,hb⟩))
 have KR:Hid (∀ W,Below w.heap.size w W→Calls Tryz.prog 92 #[.slice A2 r.length c2] W fun e w'=>∃ x:MR,x.m=mr∧e = .returned (.tuple #[.agg x.cells.toArray,.int .i64 (er:Int)])∧MRd w' w'.heap.size x∧Below W.heap.size W w'):=Lib.hid (fun W hW=>(fread_at A2 c2 r W (h2.goes hW) hc2 hb2).mono (by
  rintro e w' ⟨x,hx,rfl,ho,hb⟩
  exact ⟨x,by rw [hx,hpr],by rw [hpr],readF_mrd ho hx,hb⟩))
 have HPR:=Lib.hid hpr
 obtain ⟨L1,hL1⟩:∃ L,L=q.length:=⟨_,rfl⟩
 obtain ⟨L2,hL2⟩:∃ L,L=r.length:=⟨_,rfl⟩
 rw [←hL1] at KQ
 rw [←hL2] at KR
 rw [←hL1,←hL2]
 have mixed:Tryz.prog.follows .mixedOrders=true:=by kernel_rfl
 clear hT hTe hpq hpr h1 h2 hc1 hc2 hb1 hb2 hL1 hL2
 go_enter Tryz.func41,Tryz.ntmps41
 go_upto_region 2 with (go_at_call 92
                        refine KQ.out.mono ?_
                        rintro e w1 ⟨x,hxm,rfl,hxr,hb1⟩
                        have HXM:=Lib.hid hxm
                        have HXR:=Lib.hid hxr
                        have HB1:=Lib.hid hb1
                        obtain ⟨X,hX⟩:∃ X:MR,X=x:=⟨_,rfl⟩
                        rw [←hX] at HXM HXR
                        obtain ⟨idX,flX,qAX,qcX,qsX,aAX,acX,raX,bAX,bdX,rbX,cAX,ccX,rcX⟩:=x
                        have HXE:=Lib.hid hX
                        clear hxm hxr hb1 hX
                        unfold MR.cells
                        dsimp only)
 have hvx:=Vx.new w1 47 [.int .u16 (idX:Int),.int .u16 (flX:Int),.slice qAX qsX.length qcX,.slice aAX raX.length acX,.slice bAX rbX.length bdX,.slice cAX rcX.length ccX]
 have hb12:=bl_new w1 (.cells #[.int .u16 (idX:Int),.int .u16 (flX:Int),.slice qAX qsX.length qcX,.slice aAX raX.length acX,.slice bAX rbX.length bdX,.slice cAX rcX.length ccX] 47)
 have HX2:=Lib.hid ((HXR.out.below hb12).more hb12.size)
 have HB2:=Lib.hid (HB1.out.trans (hb12.mono HB1.out.size))
 obtain ⟨GX,hGX⟩:∃ G,G=w1.heap.size:=⟨_,rfl⟩
 rw [←hGX] at hvx ⊢
 generalize w1.alloc (.cells #[.int .u16 (idX:Int),.int .u16 (flX:Int),.slice qAX qsX.length qcX,.slice aAX raX.length acX,.slice bAX rbX.length bdX,.slice cAX rcX.length ccX] 47)=w2 at hvx HX2 HB2 ⊢
 have HVX2:=Lib.hid hvx
 clear hvx hb12 hGX HXR HB1 KQ
 obtain ⟨x0,x1,x2,x3,x4,x5⟩:=HVX2.out.c6
 have hXq:=HX2.out.2.2.1
 have hXa:=HX2.out.2.2.2.1.2.2.2.1
 have hXb:=HX2.out.2.2.2.2.1.2.2.2.1
 have hXc:=HX2.out.2.2.2.2.2.2.2.2.1
 have hXf:=HX2.out.2.1
 rw [HXE.out] at hXq hXa hXb hXc hXf
 dsimp only at hXq hXa hXb hXc hXf
 have hqn:=hXq.2.2.2.1
 have hXm:mq.id=idX∧mq.fl=flX∧mq.qs=qsX.map QR.q∧mq.r0.length=raX.length∧mq.r1.length=rbX.length∧mq.r2.length=rcX.length:=by
  rw [←HXM.out,HXE.out];simp [MR.m]
 have HXm:=Lib.hid hXm
 have HNO:Hid (¬ (eq=0∧flX / 32768 % 2=0∧qsX.length=1∧raX.length+rbX.length+rcX.length=0∧(Srv.q0 mq).ty=33∧(Srv.q0 mq).cl=1)→T=([],181)):=Lib.hid (fun hno=>by
  rw [HTE.out,if_pos]
  rw [Bool.eq_false_iff]
  intro h
  obtain ⟨-,e1,e2,e3,e4,e5⟩:=hXm
  simp only [Srv.askedM,Bool.and_eq_true,decide_eq_true_eq,e1,e2,e3,e4,e5,List.length_map] at h
  exact hno h)
 have HYS:Hid ((eq=0∧flX / 32768 % 2=0∧qsX.length=1∧raX.length+rbX.length+rcX.length=0∧(Srv.q0 mq).ty=33∧(Srv.q0 mq).cl=1)→Srv.askedM mq=true∧T=if er≠0 then ([],er) else Srv.takeM mq mr):=Lib.hid (fun hy=>by
  have hk:(decide (eq=0) && Srv.askedM mq)=true:=by
   obtain ⟨-,e1,e2,e3,e4,e5⟩:=hXm
   simp only [Srv.askedM,Bool.and_eq_true,decide_eq_true_eq,e1,e2,e3,e4,e5,List.length_map]
   exact hy
  refine ⟨(Bool.and_eq_true_iff.1 hk).2,?_⟩
  rw [HTE.out,if_neg (by rw [hk];simp)])
 have HXQ:=Lib.hid hXq
 clear hXq hXm
 by_cases he:eq=0
 case neg=>
  have s0:((eq:Int) != 0)=true:=by rw [bne_iff_ne];omega
  have HTV:Hid (T=([],181)):=Lib.hid (HNO.out (fun h=>he h.1))
  go_wp2_with fail
  go_ret2
  exact ⟨_,by rw [HTV.out];rfl,by rw [HTV.out];exact OwM.nil _ _ _ _,HB2.out⟩
 have s0:((eq:Int) != 0)=false:=by rw [he];rfl
 by_cases h15:flX / 32768 % 2=0
 case neg=>
  have K15:Hid (∀ W,Calls Tryz.prog 93 #[.int .u16 (flX:Int),.int .u16 32768] W fun e w'=>e = .returned (.bool true)∧W=w'):=Lib.hid (fun W=>by have h:=rbit15_at flX W hXf;rw [decide_eq_true (by omega)] at h;exact h)
  have HTV:Hid (T=([],181)):=Lib.hid (HNO.out (fun h=>h15 h.2.1))
  go_wp2_with (go_at_call 93;refine (K15.out _).mono ?_;rintro e w3 ⟨rfl,rfl⟩)
  go_ret2
  exact ⟨_,by rw [HTV.out];rfl,by rw [HTV.out];exact OwM.nil _ _ _ _,HB2.out⟩
 have K15:Hid (∀ W,Calls Tryz.prog 93 #[.int .u16 (flX:Int),.int .u16 32768] W fun e w'=>e = .returned (.bool false)∧W=w'):=Lib.hid (fun W=>by have h:=rbit15_at flX W hXf;rw [decide_eq_false (by omega)] at h;exact h)
 by_cases hq1:qsX.length=1
 case neg=>
  have s2:((qsX.length:Int) != 1)=true:=by rw [bne_iff_ne];omega
  have HTV:Hid (T=([],181)):=Lib.hid (HNO.out (fun h=>hq1 h.2.2.1))
  go_wp2_with (go_at_call 93;refine (K15.out _).mono ?_;rintro e w3 ⟨rfl,rfl⟩)
  go_ret2
  exact ⟨_,by rw [HTV.out];rfl,by rw [HTV.out];exact OwM.nil _ _ _ _,HB2.out⟩
 have s2:((qsX.length:Int) != 1)=false:=by rw [hq1];rfl
 by_cases hsum:raX.length+rbX.length+rcX.length=0
 case neg=>
  have s3:decide ((0:Int)<(raX.length:Int)+(rbX.length:Int)+(rcX.length:Int))=true:=by simp only [decide_eq_true_eq];omega
  have HTV:Hid (T=([],181)):=Lib.hid (HNO.out (fun h=>hsum h.2.2.2.1))
  go_wp2_with (go_at_call 93;refine (K15.out _).mono ?_;rintro e w3 ⟨rfl,rfl⟩)
  go_ret2
  exact ⟨_,by rw [HTV.out];rfl,by rw [HTV.out];exact OwM.nil _ _ _ _,HB2.out⟩
 have s3:decide ((0:Int)<(raX.length:Int)+(rbX.length:Int)+(rcX.length:Int))=false:=by simp only [decide_eq_false_iff_not];omega
 obtain ⟨y,hy⟩:∃ y,qsX=[y]:=List.length_eq_one_iff.1 hq1
 obtain ⟨b0,oo,hqA,hbq,hqc⟩:=HXQ.out.at_ (k:=0) (by omega)
 obtain ⟨q0,q1,q2⟩:=hqc (by omega)
 have hqy:=HXQ.out.2.2.2.2 y (by rw [hy];exact List.mem_cons_self ..)
 have hq0:Srv.q0 mq=y.q:=by unfold Srv.q0;rw [HXm.out.2.2.1,hy];rfl
 rw [hq0] at HNO HYS
 have HQ0:=Lib.hid hq0
 subst hy
 subst hqA
 simp only [Nat.zero_mul,Nat.add_zero,List.getElem_cons_zero] at q0 q1 q2
 obtain ⟨nA,nc,⟨nm,tyq,clq⟩⟩:=y
 dsimp only at q0 q1 q2 hqy HNO HYS
 obtain ⟨nn,hnn⟩:∃ nn,nn=nm.length:=⟨_,rfl⟩
 rw [←hnn] at q0
 have HNN:=Lib.hid hnn.symm
 have HNM:=Lib.hid hqy.1
 clear hqc hqy hnn hq0
 by_cases hty:tyq=33
 case neg=>
  have s4:((tyq:Int) != 33)=true:=by rw [bne_iff_ne];omega
  have HTV:Hid (T=([],181)):=Lib.hid (HNO.out (fun h=>hty h.2.2.2.2.1))
  go_wp2_with (go_at_call 93;refine (K15.out _).mono ?_;rintro e w3 ⟨rfl,rfl⟩)
  go_ret2
  exact ⟨_,by rw [HTV.out];rfl,by rw [HTV.out];exact OwM.nil _ _ _ _,HB2.out⟩
 have s4:((tyq:Int) != 33)=false:=by rw [hty];rfl
 by_cases hcl:clq=1
 case neg=>
  have s5:((clq:Int) != 1)=true:=by rw [bne_iff_ne];omega
  have HTV:Hid (T=([],181)):=Lib.hid (HNO.out (fun h=>hcl h.2.2.2.2.2))
  go_wp2_with (go_at_call 93;refine (K15.out _).mono ?_;rintro e w3 ⟨rfl,rfl⟩)
  go_ret2
  exact ⟨_,by rw [HTV.out];rfl,by rw [HTV.out];exact OwM.nil _ _ _ _,HB2.out⟩
 have s5:((clq:Int) != 1)=false:=by rw [hcl];rfl
 obtain ⟨hask,hTe⟩:=HYS.out ⟨he,h15,hq1,hsum,hty,hcl⟩
 have HASK:=Lib.hid hask
 have HTE2:=Lib.hid hTe
 clear hask hTe HNO HYS HTE he h15 hsum hty hcl
 go_upto_region 5 with (first
  | (go_at_call 92
     refine (KR.out _ HB2.out).mono ?_
     rintro e w3 ⟨y,hym,rfl,hyr,hb3⟩
     have HYM:=Lib.hid hym
     have HYR:=Lib.hid hyr
     have HB3:=Lib.hid (HB2.out.trans (hb3.mono HB2.out.size))
     have HX3:=Lib.hid ((HX2.out.below hb3).more hb3.size)
     have HVX3:=Lib.hid (HVX2.out.below hb3 HVX2.out.lt)
     obtain ⟨Y,hY⟩:∃ Y:MR,Y=y:=⟨_,rfl⟩
     rw [←hY] at HYM HYR
     obtain ⟨idY,flY,qAY,qcY,qsY,aAY,acY,raY,bAY,bdY,rbY,cAY,ccY,rcY⟩:=y
     have HYE:=Lib.hid hY
     clear hym hyr hb3 hY
     unfold MR.cells
     dsimp only)
  | (go_at_call 93;refine (K15.out _).mono ?_;rintro e w3 ⟨rfl,rfl⟩))
 have hvy:=Vx.new w3 47 [.int .u16 (idY:Int),.int .u16 (flY:Int),.slice qAY qsY.length qcY,.slice aAY raY.length acY,.slice bAY rbY.length bdY,.slice cAY rcY.length ccY]
 have hb34:=bl_new w3 (.cells #[.int .u16 (idY:Int),.int .u16 (flY:Int),.slice qAY qsY.length qcY,.slice aAY raY.length acY,.slice bAY rbY.length bdY,.slice cAY rcY.length ccY] 47)
 have HY4:=Lib.hid ((HYR.out.below hb34).more hb34.size)
 have HX4:=Lib.hid ((HX3.out.below hb34).more hb34.size)
 have HVX4:=Lib.hid (HVX3.out.below hb34 HVX3.out.lt)
 have HB4:=Lib.hid (HB3.out.trans (hb34.mono HB3.out.size))
 obtain ⟨GY,hGY⟩:∃ G,G=w3.heap.size:=⟨_,rfl⟩
 rw [←hGY] at hvy ⊢
 generalize w3.alloc (.cells #[.int .u16 (idY:Int),.int .u16 (flY:Int),.slice qAY qsY.length qcY,.slice aAY raY.length acY,.slice bAY rbY.length bdY,.slice cAY rcY.length ccY] 47)=w4 at hvy HX4 HY4 HB4 HVX4 ⊢
 have HVY4:=Lib.hid hvy
 clear hvy hb34 hGY HYR HB3 HX3 HVX3 HVX2 HX2 HB2 KR K15 x0 x1 x2 x3 x4 x5 q0 q1 q2
 by_cases he2:er=0
 case neg=>
  have s0:((er:Int) != 0)=true:=by rw [bne_iff_ne];omega
  have HTV:Hid (T=([],er)):=Lib.hid (by rw [HTE2.out,if_pos he2])
  go_wp2_with fail
  go_ret2
  exact ⟨_,by rw [HTV.out];rfl,by rw [HTV.out];exact OwM.nil _ _ _ _,HB4.out⟩
 have s0':((er:Int) != 0)=false:=by rw [he2];rfl
 have HTE3:Hid (T=Srv.takeM mq mr):=Lib.hid (by rw [HTE2.out,if_neg (by omega)])
 have HE2:=Lib.hid he2
 clear he2 s0 s2 s3 s4 s5
 have hYq:=HY4.out.2.2.1
 have hYf:=HY4.out.2.1
 rw [HYE.out] at hYq hYf
 dsimp only at hYq hYf
 have hYn:=hYq.2.2.2.1
 have hYm:mr.id=idY∧mr.fl=flY∧mr.qs=qsY.map QR.q:=by rw [←HYM.out,HYE.out];simp [MR.m]
 have HYm:=Lib.hid hYm
 obtain ⟨REST,hREST⟩:∃ R,R=(if flY / 512 % 2=1 then ([],183) else if flY % 16≠0 then ([],184) else if Srv.okA (answersM mr nm 33)=false then ([],185) else (Srv.onceA (Srv.sortA (Srv.addA (answersM mr nm 33))),0):List Ad × Nat):=⟨_,rfl⟩
 have hown:=Srv.own_iff (m:=mr) HASK.out
 rw [HQ0.out,HXm.out.1,hYm.1,hYm.2.2,List.length_map] at hown
 dsimp only at hown
 have HNO2:Hid (¬ (idY=idX∧flY / 32768 % 2=1∧qsY.length=1∧(Srv.q0 mr).ty=33∧(Srv.q0 mr).cl=1∧(Srv.q0 mr).nm=nm)→T=([],182)):=Lib.hid (fun hno=>by
  rw [HTE3.out]
  unfold Srv.takeM
  rw [hYm.2.1]
  refine if_pos ?_
  by_cases h:flY / 32768 % 2=0
  ·exact .inl h
  ·refine .inr ?_
   rw [Bool.eq_false_iff]
   intro hs
   obtain ⟨k1,k2,k3,k4,k5⟩:=hown.1 hs
   exact hno ⟨k1,by omega,k2,k3,k4,k5⟩)
 have HYS2:Hid ((idY=idX∧flY / 32768 % 2=1∧qsY.length=1∧(Srv.q0 mr).ty=33∧(Srv.q0 mr).cl=1∧(Srv.q0 mr).nm=nm)→T=REST):=Lib.hid (fun hy=>by
  rw [HTE3.out,hREST]
  unfold Srv.takeM
  rw [hYm.2.1,HQ0.out]
  refine if_neg (fun h=>?_)
  rcases h with h | h
  ·have:=hy.2.1;omega
  ·have hs:=hown.2 ⟨hy.1,hy.2.2.1,hy.2.2.2.1,hy.2.2.2.2.1,hy.2.2.2.2.2⟩
   rw [hs] at h;cases h)
 have HREST:=Lib.hid hREST
 have HYQ:=Lib.hid hYq
 clear hYq hYm hREST hown
 go_upto_region 7 with fail
 obtain ⟨x0,x1,x2,x3,x4,x5⟩:=HVX4.out.c6
 obtain ⟨y0,y1,y2,y3,y4,y5⟩:=HVY4.out.c6
 by_cases hid:idY=idX
 case neg=>
  have t0:((idY:Int) != (idX:Int))=true:=by rw [bne_iff_ne];omega
  have HTV:Hid (T=([],182)):=Lib.hid (HNO2.out (fun h=>hid h.1))
  go_quiet (fail)
  go_wp2_with fail
  go_ret2
  exact ⟨_,by rw [HTV.out];rfl,by rw [HTV.out];exact OwM.nil _ _ _ _,bl_drewN HB4.out _⟩
 have t0:((idY:Int) != (idX:Int))=false:=by rw [hid];simp
 by_cases h15:flY / 32768 % 2=1
 case neg=>
  have KY:Hid (∀ W,Calls Tryz.prog 93 #[.int .u16 (flY:Int),.int .u16 32768] W fun e w'=>e = .returned (.bool false)∧∃ q,w'=W.drewN q):=Lib.hid (fun W=>(rbit15_at flY W hYf).mono (by rintro e w' ⟨rfl,rfl⟩;exact ⟨by rw [decide_eq_false (by omega)],0,rfl⟩))
  have HTV:Hid (T=([],182)):=Lib.hid (HNO2.out (fun h=>h15 h.2.1))
  go_quiet ((go_at_call 93;exact Calls.quiet_of (KY.out _)))
  go_wp2_with fail
  go_ret2
  exact ⟨_,by rw [HTV.out];rfl,by rw [HTV.out];exact OwM.nil _ _ _ _,bl_drewN HB4.out _⟩
 have KY:Hid (∀ W,Calls Tryz.prog 93 #[.int .u16 (flY:Int),.int .u16 32768] W fun e w'=>e = .returned (.bool true)∧∃ q,w'=W.drewN q):=Lib.hid (fun W=>(rbit15_at flY W hYf).mono (by rintro e w' ⟨rfl,rfl⟩;exact ⟨by rw [decide_eq_true (by omega)],0,rfl⟩))
 by_cases hyl:qsY.length=1
 case neg=>
  have t2:((qsY.length:Int) != 1)=true:=by rw [bne_iff_ne];omega
  have HTV:Hid (T=([],182)):=Lib.hid (HNO2.out (fun h=>hyl h.2.2.1))
  go_quiet ((go_at_call 93;exact Calls.quiet_of (KY.out _)))
  go_wp2_with fail
  go_ret2
  exact ⟨_,by rw [HTV.out];rfl,by rw [HTV.out];exact OwM.nil _ _ _ _,bl_drewN HB4.out _⟩
 have t2:((qsY.length:Int) != 1)=false:=by rw [hyl];rfl
 obtain ⟨z,hz⟩:∃ z,qsY=[z]:=List.length_eq_one_iff.1 hyl
 obtain ⟨bz,oz,hzA,hbz,hzc⟩:=HYQ.out.at_ (k:=0) (by omega)
 obtain ⟨z0,z1,z2⟩:=hzc (by omega)
 have hzy:=HYQ.out.2.2.2.2 z (by rw [hz];exact List.mem_cons_self ..)
 have hz0:Srv.q0 mr=z.q:=by unfold Srv.q0;rw [HYm.out.2.2,hz];rfl
 rw [hz0] at HNO2 HYS2
 subst hz
 subst hzA
 simp only [Nat.zero_mul,Nat.add_zero,List.getElem_cons_zero] at z0 z1 z2
 obtain ⟨zA_,zc,⟨zm,tyz,clz⟩⟩:=z
 dsimp only at z0 z1 z2 hzy HNO2 HYS2
 obtain ⟨zn,hzn⟩:∃ zn,zn=zm.length:=⟨_,rfl⟩
 rw [←hzn] at z0
 have hqx:=HX4.out.2.2.1
 rw [HXE.out] at hqx
 dsimp only at hqx
 obtain ⟨b0',oo',hqA',hbq',hqc'⟩:=hqx.at_ (k:=0) (by omega)
 injection hqA' with hqA'
 injection hqA' with hqA1 hqA2
 subst hqA1 hqA2
 have q0:=(hqc' (by omega)).1
 simp only [Nat.zero_mul,Nat.add_zero,List.getElem_cons_zero] at q0
 have hnm4:=(hqx.2.2.2.2 _ (List.mem_cons_self ..)).1
 dsimp only at q0 hnm4
 rw [HNN.out] at q0
 obtain ⟨cv,hcv⟩:∃ cv,cv=cmpN zm nm:=⟨_,rfl⟩
 have hc0:cv=0 ↔ zm=nm:=by rw [hcv];exact cmpN_eq zm nm
 have KC:Hid (∀ W,Below w4.heap.size w4 W→Calls Tryz.prog 94 #[.slice zA_ zn zc,.slice nA nn nc] W fun e w'=>e = .returned (.int .i64 cv)∧∃ q,w'=W.drewN q):=Lib.hid (fun W hW=>by
  rw [hzn,←HNN.out,hcv]
  exact rcmp_any zA_ nA zc nc zm nm W w4.heap.size (hzy.1.1.below hW) (hnm4.1.below hW) (Nat.le_trans (len_le_size zm) hzy.1.2.2) (Nat.le_trans (len_le_size nm) hnm4.2.2) (size_mem hzy.1.2.2) (size_mem hnm4.2.2))
 have KC:Hid (∀ m,Calls Tryz.prog 94 #[.slice zA_ zn zc,.slice nA nn nc] (w4.drewN m) fun e w'=>e = .returned (.int .i64 cv)∧∃ q,w'=(w4.drewN m).drewN q):=Lib.hid (fun m=>KC.out _ (bl_drewN (Below.refl _ _) m))
 have HNM4:=Lib.hid hnm4
 clear hzc hz0 hzn hcv hqx hqc' hzy hnm4
 by_cases hty:tyz=33
 case neg=>
  have t3:((tyz:Int) != 33)=true:=by rw [bne_iff_ne];omega
  have HTV:Hid (T=([],182)):=Lib.hid (HNO2.out (fun h=>hty h.2.2.2.1))
  go_quiet ((go_at_call 93;exact Calls.quiet_of (KY.out _)))
  go_wp2_with fail
  go_ret2
  exact ⟨_,by rw [HTV.out];rfl,by rw [HTV.out];exact OwM.nil _ _ _ _,bl_drewN HB4.out _⟩
 have t3:((tyz:Int) != 33)=false:=by rw [hty];rfl
 by_cases hcl:clz=1
 case neg=>
  have t4:((clz:Int) != 1)=true:=by rw [bne_iff_ne];omega
  have HTV:Hid (T=([],182)):=Lib.hid (HNO2.out (fun h=>hcl h.2.2.2.2.1))
  go_quiet ((go_at_call 93;exact Calls.quiet_of (KY.out _)))
  go_wp2_with fail
  go_ret2
  exact ⟨_,by rw [HTV.out];rfl,by rw [HTV.out];exact OwM.nil _ _ _ _,bl_drewN HB4.out _⟩
 have t4:((clz:Int) != 1)=false:=by rw [hcl];rfl
 by_cases hcv:cv=0
 case neg=>
  have t5:(cv != 0)=true:=by rw [bne_iff_ne];exact hcv
  have HTV:Hid (T=([],182)):=Lib.hid (HNO2.out (fun h=>hcv (hc0.2 h.2.2.2.2.2)))
  go_quiet (first | (go_at_call 93;exact Calls.quiet_of (KY.out _)) | (go_at_call 94;exact Calls.quiet_of (KC.out _)))
  go_wp2_with fail
  go_ret2
  exact ⟨_,by rw [HTV.out];rfl,by rw [HTV.out];exact OwM.nil _ _ _ _,bl_drewN HB4.out _⟩
 have t5:(cv != 0)=false:=by rw [hcv];rfl
 have HTR:Hid (T=REST):=Lib.hid (HYS2.out ⟨hid,h15,hyl,hty,hcl,hc0.1 hcv⟩)
 clear HNO2 HYS2 hid h15 hty hcl hc0
 go_quiet (first | (go_at_call 93;exact Calls.quiet_of (KY.out _)) | (go_at_call 94;exact Calls.quiet_of (KC.out _)))
 have HB7:=Lib.hid (bl_drewN HB4.out nq)
 have HX7:Hid (MRd (w4.drewN nq) (w4.drewN nq).heap.size X):=HX4
 have HY7:Hid (MRd (w4.drewN nq) (w4.drewN nq).heap.size Y):=HY4
 have HVX7:=Lib.hid (HVX4.out.drewN nq)
 have HVY7:=Lib.hid (HVY4.out.drewN nq)
 have HNM7:Hid (NRd (w4.drewN nq) (w4.drewN nq).heap.size nA nc nm):=HNM4
 have q0':(w4.drewN nq).cell? ⟨b0,oo,none⟩=some (.slice nA nn nc):=q0
 have hbq7:b0<(w4.drewN nq).heap.size:=hbq'
 generalize w4.drewN nq=w7 at HB7 HX7 HY7 HVX7 HVY7 HNM7 q0' hbq7 ⊢
 clear q0 x0 x1 x2 x3 x4 x5 y0 y1 y2 y3 y4 y5 z0 z1 z2 KC KY t0 t2 t3 t4 t5 HB4 HX4 HY4 HVX4 HVY4 HNM4 hcv hbq'
 obtain ⟨x0,x1,x2,x3,x4,x5⟩:=HVX7.out.c6
 obtain ⟨y0,y1,y2,y3,y4,y5⟩:=HVY7.out.c6
 by_cases h9:flY / 512 % 2=1
 case pos=>
  have K9:Hid (∀ W,Calls Tryz.prog 93 #[.int .u16 (flY:Int),.int .u16 512] W fun e w'=>e = .returned (.bool true)∧W=w'):=Lib.hid (fun W=>by have h:=rbit9_at flY W hYf;rw [decide_eq_true h9] at h;exact h)
  have HTV:Hid (T=([],183)):=Lib.hid (by rw [HTR.out,HREST.out,if_pos h9])
  go_wp2_with (go_at_call 93;refine (K9.out _).mono ?_;rintro e w8 ⟨rfl,rfl⟩)
  go_ret2
  exact ⟨_,by rw [HTV.out];rfl,by rw [HTV.out];exact OwM.nil _ _ _ _,HB7.out⟩
 have K9:Hid (∀ W,Calls Tryz.prog 93 #[.int .u16 (flY:Int),.int .u16 512] W fun e w'=>e = .returned (.bool false)∧W=w'):=Lib.hid (fun W=>by have h:=rbit9_at flY W hYf;rw [decide_eq_false h9] at h;exact h)
 by_cases h16:flY % 16=0
 case neg=>
  have u1:((flY:Int) % 16 != 0)=true:=by rw [bne_iff_ne];omega
  have HTV:Hid (T=([],184)):=Lib.hid (by rw [HTR.out,HREST.out,if_neg h9,if_pos h16])
  go_wp2_with (go_at_call 93;refine (K9.out _).mono ?_;rintro e w8 ⟨rfl,rfl⟩)
  go_ret2
  exact ⟨_,by rw [HTV.out];rfl,by rw [HTV.out];exact OwM.nil _ _ _ _,HB7.out⟩
 have u1:((flY:Int) % 16 != 0)=false:=by rw [show ((flY:Int) % 16)=0 by omega];rfl
 obtain ⟨ANS,hANS⟩:∃ q,q=answersM mr nm 33:=⟨_,rfl⟩
 have hTR:T=if Srv.okA ANS=false then ([],185) else (Srv.onceA (Srv.sortA (Srv.addA ANS)),0):=by rw [HTR.out,HREST.out,if_neg h9,if_neg (by omega),hANS]
 have HTF:=Lib.hid hTR
 have h0r:(readM r).2=0:=by rw [HPR.out];exact HE2.out
 have hrok:=read_ok h0r
 rw [show (readM r).1=mr by rw [HPR.out]] at hrok
 have hans:∀ x∈ANS,rightR x=true∧okR x:=fun x hx=>by
  rw [hANS] at hx
  have h1:=(List.mem_filter.1 hx).1
  refine ⟨?_,hrok.2.1.r0 x h1⟩
  have h2:=hrok.1
  rw [←HYM.out] at h2 h1
  obtain ⟨a0,a1,a2,a3⟩:=resW h2
  obtain ⟨z,hz,rfl⟩:=List.mem_map.1 h1
  exact a1 z hz
 have KA2:Hid (Calls Tryz.prog 95 #[.agg #[.int .u16 (idY:Int),.int .u16 (flY:Int),.slice (some ⟨bz,oz,none⟩) 1 qcY,.slice aAY raY.length acY,.slice bAY rbY.length bdY,.slice cAY rcY.length ccY],.slice nA nn nc,.int .u16 33] w7.drew fun e w'=>∃ (l:List RR) (A':Option Addr) (c':Nat),e = .returned (.slice A' l.length c')∧l.map RR.r=ANS∧RsRd w' w'.heap.size A' c' l.length l∧Below w7.heap.size w7 w'):=Lib.hid (by
  have hbd:Below w7.heap.size w7 w7.drew:=bl_drew w7
  have h:=fanswers_at Y nA nc nn nm 33 w7.drew ((HY7.out.below hbd).more hbd.size) HNN.out ((HNM7.out.below hbd).more hbd.size) (by omega)
  have e1:Y.cells.toArray=#[.int .u16 (idY:Int),.int .u16 (flY:Int),.slice (some ⟨bz,oz,none⟩) 1 qcY,.slice aAY raY.length acY,.slice bAY rbY.length bdY,.slice cAY rcY.length ccY]:=by rw [HYE.out];rfl
  rw [e1,HYM.out,←hANS] at h
  refine h.mono ?_
  rintro e w' ⟨l,A',c',rfl,hl,hro,hb⟩
  exact ⟨l,A',c',rfl,hl,hro,hbd.trans (hb.mono hbd.size)⟩)
 have HANS:=Lib.hid hans
 clear hans hANS hrok h0r hTR h9 h16 HTR HREST
 go_upto_region 13 with (go_at_call 93;refine (K9.out _).mono ?_;rintro e w8 ⟨rfl,rfl⟩)
 refine wp_region_held_drew (S:=fun W=>Vx W GY 47 [.int .u16 (idY:Int),.int .u16 (flY:Int),.slice (some ⟨bz,oz,none⟩) 1 qcY,.slice aAY raY.length acY,.slice bAY rbY.length bdY,.slice cAY rcY.length ccY]∧W.cell? ⟨GX,2,none⟩=some (.slice (some ⟨b0,oo,none⟩) 1 qcX)∧W.cell? ⟨b0,oo,none⟩=some (.slice nA nn nc)) (by kernel_rfl) ⟨HVY7.out,x2,q0'⟩ (fun hH=>?_)
 refine reg_load 0 rfl (by kernel_rfl) 47 _ (by rfl) GY 47 [.int .u16 (idY:Int),.int .u16 (flY:Int),.slice (some ⟨bz,oz,none⟩) 1 qcY,.slice aAY raY.length acY,.slice bAY rbY.length bdY,.slice cAY rcY.length ccY] _ (fun _ _ _ h=>h) (by rfl) hH (by rfl) (fun w hS=>hS.1) Tryz.underlying47 (by rfl) (by kernel_rfl) ?_
 (try simp only [Act.put,List.setIfInBounds_toArray,List.set_cons_zero,List.set_cons_succ])
 refine reg_take 1 (v:=?_) rfl (by kernel_rfl) (fun _ _ _ h=>h) (by rfl) hH ?_ ?_
 rotate_left
 ·intro w hSw;(try dsimp only at hSw);obtain ⟨s0,s1,s2⟩:=hSw;go_simp;(try with_reducible rfl)
 (try simp only [Act.put,List.setIfInBounds_toArray,List.set_cons_zero,List.set_cons_succ])
 refine reg_take 2 (v:=?_) rfl (by kernel_rfl) (fun _ _ _ h=>h) (by rfl) hH ?_ ?_
 rotate_left
 ·intro w hSw;(try dsimp only at hSw);obtain ⟨s0,s1,s2⟩:=hSw;go_simp;(try with_reducible rfl)
 (try simp only [Act.put,List.setIfInBounds_toArray,List.set_cons_zero,List.set_cons_succ])
 refine reg_take 3 (v:=?_) rfl (by kernel_rfl) (fun _ _ _ h=>h) (by rfl) hH ?_ ?_
 rotate_left
 ·intro w hSw;(try dsimp only at hSw);obtain ⟨s0,s1,s2⟩:=hSw;go_simp;(try with_reducible rfl)
 (try simp only [Act.put,List.setIfInBounds_toArray,List.set_cons_zero,List.set_cons_succ])
 refine reg_take 4 (v:=?_) rfl (by kernel_rfl) (fun _ _ _ h=>h) (by rfl) hH ?_ ?_
 rotate_left
 ·intro w hSw;(try dsimp only at hSw);obtain ⟨s0,s1,s2⟩:=hSw;go_simp;(try with_reducible rfl)
 (try simp only [Act.put,List.setIfInBounds_toArray,List.set_cons_zero,List.set_cons_succ])
 refine reg_take 5 (v:=?_) rfl (by kernel_rfl) (fun _ _ _ h=>h) (by rfl) hH ?_ ?_
 rotate_left
 ·intro w hSw;(try dsimp only at hSw);obtain ⟨s0,s1,s2⟩:=hSw;go_simp;(try with_reducible rfl)
 (try simp only [Act.put,List.setIfInBounds_toArray,List.set_cons_zero,List.set_cons_succ])
 refine wpAnyH_ready (rs:=[6]) (by kernel_rfl) (by simp) ?_
 refine reg_cons 6 rfl (fun K' hK=>?_) AllReadyH.nil
 go_simp
 go_at_call 95
 refine KA2.out.mono ?_
 rintro e w9 ⟨l,A',c',rfl,hl,hlr,hb79⟩
 have hS9:Vx w9 GY 47 [.int .u16 (idY:Int),.int .u16 (flY:Int),.slice (some ⟨bz,oz,none⟩) 1 qcY,.slice aAY raY.length acY,.slice bAY rbY.length bdY,.slice cAY rcY.length ccY]∧w9.cell? ⟨GX,2,none⟩=some (.slice (some ⟨b0,oo,none⟩) 1 qcX)∧w9.cell? ⟨b0,oo,none⟩=some (.slice nA nn nc):=⟨HVY7.out.below hb79 HVY7.out.lt,(hb79.cell (p:=⟨GX,2,none⟩) HVX7.out.lt).trans x2,(hb79.cell (p:=⟨b0,oo,none⟩) hbq7).trans q0'⟩
 refine hK.out _ _ hS9 (fun hH=>?_)
 (try simp only [Act.put,List.setIfInBounds_toArray,List.set_cons_zero,List.set_cons_succ])
 clear hK
 refine reg_take 7 (v:=?_) rfl (by kernel_rfl) (fun _ _ _ h=>h) (by rfl) hH ?_ ?_
 rotate_left
 ·intro w hSw;(try dsimp only at hSw);obtain ⟨s0,s1,s2⟩:=hSw;go_simp;(try with_reducible rfl)
 (try simp only [Act.put,List.setIfInBounds_toArray,List.set_cons_zero,List.set_cons_succ])
 refine wpAnyH_done (by kernel_rfl) ?_ _
 have HB9:=Lib.hid (HB7.out.trans (hb79.mono HB7.out.size))
 have HLR:=Lib.hid hlr
 have HL:=Lib.hid hl
 clear hb79 hlr hl hS9 hH KA2 q0' hbq7 HX7 HY7 HVX7 HVY7 HB7 x0 x1 x2 x3 x4 x5 y0 y1 y2 y3 y4 y5 K9 u1
 obtain ⟨n,hn⟩:∃ n,n=l.length:=⟨_,rfl⟩
 have hn12:n≤1000000000000:=by rw [hn];exact HLR.out.2.2.2.1
 rw [←hn] at HLR ⊢
 have HN:=Lib.hid hn
 have HLN:=Lib.hid (show ANS.length=n by rw [←HL.out,List.length_map,hn])
 clear hn
 go_wp2_with fail
 go_loopw [10,11] (fun v10 v11 wr=>∃ (k m:Nat),k≤n∧m≤k∧v11 = .int .i64 k∧Hid (Srv.okA (ANS.take k)=true)∧Hid ((Srv.putsA (Srv.addA (ANS.take k))).length=m)∧Hid (OwM wr w9.heap.size 102 5 v10 m (acs (Srv.putsA (Srv.addA (ANS.take k)))))∧Hid (Below w9.heap.size w9 wr)) (fun _ v11 _=>n - (intOf v11).toNat)
 case atStart=>exact ⟨0,0,Nat.zero_le _,Nat.le_refl _,rfl,Lib.hid rfl,Lib.hid rfl,Lib.hid (OwM.nil _ _ _ _),Lib.hid (Below.refl _ _)⟩
 case round=>
  obtain ⟨k,m,hk,hmk,rfl,HOK,HM,HO,HB⟩:=hrel
  have hsz:=HB.out.size
  have hadk:∀ x∈Srv.putsA (Srv.addA (ANS.take k)),AdOk x:=fun x hx=>by
   obtain ⟨r0,hr0,rfl⟩:=Srv.addA_mem (Srv.putsA_mem hx)
   obtain ⟨k1,k2,k3,k4,k5⟩:=(HANS.out r0 (List.mem_of_mem_take hr0)).2
   exact adR_ok k5 k3 k4 k2
  obtain ⟨Ar,cr,rfl,har⟩:=AsRd.of_own HO.out HM.out (by omega) hadk
  have HAR:=Lib.hid har
  clear hadk har
  rcases Nat.lt_or_ge k n with hlt | hge
  ·have hkl:k<l.length:=by rw [←HN.out];exact hlt
   obtain ⟨b,o,rfl,hb,hc⟩:=(HLR.out.below HB.out).at_ hlt
   have hf:=hc hkl
   have hrd:=(HLR.out.below HB.out).2.2.2.2 _ (List.getElem_mem hkl)
   have hak:ANS.take (k+1)=ANS.take k++[l[k].r]:=by
    have h1:k<ANS.length:=by rw [HLN.out];exact hlt
    rw [List.take_succ_eq_append_getElem h1]
    congr 2
    have:ANS[k]'h1=(l.map RR.r)[k]'(by simpa using hkl):=by
     congr 1
     exact HL.out.symm
    rw [this,List.getElem_map]
   have hmem:l[k].r∈ANS:=by rw [←HL.out];exact List.mem_map.2 ⟨_,List.getElem_mem hkl,rfl⟩
   obtain ⟨x,hx⟩:∃ x,x=l[k]:=⟨_,rfl⟩
   rw [←hx] at hf hrd hak hmem
   clear hx hc
   obtain ⟨xA,xc,dA,dc,tA,tc,⟨⟨xn,xty,xcl⟩,xttl,xd,xpr,xwe,xpo,xtg⟩⟩:=x
   obtain ⟨c0,c1,c2,c3,c4,c5,c6,c7,c8⟩:=hf.cells
   dsimp only at c0 c1 c2 c3 c4 c5 c6 c7 c8 hak hmem
   have HMEM:=Lib.hid hmem
   have HAK:=Lib.hid hak
   have HRD:=Lib.hid hrd
   have hmlen:(Srv.putsA (Srv.addA (ANS.take (k+1)))).length≤k+1:=by
    refine Nat.le_trans (Srv.putsA_len _ _ rfl) (Nat.le_trans (Srv.addA_len _) ?_)
    rw [List.length_take];omega
   have HMLEN:=Lib.hid hmlen
   clear hf hmem hak hrd hmlen
   by_cases ht:xtg.length=0
   ·have ht1:((xtg.length:Int) == 0)=true:=by rw [beq_iff_eq];omega
    have hr0:Srv.rootR (⟨⟨xn,xty,xcl⟩,xttl,xd,xpr,xwe,xpo,xtg⟩:Rc)=true:=decide_eq_true ht
    have HR0:=Lib.hid hr0
    clear ht hr0
    go_wp2_with fail
    go_roundw
    case rel=>
     refine ⟨k+1,m,by omega,by omega,by go_num,Lib.hid ?_,Lib.hid ?_,Lib.hid ?_,HB⟩
     ·rw [HAK.out,okA_snoc,HOK.out,HR0.out];rfl
     ·rw [HAK.out,addA_snoc,if_pos HR0.out,List.append_nil];exact HM.out
     ·rw [HAK.out,addA_snoc,if_pos HR0.out,List.append_nil];exact HO.out
    case measure=>simp [intOf];omega
   ·have ht1:((xtg.length:Int) == 0)=false:=by rw [beq_eq_false_iff_ne];omega
    have hr0:Srv.rootR (⟨⟨xn,xty,xcl⟩,xttl,xd,xpr,xwe,xpo,xtg⟩:Rc)=false:=decide_eq_false ht
    have HR0:=Lib.hid hr0
    clear ht hr0
    by_cases hp:xpo=0
    ·have hp1:((xpo:Int) == 0)=true:=by rw [beq_iff_eq];omega
     have hTv:T=([],185):=by
      rw [HTF.out,if_pos]
      exact okA_bad HMEM.out HR0.out (by unfold Srv.badR;rw [decide_eq_true hp];rfl)
     have HTV:=Lib.hid hTv
     clear hTv hp
     go_wp2_with fail
     go_ret2
     exact ⟨_,by rw [HTV.out];rfl,by rw [HTV.out];exact OwM.nil _ _ _ _,HB9.out.trans (HB.out.mono HB9.out.size)⟩
    ·have hp1:((xpo:Int) == 0)=false:=by rw [beq_eq_false_iff_ne];omega
     have HP:=Lib.hid hp
     clear hp
     obtain ⟨HB_,hHB⟩:∃ b,b=Srv.hostN xtg:=⟨_,rfl⟩
     have htg:=HRD.out.2.2.1
     have hszt:=rightR_tgs (HANS.out _ HMEM.out).1
     dsimp only at htg hszt
     have KH:=Lib.hid (fun W (hW:Below w9.heap.size wr W)=>rhost_at tA tc xtg.length xtg HB_ hHB.symm W w9.heap.size rfl (htg.1.below hW) (by have:=len_le_size xtg;omega) (fun x hx=>by have:=mem_le_size hx;omega))
     have HHB:=Lib.hid hHB
     have HTG:=Lib.hid htg
     have HSZ:=Lib.hid hszt
     clear hHB htg hszt
     cases HB_ with
     | false=>
       have hTv:T=([],185):=by
        rw [HTF.out,if_pos]
        exact okA_bad HMEM.out HR0.out (by unfold Srv.badR;rw [←HHB.out];simp)
       have HTV:=Lib.hid hTv
       clear hTv
       go_wp2_with (go_at_call 96
                    refine (KH.out wr (Below.refl _ _)).mono ?_
                    rintro e w10 ⟨rfl,rfl⟩)
       go_ret2
       exact ⟨_,by rw [HTV.out];rfl,by rw [HTV.out];exact OwM.nil _ _ _ _,HB9.out.trans (HB.out.mono HB9.out.size)⟩
     | true=>
       obtain ⟨F,ef,hF⟩:∃ F ef,textR xtg=(F,ef):=⟨_,_,rfl⟩
       have KT:Hid (Calls Tryz.prog 97 #[.slice tA xtg.length tc] wr fun e w'=>e = .returned (.tuple #[.string ⟨F.toArray⟩,.int .i64 (ef:Int)])∧Below wr.heap.size wr w'):=Lib.hid (rtext_all wr tA tc xtg.length xtg F ef hF rfl (HTG.out.1.more hsz) (by have:=HSZ.out;omega))
       have hFl:F.length≤1020:=by have:=textR_le xtg;rw [hF] at this;exact this
       have hw1:IntKind.i64.wrap (xpo:Int)=(xpo:Int):=by have:=HRD.out.2.2.2.2.2.2;dsimp only at this;rw [IntKind.wrap_i64];omega
       have hw2:IntKind.i64.wrap (xpr:Int)=(xpr:Int):=by have:=HRD.out.2.2.2.2.1;dsimp only at this;rw [IntKind.wrap_i64];omega
       have hw3:IntKind.i64.wrap (xwe:Int)=(xwe:Int):=by have:=HRD.out.2.2.2.2.2.1;dsimp only at this;rw [IntKind.wrap_i64];omega
       have had:Srv.adR (⟨⟨xn,xty,xcl⟩,xttl,xd,xpr,xwe,xpo,xtg⟩:Rc)=⟨F,xpo,xpr,xwe,xttl⟩:=by unfold Srv.adR;rw [hF]
       have HAD:=Lib.hid had
       clear hF had
       go_upto_region 22 with (first
        | (go_at_call 97
           refine KT.out.mono ?_
           rintro e w10 ⟨rfl,hb10⟩
           have HB10:=Lib.hid (HB.out.trans (hb10.mono hsz))
           have HAR10:=Lib.hid (HAR.out.goes hb10)
           have e3_:=(hb10.cell (p:=⟨b,o+k*9+3,none⟩) (Nat.lt_of_lt_of_le hb hsz)).trans c3
           have e5_:=(hb10.cell (p:=⟨b,o+k*9+5,none⟩) (Nat.lt_of_lt_of_le hb hsz)).trans c5
           have e6_:=(hb10.cell (p:=⟨b,o+k*9+6,none⟩) (Nat.lt_of_lt_of_le hb hsz)).trans c6
           have e7_:=(hb10.cell (p:=⟨b,o+k*9+7,none⟩) (Nat.lt_of_lt_of_le hb hsz)).trans c7
           clear hb10)
        | (go_at_call 96
           refine (KH.out wr (Below.refl _ _)).mono ?_
           rintro e w10 ⟨rfl,rfl⟩))
       have KPUT:Hid (Calls Tryz.prog 98 #[.slice Ar m cr,.agg #[.string ⟨F.toArray⟩,.int .i64 (xpo:Int),.int .i64 (xpr:Int),.int .i64 (xwe:Int),.int .u32 (xttl:Int)]] w10.drew fun e w'=>∃ v,e = .returned v∧OwM w' w10.heap.size 102 5 v (Srv.putA ⟨F,xpo,xpr,xwe,xttl⟩ false (Srv.putsA (Srv.addA (ANS.take k)))).length (acs (Srv.putA ⟨F,xpo,xpr,xwe,xttl⟩ false (Srv.putsA (Srv.addA (ANS.take k)))))∧Below w10.heap.size w10 w'):=Lib.hid (by
        have hbd:=bl_drew w10
        have h:=rput_at Ar cr m (Srv.putsA (Srv.addA (ANS.take k))) ⟨F,xpo,xpr,xwe,xttl⟩ w10.drew (HAR10.out.goes hbd) (by dsimp only;omega) (by omega)
        refine h.mono ?_
        rintro e w' ⟨v,rfl,ho,hb⟩
        exact ⟨v,rfl,ho,hbd.trans (hb.mono hbd.size)⟩)
       have hput:Srv.putsA (Srv.addA (ANS.take (k+1)))=Srv.putA ⟨F,xpo,xpr,xwe,xttl⟩ false (Srv.putsA (Srv.addA (ANS.take k))):=by
        rw [HAK.out,addA_snoc,if_neg (by rw [HR0.out];simp),HAD.out,Srv.putsA_snoc]
       rw [←hput] at KPUT
       clear hput
       refine wp_region_held_drew (S:=fun W=>W.cell? ⟨b,o+k*9+3,none⟩=some (.int .u32 (xttl:Int))∧W.cell? ⟨b,o+k*9+5,none⟩=some (.int .u16 (xpr:Int))∧W.cell? ⟨b,o+k*9+6,none⟩=some (.int .u16 (xwe:Int))∧W.cell? ⟨b,o+k*9+7,none⟩=some (.int .u16 (xpo:Int))) (by kernel_rfl) ⟨e3_,e5_,e6_,e7_⟩ (fun hH=>?_)
       refine reg_take 0 (v:=?_) rfl (by kernel_rfl) (fun _ _ _ h=>h) (by rfl) hH ?_ ?_
       rotate_left
       ·intro w hSw;(try dsimp only at hSw);obtain ⟨s3,s5,s6,s7⟩:=hSw;go_simp;(try with_reducible rfl)
       (try simp only [Act.put,List.setIfInBounds_toArray,List.set_cons_zero,List.set_cons_succ])
       refine reg_take 1 (v:=?_) rfl (by kernel_rfl) (fun _ _ _ h=>h) (by rfl) hH ?_ ?_
       rotate_left
       ·intro w hSw;(try dsimp only at hSw);obtain ⟨s3,s5,s6,s7⟩:=hSw;go_simp;(try with_reducible rfl)
       (try simp only [Act.put,List.setIfInBounds_toArray,List.set_cons_zero,List.set_cons_succ])
       refine reg_take 2 (v:=?_) rfl (by kernel_rfl) (fun _ _ _ h=>h) (by rfl) hH ?_ ?_
       rotate_left
       ·intro w hSw;(try dsimp only at hSw);obtain ⟨s3,s5,s6,s7⟩:=hSw;go_simp;(try with_reducible rfl)
       (try simp only [Act.put,List.setIfInBounds_toArray,List.set_cons_zero,List.set_cons_succ])
       refine reg_take 3 (v:=?_) rfl (by kernel_rfl) (fun _ _ _ h=>h) (by rfl) hH ?_ ?_
       rotate_left
       ·intro w hSw;(try dsimp only at hSw);obtain ⟨s3,s5,s6,s7⟩:=hSw;go_simp;(try with_reducible rfl)
       (try simp only [Act.put,List.setIfInBounds_toArray,List.set_cons_zero,List.set_cons_succ])
       refine reg_take 4 (v:=?_) rfl (by kernel_rfl) (fun _ _ _ h=>h) (by rfl) hH ?_ ?_
       rotate_left
       ·intro w hSw;(try dsimp only at hSw);obtain ⟨s3,s5,s6,s7⟩:=hSw;go_simp;(try with_reducible rfl)
       (try simp only [Act.put,List.setIfInBounds_toArray,List.set_cons_zero,List.set_cons_succ])
       refine reg_take 5 (v:=?_) rfl (by kernel_rfl) (fun _ _ _ h=>h) (by rfl) hH ?_ ?_
       rotate_left
       ·intro w hSw;(try dsimp only at hSw);obtain ⟨s3,s5,s6,s7⟩:=hSw;go_simp;(try with_reducible rfl)
       (try simp only [Act.put,List.setIfInBounds_toArray,List.set_cons_zero,List.set_cons_succ])
       refine reg_take 6 (v:=?_) rfl (by kernel_rfl) (fun _ _ _ h=>h) (by rfl) hH ?_ ?_
       rotate_left
       ·intro w hSw;(try dsimp only at hSw);obtain ⟨s3,s5,s6,s7⟩:=hSw;go_simp;(try with_reducible rfl)
       (try simp only [Act.put,List.setIfInBounds_toArray,List.set_cons_zero,List.set_cons_succ])
       refine reg_take 7 (v:=?_) rfl (by kernel_rfl) (fun _ _ _ h=>h) (by rfl) hH ?_ ?_
       rotate_left
       ·intro w hSw;(try dsimp only at hSw);obtain ⟨s3,s5,s6,s7⟩:=hSw;go_simp;(try with_reducible rfl)
       (try simp only [Act.put,List.setIfInBounds_toArray,List.set_cons_zero,List.set_cons_succ])
       refine reg_take 8 (v:=?_) rfl (by kernel_rfl) (fun _ _ _ h=>h) (by rfl) hH ?_ ?_
       rotate_left
       ·intro w hSw;(try dsimp only at hSw);obtain ⟨s3,s5,s6,s7⟩:=hSw;go_simp;(try with_reducible rfl)
       (try simp only [Act.put,List.setIfInBounds_toArray,List.set_cons_zero,List.set_cons_succ])
       refine reg_take 9 (v:=?_) rfl (by kernel_rfl) (fun _ _ _ h=>h) (by rfl) hH ?_ ?_
       rotate_left
       ·intro w hSw;(try dsimp only at hSw);obtain ⟨s3,s5,s6,s7⟩:=hSw;go_simp;(try with_reducible rfl)
       (try simp only [Act.put,List.setIfInBounds_toArray,List.set_cons_zero,List.set_cons_succ])
       refine reg_take 10 (v:=?_) rfl (by kernel_rfl) (fun _ _ _ h=>h) (by rfl) hH ?_ ?_
       rotate_left
       ·intro w hSw;(try dsimp only at hSw);obtain ⟨s3,s5,s6,s7⟩:=hSw;go_simp;(try with_reducible rfl)
       (try simp only [Act.put,List.setIfInBounds_toArray,List.set_cons_zero,List.set_cons_succ])
       refine reg_take 11 (v:=?_) rfl (by kernel_rfl) (fun _ _ _ h=>h) (by rfl) hH ?_ ?_
       rotate_left
       ·intro w hSw;(try dsimp only at hSw);obtain ⟨s3,s5,s6,s7⟩:=hSw;go_simp;(try with_reducible rfl)
       (try simp only [Act.put,List.setIfInBounds_toArray,List.set_cons_zero,List.set_cons_succ])
       refine reg_take 12 (v:=?_) rfl (by kernel_rfl) (fun _ _ _ h=>h) (by rfl) hH ?_ ?_
       rotate_left
       ·intro w hSw;(try dsimp only at hSw);obtain ⟨s3,s5,s6,s7⟩:=hSw;go_simp;(try with_reducible rfl)
       (try simp only [Act.put,List.setIfInBounds_toArray,List.set_cons_zero,List.set_cons_succ])
       refine reg_take 13 (v:=?_) rfl (by kernel_rfl) (fun _ _ _ h=>h) (by rfl) hH ?_ ?_
       rotate_left
       ·intro w hSw;(try dsimp only at hSw);obtain ⟨s3,s5,s6,s7⟩:=hSw;go_simp;(try with_reducible rfl)
       (try simp only [Act.put,List.setIfInBounds_toArray,List.set_cons_zero,List.set_cons_succ])
       refine reg_take 14 (v:=?_) rfl (by kernel_rfl) (fun _ _ _ h=>h) (by rfl) hH ?_ ?_
       rotate_left
       ·intro w hSw;(try dsimp only at hSw);obtain ⟨s3,s5,s6,s7⟩:=hSw;go_simp;(try with_reducible rfl)
       (try simp only [Act.put,List.setIfInBounds_toArray,List.set_cons_zero,List.set_cons_succ])
       refine reg_take 15 (v:=?_) rfl (by kernel_rfl) (fun _ _ _ h=>h) (by rfl) hH ?_ ?_
       rotate_left
       ·intro w hSw;(try dsimp only at hSw);obtain ⟨s3,s5,s6,s7⟩:=hSw;go_simp;(try with_reducible rfl)
       (try simp only [Act.put,List.setIfInBounds_toArray,List.set_cons_zero,List.set_cons_succ])
       refine reg_take 16 (v:=?_) rfl (by kernel_rfl) (fun _ _ _ h=>h) (by rfl) hH ?_ ?_
       rotate_left
       ·intro w hSw;(try dsimp only at hSw);obtain ⟨s3,s5,s6,s7⟩:=hSw;go_simp;(try with_reducible rfl)
       (try simp only [Act.put,List.setIfInBounds_toArray,List.set_cons_zero,List.set_cons_succ])
       refine reg_take 17 (v:=?_) rfl (by kernel_rfl) (fun _ _ _ h=>h) (by rfl) hH ?_ ?_
       rotate_left
       ·intro w hSw;(try dsimp only at hSw);obtain ⟨s3,s5,s6,s7⟩:=hSw;go_simp;(try with_reducible rfl)
       (try simp only [Act.put,List.setIfInBounds_toArray,List.set_cons_zero,List.set_cons_succ])
       refine reg_take 18 (v:=?_) rfl (by kernel_rfl) (fun _ _ _ h=>h) (by rfl) hH ?_ ?_
       rotate_left
       ·intro w hSw;(try dsimp only at hSw);obtain ⟨s3,s5,s6,s7⟩:=hSw;go_simp;(try with_reducible rfl)
       (try simp only [Act.put,List.setIfInBounds_toArray,List.set_cons_zero,List.set_cons_succ])
       refine reg_take 19 (v:=?_) rfl (by kernel_rfl) (fun _ _ _ h=>h) (by rfl) hH ?_ ?_
       rotate_left
       ·intro w hSw;(try dsimp only at hSw);obtain ⟨s3,s5,s6,s7⟩:=hSw;go_simp;(try with_reducible rfl)
       (try simp only [Act.put,List.setIfInBounds_toArray,List.set_cons_zero,List.set_cons_succ])
       refine reg_take 20 (v:=?_) rfl (by kernel_rfl) (fun _ _ _ h=>h) (by rfl) hH ?_ ?_
       rotate_left
       ·intro w hSw;(try dsimp only at hSw);obtain ⟨s3,s5,s6,s7⟩:=hSw;go_simp;(try with_reducible rfl)
       (try simp only [Act.put,List.setIfInBounds_toArray,List.set_cons_zero,List.set_cons_succ])
       refine reg_take 21 (v:=?_) rfl (by kernel_rfl) (fun _ _ _ h=>h) (by rfl) hH ?_ ?_
       rotate_left
       ·intro w hSw;(try dsimp only at hSw);obtain ⟨s3,s5,s6,s7⟩:=hSw;go_simp;(try with_reducible rfl)
       (try simp only [Act.put,List.setIfInBounds_toArray,List.set_cons_zero,List.set_cons_succ])
       refine reg_take 22 (v:=?_) rfl (by kernel_rfl) (fun _ _ _ h=>h) (by rfl) hH ?_ ?_
       rotate_left
       ·intro w hSw;(try dsimp only at hSw);obtain ⟨s3,s5,s6,s7⟩:=hSw;go_simp;(try with_reducible rfl)
       (try simp only [Act.put,List.setIfInBounds_toArray,List.set_cons_zero,List.set_cons_succ])
       refine reg_take 23 (v:=?_) rfl (by kernel_rfl) (fun _ _ _ h=>h) (by rfl) hH ?_ ?_
       rotate_left
       ·intro w hSw;(try dsimp only at hSw);obtain ⟨s3,s5,s6,s7⟩:=hSw;go_simp;(try with_reducible rfl)
       (try simp only [Act.put,List.setIfInBounds_toArray,List.set_cons_zero,List.set_cons_succ])
       refine reg_take 24 (v:=?_) rfl (by kernel_rfl) (fun _ _ _ h=>h) (by rfl) hH ?_ ?_
       rotate_left
       ·intro w hSw;(try dsimp only at hSw);obtain ⟨s3,s5,s6,s7⟩:=hSw;go_simp;(try with_reducible rfl)
       (try simp only [Act.put,List.setIfInBounds_toArray,List.set_cons_zero,List.set_cons_succ])
       refine reg_take 25 (v:=?_) rfl (by kernel_rfl) (fun _ _ _ h=>h) (by rfl) hH ?_ ?_
       rotate_left
       ·intro w hSw;(try dsimp only at hSw);obtain ⟨s3,s5,s6,s7⟩:=hSw;go_simp;(try with_reducible rfl)
       (try simp only [Act.put,List.setIfInBounds_toArray,List.set_cons_zero,List.set_cons_succ])
       have hb10:b<w10.heap.size:=Nat.lt_of_lt_of_le hb HB10.out.size
       refine wpAnyH_ready (rs:=[26]) (by kernel_rfl) (by simp) ?_
       refine reg_cons 26 rfl (fun K' hK=>?_) AllReadyH.nil
       go_simp
       (try rw [hw1])
       (try rw [hw2])
       (try rw [hw3])
       go_at_call 98
       refine KPUT.out.mono ?_
       rintro e w11 ⟨v11,rfl,ho11,hb11⟩
       refine hK.out _ _ ⟨(hb11.cell (p:=⟨b,o+k*9+3,none⟩) hb10).trans e3_,(hb11.cell (p:=⟨b,o+k*9+5,none⟩) hb10).trans e5_,(hb11.cell (p:=⟨b,o+k*9+6,none⟩) hb10).trans e6_,(hb11.cell (p:=⟨b,o+k*9+7,none⟩) hb10).trans e7_⟩ (fun hH=>?_)
       (try simp only [Act.put,List.setIfInBounds_toArray,List.set_cons_zero,List.set_cons_succ])
       clear hK
       refine reg_take 27 (v:=?_) rfl (by kernel_rfl) (fun _ _ _ h=>h) (by rfl) hH ?_ ?_
       rotate_left
       ·intro w hSw;(try dsimp only at hSw);obtain ⟨s3,s5,s6,s7⟩:=hSw;go_simp;(try with_reducible rfl)
       (try simp only [Act.put,List.setIfInBounds_toArray,List.set_cons_zero,List.set_cons_succ])
       refine wpAnyH_done (by kernel_rfl) ?_ _
       have HB11:=Lib.hid (HB10.out.trans (hb11.mono HB10.out.size))
       have HO11:=Lib.hid (OwM.mono ho11 HB10.out.size)
       clear ho11 hb11
       go_wp2_with fail
       go_roundw
       case rel=>
        refine ⟨k+1,_,by omega,HMLEN.out,by go_num,Lib.hid ?_,Lib.hid rfl,HO11,HB11⟩
        rw [HAK.out,okA_snoc,HOK.out,HR0.out]
        unfold Srv.badR
        rw [←HHB.out,decide_eq_false HP.out];rfl
       case measure=>simp [intOf];omega
  ·have hkn:k=n:=by omega
   subst hkn
   have htk:ANS.take k=ANS:=List.take_of_length_le (by rw [HLN.out];exact Nat.le_refl _)
   rw [htk] at HOK HM HO
   have hTv:T=(Srv.putsA (Srv.addA ANS),0):=by rw [HTF.out,if_neg (by rw [HOK.out];simp),Srv.puts_eq]
   have HTV:=Lib.hid hTv
   clear hTv htk
   go_wp2_with fail
   go_ret2
   refine ⟨_,by rw [HTV.out];rfl,?_,HB9.out.trans (HB.out.mono HB9.out.size)⟩
   rw [HTV.out]
   dsimp only
   rw [HM.out]
   exact OwM.mono HO.out HB9.out.size
end Go.Proofs.YtlipmlbijddopaaGreatDoor
set_option linter.unusedVariables false
set_option linter.unusedSimpArgs false
namespace Go.Proofs.YtlipmlbijddopaaGreatDoor
open Go.RowKit
set_option maxRecDepth 100000 in
set_option maxHeartbeats 1000000 in
theorem rsame_at (A1 A2:Option Addr) (c1 c2 n:Nat) (l:List Ad) (w:World) (h1:AsRd w w.heap.size A1 c1 n l) (h2:AsRd w w.heap.size A2 c2 n l) :
 Calls Tryz.prog 42 #[.slice A1 n c1,.slice A2 n c2] w fun e w'=>e = .returned (.bool true)∧Below w.heap.size w w':=by
 have H1:=Lib.hid h1
 have H2:=Lib.hid h2
 have hnl:=h1.2.2.2.1
 have HLN:=Lib.hid h1.2.1
 clear h1 h2
 have mixed:Tryz.prog.follows .mixedOrders=true:=by kernel_rfl
 go_enter Tryz.func42,Tryz.ntmps42
 go_wp2_with fail
 go_loopw [14] (fun vk wr=>∃ k:Nat,k≤n∧vk = .int .i64 k∧Hid (Below w.heap.size w wr)) (fun vk _=>n - (intOf vk).toNat)
 case atStart=>exact ⟨0,Nat.zero_le _,rfl,Lib.hid (Below.refl _ _)⟩
 case round=>
  obtain ⟨k,hk,rfl,HB⟩:=hrel
  rcases Nat.lt_or_ge k n with hlt | hge
  ·have hkl:k<l.length:=by rw [HLN.out];exact hlt
   obtain ⟨b,o,rfl,hb,hc⟩:=H1.out.at_ hlt
   obtain ⟨b',o',rfl,hb',hc'⟩:=H2.out.at_ hlt
   have f1:=(hc hkl).below HB.out hb
   have f2:=(hc' hkl).below HB.out hb'
   obtain ⟨x,hx⟩:∃ x,x=l[k]:=⟨_,rfl⟩
   rw [←hx] at f1 f2
   clear hx hc hc'
   obtain ⟨xh,xpo,xpr,xwe,xttl⟩:=x
   obtain ⟨c0_,c1_,c2_,c3_,c4_⟩:=f1.cells
   dsimp only at c0_ c1_ c2_ c3_ c4_
   have hbx:=Vx.new wr 31 [.string ⟨xh.toArray⟩,.int .i64 xpo,.int .i64 xpr,.int .i64 xwe,.int .u32 (xttl:Int)]
   have hbl:=bl_new wr (.cells #[.string ⟨xh.toArray⟩,.int .i64 xpo,.int .i64 xpr,.int .i64 xwe,.int .u32 (xttl:Int)] 31)
   have HF2:=Lib.hid f2
   clear f1 f2
   go_upto_region 6 with fail
   have f3:=HF2.out.below hbl (Nat.lt_of_lt_of_le hb' HB.out.size)
   have HB6:=Lib.hid (HB.out.trans (hbl.mono HB.out.size))
   obtain ⟨GX,hGX⟩:∃ G,G=wr.heap.size:=⟨_,rfl⟩
   rw [←hGX] at hbx ⊢
   generalize wr.alloc (.cells #[.string ⟨xh.toArray⟩,.int .i64 xpo,.int .i64 xpr,.int .i64 xwe,.int .u32 (xttl:Int)] 31)=w6 at hbx f3 HB6 ⊢
   obtain ⟨d0,d1,d2,d3,d4⟩:=hbx.c5
   obtain ⟨e0,e1,e2,e3,e4⟩:=f3.cells
   dsimp only at e0 e1 e2 e3 e4
   clear hbx hbl hGX c0_ c1_ c2_ c3_ c4_ f3
   go_quiet (fail)
   go_wp2_with fail
   go_roundw
   case rel=>exact ⟨k+1,by omega,by go_num,Lib.hid ((HB6.out.trans ((show Below w6.heap.size w6 (w6.drewN nq) from ⟨rfl,rfl,rfl,Nat.le_refl _,fun _ _=>rfl⟩).mono HB6.out.size)))⟩
   case measure=>simp [intOf];omega
  ·have hkn:n=k:=by omega
   subst hkn
   go_wp2_with fail
   go_ret
   exact ⟨rfl,HB.out⟩
end Go.Proofs.YtlipmlbijddopaaGreatDoor
set_option linter.unusedVariables false
set_option linter.unusedSimpArgs false
namespace Go.Proofs.YtlipmlbijddopaaGreatDoor
open Go.RowKit
set_option maxRecDepth 100000 in
set_option maxHeartbeats 2000000 in
theorem takes_at (A1 A2:Option Addr) (c1 c2 L1 L2:Nat) (q r:List UInt8) (w:World) (hL1:q.length=L1) (hL2:r.length=L2) (h1:Rd w w.heap.size A1 L1 (bc q)) (h2:Rd w w.heap.size A2 L2 (bc r)) (hc1:L1≤c1) (hc2:L2≤c2) (hb1:L1≤140737488351232) (hb2:L2≤140737488351232) :
 Calls Tryz.prog 13 #[.slice A1 L1 c1,.slice A2 L2 c2] w fun e w'=>e = .returned (.bool true)∧Below w.heap.size w w':=by
 have HL1:=Lib.hid hL1
 have HL2:=Lib.hid hL2
 have H1:=Lib.hid h1
 have H2:=Lib.hid h2
 have K1:=Lib.hid (bclone_at A1 c1 L1 q w w.heap.size hL1 (Nat.le_refl _) h1 (by omega))
 have K2:Hid (∀ W,Below w.heap.size w W→_):=Lib.hid (fun W hW=>bclone_at A2 c2 L2 r W W.heap.size hL2 (Nat.le_refl _) (h2.goes hW) (by omega))
 have K4:Hid (∀ W,Below w.heap.size w W→Calls Tryz.prog 41 #[.slice A1 L1 c1,.slice A2 L2 c2] W fun e w'=>∃ v,e = .returned (.tuple #[v,.int .i64 ((Srv.takeN q r).2:Int)])∧OwM w' W.heap.size 102 5 v (Srv.takeN q r).1.length (acs (Srv.takeN q r).1)∧Below W.heap.size W w'):=Lib.hid (fun W hW=>by
  have g1:=h1.goes hW
  have g2:=h2.goes hW
  subst hL1 hL2
  exact rtake_at A1 A2 c1 c2 q r W g1 g2 hc1 hc2 (by omega) (by omega))
 obtain ⟨T,hT⟩:∃ T,T=Srv.takeN q r:=⟨_,rfl⟩
 have K3:Hid (∀ (W:World) (A3 A4:Option Addr) (c3 c4:Nat),Rd W W.heap.size A3 L1 (bc q)→Rd W W.heap.size A4 L2 (bc r)→L1≤c3→L2≤c4→_):=Lib.hid (fun W A3 A4 c3 c4 g1 g2 g3 g4=>stake_at A3 A4 c3 c4 L1 L2 q r W hL1 hL2 g1 g2 g3 g4 (by omega) (by omega))
 rw [←hT] at K3 K4
 clear hT hL1 hL2 h1 h2
 obtain ⟨tl,te⟩:=T
 dsimp only at K3 K4
 obtain ⟨tn,htn⟩:∃ n,n=tl.length:=⟨_,rfl⟩
 rw [←htn] at K3 K4
 have HTN:=Lib.hid htn.symm
 clear htn
 go_enter Tryz.func13,Tryz.ntmps13
 go_wp2_with (first
  | (go_at_call 43
     have _t:=tk1
     refine (beq_at2 A4 A2 c4 c2 L2 L2 r r true w5 (by simp) HL2.out HL2.out HR45.out (H2.out.goes HB5.out)).mono ?_
     rintro e w5 ⟨rfl,rfl⟩)
  | (go_at_call 43
     refine (beq_at2 A3 A1 c3 c1 L1 L1 q q true w5 (by simp) HL1.out HL1.out HR35.out (H1.out.goes HB5.out)).mono ?_
     rintro e w5 ⟨rfl,rfl⟩
     have tk1:=True.intro)
  | (go_at_call 42
     refine (rsame_at A5 A6 c5 c6 tn tl w4 HA54.out HA64.out).mono ?_
     rintro e w5 ⟨rfl,hb5⟩
     have HB5:=Lib.hid (HB4.out.trans (hb5.mono HB4.out.size))
     have HR35:=Lib.hid (HR34.out.goes hb5)
     have HR45:=Lib.hid (HR44.out.goes hb5)
     clear hb5)
  | (go_at_call 41
     refine (K4.out w3 HB3.out).mono ?_
     rintro e w4 ⟨v6,rfl,ho6,hb4⟩
     obtain ⟨A6,c6,rfl,ha6⟩:=AsRd.of_own ho6 HTN.out (by omega) HAD.out
     have HA64:=Lib.hid ha6
     have HA54:=Lib.hid (HA53.out.goes hb4)
     have HR34:=Lib.hid (HR33.out.goes hb4)
     have HR44:=Lib.hid (HR43.out.goes hb4)
     have HB4:=Lib.hid (HB3.out.trans (hb4.mono HB3.out.size))
     clear ho6 ha6 hb4)
  | (go_at_call 35
     refine (K3.out w2 A3 A4 c3 c4 HR32.out HR42.out hc3 hc4).mono ?_
     rintro e w3 ⟨v5,rfl,ho5,had,htl,hb3⟩
     obtain ⟨A5,c5,rfl,ha5⟩:=AsRd.of_own ho5 HTN.out (by omega) had
     have HAD:=Lib.hid had
     have HA53:=Lib.hid ha5
     have HR33:=Lib.hid (HR32.out.goes hb3)
     have HR43:=Lib.hid (HR42.out.goes hb3)
     have HB3:=Lib.hid (HB2.out.trans (hb3.mono HB2.out.size))
     clear ho5 ha5 hb3 had)
  | (go_at_call 20
     refine (K2.out w1 HB1.out).mono ?_
     rintro e w2 ⟨v4,rfl,ho4,hb2⟩
     obtain ⟨A4,c4,rfl,hc4,hr4⟩:=Ow.form7 ho4 L2 (by rw [bc_length,HL2.out])
     have HR42:=Lib.hid hr4
     have HR32:=Lib.hid (HR31.out.goes hb2)
     have HB2:=Lib.hid (HB1.out.trans (hb2.mono HB1.out.size))
     clear ho4 hr4 hb2)
  | (go_at_call 20
     refine K1.out.mono ?_
     rintro e w1 ⟨v3,rfl,ho3,hb1⟩
     obtain ⟨A3,c3,rfl,hc3,hr3⟩:=Ow.form7 ho3 L1 (by rw [bc_length,HL1.out])
     have HR31:=Lib.hid hr3
     have HB1:=Lib.hid hb1
     clear ho3 hr3 hb1))
 go_ret
 exact ⟨rfl,HB5.out⟩
end Go.Proofs.YtlipmlbijddopaaGreatDoor
