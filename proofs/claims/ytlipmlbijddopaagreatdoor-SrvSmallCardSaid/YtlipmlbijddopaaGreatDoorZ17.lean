/-
  DnsQ6
-/
import Derived.Test.YtlipmlbijddopaaGreatDoorZ16
import Derived.Deep.RegionLaw
set_option linter.unusedVariables false
set_option linter.unusedSimpArgs false
namespace Go.Proofs.YtlipmlbijddopaaGreatDoor
open Go.RowKit
theorem resM {fn:Func} {q r:Tmp} (h:fn.results=#[.cell q 72,.tmp r]) (tmps:Array Value) (W:World) (g:Nat) (e:TypeId) (cs:List Value) (vr:Value) (hq:tmps[q]? = some (.pointer (some ⟨g,0,none⟩))) (hr:tmps[r]? = some vr) (hx:Vx W g e cs) (hn:cs.length=6) :
 (results fn tmps).run Tryz.prog W = .ok (.tuple #[.agg cs.toArray,vr]) W:=by
 simp [results,h,hq,hr,asAddr,hx.loadM hn]
theorem Tryz.infoQ:(Tryz.prog.info? 76).map (fun i=>(i.zero,i.size,i.bytes))=some (some (.agg #[.slice none 0 0,.int .u16 0,.int .u16 0]),3,32):=by kernel_rfl
theorem Tryz.infoR:(Tryz.prog.info? 88).map (fun i=>(i.zero,i.size,i.bytes))=some (some (.agg zRR.cells.toArray),9,96):=by kernel_rfl
def DQ (l:List QR) (o:Ob):Prop:=∃ x∈l,o=nmO x.A x.c x.q.nm
def DR (l:List RR) (o:Ob):Prop:=∃ x∈l,o=nmO x.A x.c x.r.q.nm∨o=daO x.dA x.dc x.r.d∨o=nmO x.tA x.tc x.r.tg
def rwQ (A:Option Addr) (c:Nat) (l:List QR):Ob:=⟨76,3,.slice A l.length c,l.length,qcs l⟩
def rwR (A:Option Addr) (c:Nat) (l:List RR):Ob:=⟨88,9,.slice A l.length c,l.length,rcs l⟩
structure MOw (w:World) (base:Nat) (x:MR):Prop where
 q:(rwQ x.qA x.qc x.qs).ok w base
 a:(rwR x.aA x.ac x.r0).ok w base
 b:(rwR x.bA x.bc x.r1).ok w base
 c:(rwR x.cA x.cc x.r2).ok w base
 n:∀ o,DQ x.qs o→o.ok w base
 r0:∀ o,DR x.r0 o→o.ok w base
 r1:∀ o,DR x.r1 o→o.ok w base
 r2:∀ o,DR x.r2 o→o.ok w base
def zMR:MR:=⟨0,0,none,0,[],none,0,[],none,0,[],none,0,[]⟩
theorem zMR_ow (w:World) (base:Nat):MOw w base zMR:=
 ⟨OwM.nil _ _ _ _,OwM.nil _ _ _ _,OwM.nil _ _ _ _,OwM.nil _ _ _ _,fun o ⟨x,hx,_⟩=>(by cases hx),fun o ⟨x,hx,_⟩=>(by cases hx),fun o ⟨x,hx,_⟩=>(by cases hx),fun o ⟨x,hx,_⟩=>(by cases hx)⟩
set_option maxRecDepth 100000 in
set_option maxHeartbeats 16000000 in
theorem readD_at (A:Option Addr) (c:Nat) (b:List UInt8) (w:World) (h:Rd w w.heap.size A b.length (bc b)) (hc:b.length≤c) (hAd:∀ a,A=some a→a.block<w.heap.size) (hbl:b.length≤140737488355328) :
 Calls Tryz.prog 33 #[.slice A b.length c] w fun e w'=>∃ x:MR,x.m=(readM b).1∧e = .returned (.tuple #[.agg x.cells.toArray,.int .i64 ((readM b).2:Int)])∧MOw w' w.heap.size x∧Below w.heap.size w w':=by
 have HR:=Lib.hid h
 clear h
 obtain ⟨rr,hrr⟩:∃ rr,rr=readM b:=⟨_,rfl⟩
 rw [←hrr]
 have hV1:Vx (w.alloc (.cells #[.int .u16 0,.int .u16 0,.slice none 0 0,.slice none 0 0,.slice none 0 0,.slice none 0 0] 72)) w.heap.size 72 zM6:=Vx.new w _ _
 have hb1:=below_new w (.cells #[.int .u16 0,.int .u16 0,.slice none 0 0,.slice none 0 0,.slice none 0 0,.slice none 0 0] 72)
 by_cases h1:4096<b.length
 ·have hr1:rr=(zM,3):=by rw [hrr];simp [readM,h1]
  clear hrr
  subst hr1
  have h1':(4096:Int)<(b.length:Int):=by omega
  go_enter Tryz.func33,Tryz.ntmps33
  go_wp2_with (refine wpList_store_row rfl 72 _ _ rfl w.heap.size _ rfl rfl _ _ hV1 (by kernel_rfl) rfl (by kernel_rfl) ?_)
  refine bodyPost_ret (resM Tryz.results33 _ _ w.heap.size _ _ _ rfl rfl (hV1.row zM6) rfl) rfl ?_
  exact ⟨zMR,rfl,rfl,zMR_ow _ _,hb1.trans ((Only.row _ _ _).below (Nat.le_refl _) (by simp))⟩
 by_cases h2:b.length<12
 ·have hr1:rr=(zM,171):=by rw [hrr];simp [readM,h1,h2]
  clear hrr
  subst hr1
  have h1':(b.length:Int)≤4096:=by omega
  have h2':(b.length:Int)<12:=by omega
  go_enter Tryz.func33,Tryz.ntmps33
  go_wp2_with (refine wpList_store_row rfl 72 _ _ rfl w.heap.size _ rfl rfl _ _ hV1 (by kernel_rfl) rfl (by kernel_rfl) ?_)
  refine bodyPost_ret (resM Tryz.results33 _ _ w.heap.size _ _ _ rfl rfl (hV1.row zM6) rfl) rfl ?_
  exact ⟨zMR,rfl,rfl,zMR_ow _ _,hb1.trans ((Only.row _ _ _).below (Nat.le_refl _) (by simp))⟩
 have h1':(b.length:Int)≤4096:=by omega
 have h2':(12:Int)≤(b.length:Int):=by omega
 obtain ⟨n0,e0⟩:∃ n,n=hd b 0:=⟨_,rfl⟩
 obtain ⟨n1,e1⟩:∃ n,n=hd b 1:=⟨_,rfl⟩
 obtain ⟨n2,e2⟩:∃ n,n=hd b 2:=⟨_,rfl⟩
 obtain ⟨n3,e3⟩:∃ n,n=hd b 3:=⟨_,rfl⟩
 obtain ⟨n4,e4⟩:∃ n,n=hd b 4:=⟨_,rfl⟩
 obtain ⟨n5,e5⟩:∃ n,n=hd b 5:=⟨_,rfl⟩
 have N0:=Lib.hid (show (n0,(⟨2,0⟩:St))=rNum b ⟨0,0⟩ by rw [e0];exact (rNum_hd b 0 (by omega)).symm)
 have N1:=Lib.hid (show (n1,(⟨4,0⟩:St))=rNum b ⟨2,0⟩ by rw [e1];exact (rNum_hd b 1 (by omega)).symm)
 have N2:=Lib.hid (show (n2,(⟨6,0⟩:St))=rNum b ⟨4,0⟩ by rw [e2];exact (rNum_hd b 2 (by omega)).symm)
 have N3:=Lib.hid (show (n3,(⟨8,0⟩:St))=rNum b ⟨6,0⟩ by rw [e3];exact (rNum_hd b 3 (by omega)).symm)
 have N4:=Lib.hid (show (n4,(⟨10,0⟩:St))=rNum b ⟨8,0⟩ by rw [e4];exact (rNum_hd b 4 (by omega)).symm)
 have N5:=Lib.hid (show (n5,(⟨12,0⟩:St))=rNum b ⟨10,0⟩ by rw [e5];exact (rNum_hd b 5 (by omega)).symm)
 have l0:n0<65536:=by rw [e0];exact num2_le _
 have l1:n1<65536:=by rw [e1];exact num2_le _
 have l2:n2<65536:=by rw [e2];exact num2_le _
 have l3:n3<65536:=by rw [e3];exact num2_le _
 have l4:n4<65536:=by rw [e4];exact num2_le _
 have l5:n5<65536:=by rw [e5];exact num2_le _
 have hrf:rr=if 256<n2+n3+n4+n5 then (zM,5) else readRest b n0 n1 n2 n3 n4 n5:=by
  rw [hrr,e0,e1,e2,e3,e4,e5,readM,if_neg h1,if_neg h2];rfl
 have HRF:=Lib.hid hrf
 clear hrf hrr e0 e1 e2 e3 e4 e5 h1 h2
 have hcl:b.length≤100000:=by omega
 go_enter Tryz.func33,Tryz.ntmps33
 go_upto_region 6 with fail
 obtain ⟨G,hG⟩:∃ G,G=w.heap.size+1:=⟨_,rfl⟩
 have hS2:RdS ((w.alloc (.cells #[.int .u16 0,.int .u16 0,.slice none 0 0,.slice none 0 0,.slice none 0 0,.slice none 0 0] 72)).alloc (.cells #[.slice A b.length c,.int .i64 0,.int .i64 0] 137)) G A c b ⟨0,0⟩:=by
  refine ⟨?_,(HR.out.goes hb1).goes (below_new _ _),hc,hcl,fun a ha=>by have:=hAd a ha;omega,fun _=>Nat.zero_le _,⟨by simp,by simp⟩⟩
  have:=Vx.new (w.alloc (.cells #[.int .u16 0,.int .u16 0,.slice none 0 0,.slice none 0 0,.slice none 0 0,.slice none 0 0] 72)) 137 [.slice A b.length c,.int .i64 0,.int .i64 0]
  rw [World.size_alloc,←hG] at this
  exact this
 have hV2:=hV1.alloc (.cells #[.slice A b.length c,.int .i64 0,.int .i64 0] 137)
 have hb2:=hb1.trans ((below_new (w.alloc (.cells #[.int .u16 0,.int .u16 0,.slice none 0 0,.slice none 0 0,.slice none 0 0,.slice none 0 0] 72)) (.cells #[.slice A b.length c,.int .i64 0,.int .i64 0] 137)).mono (by simp))
 have hz2:((w.alloc (.cells #[.int .u16 0,.int .u16 0,.slice none 0 0,.slice none 0 0,.slice none 0 0,.slice none 0 0] 72)).alloc (.cells #[.slice A b.length c,.int .i64 0,.int .i64 0] 137)).heap.size=G+1:=by simp [hG]
 try rw [←hG]
 generalize (w.alloc (.cells #[.int .u16 0,.int .u16 0,.slice none 0 0,.slice none 0 0,.slice none 0 0,.slice none 0 0] 72)).alloc (.cells #[.slice A b.length c,.int .i64 0,.int .i64 0] 137)=w2 at *
 clear hV1 hb1
 have HS2:=Lib.hid hS2
 have HV2:=Lib.hid hV2
 have HB2:=Lib.hid hb2
 have HZ2:=Lib.hid hz2
 have HG:=Lib.hid hG
 clear hS2 hV2 hb2 hz2 hG
 go_upto_region 8 with (first
  | (go_at_call 111
     refine (num_at2 P G A c b ⟨2,0⟩ (n1,⟨4,0⟩) N1.out w4 hS4 hp4 hPG).mono ?_
     rintro e w5 ⟨rfl,hS5,hO5,hp5⟩)
  | (go_at_call 111
     refine (num_at2 P G A c b ⟨0,0⟩ (n0,⟨2,0⟩) N0.out w3 hS3 hp3 hPG).mono ?_
     rintro e w4 ⟨rfl,hS4,hO4,hp4⟩)
  | (go_at_call 75
     refine (newnum_at2 G HS2.out).mono ?_
     rintro e w3 ⟨P,rfl,hS3,hb3,hp3,hPG⟩))
 obtain ⟨M,hM⟩:∃ M,M=w5.heap.size:=⟨_,rfl⟩
 have hP5:P<w5.heap.size:=World.block_lt_of_cell? _ _ hp5
 have hV6:Vx (w5.alloc (.cells #[.int .u16 (n0:Int),.int .u16 (n1:Int),.slice none 0 0,.slice none 0 0,.slice none 0 0,.slice none 0 0] 72)) M 72 [.int .u16 (n0:Int),.int .u16 (n1:Int),.slice none 0 0,.slice none 0 0,.slice none 0 0,.slice none 0 0]:=by
  rw [hM];exact Vx.new w5 _ _
 have hS6:=hS5.go (below_new w5 (.cells #[.int .u16 (n0:Int),.int .u16 (n1:Int),.slice none 0 0,.slice none 0 0,.slice none 0 0,.slice none 0 0] 72))
 have hp6:=(Only.of_below (below_new w5 (.cells #[.int .u16 (n0:Int),.int .u16 (n1:Int),.slice none 0 0,.slice none 0 0,.slice none 0 0,.slice none 0 0] 72)):Only _ _ G).cell hp5 hPG
 have hO6:Only w2 (w5.alloc (.cells #[.int .u16 (n0:Int),.int .u16 (n1:Int),.slice none 0 0,.slice none 0 0,.slice none 0 0,.slice none 0 0] 72)) G:=(((Only.of_below hb3).trans hO4).trans hO5).trans (Only.of_below (below_new _ _))
 have hM2:G<M:=by have:=hS5.vx.lt;omega
 have hM6:M<(w5.alloc (.cells #[.int .u16 (n0:Int),.int .u16 (n1:Int),.slice none 0 0,.slice none 0 0,.slice none 0 0,.slice none 0 0] 72)).heap.size:=by simp [hM]
 try rw [←hM]
 generalize w5.alloc (.cells #[.int .u16 (n0:Int),.int .u16 (n1:Int),.slice none 0 0,.slice none 0 0,.slice none 0 0,.slice none 0 0] 72)=w6 at *
 have hPM:P<M:=by omega
 clear hM hP5
 have HS6:=Lib.hid hS6
 have HV6:=Lib.hid hV6
 have HP6:=Lib.hid hp6
 have HO6:=Lib.hid hO6
 clear hS6 hV6 hp6 hO6 hS5 hp5 hO5 hS4 hp4 hO4 hS3 hb3 hp3
 go_upto_region 10 with (first
  | (go_at_call 111
     refine (num_at2 P G A c b ⟨10,0⟩ (n5,⟨12,0⟩) N5.out w9 hS9 hp9 hPG).mono ?_
     rintro e w10 ⟨rfl,hS10,hO10,hp10⟩)
  | (go_at_call 111
     refine (num_at2 P G A c b ⟨8,0⟩ (n4,⟨10,0⟩) N4.out w8 hS8 hp8 hPG).mono ?_
     rintro e w9 ⟨rfl,hS9,hO9,hp9⟩)
  | (go_at_call 111
     refine (num_at2 P G A c b ⟨6,0⟩ (n3,⟨8,0⟩) N3.out w7 hS7 hp7 hPG).mono ?_
     rintro e w8 ⟨rfl,hS8,hO8,hp8⟩)
  | (go_at_call 111
     refine (num_at2 P G A c b ⟨4,0⟩ (n2,⟨6,0⟩) N2.out w6 HS6.out HP6.out hPG).mono ?_
     rintro e w7 ⟨rfl,hS7,hO7,hp7⟩))
 obtain ⟨C,hC⟩:∃ C,C=w10.heap.size:=⟨_,rfl⟩
 have hO10':Only w6 w10 G:=((hO7.trans hO8).trans hO9).trans hO10
 have hlC:M<C:=by have:=hO10'.size;omega
 have hX:RSt w (w10.alloc (.cells #[.int .i64 (n3:Int),.int .i64 (n4:Int),.int .i64 (n5:Int)] 140)) P G M C (C+1) A c b ⟨12,0⟩ [.int .u16 (n0:Int),.int .u16 (n1:Int),.slice none 0 0,.slice none 0 0,.slice none 0 0,.slice none 0 0] [.int .i64 (n3:Int),.int .i64 (n4:Int),.int .i64 (n5:Int)]:=by
  have hg:=HG.out
  have hO26:Only w2 w10 G:=HO6.out.trans hO10'
  refine ⟨hS10.go (below_new _ _),(Only.of_below (below_new w10 _):Only _ _ G).cell hp10 hPG,?_,?_,?_,?_,?_,?_⟩
  ·exact (HV2.out.grown hO26 (fun e=>by have:=Option.some.inj e;omega)).alloc _
  ·exact (HV6.out.grown hO10' (fun e=>by have:=Option.some.inj e;omega)).alloc _
  ·rw [hC];exact Vx.new w10 _ _
  ·exact (HB2.out.trans (hO26.below (by omega) (by have:=HZ2.out;omega))).alloc (by have:=HB2.out.size;have:=hO26.size;omega) _
  ·omega
  ·exact ⟨by omega,by omega,by omega,by omega,by simp [hC]⟩
 try rw [←hC]
 generalize w10.alloc (.cells #[.int .i64 (n3:Int),.int .i64 (n4:Int),.int .i64 (n5:Int)] 140)=w11 at *
 have HX:=Lib.hid hX
 clear hX hC hO10' hS10 hp10 hO10 hS9 hp9 hO9 hS8 hp8 hO8 hS7 hp7 hO7 HS6 HV6 HP6 HO6 HS2 HV2 HB2 HZ2 N0 N1 N2 N3 N4 N5 hM6
 obtain ⟨k0,k1,k2⟩:=HX.out.vc.c3
 by_cases hsum:256<n2+n3+n4+n5
 ·have hr1:rr=(zM,5):=by rw [HRF.out,if_pos hsum]
  clear HRF
  subst hr1
  have hs':(256:Int)<(n2:Int)+(n3:Int)+(n4:Int)+(n5:Int):=by omega
  go_wp2_with (refine wpList_store_row rfl 72 _ _ rfl w.heap.size _ rfl rfl _ _ HX.out.vr (by kernel_rfl) rfl (by kernel_rfl) ?_)
  refine bodyPost_ret (resM Tryz.results33 _ _ w.heap.size _ _ _ rfl rfl (HX.out.vr.row zM6) rfl) rfl ?_
  exact ⟨zMR,rfl,rfl,zMR_ow _ _,HX.out.bl.trans ((Only.row _ _ _).below (Nat.le_refl _) (by have:=HX.out.bl.size;omega))⟩
 have hr1:rr=readRest b n0 n1 n2 n3 n4 n5:=by rw [HRF.out,if_neg hsum]
 have HR1:=Lib.hid hr1
 have hs':(n2:Int)+(n3:Int)+(n4:Int)+(n5:Int)≤256:=by omega
 have hAb:∀ a,A=some a→a.block<C+1:=fun a ha=>by have:=hAd a ha;have:=HX.out.lo;omega
 have hAM:∀ a,A=some a→a.block≠M:=fun a ha=>by have:=hAd a ha;have:=HX.out.lo;omega
 have HAb:=Lib.hid hAb
 have HAM:=Lib.hid hAM
 clear hr1 HRF hAd hAb hAM
 obtain ⟨i0,hi,hz0,hz1,hz2⟩:=info_parts Tryz.infoQ
 obtain ⟨j0,hj',hy0,hy1,hy2⟩:=info_parts Tryz.infoR
 go_wp2_with fail
 go_loopw [57] (fun i wr=>∃ (k:Nat) (l:List QR) (Aq:Option Addr) (cq:Nat),k≤n2∧i = .int .i64 k∧k≤cq∧Hid (RSt w wr P G M C (C+1) A c b (rQs b ⟨12,0⟩ k).2 [.int .u16 (n0:Int),.int .u16 (n1:Int),.slice Aq k cq,.slice none 0 0,.slice none 0 0,.slice none 0 0] [.int .i64 (n3:Int),.int .i64 (n4:Int),.int .i64 (n5:Int)])∧Hid (l.map QR.q=(rQs b ⟨12,0⟩ k).1)∧Hid (OwM wr (C+1) 76 3 (.slice Aq k cq) k (qcs l))∧Hid (Held wr (C+1) (DQ l) (.slice Aq k cq))) (fun i _=>n2 - (intOf i).toNat)
 case atStart=>exact ⟨0,[],none,0,Nat.zero_le _,rfl,Nat.le_refl _,HX,Lib.hid rfl,Lib.hid (OwM.nil _ _ _ _),Lib.hid ((Held.nil _ _ _).mono (fun o ⟨x,hx,_⟩=>by cases hx))⟩
 case round=>
  clear HX k0 k1 k2
  obtain ⟨k,l,Aq,cq,hk,rfl,hkc,HX,HL,HO,HH⟩:=hrel
  obtain ⟨m0,m1,m2,m3,m4,m5⟩:=HX.out.vm.c6
  rcases Nat.lt_or_ge k n2 with hlt | hge
  ·obtain ⟨q,hq⟩:∃ q,q=rQ b (rQs b ⟨12,0⟩ k).2:=⟨_,rfl⟩
   have HQ:=Lib.hid hq
   have hhi:=HX.out.hi
   have hPG':=HX.out.lo.2.2.2.2.2.2.1
   clear hq
   go_upto_region 14 with fail
   go_region_law (first
    | (rw [if_pos (by rfl)]
       go_simp
       go_at_call 76
       refine (question_at2 P G A c b (rQs b ⟨12,0⟩ k).2 q HQ.out _ HX.out.rs.drew HX.out.pc hPG').mono ?_
       rintro e w2 ⟨An,cn,rfl,hn2,hS2,hO2⟩
       unfold QR.cells
       have hX2:=HX.out.only ((Only.drew wr G).trans hO2) hS2
       have hX2b:=hX2.far (below_new w2 (.cells #[.slice An q.1.nm.length cn,.int .u16 (q.1.ty:Int),.int .u16 (q.1.cl:Int)] 76))
       obtain ⟨_,_,m2',_,_,_⟩:=hX2.vm.c6
       obtain ⟨_,_,m2b,_,_,_⟩:=hX2b.vm.c6)
    | (refine step_appM rfl _ _ _ _ rfl (C+1) 3 76 i0 _ 32 Tryz.underlying68 hi hz0 hz1 hz2 rfl (by omega) (.slice Aq k cq) k (qcs l) ((HO.out.drew.only hO2 hhi.1).alloc _) rfl (.slice (some ⟨w2.heap.size,0,none⟩) 1 1) rfl 1 (QR.cells ⟨An,cn,q.1⟩) (litM_src Tryz.underlying68 _ 3 _ 1 rfl (qcells_one _)) (by omega) (by have:wr.heap.size≤w2.heap.size:=hO2.size;simp;omega) ?_
       intro v3 w3 hown3 hgr3 hsz3
       obtain ⟨A3,c3,rfl,hc3,_,_⟩:=hown3.form
       have hX3:=(hX2.far (below_new w2 (.cells (QR.cells ⟨An,cn,q.1⟩).toArray 76))).gr hgr3 (OwM.lt HO.out) HAb.out
       obtain ⟨_,_,m3',_,_,_⟩:=hX3.vm.c6
       have f3':=hX3.vm.free 2))
   all_goals
    go_wp2_with fail
    go_roundw
    case rel=>
     refine ⟨k+1,l++[⟨An,cn,q.1⟩],A3,c3,by omega,by go_num,hc3,Lib.hid ?_,Lib.hid ?_,Lib.hid ?_,Lib.hid ?_⟩
     ·have:=hX3.setM HAM.out 2 (.slice A3 (k+1) c3)
      show RSt _ _ _ _ _ _ _ _ _ _ (rQ b (rQs b ⟨12,0⟩ k).2).2 _ _
      rw [←HQ.out]
      exact this
     ·rw [List.map_append,HL.out]
      show _=(rQs b ⟨12,0⟩ k).1++[(rQ b (rQs b ⟨12,0⟩ k).2).1]
      rw [←HQ.out];rfl
     ·rw [qcs_snoc]
      exact OwM.setL hown3 hhi.2.1 _ _
     ·have h1:=((HH.out.only (Only.drew wr G) hhi.1).only hO2 hhi.1).add (nmO An cn q.1.nm) (OwM.mono hn2 (show C+1≤wr.heap.size from hhi.2.2.2.2)) (ne_new HO.out hn2 (Nat.le_refl wr.heap.size))
      have h2:=(((h1.far (below_new w2 _)).gr hgr3).setL hhi.2.1 2 (.slice A3 (k+1) c3))
      refine h2.mono fun o ho=>?_
      obtain ⟨x,hx,e⟩:=ho
      rcases List.mem_append.1 hx with hx | hx
      ·exact Or.inr ⟨x,hx,e⟩
      ·simp at hx
       subst hx
       exact Or.inl e
    case measure=>simp [intOf];omega
  ·have hkn:k=n2:=by omega
   subst hkn
   clear m0 m1 m2 m3 m4 m5
   obtain ⟨S0,hS0⟩:∃ S0,S0=(rQs b ⟨12,0⟩ k).2:=⟨_,rfl⟩
   rw [←hS0] at HX
   have HS0:=Lib.hid hS0
   clear hS0
   have hlq:l.length=k:=by
    have:=HO.out.len
    rw [qcs_length] at this
    omega
   have hD0:=HH.out.fin (rwQ Aq cq l) (show (rwQ Aq cq l).ok wr (C+1) by
    unfold Ob.ok rwQ
    rw [hlq]
    exact HO.out)
   have HLQ:=Lib.hid hlq
   clear hlq
   have HD0:=Lib.hid hD0
   clear hD0 HH
   obtain ⟨c0,c1,c2⟩:=HX.out.vc.c3
   go_wp2_with fail
   go_loopw [9,10,69] (fun _ _ vi wr=>∃ (i:Nat) (rs:List RW),i≤3∧vi = .int .i64 i∧rs.length=i∧Hid (RSt w wr P G M C (C+1) A c b (rLs b S0 [n3,n4,n5] i).2 (mcs n0 n1 (.slice Aq k cq) rs) [.int .i64 (n3:Int),.int .i64 (n4:Int),.int .i64 (n5:Int)])∧Hid (rs.map (fun r=>r.l.map RR.r)=(rLs b S0 [n3,n4,n5] i).1)∧Hid (Held wr (C+1) (fun o=>(o=rwQ Aq cq l∨DQ l o)∨∃ r∈rs,o=rwR r.A r.c r.l∨DR r.l o) (.slice none 0 0))) (fun _ _ i _=>3 - (intOf i).toNat)
   case atStart=>
    refine ⟨0,[],by omega,rfl,rfl,HX,Lib.hid rfl,Lib.hid (HD0.out.mono (fun o ho=>?_))⟩
    rcases ho with ho | ⟨r,hr,_⟩
    ·exact ho
    ·cases hr
   case round=>
    clear HX HD0 c0 c1 c2
    obtain ⟨i,rs,hi3,rfl,hrl,HX,HL2,HH⟩:=hrel
    rcases Nat.lt_or_ge i 3 with hlt | hge
    ·have hix:=fun W=>idxI W n3 n4 n5 i hlt
     obtain ⟨cn,hcn⟩:∃ cn,cn=[n3,n4,n5].getD i 0:=⟨_,rfl⟩
     rw [←hcn] at hix
     have hcl':cn≤256:=by
      rw [hcn]
      rcases (show i=0∨i=1∨i=2 by omega) with rfl | rfl | rfl <;> simp <;> omega
     have HCN:=Lib.hid hcn
     clear hcn
     obtain ⟨Si,hSi⟩:∃ Si,Si=(rLs b S0 [n3,n4,n5] i).2:=⟨_,rfl⟩
     rw [←hSi] at HX
     have HSi:=Lib.hid hSi
     clear hSi
     go_wp2_with fail
     generalize decide ((i:Int)<3)=d70
     go_loopw [74] (fun vj wr=>∃ (j:Nat) (l3:List RR) (Ar:Option Addr) (cr:Nat),j≤cn∧vj = .int .i64 j∧j≤cr∧Hid (RSt w wr P G M C (C+1) A c b (rRs b Si j).2 ((mcs n0 n1 (.slice Aq k cq) rs).set (3+i) (.slice Ar j cr)) [.int .i64 (n3:Int),.int .i64 (n4:Int),.int .i64 (n5:Int)])∧Hid (l3.map RR.r=(rRs b Si j).1)∧Hid (OwM wr (C+1) 88 9 (.slice Ar j cr) j (rcs l3))∧Hid (Held wr (C+1) (fun o=>((o=rwQ Aq cq l∨DQ l o)∨∃ r∈rs,o=rwR r.A r.c r.l∨DR r.l o)∨DR l3 o) (.slice Ar j cr))) (fun j _=>cn - (intOf j).toNat)
     case atStart=>
      refine ⟨0,[],none,0,Nat.zero_le _,rfl,Nat.le_refl _,Lib.hid ?_,Lib.hid rfl,Lib.hid (OwM.nil _ _ _ _),Lib.hid (HH.out.mono (fun o ho=>?_))⟩
      ·have:=mcs_nil n0 n1 (.slice Aq k cq) rs (by omega)
       rw [hrl] at this
       rw [this]
       exact HX.out
      ·rcases ho with ho | ⟨x,hx,_⟩
       ·exact ho
       ·cases hx
     case round=>
      clear HX HH
      obtain ⟨j,l3,Ar,cr,hj,rfl,hjc,HX,HL3,HO3,HH3⟩:=hrel
      rcases Nat.lt_or_ge j cn with hjlt | hjge
      ·obtain ⟨q,hq⟩:∃ q,q=rR b (rRs b Si j).2:=⟨_,rfl⟩
       have HQ:=Lib.hid hq
       have hhi:=HX.out.hi
       have hPG':=HX.out.lo.2.2.2.2.2.2.1
       have m2:wr.cell? ⟨M,3+i,none⟩=some (.slice Ar j cr):=by
        rw [HX.out.vm.cell]
        have:=mcs_get n0 n1 (.slice Aq k cq) rs (by omega) (.slice Ar j cr)
        rwa [hrl] at this
       clear hq
       go_upto_region 21 with fail
       go_region_law (first
        | (rw [if_pos (by rfl)]
           go_simp
           go_at_call 77
           refine (record_at2 P G A c b (rRs b Si j).2 q HQ.out _ HX.out.rs.drew HX.out.pc hPG').mono ?_
           rintro e w2 ⟨An,cnm,dA,dc,tA,tc,rfl,⟨O2,hw2⟩,hS2,hO2⟩
           unfold RR.cells
           dsimp only
           have hX2:=HX.out.only ((Only.drew wr G).trans hO2) hS2
           have hX2b:=hX2.far (below_new w2 (.cells #[.slice An q.1.q.nm.length cnm,.int .u16 (q.1.q.ty:Int),.int .u16 (q.1.q.cl:Int),.int .u32 (q.1.ttl:Int),.slice dA q.1.d.length dc,.int .u16 (q.1.pr:Int),.int .u16 (q.1.we:Int),.int .u16 (q.1.po:Int),.slice tA q.1.tg.length tc] 88))
           have m2':w2.cell? ⟨M,3+i,none⟩=some (.slice Ar j cr):=by
            rw [hX2.vm.cell]
            have:=mcs_get n0 n1 (.slice Aq k cq) rs (by omega) (.slice Ar j cr)
            rwa [hrl] at this
           have m2b:(w2.alloc (.cells #[.slice An q.1.q.nm.length cnm,.int .u16 (q.1.q.ty:Int),.int .u16 (q.1.q.cl:Int),.int .u32 (q.1.ttl:Int),.slice dA q.1.d.length dc,.int .u16 (q.1.pr:Int),.int .u16 (q.1.we:Int),.int .u16 (q.1.po:Int),.slice tA q.1.tg.length tc] 88)).cell? ⟨M,3+i,none⟩=some (.slice Ar j cr):=by
            rw [hX2b.vm.cell]
            have:=mcs_get n0 n1 (.slice Aq k cq) rs (by omega) (.slice Ar j cr)
            rwa [hrl] at this)
        | (refine step_appM rfl _ _ _ _ rfl (C+1) 9 88 j0 _ 96 Tryz.underlying69 hj' hy0 hy1 hy2 rfl (by omega) (.slice Ar j cr) j (rcs l3) ((HO3.out.drew.only hO2 hhi.1).alloc _) rfl (.slice (some ⟨w2.heap.size,0,none⟩) 1 1) rfl 1 (RR.cells ⟨An,cnm,dA,dc,tA,tc,q.1⟩) (litM_src Tryz.underlying69 _ 9 _ 1 rfl (rcells_one _)) (by omega) (by have:wr.heap.size≤w2.heap.size:=hO2.size;simp;omega) ?_
           intro v3 w3 hown3 hgr3 hsz3
           obtain ⟨A3,c3,rfl,hc3,_,_⟩:=hown3.form
           have hX3:=(hX2.far (below_new w2 (.cells (RR.cells ⟨An,cnm,dA,dc,tA,tc,q.1⟩).toArray 88))).gr hgr3 (OwM.lt HO3.out) HAb.out
           have m3':w3.cell? ⟨M,3+i,none⟩=some (.slice Ar j cr):=by
            rw [hX3.vm.cell]
            have:=mcs_get n0 n1 (.slice Aq k cq) rs (by omega) (.slice Ar j cr)
            rwa [hrl] at this
           have f3':=hX3.vm.free (3+i)))
       all_goals
        go_wp2_with fail
        go_roundw
        case rel=>
         refine ⟨j+1,l3++[⟨An,cnm,dA,dc,tA,tc,q.1⟩],A3,c3,by omega,by go_num,hc3,Lib.hid ?_,Lib.hid ?_,Lib.hid ?_,Lib.hid ?_⟩
         ·have:=hX3.setM HAM.out (3+i) (.slice A3 (j+1) c3)
          rw [set_set_same] at this
          show RSt _ _ _ _ _ _ _ _ _ _ (rR b (rRs b Si j).2).2 _ _
          rw [←HQ.out]
          exact this
         ·rw [List.map_append,HL3.out]
          show _=(rRs b Si j).1++[(rR b (rRs b Si j).2).1]
          rw [←HQ.out];rfl
         ·rw [rcs_snoc]
          exact OwM.setL hown3 hhi.2.1 _ _
         ·have hle:C+1≤wr.heap.size:=hhi.2.2.2.2
          have h0:=(HH3.out.only (Only.drew wr G) hhi.1).only hO2 hhi.1
          have h1:=h0.add (nmO An cnm q.1.q.nm) (OwM.mono hw2.n hle) (ne_new HO3.out hw2.n (Nat.le_refl wr.heap.size))
          have h2:=h1.add (daO dA dc q.1.d) (OwM.mono hw2.d hle) (ne_new HO3.out hw2.d (Nat.le_refl wr.heap.size))
          have h3:=h2.add (nmO tA tc q.1.tg) (OwM.mono hw2.t hle) (ne_new HO3.out hw2.t (Nat.le_refl wr.heap.size))
          have h4:=(((h3.far (below_new w2 _)).gr hgr3).setL hhi.2.1 (3+i) (.slice A3 (j+1) c3))
          refine h4.mono fun o ho=>?_
          rcases ho with ho | ⟨x,hx,e⟩
          ·exact Or.inr (Or.inr (Or.inr (Or.inl ho)))
          ·rcases List.mem_append.1 hx with hx | hx
           ·exact Or.inr (Or.inr (Or.inr (Or.inr ⟨x,hx,e⟩)))
           ·simp at hx
            subst hx
            rcases e with e | e | e
            ·exact Or.inr (Or.inr (Or.inl e))
            ·exact Or.inr (Or.inl e)
            ·exact Or.inl e
        case measure=>simp [intOf];omega
      ·have hjn:j=cn:=by omega
       subst hjn
       have hl3:l3.length=j:=by
        have:=HO3.out.len
        rw [rcs_length] at this
        omega
       have HL3L:=Lib.hid hl3
       clear hl3
       go_wp2_with fail
       go_roundw
       case rel=>
        refine ⟨i+1,rs++[⟨Ar,cr,l3⟩],by omega,by go_num,by simp [hrl],Lib.hid ?_,Lib.hid ?_,Lib.hid ?_⟩
        ·show RSt _ _ _ _ _ _ _ _ _ _ (rRs b (rLs b S0 [n3,n4,n5] i).2 ([n3,n4,n5].getD i 0)).2 _ _
         rw [←HSi.out,←HCN.out]
         have:=mcs_snoc n0 n1 (.slice Aq k cq) rs (by omega) ⟨Ar,cr,l3⟩
         unfold RW.v at this
         simp only at this
         rw [HL3L.out,hrl] at this
         rw [←this]
         exact HX.out
        ·rw [List.map_append,HL2.out]
         show _=(rLs b S0 [n3,n4,n5] i).1++[(rRs b (rLs b S0 [n3,n4,n5] i).2 ([n3,n4,n5].getD i 0)).1]
         rw [←HSi.out,←HCN.out,←HL3.out];rfl
        ·refine (HH3.out.fin (rwR Ar cr l3) (show (rwR Ar cr l3).ok wr (C+1) by
          unfold Ob.ok rwR
          rw [HL3L.out]
          exact HO3.out)).mono fun o ho=>?_
         rcases ho with ho | ⟨r,hr,e⟩
         ·exact Or.inr (Or.inl (Or.inl ho))
         ·rcases List.mem_append.1 hr with hr | hr
          ·exact Or.inr (Or.inl (Or.inr ⟨r,hr,e⟩))
          ·simp at hr
           subst hr
           rcases e with e | e
           ·exact Or.inl e
           ·exact Or.inr (Or.inr e)
       case measure=>simp [intOf];omega
    ·have hi3':i=3:=by omega
     subst hi3'
     match rs,hrl with
     | [x0,x1,x2],_=>
       obtain ⟨z,hz⟩:∃ z,z=rLs b S0 [n3,n4,n5] 3:=⟨_,rfl⟩
       rw [←hz] at HX HL2
       have hrr2:rr=(let e:=if z.2.e=0 then (if z.2.at_<b.length then 173 else 0) else z.2.e
        if e=0 then (⟨n0,n1,(rQs b ⟨12,0⟩ k).1,z.1.getD 0 [],z.1.getD 1 [],z.1.getD 2 []⟩,0) else (zM,e)):=by
        rw [HR1.out,readRest_eq,hz,HS0.out]
       have HRR:=Lib.hid hrr2
       clear hrr2 HR1 hz
       obtain ⟨k0,k1,k2⟩:=HX.out.rs.vx.c3
       have fg:=HX.out.rs.vx.free 2
       have hMO:∀ W,Only wr W w.heap.size→MOw W w.heap.size ⟨n0,n1,Aq,cq,l,x0.A,x0.c,x0.l,x1.A,x1.c,x1.l,x2.A,x2.c,x2.l⟩:=by
        intro W hW
        have hB:w.heap.size<C+1:=by have:=HX.out.lo;omega
        have h1:=HH.out.only hW hB
        have hm:∀ o,((o=rwQ Aq cq l∨DQ l o)∨∃ r∈[x0,x1,x2],o=rwR r.A r.c r.l∨DR r.l o)→o.ok W w.heap.size:=fun o ho=>OwM.mono (h1.dn o ho) (by omega)
        exact ⟨hm _ (Or.inl (Or.inl rfl)),hm _ (Or.inr ⟨x0,by simp,Or.inl rfl⟩),hm _ (Or.inr ⟨x1,by simp,Or.inl rfl⟩),hm _ (Or.inr ⟨x2,by simp,Or.inl rfl⟩),fun o ho=>hm _ (Or.inl (Or.inr ho)),fun o ho=>hm _ (Or.inr ⟨x0,by simp,Or.inr ho⟩),fun o ho=>hm _ (Or.inr ⟨x1,by simp,Or.inr ho⟩),fun o ho=>hm _ (Or.inr ⟨x2,by simp,Or.inr ho⟩)⟩
       have HMO:=Lib.hid hMO
       clear hMO
       by_cases hE:z.2.e=0
       ·by_cases hAt:z.2.at_<b.length
        ·have hr1:rr=(zM,173):=by rw [HRR.out];simp [hE,hAt]
         clear HRR
         subst hr1
         have ha1:(z.2.e:Int)=0:=by omega
         have ha2:((z.2.e:Int) == 0)=true:=by simp [hE]
         have ha4:(z.2.at_:Int)<(b.length:Int):=by omega
         go_upto_region 27 with fail
         have HX9:=Lib.hid (HX.out.only (Only.set_ wr G 2 (.int .i64 173)) (HX.out.rs.setE 173 (by omega) (by omega)))
         obtain ⟨k0,k1,k2⟩:=HX9.out.rs.vx.c3
         obtain ⟨r0,r1,r2,r3,r4,r5⟩:=HX9.out.vr.c6
         have hlo1:=HX9.out.lo.1
         have hne1:¬ w.heap.size=G:=by omega
         have hne2:¬ G=w.heap.size:=by omega
         have e0:=HX9.out.vr.free 0
         have e1:=HX9.out.vr.free 1
         have e2:=HX9.out.vr.free 2
         have e3:=HX9.out.vr.free 3
         have e4:=HX9.out.vr.free 4
         have e5:=HX9.out.vr.free 5
         go_region
         all_goals go_wp2_with fail
         all_goals refine bodyPost_ret (resM Tryz.results33 _ _ w.heap.size _ _ (.int .i64 173) rfl rfl ((set6_vx HX9.out.vr rfl).drew) rfl) rfl ?_
         all_goals exact ⟨zMR,rfl,rfl,zMR_ow _ _,(HX9.out.bl.trans ((set6_only _ _ _ _ _ _ _ _).below (Nat.le_refl _) (by have:w.heap.size≤_:=HX9.out.bl.size;exact this))).drew⟩
        ·have hr1:rr=(⟨n0,n1,(rQs b ⟨12,0⟩ k).1,z.1.getD 0 [],z.1.getD 1 [],z.1.getD 2 []⟩,0):=by rw [HRR.out];simp [hE,hAt]
         clear HRR
         subst hr1
         have ha1:(z.2.e:Int)=0:=by omega
         have ha2:((z.2.e:Int) == 0)=true:=by simp [hE]
         have ha3:((z.2.e:Int) != 0)=false:=by simp [hE]
         have ha4:(b.length:Int)≤(z.2.at_:Int):=by omega
         go_wp2_with (first
          | (refine wpList_store_row rfl 72 _ _ rfl w.heap.size _ rfl rfl _ _ HX.out.vr (by kernel_rfl) rfl (by kernel_rfl) ?_)
          | (refine wpList_load_row rfl 72 _ rfl M rfl _ _ _ _ HX.out.vm Tryz.underlying72 rfl (by kernel_rfl) ?_))
         refine bodyPost_ret (resM Tryz.results33 _ _ w.heap.size _ _ (.int .i64 0) rfl rfl (HX.out.vr.row _) rfl) rfl ?_
         have hcs:mcs n0 n1 (.slice Aq k cq) [x0,x1,x2]=MR.cells ⟨n0,n1,Aq,cq,l,x0.A,x0.c,x0.l,x1.A,x1.c,x1.l,x2.A,x2.c,x2.l⟩:=by
          unfold MR.cells
          simp only
          rw [HLQ.out];rfl
         refine ⟨⟨n0,n1,Aq,cq,l,x0.A,x0.c,x0.l,x1.A,x1.c,x1.l,x2.A,x2.c,x2.l⟩,?_,by rw [hcs],  HMO.out _ (Only.row _ _ _),HX.out.bl.trans ((Only.row _ _ _).below (Nat.le_refl _) (by have:=HX.out.bl.size;omega))⟩
         have hq:=HL.out
         have hz:=HL2.out
         rw [←hz]
         show (⟨n0,n1,l.map QR.q,x0.l.map RR.r,x1.l.map RR.r,x2.l.map RR.r⟩:Ms)=_
         rw [hq];rfl
       ·have hE':¬ (z.2.e:Int)=0:=by omega
        have hr1:rr=(zM,z.2.e):=by rw [HRR.out];simp [hE]
        clear HRR
        subst hr1
        have ha2:((z.2.e:Int) == 0)=false:=by simpa using hE
        have ha3:((z.2.e:Int) != 0)=true:=by simpa using hE
        go_upto_region 27 with fail
        obtain ⟨k0,k1,k2⟩:=HX.out.rs.vx.c3
        obtain ⟨r0,r1,r2,r3,r4,r5⟩:=HX.out.vr.c6
        have hlo1:=HX.out.lo.1
        have hne1:¬ w.heap.size=G:=by omega
        have hne2:¬ G=w.heap.size:=by omega
        have e0:=HX.out.vr.free 0
        have e1:=HX.out.vr.free 1
        have e2:=HX.out.vr.free 2
        have e3:=HX.out.vr.free 3
        have e4:=HX.out.vr.free 4
        have e5:=HX.out.vr.free 5
        go_region
        all_goals go_wp2_with fail
        all_goals refine bodyPost_ret (resM Tryz.results33 _ _ w.heap.size _ _ (.int .i64 (z.2.e:Int)) rfl rfl ((set6_vx HX.out.vr rfl).drew) rfl) rfl ?_
        all_goals exact ⟨zMR,rfl,rfl,zMR_ow _ _,(HX.out.bl.trans ((set6_only _ _ _ _ _ _ _ _).below (Nat.le_refl _) (by have:w.heap.size≤_:=HX.out.bl.size;exact this))).drew⟩
end Go.Proofs.YtlipmlbijddopaaGreatDoor
