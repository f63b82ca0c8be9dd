/-
  DnsQ4
-/
import Derived.Test.YtlipmlbijddopaaGreatDoorZ14
import Derived.Deep.DeepCutAuto
set_option linter.unusedVariables false
set_option linter.unusedSimpArgs false
namespace Go.Proofs.YtlipmlbijddopaaGreatDoor
open Go.RowKit
set_option maxRecDepth 100000 in
set_option maxHeartbeats 2000000 in
theorem record_at (p g:Nat) (A:Option Addr) (c:Nat) (b:List UInt8) (s:St) (w:World) (h:RdS w g A c b s) (hp:w.cell? ⟨p,0,none⟩=some (.pointer (some ⟨g,0,none⟩))) (hpg:p≠g) :
 Calls Tryz.prog 77 #[.pointer (some ⟨g,0,none⟩),numF p] w fun e w'=>∃ x:RR,x.r=(rR b s).1∧e = .returned (.agg x.cells.toArray)∧(∃ O,ROw w' w.heap.size O x)∧RdS w' g A c b (rR b s).2∧Only w w' g:=by
 have hlt:=h.vx.lt
 have hpl:p<w.heap.size:=World.block_lt_of_cell? _ _ hp
 obtain ⟨q,hq⟩:∃ q,q=rQ b s:=⟨_,rfl⟩
 obtain ⟨hh,hhh⟩:∃ hh,hh=rNum b q.2:=⟨_,rfl⟩
 obtain ⟨ll,hll⟩:∃ ll,ll=rNum b hh.2:=⟨_,rfl⟩
 obtain ⟨zz,hzz⟩:∃ zz,zz=rNum b ll.2:=⟨_,rfl⟩
 obtain ⟨dd,hdd⟩:∃ dd,dd=rTake b zz.1 zz.2:=⟨_,rfl⟩
 have hh6:hh.1<65536:=by rw [hhh];exact rNum_lt _ _
 have hl6:ll.1<65536:=by rw [hll];exact rNum_lt _ _
 have hz6:zz.1<65536:=by rw [hzz];exact rNum_lt _ _
 have hdl:dd.1.length=zz.1:=by rw [hdd];exact rTake_len _ _ _
 obtain ⟨rr,hrr⟩:∃ rr,rr=rR b s:=⟨_,rfl⟩
 have hR:rr=rRk b q.1 hh.1 ll.1 dd:=by rw [hrr,hdd,hzz,hll,hhh,hq];rfl
 rw [←hrr]
 clear hrr
 have hat:dd.2.e=0→dd.1.length≤dd.2.at_:=by
  rw [hdd]
  unfold rTake
  split
  ·split
   ·intro _;simp;omega
   ·simp
  ·intro h;simp_all
 have HAT:=Lib.hid hat
 clear hat
 have HDL:=Lib.hid hdl
 clear hdl
 have HP:=Lib.hid hp
 have HH:=Lib.hid h
 have HQ:=Lib.hid hq
 have H1:=Lib.hid hhh
 have H2:=Lib.hid hll
 have H3:=Lib.hid hzz
 have H4:=Lib.hid hdd
 have HR:=Lib.hid hR
 clear h hp hq hhh hll hzz hdd hR
 unfold numF
 go_enter Tryz.func77,Tryz.ntmps77
 go_upto_region 1 with fail
 have hV1:Vx (w.alloc (.cells #[.slice none 0 0,.int .u16 0,.int .u16 0,.int .u32 0,.slice none 0 0,.int .u16 0,.int .u16 0,.int .u16 0,.slice none 0 0] 88)) w.heap.size 88 zRR.cells:=Vx.new w _ _
 have hO1:Only w (w.alloc (.cells #[.slice none 0 0,.int .u16 0,.int .u16 0,.int .u32 0,.slice none 0 0,.int .u16 0,.int .u16 0,.int .u16 0,.slice none 0 0] 88)) g:=Only.of_below (below_new _ _)
 have hS1:RdS (w.alloc (.cells #[.slice none 0 0,.int .u16 0,.int .u16 0,.int .u32 0,.slice none 0 0,.int .u16 0,.int .u16 0,.int .u16 0,.slice none 0 0] 88)) g A c b s:=HH.out.go (below_new _ _)
 have hz1:(w.alloc (.cells #[.slice none 0 0,.int .u16 0,.int .u16 0,.int .u32 0,.slice none 0 0,.int .u16 0,.int .u16 0,.int .u16 0,.slice none 0 0] 88)).heap.size=w.heap.size+1:=by simp
 generalize w.alloc (.cells #[.slice none 0 0,.int .u16 0,.int .u16 0,.int .u32 0,.slice none 0 0,.int .u16 0,.int .u16 0,.int .u16 0,.slice none 0 0] 88)=w1 at *
 have hp1:=hO1.cell HP.out hpg
 go_cut [5] from 9 to 12 (fun v5 wx=>∃ O x,v5 = .pointer (some ⟨O,0,none⟩)∧Hid (RecSt w wx p g O A c b q.2 x)∧x.r=⟨q.1,0,[],0,0,0,[]⟩)
 case first=>
  have HV1:=Lib.hid hV1
  have HS1:=Lib.hid hS1
  clear hV1 hS1
  go_wp2_with (go_at_call 76
               refine (question_at2 p g A c b s q HQ.out w1 HS1.out hp1 hpg).mono ?_
               rintro e w2 ⟨An,cn,rfl,hn2,hS2,hO2⟩
               unfold QR.cells)
  go_meet
  refine ⟨w2.heap.size,⟨An,cn,none,0,none,0,⟨q.1,0,[],0,0,0,[]⟩⟩,rfl,Lib.hid ⟨Vx.new w2 _ _,((HV1.out.grown hO2 (fun e=>by have:=Option.some.inj e;omega)).alloc _),hS2.go (below_new _ _),(hO1.trans hO2).trans (Only.of_below (below_new _ _)),((Only.of_below (below_new w2 _):Only w2 _ g).cell (hO2.cell hp1 hpg) hpg),by have:=hO2.size;omega,?_⟩,rfl⟩
  exact ⟨(hn2.alloc _).mono (by omega),Ow.nil _ _ _,Ow.nil _ _ _,fun a ha=>by have:=ow_blk hn2 a ha;omega,fun a h=>(by cases h),fun a h=>(by cases h)⟩
 case rest=>
  clear hV1 hO1 hS1 hz1 hp1
  obtain ⟨O,x,rfl,HC,hx⟩:=hcut
  obtain ⟨An,cn,dA,dc,tA,tc,r⟩:=x
  simp only at hx
  subst hx
  go_upto_region 2 with fail
  go_cut [6] from 13 to 21 (fun _ wx=>∃ x:RR,Hid (RecSt w wx p g O A c b ll.2 x)∧x.r=⟨q.1,65536*hh.1+ll.1,[],0,0,0,[]⟩)
  case first=>
   have hpc:=HC.out.pc
   have hrs:=HC.out.rs
   have HPC:=Lib.hid hpc
   have HRS:=Lib.hid hrs
   clear hpc hrs
   have hor:=or_join32 hh.1 ll.1 hh6 hl6
   go_wp2_with (first
    | (go_at_call 111
       refine (num_at2 p g A c b hh.2 ll H2.out w3 hS3 hp3 hpg).mono ?_
       rintro e w4 ⟨rfl,hS4,hO4,hp4⟩
       have hC4:=(HC.out.only (hO3.trans hO4) hS4 hpg hlt)
       have f3:=hC4.vo.free 3
       have k3:=hC4.vo.c9.2.2.2.1)
    | (go_at_call 111
       refine (num_at2 p g A c b q.2 hh H1.out _ HRS.out HPC.out hpg).mono ?_
       rintro e w3 ⟨rfl,hS3,hO3,hp3⟩))
   go_meet
   refine ⟨⟨An,cn,dA,dc,tA,tc,⟨q.1,65536*hh.1+ll.1,[],0,0,0,[]⟩⟩,Lib.hid ?_,rfl⟩
   have z:=hC4.ow.setO 3 (.int .u32 ((65536*hh.1+ll.1:Nat):Int))
   have z2:=hC4.setO HH.out hpl 3 (.int .u32 ((65536*hh.1+ll.1:Nat):Int)) (x':=⟨An,cn,dA,dc,tA,tc,⟨q.1,65536*hh.1+ll.1,[],0,0,0,[]⟩⟩) rfl ⟨z.n,z.d,z.t,z.an,z.ad,z.at_⟩
   rw [show ((65536*hh.1+ll.1:Nat):Int)=65536*(hh.1:Int)+(ll.1:Int) by omega] at z2
   exact z2
  case rest=>
   clear HC
   obtain ⟨x,HC,hx⟩:=hcut
   obtain ⟨An,cn,dA,dc,tA,tc,r⟩:=x
   simp only at hx
   subst hx
   go_upto_region 3 with fail
   go_cut [6] from 22 to 26 (fun v6 wx=>∃ Ad cd,v6 = .slice Ad zz.1 cd∧zz.1≤cd∧Hid (RecSt w wx p g O A c b dd.2 ⟨An,cn,dA,dc,tA,tc,⟨q.1,65536*hh.1+ll.1,[],0,0,0,[]⟩⟩)∧Hid (Rd wx wx.heap.size Ad zz.1 (bc dd.1)))
   case first=>
    have HPC:=Lib.hid HC.out.pc
    have HRS:=Lib.hid HC.out.rs
    go_wp2_with (first
     | (go_at_call 112
        refine (take_at2 g A c zz.1 b zz.2 dd H4.out w3 hS3 (by omega)).mono ?_
        rintro e w4 ⟨Ad,cd,rfl,hcd,hrd,hS4,hO4,_⟩)
     | (go_at_call 111
        refine (num_at2 p g A c b ll.2 zz H3.out _ HRS.out HPC.out hpg).mono ?_
        rintro e w3 ⟨rfl,hS3,hO3,hp3⟩))
    go_meet
    exact ⟨Ad,cd,rfl,hcd,Lib.hid (HC.out.only (hO3.trans hO4) hS4 hpg hlt),Lib.hid hrd⟩
   case rest=>
    clear HC
    obtain ⟨Ad,cd,rfl,hcd,HC,HD⟩:=hcut
    obtain ⟨k0,k1,k2⟩:=HC.out.rs.vx.c3
    have g2:=HC.out.rs.vx.free 2
    have c1:wc.cell? ⟨O,1,none⟩=some (.int .u16 (q.1.ty:Int)):=HC.out.vo.c9.2.1
    have c4:wc.cell? ⟨O,4,none⟩=some (.slice dA 0 dc):=HC.out.vo.c9.2.2.2.2.1
    have f4:=HC.out.vo.free 4
    clear H1 H2 H3 HQ H4 HP
    by_cases hE:dd.2.e=0
    ·have hE':(dd.2.e:Int)=0:=by omega
     by_cases h33:q.1.ty=33
     ·have h33':(q.1.ty:Int)=33:=by omega
      by_cases h7:dd.1.length<7
      ·have hR1:rr=(zR,⟨dd.2.at_,172⟩):=by rw [HR.out];simp [rRk,hE,h33,h7]
       clear HR
       subst hR1
       have h7':(zz.1:Int)<7:=by have:=HDL.out;omega
       go_upto_region 10 with fail
       have hG:=(HC.out.rs.setE 172 (by omega) (by omega))
       have HC2:=Lib.hid (HC.out.only (Only.set_ wc g 2 (.int .i64 172)) hG hpg hlt)
       go_wp2_with (refine wpList_store_row rfl 88 _ _ rfl w.heap.size _ rfl rfl _ _ HC2.out.vr (by kernel_rfl) rfl (by kernel_rfl) ?_)
       obtain ⟨F1,F2,F3,F4⟩:=HC2.out.fin HH.out zRR (zRR_ow _ _ _)
       refine bodyPost_ret (resR Tryz.results77 _ _ w.heap.size _ _ rfl F1 rfl) rfl ?_
       exact ⟨zRR,rfl,rfl,⟨O,F4⟩,F2,F3⟩
      ·have h7':(7:Int)≤(zz.1:Int):=by have:=HDL.out;omega
       have hle:dd.2.at_≤b.length:=HC.out.rs.ok hE
       have hge:dd.1.length≤dd.2.at_:=HAT.out hE
       have hbl:=HC.out.rs.len
       obtain ⟨oo,hoo⟩:∃ oo,oo=b.take dd.2.at_:=⟨_,rfl⟩
       obtain ⟨pp,hpp⟩:∃ pp,pp=rNum oo ⟨dd.2.at_ - dd.1.length,0⟩:=⟨_,rfl⟩
       obtain ⟨ww,hww⟩:∃ ww,ww=rNum oo pp.2:=⟨_,rfl⟩
       obtain ⟨kk,hkk⟩:∃ kk,kk=rNum oo ww.2:=⟨_,rfl⟩
       obtain ⟨tt,htt⟩:∃ tt,tt=rName oo kk.2:=⟨_,rfl⟩
       obtain ⟨fs,hfs⟩:∃ fs:St,fs=if tt.2.e≠0∨tt.2.at_≠dd.2.at_ then ⟨dd.2.at_,172⟩ else dd.2:=⟨_,rfl⟩
       have hR1:rr=(⟨q.1,65536*hh.1+ll.1,[],pp.1,ww.1,kk.1,tt.1⟩,fs):=by
        rw [HR.out,hfs,htt,hkk,hww,hpp,hoo];simp [rRk,hE,h33,h7]
       have HFS:=Lib.hid hfs
       clear hfs
       have hool:oo.length=dd.2.at_:=by rw [hoo,List.length_take];omega
       have HOO:=Lib.hid hoo
       have J1:=Lib.hid hpp
       have J2:=Lib.hid hww
       have J3:=Lib.hid hkk
       have J4:=Lib.hid htt
       have HOL:=Lib.hid hool
       have HE:=Lib.hid hE
       clear HR hpp hww hkk htt hoo hool hE
       subst hR1
       obtain ⟨D,hD⟩:∃ D,D=dd.2.at_ - dd.1.length:=⟨_,rfl⟩
       have hDi:(dd.2.at_:Int) - (zz.1:Int)=(D:Int):=by have:=HDL.out;omega
       have hDl:D≤dd.2.at_:=by omega
       have J1':=Lib.hid (show pp=rNum oo ⟨D,0⟩ by rw [hD];exact J1.out)
       clear J1 hD
       have ksl:∀ W,(Instr.slice 22 (.slice A b.length c) none (some (.int .i64 (dd.2.at_:Int))) none).run Tryz.prog W = .ok (.slice A dd.2.at_ c) W:=fun W=>run_sl_h W _ 5 Tryz.underlying22 (fun w=>by kernel_rfl) A b.length c dd.2.at_ (by have:=HC.out.rs.cap;omega)
       go_upto_region 12 with fail
       go_region
       obtain ⟨G2,hG2⟩:∃ G2,G2=wc.heap.size:=⟨_,rfl⟩
       have hS5:RdS (wc.alloc (.cells #[.slice A dd.2.at_ c,.int .i64 (D:Int),.int .i64 0] 137)).drew G2 A c oo ⟨D,0⟩:=by
        have:=(HC.out.rs.sub dd.2.at_ D hle hDl (by have:=HDL.out;omega)).drew
        rw [hG2,HOO.out];exact this
       have hC5:RecSt w (wc.alloc (.cells #[.slice A dd.2.at_ c,.int .i64 (D:Int),.int .i64 0] 137)).drew p g O A c b dd.2 ⟨An,cn,dA,dc,tA,tc,⟨q.1,65536*hh.1+ll.1,[],0,0,0,[]⟩⟩:=
        HC.out.only ((Only.of_below (below_new wc _)).trans (Only.drew _ _)) ((HC.out.rs.go (below_new wc _)).drew) hpg hlt
       have hz5:(wc.alloc (.cells #[.slice A dd.2.at_ c,.int .i64 (D:Int),.int .i64 0] 137)).drew.heap.size=G2+1:=by
        rw [hG2];show (wc.alloc _).heap.size=_;simp
       have hOG:O<G2:=by rw [hG2];exact HC.out.vo.lt
       have hGne:RNe ⟨An,cn,dA,dc,tA,tc,⟨q.1,65536*hh.1+ll.1,[],0,0,0,[]⟩⟩ G2:=by rw [hG2];exact HC.out.ow.ne (Nat.le_refl _)
       have hAO:0<oo.length→∀ a,A=some a→a.block≠O:=fun _ a ha=>by have:=HH.out.blk (by have:=HDL.out;omega) a ha;have:=HC.out.lo;omega
       rw [←hG2]
       generalize (wc.alloc (.cells #[.slice A dd.2.at_ c,.int .i64 (D:Int),.int .i64 0] 137)).drew=w5 at *
       have HS5:=Lib.hid hS5
       have HC5:=Lib.hid hC5
       have HGN:=Lib.hid hGne
       have HAO:=Lib.hid hAO
       clear hS5 hC5 hGne hAO HC hG2 k0 k1 k2 c1 c4 f4 g2 ksl
       go_upto_region 16 with (first
        | (go_at_call 113
           refine (name_at2 G2 A c oo kk.2 tt J4.out _ HS10.out).mono ?_
           rintro e w11 ⟨A11,c11,rfl,hn11,hS11,hO11⟩
           have hC11:=HC10.out.other HH.out hpl hO11 hOG HGN.out
           have y8:w11.cell? ⟨O,8,none⟩=some (.slice tA 0 tc):=hC11.vo.c9.2.2.2.2.2.2.2.2
           have z8:=hC11.vo.free 8)
        | (go_at_call 111
           refine (num_at2 P2 G2 A c oo ww.2 kk J3.out w8 hS8 hp8 hPG).mono ?_
           rintro e w9 ⟨rfl,hS9,hO9,hp9⟩
           have HC9:=Lib.hid (hC8.other HH.out hpl hO9 hOG HGN.out)
           have y5:w9.cell? ⟨O,5,none⟩=some (.int .u16 0):=HC9.out.vo.c9.2.2.2.2.2.1
           have y6:w9.cell? ⟨O,6,none⟩=some (.int .u16 0):=HC9.out.vo.c9.2.2.2.2.2.2.1
           have y7:w9.cell? ⟨O,7,none⟩=some (.int .u16 0):=HC9.out.vo.c9.2.2.2.2.2.2.2.1
           have z5:=HC9.out.vo.free 5
           have z6:=HC9.out.vo.free 6
           have z7:=HC9.out.vo.free 7
           have HS10:=Lib.hid (((hS9.otherA (by omega) HAO.out (Only.set_ w9 O 5 (.int .u16 (pp.1:Int)))).otherA (by omega) HAO.out (Only.set_ _ O 6 (.int .u16 (ww.1:Int)))).otherA (by omega) HAO.out (Only.set_ _ O 7 (.int .u16 (kk.1:Int))))
           have a1:=HC9.out.ow.setO 5 (.int .u16 (pp.1:Int))
           have b1:=HC9.out.setO HH.out hpl 5 (.int .u16 (pp.1:Int)) (x':=⟨An,cn,dA,dc,tA,tc,⟨q.1,65536*hh.1+ll.1,[],pp.1,0,0,[]⟩⟩) rfl ⟨a1.n,a1.d,a1.t,a1.an,a1.ad,a1.at_⟩
           have a2:=b1.ow.setO 6 (.int .u16 (ww.1:Int))
           have b2:=b1.setO HH.out hpl 6 (.int .u16 (ww.1:Int)) (x':=⟨An,cn,dA,dc,tA,tc,⟨q.1,65536*hh.1+ll.1,[],pp.1,ww.1,0,[]⟩⟩) rfl ⟨a2.n,a2.d,a2.t,a2.an,a2.ad,a2.at_⟩
           have a3:=b2.ow.setO 7 (.int .u16 (kk.1:Int))
           have HC10:=Lib.hid (b2.setO HH.out hpl 7 (.int .u16 (kk.1:Int)) (x':=⟨An,cn,dA,dc,tA,tc,⟨q.1,65536*hh.1+ll.1,[],pp.1,ww.1,kk.1,[]⟩⟩) rfl ⟨a3.n,a3.d,a3.t,a3.an,a3.ad,a3.at_⟩)
           clear a1 b1 a2 b2 a3)
        | (go_at_call 111
           refine (num_at2 P2 G2 A c oo pp.2 ww J2.out w7 hS7 hp7 hPG).mono ?_
           rintro e w8 ⟨rfl,hS8,hO8,hp8⟩
           have hC8:=hC7.other HH.out hpl hO8 hOG HGN.out)
        | (go_at_call 111
           refine (num_at2 P2 G2 A c oo ⟨D,0⟩ pp J1'.out w6 hS6 hp6 hPG).mono ?_
           rintro e w7 ⟨rfl,hS7,hO7,hp7⟩
           have hC7:=HC6.out.other HH.out hpl hO7 hOG HGN.out)
        | (go_at_call 75
           refine (newnum_at2 G2 HS5.out).mono ?_
           rintro e w6 ⟨P2,rfl,hS6,hb6,hp6,hPG⟩
           have HC6:=Lib.hid (HC5.out.only (Only.of_below hb6) (HC5.out.rs.go hb6) hpg hlt)))
       have z11:=hC11.ow.setO 8 (.slice A11 tt.1.length c11)
       have HCe:=Lib.hid (hC11.setO HH.out hpl 8 (.slice A11 tt.1.length c11) (x':=⟨An,cn,dA,dc,A11,c11,⟨q.1,65536*hh.1+ll.1,[],pp.1,ww.1,kk.1,tt.1⟩⟩) rfl ⟨z11.n,z11.d,(ow_setN hn11 (fun a ha=>by have:=ow_blk hn11 a ha;have:=HC10.out.vo.lt;omega) _ _).mono (by have:=HC10.out.on.size;have:=HC10.out.lo;have:=HC10.out.vo.lt;omega),z11.an,z11.ad,fun a ha=>by (have:=ow_blk hn11 a ha;have:=HC10.out.vo.lt;omega)⟩)
       have HSe:=Lib.hid (hS11.otherA (by omega) HAO.out (Only.set_ w11 O 8 (.slice A11 tt.1.length c11)))
       clear z11 hC11 hS11 hn11 hO11 HC10 HS10 HC9 HGN hS9 hO9 hp9 hS8 hO8 hp8 hC8 hS7 hO7 hp7 hC7 hS6 hp6 HC6 HS5 HC5 y5 y6 y7 z5 z6 z7 y8 z8
       generalize w11.setCell ⟨O,8,none⟩ (.slice A11 tt.1.length c11)=w12 at *
       obtain ⟨o0,o1,o2⟩:=HSe.out.vx.c3
       obtain ⟨k0,k1,k2⟩:=HCe.out.rs.vx.c3
       have g2:=HCe.out.rs.vx.free 2
       by_cases hte:tt.2.e=0
       ·have oa:((tt.2.e:Int) != 0)=false:=by simp [hte]
        by_cases hta:tt.2.at_=dd.2.at_
        ·have ob:((tt.2.at_:Int) != (dd.2.at_:Int))=false:=by simp [hta]
         have HT1:=Lib.hid hte
         have HT2:=Lib.hid hta
         clear hte hta
         go_quiet (fail)
         have HCf:=Lib.hid (HCe.out.only (Only.drewN w12 nq g) (HCe.out.rs.drewN nq) hpg hlt)
         go_wp2_with (first
          | (refine wpList_store_row rfl 88 _ _ rfl w.heap.size _ rfl rfl _ _ HCf.out.vr (by kernel_rfl) rfl (by kernel_rfl) ?_)
          | (refine wpList_load_row rfl 88 _ rfl O rfl _ _ _ _ HCf.out.vo Tryz.underlying88 rfl (by kernel_rfl) ?_))
         obtain ⟨F1,F2,F3,F4⟩:=HCf.out.fin HH.out _ HCf.out.ow
         refine bodyPost_ret (resR Tryz.results77 _ _ w.heap.size _ _ rfl F1 rfl) rfl ?_
         refine ⟨_,rfl,rfl,⟨O,F4⟩,?_,F3⟩
         rw [show fs=dd.2 by rw [HFS.out,if_neg (by rw [HT1.out,HT2.out];simp)]]
         exact F2
        ·have ob:((tt.2.at_:Int) != (dd.2.at_:Int))=true:=by simp;omega
         go_quiet (fail)
         go_upto_region 17 with fail
         have HCf:=Lib.hid ((HCe.out.only (Only.drewN w12 nq g) (HCe.out.rs.drewN nq) hpg hlt).only (Only.set_ (w12.drewN nq) g 2 (.int .i64 172)) ((HCe.out.rs.drewN nq).setE 172 (by omega) (by omega)) hpg hlt)
         go_wp2_with (first
          | (refine wpList_store_row rfl 88 _ _ rfl w.heap.size _ rfl rfl _ _ HCf.out.vr (by kernel_rfl) rfl (by kernel_rfl) ?_)
          | (refine wpList_load_row rfl 88 _ rfl O rfl _ _ _ _ HCf.out.vo Tryz.underlying88 rfl (by kernel_rfl) ?_))
         obtain ⟨F1,F2,F3,F4⟩:=HCf.out.fin HH.out _ HCf.out.ow
         refine bodyPost_ret (resR Tryz.results77 _ _ w.heap.size _ _ rfl F1 rfl) rfl ?_
         refine ⟨_,rfl,rfl,⟨O,F4⟩,?_,F3⟩
         rw [show fs=⟨dd.2.at_,172⟩ by rw [HFS.out,if_pos (Or.inr hta)]]
         exact F2
       ·have oa:((tt.2.e:Int) != 0)=true:=by simp;omega
        go_quiet (fail)
        go_upto_region 17 with fail
        have HCf:=Lib.hid ((HCe.out.only (Only.drewN w12 nq g) (HCe.out.rs.drewN nq) hpg hlt).only (Only.set_ (w12.drewN nq) g 2 (.int .i64 172)) ((HCe.out.rs.drewN nq).setE 172 (by omega) (by omega)) hpg hlt)
        go_wp2_with (first
         | (refine wpList_store_row rfl 88 _ _ rfl w.heap.size _ rfl rfl _ _ HCf.out.vr (by kernel_rfl) rfl (by kernel_rfl) ?_)
         | (refine wpList_load_row rfl 88 _ rfl O rfl _ _ _ _ HCf.out.vo Tryz.underlying88 rfl (by kernel_rfl) ?_))
        obtain ⟨F1,F2,F3,F4⟩:=HCf.out.fin HH.out _ HCf.out.ow
        refine bodyPost_ret (resR Tryz.results77 _ _ w.heap.size _ _ rfl F1 rfl) rfl ?_
        refine ⟨_,rfl,rfl,⟨O,F4⟩,?_,F3⟩
        rw [show fs=⟨dd.2.at_,172⟩ by rw [HFS.out,if_pos (Or.inl hte)]]
        exact F2
     ·have h33':¬ (q.1.ty:Int)=33:=by omega
      have hR1:rr=(⟨q.1,65536*hh.1+ll.1,dd.1,0,0,0,[]⟩,dd.2):=by rw [HR.out];simp [rRk,hE,h33]
      clear HR
      subst hR1
      go_upto_region 7 with fail
      go_wp2_with (first
       | (refine wpList_store_row rfl 88 _ _ rfl w.heap.size _ rfl rfl _ _ HC6.out.vr (by kernel_rfl) rfl (by kernel_rfl) ?_)
       | (refine wpList_load_row rfl 88 _ rfl O rfl _ _ _ _ HC6.out.vo Tryz.underlying88 rfl (by kernel_rfl) ?_)
       | (go_at_call 20
          refine (bclone_at Ad cd zz.1 dd.1 _ _ HDL.out (Nat.le_refl _) HD.out (by omega)).mono ?_
          rintro e w5 ⟨v5,rfl,ho5,hb5⟩
          obtain ⟨A5,c5,rfl,hc5,hr5⟩:=ho5.form6 dd.1.length (bc_length _)
          have HC5:=Lib.hid (HC.out.only (Only.of_below hb5) (HC.out.rs.go hb5) hpg hlt)
          have k4:w5.cell? ⟨O,4,none⟩=some (.slice dA 0 dc):=HC5.out.vo.c9.2.2.2.2.1
          have f4:=HC5.out.vo.free 4
          have z:=HC5.out.ow.setO 4 (.slice A5 dd.1.length c5)
          have HC6:=Lib.hid (HC5.out.setO HH.out hpl 4 (.slice A5 dd.1.length c5) (x':=⟨An,cn,A5,c5,tA,tc,⟨q.1,65536*hh.1+ll.1,dd.1,0,0,0,[]⟩⟩) rfl ⟨z.n,(ow_setN ho5 (fun a ha=>by have:=ow_blk ho5 a ha;have:=HC.out.vo.lt;omega) _ _).mono (by have:=HC.out.on.size;have:=HC.out.lo;have:=HC.out.vo.lt;omega),z.t,z.an,fun a ha=>by (have:=ow_blk ho5 a ha;have:=HC.out.vo.lt;omega),z.at_⟩)
          clear z))
      obtain ⟨F1,F2,F3,F4⟩:=HC6.out.fin HH.out _ HC6.out.ow
      refine bodyPost_ret (resR Tryz.results77 _ _ w.heap.size _ _ rfl F1 rfl) rfl ?_
      exact ⟨⟨An,cn,A5,c5,tA,tc,⟨q.1,65536*hh.1+ll.1,dd.1,0,0,0,[]⟩⟩,rfl,rfl,⟨O,F4⟩,F2,F3⟩
    ·have hE':¬ (dd.2.e:Int)=0:=by omega
     have hR1:rr=(zR,dd.2):=by rw [HR.out];simp [rRk,hE]
     clear HR
     subst hR1
     go_wp2_with (refine wpList_store_row rfl 88 _ _ rfl w.heap.size _ rfl rfl _ _ HC.out.vr (by kernel_rfl) rfl (by kernel_rfl) ?_)
     obtain ⟨F1,F2,F3,F4⟩:=HC.out.fin HH.out zRR (zRR_ow _ _ _)
     refine bodyPost_ret (resR Tryz.results77 _ _ w.heap.size _ _ rfl F1 rfl) rfl ?_
     exact ⟨zRR,rfl,rfl,⟨O,F4⟩,F2,F3⟩
end Go.Proofs.YtlipmlbijddopaaGreatDoor
