/-
  SrvRp; SrvLi; SrvLists
-/
import Derived.Test.YtlipmlbijddopaaGreatDoorZ32
import Derived.Test.YtlipmlbijddopaaGreatDoorZ31
import Derived.Test.YtlipmlbijddopaaGreatDoorZ28
set_option linter.unusedVariables false
set_option linter.unusedSimpArgs false
namespace Go.Proofs.YtlipmlbijddopaaGreatDoor
open Go.RowKit
theorem loadB {w:World} {g:Nat} {e:TypeId} {cs:List Value} (h:Vx w g e cs) (hn:cs.length=5):(loadVar 102 ⟨g,0,none⟩).run Tryz.prog w = .ok (.agg cs.toArray) w:=
 run_loadVar_row w g _ _ cs.toArray _ _ h Tryz.underlying102 rfl (by rw [List.size_toArray,hn];kernel_rfl)
theorem resB2 {fn:Func} {q r:Tmp} (h:fn.results=#[.cell q 102,.tmp r]) (tmps:Array Value) (W:World) (g:Nat) (e:TypeId) (cs:List Value) (vr:Value) (hq:tmps[q]? = some (.pointer (some ⟨g,0,none⟩))) (hr:tmps[r]? = some vr) (hx:Vx W g e cs) (hn:cs.length=5) :
 (results fn tmps).run Tryz.prog W = .ok (.tuple #[.agg cs.toArray,vr]) W:=by
 simp [results,h,hq,hr,asAddr,loadB hx hn]
def selW (pb:Bool) (x:Ad):Bool:=decide (0<Srv.wtA x) == pb
def lineP (T:List Ad) (p:Nat):List Ad:=(if 1≤p then T.filter (selW false) else [])++(if 2≤p then T.filter (selW true) else [])
theorem lineP_two (T:List Ad):lineP T 2=Srv.lineA T:=by
 unfold lineP Srv.lineA
 have e1:selW false=Srv.noneW:=by
  funext x
  unfold selW Srv.noneW
  rw [Bool.eq_iff_iff];simp
 have e2:selW true=fun a=>!Srv.noneW a:=by
  funext x
  unfold selW Srv.noneW
  rw [Bool.eq_iff_iff];simp;omega
 simp [e1,e2]
theorem lineP_zero (T:List Ad):lineP T 0=[]:=by simp [lineP]
theorem lineP_next (T:List Ad) (p:Nat) (hp:p<2):lineP T (p+1)=lineP T p++T.filter (selW (decide (p=1))):=by
 obtain rfl | rfl:p=0∨p=1:=by omega
 ·simp [lineP]
 ·simp [lineP]
theorem lineP_len (T:List Ad) (p:Nat) (hp:p<2):(lineP T p).length≤T.length:=by
 obtain rfl | rfl:p=0∨p=1:=by omega
 ·simp [lineP]
 ·simp [lineP];exact List.length_filter_le _ _
theorem filt_step {T:List Ad} {i:Nat} (h:i<T.length) (q:Ad→Bool):(T.take (i+1)).filter q=(T.take i).filter q++(if q T[i]=true then [T[i]] else []):=by
 rw [List.take_succ_eq_append_getElem h,List.filter_append]
 simp [List.filter]
 split <;> simp_all
set_option maxRecDepth 100000 in
set_option maxHeartbeats 8000000 in
theorem rpick_at (A:Option Addr) (c n m:Nat) (l:List Ad) (w:World) (h:AsRd w w.heap.size A c n l) (hm:m<4294967296) (hn1:n≤1000000) :
 Calls Tryz.prog 47 #[.slice A n c,.int .u32 (m:Int)] w fun e w'=>e = .returned (.tuple #[.agg (Srv.pickA l m).1.cells.toArray,.bool (Srv.pickA l m).2])∧Below w.heap.size w w':=by
 obtain ⟨j0,hj',hy0,hy1,hy2⟩:=info_parts Tryz.infoBl
 rcases Nat.eq_zero_or_pos n with h0 | h0
 ·subst h0
  have hl0:l=[]:=List.eq_nil_of_length_eq_zero h.2.1
  subst hl0
  clear h
  have hV:=Vx.new w 102 zA.cells
  have HV:=Lib.hid hV
  clear hV
  have HB:=Lib.hid (bl_new w (.cells zA.cells.toArray 102))
  go_enter Tryz.func47,Tryz.ntmps47
  go_upto_region 2 with fail
  have e1:w.alloc (.cells #[.string ⟨#[]⟩,.int .i64 0,.int .i64 0,.int .i64 0,.int .u32 0] 102)=w.alloc (.cells zA.cells.toArray 102):=rfl
  rw [e1]
  obtain ⟨G0,hG0⟩:∃ G0,G0=w.heap.size:=⟨_,rfl⟩
  have hG0a:w.heap.size≤G0:=by omega
  rw [←hG0] at HV ⊢
  generalize w.alloc (.cells zA.cells.toArray 102)=w1 at HV HB ⊢
  clear e1 hG0
  obtain ⟨z0,z1,z2,z3,z4⟩:=HV.out.c5
  have e0:=HV.out.free 0
  have e1:=HV.out.free 1
  have e2:=HV.out.free 2
  have e3:=HV.out.free 3
  have e4:=HV.out.free 4
  go_wp2_with fail
  refine bodyPost_ret (resB2 Tryz.results47 _ _ G0 _ zA.cells _ rfl rfl HV.out.set5 rfl) rfl ?_
  exact ⟨rfl,below5 HB.out hG0a _ _ _ _ _⟩
 ·obtain ⟨P,hP⟩:∃ P,P=Srv.pickA l m:=⟨_,rfl⟩
  have hln:=h.2.1
  have hPe:P=optA (Srv.firstA (m % (Srv.sumA (Srv.lineA (Srv.headT l))+1)) 0 (Srv.lineA (Srv.headT l))):=by
   rw [hP];exact pickA_eq (by omega) m
  rw [←hP]
  have HPE:=Lib.hid hPe
  have HX:=Lib.hid (adok_line h.2.2.2.2)
  have hne:Srv.headT l≠[]:=Srv.headT_ne (by omega)
  have HNE:=Lib.hid hne
  have HLN:=Lib.hid hln
  have hA1:=bl_new w (.cells zA.cells.toArray 102)
  have H1:=Lib.hid (h.goes hA1)
  have HV0:=Lib.hid (Vx.new w 102 zA.cells)
  have HB1:=Lib.hid hA1
  clear h hP hPe hne hln hA1
  go_enter Tryz.func47,Tryz.ntmps47
  go_upto_region 4 with (go_at_call 50
                         refine (rtiers_at A c n l _ H1.out).mono ?_
                         rintro e w2 ⟨v2,rows,rfl,hr,ht,hb2⟩
                         have hmr:∀ r∈rows,r.l.length≤2932031007317∧∀ x∈r.l,AdOk x:=fun r hrm=>by
                          have hm2:r.l∈Srv.tiersA l:=by rw [←hr];exact List.mem_map.2 ⟨r,hrm,rfl⟩
                          have h3:=mem_flat hm2
                          rw [(Srv.tiersA_tiers l).all,HLN.out] at h3
                          refine ⟨by omega,fun x hx=>H1.out.2.2.2.2 x ?_⟩
                          rw [←(Srv.tiersA_tiers l).all]
                          exact List.mem_flatten.2 ⟨_,hm2,hx⟩
                         obtain ⟨A2,c2,rfl,hc2,hh⟩:=ht.rsA hmr
                         have HR:=Lib.hid hr
                         have hrn:rows≠[]:=fun e=>HNE.out (by unfold Srv.headT;rw [←HR.out,e];rfl)
                         obtain ⟨r0,rs,rfl⟩:∃ r0 rs,rows=r0 :: rs:=by
                          cases rows with
                          | nil=>exact absurd rfl hrn
                          | cons a l=>exact ⟨a,l,rfl⟩
                         have hhd:Srv.headT l=r0.l:=by unfold Srv.headT;rw [←HR.out];rfl
                         obtain ⟨b,o,rfl,hb,hc⟩:=hh.1.2 (by simp)
                         have hc0:w2.cell? ⟨b,o+0,none⟩=some r0.v:=hc 0 _ rfl
                         have hr0:=hh.2.2 r0 (List.mem_cons_self ..)
                         have HHD:=Lib.hid hhd
                         have HR0:=Lib.hid hr0
                         have HB2:=Lib.hid (HB1.out.trans (hb2.mono HB1.out.size))
                         have HV2:=Lib.hid (HV0.out.below hb2 HV0.out.lt)
                         clear hr ht hh hrn hhd hc hr0 hb2 hmr
                         obtain ⟨rA,rc,rl⟩:=r0
                         unfold ARow.v at hc0
                         dsimp only [Nat.add_zero] at hc0 HHD HR0)
  have hrl:rl.length≤1000000:=by
   have h3:=HX.out.2
   rw [HHD.out,HLN.out] at h3
   omega
  obtain ⟨T,hT⟩:∃ T,T=rl:=⟨_,rfl⟩
  rw [←hT] at HHD HR0 hc0 hrl ⊢
  obtain ⟨tn,htn⟩:∃ tn,tn=T.length:=⟨_,rfl⟩
  rw [←htn] at HR0 hc0 hrl ⊢
  have HTN:=Lib.hid htn.symm
  rw [HHD.out] at HPE
  obtain ⟨G0,hG0⟩:∃ G0,G0=w.heap.size:=⟨_,rfl⟩
  have hG0a:w.heap.size≤G0:=by omega
  have hG0b:G0<w2.heap.size:=by rw [hG0];exact HV2.out.lt
  rw [←hG0] at HV2 ⊢
  clear hT htn hG0 hc0
  go_wp2_with fail
  go_loopw [7,8,9] (fun v7 v8 v9 wr=>∃ (p q s:Nat),p≤2∧s≤65535*q∧q≤2000000∧v9 = .int .i64 p∧v8 = .int .i64 s∧Hid ((lineP T p).length=q)∧Hid (s=Srv.sumA (lineP T p))∧Hid (OwM wr w2.heap.size 102 5 v7 q (acs (lineP T p)))∧Hid (Below w2.heap.size w2 wr)) (fun _ _ v9 _=>2 - (intOf v9).toNat)
  case atStart=>exact ⟨0,0,0,by omega,by omega,by omega,rfl,rfl,Lib.hid (by rw [lineP_zero];rfl),Lib.hid (by rw [lineP_zero];rfl),Lib.hid (by rw [lineP_zero];exact OwM.nil _ _ _ _),Lib.hid (Below.refl _ _)⟩
  case round=>
   obtain ⟨p,q,s,hp,hs,hq2,rfl,rfl,HQ,HS,HO,HB⟩:=hrel
   obtain ⟨A7,c7,rfl,_,_,_⟩:=HO.out.form
   rcases Nat.lt_or_ge p 2 with hlt | hge
   ·have hqt:q≤tn:=by rw [←HQ.out,←HTN.out];exact lineP_len T p hlt
    have hnx:=lineP_next T p hlt
    obtain ⟨pb,hpb⟩:∃ pb,pb=decide (p=1):=⟨_,rfl⟩
    have hp1:((p:Int) == 1)=pb:=by rw [hpb,Bool.eq_iff_iff];simp;omega
    rw [←hpb] at hnx
    have hp2:decide ((p:Int)<2)=true:=by simp only [decide_eq_true_eq];omega
    obtain ⟨K,hK⟩:∃ K,K=lineP T p:=⟨_,rfl⟩
    rw [←hK] at hnx HQ HS HO
    have HNX:=Lib.hid hnx
    clear hnx hpb hK
    obtain ⟨W1,hW1⟩:∃ x,x=wr:=⟨wr,rfl⟩
    subst hW1
    go_wp2_with fail
    go_loopw [7,8,10] (fun v7 v8 v10 wx=>∃ (i q2 s2:Nat),i≤tn∧s2≤65535*q2∧q2≤tn+i∧v10 = .int .i64 i∧v8 = .int .i64 s2∧Hid ((K++(T.take i).filter (selW pb)).length=q2)∧Hid (s2=Srv.sumA (K++(T.take i).filter (selW pb)))∧Hid (OwM wx w2.heap.size 102 5 v7 q2 (acs (K++(T.take i).filter (selW pb))))∧Hid (Below w2.heap.size w2 wx)) (fun _ _ v10 _=>tn - (intOf v10).toNat)
    case atStart=>exact ⟨0,q,s,Nat.zero_le _,hs,by omega,rfl,rfl,Lib.hid (by simpa using HQ.out),Lib.hid (by simpa using HS.out),Lib.hid (by simpa using HO.out),HB⟩
    case round=>
     obtain ⟨i,q2,s2,hi,hs2,hq3,rfl,rfl,HQ2,HS2,HO2,HB2'⟩:=hrel
     obtain ⟨A8,c8,rfl,_,_,_⟩:=HO2.out.form
     have hsz:=HB2'.out.size
     rcases Nat.lt_or_ge i tn with hit | hit
     ·have hil:i<T.length:=by rw [HTN.out];exact hit
      obtain ⟨b,o,rfl,hb,hc⟩:=HR0.out.at_ hit
      have hf:=hc hil
      have hft:=filt_step hil (selW pb)
      obtain ⟨x,hx⟩:∃ x,x=T[i]:=⟨_,rfl⟩
      rw [←hx] at hf hft
      have HFT:=Lib.hid hft
      have KW:=Lib.hid (fun W=>rweight_at x W)
      have hwt:=Srv.wtA_le x
      have hsel:selW pb x=(decide (0<Srv.wtA x) == pb):=rfl
      obtain ⟨wt,hwt2⟩:∃ wt,wt=Srv.wtA x:=⟨_,rfl⟩
      rw [←hwt2] at KW hwt hsel
      have HWT:=Lib.hid hwt2
      have HSEL:=Lib.hid hsel
      clear hx hft hc hwt2 hsel
      obtain ⟨xh,xpo,xpr,xwe,xttl⟩:=x
      have HCT:Hid (∀ W,Below w2.heap.size w2 W→Five W b (o+i*5) ⟨xh,xpo,xpr,xwe,xttl⟩):=Lib.hid (fun W hW=>hf.below hW hb)
      obtain ⟨c0_,c1_,c2_,c3_,c4_⟩:=(HCT.out wr HB2'.out).cells
      dsimp only at c0_ c1_ c2_ c3_ c4_
      clear hf
      by_cases hw0:0<wt
      ·cases pb
       ·have HSF:Hid (selW false (⟨xh,xpo,xpr,xwe,xttl⟩:Ad)=false):=Lib.hid (by rw [HSEL.out,decide_eq_true hw0];rfl)
        go_wp2_with (go_at_call 100
                     refine (KW.out wr).mono ?_
                     rintro e w5 ⟨rfl,hb5⟩
                     have HB5:=Lib.hid (HB2'.out.trans (hb5.mono hsz))
                     have HO5:=Lib.hid (HO2.out.far hb5)
                     clear hb5)
        have hll:K++(T.take (i+1)).filter (selW false)=K++(T.take i).filter (selW false):=by rw [HFT.out,if_neg (by rw [HSF.out];simp),List.append_nil]
        have HLL:=Lib.hid hll
        clear hll
        go_roundw
        case rel=>exact ⟨i+1,q2,s2,by omega,by omega,by omega,by go_num,rfl,Lib.hid (by rw [HLL.out];exact HQ2.out),Lib.hid (by rw [HLL.out];exact HS2.out),Lib.hid (by rw [HLL.out];exact HO5.out),HB5⟩
        case measure=>simp [intOf];omega
       ·have HSF:Hid (selW true (⟨xh,xpo,xpr,xwe,xttl⟩:Ad)=true):=Lib.hid (by rw [HSEL.out,decide_eq_true hw0];rfl)
        go_wp2_with (first
         | (go_at_call 100
            have _t:=tk2
            refine (KW.out w6).mono ?_
            rintro e w7 ⟨rfl,hb7⟩
            have HB7:=Lib.hid (HB6.out.trans (hb7.mono HB6.out.size))
            have HO7:=Lib.hid (HO6.out.far hb7)
            clear hb7)
         | (at_builtin
            have _t:=tk1
            refine wpList_appM _ rfl _ _ _ _ rfl w2.heap.size 5 102 j0 (.agg zA.cells.toArray) 48 Tryz.underlying93 hj' hy0 hy1 hy2 rfl (by omega) (.slice A8 q2 c8) q2 (acs (K++(T.take i).filter (selW true))) (HO5.out.alloc _) rfl 1 (Ad.cells ⟨xh,xpo,xpr,xwe,xttl⟩) (srcA Tryz.underlying93 102 5 _ 1 rfl (acells_one _) (by simp)) (by omega) (by have:=hsz5;simp;omega) ?_
            intro v6 w6 ho6 hg6 hz6
            obtain ⟨A6,c6,rfl,_,_,_⟩:=ho6.form
            rw [←acs_snoc] at ho6
            have HO6:=Lib.hid ho6
            have hb6:=(HB5.out.alloc hsz5 (.cells #[.string ⟨xh.toArray⟩,.int .i64 xpo,.int .i64 xpr,.int .i64 xwe,.int .u32 (xttl:Int)] 102)).trans (hg6.below (OwM.lt HO5.out) (by have:=hsz5;simp;omega))
            have HB6:=Lib.hid hb6
            obtain ⟨f0_,f1_,f2_,f3_,f4_⟩:=(HCT.out w6 hb6).cells
            dsimp only at f0_ f1_ f2_ f3_ f4_
            have tk2:=True.intro
            clear ho6 hg6 hb6)
         | (go_at_call 100
            refine (KW.out wr).mono ?_
            rintro e w5 ⟨rfl,hb5⟩
            have hbb:=HB2'.out.trans (hb5.mono hsz)
            have HB5:=Lib.hid hbb
            have HO5:=Lib.hid (HO2.out.far hb5)
            have hsz5:=hbb.size
            obtain ⟨d0_,d1_,d2_,d3_,d4_⟩:=(HCT.out w5 hbb).cells
            dsimp only at d0_ d1_ d2_ d3_ d4_
            have tk1:=True.intro
            clear hb5 hbb))
        have hll:K++(T.take (i+1)).filter (selW true)=(K++(T.take i).filter (selW true))++[⟨xh,xpo,xpr,xwe,xttl⟩]:=by rw [HFT.out,if_pos HSF.out,List.append_assoc]
        have HLL:=Lib.hid hll
        clear hll
        go_roundw
        case rel=>exact ⟨i+1,q2+1,s2+wt,by omega,by omega,by omega,by go_num,by go_num,Lib.hid (by rw [HLL.out,List.length_append,HQ2.out];rfl),Lib.hid (by rw [HLL.out,Srv.sumA_snoc,←HS2.out,←HWT.out]),Lib.hid (by rw [HLL.out];exact HO7.out),HB7⟩
        case measure=>simp [intOf];omega
      ·cases pb
       ·have HSF:Hid (selW false (⟨xh,xpo,xpr,xwe,xttl⟩:Ad)=true):=Lib.hid (by rw [HSEL.out,decide_eq_false hw0];rfl)
        go_wp2_with (first
         | (go_at_call 100
            have _t:=tk2
            refine (KW.out w6).mono ?_
            rintro e w7 ⟨rfl,hb7⟩
            have HB7:=Lib.hid (HB6.out.trans (hb7.mono HB6.out.size))
            have HO7:=Lib.hid (HO6.out.far hb7)
            clear hb7)
         | (at_builtin
            have _t:=tk1
            refine wpList_appM _ rfl _ _ _ _ rfl w2.heap.size 5 102 j0 (.agg zA.cells.toArray) 48 Tryz.underlying93 hj' hy0 hy1 hy2 rfl (by omega) (.slice A8 q2 c8) q2 (acs (K++(T.take i).filter (selW false))) (HO5.out.alloc _) rfl 1 (Ad.cells ⟨xh,xpo,xpr,xwe,xttl⟩) (srcA Tryz.underlying93 102 5 _ 1 rfl (acells_one _) (by simp)) (by omega) (by have:=hsz5;simp;omega) ?_
            intro v6 w6 ho6 hg6 hz6
            obtain ⟨A6,c6,rfl,_,_,_⟩:=ho6.form
            rw [←acs_snoc] at ho6
            have HO6:=Lib.hid ho6
            have hb6:=(HB5.out.alloc hsz5 (.cells #[.string ⟨xh.toArray⟩,.int .i64 xpo,.int .i64 xpr,.int .i64 xwe,.int .u32 (xttl:Int)] 102)).trans (hg6.below (OwM.lt HO5.out) (by have:=hsz5;simp;omega))
            have HB6:=Lib.hid hb6
            obtain ⟨f0_,f1_,f2_,f3_,f4_⟩:=(HCT.out w6 hb6).cells
            dsimp only at f0_ f1_ f2_ f3_ f4_
            have tk2:=True.intro
            clear ho6 hg6 hb6)
         | (go_at_call 100
            refine (KW.out wr).mono ?_
            rintro e w5 ⟨rfl,hb5⟩
            have hbb:=HB2'.out.trans (hb5.mono hsz)
            have HB5:=Lib.hid hbb
            have HO5:=Lib.hid (HO2.out.far hb5)
            have hsz5:=hbb.size
            obtain ⟨d0_,d1_,d2_,d3_,d4_⟩:=(HCT.out w5 hbb).cells
            dsimp only at d0_ d1_ d2_ d3_ d4_
            have tk1:=True.intro
            clear hb5 hbb))
        have hll:K++(T.take (i+1)).filter (selW false)=(K++(T.take i).filter (selW false))++[⟨xh,xpo,xpr,xwe,xttl⟩]:=by rw [HFT.out,if_pos HSF.out,List.append_assoc]
        have HLL:=Lib.hid hll
        clear hll
        go_roundw
        case rel=>exact ⟨i+1,q2+1,s2+wt,by omega,by omega,by omega,by go_num,by go_num,Lib.hid (by rw [HLL.out,List.length_append,HQ2.out];rfl),Lib.hid (by rw [HLL.out,Srv.sumA_snoc,←HS2.out,←HWT.out]),Lib.hid (by rw [HLL.out];exact HO7.out),HB7⟩
        case measure=>simp [intOf];omega
       ·have HSF:Hid (selW true (⟨xh,xpo,xpr,xwe,xttl⟩:Ad)=false):=Lib.hid (by rw [HSEL.out,decide_eq_false hw0];rfl)
        go_wp2_with (go_at_call 100
                     refine (KW.out wr).mono ?_
                     rintro e w5 ⟨rfl,hb5⟩
                     have HB5:=Lib.hid (HB2'.out.trans (hb5.mono hsz))
                     have HO5:=Lib.hid (HO2.out.far hb5)
                     clear hb5)
        have hll:K++(T.take (i+1)).filter (selW true)=K++(T.take i).filter (selW true):=by rw [HFT.out,if_neg (by rw [HSF.out];simp),List.append_nil]
        have HLL:=Lib.hid hll
        clear hll
        go_roundw
        case rel=>exact ⟨i+1,q2,s2,by omega,by omega,by omega,by go_num,rfl,Lib.hid (by rw [HLL.out];exact HQ2.out),Lib.hid (by rw [HLL.out];exact HS2.out),Lib.hid (by rw [HLL.out];exact HO5.out),HB5⟩
        case measure=>simp [intOf];omega
     ·have hti:tn=i:=by omega
      subst hti
      have htt:T.take tn=T:=List.take_of_length_le (by rw [HTN.out];exact Nat.le_refl _)
      rw [htt,←HNX.out] at HQ2 HS2 HO2
      clear htt
      go_wp2_with fail
      go_roundw
      case rel=>exact ⟨p+1,q2,s2,by omega,by omega,by omega,by go_num,rfl,HQ2,HS2,HO2,HB2'⟩
      case measure=>simp [intOf];omega
   ·have hp2e:p=2:=by omega
    subst hp2e
    rw [lineP_two] at HQ HS HO
    have hadL:∀ x∈Srv.lineA T,AdOk x:=fun x hx=>HR0.out.2.2.2.2 x ((Srv.lineA_perm T).mem_iff.1 hx)
    obtain ⟨A9,c9,hv9,hal⟩:=AsRd.of_own HO.out HQ.out (by omega) hadL
    injection hv9 with e1 e2 e3
    subst e1 e3
    obtain ⟨L,hL⟩:∃ L,L=Srv.lineA T:=⟨_,rfl⟩
    rw [←hL] at hal HQ HS HPE
    have HA8:=Lib.hid hal
    have HNQ:=Lib.hid HQ.out
    obtain ⟨md,hq⟩:∃ md,md=m % (s+1):=⟨_,rfl⟩
    have hqs:md≤s:=by rw [hq];have:=Nat.mod_lt m (show 0<s+1 by omega);omega
    rw [←HS.out,←hq] at HPE
    have hmod:(m:Int) % ((s:Int)+1)=(md:Int):=by rw [hq,Int.natCast_emod,Int.natCast_add];rfl
    have HB8:=Lib.hid (HB2.out.trans (HB.out.mono HB2.out.size))
    have HV8:=Lib.hid (HV2.out.below HB.out HV2.out.lt)
    have hss:(0:Int)<(s:Int)+1:=by omega
    have hmw:IntKind.i64.wrap (m:Int)=(m:Int):=by rw [IntKind.wrap_i64];omega
    clear hq HO HS HQ HB hadL hL HV2
    obtain ⟨W8,hW8⟩:∃ x,x=wr:=⟨wr,rfl⟩
    subst hW8
    go_wp2_with fail
    (try simp only [hmod])
    go_loopw [12,13] (fun v12 v13 wr=>∃ k t:Nat,k≤q∧t≤65535*q∧v13 = .int .i64 k∧v12 = .int .i64 t∧Hid (t=Srv.sumA (L.take k))∧Hid (Srv.firstA md 0 L=Srv.firstA md t (L.drop k))∧Hid (Below W8.heap.size W8 wr)) (fun _ v13 _=>q - (intOf v13).toNat)
    case atStart=>exact ⟨0,0,Nat.zero_le _,Nat.zero_le _,rfl,rfl,Lib.hid rfl,Lib.hid rfl,Lib.hid (Below.refl _ _)⟩
    case round=>
     obtain ⟨k,t,hk,ht,rfl,rfl,HS,HFI,HB⟩:=hrel
     rcases Nat.lt_or_ge k q with hlt | hge
     ·have hkl:k<L.length:=by rw [HNQ.out];exact hlt
      obtain ⟨b,o,rfl,hb,hc⟩:=HA8.out.base (show 0<q by omega)
      have hf0:=hc k hkl
      have hst:=sum_take hkl
      have hsl:=sum_take_le L (k+1)
      rw [HNQ.out] at hsl
      have hfs:=@firstA_step md t L k hkl
      have hfh:=@firstA_here md t L k hkl
      obtain ⟨x,hx⟩:∃ x,x=L[k]:=⟨_,rfl⟩
      rw [←hx] at hf0 hst hfs hfh
      have KW:=Lib.hid (fun W=>rweight_at x W)
      have hwt:=Srv.wtA_le x
      obtain ⟨wt,hwt2⟩:∃ wt,wt=Srv.wtA x:=⟨_,rfl⟩
      rw [←hwt2] at KW hst hwt hfs hfh
      rw [hst,←HS.out] at hsl
      have HST:=Lib.hid hst
      have HFS:=Lib.hid hfs
      have HFH:=Lib.hid hfh
      clear hx hst hc hwt2 hfs hfh
      obtain ⟨xh,xpo,xpr,xwe,xttl⟩:=x
      have HCT:Hid (∀ W,Below W8.heap.size W8 W→Five W b (o+k*5) ⟨xh,xpo,xpr,xwe,xttl⟩):=Lib.hid (fun W hW=>hf0.below hW hb)
      obtain ⟨c0_,c1_,c2_,c3_,c4_⟩:=(HCT.out wr HB.out).cells
      dsimp only at c0_ c1_ c2_ c3_ c4_
      clear hf0
      by_cases hpk:md≤t+wt
      ·have hpk':decide ((md:Int)≤(t:Int)+(wt:Int))=true:=by simp;omega
       go_wp2_with (go_at_call 100
                    refine (KW.out wr).mono ?_
                    rintro e w7 ⟨rfl,hb7⟩
                    have hb87:=HB.out.trans (hb7.mono HB.out.size)
                    obtain ⟨d0_,d1_,d2_,d3_,d4_⟩:=(HCT.out w7 hb87).cells
                    dsimp only at d0_ d1_ d2_ d3_ d4_
                    have hV7:=HV8.out.below hb87 HV8.out.lt
                    obtain ⟨z0,z1,z2,z3,z4⟩:=hV7.c5
                    have e0:=hV7.free 0
                    have e1:=hV7.free 1
                    have e2:=hV7.free 2
                    have e3:=hV7.free 3
                    have e4:=hV7.free 4
                    have HV7:=Lib.hid hV7
                    have HB7:=Lib.hid (HB8.out.trans (hb87.mono HB8.out.size))
                    clear hV7 hb87 hb7)
       refine bodyPost_ret (resB2 Tryz.results47 _ _ G0 _ _ (.bool true) rfl rfl HV7.out.set5 rfl) rfl ?_
       have hPx:P=(⟨xh,xpo,xpr,xwe,xttl⟩,true):=by rw [HPE.out,HFI.out,HFH.out hpk];rfl
       exact ⟨by rw [hPx];rfl,below5 HB7.out hG0a _ _ _ _ _⟩
      ·have hpk':(t:Int)+(wt:Int)<(md:Int):=by omega
       go_wp2_with (go_at_call 100
                    refine (KW.out wr).mono ?_
                    rintro e w7 ⟨rfl,hb7⟩)
       go_roundw
       case rel=>exact ⟨k+1,t+wt,by omega,hsl,by go_num,by go_num,Lib.hid (by rw [HST.out,←HS.out]),Lib.hid (by rw [HFI.out,HFS.out (by omega)]),Lib.hid (HB.out.trans (hb7.mono HB.out.size))⟩
       case measure=>simp [intOf];omega
     ·have hkq:q=k:=by omega
      have hPx:P=(zA,false):=by
       rw [HPE.out,HFI.out,List.drop_of_length_le (by rw [HNQ.out];omega)];rfl
      have HPX:=Lib.hid hPx
      subst hkq
      clear hPx
      have hV9:=HV8.out.below HB.out HV8.out.lt
      obtain ⟨z0,z1,z2,z3,z4⟩:=hV9.c5
      have e0:=hV9.free 0
      have e1:=hV9.free 1
      have e2:=hV9.free 2
      have e3:=hV9.free 3
      have e4:=hV9.free 4
      have HV9:=Lib.hid hV9
      have HB9:=Lib.hid (HB8.out.trans (HB.out.mono HB8.out.size))
      clear hV9
      go_wp2_with fail
      refine bodyPost_ret (resB2 Tryz.results47 _ _ G0 _ _ (.bool false) rfl rfl HV9.out.set5 rfl) rfl ?_
      exact ⟨by rw [HPX.out];rfl,below5 HB9.out hG0a _ _ _ _ _⟩
end Go.Proofs.YtlipmlbijddopaaGreatDoor
set_option linter.unusedVariables false
set_option linter.unusedSimpArgs false
namespace Go.Proofs.YtlipmlbijddopaaGreatDoor
open Go.RowKit
section
variable {P:Program} (w:World)
theorem run_appMK (base s:Nat) (t tx ty e:TypeId) (i:TypeInfo) (z:Value) (bytes:Nat) (ht:P.underlying t=some (.slice e)) (hi:P.info? e=some i) (hz:i.zero=some z)
 (hsize:i.size=s) (hby:i.bytes=bytes) (hzs:z.cells.size=s) (hb1:1≤bytes)
 (v:Value) (n0:Nat) (xs:List Value) (hown:OwM w base e s v n0 xs) (x:Value) (n:Nat) (news:List Value) (hs:Src P s tx x n news w)
 (hbytes:(n0+n)*bytes≤140737488355328) (hbase:base≤w.heap.size) :
 ∃ v' w',(Builtin.append_ #[t,tx] ty #[v,x]).run P w = .ok v' w'∧OwM w' base e s v' (n0+n) (xs++news)∧Gr w w' v v'∧OwM w' base e s v n0 xs:=by
 subst hby
 have hnl:news.length=n*s:=hs.newsLen
 have hle:n0+n≤140737488355328:=Nat.le_trans (Nat.le_mul_of_pos_right _ hb1) hbytes
 have hfits:∀ c,c<n0+n→Builtin.nextslicecap (n0+n) c*i.bytes≤281474976710656:=fun c hc=>growslice_fits hc hbytes
 have hs':Src P i.size tx x n news w:=by rw [hsize];exact hs
 have hxl:xs.length=n0*s:=hown.1
 have hall:(xs++news).length=(n0+n)*s:=by rw [List.length_append,hxl,hnl,Nat.add_mul]
 have grown:∀ (old:Nat),old<n0+n→
  OwM (w.drew.alloc (.cells ((xs++news).toArray++Builtin.zeroCells z.cells (grownCap w (n0+n) old e - (n0+n))) e)) base e s
   (.slice (some ⟨w.heap.size,0,none⟩) (n0+n) (grownCap w (n0+n) old e)) (n0+n) (xs++news)∧
  Gr w (w.drew.alloc (.cells ((xs++news).toArray++Builtin.zeroCells z.cells (grownCap w (n0+n) old e - (n0+n))) e)) v (.slice (some ⟨w.heap.size,0,none⟩) (n0+n) (grownCap w (n0+n) old e)):=by
  intro old ho
  have hge:=grownCap_ge w (n0+n) old e
  have hcm:grownCap w (n0+n) old e≤maxLen:=grownCap_le_maxLen w (n0+n) old e (by unfold maxLen;omega)
  refine ⟨⟨hall,.inr ⟨w.heap.size,_,_,rfl,hbase,heap_alloc_new w.drew _,hge,hcm,?_,?_⟩⟩,⟨⟨rfl,rfl,rfl,by simp,fun k hk _=>Below.heap_alloc w.drew _ k hk⟩,fun g hg=>?_⟩⟩
  ·rw [Array.size_append,List.size_toArray,size_zeroCells,hzs,hall,←Nat.add_mul]
   congr 1
   omega
  ·rw [Array.toList_append]
   exact List.take_left' hall
  ·simp [Value.ownBlock] at hg;omega
 rcases hown.2 with ⟨rfl,hx0⟩ | ⟨g,cap,cur,rfl,hbg,hg,hnc,hcm,hcs,htake⟩
 ·subst hx0
  have hx:xs=[]:=List.eq_nil_of_length_eq_zero (by rw [hxl];simp)
  subst hx
  by_cases hm:n=0
  ·subst hm
   have hn:news=[]:=List.eq_nil_of_length_eq_zero (by rw [hnl];simp)
   subst hn
   refine ⟨.slice none 0 0,w,?_,OwM.nil w base e s,Gr.refl _ _,OwM.nil w base e s⟩
   rcases hs.kind with ⟨e',hk⟩ | hk <;> simp [Builtin.append_,run_underlying ht,run_underlying hk,sizeOf,typeInfo,hi,hsize,hs.len,hs.cells]
  ·have hr:=run_append_grow_src (P:=P) w t tx ty e i z ht hi hz none 0 0 [] (run_firstCells_none w.drew _ _ _ _) x n news hs' (by omega) (by simp at hle;omega) (by have:=hfits 0 (by omega);simpa using this)
   have hgr:=grown 0 (by omega)
   simp only [Nat.zero_add,List.nil_append] at hgr hr ⊢
   exact ⟨_,_,hr,hgr.1,hgr.2,OwM.nil _ base e s⟩
 ·by_cases hroom:n0+n≤cap
  ·have hfit:n0*s+news.length≤cur.size:=by rw [hcs,hnl,←Nat.add_mul];exact Nat.mul_le_mul_right _ hroom
   have hr:=run_room_rowM (P:=P) w s t tx ty e i ht hi hsize g n0 cap cur hg x n news hs hroom hfit
   refine ⟨_,_,hr,⟨hall,.inr ⟨g,cap,_,rfl,hbg,setRow_heap w g cur _ e _ hg,hroom,hcm,?_,?_⟩⟩,⟨⟨rfl,rfl,rfl,by simp,fun k _ hk=>setRow_other w g k _ (fun e=>hk (by simp [Value.ownBlock,e]))⟩,fun k hk=>.inl hk⟩,⟨hown.1,.inr ⟨g,cap,_,rfl,hbg,setRow_heap w g cur _ e _ hg,hnc,hcm,?_,?_⟩⟩⟩
   ·simp only [List.size_toArray,List.length_append,List.length_take,List.length_drop,Array.length_toList]
    omega
   ·rw [htake]
    exact List.take_left' hall
   ·simp only [List.size_toArray,List.length_append,List.length_take,List.length_drop,Array.length_toList]
    omega
   ·rw [htake,List.append_assoc]
    exact List.take_left' hxl
  ·have holds:∀ j u,xs[j]? = some u→w.cell? ((⟨g,0,none⟩:Addr).add j)=some u:=World.ownsRow.cells hown (g:=g) rfl
   have hr:=run_append_grow_src (P:=P) w t tx ty e i z ht hi hz (some ⟨g,0,none⟩) n0 cap xs (run_firstCells_some w.drew _ _ _ _ _ _ (by rw [hsize,hxl]) (by simpa using holds)) x n news hs' (by omega) (by omega) (hfits cap (by omega))
   have hgr:=grown cap (by omega)
   exact ⟨_,_,hr,hgr.1,hgr.2,OwM.alloc (w:=w.drew) hown _⟩
theorem wpList_appMK {ops:Array Oper} {rest:List Oper} {o:Oper} {a:Act} {Q:Exit→Act→World→Prop} (hgd:o.guard=none) (sl x:Operand) (t tx:TypeId)
 (ho:o.op = .call { callee:=.builtin .append,args:=#[sl,x],argTypes:=#[t,tx] })
 (base s:Nat) (e:TypeId) (i:TypeInfo) (z:Value) (bytes:Nat) (ht:P.underlying t=some (.slice e)) (hi:P.info? e=some i) (hz:i.zero=some z)
 (hsize:i.size=s) (hby:i.bytes=bytes) (hzs:z.cells.size=s) (hb1:1≤bytes)
 (v:Value) (n0:Nat) (xs:List Value) (hown:OwM w base e s v n0 xs) (hv:a.eval sl=v) (n:Nat) (news:List Value) (hs:Src P s tx (a.eval x) n news w)
 (hbytes:(n0+n)*bytes≤140737488355328) (hbase:base≤w.heap.size)
 (h:∀ v' w',OwM w' base e s v' (n0+n) (xs++news)→Gr w w' v v'→base≤w'.heap.size→OwM w' base e s v n0 xs→wpList P ops Q rest (a.put o.dst v') w'):wpList P ops Q (o :: rest) a w:=by
 refine wpList_plain hgd fun K hK=>?_
 obtain ⟨v',w',hr,h2,h3,h4⟩:=run_appMK (P:=P) w base s t tx o.type e i z bytes ht hi hz hsize hby hzs hb1 v n0 xs hown _ n news hs hbytes hbase
 unfold Oper.wp execOp
 simp only [ho,resolve,invoke,builtin,Sem.run_bind,Sem.run_pure,Result.andThen_ok,List.map_toArray,List.map_cons,List.map_nil,hv,hr]
 exact hK _ _ (h v' w' h2 h3 (Nat.le_trans hbase h3.1.size) h4)
end
section
variable {TS TA:TypeId} {w w':World} {B g:Nat} {v:Value} {R1 R2:List ARow} {r r':ARow}
theorem TSt.store (h:TSt TS TA w B v (R1++r :: R2)) (hr:r.v.ownBlock=some g) (hO:Only w w' g) (hv:r'.v=r.v) (ho:OwM w' B TA 5 r'.v r'.l.length (acs r'.l)):TSt TS TA w' B v (R1++r' :: R2):=by
 have hmap:(R1++r' :: R2).map ARow.v=(R1++r :: R2).map ARow.v:=by simp [hv]
 have hrm:r∈R1++r :: R2:=by simp
 have hkeep:∀ {x:ARow},OwM w B TA 5 x.v x.l.length (acs x.l)→x.v.ownBlock≠some g→OwM w' B TA 5 x.v x.l.length (acs x.l):=fun {x} hx hne=>
  World.ownsRow.kept (row:=some g) hx hO (by
   cases e:x.v.ownBlock with
   | none=>exact .inl rfl
   | some q=>exact .inr (fun e2=>hne (by rw [e,←e2])))
 have hap:=h.apt
 rw [List.pairwise_append,List.pairwise_cons] at hap
 have hapm:((R1++r :: R2).map ARow.v).Pairwise (fun u s=>∀ q,u.ownBlock=some q→s.ownBlock≠some q):=List.pairwise_map.2 h.apt
 refine ⟨?_,fun x hx=>?_,?_,fun x hx q hq e=>?_⟩
 ·rw [hmap]
  have hne:v.ownBlock≠some g:=h.off r hrm g hr
  exact World.ownsRow.kept (row:=some g) h.out hO (by
   cases e:v.ownBlock with
   | none=>exact .inl rfl
   | some q=>exact .inr (fun e2=>hne (by rw [e,←e2])))
 ·rcases List.mem_append.1 hx with hx | hx
  ·refine hkeep (h.own x (List.mem_append_left _ hx)) (fun e=>?_)
   exact hap.2.2 x hx r (List.mem_cons_self ..) g e hr
  ·rcases List.mem_cons.1 hx with rfl | hx
   ·exact ho
   ·exact hkeep (h.own x (by simp [hx])) (hap.2.1.1 x hx g hr)
 ·rw [←hmap] at hapm
  exact List.pairwise_map.1 hapm
 ·have hxm:x.v∈(R1++r :: R2).map ARow.v:=by rw [←hmap];exact List.mem_map.2 ⟨x,hx,rfl⟩
  obtain ⟨y,hy,hyv⟩:=List.mem_map.1 hxm
  exact h.off y hy q (by rw [hyv];exact hq) e
end
def setP (x:Ad):Ad:=⟨x.h,-1,x.pr,x.we,x.ttl⟩
theorem acs_setP (l k:List Ad) (x:Ad):(acs (l++x :: k)).set (l.length*5+1) (.int .i64 (-1))=acs (l++setP x :: k):=by
 have e:∀ y:Ad,acs (l++y :: k)=acs l++(y.cells++acs k):=fun y=>by rw [acs_app];simp [acs]
 rw [e,e,List.set_append_right _ _ (by rw [acs_length];omega),acs_length,Nat.add_sub_cancel_left,List.set_append_left _ _ (by simp)]
 rfl
def partP (l:List Ad) (j:Nat):List Ad:=(l.take j).map setP++l.drop j
theorem partP_zero (l:List Ad):partP l 0=l:=by simp [partP]
theorem partP_all (l:List Ad):partP l l.length=l.map setP:=by simp [partP]
theorem partP_len (l:List Ad) (j:Nat):(partP l j).length=l.length:=by
 unfold partP
 rw [List.length_append,List.length_map,List.length_take,List.length_drop];omega
theorem partP_set {l:List Ad} {j:Nat} (h:j<l.length):(acs (partP l j)).set (j*5+1) (.int .i64 (-1))=acs (partP l (j+1)):=by
 have e1:partP l j=(l.take j).map setP++l[j] :: l.drop (j+1):=by
  unfold partP
  rw [List.drop_eq_getElem_cons h]
 have e2:partP l (j+1)=(l.take j).map setP++setP l[j] :: l.drop (j+1):=by
  unfold partP
  rw [List.take_succ_eq_append_getElem h,List.map_append,List.append_assoc];rfl
 have hl:((l.take j).map setP).length=j:=by rw [List.length_map,List.length_take];omega
 have:=acs_setP ((l.take j).map setP) (l.drop (j+1)) l[j]
 rw [hl] at this
 rw [e1,e2,this]
theorem ownM_block {w:World} {B:Nat} {e:TypeId} {A:Option Addr} {n c:Nat} {xs:List Value} (h:OwM w B e 5 (.slice A n c) n xs) (hn:0<n) :
 ∃ g,A=some ⟨g,0,none⟩∧g<w.heap.size∧∀ j,w.frozen? ⟨g,j,none⟩=false:=by
 rcases h.2 with ⟨_,hx⟩ | ⟨g,cap,cur,e1,hg,hg2,_⟩
 ·omega
 ·injection e1 with e2 e3 e4
  subst e2
  exact ⟨g,rfl,kp_lt hg2,fun j=>by simp [World.frozen?,hg2]⟩
end Go.Proofs.YtlipmlbijddopaaGreatDoor
set_option linter.unusedVariables false
set_option linter.unusedSimpArgs false
namespace Go.Proofs.YtlipmlbijddopaaGreatDoor
open Go.RowKit
theorem TSt.other {TS TA:TypeId} {w w':World} {B g:Nat} {v:Value} {rows:List ARow} (h:TSt TS TA w B v rows) (hO:Only w w' g) (hg:g<B):TSt TS TA w' B v rows:=
 ⟨OwM.only h.out hO hg,fun r hr=>OwM.only (h.own r hr) hO hg,h.apt,h.off⟩
def setR (r:ARow):ARow:=⟨r.A,r.c,r.l.map setP⟩
theorem setR_v (r:ARow):(setR r).v=r.v:=by simp [setR,ARow.v]
def partR (rows:List ARow) (i:Nat):List ARow:=(rows.take i).map setR++rows.drop i
theorem partR_zero (rows:List ARow):partR rows 0=rows:=by simp [partR]
theorem partR_all (rows:List ARow):partR rows rows.length=rows.map setR:=by simp [partR]
theorem partR_at {rows:List ARow} {i:Nat} (h:i<rows.length):partR rows i=(rows.take i).map setR++rows[i] :: rows.drop (i+1):=by
 unfold partR
 rw [List.drop_eq_getElem_cons h]
theorem partR_next {rows:List ARow} {i:Nat} (h:i<rows.length):partR rows (i+1)=(rows.take i).map setR++setR rows[i] :: rows.drop (i+1):=by
 unfold partR
 rw [List.take_succ_eq_append_getElem h,List.map_append,List.append_assoc];rfl
theorem partR_v (rows:List ARow) (i:Nat):(partR rows i).map ARow.v=rows.map ARow.v:=by
 unfold partR
 rw [List.map_append,List.map_map]
 have:(ARow.v ∘ setR)=ARow.v:=by funext r;exact setR_v r
 rw [this,←List.map_append,List.take_append_drop]
theorem TSt.cellR {TS TA:TypeId} {w:World} {B n c:Nat} {A:Option Addr} {rows:List ARow} (h:TSt TS TA w B (.slice A n c) rows) {i:Nat} (hi:i<rows.length):∃ b,A=some ⟨b,0,none⟩∧w.cell? ⟨b,i,none⟩=(rows.map ARow.v)[i]?:=by
 have h0:=h.out
 unfold Ow at h0
 have hlen:(rows.map ARow.v).length=rows.length:=by simp
 rw [hlen] at h0
 have h1:=h0
 rcases h0.2 with ⟨_,hx⟩ | ⟨g,cap,cur,e,hg,hg2,_⟩
 ·omega
 ·injection e with e1 e2 e3
  subst e1 e2 e3
  exact ⟨g,rfl,h1.cellAt i (by omega)⟩
theorem partR_len (rows:List ARow) (i:Nat):(partR rows i).length=rows.length:=by
 have:=congrArg List.length (partR_v rows i)
 simpa using this
theorem row_rd {TA:TypeId} {w:World} {B n c:Nat} {A:Option Addr} {l:List Ad} (h:OwM w B TA 5 (.slice A n c) n (acs l)) (hl:l.length=n) (hn:n≤2932031007317) (hx:∀ x∈l,AdOk x):AsRd w w.heap.size A c n l:=by
 obtain ⟨A',c',e,ha⟩:=AsRd.of_own h hl hn hx
 injection e with e1 e2 e3
 subst e1 e3
 exact ha
set_option maxRecDepth 100000 in
set_option maxHeartbeats 400000 in
theorem port1_at (x:Ad) (w:World):Calls Tryz.prog 51 #[.agg x.cells.toArray] w fun e w'=>e = .returned (.bool (x.po != -1))∧Below w.heap.size w w':=by
 obtain ⟨h,po,pr,we,ttl⟩:=x
 unfold Ad.cells strV
 dsimp only
 go_enter Tryz.func51,Tryz.ntmps51
 go_wp2
 go_ret
 exact ⟨rfl,bl_new w _⟩
theorem port_at (A:Option Addr) (c n:Nat) (l:List Ad) (w:World) (h:AsRd w w.heap.size A c n (l.map setP)) :
 Calls Tryz.prog 16 #[.slice A n c,.func (.func 51) #[] #[]] w fun e w'=>e = .returned (.bool false)∧Below w.heap.size w w':=by
 have eg:∀ args w,(callFunc 51 args).run Tryz.prog w = .ok (.enter 51 args) w:=enters_of Tryz.func51 (by kernel_rfl) rfl
 have ha:(l.map setP).any (fun x=>x.po != -1)=false:=by
  rw [List.any_eq_false]
  intro x hx
  obtain ⟨y,_,rfl⟩:=List.mem_map.1 hx
  simp [setP]
 have hc:=has_at (fun x=>x.po != -1) 51 #[] eg A c n (l.map setP) w (fun W x hb=>(port1_at x W).mono (by
  rintro e w' ⟨rfl,hb'⟩
  exact ⟨rfl,hb.trans (hb'.mono hb.size)⟩)) h
 rw [ha] at hc
 exact hc
theorem adok_setP {l:List Ad} (h:∀ x∈l,AdOk x):∀ x∈l.map setP,AdOk x:=fun x hx=>by
 obtain ⟨y,hy,rfl⟩:=List.mem_map.1 hx
 have hk:=h y hy
 exact ⟨hk.h,by simp [setP],by simp [setP],hk.pr1,hk.pr2,hk.we1,hk.we2,hk.ttl⟩
set_option maxRecDepth 100000 in
set_option maxHeartbeats 16000000 in
theorem lists_at (A0:Option Addr) (c0 n m:Nat) (l:List Ad) (w:World) (h:AsRd w w.heap.size A0 c0 n l) (hn1:n≤1000000) (hm:m<4294967296) (henv:EnvT w) :
 Calls Tryz.prog 18 #[.slice A0 n c0,.int .u32 (m:Int)] w fun e w'=>e = .returned (.bool true)∧Below w.heap.size w w':=by
 obtain ⟨j0,hj',hy0,hy1,hy2⟩:=info_parts Tryz.infoBl
 obtain ⟨k0,hk',hx0,hx1,hx2⟩:=info_parts Tryz.infoA
 have H:=Lib.hid h
 have HLN:=Lib.hid h.2.1
 have HOK:=Lib.hid h.2.2.2.2
 have HENV:=Lib.hid henv
 have K1:=Lib.hid (aclone_at A0 c0 n l w h)
 obtain ⟨pk,hpk⟩:∃ pk,pk=Srv.pickA l m:=⟨_,rfl⟩
 have KP:=Lib.hid (fun (W:World) (A:Option Addr) (c:Nat) (hW:AsRd W W.heap.size A c n l)=>pick_at A c n m l W hW hm)
 have KRP:=Lib.hid (fun (W:World) (A:Option Addr) (c:Nat) (hW:AsRd W W.heap.size A c n l)=>rpick_at A c n m l W hW hm hn1)
 rw [←hpk] at KP KRP
 obtain ⟨T,hT⟩:∃ T,T=Srv.ttlA l:=⟨_,rfl⟩
 have KT:=Lib.hid (fun (W:World) (A:Option Addr) (c:Nat) (hW:AsRd W W.heap.size A c n l)=>sttl_at A c n l W hW)
 have KRT:=Lib.hid (fun (W:World) (A:Option Addr) (c:Nat) (hW:AsRd W W.heap.size A c n l)=>rttl_at A c n l W _ hW)
 rw [←hT] at KT KRT
 clear h henv hpk hT
 obtain ⟨⟨ph,ppo,ppr,pwe,pttl⟩,pok⟩:=pk
 unfold Ad.cells strV at KP KRP
 dsimp only at KP KRP
 go_enter Tryz.func18,Tryz.ntmps18
 go_wp2_with (go_at_call 46
              refine K1.out.mono ?_
              rintro e w1 ⟨v1,rfl,ho1,hb1⟩
              obtain ⟨A1,c1,rfl,ha1⟩:=AsRd.of_own ho1 HLN.out (by omega) HOK.out
              have HA1:=Lib.hid ha1
              have HB1:=Lib.hid hb1
              clear ho1 ha1 hb1)
 go_loopw [6,24] (fun v6 v24 wr=>∃ k:Nat,k≤n∧v24 = .int .i64 k∧Hid (OwM wr w1.heap.size 102 5 v6 k (acs (l.take k)))∧Hid (Below w1.heap.size w1 wr)) (fun _ v24 _=>n - (intOf v24).toNat)
 case atStart=>exact ⟨0,Nat.zero_le _,rfl,Lib.hid (OwM.nil _ _ _ _),Lib.hid (Below.refl _ _)⟩
 case round=>
  obtain ⟨k,hk,rfl,HO,HB⟩:=hrel
  obtain ⟨A6,c6,rfl,_,_,_⟩:=HO.out.form
  have hsz:=HB.out.size
  rcases Nat.lt_or_ge k n with hlt | hge
  ·have hkl:k<l.length:=by rw [HLN.out];exact hlt
   obtain ⟨b,o,rfl,hb,hc⟩:=(H.out.goes HB1.out).at_ hlt
   have hf:=(hc hkl).below HB.out hb
   have htk:l.take (k+1)=l.take k++[l[k]]:=List.take_succ_eq_append_getElem hkl
   obtain ⟨x,hx⟩:∃ x,x=l[k]:=⟨_,rfl⟩
   rw [←hx] at hf htk
   have HTK:=Lib.hid htk
   clear hx htk hc
   obtain ⟨xh,xpo,xpr,xwe,xttl⟩:=x
   obtain ⟨c0_,c1_,c2_,c3_,c4_⟩:=hf.cells
   dsimp only at c0_ c1_ c2_ c3_ c4_
   clear hf
   have hbx:=Vx.new wr 31 [.string ⟨xh.toArray⟩,.int .i64 xpo,.int .i64 xpr,.int .i64 xwe,.int .u32 (xttl:Int)]
   have hbl:=bl_new wr (.cells #[.string ⟨xh.toArray⟩,.int .i64 xpo,.int .i64 xpr,.int .i64 xwe,.int .u32 (xttl:Int)] 31)
   go_upto_region 6 with fail
   have HO5:=Lib.hid (HO.out.far hbl)
   have HB5:=Lib.hid (HB.out.trans (hbl.mono hsz))
   obtain ⟨GX,hGX⟩:∃ G,G=wr.heap.size:=⟨_,rfl⟩
   rw [←hGX] at hbx ⊢
   generalize wr.alloc (.cells #[.string ⟨xh.toArray⟩,.int .i64 xpo,.int .i64 xpr,.int .i64 xwe,.int .u32 (xttl:Int)] 31)=w5 at hbx HO5 HB5 ⊢
   obtain ⟨d0,d1,d2,d3,d4⟩:=hbx.c5
   have hsz5:=HB5.out.size
   clear hbx hbl hGX c0_ c1_ c2_ c3_ c4_
   go_wp2_with (at_builtin
                refine wpList_appM _ rfl _ _ _ _ rfl w1.heap.size 5 102 j0 (.agg zA.cells.toArray) 48 Tryz.underlying93 hj' hy0 hy1 hy2 rfl (by omega) (.slice A6 k c6) k (acs (l.take k)) (HO5.out.alloc _) rfl 1 (Ad.cells ⟨xh,xpo,xpr,xwe,xttl⟩) (srcA Tryz.underlying93 102 5 _ 1 rfl (acells_one _) (by simp)) (by omega) (by have:=hsz5;simp;omega) ?_
                intro v9 w9 ho9 hg9 hz9
                obtain ⟨A9,c9,rfl,_,_,_⟩:=ho9.form
                rw [←acs_snoc] at ho9
                have HO9:=Lib.hid ho9
                have HB9:=Lib.hid ((HB5.out.alloc hsz5 (.cells #[.string ⟨xh.toArray⟩,.int .i64 xpo,.int .i64 xpr,.int .i64 xwe,.int .u32 (xttl:Int)] 102)).trans (hg9.below (OwM.lt HO5.out) (by have:=hsz5;simp;omega)))
                clear ho9 hg9)
   go_roundw
   case rel=>exact ⟨k+1,by omega,by go_num,Lib.hid (by rw [HTK.out];exact HO9.out),HB9⟩
   case measure=>simp [intOf];omega
  ·have hkn:n=k:=by omega
   subst hkn
   have ho:=HO.out
   rw [List.take_of_length_le (by rw [HLN.out];exact Nat.le_refl _)] at ho
   obtain ⟨A6',c6',e6,ha6⟩:=AsRd.of_own ho HLN.out (by omega) HOK.out
   injection e6 with e1 e2 e3
   subst e1 e3
   have HI2:=Lib.hid ha6
   have HA2:=Lib.hid (HA1.out.goes HB.out)
   have HB2:=Lib.hid (HB1.out.trans (HB.out.mono HB1.out.size))
   clear ho ha6 HO HA1 HB K1
   obtain ⟨W2,hW2⟩:∃ x,x=wr:=⟨wr,rfl⟩
   subst hW2
   go_upto_region 10 with (first
    | (go_at_call 47
       refine (KRP.out _ A6 c6 HI3.out).mono ?_
       rintro e w4 ⟨rfl,hb4⟩
       have HI4:=Lib.hid (HI3.out.goes hb4)
       have HA4:=Lib.hid (HA3.out.goes hb4)
       have HB4:=Lib.hid (HB3.out.trans (hb4.mono HB3.out.size))
       have HX4:=Lib.hid (HX3.out.below hb4 HX3.out.lt)
       clear hb4)
    | (go_at_call 23
       refine (KP.out W2 A1 c1 HA2.out).mono ?_
       rintro e w3 ⟨rfl,hb3⟩
       have hb3a:=bl_new w3 (.cells #[.string ⟨ph.toArray⟩,.int .i64 ppo,.int .i64 ppr,.int .i64 pwe,.int .u32 (pttl:Int)] 31)
       have HI3:=Lib.hid ((HI2.out.goes hb3).goes hb3a)
       have HA3:=Lib.hid ((HA2.out.goes hb3).goes hb3a)
       have HB3:=Lib.hid (HB2.out.trans ((hb3.trans (hb3a.mono hb3.size)).mono HB2.out.size))
       have HX3:=Lib.hid (Vx.new w3 31 [.string ⟨ph.toArray⟩,.int .i64 ppo,.int .i64 ppr,.int .i64 pwe,.int .u32 (pttl:Int)])
       clear hb3 hb3a))
   have hb5:=bl_new w4 (.cells #[.string ⟨ph.toArray⟩,.int .i64 ppo,.int .i64 ppr,.int .i64 pwe,.int .u32 (pttl:Int)] 102)
   have hy5:=Vx.new w4 102 [.string ⟨ph.toArray⟩,.int .i64 ppo,.int .i64 ppr,.int .i64 pwe,.int .u32 (pttl:Int)]
   have hx5:=HX4.out.below hb5 HX4.out.lt
   have HI5:=Lib.hid (HI4.out.goes hb5)
   have HA5:=Lib.hid (HA4.out.goes hb5)
   have HB5:=Lib.hid (HB4.out.trans (hb5.mono HB4.out.size))
   obtain ⟨GX,hGX⟩:∃ G,G=w3.heap.size:=⟨_,rfl⟩
   obtain ⟨GY,hGY⟩:∃ G,G=w4.heap.size:=⟨_,rfl⟩
   rw [←hGX] at hx5 ⊢
   rw [←hGY] at hy5 ⊢
   generalize w4.alloc (.cells #[.string ⟨ph.toArray⟩,.int .i64 ppo,.int .i64 ppr,.int .i64 pwe,.int .u32 (pttl:Int)] 102)=w5 at hy5 hx5 HI5 HA5 HB5 ⊢
   obtain ⟨p0,p1,p2,p3,p4⟩:=hx5.c5
   obtain ⟨r0,r1,r2,r3,r4⟩:=hy5.c5
   clear hb5 hy5 hx5 hGX hGY HI4 HA4 HB4 HX4 HI3 HA3 HB3 HX3 HI2 HA2
   go_upto_region 12 with (first
    | (go_at_call 34
       refine (seq_at (w:=w9) A8 A9 c8 c9 n n (l.map Srv.textA) (l.map Srv.textA) true (by simp) (by rw [List.length_map,HLN.out]) (by rw [List.length_map,HLN.out]) HS9.out HR9.out (by omega) (by omega)).mono ?_
       rintro e w10 ⟨rfl,q10,hq10⟩
       have hb10:Below w9.heap.size w9 w10:=by rw [hq10];exact bl_drewN (Below.refl _ _) q10
       have HA10:=Lib.hid (HA9.out.goes hb10)
       have HI10:=Lib.hid (HI9.out.goes hb10)
       have HB10:=Lib.hid (HB9.out.trans (hb10.mono HB9.out.size))
       clear hb10 hq10)
    | (go_at_call 49
       refine (rtexts_at A6 c6 n l w8 HI8.out).mono ?_
       rintro e w9 ⟨v9,rfl,ho9,hb9⟩
       obtain ⟨A9,c9,rfl,_,hr9⟩:=Ow.form6 ho9 n (by rw [sc_length,List.length_map,HLN.out])
       have HR9:=Lib.hid hr9
       have HS9:=Lib.hid (HS8.out.goes hb9)
       have HA9:=Lib.hid (HA8.out.goes hb9)
       have HI9:=Lib.hid (HI8.out.goes hb9)
       have HB9:=Lib.hid (HB8.out.trans (hb9.mono HB8.out.size))
       clear ho9 hr9 hb9)
    | (go_at_call 29
       refine (texts_at A1 c1 n l w6 HA6.out (fun x hx=>ito_of (HENV.out.below HB6.out) (HOK.out x hx).po1 (HOK.out x hx).po2)).mono ?_
       rintro e w8 ⟨v8,rfl,ho8,hb8⟩
       obtain ⟨A8,c8,rfl,_,hr8⟩:=Ow.form6 ho8 n (by rw [sc_length,List.length_map,HLN.out])
       have HS8:=Lib.hid hr8
       have HA8:=Lib.hid (HA6.out.goes hb8)
       have HI8:=Lib.hid (HI6.out.goes hb8)
       have HB8:=Lib.hid (HB6.out.trans (hb8.mono HB6.out.size))
       clear ho8 hr8 hb8)
    | (go_at_call 48
       refine (KRT.out w6 A6 c6 HI6.out).mono ?_
       rintro e w6 ⟨rfl,rfl⟩)
    | (go_at_call 26
       refine (KT.out w5 A1 c1 HA5.out).mono ?_
       rintro e w6 ⟨rfl,hb6⟩
       have HA6:=Lib.hid (HA5.out.goes hb6)
       have HI6:=Lib.hid (HI5.out.goes hb6)
       have HB6:=Lib.hid (HB5.out.trans (hb6.mono HB5.out.size))
       clear hb6))
   obtain ⟨TN,hTN⟩:∃ t,t=Srv.tiersA l:=⟨_,rfl⟩
   have HTA:=Lib.hid (Srv.tiersA_tiers l)
   rw [←hTN] at HTA
   have htn:=Srv.tiers_len HTA.out.some_
   rw [HTA.out.all,HLN.out] at htn
   have KTI:=Lib.hid (fun (W:World) (hW:AsRd W W.heap.size A1 c1 n l)=>tiers_at A1 c1 n l W hW)
   have KRTI:=Lib.hid (fun (W:World) (hW:AsRd W W.heap.size A6 c6 n l)=>rtiers_at A6 c6 n l W hW)
   rw [←hTN] at KTI KRTI
   clear hTN
   obtain ⟨N,hN⟩:∃ N,N=TN.length:=⟨_,rfl⟩
   have hN1:N≤1000000:=by rw [hN];omega
   have HNN:=Lib.hid hN.symm
   clear hN htn p0 p1 p2 p3 p4 r0 r1 r2 r3 r4 KT KRT KP KRP
   go_wp2_with (first
    | (go_at_call 50
       refine (KRTI.out w11 HI11.out).mono ?_
       rintro e w12 ⟨v12,rows2,rfl,hr2,ht2,hb12⟩
       have hl2:rows2.length=N:=by rw [HNN.out.symm,←hr2,List.length_map]
       obtain ⟨A14,c14,rfl,_,_⟩:=ht2.out.form6 N (by rw [List.length_map,hl2])
       have HR2:=Lib.hid hr2
       have HL2:=Lib.hid hl2
       have HW12:=Lib.hid ht2
       have HT12:=Lib.hid (HT11.out.far hb12)
       have HA12:=Lib.hid (HA11.out.goes hb12)
       have HB12:=Lib.hid (HB11.out.trans (hb12.mono HB11.out.size))
       have HBT:=Lib.hid (HBT1.out.trans (hb12.mono HBT1.out.size))
       clear hr2 hl2 ht2 hb12)
    | (go_at_call 25
       refine (KTI.out w10 HA10.out).mono ?_
       rintro e w11 ⟨A13,c13,rows,rfl,hr1,ht1,_,_,hb11⟩
       have hl1:rows.length=N:=by rw [HNN.out.symm,←hr1,List.length_map]
       rw [hl1] at ht1 ⊢
       have HR1:=Lib.hid hr1
       have HL1:=Lib.hid hl1
       have HT11:=Lib.hid ht1
       have HGB:Hid (∀ r∈rows,∀ g,r.v.ownBlock=some g→g<w11.heap.size):=Lib.hid (fun r hr g hg=>(ht1.own r hr).block_lt g hg)
       have HGA:Hid (∀ r∈rows,∀ g,r.v.ownBlock=some g→w10.heap.size≤g):=Lib.hid (fun r hr g hg=>(ht1.own r hr).lt g hg)
       have HA11:=Lib.hid (HA10.out.goes hb11)
       have HI11:=Lib.hid (HI10.out.goes hb11)
       have HB11:=Lib.hid (HB10.out.trans (hb11.mono HB10.out.size))
       have HBT1:=Lib.hid hb11
       clear hr1 hl1 ht1 hb11))
   go_loopw [79] (fun v79 wr=>∃ i:Nat,i≤N∧v79 = .int .i64 i∧Hid (TSt 27 31 wr w10.heap.size (.slice A13 N c13) (partR rows i))∧Hid (TSt 93 102 wr w11.heap.size (.slice A14 N c14) rows2)∧Hid (Below w10.heap.size w10 wr)) (fun v79 _=>N - (intOf v79).toNat)
   case atStart=>exact ⟨0,Nat.zero_le _,rfl,Lib.hid (by rw [partR_zero];exact HT12.out),HW12,HBT⟩
   case round=>
    obtain ⟨i,hi,rfl,HT,HW,HB⟩:=hrel
    rcases Nat.lt_or_ge i N with hlt | hge
    ·have hir:i<rows.length:=by rw [HL1.out];exact hlt
     have hir2:i<rows2.length:=by rw [HL2.out];exact hlt
     obtain ⟨b13,hA13,hc13⟩:=HT.out.cellR (i:=i) (by rw [partR_len];exact hir)
     obtain ⟨b14,hA14,hc14⟩:=HW.out.cellR hir2
     rw [partR_v,List.getElem?_map,List.getElem?_eq_getElem hir] at hc13
     rw [List.getElem?_map,List.getElem?_eq_getElem hir2] at hc14
     rw [Option.map_some] at hc13 hc14
     have hpa:=partR_at hir
     have hpn:=partR_next hir
     have hlr:rows[i].l∈TN:=by rw [←HR1.out];exact List.mem_map.2 ⟨_,List.getElem_mem hir,rfl⟩
     have hll:rows2[i].l=rows[i].l:=by
      have e1:(rows2.map ARow.l)[i]? = (rows.map ARow.l)[i]?:=by rw [HR1.out,HR2.out]
      rw [List.getElem?_map,List.getElem?_map,List.getElem?_eq_getElem hir,List.getElem?_eq_getElem hir2] at e1
      exact Option.some.inj e1
     have hno:=HW.out.own rows2[i] (List.getElem_mem hir2)
     have hgb:=HGB.out rows[i] (List.getElem_mem hir)
     have hga:=HGA.out rows[i] (List.getElem_mem hir)
     have hrne:=HTA.out.some_ _ hlr
     have hrlen:rows[i].l.length≤1000000:=by
      have h3:=mem_flat hlr
      rw [HTA.out.all,HLN.out] at h3
      omega
     have hrok:∀ x∈rows[i].l,AdOk x:=fun x hx=>HOK.out x (by
      rw [←HTA.out.all];exact List.mem_flatten.2 ⟨_,hlr,hx⟩)
     obtain ⟨r,hr⟩:∃ r,r=rows[i]:=⟨_,rfl⟩
     obtain ⟨r2,hr2⟩:∃ r,r=rows2[i]:=⟨_,rfl⟩
     rw [←hr] at hc13 hpa hpn hll hgb hga hrne hrlen hrok
     rw [←hr2] at hc14 hll hno
     obtain ⟨rA,rc,rl⟩:=r
     obtain ⟨sA,sc2,sl⟩:=r2
     dsimp only at hll hrne hrlen hrok
     subst hll
     obtain ⟨R1,hR1⟩:∃ R,R=(rows.take i).map setR:=⟨_,rfl⟩
     obtain ⟨R2,hR2⟩:∃ R,R=rows.drop (i+1):=⟨_,rfl⟩
     rw [←hR1,←hR2] at hpa hpn
     have ht:=HT.out
     rw [hpa] at ht
     have hto:=ht.own ⟨rA,rc,sl⟩ (by simp)
     have HT1:=Lib.hid ht
     have HPN:=Lib.hid hpn
     unfold ARow.v at hc13 hc14 hto hno hgb hga
     dsimp only at hc13 hc14 hto hno hgb hga
     obtain ⟨tn,htn⟩:∃ t,t=sl.length:=⟨_,rfl⟩
     have htn0:0<tn:=by rw [htn];exact List.length_pos_iff.2 hrne
     rw [←htn] at hc13 hc14 hto hno hrlen hgb hga
     have HTN:=Lib.hid htn.symm
     have hat:=row_rd hto htn.symm (by omega) hrok
     have haw:=row_rd hno htn.symm (by omega) hrok
     have HAT:=Lib.hid hat
     have HAW:=Lib.hid haw
     have HRO:=Lib.hid hrok
     obtain ⟨g,hrA,_,_⟩:=ownM_block hto htn0
     subst hrA hA13 hA14
     have hgb2:g<w11.heap.size:=hgb g rfl
     have hga2:w10.heap.size≤g:=hga g rfl
     clear hpa hpn hlr hno hto ht hat haw hrok hrne hr hr2 hR1 hR2 htn hgb hga HT
     go_upto_region 20 with (go_at_call 42
                             refine (rsame_at (some ⟨g,0,none⟩) sA rc sc2 tn sl wr HAT.out HAW.out).mono ?_
                             rintro e w13 ⟨rfl,hb13⟩
                             have HT13:=Lib.hid (HT1.out.far hb13)
                             have HW13:=Lib.hid (HW.out.far hb13)
                             have HB13:=Lib.hid (HB.out.trans (hb13.mono HB.out.size))
                             clear hb13)
     clear hc13 hc14 HAT HAW HT1 HW HB
     go_wp2_with fail
     go_loopw [93] (fun v93 wx=>∃ j:Nat,j≤tn∧v93 = .int .i64 j∧Hid (TSt 27 31 wx w10.heap.size (.slice (some ⟨b13,0,none⟩) N c13) (R1++⟨some ⟨g,0,none⟩,rc,partP sl j⟩ :: R2))∧Hid (TSt 93 102 wx w11.heap.size (.slice (some ⟨b14,0,none⟩) N c14) rows2)∧Hid (Below w10.heap.size w10 wx)) (fun v93 _=>tn - (intOf v93).toNat)
     case atStart=>exact ⟨0,Nat.zero_le _,rfl,Lib.hid (by rw [partP_zero];exact HT13.out),HW13,HB13⟩
     case round=>
      obtain ⟨j,hj,rfl,HT,HW,HB⟩:=hrel
      have hown:OwM wr w10.heap.size 31 5 (.slice (some ⟨g,0,none⟩) tn rc) tn (acs (partP sl j)):=by
       have ho:=HT.out.own ⟨some ⟨g,0,none⟩,rc,partP sl j⟩ (by simp)
       unfold ARow.v at ho
       dsimp only at ho
       rw [partP_len,HTN.out] at ho
       exact ho
      have HOW:=Lib.hid hown
      rcases Nat.lt_or_ge j tn with hjt | hjt
      ·have hjl:j<sl.length:=by rw [HTN.out];exact hjt
       obtain ⟨g2,hg2,hgl,hfz⟩:=ownM_block hown htn0
       injection hg2 with hg2
       injection hg2 with hg2
       subst hg2
       have hcel:wr.cell? ⟨g,j*5+1,none⟩=some (.int .i64 (sl[j]).po):=by
        have hr:=OwM.rd hown
        obtain ⟨b,o,e,_,hcc⟩:=hr.2 (by omega)
        injection e with e
        injection e with e1 e2
        subst e1 e2
        have:=hcc (j*5+1) (.int .i64 (sl[j]).po) (by
         have e1:partP sl j=(sl.take j).map setP++sl[j] :: sl.drop (j+1):=by
          unfold partP
          rw [List.drop_eq_getElem_cons hjl]
         have hpj:j<(partP sl j).length:=by rw [partP_len];exact hjl
         rw [acs_get (partP sl j) j 1 hpj (by omega)]
         have e2:(partP sl j)[j]'hpj=sl[j]:=by
          simp only [e1]
          rw [List.getElem_append_right (by rw [List.length_map,List.length_take];omega)]
          simp only [List.length_map,List.length_take,Nat.min_eq_left (Nat.le_of_lt hjl),Nat.sub_self,List.getElem_cons_zero]
         rw [e2];rfl)
        rw [Nat.zero_add] at this
        exact this
       have hfj:=hfz (j*5+1)
       have hset:=OwM.set_ hown (j*5+1) (.int .i64 (-1))
       rw [partP_set hjl] at hset
       have HSET:Hid (OwM (wr.setCell ⟨g,j*5+1,none⟩ (.int .i64 (-1))) w10.heap.size 31 5 (ARow.v ⟨some ⟨g,0,none⟩,rc,partP sl (j+1)⟩) (partP sl (j+1)).length (acs (partP sl (j+1)))):=Lib.hid (by
        unfold ARow.v
        dsimp only
        rw [partP_len,HTN.out]
        exact hset)
       have HT2:=Lib.hid (HT.out.store (g:=g) (r':=⟨some ⟨g,0,none⟩,rc,partP sl (j+1)⟩) rfl (Only.set_ _ _ _ _) (by unfold ARow.v;dsimp only;rw [partP_len,partP_len]) HSET.out)
       have HW2:=Lib.hid (HW.out.other (Only.set_ wr g (j*5+1) (.int .i64 (-1))) hgb2)
       have HB2:=Lib.hid (HB.out.setCell (p:=⟨g,j*5+1,none⟩) hga2 (.int .i64 (-1)))
       clear hown hset hfz hgl
       go_wp2_with fail
       go_roundw
       case rel=>exact ⟨j+1,by omega,by go_num,HT2,HW2,HB2⟩
       case measure=>simp [intOf];omega
      ·have hjtn:tn=j:=by omega
       subst hjtn
       have hpa:partP sl tn=sl.map setP:=by rw [←HTN.out];exact partP_all sl
       rw [hpa] at HOW HT
       have hszB:=HB.out.size
       clear hown
       go_wp2_with (at_builtin
                    refine wpList_appMK _ rfl _ _ _ _ rfl w10.heap.size 5 31 k0 (.agg zA.cells.toArray) 48 Tryz.underlying27 hk' hx0 hx1 hx2 rfl (by omega) (.slice (some ⟨g,0,none⟩) tn rc) tn (acs (sl.map setP)) (OwM.alloc HOW.out _) rfl 1 (Ad.cells ⟨[],-2,0,0,0⟩) (srcA Tryz.underlying27 31 5 _ 1 rfl (acells_one _) (by simp)) (by omega) (by have:=hszB;simp;omega) ?_
                    intro v15 w15 ho15 hg15 hz15 hold15
                    have hb14:=bl_new wr (.cells #[.string ⟨#[]⟩,.int .i64 (-2),.int .i64 0,.int .i64 0,.int .u32 0] 31)
                    have HT15:=Lib.hid ((HT.out.far hb14).store (g:=g) (r':=⟨some ⟨g,0,none⟩,rc,sl.map setP⟩) rfl hg15.1 rfl (by unfold ARow.v;dsimp only;rw [List.length_map,HTN.out];exact hold15))
                    have HW15:=Lib.hid ((HW.out.far hb14).other hg15.1 hgb2)
                    have HB15:=Lib.hid ((HB.out.trans (hb14.mono hszB)).trans (hg15.below (fun q hq=>by cases hq;exact hga2) (by have:=hszB;simp;omega)))
                    clear ho15 hg15 hold15 hb14)
       go_roundw
       case rel=>exact ⟨i+1,by omega,by go_num,Lib.hid (by rw [HPN.out];exact HT15.out),HW15,HB15⟩
       case measure=>simp [intOf];omega
    ·have hiN:N=i:=by omega
     subst hiN
     have hpall:partR rows N=rows.map setR:=by rw [←HL1.out];exact partR_all rows
     rw [hpall] at HT
     have HA16:=Lib.hid (HA10.out.goes HB.out)
     have HB16:=Lib.hid (HB10.out.trans (HB.out.mono HB10.out.size))
     have HT16:=HT
     have HW16:=HW
     clear hpall HT HW HB HT12 HW12 HBT HBT1 HT11 HB11 HB12 HA11 HA12 HI11 KTI KRTI HA10 HI10 HB10
     obtain ⟨W16,hW16⟩:∃ x,x=wr:=⟨wr,rfl⟩
     subst hW16
     go_wp2_with fail
     go_loopw [108] (fun v108 wx=>∃ i:Nat,i≤N∧v108 = .int .i64 i∧Hid (Below W16.heap.size W16 wx)) (fun v108 _=>N - (intOf v108).toNat)
     case atStart=>exact ⟨0,Nat.zero_le _,rfl,Lib.hid (Below.refl _ _)⟩
     case round=>
      obtain ⟨i,hi4,rfl,HB⟩:=hrel
      rcases Nat.lt_or_ge i N with hlt | hge4
      ·have hir:i<rows.length:=by rw [HL1.out];exact hlt
       have hir2:i<rows2.length:=by rw [HL2.out];exact hlt
       have hirm:i<(rows.map setR).length:=by rw [List.length_map];exact hir
       have ht:=HT16.out.far HB.out
       have hw:=HW16.out.far HB.out
       obtain ⟨b13,hA13,hc13⟩:=ht.cellR hirm
       obtain ⟨b14,hA14,hc14⟩:=hw.cellR hir2
       rw [List.map_map,List.getElem?_map,List.getElem?_eq_getElem hir,Option.map_some] at hc13
       rw [List.getElem?_map,List.getElem?_eq_getElem hir2,Option.map_some] at hc14
       have hlr:rows[i].l∈TN:=by rw [←HR1.out];exact List.mem_map.2 ⟨_,List.getElem_mem hir,rfl⟩
       have hll:rows2[i].l=rows[i].l:=by
        have e1:(rows2.map ARow.l)[i]? = (rows.map ARow.l)[i]?:=by rw [HR1.out,HR2.out]
        rw [List.getElem?_map,List.getElem?_map,List.getElem?_eq_getElem hir,List.getElem?_eq_getElem hir2] at e1
        exact Option.some.inj e1
       have hto:=ht.own (setR rows[i]) (List.mem_map.2 ⟨_,List.getElem_mem hir,rfl⟩)
       have hrlen:rows[i].l.length≤1000000:=by
        have h3:=mem_flat hlr
        rw [HTA.out.all,HLN.out] at h3
        omega
       have hrok:∀ x∈rows[i].l,AdOk x:=fun x hx=>HOK.out x (by
        rw [←HTA.out.all];exact List.mem_flatten.2 ⟨_,hlr,hx⟩)
       obtain ⟨r,hr⟩:∃ r,r=rows[i]:=⟨_,rfl⟩
       obtain ⟨r2,hr2⟩:∃ r,r=rows2[i]:=⟨_,rfl⟩
       rw [←hr] at hc13 hll hto hrlen hrok
       rw [←hr2] at hc14 hll
       obtain ⟨rA,rc,rl⟩:=r
       obtain ⟨sA,sc2,sl⟩:=r2
       dsimp only at hll hrlen hrok
       subst hll
       have hc13':wr.cell? ⟨b13,i,none⟩=some (.slice rA sl.length rc):=by rw [hc13];simp [setR,ARow.v]
       have hc14':wr.cell? ⟨b14,i,none⟩=some (.slice sA sl.length sc2):=hc14
       unfold setR ARow.v at hto
       dsimp only at hto
       rw [List.length_map] at hto
       obtain ⟨tn,htn⟩:∃ t,t=sl.length:=⟨_,rfl⟩
       rw [←htn] at hc13' hc14' hto hrlen
       have hat:=row_rd hto (by rw [List.length_map,htn]) (by omega) (adok_setP hrok)
       have HAT:=Lib.hid hat
       subst hA13 hA14
       clear hc13 hc14 hlr hto ht hw hat hrok hr hr2 htn hirm hir hir2
       go_wp2_with (go_at_call 16
                    refine (port_at rA rc tn sl wr HAT.out).mono ?_
                    rintro e w17 ⟨rfl,hb17⟩)
       go_roundw
       case rel=>exact ⟨i+1,by omega,by go_num,Lib.hid (HB.out.trans (hb17.mono HB.out.size))⟩
       case measure=>simp [intOf];omega
      ·have hiN:N=i:=by omega
       subst hiN
       have HA18:=Lib.hid (HA16.out.goes HB.out)
       have HB18:=Lib.hid (HB16.out.trans (HB.out.mono HB16.out.size))
       go_wp2_with (go_at_call 27
                    refine (aeq_at A1 A0 c1 c0 n l wr wr.heap.size HA18.out (H.out.goes HB18.out)).mono ?_
                    rintro e w18 ⟨rfl,q18,hq18⟩)
       go_ret
       exact ⟨rfl,bl_drewN HB18.out q18⟩
def longB (l:List Ad):Bool:=l.any fun x=>decide (100<x.h.length)
end Go.Proofs.YtlipmlbijddopaaGreatDoor
