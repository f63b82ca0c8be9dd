/-
  DnsFw
-/
import Derived.Test.YtlipmlbijddopaaGreatDoorZ21
import Derived.Test.YtlipmlbijddopaaGreatDoorZ20
import Derived.Deep.CutBlock
set_option linter.unusedVariables false
set_option linter.unusedSimpArgs false
namespace Go.Proofs.YtlipmlbijddopaaGreatDoor
open Go.RowKit
set_option maxRecDepth 100000 in
set_option maxHeartbeats 1000000 in
theorem fright_at (x:RR) (w:World) (h:RRd w w.heap.size x) :
 Calls Tryz.prog 54 #[.agg x.cells.toArray] w fun e w'=>e = .returned (.bool (rightR x.r))∧Below w.heap.size w w':=by
 obtain ⟨A,c,dA,dc,tA,tc,⟨⟨nm,ty,cl⟩,ttl,d,pr,we,po,tg⟩⟩:=x
 obtain ⟨⟨⟨hn,hnc,hns⟩,hty,hcl⟩,⟨hd,hdc,hdl⟩,⟨ht,htc,hts⟩,httl,hpr,hwe,hpo⟩:=h
 simp only [RR.qr] at hn hnc hns hty hcl hd hdc hdl ht htc hts httl hpr hwe hpo
 have H1:=Lib.hid hn
 have H2:=Lib.hid ht
 have hb0:∀ o:Obj,Below w.heap.size w (w.alloc o):=fun o=>(Below.refl _ w).alloc (Nat.le_refl _) o
 have V1:∀ w2,Below (w.alloc (.cells (RR.cells ⟨A,c,dA,dc,tA,tc,⟨⟨nm,ty,cl⟩,ttl,d,pr,we,po,tg⟩⟩).toArray 42)).heap.size (w.alloc (.cells (RR.cells ⟨A,c,dA,dc,tA,tc,⟨⟨nm,ty,cl⟩,ttl,d,pr,we,po,tg⟩⟩).toArray 42)) w2→_:=fun w2 hb2=>(Vx.below (Vx.new w 42 (RR.cells ⟨A,c,dA,dc,tA,tc,⟨⟨nm,ty,cl⟩,ttl,d,pr,we,po,tg⟩⟩)) hb2 (by simp)).c9
 have VX:=Lib.hid V1
 clear hn ht hd V1
 by_cases hrn:rightN nm=true
 ·by_cases h33:ty=33
  ·subst h33
   by_cases hd0:d.length=0
   ·have hR:rightR ⟨⟨nm,33,cl⟩,ttl,d,pr,we,po,tg⟩=rightN tg:=by unfold rightR;rw [if_pos hrn,if_pos rfl,if_pos hd0]
    rw [hR]
    have hd0':((d.length:Int) == 0)=true:=by simp [hd0]
    unfold RR.cells at VX ⊢
    simp only at VX ⊢
    clear hR hd0
    go_enter Tryz.func54,Tryz.ntmps54
    go_wp2_with (first
     | (go_at_call 53
        refine (rright_any tA tc tg w2 ((H2.out.below hB2).more hB2.size) hts).mono ?_
        rintro e w3 ⟨rfl,hb3⟩)
     | (go_at_call 53
        refine (rright_any A c nm _ (H1.out.alloc_top' _) hns).mono ?_
        rw [hrn]
        rintro e w2 ⟨rfl,hb2⟩
        obtain ⟨c0,c1,c2,c3,c4,c5,c6,c7,c8⟩:=VX.out w2 hb2
        have hB2:Below w.heap.size w w2:=(hb0 _).trans (hb2.mono (hb0 _).size)))
    go_ret
    exact ⟨rfl,hB2.trans (hb3.mono hB2.size)⟩
   ·have hR:rightR ⟨⟨nm,33,cl⟩,ttl,d,pr,we,po,tg⟩=false:=by unfold rightR;rw [if_pos hrn,if_pos rfl,if_neg hd0]
    rw [hR]
    have hd0':((d.length:Int) == 0)=false:=by rw [beq_eq_false_iff_ne];omega
    unfold RR.cells at VX ⊢
    simp only at VX ⊢
    clear hR hd0
    go_enter Tryz.func54,Tryz.ntmps54
    go_wp2_with (first
     | (go_at_call 53
        refine (rright_any A c nm _ (H1.out.alloc_top' _) hns).mono ?_
        rw [hrn]
        rintro e w2 ⟨rfl,hb2⟩
        obtain ⟨c0,c1,c2,c3,c4,c5,c6,c7,c8⟩:=VX.out w2 hb2
        have hB2:Below w.heap.size w w2:=(hb0 _).trans (hb2.mono (hb0 _).size)))
    go_ret
    exact ⟨rfl,hB2⟩
  ·obtain ⟨b1,hb1⟩:∃ b,b=decide (d.length≤4096):=⟨_,rfl⟩
   obtain ⟨b2,hb2⟩:∃ b,b=decide (pr=0):=⟨_,rfl⟩
   obtain ⟨b3,hb3⟩:∃ b,b=decide (we=0):=⟨_,rfl⟩
   obtain ⟨b4,hb4⟩:∃ b,b=decide (po=0):=⟨_,rfl⟩
   obtain ⟨b5,hb5⟩:∃ b,b=decide (tg.length=0):=⟨_,rfl⟩
   have hR:rightR ⟨⟨nm,ty,cl⟩,ttl,d,pr,we,po,tg⟩=(b1 && (b2 && (b3 && (b4 && b5)))):=by
    unfold rightR
    rw [if_pos hrn,if_neg h33,hb1,hb2,hb3,hb4,hb5]
    rw [Bool.eq_iff_iff]
    simp only [Bool.and_eq_true,decide_eq_true_iff]
   rw [hR]
   have e1:decide ((d.length:Int)≤4096)=b1:=by rw [hb1,Bool.eq_iff_iff,decide_eq_true_iff,decide_eq_true_iff];omega
   have e2:((pr:Int) == 0)=b2:=by rw [hb2,Bool.eq_iff_iff,beq_iff_eq,decide_eq_true_iff];omega
   have e3:((we:Int) == 0)=b3:=by rw [hb3,Bool.eq_iff_iff,beq_iff_eq,decide_eq_true_iff];omega
   have e4:((po:Int) == 0)=b4:=by rw [hb4,Bool.eq_iff_iff,beq_iff_eq,decide_eq_true_iff];omega
   have e5:((tg.length:Int) == 0)=b5:=by rw [hb5,Bool.eq_iff_iff,beq_iff_eq,decide_eq_true_iff];omega
   have h33':((ty:Int) == 33)=false:=by rw [beq_eq_false_iff_ne];omega
   unfold RR.cells at VX ⊢
   simp only at VX ⊢
   clear hR hb1 hb2 hb3 hb4 hb5
   go_enter Tryz.func54,Tryz.ntmps54
   go_wp2_with (first
    | (go_at_call 53
       refine (rright_any A c nm _ (H1.out.alloc_top' _) hns).mono ?_
       rw [hrn]
       rintro e w2 ⟨rfl,hb2⟩
       obtain ⟨c0,c1,c2,c3,c4,c5,c6,c7,c8⟩:=VX.out w2 hb2
       have hB2:Below w.heap.size w w2:=(hb0 _).trans (hb2.mono (hb0 _).size)))
   all_goals go_ret
   all_goals refine ⟨ret_bool ?_,hB2⟩
   all_goals clear VX H1 H2 hB2 hb2 hb0 c0 c1 c2 c3 c4 c5 c6 c7 c8 e1 e2 e3 e4 e5
   all_goals simp_all
 ·have hrn':rightN nm=false:=by simpa using hrn
  have hR:rightR ⟨⟨nm,ty,cl⟩,ttl,d,pr,we,po,tg⟩=false:=by unfold rightR;rw [if_neg hrn]
  rw [hR]
  unfold RR.cells at VX ⊢
  simp only at VX ⊢
  clear hR
  go_enter Tryz.func54,Tryz.ntmps54
  go_wp2_with (first
   | (go_at_call 53
      refine (rright_any A c nm _ (H1.out.alloc_top' _) hns).mono ?_
      rw [hrn']
      rintro e w2 ⟨rfl,hb2⟩))
  go_ret
  exact ⟨rfl,(hb0 _).trans (hb2.mono (hb0 _).size)⟩
set_option maxRecDepth 100000 in
set_option maxHeartbeats 400000 in
theorem ftwo_at (v:Value) (b:List UInt8) (base n:Nat) (w:World) (hO:Ow w base 5 v (bc b)) (hn:n<65536) (hB:base≤w.heap.size) (hs:b.length≤1000000000000) :
 Calls Tryz.prog 55 #[v,.int .i64 (n:Int)] w fun e w'=>∃ v',e = .returned v'∧Ow w' base 5 v' (bc (b++two n))∧Gr w w' v v':=by
 obtain ⟨i0,hi,hz0,hz1,hz2⟩:=info_parts Tryz.infoByte
 obtain ⟨q,hq⟩:∃ q,q=n / 256:=⟨_,rfl⟩
 obtain ⟨r,hr⟩:∃ r,r=n % 256:=⟨_,rfl⟩
 have k1:(n:Int).tdiv 256=(q:Int):=by rw [Int.tdiv_eq_ediv_of_nonneg (by omega)];omega
 have k2:(n:Int) / 256=(q:Int):=by omega
 have k3:(n:Int).tmod 256=(r:Int):=by rw [Int.tmod_eq_emod_of_nonneg (by omega)];omega
 have k4:(n:Int) % 256=(r:Int):=by omega
 have k5:IntKind.u8.wrap (q:Int)=(q:Int):=by rw [IntKind.wrap_u8];omega
 have k6:IntKind.u8.wrap (r:Int)=(r:Int):=by rw [IntKind.wrap_u8];omega
 have hbt:bc (two n)=[.int .u8 (q:Int),.int .u8 (r:Int)]:=by rw [bc_two n hn,k2,k4]
 have HO:=Lib.hid hO
 have HBT:=Lib.hid hbt
 clear hO hq hr hbt
 go_enter Tryz.func55,Tryz.ntmps55
 go_wp2_with (at_builtin;refine wpList_app _ rfl _ _ _ _ rfl base 5 i0 (.int .u8 0) 1 Tryz.underlying22 hi hz0 hz1 hz2 rfl (Nat.le_refl _) _ _ (HO.out.alloc _) rfl 2 [.int .u8 (q:Int),.int .u8 (r:Int)] (lit_src Tryz.underlying22 _ _ 2 rfl (by simp [maxLen]) (by simp;exact ⟨rfl,rfl⟩)) (by simp;omega) (by simp;omega) ?_;intro v2 w2 hown2 hgr2 hsz2)
 go_ret
 exact ⟨v2,rfl,by rw [bc_app,HBT.out];exact hown2,(Gr.refl w v).alloc _ |>.trans hgr2⟩
theorem app_len (b:List UInt8) (known:List Int) (n:List (List UInt8)) (hr:rightN n=true):(appN b known n).length≤b.length+600:=by
 have h1:=(app_reads b known n hr).2.2.1
 have h2:=size_right hr
 omega
set_option maxRecDepth 100000 in
set_option maxHeartbeats 4000000 in
theorem fasked_at (A1 A2:Option Addr) (c1 c2 L1 L2:Nat) (b:List UInt8) (known:List Int) (x:QR) (w:World) (hL1:b.length=L1) (hL2:known.length=L2) (h1:Rd w w.heap.size A1 L1 (bc b)) (hc1:L1≤c1) (hb:L1≤100000000) (h2:Rd w w.heap.size A2 L2 (ic known)) (hk:L2≤100000000) (hx:QRd w w.heap.size x) (hr:rightN x.q.nm=true) :
 Calls Tryz.prog 56 #[.slice A1 L1 c1,.slice A2 L2 c2,.agg x.cells.toArray] w fun e w'=>∃ v,e = .returned v∧Ow w' w.heap.size 5 v (bc (askB (b,known) x.q).1)∧Below w.heap.size w w':=by
 obtain ⟨A,c,⟨nm,ty,cl⟩⟩:=x
 obtain ⟨⟨hn,hnc,hns⟩,hty,hcl⟩:=hx
 simp only at hn hnc hns hty hcl hr
 have V1:Vx (w.alloc (.cells #[.slice A nm.length c,.int .u16 (ty:Int),.int .u16 (cl:Int)] 40)) w.heap.size 40 [.slice A nm.length c,.int .u16 (ty:Int),.int .u16 (cl:Int)]:=Vx.new w _ _
 have hb1:=below_new w (.cells #[.slice A nm.length c,.int .u16 (ty:Int),.int .u16 (cl:Int)] 40)
 have K1:=Lib.hid (rapp_ok A1 A2 A c1 c2 c L1 L2 nm.length b known nm (w.alloc (.cells #[.slice A nm.length c,.int .u16 (ty:Int),.int .u16 (cl:Int)] 40)) hL1 hL2 rfl ((h1.below hb1).more hb1.size) hc1 (by omega) ((h2.below hb1).more hb1.size) (by omega) ((hn.below hb1).more hb1.size) hnc hr)
 have hlen:=app_len b known nm hr
 rw [hL1] at hlen
 obtain ⟨P,hP⟩:∃ P,P=appN b known nm:=⟨_,rfl⟩
 rw [←hP] at K1 hlen
 have HP:=Lib.hid hP
 have VX:=Lib.hid V1
 have HB1:=Lib.hid hb1
 clear h1 h2 hn V1 hb1 hP hL1 hL2
 unfold QR.cells
 simp only
 go_enter Tryz.func56,Tryz.ntmps56
 go_upto_region 2 with (go_at_call 104
                        refine K1.out.mono ?_
                        rintro e w2 ⟨v2,rfl,ho2,hb2⟩)
 have hT:w.heap.size<(w.alloc (.cells #[.slice A nm.length c,.int .u16 (ty:Int),.int .u16 (cl:Int)] 40)).heap.size:=VX.out.lt
 obtain ⟨B,hB⟩:∃ B,B=(w.alloc (.cells #[.slice A nm.length c,.int .u16 (ty:Int),.int .u16 (cl:Int)] 40)).heap.size:=⟨_,rfl⟩
 rw [←hB] at hT
 have vq2:=Lib.hid (VX.out.below hb2 VX.out.lt)
 have hb02:=HB1.out.trans (hb2.mono HB1.out.size)
 have hB2:B≤w2.heap.size:=by rw [hB];exact hb2.size
 rw [←hB] at ho2
 obtain ⟨q0,q1,q2⟩:=vq2.out.c3
 have HO2:=Lib.hid ho2
 have HB02:=Lib.hid hb02
 clear K1 ho2 hb2 hb02 hB
 have kw1:IntKind.i64.wrap (ty:Int)=(ty:Int):=by rw [IntKind.wrap_i64];omega
 have kw2:IntKind.i64.wrap (cl:Int)=(cl:Int):=by rw [IntKind.wrap_i64];omega
 refine wp_region_held_drew (S:=fun w'=>w'.cell? ⟨w.heap.size,0,none⟩=some (.slice A nm.length c)∧w'.cell? ⟨w.heap.size,1,none⟩=some (.int .u16 (ty:Int))∧w'.cell? ⟨w.heap.size,2,none⟩=some (.int .u16 (cl:Int))) (by kernel_rfl) ⟨q0,q1,q2⟩ (fun hH=>?_)
 clear q0 q1 q2
 refine reg_take 0 (v:=?_) rfl (by kernel_rfl) (fun _ _ _ h=>h) (by rfl) hH ?_ ?_
 rotate_left
 ·intro w hSw;(try dsimp only at hSw);go_simp;(try with_reducible rfl)
 (try simp only [Act.put,List.setIfInBounds_toArray,List.set_cons_zero,List.set_cons_succ])
 refine reg_take 1 (v:=?_) rfl (by kernel_rfl) (fun _ _ _ h=>h) (by rfl) hH ?_ ?_
 rotate_left
 ·intro w hSw;(try dsimp only at hSw);go_simp;(try with_reducible rfl)
 (try simp only [Act.put,List.setIfInBounds_toArray,List.set_cons_zero,List.set_cons_succ])
 refine reg_take 2 (v:=?_) rfl (by kernel_rfl) (fun _ _ _ h=>h) (by rfl) hH ?_ ?_
 rotate_left
 ·intro w hSw;(try dsimp only at hSw);go_simp;(try with_reducible rfl)
 (try simp only [Act.put,List.setIfInBounds_toArray,List.set_cons_zero,List.set_cons_succ])
 refine reg_take 3 (v:=?_) rfl (by kernel_rfl) (fun _ _ _ h=>h) (by rfl) hH ?_ ?_
 rotate_left
 ·intro w hSw;(try dsimp only at hSw);go_simp;(try with_reducible rfl)
 (try simp only [Act.put,List.setIfInBounds_toArray,List.set_cons_zero,List.set_cons_succ])
 refine reg_take 5 (v:=?_) rfl (by kernel_rfl) (fun _ _ _ h=>h) (by rfl) hH ?_ ?_
 rotate_left
 ·intro w hSw;(try dsimp only at hSw);go_simp;(try with_reducible rfl)
 (try simp only [Act.put,List.setIfInBounds_toArray,List.set_cons_zero,List.set_cons_succ])
 refine reg_take 6 (v:=?_) rfl (by kernel_rfl) (fun _ _ _ h=>h) (by rfl) hH ?_ ?_
 rotate_left
 ·intro w hSw;(try dsimp only at hSw);go_simp;(try with_reducible rfl)
 (try simp only [Act.put,List.setIfInBounds_toArray,List.set_cons_zero,List.set_cons_succ])
 refine reg_take 7 (v:=?_) rfl (by kernel_rfl) (fun _ _ _ h=>h) (by rfl) hH ?_ ?_
 rotate_left
 ·intro w hSw;(try dsimp only at hSw);go_simp;(try with_reducible rfl)
 (try simp only [Act.put,List.setIfInBounds_toArray,List.set_cons_zero,List.set_cons_succ])
 refine wpAnyH_ready (rs:=[4]) (by kernel_rfl) (by simp) ?_
 refine reg_cons _ rfl (fun K' hK=>?_) AllReadyH.nil
 go_simp
 go_at_call 55
 refine (ftwo_at v2 P B ty w2.drew HO2.out.drew hty hB2 (by omega)).mono ?_
 rintro e w3 ⟨v3,rfl,ho3,hg3⟩
 have hb3:Below B w2.drew w3:=hg3.below (fun g hg=>(OwM.lt (show OwM w2.drew B 5 1 _ _ _ from HO2.out) g hg)) hB2
 have v3':=Lib.hid ((vq2.out.drew).below hb3 hT)
 have hB3:B≤w3.heap.size:=Nat.le_trans hB2 hb3.size
 (try dsimp only)
 refine hK.out _ _ v3'.out.c3 (fun hH=>?_)
 (try simp only [Act.put,List.setIfInBounds_toArray,List.set_cons_zero,List.set_cons_succ])
 clear hK
 refine wpAnyH_ready (rs:=[8]) (by kernel_rfl) (by simp) ?_
 refine reg_cons _ rfl (fun K' hK=>?_) AllReadyH.nil
 go_simp
 go_at_call 55
 refine (ftwo_at v3 (P++two ty) B cl w3 ho3 hcl hB3 (by simp;omega)).mono ?_
 rintro e w4 ⟨v4,rfl,ho4,hg4⟩
 have hb4:Below B w3 w4:=hg4.below (fun g hg=>(OwM.lt (show OwM w3 B 5 1 _ _ _ from ho3) g hg)) hB3
 have v4':=Lib.hid ((v3'.out).below hb4 hT)
 (try dsimp only)
 refine hK.out _ _ v4'.out.c3 (fun hH=>?_)
 (try simp only [Act.put,List.setIfInBounds_toArray,List.set_cons_zero,List.set_cons_succ])
 clear hK
 refine reg_take 9 (v:=?_) rfl (by kernel_rfl) (fun _ _ _ h=>h) (by rfl) hH ?_ ?_
 rotate_left
 ·intro w hSw;(try dsimp only at hSw);go_simp;(try with_reducible rfl)
 (try simp only [Act.put,List.setIfInBounds_toArray,List.set_cons_zero,List.set_cons_succ])
 refine wpAnyH_done (by kernel_rfl) ?_ _
 go_wp2_with fail
 go_ret
 refine ⟨v4,rfl,?_,?_⟩
 ·rw [HP.out] at ho4
  exact OwM.mono ho4 (by omega)
 ·exact HB02.out.trans ((((Below.refl B w2).drew.trans hb3).trans hb4).mono (by omega))
set_option maxRecDepth 100000 in
set_option maxHeartbeats 4000000 in
theorem fdata_at (x:RR) (w:World) (h:RRd w w.heap.size x) (hr:rightR x.r=true) :
 Calls Tryz.prog 57 #[.agg x.cells.toArray] w fun e w'=>∃ A c,e = .returned (.slice A (dataR x.r).length c)∧(dataR x.r).length≤c∧Rd w' w'.heap.size A (dataR x.r).length (bc (dataR x.r))∧Below w.heap.size w w'∧((A=x.dA∧dataR x.r=x.r.d)∨∀ a,A=some a→w.heap.size≤a.block):=by
 obtain ⟨A,c,dA,dc,tA,tc,⟨⟨nm,ty,cl⟩,ttl,d,pr,we,po,tg⟩⟩:=x
 obtain ⟨⟨⟨hn,hnc,hns⟩,hty,hcl⟩,⟨hd,hdc,hdl⟩,⟨ht,htc,hts⟩,httl,hpr,hwe,hpo⟩:=h
 simp only [RR.qr] at hn hnc hns hty hcl hd hdc hdl ht htc hts httl hpr hwe hpo
 simp only at hr
 obtain ⟨i0,hi,hz0,hz1,hz2⟩:=info_parts Tryz.infoByte
 have H2:=Lib.hid ht
 have H3:=Lib.hid hd
 have hb0:∀ o:Obj,Below w.heap.size w (w.alloc o):=fun o=>(Below.refl _ w).alloc (Nat.le_refl _) o
 clear hn ht hd
 unfold RR.cells
 simp only
 by_cases h33:ty=33
 ·subst h33
  have htr:rightN tg=true:=by
   simp [rightR] at hr
   exact hr.2.2
  have hfl:=form_len htr
  have hD:dataR ⟨⟨nm,33,cl⟩,ttl,d,pr,we,po,tg⟩=two pr++two we++two po++formN tg:=by simp [dataR]
  rw [hD]
  obtain ⟨DL,hDL⟩:∃ DL,DL=(two pr++two we++two po++formN tg).length:=⟨_,rfl⟩
  rw [←hDL]
  have HDL:=Lib.hid hDL
  clear hr hD hDL
  have hT:=(Vx.new w 42 [.slice A nm.length c,.int .u16 33,.int .u16 (cl:Int),.int .u32 (ttl:Int),.slice dA d.length dc,.int .u16 (pr:Int),.int .u16 (we:Int),.int .u16 (po:Int),.slice tA tg.length tc]).lt
  have K1:=Lib.hid (rform_ok tA tc tg (w.alloc (.cells #[.slice A nm.length c,.int .u16 33,.int .u16 (cl:Int),.int .u32 (ttl:Int),.slice dA d.length dc,.int .u16 (pr:Int),.int .u16 (we:Int),.int .u16 (po:Int),.slice tA tg.length tc] 42)) ((H2.out.below (hb0 _)).more (hb0 _).size) htr)
  go_enter Tryz.func57,Tryz.ntmps57
  go_upto_region 4 with (go_at_call 105
                         refine K1.out.mono ?_
                         rintro e w2 ⟨vf,rfl,hof,hb2⟩)
  have vq:=Lib.hid ((Vx.new w 42 [.slice A nm.length c,.int .u16 33,.int .u16 (cl:Int),.int .u32 (ttl:Int),.slice dA d.length dc,.int .u16 (pr:Int),.int .u16 (we:Int),.int .u16 (po:Int),.slice tA tg.length tc]).below hb2 hT)
  have hB02:Below w.heap.size w w2:=(hb0 _).trans (hb2.mono (hb0 _).size)
  obtain ⟨Af,cf,rfl,hcf,hrf⟩:=hof.form6 _ (bc_length _)
  have HFm:=Lib.hid hrf
  have HB02:=Lib.hid hB02
  have hszT:w.heap.size<w2.heap.size:=vq.out.lt
  have kw1:IntKind.i64.wrap (pr:Int)=(pr:Int):=by rw [IntKind.wrap_i64];omega
  have kw2:IntKind.i64.wrap (we:Int)=(we:Int):=by rw [IntKind.wrap_i64];omega
  have kw3:IntKind.i64.wrap (po:Int)=(po:Int):=by rw [IntKind.wrap_i64];omega
  clear K1 hof hrf hB02 hb2
  refine wp_region_held_drew (S:=fun w'=>w'.cell? ⟨w.heap.size,0,none⟩=some (.slice A nm.length c)∧w'.cell? ⟨w.heap.size,1,none⟩=some (.int .u16 33)∧w'.cell? ⟨w.heap.size,2,none⟩=some (.int .u16 (cl:Int))∧w'.cell? ⟨w.heap.size,3,none⟩=some (.int .u32 (ttl:Int))∧w'.cell? ⟨w.heap.size,4,none⟩=some (.slice dA d.length dc)∧w'.cell? ⟨w.heap.size,5,none⟩=some (.int .u16 (pr:Int))∧w'.cell? ⟨w.heap.size,6,none⟩=some (.int .u16 (we:Int))∧w'.cell? ⟨w.heap.size,7,none⟩=some (.int .u16 (po:Int))∧w'.cell? ⟨w.heap.size,8,none⟩=some (.slice tA tg.length tc)) (by kernel_rfl) vq.out.c9 (fun hH=>?_)
  refine reg_take 0 (v:=?_) rfl (by kernel_rfl) (fun _ _ _ h=>h) (by rfl) hH ?_ ?_
  rotate_left
  ·intro w hSw;(try dsimp only at hSw);go_simp;(try with_reducible rfl)
  (try simp only [Act.put,List.setIfInBounds_toArray,List.set_cons_zero,List.set_cons_succ])
  refine reg_take 1 (v:=?_) rfl (by kernel_rfl) (fun _ _ _ h=>h) (by rfl) hH ?_ ?_
  rotate_left
  ·intro w hSw;(try dsimp only at hSw);go_simp;(try with_reducible rfl)
  (try simp only [Act.put,List.setIfInBounds_toArray,List.set_cons_zero,List.set_cons_succ])
  refine reg_take 2 (v:=?_) rfl (by kernel_rfl) (fun _ _ _ h=>h) (by rfl) hH ?_ ?_
  rotate_left
  ·intro w hSw;(try dsimp only at hSw);go_simp;(try with_reducible rfl)
  (try simp only [Act.put,List.setIfInBounds_toArray,List.set_cons_zero,List.set_cons_succ])
  refine reg_take 4 (v:=?_) rfl (by kernel_rfl) (fun _ _ _ h=>h) (by rfl) hH ?_ ?_
  rotate_left
  ·intro w hSw;(try dsimp only at hSw);go_simp;(try with_reducible rfl)
  (try simp only [Act.put,List.setIfInBounds_toArray,List.set_cons_zero,List.set_cons_succ])
  refine reg_take 5 (v:=?_) rfl (by kernel_rfl) (fun _ _ _ h=>h) (by rfl) hH ?_ ?_
  rotate_left
  ·intro w hSw;(try dsimp only at hSw);go_simp;(try with_reducible rfl)
  (try simp only [Act.put,List.setIfInBounds_toArray,List.set_cons_zero,List.set_cons_succ])
  refine reg_take 6 (v:=?_) rfl (by kernel_rfl) (fun _ _ _ h=>h) (by rfl) hH ?_ ?_
  rotate_left
  ·intro w hSw;(try dsimp only at hSw);go_simp;(try with_reducible rfl)
  (try simp only [Act.put,List.setIfInBounds_toArray,List.set_cons_zero,List.set_cons_succ])
  refine reg_take 8 (v:=?_) rfl (by kernel_rfl) (fun _ _ _ h=>h) (by rfl) hH ?_ ?_
  rotate_left
  ·intro w hSw;(try dsimp only at hSw);go_simp;(try with_reducible rfl)
  (try simp only [Act.put,List.setIfInBounds_toArray,List.set_cons_zero,List.set_cons_succ])
  refine reg_take 9 (v:=?_) rfl (by kernel_rfl) (fun _ _ _ h=>h) (by rfl) hH ?_ ?_
  rotate_left
  ·intro w hSw;(try dsimp only at hSw);go_simp;(try with_reducible rfl)
  (try simp only [Act.put,List.setIfInBounds_toArray,List.set_cons_zero,List.set_cons_succ])
  refine reg_take 10 (v:=?_) rfl (by kernel_rfl) (fun _ _ _ h=>h) (by rfl) hH ?_ ?_
  rotate_left
  ·intro w hSw;(try dsimp only at hSw);go_simp;(try with_reducible rfl)
  (try simp only [Act.put,List.setIfInBounds_toArray,List.set_cons_zero,List.set_cons_succ])
  refine reg_take 12 (v:=?_) rfl (by kernel_rfl) (fun _ _ _ h=>h) (by rfl) hH ?_ ?_
  rotate_left
  ·intro w hSw;(try dsimp only at hSw);go_simp;(try with_reducible rfl)
  (try simp only [Act.put,List.setIfInBounds_toArray,List.set_cons_zero,List.set_cons_succ])
  refine wpAnyH_ready (rs:=[3]) (by kernel_rfl) (by simp) ?_
  refine reg_cons _ rfl (fun K' hK=>?_) AllReadyH.nil
  go_simp
  go_at_call 55
  refine (ftwo_at (.slice none 0 0) [] w2.heap.size pr w2.drew (Ow.nil _ _ _) hpr (Nat.le_refl _) (by simp)).mono ?_
  rintro e w3 ⟨vw3,rfl,how3,hgw3⟩
  have hbw3':Below w2.heap.size w2.drew w3:=(hgw3.below0).mono (Nat.le_refl _)
  have hbw3:Below w2.heap.size w2 w3:=(Below.refl w2.heap.size w2).drew.trans hbw3'
  have hsw3:w2.heap.size≤w3.heap.size:=hbw3.size
  (try dsimp only)
  refine hK.out _ _ (vq.out.below hbw3 hszT).c9 (fun hH=>?_)
  (try simp only [Act.put,List.setIfInBounds_toArray,List.set_cons_zero,List.set_cons_succ])
  clear hK
  refine wpAnyH_ready (rs:=[7]) (by kernel_rfl) (by simp) ?_
  refine reg_cons _ rfl (fun K' hK=>?_) AllReadyH.nil
  go_simp
  go_at_call 55
  refine (ftwo_at vw3 ([]++two pr) w2.heap.size we w3 how3 hwe (hsw3) (by simp)).mono ?_
  rintro e w4 ⟨vw4,rfl,how4,hgw4⟩
  have hbw4':Below w2.heap.size w3 w4:=hgw4.below (fun g hg=>OwM.lt (show OwM w3 w2.heap.size 5 1 _ _ _ from how3) g hg) hsw3
  have hbw4:Below w2.heap.size w2 w4:=hbw3.trans hbw4'
  have hsw4:w2.heap.size≤w4.heap.size:=hbw4.size
  (try dsimp only)
  refine hK.out _ _ (vq.out.below hbw4 hszT).c9 (fun hH=>?_)
  (try simp only [Act.put,List.setIfInBounds_toArray,List.set_cons_zero,List.set_cons_succ])
  clear hK
  refine wpAnyH_ready (rs:=[11]) (by kernel_rfl) (by simp) ?_
  refine reg_cons _ rfl (fun K' hK=>?_) AllReadyH.nil
  go_simp
  go_at_call 55
  refine (ftwo_at vw4 ([]++two pr++two we) w2.heap.size po w4 how4 hpo (hsw4) (by simp)).mono ?_
  rintro e w5 ⟨vw5,rfl,how5,hgw5⟩
  have hbw5':Below w2.heap.size w4 w5:=hgw5.below (fun g hg=>OwM.lt (show OwM w4 w2.heap.size 5 1 _ _ _ from how4) g hg) hsw4
  have hbw5:Below w2.heap.size w2 w5:=hbw4.trans hbw5'
  have hsw5:w2.heap.size≤w5.heap.size:=hbw5.size
  (try dsimp only)
  refine hK.out _ _ (vq.out.below hbw5 hszT).c9 (fun hH=>?_)
  (try simp only [Act.put,List.setIfInBounds_toArray,List.set_cons_zero,List.set_cons_succ])
  clear hK
  refine wpAnyH_ready (rs:=[13]) (by kernel_rfl) (by simp) ?_
  refine reg_cons _ rfl (fun K' hK=>?_) AllReadyH.nil
  refine step_app _ rfl _ _ _ _ rfl w2.heap.size 5 i0 (.int .u8 0) 1 Tryz.underlying22 hi hz0 hz1 hz2 rfl (Nat.le_refl _) _ _ how5 rfl (.slice Af (formN tg).length cf) rfl (formN tg).length (bc (formN tg)) ((HFm.out.goes hbw5).src Tryz.underlying22 (bc_one _)) (by simp;omega) hsw5 ?_
  intro v6 w6 how6 hgw6 hsw6
  rw [←bc_app,List.nil_append] at how6
  obtain ⟨A6,c6,rfl,hc6,hr6⟩:=how6.form6 DL (by rw [bc_length,HDL.out])
  have hb6:Below w2.heap.size w2 w6:=hbw5.trans (hgw6.below (fun g hg=>OwM.lt (show OwM w5 w2.heap.size 5 1 _ _ _ from how5) g hg) hsw5)
  refine hK.out _ _ (vq.out.below hb6 hszT).c9 (fun hH=>?_)
  (try simp only [Act.put,List.setIfInBounds_toArray,List.set_cons_zero,List.set_cons_succ])
  clear hK
  refine reg_take 14 (v:=?_) rfl (by kernel_rfl) (fun _ _ _ h=>h) (by rfl) hH ?_ ?_
  rotate_left
  ·intro w hSw;(try dsimp only at hSw);go_simp;(try with_reducible rfl)
  (try simp only [Act.put,List.setIfInBounds_toArray,List.set_cons_zero,List.set_cons_succ])
  refine wpAnyH_done (by kernel_rfl) ?_ _
  go_wp2_with fail
  go_ret
  exact ⟨A6,c6,rfl,hc6,hr6,HB02.out.trans (hb6.mono HB02.out.size),Or.inr (fun a ha=>by subst ha;exact Nat.le_trans HB02.out.size (how6.lt a.block rfl))⟩
 ·have hD:dataR ⟨⟨nm,ty,cl⟩,ttl,d,pr,we,po,tg⟩=d:=by simp [dataR,h33]
  rw [hD]
  clear hr hD
  have h33':((ty:Int) != 33)=true:=by rw [bne_iff_ne];omega
  go_enter Tryz.func57,Tryz.ntmps57
  go_wp2_with fail
  go_ret
  exact ⟨dA,dc,rfl,hdc,H3.out.alloc_top' _,hb0 _,Or.inl (by simp)⟩
def cntM (x:MR):Nat→Nat
 | 0=>x.qs.length
 | i+1=>cntM x i+(x.rl i).length
theorem cntM_num (x:MR):cntM x 3=x.m.num:=by simp [cntM,Ms.num,MR.m,MR.rl]
theorem right_all {x:MR} (hq:∀ q∈x.qs,rightN q.q.nm=true) (hr:∀ i,i<3→∀ r∈x.rl i,rightR r.r=true):rightM x.m=true:=by
 have h0:=hr 0 (by omega)
 have h1:=hr 1 (by omega)
 have h2:=hr 2 (by omega)
 simp only [MR.rl] at h0 h1 h2
 simp only [rightM,MR.m,Bool.and_eq_true,List.all_map,List.all_eq_true]
 exact ⟨hq,h0,h1,h2⟩
theorem wr_bad {m:Ms} (h:rightM m=false):writeM m=([],170):=by unfold writeM;rw [if_pos h]
theorem bad_q {x:MR} {q:QR} (hq:q∈x.qs) (h:rightN q.q.nm=false):writeM x.m=([],170):=wr_bad (by
 cases hR:rightM x.m with
 | false=>rfl
 | true=>rw [(resW hR).1 q hq] at h;cases h)
theorem bad_r {x:MR} {i:Nat} {r:RR} (hr:r∈x.rl i) (h:rightR r.r=false):writeM x.m=([],170):=wr_bad (by
 cases hR:rightM x.m with
 | false=>rfl
 | true=>
   have h3:=resW hR
   have:rightR r.r=true:=by
    match i,hr with
    | 0,hr=>exact h3.2.1 r hr
    | 1,hr=>exact h3.2.2.1 r hr
    | k+2,hr=>exact h3.2.2.2 r hr
   rw [this] at h;cases h)
def hdB (x:MR):Nat→List UInt8
 | 0=>[]++two x.id++two x.fl++two x.qs.length
 | i+1=>hdB x i++two (x.rl i).length
theorem hdB_head (x:MR):hdB x 3=headB x.m:=by simp [hdB,headB,twos,MR.m,MR.rl]
theorem hdB_len (x:MR):∀ i,(hdB x i).length=6+2*i
 | 0=>by simp [hdB]
 | i+1=>by rw [hdB,List.length_append,hdB_len x i];simp;omega
def stW (x:MR):Nat→Wr
 | 0=>qsB (headB x.m,[]) (x.qs.map QR.q)
 | i+1=>rsB (stW x i) ((x.rl i).map RR.r)
theorem stW_body (x:MR):stW x 3=bodyB x.m:=rfl
theorem qs_more (s:Wr) (l:List Qn) (k:Nat) (hl:∀ q∈l,rightN q.nm=true):Pre (qsB s (l.take k)).1 (qsB s l).1:=by
 have h:=qs_pre (qsB s (l.take k)) (l.drop k) (fun q hq=>hl q (List.mem_of_mem_drop hq))
 have e:qsB (qsB s (l.take k)) (l.drop k)=qsB s l:=by
  unfold qsB
  rw [←List.foldl_append,List.take_append_drop]
 rwa [e] at h
theorem rs_more (s:Wr) (l:List Rc) (k:Nat) (hl:∀ q∈l,rightR q=true):Pre (rsB s (l.take k)).1 (rsB s l).1:=by
 have h:=rs_pre (rsB s (l.take k)) (l.drop k) (fun q hq=>hl q (List.mem_of_mem_drop hq))
 have e:rsB (rsB s (l.take k)) (l.drop k)=rsB s l:=by
  unfold rsB
  rw [←List.foldl_append,List.take_append_drop]
 rwa [e] at h
theorem rl_right {x:MR} (hR:rightM x.m=true) (i:Nat):∀ r∈(x.rl i).map RR.r,rightR r=true:=by
 intro r hr
 obtain ⟨y,hy,rfl⟩:=List.mem_map.1 hr
 have h3:=resW hR
 match i,hy with
 | 0,hy=>exact h3.2.1 y hy
 | 1,hy=>exact h3.2.2.1 y hy
 | k+2,hy=>exact h3.2.2.2 y hy
theorem stW_pre {x:MR} (hR:rightM x.m=true) (i:Nat):∀ d,Pre (stW x i).1 (stW x (i+d)).1
 | 0=>Pre.refl _
 | d+1=>(stW_pre hR i d).trans (rs_pre _ _ (rl_right hR (i+d)))
def Cur (x:MR) (s t:Wr):Prop:=s=t∨(4096<s.1.length∧4096<(formM x.m).length)
theorem flong_q {x:MR} (hR:rightM x.m=true) {k:Nat} (h:4096<(qsB (headB x.m,[]) ((x.qs.map QR.q).take k)).1.length):4096<(formM x.m).length:=by
 have h1:=(qs_more (headB x.m,[]) (x.qs.map QR.q) k (fun q hq=>by
  obtain ⟨y,hy,rfl⟩:=List.mem_map.1 hq
  exact (resW hR).1 y hy)).len
 have h2:=(stW_pre hR 0 3).len
 have h3:(stW x (0+3)).1=formM x.m:=rfl
 rw [h3] at h2
 have h4:(stW x 0).1=(qsB (headB x.m,[]) (x.qs.map QR.q)).1:=rfl
 rw [h4] at h2
 omega
theorem flong_r {x:MR} (hR:rightM x.m=true) {i k:Nat} (hi:i<3) (h:4096<(rsB (stW x i) (((x.rl i).map RR.r).take k)).1.length):4096<(formM x.m).length:=by
 have h1:=(rs_more (stW x i) ((x.rl i).map RR.r) k (rl_right hR i)).len
 have h2:=(stW_pre hR (i+1) (3 - (i+1))).len
 have h3:(stW x (i+1+(3 - (i+1)))).1=formM x.m:=by rw [show i+1+(3 - (i+1))=3 by omega];rfl
 rw [h3] at h2
 have h4:(stW x (i+1)).1=(rsB (stW x i) ((x.rl i).map RR.r)).1:=rfl
 rw [h4] at h2
 omega
theorem Ow.rd0 {w:World} {base L c:Nat} {A:Option Addr} {b:List UInt8} (h:Ow w base 5 (.slice A L c) (bc b)) (hb:b.length=L):Rd w w.heap.size A L (bc b):=by
 have h1:OwM w base 5 1 (.slice A L c) L (bc b):=by
  have:Ow w base 5 (.slice A L c) (bc b):=h
  unfold Ow at this
  rw [bc_length,hb] at this
  exact this
 have:=h1.rd
 rwa [Nat.mul_one] at this
theorem Ow.rd0i {w:World} {base L c:Nat} {A:Option Addr} {b:List Int} (h:Ow w base 3 (.slice A L c) (ic b)) (hb:b.length=L):Rd w w.heap.size A L (ic b):=by
 have h1:OwM w base 3 1 (.slice A L c) L (ic b):=by
  have:Ow w base 3 (.slice A L c) (ic b):=h
  unfold Ow at this
  rw [ic_length,hb] at this
  exact this
 have:=h1.rd
 rwa [Nat.mul_one] at this
set_option maxRecDepth 100000 in
set_option maxHeartbeats 16000000 in
theorem fwrite_at (x:MR) (w:World) (h:MRd w w.heap.size x) :
 Calls Tryz.prog 22 #[.agg x.cells.toArray] w fun e w'=>∃ v,e = .returned (.tuple #[v,.int .i64 ((writeM x.m).2:Int)])∧Ow w' w.heap.size 5 v (bc (writeM x.m).1)∧Below w.heap.size w w':=by
 obtain ⟨i0,hi,hz0,hz1,hz2⟩:=info_parts Tryz.infoByte
 obtain ⟨j0,hj',hy0,hy1,hy2⟩:=info_parts Tryz.infoI
 obtain ⟨rr,hrr⟩:∃ rr,rr=writeM x.m:=⟨_,rfl⟩
 rw [←hrr]
 have HRR:=Lib.hid hrr
 obtain ⟨n,hn⟩:∃ n,n=x.qs.length:=⟨_,rfl⟩
 have hnb:n≤1000000000000:=by rw [hn];exact h.2.2.1.2.2.2.1
 have HN:=Lib.hid hn.symm
 have cx2:x.cells[2]? = some (.slice x.qA n x.qc):=by rw [hn];rfl
 have HX:=Lib.hid h
 obtain ⟨W1,hW1⟩:∃ W1,W1=w.alloc (.cells x.cells.toArray 47):=⟨_,rfl⟩
 have hv1:Vx W1 w.heap.size 47 x.cells:=by rw [hW1];exact Vx.new _ _ _
 have hb01:Below w.heap.size w W1:=by rw [hW1];exact below_new _ _
 have VX:=Lib.hid hv1
 have HB01:=Lib.hid hb01
 have HW1:=Lib.hid hW1
 have hT:w.heap.size<W1.heap.size:=hv1.lt
 have HFIN:=Lib.hid (fun (wr:World) (hb:Below W1.heap.size W1 wr)=>hb01.trans (hb.mono hb01.size))
 have HMR:=Lib.hid (fun (wr:World) (hb:Below W1.heap.size W1 wr)=>((h.below (hb01.trans (hb.mono hb01.size)))))
 have hcb:∀ i,(x.rl i).length≤1000000000000:=fun i=>(h.rl i).2.2.2.1
 clear h hrr hn hW1 hv1 hb01
 go_enter Tryz.func22,Tryz.ntmps22
 go_upto_region 1 with fail
 generalize hW2:World.alloc w _=W2
 have eW:W2=W1:=hW2.symm.trans HW1.out.symm
 clear hW2 HW1
 subst eW
 have m2:W2.cell? ⟨w.heap.size,2,none⟩=some (.slice x.qA n x.qc):=(VX.out.cell 2).trans cx2
 go_wp2_with fail
 clear m2
 go_loopw [5] (fun vi wr=>∃ k:Nat,k≤n∧vi = .int .i64 k∧Hid (∀ q∈x.qs.take k,rightN q.q.nm=true)∧Hid (Below W2.heap.size W2 wr)) (fun vi _=>n - (intOf vi).toNat)
 case atStart=>exact ⟨0,Nat.zero_le _,rfl,Lib.hid (fun q hq=>by cases hq),Lib.hid (Below.refl _ _)⟩
 case round=>
  obtain ⟨k,hk,rfl,HQ,HB⟩:=hrel
  have m2:wr.cell? ⟨w.heap.size,2,none⟩=some (.slice x.qA n x.qc):=((VX.out.below HB.out hT).cell 2).trans cx2
  rcases Nat.lt_or_ge k n with hlt | hge
  ·have hlx:k<x.qs.length:=by have:=HN.out;omega
   have hQ1:QsRd wr w.heap.size x.qA x.qc n x.qs:=by rw [←HN.out];exact (HMR.out wr HB.out).2.2.1
   obtain ⟨b,o,hA1,hb1,hc⟩:=hQ1.at_ hlt
   obtain ⟨c0,c1,c2⟩:=hc hlx
   have hp:=hQ1.2.2.2.2 _ (List.getElem_mem hlx)
   have hmem:=List.getElem_mem hlx
   have htk:x.qs.take (k+1)=x.qs.take k++[x.qs[k]]:=by rw [List.take_add_one,List.getElem?_eq_getElem hlx];rfl
   generalize x.qs[k]=p at *
   rw [hA1] at m2
   have hsz:=HB.out.size
   have hb1':b<wr.heap.size:=by omega
   have K:=Lib.hid (rright_any p.A p.c p.q.nm wr (hp.1.1.more (by omega)) hp.1.2.2)
   have HTK:=Lib.hid htk
   have hlt':(k:Int)<(n:Int):=by omega
   clear hc hb1 hQ1 hA1 hp htk
   cases hpr:rightN p.q.nm with
   | true=>
     rw [hpr] at K
     go_wp2_with (go_at_call 53;refine K.out.mono ?_;rintro e w2 ⟨rfl,hb2⟩)
     go_roundw
     case rel=>
      refine ⟨k+1,by omega,by go_num,Lib.hid (fun q hq=>?_),Lib.hid (HB.out.trans (hb2.mono HB.out.size))⟩
      rw [HTK.out] at hq
      rcases List.mem_append.1 hq with hq | hq
      ·exact HQ.out q hq
      ·simp at hq;subst hq;exact hpr
     case measure=>simp [intOf];omega
   | false=>
     rw [hpr] at K
     have hr1:rr=([],170):=by rw [HRR.out];exact bad_q hmem hpr
     subst hr1
     go_wp2_with (go_at_call 53;refine K.out.mono ?_;rintro e w2 ⟨rfl,hb2⟩)
     go_ret2
     exact ⟨_,rfl,Ow.nil _ _ _,HFIN.out _ (HB.out.trans (hb2.mono HB.out.size))⟩
  ·have hkn:n=k:=by omega
   subst hkn
   have hqr:∀ q∈x.qs,rightN q.q.nm=true:=fun q hq=>HQ.out q (by rw [←HN.out,List.take_length];exact hq)
   have HQR:=Lib.hid hqr
   have HB0:=HB
   clear HQ HB hqr hge hk
   go_wp2_with fail
   clear m2
   go_loopw [4,6] (fun v4 vi wr=>∃ i:Nat,i≤3∧vi = .int .i64 i∧v4 = .int .i64 (cntM x i:Int)∧Hid (∀ j,j<i→∀ r∈x.rl j,rightR r.r=true)∧Hid (Below W2.heap.size W2 wr)) (fun _ vi _=>3 - (intOf vi).toNat)
   case atStart=>exact ⟨0,by omega,rfl,by rw [←HN.out];rfl,Lib.hid (fun j hj=>by omega),HB0⟩
   case round=>
    clear HB0
    obtain ⟨i,hi3,rfl,rfl,HRI,HB⟩:=hrel
    have vbx:Vx wr w.heap.size 47 x.cells:=VX.out.below HB.out hT
    rcases Nat.lt_or_ge i 3 with hlt | hge
    ·have hi3i:(i:Int)<3:=by omega
     have hxc:x.cells[3+i]? = some (.slice (x.rA i) (x.rl i).length (x.rc i)):=by
      rcases (show i=0∨i=1∨i=2 by omega) with rfl | rfl | rfl <;> rfl
     have hcnt:cntM x (i+1)=cntM x i+(x.rl i).length:=rfl
     have hcb0:=hcb i
     have hcb1:cntM x i≤4000000000000:=by
      have h0:=hcb 0
      have h1:=hcb 1
      have hn0:=HN.out
      rcases (show i=0∨i=1∨i=2 by omega) with rfl | rfl | rfl <;> simp only [cntM] <;> omega
     obtain ⟨cn,hcn⟩:∃ cn,cn=(x.rl i).length:=⟨_,rfl⟩
     obtain ⟨ct,hct⟩:∃ ct,ct=cntM x i:=⟨_,rfl⟩
     obtain ⟨xA,hxA⟩:∃ a,a=x.rA i:=⟨_,rfl⟩
     obtain ⟨xc,hxc'⟩:∃ a,a=x.rc i:=⟨_,rfl⟩
     rw [←hcn,←hxA,←hxc'] at hxc
     rw [←hcn] at hcnt hcb0
     rw [←hct] at hcnt hcb1
     rw [←hct]
     have hR0:=HMR.out wr HB.out
     have HCN:=Lib.hid hcn.symm
     have HCT:=Lib.hid hcnt
     have HXA:=Lib.hid hxA
     have HXC:=Lib.hid hxc'
     have HCX:=Lib.hid hxc
     have m3:wr.cell? ⟨w.heap.size,3+i,none⟩=some (.slice xA cn xc):=(vbx.cell (3+i)).trans hxc
     clear hcn hcnt hxA hxc' hxc hct vbx hR0
     go_wp2_with fail
     clear m3
     have HB0:=HB
     clear HB
     go_loopw [7] (fun vk wr=>∃ k:Nat,k≤cn∧vk = .int .i64 k∧Hid (∀ r∈(x.rl i).take k,rightR r.r=true)∧Hid (Below W2.heap.size W2 wr)) (fun vk _=>cn - (intOf vk).toNat)
     case atStart=>exact ⟨0,Nat.zero_le _,rfl,Lib.hid (fun q hq=>by cases hq),HB0⟩
     case round=>
      clear HB0
      obtain ⟨k,hk,rfl,HQ,HB⟩:=hrel
      have m3:wr.cell? ⟨w.heap.size,3+i,none⟩=some (.slice xA cn xc):=((VX.out.below HB.out hT).cell (3+i)).trans HCX.out
      rcases Nat.lt_or_ge k cn with hklt | hkge
      ·have hlx:k<(x.rl i).length:=by have:=HCN.out;omega
       have hQ1:RsRd wr w.heap.size xA xc cn (x.rl i):=by
        have:=(HMR.out wr HB.out).rl i
        rw [HCN.out,←HXA.out,←HXC.out] at this
        exact this
       obtain ⟨b,o,hA1,hb1,hc⟩:=hQ1.at_ hklt
       have hnine:=(hc hlx).cells
       have hp:=hQ1.2.2.2.2 _ (List.getElem_mem hlx)
       have hmem:=List.getElem_mem hlx
       have htk:(x.rl i).take (k+1)=(x.rl i).take k++[(x.rl i)[k]]:=by rw [List.take_add_one,List.getElem?_eq_getElem hlx];rfl
       generalize (x.rl i)[k]=p at *
       obtain ⟨c0,c1,c2,c3,c4,c5,c6,c7,c8⟩:=hnine
       subst hA1
       have hsz:=HB.out.size
       have hb1':b<wr.heap.size:=by omega
       have K:=Lib.hid (fright_at p wr (hp.more (by omega)))
       have HTK:=Lib.hid htk
       have hlt':(k:Int)<(cn:Int):=by omega
       clear hc hb1 hQ1 hp htk
       cases hpr:rightR p.r with
       | true=>
         rw [hpr] at K
         go_wp2_with (go_at_call 54;refine K.out.mono ?_;rintro e w2 ⟨rfl,hb2⟩)
         go_roundw
         case rel=>
          refine ⟨k+1,by omega,by go_num,Lib.hid (fun q hq=>?_),Lib.hid (HB.out.trans (hb2.mono HB.out.size))⟩
          rw [HTK.out] at hq
          rcases List.mem_append.1 hq with hq | hq
          ·exact HQ.out q hq
          ·simp at hq;subst hq;exact hpr
         case measure=>simp [intOf];omega
       | false=>
         rw [hpr] at K
         have hr1:rr=([],170):=by rw [HRR.out];exact bad_r hmem hpr
         subst hr1
         go_wp2_with (go_at_call 54;refine K.out.mono ?_;rintro e w2 ⟨rfl,hb2⟩)
         go_ret2
         exact ⟨_,rfl,Ow.nil _ _ _,HFIN.out _ (HB.out.trans (hb2.mono HB.out.size))⟩
      ·have hkn:k=cn:=by omega
       subst hkn
       go_wp2_with fail
       go_roundw
       case rel=>
        refine ⟨i+1,by omega,by go_num,by rw [HCT.out];push_cast;rfl,Lib.hid (fun j hj=>?_),HB⟩
        rcases Nat.lt_or_ge j i with h | h
        ·exact HRI.out j h
        ·have:j=i:=by omega
         subst this
         exact fun r hr=>HQ.out r (by rw [←HCN.out,List.take_length];exact hr)
       case measure=>simp [intOf];omega
    ·have hi3':i=3:=by omega
     subst hi3'
     have hR:=right_all HQR.out (fun i hi=>HRI.out i hi)
     have HR:=Lib.hid hR
     rw [cntM_num]
     obtain ⟨N,hNN⟩:∃ N,N=x.m.num:=⟨_,rfl⟩
     have hns:n+(x.rl 0).length+(x.rl 1).length+(x.rl 2).length=N:=by
      rw [hNN,←HN.out]
      simp [Ms.num,MR.m,MR.rl]
     rw [←hNN]
     have HNN:=Lib.hid hNN
     have HNS:=Lib.hid hns
     have hnN:n≤N:=by omega
     clear HQR HRI hR hge hi3 hNN hns
     by_cases h256:256<N
     ·have hr1:rr=([],5):=by
       rw [HRR.out];unfold writeM
       rw [if_neg (by rw [HR.out];simp),if_pos (by rw [←HNN.out];exact h256)]
      subst hr1
      have h256':(256:Int)<(N:Int):=by omega
      go_wp2_with fail
      go_ret2
      exact ⟨_,rfl,Ow.nil _ _ _,HFIN.out _ HB.out⟩
     ·have h256':(N:Int)≤256:=by omega
      go_upto_region 18 with fail
      have hid:=HX.out.1
      have hfl:=HX.out.2.1
      have hn16:n<65536:=by omega
      have hc3:∀ W,Below W2.heap.size W2 W→W.cell? ⟨w.heap.size,0,none⟩=some (.int .u16 (x.id:Int))∧W.cell? ⟨w.heap.size,1,none⟩=some (.int .u16 (x.fl:Int))∧W.cell? ⟨w.heap.size,2,none⟩=some (.slice x.qA n x.qc):=fun W hW=>⟨(VX.out.below hW hT).cell 0,(VX.out.below hW hT).cell 1,((VX.out.below hW hT).cell 2).trans cx2⟩
      have HC3:=Lib.hid hc3
      have kw1:IntKind.i64.wrap (x.id:Int)=(x.id:Int):=by rw [IntKind.wrap_i64];omega
      have kw2:IntKind.i64.wrap (x.fl:Int)=(x.fl:Int):=by rw [IntKind.wrap_i64];omega
      clear hc3
      refine wp_region_held_drew (S:=fun w'=>w'.cell? ⟨w.heap.size,0,none⟩=some (.int .u16 (x.id:Int))∧w'.cell? ⟨w.heap.size,1,none⟩=some (.int .u16 (x.fl:Int))∧w'.cell? ⟨w.heap.size,2,none⟩=some (.slice x.qA n x.qc)) (by kernel_rfl) (HC3.out _ HB.out.drew) (fun hH=>?_)
      refine reg_take 0 (v:=?_) rfl (by kernel_rfl) (fun _ _ _ h=>h) (by rfl) hH ?_ ?_
      rotate_left
      ·intro w hSw;(try dsimp only at hSw);go_simp;(try with_reducible rfl)
      (try simp only [Act.put,List.setIfInBounds_toArray,List.set_cons_zero,List.set_cons_succ])
      refine reg_take 1 (v:=?_) rfl (by kernel_rfl) (fun _ _ _ h=>h) (by rfl) hH ?_ ?_
      rotate_left
      ·intro w hSw;(try dsimp only at hSw);go_simp;(try with_reducible rfl)
      (try simp only [Act.put,List.setIfInBounds_toArray,List.set_cons_zero,List.set_cons_succ])
      refine reg_take 2 (v:=?_) rfl (by kernel_rfl) (fun _ _ _ h=>h) (by rfl) hH ?_ ?_
      rotate_left
      ·intro w hSw;(try dsimp only at hSw);go_simp;(try with_reducible rfl)
      (try simp only [Act.put,List.setIfInBounds_toArray,List.set_cons_zero,List.set_cons_succ])
      refine reg_take 4 (v:=?_) rfl (by kernel_rfl) (fun _ _ _ h=>h) (by rfl) hH ?_ ?_
      rotate_left
      ·intro w hSw;(try dsimp only at hSw);go_simp;(try with_reducible rfl)
      (try simp only [Act.put,List.setIfInBounds_toArray,List.set_cons_zero,List.set_cons_succ])
      refine reg_take 5 (v:=?_) rfl (by kernel_rfl) (fun _ _ _ h=>h) (by rfl) hH ?_ ?_
      rotate_left
      ·intro w hSw;(try dsimp only at hSw);go_simp;(try with_reducible rfl)
      (try simp only [Act.put,List.setIfInBounds_toArray,List.set_cons_zero,List.set_cons_succ])
      refine reg_take 6 (v:=?_) rfl (by kernel_rfl) (fun _ _ _ h=>h) (by rfl) hH ?_ ?_
      rotate_left
      ·intro w hSw;(try dsimp only at hSw);go_simp;(try with_reducible rfl)
      (try simp only [Act.put,List.setIfInBounds_toArray,List.set_cons_zero,List.set_cons_succ])
      refine reg_take 8 (v:=?_) rfl (by kernel_rfl) (fun _ _ _ h=>h) (by rfl) hH ?_ ?_
      rotate_left
      ·intro w hSw;(try dsimp only at hSw);go_simp;(try with_reducible rfl)
      (try simp only [Act.put,List.setIfInBounds_toArray,List.set_cons_zero,List.set_cons_succ])
      refine reg_take 9 (v:=?_) rfl (by kernel_rfl) (fun _ _ _ h=>h) (by rfl) hH ?_ ?_
      rotate_left
      ·intro w hSw;(try dsimp only at hSw);go_simp;(try with_reducible rfl)
      (try simp only [Act.put,List.setIfInBounds_toArray,List.set_cons_zero,List.set_cons_succ])
      refine reg_take 10 (v:=?_) rfl (by kernel_rfl) (fun _ _ _ h=>h) (by rfl) hH ?_ ?_
      rotate_left
      ·intro w hSw;(try dsimp only at hSw);go_simp;(try with_reducible rfl)
      (try simp only [Act.put,List.setIfInBounds_toArray,List.set_cons_zero,List.set_cons_succ])
      have hswr:W2.heap.size≤wr.heap.size:=HB.out.size
      refine wpAnyH_ready (rs:=[3]) (by kernel_rfl) (by simp) ?_
      refine reg_cons _ rfl (fun K' hK=>?_) AllReadyH.nil
      go_simp
      go_at_call 55
      refine (ftwo_at (.slice none 0 0) [] W2.heap.size x.id wr.drew (Ow.nil _ _ _) hid hswr (by simp)).mono ?_
      rintro e w3 ⟨vw3,rfl,how3,hgw3⟩
      have hbw3':Below W2.heap.size wr.drew w3:=(hgw3.below0).mono hswr
      have hbw3:Below W2.heap.size W2 w3:=HB.out.drew.trans hbw3'
      have hsw3:W2.heap.size≤w3.heap.size:=hbw3.size
      (try dsimp only)
      refine hK.out _ _ (HC3.out _ hbw3) (fun hH=>?_)
      (try simp only [Act.put,List.setIfInBounds_toArray,List.set_cons_zero,List.set_cons_succ])
      clear hK
      refine wpAnyH_ready (rs:=[7]) (by kernel_rfl) (by simp) ?_
      refine reg_cons _ rfl (fun K' hK=>?_) AllReadyH.nil
      go_simp
      go_at_call 55
      refine (ftwo_at vw3 ([]++two x.id) W2.heap.size x.fl w3 how3 hfl hsw3 (by simp)).mono ?_
      rintro e w4 ⟨vw4,rfl,how4,hgw4⟩
      have hbw4':Below W2.heap.size w3 w4:=hgw4.below (fun g hg=>OwM.lt (show OwM w3 W2.heap.size 5 1 _ _ _ from how3) g hg) hsw3
      have hbw4:Below W2.heap.size W2 w4:=hbw3.trans hbw4'
      have hsw4:W2.heap.size≤w4.heap.size:=hbw4.size
      (try dsimp only)
      refine hK.out _ _ (HC3.out _ hbw4) (fun hH=>?_)
      (try simp only [Act.put,List.setIfInBounds_toArray,List.set_cons_zero,List.set_cons_succ])
      clear hK
      refine wpAnyH_ready (rs:=[11]) (by kernel_rfl) (by simp) ?_
      refine reg_cons _ rfl (fun K' hK=>?_) AllReadyH.nil
      go_simp
      go_at_call 55
      refine (ftwo_at vw4 ([]++two x.id++two x.fl) W2.heap.size n w4 how4 hn16 hsw4 (by simp)).mono ?_
      rintro e w5 ⟨vw5,rfl,how5,hgw5⟩
      have hbw5':Below W2.heap.size w4 w5:=hgw5.below (fun g hg=>OwM.lt (show OwM w4 W2.heap.size 5 1 _ _ _ from how4) g hg) hsw4
      have hbw5:Below W2.heap.size W2 w5:=hbw4.trans hbw5'
      have hsw5:W2.heap.size≤w5.heap.size:=hbw5.size
      (try dsimp only)
      refine hK.out _ _ (HC3.out _ hbw5) (fun hH=>?_)
      (try simp only [Act.put,List.setIfInBounds_toArray,List.set_cons_zero,List.set_cons_succ])
      clear hK
      refine reg_take 12 (v:=?_) rfl (by kernel_rfl) (fun _ _ _ h=>h) (by rfl) hH ?_ ?_
      rotate_left
      ·intro w hSw;(try dsimp only at hSw);go_simp;(try with_reducible rfl)
      (try simp only [Act.put,List.setIfInBounds_toArray,List.set_cons_zero,List.set_cons_succ])
      refine wpAnyH_done (by kernel_rfl) ?_ _
      have ho0:Ow w5 W2.heap.size 5 vw5 (bc (hdB x 0)):=by
       have:=how5
       rw [←HN.out] at this
       exact this
      have HO0:=Lib.hid ho0
      have HB0:=Lib.hid hbw5
      clear ho0 hbw5 how5 how4 how3 hbw4 hbw3 hbw3' hbw4' hbw5' hgw3 hgw4 hgw5 hH hsw3 hsw4 hsw5 hswr kw1 kw2 HB
      go_wp2_with fail
      go_loopw [8,9] (fun v8 vi wr=>∃ (i:Nat) (vb:Value),i≤3∧vi = .int .i64 i∧vb=v8∧Hid (Ow wr W2.heap.size 5 vb (bc (hdB x i)))∧Hid (Below W2.heap.size W2 wr)) (fun _ vi _=>3 - (intOf vi).toNat)
      case atStart=>exact ⟨0,vw5,by omega,rfl,rfl,HO0,HB0⟩
      case round=>
       clear HO0 HB0
       obtain ⟨i,vb,hi3,rfl,rfl,HO,HB⟩:=hrel
       rcases Nat.lt_or_ge i 3 with hlt | hge
       ·have hi3i:(i:Int)<3:=by omega
        have hxc:x.cells[3+i]? = some (.slice (x.rA i) (x.rl i).length (x.rc i)):=by
         rcases (show i=0∨i=1∨i=2 by omega) with rfl | rfl | rfl <;> rfl
        have hl16:(x.rl i).length<65536:=by
         have hns:=HNS.out
         rcases (show i=0∨i=1∨i=2 by omega) with rfl | rfl | rfl <;> omega
        have m3:=((VX.out.below HB.out hT).cell (3+i)).trans hxc
        obtain ⟨cn,hcn⟩:∃ cn,cn=(x.rl i).length:=⟨_,rfl⟩
        rw [←hcn] at m3 hl16
        have HCN:=Lib.hid hcn
        have hlen:=hdB_len x i
        have K:=Lib.hid (ftwo_at vb (hdB x i) W2.heap.size cn wr HO.out hl16 HB.out.size (by omega))
        clear hcn hxc hlen
        go_wp2_with (go_at_call 55
                     refine K.out.mono ?_
                     rintro e w3 ⟨v3,rfl,ho3,hg3⟩)
        go_roundw
        case rel=>
         refine ⟨i+1,v3,by omega,by go_num,rfl,Lib.hid ?_,Lib.hid (HB.out.trans (hg3.below (fun g hg=>OwM.lt (show OwM wr W2.heap.size 5 1 _ _ _ from HO.out) g hg) HB.out.size))⟩
         rw [HCN.out] at ho3
         exact ho3
        case measure=>simp [intOf];omega
       ·have hi3':i=3:=by omega
        have e3:(i:Int)=3:=by omega
        rw [e3]
        have ho3:=HO.out
        rw [hi3',hdB_head] at ho3
        have HO3:=Lib.hid ho3
        clear HO ho3 e3 hi3' hge hi3
        obtain ⟨A0,c0,rfl,hc0,_⟩:=Ow.form7 HO3.out 12 (by simp [headB,twos_length])
        go_upto_block 8 with fail
        go_cut [8,10,11,12] from 90 to 115 (fun v8 v10 _ _ wx=>∃ (s:Wr) (L K:Nat) (A1 A2:Option Addr) (c1 c2:Nat),v8 = .slice A1 L c1∧v10 = .slice A2 K c2∧L≤c1∧L≤10000∧K≤n∧Hid (s.1.length=L)∧Hid (s.2.length=K)∧Hid (Ow wx W2.heap.size 5 (.slice A1 L c1) (bc s.1))∧Hid (Ow wx W2.heap.size 3 (.slice A2 K c2) (ic s.2))∧Hid (Cur x s (stW x 0))∧Hid (Below W2.heap.size W2 wx))
        case first=>
         go_wp2_with fail
         go_loopw [8,10,11] (fun v8 v10 vi wr=>∃ (k:Nat) (s:Wr) (L:Nat) (A1 A2:Option Addr) (c1 c2:Nat),k≤n∧vi = .int .i64 k∧v8 = .slice A1 L c1∧v10 = .slice A2 k c2∧L≤c1∧L≤10000∧Hid (s.1.length=L)∧Hid (s.2.length=k)∧Hid (Ow wr W2.heap.size 5 (.slice A1 L c1) (bc s.1))∧Hid (Ow wr W2.heap.size 3 (.slice A2 k c2) (ic s.2))∧Hid (s=qsB (headB x.m,[]) ((x.qs.map QR.q).take k))∧Hid (Below W2.heap.size W2 wr)) (fun _ _ vi _=>n - (intOf vi).toNat)
         case atStart=>exact ⟨0,(headB x.m,[]),12,A0,none,c0,0,Nat.zero_le _,rfl,rfl,rfl,hc0,by omega,Lib.hid (by simp [headB,twos_length]),Lib.hid rfl,HO3,Lib.hid (Ow.nil _ _ _),Lib.hid rfl,HB⟩
         case round=>
          clear HO3 HB hc0
          obtain ⟨k,s,L,A1,A2,c1,c2,hk,rfl,rfl,rfl,hLc,hL1,HSL,HSK,HOb,HOk,HSE,HB⟩:=hrel
          have m2:=(HC3.out wr HB.out).2.2
          rcases Nat.lt_or_ge k n with hlt | hge
          ·have hlt':(k:Int)<(n:Int):=by omega
           rcases Nat.lt_or_ge 4096 L with hlong | hshort
           ·have hlong':(4096:Int)<(L:Int):=by omega
            go_wp2_with fail
            go_meet
            exact ⟨s,L,k,A1,A2,c1,c2,rfl,rfl,hLc,hL1,hk,HSL,HSK,HOb,HOk,Lib.hid (Or.inr ⟨by rw [HSL.out];exact hlong,flong_q HR.out (k:=k) (by rw [←HSE.out,HSL.out];exact hlong)⟩),HB⟩
           ·have hshort':(L:Int)≤4096:=by omega
            have hlx:k<x.qs.length:=by have:=HN.out;omega
            have hQ1:QsRd wr w.heap.size x.qA x.qc n x.qs:=by rw [←HN.out];exact (HMR.out wr HB.out).2.2.1
            obtain ⟨b,o,hA1,hb1,hc⟩:=hQ1.at_ hlt
            obtain ⟨d0,d1,d2⟩:=hc hlx
            have hp:=hQ1.2.2.2.2 _ (List.getElem_mem hlx)
            have hpr:=(resW HR.out).1 _ (List.getElem_mem hlx)
            have hqt:=qsB_take (headB x.m,[]) (x.qs.map QR.q) k (by simpa using hlx)
            rw [List.getElem_map,←HSE.out] at hqt
            generalize x.qs[k]=p at *
            rw [hA1] at m2
            have hsz:=HB.out.size
            have hb1':b<wr.heap.size:=by omega
            have HQT:=Lib.hid hqt
            have hr1:=Ow.rd0 HOb.out HSL.out
            have hr2:=Ow.rd0i HOk.out HSK.out
            have K:=Lib.hid (fasked_at A1 A2 c1 c2 L k s.1 s.2 p wr HSL.out HSK.out hr1 hLc (by omega) hr2 (by omega) (hp.more (by omega)) hpr)
            have hal:=app_len s.1 s.2 p.q.nm hpr
            have hal2:(askB s p.q).1.length≤L+604:=by
             have h1:=HSL.out
             simp only [askB,List.length_append,two_length]
             omega
            have hk2:(askB s p.q).2.length=k+1:=by
             have h1:=HSK.out
             simp [askB,h1]
            have hic:ic (askB s p.q).2=ic s.2++[.int .i64 (L:Int)]:=by
             have h1:=HSL.out
             simp [askB,ic,h1]
            obtain ⟨s',hs'⟩:∃ s',s'=askB s p.q:=⟨_,rfl⟩
            have e0:askB (s.1,s.2) p.q=s':=hs'.symm
            rw [e0] at K
            rw [←hs'] at hal2 hk2 hic hqt
            obtain ⟨L',hL'⟩:∃ L',L'=s'.1.length:=⟨_,rfl⟩
            rw [←hL'] at hal2
            have HL':=Lib.hid hL'.symm
            have HK2:=Lib.hid hk2
            have HIC:=Lib.hid hic
            have HQ2:=Lib.hid hqt
            clear hc hb1 hQ1 hA1 hp hpr hqt hr1 hr2 hal hk2 hic hs' e0 hL' HQT
            go_wp2_with (first
             | (go_at_call 56
                refine K.out.mono ?_
                rintro e w3 ⟨v3,rfl,ho3,hb3⟩
                obtain ⟨A3,c3,rfl,hc3,_⟩:=Ow.form7 ho3 L' (by rw [bc_length,HL'.out]))
             | (at_builtin;refine wpList_app _ rfl _ _ _ _ rfl W2.heap.size 3 j0 (.int .i64 0) 8 Tryz.underlying48 hj' hy0 hy1 hy2 rfl (by omega) _ _ ((HOk.out.far hb3).alloc _) rfl 1 [.int .i64 (L:Int)] (lit_src Tryz.underlying48 _ _ 1 rfl (by simp [maxLen]) (by simp;rfl)) (by have:=HSK.out;simp [ic,this];omega) (by have:=hb3.size;simp;omega) ?_
                intro v5 w5 hown5 hgr5 hsz5
                rw [←HIC.out] at hown5
                obtain ⟨A5,c5,rfl,hc5,_⟩:=Ow.form7 hown5 (k+1) (by simp [ic,HK2.out])))
            go_roundw
            case rel=>
             have hne:∀ g,(Value.slice A3 L' c3).ownBlock=some g→(Value.slice A2 k c2).ownBlock≠some g:=fun g h1 h2=>by
              have e1:=ho3.lt g h1
              have e2:=ow_block_lt HOk.out g h2
              omega
             refine ⟨k+1,s',L',A3,A5,c3,c5,by omega,by go_num,rfl,rfl,hc3,by omega,HL',HK2,Lib.hid (((ho3.alloc _).kept hgr5 hne).mono hsz),Lib.hid hown5,Lib.hid HQ2.out.symm,Lib.hid (HB.out.trans ((hb3.mono hsz).trans (((below_new w3 _).mono (by have:=hb3.size;omega)).trans (hgr5.below (fun g hg=>HOk.out.lt g hg) (by have:=hb3.size;simp;omega)))))⟩
            case measure=>simp [intOf];omega
          ·have hkn:n=k:=by omega
           have hge':(n:Int)≤(k:Int):=by omega
           go_wp2_with fail
           go_meet
           exact ⟨s,L,k,A1,A2,c1,c2,rfl,rfl,hLc,hL1,hk,HSL,HSK,HOb,HOk,Lib.hid (Or.inl (by rw [HSE.out,←hkn,←HN.out,←List.length_map (f:=QR.q),List.take_length];rfl)),HB⟩
        case rest=>
         clear HO3 HB hc0
         obtain ⟨s,L,K,A1,A2,c1,c2,rfl,rfl,hLc,hL1,hK1,HSL,HSK,HOb,HOk,HCU,HB⟩:=hcut
         go_wp2_with fail
         go_loopw [8,10,13] (fun v8 v10 vi wr=>∃ (i:Nat) (s:Wr) (L K:Nat) (A1 A2:Option Addr) (c1 c2:Nat),i≤3∧vi = .int .i64 i∧v8 = .slice A1 L c1∧v10 = .slice A2 K c2∧L≤c1∧L≤10000∧K≤4000000000000∧Hid (K≤cntM x i)∧Hid (s.1.length=L)∧Hid (s.2.length=K)∧Hid (Ow wr W2.heap.size 5 (.slice A1 L c1) (bc s.1))∧Hid (Ow wr W2.heap.size 3 (.slice A2 K c2) (ic s.2))∧Hid (Cur x s (stW x i))∧Hid (Below W2.heap.size W2 wr)) (fun _ _ vi _=>3 - (intOf vi).toNat)
         case atStart=>exact ⟨0,s,L,K,A1,A2,c1,c2,by omega,rfl,rfl,rfl,hLc,hL1,by omega,Lib.hid (by have:=HN.out;show K≤x.qs.length;omega),HSL,HSK,HOb,HOk,HCU,HB⟩
         case round=>
          clear HSL HSK HOb HOk HCU HB hLc hL1 hK1
          obtain ⟨i,s,L,K,A1,A2,c1,c2,hi3,rfl,rfl,rfl,hLc,hL1,hK1,HKC,HSL,HSK,HOb,HOk,HCU,HB⟩:=hrel
          rcases Nat.lt_or_ge i 3 with hlt | hge
          ·have hi3i:(i:Int)<3:=by omega
           have hxc:x.cells[3+i]? = some (.slice (x.rA i) (x.rl i).length (x.rc i)):=by
            rcases (show i=0∨i=1∨i=2 by omega) with rfl | rfl | rfl <;> rfl
           have hcnt:cntM x (i+1)=cntM x i+(x.rl i).length:=rfl
           have hcc:cntM x i≤256:=by
            have hns:=HNS.out
            have hn0:=HN.out
            rcases (show i=0∨i=1∨i=2 by omega) with rfl | rfl | rfl <;> simp only [cntM] <;> omega
           have hcb0:(x.rl i).length≤256:=by
            have hns:=HNS.out
            rcases (show i=0∨i=1∨i=2 by omega) with rfl | rfl | rfl <;> omega
           obtain ⟨cn,hcn⟩:∃ cn,cn=(x.rl i).length:=⟨_,rfl⟩
           obtain ⟨xA,hxA⟩:∃ a,a=x.rA i:=⟨_,rfl⟩
           obtain ⟨xc,hxc'⟩:∃ a,a=x.rc i:=⟨_,rfl⟩
           rw [←hcn,←hxA,←hxc'] at hxc
           rw [←hcn] at hcnt hcb0
           have HCN:=Lib.hid hcn.symm
           have HCT:=Lib.hid hcnt
           have HXA:=Lib.hid hxA
           have HXC:=Lib.hid hxc'
           have HCX:=Lib.hid hxc
           have HCC:=Lib.hid hcc
           clear hcn hcnt hxA hxc' hxc hcc
           go_wp2_with fail
           go_loopw [8,10,14] (fun v8 v10 vk wr=>∃ (k:Nat) (s:Wr) (L K:Nat) (A1 A2:Option Addr) (c1 c2:Nat),k≤cn∧vk = .int .i64 k∧v8 = .slice A1 L c1∧v10 = .slice A2 K c2∧L≤c1∧L≤10000∧K≤4000000000000∧Hid (K≤cntM x i+k)∧Hid (s.1.length=L)∧Hid (s.2.length=K)∧Hid (Ow wr W2.heap.size 5 (.slice A1 L c1) (bc s.1))∧Hid (Ow wr W2.heap.size 3 (.slice A2 K c2) (ic s.2))∧Hid (Cur x s (rsB (stW x i) (((x.rl i).map RR.r).take k)))∧Hid (Below W2.heap.size W2 wr)) (fun _ _ vk _=>cn - (intOf vk).toNat)
           case atStart=>exact ⟨0,s,L,K,A1,A2,c1,c2,Nat.zero_le _,rfl,rfl,rfl,hLc,hL1,hK1,HKC,HSL,HSK,HOb,HOk,HCU,HB⟩
           case round=>
            clear HSL HSK HOb HOk HCU HB hLc hL1 hK1 HKC
            obtain ⟨k,s,L,K,A1,A2,c1,c2,hk,rfl,rfl,rfl,hLc,hL1,hK1,HKC,HSL,HSK,HOb,HOk,HCU,HB⟩:=hrel
            have m3:wr.cell? ⟨w.heap.size,3+i,none⟩=some (.slice xA cn xc):=((VX.out.below HB.out hT).cell (3+i)).trans HCX.out
            rcases Nat.lt_or_ge k cn with hklt | hkge
            ·have hlt':(k:Int)<(cn:Int):=by omega
             rcases Nat.lt_or_ge 4096 L with hlong | hshort
             ·have hlong':(4096:Int)<(L:Int):=by omega
              go_wp2_with fail
              go_roundw
              case rel=>
               refine ⟨i+1,s,L,K,A1,A2,c1,c2,by omega,by go_num,rfl,rfl,hLc,hL1,hK1,Lib.hid (by have h1:=HKC.out;have h2:=HCT.out;omega),HSL,HSK,HOb,HOk,Lib.hid ?_,HB⟩
               rcases HCU.out with h | h
               ·exact Or.inr ⟨by rw [HSL.out];exact hlong,flong_r HR.out hlt (k:=k) (by rw [←h,HSL.out];exact hlong)⟩
               ·exact Or.inr h
              case measure=>simp [intOf];omega
             ·have hshort':(L:Int)≤4096:=by omega
              have hex:s=rsB (stW x i) (((x.rl i).map RR.r).take k):=by
               rcases HCU.out with h | h
               ·exact h
               ·have:=HSL.out;omega
              have hlx:k<(x.rl i).length:=by have:=HCN.out;omega
              have hQ1:RsRd wr w.heap.size xA xc cn (x.rl i):=by
               have:=(HMR.out wr HB.out).rl i
               rw [HCN.out,←HXA.out,←HXC.out] at this
               exact this
              obtain ⟨b,o,hA1,hb1,hc⟩:=hQ1.at_ hklt
              have hnine:=(hc hlx).cells
              have hp:=hQ1.2.2.2.2 _ (List.getElem_mem hlx)
              have hpr:=rl_right HR.out i _ (List.mem_map.2 ⟨_,List.getElem_mem hlx,rfl⟩)
              have hqt:=rsB_take (stW x i) ((x.rl i).map RR.r) k (by simpa using hlx)
              rw [List.getElem_map,←hex] at hqt
              generalize (x.rl i)[k]=p at *
              obtain ⟨d0,d1,d2,d3,d4,d5,d6,d7,d8⟩:=hnine
              subst hA1
              have hsz:=HB.out.size
              have hb1':b<wr.heap.size:=by omega
              have HQT:=Lib.hid hqt
              have hpw:=hp.more (show w.heap.size≤wr.heap.size by omega)
              have HP:=Lib.hid hp
              have HPW:=Lib.hid hpw
              have HPR:=Lib.hid hpr
              have hdl:=dataR_len hpr
              clear hc hb1 hQ1 hp hpw hqt hex HCU
              have hv15:=Vx.new wr 42 [.slice p.A p.r.q.nm.length p.c,.int .u16 (p.r.q.ty:Int),.int .u16 (p.r.q.cl:Int),.int .u32 (p.r.ttl:Int),.slice p.dA p.r.d.length p.dc,.int .u16 (p.r.pr:Int),.int .u16 (p.r.we:Int),.int .u16 (p.r.po:Int),.slice p.tA p.r.tg.length p.tc]
              have hbA:=below_new wr (.cells #[.slice p.A p.r.q.nm.length p.c,.int .u16 (p.r.q.ty:Int),.int .u16 (p.r.q.cl:Int),.int .u32 (p.r.ttl:Int),.slice p.dA p.r.d.length p.dc,.int .u16 (p.r.pr:Int),.int .u16 (p.r.we:Int),.int .u16 (p.r.po:Int),.slice p.tA p.r.tg.length p.tc] 42)
              obtain ⟨e0,e1,e2,e3,e4,e5,e6,e7,e8⟩:=hv15.c9
              have hszA:=hbA.size
              have hTA:=hv15.lt
              have KD:=Lib.hid (fdata_at p (wr.alloc (.cells #[.slice p.A p.r.q.nm.length p.c,.int .u16 (p.r.q.ty:Int),.int .u16 (p.r.q.cl:Int),.int .u32 (p.r.ttl:Int),.slice p.dA p.r.d.length p.dc,.int .u16 (p.r.pr:Int),.int .u16 (p.r.we:Int),.int .u16 (p.r.po:Int),.slice p.tA p.r.tg.length p.tc] 42)) ((HPW.out.below hbA).more hbA.size) hpr)
              go_upto_region 39 with (first
               | (go_at_call 57
                  refine KD.out.mono ?_
                  rintro e w3 ⟨Ad,cd,rfl,hcd,hrd,hb3,hloc⟩
                  have hv3:=hv15.below hb3 hTA))
              obtain ⟨DL,hDL⟩:∃ DL,DL=(dataR p.r).length:=⟨_,rfl⟩
              rw [←hDL] at hcd hrd hdl
              try rw [←hDL]
              have HDL:=Lib.hid hDL.symm
              obtain ⟨T,hTq⟩:∃ T,T=wr.heap.size:=⟨_,rfl⟩
              rw [←hTq] at hv3
              try rw [←hTq]
              have HT:=Lib.hid hTq
              have hb03:Below wr.heap.size wr w3:=hbA.trans (hb3.mono hbA.size)
              have HV3:=Lib.hid hv3
              have HRD:=Lib.hid hrd
              have HB03:=Lib.hid hb03
              have hadr:0<DL→∀ a,Ad=some a→a.block<w3.heap.size∧(a.block<W2.heap.size∨wr.heap.size≤a.block):=by
               intro h0 a ha
               obtain ⟨b',o',h1,h2,_⟩:=HRD.out.2 h0
               rw [ha] at h1
               cases h1
               refine ⟨h2,?_⟩
               rcases hloc with ⟨h3,h4⟩ | h3
               ·obtain ⟨b2,o2,h5,h6,_⟩:=HP.out.2.1.1.2 (by rw [←h4,HDL.out];exact h0)
                rw [←h3,ha] at h5
                cases h5
                left;show b'<_;omega
               ·right
                have:=h3 _ ha
                show wr.heap.size≤b'
                exact Nat.le_trans hszA this
              have HADR:=Lib.hid hadr
              have hT3:T<w3.heap.size:=hv3.lt
              have hs3:wr.heap.size≤w3.heap.size:=hb03.size
              obtain ⟨q,hq⟩:∃ q,q=p.r.ttl / 65536:=⟨_,rfl⟩
              obtain ⟨r,hr⟩:∃ r,r=p.r.ttl % 65536:=⟨_,rfl⟩
              have httl:p.r.ttl<4294967296:=HP.out.2.2.2.1
              have k1:(p.r.ttl:Int).tdiv 65536=(q:Int):=by rw [Int.tdiv_eq_ediv_of_nonneg (by omega)];omega
              have k2:(p.r.ttl:Int) / 65536=(q:Int):=by omega
              have k3:(p.r.ttl:Int).tmod 65536=(r:Int):=by rw [Int.tmod_eq_emod_of_nonneg (by omega)];omega
              have k4:(p.r.ttl:Int) % 65536=(r:Int):=by omega
              have k5:IntKind.u32.wrap (q:Int)=(q:Int):=by rw [IntKind.wrap_u32];omega
              have k6:IntKind.u32.wrap (r:Int)=(r:Int):=by rw [IntKind.wrap_u32];omega
              have k7:IntKind.i64.wrap (q:Int)=(q:Int):=by rw [IntKind.wrap_i64];omega
              have k8:IntKind.i64.wrap (r:Int)=(r:Int):=by rw [IntKind.wrap_i64];omega
              have hq16:q<65536:=by omega
              have hr16:r<65536:=by omega
              have HQ:=Lib.hid hq
              have HRr:=Lib.hid hr
              have hr1:=Ow.rd0 (HOb.out.far hb03) HSL.out
              have hr2:=Ow.rd0i (HOk.out.far hb03) HSK.out
              have K4:=Lib.hid (fasked_at A1 A2 c1 c2 L K s.1 s.2 p.qr w3.drew HSL.out HSK.out hr1 hLc (by omega) hr2 (by have:=HKC.out;have:=HCC.out;omega) ((HPW.out.1.below hb03).more hs3) (rightR_nm HPR.out))
              have hal:=app_len s.1 s.2 p.r.q.nm (rightR_nm HPR.out)
              obtain ⟨P,hP⟩:∃ P,P=(askB s p.r.q).1:=⟨_,rfl⟩
              have e0':(askB (s.1,s.2) p.qr.q).1=P:=hP.symm
              rw [e0'] at K4
              have hPl:P.length≤L+604:=by
               have h1:=HSL.out
               rw [hP]
               simp only [askB,List.length_append,two_length]
               omega
              have HPP:=Lib.hid hP
              have hbase3:W2.heap.size≤w3.heap.size:=by omega
              clear hcd hrd hb3 hloc hv3 hb03 hadr hDL hTq hr hq hr1 hr2 hal hP e0' KD e0 e1 e2 e3 e4 e5 e6 e7 e8 hv15 hbA d0 d1 d2 d3 d4 d5 d6 d7 d8 m3
              refine wp_region_held_drew (S:=fun w'=>w'.cell? ⟨T,0,none⟩=some (.slice p.A p.r.q.nm.length p.c)∧w'.cell? ⟨T,1,none⟩=some (.int .u16 (p.r.q.ty:Int))∧w'.cell? ⟨T,2,none⟩=some (.int .u16 (p.r.q.cl:Int))∧w'.cell? ⟨T,3,none⟩=some (.int .u32 (p.r.ttl:Int))∧w'.cell? ⟨T,4,none⟩=some (.slice p.dA p.r.d.length p.dc)∧w'.cell? ⟨T,5,none⟩=some (.int .u16 (p.r.pr:Int))∧w'.cell? ⟨T,6,none⟩=some (.int .u16 (p.r.we:Int))∧w'.cell? ⟨T,7,none⟩=some (.int .u16 (p.r.po:Int))∧w'.cell? ⟨T,8,none⟩=some (.slice p.tA p.r.tg.length p.tc)) (by kernel_rfl) HV3.out.c9 (fun hH=>?_)
              refine reg_take 0 (v:=?_) rfl (by kernel_rfl) (fun _ _ _ h=>h) (by rfl) hH ?_ ?_
              rotate_left
              ·intro w hSw;(try dsimp only at hSw);go_simp;(try with_reducible rfl)
              (try simp only [Act.put,List.setIfInBounds_toArray,List.set_cons_zero,List.set_cons_succ])
              refine reg_take 1 (v:=?_) rfl (by kernel_rfl) (fun _ _ _ h=>h) (by rfl) hH ?_ ?_
              rotate_left
              ·intro w hSw;(try dsimp only at hSw);go_simp;(try with_reducible rfl)
              (try simp only [Act.put,List.setIfInBounds_toArray,List.set_cons_zero,List.set_cons_succ])
              refine reg_take 2 (v:=?_) rfl (by kernel_rfl) (fun _ _ _ h=>h) (by rfl) hH ?_ ?_
              rotate_left
              ·intro w hSw;(try dsimp only at hSw);go_simp;(try with_reducible rfl)
              (try simp only [Act.put,List.setIfInBounds_toArray,List.set_cons_zero,List.set_cons_succ])
              refine reg_take 3 (v:=?_) rfl (by kernel_rfl) (fun _ _ _ h=>h) (by rfl) hH ?_ ?_
              rotate_left
              ·intro w hSw;(try dsimp only at hSw);go_simp;(try with_reducible rfl)
              (try simp only [Act.put,List.setIfInBounds_toArray,List.set_cons_zero,List.set_cons_succ])
              refine reg_take 5 (v:=?_) rfl (by kernel_rfl) (fun _ _ _ h=>h) (by rfl) hH ?_ ?_
              rotate_left
              ·intro w hSw;(try dsimp only at hSw);go_simp;(try with_reducible rfl)
              (try simp only [Act.put,List.setIfInBounds_toArray,List.set_cons_zero,List.set_cons_succ])
              refine reg_take 6 (v:=?_) rfl (by kernel_rfl) (fun _ _ _ h=>h) (by rfl) hH ?_ ?_
              rotate_left
              ·intro w hSw;(try dsimp only at hSw);go_simp;(try with_reducible rfl)
              (try simp only [Act.put,List.setIfInBounds_toArray,List.set_cons_zero,List.set_cons_succ])
              refine reg_take 7 (v:=?_) rfl (by kernel_rfl) (fun _ _ _ h=>h) (by rfl) hH ?_ ?_
              rotate_left
              ·intro w hSw;(try dsimp only at hSw);go_simp;(try with_reducible rfl)
              (try simp only [Act.put,List.setIfInBounds_toArray,List.set_cons_zero,List.set_cons_succ])
              refine reg_take 8 (v:=?_) rfl (by kernel_rfl) (fun _ _ _ h=>h) (by rfl) hH ?_ ?_
              rotate_left
              ·intro w hSw;(try dsimp only at hSw);go_simp;(try with_reducible rfl)
              (try simp only [Act.put,List.setIfInBounds_toArray,List.set_cons_zero,List.set_cons_succ])
              refine reg_take 10 (v:=?_) rfl (by kernel_rfl) (fun _ _ _ h=>h) (by rfl) hH ?_ ?_
              rotate_left
              ·intro w hSw;(try dsimp only at hSw);go_simp;(try with_reducible rfl)
              (try simp only [Act.put,List.setIfInBounds_toArray,List.set_cons_zero,List.set_cons_succ])
              refine reg_take 11 (v:=?_) rfl (by kernel_rfl) (fun _ _ _ h=>h) (by rfl) hH ?_ ?_
              rotate_left
              ·intro w hSw;(try dsimp only at hSw);go_simp;(try with_reducible rfl)
              (try simp only [Act.put,List.setIfInBounds_toArray,List.set_cons_zero,List.set_cons_succ])
              refine reg_take 12 (v:=?_) rfl (by kernel_rfl) (fun _ _ _ h=>h) (by rfl) hH ?_ ?_
              rotate_left
              ·intro w hSw;(try dsimp only at hSw);go_simp;(try with_reducible rfl)
              (try simp only [Act.put,List.setIfInBounds_toArray,List.set_cons_zero,List.set_cons_succ])
              refine reg_take 13 (v:=?_) rfl (by kernel_rfl) (fun _ _ _ h=>h) (by rfl) hH ?_ ?_
              rotate_left
              ·intro w hSw;(try dsimp only at hSw);go_simp;(try with_reducible rfl)
              (try simp only [Act.put,List.setIfInBounds_toArray,List.set_cons_zero,List.set_cons_succ])
              refine wpAnyH_ready (rs:=[4]) (by kernel_rfl) (by simp) ?_
              refine reg_cons _ rfl (fun K' hK=>?_) AllReadyH.nil
              go_simp
              go_at_call 56
              refine K4.out.mono ?_
              rintro e w4 ⟨v4,rfl,ho4,hb4⟩
              have hb34:Below w3.heap.size w3 w4:=(Below.refl w3.heap.size w3).drew.trans hb4
              have ho4':Ow w4 w3.heap.size 5 v4 (bc P):=ho4
              have hs4:=hb34.size
              (try dsimp only)
              refine hK.out _ _ (HV3.out.below hb34 hT3).c9 (fun hH=>?_)
              (try simp only [Act.put,List.setIfInBounds_toArray,List.set_cons_zero,List.set_cons_succ])
              clear hK
              refine wpAnyH_ready (rs:=[9]) (by kernel_rfl) (by simp) ?_
              refine reg_cons _ rfl (fun K' hK=>?_) AllReadyH.nil
              go_simp
              go_at_call 55
              refine (ftwo_at v4 P w3.heap.size q w4 ho4' hq16 hs4 (by omega)).mono ?_
              rintro e w5 ⟨v5,rfl,ho5,hg5⟩
              have hb35:Below w3.heap.size w3 w5:=hb34.trans (hg5.below (fun g hg=>ho4'.lt g hg) hs4)
              have hs5:=hb35.size
              (try dsimp only)
              refine hK.out _ _ (HV3.out.below hb35 hT3).c9 (fun hH=>?_)
              (try simp only [Act.put,List.setIfInBounds_toArray,List.set_cons_zero,List.set_cons_succ])
              clear hK
              refine wpAnyH_ready (rs:=[14]) (by kernel_rfl) (by simp) ?_
              refine reg_cons _ rfl (fun K' hK=>?_) AllReadyH.nil
              go_simp
              go_at_call 55
              refine (ftwo_at v5 (P++two q) w3.heap.size r w5 ho5 hr16 hs5 (by simp;omega)).mono ?_
              rintro e w6 ⟨v6,rfl,ho6,hg6⟩
              have hb36:Below w3.heap.size w3 w6:=hb35.trans (hg6.below (fun g hg=>ho5.lt g hg) hs5)
              have hs6:=hb36.size
              (try dsimp only)
              refine hK.out _ _ (HV3.out.below hb36 hT3).c9 (fun hH=>?_)
              (try simp only [Act.put,List.setIfInBounds_toArray,List.set_cons_zero,List.set_cons_succ])
              clear hK
              refine reg_take 15 (v:=?_) rfl (by kernel_rfl) (fun _ _ _ h=>h) (by rfl) hH ?_ ?_
              rotate_left
              ·intro w hSw;(try dsimp only at hSw);go_simp;(try with_reducible rfl)
              (try simp only [Act.put,List.setIfInBounds_toArray,List.set_cons_zero,List.set_cons_succ])
              refine wpAnyH_done (by kernel_rfl) ?_ _
              obtain ⟨P6,hP6⟩:∃ P6,P6=P++two q++two r:=⟨_,rfl⟩
              rw [←hP6] at ho6
              have hP6l:P6.length≤L+608:=by rw [hP6];simp;omega
              have HP6:=Lib.hid hP6
              have hb06:Below wr.heap.size wr w6:=HB03.out.trans (hb36.mono hs3)
              have hOk6:=Lib.hid (HOk.out.far hb06)
              have hk2:ic (askB s p.r.q).2=ic s.2++[.int .i64 (L:Int)]:=by
               have h1:=HSL.out
               simp [askB,ic,h1]
              have HIC:=Lib.hid hk2
              have hk3:(askB s p.r.q).2.length=K+1:=by
               have h1:=HSK.out
               simp [askB,h1]
              have HK3:=Lib.hid hk3
              have hd6:=HRD.out.goes hb36
              have HD6:=Lib.hid hd6
              have hdl16:DL<65536:=by omega
              have hlt10:∀ g,(Value.slice A2 K c2).ownBlock=some g→g<wr.heap.size∧W2.heap.size≤g:=fun g hg=>⟨ow_block_lt HOk.out g hg,HOk.out.lt g hg⟩
              have H10:=Lib.hid hlt10
              have hKb:K≤1000000:=by have:=HKC.out;have:=HCC.out;omega
              have HB06:=Lib.hid hb06
              have HO6:=Lib.hid ho6
              clear hH hk2 hk3 hd6 hlt10 hP6 ho4 ho4' ho5 hg5 hg6 hb34 hb35 hb4 ho6 hb06 k1 k2 k3 k4 k5 k6 k7 k8
              go_wp2_with (first
               | (at_builtin;refine wpList_app _ rfl _ _ _ _ rfl w3.heap.size 5 i0 (.int .u8 0) 1 Tryz.underlying22 hi hz0 hz1 hz2 rfl (Nat.le_refl _) _ _ ho8 rfl DL (bc (dataR p.r)) (hd8.src Tryz.underlying22 (bc_one _)) (by simp;omega) hs38 ?_
                  intro v9 w9 ho9 hg9 hs9
                  rw [←bc_app] at ho9)
               | (go_at_call 55
                  refine (ftwo_at v6 P6 w3.heap.size DL w7 ho7 hdl16 hs37 (by omega)).mono ?_
                  rintro e w8 ⟨v8,rfl,ho8,hg8⟩
                  have hd8:Rd w8 w8.heap.size Ad DL (bc (dataR p.r)):=hd7.grA hg8 (fun h0 a ha h1=>by
                   have h2:=ho7.lt _ h1
                   have h3:=(HADR.out h0 a ha).1
                   omega)
                  have hs38:w3.heap.size≤w8.heap.size:=Nat.le_trans hs37 hg8.1.size)
               | (at_builtin;refine wpList_app _ rfl _ _ _ _ rfl W2.heap.size 3 j0 (.int .i64 0) 8 Tryz.underlying48 hj' hy0 hy1 hy2 rfl (by omega) _ _ (hOk6.out.alloc _) rfl 1 [.int .i64 (L:Int)] (lit_src Tryz.underlying48 _ _ 1 rfl (by simp [maxLen]) (by simp;rfl)) (by have:=HSK.out;simp [ic,this];omega) (by simp;omega) ?_
                  intro v7 w7 ho10 hg7 hs7
                  rw [←HIC.out] at ho10
                  obtain ⟨A7,c7,rfl,hc7,_⟩:=Ow.form7 ho10 (K+1) (by simp [ic,HK3.out])
                  have ho7:Ow w7 w3.heap.size 5 v6 (bc P6):=(HO6.out.alloc _).kept hg7 (fun g h1 h2=>by
                   have e1:=HO6.out.lt g h1
                   have e2:=(H10.out g h2).1
                   omega)
                  have hd7:Rd w7 w7.heap.size Ad DL (bc (dataR p.r)):=((HD6.out.below (below_new w6 _)).more (below_new w6 _).size).grA hg7 (fun h0 a ha h1=>by
                   have h2:=H10.out _ h1
                   rcases (HADR.out h0 a ha).2 with h3 | h3 <;> omega)
                  have hs37:w3.heap.size≤w7.heap.size:=Nat.le_trans hs6 (Nat.le_trans (below_new w6 _).size hg7.1.size)))
              obtain ⟨L9,hL9⟩:∃ L9,L9=(P6++two DL++dataR p.r).length:=⟨_,rfl⟩
              have hL9b:L9≤10000:=by
               rw [hL9]
               have h1:=HDL.out
               simp only [List.length_append,two_length]
               omega
              obtain ⟨A9,c9,rfl,hc9,_⟩:=Ow.form7 ho9 L9 (by rw [bc_length,hL9])
              have hrec:(recB s p.r).1=P6++two DL++dataR p.r:=by
               rw [HP6.out,HPP.out,HQ.out,HRr.out,←HDL.out]
               simp [recB,twos]
              have h78:∀ g,(Value.slice A7 (K+1) c7).ownBlock=some g→v6.ownBlock≠some g:=fun g h1 h2=>by
               have e1:=ow_block_lt HO6.out g h2
               have e2:=HO6.out.lt g h2
               rcases hg7.2 g h1 with e3 | e3
               ·have:=(H10.out g e3).1
                omega
               ·have e4:=(below_new w6 (.cells #[.int .i64 (L:Int)] 3)).size
                omega
              have h79:∀ g,(Value.slice A7 (K+1) c7).ownBlock=some g→v8.ownBlock≠some g:=fun g h1 h2=>by
               have e1:=ow_block_lt ho10 g h1
               rcases hg8.2 g h2 with e3 | e3
               ·exact h78 g h1 e3
               ·omega
              have hbb7:W2.heap.size≤w7.heap.size:=by omega
              have hbb8:W2.heap.size≤w8.heap.size:=by omega
              have hbfin:Below W2.heap.size wr w9:=(HB06.out.mono hsz).trans (((below_new w6 _).mono (by omega)).trans ((hg7.below (fun g hg=>(H10.out g hg).2) (by simp;omega)).trans ((hg8.below (fun g hg=>Nat.le_trans hbase3 (ho7.lt g hg)) hbb7).trans (hg9.below (fun g hg=>Nat.le_trans hbase3 (ho8.lt g hg)) hbb8))))
              go_roundw
              case rel=>
               refine ⟨k+1,recB s p.r,L9,K+1,A9,A7,c9,c7,by omega,by go_num,rfl,rfl,hc9,hL9b,by omega,Lib.hid (by have:=HKC.out;omega),Lib.hid (by rw [hrec,hL9]),Lib.hid HK3.out,Lib.hid ?_,Lib.hid ((ho10.kept hg8 h78).kept hg9 h79),Lib.hid (Or.inl HQT.out.symm),Lib.hid (HB.out.trans hbfin)⟩
               rw [hrec]
               exact ho9.mono hbase3
              case measure=>simp [intOf];omega
            ·have hkn:cn=k:=by omega
             have hge':(cn:Int)≤(k:Int):=by omega
             go_wp2_with fail
             go_roundw
             case rel=>
              refine ⟨i+1,s,L,K,A1,A2,c1,c2,by omega,by go_num,rfl,rfl,hLc,hL1,hK1,Lib.hid (by have h1:=HKC.out;have h2:=HCT.out;omega),HSL,HSK,HOb,HOk,Lib.hid ?_,HB⟩
              have h:=HCU.out
              rw [←hkn,←HCN.out,←List.length_map (f:=RR.r),List.take_length] at h
              exact h
             case measure=>simp [intOf];omega
          ·have hi3':i=3:=by omega
           have hge':(3:Int)≤(i:Int):=by omega
           have hcu:=HCU.out
           rw [hi3',stW_body] at hcu
           have HCU2:=Lib.hid hcu
           clear hcu hi3' HCU HKC
           rcases Nat.lt_or_ge 4096 L with hlong | hshort
           ·have hlong':(4096:Int)<(L:Int):=by omega
            have hr1:rr=([],3):=by
             have hf:4096<(formM x.m).length:=by
              rcases HCU2.out with h | h
              ·show 4096<(bodyB x.m).1.length
               rw [←h,HSL.out];exact hlong
              ·exact h.2
             rw [HRR.out];unfold writeM
             rw [if_neg (by rw [HR.out];simp),if_neg (by rw [←HNN.out];omega),if_pos hf]
            subst hr1
            go_wp2_with fail
            go_ret2
            exact ⟨_,rfl,Ow.nil _ _ _,HFIN.out _ HB.out⟩
           ·have hshort':(L:Int)≤4096:=by omega
            have hex:s=bodyB x.m:=by
             rcases HCU2.out with h | h
             ·exact h
             ·have:=HSL.out;omega
            have hr1:rr=(s.1,0):=by
             rw [HRR.out];unfold writeM
             have hf:formM x.m=s.1:=by rw [hex];rfl
             rw [if_neg (by rw [HR.out];simp),if_neg (by rw [←HNN.out];omega),if_neg (by rw [hf,HSL.out];omega),hf]
            clear hex
            subst hr1
            go_wp2_with fail
            go_ret2
            exact ⟨_,rfl,HOb.out.mono (by omega),HFIN.out _ HB.out⟩
def ansP (n:List (List UInt8)) (ty:Nat) (r:Rc):Bool:=decide (r.q.ty=ty) && (decide (r.q.cl=1) && decide (r.q.nm=n))
theorem ans_take (l:List RR) (n:List (List UInt8)) (ty k:Nat) (h:k<l.length):((l.take (k+1)).map RR.r).filter (ansP n ty)=((l.take k).map RR.r).filter (ansP n ty)++(if ansP n ty l[k].r=true then [l[k].r] else []):=by
 rw [take_map_snoc RR.r l k h,List.filter_append]
 congr 1
 simp only [List.filter_cons,List.filter_nil]
set_option maxRecDepth 100000 in
set_option maxHeartbeats 16000000 in
theorem fanswers_at (x:MR) (A0:Option Addr) (c0 n0:Nat) (nm:List (List UInt8)) (ty:Nat) (w:World) (h:MRd w w.heap.size x) (hn0:nm.length=n0) (hnm:NRd w w.heap.size A0 c0 nm) (hty:ty<65536) :
 Calls Tryz.prog 95 #[.agg x.cells.toArray,.slice A0 n0 c0,.int .u16 (ty:Int)] w fun e w'=>∃ (l:List RR) (A':Option Addr) (c':Nat),e = .returned (.slice A' l.length c')∧l.map RR.r=answersM x.m nm ty∧RsRd w' w'.heap.size A' c' l.length l∧Below w.heap.size w w':=by
 obtain ⟨j0,hj',hy0,hy1,hy2⟩:=info_parts Tryz.infoRf
 obtain ⟨n,hn⟩:∃ n,n=x.r0.length:=⟨_,rfl⟩
 have hnb:n≤1000000000000:=by rw [hn];exact h.2.2.2.1.2.2.2.1
 have HN:=Lib.hid hn.symm
 have hxc:x.cells[3]? = some (.slice x.aA n x.ac):=by rw [hn];rfl
 have HX:=Lib.hid h
 have HNM:=Lib.hid hnm
 have HN0:=Lib.hid hn0
 obtain ⟨W1,hW1⟩:∃ W1,W1=w.alloc (.cells x.cells.toArray 47):=⟨_,rfl⟩
 have hv1:Vx W1 w.heap.size 47 x.cells:=by rw [hW1];exact Vx.new _ _ _
 have hb01:Below w.heap.size w W1:=by rw [hW1];exact below_new _ _
 have VX:=Lib.hid hv1
 have HB01:=Lib.hid hb01
 have HW1:=Lib.hid hW1
 have hT:w.heap.size<W1.heap.size:=hv1.lt
 clear h hnm hn hW1 hv1 hb01 hn0
 go_enter Tryz.func95,Tryz.ntmps95
 go_upto_region 1 with fail
 generalize hW2:World.alloc w _=W2
 have eW:W2=W1:=hW2.symm.trans HW1.out.symm
 clear hW2 HW1
 subst eW
 go_wp2_with fail
 go_loopw [7,8] (fun v7 vi wr=>∃ (k L:Nat) (l:List RR) (A:Option Addr) (c:Nat),k≤n∧vi = .int .i64 k∧v7 = .slice A L c∧L≤k∧Hid (l.length=L)∧Hid (l.map RR.r=((x.r0.take k).map RR.r).filter (ansP nm ty))∧Hid (OwM wr W2.heap.size 42 9 (.slice A L c) L (rcs l))∧Hid (∀ y∈l,RRd w w.heap.size y)∧Hid (Below W2.heap.size W2 wr)) (fun _ vi _=>n - (intOf vi).toNat)
 case atStart=>exact ⟨0,0,[],none,0,Nat.zero_le _,rfl,rfl,Nat.le_refl _,Lib.hid rfl,Lib.hid rfl,Lib.hid (OwM.nil _ _ _ _),Lib.hid (fun y hy=>by cases hy),Lib.hid (Below.refl _ _)⟩
 case round=>
  obtain ⟨k,L,l,A,c,hk,rfl,rfl,hLk,HL,HM,HO,HRs,HB⟩:=hrel
  have m3:wr.cell? ⟨w.heap.size,3,none⟩=some (.slice x.aA n x.ac):=((VX.out.below HB.out hT).cell 3).trans hxc
  have hb0r:=HB01.out.trans (HB.out.mono HB01.out.size)
  rcases Nat.lt_or_ge k n with hlt | hge
  ·have hlx:k<x.r0.length:=by have:=HN.out;omega
   have hQ1:RsRd wr w.heap.size x.aA x.ac n x.r0:=by rw [←HN.out];exact HX.out.2.2.2.1.below hb0r
   obtain ⟨b,o,hA1,hb1,hc⟩:=hQ1.at_ hlt
   have hnine:=(hc hlx).cells
   have hp:=hQ1.2.2.2.2 _ (List.getElem_mem hlx)
   have hp0:RRd w w.heap.size x.r0[k]:=HX.out.2.2.2.1.2.2.2.2 _ (List.getElem_mem hlx)
   have htk:=ans_take x.r0 nm ty k hlx
   generalize x.r0[k]=p at *
   obtain ⟨d0,d1,d2,d3,d4,d5,d6,d7,d8⟩:=hnine
   rw [hA1] at m3
   have hsz:=HB.out.size
   have hb1':b<wr.heap.size:=by omega
   have hlt':(k:Int)<(n:Int):=by omega
   obtain ⟨b1,hb1q⟩:∃ b,b=decide (p.r.q.ty=ty):=⟨_,rfl⟩
   obtain ⟨b2,hb2q⟩:∃ b,b=decide (p.r.q.cl=1):=⟨_,rfl⟩
   obtain ⟨b3,hb3q⟩:∃ b,b=decide (p.r.q.nm=nm):=⟨_,rfl⟩
   have hP:ansP nm ty p.r=(b1 && (b2 && b3)):=by rw [hb1q,hb2q,hb3q];rfl
   have e1:((p.r.q.ty:Int) == (ty:Int))=b1:=by rw [hb1q,Bool.eq_iff_iff,beq_iff_eq,decide_eq_true_iff];omega
   have e2:((p.r.q.cl:Int) == 1)=b2:=by rw [hb2q,Bool.eq_iff_iff,beq_iff_eq,decide_eq_true_iff];omega
   have K3:=Lib.hid (fun (w2:World) (hb:Below wr.heap.size wr w2)=>(show Calls Tryz.prog 137 #[.slice p.A p.r.q.nm.length p.c,.slice A0 n0 c0] w2 fun e w'=>e = .returned (.bool b3)∧∃ q,w'=w2.drewN q by
    rw [hb3q]
    have hb0:=hb0r.trans (hb.mono (show w.heap.size≤wr.heap.size by omega))
    exact names_at _ _ _ _ _ _ _ _ w2 w2.heap.size rfl HN0.out ((hp0.1.1.below hb0).more hb0.size) ((HNM.out.below hb0).more hb0.size)))
   have HTK:=Lib.hid htk
   have HPP:=Lib.hid hP
   have HP0:=Lib.hid hp0
   have HB0r:=Lib.hid hb0r
   have hv9:=Vx.new wr 42 [.slice p.A p.r.q.nm.length p.c,.int .u16 (p.r.q.ty:Int),.int .u16 (p.r.q.cl:Int),.int .u32 (p.r.ttl:Int),.slice p.dA p.r.d.length p.dc,.int .u16 (p.r.pr:Int),.int .u16 (p.r.we:Int),.int .u16 (p.r.po:Int),.slice p.tA p.r.tg.length p.tc]
   have hbA:=below_new wr (.cells #[.slice p.A p.r.q.nm.length p.c,.int .u16 (p.r.q.ty:Int),.int .u16 (p.r.q.cl:Int),.int .u32 (p.r.ttl:Int),.slice p.dA p.r.d.length p.dc,.int .u16 (p.r.pr:Int),.int .u16 (p.r.we:Int),.int .u16 (p.r.po:Int),.slice p.tA p.r.tg.length p.tc] 42)
   obtain ⟨e_0,e_1,e_2,e_3,e_4,e_5,e_6,e_7,e_8⟩:=hv9.c9
   clear hc hb1 hQ1 hA1 hp hp0 htk hb1q hb2q hb3q hP hb0r
   go_wp2_with (first
    | (go_at_call 137
       refine (K3.out _ hbA).mono ?_
       rintro e w3 ⟨rfl,q,hw3⟩
       have hb3:Below wr.heap.size wr w3:=by rw [hw3];exact bl_drewN hbA q
       have hv3:Vx w3 wr.heap.size 42 [.slice p.A p.r.q.nm.length p.c,.int .u16 (p.r.q.ty:Int),.int .u16 (p.r.q.cl:Int),.int .u32 (p.r.ttl:Int),.slice p.dA p.r.d.length p.dc,.int .u16 (p.r.pr:Int),.int .u16 (p.r.we:Int),.int .u16 (p.r.po:Int),.slice p.tA p.r.tg.length p.tc]:=by rw [hw3];exact hv9.drewN q
       have hsz3:wr.heap.size≤w3.heap.size:=hb3.size
       clear hw3)
    | (refine wpList_load_row rfl 42 _ rfl wr.heap.size rfl _ _ _ _ hv3 Tryz.underlying42 rfl (by kernel_rfl) ?_)
    | (at_builtin;refine wpList_appM _ rfl _ _ _ _ rfl W2.heap.size 9 42 j0 _ 96 Tryz.underlying43 hj' hy0 hy1 hy2 rfl (by omega) (.slice A L c) L (rcs l) ((HO.out.far hb3).alloc _) rfl 1 (RR.cells p) (litM_src Tryz.underlying43 _ 9 _ 1 rfl (rcells_one p)) (by omega) (by simp;omega) ?_
       intro v5 w5 hown5 hgr5 hsz5
       obtain ⟨A5,c5,rfl,hc5,_,_⟩:=hown5.form))
   ·have hbn:b3=true:=by assumption
    have h1:b1=true:=by assumption
    have h2:b2=true:=by assumption
    have hyes:ansP nm ty p.r=true:=by rw [HPP.out,hbn,h1,h2];rfl
    have hbl5:Below W2.heap.size wr w5:=(hb3.mono hsz).trans (((below_new w3 _).mono (by omega)).trans (hgr5.below (OwM.lt HO.out) (by simp;omega)))
    go_roundw
    case rel=>
     refine ⟨k+1,L+1,l++[p],A5,c5,by omega,by go_num,rfl,by omega,Lib.hid (by simp [HL.out]),Lib.hid ?_,Lib.hid ?_,Lib.hid ?_,Lib.hid (HB.out.trans hbl5)⟩
     ·rw [HTK.out,if_pos hyes,List.map_append,HM.out];rfl
     ·rw [rcs_snoc];exact hown5
     ·intro y hy
      rcases List.mem_append.1 hy with hy | hy
      ·exact HRs.out y hy
      ·simp at hy;subst hy;exact HP0.out
    case measure=>simp [intOf];omega
   all_goals
    have hno:ansP nm ty p.r=false:=by
     rw [HPP.out]
     first
      | (have h1:b3=false:=by assumption
         simp [h1])
      | (have h1:¬ b2=true:=by assumption
         simp [h1])
      | (have h1:¬ b1=true:=by assumption
         simp [h1])
    go_roundw
    case rel=>
     refine ⟨k+1,L,l,A,c,by omega,by go_num,rfl,by omega,HL,Lib.hid (by rw [HTK.out,if_neg (by rw [hno];simp),List.append_nil];exact HM.out),Lib.hid ?_,HRs,Lib.hid ?_⟩
     ·first | exact HO.out.far hb3 | exact HO.out.far hbA
     ·first | exact HB.out.trans (hb3.mono hsz) | exact HB.out.trans (hbA.mono hsz)
    case measure=>simp [intOf];omega
  ·have hkn:n=k:=by omega
   have hge':(n:Int)≤(k:Int):=by omega
   go_wp2_with fail
   go_ret
   have hl:=HL.out
   refine ⟨l,A,c,by rw [hl];rfl,?_,?_,hb0r⟩
   ·rw [HM.out,←hkn,←HN.out,List.take_length];rfl
   ·have h1:=HO.out
    rw [←hl] at h1
    exact ⟨OwM.rd h1,rfl,OwM.cap h1,by omega,fun y hy=>((HRs.out y hy).below hb0r).more hb0r.size⟩
end Go.Proofs.YtlipmlbijddopaaGreatDoor
