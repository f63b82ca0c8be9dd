/-
  TextsP; SrvK; SrvV
-/
import Derived.Test.YtlipmlbijddopaaGreatDoorZ23
import Derived.Test.YtlipmlbijddopaaGreatDoorZ05
import Derived.Test.YtlipmlbijddopaaGreatDoorZ08
import Derived.WalkMore
import Derived.Test.YtlipmlbijddopaaGreatDoorZ26
import Derived.Test.YtlipmlbijddopaaGreatDoorZ19
import Derived.Test.YtlipmlbijddopaaGreatDoorZ18
set_option linter.unusedVariables false
set_option linter.unusedSimpArgs false
namespace Go.Proofs.YtlipmlbijddopaaGreatDoor
open Go.RowKit
namespace Tx
theorem parse_eq {s:List UInt8} {x:List (List UInt8)} {e:Nat} (h:rparse s=(x,e)):parseN s=(x,(e:Int)):=by rw [←rparse_eq s,h]
theorem text_of_parse {s:List UInt8} {x:List (List UInt8)} (h:rparse s=(x,0)):textN x=smallS s∧rightN x=true:=by
 have h:=parse_eq h
 unfold parseN at h
 by_cases h1:smallS s=[46]
 ·rw [if_pos h1] at h
  cases h
  exact ⟨h1.symm,rfl⟩
 ·rw [if_neg h1] at h
  by_cases h2:1020<s.length
  ·rw [if_pos h2] at h;cases h
  ·rw [if_neg h2] at h
   split at h
   ·rename_i h3
    have:=(Prod.mk.inj h).1
    subst this
    exact ⟨h3.2,h3.1⟩
   ·cases h
end Tx
end Go.Proofs.YtlipmlbijddopaaGreatDoor
set_option linter.unusedVariables false
set_option linter.unusedSimpArgs false
namespace Go.Proofs.YtlipmlbijddopaaGreatDoor
open Go.RowKit
theorem and_bit (a k:Nat):(a &&& 2 ^ k=0) ↔ a / 2 ^ k % 2=0:=by
 have ht:a.testBit k=decide (a / 2 ^ k % 2=1):=Nat.testBit_eq_decide_div_mod_eq
 constructor
 ·intro h
  have h1:=congrArg (fun x=>Nat.testBit x k) h
  simp only [Nat.testBit_and,Nat.testBit_two_pow,Nat.zero_testBit,decide_true,Bool.and_true,ht,decide_eq_false_iff_not] at h1
  omega
 ·intro h
  apply Nat.eq_of_testBit_eq
  intro j
  rw [Nat.testBit_and,Nat.testBit_two_pow,Nat.zero_testBit]
  by_cases hj:k=j
  ·subst hj;rw [ht];simp [h]
  ·simp [hj]
theorem bit15 (a:Nat) (ha:a<65536):(bits .and .u16 (a:Int) 32768 == 0)=decide (a / 32768 % 2=0):=by
 have:=u16_and_nat a 32768 ha (by omega)
 rw [show ((32768:Nat):Int)=32768 from rfl] at this
 rw [this,Bool.eq_iff_iff]
 have hb:=and_bit a 15
 rw [show (2:Nat) ^ 15=32768 from rfl] at hb
 simp only [beq_iff_eq,decide_eq_true_eq]
 omega
theorem bit9 (a:Nat) (ha:a<65536):(bits .and .u16 (a:Int) 512 == 0)=decide (a / 512 % 2=0):=by
 have:=u16_and_nat a 512 ha (by omega)
 rw [show ((512:Nat):Int)=512 from rfl] at this
 rw [this,Bool.eq_iff_iff]
 have hb:=and_bit a 9
 rw [show (2:Nat) ^ 9=512 from rfl] at hb
 simp only [beq_iff_eq,decide_eq_true_eq]
 omega
theorem low4 (a:Nat) (ha:a<65536):(bits .and .u16 (a:Int) 15 == 0)=decide (a % 16=0):=by
 have:=u16_and_nat a 15 ha (by omega)
 rw [show ((15:Nat):Int)=15 from rfl] at this
 rw [this,Bool.eq_iff_iff]
 have hb:=Nat.and_two_pow_sub_one_eq_mod a 4
 rw [show (2:Nat) ^ 4 - 1=15 from rfl,show (2:Nat) ^ 4=16 from rfl] at hb
 simp only [beq_iff_eq,decide_eq_true_eq]
 omega
set_option maxRecDepth 100000 in
set_option maxHeartbeats 1000000 in
theorem sask_at (id:Nat) (s:List UInt8) (w:World) (hid:id<65536) (hs:s.length≤1000000) :
 Calls Tryz.prog 32 #[.int .u16 (id:Int),.string ⟨s.toArray⟩] w fun e w'=>∃ v,e = .returned (.tuple #[v,.int .i64 ((Srv.askN id s).2:Int)])∧Ow w' w.heap.size 5 v (bc (Srv.askN id s).1)∧Below w.heap.size w w':=by
 obtain ⟨p,hp⟩:∃ p,p=rparse s:=⟨_,rfl⟩
 obtain ⟨q,ep⟩:=p
 have K:=Lib.hid (parse_all s w q ep hp.symm hs)
 by_cases hc:ep≠0∨q.length=0
 ·have hr:Srv.askN id s=([],180):=by unfold Srv.askN;rw [←hp];exact if_pos hc
  rw [hr]
  clear hr hp
  by_cases he:ep=0
  ·have hq0:q.length=0:=by
    rcases hc with h | h
    ·exact absurd he h
    ·exact h
   have hee:((ep:Int) == 0)=true:=by rw [beq_iff_eq];omega
   have HQ:=Lib.hid hq0
   clear hc he hq0
   go_enter Tryz.func32,Tryz.ntmps32
   go_wp2_with (go_at_call 73
                refine K.out.mono ?_
                rintro e w1 ⟨v1,rfl,ho1,hb1⟩
                obtain ⟨A1,c1,rfl,_,_⟩:=ho1.form6 0 (by rw [sc_length,HQ.out]))
   all_goals go_ret2
   all_goals exact ⟨_,rfl,Ow.nil _ _ _,hb1⟩
  ·have hee:((ep:Int) == 0)=false:=by rw [beq_eq_false_iff_ne];omega
   clear hc he
   go_enter Tryz.func32,Tryz.ntmps32
   go_wp2_with (go_at_call 73
                refine K.out.mono ?_
                rintro e w1 ⟨v1,rfl,ho1,hb1⟩
                obtain ⟨A1,c1,rfl,_,_⟩:=ho1.form6 q.length (by rw [sc_length]))
   all_goals go_ret2
   all_goals exact ⟨_,rfl,Ow.nil _ _ _,hb1⟩
 ·have hr:Srv.askN id s=writeM (Srv.askM id q):=by unfold Srv.askN;rw [←hp];exact if_neg hc
  rw [hr]
  have he:ep=0:=Classical.byContradiction fun h=>hc (.inl h)
  have hq0:q.length≠0:=fun h=>hc (.inr h)
  subst he
  have hrt:=(Tx.text_of_parse hp.symm).2
  have HS:Hid (sizeN q≤140737488355328):=Lib.hid (by have:=size_right hrt;omega)
  clear hc hr hp hrt
  obtain ⟨L,hL⟩:∃ L,L=q.length:=⟨_,rfl⟩
  have hL0:((L:Int) == 0)=false:=by rw [beq_eq_false_iff_ne];omega
  have HL:=Lib.hid hL.symm
  have h33:(33:Nat)<65536:=by omega
  clear hq0 hL
  go_enter Tryz.func32,Tryz.ntmps32
  go_wp2_with (first
   | (go_at_call 74
      refine (query_at id 33 A1 c1 L q w1 HL.out HN.out hid h33).mono ?_
      rintro e w2 ⟨v2,rfl,ho2,hb2⟩)
   | (go_at_call 73
      refine K.out.mono ?_
      rintro e w1 ⟨v1,rfl,ho1,hb1⟩
      obtain ⟨A1,c1,rfl,hc1,hr1⟩:=ho1.form6 L (by rw [sc_length,HL.out])
      have hnr:NRd w1 w1.heap.size A1 c1 q:=⟨by rw [HL.out];exact hr1,by rw [HL.out];exact hc1,HS.out⟩
      have HN:=Lib.hid hnr
      clear hnr hr1 ho1))
  go_ret2
  exact ⟨_,rfl,ho2.mono hb1.size,hb1.trans (hb2.mono hb1.size)⟩
theorem mow_only {w w':World} {base g:Nat} {x:MR} (h:MOw w base x) (hO:Only w w' g) (hg:g<base):MOw w' base x:=
 ⟨OwM.only h.q hO hg,OwM.only h.a hO hg,OwM.only h.b hO hg,OwM.only h.c hO hg,fun o ho=>OwM.only (h.n o ho) hO hg,fun o ho=>OwM.only (h.r0 o ho) hO hg,fun o ho=>OwM.only (h.r1 o ho) hO hg,fun o ho=>OwM.only (h.r2 o ho) hO hg⟩
theorem mow_far {w w':World} {base:Nat} {x:MR} (h:MOw w base x) (hb:Below w.heap.size w w'):MOw w' base x:=
 ⟨OwM.far h.q hb,OwM.far h.a hb,OwM.far h.b hb,OwM.far h.c hb,fun o ho=>OwM.far (h.n o ho) hb,fun o ho=>OwM.far (h.r0 o ho) hb,fun o ho=>OwM.far (h.r1 o ho) hb,fun o ho=>OwM.far (h.r2 o ho) hb⟩
set_option maxRecDepth 100000 in
set_option maxHeartbeats 4000000 in
theorem sasked_at (A:Option Addr) (c:Nat) (b:List UInt8) (L:Nat) (w:World) (hL:b.length=L) (h:Rd w w.heap.size A L (bc b)) (hc:L≤c) (hb:L≤140737488355328) :
 Calls Tryz.prog 78 #[.slice A L c] w fun e w'=>∃ x:MR,e = .returned (.tuple #[.agg x.cells.toArray,.bool (Srv.askedB b)])∧(Srv.askedB b=true→x.m=(readM b).1)∧MRd w' w'.heap.size x∧Below w.heap.size w w':=by
 obtain ⟨p,hp⟩:∃ p,readM b=p:=⟨_,rfl⟩
 obtain ⟨m,er⟩:=p
 obtain ⟨R,hR⟩:∃ R,R=Srv.askedB b:=⟨_,rfl⟩
 have hRe:R=(decide (er=0) && Srv.askedM m):=by rw [hR];unfold Srv.askedB;rw [hp]
 rw [←hR,hp]
 have hA1:=bl_new w (.cells #[.int .u16 0,.int .u16 0,.slice none 0 0,.slice none 0 0,.slice none 0 0,.slice none 0 0] 72)
 have HZ1:=Lib.hid (Vx.new w 72 [.int .u16 0,.int .u16 0,.slice none 0 0,.slice none 0 0,.slice none 0 0,.slice none 0 0])
 have hrd:=h.goes hA1
 subst hL
 obtain ⟨W1,hW1⟩:∃ W1,W1=w.alloc (.cells #[.int .u16 0,.int .u16 0,.slice none 0 0,.slice none 0 0,.slice none 0 0,.slice none 0 0] 72):=⟨_,rfl⟩
 rw [←hW1] at hrd
 have K:Hid (Calls Tryz.prog 33 #[.slice A b.length c] W1 fun e w'=>∃ x:MR,x.m=m∧e = .returned (.tuple #[.agg x.cells.toArray,.int .i64 (er:Int)])∧(b.length≠0→MOw w' W1.heap.size x)∧MRd w' w'.heap.size x∧Below W1.heap.size W1 w'):=Lib.hid (by
  by_cases hz:b.length=0
  ·refine (readE_at A c b m er hp _ hrd hc hb).mono ?_
   rintro e w' ⟨x,h1,h2,h3,h4⟩
   exact ⟨x,h1,h2,fun h=>absurd hz h,h3,h4⟩
  ·refine (readO_at A c b m er hp _ hrd hc (fun a ha=>?_) hb).mono ?_
   ·obtain ⟨bb,o,e,hb,_⟩:=hrd.2 (by omega)
    rw [e] at ha
    cases ha
    exact hb
   ·rintro e w' ⟨x,h1,h2,h3,h4,h5⟩
    exact ⟨x,h1,h2,fun _=>h3,h4,h5⟩)
 have HNZ:Hid (b.length=0→er≠0):=Lib.hid (fun e=>by
  have hb0:b=[]:=List.eq_nil_of_length_eq_zero e
  subst hb0
  have:er=171:=(congrArg Prod.snd hp).symm
  omega)
 have HP:=Lib.hid hp
 rw [hW1] at K
 have hW1s:(w.alloc (.cells #[.int .u16 0,.int .u16 0,.slice none 0 0,.slice none 0 0,.slice none 0 0,.slice none 0 0] 72)).heap.size=w.heap.size+1:=by simp
 have HRE:=Lib.hid hRe
 have HB1:=Lib.hid hA1
 clear hR hRe hp hrd hA1 h hW1
 go_enter Tryz.func78,Tryz.ntmps78
 go_upto_region 2 with (go_at_call 33
                        refine K.out.mono ?_
                        rintro e w2 ⟨x,hxm,rfl,hxo,hxr,hb2⟩
                        rw [hW1s] at hxo
                        have HXO:=Lib.hid hxo
                        have HXM:=Lib.hid hxm
                        have HXR:=Lib.hid hxr
                        have HB2:=Lib.hid (HB1.out.trans (hb2.mono HB1.out.size))
                        have HZ2:=Lib.hid (HZ1.out.below hb2 HZ1.out.lt)
                        clear hxm hxr hxo hb2 hW1s
                        obtain ⟨id,fl,qA,qc,qs,aA,ac,r0,bA,bd,r1,cA,cc,r2⟩:=x
                        unfold MR.cells
                        dsimp only)
 obtain ⟨G2,hG2⟩:∃ G2,G2=w.heap.size:=⟨_,rfl⟩
 have hG2a:w.heap.size≤G2:=by omega
 rw [←hG2] at HZ2 HXO ⊢
 have hV3:=Vx.new w2 72 [.int .u16 (id:Int),.int .u16 (fl:Int),.slice qA qs.length qc,.slice aA r0.length ac,.slice bA r1.length bd,.slice cA r2.length cc]
 have hb23:=bl_new w2 (.cells #[.int .u16 (id:Int),.int .u16 (fl:Int),.slice qA qs.length qc,.slice aA r0.length ac,.slice bA r1.length bd,.slice cA r2.length cc] 72)
 have HZ3:=Lib.hid (HZ2.out.below hb23 HZ2.out.lt)
 have HX3:=Lib.hid ((HXR.out.below hb23).more hb23.size)
 have HB3:=Lib.hid (HB2.out.trans (hb23.mono HB2.out.size))
 obtain ⟨G4,hG4⟩:∃ G4,G4=w2.heap.size:=⟨_,rfl⟩
 have hne24:G2≠G4:=by have:=HZ2.out.lt;omega
 rw [←hG4] at hV3 ⊢
 generalize w2.alloc (.cells #[.int .u16 (id:Int),.int .u16 (fl:Int),.slice qA qs.length qc,.slice aA r0.length ac,.slice bA r1.length bd,.slice cA r2.length cc] 72)=w3 at hV3 HZ3 HX3 HB3 hb23 ⊢
 have HV3:=Lib.hid hV3
 have HB23:=Lib.hid hb23
 clear hV3 hb23 HXR HB2 HZ2 HZ1 HB1 hG2 hG4
 obtain ⟨hid,hfl,hq3,ha3,hb3,hc3⟩:=HX3.out
 dsimp only at hfl hq3 ha3 hb3 hc3
 have hbit:=bit15 fl hfl
 have hqn:=hq3.2.2.2.1
 have han:=ha3.2.2.2.1
 have hbn:=hb3.2.2.2.1
 have hcn:=hc3.2.2.2.1
 have HQ3:=Lib.hid hq3
 have hxf:m.fl=fl∧m.qs=qs.map QR.q∧m.r0.length=r0.length∧m.r1.length=r1.length∧m.r2.length=r2.length:=by
  rw [←HXM.out];simp [MR.m]
 have HXF:=Lib.hid hxf
 clear ha3 hb3 hc3 hq3 hid hxf
 obtain ⟨v0,v1,v2,v3,v4,v5⟩:=HV3.out.c6
 by_cases hgood:er=0∧fl / 32768 % 2=0∧qs.length=1∧r0.length+r1.length+r2.length=0
 ·obtain ⟨h1,h2,h3,h4⟩:=hgood
  have hlb:b.length≠0:=fun e=>HNZ.out e h1
  have herf:((er:Int) != 0)=false:=by rw [h1];rfl
  have hlenf:((qs.length:Int) != 1)=false:=by rw [h3];rfl
  have hbitm:(bits .and .u16 (fl:Int) 32768 != 0)=false:=by
   have:(bits .and .u16 (fl:Int) 32768 == 0)=true:=by rw [hbit];exact decide_eq_true h2
   show (!(bits .and .u16 (fl:Int) 32768 == 0))=false
   rw [this];rfl
  have hsum:decide ((0:Int)<(r0.length:Int)+(r1.length:Int)+(r2.length:Int))=false:=by
   simp only [decide_eq_false_iff_not]
   omega
  obtain ⟨y,hy⟩:∃ y,qs=[y]:=by
   match qs,h3 with
   | [y],_=>exact ⟨y,rfl⟩
  have hRf:R=(decide (y.q.ty=33) && decide (y.q.cl=1)):=by
   rw [HRE.out]
   obtain ⟨e1,e2,e3,e4,e5⟩:=HXF.out
   unfold Srv.askedM Srv.q0
   rw [e1,e2,e3,e4,e5,List.length_map,h1,h3,h4,h2,hy]
   rfl
  have HRF:=Lib.hid hRf
  obtain ⟨X,hX⟩:∃ X:MR,X=⟨id,fl,qA,qc,qs,aA,ac,r0,bA,bd,r1,cA,cc,r2⟩:=⟨_,rfl⟩
  have HO3:=Lib.hid (show MOw w3 (G2+1) X by rw [hX];exact mow_far (HXO.out hlb) HB23.out)
  have HVX:Hid (Vx w3 G4 72 X.cells):=Lib.hid (by rw [hX];exact HV3.out)
  rw [←hX] at HX3 HXM
  obtain ⟨b0,o0,hqA,hbq,hqc⟩:=HQ3.out.at_ (k:=0) (by omega)
  clear hX
  subst hqA
  obtain ⟨q0,q1,q2⟩:=hqc (by omega)
  simp only [Nat.zero_mul,Nat.add_zero] at q0 q1 q2
  subst hy
  simp only [List.getElem_cons_zero] at q0 q1 q2
  have hqy:=HQ3.out.2.2.2.2 y (List.mem_cons_self ..)
  obtain ⟨nA,nc,⟨nm,ty,cl⟩⟩:=y
  dsimp only at q0 q1 q2 HRF
  have hty:ty<65536:=hqy.2.1
  have hcl:cl<65536:=hqy.2.2
  obtain ⟨nn,hnn⟩:∃ nn,nn=nm.length:=⟨_,rfl⟩
  rw [←hnn] at q0
  clear h2 h3 h4 hRf hqc hbit hqy hnn
  go_upto_region 5 with fail
  have hV5:=HVX.out.alloc (.cells #[.slice nA nn nc,.int .u16 (ty:Int),.int .u16 (cl:Int)] 76)
  have hQ5:=Vx.new w3 76 [.slice nA nn nc,.int .u16 (ty:Int),.int .u16 (cl:Int)]
  have hZ5:=HZ3.out.alloc (.cells #[.slice nA nn nc,.int .u16 (ty:Int),.int .u16 (cl:Int)] 76)
  have hb35:=bl_new w3 (.cells #[.slice nA nn nc,.int .u16 (ty:Int),.int .u16 (cl:Int)] 76)
  obtain ⟨G6,hG6⟩:∃ G6,G6=w3.heap.size:=⟨_,rfl⟩
  have hne26:G2≠G6:=by have:=HZ3.out.lt;omega
  rw [←hG6] at hQ5 ⊢
  generalize w3.alloc (.cells #[.slice nA nn nc,.int .u16 (ty:Int),.int .u16 (cl:Int)] 76)=w5 at hV5 hQ5 hZ5 hb35 ⊢
  have HV5:=Lib.hid hV5
  have HQ5:=Lib.hid hQ5
  have HZ5:=Lib.hid hZ5
  have HB5:=Lib.hid (HB3.out.trans (hb35.mono HB3.out.size))
  have HX5:=Lib.hid ((HX3.out.below hb35).more hb35.size)
  have HO5:=Lib.hid (mow_far HO3.out hb35)
  clear hV5 hQ5 hZ5 hb35 hG6 v0 v1 v2 v3 v4 v5 q0 q1 q2
  by_cases ht:ty=33
  ·have ht1:((ty:Int) == 33)=true:=by rw [beq_iff_eq];omega
   refine wp_region_held_drew (S:=fun W=>Vx W G4 72 X.cells∧Vx W G6 76 [.slice nA nn nc,.int .u16 (ty:Int),.int .u16 (cl:Int)]) (by kernel_rfl) ⟨HV5.out,HQ5.out⟩ (fun hH=>?_)
   refine reg_load 0 rfl (by kernel_rfl) 72 _ (by rfl) G4 72 X.cells _ (fun _ _ _ h=>h) (by rfl) hH (by rfl) (fun w hS=>hS.1) Tryz.underlying72 (by rfl) (by kernel_rfl) ?_
   (try simp only [Act.put,List.setIfInBounds_toArray,List.set_cons_zero,List.set_cons_succ])
   refine reg_take 1 (v:=?_) rfl (by kernel_rfl) (fun _ _ _ h=>h) (by rfl) hH ?_ ?_
   rotate_left
   ·intro w hSw;(try dsimp only at hSw);obtain ⟨s0,s1⟩:=hSw;obtain ⟨t0,t1,t2⟩:=s1.c3;go_simp;(try with_reducible rfl)
   (try simp only [Act.put,List.setIfInBounds_toArray,List.set_cons_zero,List.set_cons_succ])
   refine reg_take 2 (v:=?_) rfl (by kernel_rfl) (fun _ _ _ h=>h) (by rfl) hH ?_ ?_
   rotate_left
   ·intro w hSw;(try dsimp only at hSw);obtain ⟨s0,s1⟩:=hSw;obtain ⟨t0,t1,t2⟩:=s1.c3;go_simp;(try with_reducible rfl)
   (try simp only [Act.put,List.setIfInBounds_toArray,List.set_cons_zero,List.set_cons_succ])
   refine reg_take 3 (v:=?_) rfl (by kernel_rfl) (fun _ _ _ h=>h) (by rfl) hH ?_ ?_
   rotate_left
   ·intro w hSw;(try dsimp only at hSw);obtain ⟨s0,s1⟩:=hSw;obtain ⟨t0,t1,t2⟩:=s1.c3;go_simp;(try with_reducible rfl)
   (try simp only [Act.put,List.setIfInBounds_toArray,List.set_cons_zero,List.set_cons_succ])
   refine reg_take 4 (v:=?_) rfl (by kernel_rfl) (fun _ _ _ h=>h) (by rfl) hH ?_ ?_
   rotate_left
   ·intro w hSw;(try dsimp only at hSw);obtain ⟨s0,s1⟩:=hSw;obtain ⟨t0,t1,t2⟩:=s1.c3;go_simp;(try with_reducible rfl)
   (try simp only [Act.put,List.setIfInBounds_toArray,List.set_cons_zero,List.set_cons_succ])
   refine reg_take 5 (v:=?_) rfl (by kernel_rfl) (fun _ _ _ h=>h) (by rfl) hH ?_ ?_
   rotate_left
   ·intro w hSw;(try dsimp only at hSw);obtain ⟨s0,s1⟩:=hSw;obtain ⟨t0,t1,t2⟩:=s1.c3;go_simp;(try with_reducible rfl)
   (try simp only [Act.put,List.setIfInBounds_toArray,List.set_cons_zero,List.set_cons_succ])
   refine reg_take 6 (v:=?_) rfl (by kernel_rfl) (fun _ _ _ h=>h) (by rfl) hH ?_ ?_
   rotate_left
   ·intro w hSw;(try dsimp only at hSw);obtain ⟨s0,s1⟩:=hSw;obtain ⟨t0,t1,t2⟩:=s1.c3;go_simp;(try with_reducible rfl)
   (try simp only [Act.put,List.setIfInBounds_toArray,List.set_cons_zero,List.set_cons_succ])
   refine reg_take 7 (v:=?_) rfl (by kernel_rfl) (fun _ _ _ h=>h) (by rfl) hH ?_ ?_
   rotate_left
   ·intro w hSw;(try dsimp only at hSw);obtain ⟨s0,s1⟩:=hSw;obtain ⟨t0,t1,t2⟩:=s1.c3;go_simp;(try with_reducible rfl)
   (try simp only [Act.put,List.setIfInBounds_toArray,List.set_cons_zero,List.set_cons_succ])
   refine reg_take 8 (v:=?_) rfl (by kernel_rfl) (fun _ _ _ h=>h) (by rfl) hH ?_ ?_
   rotate_left
   ·intro w hSw;(try dsimp only at hSw);obtain ⟨s0,s1⟩:=hSw;obtain ⟨t0,t1,t2⟩:=s1.c3;go_simp;(try with_reducible rfl)
   (try simp only [Act.put,List.setIfInBounds_toArray,List.set_cons_zero,List.set_cons_succ])
   refine wpAnyH_ready (rs:=[9]) (by kernel_rfl) (by simp) ?_
   refine reg_cons 9 rfl (fun K' hK=>?_) AllReadyH.nil
   rw [if_pos (by rfl)]
   refine wp_store_row 72 _ _ (by rfl) G2 X.cells.toArray (by rfl) (by rfl) _ _ HZ5.out (by kernel_rfl) rfl (by kernel_rfl) ?_
   have hz6:=Vx.row (w:=w5.drew) HZ5.out X.cells
   have hv6:=Vx.rowO (w:=w5.drew) (g':=G2) HV5.out (Ne.symm hne24) X.cells.toArray
   have hq6:=Vx.rowO (w:=w5.drew) (g':=G2) HQ5.out (Ne.symm hne26) X.cells.toArray
   refine hK.out _ _ ⟨hv6,hq6⟩ (fun hH=>?_)
   (try simp only [Act.put,List.setIfInBounds_toArray,List.set_cons_zero,List.set_cons_succ])
   clear hK
   refine reg_take 10 (v:=?_) rfl (by kernel_rfl) (fun _ _ _ h=>h) (by rfl) hH ?_ ?_
   rotate_left
   ·intro w hSw;(try dsimp only at hSw);obtain ⟨s0,s1⟩:=hSw;go_simp;(try with_reducible rfl)
   (try simp only [Act.put,List.setIfInBounds_toArray,List.set_cons_zero,List.set_cons_succ])
   refine wpAnyH_done (by kernel_rfl) ?_ _
   go_wp2_with fail
   refine bodyPost_ret (resM Tryz.results78 _ _ G2 _ X.cells (.bool ((cl:Int) == 1)) rfl rfl hz6 rfl) rfl ?_
   have hRR:R=((cl:Int) == 1):=by rw [HRF.out,decide_eq_true ht,Bool.true_and,Bool.eq_iff_iff];simp;omega
   have hm7:MOw (w5.drew.setRow G2 X.cells.toArray) (G2+1) X:=mow_only (mow_far HO5.out (bl_drew w5)) (Only.row w5.drew G2 X.cells.toArray) (Nat.lt_succ_self _)
   exact ⟨X,by rw [hRR],fun _=>HXM.out,read_mrd hm7 (by rw [HP.out];exact HXM.out),HB5.out.trans (((bl_drew w5).mono HB5.out.size).trans ((Only.row w5.drew G2 X.cells.toArray).below hG2a HB5.out.size))⟩
  ·have ht1:((ty:Int) == 33)=false:=by rw [beq_eq_false_iff_ne];omega
   refine wp_region_held_drew (S:=fun W=>Vx W G4 72 X.cells∧Vx W G6 76 [.slice nA nn nc,.int .u16 (ty:Int),.int .u16 (cl:Int)]) (by kernel_rfl) ⟨HV5.out,HQ5.out⟩ (fun hH=>?_)
   refine reg_load 0 rfl (by kernel_rfl) 72 _ (by rfl) G4 72 X.cells _ (fun _ _ _ h=>h) (by rfl) hH (by rfl) (fun w hS=>hS.1) Tryz.underlying72 (by rfl) (by kernel_rfl) ?_
   (try simp only [Act.put,List.setIfInBounds_toArray,List.set_cons_zero,List.set_cons_succ])
   refine reg_take 1 (v:=?_) rfl (by kernel_rfl) (fun _ _ _ h=>h) (by rfl) hH ?_ ?_
   rotate_left
   ·intro w hSw;(try dsimp only at hSw);obtain ⟨s0,s1⟩:=hSw;obtain ⟨t0,t1,t2⟩:=s1.c3;go_simp;(try with_reducible rfl)
   (try simp only [Act.put,List.setIfInBounds_toArray,List.set_cons_zero,List.set_cons_succ])
   refine reg_take 2 (v:=?_) rfl (by kernel_rfl) (fun _ _ _ h=>h) (by rfl) hH ?_ ?_
   rotate_left
   ·intro w hSw;(try dsimp only at hSw);obtain ⟨s0,s1⟩:=hSw;obtain ⟨t0,t1,t2⟩:=s1.c3;go_simp;(try with_reducible rfl)
   (try simp only [Act.put,List.setIfInBounds_toArray,List.set_cons_zero,List.set_cons_succ])
   refine reg_take 3 (v:=?_) rfl (by kernel_rfl) (fun _ _ _ h=>h) (by rfl) hH ?_ ?_
   rotate_left
   ·intro w hSw;(try dsimp only at hSw);obtain ⟨s0,s1⟩:=hSw;obtain ⟨t0,t1,t2⟩:=s1.c3;go_simp;(try with_reducible rfl)
   (try simp only [Act.put,List.setIfInBounds_toArray,List.set_cons_zero,List.set_cons_succ])
   refine reg_take 4 (v:=?_) rfl (by kernel_rfl) (fun _ _ _ h=>h) (by rfl) hH ?_ ?_
   rotate_left
   ·intro w hSw;(try dsimp only at hSw);obtain ⟨s0,s1⟩:=hSw;obtain ⟨t0,t1,t2⟩:=s1.c3;go_simp;(try with_reducible rfl)
   (try simp only [Act.put,List.setIfInBounds_toArray,List.set_cons_zero,List.set_cons_succ])
   refine reg_skip 5 rfl (by kernel_rfl) (fun _ _ _ h=>h) (by rfl) hH ?_
   (try simp only [Act.put,List.setIfInBounds_toArray,List.set_cons_zero,List.set_cons_succ])
   refine reg_skip 6 rfl (by kernel_rfl) (fun _ _ _ h=>h) (by rfl) hH ?_
   (try simp only [Act.put,List.setIfInBounds_toArray,List.set_cons_zero,List.set_cons_succ])
   refine reg_skip 7 rfl (by kernel_rfl) (fun _ _ _ h=>h) (by rfl) hH ?_
   (try simp only [Act.put,List.setIfInBounds_toArray,List.set_cons_zero,List.set_cons_succ])
   refine reg_take 8 (v:=?_) rfl (by kernel_rfl) (fun _ _ _ h=>h) (by rfl) hH ?_ ?_
   rotate_left
   ·intro w hSw;(try dsimp only at hSw);obtain ⟨s0,s1⟩:=hSw;obtain ⟨t0,t1,t2⟩:=s1.c3;go_simp;(try with_reducible rfl)
   (try simp only [Act.put,List.setIfInBounds_toArray,List.set_cons_zero,List.set_cons_succ])
   refine wpAnyH_ready (rs:=[9]) (by kernel_rfl) (by simp) ?_
   refine reg_cons 9 rfl (fun K' hK=>?_) AllReadyH.nil
   rw [if_pos (by rfl)]
   refine wp_store_row 72 _ _ (by rfl) G2 X.cells.toArray (by rfl) (by rfl) _ _ HZ5.out (by kernel_rfl) rfl (by kernel_rfl) ?_
   have hz6:=Vx.row (w:=w5.drew) HZ5.out X.cells
   have hv6:=Vx.rowO (w:=w5.drew) (g':=G2) HV5.out (Ne.symm hne24) X.cells.toArray
   have hq6:=Vx.rowO (w:=w5.drew) (g':=G2) HQ5.out (Ne.symm hne26) X.cells.toArray
   refine hK.out _ _ ⟨hv6,hq6⟩ (fun hH=>?_)
   (try simp only [Act.put,List.setIfInBounds_toArray,List.set_cons_zero,List.set_cons_succ])
   clear hK
   refine reg_take 10 (v:=?_) rfl (by kernel_rfl) (fun _ _ _ h=>h) (by rfl) hH ?_ ?_
   rotate_left
   ·intro w hSw;(try dsimp only at hSw);obtain ⟨s0,s1⟩:=hSw;go_simp;(try with_reducible rfl)
   (try simp only [Act.put,List.setIfInBounds_toArray,List.set_cons_zero,List.set_cons_succ])
   refine wpAnyH_done (by kernel_rfl) ?_ _
   go_wp2_with fail
   refine bodyPost_ret (resM Tryz.results78 _ _ G2 _ X.cells (.bool false) rfl rfl hz6 rfl) rfl ?_
   have hRR:R=false:=by rw [HRF.out,decide_eq_false ht,Bool.false_and]
   have hm7:MOw (w5.drew.setRow G2 X.cells.toArray) (G2+1) X:=mow_only (mow_far HO5.out (bl_drew w5)) (Only.row w5.drew G2 X.cells.toArray) (Nat.lt_succ_self _)
   exact ⟨X,by rw [hRR],fun _=>HXM.out,read_mrd hm7 (by rw [HP.out];exact HXM.out),HB5.out.trans (((bl_drew w5).mono HB5.out.size).trans ((Only.row w5.drew G2 X.cells.toArray).below hG2a HB5.out.size))⟩
 ·have hRf:R=false:=by
   rw [HRE.out]
   obtain ⟨e1,e2,e3,e4,e5⟩:=HXF.out
   unfold Srv.askedM
   rw [e1,e2,e3,e4,e5,List.length_map]
   by_cases h1:er=0
   ·by_cases h2:fl / 32768 % 2=0
    ·by_cases h3:qs.length=1
     ·by_cases h4:r0.length+r1.length+r2.length=0
      ·exact absurd ⟨h1,h2,h3,h4⟩ hgood
      ·rw [decide_eq_false h4];simp
     ·simp [h3]
    ·simp [h2]
   ·simp [h1]
  have HRF:=Lib.hid hRf
  clear hRf
  have herf:((er:Int) != 0)=decide (er≠0):=by rw [Bool.eq_iff_iff];simp
  have hlenf:((qs.length:Int) != 1)=decide (qs.length≠1):=by rw [Bool.eq_iff_iff];simp;omega
  have hbitn:(bits .and .u16 (fl:Int) 32768 != 0) = !decide (fl / 32768 % 2=0):=by rw [←hbit];rfl
  clear hbit
  by_cases h1:er=0
  ·rw [decide_eq_false (show ¬ er≠0 by omega)] at herf
   by_cases h2:fl / 32768 % 2=0
   ·rw [decide_eq_true h2] at hbitn
    have hbitm:(bits .and .u16 (fl:Int) 32768 != 0)=false:=hbitn
    by_cases h3:qs.length=1
    ·rw [decide_eq_false (show ¬ qs.length≠1 by omega)] at hlenf
     have hsum:decide ((0:Int)<(r0.length:Int)+(r1.length:Int)+(r2.length:Int))=true:=by
      simp only [decide_eq_true_eq]
      have:¬ (r0.length+r1.length+r2.length=0):=fun h4=>hgood ⟨h1,h2,h3,h4⟩
      omega
     have H3:=Lib.hid h3
     clear h1 h2 h3 hgood hbitn
     go_upto_region 3 with fail
     go_wp2_with (refine wpList_store_row rfl 72 (.tmp 2) (.tmp 43) rfl G2 _ rfl rfl _ _ HZ3.out (by kernel_rfl) rfl (by kernel_rfl) ?_)
     refine bodyPost_ret (resM Tryz.results78 _ _ G2 _ zM6 (.bool false) rfl rfl (HZ3.out.row zM6) rfl) rfl ?_
     exact ⟨zMR,by rw [HRF.out];rfl,fun e=>(by rw [HRF.out] at e;cases e),zmrd _,HB3.out.trans ((Only.row _ _ _).below hG2a HB3.out.size)⟩
    ·rw [decide_eq_true h3] at hlenf
     clear h1 h2 h3 hgood hbitn
     go_upto_region 3 with fail
     go_wp2_with (refine wpList_store_row rfl 72 (.tmp 2) (.tmp 43) rfl G2 _ rfl rfl _ _ HZ3.out (by kernel_rfl) rfl (by kernel_rfl) ?_)
     refine bodyPost_ret (resM Tryz.results78 _ _ G2 _ zM6 (.bool false) rfl rfl (HZ3.out.row zM6) rfl) rfl ?_
     exact ⟨zMR,by rw [HRF.out];rfl,fun e=>(by rw [HRF.out] at e;cases e),zmrd _,HB3.out.trans ((Only.row _ _ _).below hG2a HB3.out.size)⟩
   ·rw [decide_eq_false h2] at hbitn
    have hbitm:(bits .and .u16 (fl:Int) 32768 != 0)=true:=hbitn
    clear h1 h2 hgood hbitn hlenf
    go_upto_region 3 with fail
    go_wp2_with (refine wpList_store_row rfl 72 (.tmp 2) (.tmp 43) rfl G2 _ rfl rfl _ _ HZ3.out (by kernel_rfl) rfl (by kernel_rfl) ?_)
    refine bodyPost_ret (resM Tryz.results78 _ _ G2 _ zM6 (.bool false) rfl rfl (HZ3.out.row zM6) rfl) rfl ?_
    exact ⟨zMR,by rw [HRF.out];rfl,fun e=>(by rw [HRF.out] at e;cases e),zmrd _,HB3.out.trans ((Only.row _ _ _).below hG2a HB3.out.size)⟩
  ·rw [decide_eq_true h1] at herf
   clear h1 hgood hbitn hlenf
   go_upto_region 3 with fail
   go_wp2_with (refine wpList_store_row rfl 72 (.tmp 2) (.tmp 43) rfl G2 _ rfl rfl _ _ HZ3.out (by kernel_rfl) rfl (by kernel_rfl) ?_)
   refine bodyPost_ret (resM Tryz.results78 _ _ G2 _ zM6 (.bool false) rfl rfl (HZ3.out.row zM6) rfl) rfl ?_
   exact ⟨zMR,by rw [HRF.out];rfl,fun e=>(by rw [HRF.out] at e;cases e),zmrd _,HB3.out.trans ((Only.row _ _ _).below hG2a HB3.out.size)⟩
end Go.Proofs.YtlipmlbijddopaaGreatDoor
set_option linter.unusedVariables false
set_option linter.unusedSimpArgs false
namespace Go.Proofs.YtlipmlbijddopaaGreatDoor
open Go.RowKit
theorem escL_le (l:List UInt8):(escL l).length≤4*l.length:=by
 induction l with
 | nil=>simp [escL]
 | cons a l ih=>
   have:=escB_length a
   rw [escL,List.flatMap_cons,List.length_append,List.length_cons,←escL]
   omega
theorem tail_le:∀ n:List (List UInt8),(n.flatMap fun m=>46 :: escL m).length+4≤4*sizeN n
 | []=>by simp [sizeN]
 | a :: n=>by
   have h1:=tail_le n
   have h2:=escL_le a
   rw [List.flatMap_cons,List.length_append,List.length_cons,sizeN]
   omega
theorem text_le (n:List (List UInt8)):(textN n).length≤4*sizeN n:=by
 unfold textN
 cases n with
 | nil=>simp [sizeN]
 | cons a n=>
   rw [if_neg (by simp),tjoin,List.length_append,sizeN]
   have h1:=tail_le n
   have h2:=escL_le a
   omega
theorem textR_le (n:List (List UInt8)):(textR n).1.length≤1020:=by
 unfold textR
 by_cases h:rightN n=true
 ·rw [if_pos h]
  have h1:=text_le n
  have h2:=size_right h
  show (textN n).length≤1020
  omega
 ·rw [if_neg h];simp
theorem adR_ok {r:Rc} (h1:r.po<65536) (h2:r.pr<65536) (h3:r.we<65536) (h4:r.ttl<4294967296):AdOk (Srv.adR r):=by
 have:=textR_le r.tg
 refine ⟨?_,?_,?_,?_,?_,?_,?_,?_⟩ <;> simp only [Srv.adR] <;> omega
def ownR (x y:MR):MR:=⟨y.id,x.fl,y.qA,y.qc,y.qs,none,0,[],none,0,[],none,0,[]⟩
theorem ownR_rd {w:World} {B:Nat} {x y:MR} (hx:MRd w B x) (hy:MRd w B y):MRd w B (ownR x y):=
 ⟨hy.1,hx.2.1,hy.2.2.1,RsRd.nil _ _,RsRd.nil _ _,RsRd.nil _ _⟩
theorem okA_snoc (l:List Rc) (r:Rc):Srv.okA (l++[r])=(Srv.okA l && (Srv.rootR r || !Srv.badR r)):=by
 simp [Srv.okA]
theorem addA_snoc (l:List Rc) (r:Rc):Srv.addA (l++[r])=Srv.addA l++if Srv.rootR r=true then [] else [Srv.adR r]:=by
 unfold Srv.addA
 rw [List.filter_append,List.map_append]
 congr 1
 by_cases h:Srv.rootR r=true
 ·simp [List.filter,h]
 ·simp [List.filter,h]
theorem okA_bad {l:List Rc} {r:Rc} (h:r∈l) (h0:Srv.rootR r=false) (h1:Srv.badR r=true):Srv.okA l=false:=by
 unfold Srv.okA
 rw [List.all_eq_false]
 exact ⟨r,h,by rw [h0,h1];simp⟩
theorem fold_mem {x:Ad}:∀ (l out:List Ad),x∈l.foldl Srv.onA out→x∈out∨x∈l
 | [],out,h=>.inl h
 | a :: l,out,h=>by
   rcases fold_mem l (Srv.onA out a) h with h1 | h1
   ·unfold Srv.onA at h1
    split at h1
    ·exact .inl h1
    ·rcases List.mem_append.1 h1 with h2 | h2
     ·exact .inl h2
     ·rw [List.mem_singleton] at h2;subst h2;exact .inr (List.mem_cons_self ..)
   ·exact .inr (List.mem_cons_of_mem _ h1)
theorem once_mem {l:List Ad} {x:Ad} (h:x∈Srv.onceA l):x∈l:=(fold_mem l [] h).elim (fun h=>by cases h) id
theorem mem_le_size:∀ {n:List (List UInt8)} {x:List UInt8},x∈n→x.length≤sizeN n
 | a :: n,x,h=>by
   rcases List.mem_cons.1 h with e | e
   ·rw [e,sizeN];omega
   ·have:=mem_le_size e
    rw [sizeN];omega
theorem rightR_tgs {r:Rc} (h:rightR r=true):sizeN r.tg≤1000:=by
 unfold rightR at h
 split at h
 ·split at h
  ·split at h
   ·have:=size_right h;omega
   ·cases h
  ·simp at h;rw [h.2.2.2.2];simp [sizeN]
 ·cases h
set_option maxRecDepth 100000 in
set_option maxHeartbeats 8000000 in
theorem stake_at (A1 A2:Option Addr) (c1 c2 L1 L2:Nat) (q r:List UInt8) (w:World) (hL1:q.length=L1) (hL2:r.length=L2) (h1:Rd w w.heap.size A1 L1 (bc q)) (h2:Rd w w.heap.size A2 L2 (bc r)) (hc1:L1≤c1) (hc2:L2≤c2) (hb1:L1≤140737488355328) (hb2:L2≤140737488355328) :
 Calls Tryz.prog 35 #[.slice A1 L1 c1,.slice A2 L2 c2] w fun e w'=>∃ v,e = .returned (.tuple #[v,.int .i64 ((Srv.takeN q r).2:Int)])∧OwM w' w.heap.size 31 5 v (Srv.takeN q r).1.length (acs (Srv.takeN q r).1)∧(∀ x∈(Srv.takeN q r).1,AdOk x)∧(Srv.takeN q r).1.length≤4096∧Below w.heap.size w w':=by
 obtain ⟨T,hT⟩:∃ T,T=Srv.takeN q r:=⟨_,rfl⟩
 rw [←hT]
 obtain ⟨pr,hpr⟩:∃ p,readM r=p:=⟨_,rfl⟩
 obtain ⟨mr,er⟩:=pr
 have hTe:T=if Srv.askedB q=false then ([],181) else if er≠0 then ([],er) else Srv.takeM (readM q).1 mr:=by rw [hT];unfold Srv.takeN;rw [hpr]
 have HTE:=Lib.hid hTe
 have KA:=Lib.hid (sasked_at A1 c1 q L1 w hL1 h1 hc1 hb1)
 have H2:=Lib.hid h2
 have HL2:=Lib.hid hL2
 have HPR:=Lib.hid hpr
 obtain ⟨R,hR⟩:∃ R,R=Srv.askedB q:=⟨_,rfl⟩
 rw [←hR] at KA
 have HR:=Lib.hid hR
 clear hT hTe h1 h2 hL1 hL2 hpr hR
 obtain ⟨j0,hj',hy0,hy1,hy2⟩:=info_parts Tryz.infoA
 go_enter Tryz.func35,Tryz.ntmps35
 go_upto_region 2 with (go_at_call 78
                        refine KA.out.mono ?_
                        rintro e w1 ⟨x,rfl,hxm,hxr,hb1⟩
                        have HXM:=Lib.hid hxm
                        have HXR:=Lib.hid hxr
                        have HB1:=Lib.hid hb1
                        obtain ⟨X,hX⟩:∃ X:MR,X=x:=⟨_,rfl⟩
                        rw [←hX] at HXM HXR
                        obtain ⟨idX,flX,qAX,qcX,qsX,aAX,acX,raX,bAX,bdX,rbX,cAX,ccX,rcX⟩:=x
                        have HXE:=Lib.hid hX
                        clear hxm hxr hb1 hX
                        unfold MR.cells
                        dsimp only)
 cases R with
 | false=>
   have hTv:T=([],181):=by rw [HTE.out,if_pos HR.out.symm]
   go_wp2_with fail
   go_ret2
   exact ⟨_,by rw [hTv];rfl,by rw [hTv];exact OwM.nil _ _ _ _,fun x hx=>(by rw [hTv] at hx;cases hx),by rw [hTv];simp,HB1.out.alloc HB1.out.size _⟩
 | true=>
   have hvx:=Vx.new w1 72 [.int .u16 (idX:Int),.int .u16 (flX:Int),.slice qAX qsX.length qcX,.slice aAX raX.length acX,.slice bAX rbX.length bdX,.slice cAX rcX.length ccX]
   have hb12:=bl_new w1 (.cells #[.int .u16 (idX:Int),.int .u16 (flX:Int),.slice qAX qsX.length qcX,.slice aAX raX.length acX,.slice bAX rbX.length bdX,.slice cAX rcX.length ccX] 72)
   have HX2:=Lib.hid ((HXR.out.below hb12).more hb12.size)
   have HR2:=Lib.hid (H2.out.goes (HB1.out.trans (hb12.mono HB1.out.size)))
   have HB2:=Lib.hid (HB1.out.trans (hb12.mono HB1.out.size))
   obtain ⟨GX,hGX⟩:∃ G,G=w1.heap.size:=⟨_,rfl⟩
   rw [←hGX] at hvx ⊢
   generalize w1.alloc (.cells #[.int .u16 (idX:Int),.int .u16 (flX:Int),.slice qAX qsX.length qcX,.slice aAX raX.length acX,.slice bAX rbX.length bdX,.slice cAX rcX.length ccX] 72)=w2 at hvx HX2 HR2 HB2 ⊢
   have HVX2:=Lib.hid hvx
   clear hvx hb12 hGX HXR HB1
   have hl2:=HL2.out
   subst hl2
   have KR:=Lib.hid (readE_at A2 c2 r mr er HPR.out w2 HR2.out hc2 hb2)
   go_upto_region 5 with (go_at_call 33
                          refine KR.out.mono ?_
                          rintro e w3 ⟨y,hym,rfl,hyr,hb3⟩
                          have HYM:=Lib.hid hym
                          have HYR:=Lib.hid hyr
                          have HB3:=Lib.hid (HB2.out.trans (hb3.mono HB2.out.size))
                          have HVX3:=Lib.hid (HVX2.out.below hb3 HVX2.out.lt)
                          have HX3:=Lib.hid ((HX2.out.below hb3).more hb3.size)
                          obtain ⟨Y,hY⟩:∃ Y:MR,Y=y:=⟨_,rfl⟩
                          rw [←hY] at HYM HYR
                          obtain ⟨idY,flY,qAY,qcY,qsY,aAY,acY,raY,bAY,bdY,rbY,cAY,ccY,rcY⟩:=y
                          have HYE:=Lib.hid hY
                          clear hym hyr hb3 hY
                          unfold MR.cells
                          dsimp only)
   have hvy:=Vx.new w3 72 [.int .u16 (idY:Int),.int .u16 (flY:Int),.slice qAY qsY.length qcY,.slice aAY raY.length acY,.slice bAY rbY.length bdY,.slice cAY rcY.length ccY]
   have hb34:=bl_new w3 (.cells #[.int .u16 (idY:Int),.int .u16 (flY:Int),.slice qAY qsY.length qcY,.slice aAY raY.length acY,.slice bAY rbY.length bdY,.slice cAY rcY.length ccY] 72)
   have HX4:=Lib.hid ((HX3.out.below hb34).more hb34.size)
   have HY4:=Lib.hid ((HYR.out.below hb34).more hb34.size)
   have HB4:=Lib.hid (HB3.out.trans (hb34.mono HB3.out.size))
   have HVX4:=Lib.hid (HVX3.out.below hb34 HVX3.out.lt)
   obtain ⟨GY,hGY⟩:∃ G,G=w3.heap.size:=⟨_,rfl⟩
   rw [←hGY] at hvy ⊢
   generalize w3.alloc (.cells #[.int .u16 (idY:Int),.int .u16 (flY:Int),.slice qAY qsY.length qcY,.slice aAY raY.length acY,.slice bAY rbY.length bdY,.slice cAY rcY.length ccY] 72)=w4 at hvy HX4 HY4 HB4 HVX4 ⊢
   have HVY4:=Lib.hid hvy
   clear hvy hb34 hGY HYR HB3 HX3 HVX3 HVX2 HX2 HR2 HB2
   obtain ⟨x0,x1,x2,x3,x4,x5⟩:=HVX4.out.c6
   obtain ⟨y0,y1,y2,y3,y4,y5⟩:=HVY4.out.c6
   go_upto_region 6 with fail
   have hvo:=Vx.new w4 72 [.int .u16 (idY:Int),.int .u16 (flX:Int),.slice qAY qsY.length qcY,.slice none 0 0,.slice none 0 0,.slice none 0 0]
   have hb45:=bl_new w4 (.cells #[.int .u16 (idY:Int),.int .u16 (flX:Int),.slice qAY qsY.length qcY,.slice none 0 0,.slice none 0 0,.slice none 0 0] 72)
   have HX5:=Lib.hid ((HX4.out.below hb45).more hb45.size)
   have HY5:=Lib.hid ((HY4.out.below hb45).more hb45.size)
   have HB5:=Lib.hid (HB4.out.trans (hb45.mono HB4.out.size))
   have HVX5:=Lib.hid (HVX4.out.below hb45 HVX4.out.lt)
   have HVY5:=Lib.hid (HVY4.out.below hb45 HVY4.out.lt)
   obtain ⟨GO,hGO⟩:∃ G,G=w4.heap.size:=⟨_,rfl⟩
   rw [←hGO] at hvo ⊢
   generalize w4.alloc (.cells #[.int .u16 (idY:Int),.int .u16 (flX:Int),.slice qAY qsY.length qcY,.slice none 0 0,.slice none 0 0,.slice none 0 0] 72)=w5 at hvo HX5 HY5 HB5 HVX5 HVY5 ⊢
   have HVO5:=Lib.hid hvo
   clear hvo hb45 hGO HX4 HY4 HB4 HVX4 HVY4 x0 x1 x2 x3 x4 x5 y0 y1 y2 y3 y4 y5
   have hTe:T=if er≠0 then ([],er) else Srv.takeM (readM q).1 mr:=by rw [HTE.out,if_neg (by rw [←HR.out];simp)]
   have hXm:X.m=(readM q).1:=HXM.out rfl
   have HXm:=Lib.hid hXm
   rw [←hXm,←HYM.out] at hTe
   by_cases he:er=0
   ·have hef:((er:Int) != 0)=false:=by rw [he];rfl
    have hTm:T=Srv.takeM X.m Y.m:=by rw [hTe,if_neg (by omega)]
    have HTM:=Lib.hid hTm
    have HE0:=Lib.hid he
    clear he hTm hTe
    have hfy:flY<65536:=by have h:=HY5.out.2.1;rw [HYE.out] at h;exact h
    have hb15:=bit15 flY hfy
    have hYf:Y.m.fl=flY:=by rw [HYE.out];rfl
    have HYF:=Lib.hid hYf
    have HFY:=Lib.hid hfy
    clear hfy hYf
    obtain ⟨x0,x1,x2,x3,x4,x5⟩:=HVX5.out.c6
    obtain ⟨y0,y1,y2,y3,y4,y5⟩:=HVY5.out.c6
    obtain ⟨o0,o1,o2,o3,o4,o5⟩:=HVO5.out.c6
    by_cases h15:flY / 32768 % 2=0
    ·rw [decide_eq_true h15] at hb15
     have hTv:T=([],182):=by rw [HTM.out];unfold Srv.takeM;rw [HYF.out];exact if_pos (.inl h15)
     have HTV:=Lib.hid hTv
     clear hTv
     go_wp2_with fail
     go_ret2
     exact ⟨_,by rw [HTV.out];rfl,by rw [HTV.out];exact OwM.nil _ _ _ _,fun x hx=>(by rw [HTV.out] at hx;cases hx),by rw [HTV.out];simp,HB5.out⟩
    ·rw [decide_eq_false h15] at hb15
     have H15:=Lib.hid h15
     clear h15
     obtain ⟨SM,hSM⟩:∃ SM,SM=sameM (Srv.ownM X.m Y.m) X.m:=⟨_,rfl⟩
     have HSM:=Lib.hid hSM
     have KS:Hid (Calls Tryz.prog 79 #[.agg #[.int .u16 (idY:Int),.int .u16 (flX:Int),.slice qAY qsY.length qcY,.slice none 0 0,.slice none 0 0,.slice none 0 0],.agg #[.int .u16 (idX:Int),.int .u16 (flX:Int),.slice qAX qsX.length qcX,.slice aAX raX.length acX,.slice bAX rbX.length bdX,.slice cAX rcX.length ccX]] w5 fun e w'=>e = .returned (.bool SM)∧Below w5.heap.size w5 w'):=Lib.hid (by
      have h:=sameM_at (ownR X Y) X w5 (ownR_rd HX5.out HY5.out) HX5.out
      have e1:sameM (ownR X Y).m X.m=SM:=by rw [hSM];rfl
      rw [e1] at h
      have e2:(ownR X Y).cells.toArray=#[.int .u16 (idY:Int),.int .u16 (flX:Int),.slice qAY qsY.length qcY,.slice none 0 0,.slice none 0 0,.slice none 0 0]:=by rw [HXE.out,HYE.out];rfl
      have e3:X.cells.toArray=#[.int .u16 (idX:Int),.int .u16 (flX:Int),.slice qAX qsX.length qcX,.slice aAX raX.length acX,.slice bAX rbX.length bdX,.slice cAX rcX.length ccX]:=by rw [HXE.out];rfl
      rw [e2,e3] at h
      exact h)
     clear hSM
     cases SM with
     | false=>
       have hTv:T=([],182):=by rw [HTM.out];unfold Srv.takeM;exact if_pos (.inr HSM.out.symm)
       have HTV:=Lib.hid hTv
       clear hTv
       go_wp2_with (go_at_call 79
                    refine KS.out.mono ?_
                    rintro e w6 ⟨rfl,hb6⟩
                    have HX6:=Lib.hid ((HX5.out.below hb6).more hb6.size)
                    have HY6:=Lib.hid ((HY5.out.below hb6).more hb6.size)
                    have HB6:=Lib.hid (HB5.out.trans (hb6.mono HB5.out.size))
                    have HVX6:=Lib.hid (HVX5.out.below hb6 HVX5.out.lt)
                    have HVY6:=Lib.hid (HVY5.out.below hb6 HVY5.out.lt)
                    clear hb6 HX5 HY5 HB5 HVX5 HVY5 HVO5 x0 x1 x2 x3 x4 x5 y0 y1 y2 y3 y4 y5 o0 o1 o2 o3 o4 o5)
       go_ret2
       exact ⟨_,by rw [HTV.out];rfl,by rw [HTV.out];exact OwM.nil _ _ _ _,fun x hx=>(by rw [HTV.out] at hx;cases hx),by rw [HTV.out];simp,HB6.out⟩
     | true=>
       have hTm:T=if flY / 512 % 2=1 then ([],183) else if flY % 16≠0 then ([],184) else if Srv.okA (answersM Y.m (Srv.q0 X.m).nm 33)=false then ([],185) else (Srv.onceA (Srv.sortA (Srv.addA (answersM Y.m (Srv.q0 X.m).nm 33))),0):=by
        rw [HTM.out];unfold Srv.takeM;rw [HYF.out]
        exact if_neg (fun h=>Or.elim h H15.out fun h=>(by rw [←HSM.out] at h;cases h))
       have HTM2:=Lib.hid hTm
       clear hTm
       go_upto_region 10 with (go_at_call 79
                               refine KS.out.mono ?_
                               rintro e w6 ⟨rfl,hb6⟩
                               have HX6:=Lib.hid ((HX5.out.below hb6).more hb6.size)
                               have HY6:=Lib.hid ((HY5.out.below hb6).more hb6.size)
                               have HB6:=Lib.hid (HB5.out.trans (hb6.mono HB5.out.size))
                               have HVX6:=Lib.hid (HVX5.out.below hb6 HVX5.out.lt)
                               have HVY6:=Lib.hid (HVY5.out.below hb6 HVY5.out.lt)
                               clear hb6 HX5 HY5 HB5 HVX5 HVY5 HVO5 x0 x1 x2 x3 x4 x5 y0 y1 y2 y3 y4 y5 o0 o1 o2 o3 o4 o5)
       obtain ⟨y0,y1,y2,y3,y4,y5⟩:=HVY6.out.c6
       have hb9:=bit9 flY HFY.out
       have hl4:=low4 flY HFY.out
       by_cases h9:flY / 512 % 2=0
       ·rw [decide_eq_true h9] at hb9
        have hb9':(bits .and .u16 (flY:Int) 512 != 0)=false:=by
         show (!(bits .and .u16 (flY:Int) 512 == 0))=false
         rw [hb9];rfl
        by_cases h16:flY % 16=0
        ·rw [decide_eq_true h16] at hl4
         have hl4':(bits .and .u16 (flY:Int) 15 != 0)=false:=by
          show (!(bits .and .u16 (flY:Int) 15 == 0))=false
          rw [hl4];rfl
         have hTm:T=if Srv.okA (answersM Y.m (Srv.q0 X.m).nm 33)=false then ([],185) else (Srv.onceA (Srv.sortA (Srv.addA (answersM Y.m (Srv.q0 X.m).nm 33))),0):=by
          rw [HTM2.out,if_neg (by omega),if_neg (by omega)]
         have HTM3:=Lib.hid hTm
         clear hTm h9 h16 hb9 hl4
         have hq1:qsX.length=1:=by
          have h:=HR.out.symm
          unfold Srv.askedB at h
          rw [←HXm.out] at h
          simp only [Bool.and_eq_true,decide_eq_true_eq,Srv.askedM] at h
          have h2:=h.2.2.1
          rw [HXE.out] at h2
          simpa [MR.m] using h2
         obtain ⟨yq,hyq⟩:∃ yq,qsX=[yq]:=List.length_eq_one_iff.1 hq1
         have hq6:=HX6.out.2.2.1
         have hqn:(Srv.q0 X.m).nm=yq.q.nm:=by rw [HXE.out,hyq];rfl
         rw [HXE.out] at hq6
         dsimp only at hq6
         rw [hqn] at HTM3
         obtain ⟨b0,oo,hqA,hbq,hqc⟩:=hq6.at_ (k:=0) (by omega)
         have q0:=(hqc (by omega)).1
         have hqy:=(hq6.2.2.2.2 yq (by rw [hyq];exact List.mem_cons_self ..)).1
         subst hyq
         subst hqA
         simp only [Nat.zero_mul,Nat.add_zero,List.getElem_cons_zero] at q0
         obtain ⟨nA,nc,⟨nm,tyq,clq⟩⟩:=yq
         dsimp only at q0 hqy HTM3
         obtain ⟨ANS,hANS⟩:∃ a,a=answersM Y.m nm 33:=⟨_,rfl⟩
         rw [←hANS] at HTM3
         have hgood:∀ z∈Y.r0,rightR z.r=true∧okR z.r:=fun z hz=>by
          have h0:(readM r).2=0:=by rw [HPR.out];exact HE0.out
          obtain ⟨h1,h2,h3,_⟩:=read_ok h0
          have hm:(readM r).1=Y.m:=by rw [HPR.out,HYM.out]
          rw [hm] at h1 h2 h3
          obtain ⟨a0,a1,a2,a3⟩:=resW h1
          exact ⟨a1 z hz,h2.r0 _ (List.mem_map.2 ⟨z,hz,rfl⟩)⟩
         have hnum:Y.r0.length≤256:=by
          have h0:(readM r).2=0:=by rw [HPR.out];exact HE0.out
          obtain ⟨h1,h2,h3,_⟩:=read_ok h0
          have hm:(readM r).1=Y.m:=by rw [HPR.out,HYM.out]
          rw [hm] at h3
          have:Y.qs.length+Y.r0.length+Y.r1.length+Y.r2.length≤256:=by simpa [Ms.num,MR.m] using h3
          omega
         have hans:∀ x∈ANS,rightR x=true∧okR x:=fun x hx=>by
          rw [hANS] at hx
          have h1:=(List.mem_filter.1 hx).1
          obtain ⟨z,hz,rfl⟩:=List.mem_map.1 h1
          exact hgood z hz
         have hanl:ANS.length≤256:=by
          rw [hANS]
          refine Nat.le_trans (List.length_filter_le _ _) ?_
          show (Y.r0.map RR.r).length≤256
          rw [List.length_map];exact hnum
         have KA2:Hid (Calls Tryz.prog 80 #[.agg #[.int .u16 (idY:Int),.int .u16 (flY:Int),.slice qAY qsY.length qcY,.slice aAY raY.length acY,.slice bAY rbY.length bdY,.slice cAY rcY.length ccY],.slice nA nm.length nc,.int .u16 33] w6.drew fun e w'=>∃ (l:List RR) (A':Option Addr) (c':Nat),e = .returned (.slice A' l.length c')∧l.map RR.r=ANS∧RsRd w' w'.heap.size A' c' l.length l∧Below w6.heap.size w6 w'):=Lib.hid (by
          have hbd:Below w6.heap.size w6 w6.drew:=bl_drew w6
          have h:=answers_at Y nA nc nm 33 w6.drew ((HY6.out.below hbd).more hbd.size) ((hqy.below hbd).more hbd.size) (by omega) (fun z hz=>by
           have h1:=(hgood z hz).1
           have h2:=size_right (rightR_nm h1)
           have h3:=rightR_tgs h1
           have h4:=len_le_size z.r.q.nm
           have h5:=len_le_size z.r.tg
           omega)
          have e1:Y.cells.toArray=#[.int .u16 (idY:Int),.int .u16 (flY:Int),.slice qAY qsY.length qcY,.slice aAY raY.length acY,.slice bAY rbY.length bdY,.slice cAY rcY.length ccY]:=by rw [HYE.out];rfl
          rw [e1] at h
          refine h.mono ?_
          rintro e w' ⟨l,A',c',rfl,hl,hro,hdo,hb⟩
          rw [←hANS] at hl
          have hm:∀ z∈l,z.r∈ANS:=fun z hz=>by rw [←hl];exact List.mem_map.2 ⟨_,hz,rfl⟩
          exact ⟨l,A',c',rfl,hl,rwR_rd hro hdo (fun z hz=>(hans _ (hm z hz)).1) (fun z hz=>(hans _ (hm z hz)).2) (by rw [←List.length_map (f:=RR.r),hl];exact hanl),hbd.trans (hb.mono hbd.size)⟩)
         have HANS:=Lib.hid hans
         have HANL:=Lib.hid hanl
         clear hans hanl hANS hgood hnum hqy hqc hq6 hqn
         try clear hq1
         go_upto_region 15 with fail
         refine wp_region_held_drew (S:=fun W=>Vx W GY 72 [.int .u16 (idY:Int),.int .u16 (flY:Int),.slice qAY qsY.length qcY,.slice aAY raY.length acY,.slice bAY rbY.length bdY,.slice cAY rcY.length ccY]∧W.cell? ⟨GX,2,none⟩=some (.slice (some ⟨b0,oo,none⟩) 1 qcX)∧W.cell? ⟨b0,oo,none⟩=some (.slice nA nm.length nc)) (by kernel_rfl) ⟨HVY6.out.drew,HVX6.out.drew.c6.2.2.1,q0⟩ (fun hH=>?_)
         refine reg_load 0 rfl (by kernel_rfl) 72 _ (by rfl) GY 72 [.int .u16 (idY:Int),.int .u16 (flY:Int),.slice qAY qsY.length qcY,.slice aAY raY.length acY,.slice bAY rbY.length bdY,.slice cAY rcY.length ccY] _ (fun _ _ _ h=>h) (by rfl) hH (by rfl) (fun w hS=>hS.1) Tryz.underlying72 (by rfl) (by kernel_rfl) ?_
         (try simp only [Act.put,List.setIfInBounds_toArray,List.set_cons_zero,List.set_cons_succ])
         refine reg_take 1 (v:=?_) rfl (by kernel_rfl) (fun _ _ _ h=>h) (by rfl) hH ?_ ?_
         rotate_left
         ·intro w hSw;(try dsimp only at hSw);obtain ⟨s0,s1,s2⟩:=hSw;go_simp;(try with_reducible rfl)
         (try simp only [Act.put,List.setIfInBounds_toArray,List.set_cons_zero,List.set_cons_succ])
         refine reg_take 2 (v:=?_) rfl (by kernel_rfl) (fun _ _ _ h=>h) (by rfl) hH ?_ ?_
         rotate_left
         ·intro w hSw;(try dsimp only at hSw);obtain ⟨s0,s1,s2⟩:=hSw;go_simp;(try with_reducible rfl)
         (try simp only [Act.put,List.setIfInBounds_toArray,List.set_cons_zero,List.set_cons_succ])
         refine reg_take 3 (v:=?_) rfl (by kernel_rfl) (fun _ _ _ h=>h) (by rfl) hH ?_ ?_
         rotate_left
         ·intro w hSw;(try dsimp only at hSw);obtain ⟨s0,s1,s2⟩:=hSw;go_simp;(try with_reducible rfl)
         (try simp only [Act.put,List.setIfInBounds_toArray,List.set_cons_zero,List.set_cons_succ])
         refine reg_take 4 (v:=?_) rfl (by kernel_rfl) (fun _ _ _ h=>h) (by rfl) hH ?_ ?_
         rotate_left
         ·intro w hSw;(try dsimp only at hSw);obtain ⟨s0,s1,s2⟩:=hSw;go_simp;(try with_reducible rfl)
         (try simp only [Act.put,List.setIfInBounds_toArray,List.set_cons_zero,List.set_cons_succ])
         refine reg_take 5 (v:=?_) rfl (by kernel_rfl) (fun _ _ _ h=>h) (by rfl) hH ?_ ?_
         rotate_left
         ·intro w hSw;(try dsimp only at hSw);obtain ⟨s0,s1,s2⟩:=hSw;go_simp;(try with_reducible rfl)
         (try simp only [Act.put,List.setIfInBounds_toArray,List.set_cons_zero,List.set_cons_succ])
         refine reg_take 8 (v:=?_) rfl (by kernel_rfl) (fun _ _ _ h=>h) (by rfl) hH ?_ ?_
         rotate_left
         ·intro w hSw;(try dsimp only at hSw);obtain ⟨s0,s1,s2⟩:=hSw;go_simp;(try with_reducible rfl)
         (try simp only [Act.put,List.setIfInBounds_toArray,List.set_cons_zero,List.set_cons_succ])
         refine wpAnyH_ready (rs:=[6]) (by kernel_rfl) (by simp) ?_
         refine reg_cons _ rfl (fun K' hK=>?_) AllReadyH.nil
         go_simp
         go_at_call 80
         refine KA2.out.mono ?_
         rintro e w7 ⟨l,A',c',rfl,hl,hlr,hb67⟩
         have hS7:Vx w7 GY 72 [.int .u16 (idY:Int),.int .u16 (flY:Int),.slice qAY qsY.length qcY,.slice aAY raY.length acY,.slice bAY rbY.length bdY,.slice cAY rcY.length ccY]∧w7.cell? ⟨GX,2,none⟩=some (.slice (some ⟨b0,oo,none⟩) 1 qcX)∧w7.cell? ⟨b0,oo,none⟩=some (.slice nA nm.length nc):=⟨HVY6.out.below hb67 HVY6.out.lt,(HVX6.out.below hb67 HVX6.out.lt).c6.2.2.1,(hb67.cell (p:=⟨b0,oo,none⟩) hbq).trans q0⟩
         refine hK.out _ _ hS7 (fun hH=>?_)
         (try simp only [Act.put,List.setIfInBounds_toArray,List.set_cons_zero,List.set_cons_succ])
         clear hK
         refine reg_take 7 (v:=?_) rfl (by kernel_rfl) (fun _ _ _ h=>h) (by rfl) hH ?_ ?_
         rotate_left
         ·intro w hSw;(try dsimp only at hSw);obtain ⟨s0,s1,s2⟩:=hSw;go_simp;(try with_reducible rfl)
         (try simp only [Act.put,List.setIfInBounds_toArray,List.set_cons_zero,List.set_cons_succ])
         refine wpAnyH_done (by kernel_rfl) ?_ _
         have HB7:=Lib.hid (HB6.out.trans (hb67.mono HB6.out.size))
         have HLR7:=Lib.hid hlr
         have HL:=Lib.hid hl
         clear hb67 hlr hl hS7 hH KA2 q0 hbq HX6 HY6 HVX6 HVY6 HB6 y0 y1 y2 y3 y4 y5
         have hll:l.length=ANS.length:=by rw [←HL.out,List.length_map]
         obtain ⟨n,hn⟩:∃ n,n=l.length:=⟨_,rfl⟩
         have hn256:n≤256:=by rw [hn,hll];exact HANL.out
         rw [←hn] at HLR7 ⊢
         have HN:=Lib.hid hn
         have HLN:=Lib.hid (show ANS.length=n by omega)
         clear hn hll
         go_wp2_with fail
         go_loopw [11,71] (fun v11 v71 wr=>∃ (k m:Nat),k≤n∧m≤k∧v71 = .int .i64 k∧Hid (Srv.okA (ANS.take k)=true)∧Hid ((Srv.addA (ANS.take k)).length=m)∧Hid (OwM wr w7.heap.size 31 5 v11 m (acs (Srv.addA (ANS.take k))))∧Hid (Below w7.heap.size w7 wr)) (fun _ v71 _=>n - (intOf v71).toNat)
         case atStart=>exact ⟨0,0,Nat.zero_le _,Nat.le_refl _,rfl,Lib.hid rfl,Lib.hid rfl,Lib.hid (OwM.nil _ _ _ _),Lib.hid (Below.refl _ _)⟩
         case round=>
          obtain ⟨k,m,hk,hmk,rfl,HOK,HM,HO,HB⟩:=hrel
          obtain ⟨Ar,cr,rfl,_,_,_⟩:=HO.out.form
          have hsz:=HB.out.size
          rcases Nat.lt_or_ge k n with hlt | hge
          ·have hkl:k<l.length:=by rw [←HN.out];exact hlt
           obtain ⟨b,o,rfl,hb,hc⟩:=(HLR7.out.below HB.out).at_ hlt
           have hf:=hc hkl
           have hrd:=(HLR7.out.below HB.out).2.2.2.2 _ (List.getElem_mem hkl)
           have hak:ANS.take (k+1)=ANS.take k++[l[k].r]:=by
            have h1:k<ANS.length:=by rw [HLN.out];exact hlt
            rw [List.take_succ_eq_append_getElem h1]
            congr 2
            have:ANS[k]'h1=(l.map RR.r)[k]'(by simpa using hkl):=by
             congr 1
             exact HL.out.symm
            rw [this,List.getElem_map]
           have hmem:l[k].r∈ANS:=by rw [←HL.out];exact List.mem_map.2 ⟨_,List.getElem_mem hkl,rfl⟩
           obtain ⟨x,hx⟩:∃ x,x=l[k]:=⟨_,rfl⟩
           rw [←hx] at hf hrd hak hmem
           clear hx hc
           obtain ⟨xA,xc,dA,dc,tA,tc,⟨⟨xn,xty,xcl⟩,xttl,xd,xpr,xwe,xpo,xtg⟩⟩:=x
           obtain ⟨c0,c1,c2,c3,c4,c5,c6,c7,c8⟩:=hf.cells
           dsimp only at c0 c1 c2 c3 c4 c5 c6 c7 c8 hak hmem
           have HMEM:=Lib.hid hmem
           have HAK:=Lib.hid hak
           have HRD:=Lib.hid hrd
           clear hf hmem hak hrd
           go_upto_region 18 with fail
           have hV:=Vx.new wr 88 [.slice xA xn.length xc,.int .u16 (xty:Int),.int .u16 (xcl:Int),.int .u32 (xttl:Int),.slice dA xd.length dc,.int .u16 (xpr:Int),.int .u16 (xwe:Int),.int .u16 (xpo:Int),.slice tA xtg.length tc]
           have hbw:=bl_new wr (.cells #[.slice xA xn.length xc,.int .u16 (xty:Int),.int .u16 (xcl:Int),.int .u32 (xttl:Int),.slice dA xd.length dc,.int .u16 (xpr:Int),.int .u16 (xwe:Int),.int .u16 (xpo:Int),.slice tA xtg.length tc] 88)
           have HOA:=Lib.hid (OwM.alloc HO.out (.cells #[.slice xA xn.length xc,.int .u16 (xty:Int),.int .u16 (xcl:Int),.int .u32 (xttl:Int),.slice dA xd.length dc,.int .u16 (xpr:Int),.int .u16 (xwe:Int),.int .u16 (xpo:Int),.slice tA xtg.length tc] 88))
           have HBA:=Lib.hid (HB.out.alloc hsz (.cells #[.slice xA xn.length xc,.int .u16 (xty:Int),.int .u16 (xcl:Int),.int .u32 (xttl:Int),.slice dA xd.length dc,.int .u16 (xpr:Int),.int .u16 (xwe:Int),.int .u16 (xpo:Int),.slice tA xtg.length tc] 88))
           have HRA:=Lib.hid (HRD.out.below (hbw.mono (hsz)))
           obtain ⟨G,hG⟩:∃ G,G=wr.heap.size:=⟨_,rfl⟩
           have hGa:w7.heap.size≤G:=by omega
           rw [←hG] at hV ⊢
           generalize wr.alloc (.cells #[.slice xA xn.length xc,.int .u16 (xty:Int),.int .u16 (xcl:Int),.int .u32 (xttl:Int),.slice dA xd.length dc,.int .u16 (xpr:Int),.int .u16 (xwe:Int),.int .u16 (xpo:Int),.slice tA xtg.length tc] 88)=w8 at hV HOA HBA HRA hbw ⊢
           obtain ⟨d0,d1,d2,d3,d4,d5,d6,d7,d8⟩:=hV.c9
           have HV:=Lib.hid hV
           have HBW:=Lib.hid hbw
           clear c0 c1 c2 c3 c4 c5 c6 c7 c8 hV hbw HO HB HRD hG
           by_cases ht:xtg.length=0
           ·have ht1:((xtg.length:Int) == 0)=true:=by rw [beq_iff_eq];omega
            have hr0:Srv.rootR (⟨⟨xn,xty,xcl⟩,xttl,xd,xpr,xwe,xpo,xtg⟩:Rc)=true:=decide_eq_true ht
            have HR0:=Lib.hid hr0
            clear ht hr0
            go_wp2_with fail
            go_roundw
            case rel=>
             refine ⟨k+1,m,by omega,by omega,by go_num,Lib.hid ?_,Lib.hid ?_,Lib.hid ?_,HBA⟩
             ·rw [HAK.out,okA_snoc,HOK.out,HR0.out];rfl
             ·rw [HAK.out,addA_snoc,if_pos HR0.out,List.append_nil];exact HM.out
             ·rw [HAK.out,addA_snoc,if_pos HR0.out,List.append_nil];exact HOA.out
            case measure=>simp [intOf];omega
           ·have ht1:((xtg.length:Int) == 0)=false:=by rw [beq_eq_false_iff_ne];omega
            have hr0:Srv.rootR (⟨⟨xn,xty,xcl⟩,xttl,xd,xpr,xwe,xpo,xtg⟩:Rc)=false:=decide_eq_false ht
            have HR0:=Lib.hid hr0
            clear ht hr0
            by_cases hp:xpo=0
            ·have hp1:((xpo:Int) == 0)=true:=by rw [beq_iff_eq];omega
             have hTv:T=([],185):=by
              rw [HTM3.out,if_pos]
              exact okA_bad HMEM.out HR0.out (by unfold Srv.badR;rw [decide_eq_true hp];rfl)
             have HTV:=Lib.hid hTv
             clear hTv hp
             go_wp2_with fail
             go_ret2
             exact ⟨_,by rw [HTV.out];rfl,by rw [HTV.out];exact OwM.nil _ _ _ _,fun x hx=>(by rw [HTV.out] at hx;cases hx),by rw [HTV.out];simp,HB7.out.trans (HBA.out.mono HB7.out.size)⟩
            ·have hp1:((xpo:Int) == 0)=false:=by rw [beq_eq_false_iff_ne];omega
             have HP:=Lib.hid hp
             clear hp
             obtain ⟨HB_,hHB⟩:∃ b,b=Srv.hostN xtg:=⟨_,rfl⟩
             have htg:=(HRA.out.2.2.1)
             have hszt:=rightR_tgs (HANS.out _ HMEM.out).1
             dsimp only at htg hszt
             have KH:=Lib.hid (host_at tA tc xtg.length xtg HB_ hHB.symm w8 rfl (htg.1.more HBA.out.size) (by have:=len_le_size xtg;omega) (fun x hx=>by have:=mem_le_size hx;omega))
             have HHB:=Lib.hid hHB
             have HTG:=Lib.hid htg
             have HSZ:=Lib.hid hszt
             clear hHB htg hszt
             cases HB_ with
             | false=>
               have hTv:T=([],185):=by
                rw [HTM3.out,if_pos]
                exact okA_bad HMEM.out HR0.out (by unfold Srv.badR;rw [←HHB.out];simp)
               have HTV:=Lib.hid hTv
               clear hTv
               go_wp2_with (go_at_call 81
                            refine KH.out.mono ?_
                            rintro e w9 ⟨rfl,hb9⟩)
               go_ret2
               exact ⟨_,by rw [HTV.out];rfl,by rw [HTV.out];exact OwM.nil _ _ _ _,fun x hx=>(by rw [HTV.out] at hx;cases hx),by rw [HTV.out];simp,HB7.out.trans ((HBA.out.trans (hb9.mono HBA.out.size)).mono HB7.out.size)⟩
             | true=>
               obtain ⟨F,ef,hF⟩:∃ F ef,textR xtg=(F,ef):=⟨_,_,rfl⟩
               have KT:Hid (∀ W:World,Below w8.heap.size w8 W→Calls Tryz.prog 31 #[.slice tA xtg.length tc] W fun e w'=>e = .returned (.tuple #[.string ⟨F.toArray⟩,.int .i64 (ef:Int)])∧Below W.heap.size W w'):=Lib.hid (fun W hW=>by
                have hr:Rd W W.heap.size tA xtg.length (sc xtg):=(HTG.out.1.below (hW.mono HBA.out.size)).more (Nat.le_trans HBA.out.size hW.size)
                exact text_all W tA tc xtg.length xtg F ef hF rfl hr (by have:=HSZ.out;omega))
               have hw1:wrap64 (xpo:Int)=(xpo:Int):=by have:=HRA.out.2.2.2.2.2.2;dsimp only at this;unfold wrap64;omega
               have hw2:wrap64 (xpr:Int)=(xpr:Int):=by have:=HRA.out.2.2.2.2.1;dsimp only at this;unfold wrap64;omega
               have hw3:wrap64 (xwe:Int)=(xwe:Int):=by have:=HRA.out.2.2.2.2.2.1;dsimp only at this;unfold wrap64;omega
               have HF:=Lib.hid hF
               have had:Srv.adR (⟨⟨xn,xty,xcl⟩,xttl,xd,xpr,xwe,xpo,xtg⟩:Rc)=⟨F,xpo,xpr,xwe,xttl⟩:=by unfold Srv.adR;rw [hF]
               have HAD:=Lib.hid had
               clear hF had
               go_wp2_with (first
                | (at_builtin
                   refine wpList_appM _ rfl _ _ _ _ rfl w7.heap.size 5 31 j0 (.agg zA.cells.toArray) 48 Tryz.underlying27 hj' hy0 hy1 hy2 rfl (by omega) (.slice Ar m cr) m (acs (Srv.addA (ANS.take k))) (HO10.out.alloc _) rfl 1 (Ad.cells ⟨F,xpo,xpr,xwe,xttl⟩) (srcA Tryz.underlying27 31 5 _ 1 rfl (acells_one _) (by simp)) (by omega) (by have:=HB10.out.size;simp;omega) ?_
                   intro v4 w11 ho4 hg4 hz4
                   obtain ⟨A4,c4',rfl,_,_,_⟩:=ho4.form
                   have HO11:=Lib.hid ho4
                   have HG11:=Lib.hid hg4
                   clear ho4 hg4)
                | (go_at_call 31
                   refine (KT.out _ HB9.out).mono ?_
                   rintro e w10 ⟨rfl,hb10⟩
                   have HO10:=Lib.hid (HO9.out.far hb10)
                   have HB10:=Lib.hid ((HBA.out.trans (HB9.out.mono HBA.out.size)).trans (hb10.mono (by have:=HB9.out.size;have:=HBA.out.size;omega)))
                   obtain ⟨p0,p1,p2,p3,p4,p5,p6,p7,p8⟩:=(HV9.out.below hb10 HV9.out.lt).c9
                   clear hb10)
                | (go_at_call 81
                   refine KH.out.mono ?_
                   rintro e w9 ⟨rfl,hb9⟩
                   have HB9:=Lib.hid hb9
                   have HO9:=Lib.hid (HOA.out.far hb9)
                   have HV9:=Lib.hid (HV.out.below hb9 HV.out.lt)
                   obtain ⟨f0,f1,f2,f3,f4,f5,f6,f7,f8⟩:=HV9.out.c9
                   clear hb9))
               go_roundw
               case rel=>
                refine ⟨k+1,m+1,by omega,by omega,by go_num,Lib.hid ?_,Lib.hid ?_,Lib.hid ?_,Lib.hid ((HB10.out.alloc HB10.out.size _).trans (HG11.out.below (OwM.lt HO10.out) (by have:=HB10.out.size;simp;omega)))⟩
                ·rw [HAK.out,okA_snoc,HOK.out,HR0.out]
                 unfold Srv.badR
                 rw [←HHB.out,decide_eq_false HP.out];rfl
                ·rw [HAK.out,addA_snoc,if_neg (by rw [HR0.out];simp),List.length_append,HM.out];rfl
                ·rw [HAK.out,addA_snoc,if_neg (by rw [HR0.out];simp),HAD.out,acs_snoc];exact HO11.out
               case measure=>simp [intOf];omega
          ·have hkn:k=n:=by omega
           subst hkn
           have htk:ANS.take k=ANS:=List.take_of_length_le (by rw [HLN.out];exact Nat.le_refl _)
           rw [htk] at HOK HM HO
           have hTv:T=(Srv.onceA (Srv.sortA (Srv.addA ANS)),0):=by rw [HTM3.out,if_neg (by rw [HOK.out];simp)]
           have hadA:∀ x∈Srv.addA ANS,AdOk x:=fun x hx=>by
            unfold Srv.addA at hx
            obtain ⟨r0,hr0,rfl⟩:=List.mem_map.1 hx
            obtain ⟨k1,k2,k3,k4,k5⟩:=(HANS.out r0 (List.mem_filter.1 hr0).1).2
            exact adR_ok k5 k3 k4 k2
           obtain ⟨S,hS⟩:∃ S,S=Srv.sortA (Srv.addA ANS):=⟨_,rfl⟩
           have hSl:S.length=m:=by rw [hS,(Srv.sortA_perm _).length_eq];exact HM.out
           have hSa:∀ x∈S,AdOk x:=fun x hx=>hadA x ((Srv.sortA_perm _).mem_iff.1 (by rw [←hS];exact hx))
           have KSF:=Lib.hid (sortf_at w7.heap.size (.slice Ar m cr) m (Srv.addA ANS) wr HO.out HM.out (by omega))
           rw [←hS] at hTv KSF
           have HTV:=Lib.hid hTv
           have HSL:=Lib.hid hSl
           have HSA:=Lib.hid hSa
           have HBr:=Lib.hid (HB7.out.trans (HB.out.mono HB7.out.size))
           clear hTv hSl hSa hadA hS htk HTM HTM2 HTM3 HO HM HOK HLR7 HB
           obtain ⟨W8,hW8⟩:∃ x,x=wr:=⟨wr,rfl⟩
           subst hW8
           go_wp2_with (go_at_call 82
                        refine KSF.out.mono ?_
                        rintro e w8 ⟨rfl,ho8,hb8⟩
                        obtain ⟨A8,c8,hv8,hs8⟩:=AsRd.of_own ho8 HSL.out (by omega) HSA.out
                        cases hv8
                        have HS8:=Lib.hid hs8
                        have HB8:=Lib.hid (HBr.out.trans (hb8.mono HB7.out.size))
                        clear ho8 hs8 hb8)
           go_loopw [16,117] (fun v16 v117 wt=>∃ (i j:Nat),i≤m∧j≤i∧v117 = .int .i64 i∧Hid ((Srv.onceA (S.take i)).length=j)∧Hid (OwM wt w8.heap.size 31 5 v16 j (acs (Srv.onceA (S.take i))))∧Hid (Below w8.heap.size w8 wt)) (fun _ v117 _=>m - (intOf v117).toNat)
           case atStart=>exact ⟨0,0,Nat.zero_le _,Nat.le_refl _,rfl,Lib.hid rfl,Lib.hid (OwM.nil _ _ _ _),Lib.hid (Below.refl _ _)⟩
           case round=>
            obtain ⟨i,j,hi,hji,rfl,HJ,HO,HB⟩:=hrel
            have hbz:=HB.out.size
            rcases Nat.lt_or_ge i m with hlt | hge
            ·have hil:i<S.length:=by rw [HSL.out];exact hlt
             obtain ⟨b,o,rfl,hb,hc⟩:=(HS8.out.below HB.out).at_ hlt
             have hf:=hc hil
             have hst:Srv.onceA (S.take (i+1))=Srv.onA (Srv.onceA (S.take i)) S[i]:=by rw [List.take_succ_eq_append_getElem hil,Srv.onceA_snoc]
             obtain ⟨OL,hOL⟩:∃ O,O=Srv.onceA (S.take i):=⟨_,rfl⟩
             have hOk:∀ x∈OL,AdOk x:=fun x hx=>HSA.out x (List.mem_of_mem_take (once_mem (by rw [←hOL];exact hx)))
             rw [←hOL] at hst HJ HO
             obtain ⟨Ao,co,rfl,_⟩:=AsRd.of_own HO.out HJ.out (by omega) hOk
             obtain ⟨x,hx⟩:∃ x,x=S[i]:=⟨_,rfl⟩
             rw [←hx] at hf hst
             have HST:=Lib.hid hst
             have HOK:=Lib.hid hOk
             clear hx hst hc hOL hOk
             obtain ⟨xh,xpo,xpr,xwe,xttl⟩:=x
             obtain ⟨c0,c1,c2,c3,c4⟩:=hf.cells
             dsimp only at c0 c1 c2 c3 c4
             go_upto_region 29 with fail
             have hV:=Vx.new wr 31 [.string ⟨xh.toArray⟩,.int .i64 xpo,.int .i64 xpr,.int .i64 xwe,.int .u32 (xttl:Int)]
             have HOA:=Lib.hid (OwM.alloc HO.out (.cells #[.string ⟨xh.toArray⟩,.int .i64 xpo,.int .i64 xpr,.int .i64 xwe,.int .u32 (xttl:Int)] 31))
             have HBA:=Lib.hid (HB.out.alloc hbz (.cells #[.string ⟨xh.toArray⟩,.int .i64 xpo,.int .i64 xpr,.int .i64 xwe,.int .u32 (xttl:Int)] 31))
             obtain ⟨G,hG⟩:∃ G,G=wr.heap.size:=⟨_,rfl⟩
             rw [←hG] at hV ⊢
             generalize wr.alloc (.cells #[.string ⟨xh.toArray⟩,.int .i64 xpo,.int .i64 xpr,.int .i64 xwe,.int .u32 (xttl:Int)] 31)=w9 at hV HOA HBA ⊢
             obtain ⟨A9,c9',hv9,hs9⟩:=AsRd.of_own HOA.out HJ.out (by omega) HOK.out
             cases hv9
             have KC:=Lib.hid (same1_any G ⟨xh,xpo,xpr,xwe,xttl⟩ Ao co j OL w9 hV hs9)
             have HV:=Lib.hid hV
             obtain ⟨p,hp⟩:∃ p,p=OL.any (fun b=>Srv.plA ⟨xh,xpo,xpr,xwe,xttl⟩ b):=⟨_,rfl⟩
             rw [←hp] at KC
             have HP:=Lib.hid hp
             clear hp hs9 hf c0 c1 c2 c3 c4 hV hG HO HB
             cases p with
             | true=>
               go_wp2_with (go_at_call 16
                            refine KC.out.mono ?_
                            rintro e w10 ⟨rfl,hb10⟩)
               go_roundw
               case rel=>
                have hon:Srv.onceA (S.take (i+1))=OL:=by rw [HST.out];unfold Srv.onA;rw [if_pos HP.out.symm]
                refine ⟨i+1,j,by omega,by omega,by go_num,Lib.hid ?_,Lib.hid ?_,Lib.hid (HBA.out.trans (hb10.mono HBA.out.size))⟩
                ·rw [hon];exact HJ.out
                ·rw [hon];exact HOA.out.far hb10
               case measure=>simp [intOf];omega
             | false=>
               go_wp2_with (first
                | (at_builtin
                   refine wpList_appM _ rfl _ _ _ _ rfl w8.heap.size 5 31 j0 (.agg zA.cells.toArray) 48 Tryz.underlying27 hj' hy0 hy1 hy2 rfl (by omega) (.slice Ao j co) j (acs OL) (HO10.out.alloc _) rfl 1 (Ad.cells ⟨xh,xpo,xpr,xwe,xttl⟩) (srcA Tryz.underlying27 31 5 _ 1 rfl (acells_one _) (by simp)) (by omega) (by have:=HB10.out.size;simp;omega) ?_
                   intro v4 w11 ho4 hg4 hz4
                   obtain ⟨A4,c4',rfl,_,_,_⟩:=ho4.form
                   have HO11:=Lib.hid ho4
                   have HG11:=Lib.hid hg4
                   clear ho4 hg4)
                | (go_at_call 16
                   refine KC.out.mono ?_
                   rintro e w10 ⟨rfl,hb10⟩
                   have HO10:=Lib.hid (HOA.out.far hb10)
                   have HB10:=Lib.hid (HBA.out.trans (hb10.mono HBA.out.size))
                   obtain ⟨d0,d1,d2,d3,d4⟩:=(HV.out.below hb10 HV.out.lt).c5
                   clear hb10))
               go_roundw
               case rel=>
                have hon:Srv.onceA (S.take (i+1))=OL++[⟨xh,xpo,xpr,xwe,xttl⟩]:=by rw [HST.out];unfold Srv.onA;rw [if_neg (by rw [←HP.out];simp)]
                refine ⟨i+1,j+1,by omega,by omega,by go_num,Lib.hid ?_,Lib.hid ?_,Lib.hid ((HB10.out.alloc HB10.out.size _).trans (HG11.out.below (OwM.lt HO10.out) (by have:=HB10.out.size;simp;omega)))⟩
                ·rw [hon,List.length_append,HJ.out];rfl
                ·rw [hon,acs_snoc];exact HO11.out
               case measure=>simp [intOf];omega
            ·have him:i=m:=by omega
             subst him
             have hti:S.take i=S:=List.take_of_length_le (by rw [HSL.out];exact Nat.le_refl _)
             rw [hti] at HJ HO
             go_wp2_with fail
             go_ret2
             refine ⟨_,by rw [HTV.out];rfl,?_,?_,?_,HB8.out.trans (HB.out.mono HB8.out.size)⟩
             ·rw [HTV.out]
              show OwM wr w.heap.size _ 5 _ (Srv.onceA S).length (acs (Srv.onceA S))
              rw [HJ.out]
              exact OwM.mono HO.out HB8.out.size
             ·rw [HTV.out]
              exact fun x hx=>HSA.out x (once_mem hx)
             ·rw [HTV.out]
              show (Srv.onceA S).length≤4096
              rw [HJ.out];omega
        ·rw [decide_eq_false h16] at hl4
         have hl4':(bits .and .u16 (flY:Int) 15 != 0)=true:=by
          show (!(bits .and .u16 (flY:Int) 15 == 0))=true
          rw [hl4];rfl
         have hTv:T=([],184):=by rw [HTM2.out,if_neg (by omega),if_pos h16]
         have HTV:=Lib.hid hTv
         clear hTv
         go_wp2_with fail
         go_ret2
         exact ⟨_,by rw [HTV.out];rfl,by rw [HTV.out];exact OwM.nil _ _ _ _,fun x hx=>(by rw [HTV.out] at hx;cases hx),by rw [HTV.out];simp,HB6.out⟩
       ·rw [decide_eq_false h9] at hb9
        have hb9':(bits .and .u16 (flY:Int) 512 != 0)=true:=by
         show (!(bits .and .u16 (flY:Int) 512 == 0))=true
         rw [hb9];rfl
        have hTv:T=([],183):=by rw [HTM2.out,if_pos (by omega)]
        have HTV:=Lib.hid hTv
        clear hTv
        go_wp2_with fail
        go_ret2
        exact ⟨_,by rw [HTV.out];rfl,by rw [HTV.out];exact OwM.nil _ _ _ _,fun x hx=>(by rw [HTV.out] at hx;cases hx),by rw [HTV.out];simp,HB6.out⟩
   ·have hef:((er:Int) != 0)=true:=by rw [bne_iff_ne];omega
    have hTv:T=([],er):=by rw [hTe,if_pos he]
    have HTV:=Lib.hid hTv
    clear hTv hTe he
    go_wp2_with fail
    go_ret2
    exact ⟨_,by rw [HTV.out];rfl,by rw [HTV.out];exact OwM.nil _ _ _ _,fun x hx=>(by rw [HTV.out] at hx;cases hx),by rw [HTV.out];simp,HB5.out⟩
end Go.Proofs.YtlipmlbijddopaaGreatDoor
