/-
  SrvTk; SrvTp
-/
import Derived.Test.YtlipmlbijddopaaGreatDoorZ28
import Derived.Test.YtlipmlbijddopaaGreatDoorZ27
import Derived.BigQuiet
set_option linter.unusedVariables false
set_option linter.unusedSimpArgs false
namespace Go.Proofs.YtlipmlbijddopaaGreatDoor
open Go.RowKit
namespace Srv
theorem own_iff {q m:Ms} (hq:askedM q=true):sameM (ownM q m) q=true ↔ m.id=q.id∧m.qs.length=1∧(q0 m).ty=33∧(q0 m).cl=1∧(q0 m).nm=(q0 q).nm:=by
 rw [sameM_iff]
 obtain ⟨qi,qf,qq,qa,qb,qc⟩:=q
 obtain ⟨mi,mf,mq,ma,mb,mc⟩:=m
 simp only [askedM,Bool.and_eq_true,decide_eq_true_eq] at hq
 obtain ⟨h1,h2,h3,h4,h5⟩:=hq
 obtain rfl:qa=[]:=List.eq_nil_of_length_eq_zero (by omega)
 obtain rfl:qb=[]:=List.eq_nil_of_length_eq_zero (by omega)
 obtain rfl:qc=[]:=List.eq_nil_of_length_eq_zero (by omega)
 obtain ⟨⟨yn,yt,yc⟩,rfl⟩:=List.length_eq_one_iff.1 h2
 simp only [q0,List.getD_cons_zero] at h4 h5 ⊢
 subst h4 h5
 simp only [ownM]
 constructor
 ·intro h
  injection h with e1 e2 e3
  subst e1 e3
  exact ⟨rfl,rfl,rfl,rfl,rfl⟩
 ·rintro ⟨rfl,h,a,b,c⟩
  obtain ⟨⟨zn,zt,zc⟩,rfl⟩:=List.length_eq_one_iff.1 h
  simp only [List.getD_cons_zero] at a b c
  subst a b c
  rfl
theorem cb_step {a b:List UInt8} {k:Nat} (h:k<a.length) (h2:k<b.length) (he:a[k]=b[k]):Lib.compareBytes (a.drop (k+1)) (b.drop (k+1))=Lib.compareBytes (a.drop k) (b.drop k):=by
 rw [List.drop_eq_getElem_cons h,List.drop_eq_getElem_cons h2,Ord.cb_cons,he]
 have hn:¬ b[k]<b[k]:=fun hh=>by have:=UInt8.lt_iff_toNat_lt.1 hh;omega
 rw [if_neg hn,if_neg hn]
theorem cb_ne {a b:List UInt8} {k:Nat} (h:k<a.length) (h2:k<b.length) (he:a[k].toNat≠b[k].toNat):Lib.compareBytes (a.drop k) (b.drop k)<0 ↔ a[k].toNat<b[k].toNat:=by
 rw [List.drop_eq_getElem_cons h,List.drop_eq_getElem_cons h2,Ord.cb_cons]
 by_cases h1:a[k]<b[k]
 ·have:=UInt8.lt_iff_toNat_lt.1 h1
  rw [if_pos h1];omega
 ·have h3:¬ a[k].toNat<b[k].toNat:=fun hh=>h1 (UInt8.lt_iff_toNat_lt.2 hh)
  have h4:b[k]<a[k]:=UInt8.lt_iff_toNat_lt.2 (by omega)
  rw [if_neg h1,if_pos h4];omega
theorem cb_end {a b:List UInt8} {k:Nat} (hk:k=a.length∨k=b.length) (h1:k≤a.length) (h2:k≤b.length):Lib.compareBytes (a.drop k) (b.drop k)<0 ↔ a.length<b.length:=by
 rcases Nat.lt_or_ge k a.length with h3 | h3
 ·have e:b.drop k=[]:=List.drop_of_length_le (by omega)
  rw [e,List.drop_eq_getElem_cons h3]
  simp only [Lib.compareBytes];omega
 ·have e:a.drop k=[]:=List.drop_of_length_le (by omega)
  rw [e]
  rcases Nat.lt_or_ge k b.length with h4 | h4
  ·rw [List.drop_eq_getElem_cons h4]
   simp only [Lib.compareBytes];omega
  ·have e2:b.drop k=[]:=List.drop_of_length_le (by omega)
   rw [e2]
   simp only [Lib.compareBytes];omega
theorem cmpI_neg_iff (a b:Int):cmpI a b<0 ↔ a<b:=by
 unfold cmpI
 split
 ·omega
 ·split <;> omega
theorem cmpI_ne0 {a b:Int} (h:a≠b):cmpI a b≠0:=fun e=>h (cmpI_zero e)
theorem cmpI_self0 (a:Int):cmpI a a=0:=by
 unfold cmpI
 rw [if_neg (Int.lt_irrefl a),if_neg (Int.lt_irrefl a)]
theorem lex_ne {α:Type} {c d:α→α→Int} {a b:α} (h:c a b≠0):lexC c d a b=c a b:=if_neg h
theorem lex_eq {α:Type} {c d:α→α→Int} {a b:α} (h:c a b=0):lexC c d a b=d a b:=if_pos h
theorem lt_pr {x y:Ad} (h:x.pr≠y.pr):cmpA x y<0 ↔ x.pr<y.pr:=by
 have e:cmpA x y=cmpI x.pr y.pr:=lex_ne (cmpI_ne0 h)
 rw [e,cmpI_neg_iff]
theorem lt_we {x y:Ad} (h0:x.pr=y.pr) (h:x.we≠y.we):cmpA x y<0 ↔ y.we<x.we:=by
 have e:cmpA x y=cmpI y.we x.we:=(lex_eq (by show cmpI x.pr y.pr=0;rw [h0,cmpI_self0])).trans (lex_ne (cmpI_ne0 (Ne.symm h)))
 rw [e,cmpI_neg_iff]
theorem lt_h {x y:Ad} (h0:x.pr=y.pr) (h1:x.we=y.we) (h:x.h≠y.h):cmpA x y<0 ↔ Lib.compareBytes x.h y.h<0:=by
 have e:cmpA x y=Lib.compareBytes x.h y.h:=(lex_eq (by show cmpI x.pr y.pr=0;rw [h0,cmpI_self0])).trans ((lex_eq (by show cmpI y.we x.we=0;rw [h1,cmpI_self0])).trans (lex_ne (fun e=>h (Ord.cb_eq _ _ e))))
 rw [e]
theorem lt_po {x y:Ad} (h0:x.pr=y.pr) (h1:x.we=y.we) (h2:x.h=y.h) (h:x.po≠y.po):cmpA x y<0 ↔ x.po<y.po:=by
 have e:cmpA x y=cmpI x.po y.po:=(lex_eq (by show cmpI x.pr y.pr=0;rw [h0,cmpI_self0])).trans ((lex_eq (by show cmpI y.we x.we=0;rw [h1,cmpI_self0])).trans ((lex_eq (by show Lib.compareBytes x.h y.h=0;rw [h2,Ord.cb_self])).trans (lex_ne (cmpI_ne0 h))))
 rw [e,cmpI_neg_iff]
theorem lt_ttl {x y:Ad} (h0:x.pr=y.pr) (h1:x.we=y.we) (h2:x.h=y.h) (h3:x.po=y.po):cmpA x y<0 ↔ x.ttl<y.ttl:=by
 have e:cmpA x y=cmpI x.ttl y.ttl:=(lex_eq (by show cmpI x.pr y.pr=0;rw [h0,cmpI_self0])).trans ((lex_eq (by show cmpI y.we x.we=0;rw [h1,cmpI_self0])).trans ((lex_eq (by show Lib.compareBytes x.h y.h=0;rw [h2,Ord.cb_self])).trans (lex_eq (by show cmpI x.po y.po=0;rw [h3,cmpI_self0]))))
 rw [e,cmpI_neg_iff]
 omega
theorem putA_len (a:Ad):∀ (th:Bool) (l:List Ad),(putA a th l).length≤l.length+1
 | th,[]=>by unfold putA;split <;> simp
 | th,x :: l=>by
   have h1:=putA_len a true l
   have h2:=putA_len a false l
   have h3:(putA a true l).length≤l.length:=by rw [putA_true];exact List.length_filter_le _ _
   rw [putA]
   by_cases hc:cmpA a x<0 <;> cases th <;> cases plA x a <;> simp [hc] <;> omega
theorem putsA_len:∀ (n:Nat) (l:List Ad),l.length=n→(putsA l).length≤l.length
 | 0,l,hn=>by
   have:l=[]:=List.eq_nil_of_length_eq_zero hn
   subst this;exact Nat.le_refl _
 | n+1,l,hn=>by
   obtain ⟨k,a,rfl⟩:∃ k a,l=k++[a]:=⟨l.dropLast,l.getLast (by intro e;subst e;simp at hn),(List.dropLast_concat_getLast _).symm⟩
   rw [putsA_snoc,List.length_append]
   have h1:=putsA_len n k (by simpa using hn)
   have h2:=putA_len a false (putsA k)
   simp only [List.length_singleton]
   omega
theorem putsA_mem {l:List Ad} {x:Ad} (h:x∈putsA l):x∈l:=(puts_stays _ l rfl).mem x h
theorem addA_len (l:List Rc):(addA l).length≤l.length:=by
 unfold addA
 rw [List.length_map]
 exact List.length_filter_le _ _
theorem addA_mem {l:List Rc} {x:Ad} (h:x∈addA l):∃ r∈l,x=adR r:=by
 obtain ⟨r,hr,rfl⟩:=List.mem_map.1 h
 exact ⟨r,(List.mem_filter.1 hr).1,rfl⟩
end Srv
namespace Srv
def restA (a:Ad) (th:Bool) (x:Ad) (l:List Ad):List Ad:=if plA x a=true then (if th=true then putA a th l else x :: putA a true l) else x :: putA a th l
theorem putA_true_c (a x:Ad) (l:List Ad):putA a true (x :: l)=restA a true x l:=by simp [putA,restA]
theorem putA_lt_c {a x:Ad} (l:List Ad) (h:cmpA a x<0):putA a false (x :: l)=a :: restA a true x l:=by simp [putA,restA,h]
theorem putA_ge_c {a x:Ad} (l:List Ad) (h:¬ cmpA a x<0):putA a false (x :: l)=restA a false x l:=by simp [putA,restA,h]
theorem rest_skip {a x:Ad} (l:List Ad) (h:plA x a=true):restA a true x l=putA a true l:=by simp [restA,h]
theorem rest_first {a x:Ad} (l:List Ad) (h:plA x a=true):restA a false x l=x :: putA a true l:=by simp [restA,h]
theorem rest_other {a x:Ad} (th:Bool) (l:List Ad) (h:plA x a=false):restA a th x l=x :: putA a th l:=by simp [restA,h]
end Srv
set_option maxRecDepth 100000 in
set_option maxHeartbeats 400000 in
theorem rbit15_at (fl:Nat) (w:World) (hf:fl<65536):Calls Tryz.prog 93 #[.int .u16 (fl:Int),.int .u16 32768] w fun e w'=>e = .returned (.bool (decide (fl / 32768 % 2=1)))∧w=w':=by
 obtain ⟨r,hr⟩:∃ r,r=decide (fl / 32768 % 2=1):=⟨_,rfl⟩
 have h1:((fl:Int) / 32768 % 2 == 1)=r:=by rw [hr,Bool.eq_iff_iff];simp;omega
 have h2:IntKind.u16.wrap ((fl:Int) / 32768)=(fl:Int) / 32768:=by rw [IntKind.wrap_u16];omega
 rw [←hr]
 clear hr
 go_enter Tryz.func93,Tryz.ntmps93
 go_wp2
 go_ret
 exact ⟨rfl,rfl⟩
set_option maxRecDepth 100000 in
set_option maxHeartbeats 400000 in
theorem rbit9_at (fl:Nat) (w:World) (hf:fl<65536):Calls Tryz.prog 93 #[.int .u16 (fl:Int),.int .u16 512] w fun e w'=>e = .returned (.bool (decide (fl / 512 % 2=1)))∧w=w':=by
 obtain ⟨r,hr⟩:∃ r,r=decide (fl / 512 % 2=1):=⟨_,rfl⟩
 have h1:((fl:Int) / 512 % 2 == 1)=r:=by rw [hr,Bool.eq_iff_iff];simp;omega
 have h2:IntKind.u16.wrap ((fl:Int) / 512)=(fl:Int) / 512:=by rw [IntKind.wrap_u16];omega
 rw [←hr]
 clear hr
 go_enter Tryz.func93,Tryz.ntmps93
 go_wp2
 go_ret
 exact ⟨rfl,rfl⟩
set_option maxRecDepth 100000 in
set_option maxHeartbeats 1000000 in
theorem rlt_at (a b:List UInt8) (w:World) (ha:a.length≤140737488355328) (hb:b.length≤140737488355328) :
 Calls Tryz.prog 167 #[.string ⟨a.toArray⟩,.string ⟨b.toArray⟩] w fun e w'=>∃ z:Int,e = .returned (.int .i64 z)∧(z<0 ↔ Lib.compareBytes a b<0)∧∃ q,w'=w.drewN q:=by
 go_enter Tryz.func167,Tryz.ntmps167
 go_wp2_with fail
 go_loopw [5] (fun i wr=>∃ k q:Nat,k≤a.length∧k≤b.length∧i = .int .i64 k∧Hid (Lib.compareBytes (a.drop k) (b.drop k)=Lib.compareBytes a b)∧wr=w.drewN q) (fun i _=>a.length - (intOf i).toNat)
 case atStart=>exact ⟨0,0,by omega,by omega,rfl,rfl,rfl⟩
 case round=>
  obtain ⟨k,q,hk1,hk2,rfl,HR,hwr⟩:=hrel
  have HW:=Lib.hid hwr
  clear hwr
  by_cases hlt:k<a.length∧k<b.length
  ·obtain ⟨hka,hkb⟩:=hlt
   have ix:=fun W=>idxStr W a k a[k] (by simp [hka])
   have iy:=fun W=>idxStr W b k b[k] (by simp [hkb])
   have hs:=@Srv.cb_step a b k hka hkb
   have hn:=@Srv.cb_ne a b k hka hkb
   rw [HR.out] at hs hn
   generalize a[k]=x at ix hs hn
   generalize b[k]=y at iy hs hn
   have hx1:=x.toNat_lt
   have hy1:=y.toNat_lt
   by_cases hxy:(x.toNat:Int)=(y.toNat:Int)
   ·have b1:((x.toNat:Int) != (y.toNat:Int))=false:=by simp;omega
    have E:=Lib.hid (hs (UInt8.toNat_inj.1 (by omega)))
    clear hs hn hxy
    go_wp2_with fail
    go_quiet (fail)
    go_wp2_with fail
    go_roundw
    case rel=>exact ⟨k+1,q+nq,by omega,by omega,by go_num,E,by rw [HW.out];simp⟩
    case measure=>simp [intOf];omega
   ·have b1:((x.toNat:Int) != (y.toNat:Int))=true:=by simp;omega
    have E:=Lib.hid (hn (by omega))
    have z1:IntKind.i64.wrap ((x.toNat:Int) - (y.toNat:Int))=(x.toNat:Int) - (y.toNat:Int):=by rw [IntKind.wrap_i64];omega
    have z2:IntKind.i64.wrap (x.toNat:Int)=(x.toNat:Int):=by rw [IntKind.wrap_i64];omega
    have z3:IntKind.i64.wrap (y.toNat:Int)=(y.toNat:Int):=by rw [IntKind.wrap_i64];omega
    clear hs hn hxy
    go_wp2_with fail
    go_quiet (fail)
    go_wp2_with fail
    go_quiet (fail)
    go_wp2_with fail
    go_ret
    exact ⟨_,rfl,by rw [E.out];omega,_,by rw [HW.out];simp;rfl⟩
  ·have e:=@Srv.cb_end a b k (by omega) hk1 hk2
   rw [HR.out] at e
   have E:=Lib.hid e
   clear e
   have z1:IntKind.i64.wrap ((a.length:Int) - (b.length:Int))=(a.length:Int) - (b.length:Int):=by rw [IntKind.wrap_i64];omega
   by_cases hka:k<a.length
   ·have hkb:k=b.length:=by omega
    subst hkb
    go_wp2
    go_ret
    exact ⟨_,rfl,by rw [E.out];omega,q,HW.out⟩
   ·have hkb:k=a.length:=by omega
    subst hkb
    go_wp2
    go_ret
    exact ⟨_,rfl,by rw [E.out];omega,q,HW.out⟩
set_option maxRecDepth 100000 in
set_option maxHeartbeats 1000000 in
theorem rhost_at (A:Option Addr) (c L:Nat) (n:List (List UInt8)) (r:Bool) (hr:Srv.hostN n=r) (w:World) (B:Nat) (hL:n.length=L) (h:Rd w B A L (sc n)) (hl:L≤140737488355328) (hs:∀ x∈n,x.length≤140737488355328) :
 Calls Tryz.prog 96 #[.slice A L c] w fun e w'=>e = .returned (.bool r)∧w=w':=by
 have HR:=Lib.hid hr
 have HRD:=Lib.hid h
 have HL:=Lib.hid hL
 have HS:=Lib.hid hs
 clear hr h hL hs
 go_enter Tryz.func96,Tryz.ntmps96
 go_wp2_with fail
 go_loopw [3] (fun v wr=>∃ k:Nat,k≤L∧v = .int .i64 k∧Hid ((n.take k).all Srv.hostL=true)∧wr=w) (fun v _=>L - (intOf v).toNat)
 case atStart=>exact ⟨0,Nat.zero_le _,rfl,Lib.hid (by simp),rfl⟩
 case round=>
  obtain ⟨k,hk,rfl,HT,hwr⟩:=hrel
  subst hwr
  rcases Nat.lt_or_ge k L with hlt | hge
  ·obtain ⟨b,o,rfl,hb,hc⟩:=HRD.out.at_ hlt
   have hkn:k<n.length:=by rw [HL.out];exact hlt
   have hcell:=hc k _ (sc_get n k hkn)
   obtain ⟨x,hx⟩:∃ x,x=n[k]:=⟨_,rfl⟩
   rw [←hx] at hcell
   have hxl:x.length≤140737488355328:=HS.out x (by rw [hx];exact List.getElem_mem hkn)
   have HX:=Lib.hid hx
   have HKN:=Lib.hid hkn
   clear hx hc
   obtain ⟨W1,hW1⟩:∃ x,x=wr:=⟨wr,rfl⟩
   subst hW1
   go_wp2_with fail
   go_loopw [4] (fun v wx=>∃ j:Nat,j≤x.length∧v = .int .i64 j∧Hid ((x.take j).all Srv.hostB=true)∧wx=W1) (fun v _=>x.length - (intOf v).toNat)
   case atStart=>exact ⟨0,Nat.zero_le _,rfl,Lib.hid (by simp),rfl⟩
   case round=>
    obtain ⟨j,hj,rfl,HJ,hwx⟩:=hrel
    subst hwx
    rcases Nat.lt_or_ge j x.length with hltj | hgej
    ·have ix:=fun W=>idxStr W x j x[j] (by simp [hltj])
     obtain ⟨u,hu⟩:∃ u,u=x[j]:=⟨_,rfl⟩
     rw [←hu] at ix
     have HU:=Lib.hid hu
     have hu1:=u.toNat_lt
     clear hu
     by_cases hok:Srv.hostB u=true
     ·have HOK:=Lib.hid hok
      simp only [Srv.hostB,decide_eq_true_eq] at hok
      go_wp2_with fail
      all_goals first
       | (exfalso;omega)
       | (exfalso;simp only [beq_eq_false_iff_ne,ne_eq] at *;omega)
       | skip
      all_goals clear hok
      all_goals
       go_roundw
       case rel=>exact ⟨j+1,by omega,by go_num,Lib.hid (allS_take _ _ _ hltj HJ.out (by rw [←HU.out];exact HOK.out)),by trivial⟩
       case measure=>simp [intOf];omega
     ·have hob:Srv.hostB u=false:=by simpa using hok
      have HOB:=Lib.hid hob
      simp only [Srv.hostB,decide_eq_true_eq] at hok
      clear hob
      go_wp2_with fail
      all_goals first
       | (exfalso;omega)
       | (exfalso;simp only [beq_iff_eq] at *;omega)
       | skip
      all_goals clear hok
      all_goals go_ret
      all_goals exact ⟨ret_bool (by
       rw [←HR.out,Srv.hostN,allS_not _ _ k hkn]
       rw [←HX.out]
       exact allS_not _ _ j hltj (by rw [←HU.out];exact HOB.out)),rfl⟩
    ·have:j=x.length:=by omega
     subst this
     have hx1:Srv.hostL x=true:=by rw [Srv.hostL];have:=HJ.out;rwa [List.take_length] at this
     have HX1:=Lib.hid hx1
     clear hx1
     go_wp2_with fail
     go_roundw
     case rel=>exact ⟨k+1,by omega,by go_num,Lib.hid (allS_take _ _ _ hkn HT.out (by rw [←HX.out];exact HX1.out)),by trivial⟩
     case measure=>simp [intOf];omega
  ·have:k=L:=by omega
   subst this
   go_wp2_with fail
   go_ret
   exact ⟨ret_bool (by rw [←HR.out,Srv.hostN];have:=HT.out;rw [List.take_of_length_le (by rw [HL.out];exact Nat.le_refl _)] at this;exact this.symm),rfl⟩
theorem grow2N (w:World) (a b:Obj) (q:Nat):((w.alloc a).alloc b).drewN q=Sort.grow (w.drewN q) #[a,b]:=by
 rw [Sort.alloc_eq_grow,Sort.alloc_eq_grow,Sort.grow_grow]
 rfl
set_option maxRecDepth 100000 in
set_option maxHeartbeats 1000000 in
theorem rbefore_at (x y:Ad) (w:World) (hx:x.h.length≤140737488355328) (hy:y.h.length≤140737488355328) :
 Calls Tryz.prog 138 #[.agg x.cells.toArray,.agg y.cells.toArray] w fun e w'=>e = .returned (.bool (decide (Srv.cmpA x y<0)))∧∃ q os,w'=Sort.grow (w.drewN q) os:=by
 obtain ⟨r,hr⟩:∃ r,r=decide (Srv.cmpA x y<0):=⟨_,rfl⟩
 have h1:=@Srv.lt_pr x y
 have h2:=@Srv.lt_we x y
 have h3:=@Srv.lt_h x y
 have h4:=@Srv.lt_po x y
 have h5:=@Srv.lt_ttl x y
 have hi:Srv.cmpA x y<0 ↔ r=true:=by rw [hr];simp
 rw [hi] at h1 h2 h3 h4 h5
 rw [←hr]
 clear hr hi
 obtain ⟨xh,xpo,xpr,xwe,xttl⟩:=x
 obtain ⟨yh,ypo,ypr,ywe,yttl⟩:=y
 have K:=Lib.hid (fun W=>rlt_at xh yh W hx hy)
 unfold Ad.cells strV
 dsimp only at h1 h2 h3 h4 h5 ⊢
 clear hx hy
 by_cases e1:xpr=ypr
 ·subst e1
  by_cases e2:xwe=ywe
  ·subst e2
   by_cases e3:xh=yh
   ·subst e3
    by_cases e4:xpo=ypo
    ·subst e4
     have hR:decide (xttl<yttl)=r:=by rw [Bool.eq_iff_iff,h5 rfl rfl rfl rfl];simp
     clear h1 h2 h3 h4 h5
     go_enter Tryz.func138,Tryz.ntmps138
     go_wp2_with fail
     go_ret
     exact ⟨rfl,0,#[_,_],grow2N _ _ _ 0⟩
    ·have hR:decide (xpo<ypo)=r:=by rw [Bool.eq_iff_iff,h4 rfl rfl rfl e4];simp
     have hN:(xpo != ypo)=true:=by simpa using e4
     clear h1 h2 h3 h4 h5 e4
     go_enter Tryz.func138,Tryz.ntmps138
     go_wp2_with fail
     go_ret
     exact ⟨rfl,0,#[_,_],grow2N _ _ _ 0⟩
   ·have hN:(xh != yh)=true:=by simpa using e3
    have hN2:(xh == yh)=false:=by simpa using e3
    have HZ:=Lib.hid (h3 rfl rfl e3)
    clear h1 h2 h3 h4 h5 e3
    go_enter Tryz.func138,Tryz.ntmps138
    go_wp2_with (go_at_call 167
                 refine (K.out _).mono ?_
                 rintro e w2 ⟨z,rfl,hz,q,rfl⟩
                 have hR:decide (z<0)=r:=by rw [Bool.eq_iff_iff,HZ.out,←hz];simp
                 clear hz)
    go_ret
    exact ⟨rfl,q,#[_,_],grow2N _ _ _ q⟩
  ·have hR:decide (ywe<xwe)=r:=by rw [Bool.eq_iff_iff,h2 rfl e2];simp
   have hN:(xwe != ywe)=true:=by simpa using e2
   clear h1 h2 h3 h4 h5 e2
   go_enter Tryz.func138,Tryz.ntmps138
   go_wp2_with fail
   go_ret
   exact ⟨rfl,0,#[_,_],grow2N _ _ _ 0⟩
 ·have hR:decide (xpr<ypr)=r:=by rw [Bool.eq_iff_iff,h1 e1];simp
  have hN:(xpr != ypr)=true:=by simpa using e1
  clear h1 h2 h3 h4 h5 e1
  go_enter Tryz.func138,Tryz.ntmps138
  go_wp2_with fail
  go_ret
  exact ⟨rfl,0,#[_,_],grow2N _ _ _ 0⟩
end Go.Proofs.YtlipmlbijddopaaGreatDoor
set_option linter.unusedVariables false
set_option linter.unusedSimpArgs false
namespace Go.Proofs.YtlipmlbijddopaaGreatDoor
open Go.RowKit
theorem Tryz.infoB:(Tryz.prog.info? 102).map (fun i=>(i.zero,i.size,i.bytes))=some (some (.agg zA.cells.toArray),5,48):=by kernel_rfl
set_option maxRecDepth 100000 in
set_option maxHeartbeats 8000000 in
theorem rput_at (A:Option Addr) (c n:Nat) (l:List Ad) (a:Ad) (w:World) (h:AsRd w w.heap.size A c n l) (ha:a.h.length≤140737488351232) (hn1:n≤1000000000000) :
 Calls Tryz.prog 98 #[.slice A n c,.agg a.cells.toArray] w fun e w'=>∃ v,e = .returned v∧OwM w' w.heap.size 102 5 v (Srv.putA a false l).length (acs (Srv.putA a false l))∧Below w.heap.size w w':=by
 obtain ⟨j0,hj',hy0,hy1,hy2⟩:=info_parts Tryz.infoB
 have H:=Lib.hid h
 have HLN:=Lib.hid h.2.1
 have HOKS:=Lib.hid h.2.2.2.2
 have KB:=Lib.hid (fun (x:Ad) (hx:x.h.length≤140737488355328) W=>rbefore_at a x W (by omega) hx)
 have HSK:=Lib.hid (fun (x:Ad) (q:List Ad)=>@Srv.rest_skip a x q)
 have HSF:=Lib.hid (fun (x:Ad) (q:List Ad)=>@Srv.rest_first a x q)
 have HSO:=Lib.hid (fun (x:Ad) (th:Bool) (q:List Ad)=>@Srv.rest_other a x th q)
 have HPT:=Lib.hid (fun (x:Ad) (q:List Ad)=>Srv.putA_true_c a x q)
 have HPL:=Lib.hid (fun (x:Ad) (q:List Ad)=>@Srv.putA_lt_c a x q)
 have HPG:=Lib.hid (fun (x:Ad) (q:List Ad)=>@Srv.putA_ge_c a x q)
 have HPN:=Lib.hid (show ∀ th,Srv.putA a th []=if th=true then [] else [a] from fun th=>by unfold Srv.putA;rfl)
 obtain ⟨P,hP⟩:∃ P:Bool→List Ad→List Ad,P=Srv.putA a:=⟨_,rfl⟩
 obtain ⟨R,hR⟩:∃ R:Bool→Ad→List Ad→List Ad,R=Srv.restA a:=⟨_,rfl⟩
 obtain ⟨C,hC⟩:∃ C:Ad→Int,C=Srv.cmpA a:=⟨_,rfl⟩
 have HPLA:=Lib.hid (show ∀ x,Srv.plA x a=(decide (x.h=a.h) && decide (x.po=a.po)) from fun x=>rfl)
 rw [←hP,←hR] at HSK HSF HSO
 rw [←hP,←hR] at HPT
 rw [←hP,←hR,←hC] at HPL HPG
 rw [←hP] at HPN
 rw [←hC] at KB
 rw [←hP]
 clear h hP hR hC
 have mixed:Tryz.prog.follows .mixedOrders=true:=by kernel_rfl
 have hb1:=bl_new w (.cells a.cells.toArray 102)
 have hv1:=Vx.new w 102 a.cells
 have H1:=Lib.hid (H.out.goes hb1)
 have HB1:=Lib.hid hb1
 have HV1:=Lib.hid hv1
 clear hb1 hv1 H
 obtain ⟨ah,apo,apr,awe,attl⟩:=a
 unfold Ad.cells strV
 dsimp only at ha HPLA ⊢
 go_enter Tryz.func98,Tryz.ntmps98
 go_wp2_with fail
 have e1:w.alloc (.cells #[.string ⟨ah.toArray⟩,.int .i64 apo,.int .i64 apr,.int .i64 awe,.int .u32 (attl:Int)] 102)=w.alloc (.cells (Ad.cells ⟨ah,apo,apr,awe,attl⟩).toArray 102):=rfl
 rw [e1]
 obtain ⟨GA,hGA⟩:∃ G,G=w.heap.size:=⟨_,rfl⟩
 have hGa:w.heap.size≤GA:=by omega
 have hw1s:(w.alloc (.cells (Ad.cells ⟨ah,apo,apr,awe,attl⟩).toArray 102)).heap.size≤GA+1:=by simp;omega
 rw [←hGA] at HV1 ⊢
 generalize w.alloc (.cells (Ad.cells ⟨ah,apo,apr,awe,attl⟩).toArray 102)=w1 at H1 HB1 HV1 hw1s ⊢
 have hw1G:w1.heap.size≤GA+1:=hw1s
 clear hw1s
 clear e1 hGA
 go_loopw [5,6,7] (fun v5 v6 v7 wr=>∃ (k m:Nat) (th:Bool) (out:List Ad),k≤n∧m≤2*k∧v7 = .int .i64 k∧v6 = .bool th∧Hid (out.length=m)∧Hid (OwM wr (GA+1) 102 5 v5 m (acs out))∧Hid (P false l=out++P th (l.drop k))∧Hid (Below w1.heap.size w1 wr)) (fun _ _ v7 _=>n - (intOf v7).toNat)
 case atStart=>exact ⟨0,0,false,[],Nat.zero_le _,Nat.le_refl _,rfl,rfl,Lib.hid rfl,Lib.hid (OwM.nil _ _ _ _),Lib.hid rfl,Lib.hid (Below.refl _ _)⟩
 case round=>
  obtain ⟨k,m,th,out,hk,hm,rfl,rfl,HM,HO,HP,HB⟩:=hrel
  have hszr:=HB.out.size
  have HVr:=Lib.hid (HV1.out.below HB.out HV1.out.lt)
  have hGAr:=HVr.out.lt
  have hG1:GA+1≤wr.heap.size:=hGAr
  obtain ⟨Ar,cr,rfl,_,_,_⟩:=HO.out.form
  rcases Nat.lt_or_ge k n with hlt | hge
  ·have hkl:k<l.length:=by rw [HLN.out];exact hlt
   obtain ⟨b,o,rfl,hb,hc⟩:=H1.out.at_ hlt
   have hf0:=hc hkl
   have hf:=hf0.below HB.out hb
   have hbr:b<wr.heap.size:=Nat.lt_of_lt_of_le hb hszr
   have hdr:=List.drop_eq_getElem_cons hkl
   have hxh:=(HOKS.out l[k] (List.getElem_mem hkl)).h
   obtain ⟨x,hx⟩:∃ x,x=l[k]:=⟨_,rfl⟩
   rw [←hx] at hf hf0 hdr hxh
   have HF0:=Lib.hid hf0
   clear hf0
   have hp:=HP.out
   rw [hdr] at hp
   have KX:=Lib.hid (KB.out x (by omega))
   clear hx hc hdr
   obtain ⟨D,hD⟩:∃ D,D=l.drop (k+1):=⟨_,rfl⟩
   rw [←hD] at hp
   have HD:=Lib.hid hD
   obtain ⟨lt,hlt2⟩:∃ b,b=decide (C x<0):=⟨_,rfl⟩
   rw [←hlt2] at KX
   have hpl:=HPLA.out x
   obtain ⟨pl,hple⟩:∃ p,p=Srv.plA x ⟨ah,apo,apr,awe,attl⟩:=⟨_,rfl⟩
   rw [←hple] at hpl
   have HSKx:=Lib.hid (HSK.out x D)
   have HSFx:=Lib.hid (HSF.out x D)
   have HSOx:=Lib.hid (fun t=>HSO.out x t D)
   rw [←hple] at HSKx HSFx HSOx
   have HPTx:=Lib.hid (HPT.out x D)
   have HPLx:=Lib.hid (show lt=true→_ from fun e=>HPL.out x D (of_decide_eq_true (hlt2.symm.trans e)))
   have HPGx:=Lib.hid (show lt=false→_ from fun e=>HPG.out x D (by have:=of_decide_eq_false (hlt2.symm.trans e);omega))
   have HPH:=Lib.hid hp
   clear hlt2 hple hp hD HSK HSF HSO HPT HPL HPG HP
   obtain ⟨xh,xpo,xpr,xwe,xttl⟩:=x
   dsimp only at hpl hxh
   obtain ⟨b1,hb1⟩:∃ b1,b1=decide (xh=ah):=⟨_,rfl⟩
   obtain ⟨b2,hb2⟩:∃ b2,b2=decide (xpo=apo):=⟨_,rfl⟩
   rw [←hb1,←hb2] at hpl
   have q1:(xh == ah)=b1:=by rw [hb1,Bool.eq_iff_iff];simp
   have q2:(xpo == apo)=b2:=by rw [hb2,Bool.eq_iff_iff];simp
   have HPLB:=Lib.hid hpl
   have HQ1:=Lib.hid q1
   have HQ2:=Lib.hid q2
   clear hb1 hb2 hpl q1 q2
   have HF:=Lib.hid hf
   have HFB:Hid (∀ w',Below w1.heap.size w1 w'→Five w' b (o+k*5) ⟨xh,xpo,xpr,xwe,xttl⟩):=Lib.hid (fun w' hw=>(HF0.out).below hw hb)
   clear hf HF0
   cases th
   ·obtain ⟨c0_,c1_,c2_,c3_,c4_⟩:=HF.out.cells
    obtain ⟨d0_,d1_,d2_,d3_,d4_⟩:=HVr.out.c5
    dsimp only at c0_ c1_ c2_ c3_ c4_ d0_ d1_ d2_ d3_ d4_
    unfold strV at d0_
    have c0':=fun n os=>cell_grown (w:=wr) hbr c0_ n os
    have c1':=fun n os=>cell_grown (w:=wr) hbr c1_ n os
    have c2':=fun n os=>cell_grown (w:=wr) hbr c2_ n os
    have c3':=fun n os=>cell_grown (w:=wr) hbr c3_ n os
    have c4':=fun n os=>cell_grown (w:=wr) hbr c4_ n os
    have d0':=fun n os=>cell_grown (w:=wr) hGAr d0_ n os
    have d1':=fun n os=>cell_grown (w:=wr) hGAr d1_ n os
    have d2':=fun n os=>cell_grown (w:=wr) hGAr d2_ n os
    have d3':=fun n os=>cell_grown (w:=wr) hGAr d3_ n os
    have d4':=fun n os=>cell_grown (w:=wr) hGAr d4_ n os
    clear c0_ c1_ c2_ c3_ c4_ d0_ d1_ d2_ d3_ d4_
    go_wp2_with fail
    go_quiet_grown ((go_at_call 138;exact Calls.grown_of (KX.out _)))
    have hgb:=below_grow wr nq osq (Nat.le_refl _)
    have HO2:=Lib.hid (HO.out.far hgb)
    have HB2:=Lib.hid (HB.out.trans (hgb.mono hszr))
    generalize Sort.grow (wr.drewN nq) osq=w2 at HO2 HB2 ⊢
    clear hgb c0' c1' c2' c3' c4' d0' d1' d2' d3' d4' HO HB HVr HF KX hbr hGAr hszr hG1
    have HV2:=Lib.hid (HV1.out.below HB2.out HV1.out.lt)
    have hsz2:=HB2.out.size
    have hGA2:GA+1≤w2.heap.size:=HV2.out.lt
    cases lt
    ·have HPP:Hid (P false l=out++R false ⟨xh,xpo,xpr,xwe,xttl⟩ D):=Lib.hid (by rw [HPH.out,HPGx.out rfl])
     go_upto_region 9 with fail
     have hm4:m≤2*k+1:=by omega
     have HM4:=HM
     have HO4:=HO2
     have HB4:=HB2
     obtain ⟨w4,hw4⟩:∃ x,x=w2:=⟨_,rfl⟩
     subst hw4
     obtain ⟨out4,ho4⟩:∃ x,x=out:=⟨_,rfl⟩
     subst ho4
     obtain ⟨m4,hm4e⟩:∃ x,x=m:=⟨_,rfl⟩
     subst hm4e
     obtain ⟨A4,hA4⟩:∃ x,x=Ar:=⟨_,rfl⟩
     subst hA4
     obtain ⟨c4,hc4⟩:∃ x,x=cr:=⟨_,rfl⟩
     subst hc4
     have HV4:=Lib.hid (HV1.out.below HB4.out HV1.out.lt)
     have hsz4:=HB4.out.size
     have hGA4:GA+1≤w4.heap.size:=HV4.out.lt
     obtain ⟨c0_,c1_,c2_,c3_,c4_⟩:=(HFB.out w4 HB4.out).cells
     obtain ⟨d0_,d1_,d2_,d3_,d4_⟩:=HV4.out.c5
     unfold strV at d0_
     dsimp only at c0_ c1_ c2_ c3_ c4_ d0_ d1_ d2_ d3_ d4_
     cases b1
     ·have HPLE:Hid (pl=false):=Lib.hid (by rw [HPLB.out,Bool.false_and])
      have q1:=HQ1.out
      go_quiet (fail)
      have HO5:=Lib.hid (OwM.drewN HO4.out nq)
      have HB5:=Lib.hid (bl_drewN HB4.out nq)
      obtain ⟨e0_,e1_,e2_,e3_,e4_⟩:=(HFB.out _ HB5.out).cells
      have hGA5:GA+1≤(w4.drewN nq).heap.size:=hGA4
      dsimp only at e0_ e1_ e2_ e3_ e4_
      generalize w4.drewN nq=w5 at HO5 HB5 e0_ e1_ e2_ e3_ e4_ hGA5 ⊢
      have hsz5:=HB5.out.size
      go_wp2_with (at_builtin
                   refine wpList_appM _ rfl _ _ _ _ rfl (GA+1) 5 102 j0 (.agg zA.cells.toArray) 48 Tryz.underlying93 hj' hy0 hy1 hy2 rfl (by omega) (.slice A4 m4 c4) m4 (acs out4) (HO5.out.alloc _) rfl 1 (Ad.cells ⟨xh,xpo,xpr,xwe,xttl⟩) (srcA Tryz.underlying93 102 5 _ 1 rfl (acells_one _) (by simp)) (by omega) (by simp;omega) ?_
                   intro v6 w6 ho6 hg6 hz6
                   obtain ⟨A6,c6,rfl,_,_,_⟩:=ho6.form
                   rw [←acs_snoc] at ho6
                   have HO6:=Lib.hid ho6
                   clear ho6)
      go_roundw
      case rel=>exact ⟨k+1,m4+1,false,out4++[⟨xh,xpo,xpr,xwe,xttl⟩],by omega,by omega,by go_num,rfl,Lib.hid (by rw [List.length_append,HM4.out];rfl),HO6,Lib.hid (by rw [HPP.out,HSOx.out false HPLE.out,HD.out];simp),Lib.hid ((HB5.out.alloc hsz5 _).trans (hg6.below (fun g hg=>(show w1.heap.size≤g from Nat.le_trans hw1G (OwM.lt HO5.out g hg))) (by simp;omega)))⟩
      case measure=>simp [intOf];omega
     ·cases b2
      ·have HPLE:Hid (pl=false):=Lib.hid (by rw [HPLB.out];rfl)
       have q1:=HQ1.out
       have q2:=HQ2.out
       go_quiet (fail)
       have HO5:=Lib.hid (OwM.drewN HO4.out nq)
       have HB5:=Lib.hid (bl_drewN HB4.out nq)
       obtain ⟨e0_,e1_,e2_,e3_,e4_⟩:=(HFB.out _ HB5.out).cells
       have hGA5:GA+1≤(w4.drewN nq).heap.size:=hGA4
       dsimp only at e0_ e1_ e2_ e3_ e4_
       generalize w4.drewN nq=w5 at HO5 HB5 e0_ e1_ e2_ e3_ e4_ hGA5 ⊢
       have hsz5:=HB5.out.size
       go_wp2_with (at_builtin
                    refine wpList_appM _ rfl _ _ _ _ rfl (GA+1) 5 102 j0 (.agg zA.cells.toArray) 48 Tryz.underlying93 hj' hy0 hy1 hy2 rfl (by omega) (.slice A4 m4 c4) m4 (acs out4) (HO5.out.alloc _) rfl 1 (Ad.cells ⟨xh,xpo,xpr,xwe,xttl⟩) (srcA Tryz.underlying93 102 5 _ 1 rfl (acells_one _) (by simp)) (by omega) (by simp;omega) ?_
                    intro v6 w6 ho6 hg6 hz6
                    obtain ⟨A6,c6,rfl,_,_,_⟩:=ho6.form
                    rw [←acs_snoc] at ho6
                    have HO6:=Lib.hid ho6
                    clear ho6)
       go_roundw
       case rel=>exact ⟨k+1,m4+1,false,out4++[⟨xh,xpo,xpr,xwe,xttl⟩],by omega,by omega,by go_num,rfl,Lib.hid (by rw [List.length_append,HM4.out];rfl),HO6,Lib.hid (by rw [HPP.out,HSOx.out false HPLE.out,HD.out];simp),Lib.hid ((HB5.out.alloc hsz5 _).trans (hg6.below (fun g hg=>(show w1.heap.size≤g from Nat.le_trans hw1G (OwM.lt HO5.out g hg))) (by simp;omega)))⟩
       case measure=>simp [intOf];omega
      ·have HPLE:Hid (pl=true):=Lib.hid (by rw [HPLB.out];rfl)
       have q1:=HQ1.out
       have q2:=HQ2.out
       go_quiet (fail)
       have HO5:=Lib.hid (OwM.drewN HO4.out nq)
       have HB5:=Lib.hid (bl_drewN HB4.out nq)
       obtain ⟨e0_,e1_,e2_,e3_,e4_⟩:=(HFB.out _ HB5.out).cells
       have hGA5:GA+1≤(w4.drewN nq).heap.size:=hGA4
       dsimp only at e0_ e1_ e2_ e3_ e4_
       generalize w4.drewN nq=w5 at HO5 HB5 e0_ e1_ e2_ e3_ e4_ hGA5 ⊢
       have hsz5:=HB5.out.size
       go_wp2_with (at_builtin
                    refine wpList_appM _ rfl _ _ _ _ rfl (GA+1) 5 102 j0 (.agg zA.cells.toArray) 48 Tryz.underlying93 hj' hy0 hy1 hy2 rfl (by omega) (.slice A4 m4 c4) m4 (acs out4) (HO5.out.alloc _) rfl 1 (Ad.cells ⟨xh,xpo,xpr,xwe,xttl⟩) (srcA Tryz.underlying93 102 5 _ 1 rfl (acells_one _) (by simp)) (by omega) (by simp;omega) ?_
                    intro v6 w6 ho6 hg6 hz6
                    obtain ⟨A6,c6,rfl,_,_,_⟩:=ho6.form
                    rw [←acs_snoc] at ho6
                    have HO6:=Lib.hid ho6
                    clear ho6)
       go_roundw
       case rel=>exact ⟨k+1,m4+1,true,out4++[⟨xh,xpo,xpr,xwe,xttl⟩],by omega,by omega,by go_num,rfl,Lib.hid (by rw [List.length_append,HM4.out];rfl),HO6,Lib.hid (by rw [HPP.out,HSFx.out HPLE.out,HD.out];simp),Lib.hid ((HB5.out.alloc hsz5 _).trans (hg6.below (fun g hg=>(show w1.heap.size≤g from Nat.le_trans hw1G (OwM.lt HO5.out g hg))) (by simp;omega)))⟩
       case measure=>simp [intOf];omega
    ·have HPP:Hid (P false l=(out++[⟨ah,apo,apr,awe,attl⟩])++R true ⟨xh,xpo,xpr,xwe,xttl⟩ D):=Lib.hid (by rw [HPH.out,HPLx.out rfl];simp)
     obtain ⟨e0_,e1_,e2_,e3_,e4_⟩:=HV2.out.c5
     unfold strV at e0_
     dsimp only at e0_ e1_ e2_ e3_ e4_
     go_upto_region 9 with (at_builtin
                            refine wpList_appM _ rfl _ _ _ _ rfl (GA+1) 5 102 j0 (.agg zA.cells.toArray) 48 Tryz.underlying93 hj' hy0 hy1 hy2 rfl (by omega) (.slice Ar m cr) m (acs out) (HO2.out.alloc _) rfl 1 (Ad.cells ⟨ah,apo,apr,awe,attl⟩) (srcA Tryz.underlying93 102 5 _ 1 rfl (acells_one _) (by simp)) (by omega) (by simp;omega) ?_
                            intro v6 w6 ho6 hg6 hz6
                            obtain ⟨A6,c6,rfl,_,_,_⟩:=ho6.form
                            rw [←acs_snoc] at ho6
                            have HO6:=Lib.hid ho6
                            clear ho6)
     have HB4:Hid (Below w1.heap.size w1 w6):=Lib.hid ((HB2.out.alloc hsz2 _).trans (hg6.below (fun g hg=>(show w1.heap.size≤g from Nat.le_trans hw1G (OwM.lt HO2.out g hg))) (by simp;omega)))
     have HM4:Hid ((out++[(⟨ah,apo,apr,awe,attl⟩:Ad)]).length=m+1):=Lib.hid (by rw [List.length_append,HM.out];rfl)
     have hm4:m+1≤2*k+1:=by omega
     have HO4:=HO6
     clear HO6 hg6 hz6 e0_ e1_ e2_ e3_ e4_ HV2 hsz2 HB2 HO2 hGA2
     obtain ⟨out4,hout4⟩:∃ x,x=out++[(⟨ah,apo,apr,awe,attl⟩:Ad)]:=⟨_,rfl⟩
     rw [←hout4] at HO4 HM4 HPP
     clear hout4 HM hm HPH HPLx
     generalize m+1=m4 at HO4 HM4 hm4 ⊢
     obtain ⟨w4,hw4⟩:∃ x,x=w6:=⟨_,rfl⟩
     subst hw4
     obtain ⟨A4,hA4⟩:∃ x,x=A6:=⟨_,rfl⟩
     subst hA4
     obtain ⟨c4,hc4⟩:∃ x,x=c6:=⟨_,rfl⟩
     subst hc4
     have HV4:=Lib.hid (HV1.out.below HB4.out HV1.out.lt)
     have hsz4:=HB4.out.size
     have hGA4:GA+1≤w4.heap.size:=HV4.out.lt
     obtain ⟨c0_,c1_,c2_,c3_,c4_⟩:=(HFB.out w4 HB4.out).cells
     obtain ⟨d0_,d1_,d2_,d3_,d4_⟩:=HV4.out.c5
     unfold strV at d0_
     dsimp only at c0_ c1_ c2_ c3_ c4_ d0_ d1_ d2_ d3_ d4_
     cases b1
     ·have HPLE:Hid (pl=false):=Lib.hid (by rw [HPLB.out,Bool.false_and])
      have q1:=HQ1.out
      go_quiet (fail)
      have HO5:=Lib.hid (OwM.drewN HO4.out nq)
      have HB5:=Lib.hid (bl_drewN HB4.out nq)
      obtain ⟨e0_,e1_,e2_,e3_,e4_⟩:=(HFB.out _ HB5.out).cells
      have hGA5:GA+1≤(w4.drewN nq).heap.size:=hGA4
      dsimp only at e0_ e1_ e2_ e3_ e4_
      generalize w4.drewN nq=w5 at HO5 HB5 e0_ e1_ e2_ e3_ e4_ hGA5 ⊢
      have hsz5:=HB5.out.size
      go_wp2_with (at_builtin
                   refine wpList_appM _ rfl _ _ _ _ rfl (GA+1) 5 102 j0 (.agg zA.cells.toArray) 48 Tryz.underlying93 hj' hy0 hy1 hy2 rfl (by omega) (.slice A4 m4 c4) m4 (acs out4) (HO5.out.alloc _) rfl 1 (Ad.cells ⟨xh,xpo,xpr,xwe,xttl⟩) (srcA Tryz.underlying93 102 5 _ 1 rfl (acells_one _) (by simp)) (by omega) (by simp;omega) ?_
                   intro v6 w6 ho6 hg6 hz6
                   obtain ⟨A6,c6,rfl,_,_,_⟩:=ho6.form
                   rw [←acs_snoc] at ho6
                   have HO6:=Lib.hid ho6
                   clear ho6)
      go_roundw
      case rel=>exact ⟨k+1,m4+1,true,out4++[⟨xh,xpo,xpr,xwe,xttl⟩],by omega,by omega,by go_num,rfl,Lib.hid (by rw [List.length_append,HM4.out];rfl),HO6,Lib.hid (by rw [HPP.out,HSOx.out true HPLE.out,HD.out];simp),Lib.hid ((HB5.out.alloc hsz5 _).trans (hg6.below (fun g hg=>(show w1.heap.size≤g from Nat.le_trans hw1G (OwM.lt HO5.out g hg))) (by simp;omega)))⟩
      case measure=>simp [intOf];omega
     ·cases b2
      ·have HPLE:Hid (pl=false):=Lib.hid (by rw [HPLB.out];rfl)
       have q1:=HQ1.out
       have q2:=HQ2.out
       go_quiet (fail)
       have HO5:=Lib.hid (OwM.drewN HO4.out nq)
       have HB5:=Lib.hid (bl_drewN HB4.out nq)
       obtain ⟨e0_,e1_,e2_,e3_,e4_⟩:=(HFB.out _ HB5.out).cells
       have hGA5:GA+1≤(w4.drewN nq).heap.size:=hGA4
       dsimp only at e0_ e1_ e2_ e3_ e4_
       generalize w4.drewN nq=w5 at HO5 HB5 e0_ e1_ e2_ e3_ e4_ hGA5 ⊢
       have hsz5:=HB5.out.size
       go_wp2_with (at_builtin
                    refine wpList_appM _ rfl _ _ _ _ rfl (GA+1) 5 102 j0 (.agg zA.cells.toArray) 48 Tryz.underlying93 hj' hy0 hy1 hy2 rfl (by omega) (.slice A4 m4 c4) m4 (acs out4) (HO5.out.alloc _) rfl 1 (Ad.cells ⟨xh,xpo,xpr,xwe,xttl⟩) (srcA Tryz.underlying93 102 5 _ 1 rfl (acells_one _) (by simp)) (by omega) (by simp;omega) ?_
                    intro v6 w6 ho6 hg6 hz6
                    obtain ⟨A6,c6,rfl,_,_,_⟩:=ho6.form
                    rw [←acs_snoc] at ho6
                    have HO6:=Lib.hid ho6
                    clear ho6)
       go_roundw
       case rel=>exact ⟨k+1,m4+1,true,out4++[⟨xh,xpo,xpr,xwe,xttl⟩],by omega,by omega,by go_num,rfl,Lib.hid (by rw [List.length_append,HM4.out];rfl),HO6,Lib.hid (by rw [HPP.out,HSOx.out true HPLE.out,HD.out];simp),Lib.hid ((HB5.out.alloc hsz5 _).trans (hg6.below (fun g hg=>(show w1.heap.size≤g from Nat.le_trans hw1G (OwM.lt HO5.out g hg))) (by simp;omega)))⟩
       case measure=>simp [intOf];omega
      ·have HPLE:Hid (pl=true):=Lib.hid (by rw [HPLB.out];rfl)
       have q1:=HQ1.out
       have q2:=HQ2.out
       go_quiet (fail)
       go_wp2_with fail
       go_roundw
       case rel=>exact ⟨k+1,m4,true,out4,by omega,by omega,by go_num,rfl,HM4,Lib.hid (OwM.drewN HO4.out nq),Lib.hid (by rw [HPP.out,HSKx.out HPLE.out,HD.out]),Lib.hid (bl_drewN HB4.out nq)⟩
       case measure=>simp [intOf];omega
   ·have HPP:Hid (P false l=out++R true ⟨xh,xpo,xpr,xwe,xttl⟩ D):=Lib.hid (by rw [HPH.out,HPTx.out])
    go_wp2_with fail
    go_quiet (fail)
    go_upto_region 9 with fail
    have hm4:m≤2*k+1:=by omega
    have HM4:=HM
    have HO4:=Lib.hid (OwM.drewN HO.out nq)
    have HB4:=Lib.hid (bl_drewN HB.out nq)
    generalize wr.drewN nq=w4 at HO4 HB4 ⊢
    clear HO HB HVr HF KX hbr hGAr hszr hG1 nq
    obtain ⟨out4,ho4⟩:∃ x,x=out:=⟨_,rfl⟩
    subst ho4
    obtain ⟨m4,hm4e⟩:∃ x,x=m:=⟨_,rfl⟩
    subst hm4e
    obtain ⟨A4,hA4⟩:∃ x,x=Ar:=⟨_,rfl⟩
    subst hA4
    obtain ⟨c4,hc4⟩:∃ x,x=cr:=⟨_,rfl⟩
    subst hc4
    have HV4:=Lib.hid (HV1.out.below HB4.out HV1.out.lt)
    have hsz4:=HB4.out.size
    have hGA4:GA+1≤w4.heap.size:=HV4.out.lt
    obtain ⟨c0_,c1_,c2_,c3_,c4_⟩:=(HFB.out w4 HB4.out).cells
    obtain ⟨d0_,d1_,d2_,d3_,d4_⟩:=HV4.out.c5
    unfold strV at d0_
    dsimp only at c0_ c1_ c2_ c3_ c4_ d0_ d1_ d2_ d3_ d4_
    cases b1
    ·have HPLE:Hid (pl=false):=Lib.hid (by rw [HPLB.out,Bool.false_and])
     have q1:=HQ1.out
     go_quiet (fail)
     have HO5:=Lib.hid (OwM.drewN HO4.out nq)
     have HB5:=Lib.hid (bl_drewN HB4.out nq)
     obtain ⟨e0_,e1_,e2_,e3_,e4_⟩:=(HFB.out _ HB5.out).cells
     have hGA5:GA+1≤(w4.drewN nq).heap.size:=hGA4
     dsimp only at e0_ e1_ e2_ e3_ e4_
     generalize w4.drewN nq=w5 at HO5 HB5 e0_ e1_ e2_ e3_ e4_ hGA5 ⊢
     have hsz5:=HB5.out.size
     go_wp2_with (at_builtin
                  refine wpList_appM _ rfl _ _ _ _ rfl (GA+1) 5 102 j0 (.agg zA.cells.toArray) 48 Tryz.underlying93 hj' hy0 hy1 hy2 rfl (by omega) (.slice A4 m4 c4) m4 (acs out4) (HO5.out.alloc _) rfl 1 (Ad.cells ⟨xh,xpo,xpr,xwe,xttl⟩) (srcA Tryz.underlying93 102 5 _ 1 rfl (acells_one _) (by simp)) (by omega) (by simp;omega) ?_
                  intro v6 w6 ho6 hg6 hz6
                  obtain ⟨A6,c6,rfl,_,_,_⟩:=ho6.form
                  rw [←acs_snoc] at ho6
                  have HO6:=Lib.hid ho6
                  clear ho6)
     go_roundw
     case rel=>exact ⟨k+1,m4+1,true,out4++[⟨xh,xpo,xpr,xwe,xttl⟩],by omega,by omega,by go_num,rfl,Lib.hid (by rw [List.length_append,HM4.out];rfl),HO6,Lib.hid (by rw [HPP.out,HSOx.out true HPLE.out,HD.out];simp),Lib.hid ((HB5.out.alloc hsz5 _).trans (hg6.below (fun g hg=>(show w1.heap.size≤g from Nat.le_trans hw1G (OwM.lt HO5.out g hg))) (by simp;omega)))⟩
     case measure=>simp [intOf];omega
    ·cases b2
     ·have HPLE:Hid (pl=false):=Lib.hid (by rw [HPLB.out];rfl)
      have q1:=HQ1.out
      have q2:=HQ2.out
      go_quiet (fail)
      have HO5:=Lib.hid (OwM.drewN HO4.out nq)
      have HB5:=Lib.hid (bl_drewN HB4.out nq)
      obtain ⟨e0_,e1_,e2_,e3_,e4_⟩:=(HFB.out _ HB5.out).cells
      have hGA5:GA+1≤(w4.drewN nq).heap.size:=hGA4
      dsimp only at e0_ e1_ e2_ e3_ e4_
      generalize w4.drewN nq=w5 at HO5 HB5 e0_ e1_ e2_ e3_ e4_ hGA5 ⊢
      have hsz5:=HB5.out.size
      go_wp2_with (at_builtin
                   refine wpList_appM _ rfl _ _ _ _ rfl (GA+1) 5 102 j0 (.agg zA.cells.toArray) 48 Tryz.underlying93 hj' hy0 hy1 hy2 rfl (by omega) (.slice A4 m4 c4) m4 (acs out4) (HO5.out.alloc _) rfl 1 (Ad.cells ⟨xh,xpo,xpr,xwe,xttl⟩) (srcA Tryz.underlying93 102 5 _ 1 rfl (acells_one _) (by simp)) (by omega) (by simp;omega) ?_
                   intro v6 w6 ho6 hg6 hz6
                   obtain ⟨A6,c6,rfl,_,_,_⟩:=ho6.form
                   rw [←acs_snoc] at ho6
                   have HO6:=Lib.hid ho6
                   clear ho6)
      go_roundw
      case rel=>exact ⟨k+1,m4+1,true,out4++[⟨xh,xpo,xpr,xwe,xttl⟩],by omega,by omega,by go_num,rfl,Lib.hid (by rw [List.length_append,HM4.out];rfl),HO6,Lib.hid (by rw [HPP.out,HSOx.out true HPLE.out,HD.out];simp),Lib.hid ((HB5.out.alloc hsz5 _).trans (hg6.below (fun g hg=>(show w1.heap.size≤g from Nat.le_trans hw1G (OwM.lt HO5.out g hg))) (by simp;omega)))⟩
      case measure=>simp [intOf];omega
     ·have HPLE:Hid (pl=true):=Lib.hid (by rw [HPLB.out];rfl)
      have q1:=HQ1.out
      have q2:=HQ2.out
      go_quiet (fail)
      go_wp2_with fail
      go_roundw
      case rel=>exact ⟨k+1,m4,true,out4,by omega,by omega,by go_num,rfl,HM4,Lib.hid (OwM.drewN HO4.out nq),Lib.hid (by rw [HPP.out,HSKx.out HPLE.out,HD.out]),Lib.hid (bl_drewN HB4.out nq)⟩
      case measure=>simp [intOf];omega
  ·have:k=n:=by omega
   subst this
   have hp:=HP.out
   rw [List.drop_of_length_le (by rw [HLN.out];exact Nat.le_refl _),HPN.out] at hp
   have HPE:=Lib.hid hp
   clear hp HP
   cases th
   ·obtain ⟨d0_,d1_,d2_,d3_,d4_⟩:=HVr.out.c5
    unfold strV at d0_
    dsimp only at d0_ d1_ d2_ d3_ d4_
    go_wp2_with (at_builtin
                 refine wpList_appM _ rfl _ _ _ _ rfl (GA+1) 5 102 j0 (.agg zA.cells.toArray) 48 Tryz.underlying93 hj' hy0 hy1 hy2 rfl (by omega) (.slice Ar m cr) m (acs out) (HO.out.alloc _) rfl 1 (Ad.cells ⟨ah,apo,apr,awe,attl⟩) (srcA Tryz.underlying93 102 5 _ 1 rfl (acells_one _) (by simp)) (by omega) (by simp;omega) ?_
                 intro v6 w6 ho6 hg6 hz6
                 obtain ⟨A6,c6,rfl,_,_,_⟩:=ho6.form
                 rw [←acs_snoc] at ho6
                 have HO6:=Lib.hid ho6
                 clear ho6)
    go_ret
    have hlen:(P false l).length=m+1:=by rw [HPE.out,List.length_append,HM.out];rfl
    refine ⟨_,rfl,?_,?_⟩
    ·rw [hlen,HPE.out]
     exact OwM.mono HO6.out (by omega)
    ·exact (HB1.out.trans (((HB.out.alloc hszr _).trans (hg6.below (fun g hg=>(show w1.heap.size≤g from Nat.le_trans hw1G (OwM.lt HO.out g hg))) (by simp;omega))).mono HB1.out.size))
   ·go_wp2_with fail
    go_ret
    have hlen:(P false l).length=m:=by rw [HPE.out,List.length_append,HM.out];rfl
    refine ⟨_,rfl,?_,?_⟩
    ·rw [hlen,HPE.out]
     simp only [if_true,List.append_nil]
     exact OwM.mono HO.out (by omega)
    ·exact HB1.out.trans (HB.out.mono HB1.out.size)
end Go.Proofs.YtlipmlbijddopaaGreatDoor
