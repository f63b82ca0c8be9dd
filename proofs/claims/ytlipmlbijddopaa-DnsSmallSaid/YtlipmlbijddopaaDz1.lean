/-
  OpenG; DnsFw; DnsWr; DnsSm
-/
import Derived.Test.YtlipmlbijddopaaFrame
import Derived.Test.YtlipmlbijddopaaDnsM
import Derived.Test.YtlipmlbijddopaaDnsSp
import Derived.Test.YtlipmlbijddopaaRefApp
import Derived.Deep.CutBlock
import Derived.Test.YtlipmlbijddopaaDnsA
import Derived.Deep.Slices
import Derived.OpenShut
import Derived.Laws.IdiomArrays
set_option linter.unusedVariables false
set_option linter.unusedSimpArgs false
namespace Go.Proofs.Ytlipmlbijddopaa
def NR0 (w:World) (B:Nat) (A:Option Addr) (c:Nat) (n:List (List UInt8)):Prop:=Rd w B A n.length (sc n)∧n.length≤c∧n.length*16≤140737488351232∧∀ s∈n,s.length≤140737488351232
open Go.ChangeShapes Go.WideShapes Go.ChangeAt Go.RowKit
section
variable {P:Program} {H:Type} {enc:TypeId × Value→H} {W:World}
theorem weights_all_memS {P:Program} {e:TypeId} {d:DataW H} {n:Nat} (hn:n∈d.weights P e):∀ {l:List (DataW H)},d∈l→n∈DataW.weightsAll P e l:=by
 intro l
 induction l with
 | nil=>intro h;cases h
 | cons b l ih=>
   intro h
   simp only [DataW.weightsAll,List.mem_append]
   rcases List.mem_cons.1 h with rfl | h
   ·exact .inl hn
   ·exact .inr (ih h)
theorem open_cellB {t e:TypeId} {V:Value} {d:DataW H} {ps:List MemPlace} {n:Nat} (ht:P.underlying t=some (.slice e)) (he:P.underlying e=some (.int .u8)) (hc:P.cellsOf e=1) (hby:P.bytesOf e=1)
 (h:DataW.trod enc P W 0 (fun _=>true) true n t [V]=some (d,ps)) (hre:∀ n∈d.weights P t,n≤reachBytes) :
 ∃ (A:Option Addr) (c:Nat) (l:List UInt8),V = .slice A l.length c∧Rd W W.heap.size A l.length (bc l)∧l.length≤c∧l.length≤140737488351232:=by
 rcases open_ints ht he hc h with ⟨hcs,hx⟩ | ⟨a,len,cap,zs,hcs,_,hl,hm,hz,hx,hcell,hwz⟩
 ·simp only [List.cons.injEq,and_true] at hcs
  exact ⟨none,0,[],hcs,Rd.nil _ _ _,by simp,by simp⟩
 ·simp only [List.cons.injEq,and_true] at hcs
  subst hcs
  simp only [if_true] at hz
  simp only [Prod.mk.injEq] at hx
  obtain ⟨rfl,rfl⟩:=hx
  obtain ⟨l,hl1,hl2⟩:=bytes_of_wf (zs.take len) (fun z hz=>hwz z (List.mem_of_mem_take hz))
  rw [List.length_take,hz,Nat.min_eq_left hl] at hl2
  have hw:=hre (((lits (H:=H) .u8 (zs.take len)).length+(lits (H:=H) .u8 (zs.drop len)).length)*P.bytesOf e) (by simp [DataW.weights,ht])
  simp only [lits,List.length_map,List.length_take,List.length_drop,hby,reachBytes,hz] at hw
  refine ⟨some a,cap,l,by rw [hl2],?_,by rw [hl2];exact hl,by omega⟩
  rw [hl2]
  refine rd_of_cells _ (by simpa using hl2) fun j u hu=>?_
  rw [←hl1,List.getElem?_map] at hu
  obtain ⟨z,hz1,rfl⟩:=Option.map_eq_some_iff.1 hu
  have hj:j<len:=by
   rcases Nat.lt_or_ge j len with h1 | h1
   ·exact h1
   ·rw [List.getElem?_eq_none (by rw [List.length_take];omega)] at hz1;cases hz1
  rw [List.getElem?_take_of_lt hj] at hz1
  rw [hcell j (by omega),List.getD_eq_getElem?_getD,hz1];rfl
theorem open_cellS {t e:TypeId} {V:Value} {d:DataW H} {ps:List MemPlace} {n:Nat} (ht:P.underlying t=some (.slice e)) (he:P.underlying e=some .string) (hc:P.cellsOf e=1) (hby:P.bytesOf e=16)
 (h:DataW.trod enc P W 0 (fun _=>true) true n t [V]=some (d,ps)) (hre:∀ n∈d.weights P t,n≤reachBytes) :
 ∃ (A:Option Addr) (c:Nat) (l:List (List UInt8)),V = .slice A l.length c∧NR0 W W.heap.size A c l:=by
 rcases open_strings ht he hc h with ⟨hcs,hx⟩ | ⟨a,len,cap,ss,hcs,_,hl,hm,hz,hx,hcell,hwz⟩
 ·simp only [List.cons.injEq,and_true] at hcs
  exact ⟨none,0,[],hcs,Rd.nil _ _ _,by simp,by simp,by simp⟩
 ·simp only [List.cons.injEq,and_true] at hcs
  subst hcs
  simp only [if_true] at hz
  simp only [Prod.mk.injEq] at hx
  obtain ⟨rfl,rfl⟩:=hx
  have hw:=hre (((strs (H:=H) (ss.take len)).length+(strs (H:=H) (ss.drop len)).length)*P.bytesOf e) (by simp [DataW.weights,ht])
  simp only [strs,List.length_map,List.length_take,List.length_drop,hby,reachBytes,hz] at hw
  have hl2:((ss.take len).map fun s=>s.data.toList).length=len:=by rw [List.length_map,List.length_take,hz,Nat.min_eq_left hl]
  refine ⟨some a,cap,(ss.take len).map fun s=>s.data.toList,by rw [hl2],?_,by rw [hl2];exact hl,by rw [hl2];omega,fun x hx=>?_⟩
  ·rw [hl2]
   refine rd_of_cells _ (by simpa using hl2) fun j u hu=>?_
   unfold sc at hu
   rw [List.map_map,List.getElem?_map] at hu
   obtain ⟨s,hs1,rfl⟩:=Option.map_eq_some_iff.1 hu
   have hj:j<len:=by
    rcases Nat.lt_or_ge j len with h1 | h1
    ·exact h1
    ·rw [List.getElem?_eq_none (by rw [List.length_take];omega)] at hs1;cases hs1
   rw [List.getElem?_take_of_lt hj] at hs1
   rw [hcell j (by omega),List.getD_eq_getElem?_getD,hs1]
   simp [strV]
  ·obtain ⟨s,hs,rfl⟩:=List.mem_map.1 hx
   have hw2:=hre s.data.toList.length (by
    simp only [DataW.weights,ht,List.mem_cons,List.mem_append]
    right;left
    exact weights_all_memS (d:=.lit (.string s.data.toList)) (by simp [DataW.weights]) (List.mem_map.2 ⟨s,hs,rfl⟩))
   simpa [reachBytes] using hw2
theorem nat_of {k:IntKind} {z:Int} {m:Nat} (h:(Lit.int k z).wf=true) (hm:k.min=0∧k.max<(m:Int)):∃ n:Nat,z=(n:Int)∧n<m:=by
 simp [Lit.wf,hm.1] at h
 exact ⟨z.toNat,by omega,by omega⟩
def fieldsOf (P:Program) (t:TypeId):Option (List (TypeId × Nat)):=match P.underlying t with
 | some (.struct fs)=>some (fs.toList.map fun f=>(f.type,f.offset))
 | _=>none
theorem trod_structL {t:TypeId} {l:List (TypeId × Nat)} {cs:List Value} {d:DataW H} {ps:List MemPlace} {n:Nat} (hf:fieldsOf P t=some l) (h:DataW.trod enc P W 0 (fun _=>true) true n t cs=some (d,ps)) :
 ∃ (xs:List (DataW H × List MemPlace)) (m:Nat),cs.length=P.cellsOf t∧xs.length=l.length∧
  ∀ (i:Nat) (e:TypeId) (o:Nat),l[i]? = some (e,o)→∃ y,DataW.trod enc P W 0 (fun _=>true) true m e ((cs.drop o).take (P.cellsOf e))=some y∧∀ n∈y.1.weights P e,n∈d.weights P t:=by
 unfold fieldsOf at hf
 split at hf
 ·rename_i fs hu
  obtain ⟨xs,m,_,hx,hcl,hxl,hfi⟩:=DataW.trod_struct hu h
  have hl:=(Option.some.inj hf)
  simp only [Prod.mk.injEq] at hx
  obtain ⟨rfl,rfl⟩:=hx
  refine ⟨xs,m,hcl,by rw [hxl,←hl];simp,fun i e o hi=>?_⟩
  rw [←hl,List.getElem?_map] at hi
  obtain ⟨f,hf1,hf2⟩:=Option.map_eq_some_iff.1 hi
  cases hf2
  have hi2:i<xs.length:=by
   rw [hxl]
   have:=(List.getElem?_eq_some_iff.1 hf1).1
   simpa using this
  have:=hfi i f (by simpa using hf1)
  rw [List.getElem?_eq_getElem hi2] at this
  refine ⟨xs[i],this,fun n hn=>?_⟩
  simp only [DataW.weights,hu]
  exact DataW.weights_mem_each (j:=i) (t:=f.type) (d:=xs[i].1) (by rw [List.getElem?_map,hf1];rfl) (by rw [List.getElem?_map,List.getElem?_eq_getElem hi2];rfl) n hn
 ·cases hf
end
section
variable {H:Type} {enc:TypeId × Value→H} {W:World}
theorem trod_int_nat {P:Program} {t:TypeId} {k:IntKind} {V:Value} {y:DataW H × List MemPlace} {n:Nat} (m:Nat) (ht:P.underlying t=some (.int k)) (hm:k.min=0∧k.max<(m:Int)) (h:DataW.trod enc P W 0 (fun _=>true) true n t [V]=some y):∃ z:Nat,V = .int k (z:Int)∧z<m:=by
 obtain ⟨z,h1,_,h2⟩:=DataW.trod_int ht h
 simp only [List.cons.injEq,and_true] at h1
 obtain ⟨q,rfl,hq⟩:=nat_of h2 hm
 exact ⟨q,h1,hq⟩
theorem open_rowsG {P:Program} {α:Type} [Inhabited α] (f:α→List Value) (s:Nat) (hs:∀ x,(f x).length=s) (hs1:0<s) {t e:TypeId} (ht:P.underlying t=some (.slice e)) (hce:P.cellsOf e=s) (by_:Nat) (hby:P.bytesOf e=by_) (Q:α→Prop)
 {V:Value} {d:DataW H} {ps:List MemPlace} {n:Nat} (h:DataW.trod enc P W 0 (fun _=>true) true n t [V]=some (d,ps)) (hre:∀ n∈d.weights P t,n≤reachBytes)
 (ho:∀ cs d ps n,DataW.trod enc P W 0 (fun _=>true) true n e cs=some (d,ps)→(∀ n∈d.weights P e,n≤reachBytes)→∃ x,cs=f x∧Q x) :
 ∃ (A:Option Addr) (c:Nat) (l:List α),V = .slice A l.length c∧l.length≤c∧l.length*by_≤140737488351232∧Rd W W.heap.size A (l.length*s) (l.flatMap f)∧∀ x∈l,Q x:=by
 rcases Go.Deep.open_slice ht h with ⟨hcs,hx⟩ | ⟨a,len,cap,m,n',D,Pl,hcs,_,hl,hm,hmm,hx,hV⟩
 ·simp only [List.cons.injEq,and_true] at hcs
  exact ⟨none,0,[],hcs,Nat.le_refl _,by simp,by simpa using Rd.nil _ _ _,fun _ h=>by cases h⟩
 ·simp only [List.cons.injEq,and_true] at hcs
  subst hcs
  simp only [if_true] at hmm
  obtain rfl:=hmm.symm
  simp only [Prod.mk.injEq] at hx
  obtain ⟨rfl,rfl⟩:=hx
  have hw:=hre (((List.map D (List.range len)).length+(List.map (fun j=>D (len+j)) (List.range (cap - len))).length)*P.bytesOf e) (by simp [DataW.weights,ht])
  simp only [List.length_map,List.length_range,hby,reachBytes] at hw
  rw [hce] at hV
  obtain ⟨R,hR⟩:=Go.Deep.choose_lt (α:=α) (n:=len) (p:=fun i x=>W.cells? 0 (a.add (i*s)) s=some (f x)∧Q x) (fun i hi=>by
   obtain ⟨cs',h1,h2⟩:=hV i (by omega)
   obtain ⟨x,hx,hsx⟩:=ho _ _ _ _ h2 (fun n hn=>hre n (by
    simp only [DataW.weights,ht,List.mem_cons,List.mem_append]
    right;left
    exact weights_all_memS hn (List.mem_map.2 ⟨i,List.mem_range.2 hi,rfl⟩)))
   subst hx
   exact ⟨x,h1,hsx⟩)
  have hrl:((List.range len).map R).length=len:=by simp
  have hwl:len*by_≤140737488351232:=Nat.le_trans (Nat.mul_le_mul_right _ (Nat.le_add_right _ _)) hw
  refine ⟨some a,cap,(List.range len).map R,by rw [hrl],by rw [hrl];exact hl,by rw [hrl];exact hwl,?_,fun x hx=>?_⟩
  ·rw [hrl]
   have hfl:(((List.range len).map R).flatMap f).length=len*s:=by
    have:∀ q:List α,(q.flatMap f).length=q.length*s:=fun q=>by
     induction q with
     | nil=>simp
     | cons a q ih=>rw [List.flatMap_cons,List.length_append,hs,List.length_cons,ih,Nat.add_mul,Nat.one_mul,Nat.add_comm]
    rw [this,hrl]
   refine rd_of_cells _ hfl fun j u hu=>?_
   have hj:j<len*s:=by
    rcases Nat.lt_or_ge j (len*s) with h1 | h1
    ·exact h1
    ·rw [List.getElem?_eq_none (by omega)] at hu;cases hu
   have hq:j / s<len:=Nat.div_lt_of_lt_mul (by rw [Nat.mul_comm];exact hj)
   have hjq:j=j / s*s+j % s:=by rw [Nat.mul_comm];exact (Nat.div_add_mod j s).symm
   have hms:j % s<s:=Nat.mod_lt _ hs1
   have h1:=flat_get f s hs ((List.range len).map R) (j / s) (j % s) (by rw [hrl];exact hq) hms
   rw [←hjq,hu] at h1
   simp only [List.getElem_map,List.getElem_range] at h1
   obtain ⟨_,_,h3⟩:=World.cells?_some (hR (j / s) hq).1
   have h4:=h3 (j % s) hms
   rw [Go.Deep.add_add,←hjq] at h4
   rw [h4,h1]
  ·obtain ⟨i,hi,rfl⟩:=List.mem_map.1 hx
   exact (hR i (List.mem_range.1 hi)).2
instance:Inhabited QR:=⟨⟨none,0,zQ⟩⟩
instance:Inhabited RR:=⟨⟨none,0,none,0,none,0,zR⟩⟩
end
end Go.Proofs.Ytlipmlbijddopaa
set_option linter.unusedVariables false
set_option linter.unusedSimpArgs false
namespace Go.Proofs.Ytlipmlbijddopaa
open Go.RowKit
set_option maxRecDepth 100000 in
set_option maxHeartbeats 1000000 in
theorem fright_at (x:RR) (w:World) (h:RRd w w.heap.size x) :
 Calls Try.prog 47 #[.agg x.cells.toArray] w fun e w'=>e = .returned (.bool (rightR x.r))∧Below w.heap.size w w':=by
 obtain ⟨A,c,dA,dc,tA,tc,⟨⟨nm,ty,cl⟩,ttl,d,pr,we,po,tg⟩⟩:=x
 obtain ⟨⟨⟨hn,hnc,hns⟩,hty,hcl⟩,⟨hd,hdc,hdl⟩,⟨ht,htc,hts⟩,httl,hpr,hwe,hpo⟩:=h
 simp only [RR.qr] at hn hnc hns hty hcl hd hdc hdl ht htc hts httl hpr hwe hpo
 have H1:=Lib.hid hn
 have H2:=Lib.hid ht
 have hb0:∀ o:Obj,Below w.heap.size w (w.alloc o):=fun o=>(Below.refl _ w).alloc (Nat.le_refl _) o
 have V1:∀ w2,Below (w.alloc (.cells (RR.cells ⟨A,c,dA,dc,tA,tc,⟨⟨nm,ty,cl⟩,ttl,d,pr,we,po,tg⟩⟩).toArray 74)).heap.size (w.alloc (.cells (RR.cells ⟨A,c,dA,dc,tA,tc,⟨⟨nm,ty,cl⟩,ttl,d,pr,we,po,tg⟩⟩).toArray 74)) w2→_:=fun w2 hb2=>(Vx.below (Vx.new w 74 (RR.cells ⟨A,c,dA,dc,tA,tc,⟨⟨nm,ty,cl⟩,ttl,d,pr,we,po,tg⟩⟩)) hb2 (by simp)).c9
 have VX:=Lib.hid V1
 clear hn ht hd V1
 by_cases hrn:rightN nm=true
 ·by_cases h33:ty=33
  ·subst h33
   by_cases hd0:d.length=0
   ·have hR:rightR ⟨⟨nm,33,cl⟩,ttl,d,pr,we,po,tg⟩=rightN tg:=by unfold rightR;rw [if_pos hrn,if_pos rfl,if_pos hd0]
    rw [hR]
    have hd0':((d.length:Int) == 0)=true:=by simp [hd0]
    unfold RR.cells at VX ⊢
    simp only at VX ⊢
    clear hR hd0
    go_enter Try.func47,Try.ntmps47
    go_wp2_with (first
     | (go_at_call 46
        refine (rright_any tA tc tg w2 ((H2.out.below hB2).more hB2.size) hts).mono ?_
        rintro e w3 ⟨rfl,hb3⟩)
     | (go_at_call 46
        refine (rright_any A c nm _ (H1.out.alloc_top' _) hns).mono ?_
        rw [hrn]
        rintro e w2 ⟨rfl,hb2⟩
        obtain ⟨c0,c1,c2,c3,c4,c5,c6,c7,c8⟩:=VX.out w2 hb2
        have hB2:Below w.heap.size w w2:=(hb0 _).trans (hb2.mono (hb0 _).size)))
    go_ret
    exact ⟨rfl,hB2.trans (hb3.mono hB2.size)⟩
   ·have hR:rightR ⟨⟨nm,33,cl⟩,ttl,d,pr,we,po,tg⟩=false:=by unfold rightR;rw [if_pos hrn,if_pos rfl,if_neg hd0]
    rw [hR]
    have hd0':((d.length:Int) == 0)=false:=by rw [beq_eq_false_iff_ne];omega
    unfold RR.cells at VX ⊢
    simp only at VX ⊢
    clear hR hd0
    go_enter Try.func47,Try.ntmps47
    go_wp2_with (first
     | (go_at_call 46
        refine (rright_any A c nm _ (H1.out.alloc_top' _) hns).mono ?_
        rw [hrn]
        rintro e w2 ⟨rfl,hb2⟩
        obtain ⟨c0,c1,c2,c3,c4,c5,c6,c7,c8⟩:=VX.out w2 hb2
        have hB2:Below w.heap.size w w2:=(hb0 _).trans (hb2.mono (hb0 _).size)))
    go_ret
    exact ⟨rfl,hB2⟩
  ·obtain ⟨b1,hb1⟩:∃ b,b=decide (d.length≤4096):=⟨_,rfl⟩
   obtain ⟨b2,hb2⟩:∃ b,b=decide (pr=0):=⟨_,rfl⟩
   obtain ⟨b3,hb3⟩:∃ b,b=decide (we=0):=⟨_,rfl⟩
   obtain ⟨b4,hb4⟩:∃ b,b=decide (po=0):=⟨_,rfl⟩
   obtain ⟨b5,hb5⟩:∃ b,b=decide (tg.length=0):=⟨_,rfl⟩
   have hR:rightR ⟨⟨nm,ty,cl⟩,ttl,d,pr,we,po,tg⟩=(b1 && (b2 && (b3 && (b4 && b5)))):=by
    unfold rightR
    rw [if_pos hrn,if_neg h33,hb1,hb2,hb3,hb4,hb5]
    rw [Bool.eq_iff_iff]
    simp only [Bool.and_eq_true,decide_eq_true_iff]
   rw [hR]
   have e1:decide ((d.length:Int)≤4096)=b1:=by rw [hb1,Bool.eq_iff_iff,decide_eq_true_iff,decide_eq_true_iff];omega
   have e2:((pr:Int) == 0)=b2:=by rw [hb2,Bool.eq_iff_iff,beq_iff_eq,decide_eq_true_iff];omega
   have e3:((we:Int) == 0)=b3:=by rw [hb3,Bool.eq_iff_iff,beq_iff_eq,decide_eq_true_iff];omega
   have e4:((po:Int) == 0)=b4:=by rw [hb4,Bool.eq_iff_iff,beq_iff_eq,decide_eq_true_iff];omega
   have e5:((tg.length:Int) == 0)=b5:=by rw [hb5,Bool.eq_iff_iff,beq_iff_eq,decide_eq_true_iff];omega
   have h33':((ty:Int) == 33)=false:=by rw [beq_eq_false_iff_ne];omega
   unfold RR.cells at VX ⊢
   simp only at VX ⊢
   clear hR hb1 hb2 hb3 hb4 hb5
   go_enter Try.func47,Try.ntmps47
   go_wp2_with (first
    | (go_at_call 46
       refine (rright_any A c nm _ (H1.out.alloc_top' _) hns).mono ?_
       rw [hrn]
       rintro e w2 ⟨rfl,hb2⟩
       obtain ⟨c0,c1,c2,c3,c4,c5,c6,c7,c8⟩:=VX.out w2 hb2
       have hB2:Below w.heap.size w w2:=(hb0 _).trans (hb2.mono (hb0 _).size)))
   all_goals go_ret
   all_goals refine ⟨ret_bool ?_,hB2⟩
   all_goals clear VX H1 H2 hB2 hb2 hb0 c0 c1 c2 c3 c4 c5 c6 c7 c8 e1 e2 e3 e4 e5
   all_goals simp_all
 ·have hrn':rightN nm=false:=by simpa using hrn
  have hR:rightR ⟨⟨nm,ty,cl⟩,ttl,d,pr,we,po,tg⟩=false:=by unfold rightR;rw [if_neg hrn]
  rw [hR]
  unfold RR.cells at VX ⊢
  simp only at VX ⊢
  clear hR
  go_enter Try.func47,Try.ntmps47
  go_wp2_with (first
   | (go_at_call 46
      refine (rright_any A c nm _ (H1.out.alloc_top' _) hns).mono ?_
      rw [hrn']
      rintro e w2 ⟨rfl,hb2⟩))
  go_ret
  exact ⟨rfl,(hb0 _).trans (hb2.mono (hb0 _).size)⟩
set_option maxRecDepth 100000 in
set_option maxHeartbeats 400000 in
theorem ftwo_at (v:Value) (b:List UInt8) (base n:Nat) (w:World) (hO:Ow w base 5 v (bc b)) (hn:n<65536) (hB:base≤w.heap.size) (hs:b.length≤1000000000000) :
 Calls Try.prog 48 #[v,.int .i64 (n:Int)] w fun e w'=>∃ v',e = .returned v'∧Ow w' base 5 v' (bc (b++two n))∧Gr w w' v v':=by
 obtain ⟨i0,hi,hz0,hz1,hz2⟩:=info_parts Try.infoByte
 obtain ⟨q,hq⟩:∃ q,q=n / 256:=⟨_,rfl⟩
 obtain ⟨r,hr⟩:∃ r,r=n % 256:=⟨_,rfl⟩
 have k1:(n:Int).tdiv 256=(q:Int):=by rw [Int.tdiv_eq_ediv_of_nonneg (by omega)];omega
 have k2:(n:Int) / 256=(q:Int):=by omega
 have k3:(n:Int).tmod 256=(r:Int):=by rw [Int.tmod_eq_emod_of_nonneg (by omega)];omega
 have k4:(n:Int) % 256=(r:Int):=by omega
 have k5:IntKind.u8.wrap (q:Int)=(q:Int):=by rw [IntKind.wrap_u8];omega
 have k6:IntKind.u8.wrap (r:Int)=(r:Int):=by rw [IntKind.wrap_u8];omega
 have hbt:bc (two n)=[.int .u8 (q:Int),.int .u8 (r:Int)]:=by rw [bc_two n hn,k2,k4]
 have HO:=Lib.hid hO
 have HBT:=Lib.hid hbt
 clear hO hq hr hbt
 go_enter Try.func48,Try.ntmps48
 go_wp2_with (at_builtin;refine wpList_app _ rfl _ _ _ _ rfl base 5 i0 (.int .u8 0) 1 Try.underlying22 hi hz0 hz1 hz2 rfl (Nat.le_refl _) _ _ (HO.out.alloc _) rfl 2 [.int .u8 (q:Int),.int .u8 (r:Int)] (lit_src Try.underlying22 _ _ 2 rfl (by simp [maxLen]) (by simp;exact ⟨rfl,rfl⟩)) (by simp;omega) (by simp;omega) ?_;intro v2 w2 hown2 hgr2 hsz2)
 go_ret
 exact ⟨v2,rfl,by rw [bc_app,HBT.out];exact hown2,(Gr.refl w v).alloc _ |>.trans hgr2⟩
theorem app_len (b:List UInt8) (known:List Int) (n:List (List UInt8)) (hr:rightN n=true):(appN b known n).length≤b.length+600:=by
 have h1:=(app_reads b known n hr).2.2.1
 have h2:=size_right hr
 omega
set_option maxRecDepth 100000 in
set_option maxHeartbeats 4000000 in
theorem fasked_at (A1 A2:Option Addr) (c1 c2 L1 L2:Nat) (b:List UInt8) (known:List Int) (x:QR) (w:World) (hL1:b.length=L1) (hL2:known.length=L2) (h1:Rd w w.heap.size A1 L1 (bc b)) (hc1:L1≤c1) (hb:L1≤100000000) (h2:Rd w w.heap.size A2 L2 (ic known)) (hk:L2≤100000000) (hx:QRd w w.heap.size x) (hr:rightN x.q.nm=true) :
 Calls Try.prog 49 #[.slice A1 L1 c1,.slice A2 L2 c2,.agg x.cells.toArray] w fun e w'=>∃ v,e = .returned v∧Ow w' w.heap.size 5 v (bc (askB (b,known) x.q).1)∧Below w.heap.size w w':=by
 obtain ⟨A,c,⟨nm,ty,cl⟩⟩:=x
 obtain ⟨⟨hn,hnc,hns⟩,hty,hcl⟩:=hx
 simp only at hn hnc hns hty hcl hr
 have V1:Vx (w.alloc (.cells #[.slice A nm.length c,.int .u16 (ty:Int),.int .u16 (cl:Int)] 70)) w.heap.size 70 [.slice A nm.length c,.int .u16 (ty:Int),.int .u16 (cl:Int)]:=Vx.new w _ _
 have hb1:=below_new w (.cells #[.slice A nm.length c,.int .u16 (ty:Int),.int .u16 (cl:Int)] 70)
 have K1:=Lib.hid (rapp_ok A1 A2 A c1 c2 c L1 L2 nm.length b known nm (w.alloc (.cells #[.slice A nm.length c,.int .u16 (ty:Int),.int .u16 (cl:Int)] 70)) hL1 hL2 rfl ((h1.below hb1).more hb1.size) hc1 (by omega) ((h2.below hb1).more hb1.size) (by omega) ((hn.below hb1).more hb1.size) hnc hr)
 have hlen:=app_len b known nm hr
 rw [hL1] at hlen
 obtain ⟨P,hP⟩:∃ P,P=appN b known nm:=⟨_,rfl⟩
 rw [←hP] at K1 hlen
 have HP:=Lib.hid hP
 have VX:=Lib.hid V1
 have HB1:=Lib.hid hb1
 clear h1 h2 hn V1 hb1 hP hL1 hL2
 unfold QR.cells
 simp only
 go_enter Try.func49,Try.ntmps49
 go_upto_region 2 with (go_at_call 74
                        refine K1.out.mono ?_
                        rintro e w2 ⟨v2,rfl,ho2,hb2⟩)
 have hT:w.heap.size<(w.alloc (.cells #[.slice A nm.length c,.int .u16 (ty:Int),.int .u16 (cl:Int)] 70)).heap.size:=VX.out.lt
 obtain ⟨B,hB⟩:∃ B,B=(w.alloc (.cells #[.slice A nm.length c,.int .u16 (ty:Int),.int .u16 (cl:Int)] 70)).heap.size:=⟨_,rfl⟩
 rw [←hB] at hT
 have vq2:=Lib.hid (VX.out.below hb2 VX.out.lt)
 have hb02:=HB1.out.trans (hb2.mono HB1.out.size)
 have hB2:B≤w2.heap.size:=by rw [hB];exact hb2.size
 rw [←hB] at ho2
 obtain ⟨q0,q1,q2⟩:=vq2.out.c3
 have HO2:=Lib.hid ho2
 have HB02:=Lib.hid hb02
 clear K1 ho2 hb2 hb02 hB
 have kw1:IntKind.i64.wrap (ty:Int)=(ty:Int):=by rw [IntKind.wrap_i64];omega
 have kw2:IntKind.i64.wrap (cl:Int)=(cl:Int):=by rw [IntKind.wrap_i64];omega
 refine wp_region_held_drew (S:=fun w'=>w'.cell? ⟨w.heap.size,0,none⟩=some (.slice A nm.length c)∧w'.cell? ⟨w.heap.size,1,none⟩=some (.int .u16 (ty:Int))∧w'.cell? ⟨w.heap.size,2,none⟩=some (.int .u16 (cl:Int))) (by kernel_rfl) ⟨q0,q1,q2⟩ (fun hH=>?_)
 clear q0 q1 q2
 refine reg_take 0 (v:=?_) rfl (by kernel_rfl) (fun _ _ _ h=>h) (by rfl) hH ?_ ?_
 rotate_left
 ·intro w hSw;(try dsimp only at hSw);go_simp;(try with_reducible rfl)
 (try simp only [Act.put,List.setIfInBounds_toArray,List.set_cons_zero,List.set_cons_succ])
 refine reg_take 1 (v:=?_) rfl (by kernel_rfl) (fun _ _ _ h=>h) (by rfl) hH ?_ ?_
 rotate_left
 ·intro w hSw;(try dsimp only at hSw);go_simp;(try with_reducible rfl)
 (try simp only [Act.put,List.setIfInBounds_toArray,List.set_cons_zero,List.set_cons_succ])
 refine reg_take 2 (v:=?_) rfl (by kernel_rfl) (fun _ _ _ h=>h) (by rfl) hH ?_ ?_
 rotate_left
 ·intro w hSw;(try dsimp only at hSw);go_simp;(try with_reducible rfl)
 (try simp only [Act.put,List.setIfInBounds_toArray,List.set_cons_zero,List.set_cons_succ])
 refine reg_take 3 (v:=?_) rfl (by kernel_rfl) (fun _ _ _ h=>h) (by rfl) hH ?_ ?_
 rotate_left
 ·intro w hSw;(try dsimp only at hSw);go_simp;(try with_reducible rfl)
 (try simp only [Act.put,List.setIfInBounds_toArray,List.set_cons_zero,List.set_cons_succ])
 refine reg_take 5 (v:=?_) rfl (by kernel_rfl) (fun _ _ _ h=>h) (by rfl) hH ?_ ?_
 rotate_left
 ·intro w hSw;(try dsimp only at hSw);go_simp;(try with_reducible rfl)
 (try simp only [Act.put,List.setIfInBounds_toArray,List.set_cons_zero,List.set_cons_succ])
 refine reg_take 6 (v:=?_) rfl (by kernel_rfl) (fun _ _ _ h=>h) (by rfl) hH ?_ ?_
 rotate_left
 ·intro w hSw;(try dsimp only at hSw);go_simp;(try with_reducible rfl)
 (try simp only [Act.put,List.setIfInBounds_toArray,List.set_cons_zero,List.set_cons_succ])
 refine reg_take 7 (v:=?_) rfl (by kernel_rfl) (fun _ _ _ h=>h) (by rfl) hH ?_ ?_
 rotate_left
 ·intro w hSw;(try dsimp only at hSw);go_simp;(try with_reducible rfl)
 (try simp only [Act.put,List.setIfInBounds_toArray,List.set_cons_zero,List.set_cons_succ])
 refine wpAnyH_ready (rs:=[4]) (by kernel_rfl) (by simp) ?_
 refine reg_cons _ rfl (fun K' hK=>?_) AllReadyH.nil
 go_simp
 go_at_call 48
 refine (ftwo_at v2 P B ty w2.drew HO2.out.drew hty hB2 (by omega)).mono ?_
 rintro e w3 ⟨v3,rfl,ho3,hg3⟩
 have hb3:Below B w2.drew w3:=hg3.below (fun g hg=>(OwM.lt (show OwM w2.drew B 5 1 _ _ _ from HO2.out) g hg)) hB2
 have v3':=Lib.hid ((vq2.out.drew).below hb3 hT)
 have hB3:B≤w3.heap.size:=Nat.le_trans hB2 hb3.size
 (try dsimp only)
 refine hK.out _ _ v3'.out.c3 (fun hH=>?_)
 (try simp only [Act.put,List.setIfInBounds_toArray,List.set_cons_zero,List.set_cons_succ])
 clear hK
 refine wpAnyH_ready (rs:=[8]) (by kernel_rfl) (by simp) ?_
 refine reg_cons _ rfl (fun K' hK=>?_) AllReadyH.nil
 go_simp
 go_at_call 48
 refine (ftwo_at v3 (P++two ty) B cl w3 ho3 hcl hB3 (by simp;omega)).mono ?_
 rintro e w4 ⟨v4,rfl,ho4,hg4⟩
 have hb4:Below B w3 w4:=hg4.below (fun g hg=>(OwM.lt (show OwM w3 B 5 1 _ _ _ from ho3) g hg)) hB3
 have v4':=Lib.hid ((v3'.out).below hb4 hT)
 (try dsimp only)
 refine hK.out _ _ v4'.out.c3 (fun hH=>?_)
 (try simp only [Act.put,List.setIfInBounds_toArray,List.set_cons_zero,List.set_cons_succ])
 clear hK
 refine reg_take 9 (v:=?_) rfl (by kernel_rfl) (fun _ _ _ h=>h) (by rfl) hH ?_ ?_
 rotate_left
 ·intro w hSw;(try dsimp only at hSw);go_simp;(try with_reducible rfl)
 (try simp only [Act.put,List.setIfInBounds_toArray,List.set_cons_zero,List.set_cons_succ])
 refine wpAnyH_done (by kernel_rfl) ?_ _
 go_wp2_with fail
 go_ret
 refine ⟨v4,rfl,?_,?_⟩
 ·rw [HP.out] at ho4
  exact OwM.mono ho4 (by omega)
 ·exact HB02.out.trans ((((Below.refl B w2).drew.trans hb3).trans hb4).mono (by omega))
set_option maxRecDepth 100000 in
set_option maxHeartbeats 4000000 in
theorem fdata_at (x:RR) (w:World) (h:RRd w w.heap.size x) (hr:rightR x.r=true) :
 Calls Try.prog 50 #[.agg x.cells.toArray] w fun e w'=>∃ A c,e = .returned (.slice A (dataR x.r).length c)∧(dataR x.r).length≤c∧Rd w' w'.heap.size A (dataR x.r).length (bc (dataR x.r))∧Below w.heap.size w w'∧((A=x.dA∧dataR x.r=x.r.d)∨∀ a,A=some a→w.heap.size≤a.block):=by
 obtain ⟨A,c,dA,dc,tA,tc,⟨⟨nm,ty,cl⟩,ttl,d,pr,we,po,tg⟩⟩:=x
 obtain ⟨⟨⟨hn,hnc,hns⟩,hty,hcl⟩,⟨hd,hdc,hdl⟩,⟨ht,htc,hts⟩,httl,hpr,hwe,hpo⟩:=h
 simp only [RR.qr] at hn hnc hns hty hcl hd hdc hdl ht htc hts httl hpr hwe hpo
 simp only at hr
 obtain ⟨i0,hi,hz0,hz1,hz2⟩:=info_parts Try.infoByte
 have H2:=Lib.hid ht
 have H3:=Lib.hid hd
 have hb0:∀ o:Obj,Below w.heap.size w (w.alloc o):=fun o=>(Below.refl _ w).alloc (Nat.le_refl _) o
 clear hn ht hd
 unfold RR.cells
 simp only
 by_cases h33:ty=33
 ·subst h33
  have htr:rightN tg=true:=by
   simp [rightR] at hr
   exact hr.2.2
  have hfl:=form_len htr
  have hD:dataR ⟨⟨nm,33,cl⟩,ttl,d,pr,we,po,tg⟩=two pr++two we++two po++formN tg:=by simp [dataR]
  rw [hD]
  obtain ⟨DL,hDL⟩:∃ DL,DL=(two pr++two we++two po++formN tg).length:=⟨_,rfl⟩
  rw [←hDL]
  have HDL:=Lib.hid hDL
  clear hr hD hDL
  have hT:=(Vx.new w 74 [.slice A nm.length c,.int .u16 33,.int .u16 (cl:Int),.int .u32 (ttl:Int),.slice dA d.length dc,.int .u16 (pr:Int),.int .u16 (we:Int),.int .u16 (po:Int),.slice tA tg.length tc]).lt
  have K1:=Lib.hid (rform_ok tA tc tg (w.alloc (.cells #[.slice A nm.length c,.int .u16 33,.int .u16 (cl:Int),.int .u32 (ttl:Int),.slice dA d.length dc,.int .u16 (pr:Int),.int .u16 (we:Int),.int .u16 (po:Int),.slice tA tg.length tc] 74)) ((H2.out.below (hb0 _)).more (hb0 _).size) htr)
  go_enter Try.func50,Try.ntmps50
  go_upto_region 4 with (go_at_call 75
                         refine K1.out.mono ?_
                         rintro e w2 ⟨vf,rfl,hof,hb2⟩)
  have vq:=Lib.hid ((Vx.new w 74 [.slice A nm.length c,.int .u16 33,.int .u16 (cl:Int),.int .u32 (ttl:Int),.slice dA d.length dc,.int .u16 (pr:Int),.int .u16 (we:Int),.int .u16 (po:Int),.slice tA tg.length tc]).below hb2 hT)
  have hB02:Below w.heap.size w w2:=(hb0 _).trans (hb2.mono (hb0 _).size)
  obtain ⟨Af,cf,rfl,hcf,hrf⟩:=hof.form6 _ (bc_length _)
  have HFm:=Lib.hid hrf
  have HB02:=Lib.hid hB02
  have hszT:w.heap.size<w2.heap.size:=vq.out.lt
  have kw1:IntKind.i64.wrap (pr:Int)=(pr:Int):=by rw [IntKind.wrap_i64];omega
  have kw2:IntKind.i64.wrap (we:Int)=(we:Int):=by rw [IntKind.wrap_i64];omega
  have kw3:IntKind.i64.wrap (po:Int)=(po:Int):=by rw [IntKind.wrap_i64];omega
  clear K1 hof hrf hB02 hb2
  refine wp_region_held_drew (S:=fun w'=>w'.cell? ⟨w.heap.size,0,none⟩=some (.slice A nm.length c)∧w'.cell? ⟨w.heap.size,1,none⟩=some (.int .u16 33)∧w'.cell? ⟨w.heap.size,2,none⟩=some (.int .u16 (cl:Int))∧w'.cell? ⟨w.heap.size,3,none⟩=some (.int .u32 (ttl:Int))∧w'.cell? ⟨w.heap.size,4,none⟩=some (.slice dA d.length dc)∧w'.cell? ⟨w.heap.size,5,none⟩=some (.int .u16 (pr:Int))∧w'.cell? ⟨w.heap.size,6,none⟩=some (.int .u16 (we:Int))∧w'.cell? ⟨w.heap.size,7,none⟩=some (.int .u16 (po:Int))∧w'.cell? ⟨w.heap.size,8,none⟩=some (.slice tA tg.length tc)) (by kernel_rfl) vq.out.c9 (fun hH=>?_)
  refine reg_take 0 (v:=?_) rfl (by kernel_rfl) (fun _ _ _ h=>h) (by rfl) hH ?_ ?_
  rotate_left
  ·intro w hSw;(try dsimp only at hSw);go_simp;(try with_reducible rfl)
  (try simp only [Act.put,List.setIfInBounds_toArray,List.set_cons_zero,List.set_cons_succ])
  refine reg_take 1 (v:=?_) rfl (by kernel_rfl) (fun _ _ _ h=>h) (by rfl) hH ?_ ?_
  rotate_left
  ·intro w hSw;(try dsimp only at hSw);go_simp;(try with_reducible rfl)
  (try simp only [Act.put,List.setIfInBounds_toArray,List.set_cons_zero,List.set_cons_succ])
  refine reg_take 2 (v:=?_) rfl (by kernel_rfl) (fun _ _ _ h=>h) (by rfl) hH ?_ ?_
  rotate_left
  ·intro w hSw;(try dsimp only at hSw);go_simp;(try with_reducible rfl)
  (try simp only [Act.put,List.setIfInBounds_toArray,List.set_cons_zero,List.set_cons_succ])
  refine reg_take 4 (v:=?_) rfl (by kernel_rfl) (fun _ _ _ h=>h) (by rfl) hH ?_ ?_
  rotate_left
  ·intro w hSw;(try dsimp only at hSw);go_simp;(try with_reducible rfl)
  (try simp only [Act.put,List.setIfInBounds_toArray,List.set_cons_zero,List.set_cons_succ])
  refine reg_take 5 (v:=?_) rfl (by kernel_rfl) (fun _ _ _ h=>h) (by rfl) hH ?_ ?_
  rotate_left
  ·intro w hSw;(try dsimp only at hSw);go_simp;(try with_reducible rfl)
  (try simp only [Act.put,List.setIfInBounds_toArray,List.set_cons_zero,List.set_cons_succ])
  refine reg_take 6 (v:=?_) rfl (by kernel_rfl) (fun _ _ _ h=>h) (by rfl) hH ?_ ?_
  rotate_left
  ·intro w hSw;(try dsimp only at hSw);go_simp;(try with_reducible rfl)
  (try simp only [Act.put,List.setIfInBounds_toArray,List.set_cons_zero,List.set_cons_succ])
  refine reg_take 8 (v:=?_) rfl (by kernel_rfl) (fun _ _ _ h=>h) (by rfl) hH ?_ ?_
  rotate_left
  ·intro w hSw;(try dsimp only at hSw);go_simp;(try with_reducible rfl)
  (try simp only [Act.put,List.setIfInBounds_toArray,List.set_cons_zero,List.set_cons_succ])
  refine reg_take 9 (v:=?_) rfl (by kernel_rfl) (fun _ _ _ h=>h) (by rfl) hH ?_ ?_
  rotate_left
  ·intro w hSw;(try dsimp only at hSw);go_simp;(try with_reducible rfl)
  (try simp only [Act.put,List.setIfInBounds_toArray,List.set_cons_zero,List.set_cons_succ])
  refine reg_take 10 (v:=?_) rfl (by kernel_rfl) (fun _ _ _ h=>h) (by rfl) hH ?_ ?_
  rotate_left
  ·intro w hSw;(try dsimp only at hSw);go_simp;(try with_reducible rfl)
  (try simp only [Act.put,List.setIfInBounds_toArray,List.set_cons_zero,List.set_cons_succ])
  refine reg_take 12 (v:=?_) rfl (by kernel_rfl) (fun _ _ _ h=>h) (by rfl) hH ?_ ?_
  rotate_left
  ·intro w hSw;(try dsimp only at hSw);go_simp;(try with_reducible rfl)
  (try simp only [Act.put,List.setIfInBounds_toArray,List.set_cons_zero,List.set_cons_succ])
  refine wpAnyH_ready (rs:=[3]) (by kernel_rfl) (by simp) ?_
  refine reg_cons _ rfl (fun K' hK=>?_) AllReadyH.nil
  go_simp
  go_at_call 48
  refine (ftwo_at (.slice none 0 0) [] w2.heap.size pr w2.drew (Ow.nil _ _ _) hpr (Nat.le_refl _) (by simp)).mono ?_
  rintro e w3 ⟨vw3,rfl,how3,hgw3⟩
  have hbw3':Below w2.heap.size w2.drew w3:=(hgw3.below0).mono (Nat.le_refl _)
  have hbw3:Below w2.heap.size w2 w3:=(Below.refl w2.heap.size w2).drew.trans hbw3'
  have hsw3:w2.heap.size≤w3.heap.size:=hbw3.size
  (try dsimp only)
  refine hK.out _ _ (vq.out.below hbw3 hszT).c9 (fun hH=>?_)
  (try simp only [Act.put,List.setIfInBounds_toArray,List.set_cons_zero,List.set_cons_succ])
  clear hK
  refine wpAnyH_ready (rs:=[7]) (by kernel_rfl) (by simp) ?_
  refine reg_cons _ rfl (fun K' hK=>?_) AllReadyH.nil
  go_simp
  go_at_call 48
  refine (ftwo_at vw3 ([]++two pr) w2.heap.size we w3 how3 hwe (hsw3) (by simp)).mono ?_
  rintro e w4 ⟨vw4,rfl,how4,hgw4⟩
  have hbw4':Below w2.heap.size w3 w4:=hgw4.below (fun g hg=>OwM.lt (show OwM w3 w2.heap.size 5 1 _ _ _ from how3) g hg) hsw3
  have hbw4:Below w2.heap.size w2 w4:=hbw3.trans hbw4'
  have hsw4:w2.heap.size≤w4.heap.size:=hbw4.size
  (try dsimp only)
  refine hK.out _ _ (vq.out.below hbw4 hszT).c9 (fun hH=>?_)
  (try simp only [Act.put,List.setIfInBounds_toArray,List.set_cons_zero,List.set_cons_succ])
  clear hK
  refine wpAnyH_ready (rs:=[11]) (by kernel_rfl) (by simp) ?_
  refine reg_cons _ rfl (fun K' hK=>?_) AllReadyH.nil
  go_simp
  go_at_call 48
  refine (ftwo_at vw4 ([]++two pr++two we) w2.heap.size po w4 how4 hpo (hsw4) (by simp)).mono ?_
  rintro e w5 ⟨vw5,rfl,how5,hgw5⟩
  have hbw5':Below w2.heap.size w4 w5:=hgw5.below (fun g hg=>OwM.lt (show OwM w4 w2.heap.size 5 1 _ _ _ from how4) g hg) hsw4
  have hbw5:Below w2.heap.size w2 w5:=hbw4.trans hbw5'
  have hsw5:w2.heap.size≤w5.heap.size:=hbw5.size
  (try dsimp only)
  refine hK.out _ _ (vq.out.below hbw5 hszT).c9 (fun hH=>?_)
  (try simp only [Act.put,List.setIfInBounds_toArray,List.set_cons_zero,List.set_cons_succ])
  clear hK
  refine wpAnyH_ready (rs:=[13]) (by kernel_rfl) (by simp) ?_
  refine reg_cons _ rfl (fun K' hK=>?_) AllReadyH.nil
  refine step_app _ rfl _ _ _ _ rfl w2.heap.size 5 i0 (.int .u8 0) 1 Try.underlying22 hi hz0 hz1 hz2 rfl (Nat.le_refl _) _ _ how5 rfl (.slice Af (formN tg).length cf) rfl (formN tg).length (bc (formN tg)) ((HFm.out.goes hbw5).src Try.underlying22 (bc_one _)) (by simp;omega) hsw5 ?_
  intro v6 w6 how6 hgw6 hsw6
  rw [←bc_app,List.nil_append] at how6
  obtain ⟨A6,c6,rfl,hc6,hr6⟩:=how6.form6 DL (by rw [bc_length,HDL.out])
  have hb6:Below w2.heap.size w2 w6:=hbw5.trans (hgw6.below (fun g hg=>OwM.lt (show OwM w5 w2.heap.size 5 1 _ _ _ from how5) g hg) hsw5)
  refine hK.out _ _ (vq.out.below hb6 hszT).c9 (fun hH=>?_)
  (try simp only [Act.put,List.setIfInBounds_toArray,List.set_cons_zero,List.set_cons_succ])
  clear hK
  refine reg_take 14 (v:=?_) rfl (by kernel_rfl) (fun _ _ _ h=>h) (by rfl) hH ?_ ?_
  rotate_left
  ·intro w hSw;(try dsimp only at hSw);go_simp;(try with_reducible rfl)
  (try simp only [Act.put,List.setIfInBounds_toArray,List.set_cons_zero,List.set_cons_succ])
  refine wpAnyH_done (by kernel_rfl) ?_ _
  go_wp2_with fail
  go_ret
  exact ⟨A6,c6,rfl,hc6,hr6,HB02.out.trans (hb6.mono HB02.out.size),Or.inr (fun a ha=>by subst ha;exact Nat.le_trans HB02.out.size (how6.lt a.block rfl))⟩
 ·have hD:dataR ⟨⟨nm,ty,cl⟩,ttl,d,pr,we,po,tg⟩=d:=by simp [dataR,h33]
  rw [hD]
  clear hr hD
  have h33':((ty:Int) != 33)=true:=by rw [bne_iff_ne];omega
  go_enter Try.func50,Try.ntmps50
  go_wp2_with fail
  go_ret
  exact ⟨dA,dc,rfl,hdc,H3.out.alloc_top' _,hb0 _,Or.inl (by simp)⟩
def cntM (x:MR):Nat→Nat
 | 0=>x.qs.length
 | i+1=>cntM x i+(x.rl i).length
theorem cntM_num (x:MR):cntM x 3=x.m.num:=by simp [cntM,Ms.num,MR.m,MR.rl]
theorem right_all {x:MR} (hq:∀ q∈x.qs,rightN q.q.nm=true) (hr:∀ i,i<3→∀ r∈x.rl i,rightR r.r=true):rightM x.m=true:=by
 have h0:=hr 0 (by omega)
 have h1:=hr 1 (by omega)
 have h2:=hr 2 (by omega)
 simp only [MR.rl] at h0 h1 h2
 simp only [rightM,MR.m,Bool.and_eq_true,List.all_map,List.all_eq_true]
 exact ⟨hq,h0,h1,h2⟩
theorem wr_bad {m:Ms} (h:rightM m=false):writeM m=([],170):=by unfold writeM;rw [if_pos h]
theorem bad_q {x:MR} {q:QR} (hq:q∈x.qs) (h:rightN q.q.nm=false):writeM x.m=([],170):=wr_bad (by
 cases hR:rightM x.m with
 | false=>rfl
 | true=>rw [(resW hR).1 q hq] at h;cases h)
theorem bad_r {x:MR} {i:Nat} {r:RR} (hr:r∈x.rl i) (h:rightR r.r=false):writeM x.m=([],170):=wr_bad (by
 cases hR:rightM x.m with
 | false=>rfl
 | true=>
   have h3:=resW hR
   have:rightR r.r=true:=by
    match i,hr with
    | 0,hr=>exact h3.2.1 r hr
    | 1,hr=>exact h3.2.2.1 r hr
    | k+2,hr=>exact h3.2.2.2 r hr
   rw [this] at h;cases h)
def hdB (x:MR):Nat→List UInt8
 | 0=>[]++two x.id++two x.fl++two x.qs.length
 | i+1=>hdB x i++two (x.rl i).length
theorem hdB_head (x:MR):hdB x 3=headB x.m:=by simp [hdB,headB,twos,MR.m,MR.rl]
theorem hdB_len (x:MR):∀ i,(hdB x i).length=6+2*i
 | 0=>by simp [hdB]
 | i+1=>by rw [hdB,List.length_append,hdB_len x i];simp;omega
def stW (x:MR):Nat→Wr
 | 0=>qsB (headB x.m,[]) (x.qs.map QR.q)
 | i+1=>rsB (stW x i) ((x.rl i).map RR.r)
theorem stW_body (x:MR):stW x 3=bodyB x.m:=rfl
theorem qs_more (s:Wr) (l:List Qn) (k:Nat) (hl:∀ q∈l,rightN q.nm=true):Pre (qsB s (l.take k)).1 (qsB s l).1:=by
 have h:=qs_pre (qsB s (l.take k)) (l.drop k) (fun q hq=>hl q (List.mem_of_mem_drop hq))
 have e:qsB (qsB s (l.take k)) (l.drop k)=qsB s l:=by
  unfold qsB
  rw [←List.foldl_append,List.take_append_drop]
 rwa [e] at h
theorem rs_more (s:Wr) (l:List Rc) (k:Nat) (hl:∀ q∈l,rightR q=true):Pre (rsB s (l.take k)).1 (rsB s l).1:=by
 have h:=rs_pre (rsB s (l.take k)) (l.drop k) (fun q hq=>hl q (List.mem_of_mem_drop hq))
 have e:rsB (rsB s (l.take k)) (l.drop k)=rsB s l:=by
  unfold rsB
  rw [←List.foldl_append,List.take_append_drop]
 rwa [e] at h
theorem rl_right {x:MR} (hR:rightM x.m=true) (i:Nat):∀ r∈(x.rl i).map RR.r,rightR r=true:=by
 intro r hr
 obtain ⟨y,hy,rfl⟩:=List.mem_map.1 hr
 have h3:=resW hR
 match i,hy with
 | 0,hy=>exact h3.2.1 y hy
 | 1,hy=>exact h3.2.2.1 y hy
 | k+2,hy=>exact h3.2.2.2 y hy
theorem stW_pre {x:MR} (hR:rightM x.m=true) (i:Nat):∀ d,Pre (stW x i).1 (stW x (i+d)).1
 | 0=>Pre.refl _
 | d+1=>(stW_pre hR i d).trans (rs_pre _ _ (rl_right hR (i+d)))
def Cur (x:MR) (s t:Wr):Prop:=s=t∨(4096<s.1.length∧4096<(formM x.m).length)
theorem flong_q {x:MR} (hR:rightM x.m=true) {k:Nat} (h:4096<(qsB (headB x.m,[]) ((x.qs.map QR.q).take k)).1.length):4096<(formM x.m).length:=by
 have h1:=(qs_more (headB x.m,[]) (x.qs.map QR.q) k (fun q hq=>by
  obtain ⟨y,hy,rfl⟩:=List.mem_map.1 hq
  exact (resW hR).1 y hy)).len
 have h2:=(stW_pre hR 0 3).len
 have h3:(stW x (0+3)).1=formM x.m:=rfl
 rw [h3] at h2
 have h4:(stW x 0).1=(qsB (headB x.m,[]) (x.qs.map QR.q)).1:=rfl
 rw [h4] at h2
 omega
theorem flong_r {x:MR} (hR:rightM x.m=true) {i k:Nat} (hi:i<3) (h:4096<(rsB (stW x i) (((x.rl i).map RR.r).take k)).1.length):4096<(formM x.m).length:=by
 have h1:=(rs_more (stW x i) ((x.rl i).map RR.r) k (rl_right hR i)).len
 have h2:=(stW_pre hR (i+1) (3 - (i+1))).len
 have h3:(stW x (i+1+(3 - (i+1)))).1=formM x.m:=by rw [show i+1+(3 - (i+1))=3 by omega];rfl
 rw [h3] at h2
 have h4:(stW x (i+1)).1=(rsB (stW x i) ((x.rl i).map RR.r)).1:=rfl
 rw [h4] at h2
 omega
theorem Ow.rd0 {w:World} {base L c:Nat} {A:Option Addr} {b:List UInt8} (h:Ow w base 5 (.slice A L c) (bc b)) (hb:b.length=L):Rd w w.heap.size A L (bc b):=by
 have h1:OwM w base 5 1 (.slice A L c) L (bc b):=by
  have:Ow w base 5 (.slice A L c) (bc b):=h
  unfold Ow at this
  rw [bc_length,hb] at this
  exact this
 have:=h1.rd
 rwa [Nat.mul_one] at this
theorem Ow.rd0i {w:World} {base L c:Nat} {A:Option Addr} {b:List Int} (h:Ow w base 3 (.slice A L c) (ic b)) (hb:b.length=L):Rd w w.heap.size A L (ic b):=by
 have h1:OwM w base 3 1 (.slice A L c) L (ic b):=by
  have:Ow w base 3 (.slice A L c) (ic b):=h
  unfold Ow at this
  rw [ic_length,hb] at this
  exact this
 have:=h1.rd
 rwa [Nat.mul_one] at this
set_option maxRecDepth 100000 in
set_option maxHeartbeats 16000000 in
theorem fwrite_at (x:MR) (w:World) (h:MRd w w.heap.size x) :
 Calls Try.prog 23 #[.agg x.cells.toArray] w fun e w'=>∃ v,e = .returned (.tuple #[v,.int .i64 ((writeM x.m).2:Int)])∧Ow w' w.heap.size 5 v (bc (writeM x.m).1)∧Below w.heap.size w w':=by
 obtain ⟨i0,hi,hz0,hz1,hz2⟩:=info_parts Try.infoByte
 obtain ⟨j0,hj',hy0,hy1,hy2⟩:=info_parts Try.infoI
 obtain ⟨rr,hrr⟩:∃ rr,rr=writeM x.m:=⟨_,rfl⟩
 rw [←hrr]
 have HRR:=Lib.hid hrr
 obtain ⟨n,hn⟩:∃ n,n=x.qs.length:=⟨_,rfl⟩
 have hnb:n≤1000000000000:=by rw [hn];exact h.2.2.1.2.2.2.1
 have HN:=Lib.hid hn.symm
 have cx2:x.cells[2]? = some (.slice x.qA n x.qc):=by rw [hn];rfl
 have HX:=Lib.hid h
 obtain ⟨W1,hW1⟩:∃ W1,W1=w.alloc (.cells x.cells.toArray 60):=⟨_,rfl⟩
 have hv1:Vx W1 w.heap.size 60 x.cells:=by rw [hW1];exact Vx.new _ _ _
 have hb01:Below w.heap.size w W1:=by rw [hW1];exact below_new _ _
 have VX:=Lib.hid hv1
 have HB01:=Lib.hid hb01
 have HW1:=Lib.hid hW1
 have hT:w.heap.size<W1.heap.size:=hv1.lt
 have HFIN:=Lib.hid (fun (wr:World) (hb:Below W1.heap.size W1 wr)=>hb01.trans (hb.mono hb01.size))
 have HMR:=Lib.hid (fun (wr:World) (hb:Below W1.heap.size W1 wr)=>((h.below (hb01.trans (hb.mono hb01.size)))))
 have hcb:∀ i,(x.rl i).length≤1000000000000:=fun i=>(h.rl i).2.2.2.1
 clear h hrr hn hW1 hv1 hb01
 go_enter Try.func23,Try.ntmps23
 go_upto_region 1 with fail
 generalize hW2:World.alloc w _=W2
 have eW:W2=W1:=hW2.symm.trans HW1.out.symm
 clear hW2 HW1
 subst eW
 have m2:W2.cell? ⟨w.heap.size,2,none⟩=some (.slice x.qA n x.qc):=(VX.out.cell 2).trans cx2
 go_wp2_with fail
 clear m2
 go_loopw [5] (fun vi wr=>∃ k:Nat,k≤n∧vi = .int .i64 k∧Hid (∀ q∈x.qs.take k,rightN q.q.nm=true)∧Hid (Below W2.heap.size W2 wr)) (fun vi _=>n - (intOf vi).toNat)
 case atStart=>exact ⟨0,Nat.zero_le _,rfl,Lib.hid (fun q hq=>by cases hq),Lib.hid (Below.refl _ _)⟩
 case round=>
  obtain ⟨k,hk,rfl,HQ,HB⟩:=hrel
  have m2:wr.cell? ⟨w.heap.size,2,none⟩=some (.slice x.qA n x.qc):=((VX.out.below HB.out hT).cell 2).trans cx2
  rcases Nat.lt_or_ge k n with hlt | hge
  ·have hlx:k<x.qs.length:=by have:=HN.out;omega
   have hQ1:QsRd wr w.heap.size x.qA x.qc n x.qs:=by rw [←HN.out];exact (HMR.out wr HB.out).2.2.1
   obtain ⟨b,o,hA1,hb1,hc⟩:=hQ1.at_ hlt
   obtain ⟨c0,c1,c2⟩:=hc hlx
   have hp:=hQ1.2.2.2.2 _ (List.getElem_mem hlx)
   have hmem:=List.getElem_mem hlx
   have htk:x.qs.take (k+1)=x.qs.take k++[x.qs[k]]:=by rw [List.take_add_one,List.getElem?_eq_getElem hlx];rfl
   generalize x.qs[k]=p at *
   rw [hA1] at m2
   have hsz:=HB.out.size
   have hb1':b<wr.heap.size:=by omega
   have K:=Lib.hid (rright_any p.A p.c p.q.nm wr (hp.1.1.more (by omega)) hp.1.2.2)
   have HTK:=Lib.hid htk
   have hlt':(k:Int)<(n:Int):=by omega
   clear hc hb1 hQ1 hA1 hp htk
   cases hpr:rightN p.q.nm with
   | true=>
     rw [hpr] at K
     go_wp2_with (go_at_call 46;refine K.out.mono ?_;rintro e w2 ⟨rfl,hb2⟩)
     go_roundw
     case rel=>
      refine ⟨k+1,by omega,by go_num,Lib.hid (fun q hq=>?_),Lib.hid (HB.out.trans (hb2.mono HB.out.size))⟩
      rw [HTK.out] at hq
      rcases List.mem_append.1 hq with hq | hq
      ·exact HQ.out q hq
      ·simp at hq;subst hq;exact hpr
     case measure=>simp [intOf];omega
   | false=>
     rw [hpr] at K
     have hr1:rr=([],170):=by rw [HRR.out];exact bad_q hmem hpr
     subst hr1
     go_wp2_with (go_at_call 46;refine K.out.mono ?_;rintro e w2 ⟨rfl,hb2⟩)
     go_ret2
     exact ⟨_,rfl,Ow.nil _ _ _,HFIN.out _ (HB.out.trans (hb2.mono HB.out.size))⟩
  ·have hkn:n=k:=by omega
   subst hkn
   have hqr:∀ q∈x.qs,rightN q.q.nm=true:=fun q hq=>HQ.out q (by rw [←HN.out,List.take_length];exact hq)
   have HQR:=Lib.hid hqr
   have HB0:=HB
   clear HQ HB hqr hge hk
   go_wp2_with fail
   clear m2
   go_loopw [4,6] (fun v4 vi wr=>∃ i:Nat,i≤3∧vi = .int .i64 i∧v4 = .int .i64 (cntM x i:Int)∧Hid (∀ j,j<i→∀ r∈x.rl j,rightR r.r=true)∧Hid (Below W2.heap.size W2 wr)) (fun _ vi _=>3 - (intOf vi).toNat)
   case atStart=>exact ⟨0,by omega,rfl,by rw [←HN.out];rfl,Lib.hid (fun j hj=>by omega),HB0⟩
   case round=>
    clear HB0
    obtain ⟨i,hi3,rfl,rfl,HRI,HB⟩:=hrel
    have vbx:Vx wr w.heap.size 60 x.cells:=VX.out.below HB.out hT
    rcases Nat.lt_or_ge i 3 with hlt | hge
    ·have hi3i:(i:Int)<3:=by omega
     have hxc:x.cells[3+i]? = some (.slice (x.rA i) (x.rl i).length (x.rc i)):=by
      rcases (show i=0∨i=1∨i=2 by omega) with rfl | rfl | rfl <;> rfl
     have hcnt:cntM x (i+1)=cntM x i+(x.rl i).length:=rfl
     have hcb0:=hcb i
     have hcb1:cntM x i≤4000000000000:=by
      have h0:=hcb 0
      have h1:=hcb 1
      have hn0:=HN.out
      rcases (show i=0∨i=1∨i=2 by omega) with rfl | rfl | rfl <;> simp only [cntM] <;> omega
     obtain ⟨cn,hcn⟩:∃ cn,cn=(x.rl i).length:=⟨_,rfl⟩
     obtain ⟨ct,hct⟩:∃ ct,ct=cntM x i:=⟨_,rfl⟩
     obtain ⟨xA,hxA⟩:∃ a,a=x.rA i:=⟨_,rfl⟩
     obtain ⟨xc,hxc'⟩:∃ a,a=x.rc i:=⟨_,rfl⟩
     rw [←hcn,←hxA,←hxc'] at hxc
     rw [←hcn] at hcnt hcb0
     rw [←hct] at hcnt hcb1
     rw [←hct]
     have hR0:=HMR.out wr HB.out
     have HCN:=Lib.hid hcn.symm
     have HCT:=Lib.hid hcnt
     have HXA:=Lib.hid hxA
     have HXC:=Lib.hid hxc'
     have HCX:=Lib.hid hxc
     have m3:wr.cell? ⟨w.heap.size,3+i,none⟩=some (.slice xA cn xc):=(vbx.cell (3+i)).trans hxc
     clear hcn hcnt hxA hxc' hxc hct vbx hR0
     go_wp2_with fail
     clear m3
     have HB0:=HB
     clear HB
     go_loopw [7] (fun vk wr=>∃ k:Nat,k≤cn∧vk = .int .i64 k∧Hid (∀ r∈(x.rl i).take k,rightR r.r=true)∧Hid (Below W2.heap.size W2 wr)) (fun vk _=>cn - (intOf vk).toNat)
     case atStart=>exact ⟨0,Nat.zero_le _,rfl,Lib.hid (fun q hq=>by cases hq),HB0⟩
     case round=>
      clear HB0
      obtain ⟨k,hk,rfl,HQ,HB⟩:=hrel
      have m3:wr.cell? ⟨w.heap.size,3+i,none⟩=some (.slice xA cn xc):=((VX.out.below HB.out hT).cell (3+i)).trans HCX.out
      rcases Nat.lt_or_ge k cn with hklt | hkge
      ·have hlx:k<(x.rl i).length:=by have:=HCN.out;omega
       have hQ1:RsRd wr w.heap.size xA xc cn (x.rl i):=by
        have:=(HMR.out wr HB.out).rl i
        rw [HCN.out,←HXA.out,←HXC.out] at this
        exact this
       obtain ⟨b,o,hA1,hb1,hc⟩:=hQ1.at_ hklt
       have hnine:=(hc hlx).cells
       have hp:=hQ1.2.2.2.2 _ (List.getElem_mem hlx)
       have hmem:=List.getElem_mem hlx
       have htk:(x.rl i).take (k+1)=(x.rl i).take k++[(x.rl i)[k]]:=by rw [List.take_add_one,List.getElem?_eq_getElem hlx];rfl
       generalize (x.rl i)[k]=p at *
       obtain ⟨c0,c1,c2,c3,c4,c5,c6,c7,c8⟩:=hnine
       subst hA1
       have hsz:=HB.out.size
       have hb1':b<wr.heap.size:=by omega
       have K:=Lib.hid (fright_at p wr (hp.more (by omega)))
       have HTK:=Lib.hid htk
       have hlt':(k:Int)<(cn:Int):=by omega
       clear hc hb1 hQ1 hp htk
       cases hpr:rightR p.r with
       | true=>
         rw [hpr] at K
         go_wp2_with (go_at_call 47;refine K.out.mono ?_;rintro e w2 ⟨rfl,hb2⟩)
         go_roundw
         case rel=>
          refine ⟨k+1,by omega,by go_num,Lib.hid (fun q hq=>?_),Lib.hid (HB.out.trans (hb2.mono HB.out.size))⟩
          rw [HTK.out] at hq
          rcases List.mem_append.1 hq with hq | hq
          ·exact HQ.out q hq
          ·simp at hq;subst hq;exact hpr
         case measure=>simp [intOf];omega
       | false=>
         rw [hpr] at K
         have hr1:rr=([],170):=by rw [HRR.out];exact bad_r hmem hpr
         subst hr1
         go_wp2_with (go_at_call 47;refine K.out.mono ?_;rintro e w2 ⟨rfl,hb2⟩)
         go_ret2
         exact ⟨_,rfl,Ow.nil _ _ _,HFIN.out _ (HB.out.trans (hb2.mono HB.out.size))⟩
      ·have hkn:k=cn:=by omega
       subst hkn
       go_wp2_with fail
       go_roundw
       case rel=>
        refine ⟨i+1,by omega,by go_num,by rw [HCT.out];push_cast;rfl,Lib.hid (fun j hj=>?_),HB⟩
        rcases Nat.lt_or_ge j i with h | h
        ·exact HRI.out j h
        ·have:j=i:=by omega
         subst this
         exact fun r hr=>HQ.out r (by rw [←HCN.out,List.take_length];exact hr)
       case measure=>simp [intOf];omega
    ·have hi3':i=3:=by omega
     subst hi3'
     have hR:=right_all HQR.out (fun i hi=>HRI.out i hi)
     have HR:=Lib.hid hR
     rw [cntM_num]
     obtain ⟨N,hNN⟩:∃ N,N=x.m.num:=⟨_,rfl⟩
     have hns:n+(x.rl 0).length+(x.rl 1).length+(x.rl 2).length=N:=by
      rw [hNN,←HN.out]
      simp [Ms.num,MR.m,MR.rl]
     rw [←hNN]
     have HNN:=Lib.hid hNN
     have HNS:=Lib.hid hns
     have hnN:n≤N:=by omega
     clear HQR HRI hR hge hi3 hNN hns
     by_cases h256:256<N
     ·have hr1:rr=([],5):=by
       rw [HRR.out];unfold writeM
       rw [if_neg (by rw [HR.out];simp),if_pos (by rw [←HNN.out];exact h256)]
      subst hr1
      have h256':(256:Int)<(N:Int):=by omega
      go_wp2_with fail
      go_ret2
      exact ⟨_,rfl,Ow.nil _ _ _,HFIN.out _ HB.out⟩
     ·have h256':(N:Int)≤256:=by omega
      go_upto_region 18 with fail
      have hid:=HX.out.1
      have hfl:=HX.out.2.1
      have hn16:n<65536:=by omega
      have hc3:∀ W,Below W2.heap.size W2 W→W.cell? ⟨w.heap.size,0,none⟩=some (.int .u16 (x.id:Int))∧W.cell? ⟨w.heap.size,1,none⟩=some (.int .u16 (x.fl:Int))∧W.cell? ⟨w.heap.size,2,none⟩=some (.slice x.qA n x.qc):=fun W hW=>⟨(VX.out.below hW hT).cell 0,(VX.out.below hW hT).cell 1,((VX.out.below hW hT).cell 2).trans cx2⟩
      have HC3:=Lib.hid hc3
      have kw1:IntKind.i64.wrap (x.id:Int)=(x.id:Int):=by rw [IntKind.wrap_i64];omega
      have kw2:IntKind.i64.wrap (x.fl:Int)=(x.fl:Int):=by rw [IntKind.wrap_i64];omega
      clear hc3
      refine wp_region_held_drew (S:=fun w'=>w'.cell? ⟨w.heap.size,0,none⟩=some (.int .u16 (x.id:Int))∧w'.cell? ⟨w.heap.size,1,none⟩=some (.int .u16 (x.fl:Int))∧w'.cell? ⟨w.heap.size,2,none⟩=some (.slice x.qA n x.qc)) (by kernel_rfl) (HC3.out _ HB.out.drew) (fun hH=>?_)
      refine reg_take 0 (v:=?_) rfl (by kernel_rfl) (fun _ _ _ h=>h) (by rfl) hH ?_ ?_
      rotate_left
      ·intro w hSw;(try dsimp only at hSw);go_simp;(try with_reducible rfl)
      (try simp only [Act.put,List.setIfInBounds_toArray,List.set_cons_zero,List.set_cons_succ])
      refine reg_take 1 (v:=?_) rfl (by kernel_rfl) (fun _ _ _ h=>h) (by rfl) hH ?_ ?_
      rotate_left
      ·intro w hSw;(try dsimp only at hSw);go_simp;(try with_reducible rfl)
      (try simp only [Act.put,List.setIfInBounds_toArray,List.set_cons_zero,List.set_cons_succ])
      refine reg_take 2 (v:=?_) rfl (by kernel_rfl) (fun _ _ _ h=>h) (by rfl) hH ?_ ?_
      rotate_left
      ·intro w hSw;(try dsimp only at hSw);go_simp;(try with_reducible rfl)
      (try simp only [Act.put,List.setIfInBounds_toArray,List.set_cons_zero,List.set_cons_succ])
      refine reg_take 4 (v:=?_) rfl (by kernel_rfl) (fun _ _ _ h=>h) (by rfl) hH ?_ ?_
      rotate_left
      ·intro w hSw;(try dsimp only at hSw);go_simp;(try with_reducible rfl)
      (try simp only [Act.put,List.setIfInBounds_toArray,List.set_cons_zero,List.set_cons_succ])
      refine reg_take 5 (v:=?_) rfl (by kernel_rfl) (fun _ _ _ h=>h) (by rfl) hH ?_ ?_
      rotate_left
      ·intro w hSw;(try dsimp only at hSw);go_simp;(try with_reducible rfl)
      (try simp only [Act.put,List.setIfInBounds_toArray,List.set_cons_zero,List.set_cons_succ])
      refine reg_take 6 (v:=?_) rfl (by kernel_rfl) (fun _ _ _ h=>h) (by rfl) hH ?_ ?_
      rotate_left
      ·intro w hSw;(try dsimp only at hSw);go_simp;(try with_reducible rfl)
      (try simp only [Act.put,List.setIfInBounds_toArray,List.set_cons_zero,List.set_cons_succ])
      refine reg_take 8 (v:=?_) rfl (by kernel_rfl) (fun _ _ _ h=>h) (by rfl) hH ?_ ?_
      rotate_left
      ·intro w hSw;(try dsimp only at hSw);go_simp;(try with_reducible rfl)
      (try simp only [Act.put,List.setIfInBounds_toArray,List.set_cons_zero,List.set_cons_succ])
      refine reg_take 9 (v:=?_) rfl (by kernel_rfl) (fun _ _ _ h=>h) (by rfl) hH ?_ ?_
      rotate_left
      ·intro w hSw;(try dsimp only at hSw);go_simp;(try with_reducible rfl)
      (try simp only [Act.put,List.setIfInBounds_toArray,List.set_cons_zero,List.set_cons_succ])
      refine reg_take 10 (v:=?_) rfl (by kernel_rfl) (fun _ _ _ h=>h) (by rfl) hH ?_ ?_
      rotate_left
      ·intro w hSw;(try dsimp only at hSw);go_simp;(try with_reducible rfl)
      (try simp only [Act.put,List.setIfInBounds_toArray,List.set_cons_zero,List.set_cons_succ])
      have hswr:W2.heap.size≤wr.heap.size:=HB.out.size
      refine wpAnyH_ready (rs:=[3]) (by kernel_rfl) (by simp) ?_
      refine reg_cons _ rfl (fun K' hK=>?_) AllReadyH.nil
      go_simp
      go_at_call 48
      refine (ftwo_at (.slice none 0 0) [] W2.heap.size x.id wr.drew (Ow.nil _ _ _) hid hswr (by simp)).mono ?_
      rintro e w3 ⟨vw3,rfl,how3,hgw3⟩
      have hbw3':Below W2.heap.size wr.drew w3:=(hgw3.below0).mono hswr
      have hbw3:Below W2.heap.size W2 w3:=HB.out.drew.trans hbw3'
      have hsw3:W2.heap.size≤w3.heap.size:=hbw3.size
      (try dsimp only)
      refine hK.out _ _ (HC3.out _ hbw3) (fun hH=>?_)
      (try simp only [Act.put,List.setIfInBounds_toArray,List.set_cons_zero,List.set_cons_succ])
      clear hK
      refine wpAnyH_ready (rs:=[7]) (by kernel_rfl) (by simp) ?_
      refine reg_cons _ rfl (fun K' hK=>?_) AllReadyH.nil
      go_simp
      go_at_call 48
      refine (ftwo_at vw3 ([]++two x.id) W2.heap.size x.fl w3 how3 hfl hsw3 (by simp)).mono ?_
      rintro e w4 ⟨vw4,rfl,how4,hgw4⟩
      have hbw4':Below W2.heap.size w3 w4:=hgw4.below (fun g hg=>OwM.lt (show OwM w3 W2.heap.size 5 1 _ _ _ from how3) g hg) hsw3
      have hbw4:Below W2.heap.size W2 w4:=hbw3.trans hbw4'
      have hsw4:W2.heap.size≤w4.heap.size:=hbw4.size
      (try dsimp only)
      refine hK.out _ _ (HC3.out _ hbw4) (fun hH=>?_)
      (try simp only [Act.put,List.setIfInBounds_toArray,List.set_cons_zero,List.set_cons_succ])
      clear hK
      refine wpAnyH_ready (rs:=[11]) (by kernel_rfl) (by simp) ?_
      refine reg_cons _ rfl (fun K' hK=>?_) AllReadyH.nil
      go_simp
      go_at_call 48
      refine (ftwo_at vw4 ([]++two x.id++two x.fl) W2.heap.size n w4 how4 hn16 hsw4 (by simp)).mono ?_
      rintro e w5 ⟨vw5,rfl,how5,hgw5⟩
      have hbw5':Below W2.heap.size w4 w5:=hgw5.below (fun g hg=>OwM.lt (show OwM w4 W2.heap.size 5 1 _ _ _ from how4) g hg) hsw4
      have hbw5:Below W2.heap.size W2 w5:=hbw4.trans hbw5'
      have hsw5:W2.heap.size≤w5.heap.size:=hbw5.size
      (try dsimp only)
      refine hK.out _ _ (HC3.out _ hbw5) (fun hH=>?_)
      (try simp only [Act.put,List.setIfInBounds_toArray,List.set_cons_zero,List.set_cons_succ])
      clear hK
      refine reg_take 12 (v:=?_) rfl (by kernel_rfl) (fun _ _ _ h=>h) (by rfl) hH ?_ ?_
      rotate_left
      ·intro w hSw;(try dsimp only at hSw);go_simp;(try with_reducible rfl)
      (try simp only [Act.put,List.setIfInBounds_toArray,List.set_cons_zero,List.set_cons_succ])
      refine wpAnyH_done (by kernel_rfl) ?_ _
      have ho0:Ow w5 W2.heap.size 5 vw5 (bc (hdB x 0)):=by
       have:=how5
       rw [←HN.out] at this
       exact this
      have HO0:=Lib.hid ho0
      have HB0:=Lib.hid hbw5
      clear ho0 hbw5 how5 how4 how3 hbw4 hbw3 hbw3' hbw4' hbw5' hgw3 hgw4 hgw5 hH hsw3 hsw4 hsw5 hswr kw1 kw2 HB
      go_wp2_with fail
      go_loopw [8,9] (fun v8 vi wr=>∃ (i:Nat) (vb:Value),i≤3∧vi = .int .i64 i∧vb=v8∧Hid (Ow wr W2.heap.size 5 vb (bc (hdB x i)))∧Hid (Below W2.heap.size W2 wr)) (fun _ vi _=>3 - (intOf vi).toNat)
      case atStart=>exact ⟨0,vw5,by omega,rfl,rfl,HO0,HB0⟩
      case round=>
       clear HO0 HB0
       obtain ⟨i,vb,hi3,rfl,rfl,HO,HB⟩:=hrel
       rcases Nat.lt_or_ge i 3 with hlt | hge
       ·have hi3i:(i:Int)<3:=by omega
        have hxc:x.cells[3+i]? = some (.slice (x.rA i) (x.rl i).length (x.rc i)):=by
         rcases (show i=0∨i=1∨i=2 by omega) with rfl | rfl | rfl <;> rfl
        have hl16:(x.rl i).length<65536:=by
         have hns:=HNS.out
         rcases (show i=0∨i=1∨i=2 by omega) with rfl | rfl | rfl <;> omega
        have m3:=((VX.out.below HB.out hT).cell (3+i)).trans hxc
        obtain ⟨cn,hcn⟩:∃ cn,cn=(x.rl i).length:=⟨_,rfl⟩
        rw [←hcn] at m3 hl16
        have HCN:=Lib.hid hcn
        have hlen:=hdB_len x i
        have K:=Lib.hid (ftwo_at vb (hdB x i) W2.heap.size cn wr HO.out hl16 HB.out.size (by omega))
        clear hcn hxc hlen
        go_wp2_with (go_at_call 48
                     refine K.out.mono ?_
                     rintro e w3 ⟨v3,rfl,ho3,hg3⟩)
        go_roundw
        case rel=>
         refine ⟨i+1,v3,by omega,by go_num,rfl,Lib.hid ?_,Lib.hid (HB.out.trans (hg3.below (fun g hg=>OwM.lt (show OwM wr W2.heap.size 5 1 _ _ _ from HO.out) g hg) HB.out.size))⟩
         rw [HCN.out] at ho3
         exact ho3
        case measure=>simp [intOf];omega
       ·have hi3':i=3:=by omega
        have e3:(i:Int)=3:=by omega
        rw [e3]
        have ho3:=HO.out
        rw [hi3',hdB_head] at ho3
        have HO3:=Lib.hid ho3
        clear HO ho3 e3 hi3' hge hi3
        obtain ⟨A0,c0,rfl,hc0,_⟩:=Ow.form7 HO3.out 12 (by simp [headB,twos_length])
        go_upto_block 8 with fail
        go_cut [8,10,11,12] from 90 to 115 (fun v8 v10 _ _ wx=>∃ (s:Wr) (L K:Nat) (A1 A2:Option Addr) (c1 c2:Nat),v8 = .slice A1 L c1∧v10 = .slice A2 K c2∧L≤c1∧L≤10000∧K≤n∧Hid (s.1.length=L)∧Hid (s.2.length=K)∧Hid (Ow wx W2.heap.size 5 (.slice A1 L c1) (bc s.1))∧Hid (Ow wx W2.heap.size 3 (.slice A2 K c2) (ic s.2))∧Hid (Cur x s (stW x 0))∧Hid (Below W2.heap.size W2 wx))
        case first=>
         go_wp2_with fail
         go_loopw [8,10,11] (fun v8 v10 vi wr=>∃ (k:Nat) (s:Wr) (L:Nat) (A1 A2:Option Addr) (c1 c2:Nat),k≤n∧vi = .int .i64 k∧v8 = .slice A1 L c1∧v10 = .slice A2 k c2∧L≤c1∧L≤10000∧Hid (s.1.length=L)∧Hid (s.2.length=k)∧Hid (Ow wr W2.heap.size 5 (.slice A1 L c1) (bc s.1))∧Hid (Ow wr W2.heap.size 3 (.slice A2 k c2) (ic s.2))∧Hid (s=qsB (headB x.m,[]) ((x.qs.map QR.q).take k))∧Hid (Below W2.heap.size W2 wr)) (fun _ _ vi _=>n - (intOf vi).toNat)
         case atStart=>exact ⟨0,(headB x.m,[]),12,A0,none,c0,0,Nat.zero_le _,rfl,rfl,rfl,hc0,by omega,Lib.hid (by simp [headB,twos_length]),Lib.hid rfl,HO3,Lib.hid (Ow.nil _ _ _),Lib.hid rfl,HB⟩
         case round=>
          clear HO3 HB hc0
          obtain ⟨k,s,L,A1,A2,c1,c2,hk,rfl,rfl,rfl,hLc,hL1,HSL,HSK,HOb,HOk,HSE,HB⟩:=hrel
          have m2:=(HC3.out wr HB.out).2.2
          rcases Nat.lt_or_ge k n with hlt | hge
          ·have hlt':(k:Int)<(n:Int):=by omega
           rcases Nat.lt_or_ge 4096 L with hlong | hshort
           ·have hlong':(4096:Int)<(L:Int):=by omega
            go_wp2_with fail
            go_meet
            exact ⟨s,L,k,A1,A2,c1,c2,rfl,rfl,hLc,hL1,hk,HSL,HSK,HOb,HOk,Lib.hid (Or.inr ⟨by rw [HSL.out];exact hlong,flong_q HR.out (k:=k) (by rw [←HSE.out,HSL.out];exact hlong)⟩),HB⟩
           ·have hshort':(L:Int)≤4096:=by omega
            have hlx:k<x.qs.length:=by have:=HN.out;omega
            have hQ1:QsRd wr w.heap.size x.qA x.qc n x.qs:=by rw [←HN.out];exact (HMR.out wr HB.out).2.2.1
            obtain ⟨b,o,hA1,hb1,hc⟩:=hQ1.at_ hlt
            obtain ⟨d0,d1,d2⟩:=hc hlx
            have hp:=hQ1.2.2.2.2 _ (List.getElem_mem hlx)
            have hpr:=(resW HR.out).1 _ (List.getElem_mem hlx)
            have hqt:=qsB_take (headB x.m,[]) (x.qs.map QR.q) k (by simpa using hlx)
            rw [List.getElem_map,←HSE.out] at hqt
            generalize x.qs[k]=p at *
            rw [hA1] at m2
            have hsz:=HB.out.size
            have hb1':b<wr.heap.size:=by omega
            have HQT:=Lib.hid hqt
            have hr1:=Ow.rd0 HOb.out HSL.out
            have hr2:=Ow.rd0i HOk.out HSK.out
            have K:=Lib.hid (fasked_at A1 A2 c1 c2 L k s.1 s.2 p wr HSL.out HSK.out hr1 hLc (by omega) hr2 (by omega) (hp.more (by omega)) hpr)
            have hal:=app_len s.1 s.2 p.q.nm hpr
            have hal2:(askB s p.q).1.length≤L+604:=by
             have h1:=HSL.out
             simp only [askB,List.length_append,two_length]
             omega
            have hk2:(askB s p.q).2.length=k+1:=by
             have h1:=HSK.out
             simp [askB,h1]
            have hic:ic (askB s p.q).2=ic s.2++[.int .i64 (L:Int)]:=by
             have h1:=HSL.out
             simp [askB,ic,h1]
            obtain ⟨s',hs'⟩:∃ s',s'=askB s p.q:=⟨_,rfl⟩
            have e0:askB (s.1,s.2) p.q=s':=hs'.symm
            rw [e0] at K
            rw [←hs'] at hal2 hk2 hic hqt
            obtain ⟨L',hL'⟩:∃ L',L'=s'.1.length:=⟨_,rfl⟩
            rw [←hL'] at hal2
            have HL':=Lib.hid hL'.symm
            have HK2:=Lib.hid hk2
            have HIC:=Lib.hid hic
            have HQ2:=Lib.hid hqt
            clear hc hb1 hQ1 hA1 hp hpr hqt hr1 hr2 hal hk2 hic hs' e0 hL' HQT
            go_wp2_with (first
             | (go_at_call 49
                refine K.out.mono ?_
                rintro e w3 ⟨v3,rfl,ho3,hb3⟩
                obtain ⟨A3,c3,rfl,hc3,_⟩:=Ow.form7 ho3 L' (by rw [bc_length,HL'.out]))
             | (at_builtin;refine wpList_app _ rfl _ _ _ _ rfl W2.heap.size 3 j0 (.int .i64 0) 8 Try.underlying78 hj' hy0 hy1 hy2 rfl (by omega) _ _ ((HOk.out.far hb3).alloc _) rfl 1 [.int .i64 (L:Int)] (lit_src Try.underlying78 _ _ 1 rfl (by simp [maxLen]) (by simp;rfl)) (by have:=HSK.out;simp [ic,this];omega) (by have:=hb3.size;simp;omega) ?_
                intro v5 w5 hown5 hgr5 hsz5
                rw [←HIC.out] at hown5
                obtain ⟨A5,c5,rfl,hc5,_⟩:=Ow.form7 hown5 (k+1) (by simp [ic,HK2.out])))
            go_roundw
            case rel=>
             have hne:∀ g,(Value.slice A3 L' c3).ownBlock=some g→(Value.slice A2 k c2).ownBlock≠some g:=fun g h1 h2=>by
              have e1:=ho3.lt g h1
              have e2:=ow_block_lt HOk.out g h2
              omega
             refine ⟨k+1,s',L',A3,A5,c3,c5,by omega,by go_num,rfl,rfl,hc3,by omega,HL',HK2,Lib.hid (((ho3.alloc _).kept hgr5 hne).mono hsz),Lib.hid hown5,Lib.hid HQ2.out.symm,Lib.hid (HB.out.trans ((hb3.mono hsz).trans (((below_new w3 _).mono (by have:=hb3.size;omega)).trans (hgr5.below (fun g hg=>HOk.out.lt g hg) (by have:=hb3.size;simp;omega)))))⟩
            case measure=>simp [intOf];omega
          ·have hkn:n=k:=by omega
           have hge':(n:Int)≤(k:Int):=by omega
           go_wp2_with fail
           go_meet
           exact ⟨s,L,k,A1,A2,c1,c2,rfl,rfl,hLc,hL1,hk,HSL,HSK,HOb,HOk,Lib.hid (Or.inl (by rw [HSE.out,←hkn,←HN.out,←List.length_map (f:=QR.q),List.take_length];rfl)),HB⟩
        case rest=>
         clear HO3 HB hc0
         obtain ⟨s,L,K,A1,A2,c1,c2,rfl,rfl,hLc,hL1,hK1,HSL,HSK,HOb,HOk,HCU,HB⟩:=hcut
         go_wp2_with fail
         go_loopw [8,10,13] (fun v8 v10 vi wr=>∃ (i:Nat) (s:Wr) (L K:Nat) (A1 A2:Option Addr) (c1 c2:Nat),i≤3∧vi = .int .i64 i∧v8 = .slice A1 L c1∧v10 = .slice A2 K c2∧L≤c1∧L≤10000∧K≤4000000000000∧Hid (K≤cntM x i)∧Hid (s.1.length=L)∧Hid (s.2.length=K)∧Hid (Ow wr W2.heap.size 5 (.slice A1 L c1) (bc s.1))∧Hid (Ow wr W2.heap.size 3 (.slice A2 K c2) (ic s.2))∧Hid (Cur x s (stW x i))∧Hid (Below W2.heap.size W2 wr)) (fun _ _ vi _=>3 - (intOf vi).toNat)
         case atStart=>exact ⟨0,s,L,K,A1,A2,c1,c2,by omega,rfl,rfl,rfl,hLc,hL1,by omega,Lib.hid (by have:=HN.out;show K≤x.qs.length;omega),HSL,HSK,HOb,HOk,HCU,HB⟩
         case round=>
          clear HSL HSK HOb HOk HCU HB hLc hL1 hK1
          obtain ⟨i,s,L,K,A1,A2,c1,c2,hi3,rfl,rfl,rfl,hLc,hL1,hK1,HKC,HSL,HSK,HOb,HOk,HCU,HB⟩:=hrel
          rcases Nat.lt_or_ge i 3 with hlt | hge
          ·have hi3i:(i:Int)<3:=by omega
           have hxc:x.cells[3+i]? = some (.slice (x.rA i) (x.rl i).length (x.rc i)):=by
            rcases (show i=0∨i=1∨i=2 by omega) with rfl | rfl | rfl <;> rfl
           have hcnt:cntM x (i+1)=cntM x i+(x.rl i).length:=rfl
           have hcc:cntM x i≤256:=by
            have hns:=HNS.out
            have hn0:=HN.out
            rcases (show i=0∨i=1∨i=2 by omega) with rfl | rfl | rfl <;> simp only [cntM] <;> omega
           have hcb0:(x.rl i).length≤256:=by
            have hns:=HNS.out
            rcases (show i=0∨i=1∨i=2 by omega) with rfl | rfl | rfl <;> omega
           obtain ⟨cn,hcn⟩:∃ cn,cn=(x.rl i).length:=⟨_,rfl⟩
           obtain ⟨xA,hxA⟩:∃ a,a=x.rA i:=⟨_,rfl⟩
           obtain ⟨xc,hxc'⟩:∃ a,a=x.rc i:=⟨_,rfl⟩
           rw [←hcn,←hxA,←hxc'] at hxc
           rw [←hcn] at hcnt hcb0
           have HCN:=Lib.hid hcn.symm
           have HCT:=Lib.hid hcnt
           have HXA:=Lib.hid hxA
           have HXC:=Lib.hid hxc'
           have HCX:=Lib.hid hxc
           have HCC:=Lib.hid hcc
           clear hcn hcnt hxA hxc' hxc hcc
           go_wp2_with fail
           go_loopw [8,10,14] (fun v8 v10 vk wr=>∃ (k:Nat) (s:Wr) (L K:Nat) (A1 A2:Option Addr) (c1 c2:Nat),k≤cn∧vk = .int .i64 k∧v8 = .slice A1 L c1∧v10 = .slice A2 K c2∧L≤c1∧L≤10000∧K≤4000000000000∧Hid (K≤cntM x i+k)∧Hid (s.1.length=L)∧Hid (s.2.length=K)∧Hid (Ow wr W2.heap.size 5 (.slice A1 L c1) (bc s.1))∧Hid (Ow wr W2.heap.size 3 (.slice A2 K c2) (ic s.2))∧Hid (Cur x s (rsB (stW x i) (((x.rl i).map RR.r).take k)))∧Hid (Below W2.heap.size W2 wr)) (fun _ _ vk _=>cn - (intOf vk).toNat)
           case atStart=>exact ⟨0,s,L,K,A1,A2,c1,c2,Nat.zero_le _,rfl,rfl,rfl,hLc,hL1,hK1,HKC,HSL,HSK,HOb,HOk,HCU,HB⟩
           case round=>
            clear HSL HSK HOb HOk HCU HB hLc hL1 hK1 HKC
            obtain ⟨k,s,L,K,A1,A2,c1,c2,hk,rfl,rfl,rfl,hLc,hL1,hK1,HKC,HSL,HSK,HOb,HOk,HCU,HB⟩:=hrel
            have m3:wr.cell? ⟨w.heap.size,3+i,none⟩=some (.slice xA cn xc):=((VX.out.below HB.out hT).cell (3+i)).trans HCX.out
            rcases Nat.lt_or_ge k cn with hklt | hkge
            ·have hlt':(k:Int)<(cn:Int):=by omega
             rcases Nat.lt_or_ge 4096 L with hlong | hshort
             ·have hlong':(4096:Int)<(L:Int):=by omega
              go_wp2_with fail
              go_roundw
              case rel=>
               refine ⟨i+1,s,L,K,A1,A2,c1,c2,by omega,by go_num,rfl,rfl,hLc,hL1,hK1,Lib.hid (by have h1:=HKC.out;have h2:=HCT.out;omega),HSL,HSK,HOb,HOk,Lib.hid ?_,HB⟩
               rcases HCU.out with h | h
               ·exact Or.inr ⟨by rw [HSL.out];exact hlong,flong_r HR.out hlt (k:=k) (by rw [←h,HSL.out];exact hlong)⟩
               ·exact Or.inr h
              case measure=>simp [intOf];omega
             ·have hshort':(L:Int)≤4096:=by omega
              have hex:s=rsB (stW x i) (((x.rl i).map RR.r).take k):=by
               rcases HCU.out with h | h
               ·exact h
               ·have:=HSL.out;omega
              have hlx:k<(x.rl i).length:=by have:=HCN.out;omega
              have hQ1:RsRd wr w.heap.size xA xc cn (x.rl i):=by
               have:=(HMR.out wr HB.out).rl i
               rw [HCN.out,←HXA.out,←HXC.out] at this
               exact this
              obtain ⟨b,o,hA1,hb1,hc⟩:=hQ1.at_ hklt
              have hnine:=(hc hlx).cells
              have hp:=hQ1.2.2.2.2 _ (List.getElem_mem hlx)
              have hpr:=rl_right HR.out i _ (List.mem_map.2 ⟨_,List.getElem_mem hlx,rfl⟩)
              have hqt:=rsB_take (stW x i) ((x.rl i).map RR.r) k (by simpa using hlx)
              rw [List.getElem_map,←hex] at hqt
              generalize (x.rl i)[k]=p at *
              obtain ⟨d0,d1,d2,d3,d4,d5,d6,d7,d8⟩:=hnine
              subst hA1
              have hsz:=HB.out.size
              have hb1':b<wr.heap.size:=by omega
              have HQT:=Lib.hid hqt
              have hpw:=hp.more (show w.heap.size≤wr.heap.size by omega)
              have HP:=Lib.hid hp
              have HPW:=Lib.hid hpw
              have HPR:=Lib.hid hpr
              have hdl:=dataR_len hpr
              clear hc hb1 hQ1 hp hpw hqt hex HCU
              have hv15:=Vx.new wr 74 [.slice p.A p.r.q.nm.length p.c,.int .u16 (p.r.q.ty:Int),.int .u16 (p.r.q.cl:Int),.int .u32 (p.r.ttl:Int),.slice p.dA p.r.d.length p.dc,.int .u16 (p.r.pr:Int),.int .u16 (p.r.we:Int),.int .u16 (p.r.po:Int),.slice p.tA p.r.tg.length p.tc]
              have hbA:=below_new wr (.cells #[.slice p.A p.r.q.nm.length p.c,.int .u16 (p.r.q.ty:Int),.int .u16 (p.r.q.cl:Int),.int .u32 (p.r.ttl:Int),.slice p.dA p.r.d.length p.dc,.int .u16 (p.r.pr:Int),.int .u16 (p.r.we:Int),.int .u16 (p.r.po:Int),.slice p.tA p.r.tg.length p.tc] 74)
              obtain ⟨e0,e1,e2,e3,e4,e5,e6,e7,e8⟩:=hv15.c9
              have hszA:=hbA.size
              have hTA:=hv15.lt
              have KD:=Lib.hid (fdata_at p (wr.alloc (.cells #[.slice p.A p.r.q.nm.length p.c,.int .u16 (p.r.q.ty:Int),.int .u16 (p.r.q.cl:Int),.int .u32 (p.r.ttl:Int),.slice p.dA p.r.d.length p.dc,.int .u16 (p.r.pr:Int),.int .u16 (p.r.we:Int),.int .u16 (p.r.po:Int),.slice p.tA p.r.tg.length p.tc] 74)) ((HPW.out.below hbA).more hbA.size) hpr)
              go_upto_region 39 with (first
               | (go_at_call 50
                  refine KD.out.mono ?_
                  rintro e w3 ⟨Ad,cd,rfl,hcd,hrd,hb3,hloc⟩
                  have hv3:=hv15.below hb3 hTA))
              obtain ⟨DL,hDL⟩:∃ DL,DL=(dataR p.r).length:=⟨_,rfl⟩
              rw [←hDL] at hcd hrd hdl
              try rw [←hDL]
              have HDL:=Lib.hid hDL.symm
              obtain ⟨T,hTq⟩:∃ T,T=wr.heap.size:=⟨_,rfl⟩
              rw [←hTq] at hv3
              try rw [←hTq]
              have HT:=Lib.hid hTq
              have hb03:Below wr.heap.size wr w3:=hbA.trans (hb3.mono hbA.size)
              have HV3:=Lib.hid hv3
              have HRD:=Lib.hid hrd
              have HB03:=Lib.hid hb03
              have hadr:0<DL→∀ a,Ad=some a→a.block<w3.heap.size∧(a.block<W2.heap.size∨wr.heap.size≤a.block):=by
               intro h0 a ha
               obtain ⟨b',o',h1,h2,_⟩:=HRD.out.2 h0
               rw [ha] at h1
               cases h1
               refine ⟨h2,?_⟩
               rcases hloc with ⟨h3,h4⟩ | h3
               ·obtain ⟨b2,o2,h5,h6,_⟩:=HP.out.2.1.1.2 (by rw [←h4,HDL.out];exact h0)
                rw [←h3,ha] at h5
                cases h5
                left;show b'<_;omega
               ·right
                have:=h3 _ ha
                show wr.heap.size≤b'
                exact Nat.le_trans hszA this
              have HADR:=Lib.hid hadr
              have hT3:T<w3.heap.size:=hv3.lt
              have hs3:wr.heap.size≤w3.heap.size:=hb03.size
              obtain ⟨q,hq⟩:∃ q,q=p.r.ttl / 65536:=⟨_,rfl⟩
              obtain ⟨r,hr⟩:∃ r,r=p.r.ttl % 65536:=⟨_,rfl⟩
              have httl:p.r.ttl<4294967296:=HP.out.2.2.2.1
              have k1:(p.r.ttl:Int).tdiv 65536=(q:Int):=by rw [Int.tdiv_eq_ediv_of_nonneg (by omega)];omega
              have k2:(p.r.ttl:Int) / 65536=(q:Int):=by omega
              have k3:(p.r.ttl:Int).tmod 65536=(r:Int):=by rw [Int.tmod_eq_emod_of_nonneg (by omega)];omega
              have k4:(p.r.ttl:Int) % 65536=(r:Int):=by omega
              have k5:IntKind.u32.wrap (q:Int)=(q:Int):=by rw [IntKind.wrap_u32];omega
              have k6:IntKind.u32.wrap (r:Int)=(r:Int):=by rw [IntKind.wrap_u32];omega
              have k7:IntKind.i64.wrap (q:Int)=(q:Int):=by rw [IntKind.wrap_i64];omega
              have k8:IntKind.i64.wrap (r:Int)=(r:Int):=by rw [IntKind.wrap_i64];omega
              have hq16:q<65536:=by omega
              have hr16:r<65536:=by omega
              have HQ:=Lib.hid hq
              have HRr:=Lib.hid hr
              have hr1:=Ow.rd0 (HOb.out.far hb03) HSL.out
              have hr2:=Ow.rd0i (HOk.out.far hb03) HSK.out
              have K4:=Lib.hid (fasked_at A1 A2 c1 c2 L K s.1 s.2 p.qr w3.drew HSL.out HSK.out hr1 hLc (by omega) hr2 (by have:=HKC.out;have:=HCC.out;omega) ((HPW.out.1.below hb03).more hs3) (rightR_nm HPR.out))
              have hal:=app_len s.1 s.2 p.r.q.nm (rightR_nm HPR.out)
              obtain ⟨P,hP⟩:∃ P,P=(askB s p.r.q).1:=⟨_,rfl⟩
              have e0':(askB (s.1,s.2) p.qr.q).1=P:=hP.symm
              rw [e0'] at K4
              have hPl:P.length≤L+604:=by
               have h1:=HSL.out
               rw [hP]
               simp only [askB,List.length_append,two_length]
               omega
              have HPP:=Lib.hid hP
              have hbase3:W2.heap.size≤w3.heap.size:=by omega
              clear hcd hrd hb3 hloc hv3 hb03 hadr hDL hTq hr hq hr1 hr2 hal hP e0' KD e0 e1 e2 e3 e4 e5 e6 e7 e8 hv15 hbA d0 d1 d2 d3 d4 d5 d6 d7 d8 m3
              refine wp_region_held_drew (S:=fun w'=>w'.cell? ⟨T,0,none⟩=some (.slice p.A p.r.q.nm.length p.c)∧w'.cell? ⟨T,1,none⟩=some (.int .u16 (p.r.q.ty:Int))∧w'.cell? ⟨T,2,none⟩=some (.int .u16 (p.r.q.cl:Int))∧w'.cell? ⟨T,3,none⟩=some (.int .u32 (p.r.ttl:Int))∧w'.cell? ⟨T,4,none⟩=some (.slice p.dA p.r.d.length p.dc)∧w'.cell? ⟨T,5,none⟩=some (.int .u16 (p.r.pr:Int))∧w'.cell? ⟨T,6,none⟩=some (.int .u16 (p.r.we:Int))∧w'.cell? ⟨T,7,none⟩=some (.int .u16 (p.r.po:Int))∧w'.cell? ⟨T,8,none⟩=some (.slice p.tA p.r.tg.length p.tc)) (by kernel_rfl) HV3.out.c9 (fun hH=>?_)
              refine reg_take 0 (v:=?_) rfl (by kernel_rfl) (fun _ _ _ h=>h) (by rfl) hH ?_ ?_
              rotate_left
              ·intro w hSw;(try dsimp only at hSw);go_simp;(try with_reducible rfl)
              (try simp only [Act.put,List.setIfInBounds_toArray,List.set_cons_zero,List.set_cons_succ])
              refine reg_take 1 (v:=?_) rfl (by kernel_rfl) (fun _ _ _ h=>h) (by rfl) hH ?_ ?_
              rotate_left
              ·intro w hSw;(try dsimp only at hSw);go_simp;(try with_reducible rfl)
              (try simp only [Act.put,List.setIfInBounds_toArray,List.set_cons_zero,List.set_cons_succ])
              refine reg_take 2 (v:=?_) rfl (by kernel_rfl) (fun _ _ _ h=>h) (by rfl) hH ?_ ?_
              rotate_left
              ·intro w hSw;(try dsimp only at hSw);go_simp;(try with_reducible rfl)
              (try simp only [Act.put,List.setIfInBounds_toArray,List.set_cons_zero,List.set_cons_succ])
              refine reg_take 3 (v:=?_) rfl (by kernel_rfl) (fun _ _ _ h=>h) (by rfl) hH ?_ ?_
              rotate_left
              ·intro w hSw;(try dsimp only at hSw);go_simp;(try with_reducible rfl)
              (try simp only [Act.put,List.setIfInBounds_toArray,List.set_cons_zero,List.set_cons_succ])
              refine reg_take 5 (v:=?_) rfl (by kernel_rfl) (fun _ _ _ h=>h) (by rfl) hH ?_ ?_
              rotate_left
              ·intro w hSw;(try dsimp only at hSw);go_simp;(try with_reducible rfl)
              (try simp only [Act.put,List.setIfInBounds_toArray,List.set_cons_zero,List.set_cons_succ])
              refine reg_take 6 (v:=?_) rfl (by kernel_rfl) (fun _ _ _ h=>h) (by rfl) hH ?_ ?_
              rotate_left
              ·intro w hSw;(try dsimp only at hSw);go_simp;(try with_reducible rfl)
              (try simp only [Act.put,List.setIfInBounds_toArray,List.set_cons_zero,List.set_cons_succ])
              refine reg_take 7 (v:=?_) rfl (by kernel_rfl) (fun _ _ _ h=>h) (by rfl) hH ?_ ?_
              rotate_left
              ·intro w hSw;(try dsimp only at hSw);go_simp;(try with_reducible rfl)
              (try simp only [Act.put,List.setIfInBounds_toArray,List.set_cons_zero,List.set_cons_succ])
              refine reg_take 8 (v:=?_) rfl (by kernel_rfl) (fun _ _ _ h=>h) (by rfl) hH ?_ ?_
              rotate_left
              ·intro w hSw;(try dsimp only at hSw);go_simp;(try with_reducible rfl)
              (try simp only [Act.put,List.setIfInBounds_toArray,List.set_cons_zero,List.set_cons_succ])
              refine reg_take 10 (v:=?_) rfl (by kernel_rfl) (fun _ _ _ h=>h) (by rfl) hH ?_ ?_
              rotate_left
              ·intro w hSw;(try dsimp only at hSw);go_simp;(try with_reducible rfl)
              (try simp only [Act.put,List.setIfInBounds_toArray,List.set_cons_zero,List.set_cons_succ])
              refine reg_take 11 (v:=?_) rfl (by kernel_rfl) (fun _ _ _ h=>h) (by rfl) hH ?_ ?_
              rotate_left
              ·intro w hSw;(try dsimp only at hSw);go_simp;(try with_reducible rfl)
              (try simp only [Act.put,List.setIfInBounds_toArray,List.set_cons_zero,List.set_cons_succ])
              refine reg_take 12 (v:=?_) rfl (by kernel_rfl) (fun _ _ _ h=>h) (by rfl) hH ?_ ?_
              rotate_left
              ·intro w hSw;(try dsimp only at hSw);go_simp;(try with_reducible rfl)
              (try simp only [Act.put,List.setIfInBounds_toArray,List.set_cons_zero,List.set_cons_succ])
              refine reg_take 13 (v:=?_) rfl (by kernel_rfl) (fun _ _ _ h=>h) (by rfl) hH ?_ ?_
              rotate_left
              ·intro w hSw;(try dsimp only at hSw);go_simp;(try with_reducible rfl)
              (try simp only [Act.put,List.setIfInBounds_toArray,List.set_cons_zero,List.set_cons_succ])
              refine wpAnyH_ready (rs:=[4]) (by kernel_rfl) (by simp) ?_
              refine reg_cons _ rfl (fun K' hK=>?_) AllReadyH.nil
              go_simp
              go_at_call 49
              refine K4.out.mono ?_
              rintro e w4 ⟨v4,rfl,ho4,hb4⟩
              have hb34:Below w3.heap.size w3 w4:=(Below.refl w3.heap.size w3).drew.trans hb4
              have ho4':Ow w4 w3.heap.size 5 v4 (bc P):=ho4
              have hs4:=hb34.size
              (try dsimp only)
              refine hK.out _ _ (HV3.out.below hb34 hT3).c9 (fun hH=>?_)
              (try simp only [Act.put,List.setIfInBounds_toArray,List.set_cons_zero,List.set_cons_succ])
              clear hK
              refine wpAnyH_ready (rs:=[9]) (by kernel_rfl) (by simp) ?_
              refine reg_cons _ rfl (fun K' hK=>?_) AllReadyH.nil
              go_simp
              go_at_call 48
              refine (ftwo_at v4 P w3.heap.size q w4 ho4' hq16 hs4 (by omega)).mono ?_
              rintro e w5 ⟨v5,rfl,ho5,hg5⟩
              have hb35:Below w3.heap.size w3 w5:=hb34.trans (hg5.below (fun g hg=>ho4'.lt g hg) hs4)
              have hs5:=hb35.size
              (try dsimp only)
              refine hK.out _ _ (HV3.out.below hb35 hT3).c9 (fun hH=>?_)
              (try simp only [Act.put,List.setIfInBounds_toArray,List.set_cons_zero,List.set_cons_succ])
              clear hK
              refine wpAnyH_ready (rs:=[14]) (by kernel_rfl) (by simp) ?_
              refine reg_cons _ rfl (fun K' hK=>?_) AllReadyH.nil
              go_simp
              go_at_call 48
              refine (ftwo_at v5 (P++two q) w3.heap.size r w5 ho5 hr16 hs5 (by simp;omega)).mono ?_
              rintro e w6 ⟨v6,rfl,ho6,hg6⟩
              have hb36:Below w3.heap.size w3 w6:=hb35.trans (hg6.below (fun g hg=>ho5.lt g hg) hs5)
              have hs6:=hb36.size
              (try dsimp only)
              refine hK.out _ _ (HV3.out.below hb36 hT3).c9 (fun hH=>?_)
              (try simp only [Act.put,List.setIfInBounds_toArray,List.set_cons_zero,List.set_cons_succ])
              clear hK
              refine reg_take 15 (v:=?_) rfl (by kernel_rfl) (fun _ _ _ h=>h) (by rfl) hH ?_ ?_
              rotate_left
              ·intro w hSw;(try dsimp only at hSw);go_simp;(try with_reducible rfl)
              (try simp only [Act.put,List.setIfInBounds_toArray,List.set_cons_zero,List.set_cons_succ])
              refine wpAnyH_done (by kernel_rfl) ?_ _
              obtain ⟨P6,hP6⟩:∃ P6,P6=P++two q++two r:=⟨_,rfl⟩
              rw [←hP6] at ho6
              have hP6l:P6.length≤L+608:=by rw [hP6];simp;omega
              have HP6:=Lib.hid hP6
              have hb06:Below wr.heap.size wr w6:=HB03.out.trans (hb36.mono hs3)
              have hOk6:=Lib.hid (HOk.out.far hb06)
              have hk2:ic (askB s p.r.q).2=ic s.2++[.int .i64 (L:Int)]:=by
               have h1:=HSL.out
               simp [askB,ic,h1]
              have HIC:=Lib.hid hk2
              have hk3:(askB s p.r.q).2.length=K+1:=by
               have h1:=HSK.out
               simp [askB,h1]
              have HK3:=Lib.hid hk3
              have hd6:=HRD.out.goes hb36
              have HD6:=Lib.hid hd6
              have hdl16:DL<65536:=by omega
              have hlt10:∀ g,(Value.slice A2 K c2).ownBlock=some g→g<wr.heap.size∧W2.heap.size≤g:=fun g hg=>⟨ow_block_lt HOk.out g hg,HOk.out.lt g hg⟩
              have H10:=Lib.hid hlt10
              have hKb:K≤1000000:=by have:=HKC.out;have:=HCC.out;omega
              have HB06:=Lib.hid hb06
              have HO6:=Lib.hid ho6
              clear hH hk2 hk3 hd6 hlt10 hP6 ho4 ho4' ho5 hg5 hg6 hb34 hb35 hb4 ho6 hb06 k1 k2 k3 k4 k5 k6 k7 k8
              go_wp2_with (first
               | (at_builtin;refine wpList_app _ rfl _ _ _ _ rfl w3.heap.size 5 i0 (.int .u8 0) 1 Try.underlying22 hi hz0 hz1 hz2 rfl (Nat.le_refl _) _ _ ho8 rfl DL (bc (dataR p.r)) (hd8.src Try.underlying22 (bc_one _)) (by simp;omega) hs38 ?_
                  intro v9 w9 ho9 hg9 hs9
                  rw [←bc_app] at ho9)
               | (go_at_call 48
                  refine (ftwo_at v6 P6 w3.heap.size DL w7 ho7 hdl16 hs37 (by omega)).mono ?_
                  rintro e w8 ⟨v8,rfl,ho8,hg8⟩
                  have hd8:Rd w8 w8.heap.size Ad DL (bc (dataR p.r)):=hd7.grA hg8 (fun h0 a ha h1=>by
                   have h2:=ho7.lt _ h1
                   have h3:=(HADR.out h0 a ha).1
                   omega)
                  have hs38:w3.heap.size≤w8.heap.size:=Nat.le_trans hs37 hg8.1.size)
               | (at_builtin;refine wpList_app _ rfl _ _ _ _ rfl W2.heap.size 3 j0 (.int .i64 0) 8 Try.underlying78 hj' hy0 hy1 hy2 rfl (by omega) _ _ (hOk6.out.alloc _) rfl 1 [.int .i64 (L:Int)] (lit_src Try.underlying78 _ _ 1 rfl (by simp [maxLen]) (by simp;rfl)) (by have:=HSK.out;simp [ic,this];omega) (by simp;omega) ?_
                  intro v7 w7 ho10 hg7 hs7
                  rw [←HIC.out] at ho10
                  obtain ⟨A7,c7,rfl,hc7,_⟩:=Ow.form7 ho10 (K+1) (by simp [ic,HK3.out])
                  have ho7:Ow w7 w3.heap.size 5 v6 (bc P6):=(HO6.out.alloc _).kept hg7 (fun g h1 h2=>by
                   have e1:=HO6.out.lt g h1
                   have e2:=(H10.out g h2).1
                   omega)
                  have hd7:Rd w7 w7.heap.size Ad DL (bc (dataR p.r)):=((HD6.out.below (below_new w6 _)).more (below_new w6 _).size).grA hg7 (fun h0 a ha h1=>by
                   have h2:=H10.out _ h1
                   rcases (HADR.out h0 a ha).2 with h3 | h3 <;> omega)
                  have hs37:w3.heap.size≤w7.heap.size:=Nat.le_trans hs6 (Nat.le_trans (below_new w6 _).size hg7.1.size)))
              obtain ⟨L9,hL9⟩:∃ L9,L9=(P6++two DL++dataR p.r).length:=⟨_,rfl⟩
              have hL9b:L9≤10000:=by
               rw [hL9]
               have h1:=HDL.out
               simp only [List.length_append,two_length]
               omega
              obtain ⟨A9,c9,rfl,hc9,_⟩:=Ow.form7 ho9 L9 (by rw [bc_length,hL9])
              have hrec:(recB s p.r).1=P6++two DL++dataR p.r:=by
               rw [HP6.out,HPP.out,HQ.out,HRr.out,←HDL.out]
               simp [recB,twos]
              have h78:∀ g,(Value.slice A7 (K+1) c7).ownBlock=some g→v6.ownBlock≠some g:=fun g h1 h2=>by
               have e1:=ow_block_lt HO6.out g h2
               have e2:=HO6.out.lt g h2
               rcases hg7.2 g h1 with e3 | e3
               ·have:=(H10.out g e3).1
                omega
               ·have e4:=(below_new w6 (.cells #[.int .i64 (L:Int)] 3)).size
                omega
              have h79:∀ g,(Value.slice A7 (K+1) c7).ownBlock=some g→v8.ownBlock≠some g:=fun g h1 h2=>by
               have e1:=ow_block_lt ho10 g h1
               rcases hg8.2 g h2 with e3 | e3
               ·exact h78 g h1 e3
               ·omega
              have hbb7:W2.heap.size≤w7.heap.size:=by omega
              have hbb8:W2.heap.size≤w8.heap.size:=by omega
              have hbfin:Below W2.heap.size wr w9:=(HB06.out.mono hsz).trans (((below_new w6 _).mono (by omega)).trans ((hg7.below (fun g hg=>(H10.out g hg).2) (by simp;omega)).trans ((hg8.below (fun g hg=>Nat.le_trans hbase3 (ho7.lt g hg)) hbb7).trans (hg9.below (fun g hg=>Nat.le_trans hbase3 (ho8.lt g hg)) hbb8))))
              go_roundw
              case rel=>
               refine ⟨k+1,recB s p.r,L9,K+1,A9,A7,c9,c7,by omega,by go_num,rfl,rfl,hc9,hL9b,by omega,Lib.hid (by have:=HKC.out;omega),Lib.hid (by rw [hrec,hL9]),Lib.hid HK3.out,Lib.hid ?_,Lib.hid ((ho10.kept hg8 h78).kept hg9 h79),Lib.hid (Or.inl HQT.out.symm),Lib.hid (HB.out.trans hbfin)⟩
               rw [hrec]
               exact ho9.mono hbase3
              case measure=>simp [intOf];omega
            ·have hkn:cn=k:=by omega
             have hge':(cn:Int)≤(k:Int):=by omega
             go_wp2_with fail
             go_roundw
             case rel=>
              refine ⟨i+1,s,L,K,A1,A2,c1,c2,by omega,by go_num,rfl,rfl,hLc,hL1,hK1,Lib.hid (by have h1:=HKC.out;have h2:=HCT.out;omega),HSL,HSK,HOb,HOk,Lib.hid ?_,HB⟩
              have h:=HCU.out
              rw [←hkn,←HCN.out,←List.length_map (f:=RR.r),List.take_length] at h
              exact h
             case measure=>simp [intOf];omega
          ·have hi3':i=3:=by omega
           have hge':(3:Int)≤(i:Int):=by omega
           have hcu:=HCU.out
           rw [hi3',stW_body] at hcu
           have HCU2:=Lib.hid hcu
           clear hcu hi3' HCU HKC
           rcases Nat.lt_or_ge 4096 L with hlong | hshort
           ·have hlong':(4096:Int)<(L:Int):=by omega
            have hr1:rr=([],3):=by
             have hf:4096<(formM x.m).length:=by
              rcases HCU2.out with h | h
              ·show 4096<(bodyB x.m).1.length
               rw [←h,HSL.out];exact hlong
              ·exact h.2
             rw [HRR.out];unfold writeM
             rw [if_neg (by rw [HR.out];simp),if_neg (by rw [←HNN.out];omega),if_pos hf]
            subst hr1
            go_wp2_with fail
            go_ret2
            exact ⟨_,rfl,Ow.nil _ _ _,HFIN.out _ HB.out⟩
           ·have hshort':(L:Int)≤4096:=by omega
            have hex:s=bodyB x.m:=by
             rcases HCU2.out with h | h
             ·exact h
             ·have:=HSL.out;omega
            have hr1:rr=(s.1,0):=by
             rw [HRR.out];unfold writeM
             have hf:formM x.m=s.1:=by rw [hex];rfl
             rw [if_neg (by rw [HR.out];simp),if_neg (by rw [←HNN.out];omega),if_neg (by rw [hf,HSL.out];omega),hf]
            clear hex
            subst hr1
            go_wp2_with fail
            go_ret2
            exact ⟨_,rfl,HOb.out.mono (by omega),HFIN.out _ HB.out⟩
def ansP (n:List (List UInt8)) (ty:Nat) (r:Rc):Bool:=decide (r.q.ty=ty) && (decide (r.q.cl=1) && decide (r.q.nm=n))
theorem ans_take (l:List RR) (n:List (List UInt8)) (ty k:Nat) (h:k<l.length):((l.take (k+1)).map RR.r).filter (ansP n ty)=((l.take k).map RR.r).filter (ansP n ty)++(if ansP n ty l[k].r=true then [l[k].r] else []):=by
 rw [take_map_snoc RR.r l k h,List.filter_append]
 congr 1
 simp only [List.filter_cons,List.filter_nil]
set_option maxRecDepth 100000 in
set_option maxHeartbeats 16000000 in
theorem fanswers_at (x:MR) (A0:Option Addr) (c0 n0:Nat) (nm:List (List UInt8)) (ty:Nat) (w:World) (h:MRd w w.heap.size x) (hn0:nm.length=n0) (hnm:NRd w w.heap.size A0 c0 nm) (hty:ty<65536) :
 Calls Try.prog 29 #[.agg x.cells.toArray,.slice A0 n0 c0,.int .u16 (ty:Int)] w fun e w'=>∃ (l:List RR) (A':Option Addr) (c':Nat),e = .returned (.slice A' l.length c')∧l.map RR.r=answersM x.m nm ty∧RsRd w' w'.heap.size A' c' l.length l∧Below w.heap.size w w':=by
 obtain ⟨j0,hj',hy0,hy1,hy2⟩:=info_parts Try.infoRf
 obtain ⟨n,hn⟩:∃ n,n=x.r0.length:=⟨_,rfl⟩
 have hnb:n≤1000000000000:=by rw [hn];exact h.2.2.2.1.2.2.2.1
 have HN:=Lib.hid hn.symm
 have hxc:x.cells[3]? = some (.slice x.aA n x.ac):=by rw [hn];rfl
 have HX:=Lib.hid h
 have HNM:=Lib.hid hnm
 have HN0:=Lib.hid hn0
 obtain ⟨W1,hW1⟩:∃ W1,W1=w.alloc (.cells x.cells.toArray 60):=⟨_,rfl⟩
 have hv1:Vx W1 w.heap.size 60 x.cells:=by rw [hW1];exact Vx.new _ _ _
 have hb01:Below w.heap.size w W1:=by rw [hW1];exact below_new _ _
 have VX:=Lib.hid hv1
 have HB01:=Lib.hid hb01
 have HW1:=Lib.hid hW1
 have hT:w.heap.size<W1.heap.size:=hv1.lt
 clear h hnm hn hW1 hv1 hb01 hn0
 go_enter Try.func29,Try.ntmps29
 go_upto_region 1 with fail
 generalize hW2:World.alloc w _=W2
 have eW:W2=W1:=hW2.symm.trans HW1.out.symm
 clear hW2 HW1
 subst eW
 go_wp2_with fail
 go_loopw [7,8] (fun v7 vi wr=>∃ (k L:Nat) (l:List RR) (A:Option Addr) (c:Nat),k≤n∧vi = .int .i64 k∧v7 = .slice A L c∧L≤k∧Hid (l.length=L)∧Hid (l.map RR.r=((x.r0.take k).map RR.r).filter (ansP nm ty))∧Hid (OwM wr W2.heap.size 74 9 (.slice A L c) L (rcs l))∧Hid (∀ y∈l,RRd w w.heap.size y)∧Hid (Below W2.heap.size W2 wr)) (fun _ vi _=>n - (intOf vi).toNat)
 case atStart=>exact ⟨0,0,[],none,0,Nat.zero_le _,rfl,rfl,Nat.le_refl _,Lib.hid rfl,Lib.hid rfl,Lib.hid (OwM.nil _ _ _ _),Lib.hid (fun y hy=>by cases hy),Lib.hid (Below.refl _ _)⟩
 case round=>
  obtain ⟨k,L,l,A,c,hk,rfl,rfl,hLk,HL,HM,HO,HRs,HB⟩:=hrel
  have m3:wr.cell? ⟨w.heap.size,3,none⟩=some (.slice x.aA n x.ac):=((VX.out.below HB.out hT).cell 3).trans hxc
  have hb0r:=HB01.out.trans (HB.out.mono HB01.out.size)
  rcases Nat.lt_or_ge k n with hlt | hge
  ·have hlx:k<x.r0.length:=by have:=HN.out;omega
   have hQ1:RsRd wr w.heap.size x.aA x.ac n x.r0:=by rw [←HN.out];exact HX.out.2.2.2.1.below hb0r
   obtain ⟨b,o,hA1,hb1,hc⟩:=hQ1.at_ hlt
   have hnine:=(hc hlx).cells
   have hp:=hQ1.2.2.2.2 _ (List.getElem_mem hlx)
   have hp0:RRd w w.heap.size x.r0[k]:=HX.out.2.2.2.1.2.2.2.2 _ (List.getElem_mem hlx)
   have htk:=ans_take x.r0 nm ty k hlx
   generalize x.r0[k]=p at *
   obtain ⟨d0,d1,d2,d3,d4,d5,d6,d7,d8⟩:=hnine
   rw [hA1] at m3
   have hsz:=HB.out.size
   have hb1':b<wr.heap.size:=by omega
   have hlt':(k:Int)<(n:Int):=by omega
   obtain ⟨b1,hb1q⟩:∃ b,b=decide (p.r.q.ty=ty):=⟨_,rfl⟩
   obtain ⟨b2,hb2q⟩:∃ b,b=decide (p.r.q.cl=1):=⟨_,rfl⟩
   obtain ⟨b3,hb3q⟩:∃ b,b=decide (p.r.q.nm=nm):=⟨_,rfl⟩
   have hP:ansP nm ty p.r=(b1 && (b2 && b3)):=by rw [hb1q,hb2q,hb3q];rfl
   have e1:((p.r.q.ty:Int) == (ty:Int))=b1:=by rw [hb1q,Bool.eq_iff_iff,beq_iff_eq,decide_eq_true_iff];omega
   have e2:((p.r.q.cl:Int) == 1)=b2:=by rw [hb2q,Bool.eq_iff_iff,beq_iff_eq,decide_eq_true_iff];omega
   have K3:=Lib.hid (fun (w2:World) (hb:Below wr.heap.size wr w2)=>(show Calls Try.prog 44 #[.slice p.A p.r.q.nm.length p.c,.slice A0 n0 c0] w2 fun e w'=>e = .returned (.bool b3)∧∃ q,w'=w2.drewN q by
    rw [hb3q]
    have hb0:=hb0r.trans (hb.mono (show w.heap.size≤wr.heap.size by omega))
    exact names_at _ _ _ _ _ _ _ _ w2 w2.heap.size rfl HN0.out ((hp0.1.1.below hb0).more hb0.size) ((HNM.out.below hb0).more hb0.size)))
   have HTK:=Lib.hid htk
   have HPP:=Lib.hid hP
   have HP0:=Lib.hid hp0
   have HB0r:=Lib.hid hb0r
   have hv9:=Vx.new wr 74 [.slice p.A p.r.q.nm.length p.c,.int .u16 (p.r.q.ty:Int),.int .u16 (p.r.q.cl:Int),.int .u32 (p.r.ttl:Int),.slice p.dA p.r.d.length p.dc,.int .u16 (p.r.pr:Int),.int .u16 (p.r.we:Int),.int .u16 (p.r.po:Int),.slice p.tA p.r.tg.length p.tc]
   have hbA:=below_new wr (.cells #[.slice p.A p.r.q.nm.length p.c,.int .u16 (p.r.q.ty:Int),.int .u16 (p.r.q.cl:Int),.int .u32 (p.r.ttl:Int),.slice p.dA p.r.d.length p.dc,.int .u16 (p.r.pr:Int),.int .u16 (p.r.we:Int),.int .u16 (p.r.po:Int),.slice p.tA p.r.tg.length p.tc] 74)
   obtain ⟨e_0,e_1,e_2,e_3,e_4,e_5,e_6,e_7,e_8⟩:=hv9.c9
   clear hc hb1 hQ1 hA1 hp hp0 htk hb1q hb2q hb3q hP hb0r
   go_wp2_with (first
    | (go_at_call 44
       refine (K3.out _ hbA).mono ?_
       rintro e w3 ⟨rfl,q,hw3⟩
       have hb3:Below wr.heap.size wr w3:=by rw [hw3];exact bl_drewN hbA q
       have hv3:Vx w3 wr.heap.size 74 [.slice p.A p.r.q.nm.length p.c,.int .u16 (p.r.q.ty:Int),.int .u16 (p.r.q.cl:Int),.int .u32 (p.r.ttl:Int),.slice p.dA p.r.d.length p.dc,.int .u16 (p.r.pr:Int),.int .u16 (p.r.we:Int),.int .u16 (p.r.po:Int),.slice p.tA p.r.tg.length p.tc]:=by rw [hw3];exact hv9.drewN q
       have hsz3:wr.heap.size≤w3.heap.size:=hb3.size
       clear hw3)
    | (refine wpList_load_row rfl 74 _ rfl wr.heap.size rfl _ _ _ _ hv3 Try.underlying74 rfl (by kernel_rfl) ?_)
    | (at_builtin;refine wpList_appM _ rfl _ _ _ _ rfl W2.heap.size 9 74 j0 _ 96 Try.underlying57 hj' hy0 hy1 hy2 rfl (by omega) (.slice A L c) L (rcs l) ((HO.out.far hb3).alloc _) rfl 1 (RR.cells p) (litM_src Try.underlying57 _ 9 _ 1 rfl (rcells_one p)) (by omega) (by simp;omega) ?_
       intro v5 w5 hown5 hgr5 hsz5
       obtain ⟨A5,c5,rfl,hc5,_,_⟩:=hown5.form))
   ·have hbn:b3=true:=by assumption
    have h1:b1=true:=by assumption
    have h2:b2=true:=by assumption
    have hyes:ansP nm ty p.r=true:=by rw [HPP.out,hbn,h1,h2];rfl
    have hbl5:Below W2.heap.size wr w5:=(hb3.mono hsz).trans (((below_new w3 _).mono (by omega)).trans (hgr5.below (OwM.lt HO.out) (by simp;omega)))
    go_roundw
    case rel=>
     refine ⟨k+1,L+1,l++[p],A5,c5,by omega,by go_num,rfl,by omega,Lib.hid (by simp [HL.out]),Lib.hid ?_,Lib.hid ?_,Lib.hid ?_,Lib.hid (HB.out.trans hbl5)⟩
     ·rw [HTK.out,if_pos hyes,List.map_append,HM.out];rfl
     ·rw [rcs_snoc];exact hown5
     ·intro y hy
      rcases List.mem_append.1 hy with hy | hy
      ·exact HRs.out y hy
      ·simp at hy;subst hy;exact HP0.out
    case measure=>simp [intOf];omega
   all_goals
    have hno:ansP nm ty p.r=false:=by
     rw [HPP.out]
     first
      | (have h1:b3=false:=by assumption
         simp [h1])
      | (have h1:¬ b2=true:=by assumption
         simp [h1])
      | (have h1:¬ b1=true:=by assumption
         simp [h1])
    go_roundw
    case rel=>
     refine ⟨k+1,L,l,A,c,by omega,by go_num,rfl,by omega,HL,Lib.hid (by rw [HTK.out,if_neg (by rw [hno];simp),List.append_nil];exact HM.out),Lib.hid ?_,HRs,Lib.hid ?_⟩
     ·first | exact HO.out.far hb3 | exact HO.out.far hbA
     ·first | exact HB.out.trans (hb3.mono hsz) | exact HB.out.trans (hbA.mono hsz)
    case measure=>simp [intOf];omega
  ·have hkn:n=k:=by omega
   have hge':(n:Int)≤(k:Int):=by omega
   go_wp2_with fail
   go_ret
   have hl:=HL.out
   refine ⟨l,A,c,by rw [hl];rfl,?_,?_,hb0r⟩
   ·rw [HM.out,←hkn,←HN.out,List.take_length];rfl
   ·have h1:=HO.out
    rw [←hl] at h1
    exact ⟨OwM.rd h1,rfl,OwM.cap h1,by omega,fun y hy=>((HRs.out y hy).below hb0r).more hb0r.size⟩
end Go.Proofs.Ytlipmlbijddopaa
set_option linter.unusedVariables false
set_option linter.unusedSimpArgs false
namespace Go.Proofs.Ytlipmlbijddopaa
open Go.RowKit
def litP (x:List UInt8):Bool:=decide (100<(x.length:Int))
theorem any_takeL {α:Type} (p:α→Bool) (l:List α) (k:Nat) (h:k<l.length):(l.take (k+1)).any p=((l.take k).any p || p l[k]):=by
 rw [List.take_succ_eq_append_getElem h,List.any_append];simp
def lnB (n:List (List UInt8)):Bool:=decide (n.length≤12) && !(n.any litP)
theorem lnB_small {n:List (List UInt8)} (h:lnB n=true):n.length≤12∧∀ s∈n,s.length≤100:=by
 unfold lnB at h
 simp only [Bool.and_eq_true,decide_eq_true_iff,Bool.not_eq_true',List.any_eq_false,litP] at h
 exact ⟨h.1,fun s hs=>by have:=h.2 s hs;simp at this;omega⟩
def QR0 (w:World) (B:Nat) (x:QR):Prop:=NR0 w B x.A x.c x.q.nm∧x.q.ty<65536∧x.q.cl<65536
def RR0 (w:World) (B:Nat) (x:RR):Prop:=QR0 w B x.qr∧DRd w B x.dA x.dc x.r.d∧NR0 w B x.tA x.tc x.r.tg∧x.r.ttl<4294967296∧x.r.pr<65536∧x.r.we<65536∧x.r.po<65536
def QsR0 (w:World) (B:Nat) (A:Option Addr) (c n:Nat) (l:List QR):Prop:=Rd w B A (n*3) (qcs l)∧l.length=n∧n≤c∧n≤5000000000000∧∀ x∈l,QR0 w B x
def RsR0 (w:World) (B:Nat) (A:Option Addr) (c n:Nat) (l:List RR):Prop:=Rd w B A (n*9) (rcs l)∧l.length=n∧n≤c∧n≤5000000000000∧∀ x∈l,RR0 w B x
def M0 (w:World) (B:Nat) (x:MR):Prop:=x.id<65536∧x.fl<65536∧QsR0 w B x.qA x.qc x.qs.length x.qs∧RsR0 w B x.aA x.ac x.r0.length x.r0∧RsR0 w B x.bA x.bc x.r1.length x.r1∧RsR0 w B x.cA x.cc x.r2.length x.r2
section
variable {w w':World} {B B':Nat}
theorem NR0.below {A:Option Addr} {c:Nat} {n:List (List UInt8)} (h:NR0 w B A c n) (hb:Below B w w'):NR0 w' B A c n:=⟨h.1.below hb,h.2⟩
theorem NR0.more {A:Option Addr} {c:Nat} {n:List (List UInt8)} (h:NR0 w B A c n) (hb:B≤B'):NR0 w B' A c n:=⟨h.1.more hb,h.2⟩
theorem QR0.below {x:QR} (h:QR0 w B x) (hb:Below B w w'):QR0 w' B x:=⟨h.1.below hb,h.2⟩
theorem QR0.more {x:QR} (h:QR0 w B x) (hb:B≤B'):QR0 w B' x:=⟨h.1.more hb,h.2⟩
theorem RR0.below {x:RR} (h:RR0 w B x) (hb:Below B w w'):RR0 w' B x:=⟨h.1.below hb,h.2.1.below hb,h.2.2.1.below hb,h.2.2.2⟩
theorem RR0.more {x:RR} (h:RR0 w B x) (hb:B≤B'):RR0 w B' x:=⟨h.1.more hb,h.2.1.more hb,h.2.2.1.more hb,h.2.2.2⟩
theorem QsR0.below {A:Option Addr} {c n:Nat} {l:List QR} (h:QsR0 w B A c n l) (hb:Below B w w'):QsR0 w' B A c n l:=⟨h.1.below hb,h.2.1,h.2.2.1,h.2.2.2.1,fun x hx=>(h.2.2.2.2 x hx).below hb⟩
theorem QsR0.more {A:Option Addr} {c n:Nat} {l:List QR} (h:QsR0 w B A c n l) (hb:B≤B'):QsR0 w B' A c n l:=⟨h.1.more hb,h.2.1,h.2.2.1,h.2.2.2.1,fun x hx=>(h.2.2.2.2 x hx).more hb⟩
theorem RsR0.below {A:Option Addr} {c n:Nat} {l:List RR} (h:RsR0 w B A c n l) (hb:Below B w w'):RsR0 w' B A c n l:=⟨h.1.below hb,h.2.1,h.2.2.1,h.2.2.2.1,fun x hx=>(h.2.2.2.2 x hx).below hb⟩
theorem RsR0.more {A:Option Addr} {c n:Nat} {l:List RR} (h:RsR0 w B A c n l) (hb:B≤B'):RsR0 w B' A c n l:=⟨h.1.more hb,h.2.1,h.2.2.1,h.2.2.2.1,fun x hx=>(h.2.2.2.2 x hx).more hb⟩
theorem M0.below {x:MR} (h:M0 w B x) (hb:Below B w w'):M0 w' B x:=⟨h.1,h.2.1,h.2.2.1.below hb,h.2.2.2.1.below hb,h.2.2.2.2.1.below hb,h.2.2.2.2.2.below hb⟩
theorem M0.more {x:MR} (h:M0 w B x) (hb:B≤B'):M0 w B' x:=⟨h.1,h.2.1,h.2.2.1.more hb,h.2.2.2.1.more hb,h.2.2.2.2.1.more hb,h.2.2.2.2.2.more hb⟩
theorem M0.rl {x:MR} (h:M0 w B x) (i:Nat):RsR0 w B (x.rA i) (x.rc i) (x.rl i).length (x.rl i):=by
 match i with
 | 0=>exact h.2.2.2.1
 | 1=>exact h.2.2.2.2.1
 | k+2=>exact h.2.2.2.2.2
theorem QsR0.at_ {A:Option Addr} {c n:Nat} {l:List QR} (h:QsR0 w B A c n l) {k:Nat} (hk:k<n):∃ b o,A=some ⟨b,o,none⟩∧b<B∧∀ hk:k<l.length,(w.cell? ⟨b,o+k*3,none⟩=some (.slice l[k].A l[k].q.nm.length l[k].c)∧w.cell? ⟨b,o+k*3+1,none⟩=some (.int .u16 (l[k].q.ty:Int))∧w.cell? ⟨b,o+k*3+2,none⟩=some (.int .u16 (l[k].q.cl:Int))):=by
 obtain ⟨b,o,hA,hb,hc⟩:=h.1.2 (by omega)
 refine ⟨b,o,hA,hb,fun hl=>⟨?_,?_,?_⟩⟩
 ·exact hc (k*3) _ ((qcs_get l k 0 hl (by omega)).trans rfl)
 ·exact hc (k*3+1) _ ((qcs_get l k 1 hl (by omega)).trans rfl)
 ·exact hc (k*3+2) _ ((qcs_get l k 2 hl (by omega)).trans rfl)
theorem RsR0.at_ {A:Option Addr} {c n:Nat} {l:List RR} (h:RsR0 w B A c n l) {k:Nat} (hk:k<n):∃ b o,A=some ⟨b,o,none⟩∧b<B∧∀ hk:k<l.length,Nine w b (o+k*9) l[k]:=by
 obtain ⟨b,o,hA,hb,hc⟩:=h.1.2 (by omega)
 refine ⟨b,o,hA,hb,fun hl j u hu=>?_⟩
 have hj:j<9:=by
  rcases Nat.lt_or_ge j 9 with h1 | h1
  ·exact h1
  ·rw [List.getElem?_eq_none (by simpa using h1)] at hu;cases hu
 rw [Nat.add_assoc]
 exact hc _ u ((rcs_get l k j hl hj).trans hu)
end
def Lit (x:MR):Prop:=cntM x 3≤20∧(∀ q∈x.qs,lnB q.q.nm=true)∧∀ i,i<3→∀ r∈x.rl i,lnB r.r.q.nm=true∧lnB r.r.tg=true∧r.r.d.length≤300
theorem size_small {n:List (List UInt8)} (h:∀ s∈n,s.length≤100):sizeN n≤1+n.length*101:=by
 induction n with
 | nil=>simp [sizeN]
 | cons a n ih=>
   have h1:=ih (fun s hs=>h s (List.mem_cons_of_mem _ hs))
   have h2:=h a List.mem_cons_self
   simp only [sizeN,List.length_cons]
   omega
theorem lnB_nrd {w:World} {B:Nat} {A:Option Addr} {c:Nat} {n:List (List UInt8)} (h:NR0 w B A c n) (hl:lnB n=true):NRd w B A c n:=by
 obtain ⟨h1,h2⟩:=lnB_small hl
 have h3:=size_small h2
 exact ⟨h.1,h.2.1,by omega⟩
theorem Lit.mrd {w:World} {B:Nat} {x:MR} (h:M0 w B x) (hl:Lit x):MRd w B x:=by
 have hc:x.qs.length+x.r0.length+x.r1.length+x.r2.length≤20:=hl.1
 have hq:∀ q∈x.qs,QRd w B q:=fun q hq=>⟨lnB_nrd (h.2.2.1.2.2.2.2 q hq).1 (hl.2.1 q hq),(h.2.2.1.2.2.2.2 q hq).2⟩
 have hr:∀ i,i<3→∀ r∈x.rl i,RRd w B r:=fun i hi r hr=>by
  have h1:=(h.rl i).2.2.2.2 r hr
  have h2:=hl.2.2 i hi r hr
  exact ⟨⟨lnB_nrd h1.1.1 h2.1,h1.1.2⟩,h1.2.1,lnB_nrd h1.2.2.1 h2.2.1,h1.2.2.2⟩
 refine ⟨h.1,h.2.1,⟨h.2.2.1.1,rfl,h.2.2.1.2.2.1,by omega,hq⟩,⟨h.2.2.2.1.1,rfl,h.2.2.2.1.2.2.1,by omega,hr 0 (by omega)⟩,⟨h.2.2.2.2.1.1,rfl,h.2.2.2.2.1.2.2.1,by omega,hr 1 (by omega)⟩,⟨h.2.2.2.2.2.1,rfl,h.2.2.2.2.2.2.2.1,by omega,hr 2 (by omega)⟩⟩
theorem Lit.cpy {x:MR} (hl:Lit x):Cpy x:=by
 refine ⟨fun q hq=>by have:=(lnB_small (hl.2.1 q hq)).1;omega,fun i r hr=>?_⟩
 have h1:∃ j,j<3∧r∈x.rl j:=by
  match i,hr with
  | 0,hr=>exact ⟨0,by omega,hr⟩
  | 1,hr=>exact ⟨1,by omega,hr⟩
  | k+2,hr=>exact ⟨2,by omega,hr⟩
 obtain ⟨j,hj,hr2⟩:=h1
 have h2:=hl.2.2 j hj r hr2
 have h3:=(lnB_small h2.1).1
 have h4:=(lnB_small h2.2.1).1
 omega
theorem run_slM_l {P:Program} (W:World) (t e:TypeId) (s:Nat) (ht:P.underlying t=some (.slice e)) (hz:∀ w,(Go.sizeOf e).run P w = .ok s w) (A:Option Addr) (n cap:Nat) (h:Nat) (h2:h≤cap):(Instr.slice t (.slice A n cap) none (some (.int .i64 (h:Int))) none).run P W = .ok (.slice A h cap) W:=by
 have ht':P.underlying t=some (.slice (P.elem t)):=by simp [Program.elem,ht]
 have he:P.elem t=e:=by simp [Program.elem,ht]
 rw [run_slice_h W t _ _ _ ht' .i64 _ (by omega) (by omega),he,hz]
 have:=cutA_zero A cap
 unfold cutA at this
 simp [Result.andThen,sliced,this]
theorem szQn (w:World):(Go.sizeOf 38).run Try.prog w = .ok 3 w:=by kernel_rfl
theorem szRc (w:World):(Go.sizeOf 41).run Try.prog w = .ok 9 w:=by kernel_rfl
theorem MOwF.rdL {w w0:World} {base B:Nat} {X x:MR} (h:MOwF w base X) (hx:MRd w0 B x) (hm:X.m=x.m):MRd w w.heap.size X:=by
 have hid:X.id=x.id:=congrArg Ms.id hm
 have hfl:X.fl=x.fl:=congrArg Ms.fl hm
 have hq:X.qs.map QR.q=x.qs.map QR.q:=congrArg Ms.qs hm
 have h0:X.r0.map RR.r=x.r0.map RR.r:=congrArg Ms.r0 hm
 have h1:X.r1.map RR.r=x.r1.map RR.r:=congrArg Ms.r1 hm
 have h2:X.r2.map RR.r=x.r2.map RR.r:=congrArg Ms.r2 hm
 have Q:∀ (A:Option Addr) (c:Nat) (l:List QR) (A':Option Addr) (c' n':Nat) (l':List QR),(rwQf A c l).ok w base→(∀ o,DQ l o→o.ok w base)→QsRd w0 B A' c' n' l'→l.map QR.q=l'.map QR.q→QsRd w w.heap.size A c l.length l:=by
  intro A c l A' c' n' l' h1 h2 h3 h4
  have hl:l.length=l'.length:=by simpa using congrArg List.length h4
  have h5:OwM w base 70 3 (.slice A l.length c) l.length (qcs l):=h1
  refine ⟨h5.rd,rfl,h5.cap,by rw [hl,h3.2.1];exact h3.2.2.2.1,fun y hy=>?_⟩
  have hm:y.q∈l'.map QR.q:=by rw [←h4];exact List.mem_map.2 ⟨y,hy,rfl⟩
  obtain ⟨z,hz,e⟩:=List.mem_map.1 hm
  have h6:=h3.2.2.2.2 z hz
  exact ⟨nmO_rd (h2 _ ⟨y,hy,rfl⟩) (by rw [←e];exact h6.1.2.2),by rw [←e];exact h6.2.1,by rw [←e];exact h6.2.2⟩
 have R:∀ (A:Option Addr) (c:Nat) (l:List RR) (A':Option Addr) (c' n':Nat) (l':List RR),(rwRf A c l).ok w base→(∀ o,DR l o→o.ok w base)→RsRd w0 B A' c' n' l'→l.map RR.r=l'.map RR.r→RsRd w w.heap.size A c l.length l:=by
  intro A c l A' c' n' l' h1 h2 h3 h4
  have hl:l.length=l'.length:=by simpa using congrArg List.length h4
  have h5:OwM w base 74 9 (.slice A l.length c) l.length (rcs l):=h1
  refine ⟨h5.rd,rfl,h5.cap,by rw [hl,h3.2.1];exact h3.2.2.2.1,fun y hy=>?_⟩
  have hm:y.r∈l'.map RR.r:=by rw [←h4];exact List.mem_map.2 ⟨y,hy,rfl⟩
  obtain ⟨z,hz,e⟩:=List.mem_map.1 hm
  have h6:=h3.2.2.2.2 z hz
  refine ⟨⟨nmO_rd (h2 _ ⟨y,hy,Or.inl rfl⟩) (by show sizeN y.r.q.nm≤_;rw [←e];exact h6.1.1.2.2),?_,?_⟩,daO_rd (h2 _ ⟨y,hy,Or.inr (Or.inl rfl)⟩) (by rw [←e];exact h6.2.1.2.2),nmO_rd (h2 _ ⟨y,hy,Or.inr (Or.inr rfl)⟩) (by rw [←e];exact h6.2.2.1.2.2),?_⟩
  ·show y.r.q.ty<65536;rw [←e];exact h6.1.2.1
  ·show y.r.q.cl<65536;rw [←e];exact h6.1.2.2
  ·rw [←e];exact h6.2.2.2
 exact ⟨by rw [hid];exact hx.1,by rw [hfl];exact hx.2.1,Q _ _ _ _ _ _ _ h.q h.n hx.2.2.1 hq,R _ _ _ _ _ _ _ h.a h.r0 hx.2.2.2.1 h0,R _ _ _ _ _ _ _ h.b h.r1 hx.2.2.2.2.1 h1,R _ _ _ _ _ _ _ h.c h.r2 hx.2.2.2.2.2 h2⟩
theorem OwM.keep {w w':World} {base s n:Nat} {e:TypeId} {v:Value} {xs:List Value} (h:OwM w base e s v n xs) (hk:∀ q,base≤q→q<w.heap.size→w'.heap[q]? = w.heap[q]?):OwM w' base e s v n xs:=by
 obtain ⟨a,hb | ⟨g,cap,cur,h3,h4,h5,h6⟩⟩:=h
 ·exact ⟨a,Or.inl hb⟩
 ·exact ⟨a,Or.inr ⟨g,cap,cur,h3,h4,(hk g h4 (kp_lt h5)).trans h5,h6⟩⟩
theorem MOwF.keep {w w':World} {base:Nat} {X:MR} (h:MOwF w base X) (hk:∀ q,base≤q→q<w.heap.size→w'.heap[q]? = w.heap[q]?):MOwF w' base X:=
 ⟨OwM.keep h.q hk,OwM.keep h.a hk,OwM.keep h.b hk,OwM.keep h.c hk,fun o ho=>OwM.keep (h.n o ho) hk,fun o ho=>OwM.keep (h.r0 o ho) hk,fun o ho=>OwM.keep (h.r1 o ho) hk,fun o ho=>OwM.keep (h.r2 o ho) hk⟩
theorem boxes_fin {wk W:World} {base g9 g10:Nat} {Z:MR} (d9 d10:Array Value) (ho:MOwF wk base Z) (hb:Below wk.heap.size wk W) (h9:g9<base∨wk.heap.size≤g9) (h10:g10<base∨wk.heap.size≤g10):MOwF ((W.setRow g9 d9).setRow g10 d10) base Z:=
 ho.keep fun q h1 h2=>by rw [setRow_other _ g10 q d10 (by omega),setRow_other _ g9 q d9 (by omega)];exact hb.block q h2
theorem qmsg_rd (w5:World) (A0:Option Addr) (c0 n0 id ty:Nat) (nm:List (List UInt8)) (h:NRd w5 w5.heap.size A0 c0 nm) (hn0:nm.length=n0) (hid:id<65536) (hty:ty<65536) :
 MRd (w5.alloc (.cells #[.slice A0 n0 c0,.int .u16 (ty:Int),.int .u16 1] 70)) (w5.alloc (.cells #[.slice A0 n0 c0,.int .u16 (ty:Int),.int .u16 1] 70)).heap.size ⟨id,256,some ⟨w5.heap.size,0,none⟩,1,[⟨A0,c0,⟨nm,ty,1⟩⟩],none,0,[],none,0,[],none,0,[]⟩:=by
 subst hn0
 refine ⟨hid,by show 256<65536;omega,⟨Rd.lit_top0 w5 70 (qcs [⟨A0,c0,⟨nm,ty,1⟩⟩]) 3 rfl,rfl,Nat.le_refl 1,by show 1≤1000000000000;omega,fun z hz=>?_⟩,RsRd.nil _ _,RsRd.nil _ _,RsRd.nil _ _⟩
 simp only [List.mem_singleton] at hz
 subst hz
 exact ⟨(h.below (below_new w5 _)).more (below_new w5 _).size,hty,by show 1<65536;omega⟩
theorem Held.rA {wr w3 w4 w5:World} {base:Nat} {D:Ob→Prop} {l3:List RR} {x:RR} {v v5:Value} {n:Nat} {c:Nat} {xs:List Value} {B:Nat}
 (HH:Held wr base (fun o=>D o∨DR l3 o) v) (hO3:OwM wr base c 9 v n xs) (hb3:Below wr.heap.size wr w3) (hB:wr.heap.size≤B) (hn:(nmO x.A x.c x.r.q.nm).ok w3 B) (hd:(daO x.dA x.dc x.r.d).ok w3 B) (ht:(nmO x.tA x.tc x.r.tg).ok w3 B) (hb4:Below w3.heap.size w3 w4) (hle:base≤wr.heap.size) (hg:Gr w4 w5 v v5):Held w5 base (fun o=>D o∨DR (l3++[x]) o) v5:=by
 have h0:=HH.far hb3
 have h1:=h0.add (nmO x.A x.c x.r.q.nm) (OwM.mono hn (by omega)) (ne_new hO3 hn (by omega))
 have h2:=h1.add (daO x.dA x.dc x.r.d) (OwM.mono hd (by omega)) (ne_new hO3 hd (by omega))
 have h3:=h2.add (nmO x.tA x.tc x.r.tg) (OwM.mono ht (by omega)) (ne_new hO3 ht (by omega))
 have h4:=(h3.far hb4).gr hg
 refine h4.mono fun o ho=>?_
 rcases ho with ho | ⟨y,hy,e⟩
 ·exact Or.inr (Or.inr (Or.inr (Or.inl ho)))
 ·rcases List.mem_append.1 hy with hy | hy
  ·exact Or.inr (Or.inr (Or.inr (Or.inr ⟨y,hy,e⟩)))
  ·simp at hy
   subst hy
   rcases e with e | e | e
   ·exact Or.inr (Or.inr (Or.inl e))
   ·exact Or.inr (Or.inl e)
   ·exact Or.inl e
theorem same_rows {l m:List RR} (h:l.map RR.r=m.map RR.r):allEq (fun x y:RR=>sameR x.r y.r) l m=true:=by
 rw [allEq_map sameR RR.r,h]
 exact (allEq_all sameR _ _).2 ⟨rfl,fun i h1 h2=>(sameR_iff _ _).2 rfl⟩
theorem beq_same (A1 A2:Option Addr) (c1 c2 L:Nat) (l:List UInt8) (w:World) (hL:l.length=L) (h1:Rd w w.heap.size A1 L (bc l)) (h2:Rd w w.heap.size A2 L (bc l)) :
 Calls Try.prog 22 #[.slice A1 L c1,.slice A2 L c2] w fun e w'=>e = .returned (.bool true)∧w'=w:=by
 subst hL
 have:=beq_any A1 A2 c1 c2 l l w w.heap.size h1 h2
 rwa [decide_eq_true rfl] at this
set_option maxRecDepth 100000 in
set_option maxHeartbeats 16000000 in
theorem writes_at (x y:MR) (A0:Option Addr) (c0 n0:Nat) (nm:List (List UInt8)) (ty:Nat) (w:World) (hx:MRd w w.heap.size x) (hy:MRd w w.heap.size y) (cx:Cpy x) (cy:Cpy y) (hn0:nm.length=n0) (hnm:NRd w w.heap.size A0 c0 nm) (hty:ty<65536) :
 Calls Try.prog 9 #[.agg x.cells.toArray,.agg y.cells.toArray,.slice A0 n0 c0,.int .u16 (ty:Int)] w fun e w'=>e = .returned (.bool true)∧Below w.heap.size w w':=by
 have hb01:=below_two w (.cells x.cells.toArray 28) (.cells y.cells.toArray 28)
 have v4:Vx ((w.alloc (.cells x.cells.toArray 28)).alloc (.cells y.cells.toArray 28)) w.heap.size 28 x.cells:=(vx_two (Below.refl _ _)).1
 have v5:Vx ((w.alloc (.cells x.cells.toArray 28)).alloc (.cells y.cells.toArray 28)) (w.heap.size+1) 28 y.cells:=(vx_two (Below.refl _ _)).2
 obtain ⟨G5,hG5⟩:∃ G,G=w.heap.size+1:=⟨_,rfl⟩
 rw [←hG5] at v5
 have HX:=Lib.hid hx
 have HY:=Lib.hid hy
 have HNM:=Lib.hid hnm
 have HN0:=Lib.hid hn0
 have HG5:=Lib.hid hG5
 clear hx hy hnm hn0
 go_enter Try.func9,Try.ntmps9
 go_upto_region 1 with fail
 rw [←hG5]
 generalize (w.alloc (.cells x.cells.toArray 28)).alloc (.cells y.cells.toArray 28)=W2 at *
 have V4:=Lib.hid v4
 have V5:=Lib.hid v5
 have HB01:=Lib.hid hb01
 have hT4:w.heap.size<W2.heap.size:=v4.lt
 have hT5:G5<W2.heap.size:=v5.lt
 have hX2:∀ W,Below W2.heap.size W2 W→MRd W W.heap.size x∧MRd W W.heap.size y:=fun W hW=>by
  have h1:=hb01.trans (hW.mono hb01.size)
  exact ⟨(HX.out.below h1).more h1.size,(HY.out.below h1).more h1.size⟩
 have HXY:=Lib.hid hX2
 clear v4 v5 hb01 hG5 hX2
 go_cut [9,10] from 25 to 28 (fun v9 v10 wx=>∃ (g9 g10:Nat) (X Y:MR),v9 = .pointer (some ⟨g9,0,none⟩)∧v10 = .pointer (some ⟨g10,0,none⟩)∧Hid (Vx wx g9 60 X.cells)∧Hid (Vx wx g10 60 Y.cells)∧Hid (X.m=x.m)∧Hid (Y.m=y.m)∧Hid (MRd wx wx.heap.size X)∧Hid (MRd wx wx.heap.size Y)∧Hid (Below W2.heap.size W2 wx))
 case first=>
  refine wp_region_held_drew (S:=fun w'=>Vx w' w.heap.size 28 x.cells∧Vx w' G5 28 y.cells) (by kernel_rfl) ⟨V4.out,V5.out⟩ (fun hH=>?_)
  refine reg_load 0 rfl (by kernel_rfl) 28 _ (by rfl) w.heap.size 28 x.cells _ (fun _ _ _ h=>h) (by rfl) hH (by rfl) (fun w hS=>hS.1) Try.underlying28 (by rfl) (by kernel_rfl) ?_
  (try simp only [Act.put,List.setIfInBounds_toArray,List.set_cons_zero,List.set_cons_succ])
  refine reg_load 2 rfl (by kernel_rfl) 28 _ (by rfl) G5 28 y.cells _ (fun _ _ _ h=>h) (by rfl) hH (by rfl) (fun w hS=>hS.2) Try.underlying28 (by rfl) (by kernel_rfl) ?_
  (try simp only [Act.put,List.setIfInBounds_toArray,List.set_cons_zero,List.set_cons_succ])
  refine wpAnyH_ready (rs:=[1,4,5]) (by kernel_rfl) (by simp) ?_
  refine reg_cons _ rfl (fun K' hK=>?_) (reg_cons _ rfl (fun K' hK=>?_) (reg_cons _ rfl (fun K' hK=>?_) AllReadyH.nil))
  ·go_simp
   go_at_call 20
   refine (turned_at x W2.drew (HXY.out _ (Below.refl W2.heap.size W2).drew).1 cx).mono ?_
   rintro e w1 ⟨⟨idX,flX,qAX,qcX,qsX,aAX,acX,raX,bAX,bdX,rbX,cAX,ccX,rcX⟩,hmX,rfl,hoX,hb1'⟩
   unfold MR.cells
   dsimp only
   have hb1:Below W2.heap.size W2 w1:=((Below.refl W2.heap.size W2).drew).trans (hb1'.mono ((Below.refl W2.heap.size W2).drew).size)
   refine hK.out _ _ ⟨V4.out.below hb1 hT4,V5.out.below hb1 hT5⟩ (fun hH=>?_)
   (try simp only [Act.put,List.setIfInBounds_toArray,List.set_cons_zero,List.set_cons_succ])
   clear hK
   have hs1:W2.heap.size≤w1.heap.size:=hb1'.size
   have hoX:MOwF w1 W2.heap.size ⟨idX,flX,qAX,qcX,qsX,aAX,acX,raX,bAX,bdX,rbX,cAX,ccX,rcX⟩:=hoX
   have hf1:=Below.refl w1.heap.size w1
   refine wpAnyH_ready (rs:=[3,4,5]) (by kernel_rfl) (by simp) ?_
   refine reg_cons _ rfl (fun K' hK=>?_) (reg_cons _ rfl (fun K' hK=>?_) (reg_cons _ rfl (fun K' hK=>?_) AllReadyH.nil))
   ·go_simp
    go_at_call 20
    refine (turned_at y w1 (HXY.out _ hb1).2 cy).mono ?_
    rintro e w2 ⟨⟨idY,flY,qAY,qcY,qsY,aAY,acY,raY,bAY,bdY,rbY,cAY,ccY,rcY⟩,hmY,rfl,hoY,hb2'⟩
    unfold MR.cells
    dsimp only
    have hb2:Below W2.heap.size W2 w2:=(hb1).trans (hb2'.mono (hb1).size)
    refine hK.out _ _ ⟨V4.out.below hb2 hT4,V5.out.below hb2 hT5⟩ (fun hH=>?_)
    (try simp only [Act.put,List.setIfInBounds_toArray,List.set_cons_zero,List.set_cons_succ])
    clear hK
    have hs2:w1.heap.size≤w2.heap.size:=hb2'.size
    have hoY:MOwF w2 w1.heap.size ⟨idY,flY,qAY,qcY,qsY,aAY,acY,raY,bAY,bdY,rbY,cAY,ccY,rcY⟩:=hoY
    have hf2:=Below.refl w2.heap.size w2
    have hfX_2:=hf1.trans (hb2'.mono hf1.size)
    refine wpAnyH_ready (rs:=[4,5]) (by kernel_rfl) (by simp) ?_
    refine reg_cons _ rfl (fun K' hK=>?_) (reg_cons _ rfl (fun K' hK=>?_) AllReadyH.nil)
    ·go_simp
     generalize hgw3:World.alloc _ _=w3
     have ha3':Below w2.heap.size w2 w3:=by rw [←hgw3];exact below_new _ _
     have ha3:Below w2.heap.size w2 w3:=⟨ha3'.os,ha3'.tape,ha3'.output,ha3'.size,ha3'.block⟩
     have vn3:Vx w3 w2.heap.size 60 zM6:=by
      have h0:Vx w3 w2.heap.size 60 zM6:=by rw [←hgw3];exact Vx.new w2 _ _
      exact h0
     clear hgw3
     have hb3:Below W2.heap.size W2 w3:=(hb2).trans (ha3.mono (hb2).size)
     refine hK.out _ _ ⟨V4.out.below hb3 hT4,V5.out.below hb3 hT5⟩ (fun hH=>?_)
     (try simp only [Act.put,List.setIfInBounds_toArray,List.set_cons_zero,List.set_cons_succ])
     clear hK
     have hs3:w2.heap.size<w3.heap.size:=vn3.lt
     have hfX_3:=hfX_2.trans (ha3.mono hfX_2.size)
     have hgX_3:=hfX_2.size
     have hfY_3:=hf2.trans (ha3.mono hf2.size)
     have hgY_3:=hf2.size
     refine wpAnyH_ready (rs:=[5]) (by kernel_rfl) (by simp) ?_
     refine reg_cons _ rfl (fun K' hK=>?_) AllReadyH.nil
     go_simp
     generalize hgw4:World.alloc _ _=w4
     have ha4':Below w3.heap.size w3 w4:=by rw [←hgw4];exact below_new _ _
     have ha4:Below w3.heap.size w3 w4:=⟨ha4'.os,ha4'.tape,ha4'.output,ha4'.size,ha4'.block⟩
     have vn4:Vx w4 w3.heap.size 60 zM6:=by
      have h0:Vx w4 w3.heap.size 60 zM6:=by rw [←hgw4];exact Vx.new w3 _ _
      exact h0
     clear hgw4
     have hb4:Below W2.heap.size W2 w4:=(hb3).trans (ha4.mono (hb3).size)
     refine hK.out _ _ ⟨V4.out.below hb4 hT4,V5.out.below hb4 hT5⟩ (fun hH=>?_)
     (try simp only [Act.put,List.setIfInBounds_toArray,List.set_cons_zero,List.set_cons_succ])
     clear hK
     have v9_4:=vn3.below ha4 vn3.lt
     have hs4:w3.heap.size<w4.heap.size:=vn4.lt
     have hfX_4:=hfX_3.trans (ha4.mono hfX_3.size)
     have hgX_4:=hfX_3.size
     have hfY_4:=hfY_3.trans (ha4.mono hfY_3.size)
     have hgY_4:=hfY_3.size
     have hWB:W2.heap.size≤w4.heap.size:=(hb4).size
     have hne:w2.heap.size≠w3.heap.size:=by omega
     have hne2:w3.heap.size≠w2.heap.size:=by omega
     have hge9:W2.heap.size≤w2.heap.size:=by omega
     have hge10:W2.heap.size≤w3.heap.size:=by omega
     have fX:=boxes_fin #[.int .u16 (idX:Int),.int .u16 (flX:Int),.slice qAX qsX.length qcX,.slice aAX raX.length acX,.slice bAX rbX.length bdX,.slice cAX rcX.length ccX] #[.int .u16 (idY:Int),.int .u16 (flY:Int),.slice qAY qsY.length qcY,.slice aAY raY.length acY,.slice bAY rbY.length bdY,.slice cAY rcY.length ccY] hoX hfX_4 (show w2.heap.size<_∨_ by first | (left;omega) | (right;omega)) (show w3.heap.size<_∨_ by first | (left;omega) | (right;omega))
     have fY:=boxes_fin #[.int .u16 (idX:Int),.int .u16 (flX:Int),.slice qAX qsX.length qcX,.slice aAX raX.length acX,.slice bAX rbX.length bdX,.slice cAX rcX.length ccX] #[.int .u16 (idY:Int),.int .u16 (flY:Int),.slice qAY qsY.length qcY,.slice aAY raY.length acY,.slice bAY rbY.length bdY,.slice cAY rcY.length ccY] hoY hfY_4 (show w2.heap.size<_∨_ by first | (left;omega) | (right;omega)) (show w3.heap.size<_∨_ by first | (left;omega) | (right;omega))
     have hO9:=Only.row w4 (w2.heap.size) #[.int .u16 (idX:Int),.int .u16 (flX:Int),.slice qAX qsX.length qcX,.slice aAX raX.length acX,.slice bAX rbX.length bdX,.slice cAX rcX.length ccX]
     have hO10:=Only.row (w4.setRow (w2.heap.size) #[.int .u16 (idX:Int),.int .u16 (flX:Int),.slice qAX qsX.length qcX,.slice aAX raX.length acX,.slice bAX rbX.length bdX,.slice cAX rcX.length ccX]) (w3.heap.size) #[.int .u16 (idY:Int),.int .u16 (flY:Int),.slice qAY qsY.length qcY,.slice aAY raY.length acY,.slice bAY rbY.length bdY,.slice cAY rcY.length ccY]
     have hB9:Below W2.heap.size W2 (w4.setRow (w2.heap.size) #[.int .u16 (idX:Int),.int .u16 (flX:Int),.slice qAX qsX.length qcX,.slice aAX raX.length acX,.slice bAX rbX.length bdX,.slice cAX rcX.length ccX]):=(hb4).trans (hO9.below hge9 hWB)
     have hB10:Below W2.heap.size W2 ((w4.setRow (w2.heap.size) #[.int .u16 (idX:Int),.int .u16 (flX:Int),.slice qAX qsX.length qcX,.slice aAX raX.length acX,.slice bAX rbX.length bdX,.slice cAX rcX.length ccX]).setRow (w3.heap.size) #[.int .u16 (idY:Int),.int .u16 (flY:Int),.slice qAY qsY.length qcY,.slice aAY raY.length acY,.slice bAY rbY.length bdY,.slice cAY rcY.length ccY]):=hB9.trans (hO10.below hge10 hB9.size)
     have z9:Vx ((w4.setRow (w2.heap.size) #[.int .u16 (idX:Int),.int .u16 (flX:Int),.slice qAX qsX.length qcX,.slice aAX raX.length acX,.slice bAX rbX.length bdX,.slice cAX rcX.length ccX]).setRow (w3.heap.size) #[.int .u16 (idY:Int),.int .u16 (flY:Int),.slice qAY qsY.length qcY,.slice aAY raY.length acY,.slice bAY rbY.length bdY,.slice cAY rcY.length ccY]) (w2.heap.size) 60 (MR.cells ⟨idX,flX,qAX,qcX,qsX,aAX,acX,raX,bAX,bdX,rbX,cAX,ccX,rcX⟩):=(v9_4.row (MR.cells ⟨idX,flX,qAX,qcX,qsX,aAX,acX,raX,bAX,bdX,rbX,cAX,ccX,rcX⟩)).rowO hne _
     have z10:Vx ((w4.setRow (w2.heap.size) #[.int .u16 (idX:Int),.int .u16 (flX:Int),.slice qAX qsX.length qcX,.slice aAX raX.length acX,.slice bAX rbX.length bdX,.slice cAX rcX.length ccX]).setRow (w3.heap.size) #[.int .u16 (idY:Int),.int .u16 (flY:Int),.slice qAY qsY.length qcY,.slice aAY raY.length acY,.slice bAY rbY.length bdY,.slice cAY rcY.length ccY]) (w3.heap.size) 60 (MR.cells ⟨idY,flY,qAY,qcY,qsY,aAY,acY,raY,bAY,bdY,rbY,cAY,ccY,rcY⟩):=(vn4.rowO hne2 _).row (MR.cells ⟨idY,flY,qAY,qcY,qsY,aAY,acY,raY,bAY,bdY,rbY,cAY,ccY,rcY⟩)
     refine wpAnyH_ready (rs:=[6]) (by kernel_rfl) (by simp) ?_
     refine reg_cons _ rfl (fun K' hK=>?_) AllReadyH.nil
     rw [if_pos (by rfl)]
     refine wp_store_row 60 _ _ (by rfl) (w2.heap.size) #[.int .u16 (idX:Int),.int .u16 (flX:Int),.slice qAX qsX.length qcX,.slice aAX raX.length acX,.slice bAX rbX.length bdX,.slice cAX rcX.length ccX] (by rfl) (by rfl) _ _ v9_4 (by kernel_rfl) rfl (by kernel_rfl) ?_
     refine hK.out _ _ ⟨V4.out.below hB9 hT4,V5.out.below hB9 hT5⟩ (fun hH=>?_)
     (try simp only [Act.put,List.setIfInBounds_toArray,List.set_cons_zero,List.set_cons_succ])
     clear hK
     refine wpAnyH_ready (rs:=[7]) (by kernel_rfl) (by simp) ?_
     refine reg_cons _ rfl (fun K' hK=>?_) AllReadyH.nil
     rw [if_pos (by rfl)]
     refine wp_store_row 60 _ _ (by rfl) (w3.heap.size) #[.int .u16 (idY:Int),.int .u16 (flY:Int),.slice qAY qsY.length qcY,.slice aAY raY.length acY,.slice bAY rbY.length bdY,.slice cAY rcY.length ccY] (by rfl) (by rfl) _ _ (vn4.rowO hne2 _) (by kernel_rfl) rfl (by kernel_rfl) ?_
     refine hK.out _ _ ⟨V4.out.below hB10 hT4,V5.out.below hB10 hT5⟩ (fun hH=>?_)
     (try simp only [Act.put,List.setIfInBounds_toArray,List.set_cons_zero,List.set_cons_succ])
     clear hK
     refine wpAnyH_done (by kernel_rfl) ?_ _
     go_wp2_with fail
     try simp only [Act.put]
     go_meet
     exact ⟨w2.heap.size,w3.heap.size,⟨idX,flX,qAX,qcX,qsX,aAX,acX,raX,bAX,bdX,rbX,cAX,ccX,rcX⟩,⟨idY,flY,qAY,qcY,qsY,aAY,acY,raY,bAY,bdY,rbY,cAY,ccY,rcY⟩,rfl,rfl,Lib.hid z9,Lib.hid z10,Lib.hid hmX,Lib.hid hmY,Lib.hid (fX.rdL (HXY.out _ hB10).1 hmX),Lib.hid (fY.rdL (HXY.out _ hB10).2 hmY),Lib.hid hB10⟩
    ·go_simp
     generalize hgw5:World.alloc _ _=w5
     have ha5':Below w2.heap.size w2 w5:=by rw [←hgw5];exact below_new _ _
     have ha5:Below w2.heap.size w2 w5:=⟨ha5'.os,ha5'.tape,ha5'.output,ha5'.size,ha5'.block⟩
     have vn5:Vx w5 w2.heap.size 60 zM6:=by
      have h0:Vx w5 w2.heap.size 60 zM6:=by rw [←hgw5];exact Vx.new w2 _ _
      exact h0
     clear hgw5
     have hb5:Below W2.heap.size W2 w5:=(hb2).trans (ha5.mono (hb2).size)
     refine hK.out _ _ ⟨V4.out.below hb5 hT4,V5.out.below hb5 hT5⟩ (fun hH=>?_)
     (try simp only [Act.put,List.setIfInBounds_toArray,List.set_cons_zero,List.set_cons_succ])
     clear hK
     have hs5:w2.heap.size<w5.heap.size:=vn5.lt
     have hfX_5:=hfX_2.trans (ha5.mono hfX_2.size)
     have hgX_5:=hfX_2.size
     have hfY_5:=hf2.trans (ha5.mono hf2.size)
     have hgY_5:=hf2.size
     refine wpAnyH_ready (rs:=[4]) (by kernel_rfl) (by simp) ?_
     refine reg_cons _ rfl (fun K' hK=>?_) AllReadyH.nil
     go_simp
     generalize hgw6:World.alloc _ _=w6
     have ha6':Below w5.heap.size w5 w6:=by rw [←hgw6];exact below_new _ _
     have ha6:Below w5.heap.size w5 w6:=⟨ha6'.os,ha6'.tape,ha6'.output,ha6'.size,ha6'.block⟩
     have vn6:Vx w6 w5.heap.size 60 zM6:=by
      have h0:Vx w6 w5.heap.size 60 zM6:=by rw [←hgw6];exact Vx.new w5 _ _
      exact h0
     clear hgw6
     have hb6:Below W2.heap.size W2 w6:=(hb5).trans (ha6.mono (hb5).size)
     refine hK.out _ _ ⟨V4.out.below hb6 hT4,V5.out.below hb6 hT5⟩ (fun hH=>?_)
     (try simp only [Act.put,List.setIfInBounds_toArray,List.set_cons_zero,List.set_cons_succ])
     clear hK
     have v10_6:=vn5.below ha6 vn5.lt
     have hs6:w5.heap.size<w6.heap.size:=vn6.lt
     have hfX_6:=hfX_5.trans (ha6.mono hfX_5.size)
     have hgX_6:=hfX_5.size
     have hfY_6:=hfY_5.trans (ha6.mono hfY_5.size)
     have hgY_6:=hfY_5.size
     have hWB:W2.heap.size≤w6.heap.size:=(hb6).size
     have hne:w5.heap.size≠w2.heap.size:=by omega
     have hne2:w2.heap.size≠w5.heap.size:=by omega
     have hge9:W2.heap.size≤w5.heap.size:=by omega
     have hge10:W2.heap.size≤w2.heap.size:=by omega
     have fX:=boxes_fin #[.int .u16 (idX:Int),.int .u16 (flX:Int),.slice qAX qsX.length qcX,.slice aAX raX.length acX,.slice bAX rbX.length bdX,.slice cAX rcX.length ccX] #[.int .u16 (idY:Int),.int .u16 (flY:Int),.slice qAY qsY.length qcY,.slice aAY raY.length acY,.slice bAY rbY.length bdY,.slice cAY rcY.length ccY] hoX hfX_6 (show w5.heap.size<_∨_ by first | (left;omega) | (right;omega)) (show w2.heap.size<_∨_ by first | (left;omega) | (right;omega))
     have fY:=boxes_fin #[.int .u16 (idX:Int),.int .u16 (flX:Int),.slice qAX qsX.length qcX,.slice aAX raX.length acX,.slice bAX rbX.length bdX,.slice cAX rcX.length ccX] #[.int .u16 (idY:Int),.int .u16 (flY:Int),.slice qAY qsY.length qcY,.slice aAY raY.length acY,.slice bAY rbY.length bdY,.slice cAY rcY.length ccY] hoY hfY_6 (show w5.heap.size<_∨_ by first | (left;omega) | (right;omega)) (show w2.heap.size<_∨_ by first | (left;omega) | (right;omega))
     have hO9:=Only.row w6 (w5.heap.size) #[.int .u16 (idX:Int),.int .u16 (flX:Int),.slice qAX qsX.length qcX,.slice aAX raX.length acX,.slice bAX rbX.length bdX,.slice cAX rcX.length ccX]
     have hO10:=Only.row (w6.setRow (w5.heap.size) #[.int .u16 (idX:Int),.int .u16 (flX:Int),.slice qAX qsX.length qcX,.slice aAX raX.length acX,.slice bAX rbX.length bdX,.slice cAX rcX.length ccX]) (w2.heap.size) #[.int .u16 (idY:Int),.int .u16 (flY:Int),.slice qAY qsY.length qcY,.slice aAY raY.length acY,.slice bAY rbY.length bdY,.slice cAY rcY.length ccY]
     have hB9:Below W2.heap.size W2 (w6.setRow (w5.heap.size) #[.int .u16 (idX:Int),.int .u16 (flX:Int),.slice qAX qsX.length qcX,.slice aAX raX.length acX,.slice bAX rbX.length bdX,.slice cAX rcX.length ccX]):=(hb6).trans (hO9.below hge9 hWB)
     have hB10:Below W2.heap.size W2 ((w6.setRow (w5.heap.size) #[.int .u16 (idX:Int),.int .u16 (flX:Int),.slice qAX qsX.length qcX,.slice aAX raX.length acX,.slice bAX rbX.length bdX,.slice cAX rcX.length ccX]).setRow (w2.heap.size) #[.int .u16 (idY:Int),.int .u16 (flY:Int),.slice qAY qsY.length qcY,.slice aAY raY.length acY,.slice bAY rbY.length bdY,.slice cAY rcY.length ccY]):=hB9.trans (hO10.below hge10 hB9.size)
     have z9:Vx ((w6.setRow (w5.heap.size) #[.int .u16 (idX:Int),.int .u16 (flX:Int),.slice qAX qsX.length qcX,.slice aAX raX.length acX,.slice bAX rbX.length bdX,.slice cAX rcX.length ccX]).setRow (w2.heap.size) #[.int .u16 (idY:Int),.int .u16 (flY:Int),.slice qAY qsY.length qcY,.slice aAY raY.length acY,.slice bAY rbY.length bdY,.slice cAY rcY.length ccY]) (w5.heap.size) 60 (MR.cells ⟨idX,flX,qAX,qcX,qsX,aAX,acX,raX,bAX,bdX,rbX,cAX,ccX,rcX⟩):=(vn6.row (MR.cells ⟨idX,flX,qAX,qcX,qsX,aAX,acX,raX,bAX,bdX,rbX,cAX,ccX,rcX⟩)).rowO hne _
     have z10:Vx ((w6.setRow (w5.heap.size) #[.int .u16 (idX:Int),.int .u16 (flX:Int),.slice qAX qsX.length qcX,.slice aAX raX.length acX,.slice bAX rbX.length bdX,.slice cAX rcX.length ccX]).setRow (w2.heap.size) #[.int .u16 (idY:Int),.int .u16 (flY:Int),.slice qAY qsY.length qcY,.slice aAY raY.length acY,.slice bAY rbY.length bdY,.slice cAY rcY.length ccY]) (w2.heap.size) 60 (MR.cells ⟨idY,flY,qAY,qcY,qsY,aAY,acY,raY,bAY,bdY,rbY,cAY,ccY,rcY⟩):=(v10_6.rowO hne2 _).row (MR.cells ⟨idY,flY,qAY,qcY,qsY,aAY,acY,raY,bAY,bdY,rbY,cAY,ccY,rcY⟩)
     refine wpAnyH_ready (rs:=[6]) (by kernel_rfl) (by simp) ?_
     refine reg_cons _ rfl (fun K' hK=>?_) AllReadyH.nil
     rw [if_pos (by rfl)]
     refine wp_store_row 60 _ _ (by rfl) (w5.heap.size) #[.int .u16 (idX:Int),.int .u16 (flX:Int),.slice qAX qsX.length qcX,.slice aAX raX.length acX,.slice bAX rbX.length bdX,.slice cAX rcX.length ccX] (by rfl) (by rfl) _ _ vn6 (by kernel_rfl) rfl (by kernel_rfl) ?_
     refine hK.out _ _ ⟨V4.out.below hB9 hT4,V5.out.below hB9 hT5⟩ (fun hH=>?_)
     (try simp only [Act.put,List.setIfInBounds_toArray,List.set_cons_zero,List.set_cons_succ])
     clear hK
     refine wpAnyH_ready (rs:=[7]) (by kernel_rfl) (by simp) ?_
     refine reg_cons _ rfl (fun K' hK=>?_) AllReadyH.nil
     rw [if_pos (by rfl)]
     refine wp_store_row 60 _ _ (by rfl) (w2.heap.size) #[.int .u16 (idY:Int),.int .u16 (flY:Int),.slice qAY qsY.length qcY,.slice aAY raY.length acY,.slice bAY rbY.length bdY,.slice cAY rcY.length ccY] (by rfl) (by rfl) _ _ (v10_6.rowO hne2 _) (by kernel_rfl) rfl (by kernel_rfl) ?_
     refine hK.out _ _ ⟨V4.out.below hB10 hT4,V5.out.below hB10 hT5⟩ (fun hH=>?_)
     (try simp only [Act.put,List.setIfInBounds_toArray,List.set_cons_zero,List.set_cons_succ])
     clear hK
     refine wpAnyH_done (by kernel_rfl) ?_ _
     go_wp2_with fail
     try simp only [Act.put]
     go_meet
     exact ⟨w5.heap.size,w2.heap.size,⟨idX,flX,qAX,qcX,qsX,aAX,acX,raX,bAX,bdX,rbX,cAX,ccX,rcX⟩,⟨idY,flY,qAY,qcY,qsY,aAY,acY,raY,bAY,bdY,rbY,cAY,ccY,rcY⟩,rfl,rfl,Lib.hid z9,Lib.hid z10,Lib.hid hmX,Lib.hid hmY,Lib.hid (fX.rdL (HXY.out _ hB10).1 hmX),Lib.hid (fY.rdL (HXY.out _ hB10).2 hmY),Lib.hid hB10⟩
   ·go_simp
    generalize hgw7:World.alloc _ _=w7
    have ha7':Below w1.heap.size w1 w7:=by rw [←hgw7];exact below_new _ _
    have ha7:Below w1.heap.size w1 w7:=⟨ha7'.os,ha7'.tape,ha7'.output,ha7'.size,ha7'.block⟩
    have vn7:Vx w7 w1.heap.size 60 zM6:=by
     have h0:Vx w7 w1.heap.size 60 zM6:=by rw [←hgw7];exact Vx.new w1 _ _
     exact h0
    clear hgw7
    have hb7:Below W2.heap.size W2 w7:=(hb1).trans (ha7.mono (hb1).size)
    refine hK.out _ _ ⟨V4.out.below hb7 hT4,V5.out.below hb7 hT5⟩ (fun hH=>?_)
    (try simp only [Act.put,List.setIfInBounds_toArray,List.set_cons_zero,List.set_cons_succ])
    clear hK
    have hs7:w1.heap.size<w7.heap.size:=vn7.lt
    have hfX_7:=hf1.trans (ha7.mono hf1.size)
    have hgX_7:=hf1.size
    refine wpAnyH_ready (rs:=[3,5]) (by kernel_rfl) (by simp) ?_
    refine reg_cons _ rfl (fun K' hK=>?_) (reg_cons _ rfl (fun K' hK=>?_) AllReadyH.nil)
    ·go_simp
     go_at_call 20
     refine (turned_at y w7 (HXY.out _ hb7).2 cy).mono ?_
     rintro e w8 ⟨⟨idY,flY,qAY,qcY,qsY,aAY,acY,raY,bAY,bdY,rbY,cAY,ccY,rcY⟩,hmY,rfl,hoY,hb8'⟩
     unfold MR.cells
     dsimp only
     have hb8:Below W2.heap.size W2 w8:=(hb7).trans (hb8'.mono (hb7).size)
     refine hK.out _ _ ⟨V4.out.below hb8 hT4,V5.out.below hb8 hT5⟩ (fun hH=>?_)
     (try simp only [Act.put,List.setIfInBounds_toArray,List.set_cons_zero,List.set_cons_succ])
     clear hK
     have hs8:w7.heap.size≤w8.heap.size:=hb8'.size
     have hoY:MOwF w8 w7.heap.size ⟨idY,flY,qAY,qcY,qsY,aAY,acY,raY,bAY,bdY,rbY,cAY,ccY,rcY⟩:=hoY
     have hf8:=Below.refl w8.heap.size w8
     have v9_8:=vn7.below hb8' vn7.lt
     have hfX_8:=hfX_7.trans (hb8'.mono hfX_7.size)
     refine wpAnyH_ready (rs:=[5]) (by kernel_rfl) (by simp) ?_
     refine reg_cons _ rfl (fun K' hK=>?_) AllReadyH.nil
     go_simp
     generalize hgw9:World.alloc _ _=w9
     have ha9':Below w8.heap.size w8 w9:=by rw [←hgw9];exact below_new _ _
     have ha9:Below w8.heap.size w8 w9:=⟨ha9'.os,ha9'.tape,ha9'.output,ha9'.size,ha9'.block⟩
     have vn9:Vx w9 w8.heap.size 60 zM6:=by
      have h0:Vx w9 w8.heap.size 60 zM6:=by rw [←hgw9];exact Vx.new w8 _ _
      exact h0
     clear hgw9
     have hb9:Below W2.heap.size W2 w9:=(hb8).trans (ha9.mono (hb8).size)
     refine hK.out _ _ ⟨V4.out.below hb9 hT4,V5.out.below hb9 hT5⟩ (fun hH=>?_)
     (try simp only [Act.put,List.setIfInBounds_toArray,List.set_cons_zero,List.set_cons_succ])
     clear hK
     have v9_9:=v9_8.below ha9 v9_8.lt
     have hs9:w8.heap.size<w9.heap.size:=vn9.lt
     have hfX_9:=hfX_8.trans (ha9.mono hfX_8.size)
     have hgX_9:=hfX_8.size
     have hfY_9:=hf8.trans (ha9.mono hf8.size)
     have hgY_9:=hf8.size
     have hWB:W2.heap.size≤w9.heap.size:=(hb9).size
     have hne:w1.heap.size≠w8.heap.size:=by omega
     have hne2:w8.heap.size≠w1.heap.size:=by omega
     have hge9:W2.heap.size≤w1.heap.size:=by omega
     have hge10:W2.heap.size≤w8.heap.size:=by omega
     have fX:=boxes_fin #[.int .u16 (idX:Int),.int .u16 (flX:Int),.slice qAX qsX.length qcX,.slice aAX raX.length acX,.slice bAX rbX.length bdX,.slice cAX rcX.length ccX] #[.int .u16 (idY:Int),.int .u16 (flY:Int),.slice qAY qsY.length qcY,.slice aAY raY.length acY,.slice bAY rbY.length bdY,.slice cAY rcY.length ccY] hoX hfX_9 (show w1.heap.size<_∨_ by first | (left;omega) | (right;omega)) (show w8.heap.size<_∨_ by first | (left;omega) | (right;omega))
     have fY:=boxes_fin #[.int .u16 (idX:Int),.int .u16 (flX:Int),.slice qAX qsX.length qcX,.slice aAX raX.length acX,.slice bAX rbX.length bdX,.slice cAX rcX.length ccX] #[.int .u16 (idY:Int),.int .u16 (flY:Int),.slice qAY qsY.length qcY,.slice aAY raY.length acY,.slice bAY rbY.length bdY,.slice cAY rcY.length ccY] hoY hfY_9 (show w1.heap.size<_∨_ by first | (left;omega) | (right;omega)) (show w8.heap.size<_∨_ by first | (left;omega) | (right;omega))
     have hO9:=Only.row w9 (w1.heap.size) #[.int .u16 (idX:Int),.int .u16 (flX:Int),.slice qAX qsX.length qcX,.slice aAX raX.length acX,.slice bAX rbX.length bdX,.slice cAX rcX.length ccX]
     have hO10:=Only.row (w9.setRow (w1.heap.size) #[.int .u16 (idX:Int),.int .u16 (flX:Int),.slice qAX qsX.length qcX,.slice aAX raX.length acX,.slice bAX rbX.length bdX,.slice cAX rcX.length ccX]) (w8.heap.size) #[.int .u16 (idY:Int),.int .u16 (flY:Int),.slice qAY qsY.length qcY,.slice aAY raY.length acY,.slice bAY rbY.length bdY,.slice cAY rcY.length ccY]
     have hB9:Below W2.heap.size W2 (w9.setRow (w1.heap.size) #[.int .u16 (idX:Int),.int .u16 (flX:Int),.slice qAX qsX.length qcX,.slice aAX raX.length acX,.slice bAX rbX.length bdX,.slice cAX rcX.length ccX]):=(hb9).trans (hO9.below hge9 hWB)
     have hB10:Below W2.heap.size W2 ((w9.setRow (w1.heap.size) #[.int .u16 (idX:Int),.int .u16 (flX:Int),.slice qAX qsX.length qcX,.slice aAX raX.length acX,.slice bAX rbX.length bdX,.slice cAX rcX.length ccX]).setRow (w8.heap.size) #[.int .u16 (idY:Int),.int .u16 (flY:Int),.slice qAY qsY.length qcY,.slice aAY raY.length acY,.slice bAY rbY.length bdY,.slice cAY rcY.length ccY]):=hB9.trans (hO10.below hge10 hB9.size)
     have z9:Vx ((w9.setRow (w1.heap.size) #[.int .u16 (idX:Int),.int .u16 (flX:Int),.slice qAX qsX.length qcX,.slice aAX raX.length acX,.slice bAX rbX.length bdX,.slice cAX rcX.length ccX]).setRow (w8.heap.size) #[.int .u16 (idY:Int),.int .u16 (flY:Int),.slice qAY qsY.length qcY,.slice aAY raY.length acY,.slice bAY rbY.length bdY,.slice cAY rcY.length ccY]) (w1.heap.size) 60 (MR.cells ⟨idX,flX,qAX,qcX,qsX,aAX,acX,raX,bAX,bdX,rbX,cAX,ccX,rcX⟩):=(v9_9.row (MR.cells ⟨idX,flX,qAX,qcX,qsX,aAX,acX,raX,bAX,bdX,rbX,cAX,ccX,rcX⟩)).rowO hne _
     have z10:Vx ((w9.setRow (w1.heap.size) #[.int .u16 (idX:Int),.int .u16 (flX:Int),.slice qAX qsX.length qcX,.slice aAX raX.length acX,.slice bAX rbX.length bdX,.slice cAX rcX.length ccX]).setRow (w8.heap.size) #[.int .u16 (idY:Int),.int .u16 (flY:Int),.slice qAY qsY.length qcY,.slice aAY raY.length acY,.slice bAY rbY.length bdY,.slice cAY rcY.length ccY]) (w8.heap.size) 60 (MR.cells ⟨idY,flY,qAY,qcY,qsY,aAY,acY,raY,bAY,bdY,rbY,cAY,ccY,rcY⟩):=(vn9.rowO hne2 _).row (MR.cells ⟨idY,flY,qAY,qcY,qsY,aAY,acY,raY,bAY,bdY,rbY,cAY,ccY,rcY⟩)
     refine wpAnyH_ready (rs:=[6]) (by kernel_rfl) (by simp) ?_
     refine reg_cons _ rfl (fun K' hK=>?_) AllReadyH.nil
     rw [if_pos (by rfl)]
     refine wp_store_row 60 _ _ (by rfl) (w1.heap.size) #[.int .u16 (idX:Int),.int .u16 (flX:Int),.slice qAX qsX.length qcX,.slice aAX raX.length acX,.slice bAX rbX.length bdX,.slice cAX rcX.length ccX] (by rfl) (by rfl) _ _ v9_9 (by kernel_rfl) rfl (by kernel_rfl) ?_
     refine hK.out _ _ ⟨V4.out.below hB9 hT4,V5.out.below hB9 hT5⟩ (fun hH=>?_)
     (try simp only [Act.put,List.setIfInBounds_toArray,List.set_cons_zero,List.set_cons_succ])
     clear hK
     refine wpAnyH_ready (rs:=[7]) (by kernel_rfl) (by simp) ?_
     refine reg_cons _ rfl (fun K' hK=>?_) AllReadyH.nil
     rw [if_pos (by rfl)]
     refine wp_store_row 60 _ _ (by rfl) (w8.heap.size) #[.int .u16 (idY:Int),.int .u16 (flY:Int),.slice qAY qsY.length qcY,.slice aAY raY.length acY,.slice bAY rbY.length bdY,.slice cAY rcY.length ccY] (by rfl) (by rfl) _ _ (vn9.rowO hne2 _) (by kernel_rfl) rfl (by kernel_rfl) ?_
     refine hK.out _ _ ⟨V4.out.below hB10 hT4,V5.out.below hB10 hT5⟩ (fun hH=>?_)
     (try simp only [Act.put,List.setIfInBounds_toArray,List.set_cons_zero,List.set_cons_succ])
     clear hK
     refine wpAnyH_done (by kernel_rfl) ?_ _
     go_wp2_with fail
     try simp only [Act.put]
     go_meet
     exact ⟨w1.heap.size,w8.heap.size,⟨idX,flX,qAX,qcX,qsX,aAX,acX,raX,bAX,bdX,rbX,cAX,ccX,rcX⟩,⟨idY,flY,qAY,qcY,qsY,aAY,acY,raY,bAY,bdY,rbY,cAY,ccY,rcY⟩,rfl,rfl,Lib.hid z9,Lib.hid z10,Lib.hid hmX,Lib.hid hmY,Lib.hid (fX.rdL (HXY.out _ hB10).1 hmX),Lib.hid (fY.rdL (HXY.out _ hB10).2 hmY),Lib.hid hB10⟩
    ·go_simp
     generalize hgw10:World.alloc _ _=w10
     have ha10':Below w7.heap.size w7 w10:=by rw [←hgw10];exact below_new _ _
     have ha10:Below w7.heap.size w7 w10:=⟨ha10'.os,ha10'.tape,ha10'.output,ha10'.size,ha10'.block⟩
     have vn10:Vx w10 w7.heap.size 60 zM6:=by
      have h0:Vx w10 w7.heap.size 60 zM6:=by rw [←hgw10];exact Vx.new w7 _ _
      exact h0
     clear hgw10
     have hb10:Below W2.heap.size W2 w10:=(hb7).trans (ha10.mono (hb7).size)
     refine hK.out _ _ ⟨V4.out.below hb10 hT4,V5.out.below hb10 hT5⟩ (fun hH=>?_)
     (try simp only [Act.put,List.setIfInBounds_toArray,List.set_cons_zero,List.set_cons_succ])
     clear hK
     have v9_10:=vn7.below ha10 vn7.lt
     have hs10:w7.heap.size<w10.heap.size:=vn10.lt
     have hfX_10:=hfX_7.trans (ha10.mono hfX_7.size)
     have hgX_10:=hfX_7.size
     refine wpAnyH_ready (rs:=[3]) (by kernel_rfl) (by simp) ?_
     refine reg_cons _ rfl (fun K' hK=>?_) AllReadyH.nil
     go_simp
     go_at_call 20
     refine (turned_at y w10 (HXY.out _ hb10).2 cy).mono ?_
     rintro e w11 ⟨⟨idY,flY,qAY,qcY,qsY,aAY,acY,raY,bAY,bdY,rbY,cAY,ccY,rcY⟩,hmY,rfl,hoY,hb11'⟩
     unfold MR.cells
     dsimp only
     have hb11:Below W2.heap.size W2 w11:=(hb10).trans (hb11'.mono (hb10).size)
     refine hK.out _ _ ⟨V4.out.below hb11 hT4,V5.out.below hb11 hT5⟩ (fun hH=>?_)
     (try simp only [Act.put,List.setIfInBounds_toArray,List.set_cons_zero,List.set_cons_succ])
     clear hK
     have hs11:w10.heap.size≤w11.heap.size:=hb11'.size
     have hoY:MOwF w11 w10.heap.size ⟨idY,flY,qAY,qcY,qsY,aAY,acY,raY,bAY,bdY,rbY,cAY,ccY,rcY⟩:=hoY
     have hf11:=Below.refl w11.heap.size w11
     have v9_11:=v9_10.below hb11' v9_10.lt
     have v10_11:=vn10.below hb11' vn10.lt
     have hfX_11:=hfX_10.trans (hb11'.mono hfX_10.size)
     have hWB:W2.heap.size≤w11.heap.size:=(hb11).size
     have hne:w1.heap.size≠w7.heap.size:=by omega
     have hne2:w7.heap.size≠w1.heap.size:=by omega
     have hge9:W2.heap.size≤w1.heap.size:=by omega
     have hge10:W2.heap.size≤w7.heap.size:=by omega
     have fX:=boxes_fin #[.int .u16 (idX:Int),.int .u16 (flX:Int),.slice qAX qsX.length qcX,.slice aAX raX.length acX,.slice bAX rbX.length bdX,.slice cAX rcX.length ccX] #[.int .u16 (idY:Int),.int .u16 (flY:Int),.slice qAY qsY.length qcY,.slice aAY raY.length acY,.slice bAY rbY.length bdY,.slice cAY rcY.length ccY] hoX hfX_11 (show w1.heap.size<_∨_ by first | (left;omega) | (right;omega)) (show w7.heap.size<_∨_ by first | (left;omega) | (right;omega))
     have fY:=boxes_fin #[.int .u16 (idX:Int),.int .u16 (flX:Int),.slice qAX qsX.length qcX,.slice aAX raX.length acX,.slice bAX rbX.length bdX,.slice cAX rcX.length ccX] #[.int .u16 (idY:Int),.int .u16 (flY:Int),.slice qAY qsY.length qcY,.slice aAY raY.length acY,.slice bAY rbY.length bdY,.slice cAY rcY.length ccY] hoY hf11 (show w1.heap.size<_∨_ by first | (left;omega) | (right;omega)) (show w7.heap.size<_∨_ by first | (left;omega) | (right;omega))
     have hO9:=Only.row w11 (w1.heap.size) #[.int .u16 (idX:Int),.int .u16 (flX:Int),.slice qAX qsX.length qcX,.slice aAX raX.length acX,.slice bAX rbX.length bdX,.slice cAX rcX.length ccX]
     have hO10:=Only.row (w11.setRow (w1.heap.size) #[.int .u16 (idX:Int),.int .u16 (flX:Int),.slice qAX qsX.length qcX,.slice aAX raX.length acX,.slice bAX rbX.length bdX,.slice cAX rcX.length ccX]) (w7.heap.size) #[.int .u16 (idY:Int),.int .u16 (flY:Int),.slice qAY qsY.length qcY,.slice aAY raY.length acY,.slice bAY rbY.length bdY,.slice cAY rcY.length ccY]
     have hB9:Below W2.heap.size W2 (w11.setRow (w1.heap.size) #[.int .u16 (idX:Int),.int .u16 (flX:Int),.slice qAX qsX.length qcX,.slice aAX raX.length acX,.slice bAX rbX.length bdX,.slice cAX rcX.length ccX]):=(hb11).trans (hO9.below hge9 hWB)
     have hB10:Below W2.heap.size W2 ((w11.setRow (w1.heap.size) #[.int .u16 (idX:Int),.int .u16 (flX:Int),.slice qAX qsX.length qcX,.slice aAX raX.length acX,.slice bAX rbX.length bdX,.slice cAX rcX.length ccX]).setRow (w7.heap.size) #[.int .u16 (idY:Int),.int .u16 (flY:Int),.slice qAY qsY.length qcY,.slice aAY raY.length acY,.slice bAY rbY.length bdY,.slice cAY rcY.length ccY]):=hB9.trans (hO10.below hge10 hB9.size)
     have z9:Vx ((w11.setRow (w1.heap.size) #[.int .u16 (idX:Int),.int .u16 (flX:Int),.slice qAX qsX.length qcX,.slice aAX raX.length acX,.slice bAX rbX.length bdX,.slice cAX rcX.length ccX]).setRow (w7.heap.size) #[.int .u16 (idY:Int),.int .u16 (flY:Int),.slice qAY qsY.length qcY,.slice aAY raY.length acY,.slice bAY rbY.length bdY,.slice cAY rcY.length ccY]) (w1.heap.size) 60 (MR.cells ⟨idX,flX,qAX,qcX,qsX,aAX,acX,raX,bAX,bdX,rbX,cAX,ccX,rcX⟩):=(v9_11.row (MR.cells ⟨idX,flX,qAX,qcX,qsX,aAX,acX,raX,bAX,bdX,rbX,cAX,ccX,rcX⟩)).rowO hne _
     have z10:Vx ((w11.setRow (w1.heap.size) #[.int .u16 (idX:Int),.int .u16 (flX:Int),.slice qAX qsX.length qcX,.slice aAX raX.length acX,.slice bAX rbX.length bdX,.slice cAX rcX.length ccX]).setRow (w7.heap.size) #[.int .u16 (idY:Int),.int .u16 (flY:Int),.slice qAY qsY.length qcY,.slice aAY raY.length acY,.slice bAY rbY.length bdY,.slice cAY rcY.length ccY]) (w7.heap.size) 60 (MR.cells ⟨idY,flY,qAY,qcY,qsY,aAY,acY,raY,bAY,bdY,rbY,cAY,ccY,rcY⟩):=(v10_11.rowO hne2 _).row (MR.cells ⟨idY,flY,qAY,qcY,qsY,aAY,acY,raY,bAY,bdY,rbY,cAY,ccY,rcY⟩)
     refine wpAnyH_ready (rs:=[6]) (by kernel_rfl) (by simp) ?_
     refine reg_cons _ rfl (fun K' hK=>?_) AllReadyH.nil
     rw [if_pos (by rfl)]
     refine wp_store_row 60 _ _ (by rfl) (w1.heap.size) #[.int .u16 (idX:Int),.int .u16 (flX:Int),.slice qAX qsX.length qcX,.slice aAX raX.length acX,.slice bAX rbX.length bdX,.slice cAX rcX.length ccX] (by rfl) (by rfl) _ _ v9_11 (by kernel_rfl) rfl (by kernel_rfl) ?_
     refine hK.out _ _ ⟨V4.out.below hB9 hT4,V5.out.below hB9 hT5⟩ (fun hH=>?_)
     (try simp only [Act.put,List.setIfInBounds_toArray,List.set_cons_zero,List.set_cons_succ])
     clear hK
     refine wpAnyH_ready (rs:=[7]) (by kernel_rfl) (by simp) ?_
     refine reg_cons _ rfl (fun K' hK=>?_) AllReadyH.nil
     rw [if_pos (by rfl)]
     refine wp_store_row 60 _ _ (by rfl) (w7.heap.size) #[.int .u16 (idY:Int),.int .u16 (flY:Int),.slice qAY qsY.length qcY,.slice aAY raY.length acY,.slice bAY rbY.length bdY,.slice cAY rcY.length ccY] (by rfl) (by rfl) _ _ (v10_11.rowO hne2 _) (by kernel_rfl) rfl (by kernel_rfl) ?_
     refine hK.out _ _ ⟨V4.out.below hB10 hT4,V5.out.below hB10 hT5⟩ (fun hH=>?_)
     (try simp only [Act.put,List.setIfInBounds_toArray,List.set_cons_zero,List.set_cons_succ])
     clear hK
     refine wpAnyH_done (by kernel_rfl) ?_ _
     go_wp2_with fail
     try simp only [Act.put]
     go_meet
     exact ⟨w1.heap.size,w7.heap.size,⟨idX,flX,qAX,qcX,qsX,aAX,acX,raX,bAX,bdX,rbX,cAX,ccX,rcX⟩,⟨idY,flY,qAY,qcY,qsY,aAY,acY,raY,bAY,bdY,rbY,cAY,ccY,rcY⟩,rfl,rfl,Lib.hid z9,Lib.hid z10,Lib.hid hmX,Lib.hid hmY,Lib.hid (fX.rdL (HXY.out _ hB10).1 hmX),Lib.hid (fY.rdL (HXY.out _ hB10).2 hmY),Lib.hid hB10⟩
   ·go_simp
    generalize hgw12:World.alloc _ _=w12
    have ha12':Below w1.heap.size w1 w12:=by rw [←hgw12];exact below_new _ _
    have ha12:Below w1.heap.size w1 w12:=⟨ha12'.os,ha12'.tape,ha12'.output,ha12'.size,ha12'.block⟩
    have vn12:Vx w12 w1.heap.size 60 zM6:=by
     have h0:Vx w12 w1.heap.size 60 zM6:=by rw [←hgw12];exact Vx.new w1 _ _
     exact h0
    clear hgw12
    have hb12:Below W2.heap.size W2 w12:=(hb1).trans (ha12.mono (hb1).size)
    refine hK.out _ _ ⟨V4.out.below hb12 hT4,V5.out.below hb12 hT5⟩ (fun hH=>?_)
    (try simp only [Act.put,List.setIfInBounds_toArray,List.set_cons_zero,List.set_cons_succ])
    clear hK
    have hs12:w1.heap.size<w12.heap.size:=vn12.lt
    have hfX_12:=hf1.trans (ha12.mono hf1.size)
    have hgX_12:=hf1.size
    refine wpAnyH_ready (rs:=[3,4]) (by kernel_rfl) (by simp) ?_
    refine reg_cons _ rfl (fun K' hK=>?_) (reg_cons _ rfl (fun K' hK=>?_) AllReadyH.nil)
    ·go_simp
     go_at_call 20
     refine (turned_at y w12 (HXY.out _ hb12).2 cy).mono ?_
     rintro e w13 ⟨⟨idY,flY,qAY,qcY,qsY,aAY,acY,raY,bAY,bdY,rbY,cAY,ccY,rcY⟩,hmY,rfl,hoY,hb13'⟩
     unfold MR.cells
     dsimp only
     have hb13:Below W2.heap.size W2 w13:=(hb12).trans (hb13'.mono (hb12).size)
     refine hK.out _ _ ⟨V4.out.below hb13 hT4,V5.out.below hb13 hT5⟩ (fun hH=>?_)
     (try simp only [Act.put,List.setIfInBounds_toArray,List.set_cons_zero,List.set_cons_succ])
     clear hK
     have hs13:w12.heap.size≤w13.heap.size:=hb13'.size
     have hoY:MOwF w13 w12.heap.size ⟨idY,flY,qAY,qcY,qsY,aAY,acY,raY,bAY,bdY,rbY,cAY,ccY,rcY⟩:=hoY
     have hf13:=Below.refl w13.heap.size w13
     have v10_13:=vn12.below hb13' vn12.lt
     have hfX_13:=hfX_12.trans (hb13'.mono hfX_12.size)
     refine wpAnyH_ready (rs:=[4]) (by kernel_rfl) (by simp) ?_
     refine reg_cons _ rfl (fun K' hK=>?_) AllReadyH.nil
     go_simp
     generalize hgw14:World.alloc _ _=w14
     have ha14':Below w13.heap.size w13 w14:=by rw [←hgw14];exact below_new _ _
     have ha14:Below w13.heap.size w13 w14:=⟨ha14'.os,ha14'.tape,ha14'.output,ha14'.size,ha14'.block⟩
     have vn14:Vx w14 w13.heap.size 60 zM6:=by
      have h0:Vx w14 w13.heap.size 60 zM6:=by rw [←hgw14];exact Vx.new w13 _ _
      exact h0
     clear hgw14
     have hb14:Below W2.heap.size W2 w14:=(hb13).trans (ha14.mono (hb13).size)
     refine hK.out _ _ ⟨V4.out.below hb14 hT4,V5.out.below hb14 hT5⟩ (fun hH=>?_)
     (try simp only [Act.put,List.setIfInBounds_toArray,List.set_cons_zero,List.set_cons_succ])
     clear hK
     have v10_14:=v10_13.below ha14 v10_13.lt
     have hs14:w13.heap.size<w14.heap.size:=vn14.lt
     have hfX_14:=hfX_13.trans (ha14.mono hfX_13.size)
     have hgX_14:=hfX_13.size
     have hfY_14:=hf13.trans (ha14.mono hf13.size)
     have hgY_14:=hf13.size
     have hWB:W2.heap.size≤w14.heap.size:=(hb14).size
     have hne:w13.heap.size≠w1.heap.size:=by omega
     have hne2:w1.heap.size≠w13.heap.size:=by omega
     have hge9:W2.heap.size≤w13.heap.size:=by omega
     have hge10:W2.heap.size≤w1.heap.size:=by omega
     have fX:=boxes_fin #[.int .u16 (idX:Int),.int .u16 (flX:Int),.slice qAX qsX.length qcX,.slice aAX raX.length acX,.slice bAX rbX.length bdX,.slice cAX rcX.length ccX] #[.int .u16 (idY:Int),.int .u16 (flY:Int),.slice qAY qsY.length qcY,.slice aAY raY.length acY,.slice bAY rbY.length bdY,.slice cAY rcY.length ccY] hoX hfX_14 (show w13.heap.size<_∨_ by first | (left;omega) | (right;omega)) (show w1.heap.size<_∨_ by first | (left;omega) | (right;omega))
     have fY:=boxes_fin #[.int .u16 (idX:Int),.int .u16 (flX:Int),.slice qAX qsX.length qcX,.slice aAX raX.length acX,.slice bAX rbX.length bdX,.slice cAX rcX.length ccX] #[.int .u16 (idY:Int),.int .u16 (flY:Int),.slice qAY qsY.length qcY,.slice aAY raY.length acY,.slice bAY rbY.length bdY,.slice cAY rcY.length ccY] hoY hfY_14 (show w13.heap.size<_∨_ by first | (left;omega) | (right;omega)) (show w1.heap.size<_∨_ by first | (left;omega) | (right;omega))
     have hO9:=Only.row w14 (w13.heap.size) #[.int .u16 (idX:Int),.int .u16 (flX:Int),.slice qAX qsX.length qcX,.slice aAX raX.length acX,.slice bAX rbX.length bdX,.slice cAX rcX.length ccX]
     have hO10:=Only.row (w14.setRow (w13.heap.size) #[.int .u16 (idX:Int),.int .u16 (flX:Int),.slice qAX qsX.length qcX,.slice aAX raX.length acX,.slice bAX rbX.length bdX,.slice cAX rcX.length ccX]) (w1.heap.size) #[.int .u16 (idY:Int),.int .u16 (flY:Int),.slice qAY qsY.length qcY,.slice aAY raY.length acY,.slice bAY rbY.length bdY,.slice cAY rcY.length ccY]
     have hB9:Below W2.heap.size W2 (w14.setRow (w13.heap.size) #[.int .u16 (idX:Int),.int .u16 (flX:Int),.slice qAX qsX.length qcX,.slice aAX raX.length acX,.slice bAX rbX.length bdX,.slice cAX rcX.length ccX]):=(hb14).trans (hO9.below hge9 hWB)
     have hB10:Below W2.heap.size W2 ((w14.setRow (w13.heap.size) #[.int .u16 (idX:Int),.int .u16 (flX:Int),.slice qAX qsX.length qcX,.slice aAX raX.length acX,.slice bAX rbX.length bdX,.slice cAX rcX.length ccX]).setRow (w1.heap.size) #[.int .u16 (idY:Int),.int .u16 (flY:Int),.slice qAY qsY.length qcY,.slice aAY raY.length acY,.slice bAY rbY.length bdY,.slice cAY rcY.length ccY]):=hB9.trans (hO10.below hge10 hB9.size)
     have z9:Vx ((w14.setRow (w13.heap.size) #[.int .u16 (idX:Int),.int .u16 (flX:Int),.slice qAX qsX.length qcX,.slice aAX raX.length acX,.slice bAX rbX.length bdX,.slice cAX rcX.length ccX]).setRow (w1.heap.size) #[.int .u16 (idY:Int),.int .u16 (flY:Int),.slice qAY qsY.length qcY,.slice aAY raY.length acY,.slice bAY rbY.length bdY,.slice cAY rcY.length ccY]) (w13.heap.size) 60 (MR.cells ⟨idX,flX,qAX,qcX,qsX,aAX,acX,raX,bAX,bdX,rbX,cAX,ccX,rcX⟩):=(vn14.row (MR.cells ⟨idX,flX,qAX,qcX,qsX,aAX,acX,raX,bAX,bdX,rbX,cAX,ccX,rcX⟩)).rowO hne _
     have z10:Vx ((w14.setRow (w13.heap.size) #[.int .u16 (idX:Int),.int .u16 (flX:Int),.slice qAX qsX.length qcX,.slice aAX raX.length acX,.slice bAX rbX.length bdX,.slice cAX rcX.length ccX]).setRow (w1.heap.size) #[.int .u16 (idY:Int),.int .u16 (flY:Int),.slice qAY qsY.length qcY,.slice aAY raY.length acY,.slice bAY rbY.length bdY,.slice cAY rcY.length ccY]) (w1.heap.size) 60 (MR.cells ⟨idY,flY,qAY,qcY,qsY,aAY,acY,raY,bAY,bdY,rbY,cAY,ccY,rcY⟩):=(v10_14.rowO hne2 _).row (MR.cells ⟨idY,flY,qAY,qcY,qsY,aAY,acY,raY,bAY,bdY,rbY,cAY,ccY,rcY⟩)
     refine wpAnyH_ready (rs:=[6]) (by kernel_rfl) (by simp) ?_
     refine reg_cons _ rfl (fun K' hK=>?_) AllReadyH.nil
     rw [if_pos (by rfl)]
     refine wp_store_row 60 _ _ (by rfl) (w13.heap.size) #[.int .u16 (idX:Int),.int .u16 (flX:Int),.slice qAX qsX.length qcX,.slice aAX raX.length acX,.slice bAX rbX.length bdX,.slice cAX rcX.length ccX] (by rfl) (by rfl) _ _ vn14 (by kernel_rfl) rfl (by kernel_rfl) ?_
     refine hK.out _ _ ⟨V4.out.below hB9 hT4,V5.out.below hB9 hT5⟩ (fun hH=>?_)
     (try simp only [Act.put,List.setIfInBounds_toArray,List.set_cons_zero,List.set_cons_succ])
     clear hK
     refine wpAnyH_ready (rs:=[7]) (by kernel_rfl) (by simp) ?_
     refine reg_cons _ rfl (fun K' hK=>?_) AllReadyH.nil
     rw [if_pos (by rfl)]
     refine wp_store_row 60 _ _ (by rfl) (w1.heap.size) #[.int .u16 (idY:Int),.int .u16 (flY:Int),.slice qAY qsY.length qcY,.slice aAY raY.length acY,.slice bAY rbY.length bdY,.slice cAY rcY.length ccY] (by rfl) (by rfl) _ _ (v10_14.rowO hne2 _) (by kernel_rfl) rfl (by kernel_rfl) ?_
     refine hK.out _ _ ⟨V4.out.below hB10 hT4,V5.out.below hB10 hT5⟩ (fun hH=>?_)
     (try simp only [Act.put,List.setIfInBounds_toArray,List.set_cons_zero,List.set_cons_succ])
     clear hK
     refine wpAnyH_done (by kernel_rfl) ?_ _
     go_wp2_with fail
     try simp only [Act.put]
     go_meet
     exact ⟨w13.heap.size,w1.heap.size,⟨idX,flX,qAX,qcX,qsX,aAX,acX,raX,bAX,bdX,rbX,cAX,ccX,rcX⟩,⟨idY,flY,qAY,qcY,qsY,aAY,acY,raY,bAY,bdY,rbY,cAY,ccY,rcY⟩,rfl,rfl,Lib.hid z9,Lib.hid z10,Lib.hid hmX,Lib.hid hmY,Lib.hid (fX.rdL (HXY.out _ hB10).1 hmX),Lib.hid (fY.rdL (HXY.out _ hB10).2 hmY),Lib.hid hB10⟩
    ·go_simp
     generalize hgw15:World.alloc _ _=w15
     have ha15':Below w12.heap.size w12 w15:=by rw [←hgw15];exact below_new _ _
     have ha15:Below w12.heap.size w12 w15:=⟨ha15'.os,ha15'.tape,ha15'.output,ha15'.size,ha15'.block⟩
     have vn15:Vx w15 w12.heap.size 60 zM6:=by
      have h0:Vx w15 w12.heap.size 60 zM6:=by rw [←hgw15];exact Vx.new w12 _ _
      exact h0
     clear hgw15
     have hb15:Below W2.heap.size W2 w15:=(hb12).trans (ha15.mono (hb12).size)
     refine hK.out _ _ ⟨V4.out.below hb15 hT4,V5.out.below hb15 hT5⟩ (fun hH=>?_)
     (try simp only [Act.put,List.setIfInBounds_toArray,List.set_cons_zero,List.set_cons_succ])
     clear hK
     have v10_15:=vn12.below ha15 vn12.lt
     have hs15:w12.heap.size<w15.heap.size:=vn15.lt
     have hfX_15:=hfX_12.trans (ha15.mono hfX_12.size)
     have hgX_15:=hfX_12.size
     refine wpAnyH_ready (rs:=[3]) (by kernel_rfl) (by simp) ?_
     refine reg_cons _ rfl (fun K' hK=>?_) AllReadyH.nil
     go_simp
     go_at_call 20
     refine (turned_at y w15 (HXY.out _ hb15).2 cy).mono ?_
     rintro e w16 ⟨⟨idY,flY,qAY,qcY,qsY,aAY,acY,raY,bAY,bdY,rbY,cAY,ccY,rcY⟩,hmY,rfl,hoY,hb16'⟩
     unfold MR.cells
     dsimp only
     have hb16:Below W2.heap.size W2 w16:=(hb15).trans (hb16'.mono (hb15).size)
     refine hK.out _ _ ⟨V4.out.below hb16 hT4,V5.out.below hb16 hT5⟩ (fun hH=>?_)
     (try simp only [Act.put,List.setIfInBounds_toArray,List.set_cons_zero,List.set_cons_succ])
     clear hK
     have hs16:w15.heap.size≤w16.heap.size:=hb16'.size
     have hoY:MOwF w16 w15.heap.size ⟨idY,flY,qAY,qcY,qsY,aAY,acY,raY,bAY,bdY,rbY,cAY,ccY,rcY⟩:=hoY
     have hf16:=Below.refl w16.heap.size w16
     have v9_16:=vn15.below hb16' vn15.lt
     have v10_16:=v10_15.below hb16' v10_15.lt
     have hfX_16:=hfX_15.trans (hb16'.mono hfX_15.size)
     have hWB:W2.heap.size≤w16.heap.size:=(hb16).size
     have hne:w12.heap.size≠w1.heap.size:=by omega
     have hne2:w1.heap.size≠w12.heap.size:=by omega
     have hge9:W2.heap.size≤w12.heap.size:=by omega
     have hge10:W2.heap.size≤w1.heap.size:=by omega
     have fX:=boxes_fin #[.int .u16 (idX:Int),.int .u16 (flX:Int),.slice qAX qsX.length qcX,.slice aAX raX.length acX,.slice bAX rbX.length bdX,.slice cAX rcX.length ccX] #[.int .u16 (idY:Int),.int .u16 (flY:Int),.slice qAY qsY.length qcY,.slice aAY raY.length acY,.slice bAY rbY.length bdY,.slice cAY rcY.length ccY] hoX hfX_16 (show w12.heap.size<_∨_ by first | (left;omega) | (right;omega)) (show w1.heap.size<_∨_ by first | (left;omega) | (right;omega))
     have fY:=boxes_fin #[.int .u16 (idX:Int),.int .u16 (flX:Int),.slice qAX qsX.length qcX,.slice aAX raX.length acX,.slice bAX rbX.length bdX,.slice cAX rcX.length ccX] #[.int .u16 (idY:Int),.int .u16 (flY:Int),.slice qAY qsY.length qcY,.slice aAY raY.length acY,.slice bAY rbY.length bdY,.slice cAY rcY.length ccY] hoY hf16 (show w12.heap.size<_∨_ by first | (left;omega) | (right;omega)) (show w1.heap.size<_∨_ by first | (left;omega) | (right;omega))
     have hO9:=Only.row w16 (w12.heap.size) #[.int .u16 (idX:Int),.int .u16 (flX:Int),.slice qAX qsX.length qcX,.slice aAX raX.length acX,.slice bAX rbX.length bdX,.slice cAX rcX.length ccX]
     have hO10:=Only.row (w16.setRow (w12.heap.size) #[.int .u16 (idX:Int),.int .u16 (flX:Int),.slice qAX qsX.length qcX,.slice aAX raX.length acX,.slice bAX rbX.length bdX,.slice cAX rcX.length ccX]) (w1.heap.size) #[.int .u16 (idY:Int),.int .u16 (flY:Int),.slice qAY qsY.length qcY,.slice aAY raY.length acY,.slice bAY rbY.length bdY,.slice cAY rcY.length ccY]
     have hB9:Below W2.heap.size W2 (w16.setRow (w12.heap.size) #[.int .u16 (idX:Int),.int .u16 (flX:Int),.slice qAX qsX.length qcX,.slice aAX raX.length acX,.slice bAX rbX.length bdX,.slice cAX rcX.length ccX]):=(hb16).trans (hO9.below hge9 hWB)
     have hB10:Below W2.heap.size W2 ((w16.setRow (w12.heap.size) #[.int .u16 (idX:Int),.int .u16 (flX:Int),.slice qAX qsX.length qcX,.slice aAX raX.length acX,.slice bAX rbX.length bdX,.slice cAX rcX.length ccX]).setRow (w1.heap.size) #[.int .u16 (idY:Int),.int .u16 (flY:Int),.slice qAY qsY.length qcY,.slice aAY raY.length acY,.slice bAY rbY.length bdY,.slice cAY rcY.length ccY]):=hB9.trans (hO10.below hge10 hB9.size)
     have z9:Vx ((w16.setRow (w12.heap.size) #[.int .u16 (idX:Int),.int .u16 (flX:Int),.slice qAX qsX.length qcX,.slice aAX raX.length acX,.slice bAX rbX.length bdX,.slice cAX rcX.length ccX]).setRow (w1.heap.size) #[.int .u16 (idY:Int),.int .u16 (flY:Int),.slice qAY qsY.length qcY,.slice aAY raY.length acY,.slice bAY rbY.length bdY,.slice cAY rcY.length ccY]) (w12.heap.size) 60 (MR.cells ⟨idX,flX,qAX,qcX,qsX,aAX,acX,raX,bAX,bdX,rbX,cAX,ccX,rcX⟩):=(v9_16.row (MR.cells ⟨idX,flX,qAX,qcX,qsX,aAX,acX,raX,bAX,bdX,rbX,cAX,ccX,rcX⟩)).rowO hne _
     have z10:Vx ((w16.setRow (w12.heap.size) #[.int .u16 (idX:Int),.int .u16 (flX:Int),.slice qAX qsX.length qcX,.slice aAX raX.length acX,.slice bAX rbX.length bdX,.slice cAX rcX.length ccX]).setRow (w1.heap.size) #[.int .u16 (idY:Int),.int .u16 (flY:Int),.slice qAY qsY.length qcY,.slice aAY raY.length acY,.slice bAY rbY.length bdY,.slice cAY rcY.length ccY]) (w1.heap.size) 60 (MR.cells ⟨idY,flY,qAY,qcY,qsY,aAY,acY,raY,bAY,bdY,rbY,cAY,ccY,rcY⟩):=(v10_16.rowO hne2 _).row (MR.cells ⟨idY,flY,qAY,qcY,qsY,aAY,acY,raY,bAY,bdY,rbY,cAY,ccY,rcY⟩)
     refine wpAnyH_ready (rs:=[6]) (by kernel_rfl) (by simp) ?_
     refine reg_cons _ rfl (fun K' hK=>?_) AllReadyH.nil
     rw [if_pos (by rfl)]
     refine wp_store_row 60 _ _ (by rfl) (w12.heap.size) #[.int .u16 (idX:Int),.int .u16 (flX:Int),.slice qAX qsX.length qcX,.slice aAX raX.length acX,.slice bAX rbX.length bdX,.slice cAX rcX.length ccX] (by rfl) (by rfl) _ _ v9_16 (by kernel_rfl) rfl (by kernel_rfl) ?_
     refine hK.out _ _ ⟨V4.out.below hB9 hT4,V5.out.below hB9 hT5⟩ (fun hH=>?_)
     (try simp only [Act.put,List.setIfInBounds_toArray,List.set_cons_zero,List.set_cons_succ])
     clear hK
     refine wpAnyH_ready (rs:=[7]) (by kernel_rfl) (by simp) ?_
     refine reg_cons _ rfl (fun K' hK=>?_) AllReadyH.nil
     rw [if_pos (by rfl)]
     refine wp_store_row 60 _ _ (by rfl) (w1.heap.size) #[.int .u16 (idY:Int),.int .u16 (flY:Int),.slice qAY qsY.length qcY,.slice aAY raY.length acY,.slice bAY rbY.length bdY,.slice cAY rcY.length ccY] (by rfl) (by rfl) _ _ (v10_16.rowO hne2 _) (by kernel_rfl) rfl (by kernel_rfl) ?_
     refine hK.out _ _ ⟨V4.out.below hB10 hT4,V5.out.below hB10 hT5⟩ (fun hH=>?_)
     (try simp only [Act.put,List.setIfInBounds_toArray,List.set_cons_zero,List.set_cons_succ])
     clear hK
     refine wpAnyH_done (by kernel_rfl) ?_ _
     go_wp2_with fail
     try simp only [Act.put]
     go_meet
     exact ⟨w12.heap.size,w1.heap.size,⟨idX,flX,qAX,qcX,qsX,aAX,acX,raX,bAX,bdX,rbX,cAX,ccX,rcX⟩,⟨idY,flY,qAY,qcY,qsY,aAY,acY,raY,bAY,bdY,rbY,cAY,ccY,rcY⟩,rfl,rfl,Lib.hid z9,Lib.hid z10,Lib.hid hmX,Lib.hid hmY,Lib.hid (fX.rdL (HXY.out _ hB10).1 hmX),Lib.hid (fY.rdL (HXY.out _ hB10).2 hmY),Lib.hid hB10⟩
  ·go_simp
   generalize hgw17:World.alloc _ _=w17
   have ha17':Below W2.heap.size W2 w17:=by rw [←hgw17];exact below_new _ _
   have ha17:Below W2.drew.heap.size W2.drew w17.drew:=⟨ha17'.os,ha17'.tape,ha17'.output,ha17'.size,ha17'.block⟩
   have vn17:Vx w17.drew W2.heap.size 60 zM6:=by
    have h0:Vx w17 W2.heap.size 60 zM6:=by rw [←hgw17];exact Vx.new W2 _ _
    exact h0
   clear hgw17
   have hb17:Below W2.heap.size W2 w17.drew:=((Below.refl W2.heap.size W2).drew).trans (ha17.mono ((Below.refl W2.heap.size W2).drew).size)
   refine hK.out _ _ ⟨V4.out.below hb17 hT4,V5.out.below hb17 hT5⟩ (fun hH=>?_)
   (try simp only [Act.put,List.setIfInBounds_toArray,List.set_cons_zero,List.set_cons_succ])
   clear hK
   have hs17:W2.heap.size<w17.heap.size:=vn17.lt
   refine wpAnyH_ready (rs:=[1,5]) (by kernel_rfl) (by simp) ?_
   refine reg_cons _ rfl (fun K' hK=>?_) (reg_cons _ rfl (fun K' hK=>?_) AllReadyH.nil)
   ·go_simp
    go_at_call 20
    refine (turned_at x w17.drew (HXY.out _ hb17).1 cx).mono ?_
    rintro e w18 ⟨⟨idX,flX,qAX,qcX,qsX,aAX,acX,raX,bAX,bdX,rbX,cAX,ccX,rcX⟩,hmX,rfl,hoX,hb18'⟩
    unfold MR.cells
    dsimp only
    have hb18:Below W2.heap.size W2 w18:=(hb17).trans (hb18'.mono (hb17).size)
    refine hK.out _ _ ⟨V4.out.below hb18 hT4,V5.out.below hb18 hT5⟩ (fun hH=>?_)
    (try simp only [Act.put,List.setIfInBounds_toArray,List.set_cons_zero,List.set_cons_succ])
    clear hK
    have hs18:w17.heap.size≤w18.heap.size:=hb18'.size
    have hoX:MOwF w18 w17.heap.size ⟨idX,flX,qAX,qcX,qsX,aAX,acX,raX,bAX,bdX,rbX,cAX,ccX,rcX⟩:=hoX
    have hf18:=Below.refl w18.heap.size w18
    have v9_18:=vn17.below hb18' vn17.lt
    refine wpAnyH_ready (rs:=[3,5]) (by kernel_rfl) (by simp) ?_
    refine reg_cons _ rfl (fun K' hK=>?_) (reg_cons _ rfl (fun K' hK=>?_) AllReadyH.nil)
    ·go_simp
     go_at_call 20
     refine (turned_at y w18 (HXY.out _ hb18).2 cy).mono ?_
     rintro e w19 ⟨⟨idY,flY,qAY,qcY,qsY,aAY,acY,raY,bAY,bdY,rbY,cAY,ccY,rcY⟩,hmY,rfl,hoY,hb19'⟩
     unfold MR.cells
     dsimp only
     have hb19:Below W2.heap.size W2 w19:=(hb18).trans (hb19'.mono (hb18).size)
     refine hK.out _ _ ⟨V4.out.below hb19 hT4,V5.out.below hb19 hT5⟩ (fun hH=>?_)
     (try simp only [Act.put,List.setIfInBounds_toArray,List.set_cons_zero,List.set_cons_succ])
     clear hK
     have hs19:w18.heap.size≤w19.heap.size:=hb19'.size
     have hoY:MOwF w19 w18.heap.size ⟨idY,flY,qAY,qcY,qsY,aAY,acY,raY,bAY,bdY,rbY,cAY,ccY,rcY⟩:=hoY
     have hf19:=Below.refl w19.heap.size w19
     have v9_19:=v9_18.below hb19' v9_18.lt
     have hfX_19:=hf18.trans (hb19'.mono hf18.size)
     refine wpAnyH_ready (rs:=[5]) (by kernel_rfl) (by simp) ?_
     refine reg_cons _ rfl (fun K' hK=>?_) AllReadyH.nil
     go_simp
     generalize hgw20:World.alloc _ _=w20
     have ha20':Below w19.heap.size w19 w20:=by rw [←hgw20];exact below_new _ _
     have ha20:Below w19.heap.size w19 w20:=⟨ha20'.os,ha20'.tape,ha20'.output,ha20'.size,ha20'.block⟩
     have vn20:Vx w20 w19.heap.size 60 zM6:=by
      have h0:Vx w20 w19.heap.size 60 zM6:=by rw [←hgw20];exact Vx.new w19 _ _
      exact h0
     clear hgw20
     have hb20:Below W2.heap.size W2 w20:=(hb19).trans (ha20.mono (hb19).size)
     refine hK.out _ _ ⟨V4.out.below hb20 hT4,V5.out.below hb20 hT5⟩ (fun hH=>?_)
     (try simp only [Act.put,List.setIfInBounds_toArray,List.set_cons_zero,List.set_cons_succ])
     clear hK
     have v9_20:=v9_19.below ha20 v9_19.lt
     have hs20:w19.heap.size<w20.heap.size:=vn20.lt
     have hfX_20:=hfX_19.trans (ha20.mono hfX_19.size)
     have hgX_20:=hfX_19.size
     have hfY_20:=hf19.trans (ha20.mono hf19.size)
     have hgY_20:=hf19.size
     have hWB:W2.heap.size≤w20.heap.size:=(hb20).size
     have hne:W2.heap.size≠w19.heap.size:=by omega
     have hne2:w19.heap.size≠W2.heap.size:=by omega
     have hge9:W2.heap.size≤W2.heap.size:=by omega
     have hge10:W2.heap.size≤w19.heap.size:=by omega
     have fX:=boxes_fin #[.int .u16 (idX:Int),.int .u16 (flX:Int),.slice qAX qsX.length qcX,.slice aAX raX.length acX,.slice bAX rbX.length bdX,.slice cAX rcX.length ccX] #[.int .u16 (idY:Int),.int .u16 (flY:Int),.slice qAY qsY.length qcY,.slice aAY raY.length acY,.slice bAY rbY.length bdY,.slice cAY rcY.length ccY] hoX hfX_20 (show W2.heap.size<_∨_ by first | (left;omega) | (right;omega)) (show w19.heap.size<_∨_ by first | (left;omega) | (right;omega))
     have fY:=boxes_fin #[.int .u16 (idX:Int),.int .u16 (flX:Int),.slice qAX qsX.length qcX,.slice aAX raX.length acX,.slice bAX rbX.length bdX,.slice cAX rcX.length ccX] #[.int .u16 (idY:Int),.int .u16 (flY:Int),.slice qAY qsY.length qcY,.slice aAY raY.length acY,.slice bAY rbY.length bdY,.slice cAY rcY.length ccY] hoY hfY_20 (show W2.heap.size<_∨_ by first | (left;omega) | (right;omega)) (show w19.heap.size<_∨_ by first | (left;omega) | (right;omega))
     have hO9:=Only.row w20 (W2.heap.size) #[.int .u16 (idX:Int),.int .u16 (flX:Int),.slice qAX qsX.length qcX,.slice aAX raX.length acX,.slice bAX rbX.length bdX,.slice cAX rcX.length ccX]
     have hO10:=Only.row (w20.setRow (W2.heap.size) #[.int .u16 (idX:Int),.int .u16 (flX:Int),.slice qAX qsX.length qcX,.slice aAX raX.length acX,.slice bAX rbX.length bdX,.slice cAX rcX.length ccX]) (w19.heap.size) #[.int .u16 (idY:Int),.int .u16 (flY:Int),.slice qAY qsY.length qcY,.slice aAY raY.length acY,.slice bAY rbY.length bdY,.slice cAY rcY.length ccY]
     have hB9:Below W2.heap.size W2 (w20.setRow (W2.heap.size) #[.int .u16 (idX:Int),.int .u16 (flX:Int),.slice qAX qsX.length qcX,.slice aAX raX.length acX,.slice bAX rbX.length bdX,.slice cAX rcX.length ccX]):=(hb20).trans (hO9.below hge9 hWB)
     have hB10:Below W2.heap.size W2 ((w20.setRow (W2.heap.size) #[.int .u16 (idX:Int),.int .u16 (flX:Int),.slice qAX qsX.length qcX,.slice aAX raX.length acX,.slice bAX rbX.length bdX,.slice cAX rcX.length ccX]).setRow (w19.heap.size) #[.int .u16 (idY:Int),.int .u16 (flY:Int),.slice qAY qsY.length qcY,.slice aAY raY.length acY,.slice bAY rbY.length bdY,.slice cAY rcY.length ccY]):=hB9.trans (hO10.below hge10 hB9.size)
     have z9:Vx ((w20.setRow (W2.heap.size) #[.int .u16 (idX:Int),.int .u16 (flX:Int),.slice qAX qsX.length qcX,.slice aAX raX.length acX,.slice bAX rbX.length bdX,.slice cAX rcX.length ccX]).setRow (w19.heap.size) #[.int .u16 (idY:Int),.int .u16 (flY:Int),.slice qAY qsY.length qcY,.slice aAY raY.length acY,.slice bAY rbY.length bdY,.slice cAY rcY.length ccY]) (W2.heap.size) 60 (MR.cells ⟨idX,flX,qAX,qcX,qsX,aAX,acX,raX,bAX,bdX,rbX,cAX,ccX,rcX⟩):=(v9_20.row (MR.cells ⟨idX,flX,qAX,qcX,qsX,aAX,acX,raX,bAX,bdX,rbX,cAX,ccX,rcX⟩)).rowO hne _
     have z10:Vx ((w20.setRow (W2.heap.size) #[.int .u16 (idX:Int),.int .u16 (flX:Int),.slice qAX qsX.length qcX,.slice aAX raX.length acX,.slice bAX rbX.length bdX,.slice cAX rcX.length ccX]).setRow (w19.heap.size) #[.int .u16 (idY:Int),.int .u16 (flY:Int),.slice qAY qsY.length qcY,.slice aAY raY.length acY,.slice bAY rbY.length bdY,.slice cAY rcY.length ccY]) (w19.heap.size) 60 (MR.cells ⟨idY,flY,qAY,qcY,qsY,aAY,acY,raY,bAY,bdY,rbY,cAY,ccY,rcY⟩):=(vn20.rowO hne2 _).row (MR.cells ⟨idY,flY,qAY,qcY,qsY,aAY,acY,raY,bAY,bdY,rbY,cAY,ccY,rcY⟩)
     refine wpAnyH_ready (rs:=[6]) (by kernel_rfl) (by simp) ?_
     refine reg_cons _ rfl (fun K' hK=>?_) AllReadyH.nil
     rw [if_pos (by rfl)]
     refine wp_store_row 60 _ _ (by rfl) (W2.heap.size) #[.int .u16 (idX:Int),.int .u16 (flX:Int),.slice qAX qsX.length qcX,.slice aAX raX.length acX,.slice bAX rbX.length bdX,.slice cAX rcX.length ccX] (by rfl) (by rfl) _ _ v9_20 (by kernel_rfl) rfl (by kernel_rfl) ?_
     refine hK.out _ _ ⟨V4.out.below hB9 hT4,V5.out.below hB9 hT5⟩ (fun hH=>?_)
     (try simp only [Act.put,List.setIfInBounds_toArray,List.set_cons_zero,List.set_cons_succ])
     clear hK
     refine wpAnyH_ready (rs:=[7]) (by kernel_rfl) (by simp) ?_
     refine reg_cons _ rfl (fun K' hK=>?_) AllReadyH.nil
     rw [if_pos (by rfl)]
     refine wp_store_row 60 _ _ (by rfl) (w19.heap.size) #[.int .u16 (idY:Int),.int .u16 (flY:Int),.slice qAY qsY.length qcY,.slice aAY raY.length acY,.slice bAY rbY.length bdY,.slice cAY rcY.length ccY] (by rfl) (by rfl) _ _ (vn20.rowO hne2 _) (by kernel_rfl) rfl (by kernel_rfl) ?_
     refine hK.out _ _ ⟨V4.out.below hB10 hT4,V5.out.below hB10 hT5⟩ (fun hH=>?_)
     (try simp only [Act.put,List.setIfInBounds_toArray,List.set_cons_zero,List.set_cons_succ])
     clear hK
     refine wpAnyH_done (by kernel_rfl) ?_ _
     go_wp2_with fail
     try simp only [Act.put]
     go_meet
     exact ⟨W2.heap.size,w19.heap.size,⟨idX,flX,qAX,qcX,qsX,aAX,acX,raX,bAX,bdX,rbX,cAX,ccX,rcX⟩,⟨idY,flY,qAY,qcY,qsY,aAY,acY,raY,bAY,bdY,rbY,cAY,ccY,rcY⟩,rfl,rfl,Lib.hid z9,Lib.hid z10,Lib.hid hmX,Lib.hid hmY,Lib.hid (fX.rdL (HXY.out _ hB10).1 hmX),Lib.hid (fY.rdL (HXY.out _ hB10).2 hmY),Lib.hid hB10⟩
    ·go_simp
     generalize hgw21:World.alloc _ _=w21
     have ha21':Below w18.heap.size w18 w21:=by rw [←hgw21];exact below_new _ _
     have ha21:Below w18.heap.size w18 w21:=⟨ha21'.os,ha21'.tape,ha21'.output,ha21'.size,ha21'.block⟩
     have vn21:Vx w21 w18.heap.size 60 zM6:=by
      have h0:Vx w21 w18.heap.size 60 zM6:=by rw [←hgw21];exact Vx.new w18 _ _
      exact h0
     clear hgw21
     have hb21:Below W2.heap.size W2 w21:=(hb18).trans (ha21.mono (hb18).size)
     refine hK.out _ _ ⟨V4.out.below hb21 hT4,V5.out.below hb21 hT5⟩ (fun hH=>?_)
     (try simp only [Act.put,List.setIfInBounds_toArray,List.set_cons_zero,List.set_cons_succ])
     clear hK
     have v9_21:=v9_18.below ha21 v9_18.lt
     have hs21:w18.heap.size<w21.heap.size:=vn21.lt
     have hfX_21:=hf18.trans (ha21.mono hf18.size)
     have hgX_21:=hf18.size
     refine wpAnyH_ready (rs:=[3]) (by kernel_rfl) (by simp) ?_
     refine reg_cons _ rfl (fun K' hK=>?_) AllReadyH.nil
     go_simp
     go_at_call 20
     refine (turned_at y w21 (HXY.out _ hb21).2 cy).mono ?_
     rintro e w22 ⟨⟨idY,flY,qAY,qcY,qsY,aAY,acY,raY,bAY,bdY,rbY,cAY,ccY,rcY⟩,hmY,rfl,hoY,hb22'⟩
     unfold MR.cells
     dsimp only
     have hb22:Below W2.heap.size W2 w22:=(hb21).trans (hb22'.mono (hb21).size)
     refine hK.out _ _ ⟨V4.out.below hb22 hT4,V5.out.below hb22 hT5⟩ (fun hH=>?_)
     (try simp only [Act.put,List.setIfInBounds_toArray,List.set_cons_zero,List.set_cons_succ])
     clear hK
     have hs22:w21.heap.size≤w22.heap.size:=hb22'.size
     have hoY:MOwF w22 w21.heap.size ⟨idY,flY,qAY,qcY,qsY,aAY,acY,raY,bAY,bdY,rbY,cAY,ccY,rcY⟩:=hoY
     have hf22:=Below.refl w22.heap.size w22
     have v9_22:=v9_21.below hb22' v9_21.lt
     have v10_22:=vn21.below hb22' vn21.lt
     have hfX_22:=hfX_21.trans (hb22'.mono hfX_21.size)
     have hWB:W2.heap.size≤w22.heap.size:=(hb22).size
     have hne:W2.heap.size≠w18.heap.size:=by omega
     have hne2:w18.heap.size≠W2.heap.size:=by omega
     have hge9:W2.heap.size≤W2.heap.size:=by omega
     have hge10:W2.heap.size≤w18.heap.size:=by omega
     have fX:=boxes_fin #[.int .u16 (idX:Int),.int .u16 (flX:Int),.slice qAX qsX.length qcX,.slice aAX raX.length acX,.slice bAX rbX.length bdX,.slice cAX rcX.length ccX] #[.int .u16 (idY:Int),.int .u16 (flY:Int),.slice qAY qsY.length qcY,.slice aAY raY.length acY,.slice bAY rbY.length bdY,.slice cAY rcY.length ccY] hoX hfX_22 (show W2.heap.size<_∨_ by first | (left;omega) | (right;omega)) (show w18.heap.size<_∨_ by first | (left;omega) | (right;omega))
     have fY:=boxes_fin #[.int .u16 (idX:Int),.int .u16 (flX:Int),.slice qAX qsX.length qcX,.slice aAX raX.length acX,.slice bAX rbX.length bdX,.slice cAX rcX.length ccX] #[.int .u16 (idY:Int),.int .u16 (flY:Int),.slice qAY qsY.length qcY,.slice aAY raY.length acY,.slice bAY rbY.length bdY,.slice cAY rcY.length ccY] hoY hf22 (show W2.heap.size<_∨_ by first | (left;omega) | (right;omega)) (show w18.heap.size<_∨_ by first | (left;omega) | (right;omega))
     have hO9:=Only.row w22 (W2.heap.size) #[.int .u16 (idX:Int),.int .u16 (flX:Int),.slice qAX qsX.length qcX,.slice aAX raX.length acX,.slice bAX rbX.length bdX,.slice cAX rcX.length ccX]
     have hO10:=Only.row (w22.setRow (W2.heap.size) #[.int .u16 (idX:Int),.int .u16 (flX:Int),.slice qAX qsX.length qcX,.slice aAX raX.length acX,.slice bAX rbX.length bdX,.slice cAX rcX.length ccX]) (w18.heap.size) #[.int .u16 (idY:Int),.int .u16 (flY:Int),.slice qAY qsY.length qcY,.slice aAY raY.length acY,.slice bAY rbY.length bdY,.slice cAY rcY.length ccY]
     have hB9:Below W2.heap.size W2 (w22.setRow (W2.heap.size) #[.int .u16 (idX:Int),.int .u16 (flX:Int),.slice qAX qsX.length qcX,.slice aAX raX.length acX,.slice bAX rbX.length bdX,.slice cAX rcX.length ccX]):=(hb22).trans (hO9.below hge9 hWB)
     have hB10:Below W2.heap.size W2 ((w22.setRow (W2.heap.size) #[.int .u16 (idX:Int),.int .u16 (flX:Int),.slice qAX qsX.length qcX,.slice aAX raX.length acX,.slice bAX rbX.length bdX,.slice cAX rcX.length ccX]).setRow (w18.heap.size) #[.int .u16 (idY:Int),.int .u16 (flY:Int),.slice qAY qsY.length qcY,.slice aAY raY.length acY,.slice bAY rbY.length bdY,.slice cAY rcY.length ccY]):=hB9.trans (hO10.below hge10 hB9.size)
     have z9:Vx ((w22.setRow (W2.heap.size) #[.int .u16 (idX:Int),.int .u16 (flX:Int),.slice qAX qsX.length qcX,.slice aAX raX.length acX,.slice bAX rbX.length bdX,.slice cAX rcX.length ccX]).setRow (w18.heap.size) #[.int .u16 (idY:Int),.int .u16 (flY:Int),.slice qAY qsY.length qcY,.slice aAY raY.length acY,.slice bAY rbY.length bdY,.slice cAY rcY.length ccY]) (W2.heap.size) 60 (MR.cells ⟨idX,flX,qAX,qcX,qsX,aAX,acX,raX,bAX,bdX,rbX,cAX,ccX,rcX⟩):=(v9_22.row (MR.cells ⟨idX,flX,qAX,qcX,qsX,aAX,acX,raX,bAX,bdX,rbX,cAX,ccX,rcX⟩)).rowO hne _
     have z10:Vx ((w22.setRow (W2.heap.size) #[.int .u16 (idX:Int),.int .u16 (flX:Int),.slice qAX qsX.length qcX,.slice aAX raX.length acX,.slice bAX rbX.length bdX,.slice cAX rcX.length ccX]).setRow (w18.heap.size) #[.int .u16 (idY:Int),.int .u16 (flY:Int),.slice qAY qsY.length qcY,.slice aAY raY.length acY,.slice bAY rbY.length bdY,.slice cAY rcY.length ccY]) (w18.heap.size) 60 (MR.cells ⟨idY,flY,qAY,qcY,qsY,aAY,acY,raY,bAY,bdY,rbY,cAY,ccY,rcY⟩):=(v10_22.rowO hne2 _).row (MR.cells ⟨idY,flY,qAY,qcY,qsY,aAY,acY,raY,bAY,bdY,rbY,cAY,ccY,rcY⟩)
     refine wpAnyH_ready (rs:=[6]) (by kernel_rfl) (by simp) ?_
     refine reg_cons _ rfl (fun K' hK=>?_) AllReadyH.nil
     rw [if_pos (by rfl)]
     refine wp_store_row 60 _ _ (by rfl) (W2.heap.size) #[.int .u16 (idX:Int),.int .u16 (flX:Int),.slice qAX qsX.length qcX,.slice aAX raX.length acX,.slice bAX rbX.length bdX,.slice cAX rcX.length ccX] (by rfl) (by rfl) _ _ v9_22 (by kernel_rfl) rfl (by kernel_rfl) ?_
     refine hK.out _ _ ⟨V4.out.below hB9 hT4,V5.out.below hB9 hT5⟩ (fun hH=>?_)
     (try simp only [Act.put,List.setIfInBounds_toArray,List.set_cons_zero,List.set_cons_succ])
     clear hK
     refine wpAnyH_ready (rs:=[7]) (by kernel_rfl) (by simp) ?_
     refine reg_cons _ rfl (fun K' hK=>?_) AllReadyH.nil
     rw [if_pos (by rfl)]
     refine wp_store_row 60 _ _ (by rfl) (w18.heap.size) #[.int .u16 (idY:Int),.int .u16 (flY:Int),.slice qAY qsY.length qcY,.slice aAY raY.length acY,.slice bAY rbY.length bdY,.slice cAY rcY.length ccY] (by rfl) (by rfl) _ _ (v10_22.rowO hne2 _) (by kernel_rfl) rfl (by kernel_rfl) ?_
     refine hK.out _ _ ⟨V4.out.below hB10 hT4,V5.out.below hB10 hT5⟩ (fun hH=>?_)
     (try simp only [Act.put,List.setIfInBounds_toArray,List.set_cons_zero,List.set_cons_succ])
     clear hK
     refine wpAnyH_done (by kernel_rfl) ?_ _
     go_wp2_with fail
     try simp only [Act.put]
     go_meet
     exact ⟨W2.heap.size,w18.heap.size,⟨idX,flX,qAX,qcX,qsX,aAX,acX,raX,bAX,bdX,rbX,cAX,ccX,rcX⟩,⟨idY,flY,qAY,qcY,qsY,aAY,acY,raY,bAY,bdY,rbY,cAY,ccY,rcY⟩,rfl,rfl,Lib.hid z9,Lib.hid z10,Lib.hid hmX,Lib.hid hmY,Lib.hid (fX.rdL (HXY.out _ hB10).1 hmX),Lib.hid (fY.rdL (HXY.out _ hB10).2 hmY),Lib.hid hB10⟩
   ·go_simp
    generalize hgw23:World.alloc _ _=w23
    have ha23':Below w17.heap.size w17 w23:=by rw [←hgw23];exact below_new _ _
    have ha23:Below w17.drew.heap.size w17.drew w23.drew:=⟨ha23'.os,ha23'.tape,ha23'.output,ha23'.size,ha23'.block⟩
    have vn23:Vx w23.drew w17.heap.size 60 zM6:=by
     have h0:Vx w23 w17.heap.size 60 zM6:=by rw [←hgw23];exact Vx.new w17 _ _
     exact h0
    clear hgw23
    have hb23:Below W2.heap.size W2 w23.drew:=(hb17).trans (ha23.mono (hb17).size)
    refine hK.out _ _ ⟨V4.out.below hb23 hT4,V5.out.below hb23 hT5⟩ (fun hH=>?_)
    (try simp only [Act.put,List.setIfInBounds_toArray,List.set_cons_zero,List.set_cons_succ])
    clear hK
    have v9_23:=vn17.below ha23 vn17.lt
    have hs23:w17.heap.size<w23.heap.size:=vn23.lt
    refine wpAnyH_ready (rs:=[1]) (by kernel_rfl) (by simp) ?_
    refine reg_cons _ rfl (fun K' hK=>?_) AllReadyH.nil
    go_simp
    go_at_call 20
    refine (turned_at x w23.drew (HXY.out _ hb23).1 cx).mono ?_
    rintro e w24 ⟨⟨idX,flX,qAX,qcX,qsX,aAX,acX,raX,bAX,bdX,rbX,cAX,ccX,rcX⟩,hmX,rfl,hoX,hb24'⟩
    unfold MR.cells
    dsimp only
    have hb24:Below W2.heap.size W2 w24:=(hb23).trans (hb24'.mono (hb23).size)
    refine hK.out _ _ ⟨V4.out.below hb24 hT4,V5.out.below hb24 hT5⟩ (fun hH=>?_)
    (try simp only [Act.put,List.setIfInBounds_toArray,List.set_cons_zero,List.set_cons_succ])
    clear hK
    have hs24:w23.heap.size≤w24.heap.size:=hb24'.size
    have hoX:MOwF w24 w23.heap.size ⟨idX,flX,qAX,qcX,qsX,aAX,acX,raX,bAX,bdX,rbX,cAX,ccX,rcX⟩:=hoX
    have hf24:=Below.refl w24.heap.size w24
    have v9_24:=v9_23.below hb24' v9_23.lt
    have v10_24:=vn23.below hb24' vn23.lt
    refine wpAnyH_ready (rs:=[3]) (by kernel_rfl) (by simp) ?_
    refine reg_cons _ rfl (fun K' hK=>?_) AllReadyH.nil
    go_simp
    go_at_call 20
    refine (turned_at y w24 (HXY.out _ hb24).2 cy).mono ?_
    rintro e w25 ⟨⟨idY,flY,qAY,qcY,qsY,aAY,acY,raY,bAY,bdY,rbY,cAY,ccY,rcY⟩,hmY,rfl,hoY,hb25'⟩
    unfold MR.cells
    dsimp only
    have hb25:Below W2.heap.size W2 w25:=(hb24).trans (hb25'.mono (hb24).size)
    refine hK.out _ _ ⟨V4.out.below hb25 hT4,V5.out.below hb25 hT5⟩ (fun hH=>?_)
    (try simp only [Act.put,List.setIfInBounds_toArray,List.set_cons_zero,List.set_cons_succ])
    clear hK
    have hs25:w24.heap.size≤w25.heap.size:=hb25'.size
    have hoY:MOwF w25 w24.heap.size ⟨idY,flY,qAY,qcY,qsY,aAY,acY,raY,bAY,bdY,rbY,cAY,ccY,rcY⟩:=hoY
    have hf25:=Below.refl w25.heap.size w25
    have v9_25:=v9_24.below hb25' v9_24.lt
    have v10_25:=v10_24.below hb25' v10_24.lt
    have hfX_25:=hf24.trans (hb25'.mono hf24.size)
    have hWB:W2.heap.size≤w25.heap.size:=(hb25).size
    have hne:W2.heap.size≠w17.heap.size:=by omega
    have hne2:w17.heap.size≠W2.heap.size:=by omega
    have hge9:W2.heap.size≤W2.heap.size:=by omega
    have hge10:W2.heap.size≤w17.heap.size:=by omega
    have fX:=boxes_fin #[.int .u16 (idX:Int),.int .u16 (flX:Int),.slice qAX qsX.length qcX,.slice aAX raX.length acX,.slice bAX rbX.length bdX,.slice cAX rcX.length ccX] #[.int .u16 (idY:Int),.int .u16 (flY:Int),.slice qAY qsY.length qcY,.slice aAY raY.length acY,.slice bAY rbY.length bdY,.slice cAY rcY.length ccY] hoX hfX_25 (show W2.heap.size<_∨_ by first | (left;omega) | (right;omega)) (show w17.heap.size<_∨_ by first | (left;omega) | (right;omega))
    have fY:=boxes_fin #[.int .u16 (idX:Int),.int .u16 (flX:Int),.slice qAX qsX.length qcX,.slice aAX raX.length acX,.slice bAX rbX.length bdX,.slice cAX rcX.length ccX] #[.int .u16 (idY:Int),.int .u16 (flY:Int),.slice qAY qsY.length qcY,.slice aAY raY.length acY,.slice bAY rbY.length bdY,.slice cAY rcY.length ccY] hoY hf25 (show W2.heap.size<_∨_ by first | (left;omega) | (right;omega)) (show w17.heap.size<_∨_ by first | (left;omega) | (right;omega))
    have hO9:=Only.row w25 (W2.heap.size) #[.int .u16 (idX:Int),.int .u16 (flX:Int),.slice qAX qsX.length qcX,.slice aAX raX.length acX,.slice bAX rbX.length bdX,.slice cAX rcX.length ccX]
    have hO10:=Only.row (w25.setRow (W2.heap.size) #[.int .u16 (idX:Int),.int .u16 (flX:Int),.slice qAX qsX.length qcX,.slice aAX raX.length acX,.slice bAX rbX.length bdX,.slice cAX rcX.length ccX]) (w17.heap.size) #[.int .u16 (idY:Int),.int .u16 (flY:Int),.slice qAY qsY.length qcY,.slice aAY raY.length acY,.slice bAY rbY.length bdY,.slice cAY rcY.length ccY]
    have hB9:Below W2.heap.size W2 (w25.setRow (W2.heap.size) #[.int .u16 (idX:Int),.int .u16 (flX:Int),.slice qAX qsX.length qcX,.slice aAX raX.length acX,.slice bAX rbX.length bdX,.slice cAX rcX.length ccX]):=(hb25).trans (hO9.below hge9 hWB)
    have hB10:Below W2.heap.size W2 ((w25.setRow (W2.heap.size) #[.int .u16 (idX:Int),.int .u16 (flX:Int),.slice qAX qsX.length qcX,.slice aAX raX.length acX,.slice bAX rbX.length bdX,.slice cAX rcX.length ccX]).setRow (w17.heap.size) #[.int .u16 (idY:Int),.int .u16 (flY:Int),.slice qAY qsY.length qcY,.slice aAY raY.length acY,.slice bAY rbY.length bdY,.slice cAY rcY.length ccY]):=hB9.trans (hO10.below hge10 hB9.size)
    have z9:Vx ((w25.setRow (W2.heap.size) #[.int .u16 (idX:Int),.int .u16 (flX:Int),.slice qAX qsX.length qcX,.slice aAX raX.length acX,.slice bAX rbX.length bdX,.slice cAX rcX.length ccX]).setRow (w17.heap.size) #[.int .u16 (idY:Int),.int .u16 (flY:Int),.slice qAY qsY.length qcY,.slice aAY raY.length acY,.slice bAY rbY.length bdY,.slice cAY rcY.length ccY]) (W2.heap.size) 60 (MR.cells ⟨idX,flX,qAX,qcX,qsX,aAX,acX,raX,bAX,bdX,rbX,cAX,ccX,rcX⟩):=(v9_25.row (MR.cells ⟨idX,flX,qAX,qcX,qsX,aAX,acX,raX,bAX,bdX,rbX,cAX,ccX,rcX⟩)).rowO hne _
    have z10:Vx ((w25.setRow (W2.heap.size) #[.int .u16 (idX:Int),.int .u16 (flX:Int),.slice qAX qsX.length qcX,.slice aAX raX.length acX,.slice bAX rbX.length bdX,.slice cAX rcX.length ccX]).setRow (w17.heap.size) #[.int .u16 (idY:Int),.int .u16 (flY:Int),.slice qAY qsY.length qcY,.slice aAY raY.length acY,.slice bAY rbY.length bdY,.slice cAY rcY.length ccY]) (w17.heap.size) 60 (MR.cells ⟨idY,flY,qAY,qcY,qsY,aAY,acY,raY,bAY,bdY,rbY,cAY,ccY,rcY⟩):=(v10_25.rowO hne2 _).row (MR.cells ⟨idY,flY,qAY,qcY,qsY,aAY,acY,raY,bAY,bdY,rbY,cAY,ccY,rcY⟩)
    refine wpAnyH_ready (rs:=[6]) (by kernel_rfl) (by simp) ?_
    refine reg_cons _ rfl (fun K' hK=>?_) AllReadyH.nil
    rw [if_pos (by rfl)]
    refine wp_store_row 60 _ _ (by rfl) (W2.heap.size) #[.int .u16 (idX:Int),.int .u16 (flX:Int),.slice qAX qsX.length qcX,.slice aAX raX.length acX,.slice bAX rbX.length bdX,.slice cAX rcX.length ccX] (by rfl) (by rfl) _ _ v9_25 (by kernel_rfl) rfl (by kernel_rfl) ?_
    refine hK.out _ _ ⟨V4.out.below hB9 hT4,V5.out.below hB9 hT5⟩ (fun hH=>?_)
    (try simp only [Act.put,List.setIfInBounds_toArray,List.set_cons_zero,List.set_cons_succ])
    clear hK
    refine wpAnyH_ready (rs:=[7]) (by kernel_rfl) (by simp) ?_
    refine reg_cons _ rfl (fun K' hK=>?_) AllReadyH.nil
    rw [if_pos (by rfl)]
    refine wp_store_row 60 _ _ (by rfl) (w17.heap.size) #[.int .u16 (idY:Int),.int .u16 (flY:Int),.slice qAY qsY.length qcY,.slice aAY raY.length acY,.slice bAY rbY.length bdY,.slice cAY rcY.length ccY] (by rfl) (by rfl) _ _ (v10_25.rowO hne2 _) (by kernel_rfl) rfl (by kernel_rfl) ?_
    refine hK.out _ _ ⟨V4.out.below hB10 hT4,V5.out.below hB10 hT5⟩ (fun hH=>?_)
    (try simp only [Act.put,List.setIfInBounds_toArray,List.set_cons_zero,List.set_cons_succ])
    clear hK
    refine wpAnyH_done (by kernel_rfl) ?_ _
    go_wp2_with fail
    try simp only [Act.put]
    go_meet
    exact ⟨W2.heap.size,w17.heap.size,⟨idX,flX,qAX,qcX,qsX,aAX,acX,raX,bAX,bdX,rbX,cAX,ccX,rcX⟩,⟨idY,flY,qAY,qcY,qsY,aAY,acY,raY,bAY,bdY,rbY,cAY,ccY,rcY⟩,rfl,rfl,Lib.hid z9,Lib.hid z10,Lib.hid hmX,Lib.hid hmY,Lib.hid (fX.rdL (HXY.out _ hB10).1 hmX),Lib.hid (fY.rdL (HXY.out _ hB10).2 hmY),Lib.hid hB10⟩
  ·go_simp
   generalize hgw26:World.alloc _ _=w26
   have ha26':Below W2.heap.size W2 w26:=by rw [←hgw26];exact below_new _ _
   have ha26:Below W2.drew.heap.size W2.drew w26.drew:=⟨ha26'.os,ha26'.tape,ha26'.output,ha26'.size,ha26'.block⟩
   have vn26:Vx w26.drew W2.heap.size 60 zM6:=by
    have h0:Vx w26 W2.heap.size 60 zM6:=by rw [←hgw26];exact Vx.new W2 _ _
    exact h0
   clear hgw26
   have hb26:Below W2.heap.size W2 w26.drew:=((Below.refl W2.heap.size W2).drew).trans (ha26.mono ((Below.refl W2.heap.size W2).drew).size)
   refine hK.out _ _ ⟨V4.out.below hb26 hT4,V5.out.below hb26 hT5⟩ (fun hH=>?_)
   (try simp only [Act.put,List.setIfInBounds_toArray,List.set_cons_zero,List.set_cons_succ])
   clear hK
   have hs26:W2.heap.size<w26.heap.size:=vn26.lt
   refine wpAnyH_ready (rs:=[1,4]) (by kernel_rfl) (by simp) ?_
   refine reg_cons _ rfl (fun K' hK=>?_) (reg_cons _ rfl (fun K' hK=>?_) AllReadyH.nil)
   ·go_simp
    go_at_call 20
    refine (turned_at x w26.drew (HXY.out _ hb26).1 cx).mono ?_
    rintro e w27 ⟨⟨idX,flX,qAX,qcX,qsX,aAX,acX,raX,bAX,bdX,rbX,cAX,ccX,rcX⟩,hmX,rfl,hoX,hb27'⟩
    unfold MR.cells
    dsimp only
    have hb27:Below W2.heap.size W2 w27:=(hb26).trans (hb27'.mono (hb26).size)
    refine hK.out _ _ ⟨V4.out.below hb27 hT4,V5.out.below hb27 hT5⟩ (fun hH=>?_)
    (try simp only [Act.put,List.setIfInBounds_toArray,List.set_cons_zero,List.set_cons_succ])
    clear hK
    have hs27:w26.heap.size≤w27.heap.size:=hb27'.size
    have hoX:MOwF w27 w26.heap.size ⟨idX,flX,qAX,qcX,qsX,aAX,acX,raX,bAX,bdX,rbX,cAX,ccX,rcX⟩:=hoX
    have hf27:=Below.refl w27.heap.size w27
    have v10_27:=vn26.below hb27' vn26.lt
    refine wpAnyH_ready (rs:=[3,4]) (by kernel_rfl) (by simp) ?_
    refine reg_cons _ rfl (fun K' hK=>?_) (reg_cons _ rfl (fun K' hK=>?_) AllReadyH.nil)
    ·go_simp
     go_at_call 20
     refine (turned_at y w27 (HXY.out _ hb27).2 cy).mono ?_
     rintro e w28 ⟨⟨idY,flY,qAY,qcY,qsY,aAY,acY,raY,bAY,bdY,rbY,cAY,ccY,rcY⟩,hmY,rfl,hoY,hb28'⟩
     unfold MR.cells
     dsimp only
     have hb28:Below W2.heap.size W2 w28:=(hb27).trans (hb28'.mono (hb27).size)
     refine hK.out _ _ ⟨V4.out.below hb28 hT4,V5.out.below hb28 hT5⟩ (fun hH=>?_)
     (try simp only [Act.put,List.setIfInBounds_toArray,List.set_cons_zero,List.set_cons_succ])
     clear hK
     have hs28:w27.heap.size≤w28.heap.size:=hb28'.size
     have hoY:MOwF w28 w27.heap.size ⟨idY,flY,qAY,qcY,qsY,aAY,acY,raY,bAY,bdY,rbY,cAY,ccY,rcY⟩:=hoY
     have hf28:=Below.refl w28.heap.size w28
     have v10_28:=v10_27.below hb28' v10_27.lt
     have hfX_28:=hf27.trans (hb28'.mono hf27.size)
     refine wpAnyH_ready (rs:=[4]) (by kernel_rfl) (by simp) ?_
     refine reg_cons _ rfl (fun K' hK=>?_) AllReadyH.nil
     go_simp
     generalize hgw29:World.alloc _ _=w29
     have ha29':Below w28.heap.size w28 w29:=by rw [←hgw29];exact below_new _ _
     have ha29:Below w28.heap.size w28 w29:=⟨ha29'.os,ha29'.tape,ha29'.output,ha29'.size,ha29'.block⟩
     have vn29:Vx w29 w28.heap.size 60 zM6:=by
      have h0:Vx w29 w28.heap.size 60 zM6:=by rw [←hgw29];exact Vx.new w28 _ _
      exact h0
     clear hgw29
     have hb29:Below W2.heap.size W2 w29:=(hb28).trans (ha29.mono (hb28).size)
     refine hK.out _ _ ⟨V4.out.below hb29 hT4,V5.out.below hb29 hT5⟩ (fun hH=>?_)
     (try simp only [Act.put,List.setIfInBounds_toArray,List.set_cons_zero,List.set_cons_succ])
     clear hK
     have v10_29:=v10_28.below ha29 v10_28.lt
     have hs29:w28.heap.size<w29.heap.size:=vn29.lt
     have hfX_29:=hfX_28.trans (ha29.mono hfX_28.size)
     have hgX_29:=hfX_28.size
     have hfY_29:=hf28.trans (ha29.mono hf28.size)
     have hgY_29:=hf28.size
     have hWB:W2.heap.size≤w29.heap.size:=(hb29).size
     have hne:w28.heap.size≠W2.heap.size:=by omega
     have hne2:W2.heap.size≠w28.heap.size:=by omega
     have hge9:W2.heap.size≤w28.heap.size:=by omega
     have hge10:W2.heap.size≤W2.heap.size:=by omega
     have fX:=boxes_fin #[.int .u16 (idX:Int),.int .u16 (flX:Int),.slice qAX qsX.length qcX,.slice aAX raX.length acX,.slice bAX rbX.length bdX,.slice cAX rcX.length ccX] #[.int .u16 (idY:Int),.int .u16 (flY:Int),.slice qAY qsY.length qcY,.slice aAY raY.length acY,.slice bAY rbY.length bdY,.slice cAY rcY.length ccY] hoX hfX_29 (show w28.heap.size<_∨_ by first | (left;omega) | (right;omega)) (show W2.heap.size<_∨_ by first | (left;omega) | (right;omega))
     have fY:=boxes_fin #[.int .u16 (idX:Int),.int .u16 (flX:Int),.slice qAX qsX.length qcX,.slice aAX raX.length acX,.slice bAX rbX.length bdX,.slice cAX rcX.length ccX] #[.int .u16 (idY:Int),.int .u16 (flY:Int),.slice qAY qsY.length qcY,.slice aAY raY.length acY,.slice bAY rbY.length bdY,.slice cAY rcY.length ccY] hoY hfY_29 (show w28.heap.size<_∨_ by first | (left;omega) | (right;omega)) (show W2.heap.size<_∨_ by first | (left;omega) | (right;omega))
     have hO9:=Only.row w29 (w28.heap.size) #[.int .u16 (idX:Int),.int .u16 (flX:Int),.slice qAX qsX.length qcX,.slice aAX raX.length acX,.slice bAX rbX.length bdX,.slice cAX rcX.length ccX]
     have hO10:=Only.row (w29.setRow (w28.heap.size) #[.int .u16 (idX:Int),.int .u16 (flX:Int),.slice qAX qsX.length qcX,.slice aAX raX.length acX,.slice bAX rbX.length bdX,.slice cAX rcX.length ccX]) (W2.heap.size) #[.int .u16 (idY:Int),.int .u16 (flY:Int),.slice qAY qsY.length qcY,.slice aAY raY.length acY,.slice bAY rbY.length bdY,.slice cAY rcY.length ccY]
     have hB9:Below W2.heap.size W2 (w29.setRow (w28.heap.size) #[.int .u16 (idX:Int),.int .u16 (flX:Int),.slice qAX qsX.length qcX,.slice aAX raX.length acX,.slice bAX rbX.length bdX,.slice cAX rcX.length ccX]):=(hb29).trans (hO9.below hge9 hWB)
     have hB10:Below W2.heap.size W2 ((w29.setRow (w28.heap.size) #[.int .u16 (idX:Int),.int .u16 (flX:Int),.slice qAX qsX.length qcX,.slice aAX raX.length acX,.slice bAX rbX.length bdX,.slice cAX rcX.length ccX]).setRow (W2.heap.size) #[.int .u16 (idY:Int),.int .u16 (flY:Int),.slice qAY qsY.length qcY,.slice aAY raY.length acY,.slice bAY rbY.length bdY,.slice cAY rcY.length ccY]):=hB9.trans (hO10.below hge10 hB9.size)
     have z9:Vx ((w29.setRow (w28.heap.size) #[.int .u16 (idX:Int),.int .u16 (flX:Int),.slice qAX qsX.length qcX,.slice aAX raX.length acX,.slice bAX rbX.length bdX,.slice cAX rcX.length ccX]).setRow (W2.heap.size) #[.int .u16 (idY:Int),.int .u16 (flY:Int),.slice qAY qsY.length qcY,.slice aAY raY.length acY,.slice bAY rbY.length bdY,.slice cAY rcY.length ccY]) (w28.heap.size) 60 (MR.cells ⟨idX,flX,qAX,qcX,qsX,aAX,acX,raX,bAX,bdX,rbX,cAX,ccX,rcX⟩):=(vn29.row (MR.cells ⟨idX,flX,qAX,qcX,qsX,aAX,acX,raX,bAX,bdX,rbX,cAX,ccX,rcX⟩)).rowO hne _
     have z10:Vx ((w29.setRow (w28.heap.size) #[.int .u16 (idX:Int),.int .u16 (flX:Int),.slice qAX qsX.length qcX,.slice aAX raX.length acX,.slice bAX rbX.length bdX,.slice cAX rcX.length ccX]).setRow (W2.heap.size) #[.int .u16 (idY:Int),.int .u16 (flY:Int),.slice qAY qsY.length qcY,.slice aAY raY.length acY,.slice bAY rbY.length bdY,.slice cAY rcY.length ccY]) (W2.heap.size) 60 (MR.cells ⟨idY,flY,qAY,qcY,qsY,aAY,acY,raY,bAY,bdY,rbY,cAY,ccY,rcY⟩):=(v10_29.rowO hne2 _).row (MR.cells ⟨idY,flY,qAY,qcY,qsY,aAY,acY,raY,bAY,bdY,rbY,cAY,ccY,rcY⟩)
     refine wpAnyH_ready (rs:=[6]) (by kernel_rfl) (by simp) ?_
     refine reg_cons _ rfl (fun K' hK=>?_) AllReadyH.nil
     rw [if_pos (by rfl)]
     refine wp_store_row 60 _ _ (by rfl) (w28.heap.size) #[.int .u16 (idX:Int),.int .u16 (flX:Int),.slice qAX qsX.length qcX,.slice aAX raX.length acX,.slice bAX rbX.length bdX,.slice cAX rcX.length ccX] (by rfl) (by rfl) _ _ vn29 (by kernel_rfl) rfl (by kernel_rfl) ?_
     refine hK.out _ _ ⟨V4.out.below hB9 hT4,V5.out.below hB9 hT5⟩ (fun hH=>?_)
     (try simp only [Act.put,List.setIfInBounds_toArray,List.set_cons_zero,List.set_cons_succ])
     clear hK
     refine wpAnyH_ready (rs:=[7]) (by kernel_rfl) (by simp) ?_
     refine reg_cons _ rfl (fun K' hK=>?_) AllReadyH.nil
     rw [if_pos (by rfl)]
     refine wp_store_row 60 _ _ (by rfl) (W2.heap.size) #[.int .u16 (idY:Int),.int .u16 (flY:Int),.slice qAY qsY.length qcY,.slice aAY raY.length acY,.slice bAY rbY.length bdY,.slice cAY rcY.length ccY] (by rfl) (by rfl) _ _ (v10_29.rowO hne2 _) (by kernel_rfl) rfl (by kernel_rfl) ?_
     refine hK.out _ _ ⟨V4.out.below hB10 hT4,V5.out.below hB10 hT5⟩ (fun hH=>?_)
     (try simp only [Act.put,List.setIfInBounds_toArray,List.set_cons_zero,List.set_cons_succ])
     clear hK
     refine wpAnyH_done (by kernel_rfl) ?_ _
     go_wp2_with fail
     try simp only [Act.put]
     go_meet
     exact ⟨w28.heap.size,W2.heap.size,⟨idX,flX,qAX,qcX,qsX,aAX,acX,raX,bAX,bdX,rbX,cAX,ccX,rcX⟩,⟨idY,flY,qAY,qcY,qsY,aAY,acY,raY,bAY,bdY,rbY,cAY,ccY,rcY⟩,rfl,rfl,Lib.hid z9,Lib.hid z10,Lib.hid hmX,Lib.hid hmY,Lib.hid (fX.rdL (HXY.out _ hB10).1 hmX),Lib.hid (fY.rdL (HXY.out _ hB10).2 hmY),Lib.hid hB10⟩
    ·go_simp
     generalize hgw30:World.alloc _ _=w30
     have ha30':Below w27.heap.size w27 w30:=by rw [←hgw30];exact below_new _ _
     have ha30:Below w27.heap.size w27 w30:=⟨ha30'.os,ha30'.tape,ha30'.output,ha30'.size,ha30'.block⟩
     have vn30:Vx w30 w27.heap.size 60 zM6:=by
      have h0:Vx w30 w27.heap.size 60 zM6:=by rw [←hgw30];exact Vx.new w27 _ _
      exact h0
     clear hgw30
     have hb30:Below W2.heap.size W2 w30:=(hb27).trans (ha30.mono (hb27).size)
     refine hK.out _ _ ⟨V4.out.below hb30 hT4,V5.out.below hb30 hT5⟩ (fun hH=>?_)
     (try simp only [Act.put,List.setIfInBounds_toArray,List.set_cons_zero,List.set_cons_succ])
     clear hK
     have v10_30:=v10_27.below ha30 v10_27.lt
     have hs30:w27.heap.size<w30.heap.size:=vn30.lt
     have hfX_30:=hf27.trans (ha30.mono hf27.size)
     have hgX_30:=hf27.size
     refine wpAnyH_ready (rs:=[3]) (by kernel_rfl) (by simp) ?_
     refine reg_cons _ rfl (fun K' hK=>?_) AllReadyH.nil
     go_simp
     go_at_call 20
     refine (turned_at y w30 (HXY.out _ hb30).2 cy).mono ?_
     rintro e w31 ⟨⟨idY,flY,qAY,qcY,qsY,aAY,acY,raY,bAY,bdY,rbY,cAY,ccY,rcY⟩,hmY,rfl,hoY,hb31'⟩
     unfold MR.cells
     dsimp only
     have hb31:Below W2.heap.size W2 w31:=(hb30).trans (hb31'.mono (hb30).size)
     refine hK.out _ _ ⟨V4.out.below hb31 hT4,V5.out.below hb31 hT5⟩ (fun hH=>?_)
     (try simp only [Act.put,List.setIfInBounds_toArray,List.set_cons_zero,List.set_cons_succ])
     clear hK
     have hs31:w30.heap.size≤w31.heap.size:=hb31'.size
     have hoY:MOwF w31 w30.heap.size ⟨idY,flY,qAY,qcY,qsY,aAY,acY,raY,bAY,bdY,rbY,cAY,ccY,rcY⟩:=hoY
     have hf31:=Below.refl w31.heap.size w31
     have v9_31:=vn30.below hb31' vn30.lt
     have v10_31:=v10_30.below hb31' v10_30.lt
     have hfX_31:=hfX_30.trans (hb31'.mono hfX_30.size)
     have hWB:W2.heap.size≤w31.heap.size:=(hb31).size
     have hne:w27.heap.size≠W2.heap.size:=by omega
     have hne2:W2.heap.size≠w27.heap.size:=by omega
     have hge9:W2.heap.size≤w27.heap.size:=by omega
     have hge10:W2.heap.size≤W2.heap.size:=by omega
     have fX:=boxes_fin #[.int .u16 (idX:Int),.int .u16 (flX:Int),.slice qAX qsX.length qcX,.slice aAX raX.length acX,.slice bAX rbX.length bdX,.slice cAX rcX.length ccX] #[.int .u16 (idY:Int),.int .u16 (flY:Int),.slice qAY qsY.length qcY,.slice aAY raY.length acY,.slice bAY rbY.length bdY,.slice cAY rcY.length ccY] hoX hfX_31 (show w27.heap.size<_∨_ by first | (left;omega) | (right;omega)) (show W2.heap.size<_∨_ by first | (left;omega) | (right;omega))
     have fY:=boxes_fin #[.int .u16 (idX:Int),.int .u16 (flX:Int),.slice qAX qsX.length qcX,.slice aAX raX.length acX,.slice bAX rbX.length bdX,.slice cAX rcX.length ccX] #[.int .u16 (idY:Int),.int .u16 (flY:Int),.slice qAY qsY.length qcY,.slice aAY raY.length acY,.slice bAY rbY.length bdY,.slice cAY rcY.length ccY] hoY hf31 (show w27.heap.size<_∨_ by first | (left;omega) | (right;omega)) (show W2.heap.size<_∨_ by first | (left;omega) | (right;omega))
     have hO9:=Only.row w31 (w27.heap.size) #[.int .u16 (idX:Int),.int .u16 (flX:Int),.slice qAX qsX.length qcX,.slice aAX raX.length acX,.slice bAX rbX.length bdX,.slice cAX rcX.length ccX]
     have hO10:=Only.row (w31.setRow (w27.heap.size) #[.int .u16 (idX:Int),.int .u16 (flX:Int),.slice qAX qsX.length qcX,.slice aAX raX.length acX,.slice bAX rbX.length bdX,.slice cAX rcX.length ccX]) (W2.heap.size) #[.int .u16 (idY:Int),.int .u16 (flY:Int),.slice qAY qsY.length qcY,.slice aAY raY.length acY,.slice bAY rbY.length bdY,.slice cAY rcY.length ccY]
     have hB9:Below W2.heap.size W2 (w31.setRow (w27.heap.size) #[.int .u16 (idX:Int),.int .u16 (flX:Int),.slice qAX qsX.length qcX,.slice aAX raX.length acX,.slice bAX rbX.length bdX,.slice cAX rcX.length ccX]):=(hb31).trans (hO9.below hge9 hWB)
     have hB10:Below W2.heap.size W2 ((w31.setRow (w27.heap.size) #[.int .u16 (idX:Int),.int .u16 (flX:Int),.slice qAX qsX.length qcX,.slice aAX raX.length acX,.slice bAX rbX.length bdX,.slice cAX rcX.length ccX]).setRow (W2.heap.size) #[.int .u16 (idY:Int),.int .u16 (flY:Int),.slice qAY qsY.length qcY,.slice aAY raY.length acY,.slice bAY rbY.length bdY,.slice cAY rcY.length ccY]):=hB9.trans (hO10.below hge10 hB9.size)
     have z9:Vx ((w31.setRow (w27.heap.size) #[.int .u16 (idX:Int),.int .u16 (flX:Int),.slice qAX qsX.length qcX,.slice aAX raX.length acX,.slice bAX rbX.length bdX,.slice cAX rcX.length ccX]).setRow (W2.heap.size) #[.int .u16 (idY:Int),.int .u16 (flY:Int),.slice qAY qsY.length qcY,.slice aAY raY.length acY,.slice bAY rbY.length bdY,.slice cAY rcY.length ccY]) (w27.heap.size) 60 (MR.cells ⟨idX,flX,qAX,qcX,qsX,aAX,acX,raX,bAX,bdX,rbX,cAX,ccX,rcX⟩):=(v9_31.row (MR.cells ⟨idX,flX,qAX,qcX,qsX,aAX,acX,raX,bAX,bdX,rbX,cAX,ccX,rcX⟩)).rowO hne _
     have z10:Vx ((w31.setRow (w27.heap.size) #[.int .u16 (idX:Int),.int .u16 (flX:Int),.slice qAX qsX.length qcX,.slice aAX raX.length acX,.slice bAX rbX.length bdX,.slice cAX rcX.length ccX]).setRow (W2.heap.size) #[.int .u16 (idY:Int),.int .u16 (flY:Int),.slice qAY qsY.length qcY,.slice aAY raY.length acY,.slice bAY rbY.length bdY,.slice cAY rcY.length ccY]) (W2.heap.size) 60 (MR.cells ⟨idY,flY,qAY,qcY,qsY,aAY,acY,raY,bAY,bdY,rbY,cAY,ccY,rcY⟩):=(v10_31.rowO hne2 _).row (MR.cells ⟨idY,flY,qAY,qcY,qsY,aAY,acY,raY,bAY,bdY,rbY,cAY,ccY,rcY⟩)
     refine wpAnyH_ready (rs:=[6]) (by kernel_rfl) (by simp) ?_
     refine reg_cons _ rfl (fun K' hK=>?_) AllReadyH.nil
     rw [if_pos (by rfl)]
     refine wp_store_row 60 _ _ (by rfl) (w27.heap.size) #[.int .u16 (idX:Int),.int .u16 (flX:Int),.slice qAX qsX.length qcX,.slice aAX raX.length acX,.slice bAX rbX.length bdX,.slice cAX rcX.length ccX] (by rfl) (by rfl) _ _ v9_31 (by kernel_rfl) rfl (by kernel_rfl) ?_
     refine hK.out _ _ ⟨V4.out.below hB9 hT4,V5.out.below hB9 hT5⟩ (fun hH=>?_)
     (try simp only [Act.put,List.setIfInBounds_toArray,List.set_cons_zero,List.set_cons_succ])
     clear hK
     refine wpAnyH_ready (rs:=[7]) (by kernel_rfl) (by simp) ?_
     refine reg_cons _ rfl (fun K' hK=>?_) AllReadyH.nil
     rw [if_pos (by rfl)]
     refine wp_store_row 60 _ _ (by rfl) (W2.heap.size) #[.int .u16 (idY:Int),.int .u16 (flY:Int),.slice qAY qsY.length qcY,.slice aAY raY.length acY,.slice bAY rbY.length bdY,.slice cAY rcY.length ccY] (by rfl) (by rfl) _ _ (v10_31.rowO hne2 _) (by kernel_rfl) rfl (by kernel_rfl) ?_
     refine hK.out _ _ ⟨V4.out.below hB10 hT4,V5.out.below hB10 hT5⟩ (fun hH=>?_)
     (try simp only [Act.put,List.setIfInBounds_toArray,List.set_cons_zero,List.set_cons_succ])
     clear hK
     refine wpAnyH_done (by kernel_rfl) ?_ _
     go_wp2_with fail
     try simp only [Act.put]
     go_meet
     exact ⟨w27.heap.size,W2.heap.size,⟨idX,flX,qAX,qcX,qsX,aAX,acX,raX,bAX,bdX,rbX,cAX,ccX,rcX⟩,⟨idY,flY,qAY,qcY,qsY,aAY,acY,raY,bAY,bdY,rbY,cAY,ccY,rcY⟩,rfl,rfl,Lib.hid z9,Lib.hid z10,Lib.hid hmX,Lib.hid hmY,Lib.hid (fX.rdL (HXY.out _ hB10).1 hmX),Lib.hid (fY.rdL (HXY.out _ hB10).2 hmY),Lib.hid hB10⟩
   ·go_simp
    generalize hgw32:World.alloc _ _=w32
    have ha32':Below w26.heap.size w26 w32:=by rw [←hgw32];exact below_new _ _
    have ha32:Below w26.drew.heap.size w26.drew w32.drew:=⟨ha32'.os,ha32'.tape,ha32'.output,ha32'.size,ha32'.block⟩
    have vn32:Vx w32.drew w26.heap.size 60 zM6:=by
     have h0:Vx w32 w26.heap.size 60 zM6:=by rw [←hgw32];exact Vx.new w26 _ _
     exact h0
    clear hgw32
    have hb32:Below W2.heap.size W2 w32.drew:=(hb26).trans (ha32.mono (hb26).size)
    refine hK.out _ _ ⟨V4.out.below hb32 hT4,V5.out.below hb32 hT5⟩ (fun hH=>?_)
    (try simp only [Act.put,List.setIfInBounds_toArray,List.set_cons_zero,List.set_cons_succ])
    clear hK
    have v10_32:=vn26.below ha32 vn26.lt
    have hs32:w26.heap.size<w32.heap.size:=vn32.lt
    refine wpAnyH_ready (rs:=[1]) (by kernel_rfl) (by simp) ?_
    refine reg_cons _ rfl (fun K' hK=>?_) AllReadyH.nil
    go_simp
    go_at_call 20
    refine (turned_at x w32.drew (HXY.out _ hb32).1 cx).mono ?_
    rintro e w33 ⟨⟨idX,flX,qAX,qcX,qsX,aAX,acX,raX,bAX,bdX,rbX,cAX,ccX,rcX⟩,hmX,rfl,hoX,hb33'⟩
    unfold MR.cells
    dsimp only
    have hb33:Below W2.heap.size W2 w33:=(hb32).trans (hb33'.mono (hb32).size)
    refine hK.out _ _ ⟨V4.out.below hb33 hT4,V5.out.below hb33 hT5⟩ (fun hH=>?_)
    (try simp only [Act.put,List.setIfInBounds_toArray,List.set_cons_zero,List.set_cons_succ])
    clear hK
    have hs33:w32.heap.size≤w33.heap.size:=hb33'.size
    have hoX:MOwF w33 w32.heap.size ⟨idX,flX,qAX,qcX,qsX,aAX,acX,raX,bAX,bdX,rbX,cAX,ccX,rcX⟩:=hoX
    have hf33:=Below.refl w33.heap.size w33
    have v9_33:=vn32.below hb33' vn32.lt
    have v10_33:=v10_32.below hb33' v10_32.lt
    refine wpAnyH_ready (rs:=[3]) (by kernel_rfl) (by simp) ?_
    refine reg_cons _ rfl (fun K' hK=>?_) AllReadyH.nil
    go_simp
    go_at_call 20
    refine (turned_at y w33 (HXY.out _ hb33).2 cy).mono ?_
    rintro e w34 ⟨⟨idY,flY,qAY,qcY,qsY,aAY,acY,raY,bAY,bdY,rbY,cAY,ccY,rcY⟩,hmY,rfl,hoY,hb34'⟩
    unfold MR.cells
    dsimp only
    have hb34:Below W2.heap.size W2 w34:=(hb33).trans (hb34'.mono (hb33).size)
    refine hK.out _ _ ⟨V4.out.below hb34 hT4,V5.out.below hb34 hT5⟩ (fun hH=>?_)
    (try simp only [Act.put,List.setIfInBounds_toArray,List.set_cons_zero,List.set_cons_succ])
    clear hK
    have hs34:w33.heap.size≤w34.heap.size:=hb34'.size
    have hoY:MOwF w34 w33.heap.size ⟨idY,flY,qAY,qcY,qsY,aAY,acY,raY,bAY,bdY,rbY,cAY,ccY,rcY⟩:=hoY
    have hf34:=Below.refl w34.heap.size w34
    have v9_34:=v9_33.below hb34' v9_33.lt
    have v10_34:=v10_33.below hb34' v10_33.lt
    have hfX_34:=hf33.trans (hb34'.mono hf33.size)
    have hWB:W2.heap.size≤w34.heap.size:=(hb34).size
    have hne:w26.heap.size≠W2.heap.size:=by omega
    have hne2:W2.heap.size≠w26.heap.size:=by omega
    have hge9:W2.heap.size≤w26.heap.size:=by omega
    have hge10:W2.heap.size≤W2.heap.size:=by omega
    have fX:=boxes_fin #[.int .u16 (idX:Int),.int .u16 (flX:Int),.slice qAX qsX.length qcX,.slice aAX raX.length acX,.slice bAX rbX.length bdX,.slice cAX rcX.length ccX] #[.int .u16 (idY:Int),.int .u16 (flY:Int),.slice qAY qsY.length qcY,.slice aAY raY.length acY,.slice bAY rbY.length bdY,.slice cAY rcY.length ccY] hoX hfX_34 (show w26.heap.size<_∨_ by first | (left;omega) | (right;omega)) (show W2.heap.size<_∨_ by first | (left;omega) | (right;omega))
    have fY:=boxes_fin #[.int .u16 (idX:Int),.int .u16 (flX:Int),.slice qAX qsX.length qcX,.slice aAX raX.length acX,.slice bAX rbX.length bdX,.slice cAX rcX.length ccX] #[.int .u16 (idY:Int),.int .u16 (flY:Int),.slice qAY qsY.length qcY,.slice aAY raY.length acY,.slice bAY rbY.length bdY,.slice cAY rcY.length ccY] hoY hf34 (show w26.heap.size<_∨_ by first | (left;omega) | (right;omega)) (show W2.heap.size<_∨_ by first | (left;omega) | (right;omega))
    have hO9:=Only.row w34 (w26.heap.size) #[.int .u16 (idX:Int),.int .u16 (flX:Int),.slice qAX qsX.length qcX,.slice aAX raX.length acX,.slice bAX rbX.length bdX,.slice cAX rcX.length ccX]
    have hO10:=Only.row (w34.setRow (w26.heap.size) #[.int .u16 (idX:Int),.int .u16 (flX:Int),.slice qAX qsX.length qcX,.slice aAX raX.length acX,.slice bAX rbX.length bdX,.slice cAX rcX.length ccX]) (W2.heap.size) #[.int .u16 (idY:Int),.int .u16 (flY:Int),.slice qAY qsY.length qcY,.slice aAY raY.length acY,.slice bAY rbY.length bdY,.slice cAY rcY.length ccY]
    have hB9:Below W2.heap.size W2 (w34.setRow (w26.heap.size) #[.int .u16 (idX:Int),.int .u16 (flX:Int),.slice qAX qsX.length qcX,.slice aAX raX.length acX,.slice bAX rbX.length bdX,.slice cAX rcX.length ccX]):=(hb34).trans (hO9.below hge9 hWB)
    have hB10:Below W2.heap.size W2 ((w34.setRow (w26.heap.size) #[.int .u16 (idX:Int),.int .u16 (flX:Int),.slice qAX qsX.length qcX,.slice aAX raX.length acX,.slice bAX rbX.length bdX,.slice cAX rcX.length ccX]).setRow (W2.heap.size) #[.int .u16 (idY:Int),.int .u16 (flY:Int),.slice qAY qsY.length qcY,.slice aAY raY.length acY,.slice bAY rbY.length bdY,.slice cAY rcY.length ccY]):=hB9.trans (hO10.below hge10 hB9.size)
    have z9:Vx ((w34.setRow (w26.heap.size) #[.int .u16 (idX:Int),.int .u16 (flX:Int),.slice qAX qsX.length qcX,.slice aAX raX.length acX,.slice bAX rbX.length bdX,.slice cAX rcX.length ccX]).setRow (W2.heap.size) #[.int .u16 (idY:Int),.int .u16 (flY:Int),.slice qAY qsY.length qcY,.slice aAY raY.length acY,.slice bAY rbY.length bdY,.slice cAY rcY.length ccY]) (w26.heap.size) 60 (MR.cells ⟨idX,flX,qAX,qcX,qsX,aAX,acX,raX,bAX,bdX,rbX,cAX,ccX,rcX⟩):=(v9_34.row (MR.cells ⟨idX,flX,qAX,qcX,qsX,aAX,acX,raX,bAX,bdX,rbX,cAX,ccX,rcX⟩)).rowO hne _
    have z10:Vx ((w34.setRow (w26.heap.size) #[.int .u16 (idX:Int),.int .u16 (flX:Int),.slice qAX qsX.length qcX,.slice aAX raX.length acX,.slice bAX rbX.length bdX,.slice cAX rcX.length ccX]).setRow (W2.heap.size) #[.int .u16 (idY:Int),.int .u16 (flY:Int),.slice qAY qsY.length qcY,.slice aAY raY.length acY,.slice bAY rbY.length bdY,.slice cAY rcY.length ccY]) (W2.heap.size) 60 (MR.cells ⟨idY,flY,qAY,qcY,qsY,aAY,acY,raY,bAY,bdY,rbY,cAY,ccY,rcY⟩):=(v10_34.rowO hne2 _).row (MR.cells ⟨idY,flY,qAY,qcY,qsY,aAY,acY,raY,bAY,bdY,rbY,cAY,ccY,rcY⟩)
    refine wpAnyH_ready (rs:=[6]) (by kernel_rfl) (by simp) ?_
    refine reg_cons _ rfl (fun K' hK=>?_) AllReadyH.nil
    rw [if_pos (by rfl)]
    refine wp_store_row 60 _ _ (by rfl) (w26.heap.size) #[.int .u16 (idX:Int),.int .u16 (flX:Int),.slice qAX qsX.length qcX,.slice aAX raX.length acX,.slice bAX rbX.length bdX,.slice cAX rcX.length ccX] (by rfl) (by rfl) _ _ v9_34 (by kernel_rfl) rfl (by kernel_rfl) ?_
    refine hK.out _ _ ⟨V4.out.below hB9 hT4,V5.out.below hB9 hT5⟩ (fun hH=>?_)
    (try simp only [Act.put,List.setIfInBounds_toArray,List.set_cons_zero,List.set_cons_succ])
    clear hK
    refine wpAnyH_ready (rs:=[7]) (by kernel_rfl) (by simp) ?_
    refine reg_cons _ rfl (fun K' hK=>?_) AllReadyH.nil
    rw [if_pos (by rfl)]
    refine wp_store_row 60 _ _ (by rfl) (W2.heap.size) #[.int .u16 (idY:Int),.int .u16 (flY:Int),.slice qAY qsY.length qcY,.slice aAY raY.length acY,.slice bAY rbY.length bdY,.slice cAY rcY.length ccY] (by rfl) (by rfl) _ _ (v10_34.rowO hne2 _) (by kernel_rfl) rfl (by kernel_rfl) ?_
    refine hK.out _ _ ⟨V4.out.below hB10 hT4,V5.out.below hB10 hT5⟩ (fun hH=>?_)
    (try simp only [Act.put,List.setIfInBounds_toArray,List.set_cons_zero,List.set_cons_succ])
    clear hK
    refine wpAnyH_done (by kernel_rfl) ?_ _
    go_wp2_with fail
    try simp only [Act.put]
    go_meet
    exact ⟨w26.heap.size,W2.heap.size,⟨idX,flX,qAX,qcX,qsX,aAX,acX,raX,bAX,bdX,rbX,cAX,ccX,rcX⟩,⟨idY,flY,qAY,qcY,qsY,aAY,acY,raY,bAY,bdY,rbY,cAY,ccY,rcY⟩,rfl,rfl,Lib.hid z9,Lib.hid z10,Lib.hid hmX,Lib.hid hmY,Lib.hid (fX.rdL (HXY.out _ hB10).1 hmX),Lib.hid (fY.rdL (HXY.out _ hB10).2 hmY),Lib.hid hB10⟩
 case rest=>
  obtain ⟨g9,g10,X,Y,rfl,rfl,V9,V10,HMX,HMY,HXR,HYR,HB⟩:=hcut
  obtain ⟨B1,hB1⟩:∃ b,b=(writeM x.m).1:=⟨_,rfl⟩
  obtain ⟨E1,hE1⟩:∃ e,e=(writeM x.m).2:=⟨_,rfl⟩
  obtain ⟨L1,hL1⟩:∃ L,L=B1.length:=⟨_,rfl⟩
  obtain ⟨B2,hB2⟩:∃ b,b=(writeM ⟨x.id,256,[⟨nm,ty,1⟩],[],[],[]⟩).1:=⟨_,rfl⟩
  obtain ⟨E2,hE2⟩:∃ e,e=(writeM ⟨x.id,256,[⟨nm,ty,1⟩],[],[],[]⟩).2:=⟨_,rfl⟩
  obtain ⟨L2,hL2⟩:∃ L,L=B2.length:=⟨_,rfl⟩
  have HB1:=Lib.hid hB1
  have HE1:=Lib.hid hE1
  have HL1:=Lib.hid hL1.symm
  have HB2:=Lib.hid hB2
  have HE2:=Lib.hid hE2
  have HL2:=Lib.hid hL2.symm
  have hidx:=(HX.out).1
  clear hB1 hE1 hL1 hB2 hE2 hL2
  have K2:=Lib.hid (write_at x wc (HXY.out _ HB.out).1)
  rw [←HB1.out,←HE1.out] at K2
  go_upto_region 6 with (first
   | (refine wpList_load_row rfl 28 _ rfl w.heap.size rfl _ _ _ _ (V4.out.below HB.out hT4) Try.underlying28 rfl (by kernel_rfl) ?_)
   | (refine wpList_load_row rfl 60 _ rfl g9 rfl _ _ _ _ v93 Try.underlying60 rfl (by kernel_rfl) ?_)
   | (go_at_call 23
      have _t:=tok4
      refine (fwrite_at ⟨x.id,256,some ⟨w5.heap.size,0,none⟩,1,[⟨A0,c0,⟨nm,ty,1⟩⟩],none,0,[],none,0,[],none,0,[]⟩ (w5.alloc (.cells #[.slice A0 n0 c0,.int .u16 (ty:Int),.int .u16 1] 70)) hZ).mono ?_
      rintro e w6 ⟨v17,h17,ho17,hb6⟩
      rw [show (MR.m ⟨x.id,256,some ⟨w5.heap.size,0,none⟩,1,[⟨A0,c0,⟨nm,ty,1⟩⟩],none,0,[],none,0,[],none,0,[]⟩)=⟨x.id,256,[⟨nm,ty,1⟩],[],[],[]⟩ from rfl,←HE2.out] at h17
      rw [show (MR.m ⟨x.id,256,some ⟨w5.heap.size,0,none⟩,1,[⟨A0,c0,⟨nm,ty,1⟩⟩],none,0,[],none,0,[],none,0,[]⟩)=⟨x.id,256,[⟨nm,ty,1⟩],[],[],[]⟩ from rfl,←HB2.out] at ho17
      subst h17
      obtain ⟨A17,c17,rfl,hc17,hr17⟩:=Ow.form7 ho17 L2 (by rw [bc_length,HL2.out])
      have hbc6:Below wc.heap.size wc w6:=hbc5.trans (((below_new w5 (.cells #[.slice A0 n0 c0,.int .u16 (ty:Int),.int .u16 1] 70)).trans (hb6.mono (below_new w5 (.cells #[.slice A0 n0 c0,.int .u16 (ty:Int),.int .u16 1] 70)).size)).mono hbc5.size))
   | (go_at_call 23
      refine K3.out.mono ?_
      rintro e w4 ⟨v13,rfl,ho13,hb4⟩
      obtain ⟨A13,c13,rfl,hc13,hr13⟩:=Ow.form7 ho13 L1 (by rw [bc_length,HL1.out])
      have hbc4:=hb3.trans (hb4.mono hb3.size)
      have v4c:=(V4.out.below (HB.out.trans (hbc4.mono HB.out.size)) hT4).cell 0
      have v4c':w4.cell? ⟨w.heap.size,0,none⟩=some (.int .u16 (x.id:Int)):=v4c
      clear v4c)
   | (go_at_call 15
      refine K2.out.mono ?_
      rintro e w3 ⟨v11,rfl,ho11,hb3⟩
      obtain ⟨A11,c11,rfl,hc11,hr11⟩:=Ow.form7 ho11 L1 (by rw [bc_length,HL1.out])
      have v93:=V9.out.below hb3 V9.out.lt
      have K3:=Lib.hid (fwrite_at X w3 ((HXR.out.below hb3).more hb3.size))
      rw [HMX.out,←HB1.out,←HE1.out] at K3)
   | (go_at_call 24
      refine (query_at x.id ty A0 c0 n0 nm w4 HN0.out ((HNM.out.below (HB01.out.trans ((HB.out.trans (hbc4.mono HB.out.size)).mono HB01.out.size))).more (HB01.out.trans ((HB.out.trans (hbc4.mono HB.out.size)).mono HB01.out.size)).size) hidx hty).mono ?_
      rw [←HB2.out,←HE2.out]
      rintro e w5 ⟨v15,rfl,ho15,hb5⟩
      have tok4:=True.intro
      obtain ⟨A15,c15,rfl,hc15,hr15⟩:=Ow.form7 ho15 L2 (by rw [bc_length,HL2.out])
      have hbc5:=hbc4.trans (hb5.mono hbc4.size)
      have hb05:=HB01.out.trans ((HB.out.trans (hbc5.mono HB.out.size)).mono HB01.out.size)
      have v4d:w5.cell? ⟨w.heap.size,0,none⟩=some (.int .u16 (x.id:Int)):=(V4.out.below (HB.out.trans (hbc5.mono HB.out.size)) hT4).cell 0
      have hZ:=qmsg_rd w5 A0 c0 n0 x.id ty nm ((HNM.out.below hb05).more hb05.size) HN0.out hidx hty))
  have hb56:Below w5.heap.size w5 w6:=(below_new w5 (.cells #[.slice A0 n0 c0,.int .u16 (ty:Int),.int .u16 1] 70)).trans (hb6.mono (below_new w5 (.cells #[.slice A0 n0 c0,.int .u16 (ty:Int),.int .u16 1] 70)).size)
  have hb46:=hb5.trans (hb56.mono hb5.size)
  have hb36:=hb4.trans (hb46.mono hb4.size)
  have hbW6:=HB.out.trans (hbc6.mono HB.out.size)
  have R11:=Lib.hid (hr11.goes hb36)
  have R13:=Lib.hid (hr13.goes hb46)
  have R15:=Lib.hid (hr15.goes hb56)
  have R17:=Lib.hid hr17
  have X6:=Lib.hid (HXY.out _ hbW6)
  have XR6:=Lib.hid ((HXR.out.below hbc6).more hbc6.size)
  have YR6:=Lib.hid ((HYR.out.below hbc6).more hbc6.size)
  have V46:=Lib.hid (V4.out.below hbW6 hT4)
  have V56:=Lib.hid (V5.out.below hbW6 hT5)
  have V96:=Lib.hid (V9.out.below hbc6 V9.out.lt)
  have VA6:=Lib.hid (V10.out.below hbc6 V10.out.lt)
  have HBW6:=Lib.hid hbW6
  clear K2 K3 hr11 hr13 hr15 hr17 ho11 ho13 ho15 ho17 hb3 hb4 hb5 hb6 hb56 hb46 hb36 hbc4 hbc5 hbc6 hb05 hZ v4c' v4d v93 tok4 V9 V10 HXR HYR HB hc11 hc13 hc15 hc17 hbW6
  refine wp_region_held_drew (S:=fun w'=>Vx w' w.heap.size 28 x.cells∧Vx w' G5 28 y.cells∧Vx w' g9 60 X.cells∧Vx w' g10 60 Y.cells) (by kernel_rfl) ⟨V46.out,V56.out,V96.out,VA6.out⟩ (fun hH=>?_)
  refine reg_take 0 (v:=?_) rfl (by kernel_rfl) (fun _ _ _ h=>h) (by rfl) hH ?_ ?_
  rotate_left
  ·intro w hSw;(try dsimp only at hSw);go_simp;(try with_reducible rfl)
  (try simp only [Act.put,List.setIfInBounds_toArray,List.set_cons_zero,List.set_cons_succ])
  refine reg_take 1 (v:=?_) rfl (by kernel_rfl) (fun _ _ _ h=>h) (by rfl) hH ?_ ?_
  rotate_left
  ·intro w hSw;(try dsimp only at hSw);go_simp;(try with_reducible rfl)
  (try simp only [Act.put,List.setIfInBounds_toArray,List.set_cons_zero,List.set_cons_succ])
  refine wpAnyH_ready (rs:=[2]) (by kernel_rfl) (by simp) ?_
  refine reg_cons _ rfl (fun K' hK=>?_) AllReadyH.nil
  go_simp
  go_at_call 22
  refine (beq_same A11 A13 c11 c13 L1 B1 w6.drew HL1.out R11.out.drew R13.out.drew).mono ?_
  rintro e w7 ⟨rfl,rfl⟩
  (try dsimp only)
  refine hK.out _ _ ⟨V46.out,V56.out,V96.out,VA6.out⟩ (fun hH=>?_)
  (try simp only [Act.put,List.setIfInBounds_toArray,List.set_cons_zero,List.set_cons_succ])
  clear hK
  refine reg_take 3 (v:=?_) rfl (by kernel_rfl) (fun _ _ _ h=>h) (by rfl) hH ?_ ?_
  rotate_left
  ·intro w hSw;(try dsimp only at hSw);go_simp;(try with_reducible rfl)
  (try simp only [Act.put,List.setIfInBounds_toArray,List.set_cons_zero,List.set_cons_succ])
  refine reg_take 4 (v:=?_) rfl (by kernel_rfl) (fun _ _ _ h=>h) (by rfl) hH ?_ ?_
  rotate_left
  ·intro w hSw;(try dsimp only at hSw);go_simp;(try with_reducible rfl)
  (try simp only [Act.put,List.setIfInBounds_toArray,List.set_cons_zero,List.set_cons_succ])
  refine reg_take 5 (v:=?_) rfl (by kernel_rfl) (fun _ _ _ h=>h) (by rfl) hH ?_ ?_
  rotate_left
  ·intro w hSw;(try dsimp only at hSw);go_simp;(try with_reducible rfl)
  (try simp only [Act.put,List.setIfInBounds_toArray,List.set_cons_zero,List.set_cons_succ])
  refine reg_take 6 (v:=?_) rfl (by kernel_rfl) (fun _ _ _ h=>h) (by rfl) hH ?_ ?_
  rotate_left
  ·intro w hSw;(try dsimp only at hSw);go_simp;(try with_reducible rfl)
  (try simp only [Act.put,List.setIfInBounds_toArray,List.set_cons_zero,List.set_cons_succ])
  refine reg_take 7 (v:=?_) rfl (by kernel_rfl) (fun _ _ _ h=>h) (by rfl) hH ?_ ?_
  rotate_left
  ·intro w hSw;(try dsimp only at hSw);go_simp;(try with_reducible rfl)
  (try simp only [Act.put,List.setIfInBounds_toArray,List.set_cons_zero,List.set_cons_succ])
  refine reg_take 8 (v:=?_) rfl (by kernel_rfl) (fun _ _ _ h=>h) (by rfl) hH ?_ ?_
  rotate_left
  ·intro w hSw;(try dsimp only at hSw);go_simp;(try with_reducible rfl)
  (try simp only [Act.put,List.setIfInBounds_toArray,List.set_cons_zero,List.set_cons_succ])
  refine reg_take 9 (v:=?_) rfl (by kernel_rfl) (fun _ _ _ h=>h) (by rfl) hH ?_ ?_
  rotate_left
  ·intro w hSw;(try dsimp only at hSw);go_simp;(try with_reducible rfl)
  (try simp only [Act.put,List.setIfInBounds_toArray,List.set_cons_zero,List.set_cons_succ])
  refine reg_load 10 rfl (by kernel_rfl) 28 _ (by rfl) w.heap.size 28 x.cells _ (fun _ _ _ h=>h) (by rfl) hH (by rfl) (fun w hS=>hS.1) Try.underlying28 (by rfl) (by kernel_rfl) ?_
  (try simp only [Act.put,List.setIfInBounds_toArray,List.set_cons_zero,List.set_cons_succ])
  refine reg_take 12 (v:=?_) rfl (by kernel_rfl) (fun _ _ _ h=>h) (by rfl) hH ?_ ?_
  rotate_left
  ·intro w hSw;(try dsimp only at hSw);go_simp;(try with_reducible rfl)
  (try simp only [Act.put,List.setIfInBounds_toArray,List.set_cons_zero,List.set_cons_succ])
  refine wpAnyH_ready (rs:=[11]) (by kernel_rfl) (by simp) ?_
  refine reg_cons _ rfl (fun K' hK=>?_) AllReadyH.nil
  go_simp
  go_at_call 16
  refine (check_at x w6.drew X6.out.1).mono ?_
  rw [←HE1.out]
  rintro e w8 ⟨rfl,hb8'⟩
  have hb8:Below w6.heap.size w6 w8:=(Below.refl w6.heap.size w6).drew.trans hb8'
  (try dsimp only)
  refine hK.out _ _ ⟨V46.out.below hb8 V46.out.lt,V56.out.below hb8 V56.out.lt,V96.out.below hb8 V96.out.lt,VA6.out.below hb8 VA6.out.lt⟩ (fun hH=>?_)
  (try simp only [Act.put,List.setIfInBounds_toArray,List.set_cons_zero,List.set_cons_succ])
  clear hK
  refine reg_take 13 (v:=?_) rfl (by kernel_rfl) (fun _ _ _ h=>h) (by rfl) hH ?_ ?_
  rotate_left
  ·intro w hSw;(try dsimp only at hSw);go_simp;(try with_reducible rfl)
  (try simp only [Act.put,List.setIfInBounds_toArray,List.set_cons_zero,List.set_cons_succ])
  refine reg_take 14 (v:=?_) rfl (by kernel_rfl) (fun _ _ _ h=>h) (by rfl) hH ?_ ?_
  rotate_left
  ·intro w hSw;(try dsimp only at hSw);go_simp;(try with_reducible rfl)
  (try simp only [Act.put,List.setIfInBounds_toArray,List.set_cons_zero,List.set_cons_succ])
  refine reg_take 15 (v:=?_) rfl (by kernel_rfl) (fun _ _ _ h=>h) (by rfl) hH ?_ ?_
  rotate_left
  ·intro w hSw;(try dsimp only at hSw);go_simp;(try with_reducible rfl)
  (try simp only [Act.put,List.setIfInBounds_toArray,List.set_cons_zero,List.set_cons_succ])
  refine reg_take 16 (v:=?_) rfl (by kernel_rfl) (fun _ _ _ h=>h) (by rfl) hH ?_ ?_
  rotate_left
  ·intro w hSw;(try dsimp only at hSw);go_simp;(try with_reducible rfl)
  (try simp only [Act.put,List.setIfInBounds_toArray,List.set_cons_zero,List.set_cons_succ])
  refine reg_take 17 (v:=?_) rfl (by kernel_rfl) (fun _ _ _ h=>h) (by rfl) hH ?_ ?_
  rotate_left
  ·intro w hSw;(try dsimp only at hSw);go_simp;(try with_reducible rfl)
  (try simp only [Act.put,List.setIfInBounds_toArray,List.set_cons_zero,List.set_cons_succ])
  refine wpAnyH_ready (rs:=[18]) (by kernel_rfl) (by simp) ?_
  refine reg_cons _ rfl (fun K' hK=>?_) AllReadyH.nil
  go_simp
  go_at_call 22
  refine (beq_same A15 A17 c15 c17 L2 B2 w8 HL2.out (R15.out.goes hb8) (R17.out.goes hb8)).mono ?_
  rintro e w8 ⟨rfl,rfl⟩
  (try dsimp only)
  refine hK.out _ _ ⟨V46.out.below hb8 V46.out.lt,V56.out.below hb8 V56.out.lt,V96.out.below hb8 V96.out.lt,VA6.out.below hb8 VA6.out.lt⟩ (fun hH=>?_)
  (try simp only [Act.put,List.setIfInBounds_toArray,List.set_cons_zero,List.set_cons_succ])
  clear hK
  refine reg_take 19 (v:=?_) rfl (by kernel_rfl) (fun _ _ _ h=>h) (by rfl) hH ?_ ?_
  rotate_left
  ·intro w hSw;(try dsimp only at hSw);go_simp;(try with_reducible rfl)
  (try simp only [Act.put,List.setIfInBounds_toArray,List.set_cons_zero,List.set_cons_succ])
  refine reg_take 20 (v:=?_) rfl (by kernel_rfl) (fun _ _ _ h=>h) (by rfl) hH ?_ ?_
  rotate_left
  ·intro w hSw;(try dsimp only at hSw);go_simp;(try with_reducible rfl)
  (try simp only [Act.put,List.setIfInBounds_toArray,List.set_cons_zero,List.set_cons_succ])
  refine reg_take 21 (v:=?_) rfl (by kernel_rfl) (fun _ _ _ h=>h) (by rfl) hH ?_ ?_
  rotate_left
  ·intro w hSw;(try dsimp only at hSw);go_simp;(try with_reducible rfl)
  (try simp only [Act.put,List.setIfInBounds_toArray,List.set_cons_zero,List.set_cons_succ])
  refine reg_take 22 (v:=?_) rfl (by kernel_rfl) (fun _ _ _ h=>h) (by rfl) hH ?_ ?_
  rotate_left
  ·intro w hSw;(try dsimp only at hSw);go_simp;(try with_reducible rfl)
  (try simp only [Act.put,List.setIfInBounds_toArray,List.set_cons_zero,List.set_cons_succ])
  refine reg_take 23 (v:=?_) rfl (by kernel_rfl) (fun _ _ _ h=>h) (by rfl) hH ?_ ?_
  rotate_left
  ·intro w hSw;(try dsimp only at hSw);go_simp;(try with_reducible rfl)
  (try simp only [Act.put,List.setIfInBounds_toArray,List.set_cons_zero,List.set_cons_succ])
  refine reg_take 24 (v:=?_) rfl (by kernel_rfl) (fun _ _ _ h=>h) (by rfl) hH ?_ ?_
  rotate_left
  ·intro w hSw;(try dsimp only at hSw);go_simp;(try with_reducible rfl)
  (try simp only [Act.put,List.setIfInBounds_toArray,List.set_cons_zero,List.set_cons_succ])
  refine reg_take 25 (v:=?_) rfl (by kernel_rfl) (fun _ _ _ h=>h) (by rfl) hH ?_ ?_
  rotate_left
  ·intro w hSw;(try dsimp only at hSw);go_simp;(try with_reducible rfl)
  (try simp only [Act.put,List.setIfInBounds_toArray,List.set_cons_zero,List.set_cons_succ])
  refine reg_take 26 (v:=?_) rfl (by kernel_rfl) (fun _ _ _ h=>h) (by rfl) hH ?_ ?_
  rotate_left
  ·intro w hSw;(try dsimp only at hSw);go_simp;(try with_reducible rfl)
  (try simp only [Act.put,List.setIfInBounds_toArray,List.set_cons_zero,List.set_cons_succ])
  refine reg_load 27 rfl (by kernel_rfl) 28 _ (by rfl) w.heap.size 28 x.cells _ (fun _ _ _ h=>h) (by rfl) hH (by rfl) (fun w hS=>hS.1) Try.underlying28 (by rfl) (by kernel_rfl) ?_
  (try simp only [Act.put,List.setIfInBounds_toArray,List.set_cons_zero,List.set_cons_succ])
  refine reg_load 28 rfl (by kernel_rfl) 28 _ (by rfl) G5 28 y.cells _ (fun _ _ _ h=>h) (by rfl) hH (by rfl) (fun w hS=>hS.2.1) Try.underlying28 (by rfl) (by kernel_rfl) ?_
  (try simp only [Act.put,List.setIfInBounds_toArray,List.set_cons_zero,List.set_cons_succ])
  refine reg_load 30 rfl (by kernel_rfl) 60 _ (by rfl) g9 60 X.cells _ (fun _ _ _ h=>h) (by rfl) hH (by rfl) (fun w hS=>hS.2.2.1) Try.underlying60 (by rfl) (by kernel_rfl) ?_
  (try simp only [Act.put,List.setIfInBounds_toArray,List.set_cons_zero,List.set_cons_succ])
  refine reg_load 31 rfl (by kernel_rfl) 60 _ (by rfl) g10 60 Y.cells _ (fun _ _ _ h=>h) (by rfl) hH (by rfl) (fun w hS=>hS.2.2.2) Try.underlying60 (by rfl) (by kernel_rfl) ?_
  (try simp only [Act.put,List.setIfInBounds_toArray,List.set_cons_zero,List.set_cons_succ])
  obtain ⟨bs,hbs⟩:∃ b,b=sameM x.m y.m:=⟨_,rfl⟩
  have HBS:=Lib.hid hbs
  clear hbs
  refine wpAnyH_ready (rs:=[29]) (by kernel_rfl) (by simp) ?_
  refine reg_cons _ rfl (fun K' hK=>?_) AllReadyH.nil
  go_simp
  go_at_call 25
  refine (sameM_at x y w8 ((X6.out.1.below hb8).more hb8.size) ((X6.out.2.below hb8).more hb8.size)).mono ?_
  rw [←HBS.out]
  rintro e w9 ⟨rfl,hb9'⟩
  have hb9:=hb8.trans (hb9'.mono hb8.size)
  (try dsimp only)
  refine hK.out _ _ ⟨V46.out.below hb9 V46.out.lt,V56.out.below hb9 V56.out.lt,V96.out.below hb9 V96.out.lt,VA6.out.below hb9 VA6.out.lt⟩ (fun hH=>?_)
  (try simp only [Act.put,List.setIfInBounds_toArray,List.set_cons_zero,List.set_cons_succ])
  clear hK
  refine wpAnyH_ready (rs:=[32]) (by kernel_rfl) (by simp) ?_
  refine reg_cons _ rfl (fun K' hK=>?_) AllReadyH.nil
  go_simp
  go_at_call 19
  refine (fsame_at X Y w9 ((XR6.out.below hb9).more hb9.size) ((YR6.out.below hb9).more hb9.size)).mono ?_
  rw [HMX.out,HMY.out,←HBS.out]
  rintro e w10 ⟨rfl,hb10'⟩
  have hb10:=hb9.trans (hb10'.mono hb9.size)
  (try dsimp only)
  refine hK.out _ _ ⟨V46.out.below hb10 V46.out.lt,V56.out.below hb10 V56.out.lt,V96.out.below hb10 V96.out.lt,VA6.out.below hb10 VA6.out.lt⟩ (fun hH=>?_)
  (try simp only [Act.put,List.setIfInBounds_toArray,List.set_cons_zero,List.set_cons_succ])
  clear hK
  refine reg_take 33 (v:=?_) rfl (by kernel_rfl) (fun _ _ _ h=>h) (by rfl) hH ?_ ?_
  rotate_left
  ·intro w hSw;(try dsimp only at hSw);go_simp;(try with_reducible rfl)
  (try simp only [Act.put,List.setIfInBounds_toArray,List.set_cons_zero,List.set_cons_succ])
  refine reg_take 34 (v:=?_) rfl (by kernel_rfl) (fun _ _ _ h=>h) (by rfl) hH ?_ ?_
  rotate_left
  ·intro w hSw;(try dsimp only at hSw);go_simp;(try with_reducible rfl)
  (try simp only [Act.put,List.setIfInBounds_toArray,List.set_cons_zero,List.set_cons_succ])
  refine wpAnyH_done (by kernel_rfl) ?_ _
  have hbWa:=HBW6.out.trans (hb10.mono HBW6.out.size)
  have HBWa:=Lib.hid hbWa
  have XYa:=Lib.hid (HXY.out _ hbWa)
  have XRa:=Lib.hid ((XR6.out.below hb10).more hb10.size)
  have YRa:=Lib.hid ((YR6.out.below hb10).more hb10.size)
  have V4a:=Lib.hid (V46.out.below hb10 V46.out.lt)
  have V5a:=Lib.hid (V56.out.below hb10 V56.out.lt)
  have V9a:=Lib.hid (V96.out.below hb10 V96.out.lt)
  have VAa:=Lib.hid (VA6.out.below hb10 VA6.out.lt)
  have hb0a:=HB01.out.trans (hbWa.mono HB01.out.size)
  have HB0a:=Lib.hid hb0a
  have NMa:=Lib.hid ((HNM.out.below hb0a).more hb0a.size)
  clear hH hb8' hb8 hb9' hb9 hb10' hb10 hbWa hb0a X6 XR6 YR6 V46 V56 V96 VA6 R11 R13 R15 R17 HBW6
  have hcx:∀ r∈x.r0,r.r.q.nm.length*16≤140737488355328∧r.r.tg.length*16≤140737488355328:=fun r hr=>by have:=cx.2 0 r hr;omega
  have KA:=Lib.hid (answers_at x A0 c0 nm ty w10 XYa.out.1 NMa.out hty hcx)
  rw [HN0.out] at KA
  clear hcx
  obtain ⟨j0,hj',hy0,hy1,hy2⟩:=info_parts Try.infoRf
  go_wp2_with (first
   | (refine wpList_load_row rfl 28 _ rfl w.heap.size rfl _ _ _ _ V4a.out Try.underlying28 rfl (by kernel_rfl) ?_)
   | (go_at_call 26
      refine KA.out.mono ?_
      rintro e w11 ⟨al,Aa,ca,rfl,ham,hao,had,hba⟩
      obtain ⟨cn,hcn⟩:∃ n,n=al.length:=⟨_,rfl⟩
      have hao':OwM w11 w10.heap.size 41 9 (.slice Aa al.length ca) al.length (rcs al):=hao
      rw [←hcn] at hao' ⊢
      have HCN:=Lib.hid hcn.symm
      clear hcn))
  have HAM:=Lib.hid ham
  have HAO:=Lib.hid hao'
  have HAD:=Lib.hid had
  have HBA:=Lib.hid hba
  have hlen:cn≤1000000000000:=by
   have hcn:=HCN.out
   have h1:al.length≤x.r0.length:=by
    have h2:=congrArg List.length ham
    rw [List.length_map] at h2
    rw [h2]
    have h3:=List.length_filter_le (fun r:Rc=>decide (r.q.ty=ty) && (decide (r.q.cl=1) && decide (r.q.nm=nm))) (x.m.r0)
    have h4:x.m.r0.length=x.r0.length:=by simp [MR.m]
    unfold answersM
    omega
   have h5:=(XYa.out.1).2.2.2.1.2.2.2.1
   omega
  have hrr:∀ p∈al,∃ z∈x.r0,z.r=p.r:=fun p hp=>by
   have h1:p.r∈answersM x.m nm ty:=by rw [←ham];exact List.mem_map.2 ⟨p,hp,rfl⟩
   have h2:=(List.mem_filter.1 h1).1
   obtain ⟨z,hz,e⟩:=List.mem_map.1 h2
   exact ⟨z,hz,e⟩
  have HRR:=Lib.hid hrr
  have hsA:w10.heap.size≤w11.heap.size:=hba.size
  have hrd:∀ p∈al,RRd w11 w11.heap.size p:=fun p hp=>by
   obtain ⟨z,hz,e⟩:=hrr p hp
   have h1:=(XYa.out.1).2.2.2.1.2.2.2.2 z hz
   refine ⟨⟨nmO_rd (had _ ⟨p,hp,Or.inl rfl⟩) (by show sizeN p.r.q.nm≤_;rw [←e];exact h1.1.1.2.2),by show p.r.q.ty<65536;rw [←e];exact h1.1.2.1,by show p.r.q.cl<65536;rw [←e];exact h1.1.2.2⟩,daO_rd (had _ ⟨p,hp,Or.inr (Or.inl rfl)⟩) (by rw [←e];exact h1.2.1.2.2),nmO_rd (had _ ⟨p,hp,Or.inr (Or.inr rfl)⟩) (by rw [←e];exact h1.2.2.1.2.2),by rw [←e];exact h1.2.2.2⟩
  have HRD:=Lib.hid hrd
  have hcp:∀ p∈al,p.r.q.nm.length*16≤140737488351232∧p.r.tg.length*16≤140737488351232:=fun p hp=>by
   obtain ⟨z,hz,e⟩:=hrr p hp
   rw [←e]
   exact cx.2 0 z hz
  have HCP:=Lib.hid hcp
  clear ham hao hao' had hba hrr hrd hcp KA
  go_loopw [20,99] (fun v20 vk wr=>∃ (k:Nat) (l3:List RR) (Ar:Option Addr) (cr:Nat),k≤cn∧vk = .int .i64 k∧v20 = .slice Ar k cr∧Hid (l3.length=k)∧Hid (l3.map RR.r=(al.take k).map RR.r)∧Hid (OwM wr w11.heap.size 74 9 (.slice Ar k cr) k (rcs l3))∧Hid (Held wr w11.heap.size (fun o=>False∨DR l3 o) (.slice Ar k cr))∧Hid (Below w11.heap.size w11 wr)) (fun _ vk _=>cn - (intOf vk).toNat)
  case atStart=>exact ⟨0,[],none,0,Nat.zero_le _,rfl,rfl,Lib.hid rfl,Lib.hid rfl,Lib.hid (OwM.nil _ _ _ _),Lib.hid ((Held.nil _ _ _).mono (fun o ho=>by rcases ho with ho | ⟨z,hz,_⟩;exact ho;cases hz)),Lib.hid (Below.refl _ _)⟩
  case round=>
   obtain ⟨k,l3,Ar,cr,hk,rfl,rfl,HL3,HM3,HO3,HH3,HBr⟩:=hrel
   rcases Nat.lt_or_ge k cn with hklt | hkge
   ·have hlx:k<al.length:=by have:=HCN.out;omega
    have hrow:OwM wr w10.heap.size 41 9 (.slice Aa al.length ca) al.length (rcs al):=by
     rw [HCN.out];exact HAO.out.far HBr.out
    obtain ⟨b0,o0,hA0,hb0,hnine⟩:=rows_at hrow hlx
    obtain ⟨d0,d1,d2,d3,d4,d5,d6,d7,d8⟩:=hnine.cells
    have hp:=(HRD.out _ (List.getElem_mem hlx)).below HBr.out
    have hcpp:=HCP.out _ (List.getElem_mem hlx)
    have htk:=take_map_snoc RR.r al k hlx
    generalize al[k]=p at *
    subst hA0
    have hklt':(k:Int)<(cn:Int):=by omega
    have hsz:=HBr.out.size
    have hbA:=below_new wr (.cells #[.slice p.A p.r.q.nm.length p.c,.int .u16 (p.r.q.ty:Int),.int .u16 (p.r.q.cl:Int),.int .u32 (p.r.ttl:Int),.slice p.dA p.r.d.length p.dc,.int .u16 (p.r.pr:Int),.int .u16 (p.r.we:Int),.int .u16 (p.r.po:Int),.slice p.tA p.r.tg.length p.tc] 41)
    have hv22:=Vx.new wr 41 [.slice p.A p.r.q.nm.length p.c,.int .u16 (p.r.q.ty:Int),.int .u16 (p.r.q.cl:Int),.int .u32 (p.r.ttl:Int),.slice p.dA p.r.d.length p.dc,.int .u16 (p.r.pr:Int),.int .u16 (p.r.we:Int),.int .u16 (p.r.po:Int),.slice p.tA p.r.tg.length p.tc]
    have K:=Lib.hid (turnedR_at p (wr.alloc (.cells #[.slice p.A p.r.q.nm.length p.c,.int .u16 (p.r.q.ty:Int),.int .u16 (p.r.q.cl:Int),.int .u32 (p.r.ttl:Int),.slice p.dA p.r.d.length p.dc,.int .u16 (p.r.pr:Int),.int .u16 (p.r.we:Int),.int .u16 (p.r.po:Int),.slice p.tA p.r.tg.length p.tc] 41)) (((hp.more (show w11.heap.size≤wr.heap.size from hsz)).below hbA).more hbA.size) hcpp.1 hcpp.2)
    obtain ⟨e0,e1,e2,e3,e4,e5,e6,e7,e8⟩:=hv22.c9
    have HTK:=Lib.hid htk
    clear hrow hnine hp hcpp htk
    go_wp2_with (first
     | (go_at_call 27
        refine K.out.mono ?_
        rintro e w12 ⟨⟨A3,c3,dA3,dc3,tA3,tc3,r3⟩,hyr,rfl,hn3,hd3,ht3,hb12⟩
        simp only at hyr
        subst hyr
        unfold RR.cells
        simp only at hn3 hd3 ht3
        dsimp only
        have hbr12:Below wr.heap.size wr w12:=hbA.trans (hb12.mono hbA.size))
     | (at_builtin;refine wpList_appM _ rfl _ _ _ _ rfl w11.heap.size 9 74 j0 _ 96 Try.underlying57 hj' hy0 hy1 hy2 rfl (by omega) (.slice Ar k cr) k (rcs l3) ((HO3.out.far hbr12).alloc _) rfl 1 (RR.cells ⟨A3,c3,dA3,dc3,tA3,tc3,p.r⟩) (litM_src Try.underlying57 _ 9 _ 1 rfl (rcells_one ⟨A3,c3,dA3,dc3,tA3,tc3,p.r⟩)) (by omega) (by have:=hbr12.size;simp;omega) ?_
        intro v13 w13 hown13 hgr13 hsz13
        obtain ⟨A13',c13',rfl,hc13,_,_⟩:=hown13.form))
    go_roundw
    case rel=>
     have hle:w11.heap.size≤w12.heap.size:=Nat.le_trans hsz hbr12.size
     have hbF:Below w11.heap.size wr w13:=(hbr12.mono hsz).trans (((below_new w12 _).mono hle).trans (hgr13.below (OwM.lt HO3.out) (by simp;omega)))
     refine ⟨k+1,l3++[⟨A3,c3,dA3,dc3,tA3,tc3,p.r⟩],A13',c13',by omega,by go_num,rfl,Lib.hid (by simp [HL3.out]),Lib.hid ?_,Lib.hid ?_,Lib.hid (Held.rA (x:=⟨A3,c3,dA3,dc3,tA3,tc3,p.r⟩) (B:=(wr.alloc (.cells #[.slice p.A p.r.q.nm.length p.c,.int .u16 (p.r.q.ty:Int),.int .u16 (p.r.q.cl:Int),.int .u32 (p.r.ttl:Int),.slice p.dA p.r.d.length p.dc,.int .u16 (p.r.pr:Int),.int .u16 (p.r.we:Int),.int .u16 (p.r.po:Int),.slice p.tA p.r.tg.length p.tc] 41)).heap.size) HH3.out HO3.out hbr12 hbA.size hn3 hd3 ht3 (below_new w12 _) hsz hgr13),Lib.hid (HBr.out.trans hbF)⟩
     ·rw [HTK.out,List.map_append,HM3.out];rfl
     ·rw [rcs_snoc];exact hown13
    case measure=>simp [intOf];omega
   ·have hkn:cn=k:=by omega
    have hkge':(cn:Int)≤(k:Int):=by omega
    have hbr:=HBr.out
    have hba:=HBA.out
    have hbar:=hba.trans (hbr.mono hba.size)
    have hm3:l3.map RR.r=al.map RR.r:=by rw [HM3.out,←hkn,←HCN.out,List.take_length]
    have hXr:=(XRa.out.below hbar).more hbar.size
    have hNr:=(NMa.out.below hbar).more hbar.size
    have hv9:=V9a.out.below hbar V9a.out.lt
    have hOwn:RsRd wr wr.heap.size Ar cr k l3:=by
     have h1:=HO3.out
     refine ⟨OwM.rd h1,HL3.out,OwM.cap h1,by omega,fun y hy=>?_⟩
     have h2:y.r∈al.map RR.r:=by rw [←hm3];exact List.mem_map.2 ⟨y,hy,rfl⟩
     obtain ⟨z,hz,e⟩:=List.mem_map.1 h2
     have h3:=HRD.out z hz
     have hD:=fun o ho=>HH3.out.dn o (Or.inr ho)
     exact ⟨⟨nmO_rd (hD _ ⟨y,hy,Or.inl rfl⟩) (by show sizeN y.r.q.nm≤_;rw [←e];exact h3.1.1.2.2),by show y.r.q.ty<65536;rw [←e];exact h3.1.2.1,by show y.r.q.cl<65536;rw [←e];exact h3.1.2.2⟩,daO_rd (hD _ ⟨y,hy,Or.inr (Or.inl rfl)⟩) (by rw [←e];exact h3.2.1.2.2),nmO_rd (hD _ ⟨y,hy,Or.inr (Or.inr rfl)⟩) (by rw [←e];exact h3.2.2.1.2.2),by rw [←e];exact h3.2.2.2⟩
    have KF:=Lib.hid (fanswers_at X A0 c0 n0 nm ty wr hXr HN0.out hNr hty)
    have HM9:=Lib.hid hm3
    have HOwn:=Lib.hid hOwn
    have HBar:=Lib.hid hbar
    have hv9':=hv9
    clear hm3 hXr hNr hOwn hbr hba hkn hkge hk
    go_wp2_with (first
     | (refine wpList_load_row rfl 60 _ rfl g9 rfl _ _ _ _ hv9 Try.underlying60 rfl (by kernel_rfl) ?_)
     | (go_at_call 28
        refine (fsameRs_at Ar Ab cr cb k lb.length l3 lb w15 ((HOwn.out.below hb15).more hb15.size) hbr15).mono ?_
        rw [same_rows (HM9.out.trans (HAM.out.trans (by rw [hbm,HMX.out])))]
        rintro e w16 ⟨rfl,hb16'⟩
        have hb16:=hb15.trans (hb16'.mono hb15.size))
     | (go_at_call 29
        refine KF.out.mono ?_
        rintro e w15 ⟨lb,Ab,cb,rfl,hbm,hbr15,hb15⟩))
    have hbr:=HBr.out
    have h1116:=hbr.trans (hb16.mono hbr.size)
    have h1016:=HBA.out.trans (h1116.mono HBA.out.size)
    have HAO6:=Lib.hid (HAO.out.far h1116)
    have HAD6:=Lib.hid (fun o ho=>(HAD.out o ho).far h1116)
    have H1016:=Lib.hid h1016
    have hs1016:w10.heap.size≤w16.heap.size:=h1016.size
    clear hb15 hb16' hb16 hbr15 hbm hbr h1116 h1016 hv9 hv9' KF HOwn HO3 HH3 HBr HBar
    go_loopw [118] (fun vk wz=>∃ k2:Nat,k2≤cn∧vk = .int .i64 k2∧Hid (Spo w10.heap.size w16 wz)) (fun vk _=>cn - (intOf vk).toNat)
    case atStart=>exact ⟨0,Nat.zero_le _,rfl,Lib.hid (Spo.refl _ _)⟩
    case round=>
     obtain ⟨k2,hk2,rfl,HKs⟩:=hrel
     rcases Nat.lt_or_ge k2 cn with hklt | hkge
     ·have hlx:k2<al.length:=by have:=HCN.out;omega
      have hrow:OwM wr w10.heap.size 41 9 (.slice Aa al.length ca) al.length (rcs al):=by
       rw [HCN.out];exact OwM.spo HAO6.out (by decide) (by decide) HKs.out
      obtain ⟨b0,o0,hA0,hb0,hnine⟩:=rows_at hrow hlx
      obtain ⟨d0,d1,d2,d3,d4,d5,d6,d7,d8⟩:=hnine.cells
      have hr:=HRD.out _ (List.getElem_mem hlx)
      have hd1:=HAD6.out _ ⟨_,List.getElem_mem hlx,Or.inl rfl⟩
      have hd2:=HAD6.out _ ⟨_,List.getElem_mem hlx,Or.inr (Or.inl rfl)⟩
      have hd3:=HAD6.out _ ⟨_,List.getElem_mem hlx,Or.inr (Or.inr rfl)⟩
      generalize al[k2]=p at *
      subst hA0
      have l1:p.r.q.nm.length≤140737488355328:=Nat.le_trans (len_le_size _) hr.1.1.2.2
      have l2:p.r.tg.length≤140737488355328:=Nat.le_trans (len_le_size _) hr.2.2.1.2.2
      have l3':p.r.d.length≤140737488355328:=hr.2.1.2.2
      have hs2:Spo w10.heap.size wr (wr.alloc (.cells #[.slice p.A p.r.q.nm.length p.c,.int .u16 (p.r.q.ty:Int),.int .u16 (p.r.q.cl:Int),.int .u32 (p.r.ttl:Int),.slice p.dA p.r.d.length p.dc,.int .u16 (p.r.pr:Int),.int .u16 (p.r.we:Int),.int .u16 (p.r.po:Int),.slice p.tA p.r.tg.length p.tc] 41)):=Spo.of (below_new _ _) (Nat.le_trans hs1016 HKs.out.bl.size)
      have hk2s:=HKs.out.trans hs2
      have K9:=Lib.hid (spoil_at p w10.heap.size (wr.alloc (.cells #[.slice p.A p.r.q.nm.length p.c,.int .u16 (p.r.q.ty:Int),.int .u16 (p.r.q.cl:Int),.int .u32 (p.r.ttl:Int),.slice p.dA p.r.d.length p.dc,.int .u16 (p.r.pr:Int),.int .u16 (p.r.we:Int),.int .u16 (p.r.po:Int),.slice p.tA p.r.tg.length p.tc] 41)) (Nat.le_trans hs1016 hk2s.bl.size) ((TS.of hd1).spo hk2s) ((TS.of hd3).spo hk2s) ((TU.of hd2).spo hk2s) l1 l2 l3')
      have HK2:=Lib.hid hk2s
      have hjlt':(k2:Int)<(cn:Int):=by omega
      have v24:=Vx.new wr 41 [.slice p.A p.r.q.nm.length p.c,.int .u16 (p.r.q.ty:Int),.int .u16 (p.r.q.cl:Int),.int .u32 (p.r.ttl:Int),.slice p.dA p.r.d.length p.dc,.int .u16 (p.r.pr:Int),.int .u16 (p.r.we:Int),.int .u16 (p.r.po:Int),.slice p.tA p.r.tg.length p.tc]
      obtain ⟨e0,e1,e2,e3,e4,e5,e6,e7,e8⟩:=v24.c9
      clear hnine hr hd1 hd2 hd3 hs2 hk2s l1 l2 l3' v24 hrow
      go_wp2_with (go_at_call 21
                   refine K9.out.mono ?_
                   rintro e w8 ⟨rfl,hs8⟩)
      go_roundw
      case rel=>exact ⟨k2+1,by omega,by go_num,Lib.hid (HK2.out.trans hs8)⟩
      case measure=>simp [intOf];omega
     ·have hkge':(cn:Int)≤(k2:Int):=by omega
      have hbz:Below w10.heap.size w10 wr:=H1016.out.trans HKs.out.bl
      have hbWz:=HBWa.out.trans (hbz.mono HBWa.out.size)
      have XYz:=Lib.hid (HXY.out _ hbWz)
      have XRz:=Lib.hid ((XRa.out.below hbz).more hbz.size)
      have YRz:=Lib.hid ((YRa.out.below hbz).more hbz.size)
      have V4z:=Lib.hid (V4a.out.below hbz V4a.out.lt)
      have V5z:=Lib.hid (V5a.out.below hbz V5a.out.lt)
      have V9z:=Lib.hid (V9a.out.below hbz V9a.out.lt)
      have VAz:=Lib.hid (VAa.out.below hbz VAa.out.lt)
      have hb0z:=HB01.out.trans (hbWz.mono HB01.out.size)
      have HB0z:=Lib.hid hb0z
      clear hbz hbWz hb0z hkge
      go_upto_region 22 with fail
      refine wp_region_held_drew (S:=fun w'=>Vx w' w.heap.size 28 x.cells∧Vx w' G5 28 y.cells∧Vx w' g9 60 X.cells∧Vx w' g10 60 Y.cells) (by kernel_rfl) ⟨V4z.out,V5z.out,V9z.out,VAz.out⟩ (fun hH=>?_)
      refine reg_load 0 rfl (by kernel_rfl) 28 _ (by rfl) w.heap.size 28 x.cells _ (fun _ _ _ h=>h) (by rfl) hH (by rfl) (fun w hS=>hS.1) Try.underlying28 (by rfl) (by kernel_rfl) ?_
      (try simp only [Act.put,List.setIfInBounds_toArray,List.set_cons_zero,List.set_cons_succ])
      refine reg_load 2 rfl (by kernel_rfl) 60 _ (by rfl) g9 60 X.cells _ (fun _ _ _ h=>h) (by rfl) hH (by rfl) (fun w hS=>hS.2.2.1) Try.underlying60 (by rfl) (by kernel_rfl) ?_
      (try simp only [Act.put,List.setIfInBounds_toArray,List.set_cons_zero,List.set_cons_succ])
      refine wpAnyH_ready (rs:=[1]) (by kernel_rfl) (by simp) ?_
      refine reg_cons _ rfl (fun K' hK=>?_) AllReadyH.nil
      go_simp
      go_at_call 20
      refine (turned_at x wr.drew XYz.out.1 cx).mono ?_
      rintro e w18 ⟨X1,hmX1,rfl,hoX1,hbw18'⟩
      have hrX1:=MOwF.rdL hoX1 XYz.out.1 hmX1
      have hbw18:Below wr.heap.size wr w18:=(Below.refl wr.heap.size wr).drew.trans hbw18'
      (try dsimp only)
      refine hK.out _ _ ⟨V4z.out.below hbw18 V4z.out.lt,V5z.out.below hbw18 V5z.out.lt,V9z.out.below hbw18 V9z.out.lt,VAz.out.below hbw18 VAz.out.lt⟩ (fun hH=>?_)
      (try simp only [Act.put,List.setIfInBounds_toArray,List.set_cons_zero,List.set_cons_succ])
      clear hK
      refine wpAnyH_ready (rs:=[3]) (by kernel_rfl) (by simp) ?_
      refine reg_cons _ rfl (fun K' hK=>?_) AllReadyH.nil
      go_simp
      go_at_call 19
      refine (fsame_at X1 X w18 hrX1 ((XRz.out.below hbw18).more hbw18.size)).mono ?_
      rw [(sameM_iff _ _).2 (hmX1.trans HMX.out.symm)]
      rintro e w19 ⟨rfl,hbw19'⟩
      have hbw19:Below wr.heap.size wr w19:=hbw18.trans (hbw19'.mono hbw18.size)
      (try dsimp only)
      refine hK.out _ _ ⟨V4z.out.below hbw19 V4z.out.lt,V5z.out.below hbw19 V5z.out.lt,V9z.out.below hbw19 V9z.out.lt,VAz.out.below hbw19 VAz.out.lt⟩ (fun hH=>?_)
      (try simp only [Act.put,List.setIfInBounds_toArray,List.set_cons_zero,List.set_cons_succ])
      clear hK
      refine reg_take 4 (v:=?_) rfl (by kernel_rfl) (fun _ _ _ h=>h) (by rfl) hH ?_ ?_
      rotate_left
      ·intro w hSw;(try dsimp only at hSw);go_simp;(try with_reducible rfl)
      (try simp only [Act.put,List.setIfInBounds_toArray,List.set_cons_zero,List.set_cons_succ])
      refine reg_load 5 rfl (by kernel_rfl) 28 _ (by rfl) G5 28 y.cells _ (fun _ _ _ h=>h) (by rfl) hH (by rfl) (fun w hS=>hS.2.1) Try.underlying28 (by rfl) (by kernel_rfl) ?_
      (try simp only [Act.put,List.setIfInBounds_toArray,List.set_cons_zero,List.set_cons_succ])
      refine reg_load 7 rfl (by kernel_rfl) 60 _ (by rfl) g10 60 Y.cells _ (fun _ _ _ h=>h) (by rfl) hH (by rfl) (fun w hS=>hS.2.2.2) Try.underlying60 (by rfl) (by kernel_rfl) ?_
      (try simp only [Act.put,List.setIfInBounds_toArray,List.set_cons_zero,List.set_cons_succ])
      refine wpAnyH_ready (rs:=[6]) (by kernel_rfl) (by simp) ?_
      refine reg_cons _ rfl (fun K' hK=>?_) AllReadyH.nil
      go_simp
      go_at_call 20
      refine (turned_at y w19 ((XYz.out.2.below hbw19).more hbw19.size) cy).mono ?_
      rintro e w20 ⟨Y1,hmY1,rfl,hoY1,hbw20'⟩
      have hrY1:=MOwF.rdL hoY1 ((XYz.out.2.below hbw19).more hbw19.size) hmY1
      have hbw20:Below wr.heap.size wr w20:=hbw19.trans (hbw20'.mono hbw19.size)
      (try dsimp only)
      refine hK.out _ _ ⟨V4z.out.below hbw20 V4z.out.lt,V5z.out.below hbw20 V5z.out.lt,V9z.out.below hbw20 V9z.out.lt,VAz.out.below hbw20 VAz.out.lt⟩ (fun hH=>?_)
      (try simp only [Act.put,List.setIfInBounds_toArray,List.set_cons_zero,List.set_cons_succ])
      clear hK
      refine wpAnyH_ready (rs:=[8]) (by kernel_rfl) (by simp) ?_
      refine reg_cons _ rfl (fun K' hK=>?_) AllReadyH.nil
      go_simp
      go_at_call 19
      refine (fsame_at Y1 Y w20 hrY1 ((YRz.out.below hbw20).more hbw20.size)).mono ?_
      rw [(sameM_iff _ _).2 (hmY1.trans HMY.out.symm)]
      rintro e w21 ⟨rfl,hbw21'⟩
      have hbw21:Below wr.heap.size wr w21:=hbw20.trans (hbw21'.mono hbw20.size)
      (try dsimp only)
      refine hK.out _ _ ⟨V4z.out.below hbw21 V4z.out.lt,V5z.out.below hbw21 V5z.out.lt,V9z.out.below hbw21 V9z.out.lt,VAz.out.below hbw21 VAz.out.lt⟩ (fun hH=>?_)
      (try simp only [Act.put,List.setIfInBounds_toArray,List.set_cons_zero,List.set_cons_succ])
      clear hK
      refine reg_take 9 (v:=?_) rfl (by kernel_rfl) (fun _ _ _ h=>h) (by rfl) hH ?_ ?_
      rotate_left
      ·intro w hSw;(try dsimp only at hSw);go_simp;(try with_reducible rfl)
      (try simp only [Act.put,List.setIfInBounds_toArray,List.set_cons_zero,List.set_cons_succ])
      refine reg_take 10 (v:=?_) rfl (by kernel_rfl) (fun _ _ _ h=>h) (by rfl) hH ?_ ?_
      rotate_left
      ·intro w hSw;(try dsimp only at hSw);go_simp;(try with_reducible rfl)
      (try simp only [Act.put,List.setIfInBounds_toArray,List.set_cons_zero,List.set_cons_succ])
      refine wpAnyH_done (by kernel_rfl) ?_ _
      go_wp2_with fail
      go_ret
      exact ⟨rfl,HB0z.out.trans (hbw21.mono HB0z.out.size)⟩
open Go.ChangeShapes Go.WideShapes Go.ChangeAt Go.RowKit
section
variable {H:Type} {enc:TypeId × Value→H} {W:World}
theorem qnFields:fieldsOf Try.prog 38=some [(36,0),(23,1),(23,2)]:=by kernel_rfl
theorem rcFields:fieldsOf Try.prog 41=some [(38,0),(39,3),(22,4),(23,5),(23,6),(23,7),(36,8)]:=by kernel_rfl
theorem msFields:fieldsOf Try.prog 28=some [(23,0),(23,1),(24,2),(26,3)]:=by kernel_rfl
set_option maxRecDepth 100000 in
theorem open_qn {cs:List Value} {d:DataW H} {ps:List MemPlace} {n:Nat} (h:DataW.trod enc Try.prog W 0 (fun _=>true) true n 38 cs=some (d,ps)) (hre:∀ n∈d.weights Try.prog 38,n≤reachBytes) :
 ∃ x:QR,cs=x.cells∧QR0 W W.heap.size x:=by
 obtain ⟨xs,m,hcl,hxl,hfi⟩:=trod_structL qnFields h
 rw [show Try.prog.cellsOf 38=3 by kernel_rfl] at hcl
 match cs,hcl with
 | [c0,c1,c2],_=>
   obtain ⟨y0,t0,w0⟩:=hfi 0 _ _ rfl
   obtain ⟨y1,t1,w1⟩:=hfi 1 _ _ rfl
   obtain ⟨y2,t2,w2⟩:=hfi 2 _ _ rfl
   rw [show Try.prog.cellsOf 36=1 by kernel_rfl] at t0
   rw [show Try.prog.cellsOf 23=1 by kernel_rfl] at t1 t2
   simp only [List.drop_succ_cons,List.drop_zero,List.take_succ_cons,List.take_zero] at t0 t1 t2
   obtain ⟨A0,k0,l0,rfl,h0⟩:=open_cellS Try.underlying36 Try.underlying9 Try.cellsStr Try.bytesStr t0 (fun n hn=>hre n (w0 n hn))
   obtain ⟨z1,rfl,b1⟩:=trod_int_nat 65536 Try.underlying23 (by decide) t1
   obtain ⟨z2,rfl,b2⟩:=trod_int_nat 65536 Try.underlying23 (by decide) t2
   exact ⟨⟨A0,k0,⟨l0,z1,z2⟩⟩,rfl,h0,b1,b2⟩
set_option maxRecDepth 100000 in
theorem open_rc {cs:List Value} {d:DataW H} {ps:List MemPlace} {n:Nat} (h:DataW.trod enc Try.prog W 0 (fun _=>true) true n 41 cs=some (d,ps)) (hre:∀ n∈d.weights Try.prog 41,n≤reachBytes) :
 ∃ x:RR,cs=x.cells∧RR0 W W.heap.size x:=by
 obtain ⟨xs,m,hcl,hxl,hfi⟩:=trod_structL rcFields h
 rw [show Try.prog.cellsOf 41=9 by kernel_rfl] at hcl
 match cs,hcl with
 | [c0,c1,c2,c3,c4,c5,c6,c7,c8],_=>
   obtain ⟨y0,t0,w0⟩:=hfi 0 _ _ rfl
   obtain ⟨y1,t1,w1⟩:=hfi 1 _ _ rfl
   obtain ⟨y2,t2,w2⟩:=hfi 2 _ _ rfl
   obtain ⟨y3,t3,w3⟩:=hfi 3 _ _ rfl
   obtain ⟨y4,t4,w4⟩:=hfi 4 _ _ rfl
   obtain ⟨y5,t5,w5⟩:=hfi 5 _ _ rfl
   obtain ⟨y6,t6,w6⟩:=hfi 6 _ _ rfl
   rw [show Try.prog.cellsOf 38=3 by kernel_rfl] at t0
   rw [show Try.prog.cellsOf 39=1 by kernel_rfl] at t1
   rw [show Try.prog.cellsOf 22=1 by kernel_rfl] at t2
   rw [show Try.prog.cellsOf 23=1 by kernel_rfl] at t3 t4 t5
   rw [show Try.prog.cellsOf 36=1 by kernel_rfl] at t6
   simp only [List.drop_succ_cons,List.drop_zero,List.take_succ_cons,List.take_zero] at t0 t1 t2 t3 t4 t5 t6
   obtain ⟨q,hq,hq0⟩:=open_qn t0 (fun n hn=>hre n (w0 n hn))
   obtain ⟨z1,rfl,b1⟩:=trod_int_nat 4294967296 Try.underlying39 (by decide) t1
   obtain ⟨A2,k2,l2,rfl,h2,h2c,h2l⟩:=open_cellB Try.underlying22 Try.underlying5 Try.cellsByte Try.bytesByte t2 (fun n hn=>hre n (w2 n hn))
   obtain ⟨z3,rfl,b3⟩:=trod_int_nat 65536 Try.underlying23 (by decide) t3
   obtain ⟨z4,rfl,b4⟩:=trod_int_nat 65536 Try.underlying23 (by decide) t4
   obtain ⟨z5,rfl,b5⟩:=trod_int_nat 65536 Try.underlying23 (by decide) t5
   obtain ⟨A6,k6,l6,rfl,h6⟩:=open_cellS Try.underlying36 Try.underlying9 Try.cellsStr Try.bytesStr t6 (fun n hn=>hre n (w6 n hn))
   obtain ⟨qA,qc,qn⟩:=q
   simp only [QR.cells,List.cons.injEq,and_true] at hq
   obtain ⟨rfl,rfl,rfl⟩:=hq
   exact ⟨⟨qA,qc,A2,k2,A6,k6,⟨qn,z1,l2,z3,z4,z5,l6⟩⟩,rfl,hq0,⟨h2,h2c,by simp only;omega⟩,h6,b1,b3,b4,b5⟩
set_option maxRecDepth 100000 in
theorem open_msg {base:Nat} {v:Value} {d:DataW H} {ps:List MemPlace} (hval:Value.okWide Try.prog W .any base 28 v) (hd:DataW.Trod enc Try.prog W 0 (fun _=>true) true 28 v d ps) (hre:∀ n∈d.weights Try.prog 28,n≤reachBytes) :
 ∃ x:MR,v.cells.toList=x.cells∧M0 W W.heap.size x:=by
 obtain ⟨fuel,h⟩:=hd
 obtain ⟨xs,m,hcl,hxl,hfi⟩:=trod_structL msFields h
 rw [show Try.prog.cellsOf 28=6 by kernel_rfl] at hcl
 generalize v.cells.toList=cs at hcl hfi ⊢
 match cs,hcl with
 | [c0,c1,c2,c3,c4,c5],_=>
   obtain ⟨y0,t0,w0⟩:=hfi 0 _ _ rfl
   obtain ⟨y1,t1,w1⟩:=hfi 1 _ _ rfl
   obtain ⟨y2,t2,w2⟩:=hfi 2 _ _ rfl
   obtain ⟨y3,t3,w3⟩:=hfi 3 _ _ rfl
   rw [show Try.prog.cellsOf 23=1 by kernel_rfl] at t0 t1
   rw [show Try.prog.cellsOf 24=1 by kernel_rfl] at t2
   rw [show Try.prog.cellsOf 26=3 by kernel_rfl] at t3
   simp only [List.drop_succ_cons,List.drop_zero,List.take_succ_cons,List.take_zero] at t0 t1 t2 t3
   obtain ⟨z0,rfl,b0⟩:=trod_int_nat 65536 Try.underlying23 (by decide) t0
   obtain ⟨z1,rfl,b1⟩:=trod_int_nat 65536 Try.underlying23 (by decide) t1
   have hqo:=fun (cs:List Value) (d:DataW H) (ps:List MemPlace) (n:Nat) (h1:DataW.trod enc Try.prog W 0 (fun _=>true) true n 38 cs=some (d,ps)) h2=>open_qn (W:=W) (enc:=enc) (n:=n) h1 h2
   have hro:=fun (cs:List Value) (d:DataW H) (ps:List MemPlace) (n:Nat) (h1:DataW.trod enc Try.prog W 0 (fun _=>true) true n 41 cs=some (d,ps)) h2=>open_rc (W:=W) (enc:=enc) (n:=n) h1 h2
   obtain ⟨A2,k2,l2,rfl,h2c,h2b,h2r,h2q⟩:=open_rowsG QR.cells 3 QR.cells_length (by omega) Try.underlying24 (by kernel_rfl) 32 (by kernel_rfl) (QR0 W W.heap.size) t2 (fun n hn=>hre n (w2 n hn)) hqo
   obtain ⟨u0,u1,u2,q,hy,s0,s1,s2⟩:=trod_array3 Try.underlying26 (by kernel_rfl) t3
   have hwa:∀ u:DataW H,u=u0.1∨u=u1.1∨u=u2.1→∀ n∈u.weights Try.prog 25,n≤reachBytes:=fun u hu n hn=>hre n (w3 n (by
    rw [hy]
    simp only [DataW.weights,Try.underlying26]
    exact weights_all_memS hn (by rcases hu with rfl | rfl | rfl <;> simp)))
   obtain ⟨A3,k3,l3,rfl,h3c,h3b,h3r,h3q⟩:=open_rowsG RR.cells 9 RR.cells_length (by omega) Try.underlying25 (by kernel_rfl) 96 (by kernel_rfl) (RR0 W W.heap.size) s0 (hwa _ (Or.inl rfl)) hro
   obtain ⟨A4,k4,l4,rfl,h4c,h4b,h4r,h4q⟩:=open_rowsG RR.cells 9 RR.cells_length (by omega) Try.underlying25 (by kernel_rfl) 96 (by kernel_rfl) (RR0 W W.heap.size) s1 (hwa _ (Or.inr (Or.inl rfl))) hro
   obtain ⟨A5,k5,l5,rfl,h5c,h5b,h5r,h5q⟩:=open_rowsG RR.cells 9 RR.cells_length (by omega) Try.underlying25 (by kernel_rfl) 96 (by kernel_rfl) (RR0 W W.heap.size) s2 (hwa _ (Or.inr (Or.inr rfl))) hro
   exact ⟨⟨z0,z1,A2,k2,l2,A3,k3,l3,A4,k4,l4,A5,k5,l5⟩,rfl,b0,b1,⟨h2r,rfl,h2c,by simp only;omega,h2q⟩,⟨h3r,rfl,h3c,by simp only;omega,h3q⟩,⟨h4r,rfl,h4c,by simp only;omega,h4q⟩,⟨h5r,rfl,h5c,by simp only;omega,h5q⟩⟩
end
set_option maxRecDepth 100000 in
theorem open_msgv {H:Type} {enc:TypeId × Value→H} {W:World} {base:Nat} {v:Value} {d:DataW H} {ps:List MemPlace} (hval:Value.okWide Try.prog W .any base 28 v) (hd:DataW.Trod enc Try.prog W 0 (fun _=>true) true 28 v d ps) (hre:∀ n∈d.weights Try.prog 28,n≤reachBytes) :
 ∃ x:MR,v = .agg x.cells.toArray∧M0 W W.heap.size x:=by
 obtain ⟨x,h1,h2⟩:=open_msg hval hd hre
 obtain ⟨cs,rfl,_⟩:=Go.WideShapes.okWide_struct Try.underlying28 hval
 exact ⟨x,by rw [←h1];simp [Value.cells],h2⟩
open Go.RowKit
theorem zmsg_m0 (w5:World) (A0:Option Addr) (c0 n0:Nat) (nm:List (List UInt8)) (h:NR0 w5 w5.heap.size A0 c0 nm) (hn0:nm.length=n0) :
 M0 (w5.alloc (.cells #[.slice A0 n0 c0,.int .u16 0,.int .u16 0] 38)) (w5.alloc (.cells #[.slice A0 n0 c0,.int .u16 0,.int .u16 0] 38)).heap.size ⟨0,0,some ⟨w5.heap.size,0,none⟩,1,[⟨A0,c0,⟨nm,0,0⟩⟩],none,0,[],none,0,[],none,0,[]⟩:=by
 subst hn0
 have hR:∀ (w:World) (B:Nat),RsR0 w B none 0 0 []:=fun w B=>⟨Rd.nil _ _ _,rfl,Nat.le_refl _,Nat.zero_le _,fun x h=>(by cases h)⟩
 refine ⟨by show 0<65536;omega,by show 0<65536;omega,⟨Rd.lit_top0 w5 38 (qcs [⟨A0,c0,⟨nm,0,0⟩⟩]) 3 rfl,rfl,Nat.le_refl 1,by show 1≤5000000000000;omega,fun z hz=>?_⟩,hR _ _,hR _ _,hR _ _⟩
 simp only [List.mem_singleton] at hz
 subst hz
 exact ⟨(h.below (below_new w5 _)).more (below_new w5 _).size,by show 0<65536;omega,by show 0<65536;omega⟩
end Go.Proofs.Ytlipmlbijddopaa
set_option linter.unusedVariables false
set_option linter.unusedSimpArgs false
namespace Go.Proofs.Ytlipmlbijddopaa
open Go.RowKit
theorem madeG_flat {α:Type} (f:α→List Value) (s:Nat) (hs:∀ x,(f x).length=s) (h0:0<s) (x:α) (z:Array Value) (hz:z.toList=f x) (n:Nat):madeCells z (n*s)=((List.replicate n x).flatMap f).toArray:=by
 have hzs:z.size=s:=by rw [←hs x,←hz];simp
 have hl:((List.replicate n x).flatMap f).length=n*s:=by
  induction n with
  | zero=>simp
  | succ n ih=>rw [List.replicate_succ,List.flatMap_cons,List.length_append,hs,ih,Nat.add_mul,Nat.one_mul,Nat.add_comm]
 apply Array.ext
 ·rw [size_madeCells,List.size_toArray,hl]
 ·intro j h1 h2
  rw [size_madeCells] at h1
  have hq:j / s<(List.replicate n x).length:=by rw [List.length_replicate];exact Nat.div_lt_of_lt_mul (by rw [Nat.mul_comm];exact h1)
  have hms:j % s<s:=Nat.mod_lt _ h0
  have h3:=flat_get f s hs (List.replicate n x) (j / s) (j % s) hq hms
  have hjq:j / s*s+j % s=j:=by rw [Nat.mul_comm];exact Nat.div_add_mod j s
  rw [hjq,List.getElem_replicate,←hz] at h3
  rw [List.getElem?_eq_getElem (by rw [hl];exact h1)] at h3
  simp only [madeCells,Array.getElem_map,Array.getElem_range,List.getElem_toArray]
  rw [hzs,getElem!_pos z (j % s) (by rw [hzs];exact hms)]
  have h4:z.toList[j % s]? = some z[j % s]:=by
   rw [List.getElem?_eq_getElem (by simpa [hzs] using hms)];simp
  rw [h4] at h3
  exact (Option.some.inj h3).symm
def zQRr:QR:=⟨none,0,zQ⟩
def zRRr:RR:=⟨none,0,none,0,none,0,zR⟩
theorem make_qns (n:Nat) (hn:n≤1000000) (W:World):(Instr.makeSlice 24 (.int .i64 (n:Int)) (.int .i64 (n:Int))).run Try.prog W = .ok (.slice (some ⟨W.heap.size,0,none⟩) n n) (W.alloc (.cells (qcs (List.replicate n zQRr)).toArray 38)):=by
 obtain ⟨i0,hi,hz0,hz1,hz2⟩:=info_parts Try.infoQ
 have:=run_make (P:=Try.prog) W 24 38 i0 _ Try.underlying24 hi hz0 .i64 .i64 n n (by omega) (by omega) (by rw [hz2];omega) (by omega)
 rw [this,hz1]
 simp only [Int.toNat_natCast]
 have e:madeCells (Value.cells (.agg #[.slice none 0 0,.int .u16 0,.int .u16 0])) (n*3)=(qcs (List.replicate n zQRr)).toArray:=madeG_flat QR.cells 3 QR.cells_length (by omega) zQRr _ rfl n
 rw [e]
theorem make_rcs (n:Nat) (hn:n≤1000000) (W:World):(Instr.makeSlice 25 (.int .i64 (n:Int)) (.int .i64 (n:Int))).run Try.prog W = .ok (.slice (some ⟨W.heap.size,0,none⟩) n n) (W.alloc (.cells (rcs (List.replicate n zRRr)).toArray 41)):=by
 obtain ⟨i0,hi,hz0,hz1,hz2⟩:=info_parts Try.infoR
 have:=run_make (P:=Try.prog) W 25 41 i0 _ Try.underlying25 hi hz0 .i64 .i64 n n (by omega) (by omega) (by rw [hz2];omega) (by omega)
 rw [this,hz1]
 simp only [Int.toNat_natCast]
 have e:madeCells (Value.cells (.agg zRR.cells.toArray)) (n*9)=(rcs (List.replicate n zRRr)).toArray:=madeG_flat RR.cells 9 RR.cells_length (by omega) zRRr _ rfl n
 rw [e]
theorem zq_rd (w:World) (B:Nat):QRd w B zQRr:=⟨⟨Rd.nil _ _ _,Nat.le_refl _,by simp [sizeN,zQRr,zQ]⟩,by show 0<65536;omega,by show 0<65536;omega⟩
theorem zr_rd (w:World) (B:Nat):RRd w B zRRr:=⟨zq_rd w B,⟨Rd.nil _ _ _,Nat.le_refl _,Nat.zero_le _⟩,⟨Rd.nil _ _ _,Nat.le_refl _,by simp [sizeN,zRRr,zR]⟩,by show 0<4294967296;omega,by show 0<65536;omega,by show 0<65536;omega,by show 0<65536;omega⟩
theorem Vx.rdV {w:World} {b n:Nat} {e:TypeId} {cs:List Value} (h:Vx w b e cs) (hn:cs.length=n):Rd w w.heap.size (some ⟨b,0,none⟩) n cs:=
 ⟨hn,fun _=>⟨b,0,rfl,h.lt,fun j u hu=>by rw [Nat.zero_add,h.cell j];exact hu⟩⟩
theorem Vx.qs0 {w:World} {b n:Nat} (h:Vx w b 38 (qcs (List.replicate n zQRr))) (hn:n≤1000000):QsRd w w.heap.size (some ⟨b,0,none⟩) n (List.replicate n zQRr).length (List.replicate n zQRr):=by
 have h1:(List.replicate n zQRr).length=n:=List.length_replicate
 exact ⟨h.rdV (qcs_length _),rfl,by rw [h1];exact Nat.le_refl _,by rw [h1];omega,fun x hx=>by rw [List.eq_of_mem_replicate hx];exact zq_rd _ _⟩
theorem Vx.rs0 {w:World} {b n:Nat} (h:Vx w b 41 (rcs (List.replicate n zRRr))) (hn:n≤1000000):RsRd w w.heap.size (some ⟨b,0,none⟩) n (List.replicate n zRRr).length (List.replicate n zRRr):=by
 have h1:(List.replicate n zRRr).length=n:=List.length_replicate
 exact ⟨h.rdV (rcs_length _),rfl,by rw [h1];exact Nat.le_refl _,by rw [h1];omega,fun x hx=>by rw [List.eq_of_mem_replicate hx];exact zr_rd _ _⟩
theorem lim_rd {w:World} {bq b1 b2 q:Nat} (hq:Vx w bq 38 (qcs (List.replicate q zQRr))) (h1:Vx w b1 41 (rcs (List.replicate 150 zRRr))) (h2:Vx w b2 41 (rcs (List.replicate 50 zRRr))) (hql:q≤1000):MRd w w.heap.size ⟨0,0,some ⟨bq,0,none⟩,q,List.replicate q zQRr,none,0,[],some ⟨b1,0,none⟩,150,List.replicate 150 zRRr,some ⟨b2,0,none⟩,50,List.replicate 50 zRRr⟩:=
 ⟨by show 0<65536;omega,by show 0<65536;omega,hq.qs0 (by omega),RsRd.nil _ _,h1.rs0 (by omega),h2.rs0 (by omega)⟩
theorem lim_cpy (bq b1 b2 q:Nat):Cpy ⟨0,0,some ⟨bq,0,none⟩,q,List.replicate q zQRr,none,0,[],some ⟨b1,0,none⟩,150,List.replicate 150 zRRr,some ⟨b2,0,none⟩,50,List.replicate 50 zRRr⟩:=by
 refine ⟨fun z hz=>?_,fun i r hr=>?_⟩
 ·have:=List.eq_of_mem_replicate (show z∈List.replicate q zQRr from hz)
  subst this
  show 0*16≤_
  omega
 ·have:r=zRRr:=by
   match i,hr with
   | 0,hr=>cases hr
   | 1,hr=>exact List.eq_of_mem_replicate (show r∈List.replicate 150 zRRr from hr)
   | k+2,hr=>exact List.eq_of_mem_replicate (show r∈List.replicate 50 zRRr from hr)
  subst this
  exact ⟨by show 0*16≤_;omega,by show 0*16≤_;omega⟩
theorem lim_cells (bq b1 b2 q:Nat):(MR.cells ⟨0,0,some ⟨bq,0,none⟩,q,List.replicate q zQRr,none,0,[],some ⟨b1,0,none⟩,150,List.replicate 150 zRRr,some ⟨b2,0,none⟩,50,List.replicate 50 zRRr⟩)=[.int .u16 0,.int .u16 0,.slice (some ⟨bq,0,none⟩) q q,.slice none 0 0,.slice (some ⟨b1,0,none⟩) 150 150,.slice (some ⟨b2,0,none⟩) 50 50]:=by
 simp [MR.cells]
theorem lim2 {w:World} {M db rb n:Nat} (hM:Vx w M 28 [.int .u16 0,.int .u16 0,.slice none 0 0,.slice (some ⟨rb,0,none⟩) 1 1,.slice none 0 0,.slice none 0 0]) (hD:Vx w db 5 (bc (List.replicate n 0))) (hR:Vx w rb 41 [.slice none 0 0,.int .u16 1,.int .u16 0,.int .u32 0,.slice (some ⟨db,0,none⟩) n n,.int .u16 0,.int .u16 0,.int .u16 0,.slice none 0 0]) (hn:n≤10000):∃ X:MR,MRd w w.heap.size X∧Cpy X∧Vx w M 28 X.cells:=by
 obtain ⟨r,hr⟩:∃ r:RR,r=⟨none,0,some ⟨db,0,none⟩,n,none,0,⟨⟨[],1,0⟩,0,List.replicate n 0,0,0,0,[]⟩⟩:=⟨_,rfl⟩
 have hl:(List.replicate n (0:UInt8)).length=n:=List.length_replicate
 have hrc:rcs [r]=[.slice none 0 0,.int .u16 1,.int .u16 0,.int .u32 0,.slice (some ⟨db,0,none⟩) n n,.int .u16 0,.int .u16 0,.int .u16 0,.slice none 0 0]:=by rw [hr];simp [rcs,RR.cells]
 have hrr:RRd w w.heap.size r:=by
  rw [hr]
  refine ⟨⟨⟨Rd.nil _ _ _,Nat.le_refl _,by show (1:Nat)≤140737488355328;omega⟩,by show 1<65536;omega,by show 0<65536;omega⟩,⟨?_,by show (List.replicate n (0:UInt8)).length≤n;rw [hl];exact Nat.le_refl _,by show (List.replicate n (0:UInt8)).length≤_;rw [hl];omega⟩,⟨Rd.nil _ _ _,Nat.le_refl _,by show (1:Nat)≤140737488355328;omega⟩,by show 0<4294967296;omega,by show 0<65536;omega,by show 0<65536;omega,by show 0<65536;omega⟩
  exact hD.rdV (bc_length _)
 have hrs:RsRd w w.heap.size (some ⟨rb,0,none⟩) 1 1 [r]:=by
  refine ⟨?_,rfl,Nat.le_refl _,by omega,fun z hz=>?_⟩
  ·rw [hrc];exact hR.rdV rfl
  ·simp only [List.mem_singleton] at hz
   rw [hz];exact hrr
 refine ⟨⟨0,0,none,0,[],some ⟨rb,0,none⟩,1,[r],none,0,[],none,0,[]⟩,⟨by show 0<65536;omega,by show 0<65536;omega,QsRd.nil _ _,hrs,RsRd.nil _ _,RsRd.nil _ _⟩,⟨fun q hq=>(by cases hq),fun i z hz=>?_⟩,hM⟩
 have:z=r:=by
  match i,hz with
  | 0,hz=>exact List.mem_singleton.1 (show z∈[r] from hz)
  | 1,hz=>cases hz
  | k+2,hz=>cases hz
 rw [this,hr]
 exact ⟨by show 0*16≤_;omega,by show 0*16≤_;omega⟩
theorem vx_three {w:World} {e1 e2 e3:TypeId} (cs ds es:List Value):Vx (((w.alloc (.cells cs.toArray e1)).alloc (.cells ds.toArray e2)).alloc (.cells es.toArray e3)) w.heap.size e1 cs∧Vx (((w.alloc (.cells cs.toArray e1)).alloc (.cells ds.toArray e2)).alloc (.cells es.toArray e3)) (w.heap.size+1) e2 ds∧Vx (((w.alloc (.cells cs.toArray e1)).alloc (.cells ds.toArray e2)).alloc (.cells es.toArray e3)) (w.heap.size+1+1) e3 es:=by
 refine ⟨((Vx.new w e1 cs).alloc _).alloc _,?_,?_⟩
 ·have:=(Vx.new (w.alloc (.cells cs.toArray e1)) e2 ds).alloc (.cells es.toArray e3)
  rwa [World.size_alloc] at this
 ·have:=Vx.new ((w.alloc (.cells cs.toArray e1)).alloc (.cells ds.toArray e2)) e3 es
  rwa [World.size_alloc,World.size_alloc] at this
set_option maxRecDepth 100000 in
set_option maxHeartbeats 16000000 in
theorem limits_at (w:World) :
 Calls Try.prog 10 #[] w fun e w'=>e = .returned (.bool true)∧Below w.heap.size w w':=by
 go_enter Try.func10,Try.ntmps10
 go_wp2_with fail
 have hv0:=Vx.new w 3 [.int .i64 255,.int .i64 256,.int .i64 257]
 have hb0:=below_new w (.cells #[.int .i64 255,.int .i64 256,.int .i64 257] 3)
 generalize w.alloc (.cells #[.int .i64 255,.int .i64 256,.int .i64 257] 3)=W1 at *
 have HV0:=Lib.hid hv0
 have HB0:=Lib.hid hb0
 have hT:w.heap.size<W1.heap.size:=hv0.lt
 clear hv0 hb0
 go_loopw [17] (fun vi wr=>∃ i:Nat,i≤3∧vi = .int .i64 i∧Hid (Below W1.heap.size W1 wr)) (fun vi _=>3 - (intOf vi).toNat)
 case atStart=>exact ⟨0,by omega,rfl,Lib.hid (Below.refl _ _)⟩
 case round=>
  obtain ⟨i,hi3,rfl,HB⟩:=hrel
  rcases Nat.lt_or_ge i 3 with hlt | hge
  ·obtain ⟨n,hn⟩:∃ n,n=255+i:=⟨_,rfl⟩
   have hc:wr.cell? ⟨w.heap.size,i,none⟩=some (.int .i64 (n:Int)):=by
    rw [(HV0.out.below HB.out hT).cell i,hn]
    rcases (show i=0∨i=1∨i=2 by omega) with rfl | rfl | rfl <;> rfl
   have hn1:255≤n:=by omega
   have hn2:n≤257:=by omega
   obtain ⟨q,hq⟩:∃ q,q=n - 200:=⟨_,rfl⟩
   have kq1:IntKind.i64.wrap ((n:Int) - 200)=(q:Int):=by rw [IntKind.wrap_i64];omega
   have kq2:(n:Int) - 200=(q:Int):=by omega
   have kmq:=make_qns q (by omega)
   have hql:q≤57:=by omega
   have hi3i:(i:Int)<3:=by omega
   have hsz:=HB.out.size
   have HQ:=Lib.hid hq
   clear hn hq
   go_upto_region 5 with fail
   have vq:=(vx_two (w:=wr) (e1:=38) (e2:=28) (cs:=qcs (List.replicate q zQRr)) (ds:=[.int .u16 0,.int .u16 0,.slice (some ⟨wr.heap.size,0,none⟩) q q,.slice none 0 0,.slice none 0 0,.slice none 0 0]) (Below.refl _ _)).1
   have vm:=(vx_two (w:=wr) (e1:=38) (e2:=28) (cs:=qcs (List.replicate q zQRr)) (ds:=[.int .u16 0,.int .u16 0,.slice (some ⟨wr.heap.size,0,none⟩) q q,.slice none 0 0,.slice none 0 0,.slice none 0 0]) (Below.refl _ _)).2
   have hbW:=HB.out.trans ((below_two wr (.cells (qcs (List.replicate q zQRr)).toArray 38) (.cells #[.int .u16 0,.int .u16 0,.slice (some ⟨wr.heap.size,0,none⟩) q q,.slice none 0 0,.slice none 0 0,.slice none 0 0] 28)).mono hsz)
   obtain ⟨bq,hbq⟩:∃ b,b=wr.heap.size:=⟨_,rfl⟩
   obtain ⟨M,hM⟩:∃ b,b=wr.heap.size+1:=⟨_,rfl⟩
   rw [←hM]
   rw [←hM] at vm
   rw [←hbq] at vq vm hbW ⊢
   have hne1:bq≠M:=by omega
   have hMge:W1.heap.size≤M:=by omega
   generalize World.alloc (World.alloc wr _) _=W2 at vq vm hbW ⊢
   have VQ:=Lib.hid vq
   have VM:=Lib.hid vm
   have HBW:=Lib.hid hbW
   have hqM:M<W2.heap.size:=vm.lt
   have hqq:bq<W2.heap.size:=vq.lt
   clear vq vm hbW hbq hM
   go_cut [3] from 25 to 30 (fun v3 wx=>∃ b1 b2:Nat,v3 = .pointer (some ⟨M,0,none⟩)∧Hid (Vx wx bq 38 (qcs (List.replicate q zQRr)))∧Hid (Vx wx M 28 [.int .u16 0,.int .u16 0,.slice (some ⟨bq,0,none⟩) q q,.slice none 0 0,.slice (some ⟨b1,0,none⟩) 150 150,.slice (some ⟨b2,0,none⟩) 50 50])∧Hid (Vx wx b1 41 (rcs (List.replicate 150 zRRr)))∧Hid (Vx wx b2 41 (rcs (List.replicate 50 zRRr)))∧Hid (Below W1.heap.size W1 wx))
   case first=>
    have k150:∀ W:World,(Instr.makeSlice 25 (.int .i64 150) (.int .i64 150)).run Try.prog W = .ok (.slice (some ⟨W.heap.size,0,none⟩) 150 150) (W.alloc (.cells (rcs (List.replicate 150 zRRr)).toArray 41)):=make_rcs 150 (by omega)
    have k50:∀ W:World,(Instr.makeSlice 25 (.int .i64 50) (.int .i64 50)).run Try.prog W = .ok (.slice (some ⟨W.heap.size,0,none⟩) 50 50) (W.alloc (.cells (rcs (List.replicate 50 zRRr)).toArray 41)):=make_rcs 50 (by omega)
    refine wp_region_held_drew (S:=fun _=>True) (by kernel_rfl) trivial (fun hH=>?_)
    refine reg_take 2 (v:=?_) rfl (by kernel_rfl) (fun _ _ _ h=>h) (by rfl) hH ?_ ?_
    rotate_left
    ·intro w hSw;(try dsimp only at hSw);go_simp;(try with_reducible rfl)
    (try simp only [Act.put,List.setIfInBounds_toArray,List.set_cons_zero,List.set_cons_succ])
    refine reg_take 5 (v:=?_) rfl (by kernel_rfl) (fun _ _ _ h=>h) (by rfl) hH ?_ ?_
    rotate_left
    ·intro w hSw;(try dsimp only at hSw);go_simp;(try with_reducible rfl)
    (try simp only [Act.put,List.setIfInBounds_toArray,List.set_cons_zero,List.set_cons_succ])
    have hbd:Below W1.heap.size W1 W2.drew:=HBW.out.drew
    refine wpAnyH_ready (rs:=[0,1]) (by kernel_rfl) (by simp) ?_
    refine reg_cons _ rfl (fun K' hK=>?_) (reg_cons _ rfl (fun K' hK=>?_) AllReadyH.nil)
    ·go_simp
     generalize hgw1:World.alloc _ _=w1
     have ha1':Below W2.heap.size W2 w1:=by rw [←hgw1];exact below_new _ _
     have ha1:Below W2.drew.heap.size W2.drew w1.drew:=⟨ha1'.os,ha1'.tape,ha1'.output,ha1'.size,ha1'.block⟩
     have vn1:Vx w1.drew W2.heap.size 41 (rcs (List.replicate 150 zRRr)):=by
      have h0:Vx w1 W2.heap.size 41 (rcs (List.replicate 150 zRRr)):=by rw [←hgw1];exact Vx.new W2 _ _
      exact h0
     clear hgw1
     refine hK.out _ _ trivial (fun hH=>?_)
     (try simp only [Act.put,List.setIfInBounds_toArray,List.set_cons_zero,List.set_cons_succ])
     clear hK
     obtain ⟨b1,heb1⟩:∃ b,b=W2.heap.size:=⟨_,rfl⟩
     rw [←heb1] at vn1 ⊢
     have hlt1:b1<w1.heap.size:=vn1.lt
     have hneb1:b1≠M:=by have:=VM.out.drew.lt;have e:W2.drew.heap.size=W2.heap.size:=rfl;omega
     have vq1:=VQ.out.drew.below ha1 VQ.out.drew.lt
     have vm1:=VM.out.drew.below ha1 VM.out.drew.lt
     have hb1:=hbd.trans (ha1.mono hbd.size)
     clear heb1
     refine reg_take 3 (v:=?_) rfl (by kernel_rfl) (fun _ _ _ h=>h) (by rfl) trivial ?_ ?_
     rotate_left
     ·intro w hSw;(try dsimp only at hSw);go_simp;(try with_reducible rfl)
     (try simp only [Act.put,List.setIfInBounds_toArray,List.set_cons_zero,List.set_cons_succ])
     refine wpAnyH_ready (rs:=[1,4]) (by kernel_rfl) (by simp) ?_
     refine reg_cons _ rfl (fun K' hK=>?_) (reg_cons _ rfl (fun K' hK=>?_) AllReadyH.nil)
     ·go_simp
      generalize hgw2:World.alloc _ _=w2
      have ha2':Below w1.heap.size w1 w2:=by rw [←hgw2];exact below_new _ _
      have ha2:Below w1.drew.heap.size w1.drew w2.drew:=⟨ha2'.os,ha2'.tape,ha2'.output,ha2'.size,ha2'.block⟩
      have vn2:Vx w2.drew w1.heap.size 41 (rcs (List.replicate 50 zRRr)):=by
       have h0:Vx w2 w1.heap.size 41 (rcs (List.replicate 50 zRRr)):=by rw [←hgw2];exact Vx.new w1 _ _
       exact h0
      clear hgw2
      refine hK.out _ _ trivial (fun hH=>?_)
      (try simp only [Act.put,List.setIfInBounds_toArray,List.set_cons_zero,List.set_cons_succ])
      clear hK
      obtain ⟨b2,heb2⟩:∃ b,b=w1.heap.size:=⟨_,rfl⟩
      rw [←heb2] at vn2 ⊢
      have hlt2:b2<w2.heap.size:=vn2.lt
      have hneb2:b2≠M:=by have:=vm1.lt;have e:w1.drew.heap.size=w1.heap.size:=rfl;omega
      have vq2:=vq1.below ha2 vq1.lt
      have vm2:=vm1.below ha2 vm1.lt
      have vb12:=vn1.below ha2 vn1.lt
      have hb2:=hb1.trans (ha2.mono hb1.size)
      clear heb2
      refine wpAnyH_ready (rs:=[4]) (by kernel_rfl) (by simp) ?_
      refine reg_cons _ rfl (fun K' hK=>?_) AllReadyH.nil
      have m3:=vm2.cell 4
      have f3:=vm2.free 4
      go_simp
      generalize hgw3:World.setCell _ _ _=w3
      refine hK.out _ _ trivial (fun hH=>?_)
      (try simp only [Act.put,List.setIfInBounds_toArray,List.set_cons_zero,List.set_cons_succ])
      clear hK m3 f3
      have vm3:=show Vx w3.drew M 28 _ from (show Vx w3 M 28 _ from hgw3 ▸ (show Vx w2 M 28 _ from vm2).set_ 4 (.slice (some ⟨b1,0,none⟩) 150 150))
      have vq3:Vx w3.drew bq 38 (qcs (List.replicate q zQRr)):=by
       have h0:Vx w3 bq 38 (qcs (List.replicate q zQRr)):=by rw [←hgw3];exact (show Vx w2 bq 38 _ from vq2).setO hne1 4 (.slice (some ⟨b1,0,none⟩) 150 150)
       exact h0
      have hb3:Below W1.heap.size W1 w3.drew:=by
       have h0:Below W1.heap.size W1 w2:=⟨hb2.os,hb2.tape,hb2.output,hb2.size,hb2.block⟩
       have h1:Below W1.heap.size W1 w3:=by rw [←hgw3];exact h0.setCell (show W1.heap.size≤M from hMge) (.slice (some ⟨b1,0,none⟩) 150 150)
       exact ⟨h1.os,h1.tape,h1.output,h1.size,h1.block⟩
      have vb13:Vx w3.drew b1 41 (rcs (List.replicate 150 zRRr)):=by
       have h0:Vx w3 b1 41 (rcs (List.replicate 150 zRRr)):=by rw [←hgw3];exact (show Vx w2 b1 41 _ from vb12).setO hneb1 4 (.slice (some ⟨b1,0,none⟩) 150 150)
       exact h0
      have vb23:Vx w3.drew b2 41 (rcs (List.replicate 50 zRRr)):=by
       have h0:Vx w3 b2 41 (rcs (List.replicate 50 zRRr)):=by rw [←hgw3];exact (show Vx w2 b2 41 _ from vn2).setO hneb2 4 (.slice (some ⟨b1,0,none⟩) 150 150)
       exact h0
      clear hgw3
      refine reg_take 6 (v:=?_) rfl (by kernel_rfl) (fun _ _ _ h=>h) (by rfl) trivial ?_ ?_
      rotate_left
      ·intro w hSw;(try dsimp only at hSw);go_simp;(try with_reducible rfl)
      (try simp only [Act.put,List.setIfInBounds_toArray,List.set_cons_zero,List.set_cons_succ])
      refine wpAnyH_ready (rs:=[7]) (by kernel_rfl) (by simp) ?_
      refine reg_cons _ rfl (fun K' hK=>?_) AllReadyH.nil
      have m4:=vm3.cell 5
      have f4:=vm3.free 5
      go_simp
      generalize hgw4:World.setCell _ _ _=w4
      refine hK.out _ _ trivial (fun hH=>?_)
      (try simp only [Act.put,List.setIfInBounds_toArray,List.set_cons_zero,List.set_cons_succ])
      clear hK m4 f4
      have vm4:=show Vx w4.drew M 28 _ from (show Vx w4 M 28 _ from hgw4 ▸ (show Vx w3 M 28 _ from vm3).set_ 5 (.slice (some ⟨b2,0,none⟩) 50 50))
      have vq4:Vx w4.drew bq 38 (qcs (List.replicate q zQRr)):=by
       have h0:Vx w4 bq 38 (qcs (List.replicate q zQRr)):=by rw [←hgw4];exact (show Vx w3 bq 38 _ from vq3).setO hne1 5 (.slice (some ⟨b2,0,none⟩) 50 50)
       exact h0
      have hb4:Below W1.heap.size W1 w4.drew:=by
       have h0:Below W1.heap.size W1 w3:=⟨hb3.os,hb3.tape,hb3.output,hb3.size,hb3.block⟩
       have h1:Below W1.heap.size W1 w4:=by rw [←hgw4];exact h0.setCell (show W1.heap.size≤M from hMge) (.slice (some ⟨b2,0,none⟩) 50 50)
       exact ⟨h1.os,h1.tape,h1.output,h1.size,h1.block⟩
      have vb14:Vx w4.drew b1 41 (rcs (List.replicate 150 zRRr)):=by
       have h0:Vx w4 b1 41 (rcs (List.replicate 150 zRRr)):=by rw [←hgw4];exact (show Vx w3 b1 41 _ from vb13).setO hneb1 5 (.slice (some ⟨b2,0,none⟩) 50 50)
       exact h0
      have vb24:Vx w4.drew b2 41 (rcs (List.replicate 50 zRRr)):=by
       have h0:Vx w4 b2 41 (rcs (List.replicate 50 zRRr)):=by rw [←hgw4];exact (show Vx w3 b2 41 _ from vb23).setO hneb2 5 (.slice (some ⟨b2,0,none⟩) 50 50)
       exact h0
      clear hgw4
      refine wpAnyH_done (by kernel_rfl) ?_ _
      go_wp2_with fail
      try simp only [Act.put]
      go_meet
      exact ⟨b1,b2,rfl,Lib.hid vq4,Lib.hid vm4,Lib.hid vb14,Lib.hid vb24,Lib.hid hb4⟩
     ·have m5:=vm1.cell 4
      have f5:=vm1.free 4
      go_simp
      generalize hgw5:World.setCell _ _ _=w5
      refine hK.out _ _ trivial (fun hH=>?_)
      (try simp only [Act.put,List.setIfInBounds_toArray,List.set_cons_zero,List.set_cons_succ])
      clear hK m5 f5
      have vm5:=show Vx w5.drew M 28 _ from (show Vx w5 M 28 _ from hgw5 ▸ (show Vx w1 M 28 _ from vm1).set_ 4 (.slice (some ⟨b1,0,none⟩) 150 150))
      have vq5:Vx w5.drew bq 38 (qcs (List.replicate q zQRr)):=by
       have h0:Vx w5 bq 38 (qcs (List.replicate q zQRr)):=by rw [←hgw5];exact (show Vx w1 bq 38 _ from vq1).setO hne1 4 (.slice (some ⟨b1,0,none⟩) 150 150)
       exact h0
      have hb5:Below W1.heap.size W1 w5.drew:=by
       have h0:Below W1.heap.size W1 w1:=⟨hb1.os,hb1.tape,hb1.output,hb1.size,hb1.block⟩
       have h1:Below W1.heap.size W1 w5:=by rw [←hgw5];exact h0.setCell (show W1.heap.size≤M from hMge) (.slice (some ⟨b1,0,none⟩) 150 150)
       exact ⟨h1.os,h1.tape,h1.output,h1.size,h1.block⟩
      have vb15:Vx w5.drew b1 41 (rcs (List.replicate 150 zRRr)):=by
       have h0:Vx w5 b1 41 (rcs (List.replicate 150 zRRr)):=by rw [←hgw5];exact (show Vx w1 b1 41 _ from vn1).setO hneb1 4 (.slice (some ⟨b1,0,none⟩) 150 150)
       exact h0
      clear hgw5
      refine wpAnyH_ready (rs:=[1]) (by kernel_rfl) (by simp) ?_
      refine reg_cons _ rfl (fun K' hK=>?_) AllReadyH.nil
      go_simp
      generalize hgw6:World.alloc _ _=w6
      have ha6':Below w5.heap.size w5 w6:=by rw [←hgw6];exact below_new _ _
      have ha6:Below w5.drew.heap.size w5.drew w6.drew:=⟨ha6'.os,ha6'.tape,ha6'.output,ha6'.size,ha6'.block⟩
      have vn6:Vx w6.drew w5.heap.size 41 (rcs (List.replicate 50 zRRr)):=by
       have h0:Vx w6 w5.heap.size 41 (rcs (List.replicate 50 zRRr)):=by rw [←hgw6];exact Vx.new w5 _ _
       exact h0
      clear hgw6
      refine hK.out _ _ trivial (fun hH=>?_)
      (try simp only [Act.put,List.setIfInBounds_toArray,List.set_cons_zero,List.set_cons_succ])
      clear hK
      obtain ⟨b2,heb2⟩:∃ b,b=w5.heap.size:=⟨_,rfl⟩
      rw [←heb2] at vn6 ⊢
      have hlt6:b2<w6.heap.size:=vn6.lt
      have hneb2:b2≠M:=by have:=vm5.lt;have e:w5.drew.heap.size=w5.heap.size:=rfl;omega
      have vq6:=vq5.below ha6 vq5.lt
      have vm6:=vm5.below ha6 vm5.lt
      have vb16:=vb15.below ha6 vb15.lt
      have hb6:=hb5.trans (ha6.mono hb5.size)
      clear heb2
      refine reg_take 6 (v:=?_) rfl (by kernel_rfl) (fun _ _ _ h=>h) (by rfl) trivial ?_ ?_
      rotate_left
      ·intro w hSw;(try dsimp only at hSw);go_simp;(try with_reducible rfl)
      (try simp only [Act.put,List.setIfInBounds_toArray,List.set_cons_zero,List.set_cons_succ])
      refine wpAnyH_ready (rs:=[7]) (by kernel_rfl) (by simp) ?_
      refine reg_cons _ rfl (fun K' hK=>?_) AllReadyH.nil
      have m7:=vm6.cell 5
      have f7:=vm6.free 5
      go_simp
      generalize hgw7:World.setCell _ _ _=w7
      refine hK.out _ _ trivial (fun hH=>?_)
      (try simp only [Act.put,List.setIfInBounds_toArray,List.set_cons_zero,List.set_cons_succ])
      clear hK m7 f7
      have vm7:=show Vx w7.drew M 28 _ from (show Vx w7 M 28 _ from hgw7 ▸ (show Vx w6 M 28 _ from vm6).set_ 5 (.slice (some ⟨b2,0,none⟩) 50 50))
      have vq7:Vx w7.drew bq 38 (qcs (List.replicate q zQRr)):=by
       have h0:Vx w7 bq 38 (qcs (List.replicate q zQRr)):=by rw [←hgw7];exact (show Vx w6 bq 38 _ from vq6).setO hne1 5 (.slice (some ⟨b2,0,none⟩) 50 50)
       exact h0
      have hb7:Below W1.heap.size W1 w7.drew:=by
       have h0:Below W1.heap.size W1 w6:=⟨hb6.os,hb6.tape,hb6.output,hb6.size,hb6.block⟩
       have h1:Below W1.heap.size W1 w7:=by rw [←hgw7];exact h0.setCell (show W1.heap.size≤M from hMge) (.slice (some ⟨b2,0,none⟩) 50 50)
       exact ⟨h1.os,h1.tape,h1.output,h1.size,h1.block⟩
      have vb17:Vx w7.drew b1 41 (rcs (List.replicate 150 zRRr)):=by
       have h0:Vx w7 b1 41 (rcs (List.replicate 150 zRRr)):=by rw [←hgw7];exact (show Vx w6 b1 41 _ from vb16).setO hneb1 5 (.slice (some ⟨b2,0,none⟩) 50 50)
       exact h0
      have vb27:Vx w7.drew b2 41 (rcs (List.replicate 50 zRRr)):=by
       have h0:Vx w7 b2 41 (rcs (List.replicate 50 zRRr)):=by rw [←hgw7];exact (show Vx w6 b2 41 _ from vn6).setO hneb2 5 (.slice (some ⟨b2,0,none⟩) 50 50)
       exact h0
      clear hgw7
      refine wpAnyH_done (by kernel_rfl) ?_ _
      go_wp2_with fail
      try simp only [Act.put]
      go_meet
      exact ⟨b1,b2,rfl,Lib.hid vq7,Lib.hid vm7,Lib.hid vb17,Lib.hid vb27,Lib.hid hb7⟩
    ·go_simp
     generalize hgw8:World.alloc _ _=w8
     have ha8':Below W2.heap.size W2 w8:=by rw [←hgw8];exact below_new _ _
     have ha8:Below W2.drew.heap.size W2.drew w8.drew:=⟨ha8'.os,ha8'.tape,ha8'.output,ha8'.size,ha8'.block⟩
     have vn8:Vx w8.drew W2.heap.size 41 (rcs (List.replicate 50 zRRr)):=by
      have h0:Vx w8 W2.heap.size 41 (rcs (List.replicate 50 zRRr)):=by rw [←hgw8];exact Vx.new W2 _ _
      exact h0
     clear hgw8
     refine hK.out _ _ trivial (fun hH=>?_)
     (try simp only [Act.put,List.setIfInBounds_toArray,List.set_cons_zero,List.set_cons_succ])
     clear hK
     obtain ⟨b2,heb2⟩:∃ b,b=W2.heap.size:=⟨_,rfl⟩
     rw [←heb2] at vn8 ⊢
     have hlt8:b2<w8.heap.size:=vn8.lt
     have hneb2:b2≠M:=by have:=VM.out.drew.lt;have e:W2.drew.heap.size=W2.heap.size:=rfl;omega
     have vq8:=VQ.out.drew.below ha8 VQ.out.drew.lt
     have vm8:=VM.out.drew.below ha8 VM.out.drew.lt
     have hb8:=hbd.trans (ha8.mono hbd.size)
     clear heb2
     refine wpAnyH_ready (rs:=[0]) (by kernel_rfl) (by simp) ?_
     refine reg_cons _ rfl (fun K' hK=>?_) AllReadyH.nil
     go_simp
     generalize hgw9:World.alloc _ _=w9
     have ha9':Below w8.heap.size w8 w9:=by rw [←hgw9];exact below_new _ _
     have ha9:Below w8.drew.heap.size w8.drew w9.drew:=⟨ha9'.os,ha9'.tape,ha9'.output,ha9'.size,ha9'.block⟩
     have vn9:Vx w9.drew w8.heap.size 41 (rcs (List.replicate 150 zRRr)):=by
      have h0:Vx w9 w8.heap.size 41 (rcs (List.replicate 150 zRRr)):=by rw [←hgw9];exact Vx.new w8 _ _
      exact h0
     clear hgw9
     refine hK.out _ _ trivial (fun hH=>?_)
     (try simp only [Act.put,List.setIfInBounds_toArray,List.set_cons_zero,List.set_cons_succ])
     clear hK
     obtain ⟨b1,heb1⟩:∃ b,b=w8.heap.size:=⟨_,rfl⟩
     rw [←heb1] at vn9 ⊢
     have hlt9:b1<w9.heap.size:=vn9.lt
     have hneb1:b1≠M:=by have:=vm8.lt;have e:w8.drew.heap.size=w8.heap.size:=rfl;omega
     have vq9:=vq8.below ha9 vq8.lt
     have vm9:=vm8.below ha9 vm8.lt
     have vb29:=vn8.below ha9 vn8.lt
     have hb9:=hb8.trans (ha9.mono hb8.size)
     clear heb1
     refine reg_take 3 (v:=?_) rfl (by kernel_rfl) (fun _ _ _ h=>h) (by rfl) trivial ?_ ?_
     rotate_left
     ·intro w hSw;(try dsimp only at hSw);go_simp;(try with_reducible rfl)
     (try simp only [Act.put,List.setIfInBounds_toArray,List.set_cons_zero,List.set_cons_succ])
     refine wpAnyH_ready (rs:=[4]) (by kernel_rfl) (by simp) ?_
     refine reg_cons _ rfl (fun K' hK=>?_) AllReadyH.nil
     have m10:=vm9.cell 4
     have f10:=vm9.free 4
     go_simp
     generalize hgw10:World.setCell _ _ _=w10
     refine hK.out _ _ trivial (fun hH=>?_)
     (try simp only [Act.put,List.setIfInBounds_toArray,List.set_cons_zero,List.set_cons_succ])
     clear hK m10 f10
     have vm10:=show Vx w10.drew M 28 _ from (show Vx w10 M 28 _ from hgw10 ▸ (show Vx w9 M 28 _ from vm9).set_ 4 (.slice (some ⟨b1,0,none⟩) 150 150))
     have vq10:Vx w10.drew bq 38 (qcs (List.replicate q zQRr)):=by
      have h0:Vx w10 bq 38 (qcs (List.replicate q zQRr)):=by rw [←hgw10];exact (show Vx w9 bq 38 _ from vq9).setO hne1 4 (.slice (some ⟨b1,0,none⟩) 150 150)
      exact h0
     have hb10:Below W1.heap.size W1 w10.drew:=by
      have h0:Below W1.heap.size W1 w9:=⟨hb9.os,hb9.tape,hb9.output,hb9.size,hb9.block⟩
      have h1:Below W1.heap.size W1 w10:=by rw [←hgw10];exact h0.setCell (show W1.heap.size≤M from hMge) (.slice (some ⟨b1,0,none⟩) 150 150)
      exact ⟨h1.os,h1.tape,h1.output,h1.size,h1.block⟩
     have vb110:Vx w10.drew b1 41 (rcs (List.replicate 150 zRRr)):=by
      have h0:Vx w10 b1 41 (rcs (List.replicate 150 zRRr)):=by rw [←hgw10];exact (show Vx w9 b1 41 _ from vn9).setO hneb1 4 (.slice (some ⟨b1,0,none⟩) 150 150)
      exact h0
     have vb210:Vx w10.drew b2 41 (rcs (List.replicate 50 zRRr)):=by
      have h0:Vx w10 b2 41 (rcs (List.replicate 50 zRRr)):=by rw [←hgw10];exact (show Vx w9 b2 41 _ from vb29).setO hneb2 4 (.slice (some ⟨b1,0,none⟩) 150 150)
      exact h0
     clear hgw10
     refine reg_take 6 (v:=?_) rfl (by kernel_rfl) (fun _ _ _ h=>h) (by rfl) trivial ?_ ?_
     rotate_left
     ·intro w hSw;(try dsimp only at hSw);go_simp;(try with_reducible rfl)
     (try simp only [Act.put,List.setIfInBounds_toArray,List.set_cons_zero,List.set_cons_succ])
     refine wpAnyH_ready (rs:=[7]) (by kernel_rfl) (by simp) ?_
     refine reg_cons _ rfl (fun K' hK=>?_) AllReadyH.nil
     have m11:=vm10.cell 5
     have f11:=vm10.free 5
     go_simp
     generalize hgw11:World.setCell _ _ _=w11
     refine hK.out _ _ trivial (fun hH=>?_)
     (try simp only [Act.put,List.setIfInBounds_toArray,List.set_cons_zero,List.set_cons_succ])
     clear hK m11 f11
     have vm11:=show Vx w11.drew M 28 _ from (show Vx w11 M 28 _ from hgw11 ▸ (show Vx w10 M 28 _ from vm10).set_ 5 (.slice (some ⟨b2,0,none⟩) 50 50))
     have vq11:Vx w11.drew bq 38 (qcs (List.replicate q zQRr)):=by
      have h0:Vx w11 bq 38 (qcs (List.replicate q zQRr)):=by rw [←hgw11];exact (show Vx w10 bq 38 _ from vq10).setO hne1 5 (.slice (some ⟨b2,0,none⟩) 50 50)
      exact h0
     have hb11:Below W1.heap.size W1 w11.drew:=by
      have h0:Below W1.heap.size W1 w10:=⟨hb10.os,hb10.tape,hb10.output,hb10.size,hb10.block⟩
      have h1:Below W1.heap.size W1 w11:=by rw [←hgw11];exact h0.setCell (show W1.heap.size≤M from hMge) (.slice (some ⟨b2,0,none⟩) 50 50)
      exact ⟨h1.os,h1.tape,h1.output,h1.size,h1.block⟩
     have vb111:Vx w11.drew b1 41 (rcs (List.replicate 150 zRRr)):=by
      have h0:Vx w11 b1 41 (rcs (List.replicate 150 zRRr)):=by rw [←hgw11];exact (show Vx w10 b1 41 _ from vb110).setO hneb1 5 (.slice (some ⟨b2,0,none⟩) 50 50)
      exact h0
     have vb211:Vx w11.drew b2 41 (rcs (List.replicate 50 zRRr)):=by
      have h0:Vx w11 b2 41 (rcs (List.replicate 50 zRRr)):=by rw [←hgw11];exact (show Vx w10 b2 41 _ from vb210).setO hneb2 5 (.slice (some ⟨b2,0,none⟩) 50 50)
      exact h0
     clear hgw11
     refine wpAnyH_done (by kernel_rfl) ?_ _
     go_wp2_with fail
     try simp only [Act.put]
     go_meet
     exact ⟨b1,b2,rfl,Lib.hid vq11,Lib.hid vm11,Lib.hid vb111,Lib.hid vb211,Lib.hid hb11⟩
   case rest=>
    obtain ⟨b1,b2,rfl,HQv,HMv,H1v,H2v,HBc⟩:=hcut
    have hX:∃ X:MR,MRd wc wc.heap.size X∧Cpy X∧Vx wc M 28 X.cells:=⟨⟨0,0,some ⟨bq,0,none⟩,q,List.replicate q zQRr,none,0,[],some ⟨b1,0,none⟩,150,List.replicate 150 zRRr,some ⟨b2,0,none⟩,50,List.replicate 50 zRRr⟩,lim_rd HQv.out H1v.out H2v.out (by omega),lim_cpy _ _ _ _,by rw [lim_cells];exact HMv.out⟩
    obtain ⟨X,hXr,hXc,hXv⟩:=hX
    obtain ⟨B1,hB1⟩:∃ b,b=(writeM X.m).1:=⟨_,rfl⟩
    obtain ⟨E1,hE1⟩:∃ e,e=(writeM X.m).2:=⟨_,rfl⟩
    obtain ⟨L1,hL1⟩:∃ L,L=B1.length:=⟨_,rfl⟩
    have HB1:=Lib.hid hB1
    have HE1:=Lib.hid hE1
    have HL1:=Lib.hid hL1.symm
    have HXr:=Lib.hid hXr
    have HXv:=Lib.hid hXv
    have hL1b:L1≤1000000:=by
     rw [hL1,hB1]
     unfold writeM
     split
     ·simp
     ·split
      ·simp
      ·split
       ·simp
       ·simp only;omega
    have K2:=Lib.hid (write_at X wc hXr)
    rw [←HB1.out,←HE1.out] at K2
    have kq3:IntKind.u8.wrap (q:Int)=(q:Int):=by rw [IntKind.wrap_u8];omega
    have hBB:∃ B:List UInt8,B.length=12∧bc B=[.int .u8 0,.int .u8 0,.int .u8 0,.int .u8 0,.int .u8 0,.int .u8 (q:Int),.int .u8 0,.int .u8 0,.int .u8 0,.int .u8 150,.int .u8 0,.int .u8 50]:=⟨[0,0,0,0,0,UInt8.ofNat q,0,0,0,150,0,50],rfl,by
     have:q % 256=q:=by omega
     simp [bc,this]⟩
    obtain ⟨BB,hBl,hBc⟩:=hBB
    have K8:=Lib.hid (fun (W:World)=>(show Calls Try.prog 8 #[.slice (some ⟨W.heap.size,0,none⟩) 12 12] (W.alloc (.cells #[.int .u8 0,.int .u8 0,.int .u8 0,.int .u8 0,.int .u8 0,.int .u8 (q:Int),.int .u8 0,.int .u8 0,.int .u8 0,.int .u8 150,.int .u8 0,.int .u8 50] 5)) fun e w'=>e = .returned (.bool true)∧Below (W.alloc (.cells #[.int .u8 0,.int .u8 0,.int .u8 0,.int .u8 0,.int .u8 0,.int .u8 (q:Int),.int .u8 0,.int .u8 0,.int .u8 0,.int .u8 150,.int .u8 0,.int .u8 50] 5)).heap.size (W.alloc (.cells #[.int .u8 0,.int .u8 0,.int .u8 0,.int .u8 0,.int .u8 0,.int .u8 (q:Int),.int .u8 0,.int .u8 0,.int .u8 0,.int .u8 150,.int .u8 0,.int .u8 50] 5)) w' by
     have h0:Rd (W.alloc (.cells #[.int .u8 0,.int .u8 0,.int .u8 0,.int .u8 0,.int .u8 0,.int .u8 (q:Int),.int .u8 0,.int .u8 0,.int .u8 0,.int .u8 150,.int .u8 0,.int .u8 50] 5)) (W.alloc (.cells #[.int .u8 0,.int .u8 0,.int .u8 0,.int .u8 0,.int .u8 0,.int .u8 (q:Int),.int .u8 0,.int .u8 0,.int .u8 0,.int .u8 150,.int .u8 0,.int .u8 50] 5)).heap.size (some ⟨W.heap.size,0,none⟩) BB.length (bc BB):=by
      rw [hBl,hBc]
      exact Rd.lit_top0 W 5 [.int .u8 0,.int .u8 0,.int .u8 0,.int .u8 0,.int .u8 0,.int .u8 (q:Int),.int .u8 0,.int .u8 0,.int .u8 0,.int .u8 150,.int .u8 0,.int .u8 50] 12 rfl
     have:=reads_at (some ⟨W.heap.size,0,none⟩) 12 BB (W.alloc (.cells #[.int .u8 0,.int .u8 0,.int .u8 0,.int .u8 0,.int .u8 0,.int .u8 (q:Int),.int .u8 0,.int .u8 0,.int .u8 0,.int .u8 150,.int .u8 0,.int .u8 50] 5)) h0 (by omega) (by omega)
     rwa [hBl] at this))
    clear hB1 hE1 hL1 hXr hXv hBl hBc HQv HMv H1v H2v HV0
    go_wp2_with (first
     | (refine wpList_load_row rfl 28 _ rfl M rfl _ _ _ _ v33 Try.underlying28 rfl (by kernel_rfl) ?_)
     | (refine wpList_load_row rfl 28 _ rfl M rfl _ _ _ _ HXv.out Try.underlying28 rfl (by kernel_rfl) ?_)
     | (go_at_call 8
        have _t:=tok8
        have K9:=reads_at A11 c11 B1 w6 (by rw [HL1.out];exact hr11.goes h36) (by rw [HL1.out];exact hc11) (by have:=HL1.out;omega)
        rw [HL1.out] at K9
        refine K9.mono ?_
        rintro e w7 ⟨rfl,hb7⟩
        have hfin:=hbc6.trans (hb7.mono hbc6.size))
     | (go_at_call 8
        have tok8:=True.intro
        refine (K8.out w5).mono ?_
        rintro e w6 ⟨rfl,hb6⟩
        have h56:Below w5.heap.size w5 w6:=(below_new w5 _).trans (hb6.mono (below_new w5 _).size)
        have h36:=hb34.trans (((hb5.trans (h56.mono hb5.size))).mono hb34.size)
        have hbc6:=hbc5.trans (h56.mono hbc5.size))
     | (go_at_call 22
        refine (beq_same A11 A13 c11 c13 L1 B1 w5 HL1.out ((hr11.goes hb34).goes hb5) hr13).mono ?_
        rintro e w5 ⟨rfl,rfl⟩)
     | (go_at_call 23
        refine (fwrite_at Z w4 hZr).mono ?_
        rw [hZm,←HB1.out,←HE1.out]
        rintro e w5 ⟨v13,rfl,ho13,hb5⟩
        obtain ⟨A13,c13,rfl,hc13,hr13⟩:=Ow.form7 ho13 L1 (by rw [bc_length,HL1.out])
        have hbc5:=hbc4.trans (hb5.mono hbc4.size))
     | (go_at_call 20
        refine (turned_at X w3 ((HXr.out.below hb3).more hb3.size) hXc).mono ?_
        rintro e w4 ⟨Z,hZm,rfl,hZo,hb34⟩
        have hZr:=MOwF.rdL hZo HXr.out hZm
        have hbc4:=HBc.out.trans ((hb3.trans (hb34.mono hb3.size)).mono HBc.out.size))
     | (go_at_call 15
        refine K2.out.mono ?_
        rintro e w3 ⟨v11,rfl,ho11,hb3⟩
        obtain ⟨A11,c11,rfl,hc11,hr11⟩:=Ow.form7 ho11 L1 (by rw [bc_length,HL1.out])
        have v33:=HXv.out.below hb3 HXv.out.lt))
    ·go_roundw
     case rel=>exact ⟨i+1,by omega,by go_num,Lib.hid hfin⟩
     case measure=>simp [intOf];omega
    ·go_roundw
     case rel=>exact ⟨i+1,by omega,by go_num,Lib.hid hbc6⟩
     case measure=>simp [intOf];omega
  ·have hi3q:(i:Int)=3:=by omega
   rw [hi3q]
   clear hi3q hge hi3
   go_wp2_with fail
   have hv0:=Vx.new wr 3 [.int .i64 4072,.int .i64 4073,.int .i64 4074,.int .i64 4096,.int .i64 4097]
   have hb0:=HB.out.trans ((below_new wr (.cells #[.int .i64 4072,.int .i64 4073,.int .i64 4074,.int .i64 4096,.int .i64 4097] 3)).mono HB.out.size)
   have hT2:=hv0.lt
   obtain ⟨T2,hT2e⟩:∃ T,T=wr.heap.size:=⟨_,rfl⟩
   rw [←hT2e] at hv0 hT2 ⊢
   generalize wr.alloc (.cells #[.int .i64 4072,.int .i64 4073,.int .i64 4074,.int .i64 4096,.int .i64 4097] 3)=W3 at *
   have HV2:=Lib.hid hv0
   have HB2:=Lib.hid hb0
   clear hv0 hb0 hT2e HB HV0
   go_loopw [69] (fun vi wz=>∃ j:Nat,j≤5∧vi = .int .i64 j∧Hid (Below W3.heap.size W3 wz)) (fun vi _=>5 - (intOf vi).toNat)
   case atStart=>exact ⟨0,by omega,rfl,Lib.hid (Below.refl _ _)⟩
   case round=>
    obtain ⟨j,hj5,rfl,HBz⟩:=hrel
    rcases Nat.lt_or_ge j 5 with hlt | hge
    ·have hn:∃ n,4072≤n∧n≤4097∧wr.cell? ⟨T2,j,none⟩=some (.int .i64 ((n:Nat):Int)):=by
      rw [(HV2.out.below HBz.out hT2).cell j]
      rcases (show j=0∨j=1∨j=2∨j=3∨j=4 by omega) with rfl | rfl | rfl | rfl | rfl
      ·exact ⟨4072,by omega,by omega,rfl⟩
      ·exact ⟨4073,by omega,by omega,rfl⟩
      ·exact ⟨4074,by omega,by omega,rfl⟩
      ·exact ⟨4096,by omega,by omega,rfl⟩
      ·exact ⟨4097,by omega,by omega,rfl⟩
     obtain ⟨n,hn1,hn2,hc⟩:=hn
     have kmb:=make_bytes n (by omega)
     have hj5i:(j:Int)<5:=by omega
     have hsz:=HBz.out.size
     go_upto_region 18 with fail
     obtain ⟨vM,vD,vR⟩:=vx_three (w:=wr) (e1:=28) (e2:=5) (e3:=41) [.int .u16 0,.int .u16 0,.slice none 0 0,.slice (some ⟨wr.heap.size+1+1,0,none⟩) 1 1,.slice none 0 0,.slice none 0 0] (bc (List.replicate n 0)) [.slice none 0 0,.int .u16 1,.int .u16 0,.int .u32 0,.slice (some ⟨wr.heap.size+1,0,none⟩) n n,.int .u16 0,.int .u16 0,.int .u16 0,.slice none 0 0]
     have hb3:=((below_two wr (.cells #[.int .u16 0,.int .u16 0,.slice none 0 0,.slice (some ⟨wr.heap.size+1+1,0,none⟩) 1 1,.slice none 0 0,.slice none 0 0] 28) (.cells (bc (List.replicate n 0)).toArray 5)).trans ((below_new ((wr.alloc (.cells #[.int .u16 0,.int .u16 0,.slice none 0 0,.slice (some ⟨wr.heap.size+1+1,0,none⟩) 1 1,.slice none 0 0,.slice none 0 0] 28)).alloc (.cells (bc (List.replicate n 0)).toArray 5)) (.cells #[.slice none 0 0,.int .u16 1,.int .u16 0,.int .u32 0,.slice (some ⟨wr.heap.size+1,0,none⟩) n n,.int .u16 0,.int .u16 0,.int .u16 0,.slice none 0 0] 41)).mono (below_two wr _ _).size))
     have hbw:=HBz.out.trans (hb3.mono hsz)
     have hX:=lim2 vM vD vR (by omega)
     clear vM vD vR hb3
     generalize World.alloc (World.alloc (World.alloc wr _) _) _=wc at hX hbw ⊢
     obtain ⟨M,hM⟩:∃ b,b=wr.heap.size:=⟨_,rfl⟩
     rw [←hM] at hX
     try rw [←hM]
     have HBc:=Lib.hid hbw
     clear hbw hM
     obtain ⟨X,hXr,hXc,hXv⟩:=hX
     obtain ⟨B1,hB1⟩:∃ b,b=(writeM X.m).1:=⟨_,rfl⟩
     obtain ⟨E1,hE1⟩:∃ e,e=(writeM X.m).2:=⟨_,rfl⟩
     obtain ⟨L1,hL1⟩:∃ L,L=B1.length:=⟨_,rfl⟩
     have HB1:=Lib.hid hB1
     have HE1:=Lib.hid hE1
     have HL1:=Lib.hid hL1.symm
     have HXr:=Lib.hid hXr
     have HXv:=Lib.hid hXv
     have hL1b:L1≤1000000:=by
      rw [hL1,hB1]
      unfold writeM
      split
      ·simp
      ·split
       ·simp
       ·split
        ·simp
        ·simp only;omega
     have K2:=Lib.hid (write_at X wc hXr)
     rw [←HB1.out,←HE1.out] at K2
     have K8:=Lib.hid (fun (W:World)=>(show Calls Try.prog 8 #[.slice (some ⟨W.heap.size,0,none⟩) n n] (W.alloc (.cells (bc (List.replicate n 0)).toArray 5)) fun e w'=>e = .returned (.bool true)∧Below (W.alloc (.cells (bc (List.replicate n 0)).toArray 5)).heap.size (W.alloc (.cells (bc (List.replicate n 0)).toArray 5)) w' by
      have hl:(List.replicate n (0:UInt8)).length=n:=List.length_replicate
      have h0:Rd (W.alloc (.cells (bc (List.replicate n 0)).toArray 5)) (W.alloc (.cells (bc (List.replicate n 0)).toArray 5)).heap.size (some ⟨W.heap.size,0,none⟩) (List.replicate n (0:UInt8)).length (bc (List.replicate n 0)):=by
       rw [hl]
       exact Rd.lit_top0 W 5 (bc (List.replicate n 0)) n (by rw [bc_length,hl])
      have:=reads_at (some ⟨W.heap.size,0,none⟩) n (List.replicate n 0) (W.alloc (.cells (bc (List.replicate n 0)).toArray 5)) h0 (by rw [hl];exact Nat.le_refl _) (by rw [hl];omega)
      rwa [hl] at this))
     clear hB1 hE1 hL1 hXr hXv
     go_wp2_with (first
      | (refine wpList_load_row rfl 28 _ rfl M rfl _ _ _ _ v33 Try.underlying28 rfl (by kernel_rfl) ?_)
      | (refine wpList_load_row rfl 28 _ rfl M rfl _ _ _ _ HXv.out Try.underlying28 rfl (by kernel_rfl) ?_)
      | (go_at_call 8
         have _t:=tok8
         refine (K8.out w6).mono ?_
         rintro e w7 ⟨rfl,hb7⟩
         have hfin:=hbc6.trans (((below_new w6 _).trans (hb7.mono (below_new w6 _).size)).mono hbc6.size))
      | (go_at_call 8
         have tok8:=True.intro
         have K9:=reads_at A11 c11 B1 w5 (by rw [HL1.out];exact (hr11.goes hb34).goes hb5) (by rw [HL1.out];exact hc11) (by have:=HL1.out;omega)
         rw [HL1.out] at K9
         refine K9.mono ?_
         rintro e w6 ⟨rfl,hb6⟩
         have hbc6:=hbc5.trans (hb6.mono hbc5.size))
      | (go_at_call 22
         refine (beq_same A11 A13 c11 c13 L1 B1 w5 HL1.out ((hr11.goes hb34).goes hb5) hr13).mono ?_
         rintro e w5 ⟨rfl,rfl⟩)
      | (go_at_call 23
         refine (fwrite_at Z w4 hZr).mono ?_
         rw [hZm,←HB1.out,←HE1.out]
         rintro e w5 ⟨v13,rfl,ho13,hb5⟩
         obtain ⟨A13,c13,rfl,hc13,hr13⟩:=Ow.form7 ho13 L1 (by rw [bc_length,HL1.out])
         have hbc5:=hbc4.trans (hb5.mono hbc4.size))
      | (go_at_call 20
         refine (turned_at X w3 ((HXr.out.below hb3').more hb3'.size) hXc).mono ?_
         rintro e w4 ⟨Z,hZm,rfl,hZo,hb34⟩
         have hZr:=MOwF.rdL hZo HXr.out hZm
         have hbc4:=HBc.out.trans ((hb3'.trans (hb34.mono hb3'.size)).mono HBc.out.size))
      | (go_at_call 15
         refine K2.out.mono ?_
         rintro e w3 ⟨v11,rfl,ho11,hb3'⟩
         obtain ⟨A11,c11,rfl,hc11,hr11⟩:=Ow.form7 ho11 L1 (by rw [bc_length,HL1.out])
         have v33:=HXv.out.below hb3' HXv.out.lt))
     go_roundw
     case rel=>exact ⟨j+1,by omega,by go_num,Lib.hid hfin⟩
     case measure=>simp [intOf];omega
    ·have hge5:(5:Int)≤(j:Int):=by omega
     go_wp2_with fail
     go_ret
     exact ⟨rfl,HB0.out.trans ((HB2.out.trans (HBz.out.mono HB2.out.size)).mono HB0.out.size)⟩
end Go.Proofs.Ytlipmlbijddopaa
