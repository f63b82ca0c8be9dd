/-
  SrvT; SrvM; SrvC; SrvW; SrvS
-/
import Derived.Test.YtlipmlbijddopaaGreatDoorZ23
import Derived.Test.YtlipmlbijddopaaGreatDoorZ24
import Derived.Test.YtlipmlbijddopaaGreatDoorZ10
import Derived.Test.YtlipmlbijddopaaGreatDoorZ16
import Derived.StillTailTactics
import Derived.Sort.Grow
import Derived.Shelf.SlSortCmp.NoneTotal
import Derived.Test.YtlipmlbijddopaaGreatDoorZ01
import Derived.Shelf.SlicesQ.IndexFunc
import Derived.Sort.OwnSorted
import Derived.Shelf.SlSortCmp.QuietGrown
set_option linter.unusedVariables false
set_option linter.unusedSimpArgs false
namespace Go.Proofs.YtlipmlbijddopaaGreatDoor
open Go.RowKit
namespace Srv
def hostB (c:UInt8):Bool:=decide (c.toNat=45∨c.toNat=95∨(48≤c.toNat∧c.toNat≤57)∨(97≤c.toNat∧c.toNat≤122))
def hostL (l:List UInt8):Bool:=l.all hostB
def hostN (n:List (List UInt8)):Bool:=n.all hostL
def adR (r:Rc):Ad:=⟨(textR r.tg).1,r.po,r.pr,r.we,r.ttl⟩
def rootR (r:Rc):Bool:=decide (r.tg.length=0)
def badR (r:Rc):Bool:=decide (r.po=0) || !hostN r.tg
def okA (l:List Rc):Bool:=l.all fun r=>rootR r || !badR r
def addA (l:List Rc):List Ad:=(l.filter fun r=>!rootR r).map adR
def q0 (m:Ms):Qn:=m.qs.getD 0 zQ
def askedM (m:Ms):Bool:=decide (m.fl / 32768 % 2=0) && (decide (m.qs.length=1) && (decide (m.r0.length+m.r1.length+m.r2.length=0) && (decide ((q0 m).ty=33) && decide ((q0 m).cl=1))))
def askedB (b:List UInt8):Bool:=decide ((readM b).2=0) && askedM (readM b).1
def ownM (q m:Ms):Ms:=⟨m.id,q.fl,m.qs,[],[],[]⟩
def takeM (q m:Ms):List Ad × Nat:=
 if m.fl / 32768 % 2=0∨sameM (ownM q m) q=false then ([],182)
 else if m.fl / 512 % 2=1 then ([],183)
 else if m.fl % 16≠0 then ([],184)
 else if okA (answersM m (q0 q).nm 33)=false then ([],185)
 else (onceA (sortA (addA (answersM m (q0 q).nm 33))),0)
def takeN (q r:List UInt8):List Ad × Nat:=
 if askedB q=false then ([],181)
 else if (readM r).2≠0 then ([],(readM r).2)
 else takeM (readM q).1 (readM r).1
def askM (id:Nat) (n:List (List UInt8)):Ms:=⟨id,256,[⟨n,33,1⟩],[],[],[]⟩
def askN (id:Nat) (s:List UInt8):List UInt8 × Nat:=
 if (rparse s).2≠0∨(rparse s).1.length=0 then ([],180) else writeM (askM id (rparse s).1)
def lastP (t:List Ad):Int:=(t.getLastD zA).pr
def onT (out:List (List Ad)) (x:Ad):List (List Ad):=
 if out.length=0∨lastP (out.getLastD [])≠x.pr then out++[[x]] else out.dropLast++[out.getLastD []++[x]]
def tiersA (l:List Ad):List (List Ad):=l.foldl onT []
theorem tiersA_snoc (l:List Ad) (x:Ad):tiersA (l++[x])=onT (tiersA l) x:=by simp [tiersA]
structure Tiers (l:List Ad) (ts:List (List Ad)):Prop where
 all:ts.flatten=l
 some_:∀ t∈ts,t≠[]
 same:∀ t∈ts,∀ a∈t,a.pr=(t.headD zA).pr
 next:∀ i,(h:i+1<ts.length)→((ts[i+1]'h).headD zA).pr≠((ts[i]'(by omega)).headD zA).pr
theorem Tiers.nil:Tiers [] []:=⟨rfl,fun _ h=>(by cases h),fun _ h=>(by cases h),fun i h=>(by simp at h)⟩
theorem lastD_mem {α:Type} {l:List α} (d:α) (h:l≠[]):l.getLastD d∈l:=by
 rw [List.getLastD_eq_getLast?,List.getLast?_eq_some_getLast h]
 exact List.getLast_mem h
theorem drop_lastD {α:Type} {l:List α} (d:α) (h:l≠[]):l.dropLast++[l.getLastD d]=l:=by
 rw [List.getLastD_eq_getLast?,List.getLast?_eq_some_getLast h]
 exact List.dropLast_concat_getLast h
theorem Tiers.on {l:List Ad} {ts:List (List Ad)} (h:Tiers l ts) (x:Ad):Tiers (l++[x]) (onT ts x):=by
 unfold onT
 by_cases hc:ts.length=0∨lastP (ts.getLastD [])≠x.pr
 ·rw [if_pos hc]
  refine ⟨by rw [List.flatten_append,h.all];simp,fun t ht=>?_,fun t ht=>?_,fun i hi=>?_⟩
  ·rcases List.mem_append.1 ht with ht | ht
   ·exact h.some_ t ht
   ·rw [List.mem_singleton] at ht;subst ht;simp
  ·rcases List.mem_append.1 ht with ht | ht
   ·exact h.same t ht
   ·rw [List.mem_singleton] at ht;subst ht;simp
  ·rw [List.length_append,List.length_singleton] at hi
   rcases Nat.lt_or_ge (i+1) ts.length with h1 | h1
   ·rw [List.getElem_append_left h1,List.getElem_append_left (by omega)]
    exact h.next i h1
   ·have hne:ts≠[]:=by intro e;subst e;simp at hi h1
    have hi':i=ts.length - 1:=by omega
    subst hi'
    have e1:(ts++[[x]])[ts.length - 1+1]'(by simp;omega)=[x]:=by
     rw [List.getElem_append_right (by omega)];simp
    have hlt:ts.length - 1<ts.length:=by have:=List.length_pos_iff.2 hne;omega
    have e2:(ts++[[x]])[ts.length - 1]'(by simp;omega)=ts.getLastD []:=by
     rw [List.getElem_append_left hlt,List.getLastD_eq_getLast?,List.getLast?_eq_some_getLast hne,List.getLast_eq_getElem];rfl
    rw [e1,e2]
    have hm:=lastD_mem [] hne
    have hl:ts.getLastD []≠[]:=h.some_ _ hm
    have h3:=h.same _ hm _ (lastD_mem zA hl)
    rcases hc with hc | hc
    ·have:=List.length_pos_iff.2 hne;omega
    ·intro e
     apply hc
     show ((ts.getLastD []).getLastD zA).pr=x.pr
     rw [h3,←e];rfl
 ·rw [if_neg hc]
  have hc0:ts.length≠0:=fun e=>hc (.inl e)
  have hc1:lastP (ts.getLastD [])=x.pr:=Classical.byContradiction fun e=>hc (.inr e)
  have hne:ts≠[]:=by intro e;subst e;simp at hc0
  have hm:=lastD_mem [] hne
  have hl:ts.getLastD []≠[]:=h.some_ _ hm
  have hd:=drop_lastD [] hne
  have hhd:∀ y,((ts.getLastD []++[x]).headD y)=(ts.getLastD []).headD y:=fun y=>by
   cases e:ts.getLastD [] with
   | nil=>exact absurd e hl
   | cons a b=>rfl
  have hsame:x.pr=((ts.getLastD []).headD zA).pr:=by
   rw [←hc1]
   exact h.same _ hm _ (lastD_mem zA hl)
  have hdl:∀ t∈ts.dropLast,t∈ts:=fun t ht=>(List.dropLast_sublist ts).mem ht
  refine ⟨?_,fun t ht=>?_,fun t ht=>?_,fun i hi=>?_⟩
  ·have:=h.all
   rw [←hd,List.flatten_append] at this
   rw [List.flatten_append,←this];simp
  ·rcases List.mem_append.1 ht with ht | ht
   ·exact h.some_ t (hdl t ht)
   ·rw [List.mem_singleton] at ht;subst ht;simp
  ·rcases List.mem_append.1 ht with ht | ht
   ·exact h.same t (hdl t ht)
   ·rw [List.mem_singleton] at ht;subst ht
    intro a ha
    rw [hhd]
    rcases List.mem_append.1 ha with ha | ha
    ·exact h.same _ hm a ha
    ·rw [List.mem_singleton] at ha;subst ha;exact hsame
  ·have hlen:(ts.dropLast++[ts.getLastD []++[x]]).length=ts.length:=by simp;have:=List.length_pos_iff.2 hne;omega
   have key:∀ j (hj:j<ts.length),((ts.dropLast++[ts.getLastD []++[x]])[j]'(by rw [hlen];exact hj)).headD zA=(ts[j]).headD zA:=by
    intro j hj
    rcases Nat.lt_or_ge j (ts.length - 1) with h1 | h1
    ·rw [List.getElem_append_left (by simp;omega),List.getElem_dropLast]
    ·have e:j=ts.length - 1:=by omega
     subst e
     rw [List.getElem_append_right (by simp)]
     simp only [List.length_dropLast,Nat.sub_self,List.getElem_cons_zero]
     rw [hhd,List.getLastD_eq_getLast?,List.getLast?_eq_some_getLast hne,List.getLast_eq_getElem];rfl
   rw [key (i+1) (by omega),key i (by omega)]
   exact h.next i (by omega)
theorem tiersA_is:∀ (n:Nat) (l:List Ad),l.length=n→Tiers l (tiersA l)
 | 0,l,hn=>by
   have:l=[]:=List.eq_nil_of_length_eq_zero hn
   subst this;exact Tiers.nil
 | n+1,l,hn=>by
   obtain ⟨k,a,rfl⟩:∃ k a,l=k++[a]:=⟨l.dropLast,l.getLast (by intro e;subst e;simp at hn),(List.dropLast_concat_getLast _).symm⟩
   rw [tiersA_snoc]
   exact (tiersA_is n k (by simpa using hn)).on a
theorem tiersA_tiers (l:List Ad):Tiers l (tiersA l):=tiersA_is _ l rfl
theorem Tiers.last {l:List Ad} {ts:List (List Ad)} (h:Tiers l ts) (hl:l≠[]):ts≠[]∧(ts.getLastD []).getLastD zA=l.getLastD zA:=by
 have hne:ts≠[]:=by intro e;subst e;exact hl h.all.symm
 refine ⟨hne,?_⟩
 have hm:=lastD_mem [] hne
 have h2:ts.getLastD []≠[]:=h.some_ _ hm
 have hd:=drop_lastD [] hne
 have:=h.all
 rw [←hd,List.flatten_append] at this
 rw [←this]
 simp only [List.flatten_cons,List.flatten_nil,List.append_nil]
 generalize ts.getLastD []=t at h2
 generalize ts.dropLast.flatten=k
 rw [List.getLastD_eq_getLast?,List.getLastD_eq_getLast?,List.getLast?_append,List.getLast?_eq_some_getLast h2]
 rfl
def wtA (a:Ad):Nat:=if a.we≤0 then 0 else if 65535<a.we then 65535 else a.we.toNat
theorem wtA_le (a:Ad):wtA a≤65535:=by
 unfold wtA
 split
 ·omega
 ·split <;> omega
def noneW (a:Ad):Bool:=decide (wtA a=0)
def lineA (t:List Ad):List Ad:=t.filter noneW++t.filter fun a=>!noneW a
def sumA (l:List Ad):Nat:=(l.map wtA).sum
theorem sumA_snoc (l:List Ad) (a:Ad):sumA (l++[a])=sumA l+wtA a:=by simp [sumA]
theorem sumA_le (l:List Ad):sumA l≤65535*l.length:=by
 induction l with
 | nil=>simp [sumA]
 | cons a l ih=>have:=wtA_le a;simp only [sumA,List.map_cons,List.sum_cons,List.length_cons] at *;omega
def firstA (left:Nat):Nat→List Ad→Option Ad
 | _,[]=>none
 | at_,a :: l=>if left≤at_+wtA a then some a else firstA left (at_+wtA a) l
def headT (l:List Ad):List Ad:=(tiersA l).headD []
def pickA (l:List Ad) (n:Nat):Ad × Bool:=
 if l.length=0 then (zA,false)
 else match firstA (n % (sumA (lineA (headT l))+1)) 0 (lineA (headT l)) with
  | some a=>(a,true)
  | none=>(zA,false)
theorem lineA_perm (t:List Ad):(lineA t).Perm t:=by
 unfold lineA
 have:=List.filter_append_perm noneW t
 simpa using this
theorem headT_ne {l:List Ad} (h:l.length≠0):headT l≠[]:=by
 have ht:=tiersA_tiers l
 unfold headT
 cases e:tiersA l with
 | nil=>rw [e] at ht;have:=ht.all;subst this;simp at h
 | cons t ts=>exact ht.some_ t (by rw [e];exact List.mem_cons_self ..)
def textA (a:Ad):List UInt8:=a.h++(58 :: Lib.itoa a.po)
def ttlA:List Ad→Nat
 | []=>0
 | a :: l=>l.foldl (fun m b=>if b.ttl<m then b.ttl else m) a.ttl
end Srv
end Go.Proofs.YtlipmlbijddopaaGreatDoor
set_option linter.unusedVariables false
set_option linter.unusedSimpArgs false
namespace Go.Proofs.YtlipmlbijddopaaGreatDoor
open Go.RowKit
theorem bl_new (w:World) (o:Obj):Below w.heap.size w (w.alloc o):=(Below.refl _ w).alloc (Nat.le_refl _) o
def Ad.cells (x:Ad):List Value:=[strV x.h,.int .i64 x.po,.int .i64 x.pr,.int .i64 x.we,.int .u32 (x.ttl:Int)]
def acs (l:List Ad):List Value:=l.flatMap Ad.cells
@[simp] theorem Ad.cells_length (x:Ad):x.cells.length=5:=rfl
theorem acs_length (l:List Ad):(acs l).length=l.length*5:=by
 induction l with
 | nil=>rfl
 | cons a l ih=>rw [acs,List.flatMap_cons,List.length_append,Ad.cells_length,List.length_cons,←acs,ih];omega
theorem acs_snoc (l:List Ad) (x:Ad):acs (l++[x])=acs l++x.cells:=by simp [acs]
theorem acs_app (l k:List Ad):acs (l++k)=acs l++acs k:=by simp [acs]
theorem acs_get (l:List Ad) (k j:Nat) (hk:k<l.length) (hj:j<5):(acs l)[k*5+j]? = l[k].cells[j]?:=flat_get Ad.cells 5 Ad.cells_length l k j hk hj
theorem acells_one (x:Ad):∀ u∈x.cells,u.oneCell'=true:=by
 intro u hu
 simp [Ad.cells,strV] at hu
 rcases hu with rfl | rfl | rfl | rfl | rfl <;> rfl
theorem acs_one (l:List Ad):∀ u∈acs l,u.oneCell'=true:=by
 intro u hu
 obtain ⟨x,_,h⟩:=List.mem_flatMap.1 hu
 exact acells_one x u h
structure AdOk (x:Ad):Prop where
 h:x.h.length≤140737488351232
 po1 : -9223372036854775808≤x.po
 po2:x.po≤9223372036854775807
 pr1 : -9223372036854775808≤x.pr
 pr2:x.pr≤9223372036854775807
 we1 : -9223372036854775808≤x.we
 we2:x.we≤9223372036854775807
 ttl:x.ttl<4294967296
def AsRd (w:World) (B:Nat) (A:Option Addr) (c n:Nat) (l:List Ad):Prop:=Rd w B A (n*5) (acs l)∧l.length=n∧n≤c∧n≤2932031007317∧∀ x∈l,AdOk x
theorem srcA {P:Program} {w:World} {tx e':TypeId} (hk:P.underlying tx=some (.slice e')) (e:TypeId) (s:Nat) (cs:List Value) (n:Nat) (hn:cs.length=n*s) (h1:∀ u∈cs,u.oneCell'=true) (h0:0<cs.length) :
 Src P s tx (.slice (some ⟨w.heap.size,0,none⟩) n n) n cs (w.alloc (.cells cs.toArray e)):=by
 have hr:Rd (w.alloc (.cells cs.toArray e)) (w.heap.size+1) (some ⟨w.heap.size,0,none⟩) (n*s) cs:=by
  refine ⟨hn,fun _=>⟨w.heap.size,0,rfl,by omega,fun j u hu=>?_⟩⟩
  rw [Nat.zero_add,World.cell?_alloc_mark w cs.toArray e (0,0) j]
  simpa using hu
 exact hr.srcM hk h1
theorem Tryz.infoA:(Tryz.prog.info? 31).map (fun i=>(i.zero,i.size,i.bytes))=some (some (.agg zA.cells.toArray),5,48):=by kernel_rfl
section
variable {w w':World} {B B':Nat} {A:Option Addr} {c n:Nat} {l:List Ad}
theorem AsRd.below (h:AsRd w B A c n l) (hb:Below B w w'):AsRd w' B A c n l:=⟨h.1.below hb,h.2⟩
theorem AsRd.more (h:AsRd w B A c n l) (hb:B≤B'):AsRd w B' A c n l:=⟨h.1.more hb,h.2⟩
theorem AsRd.goes (h:AsRd w w.heap.size A c n l) (hb:Below w.heap.size w w'):AsRd w' w'.heap.size A c n l:=(h.below hb).more hb.size
def Five (w:World) (b o:Nat) (x:Ad):Prop:=∀ j u,x.cells[j]? = some u→w.cell? ⟨b,o+j,none⟩=some u
theorem AsRd.at_ (h:AsRd w B A c n l) {k:Nat} (hk:k<n):∃ b o,A=some ⟨b,o,none⟩∧b<B∧∀ hk:k<l.length,Five w b (o+k*5) l[k]:=by
 obtain ⟨b,o,hA,hb,hc⟩:=h.1.2 (by omega)
 refine ⟨b,o,hA,hb,fun hl j u hu=>?_⟩
 have hj:j<5:=by
  rcases Nat.lt_or_ge j 5 with h1 | h1
  ·exact h1
  ·rw [List.getElem?_eq_none (by simpa using h1)] at hu;cases hu
 rw [Nat.add_assoc]
 exact hc _ u ((acs_get l k j hl hj).trans hu)
theorem AsRd.base (h:AsRd w B A c n l) (hn:0<n):∃ b o,A=some ⟨b,o,none⟩∧b<B∧∀ k (hk:k<l.length),Five w b (o+k*5) l[k]:=by
 obtain ⟨b,o,rfl,hb,_⟩:=h.at_ hn
 refine ⟨b,o,rfl,hb,fun k hk=>?_⟩
 obtain ⟨b2,o2,e,_,h2⟩:=h.at_ (show k<n by have:=h.2.1;omega)
 injection e with e
 injection e with e1 e2
 subst e1 e2
 exact h2 hk
theorem Five.cells {b o:Nat} {x:Ad} (h:Five w b o x) :
 w.cell? ⟨b,o,none⟩=some (.string ⟨x.h.toArray⟩)∧w.cell? ⟨b,o+1,none⟩=some (.int .i64 x.po)∧w.cell? ⟨b,o+2,none⟩=some (.int .i64 x.pr)∧w.cell? ⟨b,o+3,none⟩=some (.int .i64 x.we)∧w.cell? ⟨b,o+4,none⟩=some (.int .u32 (x.ttl:Int)):=
 ⟨h 0 _ rfl,h 1 _ rfl,h 2 _ rfl,h 3 _ rfl,h 4 _ rfl⟩
theorem Five.below {b o:Nat} {x:Ad} (h:Five w b o x) (hb:Below B w w') (hlt:b<B):Five w' b o x:=fun j u hu=>(hb.cell (p:=⟨b,o+j,none⟩) hlt).trans (h j u hu)
theorem AsRd.front (h:AsRd w B A c n l) {k:Nat} (hk:k≤n):AsRd w B A c k (l.take k):=by
 refine ⟨⟨by rw [acs_length,List.length_take,h.2.1,Nat.min_eq_left hk],fun h0=>?_⟩,by rw [List.length_take,h.2.1];omega,by have:=h.2.2.1;omega,by have:=h.2.2.2.1;omega,fun x hx=>h.2.2.2.2 x (List.mem_of_mem_take hx)⟩
 obtain ⟨b,o,rfl,hb,hc⟩:=h.1.2 (by omega)
 refine ⟨b,o,rfl,hb,fun j u hu=>hc j u ?_⟩
 have e:acs l=acs (l.take k)++acs (l.drop k):=by rw [←acs_app,List.take_append_drop]
 rw [e,List.getElem?_append_left]
 ·exact hu
 ·rcases Nat.lt_or_ge j (acs (l.take k)).length with h1 | h1
  ·exact h1
  ·rw [List.getElem?_eq_none h1] at hu;cases hu
theorem Vx.c5 {g:Nat} {e:TypeId} {a0 a1 a2 a3 a4:Value} (h:Vx w g e [a0,a1,a2,a3,a4]):w.cell? ⟨g,0,none⟩=some a0∧w.cell? ⟨g,1,none⟩=some a1∧w.cell? ⟨g,2,none⟩=some a2∧w.cell? ⟨g,3,none⟩=some a3∧w.cell? ⟨g,4,none⟩=some a4:=⟨h.cell 0,h.cell 1,h.cell 2,h.cell 3,h.cell 4⟩
theorem AsRd.of_own {base:Nat} {e:TypeId} {v:Value} (h:OwM w base e 5 v n (acs l)) (hl:l.length=n) (hn:n≤2932031007317) (hx:∀ x∈l,AdOk x):∃ A c,v = .slice A n c∧AsRd w w.heap.size A c n l:=by
 obtain ⟨A,c,rfl,hc,_,hr⟩:=h.form
 exact ⟨A,c,rfl,hr,hl,hc,hn,hx⟩
end
end Go.Proofs.YtlipmlbijddopaaGreatDoor
set_option linter.unusedVariables false
set_option linter.unusedSimpArgs false
namespace Go.Proofs.YtlipmlbijddopaaGreatDoor
open Go.RowKit
namespace Srv
theorem bl_iff:∀ a b:List UInt8,Op.bytesLess a b=decide (Lib.compareBytes a b<0)
 | [],[]=>rfl
 | [],_ :: _=>rfl
 | _ :: _,[]=>rfl
 | x :: a,y :: b=>by
   rw [Ord.cb_cons,Op.bytesLess,bl_iff a b]
   by_cases h1:x<y
   ·simp [h1]
   ·by_cases h2:y<x
    ·have hne:x≠y:=fun e=>by subst e;exact h1 h2
     simp [h1,h2,hne]
    ·have e:x=y:=UInt8.toNat_inj.1 (by
      have h3:=mt UInt8.lt_iff_toNat_lt.2 h1
      have h4:=mt UInt8.lt_iff_toNat_lt.2 h2
      omega)
     subst e
     simp [h1]
end Srv
set_option maxHeartbeats 400000 in
theorem nanI_at (a:Int) (w:World):Calls Tryz.prog 159 #[.int .i64 a] w fun e w'=>e = .returned (.bool false)∧w=w':=by
 go_enter Tryz.func159,Tryz.ntmps159
 go_wp2
 go_ret
 exact ⟨ret_bool (by simp),rfl⟩
set_option maxHeartbeats 400000 in
theorem nanU_at (a:Int) (w:World):Calls Tryz.prog 106 #[.int .u32 a] w fun e w'=>e = .returned (.bool false)∧w=w':=by
 go_enter Tryz.func106,Tryz.ntmps106
 go_wp2
 go_ret
 exact ⟨ret_bool (by simp),rfl⟩
set_option maxHeartbeats 400000 in
theorem nanS_at (a:List UInt8) (w:World):Calls Tryz.prog 160 #[.string ⟨a.toArray⟩] w fun e w'=>e = .returned (.bool false)∧w=w':=by
 go_enter Tryz.func160,Tryz.ntmps160
 go_wp2
 go_ret
 exact ⟨ret_bool (by simp),rfl⟩
theorem cmpI_lt {a b:Int} (h:a<b):Srv.cmpI a b = -1:=if_pos h
theorem cmpI_gt {a b:Int} (h:b<a):Srv.cmpI a b=1:=by unfold Srv.cmpI;rw [if_neg (by omega),if_pos h]
theorem cmpI_eq {a b:Int} (h:¬ a<b) (h2:¬ b<a):Srv.cmpI a b=0:=by unfold Srv.cmpI;rw [if_neg h,if_neg h2]
set_option maxHeartbeats 400000 in
theorem cmpInt_at (a b:Int) (w:World):Calls Tryz.prog 122 #[.int .i64 a,.int .i64 b] w fun e w'=>e = .returned (.int .i64 (Srv.cmpI a b))∧w=w':=by
 obtain ⟨r,hr⟩:∃ r,r=Srv.cmpI a b:=⟨_,rfl⟩
 rw [←hr]
 have HR:=Lib.hid hr
 clear hr
 by_cases h1:a<b
 ·go_enter Tryz.func122,Tryz.ntmps122
  go_wp2_with (go_at_call 159;refine (nanI_at _ _).mono ?_;rintro e w' ⟨rfl,rfl⟩)
  go_ret
  exact ⟨ret_int (by rw [HR.out,cmpI_lt h1]),rfl⟩
 ·by_cases h2:b<a
  ·go_enter Tryz.func122,Tryz.ntmps122
   go_wp2_with (go_at_call 159;refine (nanI_at _ _).mono ?_;rintro e w' ⟨rfl,rfl⟩)
   go_ret
   exact ⟨ret_int (by rw [HR.out,cmpI_gt h2]),rfl⟩
  ·go_enter Tryz.func122,Tryz.ntmps122
   go_wp2_with (go_at_call 159;refine (nanI_at _ _).mono ?_;rintro e w' ⟨rfl,rfl⟩)
   go_ret
   exact ⟨ret_int (by rw [HR.out,cmpI_eq (by omega) (by omega)]),rfl⟩
set_option maxHeartbeats 400000 in
theorem cmpU_at (a b:Int) (w:World):Calls Tryz.prog 66 #[.int .u32 a,.int .u32 b] w fun e w'=>e = .returned (.int .i64 (Srv.cmpI a b))∧w=w':=by
 obtain ⟨r,hr⟩:∃ r,r=Srv.cmpI a b:=⟨_,rfl⟩
 rw [←hr]
 have HR:=Lib.hid hr
 clear hr
 by_cases h1:a<b
 ·go_enter Tryz.func66,Tryz.ntmps66
  go_wp2_with (go_at_call 106;refine (nanU_at _ _).mono ?_;rintro e w' ⟨rfl,rfl⟩)
  go_ret
  exact ⟨ret_int (by rw [HR.out,cmpI_lt h1]),rfl⟩
 ·by_cases h2:b<a
  ·go_enter Tryz.func66,Tryz.ntmps66
   go_wp2_with (go_at_call 106;refine (nanU_at _ _).mono ?_;rintro e w' ⟨rfl,rfl⟩)
   go_ret
   exact ⟨ret_int (by rw [HR.out,cmpI_gt h2]),rfl⟩
  ·go_enter Tryz.func66,Tryz.ntmps66
   go_wp2_with (go_at_call 106;refine (nanU_at _ _).mono ?_;rintro e w' ⟨rfl,rfl⟩)
   go_ret
   exact ⟨ret_int (by rw [HR.out,cmpI_eq (by omega) (by omega)]),rfl⟩
set_option maxHeartbeats 400000 in
theorem cmpS_at (a b:List UInt8) (w:World):Calls Tryz.prog 123 #[.string ⟨a.toArray⟩,.string ⟨b.toArray⟩] w fun e w'=>e = .returned (.int .i64 (Lib.compareBytes a b))∧w=w':=by
 obtain ⟨r,hr⟩:∃ r,r=Lib.compareBytes a b:=⟨_,rfl⟩
 rw [←hr]
 have HR:=Lib.hid hr
 clear hr
 have hl:=Srv.bl_iff a b
 have hk:(Op.bytesLess a b=true∧r = -1)∨(Op.bytesLess a b=false∧(((a == b)=true∧r=0)∨((a == b)=false∧r=1))):=by
  rw [hl,HR.out]
  have hrg:=Ord.cb_range a b
  by_cases h1:Lib.compareBytes a b<0
  ·exact .inl ⟨by simpa using h1,by omega⟩
  ·refine .inr ⟨by simpa using h1,?_⟩
   by_cases h2:a=b
   ·exact .inl ⟨by simpa using h2,by rw [h2,Ord.cb_self]⟩
   ·refine .inr ⟨by simpa using h2,?_⟩
    rcases hrg with h3 | h3 | h3
    ·omega
    ·exact absurd (Ord.cb_eq a b h3) h2
    ·exact h3
 clear hl
 rcases hk with ⟨hk,he⟩ | ⟨hk,⟨hq,he⟩ | ⟨hq,he⟩⟩
 ·have HE:=Lib.hid he
  clear he
  go_enter Tryz.func123,Tryz.ntmps123
  go_wp2_with (go_at_call 160;refine (nanS_at _ _).mono ?_;rintro e w' ⟨rfl,rfl⟩)
  go_ret
  exact ⟨ret_int HE.out.symm,rfl⟩
 ·have HE:=Lib.hid he
  clear he
  go_enter Tryz.func123,Tryz.ntmps123
  go_wp2_with (go_at_call 160;refine (nanS_at _ _).mono ?_;rintro e w' ⟨rfl,rfl⟩)
  go_ret
  exact ⟨ret_int HE.out.symm,rfl⟩
 ·have HE:=Lib.hid he
  clear he
  go_enter Tryz.func123,Tryz.ntmps123
  go_wp2_with (go_at_call 160;refine (nanS_at _ _).mono ?_;rintro e w' ⟨rfl,rfl⟩)
  go_ret
  exact ⟨ret_int HE.out.symm,rfl⟩
def or5 (l:List Int):Int:=(l.find? fun x=>decide (x≠0)).getD 0
set_option maxRecDepth 100000 in
set_option maxHeartbeats 1000000 in
theorem or_at (b n c:Nat) (l:List Int) (w:World) (hl:l.length=n) (hn:n≤1000) (hc:∀ j (h:j<l.length),w.cell? ⟨b,j,none⟩=some (.int .i64 l[j])) :
 Calls Tryz.prog 121 #[.slice (some ⟨b,0,none⟩) n c] w fun e w'=>e = .returned (.int .i64 (or5 l))∧w=w':=by
 have HC:=Lib.hid hc
 have HL:=Lib.hid hl
 clear hc hl
 go_enter Tryz.func121,Tryz.ntmps121
 go_wp2
 go_loop [8] (fun v=>∃ k:Nat,k≤n∧v = .int .i64 k∧Hid (∀ x∈l.take k,x=0)) (fun v=>n - (intOf v).toNat)
 case atStart=>exact ⟨0,Nat.zero_le _,rfl,Lib.hid (fun x h=>by simp at h)⟩
 case round=>
  obtain ⟨k,hk,rfl,HZ⟩:=hrel
  rcases Nat.lt_or_ge k n with hlt | hge
  ·have hcell:=HC.out k (by rw [HL.out];exact hlt)
   obtain ⟨x,hx⟩:∃ x,x=l[k]'(by rw [HL.out];exact hlt):=⟨_,rfl⟩
   rw [←hx] at hcell
   have HX:=Lib.hid hx
   clear hx
   by_cases h0:x=0
   ·have hx0:(x == 0)=true:=by simpa using h0
    have H0:=Lib.hid h0
    clear h0
    go_wp2
    go_round
    case rel=>
     refine ⟨k+1,by omega,by go_num,Lib.hid fun y hy=>?_⟩
     rw [List.take_succ_eq_append_getElem (by rw [HL.out];exact hlt),List.mem_append] at hy
     rcases hy with hy | hy
     ·exact HZ.out y hy
     ·rw [List.mem_singleton] at hy;rw [hy,←HX.out];exact H0.out
    case measure=>simp [intOf];omega
   ·have hx0:(x == 0)=false:=by simpa using h0
    have H0:=Lib.hid h0
    clear h0
    go_wp2
    go_ret
    refine ⟨ret_int ?_,rfl⟩
    have e:l.find? (fun x=>decide (x≠0))=some x:=by
     rw [List.find?_eq_some_iff_append]
     refine ⟨by simpa using H0.out,l.take k,l.drop (k+1),?_,fun y hy=>by simpa using HZ.out y hy⟩
     rw [HX.out]
     simp
    unfold or5
    rw [e];rfl
  ·go_wp2
   go_ret
   refine ⟨ret_int ?_,rfl⟩
   have e:l.find? (fun x=>decide (x≠0))=none:=by
    rw [List.find?_eq_none]
    intro y hy
    have:=HZ.out y (by rw [List.take_of_length_le (by rw [HL.out];exact hge)];exact hy)
    simpa using this
   unfold or5
   rw [e];rfl
theorem or5_A (x y:Ad):or5 [Srv.cmpI x.pr y.pr,Srv.cmpI y.we x.we,Lib.compareBytes x.h y.h,Srv.cmpI x.po y.po,Srv.cmpI x.ttl y.ttl]=Srv.cmpA x y:=by
 unfold or5 Srv.cmpA Srv.lexC
 simp only [List.find?_cons]
 by_cases h1:Srv.cmpI x.pr y.pr=0
 ·by_cases h2:Srv.cmpI y.we x.we=0
  ·by_cases h3:Lib.compareBytes x.h y.h=0
   ·by_cases h4:Srv.cmpI x.po y.po=0
    ·by_cases h5:Srv.cmpI x.ttl y.ttl=0 <;> simp [h1,h2,h3,h4,h5]
    ·simp [h1,h2,h3,h4]
   ·simp [h1,h2,h3]
  ·simp [h1,h2]
 ·simp [h1]
theorem allS_take {α:Type} (p:α→Bool) (l:List α) (k:Nat) (h:k<l.length) (h1:(l.take k).all p=true) (h2:p l[k]=true):(l.take (k+1)).all p=true:=by
 rw [List.take_succ_eq_append_getElem h,List.all_append,h1]
 simp [h2]
theorem allS_not {α:Type} (p:α→Bool) (l:List α) (k:Nat) (h:k<l.length) (h2:p l[k]=false):l.all p=false:=by
 rw [List.all_eq_false]
 exact ⟨l[k],List.getElem_mem h,by simp [h2]⟩
set_option maxRecDepth 100000 in
set_option maxHeartbeats 1000000 in
theorem host_at (A:Option Addr) (c L:Nat) (n:List (List UInt8)) (r:Bool) (hr:Srv.hostN n=r) (w:World) (hL:n.length=L) (h:Rd w w.heap.size A L (sc n)) (hl:L≤140737488355328) (hs:∀ x∈n,x.length≤140737488355328) :
 Calls Tryz.prog 81 #[.slice A L c] w fun e w'=>e = .returned (.bool r)∧Below w.heap.size w w':=by
 have HR:=Lib.hid hr
 have HRD:=Lib.hid h
 have HL:=Lib.hid hL
 have HS:=Lib.hid hs
 clear hr h hL hs
 go_enter Tryz.func81,Tryz.ntmps81
 go_wp2
 go_loopw [9] (fun v wr=>∃ k:Nat,k≤L∧v = .int .i64 k∧Hid ((n.take k).all Srv.hostL=true)∧Hid (Below w.heap.size w wr)) (fun v _=>L - (intOf v).toNat)
 case atStart=>exact ⟨0,Nat.zero_le _,rfl,Lib.hid (by simp),Lib.hid (Below.refl _ _)⟩
 case round=>
  obtain ⟨k,hk,rfl,HT,HB⟩:=hrel
  rcases Nat.lt_or_ge k L with hlt | hge
  ·obtain ⟨b,o,rfl,hb,hc⟩:=(HRD.out.below HB.out).at_ hlt
   have hkn:k<n.length:=by rw [HL.out];exact hlt
   have hcell:=hc k _ (sc_get n k hkn)
   obtain ⟨x,hx⟩:∃ x,x=n[k]:=⟨_,rfl⟩
   rw [←hx] at hcell
   have hxl:x.length≤140737488355328:=HS.out x (by rw [hx];exact List.getElem_mem hkn)
   have HX:=Lib.hid hx
   have HKN:=Lib.hid hkn
   obtain ⟨cap,w1,hconv,hcap,hb1,hz1,hown⟩:=conv_sb (P:=Tryz.prog) wr 9 22 5 x Tryz.underlying9 Tryz.underlying22 Tryz.underlying5
   obtain ⟨G,hG⟩:∃ G,G=wr.heap.size:=⟨_,rfl⟩
   rw [←hG] at hconv hown
   have HB1:=Lib.hid (HB.out.trans (hb1.mono HB.out.size))
   have HO:=Lib.hid hown
   clear hx hc hown hb1 hz1 hG
   go_wp2_with fail
   go_loopw [16] (fun v wx=>∃ j:Nat,j≤x.length∧v = .int .i64 j∧Hid ((x.take j).all Srv.hostB=true)∧wx=w1) (fun v _=>x.length - (intOf v).toNat)
   case atStart=>exact ⟨0,Nat.zero_le _,rfl,Lib.hid (by simp),rfl⟩
   case round=>
    obtain ⟨j,hj,rfl,HJ,rfl⟩:=hrel
    rcases Nat.lt_or_ge j x.length with hltj | hgej
    ·have hcj:=(HO.out j _ (bc_get x j hltj)).1
     obtain ⟨u,hu⟩:∃ u,u=x[j]:=⟨_,rfl⟩
     rw [←hu] at hcj
     have HU:=Lib.hid hu
     have hu1:=u.toNat_lt
     clear hu
     by_cases hok:Srv.hostB u=true
     ·have HOK:=Lib.hid hok
      simp only [Srv.hostB,decide_eq_true_eq] at hok
      go_wp2_with fail
      all_goals first
       | (exfalso;omega)
       | skip
      all_goals clear hok
      all_goals
       go_roundw
       case rel=>exact ⟨j+1,by omega,by go_num,Lib.hid (allS_take _ _ _ hltj HJ.out (by rw [←HU.out];exact HOK.out)),trivial⟩
       case measure=>simp [intOf];omega
     ·have hob:Srv.hostB u=false:=by simpa using hok
      have HOB:=Lib.hid hob
      simp only [Srv.hostB,decide_eq_true_eq] at hok
      clear hob
      go_wp2_with fail
      all_goals first
       | (exfalso;omega)
       | (exfalso;rename_i hh;simp only [bne_eq_false_iff_eq] at hh;omega)
       | skip
      all_goals clear hok
      all_goals go_ret
      all_goals exact ⟨ret_bool (by
       rw [←HR.out,Srv.hostN,allS_not _ _ k hkn]
       rw [←HX.out]
       exact allS_not _ _ j hltj (by rw [←HU.out];exact HOB.out)),HB1.out⟩
    ·have:j=x.length:=by omega
     subst this
     have hx1:Srv.hostL x=true:=by rw [Srv.hostL];have:=HJ.out;rwa [List.take_length] at this
     have HX1:=Lib.hid hx1
     clear hx1
     go_wp2_with fail
     go_roundw
     case rel=>exact ⟨k+1,by omega,by go_num,Lib.hid (allS_take _ _ _ hkn HT.out (by rw [←HX.out];exact HX1.out)),HB1⟩
     case measure=>simp [intOf];omega
  ·have:k=L:=by omega
   subst this
   go_wp2_with fail
   go_ret
   exact ⟨ret_bool (by rw [←HR.out,Srv.hostN];have:=HT.out;rw [List.take_of_length_le (by rw [HL.out];exact Nat.le_refl _)] at this;exact this.symm),HB.out⟩
theorem grow_two (w:World) (a b:Obj):((w.alloc a).alloc b).drew=Sort.grow (w.drewN 1) #[a,b]:=by
 rw [Sort.alloc_eq_grow,Sort.alloc_eq_grow,Sort.grow_grow]
 rfl
set_option maxRecDepth 100000 in
set_option maxHeartbeats 2000000 in
theorem order_at (x y:Ad) (w:World):Calls Tryz.prog 83 #[.agg x.cells.toArray,.agg y.cells.toArray] w fun e w'=>e = .returned (.int .i64 (Srv.cmpA x y))∧∃ q os,w'=Sort.grow (w.drewN q) os:=by
 have hr:=or5_A x y
 obtain ⟨h,po,pr,we,ttl⟩:=x
 obtain ⟨h',po',pr',we',ttl'⟩:=y
 dsimp only at hr
 obtain ⟨r,hr2⟩:∃ r,r=Srv.cmpA ⟨h,po,pr,we,ttl⟩ ⟨h',po',pr',we',ttl'⟩:=⟨_,rfl⟩
 rw [←hr2] at hr ⊢
 have HR:=Lib.hid hr
 clear hr hr2
 unfold Ad.cells strV
 dsimp only
 go_enter Tryz.func83,Tryz.ntmps83
 go_wp2
 refine wp_region_still_tail 25 (by kernel_rfl) (by kernel_rfl) ?_
 simp only [List.take_succ_cons,List.take_zero,List.drop_succ_cons,List.drop_zero]
 change wpStill _ _ (World.drew _) _ _ _
 (refine wpStill_step (fun K hK=>?_);go_simp;refine hK _ ?_;clear hK K)
 (refine wpStill_step (fun K hK=>?_);go_simp;refine hK _ ?_;clear hK K)
 (refine wpStill_step (fun K hK=>?_);go_simp;refine hK _ ?_;clear hK K)
 (refine wpStill_step (fun K hK=>?_);go_simp;refine hK _ ?_;clear hK K)
 (refine wpStill_step (fun K hK=>?_);go_simp;refine ⟨_,(cmpInt_at _ _ _).mono (fun _ _ hc=>⟨hc.1,hc.2.symm⟩),hK _ ?_⟩;clear hK K)
 (refine wpStill_step (fun K hK=>?_);go_simp;refine hK _ ?_;clear hK K)
 (refine wpStill_step (fun K hK=>?_);go_simp;refine hK _ ?_;clear hK K)
 (refine wpStill_step (fun K hK=>?_);go_simp;refine hK _ ?_;clear hK K)
 (refine wpStill_step (fun K hK=>?_);go_simp;refine hK _ ?_;clear hK K)
 (refine wpStill_step (fun K hK=>?_);go_simp;refine ⟨_,(cmpInt_at _ _ _).mono (fun _ _ hc=>⟨hc.1,hc.2.symm⟩),hK _ ?_⟩;clear hK K)
 (refine wpStill_step (fun K hK=>?_);go_simp;refine hK _ ?_;clear hK K)
 (refine wpStill_step (fun K hK=>?_);go_simp;refine hK _ ?_;clear hK K)
 (refine wpStill_step (fun K hK=>?_);go_simp;refine hK _ ?_;clear hK K)
 (refine wpStill_step (fun K hK=>?_);go_simp;refine hK _ ?_;clear hK K)
 (refine wpStill_step (fun K hK=>?_);go_simp;refine ⟨_,(cmpS_at _ _ _).mono (fun _ _ hc=>⟨hc.1,hc.2.symm⟩),hK _ ?_⟩;clear hK K)
 (refine wpStill_step (fun K hK=>?_);go_simp;refine hK _ ?_;clear hK K)
 (refine wpStill_step (fun K hK=>?_);go_simp;refine hK _ ?_;clear hK K)
 (refine wpStill_step (fun K hK=>?_);go_simp;refine hK _ ?_;clear hK K)
 (refine wpStill_step (fun K hK=>?_);go_simp;refine hK _ ?_;clear hK K)
 (refine wpStill_step (fun K hK=>?_);go_simp;refine ⟨_,(cmpInt_at _ _ _).mono (fun _ _ hc=>⟨hc.1,hc.2.symm⟩),hK _ ?_⟩;clear hK K)
 (refine wpStill_step (fun K hK=>?_);go_simp;refine hK _ ?_;clear hK K)
 (refine wpStill_step (fun K hK=>?_);go_simp;refine hK _ ?_;clear hK K)
 (refine wpStill_step (fun K hK=>?_);go_simp;refine hK _ ?_;clear hK K)
 (refine wpStill_step (fun K hK=>?_);go_simp;refine hK _ ?_;clear hK K)
 (refine wpStill_step (fun K hK=>?_);go_simp;refine ⟨_,(cmpU_at _ _ _).mono (fun _ _ hc=>⟨hc.1,hc.2.symm⟩),hK _ ?_⟩;clear hK K)
 refine wpStill_nil ?_
 change wpList _ _ _ _ _ (((w.alloc (.cells #[.string ⟨h.toArray⟩,.int .i64 po,.int .i64 pr,.int .i64 we,.int .u32 (ttl:Int)] 31)).alloc (.cells #[.string ⟨h'.toArray⟩,.int .i64 po',.int .i64 pr',.int .i64 we',.int .u32 (ttl':Int)] 31)).drew)
 have hgw:∃ q os,((w.alloc (.cells #[.string ⟨h.toArray⟩,.int .i64 po,.int .i64 pr,.int .i64 we,.int .u32 (ttl:Int)] 31)).alloc (.cells #[.string ⟨h'.toArray⟩,.int .i64 po',.int .i64 pr',.int .i64 we',.int .u32 (ttl':Int)] 31)).drew=Sort.grow (w.drewN q) os:=⟨1,#[_,_],grow_two w _ _⟩
 generalize ((w.alloc (.cells #[.string ⟨h.toArray⟩,.int .i64 po,.int .i64 pr,.int .i64 we,.int .u32 (ttl:Int)] 31)).alloc (.cells #[.string ⟨h'.toArray⟩,.int .i64 po',.int .i64 pr',.int .i64 we',.int .u32 (ttl':Int)] 31)).drew=W at hgw ⊢
 have HGW:=Lib.hid hgw
 clear hgw
 go_wp2_with (go_at_call 121
              refine (or_at W.heap.size 5 5 [Srv.cmpI pr pr',Srv.cmpI we' we,Lib.compareBytes h h',Srv.cmpI po po',Srv.cmpI ttl ttl'] _ rfl (by omega) ?_).mono ?_
              ·intro j hj
               rw [World.cell?_alloc_mark W _ _ (0,0) j]
               have hj':j<5:=hj
               rcases (show j=0∨j=1∨j=2∨j=3∨j=4 by omega) with rfl | rfl | rfl | rfl | rfl <;> rfl
              rintro e w1 ⟨rfl,rfl⟩)
 go_ret
 refine ⟨ret_int HR.out,?_⟩
 obtain ⟨q,os,hq⟩:=HGW.out
 exact ⟨q,os++#[_],by rw [Sort.alloc_eq_grow,hq,Sort.grow_grow]⟩
end Go.Proofs.YtlipmlbijddopaaGreatDoor
set_option linter.unusedVariables false
set_option linter.unusedSimpArgs false
namespace Go.Proofs.YtlipmlbijddopaaGreatDoor
open Go.RowKit
theorem wt_int (x:Ad):min (max x.we 0) 65535=(Srv.wtA x:Int):=by
 unfold Srv.wtA
 split
 ·omega
 ·split <;> omega
set_option maxRecDepth 100000 in
set_option maxHeartbeats 400000 in
theorem weight_at (x:Ad) (w:World):Calls Tryz.prog 59 #[.agg x.cells.toArray] w fun e w'=>e = .returned (.int .i64 (Srv.wtA x:Int))∧Below w.heap.size w w':=by
 have HW:=Lib.hid (wt_int x)
 obtain ⟨h,po,pr,we,ttl⟩:=x
 unfold Ad.cells
 dsimp only
 go_enter Tryz.func59,Tryz.ntmps59
 go_wp2
 go_ret
 exact ⟨ret_int HW.out,bl_new _ _⟩
def noneB (x:Ad):Bool:=decide ((Srv.wtA x:Int)=0)
set_option maxRecDepth 100000 in
set_option maxHeartbeats 400000 in
theorem pick1_at (x:Ad) (w:World):Calls Tryz.prog 58 #[.agg x.cells.toArray] w fun e w'=>e = .returned (.bool (Srv.noneW x))∧Below w.heap.size w w':=by
 have HW:=Lib.hid (weight_at x)
 have HN:Hid (((Srv.wtA x:Int) == 0)=Srv.noneW x):=Lib.hid (by rw [Bool.eq_iff_iff];simp [Srv.noneW])
 obtain ⟨h,po,pr,we,ttl⟩:=x
 unfold Ad.cells at HW ⊢
 dsimp only at HW ⊢
 generalize Srv.wtA ⟨h,po,pr,we,ttl⟩=wt at HW HN
 go_enter Tryz.func58,Tryz.ntmps58
 go_wp2_with (go_at_call 59;refine (HW.out _).mono ?_;rintro e w1 ⟨rfl,hb⟩)
 go_ret
 exact ⟨ret_bool HN.out,(bl_new w _).trans (hb.mono (by simp))⟩
set_option maxRecDepth 100000 in
set_option maxHeartbeats 400000 in
theorem pick2_at (g:Nat) (x:Ad) (w:World) (hg:w.cell? ⟨g,0,none⟩=some (.func (.func 58) #[] #[])) (hgl:g<w.heap.size) :
 Calls Tryz.prog 61 #[.agg x.cells.toArray,.pointer (some ⟨g,0,none⟩)] w fun e w'=>e = .returned (.bool (!Srv.noneW x))∧Below w.heap.size w w':=by
 have HW:=Lib.hid (pick1_at x)
 obtain ⟨r,hr⟩:∃ r,r=Srv.noneW x:=⟨_,rfl⟩
 rw [←hr] at HW ⊢
 clear hr
 obtain ⟨h,po,pr,we,ttl⟩:=x
 unfold Ad.cells at HW ⊢
 dsimp only at HW ⊢
 go_enter Tryz.func61,Tryz.ntmps61
 go_wp2_with (go_at_call 58;refine (HW.out _).mono ?_;rintro e w1 ⟨rfl,hb⟩)
 go_ret
 exact ⟨ret_bool rfl,(bl_new w _).trans (hb.mono (by simp))⟩
set_option maxRecDepth 100000 in
set_option maxHeartbeats 2000000 in
theorem only1_at (A:Option Addr) (c n:Nat) (l:List Ad) (w:World) (h:AsRd w w.heap.size A c n l) :
 Calls Tryz.prog 60 #[.slice A n c,.func (.func 58) #[] #[]] w fun e w'=>∃ v,e = .returned v∧OwM w' w.heap.size 31 5 v (l.filter Srv.noneW).length (acs (l.filter Srv.noneW))∧Below w.heap.size w w':=by
 obtain ⟨j0,hj',hy0,hy1,hy2⟩:=info_parts Tryz.infoA
 have H:=Lib.hid h
 have hnl:=h.2.2.2.1
 have hln:=h.2.1
 have HLN:=Lib.hid hln
 clear h hln
 go_enter Tryz.func60,Tryz.ntmps60
 go_wp2_with fail
 go_loopw [5,10] (fun v5 vk wr=>∃ (k:Nat) (m:Nat),k≤n∧m≤k∧vk = .int .i64 k∧Hid (((l.take k).filter Srv.noneW).length=m)∧Hid (OwM wr w.heap.size 31 5 v5 m (acs ((l.take k).filter Srv.noneW)))∧Hid (Below w.heap.size w wr)) (fun _ vk _=>n - (intOf vk).toNat)
 case atStart=>exact ⟨0,0,Nat.zero_le _,Nat.le_refl _,rfl,Lib.hid (by simp),Lib.hid (by simpa [acs] using OwM.nil w w.heap.size _ _),Lib.hid (Below.refl _ _)⟩
 case round=>
  obtain ⟨k,m,hk,hmk,rfl,HM,HO,HB⟩:=hrel
  obtain ⟨Ar,cr,rfl,_,_,_⟩:=HO.out.form
  have hsz:=HB.out.size
  rcases Nat.lt_or_ge k n with hlt | hge
  ·have hkl:k<l.length:=by rw [HLN.out];exact hlt
   obtain ⟨b,o,rfl,hb,hc⟩:=(H.out.below HB.out).at_ hlt
   have hf:=hc hkl
   have hft:∀ q,(l.take (k+1)).filter q=(l.take k).filter q++(if q l[k]=true then [l[k]] else []):=by
    intro q
    rw [List.take_succ_eq_append_getElem hkl,List.filter_append]
    simp [List.filter]
    split <;> simp_all
   obtain ⟨x,hx⟩:∃ x,x=l[k]:=⟨_,rfl⟩
   rw [←hx] at hf hft
   have HFT:=Lib.hid hft
   clear hx hft hc
   obtain ⟨xh,xpo,xpr,xwe,xttl⟩:=x
   obtain ⟨c0,c1,c2,c3,c4⟩:=hf.cells
   dsimp only at c0 c1 c2 c3 c4
   clear hf
   have hOA:=OwM.alloc HO.out (.cells #[.string ⟨xh.toArray⟩,.int .i64 xpo,.int .i64 xpr,.int .i64 xwe,.int .u32 (xttl:Int)] 31)
   have hBA:=HB.out.alloc hsz (.cells #[.string ⟨xh.toArray⟩,.int .i64 xpo,.int .i64 xpr,.int .i64 xwe,.int .u32 (xttl:Int)] 31)
   have HOA:=Lib.hid hOA
   have HBA:=Lib.hid hBA
   have hVA:=Vx.new wr 31 [.string ⟨xh.toArray⟩,.int .i64 xpo,.int .i64 xpr,.int .i64 xwe,.int .u32 (xttl:Int)]
   have HVA:=Lib.hid hVA
   clear hOA hBA hVA
   obtain ⟨p,hp⟩:∃ p,p=Srv.noneW ⟨xh,xpo,xpr,xwe,xttl⟩:=⟨_,rfl⟩
   have HP:=Lib.hid hp
   have K:=Lib.hid (pick1_at ⟨xh,xpo,xpr,xwe,xttl⟩ (wr.alloc (.cells #[.string ⟨xh.toArray⟩,.int .i64 xpo,.int .i64 xpr,.int .i64 xwe,.int .u32 (xttl:Int)] 31)))
   rw [←hp] at K
   clear hp
   cases p with
   | false=>
     go_wp2_with (go_at_call 58
                  refine K.out.mono ?_
                  rintro e w3 ⟨rfl,hb3⟩)
     go_roundw
     case rel=>
      refine ⟨k+1,m,by omega,by omega,by go_num,Lib.hid ?_,Lib.hid ?_,Lib.hid (HBA.out.trans (hb3.mono (by simp;omega)))⟩
      ·rw [HFT.out,if_neg (by rw [←HP.out];exact Bool.false_ne_true),List.append_nil];exact HM.out
      ·rw [HFT.out,if_neg (by rw [←HP.out];exact Bool.false_ne_true),List.append_nil];exact HOA.out.far hb3
     case measure=>simp [intOf];omega
   | true=>
     go_wp2_with (first
      | (at_builtin
         refine wpList_appM _ rfl _ _ _ _ rfl w.heap.size 5 31 j0 (.agg zA.cells.toArray) 48 Tryz.underlying27 hj' hy0 hy1 hy2 rfl (by omega) (.slice Ar m cr) m (acs ((l.take k).filter Srv.noneW)) (HO3.out.alloc _) rfl 1 (Ad.cells ⟨xh,xpo,xpr,xwe,xttl⟩) (srcA Tryz.underlying27 31 5 _ 1 rfl (acells_one _) (by simp)) (by omega) (by have:=hz3;simp;omega) ?_
         intro v4 w4 ho4 hg4 hz4
         obtain ⟨A4,c4',rfl,_,_,_⟩:=ho4.form
         have HO4:=Lib.hid ho4
         clear ho4)
      | (go_at_call 58
         refine K.out.mono ?_
         rintro e w3 ⟨rfl,hb3⟩
         have HO3:=Lib.hid (HOA.out.far hb3)
         have HB3:=Lib.hid (HBA.out.trans (hb3.mono (by simp;omega)))
         have hz3:=HB3.out.size
         obtain ⟨d0,d1,d2,d3,d4⟩:=(HVA.out.below hb3 HVA.out.lt).c5
         clear hb3))
     go_roundw
     case rel=>
      refine ⟨k+1,m+1,by omega,by omega,by go_num,Lib.hid ?_,Lib.hid ?_,Lib.hid ((HB3.out.alloc hz3 _).trans (hg4.below (OwM.lt HO3.out) (by simp;omega)))⟩
      ·rw [HFT.out,if_pos (by rw [←HP.out]),List.length_append,HM.out];rfl
      ·rw [HFT.out,if_pos (by rw [←HP.out]),acs_snoc];exact HO4.out
     case measure=>simp [intOf];omega
  ·have:k=n:=by omega
   subst this
   have ht:=HM.out
   rw [List.take_of_length_le (by rw [HLN.out];exact Nat.le_refl _)] at ht HO
   have HT:=Lib.hid ht
   clear ht
   go_wp2_with fail
   go_ret
   exact ⟨_,rfl,by rw [HT.out];exact HO.out,HB.out⟩
set_option maxRecDepth 100000 in
set_option maxHeartbeats 2000000 in
theorem only2_at (A:Option Addr) (c n:Nat) (l:List Ad) (w:World) (h:AsRd w w.heap.size A c n l) (g:Nat) (hg:w.cell? ⟨g,0,none⟩=some (.func (.func 58) #[] #[])) (hgl:g<w.heap.size) :
 Calls Tryz.prog 60 #[.slice A n c,.func (.func 61) #[] #[.pointer (some ⟨g,0,none⟩)]] w fun e w'=>∃ v,e = .returned v∧OwM w' w.heap.size 31 5 v (l.filter (fun a=>!Srv.noneW a)).length (acs (l.filter (fun a=>!Srv.noneW a)))∧Below w.heap.size w w':=by
 obtain ⟨j0,hj',hy0,hy1,hy2⟩:=info_parts Tryz.infoA
 have H:=Lib.hid h
 have hnl:=h.2.2.2.1
 have hln:=h.2.1
 have HLN:=Lib.hid hln
 have HG:=Lib.hid hg
 clear hg
 clear h hln
 go_enter Tryz.func60,Tryz.ntmps60
 go_wp2_with fail
 go_loopw [5,10] (fun v5 vk wr=>∃ (k:Nat) (m:Nat),k≤n∧m≤k∧vk = .int .i64 k∧Hid (((l.take k).filter (fun a=>!Srv.noneW a)).length=m)∧Hid (OwM wr w.heap.size 31 5 v5 m (acs ((l.take k).filter (fun a=>!Srv.noneW a))))∧Hid (Below w.heap.size w wr)) (fun _ vk _=>n - (intOf vk).toNat)
 case atStart=>exact ⟨0,0,Nat.zero_le _,Nat.le_refl _,rfl,Lib.hid (by simp),Lib.hid (by simpa [acs] using OwM.nil w w.heap.size _ _),Lib.hid (Below.refl _ _)⟩
 case round=>
  obtain ⟨k,m,hk,hmk,rfl,HM,HO,HB⟩:=hrel
  obtain ⟨Ar,cr,rfl,_,_,_⟩:=HO.out.form
  have hsz:=HB.out.size
  rcases Nat.lt_or_ge k n with hlt | hge
  ·have hkl:k<l.length:=by rw [HLN.out];exact hlt
   obtain ⟨b,o,rfl,hb,hc⟩:=(H.out.below HB.out).at_ hlt
   have hf:=hc hkl
   have hft:∀ q,(l.take (k+1)).filter q=(l.take k).filter q++(if q l[k]=true then [l[k]] else []):=by
    intro q
    rw [List.take_succ_eq_append_getElem hkl,List.filter_append]
    simp [List.filter]
    split <;> simp_all
   obtain ⟨x,hx⟩:∃ x,x=l[k]:=⟨_,rfl⟩
   rw [←hx] at hf hft
   have HFT:=Lib.hid hft
   clear hx hft hc
   obtain ⟨xh,xpo,xpr,xwe,xttl⟩:=x
   obtain ⟨c0,c1,c2,c3,c4⟩:=hf.cells
   dsimp only at c0 c1 c2 c3 c4
   clear hf
   have hOA:=OwM.alloc HO.out (.cells #[.string ⟨xh.toArray⟩,.int .i64 xpo,.int .i64 xpr,.int .i64 xwe,.int .u32 (xttl:Int)] 31)
   have hBA:=HB.out.alloc hsz (.cells #[.string ⟨xh.toArray⟩,.int .i64 xpo,.int .i64 xpr,.int .i64 xwe,.int .u32 (xttl:Int)] 31)
   have HOA:=Lib.hid hOA
   have HBA:=Lib.hid hBA
   have hVA:=Vx.new wr 31 [.string ⟨xh.toArray⟩,.int .i64 xpo,.int .i64 xpr,.int .i64 xwe,.int .u32 (xttl:Int)]
   have HVA:=Lib.hid hVA
   have hg3:=(hBA.cell (p:=⟨g,0,none⟩) hgl).trans HG.out
   clear hOA hBA hVA
   obtain ⟨p,hp⟩:∃ p,p = !Srv.noneW ⟨xh,xpo,xpr,xwe,xttl⟩:=⟨_,rfl⟩
   have HP:=Lib.hid hp
   have K:=Lib.hid (pick2_at g ⟨xh,xpo,xpr,xwe,xttl⟩ (wr.alloc (.cells #[.string ⟨xh.toArray⟩,.int .i64 xpo,.int .i64 xpr,.int .i64 xwe,.int .u32 (xttl:Int)] 31)) hg3 (by simp;omega))
   rw [←hp] at K
   clear hp
   cases p with
   | false=>
     go_wp2_with (go_at_call 61
                  refine K.out.mono ?_
                  rintro e w3 ⟨rfl,hb3⟩)
     go_roundw
     case rel=>
      refine ⟨k+1,m,by omega,by omega,by go_num,Lib.hid ?_,Lib.hid ?_,Lib.hid (HBA.out.trans (hb3.mono (by simp;omega)))⟩
      ·rw [HFT.out,if_neg (by rw [←HP.out];exact Bool.false_ne_true),List.append_nil];exact HM.out
      ·rw [HFT.out,if_neg (by rw [←HP.out];exact Bool.false_ne_true),List.append_nil];exact HOA.out.far hb3
     case measure=>simp [intOf];omega
   | true=>
     go_wp2_with (first
      | (at_builtin
         refine wpList_appM _ rfl _ _ _ _ rfl w.heap.size 5 31 j0 (.agg zA.cells.toArray) 48 Tryz.underlying27 hj' hy0 hy1 hy2 rfl (by omega) (.slice Ar m cr) m (acs ((l.take k).filter (fun a=>!Srv.noneW a))) (HO3.out.alloc _) rfl 1 (Ad.cells ⟨xh,xpo,xpr,xwe,xttl⟩) (srcA Tryz.underlying27 31 5 _ 1 rfl (acells_one _) (by simp)) (by omega) (by have:=hz3;simp;omega) ?_
         intro v4 w4 ho4 hg4 hz4
         obtain ⟨A4,c4',rfl,_,_,_⟩:=ho4.form
         have HO4:=Lib.hid ho4
         clear ho4)
      | (go_at_call 61
         refine K.out.mono ?_
         rintro e w3 ⟨rfl,hb3⟩
         have HO3:=Lib.hid (HOA.out.far hb3)
         have HB3:=Lib.hid (HBA.out.trans (hb3.mono (by simp;omega)))
         have hz3:=HB3.out.size
         obtain ⟨d0,d1,d2,d3,d4⟩:=(HVA.out.below hb3 HVA.out.lt).c5
         clear hb3))
     go_roundw
     case rel=>
      refine ⟨k+1,m+1,by omega,by omega,by go_num,Lib.hid ?_,Lib.hid ?_,Lib.hid ((HB3.out.alloc hz3 _).trans (hg4.below (OwM.lt HO3.out) (by simp;omega)))⟩
      ·rw [HFT.out,if_pos (by rw [←HP.out]),List.length_append,HM.out];rfl
      ·rw [HFT.out,if_pos (by rw [←HP.out]),acs_snoc];exact HO4.out
     case measure=>simp [intOf];omega
  ·have:k=n:=by omega
   subst this
   have ht:=HM.out
   rw [List.take_of_length_le (by rw [HLN.out];exact Nat.le_refl _)] at ht HO
   have HT:=Lib.hid ht
   clear ht
   go_wp2_with fail
   go_ret
   exact ⟨_,rfl,by rw [HT.out];exact HO.out,HB.out⟩
theorem run_app_make {P:Program} (w:World) (t tx ty e:TypeId) (k:IntKind) (i:TypeInfo) (z:Value) (ht:P.underlying t=some (.slice e)) (hx:P.underlying tx=some (.int k)) (hi:P.info? e=some i) (hz:i.zero=some z)
 (n:Nat) (h0:0<n) (hs:0<i.size) (h63:n≤9223372036854775807) (h48:n*i.bytes≤140737488355328) :
 (Builtin.append_ #[t,tx] ty #[.slice none 0 0,.int .i64 (n:Int)]).run P w =
  .ok (.slice (some ⟨w.heap.size,0,none⟩) n (grownCap w n 0 e)) (w.drew.alloc (.cells (Builtin.zeroCells z.cells n++Builtin.zeroCells z.cells (grownCap w n 0 e - n)) e)):=by
 have hn:n≠0:=by omega
 have h63':¬ (9223372036854775807<(n:Int)):=by omega
 have h48':¬ (281474976710656<Builtin.nextslicecap n 0*i.bytes):=by rw [nextslicecap_zero h0];omega
 have hw:IntKind.i64.wrap (n:Int)=n:=by simp [IntKind.wrap,IntKind.bits,IntKind.signed];omega
 have hneg:¬ ((n:Int)<0):=by omega
 have h48i:¬ (281474976710656<(n:Int)*(i.bytes:Int)):=by
  have:((n*i.bytes:Nat):Int)≤281474976710656:=by omega
  rw [Int.natCast_mul] at this
  omega
 have hns:¬ (n=0∨i.size=0):=by omega
 have hns1:¬ (n*i.size=0):=fun e=>hns (Nat.mul_eq_zero.1 e)
 simp [Builtin.append_,run_underlying ht,run_underlying hx,sizeOf,typeInfo,zeroValue,hi,hz,asInt,asIntOf,hw,hneg,h48i,hn,h63',h48',hns1,Question.forced,run_firstCells_none,newRow,grownCap]
theorem wpList_make {P:Program} (w:World) {ops:Array Oper} {rest:List Oper} {o:Oper} {a:Act} {Q:Exit→Act→World→Prop} (hgd:o.guard=none) (sl x:Operand) (t tx:TypeId)
 (ho:o.op = .call { callee:=.builtin .append,args:=#[sl,x],argTypes:=#[t,tx] }) (e:TypeId) (k:IntKind) (i:TypeInfo) (z:Value) (ht:P.underlying t=some (.slice e)) (hx:P.underlying tx=some (.int k)) (hi:P.info? e=some i) (hz:i.zero=some z)
 (n:Nat) (hsl:a.eval sl = .slice none 0 0) (hxv:a.eval x = .int .i64 (n:Int)) (h0:0<n) (hs:0<i.size) (h63:n≤9223372036854775807) (h48:n*i.bytes≤140737488355328)
 (h:wpList P ops Q rest (a.put o.dst (.slice (some ⟨w.heap.size,0,none⟩) n (grownCap w n 0 e))) (w.drew.alloc (.cells (Builtin.zeroCells z.cells n++Builtin.zeroCells z.cells (grownCap w n 0 e - n)) e))):wpList P ops Q (o :: rest) a w:=by
 refine wpList_plain hgd fun K hK=>?_
 have hr:=run_app_make (P:=P) w t tx o.type e k i z ht hx hi hz n h0 hs h63 h48
 unfold Oper.wp execOp
 simp only [ho,resolve,invoke,builtin,Sem.run_bind,Sem.run_pure,Result.andThen_ok,List.map_toArray,List.map_cons,List.map_nil,hsl,hxv,hr]
 exact hK _ _ h
theorem own_made (w:World) (e:TypeId) (s n cap m:Nat) (z:Value) (hz:z.cells.size=s) (hc:n≤cap) (hm:cap≤maxLen) :
 OwM (w.drew.alloc (.cells (Builtin.zeroCells z.cells n++Builtin.zeroCells z.cells (cap - n)) e)) w.heap.size e s (.slice (some ⟨w.heap.size,0,none⟩) 0 cap) 0 []:=by
 refine ⟨by simp,.inr ⟨w.heap.size,cap,_,rfl,Nat.le_refl _,heap_alloc_new w.drew _,Nat.zero_le _,hm,?_,by simp⟩⟩
 rw [Array.size_append,size_zeroCells,size_zeroCells,hz,←Nat.add_mul]
 congr 1
 omega
set_option maxRecDepth 100000 in
set_option maxHeartbeats 1000000 in
theorem grow_at (n:Nat) (w:World) (hn:n*48≤140737488355328):Calls Tryz.prog 67 #[.slice none 0 0,.int .i64 (n:Int)] w fun e w'=>∃ v,e = .returned v∧OwM w' w.heap.size 31 5 v 0 []∧Below w.heap.size w w':=by
 obtain ⟨j0,hj',hy0,hy1,hy2⟩:=info_parts Tryz.infoA
 have hb:n*j0.bytes≤140737488355328:=by rw [hy2];exact hn
 have HB:=Lib.hid hb
 have HS:Hid (0<j0.size):=Lib.hid (by rw [hy1];omega)
 clear hb
 have hnl:n≤2932031007402:=by omega
 by_cases h0:0<n
 ·have hcg:=grownCap_ge w n 0 31
  have hcm:=grownCap_le_maxLen w n 0 31 (by unfold maxLen;omega)
  have hO:=own_made w 31 5 n (grownCap w n 0 31) 0 (.agg zA.cells.toArray) rfl hcg hcm
  have hBl:=((Below.refl w.heap.size w).drew).alloc (Nat.le_refl _) (.cells (Builtin.zeroCells (Value.agg zA.cells.toArray).cells n++Builtin.zeroCells (Value.agg zA.cells.toArray).cells (grownCap w n 0 31 - n)) 31)
  have HO:=Lib.hid hO
  have HBl:=Lib.hid hBl
  clear hO hBl
  go_enter Tryz.func67,Tryz.ntmps67
  go_wp2_with (at_builtin;refine wpList_make _ rfl _ _ _ _ rfl 31 .i64 j0 (.agg zA.cells.toArray) Tryz.underlying27 Tryz.underlying3 hj' hy0 n rfl rfl h0 HS.out (by omega) HB.out ?_)
  go_ret
  exact ⟨_,rfl,HO.out,HBl.out⟩
 ·have:n=0:=by omega
  subst this
  go_enter Tryz.func67,Tryz.ntmps67
  go_wp2_with fail
  go_ret
  exact ⟨_,rfl,OwM.nil _ _ _ _,Below.refl _ _⟩
structure ARow where
 A:Option Addr
 c:Nat
 l:List Ad
def ARow.v (r:ARow):Value:=.slice r.A r.l.length r.c
def flatA (rows:List ARow):List Ad:=rows.flatMap ARow.l
def RsA (w:World) (B:Nat) (A:Option Addr) (n:Nat) (rows:List ARow):Prop:=Rd w B A n (rows.map ARow.v)∧rows.length=n∧∀ r∈rows,AsRd w B r.A r.c r.l.length r.l
theorem flatA_snoc (rows:List ARow) (r:ARow):flatA (rows++[r])=flatA rows++r.l:=by simp [flatA]
theorem flatA_take (rows:List ARow) (k:Nat):(flatA (rows.take k)).length≤(flatA rows).length:=by
 have:flatA rows=flatA (rows.take k)++flatA (rows.drop k):=by simp only [flatA];rw [←List.flatMap_append,List.take_append_drop]
 rw [this,List.length_append];omega
set_option maxRecDepth 100000 in
set_option maxHeartbeats 2000000 in
theorem concat_at (A:Option Addr) (c n:Nat) (rows:List ARow) (w:World) (h:RsA w w.heap.size A n rows) (hs:(flatA rows).length*48≤140737488355328) (hn:n≤140737488355328) :
 Calls Tryz.prog 28 #[.slice A n c] w fun e w'=>∃ v,e = .returned v∧OwM w' w.heap.size 31 5 v (flatA rows).length (acs (flatA rows))∧Below w.heap.size w w':=by
 obtain ⟨j0,hj',hy0,hy1,hy2⟩:=info_parts Tryz.infoA
 have H:=Lib.hid h
 have HL:=Lib.hid h.2.1
 have HS:=Lib.hid hs
 have hF:(flatA rows).length≤2932031007402:=by omega
 clear h hs
 have hcell:∀ (W:World),Below w.heap.size w W→∀ k (hk:k<n),∃ b o,A=some ⟨b,o,none⟩∧W.cell? ⟨b,o+k,none⟩=some (rows[k]'(by rw [HL.out];exact hk)).v:=by
  intro W hW k hk
  obtain ⟨b,o,hA,hb,hc⟩:=(H.out.1.below hW).at_ hk
  refine ⟨b,o,hA,hc k _ ?_⟩
  rw [List.getElem?_map,List.getElem?_eq_getElem (by rw [HL.out];exact hk)];rfl
 have HC:=Lib.hid hcell
 clear hcell
 have hft:∀ k (hk:k<n),flatA (rows.take (k+1))=flatA (rows.take k)++(rows[k]'(by rw [HL.out];exact hk)).l:=by
  intro k hk
  rw [List.take_succ_eq_append_getElem (by rw [HL.out];exact hk),flatA_snoc]
 have HFT:=Lib.hid hft
 clear hft
 go_enter Tryz.func28,Tryz.ntmps28
 go_wp2_with fail
 go_loop [3,11] (fun v3 vk=>∃ k m:Nat,k≤n∧m≤2932031007402∧vk = .int .i64 k∧v3 = .int .i64 m∧Hid (m=(flatA (rows.take k)).length)) (fun _ vk=>n - (intOf vk).toNat)
 case atStart=>exact ⟨0,0,Nat.zero_le _,Nat.zero_le _,rfl,rfl,Lib.hid rfl⟩
 case round=>
  obtain ⟨k,m,hk,hm,rfl,rfl,HM⟩:=hrel
  rcases Nat.lt_or_ge k n with hlt | hge
  ·obtain ⟨b,o,rfl,hc⟩:=HC.out w (Below.refl _ _) k hlt
   have hfk:=HFT.out k hlt
   have hle:=flatA_take rows (k+1)
   obtain ⟨x,hx⟩:∃ x,x=rows[k]'(by rw [HL.out];exact hlt):=⟨_,rfl⟩
   rw [←hx] at hc hfk
   have hmx:m+x.l.length≤2932031007402:=by
    rw [hfk,List.length_append,←HM.out] at hle;omega
   have HFK:=Lib.hid hfk
   clear hx hfk hle
   obtain ⟨xA,xc,xl⟩:=x
   unfold ARow.v at hc
   dsimp only at hc hmx
   have hng:¬ ((m:Int)+(xl.length:Int)<0):=by omega
   go_wp2_with fail
   go_round
   case rel=>exact ⟨k+1,m+xl.length,by omega,hmx,by go_num,by go_num,Lib.hid (by rw [HFK.out,List.length_append,←HM.out])⟩
   case measure=>simp [intOf];omega
  ·obtain rfl:n=k:=by omega
   have hm2:m=(flatA rows).length:=by rw [HM.out,List.take_of_length_le (by rw [HL.out];exact Nat.le_refl _)]
   have HM2:=Lib.hid hm2
   have hg48:m*48≤140737488355328:=by rw [hm2];exact HS.out
   clear hm2
   go_wp2_with (go_at_call 67
                refine (grow_at m _ hg48).mono ?_
                rintro e w1 ⟨v1,rfl,ho1,hb1⟩
                have HO1:=Lib.hid ho1
                have HB1:=Lib.hid hb1
                clear ho1 hb1)
   go_loopw [6,27] (fun v6 vk wr=>∃ k:Nat,k≤n∧vk = .int .i64 k∧Hid (OwM wr w.heap.size 31 5 v6 (flatA (rows.take k)).length (acs (flatA (rows.take k))))∧Hid (Below w.heap.size w wr)) (fun _ vk _=>n - (intOf vk).toNat)
   case atStart=>exact ⟨0,Nat.zero_le _,rfl,Lib.hid HO1.out,HB1⟩
   case round=>
    obtain ⟨k,hk,rfl,HO,HB⟩:=hrel
    rcases Nat.lt_or_ge k n with hlt | hge
    ·obtain ⟨b,o,rfl,hc⟩:=HC.out wr HB.out k hlt
     have hfk:=HFT.out k hlt
     have hle:=flatA_take rows (k+1)
     have hsrc:=(H.out.2.2 _ (List.getElem_mem (show k<rows.length by rw [HL.out];exact hlt))).1.below HB.out
     obtain ⟨x,hx⟩:∃ x,x=rows[k]'(by rw [HL.out];exact hlt):=⟨_,rfl⟩
     rw [←hx] at hc hfk hsrc
     obtain ⟨q,hq⟩:∃ q,q=flatA (rows.take k):=⟨_,rfl⟩
     rw [←hq] at hfk HO
     rw [hfk,List.length_append] at hle
     have HFK:=Lib.hid hfk
     clear hx hfk hq
     obtain ⟨xA,xc,xl⟩:=x
     unfold ARow.v at hc
     dsimp only at hc hle hsrc
     have hsr:=Lib.hid (hsrc.srcM (P:=Tryz.prog) (c:=xc) (tx:=27) Tryz.underlying27 (acs_one _))
     obtain ⟨Ar,cr,rfl,_,_,_⟩:=HO.out.form
     have hsz:=HB.out.size
     clear hsrc
     go_wp2_with (at_builtin
                  refine wpList_appM _ rfl _ _ _ _ rfl w.heap.size 5 31 j0 (.agg zA.cells.toArray) 48 Tryz.underlying27 hj' hy0 hy1 hy2 rfl (by omega) (.slice Ar q.length cr) q.length (acs q) HO.out rfl xl.length (acs xl) hsr.out (by omega) hsz ?_
                  intro v4 w4 ho4 hg4 hz4
                  have HO4:=Lib.hid ho4
                  clear ho4)
     go_roundw
     case rel=>
      refine ⟨k+1,by omega,by go_num,Lib.hid ?_,Lib.hid (HB.out.trans (hg4.below (OwM.lt HO.out) hsz))⟩
      rw [HFK.out,List.length_append,acs_app];exact HO4.out
     case measure=>simp [intOf];omega
    ·obtain rfl:n=k:=by omega
     have ho:=HO.out
     rw [List.take_of_length_le (by rw [HL.out];exact Nat.le_refl _)] at ho
     have HOE:=Lib.hid ho
     clear ho HO
     go_wp2_with fail
     go_ret
     exact ⟨_,rfl,HOE.out,HB.out⟩
end Go.Proofs.YtlipmlbijddopaaGreatDoor
set_option linter.unusedVariables false
set_option linter.unusedSimpArgs false
namespace Go.Proofs.YtlipmlbijddopaaGreatDoor
open Go.RowKit
theorem flatK_acs (l:List Ad):Sort.flatK Ad.cells 5 l.toArray=(acs l).toArray:=by
 apply Array.ext
 ·simp [acs_length]
 ·intro t h1 h2
  have ht:t<l.length*5:=by simpa [acs_length] using h2
  have hk:t / 5<l.length:=by omega
  have hg:=acs_get l (t / 5) (t % 5) hk (by omega)
  rw [show t / 5*5+t % 5=t by omega] at hg
  have h3:=Sort.get_flatK Ad.cells 5 l.toArray t (by simpa using ht)
  rw [getElem!_pos _ t h1] at h3
  rw [h3]
  have h4:(acs l)[t]? = some ((acs l).toArray[t]):=by simp
  rw [hg] at h4
  have h5:l.toArray[t / 5]! = l[t / 5]:=by simp [hk]
  rw [h5]
  have h6:t % 5<l[t / 5].cells.length:=by rw [Ad.cells_length];omega
  rw [getElem!_pos l[t / 5].cells (t % 5) h6]
  rw [List.getElem?_eq_getElem h6] at h4
  exact Option.some.inj h4
theorem holds_blk {w:World} {g:Nat} {cur:Array Value} {e:TypeId} {xs:List Value} (hb:w.heap[g]? = some (.cells cur e (0,0))) (ht:cur.toList.take xs.length=xs):Sort.Holds id w g 0 xs.toArray:=by
 intro j hj
 have hj':j<xs.length:=by simpa using hj
 refine ⟨?_,by simp [World.frozen?,hb]⟩
 have h1:(cur.toList.take xs.length)[j]? = xs[j]?:=by rw [ht]
 rw [List.getElem?_take_of_lt hj'] at h1
 simp only [World.cell?,hb,Nat.zero_add]
 simp only [Option.isSome_none,Bool.false_eq_true,if_false]
 rw [←Array.getElem?_toList,h1]
 simp [hj']
theorem heap_put {w:World} {g n:Nat} {os:Array Obj} {cur:Array Value} {e:TypeId} {fr:Nat × Nat} (d:Array Value) (hb:w.heap[g]? = some (.cells cur e fr)) :
 (Sort.grow (Sort.putRow id (Sort.ahead w n) g 0 d) os).heap[g]? = some (.cells (Sort.putCells id 0 d cur) e fr):=by
 have hg:g<w.heap.size:=(Array.getElem?_eq_some_iff.1 hb).1
 rw [Sort.heap_grow_old _ _ (by simpa using hg)]
 simp [Sort.putRow,Sort.mapBlock,Sort.ahead,Array.getElem?_modify,hb,Sort.onCells]
theorem below_put {w:World} {B g n:Nat} {os:Array Obj} (d:Array Value) (hg:B≤g) (hgl:g<w.heap.size):Below B w (Sort.grow (Sort.putRow id (Sort.ahead w n) g 0 d) os):=by
 refine ⟨rfl,rfl,rfl,by simp,fun k hk=>?_⟩
 rcases Nat.lt_or_ge k w.heap.size with h1 | h1
 ·rw [Sort.heap_grow_old _ _ (by simpa using h1)]
  have:g≠k:=by omega
  simp [Sort.putRow,Sort.mapBlock,Sort.ahead,Array.getElem?_modify,this]
 ·omega
theorem take_put (cur:Array Value) (ts:List Value) (h:ts.length≤cur.size):(Sort.putCells id 0 ts.toArray cur).toList.take ts.length=ts:=by
 apply List.ext_getElem?
 intro j
 by_cases hj:j<ts.length
 ·rw [List.getElem?_take_of_lt hj,Array.getElem?_toList]
  simp [Sort.putCells,hj,show j<cur.size by omega]
 ·rw [List.getElem?_take_eq_none (by omega),List.getElem?_eq_none (by omega)]
theorem aggA (w:World):(isAgg 31).run Tryz.prog w = .ok true w:=by kernel_rfl
theorem szA (w:World):(Go.sizeOf 31).run Tryz.prog w = .ok 5 w:=by kernel_rfl
theorem sortf_at (B:Nat) (v:Value) (n:Nat) (l:List Ad) (w:World) (h:OwM w B 31 5 v n (acs l)) (hl:l.length=n) (hn:n≤2932031007317) :
 Calls Tryz.prog 82 #[v,.func (.func 83) #[] #[]] w fun e w'=>e = .returned (.tuple #[])∧OwM w' B 31 5 v n (acs (Srv.sortA l))∧Below B w w':=by
 rcases Nat.eq_zero_or_pos n with h0 | h0
 ·subst h0
  have hl0:l=[]:=List.eq_nil_of_length_eq_zero hl
  subst hl0
  obtain ⟨A,c,rfl,_⟩:=h.form
  have hcon:=AnyF.slices_SortFunc_none { Tryz.sortL with } A c (.func (.func 83) #[] #[]) w
  change Calls Tryz.prog 82 _ _ _ at hcon
  refine hcon.mono ?_
  rintro e w' ⟨rfl,rfl⟩
  exact ⟨rfl,by rw [show Srv.sortA []=[] from List.mergeSort_nil];exact h,Below.refl _ _⟩
 ·have h':=h
  rcases h.2 with ⟨_,hz⟩ | ⟨g,cap,cur,rfl,hbg,hg,hnc,hcm,hcs,htake⟩
  ·omega
  ·subst hl
   rw [←acs_length] at htake
   have hH:Sort.HoldsK Ad.cells 5 w g 0 l.toArray:=by
    unfold Sort.HoldsK
    rw [flatK_acs]
    exact holds_blk hg htake
   have hgl:=kp_lt hg
   have eg:∀ args w,(callFunc 83 args).run Tryz.prog w = .ok (.enter 83 args) w:=enters_of Tryz.func83 (by kernel_rfl) rfl
   have hcon:=AnyQ.slices_SortFunc_total Tryz.sortL 5 aggA szA Ad.cells Ad.cells_length acells_one Srv.cmpA Srv.swo_A 83 #[] g 0 cap l.toArray w eg (fun m os dk _ x y=>order_at x y _) hH hgl (by simpa using (by omega:l.length<4611686018427387904)) Srv.anti_A
   change Calls Tryz.prog 82 #[.slice (some ⟨g,0,none⟩) l.length cap,.func (.func 83) #[] #[]] _ _ at hcon
   refine hcon.mono ?_
   rintro e w' ⟨rfl,m,os,rfl⟩
   have e1:(l.toArray.toList.mergeSort fun x y=>!ltOf Srv.cmpA y x)=Srv.sortA l:=rfl
   rw [e1]
   have hsl:(Srv.sortA l).length=l.length:=(Srv.sortA_perm l).length_eq
   unfold sortWorldK Sort.putRowK
   rw [flatK_acs]
   refine ⟨rfl,⟨by rw [acs_length,hsl],.inr ⟨g,cap,_,rfl,hbg,heap_put _ hg,hnc,hcm,by simp [Sort.putCells,hcs],?_⟩⟩,below_put _ hbg hgl⟩
   have e2:l.length*5=(acs (Srv.sortA l)).length:=by rw [acs_length,hsl]
   rw [e2]
   exact take_put cur _ (by rw [←e2,hcs];exact Nat.mul_le_mul_right _ hnc)
theorem below_grow {B:Nat} (w:World) (q:Nat) (os:Array Obj) (hB:B≤w.heap.size):Below B w (Sort.grow (w.drewN q) os):=by
 refine ⟨rfl,rfl,rfl,by simp,fun k hk=>?_⟩
 rw [Sort.heap_grow_old _ _ (by show k<w.heap.size;omega)]
 rfl
set_option maxRecDepth 100000 in
set_option maxHeartbeats 400000 in
theorem placeG_at (x:Ad) (w:World):Calls Tryz.prog 85 #[.agg x.cells.toArray] w fun e w'=>e = .returned (.agg #[strV x.h,.int .i64 x.po])∧∃ q os,w'=Sort.grow (w.drewN q) os:=by
 obtain ⟨h,po,pr,we,ttl⟩:=x
 unfold Ad.cells strV
 dsimp only
 go_enter Tryz.func85,Tryz.ntmps85
 go_wp2
 exact bodyPost_ret (v:=.agg #[.string ⟨h.toArray⟩,.int .i64 po]) (by simp [results,Tryz.results85,go_sem]) rfl ⟨rfl,0,#[_,_],by rw [Sort.alloc_eq_grow,Sort.alloc_eq_grow,Sort.grow_grow];rfl⟩
set_option maxRecDepth 100000 in
set_option maxHeartbeats 1000000 in
theorem same1_at (g:Nat) (a x:Ad) (w:World) (hg:Vx w g 31 a.cells) :
 Calls Tryz.prog 84 #[.agg x.cells.toArray,.pointer (some ⟨g,0,none⟩)] w fun e w'=>e = .returned (.bool (Srv.plA a x))∧Below w.heap.size w w':=by
 have hgl:=hg.lt
 obtain ⟨r,hr⟩:∃ r,r=Srv.plA a x:=⟨_,rfl⟩
 rw [←hr]
 have HR:=Lib.hid hr
 have HP:=Lib.hid (placeG_at x)
 have HQ:=Lib.hid (placeG_at a)
 obtain ⟨h,po,pr,we,ttl⟩:=x
 obtain ⟨h',po',pr',we',ttl'⟩:=a
 unfold Ad.cells strV at hg HP HQ ⊢
 dsimp only at hg HP HQ ⊢
 have hbx:=Vx.new w 31 [.string ⟨h.toArray⟩,.int .i64 po,.int .i64 pr,.int .i64 we,.int .u32 (ttl:Int)]
 have hgx:=hg.alloc (.cells #[.string ⟨h.toArray⟩,.int .i64 po,.int .i64 pr,.int .i64 we,.int .u32 (ttl:Int)] 31)
 have hbl:=bl_new w (.cells #[.string ⟨h.toArray⟩,.int .i64 po,.int .i64 pr,.int .i64 we,.int .u32 (ttl:Int)] 31)
 have HBX:=Lib.hid hbx
 have HGX:=Lib.hid hgx
 have HBL:=Lib.hid hbl
 clear hr hg hbx hgx hbl
 go_enter Tryz.func84,Tryz.ntmps84
 go_wp2_with fail
 obtain ⟨G,hG⟩:∃ G,G=w.heap.size:=⟨_,rfl⟩
 rw [←hG] at HBX ⊢
 clear hG
 generalize w.alloc (.cells #[.string ⟨h.toArray⟩,.int .i64 po,.int .i64 pr,.int .i64 we,.int .u32 (ttl:Int)] 31)=W1 at HBX HGX HBL ⊢
 obtain ⟨c0,c1,c2,c3,c4⟩:=HGX.out.c5
 obtain ⟨b0,b1,b2,b3,b4⟩:=HBX.out.c5
 have hg1:=HGX.out.lt
 have hb1:=HBX.out.lt
 have c0':=fun n os=>cell_grown (w:=W1) hg1 c0 n os
 have c1':=fun n os=>cell_grown (w:=W1) hg1 c1 n os
 have c2':=fun n os=>cell_grown (w:=W1) hg1 c2 n os
 have c3':=fun n os=>cell_grown (w:=W1) hg1 c3 n os
 have c4':=fun n os=>cell_grown (w:=W1) hg1 c4 n os
 have b0':=fun n os=>cell_grown (w:=W1) hb1 b0 n os
 have b1':=fun n os=>cell_grown (w:=W1) hb1 b1 n os
 have b2':=fun n os=>cell_grown (w:=W1) hb1 b2 n os
 have b3':=fun n os=>cell_grown (w:=W1) hb1 b3 n os
 have b4':=fun n os=>cell_grown (w:=W1) hb1 b4 n os
 clear c0 c1 c2 c3 c4 b0 b1 b2 b3 b4
 have mixed:Tryz.prog.follows .mixedOrders=true:=by kernel_rfl
 refine wp_region_quiet_grown mixed (by kernel_rfl) ?_
 repeat (quiet_step ((go_at_call 85;first | exact Calls.grown_of (HP.out _) | exact Calls.grown_of (HQ.out _))))
 refine wpQuiet_step (fun K hK=>?_)
 go_simp
 refine ⟨.bool r,fun gb=>?_,hK _ ?_⟩
 ·have hr:=HR.out
  unfold Srv.plA at hr
  dsimp only at hr
  rw [hr]
  by_cases h1:h'=h
  ·by_cases h2:po'=po <;> simp [h1,h2]
  ·simp [h1]
 clear hK K
 quiet_step (fail)
 refine wpQuiet_nil ?_
 intro _ hw'
 obtain ⟨⟨nq,osq⟩,hw''⟩:=hw'
 subst hw''
 dsimp only
 go_wp2_with fail
 go_ret
 exact ⟨rfl,HBL.out.trans (below_grow _ _ _ HBL.out.size)⟩
set_option maxHeartbeats 400000 in
theorem idx0_at (A:Option Addr) (c:Nat) (fv:Value) (w:World):Calls Tryz.prog 45 #[.slice A 0 c,fv] w fun e w'=>e = .returned (.int .i64 (-1))∧w=w':=by
 go_enter Tryz.func45,Tryz.ntmps45
 go_wp2
 refine wp_loop_rounds 1 ?_
 rw [rounds_succ]
 go_wp2
 go_ret
 exact ⟨rfl,rfl⟩
set_option maxHeartbeats 400000 in
theorem has0_at (A:Option Addr) (c:Nat) (fv:Value) (w:World):Calls Tryz.prog 16 #[.slice A 0 c,fv] w fun e w'=>e = .returned (.bool false)∧w=w':=by
 go_enter Tryz.func16,Tryz.ntmps16
 go_wp2_with (go_at_call 45;refine (idx0_at A c _ _).mono ?_;rintro e w' ⟨rfl,rfl⟩)
 go_ret
 exact ⟨rfl,rfl⟩
theorem has_at (p:Ad→Bool) (fg:Nat) (lb:Array Value) (eg:∀ args w,(callFunc fg args).run Tryz.prog w = .ok (.enter fg args) w) (A:Option Addr) (c n:Nat) (l:List Ad) (w:World)
 (hp:PredBelow Tryz.prog fg lb (fun x:Ad=>.agg x.cells.toArray) p w) (h:AsRd w w.heap.size A c n l) :
 Calls Tryz.prog 16 #[.slice A n c,.func (.func fg) #[] lb] w fun e w'=>e = .returned (.bool (l.any p))∧Below w.heap.size w w':=by
 rcases Nat.eq_zero_or_pos n with h0 | h0
 ·subst h0
  have hl0:l=[]:=List.eq_nil_of_length_eq_zero h.2.1
  subst hl0
  refine (has0_at A c _ w).mono ?_
  rintro e w' ⟨rfl,rfl⟩
  exact ⟨rfl,Below.refl _ _⟩
 ·obtain ⟨b,o,rfl,hb,hc⟩:=h.base h0
  have hn:=h.2.2.2.1
  have hcon:=AnyQ.slices_ContainsFunc Tryz.containsL 5 aggA szA Ad.cells Ad.cells_length p fg lb eg b o n c l w hp (by rw [h.2.1];exact Nat.le_refl _) (by omega) hb (fun j hj i v hv=>by
   have hk:=hc j hj
   rw [getElem!_pos l j hj] at hv
   exact hk i v hv)
  change Calls Tryz.prog 16 _ _ _ at hcon
  rw [List.take_of_length_le (by rw [h.2.1];exact Nat.le_refl _)] at hcon
  exact hcon
theorem same1_any (g:Nat) (a:Ad) (A:Option Addr) (c n:Nat) (l:List Ad) (w:World) (hg:Vx w g 31 a.cells) (h:AsRd w w.heap.size A c n l) :
 Calls Tryz.prog 16 #[.slice A n c,.func (.func 84) #[] #[.pointer (some ⟨g,0,none⟩)]] w fun e w'=>e = .returned (.bool (l.any (fun b=>Srv.plA a b)))∧Below w.heap.size w w':=by
 have eg:∀ args w,(callFunc 84 args).run Tryz.prog w = .ok (.enter 84 args) w:=enters_of Tryz.func84 (by kernel_rfl) rfl
 refine has_at (fun b=>Srv.plA a b) 84 #[.pointer (some ⟨g,0,none⟩)] eg A c n l w (fun W x hb=>?_) h
 refine (same1_at g a x W (hg.below hb hg.lt)).mono ?_
 rintro e w' ⟨rfl,hb'⟩
 exact ⟨rfl,hb.trans (hb'.mono hb.size)⟩
end Go.Proofs.YtlipmlbijddopaaGreatDoor
