/-
  OrderP; TextP; SrvP; RefPP
-/
import Derived.Test.YtlipmlbijddopaaGreatDoorZ09
import Derived.Test.YtlipmlbijddopaaGreatDoorZ08
import Derived.Test.YtlipmlbijddopaaGreatDoorZ02
import Derived.Shelf.SlSortCmp.Insertion
import Derived.Sort.LotA
set_option linter.unusedVariables false
set_option linter.unusedSimpArgs false
namespace Go.Proofs.YtlipmlbijddopaaGreatDoor
open Go.RowKit
namespace Ord
theorem cb_cons (x y:UInt8) (a b:List UInt8):Lib.compareBytes (x :: a) (y :: b)=if x<y then -1 else if y<x then 1 else Lib.compareBytes a b:=rfl
theorem cb_range:∀ a b:List UInt8,Lib.compareBytes a b = -1∨Lib.compareBytes a b=0∨Lib.compareBytes a b=1
 | [],[]=>.inr (.inl rfl)
 | [],_ :: _=>.inl rfl
 | _ :: _,[]=>.inr (.inr rfl)
 | x :: a,y :: b=>by
   rw [cb_cons]
   split
   ·exact .inl rfl
   ·split
    ·exact .inr (.inr rfl)
    ·exact cb_range a b
theorem cb_neg:∀ a b:List UInt8,Lib.compareBytes b a = -Lib.compareBytes a b
 | [],[]=>rfl
 | [],_ :: _=>rfl
 | _ :: _,[]=>rfl
 | x :: a,y :: b=>by
   rw [cb_cons,cb_cons]
   by_cases h1:x<y
   ·rw [if_pos h1,if_neg (fun h=>by have h3:=UInt8.lt_iff_toNat_lt.1 h1;have h4:=UInt8.lt_iff_toNat_lt.1 h;omega),if_pos h1];rfl
   ·by_cases h2:y<x
    ·rw [if_pos h2,if_neg h1,if_pos h2]
    ·rw [if_neg h1,if_neg h2,if_neg h2,if_neg h1,cb_neg a b]
theorem cb_eq:∀ a b:List UInt8,Lib.compareBytes a b=0→a=b
 | [],[],_=>rfl
 | [],_ :: _,h=>by cases h
 | _ :: _,[],h=>by cases h
 | x :: a,y :: b,h=>by
   rw [cb_cons] at h
   by_cases h1:x<y
   ·rw [if_pos h1] at h;cases h
   ·by_cases h2:y<x
    ·rw [if_neg h1,if_pos h2] at h;cases h
    ·rw [if_neg h1,if_neg h2] at h
     have e:x=y:=UInt8.toNat_inj.1 (by
      have h3:=mt UInt8.lt_iff_toNat_lt.2 h1
      have h4:=mt UInt8.lt_iff_toNat_lt.2 h2
      omega)
     rw [e,cb_eq a b h]
theorem cb_self:∀ a:List UInt8,Lib.compareBytes a a=0
 | []=>rfl
 | x :: a=>by
   rw [cb_cons,if_neg (fun h=>by have:=UInt8.lt_iff_toNat_lt.1 h;omega),if_neg (fun h=>by have:=UInt8.lt_iff_toNat_lt.1 h;omega),cb_self a]
theorem cb_trans:∀ a b c:List UInt8,Lib.compareBytes a b≤0→Lib.compareBytes b c≤0→Lib.compareBytes a c≤0∧(Lib.compareBytes a c=0→Lib.compareBytes a b=0∧Lib.compareBytes b c=0)
 | [],[],[],_,_=>⟨by decide,fun _=>⟨rfl,rfl⟩⟩
 | [],[],_ :: _,_,_=>⟨(by first | exact (show (-1:Int)≤0 by decide) | decide),fun h=>by cases h⟩
 | [],_ :: _,[],_,h=>by exact absurd (show (1:Int)≤0 from h) (by decide)
 | [],_ :: _,_ :: _,_,_=>⟨(by first | exact (show (-1:Int)≤0 by decide) | decide),fun h=>by cases h⟩
 | _ :: _,[],_,h,_=>by exact absurd (show (1:Int)≤0 from h) (by decide)
 | _ :: _,_ :: _,[],_,h=>by exact absurd (show (1:Int)≤0 from h) (by decide)
 | x :: a,y :: b,z :: c,h1,h2=>by
   rw [cb_cons] at h1 h2
   rw [cb_cons,cb_cons,cb_cons]
   by_cases xy:x<y
   ·have xy':=UInt8.lt_iff_toNat_lt.1 xy
    by_cases yz:y<z
    ·have yz':=UInt8.lt_iff_toNat_lt.1 yz
     rw [if_pos (UInt8.lt_iff_toNat_lt.2 (by omega):x<z)]
     exact ⟨(by first | exact (show (-1:Int)≤0 by decide) | decide),fun h=>by cases h⟩
    ·by_cases zy:z<y
     ·rw [if_neg yz,if_pos zy] at h2;exact absurd h2 (by decide)
     ·have h3:=mt UInt8.lt_iff_toNat_lt.2 yz
      have h4:=mt UInt8.lt_iff_toNat_lt.2 zy
      rw [if_pos (UInt8.lt_iff_toNat_lt.2 (by omega):x<z)]
      exact ⟨(by first | exact (show (-1:Int)≤0 by decide) | decide),fun h=>by cases h⟩
   ·by_cases yx:y<x
    ·rw [if_neg xy,if_pos yx] at h1;exact absurd h1 (by decide)
    ·have e:x=y:=UInt8.toNat_inj.1 (by
      have h3:=mt UInt8.lt_iff_toNat_lt.2 xy
      have h4:=mt UInt8.lt_iff_toNat_lt.2 yx
      omega)
     subst e
     rw [if_neg xy,if_neg xy] at h1
     rw [if_neg xy,if_neg xy]
     by_cases yz:x<z
     ·rw [if_pos yz]
      exact ⟨(by first | exact (show (-1:Int)≤0 by decide) | decide),fun h=>by cases h⟩
     ·by_cases zy:z<x
      ·rw [if_neg yz,if_pos zy] at h2;exact absurd h2 (by decide)
      ·simp only [if_neg yz,if_neg zy] at h2 ⊢
       exact cb_trans a b c h1 h2
end Ord
end Go.Proofs.YtlipmlbijddopaaGreatDoor
set_option linter.unusedVariables false
set_option linter.unusedSimpArgs false
namespace Go.Proofs.YtlipmlbijddopaaGreatDoor
open Go.RowKit
theorem u8_eq {c d:UInt8}:c=d ↔ c.toNat=d.toNat:=UInt8.toNat_inj.symm
theorem dig1 (x:UInt8):(48+x / 100:UInt8).toNat=48+x.toNat / 100:=by have:=UInt8.toNat_lt x;simp [UInt8.toNat_add];omega
theorem dig2 (x:UInt8):(48+x / 10 % 10:UInt8).toNat=48+x.toNat / 10 % 10:=by have:=UInt8.toNat_lt x;simp [UInt8.toNat_add];omega
theorem dig3 (x:UInt8):(48+x % 10:UInt8).toNat=48+x.toNat % 10:=by have:=UInt8.toNat_lt x;simp [UInt8.toNat_add];omega
theorem sub48 (d:UInt8) (h:48≤d.toNat):(d - 48).toNat=d.toNat - 48:=by
 have:=UInt8.toNat_lt d
 rw [UInt8.toNat_sub];simp;omega
theorem num3_esc (x:UInt8):num3 (48+x / 100) (48+x / 10 % 10) (48+x % 10)=x:=by
 have hx:=UInt8.toNat_lt x
 have h1:=dig1 x
 have h2:=dig2 x
 have h3:=dig3 x
 have e1:(48+x / 100 - 48:UInt8).toNat=x.toNat / 100:=by rw [sub48 _ (by omega),h1];omega
 have e2:(48+x / 10 % 10 - 48:UInt8).toNat=x.toNat / 10 % 10:=by rw [sub48 _ (by omega),h2];omega
 have e3:(48+x % 10 - 48:UInt8).toNat=x.toNat % 10:=by rw [sub48 _ (by omega),h3];omega
 unfold num3
 rw [e1,e2,e3,u8_eq,UInt8.toNat_ofNat']
 clear e1 e2 e3 h1 h2 h3
 have h4:x.toNat / 10 / 10=x.toNat / 100:=Nat.div_div_eq_div_mul _ _ _
 have h5:x.toNat / 100*100+x.toNat / 10 % 10*10+x.toNat % 10=x.toNat:=by omega
 rw [h5]
 exact Nat.mod_eq_of_lt hx
theorem escB_cases (x:UInt8):((x.toNat=46∨x.toNat=92)∧escB x=[92,x])∨((32<x.toNat∧x.toNat<127∧x.toNat≠46∧x.toNat≠92)∧escB x=[x])∨(¬ (32<x.toNat∧x.toNat<127)∧escB x=[92,48+x / 100,48+x / 10 % 10,48+x % 10]):=by
 unfold escB
 by_cases h:x.toNat=46∨x.toNat=92
 ·rw [if_pos h];exact .inl ⟨h,rfl⟩
 ·rw [if_neg h]
  by_cases h2:32<x.toNat∧x.toNat<127
  ·rw [if_pos h2];exact .inr (.inl ⟨⟨h2.1,h2.2,by omega,by omega⟩,rfl⟩)
  ·rw [if_neg h2];exact .inr (.inr ⟨h2,rfl⟩)
theorem drop_getD {s r:List UInt8} {i:Nat} {p:List UInt8} (h:s.drop i=p++r) (k:Nat) (hk:k<p.length):s.getD (i+k) 0=p.getD k 0∧i+k<s.length:=by
 have hl:=congrArg List.length h
 rw [List.length_drop,List.length_append] at hl
 refine ⟨?_,by omega⟩
 have e:s.getD (i+k) 0=(s.drop i).getD k 0:=by rw [List.getD_eq_getElem?_getD,List.getD_eq_getElem?_getD,List.getElem?_drop]
 rw [e,h,List.getD_eq_getElem?_getD,List.getD_eq_getElem?_getD,List.getElem?_append_left hk]
theorem pl_escB (s:List UInt8) (x:UInt8) (r:List UInt8) (f i:Nat) (pre:List (List UInt8)) (last:List UInt8) (h:s.drop i=escB x++r) :
 pl s (f+1) i pre last=pl s f (i+(escB x).length) pre (last++[x]):=by
 rw [pl]
 rcases escB_cases x with ⟨hx,e⟩ | ⟨hx,e⟩ | ⟨hx,e⟩ <;> rw [e] at h ⊢
 ·obtain ⟨g0,l0⟩:=drop_getD h 0 (by simp)
  obtain ⟨g1,l1⟩:=drop_getD h 1 (by simp)
  simp only [Nat.add_zero,List.getD_cons_zero,List.getD_cons_succ] at g0 g1 l0
  rw [if_pos l0,g0,if_neg (by decide),if_neg (by decide),g1,if_pos ⟨l1,by rcases hx with hx | hx;exact .inl (u8_eq.2 hx);exact .inr (u8_eq.2 hx)⟩]
  rfl
 ·obtain ⟨g0,l0⟩:=drop_getD h 0 (by simp)
  simp only [Nat.add_zero,List.getD_cons_zero] at g0 l0
  rw [if_pos l0,g0,if_neg (by rw [u8_eq];exact hx.2.2.1),if_pos (by rw [ne_eq,u8_eq];exact hx.2.2.2)]
  rfl
 ·have h1:=dig1 x
  have hxl:=UInt8.toNat_lt x
  obtain ⟨g0,l0⟩:=drop_getD h 0 (by simp)
  obtain ⟨g1,l1⟩:=drop_getD h 1 (by simp)
  obtain ⟨g2,l2⟩:=drop_getD h 2 (by simp)
  obtain ⟨g3,l3⟩:=drop_getD h 3 (by simp)
  simp only [Nat.add_zero,List.getD_cons_zero,List.getD_cons_succ] at g0 g1 g2 g3 l0
  have n1:¬ (48+x / 100:UInt8)=46:=by rw [u8_eq,h1];simp;omega
  have n2:¬ (48+x / 100:UInt8)=92:=by rw [u8_eq,h1];simp;omega
  rw [if_pos l0,g0,if_neg (by decide),if_neg (by decide),g1,if_neg (by rintro ⟨_,h9 | h9⟩;exact n1 h9;exact n2 h9),if_pos l3,g2,g3,num3_esc]
  rfl
theorem pl_escL (s:List UInt8):∀ (l:List UInt8) (r:List UInt8) (f i:Nat) (pre:List (List UInt8)) (last:List UInt8),s.drop i=escL l++r→
 pl s (f+l.length) i pre last=pl s f (i+(escL l).length) pre (last++l):=by
 intro l
 induction l with
 | nil=>intro r f i pre last _;simp [escL]
 | cons x l ih=>
   intro r f i pre last h
   have e:escL (x :: l)=escB x++escL l:=by simp [escL]
   rw [e,List.append_assoc] at h
   rw [show f+(x :: l).length=(f+l.length)+1 by simp;omega,pl_escB s x _ _ _ _ _ h]
   have h2:s.drop (i+(escB x).length)=escL l++r:=by rw [←List.drop_drop,h,List.drop_left' rfl]
   rw [ih r f _ pre (last++[x]) h2,e,List.length_append,List.append_assoc,Nat.add_assoc]
   rfl
theorem pl_end (s:List UInt8) (f i:Nat) (pre:List (List UInt8)) (last:List UInt8) (h:s.length≤i):pl s f i pre last=pre++[last]:=by
 cases f with
 | zero=>rfl
 | succ f=>rw [pl,if_neg (by omega)]
theorem escL_pos (l:List UInt8):l.length≤(escL l).length:=by
 induction l with
 | nil=>simp [escL]
 | cons x l ih=>
   have e:escL (x :: l)=escB x++escL l:=by simp [escL]
   rw [e,List.length_append,List.length_cons]
   have:1≤(escB x).length:=by rcases escB_cases x with ⟨_,e⟩ | ⟨_,e⟩ | ⟨_,e⟩ <;> rw [e] <;> simp
   omega
theorem pl_join (s:List UInt8):∀ (m:List (List UInt8)) (l:List UInt8) (f i:Nat) (pre:List (List UInt8)) (last:List UInt8),s.drop i=escL l++m.flatMap (fun k=>46 :: escL k)→s.length+1≤f+i→
 pl s f i pre last=pre++(last++l) :: m:=by
 intro m
 induction m with
 | nil=>
   intro l f i pre last h hf
   have hl:=congrArg List.length h
   rw [List.length_drop] at hl
   simp only [List.flatMap_nil,List.append_nil] at hl h
   have hp:=escL_pos l
   obtain ⟨f',rfl⟩:∃ f',f=f'+l.length:=⟨f - l.length,by omega⟩
   rw [pl_escL s l [] f' i pre last (by simpa using h),pl_end _ _ _ _ _ (by omega)]
 | cons k m ih=>
   intro l f i pre last h hf
   have hl:=congrArg List.length h
   rw [List.length_drop,List.flatMap_cons,List.length_append,List.length_append,List.length_cons] at hl
   have hp:=escL_pos l
   obtain ⟨f',rfl⟩:∃ f',f=(f'+1)+l.length:=⟨f - l.length - 1,by omega⟩
   rw [pl_escL s l _ (f'+1) i pre last h]
   have h2:s.drop (i+(escL l).length)=[46]++(escL k++m.flatMap (fun k=>46 :: escL k)):=by
    rw [←List.drop_drop,h,List.drop_left' rfl,List.flatMap_cons];simp
   obtain ⟨g0,l0⟩:=drop_getD h2 0 (by simp)
   simp only [Nat.add_zero,List.getD_cons_zero] at g0 l0
   rw [pl,if_pos l0,g0,if_pos rfl]
   have h3:s.drop (i+(escL l).length+1)=escL k++m.flatMap (fun k=>46 :: escL k):=by
    rw [←List.drop_drop,h2];simp
   rw [ih k f' (i+(escL l).length+1) (pre++[last++l]) [] h3 (by omega)]
   simp
theorem pl_text (n:List (List UInt8)) (hn:n≠[]) (f:Nat) (hf:(tjoin n).length+1≤f):pl (tjoin n) f 0 [] []=n:=by
 cases n with
 | nil=>exact absurd rfl hn
 | cons l m=>
   have:=pl_join (tjoin (l :: m)) m l f 0 [] [] (by rw [List.drop_zero];rfl) (by omega)
   simpa using this
theorem smallB_esc (x:UInt8) (h:smallB x=x):smallS (escB x)=escB x:=by
 have hd:∀ d:UInt8,d.toNat<65→smallB d=d:=fun d hd=>smallB_no d (by omega)
 have hxl:=UInt8.toNat_lt x
 rcases escB_cases x with ⟨_,e⟩ | ⟨_,e⟩ | ⟨_,e⟩ <;> rw [e] <;> simp only [smallS,List.map_cons,List.map_nil,h]
 ·rfl
 ·rw [hd (48+x / 100) (by rw [dig1];omega),hd (48+x / 10 % 10) (by rw [dig2];omega),hd (48+x % 10) (by rw [dig3];omega)];rfl
theorem small_escL (l:List UInt8) (h:smallS l=l):smallS (escL l)=escL l:=by
 induction l with
 | nil=>rfl
 | cons x l ih=>
   have e:escL (x :: l)=escB x++escL l:=by simp [escL]
   have h':smallB x=x∧smallS l=l:=by
    simp only [smallS,List.map_cons,List.cons.injEq] at h
    exact h
   rw [e]
   have:=smallB_esc x h'.1
   have i:=ih h'.2
   simp only [smallS,List.map_append] at this i ⊢
   rw [this,i]
theorem small_join (n:List (List UInt8)) (h:n.all okL=true):smallS (tjoin n)=tjoin n:=by
 cases n with
 | nil=>rfl
 | cons l m=>
   simp only [List.all_cons,Bool.and_eq_true] at h
   have hm:∀ m:List (List UInt8),m.all okL=true→smallS (m.flatMap fun k=>46 :: escL k)=m.flatMap fun k=>46 :: escL k:=by
    intro m
    induction m with
    | nil=>intro _;rfl
    | cons k m ih=>
      intro h
      simp only [List.all_cons,Bool.and_eq_true] at h
      have h1:=small_escL k (okL_spec h.1).2.2
      have h2:=ih h.2
      simp only [List.flatMap_cons,smallS,List.map_append,List.map_cons] at h1 h2 ⊢
      rw [h1,h2];rfl
   have h1:=small_escL l (okL_spec h.1).2.2
   have h2:=hm m h.2
   unfold tjoin
   simp only [smallS,List.map_append] at h1 h2 ⊢
   rw [h1,h2]
theorem tjoin_ne_dot (n:List (List UInt8)) (hn:n≠[]) (h:n.all okL=true):tjoin n≠[46]:=by
 cases n with
 | nil=>exact absurd rfl hn
 | cons l m=>
   simp only [List.all_cons,Bool.and_eq_true] at h
   obtain ⟨h1,_,_⟩:=okL_spec h.1
   cases l with
   | nil=>simp at h1
   | cons x l=>
     intro h9
     have e:tjoin ((x :: l) :: m)=escB x++(escL l++m.flatMap fun k=>46 :: escL k):=by simp [tjoin,escL]
     rw [e] at h9
     rcases escB_cases x with ⟨hx,e⟩ | ⟨hx,e⟩ | ⟨hx,e⟩ <;> rw [e] at h9
     ·simp at h9
     ·simp at h9
      have:=hx.2.2.1
      rw [h9.1] at this
      exact this rfl
     ·simp at h9
theorem parse_text (n:List (List UInt8)) (hr:rightN n=true):parseN (textN n)=(n,0):=by
 obtain ⟨h1,_⟩:=rightN_spec hr
 unfold textN
 by_cases hn:n=[]
 ·rw [if_pos hn,hn];rfl
 ·rw [if_neg hn]
  unfold parseN
  have hl:=tjoin_length n
  have hs:=size_right hr
  have hp:=pl_text n hn ((tjoin n).length+1) (Nat.le_refl _)
  rw [small_join n h1,if_neg (tjoin_ne_dot n hn h1),if_neg (by omega),hp,if_pos ⟨hr,by unfold textN;rw [if_neg hn]⟩]
end Go.Proofs.YtlipmlbijddopaaGreatDoor
set_option linter.unusedVariables false
set_option linter.unusedSimpArgs false
namespace Go.Proofs.YtlipmlbijddopaaGreatDoor
open Go.RowKit
structure Ad where
 h:List UInt8
 po:Int
 pr:Int
 we:Int
 ttl:Nat
def zA:Ad:=⟨[],0,0,0,0⟩
instance:Inhabited Ad:=⟨zA⟩
theorem Ad.ext_ {a b:Ad} (h1:a.h=b.h) (h2:a.po=b.po) (h3:a.pr=b.pr) (h4:a.we=b.we) (h5:a.ttl=b.ttl):a=b:=by
 cases a;cases b;simp_all
namespace Srv
def cmpI (a b:Int):Int:=if a<b then -1 else if b<a then 1 else 0
def lexC {α:Type} (c d:α→α→Int) (a b:α):Int:=if c a b=0 then d a b else c a b
def cmpA:Ad→Ad→Int:=
 lexC (fun a b=>cmpI a.pr b.pr) (lexC (fun a b=>cmpI b.we a.we) (lexC (fun a b=>Lib.compareBytes a.h b.h) (lexC (fun a b=>cmpI a.po b.po) (fun a b=>cmpI a.ttl b.ttl))))
structure Tot {α:Type} (c:α→α→Int):Prop where
 neg:∀ a b,c b a = -c a b
 le:∀ a b d,c a b≤0→c b d≤0→c a d≤0
theorem Tot.self {α:Type} {c:α→α→Int} (h:Tot c) (a:α):c a a=0:=by have:=h.neg a a;omega
theorem Tot.lt {α:Type} {c:α→α→Int} (h:Tot c) (a b d:α) (h1:c a b<0) (h2:c b d≤0):c a d<0:=by
 have h3:=h.le a b d (by omega) h2
 rcases Int.lt_or_eq_of_le h3 with h4 | h4
 ·exact h4
 ·have h5:=h.neg a d
  have h6:=h.le b d a h2 (by omega)
  have h7:=h.neg a b
  omega
theorem Tot.lt' {α:Type} {c:α→α→Int} (h:Tot c) (a b d:α) (h1:c a b≤0) (h2:c b d<0):c a d<0:=by
 have h3:=h.le a b d h1 (by omega)
 rcases Int.lt_or_eq_of_le h3 with h4 | h4
 ·exact h4
 ·have h5:=h.neg a d
  have h6:=h.le d a b (by omega) h1
  have h7:=h.neg b d
  omega
theorem tot_I {α:Type} (f:α→Int):Tot (fun a b:α=>cmpI (f a) (f b)) where
 neg a b:=by simp only [cmpI];split <;> split <;> first | omega | (split <;> omega)
 le a b d:=by simp only [cmpI];intro h1 h2;split at h1 <;> split at h2 <;> split <;> (try split at h1) <;> (try split at h2) <;> (try split) <;> omega
theorem tot_rev {α:Type} {c:α→α→Int} (h:Tot c):Tot (fun a b:α=>c b a) where
 neg a b:=h.neg b a
 le a b d h1 h2:=h.le d b a h2 h1
theorem tot_B {α:Type} (f:α→List UInt8):Tot (fun a b:α=>Lib.compareBytes (f a) (f b)) where
 neg a b:=Ord.cb_neg _ _
 le a b d h1 h2:=(Ord.cb_trans _ _ _ h1 h2).1
theorem tot_lex {α:Type} {c d:α→α→Int} (h:Tot c) (k:Tot d):Tot (lexC c d) where
 neg a b:=by
  have h1:=h.neg a b
  have h2:=k.neg a b
  unfold lexC
  by_cases e:c a b=0
  ·rw [if_pos e,if_pos (by omega),h2]
  ·rw [if_neg e,if_neg (by omega),h1]
 le a b e h1 h2:=by
  unfold lexC at h1 h2 ⊢
  by_cases e1:c a b=0
  ·by_cases e2:c b e=0
   ·have h3:=h.le a b e (by omega) (by omega)
    have h4:=h.le e b a (by have:=h.neg b e;omega) (by have:=h.neg a b;omega)
    have h5:=h.neg a e
    rw [if_pos e1] at h1
    rw [if_pos e2] at h2
    rw [if_pos (by omega)]
    exact k.le a b e h1 h2
   ·rw [if_neg e2] at h2
    have h3:=h.lt' a b e (by omega) (by omega)
    rw [if_neg (by omega)];omega
  ·rw [if_neg e1] at h1
   have h4:c b e≤0:=by
    by_cases e2:c b e=0
    ·omega
    ·rw [if_neg e2] at h2;exact h2
   have h3:=h.lt a b e (by omega) h4
   rw [if_neg (by omega)];omega
theorem lex_zero {α:Type} {c d:α→α→Int} {a b:α} (h:lexC c d a b=0):c a b=0∧d a b=0:=by
 unfold lexC at h
 split at h
 ·exact ⟨by assumption,h⟩
 ·exact absurd h (by assumption)
theorem cmpI_zero {a b:Int} (h:cmpI a b=0):a=b:=by
 unfold cmpI at h
 split at h
 ·omega
 ·split at h <;> omega
theorem tot_A:Tot cmpA:=
 tot_lex (tot_I fun a:Ad=>a.pr) (tot_lex (tot_rev (tot_I fun a:Ad=>a.we)) (tot_lex (tot_B fun a:Ad=>a.h) (tot_lex (tot_I fun a:Ad=>a.po) (tot_I fun a:Ad=>(a.ttl:Int)))))
theorem cmpA_zero {a b:Ad} (h:cmpA a b=0):a=b:=by
 obtain ⟨h1,h⟩:=lex_zero h
 obtain ⟨h2,h⟩:=lex_zero h
 obtain ⟨h3,h⟩:=lex_zero h
 obtain ⟨h4,h5⟩:=lex_zero h
 have h5':=cmpI_zero h5
 exact Ad.ext_ (Ord.cb_eq _ _ h3) (cmpI_zero h4) (cmpI_zero h1) (cmpI_zero h2).symm (by omega)
theorem swo_A:Sort.SWO (ltOf cmpA) where
 irrefl x:=by simp [ltOf,tot_A.self]
 trans x y z h1 h2:=by
  simp only [ltOf,decide_eq_true_eq] at h1 h2 ⊢
  exact tot_A.lt x y z h1 (by omega)
 ntrans x y z h1 h2:=by
  simp only [ltOf,decide_eq_false_iff_not] at h1 h2 ⊢
  have h3:=tot_A.neg x y
  have h4:=tot_A.neg y z
  have h5:=tot_A.neg x z
  have h6:=tot_A.le z y x (by omega) (by omega)
  omega
theorem anti_A (x y:Ad) (h1:ltOf cmpA x y=false) (h2:ltOf cmpA y x=false):x=y:=by
 simp only [ltOf,decide_eq_false_iff_not] at h1 h2
 have h3:=tot_A.neg x y
 exact cmpA_zero (by omega)
def leA (a b:Ad):Bool:=!ltOf cmpA b a
theorem leA_iff (a b:Ad):leA a b=true ↔ cmpA a b≤0:=by
 have:=tot_A.neg a b
 simp [leA,ltOf]
 omega
def sortA (l:List Ad):List Ad:=l.mergeSort leA
theorem sortA_perm (l:List Ad):(sortA l).Perm l:=List.mergeSort_perm _ _
theorem sortA_sorted (l:List Ad):(sortA l).Pairwise fun a b=>cmpA a b≤0:=by
 have:=List.pairwise_mergeSort (le:=leA) (fun a b c h1 h2=>(leA_iff a c).2 (tot_A.le a b c ((leA_iff a b).1 h1) ((leA_iff b c).1 h2))) (fun a b=>by
  have:=tot_A.neg a b
  by_cases h:cmpA a b≤0
  ·simp [(leA_iff a b).2 h]
  ·simp [(leA_iff b a).2 (by omega)]) l
 exact this.imp fun {a b} h=>(leA_iff a b).1 h
theorem sorted_eq {l k:List Ad} (hl:l.Pairwise fun a b=>cmpA a b≤0) (hk:k.Pairwise fun a b=>cmpA a b≤0) (hp:l.Perm k):l=k:=
 hp.eq_of_pairwise (le:=fun a b=>cmpA a b≤0) (fun a b _ _ h1 h2=>cmpA_zero (by have:=tot_A.neg a b;omega)) hl hk
def plA (a b:Ad):Bool:=decide (a.h=b.h) && decide (a.po=b.po)
theorem plA_iff (a b:Ad):plA a b=true ↔ a.h=b.h∧a.po=b.po:=by simp [plA]
def onA (out:List Ad) (a:Ad):List Ad:=if out.any (fun b=>plA a b)=true then out else out++[a]
def onceA (l:List Ad):List Ad:=l.foldl onA []
theorem onceA_snoc (l:List Ad) (a:Ad):onceA (l++[a])=onA (onceA l) a:=by simp [onceA]
structure Stays (l out:List Ad):Prop where
 mem:∀ a∈out,a∈l
 ord:out.Pairwise fun a b=>cmpA a b≤0
 one:out.Pairwise fun a b=>plA a b=false
 all:∀ a∈l,∃ b∈out,plA a b=true∧cmpA b a≤0
theorem plA_refl (a:Ad):plA a a=true:=by simp [plA]
theorem plA_symm {a b:Ad} (h:plA a b=true):plA b a=true:=by rw [plA_iff] at *;exact ⟨h.1.symm,h.2.symm⟩
theorem plA_trans {a b c:Ad} (h:plA a b=true) (k:plA b c=true):plA a c=true:=by rw [plA_iff] at *;exact ⟨h.1.trans k.1,h.2.trans k.2⟩
theorem Stays.on {l out:List Ad} (h:Stays l out) (a:Ad) (ha:∀ b∈l,cmpA b a≤0):Stays (l++[a]) (onA out a):=by
 unfold onA
 by_cases ht:out.any (fun b=>plA a b)=true
 ·rw [if_pos ht]
  obtain ⟨b,hb,hab⟩:=List.any_eq_true.1 ht
  refine ⟨fun x hx=>List.mem_append_left _ (h.mem x hx),h.ord,h.one,fun x hx=>?_⟩
  rcases List.mem_append.1 hx with hx | hx
  ·exact h.all x hx
  ·rw [List.mem_singleton] at hx
   subst hx
   exact ⟨b,hb,hab,ha b (h.mem b hb)⟩
 ·rw [if_neg ht]
  have hno:∀ b∈out,plA a b=false:=fun b hb=>by
   cases e:plA a b
   ·rfl
   ·exact absurd (List.any_eq_true.2 ⟨b,hb,e⟩) ht
  refine ⟨fun x hx=>?_,?_,?_,fun x hx=>?_⟩
  ·rcases List.mem_append.1 hx with hx | hx
   ·exact List.mem_append_left _ (h.mem x hx)
   ·exact List.mem_append_right _ hx
  ·rw [List.pairwise_append]
   refine ⟨h.ord,List.pairwise_singleton _ _,fun x hx y hy=>?_⟩
   rw [List.mem_singleton] at hy;subst hy
   exact ha x (h.mem x hx)
  ·rw [List.pairwise_append]
   refine ⟨h.one,List.pairwise_singleton _ _,fun x hx y hy=>?_⟩
   rw [List.mem_singleton] at hy;subst hy
   cases e:plA x y
   ·rfl
   ·have h9:=hno x hx
    rw [plA_symm e] at h9;cases h9
  ·rcases List.mem_append.1 hx with hx | hx
   ·obtain ⟨b,hb,h1,h2⟩:=h.all x hx
    exact ⟨b,List.mem_append_left _ hb,h1,h2⟩
   ·rw [List.mem_singleton] at hx;subst hx
    exact ⟨x,List.mem_append_right _ (List.mem_singleton.2 rfl),plA_refl x,by rw [tot_A.self];exact Int.le_refl _⟩
theorem Stays.nil:Stays [] []:=⟨fun _ h=>h,List.Pairwise.nil,List.Pairwise.nil,fun _ h=>by cases h⟩
theorem once_stays:∀ (n:Nat) (l:List Ad),l.length=n→l.Pairwise (fun a b=>cmpA a b≤0)→Stays l (onceA l)
 | 0,l,hn,_=>by
   have:l=[]:=List.eq_nil_of_length_eq_zero hn
   subst this;exact Stays.nil
 | n+1,l,hn,hp=>by
   obtain ⟨k,a,rfl⟩:∃ k a,l=k++[a]:=⟨l.dropLast,l.getLast (by intro e;subst e;simp at hn),(List.dropLast_concat_getLast _).symm⟩
   rw [List.pairwise_append] at hp
   rw [onceA_snoc]
   exact (once_stays n k (by simpa using hn) hp.1).on a fun b hb=>hp.2.2 b hb a (List.mem_singleton.2 rfl)
theorem Stays.mem_iff {l o:List Ad} (h:Stays l o) (a:Ad):a∈o ↔ a∈l∧∀ b∈l,plA a b=true→cmpA a b≤0:=by
 constructor
 ·intro ha
  refine ⟨h.mem a ha,fun b hb hab=>?_⟩
  obtain ⟨c,hc,hbc,hle⟩:=h.all b hb
  have hac:=plA_trans hab hbc
  have:a=c:=by
   apply Classical.byContradiction
   intro hne
   have h2:∀ x∈o,∀ y∈o,x≠y→plA x y=false:=by
    intro x hx y hy hxy
    have:=h.one
    rw [List.pairwise_iff_getElem] at this
    obtain ⟨i,hi,rfl⟩:=List.getElem_of_mem hx
    obtain ⟨j,hj,rfl⟩:=List.getElem_of_mem hy
    rcases Nat.lt_trichotomy i j with e | e | e
    ·exact this i j hi hj e
    ·subst e;exact absurd rfl hxy
    ·cases e2:plA o[i] o[j]
     ·rfl
     ·have:=this j i hj hi e
      rw [plA_symm e2] at this;cases this
   rw [h2 a ha c hc hne] at hac;cases hac
  subst this
  exact hle
 ·rintro ⟨ha,hall⟩
  obtain ⟨c,hc,hac,hle⟩:=h.all a ha
  have:=hall c (h.mem c hc) hac
  have e:a=c:=cmpA_zero (by have:=tot_A.neg a c;omega)
  rw [e];exact hc
theorem Stays.nodup {l o:List Ad} (h:Stays l o):o.Nodup:=
 h.one.imp fun {a b} hab e=>by subst e;rw [plA_refl] at hab;cases hab
theorem Stays.eq {l k o p:List Ad} (h:Stays l o) (g:Stays k p) (hm:∀ a,a∈l ↔ a∈k):o=p:=by
 refine sorted_eq h.ord g.ord ?_
 rw [List.perm_ext_iff_of_nodup h.nodup g.nodup]
 intro a
 rw [h.mem_iff,g.mem_iff,hm]
 constructor
 ·rintro ⟨h1,h2⟩;exact ⟨h1,fun b hb=>h2 b ((hm b).2 hb)⟩
 ·rintro ⟨h1,h2⟩;exact ⟨h1,fun b hb=>h2 b ((hm b).1 hb)⟩
theorem sortA_stays (l:List Ad):Stays l (onceA (sortA l)):=by
 have h:=once_stays _ (sortA l) rfl (sortA_sorted l)
 have hm:∀ a,a∈sortA l ↔ a∈l:=fun a=>(sortA_perm l).mem_iff
 exact ⟨fun a ha=>(hm a).1 (h.mem a ha),h.ord,h.one,fun a ha=>h.all a ((hm a).2 ha)⟩
def putA (a:Ad):Bool→List Ad→List Ad
 | th,[]=>if th=true then [] else [a]
 | th,x :: l=>
   let pre:=if th=true then [] else if cmpA a x<0 then [a] else []
   let th':=th || decide (cmpA a x<0)
   pre++(if plA x a=true then (if th'=true then putA a th' l else x :: putA a true l) else x :: putA a th' l)
theorem putA_true (a:Ad):∀ l:List Ad,putA a true l=l.filter fun x=>!plA x a
 | []=>rfl
 | x :: l=>by
   rw [putA]
   simp only [if_true,Bool.true_or,List.nil_append,List.filter_cons]
   rw [putA_true a l]
   cases plA x a <;> simp
theorem put_same {a:Ad}:∀ {o:List Ad},o.Pairwise (fun a b=>cmpA a b≤0)→o.Pairwise (fun a b=>plA a b=false)→(∃ y∈o,plA y a=true∧cmpA y a≤0)→putA a false o=o
 | [],_,_,h=>by obtain ⟨y,hy,_⟩:=h;cases hy
 | x :: l,h1,h2,h=>by
   obtain ⟨y,hy,hya,hle⟩:=h
   rw [List.pairwise_cons] at h1 h2
   have hxy:cmpA x a≤0:=by
    rcases List.mem_cons.1 hy with rfl | hy
    ·exact hle
    ·exact tot_A.le x y a (h1.1 y hy) hle
   have hn:¬ cmpA a x<0:=by have:=tot_A.neg x a;omega
   rw [putA]
   simp only [if_neg hn,Bool.false_or,decide_eq_false hn,Bool.false_eq_true,if_false,List.nil_append]
   by_cases hx:plA x a=true
   ·rw [if_pos hx,putA_true]
    congr 1
    rw [List.filter_eq_self]
    intro z hz
    cases e:plA z a
    ·rfl
    ·have h3:=h2.1 z hz
     rw [plA_trans hx (plA_symm e)] at h3;cases h3
   ·rw [if_neg hx]
    congr 1
    refine put_same h1.2 h2.2 ⟨y,?_,hya,hle⟩
    rcases List.mem_cons.1 hy with rfl | hy
    ·exact absurd hya hx
    ·exact hy
theorem put_other {a:Ad}:∀ {o:List Ad},o.Pairwise (fun a b=>cmpA a b≤0)→(∀ y∈o,plA y a=true→cmpA a y<0)→
 putA a false o=(o.filter fun x=>decide (cmpA x a≤0))++a :: (o.filter fun x=>decide (cmpA a x<0) && !plA x a)
 | [],_,_=>rfl
 | x :: l,h1,h=>by
   rw [List.pairwise_cons] at h1
   have hna:=tot_A.neg x a
   rw [putA]
   by_cases hx:cmpA a x<0
   ·have hall:∀ y∈l,cmpA a y<0:=fun y hy=>tot_A.lt a x y hx (h1.1 y hy)
    have e1:(l.filter fun y=>decide (cmpA y a≤0))=[]:=by
     rw [List.filter_eq_nil_iff]
     intro y hy
     have:=hall y hy
     have:=tot_A.neg y a
     simp;omega
    have e2:(l.filter fun y=>decide (cmpA a y<0) && !plA y a)=l.filter fun y=>!plA y a:=by
     apply List.filter_congr
     intro y hy
     simp [hall y hy]
    simp only [if_pos hx,Bool.false_or,decide_eq_true hx,Bool.false_eq_true,if_false,if_true,List.filter_cons,e1,e2,putA_true,Bool.true_and,Bool.not_eq_true',decide_eq_true_eq]
    rw [if_neg (show ¬ cmpA x a≤0 by omega)]
    cases e:plA x a <;> simp
   ·have hp:¬ plA x a=true:=fun e=>hx (h x (List.mem_cons_self ..) e)
    simp only [if_neg hx,Bool.false_or,decide_eq_false hx,Bool.false_eq_true,if_false,if_neg hp,List.nil_append,List.filter_cons,Bool.false_and,decide_eq_true_eq]
    rw [if_pos (show cmpA x a≤0 by omega),put_other h1.2 (fun y hy=>h y (List.mem_cons_of_mem _ hy))]
    rfl
theorem put_stays {l out:List Ad} (h:Stays l out) (a:Ad):Stays (l++[a]) (putA a false out):=by
 by_cases hs:∃ y∈out,plA y a=true∧cmpA y a≤0
 ·rw [put_same h.ord h.one hs]
  obtain ⟨y,hy,hya,hle⟩:=hs
  refine ⟨fun x hx=>List.mem_append_left _ (h.mem x hx),h.ord,h.one,fun x hx=>?_⟩
  rcases List.mem_append.1 hx with hx | hx
  ·exact h.all x hx
  ·rw [List.mem_singleton] at hx;subst hx
   exact ⟨y,hy,plA_symm hya,hle⟩
 ·have hB:∀ y∈out,plA y a=true→cmpA a y<0:=fun y hy e=>by
   apply Classical.byContradiction
   intro hn
   exact hs ⟨y,hy,e,by have:=tot_A.neg y a;omega⟩
  rw [put_other h.ord hB]
  refine ⟨fun x hx=>?_,?_,?_,fun x hx=>?_⟩
  ·rcases List.mem_append.1 hx with hx | hx
   ·exact List.mem_append_left _ (h.mem x (List.mem_filter.1 hx).1)
   ·rcases List.mem_cons.1 hx with rfl | hx
    ·exact List.mem_append_right _ (List.mem_singleton.2 rfl)
    ·exact List.mem_append_left _ (h.mem x (List.mem_filter.1 hx).1)
  ·rw [List.pairwise_append]
   refine ⟨h.ord.filter _,?_,fun x hx y hy=>?_⟩
   ·rw [List.pairwise_cons]
    refine ⟨fun y hy=>?_,h.ord.filter _⟩
    have:=(List.mem_filter.1 hy).2
    simp only [Bool.and_eq_true,decide_eq_true_eq] at this
    omega
   ·have hx':=(List.mem_filter.1 hx).2
    simp only [decide_eq_true_eq] at hx'
    rcases List.mem_cons.1 hy with rfl | hy
    ·exact hx'
    ·have:=(List.mem_filter.1 hy).2
     simp only [Bool.and_eq_true,decide_eq_true_eq] at this
     exact tot_A.le x a y hx' (by omega)
  ·rw [List.pairwise_append]
   have hF:∀ x∈out.filter (fun x=>decide (cmpA x a≤0)),plA x a=false:=fun x hx=>by
    have hx':=List.mem_filter.1 hx
    cases e:plA x a
    ·rfl
    ·have h3:=hB x hx'.1 e
     have h4:=hx'.2
     have h5:=tot_A.neg x a
     simp only [decide_eq_true_eq] at h4
     omega
   have hne:∀ x∈out,∀ y∈out,cmpA x y<0→plA x y=false:=fun x hx y hy hlt=>by
    have:=h.one
    rw [List.pairwise_iff_getElem] at this
    obtain ⟨i,hi,rfl⟩:=List.getElem_of_mem hx
    obtain ⟨j,hj,rfl⟩:=List.getElem_of_mem hy
    rcases Nat.lt_trichotomy i j with e | e | e
    ·exact this i j hi hj e
    ·subst e;rw [tot_A.self] at hlt;omega
    ·have h2:=h.ord
     rw [List.pairwise_iff_getElem] at h2
     have h3:=h2 j i hj hi e
     have h4:=tot_A.neg out[i] out[j]
     omega
   refine ⟨h.one.filter _,?_,fun x hx y hy=>?_⟩
   ·rw [List.pairwise_cons]
    refine ⟨fun y hy=>?_,h.one.filter _⟩
    have:=(List.mem_filter.1 hy).2
    simp only [Bool.and_eq_true,Bool.not_eq_true'] at this
    cases e:plA a y
    ·rfl
    ·rw [plA_symm e] at this;exact absurd this.2 (by simp)
   ·rcases List.mem_cons.1 hy with rfl | hy
    ·exact hF x hx
    ·have hx':=(List.mem_filter.1 hx)
     have hy':=(List.mem_filter.1 hy)
     have h6:=hx'.2
     have h7:=hy'.2
     simp only [Bool.and_eq_true,decide_eq_true_eq] at h6 h7
     exact hne x hx'.1 y hy'.1 (tot_A.lt' x a y h6 h7.1)
  ·rcases List.mem_append.1 hx with hx | hx
   ·obtain ⟨b,hb,hxb,hle⟩:=h.all x hx
    by_cases h1:cmpA b a≤0
    ·exact ⟨b,List.mem_append_left _ (List.mem_filter.2 ⟨hb,by simp [h1]⟩),hxb,hle⟩
    ·have h2:cmpA a b<0:=by have:=tot_A.neg a b;omega
     cases e:plA b a
     ·exact ⟨b,List.mem_append_right _ (List.mem_cons_of_mem _ (List.mem_filter.2 ⟨hb,by simp [h2,e]⟩)),hxb,hle⟩
     ·exact ⟨a,List.mem_append_right _ (List.mem_cons_self ..),plA_trans hxb e,by have:=tot_A.lt a b x h2 hle;omega⟩
   ·rw [List.mem_singleton] at hx;subst hx
    exact ⟨x,List.mem_append_right _ (List.mem_cons_self ..),plA_refl x,by rw [tot_A.self];exact Int.le_refl _⟩
def putsA (l:List Ad):List Ad:=l.foldl (fun out a=>putA a false out) []
theorem putsA_snoc (l:List Ad) (a:Ad):putsA (l++[a])=putA a false (putsA l):=by simp [putsA]
theorem puts_stays:∀ (n:Nat) (l:List Ad),l.length=n→Stays l (putsA l)
 | 0,l,hn=>by
   have:l=[]:=List.eq_nil_of_length_eq_zero hn
   subst this;exact Stays.nil
 | n+1,l,hn=>by
   obtain ⟨k,a,rfl⟩:∃ k a,l=k++[a]:=⟨l.dropLast,l.getLast (by intro e;subst e;simp at hn),(List.dropLast_concat_getLast _).symm⟩
   rw [putsA_snoc]
   exact put_stays (puts_stays n k (by simpa using hn)) a
theorem puts_eq (l:List Ad):putsA l=onceA (sortA l):=(puts_stays _ l rfl).eq (sortA_stays l) fun _=>Iff.rfl
end Srv
end Go.Proofs.YtlipmlbijddopaaGreatDoor
set_option linter.unusedVariables false
set_option linter.unusedSimpArgs false
namespace Go.Proofs.YtlipmlbijddopaaGreatDoor
open Go.RowKit
def acc (s:List UInt8):Nat→Nat
 | 0=>0
 | k+1=>10*acc s k+(s.getD (k+1) 0).toNat - 48
def digOk (s:List UInt8) (j:Nat):Bool:=decide (48≤(s.getD j 0).toNat) && decide ((s.getD j 0).toNat≤57)
def pieceN (s:List UInt8):UInt8 × Nat:=
 if s.getD 0 0≠92 then (s.getD 0 0,1)
 else if 1<s.length∧(s.getD 1 0=46∨s.getD 1 0=92) then (s.getD 1 0,2)
 else if s.length<4 then (0,0)
 else if digOk s 1 && digOk s 2 && digOk s 3 then (if 255<acc s 3∨(33≤acc s 3∧acc s 3≤126) then (0,0) else (UInt8.ofNat (acc s 3),4))
 else (0,0)
def rp:Nat→List UInt8→List (List UInt8)→List UInt8→Option (List (List UInt8))
 | 0,_,_,_=>none
 | f+1,s,n,lab=>
   if s=[] then some (n++[lab])
   else if s.getD 0 0=46 then rp f (s.drop 1) (n++[lab]) []
   else if (s.getD 0 0).toNat<33∨126<(s.getD 0 0).toNat then none
   else if (pieceN s).2=0 then none
   else rp f (s.drop (pieceN s).2) n (lab++[(pieceN s).1])
def rparse (s:List UInt8):List (List UInt8) × Nat:=
 if smallS s=[46] then ([],0) else
  match rp ((smallS s).length+1) (smallS s) [] [] with
  | some n=>if rightN n=true then (n,0) else ([],164)
  | none=>([],164)
theorem piece_esc (x:UInt8) (r:List UInt8):pieceN (escB x++r)=(x,(escB x).length)∧(escB x++r).getD 0 0≠46∧33≤((escB x++r).getD 0 0).toNat∧((escB x++r).getD 0 0).toNat≤126:=by
 have hxl:=UInt8.toNat_lt x
 rcases escB_cases x with ⟨hx,e⟩ | ⟨hx,e⟩ | ⟨hx,e⟩ <;> rw [e]
 ·have hc:x=46∨x=92:=by rcases hx with h | h;exact .inl (u8_eq.2 h);exact .inr (u8_eq.2 h)
  refine ⟨?_,by simp,by simp,by simp⟩
  unfold pieceN
  rw [if_neg (by simp),if_pos ⟨by simp,by simpa using hc⟩]
  rfl
 ·have h46:x≠46:=fun h=>hx.2.2.1 (by rw [h];rfl)
  have h92:x≠92:=fun h=>hx.2.2.2 (by rw [h];rfl)
  refine ⟨?_,by simpa using h46,by simp;omega,by simp;omega⟩
  unfold pieceN
  rw [if_pos (by simpa using h92)]
  rfl
 ·have h1:=dig1 x
  have h2:=dig2 x
  have h3:=dig3 x
  refine ⟨?_,by simp,by simp,by simp⟩
  have g1:([92,48+x / 100,48+x / 10 % 10,48+x % 10]++r:List UInt8).getD 1 0=48+x / 100:=rfl
  have g2:([92,48+x / 100,48+x / 10 % 10,48+x % 10]++r:List UInt8).getD 2 0=48+x / 10 % 10:=rfl
  have g3:([92,48+x / 100,48+x / 10 % 10,48+x % 10]++r:List UInt8).getD 3 0=48+x % 10:=rfl
  have hacc:acc ([92,48+x / 100,48+x / 10 % 10,48+x % 10]++r) 3=x.toNat:=by
   simp only [acc]
   rw [g1,g2,g3,h1,h2,h3]
   have h4:x.toNat / 10 / 10=x.toNat / 100:=Nat.div_div_eq_div_mul _ _ _
   omega
  have n1:¬ (48+x / 100:UInt8)=46:=by rw [u8_eq,h1];simp;omega
  have n2:¬ (48+x / 100:UInt8)=92:=by rw [u8_eq,h1];simp;omega
  unfold pieceN
  rw [if_neg (by simp),if_neg (by rw [g1];rintro ⟨_,h9 | h9⟩;exact n1 h9;exact n2 h9),if_neg (by simp),hacc]
  rw [if_pos (by unfold digOk;rw [g1,g2,g3,h1,h2,h3];simp;omega),if_neg (by omega)]
  rw [show UInt8.ofNat x.toNat=x from UInt8.ofNat_toNat]
  rfl
theorem piece_inv (s:List UInt8) (hne:s≠[]) (h46:s.getD 0 0≠46) (h33:¬ ((s.getD 0 0).toNat<33∨126<(s.getD 0 0).toNat)) (h0:(pieceN s).2≠0):s=escB (pieceN s).1++s.drop (pieceN s).2∧0<(pieceN s).2∧(pieceN s).2≤s.length:=by
 have h46':(s.getD 0 0).toNat≠46:=fun h=>h46 (u8_eq.2 h)
 have hl:0<s.length:=List.length_pos_iff.2 hne
 have cons:∀ (k:Nat),k<s.length→s.drop k=s.getD k 0 :: s.drop (k+1):=by
  intro k hk
  rw [List.drop_eq_getElem_cons hk,List.getD_eq_getElem?_getD,List.getElem?_eq_getElem hk];rfl
 have hs0:=cons 0 hl
 rw [List.drop_zero] at hs0
 unfold pieceN at h0 ⊢
 split at h0
 ·rename_i h92
  rw [if_pos h92]
  have h92':(s.getD 0 0).toNat≠92:=fun h=>h92 (u8_eq.2 h)
  have e:escB (s.getD 0 0)=[s.getD 0 0]:=by
   rcases escB_cases (s.getD 0 0) with ⟨hx,e⟩ | ⟨hx,e⟩ | ⟨hx,e⟩
   ·omega
   ·exact e
   ·omega
  exact ⟨by rw [e];exact hs0,by simp,by simp;omega⟩
 ·rename_i h92
  have h92e:s.getD 0 0=92:=Classical.byContradiction h92
  rw [if_neg h92]
  split at h0
  ·rename_i h2
   rw [if_pos h2]
   have e:escB (s.getD 1 0)=[92,s.getD 1 0]:=by
    rcases escB_cases (s.getD 1 0) with ⟨hx,e⟩ | ⟨hx,e⟩ | ⟨hx,e⟩
    ·exact e
    ·rcases h2.2 with h | h <;> rw [h] at hx <;> simp at hx
    ·rcases h2.2 with h | h <;> rw [h] at hx <;> simp at hx
   refine ⟨?_,by simp,by simp;omega⟩
   rw [e]
   have h3:=cons 1 h2.1
   rw [h3,h92e] at hs0
   exact hs0
  ·rename_i h2
   rw [if_neg h2]
   split at h0
   ·exact absurd rfl h0
   ·rename_i h4
    rw [if_neg h4]
    split at h0
    ·rename_i hd
     rw [if_pos hd]
     split at h0
     ·exact absurd rfl h0
     ·rename_i hx
      rw [if_neg hx]
      have k1:=cons 1 (by omega)
      have k2:=cons 2 (by omega)
      have k3:=cons 3 (by omega)
      simp only [digOk,Bool.and_eq_true,decide_eq_true_eq] at hd
      obtain ⟨⟨d1,d2⟩,d3⟩:=hd
      have ha:acc s 3=((s.getD 1 0).toNat - 48)*100+((s.getD 2 0).toNat - 48)*10+((s.getD 3 0).toNat - 48):=by
       show 10*(10*(10*0+(s.getD 1 0).toNat - 48)+(s.getD 2 0).toNat - 48)+(s.getD 3 0).toNat - 48=_
       omega
      have hxn:(UInt8.ofNat (acc s 3)).toNat=acc s 3:=by rw [UInt8.toNat_ofNat'];omega
      have e:escB (UInt8.ofNat (acc s 3))=[92,s.getD 1 0,s.getD 2 0,s.getD 3 0]:=by
       rcases escB_cases (UInt8.ofNat (acc s 3)) with ⟨hx',e⟩ | ⟨hx',e⟩ | ⟨hx',e⟩
       ·omega
       ·omega
       ·rw [e]
        have e1:(48+UInt8.ofNat (acc s 3) / 100:UInt8)=s.getD 1 0:=by rw [u8_eq,dig1,hxn,ha];omega
        have e2:(48+UInt8.ofNat (acc s 3) / 10 % 10:UInt8)=s.getD 2 0:=by rw [u8_eq,dig2,hxn,ha];omega
        have e3:(48+UInt8.ofNat (acc s 3) % 10:UInt8)=s.getD 3 0:=by rw [u8_eq,dig3,hxn,ha];omega
        rw [e1,e2,e3]
      refine ⟨?_,by simp,by simp;omega⟩
      rw [e]
      rw [k1,k2,k3,h92e] at hs0
      exact hs0
    ·exact absurd rfl h0
theorem escB_pos (x:UInt8):1≤(escB x).length:=by rcases escB_cases x with ⟨_,e⟩ | ⟨_,e⟩ | ⟨_,e⟩ <;> rw [e] <;> simp
theorem rp_escL:∀ (l:List UInt8) (r:List UInt8) (f:Nat) (n:List (List UInt8)) (lab:List UInt8),rp (f+l.length) (escL l++r) n lab=rp f r n (lab++l):=by
 intro l
 induction l with
 | nil=>intro r f n lab;simp [escL]
 | cons x l ih=>
   intro r f n lab
   have e:escL (x :: l)=escB x++escL l:=by simp [escL]
   obtain ⟨p1,p2,p3,p4⟩:=piece_esc x (escL l++r)
   have hp:=escB_pos x
   rw [e,List.append_assoc,show f+(x :: l).length=(f+l.length)+1 by simp;omega,rp,if_neg (List.ne_nil_of_length_pos (by rw [List.length_append];omega)),if_neg p2,if_neg (by omega),p1]
   simp only
   rw [if_neg (by omega),List.drop_left' rfl,ih r f n (lab++[x]),List.append_assoc]
   rfl
theorem rp_join:∀ (m:List (List UInt8)) (l:List UInt8) (f:Nat) (n:List (List UInt8)) (lab:List UInt8),(escL l++m.flatMap (fun k=>46 :: escL k)).length+1≤f→rp f (escL l++m.flatMap (fun k=>46 :: escL k)) n lab=some (n++(lab++l) :: m):=by
 intro m
 induction m with
 | nil=>
   intro l f n lab hf
   rw [List.flatMap_nil,List.append_nil] at hf
   have hp:=escL_pos l
   obtain ⟨f',rfl⟩:∃ f',f=(f'+1)+l.length:=⟨f - l.length - 1,by omega⟩
   rw [List.flatMap_nil,rp_escL,rp,if_pos rfl]
 | cons k m ih=>
   intro l f n lab hf
   have hp:=escL_pos l
   rw [List.flatMap_cons,List.length_append,List.length_append,List.length_cons] at hf
   obtain ⟨f',rfl⟩:∃ f',f=(f'+1)+l.length:=⟨f - l.length - 1,by omega⟩
   rw [rp_escL,List.flatMap_cons,List.cons_append,rp,if_neg (by simp),if_pos (by rfl),List.drop_succ_cons,List.drop_zero,ih k f' (n++[lab++l]) [] (by rw [List.length_append];omega)]
   simp
theorem rp_inv:∀ (f:Nat) (s:List UInt8) (n:List (List UInt8)) (lab:List UInt8) (N:List (List UInt8)),rp f s n lab=some N→∃ l m,N=n++(lab++l) :: m∧s=tjoin (l :: m):=by
 intro f
 induction f with
 | zero=>intro s n lab N h;cases h
 | succ f ih=>
   intro s n lab N h
   rw [rp] at h
   by_cases h0:s=[]
   ·rw [if_pos h0] at h
    cases h
    exact ⟨[],[],by simp,by rw [h0];rfl⟩
   ·rw [if_neg h0] at h
    have hl:0<s.length:=List.length_pos_iff.2 h0
    by_cases h46:s.getD 0 0=46
    ·rw [if_pos h46] at h
     obtain ⟨l,m,e1,e2⟩:=ih _ _ _ _ h
     refine ⟨[],l :: m,by rw [e1];simp,?_⟩
     have hs:s=s.getD 0 0 :: s.drop 1:=by
      have:=List.drop_eq_getElem_cons hl
      rw [List.drop_zero] at this
      rw [List.getD_eq_getElem?_getD,List.getElem?_eq_getElem hl]
      exact this
     rw [hs,h46,e2]
     simp [tjoin,escL]
    ·rw [if_neg h46] at h
     by_cases h33:(s.getD 0 0).toNat<33∨126<(s.getD 0 0).toNat
     ·rw [if_pos h33] at h;cases h
     ·rw [if_neg h33] at h
      by_cases hp:(pieceN s).2=0
      ·rw [if_pos hp] at h;cases h
      ·rw [if_neg hp] at h
       obtain ⟨l,m,e1,e2⟩:=ih _ _ _ _ h
       have hi:=(piece_inv s h0 h46 h33 hp).1
       refine ⟨(pieceN s).1 :: l,m,by rw [e1];simp,?_⟩
       rw [e2] at hi
       refine hi.trans ?_
       simp only [tjoin,escL,List.flatMap_cons,List.append_assoc]
theorem rparse_eq (s:List UInt8):((rparse s).1,((rparse s).2:Int))=parseN s:=by
 unfold rparse
 by_cases h0:smallS s=[46]
 ·rw [if_pos h0];unfold parseN;rw [if_pos h0];rfl
 ·rw [if_neg h0]
  have hls:(smallS s).length=s.length:=smallS_length s
  have fail:(∀ n,rp ((smallS s).length+1) (smallS s) [] []=some n→rightN n=false)→parseN s=([],164):=by
   intro hf
   unfold parseN
   rw [if_neg h0]
   by_cases h1:1020<s.length
   ·rw [if_pos h1]
   ·rw [if_neg h1]
    by_cases h2:rightN (pl (smallS s) (s.length+1) 0 [] [])=true∧textN (pl (smallS s) (s.length+1) 0 [] [])=smallS s
    ·exfalso
     obtain ⟨h3,h4⟩:=h2
     generalize pl (smallS s) (s.length+1) 0 [] []=n at h3 h4
     have hn:n≠[]:=by
      intro h;rw [h] at h4
      exact h0 h4.symm
     have h5:tjoin n=smallS s:=by rw [←h4];unfold textN;rw [if_neg hn]
     cases n with
     | nil=>exact absurd rfl hn
     | cons l m=>
       have h6:=rp_join m l ((smallS s).length+1) [] [] (by
        have:(escL l++m.flatMap fun k=>46 :: escL k)=smallS s:=h5
        rw [this];omega)
       rw [show (escL l++m.flatMap fun k=>46 :: escL k)=smallS s from h5] at h6
       have h7:=hf _ h6
       simp only [List.nil_append] at h7
       rw [h3] at h7;cases h7
    ·rw [if_neg h2]
  cases hr:rp ((smallS s).length+1) (smallS s) [] [] with
  | none=>
    simp only
    rw [fail (fun n h=>by rw [hr] at h;cases h)];rfl
  | some n=>
    simp only
    by_cases hrt:rightN n=true
    ·rw [if_pos hrt]
     obtain ⟨l,m,e1,e2⟩:=rp_inv _ _ _ _ _ hr
     simp only [List.nil_append] at e1
     subst e1
     have hp:=parse_text (l :: m) hrt
     have hsm:smallS (smallS s)=smallS s:=smallS_idem s
     have hpl:=pl_text (l :: m) (by simp) (s.length+1) (by rw [←e2];omega)
     have hlen:=tjoin_length (l :: m)
     have hsz:=size_right hrt
     unfold parseN
     rw [if_neg h0,if_neg (by rw [←hls,e2];omega),e2,hpl,if_pos ⟨hrt,by unfold textN;rw [if_neg (by simp)]⟩]
     rfl
    ·rw [if_neg hrt,fail (fun n' h=>by rw [hr] at h;cases h;simpa using hrt)];rfl
end Go.Proofs.YtlipmlbijddopaaGreatDoor
