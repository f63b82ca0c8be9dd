/-
  AppP; Made
-/
import Derived.Test.YtlipmlbijddopaaGreatDoorZ07
import Derived.Test.YtlipmlbijddopaaGreatDoorZ05
import Derived.Test.YtlipmlbijddopaaGreatDoorZ06
set_option linter.unusedVariables false
namespace Go.Proofs.YtlipmlbijddopaaGreatDoor
open Go.RowKit
theorem drop_cons {b r:List UInt8} {p:Nat} {x:UInt8} (h:b.drop p=x :: r):p<b.length∧b.getD p 0=x∧b.drop (p+1)=r:=by
 have hp:p<b.length:=by
  rcases Nat.lt_or_ge p b.length with h1 | h1
  ·exact h1
  ·rw [List.drop_eq_nil_of_le h1] at h;cases h
 rw [List.drop_eq_getElem_cons hp] at h
 injection h with h1 h2
 exact ⟨hp,by rw [List.getD_eq_getElem?_getD,List.getElem?_eq_getElem hp,h1];rfl,h2⟩
theorem labS_cons (l:List UInt8) (m:List (List UInt8)):labS (l :: m)=UInt8.ofNat l.length :: (l++labS m):=by simp [labS]
theorem okL_spec {l:List UInt8} (h:okL l=true):0<l.length∧l.length<64∧smallS l=l:=by
 unfold okL at h
 simp only [Bool.and_eq_true,decide_eq_true_eq] at h
 exact ⟨by omega,by omega,h.2⟩
theorem rd_labs (b:List UInt8) (bg en:Nat):∀ (m:List (List UInt8)) (f p nx sz:Nat) (out:List (List UInt8)) (rest:List UInt8),m.all okL=true→b.drop p=labS m++rest→p+(labS m).length≤en→
 sz+(labS m).length≤255→rd b (f+m.length) bg en p nx sz out=rd b f bg en (p+(labS m).length) nx (sz+(labS m).length) (out++m):=by
 intro m
 induction m with
 | nil=>intro f p nx sz out rest _ _ _ _;simp [labS]
 | cons l m ih=>
   intro f p nx sz out rest hm hd he hs
   simp only [List.all_cons,Bool.and_eq_true] at hm
   obtain ⟨h1,h2,h3⟩:=okL_spec hm.1
   have hlen:(labS (l :: m)).length=1+l.length+(labS m).length:=by rw [labS_cons];simp;omega
   rw [labS_cons,List.cons_append] at hd
   obtain ⟨hp,hx,hd1⟩:=drop_cons hd
   have hxn:(b.getD p 0).toNat=l.length:=by rw [hx];simp;omega
   rw [hlen] at he hs ⊢
   have hpc:(b.drop (p+1)).take l.length=l:=by rw [hd1,List.append_assoc,List.take_left' rfl]
   rw [show f+(l :: m).length=(f+m.length)+1 by simp;omega,rd,if_pos (by omega),hxn,if_neg (by omega),if_pos h2,if_neg (by omega),if_neg (by omega),hpc,h3]
   have hd2:b.drop (p+(1+l.length))=labS m++rest:=by
    rw [show p+(1+l.length)=(p+1)+l.length by omega,←List.drop_drop,hd1,List.append_assoc,List.drop_left' rfl]
   rw [ih f (p+(1+l.length)) nx (sz+(1+l.length)) (out++[l]) rest hm.2 hd2 (by omega) (by omega)]
   rw [show p+(1+l.length)+(labS m).length=p+(1+l.length+(labS m).length) by omega,show sz+(1+l.length)+(labS m).length=sz+(1+l.length+(labS m).length) by omega,List.append_assoc]
   rfl
theorem rd_acc (b:List UInt8):∀ (f bg en p nx sz:Nat) (out:List (List UInt8)),en≤b.length→bg≤en→(rd b f bg en p nx sz out).2.2=0→
 ∃ m,(rd b f bg en p nx sz out).1=out++m∧∀ (nx' sz':Nat) (out':List (List UInt8)),sz'+(labS m).length≤255→(rd b f bg en p nx' sz' out').1=out'++m∧(rd b f bg en p nx' sz' out').2.2=0:=by
 intro f
 induction f with
 | zero=>intro bg en p nx sz out _ _ h;exact absurd (show (999:Nat)=0 from h) (by decide)
 | succ f ih=>
   intro bg en p nx sz out hen hbg
   rw [rd]
   by_cases hp:p<en
   ·rw [if_pos hp]
    by_cases h0:(b.getD p 0).toNat=0
    ·rw [if_pos h0]
     refine fun _=>⟨[],by simp,fun nx' sz' out' _=>?_⟩
     rw [rd,if_pos hp,if_pos h0];simp
    ·rw [if_neg h0]
     by_cases h1:(b.getD p 0).toNat<64
     ·rw [if_pos h1]
      by_cases h2:255<sz+(1+(b.getD p 0).toNat)
      ·rw [if_pos h2];exact fun h=>absurd h (by decide)
      ·rw [if_neg h2]
       by_cases h3:en<p+1+(b.getD p 0).toNat
       ·rw [if_pos h3];exact fun h=>absurd h (by decide)
       ·rw [if_neg h3]
        intro h
        obtain ⟨m,hm,hall⟩:=ih _ _ _ _ _ _ hen hbg h
        have hl:(smallS ((b.drop (p+1)).take (b.getD p 0).toNat)).length=(b.getD p 0).toNat:=by
         simp only [smallS,List.length_map,List.length_take,List.length_drop];omega
        refine ⟨smallS ((b.drop (p+1)).take (b.getD p 0).toNat) :: m,by rw [hm];simp,fun nx' sz' out' hs=>?_⟩
        have hlen:(labS (smallS ((b.drop (p+1)).take (b.getD p 0).toNat) :: m)).length=1+(b.getD p 0).toNat+(labS m).length:=by rw [labS_cons,List.length_cons,List.length_append,hl];omega
        rw [hlen] at hs
        rw [rd,if_pos hp,if_neg h0,if_pos h1,if_neg (by omega),if_neg h3]
        obtain ⟨i1,i2⟩:=hall nx' (sz'+(1+(b.getD p 0).toNat)) (out'++[smallS ((b.drop (p+1)).take (b.getD p 0).toNat)]) (by omega)
        exact ⟨by rw [i1];simp,i2⟩
     ·rw [if_neg h1]
      by_cases h2:(b.getD p 0).toNat<192
      ·rw [if_pos h2];exact fun h=>absurd h (by decide)
      ·rw [if_neg h2]
       by_cases h3:p+1=en
       ·rw [if_pos h3];exact fun h=>absurd h (by decide)
       ·rw [if_neg h3]
        by_cases h4:bg≤((b.getD p 0).toNat - 192)*256+(b.getD (p+1) 0).toNat
        ·rw [if_pos h4];exact fun h=>absurd h (by decide)
        ·rw [if_neg h4]
         intro h
         obtain ⟨m,hm,hall⟩:=ih _ _ _ _ _ _ (by omega) (by omega) h
         refine ⟨m,hm,fun nx' sz' out' hs=>?_⟩
         rw [rd,if_pos hp,if_neg h0,if_neg h1,if_neg h2,if_neg h3,if_neg h4]
         exact hall _ _ _ hs
   ·rw [if_neg hp];exact fun h=>absurd h (by decide)
theorem rightN_spec {n:List (List UInt8)} (h:rightN n=true):n.all okL=true∧(labS n).length+1≤255:=by
 have h1:=size_right h
 have h2:=labS_length n
 unfold rightN at h
 rw [Bool.and_eq_true] at h
 exact ⟨h.1,by omega⟩
theorem labS_append (a b:List (List UInt8)):labS (a++b)=labS a++labS b:=by simp [labS]
theorem labS_len_le (m:List (List UInt8)):m.all okL=true→2*m.length≤(labS m).length:=by
 induction m with
 | nil=>simp [labS]
 | cons l m ih=>
   intro h
   simp only [List.all_cons,Bool.and_eq_true] at h
   obtain ⟨h1,_,_⟩:=okL_spec h.1
   have:=ih h.2
   rw [labS_cons];simp;omega
theorem read_full (b tail:List UInt8) (n:List (List UInt8)) (hr:rightN n=true):readN (b++(labS n++0 :: tail)) b.length=(n,b.length+sizeN n,0):=by
 obtain ⟨h1,h2⟩:=rightN_spec hr
 have h3:=labS_length n
 have h4:=labS_len_le n h1
 have hlen:(b++(labS n++0 :: tail)).length=b.length+(labS n).length+1+tail.length:=by simp;omega
 unfold readN
 rw [if_pos (by omega)]
 have hf:rdM (b++(labS n++0 :: tail)) b.length (b++(labS n++0 :: tail)).length b.length=(rdM (b++(labS n++0 :: tail)) b.length (b++(labS n++0 :: tail)).length b.length - 1 - n.length+1)+n.length:=by
  unfold rdM;omega
 rw [hf,rd_labs (b++(labS n++0 :: tail)) b.length _ n _ b.length 0 1 [] (0 :: tail) h1 (by rw [List.drop_left' rfl]) (by omega) (by omega)]
 have hd:(b++(labS n++0 :: tail)).drop (b.length+(labS n).length)=0 :: tail:=by
  rw [←List.drop_drop,List.drop_left' rfl,List.drop_left' rfl]
 obtain ⟨hp,hx,_⟩:=drop_cons hd
 rw [rd,if_pos hp,hx,if_pos (by rfl),if_pos rfl]
 rw [show b.length+(labS n).length+1=b.length+sizeN n by omega]
 rfl
theorem read_ptr (b:List UInt8) (pre suf:List (List UInt8)) (a:Nat) (hr:rightN (pre++suf)=true) (ha:a<16384) (hab:a<b.length) (he:(readN b a).2.2=0) (hs:(readN b a).1=suf) :
 readN (b++labS pre++ptr (a:Int)) b.length=(pre++suf,b.length+(labS pre).length+2,0):=by
 obtain ⟨h1,h2⟩:=rightN_spec hr
 rw [List.all_append,Bool.and_eq_true] at h1
 rw [labS_append,List.length_append] at h2
 have h4:=labS_len_le pre h1.1
 have hpl:(ptr (a:Int)).length=2:=rfl
 obtain ⟨o,ho⟩:∃ o,o=b++labS pre++ptr (a:Int):=⟨_,rfl⟩
 have hlen:o.length=b.length+(labS pre).length+2:=by rw [ho];simp [hpl];omega
 rw [←ho]
 have ht:o.take b.length=b.take b.length:=by rw [ho,List.append_assoc,List.take_left' rfl,List.take_length]
 unfold readN
 rw [if_pos (by omega)]
 have hf:rdM o b.length o.length b.length=(rdM o b.length o.length b.length - 1 - pre.length+1)+pre.length:=by
  unfold rdM;omega
 have hd0:o.drop b.length=labS pre++ptr (a:Int):=by rw [ho,List.append_assoc,List.drop_left' rfl]
 have hF:rdM o a b.length a≤rdM o b.length o.length b.length - 1 - pre.length:=by
  unfold rdM
  have e:(a+1)*(o.length+2)≤b.length*(o.length+2):=Nat.mul_le_mul_right _ hab
  rw [Nat.add_mul,Nat.one_mul] at e
  omega
 rw [hf,rd_labs o b.length _ pre _ b.length 0 1 [] (ptr (a:Int)) h1.1 hd0 (by omega) (by omega)]
 have hd:o.drop (b.length+(labS pre).length)=ptr (a:Int):=by rw [←List.drop_drop,hd0,List.drop_left' rfl]
 obtain ⟨hp,hx,hd1⟩:=drop_cons (show o.drop (b.length+(labS pre).length)=UInt8.ofNat (192+(a:Int).toNat / 256) :: [UInt8.ofNat (a:Int).toNat] from hd)
 obtain ⟨hp',hy,_⟩:=drop_cons hd1
 have hxn:(o.getD (b.length+(labS pre).length) 0).toNat=192+a / 256:=by rw [hx];simp;omega
 have hyn:(o.getD (b.length+(labS pre).length+1) 0).toNat=a % 256:=by rw [hy];simp
 have hto:(192+a / 256 - 192)*256+a % 256=a:=by omega
 rw [rd,if_pos hp,hxn,hyn,if_neg (by omega),if_neg (by omega),if_neg (by omega),if_neg (by omega),hto,if_neg (by omega),if_pos rfl]
 have hrb:readN b a=rd b (rdM b a b.length a) a b.length a 0 1 []:=by unfold readN;rw [if_pos (by omega)]
 rw [hrb] at he hs
 obtain ⟨m,hm,hall⟩:=rd_acc b _ _ _ _ _ _ _ (Nat.le_refl _) (by omega) he
 rw [hs,List.nil_append] at hm
 subst hm
 obtain ⟨i1,i2⟩:=hall (b.length+(labS pre).length+2) (1+(labS pre).length) ([]++pre) (by omega)
 have hloc:=rd_local b o (rdM b a b.length a) _ a b.length a (b.length+(labS pre).length+2) (1+(labS pre).length) ([]++pre) (Nat.le_refl _) hF (by omega) (Nat.le_refl _) (by omega) ht
 rw [hloc]
 have i3:=(rd_nx b (rdM b a b.length a) a b.length a (b.length+(labS pre).length+2) 0 (1+(labS pre).length) ([]++pre)).2.2.1 (by omega) i2
 exact Prod.ext (by rw [i1];rfl) (Prod.ext i3 i2)
theorem app_shape (b:List UInt8) (known:List Int) (n:List (List UInt8)):(appN b known n=b++labS n++[0]∧∀ y,y<n.length→(placesN b known).find? (hit b (n.drop y))=none)∨
 ∃ (i a:Nat),i<n.length∧a<16384∧a<b.length∧(readN b a).2.2=0∧(readN b a).1=n.drop i∧appN b known n=b++labS (n.take i)++ptr (a:Int)∧∀ y,y<i→(placesN b known).find? (hit b (n.drop y))=none:=by
 unfold appN
 by_cases h:∀ y,y<n.length→(placesN b known).find? (hit b (n.drop y))=none
 ·left
  exact ⟨appGo_none b _ n n.length 0 (fun y _ hy=>h y (by omega)),h⟩
 ·right
  have hex:∃ i,i<n.length∧((placesN b known).find? (hit b (n.drop i))).isSome∧∀ y,y<i→(placesN b known).find? (hit b (n.drop y))=none:=by
   have:∃ i,i<n.length∧((placesN b known).find? (hit b (n.drop i))).isSome:=by
    apply Classical.byContradiction
    intro hc
    exact h fun y hy=>by
     cases hf:(placesN b known).find? (hit b (n.drop y)) with
     | none=>rfl
     | some a=>exact absurd ⟨y,hy,by rw [hf];rfl⟩ hc
   obtain ⟨i,hi⟩:=this
   induction i using Nat.strongRecOn with
   | ind i ih=>
     by_cases hall:∀ y,y<i→(placesN b known).find? (hit b (n.drop y))=none
     ·exact ⟨i,hi.1,hi.2,hall⟩
     ·have:∃ y,y<i∧((placesN b known).find? (hit b (n.drop y))).isSome:=by
       apply Classical.byContradiction
       intro hc
       exact hall fun y hy=>by
        cases hf:(placesN b known).find? (hit b (n.drop y)) with
        | none=>rfl
        | some a=>exact absurd ⟨y,hy,by rw [hf];rfl⟩ hc
      obtain ⟨y,hy,hys⟩:=this
      exact ih y hy ⟨by omega,hys⟩
  obtain ⟨i,hi,his,hall⟩:=hex
  obtain ⟨a,ha⟩:=Option.isSome_iff_exists.1 his
  have hmem:=List.mem_of_find?_eq_some ha
  have hh:=List.find?_some ha
  obtain ⟨p1,p2⟩:=places_mem b known a hmem
  unfold hit at hh
  simp only [Bool.and_eq_true,decide_eq_true_eq] at hh
  have hg:=(Good.of_read (by omega) hh.1.1).lt
  refine ⟨i,a.toNat,hi,by omega,hg,hh.1.1,hh.1.2,?_,hall⟩
  rw [show ((a.toNat:Nat):Int)=a by omega]
  exact appGo_some b _ n a i n.length 0 (by omega) (by omega) (fun y _ hy=>hall y hy) ha
theorem app_reads (b:List UInt8) (known:List Int) (n:List (List UInt8)) (hr:rightN n=true) :
 readN (appN b known n) b.length=(n,(appN b known n).length,0)∧b.length<(appN b known n).length∧(appN b known n).length≤b.length+sizeN n∧(appN b known n).take b.length=b:=by
 have h3:=labS_length n
 rcases app_shape b known n with ⟨e,_⟩ | ⟨i,a,hi,ha,hab,he,hs,e,_⟩
 ·rw [e]
  have h:=read_full b [] n hr
  rw [←List.append_assoc] at h
  have hl:(b++labS n++[0]).length=b.length+sizeN n:=by simp;omega
  rw [hl]
  exact ⟨h,by omega,by omega,by rw [List.append_assoc,List.take_left' rfl]⟩
 ·rw [e]
  have hr':rightN (n.take i++n.drop i)=true:=by rw [List.take_append_drop];exact hr
  have h:=read_ptr b (n.take i) (n.drop i) a hr' ha hab he hs
  rw [List.take_append_drop] at h
  have hl:(b++labS (n.take i)++ptr (a:Int)).length=b.length+(labS (n.take i)).length+2:=by simp [ptr];omega
  have h5:(labS n).length=(labS (n.take i)).length+(labS (n.drop i)).length:=by rw [←List.length_append,←labS_append,List.take_append_drop]
  have h6:=labS_len_le (n.drop i) (by
   have:=(rightN_spec hr').1
   rw [List.all_append,Bool.and_eq_true] at this
   exact this.2)
  rw [List.length_drop] at h6
  rw [hl]
  exact ⟨h,by omega,by omega,by rw [List.append_assoc,List.take_left' rfl]⟩
end Go.Proofs.YtlipmlbijddopaaGreatDoor
set_option linter.unusedVariables false
set_option linter.unusedSimpArgs false
namespace Go.Proofs.YtlipmlbijddopaaGreatDoor
open Go.RowKit
def made1 (s:List UInt8):List (List UInt8):=if s.take 20=[] then [] else [smallS (s.take 20)]
def madeN (l:List (List UInt8)):List (List UInt8):=(l.take 8).flatMap made1
theorem grownBy_set (w:World) (g k:Nat) (u:Value):w.grownBy (w.setCell ⟨g,k,none⟩ u) (some g):=
 ⟨rfl,rfl,rfl,by simp,fun i hi hne=>Below.heap_setCell w ⟨g,k,none⟩ u i (fun e=>hne (by rw [e]))⟩
end Go.Proofs.YtlipmlbijddopaaGreatDoor
