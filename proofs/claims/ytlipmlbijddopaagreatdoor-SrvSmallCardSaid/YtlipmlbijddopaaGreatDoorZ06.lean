/-
  Places; Reads; Iter; Turn; Append
-/
import Derived.Test.YtlipmlbijddopaaGreatDoorZ05
import Derived.Sort.OwnSortedInts
import Derived.RangeFuncNested
import Derived.RangeFuncBound
import Derived.RangeFuncCalls
import Derived.RangeFuncLeaves
import Derived.RangeFuncBox
import Derived.RangeFuncFrom
import Derived.Shelf.Abstract
import Derived.Shelf.RegionOpen
import Derived.OwnWalkIn
import Derived.TacticsInMore
import Derived.LoopNIn
import Derived.LoopIn
import Derived.OrdersIn
import Derived.Deep.RegionHeld3
import Derived.Deep.DeepCutAuto
set_option linter.unusedVariables false
namespace Go.Proofs.YtlipmlbijddopaaGreatDoor
open Go.RowKit Go.Sort
def chain (b:List UInt8):Nat→Nat→List Int
 | 0,_=>[]
 | f+1,p=>
   if 0<(b.getD p 0).toNat∧(b.getD p 0).toNat<64 then
    (if 0<(b.getD (p+(1+(b.getD p 0).toNat)) 0).toNat∧(b.getD (p+(1+(b.getD p 0).toNat)) 0).toNat<64 then [((p+(1+(b.getD p 0).toNat):Nat):Int)] else [])++chain b f (p+(1+(b.getD p 0).toNat))
   else []
def place1 (b:List UInt8) (x:Int):List Int:=if 0≤x∧x≤b.length∧(readN b x.toNat).2.2=0 then x :: chain b b.length x.toNat else []
def placesU (b:List UInt8) (known:List Int):List Int:=known.flatMap (place1 b)
def placesN (b:List UInt8) (known:List Int):List Int:=(placesU b known).mergeSort fun x y=>decide (x≤y)
theorem placesU_take (b:List UInt8) (known:List Int) (k:Nat) (h:k<known.length):placesU b (known.take (k+1))=placesU b (known.take k)++place1 b known[k]:=by
 rw [List.take_succ_eq_append_getElem h]
 unfold placesU
 rw [List.flatMap_append]
 simp only [List.flatMap_cons,List.flatMap_nil,List.append_nil]
theorem placesU_le (b:List UInt8) (known:List Int) (k:Nat):(placesU b (known.take k)).length≤(placesU b known).length:=by
 have h:placesU b known=placesU b (known.take k)++placesU b (known.drop k):=by
  unfold placesU
  rw [←List.flatMap_append,List.take_append_drop]
 rw [h,List.length_append]
 omega
def Good (b:List UInt8) (p:Nat):Prop:=∃ f bg nx sz out,(rd b f bg b.length p nx sz out).2.2=0
theorem Good.lt {b:List UInt8} {p:Nat} (h:Good b p):p<b.length:=by
 obtain ⟨f,bg,nx,sz,out,h⟩:=h
 cases f with
 | zero=>simp [rd] at h
 | succ f=>
   rw [rd] at h
   rcases Nat.lt_or_ge p b.length with h1 | h1
   ·exact h1
   ·rw [if_neg (by omega)] at h;simp at h
theorem Good.next {b:List UInt8} {p:Nat} (h:Good b p) (h0:0<(b.getD p 0).toNat) (h1:(b.getD p 0).toNat<64):Good b (p+(1+(b.getD p 0).toNat)):=by
 have hlt:=h.lt
 obtain ⟨f,bg,nx,sz,out,h⟩:=h
 cases f with
 | zero=>simp [rd] at h
 | succ f=>
   rw [rd,if_pos hlt,if_neg (by omega),if_pos h1] at h
   split at h
   ·simp at h
   ·split at h
    ·simp at h
    ·exact ⟨f,_,_,_,_,h⟩
theorem Good.of_read {b:List UInt8} {p:Nat} (hp:p≤b.length) (h:(readN b p).2.2=0):Good b p:=by
 unfold readN at h
 rw [if_pos hp] at h
 exact ⟨_,_,_,_,_,h⟩
theorem Tryz.infoInt:(Tryz.prog.info? 3).map (fun i=>(i.zero,i.size,i.bytes))=some (some (.int .i64 0),1,8):=by kernel_rfl
theorem isort_any (v:Value) (l:List Int) (w:World) (B:Nat) (hown:Ow w B 3 v (ic l)) (hl:l.length≤140737488355328) :
 Calls Tryz.prog 178 #[v] w fun e w'=>e = .returned (.tuple #[])∧Ow w' B 3 v (ic (l.mergeSort fun x y=>decide (x≤y)))∧Gr w w' v v:=by
 rcases hown.2 with ⟨rfl,h0⟩ | ⟨g,cap,cur,rfl,hbase,hb,h1,h2,h3,h4⟩
 ·have hl0:l=[]:=List.eq_nil_of_length_eq_zero (by simpa using h0)
  subst hl0
  refine (Tryz.slices_Sort_int_none none 0 w).mono ?_
  rintro e w' ⟨rfl,rfl⟩
  exact ⟨rfl,by simpa using hown,Gr.refl _ _⟩
 ·rw [ic_length] at *
  have h4':cur.toList.take l.length=l.map (Value.int .i64):=by simpa [ic] using h4
  refine (Tryz.slices_Sort_int g 0 cap l w (holds_of_blockI hb h4') (Array.getElem?_eq_some_iff.1 hb).1 (by omega)).mono ?_
  rintro e w' ⟨rfl,nn,os,rfl⟩
  refine ⟨rfl,?_,grownBy_sortedI _,fun k hk=>.inl hk⟩
  have:=ownsRow_sortedI (n:=nn) (os:=os) (e:=3) (ss:=l) (ts:=l.mergeSort fun x y=>decide (x≤y)) (by simp) hbase hb h1 h2 h3
  unfold Ow
  rw [ic_length,List.length_mergeSort]
  exact this
set_option maxRecDepth 100000 in
set_option maxHeartbeats 1000000 in
theorem read_arg (A:Option Addr) (c:Nat) (b:List UInt8) (x:Int) (w:World) (hx:x<0∨(b.length:Int)<x) :
 Calls Tryz.prog 148 #[.slice A b.length c,.int .i64 x] w fun e w'=>e = .returned (.tuple #[.slice none 0 0,.int .i64 0,.int .i64 2])∧w'=w:=by
 by_cases h0:x<0
 ·go_enter Tryz.func148,Tryz.ntmps148
  go_wp2_with fail
  go_step3
  go_wp2
  rw [Exit.noGoto_ret]
  go_ret3
  exact ⟨rfl,rfl⟩
 ·have h1:(b.length:Int)<x:=by omega
  go_enter Tryz.func148,Tryz.ntmps148
  go_wp2_with fail
  go_step3
  go_wp2
  rw [Exit.noGoto_ret]
  go_ret3
  exact ⟨rfl,rfl⟩
theorem place1_yes {b:List UInt8} {p:Nat} (hp:p≤b.length) (h:(readN b p).2.2=0):place1 b (p:Int)=(p:Int) :: chain b b.length p:=by
 unfold place1
 rw [if_pos ⟨by omega,by omega,by simpa using h⟩]
 simp
theorem place1_no {b:List UInt8} {p:Nat} (h:(readN b p).2.2≠0):place1 b (p:Int)=[]:=by
 unfold place1
 rw [if_neg (fun ⟨_,_,h1⟩=>h (by simpa using h1))]
theorem place1_arg {b:List UInt8} {x:Int} (h:x<0∨(b.length:Int)<x):place1 b x=[]:=by
 unfold place1
 rw [if_neg (fun ⟨h1,h2,_⟩=>by omega)]
set_option maxRecDepth 100000 in
set_option maxHeartbeats 2000000 in
theorem places_any (A1 A2:Option Addr) (c1 c2:Nat) (b:List UInt8) (known:List Int) (w:World) (h1:Rd w w.heap.size A1 b.length (bc b)) (hc1:b.length≤c1) (hb:b.length≤140737488355328) (h2:Rd w w.heap.size A2 known.length (ic known)) (hk:known.length≤140737488355328) (hM:(placesU b known).length≤1000000000) :
 Calls Tryz.prog 163 #[.slice A1 b.length c1,.slice A2 known.length c2] w fun e w'=>∃ v,e = .returned v∧Ow w' w.heap.size 3 v (ic (placesN b known))∧Below w.heap.size w w':=by
 obtain ⟨i0,hi,hzi,hz1,hz2⟩:=info_parts Tryz.infoInt
 go_enter Tryz.func163,Tryz.ntmps163
 go_wp2_with fail
 go_loopw [5,13] (fun vo vi wr=>∃ k:Nat,k≤known.length∧vi = .int .i64 k∧Ow wr w.heap.size 3 vo (ic (placesU b (known.take k)))∧Below w.heap.size w wr) (fun _ vi _=>known.length - (intOf vi).toNat)
 case atStart=>exact ⟨0,Nat.zero_le _,rfl,Ow.nil _ _ _,Below.refl _ _⟩
 case round=>
  obtain ⟨k,hkl,rfl,hown,hbel⟩:=hrel
  have hszb:=hbel.size
  have hr1:=(h1.below hbel)
  have hr2:=(h2.below hbel)
  by_cases hlt:k<known.length
  ·obtain ⟨b2,o2,rfl,_,hc2⟩:=hr2.at_ hlt
   have hcell:=hc2 k _ (ic_get known k hlt)
   have hT:=placesU_take b known k hlt
   have hTle:=placesU_le b known (k+1)
   generalize known[k]=x at hcell hT
   clear hc2 hr2
   by_cases hx:x<0∨(b.length:Int)<x
   ·rw [place1_arg hx,List.append_nil] at hT
    have HT:=Lib.hid hT
    clear hT
    go_wp2_with (go_at_call 148;refine (read_arg A1 c1 b x wr hx).mono ?_;rintro e w2 ⟨rfl,rfl⟩)
    go_roundw
    case rel=>exact ⟨k+1,by omega,by go_num,by rw [HT.out];exact hown,hbel⟩
    case measure=>simp [intOf];omega
   ·obtain ⟨p,rfl⟩:∃ p:Nat,x=(p:Int):=⟨x.toNat,by omega⟩
    have hp:p≤b.length:=by omega
    clear hx
    by_cases hok:(readN b p).2.2=0
    ·rw [place1_yes hp hok] at hT
     have hgood:=Good.of_read hp hok
     have HT:=Lib.hid hT
     have HG:=Lib.hid hgood
     have HO:=Lib.hid hok
     have hlen0:(placesU b (known.take k)).length+1≤1000000000:=by
      have:=congrArg List.length hT
      rw [List.length_append,List.length_cons] at this
      omega
     clear hT hgood hok
     go_wp2_with (first
      | (go_at_call 148;refine (read_any A1 c1 b p wr (hr1.more hszb) hc1 hb hp).mono ?_;rw [HO.out];rintro e w2 ⟨v2,rfl,_,hb2⟩;have hb2':=hb2.mono hszb)
      | (at_builtin;refine wpList_app _ rfl _ _ _ _ rfl w.heap.size 3 i0 (.int .i64 0) 8 Tryz.underlying48 hi hzi hz1 hz2 rfl (by omega) _ _ ((hown.far hb2).alloc _) rfl 1 [_] (one_src Tryz.underlying48 _ rfl) (by simp;omega) (by have:=hb2.size;simp;omega) ?_;intro v3 w3 hown3 hgr3 hsz3))
     have hbe3:Below w.heap.size w w3:=(hbel.trans hb2').trans ((((Gr.refl w2 _).alloc _).trans hgr3).below hown.lt (by have:=hb2.size;omega))
     have hown3':Ow w3 w.heap.size 3 v3 (ic (placesU b (known.take k)++[(p:Int)])):=by
      have e1:ic (placesU b (known.take k)++[(p:Int)])=ic (placesU b (known.take k))++[.int .i64 (p:Int)]:=by simp [ic]
      rw [e1];exact hown3
     obtain ⟨acc,hacc⟩:∃ acc,acc=placesU b (known.take k)++[(p:Int)]:=⟨_,rfl⟩
     have hE:acc++chain b b.length p=placesU b (known.take (k+1)):=by rw [HT.out,hacc];simp
     rw [←hacc] at hown3'
     have HE:=Lib.hid hE
     have hg:=HG.out
     clear hown3 hacc hE hb2' hgr3 hbel hszb hr1 hown HT HG HO hlen0
     go_loopw [5,7] (fun vo vp wi=>∃ (f q:Nat) (acc:List Int),vp = .int .i64 q∧Hid (acc++chain b f q=placesU b (known.take (k+1)))∧Hid (Good b q)∧b.length≤f+q∧q<b.length∧Ow wi w.heap.size 3 vo (ic acc)∧Below w.heap.size w wi) (fun _ vp _=>b.length - (intOf vp).toNat)
     case atStart=>exact ⟨b.length,p,acc,rfl,HE,hg,by omega,hg.lt,hown3',hbe3⟩
     case round=>
      clear hown3' hbe3 HE hg hp
      obtain ⟨f,q,acc,rfl,HE,HG,hf,hq,hown,hbel⟩:=hrel
      obtain ⟨wi,rfl⟩:∃ wi,wi=wr:=⟨_,rfl⟩
      obtain ⟨f',rfl⟩:∃ f',f=f'+1:=⟨f - 1,by omega⟩
      have hszb:=hbel.size
      obtain ⟨b1,o1,rfl,_,hc⟩:=(h1.below hbel).at_ hq
      have hy0:=hc q _ (bc_get b q hq)
      have e:=HE.out
      rw [chain] at e
      have hG:=HG.out
      have hGn:=hG.next
      have hgb:(b.getD q 0).toNat=b[q].toNat:=by rw [List.getD_eq_getElem?_getD,List.getElem?_eq_getElem hq];rfl
      rw [hgb] at e hGn
      have hy256:b[q].toNat<256:=UInt8.toNat_lt _
      generalize b[q].toNat=y at e hGn hy0 hy256
      clear hgb hG
      by_cases hy:0<y∧y<64
      ·obtain ⟨hya,hyb⟩:=hy
       rw [if_pos ⟨hya,hyb⟩] at e
       have hG':=hGn hya hyb
       have hq':=hG'.lt
       have hz0:=hc (q+(1+y)) _ (bc_get b (q+(1+y)) hq')
       have hgb:(b.getD (q+(1+y)) 0).toNat=b[q+(1+y)].toNat:=by rw [List.getD_eq_getElem?_getD,List.getElem?_eq_getElem hq'];rfl
       rw [hgb] at e
       have hz256:b[q+(1+y)].toNat<256:=UInt8.toNat_lt _
       generalize b[q+(1+y)].toNat=z at e hz0 hz256
       have HG':=Lib.hid hG'
       clear hgb hc hGn hG'
       by_cases hz:0<z∧z<64
       ·obtain ⟨hza,hzb⟩:=hz
        rw [if_pos ⟨hza,hzb⟩,←List.append_assoc] at e
        have hal:acc.length+1≤1000000000:=by
         have:=congrArg List.length e
         rw [List.length_append,List.length_append,List.length_singleton] at this
         omega
        have E:=Lib.hid e
        clear e
        go_wp2_with (at_builtin;refine wpList_app _ rfl _ _ _ _ rfl w.heap.size 3 i0 (.int .i64 0) 8 Tryz.underlying48 hi hzi hz1 hz2 rfl (by omega) _ _ (hown.alloc _) rfl 1 [_] (one_src Tryz.underlying48 _ rfl) (by simp;omega) (by simp;omega) ?_;intro v4 w4 hown4 hgr4 hsz4)
        go_roundw
        case rel=>
         refine ⟨f',q+(1+y),acc++[((q+(1+y):Nat):Int)],by go_num,E.out,HG',by omega,hq',?_,hbel.trans ((((Gr.refl wi _).alloc _).trans hgr4).below hown.lt hszb)⟩
         have e1:ic (acc++[((q+(1+y):Nat):Int)])=ic acc++[.int .i64 ((q:Int)+(1+(y:Int)))]:=by simp [ic]
         rw [e1];exact hown4
        case measure=>simp [intOf];omega
       ·rw [if_neg hz,List.nil_append] at e
        have E:=Lib.hid e
        have hz':z=0∨64≤z:=by omega
        clear e hz
        rcases hz' with hz' | hz'
        ·have hz'':z≤0:=by omega
         clear hz'
         go_wp2
         go_roundw
         case rel=>exact ⟨f',q+(1+y),acc,by go_num,E.out,HG',by omega,hq',hown,hbel⟩
         case measure=>simp [intOf];omega
        ·have hz'':0<z:=by omega
         go_wp2
         go_roundw
         case rel=>exact ⟨f',q+(1+y),acc,by go_num,E.out,HG',by omega,hq',hown,hbel⟩
         case measure=>simp [intOf];omega
      ·rw [if_neg hy,List.append_nil] at e
       have E:=Lib.hid e
       have hy':y=0∨64≤y:=by omega
       clear e hy hGn hc
       rcases hy' with hy' | hy'
       ·have hy'':y≤0:=by omega
        clear hy'
        go_wp2
        go_roundw
        case rel=>exact ⟨k+1,by omega,by go_num,by rw [←E.out];exact hown,hbel⟩
        case measure=>simp [intOf];omega
       ·have hy'':0<y:=by omega
        go_wp2
        go_roundw
        case rel=>exact ⟨k+1,by omega,by go_num,by rw [←E.out];exact hown,hbel⟩
        case measure=>simp [intOf];omega
    ·rw [place1_no hok,List.append_nil] at hT
     have HT:=Lib.hid hT
     have hne:((((readN b p).2.2:Nat):Int) != 0)=true:=by simp;omega
     clear hT hok
     go_wp2_with (go_at_call 148;refine (read_any A1 c1 b p wr (hr1.more hszb) hc1 hb hp).mono ?_;rintro e w2 ⟨v2,rfl,_,hb2⟩)
     go_roundw
     case rel=>exact ⟨k+1,by omega,by go_num,by rw [HT.out];exact hown.far hb2,hbel.trans (hb2.mono hszb)⟩
     case measure=>simp [intOf];omega
  ·have hkk:k=known.length:=by omega
   subst hkk
   rw [List.take_of_length_le (by omega)] at hown
   go_wp2_with (go_at_call 178;refine (isort_any _ _ wr w.heap.size hown (by omega)).mono ?_;rintro e w2 ⟨rfl,hown2,hgr2⟩)
   go_ret
   exact ⟨_,rfl,hown2,hbel.trans (hgr2.below hown.lt hszb)⟩
end Go.Proofs.YtlipmlbijddopaaGreatDoor
set_option linter.unusedVariables false
set_option linter.unusedSimpArgs false
namespace Go.Proofs.YtlipmlbijddopaaGreatDoor
open Go.RowKit
def readZ (b:List UInt8) (x:Int):List (List UInt8) × Nat × Nat:=if 0≤x∧x≤b.length then readN b x.toNat else ([],0,2)
theorem rreadZ_any (A:Option Addr) (c L:Nat) (b:List UInt8) (x:Int) (w:World) (hL:b.length=L) (h:Rd w w.heap.size A L (bc b)) (hcap:L≤c) (hb:L≤140737488355328) :
 Calls Tryz.prog 142 #[.slice A L c,.int .i64 x] w fun e w'=>∃ v,e = .returned (.tuple #[v,.int .i64 (readZ b x).2.1,.int .i64 (readZ b x).2.2])∧Ow w' w.heap.size 9 v (sc (readZ b x).1)∧Below w.heap.size w w':=by
 subst hL
 unfold readZ
 by_cases hx:0≤x∧x≤b.length
 ·rw [if_pos hx]
  have:=rread_any A c b x.toNat w h hcap hb (by omega)
  rw [show ((x.toNat:Nat):Int)=x by omega] at this
  exact this
 ·rw [if_neg hx]
  refine (rread_arg A c b x w (by omega)).mono ?_
  rintro e w' ⟨rfl,rfl⟩
  exact ⟨_,rfl,Ow.nil _ _ _,Below.refl _ _⟩
theorem beq_at (A1 A2:Option Addr) (c1 c2 L1 L2:Nat) (l m:List UInt8) (w:World) (B:Nat) (h1':l.length=L1) (h2':m.length=L2) (h1:Rd w B A1 L1 (bc l)) (h2:Rd w B A2 L2 (bc m)) :
 Calls Tryz.prog 43 #[.slice A1 L1 c1,.slice A2 L2 c2] w fun e w'=>e = .returned (.bool (decide (l=m)))∧w'=w:=by
 subst h1' h2'
 exact beq_any A1 A2 c1 c2 l m w B h1 h2
theorem Ow.len {w:World} {base:Nat} {e:TypeId} {A:Option Addr} {n c:Nat} {xs:List Value} (h:Ow w base e (.slice A n c) xs):xs.length=n:=by
 obtain ⟨A',c',h1,_⟩:=h.form
 injection h1 with _ h2 _
 exact h2.symm
theorem Ow.row {w:World} {base g:Nat} {e:TypeId} {n c:Nat} {xs:List Value} (h:Ow w base e (.slice (some ⟨g,0,none⟩) n c) xs):w.ownsRow base e 1 (.slice (some ⟨g,0,none⟩) n c) n xs:=by
 have hl:=h.len
 subst hl
 exact h
theorem Ow.cell_at {w:World} {base g:Nat} {e:TypeId} {n c:Nat} {xs:List Value} (h:Ow w base e (.slice (some ⟨g,0,none⟩) n c) xs) (k:Nat) (hk:k<n):w.cell? ⟨g,k,none⟩=xs[k]?:=World.ownsRow.cellAt h.row k (by omega)
theorem Ow.frozen_at {w:World} {base g:Nat} {e:TypeId} {n c:Nat} {xs:List Value} (h:Ow w base e (.slice (some ⟨g,0,none⟩) n c) xs) (k:Nat):w.frozen? ⟨g,k,none⟩=false:=World.ownsRow.frozenAt h.row k
theorem Ow.set_at {w:World} {base g:Nat} {e:TypeId} {n c:Nat} {xs:List Value} (h:Ow w base e (.slice (some ⟨g,0,none⟩) n c) xs) (k:Nat) (u:Value):Ow (w.setCell ⟨g,k,none⟩ u) base e (.slice (some ⟨g,0,none⟩) n c) (xs.set k u):=by
 have h1:=(World.ownsRow.stored h.row k u).1
 have hl:=h.len
 unfold Ow
 rw [List.length_set,hl]
 exact h1
end Go.Proofs.YtlipmlbijddopaaGreatDoor
set_option linter.unusedVariables false
namespace Go.Proofs.YtlipmlbijddopaaGreatDoor
open Go.RowKit Go.Shelf
attribute [local go_sem] Oper.semAt_some
set_option maxHeartbeats 1000000 in
theorem suffixes_any (A:Option Addr) (len cap:Nat) (w:World) :
 Calls Tryz.prog 164 #[.slice A len cap] w fun e w'=>e = .returned (.func (.func 179) #[] #[.pointer (some ⟨w.heap.size,0,none⟩)])∧w'=w.alloc (.cells #[.slice A len cap] 38):=by
 go_enter Tryz.func164,Tryz.ntmps164
 go_wp2_with fail
 go_ret
 exact ⟨rfl,rfl⟩
def encS (A:Option Addr) (len cap:Nat) (x:Fin len):Array Value:=#[.int .i64 (x.1:Int),.slice (cutA A cap x.1) (len - x.1) (cap - x.1)]
set_option maxRecDepth 100000 in
set_option maxHeartbeats 2000000 in
theorem suffixes1_in (n:Nat) (hn:1≤n) (l Bs n₀ len cap:Nat) (A:Option Addr) (hlen:len≤140737488355328) (hcap:len≤cap) (hBs:Bs<n₀) (J Jx:List (Fin len)→World→Prop)
 (hY:∀ pre x W,J pre W→pre.length<len→YieldAt Fence.wide (n - 1) Tryz.prog l (encS A len cap x) W fun e W'=>
  (e = .returned (.bool true)∧J (pre++[x]) W'∧Below n₀ W W')∨(e = .returned (.bool false)∧Jx (pre++[x]) W'))
 (W:World) (hc:W.cell? ⟨Bs,0,none⟩=some (.slice A len cap)) (h0:J [] W) :
 CallsIn Fence.wide n Tryz.prog 179 #[.func (.yield l) #[] #[],.pointer (some ⟨Bs,0,none⟩)] W fun e W'=>(∃ v,e = .returned v)∧
  ((∃ ys,ys=List.finRange len∧J ys W')∨(∃ pre,(∃ k,pre=(List.finRange len).take k)∧Jx pre W')):=by
 refine callsIn_of_wp Tryz.func179 rfl trivial ?_ rfl
 simp only [Tryz.ntmps179,List.size_toArray,List.length_cons,List.length_nil,Nat.reduceAdd,Nat.reduceSub,Array.replicate_succ,Array.replicate_zero,List.push_toArray,List.append_toArray,List.nil_append,List.cons_append]
 gi_wp2
 gi_loopw [6] (fun i wr=>∃ k:Nat,k≤len∧i = .int .i64 k∧J ((List.finRange len).take k) wr∧Below n₀ W wr)
  (fun i _=>len - (intOf i).toNat)
 case atStart=>exact ⟨0,Nat.zero_le _,rfl,h0,Below.refl _ _⟩
 case round=>
  obtain ⟨k,hk,rfl,hJs,hnx⟩:=hrel
  have hc':=(hnx.cell (p:=⟨Bs,0,none⟩) hBs).trans hc
  by_cases hlt:k<len
  ·have hsl:=run_sl_l (P:=Tryz.prog) wr 38 9 Tryz.underlying38 szStr A len cap k (by omega)
   obtain ⟨fn,tmps,assign,body,hy,hR⟩:=hY _ ⟨k,hlt⟩ wr hJs (by simp;omega)
   unfold encS at hy
   dsimp only at hy
   gi_wp2
   refine hR.mono ?_
   rintro e W3 (⟨rfl,hJ3,hk3⟩ | ⟨rfl,hJx3⟩)
   ·gi_wp2
    go_roundw
    case rel=>exact ⟨k+1,by omega,by simp,by rw [List.take_succ_eq_append_getElem (by simpa using hlt)];simpa using hJ3,hnx.trans hk3⟩
    case measure=>simp [intOf];omega
   ·gi_wp2
    refine bodyPost_ret (results_none rfl _ _ _) rfl ?_
    exact ⟨⟨_,rfl⟩,.inr ⟨_,⟨k+1,rfl⟩,by rw [List.take_succ_eq_append_getElem (by simpa using hlt)];simpa using hJx3⟩⟩
  ·obtain rfl:k=len:=by omega
   gi_wp2
   go_end0
   exact ⟨⟨_,rfl⟩,.inl ⟨_,rfl,by rw [List.take_of_length_le (by simp)] at hJs;exact hJs⟩⟩
theorem suffixes_stops (n:Nat) (hn:1≤n) (Bs n₀ len cap:Nat) (A:Option Addr) (hlen:len≤140737488355328) (hcap:len≤cap) (w:World) (hBs:Bs<n₀) (hn₀:n₀≤w.heap.size)
 (hc:w.cell? ⟨Bs,0,none⟩=some (.slice A len cap)) :
 SeqStopsK Fence.wide n Tryz.prog 179 #[.pointer (some ⟨Bs,0,none⟩)] (encS A len cap) (Below n₀) (fun ys=>ys=List.finRange len) (fun pre=>∃ k,pre=(List.finRange len).take k) len w:=fun l J Jx W hW _ _ hY h0=>
 suffixes1_in n hn l Bs n₀ len cap A hlen hcap hBs J Jx hY W ((hW.cell (p:=⟨Bs,0,none⟩) (by show Bs<_;omega)).trans hc) h0
end Go.Proofs.YtlipmlbijddopaaGreatDoor
set_option linter.unusedVariables false
namespace Go.Proofs.YtlipmlbijddopaaGreatDoor
open Go.RowKit
section
variable {P:Program} {ops:Array Oper} {Q:Exit→Act→World→Prop} {md:Region.Mode} {S:World→Prop} {l n:Nat}
theorem rows_wide {n:Nat} {row:String} {args:Array Value} {w:World} {R:Value→World→Prop} (h:Rows P row args w R):RowsIn Fence.wide n P row args w R:=by
 intro c cs _
 obtain ⟨v,w',r,s⟩:=h c cs
 exact ⟨v,w',r,stepsIn_wide.2 s⟩
theorem wpOp_round (hd:∀ (i:Nat) (o:Oper) c,ops[i]? = some o→o.op≠.defer c) (hQ:¬ LetsOut Q) {i:Nat} {K:Act→World→Prop} {a:Act} {w:World} (h:wpOp P ops Q i K a w) :
 wpOpIn (Fence.wide.inRound l) n P ops Q i K a w:=by
 unfold wpOp at h
 unfold wpOpIn
 cases ho:ops[i]? with
 | none=>simpa [ho] using h
 | some o=>
   simp only [ho] at h ⊢
   split
   ·rename_i hw
    simp only [hw,if_true] at h
    have h:=h.resolve_right (fun h=>hQ h.2)
    unfold Oper.wp at h
    refine ⟨fun _ _=>trivial,?_⟩
    rw [Oper.semAt_eq _ _ _ (fun c=>hd i o c ho)]
    generalize (execOp a.eval o).run P w=r at *
    cases r with
    | ok x w'=>
      cases x <;> simp only [Oper.upon] at h <;> simp only [Oper.uponIn]
      case value u=>exact h
      case skip=>exact h
      case defer d=>exact h
      case enter f args=>exact ⟨fun e=>by simp [Fence.wide] at e,CallsIn.inRound l (callsIn_wide.2 h)⟩
      case row row args=>exact ⟨fun e=>by simp [Fence.wide] at e,rows_wide h⟩
    | halt x w'=>
      cases x <;> simp only [Oper.upon] at h <;> simp only [Oper.uponIn]
      exact h
   ·rename_i hw
    simp only [hw] at h
    exact ⟨fun _ _=>trivial,h⟩
theorem wpAny_round (hd:∀ (i:Nat) (o:Oper) c,ops[i]? = some o→o.op≠.defer c) (hQ:¬ LetsOut Q):∀ (fuel:Nat) (listed:Array Bool) (a:Act) (w:World),wpAny P md ops Q fuel listed a w→wpAnyIn (Fence.wide.inRound l) n P md ops Q fuel listed a w
 | 0,_,_,_,h=>h
 | fuel+1,listed,a,w,h=>⟨h.1,fun i hi=>wpOpIn_mono (fun a w h=>wpAny_round hd hQ fuel _ a w h) (wpOp_round hd hQ (h.2 i hi))⟩
theorem region_round {id:Nat} {a:Act} {w:World} (hm:P.follows .mixedOrders=true) (hd:(ops.all fun o=>match o.op with | .defer _=>false | _=>true)=true) (hQ:¬ LetsOut Q) (hS:S w.drew)
 (h:S w.drew→wpAnyH P .any ops Q S ops.size (Array.replicate ops.size false) a w.drew):(Code.region id ops true).wpIn (Fence.wide.inRound l) n P Q a w:=by
 refine wpIn_region_any hm (wpAny_round (fun i o c ho e=>?_) hQ _ _ _ _ (wpAny_of_held _ _ _ _ (h hS)))
 have:=Array.all_eq_true_iff_forall_mem.1 hd o (Array.mem_of_getElem? ho)
 simp [e] at this
end
theorem Gr.cell {w w':World} {v v':Value} (h:Gr w w' v v') {p:Addr} (hp:p.block<w.heap.size) (hne:∀ g,v.ownBlock=some g→p.block≠g):w'.cell? p=w.cell? p:=
 World.cell?_of_block (h.1.block p.block hp (fun e=>hne _ e.symm rfl))
theorem Gr.frozen {w w':World} {v v':Value} (h:Gr w w' v v') {p:Addr} (hp:p.block<w.heap.size) (hne:∀ g,v.ownBlock=some g→p.block≠g):w'.frozen? p=w.frozen? p:=
 World.frozen?_of_block (h.1.block p.block hp (fun e=>hne _ e.symm rfl))
theorem Ow.turn {w w':World} {base:Nat} {e:TypeId} {v:Value} {xs:List Value} (h:Ow w base e v xs) {row:Option Nat} (hg:w.grownBy w' row) (hr:∀ r,row=some r→∃ o:Obj,w.heap[r]? = some o∧o.isCells=false):Ow w' base e v xs:=by
 refine World.ownsRow.kept h hg ?_
 rcases h.2 with ⟨rfl,_⟩ | ⟨g,cap,cur,rfl,_,hc,_⟩
 ·exact .inl rfl
 ·refine .inr (fun e=>?_)
  obtain ⟨o,ho,hcells⟩:=hr g (by rw [←e];rfl)
  rw [hc] at ho
  cases ho
  cases hcells
end Go.Proofs.YtlipmlbijddopaaGreatDoor
set_option linter.unusedVariables false
namespace Go.Proofs.YtlipmlbijddopaaGreatDoor
open Go.RowKit Go.Shelf
attribute [local go_sem] Oper.semAt_some
def hit (b:List UInt8) (s:List (List UInt8)) (x:Int):Bool:=decide ((readN b x.toNat).2.2=0) && decide ((readN b x.toNat).1=s) && decide (x<16384)
def ptr (x:Int):List UInt8:=[UInt8.ofNat (192+x.toNat / 256),UInt8.ofNat x.toNat]
def appGo (b:List UInt8) (all:List Int) (n:List (List UInt8)):Nat→Nat→List UInt8
 | 0,_=>b++labS n++[0]
 | f+1,i=>match all.find? (hit b (n.drop i)) with
   | some x=>b++labS (n.take i)++ptr x
   | none=>appGo b all n f (i+1)
def appN (b:List UInt8) (known:List Int) (n:List (List UInt8)):List UInt8:=appGo b (placesN b known) n n.length 0
theorem cell_of_box {W:World} {B:Nat} {v:Value} {t:TypeId} (h:W.heap[B]? = some (.cells #[v] t (0,0))):W.cell? ⟨B,0,none⟩=some v∧W.frozen? ⟨B,0,none⟩=false:=by
 constructor <;> simp [World.cell?,World.frozen?,h]
theorem new_cell (W:World) (v:Value) (t:TypeId):(W.alloc (.cells #[v] t)).cell? ⟨W.heap.size,0,none⟩=some v∧(W.alloc (.cells #[v] t)).frozen? ⟨W.heap.size,0,none⟩=false:=
 cell_of_box (World.alloc_heap_new W _)
theorem alloc_cell {W:World} {a:Addr} {v:Value} (o:Obj) (h:W.cell? a=some v∧W.frozen? a=false):(W.alloc o).cell? a=some v∧(W.alloc o).frozen? a=false:=
 ⟨cell_kept h.1 (World.grownBy_alloc W o none) (fun r e=>by cases e),(frozen_kept h.1 (World.grownBy_alloc W o none) (fun r e=>by cases e)).trans h.2⟩
def w4 (w:World) (A1 A3:Option Addr) (l1 c1 l3 c3:Nat):World:=(((w.alloc (.cells #[.slice A1 l1 c1] 22)).alloc (.cells #[.slice A3 l3 c3] 38)).alloc (.cells #[.slice none 0 0] 22)).alloc (.cells #[.int .i64 0] 63)
theorem w4_size (w:World) (A1 A3:Option Addr) (l1 c1 l3 c3:Nat):(w4 w A1 A3 l1 c1 l3 c3).heap.size=w.heap.size+4:=by simp [w4]
theorem w4_below (w:World) (A1 A3:Option Addr) (l1 c1 l3 c3:Nat):Below w.heap.size w (w4 w A1 A3 l1 c1 l3 c3):=((((Below.refl _ w).alloc (Nat.le_refl _) _).alloc (by simp) _).alloc (by simp;omega) _).alloc (by simp;omega) _
theorem w4_0 (w:World) (A1 A3:Option Addr) (l1 c1 l3 c3:Nat):(w4 w A1 A3 l1 c1 l3 c3).cell? ⟨w.heap.size,0,none⟩=some (.slice A1 l1 c1):=
 (alloc_cell _ (alloc_cell _ (alloc_cell _ (new_cell w (.slice A1 l1 c1) 22)))).1
theorem w4_1 (w:World) (A1 A3:Option Addr) (l1 c1 l3 c3:Nat):(w4 w A1 A3 l1 c1 l3 c3).cell? ⟨w.heap.size+1,0,none⟩=some (.slice A3 l3 c3):=by
 have:=new_cell (w.alloc (.cells #[.slice A1 l1 c1] 22)) (.slice A3 l3 c3) 38
 rw [World.size_alloc] at this
 exact (alloc_cell _ (alloc_cell _ this)).1
theorem w4_2 (w:World) (A1 A3:Option Addr) (l1 c1 l3 c3:Nat):(w4 w A1 A3 l1 c1 l3 c3).cell? ⟨w.heap.size+1+1,0,none⟩=some (.slice none 0 0)∧(w4 w A1 A3 l1 c1 l3 c3).frozen? ⟨w.heap.size+1+1,0,none⟩=false:=by
 have:=(new_cell ((w.alloc (.cells #[.slice A1 l1 c1] 22)).alloc (.cells #[.slice A3 l3 c3] 38)) (.slice none 0 0) 22)
 rw [World.size_alloc,World.size_alloc] at this
 exact alloc_cell _ this
theorem w4_3 (w:World) (A1 A3:Option Addr) (l1 c1 l3 c3:Nat):(w4 w A1 A3 l1 c1 l3 c3).cell? ⟨w.heap.size+1+1+1,0,none⟩=some (.int .i64 0)∧(w4 w A1 A3 l1 c1 l3 c3).frozen? ⟨w.heap.size+1+1+1,0,none⟩=false:=by
 have:=(new_cell (((w.alloc (.cells #[.slice A1 l1 c1] 22)).alloc (.cells #[.slice A3 l3 c3] 38)).alloc (.cells #[.slice none 0 0] 22)) (.int .i64 0) 63)
 rw [World.size_alloc,World.size_alloc,World.size_alloc] at this
 exact this
def Vars (H:Nat) (w:World) (A1 A3:Option Addr) (l1 c1 l3 c3:Nat):Prop:=
 H+4≤w.heap.size∧w.cell? ⟨H,0,none⟩=some (.slice A1 l1 c1)∧w.cell? ⟨H+1,0,none⟩=some (.slice A3 l3 c3)∧(w.cell? ⟨H+1+1,0,none⟩=some (.slice none 0 0)∧w.frozen? ⟨H+1+1,0,none⟩=false)∧(w.cell? ⟨H+1+1+1,0,none⟩=some (.int .i64 0)∧w.frozen? ⟨H+1+1+1,0,none⟩=false)
theorem Vars.below {H:Nat} {w w':World} {A1 A3:Option Addr} {l1 c1 l3 c3:Nat} (h:Vars H w A1 A3 l1 c1 l3 c3) {n:Nat} (hb:Below n w w') (hn:H+4≤n):Vars H w' A1 A3 l1 c1 l3 c3:=by
 obtain ⟨h0,h1,h2,⟨h3,h4⟩,h5,h6⟩:=h
 exact ⟨by have:=hb.size;omega,(hb.cell (p:=⟨H,0,none⟩) (by show H<n;omega)).trans h1,(hb.cell (p:=⟨H+1,0,none⟩) (by show H+1<n;omega)).trans h2,
  ⟨(hb.cell (p:=⟨H+1+1,0,none⟩) (by show H+1+1<n;omega)).trans h3,(hb.frozen (p:=⟨H+1+1,0,none⟩) (by show H+1+1<n;omega)).trans h4⟩,
  (hb.cell (p:=⟨H+1+1+1,0,none⟩) (by show H+1+1+1<n;omega)).trans h5,(hb.frozen (p:=⟨H+1+1+1,0,none⟩) (by show H+1+1+1<n;omega)).trans h6⟩
theorem w4_vars (w:World) (A1 A3:Option Addr) (l1 c1 l3 c3:Nat):Vars w.heap.size (w4 w A1 A3 l1 c1 l3 c3) A1 A3 l1 c1 l3 c3:=
 ⟨by rw [w4_size];omega,w4_0 ..,w4_1 ..,w4_2 ..,w4_3 ..⟩
end Go.Proofs.YtlipmlbijddopaaGreatDoor
