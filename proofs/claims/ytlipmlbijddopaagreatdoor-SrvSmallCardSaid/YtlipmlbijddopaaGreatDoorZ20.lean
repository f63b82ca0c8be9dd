/-
  RefApp
-/
import Derived.Test.YtlipmlbijddopaaGreatDoorZ05
import Derived.Test.YtlipmlbijddopaaGreatDoorZ09
import Derived.Test.YtlipmlbijddopaaGreatDoorZ06
import Derived.Test.YtlipmlbijddopaaGreatDoorZ08
import Derived.Deep.DeepCutAuto
set_option linter.unusedVariables false
set_option linter.unusedSimpArgs false
namespace Go.Proofs.YtlipmlbijddopaaGreatDoor
open Go.RowKit
theorem cmpB_at (a b:List UInt8) (k:Nat) (ha:k<a.length) (hb:k<b.length):Lib.compareBytes (a.drop k) (b.drop k)=if a[k]<b[k] then -1 else if b[k]<a[k] then 1 else Lib.compareBytes (a.drop (k+1)) (b.drop (k+1)):=by
 rw [List.drop_eq_getElem_cons ha,List.drop_eq_getElem_cons hb,Lib.compareBytes]
set_option maxRecDepth 100000 in
set_option maxHeartbeats 400000 in
theorem rlabel_any (a b:List UInt8) (w:World) (ha:a.length≤140737488355328) (hb:b.length≤140737488355328) :
 Calls Tryz.prog 136 #[.string ⟨a.toArray⟩,.string ⟨b.toArray⟩] w fun e w'=>e = .returned (.int .i64 (Lib.compareBytes a b))∧∃ q,w'=w.drewN q:=by
 go_enter Tryz.func136,Tryz.ntmps136
 go_wp2_with fail
 go_loopw [5] (fun i wr=>∃ k q:Nat,k≤a.length∧k≤b.length∧i = .int .i64 k∧Hid (Lib.compareBytes (a.drop k) (b.drop k)=Lib.compareBytes a b)∧wr=w.drewN q) (fun i _=>a.length - (intOf i).toNat)
 case atStart=>exact ⟨0,0,by omega,by omega,rfl,rfl,rfl⟩
 case round=>
  obtain ⟨k,q,hk1,hk2,rfl,HR,hwr⟩:=hrel
  have HW:=Lib.hid hwr
  clear hwr
  by_cases hlt:k<a.length∧k<b.length
  ·obtain ⟨hka,hkb⟩:=hlt
   have ix:=fun W=>idxStr W a k a[k] (by simp [hka])
   have iy:=fun W=>idxStr W b k b[k] (by simp [hkb])
   have e:=HR.out
   rw [cmpB_at a b k hka hkb] at e
   have l1:a[k]<b[k] ↔ (a[k].toNat:Int)<(b[k].toNat:Int):=by rw [UInt8.lt_iff_toNat_lt];omega
   have l2:b[k]<a[k] ↔ (b[k].toNat:Int)<(a[k].toNat:Int):=by rw [UInt8.lt_iff_toNat_lt];omega
   generalize a[k]=x at ix e l1 l2
   generalize b[k]=y at iy e l1 l2
   by_cases hxy:(x.toNat:Int)=(y.toNat:Int)
   ·rw [if_neg (by rw [l1];omega),if_neg (by rw [l2];omega)] at e
    have b1:((x.toNat:Int) != (y.toNat:Int))=false:=by simp;omega
    have E:=Lib.hid e
    clear e l1 l2 hxy
    go_wp2_with fail
    go_quiet (fail)
    go_wp2_with fail
    go_roundw
    case rel=>exact ⟨k+1,q+nq,by omega,by omega,by go_num,E.out,by rw [HW.out];simp⟩
    case measure=>simp [intOf];omega
   ·have b1:((x.toNat:Int) != (y.toNat:Int))=true:=by simp;omega
    by_cases hlt2:(x.toNat:Int)<(y.toNat:Int)
    ·rw [if_pos (l1.2 hlt2)] at e
     have b2:decide ((x.toNat:Int)<(y.toNat:Int))=true:=decide_eq_true hlt2
     have E:=Lib.hid e
     clear e l1 l2 hxy
     go_wp2_with fail
     go_quiet (fail)
     go_wp2_with fail
     go_quiet (fail)
     go_wp2_with fail
     go_ret
     exact ⟨ret_int E.out,_,by rw [HW.out];simp;rfl⟩
    ·rw [if_neg (by rw [l1];omega),if_pos (by rw [l2];omega)] at e
     have b2:decide ((x.toNat:Int)<(y.toNat:Int))=false:=decide_eq_false hlt2
     have E:=Lib.hid e
     clear e l1 l2 hxy
     go_wp2_with fail
     go_quiet (fail)
     go_wp2_with fail
     go_quiet (fail)
     go_wp2_with fail
     go_ret
     exact ⟨ret_int E.out,_,by rw [HW.out];simp;rfl⟩
  ·have e:=HR.out
   by_cases hka:k<a.length
   ·have hkb:k=b.length:=by omega
    subst hkb
    rw [List.drop_length,List.drop_eq_getElem_cons hka,Lib.compareBytes] at e
    have E:=Lib.hid e
    clear e
    go_wp2
    go_ret
    exact ⟨ret_int E.out,q,HW.out⟩
   ·have hkb:k=a.length:=by omega
    subst hkb
    rw [List.drop_length] at e
    by_cases hkb:a.length<b.length
    ·rw [List.drop_eq_getElem_cons hkb,Lib.compareBytes] at e
     have E:=Lib.hid e
     clear e
     go_wp2
     go_ret
     exact ⟨ret_int E.out,q,HW.out⟩
    ·rw [List.drop_eq_nil_of_le (by omega),Lib.compareBytes] at e
     have E:=Lib.hid e
     clear e
     go_wp2
     go_ret
     exact ⟨ret_int E.out,q,HW.out⟩
set_option maxRecDepth 100000 in
set_option maxHeartbeats 400000 in
theorem rcmp_any (A1 A2:Option Addr) (c1 c2:Nat) (a b:List (List UInt8)) (w:World) (B:Nat) (h1:Rd w B A1 a.length (sc a)) (h2:Rd w B A2 b.length (sc b)) (hl:a.length≤140737488355328) (hm:b.length≤140737488355328) (hx:∀ x∈a,x.length≤140737488355328) (hy:∀ x∈b,x.length≤140737488355328) :
 Calls Tryz.prog 94 #[.slice A1 a.length c1,.slice A2 b.length c2] w fun e w'=>e = .returned (.int .i64 (cmpN a b))∧∃ q,w'=w.drewN q:=by
 have HX:=Lib.hid hx
 have HY:=Lib.hid hy
 clear hx hy
 go_enter Tryz.func94,Tryz.ntmps94
 go_wp2_with fail
 go_loopw [5] (fun i wr=>∃ k q:Nat,k≤a.length∧k≤b.length∧i = .int .i64 ((k:Int)+1)∧Hid (cmpR (a.reverse.drop k) (b.reverse.drop k)=cmpN a b)∧wr=w.drewN q) (fun i _=>a.length+1 - (intOf i).toNat)
 case atStart=>exact ⟨0,0,by omega,by omega,rfl,rfl,rfl⟩
 case round=>
  obtain ⟨k,q,hk1,hk2,rfl,HR,hwr⟩:=hrel
  have r1:Rd wr B A1 a.length (sc a):=by rw [hwr];exact h1
  have r2:Rd wr B A2 b.length (sc b):=by rw [hwr];exact h2
  have HW:=Lib.hid hwr
  clear hwr h1 h2
  by_cases hlt:k<a.length∧k<b.length
  ·obtain ⟨hka,hkb⟩:=hlt
   obtain ⟨b1,o1,rfl,_,k1⟩:=r1.at_ (show 0<a.length by omega)
   obtain ⟨b2,o2,rfl,_,k2⟩:=r2.at_ (show 0<b.length by omega)
   have g1:=k1 (a.length - (k+1)) _ (sc_get a (a.length - (k+1)) (by omega))
   have g2:=k2 (b.length - (k+1)) _ (sc_get b (b.length - (k+1)) (by omega))
   have er1:a.reverse.drop k=a[a.length - (k+1)] :: a.reverse.drop (k+1):=by
    rw [List.drop_eq_getElem_cons (by simpa using hka),List.getElem_reverse]
    congr 2;omega
   have er2:b.reverse.drop k=b[b.length - (k+1)] :: b.reverse.drop (k+1):=by
    rw [List.drop_eq_getElem_cons (by simpa using hkb),List.getElem_reverse]
    congr 2;omega
   have e:=HR.out
   rw [er1,er2,cmpR] at e
   have g1':=List.getElem_mem (show a.length - (k+1)<a.length by omega)
   have g2':=List.getElem_mem (show b.length - (k+1)<b.length by omega)
   generalize a[a.length - (k+1)]=x at g1 e g1'
   generalize b[b.length - (k+1)]=y at g2 e g2'
   have hcon:=fun W=>rlabel_any x y W (HX.out _ g1' ) (HY.out _ g2')
   have HC:=Lib.hid hcon
   clear hcon er1 er2 k1 k2
   have w1:IntKind.i64.wrap ((a.length:Int) - ((k:Int)+1))=(a.length:Int) - ((k:Int)+1):=IntWalk.i64_in _ (by omega)
   have w2:IntKind.i64.wrap ((b.length:Int) - ((k:Int)+1))=(b.length:Int) - ((k:Int)+1):=IntWalk.i64_in _ (by omega)
   have w3:0≤(a.length:Int) - ((k:Int)+1):=by omega
   have w4:0≤(b.length:Int) - ((k:Int)+1):=by omega
   have w5:(a.length:Int) - ((k:Int)+1)<(a.length:Int):=by omega
   have w6:(b.length:Int) - ((k:Int)+1)<(b.length:Int):=by omega
   have w7:((a.length:Int) - ((k:Int)+1)).toNat=a.length - (k+1):=by omega
   have w8:((b.length:Int) - ((k:Int)+1)).toNat=b.length - (k+1):=by omega
   have w9:(k:Int)+1≤(a.length:Int):=by omega
   have w10:(k:Int)+1≤(b.length:Int):=by omega
   have w11:(0:Int)<(k:Int)+1:=by omega
   have w12:k+1≤a.length:=by omega
   have w13:k+1≤b.length:=by omega
   go_wp2_with fail
   generalize Lib.compareBytes x y=cmp at HC e
   go_quiet ((go_at_call 136;exact Calls.quiet_of (HC.out _)))
   clear w1 w2 w3 w4 w5 w6 w7 w8 w9 w10 w11 w12 w13
   by_cases hc0:cmp=0
   ·rw [if_pos hc0] at e
    have E:=Lib.hid e
    clear e
    subst hc0
    go_wp2
    go_roundw
    case rel=>exact ⟨k+1,q+nq,by omega,by omega,by go_num,E.out,by rw [HW.out];simp⟩
    case measure=>simp [intOf];omega
   ·rw [if_neg hc0] at e
    have E:=Lib.hid e
    have hc0':(cmp == 0)=false:=by simp [hc0]
    have hc0'':(cmp != 0)=true:=by simp [hc0]
    clear e
    go_wp2
    go_ret
    exact ⟨ret_int E.out,q+nq,by rw [HW.out];simp⟩
  ·have e:=HR.out
   by_cases hka:k<a.length
   ·have hkb:k=b.length:=by omega
    subst hkb
    rw [show b.reverse.drop b.length=[] from List.drop_eq_nil_of_le (by simp),List.drop_eq_getElem_cons (l:=a.reverse) (by simpa using hka),cmpR] at e
    have E:=Lib.hid e
    clear e
    go_wp2
    go_ret
    exact ⟨ret_int E.out,q,HW.out⟩
   ·have hkb:k=a.length:=by omega
    subst hkb
    rw [show a.reverse.drop a.length=[] from List.drop_eq_nil_of_le (by simp)] at e
    by_cases hkb:a.length<b.length
    ·rw [List.drop_eq_getElem_cons (l:=b.reverse) (by simpa using hkb),cmpR] at e
     have E:=Lib.hid e
     clear e
     go_wp2
     go_ret
     exact ⟨ret_int E.out,q,HW.out⟩
    ·rw [show b.reverse.drop a.length=[] from List.drop_eq_nil_of_le (by simp;omega),cmpR] at e
     have E:=Lib.hid e
     clear e
     go_wp2
     go_ret
     exact ⟨ret_int E.out,q,HW.out⟩
theorem cmpB_eq:∀ (a b:List UInt8),Lib.compareBytes a b=0 ↔ a=b
 | [],[]=>by simp [Lib.compareBytes]
 | [],_ :: _=>by simp [Lib.compareBytes]
 | _ :: _,[]=>by simp [Lib.compareBytes]
 | a :: xs,b :: ys=>by
   rw [Lib.compareBytes]
   have hl1:a<b ↔ a.toNat<b.toNat:=UInt8.lt_iff_toNat_lt
   have hl2:b<a ↔ b.toNat<a.toNat:=UInt8.lt_iff_toNat_lt
   have ih:=cmpB_eq xs ys
   by_cases h1:a<b
   ·rw [if_pos h1]
    simp only [List.cons.injEq,Int.reduceNeg,reduceCtorEq,false_iff]
    rintro ⟨rfl,_⟩
    rw [hl1] at h1;omega
   ·rw [if_neg h1]
    by_cases h2:b<a
    ·rw [if_pos h2]
     simp only [List.cons.injEq]
     constructor
     ·intro h;omega
     ·rintro ⟨rfl,_⟩
      rw [hl2] at h2;omega
    ·rw [if_neg h2,ih]
     have:a=b:=by rw [hl1] at h1;rw [hl2] at h2;exact UInt8.toNat_inj.1 (by omega)
     simp [this]
theorem cmpR_eq:∀ (a b:List (List UInt8)),cmpR a b=0 ↔ a=b
 | [],[]=>by simp [cmpR]
 | [],_ :: _=>by simp [cmpR]
 | _ :: _,[]=>by simp [cmpR]
 | x :: xs,y :: ys=>by
   rw [cmpR]
   have ih:=cmpR_eq xs ys
   by_cases h:Lib.compareBytes x y=0
   ·rw [if_pos h,ih,(cmpB_eq x y).1 h];simp
   ·rw [if_neg h]
    have:x≠y:=fun e=>h ((cmpB_eq x y).2 e)
    simp [h,this]
theorem cmpN_eq (a b:List (List UInt8)):cmpN a b=0 ↔ a=b:=by
 unfold cmpN
 rw [cmpR_eq,List.reverse_inj]
set_option maxRecDepth 100000 in
set_option maxHeartbeats 400000 in
theorem rsame_any (A1 A2:Option Addr) (c1 c2 L1 L2:Nat) (a b:List (List UInt8)) (w:World) (B:Nat) (hL1:a.length=L1) (hL2:b.length=L2) (h1:Rd w B A1 L1 (sc a)) (h2:Rd w B A2 L2 (sc b)) (hl:L1≤140737488355328) (hm:L2≤140737488355328) (hx:∀ x∈a,x.length≤140737488355328) (hy:∀ x∈b,x.length≤140737488355328) :
 Calls Tryz.prog 143 #[.slice A1 L1 c1,.slice A2 L2 c2] w fun e w'=>e = .returned (.bool (decide (a=b)))∧∃ q,w'=w.drewN q:=by
 subst hL1 hL2
 have hc:=rcmp_any A1 A2 c1 c2 a b w B h1 h2 hl hm hx hy
 have hb:decide (a=b)=(cmpN a b == 0):=by
  rw [Bool.eq_iff_iff];simp [cmpN_eq]
 rw [hb]
 have HC:=Lib.hid hc
 clear hc hb
 go_enter Tryz.func143,Tryz.ntmps143
 go_wp2_with (go_at_call 94;refine HC.out.mono ?_;rintro e w1 ⟨rfl,q,rfl⟩)
 go_ret
 exact ⟨rfl,q,rfl⟩
open Go.RowKit
theorem chain_stop (b:List UInt8) (f p:Nat) (h:¬ (0<(b.getD p 0).toNat∧(b.getD p 0).toNat<64)):chain b f p=[]:=by
 cases f with
 | zero=>rfl
 | succ f=>rw [chain,if_neg h]
def RestA (b:List UInt8) (f p:Nat) (x:Int):Prop:=((0<(b.getD p 0).toNat∧(b.getD p 0).toNat<64)∧x=(p:Int))∨x∈chain b f p
theorem restA_step (b:List UInt8) (f p:Nat) (x:Int) (h:0<(b.getD p 0).toNat∧(b.getD p 0).toNat<64) (hne:x≠(p:Int)):RestA b (f+1) p x ↔ RestA b f (p+(1+(b.getD p 0).toNat)) x:=by
 unfold RestA
 rw [chain,if_pos h,List.mem_append]
 constructor
 ·rintro (⟨_,h2⟩ | h2 | h2)
  ·exact absurd h2 hne
  ·left
   split at h2
   ·rename_i h3
    rw [List.mem_singleton] at h2
    exact ⟨h3,h2⟩
   ·cases h2
  ·exact .inr h2
 ·rintro (⟨h1,h2⟩ | h2)
  ·right;left
   rw [if_pos h1,List.mem_singleton];exact h2
  ·exact .inr (.inr h2)
theorem place_cell {W:World} {bl o p:Nat} {b:List UInt8} (hc:∀ j u,(bc b)[j]? = some u→W.cell? ⟨bl,o+j,none⟩=some u) (hp:p<b.length):W.cell? ⟨bl,o+p,none⟩=some (.int .u8 ((b.getD p 0).toNat:Int)):=by
 have:=hc p _ (bc_get b p hp)
 rw [this,List.getD_eq_getElem?_getD,List.getElem?_eq_getElem hp];rfl
set_option maxRecDepth 100000 in
set_option maxHeartbeats 1000000 in
theorem place_any (A1 A2:Option Addr) (c1 c2 L1 L2:Nat) (b:List UInt8) (known:List Int) (x:Nat) (w:World) (hL1:b.length=L1) (hL2:known.length=L2) (h1:Rd w w.heap.size A1 L1 (bc b)) (hc1:L1≤c1) (hb:L1≤140737488355328) (h2:Rd w w.heap.size A2 L2 (ic known)) (hk:L2≤140737488355328) (hx:x≤140737488355328) :
 Calls Tryz.prog 141 #[.slice A1 L1 c1,.slice A2 L2 c2,.int .i64 x] w fun e w'=>e = .returned (.bool (decide ((x:Int)∈placesU b known)))∧Below w.heap.size w w':=by
 subst hL1 hL2
 go_enter Tryz.func141,Tryz.ntmps141
 go_wp2_with fail
 go_loopw [7] (fun vi wr=>∃ k:Nat,k≤known.length∧vi = .int .i64 k∧Hid ((x:Int) ∉ placesU b (known.take k))∧Below w.heap.size w wr) (fun vi _=>known.length - (intOf vi).toNat)
 case atStart=>exact ⟨0,Nat.zero_le _,rfl,by simp [placesU,Hid],Below.refl _ _⟩
 case round=>
  obtain ⟨k,hkl,rfl,HN,hbel⟩:=hrel
  have hszb:=hbel.size
  have hr1:=(h1.below hbel)
  have hr2:=(h2.below hbel)
  by_cases hlt:k<known.length
  ·obtain ⟨b2,o2,rfl,hb2w,hc2⟩:=hr2.at_ hlt
   have hb2r:b2<wr.heap.size:=Nat.lt_of_lt_of_le hb2w hszb
   have hcell:=hc2 k _ (ic_get known k hlt)
   have hT:=placesU_take b known k hlt
   have hsub:(x:Int)∈place1 b known[k]→(x:Int)∈placesU b known:=by
    intro h
    unfold placesU
    exact List.mem_flatMap.2 ⟨known[k],List.getElem_mem hlt,h⟩
   generalize known[k]=y at hcell hT hsub
   have HT:=Lib.hid hT
   have HS:=Lib.hid hsub
   clear hc2 hr2 hT hsub
   have hnext:(x:Int) ∉ place1 b y→(x:Int) ∉ placesU b (known.take (k+1)):=by
    intro h hm
    rw [HT.out,List.mem_append] at hm
    rcases hm with hm | hm
    ·exact HN.out hm
    ·exact h hm
   have HX:=Lib.hid hnext
   clear hnext
   have hread:=rreadZ_any A1 c1 b.length b y wr rfl (hr1.more hszb) hc1 hb
   have HR:=Lib.hid hread
   clear hread
   by_cases hok:(0≤y∧y≤b.length)∧(readN b y.toNat).2.2=0
   ·obtain ⟨hy,hok⟩:=hok
    obtain ⟨p,rfl⟩:∃ p:Nat,y=(p:Int):=⟨y.toNat,by omega⟩
    have hp:p≤b.length:=by omega
    have hrz:readZ b (p:Int)=((readN b p).1,(readN b p).2.1,0):=by
     unfold readZ
     rw [if_pos hy]
     exact Prod.ext rfl (Prod.ext rfl hok)
    have hgood:=Good.of_read hp hok
    have hpl:=hgood.lt
    have h1p:=place1_yes hp hok
    rw [hrz] at HR
    have HG:=Lib.hid hgood
    have HP:=Lib.hid h1p
    clear hrz hok hgood h1p hy
    by_cases hxp:x=p
    ·subst hxp
     have hin:=HS.out (by rw [HP.out];exact List.mem_cons_self ..)
     have HI:=Lib.hid hin
     clear hin
     go_wp2_with (go_at_call 142;refine HR.out.mono ?_;rintro e w2 ⟨v2,rfl,hown2,hb2⟩;have hcell2:=(hb2.cell (p:=⟨b2,o2+k,none⟩) hb2r).trans hcell)
     go_ret
     exact ⟨ret_bool (decide_eq_true HI.out).symm,hbel.trans (hb2.mono hszb)⟩
    ·have hxq:(x:Int)≠(p:Int):=by omega
     have hxq2:((p:Int) == (x:Int))=false:=by simp;omega
     have HQ:=Lib.hid hxq
     clear hxq
     go_wp2_with (go_at_call 142;refine HR.out.mono ?_;rintro e w2 ⟨v2,rfl,hown2,hb2⟩;have hcell2:=(hb2.cell (p:=⟨b2,o2+k,none⟩) hb2r).trans hcell)
     have hb3:=hbel.trans (hb2.mono hszb)
     clear hown2 hb2 hcell2
     go_loopw [11] (fun vp wq=>∃ (f p':Nat),vp = .int .i64 p'∧p'<b.length∧b.length≤f+p'∧Hid (Good b p')∧Hid ((x:Int)∈place1 b (p:Int) ↔ RestA b f p' x)∧Below w.heap.size w wq) (fun vp _=>b.length - (intOf vp).toNat)
     case atStart=>
      refine ⟨b.length,p,rfl,hpl,by omega,HG,?_,hb3⟩
      show _ ↔ _
      rw [HP.out,List.mem_cons]
      unfold RestA
      constructor
      ·rintro (h | h)
       ·exact absurd h HQ.out
       ·exact .inr h
      ·rintro (⟨_,h⟩ | h)
       ·exact absurd h HQ.out
       ·exact .inr h
     case round=>
      clear hb3 hp hpl
      obtain ⟨f,q,rfl,hq,hf,HGq,HRq,hbq⟩:=hrel
      have hrq:=h1.below hbq
      obtain ⟨bl,o,rfl,_,hcq⟩:=hrq.at_ (show q<b.length by omega)
      have hcb:=place_cell hcq hq
      have hb256:=UInt8.toNat_lt (b.getD q 0)
      obtain ⟨f',rfl⟩:∃ f',f=f'+1:=⟨f - 1,by omega⟩
      clear hcq hrq
      have hgn:=fun h0 h1=>(HGq.out.next h0 h1)
      have HGN:=Lib.hid hgn
      have hrs:=restA_step b f' q x
      have HRS:=Lib.hid hrs
      have hstop:=chain_stop b (f'+1) q
      have HST:=Lib.hid hstop
      clear hgn hrs hstop
      obtain ⟨z,hz⟩:∃ z,z=(b.getD q 0).toNat:=⟨_,rfl⟩
      have HZ:=Lib.hid hz
      rw [←hz] at hcb hb256
      clear hz
      by_cases hlab:0<z∧z<64
      ·obtain ⟨hz0,hz1⟩:=hlab
       have hlab':0<(b.getD q 0).toNat∧(b.getD q 0).toNat<64:=by rw [←HZ.out];exact ⟨hz0,hz1⟩
       have HL:=Lib.hid hlab'
       clear hlab'
       by_cases hxq:x=q
       ·subst hxq
        have hin:=HS.out (HRq.out.2 (.inl ⟨HL.out,rfl⟩))
        have HI:=Lib.hid hin
        clear hin
        go_wp2_with fail
        go_ret
        exact ⟨ret_bool (decide_eq_true HI.out).symm,hbq⟩
       ·have hxq':((q:Int) == (x:Int))=false:=by simp;omega
        have hgood2:=HGN.out HL.out.1 HL.out.2
        rw [←HZ.out] at hgood2
        have hlt2:=hgood2.lt
        have hr2:=HRS.out HL.out (by omega)
        rw [←HZ.out] at hr2
        have HG2:=Lib.hid hgood2
        have HR2:=Lib.hid (HRq.out.trans hr2)
        clear hgood2 hr2
        go_wp2_with fail
        go_roundw
        case rel=>
         exact ⟨f',q+(1+z),by go_num,hlt2,by omega,HG2,HR2,hbq⟩
        case measure=>simp [intOf];omega
      ·have hlab':¬ (0<(b.getD q 0).toNat∧(b.getD q 0).toNat<64):=by rw [←HZ.out];exact hlab
       have hnot:(x:Int) ∉ place1 b (p:Int):=by
        intro h
        have:=HRq.out.1 h
        unfold RestA at this
        rw [HST.out hlab'] at this
        rcases this with h | h
        ·exact hlab' h.1
        ·cases h
       have hn2:=HX.out hnot
       have HN2:=Lib.hid hn2
       clear hnot hn2 hlab'
       by_cases hz0:0<z
       ·have hz1:¬ z<64:=fun h=>hlab ⟨hz0,h⟩
        clear hlab
        go_wp2_with fail
        go_roundw
        case rel=>exact ⟨k+1,by omega,by go_num,HN2,hbq⟩
        case measure=>simp [intOf];omega
       ·clear hlab
        have hz2:z=0:=by omega
        subst hz2
        go_wp2_with fail
        go_roundw
        case rel=>exact ⟨k+1,by omega,by go_num,HN2,hbq⟩
        case measure=>simp [intOf];omega
   ·have hnot:(x:Int) ∉ place1 b y:=by
     unfold place1
     split
     ·rename_i h
      exact absurd ⟨⟨h.1,h.2.1⟩,h.2.2⟩ hok
     ·simp
    have hn2:=HX.out hnot
    have HN2:=Lib.hid hn2
    have herr:((readZ b y).2.2:Int)≠0:=by
     unfold readZ
     split
     ·rename_i h
      have h':(0≤y∧y≤b.length):=h
      intro h0
      exact hok ⟨h',by omega⟩
     ·decide
    have herr2:(((readZ b y).2.2:Int) != 0)=true:=by simpa using herr
    clear hnot hn2 hok herr
    generalize readZ b y=rz at HR herr2
    go_wp2_with (go_at_call 142;refine HR.out.mono ?_;rintro e w2 ⟨v2,rfl,hown2,hb2⟩)
    go_roundw
    case rel=>exact ⟨k+1,by omega,by go_num,HN2,hbel.trans (hb2.mono hszb)⟩
    case measure=>simp [intOf];omega
  ·have:k=known.length:=by omega
   subst this
   rw [List.take_length] at HN
   go_wp2_with fail
   go_ret
   exact ⟨ret_bool (decide_eq_false HN.out).symm,hbel⟩
theorem hit_lt {b:List UInt8} {s:List (List UInt8)} {known:List Int} {x:Int} (hm:x∈placesN b known) (h:hit b s x=true):∃ y:Nat,x=(y:Int)∧y<b.length∧y<16384∧(y:Int)∈placesU b known:=by
 have h0:=places_mem b known x hm
 unfold hit at h
 simp only [Bool.and_eq_true,decide_eq_true_eq] at h
 have hg:=(Good.of_read (by omega) h.1.1).lt
 unfold placesN at hm
 rw [List.mem_mergeSort] at hm
 exact ⟨x.toNat,by omega,hg,by omega,by rw [show ((x.toNat:Nat):Int)=x by omega];exact hm⟩
theorem find_none_of (b:List UInt8) (s:List (List UInt8)) (known:List Int) (h:∀ y:Nat,y<b.length→y<16384→(y:Int)∈placesU b known→hit b s y=false):(placesN b known).find? (hit b s)=none:=by
 rw [List.find?_eq_none]
 intro x hx hh
 obtain ⟨y,rfl,h1,h2,h3⟩:=hit_lt hx hh
 rw [h y h1 h2 h3] at hh
 cases hh
theorem find_least (b:List UInt8) (s:List (List UInt8)) (known:List Int) (a:Nat) (ha:(a:Int)∈placesU b known) (hh:hit b s a=true) (hmin:∀ y:Nat,y<a→(y:Int)∈placesU b known→hit b s y=false) :
 (placesN b known).find? (hit b s)=some (a:Int):=by
 have hmem:(a:Int)∈placesN b known:=by unfold placesN;rw [List.mem_mergeSort];exact ha
 cases hf:(placesN b known).find? (hit b s) with
 | none=>exact absurd hh (List.find?_eq_none.1 hf _ hmem)
 | some z=>
   obtain ⟨hz,l1,l2,hl,hbefore⟩:=List.find?_eq_some_iff_append.1 hf
   have hzm:z∈placesN b known:=by rw [hl];simp
   obtain ⟨y,rfl,_,_,h3⟩:=hit_lt hzm hz
   have hsort:(placesN b known).Pairwise (fun x y=>decide (x≤y)=true):=by
    unfold placesN
    exact List.pairwise_mergeSort (fun a b c h1 h2=>by simp at h1 h2 ⊢;omega) (fun a b=>by simp;omega) _
   rw [hl] at hmem hsort
   rw [List.mem_append,List.mem_cons] at hmem
   rcases hmem with hm | hm | hm
   ·have:=hbefore _ hm
    rw [hh] at this;simp at this
   ·rw [hm]
   ·have h4:=(List.pairwise_append.1 hsort).2.1
    have h5:=(List.pairwise_cons.1 h4).1 _ hm
    simp only [decide_eq_true_eq] at h5
    rcases Nat.lt_or_ge y a with h6 | h6
    ·rw [hmin y h6 h3] at hz;cases hz
    ·congr 1;omega
set_option maxRecDepth 100000 in
set_option maxHeartbeats 2000000 in
theorem rapp_ok (A1 A2 A3:Option Addr) (c1 c2 c3 L1 L2 L3:Nat) (b:List UInt8) (known:List Int) (n:List (List UInt8)) (w:World) (hL1:b.length=L1) (hL2:known.length=L2) (hL3:n.length=L3)
 (h1:Rd w w.heap.size A1 L1 (bc b)) (hc1:L1≤c1) (hb:L1≤100000000000) (h2:Rd w w.heap.size A2 L2 (ic known)) (hk:L2≤140737488355328)
 (h3:Rd w w.heap.size A3 L3 (sc n)) (hc3:L3≤c3) (hr:rightN n=true) :
 Calls Tryz.prog 104 #[.slice A1 L1 c1,.slice A2 L2 c2,.slice A3 L3 c3] w fun e w'=>∃ v,e = .returned (.tuple #[v,.int .i64 0])∧Ow w' w.heap.size 5 v (bc (appN b known n))∧Below w.heap.size w w':=by
 subst hL1 hL2 hL3
 obtain ⟨i0,hi,hz0,hz1,hz2⟩:=info_parts Tryz.infoByte
 have hsn:=size_right hr
 have hln:=sizeN_length n
 have hlab:=labS_length n
 go_enter Tryz.func104,Tryz.ntmps104
 go_wp2_with (first
  | (go_at_call 53;refine (rright_any A3 c3 n w h3 (by omega)).mono ?_;rw [hr];rintro e w1 ⟨rfl,hb1⟩;have hs1:=hb1.size)
  | (at_builtin;refine wpList_appE _ rfl _ _ _ _ rfl w.heap.size 5 i0 (.int .u8 0) 1 Tryz.underlying22 hi hz0 hz1 hz2 rfl (Nat.le_refl _) _ [] (OwE.lit0 _ _ _ _ (fun a ha=>by cases ha;exact hs1)) rfl b.length (bc b) (Rd.src ((h1.below hb1).alloc hs1 _) Tryz.underlying22 (bc_one _)) (by simp;omega) (by simp;omega) ?_;intro v2 w2 hown2 hgr2 hsz2))
 have hb2:Below w.heap.size w w2:=(hb1.alloc hs1 _).trans (hgr2.below (fun g hg=>by simp [Value.ownBlock] at hg;omega) (by simp;omega))
 clear hb1 hs1 hgr2 hsz2
 have HRT:=Lib.hid hr
 clear hr
 go_loopw [8,9] (fun vo vi wr=>∃ k:Nat,k≤n.length∧vi = .int .i64 k∧OwE wr w.heap.size 5 vo (bc (b++labS (n.take k)))∧Hid (∀ y,y<k→(placesN b known).find? (hit b (n.drop y))=none)∧Below w.heap.size w wr) (fun _ vi _=>n.length - (intOf vi).toNat)
 case atStart=>exact ⟨0,Nat.zero_le _,rfl,by simpa [labS] using hown2,fun y h=>absurd h (by omega),hb2⟩
 case round=>
  clear hown2 hb2
  obtain ⟨k,hkn,rfl,hown,HF,hbel⟩:=hrel
  have hszb:=hbel.size
  have hlt':=sizeN_take_le n k
  have hll:=labS_length (n.take k)
  by_cases hlt:k<n.length
  ·obtain ⟨vo,hvo⟩:∃ v,v=u8:=⟨_,rfl⟩
   rw [←hvo] at hown ⊢
   clear hvo
   go_wp2_with fail
   go_loopw [10] (fun va wq=>∃ a:Nat,a≤b.length∧a≤16384∧va = .int .i64 a∧OwE wq w.heap.size 5 vo (bc (b++labS (n.take k)))∧Hid (∀ y:Nat,y<a→(y:Int)∈placesU b known→hit b (n.drop k) y=false)∧Below w.heap.size w wq) (fun va _=>b.length - (intOf va).toNat)
   case atStart=>exact ⟨0,Nat.zero_le _,Nat.zero_le _,rfl,hown,fun y h=>absurd h (by omega),hbel⟩
   case round=>
    clear hown hbel hszb
    obtain ⟨a,hab,ha2,rfl,hown,HA,hbel⟩:=hrel
    have hszb:=hbel.size
    by_cases hin:a<b.length∧a<16384
    ·obtain ⟨ha3,ha4⟩:=hin
     have hpl:=place_any A1 A2 c1 c2 b.length known.length b known a wr rfl rfl ((h1.below hbel).more hszb) hc1 (by omega) ((h2.below hbel).more hszb) hk (by omega)
     by_cases hm:(a:Int)∈placesU b known
     ·rw [decide_eq_true hm] at hpl
      have HPL:=Lib.hid hpl
      have HM:=Lib.hid hm
      clear hpl hm
      obtain ⟨fn,nx,er,hrd⟩:∃ fn nx er,readN b a=(fn,nx,er):=⟨(readN b a).1,(readN b a).2.1,(readN b a).2.2,rfl⟩
      have hread:=fun W (h:Rd W W.heap.size A1 b.length (bc b))=>rread_any A1 c1 b a W h hc1 (by omega) hab
      rw [hrd] at hread
      have HRead:=Lib.hid hread
      have hhit:hit b (n.drop k) (a:Int)=(decide (er=0) && decide (fn=n.drop k)):=by
       unfold hit
       rw [show (a:Int).toNat=a from rfl,hrd,decide_eq_true (show (a:Int)<16384 by omega),Bool.and_true]
      have HH:=Lib.hid hhit
      have hfl:(∀ x∈fn,x.length≤140737488355328)∧fn.length≤140737488355328:=by
       rcases readN_errs b a hab with ⟨_,h9⟩ | ⟨h9,_⟩
       ·rw [hrd] at h9
        have h8:=size_right h9
        refine ⟨fun x hx=>?_,?_⟩
        ·have:=mem_size (n:=fn) hx
         simp only at h8;omega
        ·have:=sizeN_length fn
         simp only at h8;omega
       ·rw [hrd] at h9
        simp only at h9
        subst h9
        exact ⟨fun x hx=>(by cases hx),by simp⟩
      obtain ⟨hfx,hfl⟩:=hfl
      have HFX:=Lib.hid hfx
      have hnx:∀ x∈n.drop k,x.length≤140737488355328:=fun x hx=>by have:=mem_size (List.mem_of_mem_drop hx);omega
      have HNX:=Lib.hid hnx
      have hskip:hit b (n.drop k) (a:Int)=false→∀ y:Nat,y<a+1→(y:Int)∈placesU b known→hit b (n.drop k) y=false:=by
       intro h0 y hy hym
       rcases Nat.lt_or_ge y a with h | h
       ·exact HA.out y h hym
       ·rw [show y=a by omega];exact h0
      have HSK:=Lib.hid hskip
      have hnd:(n.drop k).length=n.length - k:=by rw [List.length_drop]
      have HND:=Lib.hid hnd
      have hsl:∀ W,(Instr.slice 38 (.slice A3 n.length c3) (some (.int .i64 (k:Int))) none none).run Tryz.prog W = .ok (.slice (cutA A3 c3 k) (n.length - k) (c3 - k)) W:=fun W=>run_sl_l W 38 9 Tryz.underlying38 (fun w=>by kernel_rfl) A3 n.length c3 k (by omega)
      have hr3:Rd w w.heap.size (cutA A3 c3 k) (n.length - k) (sc (n.drop k)):=by
       have:=h3.cut (k:=k) (m:=n.length) (by omega) (Nat.le_refl _) hc3
       rw [List.take_of_length_le (by simp)] at this
       simpa [sc] using this
      generalize cutA A3 c3 k=A4 at hsl hr3
      clear hrd hread hhit hfx hnx hskip hnd
      by_cases he:er=0
      ·subst he
       by_cases hs:fn=n.drop k
       ·have hhit2:hit b (n.drop k) (a:Int)=true:=by rw [HH.out,decide_eq_true hs];rfl
        have hfind:=find_least b (n.drop k) known a HM.out hhit2 HA.out
        have happ:appN b known n=b++labS (n.take k)++ptr (a:Int):=by
         unfold appN
         exact appGo_some b _ n a k n.length 0 (by omega) (by omega) (fun y _ hy=>HF.out y hy) hfind
        have HAP:=Lib.hid happ
        have HS:=Lib.hid hs
        clear hhit2 hfind happ hs
        go_wp2_with (first
         | (go_at_call 141;refine HPL.out.mono ?_;rintro e w2 ⟨rfl,hb2⟩;have hB2:=hbel.trans (hb2.mono hszb);have hown2:=hown.far hb2)
         | (go_at_call 142;refine (HRead.out w2 ((h1.below hB2).more hB2.size)).mono ?_;rintro e w3 ⟨v3,rfl,hown3,hb3⟩;have hB3:=hB2.trans (hb3.mono hB2.size);have hown3':=hown2.far hb3;obtain ⟨A5,c5,rfl,hl5,r5⟩:=hown3.form7 fn.length (by simp))
         | (go_at_call 143;refine (rsame_any A5 A4 c5 (c3 - k) fn.length (n.length - k) fn (n.drop k) w3 w3.heap.size rfl HND.out r5 ((hr3.below hB3).more hB3.size) hfl (by omega) HFX.out HNX.out).mono ?_;rw [decide_eq_true HS.out];rintro e w4 ⟨rfl,q,hq⟩;have hB4:=below_step hB3 hq;have hown4:OwE w4 w.heap.size 5 vo (bc (b++labS (n.take k))):=(by rw [hq] <;> exact hown3');have hB4s:=hB4.size;clear hq)
         | (at_builtin;refine wpList_appE _ rfl _ _ _ _ rfl w.heap.size 5 i0 (.int .u8 0) 1 Tryz.underlying22 hi hz0 hz1 hz2 rfl (Nat.le_refl _) _ _ (hown4.alloc _) rfl 2 [.int .u8 (192+(a:Int) / 256),.int .u8 ((a:Int) % 256)] (two_src Tryz.underlying22 _ _ _ _ (two_cells _ _ _ _).1 (two_cells _ _ _ _).2 rfl rfl) (by rw [bc_length,List.length_append];omega) (by simp;omega) ?_;intro v6 w6 hown6 hgr6 hsz6))
        go_ret2
        refine ⟨v6,rfl,?_,hB4.trans ((((Gr.refl _ _).alloc _).trans hgr6).below hown4.lt hB4s)⟩
        rw [HAP.out,bc_ptr _ _ ha4]
        exact hown6.own (by simp)
       ·have hhit2:hit b (n.drop k) (a:Int)=false:=by rw [HH.out,decide_eq_false hs];rfl
        have HA2:=Lib.hid (HSK.out hhit2)
        have HS:=Lib.hid hs
        clear hhit2 hs
        go_wp2_with (first
         | (go_at_call 141;refine HPL.out.mono ?_;rintro e w2 ⟨rfl,hb2⟩;have hB2:=hbel.trans (hb2.mono hszb);have hown2:=hown.far hb2)
         | (go_at_call 142;refine (HRead.out w2 ((h1.below hB2).more hB2.size)).mono ?_;rintro e w3 ⟨v3,rfl,hown3,hb3⟩;have hB3:=hB2.trans (hb3.mono hB2.size);have hown3':=hown2.far hb3;obtain ⟨A5,c5,rfl,hl5,r5⟩:=hown3.form7 fn.length (by simp))
         | (go_at_call 143;refine (rsame_any A5 A4 c5 (c3 - k) fn.length (n.length - k) fn (n.drop k) w3 w3.heap.size rfl HND.out r5 ((hr3.below hB3).more hB3.size) hfl (by omega) HFX.out HNX.out).mono ?_;rw [decide_eq_false HS.out];rintro e w4 ⟨rfl,q,hq⟩;have hB4:=below_step hB3 hq;have hown4:OwE w4 w.heap.size 5 vo (bc (b++labS (n.take k))):=(by rw [hq] <;> exact hown3');clear hq))
        go_roundw
        case rel=>exact ⟨a+1,by omega,by omega,by go_num,hown4,HA2,hB4⟩
        case measure=>simp [intOf];omega
      ·have hhit2:hit b (n.drop k) (a:Int)=false:=by rw [HH.out,decide_eq_false he];rfl
       have HA2:=Lib.hid (HSK.out hhit2)
       have he2:((er:Int) == 0)=false:=by simp;omega
       clear hhit2 he
       go_wp2_with (first
        | (go_at_call 141;refine HPL.out.mono ?_;rintro e w2 ⟨rfl,hb2⟩;have hB2:=hbel.trans (hb2.mono hszb);have hown2:=hown.far hb2)
        | (go_at_call 142;refine (HRead.out w2 ((h1.below hB2).more hB2.size)).mono ?_;rintro e w3 ⟨v3,rfl,hown3,hb3⟩;have hB3:=hB2.trans (hb3.mono hB2.size);have hown3':=hown2.far hb3))
       go_roundw
       case rel=>exact ⟨a+1,by omega,by omega,by go_num,hown3',HA2,hB3⟩
       case measure=>simp [intOf];omega
     ·rw [decide_eq_false hm] at hpl
      have HPL:=Lib.hid hpl
      have hA2:∀ y:Nat,y<a+1→(y:Int)∈placesU b known→hit b (n.drop k) y=false:=by
       intro y hy hym
       rcases Nat.lt_or_ge y a with h | h
       ·exact HA.out y h hym
       ·exact absurd (by rw [show y=a by omega] at hym;exact hym) hm
      have HA2:=Lib.hid hA2
      clear hpl hm hA2
      go_wp2_with (go_at_call 141;refine HPL.out.mono ?_;rintro e w2 ⟨rfl,hb2⟩)
      go_roundw
      case rel=>exact ⟨a+1,by omega,by omega,by go_num,hown.far hb2,HA2,hbel.trans (hb2.mono hszb)⟩
      case measure=>simp [intOf];omega
    ·have hnone:(placesN b known).find? (hit b (n.drop k))=none:=find_none_of b _ known fun y h5 h6 h7=>HA.out y (by omega) h7
     have HF2:Hid (∀ y,y<k+1→(placesN b known).find? (hit b (n.drop y))=none):=fun y hy=>by
      rcases Nat.lt_or_ge y k with h | h
      ·exact HF.out y h
      ·rw [show y=k by omega];exact hnone
     have hd:(decide ((a:Int)<(b.length:Int)) && decide ((a:Int)<16384))=false:=by simp;omega
     have hr3:=h3.below hbel
     obtain ⟨bl,o,rfl,hbl,hc3'⟩:=hr3.at_ hlt
     have hcell:=hc3' k _ (sc_get n k hlt)
     have hle:=mem_size (List.getElem_mem hlt)
     have hst:=sizeN_take n k hlt
     have hlk:=sizeN_take_le n (k+1)
     have hlt2:=labS_take n k hlt
     have HL:=Lib.hid hlt2
     have hblr:bl<wr.heap.size:=Nat.lt_of_lt_of_le hbl hszb
     clear hnone hc3' hr3 hst hlk hlt2
     go_wp2_with (first
      | (at_builtin;refine wpList_appE (o:=⟨some 75,_,_,_,_,_⟩) _ rfl _ _ _ _ rfl w.heap.size 5 i0 (.int .u8 0) 1 Tryz.underlying22 hi hz0 hz1 hz2 rfl (Nat.le_refl _) _ _ (hown.alloc _) rfl 1 [_] (one_src Tryz.underlying22 _ rfl) (by rw [bc_length,List.length_append];omega) (by simp;omega) ?_;intro v2 w2 hown2 hgr2 hsz2;have hb2:=(((Gr.refl wr _).alloc _).trans hgr2).below hown.lt hszb;have hcell2:=(hb2.cell (p:=⟨bl,o+k,none⟩) hbl).trans hcell)
      | (at_builtin;refine wpList_appE (o:=⟨some 81,_,_,_,_,_⟩) _ rfl _ _ _ _ rfl w.heap.size 5 i0 (.int .u8 0) 1 Tryz.underlying22 hi hz0 hz1 hz2 rfl (Nat.le_refl _) _ _ hown2 rfl n[k].length (bc n[k]) (str_src Tryz.underlying9 _) (by rw [List.length_append,bc_length,List.length_append];simp;omega) hsz2 ?_;intro v3 w3 hown3 hgr3 hsz3))
     all_goals
      go_roundw
      case rel=>
       refine ⟨k+1,by omega,by go_num,?_,HF2,hbel.trans (hb2.trans (hgr3.below hown2.lt hsz2))⟩
       have e1:bc (b++labS (n.take (k+1)))=bc (b++labS (n.take k))++[.int .u8 (n[k].length:Int)]++bc n[k]:=by
        rw [HL.out]
        simp [bc];omega
       rw [e1];exact hown3
      case measure=>simp [intOf];omega
  ·have hkl:k=n.length:=by omega
   subst hkl
   rw [List.take_length] at hown
   have happ:appN b known n=b++labS n++[0]:=by
    unfold appN
    exact appGo_none b _ n n.length 0 (fun y _ hy=>HF.out y (by omega))
   have HAP:=Lib.hid happ
   clear happ
   go_wp2_with (at_builtin;refine wpList_appE _ rfl _ _ _ _ rfl w.heap.size 5 i0 (.int .u8 0) 1 Tryz.underlying22 hi hz0 hz1 hz2 rfl (Nat.le_refl _) _ _ (hown.alloc _) rfl 1 [_] (one_src Tryz.underlying22 _ rfl) (by rw [bc_length,List.length_append];omega) (by simp;omega) ?_;intro v3 w3 hown3 hgr3 hsz3)
   go_ret2
   refine ⟨v3,rfl,?_,hbel.trans ((((Gr.refl _ _).alloc _).trans hgr3).below hown.lt hszb)⟩
   rw [HAP.out,bc_append]
   exact hown3.own (by simp)
end Go.Proofs.YtlipmlbijddopaaGreatDoor
