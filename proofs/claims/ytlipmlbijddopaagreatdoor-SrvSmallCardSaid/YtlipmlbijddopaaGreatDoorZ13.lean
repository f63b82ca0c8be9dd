/-
  DnsE
-/
import Derived.Test.YtlipmlbijddopaaGreatDoorZ04
import Derived.Test.YtlipmlbijddopaaGreatDoorZ09
import Derived.Test.YtlipmlbijddopaaGreatDoorZ10
import Derived.Test.YtlipmlbijddopaaGreatDoorZ12
set_option linter.unusedVariables false
set_option linter.unusedSimpArgs false
namespace Go.Proofs.YtlipmlbijddopaaGreatDoor
open Go.RowKit
theorem len_le_size (n:List (List UInt8)):n.length≤sizeN n:=by
 induction n with
 | nil=>exact Nat.zero_le _
 | cons a n ih=>simp only [sizeN,List.length_cons];omega
theorem bl_drewN {B:Nat} {w w':World} (h:Below B w w') (q:Nat):Below B w (w'.drewN q):=⟨h.os,h.tape,h.output,h.size,h.block⟩
theorem below_two (w:World) (a b:Obj):Below w.heap.size w ((w.alloc a).alloc b):=(below_new w a).trans ((below_new (w.alloc a) b).mono (by simp))
set_option maxRecDepth 100000 in
set_option maxHeartbeats 400000 in
theorem same_at (x y:QR) (w:World) (hx:QRd w w.heap.size x) (hy:QRd w w.heap.size y) :
 Calls Tryz.prog 115 #[.agg x.cells.toArray,.agg y.cells.toArray] w fun e w'=>e = .returned (.bool (sameQ x.q y.q))∧Below w.heap.size w w':=by
 obtain ⟨A,c,⟨nm,ty,cl⟩⟩:=x
 obtain ⟨A2,c2,⟨nm2,ty2,cl2⟩⟩:=y
 obtain ⟨⟨hn,hnc,hns⟩,hty,hcl⟩:=hx
 obtain ⟨⟨hn2,hnc2,hns2⟩,hty2,hcl2⟩:=hy
 simp only at hn hnc hns hty hcl hn2 hnc2 hns2 hty2 hcl2
 have hl1:=Nat.le_trans (len_le_size nm) hns
 have hl2:=Nat.le_trans (len_le_size nm2) hns2
 have H1:=Lib.hid hn
 have H2:=Lib.hid hn2
 clear hn hn2
 unfold QR.cells
 simp only
 have hb2:=below_two w
 by_cases h1:ty=ty2
 ·by_cases h2:cl=cl2
  ·have hs:sameQ ⟨nm,ty,cl⟩ ⟨nm2,ty2,cl2⟩=decide (nm=nm2):=by simp [sameQ,h1,h2]
   rw [hs]
   subst h1 h2
   clear hs
   go_enter Tryz.func115,Tryz.ntmps115
   go_wp2_with (go_at_call 34;refine (seq_at _ A A2 c c2 _ _ nm nm2 (decide (nm=nm2)) rfl rfl rfl (H1.out.goes (hb2 _ _)) (H2.out.goes (hb2 _ _)) hl1 hl2).mono ?_;rintro e w2 ⟨rfl,q,rfl⟩)
   go_ret
   exact ⟨rfl,bl_drewN (hb2 _ _) q⟩
  ·have hs:sameQ ⟨nm,ty,cl⟩ ⟨nm2,ty2,cl2⟩=false:=by simp [sameQ,h2]
   rw [hs]
   have h2':((cl:Int) == (cl2:Int))=false:=by simpa using (by omega:¬ (cl:Int)=cl2)
   subst h1
   clear hs h2
   go_enter Tryz.func115,Tryz.ntmps115
   go_wp2_with fail
   go_ret
   exact ⟨rfl,hb2 _ _⟩
 ·have hs:sameQ ⟨nm,ty,cl⟩ ⟨nm2,ty2,cl2⟩=false:=by simp [sameQ,h1]
  rw [hs]
  have h1':((ty:Int) == (ty2:Int))=false:=by simpa using (by omega:¬ (ty:Int)=ty2)
  clear hs h1
  go_enter Tryz.func115,Tryz.ntmps115
  go_wp2_with fail
  go_ret
  exact ⟨rfl,hb2 _ _⟩
theorem vx_two {w w2:World} {e1 e2:TypeId} {cs ds:List Value} (h:Below ((w.alloc (.cells cs.toArray e1)).alloc (.cells ds.toArray e2)).heap.size ((w.alloc (.cells cs.toArray e1)).alloc (.cells ds.toArray e2)) w2):Vx w2 w.heap.size e1 cs∧Vx w2 (w.heap.size+1) e2 ds:=by
 refine ⟨((Vx.new w e1 cs).alloc _).below h (by simp;omega),?_⟩
 have:=(Vx.new (w.alloc (.cells cs.toArray e1)) e2 ds).below h (by simp)
 rwa [World.size_alloc] at this
set_option maxRecDepth 100000 in
set_option maxHeartbeats 1000000 in
theorem sameR_at (x y:RR) (w:World) (hx:RRd w w.heap.size x) (hy:RRd w w.heap.size y) :
 Calls Tryz.prog 117 #[.agg x.cells.toArray,.agg y.cells.toArray] w fun e w'=>e = .returned (.bool (sameR x.r y.r))∧Below w.heap.size w w':=by
 obtain ⟨b1,hb1⟩:∃ b,b=sameQ x.r.q y.r.q:=⟨_,rfl⟩
 obtain ⟨b2,hb2⟩:∃ b,b=decide (x.r.ttl=y.r.ttl):=⟨_,rfl⟩
 obtain ⟨b3,hb3⟩:∃ b,b=decide (x.r.d=y.r.d):=⟨_,rfl⟩
 obtain ⟨b4,hb4⟩:∃ b,b=decide (x.r.pr=y.r.pr):=⟨_,rfl⟩
 obtain ⟨b5,hb5⟩:∃ b,b=decide (x.r.we=y.r.we):=⟨_,rfl⟩
 obtain ⟨b6,hb6⟩:∃ b,b=decide (x.r.po=y.r.po):=⟨_,rfl⟩
 obtain ⟨b7,hb7⟩:∃ b,b=decide (x.r.tg=y.r.tg):=⟨_,rfl⟩
 have hs:sameR x.r y.r=(b1 && (b2 && (b3 && (b4 && (b5 && (b6 && b7)))))):=by rw [hb1,hb2,hb3,hb4,hb5,hb6,hb7];rfl
 rw [hs]
 clear hs
 have e2:((x.r.ttl:Int) == (y.r.ttl:Int))=b2:=by rw [hb2,Bool.eq_iff_iff,beq_iff_eq,decide_eq_true_iff];omega
 have e4:((x.r.pr:Int) == (y.r.pr:Int))=b4:=by rw [hb4,Bool.eq_iff_iff,beq_iff_eq,decide_eq_true_iff];omega
 have e5:((x.r.we:Int) == (y.r.we:Int))=b5:=by rw [hb5,Bool.eq_iff_iff,beq_iff_eq,decide_eq_true_iff];omega
 have e6:((x.r.po:Int) == (y.r.po:Int))=b6:=by rw [hb6,Bool.eq_iff_iff,beq_iff_eq,decide_eq_true_iff];omega
 have HX:=Lib.hid hx
 have HY:=Lib.hid hy
 have h1:=below_two w
 have H2:=fun (w2:World) (a b:Obj) (h:Below ((w.alloc a).alloc b).heap.size ((w.alloc a).alloc b) w2)=>(below_two w a b).trans (h.mono (below_two w a b).size)
 have K1:=Lib.hid (fun (w2:World) (h:Below w.heap.size w w2)=>(show Calls Tryz.prog 115 #[.agg x.qr.cells.toArray,.agg y.qr.cells.toArray] w2 fun e w'=>e = .returned (.bool b1)∧Below w2.heap.size w2 w' by rw [hb1];exact same_at x.qr y.qr w2 ((HX.out.1.below h).more h.size) ((HY.out.1.below h).more h.size)))
 have K3:=Lib.hid (fun (w2:World) (h:Below w.heap.size w w2)=>(show Calls Tryz.prog 43 #[.slice x.dA x.r.d.length x.dc,.slice y.dA y.r.d.length y.dc] w2 fun e w'=>e = .returned (.bool b3)∧w'=w2 by rw [hb3];exact beq_any x.dA y.dA x.dc y.dc x.r.d y.r.d w2 w2.heap.size ((HX.out.2.1.1.below h).more h.size) ((HY.out.2.1.1.below h).more h.size)))
 have K7:=Lib.hid (fun (w2:World) (h:Below w.heap.size w w2)=>seq_at w2 x.tA y.tA x.tc y.tc _ _ x.r.tg y.r.tg b7 hb7.symm rfl rfl ((HX.out.2.2.1.1.below h).more h.size) ((HY.out.2.2.1.1.below h).more h.size) (Nat.le_trans (len_le_size _) HX.out.2.2.1.2.2) (Nat.le_trans (len_le_size _) HY.out.2.2.1.2.2))
 have HB1:=Lib.hid hb1
 have HB3:=Lib.hid hb3
 clear hx hy hb1 hb2 hb3 hb4 hb5 hb6 hb7
 go_enter Tryz.func117,Tryz.ntmps117
 go_wp2_with (first
  | (go_at_call 34
     refine (K7.out _ hB).mono ?_
     rintro e w3 ⟨rfl,q,rfl⟩)
  | (go_at_call 43
     refine (K3.out _ hB).mono ?_
     rintro e w2 ⟨rfl,rfl⟩)
  | (go_at_call 115
     refine (K1.out _ (h1 _ _)).mono ?_
     rintro e w2 ⟨rfl,hb⟩
     have hB:=H2 w2 _ _ hb
     obtain ⟨v1,v2⟩:=vx_two hb
     obtain ⟨c0,c1,c2,c3,c4,c5,c6,c7,c8⟩:=v1.c9
     obtain ⟨d0,d1,d2,d3,d4,d5,d6,d7,d8⟩:=v2.c9))
 all_goals go_ret
 all_goals refine ⟨ret_bool ?_,by first | exact hB | exact bl_drewN hB _⟩
 all_goals clear HX HY h1 H2 K1 K3 K7 HB1 HB3 hb hB v1 v2 c0 c1 c2 c3 c4 c5 c6 c7 c8 d0 d1 d2 d3 d4 d5 d6 d7 d8 e2 e4 e5 e6
 all_goals simp_all
theorem allEq_all {α:Type} (f:α→α→Bool):∀ l m:List α,allEq f l m=true ↔ l.length=m.length∧∀ i (h1:i<l.length) (h2:i<m.length),f l[i] m[i]=true
 | [],[]=>by simp [allEq]
 | [],_ :: _=>by simp [allEq]
 | _ :: _,[]=>by simp [allEq]
 | a :: l,b :: m=>by
   rw [allEq,Bool.and_eq_true,allEq_all f l m]
   constructor
   ·rintro ⟨h0,h1,h2⟩
    refine ⟨by simp [h1],fun i=>?_⟩
    cases i with
    | zero=>intro _ _;exact h0
    | succ i=>intro p q;exact h2 i (by simpa using p) (by simpa using q)
   ·rintro ⟨h1,h2⟩
    exact ⟨h2 0 (by simp) (by simp),by simpa using h1,fun i p q=>h2 (i+1) (by simpa using p) (by simpa using q)⟩
theorem allEq_hit {α:Type} {f:α→α→Bool} {l m:List α} {k:Nat} (h1:k<l.length) (h2:k<m.length) (h:f l[k] m[k]=false):allEq f l m=false:=by
 rw [←Bool.not_eq_true,allEq_all]
 rintro ⟨_,h3⟩
 rw [h3 k h1 h2] at h
 cases h
set_option maxRecDepth 100000 in
set_option maxHeartbeats 400000 in
theorem eqQ_at (A A2:Option Addr) (c c2 n m:Nat) (l k:List QR) (w:World) (h:QsRd w w.heap.size A c n l) (h2:QsRd w w.heap.size A2 c2 m k) :
 Calls Tryz.prog 114 #[.slice A n c,.slice A2 m c2,.func (.func 115) #[] #[]] w fun e w'=>e = .returned (.bool (allEq (fun x y=>sameQ x.q y.q) l k))∧Below w.heap.size w w':=by
 have hn:=h.2.1
 have hn':=h.2.2.2.1
 have hm:=h2.2.1
 have hm':=h2.2.2.2.1
 have H:=Lib.hid h
 have H2:=Lib.hid h2
 clear h h2
 by_cases hnm:n=m
 ·subst hnm
  go_enter Tryz.func114,Tryz.ntmps114
  go_wp2_with fail
  go_loopw [7,8,9,17] (fun _ _ _ i wr=>∃ j:Nat,j≤n∧i = .int .i64 j∧Hid (∀ i (h1:i<l.length) (h2:i<k.length),i<j→sameQ l[i].q k[i].q=true)∧Below w.heap.size w wr) (fun _ _ _ i _=>n - (intOf i).toNat)
  case atStart=>exact ⟨0,Nat.zero_le _,rfl,Lib.hid (fun _ _ _ h=>by omega),Below.refl _ _⟩
  case round=>
   obtain ⟨j,hj,rfl,HA,hbel⟩:=hrel
   rcases Nat.lt_or_ge j n with hlt | hge
   ·have hl1:j<l.length:=by omega
    have hl2:j<k.length:=by omega
    obtain ⟨b,o,rfl,hb1,hc⟩:=(H.out.below hbel).at_ hlt
    obtain ⟨c0,c1,c2⟩:=hc hl1
    obtain ⟨b',o',rfl,hb2,hc'⟩:=(H2.out.below hbel).at_ hlt
    obtain ⟨d0,d1,d2⟩:=hc' hl2
    have hsz:=hbel.size
    have hbl1:b<wr.heap.size:=by omega
    have hbl2:b'<wr.heap.size:=by omega
    have HX:=Lib.hid (((H.out.below hbel).2.2.2.2 l[j] (List.getElem_mem hl1)).more hbel.size)
    have HY:=Lib.hid (((H2.out.below hbel).2.2.2.2 k[j] (List.getElem_mem hl2)).more hbel.size)
    clear hc hc' hsz hb1 hb2
    have K:=Lib.hid (fun (w2:World) (h:Below wr.heap.size wr w2)=>same_at l[j] k[j] w2 ((HX.out.below h).more h.size) ((HY.out.below h).more h.size))
    go_wp2_with (go_at_call 115;refine (K.out _ (below_two _ _ _)).mono ?_;rintro e w2 ⟨rfl,hb2⟩;have hB:=hbel.trans (((below_two wr _ _).trans (hb2.mono (below_two wr _ _).size)).mono hbel.size))
    ·have hh:(!sameQ l[j].q k[j].q)=true:=by assumption
     have hf:sameQ l[j].q k[j].q=false:=by simpa using hh
     go_ret
     exact ⟨ret_bool (allEq_hit (f:=fun x y:QR=>sameQ x.q y.q) hl1 hl2 hf).symm,hB⟩
    ·have hh:(!sameQ l[j].q k[j].q)=false:=by assumption
     have hf:sameQ l[j].q k[j].q=true:=by simpa using hh
     go_roundw
     case rel=>
      refine ⟨j+1,by omega,by go_num,Lib.hid (fun i p q hi=>?_),hB⟩
      rcases Nat.lt_or_ge i j with h | h
      ·exact HA.out i p q h
      ·have:i=j:=by omega
       subst this
       exact hf
     case measure=>simp [intOf];omega
   ·have hjn:j=n:=by omega
    go_wp2_with fail
    go_ret
    refine ⟨ret_bool ?_,hbel⟩
    exact ((allEq_all (fun x y:QR=>sameQ x.q y.q) l k).2 ⟨by omega,fun i p q=>HA.out i p q (by omega)⟩).symm
 ·have hne:((n:Int) != (m:Int))=true:=by rw [bne_iff_ne];omega
  go_enter Tryz.func114,Tryz.ntmps114
  go_wp2_with fail
  go_ret
  refine ⟨ret_bool ?_,Below.refl _ _⟩
  exact (allEq_len (fun x y:QR=>sameQ x.q y.q) l k (by omega)).symm
set_option maxRecDepth 100000 in
set_option maxHeartbeats 400000 in
theorem eqR_at (A A2:Option Addr) (c c2 n m:Nat) (l k:List RR) (w:World) (h:RsRd w w.heap.size A c n l) (h2:RsRd w w.heap.size A2 c2 m k) :
 Calls Tryz.prog 116 #[.slice A n c,.slice A2 m c2,.func (.func 117) #[] #[]] w fun e w'=>e = .returned (.bool (allEq (fun x y=>sameR x.r y.r) l k))∧Below w.heap.size w w':=by
 have hn:=h.2.1
 have hn':=h.2.2.2.1
 have hm:=h2.2.1
 have hm':=h2.2.2.2.1
 have H:=Lib.hid h
 have H2:=Lib.hid h2
 clear h h2
 by_cases hnm:n=m
 ·subst hnm
  go_enter Tryz.func116,Tryz.ntmps116
  go_wp2_with fail
  go_loopw [7,8,9,17] (fun _ _ _ i wr=>∃ j:Nat,j≤n∧i = .int .i64 j∧Hid (∀ i (h1:i<l.length) (h2:i<k.length),i<j→sameR l[i].r k[i].r=true)∧Below w.heap.size w wr) (fun _ _ _ i _=>n - (intOf i).toNat)
  case atStart=>exact ⟨0,Nat.zero_le _,rfl,Lib.hid (fun _ _ _ h=>by omega),Below.refl _ _⟩
  case round=>
   obtain ⟨j,hj,rfl,HA,hbel⟩:=hrel
   rcases Nat.lt_or_ge j n with hlt | hge
   ·have hl1:j<l.length:=by omega
    have hl2:j<k.length:=by omega
    obtain ⟨b,o,rfl,hb1,hc⟩:=(H.out.below hbel).at_ hlt
    obtain ⟨c0,c1,c2,c3,c4,c5,c6,c7,c8⟩:=(hc hl1).cells
    obtain ⟨b',o',rfl,hb2,hc'⟩:=(H2.out.below hbel).at_ hlt
    obtain ⟨d0,d1,d2,d3,d4,d5,d6,d7,d8⟩:=(hc' hl2).cells
    have hsz:=hbel.size
    have hbl1:b<wr.heap.size:=by omega
    have hbl2:b'<wr.heap.size:=by omega
    have HX:=Lib.hid (((H.out.below hbel).2.2.2.2 l[j] (List.getElem_mem hl1)).more hbel.size)
    have HY:=Lib.hid (((H2.out.below hbel).2.2.2.2 k[j] (List.getElem_mem hl2)).more hbel.size)
    clear hc hc' hsz hb1 hb2
    have K:=Lib.hid (fun (w2:World) (h:Below wr.heap.size wr w2)=>sameR_at l[j] k[j] w2 ((HX.out.below h).more h.size) ((HY.out.below h).more h.size))
    go_wp2_with (go_at_call 117;refine (K.out _ (below_two _ _ _)).mono ?_;rintro e w2 ⟨rfl,hb2⟩;have hB:=hbel.trans (((below_two wr _ _).trans (hb2.mono (below_two wr _ _).size)).mono hbel.size))
    ·have hh:(!sameR l[j].r k[j].r)=true:=by assumption
     have hf:sameR l[j].r k[j].r=false:=by simpa using hh
     go_ret
     exact ⟨ret_bool (allEq_hit (f:=fun x y:RR=>sameR x.r y.r) hl1 hl2 hf).symm,hB⟩
    ·have hh:(!sameR l[j].r k[j].r)=false:=by assumption
     have hf:sameR l[j].r k[j].r=true:=by simpa using hh
     go_roundw
     case rel=>
      refine ⟨j+1,by omega,by go_num,Lib.hid (fun i p q hi=>?_),hB⟩
      rcases Nat.lt_or_ge i j with h | h
      ·exact HA.out i p q h
      ·have:i=j:=by omega
       subst this
       exact hf
     case measure=>simp [intOf];omega
   ·have hjn:j=n:=by omega
    go_wp2_with fail
    go_ret
    refine ⟨ret_bool ?_,hbel⟩
    exact ((allEq_all (fun x y:RR=>sameR x.r y.r) l k).2 ⟨by omega,fun i p q=>HA.out i p q (by omega)⟩).symm
 ·have hne:((n:Int) != (m:Int))=true:=by rw [bne_iff_ne];omega
  go_enter Tryz.func116,Tryz.ntmps116
  go_wp2_with fail
  go_ret
  refine ⟨ret_bool ?_,Below.refl _ _⟩
  exact (allEq_len (fun x y:RR=>sameR x.r y.r) l k (by omega)).symm
theorem allEq_map {α β:Type} (f:β→β→Bool) (g:α→β):∀ l m:List α,allEq (fun x y=>f (g x) (g y)) l m=allEq f (l.map g) (m.map g)
 | [],[]=>rfl
 | [],_ :: _=>rfl
 | _ :: _,[]=>rfl
 | a :: l,b :: m=>by simp only [allEq,List.map_cons,allEq_map f g l m]
set_option maxRecDepth 100000 in
set_option maxHeartbeats 1000000 in
theorem sameM_at (x y:MR) (w:World) (hx:MRd w w.heap.size x) (hy:MRd w w.heap.size y) :
 Calls Tryz.prog 79 #[.agg x.cells.toArray,.agg y.cells.toArray] w fun e w'=>e = .returned (.bool (sameM x.m y.m))∧Below w.heap.size w w':=by
 obtain ⟨b1,hb1⟩:∃ b,b=decide (x.id=y.id):=⟨_,rfl⟩
 obtain ⟨b2,hb2⟩:∃ b,b=decide (x.fl=y.fl):=⟨_,rfl⟩
 obtain ⟨b3,hb3⟩:∃ b,b=allEq (fun x y:QR=>sameQ x.q y.q) x.qs y.qs:=⟨_,rfl⟩
 obtain ⟨B,hB⟩:∃ B:Nat→Bool,B=fun i=>allEq (fun x y:RR=>sameR x.r y.r) (x.rl i) (y.rl i):=⟨_,rfl⟩
 have hs:sameM x.m y.m=(b1 && (b2 && (b3 && (B 0 && (B 1 && B 2))))):=by
  rw [hb1,hb2,hb3,hB]
  simp only [allEq_map sameR RR.r]
  rw [allEq_map sameQ QR.q];rfl
 rw [hs]
 clear hs
 have e1:((x.id:Int) != (y.id:Int)) = !b1:=by rw [hb1,Bool.eq_iff_iff,bne_iff_ne];simp;omega
 have e2:((x.fl:Int) != (y.fl:Int)) = !b2:=by rw [hb2,Bool.eq_iff_iff,bne_iff_ne];simp;omega
 have HX:=Lib.hid hx
 have HY:=Lib.hid hy
 have K3:=Lib.hid (fun (w2:World) (h:Below w.heap.size w w2)=>(show Calls Tryz.prog 114 #[.slice x.qA x.qs.length x.qc,.slice y.qA y.qs.length y.qc,.func (.func 115) #[] #[]] w2 fun e w'=>e = .returned (.bool b3)∧Below w2.heap.size w2 w' by rw [hb3];exact eqQ_at _ _ _ _ _ _ _ _ w2 ((HX.out.2.2.1.below h).more h.size) ((HY.out.2.2.1.below h).more h.size)))
 have K4:=Lib.hid (fun (i:Nat) (w2:World) (h:Below w.heap.size w w2)=>(show Calls Tryz.prog 116 #[.slice (x.rA i) (x.rl i).length (x.rc i),.slice (y.rA i) (y.rl i).length (y.rc i),.func (.func 117) #[] #[]] w2 fun e w'=>e = .returned (.bool (B i))∧Below w2.heap.size w2 w' by rw [hB];exact eqR_at _ _ _ _ _ _ _ _ w2 (((HX.out.rl i).below h).more h.size) (((HY.out.rl i).below h).more h.size)))
 have h1:=below_two w
 have H2:=fun (w2:World) (a b:Obj) (h:Below ((w.alloc a).alloc b).heap.size ((w.alloc a).alloc b) w2)=>(below_two w a b).trans (h.mono (below_two w a b).size)
 clear hx hy hb1 hb2 hb3 hB
 have cx0:x.cells[0]? = some (.int .u16 (x.id:Int)):=rfl
 have cx1:x.cells[1]? = some (.int .u16 (x.fl:Int)):=rfl
 have cx2:x.cells[2]? = some (.slice x.qA x.qs.length x.qc):=rfl
 have cy0:y.cells[0]? = some (.int .u16 (y.id:Int)):=rfl
 have cy1:y.cells[1]? = some (.int .u16 (y.fl:Int)):=rfl
 have cy2:y.cells[2]? = some (.slice y.qA y.qs.length y.qc):=rfl
 go_enter Tryz.func79,Tryz.ntmps79
 go_wp2_with (go_at_call 114
              refine (K3.out _ (h1 _ _)).mono ?_
              rintro e w2 ⟨rfl,hb⟩
              have hB:=H2 w2 _ _ hb
              obtain ⟨v1,v2⟩:=vx_two hb)
 all_goals try (go_ret;refine ⟨ret_bool (by simp_all),by first | exact hB | exact h1 _ _⟩)
 have q1:b1=true:=by assumption
 have q2:b2=true:=by assumption
 have q3:(!b3)=false:=by assumption
 have q3':b3=true:=by simpa using q3
 clear q3
 subst q1 q2 q3'
 simp only [Bool.not_true]
 have V1:=Lib.hid v1
 have V2:=Lib.hid v2
 clear hb v1 v2 cx0 cx1 cx2 cy0 cy1 cy2
 go_loopw [5,26] (fun _ vi wr=>∃ i:Nat,i≤3∧vi = .int .i64 i∧Hid (∀ j,j<i→B j=true)∧Hid (Vx wr w.heap.size 72 x.cells)∧Hid (Vx wr (w.heap.size+1) 72 y.cells)∧Below w.heap.size w wr) (fun _ i _=>3 - (intOf i).toNat)
 case atStart=>exact ⟨0,by omega,rfl,Lib.hid (fun j h=>by omega),V1,V2,hB⟩
 case round=>
  clear V1 V2 hB
  obtain ⟨i,hi,rfl,HA,V1,V2,hB⟩:=hrel
  rcases Nat.lt_or_ge i 3 with hlt | hge
  ·have c0:wr.cell? ⟨w.heap.size,3+i,none⟩=some (.slice (x.rA i) (x.rl i).length (x.rc i)):=by
    rw [V1.out.cell]
    rcases (show i=0∨i=1∨i=2 by omega) with rfl | rfl | rfl <;> rfl
   have d0:wr.cell? ⟨w.heap.size+1,3+i,none⟩=some (.slice (y.rA i) (y.rl i).length (y.rc i)):=by
    rw [V2.out.cell]
    rcases (show i=0∨i=1∨i=2 by omega) with rfl | rfl | rfl <;> rfl
   have hi3:(i:Int)<3:=by omega
   have hm:=V1.out.lt
   have hm2:=V2.out.lt
   go_upto_region 6 with fail
   go_region_with (go_at_call 116
                   refine (K4.out i _ (hB.drew)).mono ?_
                   rintro e w3 ⟨rfl,hb3⟩)
   all_goals
    have hb4:Below wr.heap.size wr w3:=(Below.refl wr.heap.size wr).drew.trans hb3
    have hB3:Below w.heap.size w w3:=hB.trans (hb4.mono hB.size)
    have W1:=Lib.hid (V1.out.below hb4 hm)
    have W2:=Lib.hid (V2.out.below hb4 hm2)
    clear hb3 hb4
    go_wp2_with fail
    ·have hh:(!B i)=true:=by assumption
     have hBf:B i=false:=by simpa using hh
     go_ret
     refine ⟨ret_bool ?_,hB3⟩
     rcases (show i=0∨i=1∨i=2 by omega) with rfl | rfl | rfl <;> simp [hBf]
    ·have hh:(!B i)=false:=by assumption
     have hBi:B i=true:=by simpa using hh
     go_roundw
     case rel=>
      refine ⟨i+1,by omega,by go_num,Lib.hid (fun j hj=>?_),W1,W2,hB3⟩
      rcases Nat.lt_or_ge j i with h | h
      ·exact HA.out j h
      ·have:j=i:=by omega
       subst this
       exact hBi
     case measure=>simp [intOf];omega
  ·have a0:=HA.out 0 (by omega)
   have a1:=HA.out 1 (by omega)
   have a2:=HA.out 2 (by omega)
   go_wp2_with fail
   go_ret
   refine ⟨ret_bool ?_,hB⟩
   simp_all
theorem RsRd.nil (w:World) (B:Nat):RsRd w B none 0 0 []:=⟨Rd.nil _ _ _,rfl,Nat.le_refl _,Nat.zero_le _,fun x h=>(by cases h)⟩
theorem QsRd.lit (w:World) (l:List QR) (hl:l.length≤1000000000000) (h:∀ x∈l,QRd w w.heap.size x):QsRd (w.alloc (.cells (qcs l).toArray 76)) (w.alloc (.cells (qcs l).toArray 76)).heap.size (some ⟨w.heap.size,0,none⟩) l.length l.length l:=
 ⟨Rd.lit_top0 w _ (qcs l) _ (qcs_length l),rfl,Nat.le_refl _,hl,fun x hx=>((h x hx).below (below_new w _)).more (below_new w _).size⟩
set_option maxRecDepth 100000 in
set_option maxHeartbeats 400000 in
theorem query_at (id ty:Nat) (A:Option Addr) (c L:Nat) (n:List (List UInt8)) (w:World) (hL:n.length=L) (h:NRd w w.heap.size A c n) (hid:id<65536) (hty:ty<65536) :
 Calls Tryz.prog 74 #[.int .u16 (id:Int),.slice A L c,.int .u16 (ty:Int)] w fun e w'=>∃ v,e = .returned (.tuple #[v,.int .i64 ((writeM ⟨id,256,[⟨n,ty,1⟩],[],[],[]⟩).2:Int)])∧Ow w' w.heap.size 5 v (bc (writeM ⟨id,256,[⟨n,ty,1⟩],[],[],[]⟩).1)∧Below w.heap.size w w':=by
 subst hL
 have HN:=Lib.hid h
 clear h
 have hb1:=below_new w (.cells (qcs [⟨A,c,⟨n,ty,1⟩⟩]).toArray 76)
 have hq:∀ x∈[(⟨A,c,⟨n,ty,1⟩⟩:QR)],QRd w w.heap.size x:=by
  intro x hx
  rw [List.mem_singleton.1 hx]
  exact ⟨HN.out,hty,by simp⟩
 have k:=write_at ⟨id,256,some ⟨w.heap.size,0,none⟩,1,[⟨A,c,⟨n,ty,1⟩⟩],none,0,[],none,0,[],none,0,[]⟩ (w.alloc (.cells (qcs [⟨A,c,⟨n,ty,1⟩⟩]).toArray 76)) ⟨hid,by simp,QsRd.lit w _ (by simp) hq,RsRd.nil _ _,RsRd.nil _ _,RsRd.nil _ _⟩
 rw [show MR.m ⟨id,256,some ⟨w.heap.size,0,none⟩,1,[⟨A,c,⟨n,ty,1⟩⟩],none,0,[],none,0,[],none,0,[]⟩=⟨id,256,[⟨n,ty,1⟩],[],[],[]⟩ from rfl] at k
 obtain ⟨W,hW⟩:∃ W,W=writeM ⟨id,256,[⟨n,ty,1⟩],[],[],[]⟩:=⟨_,rfl⟩
 rw [←hW] at k ⊢
 have K:=Lib.hid k
 clear k hq hW
 go_enter Tryz.func74,Tryz.ntmps74
 go_wp2_with (go_at_call 36
              refine K.out.mono ?_
              rintro e w2 ⟨v,rfl,ho,hb2⟩)
 go_ret2
 exact ⟨v,rfl,ho.mono hb1.size,hb1.trans (hb2.mono hb1.size)⟩
end Go.Proofs.YtlipmlbijddopaaGreatDoor
