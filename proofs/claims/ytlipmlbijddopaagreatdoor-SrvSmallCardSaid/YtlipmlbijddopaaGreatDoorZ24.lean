/-
  Cf; Ints; RefT; RefP; RefPs; Joins; Tells
-/
import Derived.Test.YtlipmlbijddopaaGreatDoorZ06
import Derived.Test.YtlipmlbijddopaaGreatDoorZ20
import Derived.Test.YtlipmlbijddopaaGreatDoorZ09
import Derived.Test.YtlipmlbijddopaaGreatDoorZ23
import Derived.Test.YtlipmlbijddopaaGreatDoorZ02
import Derived.Deep.DeepCutAuto
set_option linter.unusedVariables false
set_option linter.unusedSimpArgs false
namespace Go.Proofs.YtlipmlbijddopaaGreatDoor
open Go.RowKit
def telP (x:List UInt8):Bool:=decide (300<(x.length:Int))
def apfP (x:List UInt8):Bool:=decide (300<(x.length:Int))
def nzP (x:UInt8):Bool:=((x.toNat:Int) != 0)
end Go.Proofs.YtlipmlbijddopaaGreatDoor
set_option linter.unusedVariables false
set_option linter.unusedSimpArgs false
namespace Go.Proofs.YtlipmlbijddopaaGreatDoor
open Go.RowKit
def Whole (w:World) (g:Nat) (e:TypeId) (xs:List Value):Prop:=w.heap[g]? = some (.cells xs.toArray e (0,0))
theorem Whole.cell {w:World} {g:Nat} {e:TypeId} {xs:List Value} (h:Whole w g e xs) (j:Nat):w.cell? ⟨g,j,none⟩=xs[j]?:=by
 unfold Whole at h
 simp [World.cell?,h]
theorem Whole.new (w:World) (e:TypeId) (xs:List Value):Whole (w.alloc (.cells xs.toArray e)) w.heap.size e xs:=heap_alloc_new w _
def appR (b:List UInt8) (known:List Int) (n:List (List UInt8)):List UInt8 × Nat:=if rightN n=true then (appN b known n,0) else ([],160)
section
variable (w:World)
end
end Go.Proofs.YtlipmlbijddopaaGreatDoor
set_option linter.unusedVariables false
set_option linter.unusedSimpArgs false
namespace Go.Proofs.YtlipmlbijddopaaGreatDoor
open Go.RowKit
theorem four_src {P:Program} {W:World} {tx e':TypeId} (hk:P.underlying tx=some (.slice e')) (u:List Value) (e:TypeId) (h1:∀ x∈u,x.oneCell'=true):Src P 1 tx (.slice (some ⟨W.heap.size,0,none⟩) u.length u.length) u.length u (W.alloc (.cells u.toArray e)):=by
 refine Src.ofSlice _ hk _ u.length u.length u (by simp) (fun j x hj=>?_) h1
 have:=(Whole.new W e u).cell j
 rw [hj] at this
 by_cases hj0:j=0
 ·subst hj0;simpa [Addr.add] using this
 ·simpa [Addr.add,hj0] using this
set_option maxRecDepth 100000 in
set_option maxHeartbeats 400000 in
theorem rtext_bad (A:Option Addr) (c L:Nat) (n:List (List UInt8)) (w:World) (hL:n.length=L) (h:Rd w w.heap.size A L (sc n)) (hr:rightN n=false) (hs:sizeN n≤140737488355328) :
 Calls Tryz.prog 97 #[.slice A L c] w fun e w'=>e = .returned (.tuple #[.string ⟨#[]⟩,.int .i64 160])∧Below w.heap.size w w':=by
 subst hL
 go_enter Tryz.func97,Tryz.ntmps97
 go_wp2_with (go_at_call 53;refine (rright_any A c n w h hs).mono ?_;rw [hr];rintro e w1 ⟨rfl,hb1⟩)
 go_ret2
 exact ⟨rfl,hb1⟩
set_option maxRecDepth 100000 in
set_option maxHeartbeats 2000000 in
theorem rtext_ok (A:Option Addr) (c L:Nat) (n:List (List UInt8)) (w:World) (hL:n.length=L) (h:Rd w w.heap.size A L (sc n)) (hr:rightN n=true) :
 Calls Tryz.prog 97 #[.slice A L c] w fun e w'=>e = .returned (.tuple #[.string ⟨(textN n).toArray⟩,.int .i64 0])∧Below w.heap.size w w':=by
 subst hL
 obtain ⟨i0,hi,hz0,hz1,hz2⟩:=info_parts Tryz.infoByte
 have hsn:=size_right hr
 have hln:=sizeN_length n
 by_cases hn0:n=[]
 ·subst hn0
  go_enter Tryz.func97,Tryz.ntmps97
  go_wp2_with (go_at_call 53;refine (rright_any A c [] w h (by omega)).mono ?_;rw [hr];rintro e w1 ⟨rfl,hb1⟩)
  go_ret2
  exact ⟨rfl,hb1⟩
 ·have htx:textN n=tjoin n:=by unfold textN;rw [if_neg hn0]
  have HTX:=Lib.hid htx
  have HRT:=Lib.hid hr
  have hpos:0<n.length:=List.length_pos_iff.2 hn0
  have hne:((n.length:Int) == 0)=false:=by simp;omega
  have hln0:¬ n=[]:=hn0
  clear htx
  go_enter Tryz.func97,Tryz.ntmps97
  go_wp2_with (go_at_call 53;refine (rright_any A c n w h (by omega)).mono ?_;rw [HRT.out];rintro e w1 ⟨rfl,hb1⟩)
  clear hr
  go_loopw [4,5] (fun vo vi wr=>∃ k:Nat,k≤n.length∧vi = .int .i64 k∧Ow wr w.heap.size 5 vo (bc (tjoin (n.take k)))∧Below w.heap.size w wr) (fun _ vi _=>n.length - (intOf vi).toNat)
  case atStart=>exact ⟨0,Nat.zero_le _,rfl,Ow.nil _ _ _,hb1⟩
  case round=>
   clear hb1
   obtain ⟨k,hk,rfl,hown,hbel⟩:=hrel
   have hszb:=hbel.size
   have htl:=tjoin_length (n.take k)
   have hstk:=sizeN_take_le n k
   by_cases hlt:k<n.length
   ·have hst:=sizeN_take n k hlt
    have hstk1:=sizeN_take_le n (k+1)
    have htt:=tjoin_take n k hlt
    obtain ⟨b,o,rfl,hbw,hc⟩:=h.at_ hlt
    have hcell0:=hc k _ (sc_get n k hlt)
    generalize n[k]=l at hst htt hcell0
    have hll:l.length≤255:=by omega
    have HT:=Lib.hid htt
    clear hc htt hst
    obtain ⟨sep,hsep,hsl⟩:∃ sep:List UInt8,sep=(if k=0 then [] else [46])∧sep.length≤1:=⟨_,rfl,by split <;> simp⟩
    rw [←hsep] at HT
    have hel:∀ j,(escL (l.take j)).length≤1020:=fun j=>by
     have:=escL_length (l.take j)
     have:(l.take j).length≤l.length:=by rw [List.length_take];omega
     omega
    have HEL:=Lib.hid hel
    clear hel
    by_cases hk0:k=0
    ·have hsep':sep=[]:=by rw [hsep,if_pos hk0]
     have hown2:Ow wr w.heap.size 5 u4 (bc (tjoin (n.take k)++sep)):=by rw [hsep',List.append_nil];exact hown
     have hb2:=hbel
     have tk:decide (0<k)=false:=by simp;omega
     have hk1:(k:Int)≤0:=by omega
     clear hsep hsep' hown hk0
     go_wp2_with fail
     go_loopw [4,6] (fun vo vj wq=>∃ j:Nat,j≤l.length∧vj = .int .i64 j∧Ow wq w.heap.size 5 vo (bc (tjoin (n.take k)++sep++escL (l.take j)))∧Below w.heap.size w wq) (fun _ vj _=>l.length - (intOf vj).toNat)
     case atStart=>exact ⟨0,Nat.zero_le _,rfl,by simpa [escL] using hown2,hb2⟩
     case round=>
      clear hown2 hb2 hbel hszb
      obtain ⟨j,hj,rfl,hownj,hbel⟩:=hrel
      have hszb:=hbel.size
      have hcell:=(hbel.cell (p:=⟨b,o+k,none⟩) hbw).trans hcell0
      have hej:=HEL.out j
      have hbl:(tjoin (n.take k)++sep++escL (l.take j)).length≤4000:=by rw [List.length_append,List.length_append];omega
      by_cases hjl:j<l.length
      ·have hix:=fun W=>idxStr W l j l[j] (by simp [hjl])
       have het:=escL_take l j hjl
       have hxl:=UInt8.toNat_lt l[j]
       generalize l[j]=x at hix het hxl
       have HE:=Lib.hid het
       clear het
       rcases escB_cases x with ⟨hx,e⟩ | ⟨⟨hx1,hx2,hx3,hx4⟩,e⟩ | ⟨hx,e⟩
       ·have hee:bc (escB x)=[.int .u8 92,.int .u8 (x.toNat:Int)]:=by rw [e];rfl
        have HEE:=Lib.hid hee
        clear hee e
        by_cases hx46:x.toNat=46
        ·have t1:((x.toNat:Int) == 46)=true:=by simp;omega
         clear hx hx46
         go_wp2_with (at_builtin;refine wpList_app _ rfl _ _ _ _ rfl w.heap.size 5 i0 (.int .u8 0) 1 Tryz.underlying22 hi hz0 hz1 hz2 rfl (Nat.le_refl _) _ _ (hownj.alloc _) rfl 2 [.int .u8 92,.int .u8 (x.toNat:Int)] (four_src Tryz.underlying22 [.int .u8 92,.int .u8 (x.toNat:Int)] _ (by simp [Value.oneCell'])) (by rw [bc_length];omega) (by simp;omega) ?_;intro v6 w6 hown6 hgr6 hsz6)
         go_roundw
         case rel=>exact ⟨j+1,by omega,by go_num,by rw [HE.out,←List.append_assoc,bc_append,HEE.out];exact hown6,hbel.trans ((((Gr.refl _ _).alloc _).trans hgr6).below hownj.lt hszb)⟩
         case measure=>simp [intOf];omega
        ·have t1:((x.toNat:Int) == 46)=false:=by simp;omega
         have t2:((x.toNat:Int) == 92)=true:=by simp;omega
         clear hx hx46
         go_wp2_with (at_builtin;refine wpList_app _ rfl _ _ _ _ rfl w.heap.size 5 i0 (.int .u8 0) 1 Tryz.underlying22 hi hz0 hz1 hz2 rfl (Nat.le_refl _) _ _ (hownj.alloc _) rfl 2 [.int .u8 92,.int .u8 (x.toNat:Int)] (four_src Tryz.underlying22 [.int .u8 92,.int .u8 (x.toNat:Int)] _ (by simp [Value.oneCell'])) (by rw [bc_length];omega) (by simp;omega) ?_;intro v6 w6 hown6 hgr6 hsz6)
         go_roundw
         case rel=>exact ⟨j+1,by omega,by go_num,by rw [HE.out,←List.append_assoc,bc_append,HEE.out];exact hown6,hbel.trans ((((Gr.refl _ _).alloc _).trans hgr6).below hownj.lt hszb)⟩
         case measure=>simp [intOf];omega
       ·have hee:bc (escB x)=[.int .u8 (x.toNat:Int)]:=by rw [e];rfl
        have HEE:=Lib.hid hee
        have t1:((x.toNat:Int) == 46)=false:=by simp;omega
        have t2:((x.toNat:Int) == 92)=false:=by simp;omega
        have t3:decide (33≤(x.toNat:Int))=true:=by simp;omega
        have t4:decide ((x.toNat:Int)≤126)=true:=by simp;omega
        clear hee e
        go_wp2_with (at_builtin;refine wpList_app _ rfl _ _ _ _ rfl w.heap.size 5 i0 (.int .u8 0) 1 Tryz.underlying22 hi hz0 hz1 hz2 rfl (Nat.le_refl _) _ _ (hownj.alloc _) rfl 1 [.int .u8 (x.toNat:Int)] (one_src Tryz.underlying22 _ rfl) (by rw [bc_length];omega) (by simp;omega) ?_;intro v6 w6 hown6 hgr6 hsz6)
        go_roundw
        case rel=>exact ⟨j+1,by omega,by go_num,by rw [HE.out,←List.append_assoc,bc_append,HEE.out];exact hown6,hbel.trans ((((Gr.refl _ _).alloc _).trans hgr6).below hownj.lt hszb)⟩
        case measure=>simp [intOf];omega
       ·have hee:bc (escB x)=[.int .u8 92,.int .u8 (48+(x.toNat:Int) / 100),.int .u8 (48+(x.toNat:Int) / 10 % 10),.int .u8 (48+(x.toNat:Int) % 10)]:=by rw [e,esc_cells]
        have HEE:=Lib.hid hee
        have hn1:x.toNat≠46:=by omega
        have hn2:x.toNat≠92:=by omega
        have t1:((x.toNat:Int) == 46)=false:=by simp;omega
        have t2:((x.toNat:Int) == 92)=false:=by simp;omega
        clear hee e hn1 hn2
        by_cases hx33:33≤x.toNat
        ·have t3:decide (33≤(x.toNat:Int))=true:=by simp;omega
         have t4:decide ((x.toNat:Int)≤126)=false:=by simp;omega
         go_wp2_with (at_builtin;refine wpList_app _ rfl _ _ _ _ rfl w.heap.size 5 i0 (.int .u8 0) 1 Tryz.underlying22 hi hz0 hz1 hz2 rfl (Nat.le_refl _) _ _ (hownj.alloc _) rfl 4 [.int .u8 92,.int .u8 (48+(x.toNat:Int) / 100),.int .u8 (48+(x.toNat:Int) / 10 % 10),.int .u8 (48+(x.toNat:Int) % 10)] (four_src Tryz.underlying22 [.int .u8 92,.int .u8 (48+(x.toNat:Int) / 100),.int .u8 (48+(x.toNat:Int) / 10 % 10),.int .u8 (48+(x.toNat:Int) % 10)] _ (by simp [Value.oneCell'])) (by rw [bc_length];omega) (by simp;omega) ?_;intro v6 w6 hown6 hgr6 hsz6)
         go_roundw
         case rel=>exact ⟨j+1,by omega,by go_num,by rw [HE.out,←List.append_assoc,bc_append,HEE.out];exact hown6,hbel.trans ((((Gr.refl _ _).alloc _).trans hgr6).below hownj.lt hszb)⟩
         case measure=>simp [intOf];omega
        ·have t3:decide (33≤(x.toNat:Int))=false:=by simp;omega
         go_wp2_with (at_builtin;refine wpList_app _ rfl _ _ _ _ rfl w.heap.size 5 i0 (.int .u8 0) 1 Tryz.underlying22 hi hz0 hz1 hz2 rfl (Nat.le_refl _) _ _ (hownj.alloc _) rfl 4 [.int .u8 92,.int .u8 (48+(x.toNat:Int) / 100),.int .u8 (48+(x.toNat:Int) / 10 % 10),.int .u8 (48+(x.toNat:Int) % 10)] (four_src Tryz.underlying22 [.int .u8 92,.int .u8 (48+(x.toNat:Int) / 100),.int .u8 (48+(x.toNat:Int) / 10 % 10),.int .u8 (48+(x.toNat:Int) % 10)] _ (by simp [Value.oneCell'])) (by rw [bc_length];omega) (by simp;omega) ?_;intro v6 w6 hown6 hgr6 hsz6)
         go_roundw
         case rel=>exact ⟨j+1,by omega,by go_num,by rw [HE.out,←List.append_assoc,bc_append,HEE.out];exact hown6,hbel.trans ((((Gr.refl _ _).alloc _).trans hgr6).below hownj.lt hszb)⟩
         case measure=>simp [intOf];omega
      ·have hjl2:j=l.length:=by omega
       subst hjl2
       rw [List.take_length,←HT.out] at hownj
       go_wp2_with fail
       go_roundw
       case rel=>exact ⟨k+1,by omega,by go_num,hownj,hbel⟩
       case measure=>simp [intOf];omega
    ·have hsep':sep=[46]:=by rw [hsep,if_neg hk0]
     have HSP:=Lib.hid hsep'
     have tk:decide (0<k)=true:=by simp;omega
     have hk1:(0:Int)<(k:Int):=by omega
     clear hsep hsep' hk0
     go_wp2_with (at_builtin;refine wpList_app _ rfl _ _ _ _ rfl w.heap.size 5 i0 (.int .u8 0) 1 Tryz.underlying22 hi hz0 hz1 hz2 rfl (Nat.le_refl _) _ _ (hown.alloc _) rfl 1 [.int .u8 46] (one_src Tryz.underlying22 _ rfl) (by rw [bc_length];omega) (by simp;omega) ?_;intro v7 w7 hown7 hgr7 hsz7)
     have hown2:Ow w7 w.heap.size 5 v7 (bc (tjoin (n.take k)++sep)):=by rw [HSP.out,bc_append];exact hown7
     have hb2:Below w.heap.size w w7:=hbel.trans ((((Gr.refl _ _).alloc _).trans hgr7).below hown.lt hszb)
     clear hown hown7 hgr7 hsz7
     go_loopw [4,6] (fun vo vj wq=>∃ j:Nat,j≤l.length∧vj = .int .i64 j∧Ow wq w.heap.size 5 vo (bc (tjoin (n.take k)++sep++escL (l.take j)))∧Below w.heap.size w wq) (fun _ vj _=>l.length - (intOf vj).toNat)
     case atStart=>exact ⟨0,Nat.zero_le _,rfl,by simpa [escL] using hown2,hb2⟩
     case round=>
      clear hown2 hb2 hbel hszb
      obtain ⟨j,hj,rfl,hownj,hbel⟩:=hrel
      have hszb:=hbel.size
      have hcell:=(hbel.cell (p:=⟨b,o+k,none⟩) hbw).trans hcell0
      have hej:=HEL.out j
      have hbl:(tjoin (n.take k)++sep++escL (l.take j)).length≤4000:=by rw [List.length_append,List.length_append];omega
      by_cases hjl:j<l.length
      ·have hix:=fun W=>idxStr W l j l[j] (by simp [hjl])
       have het:=escL_take l j hjl
       have hxl:=UInt8.toNat_lt l[j]
       generalize l[j]=x at hix het hxl
       have HE:=Lib.hid het
       clear het
       rcases escB_cases x with ⟨hx,e⟩ | ⟨⟨hx1,hx2,hx3,hx4⟩,e⟩ | ⟨hx,e⟩
       ·have hee:bc (escB x)=[.int .u8 92,.int .u8 (x.toNat:Int)]:=by rw [e];rfl
        have HEE:=Lib.hid hee
        clear hee e
        by_cases hx46:x.toNat=46
        ·have t1:((x.toNat:Int) == 46)=true:=by simp;omega
         clear hx hx46
         go_wp2_with (at_builtin;refine wpList_app _ rfl _ _ _ _ rfl w.heap.size 5 i0 (.int .u8 0) 1 Tryz.underlying22 hi hz0 hz1 hz2 rfl (Nat.le_refl _) _ _ (hownj.alloc _) rfl 2 [.int .u8 92,.int .u8 (x.toNat:Int)] (four_src Tryz.underlying22 [.int .u8 92,.int .u8 (x.toNat:Int)] _ (by simp [Value.oneCell'])) (by rw [bc_length];omega) (by simp;omega) ?_;intro v6 w6 hown6 hgr6 hsz6)
         go_roundw
         case rel=>exact ⟨j+1,by omega,by go_num,by rw [HE.out,←List.append_assoc,bc_append,HEE.out];exact hown6,hbel.trans ((((Gr.refl _ _).alloc _).trans hgr6).below hownj.lt hszb)⟩
         case measure=>simp [intOf];omega
        ·have t1:((x.toNat:Int) == 46)=false:=by simp;omega
         have t2:((x.toNat:Int) == 92)=true:=by simp;omega
         clear hx hx46
         go_wp2_with (at_builtin;refine wpList_app _ rfl _ _ _ _ rfl w.heap.size 5 i0 (.int .u8 0) 1 Tryz.underlying22 hi hz0 hz1 hz2 rfl (Nat.le_refl _) _ _ (hownj.alloc _) rfl 2 [.int .u8 92,.int .u8 (x.toNat:Int)] (four_src Tryz.underlying22 [.int .u8 92,.int .u8 (x.toNat:Int)] _ (by simp [Value.oneCell'])) (by rw [bc_length];omega) (by simp;omega) ?_;intro v6 w6 hown6 hgr6 hsz6)
         go_roundw
         case rel=>exact ⟨j+1,by omega,by go_num,by rw [HE.out,←List.append_assoc,bc_append,HEE.out];exact hown6,hbel.trans ((((Gr.refl _ _).alloc _).trans hgr6).below hownj.lt hszb)⟩
         case measure=>simp [intOf];omega
       ·have hee:bc (escB x)=[.int .u8 (x.toNat:Int)]:=by rw [e];rfl
        have HEE:=Lib.hid hee
        have t1:((x.toNat:Int) == 46)=false:=by simp;omega
        have t2:((x.toNat:Int) == 92)=false:=by simp;omega
        have t3:decide (33≤(x.toNat:Int))=true:=by simp;omega
        have t4:decide ((x.toNat:Int)≤126)=true:=by simp;omega
        clear hee e
        go_wp2_with (at_builtin;refine wpList_app _ rfl _ _ _ _ rfl w.heap.size 5 i0 (.int .u8 0) 1 Tryz.underlying22 hi hz0 hz1 hz2 rfl (Nat.le_refl _) _ _ (hownj.alloc _) rfl 1 [.int .u8 (x.toNat:Int)] (one_src Tryz.underlying22 _ rfl) (by rw [bc_length];omega) (by simp;omega) ?_;intro v6 w6 hown6 hgr6 hsz6)
        go_roundw
        case rel=>exact ⟨j+1,by omega,by go_num,by rw [HE.out,←List.append_assoc,bc_append,HEE.out];exact hown6,hbel.trans ((((Gr.refl _ _).alloc _).trans hgr6).below hownj.lt hszb)⟩
        case measure=>simp [intOf];omega
       ·have hee:bc (escB x)=[.int .u8 92,.int .u8 (48+(x.toNat:Int) / 100),.int .u8 (48+(x.toNat:Int) / 10 % 10),.int .u8 (48+(x.toNat:Int) % 10)]:=by rw [e,esc_cells]
        have HEE:=Lib.hid hee
        have hn1:x.toNat≠46:=by omega
        have hn2:x.toNat≠92:=by omega
        have t1:((x.toNat:Int) == 46)=false:=by simp;omega
        have t2:((x.toNat:Int) == 92)=false:=by simp;omega
        clear hee e hn1 hn2
        by_cases hx33:33≤x.toNat
        ·have t3:decide (33≤(x.toNat:Int))=true:=by simp;omega
         have t4:decide ((x.toNat:Int)≤126)=false:=by simp;omega
         go_wp2_with (at_builtin;refine wpList_app _ rfl _ _ _ _ rfl w.heap.size 5 i0 (.int .u8 0) 1 Tryz.underlying22 hi hz0 hz1 hz2 rfl (Nat.le_refl _) _ _ (hownj.alloc _) rfl 4 [.int .u8 92,.int .u8 (48+(x.toNat:Int) / 100),.int .u8 (48+(x.toNat:Int) / 10 % 10),.int .u8 (48+(x.toNat:Int) % 10)] (four_src Tryz.underlying22 [.int .u8 92,.int .u8 (48+(x.toNat:Int) / 100),.int .u8 (48+(x.toNat:Int) / 10 % 10),.int .u8 (48+(x.toNat:Int) % 10)] _ (by simp [Value.oneCell'])) (by rw [bc_length];omega) (by simp;omega) ?_;intro v6 w6 hown6 hgr6 hsz6)
         go_roundw
         case rel=>exact ⟨j+1,by omega,by go_num,by rw [HE.out,←List.append_assoc,bc_append,HEE.out];exact hown6,hbel.trans ((((Gr.refl _ _).alloc _).trans hgr6).below hownj.lt hszb)⟩
         case measure=>simp [intOf];omega
        ·have t3:decide (33≤(x.toNat:Int))=false:=by simp;omega
         go_wp2_with (at_builtin;refine wpList_app _ rfl _ _ _ _ rfl w.heap.size 5 i0 (.int .u8 0) 1 Tryz.underlying22 hi hz0 hz1 hz2 rfl (Nat.le_refl _) _ _ (hownj.alloc _) rfl 4 [.int .u8 92,.int .u8 (48+(x.toNat:Int) / 100),.int .u8 (48+(x.toNat:Int) / 10 % 10),.int .u8 (48+(x.toNat:Int) % 10)] (four_src Tryz.underlying22 [.int .u8 92,.int .u8 (48+(x.toNat:Int) / 100),.int .u8 (48+(x.toNat:Int) / 10 % 10),.int .u8 (48+(x.toNat:Int) % 10)] _ (by simp [Value.oneCell'])) (by rw [bc_length];omega) (by simp;omega) ?_;intro v6 w6 hown6 hgr6 hsz6)
         go_roundw
         case rel=>exact ⟨j+1,by omega,by go_num,by rw [HE.out,←List.append_assoc,bc_append,HEE.out];exact hown6,hbel.trans ((((Gr.refl _ _).alloc _).trans hgr6).below hownj.lt hszb)⟩
         case measure=>simp [intOf];omega
      ·have hjl2:j=l.length:=by omega
       subst hjl2
       rw [List.take_length,←HT.out] at hownj
       go_wp2_with fail
       go_roundw
       case rel=>exact ⟨k+1,by omega,by go_num,hownj,hbel⟩
       case measure=>simp [intOf];omega
   ·have:k=n.length:=by omega
    subst this
    rw [List.take_length] at hown
    obtain ⟨A4,c4,rfl,hl4,r4⟩:=hown.form7 (tjoin n).length (by simp)
    have hcv:=conv_bs (P:=Tryz.prog) wr 22 5 9 A4 c4 wr.heap.size (tjoin n) Tryz.underlying22 Tryz.underlying5 Tryz.underlying9 r4
    clear hown
    go_wp2_with fail
    go_ret2
    exact ⟨by rw [HTX.out];rfl,hbel⟩
end Go.Proofs.YtlipmlbijddopaaGreatDoor
set_option linter.unusedVariables false
set_option linter.unusedSimpArgs false
namespace Go.Proofs.YtlipmlbijddopaaGreatDoor
open Go.RowKit
theorem getD_some (s:List UInt8) (k:Nat) (h:k<s.length):s[k]? = some (s.getD k 0):=by
 rw [List.getD_eq_getElem?_getD,List.getElem?_eq_getElem h];rfl
theorem acc_lt (s:List UInt8):∀ k:Nat,(∀ j,1≤j→j≤k→digOk s j=true)→acc s k+1≤10 ^ k
 | 0,_=>by simp [acc]
 | k+1,h=>by
   have ih:=acc_lt s k (fun j h1 h2=>h j h1 (by omega))
   have hd:=h (k+1) (by omega) (by omega)
   simp only [digOk,Bool.and_eq_true,decide_eq_true_eq] at hd
   simp only [acc,Nat.pow_succ]
   omega
theorem piece_big (s:List UInt8) (h92:s.getD 0 0=92) (h2:¬ (1<s.length∧(s.getD 1 0=46∨s.getD 1 0=92))) (h4:¬ s.length<4) :
 pieceN s=if digOk s 1 && digOk s 2 && digOk s 3 then (if 255<acc s 3∨(33≤acc s 3∧acc s 3≤126) then (0,0) else (UInt8.ofNat (acc s 3),4)) else (0,0):=by
 unfold pieceN
 rw [if_neg (by rw [h92];simp),if_neg h2,if_neg h4]
theorem ret_p {a:UInt8} {b:Nat} {x y:Int} {p:UInt8 × Nat} (h:p=(a,b)) (hx:(a.toNat:Int)=x) (hy:(b:Int)=y):Ending.returned (.tuple #[.int .u8 x,.int .i64 y]) = .returned (.tuple #[.int .u8 (p.1.toNat:Int),.int .i64 (p.2:Int)]):=by
 rw [h,←hx,←hy]
set_option maxRecDepth 100000 in
set_option maxHeartbeats 1000000 in
theorem piece_any (s:List UInt8) (w:World) (hne:0<s.length) (hl:s.length≤140737488355328) :
 Calls Tryz.prog 139 #[.string ⟨s.toArray⟩] w fun e w'=>e = .returned (.tuple #[.int .u8 ((pieceN s).1.toNat:Int),.int .i64 ((pieceN s).2:Int)])∧w'=w:=by
 have ix0:∀ W,(Instr.index 9 (.string ⟨s.toArray⟩) (.int .i64 0)).run Tryz.prog W = .ok (.int .u8 ((s.getD 0 0).toNat:Int)) W:=fun W=>idxStr W s 0 (s.getD 0 0) (getD_some s 0 hne)
 by_cases h92:s.getD 0 0=92
 ·have t0:(((s.getD 0 0).toNat:Int) != 92)=false:=by rw [h92];rfl
  have H92:=Lib.hid h92
  clear h92
  generalize hc0:((s.getD 0 0).toNat:Int)=c0 at ix0 t0
  clear hc0
  by_cases h1:1<s.length
  ·have ix1:∀ W,(Instr.index 9 (.string ⟨s.toArray⟩) (.int .i64 1)).run Tryz.prog W = .ok (.int .u8 ((s.getD 1 0).toNat:Int)) W:=fun W=>idxStr W s 1 (s.getD 1 0) (getD_some s 1 h1)
   have d1:decide (1<s.length)=true:=by simp;omega
   by_cases h46:s.getD 1 0=46
   ·have hp:pieceN s=(s.getD 1 0,2):=by unfold pieceN;rw [if_neg (by rw [H92.out];simp),if_pos ⟨h1,.inl h46⟩]
    have t1:(((s.getD 1 0).toNat:Int) == 46)=true:=by rw [h46];rfl
    have HP:=Lib.hid hp
    clear hp h46
    generalize hx:s.getD 1 0=x at ix1 t1 HP
    clear hx
    go_enter Tryz.func139,Tryz.ntmps139
    go_wp2
    go_ret2
    exact ⟨ret_p HP.out rfl rfl,rfl⟩
   ·have t1:(((s.getD 1 0).toNat:Int) == 46)=false:=by
     have:(s.getD 1 0).toNat≠46:=fun h=>h46 (u8_eq.2 h)
     exact beq_eq_false_iff_ne.2 (by omega)
    by_cases h92':s.getD 1 0=92
    ·have hp:pieceN s=(s.getD 1 0,2):=by unfold pieceN;rw [if_neg (by rw [H92.out];simp),if_pos ⟨h1,.inr h92'⟩]
     have t2:(((s.getD 1 0).toNat:Int) == 92)=true:=by rw [h92'];rfl
     have HP:=Lib.hid hp
     clear hp h92' h46
     generalize hx:s.getD 1 0=x at ix1 t1 t2 HP
     clear hx
     go_enter Tryz.func139,Tryz.ntmps139
     go_wp2
     go_ret2
     exact ⟨ret_p HP.out rfl rfl,rfl⟩
    ·have t2:(((s.getD 1 0).toNat:Int) == 92)=false:=by
      have:(s.getD 1 0).toNat≠92:=fun h=>h92' (u8_eq.2 h)
      exact beq_eq_false_iff_ne.2 (by omega)
     have h2:¬ (1<s.length∧(s.getD 1 0=46∨s.getD 1 0=92)):=by rintro ⟨_,h | h⟩;exact h46 h;exact h92' h
     by_cases h4:s.length<4
     ·have hp:pieceN s=(0,0):=by unfold pieceN;rw [if_neg (by rw [H92.out];simp),if_neg h2,if_pos h4]
      have d4:decide (s.length<4)=true:=by simp;omega
      have HP:=Lib.hid hp
      clear hp h92' h46 h2
      generalize hx:((s.getD 1 0).toNat:Int)=x at ix1 t1 t2
      clear hx
      go_enter Tryz.func139,Tryz.ntmps139
      go_wp2
      go_ret2
      exact ⟨ret_p HP.out rfl rfl,rfl⟩
     ·have hp:=piece_big s H92.out h2 h4
      have d4:decide (s.length<4)=false:=by simp;omega
      have HP:=Lib.hid hp
      clear hp h92' h46 h2
      generalize hx:((s.getD 1 0).toNat:Int)=x at ix1 t1 t2
      clear hx
      go_enter Tryz.func139,Tryz.ntmps139
      go_wp2
      clear ix0 ix1
      go_loop [4,5] (fun vx vi=>∃ k:Nat,k≤3∧vi = .int .i64 ((k:Int)+1)∧vx = .int .i64 (acc s k)∧Hid (∀ j,1≤j→j≤k→digOk s j=true)) (fun _ vi=>4 - (intOf vi).toNat)
      case atStart=>exact ⟨0,by omega,rfl,rfl,fun j h5 h6=>by omega⟩
      case round=>
       obtain ⟨k,hk,rfl,rfl,HD⟩:=hrel
       have ha:=acc_lt s k HD.out
       have ha3:acc s k≤999:=by
        have:10 ^ k≤10 ^ 3:=Nat.pow_le_pow_right (by omega) hk
        omega
       clear ha
       by_cases hk3:k<3
       ·have ixk:∀ W,(Instr.index 9 (.string ⟨s.toArray⟩) (.int .i64 ((k:Int)+1))).run Tryz.prog W = .ok (.int .u8 ((s.getD (k+1) 0).toNat:Int)) W:=fun W=>idxStr W s (k+1) (s.getD (k+1) 0) (getD_some s (k+1) (by omega))
        have hacc:acc s (k+1)=10*acc s k+(s.getD (k+1) 0).toNat - 48:=rfl
        have hfail:digOk s (k+1)=false→pieceN s=(0,0):=by
         intro hf
         rw [HP.out]
         have:(digOk s 1 && digOk s 2 && digOk s 3)=false:=by
          rcases k with _ | _ | _ | k
          ·simp [hf]
          ·simp [hf]
          ·simp [hf]
          ·omega
         rw [this];rfl
        have hdig:digOk s (k+1)=(decide (48≤(s.getD (k+1) 0).toNat) && decide ((s.getD (k+1) 0).toNat≤57)):=rfl
        have hcl:=UInt8.toNat_lt (s.getD (k+1) 0)
        generalize (s.getD (k+1) 0).toNat=c at ixk hacc hdig hcl
        have HA:=Lib.hid hacc
        have HDG:=Lib.hid hdig
        have HFL:=Lib.hid hfail
        clear hacc hdig hfail
        by_cases hc48:c<48
        ·have b1:decide ((c:Int)<48)=true:=by simp;omega
         have hp:=HFL.out (by rw [HDG.out,decide_eq_false (show ¬ 48≤c by omega)];rfl)
         have HP2:=Lib.hid hp
         clear hp
         go_wp2
         go_ret2
         exact ⟨ret_p HP2.out rfl rfl,rfl⟩
        ·have b1:decide ((c:Int)<48)=false:=by simp;omega
         by_cases hc57:57<c
         ·have b2:decide (57<(c:Int))=true:=by simp;omega
          have hp:=HFL.out (by rw [HDG.out,decide_eq_false (show ¬ c≤57 by omega),Bool.and_false])
          have HP2:=Lib.hid hp
          clear hp
          go_wp2
          go_ret2
          exact ⟨ret_p HP2.out rfl rfl,rfl⟩
         ·have b2:decide (57<(c:Int))=false:=by simp;omega
          have hd2:Hid (∀ j,1≤j→j≤k+1→digOk s j=true):=fun j h5 h6=>by
           rcases Nat.lt_or_ge j (k+1) with h7 | h7
           ·exact HD.out j h5 (by omega)
           ·rw [show j=k+1 by omega,HDG.out,decide_eq_true (show 48≤c by omega),decide_eq_true (show c≤57 by omega)];rfl
          go_wp2
          go_round
          case rel=>exact ⟨k+1,by omega,by go_num,by rw [HA.out];go_num,hd2⟩
          case measure=>simp [intOf];omega
       ·have hk':k=3:=by omega
        subst hk'
        have hall:(digOk s 1 && digOk s 2 && digOk s 3)=true:=by
         rw [HD.out 1 (by omega) (by omega),HD.out 2 (by omega) (by omega),HD.out 3 (by omega) (by omega)];rfl
        have hp:=HP.out
        rw [if_pos hall] at hp
        clear hall hk3 hk
        generalize acc s 3=x at hp ha3
        by_cases hb:255<x∨(33≤x∧x≤126)
        ·rw [if_pos hb] at hp
         have HP2:=Lib.hid hp
         clear hp
         rcases hb with hb | hb
         ·have b1:decide (255<(x:Int))=true:=by simp;omega
          go_wp2
          go_ret2
          exact ⟨ret_p HP2.out rfl rfl,rfl⟩
         ·obtain ⟨hb1,hb2⟩:=hb
          have b1:decide (255<(x:Int))=false:=by simp;omega
          have b2:decide (33≤(x:Int))=true:=by simp;omega
          have b3:decide ((x:Int)≤126)=true:=by simp;omega
          go_wp2
          go_ret2
          exact ⟨ret_p HP2.out rfl rfl,rfl⟩
        ·rw [if_neg hb] at hp
         have HP2:=Lib.hid hp
         have hx255:x≤255:=by omega
         have hxn:((UInt8.ofNat x).toNat:Int)=(x:Int):=by rw [UInt8.toNat_ofNat'];omega
         have HXN:=Lib.hid hxn
         have b1:decide (255<(x:Int))=false:=by simp;omega
         clear hp hxn
         by_cases hx33:33≤x
         ·have b2:decide (33≤(x:Int))=true:=by simp;omega
          have b3:decide ((x:Int)≤126)=false:=by simp;omega
          clear hb
          go_wp2
          go_ret2
          exact ⟨ret_p HP2.out HXN.out rfl,rfl⟩
         ·have b2:decide (33≤(x:Int))=false:=by simp;omega
          clear hb
          go_wp2
          go_ret2
          exact ⟨ret_p HP2.out HXN.out rfl,rfl⟩
  ·have hp:pieceN s=(0,0):=by unfold pieceN;rw [if_neg (by rw [H92.out];simp),if_neg (by omega),if_pos (by omega)]
   have d1:decide (1<s.length)=false:=by simp;omega
   have d4:decide (s.length<4)=true:=by simp;omega
   have HP:=Lib.hid hp
   clear hp
   go_enter Tryz.func139,Tryz.ntmps139
   go_wp2
   go_ret2
   exact ⟨ret_p HP.out rfl rfl,rfl⟩
 ·have t0:(((s.getD 0 0).toNat:Int) != 92)=true:=by
   have:(s.getD 0 0).toNat≠92:=fun h=>h92 (u8_eq.2 h)
   exact bne_iff_ne.2 (by omega)
  have hp:pieceN s=(s.getD 0 0,1):=by unfold pieceN;rw [if_pos h92]
  have HP:=Lib.hid hp
  clear hp h92
  generalize hx:s.getD 0 0=x at ix0 t0 HP
  clear hx
  go_enter Tryz.func139,Tryz.ntmps139
  go_wp2
  go_ret2
  exact ⟨ret_p HP.out rfl rfl,rfl⟩
end Go.Proofs.YtlipmlbijddopaaGreatDoor
set_option linter.unusedVariables false
set_option linter.unusedSimpArgs false
namespace Go.Proofs.YtlipmlbijddopaaGreatDoor
open Go.RowKit
theorem sc_snoc (n:List (List UInt8)) (lab:List UInt8):sc (n++[lab])=sc n++[.string ⟨lab.toArray⟩]:=by simp [sc,strV]
theorem rrightP_at (w:World) (A:Option Addr) (c L:Nat) (n:List (List UInt8)) (hL:n.length=L) (h:Rd w w.heap.size A L (sc n)) (hs:sizeN n≤140737488355328) :
 Calls Tryz.prog 53 #[.slice A L c] w fun e w'=>e = .returned (.bool (rightN n))∧Below w.heap.size w w':=by
 subst hL;exact rright_any A c n w h hs
theorem ne_gr {w w':World} {base:Nat} {e:TypeId} {v v1 v1':Value} {xs:List Value} (h:Ow w base e v xs) (hg:Gr w w' v1 v1') (hne:∀ q,v.ownBlock=some q→v1.ownBlock≠some q):∀ q,v.ownBlock=some q→v1'.ownBlock≠some q:=by
 intro q hq h1
 rcases hg.2 q h1 with h2 | h2
 ·exact hne q hq h2
 ·have:=ow_block_lt h q hq;omega
set_option maxRecDepth 100000 in
set_option maxHeartbeats 2000000 in
theorem rparse_any (s:List UInt8) (w:World) (hs:s.length≤1000000) :
 Calls Tryz.prog 99 #[.string ⟨s.toArray⟩] w fun e w'=>∃ v,e = .returned (.tuple #[v,.int .i64 ((rparse s).2:Int)])∧Ow w' w.heap.size 9 v (sc (rparse s).1)∧Below w.heap.size w w':=by
 obtain ⟨i0,hi,hz0,hz1,hz2⟩:=info_parts Tryz.infoStr
 obtain ⟨i1,gi,gz0,gz1,gz2⟩:=info_parts Tryz.infoByte
 generalize ht:smallS s=t
 have htl:t.length=s.length:=by rw [←ht];exact smallS_length s
 have hT:t.length≤1000000:=by omega
 by_cases h1:t=[46]
 ·have hp:rparse s=([],0):=by unfold rparse;rw [if_pos (by rw [ht];exact h1)]
  have HP:=Lib.hid hp
  have HT:=Lib.hid ht
  subst h1
  clear hp ht htl
  go_enter Tryz.func99,Tryz.ntmps99
  go_wp2_with (go_at_call 102;refine (rlower_any s w (by omega)).mono ?_;rw [HT.out];rintro e w1 ⟨rfl,hb1⟩)
  go_ret2
  exact ⟨_,by rw [HP.out];rfl,by rw [HP.out];exact Ow.nil _ _ _,hb1⟩
 ·have hp:rparse s=(match rp (t.length+1) t [] [] with
   | some n=>if rightN n=true then (n,0) else ([],164)
   | none=>([],164)):=by unfold rparse;rw [ht,if_neg h1];cases rp (t.length+1) t [] [] <;> rfl
  have hnone:rp (t.length+1) t [] []=none→rparse s=([],164):=fun h=>by rw [hp,h]
  have hsome:∀ n,rp (t.length+1) t [] []=some n→rparse s=if rightN n=true then (n,0) else ([],164):=fun n h=>by rw [hp,h]
  have hne:(t == [46])=false:=by simp [h1]
  have HN:=Lib.hid hnone
  have HSm:=Lib.hid hsome
  have HT:=Lib.hid ht
  clear hp hnone hsome ht htl
  go_enter Tryz.func99,Tryz.ntmps99
  go_wp2_with (go_at_call 102;refine (rlower_any s w (by omega)).mono ?_;rw [HT.out];rintro e w1 ⟨rfl,hb1⟩)
  go_loopw [4,5,6] (fun vn vl vi wr=>∃ (i f:Nat) (n:List (List UInt8)) (lab:List UInt8),vi = .int .i64 i∧i≤t.length∧Hid (rp f (t.drop i) n lab=rp (t.length+1) t [] [])∧t.length+1≤f+i∧
   Ow wr w.heap.size 9 vn (sc n)∧Ow wr w.heap.size 5 vl (bc lab)∧(∀ q,vn.ownBlock=some q→vl.ownBlock≠some q)∧Below w.heap.size w wr∧sizeN n+lab.length≤2*i+1)
   (fun _ _ vi _=>t.length - (intOf vi).toNat)
  case atStart=>exact ⟨0,t.length+1,[],[],rfl,Nat.zero_le _,by rw [List.drop_zero];exact rfl,by omega,Ow.nil _ _ _,Ow.nil _ _ _,fun q hq=>by simp [Value.ownBlock] at hq,hb1,by simp [sizeN]⟩
  case round=>
   clear hb1
   obtain ⟨i,f,n,lab,rfl,hit,HR,hf,hown,hownl,hne2,hbel,hsz⟩:=hrel
   have hszb:=hbel.size
   have hnl:=sizeN_length n
   by_cases hlt:i<t.length
   ·obtain ⟨f',rfl⟩:∃ f',f=f'+1:=⟨f - 1,by omega⟩
    have ix:=fun W=>idxStr W t i (t.getD i 0) (getD_some t i hlt)
    have e:=HR.out
    have hd0:(t.drop i).getD 0 0=t.getD i 0:=by rw [List.getD_eq_getElem?_getD,List.getD_eq_getElem?_getD,List.getElem?_drop,Nat.add_zero]
    have hdn:t.drop i≠[]:=List.ne_nil_of_length_pos (by rw [List.length_drop];omega)
    rw [rp,if_neg hdn,hd0] at e
    have hcl:=UInt8.toNat_lt (t.getD i 0)
    have h46:t.getD i 0=46 ↔ (t.getD i 0).toNat=46:=u8_eq
    have hpi:t.getD i 0≠46→¬ ((t.getD i 0).toNat<33∨126<(t.getD i 0).toNat)→(pieceN (t.drop i)).2≠0→0<(pieceN (t.drop i)).2∧(pieceN (t.drop i)).2≤(t.drop i).length:=fun a b c=>(piece_inv _ hdn (by rw [hd0];exact a) (by rw [hd0];exact b) c).2
    generalize t.getD i 0=x at ix e hcl h46 hpi
    have HPI:=Lib.hid hpi
    clear hd0 hdn hpi
    by_cases hx46:x=46
    ·rw [if_pos hx46] at e
     have t1:((x.toNat:Int) == 46)=true:=beq_iff_eq.2 (by have:=h46.1 hx46;omega)
     have E:=Lib.hid e
     obtain ⟨A5,c5,hv5,hl5,r5⟩:=hownl.form7 lab.length (by simp)
     subst hv5
     have hcv:=conv_bs (P:=Tryz.prog) wr 22 5 9 A5 c5 wr.heap.size lab Tryz.underlying22 Tryz.underlying5 Tryz.underlying9 r5
     clear e h46 hx46 hownl hne2 r5
     go_wp2_with (at_builtin;refine wpList_app _ rfl _ _ _ _ rfl w.heap.size 9 i0 (.string ⟨#[]⟩) 16 Tryz.underlying38 hi hz0 hz1 hz2 rfl (by omega) _ _ (hown.alloc _) rfl 1 [_] (one_src Tryz.underlying38 _ rfl) (by rw [sc_length];omega) (by simp;omega) ?_;intro v6 w6 hown6 hgr6 hsz6)
     go_roundw
     case rel=>
      refine ⟨i+1,f',n++[lab],[],by go_num,by omega,?_,by omega,?_,Ow.nil _ _ _,fun q _ h9=>by simp [Value.ownBlock] at h9,hbel.trans ((((Gr.refl _ _).alloc _).trans hgr6).below hown.lt hszb),?_⟩
      ·have:=E.out
       rw [List.drop_drop] at this
       exact this
      ·have e1:sc (n++[lab])=sc n++[.string ⟨lab.toArray⟩]:=by simp [sc,strV]
       rw [e1];exact hown6
      ·rw [sizeN_snoc];simp;omega
     case measure=>simp [intOf];omega
    ·rw [if_neg hx46] at e
     have t1:((x.toNat:Int) == 46)=false:=beq_eq_false_iff_ne.2 (fun h=>hx46 (h46.2 (by omega)))
     have HX46:=Lib.hid hx46
     clear h46 hx46
     by_cases h33:x.toNat<33
     ·rw [if_pos (.inl h33)] at e
      have b1:decide ((x.toNat:Int)<33)=true:=by simp;omega
      have hr:=HN.out e.symm
      have HRs:=Lib.hid hr
      clear e hr hown hownl hne2
      go_wp2_with fail
      go_ret2
      exact ⟨_,by rw [HRs.out];rfl,by rw [HRs.out];exact Ow.nil _ _ _,hbel⟩
     ·have b1:decide ((x.toNat:Int)<33)=false:=by simp;omega
      by_cases h126:126<x.toNat
      ·rw [if_pos (.inr h126)] at e
       have b2:decide (126<(x.toNat:Int))=true:=by simp;omega
       have hr:=HN.out e.symm
       have HRs:=Lib.hid hr
       clear e hr hown hownl hne2
       go_wp2_with fail
       go_ret2
       exact ⟨_,by rw [HRs.out];rfl,by rw [HRs.out];exact Ow.nil _ _ _,hbel⟩
      ·have b2:decide (126<(x.toNat:Int))=false:=by simp;omega
       have hnb:¬ (x.toNat<33∨126<x.toNat):=by omega
       rw [if_neg hnb] at e
       have hpc:=fun W=>piece_any (t.drop i) W (by rw [List.length_drop];omega) (by rw [List.length_drop];omega)
       have kcut:=fun W=>cutSuf W t i (by omega)
       have hpk:=HPI.out HX46.out hnb
       rw [List.length_drop] at hpk
       generalize hdr:t.drop i=u at e hpc kcut hpk
       obtain ⟨y,k,hpy⟩:∃ y k,pieceN u=(y,k):=⟨_,_,rfl⟩
       rw [hpy] at e hpc hpk
       simp only at e hpk
       have HPC:=Lib.hid hpc
       have HDR:=Lib.hid hdr
       clear hpc hpy hdr hnb
       by_cases hk0:k=0
       ·rw [if_pos hk0] at e
        have hr:=HN.out e.symm
        have HRs:=Lib.hid hr
        subst hk0
        clear e hr hown hownl hne2 hpk
        go_wp2_with (go_at_call 139;refine (HPC.out _).mono ?_;rintro e wr ⟨rfl,rfl⟩)
        go_ret2
        exact ⟨_,by rw [HRs.out];rfl,by rw [HRs.out];exact Ow.nil _ _ _,hbel⟩
       ·rw [if_neg hk0] at e
        obtain ⟨hk1,hk2⟩:=hpk hk0
        have tk0:((k:Int) == 0)=false:=beq_eq_false_iff_ne.2 (by omega)
        have E:=Lib.hid e
        clear e hpk
        go_wp2_with (first
         | (go_at_call 139;refine (HPC.out _).mono ?_;rintro e wr ⟨rfl,rfl⟩)
         | (at_builtin;refine wpList_app _ rfl _ _ _ _ rfl w.heap.size 5 i1 (.int .u8 0) 1 Tryz.underlying22 gi gz0 gz1 gz2 rfl (Nat.le_refl _) _ _ (hownl.alloc _) rfl 1 [_] (one_src Tryz.underlying22 _ rfl) (by rw [bc_length];omega) (by simp;omega) ?_;intro v6 w6 hown6 hgr6 hsz6))
        have hgr:=((Gr.refl wr _).alloc _).trans hgr6
        have hn6:=hown.kept hgr hne2
        have hne6:=ne_gr hown hgr hne2
        have hb6:=hbel.trans (hgr.below hownl.lt hszb)
        clear hown hownl hne2 hbel hgr hgr6
        go_roundw
        case rel=>
         refine ⟨i+k,f',n,lab++[y],by go_num,by omega,?_,by omega,hn6,?_,hne6,hb6,by simp;omega⟩
         ·have:=E.out
          rw [←HDR.out,List.drop_drop] at this
          exact this
         ·rw [bc_append];exact hown6
        case measure=>simp [intOf];omega
   ·have hit2:i=t.length:=by omega
    have e:=HR.out
    obtain ⟨f',rfl⟩:∃ f',f=f'+1:=⟨f - 1,by omega⟩
    rw [hit2,List.drop_length,rp,if_pos rfl] at e
    have hr:=HSm.out _ e.symm
    obtain ⟨A5,c5,hv5,hl5,r5⟩:=hownl.form7 lab.length (by simp)
    subst hv5
    have hcv:=conv_bs (P:=Tryz.prog) wr 22 5 9 A5 c5 wr.heap.size lab Tryz.underlying22 Tryz.underlying5 Tryz.underlying9 r5
    have hsz2:sizeN (n++[lab])≤140737488355328:=by rw [sizeN_snoc];omega
    have HRs:=Lib.hid hr
    have hnle:(n++[lab]).length=n.length+1:=by simp
    have HNL:=Lib.hid hnle
    clear e hr hownl hne2 r5 hnle
    subst hit2
    go_wp2_with (first
     | (go_at_call 53;refine (rrightP_at w6 A7 c7 (n.length+1) (n++[lab]) HNL.out r7 hsz2).mono ?_;rintro e w8 ⟨rfl,hb8⟩)
     | (at_builtin;refine wpList_app _ rfl _ _ _ _ rfl w.heap.size 9 i0 (.string ⟨#[]⟩) 16 Tryz.underlying38 hi hz0 hz1 hz2 rfl (by omega) _ _ (hown.alloc _) rfl 1 [_] (one_src Tryz.underlying38 _ rfl) (by rw [sc_length];omega) (by simp;omega) ?_;intro v6 w6 hown6' hgr6 hsz6;have hown6:Ow w6 w.heap.size 9 v6 (sc (n++[lab])):=(by rw [sc_snoc] <;> exact hown6');obtain ⟨A7,c7,rfl,hl7,r7⟩:=hown6.form7 (n.length+1) (by rw [sc_length];exact HNL.out);clear hown6'))
    ·have t1:rightN (n++[lab])=false:=by simpa using (by assumption:(!rightN (n++[lab]))=true)
     have hb6:=hbel.trans ((((Gr.refl wr _).alloc _).trans hgr6).below hown.lt hszb)
     go_ret2
     exact ⟨_,by rw [HRs.out,if_neg (by rw [t1];simp)];rfl,by rw [HRs.out,if_neg (by rw [t1];simp)];exact Ow.nil _ _ _,hb6.trans (hb8.mono hb6.size)⟩
    ·have t1:rightN (n++[lab])=true:=by simpa using (by assumption:(!rightN (n++[lab]))=false)
     have hb6:=hbel.trans ((((Gr.refl wr _).alloc _).trans hgr6).below hown.lt hszb)
     go_ret2
     exact ⟨_,by rw [HRs.out,if_pos t1];rfl,by rw [HRs.out,if_pos t1];exact hown6.far hb8,hb6.trans (hb8.mono hb6.size)⟩
end Go.Proofs.YtlipmlbijddopaaGreatDoor
set_option linter.unusedVariables false
set_option linter.unusedSimpArgs false
namespace Go.Proofs.YtlipmlbijddopaaGreatDoor
open Go.RowKit
structure JoinP (P Z:List (List UInt8)):Prop where
 rz:rightN Z=true
 rn:rightN (P++Z)=true
 un:underN (P++Z) Z=true
 sz:sizeN (P++Z)+1=sizeN P+sizeN Z
 rd:readN (appN (formN Z) [0] (P++Z)) (formN Z).length=(P++Z,(appN (formN Z) [0] (P++Z)).length,0)
 le:Z≠[]→(appN (formN Z) [0] (P++Z)).length≤(formN Z).length+sizeN P - 1+2
 pl:(formN Z).length<(appN (formN Z) [0] (P++Z)).length∧(appN (formN Z) [0] (P++Z)).length≤600
end Go.Proofs.YtlipmlbijddopaaGreatDoor
set_option linter.unusedVariables false
set_option linter.unusedSimpArgs false
namespace Go.Proofs.YtlipmlbijddopaaGreatDoor
open Go.RowKit
def formR (n:List (List UInt8)):List UInt8 × Nat:=if rightN n=true then (formN n,0) else ([],160)
def textR (n:List (List UInt8)):List UInt8 × Nat:=if rightN n=true then (textN n,0) else ([],160)
section
variable (w:World)
theorem text_all (A:Option Addr) (c L:Nat) (n:List (List UInt8)) (F:List UInt8) (ef:Nat) (hF:textR n=(F,ef)) (hL:n.length=L) (h:Rd w w.heap.size A L (sc n)) (hs:sizeN n≤140737488355328) :
 Calls Tryz.prog 31 #[.slice A L c] w fun e w'=>e = .returned (.tuple #[.string ⟨F.toArray⟩,.int .i64 (ef:Int)])∧Below w.heap.size w w':=by
 subst hL
 unfold textR at hF
 by_cases hr:rightN n=true
 ·rw [if_pos hr] at hF;cases hF
  exact text_ok A c n w h hr
 ·rw [if_neg hr] at hF;cases hF
  exact text_bad A c n w h (by simpa using hr) hs
theorem rtext_all (A:Option Addr) (c L:Nat) (n:List (List UInt8)) (F:List UInt8) (ef:Nat) (hF:textR n=(F,ef)) (hL:n.length=L) (h:Rd w w.heap.size A L (sc n)) (hs:sizeN n≤140737488355328) :
 Calls Tryz.prog 97 #[.slice A L c] w fun e w'=>e = .returned (.tuple #[.string ⟨F.toArray⟩,.int .i64 (ef:Int)])∧Below w.heap.size w w':=by
 unfold textR at hF
 by_cases hr:rightN n=true
 ·rw [if_pos hr] at hF;cases hF
  exact rtext_ok A c L n w hL h hr
 ·rw [if_neg hr] at hF;cases hF
  exact rtext_bad A c L n w hL h (by simpa using hr) hs
theorem beq_at2 (A1 A2:Option Addr) (c1 c2 L1 L2:Nat) (l m:List UInt8) (r:Bool) (w:World) (hr:decide (l=m)=r) (h1':l.length=L1) (h2':m.length=L2) (h1:Rd w w.heap.size A1 L1 (bc l)) (h2:Rd w w.heap.size A2 L2 (bc m)) :
 Calls Tryz.prog 43 #[.slice A1 L1 c1,.slice A2 L2 c2] w fun e w'=>e = .returned (.bool r)∧w=w':=by
 subst hr;exact (beq_at A1 A2 c1 c2 L1 L2 l m w w.heap.size h1' h2' h1 h2).mono fun e w' h=>⟨h.1,h.2.symm⟩
end
theorem parse_all (s:List UInt8) (w:World) (q:List (List UInt8)) (ep:Nat) (hq:rparse s=(q,ep)) (hs:s.length≤1000000) :
 Calls Tryz.prog 73 #[.string ⟨s.toArray⟩] w fun e w'=>∃ v,e = .returned (.tuple #[v,.int .i64 (ep:Int)])∧Ow w' w.heap.size 9 v (sc q)∧Below w.heap.size w w':=by
 have h:=parse_any s w (by omega)
 rw [←rparse_eq s,hq] at h
 exact h
theorem rparse_all (s:List UInt8) (w:World) (q:List (List UInt8)) (ep:Nat) (hq:rparse s=(q,ep)) (hs:s.length≤1000000) :
 Calls Tryz.prog 99 #[.string ⟨s.toArray⟩] w fun e w'=>∃ v,e = .returned (.tuple #[v,.int .i64 (ep:Int)])∧Ow w' w.heap.size 9 v (sc q)∧Below w.heap.size w w':=by
 have h:=rparse_any s w hs
 rw [hq] at h
 exact h
end Go.Proofs.YtlipmlbijddopaaGreatDoor
