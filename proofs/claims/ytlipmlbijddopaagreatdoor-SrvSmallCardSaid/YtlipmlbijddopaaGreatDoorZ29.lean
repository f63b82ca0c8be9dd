/-
  OpenG; SrvN; SrvFr; SrvAsks; SrvSc
-/
import Derived.Test.YtlipmlbijddopaaGreatDoorZ03
import Derived.Test.YtlipmlbijddopaaGreatDoorZ02
import Derived.Test.YtlipmlbijddopaaGreatDoorZ26
import Derived.Lib.AppendIntMem
import Derived.Lib.LaidTab
import Derived.Test.YtlipmlbijddopaaGreatDoorZ28
import Derived.Test.YtlipmlbijddopaaGreatDoorZ25
import Derived.Test.YtlipmlbijddopaaGreatDoorZ10
set_option linter.unusedVariables false
set_option linter.unusedSimpArgs false
namespace Go.Proofs.YtlipmlbijddopaaGreatDoor
def NR0 (w:World) (B:Nat) (A:Option Addr) (c:Nat) (n:List (List UInt8)):Prop:=Rd w B A n.length (sc n)∧n.length≤c∧n.length*16≤140737488351232∧∀ s∈n,s.length≤140737488351232
open Go.ChangeShapes Go.WideShapes Go.ChangeAt Go.RowKit
section
variable {P:Program} {H:Type} {enc:TypeId × Value→H} {W:World}
def fieldsOf (P:Program) (t:TypeId):Option (List (TypeId × Nat)):=match P.underlying t with
 | some (.struct fs)=>some (fs.toList.map fun f=>(f.type,f.offset))
 | _=>none
end
section
variable {H:Type} {enc:TypeId × Value→H} {W:World}
instance:Inhabited QR:=⟨⟨none,0,zQ⟩⟩
instance:Inhabited RR:=⟨⟨none,0,none,0,none,0,zR⟩⟩
end
end Go.Proofs.YtlipmlbijddopaaGreatDoor
set_option linter.unusedVariables false
set_option linter.unusedSimpArgs false
namespace Go.Proofs.YtlipmlbijddopaaGreatDoor
open Go.RowKit
namespace Srv
def someA (l:List Ad) (t k:Nat):Bool:=(decide (l.length=0) && decide (t=0)) || (l.take k).any fun x=>decide (x.ttl=t)
end Srv
namespace Srv
theorem tiers_len:∀ {ts:List (List Ad)},(∀ t∈ts,t≠[])→ts.length≤ts.flatten.length
 | [],_=>Nat.le_refl _
 | t :: ts,h=>by
   have h1:=tiers_len (ts:=ts) fun x hx=>h x (List.mem_cons_of_mem _ hx)
   have h2:=List.length_pos_iff.2 (h t (List.mem_cons_self ..))
   simp only [List.length_cons,List.flatten_cons,List.length_append]
   omega
end Srv
def EnvT (w:World):Prop:=Lib.TabIs Tryz.prog w "internal/strconv.uint64pow10" .u64 Lib.pow10Tab
theorem EnvT.below {w w':World} (h:EnvT w) (hb:Below w.heap.size w w'):EnvT w':=Lib.tabBelow_of_tabIs h w' hb
theorem ito_of {w:World} (h:EnvT w) {n:Int} (h0 : -9223372036854775808≤n) (h1:n≤9223372036854775807):ItoOk w n:=fun W hW=>Tryz.strconv_Itoa n h0 h1 W (h.below hW)
set_option maxRecDepth 100000 in
set_option maxHeartbeats 1000000 in
theorem aeq_at (A1 A2:Option Addr) (c1 c2 n:Nat) (l:List Ad) (w:World) (B:Nat) (h1:AsRd w B A1 c1 n l) (h2:AsRd w B A2 c2 n l) :
 Calls Tryz.prog 27 #[.slice A1 n c1,.slice A2 n c2] w fun e w'=>e = .returned (.bool true)∧∃ q,w'=w.drewN q:=by
 have H1:=Lib.hid h1
 have H2:=Lib.hid h2
 have hnl:=h1.2.2.2.1
 have HLN:=Lib.hid h1.2.1
 clear h1 h2
 have mixed:Tryz.prog.follows .mixedOrders=true:=by kernel_rfl
 go_enter Tryz.func27,Tryz.ntmps27
 go_wp2_with fail
 go_loopw [13] (fun vk wr=>∃ k q:Nat,k≤n∧vk = .int .i64 k∧wr=w.drewN q) (fun vk _=>n - (intOf vk).toNat)
 case atStart=>exact ⟨0,0,Nat.zero_le _,rfl,rfl⟩
 case round=>
  obtain ⟨k,q,hk,rfl,hwr⟩:=hrel
  have r1:AsRd wr B A1 c1 n l:=by rw [hwr];exact H1.out
  have r2:AsRd wr B A2 c2 n l:=by rw [hwr];exact H2.out
  have HW:=Lib.hid hwr
  clear hwr
  rcases Nat.lt_or_ge k n with hlt | hge
  ·have hkl:k<l.length:=by rw [HLN.out];exact hlt
   obtain ⟨b,o,rfl,_,hc⟩:=r1.at_ hlt
   obtain ⟨b',o',rfl,_,hc'⟩:=r2.at_ hlt
   have f1:=hc hkl
   have f2:=hc' hkl
   obtain ⟨x,hx⟩:∃ x,x=l[k]:=⟨_,rfl⟩
   rw [←hx] at f1 f2
   clear hx hc hc' r1 r2
   obtain ⟨xh,xpo,xpr,xwe,xttl⟩:=x
   obtain ⟨c0,c1,c2,c3,c4⟩:=f1.cells
   obtain ⟨d0,d1,d2,d3,d4⟩:=f2.cells
   dsimp only at c0 c1 c2 c3 c4 d0 d1 d2 d3 d4
   clear f1 f2
   go_wp2_with fail
   go_quiet (fail)
   go_wp2_with fail
   go_roundw
   case rel=>exact ⟨k+1,q+nq,by omega,by go_num,by rw [HW.out];simp⟩
   case measure=>simp [intOf];omega
  ·have:k=n:=by omega
   subst this
   go_wp2_with fail
   go_ret
   exact ⟨rfl,q,HW.out⟩
end Go.Proofs.YtlipmlbijddopaaGreatDoor
set_option linter.unusedVariables false
namespace Go.Proofs.YtlipmlbijddopaaGreatDoor
open Go.ChangeShapes Go.WideShapes Go.ChangeAt Go.RowKit
theorem envT_of {laid:List (String × DataW Unit)} {x y:String × DataW Unit} {rest:List (String × DataW Unit)} {W:World} (he:laid=x :: y :: ("internal/strconv.uint64pow10",Lib.tabData .u64 Lib.pow10Tab) :: rest) (hL:laidMet Tryz.prog laid W):EnvT W:=by
 subst he
 exact Lib.tabIs_of_head (P:=Tryz.prog) (g:=0) (t:=256) (e:=231) (n:=20) (by kernel_rfl) (by kernel_rfl) Tryz.underlying256 Tryz.underlying231 (by kernel_rfl) (by kernel_rfl) (laidMet_tail (laidMet_tail hL))
section
variable {H:Type} {enc:TypeId × Value→H} {W:World}
end
end Go.Proofs.YtlipmlbijddopaaGreatDoor
set_option linter.unusedVariables false
set_option linter.unusedSimpArgs false
namespace Go.Proofs.YtlipmlbijddopaaGreatDoor
open Go.RowKit
set_option maxRecDepth 100000 in
set_option maxHeartbeats 1000000 in
theorem asks_at (id:Nat) (s:List UInt8) (w:World) (hid:id<65536) (hs:s.length≤1000000) :
 Calls Tryz.prog 15 #[.int .u16 (id:Int),.string ⟨s.toArray⟩] w fun e w'=>e = .returned (.bool true)∧Below w.heap.size w w':=by
 obtain ⟨F,hF⟩:∃ F,F=(Srv.askN id s).1:=⟨_,rfl⟩
 obtain ⟨E,hE⟩:∃ E,E=(Srv.askN id s).2:=⟨_,rfl⟩
 obtain ⟨L,hL⟩:∃ L,L=F.length:=⟨_,rfl⟩
 have K1:=Lib.hid (fun W=>sask_at id s W hid hs)
 have K2:=Lib.hid (fun W=>rask_at id s W hid hs)
 simp only [←hF,←hE] at K1 K2
 have HL:=Lib.hid hL.symm
 clear hF hE hL
 go_enter Tryz.func15,Tryz.ntmps15
 go_wp2_with (first
  | (go_at_call 43
     refine (beq_at2 A1 A2 c1 c2 L L F F true w2 (by simp) HL.out HL.out HR1.out hr2).mono ?_
     rintro e w2 ⟨rfl,rfl⟩)
  | (go_at_call 44
     refine (K2.out w1).mono ?_
     rintro e w2 ⟨v2,rfl,ho2,hb2⟩
     obtain ⟨A2,c2,rfl,hc2,hr2⟩:=Ow.form7 ho2 L (by rw [bc_length,HL.out])
     have HR1:=Lib.hid (hr1.goes hb2))
  | (go_at_call 32
     refine (K1.out w).mono ?_
     rintro e w1 ⟨v1,rfl,ho1,hb1⟩
     obtain ⟨A1,c1,rfl,hc1,hr1⟩:=Ow.form7 ho1 L (by rw [bc_length,HL.out])))
 go_ret
 exact ⟨ret_bool (by simp),hb1.trans (hb2.mono hb1.size)⟩
end Go.Proofs.YtlipmlbijddopaaGreatDoor
set_option linter.unusedVariables false
set_option linter.unusedSimpArgs false
namespace Go.Proofs.YtlipmlbijddopaaGreatDoor
open Go.RowKit
theorem bc_oneC (l:List UInt8):∀ u∈bc l,u.oneCell'=true:=by
 intro u hu
 obtain ⟨x,_,rfl⟩:=List.mem_map.1 hu
 rfl
set_option maxRecDepth 100000 in
set_option maxHeartbeats 1000000 in
theorem bgrow_at (n:Nat) (w:World) (hn:n*1≤140737488355328):Calls Tryz.prog 52 #[.slice none 0 0,.int .i64 (n:Int)] w fun e w'=>∃ v,e = .returned v∧OwM w' w.heap.size 5 1 v 0 []∧Below w.heap.size w w':=by
 obtain ⟨j0,hj',hy0,hy1,hy2⟩:=info_parts Tryz.infoByte
 have hb:n*j0.bytes≤140737488355328:=by rw [hy2];exact hn
 have HB:=Lib.hid hb
 have HS:Hid (0<j0.size):=Lib.hid (by rw [hy1];omega)
 clear hb
 have hnl:n≤140737488355328:=by omega
 by_cases h0:0<n
 ·have hcg:=grownCap_ge w n 0 5
  have hcm:=grownCap_le_maxLen w n 0 5 (by unfold maxLen;omega)
  have hO:=own_made w 5 1 n (grownCap w n 0 5) 0 (.int .u8 0) rfl hcg hcm
  have hBl:=((Below.refl w.heap.size w).drew).alloc (Nat.le_refl _) (.cells (Builtin.zeroCells (Value.int .u8 0).cells n++Builtin.zeroCells (Value.int .u8 0).cells (grownCap w n 0 5 - n)) 5)
  have HO:=Lib.hid hO
  have HBl:=Lib.hid hBl
  clear hO hBl
  go_enter Tryz.func52,Tryz.ntmps52
  go_wp2_with (at_builtin;refine wpList_make _ rfl _ _ _ _ rfl 5 .i64 j0 (.int .u8 0) Tryz.underlying22 Tryz.underlying3 hj' hy0 n rfl rfl h0 HS.out (by omega) HB.out ?_)
  go_ret
  exact ⟨_,rfl,HO.out,HBl.out⟩
 ·have:n=0:=by omega
  subst this
  go_enter Tryz.func52,Tryz.ntmps52
  go_wp2_with fail
  go_ret
  exact ⟨_,rfl,OwM.nil _ _ _ _,Below.refl _ _⟩
structure BRow where
 A:Option Addr
 c:Nat
 l:List UInt8
def BRow.v (r:BRow):Value:=.slice r.A r.l.length r.c
def flatB (rows:List BRow):List UInt8:=rows.flatMap BRow.l
def RsB (w:World) (B:Nat) (A:Option Addr) (n:Nat) (rows:List BRow):Prop:=Rd w B A n (rows.map BRow.v)∧rows.length=n∧∀ r∈rows,Rd w B r.A r.l.length (bc r.l)
theorem flatB_snoc (rows:List BRow) (r:BRow):flatB (rows++[r])=flatB rows++r.l:=by simp [flatB]
theorem flatB_take (rows:List BRow) (k:Nat):(flatB (rows.take k)).length≤(flatB rows).length:=by
 have:flatB rows=flatB (rows.take k)++flatB (rows.drop k):=by simp only [flatB];rw [←List.flatMap_append,List.take_append_drop]
 rw [this,List.length_append];omega
set_option maxRecDepth 100000 in
set_option maxHeartbeats 2000000 in
theorem bconcat_at (A:Option Addr) (c n:Nat) (rows:List BRow) (w:World) (h:RsB w w.heap.size A n rows) (hs:(flatB rows).length*1≤140737488355328) (hn:n≤140737488355328) :
 Calls Tryz.prog 21 #[.slice A n c] w fun e w'=>∃ v,e = .returned v∧OwM w' w.heap.size 5 1 v (flatB rows).length (bc (flatB rows))∧Below w.heap.size w w':=by
 obtain ⟨j0,hj',hy0,hy1,hy2⟩:=info_parts Tryz.infoByte
 have H:=Lib.hid h
 have HL:=Lib.hid h.2.1
 have HS:=Lib.hid hs
 have hF:(flatB rows).length≤140737488355328:=by omega
 clear h hs
 have hcell:∀ (W:World),Below w.heap.size w W→∀ k (hk:k<n),∃ b o,A=some ⟨b,o,none⟩∧W.cell? ⟨b,o+k,none⟩=some (rows[k]'(by rw [HL.out];exact hk)).v:=by
  intro W hW k hk
  obtain ⟨b,o,hA,hb,hc⟩:=(H.out.1.below hW).at_ hk
  refine ⟨b,o,hA,hc k _ ?_⟩
  rw [List.getElem?_map,List.getElem?_eq_getElem (by rw [HL.out];exact hk)];rfl
 have HC:=Lib.hid hcell
 clear hcell
 have hft:∀ k (hk:k<n),flatB (rows.take (k+1))=flatB (rows.take k)++(rows[k]'(by rw [HL.out];exact hk)).l:=by
  intro k hk
  rw [List.take_succ_eq_append_getElem (by rw [HL.out];exact hk),flatB_snoc]
 have HFT:=Lib.hid hft
 clear hft
 go_enter Tryz.func21,Tryz.ntmps21
 go_wp2_with fail
 go_loop [3,11] (fun v3 vk=>∃ k m:Nat,k≤n∧m≤140737488355328∧vk = .int .i64 k∧v3 = .int .i64 m∧Hid (m=(flatB (rows.take k)).length)) (fun _ vk=>n - (intOf vk).toNat)
 case atStart=>exact ⟨0,0,Nat.zero_le _,Nat.zero_le _,rfl,rfl,Lib.hid rfl⟩
 case round=>
  obtain ⟨k,m,hk,hm,rfl,rfl,HM⟩:=hrel
  rcases Nat.lt_or_ge k n with hlt | hge
  ·obtain ⟨b,o,rfl,hc⟩:=HC.out w (Below.refl _ _) k hlt
   have hfk:=HFT.out k hlt
   have hle:=flatB_take rows (k+1)
   obtain ⟨x,hx⟩:∃ x,x=rows[k]'(by rw [HL.out];exact hlt):=⟨_,rfl⟩
   rw [←hx] at hc hfk
   have hmx:m+x.l.length≤140737488355328:=by
    rw [hfk,List.length_append,←HM.out] at hle;omega
   have HFK:=Lib.hid hfk
   clear hx hfk hle
   obtain ⟨xA,xc,xl⟩:=x
   unfold BRow.v at hc
   dsimp only at hc hmx
   have hng:¬ ((m:Int)+(xl.length:Int)<0):=by omega
   go_wp2_with fail
   go_round
   case rel=>exact ⟨k+1,m+xl.length,by omega,hmx,by go_num,by go_num,Lib.hid (by rw [HFK.out,List.length_append,←HM.out])⟩
   case measure=>simp [intOf];omega
  ·obtain rfl:n=k:=by omega
   have hm2:m=(flatB rows).length:=by rw [HM.out,List.take_of_length_le (by rw [HL.out];exact Nat.le_refl _)]
   have HM2:=Lib.hid hm2
   have hg48:m*1≤140737488355328:=by rw [hm2];exact HS.out
   clear hm2
   go_wp2_with (go_at_call 52
                refine (bgrow_at m _ hg48).mono ?_
                rintro e w1 ⟨v1,rfl,ho1,hb1⟩
                have HO1:=Lib.hid ho1
                have HB1:=Lib.hid hb1
                clear ho1 hb1)
   go_loopw [6,27] (fun v6 vk wr=>∃ k:Nat,k≤n∧vk = .int .i64 k∧Hid (OwM wr w.heap.size 5 1 v6 (flatB (rows.take k)).length (bc (flatB (rows.take k))))∧Hid (Below w.heap.size w wr)) (fun _ vk _=>n - (intOf vk).toNat)
   case atStart=>exact ⟨0,Nat.zero_le _,rfl,Lib.hid HO1.out,HB1⟩
   case round=>
    obtain ⟨k,hk,rfl,HO,HB⟩:=hrel
    rcases Nat.lt_or_ge k n with hlt | hge
    ·obtain ⟨b,o,rfl,hc⟩:=HC.out wr HB.out k hlt
     have hfk:=HFT.out k hlt
     have hle:=flatB_take rows (k+1)
     have hsrc:=(H.out.2.2 _ (List.getElem_mem (show k<rows.length by rw [HL.out];exact hlt))).below HB.out
     obtain ⟨x,hx⟩:∃ x,x=rows[k]'(by rw [HL.out];exact hlt):=⟨_,rfl⟩
     rw [←hx] at hc hfk hsrc
     obtain ⟨q,hq⟩:∃ q,q=flatB (rows.take k):=⟨_,rfl⟩
     rw [←hq] at hfk HO
     rw [hfk,List.length_append] at hle
     have HFK:=Lib.hid hfk
     clear hx hfk hq
     obtain ⟨xA,xc,xl⟩:=x
     unfold BRow.v at hc
     dsimp only at hc hle hsrc
     have hsr:=Lib.hid ((show Rd wr w.heap.size xA (xl.length*1) (bc xl) from by rw [Nat.mul_one];exact hsrc).srcM (P:=Tryz.prog) (c:=xc) (tx:=22) Tryz.underlying22 (bc_oneC _))
     obtain ⟨Ar,cr,rfl,_,_,_⟩:=HO.out.form
     have hsz:=HB.out.size
     clear hsrc
     go_wp2_with (at_builtin
                  refine wpList_appM _ rfl _ _ _ _ rfl w.heap.size 1 5 j0 (.int .u8 0) 1 Tryz.underlying22 hj' hy0 hy1 hy2 rfl (by omega) (.slice Ar q.length cr) q.length (bc q) HO.out rfl xl.length (bc xl) hsr.out (by omega) hsz ?_
                  intro v4 w4 ho4 hg4 hz4
                  have HO4:=Lib.hid ho4
                  clear ho4)
     go_roundw
     case rel=>
      refine ⟨k+1,by omega,by go_num,Lib.hid ?_,Lib.hid (HB.out.trans (hg4.below (OwM.lt HO.out) hsz))⟩
      rw [HFK.out,List.length_append,bc_append];exact HO4.out
     case measure=>simp [intOf];omega
    ·obtain rfl:n=k:=by omega
     have ho:=HO.out
     rw [List.take_of_length_le (by rw [HL.out];exact Nat.le_refl _)] at ho
     have HOE:=Lib.hid ho
     clear ho HO
     go_wp2_with fail
     go_ret
     exact ⟨_,rfl,HOE.out,HB.out⟩
end Go.Proofs.YtlipmlbijddopaaGreatDoor
