/-
  SrvL; SrvR; SrvX
-/
import Derived.Test.YtlipmlbijddopaaGreatDoorZ25
import Derived.Test.YtlipmlbijddopaaGreatDoorZ19
import Derived.Deep.QuietTactic
import Derived.BigQuiet
import Derived.Test.YtlipmlbijddopaaGreatDoorZ05
import Derived.Lib.LaidTab
import Derived.Lib.ItoaNum
set_option linter.unusedVariables false
set_option linter.unusedSimpArgs false
namespace Go.Proofs.YtlipmlbijddopaaGreatDoor
open Go.RowKit
theorem ttlA_snoc (a:Ad) (l:List Ad) (b:Ad):Srv.ttlA (a :: (l++[b]))=if b.ttl<Srv.ttlA (a :: l) then b.ttl else Srv.ttlA (a :: l):=by
 show List.foldl _ a.ttl (l++[b])=_
 rw [List.foldl_append]
 rfl
theorem ttlA_take:∀ (l:List Ad) (k:Nat) (hk:k<l.length),1≤k→Srv.ttlA (l.take (k+1))=if l[k].ttl<Srv.ttlA (l.take k) then l[k].ttl else Srv.ttlA (l.take k)
 | [],k,hk,_=>absurd hk (by simp)
 | a :: l,0,_,h=>absurd h (by omega)
 | a :: l,k+1,hk,_=>by
   rw [List.take_succ_cons,List.take_succ_cons,List.take_succ_eq_append_getElem (by simpa using hk),ttlA_snoc]
   rfl
theorem Vx.set5 {w:World} {g:Nat} {e:TypeId} {a0 a1 a2 a3 a4 b0 b1 b2 b3 b4:Value} (h:Vx w g e [a0,a1,a2,a3,a4]) :
 Vx (((((w.setCell ⟨g,0,none⟩ b0).setCell ⟨g,1,none⟩ b1).setCell ⟨g,2,none⟩ b2).setCell ⟨g,3,none⟩ b3).setCell ⟨g,4,none⟩ b4) g e [b0,b1,b2,b3,b4]:=((((h.set_ 0 b0).set_ 1 b1).set_ 2 b2).set_ 3 b3).set_ 4 b4
theorem below5 {B:Nat} {w0 w:World} (h:Below B w0 w) {g:Nat} (hg:B≤g) (b0 b1 b2 b3 b4:Value) :
 Below B w0 (((((w.setCell ⟨g,0,none⟩ b0).setCell ⟨g,1,none⟩ b1).setCell ⟨g,2,none⟩ b2).setCell ⟨g,3,none⟩ b3).setCell ⟨g,4,none⟩ b4):=((((h.setCell hg _).setCell hg _).setCell hg _).setCell hg _).setCell hg _
theorem loadA {w:World} {g:Nat} {e:TypeId} {cs:List Value} (h:Vx w g e cs) (hn:cs.length=5):(loadVar 31 ⟨g,0,none⟩).run Tryz.prog w = .ok (.agg cs.toArray) w:=
 run_loadVar_row w g _ _ cs.toArray _ _ h Tryz.underlying31 rfl (by rw [List.size_toArray,hn];kernel_rfl)
theorem resA {fn:Func} {q:Tmp} (h:fn.results=#[.cell q 31]) (tmps:Array Value) (W:World) (g:Nat) (e:TypeId) (cs:List Value) (hq:tmps[q]? = some (.pointer (some ⟨g,0,none⟩))) (hx:Vx W g e cs) (hn:cs.length=5) :
 (results fn tmps).run Tryz.prog W = .ok (.agg cs.toArray) W:=by
 simp [results,h,hq,asAddr,loadA hx hn]
theorem resA2 {fn:Func} {q r:Tmp} (h:fn.results=#[.cell q 31,.tmp r]) (tmps:Array Value) (W:World) (g:Nat) (e:TypeId) (cs:List Value) (vr:Value) (hq:tmps[q]? = some (.pointer (some ⟨g,0,none⟩))) (hr:tmps[r]? = some vr) (hx:Vx W g e cs) (hn:cs.length=5) :
 (results fn tmps).run Tryz.prog W = .ok (.tuple #[.agg cs.toArray,vr]) W:=by
 simp [results,h,hq,hr,asAddr,loadA hx hn]
set_option maxRecDepth 100000 in
set_option maxHeartbeats 400000 in
theorem ttl1G_at (x y:Ad) (w:World):Calls Tryz.prog 65 #[.agg x.cells.toArray,.agg y.cells.toArray] w fun e w'=>e = .returned (.int .i64 (Srv.cmpI x.ttl y.ttl))∧∃ q os,w'=Sort.grow (w.drewN q) os:=by
 obtain ⟨h,po,pr,we,ttl⟩:=x
 obtain ⟨h',po',pr',we',ttl'⟩:=y
 unfold Ad.cells
 dsimp only
 go_enter Tryz.func65,Tryz.ntmps65
 go_wp2_with (go_at_call 66;refine (cmpU_at _ _ _).mono ?_;rintro e w1 ⟨rfl,rfl⟩)
 go_ret
 exact ⟨rfl,0,#[_,_],by rw [Sort.alloc_eq_grow,Sort.alloc_eq_grow,Sort.grow_grow];rfl⟩
theorem cmpI_neg (a b:Nat):decide (Srv.cmpI (a:Int) (b:Int)<0)=decide (a<b):=by
 unfold Srv.cmpI
 by_cases h:a<b
 ·rw [if_pos (by omega)];simp [h]
 ·rw [if_neg (by omega)]
  split <;> simp [h]
set_option maxRecDepth 100000 in
set_option maxHeartbeats 2000000 in
theorem minf_at (A:Option Addr) (c n:Nat) (l:List Ad) (w:World) (h:AsRd w w.heap.size A c n l) (h0:0<n) :
 Calls Tryz.prog 64 #[.slice A n c,.func (.func 65) #[] #[]] w fun e w'=>∃ m:Ad,e = .returned (.agg m.cells.toArray)∧m.ttl=Srv.ttlA l∧Below w.heap.size w w':=by
 have H:=Lib.hid h
 have hnl:=h.2.2.2.1
 have hln:=h.2.1
 have HLN:=Lib.hid hln
 clear h hln
 obtain ⟨b,o,rfl,hb,hc⟩:=H.out.base h0
 have HC:=Lib.hid hc
 clear hc
 have hn1:(1:Int)≤(n:Int):=by omega
 have f0:=HC.out 0 (by rw [HLN.out];exact h0)
 obtain ⟨x0,hx0⟩:∃ x0,x0=l[0]'(by rw [HLN.out];exact h0):=⟨_,rfl⟩
 have hL1:l.take 1=[x0]:=by
  rw [hx0]
  cases l with
  | nil=>have:=HLN.out;simp at this;omega
  | cons a l=>rfl
 rw [←hx0] at f0
 have HL1:=Lib.hid hL1
 clear hx0 hL1
 obtain ⟨xh,xpo,xpr,xwe,xttl⟩:=x0
 obtain ⟨c0,c1,c2,c3,c4⟩:=f0.cells
 simp only [Nat.zero_mul,Nat.add_zero] at c0 c1 c2 c3 c4
 clear f0
 go_enter Tryz.func64,Tryz.ntmps64
 go_wp2_with fail
 obtain ⟨G0,hG0⟩:∃ G0,G0=w.heap.size:=⟨_,rfl⟩
 obtain ⟨W1,hW1⟩:∃ W1,W1=(w.alloc (.cells zA.cells.toArray 31)).alloc (.cells (Ad.cells ⟨xh,xpo,xpr,xwe,xttl⟩).toArray 31):=⟨_,rfl⟩
 have hV0:Vx W1 G0 31 zA.cells:=by rw [hW1,hG0];exact (Vx.new w _ _).alloc _
 have hV1:Vx W1 (G0+1) 31 (Ad.cells ⟨xh,xpo,xpr,xwe,xttl⟩):=by
  rw [hW1,hG0]
  have:=Vx.new (w.alloc (.cells zA.cells.toArray 31)) 31 (Ad.cells ⟨xh,xpo,xpr,xwe,xttl⟩)
  rwa [World.size_alloc] at this
 have hB1:Below w.heap.size w W1:=by rw [hW1];exact (bl_new w _).alloc (by simp) _
 have hge:w.heap.size≤G0:=by omega
 have hle:G0≤w.heap.size:=by omega
 have e1:(w.alloc (.cells #[.string ⟨#[]⟩,.int .i64 0,.int .i64 0,.int .i64 0,.int .u32 0] 31)).alloc (.cells #[.string ⟨xh.toArray⟩,.int .i64 xpo,.int .i64 xpr,.int .i64 xwe,.int .u32 (xttl:Int)] 31)=W1:=hW1.symm
 rw [e1,←hG0]
 have HV0:=Lib.hid hV0
 have HV1:=Lib.hid hV1
 have HB1:=Lib.hid hB1
 clear hV0 hV1 hB1 e1 hW1 hG0 c0 c1 c2 c3 c4
 have HLT:=Lib.hid (ttlA_take l)
 go_loopw [6] (fun v6 wr=>∃ (k:Nat) (m:Ad),1≤k∧k≤n∧v6 = .int .i64 k∧Hid (m.ttl=Srv.ttlA (l.take k))∧Hid (Vx wr (G0+1) 31 m.cells)∧Hid (Vx wr G0 31 zA.cells)∧Hid (Below w.heap.size w wr)) (fun v6 _=>n - (intOf v6).toNat)
 case atStart=>exact ⟨1,⟨xh,xpo,xpr,xwe,xttl⟩,Nat.le_refl _,by omega,rfl,Lib.hid (by rw [HL1.out];rfl),HV1,HV0,HB1⟩
 case round=>
  obtain ⟨k,m,hk1,hk,rfl,HM,HV,HZ,HB⟩:=hrel
  rcases Nat.lt_or_ge k n with hlt | hge2
  ·have hkl:k<l.length:=by rw [HLN.out];exact hlt
   have hf:=(HC.out k hkl).below HB.out hb
   have hlk:=HLT.out k hkl hk1
   obtain ⟨x,hx⟩:∃ x,x=l[k]:=⟨_,rfl⟩
   rw [←hx] at hf hlk
   clear hx
   rw [←HM.out] at hlk
   have HLK:=Lib.hid hlk
   clear hlk
   have K:=Lib.hid (ttl1G_at x m)
   have hcn:=cmpI_neg x.ttl m.ttl
   obtain ⟨cv,hcv⟩:∃ cv,cv=Srv.cmpI (x.ttl:Int) (m.ttl:Int):=⟨_,rfl⟩
   rw [←hcv] at hcn K
   clear hcv
   obtain ⟨yh,ypo,ypr,ywe,yttl⟩:=x
   obtain ⟨mh,mpo,mpr,mwe,mttl⟩:=m
   obtain ⟨c0,c1,c2,c3,c4⟩:=hf.cells
   obtain ⟨b0,b1,b2,b3,b4⟩:=HV.out.c5
   dsimp only at c0 c1 c2 c3 c4 b0 b1 b2 b3 b4 hcn
   unfold strV at b0
   have hbr:b<wr.heap.size:=Nat.lt_of_lt_of_le hb HB.out.size
   have hgr:=HV.out.lt
   have c0':=fun n os=>cell_grown (w:=wr) hbr c0 n os
   have c1':=fun n os=>cell_grown (w:=wr) hbr c1 n os
   have c2':=fun n os=>cell_grown (w:=wr) hbr c2 n os
   have c3':=fun n os=>cell_grown (w:=wr) hbr c3 n os
   have c4':=fun n os=>cell_grown (w:=wr) hbr c4 n os
   have b0':=fun n os=>cell_grown (w:=wr) hgr b0 n os
   have b1':=fun n os=>cell_grown (w:=wr) hgr b1 n os
   have b2':=fun n os=>cell_grown (w:=wr) hgr b2 n os
   have b3':=fun n os=>cell_grown (w:=wr) hgr b3 n os
   have b4':=fun n os=>cell_grown (w:=wr) hgr b4 n os
   have HF:=Lib.hid hf
   clear hf c0 c1 c2 c3 c4 b0 b1 b2 b3 b4
   have mixed:Tryz.prog.follows .mixedOrders=true:=by kernel_rfl
   go_wp2_with fail
   go_quiet_grown ((go_at_call 65;exact Calls.grown_of (K.out _)))
   have hgb:=below_grow wr nq osq (Nat.le_refl _)
   have HV2:=Lib.hid (HV.out.below hgb hgr)
   have HZ2:=Lib.hid (HZ.out.below hgb HZ.out.lt)
   have HB2:=Lib.hid (HB.out.trans (hgb.mono HB.out.size))
   have hf2:=HF.out.below hgb hbr
   generalize Sort.grow (wr.drewN nq) osq=w2 at HV2 HZ2 HB2 hf2 ⊢
   obtain ⟨c0,c1,c2,c3,c4⟩:=hf2.cells
   dsimp only at c0 c1 c2 c3 c4
   clear hf2 hgb c0' c1' c2' c3' c4' b0' b1' b2' b3' b4'
   by_cases hcase:yttl<mttl
   ·rw [decide_eq_true hcase] at hcn
    have HCS:=Lib.hid hcase
    clear hcase
    obtain ⟨d0,d1,d2,d3,d4⟩:=HV2.out.c5
    have e0:=HV2.out.free 0
    have e1:=HV2.out.free 1
    have e2:=HV2.out.free 2
    have e3:=HV2.out.free 3
    have e4:=HV2.out.free 4
    go_wp2_with fail
    go_roundw
    case rel=>
     refine ⟨k+1,⟨yh,ypo,ypr,ywe,yttl⟩,by omega,by omega,by go_num,Lib.hid ?_,Lib.hid HV2.out.set5,Lib.hid ?_,Lib.hid (below5 HB2.out (by omega) _ _ _ _ _)⟩
     ·rw [HLK.out,if_pos HCS.out]
     ·exact ((((HZ2.out.setO (by omega) 0 _).setO (by omega) 1 _).setO (by omega) 2 _).setO (by omega) 3 _).setO (by omega) 4 _
    case measure=>simp [intOf];omega
   ·rw [decide_eq_false hcase] at hcn
    have HCS:=Lib.hid hcase
    clear hcase
    go_wp2_with fail
    go_roundw
    case rel=>exact ⟨k+1,⟨mh,mpo,mpr,mwe,mttl⟩,by omega,by omega,by go_num,Lib.hid (by rw [HLK.out,if_neg HCS.out]),HV2,HZ2,HB2⟩
    case measure=>simp [intOf];omega
  ·obtain rfl:n=k:=by omega
   have hm:=HM.out
   rw [List.take_of_length_le (by rw [HLN.out];exact Nat.le_refl _)] at hm
   have HM2:=Lib.hid hm
   clear hm
   obtain ⟨mh,mpo,mpr,mwe,mttl⟩:=m
   obtain ⟨b0,b1,b2,b3,b4⟩:=HV.out.c5
   unfold strV at b0
   have hgr:=HV.out.lt
   obtain ⟨z0,z1,z2,z3,z4⟩:=HZ.out.c5
   have e0:=HZ.out.free 0
   have e1:=HZ.out.free 1
   have e2:=HZ.out.free 2
   have e3:=HZ.out.free 3
   have e4:=HZ.out.free 4
   go_wp2_with fail
   refine bodyPost_ret (resA Tryz.results64 _ _ G0 _ _ rfl HZ.out.set5 rfl) rfl ?_
   exact ⟨⟨mh,mpo,mpr,mwe,mttl⟩,rfl,HM2.out,below5 HB.out (by omega) _ _ _ _ _⟩
theorem fieldA4 (a0 a1 a2 a3:Value) (x:Int) (W:World):(Instr.field 31 (.agg #[a0,a1,a2,a3,.int .u32 x]) 4).run Tryz.prog W = .ok (.int .u32 x) W:=by kernel_rfl
set_option maxRecDepth 100000 in
set_option maxHeartbeats 1000000 in
theorem sttl_at (A:Option Addr) (c n:Nat) (l:List Ad) (w:World) (h:AsRd w w.heap.size A c n l) :
 Calls Tryz.prog 26 #[.slice A n c] w fun e w'=>e = .returned (.int .u32 (Srv.ttlA l:Int))∧Below w.heap.size w w':=by
 rcases Nat.eq_zero_or_pos n with h0 | h0
 ·subst h0
  have hl0:l=[]:=List.eq_nil_of_length_eq_zero h.2.1
  subst hl0
  clear h
  go_enter Tryz.func26,Tryz.ntmps26
  go_wp2
  go_ret
  exact ⟨rfl,Below.refl _ _⟩
 ·obtain ⟨r,hr⟩:∃ r,r=Srv.ttlA l:=⟨_,rfl⟩
  have K:=Lib.hid (minf_at A c n l w h h0)
  rw [←hr] at K ⊢
  clear hr h
  go_enter Tryz.func26,Tryz.ntmps26
  go_wp2_with (go_at_call 64
               refine K.out.mono ?_
               rintro e w1 ⟨⟨mh,mpo,mpr,mwe,mttl⟩,rfl,hm,hb⟩
               obtain rfl:=hm
               unfold Ad.cells strV
               dsimp only
               have hf4:=fieldA4 (.string ⟨mh.toArray⟩) (.int .i64 mpo) (.int .i64 mpr) (.int .i64 mwe) (mttl:Int))
  go_ret
  exact ⟨rfl,hb⟩
end Go.Proofs.YtlipmlbijddopaaGreatDoor
set_option linter.unusedVariables false
set_option linter.unusedSimpArgs false
namespace Go.Proofs.YtlipmlbijddopaaGreatDoor
open Go.RowKit
theorem bl_drew (w:World):Below w.heap.size w w.drew:=⟨rfl,rfl,rfl,Nat.le_refl _,fun _ _=>rfl⟩
theorem frozen_of_blockA {w w':World} {g k:Nat} (h:w'.heap[g]? = w.heap[g]?):w'.frozen? ⟨g,k,none⟩=w.frozen? ⟨g,k,none⟩:=by unfold World.frozen?;rw [h]
set_option maxRecDepth 100000 in
set_option maxHeartbeats 400000 in
theorem tier1G_at (x y:Ad) (w:World):Calls Tryz.prog 63 #[.agg x.cells.toArray,.agg y.cells.toArray] w fun e w'=>e = .returned (.bool (x.pr == y.pr))∧∃ q os,w'=Sort.grow (w.drewN q) os:=by
 obtain ⟨h,po,pr,we,ttl⟩:=x
 obtain ⟨h',po',pr',we',ttl'⟩:=y
 unfold Ad.cells
 dsimp only
 go_enter Tryz.func63,Tryz.ntmps63
 go_wp2
 go_ret
 exact ⟨rfl,0,#[_,_],by rw [Sort.alloc_eq_grow,Sort.alloc_eq_grow,Sort.grow_grow];rfl⟩
structure TSt (TS TA:TypeId) (w:World) (B:Nat) (v:Value) (rows:List ARow):Prop where
 out:Ow w B TS v (rows.map ARow.v)
 own:∀ r∈rows,OwM w B TA 5 r.v r.l.length (acs r.l)
 apt:rows.Pairwise fun r s=>∀ q,r.v.ownBlock=some q→s.v.ownBlock≠some q
 off:∀ r∈rows,∀ q,r.v.ownBlock=some q→v.ownBlock≠some q
section
variable {TS TA:TypeId} {w w':World} {B:Nat} {v v':Value} {rows:List ARow}
theorem TSt.nil (w:World) (B:Nat):TSt TS TA w B (.slice none 0 0) []:=⟨Ow.nil _ _ _,fun _ h=>(by cases h),List.Pairwise.nil,fun _ h=>(by cases h)⟩
theorem TSt.far (h:TSt TS TA w B v rows) (hb:Below w.heap.size w w'):TSt TS TA w' B v rows:=⟨h.out.far hb,fun r hr=>(h.own r hr).far hb,h.apt,h.off⟩
theorem TSt.push (h:TSt TS TA w B v rows) (hg:Gr w w' v v') (ho:Ow w' B TS v' (rows.map ARow.v++[.slice none 0 0])):TSt TS TA w' B v' (rows++[⟨none,0,[]⟩]):=by
 refine ⟨by rw [List.map_append];exact ho,fun r hr=>?_,?_,fun r hr q hq e=>?_⟩
 ·rcases List.mem_append.1 hr with hr | hr
  ·exact OwM.kept (h.own r hr) hg (h.off r hr)
  ·rw [List.mem_singleton] at hr;subst hr
   exact OwM.nil _ _ _ _
 ·rw [List.pairwise_append]
  refine ⟨h.apt,List.pairwise_singleton _ _,fun r hr s hs q hq e=>?_⟩
  rw [List.mem_singleton] at hs;subst hs
  simp [ARow.v,Value.ownBlock] at e
 ·rcases List.mem_append.1 hr with hr | hr
  ·rcases hg.2 q e with h1 | h1
   ·exact h.off r hr q hq h1
   ·have:=(h.own r hr).block_lt q hq;omega
  ·rw [List.mem_singleton] at hr;subst hr
   simp [ARow.v,Value.ownBlock] at hq
theorem TSt.last {g n c:Nat} {r r':ARow} (h:TSt TS TA w B (.slice (some ⟨g,0,none⟩) n c) (rows++[r])) (hg:Gr w w' r.v r'.v) (ho:OwM w' B TA 5 r'.v r'.l.length (acs r'.l)) :
 TSt TS TA (w'.setCell ⟨g,rows.length,none⟩ r'.v) B (.slice (some ⟨g,0,none⟩) n c) (rows++[r']):=by
 have hown:(Value.slice (some ⟨g,0,none⟩) n c).ownBlock=some g:=rfl
 have hr:r∈rows++[r]:=List.mem_append_right _ (List.mem_singleton.2 rfl)
 have hgl:g<w.heap.size:=ow_block_lt h.out g hown
 have hne:r'.v.ownBlock≠some g:=fun e=>by
  rcases hg.2 g e with h1 | h1
  ·exact h.off r hr g h1 hown
  ·omega
 have hap:=h.apt
 rw [List.pairwise_append] at hap
 have hset:∀ {x:ARow},OwM w' B TA 5 x.v x.l.length (acs x.l)→x.v.ownBlock≠some g→OwM (w'.setCell ⟨g,rows.length,none⟩ r'.v) B TA 5 x.v x.l.length (acs x.l):=fun {x} hx hxg=>
  World.ownsRow.kept (row:=some g) hx (Only.set_ _ _ _ _) (by
   cases e:x.v.ownBlock with
   | none=>exact .inl rfl
   | some q=>exact .inr (fun e2=>hxg (by rw [e,←e2])))
 refine ⟨?_,fun x hx=>?_,?_,fun x hx q hq e=>?_⟩
 ·have h1:=h.out.kept hg (fun q h1 h2=>h.off r hr q h2 h1)
  have hn:(List.map ARow.v (rows++[r])).length=n:=by
   obtain ⟨A',c',e',_⟩:=h1.form
   injection e' with e1 e2 e3
   exact e2.symm
  have h1':w'.ownsRow B TS 1 (.slice (some ⟨g,0,none⟩) n c) n (List.map ARow.v (rows++[r])):=by
   have:=h1
   unfold Ow at this
   rwa [hn] at this
  have h2:=(World.ownsRow.stored h1' rows.length r'.v).1
  have e:(List.map ARow.v (rows++[r])).set rows.length r'.v=List.map ARow.v (rows++[r']):=by
   rw [List.map_append,List.map_append,List.set_append_right _ _ (by simp)]
   simp
  rw [e] at h2
  have el:(List.map ARow.v (rows++[r'])).length=(List.map ARow.v (rows++[r])).length:=by simp
  unfold Ow
  rw [el,hn]
  exact h2
 ·rcases List.mem_append.1 hx with hx | hx
  ·have hxg:x.v.ownBlock≠some g:=fun e=>h.off x (List.mem_append_left _ hx) g e hown
   exact hset (OwM.kept (h.own x (List.mem_append_left _ hx)) hg (fun q h1=>hap.2.2 x hx r (List.mem_singleton.2 rfl) q h1)) hxg
  ·rw [List.mem_singleton] at hx;subst hx
   exact hset ho hne
 ·rw [List.pairwise_append]
  refine ⟨hap.1,List.pairwise_singleton _ _,fun x hx s hs q hq e=>?_⟩
  rw [List.mem_singleton] at hs;subst hs
  rcases hg.2 q e with h1 | h1
  ·exact hap.2.2 x hx r (List.mem_singleton.2 rfl) q hq h1
  ·have:=(h.own x (List.mem_append_left _ hx)).block_lt q hq;omega
 ·rcases List.mem_append.1 hx with hx | hx
  ·exact h.off x (List.mem_append_left _ hx) q hq e
  ·rw [List.mem_singleton] at hx;subst hx
   rw [hown] at e
   exact hne (by rw [hq,←e])
theorem TSt.rsA (h:TSt TS TA w B v rows) (hx:∀ r∈rows,r.l.length≤2932031007317∧∀ x∈r.l,AdOk x):∃ A c,v = .slice A rows.length c∧rows.length≤c∧RsA w w.heap.size A rows.length rows:=by
 obtain ⟨A,c,rfl,hc,hr⟩:=h.out.form6 rows.length (by simp)
 refine ⟨A,c,rfl,hc,hr,rfl,fun r hm=>?_⟩
 obtain ⟨A',c',e,hh⟩:=AsRd.of_own (h.own r hm) rfl (hx r hm).1 (hx r hm).2
 unfold ARow.v at e
 injection e with e1 e2 e3
 rw [e1,e3];exact hh
end
theorem TSt.some_ {TS TA:TypeId} {w:World} {B n c:Nat} {A:Option Addr} {rows:List ARow} {r:ARow} (h:TSt TS TA w B (.slice A n c) (rows++[r])) :
 ∃ g,A=some ⟨g,0,none⟩∧n=rows.length+1∧g<w.heap.size∧w.cell? ⟨g,rows.length,none⟩=some r.v∧w.frozen? ⟨g,rows.length,none⟩=false:=by
 have h0:=h.out
 unfold Ow at h0
 have hlen:(List.map ARow.v (rows++[r])).length=rows.length+1:=by simp
 have h1:=h0
 rcases h0.2 with ⟨_,hx⟩ | ⟨g,cap,cur,e,hg,hg2,_⟩
 ·rw [hlen] at hx;omega
 ·rw [hlen] at e
  injection e with e1 e2 e3
  subst e1 e2 e3
  refine ⟨g,rfl,rfl,kp_lt hg2,?_,?_⟩
  ·rw [hlen] at h1
   rw [h1.cellAt rows.length (by omega)]
   simp
  ·simp [World.frozen?,hg2]
theorem Tryz.infoL:(Tryz.prog.info? 27).map (fun i=>(i.zero,i.size,i.bytes))=some (some (.slice none 0 0),1,24):=by kernel_rfl
theorem mem_flat {α:Type} {t:List α}:∀ {ts:List (List α)},t∈ts→t.length≤ts.flatten.length
 | [],h=>by cases h
 | a :: ts,h=>by
   rw [List.flatten_cons,List.length_append]
   rcases List.mem_cons.1 h with rfl | h
   ·omega
   ·have:=mem_flat h;omega
theorem onT_new {out:List (List Ad)} {x:Ad} (h:out.length=0∨Srv.lastP (out.getLastD [])≠x.pr):Srv.onT out x=out++[[x]]:=if_pos h
theorem onT_old {k:List (List Ad)} {t:List Ad} {x:Ad} (h:Srv.lastP t=x.pr):Srv.onT (k++[t]) x=k++[t++[x]]:=by
 unfold Srv.onT
 rw [if_neg (by simp [h])]
 simp
set_option maxRecDepth 100000 in
set_option maxHeartbeats 8000000 in
theorem runs_at (A:Option Addr) (c n:Nat) (l:List Ad) (w:World) (h:AsRd w w.heap.size A c n l) :
 Calls Tryz.prog 62 #[.slice A n c,.func (.func 63) #[] #[]] w fun e w'=>∃ (v:Value) (rows:List ARow),e = .returned v∧rows.map ARow.l=Srv.tiersA l∧TSt 27 31 w' w.heap.size v rows∧Below w.heap.size w w':=by
 obtain ⟨i0,hI,hz0,hz1,hz2⟩:=info_parts Tryz.infoL
 obtain ⟨j0,hj',hy0,hy1,hy2⟩:=info_parts Tryz.infoA
 have H:=Lib.hid h
 have hnl:=h.2.2.2.1
 have hln:=h.2.1
 have HLN:=Lib.hid hln
 clear h hln
 have mixed:Tryz.prog.follows .mixedOrders=true:=by kernel_rfl
 go_enter Tryz.func62,Tryz.ntmps62
 go_wp2_with fail
 go_loopw [5,10] (fun v5 vk wr=>∃ (k m:Nat) (rows:List ARow) (A5:Option Addr) (c5:Nat),k≤n∧m≤k∧vk = .int .i64 k∧v5 = .slice A5 m c5∧Hid (rows.length=m)∧Hid (rows.map ARow.l=Srv.tiersA (l.take k))∧Hid (TSt 27 31 wr w.heap.size (.slice A5 m c5) rows)∧Hid (Below w.heap.size w wr)) (fun _ vk _=>n - (intOf vk).toNat)
 case atStart=>exact ⟨0,0,[],none,0,Nat.zero_le _,Nat.le_refl _,rfl,rfl,Lib.hid rfl,Lib.hid rfl,Lib.hid (TSt.nil _ _),Lib.hid (Below.refl _ _)⟩
 case round=>
  obtain ⟨k,m,rows,A5,c5,hk,hrk,rfl,rfl,HN,HR,HT,HB⟩:=hrel
  have hsz:=HB.out.size
  rcases Nat.lt_or_ge k n with hlt | hge
  ·have hkl:k<l.length:=by rw [HLN.out];exact hlt
   obtain ⟨b,o,rfl,hb,hc⟩:=H.out.base (show 0<n by omega)
   have HF:=Lib.hid ((hc k hkl).below HB.out hb)
   have hts:Srv.tiersA (l.take (k+1))=Srv.onT (Srv.tiersA (l.take k)) l[k]:=by
    rw [List.take_succ_eq_append_getElem hkl,Srv.tiersA_snoc]
   have hbr:b<wr.heap.size:=Nat.lt_of_lt_of_le hb hsz
   obtain ⟨x,hx⟩:∃ x,x=l[k]:=⟨_,rfl⟩
   rw [←hx] at hts HF
   have HTS:=Lib.hid hts
   clear hts hx
   obtain ⟨xh,xpo,xpr,xwe,xttl⟩:=x
   obtain ⟨c0,c1,c2,c3,c4⟩:=HF.out.cells
   dsimp only at c0 c1 c2 c3 c4
   have hbx:=Vx.new wr 31 [.string ⟨xh.toArray⟩,.int .i64 xpo,.int .i64 xpr,.int .i64 xwe,.int .u32 (xttl:Int)]
   have hbl:=bl_new wr (.cells #[.string ⟨xh.toArray⟩,.int .i64 xpo,.int .i64 xpr,.int .i64 xwe,.int .u32 (xttl:Int)] 31)
   obtain ⟨G,hG⟩:∃ G,G=wr.heap.size:=⟨_,rfl⟩
   obtain ⟨W1,hW1⟩:∃ W1,W1=wr.alloc (.cells #[.string ⟨xh.toArray⟩,.int .i64 xpo,.int .i64 xpr,.int .i64 xwe,.int .u32 (xttl:Int)] 31):=⟨_,rfl⟩
   rw [←hW1] at hbx hbl
   rw [←hG] at hbx
   have hgw:wr.heap.size≤G:=by omega
   have hgw2:G≤wr.heap.size:=by omega
   have HBX:=Lib.hid hbx
   have HBL:=Lib.hid hbl
   have HW1:=Lib.hid hW1
   have HG:=Lib.hid hG
   clear hbx hbl hW1 hG
   rcases Nat.eq_zero_or_pos k with hk0 | hk0
   ·have HRN:Hid (rows=[]):=Lib.hid (List.eq_nil_of_length_eq_zero (by rw [HN.out];omega))
    have hk0':((k:Int) == 0)=true:=by rw [beq_iff_eq];omega
    have HK0:=Lib.hid hk0
    have HNEW:Hid ((rows.map ARow.l).length=0∨Srv.lastP ((rows.map ARow.l).getLastD [])≠xpr):=Lib.hid (.inl (by rw [List.length_map,HN.out];omega))
    clear hk0
    go_wp2_with fail
    rw [←HW1.out,←HG.out]
    go_quiet (fail)
    have hgb:Below W1.heap.size W1 (W1.drewN nq):=⟨rfl,rfl,rfl,Nat.le_refl _,fun _ _=>rfl⟩
    have HV2:=Lib.hid (HBX.out.below hgb HBX.out.lt)
    have hb12:=HBL.out.trans (hgb.mono HBL.out.size)
    have HT2:=Lib.hid (HT.out.far hb12)
    have HB2:=Lib.hid (HB.out.trans (hb12.mono hsz))
    generalize W1.drewN nq=w2 at HV2 HT2 HB2 ⊢
    clear hgb hb12
    have hsz2:=HB2.out.size
    go_upto_region 7 with (at_builtin;refine wpList_app _ rfl _ _ _ _ rfl w.heap.size 27 i0 (.slice none 0 0) 24 Tryz.underlying55 hI hz0 hz1 hz2 rfl (by omega) _ _ (HT2.out.out.alloc _) rfl 1 [.slice none 0 0] (one_src Tryz.underlying55 _ rfl) (by rw [List.length_map,HN.out];omega) (by simp;omega) ?_;intro v3 w3 ho3 hg3 hz3;obtain ⟨A3,c3,rfl,hc3,hr3⟩:=ho3.form6 (m+1) (by rw [List.length_append,List.length_map,HN.out];rfl);have HO3:=Lib.hid ho3;clear ho3 hr3)
    have hGo:∀ q,(Value.slice A5 m c5).ownBlock=some q→q<G:=fun q hq=>by have:=ow_block_lt HT.out.out q hq;omega
    have HV3:=Lib.hid ((HV2.out.alloc (.cells #[.slice none 0 0] 27)).grown hg3.1 (by intro e;have:=hGo G e.symm;omega))
    have HB3:=Lib.hid ((HB2.out.alloc hsz2 (.cells #[.slice none 0 0] 27)).trans (hg3.below (Ow.lt HT2.out.out) (by simp;omega)))
    have HT3:=Lib.hid ((HT2.out.far (bl_new w2 (.cells #[.slice none 0 0] 27))).push hg3 HO3.out)
    obtain ⟨r,hr⟩:∃ r:ARow,r=⟨none,0,[]⟩:=⟨_,rfl⟩
    have HRL:Hid (r.l.length≤2932031007317):=Lib.hid (by rw [hr];simp)
    have HEND:Hid (Srv.tiersA (l.take (k+1))=rows.map ARow.l++[r.l++[⟨xh,xpo,xpr,xwe,xttl⟩]]):=Lib.hid (by rw [HTS.out,←HR.out,hr];exact onT_new HNEW.out)
    have hNk:m+1≤k+1:=by omega
    obtain ⟨rows0,hrows0⟩:∃ q,q=rows:=⟨_,rfl⟩
    have HN0:Hid (rows0.length+1=m+1):=Lib.hid (by rw [hrows0,HN.out])
    rw [←hrows0] at HT3 HEND
    clear hrows0 hg3 HO3 hz3 hc3 HV2 HT2 HB2 hsz2 hGo
    generalize m+1=N at HT3 HN0 hNk ⊢
    rw [←hr] at HT3
    clear hr
    obtain ⟨rA,rc,rl⟩:=r
    dsimp only at HRL HEND
    obtain ⟨g,rfl,hN,hgl,hcl,hfr⟩:=HT3.out.some_
    obtain ⟨M,hM⟩:∃ M,M=rows0.length:=⟨_,rfl⟩
    rw [←hM] at hcl hfr
    have HOr:=Lib.hid (HT3.out.own ⟨rA,rc,rl⟩ (List.mem_append_right _ (List.mem_singleton.2 rfl)))
    unfold ARow.v at hcl
    dsimp only at hcl
    have hNM:(N:Int) - 1=(M:Int):=by omega
    have hw1:IntKind.i64.wrap (M:Int)=(M:Int):=by rw [IntKind.wrap_i64];omega
    have hMN:(M:Int)<(N:Int):=by omega
    have HMX:=Lib.hid hM
    have hrl:=HRL.out
    have hsz3:=HB3.out.size
    obtain ⟨b0,b1,b2,b3,b4⟩:=HV3.out.c5
    have hG3:=HV3.out.lt
    clear hM hN
    have HSRC:=Lib.hid (srcA (P:=Tryz.prog) (w:=w3.drew) (tx:=27) Tryz.underlying27 31 5 (Ad.cells ⟨xh,xpo,xpr,xwe,xttl⟩) 1 rfl (acells_one _) (by simp))
    have hlen:(rl++[(⟨xh,xpo,xpr,xwe,xttl⟩:Ad)]).length=rl.length+1:=by simp
    have HLEN:=Lib.hid hlen
    clear hlen
    have HGB:Hid (w.heap.size≤g):=Lib.hid (Ow.lt HT3.out.out g rfl)
    refine wp_region_held_drew (S:=fun _=>True) (by kernel_rfl) trivial (fun hH=>?_)
    refine reg_take 0 (v:=?_) rfl (by kernel_rfl) (fun _ _ _ h=>h) (by rfl) trivial ?_ ?_
    rotate_left
    ·intro w hSw;(try dsimp only at hSw);go_simp;(try with_reducible rfl)
    (try simp only [Act.put,List.setIfInBounds_toArray,List.set_cons_zero,List.set_cons_succ])
    refine reg_take 1 (v:=?_) rfl (by kernel_rfl) (fun _ _ _ h=>h) (by rfl) trivial ?_ ?_
    rotate_left
    ·intro w hSw;(try dsimp only at hSw);go_simp;(try with_reducible rfl)
    (try simp only [Act.put,List.setIfInBounds_toArray,List.set_cons_zero,List.set_cons_succ])
    refine reg_take 2 (v:=?_) rfl (by kernel_rfl) (fun _ _ _ h=>h) (by rfl) trivial ?_ ?_
    rotate_left
    ·intro w hSw;(try dsimp only at hSw);go_simp;(try with_reducible rfl)
    (try simp only [Act.put,List.setIfInBounds_toArray,List.set_cons_zero,List.set_cons_succ])
    refine reg_take 3 (v:=?_) rfl (by kernel_rfl) (fun _ _ _ h=>h) (by rfl) trivial ?_ ?_
    rotate_left
    ·intro w hSw;(try dsimp only at hSw);go_simp;(try with_reducible rfl)
    (try simp only [Act.put,List.setIfInBounds_toArray,List.set_cons_zero,List.set_cons_succ])
    refine reg_take 4 (v:=?_) rfl (by kernel_rfl) (fun _ _ _ h=>h) (by rfl) trivial ?_ ?_
    rotate_left
    ·intro w hSw;(try dsimp only at hSw);go_simp;(try with_reducible rfl)
    (try simp only [Act.put,List.setIfInBounds_toArray,List.set_cons_zero,List.set_cons_succ])
    refine reg_take 5 (v:=?_) rfl (by kernel_rfl) (fun _ _ _ h=>h) (by rfl) trivial ?_ ?_
    rotate_left
    ·intro w hSw;(try dsimp only at hSw);go_simp;(try with_reducible rfl)
    (try simp only [Act.put,List.setIfInBounds_toArray,List.set_cons_zero,List.set_cons_succ])
    refine reg_take 6 (v:=?_) rfl (by kernel_rfl) (fun _ _ _ h=>h) (by rfl) trivial ?_ ?_
    rotate_left
    ·intro w hSw;(try dsimp only at hSw);go_simp;(try with_reducible rfl)
    (try simp only [Act.put,List.setIfInBounds_toArray,List.set_cons_zero,List.set_cons_succ])
    refine reg_take 7 (v:=?_) rfl (by kernel_rfl) (fun _ _ _ h=>h) (by rfl) trivial ?_ ?_
    rotate_left
    ·intro w hSw;(try dsimp only at hSw);go_simp;(try with_reducible rfl)
    (try simp only [Act.put,List.setIfInBounds_toArray,List.set_cons_zero,List.set_cons_succ])
    refine reg_take 8 (v:=?_) rfl (by kernel_rfl) (fun _ _ _ h=>h) (by rfl) trivial ?_ ?_
    rotate_left
    ·intro w hSw;(try dsimp only at hSw);go_simp;(try with_reducible rfl)
    (try simp only [Act.put,List.setIfInBounds_toArray,List.set_cons_zero,List.set_cons_succ])
    refine wpAnyH_ready (rs:=[9,10]) (by kernel_rfl) (by simp) ?_
    refine reg_cons 9 rfl (fun K' hK=>?_) (reg_cons 10 rfl (fun K' hK=>?_) (AllReadyH.nil))
    ·go_simp
     refine hK.out _ _ trivial (fun hH=>?_)
     (try simp only [Act.put,List.setIfInBounds_toArray,List.set_cons_zero,List.set_cons_succ])
     clear hK
     refine wpAnyH_ready (rs:=[10]) (by kernel_rfl) (by simp) ?_
     refine reg_cons 10 rfl (fun K' hK=>?_) (AllReadyH.nil)
     go_simp
     refine hK.out _ _ trivial (fun hH=>?_)
     (try simp only [Act.put,List.setIfInBounds_toArray,List.set_cons_zero,List.set_cons_succ])
     clear hK
     refine wpAnyH_ready (rs:=[11]) (by kernel_rfl) (by simp) ?_
     refine reg_cons 11 rfl (fun K' hK=>?_) (AllReadyH.nil)
     go_simp
     refine hK.out _ _ trivial (fun hH=>?_)
     (try simp only [Act.put,List.setIfInBounds_toArray,List.set_cons_zero,List.set_cons_succ])
     clear hK
     refine wpAnyH_ready (rs:=[12]) (by kernel_rfl) (by simp) ?_
     refine reg_cons 12 rfl (fun K' hK=>?_) (AllReadyH.nil)
     refine step_appM rfl _ _ _ _ rfl w.heap.size 5 31 j0 (.agg zA.cells.toArray) 48 Tryz.underlying27 hj' hy0 hy1 hy2 rfl (by omega) (.slice rA rl.length rc) rl.length (acs rl) ((OwM.drew HOr.out).alloc _) rfl (.slice (some ⟨w3.heap.size,0,none⟩) 1 1) rfl 1 (Ad.cells ⟨xh,xpo,xpr,xwe,xttl⟩) HSRC.out (by omega) (by simp;omega) ?_
     intro v4 w4 ho4 hg4 hz4
     obtain ⟨A4,c4,rfl,hc4,_,_⟩:=ho4.form
     refine hK.out _ _ trivial (fun hH=>?_)
     (try simp only [Act.put,List.setIfInBounds_toArray,List.set_cons_zero,List.set_cons_succ])
     clear hK
     have hg5:Gr (w3.drew.alloc (.cells #[.string ⟨xh.toArray⟩,.int .i64 xpo,.int .i64 xpr,.int .i64 xwe,.int .u32 (xttl:Int)] 31)) w4 (ARow.v ⟨rA,rc,rl⟩) (ARow.v ⟨A4,c4,rl++[⟨xh,xpo,xpr,xwe,xttl⟩]⟩):=by
      unfold ARow.v
      dsimp only
      rw [HLEN.out]
      exact hg4
     have ho5:OwM w4 w.heap.size 31 5 (ARow.v ⟨A4,c4,rl++[⟨xh,xpo,xpr,xwe,xttl⟩]⟩) (rl++[(⟨xh,xpo,xpr,xwe,xttl⟩:Ad)]).length (acs (rl++[⟨xh,xpo,xpr,xwe,xttl⟩])):=by
      unfold ARow.v
      dsimp only
      rw [HLEN.out,acs_snoc]
      exact ho4
     have HT4:=Lib.hid (TSt.last (r':=⟨A4,c4,rl++[⟨xh,xpo,xpr,xwe,xttl⟩]⟩) (HT3.out.far ((bl_drew w3).alloc (Nat.le_refl _) (.cells #[.string ⟨xh.toArray⟩,.int .i64 xpo,.int .i64 xpr,.int .i64 xwe,.int .u32 (xttl:Int)] 31))) hg5 ho5)
     have hkeep:w4.cell? ⟨g,M,none⟩=some (.slice rA rl.length rc)∧w4.frozen? ⟨g,M,none⟩=false:=by
      have hne:some g≠(Value.slice rA rl.length rc).ownBlock:=fun e=>HT3.out.off ⟨rA,rc,rl⟩ (List.mem_append_right _ (List.mem_singleton.2 rfl)) g e.symm rfl
      have hbk:w4.heap[g]? = w3.heap[g]?:=(hg4.1.block g (by simp;omega) hne).trans (Below.heap_alloc w3.drew (.cells #[.string ⟨xh.toArray⟩,.int .i64 xpo,.int .i64 xpr,.int .i64 xwe,.int .u32 (xttl:Int)] 31) g hgl)
      exact ⟨(World.cell?_of_block hbk).trans hcl,(frozen_of_blockA hbk).trans hfr⟩
     obtain ⟨hk4,hf4⟩:=hkeep
     have hb34:Below w.heap.size w w4:=((HB3.out.trans ((bl_drew w3).mono hsz3)).alloc hsz3 (.cells #[.string ⟨xh.toArray⟩,.int .i64 xpo,.int .i64 xpr,.int .i64 xwe,.int .u32 (xttl:Int)] 31)).trans (hg4.below (OwM.lt HOr.out) (by simp;omega))
     have HB4:=Lib.hid hb34
     clear ho4 hg4 ho5 hg5 hb34 hc4
     refine reg_take 13 (v:=?_) rfl (by kernel_rfl) (fun _ _ _ h=>h) (by rfl) trivial ?_ ?_
     rotate_left
     ·intro w hSw;(try dsimp only at hSw);go_simp;(try with_reducible rfl)
     (try simp only [Act.put,List.setIfInBounds_toArray,List.set_cons_zero,List.set_cons_succ])
     refine wpAnyH_ready (rs:=[14]) (by kernel_rfl) (by simp) ?_
     refine reg_cons 14 rfl (fun K' hK=>?_) AllReadyH.nil
     go_simp
     refine hK.out _ _ trivial (fun hH=>?_)
     (try simp only [Act.put,List.setIfInBounds_toArray,List.set_cons_zero,List.set_cons_succ])
     clear hK
     refine wpAnyH_done (by kernel_rfl) ?_ _
     go_wp2_with fail
     go_roundw
     case rel=>
      refine ⟨k+1,N,rows0++[⟨A4,c4,rl++[⟨xh,xpo,xpr,xwe,xttl⟩]⟩],some ⟨g,0,none⟩,c3,by omega,by omega,by go_num,rfl,Lib.hid ?_,Lib.hid ?_,Lib.hid ?_,Lib.hid (HB4.out.setCell HGB.out _)⟩
      ·rw [List.length_append];exact HN0.out
      ·rw [HEND.out,List.map_append];rfl
      ·have:=HT4.out
       rw [←HMX.out] at this
       unfold ARow.v at this
       dsimp only at this
       rw [HLEN.out] at this
       exact this
     case measure=>simp [intOf];omega
    ·go_simp
     refine hK.out _ _ trivial (fun hH=>?_)
     (try simp only [Act.put,List.setIfInBounds_toArray,List.set_cons_zero,List.set_cons_succ])
     clear hK
     refine wpAnyH_ready (rs:=[9,11]) (by kernel_rfl) (by simp) ?_
     refine reg_cons 9 rfl (fun K' hK=>?_) (reg_cons 11 rfl (fun K' hK=>?_) (AllReadyH.nil))
     ·go_simp
      refine hK.out _ _ trivial (fun hH=>?_)
      (try simp only [Act.put,List.setIfInBounds_toArray,List.set_cons_zero,List.set_cons_succ])
      clear hK
      refine wpAnyH_ready (rs:=[11]) (by kernel_rfl) (by simp) ?_
      refine reg_cons 11 rfl (fun K' hK=>?_) (AllReadyH.nil)
      go_simp
      refine hK.out _ _ trivial (fun hH=>?_)
      (try simp only [Act.put,List.setIfInBounds_toArray,List.set_cons_zero,List.set_cons_succ])
      clear hK
      refine wpAnyH_ready (rs:=[12]) (by kernel_rfl) (by simp) ?_
      refine reg_cons 12 rfl (fun K' hK=>?_) (AllReadyH.nil)
      refine step_appM rfl _ _ _ _ rfl w.heap.size 5 31 j0 (.agg zA.cells.toArray) 48 Tryz.underlying27 hj' hy0 hy1 hy2 rfl (by omega) (.slice rA rl.length rc) rl.length (acs rl) ((OwM.drew HOr.out).alloc _) rfl (.slice (some ⟨w3.heap.size,0,none⟩) 1 1) rfl 1 (Ad.cells ⟨xh,xpo,xpr,xwe,xttl⟩) HSRC.out (by omega) (by simp;omega) ?_
      intro v4 w4 ho4 hg4 hz4
      obtain ⟨A4,c4,rfl,hc4,_,_⟩:=ho4.form
      refine hK.out _ _ trivial (fun hH=>?_)
      (try simp only [Act.put,List.setIfInBounds_toArray,List.set_cons_zero,List.set_cons_succ])
      clear hK
      have hg5:Gr (w3.drew.alloc (.cells #[.string ⟨xh.toArray⟩,.int .i64 xpo,.int .i64 xpr,.int .i64 xwe,.int .u32 (xttl:Int)] 31)) w4 (ARow.v ⟨rA,rc,rl⟩) (ARow.v ⟨A4,c4,rl++[⟨xh,xpo,xpr,xwe,xttl⟩]⟩):=by
       unfold ARow.v
       dsimp only
       rw [HLEN.out]
       exact hg4
      have ho5:OwM w4 w.heap.size 31 5 (ARow.v ⟨A4,c4,rl++[⟨xh,xpo,xpr,xwe,xttl⟩]⟩) (rl++[(⟨xh,xpo,xpr,xwe,xttl⟩:Ad)]).length (acs (rl++[⟨xh,xpo,xpr,xwe,xttl⟩])):=by
       unfold ARow.v
       dsimp only
       rw [HLEN.out,acs_snoc]
       exact ho4
      have HT4:=Lib.hid (TSt.last (r':=⟨A4,c4,rl++[⟨xh,xpo,xpr,xwe,xttl⟩]⟩) (HT3.out.far ((bl_drew w3).alloc (Nat.le_refl _) (.cells #[.string ⟨xh.toArray⟩,.int .i64 xpo,.int .i64 xpr,.int .i64 xwe,.int .u32 (xttl:Int)] 31))) hg5 ho5)
      have hkeep:w4.cell? ⟨g,M,none⟩=some (.slice rA rl.length rc)∧w4.frozen? ⟨g,M,none⟩=false:=by
       have hne:some g≠(Value.slice rA rl.length rc).ownBlock:=fun e=>HT3.out.off ⟨rA,rc,rl⟩ (List.mem_append_right _ (List.mem_singleton.2 rfl)) g e.symm rfl
       have hbk:w4.heap[g]? = w3.heap[g]?:=(hg4.1.block g (by simp;omega) hne).trans (Below.heap_alloc w3.drew (.cells #[.string ⟨xh.toArray⟩,.int .i64 xpo,.int .i64 xpr,.int .i64 xwe,.int .u32 (xttl:Int)] 31) g hgl)
       exact ⟨(World.cell?_of_block hbk).trans hcl,(frozen_of_blockA hbk).trans hfr⟩
      obtain ⟨hk4,hf4⟩:=hkeep
      have hb34:Below w.heap.size w w4:=((HB3.out.trans ((bl_drew w3).mono hsz3)).alloc hsz3 (.cells #[.string ⟨xh.toArray⟩,.int .i64 xpo,.int .i64 xpr,.int .i64 xwe,.int .u32 (xttl:Int)] 31)).trans (hg4.below (OwM.lt HOr.out) (by simp;omega))
      have HB4:=Lib.hid hb34
      clear ho4 hg4 ho5 hg5 hb34 hc4
      refine reg_take 13 (v:=?_) rfl (by kernel_rfl) (fun _ _ _ h=>h) (by rfl) trivial ?_ ?_
      rotate_left
      ·intro w hSw;(try dsimp only at hSw);go_simp;(try with_reducible rfl)
      (try simp only [Act.put,List.setIfInBounds_toArray,List.set_cons_zero,List.set_cons_succ])
      refine wpAnyH_ready (rs:=[14]) (by kernel_rfl) (by simp) ?_
      refine reg_cons 14 rfl (fun K' hK=>?_) AllReadyH.nil
      go_simp
      refine hK.out _ _ trivial (fun hH=>?_)
      (try simp only [Act.put,List.setIfInBounds_toArray,List.set_cons_zero,List.set_cons_succ])
      clear hK
      refine wpAnyH_done (by kernel_rfl) ?_ _
      go_wp2_with fail
      go_roundw
      case rel=>
       refine ⟨k+1,N,rows0++[⟨A4,c4,rl++[⟨xh,xpo,xpr,xwe,xttl⟩]⟩],some ⟨g,0,none⟩,c3,by omega,by omega,by go_num,rfl,Lib.hid ?_,Lib.hid ?_,Lib.hid ?_,Lib.hid (HB4.out.setCell HGB.out _)⟩
       ·rw [List.length_append];exact HN0.out
       ·rw [HEND.out,List.map_append];rfl
       ·have:=HT4.out
        rw [←HMX.out] at this
        unfold ARow.v at this
        dsimp only at this
        rw [HLEN.out] at this
        exact this
      case measure=>simp [intOf];omega
     ·go_simp
      refine hK.out _ _ trivial (fun hH=>?_)
      (try simp only [Act.put,List.setIfInBounds_toArray,List.set_cons_zero,List.set_cons_succ])
      clear hK
      refine wpAnyH_ready (rs:=[9]) (by kernel_rfl) (by simp) ?_
      refine reg_cons 9 rfl (fun K' hK=>?_) (AllReadyH.nil)
      go_simp
      refine hK.out _ _ trivial (fun hH=>?_)
      (try simp only [Act.put,List.setIfInBounds_toArray,List.set_cons_zero,List.set_cons_succ])
      clear hK
      refine wpAnyH_ready (rs:=[12]) (by kernel_rfl) (by simp) ?_
      refine reg_cons 12 rfl (fun K' hK=>?_) (AllReadyH.nil)
      refine step_appM rfl _ _ _ _ rfl w.heap.size 5 31 j0 (.agg zA.cells.toArray) 48 Tryz.underlying27 hj' hy0 hy1 hy2 rfl (by omega) (.slice rA rl.length rc) rl.length (acs rl) ((OwM.drew HOr.out).alloc _) rfl (.slice (some ⟨w3.heap.size,0,none⟩) 1 1) rfl 1 (Ad.cells ⟨xh,xpo,xpr,xwe,xttl⟩) HSRC.out (by omega) (by simp;omega) ?_
      intro v4 w4 ho4 hg4 hz4
      obtain ⟨A4,c4,rfl,hc4,_,_⟩:=ho4.form
      refine hK.out _ _ trivial (fun hH=>?_)
      (try simp only [Act.put,List.setIfInBounds_toArray,List.set_cons_zero,List.set_cons_succ])
      clear hK
      have hg5:Gr (w3.drew.alloc (.cells #[.string ⟨xh.toArray⟩,.int .i64 xpo,.int .i64 xpr,.int .i64 xwe,.int .u32 (xttl:Int)] 31)) w4 (ARow.v ⟨rA,rc,rl⟩) (ARow.v ⟨A4,c4,rl++[⟨xh,xpo,xpr,xwe,xttl⟩]⟩):=by
       unfold ARow.v
       dsimp only
       rw [HLEN.out]
       exact hg4
      have ho5:OwM w4 w.heap.size 31 5 (ARow.v ⟨A4,c4,rl++[⟨xh,xpo,xpr,xwe,xttl⟩]⟩) (rl++[(⟨xh,xpo,xpr,xwe,xttl⟩:Ad)]).length (acs (rl++[⟨xh,xpo,xpr,xwe,xttl⟩])):=by
       unfold ARow.v
       dsimp only
       rw [HLEN.out,acs_snoc]
       exact ho4
      have HT4:=Lib.hid (TSt.last (r':=⟨A4,c4,rl++[⟨xh,xpo,xpr,xwe,xttl⟩]⟩) (HT3.out.far ((bl_drew w3).alloc (Nat.le_refl _) (.cells #[.string ⟨xh.toArray⟩,.int .i64 xpo,.int .i64 xpr,.int .i64 xwe,.int .u32 (xttl:Int)] 31))) hg5 ho5)
      have hkeep:w4.cell? ⟨g,M,none⟩=some (.slice rA rl.length rc)∧w4.frozen? ⟨g,M,none⟩=false:=by
       have hne:some g≠(Value.slice rA rl.length rc).ownBlock:=fun e=>HT3.out.off ⟨rA,rc,rl⟩ (List.mem_append_right _ (List.mem_singleton.2 rfl)) g e.symm rfl
       have hbk:w4.heap[g]? = w3.heap[g]?:=(hg4.1.block g (by simp;omega) hne).trans (Below.heap_alloc w3.drew (.cells #[.string ⟨xh.toArray⟩,.int .i64 xpo,.int .i64 xpr,.int .i64 xwe,.int .u32 (xttl:Int)] 31) g hgl)
       exact ⟨(World.cell?_of_block hbk).trans hcl,(frozen_of_blockA hbk).trans hfr⟩
      obtain ⟨hk4,hf4⟩:=hkeep
      have hb34:Below w.heap.size w w4:=((HB3.out.trans ((bl_drew w3).mono hsz3)).alloc hsz3 (.cells #[.string ⟨xh.toArray⟩,.int .i64 xpo,.int .i64 xpr,.int .i64 xwe,.int .u32 (xttl:Int)] 31)).trans (hg4.below (OwM.lt HOr.out) (by simp;omega))
      have HB4:=Lib.hid hb34
      clear ho4 hg4 ho5 hg5 hb34 hc4
      refine reg_take 13 (v:=?_) rfl (by kernel_rfl) (fun _ _ _ h=>h) (by rfl) trivial ?_ ?_
      rotate_left
      ·intro w hSw;(try dsimp only at hSw);go_simp;(try with_reducible rfl)
      (try simp only [Act.put,List.setIfInBounds_toArray,List.set_cons_zero,List.set_cons_succ])
      refine wpAnyH_ready (rs:=[14]) (by kernel_rfl) (by simp) ?_
      refine reg_cons 14 rfl (fun K' hK=>?_) AllReadyH.nil
      go_simp
      refine hK.out _ _ trivial (fun hH=>?_)
      (try simp only [Act.put,List.setIfInBounds_toArray,List.set_cons_zero,List.set_cons_succ])
      clear hK
      refine wpAnyH_done (by kernel_rfl) ?_ _
      go_wp2_with fail
      go_roundw
      case rel=>
       refine ⟨k+1,N,rows0++[⟨A4,c4,rl++[⟨xh,xpo,xpr,xwe,xttl⟩]⟩],some ⟨g,0,none⟩,c3,by omega,by omega,by go_num,rfl,Lib.hid ?_,Lib.hid ?_,Lib.hid ?_,Lib.hid (HB4.out.setCell HGB.out _)⟩
       ·rw [List.length_append];exact HN0.out
       ·rw [HEND.out,List.map_append];rfl
       ·have:=HT4.out
        rw [←HMX.out] at this
        unfold ARow.v at this
        dsimp only at this
        rw [HLEN.out] at this
        exact this
      case measure=>simp [intOf];omega
   ·obtain ⟨K1,hK1⟩:∃ K1,K1=k - 1:=⟨_,rfl⟩
    have hK1l:K1<l.length:=by omega
    have hyf:=(hc K1 hK1l).below HB.out hb
    obtain ⟨y,hy⟩:∃ y,y=l[K1]:=⟨_,rfl⟩
    rw [←hy] at hyf
    have hlast:(l.take k).getLastD zA=y:=by
     have e:l.take k=l.take K1++[y]:=by
      rw [hy,show k=K1+1 by omega,List.take_succ_eq_append_getElem hK1l]
     rw [e];simp
    have htt:=(Srv.tiersA_tiers (l.take k)).last (fun e=>by
     have h9:(l.take k).length=0:=(congrArg List.length e)
     rw [List.length_take] at h9
     omega)
    rw [hlast,←HR.out] at htt
    have HLP:Hid (Srv.lastP ((rows.map ARow.l).getLastD [])=y.pr):=Lib.hid (by unfold Srv.lastP;rw [htt.2])
    have HNE:Hid (rows≠[]):=Lib.hid (fun e=>htt.1 (by rw [e];rfl))
    have KT:=Lib.hid (tier1G_at y ⟨xh,xpo,xpr,xwe,xttl⟩)
    have HYF:=Lib.hid hyf
    clear hy hlast htt hyf
    have hk10:(k:Int) - 1=(K1:Int):=by omega
    have hk11:IntKind.i64.wrap (K1:Int)=(K1:Int):=by rw [IntKind.wrap_i64];omega
    have hk12:(K1:Int)<(n:Int):=by omega
    have hk0':((k:Int) == 0)=false:=by rw [beq_eq_false_iff_ne];omega
    obtain ⟨yh,ypo,ypr,ywe,yttl⟩:=y
    dsimp only at HLP
    have hyg:=HYF.out
    clear hK1
    go_wp2_with fail
    rw [←HW1.out,←HG.out]
    have hb1l:b<W1.heap.size:=Nat.lt_of_lt_of_le hbr HBL.out.size
    have hG1:=HBX.out.lt
    obtain ⟨y0,y1,y2,y3,y4⟩:=(hyg.below HBL.out hbr).cells
    obtain ⟨x0,x1,x2,x3,x4⟩:=HBX.out.c5
    dsimp only at y0 y1 y2 y3 y4
    have y0':=fun n os=>cell_grown (w:=W1) hb1l y0 n os
    have y1':=fun n os=>cell_grown (w:=W1) hb1l y1 n os
    have y2':=fun n os=>cell_grown (w:=W1) hb1l y2 n os
    have y3':=fun n os=>cell_grown (w:=W1) hb1l y3 n os
    have y4':=fun n os=>cell_grown (w:=W1) hb1l y4 n os
    have x0':=fun n os=>cell_grown (w:=W1) hG1 x0 n os
    have x1':=fun n os=>cell_grown (w:=W1) hG1 x1 n os
    have x2':=fun n os=>cell_grown (w:=W1) hG1 x2 n os
    have x3':=fun n os=>cell_grown (w:=W1) hG1 x3 n os
    have x4':=fun n os=>cell_grown (w:=W1) hG1 x4 n os
    clear y0 y1 y2 y3 y4 x0 x1 x2 x3 x4 hyg
    go_quiet_grown ((go_at_call 63;exact Calls.grown_of (KT.out _)))
    clear y0' y1' y2' y3' y4' x0' x1' x2' x3' x4'
    have hgb:=below_grow W1 nq osq (Nat.le_refl _)
    have HV2:=Lib.hid (HBX.out.below hgb HBX.out.lt)
    have hb12:=HBL.out.trans (hgb.mono HBL.out.size)
    have HT2:=Lib.hid (HT.out.far hb12)
    have HB2:=Lib.hid (HB.out.trans (hb12.mono hsz))
    generalize Sort.grow (W1.drewN nq) osq=w2 at HV2 HT2 HB2 ⊢
    clear hgb hb12
    clear hk10 hk11 hk12
    (try dsimp only)
    by_cases hpr:ypr=xpr
    ·have hprb:(ypr == xpr)=true:=by rw [beq_iff_eq];exact hpr
     simp only [hprb,Bool.not_true]
     clear hprb
     obtain ⟨rows0,r,hrr⟩:∃ rows0 r,rows=rows0++[r]:=⟨rows.dropLast,rows.getLast HNE.out,(List.dropLast_concat_getLast HNE.out).symm⟩
     have hlpr:Srv.lastP r.l=xpr:=by
      have:=HLP.out
      rw [hrr,List.map_append] at this
      simp only [List.map_cons,List.map_nil,List.getLastD_concat] at this
      rw [this,hpr]
     have HEND:Hid (Srv.tiersA (l.take (k+1))=rows0.map ARow.l++[r.l++[⟨xh,xpo,xpr,xwe,xttl⟩]]):=Lib.hid (by
      rw [HTS.out,←HR.out,hrr,List.map_append]
      exact onT_old hlpr)
     have HRL:Hid (r.l.length≤2932031007317):=Lib.hid (by
      have h1:=mem_flat (show r.l∈Srv.tiersA (l.take k) by rw [←HR.out,hrr];simp)
      rw [(Srv.tiersA_tiers _).all,List.length_take] at h1
      omega)
     have HN0:Hid (rows0.length+1=m):=Lib.hid (by rw [←HN.out,hrr];simp)
     have hT3:=HT2.out
     rw [hrr] at hT3
     have HT3:=Lib.hid hT3
     have HB3:=HB2
     have HV3:=HV2
     have hNk:m≤k+1:=by omega
     clear hT3 hrr hlpr HT2 HB2 HV2 HN HR
     clear hpr
     generalize m=N at HT3 HN0 hNk ⊢
     generalize w2=w3 at HT3 HB3 HV3 ⊢
     generalize c5=c3 at HT3 ⊢
     go_upto_region 7 with fail
     obtain ⟨rA,rc,rl⟩:=r
     dsimp only at HRL HEND
     obtain ⟨g,rfl,hN,hgl,hcl,hfr⟩:=HT3.out.some_
     obtain ⟨M,hM⟩:∃ M,M=rows0.length:=⟨_,rfl⟩
     rw [←hM] at hcl hfr
     have HOr:=Lib.hid (HT3.out.own ⟨rA,rc,rl⟩ (List.mem_append_right _ (List.mem_singleton.2 rfl)))
     unfold ARow.v at hcl
     dsimp only at hcl
     have hNM:(N:Int) - 1=(M:Int):=by omega
     have hw1:IntKind.i64.wrap (M:Int)=(M:Int):=by rw [IntKind.wrap_i64];omega
     have hMN:(M:Int)<(N:Int):=by omega
     have HMX:=Lib.hid hM
     have hrl:=HRL.out
     have hsz3:=HB3.out.size
     obtain ⟨b0,b1,b2,b3,b4⟩:=HV3.out.c5
     have hG3:=HV3.out.lt
     clear hM hN
     have HSRC:=Lib.hid (srcA (P:=Tryz.prog) (w:=w3.drew) (tx:=27) Tryz.underlying27 31 5 (Ad.cells ⟨xh,xpo,xpr,xwe,xttl⟩) 1 rfl (acells_one _) (by simp))
     have hlen:(rl++[(⟨xh,xpo,xpr,xwe,xttl⟩:Ad)]).length=rl.length+1:=by simp
     have HLEN:=Lib.hid hlen
     clear hlen
     have HGB:Hid (w.heap.size≤g):=Lib.hid (Ow.lt HT3.out.out g rfl)
     refine wp_region_held_drew (S:=fun _=>True) (by kernel_rfl) trivial (fun hH=>?_)
     refine reg_take 0 (v:=?_) rfl (by kernel_rfl) (fun _ _ _ h=>h) (by rfl) trivial ?_ ?_
     rotate_left
     ·intro w hSw;(try dsimp only at hSw);go_simp;(try with_reducible rfl)
     (try simp only [Act.put,List.setIfInBounds_toArray,List.set_cons_zero,List.set_cons_succ])
     refine reg_take 1 (v:=?_) rfl (by kernel_rfl) (fun _ _ _ h=>h) (by rfl) trivial ?_ ?_
     rotate_left
     ·intro w hSw;(try dsimp only at hSw);go_simp;(try with_reducible rfl)
     (try simp only [Act.put,List.setIfInBounds_toArray,List.set_cons_zero,List.set_cons_succ])
     refine reg_take 2 (v:=?_) rfl (by kernel_rfl) (fun _ _ _ h=>h) (by rfl) trivial ?_ ?_
     rotate_left
     ·intro w hSw;(try dsimp only at hSw);go_simp;(try with_reducible rfl)
     (try simp only [Act.put,List.setIfInBounds_toArray,List.set_cons_zero,List.set_cons_succ])
     refine reg_take 3 (v:=?_) rfl (by kernel_rfl) (fun _ _ _ h=>h) (by rfl) trivial ?_ ?_
     rotate_left
     ·intro w hSw;(try dsimp only at hSw);go_simp;(try with_reducible rfl)
     (try simp only [Act.put,List.setIfInBounds_toArray,List.set_cons_zero,List.set_cons_succ])
     refine reg_take 4 (v:=?_) rfl (by kernel_rfl) (fun _ _ _ h=>h) (by rfl) trivial ?_ ?_
     rotate_left
     ·intro w hSw;(try dsimp only at hSw);go_simp;(try with_reducible rfl)
     (try simp only [Act.put,List.setIfInBounds_toArray,List.set_cons_zero,List.set_cons_succ])
     refine reg_take 5 (v:=?_) rfl (by kernel_rfl) (fun _ _ _ h=>h) (by rfl) trivial ?_ ?_
     rotate_left
     ·intro w hSw;(try dsimp only at hSw);go_simp;(try with_reducible rfl)
     (try simp only [Act.put,List.setIfInBounds_toArray,List.set_cons_zero,List.set_cons_succ])
     refine reg_take 6 (v:=?_) rfl (by kernel_rfl) (fun _ _ _ h=>h) (by rfl) trivial ?_ ?_
     rotate_left
     ·intro w hSw;(try dsimp only at hSw);go_simp;(try with_reducible rfl)
     (try simp only [Act.put,List.setIfInBounds_toArray,List.set_cons_zero,List.set_cons_succ])
     refine reg_take 7 (v:=?_) rfl (by kernel_rfl) (fun _ _ _ h=>h) (by rfl) trivial ?_ ?_
     rotate_left
     ·intro w hSw;(try dsimp only at hSw);go_simp;(try with_reducible rfl)
     (try simp only [Act.put,List.setIfInBounds_toArray,List.set_cons_zero,List.set_cons_succ])
     refine reg_take 8 (v:=?_) rfl (by kernel_rfl) (fun _ _ _ h=>h) (by rfl) trivial ?_ ?_
     rotate_left
     ·intro w hSw;(try dsimp only at hSw);go_simp;(try with_reducible rfl)
     (try simp only [Act.put,List.setIfInBounds_toArray,List.set_cons_zero,List.set_cons_succ])
     refine wpAnyH_ready (rs:=[9,10]) (by kernel_rfl) (by simp) ?_
     refine reg_cons 9 rfl (fun K' hK=>?_) (reg_cons 10 rfl (fun K' hK=>?_) (AllReadyH.nil))
     ·go_simp
      refine hK.out _ _ trivial (fun hH=>?_)
      (try simp only [Act.put,List.setIfInBounds_toArray,List.set_cons_zero,List.set_cons_succ])
      clear hK
      refine wpAnyH_ready (rs:=[10]) (by kernel_rfl) (by simp) ?_
      refine reg_cons 10 rfl (fun K' hK=>?_) (AllReadyH.nil)
      go_simp
      refine hK.out _ _ trivial (fun hH=>?_)
      (try simp only [Act.put,List.setIfInBounds_toArray,List.set_cons_zero,List.set_cons_succ])
      clear hK
      refine wpAnyH_ready (rs:=[11]) (by kernel_rfl) (by simp) ?_
      refine reg_cons 11 rfl (fun K' hK=>?_) (AllReadyH.nil)
      go_simp
      refine hK.out _ _ trivial (fun hH=>?_)
      (try simp only [Act.put,List.setIfInBounds_toArray,List.set_cons_zero,List.set_cons_succ])
      clear hK
      refine wpAnyH_ready (rs:=[12]) (by kernel_rfl) (by simp) ?_
      refine reg_cons 12 rfl (fun K' hK=>?_) (AllReadyH.nil)
      refine step_appM rfl _ _ _ _ rfl w.heap.size 5 31 j0 (.agg zA.cells.toArray) 48 Tryz.underlying27 hj' hy0 hy1 hy2 rfl (by omega) (.slice rA rl.length rc) rl.length (acs rl) ((OwM.drew HOr.out).alloc _) rfl (.slice (some ⟨w3.heap.size,0,none⟩) 1 1) rfl 1 (Ad.cells ⟨xh,xpo,xpr,xwe,xttl⟩) HSRC.out (by omega) (by simp;omega) ?_
      intro v4 w4 ho4 hg4 hz4
      obtain ⟨A4,c4,rfl,hc4,_,_⟩:=ho4.form
      refine hK.out _ _ trivial (fun hH=>?_)
      (try simp only [Act.put,List.setIfInBounds_toArray,List.set_cons_zero,List.set_cons_succ])
      clear hK
      have hg5:Gr (w3.drew.alloc (.cells #[.string ⟨xh.toArray⟩,.int .i64 xpo,.int .i64 xpr,.int .i64 xwe,.int .u32 (xttl:Int)] 31)) w4 (ARow.v ⟨rA,rc,rl⟩) (ARow.v ⟨A4,c4,rl++[⟨xh,xpo,xpr,xwe,xttl⟩]⟩):=by
       unfold ARow.v
       dsimp only
       rw [HLEN.out]
       exact hg4
      have ho5:OwM w4 w.heap.size 31 5 (ARow.v ⟨A4,c4,rl++[⟨xh,xpo,xpr,xwe,xttl⟩]⟩) (rl++[(⟨xh,xpo,xpr,xwe,xttl⟩:Ad)]).length (acs (rl++[⟨xh,xpo,xpr,xwe,xttl⟩])):=by
       unfold ARow.v
       dsimp only
       rw [HLEN.out,acs_snoc]
       exact ho4
      have HT4:=Lib.hid (TSt.last (r':=⟨A4,c4,rl++[⟨xh,xpo,xpr,xwe,xttl⟩]⟩) (HT3.out.far ((bl_drew w3).alloc (Nat.le_refl _) (.cells #[.string ⟨xh.toArray⟩,.int .i64 xpo,.int .i64 xpr,.int .i64 xwe,.int .u32 (xttl:Int)] 31))) hg5 ho5)
      have hkeep:w4.cell? ⟨g,M,none⟩=some (.slice rA rl.length rc)∧w4.frozen? ⟨g,M,none⟩=false:=by
       have hne:some g≠(Value.slice rA rl.length rc).ownBlock:=fun e=>HT3.out.off ⟨rA,rc,rl⟩ (List.mem_append_right _ (List.mem_singleton.2 rfl)) g e.symm rfl
       have hbk:w4.heap[g]? = w3.heap[g]?:=(hg4.1.block g (by simp;omega) hne).trans (Below.heap_alloc w3.drew (.cells #[.string ⟨xh.toArray⟩,.int .i64 xpo,.int .i64 xpr,.int .i64 xwe,.int .u32 (xttl:Int)] 31) g hgl)
       exact ⟨(World.cell?_of_block hbk).trans hcl,(frozen_of_blockA hbk).trans hfr⟩
      obtain ⟨hk4,hf4⟩:=hkeep
      have hb34:Below w.heap.size w w4:=((HB3.out.trans ((bl_drew w3).mono hsz3)).alloc hsz3 (.cells #[.string ⟨xh.toArray⟩,.int .i64 xpo,.int .i64 xpr,.int .i64 xwe,.int .u32 (xttl:Int)] 31)).trans (hg4.below (OwM.lt HOr.out) (by simp;omega))
      have HB4:=Lib.hid hb34
      clear ho4 hg4 ho5 hg5 hb34 hc4
      refine reg_take 13 (v:=?_) rfl (by kernel_rfl) (fun _ _ _ h=>h) (by rfl) trivial ?_ ?_
      rotate_left
      ·intro w hSw;(try dsimp only at hSw);go_simp;(try with_reducible rfl)
      (try simp only [Act.put,List.setIfInBounds_toArray,List.set_cons_zero,List.set_cons_succ])
      refine wpAnyH_ready (rs:=[14]) (by kernel_rfl) (by simp) ?_
      refine reg_cons 14 rfl (fun K' hK=>?_) AllReadyH.nil
      go_simp
      refine hK.out _ _ trivial (fun hH=>?_)
      (try simp only [Act.put,List.setIfInBounds_toArray,List.set_cons_zero,List.set_cons_succ])
      clear hK
      refine wpAnyH_done (by kernel_rfl) ?_ _
      go_wp2_with fail
      go_roundw
      case rel=>
       refine ⟨k+1,N,rows0++[⟨A4,c4,rl++[⟨xh,xpo,xpr,xwe,xttl⟩]⟩],some ⟨g,0,none⟩,c3,by omega,by omega,by go_num,rfl,Lib.hid ?_,Lib.hid ?_,Lib.hid ?_,Lib.hid (HB4.out.setCell HGB.out _)⟩
       ·rw [List.length_append];exact HN0.out
       ·rw [HEND.out,List.map_append];rfl
       ·have:=HT4.out
        rw [←HMX.out] at this
        unfold ARow.v at this
        dsimp only at this
        rw [HLEN.out] at this
        exact this
      case measure=>simp [intOf];omega
     ·go_simp
      refine hK.out _ _ trivial (fun hH=>?_)
      (try simp only [Act.put,List.setIfInBounds_toArray,List.set_cons_zero,List.set_cons_succ])
      clear hK
      refine wpAnyH_ready (rs:=[9,11]) (by kernel_rfl) (by simp) ?_
      refine reg_cons 9 rfl (fun K' hK=>?_) (reg_cons 11 rfl (fun K' hK=>?_) (AllReadyH.nil))
      ·go_simp
       refine hK.out _ _ trivial (fun hH=>?_)
       (try simp only [Act.put,List.setIfInBounds_toArray,List.set_cons_zero,List.set_cons_succ])
       clear hK
       refine wpAnyH_ready (rs:=[11]) (by kernel_rfl) (by simp) ?_
       refine reg_cons 11 rfl (fun K' hK=>?_) (AllReadyH.nil)
       go_simp
       refine hK.out _ _ trivial (fun hH=>?_)
       (try simp only [Act.put,List.setIfInBounds_toArray,List.set_cons_zero,List.set_cons_succ])
       clear hK
       refine wpAnyH_ready (rs:=[12]) (by kernel_rfl) (by simp) ?_
       refine reg_cons 12 rfl (fun K' hK=>?_) (AllReadyH.nil)
       refine step_appM rfl _ _ _ _ rfl w.heap.size 5 31 j0 (.agg zA.cells.toArray) 48 Tryz.underlying27 hj' hy0 hy1 hy2 rfl (by omega) (.slice rA rl.length rc) rl.length (acs rl) ((OwM.drew HOr.out).alloc _) rfl (.slice (some ⟨w3.heap.size,0,none⟩) 1 1) rfl 1 (Ad.cells ⟨xh,xpo,xpr,xwe,xttl⟩) HSRC.out (by omega) (by simp;omega) ?_
       intro v4 w4 ho4 hg4 hz4
       obtain ⟨A4,c4,rfl,hc4,_,_⟩:=ho4.form
       refine hK.out _ _ trivial (fun hH=>?_)
       (try simp only [Act.put,List.setIfInBounds_toArray,List.set_cons_zero,List.set_cons_succ])
       clear hK
       have hg5:Gr (w3.drew.alloc (.cells #[.string ⟨xh.toArray⟩,.int .i64 xpo,.int .i64 xpr,.int .i64 xwe,.int .u32 (xttl:Int)] 31)) w4 (ARow.v ⟨rA,rc,rl⟩) (ARow.v ⟨A4,c4,rl++[⟨xh,xpo,xpr,xwe,xttl⟩]⟩):=by
        unfold ARow.v
        dsimp only
        rw [HLEN.out]
        exact hg4
       have ho5:OwM w4 w.heap.size 31 5 (ARow.v ⟨A4,c4,rl++[⟨xh,xpo,xpr,xwe,xttl⟩]⟩) (rl++[(⟨xh,xpo,xpr,xwe,xttl⟩:Ad)]).length (acs (rl++[⟨xh,xpo,xpr,xwe,xttl⟩])):=by
        unfold ARow.v
        dsimp only
        rw [HLEN.out,acs_snoc]
        exact ho4
       have HT4:=Lib.hid (TSt.last (r':=⟨A4,c4,rl++[⟨xh,xpo,xpr,xwe,xttl⟩]⟩) (HT3.out.far ((bl_drew w3).alloc (Nat.le_refl _) (.cells #[.string ⟨xh.toArray⟩,.int .i64 xpo,.int .i64 xpr,.int .i64 xwe,.int .u32 (xttl:Int)] 31))) hg5 ho5)
       have hkeep:w4.cell? ⟨g,M,none⟩=some (.slice rA rl.length rc)∧w4.frozen? ⟨g,M,none⟩=false:=by
        have hne:some g≠(Value.slice rA rl.length rc).ownBlock:=fun e=>HT3.out.off ⟨rA,rc,rl⟩ (List.mem_append_right _ (List.mem_singleton.2 rfl)) g e.symm rfl
        have hbk:w4.heap[g]? = w3.heap[g]?:=(hg4.1.block g (by simp;omega) hne).trans (Below.heap_alloc w3.drew (.cells #[.string ⟨xh.toArray⟩,.int .i64 xpo,.int .i64 xpr,.int .i64 xwe,.int .u32 (xttl:Int)] 31) g hgl)
        exact ⟨(World.cell?_of_block hbk).trans hcl,(frozen_of_blockA hbk).trans hfr⟩
       obtain ⟨hk4,hf4⟩:=hkeep
       have hb34:Below w.heap.size w w4:=((HB3.out.trans ((bl_drew w3).mono hsz3)).alloc hsz3 (.cells #[.string ⟨xh.toArray⟩,.int .i64 xpo,.int .i64 xpr,.int .i64 xwe,.int .u32 (xttl:Int)] 31)).trans (hg4.below (OwM.lt HOr.out) (by simp;omega))
       have HB4:=Lib.hid hb34
       clear ho4 hg4 ho5 hg5 hb34 hc4
       refine reg_take 13 (v:=?_) rfl (by kernel_rfl) (fun _ _ _ h=>h) (by rfl) trivial ?_ ?_
       rotate_left
       ·intro w hSw;(try dsimp only at hSw);go_simp;(try with_reducible rfl)
       (try simp only [Act.put,List.setIfInBounds_toArray,List.set_cons_zero,List.set_cons_succ])
       refine wpAnyH_ready (rs:=[14]) (by kernel_rfl) (by simp) ?_
       refine reg_cons 14 rfl (fun K' hK=>?_) AllReadyH.nil
       go_simp
       refine hK.out _ _ trivial (fun hH=>?_)
       (try simp only [Act.put,List.setIfInBounds_toArray,List.set_cons_zero,List.set_cons_succ])
       clear hK
       refine wpAnyH_done (by kernel_rfl) ?_ _
       go_wp2_with fail
       go_roundw
       case rel=>
        refine ⟨k+1,N,rows0++[⟨A4,c4,rl++[⟨xh,xpo,xpr,xwe,xttl⟩]⟩],some ⟨g,0,none⟩,c3,by omega,by omega,by go_num,rfl,Lib.hid ?_,Lib.hid ?_,Lib.hid ?_,Lib.hid (HB4.out.setCell HGB.out _)⟩
        ·rw [List.length_append];exact HN0.out
        ·rw [HEND.out,List.map_append];rfl
        ·have:=HT4.out
         rw [←HMX.out] at this
         unfold ARow.v at this
         dsimp only at this
         rw [HLEN.out] at this
         exact this
       case measure=>simp [intOf];omega
      ·go_simp
       refine hK.out _ _ trivial (fun hH=>?_)
       (try simp only [Act.put,List.setIfInBounds_toArray,List.set_cons_zero,List.set_cons_succ])
       clear hK
       refine wpAnyH_ready (rs:=[9]) (by kernel_rfl) (by simp) ?_
       refine reg_cons 9 rfl (fun K' hK=>?_) (AllReadyH.nil)
       go_simp
       refine hK.out _ _ trivial (fun hH=>?_)
       (try simp only [Act.put,List.setIfInBounds_toArray,List.set_cons_zero,List.set_cons_succ])
       clear hK
       refine wpAnyH_ready (rs:=[12]) (by kernel_rfl) (by simp) ?_
       refine reg_cons 12 rfl (fun K' hK=>?_) (AllReadyH.nil)
       refine step_appM rfl _ _ _ _ rfl w.heap.size 5 31 j0 (.agg zA.cells.toArray) 48 Tryz.underlying27 hj' hy0 hy1 hy2 rfl (by omega) (.slice rA rl.length rc) rl.length (acs rl) ((OwM.drew HOr.out).alloc _) rfl (.slice (some ⟨w3.heap.size,0,none⟩) 1 1) rfl 1 (Ad.cells ⟨xh,xpo,xpr,xwe,xttl⟩) HSRC.out (by omega) (by simp;omega) ?_
       intro v4 w4 ho4 hg4 hz4
       obtain ⟨A4,c4,rfl,hc4,_,_⟩:=ho4.form
       refine hK.out _ _ trivial (fun hH=>?_)
       (try simp only [Act.put,List.setIfInBounds_toArray,List.set_cons_zero,List.set_cons_succ])
       clear hK
       have hg5:Gr (w3.drew.alloc (.cells #[.string ⟨xh.toArray⟩,.int .i64 xpo,.int .i64 xpr,.int .i64 xwe,.int .u32 (xttl:Int)] 31)) w4 (ARow.v ⟨rA,rc,rl⟩) (ARow.v ⟨A4,c4,rl++[⟨xh,xpo,xpr,xwe,xttl⟩]⟩):=by
        unfold ARow.v
        dsimp only
        rw [HLEN.out]
        exact hg4
       have ho5:OwM w4 w.heap.size 31 5 (ARow.v ⟨A4,c4,rl++[⟨xh,xpo,xpr,xwe,xttl⟩]⟩) (rl++[(⟨xh,xpo,xpr,xwe,xttl⟩:Ad)]).length (acs (rl++[⟨xh,xpo,xpr,xwe,xttl⟩])):=by
        unfold ARow.v
        dsimp only
        rw [HLEN.out,acs_snoc]
        exact ho4
       have HT4:=Lib.hid (TSt.last (r':=⟨A4,c4,rl++[⟨xh,xpo,xpr,xwe,xttl⟩]⟩) (HT3.out.far ((bl_drew w3).alloc (Nat.le_refl _) (.cells #[.string ⟨xh.toArray⟩,.int .i64 xpo,.int .i64 xpr,.int .i64 xwe,.int .u32 (xttl:Int)] 31))) hg5 ho5)
       have hkeep:w4.cell? ⟨g,M,none⟩=some (.slice rA rl.length rc)∧w4.frozen? ⟨g,M,none⟩=false:=by
        have hne:some g≠(Value.slice rA rl.length rc).ownBlock:=fun e=>HT3.out.off ⟨rA,rc,rl⟩ (List.mem_append_right _ (List.mem_singleton.2 rfl)) g e.symm rfl
        have hbk:w4.heap[g]? = w3.heap[g]?:=(hg4.1.block g (by simp;omega) hne).trans (Below.heap_alloc w3.drew (.cells #[.string ⟨xh.toArray⟩,.int .i64 xpo,.int .i64 xpr,.int .i64 xwe,.int .u32 (xttl:Int)] 31) g hgl)
        exact ⟨(World.cell?_of_block hbk).trans hcl,(frozen_of_blockA hbk).trans hfr⟩
       obtain ⟨hk4,hf4⟩:=hkeep
       have hb34:Below w.heap.size w w4:=((HB3.out.trans ((bl_drew w3).mono hsz3)).alloc hsz3 (.cells #[.string ⟨xh.toArray⟩,.int .i64 xpo,.int .i64 xpr,.int .i64 xwe,.int .u32 (xttl:Int)] 31)).trans (hg4.below (OwM.lt HOr.out) (by simp;omega))
       have HB4:=Lib.hid hb34
       clear ho4 hg4 ho5 hg5 hb34 hc4
       refine reg_take 13 (v:=?_) rfl (by kernel_rfl) (fun _ _ _ h=>h) (by rfl) trivial ?_ ?_
       rotate_left
       ·intro w hSw;(try dsimp only at hSw);go_simp;(try with_reducible rfl)
       (try simp only [Act.put,List.setIfInBounds_toArray,List.set_cons_zero,List.set_cons_succ])
       refine wpAnyH_ready (rs:=[14]) (by kernel_rfl) (by simp) ?_
       refine reg_cons 14 rfl (fun K' hK=>?_) AllReadyH.nil
       go_simp
       refine hK.out _ _ trivial (fun hH=>?_)
       (try simp only [Act.put,List.setIfInBounds_toArray,List.set_cons_zero,List.set_cons_succ])
       clear hK
       refine wpAnyH_done (by kernel_rfl) ?_ _
       go_wp2_with fail
       go_roundw
       case rel=>
        refine ⟨k+1,N,rows0++[⟨A4,c4,rl++[⟨xh,xpo,xpr,xwe,xttl⟩]⟩],some ⟨g,0,none⟩,c3,by omega,by omega,by go_num,rfl,Lib.hid ?_,Lib.hid ?_,Lib.hid ?_,Lib.hid (HB4.out.setCell HGB.out _)⟩
        ·rw [List.length_append];exact HN0.out
        ·rw [HEND.out,List.map_append];rfl
        ·have:=HT4.out
         rw [←HMX.out] at this
         unfold ARow.v at this
         dsimp only at this
         rw [HLEN.out] at this
         exact this
       case measure=>simp [intOf];omega
    ·have hprb:(ypr == xpr)=false:=by rw [beq_eq_false_iff_ne];exact hpr
     simp only [hprb,Bool.not_false]
     clear hprb
     have HNEW:Hid ((rows.map ARow.l).length=0∨Srv.lastP ((rows.map ARow.l).getLastD [])≠xpr):=Lib.hid (.inr (by rw [HLP.out];exact hpr))
     have hsz2:=HB2.out.size
     go_upto_region 7 with (at_builtin;refine wpList_app _ rfl _ _ _ _ rfl w.heap.size 27 i0 (.slice none 0 0) 24 Tryz.underlying55 hI hz0 hz1 hz2 rfl (by omega) _ _ (HT2.out.out.alloc _) rfl 1 [.slice none 0 0] (one_src Tryz.underlying55 _ rfl) (by rw [List.length_map,HN.out];omega) (by simp;omega) ?_;intro v3 w3 ho3 hg3 hz3;obtain ⟨A3,c3,rfl,hc3,hr3⟩:=ho3.form6 (m+1) (by rw [List.length_append,List.length_map,HN.out];rfl);have HO3:=Lib.hid ho3;clear ho3 hr3)
     have hGo:∀ q,(Value.slice A5 m c5).ownBlock=some q→q<G:=fun q hq=>by have:=ow_block_lt HT.out.out q hq;omega
     have HV3:=Lib.hid ((HV2.out.alloc (.cells #[.slice none 0 0] 27)).grown hg3.1 (by intro e;have:=hGo G e.symm;omega))
     have HB3:=Lib.hid ((HB2.out.alloc hsz2 (.cells #[.slice none 0 0] 27)).trans (hg3.below (Ow.lt HT2.out.out) (by simp;omega)))
     have HT3:=Lib.hid ((HT2.out.far (bl_new w2 (.cells #[.slice none 0 0] 27))).push hg3 HO3.out)
     obtain ⟨r,hr⟩:∃ r:ARow,r=⟨none,0,[]⟩:=⟨_,rfl⟩
     have HRL:Hid (r.l.length≤2932031007317):=Lib.hid (by rw [hr];simp)
     have HEND:Hid (Srv.tiersA (l.take (k+1))=rows.map ARow.l++[r.l++[⟨xh,xpo,xpr,xwe,xttl⟩]]):=Lib.hid (by rw [HTS.out,←HR.out,hr];exact onT_new HNEW.out)
     have hNk:m+1≤k+1:=by omega
     obtain ⟨rows0,hrows0⟩:∃ q,q=rows:=⟨_,rfl⟩
     have HN0:Hid (rows0.length+1=m+1):=Lib.hid (by rw [hrows0,HN.out])
     rw [←hrows0] at HT3 HEND
     clear hrows0 hg3 HO3 hz3 hc3 HV2 HT2 HB2 hsz2 hGo
     generalize m+1=N at HT3 HN0 hNk ⊢
     rw [←hr] at HT3
     clear hr
     obtain ⟨rA,rc,rl⟩:=r
     dsimp only at HRL HEND
     obtain ⟨g,rfl,hN,hgl,hcl,hfr⟩:=HT3.out.some_
     obtain ⟨M,hM⟩:∃ M,M=rows0.length:=⟨_,rfl⟩
     rw [←hM] at hcl hfr
     have HOr:=Lib.hid (HT3.out.own ⟨rA,rc,rl⟩ (List.mem_append_right _ (List.mem_singleton.2 rfl)))
     unfold ARow.v at hcl
     dsimp only at hcl
     have hNM:(N:Int) - 1=(M:Int):=by omega
     have hw1:IntKind.i64.wrap (M:Int)=(M:Int):=by rw [IntKind.wrap_i64];omega
     have hMN:(M:Int)<(N:Int):=by omega
     have HMX:=Lib.hid hM
     have hrl:=HRL.out
     have hsz3:=HB3.out.size
     obtain ⟨b0,b1,b2,b3,b4⟩:=HV3.out.c5
     have hG3:=HV3.out.lt
     clear hM hN
     have HSRC:=Lib.hid (srcA (P:=Tryz.prog) (w:=w3.drew) (tx:=27) Tryz.underlying27 31 5 (Ad.cells ⟨xh,xpo,xpr,xwe,xttl⟩) 1 rfl (acells_one _) (by simp))
     have hlen:(rl++[(⟨xh,xpo,xpr,xwe,xttl⟩:Ad)]).length=rl.length+1:=by simp
     have HLEN:=Lib.hid hlen
     clear hlen
     have HGB:Hid (w.heap.size≤g):=Lib.hid (Ow.lt HT3.out.out g rfl)
     refine wp_region_held_drew (S:=fun _=>True) (by kernel_rfl) trivial (fun hH=>?_)
     refine reg_take 0 (v:=?_) rfl (by kernel_rfl) (fun _ _ _ h=>h) (by rfl) trivial ?_ ?_
     rotate_left
     ·intro w hSw;(try dsimp only at hSw);go_simp;(try with_reducible rfl)
     (try simp only [Act.put,List.setIfInBounds_toArray,List.set_cons_zero,List.set_cons_succ])
     refine reg_take 1 (v:=?_) rfl (by kernel_rfl) (fun _ _ _ h=>h) (by rfl) trivial ?_ ?_
     rotate_left
     ·intro w hSw;(try dsimp only at hSw);go_simp;(try with_reducible rfl)
     (try simp only [Act.put,List.setIfInBounds_toArray,List.set_cons_zero,List.set_cons_succ])
     refine reg_take 2 (v:=?_) rfl (by kernel_rfl) (fun _ _ _ h=>h) (by rfl) trivial ?_ ?_
     rotate_left
     ·intro w hSw;(try dsimp only at hSw);go_simp;(try with_reducible rfl)
     (try simp only [Act.put,List.setIfInBounds_toArray,List.set_cons_zero,List.set_cons_succ])
     refine reg_take 3 (v:=?_) rfl (by kernel_rfl) (fun _ _ _ h=>h) (by rfl) trivial ?_ ?_
     rotate_left
     ·intro w hSw;(try dsimp only at hSw);go_simp;(try with_reducible rfl)
     (try simp only [Act.put,List.setIfInBounds_toArray,List.set_cons_zero,List.set_cons_succ])
     refine reg_take 4 (v:=?_) rfl (by kernel_rfl) (fun _ _ _ h=>h) (by rfl) trivial ?_ ?_
     rotate_left
     ·intro w hSw;(try dsimp only at hSw);go_simp;(try with_reducible rfl)
     (try simp only [Act.put,List.setIfInBounds_toArray,List.set_cons_zero,List.set_cons_succ])
     refine reg_take 5 (v:=?_) rfl (by kernel_rfl) (fun _ _ _ h=>h) (by rfl) trivial ?_ ?_
     rotate_left
     ·intro w hSw;(try dsimp only at hSw);go_simp;(try with_reducible rfl)
     (try simp only [Act.put,List.setIfInBounds_toArray,List.set_cons_zero,List.set_cons_succ])
     refine reg_take 6 (v:=?_) rfl (by kernel_rfl) (fun _ _ _ h=>h) (by rfl) trivial ?_ ?_
     rotate_left
     ·intro w hSw;(try dsimp only at hSw);go_simp;(try with_reducible rfl)
     (try simp only [Act.put,List.setIfInBounds_toArray,List.set_cons_zero,List.set_cons_succ])
     refine reg_take 7 (v:=?_) rfl (by kernel_rfl) (fun _ _ _ h=>h) (by rfl) trivial ?_ ?_
     rotate_left
     ·intro w hSw;(try dsimp only at hSw);go_simp;(try with_reducible rfl)
     (try simp only [Act.put,List.setIfInBounds_toArray,List.set_cons_zero,List.set_cons_succ])
     refine reg_take 8 (v:=?_) rfl (by kernel_rfl) (fun _ _ _ h=>h) (by rfl) trivial ?_ ?_
     rotate_left
     ·intro w hSw;(try dsimp only at hSw);go_simp;(try with_reducible rfl)
     (try simp only [Act.put,List.setIfInBounds_toArray,List.set_cons_zero,List.set_cons_succ])
     refine wpAnyH_ready (rs:=[9,10]) (by kernel_rfl) (by simp) ?_
     refine reg_cons 9 rfl (fun K' hK=>?_) (reg_cons 10 rfl (fun K' hK=>?_) (AllReadyH.nil))
     ·go_simp
      refine hK.out _ _ trivial (fun hH=>?_)
      (try simp only [Act.put,List.setIfInBounds_toArray,List.set_cons_zero,List.set_cons_succ])
      clear hK
      refine wpAnyH_ready (rs:=[10]) (by kernel_rfl) (by simp) ?_
      refine reg_cons 10 rfl (fun K' hK=>?_) (AllReadyH.nil)
      go_simp
      refine hK.out _ _ trivial (fun hH=>?_)
      (try simp only [Act.put,List.setIfInBounds_toArray,List.set_cons_zero,List.set_cons_succ])
      clear hK
      refine wpAnyH_ready (rs:=[11]) (by kernel_rfl) (by simp) ?_
      refine reg_cons 11 rfl (fun K' hK=>?_) (AllReadyH.nil)
      go_simp
      refine hK.out _ _ trivial (fun hH=>?_)
      (try simp only [Act.put,List.setIfInBounds_toArray,List.set_cons_zero,List.set_cons_succ])
      clear hK
      refine wpAnyH_ready (rs:=[12]) (by kernel_rfl) (by simp) ?_
      refine reg_cons 12 rfl (fun K' hK=>?_) (AllReadyH.nil)
      refine step_appM rfl _ _ _ _ rfl w.heap.size 5 31 j0 (.agg zA.cells.toArray) 48 Tryz.underlying27 hj' hy0 hy1 hy2 rfl (by omega) (.slice rA rl.length rc) rl.length (acs rl) ((OwM.drew HOr.out).alloc _) rfl (.slice (some ⟨w3.heap.size,0,none⟩) 1 1) rfl 1 (Ad.cells ⟨xh,xpo,xpr,xwe,xttl⟩) HSRC.out (by omega) (by simp;omega) ?_
      intro v4 w4 ho4 hg4 hz4
      obtain ⟨A4,c4,rfl,hc4,_,_⟩:=ho4.form
      refine hK.out _ _ trivial (fun hH=>?_)
      (try simp only [Act.put,List.setIfInBounds_toArray,List.set_cons_zero,List.set_cons_succ])
      clear hK
      have hg5:Gr (w3.drew.alloc (.cells #[.string ⟨xh.toArray⟩,.int .i64 xpo,.int .i64 xpr,.int .i64 xwe,.int .u32 (xttl:Int)] 31)) w4 (ARow.v ⟨rA,rc,rl⟩) (ARow.v ⟨A4,c4,rl++[⟨xh,xpo,xpr,xwe,xttl⟩]⟩):=by
       unfold ARow.v
       dsimp only
       rw [HLEN.out]
       exact hg4
      have ho5:OwM w4 w.heap.size 31 5 (ARow.v ⟨A4,c4,rl++[⟨xh,xpo,xpr,xwe,xttl⟩]⟩) (rl++[(⟨xh,xpo,xpr,xwe,xttl⟩:Ad)]).length (acs (rl++[⟨xh,xpo,xpr,xwe,xttl⟩])):=by
       unfold ARow.v
       dsimp only
       rw [HLEN.out,acs_snoc]
       exact ho4
      have HT4:=Lib.hid (TSt.last (r':=⟨A4,c4,rl++[⟨xh,xpo,xpr,xwe,xttl⟩]⟩) (HT3.out.far ((bl_drew w3).alloc (Nat.le_refl _) (.cells #[.string ⟨xh.toArray⟩,.int .i64 xpo,.int .i64 xpr,.int .i64 xwe,.int .u32 (xttl:Int)] 31))) hg5 ho5)
      have hkeep:w4.cell? ⟨g,M,none⟩=some (.slice rA rl.length rc)∧w4.frozen? ⟨g,M,none⟩=false:=by
       have hne:some g≠(Value.slice rA rl.length rc).ownBlock:=fun e=>HT3.out.off ⟨rA,rc,rl⟩ (List.mem_append_right _ (List.mem_singleton.2 rfl)) g e.symm rfl
       have hbk:w4.heap[g]? = w3.heap[g]?:=(hg4.1.block g (by simp;omega) hne).trans (Below.heap_alloc w3.drew (.cells #[.string ⟨xh.toArray⟩,.int .i64 xpo,.int .i64 xpr,.int .i64 xwe,.int .u32 (xttl:Int)] 31) g hgl)
       exact ⟨(World.cell?_of_block hbk).trans hcl,(frozen_of_blockA hbk).trans hfr⟩
      obtain ⟨hk4,hf4⟩:=hkeep
      have hb34:Below w.heap.size w w4:=((HB3.out.trans ((bl_drew w3).mono hsz3)).alloc hsz3 (.cells #[.string ⟨xh.toArray⟩,.int .i64 xpo,.int .i64 xpr,.int .i64 xwe,.int .u32 (xttl:Int)] 31)).trans (hg4.below (OwM.lt HOr.out) (by simp;omega))
      have HB4:=Lib.hid hb34
      clear ho4 hg4 ho5 hg5 hb34 hc4
      refine reg_take 13 (v:=?_) rfl (by kernel_rfl) (fun _ _ _ h=>h) (by rfl) trivial ?_ ?_
      rotate_left
      ·intro w hSw;(try dsimp only at hSw);go_simp;(try with_reducible rfl)
      (try simp only [Act.put,List.setIfInBounds_toArray,List.set_cons_zero,List.set_cons_succ])
      refine wpAnyH_ready (rs:=[14]) (by kernel_rfl) (by simp) ?_
      refine reg_cons 14 rfl (fun K' hK=>?_) AllReadyH.nil
      go_simp
      refine hK.out _ _ trivial (fun hH=>?_)
      (try simp only [Act.put,List.setIfInBounds_toArray,List.set_cons_zero,List.set_cons_succ])
      clear hK
      refine wpAnyH_done (by kernel_rfl) ?_ _
      go_wp2_with fail
      go_roundw
      case rel=>
       refine ⟨k+1,N,rows0++[⟨A4,c4,rl++[⟨xh,xpo,xpr,xwe,xttl⟩]⟩],some ⟨g,0,none⟩,c3,by omega,by omega,by go_num,rfl,Lib.hid ?_,Lib.hid ?_,Lib.hid ?_,Lib.hid (HB4.out.setCell HGB.out _)⟩
       ·rw [List.length_append];exact HN0.out
       ·rw [HEND.out,List.map_append];rfl
       ·have:=HT4.out
        rw [←HMX.out] at this
        unfold ARow.v at this
        dsimp only at this
        rw [HLEN.out] at this
        exact this
      case measure=>simp [intOf];omega
     ·go_simp
      refine hK.out _ _ trivial (fun hH=>?_)
      (try simp only [Act.put,List.setIfInBounds_toArray,List.set_cons_zero,List.set_cons_succ])
      clear hK
      refine wpAnyH_ready (rs:=[9,11]) (by kernel_rfl) (by simp) ?_
      refine reg_cons 9 rfl (fun K' hK=>?_) (reg_cons 11 rfl (fun K' hK=>?_) (AllReadyH.nil))
      ·go_simp
       refine hK.out _ _ trivial (fun hH=>?_)
       (try simp only [Act.put,List.setIfInBounds_toArray,List.set_cons_zero,List.set_cons_succ])
       clear hK
       refine wpAnyH_ready (rs:=[11]) (by kernel_rfl) (by simp) ?_
       refine reg_cons 11 rfl (fun K' hK=>?_) (AllReadyH.nil)
       go_simp
       refine hK.out _ _ trivial (fun hH=>?_)
       (try simp only [Act.put,List.setIfInBounds_toArray,List.set_cons_zero,List.set_cons_succ])
       clear hK
       refine wpAnyH_ready (rs:=[12]) (by kernel_rfl) (by simp) ?_
       refine reg_cons 12 rfl (fun K' hK=>?_) (AllReadyH.nil)
       refine step_appM rfl _ _ _ _ rfl w.heap.size 5 31 j0 (.agg zA.cells.toArray) 48 Tryz.underlying27 hj' hy0 hy1 hy2 rfl (by omega) (.slice rA rl.length rc) rl.length (acs rl) ((OwM.drew HOr.out).alloc _) rfl (.slice (some ⟨w3.heap.size,0,none⟩) 1 1) rfl 1 (Ad.cells ⟨xh,xpo,xpr,xwe,xttl⟩) HSRC.out (by omega) (by simp;omega) ?_
       intro v4 w4 ho4 hg4 hz4
       obtain ⟨A4,c4,rfl,hc4,_,_⟩:=ho4.form
       refine hK.out _ _ trivial (fun hH=>?_)
       (try simp only [Act.put,List.setIfInBounds_toArray,List.set_cons_zero,List.set_cons_succ])
       clear hK
       have hg5:Gr (w3.drew.alloc (.cells #[.string ⟨xh.toArray⟩,.int .i64 xpo,.int .i64 xpr,.int .i64 xwe,.int .u32 (xttl:Int)] 31)) w4 (ARow.v ⟨rA,rc,rl⟩) (ARow.v ⟨A4,c4,rl++[⟨xh,xpo,xpr,xwe,xttl⟩]⟩):=by
        unfold ARow.v
        dsimp only
        rw [HLEN.out]
        exact hg4
       have ho5:OwM w4 w.heap.size 31 5 (ARow.v ⟨A4,c4,rl++[⟨xh,xpo,xpr,xwe,xttl⟩]⟩) (rl++[(⟨xh,xpo,xpr,xwe,xttl⟩:Ad)]).length (acs (rl++[⟨xh,xpo,xpr,xwe,xttl⟩])):=by
        unfold ARow.v
        dsimp only
        rw [HLEN.out,acs_snoc]
        exact ho4
       have HT4:=Lib.hid (TSt.last (r':=⟨A4,c4,rl++[⟨xh,xpo,xpr,xwe,xttl⟩]⟩) (HT3.out.far ((bl_drew w3).alloc (Nat.le_refl _) (.cells #[.string ⟨xh.toArray⟩,.int .i64 xpo,.int .i64 xpr,.int .i64 xwe,.int .u32 (xttl:Int)] 31))) hg5 ho5)
       have hkeep:w4.cell? ⟨g,M,none⟩=some (.slice rA rl.length rc)∧w4.frozen? ⟨g,M,none⟩=false:=by
        have hne:some g≠(Value.slice rA rl.length rc).ownBlock:=fun e=>HT3.out.off ⟨rA,rc,rl⟩ (List.mem_append_right _ (List.mem_singleton.2 rfl)) g e.symm rfl
        have hbk:w4.heap[g]? = w3.heap[g]?:=(hg4.1.block g (by simp;omega) hne).trans (Below.heap_alloc w3.drew (.cells #[.string ⟨xh.toArray⟩,.int .i64 xpo,.int .i64 xpr,.int .i64 xwe,.int .u32 (xttl:Int)] 31) g hgl)
        exact ⟨(World.cell?_of_block hbk).trans hcl,(frozen_of_blockA hbk).trans hfr⟩
       obtain ⟨hk4,hf4⟩:=hkeep
       have hb34:Below w.heap.size w w4:=((HB3.out.trans ((bl_drew w3).mono hsz3)).alloc hsz3 (.cells #[.string ⟨xh.toArray⟩,.int .i64 xpo,.int .i64 xpr,.int .i64 xwe,.int .u32 (xttl:Int)] 31)).trans (hg4.below (OwM.lt HOr.out) (by simp;omega))
       have HB4:=Lib.hid hb34
       clear ho4 hg4 ho5 hg5 hb34 hc4
       refine reg_take 13 (v:=?_) rfl (by kernel_rfl) (fun _ _ _ h=>h) (by rfl) trivial ?_ ?_
       rotate_left
       ·intro w hSw;(try dsimp only at hSw);go_simp;(try with_reducible rfl)
       (try simp only [Act.put,List.setIfInBounds_toArray,List.set_cons_zero,List.set_cons_succ])
       refine wpAnyH_ready (rs:=[14]) (by kernel_rfl) (by simp) ?_
       refine reg_cons 14 rfl (fun K' hK=>?_) AllReadyH.nil
       go_simp
       refine hK.out _ _ trivial (fun hH=>?_)
       (try simp only [Act.put,List.setIfInBounds_toArray,List.set_cons_zero,List.set_cons_succ])
       clear hK
       refine wpAnyH_done (by kernel_rfl) ?_ _
       go_wp2_with fail
       go_roundw
       case rel=>
        refine ⟨k+1,N,rows0++[⟨A4,c4,rl++[⟨xh,xpo,xpr,xwe,xttl⟩]⟩],some ⟨g,0,none⟩,c3,by omega,by omega,by go_num,rfl,Lib.hid ?_,Lib.hid ?_,Lib.hid ?_,Lib.hid (HB4.out.setCell HGB.out _)⟩
        ·rw [List.length_append];exact HN0.out
        ·rw [HEND.out,List.map_append];rfl
        ·have:=HT4.out
         rw [←HMX.out] at this
         unfold ARow.v at this
         dsimp only at this
         rw [HLEN.out] at this
         exact this
       case measure=>simp [intOf];omega
      ·go_simp
       refine hK.out _ _ trivial (fun hH=>?_)
       (try simp only [Act.put,List.setIfInBounds_toArray,List.set_cons_zero,List.set_cons_succ])
       clear hK
       refine wpAnyH_ready (rs:=[9]) (by kernel_rfl) (by simp) ?_
       refine reg_cons 9 rfl (fun K' hK=>?_) (AllReadyH.nil)
       go_simp
       refine hK.out _ _ trivial (fun hH=>?_)
       (try simp only [Act.put,List.setIfInBounds_toArray,List.set_cons_zero,List.set_cons_succ])
       clear hK
       refine wpAnyH_ready (rs:=[12]) (by kernel_rfl) (by simp) ?_
       refine reg_cons 12 rfl (fun K' hK=>?_) (AllReadyH.nil)
       refine step_appM rfl _ _ _ _ rfl w.heap.size 5 31 j0 (.agg zA.cells.toArray) 48 Tryz.underlying27 hj' hy0 hy1 hy2 rfl (by omega) (.slice rA rl.length rc) rl.length (acs rl) ((OwM.drew HOr.out).alloc _) rfl (.slice (some ⟨w3.heap.size,0,none⟩) 1 1) rfl 1 (Ad.cells ⟨xh,xpo,xpr,xwe,xttl⟩) HSRC.out (by omega) (by simp;omega) ?_
       intro v4 w4 ho4 hg4 hz4
       obtain ⟨A4,c4,rfl,hc4,_,_⟩:=ho4.form
       refine hK.out _ _ trivial (fun hH=>?_)
       (try simp only [Act.put,List.setIfInBounds_toArray,List.set_cons_zero,List.set_cons_succ])
       clear hK
       have hg5:Gr (w3.drew.alloc (.cells #[.string ⟨xh.toArray⟩,.int .i64 xpo,.int .i64 xpr,.int .i64 xwe,.int .u32 (xttl:Int)] 31)) w4 (ARow.v ⟨rA,rc,rl⟩) (ARow.v ⟨A4,c4,rl++[⟨xh,xpo,xpr,xwe,xttl⟩]⟩):=by
        unfold ARow.v
        dsimp only
        rw [HLEN.out]
        exact hg4
       have ho5:OwM w4 w.heap.size 31 5 (ARow.v ⟨A4,c4,rl++[⟨xh,xpo,xpr,xwe,xttl⟩]⟩) (rl++[(⟨xh,xpo,xpr,xwe,xttl⟩:Ad)]).length (acs (rl++[⟨xh,xpo,xpr,xwe,xttl⟩])):=by
        unfold ARow.v
        dsimp only
        rw [HLEN.out,acs_snoc]
        exact ho4
       have HT4:=Lib.hid (TSt.last (r':=⟨A4,c4,rl++[⟨xh,xpo,xpr,xwe,xttl⟩]⟩) (HT3.out.far ((bl_drew w3).alloc (Nat.le_refl _) (.cells #[.string ⟨xh.toArray⟩,.int .i64 xpo,.int .i64 xpr,.int .i64 xwe,.int .u32 (xttl:Int)] 31))) hg5 ho5)
       have hkeep:w4.cell? ⟨g,M,none⟩=some (.slice rA rl.length rc)∧w4.frozen? ⟨g,M,none⟩=false:=by
        have hne:some g≠(Value.slice rA rl.length rc).ownBlock:=fun e=>HT3.out.off ⟨rA,rc,rl⟩ (List.mem_append_right _ (List.mem_singleton.2 rfl)) g e.symm rfl
        have hbk:w4.heap[g]? = w3.heap[g]?:=(hg4.1.block g (by simp;omega) hne).trans (Below.heap_alloc w3.drew (.cells #[.string ⟨xh.toArray⟩,.int .i64 xpo,.int .i64 xpr,.int .i64 xwe,.int .u32 (xttl:Int)] 31) g hgl)
        exact ⟨(World.cell?_of_block hbk).trans hcl,(frozen_of_blockA hbk).trans hfr⟩
       obtain ⟨hk4,hf4⟩:=hkeep
       have hb34:Below w.heap.size w w4:=((HB3.out.trans ((bl_drew w3).mono hsz3)).alloc hsz3 (.cells #[.string ⟨xh.toArray⟩,.int .i64 xpo,.int .i64 xpr,.int .i64 xwe,.int .u32 (xttl:Int)] 31)).trans (hg4.below (OwM.lt HOr.out) (by simp;omega))
       have HB4:=Lib.hid hb34
       clear ho4 hg4 ho5 hg5 hb34 hc4
       refine reg_take 13 (v:=?_) rfl (by kernel_rfl) (fun _ _ _ h=>h) (by rfl) trivial ?_ ?_
       rotate_left
       ·intro w hSw;(try dsimp only at hSw);go_simp;(try with_reducible rfl)
       (try simp only [Act.put,List.setIfInBounds_toArray,List.set_cons_zero,List.set_cons_succ])
       refine wpAnyH_ready (rs:=[14]) (by kernel_rfl) (by simp) ?_
       refine reg_cons 14 rfl (fun K' hK=>?_) AllReadyH.nil
       go_simp
       refine hK.out _ _ trivial (fun hH=>?_)
       (try simp only [Act.put,List.setIfInBounds_toArray,List.set_cons_zero,List.set_cons_succ])
       clear hK
       refine wpAnyH_done (by kernel_rfl) ?_ _
       go_wp2_with fail
       go_roundw
       case rel=>
        refine ⟨k+1,N,rows0++[⟨A4,c4,rl++[⟨xh,xpo,xpr,xwe,xttl⟩]⟩],some ⟨g,0,none⟩,c3,by omega,by omega,by go_num,rfl,Lib.hid ?_,Lib.hid ?_,Lib.hid ?_,Lib.hid (HB4.out.setCell HGB.out _)⟩
        ·rw [List.length_append];exact HN0.out
        ·rw [HEND.out,List.map_append];rfl
        ·have:=HT4.out
         rw [←HMX.out] at this
         unfold ARow.v at this
         dsimp only at this
         rw [HLEN.out] at this
         exact this
       case measure=>simp [intOf];omega
  ·obtain rfl:n=k:=by omega
   have hr:=HR.out
   rw [List.take_of_length_le (by rw [HLN.out];exact Nat.le_refl _)] at hr
   have HR2:=Lib.hid hr
   clear hr
   go_wp2_with fail
   go_ret
   exact ⟨_,rows,rfl,HR2.out,HT.out,HB.out⟩
set_option maxRecDepth 100000 in
set_option maxHeartbeats 400000 in
theorem tiers_at (A:Option Addr) (c n:Nat) (l:List Ad) (w:World) (h:AsRd w w.heap.size A c n l) :
 Calls Tryz.prog 25 #[.slice A n c] w fun e w'=>∃ (A':Option Addr) (c':Nat) (rows:List ARow),e = .returned (.slice A' rows.length c')∧rows.map ARow.l=Srv.tiersA l∧TSt 27 31 w' w.heap.size (.slice A' rows.length c') rows∧RsA w' w'.heap.size A' rows.length rows∧rows.length≤c'∧Below w.heap.size w w':=by
 have K:=Lib.hid (runs_at A c n l w h)
 have HL:=Lib.hid h.2.1
 have hn:=h.2.2.2.1
 have HX:=Lib.hid h.2.2.2.2
 clear h
 go_enter Tryz.func25,Tryz.ntmps25
 go_wp2_with (go_at_call 62;refine K.out.mono ?_;rintro e w1 ⟨v,rows,rfl,hr,ht,hb⟩;have HR:=Lib.hid hr;have HT:=Lib.hid ht;have HB:=Lib.hid hb;clear hr ht hb)
 go_ret
 obtain ⟨A',c',rfl,hc,hh⟩:=HT.out.rsA (fun r hm=>by
  have h1:r.l∈Srv.tiersA l:=by rw [←HR.out];exact List.mem_map.2 ⟨r,hm,rfl⟩
  have h2:=mem_flat h1
  rw [(Srv.tiersA_tiers l).all,HL.out] at h2
  refine ⟨by omega,fun x hx=>HX.out x ?_⟩
  rw [←(Srv.tiersA_tiers l).all]
  exact List.mem_flatten.2 ⟨r.l,h1,hx⟩)
 exact ⟨A',c',rows,rfl,HR.out,HT.out,hh,hc,HB.out⟩
end Go.Proofs.YtlipmlbijddopaaGreatDoor
set_option linter.unusedVariables false
set_option linter.unusedSimpArgs false
namespace Go.Proofs.YtlipmlbijddopaaGreatDoor
open Go.RowKit
def ItoOk (w:World) (n:Int):Prop:=∀ W,Below w.heap.size w W→Calls Tryz.prog 68 #[.int .i64 n] W fun e w'=>e = .returned (.string ⟨(Lib.itoa n).toArray⟩)∧∃ k os,w'=Sort.grow (W.drewN k) os
theorem ItoOk.small (w:World) (n:Nat) (hn:n<100):ItoOk w (n:Int):=fun W _=>(Tryz.strconv_Itoa_small n hn W).mono fun e w' h=>by
 refine ⟨by rw [h.1];unfold Lib.itoa;rw [if_neg (by omega)];simp,0,#[],?_⟩
 rw [h.2,Sort.grow_empty];rfl
theorem itoa_len (n:Int) (h0 : -9223372036854775808≤n) (h1:n≤9223372036854775807):(Lib.itoa n).length≤21:=by
 have key:∀ u:Nat,u<18446744073709551616→Lib.nDigits u≤20:=fun u hu=>by
  rcases Nat.eq_zero_or_pos u with h | h
  ·subst h;rw [Lib.nDigits_small (by omega)];omega
  ·obtain ⟨e1,e2⟩:=Lib.numDigits_eq u h hu
   rw [←e1];split <;> omega
 unfold Lib.itoa
 split
 ·rw [List.length_cons,Lib.decDigits_length]
  have:=key n.natAbs (by omega)
  omega
 ·rw [Lib.decDigits_length]
  have:=key n.toNat (by omega)
  omega
set_option maxRecDepth 100000 in
set_option maxHeartbeats 4000000 in
theorem texts_at (A:Option Addr) (c n:Nat) (l:List Ad) (w:World) (h:AsRd w w.heap.size A c n l) (hI:∀ x∈l,ItoOk w x.po) :
 Calls Tryz.prog 29 #[.slice A n c] w fun e w'=>∃ v,e = .returned v∧Ow w' w.heap.size 9 v (sc (l.map Srv.textA))∧Below w.heap.size w w':=by
 obtain ⟨i0,hI0,hz0,hz1,hz2⟩:=info_parts Tryz.infoStr
 have H:=Lib.hid h
 have hnl:=h.2.2.2.1
 have hln:=h.2.1
 have HLN:=Lib.hid hln
 have HI:=Lib.hid hI
 clear h hln hI
 go_enter Tryz.func29,Tryz.ntmps29
 go_wp2_with fail
 go_loopw [3,8] (fun v3 vk wr=>∃ (k:Nat),k≤n∧vk = .int .i64 k∧Hid (Ow wr w.heap.size 9 v3 (sc ((l.take k).map Srv.textA)))∧Hid (Below w.heap.size w wr)) (fun _ vk _=>n - (intOf vk).toNat)
 case atStart=>exact ⟨0,Nat.zero_le _,rfl,Lib.hid (Ow.nil _ _ _),Lib.hid (Below.refl _ _)⟩
 case round=>
  obtain ⟨k,hk,rfl,HO,HB⟩:=hrel
  obtain ⟨A3,c3,rfl,hc3,hr3⟩:=HO.out.form6 k (by rw [sc_length,List.length_map,List.length_take,HLN.out];omega)
  have hsz:=HB.out.size
  rcases Nat.lt_or_ge k n with hlt | hge
  ·have hkl:k<l.length:=by rw [HLN.out];exact hlt
   obtain ⟨b,o,rfl,hb,hc⟩:=H.out.base (show 0<n by omega)
   have HF:=Lib.hid ((hc k hkl).below HB.out hb)
   have hok:=(H.out.2.2.2.2 _ (List.getElem_mem hkl)).h
   have hpo1:=(H.out.2.2.2.2 _ (List.getElem_mem hkl)).po1
   have hpo2:=(H.out.2.2.2.2 _ (List.getElem_mem hkl)).po2
   have KI:=Lib.hid (HI.out _ (List.getElem_mem hkl))
   have hmt:(l.take (k+1)).map Srv.textA=(l.take k).map Srv.textA++[Srv.textA l[k]]:=by rw [List.take_succ_eq_append_getElem hkl,List.map_append];rfl
   obtain ⟨x,hx⟩:∃ x,x=l[k]:=⟨_,rfl⟩
   rw [←hx] at HF hok hpo1 hpo2 KI hmt
   have HMT:=Lib.hid hmt
   clear hx hmt hc hr3
   obtain ⟨xh,xpo,xpr,xwe,xttl⟩:=x
   obtain ⟨c0,c1,c2,c3',c4⟩:=HF.out.cells
   dsimp only at c0 c1 c2 c3' c4 hok hpo1 hpo2 KI
   go_wp2_with fail
   have hbx:=Vx.new wr 31 [.string ⟨xh.toArray⟩,.int .i64 xpo,.int .i64 xpr,.int .i64 xwe,.int .u32 (xttl:Int)]
   have hbl:=bl_new wr (.cells #[.string ⟨xh.toArray⟩,.int .i64 xpo,.int .i64 xpr,.int .i64 xwe,.int .u32 (xttl:Int)] 31)
   obtain ⟨G,hG⟩:∃ G,G=wr.heap.size:=⟨_,rfl⟩
   have hgw:wr.heap.size≤G:=by omega
   have hgw2:G≤wr.heap.size:=by omega
   rw [←hG] at hbx ⊢
   generalize wr.alloc (.cells #[.string ⟨xh.toArray⟩,.int .i64 xpo,.int .i64 xpr,.int .i64 xwe,.int .u32 (xttl:Int)] 31)=W1 at hbx hbl ⊢
   have HBX:=Lib.hid hbx
   have HO1:=Lib.hid (HO.out.far hbl)
   have HB1:=Lib.hid (HB.out.trans (hbl.mono hsz))
   have hgl:=hbx.lt
   have hil:=itoa_len xpo hpo1 hpo2
   clear hbx hbl hG hpo1 hpo2
   have hadd:∀ W,(binOp .add 9 (.string ⟨xh.toArray⟩) (.string ⟨#[58]⟩)).run Tryz.prog W = .ok (.string ⟨(xh++[58]).toArray⟩) W:=fun W=>addStr W xh [58] (by simp;omega)
   have hadd2:∀ W,(binOp .add 9 (.string ⟨(xh++[58]).toArray⟩) (.string ⟨(Lib.itoa xpo).toArray⟩)).run Tryz.prog W = .ok (.string ⟨(xh++[58]++Lib.itoa xpo).toArray⟩) W:=fun W=>addStr W (xh++[58]) (Lib.itoa xpo) (by simp;omega)
   refine wp_region_held_drew (S:=fun W=>W.cell? ⟨G,0,none⟩=some (.string ⟨xh.toArray⟩)∧W.cell? ⟨G,1,none⟩=some (.int .i64 xpo)) (by kernel_rfl) ⟨HBX.out.cell 0,HBX.out.cell 1⟩ (fun hH=>?_)
   refine reg_take 0 (v:=?_) rfl (by kernel_rfl) (fun _ _ _ h=>h) (by rfl) hH ?_ ?_
   rotate_left
   ·intro w hSw;(try dsimp only at hSw);obtain ⟨s0,s1⟩:=hSw;go_simp;(try with_reducible rfl)
   (try simp only [Act.put,List.setIfInBounds_toArray,List.set_cons_zero,List.set_cons_succ])
   refine reg_take 1 (v:=?_) rfl (by kernel_rfl) (fun _ _ _ h=>h) (by rfl) hH ?_ ?_
   rotate_left
   ·intro w hSw;(try dsimp only at hSw);obtain ⟨s0,s1⟩:=hSw;go_simp;(try with_reducible rfl)
   (try simp only [Act.put,List.setIfInBounds_toArray,List.set_cons_zero,List.set_cons_succ])
   refine reg_take 2 (v:=?_) rfl (by kernel_rfl) (fun _ _ _ h=>h) (by rfl) hH ?_ ?_
   rotate_left
   ·intro w hSw;(try dsimp only at hSw);obtain ⟨s0,s1⟩:=hSw;go_simp;(try with_reducible rfl)
   (try simp only [Act.put,List.setIfInBounds_toArray,List.set_cons_zero,List.set_cons_succ])
   refine reg_take 3 (v:=.string ⟨(xh++[58]).toArray⟩) rfl (by kernel_rfl) (fun _ _ _ h=>h) (by rfl) hH ?_ ?_
   ·intro w hSw
    go_simp
    (try rw [if_neg (by (try simp only [List.length_append,List.length_cons,List.length_nil]);omega)])
    (try simp only [catStr])
    (try rfl)
   (try simp only [Act.put,List.setIfInBounds_toArray,List.set_cons_zero,List.set_cons_succ])
   refine reg_take 4 (v:=?_) rfl (by kernel_rfl) (fun _ _ _ h=>h) (by rfl) hH ?_ ?_
   rotate_left
   ·intro w hSw;(try dsimp only at hSw);obtain ⟨s0,s1⟩:=hSw;go_simp;(try with_reducible rfl)
   (try simp only [Act.put,List.setIfInBounds_toArray,List.set_cons_zero,List.set_cons_succ])
   refine reg_take 5 (v:=?_) rfl (by kernel_rfl) (fun _ _ _ h=>h) (by rfl) hH ?_ ?_
   rotate_left
   ·intro w hSw;(try dsimp only at hSw);obtain ⟨s0,s1⟩:=hSw;go_simp;(try with_reducible rfl)
   (try simp only [Act.put,List.setIfInBounds_toArray,List.set_cons_zero,List.set_cons_succ])
   refine wpAnyH_ready (rs:=[6]) (by kernel_rfl) (by simp) ?_
   refine reg_cons 6 rfl (fun K' hK=>?_) AllReadyH.nil
   go_simp
   go_at_call 68
   refine (KI.out _ (HB1.out.trans ((bl_drew W1).mono HB1.out.size))).mono ?_
   rintro e w3 ⟨rfl,q3,os3,rfl⟩
   have hb3:Below W1.heap.size W1 (Sort.grow (W1.drew.drewN q3) os3):=(bl_drew W1).trans (below_grow _ q3 os3 (Nat.le_refl _))
   generalize Sort.grow (W1.drew.drewN q3) os3=w3 at hb3 ⊢
   have hV3:=HBX.out.below hb3 hgl
   refine hK.out _ _ ⟨hV3.cell 0,hV3.cell 1⟩ (fun hH=>?_)
   (try simp only [Act.put,List.setIfInBounds_toArray,List.set_cons_zero,List.set_cons_succ])
   clear hK
   have HO3:=Lib.hid (HO1.out.far hb3)
   have HB3:=Lib.hid (HB1.out.trans (hb3.mono HB1.out.size))
   have HV3:=Lib.hid hV3
   have hsz3:=HB3.out.size
   clear hb3 hV3
   refine reg_take 7 (v:=.string ⟨(xh++58 :: Lib.itoa xpo).toArray⟩) rfl (by kernel_rfl) (fun _ _ _ h=>h) (by rfl) hH ?_ ?_
   ·intro w hSw
    go_simp
    (try rw [if_neg (by (try simp only [List.length_append,List.length_cons,List.length_nil]);omega)])
    (try simp only [catStr])
    (try simp only [List.append_assoc,List.singleton_append])
   (try simp only [Act.put,List.setIfInBounds_toArray,List.set_cons_zero,List.set_cons_succ])
   refine wpAnyH_ready (rs:=[8]) (by kernel_rfl) (by simp) ?_
   refine reg_cons 8 rfl (fun K' hK=>?_) AllReadyH.nil
   go_simp
   have hV4:=HV3.out.alloc (.cells #[.string ⟨(xh++58 :: Lib.itoa xpo).toArray⟩] 9)
   refine hK.out _ _ ⟨hV4.cell 0,hV4.cell 1⟩ (fun hH=>?_)
   (try simp only [Act.put,List.setIfInBounds_toArray,List.set_cons_zero,List.set_cons_succ])
   clear hK hV4
   refine wpAnyH_ready (rs:=[9]) (by kernel_rfl) (by simp) ?_
   refine reg_cons 9 rfl (fun K' hK=>?_) AllReadyH.nil
   refine step_app _ rfl _ _ _ _ rfl w.heap.size 9 i0 (.string ⟨#[]⟩) 16 Tryz.underlying38 hI0 hz0 hz1 hz2 rfl (by omega) (.slice A3 k c3) (sc ((l.take k).map Srv.textA)) (HO3.out.alloc _) rfl (.slice (some ⟨w3.heap.size,0,none⟩) 1 1) rfl 1 [.string ⟨(xh++58 :: Lib.itoa xpo).toArray⟩] (one_src (w:=w3) Tryz.underlying38 (.string ⟨(xh++58 :: Lib.itoa xpo).toArray⟩) rfl) (by rw [sc_length,List.length_map,List.length_take,HLN.out];omega) (by simp;omega) ?_
   intro v5 w5 ho5 hg5 hz5
   have hV5:=(HV3.out.alloc (.cells #[.string ⟨(xh++58 :: Lib.itoa xpo).toArray⟩] 9)).grown hg5.1 (fun e=>by have:=ow_block_lt HO.out _ e.symm;omega)
   refine hK.out _ _ ⟨hV5.cell 0,hV5.cell 1⟩ (fun hH=>?_)
   (try simp only [Act.put,List.setIfInBounds_toArray,List.set_cons_zero,List.set_cons_succ])
   clear hK
   have HB5:=Lib.hid ((HB3.out.alloc hsz3 (.cells #[.string ⟨(xh++58 :: Lib.itoa xpo).toArray⟩] 9)).trans (hg5.below (Ow.lt HO3.out) (by simp;omega)))
   have HO5:=Lib.hid ho5
   clear ho5 hg5 hV5
   refine reg_take 10 (v:=?_) rfl (by kernel_rfl) (fun _ _ _ h=>h) (by rfl) hH ?_ ?_
   rotate_left
   ·intro w hSw;(try dsimp only at hSw);obtain ⟨s0,s1⟩:=hSw;go_simp;(try with_reducible rfl)
   (try simp only [Act.put,List.setIfInBounds_toArray,List.set_cons_zero,List.set_cons_succ])
   refine wpAnyH_done (by kernel_rfl) ?_ _
   go_wp2_with fail
   go_roundw
   case rel=>
    refine ⟨k+1,by omega,by go_num,Lib.hid ?_,HB5⟩
    have:=HO5.out
    rw [HMT.out,show Srv.textA ⟨xh,xpo,xpr,xwe,xttl⟩=xh++58 :: Lib.itoa xpo from rfl]
    simpa [sc,strV] using this
   case measure=>simp [intOf];omega
  ·obtain rfl:n=k:=by omega
   have ho:=HO.out
   rw [List.take_of_length_le (by rw [HLN.out];exact Nat.le_refl _)] at ho
   have HO2:=Lib.hid ho
   clear ho hr3 HO
   go_wp2_with fail
   go_ret
   exact ⟨_,rfl,HO2.out,HB.out⟩
theorem adok_line {l:List Ad} (h:∀ x∈l,AdOk x):(∀ x∈Srv.headT l,AdOk x)∧(Srv.headT l).length≤l.length:=by
 have ht:=Srv.tiersA_tiers l
 unfold Srv.headT
 cases e:Srv.tiersA l with
 | nil=>exact ⟨fun x hx=>(by cases hx),Nat.zero_le _⟩
 | cons t ts=>
   have hm:t∈Srv.tiersA l:=by rw [e];exact List.mem_cons_self ..
   refine ⟨fun x hx=>h x ?_,?_⟩
   ·rw [←ht.all];exact List.mem_flatten.2 ⟨t,hm,hx⟩
   ·have:=mem_flat hm;rwa [ht.all] at this
theorem firstA_step {left at_:Nat} {l:List Ad} {k:Nat} (hk:k<l.length) (h:¬ left≤at_+Srv.wtA l[k]):Srv.firstA left at_ (l.drop k)=Srv.firstA left (at_+Srv.wtA l[k]) (l.drop (k+1)):=by
 rw [List.drop_eq_getElem_cons hk,Srv.firstA,if_neg h]
theorem firstA_here {left at_:Nat} {l:List Ad} {k:Nat} (hk:k<l.length) (h:left≤at_+Srv.wtA l[k]):Srv.firstA left at_ (l.drop k)=some l[k]:=by
 rw [List.drop_eq_getElem_cons hk,Srv.firstA,if_pos h]
theorem sum_take {l:List Ad} {k:Nat} (hk:k<l.length):Srv.sumA (l.take (k+1))=Srv.sumA (l.take k)+Srv.wtA l[k]:=by
 rw [List.take_succ_eq_append_getElem hk,Srv.sumA_snoc]
theorem sum_take_le (l:List Ad) (k:Nat):Srv.sumA (l.take k)≤65535*l.length:=by
 have h1:=Srv.sumA_le (l.take k)
 rw [List.length_take] at h1
 have:min k l.length≤l.length:=Nat.min_le_right _ _
 omega
def optA (o:Option Ad):Ad × Bool:=match o with | some a=>(a,true) | none=>(zA,false)
theorem pickA_eq {l:List Ad} (h:l.length≠0) (m:Nat):Srv.pickA l m=optA (Srv.firstA (m % (Srv.sumA (Srv.lineA (Srv.headT l))+1)) 0 (Srv.lineA (Srv.headT l))):=by
 unfold Srv.pickA
 rw [if_neg h]
 cases Srv.firstA (m % (Srv.sumA (Srv.lineA (Srv.headT l))+1)) 0 (Srv.lineA (Srv.headT l)) <;> rfl
theorem run_store_funcA {P:Program} (w:World) (a:Addr) (m:Mode) (fn:Fn) (first cap:Array Value):(store a (.func fn first cap) m).run P w=stored P w a (.func fn first cap) m:=run_store P w a (.func fn first cap) m rfl
theorem rsA_two {w:World} {A1 A2:Option Addr} {c1 c2 n1 n2:Nat} {l1 l2:List Ad} (h1:AsRd w w.heap.size A1 c1 n1 l1) (h2:AsRd w w.heap.size A2 c2 n2 l2) :
 RsA (w.alloc (.cells #[.slice A1 n1 c1,.slice A2 n2 c2] 27)) (w.alloc (.cells #[.slice A1 n1 c1,.slice A2 n2 c2] 27)).heap.size (some ⟨w.heap.size,0,none⟩) 2 [⟨A1,c1,l1⟩,⟨A2,c2,l2⟩]:=by
 have e1:=h1.2.1
 have e2:=h2.2.1
 subst e1 e2
 refine ⟨⟨rfl,fun _=>⟨w.heap.size,0,rfl,by simp,fun j u hu=>?_⟩⟩,rfl,fun r hr=>?_⟩
 ·rw [Nat.zero_add,World.cell?_alloc_mark w _ _ (0,0) j]
  simpa [ARow.v] using hu
 ·simp only [List.mem_cons,List.not_mem_nil,or_false] at hr
  rcases hr with rfl | rfl
  ·exact h1.goes (bl_new _ _)
  ·exact h2.goes (bl_new _ _)
set_option maxRecDepth 100000 in
set_option maxHeartbeats 4000000 in
theorem pick_at (A:Option Addr) (c n m:Nat) (l:List Ad) (w:World) (h:AsRd w w.heap.size A c n l) (hm:m<4294967296) :
 Calls Tryz.prog 23 #[.slice A n c,.int .u32 (m:Int)] w fun e w'=>e = .returned (.tuple #[.agg (Srv.pickA l m).1.cells.toArray,.bool (Srv.pickA l m).2])∧Below w.heap.size w w':=by
 rcases Nat.eq_zero_or_pos n with h0 | h0
 ·subst h0
  have hl0:l=[]:=List.eq_nil_of_length_eq_zero h.2.1
  subst hl0
  clear h
  have hV:=Vx.new w 31 zA.cells
  have HV:=Lib.hid hV
  clear hV
  go_enter Tryz.func23,Tryz.ntmps23
  go_wp2_with fail
  refine bodyPost_ret (resA2 Tryz.results23 _ _ w.heap.size _ zA.cells _ rfl rfl HV.out rfl) rfl ?_
  exact ⟨rfl,bl_new w _⟩
 ·obtain ⟨P,hP⟩:∃ P,P=Srv.pickA l m:=⟨_,rfl⟩
  have hln:=h.2.1
  have hnl:=h.2.2.2.1
  have hPe:P=optA (Srv.firstA (m % (Srv.sumA (Srv.lineA (Srv.headT l))+1)) 0 (Srv.lineA (Srv.headT l))):=by
   rw [hP];exact pickA_eq (by omega) m
  rw [←hP]
  have HPE:=Lib.hid hPe
  have HX:=Lib.hid (adok_line h.2.2.2.2)
  have hne:Srv.headT l≠[]:=Srv.headT_ne (by omega)
  have HNE:=Lib.hid hne
  have HLN:=Lib.hid hln
  have hA1:=bl_new w (.cells zA.cells.toArray 31)
  have H1:=Lib.hid (h.goes hA1)
  have HV0:=Lib.hid (Vx.new w 31 zA.cells)
  have HB1:=Lib.hid hA1
  clear h hP hPe hne hln hA1
  go_enter Tryz.func23,Tryz.ntmps23
  go_upto_region 4 with (go_at_call 25
                         refine (tiers_at A c n l _ H1.out).mono ?_
                         rintro e w2 ⟨A2,c2,rows,rfl,hr,ht,hh,hc2,hb2⟩
                         have HR:=Lib.hid hr
                         have hrn:rows≠[]:=fun e=>HNE.out (by unfold Srv.headT;rw [←HR.out,e];rfl)
                         obtain ⟨r0,rs,rfl⟩:∃ r0 rs,rows=r0 :: rs:=by
                          cases rows with
                          | nil=>exact absurd rfl hrn
                          | cons a l=>exact ⟨a,l,rfl⟩
                         have hhd:Srv.headT l=r0.l:=by unfold Srv.headT;rw [←HR.out];rfl
                         obtain ⟨b,o,rfl,hb,hc⟩:=hh.1.2 (by simp)
                         have hc0:w2.cell? ⟨b,o+0,none⟩=some r0.v:=hc 0 _ rfl
                         have hr0:=hh.2.2 r0 (List.mem_cons_self ..)
                         have HHD:=Lib.hid hhd
                         have HR0:=Lib.hid hr0
                         have HB2:=Lib.hid (HB1.out.trans (hb2.mono HB1.out.size))
                         have HV2:=Lib.hid (HV0.out.below hb2 HV0.out.lt)
                         clear hr ht hh hrn hhd hc hr0 hb2
                         obtain ⟨rA,rc,rl⟩:=r0
                         unfold ARow.v at hc0
                         dsimp only [Nat.add_zero] at hc0 HHD HR0)
  have hrl:rl.length≤2932031007317:=HR0.out.2.2.2.1
  have hsz2:=HB2.out.size
  have hb3:=bl_new w2 (.cells #[.func (.func 58) #[] #[]] 32)
  have HV3:=Lib.hid (HV2.out.below hb3 HV2.out.lt)
  have HR3:=Lib.hid (HR0.out.goes hb3)
  have HB3:=Lib.hid (HB2.out.trans (hb3.mono hsz2))
  have HF3:=Lib.hid (Vx.new w2 32 [.func (.func 58) #[] #[]])
  have hs3:w2.heap.size<(w2.alloc (.cells #[.func (.func 58) #[] #[]] 32)).heap.size:=by simp
  have hsf:=fun (a:Addr) (fn:Fn) (first cap:Array Value) (w:World) (m:Mode)=>run_store_funcA (P:=Tryz.prog) w a m fn first cap
  go_upto_region 5 with fail
  clear hsf
  obtain ⟨G,hG⟩:∃ G,G=w2.heap.size:=⟨_,rfl⟩
  rw [←hG] at HF3 hs3 ⊢
  generalize w2.alloc (.cells #[.func (.func 58) #[] #[]] 32)=w3 at HV3 HR3 HB3 HF3 hs3 hb3 ⊢
  have hfc3:w3.cell? ⟨G,0,none⟩=some (.func (.func 58) #[] #[]):=HF3.out.cell 0
  clear hb3 hG hc0
  obtain ⟨T,hT⟩:∃ T,T=Srv.headT l:=⟨_,rfl⟩
  have hrlT:rl=T:=by rw [hT,HHD.out]
  subst hrlT
  rw [←hT] at HPE HX
  have HLE:=Lib.hid (HX.out.2)
  have hlen1:(rl.filter Srv.noneW).length≤rl.length:=List.length_filter_le _ _
  have hlen2:(rl.filter (fun a=>!Srv.noneW a)).length≤rl.length:=List.length_filter_le _ _
  obtain ⟨L1,hL1⟩:∃ L1,L1=(rl.filter Srv.noneW).length:=⟨_,rfl⟩
  obtain ⟨L2,hL2⟩:∃ L2,L2=(rl.filter (fun a=>!Srv.noneW a)).length:=⟨_,rfl⟩
  rw [←hL1] at hlen1
  rw [←hL2] at hlen2
  have hlt:Srv.sumA (Srv.lineA rl)≤65535*(Srv.lineA rl).length:=Srv.sumA_le _
  have hll:(Srv.lineA rl).length=rl.length:=(Srv.lineA_perm rl).length_eq
  have hsl:L1+L2=rl.length:=by rw [←hll,Srv.lineA,List.length_append,hL1,hL2]
  have HL1:=Lib.hid hL1
  have HL2:=Lib.hid hL2
  have HLL:=Lib.hid hll
  clear hT hL1 hL2 HHD hll hlt
  go_upto_region 6 with (first
   | (go_at_call 28
      refine (concat_at (some ⟨w5.heap.size,0,none⟩) 2 2 [⟨A4,c4,rl.filter Srv.noneW⟩,⟨A5,c5,rl.filter fun a=>!Srv.noneW a⟩] _ (rsA_two HA4.out HA5.out) (by simp only [flatA,List.flatMap_cons,List.flatMap_nil,List.append_nil,List.length_append,←HL1.out,←HL2.out];omega) (by omega)).mono ?_
      rintro e w6 ⟨v6,rfl,ho6,hb6⟩
      have hfl:flatA [⟨A4,c4,rl.filter Srv.noneW⟩,⟨A5,c5,rl.filter fun a=>!Srv.noneW a⟩]=Srv.lineA rl:=by simp [flatA,Srv.lineA]
      rw [hfl] at ho6
      obtain ⟨A6,c6,rfl,ha6⟩:=AsRd.of_own ho6 rfl (by rw [HLL.out];exact hrl) (fun x hx=>HX.out.1 x ((Srv.lineA_perm rl).mem_iff.1 hx))
      have HA6:=Lib.hid ha6
      have hb56:=(bl_new w5 (.cells #[.slice A4 L1 c4,.slice A5 L2 c5] 27)).trans (hb6.mono (by simp))
      have HB6:=Lib.hid (HB5.out.trans (hb56.mono HB5.out.size))
      have HV6:=Lib.hid (HV5.out.below hb56 HV5.out.lt)
      clear ho6 ha6 hb6 hb56 hfl)
   | (go_at_call 60
      have _t:=tk1
      refine (only2_at rA rc rl.length rl w4 HR4.out G hfc4 hs4).mono ?_
      rintro e w5 ⟨v5,rfl,ho5,hb5⟩
      obtain ⟨A5,c5,rfl,ha5⟩:=AsRd.of_own ho5 rfl (by rw [←HL2.out];omega) (fun x hx=>HX.out.1 x (List.mem_filter.1 hx).1)
      rw [←HL2.out] at ha5 ⊢
      have HA5:=Lib.hid ha5
      have HA4:=Lib.hid (HA3.out.goes hb5)
      have HB5:=Lib.hid (HB4.out.trans (hb5.mono HB4.out.size))
      have HV5:=Lib.hid (HV4.out.below hb5 HV4.out.lt)
      clear ho5 ha5 hb5)
   | (go_at_call 60
      refine (only1_at rA rc rl.length rl w3 HR3.out).mono ?_
      rintro e w4 ⟨v4,rfl,ho4,hb4⟩
      obtain ⟨A4,c4,rfl,ha4⟩:=AsRd.of_own ho4 rfl (by rw [←HL1.out];omega) (fun x hx=>HX.out.1 x (List.mem_filter.1 hx).1)
      rw [←HL1.out] at ha4 ⊢
      have HA3:=Lib.hid ha4
      have HR4:=Lib.hid (HR3.out.goes hb4)
      have HB4:=Lib.hid (HB3.out.trans (hb4.mono HB3.out.size))
      have HV4:=Lib.hid (HV3.out.below hb4 HV3.out.lt)
      have hfc4:w4.cell? ⟨G,0,none⟩=some (.func (.func 58) #[] #[]):=(HF3.out.below hb4 hs3).cell 0
      have hs4:G<w4.heap.size:=Nat.lt_of_lt_of_le hs3 hb4.size
      have tk1:=True.intro
      clear ho4 ha4 hb4))
  obtain ⟨L,hL⟩:∃ L,L=Srv.lineA rl:=⟨_,rfl⟩
  have hLn:L.length=rl.length:=by rw [hL,HLL.out]
  rw [←hL] at HA6 HPE ⊢
  have hLb:L.length≤2932031007317:=by omega
  have hadL:∀ x∈L,AdOk x:=HA6.out.2.2.2.2
  clear hL HLL HX HA4 HA5 HA3 HR0 HR3 HR4 HV5 HV4 HV3 HB5 HB4 HB3 HF3 hfc3 hfc4 HL1 HL2
  generalize hN:L.length=N at HA6 hLb ⊢
  have HN:=Lib.hid hN
  have hsb:Srv.sumA L≤65535*N:=by rw [←hN];exact Srv.sumA_le _
  clear hN hLn
  obtain ⟨G0,hG0⟩:∃ G0,G0=w.heap.size:=⟨_,rfl⟩
  have hG0a:w.heap.size≤G0:=by omega
  rw [←hG0] at HV6 ⊢
  clear hG0
  go_wp2_with fail
  go_loopw [9,34] (fun v9 vk wr=>∃ k s:Nat,k≤N∧s≤65535*N∧vk = .int .i64 k∧v9 = .int .i64 s∧Hid (s=Srv.sumA (L.take k))∧Hid (Below w6.heap.size w6 wr)) (fun _ vk _=>N - (intOf vk).toNat)
  case atStart=>exact ⟨0,0,Nat.zero_le _,Nat.zero_le _,rfl,rfl,Lib.hid rfl,Lib.hid (Below.refl _ _)⟩
  case round=>
   obtain ⟨k,s,hk,hs,rfl,rfl,HS,HB⟩:=hrel
   rcases Nat.lt_or_ge k N with hlt | hge
   ·have hkl:k<L.length:=by rw [HN.out];exact hlt
    obtain ⟨b,o,rfl,hb,hc⟩:=HA6.out.base (show 0<N by omega)
    have HF:=Lib.hid ((hc k hkl).below HB.out hb)
    have hst:=sum_take hkl
    have hsl:=sum_take_le L (k+1)
    rw [HN.out] at hsl
    obtain ⟨x,hx⟩:∃ x,x=L[k]:=⟨_,rfl⟩
    rw [←hx] at HF hst
    have KW:=Lib.hid (weight_at x)
    have hwt:=Srv.wtA_le x
    obtain ⟨wt,hwt2⟩:∃ wt,wt=Srv.wtA x:=⟨_,rfl⟩
    rw [←hwt2] at KW hst hwt
    rw [hst,←HS.out] at hsl
    have HST:=Lib.hid hst
    clear hx hst hc hwt2
    obtain ⟨xh,xpo,xpr,xwe,xttl⟩:=x
    obtain ⟨c0,c1,c2,c3,c4⟩:=HF.out.cells
    dsimp only at c0 c1 c2 c3 c4
    have hbl:=HB.out.trans ((bl_new wr (.cells #[.string ⟨xh.toArray⟩,.int .i64 xpo,.int .i64 xpr,.int .i64 xwe,.int .u32 (xttl:Int)] 31)).mono HB.out.size)
    go_wp2_with (go_at_call 59
                 refine (KW.out _).mono ?_
                 rintro e w7 ⟨rfl,hb7⟩)
    go_roundw
    case rel=>exact ⟨k+1,s+wt,by omega,hsl,by go_num,by go_num,Lib.hid (by rw [HST.out,←HS.out]),Lib.hid (hbl.trans (hb7.mono hbl.size))⟩
    case measure=>simp [intOf];omega
   ·obtain rfl:N=k:=by omega
    have hse:s=Srv.sumA L:=by rw [HS.out,List.take_of_length_le (by rw [HN.out];exact Nat.le_refl _)]
    obtain ⟨q,hq⟩:∃ q,q=m % (s+1):=⟨_,rfl⟩
    have hqs:q≤s:=by rw [hq];have:=Nat.mod_lt m (show 0<s+1 by omega);omega
    rw [←hse,←hq] at HPE
    have hmod:(m:Int) % ((s:Int)+1)=(q:Int):=by rw [hq,Int.natCast_emod,Int.natCast_add];rfl
    have HB8:=Lib.hid (HB6.out.trans (HB.out.mono HB6.out.size))
    have HV8:=Lib.hid (HV6.out.below HB.out HV6.out.lt)
    have HA8:=Lib.hid (HA6.out.goes HB.out)
    have hss:(0:Int)<(s:Int)+1:=by omega
    clear hse hq HA6 HV6 HB6 HS HB
    obtain ⟨W8,hW8⟩:∃ x,x=wr:=⟨wr,rfl⟩
    subst hW8
    go_wp2_with fail
    (try simp only [hmod])
    clear hmod
    go_loopw [13,50] (fun v13 vk wr=>∃ k s:Nat,k≤N∧s≤65535*N∧vk = .int .i64 k∧v13 = .int .i64 s∧Hid (s=Srv.sumA (L.take k))∧Hid (Srv.firstA q 0 L=Srv.firstA q s (L.drop k))∧Hid (Below W8.heap.size W8 wr)) (fun _ vk _=>N - (intOf vk).toNat)
    case atStart=>exact ⟨0,0,Nat.zero_le _,Nat.zero_le _,rfl,rfl,Lib.hid rfl,Lib.hid rfl,Lib.hid (Below.refl _ _)⟩
    case round=>
     obtain ⟨k,t,hk,ht,rfl,rfl,HS,HFI,HB⟩:=hrel
     rcases Nat.lt_or_ge k N with hlt | hge
     ·have hkl:k<L.length:=by rw [HN.out];exact hlt
      obtain ⟨b,o,rfl,hb,hc⟩:=HA8.out.base (show 0<N by omega)
      have HF:=Lib.hid ((hc k hkl).below HB.out hb)
      have hst:=sum_take hkl
      have hsl:=sum_take_le L (k+1)
      rw [HN.out] at hsl
      have hfs:=@firstA_step q t L k hkl
      have hfh:=@firstA_here q t L k hkl
      obtain ⟨x,hx⟩:∃ x,x=L[k]:=⟨_,rfl⟩
      rw [←hx] at HF hst hfs hfh
      have KW:=Lib.hid (weight_at x)
      have hwt:=Srv.wtA_le x
      obtain ⟨wt,hwt2⟩:∃ wt,wt=Srv.wtA x:=⟨_,rfl⟩
      rw [←hwt2] at KW hst hwt hfs hfh
      rw [hst,←HS.out] at hsl
      have HST:=Lib.hid hst
      have HFS:=Lib.hid hfs
      have HFH:=Lib.hid hfh
      clear hx hst hc hwt2 hfs hfh
      obtain ⟨xh,xpo,xpr,xwe,xttl⟩:=x
      obtain ⟨c0,c1,c2,c3,c4⟩:=HF.out.cells
      dsimp only at c0 c1 c2 c3 c4
      have hbl:=HB.out.trans ((bl_new wr (.cells #[.string ⟨xh.toArray⟩,.int .i64 xpo,.int .i64 xpr,.int .i64 xwe,.int .u32 (xttl:Int)] 31)).mono HB.out.size)
      have HVX:=Lib.hid (Vx.new wr 31 [.string ⟨xh.toArray⟩,.int .i64 xpo,.int .i64 xpr,.int .i64 xwe,.int .u32 (xttl:Int)])
      have hxlt:wr.heap.size<(wr.alloc (.cells #[.string ⟨xh.toArray⟩,.int .i64 xpo,.int .i64 xpr,.int .i64 xwe,.int .u32 (xttl:Int)] 31)).heap.size:=by simp
      have HBL:=Lib.hid hbl
      clear hbl
      by_cases hpk:q≤t+wt
      ·have hpk':decide ((q:Int)≤(t:Int)+(wt:Int))=true:=by simp;omega
       go_wp2_with (go_at_call 59
                    refine (KW.out _).mono ?_
                    rintro e w7 ⟨rfl,hb7⟩
                    obtain ⟨d0,d1,d2,d3,d4⟩:=(HVX.out.below hb7 hxlt).c5
                    have hV7:=HV8.out.below (HBL.out.trans (hb7.mono HBL.out.size)) HV8.out.lt
                    obtain ⟨z0,z1,z2,z3,z4⟩:=hV7.c5
                    have e0:=hV7.free 0
                    have e1:=hV7.free 1
                    have e2:=hV7.free 2
                    have e3:=hV7.free 3
                    have e4:=hV7.free 4
                    have HV7:=Lib.hid hV7
                    have HB7:=Lib.hid (HB8.out.trans ((HBL.out.trans (hb7.mono HBL.out.size)).mono HB8.out.size))
                    clear hV7)
       refine bodyPost_ret (resA2 Tryz.results23 _ _ G0 _ _ (.bool true) rfl rfl HV7.out.set5 rfl) rfl ?_
       have hPx:P=(⟨xh,xpo,xpr,xwe,xttl⟩,true):=by rw [HPE.out,HFI.out,HFH.out hpk];rfl
       exact ⟨by rw [hPx];rfl,below5 HB7.out hG0a _ _ _ _ _⟩
      ·have hpk':(t:Int)+(wt:Int)<(q:Int):=by omega
       go_wp2_with (go_at_call 59
                    refine (KW.out _).mono ?_
                    rintro e w7 ⟨rfl,hb7⟩)
       go_roundw
       case rel=>exact ⟨k+1,t+wt,by omega,hsl,by go_num,by go_num,Lib.hid (by rw [HST.out,←HS.out]),Lib.hid (by rw [HFI.out,HFS.out (by omega)]),Lib.hid (HBL.out.trans (hb7.mono HBL.out.size))⟩
       case measure=>simp [intOf];omega
     ·obtain rfl:N=k:=by omega
      have hPx:P=(zA,false):=by
       rw [HPE.out,HFI.out,List.drop_of_length_le (by rw [HN.out];exact Nat.le_refl _)];rfl
      have HPX:=Lib.hid hPx
      clear hPx
      have hV9:=HV8.out.below HB.out HV8.out.lt
      obtain ⟨z0,z1,z2,z3,z4⟩:=hV9.c5
      have e0:=hV9.free 0
      have e1:=hV9.free 1
      have e2:=hV9.free 2
      have e3:=hV9.free 3
      have e4:=hV9.free 4
      have HV9:=Lib.hid hV9
      have HB9:=Lib.hid (HB8.out.trans (HB.out.mono HB8.out.size))
      clear hV9
      go_wp2_with fail
      refine bodyPost_ret (resA2 Tryz.results23 _ _ G0 _ _ (.bool false) rfl rfl HV9.out.set5 rfl) rfl ?_
      exact ⟨by rw [HPX.out];rfl,below5 HB9.out hG0a _ _ _ _ _⟩
end Go.Proofs.YtlipmlbijddopaaGreatDoor
