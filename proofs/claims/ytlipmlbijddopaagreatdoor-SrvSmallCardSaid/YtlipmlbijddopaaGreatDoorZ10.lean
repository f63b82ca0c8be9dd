/-
  DnsQ1; DnsP
-/
import Derived.Test.YtlipmlbijddopaaGreatDoorZ04
import Derived.Test.YtlipmlbijddopaaGreatDoorZ05
import Derived.Test.YtlipmlbijddopaaGreatDoorZ09
import Derived.Deep.QuietTactic
import Derived.BigQuiet
import Derived.Test.YtlipmlbijddopaaGreatDoorZ02
import Derived.Test.YtlipmlbijddopaaGreatDoorZ06
set_option linter.unusedVariables false
set_option linter.unusedSimpArgs false
namespace Go.Proofs.YtlipmlbijddopaaGreatDoor
open Go.RowKit
structure RdS (w:World) (g:Nat) (A:Option Addr) (c:Nat) (b:List UInt8) (s:St):Prop where
 vx:Vx w g 137 [.slice A b.length c,.int .i64 (s.at_:Int),.int .i64 (s.e:Int)]
 rd:Rd w w.heap.size A b.length (bc b)
 cap:b.length≤c
 len:b.length≤100000
 off:∀ a,A=some a→a.block≠g
 ok:s.e=0→s.at_≤b.length
 sm:s.e≤1000∧s.at_≤200000
theorem Rd.setO {w:World} {A:Option Addr} {n g:Nat} {xs:List Value} (h:Rd w w.heap.size A n xs) (hof:∀ a,A=some a→a.block≠g) (k:Nat) (u:Value):Rd (w.setCell ⟨g,k,none⟩ u) (w.setCell ⟨g,k,none⟩ u).heap.size A n xs:=by
 refine ⟨h.1,fun hn=>?_⟩
 obtain ⟨b,o,rfl,hb,hc⟩:=h.2 hn
 refine ⟨b,o,rfl,by simpa using hb,fun j u hu=>?_⟩
 rw [World.cell?_setCell_other _ _ _ _ (by intro e;injection e with e1;exact hof _ rfl e1.symm)]
 exact hc j u hu
section
variable {w w':World} {g:Nat} {A:Option Addr} {c:Nat} {b:List UInt8} {s:St}
theorem RdS.go (h:RdS w g A c b s) (hb:Below w.heap.size w w'):RdS w' g A c b s:=⟨h.vx.below hb h.vx.lt,h.rd.goes hb,h.cap,h.len,h.off,h.ok,h.sm⟩
theorem RdS.drew (h:RdS w g A c b s):RdS w.drew g A c b s:=⟨h.vx,h.rd,h.cap,h.len,h.off,h.ok,h.sm⟩
theorem RdS.drewN (h:RdS w g A c b s) (q:Nat):RdS (w.drewN q) g A c b s:=⟨h.vx,h.rd,h.cap,h.len,h.off,h.ok,h.sm⟩
theorem RdS.setAt (h:RdS w g A c b s) (n:Nat) (hn:s.e=0→n≤b.length) (hs:n≤200000):RdS (w.setCell ⟨g,1,none⟩ (.int .i64 (n:Int))) g A c b ⟨n,s.e⟩:=
 ⟨h.vx.set_ 1 _,h.rd.setO h.off _ _,h.cap,h.len,h.off,hn,h.sm.1,hs⟩
theorem RdS.setE (h:RdS w g A c b s) (e:Nat) (hn:e=0→s.at_≤b.length) (hs:e≤1000):RdS (w.setCell ⟨g,2,none⟩ (.int .i64 (e:Int))) g A c b ⟨s.at_,e⟩:=
 ⟨h.vx.set_ 2 _,h.rd.setO h.off _ _,h.cap,h.len,h.off,hn,hs,h.sm.2⟩
end
theorem below_new (w:World) (o:Obj):Below w.heap.size w (w.alloc o):=(Below.refl _ w).alloc (Nat.le_refl _) o
theorem Rd.lit_top0 (w:World) (e:TypeId) (cs:List Value) (n:Nat) (hn:cs.length=n):Rd (w.alloc (.cells cs.toArray e)) (w.alloc (.cells cs.toArray e)).heap.size (some ⟨w.heap.size,0,none⟩) n cs:=by
 refine ⟨hn,fun _=>⟨w.heap.size,0,rfl,by simp,fun j u hu=>?_⟩⟩
 have:=(Vx.new w e cs).cell j
 rw [Nat.zero_add,this]
 exact hu
theorem ow_setO {w:World} {base:Nat} {e:TypeId} {v:Value} {xs:List Value} (h:Ow w base e v xs) {g:Nat} (hg:g<base) (k:Nat) (u:Value):Ow (w.setCell ⟨g,k,none⟩ u) base e v xs:=
 ownsRow_setCell_other (a:=⟨g,k,none⟩) h (fun e=>by have:=h.lt _ e;simp at this;omega) u
abbrev Only (w w':World) (g:Nat):Prop:=w.grownBy w' (some g)
theorem Only.refl (w:World) (g:Nat):Only w w g:=⟨rfl,rfl,rfl,Nat.le_refl _,fun _ _ _=>rfl⟩
theorem Only.trans {a b c:World} {g:Nat} (h:Only a b g) (k:Only b c g):Only a c g:=
 ⟨k.os.trans h.os,k.tape.trans h.tape,k.output.trans h.output,Nat.le_trans h.size k.size,fun i hi hne=>(k.block i (Nat.lt_of_lt_of_le hi h.size) hne).trans (h.block i hi hne)⟩
theorem Only.of_below {a b:World} {g:Nat} (h:Below a.heap.size a b):Only a b g:=⟨h.os,h.tape,h.output,h.size,fun i hi _=>h.block i hi⟩
theorem Only.set_ (w:World) (g k:Nat) (u:Value):Only w (w.setCell ⟨g,k,none⟩ u) g:=
 ⟨rfl,rfl,rfl,by simp,fun i _ hne=>heap_setCell_other w ⟨g,k,none⟩ i u (fun e=>hne (by simp [e]))⟩
theorem Only.below {a b:World} {g B:Nat} (h:Only a b g) (hg:B≤g) (hB:B≤a.heap.size):Below B a b:=(Below.refl B a).grown h hB (fun q e=>by cases e;exact hg)
theorem Only.drew (w:World) (g:Nat):Only w w.drew g:=⟨rfl,rfl,rfl,Nat.le_refl _,fun _ _ _=>rfl⟩
theorem Only.drewN (w:World) (q g:Nat):Only w (w.drewN q) g:=⟨rfl,rfl,rfl,Nat.le_refl _,fun _ _ _=>rfl⟩
theorem rTake_len (b:List UInt8) (n:Nat) (s:St):(rTake b n s).1.length=n:=by
 unfold rTake
 split
 ·split
  ·rw [List.length_take,List.length_drop];omega
  ·simp
 ·simp
theorem cutA_block {A:Option Addr} {c k:Nat} {a':Addr} (h:cutA A c k=some a'):∃ a,A=some a∧a'.block=a.block:=by
 unfold cutA at h
 split at h
 ·exact ⟨a',h,rfl⟩
 ·cases A with
  | none=>cases h
  | some a=>
    simp only [Option.map_some,Option.some.injEq] at h
    refine ⟨a,rfl,?_⟩
    rw [←h]
    unfold Addr.add
    split <;> rfl
theorem made_one' (z:Value) (n:Nat) (h:z.cells=#[z]):madeCells z.cells n=(List.replicate n z).toArray:=by
 apply Array.ext'
 rw [h,toList_madeCells_one]
theorem make_bytes (n:Nat) (hn:n≤1000000) (W:World):(Instr.makeSlice 22 (.int .i64 (n:Int)) (.int .i64 (n:Int))).run Tryz.prog W = .ok (.slice (some ⟨W.heap.size,0,none⟩) n n) (W.alloc (.cells (bc (List.replicate n 0)).toArray 5)):=by
 obtain ⟨i0,hi,hz0,hz1,hz2⟩:=info_parts Tryz.infoByte
 have:=run_make (P:=Tryz.prog) W 22 5 i0 (.int .u8 0) Tryz.underlying22 hi hz0 .i64 .i64 n n (by omega) (by omega) (by rw [hz2];omega) (by omega)
 rw [this,hz1]
 simp only [Nat.mul_one,Int.toNat_natCast]
 rw [made_one' _ _ rfl]
 have e:bc (List.replicate n 0)=List.replicate n (Value.int .u8 0):=by simp [bc]
 rw [e]
set_option maxRecDepth 100000 in
set_option maxHeartbeats 400000 in
theorem take_at (g:Nat) (A:Option Addr) (c n:Nat) (b:List UInt8) (s:St) (w:World) (h:RdS w g A c b s) (hn:n≤65535) :
 Calls Tryz.prog 112 #[.pointer (some ⟨g,0,none⟩),.int .i64 (n:Int)] w fun e w'=>∃ A' c',e = .returned (.slice A' n c')∧n≤c'∧Rd w' w'.heap.size A' n (bc (rTake b n s).1)∧RdS w' g A c b (rTake b n s).2∧Only w w' g∧(∀ a,A'=some a→a.block≠g):=by
 obtain ⟨c0,c1,c2⟩:=h.vx.c3
 have f1:=h.vx.free 1
 have f2:=h.vx.free 2
 have hbl:=h.len
 have hlt:=h.vx.lt
 obtain ⟨at_,er⟩:=s
 simp only at c0 c1 c2
 have hsm:=h.sm
 simp only at hsm
 obtain ⟨hs1,hs2⟩:=hsm
 have HH:=Lib.hid h
 clear h
 by_cases h0:er=0
 ·subst h0
  have hle:at_≤b.length:=HH.out.ok rfl
  by_cases hfit:at_+n≤b.length
  ·have g1:¬ ((b.length:Int)<(at_:Int)+(n:Int)):=by omega
   have hT:rTake b n ⟨at_,0⟩=((b.drop at_).take n,⟨at_+n,0⟩):=by simp [rTake,hfit]
   rw [hT]
   have gd:decide ((b.length:Int)<(at_:Int)+(n:Int))=false:=decide_eq_false g1
   have ksl:∀ W,(Instr.slice 22 (.slice A b.length c) (some (.int .i64 (at_:Int))) (some (.int .i64 ((at_:Int)+(n:Int)))) none).run Tryz.prog W = .ok (.slice (cutA A c at_) n (c - at_)) W:=fun W=>by
    have:=run_sl_lh W 22 5 Tryz.underlying22 (fun w=>by kernel_rfl) A b.length c at_ (at_+n) (by omega) (by have:=HH.out.cap;omega)
    rw [show at_+n - at_=n by omega] at this
    push_cast at this
    exact this
   have ksb:(at_:Int)+(n:Int) - (n:Int)=(at_:Int):=by omega
   clear hT
   go_enter Tryz.func112,Tryz.ntmps112
   go_upto_region 1 with fail
   go_quiet (fail)
   have hD1:=HH.out.drewN nq
   have hO1:=Only.drewN w nq g
   clear HH
   have HD1:=Lib.hid hD1
   have HO1:=Lib.hid hO1
   clear hD1 hO1
   go_upto_region 6 with fail
   go_quiet (fail)
   go_wp2_with fail
   go_ret
   have hS:=(HD1.out.setAt (at_+n) (fun _=>hfit) (by omega)).drewN nq
   have hC:=HD1.out.cap
   refine ⟨cutA A c at_,c - at_,rfl,by omega,?_,?_,?_,?_⟩
   ·have:=hS.rd.cut (k:=at_) (m:=at_+n) (cap:=c) (by omega) (by omega) hC
    rw [show at_+n - at_=n by omega,show ((bc b).drop at_).take n=bc ((b.drop at_).take n) by simp [bc,List.map_drop,List.map_take]] at this
    push_cast at this
    exact this
   ·push_cast at hS
    exact hS
   ·exact (HO1.out.trans (Only.set_ _ _ _ _)).trans (Only.drewN _ _ _)
   ·intro a ha
    obtain ⟨a0,h1,h2⟩:=cutA_block ha
    rw [h2]
    exact HD1.out.off a0 h1
  ·have g1:(b.length:Int)<(at_:Int)+(n:Int):=by omega
   have hT:rTake b n ⟨at_,0⟩=(List.replicate n 0,⟨at_,171⟩):=by simp [rTake,hfit]
   rw [hT]
   have gd:decide ((b.length:Int)<(at_:Int)+(n:Int))=true:=decide_eq_true g1
   clear hT
   go_enter Tryz.func112,Tryz.ntmps112
   go_upto_region 1 with fail
   go_quiet (fail)
   have hmk:=make_bytes n (by omega)
   go_wp2_with fail
   go_ret
   have hE:=((HH.out.drewN nq).setE 171 (by omega) (by omega)).go (below_new _ (.cells (bc (List.replicate n 0)).toArray 5))
   refine ⟨_,_,rfl,Nat.le_refl _,?_,hE,((Only.drewN w nq g).trans (Only.set_ _ _ _ _)).trans (Only.of_below (below_new _ _)),?_⟩
   ·have:=Rd.lit_top0 ((w.drewN nq).setCell ⟨g,2,none⟩ (.int .i64 171)) 5 (bc (List.replicate n 0)) n (by simp)
    simpa using this
   ·intro a ha
    cases ha
    simp
    omega
 ·have hT:rTake b n ⟨at_,er⟩=(List.replicate n 0,⟨at_,er⟩):=by simp [rTake,h0]
  rw [hT]
  clear hT
  have g1:¬ (er:Int)=0:=by omega
  have gd:((er:Int) == 0)=false:=by simpa using h0
  go_enter Tryz.func112,Tryz.ntmps112
  go_upto_region 1 with fail
  go_quiet (fail)
  have hmk:=make_bytes n (by omega)
  go_wp2_with fail
  go_ret
  have hE:=(HH.out.drewN nq).go (below_new (w.drewN nq) (.cells (bc (List.replicate n 0)).toArray 5))
  refine ⟨_,_,rfl,Nat.le_refl _,?_,hE,(Only.drewN w nq g).trans (Only.of_below (below_new _ _)),?_⟩
  ·exact Rd.lit_top0 (w.drewN nq) 5 (bc (List.replicate n 0)) n (by simp)
  ·intro a ha
   cases ha
   simp
   omega
def numF (p:Nat):Value:=.func (.func 111) #[] #[.pointer (some ⟨p,0,none⟩)]
theorem num2_le (l:List UInt8):num2 l<65536:=by
 unfold num2
 have:=(l.getD 0 0).toNat_lt
 have:=(l.getD 1 0).toNat_lt
 omega
theorem or_join (x y:Nat) (hx:x<256) (hy:y<256):bits .or .u16 ((x:Int)*256) (y:Int)=((256*x+y:Nat):Int):=by
 have e:(x:Int)*256=((x*256:Nat):Int):=by omega
 rw [e,u16_or_nat _ _ (by omega) (by omega)]
 have:=nat_join 8 (x*256) y (by omega) (by omega)
 rw [this]
 omega
set_option maxRecDepth 100000 in
set_option maxHeartbeats 400000 in
theorem num_at (p g:Nat) (A:Option Addr) (c:Nat) (b:List UInt8) (s:St) (w:World) (h:RdS w g A c b s) (hp:w.cell? ⟨p,0,none⟩=some (.pointer (some ⟨g,0,none⟩))) (hpg:p≠g) :
 Calls Tryz.prog 111 #[.pointer (some ⟨p,0,none⟩)] w fun e w'=>e = .returned (.int .u16 ((rNum b s).1:Int))∧RdS w' g A c b (rNum b s).2∧Only w w' g:=by
 have HH:=Lib.hid h
 clear h
 go_enter Tryz.func111,Tryz.ntmps111
 go_upto_region 2 with (go_at_call 112;refine (take_at g A c 2 b s _ HH.out (by omega)).mono ?_;rintro e w2 ⟨A',c',rfl,hc',hr',hS',hO',hof'⟩)
 obtain ⟨x,y,hxy⟩:∃ x y,(rTake b 2 s).1=[x,y]:=by
  have:=rTake_len b 2 s
  match hm:(rTake b 2 s).1,this with
  | [x,y],_=>exact ⟨x,y,rfl⟩
 obtain ⟨bq,oq,rfl,_,hcell⟩:=hr'.2 (by omega)
 rw [hxy] at hcell
 have d0:=hcell 0 _ rfl
 have d1:=hcell 1 _ rfl
 have hx:=x.toNat_lt
 have hy:=y.toNat_lt
 have hN:(rNum b s).1=256*x.toNat+y.toNat:=by simp [rNum,num2,hxy]
 have hN2:(rNum b s).2=(rTake b 2 s).2:=rfl
 simp only [Nat.add_zero] at d0 d1
 have HN:=Lib.hid hN
 have hor:=or_join x.toNat y.toNat hx hy
 have HS:=Lib.hid hS'
 have HO:=Lib.hid hO'
 clear hcell hr' hS' hO' hN hN2 hxy
 go_quiet (fail)
 go_wp2_with fail
 go_ret
 exact ⟨by rw [HN.out];simp,HS.out.drewN _,HO.out.trans (Only.drewN _ _ _)⟩
set_option maxRecDepth 100000 in
set_option maxHeartbeats 400000 in
theorem name_at (g:Nat) (A:Option Addr) (c:Nat) (b:List UInt8) (s:St) (w:World) (h:RdS w g A c b s) :
 Calls Tryz.prog 113 #[.pointer (some ⟨g,0,none⟩)] w fun e w'=>∃ A' c',e = .returned (.slice A' (rName b s).1.length c')∧Ow w' w.heap.size 9 (.slice A' (rName b s).1.length c') (sc (rName b s).1)∧RdS w' g A c b (rName b s).2∧Only w w' g:=by
 obtain ⟨c0,c1,c2⟩:=h.vx.c3
 have f1:=h.vx.free 1
 have f2:=h.vx.free 2
 have hlt:=h.vx.lt
 have hlen:=h.len
 obtain ⟨at_,er⟩:=s
 simp only at c0 c1 c2
 have HH:=Lib.hid h
 have hsm:=h.sm
 clear h
 by_cases h0:er=0
 ·subst h0
  have hle:at_≤b.length:=HH.out.ok rfl
  obtain ⟨n,hn⟩:∃ n,n=(rName b ⟨at_,0⟩).1:=⟨_,rfl⟩
  obtain ⟨z,hz⟩:∃ z,z=(rName b ⟨at_,0⟩).2:=⟨_,rfl⟩
  have hn1:(readN b at_).1=n:=by rw [hn];simp [rName]
  have hz1:(readN b at_).2.1=z.at_:=by rw [hz];simp [rName]
  have hz2:(readN b at_).2.2=z.e:=by rw [hz];simp [rName]
  rw [←hn,←hz]
  clear hn hz
  have H4:=Lib.hid (show readN b at_=(n,z.at_,z.e) by rw [←hn1,←hz1,←hz2])
  have H5:=Lib.hid (show z.at_≤b.length∧z.e≤1000 by
   rcases readN_errs b at_ hle with ⟨h1,_⟩ | ⟨_,h2,h3⟩
   ·have:=readN_next b at_ hle h1
    omega
   ·omega)
  clear hn1 hz1 hz2
  go_enter Tryz.func113,Tryz.ntmps113
  go_upto_region 3 with fail
  go_region_with (first
   | (go_at_call 148
      refine (read_at A c b.length b at_ _ (n,z.at_,z.e) rfl H4.out (by exact HH.out.rd) HH.out.cap (by omega) hle).mono ?_
      rintro e w2 ⟨v2,rfl,ho2,hb2⟩
      obtain ⟨A2,c2,rfl,hc2,hr2⟩:=ho2.form6 _ (sc_length _)
      have hS2:=HH.out.drew.go hb2
      obtain ⟨m0,m1,m2⟩:=hS2.vx.c3
      have g1:=hS2.vx.free 1
      have g2:=hS2.vx.free 2))
  all_goals
   go_wp2_with fail
   go_ret
   refine ⟨A2,c2,rfl,ow_setO (ow_setO ho2 hlt _ _) hlt _ _,?_,?_⟩
   ·have h5:=(hS2.setAt z.at_ (fun _=>H5.out.1) (by have:=H5.out.1;omega)).setE z.e (fun _=>H5.out.1) H5.out.2
    exact h5
   ·exact (((Only.drew w g).trans (Only.of_below hb2)).trans (Only.set_ _ _ _ _)).trans (Only.set_ _ _ _ _)
 ·have hT:rName b ⟨at_,er⟩=([],⟨at_,er⟩):=by simp [rName,h0]
  rw [hT]
  have h0':¬ (er:Int)=0:=by omega
  go_enter Tryz.func113,Tryz.ntmps113
  go_wp2_with fail
  go_ret
  exact ⟨none,0,rfl,Ow.nil _ _ _,HH.out,Only.refl _ _⟩
end Go.Proofs.YtlipmlbijddopaaGreatDoor
set_option linter.unusedVariables false
set_option linter.unusedSimpArgs false
namespace Go.Proofs.YtlipmlbijddopaaGreatDoor
open Go.RowKit
abbrev Wr:=List UInt8 × List Int
def askB (s:Wr) (q:Qn):Wr:=(appN s.1 s.2 q.nm++two q.ty++two q.cl,s.2++[(s.1.length:Int)])
def dataR (r:Rc):List UInt8:=if r.q.ty=33 then two r.pr++two r.we++two r.po++formN r.tg else r.d
def recB (s:Wr) (r:Rc):Wr:=((askB s r.q).1++twos [r.ttl / 65536,r.ttl % 65536,(dataR r).length]++dataR r,(askB s r.q).2)
def headB (m:Ms):List UInt8:=twos [m.id,m.fl,m.qs.length,m.r0.length,m.r1.length,m.r2.length]
def qsB (s:Wr) (l:List Qn):Wr:=l.foldl askB s
def rsB (s:Wr) (l:List Rc):Wr:=l.foldl recB s
def bodyB (m:Ms):Wr:=rsB (rsB (rsB (qsB (headB m,[]) m.qs) m.r0) m.r1) m.r2
def formM (m:Ms):List UInt8:=(bodyB m).1
def writeM (m:Ms):List UInt8 × Nat:=
 if rightM m=false then ([],170)
 else if 256<m.num then ([],5)
 else if 4096<(formM m).length then ([],3)
 else (formM m,0)
theorem qsB_take (s:Wr) (l:List Qn) (k:Nat) (h:k<l.length):qsB s (l.take (k+1))=askB (qsB s (l.take k)) l[k]:=by
 unfold qsB;rw [List.take_succ_eq_append_getElem h,List.foldl_append];rfl
theorem rsB_take (s:Wr) (l:List Rc) (k:Nat) (h:k<l.length):rsB s (l.take (k+1))=recB (rsB s (l.take k)) l[k]:=by
 unfold rsB;rw [List.take_succ_eq_append_getElem h,List.foldl_append];rfl
end Go.Proofs.YtlipmlbijddopaaGreatDoor
