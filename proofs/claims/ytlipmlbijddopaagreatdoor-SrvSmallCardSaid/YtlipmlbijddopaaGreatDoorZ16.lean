/-
  DnsQ5
-/
import Derived.Test.YtlipmlbijddopaaGreatDoorZ15
import Derived.Test.YtlipmlbijddopaaGreatDoorZ05
set_option linter.unusedVariables false
set_option linter.unusedSimpArgs false
namespace Go.Proofs.YtlipmlbijddopaaGreatDoor
open Go.RowKit
structure Ob where
 e:TypeId
 s:Nat
 v:Value
 n:Nat
 xs:List Value
def Ob.ok (w:World) (base:Nat) (o:Ob):Prop:=OwM w base o.e o.s o.v o.n o.xs
def nmO (A:Option Addr) (c:Nat) (n:List (List UInt8)):Ob:=⟨9,1,.slice A n.length c,(sc n).length,sc n⟩
def daO (A:Option Addr) (c:Nat) (d:List UInt8):Ob:=⟨5,1,.slice A d.length c,(bc d).length,bc d⟩
structure Held (w:World) (base:Nat) (D:Ob→Prop) (v:Value):Prop where
 dn:∀ o,D o→o.ok w base
 ne:∀ o,D o→∀ q,o.v.ownBlock=some q→v.ownBlock≠some q
section
variable {w w':World} {base:Nat} {D D2:Ob→Prop} {v v':Value}
theorem OwM.only {g:Nat} {e:TypeId} {s n:Nat} {xs:List Value} (h:OwM w base e s v n xs) (hO:Only w w' g) (hg:g<base):OwM w' base e s v n xs:=
 World.ownsRow.kept (row:=some g) h hO (.inr (fun e=>by have:=h.lt _ e;omega))
theorem Held.only {g:Nat} (h:Held w base D v) (hO:Only w w' g) (hg:g<base):Held w' base D v:=⟨fun o ho=>(h.dn o ho).only hO hg,h.ne⟩
theorem Held.far (h:Held w base D v) (hb:Below w.heap.size w w'):Held w' base D v:=⟨fun o ho=>(h.dn o ho).far hb,h.ne⟩
theorem Held.gr (h:Held w base D v) (hg:Gr w w' v v'):Held w' base D v':=by
 refine ⟨fun o ho=>OwM.kept (h.dn o ho) hg (h.ne o ho),fun o ho q hq e=>?_⟩
 rcases hg.2 q e with h1 | h1
 ·exact h.ne o ho q hq h1
 ·have:=OwM.block_lt (h.dn o ho) q hq;omega
theorem Held.add (h:Held w base D v) (o:Ob) (ho:o.ok w base) (hne:∀ q,o.v.ownBlock=some q→v.ownBlock≠some q):Held w base (fun x=>x=o∨D x) v:=
 ⟨fun x hx=>hx.elim (fun e=>e ▸ ho) (h.dn x),fun x hx=>hx.elim (fun e=>e ▸ hne) (h.ne x)⟩
theorem Held.fin (h:Held w base D v) (o:Ob) (ho:o.ok w base):Held w base (fun x=>x=o∨D x) (.slice none 0 0):=
 ⟨fun x hx=>hx.elim (fun e=>e ▸ ho) (h.dn x),fun x hx q _ e=>by simp [Value.ownBlock] at e⟩
theorem Held.mono (h:Held w base D v) (hs:∀ o,D2 o→D o):Held w base D2 v:=⟨fun o ho=>h.dn o (hs o ho),fun o ho=>h.ne o (hs o ho)⟩
theorem Held.nil (w:World) (base:Nat) (v:Value):Held w base (fun _=>False) v:=⟨fun _ h=>h.elim,fun _ h=>h.elim⟩
theorem ne_new {e e':TypeId} {s s' n n' base':Nat} {xs xs':List Value} {u:Value} (h:OwM w base e s v n xs) (hu:OwM w' base' e' s' u n' xs') (hb:w.heap.size≤base'):∀ q,u.ownBlock=some q→v.ownBlock≠some q:=by
 intro q h1 h2
 have:=OwM.lt hu q h1
 have:=OwM.block_lt h q h2
 omega
end
theorem OwM.setL {w:World} {base s n:Nat} {e:TypeId} {v:Value} {xs:List Value} (h:OwM w base e s v n xs) {q:Nat} (hq:q<base) (k:Nat) (u:Value):OwM (w.setCell ⟨q,k,none⟩ u) base e s v n xs:=h.only (Only.set_ _ _ _ _) hq
theorem Held.setL {w:World} {base:Nat} {D:Ob→Prop} {v:Value} (h:Held w base D v) {q:Nat} (hq:q<base) (k:Nat) (u:Value):Held (w.setCell ⟨q,k,none⟩ u) base D v:=h.only (Only.set_ _ _ _ _) hq
theorem num2_take (l:List UInt8):num2 (l.take 2)=num2 l:=by
 match l with
 | []=>rfl
 | [_]=>rfl
 | _ :: _ :: _=>rfl
theorem rNum_hd (b:List UInt8) (k:Nat) (h:2*k+2≤b.length):rNum b ⟨2*k,0⟩=(hd b k,⟨2*k+2,0⟩):=by
 simp [rNum,rTake,h,hd,num2_take]
def rLs (b:List UInt8) (s:St) (cs:List Nat):Nat→List (List Rc) × St
 | 0=>([],s)
 | i+1=>((rLs b s cs i).1++[(rRs b (rLs b s cs i).2 (cs.getD i 0)).1],(rRs b (rLs b s cs i).2 (cs.getD i 0)).2)
theorem part_int (W:World) (cs:Array Value) (k:Nat) (v:Value) (h:cs[k]? = some v):(part 3 cs k).run Tryz.prog W = .ok v W:=by
 have hagg:(isAgg 3).run Tryz.prog W = .ok false W:=by
  unfold isAgg
  simp [run_underlying Tryz.underlying3]
 unfold part
 simp [hagg,h]
theorem idxI (W:World) (a b c i:Nat) (hi:i<3):(Instr.index 140 (.agg #[.int .i64 (a:Int),.int .i64 (b:Int),.int .i64 (c:Int)]) (.int .i64 (i:Int))).run Tryz.prog W = .ok (.int .i64 (([a,b,c].getD i 0:Nat):Int)) W:=by
 have hz:(sizeOf 3).run Tryz.prog W = .ok 1 W:=by kernel_rfl
 rcases (show i=0∨i=1∨i=2 by omega) with rfl | rfl | rfl
 ·simp [Instr.index,run_underlying Tryz.underlying140,asIntOf,hz,part_int W #[.int .i64 (a:Int),.int .i64 (b:Int),.int .i64 (c:Int)] 0 _ rfl]
 ·simp [Instr.index,run_underlying Tryz.underlying140,asIntOf,hz,part_int W #[.int .i64 (a:Int),.int .i64 (b:Int),.int .i64 (c:Int)] 1 _ rfl]
 ·simp [Instr.index,run_underlying Tryz.underlying140,asIntOf,hz,part_int W #[.int .i64 (a:Int),.int .i64 (b:Int),.int .i64 (c:Int)] 2 _ rfl]
def readRest (b:List UInt8) (n0 n1 n2 n3 n4 n5:Nat):Ms × Nat:=
 let q:=rQs b ⟨12,0⟩ n2
 let x:=rRs b q.2 n3
 let y:=rRs b x.2 n4
 let z:=rRs b y.2 n5
 let e:=if z.2.e=0 then (if z.2.at_<b.length then 173 else 0) else z.2.e
 if e=0 then (⟨n0,n1,q.1,x.1,y.1,z.1⟩,0) else (zM,e)
theorem readRest_eq (b:List UInt8) (n0 n1 n2 n3 n4 n5:Nat):readRest b n0 n1 n2 n3 n4 n5 =
 (let z:=rLs b (rQs b ⟨12,0⟩ n2).2 [n3,n4,n5] 3
  let e:=if z.2.e=0 then (if z.2.at_<b.length then 173 else 0) else z.2.e
  if e=0 then (⟨n0,n1,(rQs b ⟨12,0⟩ n2).1,z.1.getD 0 [],z.1.getD 1 [],z.1.getD 2 []⟩,0) else (zM,e)):=rfl
structure RW where
 A:Option Addr
 c:Nat
 l:List RR
def RW.v (r:RW):Value:=.slice r.A r.l.length r.c
def mcs (n0 n1:Nat) (qv:Value) (rs:List RW):List Value:=[.int .u16 (n0:Int),.int .u16 (n1:Int),qv]++rs.map RW.v++List.replicate (3 - rs.length) (.slice none 0 0)
theorem mcs_nil (n0 n1:Nat) (qv:Value) (rs:List RW) (h:rs.length<3):(mcs n0 n1 qv rs).set (3+rs.length) (.slice none 0 0)=mcs n0 n1 qv rs:=by
 match rs,h with
 | [],_=>rfl
 | [_],_=>rfl
 | [_,_],_=>rfl
theorem mcs_snoc (n0 n1:Nat) (qv:Value) (rs:List RW) (h:rs.length<3) (r:RW):(mcs n0 n1 qv rs).set (3+rs.length) r.v=mcs n0 n1 qv (rs++[r]):=by
 match rs,h with
 | [],_=>rfl
 | [_],_=>rfl
 | [_,_],_=>rfl
theorem mcs_get (n0 n1:Nat) (qv:Value) (rs:List RW) (h:rs.length<3) (v:Value):((mcs n0 n1 qv rs).set (3+rs.length) v)[3+rs.length]? = some v:=by
 match rs,h with
 | [],_=>rfl
 | [_],_=>rfl
 | [_,_],_=>rfl
theorem set_set_same (l:List Value) (k:Nat) (u v:Value):(l.set k u).set k v=l.set k v:=by simp
abbrev zM6:List Value:=[.int .u16 0,.int .u16 0,.slice none 0 0,.slice none 0 0,.slice none 0 0,.slice none 0 0]
structure RSt (w0 w:World) (p g M C base:Nat) (A:Option Addr) (c:Nat) (b:List UInt8) (s:St) (mc cc:List Value):Prop where
 rs:RdS w g A c b s
 pc:w.cell? ⟨p,0,none⟩=some (.pointer (some ⟨g,0,none⟩))
 vr:Vx w w0.heap.size 72 zM6
 vm:Vx w M 72 mc
 vc:Vx w C 140 cc
 bl:Below w0.heap.size w0 w
 lo:w0.heap.size<g∧w0.heap.size<M∧w0.heap.size<C∧g≠M∧g≠C∧M≠C∧p≠g∧p≠M
 hi:g<base∧M<base∧C<base∧p<base∧base≤w.heap.size
section
variable {w0 w w':World} {p g M C base:Nat} {A:Option Addr} {c:Nat} {b:List UInt8} {s s':St} {mc cc:List Value}
theorem RSt.only (h:RSt w0 w p g M C base A c b s mc cc) (hO:Only w w' g) (hs:RdS w' g A c b s'):RSt w0 w' p g M C base A c b s' mc cc:=by
 have hl:=h.lo
 have hh:=h.hi
 exact ⟨hs,hO.cell h.pc hl.2.2.2.2.2.2.1,h.vr.grown hO (fun e=>by have:=Option.some.inj e;omega),h.vm.grown hO (fun e=>by have:=Option.some.inj e;omega),h.vc.grown hO (fun e=>by have:=Option.some.inj e;omega),
  h.bl.trans (hO.below (by omega) (by have:=h.bl.size;omega)),hl,⟨hh.1,hh.2.1,hh.2.2.1,hh.2.2.2.1,Nat.le_trans hh.2.2.2.2 hO.size⟩⟩
theorem RSt.far (h:RSt w0 w p g M C base A c b s mc cc) (hb:Below w.heap.size w w'):RSt w0 w' p g M C base A c b s mc cc:=h.only (Only.of_below hb) (h.rs.go hb)
theorem RSt.gr {v v':Value} (h:RSt w0 w p g M C base A c b s mc cc) (hg:Gr w w' v v') (hv:∀ q,v.ownBlock=some q→base≤q) (hA:∀ a,A=some a→a.block<base):RSt w0 w' p g M C base A c b s mc cc:=by
 have hl:=h.lo
 have hh:=h.hi
 have hb:Below base w w':=hg.below hv hh.2.2.2.2
 refine ⟨⟨h.rs.vx.below hb hh.1,⟨h.rs.rd.1,fun hn=>?_⟩,h.rs.cap,h.rs.len,h.rs.off,h.rs.ok,h.rs.sm⟩,(hb.cell (p:=⟨p,0,none⟩) hh.2.2.2.1).trans h.pc,h.vr.below hb (by omega),h.vm.below hb hh.2.1,h.vc.below hb hh.2.2.1,h.bl.trans (hb.mono (by omega)),hl,⟨hh.1,hh.2.1,hh.2.2.1,hh.2.2.2.1,Nat.le_trans hh.2.2.2.2 hg.1.size⟩⟩
 obtain ⟨bb,o,rfl,hb',hc⟩:=h.rs.rd.2 hn
 exact ⟨bb,o,rfl,Nat.lt_of_lt_of_le hb' hg.1.size,fun j u hu=>(hb.cell (p:=⟨bb,o+j,none⟩) (hA ⟨bb,o,none⟩ rfl)).trans (hc j u hu)⟩
theorem RSt.setM (h:RSt w0 w p g M C base A c b s mc cc) (hA:∀ a,A=some a→a.block≠M) (k:Nat) (u:Value):RSt w0 (w.setCell ⟨M,k,none⟩ u) p g M C base A c b s (mc.set k u) cc:=by
 have hl:=h.lo
 have hh:=h.hi
 refine ⟨h.rs.otherA (by omega) (fun _=>hA) (Only.set_ _ _ _ _),?_,h.vr.setO (by omega) _ _,h.vm.set_ k u,h.vc.setO (by omega) _ _,h.bl.setCell (by show w0.heap.size≤M;omega) u,hl,⟨hh.1,hh.2.1,hh.2.2.1,hh.2.2.2.1,by simpa using hh.2.2.2.2⟩⟩
 rw [World.cell?_setCell_other _ _ _ _ (by intro e;injection e with e1;omega)]
 exact h.pc
end
theorem step_appM {P:Program} {w:World} {ops:Array Oper} {o:Oper} {a:Act} {K:Act→World→Prop} {Q:Exit→Act→World→Prop} {E:Prop} (hgd:o.guard=none) (sl x:Operand) (t tx:TypeId)
 (ho:o.op = .call { callee:=.builtin .append,args:=#[sl,x],argTypes:=#[t,tx] })
 (base s:Nat) (e:TypeId) (i:TypeInfo) (z:Value) (bytes:Nat) (ht:P.underlying t=some (.slice e)) (hi:P.info? e=some i) (hz:i.zero=some z)
 (hsize:i.size=s) (hby:i.bytes=bytes) (hzs:z.cells.size=s) (hb1:1≤bytes)
 (v:Value) (n0:Nat) (xs:List Value) (hown:OwM w base e s v n0 xs) (hv:a.eval sl=v) (xv:Value) (hx:a.eval x=xv) (n:Nat) (news:List Value) (hs:Src P s tx xv n news w)
 (hbytes:(n0+n)*bytes≤140737488355328) (hbase:base≤w.heap.size)
 (h:∀ v' w',OwM w' base e s v' (n0+n) (xs++news)→Gr w w' v v'→base≤w'.heap.size→K (a.put o.dst v') w') :
 if Region.wanted o (yielded ops a.tmps)=true then Oper.wp P o a w K Q else E:=by
 have hw:Region.wanted o (yielded ops a.tmps)=true:=by simp [Region.wanted,hgd]
 rw [if_pos hw]
 obtain ⟨v',w',hr,h2,h3⟩:=run_appM (P:=P) w base s t tx o.type e i z bytes ht hi hz hsize hby hzs hb1 v n0 xs hown _ n news hs hbytes hbase
 unfold Oper.wp execOp
 simp only [ho,resolve,invoke,builtin,Sem.run_bind,Sem.run_pure,Result.andThen_ok,List.map_toArray,List.map_cons,List.map_nil,hv,hx,hr]
 exact h v' w' h2 h3 (Nat.le_trans hbase h3.1.size)
theorem litM_src {P:Program} {w:World} {tx e':TypeId} (hk:P.underlying tx=some (.slice e')) (e:TypeId) (s:Nat) (cs:List Value) (n:Nat) (hn:cs.length=n*s) (h1:∀ u∈cs,u.oneCell'=true) :
 Src P s tx (.slice (some ⟨w.heap.size,0,none⟩) n n) n cs (w.alloc (.cells cs.toArray e)):=(Rd.lit_top0 w e cs (n*s) hn).srcM hk h1
theorem record_at2 (p g:Nat) (A:Option Addr) (c:Nat) (b:List UInt8) (s:St) (q:Rc × St) (hq:q=rR b s) (w:World) (h:RdS w g A c b s) (hp:w.cell? ⟨p,0,none⟩=some (.pointer (some ⟨g,0,none⟩))) (hpg:p≠g) :
 Calls Tryz.prog 77 #[.pointer (some ⟨g,0,none⟩),numF p] w fun e w'=>∃ (A':Option Addr) (c':Nat) (dA:Option Addr) (dc:Nat) (tA:Option Addr) (tc:Nat),e = .returned (.agg (RR.cells ⟨A',c',dA,dc,tA,tc,q.1⟩).toArray)∧(∃ O,ROw w' w.heap.size O ⟨A',c',dA,dc,tA,tc,q.1⟩)∧RdS w' g A c b q.2∧Only w w' g:=by
 subst hq
 refine (record_at p g A c b s w h hp hpg).mono ?_
 rintro e w' ⟨⟨A',c',dA,dc,tA,tc,r⟩,hx,he,h2⟩
 simp only at hx
 subst hx
 exact ⟨A',c',dA,dc,tA,tc,he,h2⟩
theorem set6_vx {w:World} {g:Nat} {e:TypeId} {cs:List Value} {a0 a1 a2 a3 a4 a5:Value} (h:Vx w g e cs) (hn:cs.length=6):Vx ((((((w.setCell ⟨g,0,none⟩ a0).setCell ⟨g,1,none⟩ a1).setCell ⟨g,2,none⟩ a2).setCell ⟨g,3,none⟩ a3).setCell ⟨g,4,none⟩ a4).setCell ⟨g,5,none⟩ a5) g e [a0,a1,a2,a3,a4,a5]:=by
 have:=(((((h.set_ 0 a0).set_ 1 a1).set_ 2 a2).set_ 3 a3).set_ 4 a4).set_ 5 a5
 match cs,hn with
 | [_,_,_,_,_,_],_=>exact this
theorem set6_only (w:World) (g:Nat) (a0 a1 a2 a3 a4 a5:Value):Only w ((((((w.setCell ⟨g,0,none⟩ a0).setCell ⟨g,1,none⟩ a1).setCell ⟨g,2,none⟩ a2).setCell ⟨g,3,none⟩ a3).setCell ⟨g,4,none⟩ a4).setCell ⟨g,5,none⟩ a5) g:=
 (((((Only.set_ w g 0 a0).trans (Only.set_ _ g 1 a1)).trans (Only.set_ _ g 2 a2)).trans (Only.set_ _ g 3 a3)).trans (Only.set_ _ g 4 a4)).trans (Only.set_ _ g 5 a5)
end Go.Proofs.YtlipmlbijddopaaGreatDoor
