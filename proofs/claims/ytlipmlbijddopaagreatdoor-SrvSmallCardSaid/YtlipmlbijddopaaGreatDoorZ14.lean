/-
  DnsQ2; DnsQ3
-/
import Derived.Test.YtlipmlbijddopaaGreatDoorZ10
set_option linter.unusedVariables false
set_option linter.unusedSimpArgs false
namespace Go.Proofs.YtlipmlbijddopaaGreatDoor
open Go.RowKit
section
variable {w w':World} {g:Nat} {e:TypeId} {cs:List Value}
theorem Vx.loadQ (h:Vx w g e cs) (hn:cs.length=3):(loadVar 76 ⟨g,0,none⟩).run Tryz.prog w = .ok (.agg cs.toArray) w:=
 run_loadVar_row w g _ _ cs.toArray _ _ h Tryz.underlying76 rfl (by rw [List.size_toArray,hn];kernel_rfl)
theorem Vx.loadR (h:Vx w g e cs) (hn:cs.length=9):(loadVar 88 ⟨g,0,none⟩).run Tryz.prog w = .ok (.agg cs.toArray) w:=
 run_loadVar_row w g _ _ cs.toArray _ _ h Tryz.underlying88 rfl (by rw [List.size_toArray,hn];kernel_rfl)
theorem Vx.loadM (h:Vx w g e cs) (hn:cs.length=6):(loadVar 72 ⟨g,0,none⟩).run Tryz.prog w = .ok (.agg cs.toArray) w:=
 run_loadVar_row w g _ _ cs.toArray _ _ h Tryz.underlying72 rfl (by rw [List.size_toArray,hn];kernel_rfl)
theorem resQ {fn:Func} {q:Tmp} (h:fn.results=#[.cell q 76]) (tmps:Array Value) (W:World) (g:Nat) (e:TypeId) (cs:List Value) (hq:tmps[q]? = some (.pointer (some ⟨g,0,none⟩))) (hx:Vx W g e cs) (hn:cs.length=3) :
 (results fn tmps).run Tryz.prog W = .ok (.agg cs.toArray) W:=by
 simp [results,h,hq,asAddr,hx.loadQ hn]
theorem resR {fn:Func} {q:Tmp} (h:fn.results=#[.cell q 88]) (tmps:Array Value) (W:World) (g:Nat) (e:TypeId) (cs:List Value) (hq:tmps[q]? = some (.pointer (some ⟨g,0,none⟩))) (hx:Vx W g e cs) (hn:cs.length=9) :
 (results fn tmps).run Tryz.prog W = .ok (.agg cs.toArray) W:=by
 simp [results,h,hq,asAddr,hx.loadR hn]
theorem set3_vx {a b c:Value} (h:Vx w g e cs) (hn:cs.length=3):Vx (((w.setCell ⟨g,0,none⟩ a).setCell ⟨g,1,none⟩ b).setCell ⟨g,2,none⟩ c) g e [a,b,c]:=by
 have:=((h.set_ 0 a).set_ 1 b).set_ 2 c
 match cs,hn with
 | [_,_,_],_=>exact this
theorem Only.cell {a b:World} {g:Nat} (h:Only a b g) {p:Addr} {v:Value} (hc:a.cell? p=some v) (hne:p.block≠g):b.cell? p=some v:=
 World.grownBy.cell h hc (fun e=>hne (Option.some.inj e))
theorem Ow.only {base:Nat} {t:TypeId} {v:Value} {xs:List Value} (h:Ow w base t v xs) (hO:Only w w' g) (hg:g<base):Ow w' base t v xs:=
 World.ownsRow.kept (row:=some g) h hO (.inr (fun e=>by have:=h.lt _ e;omega))
end
theorem RdS.newSet {w0 w:World} {g:Nat} {A:Option Addr} {c:Nat} {b:List UInt8} {s0 s:St} (h:RdS w g A c b s) (h0:RdS w0 g A c b s0) {q:Nat} (hq:w0.heap.size≤q) (k:Nat) (u:Value):RdS (w.setCell ⟨q,k,none⟩ u) g A c b s:=by
 refine ⟨h.vx.setO (by have:=h0.vx.lt;omega) _ _,⟨h.rd.1,fun hn=>?_⟩,h.cap,h.len,h.off,h.ok,h.sm⟩
 obtain ⟨bb,o,rfl,hb,hc⟩:=h.rd.2 hn
 obtain ⟨b',o',e,hb',_⟩:=h0.rd.2 hn
 cases e
 refine ⟨bb,o,rfl,by simpa using hb,fun j u' hu=>?_⟩
 rw [World.cell?_setCell_other _ _ _ _ (by intro e;injection e with e1;omega)]
 exact hc j u' hu
theorem Only.newSet {w w':World} {g q:Nat} (h:Only w w' g) (hq:w.heap.size≤q) (k:Nat) (u:Value):Only w (w'.setCell ⟨q,k,none⟩ u) g:=
 ⟨h.os,h.tape,h.output,by simpa using h.size,fun i hi hne=>(heap_setCell_other w' ⟨q,k,none⟩ i u (by show i≠q;omega)).trans (h.block i hi hne)⟩
set_option maxRecDepth 100000 in
set_option maxHeartbeats 400000 in
theorem newnum_at (g:Nat) (w:World) :
 Calls Tryz.prog 75 #[.pointer (some ⟨g,0,none⟩)] w fun e w'=>e = .returned (numF w.heap.size)∧w'=w.alloc (.cells #[.pointer (some ⟨g,0,none⟩)] 135):=by
 go_enter Tryz.func75,Tryz.ntmps75
 go_wp2_with fail
 go_ret
 exact ⟨rfl,rfl⟩
theorem name_at2 (g:Nat) (A:Option Addr) (c:Nat) (b:List UInt8) (s:St) (n:List (List UInt8) × St) (hn:n=rName b s) (w:World) (h:RdS w g A c b s) :
 Calls Tryz.prog 113 #[.pointer (some ⟨g,0,none⟩)] w fun e w'=>∃ A' c',e = .returned (.slice A' n.1.length c')∧Ow w' w.heap.size 9 (.slice A' n.1.length c') (sc n.1)∧RdS w' g A c b n.2∧Only w w' g:=by
 subst hn;exact name_at g A c b s w h
theorem num_at2 (p g:Nat) (A:Option Addr) (c:Nat) (b:List UInt8) (s:St) (t:Nat × St) (ht:t=rNum b s) (w:World) (h:RdS w g A c b s) (hp:w.cell? ⟨p,0,none⟩=some (.pointer (some ⟨g,0,none⟩))) (hpg:p≠g) :
 Calls Tryz.prog 111 #[.pointer (some ⟨p,0,none⟩)] w fun e w'=>e = .returned (.int .u16 (t.1:Int))∧RdS w' g A c b t.2∧Only w w' g∧w'.cell? ⟨p,0,none⟩=some (.pointer (some ⟨g,0,none⟩)):=by
 subst ht
 exact (num_at p g A c b s w h hp hpg).mono fun e w' h'=>⟨h'.1,h'.2.1,h'.2.2,h'.2.2.cell hp hpg⟩
set_option maxRecDepth 100000 in
set_option maxHeartbeats 400000 in
theorem question_at (p g:Nat) (A:Option Addr) (c:Nat) (b:List UInt8) (s:St) (w:World) (h:RdS w g A c b s) (hp:w.cell? ⟨p,0,none⟩=some (.pointer (some ⟨g,0,none⟩))) (hpg:p≠g) :
 Calls Tryz.prog 76 #[.pointer (some ⟨g,0,none⟩),numF p] w fun e w'=>∃ A' c',e = .returned (.agg (QR.cells ⟨A',c',(rQ b s).1⟩).toArray)∧Ow w' w.heap.size 9 (.slice A' (rQ b s).1.nm.length c') (sc (rQ b s).1.nm)∧RdS w' g A c b (rQ b s).2∧Only w w' g:=by
 have hlt:=h.vx.lt
 have hpl:=World.block_lt_of_cell? _ _ hp
 obtain ⟨n,hn⟩:∃ n,n=rName b s:=⟨_,rfl⟩
 obtain ⟨t,ht⟩:∃ t,t=rNum b n.2:=⟨_,rfl⟩
 obtain ⟨cl,hc⟩:∃ cl,cl=rNum b t.2:=⟨_,rfl⟩
 have hQ:rQ b s=(⟨n.1,t.1,cl.1⟩,cl.2):=by simp [rQ,hn,ht,hc]
 rw [hQ]
 have HP:=Lib.hid hp
 have HH:=Lib.hid h
 have HN:=Lib.hid hn
 have HT:=Lib.hid ht
 have HC:=Lib.hid hc
 clear h hp hn ht hc hQ
 unfold numF QR.cells
 go_enter Tryz.func76,Tryz.ntmps76
 go_upto_region 1 with fail
 have hV1:Vx (w.alloc (.cells #[.slice none 0 0,.int .u16 0,.int .u16 0] 76)) w.heap.size 76 [.slice none 0 0,.int .u16 0,.int .u16 0]:=Vx.new w _ _
 have hO1:Only w (w.alloc (.cells #[.slice none 0 0,.int .u16 0,.int .u16 0] 76)) g:=Only.of_below (below_new _ _)
 have hS1:RdS (w.alloc (.cells #[.slice none 0 0,.int .u16 0,.int .u16 0] 76)) g A c b s:=HH.out.go (below_new _ _)
 have hz1:w.heap.size<(w.alloc (.cells #[.slice none 0 0,.int .u16 0,.int .u16 0] 76)).heap.size:=by simp
 generalize w.alloc (.cells #[.slice none 0 0,.int .u16 0,.int .u16 0] 76)=w1 at *
 have hp1:=hO1.cell HP.out hpg
 have tok1:True:=trivial
 have hgw:g<w.heap.size:=hlt
 go_wp2_with (first
  | (go_at_call 111
     have _t:=tok1
     refine (num_at2 p g A c b n.2 t HT.out w2 hS2 hp2 hpg).mono ?_
     rintro e w3 ⟨rfl,hS3,hO3',hp3⟩
     have hO3:=hO2.trans hO3'
     clear tok1)
  | (go_at_call 111
     refine (num_at2 p g A c b t.2 cl HC.out w3 hS3 hp3 hpg).mono ?_
     rintro e w4 ⟨rfl,hS4,hO4',hp4⟩
     have hO4:=hO3.trans hO4'
     have hV4:=hV1.grown hO4 (fun e=>by have:=Option.some.inj e;omega)
     obtain ⟨x0,x1,x2⟩:=hV4.c3
     have f0:=hV4.free 0
     have f1:=hV4.free 1
     have f2:=hV4.free 2)
  | (go_at_call 113
     refine (name_at2 g A c b s n HN.out w1 hS1).mono ?_
     rintro e w2 ⟨An,cn,rfl,hn2,hS2,hO2⟩
     have hp2:=hO2.cell hp1 hpg))
 refine bodyPost_ret (resQ Tryz.results76 _ _ w.heap.size _ _ rfl (set3_vx hV4 rfl) rfl) rfl ?_
 refine ⟨An,cn,rfl,?_,?_,?_⟩
 ·have:=(hn2.only hO3' (by omega)).only hO4' (by omega)
  exact (ow_setO (ow_setO (ow_setO this (by omega) _ _) (by omega) _ _) (by omega) _ _).mono (by omega)
 ·exact ((hS4.newSet HH.out (Nat.le_refl _) _ _).newSet HH.out (Nat.le_refl _) _ _).newSet HH.out (Nat.le_refl _) _ _
 ·exact (((hO1.trans hO4).newSet (Nat.le_refl _) _ _).newSet (Nat.le_refl _) _ _).newSet (Nat.le_refl _) _ _
theorem question_at2 (p g:Nat) (A:Option Addr) (c:Nat) (b:List UInt8) (s:St) (q:Qn × St) (hq:q=rQ b s) (w:World) (h:RdS w g A c b s) (hp:w.cell? ⟨p,0,none⟩=some (.pointer (some ⟨g,0,none⟩))) (hpg:p≠g) :
 Calls Tryz.prog 76 #[.pointer (some ⟨g,0,none⟩),numF p] w fun e w'=>∃ A' c',e = .returned (.agg (QR.cells ⟨A',c',q.1⟩).toArray)∧Ow w' w.heap.size 9 (.slice A' q.1.nm.length c') (sc q.1.nm)∧RdS w' g A c b q.2∧Only w w' g:=by
 subst hq;exact question_at p g A c b s w h hp hpg
end Go.Proofs.YtlipmlbijddopaaGreatDoor
set_option linter.unusedVariables false
set_option linter.unusedSimpArgs false
namespace Go.Proofs.YtlipmlbijddopaaGreatDoor
open Go.RowKit
structure ROw (w:World) (base O:Nat) (x:RR):Prop where
 n:Ow w base 9 (.slice x.A x.r.q.nm.length x.c) (sc x.r.q.nm)
 d:Ow w base 5 (.slice x.dA x.r.d.length x.dc) (bc x.r.d)
 t:Ow w base 9 (.slice x.tA x.r.tg.length x.tc) (sc x.r.tg)
 an:∀ a,x.A=some a→a.block≠O
 ad:∀ a,x.dA=some a→a.block≠O
 at_:∀ a,x.tA=some a→a.block≠O
theorem ow_setN {w:World} {base:Nat} {e:TypeId} {A:Option Addr} {n c:Nat} {xs:List Value} (h:Ow w base e (.slice A n c) xs) {q:Nat} (hq:∀ a,A=some a→a.block≠q) (k:Nat) (u:Value):Ow (w.setCell ⟨q,k,none⟩ u) base e (.slice A n c) xs:=
 ownsRow_setCell_other (a:=⟨q,k,none⟩) h (fun e=>by
  cases A with
  | none=>simp [Value.ownBlock] at e
  | some a=>simp [Value.ownBlock] at e;exact hq a rfl e) u
theorem ow_blk {w:World} {base:Nat} {e:TypeId} {A:Option Addr} {n c:Nat} {xs:List Value} (h:Ow w base e (.slice A n c) xs):∀ a,A=some a→base≤a.block∧a.block<w.heap.size:=by
 intro a ha
 subst ha
 exact ⟨h.lt a.block rfl,ow_block_lt h a.block rfl⟩
section
variable {w w':World} {base O:Nat} {x:RR}
theorem ROw.setO (h:ROw w base O x) (k:Nat) (u:Value):ROw (w.setCell ⟨O,k,none⟩ u) base O x:=
 ⟨ow_setN h.n h.an _ _,ow_setN h.d h.ad _ _,ow_setN h.t h.at_ _ _,h.an,h.ad,h.at_⟩
theorem ROw.only {g:Nat} (h:ROw w base O x) (hO:Only w w' g) (hg:g<base):ROw w' base O x:=
 ⟨h.n.only hO hg,h.d.only hO hg,h.t.only hO hg,h.an,h.ad,h.at_⟩
theorem Ow.only2 {t:TypeId} {v:Value} {xs:List Value} {g:Nat} (h:Ow w base t v xs) (hO:Only w w' g) (hg:w.heap.size≤g):Ow w' base t v xs:=
 World.ownsRow.kept (row:=some g) h hO (.inr (fun e=>by have:=ow_block_lt h _ e;omega))
theorem ROw.only2 {g:Nat} (h:ROw w base O x) (hO:Only w w' g) (hg:w.heap.size≤g):ROw w' base O x:=
 ⟨h.n.only2 hO hg,h.d.only2 hO hg,h.t.only2 hO hg,h.an,h.ad,h.at_⟩
theorem ROw.mono {base':Nat} (h:ROw w base O x) (hb:base'≤base):ROw w base' O x:=⟨h.n.mono hb,h.d.mono hb,h.t.mono hb,h.an,h.ad,h.at_⟩
end
abbrev zRR:RR:=⟨none,0,none,0,none,0,zR⟩
theorem zRR_ow (w:World) (base O:Nat):ROw w base O zRR:=⟨Ow.nil _ _ _,Ow.nil _ _ _,Ow.nil _ _ _,fun a h=>(by cases h),fun a h=>(by cases h),fun a h=>(by cases h)⟩
structure RecSt (w0 w:World) (p g O:Nat) (A:Option Addr) (c:Nat) (b:List UInt8) (s:St) (x:RR):Prop where
 vo:Vx w O 88 x.cells
 vr:Vx w w0.heap.size 88 zRR.cells
 rs:RdS w g A c b s
 on:Only w0 w g
 pc:w.cell? ⟨p,0,none⟩=some (.pointer (some ⟨g,0,none⟩))
 lo:w0.heap.size<O
 ow:ROw w (w0.heap.size+1) O x
section
variable {w0 w w':World} {p g O:Nat} {A:Option Addr} {c:Nat} {b:List UInt8} {s s':St} {x x':RR} {s00:St}
theorem RecSt.only (h:RecSt w0 w p g O A c b s x) (hO:Only w w' g) (hs:RdS w' g A c b s') (hpg:p≠g) (hg:g<w0.heap.size):RecSt w0 w' p g O A c b s' x:=
 ⟨h.vo.grown hO (fun e=>by have:=Option.some.inj e;have:=h.lo;omega),h.vr.grown hO (fun e=>by have:=Option.some.inj e;omega),hs,h.on.trans hO,hO.cell h.pc hpg,h.lo,h.ow.only hO (by omega)⟩
theorem RecSt.setO (h:RecSt w0 w p g O A c b s x) (h0:RdS w0 g A c b s00) (hp:p<w0.heap.size) (k:Nat) (u:Value) (hx:x.cells.set k u=x'.cells) (how:ROw (w.setCell ⟨O,k,none⟩ u) (w0.heap.size+1) O x'):RecSt w0 (w.setCell ⟨O,k,none⟩ u) p g O A c b s x':=by
 refine ⟨?_,h.vr.setO (by have:=h.lo;omega) _ _,h.rs.newSet h0 (Nat.le_of_lt h.lo) _ _,h.on.newSet (Nat.le_of_lt h.lo) _ _,?_,h.lo,how⟩
 ·have:=h.vo.set_ k u
  rwa [hx] at this
 ·rw [World.cell?_setCell_other _ _ _ _ (by intro e;injection e with e1;have:=h.lo;omega)]
  exact h.pc
theorem Only.row (w:World) (q:Nat) (ds:Array Value):Only w (w.setRow q ds) q:=
 ⟨rfl,rfl,rfl,by simp,fun i _ hne=>setRow_other w q i ds (fun e=>hne (by rw [e]))⟩
theorem Only.join {a b d:World} {g q:Nat} (h:Only a b g) (k:Only b d q) (hq:a.heap.size≤q):Only a d g:=
 ⟨k.os.trans h.os,k.tape.trans h.tape,k.output.trans h.output,Nat.le_trans h.size k.size,fun i hi hne=>(k.block i (Nat.lt_of_lt_of_le hi h.size) (fun e=>by have:=Option.some.inj e;omega)).trans (h.block i hi hne)⟩
theorem RdS.other {w0 w w':World} {g q:Nat} {A:Option Addr} {c:Nat} {b:List UInt8} {s0 s:St} (h:RdS w g A c b s) (h0:RdS w0 g A c b s0) (hq:w0.heap.size≤q) (hO:Only w w' q):RdS w' g A c b s:=by
 refine ⟨h.vx.grown hO (fun e=>by have:=h0.vx.lt;have:=Option.some.inj e;omega),⟨h.rd.1,fun hn=>?_⟩,h.cap,h.len,h.off,h.ok,h.sm⟩
 obtain ⟨bb,o,rfl,hb,hc⟩:=h.rd.2 hn
 obtain ⟨b',o',e,hb',_⟩:=h0.rd.2 hn
 cases e
 exact ⟨bb,o,rfl,Nat.lt_of_lt_of_le hb hO.size,fun j u' hu=>World.grownBy.cell hO (hc j u' hu) (fun e=>by have:=Option.some.inj e;simp at this;omega)⟩
theorem RecSt.fin (h:RecSt w0 w p g O A c b s x) (h0:RdS w0 g A c b s00) (x':RR) (how:ROw w (w0.heap.size+1) O x'):Vx (w.setRow w0.heap.size x'.cells.toArray) w0.heap.size 88 x'.cells∧RdS (w.setRow w0.heap.size x'.cells.toArray) g A c b s∧Only w0 (w.setRow w0.heap.size x'.cells.toArray) g∧ROw (w.setRow w0.heap.size x'.cells.toArray) w0.heap.size O x':=
 ⟨h.vr.row _,h.rs.other h0 (Nat.le_refl _) (Only.row _ _ _),h.on.join (Only.row _ _ _) (Nat.le_refl _),(how.only (Only.row _ _ _) (Nat.lt_succ_self _)).mono (Nat.le_succ _)⟩
theorem Ow.onlyN {t:TypeId} {base n:Nat} {A:Option Addr} {c:Nat} {xs:List Value} {q:Nat} (h:Ow w base t (.slice A n c) xs) (hO:Only w w' q) (hA:∀ a,A=some a→a.block≠q):Ow w' base t (.slice A n c) xs:=
 World.ownsRow.kept (row:=some q) h hO (by
  cases A with
  | none=>exact .inl rfl
  | some a=>exact .inr (fun e=>hA a rfl (Option.some.inj e)))
def RNe (x:RR) (q:Nat):Prop:=(∀ a,x.A=some a→a.block≠q)∧(∀ a,x.dA=some a→a.block≠q)∧(∀ a,x.tA=some a→a.block≠q)
theorem ROw.ne {base:Nat} (h:ROw w base O x) {q:Nat} (hq:w.heap.size≤q):RNe x q:=
 ⟨fun a ha=>by have:=ow_blk h.n a ha;omega,fun a ha=>by have:=ow_blk h.d a ha;omega,fun a ha=>by have:=ow_blk h.t a ha;omega⟩
theorem RecSt.other {q:Nat} (h:RecSt w0 w p g O A c b s x) (h0:RdS w0 g A c b s00) (hp:p<w0.heap.size) (hO:Only w w' q) (hq:O<q) (hn:RNe x q):RecSt w0 w' p g O A c b s x:=by
 have hlo:=h.lo
 exact ⟨h.vo.grown hO (fun e=>by have:=Option.some.inj e;omega),h.vr.grown hO (fun e=>by have:=Option.some.inj e;omega),h.rs.other h0 (by omega) hO,h.on.join hO (by omega),hO.cell h.pc (by show p≠q;omega),h.lo,⟨h.ow.n.onlyN hO hn.1,h.ow.d.onlyN hO hn.2.1,h.ow.t.onlyN hO hn.2.2,h.ow.an,h.ow.ad,h.ow.at_⟩⟩
theorem RdS.otherA {q:Nat} (h:RdS w g A c b s) (hgq:g≠q) (hA:0<b.length→∀ a,A=some a→a.block≠q) (hO:Only w w' q):RdS w' g A c b s:=by
 refine ⟨h.vx.grown hO (fun e=>hgq (Option.some.inj e)),⟨h.rd.1,fun hn=>?_⟩,h.cap,h.len,h.off,h.ok,h.sm⟩
 obtain ⟨bb,o,rfl,hb,hc⟩:=h.rd.2 hn
 exact ⟨bb,o,rfl,Nat.lt_of_lt_of_le hb hO.size,fun j u' hu=>World.grownBy.cell hO (hc j u' hu) (fun e=>hA hn _ rfl (Option.some.inj e))⟩
theorem RdS.blk (h:RdS w g A c b s) (hn:0<b.length):∀ a,A=some a→a.block<w.heap.size:=by
 obtain ⟨bb,o,rfl,hb,_⟩:=h.rd.2 hn
 intro a ha;cases ha;exact hb
theorem RdS.sub (h:RdS w g A c b s) (m D:Nat) (hm:m≤b.length) (hD:D≤m) (hpos:0<b.length):RdS (w.alloc (.cells #[.slice A m c,.int .i64 (D:Int),.int .i64 0] 137)) w.heap.size A c (b.take m) ⟨D,0⟩:=by
 have hl:(b.take m).length=m:=by rw [List.length_take];omega
 have hb:=h.blk hpos
 refine ⟨?_,?_,by rw [hl];have:=h.cap;omega,by rw [hl];have:=h.len;omega,fun a ha=>by have:=hb a ha;omega,fun _=>by rw [hl];exact hD,⟨by simp,by have:=h.len;simp only;omega⟩⟩
 ·rw [hl];exact Vx.new w _ _
 ·have:=(h.rd.preB (k:=m) hm).goes (below_new w (.cells #[.slice A m c,.int .i64 (D:Int),.int .i64 0] 137))
  rw [hl];exact this
theorem newnum_at2 (g:Nat) {s0:St} (hS:RdS w g A c b s0) :
 Calls Tryz.prog 75 #[.pointer (some ⟨g,0,none⟩)] w fun e w'=>∃ p2,e = .returned (.func (.func 111) #[] #[.pointer (some ⟨p2,0,none⟩)])∧RdS w' g A c b s0∧Below w.heap.size w w'∧w'.cell? ⟨p2,0,none⟩=some (.pointer (some ⟨g,0,none⟩))∧p2≠g:=by
 refine (newnum_at g w).mono ?_
 rintro e w' ⟨rfl,rfl⟩
 exact ⟨w.heap.size,rfl,hS.go (below_new _ _),below_new _ _,(Vx.new w _ [.pointer (some ⟨g,0,none⟩)]).cell 0,fun e=>by have:=hS.vx.lt;omega⟩
end
theorem or_join32 (x y:Nat) (hx:x<65536) (hy:y<65536):bits .or .u32 ((x:Int)*65536) (y:Int)=((65536*x+y:Nat):Int):=by
 have e:(x:Int)*65536=((x*65536:Nat):Int):=by omega
 rw [e,u32_or_nat _ _ (by omega) (by omega)]
 have:=nat_join 16 (x*65536) y (by omega) (by omega)
 rw [this]
 omega
theorem rNum_lt (b:List UInt8) (s:St):(rNum b s).1<65536:=num2_le _
def rRk (b:List UInt8) (q:Qn) (hi lo:Nat) (d:List UInt8 × St):Rc × St:=
 if d.2.e≠0 then (zR,d.2)
 else if q.ty≠33 then (⟨q,65536*hi+lo,d.1,0,0,0,[]⟩,d.2)
 else if d.1.length<7 then (zR,⟨d.2.at_,172⟩)
 else
  let o:=b.take d.2.at_
  let p:=rNum o ⟨d.2.at_ - d.1.length,0⟩
  let w:=rNum o p.2
  let k:=rNum o w.2
  let t:=rName o k.2
  (⟨q,65536*hi+lo,[],p.1,w.1,k.1,t.1⟩,if t.2.e≠0∨t.2.at_≠d.2.at_ then ⟨d.2.at_,172⟩ else d.2)
theorem take_at2 (g:Nat) (A:Option Addr) (c n:Nat) (b:List UInt8) (s:St) (d:List UInt8 × St) (hd:d=rTake b n s) (w:World) (h:RdS w g A c b s) (hn:n≤65535) :
 Calls Tryz.prog 112 #[.pointer (some ⟨g,0,none⟩),.int .i64 (n:Int)] w fun e w'=>∃ A' c',e = .returned (.slice A' n c')∧n≤c'∧Rd w' w'.heap.size A' n (bc d.1)∧RdS w' g A c b d.2∧Only w w' g∧(∀ a,A'=some a→a.block≠g):=by
 subst hd;exact take_at g A c n b s w h hn
end Go.Proofs.YtlipmlbijddopaaGreatDoor
