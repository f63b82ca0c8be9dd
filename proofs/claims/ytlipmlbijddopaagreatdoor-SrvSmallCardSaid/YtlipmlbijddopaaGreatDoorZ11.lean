/-
  DnsW1; DnsW2
-/
import Derived.Test.YtlipmlbijddopaaGreatDoorZ04
import Derived.Test.YtlipmlbijddopaaGreatDoorZ09
import Derived.Test.YtlipmlbijddopaaGreatDoorZ10
import Derived.Deep.RegionHeld3
import Derived.Test.YtlipmlbijddopaaGreatDoorZ08
set_option linter.unusedVariables false
set_option linter.unusedSimpArgs false
namespace Go.Proofs.YtlipmlbijddopaaGreatDoor
open Go.RowKit
def uc (l:List Nat):List Value:=l.map fun (n:Nat)=>Value.int .u16 (n:Int)
@[simp] theorem uc_length (l:List Nat):(uc l).length=l.length:=by simp [uc]
theorem bc_app (a b:List UInt8):bc (a++b)=bc a++bc b:=by simp [bc]
theorem bc_two (x:Nat) (h:x<65536):bc (two x)=[.int .u8 ((x:Int) / 256),.int .u8 ((x:Int) % 256)]:=by
 have e:(x / 256 % 256:Nat)=x / 256:=by omega
 simp [bc,two,e]
theorem twos_take (l:List Nat) (k:Nat) (h:k<l.length):twos (l.take (k+1))=twos (l.take k)++two l[k]:=by
 rw [List.take_succ_eq_append_getElem h,twos_snoc]
theorem lit_src {P:Program} {w:World} {tx e':TypeId} (hk:P.underlying tx=some (.slice e')) (e:TypeId) (cs:List Value) (n:Nat) (hn:cs.length=n) (hm:cs.length≤maxLen) (h1:∀ u∈cs,u.oneCell'=true) :
 Src P 1 tx (.slice (some ⟨w.heap.size,0,none⟩) n n) n cs (w.alloc (.cells cs.toArray e)):=(Rd.lit w e cs n hn hm).src hk h1
def Off (A:Option Addr) (v:Value):Prop:=∀ g b o,v.ownBlock=some g→A=some ⟨b,o,none⟩→b≠g
theorem Off.gr {w w':World} {A:Option Addr} {v v':Value} {n:Nat} {xs:List Value} (h:Off A v) (hr:Rd w w.heap.size A n xs) (hg:Gr w w' v v'):Rd w' w'.heap.size A n xs:=by
 refine ⟨hr.1,fun hn=>?_⟩
 obtain ⟨b,o,rfl,hb,hc⟩:=hr.2 hn
 refine ⟨b,o,rfl,Nat.lt_of_lt_of_le hb hg.1.size,fun j u hu=>(World.cell?_of_block (hg.1.block b hb (fun e=>?_))).trans (hc j u hu)⟩
 exact h b b o e.symm rfl rfl
theorem Rd.grA {w w':World} {A:Option Addr} {v v':Value} {n:Nat} {xs:List Value} (hr:Rd w w.heap.size A n xs) (hg:Gr w w' v v') (h:0<n→∀ a,A=some a→v.ownBlock≠some a.block):Rd w' w'.heap.size A n xs:=by
 refine ⟨hr.1,fun hn=>?_⟩
 obtain ⟨b,o,rfl,hb,hc⟩:=hr.2 hn
 refine ⟨b,o,rfl,Nat.lt_of_lt_of_le hb hg.1.size,fun j u hu=>(World.cell?_of_block (hg.1.block b hb (fun e=>h hn _ rfl e.symm))).trans (hc j u hu)⟩
theorem Off.lit {w:World} {base:Nat} {e:TypeId} {v:Value} {xs:List Value} (h:Ow w base e v xs):Off (some ⟨w.heap.size,0,none⟩) v:=by
 intro g b o hg e
 have:=ow_block_lt h g hg
 cases e
 omega
set_option maxRecDepth 100000 in
set_option maxHeartbeats 400000 in
theorem numbers_at (v:Value) (b:List UInt8) (base:Nat) (A:Option Addr) (c n:Nat) (l:List Nat) (w:World) (hO:Ow w base 5 v (bc b)) (hr:Rd w w.heap.size A n (uc l)) (hl:l.length=n) (hx:∀ x∈l,x<65536) (hB:base≤w.heap.size) (hof:Off A v) (hs:b.length+2*n≤1000000000000) :
 Calls Tryz.prog 87 #[v,.slice A n c] w fun e w'=>∃ v',e = .returned v'∧Ow w' base 5 v' (bc (b++twos l))∧Gr w w' v v':=by
 obtain ⟨i0,hi,hz0,hz1,hz2⟩:=info_parts Tryz.infoByte
 have HO:=Lib.hid hO
 have HR:=Lib.hid hr
 have HF:=Lib.hid hof
 clear hO hr hof
 go_enter Tryz.func87,Tryz.ntmps87
 go_wp2_with fail
 go_loopw [0,6,9] (fun v0 _ i wr=>∃ k:Nat,k≤n∧i = .int .i64 k∧Hid (Ow wr base 5 v0 (bc (b++twos (l.take k))))∧Hid (Gr w wr v v0)) (fun _ _ i _=>n - (intOf i).toNat)
 case atStart=>exact ⟨0,Nat.zero_le _,rfl,Lib.hid (by simpa [twos] using HO.out),Lib.hid (Gr.refl _ _)⟩
 case round=>
  obtain ⟨k,hk,rfl,HO1,HG1⟩:=hrel
  rcases Nat.lt_or_ge k n with hlt | hge
  ·have hkl:k<l.length:=by omega
   obtain ⟨b2,o2,rfl,_,hc⟩:=(HF.out.gr HR.out HG1.out).at_ hlt
   have hc0:=hc k (.int .u16 (l[k]:Int)) (by simp [uc,hkl])
   have hx0:=hx _ (List.getElem_mem hkl)
   have htw:=twos_length (l.take k)
   have htl:(l.take k).length=k:=by rw [List.length_take];omega
   have hsz:=HG1.out.1.size
   clear hc
   go_wp2_with (at_builtin;refine wpList_app _ rfl _ _ _ _ rfl base 5 i0 (.int .u8 0) 1 Tryz.underlying22 hi hz0 hz1 hz2 rfl (Nat.le_refl _) _ _ (HO1.out.alloc _) rfl 2 [.int .u8 ((l[k]:Int) / 256),.int .u8 ((l[k]:Int) % 256)] (lit_src Tryz.underlying22 _ _ 2 rfl (by simp [maxLen]) (by simp;exact ⟨rfl,rfl⟩)) (by simp;omega) (by simp;omega) ?_;intro v2 w2 hown2 hgr2 hsz2)
   go_roundw
   case rel=>
    refine ⟨k+1,by omega,by go_num,Lib.hid ?_,Lib.hid ?_⟩
    ·rw [twos_take l k hkl,←List.append_assoc,bc_app,bc_two _ hx0];exact hown2
    ·exact ((HG1.out.alloc _).trans hgr2)
   case measure=>simp [intOf];omega
  ·go_wp2_with fail
   go_ret
   refine ⟨_,rfl,?_,HG1.out⟩
   have:=HO1.out
   rwa [List.take_of_length_le (by omega)] at this
theorem Off.none (A:Option Addr) (n c:Nat):Off A (.slice none n c):=by
 intro g b o h;simp [Value.ownBlock] at h
theorem form_len {n:List (List UInt8)} (h:rightN n=true):(formN n).length≤255:=by rw [formN_length];exact size_right h
theorem dataR_len {r:Rc} (h:rightR r=true):(dataR r).length≤4096:=by
 unfold rightR at h
 unfold dataR
 split at h
 ·split
  ·rw [if_pos (by assumption)] at h
   split at h
   ·have:=form_len h
    simp [two];omega
   ·cases h
  ·rw [if_neg (by assumption)] at h
   simp at h
   exact h.1
 ·cases h
theorem Gr.below0 {w w':World} {v':Value} {n c:Nat} (h:Gr w w' (.slice none n c) v'):Below w.heap.size w w':=h.below (fun g hg=>by simp [Value.ownBlock] at hg) (Nat.le_refl _)
set_option maxRecDepth 100000 in
set_option maxHeartbeats 400000 in
theorem data_at (x:RR) (w:World) (h:RRd w w.heap.size x) (hr:rightR x.r=true) :
 Calls Tryz.prog 89 #[.agg x.cells.toArray] w fun e w'=>∃ A c,e = .returned (.slice A (dataR x.r).length c)∧(dataR x.r).length≤c∧Rd w' w'.heap.size A (dataR x.r).length (bc (dataR x.r))∧Below w.heap.size w w'∧((A=x.dA∧dataR x.r=x.r.d)∨∀ a,A=some a→w.heap.size≤a.block):=by
 obtain ⟨A,c,dA,dc,tA,tc,⟨⟨nm,ty,cl⟩,ttl,d,pr,we,po,tg⟩⟩:=x
 obtain ⟨⟨⟨hn,hnc,hns⟩,hty,hcl⟩,⟨hd,hdc,hdl⟩,⟨ht,htc,hts⟩,httl,hpr,hwe,hpo⟩:=h
 simp only [RR.qr] at hn hnc hns hty hcl hd hdc hdl ht htc hts httl hpr hwe hpo
 simp only at hr
 obtain ⟨i0,hi,hz0,hz1,hz2⟩:=info_parts Tryz.infoByte
 have H2:=Lib.hid ht
 have H3:=Lib.hid hd
 have hb0:∀ o:Obj,Below w.heap.size w (w.alloc o):=fun o=>(Below.refl _ w).alloc (Nat.le_refl _) o
 clear hn ht hd
 unfold RR.cells
 simp only
 by_cases h33:ty=33
 ·subst h33
  have htr:rightN tg=true:=by
   simp [rightR] at hr
   exact hr.2.2
  have hfl:=form_len htr
  have hD:dataR ⟨⟨nm,33,cl⟩,ttl,d,pr,we,po,tg⟩=twos [pr,we,po]++formN tg:=by simp [dataR,twos]
  rw [hD]
  clear hr hD
  go_enter Tryz.func89,Tryz.ntmps89
  go_wp2_with (first
   | (at_builtin;refine wpList_app _ rfl _ _ _ _ rfl w2.heap.size 5 i0 (.int .u8 0) 1 Tryz.underlying22 hi hz0 hz1 hz2 rfl (Nat.le_refl _) _ _ hown3 rfl (formN tg).length (bc (formN tg)) (HFm.out.src Tryz.underlying22 (bc_one _)) (by simp [twos_length];omega) hsz3 ?_;intro v4 w4 hown4 hgr4 hsz4)
   | (go_at_call 87;refine (numbers_at (.slice none 0 0) [] w2.heap.size _ _ 3 [pr,we,po] _ (Ow.nil _ _ _) (Rd.lit_top w2 _ (uc [pr,we,po]) 3 _ rfl rfl (by simp [maxLen])) rfl (by simp;omega) (by simp) (Off.none _ _ _) (by simp)).mono ?_;rintro e w3 ⟨v3,rfl,hown3,hgr3⟩;have HFm:=Lib.hid ((hrf.alloc_top' _).goes hgr3.below0);have hsz3:w2.heap.size≤w3.heap.size:=by (have:=hgr3.1.size;simp at this;omega))
   | (go_at_call 130;refine (form_ok tA tc tg _ (H2.out.alloc_top' _) htr).mono ?_;rintro e w2 ⟨vf,rfl,hof,hb2⟩;obtain ⟨Af,cf,rfl,hcf,hrf⟩:=hof.form6 _ (bc_length _);obtain ⟨c0,c1,c2,c3,c4,c5,c6,c7,c8⟩:=(Vx.below (Vx.new w 88 (RR.cells ⟨A,c,dA,dc,tA,tc,⟨⟨nm,33,cl⟩,ttl,d,pr,we,po,tg⟩⟩)) hb2 (by simp)).c9))
  rw [←bc_app,List.nil_append] at hown4
  obtain ⟨A4,c4,rfl,hc4,hr4⟩:=hown4.form6 _ (bc_length _)
  have hB2:Below w.heap.size w w2:=(hb0 _).trans (hb2.mono (by simp))
  have hB4:Below w2.heap.size w2 w4:=(((Below.refl _ w2).alloc (Nat.le_refl _) _).trans (hgr3.below0.mono (by simp))).trans (hgr4.below hown3.lt hsz3)
  go_ret
  exact ⟨A4,c4,rfl,hc4,hr4,hB2.trans (hB4.mono hB2.size),Or.inr (fun a ha=>by subst ha;exact Nat.le_trans hB2.size (hown4.lt a.block rfl))⟩
 ·have hD:dataR ⟨⟨nm,ty,cl⟩,ttl,d,pr,we,po,tg⟩=d:=by simp [dataR,h33]
  rw [hD]
  clear hr hD
  have h33':¬ (ty:Int)=33:=by omega
  go_enter Tryz.func89,Tryz.ntmps89
  go_wp2_with fail
  go_ret
  exact ⟨dA,dc,rfl,hdc,H3.out.alloc_top' _,hb0 _,Or.inl (by simp)⟩
end Go.Proofs.YtlipmlbijddopaaGreatDoor
set_option linter.unusedVariables false
set_option linter.unusedSimpArgs false
namespace Go.Proofs.YtlipmlbijddopaaGreatDoor
open Go.RowKit
def WrS (w:World) (g base:Nat) (vb vk:Value) (s:Wr):Prop:=
 Vx w g 156 [vb,vk]∧Owns w base [(5,vb,bc s.1),(3,vk,ic s.2)]∧(vb.ownBlock≠some g∧vk.ownBlock≠some g)∧base≤g∧base≤w.heap.size
theorem gr_ne {w w':World} {v v':Value} {g:Nat} (hg:Gr w w' v v') (hv:v.ownBlock≠some g) (hl:g<w.heap.size):v'.ownBlock≠some g:=fun e=>(hg.2 g e).elim hv (fun h=>by omega)
theorem Tryz.infoI:(Tryz.prog.info? 3).map (fun i=>(i.zero,i.size,i.bytes))=some (some (.int .i64 0),1,8):=by kernel_rfl
structure KW (w w':World) (g:Nat) (vb vk:Value):Prop where
 os:w'.os=w.os
 tape:w'.tape=w.tape
 output:w'.output=w.output
 size:w.heap.size≤w'.heap.size
 block:∀ q,q<w.heap.size→q≠g→vb.ownBlock≠some q→vk.ownBlock≠some q→w'.heap[q]? = w.heap[q]?
theorem KW.of_below {w w':World} {g:Nat} {vb vk:Value} (h:Below w.heap.size w w'):KW w w' g vb vk:=⟨h.os,h.tape,h.output,h.size,fun q hq _ _ _=>h.block q hq⟩
theorem KW.far {w w' w2:World} {g:Nat} {vb vk:Value} (h:KW w w' g vb vk) (k:Below w'.heap.size w' w2):KW w w2 g vb vk:=
 ⟨k.os.trans h.os,k.tape.trans h.tape,k.output.trans h.output,Nat.le_trans h.size k.size,fun q hq a b c=>(k.block q (Nat.lt_of_lt_of_le hq h.size)).trans (h.block q hq a b c)⟩
theorem KW.setG {w w':World} {g:Nat} {vb vk:Value} (h:KW w w' g vb vk) (k:Nat) (u:Value):KW w (w'.setCell ⟨g,k,none⟩ u) g vb vk:=
 ⟨h.os,h.tape,h.output,by simpa using h.size,fun q hq a b c=>(heap_setCell_other w' ⟨g,k,none⟩ q u a).trans (h.block q hq a b c)⟩
theorem KW.gr {w w' w2:World} {g:Nat} {vb vk v v2:Value} (h:KW w w' g vb vk) (k:Gr w' w2 v v2) (hv:∀ q,v.ownBlock=some q→vb.ownBlock=some q∨vk.ownBlock=some q∨w.heap.size≤q):KW w w2 g vb vk:=
 ⟨k.1.os.trans h.os,k.1.tape.trans h.tape,k.1.output.trans h.output,Nat.le_trans h.size k.1.size,fun q hq a b c=>(k.1.block q (Nat.lt_of_lt_of_le hq h.size) (fun e=>by
  rcases hv q e.symm with h1 | h1 | h1
  ·exact b h1
  ·exact c h1
  ·omega)).trans (h.block q hq a b c)⟩
theorem KW.below {w w':World} {g base:Nat} {vb vk:Value} (h:KW w w' g vb vk) (hg:base≤g) (hb:∀ q,vb.ownBlock=some q→base≤q) (hk:∀ q,vk.ownBlock=some q→base≤q) (hB:base≤w.heap.size):Below base w w':=by
 have hblk:∀ q,q<base→w'.heap[q]? = w.heap[q]?:=fun q hq=>h.block q (by omega) (by omega) (fun e=>by have:=hb q e;omega) (fun e=>by have:=hk q e;omega)
 exact ⟨h.os,h.tape,h.output,h.size,hblk⟩
theorem Owns.tail {w:World} {base:Nat} {x:TypeId × Value × List Value} {l:OwnL} (h:Owns w base (x :: l)):Owns w base l:=⟨fun y hy=>h.1 y (List.mem_cons_of_mem _ hy),(List.pairwise_cons.1 h.2).2⟩
theorem Owns.setO {w:World} {base g:Nat} {l:OwnL} (h:Owns w base l) (hg:∀ x∈l,x.2.1.ownBlock≠some g) (k:Nat) (u:Value):Owns (w.setCell ⟨g,k,Option.none⟩ u) base l:=
 ⟨fun x hx=>ownsRow_setCell_other (a:=⟨g,k,Option.none⟩) (h.1 x hx) (fun e=>hg x hx e) u,h.2⟩
theorem two_ne {x y:TypeId × Value × List Value} {g:Nat} (h1:x.2.1.ownBlock≠some g) (h2:y.2.1.ownBlock≠some g):∀ z∈[x,y],z.2.1.ownBlock≠some g:=by
 intro z hz
 simp at hz
 rcases hz with rfl | rfl
 ·exact h1
 ·exact h2
theorem Owns.swap2 {w:World} {base:Nat} {x y:TypeId × Value × List Value} (h:Owns w base [x,y]):Owns w base [y,x]:=h.perm (List.Perm.swap _ _ _)
theorem Vx.set2 {w:World} {g:Nat} {e:TypeId} {a b:Value} (h:Vx w g e [a,b]) (u:Value):Vx (w.setCell ⟨g,0,none⟩ u) g e [u,b]:=h.set_ 0 u
theorem Vx.set2' {w:World} {g:Nat} {e:TypeId} {a b:Value} (h:Vx w g e [a,b]) (u:Value):Vx (w.setCell ⟨g,1,none⟩ u) g e [a,u]:=h.set_ 1 u
set_option maxRecDepth 100000 in
set_option maxHeartbeats 1000000 in
theorem asked_at (g base B:Nat) (vb vk:Value) (s:Wr) (x:QR) (w:World) (hW:WrS w g base vb vk s) (hq:QRd w B x) (hBg:B≤base) (hr:rightN x.q.nm=true) (hs1:s.1.length≤6000) (hs2:s.2.length≤300) :
 Calls Tryz.prog 88 #[.pointer (some ⟨g,0,none⟩),.agg x.cells.toArray] w fun e w'=>e = .returned (.tuple #[])∧∃ vb' vk',WrS w' g base vb' vk' (askB s x.q)∧KW w w' g vb vk:=by
 obtain ⟨A,c,⟨nm,ty,cl⟩⟩:=x
 obtain ⟨⟨hn,hnc,hns⟩,hty,hcl⟩:=hq
 simp only at hn hnc hns hty hcl hr
 obtain ⟨hV,hO,⟨hn1,hn2⟩,hbg,hbs⟩:=hW
 obtain ⟨i0,hi,hz0,hz1,hz2⟩:=info_parts Tryz.infoByte
 obtain ⟨j0,hj,hy0,hy1,hy2⟩:=info_parts Tryz.infoI
 obtain ⟨A1,c1,rfl,hc1,hr1⟩:=(hO.get (List.mem_cons_self)).form6 _ (bc_length _)
 obtain ⟨A2,c2,rfl,hc2,hr2⟩:=(hO.get (List.mem_cons_of_mem _ List.mem_cons_self)).form6 _ (ic_length _)
 have hlt:=hV.lt
 have H1:=Lib.hid hn
 have HV:=Lib.hid hV
 have HO:=Lib.hid hO
 have HR1:=Lib.hid hr1
 have HR2:=Lib.hid hr2
 clear hn hV hO hr1 hr2
 unfold QR.cells
 simp only
 obtain ⟨BB,hBB⟩:∃ BB,BB=(askB s ⟨nm,ty,cl⟩).1:=⟨_,rfl⟩
 have HBe:=Lib.hid (show appN s.1 s.2 nm++twos [ty,cl]=BB by rw [hBB];simp [askB,twos])
 have HBB:=Lib.hid hBB
 have hap:=(app_reads s.1 s.2 nm hr).2.2.1
 have hsr:=size_right hr
 clear hBB
 go_enter Tryz.func88,Tryz.ntmps88
 have hb1:Below w.heap.size w (w.alloc (.cells #[.slice A nm.length c,.int .u16 (ty:Int),.int .u16 (cl:Int)] 76)):=(Below.refl _ w).alloc (Nat.le_refl _) _
 have hV1:Vx (w.alloc (.cells #[.slice A nm.length c,.int .u16 (ty:Int),.int .u16 (cl:Int)] 76)) g 156 [.slice A1 s.1.length c1,.slice A2 s.2.length c2]:=HV.out.alloc _
 have hX1:Vx (w.alloc (.cells #[.slice A nm.length c,.int .u16 (ty:Int),.int .u16 (cl:Int)] 76)) w.heap.size 76 [.slice A nm.length c,.int .u16 (ty:Int),.int .u16 (cl:Int)]:=Vx.new w _ _
 have hz1':(w.alloc (.cells #[.slice A nm.length c,.int .u16 (ty:Int),.int .u16 (cl:Int)] 76)).heap.size=w.heap.size+1:=by simp
 go_upto_region 1 with fail
 generalize w.alloc (.cells #[.slice A nm.length c,.int .u16 (ty:Int),.int .u16 (cl:Int)] 76)=w1 at *
 obtain ⟨k0,k1⟩:=hV1.c2
 obtain ⟨q0,q1,q2⟩:=hX1.c3
 go_upto_region 2 with fail
 have HA:=Lib.hid (show Rd w1 w1.heap.size A nm.length (sc nm) from ((H1.out.more (by omega)).below hb1).more hb1.size)
 have HR1':=Lib.hid (HR1.out.goes hb1)
 have HR2':=Lib.hid (HR2.out.goes hb1)
 go_cut [10] from 11 to 26 (fun _ wx=>∃ A3 c3,(appN s.1 s.2 nm).length≤c3∧Hid (Vx wx g 156 [.slice A3 (appN s.1 s.2 nm).length c3,.slice A2 s.2.length c2])∧Hid (Vx wx w.heap.size 76 [.slice A nm.length c,.int .u16 (ty:Int),.int .u16 (cl:Int)])∧Hid (Owns wx base [(5,.slice A3 (appN s.1 s.2 nm).length c3,bc (appN s.1 s.2 nm)),(3,.slice A2 s.2.length c2,ic s.2)])∧Hid ((Value.slice A3 (appN s.1 s.2 nm).length c3).ownBlock≠some g)∧Hid (∀ q,(Value.slice A3 (appN s.1 s.2 nm).length c3).ownBlock=some q→w.heap.size≤q)∧Hid (KW w wx g (.slice A1 s.1.length c1) (.slice A2 s.2.length c2)))
 case first=>
  go_region_with (first
   | (go_at_call 129
      refine (append_at _ A1 A2 A c1 c2 c s.1.length s.2.length nm.length s.1 s.2 nm rfl rfl rfl HR1'.out.drew hc1 (by omega) HR2'.out.drew (by omega) HA.out.drew hnc hr).mono ?_
      rintro e w2 ⟨v2,rfl,ho2,hb2⟩
      obtain ⟨A3,c3,rfl,hc3,hr3⟩:=ho2.form6 _ (bc_length _)
      have hlt1:g<w1.heap.size:=by omega
      have hlt2:w.heap.size<w1.heap.size:=by omega
      have hb2':Below w1.heap.size w1 w2:=(Below.refl w1.heap.size w1).drew.trans hb2
      have hV2:=Vx.below hV1 hb2' hlt1
      have hX2:=Vx.below hX1 hb2' hlt2
      obtain ⟨m0,m1⟩:=hV2.c2
      have f0:=hV2.free 0
      have f1:=hV2.free 1
      obtain ⟨x0,x1,x2⟩:=hX2.c3))
  all_goals (go_wp2_with fail;go_meet)
  all_goals
   refine ⟨A3,c3,hc3,Lib.hid (hV2.set2 _),Lib.hid (hX2.setO (by omega) _ _),Lib.hid ?_,Lib.hid (fun e=>by have:=ho2.lt g e;have:w1.heap.size≤g:=this;omega),Lib.hid (fun q e=>by have:w1.heap.size≤q:=ho2.lt q e;omega),Lib.hid ?_⟩
   ·exact ((HO.out.far hb1).tail.cons hb2' ho2 (by omega)).setO (two_ne (fun e=>by have:w1.heap.size≤g:=ho2.lt g e;omega) hn2) _ _
   ·exact ((KW.of_below hb1).far hb2').setG _ _
 case rest=>
  clear hb1 hV1 hX1 hz1' k0 k1 q0 q1 q2 HA HR1' HR2' HV HO HR1 HR2
  obtain ⟨A3,c3,hc3,HV,HX,HO,HNe,HNw,HB⟩:=hcut
  obtain ⟨k0,k1⟩:=HV.out.c2
  obtain ⟨q0,q1,q2⟩:=HX.out.c3
  have hltg:=HV.out.lt
  have hltx:=HX.out.lt
  have hbx:=HB.out.size
  have hO1:=HO.out.get (List.mem_cons_self)
  have hlen:(appN s.1 s.2 nm).length≤7000:=by omega
  go_upto_region 3 with fail
  go_cut [10] from 27 to 39 (fun _ wy=>∃ A4 c4,BB.length≤c4∧Hid (Vx wy g 156 [.slice A4 BB.length c4,.slice A2 s.2.length c2])∧Hid (Owns wy base [(5,.slice A4 BB.length c4,bc BB),(3,.slice A2 s.2.length c2,ic s.2)])∧Hid ((Value.slice A4 BB.length c4).ownBlock≠some g)∧Hid (KW w wy g (.slice A1 s.1.length c1) (.slice A2 s.2.length c2)))
  case first=>
   go_region_with (first
    | (go_at_call 87
       refine (numbers_at _ (appN s.1 s.2 nm) base _ _ 2 [ty,cl] _ (hO1.drew.alloc _) (Rd.lit_top _ _ (uc [ty,cl]) 2 _ rfl rfl (by simp [maxLen])) rfl (by simp;omega) (by simp;omega) (Off.lit hO1.drew) (by simp;omega)).mono ?_
       rintro e w2 ⟨v2,rfl,ho2,hg2⟩
       rw [HBe.out] at ho2
       obtain ⟨A4,c4,rfl,hc4,hr4⟩:=ho2.form6 _ (bc_length _)
       have hV2:=((HV.out.drew).alloc (.cells (uc [ty,cl]).toArray 25)).grown hg2.1 (fun e=>HNe.out e.symm)
       have m0:=hV2.c2.1
       have f0:=hV2.free 0))
   all_goals (go_wp2_with fail;go_meet)
   all_goals
    refine ⟨A4,c4,hc4,Lib.hid (hV2.set2 _),Lib.hid ?_,Lib.hid (gr_ne hg2 HNe.out (by simp;exact Nat.lt_succ_of_lt hltg)),Lib.hid ?_⟩
    ·exact (((show Owns wc.drew base _ from HO.out).alloc _).app hg2 ho2).setO (two_ne (gr_ne hg2 HNe.out (by simp;exact Nat.lt_succ_of_lt hltg)) hn2) _ _
    ·exact (((HB.out.far (Below.refl _ wc).drew).far ((Below.refl _ wc.drew).alloc (Nat.le_refl _) _)).gr hg2 (fun q e=>Or.inr (Or.inr (HNw.out q e)))).setG _ _
  case rest=>
   clear HV HX HO HB hO1
   obtain ⟨A4,c4,hc4,HV,HO,HN4,HB⟩:=hcut
   obtain ⟨k0,k1⟩:=HV.out.c2
   have hltg:=HV.out.lt
   have hbx:=HB.out.size
   have f0:=HV.out.free 0
   have f1:=HV.out.free 1
   have hO2:=HO.out.swap2.get (List.mem_cons_self)
   go_wp2_with (at_builtin
                refine wpList_app _ rfl _ _ _ _ rfl base 3 j0 (.int .i64 0) 8 Tryz.underlying48 hj hy0 hy1 hy2 rfl (by omega) _ _ (hO2.alloc _) rfl 1 [.int .i64 (s.1.length:Int)] (one_src Tryz.underlying48 _ rfl) (by simp;omega) (by simp;omega) ?_
                intro v5 w5 hown5 hgr5 hsz5
                obtain ⟨A5,c5,rfl,hc5,hr5⟩:=hown5.form6 (s.2.length+1) (by simp)
                have hV5:=(HV.out.alloc (.cells #[.int .i64 (s.1.length:Int)] 3)).grown hgr5.1 (fun e=>hn2 e.symm)
                have m1:=hV5.c2.2
                have g1:=hV5.free 1)
   first | go_ret | go_ret2 | go_end0
   refine ⟨rfl,.slice A4 BB.length c4,.slice A5 (s.2.length+1) c5,⟨?_,?_,⟨HN4.out,gr_ne hgr5 hn2 (by simp;exact Nat.lt_succ_of_lt hltg)⟩,hbg,?_⟩,?_⟩
   ·exact hV5.set2' _
   ·have h9:=((HO.out.swap2.alloc _).app hgr5 hown5).swap2.setO (two_ne HN4.out (gr_ne hgr5 hn2 (by simp;exact Nat.lt_succ_of_lt hltg))) 1 (.slice A5 (s.2.length+1) c5)
    rw [HBB.out,show ic s.2++[.int .i64 (s.1.length:Int)]=ic (askB s ⟨nm,ty,cl⟩).2 by simp [ic,askB]] at h9
    rw [HBB.out]
    exact h9
   ·simp;omega
   ·exact ((HB.out.far ((Below.refl _ wc).alloc (Nat.le_refl _) _)).gr hgr5 (fun q e=>Or.inr (Or.inl e))).setG _ _
end Go.Proofs.YtlipmlbijddopaaGreatDoor
