/-
  Builder; Text; Parse; Order; Knows; At
-/
import Derived.Test.YtlipmlbijddopaaGreatDoorZ05
import Derived.Lib.Builder
import Derived.Laws.Externs
import Derived.RegionTactic
import Derived.ChangeAlike
import Derived.StillTailTactics
import Derived.Test.YtlipmlbijddopaaGreatDoorZ07
import Derived.Test.YtlipmlbijddopaaGreatDoorZ08
set_option linter.unusedVariables false
namespace Go.Proofs.YtlipmlbijddopaaGreatDoor
open Go.RowKit
def Bd (w:World) (b:Nat) (v:Value):Prop:=∃ p,(p = .pointer none∨p = .pointer (some ⟨b,0,none⟩))∧w.heap[b]? = some (.cells #[p,v] 125 (0,0))
structure Kp (w w':World) (b:Nat) (v v':Value):Prop where
 os:w'.os=w.os
 tape:w'.tape=w.tape
 output:w'.output=w.output
 size:w.heap.size≤w'.heap.size
 block:∀ k,k<w.heap.size→k≠b→v.ownBlock≠some k→w'.heap[k]? = w.heap[k]?
 at_:∀ g,v'.ownBlock=some g→v.ownBlock=some g∨w.heap.size≤g
theorem Kp.refl (w:World) (b:Nat) (v:Value):Kp w w b v v:=⟨rfl,rfl,rfl,Nat.le_refl _,fun _ _ _ _=>rfl,fun _ h=>.inl h⟩
theorem Kp.trans {a b c:World} {k:Nat} {v v1 v2:Value} (h:Kp a b k v v1) (g:Kp b c k v1 v2):Kp a c k v v2:=by
 refine ⟨g.os.trans h.os,g.tape.trans h.tape,g.output.trans h.output,Nat.le_trans h.size g.size,fun i hi h1 h2=>?_,fun i hi=>?_⟩
 ·refine (g.block i (Nat.lt_of_lt_of_le hi h.size) h1 (fun e=>?_)).trans (h.block i hi h1 h2)
  rcases h.at_ i e with h3 | h3
  ·exact h2 h3
  ·omega
 ·rcases g.at_ i hi with h1 | h1
  ·exact h.at_ i h1
  ·exact .inr (Nat.le_trans h.size h1)
theorem Kp.below {w w':World} {b B:Nat} {v v':Value} (h:Kp w w' b v v') (hb:B≤b) (hv:∀ g,v.ownBlock=some g→B≤g) (hB:B≤w.heap.size):Below B w w':=
 ⟨h.os,h.tape,h.output,h.size,fun k hk=>h.block k (by omega) (by omega) (fun e=>by have:=hv k e;omega)⟩
theorem Bd.lt {w:World} {b:Nat} {v:Value} (h:Bd w b v):b<w.heap.size:=by
 obtain ⟨p,_,hb⟩:=h
 rcases Nat.lt_or_ge b w.heap.size with h' | h'
 ·exact h'
 ·simp [Array.getElem?_eq_none h'] at hb
theorem Bd.ne {w:World} {b B:Nat} {v:Value} {xs:List Value} (h:Bd w b v) (ho:Ow w B 5 v xs):v.ownBlock≠some b:=by
 obtain ⟨p,_,hb⟩:=h
 exact Lib.ownBlock_ne ho hb (by decide)
theorem szBd:(Tryz.prog.info? 125).map (·.size)=some 2:=by kernel_rfl
set_option maxRecDepth 100000 in
set_option maxHeartbeats 1000000 in
theorem copyCheck_any (b:Nat) (v:Value) (w:World) (h:Bd w b v) :
 Calls Tryz.prog 110 #[.pointer (some ⟨b,0,none⟩)] w fun e w'=>e = .returned (.tuple #[])∧(w'=w∧w.heap[b]? = some (.cells #[.pointer (some ⟨b,0,none⟩),v] 125 (0,0))∨w'=w.setCell ⟨b,0,none⟩ (.pointer (some ⟨b,0,none⟩))):=by
 obtain ⟨j,hj,hjs⟩:=Option.map_eq_some_iff.1 szBd
 obtain ⟨p,hp,hb⟩:=h
 have h0:w.cell? ⟨b,0,none⟩=some p:=by simp [World.cell?,hb]
 have hfz:w.frozen? ⟨b,0,none⟩=false:=by simp [World.frozen?,hb]
 have hsh:w.shape? b=some (125,2):=by simp [World.shape?,hb]
 rcases hp with rfl | rfl
 ·clear hb
  go_enter Tryz.func110,Tryz.ntmps110
  go_wp2
  rw [Lib.run_to_unsafe w ⟨b,0,none⟩ Tryz.underlying123 Tryz.underlying218 hj (by rw [hjs];decide) hsh (Nat.zero_lt_succ 1)]
  simp only [Result.andThen]
  rw [Oper.upon_value]
  go_wp2
  rw [run_callFunc_extern Tryz.func147 (by kernel_rfl) (by kernel_rfl) (by kernel_rfl) (e:=Extern.AbiNoEscape.same) (by kernel_rfl)]
  rw [Lib.run_noEscape]
  simp only [Result.andThen]
  rw [Oper.upon_value]
  go_wp2
  rw [Lib.run_from_unsafe w ⟨b,0,none⟩ Tryz.underlying218 Tryz.underlying123 hj hsh (by kernel_rfl)]
  simp only [Result.andThen]
  rw [Oper.upon_value]
  go_wp2
  go_end0
  exact ⟨rfl,.inr rfl⟩
 ·have HB:=Lib.hid hb
  clear hb
  go_enter Tryz.func110,Tryz.ntmps110
  go_wp2
  rw [Lib.run_neq_ptr_same w _ Tryz.underlying123 hj]
  go_wp2
  go_end0
  exact ⟨rfl,.inl ⟨rfl,HB.out⟩⟩
theorem Kp.set_ {w:World} {b:Nat} {v v1:Value} (k:Nat) (u:Value) (hv:v1=v):Kp w (w.setCell ⟨b,k,none⟩ u) b v v1:=
 ⟨rfl,rfl,rfl,by simp [World.setCell],fun i _ h1 _=>Below.heap_setCell _ _ _ _ h1,fun g hg=>.inl (by rw [←hv];exact hg)⟩
theorem Kp.gr {w w':World} {b:Nat} {v v1:Value} (h:Gr w w' v v1):Kp w w' b v v1:=
 ⟨h.1.os,h.1.tape,h.1.output,h.1.size,fun i hi _ h2=>h.1.block i hi (fun e=>h2 e.symm),h.2⟩
theorem Kp.alloc {w w':World} {b:Nat} {v v1:Value} (h:Kp w w' b v v1) (o:Obj):Kp w (w'.alloc o) b v v1:=
 ⟨h.os,h.tape,h.output,by have:=h.size;simp;omega,fun i hi h1 h2=>(Below.heap_alloc w' o i (Nat.lt_of_lt_of_le hi h.size)).trans (h.block i hi h1 h2),h.at_⟩
theorem Ow.setFar {w:World} {B b:Nat} {v:Value} {xs:List Value} (h:Ow w B 5 v xs) (hne:v.ownBlock≠some b) (k:Nat) (u:Value):Ow (w.setCell ⟨b,k,none⟩ u) B 5 v xs:=
 World.ownsRow.kept (row:=some b) h ⟨rfl,rfl,rfl,by simp [World.setCell],fun i _ hk=>Below.heap_setCell _ _ _ _ (fun e=>hk (by simp [e]))⟩ (Or.inr hne)
theorem check_kp (b B:Nat) (v:Value) (xs:List Value) (w:World) (h:Bd w b v) (hown:Ow w B 5 v xs) :
 Calls Tryz.prog 110 #[.pointer (some ⟨b,0,none⟩)] w fun e w'=>e = .returned (.tuple #[])∧w'.heap[b]? = some (.cells #[.pointer (some ⟨b,0,none⟩),v] 125 (0,0))∧Ow w' B 5 v xs∧Kp w w' b v v∧∀ k,k≠b→w'.heap[k]? = w.heap[k]?:=by
 refine (copyCheck_any b v w h).mono ?_
 rintro e w' ⟨rfl,⟨rfl,hb⟩ | rfl⟩
 ·exact ⟨rfl,hb,hown,Kp.refl _ _ _,fun _ _=>rfl⟩
 ·obtain ⟨p,_,hb⟩:=id h
  refine ⟨rfl,?_,hown.setFar (h.ne hown) _ _,Kp.set_ _ _ rfl,fun k hk=>Below.heap_setCell _ _ _ _ hk⟩
  simp [World.setCell,Array.getElem?_modify,hb]
set_option maxRecDepth 100000 in
set_option maxHeartbeats 1000000 in
theorem wbyte_any (b B:Nat) (v:Value) (l:List UInt8) (x:Int) (y:UInt8) (hx:x=(y.toNat:Int)) (w:World) (h:Bd w b v) (hown:Ow w B 5 v (bc l)) (hl:l.length+1≤140737488355328) (hB:B≤w.heap.size) :
 Calls Tryz.prog 70 #[.pointer (some ⟨b,0,none⟩),.int .u8 x] w fun e w'=>e = .returned .nilIface∧∃ v',Bd w' b v'∧Ow w' B 5 v' (bc (l++[y]))∧Kp w w' b v v':=by
 obtain ⟨i0,hi,hz0,hz1,hz2⟩:=info_parts Tryz.infoByte
 go_enter Tryz.func70,Tryz.ntmps70
 go_wp2_with (go_at_call 110;refine (check_kp b B v (bc l) w h hown).mono ?_)
 rintro e w1 ⟨rfl,hb1,hown1,hk1,_⟩
 have hbl:b<w1.heap.size:=Nat.lt_of_lt_of_le h.lt hk1.size
 have hne:=h.ne hown
 have c0:w1.cell? ⟨b,0,none⟩=some (.pointer (some ⟨b,0,none⟩)):=by rw [Lib.cell_of_heap hb1];rfl
 have c1:w1.cell? ⟨b,1,none⟩=some v:=by rw [Lib.cell_of_heap hb1];rfl
 have hs1:=hk1.size
 have HB1:=Lib.hid hb1
 have HX:=Lib.hid hx
 clear hb1 hx
 go_wp2_with (at_builtin;refine wpList_app _ rfl _ _ _ _ rfl B 5 i0 (.int .u8 0) 1 Tryz.underlying22 hi hz0 hz1 hz2 rfl (Nat.le_refl _) _ _ (hown1.alloc _) rfl 1 [_] (one_src Tryz.underlying22 _ rfl) (by simp;omega) (by simp;omega) ?_)
 intro v2 w2 hown2 hgr2 hsz2
 have hb2:w2.heap[b]? = some (.cells #[.pointer (some ⟨b,0,none⟩),v] 125 (0,0)):=by
  rw [hgr2.1.block b (by simp;omega) (fun e=>hne e.symm),Below.heap_alloc w1 _ b hbl]
  exact HB1.out
 have d0:w2.cell? ⟨b,0,none⟩=some (.pointer (some ⟨b,0,none⟩)):=by rw [Lib.cell_of_heap hb2];rfl
 have d1:w2.cell? ⟨b,1,none⟩=some v:=by rw [Lib.cell_of_heap hb2];rfl
 have d2:w2.frozen? ⟨b,1,none⟩=false:=by rw [Lib.frozen_of_heap hb2]
 have hne2:v2.ownBlock≠some b:=Lib.ownBlock_ne hown2 hb2 (by decide)
 have HB2:=Lib.hid hb2
 clear hb2
 obtain ⟨A2,cc2,rfl,_,_,_⟩:=hown2.form
 go_wp2
 go_ret
 refine ⟨rfl,_,⟨_,.inr rfl,?_⟩,?_,(hk1.trans (((Kp.refl w1 b v).alloc _).trans (Kp.gr hgr2))).trans (Kp.set_ _ _ rfl)⟩
 ·simp [World.setCell,Array.getElem?_modify,HB2.out]
 ·have e1:bc (l++[y])=bc l++[.int .u8 x]:=by simp [bc,HX.out]
  rw [e1]
  exact hown2.setFar hne2 _ _
set_option maxRecDepth 100000 in
set_option maxHeartbeats 1000000 in
theorem write_any (b B:Nat) (v:Value) (l m:List UInt8) (A:Option Addr) (c B':Nat) (w:World) (h:Bd w b v) (hown:Ow w B 5 v (bc l)) (hm:Rd w B' A m.length (bc m)) (hm2:∀ g o,A=some ⟨g,o,none⟩→g≠b) (hl:l.length+m.length≤140737488355328) (hB:B≤w.heap.size) :
 Calls Tryz.prog 71 #[.pointer (some ⟨b,0,none⟩),.slice A m.length c] w fun e w'=>e = .returned (.tuple #[.int .i64 m.length,.nilIface])∧∃ v',Bd w' b v'∧Ow w' B 5 v' (bc (l++m))∧Kp w w' b v v':=by
 obtain ⟨i0,hi,hz0,hz1,hz2⟩:=info_parts Tryz.infoByte
 go_enter Tryz.func71,Tryz.ntmps71
 go_wp2_with (go_at_call 110;refine (check_kp b B v (bc l) w h hown).mono ?_)
 rintro e w1 ⟨rfl,hb1,hown1,hk1,hfar⟩
 have hm1:Rd w1 B' A m.length (bc m):=⟨hm.1,fun hn=>by
  obtain ⟨g,o,e,hg,hc⟩:=hm.2 hn
  exact ⟨g,o,e,hg,fun j u hu=>(World.cell?_of_block (hfar g (hm2 g o e))).trans (hc j u hu)⟩⟩
 have hbl:b<w1.heap.size:=Nat.lt_of_lt_of_le h.lt hk1.size
 have hne:=h.ne hown
 have c0:w1.cell? ⟨b,0,none⟩=some (.pointer (some ⟨b,0,none⟩)):=by rw [Lib.cell_of_heap hb1];rfl
 have c1:w1.cell? ⟨b,1,none⟩=some v:=by rw [Lib.cell_of_heap hb1];rfl
 have hs1:=hk1.size
 have HB1:=Lib.hid hb1
 clear hb1 hfar hm2
 go_wp2_with (at_builtin;refine wpList_app _ rfl _ _ _ _ rfl B 5 i0 (.int .u8 0) 1 Tryz.underlying22 hi hz0 hz1 hz2 rfl (Nat.le_refl _) _ _ hown1 rfl m.length (bc m) (hm1.src Tryz.underlying22 (bc_one m)) (by simp;omega) (by omega) ?_)
 intro v2 w2 hown2 hgr2 hsz2
 have hb2:w2.heap[b]? = some (.cells #[.pointer (some ⟨b,0,none⟩),v] 125 (0,0)):=by
  rw [hgr2.1.block b hbl (fun e=>hne e.symm)]
  exact HB1.out
 have d0:w2.cell? ⟨b,0,none⟩=some (.pointer (some ⟨b,0,none⟩)):=by rw [Lib.cell_of_heap hb2];rfl
 have d1:w2.cell? ⟨b,1,none⟩=some v:=by rw [Lib.cell_of_heap hb2];rfl
 have d2:w2.frozen? ⟨b,1,none⟩=false:=by rw [Lib.frozen_of_heap hb2]
 have hne2:v2.ownBlock≠some b:=Lib.ownBlock_ne hown2 hb2 (by decide)
 have HB2:=Lib.hid hb2
 clear hb2
 obtain ⟨A2,cc2,rfl,_,_,_⟩:=hown2.form
 go_wp2
 go_ret2
 refine ⟨rfl,_,⟨_,.inr rfl,?_⟩,?_,(hk1.trans (Kp.gr hgr2)).trans (Kp.set_ _ _ rfl)⟩
 ·simp [World.setCell,Array.getElem?_modify,HB2.out]
 ·have e1:bc (l++m)=bc l++bc m:=by simp [bc]
  rw [e1]
  exact hown2.setFar hne2 _ _
theorem bstring_any (b B:Nat) (v:Value) (l:List UInt8) (w:World) (h:Bd w b v) (hBb:B≤b) (hown:Ow w B 5 v (bc l)) (hB:B≤w.heap.size) :
 Calls Tryz.prog 72 #[.pointer (some ⟨b,0,none⟩)] w fun e w'=>e = .returned (.string ⟨l.toArray⟩)∧Below B w w':=by
 have e1:Lib.byteCells l=bc l:=rfl
 refine Tryz.Builder_String_any B b l w ?_ hB
 obtain ⟨p,hp,hb⟩:=id h
 rcases hp with rfl | rfl
 ·exact .inl ⟨hBb,v,hb,by rw [e1];exact hown,h.ne hown⟩
 ·exact .inr ⟨hBb,v,hb,by rw [e1];exact hown,h.ne hown⟩
end Go.Proofs.YtlipmlbijddopaaGreatDoor
set_option linter.unusedVariables false
namespace Go.Proofs.YtlipmlbijddopaaGreatDoor
open Go.RowKit
def escB (c:UInt8):List UInt8:=if c.toNat=46∨c.toNat=92 then [92,c] else if 32<c.toNat∧c.toNat<127 then [c] else [92,48+c / 100,48+c / 10 % 10,48+c % 10]
def escL (l:List UInt8):List UInt8:=l.flatMap escB
def tjoin:List (List UInt8)→List UInt8
 | []=>[]
 | l :: n=>escL l++n.flatMap fun m=>46 :: escL m
def textN (n:List (List UInt8)):List UInt8:=if n=[] then [46] else tjoin n
theorem escB_length (c:UInt8):(escB c).length≤4:=by
 unfold escB
 split
 ·simp
 ·split <;> simp
theorem escL_length (l:List UInt8):(escL l).length≤4*l.length:=by
 induction l with
 | nil=>simp [escL]
 | cons c l ih=>
   have:=escB_length c
   simp [escL] at ih ⊢
   omega
theorem escL_take (l:List UInt8) (k:Nat) (h:k<l.length):escL (l.take (k+1))=escL (l.take k)++escB l[k]:=by
 rw [List.take_succ_eq_append_getElem h]
 unfold escL
 rw [List.flatMap_append]
 simp only [List.flatMap_cons,List.flatMap_nil,List.append_nil]
theorem tjoin_snoc (n:List (List UInt8)) (l:List UInt8):tjoin (n++[l])=tjoin n++(if n=[] then [] else [46])++escL l:=by
 cases n with
 | nil=>simp [tjoin]
 | cons a n=>simp [tjoin]
theorem tjoin_take (n:List (List UInt8)) (k:Nat) (h:k<n.length):tjoin (n.take (k+1))=tjoin (n.take k)++(if k=0 then [] else [46])++escL n[k]:=by
 rw [List.take_succ_eq_append_getElem h,tjoin_snoc]
 congr 2
 by_cases hk:k=0
 ·subst hk;simp
 ·rw [if_neg hk,if_neg]
  intro e
  have:=congrArg List.length e
  rw [List.length_take,List.length_nil] at this
  omega
theorem tjoin_length (n:List (List UInt8)):(tjoin n).length≤4*sizeN n:=by
 have h:∀ m:List (List UInt8),(m.flatMap fun l=>46 :: escL l).length+4≤4*sizeN m:=by
  intro m
  induction m with
  | nil=>simp [sizeN]
  | cons a m ih=>
    have:=escL_length a
    simp [sizeN] at ih ⊢
    omega
 cases n with
 | nil=>simp [tjoin]
 | cons a n=>
   have h1:=h n
   have h2:=escL_length a
   simp only [tjoin,sizeN,List.length_append]
   omega
theorem lit_rd (w:World) (e:TypeId) (cs:List Value):Rd (w.alloc (.cells cs.toArray e)) (w.heap.size+1) (some ⟨w.heap.size,0,none⟩) cs.length cs:=by
 refine ⟨rfl,fun _=>⟨w.heap.size,0,rfl,by omega,fun j u hu=>?_⟩⟩
 have:=World.cell?_alloc_mark w cs.toArray e (0,0) j
 rw [Nat.zero_add,this]
 simpa using hu
theorem Bd.alloc {w:World} {b:Nat} {v:Value} (h:Bd w b v) (o:Obj):Bd (w.alloc o) b v:=by
 have hlt:=h.lt
 obtain ⟨p,hp,hb⟩:=h
 exact ⟨p,hp,by rw [Below.heap_alloc w o b hlt];exact hb⟩
theorem Bd.below {w w':World} {b:Nat} {v:Value} (h:Bd w b v) (k:Below w.heap.size w w'):Bd w' b v:=by
 have hlt:=h.lt
 obtain ⟨p,hp,hb⟩:=h
 exact ⟨p,hp,by rw [k.block b hlt];exact hb⟩
theorem Own.kp {w w':World} {g b:Nat} {v v':Value} {xs:List Value} (h:Own w g xs) (k:Kp w w' b v v') (hg:g<w.heap.size) (h1:g≠b) (h2:v.ownBlock≠some g):Own w' g xs:=fun j u hu=>by
 have hb:=k.block g hg h1 h2
 exact ⟨(World.cell?_of_block (w:=w) (a:=⟨g,j,none⟩) hb).trans (h j u hu).1,(World.frozen?_of_block (w:=w) (a:=⟨g,j,none⟩) hb).trans (h j u hu).2⟩
theorem esc_cells (x:UInt8):[Value.int .u8 92,.int .u8 (48+(x.toNat:Int) / 100),.int .u8 (48+(x.toNat:Int) / 10 % 10),.int .u8 (48+(x.toNat:Int) % 10)]=bc [92,48+x / 100,48+x / 10 % 10,48+x % 10]:=by
 have h:=UInt8.toNat_lt x
 have e1:((48+x / 100:UInt8).toNat:Int)=48+(x.toNat:Int) / 100:=by simp [UInt8.toNat_add];omega
 have e2:((48+x / 10 % 10:UInt8).toNat:Int)=48+(x.toNat:Int) / 10 % 10:=by simp [UInt8.toNat_add];omega
 have e3:((48+x % 10:UInt8).toNat:Int)=48+(x.toNat:Int) % 10:=by simp [UInt8.toNat_add];omega
 simp only [bc,List.map_cons,List.map_nil,e1,e2,e3]
 rfl
set_option maxRecDepth 100000 in
set_option maxHeartbeats 1000000 in
theorem text_ok (A:Option Addr) (c:Nat) (n:List (List UInt8)) (w:World) (h:Rd w w.heap.size A n.length (sc n)) (hr:rightN n=true) :
 Calls Tryz.prog 31 #[.slice A n.length c] w fun e w'=>e = .returned (.tuple #[.string ⟨(textN n).toArray⟩,.int .i64 0])∧Below w.heap.size w w':=by
 have hs:=size_right hr
 have hl:=sizeN_length n
 by_cases hn:n=[]
 ·subst hn
  go_enter Tryz.func31,Tryz.ntmps31
  go_wp2_with (go_at_call 69;refine (right_any A c [] _ h (by omega)).mono ?_;rintro e w1 ⟨rfl,hb1⟩)
  go_ret2
  exact ⟨rfl,hb1⟩
 ·have hn0:((n.length:Int) == 0)=false:=by simp [hn]
  go_enter Tryz.func31,Tryz.ntmps31
  go_wp2_with (go_at_call 69;refine (right_any A c n _ h (by omega)).mono ?_;rintro e w1 ⟨rfl,hb1⟩;have hsz1:=hb1.size)
  obtain ⟨b,hb⟩:∃ b,b=w1.heap.size:=⟨_,rfl⟩
  have hbd0:Bd (w1.alloc (.cells #[.pointer none,.slice none 0 0] 125)) b (.slice none 0 0):=by
   refine ⟨_,.inl rfl,?_⟩
   rw [hb];exact heap_alloc_new w1 _
  have hbw:w.heap.size≤b:=by omega
  have hbe0:Below w.heap.size w (w1.alloc (.cells #[.pointer none,.slice none 0 0] 125)):=hb1.alloc hsz1 _
  rw [←hb]
  generalize w1.alloc (.cells #[.pointer none,.slice none 0 0] 125)=w0 at hbd0 hbe0 ⊢
  clear hb hb1 hsz1
  go_loopw [17] (fun i wr=>∃ (k:Nat) (v:Value),k≤n.length∧i = .int .i64 k∧Bd wr b v∧Ow wr b 5 v (bc (tjoin (n.take k)))∧Below w.heap.size w wr) (fun i _=>n.length - (intOf i).toNat)
  case atStart=>exact ⟨0,.slice none 0 0,Nat.zero_le _,rfl,hbd0,Ow.nil _ _ _,hbe0⟩
  case round=>
   clear hbd0 hbe0
   obtain ⟨k,v,hk,rfl,hbd,hown,hbel⟩:=hrel
   by_cases hlt:k<n.length
   ·have hlen:=tjoin_length (n.take k)
    have hlen2:=sizeN_take_le n k
    have hlab:=mem_size (List.getElem_mem hlt)
    obtain ⟨bl,o,rfl,hbl,hc⟩:=(h.below hbel).at_ hlt
    have hcell:=hc k _ (sc_get n k hlt)
    have ht:=tjoin_take n k hlt
    have hblt:=hbd.lt
    generalize n[k]=lab at hcell ht hlab
    clear hc
    obtain ⟨pre0,hpre⟩:∃ pre,pre=tjoin (n.take k):=⟨_,rfl⟩
    rw [←hpre] at ht hown hlen
    have hplen0:pre0.length≤1100:=by omega
    clear hpre hlen
    by_cases k0:k≤0
    ·rw [if_pos (by omega),List.append_nil] at ht
     have dk:decide (0<k)=false:=by simp;omega
     obtain ⟨w2,rfl⟩:∃ w2,w2=wr:=⟨_,rfl⟩
     obtain ⟨v2,rfl⟩:∃ v2,v2=v:=⟨_,rfl⟩
     obtain ⟨pre,rfl⟩:∃ pre,pre=pre0:=⟨_,rfl⟩
     have hplen:pre.length≤2000:=by omega
     have HT:=Lib.hid ht
     clear ht hplen0
     obtain ⟨cap,w3,hrun,_,hb3,hz3,hown3⟩:=conv_sb (P:=Tryz.prog) w2 9 22 5 lab Tryz.underlying9 Tryz.underlying22 Tryz.underlying5
     have hz3':=Lib.hid hz3
     clear hz3
     have hbel2:=hbel
     have hblt2:=hblt
     have hbd2:=hbd
     have hown2:=hown
     clear hbel hblt hbd hown
     go_wp2_with fail
     have hne2:v2.ownBlock≠some w2.heap.size:=fun e=>by have:=(World.ownsRow.lt hown2 _ e).2;omega
     have hbe3:=hbel2.trans (hb3.mono hbel2.size)
     have hbd3:=hbd2.below hb3
     have hown3':=hown2.far hb3
     have hg3:w2.heap.size<w3.heap.size:=by rw [hz3'.out];omega
     generalize w2.heap.size=g at *
     clear hrun hb3 hbel2 hbd2 hown2 hz3'
     go_loopw [28] (fun j wi=>∃ (q:Nat) (v:Value),q≤lab.length∧j = .int .i64 q∧Bd wi b v∧Ow wi b 5 v (bc (pre++escL (lab.take q)))∧Own wi g (bc lab)∧v.ownBlock≠some g∧Below w.heap.size w wi∧g<wi.heap.size) (fun j _=>lab.length - (intOf j).toNat)
     case atStart=>exact ⟨0,v2,Nat.zero_le _,rfl,hbd3,by simpa [escL] using hown3',hown3,hne2,hbe3,hg3⟩
     case round=>
      clear hbd3 hown3' hown3 hne2 hbe3 hg3
      obtain ⟨q,v,hq,rfl,hbd,hown,hlabs,hne,hbel,hg⟩:=hrel
      obtain ⟨wi,rfl⟩:∃ wi,wi=wr:=⟨_,rfl⟩
      by_cases hqlt:q<lab.length
      ·have hel:=escL_length (lab.take q)
       rw [List.length_take] at hel
       have hsz:=hbel.size
       have hx:=(hlabs q _ (bc_get lab q hqlt)).1
       have hesc:=escL_take lab q hqlt
       have hx256:lab[q].toNat<256:=UInt8.toNat_lt _
       generalize hxe:lab[q]=x at hx hesc hx256
       clear hxe
       unfold escB at hesc
       by_cases h1:x.toNat=46∨x.toNat=92
       ·rw [if_pos h1] at hesc
        have HE:=Lib.hid hesc
        clear hesc
        have hor:((x.toNat:Int) == 46)=true∨(((x.toNat:Int) == 46)=false∧((x.toNat:Int) == 92)=true):=by
         rcases h1 with h1 | h1 <;> simp [h1]
        rcases hor with hor | ⟨hor1,hor2⟩
        all_goals
         go_wp2_with fail
         refine (wbyte_any b b v _ 92 92 (by decide) _ hbd hown (by simp;omega) (by omega)).mono ?_
         rintro e w5 ⟨rfl,v5,hbd5,hown5,hk5⟩
         have hs5:=hk5.size
         go_wp2_with fail
         refine (wbyte_any b b v5 _ _ x rfl _ hbd5 hown5 (by simp;omega) (by omega)).mono ?_
         rintro e w6 ⟨rfl,v6,hbd6,hown6,hk6⟩
         have hk:=hk5.trans hk6
         go_wp2
         go_roundw
         case rel=>exact ⟨q+1,v6,by omega,by go_num,hbd6,by rw [HE.out];simpa using hown6,hlabs.kp hk hg (by omega) hne,fun e=>(hk.at_ g e).elim hne (by omega),hbel.trans (hk.below hbw (fun g hg=>by have:=hown.lt g hg;omega) hsz),Nat.lt_of_lt_of_le hg hk.size⟩
         case measure=>simp [intOf];omega
       ·rw [if_neg h1] at hesc
        have hor1:((x.toNat:Int) == 46)=false:=by simp;omega
        have hor2:((x.toNat:Int) == 92)=false:=by simp;omega
        by_cases h2:32<x.toNat∧x.toNat<127
        ·rw [if_pos h2] at hesc
         obtain ⟨h3,h4⟩:=h2
         have HE:=Lib.hid hesc
         clear hesc h1
         go_wp2_with fail
         refine (wbyte_any b b v _ _ x rfl _ hbd hown (by simp;omega) (by omega)).mono ?_
         rintro e w6 ⟨rfl,v6,hbd6,hown6,hk⟩
         go_wp2
         go_roundw
         case rel=>exact ⟨q+1,v6,by omega,by go_num,hbd6,by rw [HE.out];simpa using hown6,hlabs.kp hk hg (by omega) hne,fun e=>(hk.at_ g e).elim hne (by omega),hbel.trans (hk.below hbw (fun g hg=>by have:=hown.lt g hg;omega) hsz),Nat.lt_of_lt_of_le hg hk.size⟩
         case measure=>simp [intOf];omega
        ·rw [if_neg h2] at hesc
         have HE:=Lib.hid hesc
         have hor3:x.toNat≤32∨(32<x.toNat∧127≤x.toNat):=by omega
         clear hesc h1 h2
         have hlr:Rd (wi.alloc (.cells #[.int .u8 92,.int .u8 (48+(x.toNat:Int) / 100),.int .u8 (48+(x.toNat:Int) / 10 % 10),.int .u8 (48+(x.toNat:Int) % 10)] 5)) (wi.heap.size+1) (some ⟨wi.heap.size,0,none⟩) 4 (bc [92,48+x / 100,48+x / 10 % 10,48+x % 10]):=by
          rw [←esc_cells x]
          exact lit_rd wi 5 [.int .u8 92,.int .u8 (48+(x.toNat:Int) / 100),.int .u8 (48+(x.toNat:Int) / 10 % 10),.int .u8 (48+(x.toNat:Int) % 10)]
         have HL:=Lib.hid hlr
         clear hlr
         rcases hor3 with hor3 | ⟨hor3,hor4⟩
         all_goals
          go_wp2_with fail
          refine (write_any b b v _ [92,48+x / 100,48+x / 10 % 10,48+x % 10] _ 4 _ _ (hbd.alloc _) (hown.alloc _) HL.out (fun g o e=>by cases e;have:=hbd.lt;omega) (by simp;omega) (by simp;omega)).mono ?_
          rintro e w6 ⟨rfl,v6,hbd6,hown6,hk6⟩
          have hk:=((Kp.refl wi b v).alloc _).trans hk6
          go_wp2
          go_roundw
          case rel=>exact ⟨q+1,v6,by omega,by go_num,hbd6,by rw [HE.out];simpa using hown6,hlabs.kp hk hg (by omega) hne,fun e=>(hk.at_ g e).elim hne (by omega),hbel.trans (hk.below hbw (fun g hg=>by have:=hown.lt g hg;omega) hsz),Nat.lt_of_lt_of_le hg hk.size⟩
          case measure=>simp [intOf];omega
      ·rw [List.take_of_length_le (by omega)] at hown
       go_wp2
       go_roundw
       case rel=>exact ⟨k+1,v,by omega,by go_num,hbd,by rw [HT.out];exact hown,hbel⟩
       case measure=>simp [intOf];omega
    ·have hsz:=hbel.size
     have dk:decide (0<k)=true:=by simp;omega
     go_wp2_with fail
     refine (wbyte_any b b v pre0 46 46 (by decide) _ hbd hown (by omega) (by omega)).mono ?_
     rintro e w2 ⟨rfl,v2,hbd2,hown2,hk2⟩
     rw [if_neg (by omega)] at ht
     obtain ⟨pre,hpre⟩:∃ pre,pre=pre0++[46]:=⟨_,rfl⟩
     rw [←hpre] at ht hown2
     have hplen:pre.length≤2000:=by rw [hpre];simp;omega
     have HT:=Lib.hid ht
     have hbel2:=hbel.trans (hk2.below hbw (fun g hg=>by have:=hown.lt g hg;omega) hsz)
     have hblt2:=hbd2.lt
     clear ht hplen0 hpre hbd hbel hown hk2 hblt hsz
     obtain ⟨cap,w3,hrun,_,hb3,hz3,hown3⟩:=conv_sb (P:=Tryz.prog) w2 9 22 5 lab Tryz.underlying9 Tryz.underlying22 Tryz.underlying5
     have hz3':=Lib.hid hz3
     clear hz3
     go_wp2_with fail
     have hne2:v2.ownBlock≠some w2.heap.size:=fun e=>by have:=(World.ownsRow.lt hown2 _ e).2;omega
     have hbe3:=hbel2.trans (hb3.mono hbel2.size)
     have hbd3:=hbd2.below hb3
     have hown3':=hown2.far hb3
     have hg3:w2.heap.size<w3.heap.size:=by rw [hz3'.out];omega
     generalize w2.heap.size=g at *
     clear hrun hb3 hbel2 hbd2 hown2 hz3'
     go_loopw [28] (fun j wi=>∃ (q:Nat) (v:Value),q≤lab.length∧j = .int .i64 q∧Bd wi b v∧Ow wi b 5 v (bc (pre++escL (lab.take q)))∧Own wi g (bc lab)∧v.ownBlock≠some g∧Below w.heap.size w wi∧g<wi.heap.size) (fun j _=>lab.length - (intOf j).toNat)
     case atStart=>exact ⟨0,v2,Nat.zero_le _,rfl,hbd3,by simpa [escL] using hown3',hown3,hne2,hbe3,hg3⟩
     case round=>
      clear hbd3 hown3' hown3 hne2 hbe3 hg3
      obtain ⟨q,v,hq,rfl,hbd,hown,hlabs,hne,hbel,hg⟩:=hrel
      obtain ⟨wi,rfl⟩:∃ wi,wi=wr:=⟨_,rfl⟩
      by_cases hqlt:q<lab.length
      ·have hel:=escL_length (lab.take q)
       rw [List.length_take] at hel
       have hsz:=hbel.size
       have hx:=(hlabs q _ (bc_get lab q hqlt)).1
       have hesc:=escL_take lab q hqlt
       have hx256:lab[q].toNat<256:=UInt8.toNat_lt _
       generalize hxe:lab[q]=x at hx hesc hx256
       clear hxe
       unfold escB at hesc
       by_cases h1:x.toNat=46∨x.toNat=92
       ·rw [if_pos h1] at hesc
        have HE:=Lib.hid hesc
        clear hesc
        have hor:((x.toNat:Int) == 46)=true∨(((x.toNat:Int) == 46)=false∧((x.toNat:Int) == 92)=true):=by
         rcases h1 with h1 | h1 <;> simp [h1]
        rcases hor with hor | ⟨hor1,hor2⟩
        all_goals
         go_wp2_with fail
         refine (wbyte_any b b v _ 92 92 (by decide) _ hbd hown (by simp;omega) (by omega)).mono ?_
         rintro e w5 ⟨rfl,v5,hbd5,hown5,hk5⟩
         have hs5:=hk5.size
         go_wp2_with fail
         refine (wbyte_any b b v5 _ _ x rfl _ hbd5 hown5 (by simp;omega) (by omega)).mono ?_
         rintro e w6 ⟨rfl,v6,hbd6,hown6,hk6⟩
         have hk:=hk5.trans hk6
         go_wp2
         go_roundw
         case rel=>exact ⟨q+1,v6,by omega,by go_num,hbd6,by rw [HE.out];simpa using hown6,hlabs.kp hk hg (by omega) hne,fun e=>(hk.at_ g e).elim hne (by omega),hbel.trans (hk.below hbw (fun g hg=>by have:=hown.lt g hg;omega) hsz),Nat.lt_of_lt_of_le hg hk.size⟩
         case measure=>simp [intOf];omega
       ·rw [if_neg h1] at hesc
        have hor1:((x.toNat:Int) == 46)=false:=by simp;omega
        have hor2:((x.toNat:Int) == 92)=false:=by simp;omega
        by_cases h2:32<x.toNat∧x.toNat<127
        ·rw [if_pos h2] at hesc
         obtain ⟨h3,h4⟩:=h2
         have HE:=Lib.hid hesc
         clear hesc h1
         go_wp2_with fail
         refine (wbyte_any b b v _ _ x rfl _ hbd hown (by simp;omega) (by omega)).mono ?_
         rintro e w6 ⟨rfl,v6,hbd6,hown6,hk⟩
         go_wp2
         go_roundw
         case rel=>exact ⟨q+1,v6,by omega,by go_num,hbd6,by rw [HE.out];simpa using hown6,hlabs.kp hk hg (by omega) hne,fun e=>(hk.at_ g e).elim hne (by omega),hbel.trans (hk.below hbw (fun g hg=>by have:=hown.lt g hg;omega) hsz),Nat.lt_of_lt_of_le hg hk.size⟩
         case measure=>simp [intOf];omega
        ·rw [if_neg h2] at hesc
         have HE:=Lib.hid hesc
         have hor3:x.toNat≤32∨(32<x.toNat∧127≤x.toNat):=by omega
         clear hesc h1 h2
         have hlr:Rd (wi.alloc (.cells #[.int .u8 92,.int .u8 (48+(x.toNat:Int) / 100),.int .u8 (48+(x.toNat:Int) / 10 % 10),.int .u8 (48+(x.toNat:Int) % 10)] 5)) (wi.heap.size+1) (some ⟨wi.heap.size,0,none⟩) 4 (bc [92,48+x / 100,48+x / 10 % 10,48+x % 10]):=by
          rw [←esc_cells x]
          exact lit_rd wi 5 [.int .u8 92,.int .u8 (48+(x.toNat:Int) / 100),.int .u8 (48+(x.toNat:Int) / 10 % 10),.int .u8 (48+(x.toNat:Int) % 10)]
         have HL:=Lib.hid hlr
         clear hlr
         rcases hor3 with hor3 | ⟨hor3,hor4⟩
         all_goals
          go_wp2_with fail
          refine (write_any b b v _ [92,48+x / 100,48+x / 10 % 10,48+x % 10] _ 4 _ _ (hbd.alloc _) (hown.alloc _) HL.out (fun g o e=>by cases e;have:=hbd.lt;omega) (by simp;omega) (by simp;omega)).mono ?_
          rintro e w6 ⟨rfl,v6,hbd6,hown6,hk6⟩
          have hk:=((Kp.refl wi b v).alloc _).trans hk6
          go_wp2
          go_roundw
          case rel=>exact ⟨q+1,v6,by omega,by go_num,hbd6,by rw [HE.out];simpa using hown6,hlabs.kp hk hg (by omega) hne,fun e=>(hk.at_ g e).elim hne (by omega),hbel.trans (hk.below hbw (fun g hg=>by have:=hown.lt g hg;omega) hsz),Nat.lt_of_lt_of_le hg hk.size⟩
          case measure=>simp [intOf];omega
      ·rw [List.take_of_length_le (by omega)] at hown
       go_wp2
       go_roundw
       case rel=>exact ⟨k+1,v,by omega,by go_num,hbd,by rw [HT.out];exact hown,hbel⟩
       case measure=>simp [intOf];omega
   ·have hk':k=n.length:=by omega
    subst hk'
    rw [List.take_of_length_le (by omega)] at hown
    have hsz:=hbel.size
    have hbdl:=hbd.lt
    go_wp2_with (go_at_call 72;refine (bstring_any b b v (tjoin n) _ hbd (Nat.le_refl _) hown (by omega)).mono ?_;rintro e w6 ⟨rfl,hb6⟩)
    go_ret2
    exact ⟨by simp [textN,hn],hbel.trans (hb6.mono hbw)⟩
set_option maxRecDepth 100000 in
set_option maxHeartbeats 400000 in
theorem text_bad (A:Option Addr) (c:Nat) (n:List (List UInt8)) (w:World) (h:Rd w w.heap.size A n.length (sc n)) (hr:rightN n=false) (hs:sizeN n≤140737488355328) :
 Calls Tryz.prog 31 #[.slice A n.length c] w fun e w'=>e = .returned (.tuple #[.string ⟨#[]⟩,.int .i64 160])∧Below w.heap.size w w':=by
 go_enter Tryz.func31,Tryz.ntmps31
 go_wp2_with (go_at_call 69;refine (right_any A c n _ h (by omega)).mono ?_;rintro e w1 ⟨rfl,hb1⟩)
 go_ret2
 exact ⟨rfl,hb1⟩
end Go.Proofs.YtlipmlbijddopaaGreatDoor
set_option linter.unusedVariables false
namespace Go.Proofs.YtlipmlbijddopaaGreatDoor
open Go.RowKit
def num3 (a b c:UInt8):UInt8:=UInt8.ofNat ((a - 48).toNat*100+(b - 48).toNat*10+(c - 48).toNat)
def pl (s:List UInt8):Nat→Nat→List (List UInt8)→List UInt8→List (List UInt8)
 | 0,_,pre,last=>pre++[last]
 | f+1,i,pre,last=>
   if i<s.length then
    if s.getD i 0=46 then pl s f (i+1) (pre++[last]) []
    else if s.getD i 0≠92 then pl s f (i+1) pre (last++[s.getD i 0])
    else if i+1<s.length∧(s.getD (i+1) 0=46∨s.getD (i+1) 0=92) then pl s f (i+2) pre (last++[s.getD (i+1) 0])
    else if i+3<s.length then pl s f (i+4) pre (last++[num3 (s.getD (i+1) 0) (s.getD (i+2) 0) (s.getD (i+3) 0)])
    else pl s f (i+1) pre last
   else pre++[last]
def parseN (s:List UInt8):List (List UInt8) × Int:=
 if smallS s=[46] then ([],0)
 else if 1020<s.length then ([],164)
 else if rightN (pl (smallS s) (s.length+1) 0 [] [])=true∧textN (pl (smallS s) (s.length+1) 0 [] [])=smallS s then (pl (smallS s) (s.length+1) 0 [] [],0)
 else ([],164)
theorem last_set {wr:World} {B g cap:Nat} {pre:List (List UInt8)} {last last':List UInt8} (hown:wr.ownsRow B 9 1 (.slice (some ⟨g,0,none⟩) (pre.length+1) cap) (pre.length+1) (sc (pre++[last]))) :
 Ow (wr.setCell ⟨g,pre.length,none⟩ (.string ⟨last'.toArray⟩)) B 9 (.slice (some ⟨g,0,none⟩) (pre.length+1) cap) (sc (pre++[last'])):=by
 have h:=(World.ownsRow.stored hown pre.length (.string ⟨last'.toArray⟩)).1
 have e1:(sc (pre++[last])).set pre.length (.string ⟨last'.toArray⟩)=sc (pre++[last']):=by
  unfold sc
  rw [List.map_append,List.map_append,List.set_append_right _ _ (by simp)]
  simp [strV]
 rw [e1] at h
 unfold Ow
 rw [sc_length,List.length_append,List.length_singleton]
 exact h
theorem size_set (pre:List (List UInt8)) (last last':List UInt8):sizeN (pre++[last'])+last.length=sizeN (pre++[last])+last'.length:=by
 have h1:=sizeN_append pre [last]
 have h2:=sizeN_append pre [last']
 simp only [sizeN] at h1 h2
 omega
set_option maxRecDepth 100000 in
set_option maxHeartbeats 4000000 in
theorem parse_any (s:List UInt8) (w:World) (hs:s.length≤140737488355328) :
 Calls Tryz.prog 73 #[.string ⟨s.toArray⟩] w fun e w'=>∃ v,e = .returned (.tuple #[v,.int .i64 (parseN s).2])∧Ow w' w.heap.size 9 v (sc (parseN s).1)∧Below w.heap.size w w':=by
 obtain ⟨i0,hi,hz0,hz1,hz2⟩:=info_parts Tryz.infoStr
 generalize ht:smallS s=t
 by_cases h1:t=[46]
 ·have hpar:parseN s=([],0):=by unfold parseN;rw [if_pos (by rw [ht];exact h1)]
  have HP:=Lib.hid hpar
  have HT:=Lib.hid ht
  subst h1
  clear hpar ht
  go_enter Tryz.func73,Tryz.ntmps73
  go_wp2_with (go_at_call 108;refine (small_any s w (by omega)).mono ?_;rw [HT.out];rintro e w1 ⟨rfl,hb1⟩)
  go_ret2
  exact ⟨_,by rw [HP.out];rfl,by rw [HP.out];exact Ow.nil _ _ _,hb1⟩
 ·by_cases h2:1020<s.length
  ·have hpar:parseN s=([],164):=by unfold parseN;rw [if_neg (by rw [ht];exact h1),if_pos h2]
   have htl:t.length=s.length:=by rw [←ht];simp
   have hne:(t == [46])=false:=by simp [h1]
   have htl2:1020<t.length:=by omega
   have HP:=Lib.hid hpar
   have HT:=Lib.hid ht
   clear hpar ht htl
   go_enter Tryz.func73,Tryz.ntmps73
   go_wp2_with (go_at_call 108;refine (small_any s w (by omega)).mono ?_;rw [HT.out];rintro e w1 ⟨rfl,hb1⟩)
   go_ret2
   exact ⟨_,by rw [HP.out];rfl,by rw [HP.out];exact Ow.nil _ _ _,hb1⟩
  ·have htl:t.length=s.length:=by rw [←ht];simp
   have hne:(t == [46])=false:=by simp [h1]
   have HT:=Lib.hid ht
   have htl':t.length≤1020:=by omega
   have htl1:t.length≤s.length:=by omega
   have htl2:s.length≤t.length:=by omega
   clear ht htl
   go_enter Tryz.func73,Tryz.ntmps73
   go_wp2_with (go_at_call 108;refine (small_any s w (by omega)).mono ?_;rw [HT.out];rintro e w1 ⟨rfl,hb1⟩;have hsz1:=hb1.size)
   obtain ⟨B,hB⟩:∃ B,B=w1.heap.size:=⟨_,rfl⟩
   have ho0:Ow (w1.alloc (.cells #[.string ⟨#[]⟩] 9)) w.heap.size 9 (.slice (some ⟨w1.heap.size,0,none⟩) 1 1) (sc ([]++[[]])):=(Ow.lit w1 9 [.string ⟨#[]⟩] (by simp [maxLen])).mono hsz1
   have hbe0:Below w.heap.size w (w1.alloc (.cells #[.string ⟨#[]⟩] 9)):=hb1.alloc hsz1 _
   rw [←hB] at ho0 ⊢
   generalize w1.alloc (.cells #[.string ⟨#[]⟩] 9)=w0 at ho0 hbe0 ⊢
   clear hB hb1 hsz1
   go_loopw [4,5] (fun vn vi wr=>∃ (f i:Nat) (pre:List (List UInt8)) (last:List UInt8),vi = .int .i64 i∧i≤t.length+3∧t.length+1≤f+i∧Hid (pl t f i pre last=pl t (s.length+1) 0 [] [])∧Ow wr w.heap.size 9 vn (sc (pre++[last]))∧Below w.heap.size w wr∧sizeN (pre++[last])≤i+2) (fun _ vi _=>t.length+4 - (intOf vi).toNat)
   case atStart=>exact ⟨s.length+1,0,[],[],rfl,by omega,by omega,rfl,ho0,hbe0,by simp [sizeN]⟩
   case round=>
    clear ho0 hbe0
    obtain ⟨f,i,pre,last,rfl,hi3,hf,HR,hown,hbel,hsz⟩:=hrel
    obtain ⟨g,cap,hv,hBg,hglt⟩:=World.ownsRow.form hown (by simp)
    have hpl:(sc (pre++[last])).length=pre.length+1:=by simp
    rw [hpl] at hv
    subst hv
    have hszb:=hbel.size
    by_cases hlt:i<t.length
    ·obtain ⟨f',rfl⟩:∃ f',f=f'+1:=⟨f - 1,by omega⟩
     have e:=HR.out
     rw [pl,if_pos hlt] at e
     have hx0:t[i]? = some (t.getD i 0):=by rw [List.getD_eq_getElem?_getD,List.getElem?_eq_getElem hlt];rfl
     generalize t.getD i 0=x at e hx0
     have ix:=fun W=>idxStr W t i x hx0
     have hll:=sizeN_length (pre++[last])
     rw [List.length_append,List.length_singleton] at hll
     by_cases x46:x=46
     ·rw [if_pos x46] at e
      have E:=Lib.hid e
      have HI:=Lib.hid ix
      clear e
      have t46:((x.toNat:Int) == 46)=true:=by simp [x46]
      go_wp2_with (at_builtin;refine wpList_app _ rfl _ _ _ _ rfl w.heap.size 9 i0 (.string ⟨#[]⟩) 16 Tryz.underlying38 hi hz0 hz1 hz2 rfl (by omega) _ _ (hown.alloc _) rfl 1 [_] (one_src Tryz.underlying38 _ rfl) (by simp;omega) (by simp;omega) ?_;intro v3 w3 hown3 hgr3 hsz3)
      go_roundw
      case rel=>
       refine ⟨f',i+1,pre++[last],[],by go_num,by omega,by omega,E.out,?_,hbel.trans ((((Gr.refl wr _).alloc _).trans hgr3).below hown.lt hszb),?_⟩
       ·have e1:sc (pre++[last]++[[]])=sc (pre++[last])++[.string ⟨#[]⟩]:=by simp [sc,strV]
        rw [e1];exact hown3
       ·have:=sizeN_append (pre++[last]) [[]]
        simp only [sizeN,List.length_nil] at this
        omega
      case measure=>simp [intOf];omega
     ·rw [if_neg x46] at e
      have t46:((x.toNat:Int) == 46)=false:=by
       simp
       intro h
       exact x46 (by rw [←UInt8.toNat_inj];simp;omega)
      have hown1:wr.ownsRow w.heap.size 9 1 (.slice (some ⟨g,0,none⟩) (pre.length+1) cap) (pre.length+1) (sc (pre++[last])):=by
       have:=hown
       unfold Ow at this
       rw [hpl] at this
       exact this
      have hc1:wr.cell? ⟨g,pre.length,none⟩=some (.string ⟨last.toArray⟩):=by
       have:=World.ownsRow.cellAt hown1 pre.length (by omega)
       rw [this]
       simp [sc,strV]
      have hc2:wr.frozen? ⟨g,pre.length,none⟩=false:=World.ownsRow.frozenAt hown1 _
      by_cases x92:x≠92
      ·rw [if_pos x92] at e
       have E:=Lib.hid e
       clear e
       have t92:((x.toNat:Int) != 92)=true:=by
        simp
        intro h
        exact x92 (by rw [←UInt8.toNat_inj];simp;omega)
       have cx:=fun W=>cutStr W t i x hx0 (i:Int) ((i:Int)+1) rfl rfl
       have hlast:=mem_size (show last∈pre++[last] by simp)
       obtain ⟨last',hl'⟩:∃ l',l'=last++[x]:=⟨_,rfl⟩
       have hcat:(⟨last.toArray⟩:ByteArray)++(⟨#[x]⟩:ByteArray)=⟨last'.toArray⟩:=by rw [hl'];exact catStr last [x]
       have HC:=Lib.hid hcat
       clear hcat
       have ax:∀ W,(binOp .add 9 (.string ⟨last.toArray⟩) (.string ⟨#[x]⟩)).run Tryz.prog W = .ok (.string ⟨last'.toArray⟩) W:=by
        intro W;rw [hl'];exact addStr W last [x] (by simp;omega)
       have HL':=Lib.hid hl'
       clear hl'
       go_wp2_with fail
       go_region
       rw [HC.out]
       go_wp2
       go_roundw
       case rel=>
        refine ⟨f',i+1,pre,last',by go_num,by omega,by omega,by rw [HL'.out];exact E.out,(last_set hown1).drew,(hbel.setCell (p:=⟨g,pre.length,none⟩) hBg _).drew,?_⟩
        have h1:=size_set pre last last'
        have h2:last'.length=last.length+1:=by rw [HL'.out];simp
        omega
       case measure=>simp [intOf];omega
      ·rw [if_neg x92] at e
       have hx92:x=92:=by simpa using x92
       have t92:((x.toNat:Int) != 92)=false:=by rw [hx92];rfl
       clear x92 x46
       have hlast:=mem_size (show last∈pre++[last] by simp)
       by_cases hi1:i+1<t.length
       ·have hy0:t[i+1]? = some (t.getD (i+1) 0):=by rw [List.getD_eq_getElem?_getD,List.getElem?_eq_getElem hi1];rfl
        generalize t.getD (i+1) 0=y at e hy0
        have iy:=fun W=>idxStr W t (i+1) y hy0
        have iy':∀ W,(Instr.index 9 (.string ⟨t.toArray⟩) (.int .i64 ((i:Int)+1))).run Tryz.prog W = .ok (.int .u8 (y.toNat:Int)) W:=fun W=>iy W
        by_cases hy:y=46∨y=92
        ·rw [if_pos ⟨hi1,hy⟩] at e
         have E:=Lib.hid e
         clear e iy
         have hor:((y.toNat:Int) == 46)=true∨(((y.toNat:Int) == 46)=false∧((y.toNat:Int) == 92)=true):=by
          rcases hy with hy | hy <;> rw [hy]
          ·exact .inl rfl
          ·exact .inr ⟨rfl,rfl⟩
         have cx:∀ W,(Instr.slice 9 (.string ⟨t.toArray⟩) (some (.int .i64 ((i:Int)+1))) (some (.int .i64 ((i:Int)+2))) none).run Tryz.prog W = .ok (.string ⟨#[y]⟩) W:=fun W=>cutStr W t (i+1) y hy0 _ _ (by omega) (by omega)
         have w1:IntKind.i64.wrap ((i:Int)+1)=(i:Int)+1:=IntWalk.i64_in _ (by omega)
         have w2:IntKind.i64.wrap ((i:Int)+2)=(i:Int)+2:=IntWalk.i64_in _ (by omega)
         obtain ⟨last',hl'⟩:∃ l',l'=last++[y]:=⟨_,rfl⟩
         have hcat:(⟨last.toArray⟩:ByteArray)++(⟨#[y]⟩:ByteArray)=⟨last'.toArray⟩:=by rw [hl'];exact catStr last [y]
         have HC:=Lib.hid hcat
         clear hcat
         have ax:∀ W,(binOp .add 9 (.string ⟨last.toArray⟩) (.string ⟨#[y]⟩)).run Tryz.prog W = .ok (.string ⟨last'.toArray⟩) W:=by
          intro W;rw [hl'];exact addStr W last [y] (by simp;omega)
         have HL':=Lib.hid hl'
         have hx92':=Lib.hid hx92
         clear hl' hx92 hy
         rcases hor with hor | ⟨hor1,hor2⟩
         all_goals
          go_wp2_with fail
          go_region
          rw [HC.out]
          go_wp2
          go_roundw
          case rel=>
           refine ⟨f',i+2,pre,last',by go_num,by omega,by omega,by rw [HL'.out];exact E.out,(last_set hown1).drew,(hbel.setCell (p:=⟨g,pre.length,none⟩) hBg _).drew,?_⟩
           have h1:=size_set pre last last'
           have h2:last'.length=last.length+1:=by rw [HL'.out];simp
           omega
          case measure=>simp [intOf];omega
        ·rw [if_neg (fun h=>hy h.2)] at e
         have hor1:((y.toNat:Int) == 46)=false:=by
          simp
          intro h
          exact hy (.inl (by rw [←UInt8.toNat_inj];simp;omega))
         have hor2:((y.toNat:Int) == 92)=false:=by
          simp
          intro h
          exact hy (.inr (by rw [←UInt8.toNat_inj];simp;omega))
         have hx92':=Lib.hid hx92
         clear hy hx92
         by_cases hi3':i+3<t.length
         ·rw [if_pos hi3'] at e
          have hp0:t[i+2]? = some (t.getD (i+2) 0):=by rw [List.getD_eq_getElem?_getD,List.getElem?_eq_getElem (by omega)];rfl
          have hq0:t[i+3]? = some (t.getD (i+3) 0):=by rw [List.getD_eq_getElem?_getD,List.getElem?_eq_getElem hi3'];rfl
          generalize t.getD (i+2) 0=p at e hp0
          generalize t.getD (i+3) 0=q at e hq0
          have ip:∀ W,(Instr.index 9 (.string ⟨t.toArray⟩) (.int .i64 ((i:Int)+2))).run Tryz.prog W = .ok (.int .u8 (p.toNat:Int)) W:=fun W=>idxStr W t (i+2) p hp0
          have iq:∀ W,(Instr.index 9 (.string ⟨t.toArray⟩) (.int .i64 ((i:Int)+3))).run Tryz.prog W = .ok (.int .u8 (q.toNat:Int)) W:=fun W=>idxStr W t (i+3) q hq0
          have w1:IntKind.i64.wrap ((i:Int)+1)=(i:Int)+1:=IntWalk.i64_in _ (by omega)
          have w2:IntKind.i64.wrap ((i:Int)+2)=(i:Int)+2:=IntWalk.i64_in _ (by omega)
          have w3:IntKind.i64.wrap ((i:Int)+3)=(i:Int)+3:=IntWalk.i64_in _ (by omega)
          have u1:=subU8 y
          have u2:=subU8 p
          have u3:=subU8 q
          have hnum:num3 y p q=UInt8.ofNat ((y - 48).toNat*100+(p - 48).toNat*10+(q - 48).toNat):=rfl
          have b1:=UInt8.toNat_lt (y - 48)
          have b2:=UInt8.toNat_lt (p - 48)
          have b3:=UInt8.toNat_lt (q - 48)
          generalize num3 y p q=z at e hnum
          generalize (y - 48).toNat=d1 at u1 hnum b1
          generalize (p - 48).toNat=d2 at u2 hnum b2
          generalize (q - 48).toNat=d3 at u3 hnum b3
          have m1:IntKind.i64.wrap ((d1:Int)*100)=(d1:Int)*100:=IntWalk.i64_in _ (by omega)
          have m2:IntKind.i64.wrap ((d2:Int)*10)=(d2:Int)*10:=IntWalk.i64_in _ (by omega)
          have m3:IntKind.i64.wrap ((d1:Int)*100+(d2:Int)*10)=(d1:Int)*100+(d2:Int)*10:=IntWalk.i64_in _ (by omega)
          have m4:IntKind.i64.wrap ((d1:Int)*100+(d2:Int)*10+(d3:Int))=(d1:Int)*100+(d2:Int)*10+(d3:Int):=IntWalk.i64_in _ (by omega)
          have hz:((z.toNat:Nat):Int)=((d1:Int)*100+(d2:Int)*10+(d3:Int)) % 256:=by rw [hnum,UInt8.toNat_ofNat'];omega
          have hcv:(convert 22 9 (.slice (some ⟨wr.heap.size,0,none⟩) 1 1)).run Tryz.prog (wr.alloc (.cells #[.int .u8 (((d1:Int)*100+(d2:Int)*10+(d3:Int)) % 256)] 5)).drew = .ok (.string ⟨#[z]⟩) (wr.alloc (.cells #[.int .u8 (((d1:Int)*100+(d2:Int)*10+(d3:Int)) % 256)] 5)).drew:=by
           rw [←hz]
           exact conv_bs (P:=Tryz.prog) _ 22 5 9 (some ⟨wr.heap.size,0,none⟩) 1 (wr.heap.size+1) [z] Tryz.underlying22 Tryz.underlying5 Tryz.underlying9 (lit_rd wr 5 [.int .u8 z.toNat]).drew
          have hal1:(wr.alloc (.cells #[.int .u8 (((d1:Int)*100+(d2:Int)*10+(d3:Int)) % 256)] 5)).cell? ⟨g,pre.length,none⟩=some (.string ⟨last.toArray⟩):=(World.cell?_alloc_lt wr _ ⟨g,pre.length,none⟩ hglt).trans hc1
          have hal2:(wr.alloc (.cells #[.int .u8 (((d1:Int)*100+(d2:Int)*10+(d3:Int)) % 256)] 5)).frozen? ⟨g,pre.length,none⟩=false:=(((Below.refl wr.heap.size wr).alloc (Nat.le_refl _) _).frozen (p:=⟨g,pre.length,none⟩) hglt).trans hc2
          obtain ⟨last',hl'⟩:∃ l',l'=last++[z]:=⟨_,rfl⟩
          have hcat:(⟨last.toArray⟩:ByteArray)++(⟨#[z]⟩:ByteArray)=⟨last'.toArray⟩:=by rw [hl'];exact catStr last [z]
          have ax:∀ W,(binOp .add 9 (.string ⟨last.toArray⟩) (.string ⟨#[z]⟩)).run Tryz.prog W = .ok (.string ⟨last'.toArray⟩) W:=by
           intro W;rw [hl'];exact addStr W last [z] (by simp;omega)
          have HC:=Lib.hid hcat
          have HL':=Lib.hid hl'
          have E:=Lib.hid e
          have HN:=Lib.hid hnum
          have HZ:=Lib.hid hz
          clear e hnum hz hcat hl'
          go_wp2_with fail
          go_region
          rw [HC.out]
          clear u1 u2 u3 m1 m2 m3 m4 hcv hal1 hal2 w1 w2 w3
          go_wp2
          go_roundw
          case rel=>
           refine ⟨f',i+4,pre,last',by go_num,by omega,by omega,by rw [HL'.out];exact E.out,((last_set hown1).alloc _).drew,((hbel.setCell (p:=⟨g,pre.length,none⟩) hBg _).alloc (by simp;omega) _).drew,?_⟩
           have h1:=size_set pre last last'
           have h2:last'.length=last.length+1:=by rw [HL'.out];simp
           omega
          case measure=>simp [intOf];omega
         ·rw [if_neg hi3'] at e
          have E:=Lib.hid e
          clear e
          go_wp2
          go_roundw
          case rel=>exact ⟨f',i+1,pre,last,by go_num,by omega,by omega,E.out,hown,hbel,by omega⟩
          case measure=>simp [intOf];omega
       ·rw [if_neg (fun h=>hi1 h.1),if_neg (by omega)] at e
        have E:=Lib.hid e
        clear e
        have hx92':=Lib.hid hx92
        clear hx92
        go_wp2
        go_roundw
        case rel=>exact ⟨f',i+1,pre,last,by go_num,by omega,by omega,E.out,hown,hbel,by omega⟩
        case measure=>simp [intOf];omega
    ·have hres:pre++[last]=pl t (s.length+1) 0 [] []:=by
      rw [←HR.out]
      cases f with
      | zero=>rfl
      | succ f=>rw [pl,if_neg hlt]
     have hlen:(pre++[last]).length=pre.length+1:=by simp
     have hrd:Rd wr wr.heap.size (some ⟨g,0,none⟩) (pre.length+1) (sc (pre++[last])):=by
      have:=hown
      unfold Ow at this
      rw [hpl] at this
      exact Rd.of_own this
     generalize pre++[last]=nn at hown hres hsz hlen hrd
     rw [←hlen] at hown hrd ⊢
     clear hlen hpl
     have h1':¬ smallS s=[46]:=by rw [HT.out];exact h1
     have h2':=Lib.hid h2
     by_cases hright:rightN nn=true
     ·by_cases htx:textN nn=t
      ·have hpar:parseN s=(nn,0):=by
        unfold parseN
        rw [if_neg h1',if_neg h2'.out,HT.out,←hres,if_pos ⟨hright,htx⟩]
       have HP:=Lib.hid hpar
       have HX:=Lib.hid htx
       clear hpar htx hres
       go_wp2_with (go_at_call 31;refine (text_ok (some ⟨g,0,none⟩) cap nn wr hrd hright).mono ?_;rw [HX.out];rintro e w5 ⟨rfl,hb5⟩)
       go_ret2
       exact ⟨_,by rw [HP.out];rfl,by rw [HP.out];exact hown.far hb5,hbel.trans (hb5.mono hszb)⟩
      ·have hpar:parseN s=([],164):=by
        unfold parseN
        rw [if_neg h1',if_neg h2'.out,HT.out,←hres,if_neg (fun h=>htx h.2)]
       have HP:=Lib.hid hpar
       have hbt:(textN nn == t)=false:=by simp [htx]
       clear hpar htx hres
       go_wp2_with (go_at_call 31;refine (text_ok (some ⟨g,0,none⟩) cap nn wr hrd hright).mono ?_;rintro e w5 ⟨rfl,hb5⟩)
       go_ret2
       exact ⟨_,by rw [HP.out];rfl,by rw [HP.out];exact Ow.nil _ _ _,hbel.trans (hb5.mono hszb)⟩
     ·have hpar:parseN s=([],164):=by
       unfold parseN
       rw [if_neg h1',if_neg h2'.out,HT.out,←hres,if_neg (fun h=>hright h.1)]
      have HP:=Lib.hid hpar
      have hright':rightN nn=false:=by simpa using hright
      clear hpar hres hright
      go_wp2_with (go_at_call 31;refine (text_bad (some ⟨g,0,none⟩) cap nn wr hrd hright' (by omega)).mono ?_;rintro e w5 ⟨rfl,hb5⟩)
      go_ret2
      exact ⟨_,by rw [HP.out];rfl,by rw [HP.out];exact Ow.nil _ _ _,hbel.trans (hb5.mono hszb)⟩
end Go.Proofs.YtlipmlbijddopaaGreatDoor
set_option linter.unusedVariables false
namespace Go.Proofs.YtlipmlbijddopaaGreatDoor
open Go.RowKit
def underN (n z:List (List UInt8)):Bool:=decide (z.length≤n.length) && decide (n.drop (n.length - z.length)=z)
def cmpR:List (List UInt8)→List (List UInt8)→Int
 | [],[]=>0
 | [],_ :: _=>-1
 | _ :: _,[]=>1
 | x :: xs,y :: ys=>if Lib.compareBytes x y=0 then cmpR xs ys else Lib.compareBytes x y
def cmpN (a b:List (List UInt8)):Int:=cmpR a.reverse b.reverse
end Go.Proofs.YtlipmlbijddopaaGreatDoor
set_option linter.unusedVariables false
namespace Go.Proofs.YtlipmlbijddopaaGreatDoor
open Go.RowKit
def Knows (w:World) (l:List (Option Addr × Nat × List Value)):Prop:=∀ x∈l,Rd w w.heap.size x.1 x.2.1 x.2.2
theorem Rd.lit (w:World) (e:TypeId) (cs:List Value) (n:Nat) (hn:cs.length=n) (hm:cs.length≤maxLen):Rd (w.alloc (.cells cs.toArray e)) (w.heap.size+1) (some ⟨w.heap.size,0,none⟩) n cs:=by
 subst hn
 have h:=Rd.of_own (Ow.lit w e cs hm)
 rw [World.size_alloc] at h
 exact h
theorem Ow.form6 {w:World} {base:Nat} {e:TypeId} {v:Value} {xs:List Value} (h:Ow w base e v xs) (n:Nat) (hn:xs.length=n):∃ A c,v = .slice A n c∧n≤c∧Rd w w.heap.size A n xs:=by
 subst hn
 obtain ⟨A,c,h1,h2,_,h3⟩:=h.form
 exact ⟨A,c,h1,h2,h3⟩
theorem Rd.lit_at (w:World) (e:TypeId) (cs:List Value) (n g:Nat) (hg:g=w.heap.size) (hn:cs.length=n) (hm:cs.length≤maxLen):Rd (w.alloc (.cells cs.toArray e)) (w.heap.size+1) (some ⟨g,0,none⟩) n cs:=by
 subst hg;exact Rd.lit w e cs n hn hm
theorem Rd.lit_top (w:World) (e:TypeId) (cs:List Value) (n g:Nat) (hg:g=w.heap.size) (hn:cs.length=n) (hm:cs.length≤maxLen):Rd (w.alloc (.cells cs.toArray e)) (w.alloc (.cells cs.toArray e)).heap.size (some ⟨g,0,none⟩) n cs:=(Rd.lit_at w e cs n g hg hn hm).more (by simp)
namespace Awake
def B:List UInt8:=[0,0,0,0,0,1,97,2,98,99,0]
def n1:List (List UInt8):=[[97],[98,99]]
def n2:List (List UInt8):=[[120],[98,99]]
def n3:List (List UInt8):=[[98,99],[100]]
end Awake
end Go.Proofs.YtlipmlbijddopaaGreatDoor
set_option linter.unusedVariables false
namespace Go.Proofs.YtlipmlbijddopaaGreatDoor
open Go.RowKit
section
variable (w:World)
theorem sclone_at (A:Option Addr) (c L:Nat) (l:List (List UInt8)) (hL:l.length=L) (h:Rd w w.heap.size A L (sc l)) (hl:L*16≤140737488355328) :
 Calls Tryz.prog 118 #[.slice A L c] w fun e w'=>∃ v,e = .returned v∧Ow w' w.heap.size 9 v (sc l)∧Below w.heap.size w w':=by
 subst hL;exact sclone A c l w w.heap.size (Nat.le_refl _) h hl
theorem seq_at (A1 A2:Option Addr) (c1 c2 L1 L2:Nat) (n z:List (List UInt8)) (r:Bool) (hr:decide (n=z)=r) (hL1:n.length=L1) (hL2:z.length=L2) (h1:Rd w w.heap.size A1 L1 (sc n)) (h2:Rd w w.heap.size A2 L2 (sc z)) (hl:L1≤140737488355328) (hm:L2≤140737488355328) :
 Calls Tryz.prog 34 #[.slice A1 L1 c1,.slice A2 L2 c2] w fun e w'=>e = .returned (.bool r)∧∃ q,w'=w.drewN q:=by
 subst hL1 hL2 hr;exact seq_any A1 A2 c1 c2 n z w w.heap.size h1 h2 hl hm
theorem append_at (A1 A2 A3:Option Addr) (c1 c2 c3 L1 L2 L3:Nat) (b:List UInt8) (known:List Int) (n:List (List UInt8)) (hL1:b.length=L1) (hL2:known.length=L2) (hL3:n.length=L3)
 (h1:Rd w w.heap.size A1 L1 (bc b)) (hc1:L1≤c1) (hb:L1≤100000) (h2:Rd w w.heap.size A2 L2 (ic known)) (hk:L2≤1000)
 (h3:Rd w w.heap.size A3 L3 (sc n)) (hc3:L3≤c3) (hr:rightN n=true) :
 Calls Tryz.prog 129 #[.slice A1 L1 c1,.slice A2 L2 c2,.slice A3 L3 c3] w fun e w'=>∃ v,e = .returned (.tuple #[v,.int .i64 0])∧Ow w' w.heap.size 5 v (bc (appN b known n))∧Below w.heap.size w w':=by
 subst hL1 hL2 hL3
 have hcl:∀ (f p:Nat),(chain b f p).length≤f:=by
  intro f
  induction f with
  | zero=>intro p;simp [chain]
  | succ f ih=>
    intro p
    rw [chain]
    split
    ·rw [List.length_append]
     have:=ih (p+(1+(b.getD p 0).toNat))
     split <;> simp only [List.length_cons,List.length_nil] <;> omega
    ·simp
 have hp1:∀ x,(place1 b x).length≤b.length+1:=by
  intro x
  unfold place1
  split
  ·have:=hcl b.length x.toNat
   rw [List.length_cons];omega
  ·simp
 have hpu:∀ k:List Int,(placesU b k).length≤k.length*(b.length+1):=by
  intro k
  unfold placesU
  induction k with
  | nil=>simp
  | cons x k ih=>
    rw [List.flatMap_cons,List.length_append,List.length_cons,Nat.add_mul,Nat.one_mul]
    have:=hp1 x
    omega
 have h5:=hpu known
 have h6:known.length*(b.length+1)≤1000*100001:=Nat.mul_le_mul hk (by omega)
 exact append_ok A1 A2 A3 c1 c2 c3 b known n w h1 hc1 (by omega) h2 (by omega) (by omega) h3 hc3 hr
end
end Go.Proofs.YtlipmlbijddopaaGreatDoor
