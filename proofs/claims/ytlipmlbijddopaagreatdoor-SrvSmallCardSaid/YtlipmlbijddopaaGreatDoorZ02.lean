/-
  Base; Size; Small; Right; Form; Read; DnsT; OwnsG; Mc; DnsM
-/
import Derived.WalkKit
import Derived.WalkSpells
import Derived.WalkLawsBesides
import Derived.Lib.Hide
import Derived.Laws.OwnMore
import Derived.Deep.AppendLies
import Derived.Deep.Draws
import Derived.Laws.Rows
import Derived.Maps.AppendAt
import Derived.Deep.AppendSrc
import Derived.Lib.SlBytesRow
import Derived.Laws.BitsAllLaws
import Derived.Laws.IdiomStrings
import Derived.Laws.BytesArg
import Derived.Test.YtlipmlbijddopaaGreatDoorProg
namespace Go.Proofs.YtlipmlbijddopaaGreatDoor
open Go.RowKit
def bc (l:List UInt8):List Value:=l.map fun c=>.int .u8 (c.toNat:Int)
def strV (l:List UInt8):Value:=.string ⟨l.toArray⟩
def sc (n:List (List UInt8)):List Value:=n.map strV
def ic (l:List Int):List Value:=l.map fun i=>.int .i64 i
@[simp] theorem bc_length (l:List UInt8):(bc l).length=l.length:=by simp [bc]
@[simp] theorem sc_length (l:List (List UInt8)):(sc l).length=l.length:=by simp [sc]
@[simp] theorem ic_length (l:List Int):(ic l).length=l.length:=by simp [ic]
theorem bc_get (l:List UInt8) (k:Nat) (h:k<l.length):(bc l)[k]? = some (.int .u8 (l[k].toNat:Int)):=by simp [bc,h]
theorem sc_get (l:List (List UInt8)) (k:Nat) (h:k<l.length):(sc l)[k]? = some (.string ⟨l[k].toArray⟩):=by simp [sc,h,strV]
theorem ic_get (l:List Int) (k:Nat) (h:k<l.length):(ic l)[k]? = some (.int .i64 l[k]):=by simp [ic,h]
theorem ret_int {k:IntKind} {a b:Int} (h:a=b):Ending.returned (.int k a) = .returned (.int k b):=by rw [h]
theorem ret_bool {a b:Bool} (h:a=b):Ending.returned (.bool a) = .returned (.bool b):=by rw [h]
theorem ret_t3 {v:Value} {a a' b b':Int} (h1:a=a') (h2:b=b'):Ending.returned (.tuple #[v,.int .i64 a,.int .i64 b]) = .returned (.tuple #[v,.int .i64 a',.int .i64 b']):=by rw [h1,h2]
def cutA (A:Option Addr) (cap k:Nat):Option Addr:=if cap=k then A else A.map (·.add k)
theorem cutA_some (b o cap k:Nat) (h:k<cap):cutA (some ⟨b,o,none⟩) cap k=some ⟨b,o+k,none⟩:=by
 unfold cutA
 rw [if_neg (by omega)]
 by_cases h0:k=0
 ·subst h0;rfl
 ·simp [Addr.add,h0]
theorem cutA_zero (A:Option Addr) (cap:Nat):cutA A cap 0=A:=by
 unfold cutA
 split
 ·rfl
 ·cases A <;> simp [Addr.add]
section
variable {P:Program} (W:World) (t e:TypeId) (ht:P.underlying t=some (.slice e)) (hz:∀ w,(Go.sizeOf e).run P w = .ok 1 w) (A:Option Addr) (n cap:Nat)
include ht hz
theorem run_sl_lh (l h:Nat) (h1:l≤h) (h2:h≤cap):(Instr.slice t (.slice A n cap) (some (.int .i64 (l:Int))) (some (.int .i64 (h:Int))) none).run P W = .ok (.slice (cutA A cap l) (h - l) (cap - l)) W:=by
 have ht':P.underlying t=some (.slice (P.elem t)):=by simp [Program.elem,ht]
 have he:P.elem t=e:=by simp [Program.elem,ht]
 rw [run_slice_lh W t _ _ _ ht' .i64 .i64 _ _ (by omega) (by omega) (by omega),he,hz]
 simp [Result.andThen,sliced,cutA]
theorem run_sl_l (l:Nat) (h1:l≤n):(Instr.slice t (.slice A n cap) (some (.int .i64 (l:Int))) none none).run P W = .ok (.slice (cutA A cap l) (n - l) (cap - l)) W:=by
 have ht':P.underlying t=some (.slice (P.elem t)):=by simp [Program.elem,ht]
 have he:P.elem t=e:=by simp [Program.elem,ht]
 rw [run_slice_l W t _ _ _ ht' .i64 _ (by omega) (by omega),he,hz]
 simp [Result.andThen,sliced,cutA]
theorem run_sl_h (h:Nat) (h2:h≤cap):(Instr.slice t (.slice A n cap) none (some (.int .i64 (h:Int))) none).run P W = .ok (.slice A h cap) W:=by
 have ht':P.underlying t=some (.slice (P.elem t)):=by simp [Program.elem,ht]
 have he:P.elem t=e:=by simp [Program.elem,ht]
 rw [run_slice_h W t _ _ _ ht' .i64 _ (by omega) (by omega),he,hz]
 have:=cutA_zero A cap
 unfold cutA at this
 simp [Result.andThen,sliced,this]
end
def Rd (w:World) (B:Nat) (A:Option Addr) (n:Nat) (xs:List Value):Prop:=
 xs.length=n∧(0<n→∃ b o,A=some ⟨b,o,none⟩∧b<B∧∀ j u,xs[j]? = some u→w.cell? ⟨b,o+j,none⟩=some u)
section
variable {w w':World} {B B' n:Nat} {A:Option Addr} {xs:List Value}
theorem Rd.nil (w:World) (B:Nat) (A:Option Addr):Rd w B A 0 []:=⟨rfl,fun h=>absurd h (by omega)⟩
theorem Rd.at_ {k:Nat} (h:Rd w B A n xs) (hk:k<n):∃ b o,A=some ⟨b,o,none⟩∧b<B∧∀ j u,xs[j]? = some u→w.cell? ⟨b,o+j,none⟩=some u:=h.2 (by omega)
theorem Rd.keep (h:Rd w B A n xs) (hk:∀ p:Addr,p.block<B→w'.cell? p=w.cell? p):Rd w' B A n xs:=
 ⟨h.1,fun hn=>by
  obtain ⟨b,o,e,hb,hc⟩:=h.2 hn
  exact ⟨b,o,e,hb,fun j u hu=>(hk _ hb).trans (hc j u hu)⟩⟩
theorem Rd.more (h:Rd w B A n xs) (hB:B≤B'):Rd w B' A n xs:=
 ⟨h.1,fun hn=>by
  obtain ⟨b,o,e,hb,hc⟩:=h.2 hn
  exact ⟨b,o,e,by omega,hc⟩⟩
theorem Rd.below (h:Rd w B A n xs) (hb:Below B w w'):Rd w' B A n xs:=h.keep fun _ hp=>hb.cell hp
theorem Rd.drew (h:Rd w B A n xs):Rd w.drew B A n xs:=h
theorem Rd.alloc (h:Rd w B A n xs) (hB:B≤w.heap.size) (o:Obj):Rd (w.alloc o) B A n xs:=h.keep fun p hp=>World.cell?_alloc_lt w o p (by omega)
theorem Rd.cut (h:Rd w B A n xs) {k m cap:Nat} (hk:k≤m) (hm:m≤n) (hc:n≤cap):Rd w B (cutA A cap k) (m - k) ((xs.drop k).take (m - k)):=by
 refine ⟨by rw [List.length_take,List.length_drop,h.1];omega,fun hn=>?_⟩
 obtain ⟨b,o,rfl,hb,hcell⟩:=h.2 (by omega)
 refine ⟨b,o+k,?_,hb,fun j u hu=>?_⟩
 ·unfold cutA
  rw [if_neg (by omega)]
  by_cases h0:k=0
  ·subst h0;rfl
  ·simp [Addr.add,h0]
 have hj:j<m - k:=by
  rcases Nat.lt_or_ge j (m - k) with h1 | h1
  ·exact h1
  ·rw [List.getElem?_eq_none (by rw [List.length_take];omega)] at hu;cases hu
 rw [List.getElem?_take_of_lt hj,List.getElem?_drop] at hu
 rw [Nat.add_assoc]
 exact hcell _ u hu
theorem Rd.of_own {base:Nat} {e:TypeId} {c:Nat} (h:w.ownsRow base e 1 (.slice A n c) n xs):Rd w w.heap.size A n xs:=by
 refine ⟨by simpa using h.1,fun hn=>?_⟩
 obtain ⟨g,cap,hv,_,hlt⟩:=h.form hn
 have hA:A=some ⟨g,0,none⟩:=by injection hv
 subst hA
 refine ⟨g,0,rfl,hlt,fun j u hu=>?_⟩
 have:=h.cells (g:=g) rfl j u hu
 by_cases hj:j=0
 ·subst hj;simpa [Addr.add] using this
 ·simpa [Addr.add,hj] using this
end
def Own (w:World) (g:Nat) (xs:List Value):Prop:=
 ∀ j u,xs[j]? = some u→w.cell? ⟨g,j,none⟩=some u∧w.frozen? ⟨g,j,none⟩=false
theorem Own.rd {w:World} {g B:Nat} {xs:List Value} (h:Own w g xs) (hB:g<B):Rd w B (some ⟨g,0,none⟩) xs.length xs:=
 ⟨rfl,fun _=>⟨g,0,rfl,hB,fun j u hu=>by rw [Nat.zero_add];exact (h j u hu).1⟩⟩
theorem Own.set_ {w:World} {g:Nat} {xs:List Value} (h:Own w g xs) (k:Nat) (v:Value):Own (w.setCell ⟨g,k,none⟩ v) g (xs.set k v):=by
 intro j u hu
 rw [World.frozen?_setCell]
 by_cases hj:j=k
 ·subst hj
  have hlt:j<xs.length:=by
   rcases Nat.lt_or_ge j xs.length with h1 | h1
   ·exact h1
   ·rw [List.getElem?_eq_none (by simpa using h1)] at hu;cases hu
  have h0:=h j xs[j] (by simp [hlt])
  refine ⟨?_,h0.2⟩
  rw [List.getElem?_set_self hlt] at hu
  cases hu
  exact World.cell?_setCell_same' _ _ _ (by rw [h0.1];rfl)
 ·rw [List.getElem?_set_ne (by omega)] at hu
  have h0:=h j u hu
  refine ⟨?_,h0.2⟩
  rw [World.cell?_setCell_other _ _ _ _ (by intro e;injection e;omega)]
  exact h0.1
section
variable {P:Program}
theorem conv_sb (w:World) (src dst e:TypeId) (s:List UInt8) (hs:P.underlying src=some .string) (hd:P.underlying dst=some (.slice e)) (he:P.underlying e=some (.int .u8)) :
 ∃ cap w1,(convert src dst (.string ⟨s.toArray⟩)).run P w = .ok (.slice (some ⟨w.heap.size,0,none⟩) s.length cap) w1∧s.length≤cap∧Below w.heap.size w w1∧w1.heap.size=w.heap.size+1∧Own w1 w.heap.size (bc s):=by
 refine ⟨_,_,run_bytes_of_string w src dst e ⟨s.toArray⟩ hs hd he,grownCap_ge w s.length 0 e,(Below.refl _ _).drew.alloc (Nat.le_refl _) _,by simp,fun j u hu=>?_⟩
 have hj:j<s.length:=by
  rcases Nat.lt_or_ge j s.length with h1 | h1
  ·exact h1
  ·rw [List.getElem?_eq_none (by simpa using h1)] at hu;cases hu
 have hu':u = .int .u8 (s[j].toNat:Int):=by rw [bc_get s j hj] at hu;cases hu;rfl
 subst hu'
 have hsz:w.drew.heap.size=w.heap.size:=rfl
 have h1:=World.cell?_alloc_mark w.drew (bytesRow ⟨s.toArray⟩ (grownCap w s.length 0 e)) e ((bytesRow ⟨s.toArray⟩ (grownCap w s.length 0 e)).size,(bytesRow ⟨s.toArray⟩ (grownCap w s.length 0 e)).size+1) j
 have h2:=World.frozen?_alloc_mark w.drew (bytesRow ⟨s.toArray⟩ (grownCap w s.length 0 e)) e (bytesRow ⟨s.toArray⟩ (grownCap w s.length 0 e)).size ((bytesRow ⟨s.toArray⟩ (grownCap w s.length 0 e)).size+1) j
 rw [hsz] at h1 h2
 refine ⟨h1.trans ?_,h2.trans ?_⟩
 ·rw [bytesRow_at ⟨s.toArray⟩ _ j (by simpa using hj)];simp
 ·have hz:s.length≤(bytesRow ⟨s.toArray⟩ (grownCap w s.length 0 e)).size:=by
   unfold bytesRow;simp
  simp;omega
theorem conv_bs (w:World) (src e dst:TypeId) (A:Option Addr) (c B:Nat) (l:List UInt8) (hs:P.underlying src=some (.slice e)) (he:P.underlying e=some (.int .u8)) (hd:P.underlying dst=some .string) (h:Rd w B A l.length (bc l)) :
 (convert src dst (.slice A l.length c)).run P w = .ok (.string ⟨l.toArray⟩) w:=by
 rcases A with _ | a
 ·rcases Nat.eq_zero_or_pos l.length with h0 | h0
  ·have hl:l=[]:=List.eq_nil_of_length_eq_zero h0
   subst hl
   exact run_convert_bytes_nil w src e hs he _ _ dst hd
  ·obtain ⟨b,o,h1,_⟩:=h.2 h0;cases h1
 ·refine run_convert_bytes_back w src dst e a c l hs he hd fun j hj=>?_
  obtain ⟨b,o,h1,_,h2⟩:=h.2 (by omega)
  cases h1
  have h3:=h2 j _ (bc_get l j hj)
  by_cases h0:j=0
  ·subst h0;simpa [Addr.add] using h3
  ·simpa [Addr.add,h0] using h3
end
def Ow (w:World) (base:Nat) (e:TypeId) (v:Value) (xs:List Value):Prop:=w.ownsRow base e 1 v xs.length xs
def Gr (w w':World) (v v':Value):Prop:=w.grownBy w' v.ownBlock∧∀ g,v'.ownBlock=some g→v.ownBlock=some g∨w.heap.size≤g
theorem Gr.refl (w:World) (v:Value):Gr w w v v:=⟨⟨rfl,rfl,rfl,Nat.le_refl _,fun _ _ _=>rfl⟩,fun _ h=>.inl h⟩
theorem Gr.trans {a b c:World} {v v1 v2:Value} (h:Gr a b v v1) (k:Gr b c v1 v2):Gr a c v v2:=by
 refine ⟨⟨k.1.os.trans h.1.os,k.1.tape.trans h.1.tape,k.1.output.trans h.1.output,Nat.le_trans h.1.size k.1.size,fun i hi hne=>?_⟩,fun g hg=>?_⟩
 ·refine (k.1.block i (Nat.lt_of_lt_of_le hi h.1.size) (fun e=>?_)).trans (h.1.block i hi hne)
  rcases h.2 i e.symm with h1 | h1
  ·exact hne h1.symm
  ·omega
 ·rcases k.2 g hg with h1 | h1
  ·exact h.2 g h1
  ·exact .inr (Nat.le_trans h.1.size h1)
theorem Gr.alloc {a b:World} {v v1:Value} (h:Gr a b v v1) (o:Obj):Gr a (b.alloc o) v v1:=
 ⟨⟨h.1.os,h.1.tape,h.1.output,by have:=h.1.size;simp;omega,fun i hi hne=>(Below.heap_alloc b o i (Nat.lt_of_lt_of_le hi h.1.size)).trans (h.1.block i hi hne)⟩,h.2⟩
theorem Gr.below {a b:World} {B:Nat} {v v1:Value} (h:Gr a b v v1) (hv:∀ g,v.ownBlock=some g→B≤g) (hB:B≤a.heap.size):Below B a b:=
 (Below.refl B a).grown h.1 hB hv
theorem Ow.nil (w:World) (base:Nat) (e:TypeId):Ow w base e (.slice none 0 0) []:=World.ownsRow_nil _ _ _ _
theorem Ow.lt {w:World} {base:Nat} {e:TypeId} {v:Value} {xs:List Value} (h:Ow w base e v xs):∀ g,v.ownBlock=some g→base≤g:=fun g hg=>(World.ownsRow.lt h g hg).1
theorem Ow.alloc {w:World} {base:Nat} {e:TypeId} {v:Value} {xs:List Value} (h:Ow w base e v xs) (o:Obj):Ow (w.alloc o) base e v xs:=World.ownsRow.alloc h o
theorem Ow.drew {w:World} {base:Nat} {e:TypeId} {v:Value} {xs:List Value} (h:Ow w base e v xs):Ow w.drew base e v xs:=h
theorem Ow.far {w w':World} {base:Nat} {e:TypeId} {v:Value} {xs:List Value} (h:Ow w base e v xs) (hb:Below w.heap.size w w'):Ow w' base e v xs:=
 World.ownsRow.kept (row:=none) h ⟨hb.os,hb.tape,hb.output,hb.size,fun i hi _=>hb.block i hi⟩ (by cases h:v.ownBlock <;> simp)
theorem Ow.kept {w w':World} {base:Nat} {e:TypeId} {v v1 v1':Value} {xs:List Value} (h:Ow w base e v xs) (hg:Gr w w' v1 v1') (hne:∀ g,v.ownBlock=some g→v1.ownBlock≠some g):Ow w' base e v xs:=
 World.ownsRow.kept h hg.1 (by
  cases hv:v.ownBlock with
  | none=>exact .inl rfl
  | some g=>exact .inr (fun e=>hne g hv e.symm))
theorem Ow.mono {w:World} {base base':Nat} {e:TypeId} {v:Value} {xs:List Value} (h:Ow w base e v xs) (hb:base'≤base):Ow w base' e v xs:=by
 refine ⟨h.1,?_⟩
 rcases h.2 with h2 | ⟨g,cap,cur,h1,h2,h3⟩
 ·exact .inl h2
 ·exact .inr ⟨g,cap,cur,h1,by omega,h3⟩
theorem Ow.form {w:World} {base:Nat} {e:TypeId} {v:Value} {xs:List Value} (h:Ow w base e v xs):∃ A c,v = .slice A xs.length c∧xs.length≤c∧c≤maxLen∧Rd w w.heap.size A xs.length xs:=by
 have h0:=h
 rcases h.2 with ⟨rfl,hx⟩ | ⟨g,cap,cur,rfl,_,_,h1,h2,_⟩
 ·have:xs=[]:=List.eq_nil_of_length_eq_zero hx
  subst this
  exact ⟨none,0,rfl,Nat.le_refl _,by simp [maxLen],Rd.nil _ _ _⟩
 ·exact ⟨_,cap,rfl,h1,h2,Rd.of_own h0⟩
theorem Rd.src {P:Program} {w:World} {B n c:Nat} {A:Option Addr} {xs:List Value} {tx e':TypeId} (h:Rd w B A n xs) (hk:P.underlying tx=some (.slice e')) (h1:∀ u∈xs,u.oneCell'=true):Src P 1 tx (.slice A n c) n xs w:=by
 rcases Nat.eq_zero_or_pos n with h0 | h0
 ·subst h0
  have:xs=[]:=List.eq_nil_of_length_eq_zero h.1
  subst this
  rcases A with _ | a
  ·exact Src.ofNil w hk c
  ·exact Src.ofSlice w hk a 0 c [] rfl (fun j u hj=>by simp at hj) h1
 ·obtain ⟨b,o,rfl,_,hc⟩:=h.2 h0
  refine Src.ofSlice w hk _ n c xs (by simpa using h.1) (fun j u hj=>?_) h1
  have:=hc j u hj
  by_cases hj0:j=0
  ·subst hj0;simpa [Addr.add] using this
  ·simpa [Addr.add,hj0] using this
theorem one_src {P:Program} {w:World} {tx e' e:TypeId} (hk:P.underlying tx=some (.slice e')) (u:Value) (h1:u.oneCell'=true):Src P 1 tx (.slice (some ⟨w.heap.size,0,none⟩) 1 1) 1 [u] (w.alloc (.cells #[u] e)):=
 Src.ofSlice _ hk _ 1 1 [u] rfl (cell_one_new w u e) (by simpa using h1)
theorem str_src {P:Program} {w:World} {tx:TypeId} (hk:P.underlying tx=some .string) (s:List UInt8):Src P 1 tx (.string ⟨s.toArray⟩) s.length (bc s) w:=by
 have:=Src.ofString (P:=P) w hk ⟨s.toArray⟩
 rw [show (⟨s.toArray⟩:ByteArray).size=s.length from rfl] at this
 simpa [byteCells,bc] using this
theorem bc_one (l:List UInt8):∀ u∈bc l,u.oneCell'=true:=by
 intro u hu
 obtain ⟨_,_,rfl⟩:=List.mem_map.1 hu
 rfl
theorem sc_one (l:List (List UInt8)):∀ u∈sc l,u.oneCell'=true:=by
 intro u hu
 obtain ⟨_,_,rfl⟩:=List.mem_map.1 hu
 rfl
section
variable {P:Program} (w:World)
theorem run_room_row (t tx ty e:TypeId) (i:TypeInfo) (ht:P.underlying t=some (.slice e)) (hi:P.info? e=some i) (hsize:i.size=1)
 (g sLen sCap:Nat) (cur:Array Value) (hg:w.heap[g]? = some (.cells cur e (0,0))) (x:Value) (n:Nat) (news:List Value) (hs:Src P 1 tx x n news w)
 (hroom:sLen+n≤sCap) (hfit:sLen+news.length≤cur.size) :
 (Builtin.append_ #[t,tx] ty #[.slice (some ⟨g,0,none⟩) sLen sCap,x]).run P w =
  .ok (.slice (some ⟨g,0,none⟩) (sLen+n) sCap) (w.setRow g (cur.toList.take sLen++news++cur.toList.drop (sLen+news.length)).toArray):=by
 have hst:=run_storeCells_at P g sLen e news 0 cur w hg (by simpa using hfit) hs.one
 simp only [Nat.add_zero] at hst
 rcases hs.kind with ⟨e',hk⟩ | hk <;> simp [Builtin.append_,run_underlying ht,run_underlying hk,sizeOf,typeInfo,hi,hsize,hs.len,hroom,hs.cells,Addr.add_lit,hst]
theorem run_app (base:Nat) (t tx ty e:TypeId) (i:TypeInfo) (z:Value) (bytes:Nat) (ht:P.underlying t=some (.slice e)) (hi:P.info? e=some i) (hz:i.zero=some z)
 (hsize:i.size=1) (hby:i.bytes=bytes) (hzs:z.cells.size=1) (hb1:1≤bytes)
 (v:Value) (xs:List Value) (hown:Ow w base e v xs) (x:Value) (n:Nat) (news:List Value) (hs:Src P 1 tx x n news w)
 (hbytes:(xs.length+n)*bytes≤140737488355328) (hbase:base≤w.heap.size) :
 ∃ v' w',(Builtin.append_ #[t,tx] ty #[v,x]).run P w = .ok v' w'∧Ow w' base e v' (xs++news)∧Gr w w' v v':=by
 subst hby
 have hnl:news.length=n:=by simpa using hs.newsLen
 have hle:xs.length+n≤140737488355328:=Nat.le_trans (Nat.le_mul_of_pos_right _ hb1) hbytes
 have hfits:∀ c,c<xs.length+n→Builtin.nextslicecap (xs.length+n) c*i.bytes≤281474976710656:=fun c hc=>growslice_fits hc hbytes
 have hs':Src P i.size tx x n news w:=by rw [hsize];exact hs
 have grown:∀ (old:Nat),old<xs.length+n→
  Ow (w.drew.alloc (.cells ((xs++news).toArray++Builtin.zeroCells z.cells (grownCap w (xs.length+n) old e - (xs.length+n))) e)) base e
   (.slice (some ⟨w.heap.size,0,none⟩) (xs.length+n) (grownCap w (xs.length+n) old e)) (xs++news)∧
  Gr w (w.drew.alloc (.cells ((xs++news).toArray++Builtin.zeroCells z.cells (grownCap w (xs.length+n) old e - (xs.length+n))) e)) v (.slice (some ⟨w.heap.size,0,none⟩) (xs.length+n) (grownCap w (xs.length+n) old e)):=by
  intro old ho
  have hge:=grownCap_ge w (xs.length+n) old e
  have hcm:grownCap w (xs.length+n) old e≤maxLen:=grownCap_le_maxLen w (xs.length+n) old e (by unfold maxLen;omega)
  refine ⟨⟨by simp,.inr ⟨w.heap.size,_,_,by rw [List.length_append,hnl],hbase,heap_alloc_new w.drew _,by rw [List.length_append,hnl];exact hge,hcm,?_,?_⟩⟩,⟨⟨rfl,rfl,rfl,by simp,fun k hk _=>Below.heap_alloc w.drew _ k hk⟩,fun g hg=>?_⟩⟩
  ·simp only [Array.size_append,List.size_toArray,size_zeroCells,hzs,List.length_append,hnl]
   omega
  ·rw [Array.toList_append,Nat.mul_one]
   exact List.take_left' (by simp)
  ·simp [Value.ownBlock] at hg;omega
 rcases hown.2 with ⟨rfl,hx0⟩ | ⟨g,cap,cur,rfl,hbg,hg,hnc,hcm,hcs,htake⟩
 ·have hx:xs=[]:=List.eq_nil_of_length_eq_zero hx0
  subst hx
  by_cases hm:n=0
  ·subst hm
   have hn:news=[]:=List.eq_nil_of_length_eq_zero hnl
   subst hn
   refine ⟨.slice none 0 0,w,?_,Ow.nil w base e,Gr.refl _ _⟩
   rcases hs.kind with ⟨e',hk⟩ | hk <;> simp [Builtin.append_,run_underlying ht,run_underlying hk,sizeOf,typeInfo,hi,hsize,hs.len,hs.cells]
  ·have hr:=run_append_grow_src (P:=P) w t tx ty e i z ht hi hz none 0 0 [] (run_firstCells_none w.drew _ _ _ _) x n news hs' (by omega) (by simp at hle;omega) (by have:=hfits 0 (by simp;omega);simpa using this)
   have hgr:=grown 0 (by simp;omega)
   simp only [List.length_nil,Nat.zero_add,List.nil_append] at hgr hr ⊢
   exact ⟨_,_,hr,hgr.1,hgr.2⟩
 ·by_cases hroom:xs.length+n≤cap
  ·have hr:=run_room_row (P:=P) w t tx ty e i ht hi hsize g xs.length cap cur hg x n news hs hroom (by rw [hcs,hnl];omega)
   refine ⟨_,_,hr,⟨by simp,.inr ⟨g,cap,_,by rw [List.length_append,hnl],hbg,setRow_heap w g cur _ e _ hg,by rw [List.length_append,hnl];exact hroom,hcm,?_,?_⟩⟩,⟨⟨rfl,rfl,rfl,by simp,fun k _ hk=>setRow_other w g k _ (fun e=>hk (by simp [Value.ownBlock,e]))⟩,fun k hk=>.inl hk⟩⟩
   ·simp only [List.size_toArray,List.length_append,List.length_take,List.length_drop,Array.length_toList]
    omega
   ·rw [Nat.mul_one] at htake ⊢
    rw [htake]
    exact List.take_left' (by simp)
  ·have holds:∀ j u,xs[j]? = some u→w.cell? ((⟨g,0,none⟩:Addr).add j)=some u:=World.ownsRow.cells hown (g:=g) rfl
   have hr:=run_append_grow_src (P:=P) w t tx ty e i z ht hi hz (some ⟨g,0,none⟩) xs.length cap xs (run_firstCells_some w.drew _ _ _ _ _ _ (by rw [hsize,Nat.mul_one]) (by simpa using holds)) x n news hs' (by omega) (by omega) (hfits cap (by omega))
   have hgr:=grown cap (by omega)
   exact ⟨_,_,hr,hgr.1,hgr.2⟩
theorem wpList_app {ops:Array Oper} {rest:List Oper} {o:Oper} {a:Act} {Q:Exit→Act→World→Prop} (hgd:o.guard=none) (s x:Operand) (t tx:TypeId)
 (ho:o.op = .call { callee:=.builtin .append,args:=#[s,x],argTypes:=#[t,tx] })
 (base:Nat) (e:TypeId) (i:TypeInfo) (z:Value) (bytes:Nat) (ht:P.underlying t=some (.slice e)) (hi:P.info? e=some i) (hz:i.zero=some z)
 (hsize:i.size=1) (hby:i.bytes=bytes) (hzs:z.cells.size=1) (hb1:1≤bytes)
 (v:Value) (xs:List Value) (hown:Ow w base e v xs) (hv:a.eval s=v) (n:Nat) (news:List Value) (hs:Src P 1 tx (a.eval x) n news w)
 (hbytes:(xs.length+n)*bytes≤140737488355328) (hbase:base≤w.heap.size)
 (h:∀ v' w',Ow w' base e v' (xs++news)→Gr w w' v v'→base≤w'.heap.size→wpList P ops Q rest (a.put o.dst v') w'):wpList P ops Q (o :: rest) a w:=by
 refine wpList_plain hgd fun K hK=>?_
 obtain ⟨v',w',hr,h2,h3⟩:=run_app (P:=P) w base t tx o.type e i z bytes ht hi hz hsize hby hzs hb1 v xs hown _ n news hs hbytes hbase
 unfold Oper.wp execOp
 simp only [ho,resolve,invoke,builtin,Sem.run_bind,Sem.run_pure,Result.andThen_ok,List.map_toArray,List.map_cons,List.map_nil,hv,hr]
 exact hK _ _ (h v' w' h2 h3 (Nat.le_trans hbase h3.1.size))
end
theorem i64_or_nat (a b:Nat) (ha:a<4611686018427387904) (hb:b<4611686018427387904):bits .or .i64 (a:Int) (b:Int)=((a ||| b:Nat):Int):=by
 have hx:a ||| b<2 ^ 62:=Nat.or_lt_two_pow (by omega) (by omega)
 show IntKind.i64.wrap ((BitVec.ofInt 64 (a:Int) ||| BitVec.ofInt 64 (b:Int)).toNat:Int)=_
 rw [BitVec.toNat_or,ofInt_u64 a (by omega),ofInt_u64 b (by omega),IntKind.wrap_i64]
 omega
theorem or_ptr (x y:Nat) (hx:192≤x) (hx2:x<256) (hy:y<256):bits .or .i64 (((x:Int) - 192)*256) (y:Int)=(((x - 192)*256+y:Nat):Int):=by
 have e:((x:Int) - 192)*256=(((x - 192)*256:Nat):Int):=by omega
 rw [e,i64_or_nat _ _ (by omega) (by omega),nat_join 8 _ _ (by omega) (by omega)]
end Go.Proofs.YtlipmlbijddopaaGreatDoor
namespace Go.Proofs.YtlipmlbijddopaaGreatDoor
open Go.RowKit
def sizeN:List (List UInt8)→Nat
 | []=>1
 | l :: n=>1+l.length+sizeN n
theorem sizeN_append (n m:List (List UInt8)):sizeN (n++m)+1=sizeN n+sizeN m:=by
 induction n with
 | nil=>simp [sizeN];omega
 | cons a n ih=>simp [sizeN];omega
theorem sizeN_take (n:List (List UInt8)) (k:Nat) (h:k<n.length):sizeN (n.take (k+1))=sizeN (n.take k)+(1+n[k].length):=by
 have:=sizeN_append (n.take k) [n[k]]
 rw [List.take_succ_eq_append_getElem h]
 simp [sizeN] at this ⊢;omega
theorem sizeN_take_le (n:List (List UInt8)) (k:Nat):sizeN (n.take k)≤sizeN n:=by
 have:=sizeN_append (n.take k) (n.drop k)
 rw [List.take_append_drop] at this
 have:1≤sizeN (n.drop k):=by cases n.drop k <;> simp [sizeN];omega
 omega
theorem sizeN_length (n:List (List UInt8)):n.length<sizeN n:=by
 induction n with
 | nil=>simp [sizeN]
 | cons a n ih=>simp [sizeN];omega
set_option maxHeartbeats 400000 in
theorem size_any (A:Option Addr) (c:Nat) (n:List (List UInt8)) (w:World) (B:Nat) (h:Rd w B A n.length (sc n)) (hs:sizeN n≤9223372036854775807) :
 Calls Tryz.prog 109 #[.slice A n.length c] w fun e w'=>e = .returned (.int .i64 (sizeN n))∧w'=w:=by
 have hl:=sizeN_length n
 go_enter Tryz.func109,Tryz.ntmps109
 go_wp2
 go_loop [3,8] (fun s i=>∃ k:Nat,k≤n.length∧i = .int .i64 k∧s = .int .i64 (sizeN (n.take k))) (fun _ i=>n.length - (intOf i).toNat)
 case atStart=>exact ⟨0,Nat.zero_le _,rfl,rfl⟩
 case round=>
  obtain ⟨k,hk,rfl,rfl⟩:=hrel
  by_cases hlt:k<n.length
  ·obtain ⟨b,o,rfl,_,hc⟩:=h.at_ hlt
   have hcell:=hc k _ (sc_get n k hlt)
   have hst:=sizeN_take n k hlt
   have hle:=sizeN_take_le n (k+1)
   have hle1:sizeN (n.take k)+(1+n[k].length)≤9223372036854775807:=by omega
   have HS:=Lib.hid hst
   clear hst hle hc h
   go_wp2
   go_round
   case rel=>exact ⟨k+1,by omega,by go_num,by rw [HS.out];go_num⟩
   case measure=>simp [intOf];omega
  ·go_wp2
   go_ret
   have:k=n.length:=by omega
   subst this
   simp
end Go.Proofs.YtlipmlbijddopaaGreatDoor
namespace Go.Proofs.YtlipmlbijddopaaGreatDoor
open Go.RowKit
def smallB (c:UInt8):UInt8:=if 65≤c∧c≤90 then c+32 else c
def smallS (l:List UInt8):List UInt8:=l.map smallB
@[simp] theorem smallS_length (l:List UInt8):(smallS l).length=l.length:=by simp [smallS]
def mid (l:List UInt8) (k:Nat):List UInt8:=smallS (l.take k)++l.drop k
theorem mid_zero (l:List UInt8):mid l 0=l:=by simp [mid,smallS]
theorem mid_all (l:List UInt8) (k:Nat) (h:l.length≤k):mid l k=smallS l:=by simp [mid,List.take_of_length_le h,List.drop_eq_nil_of_le h]
theorem mid_get (l:List UInt8) (k:Nat) (h:k<l.length):(mid l k)[k]? = some l[k]:=by
 have:k=(smallS (l.take k)).length:=by simp;omega
 unfold mid
 rw [List.getElem?_append_right (by simp;omega),List.getElem?_drop]
 simp [show min k l.length=k by omega,h]
theorem mid_set (l:List UInt8) (k:Nat) (h:k<l.length):(mid l k).set k (smallB l[k])=mid l (k+1):=by
 have h1:(smallS (l.take k)).length=k:=by simp;omega
 have h2:smallS (l.take (k+1))=smallS (l.take k)++[smallB l[k]]:=by rw [List.take_succ_eq_append_getElem h];unfold smallS;rw [List.map_append];rfl
 unfold mid
 rw [List.set_append_right _ _ (by omega),h1,Nat.sub_self,List.drop_eq_getElem_cons h,List.set_cons_zero,h2]
 simp
theorem mid_same (l:List UInt8) (k:Nat) (h:k<l.length) (hs:smallB l[k]=l[k]):mid l (k+1)=mid l k:=by
 rw [←mid_set l k h,hs]
 have hm:=mid_get l k h
 obtain ⟨hk,he⟩:=List.getElem?_eq_some_iff.1 hm
 rw [←he,List.set_getElem_self]
theorem smallB_yes (c:UInt8) (h1:65≤(c.toNat:Int)) (h2:(c.toNat:Int)≤90):((smallB c).toNat:Int)=c.toNat - 65+97:=by
 unfold smallB
 have h3:65≤c:=by rw [UInt8.le_iff_toNat_le];simp;omega
 have h4:c≤90:=by rw [UInt8.le_iff_toNat_le];simp;omega
 rw [if_pos ⟨h3,h4⟩,UInt8.toNat_add]
 simp;omega
theorem smallB_no (c:UInt8) (h:¬ (65≤(c.toNat:Int)∧(c.toNat:Int)≤90)):smallB c=c:=by
 unfold smallB
 rw [if_neg]
 intro ⟨h3,h4⟩
 rw [UInt8.le_iff_toNat_le] at h3 h4
 simp at h3 h4
 omega
theorem bc_set (l:List UInt8) (k:Nat) (c:UInt8):(bc l).set k (.int .u8 (c.toNat:Int))=bc (l.set k c):=by simp [bc]
set_option maxRecDepth 100000 in
set_option maxHeartbeats 400000 in
theorem small1_any (l:List UInt8) (g c:Nat) (w:World) (B:Nat) (hB:B≤g) (h:Own w g (bc l)) (hl:l.length≤140737488355328) :
 Calls Tryz.prog 145 #[.slice (some ⟨g,0,none⟩) l.length c] w fun e w'=>e = .returned (.string ⟨(smallS l).toArray⟩)∧Below B w w':=by
 go_enter Tryz.func145,Tryz.ntmps145
 go_wp2
 go_loopw [7,3,4] (fun i _ _ wr=>∃ k:Nat,k≤l.length∧i = .int .i64 k∧Own wr g (bc (mid l k))∧Below B w wr) (fun i _ _ _=>l.length - (intOf i).toNat)
 case atStart=>exact ⟨0,Nat.zero_le _,rfl,by rw [mid_zero];exact h,Below.refl _ _⟩
 case round=>
  obtain ⟨k,hk,rfl,hown,hbel⟩:=hrel
  by_cases hlt:k<l.length
  ·have hm:=mid_get l k hlt
   have hc:=hown k (.int .u8 (l[k].toNat:Int)) (by simp [bc,hm])
   obtain ⟨hc1,hc2⟩:=hc
   go_wp2
   ·have t1:65≤(l[k].toNat:Int):=by assumption
    have t2:(l[k].toNat:Int)≤90:=by assumption
    go_roundw
    case rel=>exact ⟨k+1,by omega,by go_num,by rw [←smallB_yes _ t1 t2,←mid_set l k hlt,←bc_set];exact hown.set_ k _,hbel.setCell (by exact hB) _⟩
    case measure=>simp [intOf];omega
   ·have t2:¬ (l[k].toNat:Int)≤90:=by assumption
    go_roundw
    case rel=>exact ⟨k+1,by omega,by go_num,by rw [mid_same l k hlt (smallB_no _ (fun h=>t2 h.2))];exact hown,hbel⟩
    case measure=>simp [intOf];omega
   ·have t2:¬ 65≤(l[k].toNat:Int):=by assumption
    go_roundw
    case rel=>exact ⟨k+1,by omega,by go_num,by rw [mid_same l k hlt (smallB_no _ (fun h=>t2 h.1))];exact hown,hbel⟩
    case measure=>simp [intOf];omega
  ·rw [mid_all l k (by omega)] at hown
   have hcv:=fun (W:World) (h:Own W g (bc (smallS l)))=>conv_bs (P:=Tryz.prog) W 22 5 9 (some ⟨g,0,none⟩) c (g+1) (smallS l) Tryz.underlying22 Tryz.underlying5 Tryz.underlying9 (by have:=h.rd (B:=g+1) (by omega);simpa using this)
   have hcv1:=hcv wr hown
   rw [smallS_length] at hcv1
   clear hcv
   go_wp2
   go_ret
   exact ⟨rfl,hbel⟩
set_option maxRecDepth 100000 in
set_option maxHeartbeats 400000 in
theorem small_any (l:List UInt8) (w:World) (hl:l.length≤140737488355328) :
 Calls Tryz.prog 108 #[.string ⟨l.toArray⟩] w fun e w'=>e = .returned (.string ⟨(smallS l).toArray⟩)∧Below w.heap.size w w':=by
 obtain ⟨cap,w1,hrun,_,hb1,hz1,hown⟩:=conv_sb (P:=Tryz.prog) w 9 22 5 l Tryz.underlying9 Tryz.underlying22 Tryz.underlying5
 clear hz1
 go_enter Tryz.func108,Tryz.ntmps108
 go_wp2_with (go_at_call 145;refine (small1_any l w.heap.size cap w1 w.heap.size (Nat.le_refl _) hown hl).mono ?_;rintro e w2 ⟨rfl,hb2⟩)
 go_ret
 exact ⟨rfl,hb1.trans hb2⟩
end Go.Proofs.YtlipmlbijddopaaGreatDoor
set_option linter.unusedVariables false
namespace Go.Proofs.YtlipmlbijddopaaGreatDoor
open Go.RowKit
def okL (l:List UInt8):Bool:=decide (l.length≠0) && decide (l.length≤63) && decide (smallS l=l)
def rightN (n:List (List UInt8)):Bool:=n.all okL && decide (sizeN n≤255)
theorem mem_size {l:List UInt8} {n:List (List UInt8)} (h:l∈n):1+l.length≤sizeN n:=by
 induction n with
 | nil=>cases h
 | cons a n ih=>
   simp only [sizeN]
   rcases List.mem_cons.1 h with rfl | h
   ·omega
   ·have:=ih h;omega
theorem okL_take (n:List (List UInt8)) (k:Nat) (hk:k<n.length) (h:(n.take k).all okL=true) (ho:okL n[k]=true):(n.take (k+1)).all okL=true:=by
 rw [List.take_succ_eq_append_getElem hk,List.all_append,h];simp [ho]
theorem right_no (n:List (List UInt8)) (k:Nat) (hk:k<n.length) (ho:okL n[k]=false):rightN n=false:=by
 unfold rightN
 have:n.all okL=false:=by
  rw [List.all_eq_false]
  exact ⟨n[k],List.getElem_mem hk,by simp [ho]⟩
 simp [this]
theorem right_end (n:List (List UInt8)) (k:Nat) (hk:n.length≤k) (h:(n.take k).all okL=true):rightN n=decide (sizeN n≤255):=by
 rw [List.take_of_length_le hk] at h
 unfold rightN
 rw [h];simp
set_option maxRecDepth 100000 in
set_option maxHeartbeats 400000 in
theorem right_any (A:Option Addr) (c:Nat) (n:List (List UInt8)) (w:World) (h:Rd w w.heap.size A n.length (sc n)) (hs:sizeN n≤140737488355328) :
 Calls Tryz.prog 69 #[.slice A n.length c] w fun e w'=>e = .returned (.bool (rightN n))∧Below w.heap.size w w':=by
 have hl:=sizeN_length n
 go_enter Tryz.func69,Tryz.ntmps69
 go_wp2_with fail
 go_loopw [7] (fun i wr=>∃ k:Nat,k≤n.length∧i = .int .i64 k∧(n.take k).all okL=true∧Below w.heap.size w wr) (fun i _=>n.length - (intOf i).toNat)
 case atStart=>exact ⟨0,Nat.zero_le _,rfl,rfl,Below.refl _ _⟩
 case round=>
  obtain ⟨k,hk,rfl,hall,hbel⟩:=hrel
  have hr:=h.below hbel
  by_cases hlt:k<n.length
  ·obtain ⟨b,o,rfl,_,hc⟩:=hr.at_ hlt
   have hcell:=hc k _ (sc_get n k hlt)
   have hle:=mem_size (List.getElem_mem hlt)
   have HA:=Lib.hid hall
   clear hc h hr hall
   go_wp2_with (go_at_call 108;refine (small_any n[k] wr (by omega)).mono ?_;rintro e w2 ⟨rfl,hb2⟩)
   ·have t1:n[k]=[]:=by assumption
    go_ret
    exact ⟨ret_bool (by rw [right_no n k hlt (by simp [okL,t1])]),hbel⟩
   ·have t2:(((n[k].length:Int) == 0)=true∨63<(n[k].length:Int))∨(!smallS n[k] == n[k])=true:=by assumption
    have t1:(n[k].length:Int)≤63:=by assumption
    have t0:¬ n[k]=[]:=by assumption
    have t3:okL n[k]=false:=by
     simp [t0] at t2
     rcases t2 with t2 | t2
     ·omega
     ·simp [okL,t2]
    go_ret
    exact ⟨ret_bool (by rw [right_no n k hlt t3]),hbel.trans (hb2.mono hbel.size)⟩
   ·have t2:(((n[k].length:Int) == 0)=false∧(n[k].length:Int)≤63)∧(!smallS n[k] == n[k])=false:=by assumption
    have t0:¬ n[k]=[]:=by assumption
    have t3:okL n[k]=true:=by
     obtain ⟨⟨_,t5⟩,t6⟩:=t2
     simp at t6
     simp [okL,t0,t6];omega
    go_roundw
    case rel=>exact ⟨k+1,by omega,by go_num,okL_take n k hlt HA.out t3,hbel.trans (hb2.mono hbel.size)⟩
    case measure=>simp [intOf];omega
   ·have t1:63<(n[k].length:Int):=by assumption
    go_ret
    exact ⟨ret_bool (by rw [right_no n k hlt (by simp [okL];omega)]),hbel⟩
  ·have HA:=Lib.hid hall
   clear hall
   go_wp2_with (go_at_call 109;refine (size_any A c n wr w.heap.size hr (by omega)).mono ?_;rintro e w2 ⟨rfl,rfl⟩)
   go_ret
   exact ⟨ret_bool (by rw [right_end n k (by omega) HA.out];simp;omega),hbel⟩
end Go.Proofs.YtlipmlbijddopaaGreatDoor
set_option linter.unusedVariables false
namespace Go.Proofs.YtlipmlbijddopaaGreatDoor
open Go.RowKit
def labS (n:List (List UInt8)):List UInt8:=n.flatMap fun l=>UInt8.ofNat l.length :: l
theorem labS_take (n:List (List UInt8)) (k:Nat) (h:k<n.length):labS (n.take (k+1))=labS (n.take k)++(UInt8.ofNat n[k].length :: n[k]):=by
 rw [List.take_succ_eq_append_getElem h];unfold labS;rw [List.flatMap_append];simp only [List.flatMap_cons,List.flatMap_nil,List.append_nil]
theorem labS_length (n:List (List UInt8)):(labS n).length+1=sizeN n:=by
 induction n with
 | nil=>rfl
 | cons a n ih=>simp [labS,sizeN] at ih ⊢;omega
theorem Tryz.infoByte:(Tryz.prog.info? 5).map (fun i=>(i.zero,i.size,i.bytes))=some (some (.int .u8 0),1,1):=by kernel_rfl
set_option maxRecDepth 100000 in
set_option maxHeartbeats 400000 in
theorem labels_any (v:Value) (pre:List UInt8) (A:Option Addr) (c:Nat) (n:List (List UInt8)) (w:World) (B:Nat) (hB:B≤w.heap.size) (h:Rd w B A n.length (sc n))
 (hown:Ow w B 5 v (bc pre)) (hs:pre.length+sizeN n≤140737488355328) :
 Calls Tryz.prog 165 #[v,.slice A n.length c] w fun e w'=>∃ v',e = .returned v'∧Ow w' B 5 v' (bc (pre++labS n))∧Gr w w' v v':=by
 obtain ⟨i0,hi,hz0,hz1,hz2⟩:=info_parts Tryz.infoByte
 have hl:=sizeN_length n
 go_enter Tryz.func165,Tryz.ntmps165
 go_wp2_with fail
 go_loopw [0,9] (fun v1 i wr=>∃ k:Nat,k≤n.length∧i = .int .i64 k∧Ow wr B 5 v1 (bc (pre++labS (n.take k)))∧Gr w wr v v1) (fun _ i _=>n.length - (intOf i).toNat)
 case atStart=>exact ⟨0,Nat.zero_le _,rfl,by simpa [labS] using hown,Gr.refl _ _⟩
 case round=>
  obtain ⟨k,hk,rfl,hownr,hgr⟩:=hrel
  have hbel:=hgr.below hown.lt hB
  have hr:=h.below hbel
  by_cases hlt:k<n.length
  ·obtain ⟨b,o,rfl,_,hc⟩:=hr.at_ hlt
   have hcell:=hc k _ (sc_get n k hlt)
   have hle:=mem_size (List.getElem_mem hlt)
   clear hc h hr hbel
   have hlr:=sizeN_take_le n (k+1)
   rw [sizeN_take n k hlt] at hlr
   have hll:=labS_length (n.take k)
   have hb1:B≤wr.heap.size:=Nat.le_trans hB hgr.1.size
   go_wp2_with (first
    | (at_builtin;refine wpList_app (o:=⟨some 18,_,_,_,_,_⟩) _ rfl _ _ _ _ rfl B 5 i0 (.int .u8 0) 1 Tryz.underlying22 hi hz0 hz1 hz2 rfl (Nat.le_refl _) _ _ (hownr.alloc _) rfl 1 [_] (one_src Tryz.underlying22 _ rfl) (by simp;omega) (by simp;omega) ?_;intro v2 w2 hown2 hgr2 hsz2)
    | (at_builtin;refine wpList_app (o:=⟨some 20,_,_,_,_,_⟩) _ rfl _ _ _ _ rfl B 5 i0 (.int .u8 0) 1 Tryz.underlying22 hi hz0 hz1 hz2 rfl (Nat.le_refl _) _ _ hown2 rfl n[k].length (bc n[k]) (str_src Tryz.underlying9 _) (by simp;omega) hsz2 ?_;intro v3 w3 hown3 hgr3 hsz3))
   go_roundw
   case rel=>
    refine ⟨k+1,by omega,by go_num,?_,hgr.trans (((Gr.refl _ _).alloc _).trans (hgr2.trans hgr3))⟩
    rw [labS_take n k hlt,←List.append_assoc]
    have e1:bc (pre++labS (n.take k)++UInt8.ofNat n[k].length :: n[k])=bc (pre++labS (n.take k))++[.int .u8 ((n[k].length:Int) % 256)]++bc n[k]:=by
     simp [bc]
    rw [e1]
    exact hown3
   case measure=>simp [intOf];omega
  ·have:k=n.length:=by omega
   subst this
   go_wp2
   go_ret
   exact ⟨_,rfl,by simpa using hownr,hgr⟩
def formN (n:List (List UInt8)):List UInt8:=labS n++[0]
theorem formN_length (n:List (List UInt8)):(formN n).length=sizeN n:=by rw [formN,List.length_append,List.length_singleton,labS_length]
theorem size_right {n:List (List UInt8)} (h:rightN n=true):sizeN n≤255:=by
 unfold rightN at h
 simp at h
 exact h.2
set_option maxRecDepth 100000 in
set_option maxHeartbeats 400000 in
theorem form_ok (A:Option Addr) (c:Nat) (n:List (List UInt8)) (w:World) (h:Rd w w.heap.size A n.length (sc n)) (hr:rightN n=true) :
 Calls Tryz.prog 130 #[.slice A n.length c] w fun e w'=>∃ v,e = .returned (.tuple #[v,.int .i64 0])∧Ow w' w.heap.size 5 v (bc (formN n))∧Below w.heap.size w w':=by
 obtain ⟨i0,hi,hz0,hz1,hz2⟩:=info_parts Tryz.infoByte
 have hs:=size_right hr
 have hll:=labS_length n
 go_enter Tryz.func130,Tryz.ntmps130
 go_wp2_with (first
  | (go_at_call 69;refine (right_any A c n _ h (by omega)).mono ?_;rintro e w1 ⟨rfl,hb1⟩;have hsz1:=hb1.size)
  | (go_at_call 165;refine (labels_any (.slice none 0 0) [] A c n w1 w.heap.size hsz1 (h.below hb1) (Ow.nil _ _ _) (by simp;omega)).mono ?_;rintro e w2 ⟨v2,rfl,hown2,hgr2⟩;have hsz2:=Nat.le_trans hsz1 hgr2.1.size)
  | (at_builtin;refine wpList_app _ rfl _ _ _ _ rfl w.heap.size 5 i0 (.int .u8 0) 1 Tryz.underlying22 hi hz0 hz1 hz2 rfl (Nat.le_refl _) _ _ (hown2.alloc _) rfl 1 [_] (one_src Tryz.underlying22 _ rfl) (by simp;omega) (by simp;omega) ?_;intro v3 w3 hown3 hgr3 hsz3))
 go_ret2
 refine ⟨v3,rfl,?_,hb1.trans ((hgr2.trans (((Gr.refl _ _).alloc _).trans hgr3)).below (by simp [Value.ownBlock]) hsz1)⟩
 have e1:bc (formN n)=bc ([]++labS n)++[.int .u8 0]:=by simp [formN,bc]
 rw [e1];exact hown3
end Go.Proofs.YtlipmlbijddopaaGreatDoor
set_option linter.unusedVariables false
namespace Go.Proofs.YtlipmlbijddopaaGreatDoor
open Go.RowKit
def rd (b:List UInt8):Nat→Nat→Nat→Nat→Nat→Nat→List (List UInt8)→List (List UInt8) × Nat × Nat
 | 0,_,_,_,_,_,_=>([],0,999)
 | f+1,bg,en,p,nx,sz,out=>
   if p<en then
    if (b.getD p 0).toNat=0 then (out,(if nx=0 then p+1 else nx),0)
    else if (b.getD p 0).toNat<64 then
     if 255<sz+(1+(b.getD p 0).toNat) then ([],0,3)
     else if en<p+1+(b.getD p 0).toNat then ([],0,161)
     else rd b f bg en (p+(1+(b.getD p 0).toNat)) nx (sz+(1+(b.getD p 0).toNat)) (out++[smallS ((b.drop (p+1)).take (b.getD p 0).toNat)])
    else if (b.getD p 0).toNat<192 then ([],0,162)
    else if p+1=en then ([],0,161)
    else if bg≤((b.getD p 0).toNat - 192)*256+(b.getD (p+1) 0).toNat then ([],0,163)
    else rd b f (((b.getD p 0).toNat - 192)*256+(b.getD (p+1) 0).toNat) bg (((b.getD p 0).toNat - 192)*256+(b.getD (p+1) 0).toNat) (if nx=0 then p+2 else nx) sz out
   else ([],0,161)
def rdM (b:List UInt8) (bg en p:Nat):Nat:=bg*(b.length+2)+(en - p)+1
def readN (b:List UInt8) (p:Nat):List (List UInt8) × Nat × Nat:=if p≤b.length then rd b (rdM b p b.length p) p b.length p 0 1 [] else ([],0,2)
theorem rdM_pos (b:List UInt8) (bg en p:Nat):0<rdM b bg en p:=by unfold rdM;omega
theorem Tryz.infoStr:(Tryz.prog.info? 9).map (fun i=>(i.zero,i.size,i.bytes))=some (some (.string ⟨#[]⟩),1,16):=by kernel_rfl
set_option maxRecDepth 100000 in
set_option maxHeartbeats 400000 in
theorem read_any (A:Option Addr) (c:Nat) (b:List UInt8) (p:Nat) (w:World) (h:Rd w w.heap.size A b.length (bc b)) (hcap:b.length≤c) (hb:b.length≤140737488355328) (hp:p≤b.length) :
 Calls Tryz.prog 148 #[.slice A b.length c,.int .i64 p] w fun e w'=>∃ v,e = .returned (.tuple #[v,.int .i64 (readN b p).2.1,.int .i64 (readN b p).2.2])∧Ow w' w.heap.size 9 v (sc (readN b p).1)∧Below w.heap.size w w':=by
 obtain ⟨i0,hi,hz0,hz1,hz2⟩:=info_parts Tryz.infoStr
 have d1:decide ((p:Int)<0)=false:=by simp
 have d2:decide (b.length<p)=false:=by simp;omega
 go_enter Tryz.func148,Tryz.ntmps148
 go_wp2_with fail
 go_step3
 go_wp2_with fail
 go_step3
 go_wp2_with fail
 go_loopw [1,7,8,9,10,11] (fun vat vout vnx vsz vbg ven wr=>∃ (f bg en p' nx sz:Nat) (out:List (List UInt8)),
  vat = .int .i64 p'∧vnx = .int .i64 nx∧vsz = .int .i64 sz∧vbg = .int .i64 bg∧ven = .int .i64 en∧
  bg≤b.length∧en≤b.length∧p'≤en∧nx≤b.length∧1≤sz∧sz≤255∧out.length<sz∧rdM b bg en p'≤f∧
  Hid (rd b f bg en p' nx sz out=readN b p)∧Ow wr w.heap.size 9 vout (sc out)∧Below w.heap.size w wr)
  (fun _ _ _ _ vbg _ _=>(intOf vbg).toNat)
 case atStart=>exact ⟨rdM b p b.length p,p,b.length,p,0,1,[],rfl,rfl,rfl,rfl,rfl,hp,Nat.le_refl _,hp,by omega,by omega,by omega,by simp,Nat.le_refl _,by unfold readN;rw [if_pos hp];exact rfl,Ow.nil _ _ _,Below.refl _ _⟩
 case round=>
  obtain ⟨f,bg,en,p1,nx,sz,out,rfl,rfl,rfl,rfl,rfl,hbg,hen,hp1,hnx,hsz1,hsz2,hol,hf,HR,hown,hbel⟩:=hrel
  obtain ⟨wo,rfl⟩:∃ wo:World,wo=wr:=⟨_,rfl⟩
  go_wp2_with fail
  go_loopw [1,7,8,9,10,11] (fun vat vout vnx vsz vbg ven wr=>∃ (f p' nx sz:Nat) (out:List (List UInt8)),
   vat = .int .i64 p'∧vnx = .int .i64 nx∧vsz = .int .i64 sz∧vbg = .int .i64 bg∧ven = .int .i64 en∧
   p'≤en∧nx≤b.length∧1≤sz∧sz≤255∧out.length<sz∧rdM b bg en p'≤f∧
   Hid (rd b f bg en p' nx sz out=readN b p)∧Ow wr w.heap.size 9 vout (sc out)∧Below w.heap.size w wr)
   (fun vat _ _ _ _ _ _=>en - (intOf vat).toNat)
  case atStart=>exact ⟨f,p1,nx,sz,out,rfl,rfl,rfl,rfl,rfl,hp1,hnx,hsz1,hsz2,hol,hf,HR,hown,hbel⟩
  case round=>
   clear hp1 hnx hsz1 hsz2 hol hf HR hown hbel
   obtain ⟨f,p1,nx,sz,out,rfl,rfl,rfl,rfl,rfl,hp1,hnx,hsz1,hsz2,hol,hf,HR,hown,hbel⟩:=hrel
   obtain ⟨f',rfl⟩:∃ f',f=f'+1:=⟨f - 1,by have:=rdM_pos b bg en p1;omega⟩
   have hr:=h.below hbel
   by_cases hlt:p1<en
   ·obtain ⟨bl,o,rfl,hbl,hc⟩:=hr.at_ (show p1<b.length by omega)
    have hx0:=hc p1 _ (bc_get b p1 (by omega))
    obtain ⟨x,hx⟩:∃ x:Nat,x=(b.getD p1 0).toNat:=⟨_,rfl⟩
    have hxe:b[p1].toNat=x:=by rw [hx,List.getD_eq_getElem?_getD,List.getElem?_eq_getElem (by omega)];rfl
    rw [hxe] at hx0
    have hx256:x<256:=by rw [←hxe];exact UInt8.toNat_lt _
    have HX:=Lib.hid hx
    clear hx hxe hc h
    have e:=HR.out
    rw [rd,if_pos hlt,show (b.getD p1 0).toNat=x from HX.out.symm] at e
    by_cases x0:x=0
    ·rw [if_pos x0] at e
     subst x0
     by_cases n0:nx=0
     ·rw [if_pos n0] at e
      subst n0
      have E:=Lib.hid e
      clear e
      go_wp2
      rw [Exit.noGoto_ret]
      go_ret3
      exact ⟨_,by rw [←E.out];exact ret_t3 (by simp) rfl,by rw [←E.out];exact hown,hbel⟩
     ·rw [if_neg n0] at e
      have E:=Lib.hid e
      clear e
      have n0':((nx:Int) == 0)=false:=by simp [n0]
      go_wp2
      rw [Exit.noGoto_ret]
      go_ret3
      exact ⟨_,by rw [←E.out];exact ret_t3 rfl rfl,by rw [←E.out];exact hown,hbel⟩
    ·rw [if_neg x0] at e
     have x0':((x:Int) == 0)=false:=by simp [x0]
     by_cases x64:x<64
     ·rw [if_pos x64] at e
      by_cases hbig:255<sz+(1+x)
      ·rw [if_pos hbig] at e
       have E:=Lib.hid e
       clear e
       go_wp2
       rw [Exit.noGoto_ret]
       go_ret3
       exact ⟨_,by rw [←E.out];exact ret_t3 rfl rfl,by rw [←E.out];exact Ow.nil _ _ _,hbel⟩
      ·rw [if_neg hbig] at e
       by_cases hen2:en<p1+1+x
       ·rw [if_pos hen2] at e
        have E:=Lib.hid e
        clear e
        go_wp2
        rw [Exit.noGoto_ret]
        go_ret3
        exact ⟨_,by rw [←E.out];exact ret_t3 rfl rfl,by rw [←E.out];exact Ow.nil _ _ _,hbel⟩
       ·rw [if_neg hen2] at e
        have E:=Lib.hid e
        clear e
        have hrc:=(hr.cut (k:=p1+1) (m:=p1+1+x) (by omega) (by omega) hcap)
        have hl0:((b.drop (p1+1)).take x).length=x:=by rw [List.length_take,List.length_drop];omega
        have hsl:∀ W,(Instr.slice 22 (.slice (some ⟨bl,o,none⟩) b.length c) (some (.int .i64 ((p1:Int)+1))) (some (.int .i64 ((p1:Int)+1+x))) none).run Tryz.prog W = .ok (.slice (some ⟨bl,o+(p1+1),none⟩) x (c - (p1+1))) W:=by
         intro W
         have h1:=Lib.run_slice_window (P:=Tryz.prog) W 22 5 Tryz.underlying22 (fun w=>by kernel_rfl) bl o b.length c (p1+1) (p1+1+x) (by omega) (by omega)
         rw [show p1+1+x - (p1+1)=x by omega] at h1
         simpa using h1
        have hcv:(convert 22 9 (.slice (some ⟨bl,o+(p1+1),none⟩) x (c - (p1+1)))).run Tryz.prog wr = .ok (.string ⟨((b.drop (p1+1)).take x).toArray⟩) wr:=by
         rw [cutA_some bl o c (p1+1) (by omega),show p1+1+x - (p1+1)=x by omega] at hrc
         have hbc:((bc b).drop (p1+1)).take x=bc ((b.drop (p1+1)).take x):=by simp [bc]
         rw [hbc] at hrc
         have h1:=conv_bs (P:=Tryz.prog) wr 22 5 9 (some ⟨bl,o+(p1+1),none⟩) (c - (p1+1)) w.heap.size ((b.drop (p1+1)).take x) Tryz.underlying22 Tryz.underlying5 Tryz.underlying9 (by rw [hl0];exact hrc)
         rw [hl0] at h1
         exact h1
        clear hrc hr
        generalize hlab:(b.drop (p1+1)).take x=lab at hcv E hl0
        have HL:=Lib.hid hl0
        clear hl0 hlab
        have hbs:=hbel.size
        go_wp2_with (first
         | (go_at_call 108;refine (small_any lab wr (by rw [HL.out];omega)).mono ?_;rintro e w2 ⟨rfl,hb2⟩;have hbs2:=hb2.size)
         | (at_builtin;refine wpList_app _ rfl _ _ _ _ rfl w.heap.size 9 i0 (.string ⟨#[]⟩) 16 Tryz.underlying38 hi hz0 hz1 hz2 rfl (by omega) _ _ ((hown.far hb2).alloc _) rfl 1 [_] (one_src Tryz.underlying38 _ rfl) (by simp;omega) (by simp;omega) ?_;intro v3 w3 hown3 hgr3 hsz3))
        go_roundw
        case rel=>
         refine ⟨f',p1+(1+x),nx,sz+(1+x),out++[smallS lab],by go_num,rfl,by go_num,rfl,rfl,by omega,hnx,by omega,by omega,by simp;omega,?_,E.out,?_,?_⟩
         ·unfold rdM at hf ⊢;omega
         ·have e1:sc (out++[smallS lab])=sc out++[.string ⟨(smallS lab).toArray⟩]:=by simp [sc,strV]
          rw [e1];exact hown3
         ·exact (hbel.trans (hb2.mono hbs)).trans ((((Gr.refl w2 _).alloc _).trans hgr3).below hown.lt (by omega))
        case measure=>simp [intOf];omega
     ·rw [if_neg x64] at e
      by_cases x192:x<192
      ·rw [if_pos x192] at e
       have E:=Lib.hid e
       clear e
       go_wp2
       rw [Exit.noGoto_ret]
       go_ret3
       exact ⟨_,by rw [←E.out];exact ret_t3 rfl rfl,by rw [←E.out];exact Ow.nil _ _ _,hbel⟩
      ·rw [if_neg x192] at e
       by_cases hpe:p1+1=en
       ·rw [if_pos hpe] at e
        have E:=Lib.hid e
        clear e
        subst hpe
        go_wp2
        rw [Exit.noGoto_ret]
        go_ret3
        exact ⟨_,by rw [←E.out];exact ret_t3 rfl rfl,by rw [←E.out];exact Ow.nil _ _ _,hbel⟩
       ·rw [if_neg hpe] at e
        have hpe':((p1:Int)+1 == (en:Int))=false:=by simp;omega
        obtain ⟨bl',o',heq,_,hc⟩:=hr.at_ (show p1<b.length by omega)
        cases heq
        have hy0:=hc (p1+1) _ (bc_get b (p1+1) (by omega))
        obtain ⟨y,hy⟩:∃ y:Nat,y=(b.getD (p1+1) 0).toNat:=⟨_,rfl⟩
        have hye:b[p1+1].toNat=y:=by rw [hy,List.getD_eq_getElem?_getD,List.getElem?_eq_getElem (by omega)];rfl
        rw [hye] at hy0
        have hy256:y<256:=by rw [←hye];exact UInt8.toNat_lt _
        rw [show (b.getD (p1+1) 0).toNat=y from hy.symm] at e
        have hor:=or_ptr x y (by omega) hx256 hy256
        obtain ⟨q,hq⟩:∃ q:Nat,q=(x - 192)*256+y:=⟨_,rfl⟩
        rw [←hq] at hor e
        have hqb:q<16384:=by omega
        clear hy hye hc hr hq
        by_cases hbq:bg≤q
        ·rw [if_pos hbq] at e
         have E:=Lib.hid e
         clear e
         go_wp2
         rw [Exit.noGoto_ret]
         go_ret3
         exact ⟨_,by rw [←E.out];exact ret_t3 rfl rfl,by rw [←E.out];exact Ow.nil _ _ _,hbel⟩
        ·rw [if_neg hbq] at e
         have hM:rdM b q bg q≤f':=by
          unfold rdM at hf ⊢
          have h1:(q+1)*(b.length+2)≤bg*(b.length+2):=Nat.mul_le_mul_right _ (by omega)
          rw [Nat.add_mul] at h1
          omega
         by_cases n0:nx=0
         ·rw [if_pos n0] at e
          have E:=Lib.hid e
          clear e
          subst n0
          go_wp2
          go_roundw
          case rel=>exact ⟨f',q,bg,q,p1+2,sz,out,rfl,by go_num,rfl,rfl,rfl,by omega,by omega,by omega,by omega,by omega,by omega,by omega,hM,E.out,hown,hbel⟩
          case measure=>simp [intOf];omega
         ·rw [if_neg n0] at e
          have n0':((nx:Int) == 0)=false:=by simp [n0]
          have E:=Lib.hid e
          clear e
          go_wp2
          go_roundw
          case rel=>exact ⟨f',q,bg,q,nx,sz,out,rfl,rfl,rfl,rfl,rfl,by omega,by omega,by omega,hnx,by omega,by omega,by omega,hM,E.out,hown,hbel⟩
          case measure=>simp [intOf];omega
   ·have e:=HR.out
    rw [rd,if_neg hlt] at e
    have E:=Lib.hid e
    clear e
    go_wp2
    rw [Exit.noGoto_ret]
    go_ret3
    exact ⟨_,by rw [←E.out];exact ret_t3 rfl rfl,by rw [←E.out];exact Ow.nil _ _ _,hbel⟩
end Go.Proofs.YtlipmlbijddopaaGreatDoor
set_option linter.unusedVariables false
set_option linter.unusedSimpArgs false
namespace Go.Proofs.YtlipmlbijddopaaGreatDoor
open Go.RowKit
structure Qn where
 nm:List (List UInt8)
 ty:Nat
 cl:Nat
structure Rc where
 q:Qn
 ttl:Nat
 d:List UInt8
 pr:Nat
 we:Nat
 po:Nat
 tg:List (List UInt8)
structure Ms where
 id:Nat
 fl:Nat
 qs:List Qn
 r0:List Rc
 r1:List Rc
 r2:List Rc
def zQ:Qn:=⟨[],0,0⟩
def zR:Rc:=⟨zQ,0,[],0,0,0,[]⟩
def zM:Ms:=⟨0,0,[],[],[],[]⟩
def Ms.all (m:Ms):List Rc:=m.r0++(m.r1++m.r2)
def Ms.num (m:Ms):Nat:=m.qs.length+m.r0.length+m.r1.length+m.r2.length
def two (n:Nat):List UInt8:=[UInt8.ofNat (n / 256),UInt8.ofNat n]
@[simp] theorem two_length (n:Nat):(two n).length=2:=rfl
def twos (l:List Nat):List UInt8:=l.flatMap two
theorem twos_length (l:List Nat):(twos l).length=2*l.length:=by
 induction l with
 | nil=>rfl
 | cons a l ih=>rw [twos,List.flatMap_cons,List.length_append,two_length,List.length_cons,←twos,ih];omega
theorem twos_snoc (l:List Nat) (a:Nat):twos (l++[a])=twos l++two a:=by simp [twos]
def rightR (r:Rc):Bool:=
 if rightN r.q.nm=true then
  if r.q.ty=33 then (if r.d.length=0 then rightN r.tg else false)
  else decide (r.d.length≤4096∧r.pr=0∧r.we=0∧r.po=0∧r.tg.length=0)
 else false
def rightM (m:Ms):Bool:=m.qs.all (fun q=>rightN q.nm) && (m.r0.all rightR && (m.r1.all rightR && m.r2.all rightR))
structure St where
 at_:Nat
 e:Nat
def rName (b:List UInt8) (s:St):List (List UInt8) × St:=if s.e=0 then ((readN b s.at_).1,⟨(readN b s.at_).2.1,(readN b s.at_).2.2⟩) else ([],s)
def rTake (b:List UInt8) (n:Nat) (s:St):List UInt8 × St:=
 if s.e=0 then (if s.at_+n≤b.length then ((b.drop s.at_).take n,⟨s.at_+n,0⟩) else (List.replicate n 0,⟨s.at_,171⟩))
 else (List.replicate n 0,s)
def num2 (l:List UInt8):Nat:=256*(l.getD 0 0).toNat+(l.getD 1 0).toNat
def rNum (b:List UInt8) (s:St):Nat × St:=(num2 (rTake b 2 s).1,(rTake b 2 s).2)
def rQ (b:List UInt8) (s:St):Qn × St:=
 let n:=rName b s
 let t:=rNum b n.2
 let c:=rNum b t.2
 (⟨n.1,t.1,c.1⟩,c.2)
def rR (b:List UInt8) (s:St):Rc × St:=
 let q:=rQ b s
 let h:=rNum b q.2
 let l:=rNum b h.2
 let z:=rNum b l.2
 let d:=rTake b z.1 z.2
 if d.2.e≠0 then (zR,d.2)
 else if q.1.ty≠33 then (⟨q.1,65536*h.1+l.1,d.1,0,0,0,[]⟩,d.2)
 else if d.1.length<7 then (zR,⟨d.2.at_,172⟩)
 else
  let o:=b.take d.2.at_
  let p:=rNum o ⟨d.2.at_ - d.1.length,0⟩
  let w:=rNum o p.2
  let k:=rNum o w.2
  let t:=rName o k.2
  (⟨q.1,65536*h.1+l.1,[],p.1,w.1,k.1,t.1⟩,if t.2.e≠0∨t.2.at_≠d.2.at_ then ⟨d.2.at_,172⟩ else d.2)
def rQs (b:List UInt8) (s:St):Nat→List Qn × St
 | 0=>([],s)
 | k+1=>((rQs b s k).1++[(rQ b (rQs b s k).2).1],(rQ b (rQs b s k).2).2)
def rRs (b:List UInt8) (s:St):Nat→List Rc × St
 | 0=>([],s)
 | k+1=>((rRs b s k).1++[(rR b (rRs b s k).2).1],(rR b (rRs b s k).2).2)
def hd (b:List UInt8) (i:Nat):Nat:=num2 (b.drop (2*i))
def readM (b:List UInt8):Ms × Nat:=
 if 4096<b.length then (zM,3)
 else if b.length<12 then (zM,171)
 else if 256<hd b 2+hd b 3+hd b 4+hd b 5 then (zM,5)
 else
  let q:=rQs b ⟨12,0⟩ (hd b 2)
  let x:=rRs b q.2 (hd b 3)
  let y:=rRs b x.2 (hd b 4)
  let z:=rRs b y.2 (hd b 5)
  let e:=if z.2.e=0 then (if z.2.at_<b.length then 173 else 0) else z.2.e
  if e=0 then (⟨hd b 0,hd b 1,q.1,x.1,y.1,z.1⟩,0) else (zM,e)
def sameQ (p q:Qn):Bool:=decide (p.ty=q.ty) && (decide (p.cl=q.cl) && decide (p.nm=q.nm))
def sameR (x y:Rc):Bool:=sameQ x.q y.q && (decide (x.ttl=y.ttl) && (decide (x.d=y.d) && (decide (x.pr=y.pr) && (decide (x.we=y.we) && (decide (x.po=y.po) && decide (x.tg=y.tg))))))
def allEq {α:Type} (f:α→α→Bool):List α→List α→Bool
 | [],[]=>true
 | a :: l,b :: k=>f a b && allEq f l k
 | _,_=>false
def sameM (m k:Ms):Bool:=decide (m.id=k.id) && (decide (m.fl=k.fl) && (allEq sameQ m.qs k.qs && (allEq sameR m.r0 k.r0 && (allEq sameR m.r1 k.r1 && allEq sameR m.r2 k.r2))))
def answersM (m:Ms) (n:List (List UInt8)) (ty:Nat):List Rc:=m.r0.filter fun r=>decide (r.q.ty=ty) && (decide (r.q.cl=1) && decide (r.q.nm=n))
theorem sameQ_iff (p q:Qn):sameQ p q=true ↔ p=q:=by
 cases p;cases q
 simp [sameQ,and_comm,and_assoc,and_left_comm]
theorem sameR_iff (p q:Rc):sameR p q=true ↔ p=q:=by
 cases p;cases q
 simp [sameR,sameQ_iff]
theorem allEq_iff {α:Type} (f:α→α→Bool) (hf:∀ a b,f a b=true ↔ a=b):∀ l k:List α,allEq f l k=true ↔ l=k
 | [],[]=>by simp [allEq]
 | [],_ :: _=>by simp [allEq]
 | _ :: _,[]=>by simp [allEq]
 | a :: l,b :: k=>by simp [allEq,hf,allEq_iff f hf l k]
theorem sameM_iff (m k:Ms):sameM m k=true ↔ m=k:=by
 cases m;cases k
 simp [sameM,allEq_iff _ sameQ_iff,allEq_iff _ sameR_iff]
theorem allEq_len {α:Type} (f:α→α→Bool):∀ l k:List α,l.length≠k.length→allEq f l k=false
 | [],[],h=>absurd rfl h
 | [],_ :: _,_=>rfl
 | _ :: _,[],_=>rfl
 | a :: l,b :: k,h=>by
   rw [allEq,allEq_len f l k (by simpa using h),Bool.and_false]
end Go.Proofs.YtlipmlbijddopaaGreatDoor
set_option linter.unusedVariables false
set_option linter.unusedSimpArgs false
namespace Go.Proofs.YtlipmlbijddopaaGreatDoor
open Go.RowKit
theorem ow_block_lt {w:World} {base:Nat} {e:TypeId} {v:Value} {xs:List Value} (h:Ow w base e v xs):∀ q,v.ownBlock=some q→q<w.heap.size:=fun q hq=>(World.ownsRow.lt h q hq).2
abbrev OwnL:=List (TypeId × Value × List Value)
def Apart (x y:TypeId × Value × List Value):Prop:=∀ q,x.2.1.ownBlock=some q→y.2.1.ownBlock≠some q
def Owns (w:World) (base:Nat) (l:OwnL):Prop:=(∀ x∈l,Ow w base x.1 x.2.1 x.2.2)∧l.Pairwise Apart
theorem Apart.symm {x y:TypeId × Value × List Value} (h:Apart x y):Apart y x:=fun q h1 h2=>h q h2 h1
theorem Owns.get {w:World} {base:Nat} {l:OwnL} (h:Owns w base l) {e:TypeId} {v:Value} {xs:List Value} (hx:(e,v,xs)∈l):Ow w base e v xs:=h.1 _ hx
theorem Owns.far {w w':World} {base:Nat} {l:OwnL} (h:Owns w base l) (hb:Below w.heap.size w w'):Owns w' base l:=⟨fun x hx=>(h.1 x hx).far hb,h.2⟩
theorem Owns.alloc {w:World} {base:Nat} {l:OwnL} (h:Owns w base l) (o:Obj):Owns (w.alloc o) base l:=⟨fun x hx=>(h.1 x hx).alloc o,h.2⟩
theorem Owns.perm {w:World} {base:Nat} {l l':OwnL} (h:Owns w base l) (hp:l.Perm l'):Owns w base l':=
 ⟨fun x hx=>h.1 x (hp.mem_iff.2 hx),(hp.pairwise_iff (fun {_ _} h=>Apart.symm h)).1 h.2⟩
theorem Owns.cons {w w':World} {base:Nat} {l:OwnL} (h:Owns w base l) {e:TypeId} {v:Value} {xs:List Value} (hb:Below w.heap.size w w') (ho:Ow w' w.heap.size e v xs) (hB:base≤w.heap.size):Owns w' base ((e,v,xs) :: l):=by
 refine ⟨fun x hx=>?_,List.pairwise_cons.2 ⟨fun y hy q h1 h2=>?_,h.2⟩⟩
 ·rcases List.mem_cons.1 hx with rfl | hx
  ·exact ho.mono hB
  ·exact (h.1 x hx).far hb
 ·have h3:=ho.lt q h1
  have h4:=ow_block_lt (h.1 y hy) q h2
  omega
theorem Owns.app {w w':World} {base:Nat} {l:OwnL} {e:TypeId} {v v':Value} {xs xs':List Value} (h:Owns w base ((e,v,xs) :: l)) (hg:Gr w w' v v') (ho:Ow w' base e v' xs'):Owns w' base ((e,v',xs') :: l):=by
 have hp:=List.pairwise_cons.1 h.2
 refine ⟨fun x hx=>?_,List.pairwise_cons.2 ⟨fun y hy q h1 h2=>?_,hp.2⟩⟩
 ·rcases List.mem_cons.1 hx with rfl | hx
  ·exact ho
  ·exact (h.1 x (List.mem_cons_of_mem _ hx)).kept hg (fun q h1 h2=>hp.1 x hx q h2 h1)
 ·rcases hg.2 q h1 with h3 | h3
  ·exact hp.1 y hy q h3 h2
  ·have h4:=ow_block_lt (h.1 y (List.mem_cons_of_mem _ hy)) q h2
   omega
end Go.Proofs.YtlipmlbijddopaaGreatDoor
set_option linter.unusedVariables false
set_option linter.unusedSimpArgs false
namespace Go.Proofs.YtlipmlbijddopaaGreatDoor
open Go.RowKit
def OwM (w:World) (base:Nat) (e:TypeId) (s:Nat) (v:Value) (n:Nat) (xs:List Value):Prop:=w.ownsRow base e s v n xs
section
variable {w w':World} {base base' s n:Nat} {e:TypeId} {v:Value} {xs:List Value}
theorem OwM.nil (w:World) (base:Nat) (e:TypeId) (s:Nat):OwM w base e s (.slice none 0 0) 0 []:=World.ownsRow_nil _ _ _ _
theorem OwM.lt (h:OwM w base e s v n xs):∀ g,v.ownBlock=some g→base≤g:=fun g hg=>(World.ownsRow.lt h g hg).1
theorem OwM.block_lt (h:OwM w base e s v n xs):∀ g,v.ownBlock=some g→g<w.heap.size:=fun g hg=>(World.ownsRow.lt h g hg).2
theorem OwM.alloc (h:OwM w base e s v n xs) (o:Obj):OwM (w.alloc o) base e s v n xs:=World.ownsRow.alloc h o
theorem OwM.drew (h:OwM w base e s v n xs):OwM w.drew base e s v n xs:=h
theorem OwM.drewN (h:OwM w base e s v n xs) (q:Nat):OwM (w.drewN q) base e s v n xs:=h
theorem OwM.len (h:OwM w base e s v n xs):xs.length=n*s:=h.1
theorem OwM.far (h:OwM w base e s v n xs) (hb:Below w.heap.size w w'):OwM w' base e s v n xs:=
 World.ownsRow.kept (row:=none) h ⟨hb.os,hb.tape,hb.output,hb.size,fun i hi _=>hb.block i hi⟩ (by cases h:v.ownBlock <;> simp)
theorem OwM.kept {v1 v1':Value} (h:OwM w base e s v n xs) (hg:Gr w w' v1 v1') (hne:∀ g,v.ownBlock=some g→v1.ownBlock≠some g):OwM w' base e s v n xs:=
 World.ownsRow.kept h hg.1 (by
  cases hv:v.ownBlock with
  | none=>exact .inl rfl
  | some g=>exact .inr (fun e=>hne g hv e.symm))
theorem OwM.mono (h:OwM w base e s v n xs) (hb:base'≤base):OwM w base' e s v n xs:=by
 refine ⟨h.1,?_⟩
 rcases h.2 with h2 | ⟨g,cap,cur,h1,h2,h3⟩
 ·exact .inl h2
 ·exact .inr ⟨g,cap,cur,h1,by omega,h3⟩
theorem OwM.rd {A:Option Addr} {c:Nat} (h:OwM w base e s (.slice A n c) n xs):Rd w w.heap.size A (n*s) xs:=by
 refine ⟨h.1,fun hn=>?_⟩
 have hn0:0<n:=Nat.pos_of_ne_zero (fun e=>by subst e;simp at hn)
 obtain ⟨g,cap,hv,_,hlt⟩:=World.ownsRow.form h hn0
 have hA:A=some ⟨g,0,none⟩:=by injection hv
 subst hA
 refine ⟨g,0,rfl,hlt,fun j u hu=>?_⟩
 have:=World.ownsRow.cells h (g:=g) rfl j u hu
 by_cases hj:j=0
 ·subst hj;simpa [Addr.add] using this
 ·simpa [Addr.add,hj] using this
theorem OwM.form (h:OwM w base e s v n xs):∃ A c,v = .slice A n c∧n≤c∧c≤maxLen∧Rd w w.heap.size A (n*s) xs:=by
 have h0:=h
 rcases h.2 with ⟨rfl,hx⟩ | ⟨g,cap,cur,rfl,_,_,h1,h2,_⟩
 ·subst hx
  have:xs=[]:=List.eq_nil_of_length_eq_zero (by rw [h.1];simp)
  subst this
  exact ⟨none,0,rfl,Nat.le_refl _,by simp [maxLen],by rw [Nat.zero_mul];exact Rd.nil _ _ _⟩
 ·exact ⟨_,cap,rfl,h1,h2,OwM.rd h0⟩
theorem OwM.lit (w:World) (e:TypeId) (s:Nat) (cs:List Value) (n:Nat) (hs:cs.length=n*s) (hm:n≤maxLen):OwM (w.alloc (.cells cs.toArray e)) w.heap.size e s (.slice (some ⟨w.heap.size,0,none⟩) n n) n cs:=by
 have:=World.ownsRow_lit (base:=w.heap.size) (e:=e) (size:=s) w cs.toArray n (Nat.le_refl _) hm (by simpa using hs)
 simpa [OwM] using this
theorem OwM.set_ {g c:Nat} (h:OwM w base e s (.slice (some ⟨g,0,none⟩) n c) n xs) (k:Nat) (u:Value):OwM (w.setCell ⟨g,k,none⟩ u) base e s (.slice (some ⟨g,0,none⟩) n c) n (xs.set k u):=(World.ownsRow.stored h k u).1
theorem Rd.srcM {P:Program} {w:World} {B n c s:Nat} {A:Option Addr} {xs:List Value} {tx e':TypeId} (h:Rd w B A (n*s) xs) (hk:P.underlying tx=some (.slice e')) (h1:∀ u∈xs,u.oneCell'=true):Src P s tx (.slice A n c) n xs w:=by
 rcases Nat.eq_zero_or_pos (n*s) with h0 | h0
 ·rw [h0] at h
  have hx:xs=[]:=List.eq_nil_of_length_eq_zero h.1
  subst hx
  rcases A with _ | a
  ·rcases Nat.eq_zero_or_pos n with hn | hn
   ·subst hn;exact Src.ofNil w hk c
   ·have hs:s=0:=by
     rcases Nat.mul_eq_zero.1 h0 with h2 | h2
     ·omega
     ·exact h2
    subst hs
    exact ⟨.inl ⟨e',hk⟩,fun _=>by simp [Builtin.lenOf],by simp [Builtin.firstCells],by simp [Builtin.firstCells],by simp,h1⟩
  ·exact Src.ofSlice w hk a n c [] (by rw [h0];rfl) (fun j u hj=>by simp at hj) h1
 ·obtain ⟨b,o,rfl,_,hc⟩:=h.2 h0
  refine Src.ofSlice w hk _ n c xs h.1 (fun j u hj=>?_) h1
  have:=hc j u hj
  by_cases hj0:j=0
  ·subst hj0;simpa [Addr.add] using this
  ·simpa [Addr.add,hj0] using this
end
section
variable {P:Program} (w:World)
theorem run_room_rowM (s:Nat) (t tx ty e:TypeId) (i:TypeInfo) (ht:P.underlying t=some (.slice e)) (hi:P.info? e=some i) (hsize:i.size=s)
 (g sLen sCap:Nat) (cur:Array Value) (hg:w.heap[g]? = some (.cells cur e (0,0))) (x:Value) (n:Nat) (news:List Value) (hs:Src P s tx x n news w)
 (hroom:sLen+n≤sCap) (hfit:sLen*s+news.length≤cur.size) :
 (Builtin.append_ #[t,tx] ty #[.slice (some ⟨g,0,none⟩) sLen sCap,x]).run P w =
  .ok (.slice (some ⟨g,0,none⟩) (sLen+n) sCap) (w.setRow g (cur.toList.take (sLen*s)++news++cur.toList.drop (sLen*s+news.length)).toArray):=by
 have hst:=run_storeCells_at P g (sLen*s) e news 0 cur w hg (by simpa using hfit) hs.one
 simp only [Nat.add_zero] at hst
 rcases hs.kind with ⟨e',hk⟩ | hk <;> simp [Builtin.append_,run_underlying ht,run_underlying hk,sizeOf,typeInfo,hi,hsize,hs.len,hroom,hs.cells,Addr.add_lit,hst]
theorem run_appM (base s:Nat) (t tx ty e:TypeId) (i:TypeInfo) (z:Value) (bytes:Nat) (ht:P.underlying t=some (.slice e)) (hi:P.info? e=some i) (hz:i.zero=some z)
 (hsize:i.size=s) (hby:i.bytes=bytes) (hzs:z.cells.size=s) (hb1:1≤bytes)
 (v:Value) (n0:Nat) (xs:List Value) (hown:OwM w base e s v n0 xs) (x:Value) (n:Nat) (news:List Value) (hs:Src P s tx x n news w)
 (hbytes:(n0+n)*bytes≤140737488355328) (hbase:base≤w.heap.size) :
 ∃ v' w',(Builtin.append_ #[t,tx] ty #[v,x]).run P w = .ok v' w'∧OwM w' base e s v' (n0+n) (xs++news)∧Gr w w' v v':=by
 subst hby
 have hnl:news.length=n*s:=hs.newsLen
 have hle:n0+n≤140737488355328:=Nat.le_trans (Nat.le_mul_of_pos_right _ hb1) hbytes
 have hfits:∀ c,c<n0+n→Builtin.nextslicecap (n0+n) c*i.bytes≤281474976710656:=fun c hc=>growslice_fits hc hbytes
 have hs':Src P i.size tx x n news w:=by rw [hsize];exact hs
 have hxl:xs.length=n0*s:=hown.1
 have hall:(xs++news).length=(n0+n)*s:=by rw [List.length_append,hxl,hnl,Nat.add_mul]
 have grown:∀ (old:Nat),old<n0+n→
  OwM (w.drew.alloc (.cells ((xs++news).toArray++Builtin.zeroCells z.cells (grownCap w (n0+n) old e - (n0+n))) e)) base e s
   (.slice (some ⟨w.heap.size,0,none⟩) (n0+n) (grownCap w (n0+n) old e)) (n0+n) (xs++news)∧
  Gr w (w.drew.alloc (.cells ((xs++news).toArray++Builtin.zeroCells z.cells (grownCap w (n0+n) old e - (n0+n))) e)) v (.slice (some ⟨w.heap.size,0,none⟩) (n0+n) (grownCap w (n0+n) old e)):=by
  intro old ho
  have hge:=grownCap_ge w (n0+n) old e
  have hcm:grownCap w (n0+n) old e≤maxLen:=grownCap_le_maxLen w (n0+n) old e (by unfold maxLen;omega)
  refine ⟨⟨hall,.inr ⟨w.heap.size,_,_,rfl,hbase,heap_alloc_new w.drew _,hge,hcm,?_,?_⟩⟩,⟨⟨rfl,rfl,rfl,by simp,fun k hk _=>Below.heap_alloc w.drew _ k hk⟩,fun g hg=>?_⟩⟩
  ·rw [Array.size_append,List.size_toArray,size_zeroCells,hzs,hall,←Nat.add_mul]
   congr 1
   omega
  ·rw [Array.toList_append]
   exact List.take_left' hall
  ·simp [Value.ownBlock] at hg;omega
 rcases hown.2 with ⟨rfl,hx0⟩ | ⟨g,cap,cur,rfl,hbg,hg,hnc,hcm,hcs,htake⟩
 ·subst hx0
  have hx:xs=[]:=List.eq_nil_of_length_eq_zero (by rw [hxl];simp)
  subst hx
  by_cases hm:n=0
  ·subst hm
   have hn:news=[]:=List.eq_nil_of_length_eq_zero (by rw [hnl];simp)
   subst hn
   refine ⟨.slice none 0 0,w,?_,OwM.nil w base e s,Gr.refl _ _⟩
   rcases hs.kind with ⟨e',hk⟩ | hk <;> simp [Builtin.append_,run_underlying ht,run_underlying hk,sizeOf,typeInfo,hi,hsize,hs.len,hs.cells]
  ·have hr:=run_append_grow_src (P:=P) w t tx ty e i z ht hi hz none 0 0 [] (run_firstCells_none w.drew _ _ _ _) x n news hs' (by omega) (by simp at hle;omega) (by have:=hfits 0 (by omega);simpa using this)
   have hgr:=grown 0 (by omega)
   simp only [Nat.zero_add,List.nil_append] at hgr hr ⊢
   exact ⟨_,_,hr,hgr.1,hgr.2⟩
 ·by_cases hroom:n0+n≤cap
  ·have hfit:n0*s+news.length≤cur.size:=by rw [hcs,hnl,←Nat.add_mul];exact Nat.mul_le_mul_right _ hroom
   have hr:=run_room_rowM (P:=P) w s t tx ty e i ht hi hsize g n0 cap cur hg x n news hs hroom hfit
   refine ⟨_,_,hr,⟨hall,.inr ⟨g,cap,_,rfl,hbg,setRow_heap w g cur _ e _ hg,hroom,hcm,?_,?_⟩⟩,⟨⟨rfl,rfl,rfl,by simp,fun k _ hk=>setRow_other w g k _ (fun e=>hk (by simp [Value.ownBlock,e]))⟩,fun k hk=>.inl hk⟩⟩
   ·simp only [List.size_toArray,List.length_append,List.length_take,List.length_drop,Array.length_toList]
    omega
   ·rw [htake]
    exact List.take_left' hall
  ·have holds:∀ j u,xs[j]? = some u→w.cell? ((⟨g,0,none⟩:Addr).add j)=some u:=World.ownsRow.cells hown (g:=g) rfl
   have hr:=run_append_grow_src (P:=P) w t tx ty e i z ht hi hz (some ⟨g,0,none⟩) n0 cap xs (run_firstCells_some w.drew _ _ _ _ _ _ (by rw [hsize,hxl]) (by simpa using holds)) x n news hs' (by omega) (by omega) (hfits cap (by omega))
   have hgr:=grown cap (by omega)
   exact ⟨_,_,hr,hgr.1,hgr.2⟩
theorem wpList_appM {ops:Array Oper} {rest:List Oper} {o:Oper} {a:Act} {Q:Exit→Act→World→Prop} (hgd:o.guard=none) (sl x:Operand) (t tx:TypeId)
 (ho:o.op = .call { callee:=.builtin .append,args:=#[sl,x],argTypes:=#[t,tx] })
 (base s:Nat) (e:TypeId) (i:TypeInfo) (z:Value) (bytes:Nat) (ht:P.underlying t=some (.slice e)) (hi:P.info? e=some i) (hz:i.zero=some z)
 (hsize:i.size=s) (hby:i.bytes=bytes) (hzs:z.cells.size=s) (hb1:1≤bytes)
 (v:Value) (n0:Nat) (xs:List Value) (hown:OwM w base e s v n0 xs) (hv:a.eval sl=v) (n:Nat) (news:List Value) (hs:Src P s tx (a.eval x) n news w)
 (hbytes:(n0+n)*bytes≤140737488355328) (hbase:base≤w.heap.size)
 (h:∀ v' w',OwM w' base e s v' (n0+n) (xs++news)→Gr w w' v v'→base≤w'.heap.size→wpList P ops Q rest (a.put o.dst v') w'):wpList P ops Q (o :: rest) a w:=by
 refine wpList_plain hgd fun K hK=>?_
 obtain ⟨v',w',hr,h2,h3⟩:=run_appM (P:=P) w base s t tx o.type e i z bytes ht hi hz hsize hby hzs hb1 v n0 xs hown _ n news hs hbytes hbase
 unfold Oper.wp execOp
 simp only [ho,resolve,invoke,builtin,Sem.run_bind,Sem.run_pure,Result.andThen_ok,List.map_toArray,List.map_cons,List.map_nil,hv,hr]
 exact hK _ _ (h v' w' h2 h3 (Nat.le_trans hbase h3.1.size))
end
end Go.Proofs.YtlipmlbijddopaaGreatDoor
set_option linter.unusedVariables false
set_option linter.unusedSimpArgs false
namespace Go.Proofs.YtlipmlbijddopaaGreatDoor
open Go.RowKit
structure QR where
 A:Option Addr
 c:Nat
 q:Qn
structure RR where
 A:Option Addr
 c:Nat
 dA:Option Addr
 dc:Nat
 tA:Option Addr
 tc:Nat
 r:Rc
def RR.qr (x:RR):QR:=⟨x.A,x.c,x.r.q⟩
def QR.cells (x:QR):List Value:=[.slice x.A x.q.nm.length x.c,.int .u16 (x.q.ty:Int),.int .u16 (x.q.cl:Int)]
def RR.cells (x:RR):List Value:=[.slice x.A x.r.q.nm.length x.c,.int .u16 (x.r.q.ty:Int),.int .u16 (x.r.q.cl:Int),.int .u32 (x.r.ttl:Int),.slice x.dA x.r.d.length x.dc,.int .u16 (x.r.pr:Int),.int .u16 (x.r.we:Int),.int .u16 (x.r.po:Int),.slice x.tA x.r.tg.length x.tc]
def qcs (l:List QR):List Value:=l.flatMap QR.cells
def rcs (l:List RR):List Value:=l.flatMap RR.cells
@[simp] theorem QR.cells_length (x:QR):x.cells.length=3:=rfl
@[simp] theorem RR.cells_length (x:RR):x.cells.length=9:=rfl
theorem qcs_length (l:List QR):(qcs l).length=l.length*3:=by
 induction l with
 | nil=>rfl
 | cons a l ih=>rw [qcs,List.flatMap_cons,List.length_append,QR.cells_length,List.length_cons,←qcs,ih];omega
theorem rcs_length (l:List RR):(rcs l).length=l.length*9:=by
 induction l with
 | nil=>rfl
 | cons a l ih=>rw [rcs,List.flatMap_cons,List.length_append,RR.cells_length,List.length_cons,←rcs,ih];omega
theorem qcs_snoc (l:List QR) (x:QR):qcs (l++[x])=qcs l++x.cells:=by simp [qcs]
theorem rcs_snoc (l:List RR) (x:RR):rcs (l++[x])=rcs l++x.cells:=by simp [rcs]
theorem flat_get {α:Type} (f:α→List Value) (s:Nat) (hs:∀ x,(f x).length=s):∀ (l:List α) (k j:Nat) (hk:k<l.length),j<s→(l.flatMap f)[k*s+j]? = (f l[k])[j]?
 | a :: l,0,j,hk,hj=>by
   rw [List.flatMap_cons,List.getElem?_append_left (by rw [hs];omega)]
   simp
 | a :: l,k+1,j,hk,hj=>by
   rw [List.flatMap_cons,List.getElem?_append_right (by rw [hs,Nat.add_mul];omega),hs]
   have:(k+1)*s+j - s=k*s+j:=by rw [Nat.add_mul];omega
   rw [this,flat_get f s hs l k j (by simpa using hk) hj]
   simp
theorem qcs_get (l:List QR) (k j:Nat) (hk:k<l.length) (hj:j<3):(qcs l)[k*3+j]? = l[k].cells[j]?:=flat_get QR.cells 3 QR.cells_length l k j hk hj
theorem rcs_get (l:List RR) (k j:Nat) (hk:k<l.length) (hj:j<9):(rcs l)[k*9+j]? = l[k].cells[j]?:=flat_get RR.cells 9 RR.cells_length l k j hk hj
theorem qcells_one (x:QR):∀ u∈x.cells,u.oneCell'=true:=by
 intro u hu
 simp [QR.cells] at hu
 rcases hu with rfl | rfl | rfl <;> rfl
theorem rcells_one (x:RR):∀ u∈x.cells,u.oneCell'=true:=by
 intro u hu
 simp [RR.cells] at hu
 rcases hu with rfl | rfl | rfl | rfl | rfl | rfl | rfl | rfl | rfl <;> rfl
def NRd (w:World) (B:Nat) (A:Option Addr) (c:Nat) (n:List (List UInt8)):Prop:=Rd w B A n.length (sc n)∧n.length≤c∧sizeN n≤140737488355328
def DRd (w:World) (B:Nat) (A:Option Addr) (c:Nat) (d:List UInt8):Prop:=Rd w B A d.length (bc d)∧d.length≤c∧d.length≤140737488355328
def QRd (w:World) (B:Nat) (x:QR):Prop:=NRd w B x.A x.c x.q.nm∧x.q.ty<65536∧x.q.cl<65536
def RRd (w:World) (B:Nat) (x:RR):Prop:=QRd w B x.qr∧DRd w B x.dA x.dc x.r.d∧NRd w B x.tA x.tc x.r.tg∧x.r.ttl<4294967296∧x.r.pr<65536∧x.r.we<65536∧x.r.po<65536
def QsRd (w:World) (B:Nat) (A:Option Addr) (c n:Nat) (l:List QR):Prop:=Rd w B A (n*3) (qcs l)∧l.length=n∧n≤c∧n≤1000000000000∧∀ x∈l,QRd w B x
def RsRd (w:World) (B:Nat) (A:Option Addr) (c n:Nat) (l:List RR):Prop:=Rd w B A (n*9) (rcs l)∧l.length=n∧n≤c∧n≤1000000000000∧∀ x∈l,RRd w B x
structure MR where
 id:Nat
 fl:Nat
 qA:Option Addr
 qc:Nat
 qs:List QR
 aA:Option Addr
 ac:Nat
 r0:List RR
 bA:Option Addr
 bc:Nat
 r1:List RR
 cA:Option Addr
 cc:Nat
 r2:List RR
def MR.cells (x:MR):List Value:=[.int .u16 (x.id:Int),.int .u16 (x.fl:Int),.slice x.qA x.qs.length x.qc,.slice x.aA x.r0.length x.ac,.slice x.bA x.r1.length x.bc,.slice x.cA x.r2.length x.cc]
def MR.m (x:MR):Ms:=⟨x.id,x.fl,x.qs.map QR.q,x.r0.map RR.r,x.r1.map RR.r,x.r2.map RR.r⟩
def MRd (w:World) (B:Nat) (x:MR):Prop:=x.id<65536∧x.fl<65536∧QsRd w B x.qA x.qc x.qs.length x.qs∧RsRd w B x.aA x.ac x.r0.length x.r0∧RsRd w B x.bA x.bc x.r1.length x.r1∧RsRd w B x.cA x.cc x.r2.length x.r2
section
variable {w w':World} {B B':Nat}
theorem NRd.below {A:Option Addr} {c:Nat} {n:List (List UInt8)} (h:NRd w B A c n) (hb:Below B w w'):NRd w' B A c n:=⟨h.1.below hb,h.2⟩
theorem NRd.more {A:Option Addr} {c:Nat} {n:List (List UInt8)} (h:NRd w B A c n) (hb:B≤B'):NRd w B' A c n:=⟨h.1.more hb,h.2⟩
theorem DRd.below {A:Option Addr} {c:Nat} {n:List UInt8} (h:DRd w B A c n) (hb:Below B w w'):DRd w' B A c n:=⟨h.1.below hb,h.2⟩
theorem DRd.more {A:Option Addr} {c:Nat} {n:List UInt8} (h:DRd w B A c n) (hb:B≤B'):DRd w B' A c n:=⟨h.1.more hb,h.2⟩
theorem QRd.below {x:QR} (h:QRd w B x) (hb:Below B w w'):QRd w' B x:=⟨h.1.below hb,h.2⟩
theorem QRd.more {x:QR} (h:QRd w B x) (hb:B≤B'):QRd w B' x:=⟨h.1.more hb,h.2⟩
theorem RRd.below {x:RR} (h:RRd w B x) (hb:Below B w w'):RRd w' B x:=⟨h.1.below hb,h.2.1.below hb,h.2.2.1.below hb,h.2.2.2⟩
theorem RRd.more {x:RR} (h:RRd w B x) (hb:B≤B'):RRd w B' x:=⟨h.1.more hb,h.2.1.more hb,h.2.2.1.more hb,h.2.2.2⟩
theorem QsRd.below {A:Option Addr} {c n:Nat} {l:List QR} (h:QsRd w B A c n l) (hb:Below B w w'):QsRd w' B A c n l:=⟨h.1.below hb,h.2.1,h.2.2.1,h.2.2.2.1,fun x hx=>(h.2.2.2.2 x hx).below hb⟩
theorem QsRd.more {A:Option Addr} {c n:Nat} {l:List QR} (h:QsRd w B A c n l) (hb:B≤B'):QsRd w B' A c n l:=⟨h.1.more hb,h.2.1,h.2.2.1,h.2.2.2.1,fun x hx=>(h.2.2.2.2 x hx).more hb⟩
theorem RsRd.below {A:Option Addr} {c n:Nat} {l:List RR} (h:RsRd w B A c n l) (hb:Below B w w'):RsRd w' B A c n l:=⟨h.1.below hb,h.2.1,h.2.2.1,h.2.2.2.1,fun x hx=>(h.2.2.2.2 x hx).below hb⟩
theorem RsRd.more {A:Option Addr} {c n:Nat} {l:List RR} (h:RsRd w B A c n l) (hb:B≤B'):RsRd w B' A c n l:=⟨h.1.more hb,h.2.1,h.2.2.1,h.2.2.2.1,fun x hx=>(h.2.2.2.2 x hx).more hb⟩
theorem MRd.below {x:MR} (h:MRd w B x) (hb:Below B w w'):MRd w' B x:=⟨h.1,h.2.1,h.2.2.1.below hb,h.2.2.2.1.below hb,h.2.2.2.2.1.below hb,h.2.2.2.2.2.below hb⟩
theorem MRd.more {x:MR} (h:MRd w B x) (hb:B≤B'):MRd w B' x:=⟨h.1,h.2.1,h.2.2.1.more hb,h.2.2.2.1.more hb,h.2.2.2.2.1.more hb,h.2.2.2.2.2.more hb⟩
theorem QsRd.at_ {A:Option Addr} {c n:Nat} {l:List QR} (h:QsRd w B A c n l) {k:Nat} (hk:k<n):∃ b o,A=some ⟨b,o,none⟩∧b<B∧∀ hk:k<l.length,(w.cell? ⟨b,o+k*3,none⟩=some (.slice l[k].A l[k].q.nm.length l[k].c)∧w.cell? ⟨b,o+k*3+1,none⟩=some (.int .u16 (l[k].q.ty:Int))∧w.cell? ⟨b,o+k*3+2,none⟩=some (.int .u16 (l[k].q.cl:Int))):=by
 obtain ⟨b,o,hA,hb,hc⟩:=h.1.2 (by omega)
 refine ⟨b,o,hA,hb,fun hl=>⟨?_,?_,?_⟩⟩
 ·exact hc (k*3) _ ((qcs_get l k 0 hl (by omega)).trans rfl)
 ·exact hc (k*3+1) _ ((qcs_get l k 1 hl (by omega)).trans rfl)
 ·exact hc (k*3+2) _ ((qcs_get l k 2 hl (by omega)).trans rfl)
def Nine (w:World) (b o:Nat) (x:RR):Prop:=∀ j u,x.cells[j]? = some u→w.cell? ⟨b,o+j,none⟩=some u
theorem RsRd.at_ {A:Option Addr} {c n:Nat} {l:List RR} (h:RsRd w B A c n l) {k:Nat} (hk:k<n):∃ b o,A=some ⟨b,o,none⟩∧b<B∧∀ hk:k<l.length,Nine w b (o+k*9) l[k]:=by
 obtain ⟨b,o,hA,hb,hc⟩:=h.1.2 (by omega)
 refine ⟨b,o,hA,hb,fun hl j u hu=>?_⟩
 have hj:j<9:=by
  rcases Nat.lt_or_ge j 9 with h1 | h1
  ·exact h1
  ·rw [List.getElem?_eq_none (by simpa using h1)] at hu;cases hu
 rw [Nat.add_assoc]
 exact hc _ u ((rcs_get l k j hl hj).trans hu)
theorem Nine.cells {b o:Nat} {x:RR} (h:Nine w b o x) :
 w.cell? ⟨b,o,none⟩=some (.slice x.A x.r.q.nm.length x.c)∧w.cell? ⟨b,o+1,none⟩=some (.int .u16 (x.r.q.ty:Int))∧w.cell? ⟨b,o+2,none⟩=some (.int .u16 (x.r.q.cl:Int))∧w.cell? ⟨b,o+3,none⟩=some (.int .u32 (x.r.ttl:Int))∧
 w.cell? ⟨b,o+4,none⟩=some (.slice x.dA x.r.d.length x.dc)∧w.cell? ⟨b,o+5,none⟩=some (.int .u16 (x.r.pr:Int))∧w.cell? ⟨b,o+6,none⟩=some (.int .u16 (x.r.we:Int))∧w.cell? ⟨b,o+7,none⟩=some (.int .u16 (x.r.po:Int))∧w.cell? ⟨b,o+8,none⟩=some (.slice x.tA x.r.tg.length x.tc):=
 ⟨h 0 _ rfl,h 1 _ rfl,h 2 _ rfl,h 3 _ rfl,h 4 _ rfl,h 5 _ rfl,h 6 _ rfl,h 7 _ rfl,h 8 _ rfl⟩
end
theorem kp_lt {w:World} {g:Nat} {o:Obj} (h:w.heap[g]? = some o):g<w.heap.size:=(Array.getElem?_eq_some_iff.1 h).1
def Vx (w:World) (g:Nat) (e:TypeId) (cs:List Value):Prop:=w.heap[g]? = some (.cells cs.toArray e (0,0))
section
variable {w w':World} {g:Nat} {e:TypeId} {cs:List Value}
theorem Vx.cell (h:Vx w g e cs) (k:Nat):w.cell? ⟨g,k,none⟩=cs[k]?:=by
 rw [cell_of_row w g k cs.toArray _ _ h];simp
theorem Vx.free (h:Vx w g e cs) (k:Nat):w.frozen? ⟨g,k,none⟩=false:=by
 unfold Vx at h
 simp [World.frozen?,h]
theorem Vx.lt (h:Vx w g e cs):g<w.heap.size:=kp_lt h
theorem Vx.below {B:Nat} (h:Vx w g e cs) (hb:Below B w w') (hg:g<B):Vx w' g e cs:=(hb.block g hg).trans h
theorem Vx.alloc (h:Vx w g e cs) (o:Obj):Vx (w.alloc o) g e cs:=(Below.heap_alloc w o g (kp_lt h)).trans h
theorem Vx.new (w:World) (e:TypeId) (cs:List Value):Vx (w.alloc (.cells cs.toArray e)) w.heap.size e cs:=heap_alloc_new w _
theorem Vx.set_ (h:Vx w g e cs) (k:Nat) (v:Value):Vx (w.setCell ⟨g,k,none⟩ v) g e (cs.set k v):=by
 unfold Vx
 rw [heap_setCell_same w g k cs.toArray _ v h]
 simp
theorem Vx.setO {g':Nat} (h:Vx w g e cs) (hn:g≠g') (k:Nat) (v:Value):Vx (w.setCell ⟨g',k,none⟩ v) g e cs:=(heap_setCell_other w _ g v hn).trans h
theorem Vx.row (h:Vx w g e cs) (ds:List Value):Vx (w.setRow g ds.toArray) g e ds:=setRow_heap w g cs.toArray ds.toArray _ _ h
theorem Vx.rowO {g':Nat} (h:Vx w g e cs) (hn:g≠g') (ds:Array Value):Vx (w.setRow g' ds) g e cs:=(setRow_other w g' g ds hn).trans h
theorem Vx.grown {row:Option Nat} (h:Vx w g e cs) (hg:w.grownBy w' row) (hn:some g≠row):Vx w' g e cs:=(hg.block g h.lt hn).trans h
theorem Vx.c2 {a0 a1:Value} (h:Vx w g e [a0,a1]):w.cell? ⟨g,0,none⟩=some a0∧w.cell? ⟨g,1,none⟩=some a1:=⟨h.cell 0,h.cell 1⟩
theorem Vx.c3 {a0 a1 a2:Value} (h:Vx w g e [a0,a1,a2]):w.cell? ⟨g,0,none⟩=some a0∧w.cell? ⟨g,1,none⟩=some a1∧w.cell? ⟨g,2,none⟩=some a2:=⟨h.cell 0,h.cell 1,h.cell 2⟩
theorem Vx.c6 {a0 a1 a2 a3 a4 a5:Value} (h:Vx w g e [a0,a1,a2,a3,a4,a5]):w.cell? ⟨g,0,none⟩=some a0∧w.cell? ⟨g,1,none⟩=some a1∧w.cell? ⟨g,2,none⟩=some a2∧w.cell? ⟨g,3,none⟩=some a3∧w.cell? ⟨g,4,none⟩=some a4∧w.cell? ⟨g,5,none⟩=some a5:=⟨h.cell 0,h.cell 1,h.cell 2,h.cell 3,h.cell 4,h.cell 5⟩
theorem Vx.c9 {a0 a1 a2 a3 a4 a5 a6 a7 a8:Value} (h:Vx w g e [a0,a1,a2,a3,a4,a5,a6,a7,a8]):w.cell? ⟨g,0,none⟩=some a0∧w.cell? ⟨g,1,none⟩=some a1∧w.cell? ⟨g,2,none⟩=some a2∧w.cell? ⟨g,3,none⟩=some a3∧w.cell? ⟨g,4,none⟩=some a4∧w.cell? ⟨g,5,none⟩=some a5∧w.cell? ⟨g,6,none⟩=some a6∧w.cell? ⟨g,7,none⟩=some a7∧w.cell? ⟨g,8,none⟩=some a8:=⟨h.cell 0,h.cell 1,h.cell 2,h.cell 3,h.cell 4,h.cell 5,h.cell 6,h.cell 7,h.cell 8⟩
theorem Vx.drew (h:Vx w g e cs):Vx w.drew g e cs:=h
theorem Vx.drewN (h:Vx w g e cs) (q:Nat):Vx (w.drewN q) g e cs:=h
end
end Go.Proofs.YtlipmlbijddopaaGreatDoor
