/-
  SrvRm; SrvSmall
-/
import Derived.Test.YtlipmlbijddopaaGreatDoorZ22
import Derived.Test.YtlipmlbijddopaaGreatDoorZ25
import Derived.Test.YtlipmlbijddopaaGreatDoorZ08
import Derived.Test.YtlipmlbijddopaaGreatDoorZ28
import Derived.Test.YtlipmlbijddopaaGreatDoorZ29
import Derived.Test.YtlipmlbijddopaaGreatDoorZ31
import Derived.Test.YtlipmlbijddopaaGreatDoorZ33
import Derived.Test.YtlipmlbijddopaaGreatDoorZ19
set_option linter.unusedVariables false
set_option linter.unusedSimpArgs false
namespace Go.Proofs.YtlipmlbijddopaaGreatDoor
open Go.RowKit
namespace Sm
def Apt (u v:Value):Prop:=∀ q,u.ownBlock=some q→v.ownBlock≠some q
theorem Apt.symm {u v:Value} (h:Apt u v):Apt v u:=fun q h1 h2=>h q h2 h1
theorem Apt.gr {w w':World} {u v v':Value} (h:Apt v u) (hg:Gr w w' v v') (hu:∀ q,u.ownBlock=some q→q<w.heap.size):Apt v' u:=by
 intro q h1 h2
 rcases hg.2 q h1 with h3 | h3
 ·exact h q h3 h2
 ·have:=hu q h2;omega
def updF {α:Type} (f:Nat→α) (i:Nat) (a:α):Nat→α:=fun j=>if j=i then a else f j
@[simp] theorem updF_same {α:Type} (f:Nat→α) (i:Nat) (a:α):updF f i a i=a:=by simp [updF]
theorem updF_ne {α:Type} (f:Nat→α) {i j:Nat} (a:α) (h:j≠i):updF f i a j=f j:=by simp [updF,h]
theorem ownM_setNe {w:World} {base g s n:Nat} {e:TypeId} {v:Value} {xs:List Value} (h:OwM w base e s v n xs) (hne:v.ownBlock≠some g) (k:Nat) (u:Value):OwM (w.setCell ⟨g,k,none⟩ u) base e s v n xs:=
 World.ownsRow.kept h (grownBy_set w g k u) (.inr hne)
structure Fm (w:World) (M b r:Nat) (R:Nat→Ob) (D:Ob→Prop):Prop where
 ok:∀ i,i<3→(R i).ok w r
 dn:∀ o,D o→o.ok w b
 dm:∀ o,D o→o.v.ownBlock≠some M
 ap:∀ i j,i<3→j<3→i≠j→Apt (R i).v (R j).v
 ne:∀ i,i<3→∀ o,D o→Apt (R i).v o.v
section
variable {w w':World} {M b r:Nat} {R R2:Nat→Ob} {D D2:Ob→Prop}
theorem Fm.far (h:Fm w M b r R D) (hb:Below w.heap.size w w'):Fm w' M b r R D:=⟨fun i hi=>(h.ok i hi).far hb,fun o ho=>(h.dn o ho).far hb,h.dm,h.ap,h.ne⟩
theorem Fm.setM (h:Fm w M b r R D) (hM:M<r) (k:Nat) (u:Value):Fm (w.setCell ⟨M,k,none⟩ u) M b r R D:=⟨fun i hi=>OwM.setL (h.ok i hi) hM k u,fun o ho=>ownM_setNe (h.dn o ho) (h.dm o ho) k u,h.dm,h.ap,h.ne⟩
theorem Fm.more (h:Fm w M b r R D) (hn:∀ o,D2 o→D o∨(o.ok w b∧o.v.ownBlock≠some M∧∀ i,i<3→Apt (R i).v o.v)):Fm w M b r R D2:=
 ⟨h.ok,fun o ho=>(hn o ho).elim (h.dn o) (fun x=>x.1),fun o ho=>(hn o ho).elim (h.dm o) (fun x=>x.2.1),h.ap,fun i hi o ho=>(hn o ho).elim (h.ne i hi o) (fun x=>x.2.2 i hi)⟩
theorem Fm.fresh (h:Fm w M b r R D) {o:Ob} (ho:o.ok w' w.heap.size) (hM:M<w.heap.size) (hB:b≤w.heap.size):o.ok w' b∧o.v.ownBlock≠some M∧∀ i,i<3→Apt (R i).v o.v:=
 ⟨OwM.mono ho hB,fun e=>by have:=OwM.lt ho M e;omega,fun i hi q h1 h2=>by
  have h3:=OwM.block_lt (h.ok i hi) q h1
  have h4:=OwM.lt ho q h2
  omega⟩
theorem Fm.app (h:Fm w M b r R D) (i:Nat) (hi:i<3) (o:Ob) (hg:Gr w w' (R i).v o.v) (ho:o.ok w' r):Fm w' M b r (updF R i o) D:=by
 refine ⟨fun j hj=>?_,fun x hx=>OwM.kept (h.dn x hx) hg ((h.ne i hi x hx).symm),h.dm,fun j k hj hk hjk=>?_,fun j hj x hx=>?_⟩
 ·by_cases e:j=i
  ·subst e;rw [updF_same];exact ho
  ·rw [updF_ne _ _ e];exact OwM.kept (h.ok j hj) hg (h.ap j i hj hi e)
 ·by_cases e:j=i
  ·subst e
   rw [updF_same,updF_ne _ _ (Ne.symm hjk)]
   exact (h.ap j k hj hk hjk).gr hg (OwM.block_lt (h.ok k hk))
  ·by_cases e2:k=i
   ·subst e2
    rw [updF_same,updF_ne _ _ hjk]
    exact ((h.ap k j hk hj (Ne.symm hjk)).gr hg (OwM.block_lt (h.ok j hj))).symm
   ·rw [updF_ne _ _ e,updF_ne _ _ e2];exact h.ap j k hj hk hjk
 ·by_cases e:j=i
  ·subst e;rw [updF_same];exact (h.ne j hj x hx).gr hg (OwM.block_lt (h.dn x hx))
  ·rw [updF_ne _ _ e];exact h.ne j hj x hx
theorem Fm.mono (h:Fm w M b r R D) (hR:∀ i,i<3→R2 i=R i) (hs:∀ o,D2 o→D o):Fm w M b r R2 D2:=
 ⟨fun i hi=>by rw [hR i hi];exact h.ok i hi,fun o ho=>h.dn o (hs o ho),fun o ho=>h.dm o (hs o ho),fun i j hi hj hij=>by rw [hR i hi,hR j hj];exact h.ap i j hi hj hij,fun i hi o ho=>by rw [hR i hi];exact h.ne i hi o (hs o ho)⟩
end
def nmQ:List (List UInt8):=[[95,97],[98]]
def qq (g:Nat):QR:=⟨some ⟨g,0,none⟩,2,⟨nmQ,33,1⟩⟩
def rc (tA:Option Addr) (tg:List (List UInt8)) (po pr we ttl:Nat):RR:=⟨none,0,none,0,tA,tg.length,⟨⟨[],0,0⟩,ttl,[],pr,we,po,tg⟩⟩
def at_ (g k:Nat):Option Addr:=some ⟨g+k,0,none⟩
def rec13 (g:Nat):List RR:=[rc (at_ g 2) [[104]] 1 0 0 0,rc none [] 1 0 0 0,rc none [] 0 0 0 0,rc (at_ g 3) [[104]] 1 1 0 0,rc (at_ g 4) [[104]] 1 0 1 0,rc (at_ g 5) [[104]] 2 0 0 0,rc (at_ g 6) [[103]] 1 0 0 9,rc (at_ g 7) [[104]] 1 0 0 9,rc (at_ g 8) [[104,46,104]] 1 0 0 0,rc (at_ g 9) [[95,45,48,57,97,122],[104]] 65535 0 0 0,rc (at_ g 10) [[104]] 0 0 0 0,rc (at_ g 11) [[104],[128]] 1 0 0 0,rc (at_ g 12) [[104]] 65535 65535 65535 4294967295]
@[simp] theorem rec13_len (g:Nat):(rec13 g).length=13:=rfl
def okT (x:RR):Prop:=sizeN x.r.q.nm≤100∧x.r.d.length≤100∧sizeN x.r.tg≤100∧x.r.q.ty<65536∧x.r.q.cl<65536∧x.r.ttl<4294967296∧x.r.pr<65536∧x.r.we<65536∧x.r.po<65536
theorem rc_ok (tA:Option Addr) (tg:List (List UInt8)) (po pr we ttl:Nat) (h1:sizeN tg≤100) (h2:po<65536) (h3:pr<65536) (h4:we<65536) (h5:ttl<4294967296):okT (rc tA tg po pr we ttl):=
 ⟨by simp [rc,sizeN],by simp [rc],h1,by simp [rc],by simp [rc],h5,h3,h4,h2⟩
theorem rec13_ok (g:Nat):∀ x∈rec13 g,okT x:=by
 intro x hx
 simp only [rec13,List.mem_cons,List.not_mem_nil,or_false] at hx
 rcases hx with rfl | rfl | rfl | rfl | rfl | rfl | rfl | rfl | rfl | rfl | rfl | rfl | rfl <;> exact rc_ok _ _ _ _ _ _ (by decide) (by decide) (by decide) (by decide) (by decide)
structure Lit (g:Nat) (w:World):Prop where
 vq:Vx w (g+1) 40 [.slice (some ⟨g,0,none⟩) 2 2,.int .u16 33,.int .u16 1]
 vt:Vx w (g+13) 42 (rcs (rec13 g))
 nm:(nmO (some ⟨g,0,none⟩) 2 nmQ).ok w g
 ob:∀ o,DR (rec13 g) o→o.ok w g
 sz:g+14≤w.heap.size
theorem Lit.far {g:Nat} {w w':World} (h:Lit g w) (hb:Below w.heap.size w w'):Lit g w':=
 ⟨h.vq.below hb h.vq.lt,h.vt.below hb h.vt.lt,h.nm.far hb,fun o ho=>(h.ob o ho).far hb,Nat.le_trans h.sz hb.size⟩
theorem Lit.rec_ {g mi:Nat} {w:World} (h:Lit g w) (hm:mi<13):∃ x,x∈rec13 g∧∀ j u,x.cells[j]? = some u→w.cell? ⟨g+13,mi*9+j,none⟩=some u:=by
 have hl:mi<(rec13 g).length:=hm
 refine ⟨(rec13 g)[mi],List.getElem_mem hl,fun j u hu=>?_⟩
 have hj:j<9:=by
  rcases Nat.lt_or_ge j 9 with h1 | h1
  ·exact h1
  ·rw [List.getElem?_eq_none (by simpa using h1)] at hu;cases hu
 rw [h.vt.cell]
 exact (rcs_get (rec13 g) mi j hl hj).trans hu
theorem ks_get (m1 m2 m3:Nat) (h1:m1<13) (h2:m2<13) (h3:m3<13) (i:Nat) (hi:i<3):∃ mi:Nat,mi<13∧([.int .i64 (m1:Int),.int .i64 (m2:Int),.int .i64 (m3:Int)]:List Value)[i]? = some (.int .i64 (mi:Int)):=by
 rcases (show i=0∨i=1∨i=2 by omega) with rfl | rfl | rfl
 ·exact ⟨m1,h1,rfl⟩
 ·exact ⟨m2,h2,rfl⟩
 ·exact ⟨m3,h3,rfl⟩
theorem lit_next {w w':World} {g k:Nat} (hs:w.heap.size=g+k) (l:List (List UInt8)) (hl:l.length≤9) (hw:w'=w.alloc (.cells (sc l).toArray 9)) :
 w'.heap.size=g+(k+1)∧(nmO (some ⟨g+k,0,none⟩) l.length l).ok w' g∧Below w.heap.size w w':=by
 subst hw
 refine ⟨by simp;omega,?_,bl_new _ _⟩
 have h:=Ow.lit w 9 (sc l) (by rw [sc_length];unfold maxLen;omega)
 rw [hs] at h
 have:=OwM.mono h (show g≤g+k by omega)
 unfold Ob.ok nmO
 simpa using this
theorem lit_all (w:World):∃ W,W=((((((((((((((w.alloc (.cells #[.string ⟨#[95,97]⟩,.string ⟨#[98]⟩] 9)).alloc (.cells #[.slice (some ⟨w.heap.size,0,none⟩) 2 2,.int .u16 33,.int .u16 1] 40)).alloc (.cells #[.string ⟨#[104]⟩] 9)).alloc (.cells #[.string ⟨#[104]⟩] 9)).alloc (.cells #[.string ⟨#[104]⟩] 9)).alloc (.cells #[.string ⟨#[104]⟩] 9)).alloc (.cells #[.string ⟨#[103]⟩] 9)).alloc (.cells #[.string ⟨#[104]⟩] 9)).alloc (.cells #[.string ⟨#[104,46,104]⟩] 9)).alloc (.cells #[.string ⟨#[95,45,48,57,97,122]⟩,.string ⟨#[104]⟩] 9)).alloc (.cells #[.string ⟨#[104]⟩] 9)).alloc (.cells #[.string ⟨#[104]⟩,.string ⟨#[128]⟩] 9)).alloc (.cells #[.string ⟨#[104]⟩] 9)).alloc (.cells #[.slice none 0 0,.int .u16 0,.int .u16 0,.int .u32 0,.slice none 0 0,.int .u16 0,.int .u16 0,.int .u16 1,.slice (some ⟨w.heap.size+1+1,0,none⟩) 1 1,.slice none 0 0,.int .u16 0,.int .u16 0,.int .u32 0,.slice none 0 0,.int .u16 0,.int .u16 0,.int .u16 1,.slice none 0 0,.slice none 0 0,.int .u16 0,.int .u16 0,.int .u32 0,.slice none 0 0,.int .u16 0,.int .u16 0,.int .u16 0,.slice none 0 0,.slice none 0 0,.int .u16 0,.int .u16 0,.int .u32 0,.slice none 0 0,.int .u16 1,.int .u16 0,.int .u16 1,.slice (some ⟨w.heap.size+1+1+1,0,none⟩) 1 1,.slice none 0 0,.int .u16 0,.int .u16 0,.int .u32 0,.slice none 0 0,.int .u16 0,.int .u16 1,.int .u16 1,.slice (some ⟨w.heap.size+1+1+1+1,0,none⟩) 1 1,.slice none 0 0,.int .u16 0,.int .u16 0,.int .u32 0,.slice none 0 0,.int .u16 0,.int .u16 0,.int .u16 2,.slice (some ⟨w.heap.size+1+1+1+1+1,0,none⟩) 1 1,.slice none 0 0,.int .u16 0,.int .u16 0,.int .u32 9,.slice none 0 0,.int .u16 0,.int .u16 0,.int .u16 1,.slice (some ⟨w.heap.size+1+1+1+1+1+1,0,none⟩) 1 1,.slice none 0 0,.int .u16 0,.int .u16 0,.int .u32 9,.slice none 0 0,.int .u16 0,.int .u16 0,.int .u16 1,.slice (some ⟨w.heap.size+1+1+1+1+1+1+1,0,none⟩) 1 1,.slice none 0 0,.int .u16 0,.int .u16 0,.int .u32 0,.slice none 0 0,.int .u16 0,.int .u16 0,.int .u16 1,.slice (some ⟨w.heap.size+1+1+1+1+1+1+1+1,0,none⟩) 1 1,.slice none 0 0,.int .u16 0,.int .u16 0,.int .u32 0,.slice none 0 0,.int .u16 0,.int .u16 0,.int .u16 65535,.slice (some ⟨w.heap.size+1+1+1+1+1+1+1+1+1,0,none⟩) 2 2,.slice none 0 0,.int .u16 0,.int .u16 0,.int .u32 0,.slice none 0 0,.int .u16 0,.int .u16 0,.int .u16 0,.slice (some ⟨w.heap.size+1+1+1+1+1+1+1+1+1+1,0,none⟩) 1 1,.slice none 0 0,.int .u16 0,.int .u16 0,.int .u32 0,.slice none 0 0,.int .u16 0,.int .u16 0,.int .u16 1,.slice (some ⟨w.heap.size+1+1+1+1+1+1+1+1+1+1+1,0,none⟩) 2 2,.slice none 0 0,.int .u16 0,.int .u16 0,.int .u32 4294967295,.slice none 0 0,.int .u16 65535,.int .u16 65535,.int .u16 65535,.slice (some ⟨w.heap.size+1+1+1+1+1+1+1+1+1+1+1+1,0,none⟩) 1 1] 42))∧Lit w.heap.size W∧Below w.heap.size w W:=by
 refine ⟨_,rfl,?_⟩
 obtain ⟨g,hg⟩:∃ g,g=w.heap.size:=⟨_,rfl⟩
 rw [←hg]
 have s0:w.heap.size=g+0:=hg.symm
 obtain ⟨w1,h1⟩:∃ x,x=w.alloc (.cells #[.string ⟨#[95,97]⟩,.string ⟨#[98]⟩] 9):=⟨_,rfl⟩
 rw [←h1]
 obtain ⟨s1,nm,b1⟩:=lit_next s0 nmQ (by decide) h1
 obtain ⟨w2,h2⟩:∃ x,x=w1.alloc (.cells #[.slice (some ⟨g,0,none⟩) 2 2,.int .u16 33,.int .u16 1] 40):=⟨_,rfl⟩
 rw [←h2]
 have s2:w2.heap.size=g+2:=by rw [h2];simp;omega
 have vq:=Vx.new w1 40 [.slice (some ⟨g,0,none⟩) 2 2,.int .u16 33,.int .u16 1]
 rw [s1,show w1.alloc (.cells [.slice (some ⟨g,0,none⟩) 2 2,.int .u16 33,.int .u16 1].toArray 40)=w2 from h2.symm] at vq
 have b2:Below w1.heap.size w1 w2:=by rw [h2];exact bl_new _ _
 obtain ⟨w3,h3⟩:∃ x,x=w2.alloc (.cells #[.string ⟨#[104]⟩] 9):=⟨_,rfl⟩
 rw [←h3]
 obtain ⟨s3,n2,b3⟩:=lit_next s2 [[104]] (by decide) h3
 obtain ⟨w4,h4⟩:∃ x,x=w3.alloc (.cells #[.string ⟨#[104]⟩] 9):=⟨_,rfl⟩
 rw [←h4]
 obtain ⟨s4,n3,b4⟩:=lit_next s3 [[104]] (by decide) h4
 obtain ⟨w5,h5⟩:∃ x,x=w4.alloc (.cells #[.string ⟨#[104]⟩] 9):=⟨_,rfl⟩
 rw [←h5]
 obtain ⟨s5,n4,b5⟩:=lit_next s4 [[104]] (by decide) h5
 obtain ⟨w6,h6⟩:∃ x,x=w5.alloc (.cells #[.string ⟨#[104]⟩] 9):=⟨_,rfl⟩
 rw [←h6]
 obtain ⟨s6,n5,b6⟩:=lit_next s5 [[104]] (by decide) h6
 obtain ⟨w7,h7⟩:∃ x,x=w6.alloc (.cells #[.string ⟨#[103]⟩] 9):=⟨_,rfl⟩
 rw [←h7]
 obtain ⟨s7,n6,b7⟩:=lit_next s6 [[103]] (by decide) h7
 obtain ⟨w8,h8⟩:∃ x,x=w7.alloc (.cells #[.string ⟨#[104]⟩] 9):=⟨_,rfl⟩
 rw [←h8]
 obtain ⟨s8,n7,b8⟩:=lit_next s7 [[104]] (by decide) h8
 obtain ⟨w9,h9⟩:∃ x,x=w8.alloc (.cells #[.string ⟨#[104,46,104]⟩] 9):=⟨_,rfl⟩
 rw [←h9]
 obtain ⟨s9,n8,b9⟩:=lit_next s8 [[104,46,104]] (by decide) h9
 obtain ⟨w10,h10⟩:∃ x,x=w9.alloc (.cells #[.string ⟨#[95,45,48,57,97,122]⟩,.string ⟨#[104]⟩] 9):=⟨_,rfl⟩
 rw [←h10]
 obtain ⟨s10,n9,b10⟩:=lit_next s9 [[95,45,48,57,97,122],[104]] (by decide) h10
 obtain ⟨w11,h11⟩:∃ x,x=w10.alloc (.cells #[.string ⟨#[104]⟩] 9):=⟨_,rfl⟩
 rw [←h11]
 obtain ⟨s11,n10,b11⟩:=lit_next s10 [[104]] (by decide) h11
 obtain ⟨w12,h12⟩:∃ x,x=w11.alloc (.cells #[.string ⟨#[104]⟩,.string ⟨#[128]⟩] 9):=⟨_,rfl⟩
 rw [←h12]
 obtain ⟨s12,n11,b12⟩:=lit_next s11 [[104],[128]] (by decide) h12
 obtain ⟨w13,h13⟩:∃ x,x=w12.alloc (.cells #[.string ⟨#[104]⟩] 9):=⟨_,rfl⟩
 rw [←h13]
 obtain ⟨s13,n12,b13⟩:=lit_next s12 [[104]] (by decide) h13
 obtain ⟨w14,h14⟩:∃ x,x=w13.alloc (.cells #[.slice none 0 0,.int .u16 0,.int .u16 0,.int .u32 0,.slice none 0 0,.int .u16 0,.int .u16 0,.int .u16 1,.slice (some ⟨g+1+1,0,none⟩) 1 1,.slice none 0 0,.int .u16 0,.int .u16 0,.int .u32 0,.slice none 0 0,.int .u16 0,.int .u16 0,.int .u16 1,.slice none 0 0,.slice none 0 0,.int .u16 0,.int .u16 0,.int .u32 0,.slice none 0 0,.int .u16 0,.int .u16 0,.int .u16 0,.slice none 0 0,.slice none 0 0,.int .u16 0,.int .u16 0,.int .u32 0,.slice none 0 0,.int .u16 1,.int .u16 0,.int .u16 1,.slice (some ⟨g+1+1+1,0,none⟩) 1 1,.slice none 0 0,.int .u16 0,.int .u16 0,.int .u32 0,.slice none 0 0,.int .u16 0,.int .u16 1,.int .u16 1,.slice (some ⟨g+1+1+1+1,0,none⟩) 1 1,.slice none 0 0,.int .u16 0,.int .u16 0,.int .u32 0,.slice none 0 0,.int .u16 0,.int .u16 0,.int .u16 2,.slice (some ⟨g+1+1+1+1+1,0,none⟩) 1 1,.slice none 0 0,.int .u16 0,.int .u16 0,.int .u32 9,.slice none 0 0,.int .u16 0,.int .u16 0,.int .u16 1,.slice (some ⟨g+1+1+1+1+1+1,0,none⟩) 1 1,.slice none 0 0,.int .u16 0,.int .u16 0,.int .u32 9,.slice none 0 0,.int .u16 0,.int .u16 0,.int .u16 1,.slice (some ⟨g+1+1+1+1+1+1+1,0,none⟩) 1 1,.slice none 0 0,.int .u16 0,.int .u16 0,.int .u32 0,.slice none 0 0,.int .u16 0,.int .u16 0,.int .u16 1,.slice (some ⟨g+1+1+1+1+1+1+1+1,0,none⟩) 1 1,.slice none 0 0,.int .u16 0,.int .u16 0,.int .u32 0,.slice none 0 0,.int .u16 0,.int .u16 0,.int .u16 65535,.slice (some ⟨g+1+1+1+1+1+1+1+1+1,0,none⟩) 2 2,.slice none 0 0,.int .u16 0,.int .u16 0,.int .u32 0,.slice none 0 0,.int .u16 0,.int .u16 0,.int .u16 0,.slice (some ⟨g+1+1+1+1+1+1+1+1+1+1,0,none⟩) 1 1,.slice none 0 0,.int .u16 0,.int .u16 0,.int .u32 0,.slice none 0 0,.int .u16 0,.int .u16 0,.int .u16 1,.slice (some ⟨g+1+1+1+1+1+1+1+1+1+1+1,0,none⟩) 2 2,.slice none 0 0,.int .u16 0,.int .u16 0,.int .u32 4294967295,.slice none 0 0,.int .u16 65535,.int .u16 65535,.int .u16 65535,.slice (some ⟨g+1+1+1+1+1+1+1+1+1+1+1+1,0,none⟩) 1 1] 42):=⟨_,rfl⟩
 rw [←h14]
 have s14:w14.heap.size=g+14:=by rw [h14];simp;omega
 have vt:=Vx.new w13 42 (rcs (rec13 g))
 rw [s13,show w13.alloc (.cells (rcs (rec13 g)).toArray 42)=w14 from h14.symm] at vt
 have b14:Below w13.heap.size w13 w14:=by rw [h14];exact bl_new _ _
 have c14:Below w14.heap.size w14 w14:=Below.refl _ _
 have c13:=b14.trans (c14.mono b14.size)
 have c12:=b13.trans (c13.mono b13.size)
 have c11:=b12.trans (c12.mono b12.size)
 have c10:=b11.trans (c11.mono b11.size)
 have c9:=b10.trans (c10.mono b10.size)
 have c8:=b9.trans (c9.mono b9.size)
 have c7:=b8.trans (c8.mono b8.size)
 have c6:=b7.trans (c7.mono b7.size)
 have c5:=b6.trans (c6.mono b6.size)
 have c4:=b5.trans (c5.mono b5.size)
 have c3:=b4.trans (c4.mono b4.size)
 have c2:=b3.trans (c3.mono b3.size)
 have c1:=b2.trans (c2.mono b2.size)
 have c0:=b1.trans (c1.mono b1.size)
 refine ⟨⟨vq.below c2 vq.lt,vt,nm.far c1,fun o ho=>?_,by omega⟩,hg ▸ c0⟩
 obtain ⟨x,hx,ho⟩:=ho
 simp only [rec13,List.mem_cons,List.not_mem_nil,or_false] at hx
 rcases hx with rfl | rfl | rfl | rfl | rfl | rfl | rfl | rfl | rfl | rfl | rfl | rfl | rfl
 ·rcases ho with rfl | rfl | rfl
  ·exact OwM.nil _ _ _ _
  ·exact OwM.nil _ _ _ _
  ·exact n2.far c3
 ·rcases ho with rfl | rfl | rfl <;> exact OwM.nil _ _ _ _
 ·rcases ho with rfl | rfl | rfl <;> exact OwM.nil _ _ _ _
 ·rcases ho with rfl | rfl | rfl
  ·exact OwM.nil _ _ _ _
  ·exact OwM.nil _ _ _ _
  ·exact n3.far c4
 ·rcases ho with rfl | rfl | rfl
  ·exact OwM.nil _ _ _ _
  ·exact OwM.nil _ _ _ _
  ·exact n4.far c5
 ·rcases ho with rfl | rfl | rfl
  ·exact OwM.nil _ _ _ _
  ·exact OwM.nil _ _ _ _
  ·exact n5.far c6
 ·rcases ho with rfl | rfl | rfl
  ·exact OwM.nil _ _ _ _
  ·exact OwM.nil _ _ _ _
  ·exact n6.far c7
 ·rcases ho with rfl | rfl | rfl
  ·exact OwM.nil _ _ _ _
  ·exact OwM.nil _ _ _ _
  ·exact n7.far c8
 ·rcases ho with rfl | rfl | rfl
  ·exact OwM.nil _ _ _ _
  ·exact OwM.nil _ _ _ _
  ·exact n8.far c9
 ·rcases ho with rfl | rfl | rfl
  ·exact OwM.nil _ _ _ _
  ·exact OwM.nil _ _ _ _
  ·exact n9.far c10
 ·rcases ho with rfl | rfl | rfl
  ·exact OwM.nil _ _ _ _
  ·exact OwM.nil _ _ _ _
  ·exact n10.far c11
 ·rcases ho with rfl | rfl | rfl
  ·exact OwM.nil _ _ _ _
  ·exact OwM.nil _ _ _ _
  ·exact n11.far c12
 ·rcases ho with rfl | rfl | rfl
  ·exact OwM.nil _ _ _ _
  ·exact OwM.nil _ _ _ _
  ·exact n12.far c13
def rows (rs:Nat→RW):Nat→Ob:=fun i=>rwRf (rs i).A (rs i).c (rs i).l
def DD (g Q:Nat) (rs:Nat→RW):Ob→Prop:=fun o=>o=rwQf (some ⟨Q,0,none⟩) 1 [qq g]∨DQ [qq g] o∨DR (rec13 g) o∨∃ i,i<3∧DR (rs i).l o
def nilR:Nat→RW:=fun _=>⟨none,0,[]⟩
def mrow (Q:Nat) (rs:Nat→RW):List Value:=[.int .u16 258,.int .u16 33024,.slice (some ⟨Q,0,none⟩) 1 1,(rs 0).v,(rs 1).v,(rs 2).v]
theorem mrow_get (Q:Nat) (rs:Nat→RW) (i:Nat) (hi:i<3):(mrow Q rs)[3+i]? = some (.slice (rs i).A (rs i).l.length (rs i).c):=by
 rcases (show i=0∨i=1∨i=2 by omega) with rfl | rfl | rfl <;> rfl
theorem mrow_set (Q:Nat) (rs:Nat→RW) (i:Nat) (hi:i<3) (r:RW):(mrow Q rs).set (3+i) r.v=mrow Q (updF rs i r):=by
 rcases (show i=0∨i=1∨i=2 by omega) with rfl | rfl | rfl <;> simp [mrow,updF]
structure Rm (g Q M K:Nat) (w1 w:World) (ks:List Value) (rs:Nat→RW) (n:Nat) (E:Ob→Prop):Prop where
 b1:Below w1.heap.size w1 w
 vm:Vx w M 47 (mrow Q rs)
 vk:Vx w K 3 ks
 fam:Fm w M g (K+1) (rows rs) (fun o=>E o∨DD g Q rs o)
 lr:∀ i,(rs i).l.length≤n
 ok:∀ i,∀ x∈(rs i).l,okT x
 lt:w1.heap.size≤M∧M<K∧K<w.heap.size∧g+14≤w1.heap.size
section
variable {g Q M K n:Nat} {w1 w w':World} {ks:List Value} {rs:Nat→RW} {E:Ob→Prop}
theorem Rm.far (h:Rm g Q M K w1 w ks rs n E) (hb:Below w.heap.size w w'):Rm g Q M K w1 w' ks rs n E:=
 ⟨h.b1.trans (hb.mono h.b1.size),h.vm.below hb h.vm.lt,h.vk.below hb h.vk.lt,h.fam.far hb,h.lr,h.ok,h.lt.1,h.lt.2.1,Nat.lt_of_lt_of_le h.lt.2.2.1 hb.size,h.lt.2.2.2⟩
theorem Rm.okR (h:Rm g Q M K w1 w ks rs n E) (i:Nat) (hi:i<3):OwM w (K+1) 42 9 (.slice (rs i).A (rs i).l.length (rs i).c) (rs i).l.length (rcs (rs i).l):=h.fam.ok i hi
theorem Rm.cellR (h:Rm g Q M K w1 w ks rs n E) (i:Nat) (hi:i<3):w.cell? ⟨M,3+i,none⟩=some (.slice (rs i).A (rs i).l.length (rs i).c):=by
 rw [h.vm.cell];exact mrow_get _ _ _ hi
theorem Rm.addR {x:RR} (h:Rm g Q M K w1 w ks rs n (DR [x])) (hx:okT x) {w2 w3:World} {i:Nat} (hi:i<3) (hb:Below w.heap.size w w2)
 {A2:Option Addr} {c2:Nat} (hg:Gr w2 w3 (.slice (rs i).A (rs i).l.length (rs i).c) (.slice A2 ((rs i).l.length+1) c2)) (hO:OwM w3 (K+1) 42 9 (.slice A2 ((rs i).l.length+1) c2) ((rs i).l.length+1) (rcs (rs i).l++x.cells)) :
 Rm g Q M K w1 (w3.setCell ⟨M,3+i,none⟩ (.slice A2 ((rs i).l.length+1) c2)) ks (updF rs i ⟨A2,c2,(rs i).l++[x]⟩) (n+1) (fun _=>False):=by
 have hlo:=h.lt
 have h1:=h.far hb
 have hv:∀ q,(Value.slice (rs i).A (rs i).l.length (rs i).c).ownBlock=some q→K+1≤q:=OwM.lt (h.okR i hi)
 have hbl2:Below (K+1) w2 w3:=hg.below hv h1.lt.2.2.1
 have hF2:=h1.fam.app i hi (rwRf A2 c2 ((rs i).l++[x])) (by
  show Gr w2 w3 (.slice (rs i).A (rs i).l.length (rs i).c) (.slice A2 ((rs i).l++[x]).length c2)
  rw [List.length_append];exact hg) (by
  unfold Ob.ok rwRf
  simp only
  rw [List.length_append,rcs_snoc]
  exact hO)
 refine ⟨?_,?_,?_,?_,fun j=>?_,fun j=>?_,hlo.1,hlo.2.1,?_,hlo.2.2.2⟩
 ·exact (h1.b1.trans (hbl2.mono (by omega))).setCell (by show w1.heap.size≤M;omega) _
 ·have:=(h1.vm.below hbl2 (by omega)).set_ (3+i) (.slice A2 ((rs i).l.length+1) c2)
  have e:=mrow_set Q rs i hi ⟨A2,c2,(rs i).l++[x]⟩
  unfold RW.v at e
  simp only [List.length_append,List.length_cons,List.length_nil,Nat.zero_add] at e
  rw [←e]
  exact this
 ·exact (h1.vk.below hbl2 (by omega)).setO (by omega) _ _
 ·refine (hF2.setM (by omega) (3+i) _).mono (fun j hj=>?_) (fun o ho=>?_)
  ·unfold rows
   by_cases e:j=i
   ·subst e;rw [updF_same,updF_same]
   ·rw [updF_ne _ _ e,updF_ne _ _ e]
  ·rcases ho with ho | ho | ho | ho | ⟨j,hj,ho⟩
   ·exact ho.elim
   ·exact .inr (.inl ho)
   ·exact .inr (.inr (.inl ho))
   ·exact .inr (.inr (.inr (.inl ho)))
   ·by_cases e:j=i
    ·subst e
     rw [updF_same] at ho
     obtain ⟨y,hy,e⟩:=ho
     rcases List.mem_append.1 hy with hy | hy
     ·exact .inr (.inr (.inr (.inr ⟨j,hj,y,hy,e⟩)))
     ·exact .inl ⟨y,hy,e⟩
    ·rw [updF_ne _ _ e] at ho
     exact .inr (.inr (.inr (.inr ⟨j,hj,ho⟩)))
 ·by_cases e:j=i
  ·subst e;rw [updF_same];simp;exact h.lr j
  ·rw [updF_ne _ _ e];exact Nat.le_succ_of_le (h.lr j)
 ·by_cases e:j=i
  ·subst e;rw [updF_same]
   intro y hy
   rcases List.mem_append.1 hy with hy | hy
   ·exact h.ok j y hy
   ·rw [List.mem_singleton] at hy;subst hy;exact hx
  ·rw [updF_ne _ _ e];exact h.ok j
 ·show K<(w3.setCell _ _).heap.size
  have:=hg.1.size
  have:=h1.lt.2.2.1
  simp;omega
end
theorem Rm.withE {g Q M K n:Nat} {w1 w w':World} {ks:List Value} {rs:Nat→RW} {E:Ob→Prop} (h:Rm g Q M K w1 w ks rs n E) (hb:Below w.heap.size w w') (x:RR)
 (h1:DD g Q rs (nmO x.A x.c x.r.q.nm)∨(nmO x.A x.c x.r.q.nm).ok w' w.heap.size) (h2:DD g Q rs (daO x.dA x.dc x.r.d)) (h3:DD g Q rs (nmO x.tA x.tc x.r.tg)) :
 Rm g Q M K w1 w' ks rs n (DR [x]):=by
 have h0:=h.far hb
 have hM:=h.lt
 refine ⟨h0.b1,h0.vm,h0.vk,h0.fam.more (fun o ho=>?_),h0.lr,h0.ok,h0.lt⟩
 rcases ho with ⟨y,hy,ho⟩ | ho
 ·rw [List.mem_singleton] at hy
  subst hy
  rcases ho with rfl | rfl | rfl
  ·exact h1.elim (fun a=>.inl (.inr a)) (fun a=>.inr (Fm.fresh h.fam a (by omega) (by have:=h.b1.size;omega)))
  ·exact .inl (.inr h2)
  ·exact .inl (.inr h3)
 ·exact .inl (.inr ho)
theorem okT_rd {w:World} {b:Nat} {l:List RR} (h:∀ o,DR l o→o.ok w b) (hk:∀ x∈l,okT x):∀ x∈l,RRd w w.heap.size x:=by
 intro x hx
 obtain ⟨k1,k2,k3,k4,k5,k6,k7,k8,k9⟩:=hk x hx
 exact ⟨⟨nmO_rd (h _ ⟨x,hx,.inl rfl⟩) (Nat.le_trans k1 (by decide)),k4,k5⟩,daO_rd (h _ ⟨x,hx,.inr (.inl rfl)⟩) (Nat.le_trans k2 (by decide)),nmO_rd (h _ ⟨x,hx,.inr (.inr rfl)⟩) (Nat.le_trans k3 (by decide)),k6,k7,k8,k9⟩
def mr (g Q:Nat) (rs:Nat→RW):MR:=⟨258,33024,some ⟨Q,0,none⟩,1,[qq g],(rs 0).A,(rs 0).c,(rs 0).l,(rs 1).A,(rs 1).c,(rs 1).l,(rs 2).A,(rs 2).c,(rs 2).l⟩
theorem Rm.mrd {g Q M K n:Nat} {w1 w:World} {ks:List Value} {rs:Nat→RW} {E:Ob→Prop} (h:Rm g Q M K w1 w ks rs n E) (hn:n≤1000):MRd w w.heap.size (mr g Q rs):=by
 have hR:∀ i,i<3→RsRd w w.heap.size (rs i).A (rs i).c (rs i).l.length (rs i).l:=fun i hi=>by
  have h1:=h.okR i hi
  have:=h.lr i
  exact ⟨h1.rd,rfl,h1.cap,by omega,okT_rd (fun o ho=>h.fam.dn o (.inr (.inr (.inr (.inr ⟨i,hi,ho⟩))))) (h.ok i)⟩
 refine ⟨by show 258<65536;omega,by show 33024<65536;omega,?_,hR 0 (by omega),hR 1 (by omega),hR 2 (by omega)⟩
 have h1:OwM w g 40 3 (.slice (some ⟨Q,0,none⟩) 1 1) 1 (qcs [qq g]):=h.fam.dn _ (.inr (.inl rfl))
 refine ⟨h1.rd,rfl,Nat.le_refl _,by show 1≤1000000000000;omega,fun x hx=>?_⟩
 rw [List.mem_singleton.1 hx]
 exact ⟨nmO_rd (h.fam.dn _ (.inr (.inr (.inl ⟨qq g,List.mem_singleton.2 rfl,rfl⟩)))) (by show sizeN nmQ≤_;decide),by show 33<65536;omega,by show 1<65536;omega⟩
theorem rm_start (g:Nat) (w:World) (L:Lit g w) (k0 k1 k2:Value) :
 ∃ W,W=(((w.alloc (.cells #[.slice (some ⟨g,0,none⟩) 2 2,.int .u16 33,.int .u16 1] 40)).alloc (.cells #[.int .u16 258,.int .u16 33024,.slice (some ⟨w.heap.size,0,none⟩) 1 1,.slice none 0 0,.slice none 0 0,.slice none 0 0] 47)).alloc (.cells #[k0,k1,k2] 3))∧Rm g w.heap.size (w.heap.size+1) (w.heap.size+1+1) w W [k0,k1,k2] nilR 0 (fun _=>False):=by
 refine ⟨_,rfl,?_⟩
 obtain ⟨w1,h1⟩:∃ x,x=w.alloc (.cells #[.slice (some ⟨g,0,none⟩) 2 2,.int .u16 33,.int .u16 1] 40):=⟨_,rfl⟩
 have s1:w1.heap.size=w.heap.size+1:=by rw [h1];simp
 have q1:=OwM.lit w 40 3 (qcs [qq g]) 1 rfl (by decide)
 rw [show w.alloc (.cells (qcs [qq g]).toArray 40)=w1 from h1.symm] at q1
 have b1:Below w.heap.size w w1:=by rw [h1];exact bl_new _ _
 rw [←h1]
 obtain ⟨w2,h2⟩:∃ x,x=w1.alloc (.cells #[.int .u16 258,.int .u16 33024,.slice (some ⟨w.heap.size,0,none⟩) 1 1,.slice none 0 0,.slice none 0 0,.slice none 0 0] 47):=⟨_,rfl⟩
 have s2:w2.heap.size=w.heap.size+2:=by rw [h2];simp;omega
 have v2:=Vx.new w1 47 (mrow w.heap.size nilR)
 rw [s1,show w1.alloc (.cells (mrow w.heap.size nilR).toArray 47)=w2 from h2.symm] at v2
 have b2:Below w1.heap.size w1 w2:=by rw [h2];exact bl_new _ _
 rw [←h2]
 obtain ⟨w3,h3⟩:∃ x,x=w2.alloc (.cells #[k0,k1,k2] 3):=⟨_,rfl⟩
 have s3:w3.heap.size=w.heap.size+3:=by rw [h3];simp;omega
 have v3:=Vx.new w2 3 [k0,k1,k2]
 rw [s2,show w2.alloc (.cells [k0,k1,k2].toArray 3)=w3 from h3.symm] at v3
 have b3:Below w2.heap.size w2 w3:=by rw [h3];exact bl_new _ _
 rw [←h3]
 have c2:Below w1.heap.size w1 w3:=b2.trans (b3.mono b2.size)
 have c1:Below w.heap.size w w3:=b1.trans (c2.mono b1.size)
 have L3:=L.far c1
 have hsz:=L.sz
 refine ⟨c1,v2.below b3 v2.lt,v3,⟨fun i _=>OwM.nil _ _ _ _,fun o ho=>?_,fun o ho=>?_,fun i j _ _ _ q hq=>?_,fun i _ o ho q hq=>?_⟩,fun _=>Nat.le_refl _,fun i x hx=>(by cases hx),by omega,by omega,by omega,hsz⟩
 ·rcases ho with ho | rfl | ⟨x,hx,rfl⟩ | ho | ⟨i,_,x,hx,_⟩
  ·exact ho.elim
  ·exact OwM.mono (q1.far c2) (by omega)
  ·rw [List.mem_singleton] at hx;subst hx
   exact L3.nm
  ·exact L3.ob o ho
  ·cases hx
 ·rcases ho with ho | rfl | ⟨x,hx,rfl⟩ | ho | ⟨i,_,x,hx,_⟩
  ·exact ho.elim
  ·simp [rwQf,Value.ownBlock]
  ·rw [List.mem_singleton] at hx;subst hx
   simp [nmO,Value.ownBlock,qq];omega
  ·intro e
   have:=OwM.block_lt (L.ob o ho) _ e
   omega
  ·cases hx
 ·simp [rows,rwRf,nilR,Value.ownBlock] at hq
 ·simp [rows,rwRf,nilR,Value.ownBlock] at hq
theorem write_len (m:Ms):(writeM m).1.length≤4096:=by
 unfold writeM
 split
 ·simp
 ·split
  ·simp
  ·split
   ·simp
   ·simp only;omega
end Sm
end Go.Proofs.YtlipmlbijddopaaGreatDoor
set_option linter.unusedVariables false
set_option linter.unusedSimpArgs false
namespace Go.Proofs.YtlipmlbijddopaaGreatDoor
open Go.RowKit
namespace Sm
def B13:List UInt8:=[0,1,2,3,15,33,128,130,131,65,46,45,255]
def S10:List (List UInt8):=[[],[46],[97],[95,97,46,95,116,99,112,46,98],[65,46,66],[97,46,46,98],[97,46],[92,46],[92,48,48,48],[32]]
theorem S10_len:∀ s∈S10,s.length≤9:=by decide
theorem bc_set (l:List UInt8) (i:Nat) (c:UInt8):(bc l).set i (.int .u8 (c.toNat:Int))=bc (l.set i c):=by
 unfold bc
 rw [List.map_set]
theorem own0 {w:World} {base n c:Nat} {e:TypeId} {A:Option Addr} {xs:List Value} (h:Ow w base e (.slice A n c) xs) (hn:0<n):∃ g,A=some ⟨g,0,none⟩∧base≤g:=by
 rcases h.2 with ⟨h1,_⟩ | ⟨g,cap,cur,h1,h2,_⟩
 ·injection h1 with h1 h2 h3;omega
 ·injection h1 with h1 _ _
  exact ⟨g,h1,h2⟩
theorem three (V:World) (A1 A3:Option Addr) (c1 i M C xn:Nat) (x:UInt8) (q1 q2:List UInt8) (h1:Rd V V.heap.size A1 i (bc q1)) (hx:xn=x.toNat) (h3:Rd V V.heap.size A3 M (bc q2)) :
 RsB ((V.alloc (.cells #[.int .u8 (xn:Int)] 5)).alloc (.cells #[.slice A1 i c1,.slice (some ⟨V.heap.size,0,none⟩) 1 1,.slice A3 M C] 22)) ((V.alloc (.cells #[.int .u8 (xn:Int)] 5)).alloc (.cells #[.slice A1 i c1,.slice (some ⟨V.heap.size,0,none⟩) 1 1,.slice A3 M C] 22)).heap.size (some ⟨V.heap.size+1,0,none⟩) 3 [⟨A1,c1,q1⟩,⟨some ⟨V.heap.size,0,none⟩,1,[x]⟩,⟨A3,C,q2⟩]:=by
 have e1:q1.length=i:=by have:=h1.1;rwa [bc_length] at this
 have e3:q2.length=M:=by have:=h3.1;rwa [bc_length] at this
 subst e1 e3 hx
 have hb1:=bl_new V (.cells #[.int .u8 (x.toNat:Int)] 5)
 have hb2:=bl_new (V.alloc (.cells #[.int .u8 (x.toNat:Int)] 5)) (.cells #[.slice A1 q1.length c1,.slice (some ⟨V.heap.size,0,none⟩) 1 1,.slice A3 q2.length C] 22)
 have hs:(V.alloc (.cells #[.int .u8 (x.toNat:Int)] 5)).heap.size=V.heap.size+1:=by simp
 have r2:=(Rd.lit_top0 V 5 (bc [x]) 1 rfl)
 have r3:=(Rd.lit_top0 (V.alloc (.cells #[.int .u8 (x.toNat:Int)] 5)) 22 [.slice A1 q1.length c1,.slice (some ⟨V.heap.size,0,none⟩) 1 1,.slice A3 q2.length C] 3 rfl)
 rw [hs] at r3
 refine ⟨?_,rfl,fun r hr=>?_⟩
 ·exact r3.more (by simp)
 ·simp only [List.mem_cons,List.not_mem_nil,or_false] at hr
  rcases hr with rfl | rfl | rfl
  ·exact (h1.goes hb1).goes hb2
  ·exact (r2.more (by simp)).goes hb2
  ·exact (h3.goes hb1).goes hb2
def W8:List Int:=[-9223372036854775808,-1,0,1,2,65535,65536,9223372036854775807]
theorem W8_ok:∀ x∈W8,-9223372036854775808≤x∧x≤9223372036854775807:=by decide
def N11:List Nat:=[0,1,2,3,4,65534,65535,65536,65537,131071,4294967295]
theorem N11_ok:∀ x∈N11,x<4294967296:=by decide
def uc (l:List Nat):List Value:=l.map fun x:Nat=>Value.int .u32 (x:Int)
theorem uc_get (l:List Nat) (k:Nat) (h:k<l.length):(uc l)[k]? = some (.int .u32 (l[k]:Int)):=by simp [uc,h]
def zc (l:List Int):List Value:=l.map fun x=>.int .i64 x
theorem zc_get (l:List Int) (k:Nat) (h:k<l.length):(zc l)[k]? = some (.int .i64 l[k]):=by simp [zc,h]
theorem run_sl5 {P:Program} (W:World) (t e:TypeId) (s:Nat) (ht:P.underlying t=some (.slice e)) (hz:∀ w,(Go.sizeOf e).run P w = .ok s w) (A:Option Addr) (n cap:Nat) (h:Nat) (h2:h≤cap):(Instr.slice t (.slice A n cap) none (some (.int .i64 (h:Int))) none).run P W = .ok (.slice A h cap) W:=by
 have ht':P.underlying t=some (.slice (P.elem t)):=by simp [Program.elem,ht]
 have he:P.elem t=e:=by simp [Program.elem,ht]
 rw [run_slice_h W t _ _ _ ht' .i64 _ (by omega) (by omega),he,hz]
 have:=cutA_zero A cap
 unfold cutA at this
 simp [Result.andThen,sliced,this]
theorem cell_al {w:World} {g:Nat} (h:g<w.heap.size) (ob:Obj) (i:Nat):(w.alloc ob).cell? ⟨g,i,none⟩=w.cell? ⟨g,i,none⟩:=(bl_new w ob).cell (p:=⟨g,i,none⟩) h
theorem keep_al {w0 W:World} (h:Below w0.heap.size w0 W) (o:Obj):Below w0.heap.size w0 (W.alloc o):=h.alloc h.size o
end Sm
set_option maxRecDepth 100000 in
set_option maxHeartbeats 4000000 in
theorem srvSmall_any (w:World) (henv:EnvT w) :
 Calls Tryz.prog 6 #[] w fun e w'=>e = .returned (.bool true)∧Below w.heap.size w w':=by
 obtain ⟨j0,hj',hy0,hy1,hy2⟩:=info_parts Tryz.infoRf
 obtain ⟨Q,hQ⟩:∃ Q,Q=formM (Srv.askM 258 SX.nm):=⟨_,rfl⟩
 obtain ⟨R,hR⟩:∃ R,R=formM (SX.M 258 32768 80):=⟨_,rfl⟩
 have KE:=Lib.hid (sexample_at 258 32768 80 w (by omega) (by omega) (by omega))
 rw [←hQ,←hR] at KE
 have hQl:Q.length≤4096:=by rw [hQ];exact (ask_fine (by omega) (by kernel_rfl)).len
 have hRl:R.length≤4096:=by rw [hR];exact (SX.fine (by omega) (by omega) (by omega)).len
 obtain ⟨LQ,hLQ⟩:∃ L,L=Q.length:=⟨_,rfl⟩
 obtain ⟨LR,hLR⟩:∃ L,L=R.length:=⟨_,rfl⟩
 rw [←hLQ] at hQl
 rw [←hLR] at hRl
 have HLQ:=Lib.hid hLQ.symm
 have HLR:=Lib.hid hLR.symm
 have HENV:=Lib.hid henv
 clear hQ hR hLQ hLR henv
 go_enter Tryz.func6,Tryz.ntmps6
 go_wp2_with (go_at_call 19;(
  refine KE.out.mono ?_
  rintro e w1 ⟨vq,vr,rfl,ho1,ho2,hb1⟩
  obtain ⟨A1,c1,rfl,hc1,hr1⟩:=Ow.form7 ho1 LQ (by rw [bc_length,HLQ.out])
  obtain ⟨A2,c2,rfl,hc2,hr2⟩:=Ow.form7 ho2 LR (by rw [bc_length,HLR.out])
  have HR1:=Lib.hid hr1
  have HR2:=Lib.hid hr2
  have HB1:=Lib.hid hb1
  clear ho1 ho2 hb1 hr1 hr2))
 go_loopw [29] (fun vk wr=>∃ i:Nat,i≤LR∧vk = .int .i64 i∧Hid (Below w1.heap.size w1 wr)) (fun vk _=>LR - (intOf vk).toNat)
 case atStart=>exact ⟨0,Nat.zero_le _,rfl,Lib.hid (Below.refl _ _)⟩
 case round=>
  obtain ⟨i,hi,rfl,HB⟩:=hrel
  obtain ⟨W0,hW0⟩:∃ x,x=wr:=⟨wr,rfl⟩
  subst hW0
  rcases Nat.lt_or_ge i LR with hlt | hge
  ·have hv:=Vx.new W0 5 (bc Sm.B13)
   have hbn:=bl_new W0 (.cells (bc Sm.B13).toArray 5)
   have hlit:(Obj.cells (bc Sm.B13).toArray 5) = .cells #[.int .u8 0,.int .u8 1,.int .u8 2,.int .u8 3,.int .u8 15,.int .u8 33,.int .u8 128,.int .u8 130,.int .u8 131,.int .u8 65,.int .u8 46,.int .u8 45,.int .u8 255] 5:=rfl
   rw [hlit] at hv hbn
   have HV:=Lib.hid hv
   have HBN:=Lib.hid hbn
   clear hv hbn hlit
   go_wp2_with fail
   obtain ⟨gl,hgl⟩:∃ x,x=W0.heap.size:=⟨_,rfl⟩
   rw [←hgl] at HV ⊢
   clear hgl
   generalize W0.alloc (.cells #[.int .u8 0,.int .u8 1,.int .u8 2,.int .u8 3,.int .u8 15,.int .u8 33,.int .u8 128,.int .u8 130,.int .u8 131,.int .u8 65,.int .u8 46,.int .u8 45,.int .u8 255] 5)=W2 at HV HBN ⊢
   have HB2:=Lib.hid (HB.out.trans (HBN.out.mono HB.out.size))
   go_loopw [34] (fun vk wr=>∃ j:Nat,j≤13∧vk = .int .i64 j∧Hid (Below W2.heap.size W2 wr)) (fun vk _=>13 - (intOf vk).toNat)
   case atStart=>exact ⟨0,Nat.zero_le _,rfl,Lib.hid (Below.refl _ _)⟩
   case round=>
    obtain ⟨j,hj,rfl,HJ⟩:=hrel
    rcases Nat.lt_or_ge j 13 with hltj | hgej
    ·have hcj:=(HV.out.below HJ.out HV.out.lt).cell j
     rw [bc_get Sm.B13 j hltj] at hcj
     obtain ⟨x,hx⟩:∃ x:UInt8,x=Sm.B13[j]'hltj:=⟨_,rfl⟩
     rw [←hx] at hcj
     obtain ⟨xn,hxn⟩:∃ n,n=x.toNat:=⟨_,rfl⟩
     have hx256:xn<256:=by rw [hxn];exact x.toNat_lt
     rw [←hxn] at hcj
     have HXN:=Lib.hid hxn
     have HBj:=Lib.hid (HB2.out.trans (HJ.out.mono HB2.out.size))
     clear hx hxn
     go_upto_region 9 with (go_at_call 20;(
      refine (bclone_at A2 c2 LR R wr wr.heap.size HLR.out (Nat.le_refl _) (HR2.out.goes HBj.out) (by omega)).mono ?_
      rintro e w6 ⟨v6,rfl,ho6,hb6⟩
      obtain ⟨A6,c6,rfl,hc6,hr6⟩:=Ow.form7 ho6 LR (by rw [bc_length,HLR.out])
      have HO6:=Lib.hid ho6
      have HB6:=Lib.hid hb6
      clear ho6 hb6 hr6))
     obtain ⟨g6,hg6,hg6l⟩:=Sm.own0 HO6.out (by omega)
     subst hg6
     have hc6':=HO6.out.cell_at i hlt
     have hf6:=HO6.out.frozen_at i
     rw [bc_get R i (by rw [HLR.out];exact hlt)] at hc6'
     have ho7:=HO6.out.set_at i (.int .u8 (xn:Int))
     rw [HXN.out,Sm.bc_set] at ho7
     have hb7:=HB6.out.setCell (p:=⟨g6,i,none⟩) hg6l (.int .u8 (xn:Int))
     have hr7:=Ow.form7 ho7 LR (by rw [bc_length,List.length_set,HLR.out])
     obtain ⟨A7,c7,e7,_,hr7⟩:=hr7
     cases e7
     rw [←HXN.out] at hr7
     go_upto_region 10 with fail
     generalize w6.setCell ⟨g6,i,none⟩ (.int .u8 (xn:Int))=w7 at hr7 hb7 ⊢
     have HQ7:=Lib.hid ((HR1.out.goes HBj.out).goes hb7)
     have HY7:=Lib.hid ((HR2.out.goes HBj.out).goes hb7)
     have HR7:=Lib.hid hr7
     have HB7:=Lib.hid (HBj.out.trans (hb7.mono HBj.out.size))
     have HJ7:=Lib.hid (HJ.out.trans (hb7.mono HJ.out.size))
     clear hc6' hf6 ho7 hb7 hr7 HO6 HB6 hg6l hcj
     have KT1:=Lib.hid (fun (V:World) (hV:Below w7.heap.size w7 V)=>takes_at A1 (some ⟨g6,0,none⟩) c1 c6 LQ LR Q (R.set i x) V HLQ.out (by rw [List.length_set,HLR.out]) (HQ7.out.goes hV) (HR7.out.goes hV) hc1 hc6 (by omega) (by omega))
     have hS0:Below w7.heap.size w7 w7.drew:=(Below.refl _ _).drew
     have hS1:Below w7.heap.size w7 w7:=Below.refl _ _
     by_cases hiq:i<LQ
     ·have hiB:decide ((i:Int)<(LQ:Int))=true:=by simp only [decide_eq_true_eq];omega
      obtain ⟨M,hM⟩:∃ M,M=LQ - (i+1):=⟨_,rfl⟩
      obtain ⟨C,hC⟩:∃ C,C=c1 - (i+1):=⟨_,rfl⟩
      obtain ⟨A3,hA3⟩:∃ A,A=cutA A1 c1 (i+1):=⟨_,rfl⟩
      have ks1:∀ V,(Instr.slice 22 (.slice A1 LQ c1) none (some (.int .i64 (i:Int))) none).run Tryz.prog V = .ok (.slice A1 i c1) V:=fun V=>run_sl_h (P:=Tryz.prog) V 22 5 Tryz.underlying22 (fun w=>by kernel_rfl) A1 LQ c1 i (by omega)
      have ks2:∀ V,(Instr.slice 22 (.slice A1 LQ c1) (some (.int .i64 ((i:Int)+1))) none none).run Tryz.prog V = .ok (.slice A3 M C) V:=fun V=>by
       have k:=run_sl_l (P:=Tryz.prog) V 22 5 Tryz.underlying22 (fun w=>by kernel_rfl) A1 LQ c1 (i+1) (by omega)
       rw [←hM,←hC,←hA3] at k
       exact k
      have hwr:IntKind.i64.wrap ((i:Int)+1)=(i:Int)+1:=by rw [IntKind.wrap_i64];omega
      have hwb1:(0:Int)≤(i:Int)+1:=by omega
      have hwb2:(i:Int)+1≤(LQ:Int):=by omega
      have hq1:Rd w7 w7.heap.size A1 i (bc (Q.take i)):=by
       have k:=HQ7.out.cut (k:=0) (m:=i) (cap:=c1) (by omega) (by omega) hc1
       rw [cutA_zero,List.drop_zero,Nat.sub_zero] at k
       unfold bc at k ⊢
       rw [List.map_take];exact k
      have hq2:Rd w7 w7.heap.size A3 M (bc (Q.drop (i+1))):=by
       have k:=HQ7.out.cut (k:=i+1) (m:=LQ) (cap:=c1) (by omega) (by omega) hc1
       rw [←hM,←hA3,List.take_of_length_le (by rw [List.length_drop,bc_length,HLQ.out];omega)] at k
       unfold bc at k ⊢
       rw [List.map_drop];exact k
      have hfl:flatB [⟨A1,c1,Q.take i⟩,⟨none,1,[x]⟩,⟨A3,C,Q.drop (i+1)⟩]=Q.take i++([x]++Q.drop (i+1)):=by simp [flatB]
      have hll:(Q.take i++([x]++Q.drop (i+1))).length=LQ:=by
       rw [List.length_append,List.length_append,List.length_take,List.length_drop,HLQ.out];simp;omega
      have HQ1:=Lib.hid hq1
      have HQ2:=Lib.hid hq2
      have HLL:=Lib.hid hll
      have KC:=Lib.hid (fun (V:World) (hV:Below w7.heap.size w7 V)=>by
       have k:=bconcat_at (some ⟨V.heap.size+1,0,none⟩) 3 3 [⟨A1,c1,Q.take i⟩,⟨some ⟨V.heap.size,0,none⟩,1,[x]⟩,⟨A3,C,Q.drop (i+1)⟩] _ (Sm.three V A1 A3 c1 i M C xn x (Q.take i) (Q.drop (i+1)) (HQ1.out.goes hV) HXN.out (HQ2.out.goes hV)) (by simp only [flatB,List.flatMap_cons,List.flatMap_nil,List.append_nil];rw [HLL.out];omega) (by omega)
       simp only [flatB,List.flatMap_cons,List.flatMap_nil,List.append_nil] at k
       exact k)
      have KT2:=Lib.hid (fun (V:World) (A9:Option Addr) (c9:Nat) (hV:Below w7.heap.size w7 V) (h:Rd V V.heap.size A9 LQ (bc (Q.take i++([x]++Q.drop (i+1))))) (hc:LQ≤c9)=>takes_at A9 A2 c9 c2 LQ LR (Q.take i++([x]++Q.drop (i+1))) R V HLL.out HLR.out h (HY7.out.goes hV) hc hc2 (by omega) (by omega))
      clear hM hC hA3 hq1 hq2 hfl hll
      go_region_held3 (fun W=>Below w7.heap.size w7 W) ((first | assumption | (refine Sm.keep_al ?_ _;assumption) | (refine Sm.keep_ald ?_ _;assumption) | (refine Below.drew ?_;assumption))) (first
       | (go_at_call 13
          refine (KT2.out w9 A9 c9 hS9 HR9.out hc9).mono ?_
          rintro e w10 ⟨rfl,hb10⟩
          have hS10:Below w7.heap.size w7 w10:=hS9.trans (hb10.mono hS9.size))
       | (go_at_call 21
          refine (KC.out w8 hS8).mono ?_
          rintro e w9 ⟨v9,rfl,ho9,hb9⟩
          have hS9:Below w7.heap.size w7 w9:=(Sm.keep_al (Sm.keep_al hS8 _) _).trans (hb9.mono (Sm.keep_al (Sm.keep_al hS8 _) _).size)
          obtain ⟨A9,c9,rfl,hc9,_,hr9⟩:=ho9.form
          rw [HLL.out] at hc9 hr9 ⊢
          have HR9:=Lib.hid (show Rd w9 w9.heap.size A9 LQ _ from by rw [Nat.mul_one] at hr9;exact hr9))
       | (go_at_call 13
          refine (KT1.out _ (by assumption)).mono ?_
          rintro e w8 ⟨rfl,hb8⟩
          have hS8:Below w7.heap.size w7 w8:=Below.trans (by assumption) (hb8.mono (Below.size (by assumption)))))
      have HS10:=Lib.hid hS10
      go_wp2_with fail
      go_roundw
      case rel=>exact ⟨j+1,by omega,by go_num,Lib.hid (HJ7.out.trans (HS10.out.mono HJ7.out.size))⟩
      case measure=>simp [intOf];omega
     ·have hiB:decide ((i:Int)<(LQ:Int))=false:=by simp only [decide_eq_false_iff_not];omega
      refine wp_region_held_drew (S:=fun W=>Below w7.heap.size w7 W) (by kernel_rfl) hS0 (fun hH=>?_)
      refine reg_take 0 (v:=?_) rfl (by kernel_rfl) (fun _ _ _ h=>h) (by rfl) hH ?_ ?_
      rotate_left
      ·intro w hSw;(try dsimp only at hSw);go_simp;(try with_reducible rfl)
      (try simp only [Act.put,List.setIfInBounds_toArray,List.set_cons_zero,List.set_cons_succ])
      refine reg_take 1 (v:=?_) rfl (by kernel_rfl) (fun _ _ _ h=>h) (by rfl) hH ?_ ?_
      rotate_left
      ·intro w hSw;(try dsimp only at hSw);go_simp;(try with_reducible rfl)
      (try simp only [Act.put,List.setIfInBounds_toArray,List.set_cons_zero,List.set_cons_succ])
      refine wpAnyH_ready (rs:=[2]) (by kernel_rfl) (by simp) ?_
      refine reg_cons 2 rfl (fun K' hK=>?_) AllReadyH.nil
      go_simp
      go_at_call 13
      refine (KT1.out _ hS0).mono ?_
      rintro e w8 ⟨rfl,hb8⟩
      have hS8:Below w7.heap.size w7 w8:=hS0.trans (hb8.mono hS0.size)
      (try dsimp only)
      clear hH
      refine hK.out _ _ hS8 (fun hH=>?_)
      (try simp only [Act.put,List.setIfInBounds_toArray,List.set_cons_zero,List.set_cons_succ])
      clear hK
      refine reg_take 3 (v:=?_) rfl (by kernel_rfl) (fun _ _ _ h=>h) (by rfl) hH ?_ ?_
      rotate_left
      ·intro w hSw;(try dsimp only at hSw);go_simp;(try with_reducible rfl)
      (try simp only [Act.put,List.setIfInBounds_toArray,List.set_cons_zero,List.set_cons_succ])
      refine reg_take 4 (v:=?_) rfl (by kernel_rfl) (fun _ _ _ h=>h) (by rfl) hH ?_ ?_
      rotate_left
      ·intro w hSw;(try dsimp only at hSw);go_simp;(try with_reducible rfl)
      (try simp only [Act.put,List.setIfInBounds_toArray,List.set_cons_zero,List.set_cons_succ])
      refine reg_take 5 (v:=?_) rfl (by kernel_rfl) (fun _ _ _ h=>h) (by rfl) hH ?_ ?_
      rotate_left
      ·intro w hSw;(try dsimp only at hSw);go_simp;(try with_reducible rfl)
      (try simp only [Act.put,List.setIfInBounds_toArray,List.set_cons_zero,List.set_cons_succ])
      refine reg_take 6 (v:=?_) rfl (by kernel_rfl) (fun _ _ _ h=>h) (by rfl) hH ?_ ?_
      rotate_left
      ·intro w hSw;(try dsimp only at hSw);go_simp;(try with_reducible rfl)
      (try simp only [Act.put,List.setIfInBounds_toArray,List.set_cons_zero,List.set_cons_succ])
      refine reg_take 7 (v:=?_) rfl (by kernel_rfl) (fun _ _ _ h=>h) (by rfl) hH ?_ ?_
      rotate_left
      ·intro w hSw;(try dsimp only at hSw);go_simp;(try with_reducible rfl)
      (try simp only [Act.put,List.setIfInBounds_toArray,List.set_cons_zero,List.set_cons_succ])
      refine reg_take 8 (v:=?_) rfl (by kernel_rfl) (fun _ _ _ h=>h) (by rfl) hH ?_ ?_
      rotate_left
      ·intro w hSw;(try dsimp only at hSw);go_simp;(try with_reducible rfl)
      (try simp only [Act.put,List.setIfInBounds_toArray,List.set_cons_zero,List.set_cons_succ])
      refine reg_take 9 (v:=?_) rfl (by kernel_rfl) (fun _ _ _ h=>h) (by rfl) hH ?_ ?_
      rotate_left
      ·intro w hSw;(try dsimp only at hSw);go_simp;(try with_reducible rfl)
      (try simp only [Act.put,List.setIfInBounds_toArray,List.set_cons_zero,List.set_cons_succ])
      refine reg_skip 10 rfl (by kernel_rfl) (fun _ _ _ h=>h) (by rfl) hH ?_
      (try simp only [Act.put,List.setIfInBounds_toArray,List.set_cons_zero,List.set_cons_succ])
      refine reg_skip 11 rfl (by kernel_rfl) (fun _ _ _ h=>h) (by rfl) hH ?_
      (try simp only [Act.put,List.setIfInBounds_toArray,List.set_cons_zero,List.set_cons_succ])
      refine reg_skip 12 rfl (by kernel_rfl) (fun _ _ _ h=>h) (by rfl) hH ?_
      (try simp only [Act.put,List.setIfInBounds_toArray,List.set_cons_zero,List.set_cons_succ])
      refine reg_skip 13 rfl (by kernel_rfl) (fun _ _ _ h=>h) (by rfl) hH ?_
      (try simp only [Act.put,List.setIfInBounds_toArray,List.set_cons_zero,List.set_cons_succ])
      refine reg_skip 14 rfl (by kernel_rfl) (fun _ _ _ h=>h) (by rfl) hH ?_
      (try simp only [Act.put,List.setIfInBounds_toArray,List.set_cons_zero,List.set_cons_succ])
      refine reg_skip 15 rfl (by kernel_rfl) (fun _ _ _ h=>h) (by rfl) hH ?_
      (try simp only [Act.put,List.setIfInBounds_toArray,List.set_cons_zero,List.set_cons_succ])
      refine reg_skip 16 rfl (by kernel_rfl) (fun _ _ _ h=>h) (by rfl) hH ?_
      (try simp only [Act.put,List.setIfInBounds_toArray,List.set_cons_zero,List.set_cons_succ])
      refine reg_skip 17 rfl (by kernel_rfl) (fun _ _ _ h=>h) (by rfl) hH ?_
      (try simp only [Act.put,List.setIfInBounds_toArray,List.set_cons_zero,List.set_cons_succ])
      refine reg_skip 18 rfl (by kernel_rfl) (fun _ _ _ h=>h) (by rfl) hH ?_
      (try simp only [Act.put,List.setIfInBounds_toArray,List.set_cons_zero,List.set_cons_succ])
      refine reg_skip 19 rfl (by kernel_rfl) (fun _ _ _ h=>h) (by rfl) hH ?_
      (try simp only [Act.put,List.setIfInBounds_toArray,List.set_cons_zero,List.set_cons_succ])
      refine reg_skip 20 rfl (by kernel_rfl) (fun _ _ _ h=>h) (by rfl) hH ?_
      (try simp only [Act.put,List.setIfInBounds_toArray,List.set_cons_zero,List.set_cons_succ])
      refine reg_skip 21 rfl (by kernel_rfl) (fun _ _ _ h=>h) (by rfl) hH ?_
      (try simp only [Act.put,List.setIfInBounds_toArray,List.set_cons_zero,List.set_cons_succ])
      refine reg_skip 22 rfl (by kernel_rfl) (fun _ _ _ h=>h) (by rfl) hH ?_
      (try simp only [Act.put,List.setIfInBounds_toArray,List.set_cons_zero,List.set_cons_succ])
      refine reg_skip 23 rfl (by kernel_rfl) (fun _ _ _ h=>h) (by rfl) hH ?_
      (try simp only [Act.put,List.setIfInBounds_toArray,List.set_cons_zero,List.set_cons_succ])
      refine reg_take 24 (v:=?_) rfl (by kernel_rfl) (fun _ _ _ h=>h) (by rfl) hH ?_ ?_
      rotate_left
      ·intro w hSw;(try dsimp only at hSw);go_simp;(try with_reducible rfl)
      (try simp only [Act.put,List.setIfInBounds_toArray,List.set_cons_zero,List.set_cons_succ])
      refine reg_take 25 (v:=?_) rfl (by kernel_rfl) (fun _ _ _ h=>h) (by rfl) hH ?_ ?_
      rotate_left
      ·intro w hSw;(try dsimp only at hSw);go_simp;(try with_reducible rfl)
      (try simp only [Act.put,List.setIfInBounds_toArray,List.set_cons_zero,List.set_cons_succ])
      refine wpAnyH_done (by kernel_rfl) ?_ _
      clear hH
      have HS8:=Lib.hid hS8
      go_wp2_with fail
      go_roundw
      case rel=>exact ⟨j+1,by omega,by go_num,Lib.hid (HJ7.out.trans (HS8.out.mono HJ7.out.size))⟩
      case measure=>simp [intOf];omega
    ·obtain rfl:13=j:=by omega
     have HBj:=Lib.hid (HB2.out.trans (HJ.out.mono HB2.out.size))
     obtain ⟨W3,hW3⟩:∃ x,x=wr:=⟨wr,rfl⟩
     subst hW3
     obtain ⟨mi,hmi⟩:∃ m,m=min i LQ:=⟨_,rfl⟩
     have hmn:min (i:Int) (LQ:Int)=(mi:Int):=by omega
     have hmi1:mi≤LQ:=by omega
     have ks1:∀ V,(Instr.slice 22 (.slice A2 LR c2) none (some (.int .i64 (i:Int))) none).run Tryz.prog V = .ok (.slice A2 i c2) V:=fun V=>run_sl_h (P:=Tryz.prog) V 22 5 Tryz.underlying22 (fun w=>by kernel_rfl) A2 LR c2 i (by omega)
     have ks2:∀ V,(Instr.slice 22 (.slice A1 LQ c1) none (some (.int .i64 (mi:Int))) none).run Tryz.prog V = .ok (.slice A1 mi c1) V:=fun V=>run_sl_h (P:=Tryz.prog) V 22 5 Tryz.underlying22 (fun w=>by kernel_rfl) A1 LQ c1 mi (by omega)
     have hcut:∀ (V:World) (A:Option Addr) (L c:Nat) (b:List UInt8) (k:Nat),Rd V V.heap.size A L (bc b)→L≤c→k≤L→Rd V V.heap.size A k (bc (b.take k)):=fun V A L c b k h hc hk=>by
      have q:=h.cut (k:=0) (m:=k) (cap:=c) (by omega) hk hc
      rw [cutA_zero,List.drop_zero,Nat.sub_zero] at q
      unfold bc at q ⊢
      rw [List.map_take];exact q
     have HQW:=Lib.hid (HR1.out.goes HBj.out)
     have HYW:=Lib.hid (HR2.out.goes HBj.out)
     have KTa:=Lib.hid (fun (V:World) (hV:Below W3.heap.size W3 V)=>takes_at A1 A2 c1 c2 LQ i Q (R.take i) V HLQ.out (by rw [List.length_take,HLR.out];omega) (HQW.out.goes hV) (hcut V A2 LR c2 R i (HYW.out.goes hV) hc2 (by omega)) hc1 (by omega) (by omega) (by omega))
     have KTb:=Lib.hid (fun (V:World) (hV:Below W3.heap.size W3 V)=>takes_at A1 A2 c1 c2 mi LR (Q.take mi) R V (by rw [List.length_take,HLQ.out];omega) HLR.out (hcut V A1 LQ c1 Q mi (HQW.out.goes hV) hc1 hmi1) (HYW.out.goes hV) (by omega) hc2 (by omega) (by omega))
     have KTc:=Lib.hid (fun (V:World) (hV:Below W3.heap.size W3 V)=>takes_at A2 A2 c2 c2 LR LR R R V HLR.out HLR.out (HYW.out.goes hV) (HYW.out.goes hV) hc2 hc2 (by omega) (by omega))
     have KTd:=Lib.hid (fun (V:World) (hV:Below W3.heap.size W3 V)=>takes_at A1 A1 c1 c1 LQ LQ Q Q V HLQ.out HLQ.out (HQW.out.goes hV) (HQW.out.goes hV) hc1 hc1 (by omega) (by omega))
     clear hcut hmi
     go_wp2_with (first
      | (go_at_call 13;(
         refine (KTd.out x3 HX3.out).mono ?_
         rintro e x4 ⟨rfl,hb4⟩
         have HX4:=Lib.hid (HX3.out.trans (hb4.mono HX3.out.size))
         clear hb4))
      | (go_at_call 13;(
         refine (KTc.out x2 HX2.out).mono ?_
         rintro e x3 ⟨rfl,hb3⟩
         have HX3:=Lib.hid (HX2.out.trans (hb3.mono HX2.out.size))
         clear hb3))
      | (go_at_call 13;(
         refine (KTb.out x1 HX1.out).mono ?_
         rintro e x2 ⟨rfl,hb2⟩
         have HX2:=Lib.hid (HX1.out.trans (hb2.mono HX1.out.size))
         clear hb2))
      | (go_at_call 13;(
         refine (KTa.out W3 (Below.refl _ _)).mono ?_
         rintro e x1 ⟨rfl,hb1'⟩
         have HX1:=Lib.hid hb1'
         clear hb1')))
     go_roundw
     case rel=>exact ⟨i+1,by omega,by go_num,Lib.hid (HB.out.trans ((HBN.out.trans ((HJ.out.trans (HX4.out.mono HJ.out.size)).mono HBN.out.size)).mono HB.out.size))⟩
     case measure=>simp [intOf];omega
  ·have hgeB:decide ((i:Int)<(LR:Int))=false:=by simp only [decide_eq_false_iff_not];omega
   have hgeN:decide (i<LR)=false:=by simp only [decide_eq_false_iff_not];omega
   have HR1e:=Lib.hid (HR1.out.goes HB.out)
   have HBe:=Lib.hid (HB1.out.trans (HB.out.mono HB1.out.size))
   go_wp2_with fail
   obtain ⟨W14,hW14,hL14,hB14⟩:=Sm.lit_all W0
   rw [←hW14]
   clear hW14
   obtain ⟨T13,hT13⟩:∃ T,T=W0.heap.size+1+1+1+1+1+1+1+1+1+1+1+1+1:=⟨_,rfl⟩
   rw [←hT13]
   obtain ⟨Q7,hQ7⟩:∃ T,T=W0.heap.size+1:=⟨_,rfl⟩
   rw [←hQ7]
   obtain ⟨g,hg⟩:∃ g,g=W0.heap.size:=⟨_,rfl⟩
   rw [←hg] at hL14
   have eT:T13=g+13:=by omega
   have eQ:Q7=g+1:=by omega
   have HL14:=Lib.hid hL14
   have HB14:=Lib.hid hB14
   have HT:=Lib.hid eT
   have HQ7:=Lib.hid eQ
   clear hT13 hQ7 hg hL14 hB14 eT eQ
   go_loopw [128] (fun vk wr=>∃ k:Nat,k≤2197∧vk = .int .i64 k∧Hid (Below W0.heap.size W0 wr)∧Hid (Sm.Lit g wr)) (fun vk _=>2197 - (intOf vk).toNat)
   case atStart=>exact ⟨0,by omega,rfl,HB14,HL14⟩
   case round=>
    obtain ⟨k,hk,rfl,HC,HLT⟩:=hrel
    clear HB14 HL14
    rcases Nat.lt_or_ge k 2197 with hkl | hkg
    ·have hkB:decide ((k:Int)<2197)=true:=by simp only [decide_eq_true_eq];omega
     obtain ⟨W3,hW3⟩:∃ x,x=wr:=⟨wr,rfl⟩
     subst hW3
     have hv7:=HLT.out.vq
     rw [←HQ7.out] at hv7
     obtain ⟨q0,q1,q2⟩:=hv7.c3
     obtain ⟨m1,hm1⟩:∃ i,i=k % 13:=⟨_,rfl⟩
     obtain ⟨p1,hp1⟩:∃ i,i=k / 13:=⟨_,rfl⟩
     obtain ⟨m2,hm2⟩:∃ i,i=p1 % 13:=⟨_,rfl⟩
     obtain ⟨m3,hm3⟩:∃ i,i=k / 169:=⟨_,rfl⟩
     obtain ⟨r11,hr11⟩:∃ i,i=k % 11:=⟨_,rfl⟩
     obtain ⟨r17,hr17⟩:∃ i,i=k % 17:=⟨_,rfl⟩
     obtain ⟨d15,hd15⟩:∃ i,i=r17 / 15:=⟨_,rfl⟩
     have a1:(k:Int) % 13=(m1:Int):=by omega
     have a1':(k:Int).tmod 13=(m1:Int):=by rw [Int.tmod_eq_emod_of_nonneg (by omega)];exact a1
     have a2:(k:Int) / 13=(p1:Int):=by omega
     have a2':(k:Int).tdiv 13=(p1:Int):=by rw [Int.tdiv_eq_ediv_of_nonneg (by omega)];exact a2
     have a3:(p1:Int) % 13=(m2:Int):=by omega
     have a3':(p1:Int).tmod 13=(m2:Int):=by rw [Int.tmod_eq_emod_of_nonneg (by omega)];exact a3
     have a4:(k:Int) / 169=(m3:Int):=by omega
     have a4':(k:Int).tdiv 169=(m3:Int):=by rw [Int.tdiv_eq_ediv_of_nonneg (by omega)];exact a4
     have a5:(k:Int) % 11=(r11:Int):=by omega
     have a5':(k:Int).tmod 11=(r11:Int):=by rw [Int.tmod_eq_emod_of_nonneg (by omega)];exact a5
     have a6:(k:Int) % 17=(r17:Int):=by omega
     have a6':(k:Int).tmod 17=(r17:Int):=by rw [Int.tmod_eq_emod_of_nonneg (by omega)];exact a6
     have a7:(r17:Int) / 15=(d15:Int):=by omega
     have a7':(r17:Int).tdiv 15=(d15:Int):=by rw [Int.tdiv_eq_ediv_of_nonneg (by omega)];exact a7
     have b1:m1<13:=by omega
     have b2:m2<13:=by omega
     have b3:m3<13:=by omega
     have b4:p1<169:=by omega
     have b5:r17<17:=by omega
     have b6:d15≤1:=by omega
     have n1:k % 13=m1:=hm1.symm
     have n2:k / 13=p1:=hp1.symm
     have n3:p1 % 13=m2:=hm2.symm
     have n4:k / 169=m3:=hm3.symm
     have n5:k % 11=r11:=hr11.symm
     have n6:k % 17=r17:=hr17.symm
     have n7:r17 / 15=d15:=hd15.symm
     have wp1:IntKind.i64.wrap (p1:Int)=(p1:Int):=by rw [IntKind.wrap_i64];omega
     have wm3:IntKind.i64.wrap (m3:Int)=(m3:Int):=by rw [IntKind.wrap_i64];omega
     have wd15:IntKind.i64.wrap (d15:Int)=(d15:Int):=by rw [IntKind.wrap_i64];omega
     clear hm1 hp1 hm2 hm3 hr11 hr17 hd15
     go_wp2_with fail
     obtain ⟨W4,hW4,hR4⟩:=Sm.rm_start g W3 HLT.out (.int .i64 (m1:Int)) (.int .i64 (m2:Int)) (.int .i64 (m3:Int))
     rw [←hW4]
     obtain ⟨K,hK⟩:∃ K,K=W3.heap.size+1+1:=⟨_,rfl⟩
     obtain ⟨M,hM⟩:∃ K,K=W3.heap.size+1:=⟨_,rfl⟩
     rw [←hK] at hR4 ⊢
     rw [←hM] at hR4 ⊢
     clear hW4 hK hM
     have HR4:=Lib.hid hR4
     clear hR4 q0 q1 q2 hv7
     go_loopw [143] (fun vi wr=>∃ (i:Nat) (rs:Nat→RW),i≤3∧vi = .int .i64 i∧Hid (Sm.Rm g W3.heap.size M K W3 wr [.int .i64 (m1:Int),.int .i64 (m2:Int),.int .i64 (m3:Int)] rs i (fun _=>False))) (fun vi _=>3 - (intOf vi).toNat)
     case atStart=>exact ⟨0,Sm.nilR,by omega,rfl,HR4⟩
     case round=>
      obtain ⟨i,rs,hi,rfl,HX⟩:=hrel
      clear HR4
      rcases Nat.lt_or_ge i 3 with hi3 | hi3g
      ·have hiB:decide ((i:Int)<3)=true:=by simp only [decide_eq_true_eq];omega
       have hiI:(i:Int)<3:=by omega
       obtain ⟨mi,hmi,hmc⟩:=Sm.ks_get m1 m2 m3 b1 b2 b3 i hi3
       have kc:=HX.out.vk.cell i
       rw [hmc] at kc
       clear hmc
       have hmI:(mi:Int)<13:=by omega
       have hL1:=HLT.out.far HX.out.b1
       obtain ⟨x0,hx0m,hcell⟩:=hL1.rec_ hmi
       rw [←HT.out] at hcell
       have hok0:=Sm.rec13_ok g x0 hx0m
       have hvq:=hL1.vq
       rw [←HQ7.out] at hvq
       obtain ⟨xA,xc,dA,dc,tA,tc,⟨⟨nm,ty,cl⟩,ttl,rd,pr,we,po,tg⟩⟩:=x0
       have e0:wr.cell? ⟨T13,mi*9,none⟩=some (.slice xA nm.length xc):=hcell 0 _ rfl
       have e1:wr.cell? ⟨T13,mi*9+1,none⟩=some (.int .u16 (ty:Int)):=hcell 1 _ rfl
       have e2:wr.cell? ⟨T13,mi*9+2,none⟩=some (.int .u16 (cl:Int)):=hcell 2 _ rfl
       have e3:wr.cell? ⟨T13,mi*9+3,none⟩=some (.int .u32 (ttl:Int)):=hcell 3 _ rfl
       have e4:wr.cell? ⟨T13,mi*9+4,none⟩=some (.slice dA rd.length dc):=hcell 4 _ rfl
       have e5:wr.cell? ⟨T13,mi*9+5,none⟩=some (.int .u16 (pr:Int)):=hcell 5 _ rfl
       have e6:wr.cell? ⟨T13,mi*9+6,none⟩=some (.int .u16 (we:Int)):=hcell 6 _ rfl
       have e7:wr.cell? ⟨T13,mi*9+7,none⟩=some (.int .u16 (po:Int)):=hcell 7 _ rfl
       have e8:wr.cell? ⟨T13,mi*9+8,none⟩=some (.slice tA tg.length tc):=hcell 8 _ rfl
       have HX0M:=Lib.hid hx0m
       have HOK0:=Lib.hid hok0
       have HVQ:=Lib.hid hvq
       clear hcell hx0m hok0 hvq hL1
       go_upto_region 26 with fail
       obtain ⟨g13,hg13⟩:∃ g,g=wr.heap.size:=⟨_,rfl⟩
       have V13:=Vx.new wr 42 [.slice xA nm.length xc,.int .u16 (ty:Int),.int .u16 (cl:Int),.int .u32 (ttl:Int),.slice dA rd.length dc,.int .u16 (pr:Int),.int .u16 (we:Int),.int .u16 (po:Int),.slice tA tg.length tc]
       have b13:=bl_new wr (.cells #[.slice xA nm.length xc,.int .u16 (ty:Int),.int .u16 (cl:Int),.int .u32 (ttl:Int),.slice dA rd.length dc,.int .u16 (pr:Int),.int .u16 (we:Int),.int .u16 (po:Int),.slice tA tg.length tc] 42)
       rw [←hg13] at V13 ⊢
       generalize wr.alloc (.cells #[.slice xA nm.length xc,.int .u16 (ty:Int),.int .u16 (cl:Int),.int .u32 (ttl:Int),.slice dA rd.length dc,.int .u16 (pr:Int),.int .u16 (we:Int),.int .u16 (po:Int),.slice tA tg.length tc] 42)=w13 at *
       have hgw:wr.heap.size≤g13:=by omega
       clear hg13 e0 e1 e2 e3 e4 e5 e6 e7 e8 kc
       have hvq1:=HVQ.out.below b13 HVQ.out.lt
       obtain ⟨q0,q1,q2⟩:=hvq1.c3
       obtain ⟨v0,v1,v2,v3,v4,v5,v6,v7,v8⟩:=V13.c9
       have f0:=V13.free 0
       have f1:=V13.free 1
       have f2:=V13.free 2
       go_upto_region 27 with fail
       have V14:Vx (((w13.setCell ⟨g13,0,none⟩ (.slice (some ⟨g,0,none⟩) 2 2)).setCell ⟨g13,1,none⟩ (.int .u16 33)).setCell ⟨g13,2,none⟩ (.int .u16 1)) g13 42 [.slice (some ⟨g,0,none⟩) 2 2,.int .u16 33,.int .u16 1,.int .u32 (ttl:Int),.slice dA rd.length dc,.int .u16 (pr:Int),.int .u16 (we:Int),.int .u16 (po:Int),.slice tA tg.length tc]:=((V13.set_ 0 (.slice (some ⟨g,0,none⟩) 2 2)).set_ 1 (.int .u16 33)).set_ 2 (.int .u16 1)
       have b14:=((b13.setCell (p:=⟨g13,0,none⟩) hgw (.slice (some ⟨g,0,none⟩) 2 2)).setCell (p:=⟨g13,1,none⟩) hgw (.int .u16 33)).setCell (p:=⟨g13,2,none⟩) hgw (.int .u16 1)
       generalize (((w13.setCell ⟨g13,0,none⟩ (.slice (some ⟨g,0,none⟩) 2 2)).setCell ⟨g13,1,none⟩ (.int .u16 33)).setCell ⟨g13,2,none⟩ (.int .u16 1))=w14 at V14 b14 ⊢
       have HV14:=Lib.hid V14
       have HB14:=Lib.hid b14
       clear V13 b13 hvq1 q0 q1 q2 v0 v1 v2 v3 v4 v5 v6 v7 v8 f0 f1 f2 V14 b14
       go_upto_if 157 with fail
       go_cut [13] from 158 to 160 (fun v13 wx=>∃ x:RR,v13 = .pointer (some ⟨g13,0,none⟩)∧Hid (Sm.okT x)∧Hid (Vx wx g13 42 x.cells)∧Hid (Sm.Rm g W3.heap.size M K W3 wx [.int .i64 (m1:Int),.int .i64 (m2:Int),.int .i64 (m3:Int)] rs i (DR [x])))
       case first=>
        by_cases h11:r11=i
        ·have hb11:((r11:Int) == (i:Int))=true:=by rw [h11];simp
         have V:=HV14.out.alloc (.cells #[.string ⟨#[95,97]⟩] 9)
         have c0:=V.cell 0
         have f0:=V.free 0
         clear V
         go_wp2_with fail
         go_meet
         case rel=>
          have oL:OwM (w14.alloc (.cells #[.string ⟨#[95,97]⟩] 9)) w14.heap.size 9 1 (.slice (some ⟨w14.heap.size,0,none⟩) 1 1) 1 (sc [[95,97]]):=Ow.lit w14 9 (sc [[95,97]]) (by decide)
          have oS:=oL.setL HV14.out.lt 0 (.slice (some ⟨w14.heap.size,0,none⟩) 1 1)
          have bS:=HB14.out.alloc (o:=(.cells #[.string ⟨#[95,97]⟩] 9)) HB14.out.size
          have bW:=bS.setCell (p:=⟨g13,0,none⟩) hgw (.slice (some ⟨w14.heap.size,0,none⟩) 1 1)
          obtain ⟨k1,k2,k3,k4,k5,k6,k7,k8,k9⟩:=HOK0.out
          refine ⟨⟨some ⟨w14.heap.size,0,none⟩,1,dA,dc,tA,tc,⟨⟨[[95,97]],33,1⟩,ttl,rd,pr,we,po,tg⟩⟩,rfl,Lib.hid ⟨by show sizeN [[95,97]]≤100;decide,k2,k3,by show 33<65536;omega,by show 1<65536;omega,k6,k7,k8,k9⟩,Lib.hid ?_,Lib.hid ?_⟩
          ·exact (HV14.out.alloc (.cells #[.string ⟨#[95,97]⟩] 9)).set_ 0 (.slice (some ⟨w14.heap.size,0,none⟩) 1 1)
          ·refine HX.out.withE bW ⟨some ⟨w14.heap.size,0,none⟩,1,dA,dc,tA,tc,⟨⟨[[95,97]],33,1⟩,ttl,rd,pr,we,po,tg⟩⟩ (.inr ?_) (.inr (.inr (.inl ⟨_,HX0M.out,.inr (.inl rfl)⟩))) (.inr (.inr (.inl ⟨_,HX0M.out,.inr (.inr rfl)⟩)))
           exact OwM.mono oS HB14.out.size
        ·have hb11:((r11:Int) == (i:Int))=false:=by rw [beq_eq_false_iff_ne];omega
         go_wp2_with fail
         go_meet
         case rel=>
          obtain ⟨k1,k2,k3,k4,k5,k6,k7,k8,k9⟩:=HOK0.out
          refine ⟨⟨some ⟨g,0,none⟩,2,dA,dc,tA,tc,⟨⟨Sm.nmQ,33,1⟩,ttl,rd,pr,we,po,tg⟩⟩,rfl,Lib.hid ⟨by show sizeN Sm.nmQ≤100;decide,k2,k3,by show 33<65536;omega,by show 1<65536;omega,k6,k7,k8,k9⟩,Lib.hid HV14.out,Lib.hid ?_⟩
          exact HX.out.withE HB14.out ⟨some ⟨g,0,none⟩,2,dA,dc,tA,tc,⟨⟨Sm.nmQ,33,1⟩,ttl,rd,pr,we,po,tg⟩⟩ (.inl (.inr (.inl ⟨Sm.qq g,List.mem_singleton.2 rfl,rfl⟩))) (.inr (.inr (.inl ⟨_,HX0M.out,.inr (.inl rfl)⟩))) (.inr (.inr (.inl ⟨_,HX0M.out,.inr (.inr rfl)⟩)))
       case rest=>
        obtain ⟨x,rfl,HOK,HVX,HX4⟩:=hcut
        clear HX0M HOK0 HV14 HB14
        obtain ⟨xA,xc,dA,dc,tA,tc,⟨⟨nm,ty,cl⟩,ttl,rd,pr,we,po,tg⟩⟩:=x
        obtain ⟨j,hj⟩:∃ j,j=d15*i:=⟨_,rfl⟩
        have hj3:j<3:=by
         rcases (show d15=0∨d15=1 by omega) with h | h <;> rw [hj,h] <;> omega
        have hmul:(d15:Int)*(i:Int)=(j:Int):=by rw [hj];simp
        have hmulN:d15*i=j:=hj.symm
        clear hj
        have wj:IntKind.i64.wrap (j:Int)=(j:Int):=by rw [IntKind.wrap_i64];omega
        have hjI:(j:Int)<3:=by omega
        have hj0:(0:Int)≤(j:Int):=by omega
        have hV:Vx wc g13 42 [.slice xA nm.length xc,.int .u16 (ty:Int),.int .u16 (cl:Int),.int .u32 (ttl:Int),.slice dA rd.length dc,.int .u16 (pr:Int),.int .u16 (we:Int),.int .u16 (po:Int),.slice tA tg.length tc]:=HVX.out
        have HVC:=Lib.hid hV
        have hMlt:=HX4.out.lt
        have hMg:M<g13:=by have:=HX.out.lt.2.2.1;omega
        have hKg:K<g13:=by have:=HX.out.lt.2.2.1;omega
        clear hV HVX
        go_upto_region 29 with fail
        refine wp_region_held_drew (S:=fun W=>Vx W g13 42 [.slice xA nm.length xc,.int .u16 (ty:Int),.int .u16 (cl:Int),.int .u32 (ttl:Int),.slice dA rd.length dc,.int .u16 (pr:Int),.int .u16 (we:Int),.int .u16 (po:Int),.slice tA tg.length tc]) (by kernel_rfl) HVC.out.drew (fun hH=>?_)
        refine reg_take 0 (v:=?_) rfl (by kernel_rfl) (fun _ _ _ h=>h) (by rfl) hH ?_ ?_
        rotate_left
        ·intro w hSw;(try dsimp only at hSw);go_simp;(try with_reducible rfl)
        (try simp only [Act.put,List.setIfInBounds_toArray,List.set_cons_zero,List.set_cons_succ])
        refine reg_take 1 (v:=?_) rfl (by kernel_rfl) (fun _ _ _ h=>h) (by rfl) hH ?_ ?_
        rotate_left
        ·intro w hSw;(try dsimp only at hSw);go_simp;(try with_reducible rfl)
        (try simp only [Act.put,List.setIfInBounds_toArray,List.set_cons_zero,List.set_cons_succ])
        refine reg_take 2 (v:=?_) rfl (by kernel_rfl) (fun _ _ _ h=>h) (by rfl) hH ?_ ?_
        rotate_left
        ·intro w hSw;(try dsimp only at hSw);go_simp;(try with_reducible rfl)
        (try simp only [Act.put,List.setIfInBounds_toArray,List.set_cons_zero,List.set_cons_succ])
        refine reg_take 3 (v:=?_) rfl (by kernel_rfl) (fun _ _ _ h=>h) (by rfl) hH ?_ ?_
        rotate_left
        ·intro w hSw;(try dsimp only at hSw);go_simp;(try with_reducible rfl)
        (try simp only [Act.put,List.setIfInBounds_toArray,List.set_cons_zero,List.set_cons_succ])
        refine reg_take 4 (v:=?_) rfl (by kernel_rfl) (fun _ _ _ h=>h) (by rfl) hH ?_ ?_
        rotate_left
        ·intro w hSw;(try dsimp only at hSw);go_simp;(try with_reducible rfl)
        (try simp only [Act.put,List.setIfInBounds_toArray,List.set_cons_zero,List.set_cons_succ])
        refine reg_take 5 (v:=?_) rfl (by kernel_rfl) (fun _ _ _ h=>h) (by rfl) hH ?_ ?_
        rotate_left
        ·intro w hSw;(try dsimp only at hSw);go_simp;(try with_reducible rfl)
        (try simp only [Act.put,List.setIfInBounds_toArray,List.set_cons_zero,List.set_cons_succ])
        refine reg_take 6 (v:=?_) rfl (by kernel_rfl) (fun _ _ _ h=>h) (by rfl) hH ?_ ?_
        rotate_left
        ·intro w hSw;(try dsimp only at hSw);go_simp;(try with_reducible rfl)
        (try simp only [Act.put,List.setIfInBounds_toArray,List.set_cons_zero,List.set_cons_succ])
        refine reg_take 7 (v:=?_) rfl (by kernel_rfl) (fun _ _ _ h=>h) (by rfl) hH ?_ ?_
        rotate_left
        ·intro w hSw;(try dsimp only at hSw);go_simp;(try with_reducible rfl)
        (try simp only [Act.put,List.setIfInBounds_toArray,List.set_cons_zero,List.set_cons_succ])
        refine reg_take 8 (v:=?_) rfl (by kernel_rfl) (fun _ _ _ h=>h) (by rfl) hH ?_ ?_
        rotate_left
        ·intro w hSw;(try dsimp only at hSw);go_simp;(try with_reducible rfl)
        (try simp only [Act.put,List.setIfInBounds_toArray,List.set_cons_zero,List.set_cons_succ])
        refine reg_take 9 (v:=?_) rfl (by kernel_rfl) (fun _ _ _ h=>h) (by rfl) hH ?_ ?_
        rotate_left
        ·intro w hSw;(try dsimp only at hSw);go_simp;(try with_reducible rfl)
        (try simp only [Act.put,List.setIfInBounds_toArray,List.set_cons_zero,List.set_cons_succ])
        refine reg_take 10 (v:=?_) rfl (by kernel_rfl) (fun _ _ _ h=>h) (by rfl) hH ?_ ?_
        rotate_left
        ·intro w hSw;(try dsimp only at hSw);go_simp;(try with_reducible rfl)
        (try simp only [Act.put,List.setIfInBounds_toArray,List.set_cons_zero,List.set_cons_succ])
        refine reg_take 11 (v:=?_) rfl (by kernel_rfl) (fun _ _ _ h=>h) (by rfl) hH ?_ ?_
        rotate_left
        ·intro w hSw;(try dsimp only at hSw);go_simp;(try with_reducible rfl)
        (try simp only [Act.put,List.setIfInBounds_toArray,List.set_cons_zero,List.set_cons_succ])
        refine reg_load 13 rfl (by kernel_rfl) 42 _ (by rfl) g13 42 [.slice xA nm.length xc,.int .u16 (ty:Int),.int .u16 (cl:Int),.int .u32 (ttl:Int),.slice dA rd.length dc,.int .u16 (pr:Int),.int .u16 (we:Int),.int .u16 (po:Int),.slice tA tg.length tc] _ (fun _ _ _ h=>h) (by rfl) hH (by rfl) (fun _ h=>h) Tryz.underlying42 (by rfl) (by kernel_rfl) ?_
        (try simp only [Act.put,List.setIfInBounds_toArray,List.set_cons_zero,List.set_cons_succ])
        refine reg_take 16 (v:=?_) rfl (by kernel_rfl) (fun _ _ _ h=>h) (by rfl) hH ?_ ?_
        rotate_left
        ·intro w hSw;(try dsimp only at hSw);go_simp;(try with_reducible rfl)
        (try simp only [Act.put,List.setIfInBounds_toArray,List.set_cons_zero,List.set_cons_succ])
        refine wpAnyH_ready (rs:=[12,14]) (by kernel_rfl) (by simp) ?_
        refine reg_cons 12 rfl (fun K' hK=>?_) (reg_cons 14 rfl (fun K' hK=>?_) AllReadyH.nil)
        ·have c8:=HX4.out.cellR j hj3
         go_simp
         clear c8
         refine hK.out _ _ HVC.out.drew (fun hH=>?_)
         (try simp only [Act.put,List.setIfInBounds_toArray,List.set_cons_zero,List.set_cons_succ])
         clear hK
         refine wpAnyH_ready (rs:=[14]) (by kernel_rfl) (by simp) ?_
         refine reg_cons 14 rfl (fun K' hK=>?_) AllReadyH.nil
         go_simp
         refine hK.out _ _ (HVC.out.drew.alloc (.cells #[.slice xA nm.length xc,.int .u16 (ty:Int),.int .u16 (cl:Int),.int .u32 (ttl:Int),.slice dA rd.length dc,.int .u16 (pr:Int),.int .u16 (we:Int),.int .u16 (po:Int),.slice tA tg.length tc] 42)) (fun hH=>?_)
         (try simp only [Act.put,List.setIfInBounds_toArray,List.set_cons_zero,List.set_cons_succ])
         clear hK
         refine wpAnyH_ready (rs:=[15]) (by kernel_rfl) (by simp) ?_
         refine reg_cons 15 rfl (fun K' hK=>?_) AllReadyH.nil
         have b5:=bl_new wc (.cells #[.slice xA nm.length xc,.int .u16 (ty:Int),.int .u16 (cl:Int),.int .u32 (ttl:Int),.slice dA rd.length dc,.int .u16 (pr:Int),.int .u16 (we:Int),.int .u16 (po:Int),.slice tA tg.length tc] 42)
         have HM5:=Lib.hid (HX4.out.far b5)
         have V5:=HVC.out.alloc (.cells #[.slice xA nm.length xc,.int .u16 (ty:Int),.int .u16 (cl:Int),.int .u32 (ttl:Int),.slice dA rd.length dc,.int .u16 (pr:Int),.int .u16 (we:Int),.int .u16 (po:Int),.slice tA tg.length tc] 42)
         refine step_appM rfl _ _ _ _ rfl (K+1) 9 42 j0 _ 96 Tryz.underlying43 hj' hy0 hy1 hy2 rfl (by omega) (.slice (rs j).A (rs j).l.length (rs j).c) (rs j).l.length (rcs (rs j).l) ((HM5.out.okR j hj3).drew) rfl (.slice (some ⟨wc.heap.size,0,none⟩) 1 1) rfl 1 (RR.cells ⟨xA,xc,dA,dc,tA,tc,⟨⟨nm,ty,cl⟩,ttl,rd,pr,we,po,tg⟩⟩) (litM_src (w:=wc.drew) Tryz.underlying43 42 9 (RR.cells ⟨xA,xc,dA,dc,tA,tc,⟨⟨nm,ty,cl⟩,ttl,rd,pr,we,po,tg⟩⟩) 1 rfl (rcells_one _)) (by have:=HM5.out.lr j;omega) (by simp;omega) ?_
         intro v6 w6 ho6 hg6 hz6
         obtain ⟨A6,c6,rfl,_,_,_⟩:=ho6.form
         have hbl6:Below (K+1) (wc.alloc (.cells #[.slice xA nm.length xc,.int .u16 (ty:Int),.int .u16 (cl:Int),.int .u32 (ttl:Int),.slice dA rd.length dc,.int .u16 (pr:Int),.int .u16 (we:Int),.int .u16 (po:Int),.slice tA tg.length tc] 42)).drew w6:=hg6.below (OwM.lt (HM5.out.okR j hj3)) (by simp;omega)
         have hne13:∀ e:(Value.slice (rs j).A (rs j).l.length (rs j).c).ownBlock=some g13,False:=fun e=>by have:=OwM.block_lt (HX.out.okR j hj3) g13 e;omega
         have V6:=V5.drew.grown hg6.1 (fun e=>hne13 e.symm)
         have HV6:=Lib.hid V6
         clear hH
         refine hK.out _ _ HV6.out (fun hH=>?_)
         (try simp only [Act.put,List.setIfInBounds_toArray,List.set_cons_zero,List.set_cons_succ])
         clear hK V5 V6
         refine reg_take 17 (v:=?_) rfl (by kernel_rfl) (fun _ _ _ h=>h) (by rfl) hH ?_ ?_
         rotate_left
         ·intro w hSw;(try dsimp only at hSw);go_simp;(try with_reducible rfl)
         (try simp only [Act.put,List.setIfInBounds_toArray,List.set_cons_zero,List.set_cons_succ])
         refine wpAnyH_ready (rs:=[18]) (by kernel_rfl) (by simp) ?_
         refine reg_cons 18 rfl (fun K' hK=>?_) AllReadyH.nil
         have VM:=(HM5.out.vm.drew).below hbl6 (by omega)
         have r3:w6.cell? ⟨M,3+j,none⟩=some (.slice (rs j).A (rs j).l.length (rs j).c):=by
          rw [VM.cell];exact Sm.mrow_get _ _ _ hj3
         have f3:=VM.free (3+j)
         go_simp
         refine hK.out _ _ (HV6.out.setO (g':=M) (by omega) (3+j) (.slice A6 ((rs j).l.length+1) c6)) (fun hH=>?_)
         clear hK
         refine wpAnyH_done (by kernel_rfl) ?_ _
         clear hH r3 f3
         go_wp2_with fail
         go_roundw
         case rel=>exact ⟨i+1,Sm.updF rs j ⟨A6,c6,(rs j).l++[⟨xA,xc,dA,dc,tA,tc,⟨⟨nm,ty,cl⟩,ttl,rd,pr,we,po,tg⟩⟩]⟩,by omega,by go_num,Lib.hid (HX4.out.addR HOK.out hj3 b5.drew hg6 ho6)⟩
         case measure=>simp [intOf];omega
        ·go_simp
         refine hK.out _ _ (HVC.out.drew.alloc (.cells #[.slice xA nm.length xc,.int .u16 (ty:Int),.int .u16 (cl:Int),.int .u32 (ttl:Int),.slice dA rd.length dc,.int .u16 (pr:Int),.int .u16 (we:Int),.int .u16 (po:Int),.slice tA tg.length tc] 42)) (fun hH=>?_)
         (try simp only [Act.put,List.setIfInBounds_toArray,List.set_cons_zero,List.set_cons_succ])
         clear hK
         refine wpAnyH_ready (rs:=[12]) (by kernel_rfl) (by simp) ?_
         refine reg_cons 12 rfl (fun K' hK=>?_) AllReadyH.nil
         have c8:=(HX4.out.far (bl_new wc (.cells #[.slice xA nm.length xc,.int .u16 (ty:Int),.int .u16 (cl:Int),.int .u32 (ttl:Int),.slice dA rd.length dc,.int .u16 (pr:Int),.int .u16 (we:Int),.int .u16 (po:Int),.slice tA tg.length tc] 42))).cellR j hj3
         go_simp
         clear c8
         refine hK.out _ _ (HVC.out.alloc (.cells #[.slice xA nm.length xc,.int .u16 (ty:Int),.int .u16 (cl:Int),.int .u32 (ttl:Int),.slice dA rd.length dc,.int .u16 (pr:Int),.int .u16 (we:Int),.int .u16 (po:Int),.slice tA tg.length tc] 42)).drew (fun hH=>?_)
         (try simp only [Act.put,List.setIfInBounds_toArray,List.set_cons_zero,List.set_cons_succ])
         clear hK
         refine wpAnyH_ready (rs:=[15]) (by kernel_rfl) (by simp) ?_
         refine reg_cons 15 rfl (fun K' hK=>?_) AllReadyH.nil
         have b5:=bl_new wc (.cells #[.slice xA nm.length xc,.int .u16 (ty:Int),.int .u16 (cl:Int),.int .u32 (ttl:Int),.slice dA rd.length dc,.int .u16 (pr:Int),.int .u16 (we:Int),.int .u16 (po:Int),.slice tA tg.length tc] 42)
         have HM5:=Lib.hid (HX4.out.far b5)
         have V5:=HVC.out.alloc (.cells #[.slice xA nm.length xc,.int .u16 (ty:Int),.int .u16 (cl:Int),.int .u32 (ttl:Int),.slice dA rd.length dc,.int .u16 (pr:Int),.int .u16 (we:Int),.int .u16 (po:Int),.slice tA tg.length tc] 42)
         refine step_appM rfl _ _ _ _ rfl (K+1) 9 42 j0 _ 96 Tryz.underlying43 hj' hy0 hy1 hy2 rfl (by omega) (.slice (rs j).A (rs j).l.length (rs j).c) (rs j).l.length (rcs (rs j).l) ((HM5.out.okR j hj3).drew) rfl (.slice (some ⟨wc.heap.size,0,none⟩) 1 1) rfl 1 (RR.cells ⟨xA,xc,dA,dc,tA,tc,⟨⟨nm,ty,cl⟩,ttl,rd,pr,we,po,tg⟩⟩) (litM_src (w:=wc.drew) Tryz.underlying43 42 9 (RR.cells ⟨xA,xc,dA,dc,tA,tc,⟨⟨nm,ty,cl⟩,ttl,rd,pr,we,po,tg⟩⟩) 1 rfl (rcells_one _)) (by have:=HM5.out.lr j;omega) (by simp;omega) ?_
         intro v6 w6 ho6 hg6 hz6
         obtain ⟨A6,c6,rfl,_,_,_⟩:=ho6.form
         have hbl6:Below (K+1) (wc.alloc (.cells #[.slice xA nm.length xc,.int .u16 (ty:Int),.int .u16 (cl:Int),.int .u32 (ttl:Int),.slice dA rd.length dc,.int .u16 (pr:Int),.int .u16 (we:Int),.int .u16 (po:Int),.slice tA tg.length tc] 42)).drew w6:=hg6.below (OwM.lt (HM5.out.okR j hj3)) (by simp;omega)
         have hne13:∀ e:(Value.slice (rs j).A (rs j).l.length (rs j).c).ownBlock=some g13,False:=fun e=>by have:=OwM.block_lt (HX.out.okR j hj3) g13 e;omega
         have V6:=V5.drew.grown hg6.1 (fun e=>hne13 e.symm)
         have HV6:=Lib.hid V6
         clear hH
         refine hK.out _ _ HV6.out (fun hH=>?_)
         (try simp only [Act.put,List.setIfInBounds_toArray,List.set_cons_zero,List.set_cons_succ])
         clear hK V5 V6
         refine reg_take 17 (v:=?_) rfl (by kernel_rfl) (fun _ _ _ h=>h) (by rfl) hH ?_ ?_
         rotate_left
         ·intro w hSw;(try dsimp only at hSw);go_simp;(try with_reducible rfl)
         (try simp only [Act.put,List.setIfInBounds_toArray,List.set_cons_zero,List.set_cons_succ])
         refine wpAnyH_ready (rs:=[18]) (by kernel_rfl) (by simp) ?_
         refine reg_cons 18 rfl (fun K' hK=>?_) AllReadyH.nil
         have VM:=(HM5.out.vm.drew).below hbl6 (by omega)
         have r3:w6.cell? ⟨M,3+j,none⟩=some (.slice (rs j).A (rs j).l.length (rs j).c):=by
          rw [VM.cell];exact Sm.mrow_get _ _ _ hj3
         have f3:=VM.free (3+j)
         go_simp
         refine hK.out _ _ (HV6.out.setO (g':=M) (by omega) (3+j) (.slice A6 ((rs j).l.length+1) c6)) (fun hH=>?_)
         clear hK
         refine wpAnyH_done (by kernel_rfl) ?_ _
         clear hH r3 f3
         go_wp2_with fail
         go_roundw
         case rel=>exact ⟨i+1,Sm.updF rs j ⟨A6,c6,(rs j).l++[⟨xA,xc,dA,dc,tA,tc,⟨⟨nm,ty,cl⟩,ttl,rd,pr,we,po,tg⟩⟩]⟩,by omega,by go_num,Lib.hid (HX4.out.addR HOK.out hj3 b5.drew hg6 ho6)⟩
         case measure=>simp [intOf];omega
      ·have hiB:decide ((i:Int)<3)=false:=by simp only [decide_eq_false_iff_not];omega
       have hv10:Vx wr M 47 [.int .u16 258,.int .u16 33024,.slice (some ⟨W3.heap.size,0,none⟩) 1 1,.slice (rs 0).A (rs 0).l.length (rs 0).c,.slice (rs 1).A (rs 1).l.length (rs 1).c,.slice (rs 2).A (rs 2).l.length (rs 2).c]:=HX.out.vm
       obtain ⟨z0,z1,z2,z3,z4,z5⟩:=hv10.c6
       obtain ⟨bb,hbb⟩:∃ b,b=(writeM (Sm.mr g W3.heap.size rs).m).1:=⟨_,rfl⟩
       have hbl:bb.length≤4096:=by rw [hbb];exact Sm.write_len _
       have KW:=fwrite_at (Sm.mr g W3.heap.size rs) wr (HX.out.mrd (by omega))
       rw [←hbb] at KW
       generalize (writeM (Sm.mr g W3.heap.size rs).m).2=ec at KW
       have KW:=Lib.hid KW
       obtain ⟨L5,hL5⟩:∃ n,n=bb.length:=⟨_,rfl⟩
       rw [←hL5] at hbl
       have HL5:=Lib.hid hL5.symm
       have HQR:=Lib.hid ((HR1e.out.goes HC.out).goes HX.out.b1)
       clear hbb hL5 hv10
       go_wp2_with (first
        | (go_at_call 13;(
           refine (takes_at A1 A5 c1 c5 LQ L5 Q bb w5 HLQ.out HL5.out (HQR.out.goes HX5.out) HR5.out hc1 hc5 (by omega) (by omega)).mono ?_
           rintro e w6 ⟨rfl,hb6⟩
           have HX6:=Lib.hid (HX5.out.trans (hb6.mono HX5.out.size))
           clear hb6))
        | (go_at_call 22;(
           refine KW.out.mono ?_
           rintro e w5 ⟨v5,rfl,ho5,hb5⟩
           obtain ⟨A5,c5,rfl,hc5,hr5⟩:=Ow.form7 ho5 L5 (by rw [bc_length,HL5.out])
           have HX5:=Lib.hid hb5
           have HR5:=Lib.hid hr5
           clear hb5 hr5 ho5 z0 z1 z2 z3 z4 z5)))
       have HF:=Lib.hid (HX.out.b1.trans (HX6.out.mono HX.out.b1.size))
       go_roundw
       case rel=>exact ⟨k+1,by omega,by go_num,Lib.hid (HC.out.trans (HF.out.mono HC.out.size)),Lib.hid (HLT.out.far HF.out)⟩
       case measure=>simp [intOf];omega
    ·have hkB:decide ((k:Int)<2197)=false:=by simp only [decide_eq_false_iff_not];omega
     have HB5:=Lib.hid (HBe.out.trans (HC.out.mono HBe.out.size))
     obtain ⟨W5,hW5⟩:∃ x,x=wr:=⟨wr,rfl⟩
     subst hW5
     have hlit:(Obj.cells (sc Sm.S10).toArray 9) = .cells #[.string ⟨#[]⟩,.string ⟨#[46]⟩,.string ⟨#[97]⟩,.string ⟨#[95,97,46,95,116,99,112,46,98]⟩,.string ⟨#[65,46,66]⟩,.string ⟨#[97,46,46,98]⟩,.string ⟨#[97,46]⟩,.string ⟨#[92,46]⟩,.string ⟨#[92,48,48,48]⟩,.string ⟨#[32]⟩] 9:=rfl
     have hv:=Vx.new W5 9 (sc Sm.S10)
     have hbn:=bl_new W5 (.cells (sc Sm.S10).toArray 9)
     rw [hlit] at hv hbn
     have HV:=Lib.hid hv
     have HBN:=Lib.hid hbn
     clear hv hbn hlit HC
     go_wp2_with fail
     obtain ⟨gl,hgl⟩:∃ x,x=W5.heap.size:=⟨_,rfl⟩
     rw [←hgl] at HV ⊢
     clear hgl
     generalize W5.alloc (.cells #[.string ⟨#[]⟩,.string ⟨#[46]⟩,.string ⟨#[97]⟩,.string ⟨#[95,97,46,95,116,99,112,46,98]⟩,.string ⟨#[65,46,66]⟩,.string ⟨#[97,46,46,98]⟩,.string ⟨#[97,46]⟩,.string ⟨#[92,46]⟩,.string ⟨#[92,48,48,48]⟩,.string ⟨#[32]⟩] 9)=W6 at HV HBN ⊢
     have HB6:=Lib.hid (HB5.out.trans (HBN.out.mono HB5.out.size))
     go_loopw [192] (fun vk wr=>∃ j:Nat,j≤10∧vk = .int .i64 j∧Hid (Below W6.heap.size W6 wr)) (fun vk _=>10 - (intOf vk).toNat)
     case atStart=>exact ⟨0,by omega,rfl,Lib.hid (Below.refl _ _)⟩
     case round=>
      obtain ⟨j,hj,rfl,HJ⟩:=hrel
      rcases Nat.lt_or_ge j 10 with hltj | hgej
      ·have hcj:=(HV.out.below HJ.out HV.out.lt).cell j
       rw [sc_get Sm.S10 j hltj] at hcj
       have hs9:(Sm.S10[j]'hltj).length≤9:=Sm.S10_len _ (List.getElem_mem _)
       obtain ⟨s,hs⟩:∃ s,s=Sm.S10[j]'hltj:=⟨_,rfl⟩
       rw [←hs] at hcj hs9
       have KA:=Lib.hid (fun (V:World)=>asks_at 258 s V (by omega) (by omega))
       have KA2:=Lib.hid (fun (V:World)=>asks_at 0 (s++s) V (by omega) (by rw [List.length_append];omega))
       clear hs
       go_wp2_with (first
        | (go_at_call 15;(
           have k2:=KA2.out x1
           refine k2.mono ?_
           rintro e x2 ⟨rfl,hb2⟩
           have HX2:=Lib.hid (HX1.out.trans (hb2.mono HX1.out.size))
           clear hb2 k2))
        | (go_at_call 15;(
           refine (KA.out wr).mono ?_
           rintro e x1 ⟨rfl,hb1'⟩
           have HX1:=Lib.hid hb1'
           clear hb1')))
       go_roundw
       case rel=>
        have hfin:=Lib.hid (HJ.out.trans (HX2.out.mono HJ.out.size))
        first
         | exact ⟨j+1,by omega,by go_num,hfin⟩
         | (repeat apply Exists.intro
            refine ⟨⟨j+1,by omega,?_,hfin⟩,rfl⟩
            go_num)
       case measure=>simp [intOf];omega
      ·have hjB:decide ((j:Int)<10)=false:=by simp only [decide_eq_false_iff_not];omega
       have HB7:=Lib.hid (HB6.out.trans (HJ.out.mono HB6.out.size))
       obtain ⟨W7,hW7⟩:∃ x,x=wr:=⟨wr,rfl⟩
       subst hW7
       have hlit:(Obj.cells (Sm.zc Sm.W8).toArray 3) = .cells #[.int .i64 (-9223372036854775808),.int .i64 (-1),.int .i64 0,.int .i64 1,.int .i64 2,.int .i64 65535,.int .i64 65536,.int .i64 9223372036854775807] 3:=rfl
       have hv:=Vx.new W7 3 (Sm.zc Sm.W8)
       have hbn:=bl_new W7 (.cells (Sm.zc Sm.W8).toArray 3)
       rw [hlit] at hv hbn
       have HV8:=Lib.hid hv
       have HBN8:=Lib.hid hbn
       clear hv hbn hlit HJ HV HBN
       go_wp2_with fail
       obtain ⟨gw,hgw⟩:∃ x,x=W7.heap.size:=⟨_,rfl⟩
       rw [←hgw] at HV8 ⊢
       clear hgw
       generalize W7.alloc (.cells #[.int .i64 (-9223372036854775808),.int .i64 (-1),.int .i64 0,.int .i64 1,.int .i64 2,.int .i64 65535,.int .i64 65536,.int .i64 9223372036854775807] 3)=W8 at HV8 HBN8 ⊢
       have HB8:=Lib.hid (HB7.out.trans (HBN8.out.mono HB7.out.size))
       go_loopw [208] (fun vk wr=>∃ y:Nat,y≤512∧vk = .int .i64 y∧Hid (Below W8.heap.size W8 wr)) (fun vk _=>512 - (intOf vk).toNat)
       case atStart=>exact ⟨0,by omega,rfl,Lib.hid (Below.refl _ _)⟩
       case round=>
        obtain ⟨y,hy,rfl,HY⟩:=hrel
        obtain ⟨W9,hW9⟩:∃ x,x=wr:=⟨wr,rfl⟩
        subst hW9
        rcases Nat.lt_or_ge y 512 with hlty | hgey
        ·obtain ⟨i1,hi1⟩:∃ i,i=y % 8:=⟨_,rfl⟩
         obtain ⟨q8,hq8⟩:∃ i,i=y / 8:=⟨_,rfl⟩
         obtain ⟨i2,hi2⟩:∃ i,i=q8 % 8:=⟨_,rfl⟩
         obtain ⟨i3,hi3⟩:∃ i,i=y / 64:=⟨_,rfl⟩
         obtain ⟨r3,hr3⟩:∃ i,i=y % 3:=⟨_,rfl⟩
         obtain ⟨p2,hp2⟩:∃ i,i=r3 / 2:=⟨_,rfl⟩
         obtain ⟨r5,hr5⟩:∃ i,i=y % 5:=⟨_,rfl⟩
         obtain ⟨p4,hp4⟩:∃ i,i=r5 / 4:=⟨_,rfl⟩
         obtain ⟨t2,ht2⟩:∃ i,i=y % 2:=⟨_,rfl⟩
         have a1:(y:Int) % 8=(i1:Int):=by omega
         have a1':(y:Int).tmod 8=(i1:Int):=by rw [Int.tmod_eq_emod_of_nonneg (by omega)];exact a1
         have a2:(y:Int) / 8=(q8:Int):=by omega
         have a2':(y:Int).tdiv 8=(q8:Int):=by rw [Int.tdiv_eq_ediv_of_nonneg (by omega)];exact a2
         have a3:(q8:Int) % 8=(i2:Int):=by omega
         have a3':(q8:Int).tmod 8=(i2:Int):=by rw [Int.tmod_eq_emod_of_nonneg (by omega)];exact a3
         have a4:(y:Int) / 64=(i3:Int):=by omega
         have a4':(y:Int).tdiv 64=(i3:Int):=by rw [Int.tdiv_eq_ediv_of_nonneg (by omega)];exact a4
         have a5:(y:Int) % 3=(r3:Int):=by omega
         have a5':(y:Int).tmod 3=(r3:Int):=by rw [Int.tmod_eq_emod_of_nonneg (by omega)];exact a5
         have a6:(r3:Int) / 2=(p2:Int):=by omega
         have a6':(r3:Int).tdiv 2=(p2:Int):=by rw [Int.tdiv_eq_ediv_of_nonneg (by omega)];exact a6
         have a7:(y:Int) % 5=(r5:Int):=by omega
         have a7':(y:Int).tmod 5=(r5:Int):=by rw [Int.tmod_eq_emod_of_nonneg (by omega)];exact a7
         have a8:(r5:Int) / 4=(p4:Int):=by omega
         have a8':(r5:Int).tdiv 4=(p4:Int):=by rw [Int.tdiv_eq_ediv_of_nonneg (by omega)];exact a8
         have a9:(y:Int) % 2=(t2:Int):=by omega
         have a9':(y:Int).tmod 2=(t2:Int):=by rw [Int.tmod_eq_emod_of_nonneg (by omega)];exact a9
         have b8:q8<64:=by omega
         have b1:i1<8:=by omega
         have b2:i2<8:=by omega
         have b3:i3<8:=by omega
         have b4:p2≤1:=by omega
         have b5:p4≤1:=by omega
         have b6:t2≤1:=by omega
         have b7:r3≤2:=by omega
         have n1:y % 8=i1:=hi1.symm
         have n2:y / 8=q8:=hq8.symm
         have n3:q8 % 8=i2:=hi2.symm
         have n4:y / 64=i3:=hi3.symm
         have n5:y % 3=r3:=hr3.symm
         have n6:r3 / 2=p2:=hp2.symm
         have n7:y % 5=r5:=hr5.symm
         have n8:r5 / 4=p4:=hp4.symm
         have n9:y % 2=t2:=ht2.symm
         clear hi1 hq8 hi2 hi3 hr3 hp2 hr5 hp4 ht2
         have hv9:=HV8.out.below HY.out HV8.out.lt
         have k1:=hv9.cell i1
         have k2:=hv9.cell i2
         have k3:=hv9.cell i3
         rw [Sm.zc_get Sm.W8 i1 b1] at k1
         rw [Sm.zc_get Sm.W8 i2 b2] at k2
         rw [Sm.zc_get Sm.W8 i3 b3] at k3
         have w1o:=Sm.W8_ok _ (List.getElem_mem (show i1<Sm.W8.length from b1))
         have w2o:=Sm.W8_ok _ (List.getElem_mem (show i2<Sm.W8.length from b2))
         have w3o:=Sm.W8_ok _ (List.getElem_mem (show i3<Sm.W8.length from b3))
         generalize Sm.W8[i1]'b1=x1 at k1 w1o
         generalize Sm.W8[i2]'b2=x2 at k2 w2o
         generalize Sm.W8[i3]'b3=x3 at k3 w3o
         have w8:IntKind.i64.wrap (q8:Int)=(q8:Int):=by rw [IntKind.wrap_i64];omega
         have w3:IntKind.i64.wrap (i3:Int)=(i3:Int):=by rw [IntKind.wrap_i64];omega
         have wp2:IntKind.i64.wrap (p2:Int)=(p2:Int):=by rw [IntKind.wrap_i64];omega
         have wp4:IntKind.i64.wrap (p4:Int)=(p4:Int):=by rw [IntKind.wrap_i64];omega
         have wy:IntKind.i64.wrap ((y:Int) - 100)=(y:Int) - 100:=by rw [IntKind.wrap_i64];omega
         have wt:IntKind.u32.wrap (t2:Int)=(t2:Int):=by simp [IntKind.wrap,IntKind.bits,IntKind.signed];omega
         have k1d:W9.drew.cell? ⟨gw,i1,none⟩=some (.int .i64 x1):=k1
         have k2d:W9.drew.cell? ⟨gw,i2,none⟩=some (.int .i64 x2):=k2
         have k3d:W9.drew.cell? ⟨gw,i3,none⟩=some (.int .i64 x3):=k3
         have c1':(i1:Int)<8:=by omega
         have c2':(i2:Int)<8:=by omega
         have c3':(i3:Int)<8:=by omega
         have k1a:∀ ob,(W9.alloc ob).cell? ⟨gw,i1,none⟩=some (.int .i64 x1):=fun ob=>(Sm.cell_al hv9.lt ob i1).trans k1
         have k2a:∀ ob,(W9.alloc ob).cell? ⟨gw,i2,none⟩=some (.int .i64 x2):=fun ob=>(Sm.cell_al hv9.lt ob i2).trans k2
         have k3a:∀ ob,(W9.alloc ob).cell? ⟨gw,i3,none⟩=some (.int .i64 x3):=fun ob=>(Sm.cell_al hv9.lt ob i3).trans k3
         go_upto_region 45 with fail
         go_region_held3 (fun W=>W.cell? ⟨gw,i1,none⟩=some (.int .i64 x1)∧W.cell? ⟨gw,i2,none⟩=some (.int .i64 x2)∧W.cell? ⟨gw,i3,none⟩=some (.int .i64 x3)) (first | exact ⟨k1d,k2d,k3d⟩ | exact ⟨k1,k2,k3⟩ | exact ⟨k1a _,k2a _,k3a _⟩) (fail)
         obtain ⟨L3,hL3⟩:∃ l:List Ad,l=[⟨[],(y:Int) - 100,0,x1,0⟩,⟨[],-9223372036854775808,(p2:Int),x2,0⟩,⟨[],9223372036854775807,(p4:Int),x3,t2⟩]:=⟨_,rfl⟩
         have hok:∀ x∈L3,AdOk x:=by
          rw [hL3]
          intro x hx
          simp only [List.mem_cons,List.not_mem_nil,or_false] at hx
          rcases hx with rfl | rfl | rfl <;> exact ⟨by simp,by dsimp only;omega,by dsimp only;omega,by dsimp only;omega,by dsimp only;omega,by dsimp only;omega,by dsimp only;omega,by dsimp only;omega⟩
         have hll:L3.length=3:=by rw [hL3];rfl
         have hA:=AsRd.lit W9 L3 3 hll (by omega) hok
         have hcs:(acs L3).toArray=#[.string ⟨#[]⟩,.int .i64 ((y:Int) - 100),.int .i64 0,.int .i64 x1,.int .u32 0,.string ⟨#[]⟩,.int .i64 (-9223372036854775808),.int .i64 (p2:Int),.int .i64 x2,.int .u32 0,.string ⟨#[]⟩,.int .i64 9223372036854775807,.int .i64 (p4:Int),.int .i64 x3,.int .u32 (t2:Int)]:=by rw [hL3];rfl
         rw [hcs] at hA
         have hbA:=(bl_new W9 (.cells #[.string ⟨#[]⟩,.int .i64 ((y:Int) - 100),.int .i64 0,.int .i64 x1,.int .u32 0,.string ⟨#[]⟩,.int .i64 (-9223372036854775808),.int .i64 (p2:Int),.int .i64 x2,.int .u32 0,.string ⟨#[]⟩,.int .i64 9223372036854775807,.int .i64 (p4:Int),.int .i64 x3,.int .u32 (t2:Int)] 31)).drew
         have hA':AsRd (W9.alloc (.cells #[.string ⟨#[]⟩,.int .i64 ((y:Int) - 100),.int .i64 0,.int .i64 x1,.int .u32 0,.string ⟨#[]⟩,.int .i64 (-9223372036854775808),.int .i64 (p2:Int),.int .i64 x2,.int .u32 0,.string ⟨#[]⟩,.int .i64 9223372036854775807,.int .i64 (p4:Int),.int .i64 x3,.int .u32 (t2:Int)] 31)).drew (W9.alloc (.cells #[.string ⟨#[]⟩,.int .i64 ((y:Int) - 100),.int .i64 0,.int .i64 x1,.int .u32 0,.string ⟨#[]⟩,.int .i64 (-9223372036854775808),.int .i64 (p2:Int),.int .i64 x2,.int .u32 0,.string ⟨#[]⟩,.int .i64 9223372036854775807,.int .i64 (p4:Int),.int .i64 x3,.int .u32 (t2:Int)] 31)).drew.heap.size (some ⟨W9.heap.size,0,none⟩) 3 3 L3:=hA
         obtain ⟨gA,hgA⟩:∃ g,g=W9.heap.size:=⟨_,rfl⟩
         rw [←hgA] at hA' ⊢
         clear hA hgA hcs hL3 hok
         generalize (W9.alloc (.cells #[.string ⟨#[]⟩,.int .i64 ((y:Int) - 100),.int .i64 0,.int .i64 x1,.int .u32 0,.string ⟨#[]⟩,.int .i64 (-9223372036854775808),.int .i64 (p2:Int),.int .i64 x2,.int .u32 0,.string ⟨#[]⟩,.int .i64 9223372036854775807,.int .i64 (p4:Int),.int .i64 x3,.int .u32 (t2:Int)] 31)).drew=WB at hA' hbA ⊢
         have HA:=Lib.hid hA'
         have HBB:=Lib.hid ((HB8.out.trans (HY.out.mono HB8.out.size)).trans (hbA.mono (HB8.out.trans (HY.out.mono HB8.out.size)).size))
         have HYB:=Lib.hid (HY.out.trans (hbA.mono HY.out.size))
         have hlitn:(Obj.cells (Sm.uc Sm.N11).toArray 28) = .cells #[.int .u32 0,.int .u32 1,.int .u32 2,.int .u32 3,.int .u32 4,.int .u32 65534,.int .u32 65535,.int .u32 65536,.int .u32 65537,.int .u32 131071,.int .u32 4294967295] 28:=rfl
         have hvn:=Vx.new WB 28 (Sm.uc Sm.N11)
         have hbn:=bl_new WB (.cells (Sm.uc Sm.N11).toArray 28)
         rw [hlitn] at hvn hbn
         have HVN:=Lib.hid hvn
         have HBN9:=Lib.hid hbn
         clear hA' hbA hlitn hvn hbn k1 k2 k3 k1d k2d k3d k1a k2a k3a
         have ks:=fun V=>Sm.run_sl5 (P:=Tryz.prog) V 27 31 5 Tryz.underlying27 szA (some ⟨gA,0,none⟩) 3 3 r3 (by omega)
         go_wp2_with fail
         obtain ⟨gn,hgn⟩:∃ g,g=WB.heap.size:=⟨_,rfl⟩
         rw [←hgn] at HVN ⊢
         clear hgn
         generalize WB.alloc (.cells #[.int .u32 0,.int .u32 1,.int .u32 2,.int .u32 3,.int .u32 4,.int .u32 65534,.int .u32 65535,.int .u32 65536,.int .u32 65537,.int .u32 131071,.int .u32 4294967295] 28)=WC at HVN HBN9 ⊢
         go_loopw [244] (fun vk wr=>∃ j:Nat,j≤11∧vk = .int .i64 j∧Hid (Below WC.heap.size WC wr)) (fun vk _=>11 - (intOf vk).toNat)
         case atStart=>exact ⟨0,by omega,rfl,Lib.hid (Below.refl _ _)⟩
         case round=>
          obtain ⟨j7,hj7,rfl,HJ7⟩:=hrel
          have HBC:=Lib.hid (HBN9.out.trans (HJ7.out.mono HBN9.out.size))
          rcases Nat.lt_or_ge j7 11 with hlt7 | hge7
          ·have hc7:=(HVN.out.below HJ7.out HVN.out.lt).cell j7
           rw [Sm.uc_get Sm.N11 j7 hlt7] at hc7
           have hn32:(Sm.N11[j7]'hlt7)<4294967296:=Sm.N11_ok _ (List.getElem_mem _)
           generalize Sm.N11[j7]'hlt7=n7 at hc7 hn32
           have KL:=Lib.hid (fun (V:World) (hV:Below WB.heap.size WB V)=>lists_at (some ⟨gA,0,none⟩) 3 3 n7 L3 V (HA.out.goes hV) (by omega) hn32 (HENV.out.below (HBB.out.trans (hV.mono HBB.out.size))))
           have KL2:=Lib.hid (fun (V:World) (hV:Below WB.heap.size WB V)=>lists_at (some ⟨gA,0,none⟩) 3 r3 n7 (L3.take r3) V ((HA.out.front (by omega)).goes hV) (by omega) hn32 (HENV.out.below (HBB.out.trans (hV.mono HBB.out.size))))
           go_wp2_with (first
            | (go_at_call 18;(
               refine (KL2.out x1 (HBC.out.trans (HX1.out.mono HBC.out.size))).mono ?_
               rintro e x2 ⟨rfl,hb2⟩
               have HX2:=Lib.hid (HX1.out.trans (hb2.mono HX1.out.size))
               clear hb2))
            | (go_at_call 18;(
               refine (KL.out wr HBC.out).mono ?_
               rintro e x1 ⟨rfl,hb1'⟩
               have HX1:=Lib.hid hb1'
               clear hb1')))
           go_roundw
           case rel=>exact ⟨j7+1,by omega,by go_num,Lib.hid (HJ7.out.trans (HX2.out.mono HJ7.out.size))⟩
           case measure=>simp [intOf];omega
          ·have hj7B:decide ((j7:Int)<11)=false:=by simp only [decide_eq_false_iff_not];omega
           go_wp2_with fail
           go_roundw
           case rel=>exact ⟨y+1,by omega,by go_num,Lib.hid (HYB.out.trans (HBC.out.mono HYB.out.size))⟩
           case measure=>simp [intOf];omega
        ·have hyB:decide ((y:Int)<512)=false:=by simp only [decide_eq_false_iff_not];omega
         have HBY:=Lib.hid (HB8.out.trans (HY.out.mono HB8.out.size))
         go_wp2_with (go_at_call 14;(
          refine (sawake_any W9).mono ?_
          rintro e x1 ⟨rfl,hb1'⟩
          have HX1:=Lib.hid hb1'
          clear hb1'))
         go_ret
         exact ⟨rfl,HBY.out.trans (HX1.out.mono HBY.out.size)⟩
end Go.Proofs.YtlipmlbijddopaaGreatDoor
