/-
  DnsR1; DnsR2
-/
import Derived.Test.YtlipmlbijddopaaGreatDoorZ02
import Derived.Deep.RegionHeld3
import Derived.Deep.DeepCutAuto
set_option linter.unusedVariables false
set_option linter.unusedSimpArgs false
namespace Go.Proofs.YtlipmlbijddopaaGreatDoor
open Go.RowKit
theorem Rd.alloc_top' {w:World} {A:Option Addr} {n:Nat} {xs:List Value} (h:Rd w w.heap.size A n xs) (o:Obj):Rd (w.alloc o) (w.alloc o).heap.size A n xs:=(h.alloc (Nat.le_refl _) o).more (by simp)
theorem Rd.goes {w w':World} {A:Option Addr} {n:Nat} {xs:List Value} (h:Rd w w.heap.size A n xs) (hb:Below w.heap.size w w'):Rd w' w'.heap.size A n xs:=(h.below hb).more hb.size
section
variable {α:Type} (l:List α) (p:α→Bool) (k:Nat)
theorem any_hit (hk:k<l.length) (h:p l[k]=true):decide (0≤(k:Int))=l.any p:=by
 rw [decide_eq_true (by omega),eq_comm,List.any_eq_true]
 exact ⟨l[k],List.getElem_mem hk,h⟩
theorem any_miss (hk:k<l.length) (h0:(l.take k).any p=false) (h:p l[k]=false):(l.take (k+1)).any p=false:=by
 rw [List.take_succ_eq_append_getElem hk,List.any_append,h0];simp [h]
theorem any_end (hk:l.length≤k) (h0:(l.take k).any p=false):decide (0≤(-1:Int))=l.any p:=by
 rw [List.take_of_length_le hk] at h0
 rw [h0];rfl
end
set_option maxRecDepth 100000 in
set_option maxHeartbeats 400000 in
theorem rright_at (x:RR) (w:World) (h:RRd w w.heap.size x) :
 Calls Tryz.prog 128 #[.agg x.cells.toArray] w fun e w'=>e = .returned (.bool (rightR x.r))∧Below w.heap.size w w':=by
 obtain ⟨A,c,dA,dc,tA,tc,⟨⟨nm,ty,cl⟩,ttl,d,pr,we,po,tg⟩⟩:=x
 obtain ⟨⟨⟨hn,hnc,hns⟩,hty,hcl⟩,⟨hd,hdc,hdl⟩,⟨ht,htc,hts⟩,httl,hpr,hwe,hpo⟩:=h
 simp only [RR.qr] at hn hnc hns hty hcl hd hdc hdl ht htc hts httl hpr hwe hpo
 have H1:=Lib.hid hn
 have H2:=Lib.hid ht
 have H3:=Lib.hid hd
 clear hn ht hd
 unfold RR.cells
 simp only
 go_enter Tryz.func128,Tryz.ntmps128
 have hb0:∀ o:Obj,Below w.heap.size w (w.alloc o):=fun o=>(Below.refl _ w).alloc (Nat.le_refl _) o
 go_wp2_with (first
  | (go_at_call 69;refine (right_any tA tc tg _ ((H2.out.alloc_top' _).goes hb2) hts).mono ?_;rintro e w3 ⟨rfl,hb3⟩)
  | (go_at_call 69;refine (right_any A c nm _ (H1.out.alloc_top' _) hns).mono ?_;rintro e w2 ⟨rfl,hb2⟩;obtain ⟨c0,c1,c2,c3,c4,c5,c6,c7,c8⟩:=(Vx.below (Vx.new w 88 (RR.cells ⟨A,c,dA,dc,tA,tc,⟨⟨nm,ty,cl⟩,ttl,d,pr,we,po,tg⟩⟩)) hb2 (by simp)).c9))
 all_goals try go_ret
 all_goals try refine ⟨ret_bool ?_,?_⟩
 all_goals first
  | exact ((hb0 _).trans (hb2.mono (by simp))).trans (hb3.mono ((hb0 _).trans (hb2.mono (by simp))).size)
  | exact (hb0 _).trans (hb2.mono (by simp))
  | skip
 all_goals clear hb0 H1 H2 H3
 all_goals try clear hb3
 all_goals try clear hb2
 all_goals have e33:((ty:Int)=33)=(ty=33):=by simp only [eq_iff_iff];omega
 all_goals have e40:((d.length:Int)≤4096)=(d.length≤4096):=by simp only [eq_iff_iff];omega
 all_goals have e41:(4096<(d.length:Int))=(4096<d.length):=by simp only [eq_iff_iff];omega
 all_goals clear hnc hns hty hcl hdc hdl htc hts httl hpr hwe hpo
 all_goals simp_all [rightR]
 ·rcases tg with _ | ⟨a,t⟩
  ·simp
  ·simp;omega
 ·intros;omega
theorem fits1_at (x:QR) (w:World) (h:QRd w w.heap.size x) :
 Calls Tryz.prog 125 #[.agg x.cells.toArray] w fun e w'=>e = .returned (.bool (!rightN x.q.nm))∧Below w.heap.size w w':=by
 obtain ⟨A,c,⟨nm,ty,cl⟩⟩:=x
 obtain ⟨⟨hn,hnc,hns⟩,hty,hcl⟩:=h
 simp only at hn hnc hns hty hcl
 have H1:=Lib.hid hn
 clear hn
 unfold QR.cells
 simp only
 go_enter Tryz.func125,Tryz.ntmps125
 have hb0:∀ o:Obj,Below w.heap.size w (w.alloc o):=fun o=>(Below.refl _ w).alloc (Nat.le_refl _) o
 go_wp2_with (go_at_call 69;refine (right_any A c nm _ (H1.out.alloc_top' _) hns).mono ?_;rintro e w2 ⟨rfl,hb2⟩)
 go_ret
 exact ⟨rfl,(hb0 _).trans (hb2.mono (by simp))⟩
theorem fits2_at (x:RR) (w:World) (h:RRd w w.heap.size x) :
 Calls Tryz.prog 127 #[.agg x.cells.toArray] w fun e w'=>e = .returned (.bool (!rightR x.r))∧Below w.heap.size w w':=by
 obtain ⟨A,c,dA,dc,tA,tc,⟨⟨nm,ty,cl⟩,ttl,d,pr,we,po,tg⟩⟩:=x
 have H:=Lib.hid h
 unfold RR.cells
 simp only
 go_enter Tryz.func127,Tryz.ntmps127
 have hb0:∀ o:Obj,Below w.heap.size w (w.alloc o):=fun o=>(Below.refl _ w).alloc (Nat.le_refl _) o
 go_wp2_with (go_at_call 128;refine (rright_at ⟨A,c,dA,dc,tA,tc,⟨⟨nm,ty,cl⟩,ttl,d,pr,we,po,tg⟩⟩ _ ((H.out.below (hb0 _)).more (by simp))).mono ?_;rintro e w2 ⟨rfl,hb2⟩)
 go_ret
 exact ⟨rfl,(hb0 _).trans (hb2.mono (by simp))⟩
set_option maxRecDepth 100000 in
set_option maxHeartbeats 400000 in
theorem idxQ_at (A:Option Addr) (c n:Nat) (l:List QR) (w:World) (h:QsRd w w.heap.size A c n l) :
 Calls Tryz.prog 161 #[.slice A n c,.func (.func 125) #[] #[]] w fun e w'=>∃ r:Int,e = .returned (.int .i64 r)∧decide (0≤r)=l.any (fun x=>!rightN x.q.nm)∧Below w.heap.size w w':=by
 have hn:=h.2.1
 have hn':=h.2.2.2.1
 have H:=Lib.hid h
 clear h
 go_enter Tryz.func161,Tryz.ntmps161
 go_wp2_with fail
 go_loopw [8] (fun i wr=>∃ k:Nat,k≤n∧i = .int .i64 k∧(l.take k).any (fun x=>!rightN x.q.nm)=false∧Below w.heap.size w wr) (fun i _=>n - (intOf i).toNat)
 case atStart=>exact ⟨0,Nat.zero_le _,rfl,rfl,Below.refl _ _⟩
 case round=>
  obtain ⟨k,hk,rfl,hall,hbel⟩:=hrel
  rcases Nat.lt_or_ge k n with hlt | hge
  ·have hkl:k<l.length:=by omega
   obtain ⟨b,o,rfl,_,hc⟩:=(H.out.below hbel).at_ hlt
   obtain ⟨c0,c1,c2⟩:=hc hkl
   have HX:=Lib.hid (((H.out.below hbel).2.2.2.2 l[k] (List.getElem_mem hkl)).more hbel.size)
   clear hc
   go_wp2_with (go_at_call 125;refine (fits1_at l[k] _ HX.out).mono ?_;rintro e w2 ⟨rfl,hb2⟩)
   ·go_ret
    exact ⟨k,rfl,any_hit l _ k hkl (by assumption),hbel.trans (hb2.mono hbel.size)⟩
   ·exact ⟨⟨k+1,by omega,by go_num,any_miss l _ k hkl hall (by assumption),hbel.trans (hb2.mono hbel.size)⟩,by simp [intOf];omega⟩
  ·go_wp2_with fail
   go_ret
   exact ⟨-1,rfl,any_end l _ k (by omega) hall,hbel⟩
set_option maxRecDepth 100000 in
set_option maxHeartbeats 400000 in
theorem idxR_at (A:Option Addr) (c n:Nat) (l:List RR) (w:World) (h:RsRd w w.heap.size A c n l) :
 Calls Tryz.prog 162 #[.slice A n c,.func (.func 127) #[] #[]] w fun e w'=>∃ r:Int,e = .returned (.int .i64 r)∧decide (0≤r)=l.any (fun x=>!rightR x.r)∧Below w.heap.size w w':=by
 have hn:=h.2.1
 have hn':=h.2.2.2.1
 have H:=Lib.hid h
 clear h
 go_enter Tryz.func162,Tryz.ntmps162
 go_wp2_with fail
 go_loopw [8] (fun i wr=>∃ k:Nat,k≤n∧i = .int .i64 k∧(l.take k).any (fun x=>!rightR x.r)=false∧Below w.heap.size w wr) (fun i _=>n - (intOf i).toNat)
 case atStart=>exact ⟨0,Nat.zero_le _,rfl,rfl,Below.refl _ _⟩
 case round=>
  obtain ⟨k,hk,rfl,hall,hbel⟩:=hrel
  rcases Nat.lt_or_ge k n with hlt | hge
  ·have hkl:k<l.length:=by omega
   obtain ⟨b,o,rfl,_,hc⟩:=(H.out.below hbel).at_ hlt
   obtain ⟨c0,c1,c2,c3,c4,c5,c6,c7,c8⟩:=(hc hkl).cells
   have HX:=Lib.hid (((H.out.below hbel).2.2.2.2 l[k] (List.getElem_mem hkl)).more hbel.size)
   clear hc
   go_wp2_with (go_at_call 127;refine (fits2_at l[k] _ HX.out).mono ?_;rintro e w2 ⟨rfl,hb2⟩)
   ·go_ret
    exact ⟨k,rfl,any_hit l _ k hkl (by assumption),hbel.trans (hb2.mono hbel.size)⟩
   ·exact ⟨⟨k+1,by omega,by go_num,any_miss l _ k hkl hall (by assumption),hbel.trans (hb2.mono hbel.size)⟩,by simp [intOf];omega⟩
  ·go_wp2_with fail
   go_ret
   exact ⟨-1,rfl,any_end l _ k (by omega) hall,hbel⟩
theorem conQ_at (A:Option Addr) (c n:Nat) (l:List QR) (w:World) (h:QsRd w w.heap.size A c n l) :
 Calls Tryz.prog 124 #[.slice A n c,.func (.func 125) #[] #[]] w fun e w'=>e = .returned (.bool (l.any (fun x=>!rightN x.q.nm)))∧Below w.heap.size w w':=by
 have H:=Lib.hid h
 clear h
 go_enter Tryz.func124,Tryz.ntmps124
 go_wp2_with (go_at_call 161;refine (idxQ_at A c n l _ H.out).mono ?_;rintro e w2 ⟨r,rfl,hr,hb2⟩)
 go_ret
 exact ⟨rfl,hb2⟩
theorem conR_at (A:Option Addr) (c n:Nat) (l:List RR) (w:World) (h:RsRd w w.heap.size A c n l) :
 Calls Tryz.prog 126 #[.slice A n c,.func (.func 127) #[] #[]] w fun e w'=>e = .returned (.bool (l.any (fun x=>!rightR x.r)))∧Below w.heap.size w w':=by
 have H:=Lib.hid h
 clear h
 go_enter Tryz.func126,Tryz.ntmps126
 go_wp2_with (go_at_call 162;refine (idxR_at A c n l _ H.out).mono ?_;rintro e w2 ⟨r,rfl,hr,hb2⟩)
 go_ret
 exact ⟨rfl,hb2⟩
end Go.Proofs.YtlipmlbijddopaaGreatDoor
set_option linter.unusedVariables false
set_option linter.unusedSimpArgs false
namespace Go.Proofs.YtlipmlbijddopaaGreatDoor
open Go.RowKit
theorem part_cell (W:World) (cs:Array Value) (k:Nat) (v:Value) (h:cs[k]? = some v):(part 69 cs k).run Tryz.prog W = .ok v W:=by
 have hagg:(isAgg 69).run Tryz.prog W = .ok false W:=by
  unfold isAgg
  simp [run_underlying Tryz.underlying69]
 unfold part
 simp [hagg,h]
theorem idx3_0 (W:World) (a b c:Value):(Instr.index 70 (.agg #[a,b,c]) (.int .i64 0)).run Tryz.prog W = .ok a W:=by
 have hz:(sizeOf 69).run Tryz.prog W = .ok 1 W:=by kernel_rfl
 simp [Instr.index,run_underlying Tryz.underlying70,asIntOf,hz,part_cell W #[a,b,c] 0 a rfl]
theorem idx3_1 (W:World) (a b c:Value):(Instr.index 70 (.agg #[a,b,c]) (.int .i64 1)).run Tryz.prog W = .ok b W:=by
 have hz:(sizeOf 69).run Tryz.prog W = .ok 1 W:=by kernel_rfl
 simp [Instr.index,run_underlying Tryz.underlying70,asIntOf,hz,part_cell W #[a,b,c] 1 b rfl]
theorem idx3_2 (W:World) (a b c:Value):(Instr.index 70 (.agg #[a,b,c]) (.int .i64 2)).run Tryz.prog W = .ok c W:=by
 have hz:(sizeOf 69).run Tryz.prog W = .ok 1 W:=by kernel_rfl
 simp [Instr.index,run_underlying Tryz.underlying70,asIntOf,hz,part_cell W #[a,b,c] 2 c rfl]
def MR.numK (x:MR):Nat→Nat
 | 0=>x.qs.length
 | 1=>x.qs.length+x.r0.length
 | 2=>x.qs.length+x.r0.length+x.r1.length
 | _=>x.qs.length+x.r0.length+x.r1.length+x.r2.length
def MR.okK (x:MR):Nat→Bool
 | 0=>x.qs.all fun q=>rightN q.q.nm
 | 1=>(x.qs.all fun q=>rightN q.q.nm) && x.r0.all fun r=>rightR r.r
 | 2=>((x.qs.all fun q=>rightN q.q.nm) && x.r0.all fun r=>rightR r.r) && x.r1.all fun r=>rightR r.r
 | _=>(((x.qs.all fun q=>rightN q.q.nm) && x.r0.all fun r=>rightR r.r) && x.r1.all fun r=>rightR r.r) && x.r2.all fun r=>rightR r.r
theorem MR.numK_3 (x:MR):x.numK 3=x.m.num:=by simp [MR.numK,Ms.num,MR.m]
theorem MR.okK_3 (x:MR):x.okK 3=rightM x.m:=by simp [MR.okK,rightM,MR.m,List.all_map,Function.comp_def,Bool.and_assoc]
theorem all_not {α:Type} (l:List α) (p:α→Bool):(!l.any fun x=>!p x)=l.all p:=by
 induction l with
 | nil=>rfl
 | cons a l ih=>simp only [List.any_cons,List.all_cons,Bool.not_or,Bool.not_not,ih]
theorem MR.num_le (x:MR) (h0:x.qs.length≤1000000000000) (h1:x.r0.length≤1000000000000) (h2:x.r1.length≤1000000000000) (h3:x.r2.length≤1000000000000) (k:Nat):x.numK k≤4000000000000:=by
 unfold MR.numK
 split <;> omega
set_option maxRecDepth 100000 in
set_option maxHeartbeats 400000 in
theorem fits_at (x:MR) (w:World) (h:MRd w w.heap.size x) :
 Calls Tryz.prog 86 #[.agg x.cells.toArray] w fun e w'=>e = .returned (.tuple #[.int .i64 (x.m.num:Int),.bool (rightM x.m)])∧Below w.heap.size w w':=by
 rw [←x.numK_3,←x.okK_3]
 have hle:=x.num_le h.2.2.1.2.2.2.1 h.2.2.2.1.2.2.2.1 h.2.2.2.2.1.2.2.2.1 h.2.2.2.2.2.2.2.2.1
 have l0:=h.2.2.2.1.2.2.2.1
 have l1:=h.2.2.2.2.1.2.2.2.1
 have l2:=h.2.2.2.2.2.2.2.2.1
 have HQ:=Lib.hid h.2.2.1
 have H0:=Lib.hid h.2.2.2.1
 have H1:=Lib.hid h.2.2.2.2.1
 have H2:=Lib.hid h.2.2.2.2.2
 clear h
 have hq:x.qs.length=x.numK 0:=rfl
 unfold MR.cells
 go_enter Tryz.func86,Tryz.ntmps86
 have hb0:∀ o:Obj,Below w.heap.size w (w.alloc o):=fun o=>(Below.refl _ w).alloc (Nat.le_refl _) o
 go_wp2_with (go_at_call 124;refine (conQ_at x.qA x.qc _ x.qs _ ((HQ.out.below (hb0 _)).more (by simp))).mono ?_;rintro e w2 ⟨rfl,hb2⟩;obtain ⟨c0,c1,c2,c3,c4,c5⟩:=(Vx.below (Vx.new w 72 x.cells) hb2 (by simp)).c6)
 have hB:Below w.heap.size w w2:=(hb0 _).trans (hb2.mono (by simp))
 clear hb2 hb0 HQ
 go_loopw [4,5,7,17] (fun v4 v5 _ i wr=>∃ k:Nat,k≤3∧v4 = .int .i64 (x.numK k:Int)∧v5 = .bool (x.okK k)∧i = .int .i64 k∧Below w.heap.size w wr) (fun _ _ _ i _=>3 - (intOf i).toNat)
 case atStart=>exact ⟨0,by omega,rfl,congrArg Value.bool (all_not _ _),rfl,hB⟩
 case round=>
  obtain ⟨k,hk,rfl,rfl,rfl,hbel⟩:=hrel
  clear hB
  have hi0:=idx3_0
  have hi1:=idx3_1
  have hi2:=idx3_2
  have hlk:=hle k
  rcases (show k=0∨k=1∨k=2∨k=3 by omega) with rfl | rfl | rfl | rfl
  ·have HX:=Lib.hid ((H0.out.below hbel).more hbel.size)
   go_wp2_with (go_at_call 126;refine (conR_at _ _ _ x.r0 _ HX.out).mono ?_;rintro e w3 ⟨rfl,hb3⟩)
   ·have hok:x.okK 0=true:=by assumption
    go_roundw
    case rel=>exact ⟨1,by omega,by simp [MR.numK],by rw [show x.okK 1=(x.okK 0 && x.r0.all fun r=>rightR r.r) from rfl,hok,all_not];rfl,rfl,hbel.trans (hb3.mono hbel.size)⟩
    case measure=>simp [intOf]
   ·have hok:x.okK 0=false:=Bool.eq_false_iff.2 (by assumption)
    go_roundw
    case rel=>exact ⟨1,by omega,by simp [MR.numK],by rw [show x.okK 1=(x.okK 0 && x.r0.all fun r=>rightR r.r) from rfl,hok];rfl,rfl,hbel⟩
    case measure=>simp [intOf]
  ·have HX:=Lib.hid ((H1.out.below hbel).more hbel.size)
   go_wp2_with (go_at_call 126;refine (conR_at _ _ _ x.r1 _ HX.out).mono ?_;rintro e w3 ⟨rfl,hb3⟩)
   ·have hok:x.okK 1=true:=by assumption
    go_roundw
    case rel=>exact ⟨2,by omega,by simp [MR.numK],by rw [show x.okK 2=(x.okK 1 && x.r1.all fun r=>rightR r.r) from rfl,hok,all_not];rfl,rfl,hbel.trans (hb3.mono hbel.size)⟩
    case measure=>simp [intOf]
   ·have hok:x.okK 1=false:=Bool.eq_false_iff.2 (by assumption)
    go_roundw
    case rel=>exact ⟨2,by omega,by simp [MR.numK],by rw [show x.okK 2=(x.okK 1 && x.r1.all fun r=>rightR r.r) from rfl,hok];rfl,rfl,hbel⟩
    case measure=>simp [intOf]
  ·have HX:=Lib.hid ((H2.out.below hbel).more hbel.size)
   go_wp2_with (go_at_call 126;refine (conR_at _ _ _ x.r2 _ HX.out).mono ?_;rintro e w3 ⟨rfl,hb3⟩)
   ·have hok:x.okK 2=true:=by assumption
    go_roundw
    case rel=>exact ⟨3,by omega,by simp [MR.numK],by rw [show x.okK 3=(x.okK 2 && x.r2.all fun r=>rightR r.r) from rfl,hok,all_not];rfl,rfl,hbel.trans (hb3.mono hbel.size)⟩
    case measure=>simp [intOf]
   ·have hok:x.okK 2=false:=Bool.eq_false_iff.2 (by assumption)
    go_roundw
    case rel=>exact ⟨3,by omega,by simp [MR.numK],by rw [show x.okK 3=(x.okK 2 && x.r2.all fun r=>rightR r.r) from rfl,hok];rfl,rfl,hbel⟩
    case measure=>simp [intOf]
  ·go_wp2_with fail
   go_ret2
   exact ⟨rfl,hbel⟩
end Go.Proofs.YtlipmlbijddopaaGreatDoor
