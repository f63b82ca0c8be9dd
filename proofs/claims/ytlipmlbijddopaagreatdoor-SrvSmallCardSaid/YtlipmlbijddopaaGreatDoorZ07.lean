/-
  AppOk
-/
import Derived.Test.YtlipmlbijddopaaGreatDoorZ06
import Derived.Deep.DeepCutAuto
set_option linter.unusedVariables false
set_option linter.unusedSimpArgs false
namespace Go.Proofs.YtlipmlbijddopaaGreatDoor
open Go.RowKit Go.Shelf
attribute [local go_sem] Oper.semAt_some
theorem Ow.setc {w:World} {base:Nat} {e:TypeId} {v:Value} {xs:List Value} (h:Ow w base e v xs) (b:Nat) (u:Value) (hne:∀ g,v.ownBlock=some g→g≠b):Ow (w.setCell ⟨b,0,none⟩ u) base e v xs:=
 World.ownsRow.kept h (grownBy_setCell' w b u) (by
  cases hv:v.ownBlock with
  | none=>exact .inl rfl
  | some g=>exact .inr (fun e=>hne g hv (by injection e)))
theorem Ow.made_at (w:World) (e:TypeId) (cur:Array Value) (cap g:Nat) (hg:g=w.heap.size) (hm:cap≤maxLen) (hs:cur.size=cap):Ow (w.alloc (.cells cur e)) w.heap.size e (.slice (some ⟨g,0,none⟩) 0 cap) []:=by
 subst hg;exact Ow.made w e cur cap hm hs
section
variable {P:Program}
theorem step_first (W:World) {ops:Array Oper} {o:Oper} {a:Act} {K:Act→World→Prop} {Q:Exit→Act→World→Prop} {E:Prop} (hgd:o.guard=none) (s x:Operand) (t tx:TypeId)
 (ho:o.op = .call { callee:=.builtin .append,args:=#[s,x],argTypes:=#[t,tx] })
 (B:Nat) (e:TypeId) (i:TypeInfo) (z:Value) (bytes:Nat) (ht:P.underlying t=some (.slice e)) (hi:P.info? e=some i) (hz:i.zero=some z)
 (hsize:i.size=1) (hby:i.bytes=bytes) (hzs:z.cells.size=1) (hb1:1≤bytes)
 (g M:Nat) (hown:Ow W B e (.slice (some ⟨g,0,none⟩) 0 M) []) (hB:B≤g) (hBW:B≤W.heap.size) (hv:a.eval s = .slice (some ⟨g,0,none⟩) 0 M) (A:Option Addr) (c:Nat) (xs:List Value) (hx:a.eval x = .slice A xs.length c)
 (hs:Src P 1 tx (.slice A xs.length c) xs.length xs W) (hbytes:xs.length*bytes≤140737488355328)
 (h:∀ v' w',Ow w' B e v' xs→Below B W w'→(∀ g',v'.ownBlock=some g'→g'=g∨W.heap.size≤g')→(∀ g',v'.ownBlock=some g'→g'<w'.heap.size)→(∀ p:Addr,p.block<W.heap.size→p.block≠g→w'.cell? p=W.cell? p∧w'.frozen? p=W.frozen? p)→K (a.put o.dst v') w') :
 if Region.wanted o (yielded ops a.tmps)=true then Oper.wp P o a W K Q else E:=by
 refine step_app W hgd s x t tx ho B e i z bytes ht hi hz hsize hby hzs hb1 _ [] hown hv _ hx xs.length xs hs (by simpa using hbytes) hBW ?_
 intro v' w' h1 h2 h3
 refine h v' w' (by simpa using h1) (h2.below (fun g' hg=>?_) hBW) (fun g' hg=>?_) (fun g' hg=>(World.ownsRow.lt h1 g' hg).2) (fun p hp hne=>⟨h2.cell hp (fun g' hg=>by simp [Value.ownBlock] at hg;omega),h2.frozen hp (fun g' hg=>by simp [Value.ownBlock] at hg;omega)⟩)
 ·simp [Value.ownBlock] at hg;omega
 ·rcases h2.2 g' hg with h4 | h4
  ·simp [Value.ownBlock] at h4;exact .inl h4.symm
  ·exact .inr h4
end
theorem chain_mem (b:List UInt8):∀ (f p:Nat) (x:Int),x∈chain b f p→0≤x∧x≤b.length:=by
 intro f
 induction f with
 | zero=>intro p x h;simp [chain] at h
 | succ f ih=>
   intro p x h
   rw [chain] at h
   split at h
   ·rcases List.mem_append.1 h with h | h
    ·split at h
     ·rename_i hz
      have h:=List.mem_singleton.1 h
      have:p+(1+(b.getD p 0).toNat)<b.length:=by
       rcases Nat.lt_or_ge (p+(1+(b.getD p 0).toNat)) b.length with h1 | h1
       ·exact h1
       ·rw [List.getD_eq_getElem?_getD,List.getElem?_eq_none h1] at hz;simp at hz
      omega
     ·simp at h
    ·exact ih _ _ h
   ·simp at h
theorem places_mem (b:List UInt8) (known:List Int) (x:Int) (h:x∈placesN b known):0≤x∧x≤b.length:=by
 unfold placesN placesU at h
 rw [List.mem_mergeSort,List.mem_flatMap] at h
 obtain ⟨y,_,h⟩:=h
 unfold place1 at h
 split at h
 ·rename_i hy
  rcases List.mem_cons.1 h with rfl | h
  ·exact ⟨hy.1,hy.2.1⟩
  ·exact chain_mem b _ _ _ h
 ·simp at h
theorem rd_len (b:List UInt8):∀ (f bg en p nx sz:Nat) (out:List (List UInt8)),(rd b f bg en p nx sz out).1.length≤out.length+(255 - sz):=by
 intro f
 induction f with
 | zero=>intro bg en p nx sz out;simp [rd]
 | succ f ih=>
   intro bg en p nx sz out
   rw [rd]
   split
   ·split
    ·simp
    ·split
     ·split
      ·simp
      ·split
       ·simp
       ·have:=ih bg en (p+(1+(b.getD p 0).toNat)) nx (sz+(1+(b.getD p 0).toNat)) (out++[smallS ((b.drop (p+1)).take (b.getD p 0).toNat)])
        rw [List.length_append,List.length_singleton] at this
        omega
     ·split
      ·simp
      ·split
       ·simp
       ·split
        ·simp
        ·exact ih ..
   ·simp
theorem readN_len (b:List UInt8) (p:Nat):(readN b p).1.length≤255:=by
 unfold readN
 split
 ·have:=rd_len b (rdM b p b.length p) p b.length p 0 1 []
  simp at this;omega
 ·simp
theorem wp_app {P:Program} (w:World) {o:Oper} {a:Act} {K:Act→World→Prop} {Q:Exit→Act→World→Prop} (hgd:o.guard=none) (s x:Operand) (t tx:TypeId)
 (ho:o.op = .call { callee:=.builtin .append,args:=#[s,x],argTypes:=#[t,tx] })
 (base:Nat) (e:TypeId) (i:TypeInfo) (z:Value) (bytes:Nat) (ht:P.underlying t=some (.slice e)) (hi:P.info? e=some i) (hz:i.zero=some z)
 (hsize:i.size=1) (hby:i.bytes=bytes) (hzs:z.cells.size=1) (hb1:1≤bytes)
 (v:Value) (xs:List Value) (hown:Ow w base e v xs) (hv:a.eval s=v) (xv:Value) (hx:a.eval x=xv) (n:Nat) (news:List Value) (hs:Src P 1 tx xv n news w)
 (hbytes:(xs.length+n)*bytes≤140737488355328) (hbase:base≤w.heap.size)
 (h:∀ v' w',Ow w' base e v' (xs++news)→Gr w w' v v'→base≤w'.heap.size→K (a.put o.dst v') w'):Oper.wp P o a w K Q:=by
 have hw:Region.wanted o (yielded #[] a.tmps)=true:=by simp [Region.wanted,hgd]
 have:=step_app w (ops:=#[]) (E:=True) (Q:=Q) hgd s x t tx ho base e i z bytes ht hi hz hsize hby hzs hb1 v xs hown hv xv hx n news hs hbytes hbase h
 rwa [if_pos hw] at this
theorem Ow.isCells {w:World} {base:Nat} {e:TypeId} {v:Value} {xs:List Value} (h:Ow w base e v xs):∀ (j:Nat) (o:Obj),v.ownBlock=some j→w.heap[j]? = some o→o.isCells=true:=by
 intro j o hj ho
 rcases h.2 with ⟨rfl,_⟩ | ⟨g,cap,cur,rfl,_,hc,_⟩
 ·cases hj
 ·simp [Value.ownBlock] at hj
  subst hj
  rw [hc] at ho
  cases ho
  rfl
theorem appGo_none (b:List UInt8) (all:List Int) (n:List (List UInt8)):∀ (f i:Nat),(∀ y,i≤y→y<i+f→all.find? (hit b (n.drop y))=none)→appGo b all n f i=b++labS n++[0]:=by
 intro f
 induction f with
 | zero=>intro i _;rfl
 | succ f ih=>
   intro i h
   rw [appGo,h i (Nat.le_refl _) (by omega)]
   exact ih (i+1) (fun y h1 h2=>h y (by omega) (by omega))
theorem appGo_some (b:List UInt8) (all:List Int) (n:List (List UInt8)) (a:Int) (x:Nat):∀ (f i:Nat),i≤x→x<i+f→(∀ y,i≤y→y<x→all.find? (hit b (n.drop y))=none)→all.find? (hit b (n.drop x))=some a→appGo b all n f i=b++labS (n.take x)++ptr a:=by
 intro f
 induction f with
 | zero=>intro i h1 h2;omega
 | succ f ih=>
   intro i h1 h2 h3 h4
   rcases Nat.lt_or_ge i x with h | h
   ·rw [appGo,h3 i (Nat.le_refl _) h]
    exact ih (i+1) h (by omega) (fun y h5 h6=>h3 y (by omega) h6) h4
   ·obtain rfl:i=x:=by omega
    rw [appGo,h4]
theorem fin_pre {m k:Nat} {pre:List (Fin m)} {x:Fin m} (h:(List.finRange m).take k=pre++[x]):∀ y:Fin m,y.1<x.1→y∈pre:=by
 have hl:=congrArg List.length h
 simp at hl
 have hx:(pre++[x])[pre.length]? = some x:=by simp
 rw [←h,List.getElem?_take_of_lt (by omega),List.getElem?_eq_getElem (by simp;omega)] at hx
 have hx':x.1=pre.length:=by
  have:=congrArg (Option.map Fin.val) hx
  simpa using this.symm
 intro y hy
 have hy2:(pre++[x])[y.1]? = some y:=by
  rw [←h,List.getElem?_take_of_lt (by omega),List.getElem?_eq_getElem (by simp)]
  simp
 rw [List.getElem?_append_left (by omega)] at hy2
 exact List.mem_of_getElem? hy2
theorem two_cells (w:World) (u u':Value) (e:TypeId):(w.alloc (.cells #[u,u'] e)).cell? ⟨w.heap.size,0,none⟩=some u∧(w.alloc (.cells #[u,u'] e)).cell? ⟨w.heap.size,1,none⟩=some u':=by
 have h:=World.alloc_heap_new w (.cells #[u,u'] e)
 generalize w.alloc (.cells #[u,u'] e)=W at h
 constructor <;> simp [World.cell?,h]
theorem two_src {P:Program} {w:World} {tx e':TypeId} (hk:P.underlying tx=some (.slice e')) (g c:Nat) (u u':Value) (h1:w.cell? ⟨g,0,none⟩=some u) (h2:w.cell? ⟨g,1,none⟩=some u') (o1:u.oneCell'=true) (o2:u'.oneCell'=true):Src P 1 tx (.slice (some ⟨g,0,none⟩) 2 c) 2 [u,u'] w:=by
 refine Src.ofSlice w hk _ 2 c [u,u'] rfl (fun j v hj=>?_) (by simp [o1,o2])
 match j,hj with
 | 0,hj=>cases hj;exact h1
 | 1,hj=>cases hj;exact h2
theorem bc_ptr (pre:List UInt8) (p:Nat) (hp:p<16384):bc (pre++ptr (p:Int))=bc pre++[Value.int .u8 (192+(p:Int) / 256),Value.int .u8 ((p:Int) % 256)]:=by
 have e1:((UInt8.ofNat (192+p / 256)).toNat:Int)=192+(p:Int) / 256:=by
  rw [UInt8.toNat_ofNat'];omega
 have e2:((UInt8.ofNat p).toNat:Int)=(p:Int) % 256:=by
  rw [UInt8.toNat_ofNat'];omega
 unfold bc ptr
 rw [List.map_append]
 simp only [List.map_cons,List.map_nil,Int.toNat_natCast,e1,e2]
theorem labels_len (v:Value) (pre:List UInt8) (A:Option Addr) (c:Nat) (n:List (List UInt8)) (k:Nat) (w:World) (B:Nat) (hB:B≤w.heap.size) (h:Rd w B A n.length (sc n)) (hc:n.length≤c) (hk:k≤n.length)
 (hown:Ow w B 5 v (bc pre)) (hs:pre.length+sizeN n≤140737488355328) :
 Calls Tryz.prog 165 #[v,.slice A k c] w fun e w'=>∃ v',e = .returned v'∧Ow w' B 5 v' (bc (pre++labS (n.take k)))∧Gr w w' v v':=by
 have hl:(n.take k).length=k:=by simp;omega
 have h':=h.cut (k:=0) (m:=k) (cap:=c) (by omega) hk hc
 rw [cutA_zero,List.drop_zero,Nat.sub_zero] at h'
 have e:(sc n).take k=sc (n.take k):=by simp [sc,List.map_take]
 rw [e] at h'
 have:=labels_any v pre A c (n.take k) w B hB (by rw [hl];exact h') hown (by have:=sizeN_take_le n k;omega)
 rwa [hl] at this
theorem seq_len (A1 A2:Option Addr) (c1 c2 k:Nat) (l m:List (List UInt8)) (w:World) (B:Nat) (hk:m.length=k) (h1:Rd w B A1 l.length (sc l)) (h2:Rd w B A2 k (sc m)) (hl:l.length≤140737488355328) (hm:k≤140737488355328) :
 Calls Tryz.prog 34 #[.slice A1 l.length c1,.slice A2 k c2] w fun e w'=>e = .returned (.bool (decide (l=m)))∧∃ q,w'=w.drewN q:=by
 subst hk;exact seq_any A1 A2 c1 c2 l m w B h1 h2 hl hm
theorem keeps_below {W W':World} (h:Below W.heap.size W W'):KeepsOthers W W':=
 ⟨h.size,fun k o hk ho=>(h.block k (Array.getElem?_eq_some_iff.1 hk).1).trans hk⟩
theorem find_none_step {α:Type} (l:List α) (p:α→Bool) (h:∀ j (hj:j<l.length),p l[j]=false):l.find? p=none:=by
 rw [List.find?_eq_none]
 intro x hx
 obtain ⟨j,hj,rfl⟩:=List.getElem_of_mem hx
 rw [h j hj];simp
theorem find_some_at {α:Type} (l:List α) (p:α→Bool) (k:Nat) (hk:k<l.length) (h:∀ j (hj:j<k),p l[j]=false) (h1:p l[k]=true):l.find? p=some l[k]:=by
 rw [List.find?_eq_some_iff_getElem]
 refine ⟨h1,k,hk,rfl,fun j hj=>?_⟩
 rw [h j hj];rfl
set_option maxRecDepth 100000 in
set_option maxHeartbeats 4000000 in
theorem append_ok (A1 A2 A3:Option Addr) (c1 c2 c3:Nat) (b:List UInt8) (known:List Int) (n:List (List UInt8)) (w:World)
 (h1:Rd w w.heap.size A1 b.length (bc b)) (hc1:b.length≤c1) (hb:b.length≤100000000000) (h2:Rd w w.heap.size A2 known.length (ic known)) (hk:known.length≤140737488355328) (hM:(placesU b known).length≤1000000000)
 (h3:Rd w w.heap.size A3 n.length (sc n)) (hc3:n.length≤c3) (hr:rightN n=true) :
 Calls Tryz.prog 129 #[.slice A1 b.length c1,.slice A2 known.length c2,.slice A3 n.length c3] w fun e w'=>∃ v,e = .returned (.tuple #[v,.int .i64 0])∧Ow w' w.heap.size 5 v (bc (appN b known n))∧Below w.heap.size w w':=by
 obtain ⟨i0,hi,hz0,hz1,hz2⟩:=info_parts Tryz.infoByte
 have hsn:=size_right hr
 refine (callsIn_wide (n:=5)).1 ?_
 refine callsIn_of_wp_marks Tryz.func129 rfl trivial ?_ rfl
 simp only [Tryz.ntmps129,List.size_toArray,List.length_cons,List.length_nil,Nat.reduceAdd,Nat.reduceSub,Array.replicate_succ,Array.replicate_zero,List.push_toArray,List.append_toArray,List.nil_append,List.cons_append]
 refine wpIn_wide.2 ?_
 go_wp2_with fail
 have hb0:=w4_below w A1 A3 b.length c1 n.length c3
 have hv0:=w4_vars w A1 A3 b.length c1 n.length c3
 have hw0:w4 w A1 A3 b.length c1 n.length c3=((((w.alloc (.cells #[.slice A1 b.length c1] 22)).alloc (.cells #[.slice A3 n.length c3] 38)).alloc (.cells #[.slice none 0 0] 22)).alloc (.cells #[.int .i64 0] 63)):=rfl
 rw [←hw0]
 clear hw0
 generalize w4 w A1 A3 b.length c1 n.length c3=w0 at *
 refine (right_any A3 c3 n w0 ((h3.below hb0).more hb0.size) (by omega)).mono ?_
 rw [hr]
 rintro e w1 ⟨rfl,hb1⟩
 have hv1:=hv0.below hb1 hv0.1
 have hbw:=hb0.trans (hb1.mono hb0.size)
 have hsum:IntKind.i64.wrap ((b.length:Int)+(sizeN n:Int))=(b.length:Int)+(sizeN n:Int):=by rw [IntKind.wrap_i64];omega
 have hmk:∀ W:World,(Instr.makeSlice 22 (.int .i64 0) (.int .i64 ((b.length:Int)+(sizeN n:Int)))).run Tryz.prog W = .ok (.slice (some ⟨W.heap.size,0,none⟩) 0 (b.length+sizeN n)) (W.alloc (.cells (madeCells #[.int .u8 0] (b.length+sizeN n)) 5)):=fun W=>by
  have:=run_make (P:=Tryz.prog) W 22 5 i0 (.int .u8 0) Tryz.underlying22 hi hz0 .i64 .i64 0 ((b.length:Int)+(sizeN n:Int)) (Int.le_refl _) (by omega) (by rw [hz2];omega) (by omega)
  rw [this,hz1]
  have e:((b.length:Int)+(sizeN n:Int)).toNat=b.length+sizeN n:=by omega
  rw [e,Nat.mul_one]
  rfl
 obtain ⟨hsz1,j0,j1,hj⟩:=hv1
 have HJ:=Lib.hid hj
 have n0:=World.new_ne _ _ j0
 have n1:=World.new_ne _ _ j1
 have n2:¬ w1.heap.size+1=w.heap.size:=by omega
 have n3:¬ w1.heap.size=w.heap.size:=by omega
 have hv1':=Lib.hid (⟨hsz1,j0,j1,hj⟩:Vars w.heap.size w1 A1 A3 b.length c1 n.length c3)
 have hR1:=h1.below hbw
 have hR3:=h3.below hbw
 have HR1:=Lib.hid hR1
 have h3w:=Lib.hid h3
 have HR3:=Lib.hid hR3
 clear h1 h3 hb1 hv0 hj hR1 hR3
 go_upto_region 3 with fail
 go_cut [8] from 20 to 28 (fun v8 wx=>∃ c8 vo,v8 = .pointer (some ⟨c8,0,none⟩)∧w1.heap.size≤c8∧c8<wx.heap.size∧wx.cell? ⟨c8,0,none⟩=some vo∧Ow wx w1.heap.size 5 vo (bc b)∧(∀ g,vo.ownBlock=some g→g≠c8)∧Below w1.heap.size w1 wx)
 case first=>
  go_region_held3 (fun w'=>w'.cell? ⟨w.heap.size,0,none⟩=some (.slice A1 b.length c1)∧w'.cell? ⟨w.heap.size+1,0,none⟩=some (.slice A3 n.length c3)) (go_keep) (first
   | (go_at_call 109;refine (size_any A3 c3 n _ w.heap.size (by first | exact HR3.out.drew | exact HR3.out.drew.alloc (by simp <;> omega) _) (by omega)).mono ?_;rintro e w' ⟨rfl,rfl⟩)
   | (refine step_first _ rfl _ _ _ _ rfl w1.heap.size 5 i0 (.int .u8 0) 1 Tryz.underlying22 hi hz0 hz1 hz2 rfl (Nat.le_refl _) _ _ ?_ ?_ ?_ rfl A1 c1 (bc b) ?_ ?_ ?_ ?_
      ·exact ((Ow.made_at _ _ _ _ _ (by simp) (by unfold maxLen <;> omega) (by rw [size_madeCells])).alloc _).mono (by simp)
      ·simp
      ·simp <;> omega
      ·rw [bc_length] <;> rfl
      ·rw [bc_length];exact Rd.src (B:=w.heap.size) (by first | exact (HR1.out.drew.alloc (by simp <;> omega) _) | exact (HR1.out.drew.alloc (by simp <;> omega) _).alloc (by simp <;> omega) _) Tryz.underlying22 (bc_one b)
      ·rw [bc_length] <;> omega
      intro v3 w3 hown3 hbel3 hne3 hlt3 hk3
      refine (fun q8=>?_) (hk3 ⟨w1.heap.size+1,0,none⟩ ?_ ?_)
      rotate_left
      ·simp <;> omega
      ·simp
      simp at q8
      have hk3':=Lib.hid hk3
      clear hk3
      obtain ⟨Ao,co,rfl,hlc3,hcm3,hrd3⟩:=hown3.form
      have q0:w3.cell? ⟨w.heap.size,0,none⟩=some (.slice A1 b.length c1):=(hbel3.cell (p:=⟨w.heap.size,0,none⟩) (by show w.heap.size<_;omega)).trans (by simp [*])
      have q1:w3.cell? ⟨w.heap.size+1,0,none⟩=some (.slice A3 n.length c3):=(hbel3.cell (p:=⟨w.heap.size+1,0,none⟩) (by show w.heap.size+1<_;omega)).trans (by simp [*]))
   | (refine step_first _ rfl _ _ _ _ rfl w1.heap.size 5 i0 (.int .u8 0) 1 Tryz.underlying22 hi hz0 hz1 hz2 rfl (Nat.le_refl _) _ _ ?_ ?_ ?_ rfl A1 c1 (bc b) ?_ ?_ ?_ ?_
      ·exact (Ow.made_at _ _ _ _ _ (by simp) (by unfold maxLen <;> omega) (by rw [size_madeCells])).mono (by simp)
      ·simp
      ·simp <;> omega
      ·rw [bc_length] <;> rfl
      ·rw [bc_length];exact Rd.src (B:=w.heap.size) (by first | exact (HR1.out.drew.alloc (by simp <;> omega) _) | exact (HR1.out.drew.alloc (by simp <;> omega) _).alloc (by simp <;> omega) _) Tryz.underlying22 (bc_one b)
      ·rw [bc_length] <;> omega
      intro v3 w3 hown3 hbel3 hne3 hlt3 hk3
      refine (fun q8=>?_) (hk3 ⟨w1.heap.size,0,none⟩ ?_ ?_)
      rotate_left
      ·simp <;> omega
      ·simp
      simp at q8
      have hk3':=Lib.hid hk3
      clear hk3
      obtain ⟨Ao,co,rfl,hlc3,hcm3,hrd3⟩:=hown3.form
      have q0:w3.cell? ⟨w.heap.size,0,none⟩=some (.slice A1 b.length c1):=(hbel3.cell (p:=⟨w.heap.size,0,none⟩) (by show w.heap.size<_;omega)).trans (by simp [*])
      have q1:w3.cell? ⟨w.heap.size+1,0,none⟩=some (.slice A3 n.length c3):=(hbel3.cell (p:=⟨w.heap.size+1,0,none⟩) (by show w.heap.size+1<_;omega)).trans (by simp [*]))
   | (refine step_first _ rfl _ _ _ _ rfl w1.heap.size 5 i0 (.int .u8 0) 1 Tryz.underlying22 hi hz0 hz1 hz2 rfl (Nat.le_refl _) _ _ ?_ ?_ ?_ rfl A1 c1 (bc b) ?_ ?_ ?_ ?_
      ·exact (Ow.made_at _ _ _ _ _ (by simp) (by unfold maxLen <;> omega) (by rw [size_madeCells])).mono (by simp)
      ·simp
      ·simp <;> omega
      ·rw [bc_length] <;> rfl
      ·rw [bc_length];exact Rd.src (B:=w.heap.size) (by first | exact (HR1.out.drew.alloc (by simp <;> omega) _) | exact (HR1.out.drew.alloc (by simp <;> omega) _).alloc (by simp <;> omega) _) Tryz.underlying22 (bc_one b)
      ·rw [bc_length] <;> omega
      intro v3 w3 hown3 hbel3 hne3 hlt3 hk3
      have hk3':=Lib.hid hk3
      clear hk3
      obtain ⟨Ao,co,rfl,hlc3,hcm3,hrd3⟩:=hown3.form
      have q0:w3.cell? ⟨w.heap.size,0,none⟩=some (.slice A1 b.length c1):=(hbel3.cell (p:=⟨w.heap.size,0,none⟩) (by show w.heap.size<_;omega)).trans (by simp [*])
      have q1:w3.cell? ⟨w.heap.size+1,0,none⟩=some (.slice A3 n.length c3):=(hbel3.cell (p:=⟨w.heap.size+1,0,none⟩) (by show w.heap.size+1<_;omega)).trans (by simp [*])))
  all_goals (go_wp2_with fail;go_meet)
  all_goals rw [bc_length] at hown3 hne3 hlt3
  ·exact ⟨w3.heap.size,_,rfl,by have:=hbel3.size;simp at this ⊢;omega,by simp,(new_cell _ _ _).1,hown3.alloc _,fun g hg=>Nat.ne_of_lt (hlt3 g hg),((((Below.refl _ w1).drew.alloc (Nat.le_refl _) _).trans hbel3).alloc (by have:=hbel3.size;simp at this ⊢;omega) _)⟩
  ·exact ⟨w1.heap.size+1,_,rfl,by omega,by have:=hbel3.size;simp at this ⊢;omega,World.cell?_setCell_same' _ _ _ (by rw [q8.1];rfl),hown3.setc _ _ (fun g hg=>by rcases hne3 g hg with h | h <;> (try simp at h) <;> omega),fun g hg=>by (rcases hne3 g hg with h | h <;> (try simp at h) <;> omega),((((Below.refl _ w1).drew.alloc (Nat.le_refl _) _).alloc (by simp) _).trans hbel3).setCell (p:=⟨w1.heap.size+1,0,none⟩) (by simp) _⟩
  all_goals exact ⟨w1.heap.size,_,rfl,by omega,by have:=hbel3.size;simp at this ⊢;omega,World.cell?_setCell_same' _ _ _ (by rw [q8.1];rfl),hown3.setc _ _ (fun g hg=>by rcases hne3 g hg with h | h <;> (try simp at h) <;> omega),fun g hg=>by (rcases hne3 g hg with h | h <;> (try simp at h) <;> omega),((((Below.refl _ w1).drew.alloc (Nat.le_refl _) _).alloc (by simp) _).trans hbel3).setCell (p:=⟨w1.heap.size,0,none⟩) (by simp) _⟩
 case rest=>
  obtain ⟨c8,vo,rfl,hc8,hc8s,hcell8,hown8,hne8,hbel8⟩:=hcut
  have hv8:=Vars.below (hv1'.out:Vars w.heap.size w1 A1 A3 b.length c1 n.length c3) hbel8 (by omega)
  clear hmk n0 n1 n2 n3 hsum j0 j1
  have hbw8:=hbw.trans (hbel8.mono hbw.size)
  obtain ⟨hsz8,j0,j1,⟨j2a,j2b⟩,j3a,j3b⟩:=hv8
  have J2:=Lib.hid j2a
  have J2b:=Lib.hid j2b
  have J3:=Lib.hid j3a
  have J3b:=Lib.hid j3b
  obtain ⟨Ao,co,rfl,hlo,hmo,hro⟩:=hown8.form
  rw [bc_length] at hown8 hne8 hcell8 hlo hro
  have HC8:=Lib.hid hcell8
  clear j2a j2b j3a j3b hcell8
  have h2':=Lib.hid ((h2.below hbw8).more (by omega:w.heap.size≤wc.heap.size))
  have h1':=Lib.hid ((HR1.out.below (hbel8.mono (by omega))).more (by omega:w.heap.size≤wc.heap.size))
  have h3'':=Lib.hid ((HR3.out.below (hbel8.mono (by omega))).more (by omega:w.heap.size≤wc.heap.size))
  clear h2
  go_wp2_with (first
   | (go_at_call 163;refine (places_any A1 A2 c1 c2 b known wc h1'.out hc1 (by omega) h2'.out hk hM).mono ?_;rintro e w3 ⟨v3,rfl,hown3,hbel3⟩;obtain ⟨A9,c9,rfl,hl9,hm9,hr9⟩:=hown3.form;have hs3:=hbel3.size;have k1:w3.cell? ⟨w.heap.size+1,0,none⟩=some (.slice A3 n.length c3):=(hbel3.cell (p:=⟨w.heap.size+1,0,none⟩) (by show w.heap.size+1<_;omega)).trans j1;have k1o:∀ o,(w3.alloc o).cell? ⟨w.heap.size+1,0,none⟩=some (.slice A3 n.length c3):=fun o=>(World.cell?_alloc_lt w3 o _ (by show w.heap.size+1<_;omega)).trans k1)
   | (go_at_call 164;refine (suffixes_any A3 n.length c3 _).mono ?_;rintro e w4 ⟨rfl,rfl⟩))
  have hr9':Rd w3 w3.heap.size A9 (placesN b known).length (ic (placesN b known)):=by rw [ic_length] at hr9;exact hr9
  have hbs:Below wc.heap.size wc ((w3.alloc (.cells #[.slice A9 (placesN b known).length c9] 48)).alloc (.cells #[.slice A3 n.length c3] 38)):=(hbel3.alloc hs3 _).alloc (by simp;omega) _
  have hws:∃ ws,ws=(w3.alloc (.cells #[.slice A9 (placesN b known).length c9] 48)).alloc (.cells #[.slice A3 n.length c3] 38):=⟨_,rfl⟩
  obtain ⟨ws,hws⟩:=hws
  have hss:ws.heap.size=w3.heap.size+2:=by rw [hws];simp
  have d9:ws.cell? ⟨w3.heap.size,0,none⟩=some (.slice A9 (placesN b known).length c9):=by
   rw [hws,World.cell?_alloc_lt _ _ _ (by simp)];exact (new_cell _ _ _).1
  have dn:ws.cell? ⟨w3.heap.size+1,0,none⟩=some (.slice A3 n.length c3):=by
   have:=(new_cell (w3.alloc (.cells #[.slice A9 (placesN b known).length c9] 48)) (.slice A3 n.length c3) 38).1
   rw [hws];simp
  rw [←hws] at hbs ⊢
  have e9:=((hr9'.alloc (Nat.le_refl _) (.cells #[.slice A9 (placesN b known).length c9] 48)).alloc (by simp) (.cells #[.slice A3 n.length c3] 38))
  rw [←hws] at e9
  refine (wpIn_wide (n:=5)).1 ?_
  refine' wpIn_rangeFunc_ownF (F:=Fence.wide) (n:=5) rfl (by omega) (gf:=179) (lb:=#[.pointer (some ⟨w3.heap.size+1,0,none⟩)]) rfl trivial (enters_of Tryz.func179 (by kernel_rfl) rfl)
   (suffixes_stops 4 (by omega) (w3.heap.size+1) ws.heap.size n.length c3 A3 (by have:=sizeN_length n;omega) hc3 ws (by omega) (Nat.le_refl _) dn) belowK_t (belowK_b (Nat.le_refl _)) (Below.refl _ _) (fun _=>rfl)
   (fun pre W=>(∀ y∈pre,(placesN b known).find? (hit b (n.drop y.1))=none)∧Below ws.heap.size ws W)
   (fun c xs W=>(c = .ret∧∃ (pre:List (Fin n.length)) (x:Fin n.length) (at_:Int) (v:Value),xs=pre++[x]∧(∀ y∈pre,(placesN b known).find? (hit b (n.drop y.1))=none)∧(placesN b known).find? (hit b (n.drop x.1))=some at_∧W.cell? ⟨w.heap.size+1+1,0,none⟩=some v∧W.cell? ⟨w.heap.size+1+1+1,0,none⟩=some (.int .i64 0)∧Ow W w.heap.size 5 v (bc (b++labS (n.take x.1)++ptr at_)))∧Below w.heap.size w W)
   ?_ ?_ ⟨fun y hy=>(by cases hy),Below.refl _ _⟩ _ ?_ ?_ ?_ ?_
  ·exact OwnFrom.and (Own.from (fun s A B row hs hg hr=>hs) _) (ownFrom_below (Nat.le_refl _) (Nat.le_refl _))
  ·intro c
   refine OwnFrom.and (Own.from (fun s A B row hs hg hr=>?_) _) (ownFrom_below (Nat.le_refl _) (by have:=hbs.size;omega))
   obtain ⟨rfl,pre,x,at_,v,hx,h0,h1,h2,h3,h4⟩:=hs
   exact ⟨rfl,pre,x,at_,v,hx,h0,h1,cell_kept h2 hg hr,cell_kept h3 hg hr,h4.turn hg hr⟩
  case refine'_4=>
   intro l x W K hK
   unfold encS
   gi_wp2
   exact hK
  ·rintro l pre x W ⟨hpre,hbW⟩ hlt
   have G:Below wc.heap.size wc W:=hbs.trans (hbW.mono hbs.size)
   have gs:=G.size
   have gs2:=hbW.size
   have g0:W.cell? ⟨w.heap.size,0,none⟩=some (.slice A1 b.length c1):=(G.cell (p:=⟨w.heap.size,0,none⟩) (by show w.heap.size<_;omega)).trans j0
   have g1:W.cell? ⟨w.heap.size+1,0,none⟩=some (.slice A3 n.length c3):=(G.cell (p:=⟨w.heap.size+1,0,none⟩) (by show w.heap.size+1<_;omega)).trans j1
   have g2:=(G.cell (p:=⟨w.heap.size+1+1,0,none⟩) (by show w.heap.size+1+1<_;omega)).trans J2.out
   have g2b:=(G.frozen (p:=⟨w.heap.size+1+1,0,none⟩) (by show w.heap.size+1+1<_;omega)).trans J2b.out
   have g3:=(G.cell (p:=⟨w.heap.size+1+1+1,0,none⟩) (by show w.heap.size+1+1+1<_;omega)).trans J3.out
   have g3b:=(G.frozen (p:=⟨w.heap.size+1+1+1,0,none⟩) (by show w.heap.size+1+1+1<_;omega)).trans J3b.out
   have g8:=(G.cell (p:=⟨c8,0,none⟩) hc8s).trans HC8.out
   have g9:=(hbW.cell (p:=⟨w3.heap.size,0,none⟩) (by show w3.heap.size<_;omega)).trans d9
   have gR9:Rd W w3.heap.size A9 (placesN b known).length (ic (placesN b known)):=e9.keep (fun p hp=>hbW.cell (by omega))
   have gR1:=(h1'.out.below G)
   have gR3:=(h3''.out.below G)
   have gO:=hown8.far G
   have hbW':=Lib.hid (hbw8.trans (G.mono hbw8.size))
   have K0:=Lib.hid g0
   have K1:=Lib.hid g1
   have K2:=Lib.hid g2
   have K2b:=Lib.hid g2b
   have K3:=Lib.hid g3
   have K3b:=Lib.hid g3b
   have K8:=Lib.hid g8
   clear g0 g1 g2 g2b g3 g3b g8 J2 J2b J3 J3b HC8 e9 dn d9 hws k1 k1o hr9' hr9 h2' j0 j1 HJ HR1 HR3
   have hfn:∀ k,Fence.wide.fn k:=fun _=>trivial
   gi_wp2
   gi_loopw [37] (fun vi wr=>∃ k:Nat,k≤(placesN b known).length∧vi = .int .i64 k∧Hid (∀ j (hj:j<(placesN b known).length),j<k→hit b (n.drop x.1) (placesN b known)[j]=false)∧Below W.heap.size W wr) (fun vi _=>(placesN b known).length - (intOf vi).toNat)
   case atStart=>exact ⟨0,Nat.zero_le _,rfl,Lib.hid (fun j hj h=>absurd h (by omega)),Below.refl _ _⟩
   case round=>
    obtain ⟨k,hkl,rfl,hno,hbel⟩:=hrel
    have hszb:=hbel.size
    have k0:wr.cell? ⟨w.heap.size,0,none⟩=some (.slice A1 b.length c1):=(hbel.cell (p:=⟨w.heap.size,0,none⟩) (by show w.heap.size<_;omega)).trans K0.out
    by_cases hlt2:k<(placesN b known).length
    ·have hrk:=gR9.below (hbel.mono (by omega))
     obtain ⟨b9,o9,rfl,_,hc9⟩:=hrk.at_ hlt2
     have hcell9:=hc9 k _ (ic_get _ k hlt2)
     have hmem:=places_mem b known _ (List.getElem_mem hlt2)
     have hnk:=hno.out
     have hrr1:=(gR1.more gs).below hbel
     have hsuf:Rd wr w.heap.size (cutA A3 c3 x.1) (n.length - x.1) (sc (n.drop x.1)):=by
      have h:=((h3w.out.below (hbW'.out)).below (hbel.mono (by omega))).cut (k:=x.1) (m:=n.length) (cap:=c3) (by omega) (Nat.le_refl _) hc3
      have e:((sc n).drop x.1).take (n.length - x.1)=sc (n.drop x.1):=by
       rw [List.take_of_length_le (by simp)];simp [sc,List.map_drop]
      rwa [e] at h
     have hdl:(n.drop x.1).length=n.length - x.1:=by simp
     have hlat:(placesN b known)[k]∈placesN b known:=List.getElem_mem hlt2
     obtain ⟨at_,hat⟩:∃ at_,at_=(placesN b known)[k]:=⟨_,rfl⟩
     rw [←hat] at hcell9 hmem hlat
     obtain ⟨p,rfl⟩:∃ p:Nat,at_=(p:Int):=⟨at_.toNat,by omega⟩
     have hp:p≤b.length:=by omega
     have hhit:hit b (n.drop x.1) (placesN b known)[k]=(decide ((readN b p).2.2=0) && decide ((readN b p).1=n.drop x.1) && decide ((p:Int)<16384)):=by
      rw [←hat];unfold hit;rw [Int.toNat_natCast]
     have HAT:=Lib.hid hat
     have hmi:p<16384→((p:Int)<16384):=fun h=>by omega
     clear hat hc9 hnk hrk gR9 hmem
     obtain ⟨E,hE⟩:∃ E,E=(readN b p).2.2:=⟨_,rfl⟩
     obtain ⟨Fd,hFd⟩:∃ Fd,Fd=(readN b p).1:=⟨_,rfl⟩
     rw [←hE,←hFd] at hhit
     have HE:=Lib.hid hE
     have HFd:=Lib.hid hFd
     have HHit:=Lib.hid hhit
     clear hE hFd hhit
     have readC:CallsIn (Fence.wide.inRound l) (5 - 1 - 1 - 1) Tryz.prog 148 #[.slice A1 b.length c1,.int .i64 p] wr fun e w'=>∃ A c,e = .returned (.tuple #[.slice A Fd.length c,.int .i64 (readN b p).2.1,.int .i64 E])∧Rd w' w'.heap.size A Fd.length (sc Fd)∧Below wr.heap.size wr w':=by
      refine (CallsIn.inRound l (callsIn_wide.2 (read_any A1 c1 b p wr (hrr1.more hszb) hc1 (by omega) hp))).mono ?_
      rintro e w2 ⟨v2,rfl,hown2,hb2⟩
      obtain ⟨A2',c2',rfl,_,_,hrd⟩:=hown2.form
      rw [sc_length,←HFd.out] at hrd
      rw [sc_length,←HFd.out,←HE.out]
      exact ⟨_,_,rfl,hrd,hb2⟩
     have hcont:∀ w2,Below wr.heap.size wr w2→hit b (n.drop x.1) (placesN b known)[k]=false→(∃ k':Nat,k'≤(placesN b known).length∧Value.int .i64 ((k:Int)+1) = .int .i64 k'∧Hid (∀ j (hj:j<(placesN b known).length),j<k'→hit b (n.drop x.1) (placesN b known)[j]=false)∧Below W.heap.size W w2):=fun w2 hb2 hf=>
      ⟨k+1,hlt2,by simp,Lib.hid (fun j hj h=>by
       rcases Nat.lt_or_ge j k with h' | h'
       ·exact hno.out j hj h'
       ·obtain rfl:j=k:=by omega
        exact hf),hbel.trans (hb2.mono hszb)⟩
     have hFl:Fd.length≤255:=by rw [HFd.out];exact readN_len b p
     have hkl9:(placesN b known).length≤1000000000:=by unfold placesN;rw [List.length_mergeSort];exact hM
     have hwr:wrap64 ((k:Int)+1)=(k:Int)+1:=by unfold wrap64;omega
     have HWR:=Lib.hid hwr
     have seqC:∀ A2' c2' w2,Rd w2 w2.heap.size A2' Fd.length (sc Fd)→Below wr.heap.size wr w2→CallsIn (Fence.wide.inRound l) (5 - 1 - 1 - 1) Tryz.prog 34 #[.slice A2' Fd.length c2',.slice (cutA A3 c3 x.1) (n.length - x.1) (c3 - x.1)] w2 fun e w'=>e = .returned (.bool (decide (Fd=n.drop x.1)))∧Below wr.heap.size wr w':=by
      intro A2' c2' w2 hrd2 hb2
      have hsz2:=hb2.size
      refine (CallsIn.inRound l (callsIn_wide.2 (seq_len A2' (cutA A3 c3 x.1) c2' (c3 - x.1) _ Fd (n.drop x.1) w2 w2.heap.size hdl hrd2 ((hsuf.below (hb2.mono (by omega))).more (by omega)) (by omega) (by have:=sizeN_length n;omega)))).mono ?_
      rintro e w4 ⟨rfl,q,rfl⟩
      exact ⟨rfl,hb2.trans ⟨rfl,rfl,rfl,Nat.le_refl _,fun _ _=>rfl⟩⟩
     have HSC:=Lib.hid seqC
     clear seqC hwr
     have HRC:=Lib.hid readC
     have HCT:=Lib.hid hcont
     clear readC hcont
     by_cases he:E=0
     ·obtain rfl:=he
      by_cases hf:Fd=n.drop x.1
      ·have hfd:decide (Fd=n.drop x.1)=true:=by simp [hf]
       clear hf
       by_cases hm:p<16384
       ·have hm1:decide ((p:Int)<16384)=true:=by simp;omega
        gi_wp2_with (first
         | (gi_at_call 148;refine HRC.out.mono ?_;rintro e w2 ⟨A2',c2',rfl,hrd2,hb2⟩)
         | (gi_at_call 34;refine (HSC.out _ _ _ hrd2 hb2).mono ?_;rw [hfd];rintro e w4 ⟨rfl,hb4⟩))
        have GB:=hbel.trans (hb4.mono hszb)
        have hgs:=GB.size
        have m0:=(GB.cell (p:=⟨c8,0,none⟩) (by show c8<_;omega)).trans K8.out
        have m1:=(GB.cell (p:=⟨w.heap.size+1,0,none⟩) (by show w.heap.size+1<_;omega)).trans K1.out
        have m2:=(GB.cell (p:=⟨w.heap.size+1+1,0,none⟩) (by show w.heap.size+1+1<_;omega)).trans K2.out
        have m2b:=(GB.frozen (p:=⟨w.heap.size+1+1,0,none⟩) (by show w.heap.size+1+1<_;omega)).trans K2b.out
        have m3:=(GB.cell (p:=⟨w.heap.size+1+1+1,0,none⟩) (by show w.heap.size+1+1+1<_;omega)).trans K3.out
        have m3b:=(GB.frozen (p:=⟨w.heap.size+1+1+1,0,none⟩) (by show w.heap.size+1+1+1<_;omega)).trans K3b.out
        refine region_round (S:=fun w'=>w'.cell? ⟨c8,0,none⟩=some (.slice Ao b.length co)∧w'.cell? ⟨w.heap.size+1,0,none⟩=some (.slice A3 n.length c3)) (by kernel_rfl) (by kernel_rfl) (by rintro ⟨_,_,h⟩;exact h) ⟨m0,m1⟩ (fun hS=>?_)
        have hw7:IntKind.i64.wrap (192+(p:Int) / 256)=192+(p:Int) / 256:=by rw [IntKind.wrap_i64];omega
        have hw8:IntKind.u8.wrap (192+(p:Int) / 256)=192+(p:Int) / 256:=by rw [IntKind.wrap_u8];omega
        have hw10:IntKind.u8.wrap (p:Int)=(p:Int) % 256:=by rw [IntKind.wrap_u8]
        have hsl:∀ W':World,(Instr.slice 38 (.slice A3 n.length c3) none (some (.int .i64 (x.1:Int))) none).run Tryz.prog W' = .ok (.slice A3 x.1 c3) W':=fun W'=>run_sl_h (P:=Tryz.prog) W' 38 9 Tryz.underlying38 szStr A3 n.length c3 x.1 (by omega)
        refine wpAnyH_take (i:=0) (v:=.slice Ao b.length co) rfl (by kernel_rfl) (by kernel_rfl) (by kernel_rfl) (fun _ _ _ h=>h) (Or.inl ⟨by rfl,?_⟩) hS ?_
        ·rintro w' ⟨s1,s2⟩;go_simp
        simp only [Act.put,List.setIfInBounds_toArray,List.set_cons_zero,List.set_cons_succ,List.getElem_toArray,List.getElem_cons_zero,List.getElem_cons_succ]
        refine wpAnyH_take (i:=1) (v:=.slice A3 n.length c3) rfl (by kernel_rfl) (by kernel_rfl) (by kernel_rfl) (fun _ _ _ h=>h) (Or.inl ⟨by rfl,?_⟩) hS ?_
        ·rintro w' ⟨s1,s2⟩;go_simp
        simp only [Act.put,List.setIfInBounds_toArray,List.set_cons_zero,List.set_cons_succ,List.getElem_toArray,List.getElem_cons_zero,List.getElem_cons_succ]
        refine wpAnyH_take (i:=2) (v:=Value.int .i64 (x.1:Int)) rfl (by kernel_rfl) (by kernel_rfl) (by kernel_rfl) (fun _ _ _ h=>h) (Or.inl ⟨by rfl,?_⟩) hS ?_
        ·rintro w' ⟨s1,s2⟩;go_simp
        simp only [Act.put,List.setIfInBounds_toArray,List.set_cons_zero,List.set_cons_succ,List.getElem_toArray,List.getElem_cons_zero,List.getElem_cons_succ]
        refine wpAnyH_take (i:=3) (v:=.slice A3 x.1 c3) rfl (by kernel_rfl) (by kernel_rfl) (by kernel_rfl) (fun _ _ _ h=>h) (Or.inl ⟨by rfl,?_⟩) hS ?_
        ·rintro w' ⟨s1,s2⟩;go_simp
        simp only [Act.put,List.setIfInBounds_toArray,List.set_cons_zero,List.set_cons_succ,List.getElem_toArray,List.getElem_cons_zero,List.getElem_cons_succ]
        refine wpAnyH_take (i:=5) (v:=Value.int .i64 (p:Int)) rfl (by kernel_rfl) (by kernel_rfl) (by kernel_rfl) (fun _ _ _ h=>h) (Or.inl ⟨by rfl,?_⟩) hS ?_
        ·rintro w' ⟨s1,s2⟩;go_simp
        simp only [Act.put,List.setIfInBounds_toArray,List.set_cons_zero,List.set_cons_succ,List.getElem_toArray,List.getElem_cons_zero,List.getElem_cons_succ]
        refine wpAnyH_take (i:=6) (v:=Value.int .i64 ((p:Int) / 256)) rfl (by kernel_rfl) (by kernel_rfl) (by kernel_rfl) (fun _ _ _ h=>h) (Or.inl ⟨by rfl,?_⟩) hS ?_
        ·rintro w' ⟨s1,s2⟩;go_simp
        simp only [Act.put,List.setIfInBounds_toArray,List.set_cons_zero,List.set_cons_succ,List.getElem_toArray,List.getElem_cons_zero,List.getElem_cons_succ]
        refine wpAnyH_take (i:=7) (v:=Value.int .i64 (192+(p:Int) / 256)) rfl (by kernel_rfl) (by kernel_rfl) (by kernel_rfl) (fun _ _ _ h=>h) (Or.inl ⟨by rfl,?_⟩) hS ?_
        ·rintro w' ⟨s1,s2⟩;go_simp
        simp only [Act.put,List.setIfInBounds_toArray,List.set_cons_zero,List.set_cons_succ,List.getElem_toArray,List.getElem_cons_zero,List.getElem_cons_succ]
        refine wpAnyH_take (i:=8) (v:=Value.int .u8 (192+(p:Int) / 256)) rfl (by kernel_rfl) (by kernel_rfl) (by kernel_rfl) (fun _ _ _ h=>h) (Or.inl ⟨by rfl,?_⟩) hS ?_
        ·rintro w' ⟨s1,s2⟩;go_simp
        simp only [Act.put,List.setIfInBounds_toArray,List.set_cons_zero,List.set_cons_succ,List.getElem_toArray,List.getElem_cons_zero,List.getElem_cons_succ]
        refine wpAnyH_take (i:=9) (v:=Value.int .i64 (p:Int)) rfl (by kernel_rfl) (by kernel_rfl) (by kernel_rfl) (fun _ _ _ h=>h) (Or.inl ⟨by rfl,?_⟩) hS ?_
        ·rintro w' ⟨s1,s2⟩;go_simp
        simp only [Act.put,List.setIfInBounds_toArray,List.set_cons_zero,List.set_cons_succ,List.getElem_toArray,List.getElem_cons_zero,List.getElem_cons_succ]
        refine wpAnyH_take (i:=10) (v:=Value.int .u8 ((p:Int) % 256)) rfl (by kernel_rfl) (by kernel_rfl) (by kernel_rfl) (fun _ _ _ h=>h) (Or.inl ⟨by rfl,?_⟩) hS ?_
        ·rintro w' ⟨s1,s2⟩;go_simp
        simp only [Act.put,List.setIfInBounds_toArray,List.set_cons_zero,List.set_cons_succ,List.getElem_toArray,List.getElem_cons_zero,List.getElem_cons_succ]
        refine wpAnyH_ready (rs:=[4,11]) (by kernel_rfl) (by simp) ?_
        have hX:bc (b++labS (n.take x.1)++ptr (p:Int))=bc (b++labS (n.take x.1))++[Value.int .u8 (192+(p:Int) / 256),Value.int .u8 ((p:Int) % 256)]:=bc_ptr _ p hm
        have hlab:(labS (n.take x.1)).length≤255:=by
         have h:=labS_length (n.take x.1)
         have h':=sizeN_take_le n x.1
         omega
        have hSall:∀ (w6:World) (v6:Value),Gr w4.drew w6 (.slice Ao b.length co) v6→(w6.cell? ⟨c8,0,none⟩=some (.slice Ao b.length co)∧w6.cell? ⟨w.heap.size+1,0,none⟩=some (.slice A3 n.length c3)):=fun w6 v6 hg=>
         ⟨(hg.cell (p:=⟨c8,0,none⟩) (by show c8<w4.heap.size;omega) (fun g hg'=>(hne8 g hg').symm)).trans m0,(hg.cell (p:=⟨w.heap.size+1,0,none⟩) (by show w.heap.size+1<w4.heap.size;omega) (fun g hg'=>by have:=hown8.lt g hg';show w.heap.size+1≠g;omega)).trans m1⟩
        have hvars:∀ (w6:World) (v6:Value),Gr w4.drew w6 (.slice Ao b.length co) v6→(w6.cell? ⟨w.heap.size+1+1,0,none⟩=some (.slice none 0 0)∧w6.frozen? ⟨w.heap.size+1+1,0,none⟩=false∧w6.cell? ⟨w.heap.size+1+1+1,0,none⟩=some (.int .i64 0)∧w6.frozen? ⟨w.heap.size+1+1+1,0,none⟩=false):=fun w6 v6 hg=>
         ⟨(hg.cell (p:=⟨w.heap.size+1+1,0,none⟩) (by show w.heap.size+1+1<w4.heap.size;omega) (fun g hg'=>by have:=hown8.lt g hg';show w.heap.size+1+1≠g;omega)).trans m2,
          (hg.frozen (p:=⟨w.heap.size+1+1,0,none⟩) (by show w.heap.size+1+1<w4.heap.size;omega) (fun g hg'=>by have:=hown8.lt g hg';show w.heap.size+1+1≠g;omega)).trans m2b,
          (hg.cell (p:=⟨w.heap.size+1+1+1,0,none⟩) (by show w.heap.size+1+1+1<w4.heap.size;omega) (fun g hg'=>by have:=hown8.lt g hg';show w.heap.size+1+1+1≠g;omega)).trans m3,
          (hg.frozen (p:=⟨w.heap.size+1+1+1,0,none⟩) (by show w.heap.size+1+1+1<w4.heap.size;omega) (fun g hg'=>by have:=hown8.lt g hg';show w.heap.size+1+1+1≠g;omega)).trans m3b⟩
        have hSset2:∀ {w6:World} (v:Value),(w6.cell? ⟨c8,0,none⟩=some (.slice Ao b.length co)∧w6.cell? ⟨w.heap.size+1,0,none⟩=some (.slice A3 n.length c3))→((w6.setCell ⟨w.heap.size+1+1,0,none⟩ v).cell? ⟨c8,0,none⟩=some (.slice Ao b.length co)∧(w6.setCell ⟨w.heap.size+1+1,0,none⟩ v).cell? ⟨w.heap.size+1,0,none⟩=some (.slice A3 n.length c3)):=fun v h=>
         ⟨(World.cell?_setCell_other _ _ _ _ (by intro e;injection e;omega)).trans h.1,(World.cell?_setCell_other _ _ _ _ (by intro e;injection e;omega)).trans h.2⟩
        have hSset3:∀ {w6:World} (v:Value),(w6.cell? ⟨c8,0,none⟩=some (.slice Ao b.length co)∧w6.cell? ⟨w.heap.size+1,0,none⟩=some (.slice A3 n.length c3))→((w6.setCell ⟨w.heap.size+1+1+1,0,none⟩ v).cell? ⟨c8,0,none⟩=some (.slice Ao b.length co)∧(w6.setCell ⟨w.heap.size+1+1+1,0,none⟩ v).cell? ⟨w.heap.size+1,0,none⟩=some (.slice A3 n.length c3)):=fun v h=>
         ⟨(World.cell?_setCell_other _ _ _ _ (by intro e;injection e;omega)).trans h.1,(World.cell?_setCell_other _ _ _ _ (by intro e;injection e;omega)).trans h.2⟩
        have hR3w:Rd w4.drew w1.heap.size A3 n.length (sc n):=((((h3w.out.below hbW'.out).below (hbel.mono (by omega))).below (hb4.mono (by omega))).more (by omega))
        have hO4:Ow w4.drew w1.heap.size 5 (.slice Ao b.length co) (bc b):=(gO.far GB).drew
        have hfin:∀ (w6:World) (v6:Value),Ow w6 w1.heap.size 5 v6 (bc (b++labS (n.take x.1)++ptr (p:Int)))→Gr w4.drew w6 (.slice Ao b.length co) v6→
         KeepsOthers W ((w6.setCell ⟨w.heap.size+1+1,0,none⟩ v6).setCell ⟨w.heap.size+1+1+1,0,none⟩ (.int .i64 0))∧
         ((Code.ret = .ret∧∃ (pre':List (Fin n.length)) (x':Fin n.length) (at_:Int) (v:Value),pre++[x]=pre'++[x']∧(∀ y∈pre',(placesN b known).find? (hit b (n.drop y.1))=none)∧(placesN b known).find? (hit b (n.drop x'.1))=some at_∧
           ((w6.setCell ⟨w.heap.size+1+1,0,none⟩ v6).setCell ⟨w.heap.size+1+1+1,0,none⟩ (.int .i64 0)).cell? ⟨w.heap.size+1+1,0,none⟩=some v∧
           ((w6.setCell ⟨w.heap.size+1+1,0,none⟩ v6).setCell ⟨w.heap.size+1+1+1,0,none⟩ (.int .i64 0)).cell? ⟨w.heap.size+1+1+1,0,none⟩=some (.int .i64 0)∧
           Ow ((w6.setCell ⟨w.heap.size+1+1,0,none⟩ v6).setCell ⟨w.heap.size+1+1+1,0,none⟩ (.int .i64 0)) w.heap.size 5 v (bc (b++labS (n.take x'.1)++ptr at_)))∧
          Below w.heap.size w ((w6.setCell ⟨w.heap.size+1+1,0,none⟩ v6).setCell ⟨w.heap.size+1+1+1,0,none⟩ (.int .i64 0))):=by
         intro w6 v6 ho hg
         obtain ⟨y2,y2b,y3,y3b⟩:=hvars w6 v6 hg
         refine ⟨(keeps_below GB).trans ((KeepsOthers.drew w4).trans ((KeepsOthers.of_grownBy hg.1 hO4.isCells).trans ((KeepsOthers.setCell _ _ _).trans (KeepsOthers.setCell _ _ _)))),⟨rfl,pre,x,(p:Int),v6,rfl,hpre,?_,?_,?_,?_⟩,?_⟩
         ·have:=find_some_at (placesN b known) (hit b (n.drop x.1)) k hlt2 (fun j hj=>hno.out j (by omega) hj) (by rw [HHit.out,hfd,hm1];simp)
          rw [this,←HAT.out]
         ·rw [World.cell?_setCell_other _ _ _ _ (by intro e;injection e;omega)]
          exact World.cell?_setCell_same' _ _ _ (by rw [y2];rfl)
         ·exact World.cell?_setCell_same' _ _ _ (by rw [World.cell?_setCell_other _ _ _ _ (by intro e;injection e;omega),y3];rfl)
         ·exact (((ho.setc (w.heap.size+1+1) v6 (fun g hg'=>by have:=ho.lt g hg';omega)).setc (w.heap.size+1+1+1) (.int .i64 0) (fun g hg'=>by have:=ho.lt g hg';omega))).mono (by omega)
         ·have q1:Below w.heap.size w w4:=hbW'.out.trans (GB.mono (by omega))
          have q2:Below w.heap.size w4.drew w6:=hg.below (fun g hg'=>by have:=hO4.lt g hg';omega) (by show w.heap.size≤w4.heap.size;omega)
          exact ((q1.drew.trans q2).setCell (p:=⟨w.heap.size+1+1,0,none⟩) (by show w.heap.size≤w.heap.size+1+1;omega) v6).setCell (p:=⟨w.heap.size+1+1+1,0,none⟩) (by show w.heap.size≤w.heap.size+1+1+1;omega) _
        have HFIN:=Lib.hid hfin
        clear hfin
        have HSA:=Lib.hid hSall
        have HV:=Lib.hid hvars
        have HX:=Lib.hid hX
        clear hSall hvars
        refine AllReadyH.cons rfl (fun K hK=>?_) (AllReadyH.cons rfl (fun K hK=>?_) AllReadyH.nil)
        ·try dsimp only [List.getElem_toArray,List.getElem_cons_zero,List.getElem_cons_succ]
         go_simp
         refine (labels_len _ b A3 c3 n x.1 _ w1.heap.size (by show w1.heap.size≤w4.heap.size;omega) hR3w hc3 (by omega) hO4 (by omega)).mono ?_
         rintro e w5 ⟨v5,rfl,hown5,hgr5⟩
         go_wp2_with fail
         refine hK.out _ _ (HSA.out _ _ hgr5) (fun hS=>?_)
         clear hK K
         try simp only [Act.put,List.setIfInBounds_toArray,List.set_cons_zero,List.set_cons_succ,List.getElem_toArray,List.getElem_cons_zero,List.getElem_cons_succ]
         refine wpAnyH_ready (rs:=[11]) (by kernel_rfl) (by simp) ?_
         refine AllReadyH.cons rfl (fun K hK=>?_) AllReadyH.nil
         try dsimp only [List.getElem_toArray,List.getElem_cons_zero,List.getElem_cons_succ]
         go_simp
         have hgrA:=hgr5.alloc (.cells #[Value.int .u8 (192+(p:Int) / 256),Value.int .u8 ((p:Int) % 256)] 5)
         refine hK.out _ _ (HSA.out _ _ hgrA) (fun hS=>?_)
         clear hK K
         have hownA:=hown5.alloc (.cells #[Value.int .u8 (192+(p:Int) / 256),Value.int .u8 ((p:Int) % 256)] 5)
         have hsrcA:Src Tryz.prog 1 22 (.slice (some ⟨w5.heap.size,0,none⟩) 2 2) 2 [Value.int .u8 (192+(p:Int) / 256),Value.int .u8 ((p:Int) % 256)] (w5.alloc (.cells #[Value.int .u8 (192+(p:Int) / 256),Value.int .u8 ((p:Int) % 256)] 5)):=two_src Tryz.underlying22 _ _ _ _ (two_cells _ _ _ _).1 (two_cells _ _ _ _).2 rfl rfl
         try simp only [Act.put,List.setIfInBounds_toArray,List.set_cons_zero,List.set_cons_succ,List.getElem_toArray,List.getElem_cons_zero,List.getElem_cons_succ]
         refine wpAnyH_ready (rs:=[12]) (by kernel_rfl) (by simp) ?_
         refine AllReadyH.cons rfl (fun K hK=>?_) AllReadyH.nil
         try dsimp only [List.getElem_toArray,List.getElem_cons_zero,List.getElem_cons_succ]
         rw [if_pos (by rfl)]
         refine wp_app _ rfl _ _ _ _ rfl w1.heap.size 5 i0 (.int .u8 0) 1 Tryz.underlying22 hi hz0 hz1 hz2 rfl (Nat.le_refl _) _ (bc (b++labS (n.take x.1))) ?_ rfl _ rfl 2 [Value.int .u8 (192+(p:Int) / 256),Value.int .u8 ((p:Int) % 256)] ?_ ?_ ?_ ?_
         ·exact hownA
         ·exact hsrcA
         ·rw [bc_length,List.length_append];omega
         ·have:=hgrA.1.size;simp at this ⊢;omega
         intro v6 w6 hown6 hgr6 hsz6
         rw [←hX] at hown6
         obtain ⟨A6,c6,hv6,_,_,_⟩:=hown6.form
         obtain ⟨L6,hL6⟩:∃ L,L=(bc (b++labS (n.take x.1)++ptr (p:Int))).length:=⟨_,rfl⟩
         rw [←hL6] at hv6
         clear hL6
         subst hv6
         have hgrT:=hgrA.trans hgr6
         refine hK.out _ _ (HSA.out _ _ hgrT) (fun hS=>?_)
         clear hK K
         try simp only [Act.put,List.setIfInBounds_toArray,List.set_cons_zero,List.set_cons_succ,List.getElem_toArray,List.getElem_cons_zero,List.getElem_cons_succ]
         refine wpAnyH_ready (rs:=[13]) (by kernel_rfl) (by simp) ?_
         refine AllReadyH.cons rfl (fun K hK=>?_) AllReadyH.nil
         try dsimp only [List.getElem_toArray,List.getElem_cons_zero,List.getElem_cons_succ]
         obtain ⟨y2,y2b,y3,y3b⟩:=HV.out _ _ hgrT
         go_simp
         refine hK.out _ _ (hSset2 _ hS) (fun hS=>?_)
         clear hK K
         try simp only [Act.put,List.setIfInBounds_toArray,List.set_cons_zero,List.set_cons_succ,List.getElem_toArray,List.getElem_cons_zero,List.getElem_cons_succ]
         refine wpAnyH_ready (rs:=[14]) (by kernel_rfl) (by simp) ?_
         refine AllReadyH.cons rfl (fun K hK=>?_) AllReadyH.nil
         try dsimp only [List.getElem_toArray,List.getElem_cons_zero,List.getElem_cons_succ]
         go_simp
         refine hK.out _ _ (hSset3 _ hS) (fun hS=>?_)
         clear hK K
         refine wpAnyH_done (by kernel_rfl) ?_ _
         gi_wp2
         have hF:=HFIN.out _ _ hown6 hgrT
         exact ⟨hF.1,⟨rfl,hF.2.1.2⟩,hF.2.2⟩
        ·try dsimp only [List.getElem_toArray,List.getElem_cons_zero,List.getElem_cons_succ]
         go_simp
         have hgrB:Gr w4.drew (w4.drew.alloc (.cells #[Value.int .u8 (192+(p:Int) / 256),Value.int .u8 ((p:Int) % 256)] 5)) (.slice Ao b.length co) (.slice Ao b.length co):=(Gr.refl _ _).alloc _
         refine hK.out _ _ (HSA.out _ _ hgrB) (fun hS=>?_)
         clear hK K
         try simp only [Act.put,List.setIfInBounds_toArray,List.set_cons_zero,List.set_cons_succ,List.getElem_toArray,List.getElem_cons_zero,List.getElem_cons_succ]
         refine wpAnyH_ready (rs:=[4]) (by kernel_rfl) (by simp) ?_
         refine AllReadyH.cons rfl (fun K hK=>?_) AllReadyH.nil
         try dsimp only [List.getElem_toArray,List.getElem_cons_zero,List.getElem_cons_succ]
         go_simp
         refine (labels_len _ b A3 c3 n x.1 _ w1.heap.size (by simp;omega) (hR3w.alloc (by show w1.heap.size≤w4.heap.size;omega) _) hc3 (by omega) (hO4.alloc _) (by omega)).mono ?_
         rintro e w5 ⟨v5,rfl,hown5,hgr5⟩
         go_wp2_with fail
         have hgrA:=hgrB.trans hgr5
         refine hK.out _ _ (HSA.out _ _ hgrA) (fun hS=>?_)
         clear hK K
         have hownA:=hown5
         have hsrcA:Src Tryz.prog 1 22 (.slice (some ⟨w4.heap.size,0,none⟩) 2 2) 2 [Value.int .u8 (192+(p:Int) / 256),Value.int .u8 ((p:Int) % 256)] w5:=
          two_src Tryz.underlying22 _ _ _ _ ((hgr5.cell (p:=⟨w4.heap.size,0,none⟩) (by simp) (fun g hg=>by have:=(World.ownsRow.lt hO4 g hg).2;show w4.heap.size≠g;simp at this;omega)).trans (two_cells w4.drew _ _ _).1) ((hgr5.cell (p:=⟨w4.heap.size,1,none⟩) (by simp) (fun g hg=>by have:=(World.ownsRow.lt hO4 g hg).2;show w4.heap.size≠g;simp at this;omega)).trans (two_cells w4.drew _ _ _).2) rfl rfl
         try simp only [Act.put,List.setIfInBounds_toArray,List.set_cons_zero,List.set_cons_succ,List.getElem_toArray,List.getElem_cons_zero,List.getElem_cons_succ]
         refine wpAnyH_ready (rs:=[12]) (by kernel_rfl) (by simp) ?_
         refine AllReadyH.cons rfl (fun K hK=>?_) AllReadyH.nil
         try dsimp only [List.getElem_toArray,List.getElem_cons_zero,List.getElem_cons_succ]
         rw [if_pos (by rfl)]
         refine wp_app _ rfl _ _ _ _ rfl w1.heap.size 5 i0 (.int .u8 0) 1 Tryz.underlying22 hi hz0 hz1 hz2 rfl (Nat.le_refl _) _ (bc (b++labS (n.take x.1))) ?_ rfl _ rfl 2 [Value.int .u8 (192+(p:Int) / 256),Value.int .u8 ((p:Int) % 256)] ?_ ?_ ?_ ?_
         ·exact hownA
         ·exact hsrcA
         ·rw [bc_length,List.length_append];omega
         ·have:=hgrA.1.size;simp at this ⊢;omega
         intro v6 w6 hown6 hgr6 hsz6
         rw [←hX] at hown6
         obtain ⟨A6,c6,hv6,_,_,_⟩:=hown6.form
         obtain ⟨L6,hL6⟩:∃ L,L=(bc (b++labS (n.take x.1)++ptr (p:Int))).length:=⟨_,rfl⟩
         rw [←hL6] at hv6
         clear hL6
         subst hv6
         have hgrT:=hgrA.trans hgr6
         refine hK.out _ _ (HSA.out _ _ hgrT) (fun hS=>?_)
         clear hK K
         try simp only [Act.put,List.setIfInBounds_toArray,List.set_cons_zero,List.set_cons_succ,List.getElem_toArray,List.getElem_cons_zero,List.getElem_cons_succ]
         refine wpAnyH_ready (rs:=[13]) (by kernel_rfl) (by simp) ?_
         refine AllReadyH.cons rfl (fun K hK=>?_) AllReadyH.nil
         try dsimp only [List.getElem_toArray,List.getElem_cons_zero,List.getElem_cons_succ]
         obtain ⟨y2,y2b,y3,y3b⟩:=HV.out _ _ hgrT
         go_simp
         refine hK.out _ _ (hSset2 _ hS) (fun hS=>?_)
         clear hK K
         try simp only [Act.put,List.setIfInBounds_toArray,List.set_cons_zero,List.set_cons_succ,List.getElem_toArray,List.getElem_cons_zero,List.getElem_cons_succ]
         refine wpAnyH_ready (rs:=[14]) (by kernel_rfl) (by simp) ?_
         refine AllReadyH.cons rfl (fun K hK=>?_) AllReadyH.nil
         try dsimp only [List.getElem_toArray,List.getElem_cons_zero,List.getElem_cons_succ]
         go_simp
         refine hK.out _ _ (hSset3 _ hS) (fun hS=>?_)
         clear hK K
         refine wpAnyH_done (by kernel_rfl) ?_ _
         gi_wp2
         have hF:=HFIN.out _ _ hown6 hgrT
         exact ⟨hF.1,⟨rfl,hF.2.1.2⟩,hF.2.2⟩
       ·have hm1:decide ((p:Int)<16384)=false:=by simp;omega
        gi_wp2_with (first
         | (gi_at_call 148;refine HRC.out.mono ?_;rintro e w2 ⟨A2',c2',rfl,hrd2,hb2⟩)
         | (gi_at_call 34;refine (HSC.out _ _ _ hrd2 hb2).mono ?_;rw [hfd];rintro e w4 ⟨rfl,hb4⟩))
        go_roundw
        case rel=>exact HCT.out _ hb4 (by rw [HHit.out,hm1];simp)
        case measure=>simp [intOf];omega
      ·have hfd:decide (Fd=n.drop x.1)=false:=by simp [hf]
       clear hf
       gi_wp2_with (first
        | (gi_at_call 148;refine HRC.out.mono ?_;rintro e w2 ⟨A2',c2',rfl,hrd2,hb2⟩)
        | (gi_at_call 34;refine (HSC.out _ _ _ hrd2 hb2).mono ?_;rw [hfd];rintro e w4 ⟨rfl,hb4⟩))
       go_roundw
       case rel=>exact HCT.out _ hb4 (by rw [HHit.out,hfd];simp)
       case measure=>simp [intOf];omega
     ·have hd:(E == 0)=false:=by simp [he]
      gi_wp2_with (gi_at_call 148;refine HRC.out.mono ?_;rintro e w2 ⟨A2',c2',rfl,hrd2,hb2⟩)
      go_roundw
      case rel=>exact HCT.out _ hb2 (by rw [HHit.out,decide_eq_false he];simp)
      case measure=>simp [intOf];omega
    ·obtain rfl:k=(placesN b known).length:=by omega
     gi_wp2
     refine ⟨keeps_below hbel,hbel.mono (by omega),fun y hy=>?_,hbW.trans (hbel.mono (by omega))⟩
     rcases List.mem_append.1 hy with hy | hy
     ·exact hpre y hy
     ·obtain rfl:=List.mem_singleton.1 hy
      exact find_none_step _ _ (fun j hj=>hno.out j hj hj)
  ·rintro D ys W hD rfl ⟨hpre,hbW⟩ hK
   have G:Below wc.heap.size wc W:=hbs.trans (hbW.mono hbs.size)
   have gs:=G.size
   have gs2:=hbW.size
   have g1:W.cell? ⟨w.heap.size+1,0,none⟩=some (.slice A3 n.length c3):=(G.cell (p:=⟨w.heap.size+1,0,none⟩) (by show w.heap.size+1<_;omega)).trans j1
   have g2:=(G.cell (p:=⟨w.heap.size+1+1,0,none⟩) (by show w.heap.size+1+1<_;omega)).trans J2.out
   have g2b:=(G.frozen (p:=⟨w.heap.size+1+1,0,none⟩) (by show w.heap.size+1+1<_;omega)).trans J2b.out
   have g3:=(G.cell (p:=⟨w.heap.size+1+1+1,0,none⟩) (by show w.heap.size+1+1+1<_;omega)).trans J3.out
   have g3b:=(G.frozen (p:=⟨w.heap.size+1+1+1,0,none⟩) (by show w.heap.size+1+1+1<_;omega)).trans J3b.out
   have g8:=(G.cell (p:=⟨c8,0,none⟩) hc8s).trans HC8.out
   have gR3:=((h3''.out.below G))
   have gO:=hown8.far G
   have hbW':=hbw8.trans (G.mono hbw8.size)
   have happ:appN b known n=b++labS n++[0]:=appGo_none b _ n n.length 0 (fun y _ hy=>hpre ⟨y,by omega⟩ (by simp))
   have HAPP:=Lib.hid happ
   have HK:=Lib.hid hK
   clear happ
   have hD':w.heap.size+1+1+1<D:=by omega
   have hSall:∀ (w6:World) (v6:Value),Gr W w6 (.slice Ao b.length co) v6→(w6.cell? ⟨c8,0,none⟩=some (.slice Ao b.length co)∧w6.cell? ⟨w.heap.size+1,0,none⟩=some (.slice A3 n.length c3)):=fun w6 v6 hg=>
    ⟨(hg.cell (p:=⟨c8,0,none⟩) (by show c8<W.heap.size;omega) (fun g hg'=>(hne8 g hg').symm)).trans g8,(hg.cell (p:=⟨w.heap.size+1,0,none⟩) (by show w.heap.size+1<W.heap.size;omega) (fun g hg'=>by have:=hown8.lt g hg';show w.heap.size+1≠g;omega)).trans g1⟩
   have hvars:∀ (w6:World) (v6:Value),Gr W w6 (.slice Ao b.length co) v6→(w6.cell? ⟨w.heap.size+1+1,0,none⟩=some (.slice none 0 0)∧w6.frozen? ⟨w.heap.size+1+1,0,none⟩=false∧w6.cell? ⟨w.heap.size+1+1+1,0,none⟩=some (.int .i64 0)∧w6.frozen? ⟨w.heap.size+1+1+1,0,none⟩=false):=fun w6 v6 hg=>
    ⟨(hg.cell (p:=⟨w.heap.size+1+1,0,none⟩) (by show w.heap.size+1+1<W.heap.size;omega) (fun g hg'=>by have:=hown8.lt g hg';show w.heap.size+1+1≠g;omega)).trans g2,
     (hg.frozen (p:=⟨w.heap.size+1+1,0,none⟩) (by show w.heap.size+1+1<W.heap.size;omega) (fun g hg'=>by have:=hown8.lt g hg';show w.heap.size+1+1≠g;omega)).trans g2b,
     (hg.cell (p:=⟨w.heap.size+1+1+1,0,none⟩) (by show w.heap.size+1+1+1<W.heap.size;omega) (fun g hg'=>by have:=hown8.lt g hg';show w.heap.size+1+1+1≠g;omega)).trans g3,
     (hg.frozen (p:=⟨w.heap.size+1+1+1,0,none⟩) (by show w.heap.size+1+1+1<W.heap.size;omega) (fun g hg'=>by have:=hown8.lt g hg';show w.heap.size+1+1+1≠g;omega)).trans g3b⟩
   have hfin:∀ (w6:World) (v6:Value),Ow w6 w1.heap.size 5 v6 (bc (b++labS n)++[Value.int .u8 0])→Gr W w6 (.slice Ao b.length co) v6→
    ((w6.setCell ⟨w.heap.size+1+1,0,none⟩ v6).setCell ⟨w.heap.size+1+1+1,0,none⟩ (.int .i64 0)).heap[D]? = some (.deferred (some []))∧
    ((w6.setCell ⟨w.heap.size+1+1,0,none⟩ v6).setCell ⟨w.heap.size+1+1+1,0,none⟩ (.int .i64 0)).cell? ⟨w.heap.size+1+1,0,none⟩=some v6∧
    ((w6.setCell ⟨w.heap.size+1+1,0,none⟩ v6).setCell ⟨w.heap.size+1+1+1,0,none⟩ (.int .i64 0)).cell? ⟨w.heap.size+1+1+1,0,none⟩=some (.int .i64 0)∧
    Ow ((w6.setCell ⟨w.heap.size+1+1,0,none⟩ v6).setCell ⟨w.heap.size+1+1+1,0,none⟩ (.int .i64 0)) w.heap.size 5 v6 (bc (appN b known n))∧
    Below w.heap.size w ((w6.setCell ⟨w.heap.size+1+1,0,none⟩ v6).setCell ⟨w.heap.size+1+1+1,0,none⟩ (.int .i64 0)):=by
    intro w6 v6 ho hg
    obtain ⟨y2,y2b,y3,y3b⟩:=hvars w6 v6 hg
    refine ⟨((KeepsOthers.of_grownBy hg.1 gO.isCells).trans ((KeepsOthers.setCell _ _ _).trans (KeepsOthers.setCell _ _ _))).same D _ hK rfl,?_,?_,?_,?_⟩
    ·rw [World.cell?_setCell_other _ _ _ _ (by intro e;injection e;omega)]
     exact World.cell?_setCell_same' _ _ _ (by rw [y2];rfl)
    ·exact World.cell?_setCell_same' _ _ _ (by rw [World.cell?_setCell_other _ _ _ _ (by intro e;injection e;omega),y3];rfl)
    ·have e:bc (appN b known n)=bc (b++labS n)++[Value.int .u8 0]:=by rw [HAPP.out];simp [bc]
     rw [e]
     exact (((ho.setc (w.heap.size+1+1) v6 (fun g hg'=>by have:=ho.lt g hg';omega)).setc (w.heap.size+1+1+1) (.int .i64 0) (fun g hg'=>by have:=ho.lt g hg';omega))).mono (by omega)
    ·have q2:Below w.heap.size W w6:=hg.below (fun g hg'=>by have:=gO.lt g hg';omega) (by show w.heap.size≤W.heap.size;omega)
     exact ((hbW'.trans q2).setCell (p:=⟨w.heap.size+1+1,0,none⟩) (by show w.heap.size≤w.heap.size+1+1;omega) v6).setCell (p:=⟨w.heap.size+1+1+1,0,none⟩) (by show w.heap.size≤w.heap.size+1+1+1;omega) _
   have HFIN:=Lib.hid hfin
   have HSA:=Lib.hid hSall
   have HV:=Lib.hid hvars
   have hR3w:Rd W w1.heap.size A3 n.length (sc n):=(((h3w.out.below hbW').more (by omega)):Rd W w1.heap.size A3 n.length (sc n))
   have hll:=labS_length n
   have ne1:¬ w.heap.size+1+1=c8:=by omega
   have ne2:¬ w.heap.size+1+1+1=c8:=by omega
   clear hfin hSall hvars g2 g2b g3 g3b J2 J2b J3 J3b HC8 e9 dn d9 hws k1 k1o hr9' hr9 h2' j0 j1 HJ HR1 HR3 hpre hbW hK
   go_wp2_with (first
    | (go_at_call 165
       refine (labels_any _ b A3 c3 n _ w1.heap.size ?_ ?_ ?_ ?_).mono ?_
       ·omega
       ·exact hR3w
       ·exact gO
       ·omega
       rintro e w5 ⟨v5,rfl,hown5,hgr5⟩)
    | (at_builtin;refine wpList_app _ rfl _ _ _ _ rfl w1.heap.size 5 i0 (.int .u8 0) 1 Tryz.underlying22 hi hz0 hz1 hz2 rfl (Nat.le_refl _) _ _ (hown5.alloc _) rfl 1 [_] (one_src Tryz.underlying22 _ rfl) (by rw [bc_length,List.length_append];omega) (by have:=hgr5.1.size;simp;omega) ?_
       intro v6 w6 hown6 hgr6 hsz6
       have hgrT:=(hgr5.alloc _).trans hgr6
       obtain ⟨y2,y2b,y3,y3b⟩:=HV.out _ _ hgrT
       obtain ⟨A6,c6,hv6,_,_,_⟩:=hown6.form
       obtain ⟨L6,hL6⟩:∃ L,L=(bc (b++labS n)++[Value.int .u8 0]).length:=⟨_,rfl⟩
       rw [←hL6] at hv6
       clear hL6
       subst hv6))
   obtain ⟨hK9,q2,q3,ho9,hb9⟩:=HFIN.out _ _ hown6 hgrT
   refine ⟨by simp,.inl ⟨_,_,rfl,run_takeDeferred hK9,?_⟩⟩
   have hgr:=grownBy_putObj' ((w6.setCell ⟨w.heap.size+1+1,0,none⟩ (.slice A6 L6 c6)).setCell ⟨w.heap.size+1+1+1,0,none⟩ (.int .i64 0)) D (.deferred none)
   have hrw:∀ r,some D=some r→∃ o:Obj,((w6.setCell ⟨w.heap.size+1+1,0,none⟩ (.slice A6 L6 c6)).setCell ⟨w.heap.size+1+1+1,0,none⟩ (.int .i64 0)).heap[r]? = some o∧o.isCells=false:=fun r e=>by cases e;exact ⟨_,hK9,rfl⟩
   have q2':=cell_kept q2 hgr hrw
   have q3':=cell_kept q3 hgr hrw
   refine ⟨.tuple #[.slice A6 L6 c6,.int .i64 0],?_,⟨.slice A6 L6 c6,rfl,ho9.turn hgr hrw,hb9.trans (belowK_b (w:=w) (Nat.le_refl _) _ D _ _ (by have:=hbs.size;omega) hK9 rfl rfl)⟩⟩
   simp [results,Tryz.f129,go_sem,q2',q3']
  ·rintro D c pre W hD ⟨k,hk⟩ ⟨⟨rfl,pre',x,at_,v,rfl,h0,h1,h2,h3,h4⟩,hB⟩ hK
   gi_wp2
   refine ⟨by simp,.inl ⟨_,_,rfl,run_takeDeferred hK,?_⟩⟩
   have hgr:=grownBy_putObj' W D (.deferred none)
   have hrw:∀ r,some D=some r→∃ o:Obj,W.heap[r]? = some o∧o.isCells=false:=fun r e=>by cases e;exact ⟨_,hK,rfl⟩
   have q2:=cell_kept h2 hgr hrw
   have q3:=cell_kept h3 hgr hrw
   have happ:appN b known n=b++labS (n.take x.1)++ptr at_:=appGo_some b _ n at_ x.1 n.length 0 (Nat.zero_le _) (by have:=x.2;omega) (fun y _ hy=>h0 ⟨y,by have:=x.2;omega⟩ (fin_pre hk.symm _ hy)) h1
   refine ⟨.tuple #[v,.int .i64 0],?_,⟨v,rfl,by rw [happ];exact h4.turn hgr hrw,hB.trans (belowK_b (w:=w) (Nat.le_refl _) W D _ _ (by have:=hbs.size;omega) hK rfl rfl)⟩⟩
   simp [results,Tryz.f129,go_sem,q2,q3]
end Go.Proofs.YtlipmlbijddopaaGreatDoor
