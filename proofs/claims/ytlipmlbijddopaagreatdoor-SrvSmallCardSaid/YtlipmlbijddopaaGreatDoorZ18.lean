/-
  DnsA
-/
import Derived.Test.YtlipmlbijddopaaGreatDoorZ13
import Derived.Test.YtlipmlbijddopaaGreatDoorZ17
import Derived.Deep.RegionHeld3
set_option linter.unusedVariables false
set_option linter.unusedSimpArgs false
namespace Go.Proofs.YtlipmlbijddopaaGreatDoor
open Go.RowKit
def isAns (n:List (List UInt8)) (ty:Nat) (r:Rc):Bool:=decide (r.q.ty=ty) && (decide (r.q.cl=1) && decide (r.q.nm=n))
def AnS (W1:World) (O:Nat) (r:RR) (W:World):Prop:=
 W.cell? ⟨O,0,none⟩=some (.slice r.A r.r.q.nm.length r.c)∧W.cell? ⟨O,4,none⟩=some (.slice r.dA r.r.d.length r.dc)∧W.cell? ⟨O,8,none⟩=some (.slice r.tA r.r.tg.length r.tc)∧Below W1.heap.size W1 W
set_option maxRecDepth 100000 in
set_option maxHeartbeats 6000000 in
theorem answers_at (x:MR) (A:Option Addr) (c:Nat) (n:List (List UInt8)) (ty:Nat) (w:World) (hx:MRd w w.heap.size x) (hn:NRd w w.heap.size A c n) (hty:ty<65536) (hsm:∀ r∈x.r0,r.r.q.nm.length*16≤140737488355328∧r.r.tg.length*16≤140737488355328) :
 Calls Tryz.prog 80 #[.agg x.cells.toArray,.slice A n.length c,.int .u16 (ty:Int)] w fun e w'=>∃ (l:List RR) (A':Option Addr) (c':Nat),e = .returned (.slice A' l.length c')∧l.map RR.r=answersM x.m n ty∧(rwR A' c' l).ok w' w.heap.size∧(∀ o,DR l o→o.ok w' w.heap.size)∧Below w.heap.size w w':=by
 have HX:=Lib.hid hx.2.2.2.1
 have hl0:=hx.2.2.2.1.2.2.2.1
 have HN:=Lib.hid hn
 have hnl:=Nat.le_trans (len_le_size n) hn.2.2
 have HSM:=Lib.hid hsm
 clear hx hn hsm
 obtain ⟨j0,hj',hy0,hy1,hy2⟩:=info_parts Tryz.infoR
 have cx3:x.cells[3]? = some (.slice x.aA x.r0.length x.ac):=rfl
 go_enter Tryz.func80,Tryz.ntmps80
 go_wp2_with fail
 have hb1:=below_new w (.cells x.cells.toArray 72)
 have hz1:(w.alloc (.cells x.cells.toArray 72)).heap.size=w.heap.size+1:=by simp
 generalize w.alloc (.cells x.cells.toArray 72)=w1 at *
 have HX1:=Lib.hid (HX.out.below hb1)
 have HN1:=Lib.hid (HN.out.below hb1)
 have HB1:=Lib.hid hb1
 clear HX HN hb1 cx3
 generalize x.aA=ra at HX1 ⊢
 go_loopw [7,9,14] (fun v7 _ vk wr=>∃ (k:Nat) (l:List RR) (Ar:Option Addr) (cr:Nat),k≤x.r0.length∧vk = .int .i64 k∧v7 = .slice Ar l.length cr∧l.length≤k∧Hid (l.map RR.r=((x.r0.take k).map RR.r).filter (isAns n ty))∧Hid (OwM wr (w.heap.size+1) 88 9 (.slice Ar l.length cr) l.length (rcs l))∧Hid (Held wr (w.heap.size+1) (DR l) (.slice Ar l.length cr))∧Hid (Below (w.heap.size+1) w1 wr)) (fun _ _ k _=>x.r0.length - (intOf k).toNat)
 case atStart=>exact ⟨0,[],none,0,Nat.zero_le _,rfl,rfl,Nat.le_refl _,Lib.hid rfl,Lib.hid (OwM.nil _ _ _ _),Lib.hid ((Held.nil _ _ _).mono (fun o ⟨x,hx,_⟩=>by cases hx)),Lib.hid (Below.refl _ _)⟩
 case round=>
  obtain ⟨k,l,Ar,cr,hk,rfl,rfl,hlk,HL,HO,HH,HB⟩:=hrel
  have hsz:w.heap.size+1≤wr.heap.size:=by have:=HB.out.size;omega
  rcases Nat.lt_or_ge k x.r0.length with hlt | hge
  ·have HXr:=Lib.hid (HX1.out.below (HB.out.mono (Nat.le_succ _)))
   have HNr:=Lib.hid (HN1.out.below (HB.out.mono (Nat.le_succ _)))
   obtain ⟨bq,oq,rfl,hbq,hqc⟩:=HXr.out.at_ hlt
   have h9:=hqc hlt
   have hqm:=HXr.out.2.2.2.2 _ (List.getElem_mem hlt)
   have hsr:=HSM.out _ (List.getElem_mem hlt)
   obtain ⟨r,hr⟩:∃ r,r=x.r0[k]:=⟨_,rfl⟩
   rw [←hr] at h9 hqm hsr
   have HRJ:=Lib.hid hr
   have HQM:=Lib.hid hqm
   clear hqc hr hqm
   obtain ⟨c0,c1,c2,c3,c4,c5,c6,c7,c8⟩:=h9.cells
   clear h9
   have hft:∀ q,((x.r0.take (k+1)).map RR.r).filter q=((x.r0.take k).map RR.r).filter q++(if q r.r=true then [r.r] else []):=by
    intro q
    rw [List.take_succ_eq_append_getElem hlt,List.map_append,List.filter_append,←HRJ.out]
    simp [List.filter]
    split <;> simp_all
   have HFT:=Lib.hid hft
   clear hft
   have hbw:=below_new wr (.cells r.cells.toArray 88)
   by_cases h1:r.r.q.ty=ty
   ·by_cases h2:r.r.q.cl=1
    ·have h1':((r.r.q.ty:Int) == (ty:Int))=true:=by rw [beq_iff_eq];omega
     have h2':((r.r.q.cl:Int) == 1)=true:=by rw [beq_iff_eq];omega
     by_cases h3:r.r.q.nm=n
     ·have hf:isAns n ty r.r=true:=by simp [isAns,h1,h2,h3]
      have k4:=seq_at (wr.alloc (.cells r.cells.toArray 88)) r.A A r.c c _ _ r.r.q.nm n true (by simp [h3]) rfl rfl ((HQM.out.1.1.1.below (hbw.mono (by omega))).more (by have:=hbw.size;omega)) ((HNr.out.1.below (hbw.mono (by omega))).more (by have:=hbw.size;omega)) (Nat.le_trans (len_le_size _) HQM.out.1.1.2.2) hnl
      have K4:=Lib.hid k4
      clear h1 h2 h3 k4
      go_upto_region 6 with (go_at_call 34;refine K4.out.mono ?_;rintro e w3 ⟨rfl,q,rfl⟩)
      have hb5:Below wr.heap.size wr ((wr.alloc (.cells r.cells.toArray 88)).drewN q):=bl_drewN hbw q
      have hV5:Vx ((wr.alloc (.cells r.cells.toArray 88)).drewN q) wr.heap.size 88 r.cells:=(Vx.new wr _ _).drewN q
      obtain ⟨O,hO⟩:∃ O,O=wr.heap.size:=⟨_,rfl⟩
      rw [←hO] at hV5
      rw [←hO]
      generalize (wr.alloc (.cells r.cells.toArray 88)).drewN q=w5 at *
      have hO5:=hV5.lt
      have hOw:wr.heap.size≤O:=by omega
      have hOv:O≤wr.heap.size:=by omega
      clear hO
      have KN:=Lib.hid (((HQM.out.1.1.1.below (hb5.mono (by omega))).more (by have:=hb5.size;omega):Rd w5 w5.heap.size r.A r.r.q.nm.length (sc r.r.q.nm)))
      have KD:=Lib.hid (((HQM.out.2.1.1.below (hb5.mono (by omega))).more (by have:=hb5.size;omega):Rd w5 w5.heap.size r.dA r.r.d.length (bc r.r.d)))
      have KT:=Lib.hid (((HQM.out.2.2.1.1.below (hb5.mono (by omega))).more (by have:=hb5.size;omega):Rd w5 w5.heap.size r.tA r.r.tg.length (sc r.r.tg)))
      have hdl:=HQM.out.2.1.2.2
      have HV5:=Lib.hid hV5
      have HB5:=Lib.hid hb5
      clear hV5 hb5 c0 c1 c2 c3 c4 c5 c6 c7 c8 K4
      obtain ⟨c0,c1,c2,c3,c4,c5,c6,c7,c8⟩:=HV5.out.c9
      clear c1 c2 c3 c5 c6 c7
      go_cut [14] from 36 to 49 (fun v14 wx=>v14 = .int .i64 (k:Int)∧∃ An cn Ad cd At ct,Hid (Vx wx O 88 (RR.cells ⟨An,cn,Ad,cd,At,ct,r.r⟩))∧Hid (Ow wx (O+1) 9 (.slice An r.r.q.nm.length cn) (sc r.r.q.nm))∧Hid (Ow wx (O+1) 5 (.slice Ad r.r.d.length cd) (bc r.r.d))∧Hid (Ow wx (O+1) 9 (.slice At r.r.tg.length ct) (sc r.r.tg))∧Hid (Below wr.heap.size wr wx))
      case first=>
       go_region_with (first
        | (go_at_call 118
           refine (sclone_at w7 r.tA r.tc _ r.r.tg rfl ((KT.out.below (hb57.mono (Nat.le_refl _))).more hb57.size) hsr.2).mono ?_
           rintro e w8 ⟨v8,rfl,ho8,hb8⟩
           obtain ⟨A8,c8',rfl,_,_⟩:=ho8.form6 _ (sc_length _)
           have hV8:=HV7.out.below hb8 HV7.out.lt
           have e0:w8.cell? ⟨O,0,none⟩=some (.slice r.A r.r.q.nm.length r.c):=hV8.cell 0
           have e4:w8.cell? ⟨O,4,none⟩=some (.slice r.dA r.r.d.length r.dc):=hV8.cell 4
           have e8:w8.cell? ⟨O,8,none⟩=some (.slice r.tA r.r.tg.length r.tc):=hV8.cell 8
           have f0:=hV8.free 0
           have f4:=hV8.free 4
           have f8:=hV8.free 8
           have HV8:=Lib.hid hV8
           have HO8:=Lib.hid ho8
           clear hV8 ho8)
        | (go_at_call 20
           refine (bclone_at r.dA r.dc _ r.r.d w6 _ rfl (Nat.le_refl _) ((KD.out.below (hb56.mono (Nat.le_refl _))).more hb56.size) hdl).mono ?_
           rintro e w7 ⟨v7,rfl,ho7,hb7⟩
           obtain ⟨A7,c7',rfl,_,_⟩:=ho7.form6 _ (bc_length _)
           have hV7:=HV6.out.below hb7 HV6.out.lt
           have hb57:Below w5.heap.size w5 w7:=hb56.trans (hb7.mono hb56.size)
           have d0:w7.cell? ⟨O,0,none⟩=some (.slice r.A r.r.q.nm.length r.c):=hV7.cell 0
           have d4:w7.cell? ⟨O,4,none⟩=some (.slice r.dA r.r.d.length r.dc):=hV7.cell 4
           have d8:w7.cell? ⟨O,8,none⟩=some (.slice r.tA r.r.tg.length r.tc):=hV7.cell 8
           have HV7:=Lib.hid hV7
           have HO7:=Lib.hid ho7
           clear hV7 ho7)
        | (go_at_call 118
           refine (sclone_at w5.drew r.A r.c _ r.r.q.nm rfl KN.out hsr.1).mono ?_
           rintro e w6 ⟨v6,rfl,ho6,hb6⟩
           obtain ⟨A6,c6',rfl,_,_⟩:=ho6.form6 _ (sc_length _)
           have hb56:Below w5.heap.size w5 w6:=(Below.refl w5.heap.size w5).drew.trans hb6
           have hV6:=HV5.out.below hb56 hO5
           have b0:w6.cell? ⟨O,0,none⟩=some (.slice r.A r.r.q.nm.length r.c):=hV6.cell 0
           have b4:w6.cell? ⟨O,4,none⟩=some (.slice r.dA r.r.d.length r.dc):=hV6.cell 4
           have b8:w6.cell? ⟨O,8,none⟩=some (.slice r.tA r.r.tg.length r.tc):=hV6.cell 8
           have HV6:=Lib.hid hV6
           have HO6:=Lib.hid ho6
           clear hV6 ho6))
       all_goals (go_wp2_with fail;go_meet)
       all_goals
        have h78:Below w7.heap.size w7 w8:=hb8
        have g6:O<w6.heap.size:=HV6.out.lt
        have g7:O<w7.heap.size:=HV7.out.lt
        refine ⟨rfl,A6,c6',A7,c7',A8,c8',Lib.hid ((((HV8.out.set_ 0 _).set_ 4 _).set_ 8 _)),Lib.hid ?_,Lib.hid ?_,Lib.hid ?_,Lib.hid ?_⟩
        ·exact (ow_setO (ow_setO (ow_setO (((HO6.out.far hb7).far hb8).mono (show O+1≤w5.drew.heap.size from hO5)) (Nat.lt_succ_self O) _ _) (Nat.lt_succ_self O) _ _) (Nat.lt_succ_self O) _ _)
        ·exact (ow_setO (ow_setO (ow_setO ((HO7.out.far hb8).mono (show O+1≤w6.heap.size from g6)) (Nat.lt_succ_self O) _ _) (Nat.lt_succ_self O) _ _) (Nat.lt_succ_self O) _ _)
        ·exact (ow_setO (ow_setO (ow_setO (HO8.out.mono (show O+1≤w7.heap.size from g7)) (Nat.lt_succ_self O) _ _) (Nat.lt_succ_self O) _ _) (Nat.lt_succ_self O) _ _)
        ·have hb58:Below wr.heap.size wr w8:=HB5.out.trans ((hb57.mono HB5.out.size).trans (hb8.mono (Nat.le_trans HB5.out.size hb57.size)))
         exact ((hb58.setCell (show wr.heap.size≤O from hOw) _).setCell (show wr.heap.size≤O from hOw) _).setCell (show wr.heap.size≤O from hOw) _
      case rest=>
       obtain ⟨rfl,An,cn,Ad,cd,At,ct,HV,HA1,HA2,HA3,HBw⟩:=hcut
       clear KN KD KT HV5 HB5 c0 c4 c8 hO5
       have hOc:=HV.out.lt
       have hszw:=HBw.out.size
       have hown:=Lib.hid (OwM.far HO.out HBw.out)
       go_upto_region 7 with fail
       obtain ⟨g0,g1,g2,g3,g4,g5,g6,g7,g8⟩:=HV.out.c9
       have hOM:=Lib.hid (OwM.alloc hown.out (.cells (RR.cells ⟨An,cn,Ad,cd,At,ct,r.r⟩).toArray 88))
       have hSr:=Lib.hid (litM_src (P:=Tryz.prog) (w:=wc) Tryz.underlying69 88 9 (RR.cells ⟨An,cn,Ad,cd,At,ct,r.r⟩) 1 rfl (rcells_one _))
       have hbb:(l.length+1)*96≤140737488355328:=by omega
       have hbs:w.heap.size+1≤(wc.alloc (.cells (RR.cells ⟨An,cn,Ad,cd,At,ct,r.r⟩).toArray 88)).heap.size:=by simp;omega
       go_wp2_with (at_builtin;refine wpList_appM _ rfl _ _ _ _ rfl (w.heap.size+1) 9 88 j0 (.agg zRR.cells.toArray) 96 Tryz.underlying69 hj' hy0 hy1 hy2 rfl (by omega) (.slice Ar l.length cr) l.length (rcs l) hOM.out rfl 1 (RR.cells ⟨An,cn,Ad,cd,At,ct,r.r⟩) hSr.out hbb hbs ?_;intro v3 w3 hown3 hgr3 hsz3;obtain ⟨A3,c3,rfl,hc3,_,_⟩:=hown3.form)
       go_roundw
       case rel=>
        have hHd:=HH.out.far HBw.out
        have h1:=hHd.add (nmO An cn r.r.q.nm) (OwM.mono HA1.out (by omega)) (ne_new HO.out HA1.out (by omega))
        have h2:=h1.add (daO Ad cd r.r.d) (OwM.mono HA2.out (by omega)) (ne_new HO.out HA2.out (by omega))
        have h3:=h2.add (nmO At ct r.r.tg) (OwM.mono HA3.out (by omega)) (ne_new HO.out HA3.out (by omega))
        have h4:=(h3.far (below_new wc (.cells (RR.cells ⟨An,cn,Ad,cd,At,ct,r.r⟩).toArray 88))).gr hgr3
        have hbl:Below (w.heap.size+1) w1 w3:=(HB.out.trans ((HBw.out.mono hsz).trans ((below_new wc (.cells (RR.cells ⟨An,cn,Ad,cd,At,ct,r.r⟩).toArray 88)).mono (by omega)))).trans (hgr3.below (OwM.lt hOM.out) hbs)
        refine ⟨k+1,l++[⟨An,cn,Ad,cd,At,ct,r.r⟩],A3,c3,by omega,by go_num,by simp,by simp;omega,Lib.hid ?_,Lib.hid ?_,Lib.hid ?_,Lib.hid hbl⟩
        ·rw [HFT.out,hf,List.map_append,HL.out];simp
        ·rw [rcs_snoc,List.length_append]
         exact hown3
        ·rw [List.length_append]
         refine h4.mono fun o ho=>?_
         obtain ⟨y,hy,e⟩:=ho
         rcases List.mem_append.1 hy with hy | hy
         ·exact Or.inr (Or.inr (Or.inr ⟨y,hy,e⟩))
         ·rw [List.mem_singleton.1 hy] at e
          rcases e with e | e | e
          ·exact Or.inr (Or.inr (Or.inl e))
          ·exact Or.inr (Or.inl e)
          ·exact Or.inl e
       case measure=>simp [intOf];omega
     ·have hf:isAns n ty r.r=false:=by simp [isAns,h3]
      have k4:=seq_at (wr.alloc (.cells r.cells.toArray 88)) r.A A r.c c _ _ r.r.q.nm n false (by simp [h3]) rfl rfl ((HQM.out.1.1.1.below (hbw.mono (by omega))).more (by have:=hbw.size;omega)) ((HNr.out.1.below (hbw.mono (by omega))).more (by have:=hbw.size;omega)) (Nat.le_trans (len_le_size _) HQM.out.1.1.2.2) hnl
      have K4:=Lib.hid k4
      clear h1 h2 h3 k4
      go_wp2_with (go_at_call 34;refine K4.out.mono ?_;rintro e w3 ⟨rfl,q,rfl⟩)
      go_roundw
      case rel=>
       refine ⟨k+1,l,Ar,cr,by omega,by go_num,rfl,by omega,Lib.hid ?_,Lib.hid (OwM.drewN (OwM.alloc HO.out _) q),Lib.hid (HH.out.far (bl_drewN hbw q)),Lib.hid (bl_drewN (HB.out.alloc hsz _) q)⟩
       rw [HFT.out,hf,HL.out];simp
      case measure=>simp [intOf];omega
    ·have hf:isAns n ty r.r=false:=by simp [isAns,h2]
     have h1':((r.r.q.ty:Int) == (ty:Int))=true:=by rw [beq_iff_eq];omega
     have h2':((r.r.q.cl:Int) == 1)=false:=by rw [beq_eq_false_iff_ne];omega
     clear h1 h2
     go_wp2_with fail
     go_roundw
     case rel=>
      refine ⟨k+1,l,Ar,cr,by omega,by go_num,rfl,by omega,Lib.hid ?_,Lib.hid (OwM.alloc HO.out _),Lib.hid (HH.out.far hbw),Lib.hid (HB.out.alloc hsz _)⟩
      rw [HFT.out,hf,HL.out];simp
     case measure=>simp [intOf];omega
   ·have hf:isAns n ty r.r=false:=by simp [isAns,h1]
    have h1':((r.r.q.ty:Int) == (ty:Int))=false:=by rw [beq_eq_false_iff_ne];omega
    clear h1
    go_wp2_with fail
    go_roundw
    case rel=>
     refine ⟨k+1,l,Ar,cr,by omega,by go_num,rfl,by omega,Lib.hid ?_,Lib.hid (OwM.alloc HO.out _),Lib.hid (HH.out.far hbw),Lib.hid (HB.out.alloc hsz _)⟩
     rw [HFT.out,hf,HL.out];simp
    case measure=>simp [intOf];omega
  ·have hk':k=x.r0.length:=by omega
   go_wp2_with fail
   go_ret
   refine ⟨l,Ar,cr,rfl,?_,OwM.mono HO.out (Nat.le_succ _),fun o ho=>OwM.mono (HH.out.dn o ho) (Nat.le_succ _),HB1.out.trans (HB.out.mono (Nat.le_succ _))⟩
   rw [HL.out,List.take_of_length_le (by omega)]
   rfl
end Go.Proofs.YtlipmlbijddopaaGreatDoor
