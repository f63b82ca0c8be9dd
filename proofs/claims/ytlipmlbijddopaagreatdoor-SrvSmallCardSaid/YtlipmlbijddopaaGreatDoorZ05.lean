/-
  B2; Lib; Awk; EndsP; Str; Ends; Ref; Ref2; App0; RefRd
-/
import Derived.Test.YtlipmlbijddopaaGreatDoorZ02
import Derived.Test.YtlipmlbijddopaaGreatDoorZ01
import Derived.Deep.QuietTactic
import Derived.BigQuiet
import Derived.Deep.RegionHeld3
import Derived.Deep.DeepCutAuto
set_option linter.unusedVariables false
namespace Go.Proofs.YtlipmlbijddopaaGreatDoor
open Go.RowKit
theorem Ow.made (w:World) (e:TypeId) (cur:Array Value) (cap:Nat) (hm:cap≤maxLen) (hs:cur.size=cap):Ow (w.alloc (.cells cur e)) w.heap.size e (.slice (some ⟨w.heap.size,0,none⟩) 0 cap) []:=
 World.ownsRow_made w cur cap (Nat.le_refl _) hm (by omega)
theorem Ow.lit (w:World) (e:TypeId) (cs:List Value) (hm:cs.length≤maxLen):Ow (w.alloc (.cells cs.toArray e)) w.heap.size e (.slice (some ⟨w.heap.size,0,none⟩) cs.length cs.length) cs:=by
 have:=World.ownsRow_lit (base:=w.heap.size) (e:=e) (size:=1) w cs.toArray cs.length (Nat.le_refl _) hm (by simp)
 simpa [Ow] using this
section
variable {P:Program} (w:World)
theorem step_app {ops:Array Oper} {o:Oper} {a:Act} {K:Act→World→Prop} {Q:Exit→Act→World→Prop} {E:Prop} (hgd:o.guard=none) (s x:Operand) (t tx:TypeId)
 (ho:o.op = .call { callee:=.builtin .append,args:=#[s,x],argTypes:=#[t,tx] })
 (base:Nat) (e:TypeId) (i:TypeInfo) (z:Value) (bytes:Nat) (ht:P.underlying t=some (.slice e)) (hi:P.info? e=some i) (hz:i.zero=some z)
 (hsize:i.size=1) (hby:i.bytes=bytes) (hzs:z.cells.size=1) (hb1:1≤bytes)
 (v:Value) (xs:List Value) (hown:Ow w base e v xs) (hv:a.eval s=v) (xv:Value) (hx:a.eval x=xv) (n:Nat) (news:List Value) (hs:Src P 1 tx xv n news w)
 (hbytes:(xs.length+n)*bytes≤140737488355328) (hbase:base≤w.heap.size)
 (h:∀ v' w',Ow w' base e v' (xs++news)→Gr w w' v v'→base≤w'.heap.size→K (a.put o.dst v') w') :
 if Region.wanted o (yielded ops a.tmps)=true then Oper.wp P o a w K Q else E:=by
 have hw:Region.wanted o (yielded ops a.tmps)=true:=by simp [Region.wanted,hgd]
 rw [if_pos hw]
 obtain ⟨v',w',hr,h2,h3⟩:=run_app (P:=P) w base t tx o.type e i z bytes ht hi hz hsize hby hzs hb1 v xs hown _ n news hs hbytes hbase
 unfold Oper.wp execOp
 simp only [ho,resolve,invoke,builtin,Sem.run_bind,Sem.run_pure,Result.andThen_ok,List.map_toArray,List.map_cons,List.map_nil,hv,hx,hr]
 exact h v' w' h2 h3 (Nat.le_trans hbase h3.1.size)
end
end Go.Proofs.YtlipmlbijddopaaGreatDoor
set_option linter.unusedVariables false
namespace Go.Proofs.YtlipmlbijddopaaGreatDoor
open Go.RowKit
theorem szStr (w:World):(Go.sizeOf 9).run Tryz.prog w = .ok 1 w:=by kernel_rfl
set_option maxRecDepth 100000 in
set_option maxHeartbeats 400000 in
theorem bclone (A:Option Addr) (c:Nat) (l:List UInt8) (w:World) (B:Nat) (hB:B≤w.heap.size) (h:Rd w B A l.length (bc l)) (hl:l.length≤140737488355328) :
 Calls Tryz.prog 20 #[.slice A l.length c] w fun e w'=>∃ v,e = .returned v∧Ow w' w.heap.size 5 v (bc l)∧Below w.heap.size w w':=by
 obtain ⟨i0,hi,hz0,hz1,hz2⟩:=info_parts Tryz.infoByte
 have q22:∀ (w:World) (a:Option Addr) (n c n' c':Nat),(binOp .eql 22 (.slice a n c) (.slice none n' c')).run Tryz.prog w = .ok (.bool a.isNone) w:=fun w a n c n' c'=>Lib.run_eql_slice_nil w _ _ a n c n' c' Tryz.underlying22
 cases A with
 | none=>
   have hl0:l=[]:=by
    rcases Nat.eq_zero_or_pos l.length with h0 | h0
    ·exact List.eq_nil_of_length_eq_zero h0
    ·obtain ⟨b,o,h1,_⟩:=h.2 h0;cases h1
   subst hl0
   go_enter Tryz.func20,Tryz.ntmps20
   go_wp2
   go_ret
   exact ⟨_,rfl,Ow.nil _ _ _,Below.refl _ _⟩
 | some a=>
   go_enter Tryz.func20,Tryz.ntmps20
   go_wp2_with (at_builtin;refine wpList_app _ rfl _ _ _ _ rfl w.heap.size 5 i0 (.int .u8 0) 1 Tryz.underlying22 hi hz0 hz1 hz2 rfl (Nat.le_refl _) _ _ (Ow.made w 5 #[] 0 (by simp [maxLen]) rfl) rfl l.length (bc l) ((h.alloc hB _).src Tryz.underlying22 (bc_one l)) (by simp;omega) (by simp) ?_;intro v3 w3 hown3 hgr3 hsz3)
   go_ret
   exact ⟨_,rfl,by simpa using hown3,((Below.refl w.heap.size w).alloc (Nat.le_refl _) _).trans (hgr3.below (by simp [Value.ownBlock]) (by simp))⟩
set_option maxRecDepth 100000 in
set_option maxHeartbeats 400000 in
theorem sclone (A:Option Addr) (c:Nat) (l:List (List UInt8)) (w:World) (B:Nat) (hB:B≤w.heap.size) (h:Rd w B A l.length (sc l)) (hl:l.length*16≤140737488355328) :
 Calls Tryz.prog 118 #[.slice A l.length c] w fun e w'=>∃ v,e = .returned v∧Ow w' w.heap.size 9 v (sc l)∧Below w.heap.size w w':=by
 obtain ⟨i0,hi,hz0,hz1,hz2⟩:=info_parts Tryz.infoStr
 have q22:∀ (w:World) (a:Option Addr) (n c n' c':Nat),(binOp .eql 38 (.slice a n c) (.slice none n' c')).run Tryz.prog w = .ok (.bool a.isNone) w:=fun w a n c n' c'=>Lib.run_eql_slice_nil w _ _ a n c n' c' Tryz.underlying38
 cases A with
 | none=>
   have hl0:l=[]:=by
    rcases Nat.eq_zero_or_pos l.length with h0 | h0
    ·exact List.eq_nil_of_length_eq_zero h0
    ·obtain ⟨b,o,h1,_⟩:=h.2 h0;cases h1
   subst hl0
   go_enter Tryz.func118,Tryz.ntmps118
   go_wp2
   go_ret
   exact ⟨_,rfl,Ow.nil _ _ _,Below.refl _ _⟩
 | some a=>
   go_enter Tryz.func118,Tryz.ntmps118
   go_wp2_with (at_builtin;refine wpList_app _ rfl _ _ _ _ rfl w.heap.size 9 i0 (.string ⟨#[]⟩) 16 Tryz.underlying38 hi hz0 hz1 hz2 rfl (by omega) _ _ (Ow.made w 9 #[] 0 (by simp [maxLen]) rfl) rfl l.length (sc l) ((h.alloc hB _).src Tryz.underlying38 (sc_one l)) (by simp;omega) (by simp) ?_;intro v3 w3 hown3 hgr3 hsz3)
   go_ret
   exact ⟨_,rfl,by simpa using hown3,((Below.refl w.heap.size w).alloc (Nat.le_refl _) _).trans (hgr3.below (by simp [Value.ownBlock]) (by simp))⟩
set_option maxRecDepth 100000 in
set_option maxHeartbeats 400000 in
theorem beq_any (A1 A2:Option Addr) (c1 c2:Nat) (l m:List UInt8) (w:World) (B:Nat) (h1:Rd w B A1 l.length (bc l)) (h2:Rd w B A2 m.length (bc m)) :
 Calls Tryz.prog 43 #[.slice A1 l.length c1,.slice A2 m.length c2] w fun e w'=>e = .returned (.bool (decide (l=m)))∧w'=w:=by
 have k1:=conv_bs (P:=Tryz.prog) w 22 5 9 A1 c1 B l Tryz.underlying22 Tryz.underlying5 Tryz.underlying9 h1
 have k2:=conv_bs (P:=Tryz.prog) w 22 5 9 A2 c2 B m Tryz.underlying22 Tryz.underlying5 Tryz.underlying9 h2
 go_enter Tryz.func43,Tryz.ntmps43
 go_wp2
 go_ret
 exact ⟨ret_bool (by rw [Bool.eq_iff_iff];simp),rfl⟩
theorem sc_mem (l:List (List UInt8)) (bl o:Nat) (w:World) (hc:∀ j u,(sc l)[j]? = some u→w.cell? ⟨bl,o+j,none⟩=some u) (j:Nat) (hj:j<(l.map fun x=>(⟨x.toArray⟩:ByteArray)).length) :
 w.cell? ⟨bl,o+j,none⟩=some (.string ((l.map fun x=>(⟨x.toArray⟩:ByteArray)).getD j ByteArray.empty)):=by
 have hj':j<l.length:=by simpa using hj
 rw [hc j _ (sc_get l j hj')]
 simp [List.getD_eq_getElem?_getD,hj']
theorem map_inj (l m:List (List UInt8)):(l.map (fun x=>(⟨x.toArray⟩:ByteArray))=m.map (fun x=>(⟨x.toArray⟩:ByteArray))) ↔ l=m:=by
 constructor
 ·intro h
  induction l generalizing m with
  | nil=>cases m with
    | nil=>rfl
    | cons b m=>simp at h
  | cons a l ih=>cases m with
    | nil=>simp at h
    | cons b m=>
      simp only [List.map_cons,List.cons.injEq,ByteArray.mk.injEq] at h
      rw [ih m h.2]
      have:=congrArg Array.toList h.1
      simpa using this
 ·rintro rfl;rfl
theorem seq_any (A1 A2:Option Addr) (c1 c2:Nat) (l m:List (List UInt8)) (w:World) (B:Nat) (h1:Rd w B A1 l.length (sc l)) (h2:Rd w B A2 m.length (sc m)) (hl:l.length≤140737488355328) (hm:m.length≤140737488355328) :
 Calls Tryz.prog 34 #[.slice A1 l.length c1,.slice A2 m.length c2] w fun e w'=>e = .returned (.bool (decide (l=m)))∧∃ q,w'=w.drewN q:=by
 by_cases hne:l.length=m.length
 ·rcases Nat.eq_zero_or_pos l.length with h0 | h0
  ·have e1:l=[]:=List.eq_nil_of_length_eq_zero h0
   have e2:m=[]:=List.eq_nil_of_length_eq_zero (by omega)
   subst e1 e2
   refine (Tryz.slices_Equal_string_empty A1 A2 c1 0 c2 w (by omega)).mono ?_
   rintro e w' ⟨rfl,rfl⟩
   exact ⟨ret_bool (by simp),0,rfl⟩
  ·obtain ⟨b1,o1,rfl,_,k1⟩:=h1.at_ h0
   obtain ⟨b2,o2,rfl,_,k2⟩:=h2.at_ (show 0<m.length by omega)
   have:=Tryz.slices_Equal_string b1 o1 l.length c1 b2 o2 m.length c2 (l.map fun x=>(⟨x.toArray⟩:ByteArray)) (m.map fun x=>(⟨x.toArray⟩:ByteArray)) w (by simp) (by simp) (by omega) (by omega) (sc_mem l b1 o1 w k1) (sc_mem m b2 o2 w k2)
   refine this.mono ?_
   rintro e w' ⟨rfl,hq⟩
   refine ⟨ret_bool ?_,hq⟩
   rw [List.take_of_length_le (by simp),List.take_of_length_le (by simp)]
   simp [map_inj]
 ·refine (Tryz.slices_Equal_string_lens A1 A2 l.length c1 m.length c2 w hne).mono ?_
  rintro e w' ⟨rfl,rfl⟩
  refine ⟨ret_bool ?_,0,rfl⟩
  have:¬ l=m:=fun e=>hne (by rw [e])
  simp [this]
end Go.Proofs.YtlipmlbijddopaaGreatDoor
namespace Go.Proofs.YtlipmlbijddopaaGreatDoor
open Go.RowKit
theorem Ow.form7 {w:World} {base:Nat} {e:TypeId} {v:Value} {xs:List Value} (h:Ow w base e v xs) (n:Nat) (hn:xs.length=n):∃ A c,v = .slice A n c∧n≤c∧Rd w w.heap.size A n xs:=by
 subst hn
 obtain ⟨A,c,h1,h2,_,h3⟩:=h.form
 exact ⟨A,c,h1,h2,h3⟩
end Go.Proofs.YtlipmlbijddopaaGreatDoor
set_option linter.unusedVariables false
namespace Go.Proofs.YtlipmlbijddopaaGreatDoor
open Go.RowKit
theorem smallB_idem (c:UInt8):smallB (smallB c)=smallB c:=by
 by_cases h:65≤(c.toNat:Int)∧(c.toNat:Int)≤90
 ·have h1:=smallB_yes c h.1 h.2
  exact smallB_no _ (by omega)
 ·rw [smallB_no c h,smallB_no c h]
theorem smallS_idem (l:List UInt8):smallS (smallS l)=smallS l:=by
 unfold smallS
 rw [List.map_map]
 exact List.map_congr_left fun c _=>smallB_idem c
theorem sizeN_snoc (n:List (List UInt8)) (l:List UInt8):sizeN (n++[l])=sizeN n+(1+l.length):=by
 have h1:=sizeN_append n [l]
 simp only [sizeN] at h1
 omega
theorem getD_take_eq {b b':List UInt8} {M p:Nat} (h:b'.take M=b.take M) (hp:p<M):b'.getD p 0=b.getD p 0:=by
 have e:∀ x:List UInt8,x.getD p 0=(x.take M).getD p 0:=fun x=>by
  rw [List.getD_eq_getElem?_getD,List.getD_eq_getElem?_getD,List.getElem?_take_of_lt hp]
 rw [e b',e b,h]
theorem piece_take_eq {b b':List UInt8} {M p c:Nat} (h:b'.take M=b.take M) (hp:p+c≤M):(b'.drop p).take c=(b.drop p).take c:=by
 have e:∀ x:List UInt8,(x.drop p).take c=((x.take M).drop p).take c:=fun x=>by
  rw [List.drop_take,List.take_take,Nat.min_eq_left (by omega)]
 rw [e b',e b,h]
theorem take_take_of {b b':List UInt8} {M m:Nat} (h:b'.take M=b.take M) (hm:m≤M):b'.take m=b.take m:=by
 have e:∀ x:List UInt8,x.take m=(x.take M).take m:=fun x=>by rw [List.take_take,Nat.min_eq_left hm]
 rw [e b',e b,h]
theorem rdM_lab {b:List UInt8} {f bg en p c:Nat} (hf:rdM b bg en p≤f+1) (hp:p<en) (hc:p+1+c≤en):rdM b bg en (p+(1+c))≤f:=by
 unfold rdM at hf ⊢;omega
theorem rdM_ptr {b:List UInt8} {f bg en p q:Nat} (hf:rdM b bg en p≤f+1) (hp:p<en) (hb:bg≤b.length) (hq:q<bg):rdM b q bg q≤f:=by
 unfold rdM at hf ⊢
 have h1:(q+1)*(b.length+2)≤bg*(b.length+2):=Nat.mul_le_mul_right _ hq
 rw [Nat.add_mul,Nat.one_mul] at h1
 omega
theorem rd_right (b:List UInt8):∀ (f bg en p nx sz:Nat) (out:List (List UInt8)),rdM b bg en p≤f→bg≤b.length→en≤b.length→sz=sizeN out→sz≤255→out.all okL=true→
 ((rd b f bg en p nx sz out).2.2=0∧rightN (rd b f bg en p nx sz out).1=true)∨
 ((rd b f bg en p nx sz out).1=[]∧(rd b f bg en p nx sz out).2.1=0∧((rd b f bg en p nx sz out).2.2=161∨(rd b f bg en p nx sz out).2.2=162∨(rd b f bg en p nx sz out).2.2=163∨(rd b f bg en p nx sz out).2.2=3)):=by
 intro f
 induction f with
 | zero=>intro bg en p nx sz out hf;have:=rdM_pos b bg en p;omega
 | succ f ih=>
   intro bg en p nx sz out hf hbg hen hsz hs ho
   rw [rd]
   by_cases hp:p<en
   ·rw [if_pos hp]
    by_cases h0:(b.getD p 0).toNat=0
    ·rw [if_pos h0]
     refine .inl ⟨rfl,?_⟩
     unfold rightN
     rw [ho,←hsz];simp [hs]
    ·rw [if_neg h0]
     by_cases h1:(b.getD p 0).toNat<64
     ·rw [if_pos h1]
      by_cases h2:255<sz+(1+(b.getD p 0).toNat)
      ·rw [if_pos h2];exact .inr ⟨rfl,rfl,.inr (.inr (.inr rfl))⟩
      ·rw [if_neg h2]
       by_cases h3:en<p+1+(b.getD p 0).toNat
       ·rw [if_pos h3];exact .inr ⟨rfl,rfl,.inl rfl⟩
       ·rw [if_neg h3]
        have hl:(smallS ((b.drop (p+1)).take (b.getD p 0).toNat)).length=(b.getD p 0).toNat:=by
         simp only [smallS,List.length_map,List.length_take,List.length_drop];omega
        refine ih _ _ _ _ _ _ (rdM_lab hf hp (by omega)) hbg hen (by rw [sizeN_snoc,hl];omega) (by omega) ?_
        rw [List.all_append,ho]
        simp only [List.all_cons,List.all_nil,Bool.and_true,Bool.true_and]
        unfold okL
        rw [hl,smallS_idem]
        simp only [ne_eq,h0,not_false_eq_true,decide_true,Bool.and_true,Bool.true_and,decide_eq_true_eq]
        omega
     ·rw [if_neg h1]
      by_cases h2:(b.getD p 0).toNat<192
      ·rw [if_pos h2];exact .inr ⟨rfl,rfl,.inr (.inl rfl)⟩
      ·rw [if_neg h2]
       by_cases h3:p+1=en
       ·rw [if_pos h3];exact .inr ⟨rfl,rfl,.inl rfl⟩
       ·rw [if_neg h3]
        by_cases h4:bg≤((b.getD p 0).toNat - 192)*256+(b.getD (p+1) 0).toNat
        ·rw [if_pos h4];exact .inr ⟨rfl,rfl,.inr (.inr (.inl rfl))⟩
        ·rw [if_neg h4]
         exact ih _ _ _ _ _ _ (rdM_ptr hf hp hbg (by omega)) (by omega) hbg hsz hs ho
   ·rw [if_neg hp];exact .inr ⟨rfl,rfl,.inl rfl⟩
theorem rd_later (b b':List UInt8):∀ (f f' bg en p nx sz:Nat) (out:List (List UInt8)),rdM b bg en p≤f→rdM b' bg en p≤f'→bg≤en→en≤b.length→en≤b'.length→b'.take en=b.take en→nx≠0→
 rd b' f' bg en p nx sz out=rd b f bg en p nx sz out∧((rd b f bg en p nx sz out).2.2=0→(rd b f bg en p nx sz out).2.1=nx):=by
 intro f
 induction f with
 | zero=>intro f' bg en p nx sz out hf;have:=rdM_pos b bg en p;omega
 | succ f ih=>
   intro f' bg en p nx sz out hf hf' hbg hen hen' ht hn
   obtain ⟨g,rfl⟩:∃ g,f'=g+1:=⟨f' - 1,by have:=rdM_pos b' bg en p;omega⟩
   rw [rd,rd]
   by_cases hp:p<en
   ·rw [if_pos hp,if_pos hp,getD_take_eq ht hp]
    by_cases h0:(b.getD p 0).toNat=0
    ·rw [if_pos h0,if_pos h0,if_neg hn];exact ⟨rfl,fun _=>rfl⟩
    ·rw [if_neg h0,if_neg h0]
     by_cases h1:(b.getD p 0).toNat<64
     ·rw [if_pos h1,if_pos h1]
      by_cases h2:255<sz+(1+(b.getD p 0).toNat)
      ·rw [if_pos h2,if_pos h2];exact ⟨rfl,fun h=>absurd h (by decide)⟩
      ·rw [if_neg h2,if_neg h2]
       by_cases h3:en<p+1+(b.getD p 0).toNat
       ·rw [if_pos h3,if_pos h3];exact ⟨rfl,fun h=>absurd h (by decide)⟩
       ·rw [if_neg h3,if_neg h3,piece_take_eq ht (by omega)]
        exact ih _ _ _ _ _ _ _ (rdM_lab hf hp (by omega)) (rdM_lab hf' hp (by omega)) hbg hen hen' ht hn
     ·rw [if_neg h1,if_neg h1]
      by_cases h2:(b.getD p 0).toNat<192
      ·rw [if_pos h2,if_pos h2];exact ⟨rfl,fun h=>absurd h (by decide)⟩
      ·rw [if_neg h2,if_neg h2]
       by_cases h3:p+1=en
       ·rw [if_pos h3,if_pos h3];exact ⟨rfl,fun h=>absurd h (by decide)⟩
       ·rw [if_neg h3,if_neg h3,getD_take_eq ht (show p+1<en by omega)]
        by_cases h4:bg≤((b.getD p 0).toNat - 192)*256+(b.getD (p+1) 0).toNat
        ·rw [if_pos h4,if_pos h4];exact ⟨rfl,fun h=>absurd h (by decide)⟩
        ·rw [if_neg h4,if_neg h4,if_neg hn]
         exact ih _ _ _ _ _ _ _ (rdM_ptr hf hp (by omega) (by omega)) (rdM_ptr hf' hp (by omega) (by omega)) (by omega) (by omega) (by omega) (take_take_of ht hbg) hn
   ·rw [if_neg hp,if_neg hp];exact ⟨rfl,fun h=>absurd h (by decide)⟩
theorem rd_first (b:List UInt8):∀ (f bg p sz:Nat) (out:List (List UInt8)),rdM b bg b.length p≤f→bg≤p→(rd b f bg b.length p 0 sz out).2.2=0→
 p<(rd b f bg b.length p 0 sz out).2.1∧(rd b f bg b.length p 0 sz out).2.1≤b.length∧
 (∀ (b':List UInt8) (f':Nat),rdM b' bg b'.length p≤f'→b'.take (rd b f bg b.length p 0 sz out).2.1=b.take (rd b f bg b.length p 0 sz out).2.1→(rd b f bg b.length p 0 sz out).2.1≤b'.length→
  rd b' f' bg b'.length p 0 sz out=rd b f bg b.length p 0 sz out)∧
 (∀ (b':List UInt8) (f':Nat),rdM b' bg b'.length p≤f'→b'=b.take ((rd b f bg b.length p 0 sz out).2.1 - 1)→rd b' f' bg b'.length p 0 sz out=([],0,161)):=by
 intro f
 induction f with
 | zero=>intro bg p sz out hf;have:=rdM_pos b bg b.length p;omega
 | succ f ih=>
   intro bg p sz out hf hbg
   rw [rd]
   by_cases hp:p<b.length
   ·rw [if_pos hp]
    by_cases h0:(b.getD p 0).toNat=0
    ·rw [if_pos h0,if_pos rfl]
     refine fun _=>⟨by simp,by simp;omega,fun b' f' hf' ht hl=>?_,fun b' f' hf' hb'=>?_⟩
     ·simp only at ht hl
      obtain ⟨g,rfl⟩:∃ g,f'=g+1:=⟨f' - 1,by have:=rdM_pos b' bg b'.length p;omega⟩
      rw [rd,if_pos (by omega),getD_take_eq ht (by omega),if_pos h0,if_pos rfl]
     ·simp only [Nat.add_sub_cancel] at hb'
      have hl:b'.length=p:=by rw [hb',List.length_take];omega
      obtain ⟨g,rfl⟩:∃ g,f'=g+1:=⟨f' - 1,by have:=rdM_pos b' bg b'.length p;omega⟩
      rw [rd,if_neg (by omega)]
    ·rw [if_neg h0]
     by_cases h1:(b.getD p 0).toNat<64
     ·rw [if_pos h1]
      by_cases h2:255<sz+(1+(b.getD p 0).toNat)
      ·rw [if_pos h2];exact fun h=>absurd h (by decide)
      ·rw [if_neg h2]
       by_cases h3:b.length<p+1+(b.getD p 0).toNat
       ·rw [if_pos h3];exact fun h=>absurd h (by decide)
       ·rw [if_neg h3]
        intro h
        obtain ⟨i1,i2,i3,i4⟩:=ih bg (p+(1+(b.getD p 0).toNat)) (sz+(1+(b.getD p 0).toNat)) _ (rdM_lab hf hp (by omega)) (by omega) h
        refine ⟨by omega,i2,fun b' f' hf' ht hl=>?_,fun b' f' hf' hb'=>?_⟩
        ·obtain ⟨g,rfl⟩:∃ g,f'=g+1:=⟨f' - 1,by have:=rdM_pos b' bg b'.length p;omega⟩
         rw [rd,if_pos (by omega),getD_take_eq ht (by omega),if_neg h0,if_pos h1,if_neg h2,if_neg (by omega),piece_take_eq ht (by omega)]
         exact i3 b' g (rdM_lab hf' (by omega) (by omega)) ht hl
        ·have hl:b'.length=(rd b f bg b.length (p+(1+(b.getD p 0).toNat)) 0 (sz+(1+(b.getD p 0).toNat)) (out++[smallS ((b.drop (p+1)).take (b.getD p 0).toNat)])).2.1 - 1:=by rw [hb',List.length_take];omega
         have ht:b'.take b'.length=b.take b'.length:=by rw [List.take_length,hl];exact hb'
         obtain ⟨g,rfl⟩:∃ g,f'=g+1:=⟨f' - 1,by have:=rdM_pos b' bg b'.length p;omega⟩
         rw [rd,if_pos (by omega),getD_take_eq ht (by omega),if_neg h0,if_pos h1,if_neg h2,if_neg (by omega),piece_take_eq ht (by omega)]
         exact i4 b' g (rdM_lab hf' (by omega) (by omega)) hb'
     ·rw [if_neg h1]
      by_cases h2:(b.getD p 0).toNat<192
      ·rw [if_pos h2];exact fun h=>absurd h (by decide)
      ·rw [if_neg h2]
       by_cases h3:p+1=b.length
       ·rw [if_pos h3];exact fun h=>absurd h (by decide)
       ·rw [if_neg h3]
        by_cases h4:bg≤((b.getD p 0).toNat - 192)*256+(b.getD (p+1) 0).toNat
        ·rw [if_pos h4];exact fun h=>absurd h (by decide)
        ·rw [if_neg h4,if_pos rfl]
         intro h
         have hM:=rdM_ptr hf hp (by omega) (Nat.lt_of_not_le h4)
         obtain ⟨_,hnx⟩:=rd_later b b f f (((b.getD p 0).toNat - 192)*256+(b.getD (p+1) 0).toNat) bg (((b.getD p 0).toNat - 192)*256+(b.getD (p+1) 0).toNat) (p+2) sz out hM hM (by omega) (by omega) (by omega) rfl (by omega)
         have hnx:=hnx h
         rw [hnx]
         refine ⟨by omega,by omega,fun b' f' hf' ht hl=>?_,fun b' f' hf' hb'=>?_⟩
         ·obtain ⟨g,rfl⟩:∃ g,f'=g+1:=⟨f' - 1,by have:=rdM_pos b' bg b'.length p;omega⟩
          rw [rd,if_pos (by omega),getD_take_eq ht (show p<p+2 by omega),if_neg h0,if_neg h1,if_neg h2,if_neg (by omega),getD_take_eq ht (show p+1<p+2 by omega),if_neg h4,if_pos rfl]
          exact (rd_later b b' f g _ bg _ (p+2) sz out hM (rdM_ptr hf' (by omega) (by omega) (by omega)) (by omega) (by omega) (by omega) (take_take_of ht (by omega)) (by omega)).1
         ·have hl:b'.length=p+1:=by rw [hb',List.length_take];omega
          have ht:b'.take (p+1)=b.take (p+1):=by rw [hb',List.take_take];congr 1;omega
          obtain ⟨g,rfl⟩:∃ g,f'=g+1:=⟨f' - 1,by have:=rdM_pos b' bg b'.length p;omega⟩
          rw [rd,if_pos (by omega),getD_take_eq ht (show p<p+1 by omega),if_neg h0,if_neg h1,if_neg h2,if_pos (by omega)]
   ·rw [if_neg hp];exact fun h=>absurd h (by decide)
theorem rd_local (b b':List UInt8):∀ (f f' bg en p nx sz:Nat) (out:List (List UInt8)),rdM b bg en p≤f→rdM b' bg en p≤f'→bg≤en→en≤b.length→en≤b'.length→b'.take en=b.take en→
 rd b' f' bg en p nx sz out=rd b f bg en p nx sz out:=by
 intro f
 induction f with
 | zero=>intro f' bg en p nx sz out hf;have:=rdM_pos b bg en p;omega
 | succ f ih=>
   intro f' bg en p nx sz out hf hf' hbg hen hen' ht
   obtain ⟨g,rfl⟩:∃ g,f'=g+1:=⟨f' - 1,by have:=rdM_pos b' bg en p;omega⟩
   rw [rd,rd]
   by_cases hp:p<en
   ·rw [if_pos hp,if_pos hp,getD_take_eq ht hp]
    by_cases h0:(b.getD p 0).toNat=0
    ·rw [if_pos h0,if_pos h0]
    ·rw [if_neg h0,if_neg h0]
     by_cases h1:(b.getD p 0).toNat<64
     ·rw [if_pos h1,if_pos h1]
      by_cases h2:255<sz+(1+(b.getD p 0).toNat)
      ·rw [if_pos h2,if_pos h2]
      ·rw [if_neg h2,if_neg h2]
       by_cases h3:en<p+1+(b.getD p 0).toNat
       ·rw [if_pos h3,if_pos h3]
       ·rw [if_neg h3,if_neg h3,piece_take_eq ht (by omega)]
        exact ih _ _ _ _ _ _ _ (rdM_lab hf hp (by omega)) (rdM_lab hf' hp (by omega)) hbg hen hen' ht
     ·rw [if_neg h1,if_neg h1]
      by_cases h2:(b.getD p 0).toNat<192
      ·rw [if_pos h2,if_pos h2]
      ·rw [if_neg h2,if_neg h2]
       by_cases h3:p+1=en
       ·rw [if_pos h3,if_pos h3]
       ·rw [if_neg h3,if_neg h3,getD_take_eq ht (show p+1<en by omega)]
        by_cases h4:bg≤((b.getD p 0).toNat - 192)*256+(b.getD (p+1) 0).toNat
        ·rw [if_pos h4,if_pos h4]
        ·rw [if_neg h4,if_neg h4]
         exact ih _ _ _ _ _ _ _ (rdM_ptr hf hp (by omega) (by omega)) (rdM_ptr hf' hp (by omega) (by omega)) (by omega) (by omega) (by omega) (take_take_of ht hbg)
   ·rw [if_neg hp,if_neg hp]
theorem rd_nx (b:List UInt8):∀ (f bg en p nx nx' sz:Nat) (out:List (List UInt8)),(rd b f bg en p nx sz out).1=(rd b f bg en p nx' sz out).1∧(rd b f bg en p nx sz out).2.2=(rd b f bg en p nx' sz out).2.2∧
 (nx≠0→(rd b f bg en p nx sz out).2.2=0→(rd b f bg en p nx sz out).2.1=nx)∧((rd b f bg en p nx sz out).2.2≠0→rd b f bg en p nx sz out=([],0,(rd b f bg en p nx sz out).2.2)):=by
 intro f
 induction f with
 | zero=>intro bg en p nx nx' sz out;exact ⟨rfl,rfl,fun _ h=>absurd (show (999:Nat)=0 from h) (by decide),fun _=>rfl⟩
 | succ f ih=>
   intro bg en p nx nx' sz out
   rw [rd,rd]
   by_cases hp:p<en
   ·rw [if_pos hp,if_pos hp]
    by_cases h0:(b.getD p 0).toNat=0
    ·rw [if_pos h0,if_pos h0];exact ⟨rfl,rfl,fun h _=>if_neg h,fun h=>absurd rfl h⟩
    ·rw [if_neg h0,if_neg h0]
     by_cases h1:(b.getD p 0).toNat<64
     ·rw [if_pos h1,if_pos h1]
      by_cases h2:255<sz+(1+(b.getD p 0).toNat)
      ·rw [if_pos h2,if_pos h2];exact ⟨rfl,rfl,fun _ h=>absurd h (by decide),fun _=>rfl⟩
      ·rw [if_neg h2,if_neg h2]
       by_cases h3:en<p+1+(b.getD p 0).toNat
       ·rw [if_pos h3,if_pos h3];exact ⟨rfl,rfl,fun _ h=>absurd h (by decide),fun _=>rfl⟩
       ·rw [if_neg h3,if_neg h3]
        exact ih _ _ _ _ _ _ _
     ·rw [if_neg h1,if_neg h1]
      by_cases h2:(b.getD p 0).toNat<192
      ·rw [if_pos h2,if_pos h2];exact ⟨rfl,rfl,fun _ h=>absurd h (by decide),fun _=>rfl⟩
      ·rw [if_neg h2,if_neg h2]
       by_cases h3:p+1=en
       ·rw [if_pos h3,if_pos h3];exact ⟨rfl,rfl,fun _ h=>absurd h (by decide),fun _=>rfl⟩
       ·rw [if_neg h3,if_neg h3]
        by_cases h4:bg≤((b.getD p 0).toNat - 192)*256+(b.getD (p+1) 0).toNat
        ·rw [if_pos h4,if_pos h4];exact ⟨rfl,rfl,fun _ h=>absurd h (by decide),fun _=>rfl⟩
        ·rw [if_neg h4,if_neg h4]
         obtain ⟨i1,i2,i3,i4⟩:=ih (((b.getD p 0).toNat - 192)*256+(b.getD (p+1) 0).toNat) bg (((b.getD p 0).toNat - 192)*256+(b.getD (p+1) 0).toNat) (if nx=0 then p+2 else nx) (if nx'=0 then p+2 else nx') sz out
         refine ⟨i1,i2,fun hn h=>?_,i4⟩
         rw [if_neg hn] at i3 h ⊢
         exact i3 hn h
   ·rw [if_neg hp,if_neg hp];exact ⟨rfl,rfl,fun _ h=>absurd h (by decide),fun _=>rfl⟩
theorem rd_jump (b:List UInt8) (f q bg nx sz:Nat) (out:List (List UInt8)) (hf:rdM b q bg q≤f) (hq:q<bg) (hb:bg≤b.length) (hn:nx≠0) :
 rd b f q bg q nx sz out=(if (rd (b.take bg) (rdM (b.take bg) q (b.take bg).length q) q (b.take bg).length q 0 sz out).2.2=0 then ((rd (b.take bg) (rdM (b.take bg) q (b.take bg).length q) q (b.take bg).length q 0 sz out).1,nx,0)
  else ([],0,(rd (b.take bg) (rdM (b.take bg) q (b.take bg).length q) q (b.take bg).length q 0 sz out).2.2)):=by
 have hl:(b.take bg).length=bg:=by rw [List.length_take];omega
 rw [hl]
 rw [rd_local b (b.take bg) f (rdM (b.take bg) q bg q) q bg q 0 sz out hf (Nat.le_refl _) (by omega) hb (by omega) (by rw [List.take_take,Nat.min_self])]
 obtain ⟨i1,i2,i3,i4⟩:=rd_nx b f q bg q nx 0 sz out
 rw [←i1,←i2]
 split
 ·rename_i h0
  have h1:=i3 hn h0
  exact Prod.ext rfl (Prod.ext h1 h0)
 ·rename_i h0
  exact i4 h0
theorem readN_errs (b:List UInt8) (p:Nat) (hp:p≤b.length):((readN b p).2.2=0∧rightN (readN b p).1=true)∨((readN b p).1=[]∧(readN b p).2.1=0∧((readN b p).2.2=161∨(readN b p).2.2=162∨(readN b p).2.2=163∨(readN b p).2.2=3)):=by
 unfold readN
 rw [if_pos hp]
 exact rd_right b _ _ _ _ _ _ _ (Nat.le_refl _) hp (Nat.le_refl _) rfl (by omega) rfl
theorem readN_next (b:List UInt8) (p:Nat) (hp:p≤b.length) (h:(readN b p).2.2=0):p<(readN b p).2.1∧(readN b p).2.1≤b.length:=by
 unfold readN at h ⊢
 rw [if_pos hp] at h ⊢
 have:=rd_first b _ p p 1 [] (Nat.le_refl _) (Nat.le_refl _) h
 exact ⟨this.1,this.2.1⟩
theorem readN_behind (b:List UInt8) (p:Nat) (hp:p≤b.length) (h:(readN b p).2.2=0) (b':List UInt8) (ht:b'.take (readN b p).2.1=b.take (readN b p).2.1) (hl:(readN b p).2.1≤b'.length):readN b' p=readN b p:=by
 have hn:=readN_next b p hp h
 have e:readN b' p=rd b' (rdM b' p b'.length p) p b'.length p 0 1 []:=by unfold readN;rw [if_pos (by omega)]
 rw [e]
 unfold readN at h ht hl ⊢
 rw [if_pos hp] at h ht hl ⊢
 exact (rd_first b _ p p 1 [] (Nat.le_refl _) (Nat.le_refl _) h).2.2.1 b' _ (Nat.le_refl _) ht hl
end Go.Proofs.YtlipmlbijddopaaGreatDoor
set_option linter.unusedVariables false
namespace Go.Proofs.YtlipmlbijddopaaGreatDoor
open Go.RowKit
theorem catStr (a b:List UInt8):(⟨a.toArray⟩:ByteArray)++(⟨b.toArray⟩:ByteArray)=⟨(a++b).toArray⟩:=by
 apply ByteArray.ext
 simp
theorem subU8 (y:UInt8):IntKind.u8.wrap ((y.toNat:Int) - 48)=((y - 48).toNat:Int):=by
 have:=UInt8.toNat_lt y
 rw [IntKind.wrap_u8',UInt8.toNat_sub]
 simp;omega
theorem addStr (W:World) (a b:List UInt8) (h:a.length+b.length≤140737488355328):(binOp .add 9 (.string ⟨a.toArray⟩) (.string ⟨b.toArray⟩)).run Tryz.prog W = .ok (.string ⟨(a++b).toArray⟩) W:=by
 rw [binOp_string_add]
 have:(⟨a.toArray⟩:ByteArray)++(⟨b.toArray⟩:ByteArray)=⟨(a++b).toArray⟩:=by
  apply ByteArray.ext
  simp
 have h1:ByteArray.size ⟨a.toArray⟩=a.length:=rfl
 have h2:ByteArray.size ⟨b.toArray⟩=b.length:=rfl
 simp [Op.stringOp,this,h1,h2]
 omega
theorem idxStr (W:World) (s:List UInt8) (i:Nat) (x:UInt8) (h:s[i]? = some x):(Instr.index 9 (.string ⟨s.toArray⟩) (.int .i64 (i:Int))).run Tryz.prog W = .ok (.int .u8 (x.toNat:Int)) W:=by
 obtain ⟨hi,rfl⟩:=List.getElem?_eq_some_iff.1 h
 rw [run_index_string W 9 ⟨s.toArray⟩ .i64 i Tryz.underlying9]
 have hz:ByteArray.size ⟨s.toArray⟩=s.length:=rfl
 rw [dif_pos ⟨by omega,by rw [hz];omega⟩]
 rfl
theorem cutStr (W:World) (s:List UInt8) (i:Nat) (x:UInt8) (h:s[i]? = some x) (a b:Int) (ha:a=(i:Int)) (hb:b=(i:Int)+1):(Instr.slice 9 (.string ⟨s.toArray⟩) (some (.int .i64 a)) (some (.int .i64 b)) none).run Tryz.prog W = .ok (.string ⟨[x].toArray⟩) W:=by
 obtain ⟨hi,rfl⟩:=List.getElem?_eq_some_iff.1 h
 subst ha hb
 have hz:ByteArray.size ⟨s.toArray⟩=s.length:=rfl
 rw [run_slice_string W 9 ⟨s.toArray⟩ .i64 .i64 i ((i:Int)+1) Tryz.underlying9 (by omega) (by omega) (by rw [hz];omega)]
 congr 2
 apply ByteArray.ext
 rw [ByteArray.data_extract]
 apply Array.ext
 ·simp;omega
 ·intro k h1 h2
  simp at h1 h2
  simp [h2]
theorem below_drewN {B:Nat} {a w:World} (h:Below B a w) (n:Nat):Below B a (w.drewN n):=⟨h.os,h.tape,h.output,h.size,h.block⟩
theorem below_step {B q:Nat} {a w w':World} (h:Below B a w) (hq:w'=w.drewN q):Below B a w':=by subst hq;exact ⟨h.os,h.tape,h.output,h.size,h.block⟩
theorem ext_str (s:List UInt8) (i j:Nat):(⟨s.toArray⟩:ByteArray).extract i j=⟨((s.drop i).take (j - i)).toArray⟩:=by
 apply ByteArray.ext
 rw [ByteArray.data_extract]
 show s.toArray.extract i j=_
 rw [List.extract_toArray]
theorem cutSuf (W:World) (s:List UInt8) (m:Nat) (h:m≤s.length):(Instr.slice 9 (.string ⟨s.toArray⟩) (some (.int .i64 (m:Int))) none none).run Tryz.prog W = .ok (.string ⟨(s.drop m).toArray⟩) W:=by
 have hz:ByteArray.size ⟨s.toArray⟩=s.length:=rfl
 rw [run_slice_string_l W 9 ⟨s.toArray⟩ Tryz.underlying9 .i64 (m:Int) (by omega) (by rw [hz];omega),ext_str,hz]
 simp [List.take_of_length_le]
end Go.Proofs.YtlipmlbijddopaaGreatDoor
set_option linter.unusedVariables false
set_option linter.unusedSimpArgs false
namespace Go.Proofs.YtlipmlbijddopaaGreatDoor
open Go.RowKit
theorem Rd.pre {w:World} {B n:Nat} {A:Option Addr} {xs:List Value} (h:Rd w B A n xs) {k:Nat} (hk:k≤n):Rd w B A k (xs.take k):=by
 refine ⟨by rw [List.length_take,h.1];omega,fun h0=>?_⟩
 obtain ⟨b,o,e,hb,hc⟩:=h.2 (by omega)
 refine ⟨b,o,e,hb,fun j u hu=>hc j u ?_⟩
 rcases Nat.lt_or_ge j k with h1 | h1
 ·rwa [List.getElem?_take_of_lt h1] at hu
 ·rw [List.getElem?_eq_none (by rw [List.length_take];omega)] at hu;cases hu
theorem Rd.preB {w:World} {B n:Nat} {A:Option Addr} {l:List UInt8} (h:Rd w B A n (bc l)) {k:Nat} (hk:k≤n):Rd w B A k (bc (l.take k)):=by
 have:=h.pre hk
 simp only [bc,List.map_take] at this ⊢
 exact this
theorem bc_append (a b:List UInt8):bc (a++b)=bc a++bc b:=by simp [bc]
theorem bclone_at (A:Option Addr) (c L:Nat) (l:List UInt8) (w:World) (B:Nat) (hL:l.length=L) (hB:B≤w.heap.size) (h:Rd w B A L (bc l)) (hl:L≤140737488355328) :
 Calls Tryz.prog 20 #[.slice A L c] w fun e w'=>∃ v,e = .returned v∧Ow w' w.heap.size 5 v (bc l)∧Below w.heap.size w w':=by
 subst hL
 exact bclone A c l w B hB h hl
theorem read_at (A:Option Addr) (c L:Nat) (b:List UInt8) (p:Nat) (w:World) (r:List (List UInt8) × Nat × Nat) (hL:b.length=L) (hr:readN b p=r) (h:Rd w w.heap.size A L (bc b)) (hcap:L≤c) (hb:L≤140737488355328) (hp:p≤L) :
 Calls Tryz.prog 148 #[.slice A L c,.int .i64 p] w fun e w'=>∃ v,e = .returned (.tuple #[v,.int .i64 r.2.1,.int .i64 r.2.2])∧Ow w' w.heap.size 9 v (sc r.1)∧Below w.heap.size w w':=by
 subst hL hr
 exact read_any A c b p w h hcap hb hp
end Go.Proofs.YtlipmlbijddopaaGreatDoor
set_option linter.unusedVariables false
namespace Go.Proofs.YtlipmlbijddopaaGreatDoor
open Go.RowKit
theorem okL_len {l:List UInt8} (h:l.length<1∨63<l.length):okL l=false:=by
 unfold okL
 rcases h with h | h
 ·have:l.length=0:=by omega
  simp [this]
 ·have:¬ l.length≤63:=by omega
  simp [this]
theorem okL_yes {l:List UInt8} (h1:¬ l.length<1) (h2:¬ 63<l.length) (h3:smallS l=l):okL l=true:=by
 unfold okL
 rw [decide_eq_true (show l.length≠0 by omega),decide_eq_true (show l.length≤63 by omega),decide_eq_true h3];rfl
set_option maxHeartbeats 400000 in
theorem rsize_any (A:Option Addr) (c:Nat) (n:List (List UInt8)) (w:World) (B:Nat) (h:Rd w B A n.length (sc n)) (hs:sizeN n≤9223372036854775807) :
 Calls Tryz.prog 103 #[.slice A n.length c] w fun e w'=>e = .returned (.int .i64 (sizeN n))∧w'=w:=by
 have hl:=sizeN_length n
 go_enter Tryz.func103,Tryz.ntmps103
 go_wp2
 go_loop [3,4] (fun s i=>∃ k:Nat,k≤n.length∧i = .int .i64 k∧s = .int .i64 (sizeN (n.take k))) (fun _ i=>n.length - (intOf i).toNat)
 case atStart=>exact ⟨0,Nat.zero_le _,rfl,rfl⟩
 case round=>
  obtain ⟨k,hk,rfl,rfl⟩:=hrel
  by_cases hlt:k<n.length
  ·obtain ⟨b,o,rfl,_,hc⟩:=h.at_ hlt
   have hcell:=hc k _ (sc_get n k hlt)
   have hst:=sizeN_take n k hlt
   have hle:=sizeN_take_le n (k+1)
   have hle1:sizeN (n.take k)+(1+n[k].length)≤9223372036854775807:=by omega
   have HS:=Lib.hid hst
   clear hst hle hc h
   go_wp2
   go_round
   case rel=>exact ⟨k+1,by omega,by go_num,by rw [HS.out];go_num⟩
   case measure=>simp [intOf];omega
  ·go_wp2
   go_ret
   have:k=n.length:=by omega
   subst this
   simp
theorem rsmall_any (c:UInt8) (w:World):Calls Tryz.prog 140 #[.int .u8 (c.toNat:Int)] w fun e w'=>e = .returned (.int .u8 ((smallB c).toNat:Int))∧w'=w:=by
 have hc:(c.toNat:Int)<256:=by have:=c.toNat_lt;omega
 by_cases h1:65≤(c.toNat:Int)
 ·by_cases h2:(c.toNat:Int)≤90
  ·have e:=smallB_yes c h1 h2
   have H:=Lib.hid e
   clear e
   go_enter Tryz.func140,Tryz.ntmps140
   go_wp2
   go_ret
   exact ⟨by rw [H.out];exact ret_int (by omega),rfl⟩
  ·have e:=smallB_no c (fun h=>h2 h.2)
   have H:=Lib.hid e
   clear e
   go_enter Tryz.func140,Tryz.ntmps140
   go_wp2
   go_ret
   exact ⟨by rw [H.out];rfl,rfl⟩
 ·have e:=smallB_no c (fun h=>h1 h.1)
  have H:=Lib.hid e
  clear e
  go_enter Tryz.func140,Tryz.ntmps140
  go_wp2
  go_ret
  exact ⟨by rw [H.out];rfl,rfl⟩
def half (l:List UInt8) (k:Nat):List UInt8:=smallS (l.take k)++List.replicate (l.length - k) 0
theorem half_zero (l:List UInt8):half l 0=List.replicate l.length 0:=by simp [half,smallS]
theorem half_all (l:List UInt8) (k:Nat) (h:l.length≤k):half l k=smallS l:=by
 unfold half
 rw [List.take_of_length_le h,Nat.sub_eq_zero_of_le h];simp
theorem half_get (l:List UInt8) (k:Nat) (h:k<l.length):(half l k)[k]? = some 0:=by
 unfold half
 have e:(smallS (l.take k)).length=k:=by simp [smallS];omega
 rw [List.getElem?_append_right (by omega),e,Nat.sub_self,List.getElem?_replicate_of_lt (by omega)]
theorem half_set (l:List UInt8) (k:Nat) (h:k<l.length):(half l k).set k (smallB l[k])=half l (k+1):=by
 unfold half
 have e:List.replicate (l.length - k) (0:UInt8)=0 :: List.replicate (l.length - (k+1)) 0:=by
  rw [show l.length - k=(l.length - (k+1))+1 by omega,List.replicate_succ]
 have e2:(smallS (l.take k)).length=k:=by simp [smallS];omega
 rw [e,List.set_append_right _ _ (by omega),e2,Nat.sub_self,List.take_succ_eq_append_getElem h]
 simp only [smallS,List.map_append,List.map_cons,List.map_nil,List.set_cons_zero,List.append_assoc,List.singleton_append]
theorem made_bytes (n:Nat):madeCells (Value.int .u8 0).cells n=(bc (List.replicate n 0)).toArray:=by
 apply Array.ext
 ·simp [madeCells]
 ·intro i h1 h2
  simp [madeCells,bc,Value.cells,Nat.mod_one]
theorem run_mkbytes (n:Nat) (hn:n≤140737488355328) (W:World):(Instr.makeSlice 22 (.int .i64 (n:Int)) (.int .i64 (n:Int))).run Tryz.prog W = .ok (.slice (some ⟨W.heap.size,0,none⟩) n n) (W.alloc (.cells (bc (List.replicate n 0)).toArray 5)):=by
 obtain ⟨i0,hi,hz0,hz1,hz2⟩:=info_parts Tryz.infoByte
 have:=run_make (P:=Tryz.prog) W 22 5 i0 (.int .u8 0) Tryz.underlying22 hi hz0 .i64 .i64 n n (by omega) (by omega) (by rw [hz2];omega) (by omega)
 rw [this,hz1]
 simp only [Nat.mul_one,Int.toNat_natCast]
 rw [made_bytes]
set_option maxRecDepth 100000 in
set_option maxHeartbeats 400000 in
theorem rlower_any (l:List UInt8) (w:World) (hl:l.length≤140737488355328) :
 Calls Tryz.prog 102 #[.string ⟨l.toArray⟩] w fun e w'=>e = .returned (.string ⟨(smallS l).toArray⟩)∧Below w.heap.size w w':=by
 have hmk:=run_mkbytes l.length hl
 obtain ⟨g,hg⟩:∃ g,g=w.heap.size:=⟨_,rfl⟩
 have hown0:Own (w.alloc (.cells (bc (List.replicate l.length 0)).toArray 5)) g (bc (half l 0)):=by
  rw [half_zero,hg]
  intro j u hu
  have hj:j<l.length:=by
   rcases Nat.lt_or_ge j l.length with h1 | h1
   ·exact h1
   ·rw [List.getElem?_eq_none (by simpa using h1)] at hu;cases hu
  have:=World.cell?_alloc_mark w (bc (List.replicate l.length 0)).toArray 5 (0,0) j
  have h2:=World.frozen?_alloc_mark w (bc (List.replicate l.length 0)).toArray 5 0 0 j
  exact ⟨this.trans (by simpa using hu),h2.trans (by simp)⟩
 have hb0:Below w.heap.size w (w.alloc (.cells (bc (List.replicate l.length 0)).toArray 5)):=(Below.refl _ w).alloc (Nat.le_refl _) _
 have hgB:w.heap.size≤g:=by omega
 have H:=Lib.hid hg
 clear hg
 go_enter Tryz.func102,Tryz.ntmps102
 go_wp2
 rw [←H.out]
 go_loopw [4] (fun i wr=>∃ k:Nat,k≤l.length∧i = .int .i64 k∧Own wr g (bc (half l k))∧Below w.heap.size w wr) (fun i _=>l.length - (intOf i).toNat)
 case atStart=>exact ⟨0,Nat.zero_le _,rfl,hown0,hb0⟩
 case round=>
  clear hown0 hb0 hmk
  obtain ⟨k,hk,rfl,hown,hbel⟩:=hrel
  by_cases hlt:k<l.length
  ·have hm:=half_get l k hlt
   obtain ⟨hc1,hc2⟩:=hown k (.int .u8 (0:Int)) (by simp [bc,hm])
   have hix:=fun W=>idxStr W l k l[k] (by simp [hlt])
   clear hm
   go_wp2_with (go_at_call 140;refine (rsmall_any l[k] _).mono ?_;rintro e w1 ⟨rfl,rfl⟩)
   go_roundw
   case rel=>exact ⟨k+1,by omega,by go_num,by rw [←half_set l k hlt,←bc_set];exact hown.set_ k _,hbel.setCell (by exact hgB) _⟩
   case measure=>simp [intOf];omega
  ·rw [half_all l k (by omega)] at hown
   have hcv:=fun (W:World) (h:Own W g (bc (smallS l)))=>conv_bs (P:=Tryz.prog) W 22 5 9 (some ⟨g,0,none⟩) l.length (g+1) (smallS l) Tryz.underlying22 Tryz.underlying5 Tryz.underlying9 (by have:=h.rd (B:=g+1) (by omega);simpa using this)
   have hcv1:=hcv wr hown
   rw [smallS_length] at hcv1
   clear hcv
   go_wp2
   go_ret
   exact ⟨rfl,hbel⟩
end Go.Proofs.YtlipmlbijddopaaGreatDoor
set_option linter.unusedVariables false
set_option linter.unusedSimpArgs false
namespace Go.Proofs.YtlipmlbijddopaaGreatDoor
open Go.RowKit
set_option maxRecDepth 100000 in
set_option maxHeartbeats 1000000 in
theorem rright_any (A:Option Addr) (c:Nat) (n:List (List UInt8)) (w:World) (h:Rd w w.heap.size A n.length (sc n)) (hs:sizeN n≤140737488355328) :
 Calls Tryz.prog 53 #[.slice A n.length c] w fun e w'=>e = .returned (.bool (rightN n))∧Below w.heap.size w w':=by
 have hl:=sizeN_length n
 go_enter Tryz.func53,Tryz.ntmps53
 go_wp2_with fail
 go_loopw [3] (fun i wr=>∃ k:Nat,k≤n.length∧i = .int .i64 k∧(n.take k).all okL=true∧Below w.heap.size w wr) (fun i _=>n.length - (intOf i).toNat)
 case atStart=>exact ⟨0,Nat.zero_le _,rfl,rfl,Below.refl _ _⟩
 case round=>
  obtain ⟨k,hk,rfl,hall,hbel⟩:=hrel
  have hr:=h.below hbel
  by_cases hlt:k<n.length
  ·obtain ⟨b,o,rfl,hbB,hc⟩:=hr.at_ hlt
   have hcell:=hc k _ (sc_get n k hlt)
   have hle:=mem_size (List.getElem_mem hlt)
   have HA:=Lib.hid hall
   have i1:(0:Int)≤(k:Int):=by omega
   have i2:(k:Int)<(n.length:Int):=by omega
   have hlk:n[k].length≤140737488355328:=by omega
   have hbw:b<wr.heap.size:=Nat.lt_of_lt_of_le hbB hbel.size
   clear hc h hr hall
   by_cases t1:n[k].length<1
   ·have d1:decide ((n[k].length:Int)<1)=true:=by simp only [decide_eq_true_eq,decide_eq_false_iff_not];omega
    go_wp2_with fail
    go_quiet (fail)
    go_wp2_with fail
    go_ret
    exact ⟨ret_bool (by rw [right_no n k hlt (okL_len (by omega))]),below_drewN hbel _⟩
   ·have d1:decide ((n[k].length:Int)<1)=false:=by simp only [decide_eq_true_eq,decide_eq_false_iff_not];omega
    by_cases t2:63<n[k].length
    ·have d2:decide (63<(n[k].length:Int))=true:=by simp only [decide_eq_true_eq,decide_eq_false_iff_not];omega
     go_wp2_with fail
     go_quiet (fail)
     go_wp2_with fail
     go_ret
     exact ⟨ret_bool (by rw [right_no n k hlt (okL_len (by omega))]),below_drewN hbel _⟩
    ·have d2:decide (63<(n[k].length:Int))=false:=by simp only [decide_eq_true_eq,decide_eq_false_iff_not];omega
     by_cases t3:smallS n[k]=n[k]
     ·have H3:=Lib.hid t3
      clear t3
      go_wp2_with fail
      go_region_held3 (fun w'=>w'.cell? ⟨b,o+k,none⟩=some (.string ⟨n[k].toArray⟩)) (go_keep) ((go_at_call 102;refine (rlower_any n[k] _ hlk).mono ?_;rw [H3.out];rintro e w2 ⟨rfl,hb2⟩;have q0:=(hb2.cell (p:=⟨b,o+k,none⟩) hbw).trans hcell))
      go_wp2_with fail
      go_roundw
      case rel=>exact ⟨k+1,by omega,by go_num,okL_take n k hlt HA.out (okL_yes t1 t2 H3.out),hbel.drew.trans (hb2.mono hbel.size)⟩
      case measure=>simp [intOf];omega
     ·have h4:(smallS n[k] == n[k])=false:=by simpa using t3
      have H3:=Lib.hid t3
      clear t3
      go_wp2_with fail
      go_region_held3 (fun w'=>w'.cell? ⟨b,o+k,none⟩=some (.string ⟨n[k].toArray⟩)) (go_keep) ((go_at_call 102;refine (rlower_any n[k] _ hlk).mono ?_;rintro e w2 ⟨rfl,hb2⟩;have q0:=(hb2.cell (p:=⟨b,o+k,none⟩) hbw).trans hcell))
      go_wp2_with fail
      go_ret
      exact ⟨ret_bool (by rw [right_no n k hlt (by have:=H3.out;simp [okL,this])]),hbel.drew.trans (hb2.mono hbel.size)⟩
  ·have HA:=Lib.hid hall
   clear hall
   go_wp2_with (go_at_call 103;refine (rsize_any A c n wr w.heap.size hr (by omega)).mono ?_;rintro e w2 ⟨rfl,rfl⟩)
   go_ret
   exact ⟨ret_bool (by rw [right_end n k (by omega) HA.out];simp;omega),hbel⟩
set_option maxRecDepth 100000 in
set_option maxHeartbeats 400000 in
theorem rform_ok (A:Option Addr) (c:Nat) (n:List (List UInt8)) (w:World) (h:Rd w w.heap.size A n.length (sc n)) (hr:rightN n=true) :
 Calls Tryz.prog 105 #[.slice A n.length c] w fun e w'=>∃ v,e = .returned (.tuple #[v,.int .i64 0])∧Ow w' w.heap.size 5 v (bc (formN n))∧Below w.heap.size w w':=by
 obtain ⟨i0,hi,hz0,hz1,hz2⟩:=info_parts Tryz.infoByte
 have hs:=size_right hr
 have hl:=sizeN_length n
 go_enter Tryz.func105,Tryz.ntmps105
 go_wp2_with (go_at_call 53;refine (rright_any A c n _ h (by omega)).mono ?_;rw [hr];rintro e w1 ⟨rfl,hb1⟩;have hsz1:=hb1.size)
 go_loopw [4,5] (fun v1 i wr=>∃ k:Nat,k≤n.length∧i = .int .i64 k∧Ow wr w.heap.size 5 v1 (bc (labS (n.take k)))∧Below w.heap.size w wr) (fun _ i _=>n.length - (intOf i).toNat)
 case atStart=>exact ⟨0,Nat.zero_le _,rfl,Ow.nil _ _ _,hb1⟩
 case round=>
  clear hb1 hsz1
  obtain ⟨k,hk,rfl,hownr,hbel⟩:=hrel
  have hr1:=h.below hbel
  have hb1:w.heap.size≤wr.heap.size:=hbel.size
  have hll:=labS_length (n.take k)
  by_cases hlt:k<n.length
  ·obtain ⟨b,o,rfl,hbB,hc⟩:=hr1.at_ hlt
   have hcell:=hc k _ (sc_get n k hlt)
   have hle:=mem_size (List.getElem_mem hlt)
   clear hc h hr1
   have hlr:=sizeN_take_le n (k+1)
   rw [sizeN_take n k hlt] at hlr
   go_wp2_with (first
    | (at_builtin;refine wpList_app (o:=⟨some 23,_,_,_,_,_⟩) _ rfl _ _ _ _ rfl w.heap.size 5 i0 (.int .u8 0) 1 Tryz.underlying22 hi hz0 hz1 hz2 rfl (Nat.le_refl _) _ _ (hownr.alloc _) rfl 1 [_] (one_src Tryz.underlying22 _ rfl) (by simp;omega) (by simp;omega) ?_;intro v2 w2 hown2 hgr2 hsz2;have hbz:=(((Gr.refl wr _).alloc _).trans hgr2).below hownr.lt hb1;have q0:=(hbz.cell (p:=⟨b,o+k,none⟩) hbB).trans hcell)
    | (at_builtin;refine wpList_app (o:=⟨some 29,_,_,_,_,_⟩) _ rfl _ _ _ _ rfl w.heap.size 5 i0 (.int .u8 0) 1 Tryz.underlying22 hi hz0 hz1 hz2 rfl (Nat.le_refl _) _ _ hown2 rfl n[k].length (bc n[k]) (str_src Tryz.underlying9 _) (by simp;omega) hsz2 ?_;intro v3 w3 hown3 hgr3 hsz3))
   go_roundw
   case rel=>
    refine ⟨k+1,by omega,by go_num,?_,?_⟩
    ·rw [labS_take n k hlt]
     have e1:bc (labS (n.take k)++UInt8.ofNat n[k].length :: n[k])=bc (labS (n.take k))++[.int .u8 (n[k].length:Int)]++bc n[k]:=by
      simp [bc];omega
     rw [e1]
     exact hown3
    ·have hg:=((Gr.refl _ _).alloc _).trans (hgr2.trans hgr3)
     exact hbel.trans (hg.below hownr.lt hb1)
   case measure=>simp [intOf];omega
  ·have:k=n.length:=by omega
   subst this
   rw [List.take_length] at hll hownr
   go_wp2_with (at_builtin;refine wpList_app _ rfl _ _ _ _ rfl w.heap.size 5 i0 (.int .u8 0) 1 Tryz.underlying22 hi hz0 hz1 hz2 rfl (Nat.le_refl _) _ _ (hownr.alloc _) rfl 1 [_] (one_src Tryz.underlying22 _ rfl) (by simp;omega) (by simp;omega) ?_;intro v3 w3 hown3 hgr3 hsz3)
   go_ret2
   refine ⟨v3,rfl,?_,?_⟩
   ·have e1:bc (formN n)=bc (labS n)++[.int .u8 0]:=by simp [formN,bc]
    rw [e1];exact hown3
   ·have hg:=((Gr.refl _ _).alloc _).trans hgr3
    exact hbel.trans (hg.below hownr.lt hb1)
end Go.Proofs.YtlipmlbijddopaaGreatDoor
set_option linter.unusedVariables false
namespace Go.Proofs.YtlipmlbijddopaaGreatDoor
open Go.RowKit
def OwE (w:World) (base:Nat) (e:TypeId) (v:Value) (xs:List Value):Prop:=Ow w base e v xs∨(xs=[]∧∃ A,v = .slice A 0 0∧∀ a,A=some a→base≤a.block)
theorem OwE.lit0 (w:World) (base:Nat) (e:TypeId) (A:Option Addr) (hA:∀ a,A=some a→base≤a.block):OwE w base e (.slice A 0 0) []:=.inr ⟨rfl,A,rfl,hA⟩
theorem OwE.lt {w:World} {base:Nat} {e:TypeId} {v:Value} {xs:List Value} (h:OwE w base e v xs):∀ g,v.ownBlock=some g→base≤g:=by
 rcases h with h | ⟨_,A,rfl,hA⟩
 ·exact h.lt
 ·intro g hg
  rcases A with _ | a
  ·simp [Value.ownBlock] at hg
  ·simp [Value.ownBlock] at hg
   subst hg
   exact hA a rfl
theorem OwE.far {w w':World} {base:Nat} {e:TypeId} {v:Value} {xs:List Value} (h:OwE w base e v xs) (hb:Below w.heap.size w w'):OwE w' base e v xs:=by
 rcases h with h | h
 ·exact .inl (h.far hb)
 ·exact .inr h
theorem OwE.alloc {w:World} {base:Nat} {e:TypeId} {v:Value} {xs:List Value} (h:OwE w base e v xs) (o:Obj):OwE (w.alloc o) base e v xs:=by
 rcases h with h | h
 ·exact .inl (h.alloc o)
 ·exact .inr h
theorem OwE.own {w:World} {base:Nat} {e:TypeId} {v:Value} {xs:List Value} (h:OwE w base e v xs) (hx:xs≠[]):Ow w base e v xs:=by
 rcases h with h | h
 ·exact h
 ·exact absurd h.1 hx
section
variable {P:Program} (w:World)
theorem run_appE (base:Nat) (t tx ty e:TypeId) (i:TypeInfo) (z:Value) (bytes:Nat) (ht:P.underlying t=some (.slice e)) (hi:P.info? e=some i) (hz:i.zero=some z)
 (hsize:i.size=1) (hby:i.bytes=bytes) (hzs:z.cells.size=1) (hb1:1≤bytes)
 (v:Value) (xs:List Value) (hown:OwE w base e v xs) (x:Value) (n:Nat) (news:List Value) (hs:Src P 1 tx x n news w)
 (hbytes:(xs.length+n)*bytes≤140737488355328) (hbase:base≤w.heap.size) :
 ∃ v' w',(Builtin.append_ #[t,tx] ty #[v,x]).run P w = .ok v' w'∧OwE w' base e v' (xs++news)∧Gr w w' v v':=by
 rcases hown with hown | ⟨rfl,A,rfl,hA⟩
 ·obtain ⟨v',w',h1,h2,h3⟩:=run_app w base t tx ty e i z bytes ht hi hz hsize hby hzs hb1 v xs hown x n news hs hbytes hbase
  exact ⟨v',w',h1,.inl h2,h3⟩
 ·subst hby
  have hnl:news.length=n:=by simpa using hs.newsLen
  simp only [List.length_nil,Nat.zero_add] at hbytes
  have hle:n≤140737488355328:=Nat.le_trans (Nat.le_mul_of_pos_right _ hb1) hbytes
  by_cases hm:n=0
  ·subst hm
   have hn:news=[]:=List.eq_nil_of_length_eq_zero hnl
   subst hn
   refine ⟨.slice A 0 0,w,?_,.inr ⟨rfl,A,rfl,hA⟩,Gr.refl _ _⟩
   rcases A with _ | A <;> rcases hs.kind with ⟨e',hk⟩ | hk <;> simp [Builtin.append_,run_underlying ht,run_underlying hk,sizeOf,typeInfo,hi,hsize,hs.len,hs.cells,storeCells]
  ·have hs':Src P i.size tx x n news w:=by rw [hsize];exact hs
   have hfits:Builtin.nextslicecap (0+n) 0*i.bytes≤281474976710656:=growslice_fits (by omega) (by simpa using hbytes)
   have hr:=run_append_grow_src (P:=P) w t tx ty e i z ht hi hz A 0 0 [] (by cases A <;> simp [go_sem] <;> rfl) x n news hs' (by omega) (by simp;omega) hfits
   have hge:=grownCap_ge w (0+n) 0 e
   have hcm:grownCap w (0+n) 0 e≤maxLen:=grownCap_le_maxLen w (0+n) 0 e (by unfold maxLen;omega)
   refine ⟨_,_,hr,.inl ⟨by simp,.inr ⟨w.heap.size,_,_,by rw [List.nil_append,hnl,Nat.zero_add],hbase,heap_alloc_new w.drew _,by rw [List.nil_append,hnl];omega,hcm,?_,?_⟩⟩,⟨⟨rfl,rfl,rfl,by simp,fun k hk _=>Below.heap_alloc w.drew _ k hk⟩,fun g hg=>?_⟩⟩
   ·simp only [Array.size_append,List.size_toArray,size_zeroCells,hzs,List.nil_append,hnl]
    omega
   ·rw [Array.toList_append,Nat.mul_one]
    exact List.take_left' (by simp)
   ·simp [Value.ownBlock] at hg;omega
theorem step_appE {ops:Array Oper} {o:Oper} {a:Act} {K:Act→World→Prop} {Q:Exit→Act→World→Prop} {E:Prop} (hgd:o.guard=none) (s x:Operand) (t tx:TypeId)
 (ho:o.op = .call { callee:=.builtin .append,args:=#[s,x],argTypes:=#[t,tx] })
 (base:Nat) (e:TypeId) (i:TypeInfo) (z:Value) (bytes:Nat) (ht:P.underlying t=some (.slice e)) (hi:P.info? e=some i) (hz:i.zero=some z)
 (hsize:i.size=1) (hby:i.bytes=bytes) (hzs:z.cells.size=1) (hb1:1≤bytes)
 (v:Value) (xs:List Value) (hown:OwE w base e v xs) (hv:a.eval s=v) (xv:Value) (hx:a.eval x=xv) (n:Nat) (news:List Value) (hs:Src P 1 tx xv n news w)
 (hbytes:(xs.length+n)*bytes≤140737488355328) (hbase:base≤w.heap.size)
 (h:∀ v' w',OwE w' base e v' (xs++news)→Gr w w' v v'→base≤w'.heap.size→K (a.put o.dst v') w') :
 if Region.wanted o (yielded ops a.tmps)=true then Oper.wp P o a w K Q else E:=by
 have hw:Region.wanted o (yielded ops a.tmps)=true:=by simp [Region.wanted,hgd]
 rw [if_pos hw]
 obtain ⟨v',w',hr,h2,h3⟩:=run_appE (P:=P) w base t tx o.type e i z bytes ht hi hz hsize hby hzs hb1 v xs hown _ n news hs hbytes hbase
 unfold Oper.wp execOp
 simp only [ho,resolve,invoke,builtin,Sem.run_bind,Sem.run_pure,Result.andThen_ok,List.map_toArray,List.map_cons,List.map_nil,hv,hx,hr]
 exact h v' w' h2 h3 (Nat.le_trans hbase h3.1.size)
theorem wpList_appE {ops:Array Oper} {rest:List Oper} {o:Oper} {a:Act} {Q:Exit→Act→World→Prop} (hgd:o.guard=none) (s x:Operand) (t tx:TypeId)
 (ho:o.op = .call { callee:=.builtin .append,args:=#[s,x],argTypes:=#[t,tx] })
 (base:Nat) (e:TypeId) (i:TypeInfo) (z:Value) (bytes:Nat) (ht:P.underlying t=some (.slice e)) (hi:P.info? e=some i) (hz:i.zero=some z)
 (hsize:i.size=1) (hby:i.bytes=bytes) (hzs:z.cells.size=1) (hb1:1≤bytes)
 (v:Value) (xs:List Value) (hown:OwE w base e v xs) (hv:a.eval s=v) (n:Nat) (news:List Value) (hs:Src P 1 tx (a.eval x) n news w)
 (hbytes:(xs.length+n)*bytes≤140737488355328) (hbase:base≤w.heap.size)
 (h:∀ v' w',OwE w' base e v' (xs++news)→Gr w w' v v'→base≤w'.heap.size→wpList P ops Q rest (a.put o.dst v') w'):wpList P ops Q (o :: rest) a w:=by
 refine wpList_plain hgd fun K hK=>?_
 obtain ⟨v',w',hr,h2,h3⟩:=run_appE (P:=P) w base t tx o.type e i z bytes ht hi hz hsize hby hzs hb1 v xs hown _ n news hs hbytes hbase
 unfold Oper.wp execOp
 simp only [ho,resolve,invoke,builtin,Sem.run_bind,Sem.run_pure,Result.andThen_ok,List.map_toArray,List.map_cons,List.map_nil,hv,hr]
 exact hK _ _ (h v' w' h2 h3 (Nat.le_trans hbase h3.1.size))
theorem run_app0 (base:Nat) (t tx ty e:TypeId) (i:TypeInfo) (z:Value) (bytes:Nat) (ht:P.underlying t=some (.slice e)) (hi:P.info? e=some i) (hz:i.zero=some z)
 (hsize:i.size=1) (hby:i.bytes=bytes) (hzs:z.cells.size=1) (hb1:1≤bytes) (A:Option Addr) (hA:∀ a,A=some a→base≤a.block) (x:Value) (n:Nat) (news:List Value) (hs:Src P 1 tx x n news w)
 (hbytes:n*bytes≤140737488355328) (hbase:base≤w.heap.size) :
 ∃ v' w',(Builtin.append_ #[t,tx] ty #[.slice A 0 0,x]).run P w = .ok v' w'∧OwE w' base e v' news∧Below w.heap.size w w':=by
 obtain ⟨v',w',h1,h2,h3⟩:=run_appE w base t tx ty e i z bytes ht hi hz hsize hby hzs hb1 (.slice A 0 0) [] (.inr ⟨rfl,A,rfl,hA⟩) x n news hs (by simpa using hbytes) hbase
 obtain ⟨v'',w'',h1',h2',h3'⟩:=run_appE w base t tx ty e i z bytes ht hi hz hsize hby hzs hb1 (.slice none 0 0) [] (.inr ⟨rfl,none,rfl,fun _ h=>by cases h⟩) x n news hs (by simpa using hbytes) hbase
 have hb:w''=w'∨w'=w:=by
  have hnl:news.length=n:=by simpa using hs.newsLen
  by_cases hm:n=0
  ·subst hm
   have hn:news=[]:=List.eq_nil_of_length_eq_zero hnl
   subst hn
   right
   have:(Builtin.append_ #[t,tx] ty #[.slice A 0 0,x]).run P w = .ok (.slice A 0 0) w:=by
    rcases A with _ | A <;> rcases hs.kind with ⟨e',hk⟩ | hk <;> simp [Builtin.append_,run_underlying ht,run_underlying hk,sizeOf,typeInfo,hi,hsize,hs.len,hs.cells,storeCells]
   rw [this] at h1
   injection h1 with _ h;exact h.symm
  ·left
   subst hby
   have hle:n≤140737488355328:=Nat.le_trans (Nat.le_mul_of_pos_right _ hb1) hbytes
   have hs':Src P i.size tx x n news w:=by rw [hsize];exact hs
   have hfits:Builtin.nextslicecap (0+n) 0*i.bytes≤281474976710656:=growslice_fits (by omega) (by simpa using hbytes)
   have hr:=fun A:Option Addr=>run_append_grow_src (P:=P) w t tx ty e i z ht hi hz A 0 0 [] (by cases A <;> simp [go_sem] <;> rfl) x n news hs' (by omega) (by simp;omega) hfits
   rw [hr A] at h1
   rw [hr none] at h1'
   injection h1 with _ h
   injection h1' with _ h'
   rw [←h,←h']
 refine ⟨v',w',h1,h2,?_⟩
 rcases hb with rfl | rfl
 ·exact h3'.below (by simp [Value.ownBlock]) (Nat.le_refl _)
 ·exact Below.refl _ _
theorem step_app0 {ops:Array Oper} {o:Oper} {a:Act} {K:Act→World→Prop} {Q:Exit→Act→World→Prop} {E:Prop} (hgd:o.guard=none) (s x:Operand) (t tx:TypeId)
 (ho:o.op = .call { callee:=.builtin .append,args:=#[s,x],argTypes:=#[t,tx] })
 (base:Nat) (e:TypeId) (i:TypeInfo) (z:Value) (bytes:Nat) (ht:P.underlying t=some (.slice e)) (hi:P.info? e=some i) (hz:i.zero=some z)
 (hsize:i.size=1) (hby:i.bytes=bytes) (hzs:z.cells.size=1) (hb1:1≤bytes) (hv:∃ A,a.eval s = .slice A 0 0∧∀ q,A=some q→base≤q.block) (xv:Value) (hx:a.eval x=xv) (n:Nat) (news:List Value) (hs:Src P 1 tx xv n news w)
 (hbytes:n*bytes≤140737488355328) (hbase:base≤w.heap.size)
 (h:∀ v' w',OwE w' base e v' news→Below w.heap.size w w'→base≤w'.heap.size→K (a.put o.dst v') w') :
 if Region.wanted o (yielded ops a.tmps)=true then Oper.wp P o a w K Q else E:=by
 have hw:Region.wanted o (yielded ops a.tmps)=true:=by simp [Region.wanted,hgd]
 rw [if_pos hw]
 obtain ⟨A,hv,hA⟩:=hv
 obtain ⟨v',w',hr,h2,h3⟩:=run_app0 (P:=P) w base t tx o.type e i z bytes ht hi hz hsize hby hzs hb1 A hA _ n news hs hbytes hbase
 unfold Oper.wp execOp
 simp only [ho,resolve,invoke,builtin,Sem.run_bind,Sem.run_pure,Result.andThen_ok,List.map_toArray,List.map_cons,List.map_nil,hv,hx,hr]
 exact h v' w' h2 h3 (Nat.le_trans hbase h3.size)
end
theorem keep_alloc {wr W:World} (h:Below wr.heap.size wr W) (o:Obj):Below wr.heap.size wr (W.alloc o):=h.alloc h.size _
theorem keep_alloc_drew {wr W:World} (h:Below wr.heap.size wr W.drew) (o:Obj):Below wr.heap.size wr (W.alloc o).drew:=((show Below wr.heap.size wr W from ⟨h.os,h.tape,h.output,h.size,h.block⟩).alloc h.size o).drew
end Go.Proofs.YtlipmlbijddopaaGreatDoor
set_option linter.unusedVariables false
set_option linter.unusedSimpArgs false
namespace Go.Proofs.YtlipmlbijddopaaGreatDoor
open Go.RowKit
def partN (l:List UInt8) (bg:Nat) (n:List (List UInt8)):List (List UInt8) × Nat × Nat:=rd l (rdM l bg l.length bg) bg l.length bg 0 (sizeN n) n
def PartOk (bg:Nat):Prop:=∀ (A:Option Addr) (c:Nat) (l:List UInt8) (L:Nat) (n:List (List UInt8)) (v:Value) (w:World) (B:Nat),l.length=L→Rd w w.heap.size A L (bc l)→L≤c→L≤140737488355328→bg≤L→B≤w.heap.size→
 Ow w B 9 v (sc n)→sizeN n≤255→
 Calls Tryz.prog 168 #[.slice A L c,.int .i64 bg,v] w fun e w'=>∃ v',e = .returned (.tuple #[v',.int .i64 (partN l bg n).2.1,.int .i64 (partN l bg n).2.2])∧Ow w' B 9 v' (sc (partN l bg n).1)∧Below w.heap.size w w'
set_option maxRecDepth 100000 in
set_option maxHeartbeats 2000000 in
theorem part_step (bg:Nat) (ih:∀ q,q<bg→PartOk q):PartOk bg:=by
 intro A c l L n0 v0 w B hL h hcap hb hbg hB hown0 hsz0
 obtain ⟨i0,hi,hz0,hz1,hz2⟩:=info_parts Tryz.infoStr
 have IH:=Lib.hid ih
 have HL:=Lib.hid hL
 clear ih hL
 have hLn:L≤l.length:=by have:=HL.out;omega
 have hLm:l.length≤L:=by have:=HL.out;omega
 have hszw:=h
 go_enter Tryz.func168,Tryz.ntmps168
 go_wp2_with fail
 go_loopw [2,9] (fun vn vat wr=>∃ (f p:Nat) (n:List (List UInt8)),vat = .int .i64 p∧bg≤p∧p≤L∧sizeN n≤255∧rdM l bg L p≤f∧
  Hid (rd l f bg L p 0 (sizeN n) n=partN l bg n0)∧Ow wr B 9 vn (sc n)∧Below w.heap.size w wr)
  (fun _ vat _=>L - (intOf vat).toNat)
 case atStart=>exact ⟨rdM l bg L bg,bg,n0,rfl,Nat.le_refl _,hbg,hsz0,Nat.le_refl _,by unfold partN;rw [HL.out];exact rfl,hown0,Below.refl _ _⟩
 case round=>
  clear hown0 hsz0 hszw
  obtain ⟨f,p,n,rfl,hbp,hp,hsz,hf,HR,hown,hbel⟩:=hrel
  obtain ⟨f',rfl⟩:∃ f',f=f'+1:=⟨f - 1,by have:=rdM_pos l bg L p;omega⟩
  have hr:=h.below hbel
  have hbs:=hbel.size
  by_cases hlt:p<L
  ·obtain ⟨bl,o,rfl,hbl,hc⟩:=hr.at_ hlt
   have hx0:=hc p _ (bc_get l p (by omega))
   obtain ⟨x,hx⟩:∃ x:Nat,x=(l.getD p 0).toNat:=⟨_,rfl⟩
   have hxe:l[p].toNat=x:=by rw [hx,List.getD_eq_getElem?_getD,List.getElem?_eq_getElem (by omega)];rfl
   rw [hxe] at hx0
   have hx256:x<256:=by rw [←hxe];exact UInt8.toNat_lt _
   have HX:=Lib.hid hx
   have hpe:((p:Int) == (L:Int))=false:=by simp;omega
   clear hx hxe
   have e:=HR.out
   rw [rd,if_pos hlt,show (l.getD p 0).toNat=x from HX.out.symm] at e
   by_cases x0:x=0
   ·rw [if_pos x0,if_pos rfl] at e
    subst x0
    have E:=Lib.hid e
    clear e hc h
    go_wp2_with fail
    go_ret3
    exact ⟨_,by rw [←E.out];exact ret_t3 (by simp) rfl,by rw [←E.out];exact hown,hbel⟩
   ·rw [if_neg x0] at e
    have x0':((x:Int) == 0)=false:=by simp [x0]
    by_cases x64:x<64
    ·rw [if_pos x64] at e
     obtain ⟨An,cn,hv,hnl,hncap,hrn⟩:=hown.form
     rw [sc_length] at hv hnl hrn
     subst hv
     have hsl:=sizeN_length n
     by_cases hbig:255<sizeN n+(1+x)
     ·rw [if_pos hbig] at e
      have E:=Lib.hid e
      clear e hc h
      go_wp2_with (go_at_call 103;refine (rsize_any An cn n wr _ hrn (by omega)).mono ?_;rintro e wr ⟨rfl,rfl⟩)
      go_ret3
      exact ⟨_,by rw [←E.out];exact ret_t3 rfl rfl,by rw [←E.out];exact Ow.nil _ _ _,hbel⟩
     ·rw [if_neg hbig] at e
      by_cases hen2:L<p+1+x
      ·rw [if_pos hen2] at e
       have E:=Lib.hid e
       clear e hc h
       go_wp2_with (go_at_call 103;refine (rsize_any An cn n wr _ hrn (by omega)).mono ?_;rintro e wr ⟨rfl,rfl⟩)
       go_ret3
       exact ⟨_,by rw [←E.out];exact ret_t3 rfl rfl,by rw [←E.out];exact Ow.nil _ _ _,hbel⟩
      ·rw [if_neg hen2] at e
       have E:=Lib.hid e
       clear e hc
       have hrc:=(hr.cut (k:=p+1) (m:=p+1+x) (by omega) (by omega) hcap)
       have hl0:((l.drop (p+1)).take x).length=x:=by rw [List.length_take,List.length_drop];omega
       have hsl2:∀ W,(Instr.slice 22 (.slice (some ⟨bl,o,none⟩) L c) (some (.int .i64 ((p:Int)+1))) (some (.int .i64 ((p:Int)+1+x))) none).run Tryz.prog W = .ok (.slice (some ⟨bl,o+(p+1),none⟩) x (c - (p+1))) W:=by
        intro W
        have h1:=Lib.run_slice_window (P:=Tryz.prog) W 22 5 Tryz.underlying22 (fun w=>by kernel_rfl) bl o L c (p+1) (p+1+x) (by omega) (by omega)
        rw [show p+1+x - (p+1)=x by omega] at h1
        simpa using h1
       have hcv:∀ W,Below wr.heap.size wr W→(convert 22 9 (.slice (some ⟨bl,o+(p+1),none⟩) x (c - (p+1)))).run Tryz.prog W = .ok (.string ⟨((l.drop (p+1)).take x).toArray⟩) W:=by
        intro W hW
        rw [cutA_some bl o c (p+1) (by omega),show p+1+x - (p+1)=x by omega] at hrc
        have hbc:((bc l).drop (p+1)).take x=bc ((l.drop (p+1)).take x):=by simp [bc]
        rw [hbc] at hrc
        have h1:=conv_bs (P:=Tryz.prog) W 22 5 9 (some ⟨bl,o+(p+1),none⟩) (c - (p+1)) w.heap.size ((l.drop (p+1)).take x) Tryz.underlying22 Tryz.underlying5 Tryz.underlying9 (by rw [hl0];exact hrc.keep fun q hq=>hW.cell (by omega))
        rw [hl0] at h1
        exact h1
       clear hrc hr h
       generalize hlab:(l.drop (p+1)).take x=lab at hcv E hl0
       have HLb:=Lib.hid hl0
       clear hlab hl0
       have hlabl:lab.length≤140737488355328:=by have:=HLb.out;omega
       have j1:(0:Int)≤(p:Int)+1:=by omega
       have j2:(p:Int)+1≤(p:Int)+1+(x:Int):=by omega
       have j3:(p:Int)+1+(x:Int)≤(c:Int):=by omega
       have k1:IntKind.i64.wrap ((p:Int)+1)=(p:Int)+1:=IntWalk.i64_in _ (by omega)
       have k2:IntKind.i64.wrap ((p:Int)+1+(x:Int))=(p:Int)+1+(x:Int):=IntWalk.i64_in _ (by omega)
       go_wp2_with (go_at_call 103;refine (rsize_any An cn n wr _ hrn (by omega)).mono ?_;rintro e wr ⟨rfl,rfl⟩)
       go_upto_region 23 with (fail)
       go_cut [2] from 81 to 95 (fun v2 wx=>Ow wx B 9 v2 (sc (n++[smallS lab]))∧Below wr.heap.size wr wx)
       case first=>
        have hsn:(sc n).length≤255:=by simp;omega
        have hS0:Below wr.heap.size wr wr.drew:=(Below.refl _ _).drew
        have hKS:∀ w',Below wr.heap.size wr w'→(Below wr.heap.size wr w'∧(convert 22 9 (.slice (some ⟨bl,o+(p+1),none⟩) x (c - (p+1)))).run Tryz.prog w' = .ok (.string ⟨lab.toArray⟩) w'):=fun w' h=>⟨h,hcv w' h⟩
        clear hcv
        go_region_held3 (fun w'=>Below wr.heap.size wr w'∧(convert 22 9 (.slice (some ⟨bl,o+(p+1),none⟩) x (c - (p+1)))).run Tryz.prog w' = .ok (.string ⟨lab.toArray⟩) w') ((first | (refine hKS _ ?_;assumption) | (refine hKS _ (keep_alloc ?_ _);assumption) | (refine hKS _ (keep_alloc_drew ?_ _);assumption) | (refine hKS _ (keep_drew ?_);assumption))) (first
         | (refine step_app0 _ rfl _ _ _ _ rfl wr.heap.size 9 i0 (.string ⟨#[]⟩) 16 Tryz.underlying38 hi hz0 hz1 hz2 rfl (by omega) ?_ (.slice An n.length cn) ?_ n.length (sc n) ?_ ?_ ?_ ?_
            ·exact ⟨_,rfl,fun q hq=>by cases hq;exact Nat.le_refl _⟩
            ·rfl
            ·exact Rd.src (hrn.below (And.left (by assumption))) Tryz.underlying38 (sc_one n)
            ·omega
            ·exact Below.size (And.left (by assumption))
            intro v3 w3 hown3 hb3 hsz3
            have hS3:Below wr.heap.size wr w3:=Below.trans (And.left (by assumption)) (hb3.mono (Below.size (And.left (by assumption)))))
         | (go_at_call 102
            refine (rlower_any lab _ hlabl).mono ?_
            rintro e w4 ⟨rfl,hb4⟩
            have hS4:Below wr.heap.size wr w4:=Below.trans (And.left (by assumption)) (hb4.mono (Below.size (And.left (by assumption))))
            have hown4:=hown3.far hb4)
         | (refine step_appE _ rfl _ _ _ _ rfl wr.heap.size 9 i0 (.string ⟨#[]⟩) 16 Tryz.underlying38 hi hz0 hz1 hz2 rfl (by omega) _ _ (hown4.alloc _) ?_ (.slice (some ⟨w4.heap.size,0,none⟩) 1 1) ?_ 1 [.string ⟨(smallS lab).toArray⟩] ?_ ?_ ?_ ?_
            ·rfl
            ·rfl
            ·exact one_src Tryz.underlying38 _ rfl
            ·simp <;> omega
            ·exact Below.size (And.left (by assumption))
            intro v5 w5 hown5 hgr5 hsz5
            have hS5:Below wr.heap.size wr w5:=Below.trans (And.left (by assumption)) (hgr5.below hown4.lt (Below.size (And.left (by assumption))))))
        go_wp2_with fail
        go_meet
        refine ⟨?_,hS5⟩
        have e1:sc (n++[smallS lab])=sc n++[.string ⟨(smallS lab).toArray⟩]:=by simp [sc,strV]
        rw [e1]
        exact (hown5.own (by simp)).mono (Nat.le_trans hB hbs)
       case rest=>
        obtain ⟨hc1,hc2⟩:=hcut
        have hl0:(smallS lab).length=x:=by rw [smallS_length];exact HLb.out
        have HLs:=Lib.hid hl0
        clear hcv hl0
        go_wp2_with fail
        go_roundw
        case rel=>
         have hl1:=HLs.out
         refine ⟨f',p+(1+x),n++[smallS lab],by go_num,by omega,by omega,?_,?_,?_,hc1,hbel.trans (hc2.mono hbs)⟩
         ·rw [sizeN_snoc,hl1];omega
         ·exact rdM_lab hf hlt (by omega)
         ·rw [sizeN_snoc,hl1];exact E.out
        case measure=>simp [intOf];omega
    ·rw [if_neg x64] at e
     have x64':decide (63<(x:Int))=true:=by simp;omega
     by_cases x192:x<192
     ·rw [if_pos x192] at e
      have E:=Lib.hid e
      clear e hc h
      go_wp2_with fail
      go_ret3
      exact ⟨_,by rw [←E.out];exact ret_t3 rfl rfl,by rw [←E.out];exact Ow.nil _ _ _,hbel⟩
     ·rw [if_neg x192] at e
      by_cases hpn:p+1=L
      ·rw [if_pos hpn] at e
       have E:=Lib.hid e
       clear e hc h
       subst hpn
       go_wp2_with fail
       go_ret3
       exact ⟨_,by rw [←E.out];exact ret_t3 rfl rfl,by rw [←E.out];exact Ow.nil _ _ _,hbel⟩
      ·rw [if_neg hpn] at e
       have hpn':((p:Int)+1 == (L:Int))=false:=by simp;omega
       have hy0:=hc (p+1) _ (bc_get l (p+1) (by omega))
       obtain ⟨y,hy⟩:∃ y:Nat,y=(l.getD (p+1) 0).toNat:=⟨_,rfl⟩
       have hye:l[p+1].toNat=y:=by rw [hy,List.getD_eq_getElem?_getD,List.getElem?_eq_getElem (by omega)];rfl
       rw [hye] at hy0
       have hy256:y<256:=by rw [←hye];exact UInt8.toNat_lt _
       rw [show (l.getD (p+1) 0).toNat=y from hy.symm] at e
       obtain ⟨q,hq⟩:∃ q:Nat,q=(x - 192)*256+y:=⟨_,rfl⟩
       rw [←hq] at e
       have hqi:((x:Int) - 192)*256+(y:Int)=(q:Int):=by omega
       have hqb:q<16384:=by omega
       clear hy hye hc hq
       by_cases hbq:bg≤q
       ·rw [if_pos hbq] at e
        have E:=Lib.hid e
        clear e h
        go_wp2_with fail
        go_ret3
        exact ⟨_,by rw [←E.out];exact ret_t3 rfl rfl,by rw [←E.out];exact Ow.nil _ _ _,hbel⟩
       ·rw [if_neg hbq,if_pos rfl] at e
        have hM:rdM l q bg q≤f':=rdM_ptr (b:=l) (en:=L) hf hlt (by omega) (by omega)
        rw [rd_jump l f' q bg (p+2) (sizeN n) n hM (by omega) (by omega) (by omega)] at e
        change (if (partN (l.take bg) q n).2.2=0 then ((partN (l.take bg) q n).1,p+2,0) else ([],0,(partN (l.take bg) q n).2.2))=_ at e
        have E:=Lib.hid e
        clear e h
        have hIH:=IH.out q (by omega) (some ⟨bl,o,none⟩) c (l.take bg) bg n _ wr B (by rw [List.length_take];omega) (by
         have:=hr.cut (cap:=c) (Nat.zero_le bg) hbg hcap
         rw [cutA_zero] at this
         simp only [Nat.sub_zero,List.drop_zero] at this
         simp only [bc,List.map_take] at this ⊢
         exact this.more hbs) (by omega) (by omega) (by omega) (Nat.le_trans hB hbs) hown hsz
        have HIH:=Lib.hid hIH
        clear hIH
        have ksl:∀ W,(Instr.slice 22 (.slice (some ⟨bl,o,none⟩) L c) none (some (.int .i64 (bg:Int))) none).run Tryz.prog W = .ok (.slice (some ⟨bl,o,none⟩) bg c) W:=fun W=>run_sl_h W _ 5 Tryz.underlying22 (fun w=>by kernel_rfl) (some ⟨bl,o,none⟩) L c bg (by omega)
        go_wp2_with (go_at_call 168;refine HIH.out.mono ?_;rintro e w2 ⟨v2,rfl,hown2,hb2⟩)
        ·have t0:((partN (l.take bg) q n).2.2:Int)≠0:=by
          have:(((partN (l.take bg) q n).2.2:Int) != 0)=true:=by assumption
          simpa using this
         have E1:=E.out
         rw [if_neg (show ¬ (partN (l.take bg) q n).2.2=0 by omega)] at E1
         go_ret3
         exact ⟨_,by rw [←E1];exact ret_t3 rfl rfl,by rw [←E1];exact Ow.nil _ _ _,hbel.trans (hb2.mono hbs)⟩
        ·have t0:((partN (l.take bg) q n).2.2:Int)=0:=by
          have:(((partN (l.take bg) q n).2.2:Int) != 0)=false:=by assumption
          simpa using this
         have E1:=E.out
         rw [if_pos (show (partN (l.take bg) q n).2.2=0 by omega)] at E1
         go_ret3
         exact ⟨_,by rw [←E1];exact ret_t3 (by simp) rfl,by rw [←E1];exact hown2,hbel.trans (hb2.mono hbs)⟩
  ·have hpL:p=L:=by omega
   have e:=HR.out
   rw [rd,if_neg hlt] at e
   have E:=Lib.hid e
   clear e h
   subst hpL
   go_wp2_with fail
   go_ret3
   exact ⟨_,by rw [←E.out];exact ret_t3 rfl rfl,by rw [←E.out];exact Ow.nil _ _ _,hbel⟩
theorem part_any (bg:Nat):PartOk bg:=by
 induction bg using Nat.strongRecOn with
 | ind bg ih=>exact part_step bg ih
set_option maxRecDepth 100000 in
set_option maxHeartbeats 400000 in
theorem rread_any (A:Option Addr) (c:Nat) (b:List UInt8) (p:Nat) (w:World) (h:Rd w w.heap.size A b.length (bc b)) (hcap:b.length≤c) (hb:b.length≤140737488355328) (hp:p≤b.length) :
 Calls Tryz.prog 142 #[.slice A b.length c,.int .i64 p] w fun e w'=>∃ v,e = .returned (.tuple #[v,.int .i64 (readN b p).2.1,.int .i64 (readN b p).2.2])∧Ow w' w.heap.size 9 v (sc (readN b p).1)∧Below w.heap.size w w':=by
 have d1:decide ((p:Int)<0)=false:=by simp
 have d2:decide (b.length<p)=false:=by simp;omega
 have hP:=part_any p A c b b.length [] (.slice none 0 0) w w.heap.size rfl h hcap hb hp (Nat.le_refl _) (Ow.nil _ _ _) (by simp [sizeN])
 have e:partN b p []=readN b p:=by unfold readN partN;rw [if_pos hp];rfl
 rw [e] at hP
 have HP:=Lib.hid hP
 clear hP e
 go_enter Tryz.func142,Tryz.ntmps142
 go_wp2_with (go_at_call 168;refine HP.out.mono ?_;rintro e w2 ⟨v2,rfl,hown2,hb2⟩)
 go_ret3
 exact ⟨_,rfl,hown2,hb2⟩
theorem rread_arg (A:Option Addr) (c:Nat) (b:List UInt8) (x:Int) (w:World) (hx:x<0∨(b.length:Int)<x) :
 Calls Tryz.prog 142 #[.slice A b.length c,.int .i64 x] w fun e w'=>e = .returned (.tuple #[.slice none 0 0,.int .i64 0,.int .i64 2])∧w'=w:=by
 by_cases h0:x<0
 ·have d1:decide (x<0)=true:=by simp [h0]
  go_enter Tryz.func142,Tryz.ntmps142
  go_wp2_with fail
  go_ret3
  exact ⟨rfl,rfl⟩
 ·have d1:decide (x<0)=false:=by simp;omega
  have d2:decide ((b.length:Int)<x)=true:=by simp;omega
  go_enter Tryz.func142,Tryz.ntmps142
  go_wp2_with fail
  go_ret3
  exact ⟨rfl,rfl⟩
end Go.Proofs.YtlipmlbijddopaaGreatDoor
