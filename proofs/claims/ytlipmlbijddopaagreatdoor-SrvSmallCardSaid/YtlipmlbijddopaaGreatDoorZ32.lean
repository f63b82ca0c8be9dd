/-
  SrvRl; SrvRx; SrvRy
-/
import Derived.Test.YtlipmlbijddopaaGreatDoorZ05
import Derived.Test.YtlipmlbijddopaaGreatDoorZ29
import Derived.Test.YtlipmlbijddopaaGreatDoorZ19
import Derived.Test.YtlipmlbijddopaaGreatDoorZ13
import Derived.BigQuiet
set_option linter.unusedVariables false
set_option linter.unusedSimpArgs false
namespace Go.Proofs.YtlipmlbijddopaaGreatDoor
open Go.RowKit
set_option maxRecDepth 100000 in
set_option maxHeartbeats 400000 in
theorem rweight_at (x:Ad) (w:World):Calls Tryz.prog 100 #[.agg x.cells.toArray] w fun e w'=>e = .returned (.int .i64 (Srv.wtA x:Int))∧Below w.heap.size w w':=by
 have hwt:(Srv.wtA x:Int)=if x.we<0 then 0 else if 65535<x.we then 65535 else x.we:=by
  unfold Srv.wtA
  by_cases h1:x.we≤0
  ·rw [if_pos h1]
   by_cases h2:x.we<0
   ·rw [if_pos h2];rfl
   ·rw [if_neg h2,if_neg (by omega)];omega
  ·have h3:¬ x.we<0:=by omega
   simp only [if_neg h1,if_neg h3]
   by_cases h2:65535<x.we
   ·simp only [if_pos h2];rfl
   ·simp only [if_neg h2];omega
 obtain ⟨wt,hwe⟩:∃ wt,wt=Srv.wtA x:=⟨_,rfl⟩
 rw [←hwe] at hwt ⊢
 clear hwe
 obtain ⟨h,po,pr,we,ttl⟩:=x
 unfold Ad.cells strV
 dsimp only at hwt ⊢
 by_cases h1:we<0
 ·rw [if_pos h1] at hwt
  rw [hwt]
  clear hwt
  go_enter Tryz.func100,Tryz.ntmps100
  go_wp2
  go_ret
  exact ⟨rfl,bl_new w _⟩
 ·rw [if_neg h1] at hwt
  by_cases h2:65535<we
  ·rw [if_pos h2] at hwt
   rw [hwt]
   clear hwt
   go_enter Tryz.func100,Tryz.ntmps100
   go_wp2
   go_ret
   exact ⟨rfl,bl_new w _⟩
  ·rw [if_neg h2] at hwt
   rw [hwt]
   clear hwt
   go_enter Tryz.func100,Tryz.ntmps100
   go_wp2
   go_ret
   exact ⟨rfl,bl_new w _⟩
set_option maxRecDepth 100000 in
set_option maxHeartbeats 1000000 in
theorem rttl_at (A:Option Addr) (c n:Nat) (l:List Ad) (w:World) (B:Nat) (h:AsRd w B A c n l) :
 Calls Tryz.prog 48 #[.slice A n c] w fun e w'=>e = .returned (.int .u32 (Srv.ttlA l:Int))∧w=w':=by
 have H:=Lib.hid h
 have hnl:=h.2.2.2.1
 have HLN:=Lib.hid h.2.1
 have HTK:=Lib.hid (ttlA_take l)
 have HOK:=Lib.hid h.2.2.2.2
 clear h
 go_enter Tryz.func48,Tryz.ntmps48
 go_wp2_with fail
 go_loopw [3,4] (fun v3 v4 wr=>∃ (k t:Nat),k≤n∧v4 = .int .i64 k∧v3 = .int .u32 (t:Int)∧Hid (t=Srv.ttlA (l.take k))∧wr=w) (fun _ v4 _=>n - (intOf v4).toNat)
 case atStart=>exact ⟨0,0,Nat.zero_le _,rfl,rfl,Lib.hid rfl,rfl⟩
 case round=>
  obtain ⟨k,t,hk,rfl,rfl,HT,hwr⟩:=hrel
  subst hwr
  rcases Nat.lt_or_ge k n with hlt | hge
  ·have hkl:k<l.length:=by rw [HLN.out];exact hlt
   obtain ⟨b,o,rfl,hb,hc⟩:=H.out.at_ hlt
   have hf:=hc hkl
   have htk:=HTK.out k hkl
   have ht0:k=0→Srv.ttlA (l.take (k+1))=l[k].ttl:=fun e=>by
    subst e
    cases l with
    | nil=>simp at hkl
    | cons a l=>rfl
   obtain ⟨x,hx⟩:∃ x,x=l[k]:=⟨_,rfl⟩
   rw [←hx] at hf htk ht0
   have HTK1:=Lib.hid htk
   have HT0:=Lib.hid ht0
   clear hx hc htk ht0
   obtain ⟨xh,xpo,xpr,xwe,xttl⟩:=x
   have c4_:=hf.cells.2.2.2.2
   dsimp only at c4_ HTK1 HT0
   clear hf
   rcases Nat.eq_zero_or_pos k with h0 | h0
   ·have hk0:((k:Int) == 0)=true:=by rw [beq_iff_eq];omega
    have HK0:=Lib.hid h0
    clear h0
    go_wp2_with fail
    go_roundw
    case rel=>exact ⟨k+1,xttl,by omega,by go_num,rfl,Lib.hid (HT0.out HK0.out).symm,by trivial⟩
    case measure=>simp [intOf];omega
   ·have hk0:((k:Int) == 0)=false:=by rw [beq_eq_false_iff_ne];omega
    have htk:=HTK1.out h0
    rw [←HT.out] at htk
    by_cases hlt2:xttl<t
    ·rw [if_pos hlt2] at htk
     have HTT:=Lib.hid htk.symm
     clear htk
     go_wp2_with fail
     go_roundw
     case rel=>exact ⟨k+1,xttl,by omega,by go_num,rfl,HTT,by trivial⟩
     case measure=>simp [intOf];omega
    ·rw [if_neg hlt2] at htk
     have HTT:=Lib.hid htk.symm
     clear htk
     go_wp2_with fail
     go_roundw
     case rel=>exact ⟨k+1,t,by omega,by go_num,rfl,HTT,by trivial⟩
     case measure=>simp [intOf];omega
  ·have hkn:n=k:=by omega
   subst hkn
   go_wp2_with fail
   go_ret
   have htt:Srv.ttlA l=t:=by rw [HT.out,List.take_of_length_le (by rw [HLN.out];exact Nat.le_refl _)]
   exact ⟨by rw [htt];rfl,rfl⟩
theorem dec_step (m:Nat) (h:10≤m):Lib.decDigits m=Lib.decDigits (m / 10)++Lib.decDigits (m % 10):=by
 rw [Lib.decDigits_one (Nat.mod_lt m (by omega))]
 conv=>lhs;rw [Lib.decDigits,dif_neg (by omega)]
theorem itoa_step (m:Nat) (h:10≤m):Lib.itoa ((m / 10:Nat):Int)++Lib.itoa ((m % 10:Nat):Int)=Lib.itoa (m:Int):=by
 rw [Lib.itoa_nonneg,Lib.itoa_nonneg,Lib.itoa_nonneg,←dec_step m h]
theorem itoa_stepN (m:Nat) (h:10≤m):Lib.itoa (-((m / 10:Nat):Int))++Lib.itoa ((m % 10:Nat):Int)=Lib.itoa (-(m:Int)):=by
 rw [Lib.itoa_neg _ (by omega),Lib.itoa_neg _ (by omega),Lib.itoa_nonneg,dec_step m h];rfl
set_option maxRecDepth 100000 in
set_option maxHeartbeats 1000000 in
theorem dec_small (m:Nat) (h:m<10) (w:World):Calls Tryz.prog 101 #[.int .i64 (m:Int)] w fun e w'=>e = .returned (.string ⟨(Lib.itoa (m:Int)).toArray⟩)∧Below w.heap.size w w':=by
 have hi:Lib.itoa (m:Int)=[UInt8.ofNat (48+m)]:=by rw [Lib.itoa_nonneg,Lib.decDigits_one h]
 obtain ⟨u,hu⟩:∃ u:UInt8,u=UInt8.ofNat (48+m):=⟨_,rfl⟩
 rw [←hu] at hi
 rw [hi]
 have hb:bc [u]=[.int .u8 (48+(m:Int))]:=by
  have h1:u.toNat=48+m:=by rw [hu];exact Nat.mod_eq_of_lt (by omega:48+m<256)
  show [Value.int .u8 ((u.toNat:Nat):Int)]=_
  rw [h1]
  rfl
 have hcv:(convert 22 9 (.slice (some ⟨w.heap.size,0,none⟩) 1 1)).run Tryz.prog (w.alloc (.cells #[.int .u8 (48+(m:Int))] 5)) = .ok (.string ⟨#[u]⟩) (w.alloc (.cells #[.int .u8 (48+(m:Int))] 5)):=by
  have hr:=Rd.lit_top0 w 5 (bc [u]) 1 rfl
  rw [hb] at hr
  exact conv_bs (P:=Tryz.prog) (w.alloc (.cells #[.int .u8 (48+(m:Int))] 5)) 22 5 9 (some ⟨w.heap.size,0,none⟩) 1 _ [u] Tryz.underlying22 Tryz.underlying5 Tryz.underlying9 (by rw [hb];exact hr)
 clear hi hb hu
 go_enter Tryz.func101,Tryz.ntmps101
 go_wp2_with fail
 go_ret
 exact ⟨rfl,bl_new w _⟩
set_option maxRecDepth 100000 in
set_option maxHeartbeats 1000000 in
theorem decimal_all:∀ (b:Nat) (n:Int) (w:World),n.natAbs≤b→-9223372036854775808≤n→n≤9223372036854775807→Calls Tryz.prog 101 #[.int .i64 n] w fun e w'=>e = .returned (.string ⟨(Lib.itoa n).toArray⟩)∧Below w.heap.size w w':=by
 intro b
 induction b with
 | zero=>
   intro n w hb h0 h1
   obtain rfl:n=((0:Nat):Int):=by omega
   exact dec_small 0 (by omega) w
 | succ b ih=>
   intro n w hb h0 h1
   have IH:Hid (∀ (m:Int) (W:World),m.natAbs≤b→-9223372036854775808≤m→m≤9223372036854775807→Calls Tryz.prog 101 #[.int .i64 m] W fun e w'=>e = .returned (.string ⟨(Lib.itoa m).toArray⟩)∧Below W.heap.size W w'):=Lib.hid ih
   clear ih
   by_cases hneg:n<0
   ·obtain ⟨m,hm⟩:∃ m:Nat,n = -(m:Int):=⟨n.natAbs,by omega⟩
    by_cases h10 : -10<n
    ·have hm10:m<10:=by omega
     have hst:Lib.itoa n=[45]++Lib.itoa (m:Int):=by rw [hm,Lib.itoa_neg _ (by omega),Lib.itoa_nonneg];rfl
     have hl2:=itoa_len (m:Int) (by omega) (by omega)
     have K1:=Lib.hid (fun W=>dec_small m hm10 W)
     obtain ⟨a2,ha2⟩:∃ a,a=Lib.itoa (m:Int):=⟨_,rfl⟩
     rw [←ha2] at hst hl2 K1
     have HST:=Lib.hid hst
     have HM:Hid (-n=(m:Int)):=Lib.hid (by omega)
     clear hst ha2 hm hm10 hb
     go_enter Tryz.func101,Tryz.ntmps101
     go_wp2_with (go_at_call 101
                  rw [HM.out]
                  refine (K1.out w).mono ?_
                  rintro e w1 ⟨rfl,hb1⟩)
     go_ret
     exact ⟨by rw [HST.out,←catStr];rfl,hb1⟩
    ·have hm10:10≤m:=by omega
     have hd:n.tdiv 10 = -((m / 10:Nat):Int):=by rw [hm,Int.neg_tdiv];rfl
     have hr:n.tmod 10 = -((m % 10:Nat):Int):=by rw [hm,Int.neg_tmod];rfl
     have hst:=itoa_stepN m hm10
     rw [←hm] at hst
     have hl1:=itoa_len (-((m / 10:Nat):Int)) (by omega) (by omega)
     have hl2:=itoa_len ((m % 10:Nat):Int) (by omega) (by omega)
     obtain ⟨a1,ha1⟩:∃ a,a=Lib.itoa (-((m / 10:Nat):Int)):=⟨_,rfl⟩
     obtain ⟨a2,ha2⟩:∃ a,a=Lib.itoa ((m % 10:Nat):Int):=⟨_,rfl⟩
     rw [←ha1,←ha2] at hst
     rw [←ha1] at hl1
     rw [←ha2] at hl2
     have K1:=Lib.hid (fun W=>IH.out (-((m / 10:Nat):Int)) W (by omega) (by omega) (by omega))
     have K2:=Lib.hid (fun W=>IH.out ((m % 10:Nat):Int) W (by omega) (by omega) (by omega))
     rw [←ha1] at K1
     rw [←ha2] at K2
     have HST:=Lib.hid hst
     have hrb:n.tmod 10≤0∧-9≤n.tmod 10:=by omega
     have HD:=Lib.hid hd
     have HR:Hid (-n.tmod 10=((m % 10:Nat):Int)):=Lib.hid (by omega)
     obtain ⟨hrb1,hrb2⟩:=hrb
     clear hst ha1 ha2 hd hr hb hm hm10
     go_enter Tryz.func101,Tryz.ntmps101
     go_wp2_with (first
      | (go_at_call 101
         have _t:=tk1
         rw [HR.out]
         refine (K2.out w1).mono ?_
         rintro e w2 ⟨rfl,hb2⟩)
      | (go_at_call 101
         rw [HD.out]
         refine (K1.out w).mono ?_
         rintro e w1 ⟨rfl,hb1⟩
         have tk1:=True.intro))
     go_ret
     exact ⟨by rw [←HST.out,←catStr];rfl,hb1.trans (hb2.mono hb1.size)⟩
   ·obtain ⟨m,hm⟩:∃ m:Nat,n=(m:Int):=⟨n.natAbs,by omega⟩
    by_cases h10:n<10
    ·rw [hm]
     exact dec_small m (by omega) w
    ·have hm10:10≤m:=by omega
     have hst:=itoa_step m hm10
     rw [←hm] at hst
     have hl1:=itoa_len ((m / 10:Nat):Int) (by omega) (by omega)
     have hl2:=itoa_len ((m % 10:Nat):Int) (by omega) (by omega)
     obtain ⟨a1,ha1⟩:∃ a,a=Lib.itoa ((m / 10:Nat):Int):=⟨_,rfl⟩
     obtain ⟨a2,ha2⟩:∃ a,a=Lib.itoa ((m % 10:Nat):Int):=⟨_,rfl⟩
     rw [←ha1,←ha2] at hst
     rw [←ha1] at hl1
     rw [←ha2] at hl2
     have K1:=Lib.hid (fun W=>IH.out ((m / 10:Nat):Int) W (by omega) (by omega) (by omega))
     have K2:=Lib.hid (fun W=>IH.out ((m % 10:Nat):Int) W (by omega) (by omega) (by omega))
     rw [←ha1] at K1
     rw [←ha2] at K2
     have HST:=Lib.hid hst
     have HD:Hid (n / 10=((m / 10:Nat):Int)):=Lib.hid (by omega)
     have HR:Hid (n % 10=((m % 10:Nat):Int)):=Lib.hid (by omega)
     clear hst ha1 ha2 hb hm hm10
     go_enter Tryz.func101,Tryz.ntmps101
     go_wp2_with (first
      | (go_at_call 101
         have _t:=tk1
         rw [HR.out]
         refine (K2.out w1).mono ?_
         rintro e w2 ⟨rfl,hb2⟩)
      | (go_at_call 101
         rw [HD.out]
         refine (K1.out w).mono ?_
         rintro e w1 ⟨rfl,hb1⟩
         have tk1:=True.intro))
     go_ret
     exact ⟨by rw [←HST.out,←catStr];rfl,hb1.trans (hb2.mono hb1.size)⟩
theorem decimal_at (n:Int) (w:World) (h0 : -9223372036854775808≤n) (h1:n≤9223372036854775807):Calls Tryz.prog 101 #[.int .i64 n] w fun e w'=>e = .returned (.string ⟨(Lib.itoa n).toArray⟩)∧Below w.heap.size w w':=decimal_all _ n w (Nat.le_refl _) h0 h1
theorem Tryz.infoBl:(Tryz.prog.info? 102).map (fun i=>(i.zero,i.size,i.bytes))=some (some (.agg zA.cells.toArray),5,48):=by kernel_rfl
end Go.Proofs.YtlipmlbijddopaaGreatDoor
set_option linter.unusedVariables false
set_option linter.unusedSimpArgs false
namespace Go.Proofs.YtlipmlbijddopaaGreatDoor
open Go.RowKit
set_option maxRecDepth 100000 in
set_option maxHeartbeats 4000000 in
theorem rtexts_at (A:Option Addr) (c n:Nat) (l:List Ad) (w:World) (h:AsRd w w.heap.size A c n l) :
 Calls Tryz.prog 49 #[.slice A n c] w fun e w'=>∃ v,e = .returned v∧Ow w' w.heap.size 9 v (sc (l.map Srv.textA))∧Below w.heap.size w w':=by
 obtain ⟨i0,hI0,hz0,hz1,hz2⟩:=info_parts Tryz.infoStr
 have H:=Lib.hid h
 have hnl:=h.2.2.2.1
 have HLN:=Lib.hid h.2.1
 clear h
 go_enter Tryz.func49,Tryz.ntmps49
 go_wp2_with fail
 go_loopw [3,4] (fun v3 v4 wr=>∃ (k:Nat),k≤n∧v4 = .int .i64 k∧Hid (Ow wr w.heap.size 9 v3 (sc ((l.take k).map Srv.textA)))∧Hid (Below w.heap.size w wr)) (fun _ v4 _=>n - (intOf v4).toNat)
 case atStart=>exact ⟨0,Nat.zero_le _,rfl,Lib.hid (Ow.nil _ _ _),Lib.hid (Below.refl _ _)⟩
 case round=>
  obtain ⟨k,hk,rfl,HO,HB⟩:=hrel
  obtain ⟨A3,c3,rfl,hc3,hr3⟩:=HO.out.form6 k (by rw [sc_length,List.length_map,List.length_take,HLN.out];omega)
  have hsz:=HB.out.size
  rcases Nat.lt_or_ge k n with hlt | hge
  ·have hkl:k<l.length:=by rw [HLN.out];exact hlt
   obtain ⟨b,o,rfl,hb,hc⟩:=H.out.base (show 0<n by omega)
   have HF:=Lib.hid (hc k hkl)
   have hok:=(H.out.2.2.2.2 _ (List.getElem_mem hkl)).h
   have hpo1:=(H.out.2.2.2.2 _ (List.getElem_mem hkl)).po1
   have hpo2:=(H.out.2.2.2.2 _ (List.getElem_mem hkl)).po2
   have hmt:(l.take (k+1)).map Srv.textA=(l.take k).map Srv.textA++[Srv.textA l[k]]:=by rw [List.take_succ_eq_append_getElem hkl,List.map_append];rfl
   obtain ⟨x,hx⟩:∃ x,x=l[k]:=⟨_,rfl⟩
   rw [←hx] at HF hok hpo1 hpo2 hmt
   have HMT:=Lib.hid hmt
   clear hx hmt hc hr3
   obtain ⟨xh,xpo,xpr,xwe,xttl⟩:=x
   have hf:=HF.out.cells
   dsimp only at hf hok hpo1 hpo2
   have HS:Hid (∀ W,Below w.heap.size w W→W.cell? ⟨b,o+k*5,none⟩=some (.string ⟨xh.toArray⟩)∧W.cell? ⟨b,o+k*5+1,none⟩=some (.int .i64 xpo)):=Lib.hid (fun W hW=>⟨(hW.cell (p:=⟨b,o+k*5,none⟩) hb).trans hf.1,(hW.cell (p:=⟨b,o+k*5+1,none⟩) hb).trans hf.2.1⟩)
   have KD:=Lib.hid (fun W=>decimal_at xpo W hpo1 hpo2)
   have hil:=itoa_len xpo hpo1 hpo2
   clear hf hpo1 hpo2
   go_wp2_with fail
   refine wp_region_held_drew (S:=fun W=>W.cell? ⟨b,o+k*5,none⟩=some (.string ⟨xh.toArray⟩)∧W.cell? ⟨b,o+k*5+1,none⟩=some (.int .i64 xpo)) (by kernel_rfl) (HS.out wr HB.out) (fun hH=>?_)
   refine reg_take 0 (v:=?_) rfl (by kernel_rfl) (fun _ _ _ h=>h) (by rfl) hH ?_ ?_
   rotate_left
   ·intro w hSw;(try dsimp only at hSw);obtain ⟨s0,s1⟩:=hSw;go_simp;(try with_reducible rfl)
   (try simp only [Act.put,List.setIfInBounds_toArray,List.set_cons_zero,List.set_cons_succ])
   refine reg_take 1 (v:=?_) rfl (by kernel_rfl) (fun _ _ _ h=>h) (by rfl) hH ?_ ?_
   rotate_left
   ·intro w hSw;(try dsimp only at hSw);obtain ⟨s0,s1⟩:=hSw;go_simp;(try with_reducible rfl)
   (try simp only [Act.put,List.setIfInBounds_toArray,List.set_cons_zero,List.set_cons_succ])
   refine reg_take 2 (v:=?_) rfl (by kernel_rfl) (fun _ _ _ h=>h) (by rfl) hH ?_ ?_
   rotate_left
   ·intro w hSw;(try dsimp only at hSw);obtain ⟨s0,s1⟩:=hSw;go_simp;(try with_reducible rfl)
   (try simp only [Act.put,List.setIfInBounds_toArray,List.set_cons_zero,List.set_cons_succ])
   refine reg_take 3 (v:=?_) rfl (by kernel_rfl) (fun _ _ _ h=>h) (by rfl) hH ?_ ?_
   rotate_left
   ·intro w hSw;(try dsimp only at hSw);obtain ⟨s0,s1⟩:=hSw;go_simp;(try with_reducible rfl)
   (try simp only [Act.put,List.setIfInBounds_toArray,List.set_cons_zero,List.set_cons_succ])
   refine reg_take 4 (v:=?_) rfl (by kernel_rfl) (fun _ _ _ h=>h) (by rfl) hH ?_ ?_
   rotate_left
   ·intro w hSw;(try dsimp only at hSw);obtain ⟨s0,s1⟩:=hSw;go_simp;(try with_reducible rfl)
   (try simp only [Act.put,List.setIfInBounds_toArray,List.set_cons_zero,List.set_cons_succ])
   refine reg_take 5 (v:=?_) rfl (by kernel_rfl) (fun _ _ _ h=>h) (by rfl) hH ?_ ?_
   rotate_left
   ·intro w hSw;(try dsimp only at hSw);obtain ⟨s0,s1⟩:=hSw;go_simp;(try with_reducible rfl)
   (try simp only [Act.put,List.setIfInBounds_toArray,List.set_cons_zero,List.set_cons_succ])
   refine reg_take 6 (v:=.string ⟨(xh++[58]).toArray⟩) rfl (by kernel_rfl) (fun _ _ _ h=>h) (by rfl) hH ?_ ?_
   ·intro w hSw
    go_simp
    (try rw [if_neg (by (try simp only [List.length_append,List.length_cons,List.length_nil]);omega)])
    (try simp only [catStr])
    (try rfl)
   (try simp only [Act.put,List.setIfInBounds_toArray,List.set_cons_zero,List.set_cons_succ])
   refine reg_take 7 (v:=?_) rfl (by kernel_rfl) (fun _ _ _ h=>h) (by rfl) hH ?_ ?_
   rotate_left
   ·intro w hSw;(try dsimp only at hSw);obtain ⟨s0,s1⟩:=hSw;go_simp;(try with_reducible rfl)
   (try simp only [Act.put,List.setIfInBounds_toArray,List.set_cons_zero,List.set_cons_succ])
   refine reg_take 8 (v:=?_) rfl (by kernel_rfl) (fun _ _ _ h=>h) (by rfl) hH ?_ ?_
   rotate_left
   ·intro w hSw;(try dsimp only at hSw);obtain ⟨s0,s1⟩:=hSw;go_simp;(try with_reducible rfl)
   (try simp only [Act.put,List.setIfInBounds_toArray,List.set_cons_zero,List.set_cons_succ])
   refine reg_take 9 (v:=?_) rfl (by kernel_rfl) (fun _ _ _ h=>h) (by rfl) hH ?_ ?_
   rotate_left
   ·intro w hSw;(try dsimp only at hSw);obtain ⟨s0,s1⟩:=hSw;go_simp;(try with_reducible rfl)
   (try simp only [Act.put,List.setIfInBounds_toArray,List.set_cons_zero,List.set_cons_succ])
   refine reg_take 10 (v:=?_) rfl (by kernel_rfl) (fun _ _ _ h=>h) (by rfl) hH ?_ ?_
   rotate_left
   ·intro w hSw;(try dsimp only at hSw);obtain ⟨s0,s1⟩:=hSw;go_simp;(try with_reducible rfl)
   (try simp only [Act.put,List.setIfInBounds_toArray,List.set_cons_zero,List.set_cons_succ])
   refine reg_take 11 (v:=?_) rfl (by kernel_rfl) (fun _ _ _ h=>h) (by rfl) hH ?_ ?_
   rotate_left
   ·intro w hSw;(try dsimp only at hSw);obtain ⟨s0,s1⟩:=hSw;go_simp;(try with_reducible rfl)
   (try simp only [Act.put,List.setIfInBounds_toArray,List.set_cons_zero,List.set_cons_succ])
   refine wpAnyH_ready (rs:=[12]) (by kernel_rfl) (by simp) ?_
   refine reg_cons 12 rfl (fun K' hK=>?_) AllReadyH.nil
   go_simp
   go_at_call 101
   refine (KD.out _).mono ?_
   rintro e w3 ⟨rfl,hb3⟩
   have hb13:Below wr.heap.size wr w3:=(bl_drew wr).trans hb3
   have HB3:=Lib.hid (HB.out.trans (hb13.mono hsz))
   have HO3:=Lib.hid (HO.out.far hb13)
   refine hK.out _ _ (HS.out w3 HB3.out) (fun hH=>?_)
   (try simp only [Act.put,List.setIfInBounds_toArray,List.set_cons_zero,List.set_cons_succ])
   clear hK hb3 hb13
   have hsz3:=HB3.out.size
   refine reg_take 13 (v:=.string ⟨(xh++58 :: Lib.itoa xpo).toArray⟩) rfl (by kernel_rfl) (fun _ _ _ h=>h) (by rfl) hH ?_ ?_
   ·intro w hSw
    go_simp
    (try rw [if_neg (by (try simp only [List.length_append,List.length_cons,List.length_nil]);omega)])
    (try simp only [catStr])
    (try simp only [List.append_assoc,List.singleton_append])
   (try simp only [Act.put,List.setIfInBounds_toArray,List.set_cons_zero,List.set_cons_succ])
   refine wpAnyH_ready (rs:=[14]) (by kernel_rfl) (by simp) ?_
   refine reg_cons 14 rfl (fun K' hK=>?_) AllReadyH.nil
   go_simp
   have HB4:=Lib.hid (HB3.out.alloc hsz3 (.cells #[.string ⟨(xh++58 :: Lib.itoa xpo).toArray⟩] 9))
   refine hK.out _ _ (HS.out _ HB4.out) (fun hH=>?_)
   (try simp only [Act.put,List.setIfInBounds_toArray,List.set_cons_zero,List.set_cons_succ])
   clear hK
   refine wpAnyH_ready (rs:=[15]) (by kernel_rfl) (by simp) ?_
   refine reg_cons 15 rfl (fun K' hK=>?_) AllReadyH.nil
   refine step_app _ rfl _ _ _ _ rfl w.heap.size 9 i0 (.string ⟨#[]⟩) 16 Tryz.underlying38 hI0 hz0 hz1 hz2 rfl (by omega) (.slice A3 k c3) (sc ((l.take k).map Srv.textA)) (HO3.out.alloc _) rfl (.slice (some ⟨w3.heap.size,0,none⟩) 1 1) rfl 1 [.string ⟨(xh++58 :: Lib.itoa xpo).toArray⟩] (one_src (w:=w3) Tryz.underlying38 (.string ⟨(xh++58 :: Lib.itoa xpo).toArray⟩) rfl) (by rw [sc_length,List.length_map,List.length_take,HLN.out];omega) (by simp;omega) ?_
   intro v5 w5 ho5 hg5 hz5
   have HB5:=Lib.hid (HB4.out.trans (hg5.below (Ow.lt HO3.out) (by simp;omega)))
   refine hK.out _ _ (HS.out w5 HB5.out) (fun hH=>?_)
   (try simp only [Act.put,List.setIfInBounds_toArray,List.set_cons_zero,List.set_cons_succ])
   clear hK
   have HO5:=Lib.hid ho5
   clear ho5 hg5
   refine reg_take 16 (v:=?_) rfl (by kernel_rfl) (fun _ _ _ h=>h) (by rfl) hH ?_ ?_
   rotate_left
   ·intro w hSw;(try dsimp only at hSw);obtain ⟨s0,s1⟩:=hSw;go_simp;(try with_reducible rfl)
   (try simp only [Act.put,List.setIfInBounds_toArray,List.set_cons_zero,List.set_cons_succ])
   refine wpAnyH_done (by kernel_rfl) ?_ _
   go_wp2_with fail
   go_roundw
   case rel=>
    refine ⟨k+1,by omega,by go_num,Lib.hid ?_,HB5⟩
    have:=HO5.out
    rw [HMT.out,show Srv.textA ⟨xh,xpo,xpr,xwe,xttl⟩=xh++58 :: Lib.itoa xpo from rfl]
    simpa [sc,strV] using this
   case measure=>simp [intOf];omega
  ·obtain rfl:n=k:=by omega
   have ho:=HO.out
   rw [List.take_of_length_le (by rw [HLN.out];exact Nat.le_refl _)] at ho
   have HO2:=Lib.hid ho
   clear ho hr3 HO
   go_wp2_with fail
   go_ret
   exact ⟨_,rfl,HO2.out,HB.out⟩
end Go.Proofs.YtlipmlbijddopaaGreatDoor
set_option linter.unusedVariables false
set_option linter.unusedSimpArgs false
namespace Go.Proofs.YtlipmlbijddopaaGreatDoor
open Go.RowKit
set_option maxRecDepth 100000 in
set_option maxHeartbeats 1000000 in
theorem aclone_at (A:Option Addr) (c n:Nat) (l:List Ad) (w:World) (h:AsRd w w.heap.size A c n l) :
 Calls Tryz.prog 46 #[.slice A n c] w fun e w'=>∃ v,e = .returned v∧OwM w' w.heap.size 31 5 v n (acs l)∧Below w.heap.size w w':=by
 obtain ⟨j0,hj',hy0,hy1,hy2⟩:=info_parts Tryz.infoA
 have hnl:=h.2.2.2.1
 cases A with
 | none=>
   have hn0:n=0:=by
    rcases Nat.eq_zero_or_pos n with h0 | h0
    ·exact h0
    ·obtain ⟨b,o,e,_⟩:=h.at_ h0;cases e
   have hl0:l=[]:=List.eq_nil_of_length_eq_zero (by rw [h.2.1,hn0])
   subst hn0 hl0
   have he:∀ W,(binOp .eql 27 (.slice none 0 c) (.slice none 0 0)).run Tryz.prog W = .ok (.bool true) W:=fun W=>by kernel_rfl
   go_enter Tryz.func46,Tryz.ntmps46
   go_wp2_with fail
   go_ret
   exact ⟨_,rfl,OwM.nil _ _ _ _,Below.refl _ _⟩
 | some a=>
   have he:∀ W,(binOp .eql 27 (.slice (some a) n c) (.slice none 0 0)).run Tryz.prog W = .ok (.bool false) W:=fun W=>by kernel_rfl
   go_enter Tryz.func46,Tryz.ntmps46
   go_wp2_with (at_builtin
                refine wpList_appM _ rfl _ _ _ _ rfl w.heap.size 5 31 j0 (.agg zA.cells.toArray) 48 Tryz.underlying27 hj' hy0 hy1 hy2 rfl (by omega) (.slice (some ⟨w.heap.size,0,none⟩) 0 0) 0 [] (OwM.lit w 31 5 [] 0 rfl (by decide)) rfl n (acs l) ((h.1.below (bl_new w _)).srcM Tryz.underlying27 (acs_one l)) (by omega) (by simp) ?_
                intro v4 w4 ho4 hg4 hz4)
   go_ret
   simp only [Nat.zero_add,List.nil_append] at ho4
   exact ⟨_,rfl,ho4,(bl_new w _).trans ((hg4.below (fun g hg=>by have:=(OwM.lit w 31 5 [] 0 rfl (by decide)).lt g hg;exact this) (by simp)))⟩
theorem run_slM_lh {P:Program} (W:World) (t e:TypeId) (s:Nat) (ht:P.underlying t=some (.slice e)) (hz:∀ w,(Go.sizeOf e).run P w = .ok s w) (b o n cap l h:Nat) (h1:l≤h) (h2:h≤cap) (h3:l<cap) :
 (Instr.slice t (.slice (some ⟨b,o,none⟩) n cap) (some (.int .i64 (l:Int))) (some (.int .i64 (h:Int))) none).run P W = .ok (.slice (some ⟨b,o+l*s,none⟩) (h - l) (cap - l)) W:=by
 have ht':P.underlying t=some (.slice (P.elem t)):=by simp [Program.elem,ht]
 have he:P.elem t=e:=by simp [Program.elem,ht]
 rw [run_slice_lh W t _ _ _ ht' .i64 .i64 _ _ (by omega) (by omega) (by omega),he,hz]
 have e1:¬ cap=l:=by omega
 simp [Result.andThen,sliced,e1,Addr.add]
section
variable {TS TA:TypeId} {w w1 w':World} {B:Nat} {v v':Value} {rows:List ARow}
theorem TSt.add (h:TSt TS TA w B v rows) (hb:Below w.heap.size w w1) (r:ARow) (hr:OwM w1 w.heap.size TA 5 r.v r.l.length (acs r.l)) (hB:B≤w.heap.size) (hg:Gr w1 w' v v') (ho:Ow w' B TS v' (rows.map ARow.v++[r.v])):TSt TS TA w' B v' (rows++[r]):=by
 refine ⟨by rw [List.map_append];exact ho,fun x hx=>?_,?_,fun x hx q hq e=>?_⟩
 ·rcases List.mem_append.1 hx with hx | hx
  ·exact OwM.kept ((h.own x hx).far hb) hg (h.off x hx)
  ·rw [List.mem_singleton] at hx;subst hx
   exact (OwM.kept hr hg (fun q hq e=>by have h1:=hr.lt q hq;have h2:=ow_block_lt h.out q e;omega)).mono hB
 ·rw [List.pairwise_append]
  refine ⟨h.apt,List.pairwise_singleton _ _,fun x hx s hs q hq e=>?_⟩
  rw [List.mem_singleton] at hs;subst hs
  have h1:=(h.own x hx).block_lt q hq
  have h2:=hr.lt q e
  omega
 ·rcases List.mem_append.1 hx with hx | hx
  ·rcases hg.2 q e with h1 | h1
   ·exact h.off x hx q hq h1
   ·have h2:=(h.own x hx).block_lt q hq;have h3:=hb.size;omega
  ·rw [List.mem_singleton] at hx;subst hx
   rcases hg.2 q e with h1 | h1
   ·have h2:=ow_block_lt h.out q h1;have h3:=hr.lt q hq;omega
   ·have h2:=hr.block_lt q hq;omega
end
namespace Srv
theorem run_step {l:List Ad} {k f:Nat} {R:List (List Ad)} (hk:k<l.length) (hf:f<k) (h:tiersA (l.take k)=R++[(l.take k).drop f]) :
 tiersA (l.take (k+1))=if l[k].pr=(l[f]'(by omega)).pr then R++[(l.take (k+1)).drop f] else (R++[(l.take k).drop f])++[(l.take (k+1)).drop k]:=by
 have htt:=tiersA_tiers (l.take k)
 rw [h] at htt
 have hlen:(l.take k).length=k:=by rw [List.length_take];omega
 have hseg:(l.take k).drop f≠[]:=by
  intro e
  have:=congrArg List.length e
  rw [List.length_drop,hlen] at this
  simp at this;omega
 have hd:((l.take k).drop f).headD zA=l[f]'(by omega):=by
  rw [List.drop_eq_getElem_cons (by rw [hlen];exact hf),List.headD_cons,List.getElem_take]
 have hlast:lastP ((l.take k).drop f)=(l[f]'(by omega)).pr:=by
  have:=htt.same _ (List.mem_append_right _ (List.mem_singleton.2 rfl)) _ (lastD_mem zA hseg)
  rw [hd] at this
  exact this
 have ht1:l.take (k+1)=l.take k++[l[k]]:=List.take_succ_eq_append_getElem hk
 rw [ht1,tiersA_snoc,h]
 have hdr:(l.take k++[l[k]]).drop f=(l.take k).drop f++[l[k]]:=by rw [List.drop_append_of_le_length (by rw [hlen];omega)]
 have hdk:(l.take k++[l[k]]).drop k=[l[k]]:=by rw [List.drop_append_of_le_length (by rw [hlen];exact Nat.le_refl _),List.drop_of_length_le (by rw [hlen];exact Nat.le_refl _)];rfl
 by_cases hp:l[k].pr=(l[f]'(by omega)).pr
 ·rw [if_pos hp,onT_old (by rw [hlast,hp]),hdr]
 ·rw [if_neg hp,onT_new (.inr (by
   rw [List.getLastD_concat,hlast]
   exact fun e=>hp e.symm)),hdk]
end Srv
theorem Tryz.infoLB:(Tryz.prog.info? 93).map (fun i=>(i.zero,i.size,i.bytes))=some (some (.slice none 0 0),1,24):=by kernel_rfl
theorem szB (w:World):(Go.sizeOf 102).run Tryz.prog w = .ok 5 w:=by kernel_rfl
set_option maxRecDepth 100000 in
set_option maxHeartbeats 8000000 in
theorem rtiers_at (A:Option Addr) (c n:Nat) (l:List Ad) (w:World) (h:AsRd w w.heap.size A c n l) :
 Calls Tryz.prog 50 #[.slice A n c] w fun e w'=>∃ (v:Value) (rows:List ARow),e = .returned v∧rows.map ARow.l=Srv.tiersA l∧TSt 93 102 w' w.heap.size v rows∧Below w.heap.size w w':=by
 obtain ⟨i0,hI,hz0,hz1,hz2⟩:=info_parts Tryz.infoLB
 obtain ⟨j0,hj',hy0,hy1,hy2⟩:=info_parts Tryz.infoBl
 have H:=Lib.hid h
 have hnl:=h.2.2.2.1
 have hnc:=h.2.2.1
 have HLN:=Lib.hid h.2.1
 clear h
 have mixed:Tryz.prog.follows .mixedOrders=true:=by kernel_rfl
 go_enter Tryz.func50,Tryz.ntmps50
 go_wp2_with fail
 go_loopw [3,4,5] (fun v3 v4 v5 wr=>∃ (k f m:Nat) (rows:List ARow),1≤k∧k≤n+1∧m≤k∧v5 = .int .i64 k∧v4 = .int .i64 f∧Hid (rows.length=m)∧Hid ((k≤n∧f<k∧m≤f∧Srv.tiersA (l.take k)=rows.map ARow.l++[(l.take k).drop f])∨(k=n+1∧rows.map ARow.l=Srv.tiersA l))∧Hid (TSt 93 102 wr w.heap.size v3 rows)∧Hid (Below w.heap.size w wr)) (fun _ _ v5 _=>n+1 - (intOf v5).toNat)
 case atStart=>
  refine ⟨1,0,0,[],Nat.le_refl _,by omega,by omega,rfl,rfl,Lib.hid rfl,Lib.hid ?_,Lib.hid (TSt.nil _ _),Lib.hid (Below.refl _ _)⟩
  rcases Nat.eq_zero_or_pos n with h0 | h0
  ·refine .inr ⟨by omega,?_⟩
   have:l=[]:=List.eq_nil_of_length_eq_zero (by rw [HLN.out,h0])
   subst this;rfl
  ·refine .inl ⟨by omega,by omega,by omega,?_⟩
   have hl:=HLN.out
   cases l with
   | nil=>simp at hl;omega
   | cons a l=>rfl
 case round=>
  obtain ⟨k,f,m,rows,hk1,hk,hmk,rfl,rfl,HM,HI,HT,HB⟩:=hrel
  have hsz:=HB.out.size
  rcases Nat.lt_or_ge n k with hgt | hle
  ·have HFIN:Hid (rows.map ARow.l=Srv.tiersA l):=Lib.hid (by
    rcases HI.out with h | h
    ·omega
    ·exact h.2)
   go_wp2_with fail
   go_ret
   exact ⟨_,_,rfl,HFIN.out,HT.out,HB.out⟩
  ·have hi:f<k∧m≤f∧Srv.tiersA (l.take k)=rows.map ARow.l++[(l.take k).drop f]:=by
    rcases HI.out with h | h
    ·exact h.2
    ·have:=h.1;omega
   obtain ⟨hfk,hmf,hti⟩:=hi
   have HTI:=Lib.hid hti
   clear hti HI
   have hn0:0<n:=by omega
   obtain ⟨b,o,rfl,hb,hc⟩:=H.out.base hn0
   have hfl:f<l.length:=by rw [HLN.out];omega
   have hff:=(hc f hfl).below HB.out hb
   have cf2:wr.cell? ⟨b,o+f*5+2,none⟩=some (.int .i64 l[f].pr):=hff.cells.2.2.1
   have HC:=Lib.hid hc
   clear hff hc
   obtain ⟨pf,hpf⟩:∃ p,p=l[f].pr:=⟨_,rfl⟩
   rw [←hpf] at cf2
   have HPF:=Lib.hid hpf
   clear hpf
   have HSEG:Hid (AsRd w w.heap.size (some ⟨b,o+f*5,none⟩) (c - f) (k - f) ((l.take k).drop f)):=Lib.hid (by
    have hr:=H.out
    refine ⟨⟨?_,fun h0=>⟨b,o+f*5,rfl,hb,fun j u hu=>?_⟩⟩,?_,by omega,by omega,fun x hx=>hr.2.2.2.2 x (List.mem_of_mem_take (List.mem_of_mem_drop hx))⟩
    ·rw [acs_length,List.length_drop,List.length_take,HLN.out,Nat.min_eq_left hle]
    ·obtain ⟨b2,o2,e,_,hcc⟩:=hr.1.2 (by omega)
     injection e with e
     injection e with e1 e2
     subst e1 e2
     have hj:j<(acs ((l.take k).drop f)).length:=by
      rcases Nat.lt_or_ge j (acs ((l.take k).drop f)).length with h1 | h1
      ·exact h1
      ·rw [List.getElem?_eq_none h1] at hu;cases hu
     rw [Nat.add_assoc]
     refine hcc (f*5+j) u ?_
     have hsp:acs l=acs (l.take f)++acs ((l.take k).drop f)++acs (l.drop k):=by
      rw [←acs_app,←acs_app]
      congr 1
      have e1:l.take f++(l.take k).drop f=l.take k:=by
       have:=List.take_append_drop f (l.take k)
       rw [List.take_take,Nat.min_eq_left (by omega)] at this
       exact this
      rw [e1,List.take_append_drop]
     have hlf:(acs (l.take f)).length=f*5:=by rw [acs_length,List.length_take,HLN.out,Nat.min_eq_left (by omega)]
     rw [hsp,List.append_assoc,List.getElem?_append_right (by rw [hlf];omega),hlf,Nat.add_sub_cancel_left,List.getElem?_append_left hj]
     exact hu
    ·rw [List.length_drop,List.length_take,HLN.out,Nat.min_eq_left hle])
   have hsl:∀ W,(Instr.slice 93 (.slice (some ⟨b,o,none⟩) n c) (some (.int .i64 (f:Int))) (some (.int .i64 (k:Int))) none).run Tryz.prog W = .ok (.slice (some ⟨b,o+f*5,none⟩) (k - f) (c - f)) W:=fun W=>run_slM_lh W _ _ 5 Tryz.underlying93 szB b o n c f k (by omega) (by omega) (by omega)
   obtain ⟨A3,c3,hv3,_,_⟩:=HT.out.out.form6 m (by rw [List.length_map,HM.out])
   subst hv3
   obtain ⟨sn,hsn⟩:∃ s,s=k - f:=⟨_,rfl⟩
   obtain ⟨sc_,hsc⟩:∃ s,s=c - f:=⟨_,rfl⟩
   rw [←hsn,←hsc] at HSEG hsl
   have hsnl:sn≤n:=by omega
   have HSN:=Lib.hid hsn
   clear hsn hsc
   rcases Nat.lt_or_ge k n with hlt | hge
   ·have hkl:k<l.length:=by rw [HLN.out];exact hlt
    have hst:=Srv.run_step hkl hfk HTI.out
    have ck2:wr.cell? ⟨b,o+k*5+2,none⟩=some (.int .i64 l[k].pr):=((HC.out k hkl).below HB.out hb).cells.2.2.1
    rw [←HPF.out] at hst
    obtain ⟨pk,hpk⟩:∃ p,p=l[k].pr:=⟨_,rfl⟩
    rw [←hpk] at ck2 hst
    have HST:=Lib.hid hst
    have hkn:((k:Int) == (n:Int))=false:=by rw [beq_eq_false_iff_ne];omega
    clear hst hpk
    by_cases hp:pk=pf
    ·have hpn:(pk != pf)=false:=by rw [hp];simp
     have HST2:=Lib.hid (HST.out.trans (if_pos hp))
     clear hp
     go_wp2_with fail
     go_quiet (fail)
     go_wp2_with fail
     go_roundw
     case rel=>exact ⟨k+1,f,m,rows,by omega,by omega,by omega,by go_num,rfl,HM,Lib.hid (.inl ⟨by omega,by omega,hmf,HST2.out⟩),Lib.hid (HT.out.far (bl_drewN (Below.refl _ _) nq)),Lib.hid (bl_drewN HB.out nq)⟩
     case measure=>simp [intOf];omega
    ·have hpn:(pk != pf)=true:=by rw [bne_iff_ne];exact hp
     have HST2:=Lib.hid (HST.out.trans (if_neg hp))
     clear hp
     go_wp2_with fail
     go_quiet (fail)
     have HB2:=Lib.hid (bl_drewN HB.out nq)
     have HT2:=Lib.hid (HT.out.far (bl_drewN (Below.refl _ _) nq))
     generalize wr.drewN nq=w2 at HB2 HT2 ⊢
     have hsz2:=HB2.out.size
     have hb23:=bl_new w2 (.cells #[] 102)
     have hlit:=OwM.lit w2 102 5 [] 0 rfl (by decide)
     have HLIT:=Lib.hid hlit
     have HS3:=Lib.hid ((HSEG.out.goes HB2.out).below hb23)
     have HB23:=Lib.hid hb23
     clear hlit hb23 ck2 cf2
     go_wp2_with (first
      | (at_builtin
         have _t:=tk1
         refine wpList_app _ rfl _ _ _ _ rfl w.heap.size 93 i0 (.slice none 0 0) 24 Tryz.underlying107 hI hz0 hz1 hz2 rfl (by omega) (.slice A3 m c3) _ (HT4.out.out.alloc _) rfl 1 [.slice A4 sn c4] (one_src Tryz.underlying107 _ rfl) (by rw [List.length_map,HM.out];omega) (by have:=hsz4;simp;omega) ?_
         intro v6 w6 ho6 hg6 hz6
         obtain ⟨A6,c6,rfl,_,_⟩:=ho6.form6 (m+1) (by rw [List.length_append,List.length_map,HM.out];rfl)
         have HO6:=Lib.hid ho6
         have HG6:=Lib.hid hg6
         clear ho6 hg6)
      | (at_builtin
         refine wpList_appM _ rfl _ _ _ _ rfl w2.heap.size 5 102 j0 (.agg zA.cells.toArray) 48 Tryz.underlying93 hj' hy0 hy1 hy2 rfl (by omega) (.slice (some ⟨w2.heap.size,0,none⟩) 0 0) 0 [] HLIT.out rfl sn (acs ((l.take k).drop f)) (HS3.out.1.srcM Tryz.underlying93 (acs_one _)) (by omega) (by simp) ?_
         intro v4 w4 ho4 hg4 hz4
         rw [Nat.zero_add,List.nil_append] at ho4
         obtain ⟨A4,c4,rfl,_,_,_⟩:=ho4.form
         have hb24:Below w2.heap.size w2 w4:=HB23.out.trans (hg4.below (fun g hg=>HLIT.out.lt g hg) (by simp))
         have HO4:=Lib.hid ho4
         have HT4:=Lib.hid (HT2.out.far hb24)
         have HB24:=Lib.hid hb24
         have hsz4:w.heap.size≤w4.heap.size:=Nat.le_trans hsz2 hb24.size
         have tk1:=True.intro
         clear ho4 hg4 hb24))
     have hsl4:((l.take k).drop f).length=sn:=by rw [List.length_drop,List.length_take,HLN.out,Nat.min_eq_left hle,HSN.out]
     have hb25:=HB24.out.trans ((bl_new w4 (.cells #[.slice A4 sn c4] 93)).mono HB24.out.size)
     have HT6:=Lib.hid (HT2.out.add hb25 ⟨A4,c4,(l.take k).drop f⟩ (by unfold ARow.v;dsimp only;rw [hsl4];exact OwM.alloc HO4.out _) hsz2 HG6.out (by unfold ARow.v;dsimp only;rw [hsl4];exact HO6.out))
     have HB6:=Lib.hid ((HB2.out.trans (hb25.mono hsz2)).trans (HG6.out.below (Ow.lt HT4.out.out) (by have:=hsz4;simp;omega)))
     have hmap:(rows++[(⟨A4,c4,(l.take k).drop f⟩:ARow)]).map ARow.l=rows.map ARow.l++[(l.take k).drop f]:=by simp
     have HMAP:=Lib.hid hmap
     clear hmap hb25 hsl4
     go_roundw
     case rel=>exact ⟨k+1,k,m+1,rows++[⟨A4,c4,(l.take k).drop f⟩],by omega,by omega,by omega,by go_num,rfl,Lib.hid (by rw [List.length_append,HM.out];rfl),Lib.hid (.inl ⟨by omega,by omega,by omega,by rw [HMAP.out];exact HST2.out⟩),HT6,HB6⟩
     case measure=>simp [intOf];omega
   ·have hkn':n=k:=by omega
    have hkn:((k:Int) == (n:Int))=true:=by rw [beq_iff_eq];omega
    have HKN:=Lib.hid hkn'
    clear hkn'
    go_wp2_with fail
    go_quiet (fail)
    have HB2:=Lib.hid (bl_drewN HB.out nq)
    have HT2:=Lib.hid (HT.out.far (bl_drewN (Below.refl _ _) nq))
    generalize wr.drewN nq=w2 at HB2 HT2 ⊢
    have hsz2:=HB2.out.size
    have hb23:=bl_new w2 (.cells #[] 102)
    have hlit:=OwM.lit w2 102 5 [] 0 rfl (by decide)
    have HLIT:=Lib.hid hlit
    have HS3:=Lib.hid ((HSEG.out.goes HB2.out).below hb23)
    have HB23:=Lib.hid hb23
    clear hlit hb23 cf2
    go_wp2_with (first
     | (at_builtin
        have _t:=tk1
        refine wpList_app _ rfl _ _ _ _ rfl w.heap.size 93 i0 (.slice none 0 0) 24 Tryz.underlying107 hI hz0 hz1 hz2 rfl (by omega) (.slice A3 m c3) _ (HT4.out.out.alloc _) rfl 1 [.slice A4 sn c4] (one_src Tryz.underlying107 _ rfl) (by rw [List.length_map,HM.out];omega) (by have:=hsz4;simp;omega) ?_
        intro v6 w6 ho6 hg6 hz6
        obtain ⟨A6,c6,rfl,_,_⟩:=ho6.form6 (m+1) (by rw [List.length_append,List.length_map,HM.out];rfl)
        have HO6:=Lib.hid ho6
        have HG6:=Lib.hid hg6
        clear ho6 hg6)
     | (at_builtin
        refine wpList_appM _ rfl _ _ _ _ rfl w2.heap.size 5 102 j0 (.agg zA.cells.toArray) 48 Tryz.underlying93 hj' hy0 hy1 hy2 rfl (by omega) (.slice (some ⟨w2.heap.size,0,none⟩) 0 0) 0 [] HLIT.out rfl sn (acs ((l.take k).drop f)) (HS3.out.1.srcM Tryz.underlying93 (acs_one _)) (by omega) (by simp) ?_
        intro v4 w4 ho4 hg4 hz4
        rw [Nat.zero_add,List.nil_append] at ho4
        obtain ⟨A4,c4,rfl,_,_,_⟩:=ho4.form
        have hb24:Below w2.heap.size w2 w4:=HB23.out.trans (hg4.below (fun g hg=>HLIT.out.lt g hg) (by simp))
        have HO4:=Lib.hid ho4
        have HT4:=Lib.hid (HT2.out.far hb24)
        have HB24:=Lib.hid hb24
        have hsz4:w.heap.size≤w4.heap.size:=Nat.le_trans hsz2 hb24.size
        have tk1:=True.intro
        clear ho4 hg4 hb24))
    have hsl4:((l.take k).drop f).length=sn:=by rw [List.length_drop,List.length_take,HLN.out,Nat.min_eq_left hle,HSN.out]
    have hb25:=HB24.out.trans ((bl_new w4 (.cells #[.slice A4 sn c4] 93)).mono HB24.out.size)
    have HT6:=Lib.hid (HT2.out.add hb25 ⟨A4,c4,(l.take k).drop f⟩ (by unfold ARow.v;dsimp only;rw [hsl4];exact OwM.alloc HO4.out _) hsz2 HG6.out (by unfold ARow.v;dsimp only;rw [hsl4];exact HO6.out))
    have HB6:=Lib.hid ((HB2.out.trans (hb25.mono hsz2)).trans (HG6.out.below (Ow.lt HT4.out.out) (by have:=hsz4;simp;omega)))
    have hmap:(rows++[(⟨A4,c4,(l.take k).drop f⟩:ARow)]).map ARow.l=rows.map ARow.l++[(l.take k).drop f]:=by simp
    have HMAP:=Lib.hid hmap
    clear hmap hb25 hsl4
    go_roundw
    case rel=>exact ⟨k+1,k,m+1,rows++[⟨A4,c4,(l.take k).drop f⟩],by omega,by omega,by omega,by go_num,rfl,Lib.hid (by rw [List.length_append,HM.out];rfl),Lib.hid (.inr ⟨by have:=HKN.out;omega,by rw [HMAP.out,←HTI.out,List.take_of_length_le (by rw [HLN.out];have:=HKN.out;omega)]⟩),HT6,HB6⟩
    case measure=>simp [intOf];omega
end Go.Proofs.YtlipmlbijddopaaGreatDoor
