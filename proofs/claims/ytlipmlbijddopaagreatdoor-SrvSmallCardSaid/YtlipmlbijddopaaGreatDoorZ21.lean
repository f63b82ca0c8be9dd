/-
  DnsSp
-/
import Derived.Deep.RegionLaw
import Derived.Test.YtlipmlbijddopaaGreatDoorZ19
import Derived.Test.YtlipmlbijddopaaGreatDoorZ13
import Derived.Test.YtlipmlbijddopaaGreatDoorZ20
set_option linter.unusedVariables false
set_option linter.unusedSimpArgs false
namespace Go.Proofs.YtlipmlbijddopaaGreatDoor
open Go.RowKit
def nxS (s:St):Nat:=if s.e=0 then s.at_ else 0
theorem nxS_ok {s:St} (h:s.e=0):nxS s=s.at_:=if_pos h
theorem nxS_no {s:St} (h:s.e≠0):nxS s=0:=if_neg h
theorem rTake_stay {b:List UInt8} {n:Nat} {s:St} (h:s.e≠0):(rTake b n s).2=s:=by unfold rTake;rw [if_neg h]
theorem rNum_stay {b:List UInt8} {s:St} (h:s.e≠0):(rNum b s).2=s:=rTake_stay h
theorem rNum_fit {b:List UInt8} {p:Nat} (h:p+2≤b.length):rNum b ⟨p,0⟩=(num2 (b.drop p),⟨p+2,0⟩):=by simp [rNum,rTake,h,num2_take]
theorem rNum_nofit {b:List UInt8} {p:Nat} (h:¬ p+2≤b.length):rNum b ⟨p,0⟩=(0,⟨p,171⟩):=by
 simp [rNum,rTake,h];rfl
theorem num2_drop {b:List UInt8} {p:Nat} (h:p+2≤b.length):num2 (b.drop p)=256*(b[p]'(by omega)).toNat+(b[p+1]'(by omega)).toNat:=by
 unfold num2
 rw [List.getD_eq_getElem?_getD,List.getD_eq_getElem?_getD,List.getElem?_drop,List.getElem?_drop,Nat.add_zero,List.getElem?_eq_getElem (by omega),List.getElem?_eq_getElem (by omega)]
 rfl
set_option maxRecDepth 100000 in
set_option maxHeartbeats 1000000 in
theorem fnum_at (A:Option Addr) (c L:Nat) (b:List UInt8) (p:Nat) (t:Nat × St) (ht:t=rNum b ⟨p,0⟩) (w:World) (hL:b.length=L) (h:Rd w w.heap.size A L (bc b)) (hc:L≤c) (hb:L≤100000) (hp:p≤L) :
 Calls Tryz.prog 133 #[.slice A L c,.int .i64 (p:Int)] w fun e w'=>e = .returned (.tuple #[.int .u16 (t.1:Int),.int .i64 (nxS t.2:Int),.int .i64 (t.2.e:Int)])∧Below w.heap.size w w':=by
 subst hL
 by_cases hf:p+2≤b.length
 ·have ht':t=(256*(b[p]'(by omega)).toNat+(b[p+1]'(by omega)).toNat,⟨p+2,0⟩):=by rw [ht,rNum_fit hf,num2_drop hf]
  obtain ⟨bq,oq,rfl,_,hcell⟩:=h.2 (by omega)
  have d0:=hcell p _ (bc_get b p (by omega))
  have d1:=hcell (p+1) _ (bc_get b (p+1) (by omega))
  have hx:=(b[p]'(by omega)).toNat_lt
  have hy:=(b[p+1]'(by omega)).toNat_lt
  generalize (b[p]'(by omega)).toNat=x at *
  generalize (b[p+1]'(by omega)).toNat=y at *
  subst ht'
  have hw:IntKind.u16.wrap (256*(x:Int)+(y:Int))=256*(x:Int)+(y:Int):=by rw [IntKind.wrap_u16];omega
  have d1':=d1
  rw [←Nat.add_assoc] at d1
  have hf':(p:Int)+2≤(b.length:Int):=by omega
  have hg1:¬ ((b.length:Int)<(p:Int)+2):=by omega
  have kw1:IntKind.i64.wrap ((p:Int)+1)=(p:Int)+1:=by rw [IntKind.wrap_i64];omega
  have kw2:IntKind.i64.wrap ((p:Int)+2)=(p:Int)+2:=by rw [IntKind.wrap_i64];omega
  have kw3:IntKind.i64.wrap (256*(x:Int))=256*(x:Int):=by rw [IntKind.wrap_i64];omega
  have kw4:IntKind.i64.wrap (256*(x:Int)+(y:Int))=256*(x:Int)+(y:Int):=by rw [IntKind.wrap_i64];omega
  have kw5:IntKind.i64.wrap (x:Int)=(x:Int):=by rw [IntKind.wrap_i64];omega
  have kw6:IntKind.i64.wrap (y:Int)=(y:Int):=by rw [IntKind.wrap_i64];omega
  have hg2:(p:Int)<(b.length:Int):=by omega
  have hg3:(p:Int)+1<(b.length:Int):=by omega
  have hg4:((p:Int)+1).toNat=p+1:=by omega
  clear hcell ht h
  go_enter Tryz.func133,Tryz.ntmps133
  go_upto_region 3 with fail
  go_quiet (fail)
  go_wp2_with fail
  go_ret3
  refine ⟨?_,⟨rfl,rfl,rfl,Nat.le_refl _,fun _ _=>rfl⟩⟩
  simp [nxS]
 ·have ht':t=(0,⟨p,171⟩):=by rw [ht,rNum_nofit hf]
  subst ht'
  have hf':(b.length:Int)<(p:Int)+2:=by omega
  clear ht h
  go_enter Tryz.func133,Tryz.ntmps133
  go_wp2_with fail
  go_ret3
  exact ⟨rfl,Below.refl _ _⟩
section
variable {w w':World} {g:Nat} {e:TypeId} {cs:List Value}
theorem Vx.loadQf (h:Vx w g e cs) (hn:cs.length=3):(loadVar 40 ⟨g,0,none⟩).run Tryz.prog w = .ok (.agg cs.toArray) w:=
 run_loadVar_row w g _ _ cs.toArray _ _ h Tryz.underlying40 rfl (by rw [List.size_toArray,hn];kernel_rfl)
theorem Vx.loadRf (h:Vx w g e cs) (hn:cs.length=9):(loadVar 42 ⟨g,0,none⟩).run Tryz.prog w = .ok (.agg cs.toArray) w:=
 run_loadVar_row w g _ _ cs.toArray _ _ h Tryz.underlying42 rfl (by rw [List.size_toArray,hn];kernel_rfl)
theorem Vx.loadMf (h:Vx w g e cs) (hn:cs.length=6):(loadVar 47 ⟨g,0,none⟩).run Tryz.prog w = .ok (.agg cs.toArray) w:=
 run_loadVar_row w g _ _ cs.toArray _ _ h Tryz.underlying47 rfl (by rw [List.size_toArray,hn];kernel_rfl)
theorem resQf {fn:Func} {q r s:Tmp} (h:fn.results=#[.cell q 40,.tmp r,.tmp s]) (tmps:Array Value) (W:World) (g:Nat) (e:TypeId) (cs:List Value) (vr vs:Value) (hq:tmps[q]? = some (.pointer (some ⟨g,0,none⟩))) (hr:tmps[r]? = some vr) (hs:tmps[s]? = some vs) (hx:Vx W g e cs) (hn:cs.length=3) :
 (results fn tmps).run Tryz.prog W = .ok (.tuple #[.agg cs.toArray,vr,vs]) W:=by
 simp [results,h,hq,hr,hs,asAddr,hx.loadQf hn]
theorem resRf {fn:Func} {q r s:Tmp} (h:fn.results=#[.cell q 42,.tmp r,.tmp s]) (tmps:Array Value) (W:World) (g:Nat) (e:TypeId) (cs:List Value) (vr vs:Value) (hq:tmps[q]? = some (.pointer (some ⟨g,0,none⟩))) (hr:tmps[r]? = some vr) (hs:tmps[s]? = some vs) (hx:Vx W g e cs) (hn:cs.length=9) :
 (results fn tmps).run Tryz.prog W = .ok (.tuple #[.agg cs.toArray,vr,vs]) W:=by
 simp [results,h,hq,hr,hs,asAddr,hx.loadRf hn]
theorem resMf {fn:Func} {q r:Tmp} (h:fn.results=#[.cell q 47,.tmp r]) (tmps:Array Value) (W:World) (g:Nat) (e:TypeId) (cs:List Value) (vr:Value) (hq:tmps[q]? = some (.pointer (some ⟨g,0,none⟩))) (hr:tmps[r]? = some vr) (hx:Vx W g e cs) (hn:cs.length=6) :
 (results fn tmps).run Tryz.prog W = .ok (.tuple #[.agg cs.toArray,vr]) W:=by
 simp [results,h,hq,hr,asAddr,hx.loadMf hn]
end
abbrev zQ3:List Value:=[.slice none 0 0,.int .u16 0,.int .u16 0]
def zQR:QR:=⟨none,0,zQ⟩
theorem rread_at (A:Option Addr) (c L:Nat) (b:List UInt8) (p:Nat) (n:List (List UInt8) × St) (hn:n=rName b ⟨p,0⟩) (w:World) (hL:b.length=L) (h:Rd w w.heap.size A L (bc b)) (hc:L≤c) (hb:L≤100000) (hp:p≤L) :
 Calls Tryz.prog 142 #[.slice A L c,.int .i64 (p:Int)] w fun e w'=>∃ A' c',e = .returned (.tuple #[.slice A' n.1.length c',.int .i64 (n.2.at_:Int),.int .i64 (n.2.e:Int)])∧Ow w' w.heap.size 9 (.slice A' n.1.length c') (sc n.1)∧Below w.heap.size w w':=by
 subst hL hn
 have e1:(rName b ⟨p,0⟩).1=(readN b p).1:=by simp [rName]
 have e2:(rName b ⟨p,0⟩).2.at_=(readN b p).2.1:=by simp [rName]
 have e3:(rName b ⟨p,0⟩).2.e=(readN b p).2.2:=by simp [rName]
 rw [e1,e2,e3]
 refine (rread_any A c b p w h hc (by omega) hp).mono ?_
 rintro e w' ⟨v,rfl,ho,hb⟩
 obtain ⟨A',c',rfl,_,_⟩:=ho.form6 _ (sc_length _)
 exact ⟨A',c',rfl,ho,hb⟩
theorem rName_le {b:List UInt8} {p:Nat} (hp:p≤b.length):(rName b ⟨p,0⟩).2.e=0→(rName b ⟨p,0⟩).2.at_≤b.length:=by
 intro h
 simp only [rName,if_pos] at h ⊢
 rcases readN_errs b p hp with ⟨h1,_⟩ | ⟨_,h2,h3⟩
 ·have:=readN_next b p hp h1;omega
 ·omega
set_option maxRecDepth 100000 in
set_option maxHeartbeats 1000000 in
theorem fquestion_at (A:Option Addr) (c L:Nat) (b:List UInt8) (p:Nat) (z:Qn × St) (hz:z=rQ b ⟨p,0⟩) (w:World) (hL:b.length=L) (h:Rd w w.heap.size A L (bc b)) (hc:L≤c) (hb:L≤100000) (hp:p≤L) :
 Calls Tryz.prog 134 #[.slice A L c,.int .i64 (p:Int)] w fun e w'=>∃ A' c' q,(z.2.e=0→q=z.1)∧(z.2.e≠0→q=zQ)∧e = .returned (.tuple #[.agg (QR.cells ⟨A',c',q⟩).toArray,.int .i64 (nxS z.2:Int),.int .i64 (z.2.e:Int)])∧Ow w' w.heap.size 9 (.slice A' q.nm.length c') (sc q.nm)∧Below w.heap.size w w':=by
 obtain ⟨n,hn⟩:∃ n,n=rName b ⟨p,0⟩:=⟨_,rfl⟩
 have hnl:n.2.e=0→n.2.at_≤L:=by rw [hn,←hL];exact rName_le (by omega)
 have HR:=Lib.hid h
 have HL:=Lib.hid hL
 have HN:=Lib.hid hn
 have hV1:Vx (w.alloc (.cells #[.slice none 0 0,.int .u16 0,.int .u16 0] 40)) w.heap.size 40 zQ3:=Vx.new w _ _
 have hb1:=below_new w (.cells #[.slice none 0 0,.int .u16 0,.int .u16 0] 40)
 have hsz1:w.heap.size<(w.alloc (.cells #[.slice none 0 0,.int .u16 0,.int .u16 0] 40)).heap.size:=by simp
 clear h hL
 by_cases h0:n.2.e=0
 ·have hna:=hnl h0
  have h0':(n.2.e:Int)=0:=by omega
  have h0b:((n.2.e:Int) != 0)=false:=by simp [h0]
  obtain ⟨k,hk⟩:∃ k,k=rNum b ⟨n.2.at_,0⟩:=⟨_,rfl⟩
  have hn2:n.2=⟨n.2.at_,0⟩:=by rw [←h0]
  by_cases h1:k.2.e=0
  ·have h1':(k.2.e:Int)=0:=by omega
   have h1b:((k.2.e:Int) != 0)=false:=by simp [h1]
   obtain ⟨m,hm⟩:∃ m,m=rNum b ⟨k.2.at_,0⟩:=⟨_,rfl⟩
   have hk2:k.2=⟨k.2.at_,0⟩:=by rw [←h1]
   have hkl:k.2.at_≤L:=by
    have:=num_err (b:=b) (s:=⟨n.2.at_,0⟩) (by rw [←hk];exact h1)
    rw [←hk,HL.out] at this
    simp only at this
    omega
   have hnk:nxS k.2=k.2.at_:=nxS_ok h1
   have hZ:z=(⟨n.1,k.1,m.1⟩,m.2):=by
    rw [hz]
    show ((⟨(rName b ⟨p,0⟩).1,_,_⟩:Qn),_)=_
    rw [←hn,hn2,←hk,hk2,←hm]
   have HK:=Lib.hid hk
   have HM:=Lib.hid hm
   clear hz hn hk hm hn2 hk2 hnl
   by_cases h2:m.2.e=0
   ·have h2':(m.2.e:Int)=0:=by omega
    have h2b:((m.2.e:Int) != 0)=false:=by simp [h2]
    have HZ:=Lib.hid hZ
    have H2:=Lib.hid h2
    clear hZ h2
    go_enter Tryz.func134,Tryz.ntmps134
    go_wp2_with (first
     | (go_at_call 133
        refine (fnum_at A c L b k.2.at_ m HM.out w3 HL.out (HR.out.goes (hb1.trans ((hb2.trans (hb3.mono hb2.size)).mono hb1.size))) hc hb hkl).mono ?_
        rintro e w4 ⟨rfl,hb4⟩
        have hV4:=((hV1.below hb2 hsz1).below hb3 (by have:=hb2.size;omega)).below hb4 (by have:=hb2.size;have:=hb3.size;omega))
     | (go_at_call 133
        refine (fnum_at A c L b n.2.at_ k HK.out w2 HL.out (HR.out.goes (hb1.trans (hb2.mono hb1.size))) hc hb hna).mono ?_
        rw [hnk]
        rintro e w3 ⟨rfl,hb3⟩)
     | (go_at_call 142
        refine (rread_at A c L b p n HN.out _ HL.out (HR.out.goes hb1) hc hb hp).mono ?_
        rintro e w2 ⟨An,cn,rfl,hn2,hb2⟩)
     | (refine wpList_store_row rfl 40 _ _ rfl w.heap.size _ rfl rfl _ _ hV4 (by kernel_rfl) rfl (by kernel_rfl) ?_))
    refine bodyPost_ret (resQf Tryz.results134 _ _ w.heap.size _ _ _ _ rfl rfl rfl (hV4.row (QR.cells ⟨An,cn,⟨n.1,k.1,m.1⟩⟩)) rfl) rfl ?_
    refine ⟨An,cn,⟨n.1,k.1,m.1⟩,fun _=>by rw [HZ.out],fun hne=>absurd (by rw [HZ.out];exact H2.out) hne,?_,?_,?_⟩
    ·rw [HZ.out];simp [H2.out]
    ·have hb24:Below _ w2 w4:=hb3.trans (hb4.mono hb3.size)
     exact ((hn2.far hb24).only (Only.row w4 w.heap.size _) (by omega)).mono (by omega)
    ·have hb14:=hb1.trans (((hb2.trans (hb3.mono hb2.size)).trans (hb4.mono (hb2.trans (hb3.mono hb2.size)).size)).mono hb1.size)
     exact hb14.trans ((Only.row w4 w.heap.size _).below (Nat.le_refl _) hb14.size)
   ·have h2':¬ (m.2.e:Int)=0:=by omega
    have h2b:((m.2.e:Int) != 0)=true:=by rw [bne_iff_ne];omega
    have HZE:=Lib.hid (show z.2.e=m.2.e by rw [hZ])
    have H2:=Lib.hid (show z.2.e≠0 by rw [hZ];exact h2)
    clear hZ h2
    go_enter Tryz.func134,Tryz.ntmps134
    go_wp2_with (first
     | (go_at_call 133
        refine (fnum_at A c L b k.2.at_ m HM.out w3 HL.out (HR.out.goes (hb1.trans ((hb2.trans (hb3.mono hb2.size)).mono hb1.size))) hc hb hkl).mono ?_
        rintro e w4 ⟨rfl,hb4⟩
        have hV9:=((hV1.below hb2 hsz1).below hb3 (by have:=hb2.size;omega)).below hb4 (by have:=hb2.size;have:=hb3.size;omega)
        have hb19:=hb1.trans (((hb2.trans (hb3.mono hb2.size)).trans (hb4.mono (hb2.trans (hb3.mono hb2.size)).size)).mono hb1.size))
     | (go_at_call 133
        refine (fnum_at A c L b n.2.at_ k HK.out w2 HL.out (HR.out.goes (hb1.trans (hb2.mono hb1.size))) hc hb hna).mono ?_
        rw [hnk]
        rintro e w3 ⟨rfl,hb3⟩)
     | (go_at_call 142
        refine (rread_at A c L b p n HN.out _ HL.out (HR.out.goes hb1) hc hb hp).mono ?_
        rintro e w2 ⟨An,cn,rfl,hn2,hb2⟩)
     | (refine wpList_store_row rfl 40 _ _ rfl w.heap.size _ rfl rfl _ _ hV9 (by kernel_rfl) rfl (by kernel_rfl) ?_))
    refine bodyPost_ret (resQf Tryz.results134 _ _ w.heap.size _ _ _ _ rfl rfl rfl (hV9.row zQ3) rfl) rfl ?_
    refine ⟨none,0,zQ,fun h=>absurd h H2.out,fun _=>rfl,?_,Ow.nil _ _ _,hb19.trans ((Only.row _ w.heap.size _).below (Nat.le_refl _) hb19.size)⟩
    rw [nxS_no H2.out];simp [zQR,zQ,QR.cells,HZE.out]
  ·have h1':¬ (k.2.e:Int)=0:=by omega
   have h1b:((k.2.e:Int) != 0)=true:=by rw [bne_iff_ne];omega
   have hZ:z.2=k.2:=by
    rw [hz]
    show (rNum b (rNum b (rName b ⟨p,0⟩).2).2).2=_
    rw [←hn,hn2,←hk,rNum_stay h1]
   have HZE:=Lib.hid (show z.2.e=k.2.e by rw [hZ])
   have H2:=Lib.hid (show z.2.e≠0 by rw [hZ];exact h1)
   have HK:=Lib.hid hk
   clear hz hn hk hn2 hnl hZ h1
   go_enter Tryz.func134,Tryz.ntmps134
   go_wp2_with (first
    | (go_at_call 133
       refine (fnum_at A c L b n.2.at_ k HK.out w2 HL.out (HR.out.goes (hb1.trans (hb2.mono hb1.size))) hc hb hna).mono ?_
       rintro e w3 ⟨rfl,hb3⟩
       have hV9:=(hV1.below hb2 hsz1).below hb3 (by have:=hb2.size;omega)
       have hb19:=hb1.trans ((hb2.trans (hb3.mono hb2.size)).mono hb1.size))
    | (go_at_call 142
       refine (rread_at A c L b p n HN.out _ HL.out (HR.out.goes hb1) hc hb hp).mono ?_
       rintro e w2 ⟨An,cn,rfl,hn2,hb2⟩)
    | (refine wpList_store_row rfl 40 _ _ rfl w.heap.size _ rfl rfl _ _ hV9 (by kernel_rfl) rfl (by kernel_rfl) ?_))
   refine bodyPost_ret (resQf Tryz.results134 _ _ w.heap.size _ _ _ _ rfl rfl rfl (hV9.row zQ3) rfl) rfl ?_
   refine ⟨none,0,zQ,fun h=>absurd h H2.out,fun _=>rfl,?_,Ow.nil _ _ _,hb19.trans ((Only.row _ w.heap.size _).below (Nat.le_refl _) hb19.size)⟩
   rw [nxS_no H2.out];simp [zQR,zQ,QR.cells,HZE.out]
 ·have h0':¬ (n.2.e:Int)=0:=by omega
  have h0b:((n.2.e:Int) != 0)=true:=by rw [bne_iff_ne];omega
  have hZ:z.2=n.2:=by
   rw [hz]
   show (rNum b (rNum b (rName b ⟨p,0⟩).2).2).2=_
   rw [←hn,rNum_stay (s:=n.2) h0,rNum_stay h0]
  have HZE:=Lib.hid (show z.2.e=n.2.e by rw [hZ])
  have H2:=Lib.hid (show z.2.e≠0 by rw [hZ];exact h0)
  clear hz hn hnl hZ h0
  go_enter Tryz.func134,Tryz.ntmps134
  go_wp2_with (first
   | (go_at_call 142
      refine (rread_at A c L b p n HN.out _ HL.out (HR.out.goes hb1) hc hb hp).mono ?_
      rintro e w2 ⟨An,cn,rfl,hn2,hb2⟩
      have hV9:=hV1.below hb2 hsz1
      have hb19:=hb1.trans (hb2.mono hb1.size))
   | (refine wpList_store_row rfl 40 _ _ rfl w.heap.size _ rfl rfl _ _ hV9 (by kernel_rfl) rfl (by kernel_rfl) ?_))
  refine bodyPost_ret (resQf Tryz.results134 _ _ w.heap.size _ _ _ _ rfl rfl rfl (hV9.row zQ3) rfl) rfl ?_
  refine ⟨none,0,zQ,fun h=>absurd h H2.out,fun _=>rfl,?_,Ow.nil _ _ _,hb19.trans ((Only.row _ w.heap.size _).below (Nat.le_refl _) hb19.size)⟩
  rw [nxS_no H2.out];simp [zQR,zQ,QR.cells,HZE.out]
open Go.RowKit
theorem rD_stay {b:List UInt8} {s:St} (h:(rQ b s).2.e≠0):(rD b s).2=(rQ b s).2:=by
 unfold rD
 simp only
 have h1:=rNum_stay (b:=b) h
 have h2:(rNum b (rNum b (rQ b s).2).2).2=(rQ b s).2:=by rw [h1,h1]
 have h3:(rNum b (rNum b (rNum b (rQ b s).2).2).2).2=(rQ b s).2:=by rw [h2,h1]
 rw [h3,rTake_stay h]
theorem rKk_stay {b:List UInt8} {q:Qn} {hi lo:Nat} {d:List UInt8 × St} (h:d.2.e≠0):rKk b q hi lo d=(zR,d.2):=by unfold rKk;rw [if_pos h]
theorem rQ_le {b:List UInt8} {s:St} (h:(rQ b s).2.e=0):(rQ b s).2.at_≤b.length:=by
 have:=num_err (b:=b) (s:=(rNum b (rName b s).2).2) h
 have e:(rQ b s).2=(rNum b (rNum b (rName b s).2).2).2:=rfl
 rw [e];omega
theorem rR_f0 {b:List UInt8} {s:St} (h:(rQ b s).2.e≠0):(rR b s).2=(rQ b s).2:=by
 rw [rR_eq,rKk_stay (by rw [rD_stay h];exact h)]
 exact rD_stay h
theorem rTake_no {b:List UInt8} {n p:Nat} (h:¬ p+n≤b.length):(rTake b n ⟨p,0⟩).2=⟨p,171⟩:=by simp [rTake,h]
theorem rR_f1 {b:List UInt8} {s:St} {q:Qn} {a:Nat} (hq:rQ b s=(q,⟨a,0⟩)) (h:¬ a+6≤b.length):(rR b s).2.e=171:=by
 have key:(rD b s).2.e=171:=by
  unfold rD
  simp only [hq]
  by_cases h1:a+2≤b.length
  ·rw [rNum_fit h1]
   simp only
   by_cases h2:a+2+2≤b.length
   ·rw [rNum_fit h2]
    simp only
    rw [rNum_nofit (p:=a+2+2) (by omega)]
    rw [rTake_stay (by simp)]
   ·rw [rNum_nofit h2]
    simp only
    rw [rTake_stay (by rw [rNum_stay (by simp)];simp),rNum_stay (by simp)]
  ·rw [rNum_nofit h1]
   simp only
   have e1:(rNum b ⟨a,171⟩).2=⟨a,171⟩:=rNum_stay (by simp)
   rw [e1,e1,rTake_stay (by simp)]
 rw [rR_eq,rKk_stay (by rw [key];simp)]
 exact key
theorem rR_f2 {b:List UInt8} {s:St} {q:Qn} {a:Nat} (hq:rQ b s=(q,⟨a,0⟩)) (h:a+6≤b.length):rR b s=rKk b q (num2 (b.drop a)) (num2 (b.drop (a+2))) (rTake b (num2 (b.drop (a+4))) ⟨a+6,0⟩):=by
 rw [rR_eq]
 unfold rD
 simp only [hq]
 rw [rNum_fit (p:=a) (by omega)]
 simp only
 rw [rNum_fit (p:=a+2) (by omega)]
 simp only
 rw [rNum_fit (p:=a+2+2) (by omega)]
theorem rTake_fit {b:List UInt8} {n p:Nat} (h:p+n≤b.length):rTake b n ⟨p,0⟩=((b.drop p).take n,⟨p+n,0⟩):=by simp [rTake,h]
theorem num2_cut {b:List UInt8} {p e:Nat} (h:p+2≤e) (he:e≤b.length):num2 ((b.take e).drop p)=num2 (b.drop p):=by
 rw [num2_drop (by rw [List.length_take];omega),num2_drop (by omega),List.getElem_take,List.getElem_take]
theorem rR_f3 {b:List UInt8} {s:St} {q:Qn} {a n:Nat} (hq:rQ b s=(q,⟨a,0⟩)) (hn:n=num2 (b.drop (a+4))) (h:a+6+n≤b.length) (h33:q.ty=33) (h7:7≤n) (t:List (List UInt8) × St) (ht:t=rName (b.take (a+6+n)) ⟨a+12,0⟩) :
 rR b s=(⟨q,65536*num2 (b.drop a)+num2 (b.drop (a+2)),[],num2 (b.drop (a+6)),num2 (b.drop (a+8)),num2 (b.drop (a+10)),t.1⟩,if t.2.e≠0∨t.2.at_≠a+6+n then ⟨a+6+n,172⟩ else ⟨a+6+n,0⟩):=by
 rw [rR_f2 hq (by omega),←hn,rTake_fit h]
 unfold rKk rKo
 have hl:((b.drop (a+6)).take n).length=n:=by rw [List.length_take,List.length_drop];omega
 have hol:(b.take (a+6+n)).length=a+6+n:=by rw [List.length_take];omega
 simp only [hl,h33]
 rw [if_neg (by simp),if_neg (by simp),if_neg (by omega),show a+6+n - n=a+6 by omega,rNum_fit (p:=a+6) (by rw [hol];omega)]
 simp only
 rw [rNum_fit (p:=a+6+2) (by rw [hol];omega)]
 simp only
 rw [rNum_fit (p:=a+6+2+2) (by rw [hol];omega)]
 simp only
 rw [num2_cut (by omega) h,num2_cut (by omega) h,num2_cut (by omega) h,ht]
def beN (l:List UInt8):Nat→Nat
 | 0=>0
 | k+1=>256*beN l k+(l.getD k 0).toNat
theorem beN_lt (l:List UInt8):∀ k,beN l k<256 ^ k
 | 0=>by simp [beN]
 | k+1=>by
   have:=beN_lt l k
   have:=(l.getD k 0).toNat_lt
   rw [beN,Nat.pow_succ];omega
theorem beN4 (l:List UInt8):beN l 4=65536*num2 l+num2 (l.drop 2):=by
 have e0:(l.drop 2).getD 0 0=l.getD 2 0:=by simp [List.getD_eq_getElem?_getD,List.getElem?_drop]
 have e1:(l.drop 2).getD 1 0=l.getD 3 0:=by simp [List.getD_eq_getElem?_getD,List.getElem?_drop]
 unfold num2
 rw [e0,e1]
 simp only [beN]
 omega
theorem getD_drop' (b:List UInt8) (a k:Nat) (h:a+k<b.length):((b.drop a).getD k 0)=b[a+k]:=by
 rw [List.getD_eq_getElem?_getD,List.getElem?_drop,List.getElem?_eq_getElem h];rfl
structure RfX (w0 w:World) (Q X:Nat) (q:QR) (x:RR):Prop where
 vr:Vx w w0.heap.size 42 zRR.cells
 vq:Vx w Q 40 q.cells
 vx:Vx w X 42 x.cells
 bl:Below w0.heap.size w0 w
 lo:w0.heap.size<Q∧Q<X
 ow:ROw w (w0.heap.size+1) X x
section
variable {w0 w w':World} {Q X:Nat} {q:QR} {x x':RR}
theorem RfX.far (h:RfX w0 w Q X q x) (hb:Below w.heap.size w w'):RfX w0 w' Q X q x:=
 ⟨h.vr.below hb h.vr.lt,h.vq.below hb h.vq.lt,h.vx.below hb h.vx.lt,h.bl.trans (hb.mono h.bl.size),h.lo,h.ow.only2 (Only.of_below hb:Only w w' w.heap.size) (Nat.le_refl _)⟩
theorem below_drew1 (w:World):Below w.heap.size w w.drew:=⟨rfl,rfl,rfl,Nat.le_refl _,fun _ _=>rfl⟩
theorem RfX.setX (h:RfX w0 w Q X q x) (k:Nat) (u:Value) (hx:x.cells.set k u=x'.cells) (how:ROw (w.setCell ⟨X,k,none⟩ u) (w0.heap.size+1) X x'):RfX w0 (w.setCell ⟨X,k,none⟩ u) Q X q x':=by
 have hl:=h.lo
 refine ⟨h.vr.setO (by omega) _ _,h.vq.setO (by omega) _ _,?_,h.bl.setCell (by show w0.heap.size≤X;omega) u,h.lo,how⟩
 have:=h.vx.set_ k u
 rwa [hx] at this
theorem RfX.fin (h:RfX w0 w Q X q x) (x':RR) (how:ROw w (w0.heap.size+1) X x'):Vx (w.setRow w0.heap.size x'.cells.toArray) w0.heap.size 42 x'.cells∧ROw (w.setRow w0.heap.size x'.cells.toArray) w0.heap.size X x'∧Below w0.heap.size w0 (w.setRow w0.heap.size x'.cells.toArray):=
 ⟨h.vr.row _,(how.only (Only.row _ _ _) (Nat.lt_succ_self _)).mono (Nat.le_succ _),h.bl.trans ((Only.row _ _ _).below (Nat.le_refl _) h.bl.size)⟩
end
theorem Ow.lit0 (w:World) (base:Nat) (e:TypeId) (h:base≤w.heap.size):Ow (w.alloc (.cells #[] e)) base e (.slice (some ⟨w.heap.size,0,none⟩) 0 0) []:=
 ⟨rfl,Or.inr ⟨w.heap.size,0,#[],rfl,h,(Vx.new w e []),Nat.le_refl _,by simp [maxLen],rfl,rfl⟩⟩
def rfOk (z:Rc × St) (r:Rc):Prop:=(z.2.e=0→r=z.1)∧(z.2.e≠0→r=zR)
set_option maxRecDepth 100000 in
set_option maxHeartbeats 2000000 in
theorem frecord_at (A:Option Addr) (c L:Nat) (b:List UInt8) (p:Nat) (z:Rc × St) (hz:z=rR b ⟨p,0⟩) (w:World) (hL:b.length=L) (h:Rd w w.heap.size A L (bc b)) (hc:L≤c) (hb:L≤100000) (hp:p≤L) :
 Calls Tryz.prog 135 #[.slice A L c,.int .i64 (p:Int)] w fun e w'=>∃ x:RR,rfOk z x.r∧e = .returned (.tuple #[.agg x.cells.toArray,.int .i64 (nxS z.2:Int),.int .i64 (z.2.e:Int)])∧(∃ O,ROw w' w.heap.size O x)∧Below w.heap.size w w':=by
 obtain ⟨q,hq⟩:∃ q,q=rQ b ⟨p,0⟩:=⟨_,rfl⟩
 have HR:=Lib.hid h
 have HL:=Lib.hid hL
 have HQ:=Lib.hid hq
 have HZ:=Lib.hid hz
 clear h hL hq hz
 go_enter Tryz.func135,Tryz.ntmps135
 go_upto_region 1 with fail
 have hV1:Vx (w.alloc (.cells #[.slice none 0 0,.int .u16 0,.int .u16 0,.int .u32 0,.slice none 0 0,.int .u16 0,.int .u16 0,.int .u16 0,.slice none 0 0] 42)) w.heap.size 42 zRR.cells:=Vx.new w _ _
 have hb1:=below_new w (.cells #[.slice none 0 0,.int .u16 0,.int .u16 0,.int .u32 0,.slice none 0 0,.int .u16 0,.int .u16 0,.int .u16 0,.slice none 0 0] 42)
 have hz1:(w.alloc (.cells #[.slice none 0 0,.int .u16 0,.int .u16 0,.int .u32 0,.slice none 0 0,.int .u16 0,.int .u16 0,.int .u16 0,.slice none 0 0] 42)).heap.size=w.heap.size+1:=by simp
 generalize w.alloc (.cells #[.slice none 0 0,.int .u16 0,.int .u16 0,.int .u32 0,.slice none 0 0,.int .u16 0,.int .u16 0,.int .u16 0,.slice none 0 0] 42)=w1 at *
 go_cut [1,7,8] from 15 to 21 (fun v1 v7 v8 wx=>∃ Q A' c' q',v1 = .int .i64 (nxS q.2:Int)∧v7 = .pointer (some ⟨Q,0,none⟩)∧v8 = .int .i64 (q.2.e:Int)∧(q.2.e=0→q'=q.1)∧Hid (Vx wx w.heap.size 42 zRR.cells)∧Hid (Vx wx Q 40 (QR.cells ⟨A',c',q'⟩))∧Hid (Below w.heap.size w wx)∧w.heap.size<Q∧Hid (Ow wx (w.heap.size+1) 9 (.slice A' q'.nm.length c') (sc q'.nm)))
 case first=>
  go_wp2_with (first
   | (go_at_call 134
      refine (fquestion_at A c L b p q HQ.out w1 HL.out (HR.out.goes hb1) hc hb hp).mono ?_
      rintro e w2 ⟨An,cn,qq,hq1,hq2,rfl,hn2,hb2⟩
      unfold QR.cells
      dsimp only)
   | (refine wpList_store_row rfl 40 _ _ rfl w2.heap.size _ rfl rfl _ _ (Vx.new w2 _ [.slice none 0 0,.int .u16 0,.int .u16 0]) (by kernel_rfl) rfl (by kernel_rfl) ?_))
  go_meet
  refine ⟨w2.heap.size,An,cn,qq,rfl,rfl,rfl,hq1,Lib.hid ?_,Lib.hid ((Vx.new w2 _ [.slice none 0 0,.int .u16 0,.int .u16 0]).row _),Lib.hid ?_,by have:=hb2.size;omega,Lib.hid ?_⟩
  ·exact ((hV1.below hb2 (by omega)).alloc _).rowO (by have:=hb2.size;omega) _
  ·exact ((hb1.trans (hb2.mono (by omega))).alloc (by have:=hb2.size;omega) _).trans ((Only.row _ _ _).below (by have:=hb2.size;omega) (by have:=hb2.size;simp;omega))
  ·rw [←hz1]
   exact (hn2.alloc _).onlyN (Only.row _ _ _) (fun a ha=>by have:=ow_blk hn2 a ha;omega)
 case rest=>
  clear hV1 hb1 hz1
  obtain ⟨Q,An,cn,q',rfl,rfl,rfl,hq',HVR,HVQ,HB,hQ,HON⟩:=hcut
  by_cases h0:q.2.e=0
  ·obtain rfl:=hq' h0
   obtain ⟨a,ha⟩:∃ a,a=q.2.at_:=⟨_,rfl⟩
   have hnx:nxS q.2=a:=by rw [nxS_ok h0,ha]
   have hqa:rQ b ⟨p,0⟩=(q.1,⟨a,0⟩):=by rw [←HQ.out,ha,←h0]
   have h0':(q.2.e:Int)=0:=by omega
   have h0b:((q.2.e:Int) != 0)=false:=by simp [h0]
   rw [hnx]
   have hal:a≤L:=by rw [ha,HQ.out,←HL.out];exact rQ_le (by rw [←HQ.out];exact h0)
   have HQA:=Lib.hid hqa
   clear hqa hnx ha hq'
   by_cases h6:a+6≤L
   ·have h6':(a:Int)+6≤(L:Int):=by omega
    have HVQ3:=Lib.hid (show Vx wc Q 40 [.slice An q.1.nm.length cn,.int .u16 (q.1.ty:Int),.int .u16 (q.1.cl:Int)] from HVQ.out)
    go_upto_region 6 with fail
    go_cut [8,9] from 22 to 33 (fun v8 v9 wx=>∃ X,v8 = .int .i64 0∧v9 = .pointer (some ⟨X,0,none⟩)∧Hid (RfX w wx Q X ⟨An,cn,q.1⟩ ⟨An,cn,none,0,none,0,⟨q.1,0,[],0,0,0,[]⟩⟩))
    case first=>
     go_wp2_with (first
      | (refine wpList_load_row rfl 40 _ rfl Q rfl _ _ _ _ HVQ3.out Tryz.underlying40 rfl (by kernel_rfl) ?_)
      | (refine wpList_store_row rfl 42 _ _ rfl wc.heap.size _ rfl rfl _ _ (Vx.new wc _ zRR.cells) (by kernel_rfl) rfl (by kernel_rfl) ?_))
     simp only [Act.put]
     go_meet
     have hQl:=HVQ.out.lt
     refine ⟨wc.heap.size,rfl,rfl,Lib.hid ⟨(HVR.out.alloc _).rowO (by omega) _,(HVQ.out.alloc _).rowO (by omega) _,(Vx.new wc _ zRR.cells).row _,(HB.out.alloc HB.out.size _).trans ((Only.row _ _ _).below HB.out.size (by have:=HB.out.size;simp;omega)),⟨hQ,hQl⟩,?_⟩⟩
     exact ⟨(HON.out.alloc _).onlyN (Only.row _ _ _) (fun a ha=>by have:=ow_blk HON.out a ha;omega),Ow.nil _ _ _,Ow.nil _ _ _,fun a ha=>by have:=ow_blk HON.out a ha;omega,fun a h=>(by cases h),fun a h=>(by cases h)⟩
    case rest=>
     clear HVR HVQ HVQ3 HB HON
     obtain ⟨X,rfl,rfl,HX⟩:=hcut
     go_wp2_with fail
     go_loopw [10] (fun i wr=>∃ k:Nat,k≤4∧i = .int .i64 k∧Hid (RfX w wr Q X ⟨An,cn,q.1⟩ ⟨An,cn,none,0,none,0,⟨q.1,beN (b.drop a) k,[],0,0,0,[]⟩⟩)) (fun i _=>4 - (intOf i).toNat)
     case atStart=>exact ⟨0,by omega,rfl,HX⟩
     case round=>
      clear HX
      obtain ⟨k,hk,rfl,HX⟩:=hrel
      by_cases hk4:k<4
      ·have hrd:=HR.out.goes HX.out.bl
       obtain ⟨bq,oq,rfl,_,hcell⟩:=hrd.2 (by omega)
       have hbl:a+k<b.length:=by rw [HL.out];omega
       have d0:=hcell (a+k) _ (bc_get b (a+k) hbl)
       have hx:=(b[a+k]'hbl).toNat_lt
       obtain ⟨x,hxe⟩:∃ x,x=(b[a+k]'hbl).toNat:=⟨_,rfl⟩
       rw [←hxe] at d0 hx
       have hv:=beN_lt (b.drop a) k
       have hv2:256 ^ k≤16777216:=by
        rcases (show k=0∨k=1∨k=2∨k=3 by omega) with rfl | rfl | rfl | rfl <;> decide
       obtain ⟨v,hve⟩:∃ v,v=beN (b.drop a) k:=⟨_,rfl⟩
       rw [←hve] at hv HX
       have hvl:v<16777216:=by omega
       have HNX:=Lib.hid (show beN (b.drop a) (k+1)=256*v+x by rw [beN,←hve,hxe,getD_drop' b a k hbl])
       have m3:wr.cell? ⟨X,3,none⟩=some (.int .u32 (v:Int)):=HX.out.vx.c9.2.2.2.1
       have f3:=HX.out.vx.free 3
       have kw1:IntKind.i64.wrap ((a:Int)+(k:Int))=(a:Int)+(k:Int):=by rw [IntKind.wrap_i64];omega
       have kw2:IntKind.u32.wrap (256*(v:Int))=256*(v:Int):=by rw [IntKind.wrap_u32];omega
       have kw3:IntKind.u32.wrap (256*(v:Int)+(x:Int))=256*(v:Int)+(x:Int):=by rw [IntKind.wrap_u32];omega
       have kw4:IntKind.u32.wrap (x:Int)=(x:Int):=by rw [IntKind.wrap_u32];omega
       have hg3:(a:Int)+(k:Int)<(L:Int):=by omega
       have hg4:((a:Int)+(k:Int)).toNat=a+k:=by omega
       clear hcell hrd hxe hve hv hv2
       go_upto_region 10 with fail
       go_region
       all_goals
        go_wp2_with fail
        go_roundw
        case rel=>
         refine ⟨k+1,by omega,by go_num,Lib.hid ?_⟩
         rw [HNX.out]
         have zz:=HX.out.ow.setO 3 (.int .u32 ((256*v+x:Nat):Int))
         have h1:=HX.out.setX 3 (.int .u32 ((256*v+x:Nat):Int)) (x':=⟨An,cn,none,0,none,0,⟨q.1,256*v+x,[],0,0,0,[]⟩⟩) rfl ⟨zz.n,zz.d,zz.t,zz.an,zz.ad,zz.at_⟩
         push_cast at h1
         exact h1.far (below_drew1 _)
        case measure=>simp [intOf];omega
      ·have hke:k=4:=by omega
       subst hke
       rw [beN4,List.drop_drop] at HX
       obtain ⟨T,hT⟩:∃ T,T=65536*num2 (b.drop a)+num2 (b.drop (a+2)):=⟨_,rfl⟩
       rw [←hT] at HX
       have HT:=Lib.hid hT
       obtain ⟨n,hn⟩:∃ n,n=num2 (b.drop (a+4)):=⟨_,rfl⟩
       have hn6:n<65536:=by rw [hn];exact num2_le _
       have HN:=Lib.hid hn
       obtain ⟨bq,oq,hA,_,hcell⟩:=(HR.out.goes HX.out.bl).2 (by omega)
       have hbl:a+4+2≤b.length:=by rw [HL.out];omega
       have d0:=hcell (a+4) _ (bc_get b (a+4) (by omega))
       have d1:=hcell (a+5) _ (bc_get b (a+5) (by omega))
       have hx:=(b[a+4]'(by omega)).toNat_lt
       have hy:=(b[a+5]'(by omega)).toNat_lt
       have hnn:n=256*(b[a+4]'(by omega)).toNat+(b[a+5]'(by omega)).toNat:=by rw [hn,num2_drop hbl]
       generalize (b[a+4]'(by omega)).toNat=x at *
       generalize (b[a+5]'(by omega)).toNat=y at *
       have kw3:IntKind.i64.wrap (256*(x:Int))=256*(x:Int):=by rw [IntKind.wrap_i64];omega
       have kw4:IntKind.i64.wrap (256*(x:Int)+(y:Int))=256*(x:Int)+(y:Int):=by rw [IntKind.wrap_i64];omega
       have kw5:IntKind.i64.wrap (x:Int)=(x:Int):=by rw [IntKind.wrap_i64];omega
       have kw6:IntKind.i64.wrap (y:Int)=(y:Int):=by rw [IntKind.wrap_i64];omega
       have kw1:IntKind.i64.wrap ((a:Int)+4)=(a:Int)+4:=by rw [IntKind.wrap_i64];omega
       have kw2:IntKind.i64.wrap ((a:Int)+5)=(a:Int)+5:=by rw [IntKind.wrap_i64];omega
       have hg2:(a:Int)+4<(L:Int):=by omega
       have hg3:(a:Int)+5<(L:Int):=by omega
       have hg4:((a:Int)+4).toNat=a+4:=by omega
       have hg5:((a:Int)+5).toNat=a+5:=by omega
       have hnI:256*(x:Int)+(y:Int)=(n:Int):=by omega
       have hnI':=hnI
       clear hnn hn hT hcell
       go_upto_region 11 with fail
       go_cut [11] from 34 to 63 (fun v11 wx=>v11 = .int .i64 (n:Int)∧Hid (RfX w wx Q X ⟨An,cn,q.1⟩ ⟨An,cn,none,0,none,0,⟨q.1,T,[],0,0,0,[]⟩⟩))
       case first=>
        subst hA
        go_quiet (fail)
        go_wp2_with fail
        go_meet
        exact ⟨rfl,Lib.hid (HX.out.far (below_drewN (Below.refl _ wr) nq))⟩
       case rest=>
        clear HX d0 d1 hA
        obtain ⟨rfl,HX0⟩:=hcut
        obtain ⟨a6,ha6⟩:∃ a6,a6=a+6:=⟨_,rfl⟩
        have hA6:(a:Int)+6=(a6:Int):=by omega
        obtain ⟨en,hen⟩:∃ en,en=a6+n:=⟨_,rfl⟩
        have hEn:(a6:Int)+(n:Int)=(en:Int):=by omega
        have a6l:a6≤L:=by omega
        have HA6:=Lib.hid ha6
        have HEN:=Lib.hid hen
        have ha6a:a+6≤a6:=by omega
        have ha6b:a6≤a+6:=by omega
        have hena:a6+n≤en:=by omega
        have henb:en≤a6+n:=by omega
        clear ha6 hen
        by_cases hfit:en≤L
        ·have hfit':(en:Int)≤(L:Int):=by omega
         have c1:wc.cell? ⟨Q,1,none⟩=some (.int .u16 (q.1.ty:Int)):=HX0.out.vq.cell 1
         by_cases h33:q.1.ty=33
         ·have h33':(q.1.ty:Int)=33:=by omega
          by_cases h7:n<7
          ·have h7':(n:Int)<7:=by omega
           have hz1:z.2.e=172:=by
            rw [HZ.out,rR_f2 HQA.out (by rw [HL.out];omega),←HN.out,rTake_fit (by rw [HL.out];omega)]
            unfold rKk
            rw [if_neg (by simp),if_neg (by simp [h33]),if_pos (by rw [List.length_take];omega)]
           have hzn:nxS z.2=0:=nxS_no (by rw [hz1];simp)
           have HOK:rfOk z zR:=⟨fun h=>(by rw [hz1] at h;cases h),fun _=>rfl⟩
           have HZ1:=Lib.hid hz1
           have HZN:=Lib.hid hzn
           clear hz1 hzn
           go_wp2_with (refine wpList_store_row rfl 42 _ _ rfl w.heap.size _ rfl rfl _ _ HX0.out.vr (by kernel_rfl) rfl (by kernel_rfl) ?_)
           refine bodyPost_ret (resRf Tryz.results135 _ _ w.heap.size _ _ _ _ rfl rfl rfl (HX0.out.vr.row zRR.cells) rfl) rfl ?_
           exact ⟨zRR,HOK,by rw [HZ1.out,HZN.out];rfl,⟨0,zRR_ow _ _ _⟩,HX0.out.bl.trans ((Only.row _ _ _).below (Nat.le_refl _) HX0.out.bl.size)⟩
          ·have h7':(7:Int)≤(n:Int):=by omega
           obtain ⟨a8,ha8⟩:∃ a8,a8=a6+2:=⟨_,rfl⟩
           obtain ⟨a10,ha10⟩:∃ a10,a10=a6+4:=⟨_,rfl⟩
           obtain ⟨a12,ha12⟩:∃ a12,a12=a6+6:=⟨_,rfl⟩
           have hA8:(a6:Int)+2=(a8:Int):=by omega
           have hA10:(a6:Int)+4=(a10:Int):=by omega
           have hA12:(a6:Int)+6=(a12:Int):=by omega
           obtain ⟨t,ht⟩:∃ t,t=rName (b.take en) ⟨a12,0⟩:=⟨_,rfl⟩
           have hzz:z=(⟨q.1,T,[],num2 (b.drop a6),num2 (b.drop a8),num2 (b.drop a10),t.1⟩,if t.2.e≠0∨t.2.at_≠en then ⟨en,172⟩ else ⟨en,0⟩):=by
            rw [HZ.out,rR_f3 HQA.out HN.out (by rw [HL.out];omega) h33 (by omega) t (by rw [ht,HEN.out,ha12,HA6.out]),←HT.out,HEN.out,ha10,ha8,HA6.out]
           have hel:(b.take en).length=en:=by rw [List.length_take,HL.out];omega
           have HEL:=Lib.hid hel
           have HTT:=Lib.hid ht
           have a8a:a6+2≤a8:=by omega
           have a8b:a8≤a6+2:=by omega
           have a10a:a6+4≤a10:=by omega
           have a10b:a10≤a6+4:=by omega
           have a12a:a6+6≤a12:=by omega
           have a12b:a12≤a6+6:=by omega
           have HZZ:=Lib.hid hzz
           clear ha8 ha10 ha12 ht hel hzz
           have ksl:∀ W,(Instr.slice 22 (.slice A L c) none (some (.int .i64 (en:Int))) none).run Tryz.prog W = .ok (.slice A en c) W:=fun W=>run_sl_h W _ 5 Tryz.underlying22 (fun w=>by kernel_rfl) A L c en (by omega)
           have tok1:True:=trivial
           have tok2:True:=trivial
           have tok3:True:=trivial
           go_upto_region 25 with (first
            | (go_at_call 142
               refine (rread_at A c en (b.take en) a12 t HTT.out _ HEL.out ((HR.out.goes HS5.out.bl).preB hfit) (by omega) (by omega) (by omega)).mono ?_
               rintro e w6 ⟨A6,c6,rfl,hn6',hb6⟩
               have HX6:=Lib.hid (HS5.out.far hb6))
            | (go_at_call 133
               have _t:=tok3
               refine (fnum_at A c L b a10 (num2 (b.drop a10),⟨a10+2,0⟩) (rNum_fit (by rw [HL.out];omega)).symm _ HL.out (HR.out.goes HS4.out.bl) hc hb (by omega)).mono ?_
               rintro e w5 ⟨rfl,hb5⟩
               have HX5:=Lib.hid (HS4.out.far hb5)
               have y7:w5.cell? ⟨X,7,none⟩=some (.int .u16 0):=HX5.out.vx.cell 7
               have f7:=HX5.out.vx.free 7
               have zz:=HX5.out.ow.setO 7 (.int .u16 (num2 (b.drop a10):Int))
               have HS5:=Lib.hid (HX5.out.setX 7 (.int .u16 (num2 (b.drop a10):Int)) (x':=⟨An,cn,none,0,none,0,⟨q.1,T,[],num2 (b.drop a6),num2 (b.drop a8),num2 (b.drop a10),[]⟩⟩) rfl ⟨zz.n,zz.d,zz.t,zz.an,zz.ad,zz.at_⟩)
               clear zz tok3)
            | (go_at_call 133
               have _t:=tok2
               refine (fnum_at A c L b a8 (num2 (b.drop a8),⟨a8+2,0⟩) (rNum_fit (by rw [HL.out];omega)).symm _ HL.out (HR.out.goes HS3.out.bl) hc hb (by omega)).mono ?_
               rintro e w4 ⟨rfl,hb4⟩
               have HX4:=Lib.hid (HS3.out.far hb4)
               have y6:w4.cell? ⟨X,6,none⟩=some (.int .u16 0):=HX4.out.vx.cell 6
               have f6:=HX4.out.vx.free 6
               have zz:=HX4.out.ow.setO 6 (.int .u16 (num2 (b.drop a8):Int))
               have HS4:=Lib.hid (HX4.out.setX 6 (.int .u16 (num2 (b.drop a8):Int)) (x':=⟨An,cn,none,0,none,0,⟨q.1,T,[],num2 (b.drop a6),num2 (b.drop a8),0,[]⟩⟩) rfl ⟨zz.n,zz.d,zz.t,zz.an,zz.ad,zz.at_⟩)
               clear zz tok2)
            | (go_at_call 133
               have _t:=tok1
               refine (fnum_at A c L b a6 (num2 (b.drop a6),⟨a6+2,0⟩) (rNum_fit (by rw [HL.out];omega)).symm _ HL.out (HR.out.goes HX0.out.bl) hc hb (by omega)).mono ?_
               rintro e w3 ⟨rfl,hb3⟩
               have HX3:=Lib.hid (HX0.out.far hb3)
               have y5:w3.cell? ⟨X,5,none⟩=some (.int .u16 0):=HX3.out.vx.cell 5
               have f5:=HX3.out.vx.free 5
               have zz:=HX3.out.ow.setO 5 (.int .u16 (num2 (b.drop a6):Int))
               have HS3:=Lib.hid (HX3.out.setX 5 (.int .u16 (num2 (b.drop a6):Int)) (x':=⟨An,cn,none,0,none,0,⟨q.1,T,[],num2 (b.drop a6),0,0,[]⟩⟩) rfl ⟨zz.n,zz.d,zz.t,zz.an,zz.ad,zz.at_⟩)
               clear zz tok1))
           have hX6:=HX6.out
           have y8:w6.cell? ⟨X,8,none⟩=some (.slice none 0 0):=HX6.out.vx.cell 8
           have f8:=HX6.out.vx.free 8
           have hbs6:X<w6.heap.size:=HX6.out.vx.lt
           by_cases hte:t.2.e=0
           ·have oa:((t.2.e:Int) != 0)=false:=by simp [hte]
            by_cases hta:t.2.at_=en
            ·have ob:((t.2.at_:Int) != (en:Int))=false:=by simp [hta]
             have hzz:z=(⟨q.1,T,[],num2 (b.drop a6),num2 (b.drop a8),num2 (b.drop a10),t.1⟩,⟨en,0⟩):=by rw [HZZ.out,if_neg (by rw [hte,hta];simp)]
             have HOK:=Lib.hid (show rfOk z ⟨q.1,T,[],num2 (b.drop a6),num2 (b.drop a8),num2 (b.drop a10),t.1⟩ from ⟨fun _=>by rw [hzz],fun h=>absurd (by rw [hzz]) h⟩)
             have HZ1:=Lib.hid (show z.2.e=0 by rw [hzz])
             have HZN:=Lib.hid (show nxS z.2=en by rw [hzz];rfl)
             clear hzz hte hta
             have hX5:=HS5.out.vx.lt
             have hlo5:=HS5.out.lo
             have h9:=(ow_setN hn6' (q:=X) (fun a ha=>by have:=ow_blk hn6' a ha;omega) 8 (.slice A6 t.1.length c6)).mono (base':=w.heap.size+1) (by omega)
             have zz:=HX6.out.ow.setO 8 (.slice A6 t.1.length c6)
             have HX8:=Lib.hid (HX6.out.setX 8 (.slice A6 t.1.length c6) (x':=⟨An,cn,none,0,A6,c6,⟨q.1,T,[],num2 (b.drop a6),num2 (b.drop a8),num2 (b.drop a10),t.1⟩⟩) rfl ⟨zz.n,zz.d,h9,zz.an,zz.ad,fun a ha=>by (have:=ow_blk hn6' a ha;omega)⟩)
             clear h9 zz hX6 hX5 hlo5
             go_wp2_with (first
              | (refine wpList_store_row rfl 42 _ _ rfl w.heap.size _ rfl rfl _ _ HX8.out.vr (by kernel_rfl) rfl (by kernel_rfl) ?_)
              | (refine wpList_load_row rfl 42 _ rfl X rfl _ _ _ _ HX8.out.vx Tryz.underlying42 rfl (by kernel_rfl) ?_))
             obtain ⟨F1,F2,F3⟩:=HX8.out.fin _ HX8.out.ow
             refine bodyPost_ret (resRf Tryz.results135 _ _ w.heap.size _ _ _ _ rfl rfl rfl F1 rfl) rfl ?_
             exact ⟨_,HOK.out,by rw [HZ1.out,HZN.out];rfl,⟨X,F2⟩,F3⟩
            ·have ob:((t.2.at_:Int) != (en:Int))=true:=by rw [bne_iff_ne];omega
             have hz1:z.2.e=172:=by rw [HZZ.out,if_pos (Or.inr hta)]
             have hzn:nxS z.2=0:=nxS_no (by rw [hz1];simp)
             have HOK:rfOk z zR:=⟨fun h=>(by rw [hz1] at h;cases h),fun _=>rfl⟩
             have HZ1:=Lib.hid hz1
             have HZN:=Lib.hid hzn
             clear hz1 hzn
             go_wp2_with (refine wpList_store_row rfl 42 _ _ rfl w.heap.size _ rfl rfl _ _ HX6.out.vr (by kernel_rfl) rfl (by kernel_rfl) ?_)
             refine bodyPost_ret (resRf Tryz.results135 _ _ w.heap.size _ _ _ _ rfl rfl rfl (HX6.out.vr.row zRR.cells) rfl) rfl ?_
             exact ⟨zRR,HOK,by rw [HZ1.out,HZN.out];rfl,⟨0,zRR_ow _ _ _⟩,HX6.out.bl.trans ((Only.row _ _ _).below (Nat.le_refl _) HX6.out.bl.size)⟩
           ·have oa:((t.2.e:Int) != 0)=true:=by rw [bne_iff_ne];omega
            have hz1:z.2.e=172:=by rw [HZZ.out,if_pos (Or.inl hte)]
            have hzn:nxS z.2=0:=nxS_no (by rw [hz1];simp)
            have HOK:rfOk z zR:=⟨fun h=>(by rw [hz1] at h;cases h),fun _=>rfl⟩
            have HZ1:=Lib.hid hz1
            have HZN:=Lib.hid hzn
            clear hz1 hzn
            go_wp2_with (refine wpList_store_row rfl 42 _ _ rfl w.heap.size _ rfl rfl _ _ HX6.out.vr (by kernel_rfl) rfl (by kernel_rfl) ?_)
            refine bodyPost_ret (resRf Tryz.results135 _ _ w.heap.size _ _ _ _ rfl rfl rfl (HX6.out.vr.row zRR.cells) rfl) rfl ?_
            exact ⟨zRR,HOK,by rw [HZ1.out,HZN.out];rfl,⟨0,zRR_ow _ _ _⟩,HX6.out.bl.trans ((Only.row _ _ _).below (Nat.le_refl _) HX6.out.bl.size)⟩
         ·have h33':¬ (q.1.ty:Int)=33:=by omega
          obtain ⟨dd,hdd⟩:∃ dd,dd=(b.drop a6).take n:=⟨_,rfl⟩
          have hdl:dd.length=n:=by rw [hdd,List.length_take,List.length_drop,HL.out];omega
          have hzz:z=(⟨q.1,T,dd,0,0,0,[]⟩,⟨en,0⟩):=by
           rw [HZ.out,rR_f2 HQA.out (by rw [HL.out];omega),←HN.out,rTake_fit (by rw [HL.out];omega)]
           unfold rKk
           rw [if_neg (by simp),if_pos h33,←HT.out,hdd,HEN.out,HA6.out]
          have HOK:=Lib.hid (show rfOk z ⟨q.1,T,dd,0,0,0,[]⟩ from ⟨fun _=>by rw [hzz],fun h=>absurd (by rw [hzz]) h⟩)
          have HZ1:=Lib.hid (show z.2.e=0 by rw [hzz])
          have HZN:=Lib.hid (show nxS z.2=en by rw [hzz];rfl)
          obtain ⟨i0,hi,hz0,hz1,hz2⟩:=info_parts Tryz.infoByte
          have ksl:∀ W,(Instr.slice 22 (.slice A L c) (some (.int .i64 (a6:Int))) (some (.int .i64 (en:Int))) none).run Tryz.prog W = .ok (.slice (cutA A c a6) n (c - a6)) W:=fun W=>by
           have:=run_sl_lh W 22 5 Tryz.underlying22 (fun w=>by kernel_rfl) A L c a6 en (by omega) (by omega)
           rwa [show en - a6=n by omega] at this
          have hrd:Rd wc wc.heap.size (cutA A c a6) n (bc dd):=by
           have:=(HR.out.goes HX0.out.bl).cut (k:=a6) (m:=en) (cap:=c) (by omega) (by omega) hc
           rwa [show en - a6=n by omega,show ((bc b).drop a6).take n=bc dd by rw [hdd];simp [bc,List.map_drop,List.map_take]] at this
          have HRD:=Lib.hid hrd
          have HDL:=Lib.hid hdl
          clear hrd hdl hzz hdd
          go_upto_region 17 with fail
          have hs0:=HX0.out.bl.size
          have hlX:=HX0.out.vx.lt
          have hlo:=HX0.out.lo
          go_wp2_with (first
           | (refine wpList_store_row rfl 42 _ _ rfl w.heap.size _ rfl rfl _ _ HX6.out.vr (by kernel_rfl) rfl (by kernel_rfl) ?_)
           | (refine wpList_load_row rfl 42 _ rfl X rfl _ _ _ _ HX6.out.vx Tryz.underlying42 rfl (by kernel_rfl) ?_)
           | (at_builtin
              refine wpList_app _ rfl _ _ _ _ rfl wc.heap.size 5 i0 (.int .u8 0) 1 Tryz.underlying22 hi hz0 hz1 hz2 rfl (Nat.le_refl _) _ [] (Ow.lit0 wc _ _ (Nat.le_refl _)) rfl n (bc dd) (Rd.src (HRD.out.goes (below_new wc _)) Tryz.underlying22 (bc_one _)) (by simp;omega) (by simp) ?_
              intro v3 w3 hown3 hgr3 hsz3
              rw [List.nil_append] at hown3
              obtain ⟨A3,c3,rfl,hc3,hr3⟩:=hown3.form6 n (by rw [bc_length];exact HDL.out)
              have hb3:Below wc.heap.size wc w3:=(below_new wc _).trans (hgr3.below (fun g hg=>by simp [Value.ownBlock] at hg;omega) (by simp))
              have HX3:=Lib.hid (HX0.out.far hb3)
              have y4:w3.cell? ⟨X,4,none⟩=some (.slice none 0 0):=HX3.out.vx.cell 4
              have f4:=HX3.out.vx.free 4
              have zz:=HX3.out.ow.setO 4 (.slice A3 n c3)
              have HX6:=Lib.hid (HX3.out.setX 4 (.slice A3 n c3) (x':=⟨An,cn,A3,c3,none,0,⟨q.1,T,dd,0,0,0,[]⟩⟩) (by have e:=HDL.out;unfold RR.cells;dsimp only [List.set];rw [e]) ⟨zz.n,by
               have h9:=(ow_setN hown3 (q:=X) (fun a ha=>by have:=ow_blk hown3 a ha;omega) 4 (.slice A3 n c3)).mono (show w.heap.size+1≤wc.heap.size by omega)
               show Ow _ _ _ (.slice A3 dd.length c3) _
               rw [HDL.out];exact h9,zz.t,zz.an,fun a ha=>by (have:=ow_blk hown3 a ha;omega),zz.at_⟩)
              clear zz))
          obtain ⟨F1,F2,F3⟩:=HX6.out.fin _ HX6.out.ow
          refine bodyPost_ret (resRf Tryz.results135 _ _ w.heap.size _ _ _ _ rfl rfl rfl F1 rfl) rfl ?_
          exact ⟨_,HOK.out,by rw [HZ1.out,HZN.out];rfl,⟨X,F2⟩,F3⟩
        ·have hfit':(L:Int)<(en:Int):=by omega
         have hz1:z.2.e=171:=by
          rw [HZ.out,rR_f2 HQA.out (by rw [HL.out];omega),←HN.out,rKk_stay (by rw [rTake_no (by rw [HL.out];omega)];simp),rTake_no (by rw [HL.out];omega)]
         have hzn:nxS z.2=0:=nxS_no (by rw [hz1];simp)
         have HOK:rfOk z zR:=⟨fun h=>(by rw [hz1] at h;cases h),fun _=>rfl⟩
         have HZ1:=Lib.hid hz1
         have HZN:=Lib.hid hzn
         clear hz1 hzn
         go_wp2_with (refine wpList_store_row rfl 42 _ _ rfl w.heap.size _ rfl rfl _ _ HX0.out.vr (by kernel_rfl) rfl (by kernel_rfl) ?_)
         refine bodyPost_ret (resRf Tryz.results135 _ _ w.heap.size _ _ _ _ rfl rfl rfl (HX0.out.vr.row zRR.cells) rfl) rfl ?_
         exact ⟨zRR,HOK,by rw [HZ1.out,HZN.out];rfl,⟨0,zRR_ow _ _ _⟩,HX0.out.bl.trans ((Only.row _ _ _).below (Nat.le_refl _) HX0.out.bl.size)⟩
   ·have hz1:z.2.e=171:=by rw [HZ.out];exact rR_f1 HQA.out (by rw [HL.out];exact h6)
    have h6':(L:Int)<(a:Int)+6:=by omega
    have hzn:nxS z.2=0:=nxS_no (by rw [hz1];simp)
    have HOK:rfOk z zR:=⟨fun h=>(by rw [hz1] at h;cases h),fun _=>rfl⟩
    have HZ1:=Lib.hid hz1
    have HZN:=Lib.hid hzn
    clear hz1 hzn
    go_wp2_with (refine wpList_store_row rfl 42 _ _ rfl w.heap.size _ rfl rfl _ _ HVR.out (by kernel_rfl) rfl (by kernel_rfl) ?_)
    refine bodyPost_ret (resRf Tryz.results135 _ _ w.heap.size _ _ _ _ rfl rfl rfl (HVR.out.row zRR.cells) rfl) rfl ?_
    exact ⟨zRR,HOK,by rw [HZ1.out,HZN.out];rfl,⟨0,zRR_ow _ _ _⟩,HB.out.trans ((Only.row _ _ _).below (Nat.le_refl _) HB.out.size)⟩
  ·have hz1:z.2=q.2:=by rw [HZ.out,rR_f0 (by rw [←HQ.out];exact h0),←HQ.out]
   have h0':¬ (q.2.e:Int)=0:=by omega
   have h0b:((q.2.e:Int) != 0)=true:=by rw [bne_iff_ne];omega
   have hzn:nxS z.2=0:=by rw [hz1];exact nxS_no h0
   have HOK:rfOk z zR:=⟨fun h=>absurd (by rw [←hz1];exact h) h0,fun _=>rfl⟩
   have HZ1:=Lib.hid (show z.2.e=q.2.e by rw [hz1])
   have HZN:=Lib.hid hzn
   clear hz1 hzn
   go_wp2_with (refine wpList_store_row rfl 42 _ _ rfl w.heap.size _ rfl rfl _ _ HVR.out (by kernel_rfl) rfl (by kernel_rfl) ?_)
   refine bodyPost_ret (resRf Tryz.results135 _ _ w.heap.size _ _ _ _ rfl rfl rfl (HVR.out.row zRR.cells) rfl) rfl ?_
   exact ⟨zRR,HOK,by rw [HZ1.out,HZN.out];rfl,⟨0,zRR_ow _ _ _⟩,HB.out.trans ((Only.row _ _ _).below (Nat.le_refl _) HB.out.size)⟩
open Go.RowKit
theorem Tryz.infoQf:(Tryz.prog.info? 40).map (fun i=>(i.zero,i.size,i.bytes))=some (some (.agg #[.slice none 0 0,.int .u16 0,.int .u16 0]),3,32):=by kernel_rfl
theorem Tryz.infoRf:(Tryz.prog.info? 42).map (fun i=>(i.zero,i.size,i.bytes))=some (some (.agg zRR.cells.toArray),9,96):=by kernel_rfl
def rwQf (A:Option Addr) (c:Nat) (l:List QR):Ob:=⟨40,3,.slice A l.length c,l.length,qcs l⟩
def rwRf (A:Option Addr) (c:Nat) (l:List RR):Ob:=⟨42,9,.slice A l.length c,l.length,rcs l⟩
structure MOwF (w:World) (base:Nat) (x:MR):Prop where
 q:(rwQf x.qA x.qc x.qs).ok w base
 a:(rwRf x.aA x.ac x.r0).ok w base
 b:(rwRf x.bA x.bc x.r1).ok w base
 c:(rwRf x.cA x.cc x.r2).ok w base
 n:∀ o,DQ x.qs o→o.ok w base
 r0:∀ o,DR x.r0 o→o.ok w base
 r1:∀ o,DR x.r1 o→o.ok w base
 r2:∀ o,DR x.r2 o→o.ok w base
theorem zMR_owF (w:World) (base:Nat):MOwF w base zMR:=
 ⟨OwM.nil _ _ _ _,OwM.nil _ _ _ _,OwM.nil _ _ _ _,OwM.nil _ _ _ _,fun o ⟨x,hx,_⟩=>(by cases hx),fun o ⟨x,hx,_⟩=>(by cases hx),fun o ⟨x,hx,_⟩=>(by cases hx),fun o ⟨x,hx,_⟩=>(by cases hx)⟩
theorem rwQf_rd {w:World} {base:Nat} {A:Option Addr} {c:Nat} {l:List QR} (h:(rwQf A c l).ok w base) (hn:∀ o,DQ l o→o.ok w base) (hr:∀ x∈l,rightN x.q.nm=true) (hk:∀ x∈l,okQ x.q) (hl:l.length≤256):QsRd w w.heap.size A c l.length l:=by
 have h1:OwM w base 40 3 (.slice A l.length c) l.length (qcs l):=h
 exact ⟨h1.rd,rfl,h1.cap,by omega,fun x hx=>⟨nmO_rd (hn _ ⟨x,hx,rfl⟩) (right_small (hr x hx)),hk x hx⟩⟩
theorem rwRf_rd {w:World} {base:Nat} {A:Option Addr} {c:Nat} {l:List RR} (h:(rwRf A c l).ok w base) (hn:∀ o,DR l o→o.ok w base) (hr:∀ x∈l,rightR x.r=true) (hk:∀ x∈l,okR x.r) (hl:l.length≤256):RsRd w w.heap.size A c l.length l:=by
 have h1:OwM w base 42 9 (.slice A l.length c) l.length (rcs l):=h
 refine ⟨h1.rd,rfl,h1.cap,by omega,fun x hx=>?_⟩
 obtain ⟨k1,k2,k3,k4,k5⟩:=hk x hx
 exact ⟨⟨nmO_rd (hn _ ⟨x,hx,Or.inl rfl⟩) (right_small (rightR_nm (hr x hx))),k1⟩,daO_rd (hn _ ⟨x,hx,Or.inr (Or.inl rfl)⟩) (by have:=rightR_data (hr x hx);omega),nmO_rd (hn _ ⟨x,hx,Or.inr (Or.inr rfl)⟩) (rightR_tg (hr x hx)),k2,k3,k4,k5⟩
theorem MOwF.rd {w:World} {base:Nat} {x:MR} (h:MOwF w base x) (hr:rightM x.m=true) (hk:okM x.m) (hn:x.m.num≤256):MRd w w.heap.size x:=by
 have hn':x.qs.length+x.r0.length+x.r1.length+x.r2.length≤256:=by simpa [Ms.num,MR.m] using hn
 obtain ⟨a0,a1,a2,a3⟩:=resW hr
 exact ⟨hk.id,hk.fl,rwQf_rd h.q h.n a0 (fun y hy=>hk.qs _ (List.mem_map.2 ⟨y,hy,rfl⟩)) (by omega),rwRf_rd h.a h.r0 a1 (fun y hy=>hk.r0 _ (List.mem_map.2 ⟨y,hy,rfl⟩)) (by omega),rwRf_rd h.b h.r1 a2 (fun y hy=>hk.r1 _ (List.mem_map.2 ⟨y,hy,rfl⟩)) (by omega),rwRf_rd h.c h.r2 a3 (fun y hy=>hk.r2 _ (List.mem_map.2 ⟨y,hy,rfl⟩)) (by omega)⟩
theorem readF_mrd {w:World} {base:Nat} {x:MR} {b:List UInt8} (h:MOwF w base x) (hx:x.m=(readM b).1):MRd w w.heap.size x:=by
 by_cases h0:(readM b).2=0
 ·obtain ⟨h1,h2,h3,_⟩:=read_ok h0
  exact h.rd (by rw [hx];exact h1) (by rw [hx];exact h2) (by rw [hx];exact h3)
 ·have hz:=read_err h0
  exact h.rd (by rw [hx,hz];rfl) (by rw [hx,hz];exact okM_z) (by rw [hx,hz];simp [Ms.num,zM])
theorem rName_stay {b:List UInt8} {s:St} (h:s.e≠0):(rName b s).2=s:=by unfold rName;rw [if_neg h]
theorem rQ_stay {b:List UInt8} {s:St} (h:s.e≠0):(rQ b s).2=s:=by
 show (rNum b (rNum b (rName b s).2).2).2=s
 rw [rName_stay h,rNum_stay h,rNum_stay h]
theorem rR_stay {b:List UInt8} {s:St} (h:s.e≠0):(rR b s).2=s:=by
 have h1:=rQ_stay (b:=b) h
 rw [rR_f0 (by rw [h1];exact h),h1]
attribute [local irreducible] rR rQ in
theorem rQs_stay {b:List UInt8} {s:St} {k:Nat} (h:(rQs b s k).2.e≠0):∀ n,(rQs b s (k+n)).2=(rQs b s k).2
 | 0=>rfl
 | n+1=>by
   show (rQ b (rQs b s (k+n)).2).2=_
   rw [rQs_stay h n,rQ_stay h]
attribute [local irreducible] rR rQ in
theorem rRs_stay {b:List UInt8} {s:St} {k:Nat} (h:(rRs b s k).2.e≠0):∀ n,(rRs b s (k+n)).2=(rRs b s k).2
 | 0=>rfl
 | n+1=>by
   show (rR b (rRs b s (k+n)).2).2=_
   rw [rRs_stay h n,rR_stay h]
attribute [local irreducible] rR rQ in
theorem rLs_stay {b:List UInt8} {s:St} {cs:List Nat} {k:Nat} (h:(rLs b s cs k).2.e≠0):∀ n,(rLs b s cs (k+n)).2=(rLs b s cs k).2
 | 0=>rfl
 | n+1=>by
   show (rRs b (rLs b s cs (k+n)).2 _).2=_
   rw [rLs_stay h n]
   have h2:(rRs b (rLs b s cs k).2 0).2.e≠0:=h
   have:=rRs_stay h2 (cs.getD (k+n) 0)
   rwa [Nat.zero_add] at this
def hcs (b:List UInt8) (k:Nat):List Value:=(List.range 6).map fun j=>if j<k then .int .u16 (hd b j:Int) else .int .u16 0
theorem hcs_set (b:List UInt8) (k:Nat) (hk:k<6):(hcs b k).set k (.int .u16 (hd b k:Int))=hcs b (k+1):=by
 rcases (show k=0∨k=1∨k=2∨k=3∨k=4∨k=5 by omega) with rfl | rfl | rfl | rfl | rfl | rfl <;> rfl
theorem hcs_get (b:List UInt8) (k:Nat) (hk:k<6):(hcs b (k+1))[k]? = some (.int .u16 (hd b k:Int)):=by
 rcases (show k=0∨k=1∨k=2∨k=3∨k=4∨k=5 by omega) with rfl | rfl | rfl | rfl | rfl | rfl <;> rfl
theorem hcs_free (b:List UInt8) (k:Nat) (hk:k<6):∃ v,(hcs b k)[k]? = some v:=by
 rcases (show k=0∨k=1∨k=2∨k=3∨k=4∨k=5 by omega) with rfl | rfl | rfl | rfl | rfl | rfl <;> exact ⟨_,rfl⟩
def smH (b:List UInt8):Nat→Nat
 | 0=>0
 | k+1=>if 1<k then smH b k+hd b k else smH b k
theorem smH6 (b:List UInt8):smH b 6=hd b 2+hd b 3+hd b 4+hd b 5:=by simp [smH]
theorem smH_le (b:List UInt8):∀ k,smH b k≤65536*k
 | 0=>by simp [smH]
 | k+1=>by
   have:=smH_le b k
   have:=hd_lt b k
   unfold smH
   split <;> omega
structure RfM (w0 w:World) (H M base:Nat) (mc hc:List Value):Prop where
 vr:Vx w w0.heap.size 47 zM6
 vh:Vx w H 201 hc
 vm:Vx w M 47 mc
 bl:Below w0.heap.size w0 w
 lo:w0.heap.size<H∧H<M
 hi:M<base∧base≤w.heap.size
section
variable {w0 w w':World} {H M base:Nat} {mc hc:List Value}
theorem RfM.far (h:RfM w0 w H M base mc hc) (hb:Below w.heap.size w w'):RfM w0 w' H M base mc hc:=
 ⟨h.vr.below hb h.vr.lt,h.vh.below hb h.vh.lt,h.vm.below hb h.vm.lt,h.bl.trans (hb.mono h.bl.size),h.lo,⟨h.hi.1,Nat.le_trans h.hi.2 hb.size⟩⟩
theorem RfM.gr {v v':Value} (h:RfM w0 w H M base mc hc) (hg:Gr w w' v v') (hv:∀ q,v.ownBlock=some q→base≤q):RfM w0 w' H M base mc hc:=by
 have hl:=h.lo
 have hh:=h.hi
 have hb:Below base w w':=hg.below hv hh.2
 exact ⟨h.vr.below hb (by omega),h.vh.below hb (by omega),h.vm.below hb hh.1,h.bl.trans (hb.mono (by omega)),hl,⟨hh.1,Nat.le_trans hh.2 hb.size⟩⟩
theorem RfM.setM (h:RfM w0 w H M base mc hc) (k:Nat) (u:Value):RfM w0 (w.setCell ⟨M,k,none⟩ u) H M base (mc.set k u) hc:=by
 have hl:=h.lo
 have hh:=h.hi
 exact ⟨h.vr.setO (by omega) _ _,h.vh.setO (by omega) _ _,h.vm.set_ k u,h.bl.setCell (by show w0.heap.size≤M;omega) u,hl,⟨hh.1,by simpa using hh.2⟩⟩
end
theorem newrow {w w4:World} {e:TypeId} {zs cs:Array Value} (h:(w.alloc (.cells zs e)).setRow w.heap.size cs=w4):Below w.heap.size w w4∧Vx w4 w.heap.size e cs.toList:=by
 subst h
 refine ⟨(below_new w _).trans ((Only.row _ _ _).below (Nat.le_refl _) (by simp)),?_⟩
 have:=(Vx.new w e zs.toList).row cs.toList
 simpa using this
def lenAt (w:World) (g k:Nat):Nat:=match w.cell? ⟨g,k,none⟩ with | some (.slice _ n _)=>n | _=>0
theorem lenAt_of {w:World} {g k n c:Nat} {A:Option Addr} (h:w.cell? ⟨g,k,none⟩=some (.slice A n c)):lenAt w g k=n:=by unfold lenAt;rw [h]
theorem rR_le {b:List UInt8} {P:Nat} (hP:P≤b.length) (h:(rR b ⟨P,0⟩).2.e=0):(rR b ⟨P,0⟩).2.at_≤b.length:=
 (lc_r b b ⟨P,0⟩ ⟨[],by simp⟩ (fun _=>hP) h).2.2
attribute [local irreducible] rR rQ in
theorem rRs_to {b:List UInt8} {S:St} {j P:Nat} {z:Rc × St} (h:(rRs b S j).2=⟨P,0⟩) (hz:z=rR b ⟨P,0⟩) (h0:z.2.e=0):(rRs b S (j+1)).2=⟨z.2.at_,0⟩:=by
 show (rR b (rRs b S j).2).2=_
 rw [h,←hz]
 obtain ⟨z1,a,e⟩:=z
 simp only at h0
 subst h0
 rfl
attribute [local irreducible] rR rQ in
theorem rRs_err {b:List UInt8} {S:St} {j P:Nat} {z:Rc × St} (h:(rRs b S j).2=⟨P,0⟩) (hz:z=rR b ⟨P,0⟩):(rRs b S (j+1)).2=z.2:=by
 show (rR b (rRs b S j).2).2=_
 rw [h,←hz]
attribute [local irreducible] rR rQ in
theorem rRs_map {b:List UInt8} {S:St} {j P:Nat} {z:Rc × St} {l:List RR} {x:RR} (h:(rRs b S j).2=⟨P,0⟩) (hz:z=rR b ⟨P,0⟩) (hl:l.map RR.r=(rRs b S j).1) (hx:x.r=z.1):(l++[x]).map RR.r=(rRs b S (j+1)).1:=by
 rw [List.map_append,hl]
 show _=(rRs b S j).1++[(rR b (rRs b S j).2).1]
 rw [h,←hz,←hx];rfl
attribute [local irreducible] rR rQ in
theorem rLs_to {b:List UInt8} {S:St} {cs:List Nat} {i j:Nat} {Si:St} (hS:Si=(rLs b S cs i).2) (hj:j=cs.getD i 0) {P:Nat} (h:(rRs b Si j).2=⟨P,0⟩):(rLs b S cs (i+1)).2=⟨P,0⟩:=by
 show (rRs b (rLs b S cs i).2 (cs.getD i 0)).2=_
 rw [←hS,←hj,h]
attribute [local irreducible] rR rQ in
theorem rLs_map {b:List UInt8} {S:St} {cs:List Nat} {i j:Nat} {Si:St} {rs:List RW} {x:RW} (hS:Si=(rLs b S cs i).2) (hj:j=cs.getD i 0) (hl:rs.map (fun r=>r.l.map RR.r)=(rLs b S cs i).1) (hx:x.l.map RR.r=(rRs b Si j).1):(rs++[x]).map (fun r=>r.l.map RR.r)=(rLs b S cs (i+1)).1:=by
 rw [List.map_append,hl]
 show _=(rLs b S cs i).1++[(rRs b (rLs b S cs i).2 (cs.getD i 0)).1]
 rw [←hS,←hj,←hx];rfl
theorem RfM.setS {w0 w:World} {H M base:Nat} {mc hc:List Value} {k:Nat} {u v:Value} (h:RfM w0 w H M base (mc.set k u) hc):RfM w0 (w.setCell ⟨M,k,none⟩ v) H M base (mc.set k v) hc:=by
 have:=h.setM k v
 rwa [set_set_same] at this
theorem Held.recF {wr wq w3 w4 w5:World} {M k:Nat} {D:Ob→Prop} {l3:List RR} {x:RR} {v v5 u:Value} {n O:Nat} {c:Nat} {xs:List Value}
 (HH:Held wr (M+1) (fun o=>D o∨DR l3 o) v) (hO3:OwM wr (M+1) c 9 v n xs) (hdq:Below wr.heap.size wr wq) (hb3:Below wq.heap.size wq w3) (hw3:ROw w3 wq.heap.size O x) (hb4:Below w3.heap.size w3 w4) (hle:M+1≤wr.heap.size) (hsz:wq.heap.size=wr.heap.size) (o:Obj) (hg:Gr (w4.alloc o).drew w5 v v5):Held (w5.setCell ⟨M,k,none⟩ u) (M+1) (fun o=>D o∨DR (l3++[x]) o) v5:=by
 have h0:=(HH.far hdq).far hb3
 have h1:=h0.add (nmO x.A x.c x.r.q.nm) (OwM.mono hw3.n (by omega)) (ne_new hO3 hw3.n (by omega))
 have h2:=h1.add (daO x.dA x.dc x.r.d) (OwM.mono hw3.d (by omega)) (ne_new hO3 hw3.d (by omega))
 have h3:=h2.add (nmO x.tA x.tc x.r.tg) (OwM.mono hw3.t (by omega)) (ne_new hO3 hw3.t (by omega))
 have h4:=((((h3.far hb4).far (below_new w4 o)).far (below_drew1 _)).gr hg).setL (show M<M+1 by omega) k u
 refine h4.mono fun o ho=>?_
 rcases ho with ho | ⟨y,hy,e⟩
 ·exact Or.inr (Or.inr (Or.inr (Or.inl ho)))
 ·rcases List.mem_append.1 hy with hy | hy
  ·exact Or.inr (Or.inr (Or.inr (Or.inr ⟨y,hy,e⟩)))
  ·simp at hy
   subst hy
   rcases e with e | e | e
   ·exact Or.inr (Or.inr (Or.inl e))
   ·exact Or.inr (Or.inl e)
   ·exact Or.inl e
theorem rest_errR {b:List UInt8} {n0 n1 n2 n3 n4 n5 i j:Nat} (hi:i<3) (hj:j<[n3,n4,n5].getD i 0) (h:(rRs b (rLs b (rQs b ⟨12,0⟩ n2).2 [n3,n4,n5] i).2 (j+1)).2.e≠0):readRest b n0 n1 n2 n3 n4 n5=(zM,(rRs b (rLs b (rQs b ⟨12,0⟩ n2).2 [n3,n4,n5] i).2 (j+1)).2.e):=by
 rw [readRest_eq]
 obtain ⟨S0,hS0⟩:∃ S0,S0=(rQs b ⟨12,0⟩ n2).2:=⟨_,rfl⟩
 rw [←hS0] at h ⊢
 obtain ⟨cn,hcn⟩:∃ cn,cn=[n3,n4,n5].getD i 0:=⟨_,rfl⟩
 have e1:(rLs b S0 [n3,n4,n5] (i+1)).2=(rRs b (rLs b S0 [n3,n4,n5] i).2 (j+1)).2:=by
  show (rRs b (rLs b S0 [n3,n4,n5] i).2 ([n3,n4,n5].getD i 0)).2=_
  rw [←hcn] at hj ⊢
  have:=rRs_stay h (cn - (j+1))
  rwa [show j+1+(cn - (j+1))=cn by omega] at this
 have e2:(rLs b S0 [n3,n4,n5] 3).2=(rRs b (rLs b S0 [n3,n4,n5] i).2 (j+1)).2:=by
  have:=rLs_stay (k:=i+1) (by rw [e1];exact h) (3 - (i+1))
  rw [show i+1+(3 - (i+1))=3 by omega] at this
  rw [this,e1]
 simp only [e2,if_neg h]
theorem rest_errQ {b:List UInt8} {n0 n1 n2 n3 n4 n5 k:Nat} (hk:k<n2) (h:(rQs b ⟨12,0⟩ (k+1)).2.e≠0):readRest b n0 n1 n2 n3 n4 n5=(zM,(rQs b ⟨12,0⟩ (k+1)).2.e):=by
 have e1:(rQs b ⟨12,0⟩ n2).2=(rQs b ⟨12,0⟩ (k+1)).2:=by
  have:=rQs_stay h (n2 - (k+1))
  rwa [show k+1+(n2 - (k+1))=n2 by omega] at this
 rw [readRest_eq]
 have e2:(rLs b (rQs b ⟨12,0⟩ n2).2 [n3,n4,n5] 3).2=(rQs b ⟨12,0⟩ (k+1)).2:=by
  have h0:(rLs b (rQs b ⟨12,0⟩ n2).2 [n3,n4,n5] 0).2.e≠0:=by show (rQs b ⟨12,0⟩ n2).2.e≠0;rw [e1];exact h
  have:=rLs_stay h0 3
  rw [Nat.zero_add] at this
  rw [this];exact e1
 simp only [e2,if_neg h]
set_option maxRecDepth 100000 in
set_option maxHeartbeats 16000000 in
theorem fread_at (A:Option Addr) (c:Nat) (b:List UInt8) (w:World) (h:Rd w w.heap.size A b.length (bc b)) (hc:b.length≤c) (hbl:b.length≤140737488355328) :
 Calls Tryz.prog 92 #[.slice A b.length c] w fun e w'=>∃ x:MR,x.m=(readM b).1∧e = .returned (.tuple #[.agg x.cells.toArray,.int .i64 ((readM b).2:Int)])∧MOwF w' w.heap.size x∧Below w.heap.size w w':=by
 have HR:=Lib.hid h
 clear h
 obtain ⟨rr,hrr⟩:∃ rr,rr=readM b:=⟨_,rfl⟩
 rw [←hrr]
 have hV1:Vx (w.alloc (.cells #[.int .u16 0,.int .u16 0,.slice none 0 0,.slice none 0 0,.slice none 0 0,.slice none 0 0] 47)) w.heap.size 47 zM6:=Vx.new w _ _
 have hb1:=below_new w (.cells #[.int .u16 0,.int .u16 0,.slice none 0 0,.slice none 0 0,.slice none 0 0,.slice none 0 0] 47)
 by_cases h1:4096<b.length
 ·have hr1:rr=(zM,3):=by rw [hrr];simp [readM,h1]
  clear hrr
  subst hr1
  have h1':(4096:Int)<(b.length:Int):=by omega
  go_enter Tryz.func92,Tryz.ntmps92
  go_wp2_with (refine wpList_store_row rfl 47 _ _ rfl w.heap.size _ rfl rfl _ _ hV1 (by kernel_rfl) rfl (by kernel_rfl) ?_)
  refine bodyPost_ret (resMf Tryz.results92 _ _ w.heap.size _ _ _ rfl rfl (hV1.row zM6) rfl) rfl ?_
  exact ⟨zMR,rfl,rfl,zMR_owF _ _,hb1.trans ((Only.row _ _ _).below (Nat.le_refl _) (by simp))⟩
 by_cases h2:b.length<12
 ·have hr1:rr=(zM,171):=by rw [hrr];simp [readM,h1,h2]
  clear hrr
  subst hr1
  have h1':(b.length:Int)≤4096:=by omega
  have h2':(b.length:Int)<12:=by omega
  go_enter Tryz.func92,Tryz.ntmps92
  go_wp2_with (refine wpList_store_row rfl 47 _ _ rfl w.heap.size _ rfl rfl _ _ hV1 (by kernel_rfl) rfl (by kernel_rfl) ?_)
  refine bodyPost_ret (resMf Tryz.results92 _ _ w.heap.size _ _ _ rfl rfl (hV1.row zM6) rfl) rfl ?_
  exact ⟨zMR,rfl,rfl,zMR_owF _ _,hb1.trans ((Only.row _ _ _).below (Nat.le_refl _) (by simp))⟩
 have h1':(b.length:Int)≤4096:=by omega
 have h2':(12:Int)≤(b.length:Int):=by omega
 obtain ⟨L,hL⟩:∃ L,L=b.length:=⟨_,rfl⟩
 rw [←hL] at h1' h2' hc HR
 have HL:=Lib.hid hL.symm
 have hcl:L≤100000:=by omega
 have hl12:12≤L:=by omega
 have hrf:rr=if 256<hd b 2+hd b 3+hd b 4+hd b 5 then (zM,5) else readRest b (hd b 0) (hd b 1) (hd b 2) (hd b 3) (hd b 4) (hd b 5):=by
  rw [hrr,readM,if_neg h1,if_neg h2];rfl
 have HRF:=Lib.hid hrf
 rw [←hL]
 clear hrf hrr h1 h2 hbl hL
 go_enter Tryz.func92,Tryz.ntmps92
 go_upto_region 5 with fail
 have hz1:(w.alloc (.cells #[.int .u16 0,.int .u16 0,.slice none 0 0,.slice none 0 0,.slice none 0 0,.slice none 0 0] 47)).heap.size=w.heap.size+1:=by simp
 generalize w.alloc (.cells #[.int .u16 0,.int .u16 0,.slice none 0 0,.slice none 0 0,.slice none 0 0,.slice none 0 0] 47)=w1 at *
 have hz1a:w.heap.size<w1.heap.size:=by omega
 clear hz1
 go_upto_region 6 with fail
 obtain ⟨H,hH⟩:∃ H,H=w1.heap.size:=⟨_,rfl⟩
 have hV2:=hV1.alloc (.cells #[.int .u16 0,.int .u16 0,.int .u16 0,.int .u16 0,.int .u16 0,.int .u16 0] 201)
 have hH2:Vx (w1.alloc (.cells #[.int .u16 0,.int .u16 0,.int .u16 0,.int .u16 0,.int .u16 0,.int .u16 0] 201)) H 201 (hcs b 0):=by rw [hH];exact Vx.new w1 _ _
 have hb2:=hb1.trans ((below_new w1 (.cells #[.int .u16 0,.int .u16 0,.int .u16 0,.int .u16 0,.int .u16 0,.int .u16 0] 201)).mono (show w.heap.size≤w1.heap.size by omega))
 have hRH:w.heap.size<H:=by omega
 rw [←hH]
 generalize w1.alloc (.cells #[.int .u16 0,.int .u16 0,.int .u16 0,.int .u16 0,.int .u16 0,.int .u16 0] 201)=w2 at *
 clear hV1 hb1 hz1a hH
 have HV2:=Lib.hid hV2
 have HH2:=Lib.hid hH2
 have HB2:=Lib.hid hb2
 clear hV2 hH2 hb2
 go_wp2_with fail
 go_loopw [5,6] (fun vs vi wr=>∃ k:Nat,k≤6∧vi = .int .i64 k∧vs = .int .i64 (smH b k:Int)∧Hid (Vx wr w.heap.size 47 zM6)∧Hid (Vx wr H 201 (hcs b k))∧Hid (Below w.heap.size w wr)) (fun _ i _=>6 - (intOf i).toNat)
 case atStart=>exact ⟨0,by omega,rfl,rfl,HV2,HH2,HB2⟩
 case round=>
  clear HV2 HH2 HB2
  obtain ⟨k,hk,rfl,rfl,HV,HH,HB⟩:=hrel
  rcases Nat.lt_or_ge k 6 with hlt | hge
  ·obtain ⟨k2,hk2⟩:∃ k2,k2=2*k:=⟨_,rfl⟩
   have hK2:2*(k:Int)=(k2:Int):=by omega
   obtain ⟨n,hn⟩:∃ n,n=hd b k:=⟨_,rfl⟩
   have hnl:n<65536:=by rw [hn];exact hd_lt _ _
   have HT:=Lib.hid (show (n,(⟨k2+2,0⟩:St))=rNum b ⟨k2,0⟩ by rw [hk2,rNum_hd b k (by rw [HL.out];omega),hn])
   obtain ⟨v0,hv0⟩:=hcs_free b k hlt
   have hss:=hcs_set b k hlt
   have hsg:=hcs_get b k hlt
   have hsl:=smH_le b k
   rw [←hn] at hss hsg
   have HSS:=Lib.hid hss
   have HSG:=Lib.hid hsg
   have HV0:=Lib.hid hv0
   have k2a:k2≤2*k:=by omega
   have k2b:2*k≤k2:=by omega
   have hszr:=HB.out.size
   have hltH:=HH.out.lt
   have hki:(k:Int)<6:=by omega
   obtain ⟨sm,hsm⟩:∃ sm,sm=smH b k:=⟨_,rfl⟩
   rw [←hsm] at hsl
   rw [←hsm]
   have HSM:=Lib.hid hsm
   clear hk2 hss hsg hv0 hsm
   by_cases h1k:1<k
   ·have h1k':(1:Int)<(k:Int):=by omega
    have HNS:=Lib.hid (show smH b (k+1)=sm+n by rw [smH,if_pos h1k,HSM.out,hn])
    clear hn
    go_wp2_with (go_at_call 133
                 refine (fnum_at A c L b k2 (n,⟨k2+2,0⟩) HT.out wr HL.out (HR.out.goes HB.out) hc hcl (by omega)).mono ?_
                 rintro e w3 ⟨rfl,hb3⟩
                 have HH3:=Lib.hid (HH.out.below hb3 hltH)
                 have HV3:=Lib.hid (HV.out.below hb3 HV.out.lt)
                 have HB3:=Lib.hid (HB.out.trans (hb3.mono hszr))
                 have y3:w3.cell? ⟨H,k,none⟩=some v0:=by rw [HH3.out.cell];exact HV0.out
                 have f3:=HH3.out.free k
                 have y4:(w3.setCell ⟨H,k,none⟩ (.int .u16 (n:Int))).cell? ⟨H,k,none⟩=some (.int .u16 (n:Int)):=by rw [(HH3.out.set_ k (.int .u16 (n:Int))).cell,HSS.out];exact HSG.out)
    go_roundw
    case rel=>
     refine ⟨k+1,by omega,by go_num,?_,Lib.hid ?_,Lib.hid ?_,Lib.hid ?_⟩
     ·rw [HNS.out];push_cast;rfl
     ·exact HV3.out.setO (by omega) _ _
     ·rw [←HSS.out];exact HH3.out.set_ _ _
     ·exact HB3.out.setCell (by show w.heap.size≤H;omega) _
    case measure=>simp [intOf];omega
   ·have h1k':(k:Int)≤1:=by omega
    have HNS:=Lib.hid (show smH b (k+1)=sm by rw [smH,if_neg h1k,HSM.out])
    clear hn
    go_wp2_with (go_at_call 133
                 refine (fnum_at A c L b k2 (n,⟨k2+2,0⟩) HT.out wr HL.out (HR.out.goes HB.out) hc hcl (by omega)).mono ?_
                 rintro e w3 ⟨rfl,hb3⟩
                 have HH3:=Lib.hid (HH.out.below hb3 hltH)
                 have HV3:=Lib.hid (HV.out.below hb3 HV.out.lt)
                 have HB3:=Lib.hid (HB.out.trans (hb3.mono hszr))
                 have y3:w3.cell? ⟨H,k,none⟩=some v0:=by rw [HH3.out.cell];exact HV0.out
                 have f3:=HH3.out.free k)
    go_roundw
    case rel=>
     refine ⟨k+1,by omega,by go_num,?_,Lib.hid ?_,Lib.hid ?_,Lib.hid ?_⟩
     ·rw [HNS.out]
     ·exact HV3.out.setO (by omega) _ _
     ·rw [←HSS.out];exact HH3.out.set_ _ _
     ·exact HB3.out.setCell (by show w.heap.size≤H;omega) _
    case measure=>simp [intOf];omega
  ·have hke:k=6:=by omega
   subst hke
   obtain ⟨n0,e0⟩:∃ n,n=hd b 0:=⟨_,rfl⟩
   obtain ⟨n1,e1⟩:∃ n,n=hd b 1:=⟨_,rfl⟩
   obtain ⟨n2,e2⟩:∃ n,n=hd b 2:=⟨_,rfl⟩
   obtain ⟨n3,e3⟩:∃ n,n=hd b 3:=⟨_,rfl⟩
   obtain ⟨n4,e4⟩:∃ n,n=hd b 4:=⟨_,rfl⟩
   obtain ⟨n5,e5⟩:∃ n,n=hd b 5:=⟨_,rfl⟩
   have hHc:Vx wr H 201 [.int .u16 (hd b 0:Int),.int .u16 (hd b 1:Int),.int .u16 (hd b 2:Int),.int .u16 (hd b 3:Int),.int .u16 (hd b 4:Int),.int .u16 (hd b 5:Int)]:=HH.out
   have hrf:=HRF.out
   rw [←e0,←e1,←e2,←e3,←e4,←e5] at hHc hrf
   rw [smH6,←e2,←e3,←e4,←e5]
   have l0:n0<65536:=by rw [e0];exact hd_lt _ _
   have l1:n1<65536:=by rw [e1];exact hd_lt _ _
   have l2:n2<65536:=by rw [e2];exact hd_lt _ _
   have l3:n3<65536:=by rw [e3];exact hd_lt _ _
   have l4:n4<65536:=by rw [e4];exact hd_lt _ _
   have l5:n5<65536:=by rw [e5];exact hd_lt _ _
   have HHc:=Lib.hid hHc
   have hpre:Pre b b:=⟨[],by simp⟩
   have HPRE:=Lib.hid hpre
   clear hHc e0 e1 e2 e3 e4 e5 HRF HH hpre
   by_cases hsum:256<n2+n3+n4+n5
   ·have hr1:rr=(zM,5):=by rw [hrf,if_pos hsum]
    clear hrf
    subst hr1
    have hs':(256:Int)<((n2+n3+n4+n5:Nat):Int):=by omega
    go_wp2_with (refine wpList_store_row rfl 47 _ _ rfl w.heap.size _ rfl rfl _ _ HV.out (by kernel_rfl) rfl (by kernel_rfl) ?_)
    refine bodyPost_ret (resMf Tryz.results92 _ _ w.heap.size _ _ _ rfl rfl (HV.out.row zM6) rfl) rfl ?_
    exact ⟨zMR,rfl,rfl,zMR_owF _ _,HB.out.trans ((Only.row _ _ _).below (Nat.le_refl _) HB.out.size)⟩
   ·have hs':((n2+n3+n4+n5:Nat):Int)≤256:=by omega
    rw [if_neg hsum] at hrf
    have HR1:=Lib.hid hrf
    clear hrf
    obtain ⟨h0,h1,h2,h3,h4,h5⟩:=HHc.out.c6
    have hHl:=HHc.out.lt
    go_upto_region 15 with fail
    go_cut [5,6,7] from 16 to 53 (fun v5 v6 v7 wx=>∃ M,v7 = .pointer (some ⟨M,0,none⟩)∧Hid (RfM w wx H M (M+1) [.int .u16 (n0:Int),.int .u16 (n1:Int),.slice none 0 0,.slice none 0 0,.slice none 0 0,.slice none 0 0] [.int .u16 (n0:Int),.int .u16 (n1:Int),.int .u16 (n2:Int),.int .u16 (n3:Int),.int .u16 (n4:Int),.int .u16 (n5:Int)]))
    case first=>
     go_wp2_with (refine wpList_store_row rfl 47 _ _ rfl wr.heap.size _ rfl rfl _ _ (Vx.new wr _ zM6) (by kernel_rfl) rfl (by kernel_rfl) ?_)
     simp only [Act.put]
     go_meet
     refine ⟨wr.heap.size,rfl,Lib.hid ⟨(HV.out.alloc _).rowO (by have:=HV.out.lt;omega) _,(HHc.out.alloc _).rowO (by omega) _,(Vx.new wr _ zM6).row _,(HB.out.alloc HB.out.size _).trans ((Only.row _ _ _).below HB.out.size (by have:=HB.out.size;simp;omega)),⟨hRH,hHl⟩,⟨Nat.lt_succ_self _,by simp⟩⟩⟩
    case rest=>
     clear HV HHc HB h0 h1 h2 h3 h4 h5 hHl
     obtain ⟨M,rfl,HX⟩:=hcut
     obtain ⟨i0,hi,hz0,hz1,hz2⟩:=info_parts Tryz.infoQf
     obtain ⟨j0,hj',hy0,hy1,hy2⟩:=info_parts Tryz.infoRf
     go_wp2_with fail
     go_loopw [8,9,10,11] (fun v8 v9 v10 v11 wr=>∃ (k P:Nat) (l:List QR) (Aq:Option Addr) (cq:Nat),k≤n2∧v8 = .int .i64 P∧k≤cq∧Hid ((rQs b ⟨12,0⟩ k).2=⟨P,0⟩)∧Hid (RfM w wr H M (M+1) [.int .u16 (n0:Int),.int .u16 (n1:Int),.slice Aq k cq,.slice none 0 0,.slice none 0 0,.slice none 0 0] [.int .u16 (n0:Int),.int .u16 (n1:Int),.int .u16 (n2:Int),.int .u16 (n3:Int),.int .u16 (n4:Int),.int .u16 (n5:Int)])∧Hid (l.map QR.q=(rQs b ⟨12,0⟩ k).1)∧Hid (OwM wr (M+1) 40 3 (.slice Aq k cq) k (qcs l))∧Hid (Held wr (M+1) (DQ l) (.slice Aq k cq))) (fun _ _ _ _ wr=>n2 - lenAt wr M 2)
     case atStart=>exact ⟨0,12,[],none,0,Nat.zero_le _,rfl,Nat.le_refl _,Lib.hid rfl,HX,Lib.hid rfl,Lib.hid (OwM.nil _ _ _ _),Lib.hid ((Held.nil _ _ _).mono (fun o ⟨x,hx,_⟩=>by cases hx))⟩
     case round=>
      clear HX
      obtain ⟨k,P,l,Aq,cq,hk,rfl,hkc,HP,HX,HL2,HO,HH⟩:=hrel
      obtain ⟨m0,m1,m2,m3,m4,m5⟩:=HX.out.vm.c6
      obtain ⟨h0,h1,h2,h3,h4,h5⟩:=HX.out.vh.c6
      rcases Nat.lt_or_ge k n2 with hlt | hge
      ·obtain ⟨q,hq⟩:∃ q,q=rQ b ⟨P,0⟩:=⟨_,rfl⟩
       have HQ:=Lib.hid hq
       have hpl:P≤L:=by
        have:=(qs_read HPRE.out (s:=⟨12,0⟩) (fun _=>by show 12≤b.length;rw [HL.out];exact hl12) k (by rw [HP.out])).2.2.1
        rw [HP.out,HL.out] at this
        exact this
       have hhi:=HX.out.hi
       clear hq
       by_cases hq0:q.2.e=0
       ·have hq0':(q.2.e:Int)=0:=by omega
        have hq0b:((q.2.e:Int) != 0)=false:=by simp [hq0]
        have hlt':(k:Int)<(n2:Int):=by omega
        go_wp2_with (first
         | (go_at_call 134
            refine (fquestion_at A c L b P q HQ.out wr HL.out (HR.out.goes HX.out.bl) hc hcl hpl).mono ?_
            rintro e w3 ⟨An,cn,qq,hq1,hq2,rfl,hn3,hb3⟩
            obtain rfl:=hq1 hq0
            unfold QR.cells
            dsimp only)
         | (refine wpList_load_row rfl 40 _ rfl w3.heap.size rfl _ _ _ _ hV4 Tryz.underlying40 rfl (by kernel_rfl) ?_)
         | (refine wpList_store_row rfl 40 _ _ rfl w3.heap.size _ rfl rfl _ _ (Vx.new w3 _ zQ3) (by kernel_rfl) rfl (by kernel_rfl) ?_
            generalize hw4:World.setRow (w3.alloc _) _ _=w4
            obtain ⟨hb4,hV4⟩:=newrow hw4
            clear hw4
            have hb34:=hb3.trans (hb4.mono hb3.size)
            have hX4:=HX.out.far hb34
            obtain ⟨_,_,m2',_,_,_⟩:=hX4.vm.c6
            obtain ⟨_,_,m2b,_,_,_⟩:=(hX4.vm.alloc (.cells (QR.cells ⟨An,cn,q.1⟩).toArray 40)).c6)
         | (at_builtin
            refine wpList_appM _ rfl _ _ _ _ rfl (M+1) 3 40 i0 _ 32 Tryz.underlying44 hi hz0 hz1 hz2 rfl (by omega) (.slice Aq k cq) k (qcs l) ((HO.out.far hb34).alloc _) rfl 1 (QR.cells ⟨An,cn,q.1⟩) (litM_src Tryz.underlying44 _ 3 _ 1 rfl (qcells_one _)) (by omega) (by have:wr.heap.size≤w4.heap.size:=hb34.size;simp;omega) ?_
            intro v5 w5 hown5 hgr5 hsz5
            obtain ⟨A5,c5,rfl,hc5,_,_⟩:=hown5.form
            have hX5:=(hX4.far (below_new w4 (.cells (QR.cells ⟨An,cn,q.1⟩).toArray 40))).gr hgr5 (OwM.lt HO.out)
            obtain ⟨_,_,m5',_,_,_⟩:=hX5.vm.c6
            have f5':=hX5.vm.free 2))
        go_roundw
        case rel=>
         refine ⟨k+1,q.2.at_,l++[⟨An,cn,q.1⟩],A5,c5,by omega,by rw [nxS_ok hq0],hc5,Lib.hid ?_,Lib.hid ?_,Lib.hid ?_,Lib.hid ?_,Lib.hid ?_⟩
         ·show (rQ b (rQs b ⟨12,0⟩ k).2).2=_
          rw [HP.out,←HQ.out,←hq0]
         ·exact hX5.setM 2 (.slice A5 (k+1) c5)
         ·rw [List.map_append,HL2.out]
          show _=(rQs b ⟨12,0⟩ k).1++[(rQ b (rQs b ⟨12,0⟩ k).2).1]
          rw [HP.out,←HQ.out];rfl
         ·rw [qcs_snoc]
          exact OwM.setL hown5 hhi.1 _ _
         ·have h1:=(HH.out.far hb3).add (nmO An cn q.1.nm) (OwM.mono hn3 (show M+1≤wr.heap.size from hhi.2)) (ne_new HO.out hn3 (Nat.le_refl wr.heap.size))
          have h2:=(((h1.far hb4).far (below_new w4 _)).gr hgr5).setL hhi.1 2 (.slice A5 (k+1) c5)
          refine h2.mono fun o ho=>?_
          obtain ⟨x,hx,e⟩:=ho
          rcases List.mem_append.1 hx with hx | hx
          ·exact Or.inr ⟨x,hx,e⟩
          ·simp at hx
           subst hx
           exact Or.inl e
        case measure=>
         have e1:=lenAt_of m2
         have e2:=lenAt_of (A:=A5) (n:=k+1) (c:=c5) (((hX5.setM 2 (.slice A5 (k+1) c5)).vm.cell 2).trans rfl)
         rw [e1,e2];omega
       ·have hq0':¬ (q.2.e:Int)=0:=by omega
        have hq0b:((q.2.e:Int) != 0)=true:=by rw [bne_iff_ne];omega
        have hlt':(k:Int)<(n2:Int):=by omega
        have hr1:rr=(zM,q.2.e):=by
         have e1:(rQs b ⟨12,0⟩ (k+1)).2=q.2:=by
          show (rQ b (rQs b ⟨12,0⟩ k).2).2=_
          rw [HP.out,←HQ.out]
         rw [HR1.out,rest_errQ hlt (by rw [e1];exact hq0),e1]
        clear HR1
        subst hr1
        go_wp2_with (first
         | (go_at_call 134
            refine (fquestion_at A c L b P q HQ.out wr HL.out (HR.out.goes HX.out.bl) hc hcl hpl).mono ?_
            rintro e w3 ⟨An,cn,qq,hq1,hq2,rfl,hn3,hb3⟩
            unfold QR.cells
            dsimp only)
         | (refine wpList_store_row rfl 47 _ _ rfl w.heap.size _ rfl rfl _ _ hX4.vr (by kernel_rfl) rfl (by kernel_rfl) ?_)
         | (refine wpList_store_row rfl 40 _ _ rfl w3.heap.size _ rfl rfl _ _ (Vx.new w3 _ zQ3) (by kernel_rfl) rfl (by kernel_rfl) ?_
            generalize hw4:World.setRow (w3.alloc _) _ _=w4
            obtain ⟨hb4,hV4⟩:=newrow hw4
            clear hw4
            have hX4:=HX.out.far (hb3.trans (hb4.mono hb3.size))))
        refine bodyPost_ret (resMf Tryz.results92 _ _ w.heap.size _ _ _ rfl rfl (hX4.vr.row zM6) rfl) rfl ?_
        exact ⟨zMR,rfl,rfl,zMR_owF _ _,hX4.bl.trans ((Only.row _ _ _).below (Nat.le_refl _) hX4.bl.size)⟩
      ·have hkn:k=n2:=by omega
       subst hkn
       obtain ⟨S0,hS0⟩:∃ S0,S0=(rQs b ⟨12,0⟩ k).2:=⟨_,rfl⟩
       have HS0:=Lib.hid hS0
       have hSP:S0=⟨P,0⟩:=by rw [hS0];exact HP.out
       have HSP:=Lib.hid hSP
       have hpl0:P≤L:=by
        have:=(qs_read HPRE.out (s:=⟨12,0⟩) (fun _=>by show 12≤b.length;rw [HL.out];exact hl12) k (by rw [HP.out])).2.2.1
        rw [HP.out,HL.out] at this
        exact this
       clear hS0 hSP
       have hlq:l.length=k:=by
        have:=HO.out.len
        rw [qcs_length] at this
        omega
       have hD0:=HH.out.fin (rwQf Aq cq l) (show (rwQf Aq cq l).ok wr (M+1) by
        unfold Ob.ok rwQf
        rw [hlq]
        exact HO.out)
       have HLQ:=Lib.hid hlq
       have HD0:=Lib.hid hD0
       clear hlq hD0 HH
       go_wp2_with fail
       go_loopw [8,12,13,14,15] (fun v8 v12 v13 v14 v15 wr=>∃ (i P:Nat) (rs:List RW),i≤3∧v12 = .int .i64 i∧v8 = .int .i64 P∧P≤L∧rs.length=i∧Hid ((rLs b S0 [n3,n4,n5] i).2=⟨P,0⟩)∧Hid (RfM w wr H M (M+1) (mcs n0 n1 (.slice Aq k cq) rs) [.int .u16 (n0:Int),.int .u16 (n1:Int),.int .u16 (k:Int),.int .u16 (n3:Int),.int .u16 (n4:Int),.int .u16 (n5:Int)])∧Hid (rs.map (fun r=>r.l.map RR.r)=(rLs b S0 [n3,n4,n5] i).1)∧Hid (Held wr (M+1) (fun o=>(o=rwQf Aq cq l∨DQ l o)∨∃ r∈rs,o=rwRf r.A r.c r.l∨DR r.l o) (.slice none 0 0))) (fun _ i _ _ _ _=>3 - (intOf i).toNat)
       case atStart=>
        refine ⟨0,P,[],by omega,rfl,rfl,hpl0,rfl,HSP,HX,Lib.hid rfl,Lib.hid (HD0.out.mono (fun o ho=>?_))⟩
        rcases ho with ho | ⟨r,hr,_⟩
        ·exact ho
        ·cases hr
       case round=>
        clear HX HD0 h0 h1 h2 h3 h4 h5 m0 m1 m2 m3 m4 m5
        obtain ⟨i,P3,rs,hi3,rfl,rfl,hpl3,hrl,HP3,HX,HL3,HH⟩:=hrel
        rcases Nat.lt_or_ge i 3 with hlt | hge
        ·obtain ⟨cn,hcn⟩:∃ cn,cn=[n3,n4,n5].getD i 0:=⟨_,rfl⟩
         have hcl':cn≤256:=by
          rw [hcn]
          rcases (show i=0∨i=1∨i=2 by omega) with rfl | rfl | rfl <;> simp <;> omega
         have hhc:∀ W,RfM w W H M (M+1) (mcs n0 n1 (.slice Aq k cq) rs) [.int .u16 (n0:Int),.int .u16 (n1:Int),.int .u16 (k:Int),.int .u16 (n3:Int),.int .u16 (n4:Int),.int .u16 (n5:Int)]→True:=fun _ _=>trivial
         have hgc:([.int .u16 (n0:Int),.int .u16 (n1:Int),.int .u16 (k:Int),.int .u16 (n3:Int),.int .u16 (n4:Int),.int .u16 (n5:Int)]:List Value)[3+i]? = some (.int .u16 (cn:Int)):=by
          rw [hcn]
          rcases (show i=0∨i=1∨i=2 by omega) with rfl | rfl | rfl <;> rfl
         have HGC:=Lib.hid hgc
         have HCN:=Lib.hid hcn
         obtain ⟨Si,hSi⟩:∃ Si,Si=(rLs b S0 [n3,n4,n5] i).2:=⟨_,rfl⟩
         have HSi:=Lib.hid hSi
         have HSP3:=Lib.hid (show Si=⟨P3,0⟩ by rw [hSi];exact HP3.out)
         have hi3i:(i:Int)<3:=by omega
         clear hcn hgc hhc hSi
         go_wp2_with fail
         go_loopw [8,13,14,15] (fun v8 v13 v14 v15 wr=>∃ (j P:Nat) (l3:List RR) (Ar:Option Addr) (cr:Nat),j≤cn∧v8 = .int .i64 P∧P≤L∧j≤cr∧Hid ((rRs b Si j).2=⟨P,0⟩)∧Hid (RfM w wr H M (M+1) ((mcs n0 n1 (.slice Aq k cq) rs).set (3+i) (.slice Ar j cr)) [.int .u16 (n0:Int),.int .u16 (n1:Int),.int .u16 (k:Int),.int .u16 (n3:Int),.int .u16 (n4:Int),.int .u16 (n5:Int)])∧Hid (l3.map RR.r=(rRs b Si j).1)∧Hid (OwM wr (M+1) 42 9 (.slice Ar j cr) j (rcs l3))∧Hid (Held wr (M+1) (fun o=>((o=rwQf Aq cq l∨DQ l o)∨∃ r∈rs,o=rwRf r.A r.c r.l∨DR r.l o)∨DR l3 o) (.slice Ar j cr))) (fun _ _ _ _ wr=>cn - lenAt wr M (3+i))
         case atStart=>
          refine ⟨0,P3,[],none,0,Nat.zero_le _,rfl,hpl3,Nat.le_refl _,HSP3,Lib.hid ?_,Lib.hid rfl,Lib.hid (OwM.nil _ _ _ _),Lib.hid (HH.out.mono (fun o ho=>?_))⟩
          ·have:=mcs_nil n0 n1 (.slice Aq k cq) rs (by omega)
           rw [hrl] at this
           rw [this]
           exact HX.out
          ·rcases ho with ho | ⟨x,hx,_⟩
           ·exact ho
           ·cases hx
         case round=>
          clear HX HH
          obtain ⟨j,P,l3,Ar,cr,hj,rfl,hpl,hjc,HP4,HX,HL4,HO3,HH3⟩:=hrel
          have m2:wr.cell? ⟨M,3+i,none⟩=some (.slice Ar j cr):=by
           rw [HX.out.vm.cell]
           have:=mcs_get n0 n1 (.slice Aq k cq) rs (by omega) (.slice Ar j cr)
           rwa [hrl] at this
          have h2:wr.cell? ⟨H,3+i,none⟩=some (.int .u16 (cn:Int)):=by rw [HX.out.vh.cell];exact HGC.out
          have kw1:IntKind.i64.wrap (3+(i:Int))=3+(i:Int):=by rw [IntKind.wrap_i64];omega
          have kw2:(3+(i:Int)).toNat=3+i:=by omega
          have kw3:3+(i:Int)<6:=by omega
          have kw4:0≤3+(i:Int):=by omega
          have kw5:IntKind.i64.wrap (cn:Int)=(cn:Int):=by rw [IntKind.wrap_i64];omega
          have hhi:=HX.out.hi
          rcases Nat.lt_or_ge j cn with hjlt | hjge
          ·have hjlt':(j:Int)<(cn:Int):=by omega
           obtain ⟨z,hz⟩:∃ z,z=rR b ⟨P,0⟩:=⟨_,rfl⟩
           have HZ:=Lib.hid hz
           clear hz
           go_upto_region 26 with fail
           go_quiet (fail)
           have hXq:=HX.out.far (below_drewN (Below.refl _ wr) nq)
           have hdq:Below wr.heap.size wr (wr.drewN nq):=below_drewN (Below.refl _ wr) nq
           by_cases hz0:z.2.e=0
           ·have hz0':(z.2.e:Int)=0:=by omega
            have hz0b:((z.2.e:Int) != 0)=false:=by simp [hz0]
            go_upto_region 30 with (first
             | (go_at_call 135
                refine (frecord_at A c L b P z HZ.out (wr.drewN nq) HL.out (HR.out.goes hXq.bl) hc hcl hpl).mono ?_
                rintro e w3 ⟨⟨An,cnm,dA,dc,tA,tc,r⟩,hok,rfl,⟨O2,hw3⟩,hb3⟩
                obtain rfl:r=z.1:=hok.1 hz0
                unfold RR.cells
                dsimp only)
             | (refine wpList_store_row rfl 42 _ _ rfl w3.heap.size _ rfl rfl _ _ (Vx.new w3 _ zRR.cells) (by kernel_rfl) rfl (by kernel_rfl) ?_
                generalize hw4:World.setRow (w3.alloc _) _ _=w4
                obtain ⟨hb4,hV4⟩:=newrow hw4
                clear hw4
                have hb14:Below wr.heap.size wr w4:=(hdq.trans hb3).trans (hb4.mono hb3.size)
                have hX4:=HX.out.far hb14
                have m4:w4.cell? ⟨M,3+i,none⟩=some (.slice Ar j cr):=by
                 rw [hX4.vm.cell]
                 have:=mcs_get n0 n1 (.slice Aq k cq) rs (by omega) (.slice Ar j cr)
                 rwa [hrl] at this))
            have hV4d:Vx w4 w3.heap.size 42 [.slice An z.1.q.nm.length cnm,.int .u16 (z.1.q.ty:Int),.int .u16 (z.1.q.cl:Int),.int .u32 (z.1.ttl:Int),.slice dA z.1.d.length dc,.int .u16 (z.1.pr:Int),.int .u16 (z.1.we:Int),.int .u16 (z.1.po:Int),.slice tA z.1.tg.length tc]:=hV4
            obtain ⟨q0,q1,q2,q3,q4,q5,q6,q7,q8⟩:=hV4d.c9
            have hX4a:=hX4.far (below_new w4 (.cells (RR.cells ⟨An,cnm,dA,dc,tA,tc,z.1⟩).toArray 42))
            have hX4d:=hX4a.far (below_drew1 _)
            have m4e:(w4.alloc (.cells (RR.cells ⟨An,cnm,dA,dc,tA,tc,z.1⟩).toArray 42)).cell? ⟨M,3+i,none⟩=some (.slice Ar j cr):=by
             rw [hX4a.vm.cell]
             have:=mcs_get n0 n1 (.slice Aq k cq) rs (by omega) (.slice Ar j cr)
             rwa [hrl] at this
            unfold RR.cells at m4e
            dsimp only at m4e
            have hsrc:Src Tryz.prog 9 43 (.slice (some ⟨w4.heap.size,0,none⟩) 1 1) 1 (RR.cells ⟨An,cnm,dA,dc,tA,tc,z.1⟩) (w4.alloc (.cells (RR.cells ⟨An,cnm,dA,dc,tA,tc,z.1⟩).toArray 42)).drew:=by
             have h0:Rd (w4.alloc (.cells (RR.cells ⟨An,cnm,dA,dc,tA,tc,z.1⟩).toArray 42)).drew (w4.alloc (.cells (RR.cells ⟨An,cnm,dA,dc,tA,tc,z.1⟩).toArray 42)).heap.size (some ⟨w4.heap.size,0,none⟩) (1*9) (RR.cells ⟨An,cnm,dA,dc,tA,tc,z.1⟩):=Rd.lit_top0 w4 42 (RR.cells ⟨An,cnm,dA,dc,tA,tc,z.1⟩) (1*9) rfl
             exact h0.srcM Tryz.underlying43 (rcells_one _)
            have HSRC:=Lib.hid hsrc
            have hownd:=((HO3.out.far hb14).alloc (.cells (RR.cells ⟨An,cnm,dA,dc,tA,tc,z.1⟩).toArray 42)).drew
            have HOWND:=Lib.hid hownd
            clear hsrc hownd
            go_region_law (first
             | (refine step_appM rfl _ _ _ _ rfl (M+1) 9 42 j0 _ 96 Tryz.underlying43 hj' hy0 hy1 hy2 rfl (by omega) (.slice Ar j cr) j (rcs l3) HOWND.out rfl (.slice (some ⟨w4.heap.size,0,none⟩) 1 1) rfl 1 (RR.cells ⟨An,cnm,dA,dc,tA,tc,z.1⟩) HSRC.out (by omega) (by have:wr.heap.size≤w4.heap.size:=hb14.size;simp;omega) ?_
                intro v5 w5 hown5 hgr5 hsz5
                obtain ⟨A5,c5,rfl,hc5,_,_⟩:=hown5.form
                have hX5:=hX4d.gr hgr5 (OwM.lt HO3.out)
                have m5':w5.cell? ⟨M,3+i,none⟩=some (.slice Ar j cr):=by
                 rw [hX5.vm.cell]
                 have:=mcs_get n0 n1 (.slice Aq k cq) rs (by omega) (.slice Ar j cr)
                 rwa [hrl] at this
                have f5':=hX5.vm.free (3+i)))
            all_goals
             go_wp2_with fail
             go_roundw
             case rel=>
              refine ⟨j+1,z.2.at_,l3++[⟨An,cnm,dA,dc,tA,tc,z.1⟩],A5,c5,by omega,by rw [nxS_ok hz0],?_,hc5,Lib.hid (rRs_to HP4.out HZ.out hz0),Lib.hid hX5.setS,Lib.hid (rRs_map HP4.out HZ.out HL4.out rfl),Lib.hid ?_,Lib.hid (Held.recF HH3.out HO3.out hdq hb3 hw3 hb4 hhi.2 rfl _ hgr5)⟩
              ·rw [HZ.out,←HL.out]
               exact rR_le (by rw [HL.out];exact hpl) (by rw [←HZ.out];exact hz0)
              ·rw [rcs_snoc]
               exact OwM.setL hown5 hhi.1 _ _
             case measure=>
              have e1:=lenAt_of m2
              have e2:=lenAt_of (A:=A5) (n:=j+1) (c:=c5) ((hX5.setS (v:=.slice A5 (j+1) c5)).vm.cell (3+i) |>.trans (by
               have:=mcs_get n0 n1 (.slice Aq k cq) rs (by omega) (.slice A5 (j+1) c5)
               rwa [hrl] at this))
              rw [e1,e2];omega
           ·have hz0':¬ (z.2.e:Int)=0:=by omega
            have hz0b:((z.2.e:Int) != 0)=true:=by rw [bne_iff_ne];omega
            have hr1:rr=(zM,z.2.e):=by
             have e1:(rRs b (rLs b (rQs b ⟨12,0⟩ k).2 [n3,n4,n5] i).2 (j+1)).2=z.2:=by
              rw [←HS0.out,←HSi.out]
              exact rRs_err HP4.out HZ.out
             rw [HR1.out,rest_errR hlt (by rw [←HCN.out];exact hjlt) (by rw [e1];exact hz0),e1]
            clear HR1
            subst hr1
            go_wp2_with (first
             | (go_at_call 135
                refine (frecord_at A c L b P z HZ.out (wr.drewN nq) HL.out (HR.out.goes hXq.bl) hc hcl hpl).mono ?_
                rintro e w3 ⟨⟨An,cnm,dA,dc,tA,tc,r⟩,hok,rfl,⟨O2,hw3⟩,hb3⟩
                unfold RR.cells
                dsimp only)
             | (refine wpList_store_row rfl 47 _ _ rfl w.heap.size _ rfl rfl _ _ hX4.vr (by kernel_rfl) rfl (by kernel_rfl) ?_)
             | (refine wpList_store_row rfl 42 _ _ rfl w3.heap.size _ rfl rfl _ _ (Vx.new w3 _ zRR.cells) (by kernel_rfl) rfl (by kernel_rfl) ?_
                generalize hw4:World.setRow (w3.alloc _) _ _=w4
                obtain ⟨hb4,hV4⟩:=newrow hw4
                clear hw4
                have hX4:=HX.out.far ((hdq.trans hb3).trans (hb4.mono hb3.size))))
            refine bodyPost_ret (resMf Tryz.results92 _ _ w.heap.size _ _ _ rfl rfl (hX4.vr.row zM6) rfl) rfl ?_
            exact ⟨zMR,rfl,rfl,zMR_owF _ _,hX4.bl.trans ((Only.row _ _ _).below (Nat.le_refl _) hX4.bl.size)⟩
          ·have hjn:j=cn:=by omega
           subst hjn
           have hl3:l3.length=j:=by
            have:=HO3.out.len
            rw [rcs_length] at this
            omega
           have HL3L:=Lib.hid hl3
           clear hl3
           go_upto_region 26 with fail
           go_quiet (fail)
           have hdq:Below wr.heap.size wr (wr.drewN nq):=below_drewN (Below.refl _ wr) nq
           go_wp2_with fail
           go_roundw
           case rel=>
            refine ⟨i+1,P,rs++[⟨Ar,cr,l3⟩],by omega,by go_num,rfl,hpl,by simp [hrl],Lib.hid (rLs_to HSi.out HCN.out HP4.out),Lib.hid ?_,Lib.hid (rLs_map HSi.out HCN.out HL3.out HL4.out),Lib.hid ?_⟩
            ·have:=mcs_snoc n0 n1 (.slice Aq k cq) rs (by omega) ⟨Ar,cr,l3⟩
             unfold RW.v at this
             simp only at this
             rw [HL3L.out,hrl] at this
             rw [←this]
             exact HX.out.far hdq
            ·refine ((HH3.out.far hdq).fin (rwRf Ar cr l3) (show (rwRf Ar cr l3).ok (wr.drewN nq) (M+1) by
              unfold Ob.ok rwRf
              rw [HL3L.out]
              exact HO3.out.drewN nq)).mono fun o ho=>?_
             rcases ho with ho | ⟨r,hr,e⟩
             ·exact Or.inr (Or.inl (Or.inl ho))
             ·rcases List.mem_append.1 hr with hr | hr
              ·exact Or.inr (Or.inl (Or.inr ⟨r,hr,e⟩))
              ·simp at hr
               subst hr
               rcases e with e | e
               ·exact Or.inl e
               ·exact Or.inr (Or.inr e)
           case measure=>simp [intOf];omega
        ·have hi3':i=3:=by omega
         subst hi3'
         match rs,hrl with
         | [x0,x1,x2],_=>
           obtain ⟨z,hz⟩:∃ z,z=rLs b S0 [n3,n4,n5] 3:=⟨_,rfl⟩
           rw [←hz] at HP3 HL3
           have hrr2:rr=if P3<L then (zM,173) else (⟨n0,n1,(rQs b ⟨12,0⟩ k).1,z.1.getD 0 [],z.1.getD 1 [],z.1.getD 2 []⟩,0):=by
            rw [HR1.out,readRest_eq,←HS0.out,←hz]
            dsimp only
            rw [HP3.out,HL.out]
            by_cases h:P3<L <;> simp [h]
           have HRR:=Lib.hid hrr2
           clear hrr2 HR1 hz
           have hMO:∀ W,Only wr W w.heap.size→MOwF W w.heap.size ⟨n0,n1,Aq,cq,l,x0.A,x0.c,x0.l,x1.A,x1.c,x1.l,x2.A,x2.c,x2.l⟩:=by
            intro W hW
            have hB:w.heap.size<M+1:=by have:=HX.out.lo;omega
            have h1:=HH.out.only hW hB
            have hm:∀ o,((o=rwQf Aq cq l∨DQ l o)∨∃ r∈[x0,x1,x2],o=rwRf r.A r.c r.l∨DR r.l o)→o.ok W w.heap.size:=fun o ho=>OwM.mono (h1.dn o ho) (by omega)
            exact ⟨hm _ (Or.inl (Or.inl rfl)),hm _ (Or.inr ⟨x0,by simp,Or.inl rfl⟩),hm _ (Or.inr ⟨x1,by simp,Or.inl rfl⟩),hm _ (Or.inr ⟨x2,by simp,Or.inl rfl⟩),fun o ho=>hm _ (Or.inl (Or.inr ho)),fun o ho=>hm _ (Or.inr ⟨x0,by simp,Or.inr ho⟩),fun o ho=>hm _ (Or.inr ⟨x1,by simp,Or.inr ho⟩),fun o ho=>hm _ (Or.inr ⟨x2,by simp,Or.inr ho⟩)⟩
           have HMO:=Lib.hid hMO
           clear hMO
           by_cases hAt:P3<L
           ·have hr1:rr=(zM,173):=by rw [HRR.out,if_pos hAt]
            clear HRR
            subst hr1
            have ha4:(P3:Int)<(L:Int):=by omega
            go_wp2_with (refine wpList_store_row rfl 47 _ _ rfl w.heap.size _ rfl rfl _ _ HX.out.vr (by kernel_rfl) rfl (by kernel_rfl) ?_)
            refine bodyPost_ret (resMf Tryz.results92 _ _ w.heap.size _ _ _ rfl rfl (HX.out.vr.row zM6) rfl) rfl ?_
            exact ⟨zMR,rfl,rfl,zMR_owF _ _,HX.out.bl.trans ((Only.row _ _ _).below (Nat.le_refl _) HX.out.bl.size)⟩
           ·have hr1:rr=(⟨n0,n1,(rQs b ⟨12,0⟩ k).1,z.1.getD 0 [],z.1.getD 1 [],z.1.getD 2 []⟩,0):=by rw [HRR.out,if_neg hAt]
            clear HRR
            subst hr1
            have ha4:(L:Int)≤(P3:Int):=by omega
            go_wp2_with (first
             | (refine wpList_store_row rfl 47 _ _ rfl w.heap.size _ rfl rfl _ _ HX.out.vr (by kernel_rfl) rfl (by kernel_rfl) ?_)
             | (refine wpList_load_row rfl 47 _ rfl M rfl _ _ _ _ HX.out.vm Tryz.underlying47 rfl (by kernel_rfl) ?_))
            refine bodyPost_ret (resMf Tryz.results92 _ _ w.heap.size _ _ _ rfl rfl (HX.out.vr.row _) rfl) rfl ?_
            have hcs:mcs n0 n1 (.slice Aq k cq) [x0,x1,x2]=MR.cells ⟨n0,n1,Aq,cq,l,x0.A,x0.c,x0.l,x1.A,x1.c,x1.l,x2.A,x2.c,x2.l⟩:=by
             unfold MR.cells
             simp only
             rw [HLQ.out];rfl
            refine ⟨⟨n0,n1,Aq,cq,l,x0.A,x0.c,x0.l,x1.A,x1.c,x1.l,x2.A,x2.c,x2.l⟩,?_,by rw [hcs];rfl,HMO.out _ (Only.row _ _ _),HX.out.bl.trans ((Only.row _ _ _).below (Nat.le_refl _) (by have:=HX.out.bl.size;omega))⟩
            have hq:=HL2.out
            have hz:=HL3.out
            rw [←hz]
            show (⟨n0,n1,l.map QR.q,x0.l.map RR.r,x1.l.map RR.r,x2.l.map RR.r⟩:Ms)=_
            rw [hq];rfl
open Go.RowKit
theorem size_mem {n:List (List UInt8)} {k:Nat} (h:sizeN n≤k):∀ x∈n,x.length≤k:=by
 induction n with
 | nil=>intro x hx;cases hx
 | cons a n ih=>
   simp only [sizeN] at h
   intro x hx
   rcases List.mem_cons.1 hx with rfl | hx
   ·omega
   ·exact ih (by omega) x hx
set_option maxRecDepth 100000 in
set_option maxHeartbeats 400000 in
theorem names_at (A1 A2:Option Addr) (c1 c2 L1 L2:Nat) (a b:List (List UInt8)) (w:World) (B:Nat) (hL1:a.length=L1) (hL2:b.length=L2) (h1:NRd w B A1 c1 a) (h2:NRd w B A2 c2 b) :
 Calls Tryz.prog 137 #[.slice A1 L1 c1,.slice A2 L2 c2] w fun e w'=>e = .returned (.bool (decide (a=b)))∧∃ q,w'=w.drewN q:=by
 subst hL1 hL2
 have hc:=rcmp_any A1 A2 c1 c2 a b w B h1.1 h2.1 (Nat.le_trans (len_le_size a) h1.2.2) (Nat.le_trans (len_le_size b) h2.2.2) (size_mem h1.2.2) (size_mem h2.2.2)
 have hb:decide (a=b)=(cmpN a b == 0):=by
  rw [Bool.eq_iff_iff];simp [cmpN_eq]
 rw [hb]
 have HC:=Lib.hid hc
 clear hc hb h1 h2
 go_enter Tryz.func137,Tryz.ntmps137
 go_wp2_with (go_at_call 94;refine HC.out.mono ?_;rintro e w1 ⟨rfl,q,rfl⟩)
 go_ret
 exact ⟨rfl,q,rfl⟩
open Go.RowKit
structure Tf (w0 w:World) (R M base:Nat) (bx mc:List Value):Prop where
 vb:Vx w w0.heap.size 72 bx
 vr:Vx w R 47 zM6
 vm:Vx w M 47 mc
 bl:Below w0.heap.size w0 w
 lo:w0.heap.size<R∧R<M
 hi:M<base∧base≤w.heap.size
section
variable {w0 w w':World} {R M base:Nat} {bx mc:List Value}
end
theorem take_map_snoc {α β:Type} (f:α→β) (l:List α) (k:Nat) (h:k<l.length):(l.take (k+1)).map f=(l.take k).map f++[f l[k]]:=by
 rw [List.take_add_one,List.map_append,List.getElem?_eq_getElem h];rfl
def Cpy (x:MR):Prop:=(∀ q∈x.qs,q.q.nm.length*16≤140737488351232)∧∀ i,∀ r∈x.rl i,r.r.q.nm.length*16≤140737488351232∧r.r.tg.length*16≤140737488351232
open Go.RowKit
structure Spo (B:Nat) (w w':World):Prop where
 bl:Below B w w'
 st:∀ (g:Nat) (cs:Array Value),w.heap[g]? = some (Obj.cells cs 9 (0,0))→∃ cs':Array Value,w'.heap[g]? = some (Obj.cells cs' 9 (0,0))∧cs'.size=cs.size
 by_:∀ (g:Nat) (cs:Array Value),w.heap[g]? = some (Obj.cells cs 5 (0,0))→∃ cs':Array Value,w'.heap[g]? = some (Obj.cells cs' 5 (0,0))∧∀ k:Nat,(∃ z:Nat,z<256∧cs[k]? = some (.int .u8 (z:Int)))→(∃ z:Nat,z<256∧cs'[k]? = some (.int .u8 (z:Int)))
 ot:∀ (g:Nat) (cs:Array Value) (e:TypeId),e≠9→e≠5→w.heap[g]? = some (Obj.cells cs e (0,0))→w'.heap[g]? = some (Obj.cells cs e (0,0))
def TS (w:World) (B:Nat) (A:Option Addr) (n:Nat):Prop:=0<n→∃ (g:Nat) (cs:Array Value),A=some ⟨g,0,none⟩∧B≤g∧w.heap[g]? = some (Obj.cells cs 9 (0,0))∧n≤cs.size
def TU (w:World) (B:Nat) (A:Option Addr) (n:Nat):Prop:=0<n→∃ (g:Nat) (cs:Array Value),A=some ⟨g,0,none⟩∧B≤g∧w.heap[g]? = some (Obj.cells cs 5 (0,0))∧∀ k,k<n→∃ z:Nat,z<256∧cs[k]? = some (.int .u8 (z:Int))
end Go.Proofs.YtlipmlbijddopaaGreatDoor
